/- Texts of the proof: HE2. -/
import Derived.Test.YtjllngcefoohpaaGreatPartK

/-! Orders of which there is no algebra: both programs say so. -/
namespace Go.Proofs.YtjllngcefoohpaaGreat
open Go.RowKit Go.Abs

theorem inv_relN {xs : List Int} (h30 : xs.length ≤ 30) (hr : RelOK xs.length xs) : RelOK xs.length (invA xs xs.length) ∧ ∀ j : Nat, j < xs.length → ∀ k, tb ((invA xs xs.length).getD j 0) k = true ↔ k < xs.length ∧ tb (xs.getD k 0) j = true := invA_ok hr h30 _ (Nat.le_refl _)
theorem hyM_rngN {xs : List Int} {x y : Nat} (h : 0 ≤ hyM xs x y) : 0 ≤ hyM xs x y ∧ hyM xs x y < (xs.length : Int) := by
  have h1 := lowF_rng (invA xs xs.length) (band ((invA xs xs.length).getD x 0) ((invA xs xs.length).getD y 0))
  rw [invA_len] at h1
  exact ⟨h, h1.2⟩
theorem hyC_inN {xs : List Int} (h30 : xs.length ≤ 30) (x y : Nat) {z : Nat} (hz : z ≤ xs.length) : InM xs.length (hyC xs x y z) := (mkB_ok _ (by omega) z hz).1
theorem hyC_yesN {xs : List Int} (h30 : xs.length ≤ 30) (hr : RelOK xs.length xs) {x y z : Nat} {a : Int} (hm : 0 ≤ hyM xs z x) (hy : y < xs.length) (ha : a = hyM xs z x) (hb : band (shr64 ((invA xs xs.length).getD y 0) a) 1 = 1) : bor (hyC xs x y z) (shl64 1 (z : Int)) = hyC xs x y (z + 1) := by
  have h1 := hyM_rngN hm
  have h2 := (inv_relN h30 hr).1.2 y hy
  rw [hyC, hyC]
  refine mkB_yes (P := fun z => tb ((invA xs xs.length).getD y 0) (hyM xs z x).toNat) ?_
  have h3 := has_tb (n := xs.length) (i := (hyM xs z x).toNat) (by omega) h2 (by omega)
  rw [show (((hyM xs z x).toNat : Nat) : Int) = hyM xs z x by omega] at h3
  rw [ha] at hb
  exact h3.1 hb
theorem hyC_noN {xs : List Int} (h30 : xs.length ≤ 30) (hr : RelOK xs.length xs) {x y z : Nat} {a : Int} (hm : 0 ≤ hyM xs z x) (hy : y < xs.length) (ha : a = hyM xs z x) (hb : ¬ band (shr64 ((invA xs xs.length).getD y 0) a) 1 = 1) : hyC xs x y z = hyC xs x y (z + 1) := by
  have h1 := hyM_rngN hm
  have h2 := (inv_relN h30 hr).1.2 y hy
  rw [hyC, hyC]
  refine mkB_no (P := fun z => tb ((invA xs xs.length).getD y 0) (hyM xs z x).toNat) ?_
  have h3 := has_tb (n := xs.length) (i := (hyM xs z x).toNat) (by omega) h2 (by omega)
  rw [show (((hyM xs z x).toNat : Nat) : Int) = hyM xs z x by omega] at h3
  rw [ha] at hb
  cases e : tb ((invA xs xs.length).getD y 0) (hyM xs z x).toNat with
  | false => rfl
  | true => exact absurd (h3.2 e) hb
theorem spec_bitN {xs : List Int} (hn : xs.length ≤ 30) (hr : RelOK xs.length xs) {y : Nat} {a : Int} (hy : y < xs.length) (h0 : 0 ≤ a) (h1 : a < (xs.length : Int)) : band (shr64 (xs.getD a.toNat 0) (y : Int)) 1 = 1 ↔ band (shr64 ((invA xs xs.length).getD y 0) a) 1 = 1 := by
  have hi := inv_relN hn hr
  have k1 := has_tb (n := xs.length) (i := y) (by omega) (hr.2 a.toNat (by omega)) (by omega)
  have k2 := has_tb (n := xs.length) (i := a.toNat) (by omega) (hi.1.2 y hy) (by omega)
  rw [show ((a.toNat : Nat) : Int) = a by omega] at k2
  rw [k1, k2, hi.2 y hy]
  exact ⟨fun e => ⟨by omega, e⟩, fun e => e.2⟩
theorem lowB_to {bl : List Int} {m : Int} (h : lowB bl m = true) : 0 ≤ lowF bl m := of_decide_eq_true h
def MJ (xs : List Int) (x q : Nat) : Prop := 0 ≤ hyM xs x q ∧ 0 ≤ hyJ xs x q
theorem mj_step {xs : List Int} {x y : Nat} (h : ∀ q : Nat, q < y → MJ xs x q) (h1 : 0 ≤ hyM xs x y) (h2 : 0 ≤ hyJ xs x y) : ∀ q : Nat, q < y + 1 → MJ xs x q := fun q hq => by
  by_cases e : q = y
  · subst e; exact ⟨h1, h2⟩
  · exact h q (by omega)
theorem rw_step {P : Nat → Nat → Prop} {N x y : Nat} (h : ∀ p : Nat, p < x → ∀ q : Nat, q < N → P p q) (h1 : ∀ q : Nat, q < y → P x q) (hy : y = N) : ∀ p : Nat, p < x + 1 → ∀ q : Nat, q < N → P p q := fun p hp q hq => by
  by_cases e : p = x
  · subst e; exact h1 q (by omega)
  · exact h p (by omega) q hq
theorem hyN_end {xs : List Int} (hN : hyB xs = false) (h0 : 0 < xs.length) (hp : paB xs.length xs = true) (h1 : ∀ p : Nat, p < xs.length → ∀ q : Nat, q < xs.length → MJ xs p q) (h2 : ∀ p : Nat, p < xs.length → ∀ q : Nat, q < xs.length → 0 ≤ hyI xs p q) : False := by
  have : hyB xs = true := hyB_parts.2 ⟨h0, hp, fun x hx y hy => ⟨(h1 x hx y hy).1, (h1 x hx y hy).2, h2 x hx y hy⟩⟩
  rw [hN] at this; cases this
theorem paB_of {xs : List Int} (h1 : rB (xs.length : Int).toNat xs = true) (h2 : tB (xs.length : Int).toNat xs = true) (h3 : aB (xs.length : Int).toNat xs = true) : paB xs.length xs = true := by
  rw [Int.toNat_natCast] at h1 h2 h3
  rw [paB, h1, h2, h3]; rfl

set_option maxHeartbeats 2000000 in
theorem heytingNE_c (xs : List Int) (h30 : xs.length ≤ 30) (hR : RelOK xs.length xs) (hN : hyB xs = false) : CallE Tryz.prog 134 [LI xs] (fun (b : Nat) (r : AV) => r = .tup [.agg [.nil, .nil, .nil, AI 0, AI 0], .bool false]) := by
 have hil := invA_len xs xs.length
 have hir := (inv_relN h30 hR).1
 have hxi := fun (i : Nat) (hi : i < xs.length) => hR.2 i hi
 have hbi := fun (i : Nat) (hi : i < xs.length) => hir.2 i hi
 have hrl : okRl (xs.length : Int) xs := okRl_of h30 hR
 have hfl : InM xs.length (fullM xs.length) := inM_full (by omega)
 have hsh : 1 ≤ shl64 1 (xs.length : Int) ∧ shl64 1 (xs.length : Int) ≤ 4611686018427387904 := shl_rng _ (by omega) (by omega)
 refine CallE.of Tryz.func134 rfl (by kernel_rfl) (fun b => ?_)
 refine R.go 8 (k15 true (size_c xs) rfl ?_)
 refine R.go 5 (k15 true (frameOf2_c xs) rfl ?_)
 refine R.go 9 ?_
 by_cases c1 : (xs.length : Int) = 0
 ·refine k6 (decide ((xs.length : Int) = 0)) false (dT c1) ?_
  refine k6 (decide ((xs.length : Int) = 0)) false (dT c1) ?_
  refine k6 (decide ((xs.length : Int) = 0)) false (dT c1) ?_
  refine k7 (decide ((xs.length : Int) = 0)) true (dT c1) ?_
  exact R.go 18 (k28 (.tup [.agg [.nil, .nil, .nil, AI 0, AI 0], .bool false]) (rfl))
 ·refine k5 (decide ((xs.length : Int) = 0)) false (dF c1) ?_
  refine R.go 1 (k5 (decide ((xs.length : Int) = 0)) false (dF c1) ?_)
  refine k15 true (hasFlagR2_c (xs.length : Int) xs hrl) rfl ?_
  refine k5 (decide ((xs.length : Int) = 0)) false (dF c1) ?_
  refine R.go 1 (k7 (decide ((xs.length : Int) = 0)) false (dF c1) ?_)
  refine R.go 1 ?_
  refine (Bool.eq_false_or_eq_true (rB (xs.length : Int).toNat xs)).elim (fun c2 => ?_) (fun c2 => ?_)
  ·refine k5 (!(rB (xs.length : Int).toNat xs)) false (bnF c2) ?_
   refine R.go 1 (k5 (!(rB (xs.length : Int).toNat xs)) false (bnF c2) ?_)
   refine k15 true (hasFlagT2_c (xs.length : Int) xs hrl) rfl ?_
   refine k5 (!(rB (xs.length : Int).toNat xs)) false (bnF c2) ?_
   refine R.go 1 (k7 (!(rB (xs.length : Int).toNat xs)) false (bnF c2) ?_)
   refine R.go 1 ?_
   refine (Bool.eq_false_or_eq_true (tB (xs.length : Int).toNat xs)).elim (fun c3 => ?_) (fun c3 => ?_)
   ·refine k5 (!(tB (xs.length : Int).toNat xs)) false (bnF c3) ?_
    refine R.go 1 (k5 (!(tB (xs.length : Int).toNat xs)) false (bnF c3) ?_)
    refine k15 true (hasFlagA2_c (xs.length : Int) xs hrl) rfl ?_
    refine k5 (!(tB (xs.length : Int).toNat xs)) false (bnF c3) ?_
    refine R.go 1 (k7 (!(tB (xs.length : Int).toNat xs)) false (bnF c3) ?_)
    refine R.go 1 (k20 (aB (xs.length : Int).toNat xs) (fun c4 => ?_) (fun c4 => ?_))
    ·exact R.go 6 (k28 (.tup [.agg [.nil, .nil, .nil, AI 0, AI 0], .bool false]) (rfl))
    ·refine R.go 4 (k15 true (inverse2G_c (xs.length : Int) xs (invA xs xs.length) hrl (by first | rfl | assumption)) rfl ?_)
     refine R.go 13 (R.nilB 4 0 30 1 (by kernel_rfl) ?_)
     refine R.nilB 4 1 30 1 (by kernel_rfl) ?_
     refine k16 ((fun | (x, LA, LO) => (⟨(frm 184 [(0, LI xs), (2, .ptr 1 0), (4, AI xs.length), (6, .ref 2), (7, .ptr 3 0), (45, AI xs.length), (46, AI (x : Int))]), [.inert (.base b), .box 26 [.nil, .nil, .nil, AI 0, AI 0], rowA eI 2 1 (invA xs xs.length), .box 26 [.ref 4, .ref 5, .nil, AI 0, AI 0], rowA (eV eI 2 1) 30 1 LA, rowA (eV eI 2 1) 30 1 LO]⟩ : St) : Nat × (List (Value × List Int)) × (List (Value × List Int)) → St)) (fun | (x, LA, LO) => (x ≤ xs.length) ∧ (NL b LA) ∧ (NL b LO) ∧ (NX LA LO) ∧ (LA.map Prod.snd = tabR (hyM xs) xs.length x) ∧ (LO.map Prod.snd = tabR (hyJ xs) xs.length x) ∧ (∀ p : Nat, p < x → ∀ q : Nat, q < xs.length → MJ xs p q)) (fun | (x, LA, LO) => xs.length - x) (0, [], []) [0, 2, 4, 6, 7, 45, 46] (some [0, 1, 3, 4, 5, 6]) ⟨(by omega), (by exact NL.nil), (by exact NL.nil), (by exact NX.nil), (by rfl), (by rfl), (by exact fun p hp => absurd hp (by omega))⟩ ?_
     rintro ⟨x, LA, LO⟩ ⟨h8_1, h8_2, h8_3, h8_4, h8_5, h8_6, h8_7⟩ R5 N6
     have hla := tabV_len ‹LA.map Prod.snd = _›
     have hlo := tabV_len ‹LO.map Prod.snd = _›
     refine R.go 5 (k3 ((x : Int) < (xs.length : Int)) (fun c9 => ?_) (fun c9 => ?_))
     ·refine R.go 9 (R.meetJ (⟨(frm 184 [(0, LI xs), (2, .ptr 1 0), (4, AI xs.length), (6, .ref 2), (7, .ptr 3 0), (8, AI (x : Int)), (9, .ref 6), (10, .ref 7), (45, AI xs.length), (46, AI (x : Int)), (47, .bool (decide ((x : Int) < (xs.length : Int)))), (48, AI (x : Int)), (49, AI xs.length), (50, .ref 6), (51, AI xs.length), (52, .ref 7)]), [.inert (.base b), .box 26 [.nil, .nil, .nil, AI 0, AI 0], rowA eI 2 1 (invA xs xs.length), .box 26 [.ref 4, .ref 5, .nil, AI 0, AI 0], rowA (eV eI 2 1) 30 1 LA, rowA (eV eI 2 1) 30 1 LO, rowA eI 2 1 (List.replicate xs.length 0), rowA eI 2 1 (List.replicate xs.length 0)]⟩ : St) (by kernel_rfl) ?_ ?_)
      ·refine R.any (by decide +kernel) (by kernel_rfl) ?_
       refine k25 0 (np_meetJ _) ?_
       refine k25 2 (np_meetJ _) ?_
       refine k23 1 3 ?_ ?_
       ·refine k14 eI 0 2 8 xs.length xs.length rfl ?_
        refine R.go 1 (k23 3 4 ?_ ?_)
        ·refine k14 eI 0 2 8 xs.length xs.length rfl ?_
         refine R.go 1 (k22 4 ?_)
         refine R.go 2 (k22 5 ?_)
         refine R.go 2 (k21 ?_)
         exact R.metJ [0, 1, 2, 3, 4, 5, 6, 7] (by kernel_rfl) (by kernel_rfl) (by kernel_rfl)
        ·refine R.go 2 (k22 3 ?_)
         refine k14 eI 0 2 8 xs.length xs.length rfl ?_
         refine R.go 1 (k22 5 ?_)
         refine R.go 2 (k21 ?_)
         exact R.metJ [0, 1, 2, 3, 4, 5, 6, 7] (by kernel_rfl) (by kernel_rfl) (by kernel_rfl)
       ·refine k14 eI 0 2 8 xs.length xs.length rfl ?_
        refine R.go 1 (k22 1 ?_)
        refine k14 eI 0 2 8 xs.length xs.length rfl ?_
        refine R.go 1 (k22 4 ?_)
        refine R.go 2 (k22 5 ?_)
        refine R.go 2 (k21 ?_)
        exact R.metJ [0, 1, 2, 3, 4, 5, 7, 6] (by kernel_rfl) (by kernel_rfl) (by kernel_rfl)
      ·refine R.go 7 (k16 ((fun | (y, A, O) => (⟨(frm 184 [(0, LI xs), (2, .ptr 1 0), (4, AI xs.length), (6, .ref 2), (7, .ptr 3 0), (8, AI (x : Int)), (9, .ref 6), (10, .ref 7), (45, AI xs.length), (46, AI (x : Int)), (53, AI xs.length), (54, AI (y : Int))]), [.inert (.base b), .box 26 [.nil, .nil, .nil, AI 0, AI 0], rowA eI 2 1 (invA xs xs.length), .box 26 [.ref 4, .ref 5, .nil, AI 0, AI 0], rowA (eV eI 2 1) 30 1 LA, rowA (eV eI 2 1) 30 1 LO, rowA eI 2 1 A, rowA eI 2 1 O]⟩ : St) : Nat × (List Int) × (List Int) → St)) (fun | (y, A, O) => (y ≤ xs.length) ∧ (∀ q : Nat, q < y → MJ xs x q) ∧ (A = rowT (hyM xs x) xs.length y) ∧ (O = rowT (hyJ xs x) xs.length y)) (fun | (y, A, O) => xs.length - y) (0, (List.replicate xs.length 0), (List.replicate xs.length 0)) [0, 2, 4, 6, 7, 8, 9, 10, 45, 46, 53, 54] none ⟨(by omega), (by exact fun p hp => absurd hp (by omega)), (by exact rowT_zero), (by exact rowT_zero)⟩ ?_)
       rintro ⟨y, A, O⟩ ⟨h13_1, h13_2, rfl, rfl⟩ R10 N11
       have hAl := rowT_len (hyM xs x) xs.length y
       have hOl := rowT_len (hyJ xs x) xs.length y
       refine R.go 5 (k3 ((y : Int) < (xs.length : Int)) (fun c14 => ?_) (fun c14 => ?_))
       ·refine R.go 14 ?_
        have hbx := hbi x (by omega)
        have hby := hbi y (by omega)
        have hmm := inM_band (n := xs.length) (by omega) hbx hby
        have hxx := hxi x (by omega)
        have hxy := hxi y (by omega)
        have hjj := inM_band (n := xs.length) (by omega) hxx hxy
        have hmm' : InM (invA xs xs.length).length (band ((invA xs xs.length).getD x 0) ((invA xs xs.length).getD y 0)) := by rw [hil]; exact hmm
        refine R.meet (⟨(frm 184 [(0, LI xs), (2, .ptr 1 0), (4, AI xs.length), (6, .ref 2), (7, .ptr 3 0), (8, AI (x : Int)), (9, .ref 6), (10, .ref 7), (11, AI (y : Int)), (12, .bool (lowB (invA xs xs.length) (band ((invA xs xs.length).getD x 0) ((invA xs xs.length).getD y 0)))), (13, .bool false), (45, AI xs.length), (46, AI (x : Int)), (53, AI xs.length), (54, AI (y : Int)), (55, .bool (decide ((y : Int) < (xs.length : Int)))), (56, AI (y : Int)), (57, .tup [AI (lowV (invA xs xs.length) (band ((invA xs xs.length).getD x 0) ((invA xs xs.length).getD y 0))), .bool (lowB (invA xs xs.length) (band ((invA xs xs.length).getD x 0) ((invA xs xs.length).getD y 0)))]), (58, .ref 6), (59, AI (y : Int)), (60, .ref 2), (61, AI (x : Int)), (62, .ptr 2 (x * 1)), (63, AI ((invA xs xs.length).getD x 0)), (64, .ref 2), (65, AI (y : Int)), (66, .ptr 2 (y * 1)), (67, AI ((invA xs xs.length).getD y 0)), (68, AI (band ((invA xs xs.length).getD x 0) ((invA xs xs.length).getD y 0))), (69, .ref 2), (70, .tup [AI (lowV (invA xs xs.length) (band ((invA xs xs.length).getD x 0) ((invA xs xs.length).getD y 0))), .bool (lowB (invA xs xs.length) (band ((invA xs xs.length).getD x 0) ((invA xs xs.length).getD y 0)))]), (71, AI (lowV (invA xs xs.length) (band ((invA xs xs.length).getD x 0) ((invA xs xs.length).getD y 0)))), (72, .bool (lowB (invA xs xs.length) (band ((invA xs xs.length).getD x 0) ((invA xs xs.length).getD y 0)))), (73, .ptr 6 (y * 1))]), [.inert (.base b), .box 26 [.nil, .nil, .nil, AI 0, AI 0], rowA eI 2 1 (invA xs xs.length), .box 26 [.ref 4, .ref 5, .nil, AI 0, AI 0], rowA (eV eI 2 1) 30 1 LA, rowA (eV eI 2 1) 30 1 LO, rowA eI 2 1 ((rowT (hyM xs x) xs.length y).set y (lowV (invA xs xs.length) (band ((invA xs xs.length).getD x 0) ((invA xs xs.length).getD y 0)))), rowA eI 2 1 (rowT (hyJ xs x) xs.length y)]⟩ : St) (by kernel_rfl) ?_ ?_
        ·refine R.any (by decide +kernel) (by kernel_rfl) ?_
         refine k25 0 (np_meet _) ?_
         refine k25 1 (np_meet _) ?_
         refine k25 2 (np_meet _) ?_
         refine k25 3 (np_meet _) ?_
         refine k25 6 (np_meet _) ?_
         refine k25 7 (np_meet _) ?_
         refine k25 11 (np_meet _) ?_
         refine k34 4 2 1 (invA xs xs.length).length x (x : Int) (np_meet _) ?_ (hji := rfl)
         refine k34 8 2 1 (invA xs xs.length).length y (y : Int) (np_meet _) ?_ (hji := rfl)
         refine k23 5 9 ?_ ?_
         ·refine k11 (invA xs xs.length) x ?_
          refine R.go 1 (k22 9 ?_)
          refine k11 (invA xs xs.length) y ?_
          refine R.go 1 (k22 10 ?_)
          refine R.go 2 (k22 12 ?_)
          refine k15 false (greatest_c (band ((invA xs xs.length).getD x 0) ((invA xs xs.length).getD y 0)) (invA xs xs.length) (by first | omega | (simp <;> omega)) (by assumption)) (by simp [AV.closed, closedL, AI]) ?_
          refine R.go 1 (k25 13 (np_meet _) ?_)
          refine R.anyX 14 (AI (lowV (invA xs xs.length) (band ((invA xs xs.length).getD x 0) ((invA xs xs.length).getD y 0)))) (by kernel_rfl) (np_meet _) ?_
          refine R.anyX 15 (.bool (lowB (invA xs xs.length) (band ((invA xs xs.length).getD x 0) ((invA xs xs.length).getD y 0)))) (by kernel_rfl) (np_meet _) ?_
          refine k34 16 6 1 (rowT (hyM xs x) xs.length y).length y (y : Int) (np_meet _) ?_ (hji := rfl)
          refine k22 17 ?_
          refine k12 6 2 (rowT (hyM xs x) xs.length y) y (lowV (invA xs xs.length) (band ((invA xs xs.length).getD x 0) ((invA xs xs.length).getD y 0))) ?_
          refine R.go 1 (k22 18 ?_)
          refine R.go 2 (k21 ?_)
          exact k26
         ·refine k11 (invA xs xs.length) y ?_
          refine R.go 1 (k22 5 ?_)
          refine k11 (invA xs xs.length) x ?_
          refine R.go 1 (k22 10 ?_)
          refine R.go 2 (k22 12 ?_)
          refine k15 false (greatest_c (band ((invA xs xs.length).getD x 0) ((invA xs xs.length).getD y 0)) (invA xs xs.length) (by first | omega | (simp <;> omega)) (by assumption)) (by simp [AV.closed, closedL, AI]) ?_
          refine R.go 1 (k25 13 (np_meet _) ?_)
          refine R.anyX 14 (AI (lowV (invA xs xs.length) (band ((invA xs xs.length).getD x 0) ((invA xs xs.length).getD y 0)))) (by kernel_rfl) (np_meet _) ?_
          refine R.anyX 15 (.bool (lowB (invA xs xs.length) (band ((invA xs xs.length).getD x 0) ((invA xs xs.length).getD y 0)))) (by kernel_rfl) (np_meet _) ?_
          refine k34 16 6 1 (rowT (hyM xs x) xs.length y).length y (y : Int) (np_meet _) ?_ (hji := rfl)
          refine k22 17 ?_
          refine k12 6 2 (rowT (hyM xs x) xs.length y) y (lowV (invA xs xs.length) (band ((invA xs xs.length).getD x 0) ((invA xs xs.length).getD y 0))) ?_
          refine R.go 1 (k22 18 ?_)
          refine R.go 2 (k21 ?_)
          exact k26
        ·refine R.go 1 (R.meet (⟨(frm 184 [(0, LI xs), (2, .ptr 1 0), (4, AI xs.length), (6, .ref 2), (7, .ptr 3 0), (8, AI (x : Int)), (9, .ref 6), (10, .ref 7), (11, AI (y : Int)), (12, .bool (lowB (invA xs xs.length) (band ((invA xs xs.length).getD x 0) ((invA xs xs.length).getD y 0)))), (13, .bool (lowB xs (band (xs.getD x 0) (xs.getD y 0)))), (45, AI xs.length), (46, AI (x : Int)), (53, AI xs.length), (54, AI (y : Int)), (55, .bool (decide ((y : Int) < (xs.length : Int)))), (56, AI (y : Int)), (57, .tup [AI (lowV (invA xs xs.length) (band ((invA xs xs.length).getD x 0) ((invA xs xs.length).getD y 0))), .bool (lowB (invA xs xs.length) (band ((invA xs xs.length).getD x 0) ((invA xs xs.length).getD y 0)))]), (58, .ref 6), (59, AI (y : Int)), (60, .ref 2), (61, AI (x : Int)), (62, .ptr 2 (x * 1)), (63, AI ((invA xs xs.length).getD x 0)), (64, .ref 2), (65, AI (y : Int)), (66, .ptr 2 (y * 1)), (67, AI ((invA xs xs.length).getD y 0)), (68, AI (band ((invA xs xs.length).getD x 0) ((invA xs xs.length).getD y 0))), (69, .ref 2), (70, .tup [AI (lowV (invA xs xs.length) (band ((invA xs xs.length).getD x 0) ((invA xs xs.length).getD y 0))), .bool (lowB (invA xs xs.length) (band ((invA xs xs.length).getD x 0) ((invA xs xs.length).getD y 0)))]), (71, AI (lowV (invA xs xs.length) (band ((invA xs xs.length).getD x 0) ((invA xs xs.length).getD y 0)))), (72, .bool (lowB (invA xs xs.length) (band ((invA xs xs.length).getD x 0) ((invA xs xs.length).getD y 0)))), (73, .ptr 6 (y * 1)), (74, .tup [AI (lowV xs (band (xs.getD x 0) (xs.getD y 0))), .bool (lowB xs (band (xs.getD x 0) (xs.getD y 0)))]), (75, .ref 7), (76, AI (y : Int)), (77, LI xs), (78, AI (x : Int)), (79, .rptr [AI (xs.getD x 0)]), (80, AI (xs.getD x 0)), (81, LI xs), (82, AI (y : Int)), (83, .rptr [AI (xs.getD y 0)]), (84, AI (xs.getD y 0)), (85, AI (band (xs.getD x 0) (xs.getD y 0))), (86, LI xs), (87, .tup [AI (lowV xs (band (xs.getD x 0) (xs.getD y 0))), .bool (lowB xs (band (xs.getD x 0) (xs.getD y 0)))]), (88, AI (lowV xs (band (xs.getD x 0) (xs.getD y 0)))), (89, .bool (lowB xs (band (xs.getD x 0) (xs.getD y 0)))), (90, .ptr 7 (y * 1))]), [.inert (.base b), .box 26 [.nil, .nil, .nil, AI 0, AI 0], rowA eI 2 1 (invA xs xs.length), .box 26 [.ref 4, .ref 5, .nil, AI 0, AI 0], rowA (eV eI 2 1) 30 1 LA, rowA (eV eI 2 1) 30 1 LO, rowA eI 2 1 ((rowT (hyM xs x) xs.length y).set y (lowV (invA xs xs.length) (band ((invA xs xs.length).getD x 0) ((invA xs xs.length).getD y 0)))), rowA eI 2 1 ((rowT (hyJ xs x) xs.length y).set y (lowV xs (band (xs.getD x 0) (xs.getD y 0))))]⟩ : St) (by kernel_rfl) ?_ ?_)
         ·refine R.any (by decide +kernel) (by kernel_rfl) ?_
          refine k25 0 (np_meet _) ?_
          refine k25 1 (np_meet _) ?_
          refine k25 2 (np_meet _) ?_
          refine k25 3 (np_meet _) ?_
          refine k25 6 (np_meet _) ?_
          refine k25 7 (np_meet _) ?_
          refine k25 11 (np_meet _) ?_
          refine k32 4 eI xs 0 x (x : Int) rfl eI_len (np_meet _) ?_
          refine k32 8 eI xs 0 y (y : Int) rfl eI_len (np_meet _) ?_
          refine k23 5 9 ?_ ?_
          ·refine R.go 2 (k22 9 ?_)
           refine R.go 2 (k22 10 ?_)
           refine R.go 2 (k22 12 ?_)
           refine k15 true (greatest_c (band (xs.getD x 0) (xs.getD y 0)) xs h30 (by assumption)) rfl ?_
           refine R.go 1 (k25 13 (np_meet _) ?_)
           refine R.anyX 14 (AI (lowV xs (band (xs.getD x 0) (xs.getD y 0)))) (by kernel_rfl) (np_meet _) ?_
           refine R.anyX 15 (.bool (lowB xs (band (xs.getD x 0) (xs.getD y 0)))) (by kernel_rfl) (np_meet _) ?_
           refine k34 16 7 1 (rowT (hyJ xs x) xs.length y).length y (y : Int) (np_meet _) ?_ (hji := rfl)
           refine k22 17 ?_
           refine k12 7 2 (rowT (hyJ xs x) xs.length y) y (lowV xs (band (xs.getD x 0) (xs.getD y 0))) ?_
           refine R.go 1 (k22 18 ?_)
           refine R.go 2 (k21 ?_)
           exact k26
          ·refine R.go 2 (k22 5 ?_)
           refine R.go 2 (k22 10 ?_)
           refine R.go 2 (k22 12 ?_)
           refine k15 true (greatest_c (band (xs.getD x 0) (xs.getD y 0)) xs h30 (by assumption)) rfl ?_
           refine R.go 1 (k25 13 (np_meet _) ?_)
           refine R.anyX 14 (AI (lowV xs (band (xs.getD x 0) (xs.getD y 0)))) (by kernel_rfl) (np_meet _) ?_
           refine R.anyX 15 (.bool (lowB xs (band (xs.getD x 0) (xs.getD y 0)))) (by kernel_rfl) (np_meet _) ?_
           refine k34 16 7 1 (rowT (hyJ xs x) xs.length y).length y (y : Int) (np_meet _) ?_ (hji := rfl)
           refine k22 17 ?_
           refine k12 7 2 (rowT (hyJ xs x) xs.length y) y (lowV xs (band (xs.getD x 0) (xs.getD y 0))) ?_
           refine R.go 1 (k22 18 ?_)
           refine R.go 2 (k21 ?_)
           exact k26
         ·refine R.go 5 ?_
          refine (Bool.eq_false_or_eq_true (lowB (invA xs xs.length) (band ((invA xs xs.length).getD x 0) ((invA xs xs.length).getD y 0)))).elim (fun c15 => ?_) (fun c15 => ?_)
          ·refine k5 (!(lowB (invA xs xs.length) (band ((invA xs xs.length).getD x 0) ((invA xs xs.length).getD y 0)))) false (bnF c15) ?_
           refine R.go 1 (k5 (!(lowB (invA xs xs.length) (band ((invA xs xs.length).getD x 0) ((invA xs xs.length).getD y 0)))) false (bnF c15) ?_)
           refine R.go 1 (k7 (!(lowB (invA xs xs.length) (band ((invA xs xs.length).getD x 0) ((invA xs xs.length).getD y 0)))) false (bnF c15) ?_)
           refine R.go 1 (k20 (lowB xs (band (xs.getD x 0) (xs.getD y 0))) (fun c16 => ?_) (fun c16 => ?_))
           ·exact R.go 6 (k28 (.tup [.agg [.nil, .nil, .nil, AI 0, AI 0], .bool false]) (rfl))
           ·refine R.go 3 (k1 ((y : Int) + 1) ?_)
            exact R.go 2 (k17 R10 (N11 (y + 1, (rowT (hyM xs x) xs.length y).set y (lowV (invA xs xs.length) (band ((invA xs xs.length).getD x 0) ((invA xs xs.length).getD y 0))), (rowT (hyJ xs x) xs.length y).set y (lowV xs (band (xs.getD x 0) (xs.getD y 0)))) [0, 2, 4, 6, 7, 8, 9, 10, 45, 46, 53, 54] none _ (by kernel_rfl) (by kernel_rfl) ⟨(by omega), (by exact mj_step (by assumption) (lowB_to (by assumption)) (lowB_to (by assumption))), (by exact rowT_set (by omega) (lowV_of (lowB_to (by assumption)))), (by exact rowT_set (by omega) (lowV_of (lowB_to (by assumption))))⟩ (by show (xs.length - (y + 1)) < (xs.length - y); omega)))
          ·refine k6 (!(lowB (invA xs xs.length) (band ((invA xs xs.length).getD x 0) ((invA xs xs.length).getD y 0)))) false (bnT c15) ?_
           refine k6 (!(lowB (invA xs xs.length) (band ((invA xs xs.length).getD x 0) ((invA xs xs.length).getD y 0)))) false (bnT c15) ?_
           refine k7 (!(lowB (invA xs xs.length) (band ((invA xs xs.length).getD x 0) ((invA xs xs.length).getD y 0)))) true (bnT c15) ?_
           exact R.go 8 (k28 (.tup [.agg [.nil, .nil, .nil, AI 0, AI 0], .bool false]) (rfl))
       ·refine R.go 1 (R.pin 6 2 1 (rowT (hyM xs x) xs.length y).length (rows eI (rowT (hyM xs x) xs.length y)) (by kernel_rfl) (by kernel_rfl) ?_)
        intro v17 hn18
        have hb19 : ∀ g, blk v17 = some g → b ≤ g := newN_base hn18 0 (by kernel_rfl)
        have hr20 : ∀ u ∈ LA, ∀ g, blk v17 = some g → blk u.1 ≠ some g := newN_row (E := eI) (el := 2) (s := 1) (e := 30) (n := LA.length) hn18 4 LA (by kernel_rfl)
        have hr21 : ∀ u ∈ LO, ∀ g, blk v17 = some g → blk u.1 ≠ some g := newN_row (E := eI) (el := 2) (s := 1) (e := 30) (n := LO.length) hn18 5 LO (by kernel_rfl)
        clear hn18
        refine R.pin 7 2 1 (rowT (hyJ xs x) xs.length y).length (rows eI (rowT (hyJ xs x) xs.length y)) (by kernel_rfl) (by kernel_rfl) ?_
        intro v22 hn23
        have hb24 : ∀ g, blk v22 = some g → b ≤ g := newN_base hn23 0 (by kernel_rfl)
        have hr25 : ∀ u ∈ LA, ∀ g, blk v22 = some g → blk u.1 ≠ some g := newN_row (E := eI) (el := 2) (s := 1) (e := 30) (n := LA.length) hn23 4 LA (by kernel_rfl)
        have hr26 : ∀ u ∈ LO, ∀ g, blk v22 = some g → blk u.1 ≠ some g := newN_row (E := eI) (el := 2) (s := 1) (e := 30) (n := LO.length) hn23 5 LO (by kernel_rfl)
        have hs27 : ∀ g, blk v22 = some g → blk v17 ≠ some g := newN_slot (e := 2) (s := 1) (n := (rowT (hyM xs x) xs.length y).length) (cs := rows eI (rowT (hyM xs x) xs.length y)) hn23 9 (by kernel_rfl)
        clear hn23
        refine R.meet (⟨(frm 184 [(0, LI xs), (2, .ptr 1 0), (4, AI xs.length), (6, .ref 2), (7, .ptr 3 0), (8, AI (x : Int)), (9, .nam v17 (some 2) 1 (rowT (hyM xs x) xs.length y).length (rows eI (rowT (hyM xs x) xs.length y))), (10, .nam v22 (some 2) 1 (rowT (hyJ xs x) xs.length y).length (rows eI (rowT (hyJ xs x) xs.length y))), (45, AI xs.length), (46, AI (x : Int)), (53, AI xs.length), (54, AI (y : Int)), (55, .bool (decide ((y : Int) < (xs.length : Int)))), (99, .ptr 3 0), (101, .nam v17 (some 2) 1 (rowT (hyM xs x) xs.length y).length (rows eI (rowT (hyM xs x) xs.length y))), (102, lstA (eV eI 2 1) 1 [(v17, rowT (hyM xs x) xs.length y)]), (103, .ref 4), (104, .ptr 3 1), (106, .nam v22 (some 2) 1 (rowT (hyJ xs x) xs.length y).length (rows eI (rowT (hyJ xs x) xs.length y))), (107, lstA (eV eI 2 1) 1 [(v22, rowT (hyJ xs x) xs.length y)]), (108, .ref 5), (109, .ptr 3 0), (110, .ptr 3 1)]), [.inert (.base b), .box 26 [.nil, .nil, .nil, AI 0, AI 0], rowA eI 2 1 (invA xs xs.length), .box 26 [.ref 4, .ref 5, .nil, AI 0, AI 0], rowA (eV eI 2 1) 30 1 (LA ++ [(v17, rowT (hyM xs x) xs.length y)]), rowA (eV eI 2 1) 30 1 (LO ++ [(v22, rowT (hyJ xs x) xs.length y)]), .dead, .dead]⟩ : St) (by kernel_rfl) ?_ ?_
        ·refine R.any (by decide +kernel) (by kernel_rfl) ?_
         refine k25 2 (np_meet _) ?_
         refine k25 7 (np_meet _) ?_
         refine k31 0 (.ptr 3 0) (np_meet _) ?_
         refine k31 5 (.ptr 3 1) (np_meet _) ?_
         refine R.any4 1 3 6 8 (by kernel_rfl) (by kernel_rfl) ?_ ?_ ?_ ?_
         ·refine R.go 2 (k24 3 6 8 ?_ ?_ ?_)
          ·refine R.lit (s := 1) (n := 1) (cs := rows (eV eI 2 1) [(v17, rowT (hyM xs x) xs.length y)]) (by kernel_rfl) (by kernel_rfl) ?_
           refine R.go 1 (k24 4 6 8 ?_ ?_ ?_)
           ·refine k13 (eV eI 2 1) LA [(v17, rowT (hyM xs x) xs.length y)] 4 30 1 24 eV_one ?_
            refine R.go 1 (k23 6 8 ?_ ?_)
            ·refine R.go 2 (k31 10 (.ptr 3 0) (np_meet _) ?_)
             refine k22 8 ?_
             refine R.lit (s := 1) (n := 1) (cs := rows (eV eI 2 1) [(v22, rowT (hyJ xs x) xs.length y)]) (by kernel_rfl) (by kernel_rfl) ?_
             refine R.go 1 (k22 9 ?_)
             refine k13 (eV eI 2 1) LO [(v22, rowT (hyJ xs x) xs.length y)] 5 30 1 24 eV_one ?_
             refine R.go 1 (k22 11 ?_)
             refine R.go 2 (k31 12 (.ptr 3 1) (np_meet _) ?_)
             refine k22 13 ?_
             refine R.go 2 (k21 ?_)
             exact k26
            ·refine R.lit (s := 1) (n := 1) (cs := rows (eV eI 2 1) [(v22, rowT (hyJ xs x) xs.length y)]) (by kernel_rfl) (by kernel_rfl) ?_
             refine R.go 1 (k22 6 ?_)
             refine R.go 2 (k31 10 (.ptr 3 0) (np_meet _) ?_)
             refine k22 9 ?_
             refine k13 (eV eI 2 1) LO [(v22, rowT (hyJ xs x) xs.length y)] 5 30 1 24 eV_one ?_
             refine R.go 1 (k22 11 ?_)
             refine R.go 2 (k31 12 (.ptr 3 1) (np_meet _) ?_)
             refine k22 13 ?_
             refine R.go 2 (k21 ?_)
             exact k26
           ·refine R.go 2 (k23 4 8 ?_ ?_)
            ·refine k13 (eV eI 2 1) LA [(v17, rowT (hyM xs x) xs.length y)] 4 30 1 24 eV_one ?_
             refine R.go 1 (k31 10 (.ptr 3 0) (np_meet _) ?_)
             refine k22 8 ?_
             refine R.lit (s := 1) (n := 1) (cs := rows (eV eI 2 1) [(v22, rowT (hyJ xs x) xs.length y)]) (by kernel_rfl) (by kernel_rfl) ?_
             refine R.go 1 (k22 9 ?_)
             refine k13 (eV eI 2 1) LO [(v22, rowT (hyJ xs x) xs.length y)] 5 30 1 24 eV_one ?_
             refine R.go 1 (k22 11 ?_)
             refine R.go 2 (k31 12 (.ptr 3 1) (np_meet _) ?_)
             refine k22 13 ?_
             refine R.go 2 (k21 ?_)
             exact k26
            ·refine R.lit (s := 1) (n := 1) (cs := rows (eV eI 2 1) [(v22, rowT (hyJ xs x) xs.length y)]) (by kernel_rfl) (by kernel_rfl) ?_
             refine R.go 1 (k22 4 ?_)
             refine k13 (eV eI 2 1) LA [(v17, rowT (hyM xs x) xs.length y)] 4 30 1 24 eV_one ?_
             refine R.go 1 (k31 10 (.ptr 3 0) (np_meet _) ?_)
             refine k22 9 ?_
             refine k13 (eV eI 2 1) LO [(v22, rowT (hyJ xs x) xs.length y)] 5 30 1 24 eV_one ?_
             refine R.go 1 (k22 11 ?_)
             refine R.go 2 (k31 12 (.ptr 3 1) (np_meet _) ?_)
             refine k22 13 ?_
             refine R.go 2 (k21 ?_)
             exact k26
           ·refine R.lit (s := 1) (n := 1) (cs := rows (eV eI 2 1) [(v22, rowT (hyJ xs x) xs.length y)]) (by kernel_rfl) (by kernel_rfl) ?_
            refine R.go 1 (k23 4 6 ?_ ?_)
            ·refine k13 (eV eI 2 1) LA [(v17, rowT (hyM xs x) xs.length y)] 4 30 1 24 eV_one ?_
             refine R.go 1 (k22 6 ?_)
             refine R.go 2 (k31 10 (.ptr 3 0) (np_meet _) ?_)
             refine k22 9 ?_
             refine k13 (eV eI 2 1) LO [(v22, rowT (hyJ xs x) xs.length y)] 5 30 1 24 eV_one ?_
             refine R.go 1 (k22 11 ?_)
             refine R.go 2 (k31 12 (.ptr 3 1) (np_meet _) ?_)
             refine k22 13 ?_
             refine R.go 2 (k21 ?_)
             exact k26
            ·refine R.go 2 (k22 4 ?_)
             refine k13 (eV eI 2 1) LA [(v17, rowT (hyM xs x) xs.length y)] 4 30 1 24 eV_one ?_
             refine R.go 1 (k31 10 (.ptr 3 0) (np_meet _) ?_)
             refine k22 9 ?_
             refine k13 (eV eI 2 1) LO [(v22, rowT (hyJ xs x) xs.length y)] 5 30 1 24 eV_one ?_
             refine R.go 1 (k22 11 ?_)
             refine R.go 2 (k31 12 (.ptr 3 1) (np_meet _) ?_)
             refine k22 13 ?_
             refine R.go 2 (k21 ?_)
             exact k26
          ·refine R.go 2 (k23 3 8 ?_ ?_)
           ·refine R.lit (s := 1) (n := 1) (cs := rows (eV eI 2 1) [(v17, rowT (hyM xs x) xs.length y)]) (by kernel_rfl) (by kernel_rfl) ?_
            refine R.go 1 (k23 4 8 ?_ ?_)
            ·refine k13 (eV eI 2 1) LA [(v17, rowT (hyM xs x) xs.length y)] 4 30 1 24 eV_one ?_
             refine R.go 1 (k31 10 (.ptr 3 0) (np_meet _) ?_)
             refine k22 8 ?_
             refine R.lit (s := 1) (n := 1) (cs := rows (eV eI 2 1) [(v22, rowT (hyJ xs x) xs.length y)]) (by kernel_rfl) (by kernel_rfl) ?_
             refine R.go 1 (k22 9 ?_)
             refine k13 (eV eI 2 1) LO [(v22, rowT (hyJ xs x) xs.length y)] 5 30 1 24 eV_one ?_
             refine R.go 1 (k22 11 ?_)
             refine R.go 2 (k31 12 (.ptr 3 1) (np_meet _) ?_)
             refine k22 13 ?_
             refine R.go 2 (k21 ?_)
             exact k26
            ·refine R.lit (s := 1) (n := 1) (cs := rows (eV eI 2 1) [(v22, rowT (hyJ xs x) xs.length y)]) (by kernel_rfl) (by kernel_rfl) ?_
             refine R.go 1 (k22 4 ?_)
             refine k13 (eV eI 2 1) LA [(v17, rowT (hyM xs x) xs.length y)] 4 30 1 24 eV_one ?_
             refine R.go 1 (k31 10 (.ptr 3 0) (np_meet _) ?_)
             refine k22 9 ?_
             refine k13 (eV eI 2 1) LO [(v22, rowT (hyJ xs x) xs.length y)] 5 30 1 24 eV_one ?_
             refine R.go 1 (k22 11 ?_)
             refine R.go 2 (k31 12 (.ptr 3 1) (np_meet _) ?_)
             refine k22 13 ?_
             refine R.go 2 (k21 ?_)
             exact k26
           ·refine R.lit (s := 1) (n := 1) (cs := rows (eV eI 2 1) [(v22, rowT (hyJ xs x) xs.length y)]) (by kernel_rfl) (by kernel_rfl) ?_
            refine R.go 1 (k22 3 ?_)
            refine R.lit (s := 1) (n := 1) (cs := rows (eV eI 2 1) [(v17, rowT (hyM xs x) xs.length y)]) (by kernel_rfl) (by kernel_rfl) ?_
            refine R.go 1 (k22 4 ?_)
            refine k13 (eV eI 2 1) LA [(v17, rowT (hyM xs x) xs.length y)] 4 30 1 24 eV_one ?_
            refine R.go 1 (k31 10 (.ptr 3 0) (np_meet _) ?_)
            refine k22 9 ?_
            refine k13 (eV eI 2 1) LO [(v22, rowT (hyJ xs x) xs.length y)] 5 30 1 24 eV_one ?_
            refine R.go 1 (k22 11 ?_)
            refine R.go 2 (k31 12 (.ptr 3 1) (np_meet _) ?_)
            refine k22 13 ?_
            refine R.go 2 (k21 ?_)
            exact k26
          ·refine R.lit (s := 1) (n := 1) (cs := rows (eV eI 2 1) [(v22, rowT (hyJ xs x) xs.length y)]) (by kernel_rfl) (by kernel_rfl) ?_
           refine R.go 1 (k23 3 6 ?_ ?_)
           ·refine R.lit (s := 1) (n := 1) (cs := rows (eV eI 2 1) [(v17, rowT (hyM xs x) xs.length y)]) (by kernel_rfl) (by kernel_rfl) ?_
            refine R.go 1 (k23 4 6 ?_ ?_)
            ·refine k13 (eV eI 2 1) LA [(v17, rowT (hyM xs x) xs.length y)] 4 30 1 24 eV_one ?_
             refine R.go 1 (k22 6 ?_)
             refine R.go 2 (k31 10 (.ptr 3 0) (np_meet _) ?_)
             refine k22 9 ?_
             refine k13 (eV eI 2 1) LO [(v22, rowT (hyJ xs x) xs.length y)] 5 30 1 24 eV_one ?_
             refine R.go 1 (k22 11 ?_)
             refine R.go 2 (k31 12 (.ptr 3 1) (np_meet _) ?_)
             refine k22 13 ?_
             refine R.go 2 (k21 ?_)
             exact k26
            ·refine R.go 2 (k22 4 ?_)
             refine k13 (eV eI 2 1) LA [(v17, rowT (hyM xs x) xs.length y)] 4 30 1 24 eV_one ?_
             refine R.go 1 (k31 10 (.ptr 3 0) (np_meet _) ?_)
             refine k22 9 ?_
             refine k13 (eV eI 2 1) LO [(v22, rowT (hyJ xs x) xs.length y)] 5 30 1 24 eV_one ?_
             refine R.go 1 (k22 11 ?_)
             refine R.go 2 (k31 12 (.ptr 3 1) (np_meet _) ?_)
             refine k22 13 ?_
             refine R.go 2 (k21 ?_)
             exact k26
           ·refine R.go 2 (k22 3 ?_)
            refine R.lit (s := 1) (n := 1) (cs := rows (eV eI 2 1) [(v17, rowT (hyM xs x) xs.length y)]) (by kernel_rfl) (by kernel_rfl) ?_
            refine R.go 1 (k22 4 ?_)
            refine k13 (eV eI 2 1) LA [(v17, rowT (hyM xs x) xs.length y)] 4 30 1 24 eV_one ?_
            refine R.go 1 (k31 10 (.ptr 3 0) (np_meet _) ?_)
            refine k22 9 ?_
            refine k13 (eV eI 2 1) LO [(v22, rowT (hyJ xs x) xs.length y)] 5 30 1 24 eV_one ?_
            refine R.go 1 (k22 11 ?_)
            refine R.go 2 (k31 12 (.ptr 3 1) (np_meet _) ?_)
            refine k22 13 ?_
            refine R.go 2 (k21 ?_)
            exact k26
         ·refine R.lit (s := 1) (n := 1) (cs := rows (eV eI 2 1) [(v17, rowT (hyM xs x) xs.length y)]) (by kernel_rfl) (by kernel_rfl) ?_
          refine R.go 1 (k24 1 6 8 ?_ ?_ ?_)
          ·refine R.go 2 (k24 4 6 8 ?_ ?_ ?_)
           ·refine k13 (eV eI 2 1) LA [(v17, rowT (hyM xs x) xs.length y)] 4 30 1 24 eV_one ?_
            refine R.go 1 (k23 6 8 ?_ ?_)
            ·refine R.go 2 (k31 10 (.ptr 3 0) (np_meet _) ?_)
             refine k22 8 ?_
             refine R.lit (s := 1) (n := 1) (cs := rows (eV eI 2 1) [(v22, rowT (hyJ xs x) xs.length y)]) (by kernel_rfl) (by kernel_rfl) ?_
             refine R.go 1 (k22 9 ?_)
             refine k13 (eV eI 2 1) LO [(v22, rowT (hyJ xs x) xs.length y)] 5 30 1 24 eV_one ?_
             refine R.go 1 (k22 11 ?_)
             refine R.go 2 (k31 12 (.ptr 3 1) (np_meet _) ?_)
             refine k22 13 ?_
             refine R.go 2 (k21 ?_)
             exact k26
            ·refine R.lit (s := 1) (n := 1) (cs := rows (eV eI 2 1) [(v22, rowT (hyJ xs x) xs.length y)]) (by kernel_rfl) (by kernel_rfl) ?_
             refine R.go 1 (k22 6 ?_)
             refine R.go 2 (k31 10 (.ptr 3 0) (np_meet _) ?_)
             refine k22 9 ?_
             refine k13 (eV eI 2 1) LO [(v22, rowT (hyJ xs x) xs.length y)] 5 30 1 24 eV_one ?_
             refine R.go 1 (k22 11 ?_)
             refine R.go 2 (k31 12 (.ptr 3 1) (np_meet _) ?_)
             refine k22 13 ?_
             refine R.go 2 (k21 ?_)
             exact k26
           ·refine R.go 2 (k23 4 8 ?_ ?_)
            ·refine k13 (eV eI 2 1) LA [(v17, rowT (hyM xs x) xs.length y)] 4 30 1 24 eV_one ?_
             refine R.go 1 (k31 10 (.ptr 3 0) (np_meet _) ?_)
             refine k22 8 ?_
             refine R.lit (s := 1) (n := 1) (cs := rows (eV eI 2 1) [(v22, rowT (hyJ xs x) xs.length y)]) (by kernel_rfl) (by kernel_rfl) ?_
             refine R.go 1 (k22 9 ?_)
             refine k13 (eV eI 2 1) LO [(v22, rowT (hyJ xs x) xs.length y)] 5 30 1 24 eV_one ?_
             refine R.go 1 (k22 11 ?_)
             refine R.go 2 (k31 12 (.ptr 3 1) (np_meet _) ?_)
             refine k22 13 ?_
             refine R.go 2 (k21 ?_)
             exact k26
            ·refine R.lit (s := 1) (n := 1) (cs := rows (eV eI 2 1) [(v22, rowT (hyJ xs x) xs.length y)]) (by kernel_rfl) (by kernel_rfl) ?_
             refine R.go 1 (k22 4 ?_)
             refine k13 (eV eI 2 1) LA [(v17, rowT (hyM xs x) xs.length y)] 4 30 1 24 eV_one ?_
             refine R.go 1 (k31 10 (.ptr 3 0) (np_meet _) ?_)
             refine k22 9 ?_
             refine k13 (eV eI 2 1) LO [(v22, rowT (hyJ xs x) xs.length y)] 5 30 1 24 eV_one ?_
             refine R.go 1 (k22 11 ?_)
             refine R.go 2 (k31 12 (.ptr 3 1) (np_meet _) ?_)
             refine k22 13 ?_
             refine R.go 2 (k21 ?_)
             exact k26
           ·refine R.lit (s := 1) (n := 1) (cs := rows (eV eI 2 1) [(v22, rowT (hyJ xs x) xs.length y)]) (by kernel_rfl) (by kernel_rfl) ?_
            refine R.go 1 (k23 4 6 ?_ ?_)
            ·refine k13 (eV eI 2 1) LA [(v17, rowT (hyM xs x) xs.length y)] 4 30 1 24 eV_one ?_
             refine R.go 1 (k22 6 ?_)
             refine R.go 2 (k31 10 (.ptr 3 0) (np_meet _) ?_)
             refine k22 9 ?_
             refine k13 (eV eI 2 1) LO [(v22, rowT (hyJ xs x) xs.length y)] 5 30 1 24 eV_one ?_
             refine R.go 1 (k22 11 ?_)
             refine R.go 2 (k31 12 (.ptr 3 1) (np_meet _) ?_)
             refine k22 13 ?_
             refine R.go 2 (k21 ?_)
             exact k26
            ·refine R.go 2 (k22 4 ?_)
             refine k13 (eV eI 2 1) LA [(v17, rowT (hyM xs x) xs.length y)] 4 30 1 24 eV_one ?_
             refine R.go 1 (k31 10 (.ptr 3 0) (np_meet _) ?_)
             refine k22 9 ?_
             refine k13 (eV eI 2 1) LO [(v22, rowT (hyJ xs x) xs.length y)] 5 30 1 24 eV_one ?_
             refine R.go 1 (k22 11 ?_)
             refine R.go 2 (k31 12 (.ptr 3 1) (np_meet _) ?_)
             refine k22 13 ?_
             refine R.go 2 (k21 ?_)
             exact k26
          ·refine R.go 2 (k23 1 8 ?_ ?_)
           ·refine R.go 2 (k23 4 8 ?_ ?_)
            ·refine k13 (eV eI 2 1) LA [(v17, rowT (hyM xs x) xs.length y)] 4 30 1 24 eV_one ?_
             refine R.go 1 (k31 10 (.ptr 3 0) (np_meet _) ?_)
             refine k22 8 ?_
             refine R.lit (s := 1) (n := 1) (cs := rows (eV eI 2 1) [(v22, rowT (hyJ xs x) xs.length y)]) (by kernel_rfl) (by kernel_rfl) ?_
             refine R.go 1 (k22 9 ?_)
             refine k13 (eV eI 2 1) LO [(v22, rowT (hyJ xs x) xs.length y)] 5 30 1 24 eV_one ?_
             refine R.go 1 (k22 11 ?_)
             refine R.go 2 (k31 12 (.ptr 3 1) (np_meet _) ?_)
             refine k22 13 ?_
             refine R.go 2 (k21 ?_)
             exact k26
            ·refine R.lit (s := 1) (n := 1) (cs := rows (eV eI 2 1) [(v22, rowT (hyJ xs x) xs.length y)]) (by kernel_rfl) (by kernel_rfl) ?_
             refine R.go 1 (k22 4 ?_)
             refine k13 (eV eI 2 1) LA [(v17, rowT (hyM xs x) xs.length y)] 4 30 1 24 eV_one ?_
             refine R.go 1 (k31 10 (.ptr 3 0) (np_meet _) ?_)
             refine k22 9 ?_
             refine k13 (eV eI 2 1) LO [(v22, rowT (hyJ xs x) xs.length y)] 5 30 1 24 eV_one ?_
             refine R.go 1 (k22 11 ?_)
             refine R.go 2 (k31 12 (.ptr 3 1) (np_meet _) ?_)
             refine k22 13 ?_
             refine R.go 2 (k21 ?_)
             exact k26
           ·refine R.lit (s := 1) (n := 1) (cs := rows (eV eI 2 1) [(v22, rowT (hyJ xs x) xs.length y)]) (by kernel_rfl) (by kernel_rfl) ?_
            refine R.go 1 (k22 1 ?_)
            refine R.go 2 (k22 4 ?_)
            refine k13 (eV eI 2 1) LA [(v17, rowT (hyM xs x) xs.length y)] 4 30 1 24 eV_one ?_
            refine R.go 1 (k31 10 (.ptr 3 0) (np_meet _) ?_)
            refine k22 9 ?_
            refine k13 (eV eI 2 1) LO [(v22, rowT (hyJ xs x) xs.length y)] 5 30 1 24 eV_one ?_
            refine R.go 1 (k22 11 ?_)
            refine R.go 2 (k31 12 (.ptr 3 1) (np_meet _) ?_)
            refine k22 13 ?_
            refine R.go 2 (k21 ?_)
            exact k26
          ·refine R.lit (s := 1) (n := 1) (cs := rows (eV eI 2 1) [(v22, rowT (hyJ xs x) xs.length y)]) (by kernel_rfl) (by kernel_rfl) ?_
           refine R.go 1 (k23 1 6 ?_ ?_)
           ·refine R.go 2 (k23 4 6 ?_ ?_)
            ·refine k13 (eV eI 2 1) LA [(v17, rowT (hyM xs x) xs.length y)] 4 30 1 24 eV_one ?_
             refine R.go 1 (k22 6 ?_)
             refine R.go 2 (k31 10 (.ptr 3 0) (np_meet _) ?_)
             refine k22 9 ?_
             refine k13 (eV eI 2 1) LO [(v22, rowT (hyJ xs x) xs.length y)] 5 30 1 24 eV_one ?_
             refine R.go 1 (k22 11 ?_)
             refine R.go 2 (k31 12 (.ptr 3 1) (np_meet _) ?_)
             refine k22 13 ?_
             refine R.go 2 (k21 ?_)
             exact k26
            ·refine R.go 2 (k22 4 ?_)
             refine k13 (eV eI 2 1) LA [(v17, rowT (hyM xs x) xs.length y)] 4 30 1 24 eV_one ?_
             refine R.go 1 (k31 10 (.ptr 3 0) (np_meet _) ?_)
             refine k22 9 ?_
             refine k13 (eV eI 2 1) LO [(v22, rowT (hyJ xs x) xs.length y)] 5 30 1 24 eV_one ?_
             refine R.go 1 (k22 11 ?_)
             refine R.go 2 (k31 12 (.ptr 3 1) (np_meet _) ?_)
             refine k22 13 ?_
             refine R.go 2 (k21 ?_)
             exact k26
           ·refine R.go 2 (k22 1 ?_)
            refine R.go 2 (k22 4 ?_)
            refine k13 (eV eI 2 1) LA [(v17, rowT (hyM xs x) xs.length y)] 4 30 1 24 eV_one ?_
            refine R.go 1 (k31 10 (.ptr 3 0) (np_meet _) ?_)
            refine k22 9 ?_
            refine k13 (eV eI 2 1) LO [(v22, rowT (hyJ xs x) xs.length y)] 5 30 1 24 eV_one ?_
            refine R.go 1 (k22 11 ?_)
            refine R.go 2 (k31 12 (.ptr 3 1) (np_meet _) ?_)
            refine k22 13 ?_
            refine R.go 2 (k21 ?_)
            exact k26
         ·refine R.go 2 (k24 1 3 8 ?_ ?_ ?_)
          ·refine R.go 2 (k23 3 8 ?_ ?_)
           ·refine R.lit (s := 1) (n := 1) (cs := rows (eV eI 2 1) [(v17, rowT (hyM xs x) xs.length y)]) (by kernel_rfl) (by kernel_rfl) ?_
            refine R.go 1 (k23 4 8 ?_ ?_)
            ·refine k13 (eV eI 2 1) LA [(v17, rowT (hyM xs x) xs.length y)] 4 30 1 24 eV_one ?_
             refine R.go 1 (k31 10 (.ptr 3 0) (np_meet _) ?_)
             refine k22 8 ?_
             refine R.lit (s := 1) (n := 1) (cs := rows (eV eI 2 1) [(v22, rowT (hyJ xs x) xs.length y)]) (by kernel_rfl) (by kernel_rfl) ?_
             refine R.go 1 (k22 9 ?_)
             refine k13 (eV eI 2 1) LO [(v22, rowT (hyJ xs x) xs.length y)] 5 30 1 24 eV_one ?_
             refine R.go 1 (k22 11 ?_)
             refine R.go 2 (k31 12 (.ptr 3 1) (np_meet _) ?_)
             refine k22 13 ?_
             refine R.go 2 (k21 ?_)
             exact k26
            ·refine R.lit (s := 1) (n := 1) (cs := rows (eV eI 2 1) [(v22, rowT (hyJ xs x) xs.length y)]) (by kernel_rfl) (by kernel_rfl) ?_
             refine R.go 1 (k22 4 ?_)
             refine k13 (eV eI 2 1) LA [(v17, rowT (hyM xs x) xs.length y)] 4 30 1 24 eV_one ?_
             refine R.go 1 (k31 10 (.ptr 3 0) (np_meet _) ?_)
             refine k22 9 ?_
             refine k13 (eV eI 2 1) LO [(v22, rowT (hyJ xs x) xs.length y)] 5 30 1 24 eV_one ?_
             refine R.go 1 (k22 11 ?_)
             refine R.go 2 (k31 12 (.ptr 3 1) (np_meet _) ?_)
             refine k22 13 ?_
             refine R.go 2 (k21 ?_)
             exact k26
           ·refine R.lit (s := 1) (n := 1) (cs := rows (eV eI 2 1) [(v22, rowT (hyJ xs x) xs.length y)]) (by kernel_rfl) (by kernel_rfl) ?_
            refine R.go 1 (k22 3 ?_)
            refine R.lit (s := 1) (n := 1) (cs := rows (eV eI 2 1) [(v17, rowT (hyM xs x) xs.length y)]) (by kernel_rfl) (by kernel_rfl) ?_
            refine R.go 1 (k22 4 ?_)
            refine k13 (eV eI 2 1) LA [(v17, rowT (hyM xs x) xs.length y)] 4 30 1 24 eV_one ?_
            refine R.go 1 (k31 10 (.ptr 3 0) (np_meet _) ?_)
            refine k22 9 ?_
            refine k13 (eV eI 2 1) LO [(v22, rowT (hyJ xs x) xs.length y)] 5 30 1 24 eV_one ?_
            refine R.go 1 (k22 11 ?_)
            refine R.go 2 (k31 12 (.ptr 3 1) (np_meet _) ?_)
            refine k22 13 ?_
            refine R.go 2 (k21 ?_)
            exact k26
          ·refine R.lit (s := 1) (n := 1) (cs := rows (eV eI 2 1) [(v17, rowT (hyM xs x) xs.length y)]) (by kernel_rfl) (by kernel_rfl) ?_
           refine R.go 1 (k23 1 8 ?_ ?_)
           ·refine R.go 2 (k23 4 8 ?_ ?_)
            ·refine k13 (eV eI 2 1) LA [(v17, rowT (hyM xs x) xs.length y)] 4 30 1 24 eV_one ?_
             refine R.go 1 (k31 10 (.ptr 3 0) (np_meet _) ?_)
             refine k22 8 ?_
             refine R.lit (s := 1) (n := 1) (cs := rows (eV eI 2 1) [(v22, rowT (hyJ xs x) xs.length y)]) (by kernel_rfl) (by kernel_rfl) ?_
             refine R.go 1 (k22 9 ?_)
             refine k13 (eV eI 2 1) LO [(v22, rowT (hyJ xs x) xs.length y)] 5 30 1 24 eV_one ?_
             refine R.go 1 (k22 11 ?_)
             refine R.go 2 (k31 12 (.ptr 3 1) (np_meet _) ?_)
             refine k22 13 ?_
             refine R.go 2 (k21 ?_)
             exact k26
            ·refine R.lit (s := 1) (n := 1) (cs := rows (eV eI 2 1) [(v22, rowT (hyJ xs x) xs.length y)]) (by kernel_rfl) (by kernel_rfl) ?_
             refine R.go 1 (k22 4 ?_)
             refine k13 (eV eI 2 1) LA [(v17, rowT (hyM xs x) xs.length y)] 4 30 1 24 eV_one ?_
             refine R.go 1 (k31 10 (.ptr 3 0) (np_meet _) ?_)
             refine k22 9 ?_
             refine k13 (eV eI 2 1) LO [(v22, rowT (hyJ xs x) xs.length y)] 5 30 1 24 eV_one ?_
             refine R.go 1 (k22 11 ?_)
             refine R.go 2 (k31 12 (.ptr 3 1) (np_meet _) ?_)
             refine k22 13 ?_
             refine R.go 2 (k21 ?_)
             exact k26
           ·refine R.lit (s := 1) (n := 1) (cs := rows (eV eI 2 1) [(v22, rowT (hyJ xs x) xs.length y)]) (by kernel_rfl) (by kernel_rfl) ?_
            refine R.go 1 (k22 1 ?_)
            refine R.go 2 (k22 4 ?_)
            refine k13 (eV eI 2 1) LA [(v17, rowT (hyM xs x) xs.length y)] 4 30 1 24 eV_one ?_
            refine R.go 1 (k31 10 (.ptr 3 0) (np_meet _) ?_)
            refine k22 9 ?_
            refine k13 (eV eI 2 1) LO [(v22, rowT (hyJ xs x) xs.length y)] 5 30 1 24 eV_one ?_
            refine R.go 1 (k22 11 ?_)
            refine R.go 2 (k31 12 (.ptr 3 1) (np_meet _) ?_)
            refine k22 13 ?_
            refine R.go 2 (k21 ?_)
            exact k26
          ·refine R.lit (s := 1) (n := 1) (cs := rows (eV eI 2 1) [(v22, rowT (hyJ xs x) xs.length y)]) (by kernel_rfl) (by kernel_rfl) ?_
           refine R.go 1 (k23 1 3 ?_ ?_)
           ·refine R.go 2 (k22 3 ?_)
            refine R.lit (s := 1) (n := 1) (cs := rows (eV eI 2 1) [(v17, rowT (hyM xs x) xs.length y)]) (by kernel_rfl) (by kernel_rfl) ?_
            refine R.go 1 (k22 4 ?_)
            refine k13 (eV eI 2 1) LA [(v17, rowT (hyM xs x) xs.length y)] 4 30 1 24 eV_one ?_
            refine R.go 1 (k31 10 (.ptr 3 0) (np_meet _) ?_)
            refine k22 9 ?_
            refine k13 (eV eI 2 1) LO [(v22, rowT (hyJ xs x) xs.length y)] 5 30 1 24 eV_one ?_
            refine R.go 1 (k22 11 ?_)
            refine R.go 2 (k31 12 (.ptr 3 1) (np_meet _) ?_)
            refine k22 13 ?_
            refine R.go 2 (k21 ?_)
            exact k26
           ·refine R.lit (s := 1) (n := 1) (cs := rows (eV eI 2 1) [(v17, rowT (hyM xs x) xs.length y)]) (by kernel_rfl) (by kernel_rfl) ?_
            refine R.go 1 (k22 1 ?_)
            refine R.go 2 (k22 4 ?_)
            refine k13 (eV eI 2 1) LA [(v17, rowT (hyM xs x) xs.length y)] 4 30 1 24 eV_one ?_
            refine R.go 1 (k31 10 (.ptr 3 0) (np_meet _) ?_)
            refine k22 9 ?_
            refine k13 (eV eI 2 1) LO [(v22, rowT (hyJ xs x) xs.length y)] 5 30 1 24 eV_one ?_
            refine R.go 1 (k22 11 ?_)
            refine R.go 2 (k31 12 (.ptr 3 1) (np_meet _) ?_)
            refine k22 13 ?_
            refine R.go 2 (k21 ?_)
            exact k26
         ·refine R.lit (s := 1) (n := 1) (cs := rows (eV eI 2 1) [(v22, rowT (hyJ xs x) xs.length y)]) (by kernel_rfl) (by kernel_rfl) ?_
          refine R.go 1 (k24 1 3 6 ?_ ?_ ?_)
          ·refine R.go 2 (k23 3 6 ?_ ?_)
           ·refine R.lit (s := 1) (n := 1) (cs := rows (eV eI 2 1) [(v17, rowT (hyM xs x) xs.length y)]) (by kernel_rfl) (by kernel_rfl) ?_
            refine R.go 1 (k23 4 6 ?_ ?_)
            ·refine k13 (eV eI 2 1) LA [(v17, rowT (hyM xs x) xs.length y)] 4 30 1 24 eV_one ?_
             refine R.go 1 (k22 6 ?_)
             refine R.go 2 (k31 10 (.ptr 3 0) (np_meet _) ?_)
             refine k22 9 ?_
             refine k13 (eV eI 2 1) LO [(v22, rowT (hyJ xs x) xs.length y)] 5 30 1 24 eV_one ?_
             refine R.go 1 (k22 11 ?_)
             refine R.go 2 (k31 12 (.ptr 3 1) (np_meet _) ?_)
             refine k22 13 ?_
             refine R.go 2 (k21 ?_)
             exact k26
            ·refine R.go 2 (k22 4 ?_)
             refine k13 (eV eI 2 1) LA [(v17, rowT (hyM xs x) xs.length y)] 4 30 1 24 eV_one ?_
             refine R.go 1 (k31 10 (.ptr 3 0) (np_meet _) ?_)
             refine k22 9 ?_
             refine k13 (eV eI 2 1) LO [(v22, rowT (hyJ xs x) xs.length y)] 5 30 1 24 eV_one ?_
             refine R.go 1 (k22 11 ?_)
             refine R.go 2 (k31 12 (.ptr 3 1) (np_meet _) ?_)
             refine k22 13 ?_
             refine R.go 2 (k21 ?_)
             exact k26
           ·refine R.go 2 (k22 3 ?_)
            refine R.lit (s := 1) (n := 1) (cs := rows (eV eI 2 1) [(v17, rowT (hyM xs x) xs.length y)]) (by kernel_rfl) (by kernel_rfl) ?_
            refine R.go 1 (k22 4 ?_)
            refine k13 (eV eI 2 1) LA [(v17, rowT (hyM xs x) xs.length y)] 4 30 1 24 eV_one ?_
            refine R.go 1 (k31 10 (.ptr 3 0) (np_meet _) ?_)
            refine k22 9 ?_
            refine k13 (eV eI 2 1) LO [(v22, rowT (hyJ xs x) xs.length y)] 5 30 1 24 eV_one ?_
            refine R.go 1 (k22 11 ?_)
            refine R.go 2 (k31 12 (.ptr 3 1) (np_meet _) ?_)
            refine k22 13 ?_
            refine R.go 2 (k21 ?_)
            exact k26
          ·refine R.lit (s := 1) (n := 1) (cs := rows (eV eI 2 1) [(v17, rowT (hyM xs x) xs.length y)]) (by kernel_rfl) (by kernel_rfl) ?_
           refine R.go 1 (k23 1 6 ?_ ?_)
           ·refine R.go 2 (k23 4 6 ?_ ?_)
            ·refine k13 (eV eI 2 1) LA [(v17, rowT (hyM xs x) xs.length y)] 4 30 1 24 eV_one ?_
             refine R.go 1 (k22 6 ?_)
             refine R.go 2 (k31 10 (.ptr 3 0) (np_meet _) ?_)
             refine k22 9 ?_
             refine k13 (eV eI 2 1) LO [(v22, rowT (hyJ xs x) xs.length y)] 5 30 1 24 eV_one ?_
             refine R.go 1 (k22 11 ?_)
             refine R.go 2 (k31 12 (.ptr 3 1) (np_meet _) ?_)
             refine k22 13 ?_
             refine R.go 2 (k21 ?_)
             exact k26
            ·refine R.go 2 (k22 4 ?_)
             refine k13 (eV eI 2 1) LA [(v17, rowT (hyM xs x) xs.length y)] 4 30 1 24 eV_one ?_
             refine R.go 1 (k31 10 (.ptr 3 0) (np_meet _) ?_)
             refine k22 9 ?_
             refine k13 (eV eI 2 1) LO [(v22, rowT (hyJ xs x) xs.length y)] 5 30 1 24 eV_one ?_
             refine R.go 1 (k22 11 ?_)
             refine R.go 2 (k31 12 (.ptr 3 1) (np_meet _) ?_)
             refine k22 13 ?_
             refine R.go 2 (k21 ?_)
             exact k26
           ·refine R.go 2 (k22 1 ?_)
            refine R.go 2 (k22 4 ?_)
            refine k13 (eV eI 2 1) LA [(v17, rowT (hyM xs x) xs.length y)] 4 30 1 24 eV_one ?_
            refine R.go 1 (k31 10 (.ptr 3 0) (np_meet _) ?_)
            refine k22 9 ?_
            refine k13 (eV eI 2 1) LO [(v22, rowT (hyJ xs x) xs.length y)] 5 30 1 24 eV_one ?_
            refine R.go 1 (k22 11 ?_)
            refine R.go 2 (k31 12 (.ptr 3 1) (np_meet _) ?_)
            refine k22 13 ?_
            refine R.go 2 (k21 ?_)
            exact k26
          ·refine R.go 2 (k23 1 3 ?_ ?_)
           ·refine R.go 2 (k22 3 ?_)
            refine R.lit (s := 1) (n := 1) (cs := rows (eV eI 2 1) [(v17, rowT (hyM xs x) xs.length y)]) (by kernel_rfl) (by kernel_rfl) ?_
            refine R.go 1 (k22 4 ?_)
            refine k13 (eV eI 2 1) LA [(v17, rowT (hyM xs x) xs.length y)] 4 30 1 24 eV_one ?_
            refine R.go 1 (k31 10 (.ptr 3 0) (np_meet _) ?_)
            refine k22 9 ?_
            refine k13 (eV eI 2 1) LO [(v22, rowT (hyJ xs x) xs.length y)] 5 30 1 24 eV_one ?_
            refine R.go 1 (k22 11 ?_)
            refine R.go 2 (k31 12 (.ptr 3 1) (np_meet _) ?_)
            refine k22 13 ?_
            refine R.go 2 (k21 ?_)
            exact k26
           ·refine R.lit (s := 1) (n := 1) (cs := rows (eV eI 2 1) [(v17, rowT (hyM xs x) xs.length y)]) (by kernel_rfl) (by kernel_rfl) ?_
            refine R.go 1 (k22 1 ?_)
            refine R.go 2 (k22 4 ?_)
            refine k13 (eV eI 2 1) LA [(v17, rowT (hyM xs x) xs.length y)] 4 30 1 24 eV_one ?_
            refine R.go 1 (k31 10 (.ptr 3 0) (np_meet _) ?_)
            refine k22 9 ?_
            refine k13 (eV eI 2 1) LO [(v22, rowT (hyJ xs x) xs.length y)] 5 30 1 24 eV_one ?_
            refine R.go 1 (k22 11 ?_)
            refine R.go 2 (k31 12 (.ptr 3 1) (np_meet _) ?_)
            refine k22 13 ?_
            refine R.go 2 (k21 ?_)
            exact k26
        ·refine R.go 2 (k1 ((x : Int) + 1) ?_)
         exact R.go 2 (k17 R5 (N6 (x + 1, LA ++ [(v17, rowT (hyM xs x) xs.length y)], LO ++ [(v22, rowT (hyJ xs x) xs.length y)]) [0, 2, 4, 6, 7, 45, 46] (some [0, 1, 2, 3, 4, 5]) _ (by kernel_rfl) (by kernel_rfl) ⟨(by omega), (by exact NL.snoc (by assumption) (by assumption) (by assumption)), (by exact NL.snoc (by assumption) (by assumption) (by assumption)), (by exact NX.snoc (by assumption) (by assumption) (by assumption) (by assumption)), (by rw [map1V ‹LA.map Prod.snd = _›, rowT_end (by omega)]; exact tabR_snoc), (by rw [map1V ‹LO.map Prod.snd = _›, rowT_end (by omega)]; exact tabR_snoc), (by exact rw_step (P := MJ xs) (by assumption) (‹∀ q : Nat, q < y → MJ xs x q›) (by omega))⟩ (by show (xs.length - (x + 1)) < (xs.length - x); omega)))
     ·refine R.go 8 (R.nilB 3 2 30 1 (by kernel_rfl) ?_)
      refine k16 ((fun | (u, LJ) => (⟨(frm 184 [(0, LI xs), (2, .ptr 1 0), (4, AI xs.length), (6, .ref 2), (7, .ptr 3 0), (112, AI xs.length), (113, AI (u : Int))]), [.inert (.base b), .box 26 [.nil, .nil, .nil, AI 0, AI 0], rowA eI 2 1 (invA xs xs.length), .box 26 [.ref 4, .ref 5, .ref 6, AI 0, AI 0], rowA (eV eI 2 1) 30 1 LA, rowA (eV eI 2 1) 30 1 LO, rowA (eV eI 2 1) 30 1 LJ]⟩ : St) : Nat × (List (Value × List Int)) → St)) (fun | (u, LJ) => (u ≤ xs.length) ∧ (NL b LJ) ∧ (NX LA LJ) ∧ (NX LO LJ) ∧ (LJ.map Prod.snd = tabR (hyI xs) xs.length u) ∧ (∀ p : Nat, p < u → ∀ q : Nat, q < xs.length → 0 ≤ hyI xs p q)) (fun | (u, LJ) => xs.length - u) (0, []) [0, 2, 4, 6, 7, 112, 113] none ⟨(by omega), (by exact NL.nil), (by exact NX.nil'), (by exact NX.nil'), (by rfl), (by exact fun p hp => absurd hp (by omega))⟩ ?_
      rintro ⟨u, LJ⟩ ⟨h31_1, h31_2, h31_3, h31_4, h31_5, h31_6⟩ R28 N29
      have hlj := tabV_len ‹LJ.map Prod.snd = _›
      have hF : ¬ (u : Int) < (xs.length : Int) → (1 : Int) ≤ 0 := fun hu9 => False.elim (hyN_end hN (by omega) (paB_of (by assumption) (by assumption) (by assumption)) (fun p hp => (‹∀ p : Nat, p < x → ∀ q : Nat, q < xs.length → MJ xs p q›) p (by omega)) (fun p hp => (‹∀ p : Nat, p < u → ∀ q : Nat, q < xs.length → 0 ≤ hyI xs p q›) p (by omega)))
      refine R.go 5 (k3 ((u : Int) < (xs.length : Int)) (fun c32 => ?_) (fun c32 => ?_))
      ·refine R.go 11 (k14 eI 0 2 8 xs.length xs.length rfl ?_)
       refine R.go 9 (k16 ((fun | (w, C) => (⟨(frm 184 [(0, LI xs), (2, .ptr 1 0), (4, AI xs.length), (6, .ref 2), (7, .ptr 3 0), (14, AI (u : Int)), (15, .ref 7), (112, AI xs.length), (113, AI (u : Int)), (118, AI xs.length), (119, AI (w : Int))]), [.inert (.base b), .box 26 [.nil, .nil, .nil, AI 0, AI 0], rowA eI 2 1 (invA xs xs.length), .box 26 [.ref 4, .ref 5, .ref 6, AI 0, AI 0], rowA (eV eI 2 1) 30 1 LA, rowA (eV eI 2 1) 30 1 LO, rowA (eV eI 2 1) 30 1 LJ, rowA eI 2 1 C]⟩ : St) : Nat × (List Int) → St)) (fun | (w, C) => (w ≤ xs.length) ∧ (∀ q : Nat, q < w → 0 ≤ hyI xs u q) ∧ (C = rowT (hyI xs u) xs.length w)) (fun | (w, C) => xs.length - w) (0, (List.replicate xs.length 0)) [0, 2, 4, 6, 7, 14, 15, 112, 113, 118, 119] none ⟨(by omega), (by exact fun p hp => absurd hp (by omega)), (by exact rowT_zero)⟩ ?_)
       rintro ⟨w, C⟩ ⟨h36_1, h36_2, rfl⟩ R33 N34
       have hCl := rowT_len (hyI xs u) xs.length w
       refine R.go 5 (k3 ((w : Int) < (xs.length : Int)) (fun c37 => ?_) (fun c37 => ?_))
       ·refine R.go 19 (k16 ((fun | (z, cm) => (⟨(frm 184 [(0, LI xs), (2, .ptr 1 0), (4, AI xs.length), (6, .ref 2), (7, .ptr 3 0), (14, AI (u : Int)), (15, .ref 7), (16, AI (w : Int)), (17, AI cm), (112, AI xs.length), (113, AI (u : Int)), (118, AI xs.length), (119, AI (w : Int)), (122, AI xs.length), (123, AI (z : Int))]), [.inert (.base b), .box 26 [.nil, .nil, .nil, AI 0, AI 0], rowA eI 2 1 (invA xs xs.length), .box 26 [.ref 4, .ref 5, .ref 6, AI 0, AI 0], rowA (eV eI 2 1) 30 1 LA, rowA (eV eI 2 1) 30 1 LO, rowA (eV eI 2 1) 30 1 LJ, rowA eI 2 1 (rowT (hyI xs u) xs.length w)]⟩ : St) : Nat × Int → St)) (fun | (z, cm) => (z ≤ xs.length) ∧ (cm = hyC xs u w z)) (fun | (z, cm) => xs.length - z) (0, 0) [0, 2, 4, 6, 7, 14, 15, 16, 17, 112, 113, 118, 119, 122, 123] none ⟨(by omega), (by rfl)⟩ ?_)
        rintro ⟨z, cm⟩ ⟨h41_1, rfl⟩ R38 N39
        refine R.go 5 (k3 ((z : Int) < (xs.length : Int)) (fun c42 => ?_) (fun c42 => ?_))
        ·have hzx : x = xs.length := by omega
         have hat := tabV_at (i := z) (j := u) ‹LA.map Prod.snd = _› (by omega) (by omega)
         have hva := hat.1
         have hvl := hat.2
         have hvm : 0 ≤ hyM xs z u := ((‹∀ p : Nat, p < x → ∀ q : Nat, q < xs.length → MJ xs p q›) z (by omega) u (by omega)).1
         have hvr := hyM_rngN hvm
         have hbw := hbi w (by omega)
         refine R.go 12 (k9 2 1 (invA xs xs.length).length w (w : Int) ?_ (hji := rfl))
         refine k11 (invA xs xs.length) w ?_
         refine R.go 3 (k9 4 1 LA.length z (z : Int) ?_ (hji := rfl))
         refine R.ldE (eV eI 2 1) 1 0 LA (.bool false, []) z (.nam ((LA.getD z (.bool false, [])).1) (some 2) 1 ((LA.getD z (.bool false, [])).2).length (rows eI ((LA.getD z (.bool false, [])).2))) (by kernel_rfl) eV_len (by omega) rfl (by kernel_rfl) ?_
         refine R.go 1 (R.idxV eI ((LA.getD z (.bool false, [])).2) 0 u (u : Int) (by kernel_rfl) rfl eI_len (by first | omega | (simp only [List.length_set]; omega) | (simp <;> omega)) (by kernel_rfl) ?_)
         refine R.go 1 (k15 true (has_c ((invA xs xs.length).getD w 0) (((LA.getD z (.bool false, [])).2).getD u 0) (by omega)) rfl ?_)
         refine R.go 1 (k3 (band (shr64 ((invA xs xs.length).getD w 0) (((LA.getD z (.bool false, [])).2).getD u 0)) 1 = 1) (fun c43 => ?_) (fun c43 => ?_))
         ·refine R.go 3 (R.shl 1 (z : Int) (by kernel_rfl) (by omega) (by kernel_rfl) ?_)
          refine R.go 5 (k1 ((z : Int) + 1) ?_)
          exact R.go 2 (k17 R38 (N39 (z + 1, bor (hyC xs u w z) (shl64 1 (z : Int))) [0, 2, 4, 6, 7, 14, 15, 16, 17, 112, 113, 118, 119, 122, 123] none _ (by kernel_rfl) (by kernel_rfl) ⟨(by omega), (by first | exact hyC_yesN h30 hR hvm (by omega) hva (by assumption) | exact hyC_noN h30 hR hvm (by omega) hva (by assumption))⟩ (by show (xs.length - (z + 1)) < (xs.length - z); omega)))
         ·refine R.go 3 (k1 ((z : Int) + 1) ?_)
          exact R.go 2 (k17 R38 (N39 (z + 1, hyC xs u w z) [0, 2, 4, 6, 7, 14, 15, 16, 17, 112, 113, 118, 119, 122, 123] none _ (by kernel_rfl) (by kernel_rfl) ⟨(by omega), (by first | exact hyC_yesN h30 hR hvm (by omega) hva (by assumption) | exact hyC_noN h30 hR hvm (by omega) hva (by assumption))⟩ (by show (xs.length - (z + 1)) < (xs.length - z); omega)))
        ·have hcz := hyC_inN h30 u w (z := z) (by omega)
         have hcz' : InM (invA xs xs.length).length (hyC xs u w z) := by rw [hil]; exact hcz
         refine R.go 5 (k15 false (greatest_c (hyC xs u w z) (invA xs xs.length) (by first | omega | (simp <;> omega)) (by assumption)) (by simp [AV.closed, closedL, AI]) ?_)
         refine R.go 12 (k20 (lowB (invA xs xs.length) (hyC xs u w z)) (fun c44 => ?_) (fun c44 => ?_))
         ·exact R.go 6 (k28 (.tup [.agg [.nil, .nil, .nil, AI 0, AI 0], .bool false]) (rfl))
         ·have hcl : 0 ≤ hyI xs u w := by have := lowB_to (by assumption : lowB (invA xs xs.length) (hyC xs u w z) = true); rwa [show z = xs.length by omega] at this
          refine R.go 5 (k9 7 1 (rowT (hyI xs u) xs.length w).length w (w : Int) ?_ (hji := rfl))
          refine k12 7 2 (rowT (hyI xs u) xs.length w) w (lowV (invA xs xs.length) (hyC xs u w z)) ?_
          refine R.go 3 (k1 ((w : Int) + 1) ?_)
          exact R.go 2 (k17 R33 (N34 (w + 1, (rowT (hyI xs u) xs.length w).set w (lowV (invA xs xs.length) (hyC xs u w z))) [0, 2, 4, 6, 7, 14, 15, 112, 113, 118, 119] none _ (by kernel_rfl) (by kernel_rfl) ⟨(by omega), (by exact below1 (by assumption) hcl), (by exact rowT_set (by omega) (by rw [show z = xs.length by omega]; exact lowV_of hcl))⟩ (by show (xs.length - (w + 1)) < (xs.length - w); omega)))
       ·refine R.go 5 (R.pin 7 2 1 (rowT (hyI xs u) xs.length w).length (rows eI (rowT (hyI xs u) xs.length w)) (by kernel_rfl) (by kernel_rfl) ?_)
        intro v45 hn46
        have hb47 : ∀ g, blk v45 = some g → b ≤ g := newN_base hn46 0 (by kernel_rfl)
        have hr48 : ∀ u ∈ LA, ∀ g, blk v45 = some g → blk u.1 ≠ some g := newN_row (E := eI) (el := 2) (s := 1) (e := 30) (n := LA.length) hn46 4 LA (by kernel_rfl)
        have hr49 : ∀ u ∈ LO, ∀ g, blk v45 = some g → blk u.1 ≠ some g := newN_row (E := eI) (el := 2) (s := 1) (e := 30) (n := LO.length) hn46 5 LO (by kernel_rfl)
        have hr50 : ∀ u ∈ LJ, ∀ g, blk v45 = some g → blk u.1 ≠ some g := newN_row (E := eI) (el := 2) (s := 1) (e := 30) (n := LJ.length) hn46 6 LJ (by kernel_rfl)
        clear hn46
        refine R.go 1 (k13 (eV eI 2 1) LJ [(v45, rowT (hyI xs u) xs.length w)] 6 30 1 24 eV_one ?_)
        refine R.go 5 (k1 ((u : Int) + 1) ?_)
        exact R.go 2 (k17 R28 (N29 (u + 1, LJ ++ [(v45, rowT (hyI xs u) xs.length w)]) [0, 2, 4, 6, 7, 112, 113] (some [0, 1, 2, 3, 4, 5, 6]) _ (by kernel_rfl) (by kernel_rfl) ⟨(by omega), (by exact NL.snoc (by assumption) (by assumption) (by assumption)), (by exact NX.snocR (by assumption) (by assumption)), (by exact NX.snocR (by assumption) (by assumption)), (by rw [map1V ‹LJ.map Prod.snd = _›, rowT_end (by omega)]; exact tabR_snoc), (by exact rw_step (P := fun p q => 0 ≤ hyI xs p q) (by assumption) (‹∀ q : Nat, q < w → 0 ≤ hyI xs u q›) (by omega))⟩ (by show (xs.length - (u + 1)) < (xs.length - u); omega)))
      ·exfalso; omega -- end .tup [.agg [ownA (eV eI 2 1) 30 1 LA, ownA (eV eI 2 1) 30 1 LO, ownA (eV eI 2 1) 30 1 LJ, AI (lo
   ·refine k6 (!(tB (xs.length : Int).toNat xs)) false (bnT c3) ?_
    refine k6 (!(tB (xs.length : Int).toNat xs)) false (bnT c3) ?_
    refine k6 (!(tB (xs.length : Int).toNat xs)) false (bnT c3) ?_
    refine k7 (!(tB (xs.length : Int).toNat xs)) true (bnT c3) ?_
    exact R.go 8 (k28 (.tup [.agg [.nil, .nil, .nil, AI 0, AI 0], .bool false]) (rfl))
  ·refine k6 (!(rB (xs.length : Int).toNat xs)) false (bnT c2) ?_
   refine k6 (!(rB (xs.length : Int).toNat xs)) false (bnT c2) ?_
   refine k6 (!(rB (xs.length : Int).toNat xs)) false (bnT c2) ?_
   refine k7 (!(rB (xs.length : Int).toNat xs)) true (bnT c2) ?_
   exact R.go 13 (k28 (.tup [.agg [.nil, .nil, .nil, AI 0, AI 0], .bool false]) (rfl))
theorem heytingN_c (xs : List Int) (h30 : xs.length ≤ 30) (hR : RelOK xs.length xs) (hN : hyB xs = false) : CallA Tryz.prog 134 [LI xs] (.tup [.agg [.nil, .nil, .nil, AI 0, AI 0], .bool false]) := CallE.toA (heytingNE_c xs h30 hR hN)

set_option maxHeartbeats 2000000 in
theorem l18BuildN_c (xs : List Int) (h30 : xs.length ≤ 30) (hR : RelOK xs.length xs) (hN : hyB xs = false) : CallA Tryz.prog 141 [LI xs] (.tup [.agg [.nil, .nil, .nil, AI 0, AI 0], .bool false]) := by
 have hil := invA_len xs xs.length
 have hir := (inv_relN h30 hR).1
 have hxi := fun (i : Nat) (hi : i < xs.length) => hR.2 i hi
 have hbi := fun (i : Nat) (hi : i < xs.length) => hir.2 i hi
 have hrl : okRl (xs.length : Int) xs := okRl_of h30 hR
 have hfl : InM xs.length (fullM xs.length) := inM_full (by omega)
 have hsh : 1 ≤ shl64 1 (xs.length : Int) ∧ shl64 1 (xs.length : Int) ≤ 4611686018427387904 := shl_rng _ (by omega) (by omega)
 have hfl61 := inM_mono (n' := 61) (by omega) hfl
 have hfm : InM 61 ((shl64 1 (xs.length : Int)) - 1) := hfl61
 refine CallA.of Tryz.func141 rfl (by kernel_rfl) ?_
 refine R.go 17 ?_
 by_cases c1 : (xs.length : Int) = 0
 ·refine k6 (decide ((xs.length : Int) = 0)) false (dT c1) ?_
  refine k6 (decide ((xs.length : Int) = 0)) false (dT c1) ?_
  refine k6 (decide ((xs.length : Int) = 0)) false (dT c1) ?_
  refine k7 (decide ((xs.length : Int) = 0)) true (dT c1) ?_
  exact R.go 8 (k18 (.tup [.agg [.nil, .nil, .nil, AI 0, AI 0], .bool false]) (by rfl))
 ·refine k5 (decide ((xs.length : Int) = 0)) false (dF c1) ?_
  refine R.go 1 (k5 (decide ((xs.length : Int) = 0)) false (dF c1) ?_)
  refine k15 true (l18Partial_c xs h30 hR) rfl ?_
  refine k5 (decide ((xs.length : Int) = 0)) false (dF c1) ?_
  refine R.go 1 (k7 (decide ((xs.length : Int) = 0)) false (dF c1) ?_)
  refine R.go 1 (k20 (paB xs.length xs) (fun c2 => ?_) (fun c2 => ?_))
  ·exact R.go 6 (k18 (.tup [.agg [.nil, .nil, .nil, AI 0, AI 0], .bool false]) (by rfl))
  ·refine R.go 4 (k15 true (l01Inverse_c xs h30 hR) rfl ?_)
   refine R.go 6 (k15 true (l01Full_c xs.length (by first | omega | (simp <;> omega)) (by first | omega | (simp <;> omega))) rfl ?_)
   refine k15 true (l18Low_c xs ((shl64 1 xs.length) - 1) (by first | omega | (simp <;> omega)) (by first | assumption | exact inM_mono (by omega) (by assumption))) rfl ?_
   refine R.go 2 (k15 true (l01Full_c xs.length (by first | omega | (simp <;> omega)) (by first | omega | (simp <;> omega))) rfl ?_)
   refine k15 false (l18Low_c (invA xs xs.length) ((shl64 1 xs.length) - 1) (by first | omega | (simp <;> omega)) (by first | assumption | exact inM_mono (by omega) (by assumption))) rfl ?_
   refine R.go 7 (k19 1 ?_)
   refine R.go 4 ?_
   by_cases c3 : (lowF xs ((shl64 1 xs.length) - 1)) < 0
   ·refine k6 (decide ((lowF xs ((shl64 1 xs.length) - 1)) < 0)) false (dT c3) ?_
    refine k6 (decide ((lowF xs ((shl64 1 xs.length) - 1)) < 0)) false (dT c3) ?_
    refine k6 (decide ((lowF xs ((shl64 1 xs.length) - 1)) < 0)) false (dT c3) ?_
    refine k7 (decide ((lowF xs ((shl64 1 xs.length) - 1)) < 0)) true (dT c3) ?_
    exact R.go 8 (k18 (.tup [.agg [.nil, .nil, .nil, AI 0, AI 0], .bool false]) (by rfl))
   ·refine k5 (decide ((lowF xs ((shl64 1 xs.length) - 1)) < 0)) false (dF c3) ?_
    refine R.go 1 (k5 (decide ((lowF xs ((shl64 1 xs.length) - 1)) < 0)) false (dF c3) ?_)
    refine R.go 1 (k5 (decide ((lowF xs ((shl64 1 xs.length) - 1)) < 0)) false (dF c3) ?_)
    refine R.go 1 (k7 (decide ((lowF xs ((shl64 1 xs.length) - 1)) < 0)) false (dF c3) ?_)
    refine R.go 1 (k3 ((lowF (invA xs xs.length) ((shl64 1 xs.length) - 1)) < 0) (fun c4 => ?_) (fun c4 => ?_))
    ·exact R.go 6 (k18 (.tup [.agg [.nil, .nil, .nil, AI 0, AI 0], .bool false]) (by rfl))
    ·refine R.go 7 (R.nilB 2 0 30 1 (by kernel_rfl) ?_)
     refine R.nilB 2 1 30 1 (by kernel_rfl) ?_
     refine k16 ((fun | (x, A, O) => (⟨(frm 168 [(0, LI xs), (2, .ptr 0 0), (4, AI xs.length), (5, LI (invA xs xs.length)), (6, .ptr 1 0), (7, AI (x : Int))]), [.box 26 [.nil, .nil, .nil, AI 0, AI 0], .box 26 [.ref 2, .ref 3, .nil, AI (lowF xs ((shl64 1 xs.length) - 1)), AI (lowF (invA xs xs.length) ((shl64 1 xs.length) - 1))], rowA eLI 30 1 A, rowA eLI 30 1 O]⟩ : St) : Nat × (List (List Int)) × (List (List Int)) → St)) (fun | (x, A, O) => (x ≤ xs.length) ∧ (∀ p : Nat, p < x → ∀ q : Nat, q < xs.length → MJ xs p q) ∧ (A = tabR (hyM xs) xs.length x) ∧ (O = tabR (hyJ xs) xs.length x)) (fun | (x, A, O) => xs.length - x) (0, [], []) [0, 2, 4, 5, 6, 7] (some [0, 2, 3, 4]) ⟨(by omega), (by exact fun p hp => absurd hp (by omega)), (by rfl), (by rfl)⟩ ?_
     rintro ⟨x, A, O⟩ ⟨h8_1, h8_2, rfl, rfl⟩ R5 N6
     have hal := tabR_len (hyM xs) xs.length x
     have hol := tabR_len (hyJ xs) xs.length x
     refine R.go 7 (k3 ((x : Int) < (xs.length : Int)) (fun c9 => ?_) (fun c9 => ?_))
     ·refine R.go 16 (k16 ((fun | (y, a, o) => (⟨(frm 168 [(0, LI xs), (2, .ptr 0 0), (4, AI xs.length), (5, LI (invA xs xs.length)), (6, .ptr 1 0), (7, AI (x : Int)), (8, .ref 4), (9, .ref 5), (10, AI (y : Int))]), [.box 26 [.nil, .nil, .nil, AI 0, AI 0], .box 26 [.ref 2, .ref 3, .nil, AI (lowF xs ((shl64 1 xs.length) - 1)), AI (lowF (invA xs xs.length) ((shl64 1 xs.length) - 1))], rowA eLI 30 1 (tabR (hyM xs) xs.length x), rowA eLI 30 1 (tabR (hyJ xs) xs.length x), rowA eI 2 1 a, rowA eI 2 1 o]⟩ : St) : Nat × (List Int) × (List Int) → St)) (fun | (y, a, o) => (y ≤ xs.length) ∧ (∀ q : Nat, q < y → MJ xs x q) ∧ (a = rowR (hyM xs x) y) ∧ (o = rowR (hyJ xs x) y)) (fun | (y, a, o) => xs.length - y) (0, [], []) [0, 2, 4, 5, 6, 7, 8, 9, 10] none ⟨(by omega), (by exact fun p hp => absurd hp (by omega)), (by rfl), (by rfl)⟩ ?_)
      rintro ⟨y, a, o⟩ ⟨h13_1, h13_2, rfl, rfl⟩ R10 N11
      have har := rowR_len (hyM xs x) y
      have hor := rowR_len (hyJ xs x) y
      refine R.go 7 (k3 ((y : Int) < (xs.length : Int)) (fun c14 => ?_) (fun c14 => ?_))
      ·refine R.go 4 ?_
       have hbx := hbi x (by omega)
       have hby := hbi y (by omega)
       have hmm := inM_band (n := xs.length) (by omega) hbx hby
       have hxx := hxi x (by omega)
       have hxy := hxi y (by omega)
       have hjj := inM_band (n := xs.length) (by omega) hxx hxy
       have hmm61 := inM_mono (n' := 61) (by omega) hmm
       have hjj61 := inM_mono (n' := 61) (by omega) hjj
       refine R.meet (⟨(frm 168 [(0, LI xs), (2, .ptr 0 0), (4, AI xs.length), (5, LI (invA xs xs.length)), (6, .ptr 1 0), (7, AI (x : Int)), (8, .ref 4), (9, .ref 5), (10, AI (y : Int)), (54, AI (y : Int)), (55, AI xs.length), (56, .bool (decide ((y : Int) < (xs.length : Int)))), (60, LI (invA xs xs.length)), (61, LI (invA xs xs.length)), (62, AI (x : Int)), (63, .rptr [AI ((invA xs xs.length).getD x 0)]), (64, AI ((invA xs xs.length).getD x 0)), (65, LI (invA xs xs.length)), (66, AI (y : Int)), (67, .rptr [AI ((invA xs xs.length).getD y 0)]), (68, AI ((invA xs xs.length).getD y 0)), (69, AI (band ((invA xs xs.length).getD x 0) ((invA xs xs.length).getD y 0))), (70, AI (lowF (invA xs xs.length) (band ((invA xs xs.length).getD x 0) ((invA xs xs.length).getD y 0)))), (71, LI [lowF (invA xs xs.length) (band ((invA xs xs.length).getD x 0) ((invA xs xs.length).getD y 0))]), (72, .ref 4)]), [.box 26 [.nil, .nil, .nil, AI 0, AI 0], .box 26 [.ref 2, .ref 3, .nil, AI (lowF xs ((shl64 1 xs.length) - 1)), AI (lowF (invA xs xs.length) ((shl64 1 xs.length) - 1))], rowA eLI 30 1 (tabR (hyM xs) xs.length x), rowA eLI 30 1 (tabR (hyJ xs) xs.length x), rowA eI 2 1 ((rowR (hyM xs x) y) ++ [lowF (invA xs xs.length) (band ((invA xs xs.length).getD x 0) ((invA xs xs.length).getD y 0))]), rowA eI 2 1 (rowR (hyJ xs x) y)]⟩ : St) (by kernel_rfl) ?_ ?_
       ·refine R.any (by decide +kernel) (by kernel_rfl) ?_
        refine k25 0 (np_meet _) ?_
        refine k25 1 (np_meet _) ?_
        refine k25 2 (np_meet _) ?_
        refine k25 3 (np_meet _) ?_
        refine k25 6 (np_meet _) ?_
        refine k25 7 (np_meet _) ?_
        refine k32 4 eI (invA xs xs.length) 0 x (x : Int) rfl eI_len (np_meet _) ?_
        refine k32 8 eI (invA xs xs.length) 0 y (y : Int) rfl eI_len (np_meet _) ?_
        refine k23 5 9 ?_ ?_
        ·refine R.go 2 (k22 9 ?_)
         refine R.go 2 (k22 10 ?_)
         refine R.go 2 (k22 11 ?_)
         refine k15 true (l18Low_c (invA xs xs.length) (band ((invA xs xs.length).getD x 0) ((invA xs xs.length).getD y 0)) (by first | omega | (simp <;> omega)) (by first | assumption | exact inM_mono (by omega) (by assumption))) rfl ?_
         refine R.go 1 (k22 12 ?_)
         refine R.lit (s := 1) (n := 1) (cs := rows eI [lowF (invA xs xs.length) (band ((invA xs xs.length).getD x 0) ((invA xs xs.length).getD y 0))]) (by kernel_rfl) (by kernel_rfl) ?_
         refine R.go 1 (k22 13 ?_)
         refine k13 eI (rowR (hyM xs x) y) [lowF (invA xs xs.length) (band ((invA xs xs.length).getD x 0) ((invA xs xs.length).getD y 0))] 4 2 1 8 eI_one ?_
         refine R.go 1 (k22 14 ?_)
         refine R.go 2 (k21 ?_)
         exact k26
        ·refine R.go 2 (k22 5 ?_)
         refine R.go 2 (k22 10 ?_)
         refine R.go 2 (k22 11 ?_)
         refine k15 true (l18Low_c (invA xs xs.length) (band ((invA xs xs.length).getD x 0) ((invA xs xs.length).getD y 0)) (by first | omega | (simp <;> omega)) (by first | assumption | exact inM_mono (by omega) (by assumption))) rfl ?_
         refine R.go 1 (k22 12 ?_)
         refine R.lit (s := 1) (n := 1) (cs := rows eI [lowF (invA xs xs.length) (band ((invA xs xs.length).getD x 0) ((invA xs xs.length).getD y 0))]) (by kernel_rfl) (by kernel_rfl) ?_
         refine R.go 1 (k22 13 ?_)
         refine k13 eI (rowR (hyM xs x) y) [lowF (invA xs xs.length) (band ((invA xs xs.length).getD x 0) ((invA xs xs.length).getD y 0))] 4 2 1 8 eI_one ?_
         refine R.go 1 (k22 14 ?_)
         refine R.go 2 (k21 ?_)
         exact k26
       ·refine R.go 1 (R.meet (⟨(frm 168 [(0, LI xs), (2, .ptr 0 0), (4, AI xs.length), (5, LI (invA xs xs.length)), (6, .ptr 1 0), (7, AI (x : Int)), (8, .ref 4), (9, .ref 5), (10, AI (y : Int)), (54, AI (y : Int)), (55, AI xs.length), (56, .bool (decide ((y : Int) < (xs.length : Int)))), (60, LI (invA xs xs.length)), (61, LI (invA xs xs.length)), (62, AI (x : Int)), (63, .rptr [AI ((invA xs xs.length).getD x 0)]), (64, AI ((invA xs xs.length).getD x 0)), (65, LI (invA xs xs.length)), (66, AI (y : Int)), (67, .rptr [AI ((invA xs xs.length).getD y 0)]), (68, AI ((invA xs xs.length).getD y 0)), (69, AI (band ((invA xs xs.length).getD x 0) ((invA xs xs.length).getD y 0))), (70, AI (lowF (invA xs xs.length) (band ((invA xs xs.length).getD x 0) ((invA xs xs.length).getD y 0)))), (71, LI [lowF (invA xs xs.length) (band ((invA xs xs.length).getD x 0) ((invA xs xs.length).getD y 0))]), (72, .ref 4), (74, LI xs), (75, LI xs), (76, AI (x : Int)), (77, .rptr [AI (xs.getD x 0)]), (78, AI (xs.getD x 0)), (79, LI xs), (80, AI (y : Int)), (81, .rptr [AI (xs.getD y 0)]), (82, AI (xs.getD y 0)), (83, AI (band (xs.getD x 0) (xs.getD y 0))), (84, AI (lowF xs (band (xs.getD x 0) (xs.getD y 0)))), (85, LI [lowF xs (band (xs.getD x 0) (xs.getD y 0))]), (86, .ref 5)]), [.box 26 [.nil, .nil, .nil, AI 0, AI 0], .box 26 [.ref 2, .ref 3, .nil, AI (lowF xs ((shl64 1 xs.length) - 1)), AI (lowF (invA xs xs.length) ((shl64 1 xs.length) - 1))], rowA eLI 30 1 (tabR (hyM xs) xs.length x), rowA eLI 30 1 (tabR (hyJ xs) xs.length x), rowA eI 2 1 ((rowR (hyM xs x) y) ++ [lowF (invA xs xs.length) (band ((invA xs xs.length).getD x 0) ((invA xs xs.length).getD y 0))]), rowA eI 2 1 ((rowR (hyJ xs x) y) ++ [lowF xs (band (xs.getD x 0) (xs.getD y 0))])]⟩ : St) (by kernel_rfl) ?_ ?_)
        ·refine R.any (by decide +kernel) (by kernel_rfl) ?_
         refine k25 0 (np_meet _) ?_
         refine k25 1 (np_meet _) ?_
         refine k25 2 (np_meet _) ?_
         refine k25 3 (np_meet _) ?_
         refine k25 6 (np_meet _) ?_
         refine k25 7 (np_meet _) ?_
         refine k32 4 eI xs 0 x (x : Int) rfl eI_len (np_meet _) ?_
         refine k32 8 eI xs 0 y (y : Int) rfl eI_len (np_meet _) ?_
         refine k23 5 9 ?_ ?_
         ·refine R.go 2 (k22 9 ?_)
          refine R.go 2 (k22 10 ?_)
          refine R.go 2 (k22 11 ?_)
          refine k15 true (l18Low_c xs (band (xs.getD x 0) (xs.getD y 0)) (by first | omega | (simp <;> omega)) (by first | assumption | exact inM_mono (by omega) (by assumption))) rfl ?_
          refine R.go 1 (k22 12 ?_)
          refine R.lit (s := 1) (n := 1) (cs := rows eI [lowF xs (band (xs.getD x 0) (xs.getD y 0))]) (by kernel_rfl) (by kernel_rfl) ?_
          refine R.go 1 (k22 13 ?_)
          refine k13 eI (rowR (hyJ xs x) y) [lowF xs (band (xs.getD x 0) (xs.getD y 0))] 5 2 1 8 eI_one ?_
          refine R.go 1 (k22 14 ?_)
          refine R.go 2 (k21 ?_)
          exact k26
         ·refine R.go 2 (k22 5 ?_)
          refine R.go 2 (k22 10 ?_)
          refine R.go 2 (k22 11 ?_)
          refine k15 true (l18Low_c xs (band (xs.getD x 0) (xs.getD y 0)) (by first | omega | (simp <;> omega)) (by first | assumption | exact inM_mono (by omega) (by assumption))) rfl ?_
          refine R.go 1 (k22 12 ?_)
          refine R.lit (s := 1) (n := 1) (cs := rows eI [lowF xs (band (xs.getD x 0) (xs.getD y 0))]) (by kernel_rfl) (by kernel_rfl) ?_
          refine R.go 1 (k22 13 ?_)
          refine k13 eI (rowR (hyJ xs x) y) [lowF xs (band (xs.getD x 0) (xs.getD y 0))] 5 2 1 8 eI_one ?_
          refine R.go 1 (k22 14 ?_)
          refine R.go 2 (k21 ?_)
          exact k26
        ·have hg1 : (((rowR (hyM xs x) y) ++ [lowF (invA xs xs.length) (band ((invA xs xs.length).getD x 0) ((invA xs xs.length).getD y 0))])).getD y 0 = hyM xs x y := rowR_last (f := hyM xs x) rfl
         have hg2 : (((rowR (hyJ xs x) y) ++ [lowF xs (band (xs.getD x 0) (xs.getD y 0))])).getD y 0 = hyJ xs x y := rowR_last (f := hyJ xs x) rfl
         have hg3 : (((rowR (hyM xs x) y) ++ [lowF (invA xs xs.length) (band ((invA xs xs.length).getD x 0) ((invA xs xs.length).getD y 0))])).length = y + 1 := rowR_lenS
         have hg4 : (((rowR (hyJ xs x) y) ++ [lowF xs (band (xs.getD x 0) (xs.getD y 0))])).length = y + 1 := rowR_lenS
         refine R.go 4 (k9 4 1 ((rowR (hyM xs x) y) ++ [lowF (invA xs xs.length) (band ((invA xs xs.length).getD x 0) ((invA xs xs.length).getD y 0))]).length y (y : Int) ?_ (hji := rfl) (hj := by first | omega | (simp only [List.length_set]; omega) | (simp <;> omega)))
         refine k11 ((rowR (hyM xs x) y) ++ [lowF (invA xs xs.length) (band ((invA xs xs.length).getD x 0) ((invA xs xs.length).getD y 0))]) y ?_ (hj := by first | omega | (simp only [List.length_set]; omega) | (simp <;> omega))
         refine R.go 2 ?_
         by_cases c15 : (((rowR (hyM xs x) y) ++ [lowF (invA xs xs.length) (band ((invA xs xs.length).getD x 0) ((invA xs xs.length).getD y 0))]).getD y 0) < 0
         ·refine k6 (decide ((((rowR (hyM xs x) y) ++ [lowF (invA xs xs.length) (band ((invA xs xs.length).getD x 0) ((invA xs xs.length).getD y 0))]).getD y 0) < 0)) false (dT c15) ?_
          refine k6 (decide ((((rowR (hyM xs x) y) ++ [lowF (invA xs xs.length) (band ((invA xs xs.length).getD x 0) ((invA xs xs.length).getD y 0))]).getD y 0) < 0)) false (dT c15) ?_
          refine k6 (decide ((((rowR (hyM xs x) y) ++ [lowF (invA xs xs.length) (band ((invA xs xs.length).getD x 0) ((invA xs xs.length).getD y 0))]).getD y 0) < 0)) false (dT c15) ?_
          refine k6 (decide ((((rowR (hyM xs x) y) ++ [lowF (invA xs xs.length) (band ((invA xs xs.length).getD x 0) ((invA xs xs.length).getD y 0))]).getD y 0) < 0)) false (dT c15) ?_
          refine k6 (decide ((((rowR (hyM xs x) y) ++ [lowF (invA xs xs.length) (band ((invA xs xs.length).getD x 0) ((invA xs xs.length).getD y 0))]).getD y 0) < 0)) false (dT c15) ?_
          refine k7 (decide ((((rowR (hyM xs x) y) ++ [lowF (invA xs xs.length) (band ((invA xs xs.length).getD x 0) ((invA xs xs.length).getD y 0))]).getD y 0) < 0)) true (dT c15) ?_
          exact R.go 8 (k18 (.tup [.agg [.nil, .nil, .nil, AI 0, AI 0], .bool false]) (by rfl))
         ·refine k5 (decide ((((rowR (hyM xs x) y) ++ [lowF (invA xs xs.length) (band ((invA xs xs.length).getD x 0) ((invA xs xs.length).getD y 0))]).getD y 0) < 0)) false (dF c15) ?_
          refine R.go 1 (k5 (decide ((((rowR (hyM xs x) y) ++ [lowF (invA xs xs.length) (band ((invA xs xs.length).getD x 0) ((invA xs xs.length).getD y 0))]).getD y 0) < 0)) false (dF c15) ?_)
          refine R.go 1 (k5 (decide ((((rowR (hyM xs x) y) ++ [lowF (invA xs xs.length) (band ((invA xs xs.length).getD x 0) ((invA xs xs.length).getD y 0))]).getD y 0) < 0)) false (dF c15) ?_)
          refine k9 5 1 ((rowR (hyJ xs x) y) ++ [lowF xs (band (xs.getD x 0) (xs.getD y 0))]).length y (y : Int) ?_ (hji := rfl) (hj := by first | omega | (simp only [List.length_set]; omega) | (simp <;> omega))
          refine k5 (decide ((((rowR (hyM xs x) y) ++ [lowF (invA xs xs.length) (band ((invA xs xs.length).getD x 0) ((invA xs xs.length).getD y 0))]).getD y 0) < 0)) false (dF c15) ?_
          refine k11 ((rowR (hyJ xs x) y) ++ [lowF xs (band (xs.getD x 0) (xs.getD y 0))]) y ?_ (hj := by first | omega | (simp only [List.length_set]; omega) | (simp <;> omega))
          refine k5 (decide ((((rowR (hyM xs x) y) ++ [lowF (invA xs xs.length) (band ((invA xs xs.length).getD x 0) ((invA xs xs.length).getD y 0))]).getD y 0) < 0)) false (dF c15) ?_
          refine R.go 1 (k7 (decide ((((rowR (hyM xs x) y) ++ [lowF (invA xs xs.length) (band ((invA xs xs.length).getD x 0) ((invA xs xs.length).getD y 0))]).getD y 0) < 0)) false (dF c15) ?_)
          refine R.go 1 (k3 ((((rowR (hyJ xs x) y) ++ [lowF xs (band (xs.getD x 0) (xs.getD y 0))]).getD y 0) < 0) (fun c16 => ?_) (fun c16 => ?_))
          ·exact R.go 6 (k18 (.tup [.agg [.nil, .nil, .nil, AI 0, AI 0], .bool false]) (by rfl))
          ·refine R.go 4 (k1 ((y : Int) + 1) ?_)
           exact R.go 2 (k17 R10 (N11 (y + 1, (rowR (hyM xs x) y) ++ [lowF (invA xs xs.length) (band ((invA xs xs.length).getD x 0) ((invA xs xs.length).getD y 0))], (rowR (hyJ xs x) y) ++ [lowF xs (band (xs.getD x 0) (xs.getD y 0))]) [0, 2, 4, 5, 6, 7, 8, 9, 10] none _ (by kernel_rfl) (by kernel_rfl) ⟨(by omega), (by exact mj_step (by assumption) (by omega) (by omega)), (by exact rowR_snoc), (by exact rowR_snoc)⟩ (by show (xs.length - (y + 1)) < (xs.length - y); omega)))
      ·refine R.go 6 (k13 eLI [] (tabR (hyM xs) xs.length x) 6 30 1 24 eLI_one ?_)
       refine R.go 1 (k19 4 ?_)
       refine R.go 1 (k13 eLI ([] ++ (tabR (hyM xs) xs.length x)) [rowR (hyM xs x) y] 6 30 1 24 eLI_one ?_)
       refine R.go 7 (k13 eLI [] (tabR (hyJ xs) xs.length x) 8 30 1 24 eLI_one ?_)
       refine R.go 1 (k19 5 ?_)
       refine R.go 1 (k13 eLI ([] ++ (tabR (hyJ xs) xs.length x)) [rowR (hyJ xs x) y] 8 30 1 24 eLI_one ?_)
       refine R.go 6 (k1 ((x : Int) + 1) ?_)
       exact R.go 2 (k17 R5 (N6 (x + 1, [] ++ (tabR (hyM xs) xs.length x) ++ [rowR (hyM xs x) y], [] ++ (tabR (hyJ xs) xs.length x) ++ [rowR (hyJ xs x) y]) [0, 2, 4, 5, 6, 7] (some [0, 1, 6, 8]) _ (by kernel_rfl) (by kernel_rfl) ⟨(by omega), (by exact rw_step (P := MJ xs) (by assumption) (‹∀ q : Nat, q < y → MJ xs x q›) (by omega)), (by rw [show y = xs.length by omega]; exact tabR_snoc), (by rw [show y = xs.length by omega]; exact tabR_snoc)⟩ (by show (xs.length - (x + 1)) < (xs.length - x); omega)))
     ·refine R.go 7 (R.nilB 1 2 30 1 (by kernel_rfl) ?_)
      refine k16 ((fun | (u, LJ) => (⟨(frm 168 [(0, LI xs), (2, .ptr 0 0), (4, AI xs.length), (5, LI (invA xs xs.length)), (6, .ptr 1 0), (11, AI (u : Int))]), [.box 26 [.nil, .nil, .nil, AI 0, AI 0], .box 26 [.ref 2, .ref 3, .ref 4, AI (lowF xs ((shl64 1 xs.length) - 1)), AI (lowF (invA xs xs.length) ((shl64 1 xs.length) - 1))], rowA eLI 30 1 (tabR (hyM xs) xs.length x), rowA eLI 30 1 (tabR (hyJ xs) xs.length x), rowA eLI 30 1 LJ]⟩ : St) : Nat × (List (List Int)) → St)) (fun | (u, LJ) => (u ≤ xs.length) ∧ (∀ p : Nat, p < u → ∀ q : Nat, q < xs.length → 0 ≤ hyI xs p q) ∧ (LJ = tabR (hyI xs) xs.length u)) (fun | (u, LJ) => xs.length - u) (0, []) [0, 2, 4, 5, 6, 11] none ⟨(by omega), (by exact fun p hp => absurd hp (by omega)), (by rfl)⟩ ?_
      rintro ⟨u, LJ⟩ ⟨h20_1, h20_2, rfl⟩ R17 N18
      have hjl := tabR_len (hyI xs) xs.length u
      have hF : ¬ (u : Int) < (xs.length : Int) → (1 : Int) ≤ 0 := fun hu9 => False.elim (hyN_end hN (by omega) (by assumption) (fun p hp => (‹∀ p : Nat, p < x → ∀ q : Nat, q < xs.length → MJ xs p q›) p (by omega)) (fun p hp => (‹∀ p : Nat, p < u → ∀ q : Nat, q < xs.length → 0 ≤ hyI xs p q›) p (by omega)))
      refine R.go 7 (k3 ((u : Int) < (xs.length : Int)) (fun c21 => ?_) (fun c21 => ?_))
      ·refine R.go 14 (k16 ((fun | (w, C) => (⟨(frm 168 [(0, LI xs), (2, .ptr 0 0), (4, AI xs.length), (5, LI (invA xs xs.length)), (6, .ptr 1 0), (11, AI (u : Int)), (12, .ref 5), (13, AI (w : Int))]), [.box 26 [.nil, .nil, .nil, AI 0, AI 0], .box 26 [.ref 2, .ref 3, .ref 4, AI (lowF xs ((shl64 1 xs.length) - 1)), AI (lowF (invA xs xs.length) ((shl64 1 xs.length) - 1))], rowA eLI 30 1 (tabR (hyM xs) xs.length x), rowA eLI 30 1 (tabR (hyJ xs) xs.length x), rowA eLI 30 1 (tabR (hyI xs) xs.length u), rowA eI 2 1 C]⟩ : St) : Nat × (List Int) → St)) (fun | (w, C) => (w ≤ xs.length) ∧ (∀ q : Nat, q < w → 0 ≤ hyI xs u q) ∧ (C = rowR (hyI xs u) w)) (fun | (w, C) => xs.length - w) (0, []) [0, 2, 4, 5, 6, 11, 12, 13] none ⟨(by omega), (by exact fun p hp => absurd hp (by omega)), (by rfl)⟩ ?_)
       rintro ⟨w, C⟩ ⟨h25_1, h25_2, rfl⟩ R22 N23
       have hcr := rowR_len (hyI xs u) w
       refine R.go 7 (k3 ((w : Int) < (xs.length : Int)) (fun c26 => ?_) (fun c26 => ?_))
       ·refine R.go 13 (k16 ((fun | (z, cm) => (⟨(frm 168 [(0, LI xs), (2, .ptr 0 0), (4, AI xs.length), (5, LI (invA xs xs.length)), (6, .ptr 1 0), (11, AI (u : Int)), (12, .ref 5), (13, AI (w : Int)), (14, AI cm), (15, AI (z : Int))]), [.box 26 [.nil, .nil, .nil, AI 0, AI 0], .box 26 [.ref 2, .ref 3, .ref 4, AI (lowF xs ((shl64 1 xs.length) - 1)), AI (lowF (invA xs xs.length) ((shl64 1 xs.length) - 1))], rowA eLI 30 1 (tabR (hyM xs) xs.length x), rowA eLI 30 1 (tabR (hyJ xs) xs.length x), rowA eLI 30 1 (tabR (hyI xs) xs.length u), rowA eI 2 1 (rowR (hyI xs u) w)]⟩ : St) : Nat × Int → St)) (fun | (z, cm) => (z ≤ xs.length) ∧ (cm = hyC xs u w z)) (fun | (z, cm) => xs.length - z) (0, 0) [0, 2, 4, 5, 6, 11, 12, 13, 14, 15] none ⟨(by omega), (by rfl)⟩ ?_)
        rintro ⟨z, cm⟩ ⟨h30_1, rfl⟩ R27 N28
        refine R.go 7 (k3 ((z : Int) < (xs.length : Int)) (fun c31 => ?_) (fun c31 => ?_))
        ·have hzx : x = xs.length := by omega
         have hat := tabL_at (f := hyM xs) (N := xs.length) (x := x) (i := z) (j := u) (by omega) (by omega)
         have hva := hat.1
         have hvl := hat.2
         have hvm : 0 ≤ hyM xs z u := ((‹∀ p : Nat, p < x → ∀ q : Nat, q < xs.length → MJ xs p q›) z (by omega) u (by omega)).1
         have hvr := hyM_rngN hvm
         have hvx := hxi ((((tabR (hyM xs) xs.length x).getD z []).getD u 0).toNat) (by omega)
         refine R.go 9 (k9 2 1 (tabR (hyM xs) xs.length x).length z (z : Int) ?_ (hji := rfl))
         refine R.ldE eLI 1 0 (tabR (hyM xs) xs.length x) [] z (LI ((tabR (hyM xs) xs.length x).getD z [])) (by kernel_rfl) eLI_len (by omega) rfl (by kernel_rfl) ?_
         refine R.go 1 (k8 eI ((tabR (hyM xs) xs.length x).getD z []) 0 u (u : Int) rfl eI_len ?_ (hj := by first | omega | (simp only [List.length_set]; omega) | (simp <;> omega)))
         refine R.go 1 (k8 eI xs 0 (((((tabR (hyM xs) xs.length x).getD z []).getD u 0)).toNat) (((tabR (hyM xs) xs.length x).getD z []).getD u 0) (by omega) eI_len ?_)
         refine R.go 2 (k15 true (l01Bit_c (xs.getD (((((tabR (hyM xs) xs.length x).getD z []).getD u 0)).toNat) 0) (w : Int) (by omega) (by omega)) rfl ?_)
         refine R.go 1 (k3 (band (shr64 (xs.getD (((((tabR (hyM xs) xs.length x).getD z []).getD u 0)).toNat) 0) (w : Int)) 1 = 1) (fun c32 => ?_) (fun c32 => ?_))
         ·refine R.go 3 (k15 true (l01One_c (z : Int) (by omega) (by omega)) rfl ?_)
          refine R.go 6 (k1 ((z : Int) + 1) ?_)
          exact R.go 2 (k17 R27 (N28 (z + 1, bor (hyC xs u w z) (shl64 1 (z : Int))) [0, 2, 4, 5, 6, 11, 12, 13, 14, 15] none _ (by kernel_rfl) (by kernel_rfl) ⟨(by omega), (by first | exact hyC_yesN h30 hR hvm (by omega) hva ((spec_bitN h30 hR (by omega) (by omega) (by omega)).1 (by assumption)) | exact hyC_noN h30 hR hvm (by omega) hva (fun q => absurd ((spec_bitN h30 hR (by omega) (by omega) (by omega)).2 q) (by assumption)))⟩ (by show (xs.length - (z + 1)) < (xs.length - z); omega)))
         ·refine R.go 4 (k1 ((z : Int) + 1) ?_)
          exact R.go 2 (k17 R27 (N28 (z + 1, hyC xs u w z) [0, 2, 4, 5, 6, 11, 12, 13, 14, 15] none _ (by kernel_rfl) (by kernel_rfl) ⟨(by omega), (by first | exact hyC_yesN h30 hR hvm (by omega) hva ((spec_bitN h30 hR (by omega) (by omega) (by omega)).1 (by assumption)) | exact hyC_noN h30 hR hvm (by omega) hva (fun q => absurd ((spec_bitN h30 hR (by omega) (by omega) (by omega)).2 q) (by assumption)))⟩ (by show (xs.length - (z + 1)) < (xs.length - z); omega)))
        ·have hcz := inM_mono (n' := 61) (by omega) (hyC_inN h30 u w (z := z) (by omega))
         refine R.go 5 (k15 true (l18Low_c (invA xs xs.length) (hyC xs u w z) (by first | omega | (simp <;> omega)) (by first | assumption | exact inM_mono (by omega) (by assumption))) rfl ?_)
         refine R.go 8 (k3 ((lowF (invA xs xs.length) (hyC xs u w z)) < 0) (fun c33 => ?_) (fun c33 => ?_))
         ·exact R.go 6 (k18 (.tup [.agg [.nil, .nil, .nil, AI 0, AI 0], .bool false]) (by rfl))
         ·have hcl : 0 ≤ hyI xs u w := by have h9 : 0 ≤ lowF (invA xs xs.length) (hyC xs u w z) := (by omega); rwa [show z = xs.length by omega] at h9
          refine R.go 5 (k13 eI (rowR (hyI xs u) w) [lowF (invA xs xs.length) (hyC xs u w z)] 5 2 1 8 eI_one ?_)
          refine R.go 5 (k1 ((w : Int) + 1) ?_)
          exact R.go 2 (k17 R22 (N23 (w + 1, (rowR (hyI xs u) w) ++ [lowF (invA xs xs.length) (hyC xs u w z)]) [0, 2, 4, 5, 6, 11, 12, 13] (some [0, 1, 2, 3, 4, 5]) _ (by kernel_rfl) (by kernel_rfl) ⟨(by omega), (by exact below1 (by assumption) hcl), (by rw [show z = xs.length by omega]; exact rowR_snoc)⟩ (by show (xs.length - (w + 1)) < (xs.length - w); omega)))
       ·refine R.go 5 (k13 eLI [] (tabR (hyI xs) xs.length u) 6 30 1 24 eLI_one ?_)
        refine R.go 1 (k19 5 ?_)
        refine R.go 1 (k13 eLI ([] ++ (tabR (hyI xs) xs.length u)) [rowR (hyI xs u) w] 6 30 1 24 eLI_one ?_)
        refine R.go 6 (k1 ((u : Int) + 1) ?_)
        exact R.go 2 (k17 R17 (N18 (u + 1, [] ++ (tabR (hyI xs) xs.length u) ++ [rowR (hyI xs u) w]) [0, 2, 4, 5, 6, 11] (some [0, 1, 2, 3, 6]) _ (by kernel_rfl) (by kernel_rfl) ⟨(by omega), (by exact rw_step (P := fun p q => 0 ≤ hyI xs p q) (by assumption) (‹∀ q : Nat, q < w → 0 ≤ hyI xs u q›) (by omega)), (by rw [show w = xs.length by omega]; exact tabR_snoc)⟩ (by show (xs.length - (u + 1)) < (xs.length - u); omega)))
      ·exact R.go 7 (k18 (.tup [.agg [ownA eLI 30 1 (tabR (hyM xs) xs.length x), ownA eLI 30 1 (tabR (hyJ xs) xs.length x), ownA eLI 30 1 (tabR (hyI xs) xs.length u), AI (lowF xs ((shl64 1 xs.length) - 1)), AI (lowF (invA xs xs.length) ((shl64 1 xs.length) - 1))], .bool true]) (by first | (first | rfl | (exfalso; exact hyN_end hN (by omega) (by assumption) (fun p hp => (‹∀ p : Nat, p < x → ∀ q : Nat, q < xs.length → MJ xs p q›) p (by omega)) (fun p hp => (‹∀ p : Nat, p < u → ∀ q : Nat, q < xs.length → 0 ≤ hyI xs p q›) p (by omega)))) | (exfalso; omega)))

end Go.Proofs.YtjllngcefoohpaaGreat
