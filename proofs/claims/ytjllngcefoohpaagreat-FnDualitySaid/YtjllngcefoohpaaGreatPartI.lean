/- Texts of the proof: HY2, HY3, HM1. -/
import Derived.Test.YtjllngcefoohpaaGreatPartH

/-! Heyting algebras of orders: both programs' tables. -/
namespace Go.Proofs.YtjllngcefoohpaaGreat
open Go.RowKit Go.Abs
def rowR (f : Nat → Int) (N : Nat) : List Int := (List.range N).map f
def rowT (f : Nat → Int) (N y : Nat) : List Int := (List.range N).map fun j => if j < y then f j else 0
def tabR (f : Nat → Nat → Int) (N x : Nat) : List (List Int) := (List.range x).map fun i => rowR (f i) N
theorem rowR_len (f : Nat → Int) (N : Nat) : (rowR f N).length = N := by simp [rowR]
theorem rowT_len (f : Nat → Int) (N y : Nat) : (rowT f N y).length = N := by simp [rowT]
theorem tabR_len (f : Nat → Nat → Int) (N x : Nat) : (tabR f N x).length = x := by simp [tabR]
theorem rowR_get {f : Nat → Int} {N j : Nat} (h : j < N) : (rowR f N).getD j 0 = f j := by simp [rowR, List.getD_eq_getElem?_getD, List.getElem?_range h]
theorem rowT_get {f : Nat → Int} {N y j : Nat} (h : j < N) : (rowT f N y).getD j 0 = if j < y then f j else 0 := by simp [rowT, List.getD_eq_getElem?_getD, List.getElem?_range h]
theorem tabR_get {f : Nat → Nat → Int} {N x i : Nat} (h : i < x) : (tabR f N x).getD i [] = rowR (f i) N := by simp [tabR, List.getD_eq_getElem?_getD, List.getElem?_range h]
theorem rowT_zero {f : Nat → Int} {N : Nat} : List.replicate N 0 = rowT f N 0 := by
 refine rowN_ext (N := N) (by simp) (rowT_len _ _ _) fun j hj => ?_
 rw [rowT_get hj, if_neg (by omega)]; simp [List.getD_eq_getElem?_getD, hj]
theorem rowT_set {f : Nat → Int} {N y : Nat} {v : Int} (hy : y < N) (hv : v = f y) : (rowT f N y).set y v = rowT f N (y + 1) := by
 refine rowN_ext (N := N) (by simp [rowT_len]) (rowT_len _ _ _) fun j hj => ?_
 rw [getD_set_if _ _ _ _ _ (by rw [rowT_len]; exact hy), rowT_get hj, rowT_get hj]
 by_cases e : y = j
 ·subst e; rw [if_pos rfl, if_pos (by omega), hv]
 ·rw [if_neg e]
  by_cases e2 : j < y
  ·rw [if_pos e2, if_pos (by omega)]
  ·rw [if_neg e2, if_neg (by omega)]
theorem rowT_end {f : Nat → Int} {N y : Nat} (h : y = N) : rowT f N y = rowR f N := by
 subst h
 refine rowN_ext (N := y) (rowT_len _ _ _) (rowR_len _ _) fun j hj => ?_
 rw [rowT_get hj, rowR_get hj, if_pos hj]
theorem rowR_snoc {f : Nat → Int} {y : Nat} : rowR f y ++ [f y] = rowR f (y + 1) := by simp [rowR, List.range_succ]
theorem tabR_snoc {f : Nat → Nat → Int} {N x : Nat} : tabR f N x ++ [rowR (f x) N] = tabR f N (x + 1) := by simp [tabR, List.range_succ]
def hyM (xs : List Int) (x y : Nat) : Int := lowF (invA xs xs.length) (band ((invA xs xs.length).getD x 0) ((invA xs xs.length).getD y 0))
def hyJ (xs : List Int) (x y : Nat) : Int := lowF xs (band (xs.getD x 0) (xs.getD y 0))
def hyC (xs : List Int) (x y z : Nat) : Int := mkB (fun z => tb ((invA xs xs.length).getD y 0) (hyM xs z x).toNat) z
def hyI (xs : List Int) (x y : Nat) : Int := lowF (invA xs xs.length) (hyC xs x y xs.length)
def fullM (N : Nat) : Int := (shl64 1 (N : Int)) - 1
structure HyOK (xs : List Int) : Prop where
 n0 : 0 < xs.length
 n30 : xs.length ≤ 30
 rel : RelOK xs.length xs
 pa : paB xs.length xs = true
 me : ∀ x y : Nat, x < xs.length → y < xs.length → 0 ≤ hyM xs x y
 jo : ∀ x y : Nat, x < xs.length → y < xs.length → 0 ≤ hyJ xs x y
 im : ∀ x y : Nat, x < xs.length → y < xs.length → 0 ≤ hyI xs x y
 bo : 0 ≤ lowF xs (fullM xs.length)
 to : 0 ≤ lowF (invA xs xs.length) (fullM xs.length)
theorem lowB_of {bl : List Int} {m : Int} (h : 0 ≤ lowF bl m) : lowB bl m = true := decide_eq_true h
theorem lowV_of {bl : List Int} {m : Int} (h : 0 ≤ lowF bl m) : lowV bl m = lowF bl m := if_pos h
theorem inv_rel {xs : List Int} (h : HyOK xs) : RelOK xs.length (invA xs xs.length) ∧ ∀ j : Nat, j < xs.length → ∀ k, tb ((invA xs xs.length).getD j 0) k = true ↔ k < xs.length ∧ tb (xs.getD k 0) j = true := invA_ok h.rel h.n30 _ (Nat.le_refl _)
theorem hyM_rng {xs : List Int} (h : HyOK xs) {x y : Nat} (hx : x < xs.length) (hy : y < xs.length) : 0 ≤ hyM xs x y ∧ hyM xs x y < (xs.length : Int) := by
 have h1 := lowF_rng (invA xs xs.length) (band ((invA xs xs.length).getD x 0) ((invA xs xs.length).getD y 0))
 rw [invA_len] at h1
 exact ⟨h.me x y hx hy, h1.2⟩
theorem hyC_in {xs : List Int} (h : HyOK xs) (x y : Nat) {z : Nat} (hz : z ≤ xs.length) : InM xs.length (hyC xs x y z) := (mkB_ok _ (by have := h.n30; omega) z hz).1
theorem hyC_yes {xs : List Int} (h : HyOK xs) {x y z : Nat} {a : Int} (hx : x < xs.length) (hy : y < xs.length) (hz : z < xs.length) (ha : a = hyM xs z x) (hb : band (shr64 ((invA xs xs.length).getD y 0) a) 1 = 1) : bor (hyC xs x y z) (shl64 1 (z : Int)) = hyC xs x y (z + 1) := by
 have h1 := hyM_rng h hz hx
 have h2 := (inv_rel h).1.2 y hy
 rw [hyC, hyC]
 refine mkB_yes (P := fun z => tb ((invA xs xs.length).getD y 0) (hyM xs z x).toNat) ?_
 have h3 := has_tb (n := xs.length) (i := (hyM xs z x).toNat) (by have := h.n30; omega) h2 (by have := h.n30; omega)
 rw [show (((hyM xs z x).toNat : Nat) : Int) = hyM xs z x by omega] at h3
 rw [ha] at hb
 exact h3.1 hb
theorem hyC_no {xs : List Int} (h : HyOK xs) {x y z : Nat} {a : Int} (hx : x < xs.length) (hy : y < xs.length) (hz : z < xs.length) (ha : a = hyM xs z x) (hb : ¬ band (shr64 ((invA xs xs.length).getD y 0) a) 1 = 1) : hyC xs x y z = hyC xs x y (z + 1) := by
 have h1 := hyM_rng h hz hx
 have h2 := (inv_rel h).1.2 y hy
 rw [hyC, hyC]
 refine mkB_no (P := fun z => tb ((invA xs xs.length).getD y 0) (hyM xs z x).toNat) ?_
 have h3 := has_tb (n := xs.length) (i := (hyM xs z x).toNat) (by have := h.n30; omega) h2 (by have := h.n30; omega)
 rw [show (((hyM xs z x).toNat : Nat) : Int) = hyM xs z x by omega] at h3
 rw [ha] at hb
 cases e : tb ((invA xs xs.length).getD y 0) (hyM xs z x).toNat with
 | false => rfl
 | true => exact absurd (h3.2 e) hb
theorem spec_bit {xs : List Int} (h : HyOK xs) {y : Nat} {a : Int} (hy : y < xs.length) (h0 : 0 ≤ a) (h1 : a < (xs.length : Int)) : band (shr64 (xs.getD a.toNat 0) (y : Int)) 1 = 1 ↔ band (shr64 ((invA xs xs.length).getD y 0) a) 1 = 1 := by
 have hi := inv_rel h
 have hn := h.n30
 have k1 := has_tb (n := xs.length) (i := y) (by omega) (h.rel.2 a.toNat (by omega)) (by omega)
 have k2 := has_tb (n := xs.length) (i := a.toNat) (by omega) (hi.1.2 y hy) (by omega)
 rw [show ((a.toNat : Nat) : Int) = a by omega] at k2
 rw [k1, k2, hi.2 y hy]
 exact ⟨fun e => ⟨by omega, e⟩, fun e => e.2⟩
def NX {α β : Type} (L : List (Value × α)) (K : List (Value × β)) : Prop := ∀ u ∈ L, ∀ w ∈ K, ∀ g, blk u.1 = some g → blk w.1 ≠ some g
theorem NX.nil {α β : Type} {K : List (Value × β)} : NX ([] : List (Value × α)) K := fun u h => by simp at h
theorem NX.nil' {α β : Type} {L : List (Value × α)} : NX L ([] : List (Value × β)) := fun u _ w h => by simp at h
theorem NX.snoc {α β : Type} {L : List (Value × α)} {K : List (Value × β)} {v v' : Value} {x : α} {y : β} (h : NX L K) (h1 : ∀ u ∈ K, ∀ g, blk v = some g → blk u.1 ≠ some g) (h2 : ∀ u ∈ L, ∀ g, blk v' = some g → blk u.1 ≠ some g) (h3 : ∀ g, blk v' = some g → blk v ≠ some g) : NX (L ++ [(v, x)]) (K ++ [(v', y)]) := by
 intro u hu w hw g a b
 rcases List.mem_append.1 hu with hu | hu <;> rcases List.mem_append.1 hw with hw | hw
 ·exact h u hu w hw g a b
 ·simp at hw; subst hw; exact h2 u hu g b a
 ·simp at hu; subst hu; exact h1 w hw g a b
 ·simp at hu hw; subst hu hw; exact h3 g b a
theorem NX.snocR {α β : Type} {L : List (Value × α)} {K : List (Value × β)} {v' : Value} {y : β} (h : NX L K) (h2 : ∀ u ∈ L, ∀ g, blk v' = some g → blk u.1 ≠ some g) : NX L (K ++ [(v', y)]) := by
 intro u hu w hw g a b
 rcases List.mem_append.1 hw with hw | hw
 ·exact h u hu w hw g a b
 ·simp at hw; subst hw; exact h2 u hu g b a
theorem tabV_len {f : Nat → Nat → Int} {N x : Nat} {L : List (Value × List Int)} (h : L.map Prod.snd = tabR f N x) : L.length = x := by rw [lenV h, tabR_len]
theorem tabV_row {f : Nat → Nat → Int} {N x i : Nat} {L : List (Value × List Int)} (h : L.map Prod.snd = tabR f N x) (hi : i < x) : (L.getD i (.bool false, [])).2 = rowR (f i) N := by
 rw [getV i (by rw [tabV_len h]; exact hi), h, tabR_get hi]
theorem tabV_at {f : Nat → Nat → Int} {N x i j : Nat} {L : List (Value × List Int)} (h : L.map Prod.snd = tabR f N x) (hi : i < x) (hj : j < N) : (L.getD i (.bool false, [])).2.getD j 0 = f i j ∧ (L.getD i (.bool false, [])).2.length = N := by
 rw [tabV_row h hi, rowR_get hj, rowR_len]; exact ⟨rfl, rfl⟩
theorem tabL_at {f : Nat → Nat → Int} {N x i j : Nat} (hi : i < x) (hj : j < N) : ((tabR f N x).getD i []).getD j 0 = f i j ∧ ((tabR f N x).getD i []).length = N := by
 rw [tabR_get hi, rowR_get hj, rowR_len]; exact ⟨rfl, rfl⟩
set_option maxHeartbeats 1000000 in
theorem heytingOf_c (xs : List Int) (hH : HyOK xs) : CallE Tryz.prog 134 [LI xs] (fun (b : Nat) (r : AV) => ∃ LA LO LJ : List (Value × List Int), r = .tup [.agg [ownA (eV eI 2 1) 30 1 LA, ownA (eV eI 2 1) 30 1 LO, ownA (eV eI 2 1) 30 1 LJ, AI (lowF xs (fullM xs.length)), AI (lowF (invA xs xs.length) (fullM xs.length))], .bool true] ∧ (NL b LA) ∧ (NL b LO) ∧ (NL b LJ) ∧ (NX LA LO) ∧ (NX LA LJ) ∧ (NX LO LJ) ∧ (LA.map Prod.snd = tabR (hyM xs) xs.length xs.length) ∧ (LO.map Prod.snd = tabR (hyJ xs) xs.length xs.length) ∧ (LJ.map Prod.snd = tabR (hyI xs) xs.length xs.length)) := by
 have hn := hH.n30
 have hn0 := hH.n0
 have hrel := hH.rel
 have hpa := hH.pa
 have hil := invA_len xs xs.length
 have hir := (inv_rel hH).1
 have hxi := fun (i : Nat) (hi : i < xs.length) => hrel.2 i hi
 have hbi := fun (i : Nat) (hi : i < xs.length) => hir.2 i hi
 have hrl : okRl (xs.length : Int) xs := okRl_of hn hrel
 have hfl : InM xs.length (fullM xs.length) := inM_full (by omega)
 have hsh : 1 ≤ shl64 1 (xs.length : Int) ∧ shl64 1 (xs.length : Int) ≤ 4611686018427387904 := shl_rng _ (by omega) (by omega)
 refine CallE.of Tryz.func134 rfl (by kernel_rfl) (fun b => (R.go 8 (k16 true (size_c xs) (R.go 5 (k16 true (frameOf2_c xs) ?_)))))
 have hpf : rB (xs.length : Int).toNat xs = true ∧ tB (xs.length : Int).toNat xs = true ∧ aB (xs.length : Int).toNat xs = true := by simpa [paB] using hpa
 have hf1 : rB (xs.length : Int).toNat xs = true := hpf.1
 have hf2 : tB (xs.length : Int).toNat xs = true := hpf.2.1
 have hf3 : aB (xs.length : Int).toNat xs = true := hpf.2.2
 refine R.go 9 ?_
 by_cases c1 : (xs.length : Int) = 0
 ·refine k7 false (dT c1) ?_
  iterate 2 refine k7 false (dT c1) ?_
  refine k8 true (dT c1) (R.go 18 (k21 1 0 30 1 (k21 1 1 30 1 (k21 1 2 30 1 ?_))))
  exact k30 (.tup [.agg [ownA (eV eI 2 1) 30 1 [], ownA (eV eI 2 1) 30 1 [], ownA (eV eI 2 1) 30 1 [], AI 0, AI 0], .bool false]) ⟨[], [], [], by first | rfl | (have e1 := lowV_of hH.bo; have e2 := lowV_of hH.to; unfold fullM at e1 e2; rw [e1, e2]; rfl) | (exfalso; omega), by first | (assumption) | (exfalso; omega), by first | (assumption) | (exfalso; omega), by first | (assumption) | (exfalso; omega), by first | (assumption) | (exfalso; omega), by first | (assumption) | (exfalso; omega), by first | (assumption) | (exfalso; omega), by first | (rw [‹LA.map Prod.snd = _›, show x = xs.length by omega]) | (exfalso; omega), by first | (rw [‹LO.map Prod.snd = _›, show x = xs.length by omega]) | (exfalso; omega), by first | (rw [‹LJ.map Prod.snd = _›, show u = xs.length by omega]) | (exfalso; omega)⟩
 refine k6 false (dF c1) (R.go 1 (k6 false (dF c1) (k16 true (hasFlagR2_c (xs.length : Int) xs hrl) (k6 false (dF c1) (R.go 1 (k8 false (dF c1) ?_))))))
 iterate 2 refine R.go 1 (k6 false (bnF hf1) ?_)
 refine k16 true (hasFlagT2_c (xs.length : Int) xs hrl) (k6 false (bnF hf1) (R.go 1 (k8 false (bnF hf1) ?_)))
 iterate 2 refine R.go 1 (k6 false (bnF hf2) ?_)
 refine k16 true (hasFlagA2_c (xs.length : Int) xs hrl) (k6 false (bnF hf2) (R.go 1 (k8 false (bnF hf2) (R.go 1 (k5 (bnF hf3) (R.go 4 (k16 true (inverse2G_c (xs.length : Int) xs (invA xs xs.length) hrl (by first | rfl | assumption)) (R.go 13 (k21 4 0 30 1 (k21 4 1 30 1 (k17 ((fun | (x, LA, LO) => (⟨(frm 184 [(0, LI xs), (2, .ptr 1 0), (4, AI xs.length), (6, .ref 2), (7, .ptr 3 0), (45, AI xs.length), (46, AI (x : Int))]), [.inert (.base b), .box 26 [.nil, .nil, .nil, AI 0, AI 0], rowA eI 2 1 (invA xs xs.length), .box 26 [.ref 4, .ref 5, .nil, AI 0, AI 0], rowA (eV eI 2 1) 30 1 LA, rowA (eV eI 2 1) 30 1 LO]⟩ : St) : Nat × (List (Value × List Int)) × (List (Value × List Int)) → St)) (fun | (x, LA, LO) => (x ≤ xs.length) ∧ (NL b LA) ∧ (NL b LO) ∧ (NX LA LO) ∧ (LA.map Prod.snd = tabR (hyM xs) xs.length x) ∧ (LO.map Prod.snd = tabR (hyJ xs) xs.length x)) (fun | (x, LA, LO) => xs.length - x) (0, [], []) [0, 2, 4, 6, 7, 45, 46] (some [0, 1, 3, 4, 5, 6]) ⟨(by omega), (by exact NL.nil), (by exact NL.nil), (by exact NX.nil), (by rfl), (by rfl)⟩ ?_)))))))))))
 rintro ⟨x, LA, LO⟩ ⟨h5_1, h5_2, h5_3, h5_4, h5_5, h5_6⟩ R2 N3
 have hla := tabV_len ‹LA.map Prod.snd = _›
 have hlo := tabV_len ‹LO.map Prod.snd = _›
 refine R.go 5 (k3 ((x : Int) < (xs.length : Int)) (fun c6 => ?_) (fun c6 => ?_))
 ·refine R.go 9 (R.meetJ (⟨(frm 184 [(0, LI xs), (2, .ptr 1 0), (4, AI xs.length), (6, .ref 2), (7, .ptr 3 0), (8, AI (x : Int)), (9, .ref 6), (10, .ref 7), (45, AI xs.length), (46, AI (x : Int)), (47, .bool (decide ((x : Int) < (xs.length : Int)))), (48, AI (x : Int)), (49, AI xs.length), (50, .ref 6), (51, AI xs.length), (52, .ref 7)]), [.inert (.base b), .box 26 [.nil, .nil, .nil, AI 0, AI 0], rowA eI 2 1 (invA xs xs.length), .box 26 [.ref 4, .ref 5, .nil, AI 0, AI 0], rowA (eV eI 2 1) 30 1 LA, rowA (eV eI 2 1) 30 1 LO, rowA eI 2 1 (List.replicate xs.length 0), rowA eI 2 1 (List.replicate xs.length 0)]⟩ : St) (by kernel_rfl) ?_ ?_)
  ·refine R.any (by decide +kernel) (by kernel_rfl) (k27 0 ?_ (np := np_meetJ _))
   refine k27 2 ?_ (np := np_meetJ _)
   refine k25 1 3 ?_ ?_
   ·refine k15 eI 0 2 8 xs.length xs.length (R.go 1 (k25 3 4 ?_ ?_))
    ·refine k15 eI 0 2 8 xs.length xs.length (R.go 1 (k24 4 (R.go 2 (k24 5 (R.go 2 (k23 ?_))))))
     exact R.metJ [0, 1, 2, 3, 4, 5, 6, 7] (by kernel_rfl) (by kernel_rfl) (by kernel_rfl)
    refine R.go 2 (k24 3 (k15 eI 0 2 8 xs.length xs.length (R.go 1 (k24 5 (R.go 2 (k23 ?_))))))
    exact R.metJ [0, 1, 2, 3, 4, 5, 6, 7] (by kernel_rfl) (by kernel_rfl) (by kernel_rfl)
   refine k15 eI 0 2 8 xs.length xs.length (R.go 1 (k24 1 (k15 eI 0 2 8 xs.length xs.length (R.go 1 (k24 4 (R.go 2 (k24 5 (R.go 2 (k23 ?_)))))))))
   exact R.metJ [0, 1, 2, 3, 4, 5, 7, 6] (by kernel_rfl) (by kernel_rfl) (by kernel_rfl)
  refine R.go 7 (k17 ((fun | (y, A, O) => (⟨(frm 184 [(0, LI xs), (2, .ptr 1 0), (4, AI xs.length), (6, .ref 2), (7, .ptr 3 0), (8, AI (x : Int)), (9, .ref 6), (10, .ref 7), (45, AI xs.length), (46, AI (x : Int)), (53, AI xs.length), (54, AI (y : Int))]), [.inert (.base b), .box 26 [.nil, .nil, .nil, AI 0, AI 0], rowA eI 2 1 (invA xs xs.length), .box 26 [.ref 4, .ref 5, .nil, AI 0, AI 0], rowA (eV eI 2 1) 30 1 LA, rowA (eV eI 2 1) 30 1 LO, rowA eI 2 1 A, rowA eI 2 1 O]⟩ : St) : Nat × (List Int) × (List Int) → St)) (fun | (y, A, O) => (y ≤ xs.length) ∧ (A = rowT (hyM xs x) xs.length y) ∧ (O = rowT (hyJ xs x) xs.length y)) (fun | (y, A, O) => xs.length - y) (0, (List.replicate xs.length 0), (List.replicate xs.length 0)) [0, 2, 4, 6, 7, 8, 9, 10, 45, 46, 53, 54] none ⟨(by omega), (by exact rowT_zero), (by exact rowT_zero)⟩ ?_)
  rintro ⟨y, A, O⟩ ⟨h10_1, rfl, rfl⟩ R7 N8
  have hAl := rowT_len (hyM xs x) xs.length y
  have hOl := rowT_len (hyJ xs x) xs.length y
  refine R.go 5 (k3 ((y : Int) < (xs.length : Int)) (fun c11 => ?_) (fun c11 => ?_))
  ·refine R.go 14 ?_
   have hbx := hbi x (by omega)
   have hby := hbi y (by omega)
   have hmm := inM_band (n := xs.length) (by omega) hbx hby
   have hlm := hH.me x y (by omega) (by omega)
   have hxx := hxi x (by omega)
   have hxy := hxi y (by omega)
   have hjj := inM_band (n := xs.length) (by omega) hxx hxy
   have hlj := hH.jo x y (by omega) (by omega)
   have hmm' : InM (invA xs xs.length).length (band ((invA xs xs.length).getD x 0) ((invA xs xs.length).getD y 0)) := by rw [hil]; exact hmm
   have hb1 : lowB (invA xs xs.length) (band ((invA xs xs.length).getD x 0) ((invA xs xs.length).getD y 0)) = true := lowB_of hlm
   have hb2 : lowB xs (band (xs.getD x 0) (xs.getD y 0)) = true := lowB_of hlj
   refine R.meet (⟨(frm 184 [(0, LI xs), (2, .ptr 1 0), (4, AI xs.length), (6, .ref 2), (7, .ptr 3 0), (8, AI (x : Int)), (9, .ref 6), (10, .ref 7), (11, AI (y : Int)), (12, .bool (lowB (invA xs xs.length) (band ((invA xs xs.length).getD x 0) ((invA xs xs.length).getD y 0)))), (13, .bool false), (45, AI xs.length), (46, AI (x : Int)), (53, AI xs.length), (54, AI (y : Int)), (55, .bool (decide ((y : Int) < (xs.length : Int)))), (56, AI (y : Int)), (57, .tup [AI (lowV (invA xs xs.length) (band ((invA xs xs.length).getD x 0) ((invA xs xs.length).getD y 0))), .bool (lowB (invA xs xs.length) (band ((invA xs xs.length).getD x 0) ((invA xs xs.length).getD y 0)))]), (58, .ref 6), (59, AI (y : Int)), (60, .ref 2), (61, AI (x : Int)), (62, .ptr 2 (x * 1)), (63, AI ((invA xs xs.length).getD x 0)), (64, .ref 2), (65, AI (y : Int)), (66, .ptr 2 (y * 1)), (67, AI ((invA xs xs.length).getD y 0)), (68, AI (band ((invA xs xs.length).getD x 0) ((invA xs xs.length).getD y 0))), (69, .ref 2), (70, .tup [AI (lowV (invA xs xs.length) (band ((invA xs xs.length).getD x 0) ((invA xs xs.length).getD y 0))), .bool (lowB (invA xs xs.length) (band ((invA xs xs.length).getD x 0) ((invA xs xs.length).getD y 0)))]), (71, AI (lowV (invA xs xs.length) (band ((invA xs xs.length).getD x 0) ((invA xs xs.length).getD y 0)))), (72, .bool (lowB (invA xs xs.length) (band ((invA xs xs.length).getD x 0) ((invA xs xs.length).getD y 0)))), (73, .ptr 6 (y * 1))]), [.inert (.base b), .box 26 [.nil, .nil, .nil, AI 0, AI 0], rowA eI 2 1 (invA xs xs.length), .box 26 [.ref 4, .ref 5, .nil, AI 0, AI 0], rowA (eV eI 2 1) 30 1 LA, rowA (eV eI 2 1) 30 1 LO, rowA eI 2 1 ((rowT (hyM xs x) xs.length y).set y (lowV (invA xs xs.length) (band ((invA xs xs.length).getD x 0) ((invA xs xs.length).getD y 0)))), rowA eI 2 1 (rowT (hyJ xs x) xs.length y)]⟩ : St) (by kernel_rfl) ?_ ?_
   ·refine R.any (by decide +kernel) (by kernel_rfl) (k27 0 (k27 1 (k27 2 (k27 3 (k27 6 (k27 7 (k27 11 (k37 4 2 1 (invA xs xs.length).length x (x : Int) (k37 8 2 1 (invA xs xs.length).length y (y : Int) ?_)))))))))
    refine k25 5 9 ?_ ?_
    ·refine k12 (invA xs xs.length) x (R.go 1 (k24 9 (k12 (invA xs xs.length) y (R.go 1 (k24 10 (R.go 2 (k24 12 (k16 false (greatest_c (band ((invA xs xs.length).getD x 0) ((invA xs xs.length).getD y 0)) (invA xs xs.length) (by first | omega | (simp <;> omega)) (by assumption)) ?_ (hr := by simp [AV.closed, closedL, AI])))))))))
     refine R.go 1 (k27 13 (R.anyX 14 (AI (lowV (invA xs xs.length) (band ((invA xs xs.length).getD x 0) ((invA xs xs.length).getD y 0)))) (by kernel_rfl) (np_meet _) (R.anyX 15 (.bool (lowB (invA xs xs.length) (band ((invA xs xs.length).getD x 0) ((invA xs xs.length).getD y 0)))) (by kernel_rfl) (np_meet _) (k37 16 6 1 (rowT (hyM xs x) xs.length y).length y (y : Int) (k24 17 (k13 6 2 (rowT (hyM xs x) xs.length y) y (lowV (invA xs xs.length) (band ((invA xs xs.length).getD x 0) ((invA xs xs.length).getD y 0))) (R.go 1 (k24 18 (R.go 2 (k23 ?_))))))))))
     exact k28
    refine k12 (invA xs xs.length) y (R.go 1 (k24 5 (k12 (invA xs xs.length) x (R.go 1 (k24 10 (R.go 2 (k24 12 (k16 false (greatest_c (band ((invA xs xs.length).getD x 0) ((invA xs xs.length).getD y 0)) (invA xs xs.length) (by first | omega | (simp <;> omega)) (by assumption)) ?_ (hr := by simp [AV.closed, closedL, AI])))))))))
    refine R.go 1 (k27 13 (R.anyX 14 (AI (lowV (invA xs xs.length) (band ((invA xs xs.length).getD x 0) ((invA xs xs.length).getD y 0)))) (by kernel_rfl) (np_meet _) (R.anyX 15 (.bool (lowB (invA xs xs.length) (band ((invA xs xs.length).getD x 0) ((invA xs xs.length).getD y 0)))) (by kernel_rfl) (np_meet _) (k37 16 6 1 (rowT (hyM xs x) xs.length y).length y (y : Int) (k24 17 (k13 6 2 (rowT (hyM xs x) xs.length y) y (lowV (invA xs xs.length) (band ((invA xs xs.length).getD x 0) ((invA xs xs.length).getD y 0))) (R.go 1 (k24 18 (R.go 2 (k23 ?_))))))))))
    exact k28
   refine R.go 1 (R.meet (⟨(frm 184 [(0, LI xs), (2, .ptr 1 0), (4, AI xs.length), (6, .ref 2), (7, .ptr 3 0), (8, AI (x : Int)), (9, .ref 6), (10, .ref 7), (11, AI (y : Int)), (12, .bool (lowB (invA xs xs.length) (band ((invA xs xs.length).getD x 0) ((invA xs xs.length).getD y 0)))), (13, .bool (lowB xs (band (xs.getD x 0) (xs.getD y 0)))), (45, AI xs.length), (46, AI (x : Int)), (53, AI xs.length), (54, AI (y : Int)), (55, .bool (decide ((y : Int) < (xs.length : Int)))), (56, AI (y : Int)), (57, .tup [AI (lowV (invA xs xs.length) (band ((invA xs xs.length).getD x 0) ((invA xs xs.length).getD y 0))), .bool (lowB (invA xs xs.length) (band ((invA xs xs.length).getD x 0) ((invA xs xs.length).getD y 0)))]), (58, .ref 6), (59, AI (y : Int)), (60, .ref 2), (61, AI (x : Int)), (62, .ptr 2 (x * 1)), (63, AI ((invA xs xs.length).getD x 0)), (64, .ref 2), (65, AI (y : Int)), (66, .ptr 2 (y * 1)), (67, AI ((invA xs xs.length).getD y 0)), (68, AI (band ((invA xs xs.length).getD x 0) ((invA xs xs.length).getD y 0))), (69, .ref 2), (70, .tup [AI (lowV (invA xs xs.length) (band ((invA xs xs.length).getD x 0) ((invA xs xs.length).getD y 0))), .bool (lowB (invA xs xs.length) (band ((invA xs xs.length).getD x 0) ((invA xs xs.length).getD y 0)))]), (71, AI (lowV (invA xs xs.length) (band ((invA xs xs.length).getD x 0) ((invA xs xs.length).getD y 0)))), (72, .bool (lowB (invA xs xs.length) (band ((invA xs xs.length).getD x 0) ((invA xs xs.length).getD y 0)))), (73, .ptr 6 (y * 1)), (74, .tup [AI (lowV xs (band (xs.getD x 0) (xs.getD y 0))), .bool (lowB xs (band (xs.getD x 0) (xs.getD y 0)))]), (75, .ref 7), (76, AI (y : Int)), (77, LI xs), (78, AI (x : Int)), (79, .rptr [AI (xs.getD x 0)]), (80, AI (xs.getD x 0)), (81, LI xs), (82, AI (y : Int)), (83, .rptr [AI (xs.getD y 0)]), (84, AI (xs.getD y 0)), (85, AI (band (xs.getD x 0) (xs.getD y 0))), (86, LI xs), (87, .tup [AI (lowV xs (band (xs.getD x 0) (xs.getD y 0))), .bool (lowB xs (band (xs.getD x 0) (xs.getD y 0)))]), (88, AI (lowV xs (band (xs.getD x 0) (xs.getD y 0)))), (89, .bool (lowB xs (band (xs.getD x 0) (xs.getD y 0)))), (90, .ptr 7 (y * 1))]), [.inert (.base b), .box 26 [.nil, .nil, .nil, AI 0, AI 0], rowA eI 2 1 (invA xs xs.length), .box 26 [.ref 4, .ref 5, .nil, AI 0, AI 0], rowA (eV eI 2 1) 30 1 LA, rowA (eV eI 2 1) 30 1 LO, rowA eI 2 1 ((rowT (hyM xs x) xs.length y).set y (lowV (invA xs xs.length) (band ((invA xs xs.length).getD x 0) ((invA xs xs.length).getD y 0)))), rowA eI 2 1 ((rowT (hyJ xs x) xs.length y).set y (lowV xs (band (xs.getD x 0) (xs.getD y 0))))]⟩ : St) (by kernel_rfl) ?_ ?_)
   ·refine R.any (by decide +kernel) (by kernel_rfl) (k27 0 (k27 1 (k27 2 (k27 3 (k27 6 (k27 7 (k27 11 (k34 4 eI xs 0 x (x : Int) eI_len (k34 8 eI xs 0 y (y : Int) eI_len ?_)))))))))
    refine k25 5 9 ?_ ?_
    ·refine R.go 2 (k24 9 (R.go 2 (k24 10 (R.go 2 (k24 12 (k16 true (greatest_c (band (xs.getD x 0) (xs.getD y 0)) xs (by first | omega | (simp <;> omega)) (by assumption)) (R.go 1 (k27 13 (R.anyX 14 (AI (lowV xs (band (xs.getD x 0) (xs.getD y 0)))) (by kernel_rfl) (np_meet _) (R.anyX 15 (.bool (lowB xs (band (xs.getD x 0) (xs.getD y 0)))) (by kernel_rfl) (np_meet _) (k37 16 7 1 (rowT (hyJ xs x) xs.length y).length y (y : Int) (k24 17 (k13 7 2 (rowT (hyJ xs x) xs.length y) y (lowV xs (band (xs.getD x 0) (xs.getD y 0))) ?_)))))))))))))
     refine R.go 1 (k24 18 (R.go 2 (k23 ?_)))
     exact k28
    refine R.go 2 (k24 5 (R.go 2 (k24 10 (R.go 2 (k24 12 (k16 true (greatest_c (band (xs.getD x 0) (xs.getD y 0)) xs (by first | omega | (simp <;> omega)) (by assumption)) (R.go 1 (k27 13 (R.anyX 14 (AI (lowV xs (band (xs.getD x 0) (xs.getD y 0)))) (by kernel_rfl) (np_meet _) (R.anyX 15 (.bool (lowB xs (band (xs.getD x 0) (xs.getD y 0)))) (by kernel_rfl) (np_meet _) (k37 16 7 1 (rowT (hyJ xs x) xs.length y).length y (y : Int) (k24 17 (k13 7 2 (rowT (hyJ xs x) xs.length y) y (lowV xs (band (xs.getD x 0) (xs.getD y 0))) ?_)))))))))))))
    refine R.go 1 (k24 18 (R.go 2 (k23 ?_)))
    exact k28
   refine R.go 5 (k6 false (bnF hb1) (R.go 1 (k6 false (bnF hb1) (R.go 1 (k8 false (bnF hb1) (R.go 1 (k5 (bnF hb2) (R.go 3 (k1 ((y : Int) + 1) ?_)))))))))
   exact R.go 2 (k18 R7 (N8 (y + 1, (rowT (hyM xs x) xs.length y).set y (lowV (invA xs xs.length) (band ((invA xs xs.length).getD x 0) ((invA xs xs.length).getD y 0))), (rowT (hyJ xs x) xs.length y).set y (lowV xs (band (xs.getD x 0) (xs.getD y 0)))) [0, 2, 4, 6, 7, 8, 9, 10, 45, 46, 53, 54] none _ (by kernel_rfl) (by kernel_rfl) ⟨(by omega), (by exact rowT_set (by omega) (lowV_of (hH.me x y (by omega) (by omega)))), (by exact rowT_set (by omega) (lowV_of (hH.jo x y (by omega) (by omega))))⟩ (by show (xs.length - (y + 1)) < (xs.length - y); omega)))
  refine R.go 1 (R.pin 6 2 1 (rowT (hyM xs x) xs.length y).length (rows eI (rowT (hyM xs x) xs.length y)) (by kernel_rfl) (by kernel_rfl) ?_)
  intro v12 hn13
  have hb14 : ∀ g, blk v12 = some g → b ≤ g := newN_base hn13 0 (by kernel_rfl)
  have hr15 : ∀ u ∈ LA, ∀ g, blk v12 = some g → blk u.1 ≠ some g := newN_row (E := eI) (el := 2) (s := 1) (e := 30) (n := LA.length) hn13 4 LA (by kernel_rfl)
  have hr16 : ∀ u ∈ LO, ∀ g, blk v12 = some g → blk u.1 ≠ some g := newN_row (E := eI) (el := 2) (s := 1) (e := 30) (n := LO.length) hn13 5 LO (by kernel_rfl)
  clear hn13
  refine R.pin 7 2 1 (rowT (hyJ xs x) xs.length y).length (rows eI (rowT (hyJ xs x) xs.length y)) (by kernel_rfl) (by kernel_rfl) ?_
  intro v17 hn18
  have hb19 : ∀ g, blk v17 = some g → b ≤ g := newN_base hn18 0 (by kernel_rfl)
  have hr20 : ∀ u ∈ LA, ∀ g, blk v17 = some g → blk u.1 ≠ some g := newN_row (E := eI) (el := 2) (s := 1) (e := 30) (n := LA.length) hn18 4 LA (by kernel_rfl)
  have hr21 : ∀ u ∈ LO, ∀ g, blk v17 = some g → blk u.1 ≠ some g := newN_row (E := eI) (el := 2) (s := 1) (e := 30) (n := LO.length) hn18 5 LO (by kernel_rfl)
  have hs22 : ∀ g, blk v17 = some g → blk v12 ≠ some g := newN_slot (e := 2) (s := 1) (n := (rowT (hyM xs x) xs.length y).length) (cs := rows eI (rowT (hyM xs x) xs.length y)) hn18 9 (by kernel_rfl)
  clear hn18
  refine R.meet (⟨(frm 184 [(0, LI xs), (2, .ptr 1 0), (4, AI xs.length), (6, .ref 2), (7, .ptr 3 0), (8, AI (x : Int)), (9, .nam v12 (some 2) 1 (rowT (hyM xs x) xs.length y).length (rows eI (rowT (hyM xs x) xs.length y))), (10, .nam v17 (some 2) 1 (rowT (hyJ xs x) xs.length y).length (rows eI (rowT (hyJ xs x) xs.length y))), (45, AI xs.length), (46, AI (x : Int)), (53, AI xs.length), (54, AI (y : Int)), (55, .bool (decide ((y : Int) < (xs.length : Int)))), (99, .ptr 3 0), (101, .nam v12 (some 2) 1 (rowT (hyM xs x) xs.length y).length (rows eI (rowT (hyM xs x) xs.length y))), (102, lstA (eV eI 2 1) 1 [(v12, rowT (hyM xs x) xs.length y)]), (103, .ref 4), (104, .ptr 3 1), (106, .nam v17 (some 2) 1 (rowT (hyJ xs x) xs.length y).length (rows eI (rowT (hyJ xs x) xs.length y))), (107, lstA (eV eI 2 1) 1 [(v17, rowT (hyJ xs x) xs.length y)]), (108, .ref 5), (109, .ptr 3 0), (110, .ptr 3 1)]), [.inert (.base b), .box 26 [.nil, .nil, .nil, AI 0, AI 0], rowA eI 2 1 (invA xs xs.length), .box 26 [.ref 4, .ref 5, .nil, AI 0, AI 0], rowA (eV eI 2 1) 30 1 (LA ++ [(v12, rowT (hyM xs x) xs.length y)]), rowA (eV eI 2 1) 30 1 (LO ++ [(v17, rowT (hyJ xs x) xs.length y)]), .dead, .dead]⟩ : St) (by kernel_rfl) ?_ ?_
  ·refine R.any (by decide +kernel) (by kernel_rfl) (k27 2 (k27 7 (k33 0 (.ptr 3 0) (k33 5 (.ptr 3 1) (R.any4 1 3 6 8 (by kernel_rfl) (by kernel_rfl) ?_ ?_ ?_ ?_)))))
   ·refine R.go 2 (k26 3 6 8 ?_ ?_ ?_)
    ·refine R.lit (s := 1) (n := 1) (cs := rows (eV eI 2 1) [(v12, rowT (hyM xs x) xs.length y)]) (by kernel_rfl) (by kernel_rfl) (R.go 1 (k26 4 6 8 ?_ ?_ ?_))
     ·refine k14 (eV eI 2 1) LA [(v12, rowT (hyM xs x) xs.length y)] 4 30 1 24 eV_one (R.go 1 (k25 6 8 ?_ ?_))
      ·refine R.go 2 (k33 10 (.ptr 3 0) (k24 8 (R.lit (s := 1) (n := 1) (cs := rows (eV eI 2 1) [(v17, rowT (hyJ xs x) xs.length y)]) (by kernel_rfl) (by kernel_rfl) (R.go 1 (k24 9 (k14 (eV eI 2 1) LO [(v17, rowT (hyJ xs x) xs.length y)] 5 30 1 24 eV_one (R.go 1 (k24 11 (R.go 2 (k33 12 (.ptr 3 1) (k24 13 (R.go 2 (k23 ?_)))))))))))))
       exact k28
      refine R.lit (s := 1) (n := 1) (cs := rows (eV eI 2 1) [(v17, rowT (hyJ xs x) xs.length y)]) (by kernel_rfl) (by kernel_rfl) (R.go 1 (k24 6 (R.go 2 (k33 10 (.ptr 3 0) (k24 9 (k14 (eV eI 2 1) LO [(v17, rowT (hyJ xs x) xs.length y)] 5 30 1 24 eV_one (R.go 1 (k24 11 (R.go 2 (k33 12 (.ptr 3 1) (k24 13 (R.go 2 (k23 ?_)))))))))))))
      exact k28
     ·refine R.go 2 (k25 4 8 ?_ ?_)
      ·refine k14 (eV eI 2 1) LA [(v12, rowT (hyM xs x) xs.length y)] 4 30 1 24 eV_one (R.go 1 (k33 10 (.ptr 3 0) (k24 8 (R.lit (s := 1) (n := 1) (cs := rows (eV eI 2 1) [(v17, rowT (hyJ xs x) xs.length y)]) (by kernel_rfl) (by kernel_rfl) (R.go 1 (k24 9 (k14 (eV eI 2 1) LO [(v17, rowT (hyJ xs x) xs.length y)] 5 30 1 24 eV_one (R.go 1 (k24 11 (R.go 2 (k33 12 (.ptr 3 1) (k24 13 (R.go 2 (k23 ?_))))))))))))))
       exact k28
      refine R.lit (s := 1) (n := 1) (cs := rows (eV eI 2 1) [(v17, rowT (hyJ xs x) xs.length y)]) (by kernel_rfl) (by kernel_rfl) (R.go 1 (k24 4 (k14 (eV eI 2 1) LA [(v12, rowT (hyM xs x) xs.length y)] 4 30 1 24 eV_one (R.go 1 (k33 10 (.ptr 3 0) (k24 9 (k14 (eV eI 2 1) LO [(v17, rowT (hyJ xs x) xs.length y)] 5 30 1 24 eV_one (R.go 1 (k24 11 (R.go 2 (k33 12 (.ptr 3 1) (k24 13 (R.go 2 (k23 ?_))))))))))))))
      exact k28
     refine R.lit (s := 1) (n := 1) (cs := rows (eV eI 2 1) [(v17, rowT (hyJ xs x) xs.length y)]) (by kernel_rfl) (by kernel_rfl) (R.go 1 (k25 4 6 ?_ ?_))
     ·refine k14 (eV eI 2 1) LA [(v12, rowT (hyM xs x) xs.length y)] 4 30 1 24 eV_one (R.go 1 (k24 6 (R.go 2 (k33 10 (.ptr 3 0) (k24 9 (k14 (eV eI 2 1) LO [(v17, rowT (hyJ xs x) xs.length y)] 5 30 1 24 eV_one (R.go 1 (k24 11 (R.go 2 (k33 12 (.ptr 3 1) (k24 13 (R.go 2 (k23 ?_)))))))))))))
      exact k28
     refine R.go 2 (k24 4 (k14 (eV eI 2 1) LA [(v12, rowT (hyM xs x) xs.length y)] 4 30 1 24 eV_one (R.go 1 (k33 10 (.ptr 3 0) (k24 9 (k14 (eV eI 2 1) LO [(v17, rowT (hyJ xs x) xs.length y)] 5 30 1 24 eV_one (R.go 1 (k24 11 (R.go 2 (k33 12 (.ptr 3 1) (k24 13 (R.go 2 (k23 ?_)))))))))))))
     exact k28
    ·refine R.go 2 (k25 3 8 ?_ ?_)
     ·refine R.lit (s := 1) (n := 1) (cs := rows (eV eI 2 1) [(v12, rowT (hyM xs x) xs.length y)]) (by kernel_rfl) (by kernel_rfl) (R.go 1 (k25 4 8 ?_ ?_))
      ·refine k14 (eV eI 2 1) LA [(v12, rowT (hyM xs x) xs.length y)] 4 30 1 24 eV_one (R.go 1 (k33 10 (.ptr 3 0) (k24 8 (R.lit (s := 1) (n := 1) (cs := rows (eV eI 2 1) [(v17, rowT (hyJ xs x) xs.length y)]) (by kernel_rfl) (by kernel_rfl) (R.go 1 (k24 9 (k14 (eV eI 2 1) LO [(v17, rowT (hyJ xs x) xs.length y)] 5 30 1 24 eV_one (R.go 1 (k24 11 (R.go 2 (k33 12 (.ptr 3 1) (k24 13 (R.go 2 (k23 ?_))))))))))))))
       exact k28
      refine R.lit (s := 1) (n := 1) (cs := rows (eV eI 2 1) [(v17, rowT (hyJ xs x) xs.length y)]) (by kernel_rfl) (by kernel_rfl) (R.go 1 (k24 4 (k14 (eV eI 2 1) LA [(v12, rowT (hyM xs x) xs.length y)] 4 30 1 24 eV_one (R.go 1 (k33 10 (.ptr 3 0) (k24 9 (k14 (eV eI 2 1) LO [(v17, rowT (hyJ xs x) xs.length y)] 5 30 1 24 eV_one (R.go 1 (k24 11 (R.go 2 (k33 12 (.ptr 3 1) (k24 13 (R.go 2 (k23 ?_))))))))))))))
      exact k28
     refine R.lit (s := 1) (n := 1) (cs := rows (eV eI 2 1) [(v17, rowT (hyJ xs x) xs.length y)]) (by kernel_rfl) (by kernel_rfl) (R.go 1 (k24 3 (R.lit (s := 1) (n := 1) (cs := rows (eV eI 2 1) [(v12, rowT (hyM xs x) xs.length y)]) (by kernel_rfl) (by kernel_rfl) (R.go 1 (k24 4 (k14 (eV eI 2 1) LA [(v12, rowT (hyM xs x) xs.length y)] 4 30 1 24 eV_one (R.go 1 (k33 10 (.ptr 3 0) (k24 9 (k14 (eV eI 2 1) LO [(v17, rowT (hyJ xs x) xs.length y)] 5 30 1 24 eV_one (R.go 1 (k24 11 (R.go 2 (k33 12 (.ptr 3 1) ?_))))))))))))))
     refine k24 13 (R.go 2 (k23 ?_))
     exact k28
    refine R.lit (s := 1) (n := 1) (cs := rows (eV eI 2 1) [(v17, rowT (hyJ xs x) xs.length y)]) (by kernel_rfl) (by kernel_rfl) (R.go 1 (k25 3 6 ?_ ?_))
    ·refine R.lit (s := 1) (n := 1) (cs := rows (eV eI 2 1) [(v12, rowT (hyM xs x) xs.length y)]) (by kernel_rfl) (by kernel_rfl) (R.go 1 (k25 4 6 ?_ ?_))
     ·refine k14 (eV eI 2 1) LA [(v12, rowT (hyM xs x) xs.length y)] 4 30 1 24 eV_one (R.go 1 (k24 6 (R.go 2 (k33 10 (.ptr 3 0) (k24 9 (k14 (eV eI 2 1) LO [(v17, rowT (hyJ xs x) xs.length y)] 5 30 1 24 eV_one (R.go 1 (k24 11 (R.go 2 (k33 12 (.ptr 3 1) (k24 13 (R.go 2 (k23 ?_)))))))))))))
      exact k28
     refine R.go 2 (k24 4 (k14 (eV eI 2 1) LA [(v12, rowT (hyM xs x) xs.length y)] 4 30 1 24 eV_one (R.go 1 (k33 10 (.ptr 3 0) (k24 9 (k14 (eV eI 2 1) LO [(v17, rowT (hyJ xs x) xs.length y)] 5 30 1 24 eV_one (R.go 1 (k24 11 (R.go 2 (k33 12 (.ptr 3 1) (k24 13 (R.go 2 (k23 ?_)))))))))))))
     exact k28
    refine R.go 2 (k24 3 (R.lit (s := 1) (n := 1) (cs := rows (eV eI 2 1) [(v12, rowT (hyM xs x) xs.length y)]) (by kernel_rfl) (by kernel_rfl) (R.go 1 (k24 4 (k14 (eV eI 2 1) LA [(v12, rowT (hyM xs x) xs.length y)] 4 30 1 24 eV_one (R.go 1 (k33 10 (.ptr 3 0) (k24 9 (k14 (eV eI 2 1) LO [(v17, rowT (hyJ xs x) xs.length y)] 5 30 1 24 eV_one (R.go 1 (k24 11 (R.go 2 (k33 12 (.ptr 3 1) (k24 13 ?_))))))))))))))
    refine R.go 2 (k23 ?_)
    exact k28
   ·refine R.lit (s := 1) (n := 1) (cs := rows (eV eI 2 1) [(v12, rowT (hyM xs x) xs.length y)]) (by kernel_rfl) (by kernel_rfl) (R.go 1 (k26 1 6 8 ?_ ?_ ?_))
    ·refine R.go 2 (k26 4 6 8 ?_ ?_ ?_)
     ·refine k14 (eV eI 2 1) LA [(v12, rowT (hyM xs x) xs.length y)] 4 30 1 24 eV_one (R.go 1 (k25 6 8 ?_ ?_))
      ·refine R.go 2 (k33 10 (.ptr 3 0) (k24 8 (R.lit (s := 1) (n := 1) (cs := rows (eV eI 2 1) [(v17, rowT (hyJ xs x) xs.length y)]) (by kernel_rfl) (by kernel_rfl) (R.go 1 (k24 9 (k14 (eV eI 2 1) LO [(v17, rowT (hyJ xs x) xs.length y)] 5 30 1 24 eV_one (R.go 1 (k24 11 (R.go 2 (k33 12 (.ptr 3 1) (k24 13 (R.go 2 (k23 ?_)))))))))))))
       exact k28
      refine R.lit (s := 1) (n := 1) (cs := rows (eV eI 2 1) [(v17, rowT (hyJ xs x) xs.length y)]) (by kernel_rfl) (by kernel_rfl) (R.go 1 (k24 6 (R.go 2 (k33 10 (.ptr 3 0) (k24 9 (k14 (eV eI 2 1) LO [(v17, rowT (hyJ xs x) xs.length y)] 5 30 1 24 eV_one (R.go 1 (k24 11 (R.go 2 (k33 12 (.ptr 3 1) (k24 13 (R.go 2 (k23 ?_)))))))))))))
      exact k28
     ·refine R.go 2 (k25 4 8 ?_ ?_)
      ·refine k14 (eV eI 2 1) LA [(v12, rowT (hyM xs x) xs.length y)] 4 30 1 24 eV_one (R.go 1 (k33 10 (.ptr 3 0) (k24 8 (R.lit (s := 1) (n := 1) (cs := rows (eV eI 2 1) [(v17, rowT (hyJ xs x) xs.length y)]) (by kernel_rfl) (by kernel_rfl) (R.go 1 (k24 9 (k14 (eV eI 2 1) LO [(v17, rowT (hyJ xs x) xs.length y)] 5 30 1 24 eV_one (R.go 1 (k24 11 (R.go 2 (k33 12 (.ptr 3 1) (k24 13 (R.go 2 (k23 ?_))))))))))))))
       exact k28
      refine R.lit (s := 1) (n := 1) (cs := rows (eV eI 2 1) [(v17, rowT (hyJ xs x) xs.length y)]) (by kernel_rfl) (by kernel_rfl) (R.go 1 (k24 4 (k14 (eV eI 2 1) LA [(v12, rowT (hyM xs x) xs.length y)] 4 30 1 24 eV_one (R.go 1 (k33 10 (.ptr 3 0) (k24 9 (k14 (eV eI 2 1) LO [(v17, rowT (hyJ xs x) xs.length y)] 5 30 1 24 eV_one (R.go 1 (k24 11 (R.go 2 (k33 12 (.ptr 3 1) (k24 13 (R.go 2 (k23 ?_))))))))))))))
      exact k28
     refine R.lit (s := 1) (n := 1) (cs := rows (eV eI 2 1) [(v17, rowT (hyJ xs x) xs.length y)]) (by kernel_rfl) (by kernel_rfl) (R.go 1 (k25 4 6 ?_ ?_))
     ·refine k14 (eV eI 2 1) LA [(v12, rowT (hyM xs x) xs.length y)] 4 30 1 24 eV_one (R.go 1 (k24 6 (R.go 2 (k33 10 (.ptr 3 0) (k24 9 (k14 (eV eI 2 1) LO [(v17, rowT (hyJ xs x) xs.length y)] 5 30 1 24 eV_one (R.go 1 (k24 11 (R.go 2 (k33 12 (.ptr 3 1) (k24 13 (R.go 2 (k23 ?_)))))))))))))
      exact k28
     refine R.go 2 (k24 4 (k14 (eV eI 2 1) LA [(v12, rowT (hyM xs x) xs.length y)] 4 30 1 24 eV_one (R.go 1 (k33 10 (.ptr 3 0) (k24 9 (k14 (eV eI 2 1) LO [(v17, rowT (hyJ xs x) xs.length y)] 5 30 1 24 eV_one (R.go 1 (k24 11 (R.go 2 (k33 12 (.ptr 3 1) (k24 13 (R.go 2 (k23 ?_)))))))))))))
     exact k28
    ·refine R.go 2 (k25 1 8 ?_ ?_)
     ·refine R.go 2 (k25 4 8 ?_ ?_)
      ·refine k14 (eV eI 2 1) LA [(v12, rowT (hyM xs x) xs.length y)] 4 30 1 24 eV_one (R.go 1 (k33 10 (.ptr 3 0) (k24 8 (R.lit (s := 1) (n := 1) (cs := rows (eV eI 2 1) [(v17, rowT (hyJ xs x) xs.length y)]) (by kernel_rfl) (by kernel_rfl) (R.go 1 (k24 9 (k14 (eV eI 2 1) LO [(v17, rowT (hyJ xs x) xs.length y)] 5 30 1 24 eV_one (R.go 1 (k24 11 (R.go 2 (k33 12 (.ptr 3 1) (k24 13 (R.go 2 (k23 ?_))))))))))))))
       exact k28
      refine R.lit (s := 1) (n := 1) (cs := rows (eV eI 2 1) [(v17, rowT (hyJ xs x) xs.length y)]) (by kernel_rfl) (by kernel_rfl) (R.go 1 (k24 4 (k14 (eV eI 2 1) LA [(v12, rowT (hyM xs x) xs.length y)] 4 30 1 24 eV_one (R.go 1 (k33 10 (.ptr 3 0) (k24 9 (k14 (eV eI 2 1) LO [(v17, rowT (hyJ xs x) xs.length y)] 5 30 1 24 eV_one (R.go 1 (k24 11 (R.go 2 (k33 12 (.ptr 3 1) (k24 13 (R.go 2 (k23 ?_))))))))))))))
      exact k28
     refine R.lit (s := 1) (n := 1) (cs := rows (eV eI 2 1) [(v17, rowT (hyJ xs x) xs.length y)]) (by kernel_rfl) (by kernel_rfl) (R.go 1 (k24 1 (R.go 2 (k24 4 (k14 (eV eI 2 1) LA [(v12, rowT (hyM xs x) xs.length y)] 4 30 1 24 eV_one (R.go 1 (k33 10 (.ptr 3 0) (k24 9 (k14 (eV eI 2 1) LO [(v17, rowT (hyJ xs x) xs.length y)] 5 30 1 24 eV_one (R.go 1 (k24 11 (R.go 2 (k33 12 (.ptr 3 1) (k24 13 ?_))))))))))))))
     refine R.go 2 (k23 ?_)
     exact k28
    refine R.lit (s := 1) (n := 1) (cs := rows (eV eI 2 1) [(v17, rowT (hyJ xs x) xs.length y)]) (by kernel_rfl) (by kernel_rfl) (R.go 1 (k25 1 6 ?_ ?_))
    ·refine R.go 2 (k25 4 6 ?_ ?_)
     ·refine k14 (eV eI 2 1) LA [(v12, rowT (hyM xs x) xs.length y)] 4 30 1 24 eV_one (R.go 1 (k24 6 (R.go 2 (k33 10 (.ptr 3 0) (k24 9 (k14 (eV eI 2 1) LO [(v17, rowT (hyJ xs x) xs.length y)] 5 30 1 24 eV_one (R.go 1 (k24 11 (R.go 2 (k33 12 (.ptr 3 1) (k24 13 (R.go 2 (k23 ?_)))))))))))))
      exact k28
     refine R.go 2 (k24 4 (k14 (eV eI 2 1) LA [(v12, rowT (hyM xs x) xs.length y)] 4 30 1 24 eV_one (R.go 1 (k33 10 (.ptr 3 0) (k24 9 (k14 (eV eI 2 1) LO [(v17, rowT (hyJ xs x) xs.length y)] 5 30 1 24 eV_one (R.go 1 (k24 11 (R.go 2 (k33 12 (.ptr 3 1) (k24 13 (R.go 2 (k23 ?_)))))))))))))
     exact k28
    refine R.go 2 (k24 1 (R.go 2 (k24 4 (k14 (eV eI 2 1) LA [(v12, rowT (hyM xs x) xs.length y)] 4 30 1 24 eV_one (R.go 1 (k33 10 (.ptr 3 0) (k24 9 (k14 (eV eI 2 1) LO [(v17, rowT (hyJ xs x) xs.length y)] 5 30 1 24 eV_one (R.go 1 (k24 11 (R.go 2 (k33 12 (.ptr 3 1) (k24 13 (R.go 2 (k23 ?_)))))))))))))))
    exact k28
   ·refine R.go 2 (k26 1 3 8 ?_ ?_ ?_)
    ·refine R.go 2 (k25 3 8 ?_ ?_)
     ·refine R.lit (s := 1) (n := 1) (cs := rows (eV eI 2 1) [(v12, rowT (hyM xs x) xs.length y)]) (by kernel_rfl) (by kernel_rfl) (R.go 1 (k25 4 8 ?_ ?_))
      ·refine k14 (eV eI 2 1) LA [(v12, rowT (hyM xs x) xs.length y)] 4 30 1 24 eV_one (R.go 1 (k33 10 (.ptr 3 0) (k24 8 (R.lit (s := 1) (n := 1) (cs := rows (eV eI 2 1) [(v17, rowT (hyJ xs x) xs.length y)]) (by kernel_rfl) (by kernel_rfl) (R.go 1 (k24 9 (k14 (eV eI 2 1) LO [(v17, rowT (hyJ xs x) xs.length y)] 5 30 1 24 eV_one (R.go 1 (k24 11 (R.go 2 (k33 12 (.ptr 3 1) (k24 13 (R.go 2 (k23 ?_))))))))))))))
       exact k28
      refine R.lit (s := 1) (n := 1) (cs := rows (eV eI 2 1) [(v17, rowT (hyJ xs x) xs.length y)]) (by kernel_rfl) (by kernel_rfl) (R.go 1 (k24 4 (k14 (eV eI 2 1) LA [(v12, rowT (hyM xs x) xs.length y)] 4 30 1 24 eV_one (R.go 1 (k33 10 (.ptr 3 0) (k24 9 (k14 (eV eI 2 1) LO [(v17, rowT (hyJ xs x) xs.length y)] 5 30 1 24 eV_one (R.go 1 (k24 11 (R.go 2 (k33 12 (.ptr 3 1) (k24 13 (R.go 2 (k23 ?_))))))))))))))
      exact k28
     refine R.lit (s := 1) (n := 1) (cs := rows (eV eI 2 1) [(v17, rowT (hyJ xs x) xs.length y)]) (by kernel_rfl) (by kernel_rfl) (R.go 1 (k24 3 (R.lit (s := 1) (n := 1) (cs := rows (eV eI 2 1) [(v12, rowT (hyM xs x) xs.length y)]) (by kernel_rfl) (by kernel_rfl) (R.go 1 (k24 4 (k14 (eV eI 2 1) LA [(v12, rowT (hyM xs x) xs.length y)] 4 30 1 24 eV_one (R.go 1 (k33 10 (.ptr 3 0) (k24 9 (k14 (eV eI 2 1) LO [(v17, rowT (hyJ xs x) xs.length y)] 5 30 1 24 eV_one (R.go 1 (k24 11 (R.go 2 (k33 12 (.ptr 3 1) ?_))))))))))))))
     refine k24 13 (R.go 2 (k23 ?_))
     exact k28
    ·refine R.lit (s := 1) (n := 1) (cs := rows (eV eI 2 1) [(v12, rowT (hyM xs x) xs.length y)]) (by kernel_rfl) (by kernel_rfl) (R.go 1 (k25 1 8 ?_ ?_))
     ·refine R.go 2 (k25 4 8 ?_ ?_)
      ·refine k14 (eV eI 2 1) LA [(v12, rowT (hyM xs x) xs.length y)] 4 30 1 24 eV_one (R.go 1 (k33 10 (.ptr 3 0) (k24 8 (R.lit (s := 1) (n := 1) (cs := rows (eV eI 2 1) [(v17, rowT (hyJ xs x) xs.length y)]) (by kernel_rfl) (by kernel_rfl) (R.go 1 (k24 9 (k14 (eV eI 2 1) LO [(v17, rowT (hyJ xs x) xs.length y)] 5 30 1 24 eV_one (R.go 1 (k24 11 (R.go 2 (k33 12 (.ptr 3 1) (k24 13 (R.go 2 (k23 ?_))))))))))))))
       exact k28
      refine R.lit (s := 1) (n := 1) (cs := rows (eV eI 2 1) [(v17, rowT (hyJ xs x) xs.length y)]) (by kernel_rfl) (by kernel_rfl) (R.go 1 (k24 4 (k14 (eV eI 2 1) LA [(v12, rowT (hyM xs x) xs.length y)] 4 30 1 24 eV_one (R.go 1 (k33 10 (.ptr 3 0) (k24 9 (k14 (eV eI 2 1) LO [(v17, rowT (hyJ xs x) xs.length y)] 5 30 1 24 eV_one (R.go 1 (k24 11 (R.go 2 (k33 12 (.ptr 3 1) (k24 13 (R.go 2 (k23 ?_))))))))))))))
      exact k28
     refine R.lit (s := 1) (n := 1) (cs := rows (eV eI 2 1) [(v17, rowT (hyJ xs x) xs.length y)]) (by kernel_rfl) (by kernel_rfl) (R.go 1 (k24 1 (R.go 2 (k24 4 (k14 (eV eI 2 1) LA [(v12, rowT (hyM xs x) xs.length y)] 4 30 1 24 eV_one (R.go 1 (k33 10 (.ptr 3 0) (k24 9 (k14 (eV eI 2 1) LO [(v17, rowT (hyJ xs x) xs.length y)] 5 30 1 24 eV_one (R.go 1 (k24 11 (R.go 2 (k33 12 (.ptr 3 1) (k24 13 ?_))))))))))))))
     refine R.go 2 (k23 ?_)
     exact k28
    refine R.lit (s := 1) (n := 1) (cs := rows (eV eI 2 1) [(v17, rowT (hyJ xs x) xs.length y)]) (by kernel_rfl) (by kernel_rfl) (R.go 1 (k25 1 3 ?_ ?_))
    ·refine R.go 2 (k24 3 (R.lit (s := 1) (n := 1) (cs := rows (eV eI 2 1) [(v12, rowT (hyM xs x) xs.length y)]) (by kernel_rfl) (by kernel_rfl) (R.go 1 (k24 4 (k14 (eV eI 2 1) LA [(v12, rowT (hyM xs x) xs.length y)] 4 30 1 24 eV_one (R.go 1 (k33 10 (.ptr 3 0) (k24 9 (k14 (eV eI 2 1) LO [(v17, rowT (hyJ xs x) xs.length y)] 5 30 1 24 eV_one (R.go 1 (k24 11 (R.go 2 (k33 12 (.ptr 3 1) (k24 13 ?_))))))))))))))
     refine R.go 2 (k23 ?_)
     exact k28
    refine R.lit (s := 1) (n := 1) (cs := rows (eV eI 2 1) [(v12, rowT (hyM xs x) xs.length y)]) (by kernel_rfl) (by kernel_rfl) (R.go 1 (k24 1 (R.go 2 (k24 4 (k14 (eV eI 2 1) LA [(v12, rowT (hyM xs x) xs.length y)] 4 30 1 24 eV_one (R.go 1 (k33 10 (.ptr 3 0) (k24 9 (k14 (eV eI 2 1) LO [(v17, rowT (hyJ xs x) xs.length y)] 5 30 1 24 eV_one (R.go 1 (k24 11 (R.go 2 (k33 12 (.ptr 3 1) (k24 13 ?_))))))))))))))
    refine R.go 2 (k23 ?_)
    exact k28
   refine R.lit (s := 1) (n := 1) (cs := rows (eV eI 2 1) [(v17, rowT (hyJ xs x) xs.length y)]) (by kernel_rfl) (by kernel_rfl) (R.go 1 (k26 1 3 6 ?_ ?_ ?_))
   ·refine R.go 2 (k25 3 6 ?_ ?_)
    ·refine R.lit (s := 1) (n := 1) (cs := rows (eV eI 2 1) [(v12, rowT (hyM xs x) xs.length y)]) (by kernel_rfl) (by kernel_rfl) (R.go 1 (k25 4 6 ?_ ?_))
     ·refine k14 (eV eI 2 1) LA [(v12, rowT (hyM xs x) xs.length y)] 4 30 1 24 eV_one (R.go 1 (k24 6 (R.go 2 (k33 10 (.ptr 3 0) (k24 9 (k14 (eV eI 2 1) LO [(v17, rowT (hyJ xs x) xs.length y)] 5 30 1 24 eV_one (R.go 1 (k24 11 (R.go 2 (k33 12 (.ptr 3 1) (k24 13 (R.go 2 (k23 ?_)))))))))))))
      exact k28
     refine R.go 2 (k24 4 (k14 (eV eI 2 1) LA [(v12, rowT (hyM xs x) xs.length y)] 4 30 1 24 eV_one (R.go 1 (k33 10 (.ptr 3 0) (k24 9 (k14 (eV eI 2 1) LO [(v17, rowT (hyJ xs x) xs.length y)] 5 30 1 24 eV_one (R.go 1 (k24 11 (R.go 2 (k33 12 (.ptr 3 1) (k24 13 (R.go 2 (k23 ?_)))))))))))))
     exact k28
    refine R.go 2 (k24 3 (R.lit (s := 1) (n := 1) (cs := rows (eV eI 2 1) [(v12, rowT (hyM xs x) xs.length y)]) (by kernel_rfl) (by kernel_rfl) (R.go 1 (k24 4 (k14 (eV eI 2 1) LA [(v12, rowT (hyM xs x) xs.length y)] 4 30 1 24 eV_one (R.go 1 (k33 10 (.ptr 3 0) (k24 9 (k14 (eV eI 2 1) LO [(v17, rowT (hyJ xs x) xs.length y)] 5 30 1 24 eV_one (R.go 1 (k24 11 (R.go 2 (k33 12 (.ptr 3 1) (k24 13 ?_))))))))))))))
    refine R.go 2 (k23 ?_)
    exact k28
   ·refine R.lit (s := 1) (n := 1) (cs := rows (eV eI 2 1) [(v12, rowT (hyM xs x) xs.length y)]) (by kernel_rfl) (by kernel_rfl) (R.go 1 (k25 1 6 ?_ ?_))
    ·refine R.go 2 (k25 4 6 ?_ ?_)
     ·refine k14 (eV eI 2 1) LA [(v12, rowT (hyM xs x) xs.length y)] 4 30 1 24 eV_one (R.go 1 (k24 6 (R.go 2 (k33 10 (.ptr 3 0) (k24 9 (k14 (eV eI 2 1) LO [(v17, rowT (hyJ xs x) xs.length y)] 5 30 1 24 eV_one (R.go 1 (k24 11 (R.go 2 (k33 12 (.ptr 3 1) (k24 13 (R.go 2 (k23 ?_)))))))))))))
      exact k28
     refine R.go 2 (k24 4 (k14 (eV eI 2 1) LA [(v12, rowT (hyM xs x) xs.length y)] 4 30 1 24 eV_one (R.go 1 (k33 10 (.ptr 3 0) (k24 9 (k14 (eV eI 2 1) LO [(v17, rowT (hyJ xs x) xs.length y)] 5 30 1 24 eV_one (R.go 1 (k24 11 (R.go 2 (k33 12 (.ptr 3 1) (k24 13 (R.go 2 (k23 ?_)))))))))))))
     exact k28
    refine R.go 2 (k24 1 (R.go 2 (k24 4 (k14 (eV eI 2 1) LA [(v12, rowT (hyM xs x) xs.length y)] 4 30 1 24 eV_one (R.go 1 (k33 10 (.ptr 3 0) (k24 9 (k14 (eV eI 2 1) LO [(v17, rowT (hyJ xs x) xs.length y)] 5 30 1 24 eV_one (R.go 1 (k24 11 (R.go 2 (k33 12 (.ptr 3 1) (k24 13 (R.go 2 (k23 ?_)))))))))))))))
    exact k28
   refine R.go 2 (k25 1 3 ?_ ?_)
   ·refine R.go 2 (k24 3 (R.lit (s := 1) (n := 1) (cs := rows (eV eI 2 1) [(v12, rowT (hyM xs x) xs.length y)]) (by kernel_rfl) (by kernel_rfl) (R.go 1 (k24 4 (k14 (eV eI 2 1) LA [(v12, rowT (hyM xs x) xs.length y)] 4 30 1 24 eV_one (R.go 1 (k33 10 (.ptr 3 0) (k24 9 (k14 (eV eI 2 1) LO [(v17, rowT (hyJ xs x) xs.length y)] 5 30 1 24 eV_one (R.go 1 (k24 11 (R.go 2 (k33 12 (.ptr 3 1) (k24 13 ?_))))))))))))))
    refine R.go 2 (k23 ?_)
    exact k28
   refine R.lit (s := 1) (n := 1) (cs := rows (eV eI 2 1) [(v12, rowT (hyM xs x) xs.length y)]) (by kernel_rfl) (by kernel_rfl) (R.go 1 (k24 1 (R.go 2 (k24 4 (k14 (eV eI 2 1) LA [(v12, rowT (hyM xs x) xs.length y)] 4 30 1 24 eV_one (R.go 1 (k33 10 (.ptr 3 0) (k24 9 (k14 (eV eI 2 1) LO [(v17, rowT (hyJ xs x) xs.length y)] 5 30 1 24 eV_one (R.go 1 (k24 11 (R.go 2 (k33 12 (.ptr 3 1) (k24 13 ?_))))))))))))))
   refine R.go 2 (k23 ?_)
   exact k28
  refine R.go 2 (k1 ((x : Int) + 1) ?_)
  exact R.go 2 (k18 R2 (N3 (x + 1, LA ++ [(v12, rowT (hyM xs x) xs.length y)], LO ++ [(v17, rowT (hyJ xs x) xs.length y)]) [0, 2, 4, 6, 7, 45, 46] (some [0, 1, 2, 3, 4, 5]) _ (by kernel_rfl) (by kernel_rfl) ⟨(by omega), (by exact NL.snoc (by assumption) (by assumption) (by assumption)), (by exact NL.snoc (by assumption) (by assumption) (by assumption)), (by exact NX.snoc (by assumption) (by assumption) (by assumption) (by assumption)), (by rw [map1V ‹LA.map Prod.snd = _›, rowT_end (by omega)]; exact tabR_snoc), (by rw [map1V ‹LO.map Prod.snd = _›, rowT_end (by omega)]; exact tabR_snoc)⟩ (by show (xs.length - (x + 1)) < (xs.length - x); omega)))
 refine R.go 8 (k21 3 2 30 1 (k17 ((fun | (u, LJ) => (⟨(frm 184 [(0, LI xs), (2, .ptr 1 0), (4, AI xs.length), (6, .ref 2), (7, .ptr 3 0), (112, AI xs.length), (113, AI (u : Int))]), [.inert (.base b), .box 26 [.nil, .nil, .nil, AI 0, AI 0], rowA eI 2 1 (invA xs xs.length), .box 26 [.ref 4, .ref 5, .ref 6, AI 0, AI 0], rowA (eV eI 2 1) 30 1 LA, rowA (eV eI 2 1) 30 1 LO, rowA (eV eI 2 1) 30 1 LJ]⟩ : St) : Nat × (List (Value × List Int)) → St)) (fun | (u, LJ) => (u ≤ xs.length) ∧ (NL b LJ) ∧ (NX LA LJ) ∧ (NX LO LJ) ∧ (LJ.map Prod.snd = tabR (hyI xs) xs.length u)) (fun | (u, LJ) => xs.length - u) (0, []) [0, 2, 4, 6, 7, 112, 113] none ⟨(by omega), (by exact NL.nil), (by exact NX.nil'), (by exact NX.nil'), (by rfl)⟩ ?_))
 rintro ⟨u, LJ⟩ ⟨h26_1, h26_2, h26_3, h26_4, h26_5⟩ R23 N24
 have hlj := tabV_len ‹LJ.map Prod.snd = _›
 refine R.go 5 (k3 ((u : Int) < (xs.length : Int)) (fun c27 => ?_) (fun c27 => ?_))
 ·refine R.go 11 (k15 eI 0 2 8 xs.length xs.length (R.go 9 (k17 ((fun | (w, C) => (⟨(frm 184 [(0, LI xs), (2, .ptr 1 0), (4, AI xs.length), (6, .ref 2), (7, .ptr 3 0), (14, AI (u : Int)), (15, .ref 7), (112, AI xs.length), (113, AI (u : Int)), (118, AI xs.length), (119, AI (w : Int))]), [.inert (.base b), .box 26 [.nil, .nil, .nil, AI 0, AI 0], rowA eI 2 1 (invA xs xs.length), .box 26 [.ref 4, .ref 5, .ref 6, AI 0, AI 0], rowA (eV eI 2 1) 30 1 LA, rowA (eV eI 2 1) 30 1 LO, rowA (eV eI 2 1) 30 1 LJ, rowA eI 2 1 C]⟩ : St) : Nat × (List Int) → St)) (fun | (w, C) => (w ≤ xs.length) ∧ (C = rowT (hyI xs u) xs.length w)) (fun | (w, C) => xs.length - w) (0, (List.replicate xs.length 0)) [0, 2, 4, 6, 7, 14, 15, 112, 113, 118, 119] none ⟨(by omega), (by exact rowT_zero)⟩ ?_)))
  rintro ⟨w, C⟩ ⟨h31_1, rfl⟩ R28 N29
  have hCl := rowT_len (hyI xs u) xs.length w
  refine R.go 5 (k3 ((w : Int) < (xs.length : Int)) (fun c32 => ?_) (fun c32 => ?_))
  ·refine R.go 19 (k17 ((fun | (z, cm) => (⟨(frm 184 [(0, LI xs), (2, .ptr 1 0), (4, AI xs.length), (6, .ref 2), (7, .ptr 3 0), (14, AI (u : Int)), (15, .ref 7), (16, AI (w : Int)), (17, AI cm), (112, AI xs.length), (113, AI (u : Int)), (118, AI xs.length), (119, AI (w : Int)), (122, AI xs.length), (123, AI (z : Int))]), [.inert (.base b), .box 26 [.nil, .nil, .nil, AI 0, AI 0], rowA eI 2 1 (invA xs xs.length), .box 26 [.ref 4, .ref 5, .ref 6, AI 0, AI 0], rowA (eV eI 2 1) 30 1 LA, rowA (eV eI 2 1) 30 1 LO, rowA (eV eI 2 1) 30 1 LJ, rowA eI 2 1 (rowT (hyI xs u) xs.length w)]⟩ : St) : Nat × Int → St)) (fun | (z, cm) => (z ≤ xs.length) ∧ (cm = hyC xs u w z)) (fun | (z, cm) => xs.length - z) (0, 0) [0, 2, 4, 6, 7, 14, 15, 16, 17, 112, 113, 118, 119, 122, 123] none ⟨(by omega), (by rfl)⟩ ?_)
   rintro ⟨z, cm⟩ ⟨h36_1, rfl⟩ R33 N34
   refine R.go 5 (k3 ((z : Int) < (xs.length : Int)) (fun c37 => ?_) (fun c37 => ?_))
   ·have hzx : x = xs.length := by omega
    have hat := tabV_at (i := z) (j := u) ‹LA.map Prod.snd = _› (by omega) (by omega)
    have hva := hat.1
    have hvl := hat.2
    have hvr := hyM_rng hH (x := z) (y := u) (by omega) (by omega)
    have hbw := hbi w (by omega)
    refine R.go 12 (k10 2 1 (invA xs xs.length).length w (w : Int) (k12 (invA xs xs.length) w (R.go 3 (k10 4 1 LA.length z (z : Int) (R.ldE (eV eI 2 1) 1 0 LA (.bool false, []) z (.nam ((LA.getD z (.bool false, [])).1) (some 2) 1 ((LA.getD z (.bool false, [])).2).length (rows eI ((LA.getD z (.bool false, [])).2))) (by kernel_rfl) eV_len (by omega) rfl (by kernel_rfl) (R.go 1 (R.idxV eI ((LA.getD z (.bool false, [])).2) 0 u (u : Int) (by kernel_rfl) rfl eI_len (by first | omega | (simp only [List.length_set]; omega) | (simp <;> omega)) (by kernel_rfl) (R.go 1 (k16 true (has_c ((invA xs xs.length).getD w 0) (((LA.getD z (.bool false, [])).2).getD u 0) (by omega)) (R.go 1 (k3 (band (shr64 ((invA xs xs.length).getD w 0) (((LA.getD z (.bool false, [])).2).getD u 0)) 1 = 1) (fun c38 => ?_) (fun c38 => ?_))))))))))))
    ·refine R.go 3 (R.shl 1 (z : Int) (by kernel_rfl) (by omega) (by kernel_rfl) (R.go 5 (k1 ((z : Int) + 1) ?_)))
     exact R.go 2 (k18 R33 (N34 (z + 1, bor (hyC xs u w z) (shl64 1 (z : Int))) [0, 2, 4, 6, 7, 14, 15, 16, 17, 112, 113, 118, 119, 122, 123] none _ (by kernel_rfl) (by kernel_rfl) ⟨(by omega), (by first | exact hyC_yes hH (by omega) (by omega) (by omega) hva (by assumption) | exact hyC_no hH (by omega) (by omega) (by omega) hva (by assumption))⟩ (by show (xs.length - (z + 1)) < (xs.length - z); omega)))
    refine R.go 3 (k1 ((z : Int) + 1) ?_)
    exact R.go 2 (k18 R33 (N34 (z + 1, hyC xs u w z) [0, 2, 4, 6, 7, 14, 15, 16, 17, 112, 113, 118, 119, 122, 123] none _ (by kernel_rfl) (by kernel_rfl) ⟨(by omega), (by first | exact hyC_yes hH (by omega) (by omega) (by omega) hva (by assumption) | exact hyC_no hH (by omega) (by omega) (by omega) hva (by assumption))⟩ (by show (xs.length - (z + 1)) < (xs.length - z); omega)))
   have hcz := hyC_in hH u w (z := z) (by omega)
   have hcz' : InM (invA xs xs.length).length (hyC xs u w z) := by rw [hil]; exact hcz
   have hcl := hH.im u w (by omega) (by omega)
   have hcb : lowB (invA xs xs.length) (hyC xs u w z) = true := by rw [show z = xs.length by omega]; exact lowB_of hcl
   refine R.go 5 (k16 false (greatest_c (hyC xs u w z) (invA xs xs.length) (by first | omega | (simp <;> omega)) (by assumption)) ?_ (hr := by simp [AV.closed, closedL, AI]))
   refine R.go 12 (k5 (bnF hcb) (R.go 5 (k10 7 1 (rowT (hyI xs u) xs.length w).length w (w : Int) (k13 7 2 (rowT (hyI xs u) xs.length w) w (lowV (invA xs xs.length) (hyC xs u w z)) (R.go 3 (k1 ((w : Int) + 1) ?_))))))
   exact R.go 2 (k18 R28 (N29 (w + 1, (rowT (hyI xs u) xs.length w).set w (lowV (invA xs xs.length) (hyC xs u w z))) [0, 2, 4, 6, 7, 14, 15, 112, 113, 118, 119] none _ (by kernel_rfl) (by kernel_rfl) ⟨(by omega), (by exact rowT_set (by omega) (by rw [show z = xs.length by omega]; exact lowV_of (hH.im u w (by omega) (by omega))))⟩ (by show (xs.length - (w + 1)) < (xs.length - w); omega)))
  refine R.go 5 (R.pin 7 2 1 (rowT (hyI xs u) xs.length w).length (rows eI (rowT (hyI xs u) xs.length w)) (by kernel_rfl) (by kernel_rfl) ?_)
  intro v39 hn40
  have hb41 : ∀ g, blk v39 = some g → b ≤ g := newN_base hn40 0 (by kernel_rfl)
  have hr42 : ∀ u ∈ LA, ∀ g, blk v39 = some g → blk u.1 ≠ some g := newN_row (E := eI) (el := 2) (s := 1) (e := 30) (n := LA.length) hn40 4 LA (by kernel_rfl)
  have hr43 : ∀ u ∈ LO, ∀ g, blk v39 = some g → blk u.1 ≠ some g := newN_row (E := eI) (el := 2) (s := 1) (e := 30) (n := LO.length) hn40 5 LO (by kernel_rfl)
  have hr44 : ∀ u ∈ LJ, ∀ g, blk v39 = some g → blk u.1 ≠ some g := newN_row (E := eI) (el := 2) (s := 1) (e := 30) (n := LJ.length) hn40 6 LJ (by kernel_rfl)
  clear hn40
  refine R.go 1 (k14 (eV eI 2 1) LJ [(v39, rowT (hyI xs u) xs.length w)] 6 30 1 24 eV_one (R.go 5 (k1 ((u : Int) + 1) ?_)))
  exact R.go 2 (k18 R23 (N24 (u + 1, LJ ++ [(v39, rowT (hyI xs u) xs.length w)]) [0, 2, 4, 6, 7, 112, 113] (some [0, 1, 2, 3, 4, 5, 6]) _ (by kernel_rfl) (by kernel_rfl) ⟨(by omega), (by exact NL.snoc (by assumption) (by assumption) (by assumption)), (by exact NX.snocR (by assumption) (by assumption)), (by exact NX.snocR (by assumption) (by assumption)), (by rw [map1V ‹LJ.map Prod.snd = _›, rowT_end (by omega)]; exact tabR_snoc)⟩ (by show (xs.length - (u + 1)) < (xs.length - u); omega)))
 have hff : InM xs.length ((shl64 1 (xs.length : Int)) - 1) := hfl
 have hff' : InM (invA xs xs.length).length ((shl64 1 (xs.length : Int)) - 1) := by rw [hil]; exact hfl
 refine R.go 4 (R.shl 1 (xs.length : Int) (by kernel_rfl) (by omega) (by kernel_rfl) (k1 ((shl64 1 (xs.length : Int)) - 1) (R.go 1 (k16 true (greatest_c ((shl64 1 (xs.length : Int)) - 1) xs (by first | omega | (simp <;> omega)) hff) (R.go 9 (R.shl 1 (xs.length : Int) (by kernel_rfl) (by omega) (by kernel_rfl) (k1 ((shl64 1 (xs.length : Int)) - 1) (R.go 1 (k16 false (greatest_c ((shl64 1 (xs.length : Int)) - 1) (invA xs xs.length) (by first | omega | (simp <;> omega)) (by assumption)) ?_ (hr := by simp [AV.closed, closedL, AI]))))))))))
 exact R.go 12 (k30 (.tup [.agg [ownA (eV eI 2 1) 30 1 LA, ownA (eV eI 2 1) 30 1 LO, ownA (eV eI 2 1) 30 1 LJ, AI (lowV xs ((shl64 1 (xs.length : Int)) - 1)), AI (lowV (invA xs xs.length) ((shl64 1 (xs.length : Int)) - 1))], .bool true]) ⟨LA, LO, LJ, by first | rfl | (have e1 := lowV_of hH.bo; have e2 := lowV_of hH.to; unfold fullM at e1 e2; rw [e1, e2]; rfl) | (exfalso; omega), by first | (assumption) | (exfalso; omega), by first | (assumption) | (exfalso; omega), by first | (assumption) | (exfalso; omega), by first | (assumption) | (exfalso; omega), by first | (assumption) | (exfalso; omega), by first | (assumption) | (exfalso; omega), by first | (rw [‹LA.map Prod.snd = _›, show x = xs.length by omega]) | (exfalso; omega), by first | (rw [‹LO.map Prod.snd = _›, show x = xs.length by omega]) | (exfalso; omega), by first | (rw [‹LJ.map Prod.snd = _›, show u = xs.length by omega]) | (exfalso; omega)⟩)
theorem heytingOf_c_cl (xs : List Int) : ∀ (b : Nat) (r : AV), (fun (b : Nat) (r : AV) => ∃ LA : List (Value × List Int), ∃ LO : List (Value × List Int), ∃ LJ : List (Value × List Int), r = .tup [.agg [ownA (eV eI 2 1) 30 1 LA, ownA (eV eI 2 1) 30 1 LO, ownA (eV eI 2 1) 30 1 LJ, AI (lowF xs (fullM xs.length)), AI (lowF (invA xs xs.length) (fullM xs.length))], .bool true] ∧ (NL b LA) ∧ (NL b LO) ∧ (NL b LJ) ∧ (NX LA LO) ∧ (NX LA LJ) ∧ (NX LO LJ) ∧ (LA.map Prod.snd = tabR (hyM xs) xs.length xs.length) ∧ (LO.map Prod.snd = tabR (hyJ xs) xs.length xs.length) ∧ (LJ.map Prod.snd = tabR (hyI xs) xs.length xs.length)) b r → ClosedN b r := by
 rintro b r ⟨LA, LO, LJ, rfl, e0, e1, e2, e3, e4, e5, e6, e7, e8⟩
 exact (closedN_tup (closedNL_cons (closedN_agg (closedNL_cons (closedN_own _ e0 eI_closed) (closedNL_cons (closedN_own _ e1 eI_closed) (closedNL_cons (closedN_own _ e2 eI_closed) (closedNL_cons closedN_int (closedNL_cons closedN_int closedNL_nil)))))) (closedNL_cons closedN_bool closedNL_nil)))
end Go.Proofs.YtjllngcefoohpaaGreat

/-! The algebra of a poset's upsets: its order has meets, joins and implications. -/
namespace Go.Proofs.YtjllngcefoohpaaGreat
open Go.RowKit Go.Abs
theorem hq_upTo_mem {xs : List Int} {m : Int} : ∀ k, m ∈ upTo xs k ↔ 0 ≤ m ∧ m < (k : Int) ∧ img xs m xs.length = m
 | 0 => by
  simp only [upTo, List.not_mem_nil, false_iff]
  rintro ⟨h1, h2, _⟩
  omega
 | k + 1 => by
  have ih := hq_upTo_mem (xs := xs) (m := m) k
  by_cases h : img xs (k : Int) xs.length = (k : Int)
  ·rw [← upTo_yes h, List.mem_append, ih, List.mem_singleton]
   constructor
   ·rintro (⟨a, b, c⟩ | rfl)
    ·exact ⟨a, by omega, c⟩
    ·exact ⟨by omega, by omega, h⟩
   ·rintro ⟨a, b, c⟩
    by_cases e : m = (k : Int)
    ·exact .inr e
    ·exact .inl ⟨a, by omega, c⟩
  ·rw [← upTo_no h, ih]
   constructor
   ·rintro ⟨a, b, c⟩; exact ⟨a, by omega, c⟩
   ·rintro ⟨a, b, c⟩
    refine ⟨a, ?_, c⟩
    by_cases e : m = (k : Int)
    ·subst e; exact absurd c h
    ·omega
theorem hq_upTo_nodup {xs : List Int} : ∀ k, (upTo xs k).Nodup
 | 0 => List.nodup_nil
 | k + 1 => by
  by_cases h : img xs (k : Int) xs.length = (k : Int)
  ·rw [← upTo_yes h]
   refine List.nodup_append.2 ⟨hq_upTo_nodup k, by simp, fun a ha b hb => ?_⟩
   have := (hq_upTo_mem k).1 ha
   have : b = (k : Int) := by simpa using hb
   omega
  ·rw [← upTo_no h]; exact hq_upTo_nodup k
theorem hq_inM_lt {n m : Int} (h0 : 0 ≤ n) (h8 : n ≤ 8) : InM n.toNat m ↔ 0 ≤ m ∧ m < shl64 1 n := by
 rw [full_rng (n := n.toNat) (by omega), show ((n.toNat : Nat) : Int) = n by omega, inR_iff]
 omega
theorem hq_bits_eq {N : Nat} {a b : Int} (ha : InM N a) (hb : InM N b) (h : ∀ i, i < N → (tb a i = true ↔ tb b i = true)) : a = b := by
 refine tb_ext ha.1 hb.1 fun i => ?_
 rw [Bool.eq_iff_iff]
 by_cases hi : i < N
 ·exact h i hi
 ·constructor
  ·intro h2; exact absurd (tb_lt ha h2) hi
  ·intro h2; exact absurd (tb_lt hb h2) hi
section
variable {n : Int} {xs : List Int} (hP : okPo n xs = true)
include hP
theorem hq_po_rel : 0 ≤ n ∧ n ≤ 8 ∧ (xs.length : Int) = n ∧ RelOK n.toNat xs ∧ (∀ i, i < n.toNat → tb (xs.getD i 0) i = true) ∧ (∀ i j k : Nat, i < n.toNat → tb (xs.getD i 0) j = true → tb (xs.getD j 0) k = true → tb (xs.getD i 0) k = true) ∧ ∀ i j : Nat, i < n.toNat → tb (xs.getD i 0) j = true → tb (xs.getD j 0) i = true → i = j := by
 have hF := okPo_fr hP
 obtain ⟨h0, h8, hl, hr⟩ := okFr_rel hF
 simp only [okPo, Bool.and_eq_true] at hP
 obtain ⟨_, h1, h2, h3⟩ := hP
 have hlt : ∀ i j, i < n.toNat → tb (xs.getD i 0) j = true → j < n.toNat := fun i j hi h => tb_lt (hr.2 i hi) h
 exact ⟨h0, h8, hl, hr, rB_iff.1 h1, fun i j k hi a b => tB_iff.1 h2 i hi j (hlt i j hi a) k (hlt j k (hlt i j hi a) b) a b, fun i j hi a b => aB_iff.1 h3 i hi j (hlt i j hi a) a b⟩
theorem hq_img_bits {m : Int} (hm : InM n.toNat m) : InM n.toNat (img xs m xs.length) ∧ ∀ k, tb (img xs m xs.length) k = true ↔ ∃ j, tb m j = true ∧ tb (xs.getD j 0) k = true := by
 obtain ⟨h0, h8, hl, hr, _⟩ := hq_po_rel hP
 obtain ⟨h1, h2⟩ := img_ok (n := n.toNat) (by omega) hr hm xs.length (by omega)
 refine ⟨h1, fun k => ?_⟩
 rw [h2]
 constructor
 ·rintro ⟨j, _, h3, h4⟩; exact ⟨j, h3, h4⟩
 ·rintro ⟨j, h3, h4⟩; exact ⟨j, by have := tb_lt hm h3; omega, h3, h4⟩
theorem hq_up_iff {m : Int} : m ∈ upR n xs ↔ InM n.toNat m ∧ ∀ i j : Nat, tb m i = true → tb (xs.getD i 0) j = true → tb m j = true := by
 obtain ⟨h0, h8, hl, hr, rf, _⟩ := hq_po_rel hP
 have hs := shl_rng n h0 (by omega)
 rw [upR, if_pos hP, upL, hq_upTo_mem, show ((shl64 1 n).toNat : Int) = shl64 1 n by omega, hq_inM_lt h0 h8]
 constructor
 ·rintro ⟨a, b, c⟩
  have hm := (hq_inM_lt h0 h8).2 ⟨a, b⟩
  refine ⟨⟨a, b⟩, fun i j h1 h2 => ?_⟩
  rw [← c]
  exact ((hq_img_bits hP hm).2 j).2 ⟨i, h1, h2⟩
 ·rintro ⟨⟨a, b⟩, h⟩
  have hm := (hq_inM_lt h0 h8).2 ⟨a, b⟩
  refine ⟨a, b, hq_bits_eq (hq_img_bits hP hm).1 hm fun k hk => ?_⟩
  rw [(hq_img_bits hP hm).2]
  constructor
  ·rintro ⟨j, h1, h2⟩; exact h j k h1 h2
  ·intro h1; exact ⟨k, h1, rf k hk⟩
theorem hq_box_po {m : Int} (hm : InM n.toNat m) : InM n.toNat (boxB xs m xs.length) ∧ ∀ k, tb (boxB xs m xs.length) k = true ↔ k < n.toNat ∧ ∀ j, tb (xs.getD k 0) j = true → tb m j = true := by
 obtain ⟨h0, h8, hl, hr, _⟩ := hq_po_rel hP
 have := boxB_ok (n := n.toNat) (by omega) hr hm n.toNat (Nat.le_refl _)
 rw [show xs.length = n.toNat by omega]
 exact this
theorem hq_box_up {m : Int} (hm : InM n.toNat m) : boxB xs m xs.length ∈ upR n xs := by
 obtain ⟨h0, h8, hl, hr, rf, tr, asy⟩ := hq_po_rel hP
 obtain ⟨b1, b2⟩ := hq_box_po hP hm
 refine (hq_up_iff hP).2 ⟨b1, fun i j h1 h2 => ?_⟩
 obtain ⟨hi, h3⟩ := (b2 i).1 h1
 exact (b2 j).2 ⟨tb_lt (hr.2 i hi) h2, fun k hk => h3 k (tr i j k hi h2 hk)⟩
theorem hq_up_or {x y : Int} (hx : x ∈ upR n xs) (hy : y ∈ upR n xs) : bor x y ∈ upR n xs := by
 obtain ⟨h0, h8, _⟩ := hq_po_rel hP
 obtain ⟨a1, a2⟩ := (hq_up_iff hP).1 hx
 obtain ⟨b1, b2⟩ := (hq_up_iff hP).1 hy
 refine (hq_up_iff hP).2 ⟨inM_bor (by omega) a1 b1, fun i j h1 h2 => ?_⟩
 rw [tb_bor (n := n.toNat) (by omega) a1 b1, Bool.or_eq_true] at h1 ⊢
 exact h1.imp (fun h => a2 i j h h2) (fun h => b2 i j h h2)
theorem hq_up_and {x y : Int} (hx : x ∈ upR n xs) (hy : y ∈ upR n xs) : band x y ∈ upR n xs := by
 obtain ⟨h0, h8, _⟩ := hq_po_rel hP
 obtain ⟨a1, a2⟩ := (hq_up_iff hP).1 hx
 obtain ⟨b1, b2⟩ := (hq_up_iff hP).1 hy
 refine (hq_up_iff hP).2 ⟨inM_band (by omega) a1 b1, fun i j h1 h2 => ?_⟩
 rw [tb_band (n := n.toNat) (by omega) a1 b1, Bool.and_eq_true] at h1 ⊢
 exact ⟨a2 i j h1.1 h2, b2 i j h1.2 h2⟩
end
def subU (U : List Int) (x y : Nat) : Bool := decide (bnot (U.getD x 0) (U.getD y 0) = 0)
def ordU (U : List Int) : List Int := (List.range U.length).map fun x => mkB (subU U x) U.length
theorem ordU_len (U : List Int) : (ordU U).length = U.length := by simp [ordU]
theorem ordU_get {U : List Int} {x : Nat} (h : x < U.length) : (ordU U).getD x 0 = mkB (subU U x) U.length := by simp [ordU, List.getD_eq_getElem?_getD, List.getElem?_range h]
structure SysU (N : Nat) (U : List Int) (J : Int → Int → Int) : Prop where
 n61 : N ≤ 61
 n0 : 0 < U.length
 n30 : U.length ≤ 30
 rng : ∀ i : Nat, i < U.length → InM N (U.getD i 0)
 inj : ∀ i j : Nat, i < U.length → j < U.length → U.getD i 0 = U.getD j 0 → i = j
 cap : ∀ i j : Nat, i < U.length → j < U.length → ∃ k : Nat, k < U.length ∧ U.getD k 0 = band (U.getD i 0) (U.getD j 0)
 cup : ∀ i j : Nat, i < U.length → j < U.length → ∃ k : Nat, k < U.length ∧ U.getD k 0 = bor (U.getD i 0) (U.getD j 0)
 imp : ∀ i j : Nat, i < U.length → j < U.length → ∃ k : Nat, k < U.length ∧ U.getD k 0 = J (U.getD i 0) (U.getD j 0)
 adj : ∀ i j z : Nat, i < U.length → j < U.length → z < U.length → (bnot (band (U.getD z 0) (U.getD i 0)) (U.getD j 0) = 0 ↔ bnot (U.getD z 0) (J (U.getD i 0) (U.getD j 0)) = 0)
 bot : ∃ k : Nat, k < U.length ∧ ∀ z : Nat, z < U.length → bnot (U.getD k 0) (U.getD z 0) = 0
 top : ∃ k : Nat, k < U.length ∧ ∀ z : Nat, z < U.length → bnot (U.getD z 0) (U.getD k 0) = 0
section
variable {N : Nat} {U : List Int} {J : Int → Int → Int} (h : SysU N U J)
include h
theorem sub_bits {a b : Nat} (ha : a < U.length) (hb : b < U.length) : bnot (U.getD a 0) (U.getD b 0) = 0 ↔ ∀ i, tb (U.getD a 0) i = true → tb (U.getD b 0) i = true := bnot_sub h.n61 (h.rng a ha) (h.rng b hb)
theorem ordU_tb {x y : Nat} (hx : x < U.length) : tb ((ordU U).getD x 0) y = true ↔ y < U.length ∧ bnot (U.getD x 0) (U.getD y 0) = 0 := by
 rw [ordU_get hx, (mkB_ok _ (N := U.length) (by have := h.n30; omega) _ (Nat.le_refl _)).2, Bool.and_eq_true, decide_eq_true_eq, subU, decide_eq_true_eq]
theorem ordU_rel : RelOK (ordU U).length (ordU U) := by
 refine ⟨rfl, fun j hj => ?_⟩
 rw [ordU_len] at hj ⊢
 rw [ordU_get hj]
 exact (mkB_ok _ (N := U.length) (by have := h.n30; omega) _ (Nat.le_refl _)).1
theorem ordU_asym {x y : Nat} (hx : x < U.length) (hy : y < U.length) (a : bnot (U.getD x 0) (U.getD y 0) = 0) (b : bnot (U.getD y 0) (U.getD x 0) = 0) : x = y := by
 refine h.inj x y hx hy (tb_ext (h.rng x hx).1 (h.rng y hy).1 fun i => ?_)
 rw [Bool.eq_iff_iff]
 exact ⟨(sub_bits h hx hy).1 a i, (sub_bits h hy hx).1 b i⟩
theorem ordU_pa : paB (ordU U).length (ordU U) = true := by
 have h1 : rB (ordU U).length (ordU U) = true := rB_iff.2 fun i hi => by
  rw [ordU_len] at hi
  exact (ordU_tb h hi).2 ⟨hi, (sub_bits h hi hi).2 fun _ a => a⟩
 have h2 : tB (ordU U).length (ordU U) = true := tB_iff.2 fun i hi j hj k hk a b => by
  rw [ordU_len] at hi hj hk
  have a' := ((ordU_tb h hi).1 a).2
  have b' := ((ordU_tb h hj).1 b).2
  exact (ordU_tb h hi).2 ⟨hk, (sub_bits h hi hk).2 fun q hq => (sub_bits h hj hk).1 b' q ((sub_bits h hi hj).1 a' q hq)⟩
 have h3 : aB (ordU U).length (ordU U) = true := aB_iff.2 fun i hi j hj a b => by
  rw [ordU_len] at hi hj
  exact ordU_asym h hi hj ((ordU_tb h hi).1 a).2 ((ordU_tb h hj).1 b).2
 rw [paB, h1, h2, h3]; rfl
theorem inv_tb {x y : Nat} (hy : y < U.length) : tb ((invA (ordU U) (ordU U).length).getD y 0) x = true ↔ x < U.length ∧ bnot (U.getD x 0) (U.getD y 0) = 0 := by
 have h1 := (invA_ok (ordU_rel h) (by rw [ordU_len]; exact h.n30) _ (Nat.le_refl _)).2 y (by rw [ordU_len]; exact hy) x
 rw [h1, ordU_len]
 constructor
 ·rintro ⟨hx, a⟩; exact ⟨hx, ((ordU_tb h hx).1 a).2⟩
 ·rintro ⟨hx, a⟩; exact ⟨hx, (ordU_tb h hx).2 ⟨hy, a⟩⟩
theorem inv_in {y : Nat} (hy : y < U.length) : InM U.length ((invA (ordU U) (ordU U).length).getD y 0) := by
 have h1 := (invA_ok (ordU_rel h) (by rw [ordU_len]; exact h.n30) _ (Nat.le_refl _)).1.2 y (by rw [ordU_len]; exact hy)
 generalize (invA (ordU U) (ordU U).length).getD y 0 = X at h1 ⊢
 rwa [ordU_len] at h1
theorem ord_in {y : Nat} (hy : y < U.length) : InM U.length ((ordU U).getD y 0) := by
 have h1 := (ordU_rel h).2 y (by rw [ordU_len]; exact hy)
 rwa [ordU_len] at h1
theorem low_inv {m : Int} {k : Nat} (hm : InM U.length m) (hk : k < U.length) (h1 : tb m k = true) (h2 : ∀ z : Nat, tb m z = true → bnot (U.getD z 0) (U.getD k 0) = 0) : lowF (invA (ordU U) (ordU U).length) m = (k : Int) := by
 have h30 := h.n30
 have key : ∀ x : Nat, x < U.length → (lowP (invA (ordU U) (ordU U).length) m x = true ↔ tb m x = true ∧ ∀ z : Nat, tb m z = true → bnot (U.getD z 0) (U.getD x 0) = 0) := fun x hx => by
  rw [lowP, Bool.and_eq_true, decide_eq_true_eq, bnot_sub (n := U.length) (by omega) hm (inv_in h hx)]
  refine and_congr_right fun _ => ⟨fun a z hz => ((inv_tb h hx).1 (a z hz)).2, fun a z hz => (inv_tb h hx).2 ⟨tb_lt hm hz, a z hz⟩⟩
 refine lowF_at (fun x hx => ?_) ((key k hk).2 ⟨h1, h2⟩) (by rw [invA_len, ordU_len]; exact hk)
 cases e : lowP (invA (ordU U) (ordU U).length) m x with
 | false => rfl
 | true =>
  have e2 := (key x (by omega)).1 e
  have := ordU_asym h (by omega) hk (h2 x e2.1) (e2.2 k h1)
  omega
theorem low_ord {m : Int} {k : Nat} (hm : InM U.length m) (hk : k < U.length) (h1 : tb m k = true) (h2 : ∀ z : Nat, tb m z = true → bnot (U.getD k 0) (U.getD z 0) = 0) : lowF (ordU U) m = (k : Int) := by
 have h30 := h.n30
 have key : ∀ x : Nat, x < U.length → (lowP (ordU U) m x = true ↔ tb m x = true ∧ ∀ z : Nat, tb m z = true → bnot (U.getD x 0) (U.getD z 0) = 0) := fun x hx => by
  rw [lowP, Bool.and_eq_true, decide_eq_true_eq, bnot_sub (n := U.length) (by omega) hm (ord_in h hx)]
  refine and_congr_right fun _ => ⟨fun a z hz => ((ordU_tb h hx).1 (a z hz)).2, fun a z hz => (ordU_tb h hx).2 ⟨tb_lt hm hz, a z hz⟩⟩
 refine lowF_at (fun x hx => ?_) ((key k hk).2 ⟨h1, h2⟩) (by rw [ordU_len]; exact hk)
 cases e : lowP (ordU U) m x with
 | false => rfl
 | true =>
  have e2 := (key x (by omega)).1 e
  have := ordU_asym h (by omega) hk (e2.2 k h1) (h2 x e2.1)
  omega
theorem hyM_at {x y k : Nat} (hx : x < U.length) (hy : y < U.length) (hk : k < U.length) (e : U.getD k 0 = band (U.getD x 0) (U.getD y 0)) : hyM (ordU U) x y = (k : Int) := by
 have h30 := h.n30
 have hm := inM_band (n := U.length) (by omega) (inv_in h hx) (inv_in h hy)
 have hb : ∀ z : Nat, tb (band ((invA (ordU U) (ordU U).length).getD x 0) ((invA (ordU U) (ordU U).length).getD y 0)) z = true ↔ z < U.length ∧ bnot (U.getD z 0) (U.getD x 0) = 0 ∧ bnot (U.getD z 0) (U.getD y 0) = 0 := fun z => by
  rw [tb_band (n := U.length) (by omega) (inv_in h hx) (inv_in h hy), Bool.and_eq_true, inv_tb h hx, inv_tb h hy]
  exact ⟨fun a => ⟨a.1.1, a.1.2, a.2.2⟩, fun a => ⟨⟨a.1, a.2.1⟩, a.1, a.2.2⟩⟩
 have hkb : ∀ i, tb (U.getD k 0) i = true ↔ tb (U.getD x 0) i = true ∧ tb (U.getD y 0) i = true := fun i => by
  rw [e, tb_band h.n61 (h.rng x hx) (h.rng y hy), Bool.and_eq_true]
 refine low_inv h hm hk ((hb k).2 ⟨hk, (sub_bits h hk hx).2 fun i a => ((hkb i).1 a).1, (sub_bits h hk hy).2 fun i a => ((hkb i).1 a).2⟩) fun z hz => ?_
 obtain ⟨hz, a, b⟩ := (hb z).1 hz
 exact (sub_bits h hz hk).2 fun i q => (hkb i).2 ⟨(sub_bits h hz hx).1 a i q, (sub_bits h hz hy).1 b i q⟩
theorem hyJ_at {x y k : Nat} (hx : x < U.length) (hy : y < U.length) (hk : k < U.length) (e : U.getD k 0 = bor (U.getD x 0) (U.getD y 0)) : hyJ (ordU U) x y = (k : Int) := by
 have h30 := h.n30
 have hm := inM_band (n := U.length) (by omega) (ord_in h hx) (ord_in h hy)
 have hb : ∀ z : Nat, tb (band ((ordU U).getD x 0) ((ordU U).getD y 0)) z = true ↔ z < U.length ∧ bnot (U.getD x 0) (U.getD z 0) = 0 ∧ bnot (U.getD y 0) (U.getD z 0) = 0 := fun z => by
  rw [tb_band (n := U.length) (by omega) (ord_in h hx) (ord_in h hy), Bool.and_eq_true, ordU_tb h hx, ordU_tb h hy]
  exact ⟨fun a => ⟨a.1.1, a.1.2, a.2.2⟩, fun a => ⟨⟨a.1, a.2.1⟩, a.1, a.2.2⟩⟩
 have hkb : ∀ i, tb (U.getD k 0) i = true ↔ tb (U.getD x 0) i = true ∨ tb (U.getD y 0) i = true := fun i => by
  rw [e, tb_bor h.n61 (h.rng x hx) (h.rng y hy), Bool.or_eq_true]
 refine low_ord h hm hk ((hb k).2 ⟨hk, (sub_bits h hx hk).2 fun i a => (hkb i).2 (.inl a), (sub_bits h hy hk).2 fun i a => (hkb i).2 (.inr a)⟩) fun z hz => ?_
 obtain ⟨hz, a, b⟩ := (hb z).1 hz
 exact (sub_bits h hk hz).2 fun i q => ((hkb i).1 q).elim ((sub_bits h hx hz).1 a i) ((sub_bits h hy hz).1 b i)
theorem hyI_at {x y k : Nat} (hx : x < U.length) (hy : y < U.length) (hk : k < U.length) (e : U.getD k 0 = J (U.getD x 0) (U.getD y 0)) : hyI (ordU U) x y = (k : Int) := by
 have h30 := h.n30
 have hm : InM U.length (hyC (ordU U) x y (ordU U).length) := by rw [ordU_len]; exact (mkB_ok _ (by omega) _ (Nat.le_refl _)).1
 have hb : ∀ z : Nat, tb (hyC (ordU U) x y (ordU U).length) z = true ↔ z < U.length ∧ bnot (U.getD z 0) (U.getD k 0) = 0 := fun z => by
  rw [hyC, (mkB_ok _ (N := (ordU U).length) (by rw [ordU_len]; omega) _ (Nat.le_refl _)).2, Bool.and_eq_true, decide_eq_true_eq, ordU_len]
  refine and_congr_right fun hz => ?_
  obtain ⟨q, hq, eq⟩ := h.cap z x hz hx
  rw [hyM_at h hz hx hq eq, Int.toNat_natCast, ← ordU_len U, inv_tb h hy, eq, e]
  exact ⟨fun a => (h.adj x y z hx hy hz).1 a.2, fun a => ⟨hq, (h.adj x y z hx hy hz).2 a⟩⟩
 exact low_inv h hm hk ((hb k).2 ⟨hk, (sub_bits h hk hk).2 fun _ a => a⟩) fun z hz => ((hb z).1 hz).2
theorem sys_hy : HyOK (ordU U) := by
 have h30 := h.n30
 have hl := ordU_len U
 have hfm : InM U.length (fullM U.length) := inM_full (by omega)
 have hft : ∀ z : Nat, tb (fullM U.length) z = decide (z < U.length) := fun z => tb_full (by omega) z
 refine ⟨by rw [hl]; exact h.n0, by rw [hl]; exact h30, ordU_rel h, ordU_pa h, fun x y hx hy => ?_, fun x y hx hy => ?_, fun x y hx hy => ?_, ?_, ?_⟩
 ·rw [hl] at hx hy
  obtain ⟨k, hk, e⟩ := h.cap x y hx hy
  rw [hyM_at h hx hy hk e]; omega
 ·rw [hl] at hx hy
  obtain ⟨k, hk, e⟩ := h.cup x y hx hy
  rw [hyJ_at h hx hy hk e]; omega
 ·rw [hl] at hx hy
  obtain ⟨k, hk, e⟩ := h.imp x y hx hy
  rw [hyI_at h hx hy hk e]; omega
 ·obtain ⟨k, hk, e⟩ := h.bot
  rw [hl, low_ord h hfm hk (by rw [hft]; exact decide_eq_true hk) fun z hz => e z (tb_lt hfm hz)]; omega
 ·obtain ⟨k, hk, e⟩ := h.top
  have e2 : fullM (ordU U).length = fullM U.length := by rw [hl]
  rw [e2, low_inv h hfm hk (by rw [hft]; exact decide_eq_true hk) fun z hz => e z (tb_lt hfm hz)]; omega
end
def uJ (n : Int) (xs : List Int) (a b : Int) : Int := boxB xs (bor (bnot ((shl64 1 n) - 1) a) b) xs.length
theorem up_sys {n : Int} {xs : List Int} (hP : okPo n xs = true) (h30 : (upL n xs).length ≤ 30) : SysU n.toNat (upL n xs) (uJ n xs) := by
 obtain ⟨h0, h8, hl, hr, rf, tr, asy⟩ := hq_po_rel hP
 have eU : upR n xs = upL n xs := if_pos hP
 have mem : ∀ i : Nat, i < (upL n xs).length → (upL n xs).getD i 0 ∈ upR n xs := fun i hi => by
  rw [eU, List.getD_eq_getElem?_getD, List.getElem?_eq_getElem hi]; exact List.getElem_mem _
 have idx : ∀ m ∈ upR n xs, ∃ k : Nat, k < (upL n xs).length ∧ (upL n xs).getD k 0 = m := fun m hm => by
  rw [eU] at hm
  obtain ⟨k, hk, e⟩ := List.getElem_of_mem hm
  exact ⟨k, hk, by rw [List.getD_eq_getElem?_getD, List.getElem?_eq_getElem hk]; exact e⟩
 have rng : ∀ i : Nat, i < (upL n xs).length → InM n.toNat ((upL n xs).getD i 0) := fun i hi => ((hq_up_iff hP).1 (mem i hi)).1
 have hz : (0 : Int) ∈ upR n xs := (hq_up_iff hP).2 ⟨inM_zero _, fun i j h _ => by rw [tb_zero] at h; cases h⟩
 have hnn : ((n.toNat : Nat) : Int) = n := by omega
 have hfi : InM n.toNat ((shl64 1 n) - 1) := by have := inM_full (n := n.toNat) (by omega); rwa [hnn] at this
 have hft : ∀ i, tb ((shl64 1 n) - 1) i = decide (i < n.toNat) := fun i => by have := tb_full (n := n.toNat) (by omega) i; rwa [hnn] at this
 have hf : (shl64 1 n) - 1 ∈ upR n xs := (hq_up_iff hP).2 ⟨hfi, fun i j a b => by
  rw [hft] at a ⊢
  exact decide_eq_true (tb_lt (hr.2 i (of_decide_eq_true a)) b)⟩
 have cmp : ∀ a, InM n.toNat a → InM n.toNat (bnot ((shl64 1 n) - 1) a) ∧ ∀ i, tb (bnot ((shl64 1 n) - 1) a) i = (decide (i < n.toNat) && !tb a i) := fun a ha => ⟨inM_bnot (by omega) hfi ha, fun i => by rw [tb_bnot (n := n.toNat) (by omega) hfi ha, hft]⟩
 refine ⟨by omega, ?_, h30, rng, fun i j hi hj e => ?_, fun i j hi hj => idx _ (hq_up_and hP (mem i hi) (mem j hj)), fun i j hi hj => idx _ (hq_up_or hP (mem i hi) (mem j hj)), fun i j hi hj => idx _ (hq_box_up hP (inM_bor (by omega) (cmp _ (rng i hi)).1 (rng j hj))), fun i j z hi hj hz' => ?_, ?_, ?_⟩
 ·obtain ⟨k, hk, _⟩ := idx 0 hz; omega
 ·have hn : (upL n xs).Nodup := hq_upTo_nodup _
  have e1 : (upL n xs)[i] = (upL n xs)[j] := by
   rw [List.getD_eq_getElem?_getD, List.getD_eq_getElem?_getD, List.getElem?_eq_getElem hi, List.getElem?_eq_getElem hj] at e
   exact e
  rcases Nat.lt_trichotomy i j with hlt | hlt | hlt
  ·exact absurd e1 (List.pairwise_iff_getElem.1 hn i j hi hj hlt)
  ·exact hlt
  ·exact absurd e1.symm (List.pairwise_iff_getElem.1 hn j i hj hi hlt)
 ·have ha := rng i hi
  have hb := rng j hj
  have hc := rng z hz'
  have hzu := ((hq_up_iff hP).1 (mem z hz')).2
  have hm := inM_bor (n := n.toNat) (by omega) (cmp _ ha).1 hb
  obtain ⟨b1, b2⟩ := hq_box_po hP hm
  rw [bnot_sub (n := n.toNat) (by omega) (inM_band (by omega) hc ha) hb, uJ, bnot_sub (n := n.toNat) (by omega) hc b1]
  constructor
  ·intro a k hk
   refine (b2 k).2 ⟨tb_lt hc hk, fun q hq => ?_⟩
   have hzq := hzu k q hk hq
   rw [tb_bor (n := n.toNat) (by omega) (cmp _ ha).1 hb, (cmp _ ha).2, Bool.or_eq_true, Bool.and_eq_true, decide_eq_true_eq]
   cases e : tb ((upL n xs).getD i 0) q with
   | false => exact .inl ⟨tb_lt hc hzq, rfl⟩
   | true => exact .inr (a q (by rw [tb_band (n := n.toNat) (by omega) hc ha, hzq, e]; rfl))
  ·intro a k hk
   rw [tb_band (n := n.toNat) (by omega) hc ha, Bool.and_eq_true] at hk
   have h1 := ((b2 k).1 (a k hk.1)).2 k (rf k (tb_lt hc hk.1))
   rw [tb_bor (n := n.toNat) (by omega) (cmp _ ha).1 hb, (cmp _ ha).2, hk.2] at h1
   simpa using h1
 ·obtain ⟨k, hk, e⟩ := idx 0 hz
  refine ⟨k, hk, fun z hz' => ?_⟩
  rw [e, bnot_sub (n := n.toNat) (by omega) (inM_zero _) (rng z hz')]
  intro i a; rw [tb_zero] at a; cases a
 ·obtain ⟨k, hk, e⟩ := idx _ hf
  refine ⟨k, hk, fun z hz' => ?_⟩
  rw [e, bnot_sub (n := n.toNat) (by omega) (rng z hz') hfi]
  intro i a; rw [hft]; exact decide_eq_true (tb_lt (rng z hz') a)
theorem up_hy {n : Int} {xs : List Int} (hP : okPo n xs = true) (h30 : (upL n xs).length ≤ 30) : HyOK (ordU (upL n xs)) := sys_hy (up_sys hP h30)
end Go.Proofs.YtjllngcefoohpaaGreat

/-! Algebras of orders: what meets, joins and implications are; when there are some. -/
namespace Go.Proofs.YtjllngcefoohpaaGreat
open Go.RowKit Go.Abs

def leX (xs : List Int) (x y : Nat) : Prop := tb (xs.getD x 0) y = true
def mX (xs : List Int) (x y : Nat) : Nat := (hyM xs x y).toNat
def jX (xs : List Int) (x y : Nat) : Nat := (hyJ xs x y).toNat
def iX (xs : List Int) (x y : Nat) : Nat := (hyI xs x y).toNat
def bX (xs : List Int) : Nat := (lowF xs (fullM xs.length)).toNat
def tX (xs : List Int) : Nat := (lowF (invA xs xs.length) (fullM xs.length)).toNat
structure Ord (xs : List Int) : Prop where
 n30 : xs.length ≤ 30
 rel : RelOK xs.length xs
 pa : paB xs.length xs = true
theorem HyOK.ord {xs : List Int} (h : HyOK xs) : Ord xs := ⟨h.n30, h.rel, h.pa⟩
section
variable {xs : List Int} (h : Ord xs)
include h
theorem ox_refl {x : Nat} (hx : x < xs.length) : leX xs x x := by
 have := h.pa
 simp only [paB, Bool.and_eq_true] at this
 exact rB_iff.1 this.1 x hx
theorem ox_lt {x y : Nat} (hx : x < xs.length) (a : leX xs x y) : y < xs.length := tb_lt (h.rel.2 x hx) a
theorem ox_trans {x y z : Nat} (hx : x < xs.length) (a : leX xs x y) (b : leX xs y z) : leX xs x z := by
 have h1 := h.pa
 simp only [paB, Bool.and_eq_true] at h1
 have hy := ox_lt h hx a
 exact tB_iff.1 h1.2.1 x hx y hy z (ox_lt h hy b) a b
theorem ox_anti {x y : Nat} (hx : x < xs.length) (a : leX xs x y) (b : leX xs y x) : x = y := by
 have h1 := h.pa
 simp only [paB, Bool.and_eq_true] at h1
 exact aB_iff.1 h1.2.2 x hx y (ox_lt h hx a) a b
theorem ox_inv : RelOK xs.length (invA xs xs.length) ∧ ∀ j : Nat, j < xs.length → ∀ k, tb ((invA xs xs.length).getD j 0) k = true ↔ k < xs.length ∧ leX xs k j := invA_ok h.rel h.n30 _ (Nat.le_refl _)
theorem ox_lowP {m : Int} (hm : InM xs.length m) {x : Nat} (hx : x < xs.length) : lowP xs m x = true ↔ tb m x = true ∧ ∀ z, tb m z = true → leX xs x z := by
 have := h.n30
 rw [lowP, Bool.and_eq_true, decide_eq_true_eq, bnot_sub (n := xs.length) (by omega) hm (h.rel.2 x hx)]
 exact Iff.rfl
theorem ox_lowQ {m : Int} (hm : InM xs.length m) {x : Nat} (hx : x < xs.length) : lowP (invA xs xs.length) m x = true ↔ tb m x = true ∧ ∀ z, tb m z = true → leX xs z x := by
 have h30 := h.n30
 have hi := ox_inv h
 rw [lowP, Bool.and_eq_true, decide_eq_true_eq, bnot_sub (n := xs.length) (by omega) hm (hi.1.2 x hx)]
 refine and_congr_right fun _ => ⟨fun a z hz => ((hi.2 x hx z).1 (a z hz)).2, fun a z hz => (hi.2 x hx z).2 ⟨tb_lt hm hz, a z hz⟩⟩
theorem ox_low_is {m : Int} (hm : InM xs.length m) {k : Nat} (hk : k < xs.length) (h1 : tb m k = true) (h2 : ∀ z, tb m z = true → leX xs k z) : lowF xs m = (k : Int) := by
 refine lowF_at (fun x hx => ?_) ((ox_lowP h hm hk).2 ⟨h1, h2⟩) hk
 cases e : lowP xs m x with
 | false => rfl
 | true =>
  have e2 := (ox_lowP h hm (by omega)).1 e
  have := ox_anti h (by omega) (e2.2 k h1) (h2 x e2.1)
  omega
theorem ox_lowI_is {m : Int} (hm : InM xs.length m) {k : Nat} (hk : k < xs.length) (h1 : tb m k = true) (h2 : ∀ z, tb m z = true → leX xs z k) : lowF (invA xs xs.length) m = (k : Int) := by
 refine lowF_at (fun x hx => ?_) ((ox_lowQ h hm hk).2 ⟨h1, h2⟩) (by rw [invA_len]; exact hk)
 cases e : lowP (invA xs xs.length) m x with
 | false => rfl
 | true =>
  have e2 := (ox_lowQ h hm (by omega)).1 e
  have := ox_anti h (by omega) (h2 x e2.1) (e2.2 k h1)
  omega
theorem ox_low_get {m : Int} (hm : InM xs.length m) (h0 : 0 ≤ lowF xs m) : (lowF xs m).toNat < xs.length ∧ tb m (lowF xs m).toNat = true ∧ ∀ z, tb m z = true → leX xs (lowF xs m).toNat z := by
 obtain ⟨x, h1, h2, h3⟩ := lowF_some h0
 rw [h2, Int.toNat_natCast]
 exact ⟨h1, (ox_lowP h hm h1).1 h3⟩
theorem ox_lowI_get {m : Int} (hm : InM xs.length m) (h0 : 0 ≤ lowF (invA xs xs.length) m) : (lowF (invA xs xs.length) m).toNat < xs.length ∧ tb m (lowF (invA xs xs.length) m).toNat = true ∧ ∀ z, tb m z = true → leX xs z (lowF (invA xs xs.length) m).toNat := by
 obtain ⟨x, h1, h2, h3⟩ := lowF_some h0
 rw [invA_len] at h1
 rw [h2, Int.toNat_natCast]
 exact ⟨h1, (ox_lowQ h hm h1).1 h3⟩

theorem ox_mm {x y : Nat} (hx : x < xs.length) (hy : y < xs.length) : InM xs.length (band ((invA xs xs.length).getD x 0) ((invA xs xs.length).getD y 0)) ∧ ∀ z, tb (band ((invA xs xs.length).getD x 0) ((invA xs xs.length).getD y 0)) z = true ↔ z < xs.length ∧ leX xs z x ∧ leX xs z y := by
 have h30 := h.n30
 have hi := ox_inv h
 refine ⟨inM_band (by omega) (hi.1.2 x hx) (hi.1.2 y hy), fun z => ?_⟩
 rw [tb_band (n := xs.length) (by omega) (hi.1.2 x hx) (hi.1.2 y hy), Bool.and_eq_true, hi.2 x hx, hi.2 y hy]
 exact ⟨fun a => ⟨a.1.1, a.1.2, a.2.2⟩, fun a => ⟨⟨a.1, a.2.1⟩, a.1, a.2.2⟩⟩
theorem ox_jm {x y : Nat} (hx : x < xs.length) (hy : y < xs.length) : InM xs.length (band (xs.getD x 0) (xs.getD y 0)) ∧ ∀ z, tb (band (xs.getD x 0) (xs.getD y 0)) z = true ↔ leX xs x z ∧ leX xs y z := by
 have h30 := h.n30
 refine ⟨inM_band (by omega) (h.rel.2 x hx) (h.rel.2 y hy), fun z => ?_⟩
 rw [tb_band (n := xs.length) (by omega) (h.rel.2 x hx) (h.rel.2 y hy), Bool.and_eq_true]
 exact Iff.rfl
theorem ox_im {x y : Nat} (hx : x < xs.length) (hy : y < xs.length) : InM xs.length (hyC xs x y xs.length) ∧ ((∀ z, z < xs.length → 0 ≤ hyM xs z x) → ∀ z, tb (hyC xs x y xs.length) z = true ↔ z < xs.length ∧ leX xs (mX xs z x) y) := by
 have h30 := h.n30
 have hk := mkB_ok (fun z => tb ((invA xs xs.length).getD y 0) (hyM xs z x).toNat) (N := xs.length) (by omega) _ (Nat.le_refl _)
 refine ⟨hk.1, fun hm z => ?_⟩
 rw [hyC, hk.2, Bool.and_eq_true, decide_eq_true_eq]
 refine and_congr_right fun hz => ?_
 rw [(ox_inv h).2 y hy]
 have h1 := lowF_rng (invA xs xs.length) (band ((invA xs xs.length).getD z 0) ((invA xs xs.length).getD x 0))
 rw [invA_len] at h1
 have h2 := hm z hz
 have h3 : (hyM xs z x).toNat < xs.length := by
  have : hyM xs z x < (xs.length : Int) := h1.2
  omega
 exact ⟨fun a => a.2, fun a => ⟨h3, a⟩⟩
theorem ox_full : InM xs.length (fullM xs.length) ∧ ∀ z, tb (fullM xs.length) z = true ↔ z < xs.length := by
 have h30 := h.n30
 refine ⟨inM_full (by omega), fun z => ?_⟩
 rw [fullM, tb_full (by omega), decide_eq_true_iff]

theorem ox_M_is {x y k : Nat} (hx : x < xs.length) (hy : y < xs.length) (hk : k < xs.length) (h1 : leX xs k x) (h2 : leX xs k y) (h3 : ∀ z, z < xs.length → leX xs z x → leX xs z y → leX xs z k) : hyM xs x y = (k : Int) := by
 obtain ⟨hm, hb⟩ := ox_mm h hx hy
 exact ox_lowI_is h hm hk ((hb k).2 ⟨hk, h1, h2⟩) fun z hz => by
  obtain ⟨a, b, c⟩ := (hb z).1 hz
  exact h3 z a b c
theorem ox_J_is {x y k : Nat} (hx : x < xs.length) (hy : y < xs.length) (hk : k < xs.length) (h1 : leX xs x k) (h2 : leX xs y k) (h3 : ∀ z, z < xs.length → leX xs x z → leX xs y z → leX xs k z) : hyJ xs x y = (k : Int) := by
 obtain ⟨hm, hb⟩ := ox_jm h hx hy
 exact ox_low_is h hm hk ((hb k).2 ⟨h1, h2⟩) fun z hz => by
  obtain ⟨b, c⟩ := (hb z).1 hz
  exact h3 z (ox_lt h hx b) b c
theorem ox_I_is {x y k : Nat} (hx : x < xs.length) (hy : y < xs.length) (hk : k < xs.length) (hm0 : ∀ z, z < xs.length → 0 ≤ hyM xs z x) (h1 : leX xs (mX xs k x) y) (h3 : ∀ z, z < xs.length → leX xs (mX xs z x) y → leX xs z k) : hyI xs x y = (k : Int) := by
 obtain ⟨hm, hb⟩ := ox_im h hx hy
 exact ox_lowI_is h hm hk ((hb hm0 k).2 ⟨hk, h1⟩) fun z hz => by
  obtain ⟨a, b⟩ := (hb hm0 z).1 hz
  exact h3 z a b
theorem ox_b_is {k : Nat} (hk : k < xs.length) (h1 : ∀ z, z < xs.length → leX xs k z) : lowF xs (fullM xs.length) = (k : Int) := by
 obtain ⟨hm, hb⟩ := ox_full h
 exact ox_low_is h hm hk ((hb k).2 hk) fun z hz => h1 z ((hb z).1 hz)
theorem ox_t_is {k : Nat} (hk : k < xs.length) (h1 : ∀ z, z < xs.length → leX xs z k) : lowF (invA xs xs.length) (fullM xs.length) = (k : Int) := by
 obtain ⟨hm, hb⟩ := ox_full h
 exact ox_lowI_is h hm hk ((hb k).2 hk) fun z hz => h1 z ((hb z).1 hz)
theorem ox_M_get {x y : Nat} (hx : x < xs.length) (hy : y < xs.length) (h0 : 0 ≤ hyM xs x y) : mX xs x y < xs.length ∧ leX xs (mX xs x y) x ∧ leX xs (mX xs x y) y ∧ ∀ z, z < xs.length → leX xs z x → leX xs z y → leX xs z (mX xs x y) := by
 obtain ⟨hm, hb⟩ := ox_mm h hx hy
 obtain ⟨a, b, c⟩ := ox_lowI_get h hm h0
 have b' := (hb _).1 b
 exact ⟨a, b'.2.1, b'.2.2, fun z hz p q => c z ((hb z).2 ⟨hz, p, q⟩)⟩
theorem ox_J_get {x y : Nat} (hx : x < xs.length) (hy : y < xs.length) (h0 : 0 ≤ hyJ xs x y) : jX xs x y < xs.length ∧ leX xs x (jX xs x y) ∧ leX xs y (jX xs x y) ∧ ∀ z, z < xs.length → leX xs x z → leX xs y z → leX xs (jX xs x y) z := by
 obtain ⟨hm, hb⟩ := ox_jm h hx hy
 obtain ⟨a, b, c⟩ := ox_low_get h hm h0
 have b' := (hb _).1 b
 exact ⟨a, b'.1, b'.2, fun z hz p q => c z ((hb z).2 ⟨p, q⟩)⟩
theorem ox_I_get {x y : Nat} (hx : x < xs.length) (hy : y < xs.length) (hm0 : ∀ z, z < xs.length → 0 ≤ hyM xs z x) (h0 : 0 ≤ hyI xs x y) : iX xs x y < xs.length ∧ ∀ z, z < xs.length → (leX xs (mX xs z x) y ↔ leX xs z (iX xs x y)) := by
 obtain ⟨hm, hb⟩ := ox_im h hx hy
 obtain ⟨a, b, c⟩ := ox_lowI_get h hm h0
 have b' := ((hb hm0 _).1 b).2
 refine ⟨a, fun z hz => ⟨fun p => c z ((hb hm0 z).2 ⟨hz, p⟩), fun p => ?_⟩⟩
 have hi : iX xs x y < xs.length := a
 obtain ⟨m1, m2, m3, _⟩ := ox_M_get h hz hx (hm0 z hz)
 obtain ⟨k1, _, _, k4⟩ := ox_M_get h hi hx (hm0 _ hi)
 exact ox_trans h m1 (k4 _ m1 (ox_trans h m1 m2 p) m3) b'
theorem ox_bot (h0 : 0 < xs.length) (hm : ∀ x y, x < xs.length → y < xs.length → 0 ≤ hyM xs x y) : ∀ k, k ≤ xs.length → ∃ b, b < xs.length ∧ ∀ z, z < k → leX xs b z
 | 0, _ => ⟨0, h0, fun z hz => absurd hz (by omega)⟩
 | k + 1, hk => by
  obtain ⟨b, hb, h1⟩ := ox_bot h0 hm k (by omega)
  obtain ⟨m1, m2, m3, _⟩ := ox_M_get h hb (show k < xs.length by omega) (hm b k hb (by omega))
  refine ⟨mX xs b k, m1, fun z hz => ?_⟩
  rcases Nat.lt_or_ge z k with hz' | hz'
  ·exact ox_trans h m1 m2 (h1 z hz')
  ·rw [show z = k by omega]; exact m3
theorem ox_top (h0 : 0 < xs.length) (hj : ∀ x y, x < xs.length → y < xs.length → 0 ≤ hyJ xs x y) : ∀ k, k ≤ xs.length → ∃ b, b < xs.length ∧ ∀ z, z < k → leX xs z b
 | 0, _ => ⟨0, h0, fun z hz => absurd hz (by omega)⟩
 | k + 1, hk => by
  obtain ⟨b, hb, h1⟩ := ox_top h0 hj k (by omega)
  obtain ⟨m1, m2, m3, _⟩ := ox_J_get h hb (show k < xs.length by omega) (hj b k hb (by omega))
  refine ⟨jX xs b k, m1, fun z hz => ?_⟩
  rcases Nat.lt_or_ge z k with hz' | hz'
  ·exact ox_trans h (by omega) (h1 z hz') m2
  ·rw [show z = k by omega]; exact m3
theorem ox_hy (h0 : 0 < xs.length) (hm : ∀ x y, x < xs.length → y < xs.length → 0 ≤ hyM xs x y) (hj : ∀ x y, x < xs.length → y < xs.length → 0 ≤ hyJ xs x y) (hi : ∀ x y, x < xs.length → y < xs.length → 0 ≤ hyI xs x y) : HyOK xs := by
 refine ⟨h0, h.n30, h.rel, h.pa, hm, hj, hi, ?_, ?_⟩
 ·obtain ⟨b, hb, h1⟩ := ox_bot h h0 hm _ (Nat.le_refl _)
  rw [ox_b_is h hb h1]; omega
 ·obtain ⟨b, hb, h1⟩ := ox_top h h0 hj _ (Nat.le_refl _)
  rw [ox_t_is h hb h1]; omega
end

section
variable {xs : List Int} (h : HyOK xs)
include h
theorem hx_refl {x : Nat} (hx : x < xs.length) : leX xs x x := ox_refl h.ord hx
theorem hx_trans {x y z : Nat} (hx : x < xs.length) (a : leX xs x y) (b : leX xs y z) : leX xs x z := ox_trans h.ord hx a b
theorem hx_anti {x y : Nat} (hx : x < xs.length) (a : leX xs x y) (b : leX xs y x) : x = y := ox_anti h.ord hx a b
theorem hx_M {x y : Nat} (hx : x < xs.length) (hy : y < xs.length) : hyM xs x y = (mX xs x y : Int) ∧ mX xs x y < xs.length ∧ leX xs (mX xs x y) x ∧ leX xs (mX xs x y) y ∧ ∀ z, z < xs.length → leX xs z x → leX xs z y → leX xs z (mX xs x y) :=
 ⟨(Int.toNat_of_nonneg (h.me x y hx hy)).symm, ox_M_get h.ord hx hy (h.me x y hx hy)⟩
theorem hx_J {x y : Nat} (hx : x < xs.length) (hy : y < xs.length) : hyJ xs x y = (jX xs x y : Int) ∧ jX xs x y < xs.length ∧ leX xs x (jX xs x y) ∧ leX xs y (jX xs x y) ∧ ∀ z, z < xs.length → leX xs x z → leX xs y z → leX xs (jX xs x y) z :=
 ⟨(Int.toNat_of_nonneg (h.jo x y hx hy)).symm, ox_J_get h.ord hx hy (h.jo x y hx hy)⟩
theorem hx_I {x y : Nat} (hx : x < xs.length) (hy : y < xs.length) : hyI xs x y = (iX xs x y : Int) ∧ iX xs x y < xs.length ∧ ∀ z, z < xs.length → (leX xs (mX xs z x) y ↔ leX xs z (iX xs x y)) :=
 ⟨(Int.toNat_of_nonneg (h.im x y hx hy)).symm, ox_I_get h.ord hx hy (fun z hz => h.me z x hz hx) (h.im x y hx hy)⟩
theorem hx_b : lowF xs (fullM xs.length) = (bX xs : Int) ∧ bX xs < xs.length ∧ ∀ z, z < xs.length → leX xs (bX xs) z := by
 obtain ⟨hm, hb⟩ := ox_full h.ord
 obtain ⟨a, b, c⟩ := ox_low_get h.ord hm h.bo
 exact ⟨(Int.toNat_of_nonneg h.bo).symm, a, fun z hz => c z ((hb z).2 hz)⟩
theorem hx_t : lowF (invA xs xs.length) (fullM xs.length) = (tX xs : Int) ∧ tX xs < xs.length ∧ ∀ z, z < xs.length → leX xs z (tX xs) := by
 obtain ⟨hm, hb⟩ := ox_full h.ord
 obtain ⟨a, b, c⟩ := ox_lowI_get h.ord hm h.to
 exact ⟨(Int.toNat_of_nonneg h.to).symm, a, fun z hz => c z ((hb z).2 hz)⟩
theorem hx_Mx {x y : Nat} (hx : x < xs.length) (hy : y < xs.length) : hyM xs x y = (x : Int) ↔ leX xs x y := by
 obtain ⟨e, a, b, c, d⟩ := hx_M h hx hy
 constructor
 ·intro q
  have : mX xs x y = x := by omega
  rw [this] at c; exact c
 ·intro q
  have := hx_anti h a b (d x hx (hx_refl h hx) q)
  omega
end

def hyB (xs : List Int) : Bool := decide (0 < xs.length) && (paB xs.length xs && (List.range xs.length).all fun x => (List.range xs.length).all fun y => decide (0 ≤ hyM xs x y) && (decide (0 ≤ hyJ xs x y) && decide (0 ≤ hyI xs x y)))
theorem hyB_parts {xs : List Int} : hyB xs = true ↔ 0 < xs.length ∧ paB xs.length xs = true ∧ ∀ x, x < xs.length → ∀ y, y < xs.length → 0 ≤ hyM xs x y ∧ 0 ≤ hyJ xs x y ∧ 0 ≤ hyI xs x y := by
 simp only [hyB, Bool.and_eq_true, decide_eq_true_eq, List.all_eq_true, List.mem_range]
theorem hyB_ok {xs : List Int} (h30 : xs.length ≤ 30) (hr : RelOK xs.length xs) (h : hyB xs = true) : HyOK xs := by
 obtain ⟨a, b, c⟩ := hyB_parts.1 h
 exact ox_hy ⟨h30, hr, b⟩ a (fun x y hx hy => (c x hx y hy).1) (fun x y hx hy => (c x hx y hy).2.1) (fun x y hx hy => (c x hx y hy).2.2)
theorem hyB_of {xs : List Int} (h : HyOK xs) : hyB xs = true := hyB_parts.2 ⟨h.n0, h.pa, fun x hx y hy => ⟨h.me x y hx hy, h.jo x y hx hy, h.im x y hx hy⟩⟩
def tabB (N : Nat) (A : List (List Int)) : Bool := decide (A.length = N) && A.all fun r => decide (r.length = N) && r.all fun x => decide (0 ≤ x ∧ x < (N : Int))
theorem tabB_iff {N : Nat} {A : List (List Int)} : tabB N A = true ↔ A.length = N ∧ ∀ i : Nat, i < A.length → (A.getD i []).length = N ∧ ∀ j : Nat, j < (A.getD i []).length → 0 ≤ (A.getD i []).getD j 0 ∧ (A.getD i []).getD j 0 < (N : Int) := by
 simp only [tabB, Bool.and_eq_true, decide_eq_true_eq, List.all_eq_true]
 refine and_congr_right fun _ => ⟨fun h i hi => ?_, fun h r hr => ?_⟩
 ·have hm : A.getD i [] ∈ A := by rw [List.getD_eq_getElem?_getD, List.getElem?_eq_getElem hi]; exact List.getElem_mem _
  have gm : ∀ (r : List Int) (j : Nat), j < r.length → r.getD j 0 ∈ r := fun r j hj => by rw [List.getD_eq_getElem?_getD, List.getElem?_eq_getElem hj]; exact List.getElem_mem _
  exact ⟨(h _ hm).1, fun j hj => (h _ hm).2 _ (gm _ j hj)⟩
 ·obtain ⟨i, hi, rfl⟩ := List.getElem_of_mem hr
  have e : A.getD i [] = A[i] := by rw [List.getD_eq_getElem?_getD, List.getElem?_eq_getElem hi]; rfl
  rw [← e]
  refine ⟨(h i hi).1, fun x hx => ?_⟩
  obtain ⟨j, hj, rfl⟩ := List.getElem_of_mem hx
  have := (h i hi).2 j hj
  rwa [List.getD_eq_getElem?_getD, List.getElem?_eq_getElem hj] at this
theorem tabB_at {N : Nat} {A : List (List Int)} (h : tabB N A = true) {i : Nat} (hi : i < N) : (A.getD i []).length = N ∧ ∀ j : Nat, j < N → 0 ≤ (A.getD i []).getD j 0 ∧ (A.getD i []).getD j 0 < (N : Int) := by
 obtain ⟨a, b⟩ := tabB_iff.1 h
 obtain ⟨c, d⟩ := b i (by omega)
 exact ⟨c, fun j hj => d j (by omega)⟩
def ordB (A : List (List Int)) (x y : Nat) : Bool := decide ((A.getD x []).getD y 0 = (x : Int))
def ordT (A : List (List Int)) : List Int := (List.range A.length).map fun x => mkB (ordB A x) A.length
theorem ordT_len (A : List (List Int)) : (ordT A).length = A.length := by simp [ordT]
theorem ordT_get {A : List (List Int)} {x : Nat} (h : x < A.length) : (ordT A).getD x 0 = mkB (ordB A x) A.length := by simp [ordT, List.getD_eq_getElem?_getD, List.getElem?_range h]
theorem ordT_rel {A : List (List Int)} (h : A.length ≤ 61) : RelOK (ordT A).length (ordT A) := by
 refine ⟨rfl, fun j hj => ?_⟩
 rw [ordT_len] at hj ⊢
 rw [ordT_get hj]
 exact (mkB_ok _ (N := A.length) h _ (Nat.le_refl _)).1
theorem ordT_le {A : List (List Int)} (h : A.length ≤ 61) {x y : Nat} (hx : x < A.length) : leX (ordT A) x y ↔ y < A.length ∧ (A.getD x []).getD y 0 = (x : Int) := by
 rw [leX, ordT_get hx, (mkB_ok _ (N := A.length) h _ (Nat.le_refl _)).2, Bool.and_eq_true, decide_eq_true_eq, ordB, decide_eq_true_eq]
def hyIs (A O J : List (List Int)) (b t : Int) : Bool :=
 decide (1 ≤ A.length ∧ A.length ≤ 30) && (tabB A.length A && (tabB A.length O && (tabB A.length J && (hyB (ordT A) && decide (b = lowF (ordT A) (fullM A.length) ∧ t = lowF (invA (ordT A) A.length) (fullM A.length) ∧ A = tabR (hyM (ordT A)) A.length A.length ∧ O = tabR (hyJ (ordT A)) A.length A.length ∧ J = tabR (hyI (ordT A)) A.length A.length)))))
theorem hyIs_parts {A O J : List (List Int)} {b t : Int} : hyIs A O J b t = true ↔ (1 ≤ A.length ∧ A.length ≤ 30) ∧ tabB A.length A = true ∧ tabB A.length O = true ∧ tabB A.length J = true ∧ hyB (ordT A) = true ∧ b = lowF (ordT A) (fullM A.length) ∧ t = lowF (invA (ordT A) A.length) (fullM A.length) ∧ A = tabR (hyM (ordT A)) A.length A.length ∧ O = tabR (hyJ (ordT A)) A.length A.length ∧ J = tabR (hyI (ordT A)) A.length A.length := by
 simp only [hyIs, Bool.and_eq_true, decide_eq_true_eq]
structure IsHy (xs : List Int) (A O J : List (List Int)) (b t : Int) : Prop where
 ok : HyOK xs
 eA : A = tabR (hyM xs) xs.length xs.length
 eO : O = tabR (hyJ xs) xs.length xs.length
 eJ : J = tabR (hyI xs) xs.length xs.length
 eb : b = lowF xs (fullM xs.length)
 et : t = lowF (invA xs xs.length) (fullM xs.length)
theorem hyIs_hy {A O J : List (List Int)} {b t : Int} (h : hyIs A O J b t = true) : IsHy (ordT A) A O J b t := by
 obtain ⟨h1, _, _, _, h2, h3, h4, h5, h6, h7⟩ := hyIs_parts.1 h
 have hl := ordT_len A
 refine ⟨hyB_ok (by omega) (ordT_rel (by omega)) h2, ?_, ?_, ?_, ?_, ?_⟩ <;> rw [hl] <;> assumption
theorem tabR_tabB {f : Nat → Nat → Int} {N : Nat} (h : ∀ x y, x < N → y < N → 0 ≤ f x y ∧ f x y < (N : Int)) : tabB N (tabR f N N) = true := by
 refine tabB_iff.2 ⟨tabR_len _ _ _, fun i hi => ?_⟩
 rw [tabR_len] at hi
 rw [tabR_get hi, rowR_len]
 refine ⟨rfl, fun j hj => ?_⟩
 rw [rowR_get hj]
 exact h i j hi hj
theorem ordT_tab {xs : List Int} (h : HyOK xs) : ordT (tabR (hyM xs) xs.length xs.length) = xs := by
 have h30 := h.n30
 have hl := tabR_len (hyM xs) xs.length xs.length
 refine rowN_ext (N := xs.length) (by rw [ordT_len, hl]) rfl fun x hx => ?_
 have hr := h.rel.2 x hx
 have hT := (ordT_rel (A := tabR (hyM xs) xs.length xs.length) (by rw [hl]; omega)).2 x (by rw [ordT_len, hl]; exact hx)
 rw [ordT_len, hl] at hT
 refine tb_ext hT.1 hr.1 fun y => ?_
 rw [Bool.eq_iff_iff]
 have := ordT_le (A := tabR (hyM xs) xs.length xs.length) (by rw [hl]; omega) (x := x) (y := y) (by rw [hl]; exact hx)
 rw [leX] at this
 rw [this, hl]
 constructor
 ·rintro ⟨hy, e⟩
  rw [tabR_get hx, rowR_get hy] at e
  exact (hx_Mx h hx hy).1 e
 ·intro a
  have hy := tb_lt hr a
  refine ⟨hy, ?_⟩
  rw [tabR_get hx, rowR_get hy]
  exact (hx_Mx h hx hy).2 a
theorem IsHy.is {xs : List Int} {A O J : List (List Int)} {b t : Int} (h : IsHy xs A O J b t) : hyIs A O J b t = true ∧ ordT A = xs ∧ A.length = xs.length := by
 have hl : A.length = xs.length := by rw [h.eA, tabR_len]
 have ho : ordT A = xs := by rw [h.eA]; exact ordT_tab h.ok
 have h1 := h.ok.n0
 have h2 := h.ok.n30
 refine ⟨hyIs_parts.2 ?_, ho, hl⟩
 rw [ho, hl]
 refine ⟨⟨by omega, h2⟩, ?_, ?_, ?_, hyB_of h.ok, h.eb, h.et, h.eA, h.eO, h.eJ⟩
 ·rw [h.eA]; exact tabR_tabB fun x y hx hy => by have := hx_M h.ok hx hy; omega
 ·rw [h.eO]; exact tabR_tabB fun x y hx hy => by have := hx_J h.ok hx hy; omega
 ·rw [h.eJ]; exact tabR_tabB fun x y hx hy => by have := hx_I h.ok hx hy; omega
end Go.Proofs.YtjllngcefoohpaaGreat
