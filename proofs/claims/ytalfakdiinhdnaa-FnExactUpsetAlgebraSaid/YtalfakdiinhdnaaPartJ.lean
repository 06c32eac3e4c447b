/- Texts of the proof: HY2. -/
import Derived.Test.YtalfakdiinhdnaaPartI

/-! Heyting algebras of orders: both programs' tables. -/
namespace Go.Proofs.Ytalfakdiinhdnaa
open Go.RowKit Go.Abs

/-- Rows and tables of a function. -/
def rowR (f : Nat → Int) (N : Nat) : List Int := (List.range N).map f
def rowT (f : Nat → Int) (N y : Nat) : List Int := (List.range N).map fun j => if j < y then f j else 0
def tabR (f : Nat → Nat → Int) (N x : Nat) : List (List Int) := (List.range x).map fun i => rowR (f i) N
theorem rowR_len (f : Nat → Int) (N : Nat) : (rowR f N).length = N := by simp [rowR]
theorem rowT_len (f : Nat → Int) (N y : Nat) : (rowT f N y).length = N := by simp [rowT]
theorem tabR_len (f : Nat → Nat → Int) (N x : Nat) : (tabR f N x).length = x := by simp [tabR]
theorem rowR_get {f : Nat → Int} {N j : Nat} (h : j < N) : (rowR f N).getD j 0 = f j := by simp [rowR, List.getD_eq_getElem?_getD, List.getElem?_range h]
theorem rowT_get {f : Nat → Int} {N y j : Nat} (h : j < N) : (rowT f N y).getD j 0 = if j < y then f j else 0 := by simp [rowT, List.getD_eq_getElem?_getD, List.getElem?_range h]
theorem tabR_get {f : Nat → Nat → Int} {N x i : Nat} (h : i < x) : (tabR f N x).getD i [] = rowR (f i) N := by simp [tabR, List.getD_eq_getElem?_getD, List.getElem?_range h]
theorem rowT_zero {f : Nat → Int} {N : Nat} : List.replicate N 0 = rowT f N 0 := by
  refine rowN_ext (N := N) (by simp) (rowT_len _ _ _) fun j hj => ?_
  rw [rowT_get hj, if_neg (by omega)]; simp [List.getD_eq_getElem?_getD, hj]
theorem rowT_set {f : Nat → Int} {N y : Nat} {v : Int} (hy : y < N) (hv : v = f y) : (rowT f N y).set y v = rowT f N (y + 1) := by
  refine rowN_ext (N := N) (by simp [rowT_len]) (rowT_len _ _ _) fun j hj => ?_
  rw [getD_set_if _ _ _ _ _ (by rw [rowT_len]; exact hy), rowT_get hj, rowT_get hj]
  by_cases e : y = j
  · subst e; rw [if_pos rfl, if_pos (by omega), hv]
  · rw [if_neg e]
    by_cases e2 : j < y
    · rw [if_pos e2, if_pos (by omega)]
    · rw [if_neg e2, if_neg (by omega)]
theorem rowT_end {f : Nat → Int} {N y : Nat} (h : y = N) : rowT f N y = rowR f N := by
  subst h
  refine rowN_ext (N := y) (rowT_len _ _ _) (rowR_len _ _) fun j hj => ?_
  rw [rowT_get hj, rowR_get hj, if_pos hj]
theorem rowR_snoc {f : Nat → Int} {y : Nat} : rowR f y ++ [f y] = rowR f (y + 1) := by simp [rowR, List.range_succ]
theorem tabR_snoc {f : Nat → Nat → Int} {N x : Nat} : tabR f N x ++ [rowR (f x) N] = tabR f N (x + 1) := by simp [tabR, List.range_succ]
/-- Meets, joins and implications of an order's elements. -/
def hyM (xs : List Int) (x y : Nat) : Int := lowF (invA xs xs.length) (band ((invA xs xs.length).getD x 0) ((invA xs xs.length).getD y 0))
def hyJ (xs : List Int) (x y : Nat) : Int := lowF xs (band (xs.getD x 0) (xs.getD y 0))
def hyC (xs : List Int) (x y z : Nat) : Int := mkB (fun z => tb ((invA xs xs.length).getD y 0) (hyM xs z x).toNat) z
def hyI (xs : List Int) (x y : Nat) : Int := lowF (invA xs xs.length) (hyC xs x y xs.length)
def fullM (N : Nat) : Int := (shl64 1 (N : Int)) - 1
structure HyOK (xs : List Int) : Prop where
  n0 : 0 < xs.length
  n30 : xs.length ≤ 30
  rel : RelOK xs.length xs
  pa : paB xs.length xs = true
  me : ∀ x y : Nat, x < xs.length → y < xs.length → 0 ≤ hyM xs x y
  jo : ∀ x y : Nat, x < xs.length → y < xs.length → 0 ≤ hyJ xs x y
  im : ∀ x y : Nat, x < xs.length → y < xs.length → 0 ≤ hyI xs x y
  bo : 0 ≤ lowF xs (fullM xs.length)
  to : 0 ≤ lowF (invA xs xs.length) (fullM xs.length)
theorem lowB_of {bl : List Int} {m : Int} (h : 0 ≤ lowF bl m) : lowB bl m = true := decide_eq_true h
theorem lowV_of {bl : List Int} {m : Int} (h : 0 ≤ lowF bl m) : lowV bl m = lowF bl m := if_pos h
theorem inv_rel {xs : List Int} (h : HyOK xs) : RelOK xs.length (invA xs xs.length) ∧ ∀ j : Nat, j < xs.length → ∀ k, tb ((invA xs xs.length).getD j 0) k = true ↔ k < xs.length ∧ tb (xs.getD k 0) j = true := invA_ok h.rel h.n30 _ (Nat.le_refl _)
theorem hyM_rng {xs : List Int} (h : HyOK xs) {x y : Nat} (hx : x < xs.length) (hy : y < xs.length) : 0 ≤ hyM xs x y ∧ hyM xs x y < (xs.length : Int) := by
  have h1 := lowF_rng (invA xs xs.length) (band ((invA xs xs.length).getD x 0) ((invA xs xs.length).getD y 0))
  rw [invA_len] at h1
  exact ⟨h.me x y hx hy, h1.2⟩
theorem hyC_in {xs : List Int} (h : HyOK xs) (x y : Nat) {z : Nat} (hz : z ≤ xs.length) : InM xs.length (hyC xs x y z) := (mkB_ok _ (by have := h.n30; omega) z hz).1
theorem hyC_yes {xs : List Int} (h : HyOK xs) {x y z : Nat} {a : Int} (hx : x < xs.length) (hy : y < xs.length) (hz : z < xs.length) (ha : a = hyM xs z x) (hb : band (shr64 ((invA xs xs.length).getD y 0) a) 1 = 1) : bor (hyC xs x y z) (shl64 1 (z : Int)) = hyC xs x y (z + 1) := by
  have h1 := hyM_rng h hz hx
  have h2 := (inv_rel h).1.2 y hy
  rw [hyC, hyC]
  refine mkB_yes (P := fun z => tb ((invA xs xs.length).getD y 0) (hyM xs z x).toNat) ?_
  have h3 := has_tb (n := xs.length) (i := (hyM xs z x).toNat) (by have := h.n30; omega) h2 (by have := h.n30; omega)
  rw [show (((hyM xs z x).toNat : Nat) : Int) = hyM xs z x by omega] at h3
  rw [ha] at hb
  exact h3.1 hb
theorem hyC_no {xs : List Int} (h : HyOK xs) {x y z : Nat} {a : Int} (hx : x < xs.length) (hy : y < xs.length) (hz : z < xs.length) (ha : a = hyM xs z x) (hb : ¬ band (shr64 ((invA xs xs.length).getD y 0) a) 1 = 1) : hyC xs x y z = hyC xs x y (z + 1) := by
  have h1 := hyM_rng h hz hx
  have h2 := (inv_rel h).1.2 y hy
  rw [hyC, hyC]
  refine mkB_no (P := fun z => tb ((invA xs xs.length).getD y 0) (hyM xs z x).toNat) ?_
  have h3 := has_tb (n := xs.length) (i := (hyM xs z x).toNat) (by have := h.n30; omega) h2 (by have := h.n30; omega)
  rw [show (((hyM xs z x).toNat : Nat) : Int) = hyM xs z x by omega] at h3
  rw [ha] at hb
  cases e : tb ((invA xs xs.length).getD y 0) (hyM xs z x).toNat with
  | false => rfl
  | true => exact absurd (h3.2 e) hb
/-- The spec asks the same of the order itself. -/
theorem spec_bit {xs : List Int} (h : HyOK xs) {y : Nat} {a : Int} (hy : y < xs.length) (h0 : 0 ≤ a) (h1 : a < (xs.length : Int)) : band (shr64 (xs.getD a.toNat 0) (y : Int)) 1 = 1 ↔ band (shr64 ((invA xs xs.length).getD y 0) a) 1 = 1 := by
  have hi := inv_rel h
  have hn := h.n30
  have k1 := has_tb (n := xs.length) (i := y) (by omega) (h.rel.2 a.toNat (by omega)) (by omega)
  have k2 := has_tb (n := xs.length) (i := a.toNat) (by omega) (hi.1.2 y hy) (by omega)
  rw [show ((a.toNat : Nat) : Int) = a by omega] at k2
  rw [k1, k2, hi.2 y hy]
  exact ⟨fun e => ⟨by omega, e⟩, fun e => e.2⟩
def NX {α β : Type} (L : List (Value × α)) (K : List (Value × β)) : Prop := ∀ u ∈ L, ∀ w ∈ K, ∀ g, blk u.1 = some g → blk w.1 ≠ some g
theorem NX.nil {α β : Type} {K : List (Value × β)} : NX ([] : List (Value × α)) K := fun u h => by simp at h
theorem NX.nil' {α β : Type} {L : List (Value × α)} : NX L ([] : List (Value × β)) := fun u _ w h => by simp at h
theorem NX.snoc {α β : Type} {L : List (Value × α)} {K : List (Value × β)} {v v' : Value} {x : α} {y : β} (h : NX L K) (h1 : ∀ u ∈ K, ∀ g, blk v = some g → blk u.1 ≠ some g) (h2 : ∀ u ∈ L, ∀ g, blk v' = some g → blk u.1 ≠ some g) (h3 : ∀ g, blk v' = some g → blk v ≠ some g) : NX (L ++ [(v, x)]) (K ++ [(v', y)]) := by
  intro u hu w hw g a b
  rcases List.mem_append.1 hu with hu | hu <;> rcases List.mem_append.1 hw with hw | hw
  · exact h u hu w hw g a b
  · simp at hw; subst hw; exact h2 u hu g b a
  · simp at hu; subst hu; exact h1 w hw g a b
  · simp at hu hw; subst hu hw; exact h3 g b a
theorem NX.snocR {α β : Type} {L : List (Value × α)} {K : List (Value × β)} {v' : Value} {y : β} (h : NX L K) (h2 : ∀ u ∈ L, ∀ g, blk v' = some g → blk u.1 ≠ some g) : NX L (K ++ [(v', y)]) := by
  intro u hu w hw g a b
  rcases List.mem_append.1 hw with hw | hw
  · exact h u hu w hw g a b
  · simp at hw; subst hw; exact h2 u hu g b a
theorem tabV_len {f : Nat → Nat → Int} {N x : Nat} {L : List (Value × List Int)} (h : L.map Prod.snd = tabR f N x) : L.length = x := by rw [lenV h, tabR_len]
theorem tabV_row {f : Nat → Nat → Int} {N x i : Nat} {L : List (Value × List Int)} (h : L.map Prod.snd = tabR f N x) (hi : i < x) : (L.getD i (.bool false, [])).2 = rowR (f i) N := by
  rw [getV i (by rw [tabV_len h]; exact hi), h, tabR_get hi]
theorem tabV_at {f : Nat → Nat → Int} {N x i j : Nat} {L : List (Value × List Int)} (h : L.map Prod.snd = tabR f N x) (hi : i < x) (hj : j < N) : (L.getD i (.bool false, [])).2.getD j 0 = f i j ∧ (L.getD i (.bool false, [])).2.length = N := by
  rw [tabV_row h hi, rowR_get hj, rowR_len]; exact ⟨rfl, rfl⟩
theorem tabL_at {f : Nat → Nat → Int} {N x i j : Nat} (hi : i < x) (hj : j < N) : ((tabR f N x).getD i []).getD j 0 = f i j ∧ ((tabR f N x).getD i []).length = N := by
  rw [tabR_get hi, rowR_get hj, rowR_len]; exact ⟨rfl, rfl⟩

set_option maxHeartbeats 1000000 in
theorem heytingOf_c (xs : List Int) (hH : HyOK xs) : CallE Try.prog 56 [LI xs] (fun (b : Nat) (r : AV) => ∃ LA : List (Value × List Int), ∃ LO : List (Value × List Int), ∃ LJ : List (Value × List Int), r = .tup [.agg [ownA (eV eI 2 1) 22 1 LA, ownA (eV eI 2 1) 22 1 LO, ownA (eV eI 2 1) 22 1 LJ, AI (lowF xs (fullM xs.length)), AI (lowF (invA xs xs.length) (fullM xs.length))], .bool true] ∧ (NL b LA) ∧ (NL b LO) ∧ (NL b LJ) ∧ (NX LA LO) ∧ (NX LA LJ) ∧ (NX LO LJ) ∧ (LA.map Prod.snd = tabR (hyM xs) xs.length xs.length) ∧ (LO.map Prod.snd = tabR (hyJ xs) xs.length xs.length) ∧ (LJ.map Prod.snd = tabR (hyI xs) xs.length xs.length)) := by
  have hn := hH.n30
  have hn0 := hH.n0
  have hrel := hH.rel
  have hpa := hH.pa
  have hil := invA_len xs xs.length
  have hir := (inv_rel hH).1
  have hxi := fun (i : Nat) (hi : i < xs.length) => hrel.2 i hi
  have hbi := fun (i : Nat) (hi : i < xs.length) => hir.2 i hi
  have hrl : okRl (xs.length : Int) xs := okRl_of hn hrel
  have hfl : InM xs.length (fullM xs.length) := inM_full (by omega)
  have hsh : 1 ≤ shl64 1 (xs.length : Int) ∧ shl64 1 (xs.length : Int) ≤ 4611686018427387904 := shl_rng _ (by omega) (by omega)
  refine CallE.of Try.func56 rfl (by kernel_rfl) (fun b => ?_)
  refine R.go 8 (R.call true (size_c xs) (by kernel_rfl) rfl (by kernel_rfl) ?_)
  refine R.go 5 (R.call true (frameOf2_c xs) (by kernel_rfl) rfl (by kernel_rfl) ?_)
  have hpf : rB (xs.length : Int).toNat xs = true ∧ tB (xs.length : Int).toNat xs = true ∧ aB (xs.length : Int).toNat xs = true := by simpa [paB] using hpa
  have hf1 : rB (xs.length : Int).toNat xs = true := hpf.1
  have hf2 : tB (xs.length : Int).toNat xs = true := hpf.2.1
  have hf3 : aB (xs.length : Int).toNat xs = true := hpf.2.2
  refine R.go 9 ?_
  by_cases c1 : (xs.length : Int) = 0
  · refine R.skp (decide ((xs.length : Int) = 0)) false (by kernel_rfl) (dT c1) (by kernel_rfl) ?_
    refine R.skp (decide ((xs.length : Int) = 0)) false (by kernel_rfl) (dT c1) (by kernel_rfl) ?_
    refine R.skp (decide ((xs.length : Int) = 0)) false (by kernel_rfl) (dT c1) (by kernel_rfl) ?_
    refine R.pick (decide ((xs.length : Int) = 0)) true (by kernel_rfl) (dT c1) (by kernel_rfl) ?_
    refine R.go 18 (R.nilB 1 0 22 1 (by kernel_rfl) ?_)
    refine R.nilB 1 1 22 1 (by kernel_rfl) ?_
    refine R.nilB 1 2 22 1 (by kernel_rfl) ?_
    exact R.retB (.tup [.agg [ownA (eV eI 2 1) 22 1 [], ownA (eV eI 2 1) 22 1 [], ownA (eV eI 2 1) 22 1 [], AI 0, AI 0], .bool false]) (by kernel_rfl) (by kernel_rfl) ⟨[], [], [], by first | rfl | (have e1 := lowV_of hH.bo; have e2 := lowV_of hH.to; unfold fullM at e1 e2; rw [e1, e2]; rfl) | (exfalso; omega), by first | (assumption) | (exfalso; omega), by first | (assumption) | (exfalso; omega), by first | (assumption) | (exfalso; omega), by first | (assumption) | (exfalso; omega), by first | (assumption) | (exfalso; omega), by first | (assumption) | (exfalso; omega), by first | (rw [‹LA.map Prod.snd = _›, show x = xs.length by omega]) | (exfalso; omega), by first | (rw [‹LO.map Prod.snd = _›, show x = xs.length by omega]) | (exfalso; omega), by first | (rw [‹LJ.map Prod.snd = _›, show u = xs.length by omega]) | (exfalso; omega)⟩
  · refine R.want (decide ((xs.length : Int) = 0)) false (by kernel_rfl) (dF c1) ?_
    refine R.go 1 (R.want (decide ((xs.length : Int) = 0)) false (by kernel_rfl) (dF c1) ?_)
    refine R.call true (hasFlagR2_c (xs.length : Int) xs hrl) (by kernel_rfl) rfl (by kernel_rfl) ?_
    refine R.want (decide ((xs.length : Int) = 0)) false (by kernel_rfl) (dF c1) ?_
    refine R.go 1 (R.pick (decide ((xs.length : Int) = 0)) false (by kernel_rfl) (dF c1) (by kernel_rfl) ?_)
    refine R.go 1 (R.want (!(rB (xs.length : Int).toNat xs)) false (by kernel_rfl) (bnF hf1) ?_)
    refine R.go 1 (R.want (!(rB (xs.length : Int).toNat xs)) false (by kernel_rfl) (bnF hf1) ?_)
    refine R.call true (hasFlagT2_c (xs.length : Int) xs hrl) (by kernel_rfl) rfl (by kernel_rfl) ?_
    refine R.want (!(rB (xs.length : Int).toNat xs)) false (by kernel_rfl) (bnF hf1) ?_
    refine R.go 1 (R.pick (!(rB (xs.length : Int).toNat xs)) false (by kernel_rfl) (bnF hf1) (by kernel_rfl) ?_)
    refine R.go 1 (R.want (!(tB (xs.length : Int).toNat xs)) false (by kernel_rfl) (bnF hf2) ?_)
    refine R.go 1 (R.want (!(tB (xs.length : Int).toNat xs)) false (by kernel_rfl) (bnF hf2) ?_)
    refine R.call true (hasFlagA2_c (xs.length : Int) xs hrl) (by kernel_rfl) rfl (by kernel_rfl) ?_
    refine R.want (!(tB (xs.length : Int).toNat xs)) false (by kernel_rfl) (bnF hf2) ?_
    refine R.go 1 (R.pick (!(tB (xs.length : Int).toNat xs)) false (by kernel_rfl) (bnF hf2) (by kernel_rfl) ?_)
    refine R.go 1 (R.els (!(aB (xs.length : Int).toNat xs)) (by kernel_rfl) (bnF hf3) ?_)
    refine R.go 4 (R.call true (inverse2G_c (xs.length : Int) xs (invA xs xs.length) hrl (by first | rfl | assumption)) (by kernel_rfl) rfl (by kernel_rfl) ?_)
    refine R.go 13 (R.nilB 4 0 22 1 (by kernel_rfl) ?_)
    refine R.nilB 4 1 22 1 (by kernel_rfl) ?_
    refine R.loop ((fun | (x, LA, LO) => (⟨(frm 184 [(0, LI xs), (2, .ptr 1 0), (4, AI xs.length), (6, .ref 2), (7, .ptr 3 0), (45, AI xs.length), (46, AI (x : Int))]), [.inert (.base b), .box 28 [.nil, .nil, .nil, AI 0, AI 0], rowA eI 2 1 (invA xs xs.length), .box 28 [.ref 4, .ref 5, .nil, AI 0, AI 0], rowA (eV eI 2 1) 22 1 LA, rowA (eV eI 2 1) 22 1 LO]⟩ : St) : Nat × (List (Value × List Int)) × (List (Value × List Int)) → St)) (fun | (x, LA, LO) => (x ≤ xs.length) ∧ (NL b LA) ∧ (NL b LO) ∧ (NX LA LO) ∧ (LA.map Prod.snd = tabR (hyM xs) xs.length x) ∧ (LO.map Prod.snd = tabR (hyJ xs) xs.length x)) (fun | (x, LA, LO) => xs.length - x) (0, [], []) [0, 2, 4, 6, 7, 45, 46] (some [0, 1, 3, 4, 5, 6]) (by kernel_rfl) (by kernel_rfl) (by kernel_rfl) ⟨(by omega), (by exact NL.nil), (by exact NL.nil), (by exact NX.nil), (by rfl), (by rfl)⟩ ?_
    rintro ⟨x, LA, LO⟩ ⟨h5_1, h5_2, h5_3, h5_4, h5_5, h5_6⟩ R2 N3
    have hla := tabV_len ‹LA.map Prod.snd = _›
    have hlo := tabV_len ‹LO.map Prod.snd = _›
    refine R.go 5 (R.cond ((x : Int) < (xs.length : Int)) (by kernel_rfl) (fun c6 => ?_) (fun c6 => ?_))
    · refine R.go 9 (R.meetJ (⟨(frm 184 [(0, LI xs), (2, .ptr 1 0), (4, AI xs.length), (6, .ref 2), (7, .ptr 3 0), (8, AI (x : Int)), (9, .ref 6), (10, .ref 7), (45, AI xs.length), (46, AI (x : Int)), (47, .bool (decide ((x : Int) < (xs.length : Int)))), (48, AI (x : Int)), (49, AI xs.length), (50, .ref 6), (51, AI xs.length), (52, .ref 7)]), [.inert (.base b), .box 28 [.nil, .nil, .nil, AI 0, AI 0], rowA eI 2 1 (invA xs xs.length), .box 28 [.ref 4, .ref 5, .nil, AI 0, AI 0], rowA (eV eI 2 1) 22 1 LA, rowA (eV eI 2 1) 22 1 LO, rowA eI 2 1 (List.replicate xs.length 0), rowA eI 2 1 (List.replicate xs.length 0)]⟩ : St) (by kernel_rfl) ?_ ?_)
      · refine R.any (by decide +kernel) (by kernel_rfl) ?_
        refine R.anyF 0 (by kernel_rfl) (np_meetJ _) ?_
        refine R.anyF 2 (by kernel_rfl) (np_meetJ _) ?_
        refine R.any2 1 3 (by kernel_rfl) (by kernel_rfl) ?_ ?_
        · refine R.mk eI 0 2 8 xs.length xs.length (by kernel_rfl) rfl (by decide) (by omega) (by kernel_rfl) ?_
          refine R.go 1 (R.any2 3 4 (by kernel_rfl) (by kernel_rfl) ?_ ?_)
          · refine R.mk eI 0 2 8 xs.length xs.length (by kernel_rfl) rfl (by decide) (by omega) (by kernel_rfl) ?_
            refine R.go 1 (R.any1 4 (by kernel_rfl) (by kernel_rfl) ?_)
            refine R.go 2 (R.any1 5 (by kernel_rfl) (by kernel_rfl) ?_)
            refine R.go 2 (R.any0 (by kernel_rfl) ?_)
            exact R.metJ [0, 1, 2, 3, 4, 5, 6, 7] (by kernel_rfl) (by kernel_rfl) (by kernel_rfl)
          · refine R.go 2 (R.any1 3 (by kernel_rfl) (by kernel_rfl) ?_)
            refine R.mk eI 0 2 8 xs.length xs.length (by kernel_rfl) rfl (by decide) (by omega) (by kernel_rfl) ?_
            refine R.go 1 (R.any1 5 (by kernel_rfl) (by kernel_rfl) ?_)
            refine R.go 2 (R.any0 (by kernel_rfl) ?_)
            exact R.metJ [0, 1, 2, 3, 4, 5, 6, 7] (by kernel_rfl) (by kernel_rfl) (by kernel_rfl)
        · refine R.mk eI 0 2 8 xs.length xs.length (by kernel_rfl) rfl (by decide) (by omega) (by kernel_rfl) ?_
          refine R.go 1 (R.any1 1 (by kernel_rfl) (by kernel_rfl) ?_)
          refine R.mk eI 0 2 8 xs.length xs.length (by kernel_rfl) rfl (by decide) (by omega) (by kernel_rfl) ?_
          refine R.go 1 (R.any1 4 (by kernel_rfl) (by kernel_rfl) ?_)
          refine R.go 2 (R.any1 5 (by kernel_rfl) (by kernel_rfl) ?_)
          refine R.go 2 (R.any0 (by kernel_rfl) ?_)
          exact R.metJ [0, 1, 2, 3, 4, 5, 7, 6] (by kernel_rfl) (by kernel_rfl) (by kernel_rfl)
      · refine R.go 7 (R.loop ((fun | (y, A, O) => (⟨(frm 184 [(0, LI xs), (2, .ptr 1 0), (4, AI xs.length), (6, .ref 2), (7, .ptr 3 0), (8, AI (x : Int)), (9, .ref 6), (10, .ref 7), (45, AI xs.length), (46, AI (x : Int)), (53, AI xs.length), (54, AI (y : Int))]), [.inert (.base b), .box 28 [.nil, .nil, .nil, AI 0, AI 0], rowA eI 2 1 (invA xs xs.length), .box 28 [.ref 4, .ref 5, .nil, AI 0, AI 0], rowA (eV eI 2 1) 22 1 LA, rowA (eV eI 2 1) 22 1 LO, rowA eI 2 1 A, rowA eI 2 1 O]⟩ : St) : Nat × (List Int) × (List Int) → St)) (fun | (y, A, O) => (y ≤ xs.length) ∧ (A = rowT (hyM xs x) xs.length y) ∧ (O = rowT (hyJ xs x) xs.length y)) (fun | (y, A, O) => xs.length - y) (0, (List.replicate xs.length 0), (List.replicate xs.length 0)) [0, 2, 4, 6, 7, 8, 9, 10, 45, 46, 53, 54] none (by kernel_rfl) (by kernel_rfl) (by kernel_rfl) ⟨(by omega), (by exact rowT_zero), (by exact rowT_zero)⟩ ?_)
        rintro ⟨y, A, O⟩ ⟨h10_1, rfl, rfl⟩ R7 N8
        have hAl := rowT_len (hyM xs x) xs.length y
        have hOl := rowT_len (hyJ xs x) xs.length y
        refine R.go 5 (R.cond ((y : Int) < (xs.length : Int)) (by kernel_rfl) (fun c11 => ?_) (fun c11 => ?_))
        · refine R.go 14 ?_
          have hbx := hbi x (by omega)
          have hby := hbi y (by omega)
          have hmm := inM_band (n := xs.length) (by omega) hbx hby
          have hlm := hH.me x y (by omega) (by omega)
          have hxx := hxi x (by omega)
          have hxy := hxi y (by omega)
          have hjj := inM_band (n := xs.length) (by omega) hxx hxy
          have hlj := hH.jo x y (by omega) (by omega)
          have hmm' : InM (invA xs xs.length).length (band ((invA xs xs.length).getD x 0) ((invA xs xs.length).getD y 0)) := by rw [hil]; exact hmm
          have hb1 : lowB (invA xs xs.length) (band ((invA xs xs.length).getD x 0) ((invA xs xs.length).getD y 0)) = true := lowB_of hlm
          have hb2 : lowB xs (band (xs.getD x 0) (xs.getD y 0)) = true := lowB_of hlj
          refine R.meet (⟨(frm 184 [(0, LI xs), (2, .ptr 1 0), (4, AI xs.length), (6, .ref 2), (7, .ptr 3 0), (8, AI (x : Int)), (9, .ref 6), (10, .ref 7), (11, AI (y : Int)), (12, .bool (lowB (invA xs xs.length) (band ((invA xs xs.length).getD x 0) ((invA xs xs.length).getD y 0)))), (13, .bool false), (45, AI xs.length), (46, AI (x : Int)), (53, AI xs.length), (54, AI (y : Int)), (55, .bool (decide ((y : Int) < (xs.length : Int)))), (56, AI (y : Int)), (57, .tup [AI (lowV (invA xs xs.length) (band ((invA xs xs.length).getD x 0) ((invA xs xs.length).getD y 0))), .bool (lowB (invA xs xs.length) (band ((invA xs xs.length).getD x 0) ((invA xs xs.length).getD y 0)))]), (58, .ref 6), (59, AI (y : Int)), (60, .ref 2), (61, AI (x : Int)), (62, .ptr 2 (x * 1)), (63, AI ((invA xs xs.length).getD x 0)), (64, .ref 2), (65, AI (y : Int)), (66, .ptr 2 (y * 1)), (67, AI ((invA xs xs.length).getD y 0)), (68, AI (band ((invA xs xs.length).getD x 0) ((invA xs xs.length).getD y 0))), (69, .ref 2), (70, .tup [AI (lowV (invA xs xs.length) (band ((invA xs xs.length).getD x 0) ((invA xs xs.length).getD y 0))), .bool (lowB (invA xs xs.length) (band ((invA xs xs.length).getD x 0) ((invA xs xs.length).getD y 0)))]), (71, AI (lowV (invA xs xs.length) (band ((invA xs xs.length).getD x 0) ((invA xs xs.length).getD y 0)))), (72, .bool (lowB (invA xs xs.length) (band ((invA xs xs.length).getD x 0) ((invA xs xs.length).getD y 0)))), (73, .ptr 6 (y * 1))]), [.inert (.base b), .box 28 [.nil, .nil, .nil, AI 0, AI 0], rowA eI 2 1 (invA xs xs.length), .box 28 [.ref 4, .ref 5, .nil, AI 0, AI 0], rowA (eV eI 2 1) 22 1 LA, rowA (eV eI 2 1) 22 1 LO, rowA eI 2 1 ((rowT (hyM xs x) xs.length y).set y (lowV (invA xs xs.length) (band ((invA xs xs.length).getD x 0) ((invA xs xs.length).getD y 0)))), rowA eI 2 1 (rowT (hyJ xs x) xs.length y)]⟩ : St) (by kernel_rfl) ?_ ?_
          · refine R.any (by decide +kernel) (by kernel_rfl) ?_
            refine R.anyF 0 (by kernel_rfl) (np_meet _) ?_
            refine R.anyF 1 (by kernel_rfl) (np_meet _) ?_
            refine R.anyF 2 (by kernel_rfl) (np_meet _) ?_
            refine R.anyF 3 (by kernel_rfl) (np_meet _) ?_
            refine R.anyF 6 (by kernel_rfl) (np_meet _) ?_
            refine R.anyF 7 (by kernel_rfl) (np_meet _) ?_
            refine R.anyF 11 (by kernel_rfl) (np_meet _) ?_
            refine R.anyO 4 2 1 (invA xs xs.length).length x (x : Int) (by kernel_rfl) rfl (by omega) (np_meet _) ?_
            refine R.anyO 8 2 1 (invA xs xs.length).length y (y : Int) (by kernel_rfl) rfl (by omega) (np_meet _) ?_
            refine R.any2 5 9 (by kernel_rfl) (by kernel_rfl) ?_ ?_
            · refine R.ldI (invA xs xs.length) x (by kernel_rfl) (by omega) (by kernel_rfl) ?_
              refine R.go 1 (R.any1 9 (by kernel_rfl) (by kernel_rfl) ?_)
              refine R.ldI (invA xs xs.length) y (by kernel_rfl) (by omega) (by kernel_rfl) ?_
              refine R.go 1 (R.any1 10 (by kernel_rfl) (by kernel_rfl) ?_)
              refine R.go 2 (R.any1 12 (by kernel_rfl) (by kernel_rfl) ?_)
              refine R.call false (greatest_c (band ((invA xs xs.length).getD x 0) ((invA xs xs.length).getD y 0)) (invA xs xs.length) (by first | omega | (simp <;> omega)) (by assumption)) (by kernel_rfl) (by simp [AV.closed, closedL, AI]) (by kernel_rfl) ?_
              refine R.go 1 (R.anyF 13 (by kernel_rfl) (np_meet _) ?_)
              refine R.anyX 14 (AI (lowV (invA xs xs.length) (band ((invA xs xs.length).getD x 0) ((invA xs xs.length).getD y 0)))) (by kernel_rfl) (np_meet _) ?_
              refine R.anyX 15 (.bool (lowB (invA xs xs.length) (band ((invA xs xs.length).getD x 0) ((invA xs xs.length).getD y 0)))) (by kernel_rfl) (np_meet _) ?_
              refine R.anyO 16 6 1 (rowT (hyM xs x) xs.length y).length y (y : Int) (by kernel_rfl) rfl (by omega) (np_meet _) ?_
              refine R.any1 17 (by kernel_rfl) (by kernel_rfl) ?_
              refine R.stI 6 2 (rowT (hyM xs x) xs.length y) y (lowV (invA xs xs.length) (band ((invA xs xs.length).getD x 0) ((invA xs xs.length).getD y 0))) (by kernel_rfl) (by omega) (by kernel_rfl) ?_
              refine R.go 1 (R.any1 18 (by kernel_rfl) (by kernel_rfl) ?_)
              refine R.go 2 (R.any0 (by kernel_rfl) ?_)
              exact R.met (by kernel_rfl) (by kernel_rfl)
            · refine R.ldI (invA xs xs.length) y (by kernel_rfl) (by omega) (by kernel_rfl) ?_
              refine R.go 1 (R.any1 5 (by kernel_rfl) (by kernel_rfl) ?_)
              refine R.ldI (invA xs xs.length) x (by kernel_rfl) (by omega) (by kernel_rfl) ?_
              refine R.go 1 (R.any1 10 (by kernel_rfl) (by kernel_rfl) ?_)
              refine R.go 2 (R.any1 12 (by kernel_rfl) (by kernel_rfl) ?_)
              refine R.call false (greatest_c (band ((invA xs xs.length).getD x 0) ((invA xs xs.length).getD y 0)) (invA xs xs.length) (by first | omega | (simp <;> omega)) (by assumption)) (by kernel_rfl) (by simp [AV.closed, closedL, AI]) (by kernel_rfl) ?_
              refine R.go 1 (R.anyF 13 (by kernel_rfl) (np_meet _) ?_)
              refine R.anyX 14 (AI (lowV (invA xs xs.length) (band ((invA xs xs.length).getD x 0) ((invA xs xs.length).getD y 0)))) (by kernel_rfl) (np_meet _) ?_
              refine R.anyX 15 (.bool (lowB (invA xs xs.length) (band ((invA xs xs.length).getD x 0) ((invA xs xs.length).getD y 0)))) (by kernel_rfl) (np_meet _) ?_
              refine R.anyO 16 6 1 (rowT (hyM xs x) xs.length y).length y (y : Int) (by kernel_rfl) rfl (by omega) (np_meet _) ?_
              refine R.any1 17 (by kernel_rfl) (by kernel_rfl) ?_
              refine R.stI 6 2 (rowT (hyM xs x) xs.length y) y (lowV (invA xs xs.length) (band ((invA xs xs.length).getD x 0) ((invA xs xs.length).getD y 0))) (by kernel_rfl) (by omega) (by kernel_rfl) ?_
              refine R.go 1 (R.any1 18 (by kernel_rfl) (by kernel_rfl) ?_)
              refine R.go 2 (R.any0 (by kernel_rfl) ?_)
              exact R.met (by kernel_rfl) (by kernel_rfl)
          · refine R.go 1 (R.meet (⟨(frm 184 [(0, LI xs), (2, .ptr 1 0), (4, AI xs.length), (6, .ref 2), (7, .ptr 3 0), (8, AI (x : Int)), (9, .ref 6), (10, .ref 7), (11, AI (y : Int)), (12, .bool (lowB (invA xs xs.length) (band ((invA xs xs.length).getD x 0) ((invA xs xs.length).getD y 0)))), (13, .bool (lowB xs (band (xs.getD x 0) (xs.getD y 0)))), (45, AI xs.length), (46, AI (x : Int)), (53, AI xs.length), (54, AI (y : Int)), (55, .bool (decide ((y : Int) < (xs.length : Int)))), (56, AI (y : Int)), (57, .tup [AI (lowV (invA xs xs.length) (band ((invA xs xs.length).getD x 0) ((invA xs xs.length).getD y 0))), .bool (lowB (invA xs xs.length) (band ((invA xs xs.length).getD x 0) ((invA xs xs.length).getD y 0)))]), (58, .ref 6), (59, AI (y : Int)), (60, .ref 2), (61, AI (x : Int)), (62, .ptr 2 (x * 1)), (63, AI ((invA xs xs.length).getD x 0)), (64, .ref 2), (65, AI (y : Int)), (66, .ptr 2 (y * 1)), (67, AI ((invA xs xs.length).getD y 0)), (68, AI (band ((invA xs xs.length).getD x 0) ((invA xs xs.length).getD y 0))), (69, .ref 2), (70, .tup [AI (lowV (invA xs xs.length) (band ((invA xs xs.length).getD x 0) ((invA xs xs.length).getD y 0))), .bool (lowB (invA xs xs.length) (band ((invA xs xs.length).getD x 0) ((invA xs xs.length).getD y 0)))]), (71, AI (lowV (invA xs xs.length) (band ((invA xs xs.length).getD x 0) ((invA xs xs.length).getD y 0)))), (72, .bool (lowB (invA xs xs.length) (band ((invA xs xs.length).getD x 0) ((invA xs xs.length).getD y 0)))), (73, .ptr 6 (y * 1)), (74, .tup [AI (lowV xs (band (xs.getD x 0) (xs.getD y 0))), .bool (lowB xs (band (xs.getD x 0) (xs.getD y 0)))]), (75, .ref 7), (76, AI (y : Int)), (77, LI xs), (78, AI (x : Int)), (79, .rptr [AI (xs.getD x 0)]), (80, AI (xs.getD x 0)), (81, LI xs), (82, AI (y : Int)), (83, .rptr [AI (xs.getD y 0)]), (84, AI (xs.getD y 0)), (85, AI (band (xs.getD x 0) (xs.getD y 0))), (86, LI xs), (87, .tup [AI (lowV xs (band (xs.getD x 0) (xs.getD y 0))), .bool (lowB xs (band (xs.getD x 0) (xs.getD y 0)))]), (88, AI (lowV xs (band (xs.getD x 0) (xs.getD y 0)))), (89, .bool (lowB xs (band (xs.getD x 0) (xs.getD y 0)))), (90, .ptr 7 (y * 1))]), [.inert (.base b), .box 28 [.nil, .nil, .nil, AI 0, AI 0], rowA eI 2 1 (invA xs xs.length), .box 28 [.ref 4, .ref 5, .nil, AI 0, AI 0], rowA (eV eI 2 1) 22 1 LA, rowA (eV eI 2 1) 22 1 LO, rowA eI 2 1 ((rowT (hyM xs x) xs.length y).set y (lowV (invA xs xs.length) (band ((invA xs xs.length).getD x 0) ((invA xs xs.length).getD y 0)))), rowA eI 2 1 ((rowT (hyJ xs x) xs.length y).set y (lowV xs (band (xs.getD x 0) (xs.getD y 0))))]⟩ : St) (by kernel_rfl) ?_ ?_)
            · refine R.any (by decide +kernel) (by kernel_rfl) ?_
              refine R.anyF 0 (by kernel_rfl) (np_meet _) ?_
              refine R.anyF 1 (by kernel_rfl) (np_meet _) ?_
              refine R.anyF 2 (by kernel_rfl) (np_meet _) ?_
              refine R.anyF 3 (by kernel_rfl) (np_meet _) ?_
              refine R.anyF 6 (by kernel_rfl) (np_meet _) ?_
              refine R.anyF 7 (by kernel_rfl) (np_meet _) ?_
              refine R.anyF 11 (by kernel_rfl) (np_meet _) ?_
              refine R.anyP 4 eI xs 0 x (x : Int) (by kernel_rfl) rfl eI_len (by omega) (np_meet _) ?_
              refine R.anyP 8 eI xs 0 y (y : Int) (by kernel_rfl) rfl eI_len (by omega) (np_meet _) ?_
              refine R.any2 5 9 (by kernel_rfl) (by kernel_rfl) ?_ ?_
              · refine R.go 2 (R.any1 9 (by kernel_rfl) (by kernel_rfl) ?_)
                refine R.go 2 (R.any1 10 (by kernel_rfl) (by kernel_rfl) ?_)
                refine R.go 2 (R.any1 12 (by kernel_rfl) (by kernel_rfl) ?_)
                refine R.call true (greatest_c (band (xs.getD x 0) (xs.getD y 0)) xs (by first | omega | (simp <;> omega)) (by assumption)) (by kernel_rfl) rfl (by kernel_rfl) ?_
                refine R.go 1 (R.anyF 13 (by kernel_rfl) (np_meet _) ?_)
                refine R.anyX 14 (AI (lowV xs (band (xs.getD x 0) (xs.getD y 0)))) (by kernel_rfl) (np_meet _) ?_
                refine R.anyX 15 (.bool (lowB xs (band (xs.getD x 0) (xs.getD y 0)))) (by kernel_rfl) (np_meet _) ?_
                refine R.anyO 16 7 1 (rowT (hyJ xs x) xs.length y).length y (y : Int) (by kernel_rfl) rfl (by omega) (np_meet _) ?_
                refine R.any1 17 (by kernel_rfl) (by kernel_rfl) ?_
                refine R.stI 7 2 (rowT (hyJ xs x) xs.length y) y (lowV xs (band (xs.getD x 0) (xs.getD y 0))) (by kernel_rfl) (by omega) (by kernel_rfl) ?_
                refine R.go 1 (R.any1 18 (by kernel_rfl) (by kernel_rfl) ?_)
                refine R.go 2 (R.any0 (by kernel_rfl) ?_)
                exact R.met (by kernel_rfl) (by kernel_rfl)
              · refine R.go 2 (R.any1 5 (by kernel_rfl) (by kernel_rfl) ?_)
                refine R.go 2 (R.any1 10 (by kernel_rfl) (by kernel_rfl) ?_)
                refine R.go 2 (R.any1 12 (by kernel_rfl) (by kernel_rfl) ?_)
                refine R.call true (greatest_c (band (xs.getD x 0) (xs.getD y 0)) xs (by first | omega | (simp <;> omega)) (by assumption)) (by kernel_rfl) rfl (by kernel_rfl) ?_
                refine R.go 1 (R.anyF 13 (by kernel_rfl) (np_meet _) ?_)
                refine R.anyX 14 (AI (lowV xs (band (xs.getD x 0) (xs.getD y 0)))) (by kernel_rfl) (np_meet _) ?_
                refine R.anyX 15 (.bool (lowB xs (band (xs.getD x 0) (xs.getD y 0)))) (by kernel_rfl) (np_meet _) ?_
                refine R.anyO 16 7 1 (rowT (hyJ xs x) xs.length y).length y (y : Int) (by kernel_rfl) rfl (by omega) (np_meet _) ?_
                refine R.any1 17 (by kernel_rfl) (by kernel_rfl) ?_
                refine R.stI 7 2 (rowT (hyJ xs x) xs.length y) y (lowV xs (band (xs.getD x 0) (xs.getD y 0))) (by kernel_rfl) (by omega) (by kernel_rfl) ?_
                refine R.go 1 (R.any1 18 (by kernel_rfl) (by kernel_rfl) ?_)
                refine R.go 2 (R.any0 (by kernel_rfl) ?_)
                exact R.met (by kernel_rfl) (by kernel_rfl)
            · refine R.go 5 (R.want (!(lowB (invA xs xs.length) (band ((invA xs xs.length).getD x 0) ((invA xs xs.length).getD y 0)))) false (by kernel_rfl) (bnF hb1) ?_)
              refine R.go 1 (R.want (!(lowB (invA xs xs.length) (band ((invA xs xs.length).getD x 0) ((invA xs xs.length).getD y 0)))) false (by kernel_rfl) (bnF hb1) ?_)
              refine R.go 1 (R.pick (!(lowB (invA xs xs.length) (band ((invA xs xs.length).getD x 0) ((invA xs xs.length).getD y 0)))) false (by kernel_rfl) (bnF hb1) (by kernel_rfl) ?_)
              refine R.go 1 (R.els (!(lowB xs (band (xs.getD x 0) (xs.getD y 0)))) (by kernel_rfl) (bnF hb2) ?_)
              refine R.go 3 (R.ar ((y : Int) + 1) (by kernel_rfl) (by omega) (by omega) (by kernel_rfl) ?_)
              exact R.go 2 (R.stop R7 (by kernel_rfl) (N8 (y + 1, (rowT (hyM xs x) xs.length y).set y (lowV (invA xs xs.length) (band ((invA xs xs.length).getD x 0) ((invA xs xs.length).getD y 0))), (rowT (hyJ xs x) xs.length y).set y (lowV xs (band (xs.getD x 0) (xs.getD y 0)))) [0, 2, 4, 6, 7, 8, 9, 10, 45, 46, 53, 54] none _ (by kernel_rfl) (by kernel_rfl) ⟨(by omega), (by exact rowT_set (by omega) (lowV_of (hH.me x y (by omega) (by omega)))), (by exact rowT_set (by omega) (lowV_of (hH.jo x y (by omega) (by omega))))⟩ (by show (xs.length - (y + 1)) < (xs.length - y); omega)))
        · refine R.go 1 (R.pin 6 2 1 (rowT (hyM xs x) xs.length y).length (rows eI (rowT (hyM xs x) xs.length y)) (by kernel_rfl) (by kernel_rfl) ?_)
          intro v12 hn13
          have hb14 : ∀ g, blk v12 = some g → b ≤ g := newN_base hn13 0 (by kernel_rfl)
          have hr15 : ∀ u ∈ LA, ∀ g, blk v12 = some g → blk u.1 ≠ some g := newN_row (E := eI) (el := 2) (s := 1) (e := 22) (n := LA.length) hn13 4 LA (by kernel_rfl)
          have hr16 : ∀ u ∈ LO, ∀ g, blk v12 = some g → blk u.1 ≠ some g := newN_row (E := eI) (el := 2) (s := 1) (e := 22) (n := LO.length) hn13 5 LO (by kernel_rfl)
          clear hn13
          refine R.pin 7 2 1 (rowT (hyJ xs x) xs.length y).length (rows eI (rowT (hyJ xs x) xs.length y)) (by kernel_rfl) (by kernel_rfl) ?_
          intro v17 hn18
          have hb19 : ∀ g, blk v17 = some g → b ≤ g := newN_base hn18 0 (by kernel_rfl)
          have hr20 : ∀ u ∈ LA, ∀ g, blk v17 = some g → blk u.1 ≠ some g := newN_row (E := eI) (el := 2) (s := 1) (e := 22) (n := LA.length) hn18 4 LA (by kernel_rfl)
          have hr21 : ∀ u ∈ LO, ∀ g, blk v17 = some g → blk u.1 ≠ some g := newN_row (E := eI) (el := 2) (s := 1) (e := 22) (n := LO.length) hn18 5 LO (by kernel_rfl)
          have hs22 : ∀ g, blk v17 = some g → blk v12 ≠ some g := newN_slot (e := 2) (s := 1) (n := (rowT (hyM xs x) xs.length y).length) (cs := rows eI (rowT (hyM xs x) xs.length y)) hn18 9 (by kernel_rfl)
          clear hn18
          refine R.meet (⟨(frm 184 [(0, LI xs), (2, .ptr 1 0), (4, AI xs.length), (6, .ref 2), (7, .ptr 3 0), (8, AI (x : Int)), (9, .nam v12 (some 2) 1 (rowT (hyM xs x) xs.length y).length (rows eI (rowT (hyM xs x) xs.length y))), (10, .nam v17 (some 2) 1 (rowT (hyJ xs x) xs.length y).length (rows eI (rowT (hyJ xs x) xs.length y))), (45, AI xs.length), (46, AI (x : Int)), (53, AI xs.length), (54, AI (y : Int)), (55, .bool (decide ((y : Int) < (xs.length : Int)))), (99, .ptr 3 0), (101, .nam v12 (some 2) 1 (rowT (hyM xs x) xs.length y).length (rows eI (rowT (hyM xs x) xs.length y))), (102, lstA (eV eI 2 1) 1 [(v12, rowT (hyM xs x) xs.length y)]), (103, .ref 4), (104, .ptr 3 1), (106, .nam v17 (some 2) 1 (rowT (hyJ xs x) xs.length y).length (rows eI (rowT (hyJ xs x) xs.length y))), (107, lstA (eV eI 2 1) 1 [(v17, rowT (hyJ xs x) xs.length y)]), (108, .ref 5), (109, .ptr 3 0), (110, .ptr 3 1)]), [.inert (.base b), .box 28 [.nil, .nil, .nil, AI 0, AI 0], rowA eI 2 1 (invA xs xs.length), .box 28 [.ref 4, .ref 5, .nil, AI 0, AI 0], rowA (eV eI 2 1) 22 1 (LA ++ [(v12, rowT (hyM xs x) xs.length y)]), rowA (eV eI 2 1) 22 1 (LO ++ [(v17, rowT (hyJ xs x) xs.length y)]), .dead, .dead]⟩ : St) (by kernel_rfl) ?_ ?_
          · refine R.any (by decide +kernel) (by kernel_rfl) ?_
            refine R.anyF 2 (by kernel_rfl) (np_meet _) ?_
            refine R.anyF 7 (by kernel_rfl) (np_meet _) ?_
            refine R.anyA 0 (.ptr 3 0) (by kernel_rfl) (np_meet _) ?_
            refine R.anyA 5 (.ptr 3 1) (by kernel_rfl) (np_meet _) ?_
            refine R.any4 1 3 6 8 (by kernel_rfl) (by kernel_rfl) ?_ ?_ ?_ ?_
            · refine R.go 2 (R.any3 3 6 8 (by kernel_rfl) (by kernel_rfl) ?_ ?_ ?_)
              · refine R.lit (s := 1) (n := 1) (cs := rows (eV eI 2 1) [(v12, rowT (hyM xs x) xs.length y)]) (by kernel_rfl) (by kernel_rfl) ?_
                refine R.go 1 (R.any3 4 6 8 (by kernel_rfl) (by kernel_rfl) ?_ ?_ ?_)
                · refine R.app (eV eI 2 1) LA [(v12, rowT (hyM xs x) xs.length y)] 4 22 1 24 (by kernel_rfl) eV_one (by decide) (by first | omega | (simp <;> omega)) (by kernel_rfl) ?_
                  refine R.go 1 (R.any2 6 8 (by kernel_rfl) (by kernel_rfl) ?_ ?_)
                  · refine R.go 2 (R.anyA 10 (.ptr 3 0) (by kernel_rfl) (np_meet _) ?_)
                    refine R.any1 8 (by kernel_rfl) (by kernel_rfl) ?_
                    refine R.lit (s := 1) (n := 1) (cs := rows (eV eI 2 1) [(v17, rowT (hyJ xs x) xs.length y)]) (by kernel_rfl) (by kernel_rfl) ?_
                    refine R.go 1 (R.any1 9 (by kernel_rfl) (by kernel_rfl) ?_)
                    refine R.app (eV eI 2 1) LO [(v17, rowT (hyJ xs x) xs.length y)] 5 22 1 24 (by kernel_rfl) eV_one (by decide) (by first | omega | (simp <;> omega)) (by kernel_rfl) ?_
                    refine R.go 1 (R.any1 11 (by kernel_rfl) (by kernel_rfl) ?_)
                    refine R.go 2 (R.anyA 12 (.ptr 3 1) (by kernel_rfl) (np_meet _) ?_)
                    refine R.any1 13 (by kernel_rfl) (by kernel_rfl) ?_
                    refine R.go 2 (R.any0 (by kernel_rfl) ?_)
                    exact R.met (by kernel_rfl) (by kernel_rfl)
                  · refine R.lit (s := 1) (n := 1) (cs := rows (eV eI 2 1) [(v17, rowT (hyJ xs x) xs.length y)]) (by kernel_rfl) (by kernel_rfl) ?_
                    refine R.go 1 (R.any1 6 (by kernel_rfl) (by kernel_rfl) ?_)
                    refine R.go 2 (R.anyA 10 (.ptr 3 0) (by kernel_rfl) (np_meet _) ?_)
                    refine R.any1 9 (by kernel_rfl) (by kernel_rfl) ?_
                    refine R.app (eV eI 2 1) LO [(v17, rowT (hyJ xs x) xs.length y)] 5 22 1 24 (by kernel_rfl) eV_one (by decide) (by first | omega | (simp <;> omega)) (by kernel_rfl) ?_
                    refine R.go 1 (R.any1 11 (by kernel_rfl) (by kernel_rfl) ?_)
                    refine R.go 2 (R.anyA 12 (.ptr 3 1) (by kernel_rfl) (np_meet _) ?_)
                    refine R.any1 13 (by kernel_rfl) (by kernel_rfl) ?_
                    refine R.go 2 (R.any0 (by kernel_rfl) ?_)
                    exact R.met (by kernel_rfl) (by kernel_rfl)
                · refine R.go 2 (R.any2 4 8 (by kernel_rfl) (by kernel_rfl) ?_ ?_)
                  · refine R.app (eV eI 2 1) LA [(v12, rowT (hyM xs x) xs.length y)] 4 22 1 24 (by kernel_rfl) eV_one (by decide) (by first | omega | (simp <;> omega)) (by kernel_rfl) ?_
                    refine R.go 1 (R.anyA 10 (.ptr 3 0) (by kernel_rfl) (np_meet _) ?_)
                    refine R.any1 8 (by kernel_rfl) (by kernel_rfl) ?_
                    refine R.lit (s := 1) (n := 1) (cs := rows (eV eI 2 1) [(v17, rowT (hyJ xs x) xs.length y)]) (by kernel_rfl) (by kernel_rfl) ?_
                    refine R.go 1 (R.any1 9 (by kernel_rfl) (by kernel_rfl) ?_)
                    refine R.app (eV eI 2 1) LO [(v17, rowT (hyJ xs x) xs.length y)] 5 22 1 24 (by kernel_rfl) eV_one (by decide) (by first | omega | (simp <;> omega)) (by kernel_rfl) ?_
                    refine R.go 1 (R.any1 11 (by kernel_rfl) (by kernel_rfl) ?_)
                    refine R.go 2 (R.anyA 12 (.ptr 3 1) (by kernel_rfl) (np_meet _) ?_)
                    refine R.any1 13 (by kernel_rfl) (by kernel_rfl) ?_
                    refine R.go 2 (R.any0 (by kernel_rfl) ?_)
                    exact R.met (by kernel_rfl) (by kernel_rfl)
                  · refine R.lit (s := 1) (n := 1) (cs := rows (eV eI 2 1) [(v17, rowT (hyJ xs x) xs.length y)]) (by kernel_rfl) (by kernel_rfl) ?_
                    refine R.go 1 (R.any1 4 (by kernel_rfl) (by kernel_rfl) ?_)
                    refine R.app (eV eI 2 1) LA [(v12, rowT (hyM xs x) xs.length y)] 4 22 1 24 (by kernel_rfl) eV_one (by decide) (by first | omega | (simp <;> omega)) (by kernel_rfl) ?_
                    refine R.go 1 (R.anyA 10 (.ptr 3 0) (by kernel_rfl) (np_meet _) ?_)
                    refine R.any1 9 (by kernel_rfl) (by kernel_rfl) ?_
                    refine R.app (eV eI 2 1) LO [(v17, rowT (hyJ xs x) xs.length y)] 5 22 1 24 (by kernel_rfl) eV_one (by decide) (by first | omega | (simp <;> omega)) (by kernel_rfl) ?_
                    refine R.go 1 (R.any1 11 (by kernel_rfl) (by kernel_rfl) ?_)
                    refine R.go 2 (R.anyA 12 (.ptr 3 1) (by kernel_rfl) (np_meet _) ?_)
                    refine R.any1 13 (by kernel_rfl) (by kernel_rfl) ?_
                    refine R.go 2 (R.any0 (by kernel_rfl) ?_)
                    exact R.met (by kernel_rfl) (by kernel_rfl)
                · refine R.lit (s := 1) (n := 1) (cs := rows (eV eI 2 1) [(v17, rowT (hyJ xs x) xs.length y)]) (by kernel_rfl) (by kernel_rfl) ?_
                  refine R.go 1 (R.any2 4 6 (by kernel_rfl) (by kernel_rfl) ?_ ?_)
                  · refine R.app (eV eI 2 1) LA [(v12, rowT (hyM xs x) xs.length y)] 4 22 1 24 (by kernel_rfl) eV_one (by decide) (by first | omega | (simp <;> omega)) (by kernel_rfl) ?_
                    refine R.go 1 (R.any1 6 (by kernel_rfl) (by kernel_rfl) ?_)
                    refine R.go 2 (R.anyA 10 (.ptr 3 0) (by kernel_rfl) (np_meet _) ?_)
                    refine R.any1 9 (by kernel_rfl) (by kernel_rfl) ?_
                    refine R.app (eV eI 2 1) LO [(v17, rowT (hyJ xs x) xs.length y)] 5 22 1 24 (by kernel_rfl) eV_one (by decide) (by first | omega | (simp <;> omega)) (by kernel_rfl) ?_
                    refine R.go 1 (R.any1 11 (by kernel_rfl) (by kernel_rfl) ?_)
                    refine R.go 2 (R.anyA 12 (.ptr 3 1) (by kernel_rfl) (np_meet _) ?_)
                    refine R.any1 13 (by kernel_rfl) (by kernel_rfl) ?_
                    refine R.go 2 (R.any0 (by kernel_rfl) ?_)
                    exact R.met (by kernel_rfl) (by kernel_rfl)
                  · refine R.go 2 (R.any1 4 (by kernel_rfl) (by kernel_rfl) ?_)
                    refine R.app (eV eI 2 1) LA [(v12, rowT (hyM xs x) xs.length y)] 4 22 1 24 (by kernel_rfl) eV_one (by decide) (by first | omega | (simp <;> omega)) (by kernel_rfl) ?_
                    refine R.go 1 (R.anyA 10 (.ptr 3 0) (by kernel_rfl) (np_meet _) ?_)
                    refine R.any1 9 (by kernel_rfl) (by kernel_rfl) ?_
                    refine R.app (eV eI 2 1) LO [(v17, rowT (hyJ xs x) xs.length y)] 5 22 1 24 (by kernel_rfl) eV_one (by decide) (by first | omega | (simp <;> omega)) (by kernel_rfl) ?_
                    refine R.go 1 (R.any1 11 (by kernel_rfl) (by kernel_rfl) ?_)
                    refine R.go 2 (R.anyA 12 (.ptr 3 1) (by kernel_rfl) (np_meet _) ?_)
                    refine R.any1 13 (by kernel_rfl) (by kernel_rfl) ?_
                    refine R.go 2 (R.any0 (by kernel_rfl) ?_)
                    exact R.met (by kernel_rfl) (by kernel_rfl)
              · refine R.go 2 (R.any2 3 8 (by kernel_rfl) (by kernel_rfl) ?_ ?_)
                · refine R.lit (s := 1) (n := 1) (cs := rows (eV eI 2 1) [(v12, rowT (hyM xs x) xs.length y)]) (by kernel_rfl) (by kernel_rfl) ?_
                  refine R.go 1 (R.any2 4 8 (by kernel_rfl) (by kernel_rfl) ?_ ?_)
                  · refine R.app (eV eI 2 1) LA [(v12, rowT (hyM xs x) xs.length y)] 4 22 1 24 (by kernel_rfl) eV_one (by decide) (by first | omega | (simp <;> omega)) (by kernel_rfl) ?_
                    refine R.go 1 (R.anyA 10 (.ptr 3 0) (by kernel_rfl) (np_meet _) ?_)
                    refine R.any1 8 (by kernel_rfl) (by kernel_rfl) ?_
                    refine R.lit (s := 1) (n := 1) (cs := rows (eV eI 2 1) [(v17, rowT (hyJ xs x) xs.length y)]) (by kernel_rfl) (by kernel_rfl) ?_
                    refine R.go 1 (R.any1 9 (by kernel_rfl) (by kernel_rfl) ?_)
                    refine R.app (eV eI 2 1) LO [(v17, rowT (hyJ xs x) xs.length y)] 5 22 1 24 (by kernel_rfl) eV_one (by decide) (by first | omega | (simp <;> omega)) (by kernel_rfl) ?_
                    refine R.go 1 (R.any1 11 (by kernel_rfl) (by kernel_rfl) ?_)
                    refine R.go 2 (R.anyA 12 (.ptr 3 1) (by kernel_rfl) (np_meet _) ?_)
                    refine R.any1 13 (by kernel_rfl) (by kernel_rfl) ?_
                    refine R.go 2 (R.any0 (by kernel_rfl) ?_)
                    exact R.met (by kernel_rfl) (by kernel_rfl)
                  · refine R.lit (s := 1) (n := 1) (cs := rows (eV eI 2 1) [(v17, rowT (hyJ xs x) xs.length y)]) (by kernel_rfl) (by kernel_rfl) ?_
                    refine R.go 1 (R.any1 4 (by kernel_rfl) (by kernel_rfl) ?_)
                    refine R.app (eV eI 2 1) LA [(v12, rowT (hyM xs x) xs.length y)] 4 22 1 24 (by kernel_rfl) eV_one (by decide) (by first | omega | (simp <;> omega)) (by kernel_rfl) ?_
                    refine R.go 1 (R.anyA 10 (.ptr 3 0) (by kernel_rfl) (np_meet _) ?_)
                    refine R.any1 9 (by kernel_rfl) (by kernel_rfl) ?_
                    refine R.app (eV eI 2 1) LO [(v17, rowT (hyJ xs x) xs.length y)] 5 22 1 24 (by kernel_rfl) eV_one (by decide) (by first | omega | (simp <;> omega)) (by kernel_rfl) ?_
                    refine R.go 1 (R.any1 11 (by kernel_rfl) (by kernel_rfl) ?_)
                    refine R.go 2 (R.anyA 12 (.ptr 3 1) (by kernel_rfl) (np_meet _) ?_)
                    refine R.any1 13 (by kernel_rfl) (by kernel_rfl) ?_
                    refine R.go 2 (R.any0 (by kernel_rfl) ?_)
                    exact R.met (by kernel_rfl) (by kernel_rfl)
                · refine R.lit (s := 1) (n := 1) (cs := rows (eV eI 2 1) [(v17, rowT (hyJ xs x) xs.length y)]) (by kernel_rfl) (by kernel_rfl) ?_
                  refine R.go 1 (R.any1 3 (by kernel_rfl) (by kernel_rfl) ?_)
                  refine R.lit (s := 1) (n := 1) (cs := rows (eV eI 2 1) [(v12, rowT (hyM xs x) xs.length y)]) (by kernel_rfl) (by kernel_rfl) ?_
                  refine R.go 1 (R.any1 4 (by kernel_rfl) (by kernel_rfl) ?_)
                  refine R.app (eV eI 2 1) LA [(v12, rowT (hyM xs x) xs.length y)] 4 22 1 24 (by kernel_rfl) eV_one (by decide) (by first | omega | (simp <;> omega)) (by kernel_rfl) ?_
                  refine R.go 1 (R.anyA 10 (.ptr 3 0) (by kernel_rfl) (np_meet _) ?_)
                  refine R.any1 9 (by kernel_rfl) (by kernel_rfl) ?_
                  refine R.app (eV eI 2 1) LO [(v17, rowT (hyJ xs x) xs.length y)] 5 22 1 24 (by kernel_rfl) eV_one (by decide) (by first | omega | (simp <;> omega)) (by kernel_rfl) ?_
                  refine R.go 1 (R.any1 11 (by kernel_rfl) (by kernel_rfl) ?_)
                  refine R.go 2 (R.anyA 12 (.ptr 3 1) (by kernel_rfl) (np_meet _) ?_)
                  refine R.any1 13 (by kernel_rfl) (by kernel_rfl) ?_
                  refine R.go 2 (R.any0 (by kernel_rfl) ?_)
                  exact R.met (by kernel_rfl) (by kernel_rfl)
              · refine R.lit (s := 1) (n := 1) (cs := rows (eV eI 2 1) [(v17, rowT (hyJ xs x) xs.length y)]) (by kernel_rfl) (by kernel_rfl) ?_
                refine R.go 1 (R.any2 3 6 (by kernel_rfl) (by kernel_rfl) ?_ ?_)
                · refine R.lit (s := 1) (n := 1) (cs := rows (eV eI 2 1) [(v12, rowT (hyM xs x) xs.length y)]) (by kernel_rfl) (by kernel_rfl) ?_
                  refine R.go 1 (R.any2 4 6 (by kernel_rfl) (by kernel_rfl) ?_ ?_)
                  · refine R.app (eV eI 2 1) LA [(v12, rowT (hyM xs x) xs.length y)] 4 22 1 24 (by kernel_rfl) eV_one (by decide) (by first | omega | (simp <;> omega)) (by kernel_rfl) ?_
                    refine R.go 1 (R.any1 6 (by kernel_rfl) (by kernel_rfl) ?_)
                    refine R.go 2 (R.anyA 10 (.ptr 3 0) (by kernel_rfl) (np_meet _) ?_)
                    refine R.any1 9 (by kernel_rfl) (by kernel_rfl) ?_
                    refine R.app (eV eI 2 1) LO [(v17, rowT (hyJ xs x) xs.length y)] 5 22 1 24 (by kernel_rfl) eV_one (by decide) (by first | omega | (simp <;> omega)) (by kernel_rfl) ?_
                    refine R.go 1 (R.any1 11 (by kernel_rfl) (by kernel_rfl) ?_)
                    refine R.go 2 (R.anyA 12 (.ptr 3 1) (by kernel_rfl) (np_meet _) ?_)
                    refine R.any1 13 (by kernel_rfl) (by kernel_rfl) ?_
                    refine R.go 2 (R.any0 (by kernel_rfl) ?_)
                    exact R.met (by kernel_rfl) (by kernel_rfl)
                  · refine R.go 2 (R.any1 4 (by kernel_rfl) (by kernel_rfl) ?_)
                    refine R.app (eV eI 2 1) LA [(v12, rowT (hyM xs x) xs.length y)] 4 22 1 24 (by kernel_rfl) eV_one (by decide) (by first | omega | (simp <;> omega)) (by kernel_rfl) ?_
                    refine R.go 1 (R.anyA 10 (.ptr 3 0) (by kernel_rfl) (np_meet _) ?_)
                    refine R.any1 9 (by kernel_rfl) (by kernel_rfl) ?_
                    refine R.app (eV eI 2 1) LO [(v17, rowT (hyJ xs x) xs.length y)] 5 22 1 24 (by kernel_rfl) eV_one (by decide) (by first | omega | (simp <;> omega)) (by kernel_rfl) ?_
                    refine R.go 1 (R.any1 11 (by kernel_rfl) (by kernel_rfl) ?_)
                    refine R.go 2 (R.anyA 12 (.ptr 3 1) (by kernel_rfl) (np_meet _) ?_)
                    refine R.any1 13 (by kernel_rfl) (by kernel_rfl) ?_
                    refine R.go 2 (R.any0 (by kernel_rfl) ?_)
                    exact R.met (by kernel_rfl) (by kernel_rfl)
                · refine R.go 2 (R.any1 3 (by kernel_rfl) (by kernel_rfl) ?_)
                  refine R.lit (s := 1) (n := 1) (cs := rows (eV eI 2 1) [(v12, rowT (hyM xs x) xs.length y)]) (by kernel_rfl) (by kernel_rfl) ?_
                  refine R.go 1 (R.any1 4 (by kernel_rfl) (by kernel_rfl) ?_)
                  refine R.app (eV eI 2 1) LA [(v12, rowT (hyM xs x) xs.length y)] 4 22 1 24 (by kernel_rfl) eV_one (by decide) (by first | omega | (simp <;> omega)) (by kernel_rfl) ?_
                  refine R.go 1 (R.anyA 10 (.ptr 3 0) (by kernel_rfl) (np_meet _) ?_)
                  refine R.any1 9 (by kernel_rfl) (by kernel_rfl) ?_
                  refine R.app (eV eI 2 1) LO [(v17, rowT (hyJ xs x) xs.length y)] 5 22 1 24 (by kernel_rfl) eV_one (by decide) (by first | omega | (simp <;> omega)) (by kernel_rfl) ?_
                  refine R.go 1 (R.any1 11 (by kernel_rfl) (by kernel_rfl) ?_)
                  refine R.go 2 (R.anyA 12 (.ptr 3 1) (by kernel_rfl) (np_meet _) ?_)
                  refine R.any1 13 (by kernel_rfl) (by kernel_rfl) ?_
                  refine R.go 2 (R.any0 (by kernel_rfl) ?_)
                  exact R.met (by kernel_rfl) (by kernel_rfl)
            · refine R.lit (s := 1) (n := 1) (cs := rows (eV eI 2 1) [(v12, rowT (hyM xs x) xs.length y)]) (by kernel_rfl) (by kernel_rfl) ?_
              refine R.go 1 (R.any3 1 6 8 (by kernel_rfl) (by kernel_rfl) ?_ ?_ ?_)
              · refine R.go 2 (R.any3 4 6 8 (by kernel_rfl) (by kernel_rfl) ?_ ?_ ?_)
                · refine R.app (eV eI 2 1) LA [(v12, rowT (hyM xs x) xs.length y)] 4 22 1 24 (by kernel_rfl) eV_one (by decide) (by first | omega | (simp <;> omega)) (by kernel_rfl) ?_
                  refine R.go 1 (R.any2 6 8 (by kernel_rfl) (by kernel_rfl) ?_ ?_)
                  · refine R.go 2 (R.anyA 10 (.ptr 3 0) (by kernel_rfl) (np_meet _) ?_)
                    refine R.any1 8 (by kernel_rfl) (by kernel_rfl) ?_
                    refine R.lit (s := 1) (n := 1) (cs := rows (eV eI 2 1) [(v17, rowT (hyJ xs x) xs.length y)]) (by kernel_rfl) (by kernel_rfl) ?_
                    refine R.go 1 (R.any1 9 (by kernel_rfl) (by kernel_rfl) ?_)
                    refine R.app (eV eI 2 1) LO [(v17, rowT (hyJ xs x) xs.length y)] 5 22 1 24 (by kernel_rfl) eV_one (by decide) (by first | omega | (simp <;> omega)) (by kernel_rfl) ?_
                    refine R.go 1 (R.any1 11 (by kernel_rfl) (by kernel_rfl) ?_)
                    refine R.go 2 (R.anyA 12 (.ptr 3 1) (by kernel_rfl) (np_meet _) ?_)
                    refine R.any1 13 (by kernel_rfl) (by kernel_rfl) ?_
                    refine R.go 2 (R.any0 (by kernel_rfl) ?_)
                    exact R.met (by kernel_rfl) (by kernel_rfl)
                  · refine R.lit (s := 1) (n := 1) (cs := rows (eV eI 2 1) [(v17, rowT (hyJ xs x) xs.length y)]) (by kernel_rfl) (by kernel_rfl) ?_
                    refine R.go 1 (R.any1 6 (by kernel_rfl) (by kernel_rfl) ?_)
                    refine R.go 2 (R.anyA 10 (.ptr 3 0) (by kernel_rfl) (np_meet _) ?_)
                    refine R.any1 9 (by kernel_rfl) (by kernel_rfl) ?_
                    refine R.app (eV eI 2 1) LO [(v17, rowT (hyJ xs x) xs.length y)] 5 22 1 24 (by kernel_rfl) eV_one (by decide) (by first | omega | (simp <;> omega)) (by kernel_rfl) ?_
                    refine R.go 1 (R.any1 11 (by kernel_rfl) (by kernel_rfl) ?_)
                    refine R.go 2 (R.anyA 12 (.ptr 3 1) (by kernel_rfl) (np_meet _) ?_)
                    refine R.any1 13 (by kernel_rfl) (by kernel_rfl) ?_
                    refine R.go 2 (R.any0 (by kernel_rfl) ?_)
                    exact R.met (by kernel_rfl) (by kernel_rfl)
                · refine R.go 2 (R.any2 4 8 (by kernel_rfl) (by kernel_rfl) ?_ ?_)
                  · refine R.app (eV eI 2 1) LA [(v12, rowT (hyM xs x) xs.length y)] 4 22 1 24 (by kernel_rfl) eV_one (by decide) (by first | omega | (simp <;> omega)) (by kernel_rfl) ?_
                    refine R.go 1 (R.anyA 10 (.ptr 3 0) (by kernel_rfl) (np_meet _) ?_)
                    refine R.any1 8 (by kernel_rfl) (by kernel_rfl) ?_
                    refine R.lit (s := 1) (n := 1) (cs := rows (eV eI 2 1) [(v17, rowT (hyJ xs x) xs.length y)]) (by kernel_rfl) (by kernel_rfl) ?_
                    refine R.go 1 (R.any1 9 (by kernel_rfl) (by kernel_rfl) ?_)
                    refine R.app (eV eI 2 1) LO [(v17, rowT (hyJ xs x) xs.length y)] 5 22 1 24 (by kernel_rfl) eV_one (by decide) (by first | omega | (simp <;> omega)) (by kernel_rfl) ?_
                    refine R.go 1 (R.any1 11 (by kernel_rfl) (by kernel_rfl) ?_)
                    refine R.go 2 (R.anyA 12 (.ptr 3 1) (by kernel_rfl) (np_meet _) ?_)
                    refine R.any1 13 (by kernel_rfl) (by kernel_rfl) ?_
                    refine R.go 2 (R.any0 (by kernel_rfl) ?_)
                    exact R.met (by kernel_rfl) (by kernel_rfl)
                  · refine R.lit (s := 1) (n := 1) (cs := rows (eV eI 2 1) [(v17, rowT (hyJ xs x) xs.length y)]) (by kernel_rfl) (by kernel_rfl) ?_
                    refine R.go 1 (R.any1 4 (by kernel_rfl) (by kernel_rfl) ?_)
                    refine R.app (eV eI 2 1) LA [(v12, rowT (hyM xs x) xs.length y)] 4 22 1 24 (by kernel_rfl) eV_one (by decide) (by first | omega | (simp <;> omega)) (by kernel_rfl) ?_
                    refine R.go 1 (R.anyA 10 (.ptr 3 0) (by kernel_rfl) (np_meet _) ?_)
                    refine R.any1 9 (by kernel_rfl) (by kernel_rfl) ?_
                    refine R.app (eV eI 2 1) LO [(v17, rowT (hyJ xs x) xs.length y)] 5 22 1 24 (by kernel_rfl) eV_one (by decide) (by first | omega | (simp <;> omega)) (by kernel_rfl) ?_
                    refine R.go 1 (R.any1 11 (by kernel_rfl) (by kernel_rfl) ?_)
                    refine R.go 2 (R.anyA 12 (.ptr 3 1) (by kernel_rfl) (np_meet _) ?_)
                    refine R.any1 13 (by kernel_rfl) (by kernel_rfl) ?_
                    refine R.go 2 (R.any0 (by kernel_rfl) ?_)
                    exact R.met (by kernel_rfl) (by kernel_rfl)
                · refine R.lit (s := 1) (n := 1) (cs := rows (eV eI 2 1) [(v17, rowT (hyJ xs x) xs.length y)]) (by kernel_rfl) (by kernel_rfl) ?_
                  refine R.go 1 (R.any2 4 6 (by kernel_rfl) (by kernel_rfl) ?_ ?_)
                  · refine R.app (eV eI 2 1) LA [(v12, rowT (hyM xs x) xs.length y)] 4 22 1 24 (by kernel_rfl) eV_one (by decide) (by first | omega | (simp <;> omega)) (by kernel_rfl) ?_
                    refine R.go 1 (R.any1 6 (by kernel_rfl) (by kernel_rfl) ?_)
                    refine R.go 2 (R.anyA 10 (.ptr 3 0) (by kernel_rfl) (np_meet _) ?_)
                    refine R.any1 9 (by kernel_rfl) (by kernel_rfl) ?_
                    refine R.app (eV eI 2 1) LO [(v17, rowT (hyJ xs x) xs.length y)] 5 22 1 24 (by kernel_rfl) eV_one (by decide) (by first | omega | (simp <;> omega)) (by kernel_rfl) ?_
                    refine R.go 1 (R.any1 11 (by kernel_rfl) (by kernel_rfl) ?_)
                    refine R.go 2 (R.anyA 12 (.ptr 3 1) (by kernel_rfl) (np_meet _) ?_)
                    refine R.any1 13 (by kernel_rfl) (by kernel_rfl) ?_
                    refine R.go 2 (R.any0 (by kernel_rfl) ?_)
                    exact R.met (by kernel_rfl) (by kernel_rfl)
                  · refine R.go 2 (R.any1 4 (by kernel_rfl) (by kernel_rfl) ?_)
                    refine R.app (eV eI 2 1) LA [(v12, rowT (hyM xs x) xs.length y)] 4 22 1 24 (by kernel_rfl) eV_one (by decide) (by first | omega | (simp <;> omega)) (by kernel_rfl) ?_
                    refine R.go 1 (R.anyA 10 (.ptr 3 0) (by kernel_rfl) (np_meet _) ?_)
                    refine R.any1 9 (by kernel_rfl) (by kernel_rfl) ?_
                    refine R.app (eV eI 2 1) LO [(v17, rowT (hyJ xs x) xs.length y)] 5 22 1 24 (by kernel_rfl) eV_one (by decide) (by first | omega | (simp <;> omega)) (by kernel_rfl) ?_
                    refine R.go 1 (R.any1 11 (by kernel_rfl) (by kernel_rfl) ?_)
                    refine R.go 2 (R.anyA 12 (.ptr 3 1) (by kernel_rfl) (np_meet _) ?_)
                    refine R.any1 13 (by kernel_rfl) (by kernel_rfl) ?_
                    refine R.go 2 (R.any0 (by kernel_rfl) ?_)
                    exact R.met (by kernel_rfl) (by kernel_rfl)
              · refine R.go 2 (R.any2 1 8 (by kernel_rfl) (by kernel_rfl) ?_ ?_)
                · refine R.go 2 (R.any2 4 8 (by kernel_rfl) (by kernel_rfl) ?_ ?_)
                  · refine R.app (eV eI 2 1) LA [(v12, rowT (hyM xs x) xs.length y)] 4 22 1 24 (by kernel_rfl) eV_one (by decide) (by first | omega | (simp <;> omega)) (by kernel_rfl) ?_
                    refine R.go 1 (R.anyA 10 (.ptr 3 0) (by kernel_rfl) (np_meet _) ?_)
                    refine R.any1 8 (by kernel_rfl) (by kernel_rfl) ?_
                    refine R.lit (s := 1) (n := 1) (cs := rows (eV eI 2 1) [(v17, rowT (hyJ xs x) xs.length y)]) (by kernel_rfl) (by kernel_rfl) ?_
                    refine R.go 1 (R.any1 9 (by kernel_rfl) (by kernel_rfl) ?_)
                    refine R.app (eV eI 2 1) LO [(v17, rowT (hyJ xs x) xs.length y)] 5 22 1 24 (by kernel_rfl) eV_one (by decide) (by first | omega | (simp <;> omega)) (by kernel_rfl) ?_
                    refine R.go 1 (R.any1 11 (by kernel_rfl) (by kernel_rfl) ?_)
                    refine R.go 2 (R.anyA 12 (.ptr 3 1) (by kernel_rfl) (np_meet _) ?_)
                    refine R.any1 13 (by kernel_rfl) (by kernel_rfl) ?_
                    refine R.go 2 (R.any0 (by kernel_rfl) ?_)
                    exact R.met (by kernel_rfl) (by kernel_rfl)
                  · refine R.lit (s := 1) (n := 1) (cs := rows (eV eI 2 1) [(v17, rowT (hyJ xs x) xs.length y)]) (by kernel_rfl) (by kernel_rfl) ?_
                    refine R.go 1 (R.any1 4 (by kernel_rfl) (by kernel_rfl) ?_)
                    refine R.app (eV eI 2 1) LA [(v12, rowT (hyM xs x) xs.length y)] 4 22 1 24 (by kernel_rfl) eV_one (by decide) (by first | omega | (simp <;> omega)) (by kernel_rfl) ?_
                    refine R.go 1 (R.anyA 10 (.ptr 3 0) (by kernel_rfl) (np_meet _) ?_)
                    refine R.any1 9 (by kernel_rfl) (by kernel_rfl) ?_
                    refine R.app (eV eI 2 1) LO [(v17, rowT (hyJ xs x) xs.length y)] 5 22 1 24 (by kernel_rfl) eV_one (by decide) (by first | omega | (simp <;> omega)) (by kernel_rfl) ?_
                    refine R.go 1 (R.any1 11 (by kernel_rfl) (by kernel_rfl) ?_)
                    refine R.go 2 (R.anyA 12 (.ptr 3 1) (by kernel_rfl) (np_meet _) ?_)
                    refine R.any1 13 (by kernel_rfl) (by kernel_rfl) ?_
                    refine R.go 2 (R.any0 (by kernel_rfl) ?_)
                    exact R.met (by kernel_rfl) (by kernel_rfl)
                · refine R.lit (s := 1) (n := 1) (cs := rows (eV eI 2 1) [(v17, rowT (hyJ xs x) xs.length y)]) (by kernel_rfl) (by kernel_rfl) ?_
                  refine R.go 1 (R.any1 1 (by kernel_rfl) (by kernel_rfl) ?_)
                  refine R.go 2 (R.any1 4 (by kernel_rfl) (by kernel_rfl) ?_)
                  refine R.app (eV eI 2 1) LA [(v12, rowT (hyM xs x) xs.length y)] 4 22 1 24 (by kernel_rfl) eV_one (by decide) (by first | omega | (simp <;> omega)) (by kernel_rfl) ?_
                  refine R.go 1 (R.anyA 10 (.ptr 3 0) (by kernel_rfl) (np_meet _) ?_)
                  refine R.any1 9 (by kernel_rfl) (by kernel_rfl) ?_
                  refine R.app (eV eI 2 1) LO [(v17, rowT (hyJ xs x) xs.length y)] 5 22 1 24 (by kernel_rfl) eV_one (by decide) (by first | omega | (simp <;> omega)) (by kernel_rfl) ?_
                  refine R.go 1 (R.any1 11 (by kernel_rfl) (by kernel_rfl) ?_)
                  refine R.go 2 (R.anyA 12 (.ptr 3 1) (by kernel_rfl) (np_meet _) ?_)
                  refine R.any1 13 (by kernel_rfl) (by kernel_rfl) ?_
                  refine R.go 2 (R.any0 (by kernel_rfl) ?_)
                  exact R.met (by kernel_rfl) (by kernel_rfl)
              · refine R.lit (s := 1) (n := 1) (cs := rows (eV eI 2 1) [(v17, rowT (hyJ xs x) xs.length y)]) (by kernel_rfl) (by kernel_rfl) ?_
                refine R.go 1 (R.any2 1 6 (by kernel_rfl) (by kernel_rfl) ?_ ?_)
                · refine R.go 2 (R.any2 4 6 (by kernel_rfl) (by kernel_rfl) ?_ ?_)
                  · refine R.app (eV eI 2 1) LA [(v12, rowT (hyM xs x) xs.length y)] 4 22 1 24 (by kernel_rfl) eV_one (by decide) (by first | omega | (simp <;> omega)) (by kernel_rfl) ?_
                    refine R.go 1 (R.any1 6 (by kernel_rfl) (by kernel_rfl) ?_)
                    refine R.go 2 (R.anyA 10 (.ptr 3 0) (by kernel_rfl) (np_meet _) ?_)
                    refine R.any1 9 (by kernel_rfl) (by kernel_rfl) ?_
                    refine R.app (eV eI 2 1) LO [(v17, rowT (hyJ xs x) xs.length y)] 5 22 1 24 (by kernel_rfl) eV_one (by decide) (by first | omega | (simp <;> omega)) (by kernel_rfl) ?_
                    refine R.go 1 (R.any1 11 (by kernel_rfl) (by kernel_rfl) ?_)
                    refine R.go 2 (R.anyA 12 (.ptr 3 1) (by kernel_rfl) (np_meet _) ?_)
                    refine R.any1 13 (by kernel_rfl) (by kernel_rfl) ?_
                    refine R.go 2 (R.any0 (by kernel_rfl) ?_)
                    exact R.met (by kernel_rfl) (by kernel_rfl)
                  · refine R.go 2 (R.any1 4 (by kernel_rfl) (by kernel_rfl) ?_)
                    refine R.app (eV eI 2 1) LA [(v12, rowT (hyM xs x) xs.length y)] 4 22 1 24 (by kernel_rfl) eV_one (by decide) (by first | omega | (simp <;> omega)) (by kernel_rfl) ?_
                    refine R.go 1 (R.anyA 10 (.ptr 3 0) (by kernel_rfl) (np_meet _) ?_)
                    refine R.any1 9 (by kernel_rfl) (by kernel_rfl) ?_
                    refine R.app (eV eI 2 1) LO [(v17, rowT (hyJ xs x) xs.length y)] 5 22 1 24 (by kernel_rfl) eV_one (by decide) (by first | omega | (simp <;> omega)) (by kernel_rfl) ?_
                    refine R.go 1 (R.any1 11 (by kernel_rfl) (by kernel_rfl) ?_)
                    refine R.go 2 (R.anyA 12 (.ptr 3 1) (by kernel_rfl) (np_meet _) ?_)
                    refine R.any1 13 (by kernel_rfl) (by kernel_rfl) ?_
                    refine R.go 2 (R.any0 (by kernel_rfl) ?_)
                    exact R.met (by kernel_rfl) (by kernel_rfl)
                · refine R.go 2 (R.any1 1 (by kernel_rfl) (by kernel_rfl) ?_)
                  refine R.go 2 (R.any1 4 (by kernel_rfl) (by kernel_rfl) ?_)
                  refine R.app (eV eI 2 1) LA [(v12, rowT (hyM xs x) xs.length y)] 4 22 1 24 (by kernel_rfl) eV_one (by decide) (by first | omega | (simp <;> omega)) (by kernel_rfl) ?_
                  refine R.go 1 (R.anyA 10 (.ptr 3 0) (by kernel_rfl) (np_meet _) ?_)
                  refine R.any1 9 (by kernel_rfl) (by kernel_rfl) ?_
                  refine R.app (eV eI 2 1) LO [(v17, rowT (hyJ xs x) xs.length y)] 5 22 1 24 (by kernel_rfl) eV_one (by decide) (by first | omega | (simp <;> omega)) (by kernel_rfl) ?_
                  refine R.go 1 (R.any1 11 (by kernel_rfl) (by kernel_rfl) ?_)
                  refine R.go 2 (R.anyA 12 (.ptr 3 1) (by kernel_rfl) (np_meet _) ?_)
                  refine R.any1 13 (by kernel_rfl) (by kernel_rfl) ?_
                  refine R.go 2 (R.any0 (by kernel_rfl) ?_)
                  exact R.met (by kernel_rfl) (by kernel_rfl)
            · refine R.go 2 (R.any3 1 3 8 (by kernel_rfl) (by kernel_rfl) ?_ ?_ ?_)
              · refine R.go 2 (R.any2 3 8 (by kernel_rfl) (by kernel_rfl) ?_ ?_)
                · refine R.lit (s := 1) (n := 1) (cs := rows (eV eI 2 1) [(v12, rowT (hyM xs x) xs.length y)]) (by kernel_rfl) (by kernel_rfl) ?_
                  refine R.go 1 (R.any2 4 8 (by kernel_rfl) (by kernel_rfl) ?_ ?_)
                  · refine R.app (eV eI 2 1) LA [(v12, rowT (hyM xs x) xs.length y)] 4 22 1 24 (by kernel_rfl) eV_one (by decide) (by first | omega | (simp <;> omega)) (by kernel_rfl) ?_
                    refine R.go 1 (R.anyA 10 (.ptr 3 0) (by kernel_rfl) (np_meet _) ?_)
                    refine R.any1 8 (by kernel_rfl) (by kernel_rfl) ?_
                    refine R.lit (s := 1) (n := 1) (cs := rows (eV eI 2 1) [(v17, rowT (hyJ xs x) xs.length y)]) (by kernel_rfl) (by kernel_rfl) ?_
                    refine R.go 1 (R.any1 9 (by kernel_rfl) (by kernel_rfl) ?_)
                    refine R.app (eV eI 2 1) LO [(v17, rowT (hyJ xs x) xs.length y)] 5 22 1 24 (by kernel_rfl) eV_one (by decide) (by first | omega | (simp <;> omega)) (by kernel_rfl) ?_
                    refine R.go 1 (R.any1 11 (by kernel_rfl) (by kernel_rfl) ?_)
                    refine R.go 2 (R.anyA 12 (.ptr 3 1) (by kernel_rfl) (np_meet _) ?_)
                    refine R.any1 13 (by kernel_rfl) (by kernel_rfl) ?_
                    refine R.go 2 (R.any0 (by kernel_rfl) ?_)
                    exact R.met (by kernel_rfl) (by kernel_rfl)
                  · refine R.lit (s := 1) (n := 1) (cs := rows (eV eI 2 1) [(v17, rowT (hyJ xs x) xs.length y)]) (by kernel_rfl) (by kernel_rfl) ?_
                    refine R.go 1 (R.any1 4 (by kernel_rfl) (by kernel_rfl) ?_)
                    refine R.app (eV eI 2 1) LA [(v12, rowT (hyM xs x) xs.length y)] 4 22 1 24 (by kernel_rfl) eV_one (by decide) (by first | omega | (simp <;> omega)) (by kernel_rfl) ?_
                    refine R.go 1 (R.anyA 10 (.ptr 3 0) (by kernel_rfl) (np_meet _) ?_)
                    refine R.any1 9 (by kernel_rfl) (by kernel_rfl) ?_
                    refine R.app (eV eI 2 1) LO [(v17, rowT (hyJ xs x) xs.length y)] 5 22 1 24 (by kernel_rfl) eV_one (by decide) (by first | omega | (simp <;> omega)) (by kernel_rfl) ?_
                    refine R.go 1 (R.any1 11 (by kernel_rfl) (by kernel_rfl) ?_)
                    refine R.go 2 (R.anyA 12 (.ptr 3 1) (by kernel_rfl) (np_meet _) ?_)
                    refine R.any1 13 (by kernel_rfl) (by kernel_rfl) ?_
                    refine R.go 2 (R.any0 (by kernel_rfl) ?_)
                    exact R.met (by kernel_rfl) (by kernel_rfl)
                · refine R.lit (s := 1) (n := 1) (cs := rows (eV eI 2 1) [(v17, rowT (hyJ xs x) xs.length y)]) (by kernel_rfl) (by kernel_rfl) ?_
                  refine R.go 1 (R.any1 3 (by kernel_rfl) (by kernel_rfl) ?_)
                  refine R.lit (s := 1) (n := 1) (cs := rows (eV eI 2 1) [(v12, rowT (hyM xs x) xs.length y)]) (by kernel_rfl) (by kernel_rfl) ?_
                  refine R.go 1 (R.any1 4 (by kernel_rfl) (by kernel_rfl) ?_)
                  refine R.app (eV eI 2 1) LA [(v12, rowT (hyM xs x) xs.length y)] 4 22 1 24 (by kernel_rfl) eV_one (by decide) (by first | omega | (simp <;> omega)) (by kernel_rfl) ?_
                  refine R.go 1 (R.anyA 10 (.ptr 3 0) (by kernel_rfl) (np_meet _) ?_)
                  refine R.any1 9 (by kernel_rfl) (by kernel_rfl) ?_
                  refine R.app (eV eI 2 1) LO [(v17, rowT (hyJ xs x) xs.length y)] 5 22 1 24 (by kernel_rfl) eV_one (by decide) (by first | omega | (simp <;> omega)) (by kernel_rfl) ?_
                  refine R.go 1 (R.any1 11 (by kernel_rfl) (by kernel_rfl) ?_)
                  refine R.go 2 (R.anyA 12 (.ptr 3 1) (by kernel_rfl) (np_meet _) ?_)
                  refine R.any1 13 (by kernel_rfl) (by kernel_rfl) ?_
                  refine R.go 2 (R.any0 (by kernel_rfl) ?_)
                  exact R.met (by kernel_rfl) (by kernel_rfl)
              · refine R.lit (s := 1) (n := 1) (cs := rows (eV eI 2 1) [(v12, rowT (hyM xs x) xs.length y)]) (by kernel_rfl) (by kernel_rfl) ?_
                refine R.go 1 (R.any2 1 8 (by kernel_rfl) (by kernel_rfl) ?_ ?_)
                · refine R.go 2 (R.any2 4 8 (by kernel_rfl) (by kernel_rfl) ?_ ?_)
                  · refine R.app (eV eI 2 1) LA [(v12, rowT (hyM xs x) xs.length y)] 4 22 1 24 (by kernel_rfl) eV_one (by decide) (by first | omega | (simp <;> omega)) (by kernel_rfl) ?_
                    refine R.go 1 (R.anyA 10 (.ptr 3 0) (by kernel_rfl) (np_meet _) ?_)
                    refine R.any1 8 (by kernel_rfl) (by kernel_rfl) ?_
                    refine R.lit (s := 1) (n := 1) (cs := rows (eV eI 2 1) [(v17, rowT (hyJ xs x) xs.length y)]) (by kernel_rfl) (by kernel_rfl) ?_
                    refine R.go 1 (R.any1 9 (by kernel_rfl) (by kernel_rfl) ?_)
                    refine R.app (eV eI 2 1) LO [(v17, rowT (hyJ xs x) xs.length y)] 5 22 1 24 (by kernel_rfl) eV_one (by decide) (by first | omega | (simp <;> omega)) (by kernel_rfl) ?_
                    refine R.go 1 (R.any1 11 (by kernel_rfl) (by kernel_rfl) ?_)
                    refine R.go 2 (R.anyA 12 (.ptr 3 1) (by kernel_rfl) (np_meet _) ?_)
                    refine R.any1 13 (by kernel_rfl) (by kernel_rfl) ?_
                    refine R.go 2 (R.any0 (by kernel_rfl) ?_)
                    exact R.met (by kernel_rfl) (by kernel_rfl)
                  · refine R.lit (s := 1) (n := 1) (cs := rows (eV eI 2 1) [(v17, rowT (hyJ xs x) xs.length y)]) (by kernel_rfl) (by kernel_rfl) ?_
                    refine R.go 1 (R.any1 4 (by kernel_rfl) (by kernel_rfl) ?_)
                    refine R.app (eV eI 2 1) LA [(v12, rowT (hyM xs x) xs.length y)] 4 22 1 24 (by kernel_rfl) eV_one (by decide) (by first | omega | (simp <;> omega)) (by kernel_rfl) ?_
                    refine R.go 1 (R.anyA 10 (.ptr 3 0) (by kernel_rfl) (np_meet _) ?_)
                    refine R.any1 9 (by kernel_rfl) (by kernel_rfl) ?_
                    refine R.app (eV eI 2 1) LO [(v17, rowT (hyJ xs x) xs.length y)] 5 22 1 24 (by kernel_rfl) eV_one (by decide) (by first | omega | (simp <;> omega)) (by kernel_rfl) ?_
                    refine R.go 1 (R.any1 11 (by kernel_rfl) (by kernel_rfl) ?_)
                    refine R.go 2 (R.anyA 12 (.ptr 3 1) (by kernel_rfl) (np_meet _) ?_)
                    refine R.any1 13 (by kernel_rfl) (by kernel_rfl) ?_
                    refine R.go 2 (R.any0 (by kernel_rfl) ?_)
                    exact R.met (by kernel_rfl) (by kernel_rfl)
                · refine R.lit (s := 1) (n := 1) (cs := rows (eV eI 2 1) [(v17, rowT (hyJ xs x) xs.length y)]) (by kernel_rfl) (by kernel_rfl) ?_
                  refine R.go 1 (R.any1 1 (by kernel_rfl) (by kernel_rfl) ?_)
                  refine R.go 2 (R.any1 4 (by kernel_rfl) (by kernel_rfl) ?_)
                  refine R.app (eV eI 2 1) LA [(v12, rowT (hyM xs x) xs.length y)] 4 22 1 24 (by kernel_rfl) eV_one (by decide) (by first | omega | (simp <;> omega)) (by kernel_rfl) ?_
                  refine R.go 1 (R.anyA 10 (.ptr 3 0) (by kernel_rfl) (np_meet _) ?_)
                  refine R.any1 9 (by kernel_rfl) (by kernel_rfl) ?_
                  refine R.app (eV eI 2 1) LO [(v17, rowT (hyJ xs x) xs.length y)] 5 22 1 24 (by kernel_rfl) eV_one (by decide) (by first | omega | (simp <;> omega)) (by kernel_rfl) ?_
                  refine R.go 1 (R.any1 11 (by kernel_rfl) (by kernel_rfl) ?_)
                  refine R.go 2 (R.anyA 12 (.ptr 3 1) (by kernel_rfl) (np_meet _) ?_)
                  refine R.any1 13 (by kernel_rfl) (by kernel_rfl) ?_
                  refine R.go 2 (R.any0 (by kernel_rfl) ?_)
                  exact R.met (by kernel_rfl) (by kernel_rfl)
              · refine R.lit (s := 1) (n := 1) (cs := rows (eV eI 2 1) [(v17, rowT (hyJ xs x) xs.length y)]) (by kernel_rfl) (by kernel_rfl) ?_
                refine R.go 1 (R.any2 1 3 (by kernel_rfl) (by kernel_rfl) ?_ ?_)
                · refine R.go 2 (R.any1 3 (by kernel_rfl) (by kernel_rfl) ?_)
                  refine R.lit (s := 1) (n := 1) (cs := rows (eV eI 2 1) [(v12, rowT (hyM xs x) xs.length y)]) (by kernel_rfl) (by kernel_rfl) ?_
                  refine R.go 1 (R.any1 4 (by kernel_rfl) (by kernel_rfl) ?_)
                  refine R.app (eV eI 2 1) LA [(v12, rowT (hyM xs x) xs.length y)] 4 22 1 24 (by kernel_rfl) eV_one (by decide) (by first | omega | (simp <;> omega)) (by kernel_rfl) ?_
                  refine R.go 1 (R.anyA 10 (.ptr 3 0) (by kernel_rfl) (np_meet _) ?_)
                  refine R.any1 9 (by kernel_rfl) (by kernel_rfl) ?_
                  refine R.app (eV eI 2 1) LO [(v17, rowT (hyJ xs x) xs.length y)] 5 22 1 24 (by kernel_rfl) eV_one (by decide) (by first | omega | (simp <;> omega)) (by kernel_rfl) ?_
                  refine R.go 1 (R.any1 11 (by kernel_rfl) (by kernel_rfl) ?_)
                  refine R.go 2 (R.anyA 12 (.ptr 3 1) (by kernel_rfl) (np_meet _) ?_)
                  refine R.any1 13 (by kernel_rfl) (by kernel_rfl) ?_
                  refine R.go 2 (R.any0 (by kernel_rfl) ?_)
                  exact R.met (by kernel_rfl) (by kernel_rfl)
                · refine R.lit (s := 1) (n := 1) (cs := rows (eV eI 2 1) [(v12, rowT (hyM xs x) xs.length y)]) (by kernel_rfl) (by kernel_rfl) ?_
                  refine R.go 1 (R.any1 1 (by kernel_rfl) (by kernel_rfl) ?_)
                  refine R.go 2 (R.any1 4 (by kernel_rfl) (by kernel_rfl) ?_)
                  refine R.app (eV eI 2 1) LA [(v12, rowT (hyM xs x) xs.length y)] 4 22 1 24 (by kernel_rfl) eV_one (by decide) (by first | omega | (simp <;> omega)) (by kernel_rfl) ?_
                  refine R.go 1 (R.anyA 10 (.ptr 3 0) (by kernel_rfl) (np_meet _) ?_)
                  refine R.any1 9 (by kernel_rfl) (by kernel_rfl) ?_
                  refine R.app (eV eI 2 1) LO [(v17, rowT (hyJ xs x) xs.length y)] 5 22 1 24 (by kernel_rfl) eV_one (by decide) (by first | omega | (simp <;> omega)) (by kernel_rfl) ?_
                  refine R.go 1 (R.any1 11 (by kernel_rfl) (by kernel_rfl) ?_)
                  refine R.go 2 (R.anyA 12 (.ptr 3 1) (by kernel_rfl) (np_meet _) ?_)
                  refine R.any1 13 (by kernel_rfl) (by kernel_rfl) ?_
                  refine R.go 2 (R.any0 (by kernel_rfl) ?_)
                  exact R.met (by kernel_rfl) (by kernel_rfl)
            · refine R.lit (s := 1) (n := 1) (cs := rows (eV eI 2 1) [(v17, rowT (hyJ xs x) xs.length y)]) (by kernel_rfl) (by kernel_rfl) ?_
              refine R.go 1 (R.any3 1 3 6 (by kernel_rfl) (by kernel_rfl) ?_ ?_ ?_)
              · refine R.go 2 (R.any2 3 6 (by kernel_rfl) (by kernel_rfl) ?_ ?_)
                · refine R.lit (s := 1) (n := 1) (cs := rows (eV eI 2 1) [(v12, rowT (hyM xs x) xs.length y)]) (by kernel_rfl) (by kernel_rfl) ?_
                  refine R.go 1 (R.any2 4 6 (by kernel_rfl) (by kernel_rfl) ?_ ?_)
                  · refine R.app (eV eI 2 1) LA [(v12, rowT (hyM xs x) xs.length y)] 4 22 1 24 (by kernel_rfl) eV_one (by decide) (by first | omega | (simp <;> omega)) (by kernel_rfl) ?_
                    refine R.go 1 (R.any1 6 (by kernel_rfl) (by kernel_rfl) ?_)
                    refine R.go 2 (R.anyA 10 (.ptr 3 0) (by kernel_rfl) (np_meet _) ?_)
                    refine R.any1 9 (by kernel_rfl) (by kernel_rfl) ?_
                    refine R.app (eV eI 2 1) LO [(v17, rowT (hyJ xs x) xs.length y)] 5 22 1 24 (by kernel_rfl) eV_one (by decide) (by first | omega | (simp <;> omega)) (by kernel_rfl) ?_
                    refine R.go 1 (R.any1 11 (by kernel_rfl) (by kernel_rfl) ?_)
                    refine R.go 2 (R.anyA 12 (.ptr 3 1) (by kernel_rfl) (np_meet _) ?_)
                    refine R.any1 13 (by kernel_rfl) (by kernel_rfl) ?_
                    refine R.go 2 (R.any0 (by kernel_rfl) ?_)
                    exact R.met (by kernel_rfl) (by kernel_rfl)
                  · refine R.go 2 (R.any1 4 (by kernel_rfl) (by kernel_rfl) ?_)
                    refine R.app (eV eI 2 1) LA [(v12, rowT (hyM xs x) xs.length y)] 4 22 1 24 (by kernel_rfl) eV_one (by decide) (by first | omega | (simp <;> omega)) (by kernel_rfl) ?_
                    refine R.go 1 (R.anyA 10 (.ptr 3 0) (by kernel_rfl) (np_meet _) ?_)
                    refine R.any1 9 (by kernel_rfl) (by kernel_rfl) ?_
                    refine R.app (eV eI 2 1) LO [(v17, rowT (hyJ xs x) xs.length y)] 5 22 1 24 (by kernel_rfl) eV_one (by decide) (by first | omega | (simp <;> omega)) (by kernel_rfl) ?_
                    refine R.go 1 (R.any1 11 (by kernel_rfl) (by kernel_rfl) ?_)
                    refine R.go 2 (R.anyA 12 (.ptr 3 1) (by kernel_rfl) (np_meet _) ?_)
                    refine R.any1 13 (by kernel_rfl) (by kernel_rfl) ?_
                    refine R.go 2 (R.any0 (by kernel_rfl) ?_)
                    exact R.met (by kernel_rfl) (by kernel_rfl)
                · refine R.go 2 (R.any1 3 (by kernel_rfl) (by kernel_rfl) ?_)
                  refine R.lit (s := 1) (n := 1) (cs := rows (eV eI 2 1) [(v12, rowT (hyM xs x) xs.length y)]) (by kernel_rfl) (by kernel_rfl) ?_
                  refine R.go 1 (R.any1 4 (by kernel_rfl) (by kernel_rfl) ?_)
                  refine R.app (eV eI 2 1) LA [(v12, rowT (hyM xs x) xs.length y)] 4 22 1 24 (by kernel_rfl) eV_one (by decide) (by first | omega | (simp <;> omega)) (by kernel_rfl) ?_
                  refine R.go 1 (R.anyA 10 (.ptr 3 0) (by kernel_rfl) (np_meet _) ?_)
                  refine R.any1 9 (by kernel_rfl) (by kernel_rfl) ?_
                  refine R.app (eV eI 2 1) LO [(v17, rowT (hyJ xs x) xs.length y)] 5 22 1 24 (by kernel_rfl) eV_one (by decide) (by first | omega | (simp <;> omega)) (by kernel_rfl) ?_
                  refine R.go 1 (R.any1 11 (by kernel_rfl) (by kernel_rfl) ?_)
                  refine R.go 2 (R.anyA 12 (.ptr 3 1) (by kernel_rfl) (np_meet _) ?_)
                  refine R.any1 13 (by kernel_rfl) (by kernel_rfl) ?_
                  refine R.go 2 (R.any0 (by kernel_rfl) ?_)
                  exact R.met (by kernel_rfl) (by kernel_rfl)
              · refine R.lit (s := 1) (n := 1) (cs := rows (eV eI 2 1) [(v12, rowT (hyM xs x) xs.length y)]) (by kernel_rfl) (by kernel_rfl) ?_
                refine R.go 1 (R.any2 1 6 (by kernel_rfl) (by kernel_rfl) ?_ ?_)
                · refine R.go 2 (R.any2 4 6 (by kernel_rfl) (by kernel_rfl) ?_ ?_)
                  · refine R.app (eV eI 2 1) LA [(v12, rowT (hyM xs x) xs.length y)] 4 22 1 24 (by kernel_rfl) eV_one (by decide) (by first | omega | (simp <;> omega)) (by kernel_rfl) ?_
                    refine R.go 1 (R.any1 6 (by kernel_rfl) (by kernel_rfl) ?_)
                    refine R.go 2 (R.anyA 10 (.ptr 3 0) (by kernel_rfl) (np_meet _) ?_)
                    refine R.any1 9 (by kernel_rfl) (by kernel_rfl) ?_
                    refine R.app (eV eI 2 1) LO [(v17, rowT (hyJ xs x) xs.length y)] 5 22 1 24 (by kernel_rfl) eV_one (by decide) (by first | omega | (simp <;> omega)) (by kernel_rfl) ?_
                    refine R.go 1 (R.any1 11 (by kernel_rfl) (by kernel_rfl) ?_)
                    refine R.go 2 (R.anyA 12 (.ptr 3 1) (by kernel_rfl) (np_meet _) ?_)
                    refine R.any1 13 (by kernel_rfl) (by kernel_rfl) ?_
                    refine R.go 2 (R.any0 (by kernel_rfl) ?_)
                    exact R.met (by kernel_rfl) (by kernel_rfl)
                  · refine R.go 2 (R.any1 4 (by kernel_rfl) (by kernel_rfl) ?_)
                    refine R.app (eV eI 2 1) LA [(v12, rowT (hyM xs x) xs.length y)] 4 22 1 24 (by kernel_rfl) eV_one (by decide) (by first | omega | (simp <;> omega)) (by kernel_rfl) ?_
                    refine R.go 1 (R.anyA 10 (.ptr 3 0) (by kernel_rfl) (np_meet _) ?_)
                    refine R.any1 9 (by kernel_rfl) (by kernel_rfl) ?_
                    refine R.app (eV eI 2 1) LO [(v17, rowT (hyJ xs x) xs.length y)] 5 22 1 24 (by kernel_rfl) eV_one (by decide) (by first | omega | (simp <;> omega)) (by kernel_rfl) ?_
                    refine R.go 1 (R.any1 11 (by kernel_rfl) (by kernel_rfl) ?_)
                    refine R.go 2 (R.anyA 12 (.ptr 3 1) (by kernel_rfl) (np_meet _) ?_)
                    refine R.any1 13 (by kernel_rfl) (by kernel_rfl) ?_
                    refine R.go 2 (R.any0 (by kernel_rfl) ?_)
                    exact R.met (by kernel_rfl) (by kernel_rfl)
                · refine R.go 2 (R.any1 1 (by kernel_rfl) (by kernel_rfl) ?_)
                  refine R.go 2 (R.any1 4 (by kernel_rfl) (by kernel_rfl) ?_)
                  refine R.app (eV eI 2 1) LA [(v12, rowT (hyM xs x) xs.length y)] 4 22 1 24 (by kernel_rfl) eV_one (by decide) (by first | omega | (simp <;> omega)) (by kernel_rfl) ?_
                  refine R.go 1 (R.anyA 10 (.ptr 3 0) (by kernel_rfl) (np_meet _) ?_)
                  refine R.any1 9 (by kernel_rfl) (by kernel_rfl) ?_
                  refine R.app (eV eI 2 1) LO [(v17, rowT (hyJ xs x) xs.length y)] 5 22 1 24 (by kernel_rfl) eV_one (by decide) (by first | omega | (simp <;> omega)) (by kernel_rfl) ?_
                  refine R.go 1 (R.any1 11 (by kernel_rfl) (by kernel_rfl) ?_)
                  refine R.go 2 (R.anyA 12 (.ptr 3 1) (by kernel_rfl) (np_meet _) ?_)
                  refine R.any1 13 (by kernel_rfl) (by kernel_rfl) ?_
                  refine R.go 2 (R.any0 (by kernel_rfl) ?_)
                  exact R.met (by kernel_rfl) (by kernel_rfl)
              · refine R.go 2 (R.any2 1 3 (by kernel_rfl) (by kernel_rfl) ?_ ?_)
                · refine R.go 2 (R.any1 3 (by kernel_rfl) (by kernel_rfl) ?_)
                  refine R.lit (s := 1) (n := 1) (cs := rows (eV eI 2 1) [(v12, rowT (hyM xs x) xs.length y)]) (by kernel_rfl) (by kernel_rfl) ?_
                  refine R.go 1 (R.any1 4 (by kernel_rfl) (by kernel_rfl) ?_)
                  refine R.app (eV eI 2 1) LA [(v12, rowT (hyM xs x) xs.length y)] 4 22 1 24 (by kernel_rfl) eV_one (by decide) (by first | omega | (simp <;> omega)) (by kernel_rfl) ?_
                  refine R.go 1 (R.anyA 10 (.ptr 3 0) (by kernel_rfl) (np_meet _) ?_)
                  refine R.any1 9 (by kernel_rfl) (by kernel_rfl) ?_
                  refine R.app (eV eI 2 1) LO [(v17, rowT (hyJ xs x) xs.length y)] 5 22 1 24 (by kernel_rfl) eV_one (by decide) (by first | omega | (simp <;> omega)) (by kernel_rfl) ?_
                  refine R.go 1 (R.any1 11 (by kernel_rfl) (by kernel_rfl) ?_)
                  refine R.go 2 (R.anyA 12 (.ptr 3 1) (by kernel_rfl) (np_meet _) ?_)
                  refine R.any1 13 (by kernel_rfl) (by kernel_rfl) ?_
                  refine R.go 2 (R.any0 (by kernel_rfl) ?_)
                  exact R.met (by kernel_rfl) (by kernel_rfl)
                · refine R.lit (s := 1) (n := 1) (cs := rows (eV eI 2 1) [(v12, rowT (hyM xs x) xs.length y)]) (by kernel_rfl) (by kernel_rfl) ?_
                  refine R.go 1 (R.any1 1 (by kernel_rfl) (by kernel_rfl) ?_)
                  refine R.go 2 (R.any1 4 (by kernel_rfl) (by kernel_rfl) ?_)
                  refine R.app (eV eI 2 1) LA [(v12, rowT (hyM xs x) xs.length y)] 4 22 1 24 (by kernel_rfl) eV_one (by decide) (by first | omega | (simp <;> omega)) (by kernel_rfl) ?_
                  refine R.go 1 (R.anyA 10 (.ptr 3 0) (by kernel_rfl) (np_meet _) ?_)
                  refine R.any1 9 (by kernel_rfl) (by kernel_rfl) ?_
                  refine R.app (eV eI 2 1) LO [(v17, rowT (hyJ xs x) xs.length y)] 5 22 1 24 (by kernel_rfl) eV_one (by decide) (by first | omega | (simp <;> omega)) (by kernel_rfl) ?_
                  refine R.go 1 (R.any1 11 (by kernel_rfl) (by kernel_rfl) ?_)
                  refine R.go 2 (R.anyA 12 (.ptr 3 1) (by kernel_rfl) (np_meet _) ?_)
                  refine R.any1 13 (by kernel_rfl) (by kernel_rfl) ?_
                  refine R.go 2 (R.any0 (by kernel_rfl) ?_)
                  exact R.met (by kernel_rfl) (by kernel_rfl)
          · refine R.go 2 (R.ar ((x : Int) + 1) (by kernel_rfl) (by omega) (by omega) (by kernel_rfl) ?_)
            exact R.go 2 (R.stop R2 (by kernel_rfl) (N3 (x + 1, LA ++ [(v12, rowT (hyM xs x) xs.length y)], LO ++ [(v17, rowT (hyJ xs x) xs.length y)]) [0, 2, 4, 6, 7, 45, 46] (some [0, 1, 2, 3, 4, 5]) _ (by kernel_rfl) (by kernel_rfl) ⟨(by omega), (by exact NL.snoc (by assumption) (by assumption) (by assumption)), (by exact NL.snoc (by assumption) (by assumption) (by assumption)), (by exact NX.snoc (by assumption) (by assumption) (by assumption) (by assumption)), (by rw [map1V ‹LA.map Prod.snd = _›, rowT_end (by omega)]; exact tabR_snoc), (by rw [map1V ‹LO.map Prod.snd = _›, rowT_end (by omega)]; exact tabR_snoc)⟩ (by show (xs.length - (x + 1)) < (xs.length - x); omega)))
    · refine R.go 8 (R.nilB 3 2 22 1 (by kernel_rfl) ?_)
      refine R.loop ((fun | (u, LJ) => (⟨(frm 184 [(0, LI xs), (2, .ptr 1 0), (4, AI xs.length), (6, .ref 2), (7, .ptr 3 0), (112, AI xs.length), (113, AI (u : Int))]), [.inert (.base b), .box 28 [.nil, .nil, .nil, AI 0, AI 0], rowA eI 2 1 (invA xs xs.length), .box 28 [.ref 4, .ref 5, .ref 6, AI 0, AI 0], rowA (eV eI 2 1) 22 1 LA, rowA (eV eI 2 1) 22 1 LO, rowA (eV eI 2 1) 22 1 LJ]⟩ : St) : Nat × (List (Value × List Int)) → St)) (fun | (u, LJ) => (u ≤ xs.length) ∧ (NL b LJ) ∧ (NX LA LJ) ∧ (NX LO LJ) ∧ (LJ.map Prod.snd = tabR (hyI xs) xs.length u)) (fun | (u, LJ) => xs.length - u) (0, []) [0, 2, 4, 6, 7, 112, 113] none (by kernel_rfl) (by kernel_rfl) (by kernel_rfl) ⟨(by omega), (by exact NL.nil), (by exact NX.nil'), (by exact NX.nil'), (by rfl)⟩ ?_
      rintro ⟨u, LJ⟩ ⟨h26_1, h26_2, h26_3, h26_4, h26_5⟩ R23 N24
      have hlj := tabV_len ‹LJ.map Prod.snd = _›
      refine R.go 5 (R.cond ((u : Int) < (xs.length : Int)) (by kernel_rfl) (fun c27 => ?_) (fun c27 => ?_))
      · refine R.go 11 (R.mk eI 0 2 8 xs.length xs.length (by kernel_rfl) rfl (by decide) (by omega) (by kernel_rfl) ?_)
        refine R.go 9 (R.loop ((fun | (w, C) => (⟨(frm 184 [(0, LI xs), (2, .ptr 1 0), (4, AI xs.length), (6, .ref 2), (7, .ptr 3 0), (14, AI (u : Int)), (15, .ref 7), (112, AI xs.length), (113, AI (u : Int)), (118, AI xs.length), (119, AI (w : Int))]), [.inert (.base b), .box 28 [.nil, .nil, .nil, AI 0, AI 0], rowA eI 2 1 (invA xs xs.length), .box 28 [.ref 4, .ref 5, .ref 6, AI 0, AI 0], rowA (eV eI 2 1) 22 1 LA, rowA (eV eI 2 1) 22 1 LO, rowA (eV eI 2 1) 22 1 LJ, rowA eI 2 1 C]⟩ : St) : Nat × (List Int) → St)) (fun | (w, C) => (w ≤ xs.length) ∧ (C = rowT (hyI xs u) xs.length w)) (fun | (w, C) => xs.length - w) (0, (List.replicate xs.length 0)) [0, 2, 4, 6, 7, 14, 15, 112, 113, 118, 119] none (by kernel_rfl) (by kernel_rfl) (by kernel_rfl) ⟨(by omega), (by exact rowT_zero)⟩ ?_)
        rintro ⟨w, C⟩ ⟨h31_1, rfl⟩ R28 N29
        have hCl := rowT_len (hyI xs u) xs.length w
        refine R.go 5 (R.cond ((w : Int) < (xs.length : Int)) (by kernel_rfl) (fun c32 => ?_) (fun c32 => ?_))
        · refine R.go 19 (R.loop ((fun | (z, cm) => (⟨(frm 184 [(0, LI xs), (2, .ptr 1 0), (4, AI xs.length), (6, .ref 2), (7, .ptr 3 0), (14, AI (u : Int)), (15, .ref 7), (16, AI (w : Int)), (17, AI cm), (112, AI xs.length), (113, AI (u : Int)), (118, AI xs.length), (119, AI (w : Int)), (122, AI xs.length), (123, AI (z : Int))]), [.inert (.base b), .box 28 [.nil, .nil, .nil, AI 0, AI 0], rowA eI 2 1 (invA xs xs.length), .box 28 [.ref 4, .ref 5, .ref 6, AI 0, AI 0], rowA (eV eI 2 1) 22 1 LA, rowA (eV eI 2 1) 22 1 LO, rowA (eV eI 2 1) 22 1 LJ, rowA eI 2 1 (rowT (hyI xs u) xs.length w)]⟩ : St) : Nat × Int → St)) (fun | (z, cm) => (z ≤ xs.length) ∧ (cm = hyC xs u w z)) (fun | (z, cm) => xs.length - z) (0, 0) [0, 2, 4, 6, 7, 14, 15, 16, 17, 112, 113, 118, 119, 122, 123] none (by kernel_rfl) (by kernel_rfl) (by kernel_rfl) ⟨(by omega), (by rfl)⟩ ?_)
          rintro ⟨z, cm⟩ ⟨h36_1, rfl⟩ R33 N34
          refine R.go 5 (R.cond ((z : Int) < (xs.length : Int)) (by kernel_rfl) (fun c37 => ?_) (fun c37 => ?_))
          · have hzx : x = xs.length := by omega
            have hat := tabV_at (i := z) (j := u) ‹LA.map Prod.snd = _› (by omega) (by omega)
            have hva := hat.1
            have hvl := hat.2
            have hvr := hyM_rng hH (x := z) (y := u) (by omega) (by omega)
            have hbw := hbi w (by omega)
            refine R.go 12 (R.idxO 2 1 (invA xs xs.length).length w (w : Int) (by kernel_rfl) rfl (by omega) (by kernel_rfl) ?_)
            refine R.ldI (invA xs xs.length) w (by kernel_rfl) (by omega) (by kernel_rfl) ?_
            refine R.go 3 (R.idxO 4 1 LA.length z (z : Int) (by kernel_rfl) rfl (by omega) (by kernel_rfl) ?_)
            refine R.ldE (eV eI 2 1) 1 0 LA (.bool false, []) z (.nam ((LA.getD z (.bool false, [])).1) (some 2) 1 ((LA.getD z (.bool false, [])).2).length (rows eI ((LA.getD z (.bool false, [])).2))) (by kernel_rfl) eV_len (by omega) rfl (by kernel_rfl) ?_
            refine R.go 1 (R.idxV eI ((LA.getD z (.bool false, [])).2) 0 u (u : Int) (by kernel_rfl) rfl eI_len (by first | omega | (simp only [List.length_set]; omega) | (simp <;> omega)) (by kernel_rfl) ?_)
            refine R.go 1 (R.call true (has_c ((invA xs xs.length).getD w 0) (((LA.getD z (.bool false, [])).2).getD u 0) (by omega)) (by kernel_rfl) rfl (by kernel_rfl) ?_)
            refine R.go 1 (R.cond (band (shr64 ((invA xs xs.length).getD w 0) (((LA.getD z (.bool false, [])).2).getD u 0)) 1 = 1) (by kernel_rfl) (fun c38 => ?_) (fun c38 => ?_))
            · refine R.go 3 (R.shl 1 (z : Int) (by kernel_rfl) (by omega) (by kernel_rfl) ?_)
              refine R.go 5 (R.ar ((z : Int) + 1) (by kernel_rfl) (by omega) (by omega) (by kernel_rfl) ?_)
              exact R.go 2 (R.stop R33 (by kernel_rfl) (N34 (z + 1, bor (hyC xs u w z) (shl64 1 (z : Int))) [0, 2, 4, 6, 7, 14, 15, 16, 17, 112, 113, 118, 119, 122, 123] none _ (by kernel_rfl) (by kernel_rfl) ⟨(by omega), (by first | exact hyC_yes hH (by omega) (by omega) (by omega) hva (by assumption) | exact hyC_no hH (by omega) (by omega) (by omega) hva (by assumption))⟩ (by show (xs.length - (z + 1)) < (xs.length - z); omega)))
            · refine R.go 3 (R.ar ((z : Int) + 1) (by kernel_rfl) (by omega) (by omega) (by kernel_rfl) ?_)
              exact R.go 2 (R.stop R33 (by kernel_rfl) (N34 (z + 1, hyC xs u w z) [0, 2, 4, 6, 7, 14, 15, 16, 17, 112, 113, 118, 119, 122, 123] none _ (by kernel_rfl) (by kernel_rfl) ⟨(by omega), (by first | exact hyC_yes hH (by omega) (by omega) (by omega) hva (by assumption) | exact hyC_no hH (by omega) (by omega) (by omega) hva (by assumption))⟩ (by show (xs.length - (z + 1)) < (xs.length - z); omega)))
          · have hcz := hyC_in hH u w (z := z) (by omega)
            have hcz' : InM (invA xs xs.length).length (hyC xs u w z) := by rw [hil]; exact hcz
            have hcl := hH.im u w (by omega) (by omega)
            have hcb : lowB (invA xs xs.length) (hyC xs u w z) = true := by rw [show z = xs.length by omega]; exact lowB_of hcl
            refine R.go 5 (R.call false (greatest_c (hyC xs u w z) (invA xs xs.length) (by first | omega | (simp <;> omega)) (by assumption)) (by kernel_rfl) (by simp [AV.closed, closedL, AI]) (by kernel_rfl) ?_)
            refine R.go 12 (R.els (!(lowB (invA xs xs.length) (hyC xs u w z))) (by kernel_rfl) (bnF hcb) ?_)
            refine R.go 5 (R.idxO 7 1 (rowT (hyI xs u) xs.length w).length w (w : Int) (by kernel_rfl) rfl (by omega) (by kernel_rfl) ?_)
            refine R.stI 7 2 (rowT (hyI xs u) xs.length w) w (lowV (invA xs xs.length) (hyC xs u w z)) (by kernel_rfl) (by omega) (by kernel_rfl) ?_
            refine R.go 3 (R.ar ((w : Int) + 1) (by kernel_rfl) (by omega) (by omega) (by kernel_rfl) ?_)
            exact R.go 2 (R.stop R28 (by kernel_rfl) (N29 (w + 1, (rowT (hyI xs u) xs.length w).set w (lowV (invA xs xs.length) (hyC xs u w z))) [0, 2, 4, 6, 7, 14, 15, 112, 113, 118, 119] none _ (by kernel_rfl) (by kernel_rfl) ⟨(by omega), (by exact rowT_set (by omega) (by rw [show z = xs.length by omega]; exact lowV_of (hH.im u w (by omega) (by omega))))⟩ (by show (xs.length - (w + 1)) < (xs.length - w); omega)))
        · refine R.go 5 (R.pin 7 2 1 (rowT (hyI xs u) xs.length w).length (rows eI (rowT (hyI xs u) xs.length w)) (by kernel_rfl) (by kernel_rfl) ?_)
          intro v39 hn40
          have hb41 : ∀ g, blk v39 = some g → b ≤ g := newN_base hn40 0 (by kernel_rfl)
          have hr42 : ∀ u ∈ LA, ∀ g, blk v39 = some g → blk u.1 ≠ some g := newN_row (E := eI) (el := 2) (s := 1) (e := 22) (n := LA.length) hn40 4 LA (by kernel_rfl)
          have hr43 : ∀ u ∈ LO, ∀ g, blk v39 = some g → blk u.1 ≠ some g := newN_row (E := eI) (el := 2) (s := 1) (e := 22) (n := LO.length) hn40 5 LO (by kernel_rfl)
          have hr44 : ∀ u ∈ LJ, ∀ g, blk v39 = some g → blk u.1 ≠ some g := newN_row (E := eI) (el := 2) (s := 1) (e := 22) (n := LJ.length) hn40 6 LJ (by kernel_rfl)
          clear hn40
          refine R.go 1 (R.app (eV eI 2 1) LJ [(v39, rowT (hyI xs u) xs.length w)] 6 22 1 24 (by kernel_rfl) eV_one (by decide) (by first | omega | (simp <;> omega)) (by kernel_rfl) ?_)
          refine R.go 5 (R.ar ((u : Int) + 1) (by kernel_rfl) (by omega) (by omega) (by kernel_rfl) ?_)
          exact R.go 2 (R.stop R23 (by kernel_rfl) (N24 (u + 1, LJ ++ [(v39, rowT (hyI xs u) xs.length w)]) [0, 2, 4, 6, 7, 112, 113] (some [0, 1, 2, 3, 4, 5, 6]) _ (by kernel_rfl) (by kernel_rfl) ⟨(by omega), (by exact NL.snoc (by assumption) (by assumption) (by assumption)), (by exact NX.snocR (by assumption) (by assumption)), (by exact NX.snocR (by assumption) (by assumption)), (by rw [map1V ‹LJ.map Prod.snd = _›, rowT_end (by omega)]; exact tabR_snoc)⟩ (by show (xs.length - (u + 1)) < (xs.length - u); omega)))
      · have hff : InM xs.length ((shl64 1 (xs.length : Int)) - 1) := hfl
        have hff' : InM (invA xs xs.length).length ((shl64 1 (xs.length : Int)) - 1) := by rw [hil]; exact hfl
        refine R.go 4 (R.shl 1 (xs.length : Int) (by kernel_rfl) (by omega) (by kernel_rfl) ?_)
        refine R.ar ((shl64 1 (xs.length : Int)) - 1) (by kernel_rfl) (by omega) (by omega) (by kernel_rfl) ?_
        refine R.go 1 (R.call true (greatest_c ((shl64 1 (xs.length : Int)) - 1) xs (by first | omega | (simp <;> omega)) hff) (by kernel_rfl) rfl (by kernel_rfl) ?_)
        refine R.go 9 (R.shl 1 (xs.length : Int) (by kernel_rfl) (by omega) (by kernel_rfl) ?_)
        refine R.ar ((shl64 1 (xs.length : Int)) - 1) (by kernel_rfl) (by omega) (by omega) (by kernel_rfl) ?_
        refine R.go 1 (R.call false (greatest_c ((shl64 1 (xs.length : Int)) - 1) (invA xs xs.length) (by first | omega | (simp <;> omega)) (by assumption)) (by kernel_rfl) (by simp [AV.closed, closedL, AI]) (by kernel_rfl) ?_)
        exact R.go 12 (R.retB (.tup [.agg [ownA (eV eI 2 1) 22 1 LA, ownA (eV eI 2 1) 22 1 LO, ownA (eV eI 2 1) 22 1 LJ, AI (lowV xs ((shl64 1 (xs.length : Int)) - 1)), AI (lowV (invA xs xs.length) ((shl64 1 (xs.length : Int)) - 1))], .bool true]) (by kernel_rfl) (by kernel_rfl) ⟨LA, LO, LJ, by first | rfl | (have e1 := lowV_of hH.bo; have e2 := lowV_of hH.to; unfold fullM at e1 e2; rw [e1, e2]; rfl) | (exfalso; omega), by first | (assumption) | (exfalso; omega), by first | (assumption) | (exfalso; omega), by first | (assumption) | (exfalso; omega), by first | (assumption) | (exfalso; omega), by first | (assumption) | (exfalso; omega), by first | (assumption) | (exfalso; omega), by first | (rw [‹LA.map Prod.snd = _›, show x = xs.length by omega]) | (exfalso; omega), by first | (rw [‹LO.map Prod.snd = _›, show x = xs.length by omega]) | (exfalso; omega), by first | (rw [‹LJ.map Prod.snd = _›, show u = xs.length by omega]) | (exfalso; omega)⟩)
theorem heytingOf_c_cl (xs : List Int) : ∀ (b : Nat) (r : AV), (fun (b : Nat) (r : AV) => ∃ LA : List (Value × List Int), ∃ LO : List (Value × List Int), ∃ LJ : List (Value × List Int), r = .tup [.agg [ownA (eV eI 2 1) 22 1 LA, ownA (eV eI 2 1) 22 1 LO, ownA (eV eI 2 1) 22 1 LJ, AI (lowF xs (fullM xs.length)), AI (lowF (invA xs xs.length) (fullM xs.length))], .bool true] ∧ (NL b LA) ∧ (NL b LO) ∧ (NL b LJ) ∧ (NX LA LO) ∧ (NX LA LJ) ∧ (NX LO LJ) ∧ (LA.map Prod.snd = tabR (hyM xs) xs.length xs.length) ∧ (LO.map Prod.snd = tabR (hyJ xs) xs.length xs.length) ∧ (LJ.map Prod.snd = tabR (hyI xs) xs.length xs.length)) b r → ClosedN b r := by
 rintro b r ⟨LA, LO, LJ, rfl, e0, e1, e2, e3, e4, e5, e6, e7, e8⟩
 exact (closedN_tup (closedNL_cons (closedN_agg (closedNL_cons (closedN_own _ e0 eI_closed) (closedNL_cons (closedN_own _ e1 eI_closed) (closedNL_cons (closedN_own _ e2 eI_closed) (closedNL_cons closedN_int (closedNL_cons closedN_int closedNL_nil)))))) (closedNL_cons closedN_bool closedNL_nil)))

end Go.Proofs.Ytalfakdiinhdnaa
