/- Texts of the proof: Q08, P05, P03, Q09, T01, SymZ, SymK, Sym2, SymL. -/
import Derived.Test.YtehbliocfpppoaaGreatPartF

/-! Valuations on frames; validity. -/
namespace Go.Proofs.YtehbliocfpppoaaGreat
open Go.RowKit Go.Abs
def VS (vs : List Int) : Prop := vs.Nodup ∧ ∀ v ∈ vs, 0 ≤ v ∧ v < 6
def vat (n : Int) (vs : List Int) (N : Int) (j : Nat) : Int := if (j : Int) ∈ vs then band (shr64 N (n * ((vs.length : Int) - 1 - (vs.idxOf (j : Int) : Int)))) ((shl64 1 n) - 1) else 0
def vrow (n : Int) (vs : List Int) (N : Int) : List Int := (List.range 6).map (vat n vs N)
theorem vrow_len (n : Int) (vs : List Int) (N : Int) : (vrow n vs N).length = 6 := by simp [vrow]
theorem vrow_get {n : Int} {vs : List Int} {N : Int} {j : Nat} (h : j < 6) : (vrow n vs N).getD j 0 = vat n vs N j := by
 simp [vrow, List.getD_eq_getElem?_getD, h]
theorem row_ext {X Y : List Int} (hx : X.length = 6) (hy : Y.length = 6) (h : ∀ j : Nat, j < 6 → X.getD j 0 = Y.getD j 0) : X = Y := by
 apply List.ext_getElem (by omega)
 intro j h1 h2
 have := h j (by omega)
 simpa [List.getD_eq_getElem?_getD, List.getElem?_eq_getElem h1, List.getElem?_eq_getElem h2] using this
theorem vs_get {vs : List Int} (h : VS vs) {k : Nat} (hk : k < vs.length) : vs.getD k 0 ∈ vs ∧ 0 ≤ vs.getD k 0 ∧ vs.getD k 0 < 6 ∧ vs.idxOf (vs.getD k 0) = k := by
 have e : vs.getD k 0 = vs[k] := by rw [List.getD_eq_getElem?_getD, List.getElem?_eq_getElem hk, Option.getD_some]
 have hm : vs.getD k 0 ∈ vs := by rw [e]; exact List.getElem_mem hk
 have := h.2 _ hm
 exact ⟨hm, this.1, this.2, by rw [e]; exact h.1.idxOf_getElem k hk⟩
def PV (n : Int) (vs : List Int) (N : Int) (k : Nat) (X : List Int) : Prop := X.length = 6 ∧ ∀ j : Nat, j < 6 → ((j : Int) ∈ vs.take k → X.getD j 0 = vat n vs N j) ∧ (¬ (j : Int) ∈ vs → X.getD j 0 = 0)
theorem pv_start {n : Int} {vs : List Int} {N : Int} {X : List Int} (hx : X.length = 6) (h : ∀ j : Nat, j < 6 → ¬ (j : Int) ∈ vs → X.getD j 0 = 0) : PV n vs N 0 X := ⟨hx, fun j hj => ⟨fun h => by simp at h, h j hj⟩⟩
theorem pv_step {n : Int} {vs : List Int} {N : Int} {X : List Int} {k : Nat} {v : Int} (h : PV n vs N k X) (hv : VS vs) (hk : k < vs.length) (he : v = band (shr64 N (n * ((vs.length : Int) - 1 - (k : Int)))) ((shl64 1 n) - 1)) : PV n vs N (k + 1) (X.set (vs.getD k 0).toNat v) := by
 obtain ⟨hm, h0, h6, hi⟩ := vs_get hv hk
 refine ⟨by rw [List.length_set]; exact h.1, fun j hj => ⟨fun hjm => ?_, fun hjn => ?_⟩⟩
 ·rw [getD_set_if _ _ _ _ _ (by rw [h.1]; omega)]
  by_cases e : (vs.getD k 0).toNat = j
  ·rw [if_pos e]
   have ej : (j : Int) = vs.getD k 0 := by omega
   rw [vat, if_pos (by rw [ej]; exact hm), ej, hi, he]
  ·rw [if_neg e]
   rw [List.take_succ_eq_append_getElem hk, List.mem_append, List.mem_singleton] at hjm
   rcases hjm with hjm | hjm
   ·exact (h.2 j hj).1 hjm
   ·exfalso
    apply e
    rw [List.getD_eq_getElem?_getD, List.getElem?_eq_getElem hk, Option.getD_some, ← hjm]
    omega
 ·rw [getD_set_if _ _ _ _ _ (by rw [h.1]; omega), if_neg (by rintro rfl; exact hjn (by rw [show ((vs.getD k 0).toNat : Int) = vs.getD k 0 by omega]; exact hm))]
  exact (h.2 j hj).2 hjn
theorem pv_end {n : Int} {vs : List Int} {N : Int} {X : List Int} {k : Nat} (h : PV n vs N k X) (hk : vs.length ≤ k) : X = vrow n vs N := by
 refine row_ext h.1 (vrow_len _ _ _) fun j hj => ?_
 rw [vrow_get hj]
 by_cases hm : (j : Int) ∈ vs
 ·exact (h.2 j hj).1 (by rw [List.take_of_length_le hk]; exact hm)
 ·rw [(h.2 j hj).2 hm, vat, if_neg hm]
theorem vrow_out {n : Int} {vs : List Int} {N : Int} (j : Nat) (hj : j < 6) (hm : ¬ (j : Int) ∈ vs) : (vrow n vs N).getD j 0 = 0 := by rw [vrow_get hj, vat, if_neg hm]
theorem zero_out (vs : List Int) (j : Nat) (_ : j < 6) (_ : ¬ (j : Int) ∈ vs) : (List.replicate 6 (0 : Int)).getD j 0 = 0 := by
 simp only [List.getD_eq_getElem?_getD, List.getElem?_replicate]
 split <;> rfl


def fstN (p : Nat → Bool) (t : Nat) : Option Nat := (List.range t).find? p
theorem fst_none {p : Nat → Bool} {t : Nat} (h : ∀ M, M < t → p M = false) : fstN p t = none := by
 rw [fstN, List.find?_eq_none]
 intro x hx
 rw [h x (by simpa using hx)]
 decide
theorem fst_some {p : Nat → Bool} {t N : Nat} (h : ∀ M, M < N → p M = false) (hp : p N = true) (ht : N < t) : fstN p t = some N := by
 rw [fstN, List.find?_eq_some_iff_append]
 refine ⟨hp, List.range N, (List.range t).drop (N + 1), ?_, fun x hx => by rw [h x (by simpa using hx)]; rfl⟩
 have h1 : (List.range t).take N = List.range N := by rw [List.take_range]; congr 1; omega
 have h2 : (List.range t).drop N = N :: (List.range t).drop (N + 1) := by
  rw [List.drop_eq_getElem_cons (by simpa using ht)]
  simp
 rw [← h1, ← h2, List.take_append_drop]
theorem below_succ {p : Nat → Bool} {N : Nat} (h : ∀ M, M < N → p M = false) (hp : p N = false) : ∀ M, M < N + 1 → p M = false := fun M hM => by
 by_cases e : M = N
 ·rw [e]; exact hp
 ·exact h M (by omega)
theorem VS_mem {m : Int} (hm : InM 6 m) : VS (mem m) := ⟨memN_nodup m 62, fun v hv => by have := mem_get hv hm; exact ⟨this.1, this.2.1⟩⟩
theorem VS_vmT {l : List (List (Int × Int))} (h : allF l = true) : VS (mem (vmT l l.length)) := VS_mem (inM6 (vmT_rng h _ (Nat.le_refl _)).1 (vmT_rng h _ (Nat.le_refl _)).2)
theorem allF_one {a : List (Int × Int)} (h : isF a = true) : allF [a] = true := by simp [allF, h]
theorem bor_zero {m : Int} (h : InM 6 m) : bor 0 m = m := by
 refine tb_ext (inM_bor (by decide) (inM_zero 6) h).1 h.1 fun i => ?_
 rw [tb_bor (by decide) (inM_zero 6) h, tb_zero, Bool.false_or]
theorem vmT_one {a : List (Int × Int)} (h : isF a = true) : vmT [a] [a].length = vmTo a a.length := by
 show bor 0 (vmTo a a.length) = _
 exact bor_zero (vm63 (isF_parts h).2.2.1)
def tv (n : Int) (xs vs : List Int) (a : List (Int × Int)) (N : Nat) : Int := gv (mT n) (mU n (bxB xs)) (vrow n vs (N : Int)) a
def badV (n : Int) (xs vs : List Int) (a : List (Int × Int)) (N : Nat) : Bool := !decide (tv n xs vs a N = (shl64 1 n) - 1)
theorem badV_no {n : Int} {xs vs Y : List Int} {a : List (Int × Int)} {N : Nat} (hX : Y = vrow n vs (N : Int)) (h : gv (mT n) (mU n (bxB xs)) Y a = (shl64 1 n) - 1) : badV n xs vs a N = false := by
 rw [badV, tv, ← hX, h]
 simp
theorem badV_yes {n : Int} {xs vs Y : List Int} {a : List (Int × Int)} {N : Nat} (hX : Y = vrow n vs (N : Int)) (h : ¬ gv (mT n) (mU n (bxB xs)) Y a = (shl64 1 n) - 1) : badV n xs vs a N = true := by
 rw [badV, tv, ← hX]
 simpa using h
def totN (n : Int) (vs : List Int) : Nat := (shl64 1 (n * (vs.length : Int))).toNat
def fstV (n : Int) (xs vs : List Int) (a : List (Int × Int)) : Option Nat := fstN (badV n xs vs a) (totN n vs)
theorem valuations_c (n : Int) (xs : List Int) (vs : List Int) : CallA Tryz.prog 132 [.agg [AI n, LI xs], LI vs] (.fn 200 [.rptr [LI vs], .rptr [AI n, LI xs]]) := by
 refine CallA.of Tryz.func132 rfl (by kernel_rfl) ?_
 refine R.go 11 (R.bx 1 (by kernel_rfl) ?_)
 refine R.bx 0 (by kernel_rfl) ?_
 exact R.retE (.fn 200 [.rptr [LI vs], .rptr [AI n, LI xs]]) (by kernel_rfl) (by kernel_rfl) (by rfl)
theorem variablesInG_c (l : List (List (Int × Int))) (vs : List Int) (hvs : vs = mem (vmT l l.length)) (hF : allF l = true) (hl : l.length ≤ 1000000000) : CallA Tryz.prog 65 [LLN l] (ownA eI 2 1 vs) := by rw [hvs]; exact variablesIn_c l hF hl
theorem isValid_c (n : Int) (xs : List Int) (a : List (Int × Int)) (hF : allF [a] = true) (hR : okFr n xs = true) (hfit : n * ((mem (vmT [a] [a].length)).length : Int) ≤ 16) (hl : a.length ≤ 1000000000) : CallA Tryz.prog 66 [.agg [AI n, LI xs], LN a] (.bool ((fstV n xs (mem (vmT [a] [a].length)) a).isNone)) := by
 obtain ⟨vs, hvs⟩ : ∃ vs, vs = mem (vmT [a] [a].length) := ⟨_, rfl⟩
 rw [← hvs] at hfit ⊢
 have hVS : VS vs := by rw [hvs]; exact VS_vmT hF
 have hRR := okFr_rel hR
 have hb0 : 0 ≤ n ∧ n ≤ 8 ∧ (xs.length : Int) = n := ⟨hRR.1, hRR.2.1, hRR.2.2.1⟩
 have hnc : 0 ≤ n * (vs.length : Int) := Int.mul_nonneg hb0.1 (by omega)
 have htot : shl64 1 (n * (vs.length : Int)) = (totN n vs : Int) := by have := shl_rng (n * (vs.length : Int)) hnc (by omega); unfold totN; omega
 have htr := shl_rng (n * (vs.length : Int)) hnc (by omega)
 have hvl : vs.length ≤ 62 := by rw [hvs]; exact mem_le _
 have hisF : isF a = true := by simpa using allF_get hF 0 (by simp)
 have hA := isF_okm hisF
 have hok : OKM 6 a := hA.1
 have hal : a.length ≤ 40 := hA.2
 refine CallA.of Tryz.func66 rfl (by kernel_rfl) (R.go 11 (R.lit (s := 1) (n := 1) (cs := rows eLN [a]) (by kernel_rfl) (by kernel_rfl) (k15 true (variablesInG_c [a] vs (by assumption) hF (by first | omega | (simp <;> omega))).frz (k15 true (valuations_c n xs vs) (R.go 2 (R.range (caps := [.rptr [LI vs], .rptr [AI n, LI xs]]) Tryz.func200 rfl (by kernel_rfl) (by kernel_rfl) ?_))))))
 intro D1 us2
 refine R.go 8 (k15 true (size_c vs) (R.go 7 (k1 (n * (vs.length : Int)) (R.shl 1 (n * (vs.length : Int)) (by kernel_rfl) (by omega) (by kernel_rfl) (R.go 3 (k16 ((fun | (N, X) => (⟨(frm 48 [(0, .ref 4), (1, .rptr [LI vs]), (2, .rptr [AI n, LI xs]), (4, .ref 5), (5, AI vs.length), (16, AI (shl64 1 (n * (vs.length : Int)))), (17, AI (N : Int))]), [.box 46 [AI n, LI xs], .box 40 [LN a], .box 4 [.bool false], .frame us2 (frm 19 [(0, .agg [AI n, LI xs]), (1, LN a), (2, .ptr 0 0), (3, .ptr 1 0), (4, .ptr 2 0), (6, .agg [AI n, LI xs]), (7, LN a), (8, LLN [a]), (9, LI vs), (10, .fn 200 [.rptr [LI vs], .rptr [AI n, LI xs]])]), loopObj Tryz.f66 D1 us2 .ready, rowA eI 2 1 X]⟩ : St) : Nat × (List Int) → St)) (fun | (N, X) => ((N : Int) ≤ shl64 1 (n * (vs.length : Int))) ∧ (X.length = 6) ∧ (∀ j : Nat, j < 6 → ¬ (j : Int) ∈ vs → X.getD j 0 = 0) ∧ (∀ M, M < N → badV n xs vs a M = false)) (fun | (N, X) => (totN n vs) - N) (0, (List.replicate 6 0)) [0, 1, 2, 4, 5, 16, 17] none ⟨(by omega), (by simp), (by exact zero_out vs), (by exact fun M hM => absurd hM (by omega))⟩ ?_))))))
 rintro ⟨N, X⟩ ⟨h6_1, h6_2, h6_3, h6_4⟩ R3 N4
 have hfull := shl_rng n hb0.1 (by omega)
 refine R.go 5 (k4 ((N : Int) < (shl64 1 (n * (vs.length : Int)))) (fun c7 => ?_) (fun c7 => ?_))
 ·refine R.go 16 (k16 ((fun | (k, Y) => (⟨(frm 48 [(0, .ref 4), (1, .rptr [LI vs]), (2, .rptr [AI n, LI xs]), (4, .ref 5), (5, AI vs.length), (6, AI (N : Int)), (16, AI (shl64 1 (n * (vs.length : Int)))), (17, AI (N : Int)), (20, LI vs), (21, AI vs.length), (22, AI (k : Int))]), [.box 46 [AI n, LI xs], .box 40 [LN a], .box 4 [.bool false], .frame us2 (frm 19 [(0, .agg [AI n, LI xs]), (1, LN a), (2, .ptr 0 0), (3, .ptr 1 0), (4, .ptr 2 0), (6, .agg [AI n, LI xs]), (7, LN a), (8, LLN [a]), (9, LI vs), (10, .fn 200 [.rptr [LI vs], .rptr [AI n, LI xs]])]), loopObj Tryz.f66 D1 us2 .ready, rowA eI 2 1 Y]⟩ : St) : Nat × (List Int) → St)) (fun | (k, Y) => (k ≤ vs.length) ∧ (PV n vs (N : Int) k Y)) (fun | (k, Y) => vs.length - k) (0, X) [0, 1, 2, 4, 5, 6, 16, 17, 20, 21, 22] none ⟨(by omega), (by exact pv_start (by assumption) (by assumption))⟩ ?_)
  rintro ⟨k, Y⟩ ⟨h11_1, h11_2⟩ R8 N9
  have hY : PV n vs (N : Int) k Y := by assumption
  have hYl : Y.length = 6 := hY.1
  have hg := fun h : k < vs.length => vs_get hVS h
  have hnk : k < vs.length → 0 ≤ n * ((vs.length : Int) - 1 - (k : Int)) ∧ n * ((vs.length : Int) - 1 - (k : Int)) ≤ n * (vs.length : Int) := fun h => ⟨Int.mul_nonneg hb0.1 (by omega), Int.mul_le_mul_of_nonneg_left (by omega) hb0.1⟩
  skip
  refine R.go 5 (k4 ((k : Int) < (vs.length : Int)) (fun c12 => ?_) (fun c12 => ?_))
  ·have hg2 := hg (by omega)
   have hnk2 := hnk (by omega)
   refine R.go 6 (k10 eI vs 0 k (k : Int) eI_len (R.go 11 (k1 ((vs.length : Int) - 1) (R.go 1 (k1 (((vs.length : Int) - 1) - (k : Int)) (k1 (n * (((vs.length : Int) - 1) - (k : Int))) (R.shr (N : Int) (n * (((vs.length : Int) - 1) - (k : Int))) (by kernel_rfl) (by omega) (by kernel_rfl) (R.go 1 (k15 true (frameAll_c n xs (by omega) (by omega)) (R.go 1 (k11 5 1 Y.length (((vs.getD k 0)).toNat) (vs.getD k 0) (k13 5 2 Y (((vs.getD k 0)).toNat) (band (shr64 (N : Int) (n * (((vs.length : Int) - 1) - (k : Int)))) ((shl64 1 n) - 1)) (R.go 3 (k1 ((k : Int) + 1) ?_))))))))))))))
   exact R.go 2 (k17 R8 (N9 (k + 1, Y.set (((vs.getD k 0)).toNat) (band (shr64 (N : Int) (n * (((vs.length : Int) - 1) - (k : Int)))) ((shl64 1 n) - 1))) [0, 1, 2, 4, 5, 6, 16, 17, 20, 21, 22] none _ (by kernel_rfl) (by kernel_rfl) ⟨(by omega), (by exact pv_step hY hVS (by omega) rfl)⟩ (by show (vs.length - (k + 1)) < (vs.length - k); omega)))
  have hX : Y = vrow n vs (N : Int) := pv_end hY (by omega)
  have hYo : OKM Y.length a := by rw [hYl]; exact hok
  refine R.go 5 (R.yield 4 D1 us2 (by kernel_rfl) (by kernel_rfl) ?_)
  intro l13 us14
  refine R.go 3 (R.begin (by kernel_rfl) (by kernel_rfl) (R.go 6 (k15 false (truthSet_c n xs Y a hYo (by omega) (by omega) (by first | omega | (simp <;> omega)) hl) (R.go 1 (k15 true (frameAll_c n xs (by omega) (by omega)) (R.go 2 (k5 ((gv (mT n) (mU n (bxB xs)) Y a) = ((shl64 1 n) - 1)) (fun c15 => ?_) (fun c15 => ?_))))))))
  ·refine R.go 4 (R.roundR (frm 48 [(0, .ref 4), (1, .rptr [LI vs]), (2, .rptr [AI n, LI xs]), (4, .ref 5), (5, AI vs.length), (6, AI (N : Int)), (16, AI (shl64 1 (n * (vs.length : Int)))), (17, AI (N : Int)), (20, LI vs), (21, AI vs.length), (22, AI (k : Int)), (23, .bool (decide ((k : Int) < (vs.length : Int)))), (43, .ref 4), (44, .ref 5)]) (by kernel_rfl) (by kernel_rfl) (by kernel_rfl) (R.go 3 (R.left (.ret) (.tup []) (frm 19 [(0, .agg [AI n, LI xs]), (1, LN a), (2, .ptr 0 0), (3, .ptr 1 0), (4, .ptr 2 0), (6, .agg [AI n, LI xs]), (7, LN a), (8, LLN [a]), (9, LI vs), (10, .fn 200 [.rptr [LI vs], .rptr [AI n, LI xs]])]) (by kernel_rfl) (by kernel_rfl) (by kernel_rfl) (by kernel_rfl) ?_)))
   exact k18 (.bool false) (by first | (apply congrArg AV.bool; first | (rw [fstV, fst_some (N := N) (show ∀ M, M < N → badV n xs vs a M = false by assumption) (badV_yes hX (by assumption)) (by omega)]; rfl) | (rw [fstV, fst_none (fun M hM => (show ∀ M, M < N → badV n xs vs a M = false by assumption) M (by omega))]; rfl)) | (exfalso; omega))
  refine R.go 2 (R.round (frm 48 [(0, .ref 4), (1, .rptr [LI vs]), (2, .rptr [AI n, LI xs]), (4, .ref 5), (5, AI vs.length), (6, AI (N : Int)), (16, AI (shl64 1 (n * (vs.length : Int)))), (17, AI (N : Int)), (20, LI vs), (21, AI vs.length), (22, AI (k : Int)), (23, .bool (decide ((k : Int) < (vs.length : Int)))), (43, .ref 4), (44, .ref 5)]) (by kernel_rfl) (by kernel_rfl) (by kernel_rfl) (R.go 6 (k1 ((N : Int) + 1) ?_)))
  exact R.go 2 (k17 R3 (N4 (N + 1, Y) [0, 1, 2, 4, 5, 16, 17] (some [0, 1, 2, 3, 4, 5]) _ (by kernel_rfl) (by kernel_rfl) ⟨(by omega), (by rw [hX]; exact vrow_len _ _ _), (by rw [hX]; exact vrow_out), (by exact below_succ (by assumption) (badV_no hX (by assumption)))⟩ (by show ((totN n vs) - (N + 1)) < ((totN n vs) - N); omega)))
 refine R.go 1 (R.over (.tup []) (frm 19 [(0, .agg [AI n, LI xs]), (1, LN a), (2, .ptr 0 0), (3, .ptr 1 0), (4, .ptr 2 0), (6, .agg [AI n, LI xs]), (7, LN a), (8, LLN [a]), (9, LI vs), (10, .fn 200 [.rptr [LI vs], .rptr [AI n, LI xs]])]) (by kernel_rfl) (by kernel_rfl) (by kernel_rfl) (by kernel_rfl) ?_)
 exact R.go 5 (k18 (.bool true) (by first | (apply congrArg AV.bool; first | (rw [fstV, fst_some (N := N) (show ∀ M, M < N → badV n xs vs a M = false by assumption) (badV_yes hX (by assumption)) (by omega)]; rfl) | (rw [fstV, fst_none (fun M hM => (show ∀ M, M < N → badV n xs vs a M = false by assumption) M (by omega))]; rfl)) | (exfalso; omega)))
end Go.Proofs.YtehbliocfpppoaaGreat

/-! Bits of meets, differences and boxes; truth sets stay within the worlds. -/
namespace Go.Proofs.YtehbliocfpppoaaGreat
open Go.RowKit Go.Abs
theorem tb_nat (a i : Nat) : tb (a : Int) i = a.testBit i := rfl
theorem inM_band {n : Nat} {a b : Int} (hn : n ≤ 61) (ha : InM n a) (hb : InM n b) : InM n (band a b) := by
 obtain ⟨a, rfl, ha'⟩ := inM_nat ha
 obtain ⟨b, rfl, hb'⟩ := inM_nat hb
 rw [band_nat (inM_62 hn ha') (inM_62 hn hb')]
 exact ⟨Int.natCast_nonneg _, by rw [Int.toNat_natCast]; exact Nat.and_lt_two_pow _ hb'⟩
theorem tb_band {n : Nat} {a b : Int} (hn : n ≤ 61) (ha : InM n a) (hb : InM n b) (i : Nat) : tb (band a b) i = (tb a i && tb b i) := by
 obtain ⟨a, rfl, ha'⟩ := inM_nat ha
 obtain ⟨b, rfl, hb'⟩ := inM_nat hb
 rw [band_nat (inM_62 hn ha') (inM_62 hn hb'), tb_nat, tb_nat, tb_nat, Nat.testBit_and]
theorem bnot_nat {a b : Nat} (ha : a < 2 ^ 62) (hb : b < 2 ^ 62) : ∃ c : Nat, bnot (a : Int) (b : Int) = (c : Int) ∧ c ≤ a ∧ ∀ i, c.testBit i = (a.testBit i && !b.testBit i) := by
 have hx : (BitVec.ofNat 64 a &&& ~~~ BitVec.ofNat 64 b).toNat ≤ a := by
  rw [BitVec.toNat_and, toNat_lt ha]
  exact Nat.and_le_left
 refine ⟨(BitVec.ofNat 64 a &&& ~~~ BitVec.ofNat 64 b).toNat, ?_, hx, fun i => ?_⟩
 ·rw [bnot_bv, bv_nat, bv_nat, toInt_lt (Nat.lt_of_le_of_lt hx ha)]
 ·rw [BitVec.testBit_toNat, BitVec.getLsbD_and, BitVec.getLsbD_not, BitVec.getLsbD_ofNat, BitVec.getLsbD_ofNat]
  by_cases hi : i < 64
  ·simp [hi]
  ·have h1 : a.testBit i = false := Nat.testBit_lt_two_pow (Nat.lt_of_lt_of_le ha (Nat.pow_le_pow_right (by decide) (by omega)))
   simp [hi, h1]
theorem inM_bnot {n : Nat} {a b : Int} (hn : n ≤ 61) (ha : InM n a) (hb : InM n b) : InM n (bnot a b) := by
 obtain ⟨a, rfl, ha'⟩ := inM_nat ha
 obtain ⟨b, rfl, hb'⟩ := inM_nat hb
 obtain ⟨c, h1, h2, _⟩ := bnot_nat (inM_62 hn ha') (inM_62 hn hb')
 rw [h1]
 exact ⟨Int.natCast_nonneg _, by rw [Int.toNat_natCast]; omega⟩
theorem tb_bnot {n : Nat} {a b : Int} (hn : n ≤ 61) (ha : InM n a) (hb : InM n b) (i : Nat) : tb (bnot a b) i = (tb a i && !tb b i) := by
 obtain ⟨a, rfl, ha'⟩ := inM_nat ha
 obtain ⟨b, rfl, hb'⟩ := inM_nat hb
 obtain ⟨c, h1, _, h3⟩ := bnot_nat (inM_62 hn ha') (inM_62 hn hb')
 rw [h1, tb_nat, tb_nat, tb_nat, h3]
theorem full_nat {n : Nat} (hn : n ≤ 61) : (shl64 1 (n : Int)) - 1 = ((2 ^ n - 1 : Nat) : Int) := by
 rw [shl_nat (by omega)]
 have := Nat.two_pow_pos n
 omega
theorem inM_full {n : Nat} (hn : n ≤ 61) : InM n ((shl64 1 (n : Int)) - 1) := by
 rw [full_nat hn]
 have := Nat.two_pow_pos n
 exact ⟨Int.natCast_nonneg _, by rw [Int.toNat_natCast]; omega⟩
theorem tb_full {n : Nat} (hn : n ≤ 61) (i : Nat) : tb ((shl64 1 (n : Int)) - 1) i = decide (i < n) := by
 rw [full_nat hn, tb_nat, Nat.testBit_two_pow_sub_one]
theorem inM_band_r {n : Nat} {a b : Int} (hn : n ≤ 61) (ha : InM 61 a) (hb : InM n b) : InM n (band a b) := by
 obtain ⟨a, rfl, ha'⟩ := inM_nat ha
 obtain ⟨b, rfl, hb'⟩ := inM_nat hb
 rw [band_nat (inM_62 (by decide) ha') (inM_62 hn hb')]
 exact ⟨Int.natCast_nonneg _, by rw [Int.toNat_natCast]; exact Nat.and_lt_two_pow _ hb'⟩
theorem boxB_ok {n : Nat} {xs : List Int} {m : Int} (hn : n ≤ 61) (h : RelOK n xs) (hm : InM n m) : ∀ i, i ≤ n → InM n (boxB xs m i) ∧ ∀ k, tb (boxB xs m i) k = true ↔ k < i ∧ ∀ j, tb (xs.getD k 0) j = true → tb m j = true
 | 0, _ => ⟨inM_zero n, fun k => by simp [boxB, tb_zero]⟩
 | i + 1, hi => by
  obtain ⟨h1, h2⟩ := boxB_ok hn h hm i (by omega)
  have hb := bnot_sub hn (h.2 i (by omega)) hm
  have hI := inM_one (n := n) hn (show i < n by omega)
  simp only [boxB]
  split
  ·rename_i hc
   refine ⟨inM_bor hn h1 hI, fun k => ?_⟩
   rw [tb_bor hn h1 hI, Bool.or_eq_true, h2 k, tb_one (by omega), decide_eq_true_iff]
   constructor
   ·rintro (⟨a, b⟩ | rfl)
    ·exact ⟨by omega, b⟩
    ·exact ⟨by omega, hb.1 hc⟩
   ·rintro ⟨a, b⟩
    by_cases hki : i = k
    ·exact .inr hki
    ·exact .inl ⟨by omega, b⟩
  ·rename_i hc
   refine ⟨h1, fun k => ?_⟩
   rw [h2 k]
   constructor
   ·rintro ⟨a, b⟩; exact ⟨by omega, b⟩
   ·rintro ⟨a, b⟩
    by_cases hki : k = i
    ·subst hki; exact absurd (hb.2 b) hc
    ·exact ⟨by omega, b⟩
end Go.Proofs.YtehbliocfpppoaaGreat

/-! Values of formulas that keep within a set; words that agree on a set. -/
namespace Go.Proofs.YtehbliocfpppoaaGreat
open Go.RowKit Go.Abs
section
variable {G : Int → Prop} {b : Int → Int → Int → Int} {u u' : Int → Int → Int} {vs : List Int}
theorem stkg_in (g0 : G 0) (hb : ∀ k p q, G p → G q → G (b k p q)) (hu : ∀ k p, (k = 5 ∨ k = 6) → G p → G (u k p) ∧ u k p = u' k p) :
  ∀ {l : List (Int × Int)} {o : Nat}, (∀ x ∈ l, 0 ≤ x.1 ∧ x.1 ≤ 6 ∧ (x.1 = 0 → G (vs.getD x.2.toNat 0))) → pe o l = some l.length → (∀ v ∈ stkG b u vs l, G v) ∧ stkG b u vs l = stkG b u' vs l
 | [], _, _, _ => ⟨fun v hv => by simp [stkG] at hv, rfl⟩
 | x :: l, 0, _, h => by rw [pe_zero] at h; cases h
 | x :: l, o + 1, hx, h => by
  obtain ⟨k, hk, h⟩ := pe_cons h
  have h' : pe (o + partsN x.1) l = some l.length := by rw [h]; congr 1; simpa using hk.symm
  obtain ⟨i1, i2⟩ := stkg_in g0 hb hu (fun y hy => hx y (List.mem_cons_of_mem _ hy)) h'
  obtain ⟨ws, w1, w2⟩ := stkg_parts b u vs (fun y hy => ⟨(hx y (List.mem_cons_of_mem _ hy)).1, (hx y (List.mem_cons_of_mem _ hy)).2.1⟩) h'
  have hw : stkG b u vs l = ws := by unfold stkG; rw [w2, List.append_nil]
  have hx0 := hx x (List.mem_cons_self ..)
  have e1 : ∀ f : Int → Int → Int, stkG b f vs (x :: l) = stepG b f vs x (stkG b f vs l) := fun _ => rfl
  rw [e1, e1, ← i2, hw]
  rw [hw] at i1
  have hc : x.1 = 0 ∨ x.1 = 1 ∨ (x.1 = 2 ∨ x.1 = 3 ∨ x.1 = 4) ∨ (x.1 = 5 ∨ x.1 = 6) := by omega
  rcases hc with hc | hc | hc | hc
  ·rw [stepG_var _ _ _ hc, stepG_var _ _ _ hc]
   exact ⟨fun v hv => by rcases List.mem_cons.1 hv with rfl | hv; exact hx0.2.2 hc; exact i1 v hv, rfl⟩
  ·rw [stepG_bot _ _ _ hc, stepG_bot _ _ _ hc]
   exact ⟨fun v hv => by rcases List.mem_cons.1 hv with rfl | hv; exact g0; exact i1 v hv, rfl⟩
  ·rw [(partsN_two _).2 hc] at w1
   match ws, w1, i1 with
   | p :: q :: ws, _, i1 =>
    rw [stepG_two _ _ _ hc, stepG_two _ _ _ hc]
    exact ⟨fun v hv => by rcases List.mem_cons.1 hv with rfl | hv; exact hb _ _ _ (i1 p (by simp)) (i1 q (by simp)); exact i1 v (by simp [hv]), rfl⟩
  ·rw [partsN_1 hc] at w1
   match ws, w1, i1 with
   | p :: ws, _, i1 =>
    rw [stepG_one _ _ _ hc, stepG_one _ _ _ hc]
    have hp := hu x.1 p hc (i1 p (by simp))
    exact ⟨fun v hv => by rcases List.mem_cons.1 hv with rfl | hv; exact hp.1; exact i1 v (by simp [hv]), by rw [hp.2]⟩
theorem gv_in {nv : Nat} {a : List (Int × Int)} (h : OKM nv a) (g0 : G 0) (hv : ∀ j : Nat, j < nv → G (vs.getD j 0)) (hb : ∀ k p q, G p → G q → G (b k p q)) (hu : ∀ k p, (k = 5 ∨ k = 6) → G p → G (u k p) ∧ u k p = u' k p) : G (gv b u vs a) ∧ gv b u vs a = gv b u' vs a := by
 obtain ⟨h1, h2⟩ := stkg_in (vs := vs) g0 hb hu (fun x hx => ⟨(h.2 x hx).1, (h.2 x hx).2.1, fun h0 => hv _ (by have := (h.2 x hx).2.2 h0; omega)⟩) h.1
 refine ⟨?_, by unfold gv; rw [h2]⟩
 have h3 : stkG b u vs a = [gv b u vs a] := by
  have := okm_stk b u vs h []
  simpa [stkG] using this
 exact h1 _ (by rw [h3]; simp)
end
end Go.Proofs.YtehbliocfpppoaaGreat

/-! Searches on frames: codes, valuations of the reference, first refutations, refuting worlds. -/
namespace Go.Proofs.YtehbliocfpppoaaGreat
open Go.RowKit Go.Abs
def scode (n : Int) (xs : List Int) (l : List (List (Int × Int))) : Int := if okFr n xs = true ∧ allF l = true then (if n * ((mem (vmT l l.length)).length : Int) > 16 then 3 else 0) else 1
theorem scode_1 {n : Int} {xs : List Int} {l : List (List (Int × Int))} (h : okFr n xs = false) : 1 = scode n xs l := by rw [scode, if_neg (by simp [h])]
theorem scode_2 {n : Int} {xs : List Int} {l : List (List (Int × Int))} (h : allF l = false) : 1 = scode n xs l := by rw [scode, if_neg (by simp [h])]
theorem scode_3 {n : Int} {xs : List Int} {l : List (List (Int × Int))} (h : okFr n xs = true) (h2 : allF l = true) (h3 : n * ((mem (vmT l l.length)).length : Int) > 16) : 3 = scode n xs l := by rw [scode, if_pos ⟨h, h2⟩, if_pos h3]
theorem scode_4 {n : Int} {xs : List Int} {l : List (List (Int × Int))} (h : okFr n xs = true) (h2 : allF l = true) (h3 : ¬ n * ((mem (vmT l l.length)).length : Int) > 16) : 0 = scode n xs l := by rw [scode, if_pos ⟨h, h2⟩, if_neg h3]
theorem scode_ok {n : Int} {xs : List Int} {l : List (List (Int × Int))} (h : scode n xs l = 0) : okFr n xs = true ∧ allF l = true ∧ n * ((mem (vmT l l.length)).length : Int) ≤ 16 := by
 unfold scode at h
 split at h
 ·rename_i h1
  split at h
  ·cases h
  ·exact ⟨h1.1, h1.2, by omega⟩
 ·cases h
theorem mul_mem {n : Int} (m : Int) (h0 : 0 ≤ n) (h8 : n ≤ 8) : 0 ≤ n * ((mem m).length : Int) ∧ n * ((mem m).length : Int) ≤ 496 := by
 have := mem_le m
 refine ⟨Int.mul_nonneg h0 (by omega), ?_⟩
 have := Int.mul_le_mul h8 (show ((mem m).length : Int) ≤ 62 by omega) (by omega) (by omega)
 omega
theorem searchCode_c (n : Int) (xs : List Int) (l : List (List (Int × Int))) (lx : xs.length ≤ 1000000000) (hs : shortL l) : CallA Tryz.prog 70 [.agg [AI n, LI xs], LLN l] (AI (scode n xs l)) := by
 refine CallA.of Tryz.func70 rfl (by kernel_rfl) (R.go 10 (k15 true (isFrame_c n xs lx) (R.go 2 ((Bool.eq_false_or_eq_true (okFr n xs)).elim (fun c1 => ?_) (fun c1 => ?_)))))
 ·refine k7 false (bnF c1) (R.go 1 (k7 false (bnF c1) (k15 true (areFormulas_c l hs) (k7 false (bnF c1) (R.go 1 (k9 false (bnF c1) (R.go 2 (k20 (allF l) (fun c2 => ?_) (fun c2 => ?_)))))))))
  ·exact R.go 4 (k18 (AI 1) (by first | (apply congrArg AI; first | exact scode_1 (by assumption) | exact scode_2 (by assumption) | exact scode_3 (by assumption) (by assumption) (by assumption) | exact scode_4 (by assumption) (by assumption) (by assumption)) | (exfalso; omega)))
  have hb0 := okFr_rel (by assumption : okFr n xs = true)
  have hmm := mul_mem (vmT l l.length) hb0.1 hb0.2.1
  have hll := hs.1
  refine R.go 5 (k15 true (variablesIn_c l c2 (by first | omega | (simp <;> omega))).frz (k15 true (size_c (mem (vmT l l.length))) (k1 (n * ((mem (vmT l l.length)).length : Int)) (R.go 3 (k4 ((n * ((mem (vmT l l.length)).length : Int)) > 16) (fun c3 => ?_) (fun c3 => ?_))))))
  ·exact R.go 4 (k18 (AI 3) (by first | (apply congrArg AI; first | exact scode_1 (by assumption) | exact scode_2 (by assumption) | exact scode_3 (by assumption) (by assumption) (by assumption) | exact scode_4 (by assumption) (by assumption) (by assumption)) | (exfalso; omega)))
  exact R.go 6 (k18 (AI 0) (by first | (apply congrArg AI; first | exact scode_1 (by assumption) | exact scode_2 (by assumption) | exact scode_3 (by assumption) (by assumption) (by assumption) | exact scode_4 (by assumption) (by assumption) (by assumption)) | (exfalso; omega)))
 iterate 3 refine k8 false (bnT c1) ?_
 refine k9 true (bnT c1) ?_
 exact R.go 7 (k18 (AI 1) (by first | (apply congrArg AI; first | exact scode_1 (by assumption) | exact scode_2 (by assumption) | exact scode_3 (by assumption) (by assumption) (by assumption) | exact scode_4 (by assumption) (by assumption) (by assumption)) | (exfalso; omega)))
theorem l02VariablesG_c (a : List (Int × Int)) (vs : List Int) (hvs : vs = mem (vmT [a] [a].length)) (hF : isF a = true) : CallA Tryz.prog 67 [LN a] (ownA eI 2 1 vs) := by
 rw [hvs, vmT_one hF]
 exact l02VariablesM_c a (isF_parts hF).2.2.1 (isF_parts hF).1
def vdB (n : Int) (xs : List Int) (a : List (Int × Int)) : Bool := decide (scode n xs [a] = 0) && (fstV n xs (mem (vmT [a] [a].length)) a).isNone
def frC (n : Int) (xs : List Int) (a : List (Int × Int)) : Int := if scode n xs [a] = 0 then (if (fstV n xs (mem (vmT [a] [a].length)) a).isSome = true then 0 else 4) else scode n xs [a]
theorem VO_impl (n : Int) (xs : List Int) (a : List (Int × Int)) (lx : xs.length ≤ 1048576) (hl : a.length ≤ 1048576) : CallA Tryz.prog 23 [.agg [AI n, LI xs], LN a] (.tup [.bool (vdB n xs a), AI (scode n xs [a])]) := by
 refine CallA.of Tryz.func23 rfl (by kernel_rfl) (R.go 11 (R.lit (s := 1) (n := 1) (cs := rows eLN [a]) (by kernel_rfl) (by kernel_rfl) (k15 true (searchCode_c n xs [a] (by first | omega | (simp <;> omega)) (by first | assumption | exact shortL_one (by omega))) (R.go 7 (k5 ((scode n xs [a]) = 0) (fun c1 => ?_) (fun c1 => ?_))))))
 ·exact R.go 6 (k18 (.tup [.bool false, AI (scode n xs [a])]) (by first | (refine tupB ?_ ?_ <;> first | (simp [vdB, *]; done) | (rw [vdB, hm]; rfl) | exact hm.symm) | (exfalso; omega)))
 have hm : scode n xs [a] = 0 := by assumption
 have hsc := scode_ok hm
 have hF : allF [a] = true := hsc.2.1
 have hR : okFr n xs = true := hsc.1
 have hfit : n * ((mem (vmT [a] [a].length)).length : Int) ≤ 16 := hsc.2.2
 refine R.go 5 (k15 true (isValid_c n xs a hF hR hfit (by first | omega | (simp <;> omega))) ?_)
 exact R.go 3 (k18 (.tup [.bool ((fstV n xs (mem (vmT [a] [a].length)) a).isNone), AI 0]) (by first | (refine tupB ?_ ?_ <;> first | (simp [vdB, *]; done) | (rw [vdB, hm]; rfl) | exact hm.symm) | (exfalso; omega)))
theorem nn_eq {n : Int} (h0 : 0 ≤ n) : ((n.toNat : Nat) : Int) = n := by omega
theorem mT_in {n : Int} (h0 : 0 ≤ n) (h8 : n ≤ 8) {k p q : Int} (hp : InM n.toNat p) (hq : InM n.toNat q) : InM n.toNat (mT n k p q) := by
 have hn : n.toNat ≤ 61 := by omega
 have hf := inM_full (n := n.toNat) hn
 rw [nn_eq h0] at hf
 unfold mT
 split
 ·exact inM_band hn hp hq
 ·split
  ·exact inM_bor hn hp hq
  ·exact inM_bor hn (inM_bnot hn hf hp) hq
theorem shr_inM {m : Int} (h : InM 61 m) (e : Int) : InM 61 (shr64 m e) := by
 obtain ⟨a, rfl, ha⟩ := inM_nat h
 unfold shr64
 rw [show ((2 : Int) ^ (min e.toNat 64)) = ((2 ^ (min e.toNat 64) : Nat) : Int) by simp, Int.fdiv_eq_ediv_of_nonneg _ (Int.natCast_nonneg _), ← Int.natCast_ediv]
 exact ⟨Int.natCast_nonneg _, by rw [Int.toNat_natCast]; exact Nat.lt_of_le_of_lt (Nat.div_le_self _ _) ha⟩
theorem vrow_in {n : Int} {vs : List Int} {N : Nat} (h0 : 0 ≤ n) (h8 : n ≤ 8) (hN : N ≤ 2305843009213693951) (j : Nat) (hj : j < 6) : InM n.toNat ((vrow n vs (N : Int)).getD j 0) := by
 rw [vrow_get hj, vat]
 have hf := inM_full (n := n.toNat) (by omega)
 rw [nn_eq h0] at hf
 split
 ·refine inM_band_r (by omega) (shr_inM (inM61 (by omega) (by omega)) _) hf
 ·exact inM_zero _
theorem totN_le {n : Int} {vs : List Int} (h : 0 ≤ n * (vs.length : Int) ∧ n * (vs.length : Int) ≤ 16) : (totN n vs : Int) ≤ 65536 := by
 have := shl_one (n * (vs.length : Int)) h.1 (by omega)
 have h4 : (2 : Nat) ^ (n * (vs.length : Int)).toNat ≤ 2 ^ 16 := Nat.pow_le_pow_right (by decide) (by omega)
 have h5 : (2 : Int) ^ (n * (vs.length : Int)).toNat = ((2 ^ (n * (vs.length : Int)).toNat : Nat) : Int) := by simp
 unfold totN
 omega
end Go.Proofs.YtehbliocfpppoaaGreat

/-! Truth by worlds; formulas by their parts. -/
namespace Go.Proofs.YtehbliocfpppoaaGreat
open Go.RowKit Go.Abs
section
variable (b : Int → Int → Int → Int) (u : Int → Int → Int) (vs : List Int)
end
theorem pe_app {o p n : Nat} : ∀ {l r : List (Int × Int)}, pe o l = some l.length → pe p r = some n → pe (o + p) (l ++ r) = some (l.length + n)
 | l, r, h1, h2 => by
  induction l generalizing o with
  | nil =>
   cases o with
   | zero => simpa using h2
   | succ o => cases h1
  | cons x l ih =>
   cases o with
   | zero => rw [pe_zero] at h1; simp at h1
   | succ o =>
    obtain ⟨k, hk, h1⟩ := pe_cons h1
    have hk : k = l.length := by simpa using hk.symm
    subst hk
    have := ih h1
    rw [show o + 1 + p = (o + p) + 1 by omega, List.cons_append, pe_succ, show o + p + partsN x.1 = o + partsN x.1 + p by omega, this]
    simp; omega
theorem okm_var {nv : Nat} {v : Int} (h0 : 0 ≤ v) (h1 : v < nv) : OKM nv [(0, v)] := ⟨rfl, fun x hx => by simp at hx; subst hx; exact ⟨Int.le_refl 0, by simp, fun _ => ⟨h0, h1⟩⟩⟩
theorem okm_bot {nv : Nat} (s : Int) : OKM nv [(1, s)] := ⟨rfl, fun x hx => by simp at hx; subst hx; exact ⟨by simp, by simp, fun h => by simp at h⟩⟩
theorem okm_mk2 {nv : Nat} {k s : Int} {L R : List (Int × Int)} (hk : k = 2 ∨ k = 3 ∨ k = 4) (hL : OKM nv L) (hR : OKM nv R) : OKM nv ((k, s) :: (L ++ R)) := by
 refine ⟨?_, fun x hx => ?_⟩
 ·rw [show (1 : Nat) = 0 + 1 from rfl, pe_succ, show partsN (k, s).1 = 2 from (partsN_two k).2 hk]
  rw [show 0 + 2 = 1 + 1 from rfl, pe_app hL.1 hR.1]
  simp
 ·rcases List.mem_cons.1 hx with rfl | hx
  ·exact ⟨by simp only; omega, by simp only; omega, fun h => by simp only at h; omega⟩
  ·rcases List.mem_append.1 hx with hx | hx
   ·exact hL.2 x hx
   ·exact hR.2 x hx
theorem okm_mk1 {nv : Nat} {k s : Int} {L : List (Int × Int)} (hk : k = 5 ∨ k = 6) (hL : OKM nv L) : OKM nv ((k, s) :: L) := by
 refine ⟨?_, fun x hx => ?_⟩
 ·rw [show (1 : Nat) = 0 + 1 from rfl, pe_succ, show partsN (k, s).1 = 1 from partsN_1 hk, show 0 + 1 = 1 from rfl, hL.1]
  simp
 ·rcases List.mem_cons.1 hx with rfl | hx
  ·exact ⟨by simp only; omega, by simp only; omega, fun h => by simp only at h; omega⟩
  ·exact hL.2 x hx

section
variable {n : Int} {xs X : List Int} (hR : okFr n xs = true) (hX : ∀ j : Nat, j < 6 → InM n.toNat (X.getD j 0))
include hR hX
end
end Go.Proofs.YtehbliocfpppoaaGreat

/-! The machine's rules: slices without spare room; ways that meet again. -/
namespace Go.Abs
open Go.RowKit Go.ChangeShapes Go.WideShapes Go.Deep
section
variable {rd : Option Nat} {P : Program} {m : M} {Q : Exit → St → Prop} {α : Type}


def exAt (m : M) (i : Nat) : Option AV :=
 match m.ks with
 | .any ops listed (_ + 1) :: _ => match ops[i]? with
  | some o => match o.op with
   | .extract x k => if o.guard.isNone && Region.noSelect ops && Region.free .any ops listed i && (Region.ready .any ops listed).contains i then (match ev m.st.fr x with | .tup cs => cs[k]? | _ => none) else none
   | _ => none
  | none => none
 | _ => none
def exM (i : Nat) (v : AV) (m : M) : M :=
 match m.ks with
 | .any ops listed n :: ks => match ops[i]? with
  | some o => ⟨.any ops (listed.setIfInBounds i true) (n - 1) :: ks, ⟨putF m.st.fr o.dst v, m.st.hp⟩⟩
  | none => m
 | _ => m
theorem R.anyX (i : Nat) (v : AV) (h : exAt m i = some v) (np : NoPanic Q) (h' : Runs none P (exM i v m) Q) : Runs none P m Q := by
 obtain ⟨ks, ⟨fr, hp⟩⟩ := m
 simp only [runs_iff] at h' ⊢
 unfold exAt at h
 simp only at h
 split at h
 ·rename_i ops listed n ks'
  split at h
  ·rename_i o ho
   split at h
   ·rename_i x k hx
    split at h
    ·rename_i hc
     simp only [Bool.and_eq_true] at hc
     obtain ⟨⟨⟨hg, hs⟩, hf⟩, hr⟩ := hc
     split at h
     ·rename_i cs hcs
      simp only [exM, ho, RunsK] at h' ⊢
      intro Z0 w0 a w hS
      have hW : Region.wanted o (yielded ops a.tmps) = true := by
       unfold Region.wanted
       rw [Option.isNone_iff_eq_none.1 hg]
      have hrun : ∃ u, ∀ w, (execOp a.eval o).run P w = .ok (.value u) w := by
       obtain ⟨μ, F, _, _, hFr, _, _⟩ := hS
       have h1 := ev_rel hFr x
       rw [hcs] at h1
       simp only [Rel] at h1
       obtain ⟨xs, h2, hr2⟩ := h1
       obtain ⟨u, hu, _⟩ := hr2.get h
       refine ⟨u, fun w => ?_⟩
       unfold execOp
       rw [hx]
       simp [h2, Instr.extract, hu] <;> rfl
      obtain ⟨u, hrun⟩ := hrun
      have hw' : WantedA ops o fr := wantedE_true (by unfold wantedE; rw [Option.isNone_iff_eq_none.1 hg])
      have h1 := StepR.sound (rd := none) (K := fun a' w' => Sim Z0 w0 ⟨putF fr o.dst v, hp⟩ a' w') (Q := fun _ _ _ => True) (st' := ⟨putF fr o.dst v, hp⟩) (by simpa using StepR.eff (P := P) (st := ⟨fr, hp⟩) hw' (v := v) (news := []) (by rw [hx]; exact EffR.extract cs hcs h)) hS (fun _ _ h => h)
      rw [if_pos hW] at h1
      unfold Oper.wpIn at h1
      have h1 := h1.2
      rw [show (Fc none).round = none from rfl, Oper.semAt_none, hrun w] at h1
      simp only [Oper.uponIn] at h1
      exact wpAnyIn_take rfl ho hs hf hr (fun c a w ⟨st', hq, _⟩ => absurd (runsK_panic ks' st' hq) (np c st')) ⟨.inl ⟨hW, hrun⟩, fun w => by unfold Oper.about; rw [hx]⟩ (h' Z0 w0 _ w h1)
     ·cases h
    ·cases h
   ·cases h
  ·cases h
 ·cases h

def meetQ (S : St) : Exit → St → Prop := fun e st => e = .normal ∧ st = S
theorem np_meet (S : St) : NoPanic (meetQ S) := fun _ _ h => by simp [meetQ] at h
def mtAt (m : M) : Bool :=
 match m.ks with
 | .code _ :: _ => true
 | _ => false
theorem R.meet (S : St) (h : mtAt m = true) (h1 : Runs rd P ⟨m.ks.take 1, m.st⟩ (meetQ S)) (h2 : Runs rd P ⟨m.ks.tail, S⟩ Q) : Runs rd P m Q := by
 obtain ⟨ks, st⟩ := m
 unfold mtAt at h
 simp only [runs_iff] at h h1 h2 ⊢
 split at h
 ·rename_i c ks'
  simp only [List.take_succ_cons, List.take_zero, List.tail_cons, RunsK] at h1 h2 ⊢
  refine h1.mono ?_
  rintro e st' ⟨rfl, rfl⟩
  exact h2
 ·cases h
theorem R.met {S : St} (h : m.ks = []) (hs : m.st = S) : Runs rd P m (meetQ S) := by
 obtain ⟨ks, st⟩ := m
 simp only at h hs
 subst h hs
 rw [runs_iff]
 exact ⟨rfl, rfl⟩
end

section
variable {H : Type} {enc : TypeId × Value → H} {P : Program} {w : World} {base : Nat} {spare : Nat → Bool} {held : Bool}
end
end Go.Abs

/-! Rows of bytes; drawn regions with tags of one's own. -/
namespace Go.Abs
open Go.RowKit Go.ChangeShapes Go.WideShapes Go.Deep
def eB (n : Int) : List AV := [.int .u8 n]
def LB (xs : List Int) : AV := .lst 1 xs.length (rows eB xs)
theorem eB_len (x : Int) : (eB x).length = 1 := rfl
section
variable {H : Type} {enc : TypeId × Value → H} {P : Program} {w : World} {base : Nat} {spare : Nat → Bool} {held : Bool}
theorem RelL_bytes {Z : Nat → Prop} {μ : List Value} : ∀ xs : List Int, RelL w Z μ (rows eB xs) (xs.map fun n => .int .u8 n)
 | [] => RelL.nil
 | x :: xs => RelL.cons (by simp [Rel]) (RelL_bytes xs)
theorem trod_bytes {t e : TypeId} {fuel : Nat} {cs : List Value} {x : DataW H × List MemPlace} (ht : P.underlying t = some (.slice e)) (he : P.underlying e = some (.int .u8)) (hc : P.cellsOf e = 1)
  (h : DataW.trod enc P w base spare held fuel t cs = some x) : ∃ v, cs = [v] ∧ ∃ xs : List Int, xs.length ≤ maxLen ∧ (∀ j, j < xs.length → 0 ≤ xs.getD j 0 ∧ xs.getD j 0 ≤ 255) ∧ Rel w (Z0 w) [] (LB xs) v := by
 rcases open_slice1 ht hc h with ⟨rfl, _⟩ | ⟨a, len, cap, m, n, V, D, Pl, rfl, _, hl, hm, hmm, _, hx⟩
 ·exact ⟨_, rfl, [], Nat.zero_le _, fun j hj => absurd hj (by simp), none, 0, [], rfl, rfl, Nat.le_refl _, fun h => absurd rfl h, RelL.nil⟩
 ·have hlm : len ≤ m := by rw [hmm]; split <;> omega
  obtain ⟨xs, h1, h2⟩ := choose_list (n := len) (p := fun i y => w.cell? (a.add i) = some (.int .u8 y) ∧ 0 ≤ y ∧ y ≤ 255) fun i hi => by
   obtain ⟨g1, g2⟩ := hx i (by omega)
   obtain ⟨y, hy, _, hw⟩ := DataW.trod_int he g2
   simp at hy
   simp [Lit.wf, IntKind.min, IntKind.max, IntKind.signed, IntKind.bits] at hw
   exact ⟨y, by rw [g1, hy], by omega, by omega⟩
  refine ⟨_, rfl, xs, by omega, fun j hj => (h2 j (by omega)).2, ⟨some a, cap, xs.map fun n => .int .u8 n, by rw [h1], by rw [rows_length eB_len, h1], by omega, fun hne => ⟨a, rfl, ?_, fun j u hj => ?_⟩, RelL_bytes xs⟩⟩
  ·have : 0 < len := by
    rw [← h1]
    cases xs with
    | nil => exact absurd rfl hne
    | cons x xs => simp
   have := not_Z0 (h2 0 this).1
   simpa [Addr.add] using this
  ·rw [List.getElem?_map, Option.map_eq_some_iff] at hj
   obtain ⟨y, hy, rfl⟩ := hj
   have hj := (List.getElem?_eq_some_iff.1 hy).1
   rw [(h2 j (by omega)).1, List.getD_eq_getElem?_getD, hy]
   rfl
theorem open_bytes {r : Reach} {b0 : Nat} {t e : TypeId} {v : Value} {d : DataW H} {ps : List MemPlace} (ht : P.underlying t = some (.slice e)) (he : P.underlying e = some (.int .u8)) (hc : P.cellsOf e = 1)
  (hval : Value.okWide P w r b0 t v) (hd : DataW.Trod enc P w base spare held t v d ps) : ∃ xs : List Int, xs.length ≤ maxLen ∧ (∀ j, j < xs.length → 0 ≤ xs.getD j 0 ∧ xs.getD j 0 ≤ 255) ∧ Rel w (Z0 w) [] (LB xs) v := by
 obtain ⟨A, n, c, rfl⟩ := okWide_slice ht hval
 obtain ⟨fuel, hf⟩ := hd
 obtain ⟨v, h1, h2⟩ := trod_bytes ht he hc hf
 simp [Value.cells] at h1
 subst h1
 exact h2
end
section
variable {rd : Option Nat} {P : Program} {m : M} {Q : Exit → St → Prop}
end
end Go.Abs

/-! Calls that change the caller's objects: under a further frame; with objects left out. -/
namespace Go.Abs
open Go.RowKit
theorem idx_range {n i : Nat} (h : i < n) : (List.range n).idxOf i = i := by
 have hm : i ∈ List.range n := List.mem_range.2 h
 have hlt := List.idxOf_lt_length_iff.2 hm
 have := List.getElem_idxOf hlt
 rw [List.getElem_range] at this
 exact this
mutual
theorem Rel.mix {w w' : World} {Z Z' : Nat → Prop} {μ μ1 μ2 : List Value} {n : Nat} (hA : ∀ (i : Nat) u, i < n → μ1[i]? = some u → μ2[i]? = some u) (hB : ∀ (i : Nat) u, n ≤ i → μ[i]? = some u → μ2[i]? = some u) :
  ∀ {c : AV} {v : Value}, Rel w Z μ c v → Rel w' Z' μ1 (c.ren (List.range n)) v → Rel w' Z' μ2 c v
 | .int _ _, _, _, h => by simpa [Rel, AV.ren] using h
 | .bool _, _, _, h => by simpa [Rel, AV.ren] using h
 | .str _, _, _, h => by simpa [Rel, AV.ren] using h
 | .nil, _, _, h => by simpa [Rel, AV.ren] using h
 | .top, _, _, _ => by simp [Rel]
 | .own _ _ _ _, _, h, _ => by simp [Rel] at h
 | .lst _ _ _, _, _, h => by simpa [Rel, AV.ren] using h
 | .clp _ _ _, _, _, h => by simpa [Rel, AV.ren] using h
 | .nam _ _ _ _ _, _, _, h => by simpa [Rel, AV.ren] using h
 | .rptr _, _, _, h => by simpa [Rel, AV.ren] using h
 | .ref i, v, h1, h2 => by
  simp only [Rel] at h1 ⊢
  rcases Nat.lt_or_ge i n with hi | hi
  ·have hc : (List.range n).contains i = true := by simpa using hi
   simp only [AV.ren, hc, if_true, idx_range hi, Rel] at h2
   exact hA i v hi h2
  ·exact hB i v hi h1
 | .ptr i o, v, h1, h2 => by
  simp only [Rel] at h1 ⊢
  rcases Nat.lt_or_ge i n with hi | hi
  ·have hc : (List.range n).contains i = true := by simpa using hi
   simp only [AV.ren, hc, if_true, idx_range hi, Rel] at h2
   obtain ⟨u, g, e1, e2, e3⟩ := h2
   exact ⟨u, g, hA i u hi e1, e2, e3⟩
  ·obtain ⟨u, g, e1, e2, e3⟩ := h1
   exact ⟨u, g, hB i u hi e1, e2, e3⟩
 | .agg cs, v, h1, h2 => by
  simp only [Rel, AV.ren] at h1 h2 ⊢
  obtain ⟨xs, e1, r1⟩ := h1
  obtain ⟨ys, e2, r2⟩ := h2
  rw [e1] at e2
  simp only [Value.agg.injEq] at e2
  have e3 : xs = ys := by simpa using e2
  subst e3
  exact ⟨xs, e1, RelL.mix hA hB r1 r2⟩
 | .tup cs, v, h1, h2 => by
  simp only [Rel, AV.ren] at h1 h2 ⊢
  obtain ⟨xs, e1, r1⟩ := h1
  obtain ⟨ys, e2, r2⟩ := h2
  rw [e1] at e2
  simp only [Value.tuple.injEq] at e2
  have e3 : xs = ys := by simpa using e2
  subst e3
  exact ⟨xs, e1, RelL.mix hA hB r1 r2⟩
 | .fn f cs, v, h1, h2 => by
  simp only [Rel, AV.ren] at h1 h2 ⊢
  obtain ⟨xs, e1, r1⟩ := h1
  obtain ⟨ys, e2, r2⟩ := h2
  rw [e1] at e2
  simp only [Value.func.injEq, true_and] at e2
  have e3 : xs = ys := by simpa using e2
  subst e3
  exact ⟨xs, e1, RelL.mix hA hB r1 r2⟩
theorem RelL.mix {w w' : World} {Z Z' : Nat → Prop} {μ μ1 μ2 : List Value} {n : Nat} (hA : ∀ (i : Nat) u, i < n → μ1[i]? = some u → μ2[i]? = some u) (hB : ∀ (i : Nat) u, n ≤ i → μ[i]? = some u → μ2[i]? = some u) :
  ∀ {cs : List AV} {vs : List Value}, RelL w Z μ cs vs → RelL w' Z' μ1 (renL (List.range n) cs) vs → RelL w' Z' μ2 cs vs
 | [], _, _, h => by simpa [RelL, renL] using h
 | c :: cs, _, h1, h2 => by
  simp only [RelL, renL] at h1 h2 ⊢
  obtain ⟨x, xs, e1, a1, b1⟩ := h1
  obtain ⟨y, ys, e2, a2, b2⟩ := h2
  rw [e1] at e2
  simp only [List.cons.injEq] at e2
  obtain ⟨rfl, rfl⟩ := e2
  exact ⟨x, xs, e1, Rel.mix hA hB a1 a2, RelL.mix hA hB b1 b2⟩
end
theorem HRel.addDead {w : World} {Z : Nat → Prop} {B : Nat} {μ : List Value} {hp : List AObj} (h : HRel w Z B μ hp) (u : Value) (hu : u.oneCell' = true) : HRel w Z B (μ ++ [u]) (hp ++ [.dead]) := by
 have split : ∀ (i : Nat) oi ui, (hp ++ [.dead])[i]? = some oi → (μ ++ [u])[i]? = some ui → (hp[i]? = some oi ∧ μ[i]? = some ui) ∨ oi = .dead := by
  intro i oi ui h1 h2
  rcases Nat.lt_or_ge i hp.length with hi | hi
  ·rw [List.getElem?_append_left hi] at h1
   rw [List.getElem?_append_left (by rw [h.len]; exact hi)] at h2
   exact .inl ⟨h1, h2⟩
  ·rw [List.getElem?_append_right hi] at h1
   rcases Nat.eq_zero_or_pos (i - hp.length) with h0 | h0
   ·rw [h0] at h1; simp at h1; exact .inr h1.symm
   ·rw [List.getElem?_eq_none (by simp; omega)] at h1; cases h1
 refine ⟨by simp [h.len], fun i oi ui g h1 ha h2 hg => ?_, fun i x hx => ?_, fun i oi ui h1 h2 => ?_, fun i j oi oj ui uj g hne h1 h2 a1 a2 m1 m2 b1 b2 => ?_⟩
 ·rcases split i oi ui h1 h2 with ⟨e1, e2⟩ | rfl
  ·exact h.zone i oi ui g e1 ha e2 hg
  ·cases ha
 ·rcases Nat.lt_or_ge i μ.length with hi | hi
  ·rw [List.getElem?_append_left hi] at hx
   exact h.one i x hx
  ·rw [List.getElem?_append_right hi] at hx
   rcases Nat.eq_zero_or_pos (i - μ.length) with h0 | h0
   ·rw [h0] at hx; simp at hx; rw [← hx]; exact hu
   ·rw [List.getElem?_eq_none (by simp; omega)] at hx; cases hx
 ·rcases split i oi ui h1 h2 with ⟨e1, e2⟩ | rfl
  ·exact (h.obj i oi ui e1 e2).keep (fun _ _ _ => rfl) (fun i u hu => append_old i u hu) (fun _ _ => rfl)
  ·trivial
 ·rcases split i oi ui h1 m1 with ⟨e1, e2⟩ | rfl
  ·rcases split j oj uj h2 m2 with ⟨e3, e4⟩ | rfl
   ·exact h.sep i j oi oj ui uj g hne e1 e3 a1 a2 e2 e4 b1 b2
   ·cases a2
  ·cases a1
theorem HRel.frameAt {w : World} {Z : Nat → Prop} {B n : Nat} {μ : List Value} {hp : List AObj} {us : List Value} {fr : List AV} (h : HRel w Z B μ hp) (hd : hp[n]? = some .dead) (hr : RelL w Z μ fr us) : HRel w Z B μ (hp.set n (.frame us fr)) := by
 have hn := (List.getElem?_eq_some_iff.1 hd).1
 have get : ∀ (i : Nat) oi, (hp.set n (.frame us fr))[i]? = some oi → oi = .frame us fr ∨ hp[i]? = some oi := by
  intro i oi h1
  by_cases e : n = i
  ·subst e
   rw [List.getElem?_set_self hn] at h1
   simp at h1; exact .inl h1.symm
  ·rw [List.getElem?_set_ne e] at h1; exact .inr h1
 refine ⟨by rw [List.length_set]; exact h.len, fun i oi ui g h1 ha h2 hg => ?_, h.one, fun i oi ui h1 h2 => ?_, fun i j oi oj ui uj g hne h1 h2 a1 a2 m1 m2 b1 b2 => ?_⟩
 ·rcases get i oi h1 with rfl | h1
  ·cases ha
  ·exact h.zone i oi ui g h1 ha h2 hg
 ·rcases get i oi h1 with rfl | h1
  ·exact hr
  ·exact h.obj i oi ui h1 h2
 ·rcases get i oi h1 with rfl | h1
  ·cases a1
  ·rcases get j oj h2 with rfl | h2
   ·cases a2
   ·exact h.sep i j oi oj ui uj g hne h1 h2 a1 a2 m1 m2 b1 b2
def renH (js : List Nat) (hp : List AObj) : List AObj := js.map fun i => (hp.getD i .dead).ren js
def insJ (n m : Nat) : List Nat := List.range n ++ (m :: (List.range (m - n)).map (· + n))
def insF (n : Nat) (us : List Value) (fr : List AV) (hp : List AObj) : List AObj := (renH (insJ n hp.length) (hp ++ [.dead])).set n (.frame us fr)
theorem insJ_nodup {n m : Nat} (h : n ≤ m) : (insJ n m).Nodup := by
 unfold insJ
 rw [List.nodup_append]
 refine ⟨List.nodup_range, ?_, ?_⟩
 ·rw [List.nodup_cons]
  refine ⟨?_, ?_⟩
  ·intro hm
   rw [List.mem_map] at hm
   obtain ⟨k, hk, e⟩ := hm
   rw [List.mem_range] at hk
   omega
  ·rw [List.nodup_iff_pairwise_ne, List.pairwise_map]
   exact List.nodup_range.imp fun h e => h (by omega)
 ·intro a ha b hb e
  rw [List.mem_range] at ha
  rw [List.mem_cons, List.mem_map] at hb
  rcases hb with hb | ⟨k, _, hk⟩ <;> omega
theorem CallS.frame {P : Program} {f : FuncId} {args : List AV} {hp : List AObj} {res : AV} {hp' : List AObj} (us2 : List Value) (fr2 : List AV) (hc : CallS P f args hp res hp') (h1 : renH (List.range hp.length) hp = hp)
  (h2 : renL (List.range hp.length) args = args) (h3 : hp.length ≤ hp'.length) : CallS P f args (hp ++ [.frame us2 fr2]) (res.ren (insJ hp.length hp'.length)) (insF hp.length us2 fr2 hp') := by
 obtain ⟨hen, hc⟩ := hc
 refine ⟨hen, ?_⟩
 intro Z0 F w0 w μ vs us fr hFb hH hvs hus hbel
 have hml : μ.length = hp.length + 1 := by rw [hH.len]; simp
 have hH0 := hH.ren (List.range hp.length) List.nodup_range
 have e0 : ((List.range hp.length).map fun i => ((hp ++ [AObj.frame us2 fr2]).getD i .dead).ren (List.range hp.length)) = hp := by
  refine Eq.trans (List.map_congr_left fun i hi => ?_) h1
  have hi := List.mem_range.1 hi
  simp only [List.getD_eq_getElem?_getD]
  rw [List.getElem?_append_left hi]
 rw [e0] at hH0
 have hvs0 := hvs.ren (List.range hp.length)
 rw [h2] at hvs0
 have hn2 : (hp ++ [AObj.frame us2 fr2])[hp.length]? = some (.frame us2 fr2) := by simp
 obtain ⟨u, hu⟩ : ∃ u, μ[hp.length]? = some u := ⟨_, List.getElem?_eq_getElem (by omega)⟩
 have hf2 : RelL w (Zone Z0 F w0.heap.size) μ fr2 us2 := hH.obj _ _ u hn2 hu
 have hus0 := (hus.append hf2).ren (List.range hp.length)
 refine (hc Z0 F w0 w _ vs (us ++ us2) _ hFb hH0 hvs0 hus0 hbel).mono ?_
 rintro e w' ⟨v, μ1, F1, rfl, hF1, hH1, hres, hfr1, hb1⟩
 have hm1 := hH1.len
 have hHd := hH1.addDead u (hH.one _ u hu)
 have hH2 := hHd.ren (insJ hp.length hp'.length) (insJ_nodup h3)
 obtain ⟨μ2, hμ2⟩ : ∃ μ2, μ2 = ((insJ hp.length hp'.length).map fun i => (μ1 ++ [u]).getD i (.bool false)) := ⟨_, rfl⟩
 have hA : ∀ (i : Nat) x, i < hp.length → μ1[i]? = some x → μ2[i]? = some x := by
  intro i x hi hx
  have hj : (insJ hp.length hp'.length)[i]? = some i := by
   unfold insJ
   rw [List.getElem?_append_left (by simpa using hi)]
   simp [hi]
  rw [hμ2, List.getElem?_map, hj]
  simp only [Option.map_some, List.getD_eq_getElem?_getD]
  rw [List.getElem?_append_left (by omega), hx]
  rfl
 have hB : ∀ (i : Nat) x, hp.length ≤ i → μ[i]? = some x → μ2[i]? = some x := by
  intro i x hi hx
  have hin : i = hp.length := by have := (List.getElem?_eq_some_iff.1 hx).1; omega
  subst hin
  rw [hu] at hx
  have hj : (insJ hp.length hp'.length)[hp.length]? = some hp'.length := by
   unfold insJ
   rw [List.getElem?_append_right (by simp)]
   simp
  rw [hμ2, List.getElem?_map, hj]
  simp only [Option.map_some, List.getD_eq_getElem?_getD]
  rw [List.getElem?_append_right (by omega), hm1]
  simpa using hx
 rw [← hμ2] at hH2
 have hall := RelL.mix hA hB (hus.append hf2) hfr1
 have hul := hus.length
 have hfr : RelL w' (Zone Z0 F1 w0.heap.size) μ2 fr us := by
  have := hall.take fr.length
  rwa [List.take_left, ← hul, List.take_left] at this
 have hfr2 : RelL w' (Zone Z0 F1 w0.heap.size) μ2 fr2 us2 := by
  have := hall.drop fr.length
  rwa [List.drop_left, ← hul, List.drop_left] at this
 refine ⟨v, μ2, F1, rfl, hF1, ?_, ?_, hfr, hb1⟩
 ·refine hH2.frameAt ?_ hfr2
  have hj : (insJ hp.length hp'.length)[hp.length]? = some hp'.length := by
   unfold insJ
   rw [List.getElem?_append_right (by simp)]
   simp
  rw [List.getElem?_map, hj]
  simp [AObj.ren]
 ·rw [hμ2]
  exact Rel.ren _ (Rel.keep (w := w') (fun _ _ _ => rfl) (fun i u hu => append_old i u hu) hres)
theorem CallS.drop {P : Program} {f : FuncId} {args : List AV} {hp : List AObj} {res : AV} {hp' : List AObj} (js : List Nat) (hc : CallS P f args hp res hp') (h1 : js.take hp.length = List.range hp.length) (h2 : js.Nodup) :
  CallS P f args hp (res.ren js) (renH js hp') := by
 obtain ⟨hen, hc⟩ := hc
 refine ⟨hen, ?_⟩
 intro Z0 F w0 w μ vs us fr hFb hH hvs hus hbel
 refine (hc Z0 F w0 w μ vs us fr hFb hH hvs hus hbel).mono ?_
 rintro e w' ⟨v, μ1, F1, rfl, hF1, hH1, hres, hfr1, hb1⟩
 have hm1 := hH1.len
 have hjs : ∀ i, i < hp.length → js[i]? = some i := by
  intro i hi
  have := congrArg (fun l : List Nat => l[i]?) h1
  simp only [List.getElem?_take, if_pos hi] at this
  rw [this]
  simp [hi]
 refine ⟨v, _, F1, rfl, hF1, hH1.ren js h2, Rel.ren js hres, ?_, hb1⟩
 refine RelL.mix (n := hp.length) ?_ ?_ hus (hfr1.ren (List.range hp.length))
 ·intro i x hi hx
  rw [List.getElem?_map, hjs i hi]
  rw [List.getElem?_map] at hx
  simpa [hi] using hx
 ·intro i x hi hx
  have h4 := (List.getElem?_eq_some_iff.1 hx).1
  have h5 := hH.len
  omega
end Go.Abs

/-! Calls of which only what holds behind them is told (draws). -/
namespace Go.Abs
open Go.RowKit Go.ChangeShapes Go.WideShapes Go.Deep
def CallX (P : Program) (f : FuncId) (args : List AV) (hp : List AObj) (Φ : AV → List AObj → Prop) : Prop :=
 Enters P f ∧ ∀ (Z0 F : Nat → Prop) (w0 w : World) (μ vs us : List Value) (fr : List AV), (∀ b, F b → w0.heap.size ≤ b ∧ b < w.heap.size) → HRel w (Zone Z0 F w0.heap.size) w0.heap.size μ hp → RelL w (Zone Z0 F w0.heap.size) μ args vs → RelL w (Zone Z0 F w0.heap.size) μ fr us → Below w0.heap.size w0 w →
  Calls P f vs.toArray w fun e w' => ∃ v μ' F' res hp', Φ res hp' ∧ e = .returned v ∧ (∀ b, F' b → w0.heap.size ≤ b ∧ b < w'.heap.size) ∧ HRel w' (Zone Z0 F' w0.heap.size) w0.heap.size μ' hp' ∧ Rel w' (Zone Z0 F' w0.heap.size) μ' res v ∧ RelL w' (Zone Z0 F' w0.heap.size) μ' fr us ∧ Below w0.heap.size w0 w'
section
variable {rd : Option Nat} {P : Program} {m : M} {Q : Exit → St → Prop}
theorem CallX.mono {f : FuncId} {args : List AV} {hp : List AObj} {Φ Ψ : AV → List AObj → Prop} (h : CallX P f args hp Φ) (hm : ∀ r h', Φ r h' → Ψ r h') : CallX P f args hp Ψ := by
 refine ⟨h.1, fun Z0 F w0 w μ vs us fr hFb hH hvs hus hbel => (h.2 Z0 F w0 w μ vs us fr hFb hH hvs hus hbel).mono ?_⟩
 rintro e w' ⟨v, μ', F', res, hp', hΦ, r⟩
 exact ⟨v, μ', F', res, hp', hm _ _ hΦ, r⟩
def retX (P : Program) (fn : Func) (n : Nat) (us : List Value) (fr : List AV) (Φ : AV → List AObj → Prop) : Exit → St → Prop := fun e st' => ∃ res hp', Φ res hp' ∧ Go.Abs.retS P fn n us fr res hp' e st'
theorem CallX.of {f : FuncId} {fn : Func} {c : Code} {args : List AV} {hp : List AObj} {Φ : AV → List AObj → Prop} (hf : P.funcs[f]? = some fn) (hb : fn.body = some c) (hnm : (fn.name == "runtime.NumGoroutine") = false)
  (h : ∀ us fr, Runs none P ⟨[.code c], ⟨frameOf fn.ntmps args, hp ++ [.frame us fr]⟩⟩ (retX P fn hp.length us fr Φ)) : CallX P f args hp Φ := by
 refine ⟨enters_of hf hnm (by rw [hb]; rfl), ?_⟩
 intro Z0 F w0 w μ vs us fr hFb hH hvs hus hbel
 have hlen := hvs.length
 refine calls_of_wpIn hf hb ?_
 have hS : Sim Z0 w0 ⟨frameOf fn.ntmps args, hp ++ [.frame us fr]⟩ { tmps := vs.toArray ++ Array.replicate (fn.ntmps - vs.toArray.size) undef, defers := [] } w := by
  refine ⟨μ ++ [.bool false], F, hFb, hH.extend1 (zone_new hbel.size hFb) (Below.refl _ _) ?_ (fun g hg => by simp [blk] at hg) rfl, ?_, .inl rfl, hbel⟩
  ·exact RelL.keep (w := w) (fun _ _ _ => rfl) (fun i u hu => append_old i u hu) hus
  ·simp only [Array.toList_append, Array.toList_replicate, List.size_toArray, hlen, frameOf]
   refine RelL.append (RelL.keep (w := w) (fun _ _ _ => rfl) (fun i u hu => append_old i u hu) hvs) ?_
   generalize fn.ntmps - args.length = n
   induction n with
   | zero => exact RelL.nil
   | succ n ih => exact RelL.cons (by simp [Rel]) ih
 have hrun2 := h us fr
 simp only [runs_iff] at hrun2
 simp only [RunsK] at hrun2
 refine wpIn_mono (hrun2 Z0 w0 _ w hS) ?_
 have fin : ∀ (e : Exit) (st' : St) (a' : Act) (w' : World), retX P fn hp.length us fr Φ e st' → Sim Z0 w0 st' a' w' → a'.defers = [] ∧ ∃ v, (results fn a'.tmps).run P w' = .ok v w' ∧ ∃ v' μ' F' res hp', Φ res hp' ∧ Ending.returned v = .returned v' ∧ (∀ b, F' b → w0.heap.size ≤ b ∧ b < w'.heap.size) ∧ HRel w' (Zone Z0 F' w0.heap.size) w0.heap.size μ' hp' ∧ Rel w' (Zone Z0 F' w0.heap.size) μ' res v' ∧ RelL w' (Zone Z0 F' w0.heap.size) μ' fr us ∧ Below w0.heap.size w0 w' := by
  rintro e st' a' w' ⟨res, hp', hΦ, _, hres, hfr, hh⟩ ⟨μ', F', hFb', hH', hF', hd', hbel'⟩
  obtain ⟨x, h1, h2⟩ := resIn_run hH' hF' hres
  unfold frameAt at hfr
  split at hfr
  ·rename_i us2 fr2 hi
   cases hfr
   have hil : hp.length < μ'.length := by rw [hH'.len]; exact (List.getElem?_eq_some_iff.1 hi).1
   have hfrr : RelL w' (Zone Z0 F' w0.heap.size) μ' fr us := hH'.obj _ _ _ hi (List.getElem?_eq_getElem hil)
   exact ⟨hd'.none (resIn_mark hres), x, h1, x, μ', F', res, hp', hΦ, rfl, hFb', hh ▸ hH'.bury _, h2, hfrr, hbel'⟩
  ·cases hfr
 rintro e a' w' ⟨st', hq, hS'⟩
 cases e with
 | normal => exact fin _ st' a' w' hq hS'
 | ret => exact fin _ st' a' w' hq hS'
 | exit id => (obtain ⟨_, _, _, hq, _⟩ := hq; exact absurd hq (by simp))
 | goto l => (obtain ⟨_, _, _, hq, _⟩ := hq; exact absurd hq (by simp))
 | panic ch => (obtain ⟨_, _, _, hq, _⟩ := hq; exact absurd hq (by simp))
 | outgrown => (obtain ⟨_, _, _, hq, _⟩ := hq; exact absurd hq (by simp))
theorem R.retX {fn : Func} {n : Nat} {us : List Value} {fr : List AV} {Φ : AV → List AObj → Prop} {res : AV} {hp' : List AObj} (h : (edAt m).isSome = true) (hr : resIn P fn m.st = some res) (hf : frameAt n m.st = some (us, fr)) (hh : m.st.hp.set n .dead = hp') (hΦ : Φ res hp') :
  Runs rd P m (Go.Abs.retX P fn n us fr Φ) :=
 R.fin h ⟨res, hp', hΦ, .inl rfl, hr, hf, hh⟩ ⟨res, hp', hΦ, .inr rfl, hr, hf, hh⟩
theorem OpsQ.callX {all : Array Oper} {o : Oper} {l : List Oper} {fr : List AV} {hp : List AObj} {R : Exit → St → Prop} {c : Operand} {args : Array Operand} {tys : Array TypeId} {f : FuncId} {caps : List AV} {Φ : AV → List AObj → Prop} (hnm : noMark hp = true) (hw : WantedA all o fr)
  (hop : o.op = .call { callee := .value c, args := args, argTypes := tys }) (hc : ev fr c = .fn f caps) (hcall : CallX P f (args.toList.map (ev fr) ++ caps) hp Φ) (h' : ∀ res hp', Φ res hp' → OpsQ rd P all l ⟨putF fr o.dst res, hp'⟩ R) : OpsQ rd P all (o :: l) ⟨fr, hp⟩ R := by
 intro Z0 w0 a w hS
 refine wpListIn_step fun K hK => ?_
 obtain ⟨μ, F, hFb, hH, hF, hd, hb⟩ := hS
 rw [wanted_rel hF hw, if_pos rfl]
 have hE : ∀ y, Rel w (Zone Z0 F w0.heap.size) μ (ev fr y) (a.eval y) := fun y => ev_rel hF y
 have hcv := hc ▸ hE c
 simp only [Rel] at hcv
 obtain ⟨cv, hcv, hrc⟩ := hcv
 have hargs' : RelL w (Zone Z0 F w0.heap.size) μ (args.toList.map (ev fr)) (args.toList.map a.eval) := by
  generalize args.toList = l
  induction l with
  | nil => exact RelL.nil
  | cons x l ih => exact RelL.cons (hE x) ih
 obtain ⟨hen, hcall⟩ := hcall
 have hC := hcall Z0 F w0 w μ _ _ fr hFb hH (hargs'.append hrc) hF hb
 have hrun : (execOp a.eval o).run P w = .ok (.enter f (args.toList.map a.eval ++ cv).toArray) w := by
  have e1 : (args.map a.eval ++ cv.toArray) = (args.toList.map a.eval ++ cv).toArray := by
   apply Array.toList_inj.1; simp
  simp only [execOp, hop, resolve, Deferred.ofValue, hcv, Sem.run_bind, Sem.run_pure, Result.andThen_ok, invoke, Array.empty_append]
  rw [e1]
  exact hen _ _
 refine wpIn_of_run (fun c' => by rw [hop]; simp) ?_
 rw [hrun]
 refine upon_enter hC ?_
 rintro en w' ⟨x, μ', F', res, hp', hΦ, rfl, hFb', hH', hr, hF', hbel⟩
 exact ⟨x, rfl, hK _ _ (h' res hp' hΦ Z0 w0 _ _ ⟨μ', F', hFb', hH', put_rel hF' _ hr, by rw [put_defers']; exact .inl (hd.none hnm), hbel⟩)⟩
def opsHd (m : M) : Bool :=
 match m.ks with
 | .ops _ (_ :: _) _ :: _ => true
 | _ => false
theorem R.callX {f : FuncId} {avs : List AV} {hp : List AObj} {Φ : AV → List AObj → Prop} (hc : CallX P f avs hp Φ) (h : csAt m = some (f, avs)) (hh : m.st.hp = hp) (ht : opsHd m = true) (h' : ∀ res hp', Φ res hp' → Runs rd P (putM m none res hp') Q) : Runs rd P m Q := by
 have hnm := csAt_mark h
 obtain ⟨fo, args, tys, caps, hop, hf, rfl⟩ := csAt_parts h
 subst hh
 obtain ⟨ks, ⟨fr, hp⟩⟩ := m
 unfold opM headOf at hop
 unfold opsHd at ht
 unfold putM at h'
 simp only [runs_iff] at h' ⊢
 try simp only at hop ht h' hf hc hnm ⊢
 split at hop
 ·rename_i all o fl t heq
  split at hop
  ·rename_i hw
   simp only [Option.some.injEq] at hop
   split at heq
   ·cases heq
    intro hW
    exact OpsQ.callX hnm (wantH_true hw hW) hop hf hc fun res hp' hΦ => h' res hp' hΦ headW_false
   ·simp at ht
   ·cases heq
  ·cases hop
 ·cases hop
theorem k25 {f : FuncId} {avs : List AV} {hp : List AObj} {Φ : AV → List AObj → Prop} (hc : CallX P f avs hp Φ) (h' : ∀ res hp', Φ res hp' → Runs rd P (putM m none res hp') Q) (h : csAt m = some (f, avs) := by kernel_rfl) (hh : m.st.hp = hp := by kernel_rfl) (ht : opsHd m = true := by kernel_rfl) : Runs rd P m Q := _root_.Go.Abs.R.callX hc h hh ht h'
theorem CallX.frame {P : Program} {f : FuncId} {args : List AV} {hp : List AObj} {Φ : AV → List AObj → Prop} (us2 : List Value) (fr2 : List AV) (hc : CallX P f args hp Φ) (h1 : renH (List.range hp.length) hp = hp)
  (h2 : renL (List.range hp.length) args = args) (h3 : ∀ r h', Φ r h' → hp.length ≤ h'.length) : CallX P f args (hp ++ [.frame us2 fr2]) fun r h => ∃ res hp', Φ res hp' ∧ r = res.ren (insJ hp.length hp'.length) ∧ h = insF hp.length us2 fr2 hp' := by
 obtain ⟨hen, hc⟩ := hc
 refine ⟨hen, ?_⟩
 intro Z0 F w0 w μ vs us fr hFb hH hvs hus hbel
 have hml : μ.length = hp.length + 1 := by rw [hH.len]; simp
 have hH0 := hH.ren (List.range hp.length) List.nodup_range
 have e0 : ((List.range hp.length).map fun i => ((hp ++ [AObj.frame us2 fr2]).getD i .dead).ren (List.range hp.length)) = hp := by
  refine Eq.trans (List.map_congr_left fun i hi => ?_) h1
  have hi := List.mem_range.1 hi
  simp only [List.getD_eq_getElem?_getD]
  rw [List.getElem?_append_left hi]
 rw [e0] at hH0
 have hvs0 := hvs.ren (List.range hp.length)
 rw [h2] at hvs0
 have hn2 : (hp ++ [AObj.frame us2 fr2])[hp.length]? = some (.frame us2 fr2) := by simp
 obtain ⟨u, hu⟩ : ∃ u, μ[hp.length]? = some u := ⟨_, List.getElem?_eq_getElem (by omega)⟩
 have hf2 : RelL w (Zone Z0 F w0.heap.size) μ fr2 us2 := hH.obj _ _ u hn2 hu
 have hus0 := (hus.append hf2).ren (List.range hp.length)
 refine (hc Z0 F w0 w _ vs (us ++ us2) _ hFb hH0 hvs0 hus0 hbel).mono ?_
 rintro e w' ⟨v, μ1, F1, res, hp', hΦ, rfl, hF1, hH1, hres, hfr1, hb1⟩
 have h3 := h3 _ _ hΦ
 have hm1 := hH1.len
 have hHd := hH1.addDead u (hH.one _ u hu)
 have hH2 := hHd.ren (insJ hp.length hp'.length) (insJ_nodup h3)
 obtain ⟨μ2, hμ2⟩ : ∃ μ2, μ2 = ((insJ hp.length hp'.length).map fun i => (μ1 ++ [u]).getD i (.bool false)) := ⟨_, rfl⟩
 have hA : ∀ (i : Nat) x, i < hp.length → μ1[i]? = some x → μ2[i]? = some x := by
  intro i x hi hx
  have hj : (insJ hp.length hp'.length)[i]? = some i := by
   unfold insJ
   rw [List.getElem?_append_left (by simpa using hi)]
   simp [hi]
  rw [hμ2, List.getElem?_map, hj]
  simp only [Option.map_some, List.getD_eq_getElem?_getD]
  rw [List.getElem?_append_left (by omega), hx]
  rfl
 have hB : ∀ (i : Nat) x, hp.length ≤ i → μ[i]? = some x → μ2[i]? = some x := by
  intro i x hi hx
  have hin : i = hp.length := by have := (List.getElem?_eq_some_iff.1 hx).1; omega
  subst hin
  rw [hu] at hx
  have hj : (insJ hp.length hp'.length)[hp.length]? = some hp'.length := by
   unfold insJ
   rw [List.getElem?_append_right (by simp)]
   simp
  rw [hμ2, List.getElem?_map, hj]
  simp only [Option.map_some, List.getD_eq_getElem?_getD]
  rw [List.getElem?_append_right (by omega), hm1]
  simpa using hx
 rw [← hμ2] at hH2
 have hall := RelL.mix hA hB (hus.append hf2) hfr1
 have hul := hus.length
 have hfr : RelL w' (Zone Z0 F1 w0.heap.size) μ2 fr us := by
  have := hall.take fr.length
  rwa [List.take_left, ← hul, List.take_left] at this
 have hfr2 : RelL w' (Zone Z0 F1 w0.heap.size) μ2 fr2 us2 := by
  have := hall.drop fr.length
  rwa [List.drop_left, ← hul, List.drop_left] at this
 refine ⟨v, μ2, F1, _, _, ⟨res, hp', hΦ, rfl, rfl⟩, rfl, hF1, ?_, ?_, hfr, hb1⟩
 ·refine hH2.frameAt ?_ hfr2
  have hj : (insJ hp.length hp'.length)[hp.length]? = some hp'.length := by
   unfold insJ
   rw [List.getElem?_append_right (by simp)]
   simp
  rw [List.getElem?_map, hj]
  simp [AObj.ren]
 ·rw [hμ2]
  exact Rel.ren _ (Rel.keep (w := w') (fun _ _ _ => rfl) (fun i u hu => append_old i u hu) hres)
theorem CallX.drop {P : Program} {f : FuncId} {args : List AV} {hp : List AObj} {Φ : AV → List AObj → Prop} (js : List Nat) (hc : CallX P f args hp Φ) (h1 : js.take hp.length = List.range hp.length) (h2 : js.Nodup) :
  CallX P f args hp fun r h => ∃ res hp', Φ res hp' ∧ r = res.ren js ∧ h = renH js hp' := by
 obtain ⟨hen, hc⟩ := hc
 refine ⟨hen, ?_⟩
 intro Z0 F w0 w μ vs us fr hFb hH hvs hus hbel
 refine (hc Z0 F w0 w μ vs us fr hFb hH hvs hus hbel).mono ?_
 rintro e w' ⟨v, μ1, F1, res, hp', hΦ, rfl, hF1, hH1, hres, hfr1, hb1⟩
 have hm1 := hH1.len
 have hjs : ∀ i, i < hp.length → js[i]? = some i := by
  intro i hi
  have := congrArg (fun l : List Nat => l[i]?) h1
  simp only [List.getElem?_take, if_pos hi] at this
  rw [this]
  simp [hi]
 refine ⟨v, _, F1, _, _, ⟨res, hp', hΦ, rfl, rfl⟩, rfl, hF1, hH1.ren js h2, Rel.ren js hres, ?_, hb1⟩
 refine RelL.mix (n := hp.length) ?_ ?_ hus (hfr1.ren (List.range hp.length))
 ·intro i x hi hx
  rw [List.getElem?_map, hjs i hi]
  rw [List.getElem?_map] at hx
  simpa [hi] using hx
 ·intro i x hi hx
  have h4 := (List.getElem?_eq_some_iff.1 hx).1
  have h5 := hH.len
  omega
theorem CallX.dropE {P : Program} {f : FuncId} {args : List AV} {hp : List AObj} {Φ : AV → List AObj → Prop} (hc : CallX P f args hp fun r h => ∃ js : List Nat, js.take hp.length = List.range hp.length ∧ js.Nodup ∧ Φ (r.ren js) (renH js h)) :
  CallX P f args hp Φ := by
 obtain ⟨hen, hc⟩ := hc
 refine ⟨hen, ?_⟩
 intro Z0 F w0 w μ vs us fr hFb hH hvs hus hbel
 refine (hc Z0 F w0 w μ vs us fr hFb hH hvs hus hbel).mono ?_
 rintro e w' ⟨v, μ1, F1, res, hp', ⟨js, h1, h2, hΦ⟩, rfl, hF1, hH1, hres, hfr1, hb1⟩
 have hm1 := hH1.len
 have hjs : ∀ i, i < hp.length → js[i]? = some i := by
  intro i hi
  have := congrArg (fun l : List Nat => l[i]?) h1
  simp only [List.getElem?_take, if_pos hi] at this
  rw [this]
  simp [hi]
 refine ⟨v, _, F1, _, _, hΦ, rfl, hF1, hH1.ren js h2, Rel.ren js hres, ?_, hb1⟩
 refine RelL.mix (n := hp.length) ?_ ?_ hus (hfr1.ren (List.range hp.length))
 ·intro i x hi hx
  rw [List.getElem?_map, hjs i hi]
  rw [List.getElem?_map] at hx
  simpa [hi] using hx
 ·intro i x hi hx
  have h4 := (List.getElem?_eq_some_iff.1 hx).1
  have h5 := hH.len
  omega
def opsHd0 (m : M) : Bool :=
 match m.ks with
 | .ops _ (_ :: _) false :: _ => true
 | _ => false
theorem R.deadF (i : Nat) (h : opsHd0 m = true) (hd : m.st.hp[i]? = some .dead) (h' : Runs rd P ⟨m.ks, ⟨m.st.fr, m.st.hp.set i (.frame [] [])⟩⟩ Q) : Runs rd P m Q := by
 obtain ⟨ks, ⟨fr, hp⟩⟩ := m
 unfold opsHd0 at h
 simp only [runs_iff] at h h' hd ⊢
 split at h
 ·simp only [RunsK] at h' ⊢
  intro _ Z0 w0 a w hS
  obtain ⟨μ, F, hFb, hH, hF, hdf, hb⟩ := hS
  refine h' headW_false Z0 w0 a w ⟨μ, F, hFb, hH.frameAt hd RelL.nil, hF, hdf.keep (fun j x hj => ⟨?_, fun u hu => hu⟩), hb⟩
  have hne : i ≠ j := fun e => by subst e; rw [hd] at hj; cases hj
  simp only
  rw [List.getElem?_set_ne hne]; exact hj
 ·cases h
end
end Go.Abs
