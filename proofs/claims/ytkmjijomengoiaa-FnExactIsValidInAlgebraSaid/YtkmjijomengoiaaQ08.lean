/- Valuations on frames; validity. -/
import Derived.Test.YtkmjijomengoiaaQ06
import Derived.Test.YtkmjijomengoiaaP04
import Derived.Test.YtkmjijomengoiaaSymY
namespace Go.Proofs.Ytkmjijomengoiaa
open Go.RowKit Go.Abs

def VS (vs : List Int) : Prop := vs.Nodup ∧ ∀ v ∈ vs, 0 ≤ v ∧ v < 6
/-- The value of variable j in the valuation N. -/
def vat (n : Int) (vs : List Int) (N : Int) (j : Nat) : Int := if (j : Int) ∈ vs then band (shr64 N (n * ((vs.length : Int) - 1 - (vs.idxOf (j : Int) : Int)))) ((shl64 1 n) - 1) else 0
def vrow (n : Int) (vs : List Int) (N : Int) : List Int := (List.range 6).map (vat n vs N)
theorem vrow_len (n : Int) (vs : List Int) (N : Int) : (vrow n vs N).length = 6 := by simp [vrow]
theorem vrow_get {n : Int} {vs : List Int} {N : Int} {j : Nat} (h : j < 6) : (vrow n vs N).getD j 0 = vat n vs N j := by
  simp [vrow, List.getD_eq_getElem?_getD, h]
theorem row_ext {X Y : List Int} (hx : X.length = 6) (hy : Y.length = 6) (h : ∀ j : Nat, j < 6 → X.getD j 0 = Y.getD j 0) : X = Y := by
  apply List.ext_getElem (by omega)
  intro j h1 h2
  have := h j (by omega)
  simpa [List.getD_eq_getElem?_getD, List.getElem?_eq_getElem h1, List.getElem?_eq_getElem h2] using this
theorem vs_get {vs : List Int} (h : VS vs) {k : Nat} (hk : k < vs.length) : vs.getD k 0 ∈ vs ∧ 0 ≤ vs.getD k 0 ∧ vs.getD k 0 < 6 ∧ vs.idxOf (vs.getD k 0) = k := by
  have e : vs.getD k 0 = vs[k] := by rw [List.getD_eq_getElem?_getD, List.getElem?_eq_getElem hk, Option.getD_some]
  have hm : vs.getD k 0 ∈ vs := by rw [e]; exact List.getElem_mem hk
  have := h.2 _ hm
  exact ⟨hm, this.1, this.2, by rw [e]; exact h.1.idxOf_getElem k hk⟩
def PV (n : Int) (vs : List Int) (N : Int) (k : Nat) (X : List Int) : Prop := X.length = 6 ∧ ∀ j : Nat, j < 6 → ((j : Int) ∈ vs.take k → X.getD j 0 = vat n vs N j) ∧ (¬ (j : Int) ∈ vs → X.getD j 0 = 0)
theorem pv_start {n : Int} {vs : List Int} {N : Int} {X : List Int} (hx : X.length = 6) (h : ∀ j : Nat, j < 6 → ¬ (j : Int) ∈ vs → X.getD j 0 = 0) : PV n vs N 0 X := ⟨hx, fun j hj => ⟨fun h => by simp at h, h j hj⟩⟩
theorem pv_step {n : Int} {vs : List Int} {N : Int} {X : List Int} {k : Nat} {v : Int} (h : PV n vs N k X) (hv : VS vs) (hk : k < vs.length) (he : v = band (shr64 N (n * ((vs.length : Int) - 1 - (k : Int)))) ((shl64 1 n) - 1)) : PV n vs N (k + 1) (X.set (vs.getD k 0).toNat v) := by
  obtain ⟨hm, h0, h6, hi⟩ := vs_get hv hk
  refine ⟨by rw [List.length_set]; exact h.1, fun j hj => ⟨fun hjm => ?_, fun hjn => ?_⟩⟩
  · rw [getD_set_if _ _ _ _ _ (by rw [h.1]; omega)]
    by_cases e : (vs.getD k 0).toNat = j
    · rw [if_pos e]
      have ej : (j : Int) = vs.getD k 0 := by omega
      rw [vat, if_pos (by rw [ej]; exact hm), ej, hi, he]
    · rw [if_neg e]
      rw [List.take_succ_eq_append_getElem hk, List.mem_append, List.mem_singleton] at hjm
      rcases hjm with hjm | hjm
      · exact (h.2 j hj).1 hjm
      · exfalso
        apply e
        rw [List.getD_eq_getElem?_getD, List.getElem?_eq_getElem hk, Option.getD_some, ← hjm]
        omega
  · rw [getD_set_if _ _ _ _ _ (by rw [h.1]; omega), if_neg (by rintro rfl; exact hjn (by rw [show ((vs.getD k 0).toNat : Int) = vs.getD k 0 by omega]; exact hm))]
    exact (h.2 j hj).2 hjn
theorem pv_end {n : Int} {vs : List Int} {N : Int} {X : List Int} {k : Nat} (h : PV n vs N k X) (hk : vs.length ≤ k) : X = vrow n vs N := by
  refine row_ext h.1 (vrow_len _ _ _) fun j hj => ?_
  rw [vrow_get hj]
  by_cases hm : (j : Int) ∈ vs
  · exact (h.2 j hj).1 (by rw [List.take_of_length_le hk]; exact hm)
  · rw [(h.2 j hj).2 hm, vat, if_neg hm]
theorem vrow_out {n : Int} {vs : List Int} {N : Int} (j : Nat) (hj : j < 6) (hm : ¬ (j : Int) ∈ vs) : (vrow n vs N).getD j 0 = 0 := by rw [vrow_get hj, vat, if_neg hm]
theorem zero_out (vs : List Int) (j : Nat) (_ : j < 6) (_ : ¬ (j : Int) ∈ vs) : (List.replicate 6 (0 : Int)).getD j 0 = 0 := by
  simp only [List.getD_eq_getElem?_getD, List.getElem?_replicate]
  split <;> rfl
/-! From the end on. -/
def PD (n : Int) (vs : List Int) (N : Int) (k : Nat) (X : List Int) : Prop := X.length = 6 ∧ ∀ j : Nat, j < 6 → ((j : Int) ∈ vs.drop k → X.getD j 0 = vat n vs N j) ∧ (¬ (j : Int) ∈ vs.drop k → X.getD j 0 = 0)
theorem pd_start {n : Int} {vs : List Int} {N : Int} {k : Nat} (hk : vs.length ≤ k) : PD n vs N k (List.replicate 6 0) := ⟨by simp, fun j hj => ⟨fun h => by rw [List.drop_eq_nil_of_le hk] at h; simp at h, fun _ => by
  simp only [List.getD_eq_getElem?_getD, List.getElem?_replicate]
  split <;> rfl⟩⟩
theorem pd_step {n : Int} {vs : List Int} {N : Int} {X : List Int} {k : Nat} {v : Int} (h : PD n vs N (k + 1) X) (hv : VS vs) (hk : k < vs.length) (he : v = band (shr64 N (n * ((vs.length : Int) - 1 - (k : Int)))) ((shl64 1 n) - 1)) : PD n vs N k (X.set (vs.getD k 0).toNat v) := by
  obtain ⟨hm, h0, h6, hi⟩ := vs_get hv hk
  have hd : vs.drop k = vs.getD k 0 :: vs.drop (k + 1) := by
    rw [List.drop_eq_getElem_cons hk, List.getD_eq_getElem?_getD, List.getElem?_eq_getElem hk]; rfl
  refine ⟨by rw [List.length_set]; exact h.1, fun j hj => ?_⟩
  rw [getD_set_if _ _ _ _ _ (by rw [h.1]; omega), hd, List.mem_cons]
  by_cases e : (vs.getD k 0).toNat = j
  · rw [if_pos e]
    have ej : (j : Int) = vs.getD k 0 := by omega
    exact ⟨fun _ => by rw [vat, if_pos (by rw [ej]; exact hm), ej, hi, he], fun h => absurd (.inl ej) h⟩
  · rw [if_neg e]
    have hne : ¬ (j : Int) = vs.getD k 0 := fun h => e (by omega)
    exact ⟨fun h2 => (h.2 j hj).1 (h2.elim (fun h => absurd h hne) id), fun h2 => (h.2 j hj).2 (fun h3 => h2 (.inr h3))⟩
theorem pd_end {n : Int} {vs : List Int} {N : Int} {X : List Int} (h : PD n vs N 0 X) : X = vrow n vs N := by
  refine row_ext h.1 (vrow_len _ _ _) fun j hj => ?_
  rw [vrow_get hj]
  have := h.2 j hj
  rw [List.drop_zero] at this
  by_cases hm : (j : Int) ∈ vs
  · exact this.1 hm
  · rw [this.2 hm, vat, if_neg hm]
theorem shr_add {N : Nat} {a b : Nat} (h : a + b ≤ 62) : shr64 (shr64 (N : Int) (a : Int)) (b : Int) = shr64 (N : Int) ((a + b : Nat) : Int) := by
  rw [shr_nat (by omega), shr_nat (by omega), shr_nat h, Nat.div_div_eq_div_mul, Nat.pow_add]
/-! The first number of which p holds. -/
def fstN (p : Nat → Bool) (t : Nat) : Option Nat := (List.range t).find? p
theorem fst_none {p : Nat → Bool} {t : Nat} (h : ∀ M, M < t → p M = false) : fstN p t = none := by
  rw [fstN, List.find?_eq_none]
  intro x hx
  rw [h x (by simpa using hx)]
  decide
theorem fst_some {p : Nat → Bool} {t N : Nat} (h : ∀ M, M < N → p M = false) (hp : p N = true) (ht : N < t) : fstN p t = some N := by
  rw [fstN, List.find?_eq_some_iff_append]
  refine ⟨hp, List.range N, (List.range t).drop (N + 1), ?_, fun x hx => by rw [h x (by simpa using hx)]; rfl⟩
  have h1 : (List.range t).take N = List.range N := by rw [List.take_range]; congr 1; omega
  have h2 : (List.range t).drop N = N :: (List.range t).drop (N + 1) := by
    rw [List.drop_eq_getElem_cons (by simpa using ht)]
    simp
  rw [← h1, ← h2, List.take_append_drop]
theorem below_succ {p : Nat → Bool} {N : Nat} (h : ∀ M, M < N → p M = false) (hp : p N = false) : ∀ M, M < N + 1 → p M = false := fun M hM => by
  by_cases e : M = N
  · rw [e]; exact hp
  · exact h M (by omega)
theorem VS_mem {m : Int} (hm : InM 6 m) : VS (mem m) := ⟨memN_nodup m 62, fun v hv => by have := mem_get hv hm; exact ⟨this.1, this.2.1⟩⟩
theorem VS_vmT {l : List (List (Int × Int))} (h : allF l = true) : VS (mem (vmT l l.length)) := VS_mem (inM6 (vmT_rng h _ (Nat.le_refl _)).1 (vmT_rng h _ (Nat.le_refl _)).2)
theorem allF_one {a : List (Int × Int)} (h : isF a = true) : allF [a] = true := by simp [allF, h]
theorem bor_zero {m : Int} (h : InM 6 m) : bor 0 m = m := by
  refine tb_ext (inM_bor (by decide) (inM_zero 6) h).1 h.1 fun i => ?_
  rw [tb_bor (by decide) (inM_zero 6) h, tb_zero, Bool.false_or]
theorem vmT_one {a : List (Int × Int)} (h : isF a = true) : vmT [a] [a].length = vmTo a a.length := by
  show bor 0 (vmTo a a.length) = _
  exact bor_zero (vm63 (isF_parts h).2.2.1)
/-- The truth set of a formula in the model with the number N. -/
def tv (n : Int) (xs vs : List Int) (a : List (Int × Int)) (N : Nat) : Int := gv (mT n) (mU n (bxB xs)) (vrow n vs (N : Int)) a
def badV (n : Int) (xs vs : List Int) (a : List (Int × Int)) (N : Nat) : Bool := !decide (tv n xs vs a N = (shl64 1 n) - 1)
theorem badV_no {n : Int} {xs vs Y : List Int} {a : List (Int × Int)} {N : Nat} (hX : Y = vrow n vs (N : Int)) (h : gv (mT n) (mU n (bxB xs)) Y a = (shl64 1 n) - 1) : badV n xs vs a N = false := by
  rw [badV, tv, ← hX, h]
  simp
theorem badV_yes {n : Int} {xs vs Y : List Int} {a : List (Int × Int)} {N : Nat} (hX : Y = vrow n vs (N : Int)) (h : ¬ gv (mT n) (mU n (bxB xs)) Y a = (shl64 1 n) - 1) : badV n xs vs a N = true := by
  rw [badV, tv, ← hX]
  simpa using h
def totN (n : Int) (vs : List Int) : Nat := (shl64 1 (n * (vs.length : Int))).toNat
def fstV (n : Int) (xs vs : List Int) (a : List (Int × Int)) : Option Nat := fstN (badV n xs vs a) (totN n vs)

theorem valuations_c (n : Int) (xs : List Int) (vs : List Int) : CallA Try.prog 89 [.agg [AI n, LI xs], LI vs] (.fn 125 [.rptr [LI vs], .rptr [AI n, LI xs]]) := by
  refine CallA.of Try.func89 rfl (by kernel_rfl) ?_
  refine R.go 11 (R.bx 1 (by kernel_rfl) ?_)
  refine R.bx 0 (by kernel_rfl) ?_
  exact R.retE (.fn 125 [.rptr [LI vs], .rptr [AI n, LI xs]]) (by kernel_rfl) (by kernel_rfl) (by rfl)

theorem variablesInG_c (l : List (List (Int × Int))) (vs : List Int) (hvs : vs = mem (vmT l l.length)) (hF : allF l = true) (hl : l.length ≤ 1000000000) : CallA Try.prog 84 [LLN l] (ownA eI 2 1 vs) := by rw [hvs]; exact variablesIn_c l hF hl

theorem isValid_c (n : Int) (xs : List Int) (a : List (Int × Int)) (hF : allF [a] = true) (hR : okFr n xs = true) (hfit : n * ((mem (vmT [a] [a].length)).length : Int) ≤ 16) (hl : a.length ≤ 1000000000) : CallA Try.prog 85 [.agg [AI n, LI xs], LN a] (.bool ((fstV n xs (mem (vmT [a] [a].length)) a).isNone)) := by
  obtain ⟨vs, hvs⟩ : ∃ vs, vs = mem (vmT [a] [a].length) := ⟨_, rfl⟩
  rw [← hvs] at hfit ⊢
  have hVS : VS vs := by rw [hvs]; exact VS_vmT hF
  have hRR := okFr_rel hR
  have hb0 : 0 ≤ n ∧ n ≤ 8 ∧ (xs.length : Int) = n := ⟨hRR.1, hRR.2.1, hRR.2.2.1⟩
  have hnc : 0 ≤ n * (vs.length : Int) := Int.mul_nonneg hb0.1 (by omega)
  have htot : shl64 1 (n * (vs.length : Int)) = (totN n vs : Int) := by have := shl_rng (n * (vs.length : Int)) hnc (by omega); unfold totN; omega
  have htr := shl_rng (n * (vs.length : Int)) hnc (by omega)
  have hvl : vs.length ≤ 62 := by rw [hvs]; exact mem_le _
  have hisF : isF a = true := by simpa using allF_get hF 0 (by simp)
  have hA := isF_okm hisF
  have hok : OKM 6 a := hA.1
  have hal : a.length ≤ 40 := hA.2
  refine CallA.of Try.func85 rfl (by kernel_rfl) ?_
  refine R.go 11 (R.lit (s := 1) (n := 1) (cs := rows eLN [a]) (by kernel_rfl) (by kernel_rfl) ?_)
  refine R.call true (variablesInG_c [a] vs (by assumption) hF (by first | omega | (simp <;> omega))).frz (by kernel_rfl) rfl (by kernel_rfl) ?_
  refine R.call true (valuations_c n xs vs) (by kernel_rfl) rfl (by kernel_rfl) ?_
  refine R.go 2 (R.range (caps := [.rptr [LI vs], .rptr [AI n, LI xs]]) Try.func125 rfl (by kernel_rfl) (by kernel_rfl) ?_)
  intro D1 us2
  refine R.go 8 (R.call true (size_c vs) (by kernel_rfl) rfl (by kernel_rfl) ?_)
  refine R.go 7 (R.ar (n * (vs.length : Int)) (by kernel_rfl) (by omega) (by omega) (by kernel_rfl) ?_)
  refine R.shl 1 (n * (vs.length : Int)) (by kernel_rfl) (by omega) (by kernel_rfl) ?_
  refine R.go 3 (R.loop ((fun | (N, X) => (⟨(frm 48 [(0, .ref 4), (1, .rptr [LI vs]), (2, .rptr [AI n, LI xs]), (4, .ref 5), (5, AI vs.length), (16, AI (shl64 1 (n * (vs.length : Int)))), (17, AI (N : Int))]), [.box 46 [AI n, LI xs], .box 33 [LN a], .box 4 [.bool false], .frame us2 (frm 19 [(0, .agg [AI n, LI xs]), (1, LN a), (2, .ptr 0 0), (3, .ptr 1 0), (4, .ptr 2 0), (6, .agg [AI n, LI xs]), (7, LN a), (8, LLN [a]), (9, LI vs), (10, .fn 125 [.rptr [LI vs], .rptr [AI n, LI xs]])]), loopObj Try.f85 D1 us2 .ready, rowA eI 2 1 X]⟩ : St) : Nat × (List Int) → St)) (fun | (N, X) => ((N : Int) ≤ shl64 1 (n * (vs.length : Int))) ∧ (X.length = 6) ∧ (∀ j : Nat, j < 6 → ¬ (j : Int) ∈ vs → X.getD j 0 = 0) ∧ (∀ M, M < N → badV n xs vs a M = false)) (fun | (N, X) => (totN n vs) - N) (0, (List.replicate 6 0)) [0, 1, 2, 4, 5, 16, 17] none (by kernel_rfl) (by kernel_rfl) (by kernel_rfl) ⟨(by omega), (by simp), (by exact zero_out vs), (by exact fun M hM => absurd hM (by omega))⟩ ?_)
  rintro ⟨N, X⟩ ⟨h6_1, h6_2, h6_3, h6_4⟩ R3 N4
  have hfull := shl_rng n hb0.1 (by omega)
  refine R.go 5 (R.cond ((N : Int) < (shl64 1 (n * (vs.length : Int)))) (by kernel_rfl) (fun c7 => ?_) (fun c7 => ?_))
  · refine R.go 16 (R.loop ((fun | (k, Y) => (⟨(frm 48 [(0, .ref 4), (1, .rptr [LI vs]), (2, .rptr [AI n, LI xs]), (4, .ref 5), (5, AI vs.length), (6, AI (N : Int)), (16, AI (shl64 1 (n * (vs.length : Int)))), (17, AI (N : Int)), (20, LI vs), (21, AI vs.length), (22, AI (k : Int))]), [.box 46 [AI n, LI xs], .box 33 [LN a], .box 4 [.bool false], .frame us2 (frm 19 [(0, .agg [AI n, LI xs]), (1, LN a), (2, .ptr 0 0), (3, .ptr 1 0), (4, .ptr 2 0), (6, .agg [AI n, LI xs]), (7, LN a), (8, LLN [a]), (9, LI vs), (10, .fn 125 [.rptr [LI vs], .rptr [AI n, LI xs]])]), loopObj Try.f85 D1 us2 .ready, rowA eI 2 1 Y]⟩ : St) : Nat × (List Int) → St)) (fun | (k, Y) => (k ≤ vs.length) ∧ (PV n vs (N : Int) k Y)) (fun | (k, Y) => vs.length - k) (0, X) [0, 1, 2, 4, 5, 6, 16, 17, 20, 21, 22] none (by kernel_rfl) (by kernel_rfl) (by kernel_rfl) ⟨(by omega), (by exact pv_start (by assumption) (by assumption))⟩ ?_)
    rintro ⟨k, Y⟩ ⟨h11_1, h11_2⟩ R8 N9
    have hY : PV n vs (N : Int) k Y := by assumption
    have hYl : Y.length = 6 := hY.1
    have hg := fun h : k < vs.length => vs_get hVS h
    have hnk : k < vs.length → 0 ≤ n * ((vs.length : Int) - 1 - (k : Int)) ∧ n * ((vs.length : Int) - 1 - (k : Int)) ≤ n * (vs.length : Int) := fun h => ⟨Int.mul_nonneg hb0.1 (by omega), Int.mul_le_mul_of_nonneg_left (by omega) hb0.1⟩
    skip
    refine R.go 5 (R.cond ((k : Int) < (vs.length : Int)) (by kernel_rfl) (fun c12 => ?_) (fun c12 => ?_))
    · have hg2 := hg (by omega)
      have hnk2 := hnk (by omega)
      refine R.go 6 (R.idx eI vs 0 k (k : Int) (by kernel_rfl) rfl eI_len (by omega) (by kernel_rfl) ?_)
      refine R.go 11 (R.ar ((vs.length : Int) - 1) (by kernel_rfl) (by omega) (by omega) (by kernel_rfl) ?_)
      refine R.go 1 (R.ar (((vs.length : Int) - 1) - (k : Int)) (by kernel_rfl) (by omega) (by omega) (by kernel_rfl) ?_)
      refine R.ar (n * (((vs.length : Int) - 1) - (k : Int))) (by kernel_rfl) (by omega) (by omega) (by kernel_rfl) ?_
      refine R.shr (N : Int) (n * (((vs.length : Int) - 1) - (k : Int))) (by kernel_rfl) (by omega) (by kernel_rfl) ?_
      refine R.go 1 (R.call true (frameAll_c n xs (by omega) (by omega)) (by kernel_rfl) rfl (by kernel_rfl) ?_)
      refine R.go 1 (R.idxO 5 1 Y.length (((vs.getD k 0)).toNat) (vs.getD k 0) (by kernel_rfl) (by omega) (by omega) (by kernel_rfl) ?_)
      refine R.stI 5 2 Y (((vs.getD k 0)).toNat) (band (shr64 (N : Int) (n * (((vs.length : Int) - 1) - (k : Int)))) ((shl64 1 n) - 1)) (by kernel_rfl) (by omega) (by kernel_rfl) ?_
      refine R.go 3 (R.ar ((k : Int) + 1) (by kernel_rfl) (by omega) (by omega) (by kernel_rfl) ?_)
      exact R.go 2 (R.stop R8 (by kernel_rfl) (N9 (k + 1, Y.set (((vs.getD k 0)).toNat) (band (shr64 (N : Int) (n * (((vs.length : Int) - 1) - (k : Int)))) ((shl64 1 n) - 1))) [0, 1, 2, 4, 5, 6, 16, 17, 20, 21, 22] none _ (by kernel_rfl) (by kernel_rfl) ⟨(by omega), (by exact pv_step hY hVS (by omega) rfl)⟩ (by show (vs.length - (k + 1)) < (vs.length - k); omega)))
    · have hX : Y = vrow n vs (N : Int) := pv_end hY (by omega)
      have hYo : OKM Y.length a := by rw [hYl]; exact hok
      refine R.go 5 (R.yield 4 D1 us2 (by kernel_rfl) (by kernel_rfl) ?_)
      intro l13 us14
      refine R.go 3 (R.begin (by kernel_rfl) (by kernel_rfl) ?_)
      refine R.go 6 (R.call false (truthSet_c n xs Y a hYo (by omega) (by omega) (by first | omega | (simp <;> omega)) hl) (by kernel_rfl) rfl (by kernel_rfl) ?_)
      refine R.go 1 (R.call true (frameAll_c n xs (by omega) (by omega)) (by kernel_rfl) rfl (by kernel_rfl) ?_)
      refine R.go 2 (R.condN ((gv (mT n) (mU n (bxB xs)) Y a) = ((shl64 1 n) - 1)) (by kernel_rfl) (fun c15 => ?_) (fun c15 => ?_))
      · refine R.go 4 (R.roundR (frm 48 [(0, .ref 4), (1, .rptr [LI vs]), (2, .rptr [AI n, LI xs]), (4, .ref 5), (5, AI vs.length), (6, AI (N : Int)), (16, AI (shl64 1 (n * (vs.length : Int)))), (17, AI (N : Int)), (20, LI vs), (21, AI vs.length), (22, AI (k : Int)), (23, .bool (decide ((k : Int) < (vs.length : Int)))), (43, .ref 4), (44, .ref 5)]) (by kernel_rfl) (by kernel_rfl) (by kernel_rfl) ?_)
        refine R.go 3 (R.left (.ret) (.tup []) (frm 19 [(0, .agg [AI n, LI xs]), (1, LN a), (2, .ptr 0 0), (3, .ptr 1 0), (4, .ptr 2 0), (6, .agg [AI n, LI xs]), (7, LN a), (8, LLN [a]), (9, LI vs), (10, .fn 125 [.rptr [LI vs], .rptr [AI n, LI xs]])]) (by kernel_rfl) (by kernel_rfl) (by kernel_rfl) (by kernel_rfl) ?_)
        exact R.retE (.bool false) (by kernel_rfl) (by kernel_rfl) (by first | (apply congrArg AV.bool; first | (rw [fstV, fst_some (N := N) (show ∀ M, M < N → badV n xs vs a M = false by assumption) (badV_yes hX (by assumption)) (by omega)]; rfl) | (rw [fstV, fst_none (fun M hM => (show ∀ M, M < N → badV n xs vs a M = false by assumption) M (by omega))]; rfl)) | (exfalso; omega))
      · refine R.go 2 (R.round (frm 48 [(0, .ref 4), (1, .rptr [LI vs]), (2, .rptr [AI n, LI xs]), (4, .ref 5), (5, AI vs.length), (6, AI (N : Int)), (16, AI (shl64 1 (n * (vs.length : Int)))), (17, AI (N : Int)), (20, LI vs), (21, AI vs.length), (22, AI (k : Int)), (23, .bool (decide ((k : Int) < (vs.length : Int)))), (43, .ref 4), (44, .ref 5)]) (by kernel_rfl) (by kernel_rfl) (by kernel_rfl) ?_)
        refine R.go 6 (R.ar ((N : Int) + 1) (by kernel_rfl) (by omega) (by omega) (by kernel_rfl) ?_)
        exact R.go 2 (R.stop R3 (by kernel_rfl) (N4 (N + 1, Y) [0, 1, 2, 4, 5, 16, 17] (some [0, 1, 2, 3, 4, 5]) _ (by kernel_rfl) (by kernel_rfl) ⟨(by omega), (by rw [hX]; exact vrow_len _ _ _), (by rw [hX]; exact vrow_out), (by exact below_succ (by assumption) (badV_no hX (by assumption)))⟩ (by show ((totN n vs) - (N + 1)) < ((totN n vs) - N); omega)))
  · refine R.go 1 (R.over (.tup []) (frm 19 [(0, .agg [AI n, LI xs]), (1, LN a), (2, .ptr 0 0), (3, .ptr 1 0), (4, .ptr 2 0), (6, .agg [AI n, LI xs]), (7, LN a), (8, LLN [a]), (9, LI vs), (10, .fn 125 [.rptr [LI vs], .rptr [AI n, LI xs]])]) (by kernel_rfl) (by kernel_rfl) (by kernel_rfl) (by kernel_rfl) ?_)
    exact R.go 5 (R.retE (.bool true) (by kernel_rfl) (by kernel_rfl) (by first | (apply congrArg AV.bool; first | (rw [fstV, fst_some (N := N) (show ∀ M, M < N → badV n xs vs a M = false by assumption) (badV_yes hX (by assumption)) (by omega)]; rfl) | (rw [fstV, fst_none (fun M hM => (show ∀ M, M < N → badV n xs vs a M = false by assumption) M (by omega))]; rfl)) | (exfalso; omega)))

end Go.Proofs.Ytkmjijomengoiaa
