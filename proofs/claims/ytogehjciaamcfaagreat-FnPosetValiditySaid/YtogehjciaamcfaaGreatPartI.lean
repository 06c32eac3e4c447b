/- Texts of the proof: Z03, P03, Z04, Z06, Z07. -/
import Derived.Test.YtogehjciaamcfaaGreatPartH

/-! The program's valuations on posets (a recursive closure that yields); validity and first refutations. -/
namespace Go.Proofs.YtogehjciaamcfaaGreat
open Go.RowKit Go.Abs

theorem li_next {a i q li : Nat} (h : li = (a + i) * q) : li + q = (a + (i + 1)) * q := by rw [h, ← Nat.add_assoc, Nat.succ_mul]
theorem li_start {p U q lo : Nat} (h : lo = p * (q * U)) : lo = (p * U + 0) * q := by rw [h, Nat.add_zero, Nat.mul_assoc, Nat.mul_comm U q]
theorem li_end {p U q lo li i : Nat} (h : lo = p * (q * U)) (h2 : li = (p * U + i) * q) (hi : i = U) : li = lo + q * U := by rw [h2, h, hi, Nat.add_mul, Nat.mul_assoc, Nat.mul_comm U q]
theorem li_bd {p U q lo li i : Nat} (h : lo = p * (q * U)) (h2 : li = (p * U + i) * q) (hi : i < U) : lo ≤ li ∧ li + q ≤ lo + q * U := by
  have h3 : (i + 1) * q ≤ U * q := Nat.mul_le_mul_right q hi
  have h4 : li = lo + i * q := by rw [h2, h, Nat.add_mul, Nat.mul_assoc, Nat.mul_comm U q]
  rw [Nat.succ_mul] at h3
  rw [Nat.mul_comm q U]
  omega
theorem pv_next {ups vs : List Int} {p d k i li q : Nat} (hv : VS vs) (hk : k + (d + 1) = vs.length) (hi : i < ups.length) (hq : q = ups.length ^ d) (hli : li = (p * ups.length + i) * q) (hq0 : 1 ≤ q) : PVU ups vs p k (vrU ups vs (li + q - 1)) := by
  refine pvU_of hv (by omega) ?_
  rw [show vs.length - k = d + 1 by omega]
  have h1 := Nat.succ_mul (p * ups.length + i) q
  refine last_div (i := i) hi ?_ ?_
  · rw [← hq, ← hli]; omega
  · rw [← hq, h1, ← hli]; omega

theorem badU_eq {n : Int} {xs ups vs : List Int} {a : List (Int × Int)} {p : Nat} (hu : ups = upL n xs) (h : badU n xs vs a p = false) : fcd n xs (vrU ups vs p) a = (shl64 1 n) - 1 := by subst hu; simpa [badU] using h
theorem badU_ne {n : Int} {xs ups vs : List Int} {a : List (Int × Int)} {p : Nat} (hu : ups = upL n xs) (h : badU n xs vs a p = true) : ¬ fcd n xs (vrU ups vs p) a = (shl64 1 n) - 1 := by subst hu; simpa [badU] using h
theorem fstN_none {p : Nat → Bool} {t : Nat} (h : fstN p t = none) : ∀ M : Nat, M < t → p M = false := fun M hM => by
  have := List.find?_eq_none.1 h M (List.mem_range.2 hM)
  simpa using this
theorem fstN_some {p : Nat → Bool} {N : Nat} : ∀ {t : Nat}, fstN p t = some N → N < t ∧ p N = true ∧ ∀ M : Nat, M < N → p M = false
  | 0, h => by simp [fstN] at h
  | t + 1, h => by
    have e : fstN p (t + 1) = (fstN p t).or (if p t = true then some t else none) := by
      have h5 : List.find? p [t] = if p t = true then some t else none := by cases e : p t <;> simp [List.find?, e]
      rw [fstN, List.range_succ, List.find?_append, h5]
      rfl
    rw [e] at h
    cases hN : fstN p t with
    | some N' =>
      rw [hN] at h
      simp only [Option.some_or, Option.some.injEq] at h
      subst h
      have := fstN_some hN
      exact ⟨by omega, this.2⟩
    | none =>
      rw [hN] at h
      simp only [Option.none_or] at h
      split at h
      · rename_i hp
        simp only [Option.some.injEq] at h
        subst h
        exact ⟨by omega, hp, fstN_none hN⟩
      · cases h

theorem valuationsP_c (n : Int) (xs : List Int) (vs : List Int) (ups : List Int) (hu : ups = upL n xs) (hP : okPo n xs = true) : CallA Tryz.prog 26 [.agg [AI n, LI xs], LI vs] (.fn 56 [.rptr [LI vs], .rptr [LI ups]]) := by
  refine CallA.of Tryz.func26 rfl (by kernel_rfl) ?_
  refine R.go 9 (R.call true (upsetsG_c n xs ups hu hP).frz (by kernel_rfl) rfl (by kernel_rfl) ?_)
  refine R.go 8 (R.bx 1 (by kernel_rfl) ?_)
  refine R.bx 2 (by kernel_rfl) ?_
  exact R.retE (.fn 56 [.rptr [LI vs], .rptr [LI ups]]) (by kernel_rfl) (by kernel_rfl) (by rfl)

theorem unf_go (n : Int) (xs vs ups : List Int) (a : List (Int × Int)) (hR : okPo n xs = true) (hb0 : 0 ≤ n ∧ n ≤ 8 ∧ (xs.length : Int) = n) (hVS : VS vs) (hvl : vs.length ≤ 62) (hul : ups.length ≤ 256) (hup : 1 ≤ ups.length) (hok : OKM 6 a) (hal : a.length ≤ 40) (hpl : a.any modN = false) (hu : ups = upL n xs) (D : Nat) (us : List Value) : ∀ (d k p q lo e : Nat) (r : List Int), k + d = vs.length → q = ups.length ^ d → lo = p * q → e + 1 = lo + q → PVU ups vs p k r → (∀ M : Nat, lo ≤ M → M ≤ e → badU n xs vs a M = false) → CallS Tryz.prog 57 [AI (k : Int), .rptr [LI vs], .ptr 7 0, .ptr 9 0, .rptr [LI ups], .ptr 10 0] [.box 26 [AI n, LI xs], .box 27 [LN a], .box 24 [.nil], .box 2 [AI 0], .box 4 [.bool false], .frame us (frm 26 [(0, .agg [AI n, LI xs]), (1, LN a), (2, .ptr 0 0), (3, .ptr 1 0), (4, .ptr 2 0), (5, .ptr 3 0), (6, .ptr 4 0), (9, .agg [AI n, LI xs]), (10, LN a), (11, LLN [a]), (12, LI vs), (13, .fn 56 [.rptr [LI vs], .rptr [LI ups]])]), loopObj Tryz.f18 D us .ready, .box 81 [.ref 6], rowA eI 2 1 r, .box 24 [.ref 8], .box 82 [.fn 57 [.rptr [LI vs], .ptr 7 0, .ptr 9 0, .rptr [LI ups], .ptr 10 0]]] (.bool true) [.box 26 [AI n, LI xs], .box 27 [LN a], .box 24 [.nil], .box 2 [AI 0], .box 4 [.bool false], .frame us (frm 26 [(0, .agg [AI n, LI xs]), (1, LN a), (2, .ptr 0 0), (3, .ptr 1 0), (4, .ptr 2 0), (5, .ptr 3 0), (6, .ptr 4 0), (9, .agg [AI n, LI xs]), (10, LN a), (11, LLN [a]), (12, LI vs), (13, .fn 56 [.rptr [LI vs], .rptr [LI ups]])]), loopObj Tryz.f18 D us .ready, .box 81 [.ref 6], rowA eI 2 1 (vrU ups vs e), .box 24 [.ref 8], .box 82 [.fn 57 [.rptr [LI vs], .ptr 7 0, .ptr 9 0, .rptr [LI ups], .ptr 10 0]]] := by
  intro d
  induction d with
  | zero =>
    intro k p q lo e r hk hq hlo he hr hb
    have hlp : lo = p := by rw [hlo, hq, Nat.pow_zero, Nat.mul_one]
    have hq1 : q = 1 := by rw [hq, Nat.pow_zero]
    have hrv : r = vrU ups vs p := pvU_end hr (by omega)
    have hkv : (k : Int) = (vs.length : Int) := by omega
    have hoX : OKM (vrU ups vs p).length a := by rw [vrU_len]; exact hok
    have hvl6 := vrU_len ups vs p
    have hfrr : okFr n xs = true := okPo_fr hR
    subst hrv
    have hep : e = p := by omega
    rw [hep]
    have hgood : fcd n xs (vrU ups vs p) a = (shl64 1 n) - 1 := badU_eq hu (hb p (by omega) (by omega))
    refine CallS.cast (CallS.drop [0, 1, 2, 3, 4, 5, 6, 7, 8, 9, 10] (CallS.of (res := .bool true) (hp' := [.box 26 [AI n, LI xs], .box 27 [LN a], .box 24 [.nil], .box 2 [AI 0], .box 4 [.bool false], .frame us (frm 26 [(0, .agg [AI n, LI xs]), (1, LN a), (2, .ptr 0 0), (3, .ptr 1 0), (4, .ptr 2 0), (5, .ptr 3 0), (6, .ptr 4 0), (9, .agg [AI n, LI xs]), (10, LN a), (11, LLN [a]), (12, LI vs), (13, .fn 56 [.rptr [LI vs], .rptr [LI ups]])]), loopObj Tryz.f18 D us .ready, .box 81 [.ref 6], rowA eI 2 1 (vrU ups vs p), .box 24 [.ref 8], .box 82 [.fn 57 [.rptr [LI vs], .ptr 7 0, .ptr 9 0, .rptr [LI ups], .ptr 10 0]], .dead, .dead]) Tryz.func57 rfl (by kernel_rfl) ?_) (by kernel_rfl) (by decide)) (by kernel_rfl) (by kernel_rfl)
    intro usC frC
    refine R.go 12 (R.thn (decide ((k : Int) = (vs.length : Int))) (by kernel_rfl) (dT hkv) ?_)
    refine R.go 4 (R.yield 6 D us (by kernel_rfl) (by kernel_rfl) ?_)
    intro l1 us2
    refine R.go 3 (R.begin (by kernel_rfl) (by kernel_rfl) ?_)
    refine R.go 6 (R.call false (forced2_c n xs (vrU ups vs p) a hoX hpl (by omega) (by omega) (by first | omega | (simp <;> omega)) (by first | omega | (simp <;> omega))) (by kernel_rfl) rfl (by kernel_rfl) ?_)
    refine R.go 6 (R.call true (pAll_c n xs (by omega) (by omega)) (by kernel_rfl) rfl (by kernel_rfl) ?_)
    refine R.go 2 (R.condN ((fcd n xs (vrU ups vs p) a) = ((shl64 1 n) - 1)) (by kernel_rfl) (fun c3 => ?_) (fun c3 => ?_))
    · exfalso; omega -- another end: .bool false
    · refine R.go 2 (R.round (frm 36 [(0, AI (k : Int)), (1, .rptr [LI vs]), (2, .ptr 7 0), (3, .ptr 9 0), (4, .rptr [LI ups]), (5, .ptr 10 0), (7, .bool false), (10, AI (k : Int)), (11, LI vs), (12, AI vs.length), (13, .bool (decide ((k : Int) = (vs.length : Int)))), (14, .ref 6), (15, .ref 8)]) (by kernel_rfl) (by kernel_rfl) (by kernel_rfl) ?_)
      exact R.go 2 (R.retS (by kernel_rfl) (by kernel_rfl) (by kernel_rfl) (by kernel_rfl))
  | succ d ih =>
    intro k p q lo e r hk hq hlo he hr hb
    obtain ⟨q1, hq1⟩ : ∃ q1, q1 = ups.length ^ d := ⟨_, rfl⟩
    have hqq : q = q1 * ups.length := by rw [hq, Nat.pow_succ, hq1]
    have hlo2 : lo = p * (q1 * ups.length) := by rw [hlo, hqq]
    have hq0 : 1 ≤ q1 := by rw [hq1]; exact Nat.pow_pos (by omega)
    have hkv : ¬ (k : Int) = (vs.length : Int) := by omega
    have hg := vs_get hVS (k := k) (by omega)
    refine CallS.cast (CallS.drop [0, 1, 2, 3, 4, 5, 6, 7, 8, 9, 10] (CallS.of (res := .bool true) (hp' := [.box 26 [AI n, LI xs], .box 27 [LN a], .box 24 [.nil], .box 2 [AI 0], .box 4 [.bool false], .frame us (frm 26 [(0, .agg [AI n, LI xs]), (1, LN a), (2, .ptr 0 0), (3, .ptr 1 0), (4, .ptr 2 0), (5, .ptr 3 0), (6, .ptr 4 0), (9, .agg [AI n, LI xs]), (10, LN a), (11, LLN [a]), (12, LI vs), (13, .fn 56 [.rptr [LI vs], .rptr [LI ups]])]), loopObj Tryz.f18 D us .ready, .box 81 [.ref 6], rowA eI 2 1 (vrU ups vs e), .box 24 [.ref 8], .box 82 [.fn 57 [.rptr [LI vs], .ptr 7 0, .ptr 9 0, .rptr [LI ups], .ptr 10 0]], .dead]) Tryz.func57 rfl (by kernel_rfl) ?_) (by kernel_rfl) (by decide)) (by kernel_rfl) (by kernel_rfl)
    intro usC frC
    refine R.go 12 (R.els (decide ((k : Int) = (vs.length : Int))) (by kernel_rfl) (dF hkv) ?_)
    refine R.go 9 (R.loop ((fun | (i, li, r1) => (⟨(frm 36 [(0, AI (k : Int)), (1, .rptr [LI vs]), (3, .ptr 9 0), (5, .ptr 10 0), (17, LI ups), (18, AI ups.length), (19, AI (i : Int))]), [.box 26 [AI n, LI xs], .box 27 [LN a], .box 24 [.nil], .box 2 [AI 0], .box 4 [.bool false], .frame us (frm 26 [(0, .agg [AI n, LI xs]), (1, LN a), (2, .ptr 0 0), (3, .ptr 1 0), (4, .ptr 2 0), (5, .ptr 3 0), (6, .ptr 4 0), (9, .agg [AI n, LI xs]), (10, LN a), (11, LLN [a]), (12, LI vs), (13, .fn 56 [.rptr [LI vs], .rptr [LI ups]])]), loopObj Tryz.f18 D us .ready, .box 81 [.ref 6], rowA eI 2 1 r1, .box 24 [.ref 8], .box 82 [.fn 57 [.rptr [LI vs], .ptr 7 0, .ptr 9 0, .rptr [LI ups], .ptr 10 0]], .frame usC frC]⟩ : St) : Nat × Nat × (List Int) → St)) (fun | (i, li, r1) => (i ≤ ups.length) ∧ (li = (p * ups.length + i) * q1) ∧ (PVU ups vs p k r1) ∧ (i = 0 ∨ r1 = vrU ups vs (li - 1))) (fun | (i, li, r1) => ups.length - i) (0, lo, r) [0, 1, 3, 5, 17, 18, 19] none (by kernel_rfl) (by kernel_rfl) (by kernel_rfl) ⟨(by omega), (by exact li_start hlo2), (by assumption), (by exact .inl rfl)⟩ ?_)
    rintro ⟨i, li, r1⟩ ⟨h4_1, h4_2, h4_3, h4_4⟩ R1 N2
    have hlI : li = (p * ups.length + i) * q1 := by assumption
    have hpv : PVU ups vs p k r1 := by assumption
    have hlb := fun h : i < ups.length => li_bd hlo2 hlI h
    have hr1l : r1.length = 6 := hpv.1
    have hle2 := fun h : i = ups.length => li_end hlo2 hlI h
    refine R.go 5 (R.cond ((i : Int) < (ups.length : Int)) (by kernel_rfl) (fun c5 => ?_) (fun c5 => ?_))
    · refine R.go 5 (R.idx eI ups 0 i (i : Int) (by kernel_rfl) rfl eI_len (by omega) (by kernel_rfl) ?_)
      refine R.go 8 (R.idx eI vs 0 k (k : Int) (by kernel_rfl) rfl eI_len (by omega) (by kernel_rfl) ?_)
      refine R.go 2 (R.idxO 8 1 r1.length (((vs.getD k 0)).toNat) (vs.getD k 0) (by kernel_rfl) (by omega) (by omega) (by kernel_rfl) ?_)
      refine R.stI 8 2 r1 (((vs.getD k 0)).toNat) (ups.getD i 0) (by kernel_rfl) (by omega) (by kernel_rfl) ?_
      have hlc := hlb (by omega)
      have hgo := ih (k + 1) (p * ups.length + i) q1 li (li + q1 - 1) (r1.set (vs.getD k 0).toNat (ups.getD i 0)) (by omega) hq1 hlI (by omega) (pvU_step hpv hVS (by omega) (by omega)) (fun M h1 h2 => hb M (by omega) (by omega))
      refine R.go 5 (R.ar ((k : Int) + 1) (by kernel_rfl) (by omega) (by omega) (by kernel_rfl) ?_)
      refine R.callS (CallS.frame usC frC hgo (by kernel_rfl) (by kernel_rfl) (Nat.le_of_ble_eq_true (by kernel_rfl))) (by kernel_rfl) (by kernel_rfl) (by kernel_rfl) ?_
      refine R.go 6 (R.ar ((i : Int) + 1) (by kernel_rfl) (by omega) (by omega) (by kernel_rfl) ?_)
      exact R.go 2 (R.stop R1 (by kernel_rfl) (N2 (i + 1, (li + q1 - 1 + 1), vrU ups vs (li + q1 - 1)) [0, 1, 3, 5, 17, 18, 19] none _ (by kernel_rfl) (by kernel_rfl) ⟨(by omega), (by rw [show li + q1 - 1 + 1 = li + q1 by omega]; exact li_next (by assumption)), (by exact pv_next hVS hk (by omega) hq1 hlI hq0), (by exact .inr rfl)⟩ (by show (ups.length - (i + 1)) < (ups.length - i); omega)))
    · have hle : li = e + 1 := by have h1 := li_end hlo2 hlI (by omega); omega
      refine R.go 3 ?_
      have hsub_r1 : r1 = vrU ups vs e := ((by assumption : i = 0 ∨ r1 = vrU ups vs (li - 1)).elim (fun h => absurd h (by omega)) (fun h => h.trans (by rw [show li - 1 = e by omega])))
      subst hsub_r1
      exact R.go 2 (R.retS (by kernel_rfl) (by kernel_rfl) (by kernel_rfl) (by kernel_rfl))
theorem unf_stop (n : Int) (xs vs ups : List Int) (a : List (Int × Int)) (hR : okPo n xs = true) (hb0 : 0 ≤ n ∧ n ≤ 8 ∧ (xs.length : Int) = n) (hVS : VS vs) (hvl : vs.length ≤ 62) (hul : ups.length ≤ 256) (hup : 1 ≤ ups.length) (hok : OKM 6 a) (hal : a.length ≤ 40) (hpl : a.any modN = false) (hu : ups = upL n xs) (D : Nat) (us : List Value) : ∀ (d k p q lo : Nat) (r : List Int), k + d = vs.length → q = ups.length ^ d → lo = p * q → PVU ups vs p k r → (N0 : Nat) → lo ≤ N0 → N0 < lo + q → (∀ M : Nat, M < N0 → badU n xs vs a M = false) → badU n xs vs a N0 = true → CallS Tryz.prog 57 [AI (k : Int), .rptr [LI vs], .ptr 7 0, .ptr 9 0, .rptr [LI ups], .ptr 10 0] [.box 26 [AI n, LI xs], .box 27 [LN a], .box 24 [.nil], .box 2 [AI 0], .box 4 [.bool false], .frame us (frm 26 [(0, .agg [AI n, LI xs]), (1, LN a), (2, .ptr 0 0), (3, .ptr 1 0), (4, .ptr 2 0), (5, .ptr 3 0), (6, .ptr 4 0), (9, .agg [AI n, LI xs]), (10, LN a), (11, LLN [a]), (12, LI vs), (13, .fn 56 [.rptr [LI vs], .rptr [LI ups]])]), loopObj Tryz.f18 D us .ready, .box 81 [.ref 6], rowA eI 2 1 r, .box 24 [.ref 8], .box 82 [.fn 57 [.rptr [LI vs], .ptr 7 0, .ptr 9 0, .rptr [LI ups], .ptr 10 0]]] (.bool false) [.box 26 [AI n, LI xs], .box 27 [LN a], .box 24 [.ref 11], .box 2 [AI (fcd n xs (vrU ups vs N0) a)], .box 4 [.bool true], .frame us (frm 26 [(0, .agg [AI n, LI xs]), (1, LN a), (2, .ptr 0 0), (3, .ptr 1 0), (4, .ptr 2 0), (5, .ptr 3 0), (6, .ptr 4 0), (9, .agg [AI n, LI xs]), (10, LN a), (11, LLN [a]), (12, LI vs), (13, .fn 56 [.rptr [LI vs], .rptr [LI ups]])]), loopObj Tryz.f18 D us (.done .ret), .box 81 [.ref 6], rowA eI 2 1 (vrU ups vs N0), .box 24 [.ref 8], .box 82 [.fn 57 [.rptr [LI vs], .ptr 7 0, .ptr 9 0, .rptr [LI ups], .ptr 10 0]], rowA eI 2 1 (vrU ups vs N0)] := by
  intro d
  induction d with
  | zero =>
    intro k p q lo r hk hq hlo hr N0 h1 h2 hn hp0
    have hlp : lo = p := by rw [hlo, hq, Nat.pow_zero, Nat.mul_one]
    have hq1 : q = 1 := by rw [hq, Nat.pow_zero]
    have hrv : r = vrU ups vs p := pvU_end hr (by omega)
    have hkv : (k : Int) = (vs.length : Int) := by omega
    have hoX : OKM (vrU ups vs p).length a := by rw [vrU_len]; exact hok
    have hvl6 := vrU_len ups vs p
    have hfrr : okFr n xs = true := okPo_fr hR
    subst hrv
    have hep : N0 = p := by omega
    rw [hep]
    have hbad : ¬ fcd n xs (vrU ups vs p) a = (shl64 1 n) - 1 := badU_ne hu (by rw [← hep]; exact hp0)
    refine CallS.cast (CallS.drop [0, 1, 2, 3, 4, 5, 6, 7, 8, 9, 10, 13] (CallS.of (res := .bool false) (hp' := [.box 26 [AI n, LI xs], .box 27 [LN a], .box 24 [.ref 13], .box 2 [AI (fcd n xs (vrU ups vs p) a)], .box 4 [.bool true], .frame us (frm 26 [(0, .agg [AI n, LI xs]), (1, LN a), (2, .ptr 0 0), (3, .ptr 1 0), (4, .ptr 2 0), (5, .ptr 3 0), (6, .ptr 4 0), (9, .agg [AI n, LI xs]), (10, LN a), (11, LLN [a]), (12, LI vs), (13, .fn 56 [.rptr [LI vs], .rptr [LI ups]])]), loopObj Tryz.f18 D us (.done .ret), .box 81 [.ref 6], rowA eI 2 1 (vrU ups vs p), .box 24 [.ref 8], .box 82 [.fn 57 [.rptr [LI vs], .ptr 7 0, .ptr 9 0, .rptr [LI ups], .ptr 10 0]], .dead, .dead, rowA eI 2 1 (vrU ups vs p)]) Tryz.func57 rfl (by kernel_rfl) ?_) (by kernel_rfl) (by decide)) (by kernel_rfl) (by kernel_rfl)
    intro usC frC
    refine R.go 12 (R.thn (decide ((k : Int) = (vs.length : Int))) (by kernel_rfl) (dT hkv) ?_)
    refine R.go 4 (R.yield 6 D us (by kernel_rfl) (by kernel_rfl) ?_)
    intro l1 us2
    refine R.go 3 (R.begin (by kernel_rfl) (by kernel_rfl) ?_)
    refine R.go 6 (R.call false (forced2_c n xs (vrU ups vs p) a hoX hpl (by omega) (by omega) (by first | omega | (simp <;> omega)) (by first | omega | (simp <;> omega))) (by kernel_rfl) rfl (by kernel_rfl) ?_)
    refine R.go 6 (R.call true (pAll_c n xs (by omega) (by omega)) (by kernel_rfl) rfl (by kernel_rfl) ?_)
    refine R.go 2 (R.condN ((fcd n xs (vrU ups vs p) a) = ((shl64 1 n) - 1)) (by kernel_rfl) (fun c3 => ?_) (fun c3 => ?_))
    · refine R.go 3 (R.call false (clone_c (vrU ups vs p) (by first | omega | (simp <;> omega))) (by kernel_rfl) (ownA_closed eI_closed 2 1 (vrU ups vs p)) (by kernel_rfl) ?_)
      refine R.go 5 (R.roundR (frm 36 [(0, AI (k : Int)), (1, .rptr [LI vs]), (2, .ptr 7 0), (3, .ptr 9 0), (4, .rptr [LI ups]), (5, .ptr 10 0), (7, .bool false), (10, AI (k : Int)), (11, LI vs), (12, AI vs.length), (13, .bool (decide ((k : Int) = (vs.length : Int)))), (14, .ref 6), (15, .ref 8)]) (by kernel_rfl) (by kernel_rfl) (by kernel_rfl) ?_)
      exact R.go 2 (R.retS (by kernel_rfl) (by kernel_rfl) (by kernel_rfl) (by kernel_rfl))
    · exfalso; omega -- another end: .bool true
  | succ d ih =>
    intro k p q lo r hk hq hlo hr N0 h1 h2 hn hp0
    obtain ⟨q1, hq1⟩ : ∃ q1, q1 = ups.length ^ d := ⟨_, rfl⟩
    have hqq : q = q1 * ups.length := by rw [hq, Nat.pow_succ, hq1]
    have hlo2 : lo = p * (q1 * ups.length) := by rw [hlo, hqq]
    have hq0 : 1 ≤ q1 := by rw [hq1]; exact Nat.pow_pos (by omega)
    have hkv : ¬ (k : Int) = (vs.length : Int) := by omega
    have hg := vs_get hVS (k := k) (by omega)
    refine CallS.cast (CallS.drop [0, 1, 2, 3, 4, 5, 6, 7, 8, 9, 10, 12] (CallS.of (res := .bool false) (hp' := [.box 26 [AI n, LI xs], .box 27 [LN a], .box 24 [.ref 12], .box 2 [AI (fcd n xs (vrU ups vs N0) a)], .box 4 [.bool true], .frame us (frm 26 [(0, .agg [AI n, LI xs]), (1, LN a), (2, .ptr 0 0), (3, .ptr 1 0), (4, .ptr 2 0), (5, .ptr 3 0), (6, .ptr 4 0), (9, .agg [AI n, LI xs]), (10, LN a), (11, LLN [a]), (12, LI vs), (13, .fn 56 [.rptr [LI vs], .rptr [LI ups]])]), loopObj Tryz.f18 D us (.done .ret), .box 81 [.ref 6], rowA eI 2 1 (vrU ups vs N0), .box 24 [.ref 8], .box 82 [.fn 57 [.rptr [LI vs], .ptr 7 0, .ptr 9 0, .rptr [LI ups], .ptr 10 0]], .dead, rowA eI 2 1 (vrU ups vs N0)]) Tryz.func57 rfl (by kernel_rfl) ?_) (by kernel_rfl) (by decide)) (by kernel_rfl) (by kernel_rfl)
    intro usC frC
    refine R.go 12 (R.els (decide ((k : Int) = (vs.length : Int))) (by kernel_rfl) (dF hkv) ?_)
    refine R.go 9 (R.loop ((fun | (i, li, r1) => (⟨(frm 36 [(0, AI (k : Int)), (1, .rptr [LI vs]), (3, .ptr 9 0), (5, .ptr 10 0), (17, LI ups), (18, AI ups.length), (19, AI (i : Int))]), [.box 26 [AI n, LI xs], .box 27 [LN a], .box 24 [.nil], .box 2 [AI 0], .box 4 [.bool false], .frame us (frm 26 [(0, .agg [AI n, LI xs]), (1, LN a), (2, .ptr 0 0), (3, .ptr 1 0), (4, .ptr 2 0), (5, .ptr 3 0), (6, .ptr 4 0), (9, .agg [AI n, LI xs]), (10, LN a), (11, LLN [a]), (12, LI vs), (13, .fn 56 [.rptr [LI vs], .rptr [LI ups]])]), loopObj Tryz.f18 D us .ready, .box 81 [.ref 6], rowA eI 2 1 r1, .box 24 [.ref 8], .box 82 [.fn 57 [.rptr [LI vs], .ptr 7 0, .ptr 9 0, .rptr [LI ups], .ptr 10 0]], .frame usC frC]⟩ : St) : Nat × Nat × (List Int) → St)) (fun | (i, li, r1) => (i ≤ ups.length) ∧ (li = (p * ups.length + i) * q1) ∧ (PVU ups vs p k r1) ∧ (i = 0 ∨ r1 = vrU ups vs (li - 1)) ∧ (li ≤ N0)) (fun | (i, li, r1) => ups.length - i) (0, lo, r) [0, 1, 3, 5, 17, 18, 19] none (by kernel_rfl) (by kernel_rfl) (by kernel_rfl) ⟨(by omega), (by exact li_start hlo2), (by assumption), (by exact .inl rfl), (by omega)⟩ ?_)
    rintro ⟨i, li, r1⟩ ⟨h4_1, h4_2, h4_3, h4_4, h4_5⟩ R1 N2
    have hlI : li = (p * ups.length + i) * q1 := by assumption
    have hpv : PVU ups vs p k r1 := by assumption
    have hlb := fun h : i < ups.length => li_bd hlo2 hlI h
    have hr1l : r1.length = 6 := hpv.1
    have hle2 := fun h : i = ups.length => li_end hlo2 hlI h
    refine R.go 5 (R.cond ((i : Int) < (ups.length : Int)) (by kernel_rfl) (fun c5 => ?_) (fun c5 => ?_))
    · refine R.go 5 (R.idx eI ups 0 i (i : Int) (by kernel_rfl) rfl eI_len (by omega) (by kernel_rfl) ?_)
      refine R.go 8 (R.idx eI vs 0 k (k : Int) (by kernel_rfl) rfl eI_len (by omega) (by kernel_rfl) ?_)
      refine R.go 2 (R.idxO 8 1 r1.length (((vs.getD k 0)).toNat) (vs.getD k 0) (by kernel_rfl) (by omega) (by omega) (by kernel_rfl) ?_)
      refine R.stI 8 2 r1 (((vs.getD k 0)).toNat) (ups.getD i 0) (by kernel_rfl) (by omega) (by kernel_rfl) ?_
      have hlc := hlb (by omega)
      have hgo := fun h : ¬ N0 < li + q1 => unf_go n xs vs ups a hR hb0 hVS hvl hul hup hok hal hpl hu D us d (k + 1) (p * ups.length + i) q1 li (li + q1 - 1) (r1.set (vs.getD k 0).toNat (ups.getD i 0)) (by omega) hq1 hlI (by omega) (pvU_step hpv hVS (by omega) (by omega)) (fun M h1 h2 => hn M (by omega))
      have hstop := fun h : N0 < li + q1 => ih (k + 1) (p * ups.length + i) q1 li (r1.set (vs.getD k 0).toNat (ups.getD i 0)) (by omega) hq1 hlI (pvU_step hpv hVS (by omega) (by omega)) N0 (by omega) h hn hp0
      refine R.go 4 ?_
      by_cases c6 : N0 < li + q1
      · refine R.go 1 (R.ar ((k : Int) + 1) (by kernel_rfl) (by omega) (by omega) (by kernel_rfl) ?_)
        refine R.callS (CallS.frame usC frC (hstop (by assumption)) (by kernel_rfl) (by kernel_rfl) (Nat.le_of_ble_eq_true (by kernel_rfl))) (by kernel_rfl) (by kernel_rfl) (by kernel_rfl) ?_
        exact R.go 7 (R.retS (by kernel_rfl) (by kernel_rfl) (by kernel_rfl) (by kernel_rfl))
      · refine R.go 1 (R.ar ((k : Int) + 1) (by kernel_rfl) (by omega) (by omega) (by kernel_rfl) ?_)
        refine R.callS (CallS.frame usC frC (hgo (by assumption)) (by kernel_rfl) (by kernel_rfl) (Nat.le_of_ble_eq_true (by kernel_rfl))) (by kernel_rfl) (by kernel_rfl) (by kernel_rfl) ?_
        refine R.go 6 (R.ar ((i : Int) + 1) (by kernel_rfl) (by omega) (by omega) (by kernel_rfl) ?_)
        exact R.go 2 (R.stop R1 (by kernel_rfl) (N2 (i + 1, (li + q1 - 1 + 1), vrU ups vs (li + q1 - 1)) [0, 1, 3, 5, 17, 18, 19] none _ (by kernel_rfl) (by kernel_rfl) ⟨(by omega), (by rw [show li + q1 - 1 + 1 = li + q1 by omega]; exact li_next (by assumption)), (by exact pv_next hVS hk (by omega) hq1 hlI hq0), (by exact .inr rfl), (by omega)⟩ (by show (ups.length - (i + 1)) < (ups.length - i); omega)))
    · exfalso; omega -- another end: .bool true

theorem unforced_none (n : Int) (xs : List Int) (a : List (Int × Int)) (hR : okPo n xs = true) (hF : isF a = true) (hpl : a.any modN = false) (ht : pwT ((upL n xs).length : Int) (mem (vmT [a] [a].length)).length ≤ 4096) (hn : fstU n xs (mem (vmT [a] [a].length)) a = none) : CallA Tryz.prog 18 [.agg [AI n, LI xs], LN a] (.tup [ownA eI 2 1 [], AI 0, .bool false]) := by
  obtain ⟨vs, hvs⟩ : ∃ vs, vs = mem (vmT [a] [a].length) := ⟨_, rfl⟩
  obtain ⟨ups, hu⟩ : ∃ ups, ups = upL n xs := ⟨_, rfl⟩
  rw [← hvs] at ht hn
  rw [← hu] at ht
  have hfr : okFr n xs = true := okPo_fr hR
  have hFr := okFr_rel hfr
  have hb0 : 0 ≤ n ∧ n ≤ 8 ∧ (xs.length : Int) = n := ⟨hFr.1, hFr.2.1, hFr.2.2.1⟩
  have hAF : allF [a] = true := allF_one hF
  have hVS : VS vs := by rw [hvs]; exact VS_vmT hAF
  have hvl : vs.length ≤ 62 := by rw [hvs]; exact mem_le _
  have hul : ups.length ≤ 256 := by rw [hu]; exact upL_len hR
  have hup : 1 ≤ ups.length := by rw [hu]; exact upL_pos hR
  have htt : (totU n xs vs : Int) = pwT (ups.length : Int) vs.length := by rw [hu]; rw [hu] at ht; exact tot_le ht
  have hok : OKM 6 a := (isF_okm hF).1
  have hal : a.length ≤ 40 := (isF_okm hF).2
  have hok2 := fun N => show OKM (vrU ups vs N).length a by rw [vrU_len]; exact hok
  have hlen := okm_pos hok
  have hq1 : 1 ≤ ups.length ^ vs.length := Nat.pow_pos (by omega)
  have hn0 := fstN_none hn
  rw [totU, ← hu] at hn0
  refine CallA.of Tryz.func18 rfl (by kernel_rfl) ?_
  refine R.go 13 (R.lit (s := 1) (n := 1) (cs := rows eLN [a]) (by kernel_rfl) (by kernel_rfl) ?_)
  refine R.call true (variablesInG_c [a] vs (by assumption) hAF (by first | omega | (simp <;> omega))).frz (by kernel_rfl) rfl (by kernel_rfl) ?_
  refine R.call true (valuationsP_c n xs vs ups (by assumption) hR) (by kernel_rfl) rfl (by kernel_rfl) ?_
  refine R.go 2 (R.range (caps := [.rptr [LI vs], .rptr [LI ups]]) Tryz.func56 rfl (by kernel_rfl) (by kernel_rfl) ?_)
  intro D1 us2
  refine R.go 21 (R.callS (unf_go n xs vs ups a hR hb0 hVS hvl hul hup hok hal hpl hu D1 us2 vs.length 0 0 (ups.length ^ vs.length) 0 ((ups.length ^ vs.length) - 1) (List.replicate 6 0) (by omega) rfl (by simp) (by omega) (pvU_start ups vs) (fun M h1 h2 => hn0 M (by omega))) (by kernel_rfl) (by kernel_rfl) (by kernel_rfl) ?_)
  refine R.go 1 (R.over (.tup []) (frm 26 [(0, .agg [AI n, LI xs]), (1, LN a), (2, .ptr 0 0), (3, .ptr 1 0), (4, .ptr 2 0), (5, .ptr 3 0), (6, .ptr 4 0), (9, .agg [AI n, LI xs]), (10, LN a), (11, LLN [a]), (12, LI vs), (13, .fn 56 [.rptr [LI vs], .rptr [LI ups]])]) (by kernel_rfl) (by kernel_rfl) (by kernel_rfl) (by kernel_rfl) ?_)
  refine R.go 7 (R.nilB 2 0 2 1 (by kernel_rfl) ?_)
  exact R.retE (.tup [ownA eI 2 1 [], AI 0, .bool false]) (by kernel_rfl) (by kernel_rfl) (by rfl)

theorem unforced_some (N : Nat) (n : Int) (xs : List Int) (a : List (Int × Int)) (hR : okPo n xs = true) (hF : isF a = true) (hpl : a.any modN = false) (ht : pwT ((upL n xs).length : Int) (mem (vmT [a] [a].length)).length ≤ 4096) (hn : fstU n xs (mem (vmT [a] [a].length)) a = some N) : CallA Tryz.prog 18 [.agg [AI n, LI xs], LN a] (.tup [ownA eI 2 1 (vrU (upL n xs) (mem (vmT [a] [a].length)) N), AI (fcd n xs (vrU (upL n xs) (mem (vmT [a] [a].length)) N) a), .bool true]) := by
  obtain ⟨vs, hvs⟩ : ∃ vs, vs = mem (vmT [a] [a].length) := ⟨_, rfl⟩
  obtain ⟨ups, hu⟩ : ∃ ups, ups = upL n xs := ⟨_, rfl⟩
  rw [← hvs] at ht hn ⊢
  rw [← hu]
  rw [← hu] at ht
  have hfr : okFr n xs = true := okPo_fr hR
  have hFr := okFr_rel hfr
  have hb0 : 0 ≤ n ∧ n ≤ 8 ∧ (xs.length : Int) = n := ⟨hFr.1, hFr.2.1, hFr.2.2.1⟩
  have hAF : allF [a] = true := allF_one hF
  have hVS : VS vs := by rw [hvs]; exact VS_vmT hAF
  have hvl : vs.length ≤ 62 := by rw [hvs]; exact mem_le _
  have hul : ups.length ≤ 256 := by rw [hu]; exact upL_len hR
  have hup : 1 ≤ ups.length := by rw [hu]; exact upL_pos hR
  have htt : (totU n xs vs : Int) = pwT (ups.length : Int) vs.length := by rw [hu]; rw [hu] at ht; exact tot_le ht
  have hok : OKM 6 a := (isF_okm hF).1
  have hal : a.length ≤ 40 := (isF_okm hF).2
  have hok2 := fun N => show OKM (vrU ups vs N).length a by rw [vrU_len]; exact hok
  have hlen := okm_pos hok
  have hq1 : 1 ≤ ups.length ^ vs.length := Nat.pow_pos (by omega)
  obtain ⟨hn1, hn2, hn3⟩ := fstN_some hn
  rw [totU, ← hu] at hn1
  refine CallA.of Tryz.func18 rfl (by kernel_rfl) ?_
  refine R.go 13 (R.lit (s := 1) (n := 1) (cs := rows eLN [a]) (by kernel_rfl) (by kernel_rfl) ?_)
  refine R.call true (variablesInG_c [a] vs (by assumption) hAF (by first | omega | (simp <;> omega))).frz (by kernel_rfl) rfl (by kernel_rfl) ?_
  refine R.call true (valuationsP_c n xs vs ups (by assumption) hR) (by kernel_rfl) rfl (by kernel_rfl) ?_
  refine R.go 2 (R.range (caps := [.rptr [LI vs], .rptr [LI ups]]) Tryz.func56 rfl (by kernel_rfl) (by kernel_rfl) ?_)
  intro D1 us2
  refine R.go 21 (R.callS (unf_stop n xs vs ups a hR hb0 hVS hvl hul hup hok hal hpl hu D1 us2 vs.length 0 0 (ups.length ^ vs.length) 0 (List.replicate 6 0) (by omega) rfl (by simp) (pvU_start ups vs) N (by omega) (by omega) hn3 hn2) (by kernel_rfl) (by kernel_rfl) (by kernel_rfl) ?_)
  refine R.go 1 (R.left (.ret) (.tup []) (frm 26 [(0, .agg [AI n, LI xs]), (1, LN a), (2, .ptr 0 0), (3, .ptr 1 0), (4, .ptr 2 0), (5, .ptr 3 0), (6, .ptr 4 0), (9, .agg [AI n, LI xs]), (10, LN a), (11, LLN [a]), (12, LI vs), (13, .fn 56 [.rptr [LI vs], .rptr [LI ups]])]) (by kernel_rfl) (by kernel_rfl) (by kernel_rfl) (by kernel_rfl) ?_)
  exact R.retE (.tup [ownA eI 2 1 (vrU ups vs N), AI (fcd n xs (vrU ups vs N) a), .bool true]) (by kernel_rfl) (by kernel_rfl) (by first | (rfl) | (exfalso; omega))

end Go.Proofs.YtogehjciaamcfaaGreat


/-! Values of formulas that keep within a set; words that agree on a set. -/
namespace Go.Proofs.YtogehjciaamcfaaGreat
open Go.RowKit Go.Abs

section
variable {G : Int → Prop} {b : Int → Int → Int → Int} {u u' : Int → Int → Int} {vs : List Int}
/-- On values within G two words agree, and stay within G. -/
theorem stkg_in (g0 : G 0) (hb : ∀ k p q, G p → G q → G (b k p q)) (hu : ∀ k p, (k = 5 ∨ k = 6) → G p → G (u k p) ∧ u k p = u' k p) :
    ∀ {l : List (Int × Int)} {o : Nat}, (∀ x ∈ l, 0 ≤ x.1 ∧ x.1 ≤ 6 ∧ (x.1 = 0 → G (vs.getD x.2.toNat 0))) → pe o l = some l.length → (∀ v ∈ stkG b u vs l, G v) ∧ stkG b u vs l = stkG b u' vs l
  | [], _, _, _ => ⟨fun v hv => by simp [stkG] at hv, rfl⟩
  | x :: l, 0, _, h => by rw [pe_zero] at h; cases h
  | x :: l, o + 1, hx, h => by
    obtain ⟨k, hk, h⟩ := pe_cons h
    have h' : pe (o + partsN x.1) l = some l.length := by rw [h]; congr 1; simpa using hk.symm
    obtain ⟨i1, i2⟩ := stkg_in g0 hb hu (fun y hy => hx y (List.mem_cons_of_mem _ hy)) h'
    obtain ⟨ws, w1, w2⟩ := stkg_parts b u vs (fun y hy => ⟨(hx y (List.mem_cons_of_mem _ hy)).1, (hx y (List.mem_cons_of_mem _ hy)).2.1⟩) h'
    have hw : stkG b u vs l = ws := by unfold stkG; rw [w2, List.append_nil]
    have hx0 := hx x (List.mem_cons_self ..)
    have e1 : ∀ f : Int → Int → Int, stkG b f vs (x :: l) = stepG b f vs x (stkG b f vs l) := fun _ => rfl
    rw [e1, e1, ← i2, hw]
    rw [hw] at i1
    have hc : x.1 = 0 ∨ x.1 = 1 ∨ (x.1 = 2 ∨ x.1 = 3 ∨ x.1 = 4) ∨ (x.1 = 5 ∨ x.1 = 6) := by omega
    rcases hc with hc | hc | hc | hc
    · rw [stepG_var _ _ _ hc, stepG_var _ _ _ hc]
      exact ⟨fun v hv => by rcases List.mem_cons.1 hv with rfl | hv; exact hx0.2.2 hc; exact i1 v hv, rfl⟩
    · rw [stepG_bot _ _ _ hc, stepG_bot _ _ _ hc]
      exact ⟨fun v hv => by rcases List.mem_cons.1 hv with rfl | hv; exact g0; exact i1 v hv, rfl⟩
    · rw [(partsN_two _).2 hc] at w1
      match ws, w1, i1 with
      | p :: q :: ws, _, i1 =>
        rw [stepG_two _ _ _ hc, stepG_two _ _ _ hc]
        exact ⟨fun v hv => by rcases List.mem_cons.1 hv with rfl | hv; exact hb _ _ _ (i1 p (by simp)) (i1 q (by simp)); exact i1 v (by simp [hv]), rfl⟩
    · rw [partsN_1 hc] at w1
      match ws, w1, i1 with
      | p :: ws, _, i1 =>
        rw [stepG_one _ _ _ hc, stepG_one _ _ _ hc]
        have hp := hu x.1 p hc (i1 p (by simp))
        exact ⟨fun v hv => by rcases List.mem_cons.1 hv with rfl | hv; exact hp.1; exact i1 v (by simp [hv]), by rw [hp.2]⟩
theorem gv_in {nv : Nat} {a : List (Int × Int)} (h : OKM nv a) (g0 : G 0) (hv : ∀ j : Nat, j < nv → G (vs.getD j 0)) (hb : ∀ k p q, G p → G q → G (b k p q)) (hu : ∀ k p, (k = 5 ∨ k = 6) → G p → G (u k p) ∧ u k p = u' k p) : G (gv b u vs a) ∧ gv b u vs a = gv b u' vs a := by
  obtain ⟨h1, h2⟩ := stkg_in (vs := vs) g0 hb hu (fun x hx => ⟨(h.2 x hx).1, (h.2 x hx).2.1, fun h0 => hv _ (by have := (h.2 x hx).2.2 h0; omega)⟩) h.1
  refine ⟨?_, by unfold gv; rw [h2]⟩
  have h3 : stkG b u vs a = [gv b u vs a] := by
    have := okm_stk b u vs h []
    simpa [stkG] using this
  exact h1 _ (by rw [h3]; simp)
end

end Go.Proofs.YtogehjciaamcfaaGreat


/-! IsPosetValid, FirstUnforced: both packages, their laws. -/
namespace Go.Proofs.YtogehjciaamcfaaGreat
open Go.RowKit Go.Abs

theorem unforced_c (n : Int) (xs : List Int) (a : List (Int × Int)) (hR : okPo n xs = true) (hF : isF a = true) (hpl : a.any modN = false) (ht : pwT ((upL n xs).length : Int) (mem (vmT [a] [a].length)).length ≤ 4096) :
    CallA Tryz.prog 18 [.agg [AI n, LI xs], LN a] (.tup [ownA eI 2 1 (uRow n xs (mem (vmT [a] [a].length)) a), AI (uVal n xs (mem (vmT [a] [a].length)) a), .bool (fstU n xs (mem (vmT [a] [a].length)) a).isSome]) := by
  cases e : fstU n xs (mem (vmT [a] [a].length)) a with
  | none => exact (unforced_none n xs a hR hF hpl ht e).eq rfl (by simp only [uRow, uVal, e]; rfl)
  | some N => exact (unforced_some N n xs a hR hF hpl ht e).eq rfl (by simp only [uRow, uVal, e]; rfl)
theorem nn_eq {n : Int} (h0 : 0 ≤ n) : ((n.toNat : Nat) : Int) = n := by omega
theorem upTo_in (xs : List Int) : ∀ (k : Nat) (v : Int), v ∈ upTo xs k → 0 ≤ v ∧ v < (k : Int)
  | 0, v, h => by simp [upTo] at h
  | k + 1, v, h => by
    rw [upTo] at h
    split at h
    · rcases List.mem_append.1 h with h | h
      · have := upTo_in xs k v h; omega
      · rw [List.mem_singleton] at h; omega
    · have := upTo_in xs k v h; omega
theorem upL_in {n : Int} {xs : List Int} (h : okPo n xs = true) (j : Nat) : InM n.toNat ((upL n xs).getD j 0) := by
  have hF := okFr_rel (okPo_fr h)
  rw [List.getD_eq_getElem?_getD]
  rcases Nat.lt_or_ge j (upL n xs).length with hj | hj
  · rw [List.getElem?_eq_getElem hj, Option.getD_some]
    have h1 := upTo_in xs _ _ (List.getElem_mem hj)
    have h2 := shl_nat (i := n.toNat) (by omega)
    rw [nn_eq hF.1] at h2
    refine ⟨h1.1, ?_⟩
    have h3 : (upL n xs)[j] < shl64 1 n := by
      have := (shl_rng n hF.1 (by omega)).1
      omega
    rw [h2] at h3
    generalize 2 ^ n.toNat = q at h3
    omega
  · rw [List.getElem?_eq_none hj]; exact inM_zero _
theorem vrU_in {n : Int} {xs vs : List Int} (h : okPo n xs = true) (N : Nat) (j : Nat) (hj : j < 6) : InM n.toNat ((vrU (upL n xs) vs N).getD j 0) := by
  rw [vrU_get hj, vatU]
  split
  · exact upL_in h _
  · exact inM_zero _
theorem pT_in {n : Int} {xs : List Int} (hR : okFr n xs = true) {k p q : Int} (hp : InM n.toNat p) (hq : InM n.toNat q) : InM n.toNat (pT n (pxB xs) k p q) := by
  obtain ⟨h0, h8, hl, hr⟩ := okFr_rel hR
  have hn : n.toNat ≤ 61 := by omega
  have hf := inM_full (n := n.toNat) hn
  rw [nn_eq h0] at hf
  unfold pT
  split
  · exact inM_band hn hp hq
  · split
    · exact inM_bor hn hp hq
    · exact (boxB_ok hn hr (inM_bor hn (inM_bnot hn hf hp) hq) xs.length (by omega)).1
theorem fcd_in {n : Int} {xs X : List Int} {a : List (Int × Int)} (hR : okFr n xs = true) (ha : OKM 6 a) (hX : ∀ j : Nat, j < 6 → InM n.toNat (X.getD j 0)) : InM n.toNat (fcd n xs X a) :=
  (gv_in (G := InM n.toNat) (u' := pU) ha (inM_zero _) hX (fun _ _ _ hp hq => pT_in hR hp hq) (fun _ _ _ _ => ⟨inM_zero _, rfl⟩)).1
theorem mem_pos {m : Int} (h : InM 61 m) (hm : m ≠ 0) : 0 < (mem m).length := by
  obtain ⟨a, rfl, ha⟩ := inM_nat h
  obtain ⟨i, hi⟩ := Nat.exists_testBit_of_ne_zero (x := a) (by omega)
  have h1 : i < 61 := tb_lt h hi
  have : ((i : Nat) : Int) ∈ mem (a : Int) := memN_mem.2 ⟨i, by omega, hi, rfl⟩
  exact List.length_pos_of_mem this
theorem uVal_ne {n : Int} {xs vs : List Int} {a : List (Int × Int)} (hR : okPo n xs = true) (ha : OKM 6 a) (h : (fstU n xs vs a).isSome = true) :
    InM 61 (bnot ((shl64 1 n) - 1) (uVal n xs vs a)) ∧ 0 < (mem (bnot ((shl64 1 n) - 1) (uVal n xs vs a))).length := by
  obtain ⟨h0, h8, _, _⟩ := okFr_rel (okPo_fr hR)
  have hf := inM_full (n := n.toNat) (by omega)
  rw [nn_eq h0] at hf
  cases e : fstU n xs vs a with
  | none => rw [e] at h; cases h
  | some N =>
    have h1 := (fstN_some e).2.1
    have ht := fcd_in (okPo_fr hR) ha (X := vrU (upL n xs) vs N) (vrU_in hR N)
    have hi := inM_bnot (by omega) hf ht
    have e2 : uVal n xs vs a = fcd n xs (vrU (upL n xs) vs N) a := by simp only [uVal, e]
    rw [e2]
    refine ⟨inM_mono (by omega) hi, mem_pos (inM_mono (by omega) hi) fun hz => ?_⟩
    have hsub := (bnot_sub (by omega) hf ht).1 hz
    refine badU_ne rfl h1 (tb_ext ht.1 hf.1 fun i => ?_)
    rw [Bool.eq_iff_iff]
    refine ⟨fun hti => ?_, hsub i⟩
    have := tb_full (n := n.toNat) (by omega) i
    rw [nn_eq h0] at this
    rw [this]
    simpa using tb_lt ht hti
def fuC (n : Int) (xs : List Int) (a : List (Int × Int)) : Int := if pcode n xs [a] = 0 then (if (fstU n xs (mem (vmT [a] [a].length)) a).isSome = true then 0 else 4) else pcode n xs [a]
def fuR (n : Int) (xs : List Int) (a : List (Int × Int)) : List Int := if fuC n xs a = 0 then uRow n xs (mem (vmT [a] [a].length)) a else []
def fuX (n : Int) (xs : List Int) (a : List (Int × Int)) : Int := if fuC n xs a = 0 then (mem (bnot ((shl64 1 n) - 1) (uVal n xs (mem (vmT [a] [a].length)) a))).getD 0 0 else 0
section
variable {s : Nat} {n : Int} {xs : List Int} {a : List (Int × Int)}
theorem fu_bad (h : ¬ pcode n xs [a] = 0) : AV.tup [ownA eI s 1 [], AI 0, AI (pcode n xs [a])] = AV.tup [ownA eI s 1 (fuR n xs a), AI (fuX n xs a), AI (fuC n xs a)] := by
  have e : fuC n xs a = pcode n xs [a] := if_neg h
  rw [fuR, fuX, e, if_neg h, if_neg h]
theorem fu_none (h : pcode n xs [a] = 0) (h2 : (fstU n xs (mem (vmT [a] [a].length)) a).isSome = false) : AV.tup [ownA eI s 1 [], AI 0, AI 4] = AV.tup [ownA eI s 1 (fuR n xs a), AI (fuX n xs a), AI (fuC n xs a)] := by
  have e : fuC n xs a = 4 := by rw [fuC, if_pos h, if_neg (by rw [h2]; decide)]
  rw [fuR, fuX, e]; rfl
theorem fu_some (h : pcode n xs [a] = 0) (h2 : (fstU n xs (mem (vmT [a] [a].length)) a).isSome = true) : AV.tup [ownA eI s 1 (uRow n xs (mem (vmT [a] [a].length)) a), AI ((mem (bnot ((shl64 1 n) - 1) (uVal n xs (mem (vmT [a] [a].length)) a))).getD 0 0), AI 0] = AV.tup [ownA eI s 1 (fuR n xs a), AI (fuX n xs a), AI (fuC n xs a)] := by
  have e : fuC n xs a = 0 := by rw [fuC, if_pos h, if_pos h2]
  rw [fuR, fuX, e]; rfl
theorem uRow_len (n : Int) (xs vs : List Int) (a : List (Int × Int)) : (uRow n xs vs a).length ≤ 6 := by
  unfold uRow
  split
  · rw [vrU_len]; exact Nat.le_refl _
  · simp
theorem fuR_len (n : Int) (xs : List Int) (a : List (Int × Int)) : (fuR n xs a).length ≤ 6 := by
  unfold fuR
  split
  · exact uRow_len _ _ _ _
  · simp
end

theorem isValidP_c (n : Int) (xs : List Int) (a : List (Int × Int)) (hR : okPo n xs = true) (hF : isF a = true) (hpl : a.any modN = false) (ht : pwT ((upL n xs).length : Int) (mem (vmT [a] [a].length)).length ≤ 4096) : CallA Tryz.prog 25 [.agg [AI n, LI xs], LN a] (.bool ((fstU n xs (mem (vmT [a] [a].length)) a).isNone)) := by
  refine CallA.of Tryz.func25 rfl (by kernel_rfl) ?_
  refine R.go 9 (R.call true (unforced_c n xs a hR hF hpl ht).frz (by kernel_rfl) rfl (by kernel_rfl) ?_)
  exact R.go 14 (R.retE (.bool (!((fstU n xs (mem (vmT [a] [a].length)) a).isSome))) (by kernel_rfl) (by kernel_rfl) (by first | (apply congrArg AV.bool; cases fstU n xs (mem (vmT [a] [a].length)) a <;> rfl) | (exfalso; omega)))

theorem PV_impl (n : Int) (xs : List Int) (a : List (Int × Int)) (lx : xs.length ≤ 1048576) (la : a.length ≤ 1048576) : CallA Tryz.prog 9 [.agg [AI n, LI xs], LN a] (.tup [.bool (pvV n xs a), AI (pcode n xs [a])]) := by
  refine CallA.of Tryz.func9 rfl (by kernel_rfl) ?_
  refine R.go 11 (R.lit (s := 1) (n := 1) (cs := rows eLN [a]) (by kernel_rfl) (by kernel_rfl) ?_)
  refine R.call true (posetSearch_c n xs [a] lx (by first | assumption | exact shortL_one (by omega))) (by kernel_rfl) rfl (by kernel_rfl) ?_
  refine R.go 7 (R.condN ((pcode n xs [a]) = 0) (by kernel_rfl) (fun c1 => ?_) (fun c1 => ?_))
  · exact R.go 6 (R.retE (.tup [.bool false, AI (pcode n xs [a])]) (by kernel_rfl) (by kernel_rfl) (by first | (first | exact pv_no (by assumption) | exact pv_yes (by assumption)) | (exfalso; omega)))
  · have hc0 : pcode n xs [a] = 0 := by assumption
    have hpo := pc_ok hc0
    have hR : okPo n xs = true := hpo.1
    have hF : isF a = true := isF_all hpo.2.1
    have hpl : a.any modN = false := pl_one hpo.2.2.1
    have ht0 : pwT ((upL n xs).length : Int) (mem (vmT [a] [a].length)).length ≤ 4096 := hpo.2.2.2
    refine R.go 5 (R.call true (isValidP_c n xs a hR hF hpl ht0) (by kernel_rfl) rfl (by kernel_rfl) ?_)
    exact R.go 3 (R.retE (.tup [.bool ((fstU n xs (mem (vmT [a] [a].length)) a).isNone), AI 0]) (by kernel_rfl) (by kernel_rfl) (by first | (first | exact pv_no (by assumption) | exact pv_yes (by assumption)) | (exfalso; omega)))

theorem FU_spec (n : Int) (xs : List Int) (a : List (Int × Int)) (lx : xs.length ≤ 1048576) (la : a.length ≤ 1048576) : CallA Tryz.prog 7 [.agg [AI n, LI xs], LN a] (.tup [ownA eI 2 1 (fuR n xs a), AI (fuX n xs a), AI (fuC n xs a)]) := by
  refine CallA.of Tryz.func7 rfl (by kernel_rfl) ?_
  refine R.go 11 (R.lit (s := 1) (n := 1) (cs := rows eLN [a]) (by kernel_rfl) (by kernel_rfl) ?_)
  refine R.call true (l17Search_c n xs [a] lx (by first | assumption | exact shortL_one (by omega))) (by kernel_rfl) rfl (by kernel_rfl) ?_
  refine R.go 8 (R.condN ((pcode n xs [a]) = 0) (by kernel_rfl) (fun c1 => ?_) (fun c1 => ?_))
  · refine R.go 7 (R.nil 4 2 1 (by kernel_rfl) ?_)
    exact R.retE (.tup [ownA eI 2 1 [], AI 0, AI (pcode n xs [a])]) (by kernel_rfl) (by kernel_rfl) (by first | (first | exact fu_bad (by assumption) | exact fu_none hc0 (by assumption) | exact fu_some hc0 (by assumption)) | (exfalso; omega))
  · have hc0 : pcode n xs [a] = 0 := by assumption
    have hpo := pc_ok hc0
    have hR : okPo n xs = true := hpo.1
    have hF : isF a = true := isF_all hpo.2.1
    have hpl : a.any modN = false := pl_one hpo.2.2.1
    have ht0 : pwT ((upL n xs).length : Int) (mem (vmT [a] [a].length)).length ≤ 4096 := hpo.2.2.2
    have hA := isF_okm hF
    have hb0 := okFr_rel (okPo_fr hR)
    have hfull := shl_rng n hb0.1 (by omega)
    have hrl6 := uRow_len n xs (mem (vmT [a] [a].length)) a
    refine R.go 5 (R.call true (l17First_c n xs a hR hF hpl ht0) (by kernel_rfl) rfl (by kernel_rfl) ?_)
    refine R.go 14 (R.condM ((fstU n xs (mem (vmT [a] [a].length)) a).isSome) (by kernel_rfl) (fun c2 => ?_) (fun c2 => ?_))
    · refine R.go 6 (R.nil 4 2 1 (by kernel_rfl) ?_)
      exact R.retE (.tup [ownA eI 2 1 [], AI 0, AI 4]) (by kernel_rfl) (by kernel_rfl) (by first | (first | exact fu_bad (by assumption) | exact fu_none hc0 (by assumption) | exact fu_some hc0 (by assumption)) | (exfalso; omega))
    · have hne := uVal_ne hR hA.1 (by assumption)
      have hne1 := hne.1
      have hne2 := hne.2
      refine R.go 6 (R.call true (l01Full_c n (by omega) (by omega)) (by kernel_rfl) rfl (by kernel_rfl) ?_)
      refine R.go 2 (R.call true (l01ListM_c (bnot ((shl64 1 n) - 1) (uVal n xs (mem (vmT [a] [a].length)) a)) (by first | assumption | exact inM61 (by omega) (by omega))).frz (by kernel_rfl) rfl (by kernel_rfl) ?_)
      refine R.idx eI (mem (bnot ((shl64 1 n) - 1) (uVal n xs (mem (vmT [a] [a].length)) a))) 0 0 0 (by kernel_rfl) rfl eI_len (by first | omega | (simp <;> omega)) (by kernel_rfl) ?_
      exact R.go 5 (R.retE (.tup [ownA eI 2 1 (uRow n xs (mem (vmT [a] [a].length)) a), AI ((mem (bnot ((shl64 1 n) - 1) (uVal n xs (mem (vmT [a] [a].length)) a))).getD 0 0), AI 0]) (by kernel_rfl) (by kernel_rfl) (by first | (first | exact fu_bad (by assumption) | exact fu_none hc0 (by assumption) | exact fu_some hc0 (by assumption)) | (exfalso; omega)))

theorem FU_impl (n : Int) (xs : List Int) (a : List (Int × Int)) (lx : xs.length ≤ 1048576) (la : a.length ≤ 1048576) : CallA Tryz.prog 6 [.agg [AI n, LI xs], LN a] (.tup [ownA eI 2 1 (fuR n xs a), AI (fuX n xs a), AI (fuC n xs a)]) := by
  refine CallA.of Tryz.func6 rfl (by kernel_rfl) ?_
  refine R.go 12 (R.lit (s := 1) (n := 1) (cs := rows eLN [a]) (by kernel_rfl) (by kernel_rfl) ?_)
  refine R.call true (posetSearch_c n xs [a] lx (by first | assumption | exact shortL_one (by omega))) (by kernel_rfl) rfl (by kernel_rfl) ?_
  refine R.go 7 (R.condN ((pcode n xs [a]) = 0) (by kernel_rfl) (fun c1 => ?_) (fun c1 => ?_))
  · refine R.go 7 (R.nil 4 2 1 (by kernel_rfl) ?_)
    exact R.retE (.tup [ownA eI 2 1 [], AI 0, AI (pcode n xs [a])]) (by kernel_rfl) (by kernel_rfl) (by first | (first | exact fu_bad (by assumption) | exact fu_none hc0 (by assumption) | exact fu_some hc0 (by assumption)) | (exfalso; omega))
  · have hc0 : pcode n xs [a] = 0 := by assumption
    have hpo := pc_ok hc0
    have hR : okPo n xs = true := hpo.1
    have hF : isF a = true := isF_all hpo.2.1
    have hpl : a.any modN = false := pl_one hpo.2.2.1
    have ht0 : pwT ((upL n xs).length : Int) (mem (vmT [a] [a].length)).length ≤ 4096 := hpo.2.2.2
    have hA := isF_okm hF
    have hb0 := okFr_rel (okPo_fr hR)
    have hfull := shl_rng n hb0.1 (by omega)
    have hrl6 := uRow_len n xs (mem (vmT [a] [a].length)) a
    refine R.go 5 (R.call true (unforced_c n xs a hR hF hpl ht0) (by kernel_rfl) rfl (by kernel_rfl) ?_)
    refine R.go 14 (R.condM ((fstU n xs (mem (vmT [a] [a].length)) a).isSome) (by kernel_rfl) (fun c2 => ?_) (fun c2 => ?_))
    · refine R.go 6 (R.nil 4 2 1 (by kernel_rfl) ?_)
      exact R.retE (.tup [ownA eI 2 1 [], AI 0, AI 4]) (by kernel_rfl) (by kernel_rfl) (by first | (first | exact fu_bad (by assumption) | exact fu_none hc0 (by assumption) | exact fu_some hc0 (by assumption)) | (exfalso; omega))
    · have hne := uVal_ne hR hA.1 (by assumption)
      have hne1 := hne.1
      have hne2 := hne.2
      refine R.go 5 (R.call true (pAll_c n xs (by omega) (by omega)) (by kernel_rfl) rfl (by kernel_rfl) ?_)
      refine R.go 2 (R.call true (membersOf_c (bnot ((shl64 1 n) - 1) (uVal n xs (mem (vmT [a] [a].length)) a)) (by first | assumption | exact inM61 (by omega) (by omega))).frz (by kernel_rfl) rfl (by kernel_rfl) ?_)
      refine R.idx eI (mem (bnot ((shl64 1 n) - 1) (uVal n xs (mem (vmT [a] [a].length)) a))) 0 0 0 (by kernel_rfl) rfl eI_len (by first | omega | (simp <;> omega)) (by kernel_rfl) ?_
      exact R.go 5 (R.retE (.tup [ownA eI 2 1 (uRow n xs (mem (vmT [a] [a].length)) a), AI ((mem (bnot ((shl64 1 n) - 1) (uVal n xs (mem (vmT [a] [a].length)) a))).getD 0 0), AI 0]) (by kernel_rfl) (by kernel_rfl) (by first | (first | exact fu_bad (by assumption) | exact fu_none hc0 (by assumption) | exact fu_some hc0 (by assumption)) | (exfalso; omega)))

end Go.Proofs.YtogehjciaamcfaaGreat


/-! UnforcedElements of both packages and its law. -/
namespace Go.Proofs.YtogehjciaamcfaaGreat
open Go.RowKit Go.Abs

def uTU (n : Int) (xs ups vs : List Int) (a : List (Int × Int)) : Nat → Int
  | 0 => 0
  | N + 1 => bor (uTU n xs ups vs a N) (bnot ((shl64 1 n) - 1) (fcd n xs (vrU ups vs N) a))
theorem uTU_eq {n : Int} {xs ups vs : List Int} {a : List (Int × Int)} (hu : ups = upL n xs) : ∀ N : Nat, uTU n xs ups vs a N = uTo n xs vs a N
  | 0 => rfl
  | N + 1 => by rw [uTU, uTo, uTU_eq hu N, hu]
theorem ue_yesU {n : Int} {xs ups vs : List Int} {a : List (Int × Int)} {N : Nat} (h : pcode n xs [a] = 0) (hv : vs = mem (vmT [a] [a].length)) (hu : ups = upL n xs) (hN : N = totU n xs vs) : AV.tup [AI (uTU n xs ups vs a N), AI 0] = AV.tup [AI (ueV n xs a), AI (pcode n xs [a])] := by
  rw [uTU_eq hu]; exact ue_yes h hv hN

theorem une_go (n : Int) (xs vs ups : List Int) (a : List (Int × Int)) (hR : okPo n xs = true) (hb0 : 0 ≤ n ∧ n ≤ 8 ∧ (xs.length : Int) = n) (hVS : VS vs) (hvl : vs.length ≤ 62) (hul : ups.length ≤ 256) (hup : 1 ≤ ups.length) (hok : OKM 6 a) (hal : a.length ≤ 40) (hpl : a.any modN = false) (hu : ups = upL n xs) (D : Nat) (us : List Value) : ∀ (d k p q lo e : Nat) (r : List Int), k + d = vs.length → q = ups.length ^ d → lo = p * q → e + 1 = lo + q → PVU ups vs p k r → CallS Tryz.prog 57 [AI (k : Int), .rptr [LI vs], .ptr 5 0, .ptr 7 0, .rptr [LI ups], .ptr 8 0] [.box 26 [AI n, LI xs], .box 27 [LN a], .box 2 [AI (uTU n xs ups vs a lo)], .frame us (frm 32 [(0, .agg [AI n, LI xs]), (1, LN a), (2, .ptr 0 0), (3, .ptr 1 0), (4, AI 0), (5, AI 0), (6, AI (pcode n xs [a])), (7, .ptr 2 0), (9, .agg [AI n, LI xs]), (10, LN a), (11, LLN [a]), (12, AI (pcode n xs [a])), (13, AI (pcode n xs [a])), (14, .bool (!decide ((pcode n xs [a]) = 0))), (16, .agg [AI n, LI xs]), (17, LN a), (18, LLN [a]), (19, LI vs), (20, .fn 56 [.rptr [LI vs], .rptr [LI ups]])]), loopObj Tryz.f10 D us .ready, .box 81 [.ref 4], rowA eI 2 1 r, .box 24 [.ref 6], .box 82 [.fn 57 [.rptr [LI vs], .ptr 5 0, .ptr 7 0, .rptr [LI ups], .ptr 8 0]]] (.bool true) [.box 26 [AI n, LI xs], .box 27 [LN a], .box 2 [AI (uTU n xs ups vs a (e + 1))], .frame us (frm 32 [(0, .agg [AI n, LI xs]), (1, LN a), (2, .ptr 0 0), (3, .ptr 1 0), (4, AI 0), (5, AI 0), (6, AI (pcode n xs [a])), (7, .ptr 2 0), (9, .agg [AI n, LI xs]), (10, LN a), (11, LLN [a]), (12, AI (pcode n xs [a])), (13, AI (pcode n xs [a])), (14, .bool (!decide ((pcode n xs [a]) = 0))), (16, .agg [AI n, LI xs]), (17, LN a), (18, LLN [a]), (19, LI vs), (20, .fn 56 [.rptr [LI vs], .rptr [LI ups]])]), loopObj Tryz.f10 D us .ready, .box 81 [.ref 4], rowA eI 2 1 (vrU ups vs e), .box 24 [.ref 6], .box 82 [.fn 57 [.rptr [LI vs], .ptr 5 0, .ptr 7 0, .rptr [LI ups], .ptr 8 0]]] := by
  intro d
  induction d with
  | zero =>
    intro k p q lo e r hk hq hlo he hr
    have hlp : lo = p := by rw [hlo, hq, Nat.pow_zero, Nat.mul_one]
    have hq1 : q = 1 := by rw [hq, Nat.pow_zero]
    have hrv : r = vrU ups vs p := pvU_end hr (by omega)
    have hkv : (k : Int) = (vs.length : Int) := by omega
    have hoX : OKM (vrU ups vs p).length a := by rw [vrU_len]; exact hok
    have hvl6 := vrU_len ups vs p
    have hfrr : okFr n xs = true := okPo_fr hR
    subst hrv
    have hep : e = p := by omega
    rw [hep]
    rw [hlp]
    refine CallS.cast (CallS.drop [0, 1, 2, 3, 4, 5, 6, 7, 8] (CallS.of (res := .bool true) (hp' := [.box 26 [AI n, LI xs], .box 27 [LN a], .box 2 [AI (bor (uTU n xs ups vs a p) (bnot ((shl64 1 n) - 1) (fcd n xs (vrU ups vs p) a)))], .frame us (frm 32 [(0, .agg [AI n, LI xs]), (1, LN a), (2, .ptr 0 0), (3, .ptr 1 0), (4, AI 0), (5, AI 0), (6, AI (pcode n xs [a])), (7, .ptr 2 0), (9, .agg [AI n, LI xs]), (10, LN a), (11, LLN [a]), (12, AI (pcode n xs [a])), (13, AI (pcode n xs [a])), (14, .bool (!decide ((pcode n xs [a]) = 0))), (16, .agg [AI n, LI xs]), (17, LN a), (18, LLN [a]), (19, LI vs), (20, .fn 56 [.rptr [LI vs], .rptr [LI ups]])]), loopObj Tryz.f10 D us .ready, .box 81 [.ref 4], rowA eI 2 1 (vrU ups vs p), .box 24 [.ref 6], .box 82 [.fn 57 [.rptr [LI vs], .ptr 5 0, .ptr 7 0, .rptr [LI ups], .ptr 8 0]], .dead, .dead]) Tryz.func57 rfl (by kernel_rfl) ?_) (by kernel_rfl) (by decide)) (by kernel_rfl) (by kernel_rfl)
    intro usC frC
    refine R.go 12 (R.thn (decide ((k : Int) = (vs.length : Int))) (by kernel_rfl) (dT hkv) ?_)
    refine R.go 4 (R.yield 4 D us (by kernel_rfl) (by kernel_rfl) ?_)
    intro l1 us2
    refine R.go 3 (R.begin (by kernel_rfl) (by kernel_rfl) ?_)
    refine R.go 4 (R.call true (pAll_c n xs (by omega) (by omega)) (by kernel_rfl) rfl (by kernel_rfl) ?_)
    refine R.go 3 (R.call false (forced2_c n xs (vrU ups vs p) a hoX hpl (by omega) (by omega) (by first | omega | (simp <;> omega)) (by first | omega | (simp <;> omega))) (by kernel_rfl) rfl (by kernel_rfl) ?_)
    refine R.go 5 (R.round (frm 36 [(0, AI (k : Int)), (1, .rptr [LI vs]), (2, .ptr 5 0), (3, .ptr 7 0), (4, .rptr [LI ups]), (5, .ptr 8 0), (7, .bool false), (10, AI (k : Int)), (11, LI vs), (12, AI vs.length), (13, .bool (decide ((k : Int) = (vs.length : Int)))), (14, .ref 4), (15, .ref 6)]) (by kernel_rfl) (by kernel_rfl) (by kernel_rfl) ?_)
    exact R.go 2 (R.retS (by kernel_rfl) (by kernel_rfl) (by kernel_rfl) (by kernel_rfl))
  | succ d ih =>
    intro k p q lo e r hk hq hlo he hr
    obtain ⟨q1, hq1⟩ : ∃ q1, q1 = ups.length ^ d := ⟨_, rfl⟩
    have hqq : q = q1 * ups.length := by rw [hq, Nat.pow_succ, hq1]
    have hlo2 : lo = p * (q1 * ups.length) := by rw [hlo, hqq]
    have hq0 : 1 ≤ q1 := by rw [hq1]; exact Nat.pow_pos (by omega)
    have hkv : ¬ (k : Int) = (vs.length : Int) := by omega
    have hg := vs_get hVS (k := k) (by omega)
    refine CallS.cast (CallS.drop [0, 1, 2, 3, 4, 5, 6, 7, 8] (CallS.of (res := .bool true) (hp' := [.box 26 [AI n, LI xs], .box 27 [LN a], .box 2 [AI (uTU n xs ups vs a (e + 1))], .frame us (frm 32 [(0, .agg [AI n, LI xs]), (1, LN a), (2, .ptr 0 0), (3, .ptr 1 0), (4, AI 0), (5, AI 0), (6, AI (pcode n xs [a])), (7, .ptr 2 0), (9, .agg [AI n, LI xs]), (10, LN a), (11, LLN [a]), (12, AI (pcode n xs [a])), (13, AI (pcode n xs [a])), (14, .bool (!decide ((pcode n xs [a]) = 0))), (16, .agg [AI n, LI xs]), (17, LN a), (18, LLN [a]), (19, LI vs), (20, .fn 56 [.rptr [LI vs], .rptr [LI ups]])]), loopObj Tryz.f10 D us .ready, .box 81 [.ref 4], rowA eI 2 1 (vrU ups vs e), .box 24 [.ref 6], .box 82 [.fn 57 [.rptr [LI vs], .ptr 5 0, .ptr 7 0, .rptr [LI ups], .ptr 8 0]], .dead]) Tryz.func57 rfl (by kernel_rfl) ?_) (by kernel_rfl) (by decide)) (by kernel_rfl) (by kernel_rfl)
    intro usC frC
    refine R.go 12 (R.els (decide ((k : Int) = (vs.length : Int))) (by kernel_rfl) (dF hkv) ?_)
    refine R.go 9 (R.loop ((fun | (i, li, r1) => (⟨(frm 36 [(0, AI (k : Int)), (1, .rptr [LI vs]), (3, .ptr 7 0), (5, .ptr 8 0), (17, LI ups), (18, AI ups.length), (19, AI (i : Int))]), [.box 26 [AI n, LI xs], .box 27 [LN a], .box 2 [AI (uTU n xs ups vs a li)], .frame us (frm 32 [(0, .agg [AI n, LI xs]), (1, LN a), (2, .ptr 0 0), (3, .ptr 1 0), (4, AI 0), (5, AI 0), (6, AI (pcode n xs [a])), (7, .ptr 2 0), (9, .agg [AI n, LI xs]), (10, LN a), (11, LLN [a]), (12, AI (pcode n xs [a])), (13, AI (pcode n xs [a])), (14, .bool (!decide ((pcode n xs [a]) = 0))), (16, .agg [AI n, LI xs]), (17, LN a), (18, LLN [a]), (19, LI vs), (20, .fn 56 [.rptr [LI vs], .rptr [LI ups]])]), loopObj Tryz.f10 D us .ready, .box 81 [.ref 4], rowA eI 2 1 r1, .box 24 [.ref 6], .box 82 [.fn 57 [.rptr [LI vs], .ptr 5 0, .ptr 7 0, .rptr [LI ups], .ptr 8 0]], .frame usC frC]⟩ : St) : Nat × Nat × (List Int) → St)) (fun | (i, li, r1) => (i ≤ ups.length) ∧ (li = (p * ups.length + i) * q1) ∧ (PVU ups vs p k r1) ∧ (i = 0 ∨ r1 = vrU ups vs (li - 1))) (fun | (i, li, r1) => ups.length - i) (0, lo, r) [0, 1, 3, 5, 17, 18, 19] none (by kernel_rfl) (by kernel_rfl) (by kernel_rfl) ⟨(by omega), (by exact li_start hlo2), (by assumption), (by exact .inl rfl)⟩ ?_)
    rintro ⟨i, li, r1⟩ ⟨h4_1, h4_2, h4_3, h4_4⟩ R1 N2
    have hlI : li = (p * ups.length + i) * q1 := by assumption
    have hpv : PVU ups vs p k r1 := by assumption
    have hlb := fun h : i < ups.length => li_bd hlo2 hlI h
    have hr1l : r1.length = 6 := hpv.1
    have hle2 := fun h : i = ups.length => li_end hlo2 hlI h
    refine R.go 5 (R.cond ((i : Int) < (ups.length : Int)) (by kernel_rfl) (fun c5 => ?_) (fun c5 => ?_))
    · refine R.go 5 (R.idx eI ups 0 i (i : Int) (by kernel_rfl) rfl eI_len (by omega) (by kernel_rfl) ?_)
      refine R.go 8 (R.idx eI vs 0 k (k : Int) (by kernel_rfl) rfl eI_len (by omega) (by kernel_rfl) ?_)
      refine R.go 2 (R.idxO 6 1 r1.length (((vs.getD k 0)).toNat) (vs.getD k 0) (by kernel_rfl) (by omega) (by omega) (by kernel_rfl) ?_)
      refine R.stI 6 2 r1 (((vs.getD k 0)).toNat) (ups.getD i 0) (by kernel_rfl) (by omega) (by kernel_rfl) ?_
      have hlc := hlb (by omega)
      have hgo := ih (k + 1) (p * ups.length + i) q1 li (li + q1 - 1) (r1.set (vs.getD k 0).toNat (ups.getD i 0)) (by omega) hq1 hlI (by omega) (pvU_step hpv hVS (by omega) (by omega))
      refine R.go 5 (R.ar ((k : Int) + 1) (by kernel_rfl) (by omega) (by omega) (by kernel_rfl) ?_)
      refine R.callS (CallS.frame usC frC hgo (by kernel_rfl) (by kernel_rfl) (Nat.le_of_ble_eq_true (by kernel_rfl))) (by kernel_rfl) (by kernel_rfl) (by kernel_rfl) ?_
      refine R.go 6 (R.ar ((i : Int) + 1) (by kernel_rfl) (by omega) (by omega) (by kernel_rfl) ?_)
      exact R.go 2 (R.stop R1 (by kernel_rfl) (N2 (i + 1, (li + q1 - 1 + 1), vrU ups vs (li + q1 - 1)) [0, 1, 3, 5, 17, 18, 19] none _ (by kernel_rfl) (by kernel_rfl) ⟨(by omega), (by rw [show li + q1 - 1 + 1 = li + q1 by omega]; exact li_next (by assumption)), (by exact pv_next hVS hk (by omega) hq1 hlI hq0), (by exact .inr rfl)⟩ (by show (ups.length - (i + 1)) < (ups.length - i); omega)))
    · have hle : li = e + 1 := by have h1 := li_end hlo2 hlI (by omega); omega
      refine R.go 3 ?_
      have hsub_r1 : r1 = vrU ups vs e := ((by assumption : i = 0 ∨ r1 = vrU ups vs (li - 1)).elim (fun h => absurd h (by omega)) (fun h => h.trans (by rw [show li - 1 = e by omega])))
      subst hsub_r1
      have hsub_li : li = (e + 1) := hle
      subst hsub_li
      exact R.go 2 (R.retS (by kernel_rfl) (by kernel_rfl) (by kernel_rfl) (by kernel_rfl))

theorem UE_impl (n : Int) (xs : List Int) (a : List (Int × Int)) (lx : xs.length ≤ 1048576) (la : a.length ≤ 1048576) : CallA Tryz.prog 10 [.agg [AI n, LI xs], LN a] (.tup [AI (ueV n xs a), AI (pcode n xs [a])]) := by
  refine CallA.of Tryz.func10 rfl (by kernel_rfl) ?_
  refine R.go 12 (R.lit (s := 1) (n := 1) (cs := rows eLN [a]) (by kernel_rfl) (by kernel_rfl) ?_)
  refine R.call true (posetSearch_c n xs [a] lx (by first | assumption | exact shortL_one (by omega))) (by kernel_rfl) rfl (by kernel_rfl) ?_
  refine R.go 7 (R.condN ((pcode n xs [a]) = 0) (by kernel_rfl) (fun c1 => ?_) (fun c1 => ?_))
  · exact R.go 6 (R.retE (.tup [AI 0, AI (pcode n xs [a])]) (by kernel_rfl) (by kernel_rfl) (by first | (first | exact ue_no (by assumption) | exact ue_yesU hc0 hvs hu (by rw [totU, ← hu]; omega)) | (exfalso; omega)))
  · have hc0 : pcode n xs [a] = 0 := by assumption
    have hpo := pc_ok hc0
    have hR : okPo n xs = true := hpo.1
    have hF : isF a = true := isF_all hpo.2.1
    have hpl : a.any modN = false := pl_one hpo.2.2.1
    have ht0 : pwT ((upL n xs).length : Int) (mem (vmT [a] [a].length)).length ≤ 4096 := hpo.2.2.2
    have ht := ht0
    obtain ⟨vs, hvs⟩ : ∃ vs, vs = mem (vmT [a] [a].length) := ⟨_, rfl⟩
    obtain ⟨ups, hu⟩ : ∃ ups, ups = upL n xs := ⟨_, rfl⟩
    rw [← hvs] at ht
    rw [← hu] at ht
    have hfr : okFr n xs = true := okPo_fr hR
    have hFr := okFr_rel hfr
    have hb0 : 0 ≤ n ∧ n ≤ 8 ∧ (xs.length : Int) = n := ⟨hFr.1, hFr.2.1, hFr.2.2.1⟩
    have hAF : allF [a] = true := allF_one hF
    have hVS : VS vs := by rw [hvs]; exact VS_vmT hAF
    have hvl : vs.length ≤ 62 := by rw [hvs]; exact mem_le _
    have hul : ups.length ≤ 256 := by rw [hu]; exact upL_len hR
    have hup : 1 ≤ ups.length := by rw [hu]; exact upL_pos hR
    have htt : (totU n xs vs : Int) = pwT (ups.length : Int) vs.length := by rw [hu]; rw [hu] at ht; exact tot_le ht
    have hok : OKM 6 a := (isF_okm hF).1
    have hal : a.length ≤ 40 := (isF_okm hF).2
    have hok2 := fun N => show OKM (vrU ups vs N).length a by rw [vrU_len]; exact hok
    have hlen := okm_pos hok
    have hq1 : 1 ≤ ups.length ^ vs.length := Nat.pow_pos (by omega)
    refine R.go 10 (R.lit (s := 1) (n := 1) (cs := rows eLN [a]) (by kernel_rfl) (by kernel_rfl) ?_)
    refine R.call true (variablesInG_c [a] vs (by assumption) hAF (by first | omega | (simp <;> omega))).frz (by kernel_rfl) rfl (by kernel_rfl) ?_
    refine R.call true (valuationsP_c n xs vs ups (by assumption) hR) (by kernel_rfl) rfl (by kernel_rfl) ?_
    refine R.go 2 (R.range (caps := [.rptr [LI vs], .rptr [LI ups]]) Tryz.func56 rfl (by kernel_rfl) (by kernel_rfl) ?_)
    intro D2 us3
    refine R.go 21 (R.callS (une_go n xs vs ups a hR hb0 hVS hvl hul hup hok hal hpl hu D2 us3 vs.length 0 0 (ups.length ^ vs.length) 0 ((ups.length ^ vs.length) - 1) (List.replicate 6 0) (by omega) rfl (by simp) (by omega) (pvU_start ups vs)) (by kernel_rfl) (by kernel_rfl) (by kernel_rfl) ?_)
    refine R.go 1 (R.over (.tup []) (frm 32 [(0, .agg [AI n, LI xs]), (1, LN a), (2, .ptr 0 0), (3, .ptr 1 0), (4, AI 0), (5, AI 0), (6, AI (pcode n xs [a])), (7, .ptr 2 0), (9, .agg [AI n, LI xs]), (10, LN a), (11, LLN [a]), (12, AI (pcode n xs [a])), (13, AI (pcode n xs [a])), (14, .bool (!decide ((pcode n xs [a]) = 0))), (16, .agg [AI n, LI xs]), (17, LN a), (18, LLN [a]), (19, LI vs), (20, .fn 56 [.rptr [LI vs], .rptr [LI ups]])]) (by kernel_rfl) (by kernel_rfl) (by kernel_rfl) (by kernel_rfl) ?_)
    exact R.go 7 (R.retE (.tup [AI (uTU n xs ups vs a ((ups.length ^ vs.length) - 1 + 1)), AI 0]) (by kernel_rfl) (by kernel_rfl) (by first | (first | exact ue_no (by assumption) | exact ue_yesU hc0 hvs hu (by rw [totU, ← hu]; omega)) | (exfalso; omega)))

end Go.Proofs.YtogehjciaamcfaaGreat


/-! FollowsOn of both packages and its law. -/
namespace Go.Proofs.YtogehjciaamcfaaGreat
open Go.RowKit Go.Abs

theorem allF_app {l : List (List (Int × Int))} {a : List (Int × Int)} (h : allF (l ++ [a]) = true) : (∀ j : Nat, j < l.length → isF (l.getD j []) = true) ∧ isF a = true := by
  refine ⟨fun j hj => ?_, ?_⟩
  · have := allF_get h j (by simp; omega)
    rwa [List.getD_eq_getElem?_getD, List.getElem?_append_left hj, ← List.getD_eq_getElem?_getD] at this
  · have := allF_get h l.length (by simp)
    rw [List.getD_eq_getElem?_getD, List.getElem?_append_right (Nat.le_refl _)] at this
    simpa using this
theorem shortL_app {l : List (List (Int × Int))} {a : List (Int × Int)} (h : l.length ≤ 1048576 ∧ ∀ j : Nat, j < l.length → (l.getD j []).length ≤ 1048576) (ha : a.length ≤ 1048576) : shortL (l ++ [a]) := by
  refine ⟨by simp; omega, fun j hj => ?_⟩
  by_cases hjl : j < l.length
  · rw [List.getD_eq_getElem?_getD, List.getElem?_append_left hjl, ← List.getD_eq_getElem?_getD]
    have := h.2 j hjl
    omega
  · have : j = l.length := by simp at hj; omega
    subst this
    rw [List.getD_eq_getElem?_getD, List.getElem?_append_right (Nat.le_refl _)]
    simp
    omega
def lim (l : List (List (Int × Int))) : Prop := l.length ≤ 1048576 ∧ ∀ j : Nat, j < l.length → (l.getD j []).length ≤ 1048576

/-- Where the first premises are forced. -/
def pmU (n : Int) (xs X : List Int) (l : List (List (Int × Int))) : Nat → Int
  | 0 => (shl64 1 n) - 1
  | i + 1 => band (pmU n xs X l i) (fcd n xs X (l.getD i []))
def badF (n : Int) (xs ups vs : List Int) (l : List (List (Int × Int))) (a : List (Int × Int)) (N : Nat) : Bool := !decide (bnot (pmU n xs (vrU ups vs N) l l.length) (fcd n xs (vrU ups vs N) a) = 0)
theorem badF_eq {n : Int} {xs ups vs : List Int} {l : List (List (Int × Int))} {a : List (Int × Int)} {p : Nat} (h : badF n xs ups vs l a p = false) : bnot (pmU n xs (vrU ups vs p) l l.length) (fcd n xs (vrU ups vs p) a) = 0 := by simpa [badF] using h
theorem badF_ne {n : Int} {xs ups vs : List Int} {l : List (List (Int × Int))} {a : List (Int × Int)} {p : Nat} (h : badF n xs ups vs l a p = true) : ¬ bnot (pmU n xs (vrU ups vs p) l l.length) (fcd n xs (vrU ups vs p) a) = 0 := by simpa [badF] using h
def foN (n : Int) (xs : List Int) (l : List (List (Int × Int))) (a : List (Int × Int)) : Option Nat := fstN (badF n xs (upL n xs) (mem (vmT (l ++ [a]) (l ++ [a]).length)) l a) (totU n xs (mem (vmT (l ++ [a]) (l ++ [a]).length)))
def foV (n : Int) (xs : List Int) (l : List (List (Int × Int))) (a : List (Int × Int)) : Bool := decide (pcode n xs (l ++ [a]) = 0) && (foN n xs l a).isNone
section
variable {n : Int} {xs : List Int} {l : List (List (Int × Int))} {a : List (Int × Int)}
theorem fo_bad (h : ¬ pcode n xs (l ++ [a]) = 0) : AV.tup [.bool false, AI (pcode n xs (l ++ [a]))] = AV.tup [.bool (foV n xs l a), AI (pcode n xs (l ++ [a]))] := by rw [foV, decide_eq_false h]; rfl
theorem fo_none (h : pcode n xs (l ++ [a]) = 0) (h2 : foN n xs l a = none) : AV.tup [.bool true, AI 0] = AV.tup [.bool (foV n xs l a), AI (pcode n xs (l ++ [a]))] := by rw [foV, decide_eq_true h, h2, h]; rfl
theorem fo_some {N : Nat} (h : pcode n xs (l ++ [a]) = 0) (h2 : foN n xs l a = some N) : AV.tup [.bool false, AI 0] = AV.tup [.bool (foV n xs l a), AI (pcode n xs (l ++ [a]))] := by rw [foV, decide_eq_true h, h2, h]; rfl
def plAll (l : List (List (Int × Int))) : Prop := ∀ j : Nat, j < l.length → isF (l.getD j []) = true ∧ (l.getD j []).any modN = false
theorem plAll_app (h : allF (l ++ [a]) = true) (h2 : allPl (l ++ [a]) = true) : plAll l ∧ isF a = true ∧ a.any modN = false := by
  have h3 := allF_app h
  have h4 : (l ++ [a]).any anyM = false := by simpa [allPl] using h2
  rw [List.any_append, Bool.or_eq_false_iff] at h4
  refine ⟨fun j hj => ⟨h3.1 j hj, ?_⟩, h3.2, by simpa [anyM] using h4.2⟩
  have := List.any_eq_false.1 h4.1 (l.getD j []) (by rw [List.getD_eq_getElem?_getD, List.getElem?_eq_getElem hj]; exact List.getElem_mem _)
  simpa [anyM] using this
end

theorem clipLL_c (l : List (List (Int × Int))) : CallA Tryz.prog 29 [LLN l] (.clp 1 l.length (rows eLN l)) := by
  refine CallA.of Tryz.func29 rfl (by kernel_rfl) ?_
  refine R.go 11 (R.clip 1 l.length (rows eLN l) (by kernel_rfl) (by kernel_rfl) ?_)
  exact R.go 2 (R.retE (.clp 1 l.length (rows eLN l)) (by kernel_rfl) (by kernel_rfl) (by rfl))

theorem fo_someN {n : Int} {xs : List Int} {l : List (List (Int × Int))} {a : List (Int × Int)} (h : pcode n xs (l ++ [a]) = 0) (h2 : ¬ foN n xs l a = none) : AV.tup [.bool false, AI 0] = AV.tup [.bool (foV n xs l a), AI (pcode n xs (l ++ [a]))] := by
  cases e : foN n xs l a with
  | none => exact absurd e h2
  | some N => exact fo_some h e

theorem fol_go (n : Int) (xs vs ups : List Int) (l : List (List (Int × Int))) (a : List (Int × Int)) (hR : okPo n xs = true) (hb0 : 0 ≤ n ∧ n ≤ 8 ∧ (xs.length : Int) = n) (hVS : VS vs) (hvl : vs.length ≤ 62) (hul : ups.length ≤ 256) (hup : 1 ≤ ups.length) (hok : OKM 6 a) (hal : a.length ≤ 40) (hpl : a.any modN = false) (hu : ups = upL n xs) (hPA : plAll l) (hll : l.length ≤ 1048576) (D : Nat) (us : List Value) : ∀ (d k p q lo e : Nat) (r : List Int), k + d = vs.length → q = ups.length ^ d → lo = p * q → e + 1 = lo + q → PVU ups vs p k r → (∀ M : Nat, lo ≤ M → M ≤ e → badF n xs ups vs l a M = false) → CallS Tryz.prog 57 [AI (k : Int), .rptr [LI vs], .ptr 9 0, .ptr 11 0, .rptr [LI ups], .ptr 12 0] [.box 26 [AI n, LI xs], .box 51 [LLN l], .box 27 [LN a], .box 4 [.bool false], .box 2 [AI 0], rowA eLN 27 1 [a], .dead, .frame us (frm 52 [(0, .agg [AI n, LI xs]), (1, LLN l), (2, LN a), (3, .ptr 0 0), (4, .ptr 1 0), (5, .ptr 2 0), (6, .ptr 3 0), (7, .ptr 4 0), (8, LLN (l ++ [a])), (9, AI (pcode n xs (l ++ [a]))), (14, LLN l), (15, .clp 1 l.length (rows eLN l)), (16, LN a), (17, .ref 5), (18, LLN (l ++ [a])), (19, .agg [AI n, LI xs]), (20, LLN (l ++ [a])), (21, AI (pcode n xs (l ++ [a]))), (22, AI (pcode n xs (l ++ [a]))), (23, .bool (!decide ((pcode n xs (l ++ [a])) = 0))), (25, .agg [AI n, LI xs]), (26, LLN (l ++ [a])), (27, LI vs), (28, .fn 56 [.rptr [LI vs], .rptr [LI ups]])]), loopObj Tryz.f11 D us .ready, .box 81 [.ref 8], rowA eI 2 1 r, .box 24 [.ref 10], .box 82 [.fn 57 [.rptr [LI vs], .ptr 9 0, .ptr 11 0, .rptr [LI ups], .ptr 12 0]]] (.bool true) [.box 26 [AI n, LI xs], .box 51 [LLN l], .box 27 [LN a], .box 4 [.bool false], .box 2 [AI 0], rowA eLN 27 1 [a], .dead, .frame us (frm 52 [(0, .agg [AI n, LI xs]), (1, LLN l), (2, LN a), (3, .ptr 0 0), (4, .ptr 1 0), (5, .ptr 2 0), (6, .ptr 3 0), (7, .ptr 4 0), (8, LLN (l ++ [a])), (9, AI (pcode n xs (l ++ [a]))), (14, LLN l), (15, .clp 1 l.length (rows eLN l)), (16, LN a), (17, .ref 5), (18, LLN (l ++ [a])), (19, .agg [AI n, LI xs]), (20, LLN (l ++ [a])), (21, AI (pcode n xs (l ++ [a]))), (22, AI (pcode n xs (l ++ [a]))), (23, .bool (!decide ((pcode n xs (l ++ [a])) = 0))), (25, .agg [AI n, LI xs]), (26, LLN (l ++ [a])), (27, LI vs), (28, .fn 56 [.rptr [LI vs], .rptr [LI ups]])]), loopObj Tryz.f11 D us .ready, .box 81 [.ref 8], rowA eI 2 1 (vrU ups vs e), .box 24 [.ref 10], .box 82 [.fn 57 [.rptr [LI vs], .ptr 9 0, .ptr 11 0, .rptr [LI ups], .ptr 12 0]]] := by
  intro d
  induction d with
  | zero =>
    intro k p q lo e r hk hq hlo he hr hb
    have hlp : lo = p := by rw [hlo, hq, Nat.pow_zero, Nat.mul_one]
    have hq1 : q = 1 := by rw [hq, Nat.pow_zero]
    have hrv : r = vrU ups vs p := pvU_end hr (by omega)
    have hkv : (k : Int) = (vs.length : Int) := by omega
    have hoX : OKM (vrU ups vs p).length a := by rw [vrU_len]; exact hok
    have hvl6 := vrU_len ups vs p
    have hfrr : okFr n xs = true := okPo_fr hR
    subst hrv
    have hep : e = p := by omega
    rw [hep]
    have hgood : bnot (pmU n xs (vrU ups vs p) l l.length) (fcd n xs (vrU ups vs p) a) = 0 := badF_eq (hb p (by omega) (by omega))
    refine CallS.cast (CallS.drop [0, 1, 2, 3, 4, 5, 6, 7, 8, 9, 10, 11, 12] (CallS.of (res := .bool true) (hp' := [.box 26 [AI n, LI xs], .box 51 [LLN l], .box 27 [LN a], .box 4 [.bool false], .box 2 [AI 0], rowA eLN 27 1 [a], .dead, .frame us (frm 52 [(0, .agg [AI n, LI xs]), (1, LLN l), (2, LN a), (3, .ptr 0 0), (4, .ptr 1 0), (5, .ptr 2 0), (6, .ptr 3 0), (7, .ptr 4 0), (8, LLN (l ++ [a])), (9, AI (pcode n xs (l ++ [a]))), (14, LLN l), (15, .clp 1 l.length (rows eLN l)), (16, LN a), (17, .ref 5), (18, LLN (l ++ [a])), (19, .agg [AI n, LI xs]), (20, LLN (l ++ [a])), (21, AI (pcode n xs (l ++ [a]))), (22, AI (pcode n xs (l ++ [a]))), (23, .bool (!decide ((pcode n xs (l ++ [a])) = 0))), (25, .agg [AI n, LI xs]), (26, LLN (l ++ [a])), (27, LI vs), (28, .fn 56 [.rptr [LI vs], .rptr [LI ups]])]), loopObj Tryz.f11 D us .ready, .box 81 [.ref 8], rowA eI 2 1 (vrU ups vs p), .box 24 [.ref 10], .box 82 [.fn 57 [.rptr [LI vs], .ptr 9 0, .ptr 11 0, .rptr [LI ups], .ptr 12 0]], .dead, .dead]) Tryz.func57 rfl (by kernel_rfl) ?_) (by kernel_rfl) (by decide)) (by kernel_rfl) (by kernel_rfl)
    intro usC frC
    refine R.go 12 (R.thn (decide ((k : Int) = (vs.length : Int))) (by kernel_rfl) (dT hkv) ?_)
    refine R.go 4 (R.yield 8 D us (by kernel_rfl) (by kernel_rfl) ?_)
    intro l1 us2
    refine R.go 3 (R.begin (by kernel_rfl) (by kernel_rfl) ?_)
    refine R.go 4 (R.call true (pAll_c n xs (by omega) (by omega)) (by kernel_rfl) rfl (by kernel_rfl) ?_)
    refine R.go 10 (R.loop ((fun | (i, m) => (⟨(frm 52 [(3, .ptr 0 0), (5, .ptr 2 0), (6, .ptr 3 0), (7, .ptr 4 0), (10, .ref 10), (11, AI m), (32, LLN l), (33, AI l.length), (34, AI (i : Int))]), [.box 26 [AI n, LI xs], .box 51 [LLN l], .box 27 [LN a], .box 4 [.bool false], .box 2 [AI 0], rowA eLN 27 1 [a], .dead, .frame us (frm 52 [(0, .agg [AI n, LI xs]), (1, LLN l), (2, LN a), (3, .ptr 0 0), (4, .ptr 1 0), (5, .ptr 2 0), (6, .ptr 3 0), (7, .ptr 4 0), (8, LLN (l ++ [a])), (9, AI (pcode n xs (l ++ [a]))), (14, LLN l), (15, .clp 1 l.length (rows eLN l)), (16, LN a), (17, .ref 5), (18, LLN (l ++ [a])), (19, .agg [AI n, LI xs]), (20, LLN (l ++ [a])), (21, AI (pcode n xs (l ++ [a]))), (22, AI (pcode n xs (l ++ [a]))), (23, .bool (!decide ((pcode n xs (l ++ [a])) = 0))), (25, .agg [AI n, LI xs]), (26, LLN (l ++ [a])), (27, LI vs), (28, .fn 56 [.rptr [LI vs], .rptr [LI ups]])]), loopObj Tryz.f11 D us .busy, .box 81 [.ref 8], rowA eI 2 1 (vrU ups vs p), .box 24 [.ref 10], .box 82 [.fn 57 [.rptr [LI vs], .ptr 9 0, .ptr 11 0, .rptr [LI ups], .ptr 12 0]], .frame usC frC, .frame us2 (frm 36 [(0, AI (k : Int)), (1, .rptr [LI vs]), (2, .ptr 9 0), (3, .ptr 11 0), (4, .rptr [LI ups]), (5, .ptr 12 0), (7, .bool false), (10, AI (k : Int)), (11, LI vs), (12, AI vs.length), (13, .bool (decide ((k : Int) = (vs.length : Int)))), (14, .ref 8), (15, .ref 10)])]⟩ : St) : Nat × Int → St)) (fun | (i, m) => (i ≤ l.length) ∧ (m = pmU n xs (vrU ups vs p) l i)) (fun | (i, m) => l.length - i) (0, ((shl64 1 n) - 1)) [3, 5, 6, 7, 10, 11, 32, 33, 34] none (by kernel_rfl) (by kernel_rfl) (by kernel_rfl) ⟨(by omega), (by rfl)⟩ ?_)
    rintro ⟨i, m⟩ ⟨h6_1, rfl⟩ R3 N4
    refine R.go 5 (R.cond ((i : Int) < (l.length : Int)) (by kernel_rfl) (fun c7 => ?_) (fun c7 => ?_))
    · refine R.go 5 (R.idx eLN l [] i (i : Int) (by kernel_rfl) rfl eLN_len (by omega) (by kernel_rfl) ?_)
      have hq := hPA i (by omega)
      have hqo : OKM (vrU ups vs p).length (l.getD i []) := by rw [vrU_len]; exact (isF_okm hq.1).1
      have hql : (l.getD i []).length ≤ 40 := (isF_okm hq.1).2
      have hqp : (l.getD i []).any modN = false := hq.2
      refine R.go 8 (R.call false (forced2_c n xs (vrU ups vs p) (l.getD i []) hqo hqp (by omega) (by omega) (by first | omega | (simp <;> omega)) (by first | omega | (simp <;> omega))) (by kernel_rfl) rfl (by kernel_rfl) ?_)
      refine R.go 5 (R.ar ((i : Int) + 1) (by kernel_rfl) (by omega) (by omega) (by kernel_rfl) ?_)
      exact R.go 2 (R.stop R3 (by kernel_rfl) (N4 (i + 1, band (pmU n xs (vrU ups vs p) l i) (fcd n xs (vrU ups vs p) (l.getD i []))) [3, 5, 6, 7, 10, 11, 32, 33, 34] none _ (by kernel_rfl) (by kernel_rfl) ⟨(by omega), (by rfl)⟩ (by show (l.length - (i + 1)) < (l.length - i); omega)))
    · refine R.go 3 ?_
      have hsub_i : i = l.length := (by omega)
      subst hsub_i
      refine R.go 4 (R.call false (forced2_c n xs (vrU ups vs p) a hoX hpl (by omega) (by omega) (by first | omega | (simp <;> omega)) (by first | omega | (simp <;> omega))) (by kernel_rfl) rfl (by kernel_rfl) ?_)
      refine R.call true (within_c (pmU n xs (vrU ups vs p) l l.length) (fcd n xs (vrU ups vs p) a)) (by kernel_rfl) rfl (by kernel_rfl) ?_
      refine R.go 2 (R.els (!decide (bnot (pmU n xs (vrU ups vs p) l l.length) (fcd n xs (vrU ups vs p) a) = 0)) (by kernel_rfl) (nF hgood) ?_)
      refine R.go 2 (R.round (frm 36 [(0, AI (k : Int)), (1, .rptr [LI vs]), (2, .ptr 9 0), (3, .ptr 11 0), (4, .rptr [LI ups]), (5, .ptr 12 0), (7, .bool false), (10, AI (k : Int)), (11, LI vs), (12, AI vs.length), (13, .bool (decide ((k : Int) = (vs.length : Int)))), (14, .ref 8), (15, .ref 10)]) (by kernel_rfl) (by kernel_rfl) (by kernel_rfl) ?_)
      exact R.go 2 (R.retS (by kernel_rfl) (by kernel_rfl) (by kernel_rfl) (by kernel_rfl))
  | succ d ih =>
    intro k p q lo e r hk hq hlo he hr hb
    obtain ⟨q1, hq1⟩ : ∃ q1, q1 = ups.length ^ d := ⟨_, rfl⟩
    have hqq : q = q1 * ups.length := by rw [hq, Nat.pow_succ, hq1]
    have hlo2 : lo = p * (q1 * ups.length) := by rw [hlo, hqq]
    have hq0 : 1 ≤ q1 := by rw [hq1]; exact Nat.pow_pos (by omega)
    have hkv : ¬ (k : Int) = (vs.length : Int) := by omega
    have hg := vs_get hVS (k := k) (by omega)
    refine CallS.cast (CallS.drop [0, 1, 2, 3, 4, 5, 6, 7, 8, 9, 10, 11, 12] (CallS.of (res := .bool true) (hp' := [.box 26 [AI n, LI xs], .box 51 [LLN l], .box 27 [LN a], .box 4 [.bool false], .box 2 [AI 0], rowA eLN 27 1 [a], .dead, .frame us (frm 52 [(0, .agg [AI n, LI xs]), (1, LLN l), (2, LN a), (3, .ptr 0 0), (4, .ptr 1 0), (5, .ptr 2 0), (6, .ptr 3 0), (7, .ptr 4 0), (8, LLN (l ++ [a])), (9, AI (pcode n xs (l ++ [a]))), (14, LLN l), (15, .clp 1 l.length (rows eLN l)), (16, LN a), (17, .ref 5), (18, LLN (l ++ [a])), (19, .agg [AI n, LI xs]), (20, LLN (l ++ [a])), (21, AI (pcode n xs (l ++ [a]))), (22, AI (pcode n xs (l ++ [a]))), (23, .bool (!decide ((pcode n xs (l ++ [a])) = 0))), (25, .agg [AI n, LI xs]), (26, LLN (l ++ [a])), (27, LI vs), (28, .fn 56 [.rptr [LI vs], .rptr [LI ups]])]), loopObj Tryz.f11 D us .ready, .box 81 [.ref 8], rowA eI 2 1 (vrU ups vs e), .box 24 [.ref 10], .box 82 [.fn 57 [.rptr [LI vs], .ptr 9 0, .ptr 11 0, .rptr [LI ups], .ptr 12 0]], .dead]) Tryz.func57 rfl (by kernel_rfl) ?_) (by kernel_rfl) (by decide)) (by kernel_rfl) (by kernel_rfl)
    intro usC frC
    refine R.go 12 (R.els (decide ((k : Int) = (vs.length : Int))) (by kernel_rfl) (dF hkv) ?_)
    refine R.go 9 (R.loop ((fun | (i, li, r1) => (⟨(frm 36 [(0, AI (k : Int)), (1, .rptr [LI vs]), (3, .ptr 11 0), (5, .ptr 12 0), (17, LI ups), (18, AI ups.length), (19, AI (i : Int))]), [.box 26 [AI n, LI xs], .box 51 [LLN l], .box 27 [LN a], .box 4 [.bool false], .box 2 [AI 0], rowA eLN 27 1 [a], .dead, .frame us (frm 52 [(0, .agg [AI n, LI xs]), (1, LLN l), (2, LN a), (3, .ptr 0 0), (4, .ptr 1 0), (5, .ptr 2 0), (6, .ptr 3 0), (7, .ptr 4 0), (8, LLN (l ++ [a])), (9, AI (pcode n xs (l ++ [a]))), (14, LLN l), (15, .clp 1 l.length (rows eLN l)), (16, LN a), (17, .ref 5), (18, LLN (l ++ [a])), (19, .agg [AI n, LI xs]), (20, LLN (l ++ [a])), (21, AI (pcode n xs (l ++ [a]))), (22, AI (pcode n xs (l ++ [a]))), (23, .bool (!decide ((pcode n xs (l ++ [a])) = 0))), (25, .agg [AI n, LI xs]), (26, LLN (l ++ [a])), (27, LI vs), (28, .fn 56 [.rptr [LI vs], .rptr [LI ups]])]), loopObj Tryz.f11 D us .ready, .box 81 [.ref 8], rowA eI 2 1 r1, .box 24 [.ref 10], .box 82 [.fn 57 [.rptr [LI vs], .ptr 9 0, .ptr 11 0, .rptr [LI ups], .ptr 12 0]], .frame usC frC]⟩ : St) : Nat × Nat × (List Int) → St)) (fun | (i, li, r1) => (i ≤ ups.length) ∧ (li = (p * ups.length + i) * q1) ∧ (PVU ups vs p k r1) ∧ (i = 0 ∨ r1 = vrU ups vs (li - 1))) (fun | (i, li, r1) => ups.length - i) (0, lo, r) [0, 1, 3, 5, 17, 18, 19] none (by kernel_rfl) (by kernel_rfl) (by kernel_rfl) ⟨(by omega), (by exact li_start hlo2), (by assumption), (by exact .inl rfl)⟩ ?_)
    rintro ⟨i, li, r1⟩ ⟨h4_1, h4_2, h4_3, h4_4⟩ R1 N2
    have hlI : li = (p * ups.length + i) * q1 := by assumption
    have hpv : PVU ups vs p k r1 := by assumption
    have hlb := fun h : i < ups.length => li_bd hlo2 hlI h
    have hr1l : r1.length = 6 := hpv.1
    have hle2 := fun h : i = ups.length => li_end hlo2 hlI h
    refine R.go 5 (R.cond ((i : Int) < (ups.length : Int)) (by kernel_rfl) (fun c5 => ?_) (fun c5 => ?_))
    · refine R.go 5 (R.idx eI ups 0 i (i : Int) (by kernel_rfl) rfl eI_len (by omega) (by kernel_rfl) ?_)
      refine R.go 8 (R.idx eI vs 0 k (k : Int) (by kernel_rfl) rfl eI_len (by omega) (by kernel_rfl) ?_)
      refine R.go 2 (R.idxO 10 1 r1.length (((vs.getD k 0)).toNat) (vs.getD k 0) (by kernel_rfl) (by omega) (by omega) (by kernel_rfl) ?_)
      refine R.stI 10 2 r1 (((vs.getD k 0)).toNat) (ups.getD i 0) (by kernel_rfl) (by omega) (by kernel_rfl) ?_
      have hlc := hlb (by omega)
      have hgo := ih (k + 1) (p * ups.length + i) q1 li (li + q1 - 1) (r1.set (vs.getD k 0).toNat (ups.getD i 0)) (by omega) hq1 hlI (by omega) (pvU_step hpv hVS (by omega) (by omega)) (fun M h1 h2 => hb M (by omega) (by omega))
      refine R.go 5 (R.ar ((k : Int) + 1) (by kernel_rfl) (by omega) (by omega) (by kernel_rfl) ?_)
      refine R.callS (CallS.frame usC frC hgo (by kernel_rfl) (by kernel_rfl) (Nat.le_of_ble_eq_true (by kernel_rfl))) (by kernel_rfl) (by kernel_rfl) (by kernel_rfl) ?_
      refine R.go 6 (R.ar ((i : Int) + 1) (by kernel_rfl) (by omega) (by omega) (by kernel_rfl) ?_)
      exact R.go 2 (R.stop R1 (by kernel_rfl) (N2 (i + 1, (li + q1 - 1 + 1), vrU ups vs (li + q1 - 1)) [0, 1, 3, 5, 17, 18, 19] none _ (by kernel_rfl) (by kernel_rfl) ⟨(by omega), (by rw [show li + q1 - 1 + 1 = li + q1 by omega]; exact li_next (by assumption)), (by exact pv_next hVS hk (by omega) hq1 hlI hq0), (by exact .inr rfl)⟩ (by show (ups.length - (i + 1)) < (ups.length - i); omega)))
    · have hle : li = e + 1 := by have h1 := li_end hlo2 hlI (by omega); omega
      refine R.go 3 ?_
      have hsub_r1 : r1 = vrU ups vs e := ((by assumption : i = 0 ∨ r1 = vrU ups vs (li - 1)).elim (fun h => absurd h (by omega)) (fun h => h.trans (by rw [show li - 1 = e by omega])))
      subst hsub_r1
      exact R.go 2 (R.retS (by kernel_rfl) (by kernel_rfl) (by kernel_rfl) (by kernel_rfl))
theorem fol_stop (n : Int) (xs vs ups : List Int) (l : List (List (Int × Int))) (a : List (Int × Int)) (hR : okPo n xs = true) (hb0 : 0 ≤ n ∧ n ≤ 8 ∧ (xs.length : Int) = n) (hVS : VS vs) (hvl : vs.length ≤ 62) (hul : ups.length ≤ 256) (hup : 1 ≤ ups.length) (hok : OKM 6 a) (hal : a.length ≤ 40) (hpl : a.any modN = false) (hu : ups = upL n xs) (hPA : plAll l) (hll : l.length ≤ 1048576) (D : Nat) (us : List Value) : ∀ (d k p q lo : Nat) (r : List Int), k + d = vs.length → q = ups.length ^ d → lo = p * q → PVU ups vs p k r → (N0 : Nat) → lo ≤ N0 → N0 < lo + q → (∀ M : Nat, M < N0 → badF n xs ups vs l a M = false) → badF n xs ups vs l a N0 = true → CallS Tryz.prog 57 [AI (k : Int), .rptr [LI vs], .ptr 9 0, .ptr 11 0, .rptr [LI ups], .ptr 12 0] [.box 26 [AI n, LI xs], .box 51 [LLN l], .box 27 [LN a], .box 4 [.bool false], .box 2 [AI 0], rowA eLN 27 1 [a], .dead, .frame us (frm 52 [(0, .agg [AI n, LI xs]), (1, LLN l), (2, LN a), (3, .ptr 0 0), (4, .ptr 1 0), (5, .ptr 2 0), (6, .ptr 3 0), (7, .ptr 4 0), (8, LLN (l ++ [a])), (9, AI (pcode n xs (l ++ [a]))), (14, LLN l), (15, .clp 1 l.length (rows eLN l)), (16, LN a), (17, .ref 5), (18, LLN (l ++ [a])), (19, .agg [AI n, LI xs]), (20, LLN (l ++ [a])), (21, AI (pcode n xs (l ++ [a]))), (22, AI (pcode n xs (l ++ [a]))), (23, .bool (!decide ((pcode n xs (l ++ [a])) = 0))), (25, .agg [AI n, LI xs]), (26, LLN (l ++ [a])), (27, LI vs), (28, .fn 56 [.rptr [LI vs], .rptr [LI ups]])]), loopObj Tryz.f11 D us .ready, .box 81 [.ref 8], rowA eI 2 1 r, .box 24 [.ref 10], .box 82 [.fn 57 [.rptr [LI vs], .ptr 9 0, .ptr 11 0, .rptr [LI ups], .ptr 12 0]]] (.bool false) [.box 26 [AI n, LI xs], .box 51 [LLN l], .box 27 [LN a], .box 4 [.bool false], .box 2 [AI 0], rowA eLN 27 1 [a], .dead, .frame us (frm 52 [(0, .agg [AI n, LI xs]), (1, LLN l), (2, LN a), (3, .ptr 0 0), (4, .ptr 1 0), (5, .ptr 2 0), (6, .ptr 3 0), (7, .ptr 4 0), (8, LLN (l ++ [a])), (9, AI (pcode n xs (l ++ [a]))), (14, LLN l), (15, .clp 1 l.length (rows eLN l)), (16, LN a), (17, .ref 5), (18, LLN (l ++ [a])), (19, .agg [AI n, LI xs]), (20, LLN (l ++ [a])), (21, AI (pcode n xs (l ++ [a]))), (22, AI (pcode n xs (l ++ [a]))), (23, .bool (!decide ((pcode n xs (l ++ [a])) = 0))), (25, .agg [AI n, LI xs]), (26, LLN (l ++ [a])), (27, LI vs), (28, .fn 56 [.rptr [LI vs], .rptr [LI ups]])]), loopObj Tryz.f11 D us (.done .ret), .box 81 [.ref 8], rowA eI 2 1 (vrU ups vs N0), .box 24 [.ref 10], .box 82 [.fn 57 [.rptr [LI vs], .ptr 9 0, .ptr 11 0, .rptr [LI ups], .ptr 12 0]]] := by
  intro d
  induction d with
  | zero =>
    intro k p q lo r hk hq hlo hr N0 h1 h2 hn hp0
    have hlp : lo = p := by rw [hlo, hq, Nat.pow_zero, Nat.mul_one]
    have hq1 : q = 1 := by rw [hq, Nat.pow_zero]
    have hrv : r = vrU ups vs p := pvU_end hr (by omega)
    have hkv : (k : Int) = (vs.length : Int) := by omega
    have hoX : OKM (vrU ups vs p).length a := by rw [vrU_len]; exact hok
    have hvl6 := vrU_len ups vs p
    have hfrr : okFr n xs = true := okPo_fr hR
    subst hrv
    have hep : N0 = p := by omega
    rw [hep]
    have hbad : ¬ bnot (pmU n xs (vrU ups vs p) l l.length) (fcd n xs (vrU ups vs p) a) = 0 := badF_ne (by rw [← hep]; exact hp0)
    refine CallS.cast (CallS.drop [0, 1, 2, 3, 4, 5, 6, 7, 8, 9, 10, 11, 12] (CallS.of (res := .bool false) (hp' := [.box 26 [AI n, LI xs], .box 51 [LLN l], .box 27 [LN a], .box 4 [.bool false], .box 2 [AI 0], rowA eLN 27 1 [a], .dead, .frame us (frm 52 [(0, .agg [AI n, LI xs]), (1, LLN l), (2, LN a), (3, .ptr 0 0), (4, .ptr 1 0), (5, .ptr 2 0), (6, .ptr 3 0), (7, .ptr 4 0), (8, LLN (l ++ [a])), (9, AI (pcode n xs (l ++ [a]))), (14, LLN l), (15, .clp 1 l.length (rows eLN l)), (16, LN a), (17, .ref 5), (18, LLN (l ++ [a])), (19, .agg [AI n, LI xs]), (20, LLN (l ++ [a])), (21, AI (pcode n xs (l ++ [a]))), (22, AI (pcode n xs (l ++ [a]))), (23, .bool (!decide ((pcode n xs (l ++ [a])) = 0))), (25, .agg [AI n, LI xs]), (26, LLN (l ++ [a])), (27, LI vs), (28, .fn 56 [.rptr [LI vs], .rptr [LI ups]])]), loopObj Tryz.f11 D us (.done .ret), .box 81 [.ref 8], rowA eI 2 1 (vrU ups vs p), .box 24 [.ref 10], .box 82 [.fn 57 [.rptr [LI vs], .ptr 9 0, .ptr 11 0, .rptr [LI ups], .ptr 12 0]], .dead, .dead]) Tryz.func57 rfl (by kernel_rfl) ?_) (by kernel_rfl) (by decide)) (by kernel_rfl) (by kernel_rfl)
    intro usC frC
    refine R.go 12 (R.thn (decide ((k : Int) = (vs.length : Int))) (by kernel_rfl) (dT hkv) ?_)
    refine R.go 4 (R.yield 8 D us (by kernel_rfl) (by kernel_rfl) ?_)
    intro l1 us2
    refine R.go 3 (R.begin (by kernel_rfl) (by kernel_rfl) ?_)
    refine R.go 4 (R.call true (pAll_c n xs (by omega) (by omega)) (by kernel_rfl) rfl (by kernel_rfl) ?_)
    refine R.go 10 (R.loop ((fun | (i, m) => (⟨(frm 52 [(3, .ptr 0 0), (5, .ptr 2 0), (6, .ptr 3 0), (7, .ptr 4 0), (10, .ref 10), (11, AI m), (32, LLN l), (33, AI l.length), (34, AI (i : Int))]), [.box 26 [AI n, LI xs], .box 51 [LLN l], .box 27 [LN a], .box 4 [.bool false], .box 2 [AI 0], rowA eLN 27 1 [a], .dead, .frame us (frm 52 [(0, .agg [AI n, LI xs]), (1, LLN l), (2, LN a), (3, .ptr 0 0), (4, .ptr 1 0), (5, .ptr 2 0), (6, .ptr 3 0), (7, .ptr 4 0), (8, LLN (l ++ [a])), (9, AI (pcode n xs (l ++ [a]))), (14, LLN l), (15, .clp 1 l.length (rows eLN l)), (16, LN a), (17, .ref 5), (18, LLN (l ++ [a])), (19, .agg [AI n, LI xs]), (20, LLN (l ++ [a])), (21, AI (pcode n xs (l ++ [a]))), (22, AI (pcode n xs (l ++ [a]))), (23, .bool (!decide ((pcode n xs (l ++ [a])) = 0))), (25, .agg [AI n, LI xs]), (26, LLN (l ++ [a])), (27, LI vs), (28, .fn 56 [.rptr [LI vs], .rptr [LI ups]])]), loopObj Tryz.f11 D us .busy, .box 81 [.ref 8], rowA eI 2 1 (vrU ups vs p), .box 24 [.ref 10], .box 82 [.fn 57 [.rptr [LI vs], .ptr 9 0, .ptr 11 0, .rptr [LI ups], .ptr 12 0]], .frame usC frC, .frame us2 (frm 36 [(0, AI (k : Int)), (1, .rptr [LI vs]), (2, .ptr 9 0), (3, .ptr 11 0), (4, .rptr [LI ups]), (5, .ptr 12 0), (7, .bool false), (10, AI (k : Int)), (11, LI vs), (12, AI vs.length), (13, .bool (decide ((k : Int) = (vs.length : Int)))), (14, .ref 8), (15, .ref 10)])]⟩ : St) : Nat × Int → St)) (fun | (i, m) => (i ≤ l.length) ∧ (m = pmU n xs (vrU ups vs p) l i)) (fun | (i, m) => l.length - i) (0, ((shl64 1 n) - 1)) [3, 5, 6, 7, 10, 11, 32, 33, 34] none (by kernel_rfl) (by kernel_rfl) (by kernel_rfl) ⟨(by omega), (by rfl)⟩ ?_)
    rintro ⟨i, m⟩ ⟨h6_1, rfl⟩ R3 N4
    refine R.go 5 (R.cond ((i : Int) < (l.length : Int)) (by kernel_rfl) (fun c7 => ?_) (fun c7 => ?_))
    · refine R.go 5 (R.idx eLN l [] i (i : Int) (by kernel_rfl) rfl eLN_len (by omega) (by kernel_rfl) ?_)
      have hq := hPA i (by omega)
      have hqo : OKM (vrU ups vs p).length (l.getD i []) := by rw [vrU_len]; exact (isF_okm hq.1).1
      have hql : (l.getD i []).length ≤ 40 := (isF_okm hq.1).2
      have hqp : (l.getD i []).any modN = false := hq.2
      refine R.go 8 (R.call false (forced2_c n xs (vrU ups vs p) (l.getD i []) hqo hqp (by omega) (by omega) (by first | omega | (simp <;> omega)) (by first | omega | (simp <;> omega))) (by kernel_rfl) rfl (by kernel_rfl) ?_)
      refine R.go 5 (R.ar ((i : Int) + 1) (by kernel_rfl) (by omega) (by omega) (by kernel_rfl) ?_)
      exact R.go 2 (R.stop R3 (by kernel_rfl) (N4 (i + 1, band (pmU n xs (vrU ups vs p) l i) (fcd n xs (vrU ups vs p) (l.getD i []))) [3, 5, 6, 7, 10, 11, 32, 33, 34] none _ (by kernel_rfl) (by kernel_rfl) ⟨(by omega), (by rfl)⟩ (by show (l.length - (i + 1)) < (l.length - i); omega)))
    · refine R.go 3 ?_
      have hsub_i : i = l.length := (by omega)
      subst hsub_i
      refine R.go 4 (R.call false (forced2_c n xs (vrU ups vs p) a hoX hpl (by omega) (by omega) (by first | omega | (simp <;> omega)) (by first | omega | (simp <;> omega))) (by kernel_rfl) rfl (by kernel_rfl) ?_)
      refine R.call true (within_c (pmU n xs (vrU ups vs p) l l.length) (fcd n xs (vrU ups vs p) a)) (by kernel_rfl) rfl (by kernel_rfl) ?_
      refine R.go 2 (R.thn (!decide (bnot (pmU n xs (vrU ups vs p) l l.length) (fcd n xs (vrU ups vs p) a) = 0)) (by kernel_rfl) (nT hbad) ?_)
      refine R.go 5 (R.roundR (frm 36 [(0, AI (k : Int)), (1, .rptr [LI vs]), (2, .ptr 9 0), (3, .ptr 11 0), (4, .rptr [LI ups]), (5, .ptr 12 0), (7, .bool false), (10, AI (k : Int)), (11, LI vs), (12, AI vs.length), (13, .bool (decide ((k : Int) = (vs.length : Int)))), (14, .ref 8), (15, .ref 10)]) (by kernel_rfl) (by kernel_rfl) (by kernel_rfl) ?_)
      exact R.go 2 (R.retS (by kernel_rfl) (by kernel_rfl) (by kernel_rfl) (by kernel_rfl))
  | succ d ih =>
    intro k p q lo r hk hq hlo hr N0 h1 h2 hn hp0
    obtain ⟨q1, hq1⟩ : ∃ q1, q1 = ups.length ^ d := ⟨_, rfl⟩
    have hqq : q = q1 * ups.length := by rw [hq, Nat.pow_succ, hq1]
    have hlo2 : lo = p * (q1 * ups.length) := by rw [hlo, hqq]
    have hq0 : 1 ≤ q1 := by rw [hq1]; exact Nat.pow_pos (by omega)
    have hkv : ¬ (k : Int) = (vs.length : Int) := by omega
    have hg := vs_get hVS (k := k) (by omega)
    refine CallS.cast (CallS.drop [0, 1, 2, 3, 4, 5, 6, 7, 8, 9, 10, 11, 12] (CallS.of (res := .bool false) (hp' := [.box 26 [AI n, LI xs], .box 51 [LLN l], .box 27 [LN a], .box 4 [.bool false], .box 2 [AI 0], rowA eLN 27 1 [a], .dead, .frame us (frm 52 [(0, .agg [AI n, LI xs]), (1, LLN l), (2, LN a), (3, .ptr 0 0), (4, .ptr 1 0), (5, .ptr 2 0), (6, .ptr 3 0), (7, .ptr 4 0), (8, LLN (l ++ [a])), (9, AI (pcode n xs (l ++ [a]))), (14, LLN l), (15, .clp 1 l.length (rows eLN l)), (16, LN a), (17, .ref 5), (18, LLN (l ++ [a])), (19, .agg [AI n, LI xs]), (20, LLN (l ++ [a])), (21, AI (pcode n xs (l ++ [a]))), (22, AI (pcode n xs (l ++ [a]))), (23, .bool (!decide ((pcode n xs (l ++ [a])) = 0))), (25, .agg [AI n, LI xs]), (26, LLN (l ++ [a])), (27, LI vs), (28, .fn 56 [.rptr [LI vs], .rptr [LI ups]])]), loopObj Tryz.f11 D us (.done .ret), .box 81 [.ref 8], rowA eI 2 1 (vrU ups vs N0), .box 24 [.ref 10], .box 82 [.fn 57 [.rptr [LI vs], .ptr 9 0, .ptr 11 0, .rptr [LI ups], .ptr 12 0]], .dead]) Tryz.func57 rfl (by kernel_rfl) ?_) (by kernel_rfl) (by decide)) (by kernel_rfl) (by kernel_rfl)
    intro usC frC
    refine R.go 12 (R.els (decide ((k : Int) = (vs.length : Int))) (by kernel_rfl) (dF hkv) ?_)
    refine R.go 9 (R.loop ((fun | (i, li, r1) => (⟨(frm 36 [(0, AI (k : Int)), (1, .rptr [LI vs]), (3, .ptr 11 0), (5, .ptr 12 0), (17, LI ups), (18, AI ups.length), (19, AI (i : Int))]), [.box 26 [AI n, LI xs], .box 51 [LLN l], .box 27 [LN a], .box 4 [.bool false], .box 2 [AI 0], rowA eLN 27 1 [a], .dead, .frame us (frm 52 [(0, .agg [AI n, LI xs]), (1, LLN l), (2, LN a), (3, .ptr 0 0), (4, .ptr 1 0), (5, .ptr 2 0), (6, .ptr 3 0), (7, .ptr 4 0), (8, LLN (l ++ [a])), (9, AI (pcode n xs (l ++ [a]))), (14, LLN l), (15, .clp 1 l.length (rows eLN l)), (16, LN a), (17, .ref 5), (18, LLN (l ++ [a])), (19, .agg [AI n, LI xs]), (20, LLN (l ++ [a])), (21, AI (pcode n xs (l ++ [a]))), (22, AI (pcode n xs (l ++ [a]))), (23, .bool (!decide ((pcode n xs (l ++ [a])) = 0))), (25, .agg [AI n, LI xs]), (26, LLN (l ++ [a])), (27, LI vs), (28, .fn 56 [.rptr [LI vs], .rptr [LI ups]])]), loopObj Tryz.f11 D us .ready, .box 81 [.ref 8], rowA eI 2 1 r1, .box 24 [.ref 10], .box 82 [.fn 57 [.rptr [LI vs], .ptr 9 0, .ptr 11 0, .rptr [LI ups], .ptr 12 0]], .frame usC frC]⟩ : St) : Nat × Nat × (List Int) → St)) (fun | (i, li, r1) => (i ≤ ups.length) ∧ (li = (p * ups.length + i) * q1) ∧ (PVU ups vs p k r1) ∧ (i = 0 ∨ r1 = vrU ups vs (li - 1)) ∧ (li ≤ N0)) (fun | (i, li, r1) => ups.length - i) (0, lo, r) [0, 1, 3, 5, 17, 18, 19] none (by kernel_rfl) (by kernel_rfl) (by kernel_rfl) ⟨(by omega), (by exact li_start hlo2), (by assumption), (by exact .inl rfl), (by omega)⟩ ?_)
    rintro ⟨i, li, r1⟩ ⟨h4_1, h4_2, h4_3, h4_4, h4_5⟩ R1 N2
    have hlI : li = (p * ups.length + i) * q1 := by assumption
    have hpv : PVU ups vs p k r1 := by assumption
    have hlb := fun h : i < ups.length => li_bd hlo2 hlI h
    have hr1l : r1.length = 6 := hpv.1
    have hle2 := fun h : i = ups.length => li_end hlo2 hlI h
    refine R.go 5 (R.cond ((i : Int) < (ups.length : Int)) (by kernel_rfl) (fun c5 => ?_) (fun c5 => ?_))
    · refine R.go 5 (R.idx eI ups 0 i (i : Int) (by kernel_rfl) rfl eI_len (by omega) (by kernel_rfl) ?_)
      refine R.go 8 (R.idx eI vs 0 k (k : Int) (by kernel_rfl) rfl eI_len (by omega) (by kernel_rfl) ?_)
      refine R.go 2 (R.idxO 10 1 r1.length (((vs.getD k 0)).toNat) (vs.getD k 0) (by kernel_rfl) (by omega) (by omega) (by kernel_rfl) ?_)
      refine R.stI 10 2 r1 (((vs.getD k 0)).toNat) (ups.getD i 0) (by kernel_rfl) (by omega) (by kernel_rfl) ?_
      have hlc := hlb (by omega)
      have hgo := fun h : ¬ N0 < li + q1 => fol_go n xs vs ups l a hR hb0 hVS hvl hul hup hok hal hpl hu hPA hll D us d (k + 1) (p * ups.length + i) q1 li (li + q1 - 1) (r1.set (vs.getD k 0).toNat (ups.getD i 0)) (by omega) hq1 hlI (by omega) (pvU_step hpv hVS (by omega) (by omega)) (fun M h1 h2 => hn M (by omega))
      have hstop := fun h : N0 < li + q1 => ih (k + 1) (p * ups.length + i) q1 li (r1.set (vs.getD k 0).toNat (ups.getD i 0)) (by omega) hq1 hlI (pvU_step hpv hVS (by omega) (by omega)) N0 (by omega) h hn hp0
      refine R.go 4 ?_
      by_cases c6 : N0 < li + q1
      · refine R.go 1 (R.ar ((k : Int) + 1) (by kernel_rfl) (by omega) (by omega) (by kernel_rfl) ?_)
        refine R.callS (CallS.frame usC frC (hstop (by assumption)) (by kernel_rfl) (by kernel_rfl) (Nat.le_of_ble_eq_true (by kernel_rfl))) (by kernel_rfl) (by kernel_rfl) (by kernel_rfl) ?_
        exact R.go 7 (R.retS (by kernel_rfl) (by kernel_rfl) (by kernel_rfl) (by kernel_rfl))
      · refine R.go 1 (R.ar ((k : Int) + 1) (by kernel_rfl) (by omega) (by omega) (by kernel_rfl) ?_)
        refine R.callS (CallS.frame usC frC (hgo (by assumption)) (by kernel_rfl) (by kernel_rfl) (Nat.le_of_ble_eq_true (by kernel_rfl))) (by kernel_rfl) (by kernel_rfl) (by kernel_rfl) ?_
        refine R.go 6 (R.ar ((i : Int) + 1) (by kernel_rfl) (by omega) (by omega) (by kernel_rfl) ?_)
        exact R.go 2 (R.stop R1 (by kernel_rfl) (N2 (i + 1, (li + q1 - 1 + 1), vrU ups vs (li + q1 - 1)) [0, 1, 3, 5, 17, 18, 19] none _ (by kernel_rfl) (by kernel_rfl) ⟨(by omega), (by rw [show li + q1 - 1 + 1 = li + q1 by omega]; exact li_next (by assumption)), (by exact pv_next hVS hk (by omega) hq1 hlI hq0), (by exact .inr rfl), (by omega)⟩ (by show (ups.length - (i + 1)) < (ups.length - i); omega)))
    · exfalso; omega -- another end: .bool true

theorem FO_impl (n : Int) (xs : List Int) (l : List (List (Int × Int))) (a : List (Int × Int)) (lx : xs.length ≤ 1048576) (hlim : lim l) (hla : a.length ≤ 1048576) : CallA Tryz.prog 11 [.agg [AI n, LI xs], LLN l, LN a] (.tup [.bool (foV n xs l a), AI (pcode n xs (l ++ [a]))]) := by
  have hs : shortL (l ++ [a]) := shortL_app hlim hla
  have hll0 := hlim.1
  refine CallA.of Tryz.func11 rfl (by kernel_rfl) ?_
  refine R.go 11 (R.call true (clipLL_c l) (by kernel_rfl) rfl (by kernel_rfl) ?_)
  refine R.go 2 (R.appC eLN l [a] 27 1 24 (by kernel_rfl) eLN_one (by decide) (by first | omega | (simp <;> omega)) (by simp) (by kernel_rfl) ?_)
  refine R.go 5 (R.frz 6 (by kernel_rfl) ?_)
  refine R.go 2 (R.call true (posetSearch_c n xs (l ++ [a]) lx hs) (by kernel_rfl) rfl (by kernel_rfl) ?_)
  refine R.go 7 (R.condN ((pcode n xs (l ++ [a])) = 0) (by kernel_rfl) (fun c1 => ?_) (fun c1 => ?_))
  · exact R.go 6 (R.retE (.tup [.bool false, AI (pcode n xs (l ++ [a]))]) (by kernel_rfl) (by kernel_rfl) (by first | (first | exact fo_bad (by assumption) | exact fo_none hc0 (by assumption) | exact fo_someN hc0 (by assumption)) | (exfalso; omega)))
  · have hc0 : pcode n xs (l ++ [a]) = 0 := by assumption
    have hpo := pc_ok hc0
    have hR : okPo n xs = true := hpo.1
    have hAFl : allF (l ++ [a]) = true := hpo.2.1
    have hpa := plAll_app hpo.2.1 hpo.2.2.1
    have hPA : plAll l := hpa.1
    have hF : isF a = true := hpa.2.1
    have hpl : a.any modN = false := hpa.2.2
    have ht0 : pwT ((upL n xs).length : Int) (mem (vmT (l ++ [a]) (l ++ [a]).length)).length ≤ 4096 := hpo.2.2.2
    obtain ⟨vs, hvs⟩ : ∃ vs, vs = mem (vmT (l ++ [a]) (l ++ [a]).length) := ⟨_, rfl⟩
    obtain ⟨ups, hu⟩ : ∃ ups, ups = upL n xs := ⟨_, rfl⟩
    have ht : pwT (ups.length : Int) vs.length ≤ 4096 := by rw [hu, hvs]; exact ht0
    have hfr : okFr n xs = true := okPo_fr hR
    have hFr := okFr_rel hfr
    have hb0 : 0 ≤ n ∧ n ≤ 8 ∧ (xs.length : Int) = n := ⟨hFr.1, hFr.2.1, hFr.2.2.1⟩
    have hVS : VS vs := by rw [hvs]; exact VS_vmT hAFl
    have hvl : vs.length ≤ 62 := by rw [hvs]; exact mem_le _
    have hul : ups.length ≤ 256 := by rw [hu]; exact upL_len hR
    have hup : 1 ≤ ups.length := by rw [hu]; exact upL_pos hR
    have htt : (totU n xs vs : Int) = pwT (ups.length : Int) vs.length := by rw [hu]; rw [hu] at ht; exact tot_le ht
    have hok : OKM 6 a := (isF_okm hF).1
    have hal : a.length ≤ 40 := (isF_okm hF).2
    have hok2 := fun N => show OKM (vrU ups vs N).length a by rw [vrU_len]; exact hok
    have hlen := okm_pos hok
    have hq1 : 1 ≤ ups.length ^ vs.length := Nat.pow_pos (by omega)
    have hll : l.length ≤ 1048576 := hll0
    have hgoF : foN n xs l a = none → ∀ M : Nat, M < ups.length ^ vs.length → badF n xs ups vs l a M = false := fun h => by unfold foN at h; rw [← hvs, ← hu] at h; have h2 := fstN_none h; rw [totU, ← hu] at h2; exact h2
    obtain ⟨N, hstF⟩ : ∃ N : Nat, ¬ foN n xs l a = none → N < ups.length ^ vs.length ∧ badF n xs ups vs l a N = true ∧ ∀ M : Nat, M < N → badF n xs ups vs l a M = false := by
      cases e : foN n xs l a with
      | none => exact ⟨0, fun h => absurd rfl h⟩
      | some N => exact ⟨N, fun _ => by unfold foN at e; rw [← hvs, ← hu] at e; have h2 := fstN_some e; rw [totU, ← hu] at h2; exact h2⟩
    refine R.go 6 (R.call true (variablesInG_c (l ++ [a]) vs (by assumption) hAFl (by first | omega | (simp <;> omega))).frz (by kernel_rfl) rfl (by kernel_rfl) ?_)
    refine R.call true (valuationsP_c n xs vs ups (by assumption) hR) (by kernel_rfl) rfl (by kernel_rfl) ?_
    refine R.go 2 (R.range (caps := [.rptr [LI vs], .rptr [LI ups]]) Tryz.func56 rfl (by kernel_rfl) (by kernel_rfl) ?_)
    intro D2 us3
    refine R.go 21 ?_
    by_cases c4 : foN n xs l a = none
    · refine R.callS (fol_go n xs vs ups l a hR hb0 hVS hvl hul hup hok hal hpl hu hPA hll D2 us3 vs.length 0 0 (ups.length ^ vs.length) 0 ((ups.length ^ vs.length) - 1) (List.replicate 6 0) (by omega) rfl (by simp) (by omega) (pvU_start ups vs) (fun M h1 h2 => hgoF (by assumption) M (by omega))) (by kernel_rfl) (by kernel_rfl) (by kernel_rfl) ?_
      refine R.go 1 (R.over (.tup []) (frm 52 [(0, .agg [AI n, LI xs]), (1, LLN l), (2, LN a), (3, .ptr 0 0), (4, .ptr 1 0), (5, .ptr 2 0), (6, .ptr 3 0), (7, .ptr 4 0), (8, LLN (l ++ [a])), (9, AI (pcode n xs (l ++ [a]))), (14, LLN l), (15, .clp 1 l.length (rows eLN l)), (16, LN a), (17, .ref 5), (18, LLN (l ++ [a])), (19, .agg [AI n, LI xs]), (20, LLN (l ++ [a])), (21, AI (pcode n xs (l ++ [a]))), (22, AI (pcode n xs (l ++ [a]))), (23, .bool (!decide ((pcode n xs (l ++ [a])) = 0))), (25, .agg [AI n, LI xs]), (26, LLN (l ++ [a])), (27, LI vs), (28, .fn 56 [.rptr [LI vs], .rptr [LI ups]])]) (by kernel_rfl) (by kernel_rfl) (by kernel_rfl) (by kernel_rfl) ?_)
      exact R.go 6 (R.retE (.tup [.bool true, AI 0]) (by kernel_rfl) (by kernel_rfl) (by first | (first | exact fo_bad (by assumption) | exact fo_none hc0 (by assumption) | exact fo_someN hc0 (by assumption)) | (exfalso; omega)))
    · refine R.callS (fol_stop n xs vs ups l a hR hb0 hVS hvl hul hup hok hal hpl hu hPA hll D2 us3 vs.length 0 0 (ups.length ^ vs.length) 0 (List.replicate 6 0) (by omega) rfl (by simp) (pvU_start ups vs) N (Nat.zero_le _) (by have h3 := (hstF (by assumption)).1; omega) (hstF (by assumption)).2.2 (hstF (by assumption)).2.1) (by kernel_rfl) (by kernel_rfl) (by kernel_rfl) ?_
      refine R.go 1 (R.left (.ret) (.tup []) (frm 52 [(0, .agg [AI n, LI xs]), (1, LLN l), (2, LN a), (3, .ptr 0 0), (4, .ptr 1 0), (5, .ptr 2 0), (6, .ptr 3 0), (7, .ptr 4 0), (8, LLN (l ++ [a])), (9, AI (pcode n xs (l ++ [a]))), (14, LLN l), (15, .clp 1 l.length (rows eLN l)), (16, LN a), (17, .ref 5), (18, LLN (l ++ [a])), (19, .agg [AI n, LI xs]), (20, LLN (l ++ [a])), (21, AI (pcode n xs (l ++ [a]))), (22, AI (pcode n xs (l ++ [a]))), (23, .bool (!decide ((pcode n xs (l ++ [a])) = 0))), (25, .agg [AI n, LI xs]), (26, LLN (l ++ [a])), (27, LI vs), (28, .fn 56 [.rptr [LI vs], .rptr [LI ups]])]) (by kernel_rfl) (by kernel_rfl) (by kernel_rfl) (by kernel_rfl) ?_)
      exact R.retE (.tup [.bool false, AI 0]) (by kernel_rfl) (by kernel_rfl) (by first | (first | exact fo_bad (by assumption) | exact fo_none hc0 (by assumption) | exact fo_someN hc0 (by assumption)) | (exfalso; omega))

end Go.Proofs.YtogehjciaamcfaaGreat
