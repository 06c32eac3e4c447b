/- The program's valuations on posets (a recursive closure that yields); validity and first refutations. -/
import Derived.Test.YtkanjgmocmhlkaaGreatZ02
namespace Go.Proofs.YtkanjgmocmhlkaaGreat
open Go.RowKit Go.Abs

theorem li_next {a i q li : Nat} (h : li = (a + i) * q) : li + q = (a + (i + 1)) * q := by rw [h, ← Nat.add_assoc, Nat.succ_mul]
theorem li_start {p U q lo : Nat} (h : lo = p * (q * U)) : lo = (p * U + 0) * q := by rw [h, Nat.add_zero, Nat.mul_assoc, Nat.mul_comm U q]
theorem li_end {p U q lo li i : Nat} (h : lo = p * (q * U)) (h2 : li = (p * U + i) * q) (hi : i = U) : li = lo + q * U := by rw [h2, h, hi, Nat.add_mul, Nat.mul_assoc, Nat.mul_comm U q]
theorem li_bd {p U q lo li i : Nat} (h : lo = p * (q * U)) (h2 : li = (p * U + i) * q) (hi : i < U) : lo ≤ li ∧ li + q ≤ lo + q * U := by
  have h3 : (i + 1) * q ≤ U * q := Nat.mul_le_mul_right q hi
  have h4 : li = lo + i * q := by rw [h2, h, Nat.add_mul, Nat.mul_assoc, Nat.mul_comm U q]
  rw [Nat.succ_mul] at h3
  rw [Nat.mul_comm q U]
  omega
theorem pv_next {ups vs : List Int} {p d k i li q : Nat} (hv : VS vs) (hk : k + (d + 1) = vs.length) (hi : i < ups.length) (hq : q = ups.length ^ d) (hli : li = (p * ups.length + i) * q) (hq0 : 1 ≤ q) : PVU ups vs p k (vrU ups vs (li + q - 1)) := by
  refine pvU_of hv (by omega) ?_
  rw [show vs.length - k = d + 1 by omega]
  have h1 := Nat.succ_mul (p * ups.length + i) q
  refine last_div (i := i) hi ?_ ?_
  · rw [← hq, ← hli]; omega
  · rw [← hq, h1, ← hli]; omega

theorem badU_eq {n : Int} {xs ups vs : List Int} {a : List (Int × Int)} {p : Nat} (hu : ups = upL n xs) (h : badU n xs vs a p = false) : fcd n xs (vrU ups vs p) a = (shl64 1 n) - 1 := by subst hu; simpa [badU] using h
theorem badU_ne {n : Int} {xs ups vs : List Int} {a : List (Int × Int)} {p : Nat} (hu : ups = upL n xs) (h : badU n xs vs a p = true) : ¬ fcd n xs (vrU ups vs p) a = (shl64 1 n) - 1 := by subst hu; simpa [badU] using h
theorem fstN_none {p : Nat → Bool} {t : Nat} (h : fstN p t = none) : ∀ M : Nat, M < t → p M = false := fun M hM => by
  have := List.find?_eq_none.1 h M (List.mem_range.2 hM)
  simpa using this
theorem fstN_some {p : Nat → Bool} {N : Nat} : ∀ {t : Nat}, fstN p t = some N → N < t ∧ p N = true ∧ ∀ M : Nat, M < N → p M = false
  | 0, h => by simp [fstN] at h
  | t + 1, h => by
    have e : fstN p (t + 1) = (fstN p t).or (if p t = true then some t else none) := by
      have h5 : List.find? p [t] = if p t = true then some t else none := by cases e : p t <;> simp [List.find?, e]
      rw [fstN, List.range_succ, List.find?_append, h5]
      rfl
    rw [e] at h
    cases hN : fstN p t with
    | some N' =>
      rw [hN] at h
      simp only [Option.some_or, Option.some.injEq] at h
      subst h
      have := fstN_some hN
      exact ⟨by omega, this.2⟩
    | none =>
      rw [hN] at h
      simp only [Option.none_or] at h
      split at h
      · rename_i hp
        simp only [Option.some.injEq] at h
        subst h
        exact ⟨by omega, hp, fstN_none hN⟩
      · cases h

theorem valuationsP_c (n : Int) (xs : List Int) (vs : List Int) (ups : List Int) (hu : ups = upL n xs) (hP : okPo n xs = true) : CallA Tryz.prog 51 [.agg [AI n, LI xs], LI vs] (.fn 82 [.rptr [LI vs], .rptr [LI ups]]) := by
  refine CallA.of Tryz.func51 rfl (by kernel_rfl) ?_
  refine R.go 9 (R.call true (upsetsG_c n xs ups hu hP).frz (by kernel_rfl) rfl (by kernel_rfl) ?_)
  refine R.go 8 (R.bx 1 (by kernel_rfl) ?_)
  refine R.bx 2 (by kernel_rfl) ?_
  exact R.retE (.fn 82 [.rptr [LI vs], .rptr [LI ups]]) (by kernel_rfl) (by kernel_rfl) (by rfl)

theorem unf_go (n : Int) (xs vs ups : List Int) (a : List (Int × Int)) (hR : okPo n xs = true) (hb0 : 0 ≤ n ∧ n ≤ 8 ∧ (xs.length : Int) = n) (hVS : VS vs) (hvl : vs.length ≤ 62) (hul : ups.length ≤ 256) (hup : 1 ≤ ups.length) (hok : OKM 6 a) (hal : a.length ≤ 40) (hpl : a.any modN = false) (hu : ups = upL n xs) (D : Nat) (us : List Value) : ∀ (d k p q lo e : Nat) (r : List Int), k + d = vs.length → q = ups.length ^ d → lo = p * q → e + 1 = lo + q → PVU ups vs p k r → (∀ M : Nat, lo ≤ M → M ≤ e → badU n xs vs a M = false) → CallS Tryz.prog 83 [AI (k : Int), .rptr [LI vs], .ptr 7 0, .ptr 9 0, .rptr [LI ups], .ptr 10 0] [.box 30 [AI n, LI xs], .box 32 [LN a], .box 22 [.nil], .box 2 [AI 0], .box 4 [.bool false], .frame us (frm 26 [(0, .agg [AI n, LI xs]), (1, LN a), (2, .ptr 0 0), (3, .ptr 1 0), (4, .ptr 2 0), (5, .ptr 3 0), (6, .ptr 4 0), (9, .agg [AI n, LI xs]), (10, LN a), (11, LLN [a]), (12, LI vs), (13, .fn 82 [.rptr [LI vs], .rptr [LI ups]])]), loopObj Tryz.f43 D us .ready, .box 97 [.ref 6], rowA eI 2 1 r, .box 22 [.ref 8], .box 98 [.fn 83 [.rptr [LI vs], .ptr 7 0, .ptr 9 0, .rptr [LI ups], .ptr 10 0]]] (.bool true) [.box 30 [AI n, LI xs], .box 32 [LN a], .box 22 [.nil], .box 2 [AI 0], .box 4 [.bool false], .frame us (frm 26 [(0, .agg [AI n, LI xs]), (1, LN a), (2, .ptr 0 0), (3, .ptr 1 0), (4, .ptr 2 0), (5, .ptr 3 0), (6, .ptr 4 0), (9, .agg [AI n, LI xs]), (10, LN a), (11, LLN [a]), (12, LI vs), (13, .fn 82 [.rptr [LI vs], .rptr [LI ups]])]), loopObj Tryz.f43 D us .ready, .box 97 [.ref 6], rowA eI 2 1 (vrU ups vs e), .box 22 [.ref 8], .box 98 [.fn 83 [.rptr [LI vs], .ptr 7 0, .ptr 9 0, .rptr [LI ups], .ptr 10 0]]] := by
  intro d
  induction d with
  | zero =>
    intro k p q lo e r hk hq hlo he hr hb
    have hlp : lo = p := by rw [hlo, hq, Nat.pow_zero, Nat.mul_one]
    have hq1 : q = 1 := by rw [hq, Nat.pow_zero]
    have hrv : r = vrU ups vs p := pvU_end hr (by omega)
    have hkv : (k : Int) = (vs.length : Int) := by omega
    have hoX : OKM (vrU ups vs p).length a := by rw [vrU_len]; exact hok
    have hvl6 := vrU_len ups vs p
    have hfrr : okFr n xs = true := okPo_fr hR
    subst hrv
    have hep : e = p := by omega
    rw [hep]
    have hgood : fcd n xs (vrU ups vs p) a = (shl64 1 n) - 1 := badU_eq hu (hb p (by omega) (by omega))
    refine CallS.cast (CallS.drop [0, 1, 2, 3, 4, 5, 6, 7, 8, 9, 10] (CallS.of (res := .bool true) (hp' := [.box 30 [AI n, LI xs], .box 32 [LN a], .box 22 [.nil], .box 2 [AI 0], .box 4 [.bool false], .frame us (frm 26 [(0, .agg [AI n, LI xs]), (1, LN a), (2, .ptr 0 0), (3, .ptr 1 0), (4, .ptr 2 0), (5, .ptr 3 0), (6, .ptr 4 0), (9, .agg [AI n, LI xs]), (10, LN a), (11, LLN [a]), (12, LI vs), (13, .fn 82 [.rptr [LI vs], .rptr [LI ups]])]), loopObj Tryz.f43 D us .ready, .box 97 [.ref 6], rowA eI 2 1 (vrU ups vs p), .box 22 [.ref 8], .box 98 [.fn 83 [.rptr [LI vs], .ptr 7 0, .ptr 9 0, .rptr [LI ups], .ptr 10 0]], .dead, .dead]) Tryz.func83 rfl (by kernel_rfl) ?_) (by kernel_rfl) (by decide)) (by kernel_rfl) (by kernel_rfl)
    intro usC frC
    refine R.go 12 (R.thn (decide ((k : Int) = (vs.length : Int))) (by kernel_rfl) (dT hkv) ?_)
    refine R.go 4 (R.yield 6 D us (by kernel_rfl) (by kernel_rfl) ?_)
    intro l1 us2
    refine R.go 3 (R.begin (by kernel_rfl) (by kernel_rfl) ?_)
    refine R.go 6 (R.call false (forced2_c n xs (vrU ups vs p) a hoX hpl (by omega) (by omega) (by first | omega | (simp <;> omega)) (by first | omega | (simp <;> omega))) (by kernel_rfl) rfl (by kernel_rfl) ?_)
    refine R.go 6 (R.call true (pAll_c n xs (by omega) (by omega)) (by kernel_rfl) rfl (by kernel_rfl) ?_)
    refine R.go 2 (R.condN ((fcd n xs (vrU ups vs p) a) = ((shl64 1 n) - 1)) (by kernel_rfl) (fun c3 => ?_) (fun c3 => ?_))
    · exfalso; omega -- another end: .bool false
    · refine R.go 2 (R.round (frm 36 [(0, AI (k : Int)), (1, .rptr [LI vs]), (2, .ptr 7 0), (3, .ptr 9 0), (4, .rptr [LI ups]), (5, .ptr 10 0), (7, .bool false), (10, AI (k : Int)), (11, LI vs), (12, AI vs.length), (13, .bool (decide ((k : Int) = (vs.length : Int)))), (14, .ref 6), (15, .ref 8)]) (by kernel_rfl) (by kernel_rfl) (by kernel_rfl) ?_)
      exact R.go 2 (R.retS (by kernel_rfl) (by kernel_rfl) (by kernel_rfl) (by kernel_rfl))
  | succ d ih =>
    intro k p q lo e r hk hq hlo he hr hb
    obtain ⟨q1, hq1⟩ : ∃ q1, q1 = ups.length ^ d := ⟨_, rfl⟩
    have hqq : q = q1 * ups.length := by rw [hq, Nat.pow_succ, hq1]
    have hlo2 : lo = p * (q1 * ups.length) := by rw [hlo, hqq]
    have hq0 : 1 ≤ q1 := by rw [hq1]; exact Nat.pow_pos (by omega)
    have hkv : ¬ (k : Int) = (vs.length : Int) := by omega
    have hg := vs_get hVS (k := k) (by omega)
    refine CallS.cast (CallS.drop [0, 1, 2, 3, 4, 5, 6, 7, 8, 9, 10] (CallS.of (res := .bool true) (hp' := [.box 30 [AI n, LI xs], .box 32 [LN a], .box 22 [.nil], .box 2 [AI 0], .box 4 [.bool false], .frame us (frm 26 [(0, .agg [AI n, LI xs]), (1, LN a), (2, .ptr 0 0), (3, .ptr 1 0), (4, .ptr 2 0), (5, .ptr 3 0), (6, .ptr 4 0), (9, .agg [AI n, LI xs]), (10, LN a), (11, LLN [a]), (12, LI vs), (13, .fn 82 [.rptr [LI vs], .rptr [LI ups]])]), loopObj Tryz.f43 D us .ready, .box 97 [.ref 6], rowA eI 2 1 (vrU ups vs e), .box 22 [.ref 8], .box 98 [.fn 83 [.rptr [LI vs], .ptr 7 0, .ptr 9 0, .rptr [LI ups], .ptr 10 0]], .dead]) Tryz.func83 rfl (by kernel_rfl) ?_) (by kernel_rfl) (by decide)) (by kernel_rfl) (by kernel_rfl)
    intro usC frC
    refine R.go 12 (R.els (decide ((k : Int) = (vs.length : Int))) (by kernel_rfl) (dF hkv) ?_)
    refine R.go 9 (R.loop ((fun | (i, li, r1) => (⟨(frm 36 [(0, AI (k : Int)), (1, .rptr [LI vs]), (3, .ptr 9 0), (5, .ptr 10 0), (17, LI ups), (18, AI ups.length), (19, AI (i : Int))]), [.box 30 [AI n, LI xs], .box 32 [LN a], .box 22 [.nil], .box 2 [AI 0], .box 4 [.bool false], .frame us (frm 26 [(0, .agg [AI n, LI xs]), (1, LN a), (2, .ptr 0 0), (3, .ptr 1 0), (4, .ptr 2 0), (5, .ptr 3 0), (6, .ptr 4 0), (9, .agg [AI n, LI xs]), (10, LN a), (11, LLN [a]), (12, LI vs), (13, .fn 82 [.rptr [LI vs], .rptr [LI ups]])]), loopObj Tryz.f43 D us .ready, .box 97 [.ref 6], rowA eI 2 1 r1, .box 22 [.ref 8], .box 98 [.fn 83 [.rptr [LI vs], .ptr 7 0, .ptr 9 0, .rptr [LI ups], .ptr 10 0]], .frame usC frC]⟩ : St) : Nat × Nat × (List Int) → St)) (fun | (i, li, r1) => (i ≤ ups.length) ∧ (li = (p * ups.length + i) * q1) ∧ (PVU ups vs p k r1) ∧ (i = 0 ∨ r1 = vrU ups vs (li - 1))) (fun | (i, li, r1) => ups.length - i) (0, lo, r) [0, 1, 3, 5, 17, 18, 19] none (by kernel_rfl) (by kernel_rfl) (by kernel_rfl) ⟨(by omega), (by exact li_start hlo2), (by assumption), (by exact .inl rfl)⟩ ?_)
    rintro ⟨i, li, r1⟩ ⟨h4_1, h4_2, h4_3, h4_4⟩ R1 N2
    have hlI : li = (p * ups.length + i) * q1 := by assumption
    have hpv : PVU ups vs p k r1 := by assumption
    have hlb := fun h : i < ups.length => li_bd hlo2 hlI h
    have hr1l : r1.length = 6 := hpv.1
    have hle2 := fun h : i = ups.length => li_end hlo2 hlI h
    refine R.go 5 (R.cond ((i : Int) < (ups.length : Int)) (by kernel_rfl) (fun c5 => ?_) (fun c5 => ?_))
    · refine R.go 5 (R.idx eI ups 0 i (i : Int) (by kernel_rfl) rfl eI_len (by omega) (by kernel_rfl) ?_)
      refine R.go 8 (R.idx eI vs 0 k (k : Int) (by kernel_rfl) rfl eI_len (by omega) (by kernel_rfl) ?_)
      refine R.go 2 (R.idxO 8 1 r1.length (((vs.getD k 0)).toNat) (vs.getD k 0) (by kernel_rfl) (by omega) (by omega) (by kernel_rfl) ?_)
      refine R.stI 8 2 r1 (((vs.getD k 0)).toNat) (ups.getD i 0) (by kernel_rfl) (by omega) (by kernel_rfl) ?_
      have hlc := hlb (by omega)
      have hgo := ih (k + 1) (p * ups.length + i) q1 li (li + q1 - 1) (r1.set (vs.getD k 0).toNat (ups.getD i 0)) (by omega) hq1 hlI (by omega) (pvU_step hpv hVS (by omega) (by omega)) (fun M h1 h2 => hb M (by omega) (by omega))
      refine R.go 5 (R.ar ((k : Int) + 1) (by kernel_rfl) (by omega) (by omega) (by kernel_rfl) ?_)
      refine R.callS (CallS.frame usC frC hgo (by kernel_rfl) (by kernel_rfl) (Nat.le_of_ble_eq_true (by kernel_rfl))) (by kernel_rfl) (by kernel_rfl) (by kernel_rfl) ?_
      refine R.go 6 (R.ar ((i : Int) + 1) (by kernel_rfl) (by omega) (by omega) (by kernel_rfl) ?_)
      exact R.go 2 (R.stop R1 (by kernel_rfl) (N2 (i + 1, (li + q1 - 1 + 1), vrU ups vs (li + q1 - 1)) [0, 1, 3, 5, 17, 18, 19] none _ (by kernel_rfl) (by kernel_rfl) ⟨(by omega), (by rw [show li + q1 - 1 + 1 = li + q1 by omega]; exact li_next (by assumption)), (by exact pv_next hVS hk (by omega) hq1 hlI hq0), (by exact .inr rfl)⟩ (by show (ups.length - (i + 1)) < (ups.length - i); omega)))
    · have hle : li = e + 1 := by have h1 := li_end hlo2 hlI (by omega); omega
      refine R.go 3 ?_
      have hsub_r1 : r1 = vrU ups vs e := ((by assumption : i = 0 ∨ r1 = vrU ups vs (li - 1)).elim (fun h => absurd h (by omega)) (fun h => h.trans (by rw [show li - 1 = e by omega])))
      subst hsub_r1
      exact R.go 2 (R.retS (by kernel_rfl) (by kernel_rfl) (by kernel_rfl) (by kernel_rfl))
theorem unf_stop (n : Int) (xs vs ups : List Int) (a : List (Int × Int)) (hR : okPo n xs = true) (hb0 : 0 ≤ n ∧ n ≤ 8 ∧ (xs.length : Int) = n) (hVS : VS vs) (hvl : vs.length ≤ 62) (hul : ups.length ≤ 256) (hup : 1 ≤ ups.length) (hok : OKM 6 a) (hal : a.length ≤ 40) (hpl : a.any modN = false) (hu : ups = upL n xs) (D : Nat) (us : List Value) : ∀ (d k p q lo : Nat) (r : List Int), k + d = vs.length → q = ups.length ^ d → lo = p * q → PVU ups vs p k r → (N0 : Nat) → lo ≤ N0 → N0 < lo + q → (∀ M : Nat, M < N0 → badU n xs vs a M = false) → badU n xs vs a N0 = true → CallS Tryz.prog 83 [AI (k : Int), .rptr [LI vs], .ptr 7 0, .ptr 9 0, .rptr [LI ups], .ptr 10 0] [.box 30 [AI n, LI xs], .box 32 [LN a], .box 22 [.nil], .box 2 [AI 0], .box 4 [.bool false], .frame us (frm 26 [(0, .agg [AI n, LI xs]), (1, LN a), (2, .ptr 0 0), (3, .ptr 1 0), (4, .ptr 2 0), (5, .ptr 3 0), (6, .ptr 4 0), (9, .agg [AI n, LI xs]), (10, LN a), (11, LLN [a]), (12, LI vs), (13, .fn 82 [.rptr [LI vs], .rptr [LI ups]])]), loopObj Tryz.f43 D us .ready, .box 97 [.ref 6], rowA eI 2 1 r, .box 22 [.ref 8], .box 98 [.fn 83 [.rptr [LI vs], .ptr 7 0, .ptr 9 0, .rptr [LI ups], .ptr 10 0]]] (.bool false) [.box 30 [AI n, LI xs], .box 32 [LN a], .box 22 [.ref 11], .box 2 [AI (fcd n xs (vrU ups vs N0) a)], .box 4 [.bool true], .frame us (frm 26 [(0, .agg [AI n, LI xs]), (1, LN a), (2, .ptr 0 0), (3, .ptr 1 0), (4, .ptr 2 0), (5, .ptr 3 0), (6, .ptr 4 0), (9, .agg [AI n, LI xs]), (10, LN a), (11, LLN [a]), (12, LI vs), (13, .fn 82 [.rptr [LI vs], .rptr [LI ups]])]), loopObj Tryz.f43 D us (.done .ret), .box 97 [.ref 6], rowA eI 2 1 (vrU ups vs N0), .box 22 [.ref 8], .box 98 [.fn 83 [.rptr [LI vs], .ptr 7 0, .ptr 9 0, .rptr [LI ups], .ptr 10 0]], rowA eI 2 1 (vrU ups vs N0)] := by
  intro d
  induction d with
  | zero =>
    intro k p q lo r hk hq hlo hr N0 h1 h2 hn hp0
    have hlp : lo = p := by rw [hlo, hq, Nat.pow_zero, Nat.mul_one]
    have hq1 : q = 1 := by rw [hq, Nat.pow_zero]
    have hrv : r = vrU ups vs p := pvU_end hr (by omega)
    have hkv : (k : Int) = (vs.length : Int) := by omega
    have hoX : OKM (vrU ups vs p).length a := by rw [vrU_len]; exact hok
    have hvl6 := vrU_len ups vs p
    have hfrr : okFr n xs = true := okPo_fr hR
    subst hrv
    have hep : N0 = p := by omega
    rw [hep]
    have hbad : ¬ fcd n xs (vrU ups vs p) a = (shl64 1 n) - 1 := badU_ne hu (by rw [← hep]; exact hp0)
    refine CallS.cast (CallS.drop [0, 1, 2, 3, 4, 5, 6, 7, 8, 9, 10, 13] (CallS.of (res := .bool false) (hp' := [.box 30 [AI n, LI xs], .box 32 [LN a], .box 22 [.ref 13], .box 2 [AI (fcd n xs (vrU ups vs p) a)], .box 4 [.bool true], .frame us (frm 26 [(0, .agg [AI n, LI xs]), (1, LN a), (2, .ptr 0 0), (3, .ptr 1 0), (4, .ptr 2 0), (5, .ptr 3 0), (6, .ptr 4 0), (9, .agg [AI n, LI xs]), (10, LN a), (11, LLN [a]), (12, LI vs), (13, .fn 82 [.rptr [LI vs], .rptr [LI ups]])]), loopObj Tryz.f43 D us (.done .ret), .box 97 [.ref 6], rowA eI 2 1 (vrU ups vs p), .box 22 [.ref 8], .box 98 [.fn 83 [.rptr [LI vs], .ptr 7 0, .ptr 9 0, .rptr [LI ups], .ptr 10 0]], .dead, .dead, rowA eI 2 1 (vrU ups vs p)]) Tryz.func83 rfl (by kernel_rfl) ?_) (by kernel_rfl) (by decide)) (by kernel_rfl) (by kernel_rfl)
    intro usC frC
    refine R.go 12 (R.thn (decide ((k : Int) = (vs.length : Int))) (by kernel_rfl) (dT hkv) ?_)
    refine R.go 4 (R.yield 6 D us (by kernel_rfl) (by kernel_rfl) ?_)
    intro l1 us2
    refine R.go 3 (R.begin (by kernel_rfl) (by kernel_rfl) ?_)
    refine R.go 6 (R.call false (forced2_c n xs (vrU ups vs p) a hoX hpl (by omega) (by omega) (by first | omega | (simp <;> omega)) (by first | omega | (simp <;> omega))) (by kernel_rfl) rfl (by kernel_rfl) ?_)
    refine R.go 6 (R.call true (pAll_c n xs (by omega) (by omega)) (by kernel_rfl) rfl (by kernel_rfl) ?_)
    refine R.go 2 (R.condN ((fcd n xs (vrU ups vs p) a) = ((shl64 1 n) - 1)) (by kernel_rfl) (fun c3 => ?_) (fun c3 => ?_))
    · refine R.go 3 (R.call false (clone_c (vrU ups vs p) (by first | omega | (simp <;> omega))) (by kernel_rfl) (ownA_closed eI_closed 2 1 (vrU ups vs p)) (by kernel_rfl) ?_)
      refine R.go 5 (R.roundR (frm 36 [(0, AI (k : Int)), (1, .rptr [LI vs]), (2, .ptr 7 0), (3, .ptr 9 0), (4, .rptr [LI ups]), (5, .ptr 10 0), (7, .bool false), (10, AI (k : Int)), (11, LI vs), (12, AI vs.length), (13, .bool (decide ((k : Int) = (vs.length : Int)))), (14, .ref 6), (15, .ref 8)]) (by kernel_rfl) (by kernel_rfl) (by kernel_rfl) ?_)
      exact R.go 2 (R.retS (by kernel_rfl) (by kernel_rfl) (by kernel_rfl) (by kernel_rfl))
    · exfalso; omega -- another end: .bool true
  | succ d ih =>
    intro k p q lo r hk hq hlo hr N0 h1 h2 hn hp0
    obtain ⟨q1, hq1⟩ : ∃ q1, q1 = ups.length ^ d := ⟨_, rfl⟩
    have hqq : q = q1 * ups.length := by rw [hq, Nat.pow_succ, hq1]
    have hlo2 : lo = p * (q1 * ups.length) := by rw [hlo, hqq]
    have hq0 : 1 ≤ q1 := by rw [hq1]; exact Nat.pow_pos (by omega)
    have hkv : ¬ (k : Int) = (vs.length : Int) := by omega
    have hg := vs_get hVS (k := k) (by omega)
    refine CallS.cast (CallS.drop [0, 1, 2, 3, 4, 5, 6, 7, 8, 9, 10, 12] (CallS.of (res := .bool false) (hp' := [.box 30 [AI n, LI xs], .box 32 [LN a], .box 22 [.ref 12], .box 2 [AI (fcd n xs (vrU ups vs N0) a)], .box 4 [.bool true], .frame us (frm 26 [(0, .agg [AI n, LI xs]), (1, LN a), (2, .ptr 0 0), (3, .ptr 1 0), (4, .ptr 2 0), (5, .ptr 3 0), (6, .ptr 4 0), (9, .agg [AI n, LI xs]), (10, LN a), (11, LLN [a]), (12, LI vs), (13, .fn 82 [.rptr [LI vs], .rptr [LI ups]])]), loopObj Tryz.f43 D us (.done .ret), .box 97 [.ref 6], rowA eI 2 1 (vrU ups vs N0), .box 22 [.ref 8], .box 98 [.fn 83 [.rptr [LI vs], .ptr 7 0, .ptr 9 0, .rptr [LI ups], .ptr 10 0]], .dead, rowA eI 2 1 (vrU ups vs N0)]) Tryz.func83 rfl (by kernel_rfl) ?_) (by kernel_rfl) (by decide)) (by kernel_rfl) (by kernel_rfl)
    intro usC frC
    refine R.go 12 (R.els (decide ((k : Int) = (vs.length : Int))) (by kernel_rfl) (dF hkv) ?_)
    refine R.go 9 (R.loop ((fun | (i, li, r1) => (⟨(frm 36 [(0, AI (k : Int)), (1, .rptr [LI vs]), (3, .ptr 9 0), (5, .ptr 10 0), (17, LI ups), (18, AI ups.length), (19, AI (i : Int))]), [.box 30 [AI n, LI xs], .box 32 [LN a], .box 22 [.nil], .box 2 [AI 0], .box 4 [.bool false], .frame us (frm 26 [(0, .agg [AI n, LI xs]), (1, LN a), (2, .ptr 0 0), (3, .ptr 1 0), (4, .ptr 2 0), (5, .ptr 3 0), (6, .ptr 4 0), (9, .agg [AI n, LI xs]), (10, LN a), (11, LLN [a]), (12, LI vs), (13, .fn 82 [.rptr [LI vs], .rptr [LI ups]])]), loopObj Tryz.f43 D us .ready, .box 97 [.ref 6], rowA eI 2 1 r1, .box 22 [.ref 8], .box 98 [.fn 83 [.rptr [LI vs], .ptr 7 0, .ptr 9 0, .rptr [LI ups], .ptr 10 0]], .frame usC frC]⟩ : St) : Nat × Nat × (List Int) → St)) (fun | (i, li, r1) => (i ≤ ups.length) ∧ (li = (p * ups.length + i) * q1) ∧ (PVU ups vs p k r1) ∧ (i = 0 ∨ r1 = vrU ups vs (li - 1)) ∧ (li ≤ N0)) (fun | (i, li, r1) => ups.length - i) (0, lo, r) [0, 1, 3, 5, 17, 18, 19] none (by kernel_rfl) (by kernel_rfl) (by kernel_rfl) ⟨(by omega), (by exact li_start hlo2), (by assumption), (by exact .inl rfl), (by omega)⟩ ?_)
    rintro ⟨i, li, r1⟩ ⟨h4_1, h4_2, h4_3, h4_4, h4_5⟩ R1 N2
    have hlI : li = (p * ups.length + i) * q1 := by assumption
    have hpv : PVU ups vs p k r1 := by assumption
    have hlb := fun h : i < ups.length => li_bd hlo2 hlI h
    have hr1l : r1.length = 6 := hpv.1
    have hle2 := fun h : i = ups.length => li_end hlo2 hlI h
    refine R.go 5 (R.cond ((i : Int) < (ups.length : Int)) (by kernel_rfl) (fun c5 => ?_) (fun c5 => ?_))
    · refine R.go 5 (R.idx eI ups 0 i (i : Int) (by kernel_rfl) rfl eI_len (by omega) (by kernel_rfl) ?_)
      refine R.go 8 (R.idx eI vs 0 k (k : Int) (by kernel_rfl) rfl eI_len (by omega) (by kernel_rfl) ?_)
      refine R.go 2 (R.idxO 8 1 r1.length (((vs.getD k 0)).toNat) (vs.getD k 0) (by kernel_rfl) (by omega) (by omega) (by kernel_rfl) ?_)
      refine R.stI 8 2 r1 (((vs.getD k 0)).toNat) (ups.getD i 0) (by kernel_rfl) (by omega) (by kernel_rfl) ?_
      have hlc := hlb (by omega)
      have hgo := fun h : ¬ N0 < li + q1 => unf_go n xs vs ups a hR hb0 hVS hvl hul hup hok hal hpl hu D us d (k + 1) (p * ups.length + i) q1 li (li + q1 - 1) (r1.set (vs.getD k 0).toNat (ups.getD i 0)) (by omega) hq1 hlI (by omega) (pvU_step hpv hVS (by omega) (by omega)) (fun M h1 h2 => hn M (by omega))
      have hstop := fun h : N0 < li + q1 => ih (k + 1) (p * ups.length + i) q1 li (r1.set (vs.getD k 0).toNat (ups.getD i 0)) (by omega) hq1 hlI (pvU_step hpv hVS (by omega) (by omega)) N0 (by omega) h hn hp0
      refine R.go 4 ?_
      by_cases c6 : N0 < li + q1
      · refine R.go 1 (R.ar ((k : Int) + 1) (by kernel_rfl) (by omega) (by omega) (by kernel_rfl) ?_)
        refine R.callS (CallS.frame usC frC (hstop (by assumption)) (by kernel_rfl) (by kernel_rfl) (Nat.le_of_ble_eq_true (by kernel_rfl))) (by kernel_rfl) (by kernel_rfl) (by kernel_rfl) ?_
        exact R.go 7 (R.retS (by kernel_rfl) (by kernel_rfl) (by kernel_rfl) (by kernel_rfl))
      · refine R.go 1 (R.ar ((k : Int) + 1) (by kernel_rfl) (by omega) (by omega) (by kernel_rfl) ?_)
        refine R.callS (CallS.frame usC frC (hgo (by assumption)) (by kernel_rfl) (by kernel_rfl) (Nat.le_of_ble_eq_true (by kernel_rfl))) (by kernel_rfl) (by kernel_rfl) (by kernel_rfl) ?_
        refine R.go 6 (R.ar ((i : Int) + 1) (by kernel_rfl) (by omega) (by omega) (by kernel_rfl) ?_)
        exact R.go 2 (R.stop R1 (by kernel_rfl) (N2 (i + 1, (li + q1 - 1 + 1), vrU ups vs (li + q1 - 1)) [0, 1, 3, 5, 17, 18, 19] none _ (by kernel_rfl) (by kernel_rfl) ⟨(by omega), (by rw [show li + q1 - 1 + 1 = li + q1 by omega]; exact li_next (by assumption)), (by exact pv_next hVS hk (by omega) hq1 hlI hq0), (by exact .inr rfl), (by omega)⟩ (by show (ups.length - (i + 1)) < (ups.length - i); omega)))
    · exfalso; omega -- another end: .bool true

theorem unforced_none (n : Int) (xs : List Int) (a : List (Int × Int)) (hR : okPo n xs = true) (hF : isF a = true) (hpl : a.any modN = false) (ht : pwT ((upL n xs).length : Int) (mem (vmT [a] [a].length)).length ≤ 4096) (hn : fstU n xs (mem (vmT [a] [a].length)) a = none) : CallA Tryz.prog 43 [.agg [AI n, LI xs], LN a] (.tup [ownA eI 2 1 [], AI 0, .bool false]) := by
  obtain ⟨vs, hvs⟩ : ∃ vs, vs = mem (vmT [a] [a].length) := ⟨_, rfl⟩
  obtain ⟨ups, hu⟩ : ∃ ups, ups = upL n xs := ⟨_, rfl⟩
  rw [← hvs] at ht hn
  rw [← hu] at ht
  have hfr : okFr n xs = true := okPo_fr hR
  have hFr := okFr_rel hfr
  have hb0 : 0 ≤ n ∧ n ≤ 8 ∧ (xs.length : Int) = n := ⟨hFr.1, hFr.2.1, hFr.2.2.1⟩
  have hAF : allF [a] = true := allF_one hF
  have hVS : VS vs := by rw [hvs]; exact VS_vmT hAF
  have hvl : vs.length ≤ 62 := by rw [hvs]; exact mem_le _
  have hul : ups.length ≤ 256 := by rw [hu]; exact upL_len hR
  have hup : 1 ≤ ups.length := by rw [hu]; exact upL_pos hR
  have htt : (totU n xs vs : Int) = pwT (ups.length : Int) vs.length := by rw [hu]; rw [hu] at ht; exact tot_le ht
  have hok : OKM 6 a := (isF_okm hF).1
  have hal : a.length ≤ 40 := (isF_okm hF).2
  have hok2 := fun N => show OKM (vrU ups vs N).length a by rw [vrU_len]; exact hok
  have hlen := okm_pos hok
  have hq1 : 1 ≤ ups.length ^ vs.length := Nat.pow_pos (by omega)
  have hn0 := fstN_none hn
  rw [totU, ← hu] at hn0
  refine CallA.of Tryz.func43 rfl (by kernel_rfl) ?_
  refine R.go 13 (R.lit (s := 1) (n := 1) (cs := rows eLN [a]) (by kernel_rfl) (by kernel_rfl) ?_)
  refine R.call true (variablesInG_c [a] vs (by assumption) hAF (by first | omega | (simp <;> omega))).frz (by kernel_rfl) rfl (by kernel_rfl) ?_
  refine R.call true (valuationsP_c n xs vs ups (by assumption) hR) (by kernel_rfl) rfl (by kernel_rfl) ?_
  refine R.go 2 (R.range (caps := [.rptr [LI vs], .rptr [LI ups]]) Tryz.func82 rfl (by kernel_rfl) (by kernel_rfl) ?_)
  intro D1 us2
  refine R.go 21 (R.callS (unf_go n xs vs ups a hR hb0 hVS hvl hul hup hok hal hpl hu D1 us2 vs.length 0 0 (ups.length ^ vs.length) 0 ((ups.length ^ vs.length) - 1) (List.replicate 6 0) (by omega) rfl (by simp) (by omega) (pvU_start ups vs) (fun M h1 h2 => hn0 M (by omega))) (by kernel_rfl) (by kernel_rfl) (by kernel_rfl) ?_)
  refine R.go 1 (R.over (.tup []) (frm 26 [(0, .agg [AI n, LI xs]), (1, LN a), (2, .ptr 0 0), (3, .ptr 1 0), (4, .ptr 2 0), (5, .ptr 3 0), (6, .ptr 4 0), (9, .agg [AI n, LI xs]), (10, LN a), (11, LLN [a]), (12, LI vs), (13, .fn 82 [.rptr [LI vs], .rptr [LI ups]])]) (by kernel_rfl) (by kernel_rfl) (by kernel_rfl) (by kernel_rfl) ?_)
  refine R.go 7 (R.nilB 2 0 2 1 (by kernel_rfl) ?_)
  exact R.retE (.tup [ownA eI 2 1 [], AI 0, .bool false]) (by kernel_rfl) (by kernel_rfl) (by rfl)

theorem unforced_some (N : Nat) (n : Int) (xs : List Int) (a : List (Int × Int)) (hR : okPo n xs = true) (hF : isF a = true) (hpl : a.any modN = false) (ht : pwT ((upL n xs).length : Int) (mem (vmT [a] [a].length)).length ≤ 4096) (hn : fstU n xs (mem (vmT [a] [a].length)) a = some N) : CallA Tryz.prog 43 [.agg [AI n, LI xs], LN a] (.tup [ownA eI 2 1 (vrU (upL n xs) (mem (vmT [a] [a].length)) N), AI (fcd n xs (vrU (upL n xs) (mem (vmT [a] [a].length)) N) a), .bool true]) := by
  obtain ⟨vs, hvs⟩ : ∃ vs, vs = mem (vmT [a] [a].length) := ⟨_, rfl⟩
  obtain ⟨ups, hu⟩ : ∃ ups, ups = upL n xs := ⟨_, rfl⟩
  rw [← hvs] at ht hn ⊢
  rw [← hu]
  rw [← hu] at ht
  have hfr : okFr n xs = true := okPo_fr hR
  have hFr := okFr_rel hfr
  have hb0 : 0 ≤ n ∧ n ≤ 8 ∧ (xs.length : Int) = n := ⟨hFr.1, hFr.2.1, hFr.2.2.1⟩
  have hAF : allF [a] = true := allF_one hF
  have hVS : VS vs := by rw [hvs]; exact VS_vmT hAF
  have hvl : vs.length ≤ 62 := by rw [hvs]; exact mem_le _
  have hul : ups.length ≤ 256 := by rw [hu]; exact upL_len hR
  have hup : 1 ≤ ups.length := by rw [hu]; exact upL_pos hR
  have htt : (totU n xs vs : Int) = pwT (ups.length : Int) vs.length := by rw [hu]; rw [hu] at ht; exact tot_le ht
  have hok : OKM 6 a := (isF_okm hF).1
  have hal : a.length ≤ 40 := (isF_okm hF).2
  have hok2 := fun N => show OKM (vrU ups vs N).length a by rw [vrU_len]; exact hok
  have hlen := okm_pos hok
  have hq1 : 1 ≤ ups.length ^ vs.length := Nat.pow_pos (by omega)
  obtain ⟨hn1, hn2, hn3⟩ := fstN_some hn
  rw [totU, ← hu] at hn1
  refine CallA.of Tryz.func43 rfl (by kernel_rfl) ?_
  refine R.go 13 (R.lit (s := 1) (n := 1) (cs := rows eLN [a]) (by kernel_rfl) (by kernel_rfl) ?_)
  refine R.call true (variablesInG_c [a] vs (by assumption) hAF (by first | omega | (simp <;> omega))).frz (by kernel_rfl) rfl (by kernel_rfl) ?_
  refine R.call true (valuationsP_c n xs vs ups (by assumption) hR) (by kernel_rfl) rfl (by kernel_rfl) ?_
  refine R.go 2 (R.range (caps := [.rptr [LI vs], .rptr [LI ups]]) Tryz.func82 rfl (by kernel_rfl) (by kernel_rfl) ?_)
  intro D1 us2
  refine R.go 21 (R.callS (unf_stop n xs vs ups a hR hb0 hVS hvl hul hup hok hal hpl hu D1 us2 vs.length 0 0 (ups.length ^ vs.length) 0 (List.replicate 6 0) (by omega) rfl (by simp) (pvU_start ups vs) N (by omega) (by omega) hn3 hn2) (by kernel_rfl) (by kernel_rfl) (by kernel_rfl) ?_)
  refine R.go 1 (R.left (.ret) (.tup []) (frm 26 [(0, .agg [AI n, LI xs]), (1, LN a), (2, .ptr 0 0), (3, .ptr 1 0), (4, .ptr 2 0), (5, .ptr 3 0), (6, .ptr 4 0), (9, .agg [AI n, LI xs]), (10, LN a), (11, LLN [a]), (12, LI vs), (13, .fn 82 [.rptr [LI vs], .rptr [LI ups]])]) (by kernel_rfl) (by kernel_rfl) (by kernel_rfl) (by kernel_rfl) ?_)
  exact R.retE (.tup [ownA eI 2 1 (vrU ups vs N), AI (fcd n xs (vrU ups vs N) a), .bool true]) (by kernel_rfl) (by kernel_rfl) (by first | (rfl) | (exfalso; omega))

end Go.Proofs.YtkanjgmocmhlkaaGreat
