/- UnforcedElements of both packages and its law. -/
import Derived.Test.YtkanjgmocmhlkaaGreatZ04
namespace Go.Proofs.YtkanjgmocmhlkaaGreat
open Go.RowKit Go.Abs

def uTU (n : Int) (xs ups vs : List Int) (a : List (Int × Int)) : Nat → Int
  | 0 => 0
  | N + 1 => bor (uTU n xs ups vs a N) (bnot ((shl64 1 n) - 1) (fcd n xs (vrU ups vs N) a))
theorem uTU_eq {n : Int} {xs ups vs : List Int} {a : List (Int × Int)} (hu : ups = upL n xs) : ∀ N : Nat, uTU n xs ups vs a N = uTo n xs vs a N
  | 0 => rfl
  | N + 1 => by rw [uTU, uTo, uTU_eq hu N, hu]
theorem ue_yesU {n : Int} {xs ups vs : List Int} {a : List (Int × Int)} {N : Nat} (h : pcode n xs [a] = 0) (hv : vs = mem (vmT [a] [a].length)) (hu : ups = upL n xs) (hN : N = totU n xs vs) : AV.tup [AI (uTU n xs ups vs a N), AI 0] = AV.tup [AI (ueV n xs a), AI (pcode n xs [a])] := by
  rw [uTU_eq hu]; exact ue_yes h hv hN

theorem une_go (n : Int) (xs vs ups : List Int) (a : List (Int × Int)) (hR : okPo n xs = true) (hb0 : 0 ≤ n ∧ n ≤ 8 ∧ (xs.length : Int) = n) (hVS : VS vs) (hvl : vs.length ≤ 62) (hul : ups.length ≤ 256) (hup : 1 ≤ ups.length) (hok : OKM 6 a) (hal : a.length ≤ 40) (hpl : a.any modN = false) (hu : ups = upL n xs) (D : Nat) (us : List Value) : ∀ (d k p q lo e : Nat) (r : List Int), k + d = vs.length → q = ups.length ^ d → lo = p * q → e + 1 = lo + q → PVU ups vs p k r → CallS Tryz.prog 83 [AI (k : Int), .rptr [LI vs], .ptr 5 0, .ptr 7 0, .rptr [LI ups], .ptr 8 0] [.box 30 [AI n, LI xs], .box 32 [LN a], .box 2 [AI (uTU n xs ups vs a lo)], .frame us (frm 32 [(0, .agg [AI n, LI xs]), (1, LN a), (2, .ptr 0 0), (3, .ptr 1 0), (4, AI 0), (5, AI 0), (6, AI (pcode n xs [a])), (7, .ptr 2 0), (9, .agg [AI n, LI xs]), (10, LN a), (11, LLN [a]), (12, AI (pcode n xs [a])), (13, AI (pcode n xs [a])), (14, .bool (!decide ((pcode n xs [a]) = 0))), (16, .agg [AI n, LI xs]), (17, LN a), (18, LLN [a]), (19, LI vs), (20, .fn 82 [.rptr [LI vs], .rptr [LI ups]])]), loopObj Tryz.f24 D us .ready, .box 97 [.ref 4], rowA eI 2 1 r, .box 22 [.ref 6], .box 98 [.fn 83 [.rptr [LI vs], .ptr 5 0, .ptr 7 0, .rptr [LI ups], .ptr 8 0]]] (.bool true) [.box 30 [AI n, LI xs], .box 32 [LN a], .box 2 [AI (uTU n xs ups vs a (e + 1))], .frame us (frm 32 [(0, .agg [AI n, LI xs]), (1, LN a), (2, .ptr 0 0), (3, .ptr 1 0), (4, AI 0), (5, AI 0), (6, AI (pcode n xs [a])), (7, .ptr 2 0), (9, .agg [AI n, LI xs]), (10, LN a), (11, LLN [a]), (12, AI (pcode n xs [a])), (13, AI (pcode n xs [a])), (14, .bool (!decide ((pcode n xs [a]) = 0))), (16, .agg [AI n, LI xs]), (17, LN a), (18, LLN [a]), (19, LI vs), (20, .fn 82 [.rptr [LI vs], .rptr [LI ups]])]), loopObj Tryz.f24 D us .ready, .box 97 [.ref 4], rowA eI 2 1 (vrU ups vs e), .box 22 [.ref 6], .box 98 [.fn 83 [.rptr [LI vs], .ptr 5 0, .ptr 7 0, .rptr [LI ups], .ptr 8 0]]] := by
  intro d
  induction d with
  | zero =>
    intro k p q lo e r hk hq hlo he hr
    have hlp : lo = p := by rw [hlo, hq, Nat.pow_zero, Nat.mul_one]
    have hq1 : q = 1 := by rw [hq, Nat.pow_zero]
    have hrv : r = vrU ups vs p := pvU_end hr (by omega)
    have hkv : (k : Int) = (vs.length : Int) := by omega
    have hoX : OKM (vrU ups vs p).length a := by rw [vrU_len]; exact hok
    have hvl6 := vrU_len ups vs p
    have hfrr : okFr n xs = true := okPo_fr hR
    subst hrv
    have hep : e = p := by omega
    rw [hep]
    rw [hlp]
    refine CallS.cast (CallS.drop [0, 1, 2, 3, 4, 5, 6, 7, 8] (CallS.of (res := .bool true) (hp' := [.box 30 [AI n, LI xs], .box 32 [LN a], .box 2 [AI (bor (uTU n xs ups vs a p) (bnot ((shl64 1 n) - 1) (fcd n xs (vrU ups vs p) a)))], .frame us (frm 32 [(0, .agg [AI n, LI xs]), (1, LN a), (2, .ptr 0 0), (3, .ptr 1 0), (4, AI 0), (5, AI 0), (6, AI (pcode n xs [a])), (7, .ptr 2 0), (9, .agg [AI n, LI xs]), (10, LN a), (11, LLN [a]), (12, AI (pcode n xs [a])), (13, AI (pcode n xs [a])), (14, .bool (!decide ((pcode n xs [a]) = 0))), (16, .agg [AI n, LI xs]), (17, LN a), (18, LLN [a]), (19, LI vs), (20, .fn 82 [.rptr [LI vs], .rptr [LI ups]])]), loopObj Tryz.f24 D us .ready, .box 97 [.ref 4], rowA eI 2 1 (vrU ups vs p), .box 22 [.ref 6], .box 98 [.fn 83 [.rptr [LI vs], .ptr 5 0, .ptr 7 0, .rptr [LI ups], .ptr 8 0]], .dead, .dead]) Tryz.func83 rfl (by kernel_rfl) ?_) (by kernel_rfl) (by decide)) (by kernel_rfl) (by kernel_rfl)
    intro usC frC
    refine R.go 12 (R.thn (decide ((k : Int) = (vs.length : Int))) (by kernel_rfl) (dT hkv) ?_)
    refine R.go 4 (R.yield 4 D us (by kernel_rfl) (by kernel_rfl) ?_)
    intro l1 us2
    refine R.go 3 (R.begin (by kernel_rfl) (by kernel_rfl) ?_)
    refine R.go 4 (R.call true (pAll_c n xs (by omega) (by omega)) (by kernel_rfl) rfl (by kernel_rfl) ?_)
    refine R.go 3 (R.call false (forced2_c n xs (vrU ups vs p) a hoX hpl (by omega) (by omega) (by first | omega | (simp <;> omega)) (by first | omega | (simp <;> omega))) (by kernel_rfl) rfl (by kernel_rfl) ?_)
    refine R.go 5 (R.round (frm 36 [(0, AI (k : Int)), (1, .rptr [LI vs]), (2, .ptr 5 0), (3, .ptr 7 0), (4, .rptr [LI ups]), (5, .ptr 8 0), (7, .bool false), (10, AI (k : Int)), (11, LI vs), (12, AI vs.length), (13, .bool (decide ((k : Int) = (vs.length : Int)))), (14, .ref 4), (15, .ref 6)]) (by kernel_rfl) (by kernel_rfl) (by kernel_rfl) ?_)
    exact R.go 2 (R.retS (by kernel_rfl) (by kernel_rfl) (by kernel_rfl) (by kernel_rfl))
  | succ d ih =>
    intro k p q lo e r hk hq hlo he hr
    obtain ⟨q1, hq1⟩ : ∃ q1, q1 = ups.length ^ d := ⟨_, rfl⟩
    have hqq : q = q1 * ups.length := by rw [hq, Nat.pow_succ, hq1]
    have hlo2 : lo = p * (q1 * ups.length) := by rw [hlo, hqq]
    have hq0 : 1 ≤ q1 := by rw [hq1]; exact Nat.pow_pos (by omega)
    have hkv : ¬ (k : Int) = (vs.length : Int) := by omega
    have hg := vs_get hVS (k := k) (by omega)
    refine CallS.cast (CallS.drop [0, 1, 2, 3, 4, 5, 6, 7, 8] (CallS.of (res := .bool true) (hp' := [.box 30 [AI n, LI xs], .box 32 [LN a], .box 2 [AI (uTU n xs ups vs a (e + 1))], .frame us (frm 32 [(0, .agg [AI n, LI xs]), (1, LN a), (2, .ptr 0 0), (3, .ptr 1 0), (4, AI 0), (5, AI 0), (6, AI (pcode n xs [a])), (7, .ptr 2 0), (9, .agg [AI n, LI xs]), (10, LN a), (11, LLN [a]), (12, AI (pcode n xs [a])), (13, AI (pcode n xs [a])), (14, .bool (!decide ((pcode n xs [a]) = 0))), (16, .agg [AI n, LI xs]), (17, LN a), (18, LLN [a]), (19, LI vs), (20, .fn 82 [.rptr [LI vs], .rptr [LI ups]])]), loopObj Tryz.f24 D us .ready, .box 97 [.ref 4], rowA eI 2 1 (vrU ups vs e), .box 22 [.ref 6], .box 98 [.fn 83 [.rptr [LI vs], .ptr 5 0, .ptr 7 0, .rptr [LI ups], .ptr 8 0]], .dead]) Tryz.func83 rfl (by kernel_rfl) ?_) (by kernel_rfl) (by decide)) (by kernel_rfl) (by kernel_rfl)
    intro usC frC
    refine R.go 12 (R.els (decide ((k : Int) = (vs.length : Int))) (by kernel_rfl) (dF hkv) ?_)
    refine R.go 9 (R.loop ((fun | (i, li, r1) => (⟨(frm 36 [(0, AI (k : Int)), (1, .rptr [LI vs]), (3, .ptr 7 0), (5, .ptr 8 0), (17, LI ups), (18, AI ups.length), (19, AI (i : Int))]), [.box 30 [AI n, LI xs], .box 32 [LN a], .box 2 [AI (uTU n xs ups vs a li)], .frame us (frm 32 [(0, .agg [AI n, LI xs]), (1, LN a), (2, .ptr 0 0), (3, .ptr 1 0), (4, AI 0), (5, AI 0), (6, AI (pcode n xs [a])), (7, .ptr 2 0), (9, .agg [AI n, LI xs]), (10, LN a), (11, LLN [a]), (12, AI (pcode n xs [a])), (13, AI (pcode n xs [a])), (14, .bool (!decide ((pcode n xs [a]) = 0))), (16, .agg [AI n, LI xs]), (17, LN a), (18, LLN [a]), (19, LI vs), (20, .fn 82 [.rptr [LI vs], .rptr [LI ups]])]), loopObj Tryz.f24 D us .ready, .box 97 [.ref 4], rowA eI 2 1 r1, .box 22 [.ref 6], .box 98 [.fn 83 [.rptr [LI vs], .ptr 5 0, .ptr 7 0, .rptr [LI ups], .ptr 8 0]], .frame usC frC]⟩ : St) : Nat × Nat × (List Int) → St)) (fun | (i, li, r1) => (i ≤ ups.length) ∧ (li = (p * ups.length + i) * q1) ∧ (PVU ups vs p k r1) ∧ (i = 0 ∨ r1 = vrU ups vs (li - 1))) (fun | (i, li, r1) => ups.length - i) (0, lo, r) [0, 1, 3, 5, 17, 18, 19] none (by kernel_rfl) (by kernel_rfl) (by kernel_rfl) ⟨(by omega), (by exact li_start hlo2), (by assumption), (by exact .inl rfl)⟩ ?_)
    rintro ⟨i, li, r1⟩ ⟨h4_1, h4_2, h4_3, h4_4⟩ R1 N2
    have hlI : li = (p * ups.length + i) * q1 := by assumption
    have hpv : PVU ups vs p k r1 := by assumption
    have hlb := fun h : i < ups.length => li_bd hlo2 hlI h
    have hr1l : r1.length = 6 := hpv.1
    have hle2 := fun h : i = ups.length => li_end hlo2 hlI h
    refine R.go 5 (R.cond ((i : Int) < (ups.length : Int)) (by kernel_rfl) (fun c5 => ?_) (fun c5 => ?_))
    · refine R.go 5 (R.idx eI ups 0 i (i : Int) (by kernel_rfl) rfl eI_len (by omega) (by kernel_rfl) ?_)
      refine R.go 8 (R.idx eI vs 0 k (k : Int) (by kernel_rfl) rfl eI_len (by omega) (by kernel_rfl) ?_)
      refine R.go 2 (R.idxO 6 1 r1.length (((vs.getD k 0)).toNat) (vs.getD k 0) (by kernel_rfl) (by omega) (by omega) (by kernel_rfl) ?_)
      refine R.stI 6 2 r1 (((vs.getD k 0)).toNat) (ups.getD i 0) (by kernel_rfl) (by omega) (by kernel_rfl) ?_
      have hlc := hlb (by omega)
      have hgo := ih (k + 1) (p * ups.length + i) q1 li (li + q1 - 1) (r1.set (vs.getD k 0).toNat (ups.getD i 0)) (by omega) hq1 hlI (by omega) (pvU_step hpv hVS (by omega) (by omega))
      refine R.go 5 (R.ar ((k : Int) + 1) (by kernel_rfl) (by omega) (by omega) (by kernel_rfl) ?_)
      refine R.callS (CallS.frame usC frC hgo (by kernel_rfl) (by kernel_rfl) (Nat.le_of_ble_eq_true (by kernel_rfl))) (by kernel_rfl) (by kernel_rfl) (by kernel_rfl) ?_
      refine R.go 6 (R.ar ((i : Int) + 1) (by kernel_rfl) (by omega) (by omega) (by kernel_rfl) ?_)
      exact R.go 2 (R.stop R1 (by kernel_rfl) (N2 (i + 1, (li + q1 - 1 + 1), vrU ups vs (li + q1 - 1)) [0, 1, 3, 5, 17, 18, 19] none _ (by kernel_rfl) (by kernel_rfl) ⟨(by omega), (by rw [show li + q1 - 1 + 1 = li + q1 by omega]; exact li_next (by assumption)), (by exact pv_next hVS hk (by omega) hq1 hlI hq0), (by exact .inr rfl)⟩ (by show (ups.length - (i + 1)) < (ups.length - i); omega)))
    · have hle : li = e + 1 := by have h1 := li_end hlo2 hlI (by omega); omega
      refine R.go 3 ?_
      have hsub_r1 : r1 = vrU ups vs e := ((by assumption : i = 0 ∨ r1 = vrU ups vs (li - 1)).elim (fun h => absurd h (by omega)) (fun h => h.trans (by rw [show li - 1 = e by omega])))
      subst hsub_r1
      have hsub_li : li = (e + 1) := hle
      subst hsub_li
      exact R.go 2 (R.retS (by kernel_rfl) (by kernel_rfl) (by kernel_rfl) (by kernel_rfl))

theorem UE_impl (n : Int) (xs : List Int) (a : List (Int × Int)) (lx : xs.length ≤ 1048576) (la : a.length ≤ 1048576) : CallA Tryz.prog 24 [.agg [AI n, LI xs], LN a] (.tup [AI (ueV n xs a), AI (pcode n xs [a])]) := by
  refine CallA.of Tryz.func24 rfl (by kernel_rfl) ?_
  refine R.go 12 (R.lit (s := 1) (n := 1) (cs := rows eLN [a]) (by kernel_rfl) (by kernel_rfl) ?_)
  refine R.call true (posetSearch_c n xs [a] lx (by first | assumption | exact shortL_one (by omega))) (by kernel_rfl) rfl (by kernel_rfl) ?_
  refine R.go 7 (R.condN ((pcode n xs [a]) = 0) (by kernel_rfl) (fun c1 => ?_) (fun c1 => ?_))
  · exact R.go 6 (R.retE (.tup [AI 0, AI (pcode n xs [a])]) (by kernel_rfl) (by kernel_rfl) (by first | (first | exact ue_no (by assumption) | exact ue_yesU hc0 hvs hu (by rw [totU, ← hu]; omega)) | (exfalso; omega)))
  · have hc0 : pcode n xs [a] = 0 := by assumption
    have hpo := pc_ok hc0
    have hR : okPo n xs = true := hpo.1
    have hF : isF a = true := isF_all hpo.2.1
    have hpl : a.any modN = false := pl_one hpo.2.2.1
    have ht0 : pwT ((upL n xs).length : Int) (mem (vmT [a] [a].length)).length ≤ 4096 := hpo.2.2.2
    have ht := ht0
    obtain ⟨vs, hvs⟩ : ∃ vs, vs = mem (vmT [a] [a].length) := ⟨_, rfl⟩
    obtain ⟨ups, hu⟩ : ∃ ups, ups = upL n xs := ⟨_, rfl⟩
    rw [← hvs] at ht
    rw [← hu] at ht
    have hfr : okFr n xs = true := okPo_fr hR
    have hFr := okFr_rel hfr
    have hb0 : 0 ≤ n ∧ n ≤ 8 ∧ (xs.length : Int) = n := ⟨hFr.1, hFr.2.1, hFr.2.2.1⟩
    have hAF : allF [a] = true := allF_one hF
    have hVS : VS vs := by rw [hvs]; exact VS_vmT hAF
    have hvl : vs.length ≤ 62 := by rw [hvs]; exact mem_le _
    have hul : ups.length ≤ 256 := by rw [hu]; exact upL_len hR
    have hup : 1 ≤ ups.length := by rw [hu]; exact upL_pos hR
    have htt : (totU n xs vs : Int) = pwT (ups.length : Int) vs.length := by rw [hu]; rw [hu] at ht; exact tot_le ht
    have hok : OKM 6 a := (isF_okm hF).1
    have hal : a.length ≤ 40 := (isF_okm hF).2
    have hok2 := fun N => show OKM (vrU ups vs N).length a by rw [vrU_len]; exact hok
    have hlen := okm_pos hok
    have hq1 : 1 ≤ ups.length ^ vs.length := Nat.pow_pos (by omega)
    refine R.go 10 (R.lit (s := 1) (n := 1) (cs := rows eLN [a]) (by kernel_rfl) (by kernel_rfl) ?_)
    refine R.call true (variablesInG_c [a] vs (by assumption) hAF (by first | omega | (simp <;> omega))).frz (by kernel_rfl) rfl (by kernel_rfl) ?_
    refine R.call true (valuationsP_c n xs vs ups (by assumption) hR) (by kernel_rfl) rfl (by kernel_rfl) ?_
    refine R.go 2 (R.range (caps := [.rptr [LI vs], .rptr [LI ups]]) Tryz.func82 rfl (by kernel_rfl) (by kernel_rfl) ?_)
    intro D2 us3
    refine R.go 21 (R.callS (une_go n xs vs ups a hR hb0 hVS hvl hul hup hok hal hpl hu D2 us3 vs.length 0 0 (ups.length ^ vs.length) 0 ((ups.length ^ vs.length) - 1) (List.replicate 6 0) (by omega) rfl (by simp) (by omega) (pvU_start ups vs)) (by kernel_rfl) (by kernel_rfl) (by kernel_rfl) ?_)
    refine R.go 1 (R.over (.tup []) (frm 32 [(0, .agg [AI n, LI xs]), (1, LN a), (2, .ptr 0 0), (3, .ptr 1 0), (4, AI 0), (5, AI 0), (6, AI (pcode n xs [a])), (7, .ptr 2 0), (9, .agg [AI n, LI xs]), (10, LN a), (11, LLN [a]), (12, AI (pcode n xs [a])), (13, AI (pcode n xs [a])), (14, .bool (!decide ((pcode n xs [a]) = 0))), (16, .agg [AI n, LI xs]), (17, LN a), (18, LLN [a]), (19, LI vs), (20, .fn 82 [.rptr [LI vs], .rptr [LI ups]])]) (by kernel_rfl) (by kernel_rfl) (by kernel_rfl) (by kernel_rfl) ?_)
    exact R.go 7 (R.retE (.tup [AI (uTU n xs ups vs a ((ups.length ^ vs.length) - 1 + 1)), AI 0]) (by kernel_rfl) (by kernel_rfl) (by first | (first | exact ue_no (by assumption) | exact ue_yesU hc0 hvs hu (by rw [totU, ← hu]; omega)) | (exfalso; omega)))

theorem lawUnforcedElements_in (n : Int) (xs : List Int) (a : List (Int × Int)) (hl : xs.length + a.length ≤ 1048576) : CallA Tryz.prog 5 [.agg [AI n, LI xs], LN a] (.bool true) := by
  refine CallA.of Tryz.func5 rfl (by kernel_rfl) ?_
  refine R.go 13 (R.call true (szPoset_c n xs 1048576 (by omega) (by first | omega | (simp <;> omega))) (by kernel_rfl) rfl (by kernel_rfl) ?_)
  refine R.go 8 (R.cond (((1048576 : Int) - xs.length) < 0) (by kernel_rfl) (fun c1 => ?_) (fun c1 => ?_))
  · exact R.go 4 (R.retE (.bool true) (by kernel_rfl) (by kernel_rfl) (by rfl))
  · refine R.go 5 (R.call true (szNodeS_c a ((1048576 : Int) - xs.length) (by first | omega | (simp <;> omega)) (by first | omega | (simp <;> omega))) (by kernel_rfl) rfl (by kernel_rfl) ?_)
    refine R.go 8 (R.cond (((((1048576 : Int) - xs.length) : Int) - a.length) < 0) (by kernel_rfl) (fun c2 => ?_) (fun c2 => ?_))
    · exact R.go 4 (R.retE (.bool true) (by kernel_rfl) (by kernel_rfl) (by rfl))
    · refine R.go 4 (R.call true (toPoset_c n xs (by first | omega | (simp <;> omega))).frz (by kernel_rfl) rfl (by kernel_rfl) ?_)
      refine R.go 1 (R.call true (toNodeS_c a (by first | omega | (simp <;> omega))).frz (by kernel_rfl) rfl (by kernel_rfl) ?_)
      refine R.call true (UE_spec n xs a (by first | omega | (simp <;> omega)) (by first | omega | (simp <;> omega))) (by kernel_rfl) rfl (by kernel_rfl) ?_
      refine R.go 9 (R.call true (toPoset_c n xs (by first | omega | (simp <;> omega))).frz (by kernel_rfl) rfl (by kernel_rfl) ?_)
      refine R.go 6 (R.call true (toNodeS_c a (by first | omega | (simp <;> omega))).frz (by kernel_rfl) rfl (by kernel_rfl) ?_)
      refine R.go 6 (R.call true (UE_impl n xs a (by first | omega | (simp <;> omega)) (by first | omega | (simp <;> omega))) (by kernel_rfl) rfl (by kernel_rfl) ?_)
      refine R.go 13 (R.want (!decide ((ueV n xs a) = (ueV n xs a))) false (by kernel_rfl) (nF rfl) ?_)
      refine R.go 1 (R.want (!decide ((ueV n xs a) = (ueV n xs a))) false (by kernel_rfl) (nF rfl) ?_)
      refine R.go 1 (R.want (!decide ((ueV n xs a) = (ueV n xs a))) false (by kernel_rfl) (nF rfl) ?_)
      refine R.go 1 (R.pick (!decide ((ueV n xs a) = (ueV n xs a))) false (by kernel_rfl) (nF rfl) (by kernel_rfl) ?_)
      refine R.go 1 (R.els (!decide ((pcode n xs [a]) = (pcode n xs [a]))) (by kernel_rfl) (nF rfl) ?_)
      refine R.go 6 (R.call true (toPoset_c n xs (by first | omega | (simp <;> omega))).frz (by kernel_rfl) rfl (by kernel_rfl) ?_)
      refine R.call true (eqPoset_c n xs (by first | omega | (simp <;> omega))) (by kernel_rfl) rfl (by kernel_rfl) ?_
      refine R.go 9 (R.call true (toNodeS_c a (by first | omega | (simp <;> omega))).frz (by kernel_rfl) rfl (by kernel_rfl) ?_)
      refine R.call true (eqNodeS_c a a (by first | omega | (simp <;> omega))) (by kernel_rfl) rfl (by kernel_rfl) ?_
      refine R.go 2 (R.els (!decide (a = a)) (by kernel_rfl) (nF rfl) ?_)
      exact R.go 5 (R.retE (.bool true) (by kernel_rfl) (by kernel_rfl) (by rfl))

theorem lawUnforcedElements_1 (n : Int) (xs : List Int) (a : List (Int × Int)) (hx : 1048576 < xs.length) (hb : xs.length ≤ 9223372036854775807) : CallA Tryz.prog 5 [.agg [AI n, LI xs], LN a] (.bool true) := by
  refine CallA.of Tryz.func5 rfl (by kernel_rfl) ?_
  refine R.go 13 (R.call true (szPoset_no n xs 1048576 (by omega) (by first | omega | (simp <;> omega)) hb) (by kernel_rfl) rfl (by kernel_rfl) ?_)
  exact R.go 13 (R.retE (.bool true) (by kernel_rfl) (by kernel_rfl) (by rfl))

theorem lawUnforcedElements_2 (n : Int) (xs : List Int) (a : List (Int × Int)) (hy : xs.length ≤ 1048576) (hx : 1048576 < xs.length + a.length) (hb : a.length ≤ 9223372036854775807) : CallA Tryz.prog 5 [.agg [AI n, LI xs], LN a] (.bool true) := by
  refine CallA.of Tryz.func5 rfl (by kernel_rfl) ?_
  refine R.go 13 (R.call true (szPoset_c n xs 1048576 (by omega) (by first | omega | (simp <;> omega))) (by kernel_rfl) rfl (by kernel_rfl) ?_)
  refine R.go 8 (R.cond (((1048576 : Int) - xs.length) < 0) (by kernel_rfl) (fun c1 => ?_) (fun c1 => ?_))
  · exact R.go 4 (R.retE (.bool true) (by kernel_rfl) (by kernel_rfl) (by rfl))
  · refine R.go 5 (R.call true (szNodeS_no a ((1048576 : Int) - xs.length) (by first | omega | (simp <;> omega)) (by first | omega | (simp <;> omega)) hb) (by kernel_rfl) rfl (by kernel_rfl) ?_)
    exact R.go 13 (R.retE (.bool true) (by kernel_rfl) (by kernel_rfl) (by rfl))

theorem lawUnforcedElements (n : Int) (xs : List Int) (m0 : xs.length ≤ maxLen) (a : List (Int × Int)) (m1 : a.length ≤ maxLen) : CallA Tryz.prog 5 [.agg [AI n, LI xs], LN a] (.bool true) := by
  have hm : maxLen ≤ 9223372036854775807 := by decide
  rcases Nat.lt_or_ge 1048576 (xs.length) with h0 | h0
  · exact lawUnforcedElements_1 n xs a h0 (by omega)
  rcases Nat.lt_or_ge 1048576 (xs.length + a.length) with h1 | h1
  · exact lawUnforcedElements_2 n xs a h0 h1 (by omega)
  exact lawUnforcedElements_in n xs a h1

end Go.Proofs.YtkanjgmocmhlkaaGreat
