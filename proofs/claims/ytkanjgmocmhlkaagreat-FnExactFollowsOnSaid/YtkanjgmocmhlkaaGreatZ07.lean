/- FollowsOn of both packages and its law. -/
import Derived.Test.YtkanjgmocmhlkaaGreatZ04
import Derived.Test.YtkanjgmocmhlkaaGreatH05
import Derived.Test.YtkanjgmocmhlkaaGreatSymZ
namespace Go.Proofs.YtkanjgmocmhlkaaGreat
open Go.RowKit Go.Abs

theorem allF_app {l : List (List (Int × Int))} {a : List (Int × Int)} (h : allF (l ++ [a]) = true) : (∀ j : Nat, j < l.length → isF (l.getD j []) = true) ∧ isF a = true := by
  refine ⟨fun j hj => ?_, ?_⟩
  · have := allF_get h j (by simp; omega)
    rwa [List.getD_eq_getElem?_getD, List.getElem?_append_left hj, ← List.getD_eq_getElem?_getD] at this
  · have := allF_get h l.length (by simp)
    rw [List.getD_eq_getElem?_getD, List.getElem?_append_right (Nat.le_refl _)] at this
    simpa using this
theorem shortL_app {l : List (List (Int × Int))} {a : List (Int × Int)} (h : l.length ≤ 1048576 ∧ ∀ j : Nat, j < l.length → (l.getD j []).length ≤ 1048576) (ha : a.length ≤ 1048576) : shortL (l ++ [a]) := by
  refine ⟨by simp; omega, fun j hj => ?_⟩
  by_cases hjl : j < l.length
  · rw [List.getD_eq_getElem?_getD, List.getElem?_append_left hjl, ← List.getD_eq_getElem?_getD]
    have := h.2 j hjl
    omega
  · have : j = l.length := by simp at hj; omega
    subst this
    rw [List.getD_eq_getElem?_getD, List.getElem?_append_right (Nat.le_refl _)]
    simp
    omega
def lim (l : List (List (Int × Int))) : Prop := l.length ≤ 1048576 ∧ ∀ j : Nat, j < l.length → (l.getD j []).length ≤ 1048576

/-- Where the first premises are forced. -/
def pmU (n : Int) (xs X : List Int) (l : List (List (Int × Int))) : Nat → Int
  | 0 => (shl64 1 n) - 1
  | i + 1 => band (pmU n xs X l i) (fcd n xs X (l.getD i []))
def badF (n : Int) (xs ups vs : List Int) (l : List (List (Int × Int))) (a : List (Int × Int)) (N : Nat) : Bool := !decide (bnot (pmU n xs (vrU ups vs N) l l.length) (fcd n xs (vrU ups vs N) a) = 0)
theorem badF_eq {n : Int} {xs ups vs : List Int} {l : List (List (Int × Int))} {a : List (Int × Int)} {p : Nat} (h : badF n xs ups vs l a p = false) : bnot (pmU n xs (vrU ups vs p) l l.length) (fcd n xs (vrU ups vs p) a) = 0 := by simpa [badF] using h
theorem badF_ne {n : Int} {xs ups vs : List Int} {l : List (List (Int × Int))} {a : List (Int × Int)} {p : Nat} (h : badF n xs ups vs l a p = true) : ¬ bnot (pmU n xs (vrU ups vs p) l l.length) (fcd n xs (vrU ups vs p) a) = 0 := by simpa [badF] using h
theorem badF_no {n : Int} {xs ups vs : List Int} {l : List (List (Int × Int))} {a : List (Int × Int)} {p : Nat} {m : Int} (hm : m = pmU n xs (vrU ups vs p) l l.length) (h : bnot m (fcd n xs (vrU ups vs p) a) = 0) : badF n xs ups vs l a p = false := by subst hm; simp [badF, h]
theorem badF_yes {n : Int} {xs ups vs : List Int} {l : List (List (Int × Int))} {a : List (Int × Int)} {p : Nat} {m : Int} (hm : m = pmU n xs (vrU ups vs p) l l.length) (h : ¬ bnot m (fcd n xs (vrU ups vs p) a) = 0) : badF n xs ups vs l a p = true := by subst hm; simp [badF, h]
def foN (n : Int) (xs : List Int) (l : List (List (Int × Int))) (a : List (Int × Int)) : Option Nat := fstN (badF n xs (upL n xs) (mem (vmT (l ++ [a]) (l ++ [a]).length)) l a) (totU n xs (mem (vmT (l ++ [a]) (l ++ [a]).length)))
def foV (n : Int) (xs : List Int) (l : List (List (Int × Int))) (a : List (Int × Int)) : Bool := decide (pcode n xs (l ++ [a]) = 0) && (foN n xs l a).isNone
section
variable {n : Int} {xs : List Int} {l : List (List (Int × Int))} {a : List (Int × Int)}
theorem fo_bad (h : ¬ pcode n xs (l ++ [a]) = 0) : AV.tup [.bool false, AI (pcode n xs (l ++ [a]))] = AV.tup [.bool (foV n xs l a), AI (pcode n xs (l ++ [a]))] := by rw [foV, decide_eq_false h]; rfl
theorem fo_none (h : pcode n xs (l ++ [a]) = 0) (h2 : foN n xs l a = none) : AV.tup [.bool true, AI 0] = AV.tup [.bool (foV n xs l a), AI (pcode n xs (l ++ [a]))] := by rw [foV, decide_eq_true h, h2, h]; rfl
theorem fo_some {N : Nat} (h : pcode n xs (l ++ [a]) = 0) (h2 : foN n xs l a = some N) : AV.tup [.bool false, AI 0] = AV.tup [.bool (foV n xs l a), AI (pcode n xs (l ++ [a]))] := by rw [foV, decide_eq_true h, h2, h]; rfl
def plAll (l : List (List (Int × Int))) : Prop := ∀ j : Nat, j < l.length → isF (l.getD j []) = true ∧ (l.getD j []).any modN = false
theorem plAll_app (h : allF (l ++ [a]) = true) (h2 : allPl (l ++ [a]) = true) : plAll l ∧ isF a = true ∧ a.any modN = false := by
  have h3 := allF_app h
  have h4 : (l ++ [a]).any anyM = false := by simpa [allPl] using h2
  rw [List.any_append, Bool.or_eq_false_iff] at h4
  refine ⟨fun j hj => ⟨h3.1 j hj, ?_⟩, h3.2, by simpa [anyM] using h4.2⟩
  have := List.any_eq_false.1 h4.1 (l.getD j []) (by rw [List.getD_eq_getElem?_getD, List.getElem?_eq_getElem hj]; exact List.getElem_mem _)
  simpa [anyM] using this
end

theorem clipLL_c (l : List (List (Int × Int))) : CallA Tryz.prog 55 [LLN l] (.clp 1 l.length (rows eLN l)) := by
  refine CallA.of Tryz.func55 rfl (by kernel_rfl) ?_
  refine R.go 11 (R.clip 1 l.length (rows eLN l) (by kernel_rfl) (by kernel_rfl) ?_)
  exact R.go 2 (R.retE (.clp 1 l.length (rows eLN l)) (by kernel_rfl) (by kernel_rfl) (by rfl))

theorem FO_spec (n : Int) (xs : List Int) (l : List (List (Int × Int))) (a : List (Int × Int)) (lx : xs.length ≤ 1048576) (hlim : lim l) (hla : a.length ≤ 1048576) : CallA Tryz.prog 26 [.agg [AI n, LI xs], LLN l, LN a] (.tup [.bool (foV n xs l a), AI (pcode n xs (l ++ [a]))]) := by
  have hs : shortL (l ++ [a]) := shortL_app hlim hla
  have hll0 := hlim.1
  refine CallA.of Tryz.func26 rfl (by kernel_rfl) ?_
  refine R.go 10 (R.app eLN [] l 1 32 1 24 (by kernel_rfl) eLN_one (by decide) (by first | omega | (simp <;> omega)) (by kernel_rfl) ?_)
  refine R.go 2 (R.app eLN ([] ++ l) [a] 1 32 1 24 (by kernel_rfl) eLN_one (by decide) (by first | omega | (simp <;> omega)) (by kernel_rfl) ?_)
  refine R.go 4 (R.frz 1 (by kernel_rfl) ?_)
  refine R.go 2 (R.call true (l17Search_c n xs ([] ++ l ++ [a]) lx (by first | assumption | exact shortL_one (by omega))) (by kernel_rfl) rfl (by kernel_rfl) ?_)
  refine R.go 8 (R.condN ((pcode n xs ([] ++ l ++ [a])) = 0) (by kernel_rfl) (fun c1 => ?_) (fun c1 => ?_))
  · exact R.go 6 (R.retE (.tup [.bool false, AI (pcode n xs ([] ++ l ++ [a]))]) (by kernel_rfl) (by kernel_rfl) (by first | (first | exact fo_bad (by assumption) | exact fo_none hc0 hfo | exact fo_some hc0 hfo) | (exfalso; omega)))
  · have hc0 : pcode n xs (l ++ [a]) = 0 := by assumption
    have hpo := pc_ok hc0
    have hR : okPo n xs = true := hpo.1
    have hAFl : allF (l ++ [a]) = true := hpo.2.1
    have hpa := plAll_app hpo.2.1 hpo.2.2.1
    have hPA : plAll l := hpa.1
    have hF : isF a = true := hpa.2.1
    have hpl : a.any modN = false := hpa.2.2
    have ht0 : pwT ((upL n xs).length : Int) (mem (vmT (l ++ [a]) (l ++ [a]).length)).length ≤ 4096 := hpo.2.2.2
    obtain ⟨vs, hvs⟩ : ∃ vs, vs = mem (vmT (l ++ [a]) (l ++ [a]).length) := ⟨_, rfl⟩
    obtain ⟨ups, hu⟩ : ∃ ups, ups = upL n xs := ⟨_, rfl⟩
    have ht : pwT (ups.length : Int) vs.length ≤ 4096 := by rw [hu, hvs]; exact ht0
    have hfr : okFr n xs = true := okPo_fr hR
    have hFr := okFr_rel hfr
    have hb0 : 0 ≤ n ∧ n ≤ 8 ∧ (xs.length : Int) = n := ⟨hFr.1, hFr.2.1, hFr.2.2.1⟩
    have hVS : VS vs := by rw [hvs]; exact VS_vmT hAFl
    have hvl : vs.length ≤ 62 := by rw [hvs]; exact mem_le _
    have hul : ups.length ≤ 256 := by rw [hu]; exact upL_len hR
    have hup : 1 ≤ ups.length := by rw [hu]; exact upL_pos hR
    have htt : (totU n xs vs : Int) = pwT (ups.length : Int) vs.length := by rw [hu]; rw [hu] at ht; exact tot_le ht
    have hok : OKM 6 a := (isF_okm hF).1
    have hal : a.length ≤ 40 := (isF_okm hF).2
    have hok2 := fun N => show OKM (vrU ups vs N).length a by rw [vrU_len]; exact hok
    have hlen := okm_pos hok
    refine R.go 4 (R.call true (l16UpsetsG_c n xs ups (by assumption) hR).frz (by kernel_rfl) rfl (by kernel_rfl) ?_)
    refine R.go 1 (R.call true (l06VariablesG_c ([] ++ l ++ [a]) vs (by assumption) (by assumption) (by first | omega | (simp <;> omega))).frz (by kernel_rfl) rfl (by kernel_rfl) ?_)
    refine R.go 9 (R.call true (l17Power_c ups.length vs.length (by first | omega | (simp <;> omega)) (by first | omega | (simp <;> omega)) (by first | omega | (simp <;> omega))) (by kernel_rfl) rfl (by kernel_rfl) ?_)
    refine R.go 8 (R.loop (fun (N : Nat) => (⟨(frm 72 [(1, LLN l), (2, LN a), (3, .ptr 0 0), (10, LI ups), (11, LI vs), (12, AI (pwT ups.length vs.length)), (13, AI (N : Int))]), [.box 30 [AI n, LI xs]]⟩ : St)) (fun (N : Nat) => ((N : Int) ≤ pwT (ups.length : Int) vs.length) ∧ (∀ M : Nat, M < N → badF n xs ups vs l a M = false)) (fun (N : Nat) => (totU n xs vs) - N) 0 [1, 2, 3, 10, 11, 12, 13] (some [0]) (by kernel_rfl) (by kernel_rfl) (by kernel_rfl) ⟨(by omega), (by exact fun M hM => absurd hM (by omega))⟩ ?_)
    rintro N ⟨h4_1, h4_2⟩ R2 N3
    have hoX := hok2 N
    have hvl6 := vrU_len ups vs N
    refine R.go 7 (R.cond ((N : Int) < (pwT ups.length vs.length)) (by kernel_rfl) (fun c5 => ?_) (fun c5 => ?_))
    · refine R.go 8 (R.call true (l17Values_c ups vs N hVS hup (by first | omega | (simp <;> omega)) hvl (by omega)).frz (by kernel_rfl) rfl (by kernel_rfl) ?_)
      refine R.go 6 (R.call true (l01Full_c n (by omega) (by omega)) (by kernel_rfl) rfl (by kernel_rfl) ?_)
      refine R.go 8 (R.loop ((fun | (i, p) => (⟨(frm 72 [(1, LLN l), (2, LN a), (3, .ptr 0 0), (10, LI ups), (11, LI vs), (12, AI (pwT ups.length vs.length)), (13, AI (N : Int)), (14, LI (vrU ups vs N)), (15, AI p), (16, AI (i : Int))]), [.box 30 [AI n, LI xs]]⟩ : St) : Nat × Int → St)) (fun | (i, p) => (i ≤ l.length) ∧ (p = pmU n xs (vrU ups vs N) l i)) (fun | (i, p) => l.length - i) (0, ((shl64 1 n) - 1)) [1, 2, 3, 10, 11, 12, 13, 14, 15, 16] none (by kernel_rfl) (by kernel_rfl) (by kernel_rfl) ⟨(by omega), (by rfl)⟩ ?_)
      rintro ⟨i, p⟩ ⟨h9_1, h9_2⟩ R6 N7
      refine R.go 8 (R.cond ((i : Int) < (l.length : Int)) (by kernel_rfl) (fun c10 => ?_) (fun c10 => ?_))
      · have hq := hPA i (by omega)
        have hqo : OKM (vrU ups vs N).length (l.getD i []) := by rw [vrU_len]; exact (isF_okm hq.1).1
        have hql : (l.getD i []).length ≤ 40 := (isF_okm hq.1).2
        have hqp : (l.getD i []).any modN = false := hq.2
        refine R.go 9 (R.idx eLN l [] i (i : Int) (by kernel_rfl) rfl eLN_len (by omega) (by kernel_rfl) ?_)
        refine R.go 1 (R.call true (l17ForceF_c n xs (vrU ups vs N) (l.getD i []) hqo hqp hfr (by first | omega | (simp <;> omega))) (by kernel_rfl) rfl (by kernel_rfl) ?_)
        refine R.go 6 (R.ar ((i : Int) + 1) (by kernel_rfl) (by omega) (by omega) (by kernel_rfl) ?_)
        exact R.go 2 (R.stop R6 (by kernel_rfl) (N7 (i + 1, band p (fcd n xs (vrU ups vs N) (l.getD i []))) [1, 2, 3, 10, 11, 12, 13, 14, 15, 16] none _ (by kernel_rfl) (by kernel_rfl) ⟨(by omega), (by rw [pmU, ← ‹p = pmU n xs (vrU ups vs N) l i›])⟩ (by show (l.length - (i + 1)) < (l.length - i); omega)))
      · have hpe : p = pmU n xs (vrU ups vs N) l l.length := by rw [show l.length = i by omega]; assumption
        refine R.go 7 (R.call true (l17ForceF_c n xs (vrU ups vs N) a (by assumption) hpl hfr (by first | omega | (simp <;> omega))) (by kernel_rfl) rfl (by kernel_rfl) ?_)
        refine R.go 3 (R.condN ((bnot p (fcd n xs (vrU ups vs N) a)) = 0) (by kernel_rfl) (fun c11 => ?_) (fun c11 => ?_))
        · have hfo : foN n xs l a = some N := by unfold foN; rw [← hvs, ← hu]; exact fst_some (N := N) (show ∀ M : Nat, M < N → badF n xs ups vs l a M = false by assumption) (badF_yes hpe (by assumption)) (by omega)
          exact R.go 5 (R.retE (.tup [.bool false, AI 0]) (by kernel_rfl) (by kernel_rfl) (by first | (first | exact fo_bad (by assumption) | exact fo_none hc0 hfo | exact fo_some hc0 hfo) | (exfalso; omega)))
        · refine R.go 4 (R.ar ((N : Int) + 1) (by kernel_rfl) (by omega) (by omega) (by kernel_rfl) ?_)
          exact R.go 2 (R.stop R2 (by kernel_rfl) (N3 (N + 1) [1, 2, 3, 10, 11, 12, 13] none _ (by kernel_rfl) (by kernel_rfl) ⟨(by omega), (by exact below_succ (by assumption) (badF_no hpe (by assumption)))⟩ (by show ((totU n xs vs) - (N + 1)) < ((totU n xs vs) - N); omega)))
    · have hfo : foN n xs l a = none := by unfold foN; rw [← hvs, ← hu]; exact fst_none (fun M hM => (show ∀ M : Nat, M < N → badF n xs ups vs l a M = false by assumption) M (by omega))
      exact R.go 6 (R.retE (.tup [.bool true, AI 0]) (by kernel_rfl) (by kernel_rfl) (by first | (first | exact fo_bad (by assumption) | exact fo_none hc0 hfo | exact fo_some hc0 hfo) | (exfalso; omega)))

theorem fo_someN {n : Int} {xs : List Int} {l : List (List (Int × Int))} {a : List (Int × Int)} (h : pcode n xs (l ++ [a]) = 0) (h2 : ¬ foN n xs l a = none) : AV.tup [.bool false, AI 0] = AV.tup [.bool (foV n xs l a), AI (pcode n xs (l ++ [a]))] := by
  cases e : foN n xs l a with
  | none => exact absurd e h2
  | some N => exact fo_some h e

theorem fol_go (n : Int) (xs vs ups : List Int) (l : List (List (Int × Int))) (a : List (Int × Int)) (hR : okPo n xs = true) (hb0 : 0 ≤ n ∧ n ≤ 8 ∧ (xs.length : Int) = n) (hVS : VS vs) (hvl : vs.length ≤ 62) (hul : ups.length ≤ 256) (hup : 1 ≤ ups.length) (hok : OKM 6 a) (hal : a.length ≤ 40) (hpl : a.any modN = false) (hu : ups = upL n xs) (hPA : plAll l) (hll : l.length ≤ 1048576) (D : Nat) (us : List Value) : ∀ (d k p q lo e : Nat) (r : List Int), k + d = vs.length → q = ups.length ^ d → lo = p * q → e + 1 = lo + q → PVU ups vs p k r → (∀ M : Nat, lo ≤ M → M ≤ e → badF n xs ups vs l a M = false) → CallS Tryz.prog 83 [AI (k : Int), .rptr [LI vs], .ptr 9 0, .ptr 11 0, .rptr [LI ups], .ptr 12 0] [.box 30 [AI n, LI xs], .box 48 [LLN l], .box 32 [LN a], .box 4 [.bool false], .box 2 [AI 0], rowA eLN 32 1 [a], .dead, .frame us (frm 52 [(0, .agg [AI n, LI xs]), (1, LLN l), (2, LN a), (3, .ptr 0 0), (4, .ptr 1 0), (5, .ptr 2 0), (6, .ptr 3 0), (7, .ptr 4 0), (8, LLN (l ++ [a])), (9, AI (pcode n xs (l ++ [a]))), (14, LLN l), (15, .clp 1 l.length (rows eLN l)), (16, LN a), (17, .ref 5), (18, LLN (l ++ [a])), (19, .agg [AI n, LI xs]), (20, LLN (l ++ [a])), (21, AI (pcode n xs (l ++ [a]))), (22, AI (pcode n xs (l ++ [a]))), (23, .bool (!decide ((pcode n xs (l ++ [a])) = 0))), (25, .agg [AI n, LI xs]), (26, LLN (l ++ [a])), (27, LI vs), (28, .fn 82 [.rptr [LI vs], .rptr [LI ups]])]), loopObj Tryz.f28 D us .ready, .box 97 [.ref 8], rowA eI 2 1 r, .box 22 [.ref 10], .box 98 [.fn 83 [.rptr [LI vs], .ptr 9 0, .ptr 11 0, .rptr [LI ups], .ptr 12 0]]] (.bool true) [.box 30 [AI n, LI xs], .box 48 [LLN l], .box 32 [LN a], .box 4 [.bool false], .box 2 [AI 0], rowA eLN 32 1 [a], .dead, .frame us (frm 52 [(0, .agg [AI n, LI xs]), (1, LLN l), (2, LN a), (3, .ptr 0 0), (4, .ptr 1 0), (5, .ptr 2 0), (6, .ptr 3 0), (7, .ptr 4 0), (8, LLN (l ++ [a])), (9, AI (pcode n xs (l ++ [a]))), (14, LLN l), (15, .clp 1 l.length (rows eLN l)), (16, LN a), (17, .ref 5), (18, LLN (l ++ [a])), (19, .agg [AI n, LI xs]), (20, LLN (l ++ [a])), (21, AI (pcode n xs (l ++ [a]))), (22, AI (pcode n xs (l ++ [a]))), (23, .bool (!decide ((pcode n xs (l ++ [a])) = 0))), (25, .agg [AI n, LI xs]), (26, LLN (l ++ [a])), (27, LI vs), (28, .fn 82 [.rptr [LI vs], .rptr [LI ups]])]), loopObj Tryz.f28 D us .ready, .box 97 [.ref 8], rowA eI 2 1 (vrU ups vs e), .box 22 [.ref 10], .box 98 [.fn 83 [.rptr [LI vs], .ptr 9 0, .ptr 11 0, .rptr [LI ups], .ptr 12 0]]] := by
  intro d
  induction d with
  | zero =>
    intro k p q lo e r hk hq hlo he hr hb
    have hlp : lo = p := by rw [hlo, hq, Nat.pow_zero, Nat.mul_one]
    have hq1 : q = 1 := by rw [hq, Nat.pow_zero]
    have hrv : r = vrU ups vs p := pvU_end hr (by omega)
    have hkv : (k : Int) = (vs.length : Int) := by omega
    have hoX : OKM (vrU ups vs p).length a := by rw [vrU_len]; exact hok
    have hvl6 := vrU_len ups vs p
    have hfrr : okFr n xs = true := okPo_fr hR
    subst hrv
    have hep : e = p := by omega
    rw [hep]
    have hgood : bnot (pmU n xs (vrU ups vs p) l l.length) (fcd n xs (vrU ups vs p) a) = 0 := badF_eq (hb p (by omega) (by omega))
    refine CallS.cast (CallS.drop [0, 1, 2, 3, 4, 5, 6, 7, 8, 9, 10, 11, 12] (CallS.of (res := .bool true) (hp' := [.box 30 [AI n, LI xs], .box 48 [LLN l], .box 32 [LN a], .box 4 [.bool false], .box 2 [AI 0], rowA eLN 32 1 [a], .dead, .frame us (frm 52 [(0, .agg [AI n, LI xs]), (1, LLN l), (2, LN a), (3, .ptr 0 0), (4, .ptr 1 0), (5, .ptr 2 0), (6, .ptr 3 0), (7, .ptr 4 0), (8, LLN (l ++ [a])), (9, AI (pcode n xs (l ++ [a]))), (14, LLN l), (15, .clp 1 l.length (rows eLN l)), (16, LN a), (17, .ref 5), (18, LLN (l ++ [a])), (19, .agg [AI n, LI xs]), (20, LLN (l ++ [a])), (21, AI (pcode n xs (l ++ [a]))), (22, AI (pcode n xs (l ++ [a]))), (23, .bool (!decide ((pcode n xs (l ++ [a])) = 0))), (25, .agg [AI n, LI xs]), (26, LLN (l ++ [a])), (27, LI vs), (28, .fn 82 [.rptr [LI vs], .rptr [LI ups]])]), loopObj Tryz.f28 D us .ready, .box 97 [.ref 8], rowA eI 2 1 (vrU ups vs p), .box 22 [.ref 10], .box 98 [.fn 83 [.rptr [LI vs], .ptr 9 0, .ptr 11 0, .rptr [LI ups], .ptr 12 0]], .dead, .dead]) Tryz.func83 rfl (by kernel_rfl) ?_) (by kernel_rfl) (by decide)) (by kernel_rfl) (by kernel_rfl)
    intro usC frC
    refine R.go 12 (R.thn (decide ((k : Int) = (vs.length : Int))) (by kernel_rfl) (dT hkv) ?_)
    refine R.go 4 (R.yield 8 D us (by kernel_rfl) (by kernel_rfl) ?_)
    intro l1 us2
    refine R.go 3 (R.begin (by kernel_rfl) (by kernel_rfl) ?_)
    refine R.go 4 (R.call true (pAll_c n xs (by omega) (by omega)) (by kernel_rfl) rfl (by kernel_rfl) ?_)
    refine R.go 10 (R.loop ((fun | (i, m) => (⟨(frm 52 [(3, .ptr 0 0), (5, .ptr 2 0), (6, .ptr 3 0), (7, .ptr 4 0), (10, .ref 10), (11, AI m), (32, LLN l), (33, AI l.length), (34, AI (i : Int))]), [.box 30 [AI n, LI xs], .box 48 [LLN l], .box 32 [LN a], .box 4 [.bool false], .box 2 [AI 0], rowA eLN 32 1 [a], .dead, .frame us (frm 52 [(0, .agg [AI n, LI xs]), (1, LLN l), (2, LN a), (3, .ptr 0 0), (4, .ptr 1 0), (5, .ptr 2 0), (6, .ptr 3 0), (7, .ptr 4 0), (8, LLN (l ++ [a])), (9, AI (pcode n xs (l ++ [a]))), (14, LLN l), (15, .clp 1 l.length (rows eLN l)), (16, LN a), (17, .ref 5), (18, LLN (l ++ [a])), (19, .agg [AI n, LI xs]), (20, LLN (l ++ [a])), (21, AI (pcode n xs (l ++ [a]))), (22, AI (pcode n xs (l ++ [a]))), (23, .bool (!decide ((pcode n xs (l ++ [a])) = 0))), (25, .agg [AI n, LI xs]), (26, LLN (l ++ [a])), (27, LI vs), (28, .fn 82 [.rptr [LI vs], .rptr [LI ups]])]), loopObj Tryz.f28 D us .busy, .box 97 [.ref 8], rowA eI 2 1 (vrU ups vs p), .box 22 [.ref 10], .box 98 [.fn 83 [.rptr [LI vs], .ptr 9 0, .ptr 11 0, .rptr [LI ups], .ptr 12 0]], .frame usC frC, .frame us2 (frm 36 [(0, AI (k : Int)), (1, .rptr [LI vs]), (2, .ptr 9 0), (3, .ptr 11 0), (4, .rptr [LI ups]), (5, .ptr 12 0), (7, .bool false), (10, AI (k : Int)), (11, LI vs), (12, AI vs.length), (13, .bool (decide ((k : Int) = (vs.length : Int)))), (14, .ref 8), (15, .ref 10)])]⟩ : St) : Nat × Int → St)) (fun | (i, m) => (i ≤ l.length) ∧ (m = pmU n xs (vrU ups vs p) l i)) (fun | (i, m) => l.length - i) (0, ((shl64 1 n) - 1)) [3, 5, 6, 7, 10, 11, 32, 33, 34] none (by kernel_rfl) (by kernel_rfl) (by kernel_rfl) ⟨(by omega), (by rfl)⟩ ?_)
    rintro ⟨i, m⟩ ⟨h6_1, rfl⟩ R3 N4
    refine R.go 5 (R.cond ((i : Int) < (l.length : Int)) (by kernel_rfl) (fun c7 => ?_) (fun c7 => ?_))
    · refine R.go 5 (R.idx eLN l [] i (i : Int) (by kernel_rfl) rfl eLN_len (by omega) (by kernel_rfl) ?_)
      have hq := hPA i (by omega)
      have hqo : OKM (vrU ups vs p).length (l.getD i []) := by rw [vrU_len]; exact (isF_okm hq.1).1
      have hql : (l.getD i []).length ≤ 40 := (isF_okm hq.1).2
      have hqp : (l.getD i []).any modN = false := hq.2
      refine R.go 8 (R.call false (forced2_c n xs (vrU ups vs p) (l.getD i []) hqo hqp (by omega) (by omega) (by first | omega | (simp <;> omega)) (by first | omega | (simp <;> omega))) (by kernel_rfl) rfl (by kernel_rfl) ?_)
      refine R.go 5 (R.ar ((i : Int) + 1) (by kernel_rfl) (by omega) (by omega) (by kernel_rfl) ?_)
      exact R.go 2 (R.stop R3 (by kernel_rfl) (N4 (i + 1, band (pmU n xs (vrU ups vs p) l i) (fcd n xs (vrU ups vs p) (l.getD i []))) [3, 5, 6, 7, 10, 11, 32, 33, 34] none _ (by kernel_rfl) (by kernel_rfl) ⟨(by omega), (by rfl)⟩ (by show (l.length - (i + 1)) < (l.length - i); omega)))
    · refine R.go 3 ?_
      have hsub_i : i = l.length := (by omega)
      subst hsub_i
      refine R.go 4 (R.call false (forced2_c n xs (vrU ups vs p) a hoX hpl (by omega) (by omega) (by first | omega | (simp <;> omega)) (by first | omega | (simp <;> omega))) (by kernel_rfl) rfl (by kernel_rfl) ?_)
      refine R.call true (within_c (pmU n xs (vrU ups vs p) l l.length) (fcd n xs (vrU ups vs p) a)) (by kernel_rfl) rfl (by kernel_rfl) ?_
      refine R.go 2 (R.els (!decide (bnot (pmU n xs (vrU ups vs p) l l.length) (fcd n xs (vrU ups vs p) a) = 0)) (by kernel_rfl) (nF hgood) ?_)
      refine R.go 2 (R.round (frm 36 [(0, AI (k : Int)), (1, .rptr [LI vs]), (2, .ptr 9 0), (3, .ptr 11 0), (4, .rptr [LI ups]), (5, .ptr 12 0), (7, .bool false), (10, AI (k : Int)), (11, LI vs), (12, AI vs.length), (13, .bool (decide ((k : Int) = (vs.length : Int)))), (14, .ref 8), (15, .ref 10)]) (by kernel_rfl) (by kernel_rfl) (by kernel_rfl) ?_)
      exact R.go 2 (R.retS (by kernel_rfl) (by kernel_rfl) (by kernel_rfl) (by kernel_rfl))
  | succ d ih =>
    intro k p q lo e r hk hq hlo he hr hb
    obtain ⟨q1, hq1⟩ : ∃ q1, q1 = ups.length ^ d := ⟨_, rfl⟩
    have hqq : q = q1 * ups.length := by rw [hq, Nat.pow_succ, hq1]
    have hlo2 : lo = p * (q1 * ups.length) := by rw [hlo, hqq]
    have hq0 : 1 ≤ q1 := by rw [hq1]; exact Nat.pow_pos (by omega)
    have hkv : ¬ (k : Int) = (vs.length : Int) := by omega
    have hg := vs_get hVS (k := k) (by omega)
    refine CallS.cast (CallS.drop [0, 1, 2, 3, 4, 5, 6, 7, 8, 9, 10, 11, 12] (CallS.of (res := .bool true) (hp' := [.box 30 [AI n, LI xs], .box 48 [LLN l], .box 32 [LN a], .box 4 [.bool false], .box 2 [AI 0], rowA eLN 32 1 [a], .dead, .frame us (frm 52 [(0, .agg [AI n, LI xs]), (1, LLN l), (2, LN a), (3, .ptr 0 0), (4, .ptr 1 0), (5, .ptr 2 0), (6, .ptr 3 0), (7, .ptr 4 0), (8, LLN (l ++ [a])), (9, AI (pcode n xs (l ++ [a]))), (14, LLN l), (15, .clp 1 l.length (rows eLN l)), (16, LN a), (17, .ref 5), (18, LLN (l ++ [a])), (19, .agg [AI n, LI xs]), (20, LLN (l ++ [a])), (21, AI (pcode n xs (l ++ [a]))), (22, AI (pcode n xs (l ++ [a]))), (23, .bool (!decide ((pcode n xs (l ++ [a])) = 0))), (25, .agg [AI n, LI xs]), (26, LLN (l ++ [a])), (27, LI vs), (28, .fn 82 [.rptr [LI vs], .rptr [LI ups]])]), loopObj Tryz.f28 D us .ready, .box 97 [.ref 8], rowA eI 2 1 (vrU ups vs e), .box 22 [.ref 10], .box 98 [.fn 83 [.rptr [LI vs], .ptr 9 0, .ptr 11 0, .rptr [LI ups], .ptr 12 0]], .dead]) Tryz.func83 rfl (by kernel_rfl) ?_) (by kernel_rfl) (by decide)) (by kernel_rfl) (by kernel_rfl)
    intro usC frC
    refine R.go 12 (R.els (decide ((k : Int) = (vs.length : Int))) (by kernel_rfl) (dF hkv) ?_)
    refine R.go 9 (R.loop ((fun | (i, li, r1) => (⟨(frm 36 [(0, AI (k : Int)), (1, .rptr [LI vs]), (3, .ptr 11 0), (5, .ptr 12 0), (17, LI ups), (18, AI ups.length), (19, AI (i : Int))]), [.box 30 [AI n, LI xs], .box 48 [LLN l], .box 32 [LN a], .box 4 [.bool false], .box 2 [AI 0], rowA eLN 32 1 [a], .dead, .frame us (frm 52 [(0, .agg [AI n, LI xs]), (1, LLN l), (2, LN a), (3, .ptr 0 0), (4, .ptr 1 0), (5, .ptr 2 0), (6, .ptr 3 0), (7, .ptr 4 0), (8, LLN (l ++ [a])), (9, AI (pcode n xs (l ++ [a]))), (14, LLN l), (15, .clp 1 l.length (rows eLN l)), (16, LN a), (17, .ref 5), (18, LLN (l ++ [a])), (19, .agg [AI n, LI xs]), (20, LLN (l ++ [a])), (21, AI (pcode n xs (l ++ [a]))), (22, AI (pcode n xs (l ++ [a]))), (23, .bool (!decide ((pcode n xs (l ++ [a])) = 0))), (25, .agg [AI n, LI xs]), (26, LLN (l ++ [a])), (27, LI vs), (28, .fn 82 [.rptr [LI vs], .rptr [LI ups]])]), loopObj Tryz.f28 D us .ready, .box 97 [.ref 8], rowA eI 2 1 r1, .box 22 [.ref 10], .box 98 [.fn 83 [.rptr [LI vs], .ptr 9 0, .ptr 11 0, .rptr [LI ups], .ptr 12 0]], .frame usC frC]⟩ : St) : Nat × Nat × (List Int) → St)) (fun | (i, li, r1) => (i ≤ ups.length) ∧ (li = (p * ups.length + i) * q1) ∧ (PVU ups vs p k r1) ∧ (i = 0 ∨ r1 = vrU ups vs (li - 1))) (fun | (i, li, r1) => ups.length - i) (0, lo, r) [0, 1, 3, 5, 17, 18, 19] none (by kernel_rfl) (by kernel_rfl) (by kernel_rfl) ⟨(by omega), (by exact li_start hlo2), (by assumption), (by exact .inl rfl)⟩ ?_)
    rintro ⟨i, li, r1⟩ ⟨h4_1, h4_2, h4_3, h4_4⟩ R1 N2
    have hlI : li = (p * ups.length + i) * q1 := by assumption
    have hpv : PVU ups vs p k r1 := by assumption
    have hlb := fun h : i < ups.length => li_bd hlo2 hlI h
    have hr1l : r1.length = 6 := hpv.1
    have hle2 := fun h : i = ups.length => li_end hlo2 hlI h
    refine R.go 5 (R.cond ((i : Int) < (ups.length : Int)) (by kernel_rfl) (fun c5 => ?_) (fun c5 => ?_))
    · refine R.go 5 (R.idx eI ups 0 i (i : Int) (by kernel_rfl) rfl eI_len (by omega) (by kernel_rfl) ?_)
      refine R.go 8 (R.idx eI vs 0 k (k : Int) (by kernel_rfl) rfl eI_len (by omega) (by kernel_rfl) ?_)
      refine R.go 2 (R.idxO 10 1 r1.length (((vs.getD k 0)).toNat) (vs.getD k 0) (by kernel_rfl) (by omega) (by omega) (by kernel_rfl) ?_)
      refine R.stI 10 2 r1 (((vs.getD k 0)).toNat) (ups.getD i 0) (by kernel_rfl) (by omega) (by kernel_rfl) ?_
      have hlc := hlb (by omega)
      have hgo := ih (k + 1) (p * ups.length + i) q1 li (li + q1 - 1) (r1.set (vs.getD k 0).toNat (ups.getD i 0)) (by omega) hq1 hlI (by omega) (pvU_step hpv hVS (by omega) (by omega)) (fun M h1 h2 => hb M (by omega) (by omega))
      refine R.go 5 (R.ar ((k : Int) + 1) (by kernel_rfl) (by omega) (by omega) (by kernel_rfl) ?_)
      refine R.callS (CallS.frame usC frC hgo (by kernel_rfl) (by kernel_rfl) (Nat.le_of_ble_eq_true (by kernel_rfl))) (by kernel_rfl) (by kernel_rfl) (by kernel_rfl) ?_
      refine R.go 6 (R.ar ((i : Int) + 1) (by kernel_rfl) (by omega) (by omega) (by kernel_rfl) ?_)
      exact R.go 2 (R.stop R1 (by kernel_rfl) (N2 (i + 1, (li + q1 - 1 + 1), vrU ups vs (li + q1 - 1)) [0, 1, 3, 5, 17, 18, 19] none _ (by kernel_rfl) (by kernel_rfl) ⟨(by omega), (by rw [show li + q1 - 1 + 1 = li + q1 by omega]; exact li_next (by assumption)), (by exact pv_next hVS hk (by omega) hq1 hlI hq0), (by exact .inr rfl)⟩ (by show (ups.length - (i + 1)) < (ups.length - i); omega)))
    · have hle : li = e + 1 := by have h1 := li_end hlo2 hlI (by omega); omega
      refine R.go 3 ?_
      have hsub_r1 : r1 = vrU ups vs e := ((by assumption : i = 0 ∨ r1 = vrU ups vs (li - 1)).elim (fun h => absurd h (by omega)) (fun h => h.trans (by rw [show li - 1 = e by omega])))
      subst hsub_r1
      exact R.go 2 (R.retS (by kernel_rfl) (by kernel_rfl) (by kernel_rfl) (by kernel_rfl))
theorem fol_stop (n : Int) (xs vs ups : List Int) (l : List (List (Int × Int))) (a : List (Int × Int)) (hR : okPo n xs = true) (hb0 : 0 ≤ n ∧ n ≤ 8 ∧ (xs.length : Int) = n) (hVS : VS vs) (hvl : vs.length ≤ 62) (hul : ups.length ≤ 256) (hup : 1 ≤ ups.length) (hok : OKM 6 a) (hal : a.length ≤ 40) (hpl : a.any modN = false) (hu : ups = upL n xs) (hPA : plAll l) (hll : l.length ≤ 1048576) (D : Nat) (us : List Value) : ∀ (d k p q lo : Nat) (r : List Int), k + d = vs.length → q = ups.length ^ d → lo = p * q → PVU ups vs p k r → (N0 : Nat) → lo ≤ N0 → N0 < lo + q → (∀ M : Nat, M < N0 → badF n xs ups vs l a M = false) → badF n xs ups vs l a N0 = true → CallS Tryz.prog 83 [AI (k : Int), .rptr [LI vs], .ptr 9 0, .ptr 11 0, .rptr [LI ups], .ptr 12 0] [.box 30 [AI n, LI xs], .box 48 [LLN l], .box 32 [LN a], .box 4 [.bool false], .box 2 [AI 0], rowA eLN 32 1 [a], .dead, .frame us (frm 52 [(0, .agg [AI n, LI xs]), (1, LLN l), (2, LN a), (3, .ptr 0 0), (4, .ptr 1 0), (5, .ptr 2 0), (6, .ptr 3 0), (7, .ptr 4 0), (8, LLN (l ++ [a])), (9, AI (pcode n xs (l ++ [a]))), (14, LLN l), (15, .clp 1 l.length (rows eLN l)), (16, LN a), (17, .ref 5), (18, LLN (l ++ [a])), (19, .agg [AI n, LI xs]), (20, LLN (l ++ [a])), (21, AI (pcode n xs (l ++ [a]))), (22, AI (pcode n xs (l ++ [a]))), (23, .bool (!decide ((pcode n xs (l ++ [a])) = 0))), (25, .agg [AI n, LI xs]), (26, LLN (l ++ [a])), (27, LI vs), (28, .fn 82 [.rptr [LI vs], .rptr [LI ups]])]), loopObj Tryz.f28 D us .ready, .box 97 [.ref 8], rowA eI 2 1 r, .box 22 [.ref 10], .box 98 [.fn 83 [.rptr [LI vs], .ptr 9 0, .ptr 11 0, .rptr [LI ups], .ptr 12 0]]] (.bool false) [.box 30 [AI n, LI xs], .box 48 [LLN l], .box 32 [LN a], .box 4 [.bool false], .box 2 [AI 0], rowA eLN 32 1 [a], .dead, .frame us (frm 52 [(0, .agg [AI n, LI xs]), (1, LLN l), (2, LN a), (3, .ptr 0 0), (4, .ptr 1 0), (5, .ptr 2 0), (6, .ptr 3 0), (7, .ptr 4 0), (8, LLN (l ++ [a])), (9, AI (pcode n xs (l ++ [a]))), (14, LLN l), (15, .clp 1 l.length (rows eLN l)), (16, LN a), (17, .ref 5), (18, LLN (l ++ [a])), (19, .agg [AI n, LI xs]), (20, LLN (l ++ [a])), (21, AI (pcode n xs (l ++ [a]))), (22, AI (pcode n xs (l ++ [a]))), (23, .bool (!decide ((pcode n xs (l ++ [a])) = 0))), (25, .agg [AI n, LI xs]), (26, LLN (l ++ [a])), (27, LI vs), (28, .fn 82 [.rptr [LI vs], .rptr [LI ups]])]), loopObj Tryz.f28 D us (.done .ret), .box 97 [.ref 8], rowA eI 2 1 (vrU ups vs N0), .box 22 [.ref 10], .box 98 [.fn 83 [.rptr [LI vs], .ptr 9 0, .ptr 11 0, .rptr [LI ups], .ptr 12 0]]] := by
  intro d
  induction d with
  | zero =>
    intro k p q lo r hk hq hlo hr N0 h1 h2 hn hp0
    have hlp : lo = p := by rw [hlo, hq, Nat.pow_zero, Nat.mul_one]
    have hq1 : q = 1 := by rw [hq, Nat.pow_zero]
    have hrv : r = vrU ups vs p := pvU_end hr (by omega)
    have hkv : (k : Int) = (vs.length : Int) := by omega
    have hoX : OKM (vrU ups vs p).length a := by rw [vrU_len]; exact hok
    have hvl6 := vrU_len ups vs p
    have hfrr : okFr n xs = true := okPo_fr hR
    subst hrv
    have hep : N0 = p := by omega
    rw [hep]
    have hbad : ¬ bnot (pmU n xs (vrU ups vs p) l l.length) (fcd n xs (vrU ups vs p) a) = 0 := badF_ne (by rw [← hep]; exact hp0)
    refine CallS.cast (CallS.drop [0, 1, 2, 3, 4, 5, 6, 7, 8, 9, 10, 11, 12] (CallS.of (res := .bool false) (hp' := [.box 30 [AI n, LI xs], .box 48 [LLN l], .box 32 [LN a], .box 4 [.bool false], .box 2 [AI 0], rowA eLN 32 1 [a], .dead, .frame us (frm 52 [(0, .agg [AI n, LI xs]), (1, LLN l), (2, LN a), (3, .ptr 0 0), (4, .ptr 1 0), (5, .ptr 2 0), (6, .ptr 3 0), (7, .ptr 4 0), (8, LLN (l ++ [a])), (9, AI (pcode n xs (l ++ [a]))), (14, LLN l), (15, .clp 1 l.length (rows eLN l)), (16, LN a), (17, .ref 5), (18, LLN (l ++ [a])), (19, .agg [AI n, LI xs]), (20, LLN (l ++ [a])), (21, AI (pcode n xs (l ++ [a]))), (22, AI (pcode n xs (l ++ [a]))), (23, .bool (!decide ((pcode n xs (l ++ [a])) = 0))), (25, .agg [AI n, LI xs]), (26, LLN (l ++ [a])), (27, LI vs), (28, .fn 82 [.rptr [LI vs], .rptr [LI ups]])]), loopObj Tryz.f28 D us (.done .ret), .box 97 [.ref 8], rowA eI 2 1 (vrU ups vs p), .box 22 [.ref 10], .box 98 [.fn 83 [.rptr [LI vs], .ptr 9 0, .ptr 11 0, .rptr [LI ups], .ptr 12 0]], .dead, .dead]) Tryz.func83 rfl (by kernel_rfl) ?_) (by kernel_rfl) (by decide)) (by kernel_rfl) (by kernel_rfl)
    intro usC frC
    refine R.go 12 (R.thn (decide ((k : Int) = (vs.length : Int))) (by kernel_rfl) (dT hkv) ?_)
    refine R.go 4 (R.yield 8 D us (by kernel_rfl) (by kernel_rfl) ?_)
    intro l1 us2
    refine R.go 3 (R.begin (by kernel_rfl) (by kernel_rfl) ?_)
    refine R.go 4 (R.call true (pAll_c n xs (by omega) (by omega)) (by kernel_rfl) rfl (by kernel_rfl) ?_)
    refine R.go 10 (R.loop ((fun | (i, m) => (⟨(frm 52 [(3, .ptr 0 0), (5, .ptr 2 0), (6, .ptr 3 0), (7, .ptr 4 0), (10, .ref 10), (11, AI m), (32, LLN l), (33, AI l.length), (34, AI (i : Int))]), [.box 30 [AI n, LI xs], .box 48 [LLN l], .box 32 [LN a], .box 4 [.bool false], .box 2 [AI 0], rowA eLN 32 1 [a], .dead, .frame us (frm 52 [(0, .agg [AI n, LI xs]), (1, LLN l), (2, LN a), (3, .ptr 0 0), (4, .ptr 1 0), (5, .ptr 2 0), (6, .ptr 3 0), (7, .ptr 4 0), (8, LLN (l ++ [a])), (9, AI (pcode n xs (l ++ [a]))), (14, LLN l), (15, .clp 1 l.length (rows eLN l)), (16, LN a), (17, .ref 5), (18, LLN (l ++ [a])), (19, .agg [AI n, LI xs]), (20, LLN (l ++ [a])), (21, AI (pcode n xs (l ++ [a]))), (22, AI (pcode n xs (l ++ [a]))), (23, .bool (!decide ((pcode n xs (l ++ [a])) = 0))), (25, .agg [AI n, LI xs]), (26, LLN (l ++ [a])), (27, LI vs), (28, .fn 82 [.rptr [LI vs], .rptr [LI ups]])]), loopObj Tryz.f28 D us .busy, .box 97 [.ref 8], rowA eI 2 1 (vrU ups vs p), .box 22 [.ref 10], .box 98 [.fn 83 [.rptr [LI vs], .ptr 9 0, .ptr 11 0, .rptr [LI ups], .ptr 12 0]], .frame usC frC, .frame us2 (frm 36 [(0, AI (k : Int)), (1, .rptr [LI vs]), (2, .ptr 9 0), (3, .ptr 11 0), (4, .rptr [LI ups]), (5, .ptr 12 0), (7, .bool false), (10, AI (k : Int)), (11, LI vs), (12, AI vs.length), (13, .bool (decide ((k : Int) = (vs.length : Int)))), (14, .ref 8), (15, .ref 10)])]⟩ : St) : Nat × Int → St)) (fun | (i, m) => (i ≤ l.length) ∧ (m = pmU n xs (vrU ups vs p) l i)) (fun | (i, m) => l.length - i) (0, ((shl64 1 n) - 1)) [3, 5, 6, 7, 10, 11, 32, 33, 34] none (by kernel_rfl) (by kernel_rfl) (by kernel_rfl) ⟨(by omega), (by rfl)⟩ ?_)
    rintro ⟨i, m⟩ ⟨h6_1, rfl⟩ R3 N4
    refine R.go 5 (R.cond ((i : Int) < (l.length : Int)) (by kernel_rfl) (fun c7 => ?_) (fun c7 => ?_))
    · refine R.go 5 (R.idx eLN l [] i (i : Int) (by kernel_rfl) rfl eLN_len (by omega) (by kernel_rfl) ?_)
      have hq := hPA i (by omega)
      have hqo : OKM (vrU ups vs p).length (l.getD i []) := by rw [vrU_len]; exact (isF_okm hq.1).1
      have hql : (l.getD i []).length ≤ 40 := (isF_okm hq.1).2
      have hqp : (l.getD i []).any modN = false := hq.2
      refine R.go 8 (R.call false (forced2_c n xs (vrU ups vs p) (l.getD i []) hqo hqp (by omega) (by omega) (by first | omega | (simp <;> omega)) (by first | omega | (simp <;> omega))) (by kernel_rfl) rfl (by kernel_rfl) ?_)
      refine R.go 5 (R.ar ((i : Int) + 1) (by kernel_rfl) (by omega) (by omega) (by kernel_rfl) ?_)
      exact R.go 2 (R.stop R3 (by kernel_rfl) (N4 (i + 1, band (pmU n xs (vrU ups vs p) l i) (fcd n xs (vrU ups vs p) (l.getD i []))) [3, 5, 6, 7, 10, 11, 32, 33, 34] none _ (by kernel_rfl) (by kernel_rfl) ⟨(by omega), (by rfl)⟩ (by show (l.length - (i + 1)) < (l.length - i); omega)))
    · refine R.go 3 ?_
      have hsub_i : i = l.length := (by omega)
      subst hsub_i
      refine R.go 4 (R.call false (forced2_c n xs (vrU ups vs p) a hoX hpl (by omega) (by omega) (by first | omega | (simp <;> omega)) (by first | omega | (simp <;> omega))) (by kernel_rfl) rfl (by kernel_rfl) ?_)
      refine R.call true (within_c (pmU n xs (vrU ups vs p) l l.length) (fcd n xs (vrU ups vs p) a)) (by kernel_rfl) rfl (by kernel_rfl) ?_
      refine R.go 2 (R.thn (!decide (bnot (pmU n xs (vrU ups vs p) l l.length) (fcd n xs (vrU ups vs p) a) = 0)) (by kernel_rfl) (nT hbad) ?_)
      refine R.go 5 (R.roundR (frm 36 [(0, AI (k : Int)), (1, .rptr [LI vs]), (2, .ptr 9 0), (3, .ptr 11 0), (4, .rptr [LI ups]), (5, .ptr 12 0), (7, .bool false), (10, AI (k : Int)), (11, LI vs), (12, AI vs.length), (13, .bool (decide ((k : Int) = (vs.length : Int)))), (14, .ref 8), (15, .ref 10)]) (by kernel_rfl) (by kernel_rfl) (by kernel_rfl) ?_)
      exact R.go 2 (R.retS (by kernel_rfl) (by kernel_rfl) (by kernel_rfl) (by kernel_rfl))
  | succ d ih =>
    intro k p q lo r hk hq hlo hr N0 h1 h2 hn hp0
    obtain ⟨q1, hq1⟩ : ∃ q1, q1 = ups.length ^ d := ⟨_, rfl⟩
    have hqq : q = q1 * ups.length := by rw [hq, Nat.pow_succ, hq1]
    have hlo2 : lo = p * (q1 * ups.length) := by rw [hlo, hqq]
    have hq0 : 1 ≤ q1 := by rw [hq1]; exact Nat.pow_pos (by omega)
    have hkv : ¬ (k : Int) = (vs.length : Int) := by omega
    have hg := vs_get hVS (k := k) (by omega)
    refine CallS.cast (CallS.drop [0, 1, 2, 3, 4, 5, 6, 7, 8, 9, 10, 11, 12] (CallS.of (res := .bool false) (hp' := [.box 30 [AI n, LI xs], .box 48 [LLN l], .box 32 [LN a], .box 4 [.bool false], .box 2 [AI 0], rowA eLN 32 1 [a], .dead, .frame us (frm 52 [(0, .agg [AI n, LI xs]), (1, LLN l), (2, LN a), (3, .ptr 0 0), (4, .ptr 1 0), (5, .ptr 2 0), (6, .ptr 3 0), (7, .ptr 4 0), (8, LLN (l ++ [a])), (9, AI (pcode n xs (l ++ [a]))), (14, LLN l), (15, .clp 1 l.length (rows eLN l)), (16, LN a), (17, .ref 5), (18, LLN (l ++ [a])), (19, .agg [AI n, LI xs]), (20, LLN (l ++ [a])), (21, AI (pcode n xs (l ++ [a]))), (22, AI (pcode n xs (l ++ [a]))), (23, .bool (!decide ((pcode n xs (l ++ [a])) = 0))), (25, .agg [AI n, LI xs]), (26, LLN (l ++ [a])), (27, LI vs), (28, .fn 82 [.rptr [LI vs], .rptr [LI ups]])]), loopObj Tryz.f28 D us (.done .ret), .box 97 [.ref 8], rowA eI 2 1 (vrU ups vs N0), .box 22 [.ref 10], .box 98 [.fn 83 [.rptr [LI vs], .ptr 9 0, .ptr 11 0, .rptr [LI ups], .ptr 12 0]], .dead]) Tryz.func83 rfl (by kernel_rfl) ?_) (by kernel_rfl) (by decide)) (by kernel_rfl) (by kernel_rfl)
    intro usC frC
    refine R.go 12 (R.els (decide ((k : Int) = (vs.length : Int))) (by kernel_rfl) (dF hkv) ?_)
    refine R.go 9 (R.loop ((fun | (i, li, r1) => (⟨(frm 36 [(0, AI (k : Int)), (1, .rptr [LI vs]), (3, .ptr 11 0), (5, .ptr 12 0), (17, LI ups), (18, AI ups.length), (19, AI (i : Int))]), [.box 30 [AI n, LI xs], .box 48 [LLN l], .box 32 [LN a], .box 4 [.bool false], .box 2 [AI 0], rowA eLN 32 1 [a], .dead, .frame us (frm 52 [(0, .agg [AI n, LI xs]), (1, LLN l), (2, LN a), (3, .ptr 0 0), (4, .ptr 1 0), (5, .ptr 2 0), (6, .ptr 3 0), (7, .ptr 4 0), (8, LLN (l ++ [a])), (9, AI (pcode n xs (l ++ [a]))), (14, LLN l), (15, .clp 1 l.length (rows eLN l)), (16, LN a), (17, .ref 5), (18, LLN (l ++ [a])), (19, .agg [AI n, LI xs]), (20, LLN (l ++ [a])), (21, AI (pcode n xs (l ++ [a]))), (22, AI (pcode n xs (l ++ [a]))), (23, .bool (!decide ((pcode n xs (l ++ [a])) = 0))), (25, .agg [AI n, LI xs]), (26, LLN (l ++ [a])), (27, LI vs), (28, .fn 82 [.rptr [LI vs], .rptr [LI ups]])]), loopObj Tryz.f28 D us .ready, .box 97 [.ref 8], rowA eI 2 1 r1, .box 22 [.ref 10], .box 98 [.fn 83 [.rptr [LI vs], .ptr 9 0, .ptr 11 0, .rptr [LI ups], .ptr 12 0]], .frame usC frC]⟩ : St) : Nat × Nat × (List Int) → St)) (fun | (i, li, r1) => (i ≤ ups.length) ∧ (li = (p * ups.length + i) * q1) ∧ (PVU ups vs p k r1) ∧ (i = 0 ∨ r1 = vrU ups vs (li - 1)) ∧ (li ≤ N0)) (fun | (i, li, r1) => ups.length - i) (0, lo, r) [0, 1, 3, 5, 17, 18, 19] none (by kernel_rfl) (by kernel_rfl) (by kernel_rfl) ⟨(by omega), (by exact li_start hlo2), (by assumption), (by exact .inl rfl), (by omega)⟩ ?_)
    rintro ⟨i, li, r1⟩ ⟨h4_1, h4_2, h4_3, h4_4, h4_5⟩ R1 N2
    have hlI : li = (p * ups.length + i) * q1 := by assumption
    have hpv : PVU ups vs p k r1 := by assumption
    have hlb := fun h : i < ups.length => li_bd hlo2 hlI h
    have hr1l : r1.length = 6 := hpv.1
    have hle2 := fun h : i = ups.length => li_end hlo2 hlI h
    refine R.go 5 (R.cond ((i : Int) < (ups.length : Int)) (by kernel_rfl) (fun c5 => ?_) (fun c5 => ?_))
    · refine R.go 5 (R.idx eI ups 0 i (i : Int) (by kernel_rfl) rfl eI_len (by omega) (by kernel_rfl) ?_)
      refine R.go 8 (R.idx eI vs 0 k (k : Int) (by kernel_rfl) rfl eI_len (by omega) (by kernel_rfl) ?_)
      refine R.go 2 (R.idxO 10 1 r1.length (((vs.getD k 0)).toNat) (vs.getD k 0) (by kernel_rfl) (by omega) (by omega) (by kernel_rfl) ?_)
      refine R.stI 10 2 r1 (((vs.getD k 0)).toNat) (ups.getD i 0) (by kernel_rfl) (by omega) (by kernel_rfl) ?_
      have hlc := hlb (by omega)
      have hgo := fun h : ¬ N0 < li + q1 => fol_go n xs vs ups l a hR hb0 hVS hvl hul hup hok hal hpl hu hPA hll D us d (k + 1) (p * ups.length + i) q1 li (li + q1 - 1) (r1.set (vs.getD k 0).toNat (ups.getD i 0)) (by omega) hq1 hlI (by omega) (pvU_step hpv hVS (by omega) (by omega)) (fun M h1 h2 => hn M (by omega))
      have hstop := fun h : N0 < li + q1 => ih (k + 1) (p * ups.length + i) q1 li (r1.set (vs.getD k 0).toNat (ups.getD i 0)) (by omega) hq1 hlI (pvU_step hpv hVS (by omega) (by omega)) N0 (by omega) h hn hp0
      refine R.go 4 ?_
      by_cases c6 : N0 < li + q1
      · refine R.go 1 (R.ar ((k : Int) + 1) (by kernel_rfl) (by omega) (by omega) (by kernel_rfl) ?_)
        refine R.callS (CallS.frame usC frC (hstop (by assumption)) (by kernel_rfl) (by kernel_rfl) (Nat.le_of_ble_eq_true (by kernel_rfl))) (by kernel_rfl) (by kernel_rfl) (by kernel_rfl) ?_
        exact R.go 7 (R.retS (by kernel_rfl) (by kernel_rfl) (by kernel_rfl) (by kernel_rfl))
      · refine R.go 1 (R.ar ((k : Int) + 1) (by kernel_rfl) (by omega) (by omega) (by kernel_rfl) ?_)
        refine R.callS (CallS.frame usC frC (hgo (by assumption)) (by kernel_rfl) (by kernel_rfl) (Nat.le_of_ble_eq_true (by kernel_rfl))) (by kernel_rfl) (by kernel_rfl) (by kernel_rfl) ?_
        refine R.go 6 (R.ar ((i : Int) + 1) (by kernel_rfl) (by omega) (by omega) (by kernel_rfl) ?_)
        exact R.go 2 (R.stop R1 (by kernel_rfl) (N2 (i + 1, (li + q1 - 1 + 1), vrU ups vs (li + q1 - 1)) [0, 1, 3, 5, 17, 18, 19] none _ (by kernel_rfl) (by kernel_rfl) ⟨(by omega), (by rw [show li + q1 - 1 + 1 = li + q1 by omega]; exact li_next (by assumption)), (by exact pv_next hVS hk (by omega) hq1 hlI hq0), (by exact .inr rfl), (by omega)⟩ (by show (ups.length - (i + 1)) < (ups.length - i); omega)))
    · exfalso; omega -- another end: .bool true

theorem FO_impl (n : Int) (xs : List Int) (l : List (List (Int × Int))) (a : List (Int × Int)) (lx : xs.length ≤ 1048576) (hlim : lim l) (hla : a.length ≤ 1048576) : CallA Tryz.prog 28 [.agg [AI n, LI xs], LLN l, LN a] (.tup [.bool (foV n xs l a), AI (pcode n xs (l ++ [a]))]) := by
  have hs : shortL (l ++ [a]) := shortL_app hlim hla
  have hll0 := hlim.1
  refine CallA.of Tryz.func28 rfl (by kernel_rfl) ?_
  refine R.go 11 (R.call true (clipLL_c l) (by kernel_rfl) rfl (by kernel_rfl) ?_)
  refine R.go 2 (R.appC eLN l [a] 32 1 24 (by kernel_rfl) eLN_one (by decide) (by first | omega | (simp <;> omega)) (by simp) (by kernel_rfl) ?_)
  refine R.go 5 (R.frz 6 (by kernel_rfl) ?_)
  refine R.go 2 (R.call true (posetSearch_c n xs (l ++ [a]) lx hs) (by kernel_rfl) rfl (by kernel_rfl) ?_)
  refine R.go 7 (R.condN ((pcode n xs (l ++ [a])) = 0) (by kernel_rfl) (fun c1 => ?_) (fun c1 => ?_))
  · exact R.go 6 (R.retE (.tup [.bool false, AI (pcode n xs (l ++ [a]))]) (by kernel_rfl) (by kernel_rfl) (by first | (first | exact fo_bad (by assumption) | exact fo_none hc0 (by assumption) | exact fo_someN hc0 (by assumption)) | (exfalso; omega)))
  · have hc0 : pcode n xs (l ++ [a]) = 0 := by assumption
    have hpo := pc_ok hc0
    have hR : okPo n xs = true := hpo.1
    have hAFl : allF (l ++ [a]) = true := hpo.2.1
    have hpa := plAll_app hpo.2.1 hpo.2.2.1
    have hPA : plAll l := hpa.1
    have hF : isF a = true := hpa.2.1
    have hpl : a.any modN = false := hpa.2.2
    have ht0 : pwT ((upL n xs).length : Int) (mem (vmT (l ++ [a]) (l ++ [a]).length)).length ≤ 4096 := hpo.2.2.2
    obtain ⟨vs, hvs⟩ : ∃ vs, vs = mem (vmT (l ++ [a]) (l ++ [a]).length) := ⟨_, rfl⟩
    obtain ⟨ups, hu⟩ : ∃ ups, ups = upL n xs := ⟨_, rfl⟩
    have ht : pwT (ups.length : Int) vs.length ≤ 4096 := by rw [hu, hvs]; exact ht0
    have hfr : okFr n xs = true := okPo_fr hR
    have hFr := okFr_rel hfr
    have hb0 : 0 ≤ n ∧ n ≤ 8 ∧ (xs.length : Int) = n := ⟨hFr.1, hFr.2.1, hFr.2.2.1⟩
    have hVS : VS vs := by rw [hvs]; exact VS_vmT hAFl
    have hvl : vs.length ≤ 62 := by rw [hvs]; exact mem_le _
    have hul : ups.length ≤ 256 := by rw [hu]; exact upL_len hR
    have hup : 1 ≤ ups.length := by rw [hu]; exact upL_pos hR
    have htt : (totU n xs vs : Int) = pwT (ups.length : Int) vs.length := by rw [hu]; rw [hu] at ht; exact tot_le ht
    have hok : OKM 6 a := (isF_okm hF).1
    have hal : a.length ≤ 40 := (isF_okm hF).2
    have hok2 := fun N => show OKM (vrU ups vs N).length a by rw [vrU_len]; exact hok
    have hlen := okm_pos hok
    have hq1 : 1 ≤ ups.length ^ vs.length := Nat.pow_pos (by omega)
    have hll : l.length ≤ 1048576 := hll0
    have hgoF : foN n xs l a = none → ∀ M : Nat, M < ups.length ^ vs.length → badF n xs ups vs l a M = false := fun h => by unfold foN at h; rw [← hvs, ← hu] at h; have h2 := fstN_none h; rw [totU, ← hu] at h2; exact h2
    obtain ⟨N, hstF⟩ : ∃ N : Nat, ¬ foN n xs l a = none → N < ups.length ^ vs.length ∧ badF n xs ups vs l a N = true ∧ ∀ M : Nat, M < N → badF n xs ups vs l a M = false := by
      cases e : foN n xs l a with
      | none => exact ⟨0, fun h => absurd rfl h⟩
      | some N => exact ⟨N, fun _ => by unfold foN at e; rw [← hvs, ← hu] at e; have h2 := fstN_some e; rw [totU, ← hu] at h2; exact h2⟩
    refine R.go 6 (R.call true (variablesInG_c (l ++ [a]) vs (by assumption) hAFl (by first | omega | (simp <;> omega))).frz (by kernel_rfl) rfl (by kernel_rfl) ?_)
    refine R.call true (valuationsP_c n xs vs ups (by assumption) hR) (by kernel_rfl) rfl (by kernel_rfl) ?_
    refine R.go 2 (R.range (caps := [.rptr [LI vs], .rptr [LI ups]]) Tryz.func82 rfl (by kernel_rfl) (by kernel_rfl) ?_)
    intro D2 us3
    refine R.go 21 ?_
    by_cases c4 : foN n xs l a = none
    · refine R.callS (fol_go n xs vs ups l a hR hb0 hVS hvl hul hup hok hal hpl hu hPA hll D2 us3 vs.length 0 0 (ups.length ^ vs.length) 0 ((ups.length ^ vs.length) - 1) (List.replicate 6 0) (by omega) rfl (by simp) (by omega) (pvU_start ups vs) (fun M h1 h2 => hgoF (by assumption) M (by omega))) (by kernel_rfl) (by kernel_rfl) (by kernel_rfl) ?_
      refine R.go 1 (R.over (.tup []) (frm 52 [(0, .agg [AI n, LI xs]), (1, LLN l), (2, LN a), (3, .ptr 0 0), (4, .ptr 1 0), (5, .ptr 2 0), (6, .ptr 3 0), (7, .ptr 4 0), (8, LLN (l ++ [a])), (9, AI (pcode n xs (l ++ [a]))), (14, LLN l), (15, .clp 1 l.length (rows eLN l)), (16, LN a), (17, .ref 5), (18, LLN (l ++ [a])), (19, .agg [AI n, LI xs]), (20, LLN (l ++ [a])), (21, AI (pcode n xs (l ++ [a]))), (22, AI (pcode n xs (l ++ [a]))), (23, .bool (!decide ((pcode n xs (l ++ [a])) = 0))), (25, .agg [AI n, LI xs]), (26, LLN (l ++ [a])), (27, LI vs), (28, .fn 82 [.rptr [LI vs], .rptr [LI ups]])]) (by kernel_rfl) (by kernel_rfl) (by kernel_rfl) (by kernel_rfl) ?_)
      exact R.go 6 (R.retE (.tup [.bool true, AI 0]) (by kernel_rfl) (by kernel_rfl) (by first | (first | exact fo_bad (by assumption) | exact fo_none hc0 (by assumption) | exact fo_someN hc0 (by assumption)) | (exfalso; omega)))
    · refine R.callS (fol_stop n xs vs ups l a hR hb0 hVS hvl hul hup hok hal hpl hu hPA hll D2 us3 vs.length 0 0 (ups.length ^ vs.length) 0 (List.replicate 6 0) (by omega) rfl (by simp) (pvU_start ups vs) N (Nat.zero_le _) (by have h3 := (hstF (by assumption)).1; omega) (hstF (by assumption)).2.2 (hstF (by assumption)).2.1) (by kernel_rfl) (by kernel_rfl) (by kernel_rfl) ?_
      refine R.go 1 (R.left (.ret) (.tup []) (frm 52 [(0, .agg [AI n, LI xs]), (1, LLN l), (2, LN a), (3, .ptr 0 0), (4, .ptr 1 0), (5, .ptr 2 0), (6, .ptr 3 0), (7, .ptr 4 0), (8, LLN (l ++ [a])), (9, AI (pcode n xs (l ++ [a]))), (14, LLN l), (15, .clp 1 l.length (rows eLN l)), (16, LN a), (17, .ref 5), (18, LLN (l ++ [a])), (19, .agg [AI n, LI xs]), (20, LLN (l ++ [a])), (21, AI (pcode n xs (l ++ [a]))), (22, AI (pcode n xs (l ++ [a]))), (23, .bool (!decide ((pcode n xs (l ++ [a])) = 0))), (25, .agg [AI n, LI xs]), (26, LLN (l ++ [a])), (27, LI vs), (28, .fn 82 [.rptr [LI vs], .rptr [LI ups]])]) (by kernel_rfl) (by kernel_rfl) (by kernel_rfl) (by kernel_rfl) ?_)
      exact R.retE (.tup [.bool false, AI 0]) (by kernel_rfl) (by kernel_rfl) (by first | (first | exact fo_bad (by assumption) | exact fo_none hc0 (by assumption) | exact fo_someN hc0 (by assumption)) | (exfalso; omega))

theorem lawFollowsOn_in (n : Int) (xs : List Int) (l : List (List (Int × Int))) (a : List (Int × Int)) (hl : xs.length + (l.length + sumL l) + a.length ≤ 1048576) : CallA Tryz.prog 6 [.agg [AI n, LI xs], LLN l, LN a] (.bool true) := by
  have hv1l : ∀ j : Nat, j < l.length → (l.getD j []).length ≤ 1048576 := fun j hj => by have := sumL_get l j hj; omega
  have hv2l : ∀ j : Nat, j < l.length → (l.getD j []).length ≤ 1000000000 := fun j hj => by have := hv1l j hj; omega
  have hv3l : lim l := ⟨by omega, hv1l⟩
  refine CallA.of Tryz.func6 rfl (by kernel_rfl) ?_
  refine R.go 13 (R.call true (szPoset_c n xs 1048576 (by omega) (by first | omega | (simp <;> omega))) (by kernel_rfl) rfl (by kernel_rfl) ?_)
  refine R.go 8 (R.cond (((1048576 : Int) - xs.length) < 0) (by kernel_rfl) (fun c1 => ?_) (fun c1 => ?_))
  · exact R.go 4 (R.retE (.bool true) (by kernel_rfl) (by kernel_rfl) (by rfl))
  · refine R.go 5 (R.call true (szNodeSS_c l ((1048576 : Int) - xs.length) (by first | omega | (simp <;> omega)) (by first | omega | (simp <;> omega))) (by kernel_rfl) rfl (by kernel_rfl) ?_)
    refine R.go 8 (R.cond (((((1048576 : Int) - xs.length) : Int) - l.length - sumL l) < 0) (by kernel_rfl) (fun c2 => ?_) (fun c2 => ?_))
    · exact R.go 4 (R.retE (.bool true) (by kernel_rfl) (by kernel_rfl) (by rfl))
    · refine R.go 5 (R.call true (szNodeS_c a ((((1048576 : Int) - xs.length) : Int) - l.length - sumL l) (by first | omega | (simp <;> omega)) (by first | omega | (simp <;> omega))) (by kernel_rfl) rfl (by kernel_rfl) ?_)
      refine R.go 8 (R.cond (((((((1048576 : Int) - xs.length) : Int) - l.length - sumL l) : Int) - a.length) < 0) (by kernel_rfl) (fun c3 => ?_) (fun c3 => ?_))
      · exact R.go 4 (R.retE (.bool true) (by kernel_rfl) (by kernel_rfl) (by rfl))
      · refine R.go 4 (R.call true (toPoset_c n xs (by first | omega | (simp <;> omega))).frz (by kernel_rfl) rfl (by kernel_rfl) ?_)
        refine R.go 1 (R.call true (toNodeSS_c l (by first | omega | (simp <;> omega)) hv1l).frz (by kernel_rfl) rfl (by kernel_rfl) ?_)
        refine R.go 1 (R.call true (toNodeS_c a (by first | omega | (simp <;> omega))).frz (by kernel_rfl) rfl (by kernel_rfl) ?_)
        refine R.call true (FO_spec n xs l a (by first | omega | (simp <;> omega)) hv3l (by first | omega | (simp <;> omega))) (by kernel_rfl) rfl (by kernel_rfl) ?_
        refine R.go 9 (R.call true (toPoset_c n xs (by first | omega | (simp <;> omega))).frz (by kernel_rfl) rfl (by kernel_rfl) ?_)
        refine R.go 6 (R.call true (toNodeSS_c l (by first | omega | (simp <;> omega)) hv1l).frz (by kernel_rfl) rfl (by kernel_rfl) ?_)
        refine R.go 5 (R.call true (toNodeS_c a (by first | omega | (simp <;> omega))).frz (by kernel_rfl) rfl (by kernel_rfl) ?_)
        refine R.go 7 (R.call true (FO_impl n xs l a (by first | omega | (simp <;> omega)) hv3l (by first | omega | (simp <;> omega))) (by kernel_rfl) rfl (by kernel_rfl) ?_)
        refine R.go 13 (R.want (!((foV n xs l a) == (foV n xs l a))) false (by kernel_rfl) (bnF (beq_self_eq_true _)) ?_)
        refine R.go 1 (R.want (!((foV n xs l a) == (foV n xs l a))) false (by kernel_rfl) (bnF (beq_self_eq_true _)) ?_)
        refine R.go 1 (R.want (!((foV n xs l a) == (foV n xs l a))) false (by kernel_rfl) (bnF (beq_self_eq_true _)) ?_)
        refine R.go 1 (R.pick (!((foV n xs l a) == (foV n xs l a))) false (by kernel_rfl) (bnF (beq_self_eq_true _)) (by kernel_rfl) ?_)
        refine R.go 1 (R.els (!decide ((pcode n xs (l ++ [a])) = (pcode n xs (l ++ [a])))) (by kernel_rfl) (nF rfl) ?_)
        refine R.go 6 (R.call true (toPoset_c n xs (by first | omega | (simp <;> omega))).frz (by kernel_rfl) rfl (by kernel_rfl) ?_)
        refine R.call true (eqPoset_c n xs (by first | omega | (simp <;> omega))) (by kernel_rfl) rfl (by kernel_rfl) ?_
        refine R.go 9 (R.call true (toNodeSS_c l (by first | omega | (simp <;> omega)) hv1l).frz (by kernel_rfl) rfl (by kernel_rfl) ?_)
        refine R.call true (eqNodeSS_c l l (by first | omega | (simp <;> omega)) hv2l) (by kernel_rfl) rfl (by kernel_rfl) ?_
        refine R.go 2 (R.els (!decide (l = l)) (by kernel_rfl) (nF rfl) ?_)
        refine R.go 6 (R.call true (toNodeS_c a (by first | omega | (simp <;> omega))).frz (by kernel_rfl) rfl (by kernel_rfl) ?_)
        refine R.call true (eqNodeS_c a a (by first | omega | (simp <;> omega))) (by kernel_rfl) rfl (by kernel_rfl) ?_
        refine R.go 2 (R.els (!decide (a = a)) (by kernel_rfl) (nF rfl) ?_)
        exact R.go 5 (R.retE (.bool true) (by kernel_rfl) (by kernel_rfl) (by rfl))

theorem lawFollowsOn_1 (n : Int) (xs : List Int) (l : List (List (Int × Int))) (a : List (Int × Int)) (hx : 1048576 < xs.length) (hb : xs.length ≤ 9223372036854775807) : CallA Tryz.prog 6 [.agg [AI n, LI xs], LLN l, LN a] (.bool true) := by
  refine CallA.of Tryz.func6 rfl (by kernel_rfl) ?_
  refine R.go 13 (R.call true (szPoset_no n xs 1048576 (by omega) (by first | omega | (simp <;> omega)) hb) (by kernel_rfl) rfl (by kernel_rfl) ?_)
  exact R.go 13 (R.retE (.bool true) (by kernel_rfl) (by kernel_rfl) (by rfl))

theorem lawFollowsOn_2 (n : Int) (xs : List Int) (l : List (List (Int × Int))) (a : List (Int × Int)) (hy : xs.length ≤ 1048576) (hx : 1048576 < xs.length + (l.length + sumL l)) (hb : l.length ≤ 9223372036854775807) (hb2 : ∀ j : Nat, j < l.length → (l.getD j []).length ≤ 9223372036854775807) : CallA Tryz.prog 6 [.agg [AI n, LI xs], LLN l, LN a] (.bool true) := by
  refine CallA.of Tryz.func6 rfl (by kernel_rfl) ?_
  refine R.go 13 (R.call true (szPoset_c n xs 1048576 (by omega) (by first | omega | (simp <;> omega))) (by kernel_rfl) rfl (by kernel_rfl) ?_)
  refine R.go 8 (R.cond (((1048576 : Int) - xs.length) < 0) (by kernel_rfl) (fun c1 => ?_) (fun c1 => ?_))
  · exact R.go 4 (R.retE (.bool true) (by kernel_rfl) (by kernel_rfl) (by rfl))
  · refine R.go 5 (R.call true (szNodeSS_no l ((1048576 : Int) - xs.length) (by first | omega | (simp <;> omega)) (by first | omega | (simp <;> omega)) hb hb2) (by kernel_rfl) rfl (by kernel_rfl) ?_)
    exact R.go 13 (R.retE (.bool true) (by kernel_rfl) (by kernel_rfl) (by rfl))

theorem lawFollowsOn_3 (n : Int) (xs : List Int) (l : List (List (Int × Int))) (a : List (Int × Int)) (hy : xs.length + (l.length + sumL l) ≤ 1048576) (hx : 1048576 < xs.length + (l.length + sumL l) + a.length) (hb : a.length ≤ 9223372036854775807) : CallA Tryz.prog 6 [.agg [AI n, LI xs], LLN l, LN a] (.bool true) := by
  refine CallA.of Tryz.func6 rfl (by kernel_rfl) ?_
  refine R.go 13 (R.call true (szPoset_c n xs 1048576 (by omega) (by first | omega | (simp <;> omega))) (by kernel_rfl) rfl (by kernel_rfl) ?_)
  refine R.go 8 (R.cond (((1048576 : Int) - xs.length) < 0) (by kernel_rfl) (fun c1 => ?_) (fun c1 => ?_))
  · exact R.go 4 (R.retE (.bool true) (by kernel_rfl) (by kernel_rfl) (by rfl))
  · refine R.go 5 (R.call true (szNodeSS_c l ((1048576 : Int) - xs.length) (by first | omega | (simp <;> omega)) (by first | omega | (simp <;> omega))) (by kernel_rfl) rfl (by kernel_rfl) ?_)
    refine R.go 8 (R.cond (((((1048576 : Int) - xs.length) : Int) - l.length - sumL l) < 0) (by kernel_rfl) (fun c2 => ?_) (fun c2 => ?_))
    · exact R.go 4 (R.retE (.bool true) (by kernel_rfl) (by kernel_rfl) (by rfl))
    · refine R.go 5 (R.call true (szNodeS_no a ((((1048576 : Int) - xs.length) : Int) - l.length - sumL l) (by first | omega | (simp <;> omega)) (by first | omega | (simp <;> omega)) hb) (by kernel_rfl) rfl (by kernel_rfl) ?_)
      exact R.go 13 (R.retE (.bool true) (by kernel_rfl) (by kernel_rfl) (by rfl))

theorem lawFollowsOn (n : Int) (xs : List Int) (m0 : xs.length ≤ maxLen) (l : List (List (Int × Int))) (m1 : l.length ≤ maxLen) (m1' : ∀ j : Nat, j < l.length → (l.getD j []).length ≤ maxLen) (a : List (Int × Int)) (m2 : a.length ≤ maxLen) : CallA Tryz.prog 6 [.agg [AI n, LI xs], LLN l, LN a] (.bool true) := by
  have hm : maxLen ≤ 9223372036854775807 := by decide
  rcases Nat.lt_or_ge 1048576 (xs.length) with h0 | h0
  · exact lawFollowsOn_1 n xs l a h0 (by omega)
  rcases Nat.lt_or_ge 1048576 (xs.length + (l.length + sumL l)) with h1 | h1
  · exact lawFollowsOn_2 n xs l a h0 h1 (by omega) (fun j hj => Nat.le_trans (m1' j hj) hm)
  rcases Nat.lt_or_ge 1048576 (xs.length + (l.length + sumL l) + a.length) with h2 | h2
  · exact lawFollowsOn_3 n xs l a h1 h2 (by omega)
  exact lawFollowsOn_in n xs l a h2

end Go.Proofs.YtkanjgmocmhlkaaGreat
