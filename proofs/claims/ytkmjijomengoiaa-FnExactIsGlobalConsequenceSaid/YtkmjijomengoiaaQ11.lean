/- Consequences on frames. -/
import Derived.Test.YtkmjijomengoiaaQ09
import Derived.Test.YtkmjijomengoiaaSymZ
namespace Go.Proofs.Ytkmjijomengoiaa
open Go.RowKit Go.Abs

/-- Where the first premises are true. -/
def pmT (n : Int) (xs X : List Int) (l : List (List (Int × Int))) : Nat → Int
  | 0 => (shl64 1 n) - 1
  | i + 1 => band (pmT n xs X l i) (tset n xs X (l.getD i []))
def badL (n : Int) (xs vs : List Int) (l : List (List (Int × Int))) (a : List (Int × Int)) (N : Nat) : Bool := !decide (bnot (pmT n xs (vrow n vs (N : Int)) l l.length) (tset n xs (vrow n vs (N : Int)) a) = 0)
def badG (n : Int) (xs vs : List Int) (l : List (List (Int × Int))) (a : List (Int × Int)) (N : Nat) : Bool := decide (pmT n xs (vrow n vs (N : Int)) l l.length = (shl64 1 n) - 1) && !decide (tset n xs (vrow n vs (N : Int)) a = (shl64 1 n) - 1)
def badC (gl : Bool) (n : Int) (xs vs : List Int) (l : List (List (Int × Int))) (a : List (Int × Int)) (N : Nat) : Bool := if gl = true then badG n xs vs l a N else badL n xs vs l a N
def csB (gl : Bool) (n : Int) (xs : List Int) (l : List (List (Int × Int))) (a : List (Int × Int)) : Bool := decide (scode n xs (l ++ [a]) = 0) && (fstN (badC gl n xs (mem (vmT (l ++ [a]) (l ++ [a]).length)) l a) (totN n (mem (vmT (l ++ [a]) (l ++ [a]).length)))).isNone
theorem allF_app {l : List (List (Int × Int))} {a : List (Int × Int)} (h : allF (l ++ [a]) = true) : (∀ j : Nat, j < l.length → isF (l.getD j []) = true) ∧ isF a = true := by
  refine ⟨fun j hj => ?_, ?_⟩
  · have := allF_get h j (by simp; omega)
    rwa [List.getD_eq_getElem?_getD, List.getElem?_append_left hj, ← List.getD_eq_getElem?_getD] at this
  · have := allF_get h l.length (by simp)
    rw [List.getD_eq_getElem?_getD, List.getElem?_append_right (Nat.le_refl _)] at this
    simpa using this
theorem shortL_app {l : List (List (Int × Int))} {a : List (Int × Int)} (h : l.length ≤ 1048576 ∧ ∀ j : Nat, j < l.length → (l.getD j []).length ≤ 1048576) (ha : a.length ≤ 1048576) : shortL (l ++ [a]) := by
  refine ⟨by simp; omega, fun j hj => ?_⟩
  by_cases hjl : j < l.length
  · rw [List.getD_eq_getElem?_getD, List.getElem?_append_left hjl, ← List.getD_eq_getElem?_getD]
    have := h.2 j hjl
    omega
  · have : j = l.length := by simp at hj; omega
    subst this
    rw [List.getD_eq_getElem?_getD, List.getElem?_append_right (Nat.le_refl _)]
    simp
    omega
def lim (l : List (List (Int × Int))) : Prop := l.length ≤ 1048576 ∧ ∀ j : Nat, j < l.length → (l.getD j []).length ≤ 1048576
theorem l06VariablesG_c (l : List (List (Int × Int))) (vs : List Int) (hvs : vs = mem (vmT l l.length)) (hF : allF l = true) (hl : l.length ≤ 1000000000) : CallA Try.prog 126 [LLN l] (ownA eI 2 1 vs) := by rw [hvs]; exact l06Variables_c l hF hl

theorem badC_go {gl : Bool} {n : Int} {xs vs : List Int} {l : List (List (Int × Int))} {a : List (Int × Int)} {N : Nat} {p t : Int} (hp : p = pmT n xs (vrow n vs (N : Int)) l l.length) (ht : t = tset n xs (vrow n vs (N : Int)) a) (hg : gl = true) (h : ¬ p = (shl64 1 n) - 1) : badC gl n xs vs l a N = false := by
  rw [badC, if_pos hg, badG, ← hp, decide_eq_false h]; rfl
theorem bnotF {n : Int} {xs X : List Int} {a : List (Int × Int)} (hR : okFr n xs = true) (ht : InM n.toNat (tset n xs X a)) : bnot ((shl64 1 n) - 1) (tset n xs X a) = 0 ↔ tset n xs X a = (shl64 1 n) - 1 := by
  obtain ⟨h0, h8, _, _⟩ := okFr_rel hR
  have hf := inM_full (n := n.toNat) (by omega)
  rw [nn_eq h0] at hf
  rw [bnot_sub (by omega) hf ht]
  constructor
  · intro h
    refine tb_ext ht.1 hf.1 fun i => ?_
    rw [Bool.eq_iff_iff]
    refine ⟨fun hti => ?_, h i⟩
    have := tb_full (n := n.toNat) (by omega) i
    rw [nn_eq h0] at this
    rw [this]
    simpa using tb_lt ht hti
  · intro h i hi
    rw [h]; exact hi
theorem badC_ok {gl : Bool} {n : Int} {xs vs : List Int} {l : List (List (Int × Int))} {a : List (Int × Int)} {N : Nat} {p : Int} (hR : okFr n xs = true) (ha : OKM 6 a) (hN : N ≤ 65536) (hp : p = pmT n xs (vrow n vs (N : Int)) l l.length) (hg : ¬ (gl = true ∧ ¬ p = (shl64 1 n) - 1)) :
    badC gl n xs vs l a N = !decide (bnot p (tset n xs (vrow n vs (N : Int)) a) = 0) := by
  obtain ⟨h0, h8, _, _⟩ := okFr_rel hR
  unfold badC
  split
  · rename_i h
    have hpf : p = (shl64 1 n) - 1 := by
      by_cases e : p = (shl64 1 n) - 1
      · exact e
      · exact absurd ⟨h, e⟩ hg
    have ht := tset_in hR ha (X := vrow n vs (N : Int)) (vrow_in h0 h8 (by omega))
    rw [badG, ← hp, decide_eq_true hpf, Bool.true_and, hpf]
    congr 1
    exact decide_eq_decide.2 (bnotF hR ht).symm
  · rw [badL, ← hp]

theorem l06Follows_c (n : Int) (xs : List Int) (l : List (List (Int × Int))) (a : List (Int × Int)) (gl : Bool) (hF : allF (l ++ [a]) = true) (hR : okFr n xs = true) (hfit : n * ((mem (vmT (l ++ [a]) (l ++ [a]).length)).length : Int) ≤ 16) (hlim : lim l) (hl : a.length ≤ 1048576) : CallA Try.prog 91 [.agg [AI n, LI xs], LLN l, LN a, .bool gl] (.bool ((fstN (badC gl n xs (mem (vmT (l ++ [a]) (l ++ [a]).length)) l a) (totN n (mem (vmT (l ++ [a]) (l ++ [a]).length)))).isNone)) := by
  obtain ⟨vs, hvs⟩ : ∃ vs, vs = mem (vmT (l ++ [a]) (l ++ [a]).length) := ⟨_, rfl⟩
  rw [← hvs] at hfit ⊢
  have hll := hlim.1
  have hVS : VS vs := by rw [hvs]; exact VS_vmT hF
  have hRR := okFr_rel hR
  have hb0 : 0 ≤ n ∧ n ≤ 8 ∧ (xs.length : Int) = n := ⟨hRR.1, hRR.2.1, hRR.2.2.1⟩
  have hnc : 0 ≤ n * (vs.length : Int) := Int.mul_nonneg hb0.1 (by omega)
  have htot : shl64 1 (n * (vs.length : Int)) = (totN n vs : Int) := by have := shl_rng (n * (vs.length : Int)) hnc (by omega); unfold totN; omega
  have htr := shl_rng (n * (vs.length : Int)) hnc (by omega)
  have hvl : vs.length ≤ 62 := by rw [hvs]; exact mem_le _
  have hpr := allF_app hF
  have hA := isF_okm hpr.2
  have hok : OKM 6 a := hA.1
  have hal : a.length ≤ 40 := hA.2
  refine CallA.of Try.func91 rfl (by kernel_rfl) ?_
  refine R.go 9 (R.app eLN [] l 1 33 1 24 (by kernel_rfl) eLN_one (by decide) (by first | omega | (simp <;> omega)) (by kernel_rfl) ?_)
  refine R.go 2 (R.app eLN ([] ++ l) [a] 1 33 1 24 (by kernel_rfl) eLN_one (by decide) (by first | omega | (simp <;> omega)) (by kernel_rfl) ?_)
  refine R.frz 1 (by kernel_rfl) ?_
  refine R.call true (l06VariablesG_c ([] ++ l ++ [a]) vs (by assumption) (by assumption) (by simp <;> omega)).frz (by kernel_rfl) rfl (by kernel_rfl) ?_
  refine R.go 6 (R.call true (l01Full_c n (by omega) (by omega)) (by kernel_rfl) rfl (by kernel_rfl) ?_)
  refine R.go 8 (R.loop (fun (N : Nat) => (⟨(frm 68 [(1, LLN l), (2, LN a), (3, .bool gl), (4, .ptr 0 0), (9, LI vs), (10, AI ((shl64 1 n) - 1)), (11, AI (N : Int))]), [.box 46 [AI n, LI xs]]⟩ : St)) (fun (N : Nat) => ((N : Int) ≤ shl64 1 (n * (vs.length : Int))) ∧ (∀ M, M < N → badC gl n xs vs l a M = false)) (fun (N : Nat) => (totN n vs) - N) 0 [1, 2, 3, 4, 9, 10, 11] (some [0]) (by kernel_rfl) (by kernel_rfl) (by kernel_rfl) ⟨(by omega), (by exact fun M hM => absurd hM (by omega))⟩ ?_)
  rintro N ⟨h3_1, h3_2⟩ R1 N2
  have hvl6 : (vrow n vs (N : Int)).length = 6 := vrow_len _ _ _
  have hoX : OKM (vrow n vs (N : Int)).length a := by rw [hvl6]; exact hok
  have hfull := shl_rng n hb0.1 (by omega)
  have htb := totN_le ⟨hnc, hfit⟩
  refine R.go 8 (R.ar (n * (vs.length : Int)) (by kernel_rfl) (by omega) (by omega) (by kernel_rfl) ?_)
  refine R.call true (l01One_c (n * (vs.length : Int)) (by first | omega | (simp <;> omega)) (by first | omega | (simp <;> omega))) (by kernel_rfl) rfl (by kernel_rfl) ?_
  refine R.go 2 (R.cond ((N : Int) < (shl64 1 (n * (vs.length : Int)))) (by kernel_rfl) (fun c4 => ?_) (fun c4 => ?_))
  · refine R.go 9 (R.call true (l06Values_c n xs vs N hVS (by omega) (by omega) (by first | omega | (simp <;> omega)) hvl).frz (by kernel_rfl) rfl (by kernel_rfl) ?_)
    refine R.go 15 (R.loop ((fun | (i, p) => (⟨(frm 68 [(1, LLN l), (2, LN a), (3, .bool gl), (4, .ptr 0 0), (9, LI vs), (10, AI ((shl64 1 n) - 1)), (11, AI (N : Int)), (12, .ptr 1 0), (13, AI p), (14, AI (i : Int))]), [.box 46 [AI n, LI xs], .box 48 [AI n, LI xs, LI (vrow n vs (N : Int))]]⟩ : St) : Nat × Int → St)) (fun | (i, p) => (i ≤ l.length) ∧ (p = pmT n xs (vrow n vs (N : Int)) l i)) (fun | (i, p) => l.length - i) (0, ((shl64 1 n) - 1)) [1, 2, 3, 4, 9, 10, 11, 12, 13, 14] none (by kernel_rfl) (by kernel_rfl) (by kernel_rfl) ⟨(by omega), (by rfl)⟩ ?_)
    rintro ⟨i, p⟩ ⟨h8_1, h8_2⟩ R5 N6
    refine R.go 8 (R.cond ((i : Int) < (l.length : Int)) (by kernel_rfl) (fun c9 => ?_) (fun c9 => ?_))
    · have hq := isF_okm (hpr.1 i (by omega))
      have hqo : OKM (vrow n vs (N : Int)).length (l.getD i []) := by rw [hvl6]; exact hq.1
      have hql : (l.getD i []).length ≤ 40 := hq.2
      refine R.go 8 (R.idx eLN l [] i (i : Int) (by kernel_rfl) rfl eLN_len (by omega) (by kernel_rfl) ?_)
      refine R.go 1 (R.call true (l06TruthT_c n xs (vrow n vs (N : Int)) (l.getD i []) hR hqo (by first | omega | (simp <;> omega))) (by kernel_rfl) rfl (by kernel_rfl) ?_)
      refine R.go 6 (R.ar ((i : Int) + 1) (by kernel_rfl) (by omega) (by omega) (by kernel_rfl) ?_)
      exact R.go 2 (R.stop R5 (by kernel_rfl) (N6 (i + 1, band p (tset n xs (vrow n vs (N : Int)) (l.getD i []))) [1, 2, 3, 4, 9, 10, 11, 12, 13, 14] none _ (by kernel_rfl) (by kernel_rfl) ⟨(by omega), (by rw [pmT, ← ‹p = pmT n xs (vrow n vs (N : Int)) l i›])⟩ (by show (l.length - (i + 1)) < (l.length - i); omega)))
    · have hpe : p = pmT n xs (vrow n vs (N : Int)) l l.length := by rw [show l.length = i by omega]; assumption
      refine R.go 6 ?_
      rcases Bool.eq_false_or_eq_true (gl) with c10 | c10
      · refine R.want (gl) true (by kernel_rfl) c10 ?_
        refine R.go 1 (R.want (gl) true (by kernel_rfl) c10 ?_)
        refine R.go 1 (R.want (gl) true (by kernel_rfl) c10 ?_)
        refine R.go 1 (R.pick (gl) true (by kernel_rfl) c10 (by kernel_rfl) ?_)
        refine R.go 1 (R.condN (p = ((shl64 1 n) - 1)) (by kernel_rfl) (fun c11 => ?_) (fun c11 => ?_))
        · refine R.go 3 (R.ar ((N : Int) + 1) (by kernel_rfl) (by omega) (by omega) (by kernel_rfl) ?_)
          exact R.go 2 (R.stop R1 (by kernel_rfl) (N2 (N + 1) [1, 2, 3, 4, 9, 10, 11] (some [0]) _ (by kernel_rfl) (by kernel_rfl) ⟨(by omega), (by exact below_succ (by assumption) (by first | exact badC_go hpe rfl (by assumption) (by assumption) | (rw [badC_ok (p := p) hR hok (by omega) hpe hng]; simpa using (by assumption : bnot p (tset n xs (vrow n vs (N : Int)) a) = 0))))⟩ (by show ((totN n vs) - (N + 1)) < ((totN n vs) - N); omega)))
        · have hng : ¬ (gl = true ∧ ¬ p = (shl64 1 n) - 1) := by simp_all
          refine R.go 6 (R.call true (l06TruthT_c n xs (vrow n vs (N : Int)) a hR hoX (by first | omega | (simp <;> omega))) (by kernel_rfl) rfl (by kernel_rfl) ?_)
          refine R.go 3 (R.condN ((bnot p (tset n xs (vrow n vs (N : Int)) a)) = 0) (by kernel_rfl) (fun c12 => ?_) (fun c12 => ?_))
          · have hb : ¬ bnot p (tset n xs (vrow n vs (N : Int)) a) = 0 := by assumption
            exact R.go 4 (R.retE (.bool false) (by kernel_rfl) (by kernel_rfl) (by first | (apply congrArg AV.bool; first | (rw [fst_some (N := N) (show ∀ M, M < N → badC gl n xs vs l a M = false by assumption) (by rw [badC_ok (p := p) hR hok (by omega) hpe hng]; simpa using hb) (by omega)]; rfl) | (rw [fst_none (fun M hM => (show ∀ M, M < N → badC gl n xs vs l a M = false by assumption) M (by omega))]; rfl)) | (exfalso; omega)))
          · refine R.go 4 (R.ar ((N : Int) + 1) (by kernel_rfl) (by omega) (by omega) (by kernel_rfl) ?_)
            exact R.go 2 (R.stop R1 (by kernel_rfl) (N2 (N + 1) [1, 2, 3, 4, 9, 10, 11] (some [0]) _ (by kernel_rfl) (by kernel_rfl) ⟨(by omega), (by exact below_succ (by assumption) (by first | exact badC_go hpe rfl (by assumption) (by assumption) | (rw [badC_ok (p := p) hR hok (by omega) hpe hng]; simpa using (by assumption : bnot p (tset n xs (vrow n vs (N : Int)) a) = 0))))⟩ (by show ((totN n vs) - (N + 1)) < ((totN n vs) - N); omega)))
      · refine R.skp (gl) true (by kernel_rfl) c10 (by kernel_rfl) ?_
        refine R.skp (gl) true (by kernel_rfl) c10 (by kernel_rfl) ?_
        refine R.skp (gl) true (by kernel_rfl) c10 (by kernel_rfl) ?_
        refine R.pick (gl) false (by kernel_rfl) c10 (by kernel_rfl) ?_
        have hng : ¬ (gl = true ∧ ¬ p = (shl64 1 n) - 1) := by simp_all
        refine R.go 8 (R.call true (l06TruthT_c n xs (vrow n vs (N : Int)) a hR hoX (by first | omega | (simp <;> omega))) (by kernel_rfl) rfl (by kernel_rfl) ?_)
        refine R.go 3 (R.condN ((bnot p (tset n xs (vrow n vs (N : Int)) a)) = 0) (by kernel_rfl) (fun c13 => ?_) (fun c13 => ?_))
        · have hb : ¬ bnot p (tset n xs (vrow n vs (N : Int)) a) = 0 := by assumption
          exact R.go 4 (R.retE (.bool false) (by kernel_rfl) (by kernel_rfl) (by first | (apply congrArg AV.bool; first | (rw [fst_some (N := N) (show ∀ M, M < N → badC gl n xs vs l a M = false by assumption) (by rw [badC_ok (p := p) hR hok (by omega) hpe hng]; simpa using hb) (by omega)]; rfl) | (rw [fst_none (fun M hM => (show ∀ M, M < N → badC gl n xs vs l a M = false by assumption) M (by omega))]; rfl)) | (exfalso; omega)))
        · refine R.go 4 (R.ar ((N : Int) + 1) (by kernel_rfl) (by omega) (by omega) (by kernel_rfl) ?_)
          exact R.go 2 (R.stop R1 (by kernel_rfl) (N2 (N + 1) [1, 2, 3, 4, 9, 10, 11] (some [0]) _ (by kernel_rfl) (by kernel_rfl) ⟨(by omega), (by exact below_succ (by assumption) (by first | exact badC_go hpe rfl (by assumption) (by assumption) | (rw [badC_ok (p := p) hR hok (by omega) hpe hng]; simpa using (by assumption : bnot p (tset n xs (vrow n vs (N : Int)) a) = 0))))⟩ (by show ((totN n vs) - (N + 1)) < ((totN n vs) - N); omega)))
  · exact R.go 5 (R.retE (.bool true) (by kernel_rfl) (by kernel_rfl) (by first | (apply congrArg AV.bool; first | (rw [fst_some (N := N) (show ∀ M, M < N → badC gl n xs vs l a M = false by assumption) (by rw [badC_ok (p := p) hR hok (by omega) hpe hng]; simpa using hb) (by omega)]; rfl) | (rw [fst_none (fun M hM => (show ∀ M, M < N → badC gl n xs vs l a M = false by assumption) M (by omega))]; rfl)) | (exfalso; omega)))

theorem csB_bad {gl : Bool} {n : Int} {xs : List Int} {l : List (List (Int × Int))} {a : List (Int × Int)} (h : ¬ scode n xs (l ++ [a]) = 0) : false = csB gl n xs l a := by rw [csB, decide_eq_false h]; rfl
theorem csL_go {n : Int} {xs vs Y : List Int} {l : List (List (Int × Int))} {a : List (Int × Int)} {N : Nat} {p : Int} (hp : p = pmT n xs Y l l.length) (hX : Y = vrow n vs (N : Int)) : badC false n xs vs l a N = !decide (bnot p (gv (mT n) (mU n (bxB xs)) Y a) = 0) := by
  rw [hX] at hp ⊢
  rw [badC, if_neg (by decide), badL, ← hp]
  rfl
theorem csG_go {n : Int} {xs vs Y : List Int} {l : List (List (Int × Int))} {a : List (Int × Int)} {N : Nat} {p : Int} (hp : p = pmT n xs Y l l.length) (hX : Y = vrow n vs (N : Int)) : badC true n xs vs l a N = !((!decide (p = (shl64 1 n) - 1)) || decide (gv (mT n) (mU n (bxB xs)) Y a = (shl64 1 n) - 1)) := by
  rw [hX] at hp ⊢
  rw [badC, if_pos rfl, badG, ← hp, Bool.not_or, Bool.not_not]
  rfl

theorem GC1_c (p : Int) (t : Int) (n : Int) (xs : List Int) (h0 : 0 ≤ n) (h1 : n ≤ 62) : CallA Try.prog 93 [AI p, AI t, .rptr [AI n, LI xs]] (.bool ((!decide (p = (shl64 1 n) - 1)) || decide (t = (shl64 1 n) - 1))) := by
  refine CallA.of Try.func93 rfl (by kernel_rfl) ?_
  refine R.go 8 (R.call true (frameAll_c n xs h0 h1) (by kernel_rfl) rfl (by kernel_rfl) ?_)
  refine R.go 2 ?_
  by_cases c1 : p = ((shl64 1 n) - 1)
  · refine R.want (!decide (p = ((shl64 1 n) - 1))) false (by kernel_rfl) (nF c1) ?_
    refine R.go 1 (R.want (!decide (p = ((shl64 1 n) - 1))) false (by kernel_rfl) (nF c1) ?_)
    refine R.go 1 (R.want (!decide (p = ((shl64 1 n) - 1))) false (by kernel_rfl) (nF c1) ?_)
    refine R.call true (frameAll_c n xs h0 h1) (by kernel_rfl) rfl (by kernel_rfl) ?_
    refine R.want (!decide (p = ((shl64 1 n) - 1))) false (by kernel_rfl) (nF c1) ?_
    refine R.go 1 (R.pick (!decide (p = ((shl64 1 n) - 1))) false (by kernel_rfl) (nF c1) (by kernel_rfl) ?_)
    exact R.go 2 (R.retE (.bool (decide (t = ((shl64 1 n) - 1)))) (by kernel_rfl) (by kernel_rfl) (by first | (apply congrArg AV.bool; simp [*]) | (exfalso; omega)))
  · refine R.skp (!decide (p = ((shl64 1 n) - 1))) false (by kernel_rfl) (nT c1) (by kernel_rfl) ?_
    refine R.skp (!decide (p = ((shl64 1 n) - 1))) false (by kernel_rfl) (nT c1) (by kernel_rfl) ?_
    refine R.skp (!decide (p = ((shl64 1 n) - 1))) false (by kernel_rfl) (nT c1) (by kernel_rfl) ?_
    refine R.skp (!decide (p = ((shl64 1 n) - 1))) false (by kernel_rfl) (nT c1) (by kernel_rfl) ?_
    refine R.pick (!decide (p = ((shl64 1 n) - 1))) true (by kernel_rfl) (nT c1) (by kernel_rfl) ?_
    exact R.go 2 (R.retE (.bool true) (by kernel_rfl) (by kernel_rfl) (by first | (apply congrArg AV.bool; simp [*]) | (exfalso; omega)))

theorem clipLL_c (l : List (List (Int × Int))) : CallA Try.prog 127 [LLN l] (.clp 1 l.length (rows eLN l)) := by
  refine CallA.of Try.func127 rfl (by kernel_rfl) ?_
  refine R.go 11 (R.clip 1 l.length (rows eLN l) (by kernel_rfl) (by kernel_rfl) ?_)
  exact R.go 2 (R.retE (.clp 1 l.length (rows eLN l)) (by kernel_rfl) (by kernel_rfl) (by rfl))

theorem consL_c (n : Int) (xs : List Int) (l : List (List (Int × Int))) (a : List (Int × Int)) (lx : xs.length ≤ 1048576) (hlim : lim l) (hl : a.length ≤ 1048576) : CallA Try.prog 92 [.agg [AI n, LI xs], LLN l, LN a, .fn 94 []] (.tup [.bool (csB false n xs l a), AI (scode n xs (l ++ [a]))]) := by
  have hs : shortL (l ++ [a]) := shortL_app hlim hl
  have hll0 := hlim.1
  refine CallA.of Try.func92 rfl (by kernel_rfl) ?_
  refine R.go 12 (R.call true (clipLL_c l) (by kernel_rfl) rfl (by kernel_rfl) ?_)
  refine R.go 2 (R.appC eLN l [a] 33 1 24 (by kernel_rfl) eLN_one (by decide) (by first | omega | (simp <;> omega)) (by simp) (by kernel_rfl) ?_)
  refine R.go 7 (R.call false (searchCode_c n xs (l ++ [a]) (by first | omega | (simp <;> omega)) hs) (by kernel_rfl) rfl (by kernel_rfl) ?_)
  refine R.go 4 (R.frz 7 (by kernel_rfl) ?_)
  refine R.go 3 (R.condN ((scode n xs (l ++ [a])) = 0) (by kernel_rfl) (fun c1 => ?_) (fun c1 => ?_))
  · exact R.go 6 (R.retE (.tup [.bool false, AI (scode n xs (l ++ [a]))]) (by kernel_rfl) (by kernel_rfl) (by first | (refine tupB ?_ ?_ <;> first | exact csB_bad (by assumption) | rfl | exact hm.symm | (rw [csB, decide_eq_true hm, ← hvs, fst_some (N := N) (show ∀ M, M < N → badC false n xs vs l a M = false by assumption) (by rw [csL_go (p := p) hpe hX]; simpa using hb) (by omega)]; rfl) | (rw [csB, decide_eq_true hm, ← hvs, fst_none (fun M hM => (show ∀ M, M < N → badC false n xs vs l a M = false by assumption) M (by omega))]; rfl)) | (exfalso; omega)))
  · have hm : scode n xs (l ++ [a]) = 0 := by assumption
    have hsc := scode_ok hm
    have hF : allF (l ++ [a]) = true := hsc.2.1
    have hR : okFr n xs = true := hsc.1
    have hfit0 : n * ((mem (vmT (l ++ [a]) (l ++ [a]).length)).length : Int) ≤ 16 := hsc.2.2
    obtain ⟨vs, hvs⟩ : ∃ vs, vs = mem (vmT (l ++ [a]) (l ++ [a]).length) := ⟨_, rfl⟩
    have hfit : n * (vs.length : Int) ≤ 16 := by rw [hvs]; exact hfit0
    have hll := hlim.1
    have hVS : VS vs := by rw [hvs]; exact VS_vmT hF
    have hRR := okFr_rel hR
    have hb0 : 0 ≤ n ∧ n ≤ 8 ∧ (xs.length : Int) = n := ⟨hRR.1, hRR.2.1, hRR.2.2.1⟩
    have hnc : 0 ≤ n * (vs.length : Int) := Int.mul_nonneg hb0.1 (by omega)
    have htot : shl64 1 (n * (vs.length : Int)) = (totN n vs : Int) := by have := shl_rng (n * (vs.length : Int)) hnc (by omega); unfold totN; omega
    have htr := shl_rng (n * (vs.length : Int)) hnc (by omega)
    have hvl : vs.length ≤ 62 := by rw [hvs]; exact mem_le _
    have hpr := allF_app hF
    have hA := isF_okm hpr.2
    have hok : OKM 6 a := hA.1
    have hal : a.length ≤ 40 := hA.2
    have htb := totN_le ⟨hnc, hfit⟩
    refine R.go 6 (R.call true (variablesInG_c (l ++ [a]) vs (by assumption) hF (by first | omega | (simp <;> omega))).frz (by kernel_rfl) rfl (by kernel_rfl) ?_)
    refine R.call true (valuations_c n xs vs) (by kernel_rfl) rfl (by kernel_rfl) ?_
    refine R.go 2 (R.range (caps := [.rptr [LI vs], .rptr [AI n, LI xs]]) Try.func125 rfl (by kernel_rfl) (by kernel_rfl) ?_)
    intro D2 us3
    refine R.go 8 (R.call true (size_c vs) (by kernel_rfl) rfl (by kernel_rfl) ?_)
    refine R.go 7 (R.ar (n * (vs.length : Int)) (by kernel_rfl) (by omega) (by omega) (by kernel_rfl) ?_)
    refine R.shl 1 (n * (vs.length : Int)) (by kernel_rfl) (by omega) (by kernel_rfl) ?_
    refine R.go 3 (R.loop ((fun | (N, X) => (⟨(frm 48 [(0, .ref 9), (1, .rptr [LI vs]), (2, .rptr [AI n, LI xs]), (4, .ref 10), (5, AI vs.length), (16, AI (shl64 1 (n * (vs.length : Int)))), (17, AI (N : Int))]), [.box 46 [AI n, LI xs], .box 66 [LLN l], .box 33 [LN a], .box 97 [.fn 94 []], .box 4 [.bool false], .box 2 [AI 0], rowA eLN 33 1 [a], .dead, .frame us3 (frm 55 [(0, .agg [AI n, LI xs]), (1, LLN l), (2, LN a), (3, .fn 94 []), (4, .ptr 0 0), (5, .ptr 1 0), (6, .ptr 2 0), (7, .ptr 3 0), (8, .ptr 4 0), (9, .ptr 5 0), (10, LLN (l ++ [a])), (11, AI (scode n xs (l ++ [a]))), (16, LLN l), (17, .clp 1 l.length (rows eLN l)), (18, LN a), (19, .ref 6), (20, LLN (l ++ [a])), (21, .agg [AI n, LI xs]), (22, LLN (l ++ [a])), (23, AI (scode n xs (l ++ [a]))), (24, AI (scode n xs (l ++ [a]))), (25, .bool (!decide ((scode n xs (l ++ [a])) = 0))), (27, .agg [AI n, LI xs]), (28, LLN (l ++ [a])), (29, LI vs), (30, .fn 125 [.rptr [LI vs], .rptr [AI n, LI xs]])]), loopObj Try.f92 D2 us3 .ready, rowA eI 2 1 X]⟩ : St) : Nat × (List Int) → St)) (fun | (N, X) => ((N : Int) ≤ shl64 1 (n * (vs.length : Int))) ∧ (X.length = 6) ∧ (∀ j : Nat, j < 6 → ¬ (j : Int) ∈ vs → X.getD j 0 = 0) ∧ (∀ M, M < N → badC false n xs vs l a M = false)) (fun | (N, X) => (totN n vs) - N) (0, (List.replicate 6 0)) [0, 1, 2, 4, 5, 16, 17] none (by kernel_rfl) (by kernel_rfl) (by kernel_rfl) ⟨(by omega), (by simp), (by exact zero_out vs), (by exact fun M hM => absurd hM (by omega))⟩ ?_)
    rintro ⟨N, X⟩ ⟨h7_1, h7_2, h7_3, h7_4⟩ R4 N5
    have hfull := shl_rng n hb0.1 (by omega)
    refine R.go 5 (R.cond ((N : Int) < (shl64 1 (n * (vs.length : Int)))) (by kernel_rfl) (fun c8 => ?_) (fun c8 => ?_))
    · refine R.go 16 (R.loop ((fun | (k, Y) => (⟨(frm 48 [(0, .ref 9), (1, .rptr [LI vs]), (2, .rptr [AI n, LI xs]), (4, .ref 10), (5, AI vs.length), (6, AI (N : Int)), (16, AI (shl64 1 (n * (vs.length : Int)))), (17, AI (N : Int)), (20, LI vs), (21, AI vs.length), (22, AI (k : Int))]), [.box 46 [AI n, LI xs], .box 66 [LLN l], .box 33 [LN a], .box 97 [.fn 94 []], .box 4 [.bool false], .box 2 [AI 0], rowA eLN 33 1 [a], .dead, .frame us3 (frm 55 [(0, .agg [AI n, LI xs]), (1, LLN l), (2, LN a), (3, .fn 94 []), (4, .ptr 0 0), (5, .ptr 1 0), (6, .ptr 2 0), (7, .ptr 3 0), (8, .ptr 4 0), (9, .ptr 5 0), (10, LLN (l ++ [a])), (11, AI (scode n xs (l ++ [a]))), (16, LLN l), (17, .clp 1 l.length (rows eLN l)), (18, LN a), (19, .ref 6), (20, LLN (l ++ [a])), (21, .agg [AI n, LI xs]), (22, LLN (l ++ [a])), (23, AI (scode n xs (l ++ [a]))), (24, AI (scode n xs (l ++ [a]))), (25, .bool (!decide ((scode n xs (l ++ [a])) = 0))), (27, .agg [AI n, LI xs]), (28, LLN (l ++ [a])), (29, LI vs), (30, .fn 125 [.rptr [LI vs], .rptr [AI n, LI xs]])]), loopObj Try.f92 D2 us3 .ready, rowA eI 2 1 Y]⟩ : St) : Nat × (List Int) → St)) (fun | (k, Y) => (k ≤ vs.length) ∧ (PV n vs (N : Int) k Y)) (fun | (k, Y) => vs.length - k) (0, X) [0, 1, 2, 4, 5, 6, 16, 17, 20, 21, 22] none (by kernel_rfl) (by kernel_rfl) (by kernel_rfl) ⟨(by omega), (by exact pv_start (by assumption) (by assumption))⟩ ?_)
      rintro ⟨k, Y⟩ ⟨h12_1, h12_2⟩ R9 N10
      have hY : PV n vs (N : Int) k Y := by assumption
      have hYl : Y.length = 6 := hY.1
      have hg := fun h : k < vs.length => vs_get hVS h
      have hnk : k < vs.length → 0 ≤ n * ((vs.length : Int) - 1 - (k : Int)) ∧ n * ((vs.length : Int) - 1 - (k : Int)) ≤ n * (vs.length : Int) := fun h => ⟨Int.mul_nonneg hb0.1 (by omega), Int.mul_le_mul_of_nonneg_left (by omega) hb0.1⟩
      skip
      refine R.go 5 (R.cond ((k : Int) < (vs.length : Int)) (by kernel_rfl) (fun c13 => ?_) (fun c13 => ?_))
      · have hg2 := hg (by omega)
        have hnk2 := hnk (by omega)
        refine R.go 6 (R.idx eI vs 0 k (k : Int) (by kernel_rfl) rfl eI_len (by omega) (by kernel_rfl) ?_)
        refine R.go 11 (R.ar ((vs.length : Int) - 1) (by kernel_rfl) (by omega) (by omega) (by kernel_rfl) ?_)
        refine R.go 1 (R.ar (((vs.length : Int) - 1) - (k : Int)) (by kernel_rfl) (by omega) (by omega) (by kernel_rfl) ?_)
        refine R.ar (n * (((vs.length : Int) - 1) - (k : Int))) (by kernel_rfl) (by omega) (by omega) (by kernel_rfl) ?_
        refine R.shr (N : Int) (n * (((vs.length : Int) - 1) - (k : Int))) (by kernel_rfl) (by omega) (by kernel_rfl) ?_
        refine R.go 1 (R.call true (frameAll_c n xs (by omega) (by omega)) (by kernel_rfl) rfl (by kernel_rfl) ?_)
        refine R.go 1 (R.idxO 10 1 Y.length (((vs.getD k 0)).toNat) (vs.getD k 0) (by kernel_rfl) (by omega) (by omega) (by kernel_rfl) ?_)
        refine R.stI 10 2 Y (((vs.getD k 0)).toNat) (band (shr64 (N : Int) (n * (((vs.length : Int) - 1) - (k : Int)))) ((shl64 1 n) - 1)) (by kernel_rfl) (by omega) (by kernel_rfl) ?_
        refine R.go 3 (R.ar ((k : Int) + 1) (by kernel_rfl) (by omega) (by omega) (by kernel_rfl) ?_)
        exact R.go 2 (R.stop R9 (by kernel_rfl) (N10 (k + 1, Y.set (((vs.getD k 0)).toNat) (band (shr64 (N : Int) (n * (((vs.length : Int) - 1) - (k : Int)))) ((shl64 1 n) - 1))) [0, 1, 2, 4, 5, 6, 16, 17, 20, 21, 22] none _ (by kernel_rfl) (by kernel_rfl) ⟨(by omega), (by exact pv_step hY hVS (by omega) rfl)⟩ (by show (vs.length - (k + 1)) < (vs.length - k); omega)))
      · have hX : Y = vrow n vs (N : Int) := pv_end hY (by omega)
        have hYo : OKM Y.length a := by rw [hYl]; exact hok
        refine R.go 5 (R.yield 9 D2 us3 (by kernel_rfl) (by kernel_rfl) ?_)
        intro l14 us15
        refine R.go 3 (R.begin (by kernel_rfl) (by kernel_rfl) ?_)
        have hfull2 := shl_rng n hb0.1 (by omega)
        refine R.go 4 (R.call true (frameAll_c n xs (by omega) (by omega)) (by kernel_rfl) rfl (by kernel_rfl) ?_)
        refine R.go 10 (R.loop ((fun | (i, p) => (⟨(frm 55 [(4, .ptr 0 0), (6, .ptr 2 0), (7, .ptr 3 0), (8, .ptr 4 0), (9, .ptr 5 0), (12, .ref 10), (13, AI p), (34, LLN l), (35, AI l.length), (36, AI (i : Int))]), [.box 46 [AI n, LI xs], .box 66 [LLN l], .box 33 [LN a], .box 97 [.fn 94 []], .box 4 [.bool false], .box 2 [AI 0], rowA eLN 33 1 [a], .dead, .frame us3 (frm 55 [(0, .agg [AI n, LI xs]), (1, LLN l), (2, LN a), (3, .fn 94 []), (4, .ptr 0 0), (5, .ptr 1 0), (6, .ptr 2 0), (7, .ptr 3 0), (8, .ptr 4 0), (9, .ptr 5 0), (10, LLN (l ++ [a])), (11, AI (scode n xs (l ++ [a]))), (16, LLN l), (17, .clp 1 l.length (rows eLN l)), (18, LN a), (19, .ref 6), (20, LLN (l ++ [a])), (21, .agg [AI n, LI xs]), (22, LLN (l ++ [a])), (23, AI (scode n xs (l ++ [a]))), (24, AI (scode n xs (l ++ [a]))), (25, .bool (!decide ((scode n xs (l ++ [a])) = 0))), (27, .agg [AI n, LI xs]), (28, LLN (l ++ [a])), (29, LI vs), (30, .fn 125 [.rptr [LI vs], .rptr [AI n, LI xs]])]), loopObj Try.f92 D2 us3 .busy, rowA eI 2 1 Y, .frame us15 (frm 48 [(0, .ref 9), (1, .rptr [LI vs]), (2, .rptr [AI n, LI xs]), (4, .ref 10), (5, AI vs.length), (6, AI (N : Int)), (16, AI (shl64 1 (n * (vs.length : Int)))), (17, AI (N : Int)), (20, LI vs), (21, AI vs.length), (22, AI (k : Int)), (23, .bool (decide ((k : Int) < (vs.length : Int)))), (43, .ref 9), (44, .ref 10)])]⟩ : St) : Nat × Int → St)) (fun | (i, p) => (i ≤ l.length) ∧ (p = pmT n xs Y l i)) (fun | (i, p) => l.length - i) (0, ((shl64 1 n) - 1)) [4, 6, 7, 8, 9, 12, 13, 34, 35, 36] none (by kernel_rfl) (by kernel_rfl) (by kernel_rfl) ⟨(by omega), (by rfl)⟩ ?_)
        rintro ⟨i, p⟩ ⟨h19_1, h19_2⟩ R16 N17
        refine R.go 5 (R.cond ((i : Int) < (l.length : Int)) (by kernel_rfl) (fun c20 => ?_) (fun c20 => ?_))
        · refine R.go 5 (R.idx eLN l [] i (i : Int) (by kernel_rfl) rfl eLN_len (by omega) (by kernel_rfl) ?_)
          have hq := isF_okm (hpr.1 i (by omega))
          have hqo : OKM Y.length (l.getD i []) := by rw [hYl]; exact hq.1
          have hql : (l.getD i []).length ≤ 40 := hq.2
          refine R.go 8 (R.call false (truthSet_c n xs Y (l.getD i []) hqo (by omega) (by omega) (by first | omega | (simp <;> omega)) (by first | omega | (simp <;> omega))) (by kernel_rfl) rfl (by kernel_rfl) ?_)
          refine R.go 5 (R.ar ((i : Int) + 1) (by kernel_rfl) (by omega) (by omega) (by kernel_rfl) ?_)
          exact R.go 2 (R.stop R16 (by kernel_rfl) (N17 (i + 1, band p (gv (mT n) (mU n (bxB xs)) Y (l.getD i []))) [4, 6, 7, 8, 9, 12, 13, 34, 35, 36] none _ (by kernel_rfl) (by kernel_rfl) ⟨(by omega), (by rw [pmT, ← ‹p = pmT n xs Y l i›]; rfl)⟩ (by show (l.length - (i + 1)) < (l.length - i); omega)))
        · have hpe : p = pmT n xs Y l l.length := by rw [show l.length = i by omega]; assumption
          refine R.go 8 (R.call false (truthSet_c n xs Y a hYo (by omega) (by omega) (by first | omega | (simp <;> omega)) (by first | omega | (simp <;> omega))) (by kernel_rfl) rfl (by kernel_rfl) ?_)
          refine R.call true (within_c p (gv (mT n) (mU n (bxB xs)) Y a)) (by kernel_rfl) rfl (by kernel_rfl) ?_
          refine R.go 2 (R.condN (bnot p (gv (mT n) (mU n (bxB xs)) Y a) = 0) (by kernel_rfl) (fun c21 => ?_) (fun c21 => ?_))
          · have hb : ¬ bnot p (gv (mT n) (mU n (bxB xs)) Y a) = 0 := by assumption
            refine R.go 5 (R.roundR (frm 48 [(0, .ref 9), (1, .rptr [LI vs]), (2, .rptr [AI n, LI xs]), (4, .ref 10), (5, AI vs.length), (6, AI (N : Int)), (16, AI (shl64 1 (n * (vs.length : Int)))), (17, AI (N : Int)), (20, LI vs), (21, AI vs.length), (22, AI (k : Int)), (23, .bool (decide ((k : Int) < (vs.length : Int)))), (43, .ref 9), (44, .ref 10)]) (by kernel_rfl) (by kernel_rfl) (by kernel_rfl) ?_)
            refine R.go 3 (R.left (.ret) (.tup []) (frm 55 [(0, .agg [AI n, LI xs]), (1, LLN l), (2, LN a), (3, .fn 94 []), (4, .ptr 0 0), (5, .ptr 1 0), (6, .ptr 2 0), (7, .ptr 3 0), (8, .ptr 4 0), (9, .ptr 5 0), (10, LLN (l ++ [a])), (11, AI (scode n xs (l ++ [a]))), (16, LLN l), (17, .clp 1 l.length (rows eLN l)), (18, LN a), (19, .ref 6), (20, LLN (l ++ [a])), (21, .agg [AI n, LI xs]), (22, LLN (l ++ [a])), (23, AI (scode n xs (l ++ [a]))), (24, AI (scode n xs (l ++ [a]))), (25, .bool (!decide ((scode n xs (l ++ [a])) = 0))), (27, .agg [AI n, LI xs]), (28, LLN (l ++ [a])), (29, LI vs), (30, .fn 125 [.rptr [LI vs], .rptr [AI n, LI xs]])]) (by kernel_rfl) (by kernel_rfl) (by kernel_rfl) (by kernel_rfl) ?_)
            exact R.retE (.tup [.bool false, AI 0]) (by kernel_rfl) (by kernel_rfl) (by first | (refine tupB ?_ ?_ <;> first | exact csB_bad (by assumption) | rfl | exact hm.symm | (rw [csB, decide_eq_true hm, ← hvs, fst_some (N := N) (show ∀ M, M < N → badC false n xs vs l a M = false by assumption) (by rw [csL_go (p := p) hpe hX]; simpa using hb) (by omega)]; rfl) | (rw [csB, decide_eq_true hm, ← hvs, fst_none (fun M hM => (show ∀ M, M < N → badC false n xs vs l a M = false by assumption) M (by omega))]; rfl)) | (exfalso; omega))
          · refine R.go 2 (R.round (frm 48 [(0, .ref 9), (1, .rptr [LI vs]), (2, .rptr [AI n, LI xs]), (4, .ref 10), (5, AI vs.length), (6, AI (N : Int)), (16, AI (shl64 1 (n * (vs.length : Int)))), (17, AI (N : Int)), (20, LI vs), (21, AI vs.length), (22, AI (k : Int)), (23, .bool (decide ((k : Int) < (vs.length : Int)))), (43, .ref 9), (44, .ref 10)]) (by kernel_rfl) (by kernel_rfl) (by kernel_rfl) ?_)
            refine R.go 6 (R.ar ((N : Int) + 1) (by kernel_rfl) (by omega) (by omega) (by kernel_rfl) ?_)
            exact R.go 2 (R.stop R4 (by kernel_rfl) (N5 (N + 1, Y) [0, 1, 2, 4, 5, 16, 17] (some [0, 1, 2, 3, 4, 5, 6, 7, 8, 9, 10]) _ (by kernel_rfl) (by kernel_rfl) ⟨(by omega), (by rw [hX]; exact vrow_len _ _ _), (by rw [hX]; exact vrow_out), (by exact below_succ (by assumption) (by rw [csL_go (p := p) hpe hX]; simpa using (by assumption : bnot p (gv (mT n) (mU n (bxB xs)) Y a) = 0)))⟩ (by show ((totN n vs) - (N + 1)) < ((totN n vs) - N); omega)))
    · refine R.go 1 (R.over (.tup []) (frm 55 [(0, .agg [AI n, LI xs]), (1, LLN l), (2, LN a), (3, .fn 94 []), (4, .ptr 0 0), (5, .ptr 1 0), (6, .ptr 2 0), (7, .ptr 3 0), (8, .ptr 4 0), (9, .ptr 5 0), (10, LLN (l ++ [a])), (11, AI (scode n xs (l ++ [a]))), (16, LLN l), (17, .clp 1 l.length (rows eLN l)), (18, LN a), (19, .ref 6), (20, LLN (l ++ [a])), (21, .agg [AI n, LI xs]), (22, LLN (l ++ [a])), (23, AI (scode n xs (l ++ [a]))), (24, AI (scode n xs (l ++ [a]))), (25, .bool (!decide ((scode n xs (l ++ [a])) = 0))), (27, .agg [AI n, LI xs]), (28, LLN (l ++ [a])), (29, LI vs), (30, .fn 125 [.rptr [LI vs], .rptr [AI n, LI xs]])]) (by kernel_rfl) (by kernel_rfl) (by kernel_rfl) (by kernel_rfl) ?_)
      exact R.go 6 (R.retE (.tup [.bool true, AI 0]) (by kernel_rfl) (by kernel_rfl) (by first | (refine tupB ?_ ?_ <;> first | exact csB_bad (by assumption) | rfl | exact hm.symm | (rw [csB, decide_eq_true hm, ← hvs, fst_some (N := N) (show ∀ M, M < N → badC false n xs vs l a M = false by assumption) (by rw [csL_go (p := p) hpe hX]; simpa using hb) (by omega)]; rfl) | (rw [csB, decide_eq_true hm, ← hvs, fst_none (fun M hM => (show ∀ M, M < N → badC false n xs vs l a M = false by assumption) M (by omega))]; rfl)) | (exfalso; omega)))

theorem consG_c (n : Int) (xs : List Int) (l : List (List (Int × Int))) (a : List (Int × Int)) (lx : xs.length ≤ 1048576) (hlim : lim l) (hl : a.length ≤ 1048576) : CallA Try.prog 92 [.agg [AI n, LI xs], LLN l, LN a, .fn 93 [.rptr [AI n, LI xs]]] (.tup [.bool (csB true n xs l a), AI (scode n xs (l ++ [a]))]) := by
  have hs : shortL (l ++ [a]) := shortL_app hlim hl
  have hll0 := hlim.1
  refine CallA.of Try.func92 rfl (by kernel_rfl) ?_
  refine R.go 12 (R.call true (clipLL_c l) (by kernel_rfl) rfl (by kernel_rfl) ?_)
  refine R.go 2 (R.appC eLN l [a] 33 1 24 (by kernel_rfl) eLN_one (by decide) (by first | omega | (simp <;> omega)) (by simp) (by kernel_rfl) ?_)
  refine R.go 7 (R.call false (searchCode_c n xs (l ++ [a]) (by first | omega | (simp <;> omega)) hs) (by kernel_rfl) rfl (by kernel_rfl) ?_)
  refine R.go 4 (R.frz 7 (by kernel_rfl) ?_)
  refine R.go 3 (R.condN ((scode n xs (l ++ [a])) = 0) (by kernel_rfl) (fun c1 => ?_) (fun c1 => ?_))
  · exact R.go 6 (R.retE (.tup [.bool false, AI (scode n xs (l ++ [a]))]) (by kernel_rfl) (by kernel_rfl) (by first | (refine tupB ?_ ?_ <;> first | exact csB_bad (by assumption) | rfl | exact hm.symm | (rw [csB, decide_eq_true hm, ← hvs, fst_some (N := N) (show ∀ M, M < N → badC true n xs vs l a M = false by assumption) (by rw [csG_go (p := p) hpe hX]; simpa using hb) (by omega)]; rfl) | (rw [csB, decide_eq_true hm, ← hvs, fst_none (fun M hM => (show ∀ M, M < N → badC true n xs vs l a M = false by assumption) M (by omega))]; rfl)) | (exfalso; omega)))
  · have hm : scode n xs (l ++ [a]) = 0 := by assumption
    have hsc := scode_ok hm
    have hF : allF (l ++ [a]) = true := hsc.2.1
    have hR : okFr n xs = true := hsc.1
    have hfit0 : n * ((mem (vmT (l ++ [a]) (l ++ [a]).length)).length : Int) ≤ 16 := hsc.2.2
    obtain ⟨vs, hvs⟩ : ∃ vs, vs = mem (vmT (l ++ [a]) (l ++ [a]).length) := ⟨_, rfl⟩
    have hfit : n * (vs.length : Int) ≤ 16 := by rw [hvs]; exact hfit0
    have hll := hlim.1
    have hVS : VS vs := by rw [hvs]; exact VS_vmT hF
    have hRR := okFr_rel hR
    have hb0 : 0 ≤ n ∧ n ≤ 8 ∧ (xs.length : Int) = n := ⟨hRR.1, hRR.2.1, hRR.2.2.1⟩
    have hnc : 0 ≤ n * (vs.length : Int) := Int.mul_nonneg hb0.1 (by omega)
    have htot : shl64 1 (n * (vs.length : Int)) = (totN n vs : Int) := by have := shl_rng (n * (vs.length : Int)) hnc (by omega); unfold totN; omega
    have htr := shl_rng (n * (vs.length : Int)) hnc (by omega)
    have hvl : vs.length ≤ 62 := by rw [hvs]; exact mem_le _
    have hpr := allF_app hF
    have hA := isF_okm hpr.2
    have hok : OKM 6 a := hA.1
    have hal : a.length ≤ 40 := hA.2
    have htb := totN_le ⟨hnc, hfit⟩
    refine R.go 6 (R.call true (variablesInG_c (l ++ [a]) vs (by assumption) hF (by first | omega | (simp <;> omega))).frz (by kernel_rfl) rfl (by kernel_rfl) ?_)
    refine R.call true (valuations_c n xs vs) (by kernel_rfl) rfl (by kernel_rfl) ?_
    refine R.go 2 (R.range (caps := [.rptr [LI vs], .rptr [AI n, LI xs]]) Try.func125 rfl (by kernel_rfl) (by kernel_rfl) ?_)
    intro D2 us3
    refine R.go 8 (R.call true (size_c vs) (by kernel_rfl) rfl (by kernel_rfl) ?_)
    refine R.go 7 (R.ar (n * (vs.length : Int)) (by kernel_rfl) (by omega) (by omega) (by kernel_rfl) ?_)
    refine R.shl 1 (n * (vs.length : Int)) (by kernel_rfl) (by omega) (by kernel_rfl) ?_
    refine R.go 3 (R.loop ((fun | (N, X) => (⟨(frm 48 [(0, .ref 9), (1, .rptr [LI vs]), (2, .rptr [AI n, LI xs]), (4, .ref 10), (5, AI vs.length), (16, AI (shl64 1 (n * (vs.length : Int)))), (17, AI (N : Int))]), [.box 46 [AI n, LI xs], .box 66 [LLN l], .box 33 [LN a], .box 97 [.fn 93 [.rptr [AI n, LI xs]]], .box 4 [.bool false], .box 2 [AI 0], rowA eLN 33 1 [a], .dead, .frame us3 (frm 55 [(0, .agg [AI n, LI xs]), (1, LLN l), (2, LN a), (3, .fn 93 [.rptr [AI n, LI xs]]), (4, .ptr 0 0), (5, .ptr 1 0), (6, .ptr 2 0), (7, .ptr 3 0), (8, .ptr 4 0), (9, .ptr 5 0), (10, LLN (l ++ [a])), (11, AI (scode n xs (l ++ [a]))), (16, LLN l), (17, .clp 1 l.length (rows eLN l)), (18, LN a), (19, .ref 6), (20, LLN (l ++ [a])), (21, .agg [AI n, LI xs]), (22, LLN (l ++ [a])), (23, AI (scode n xs (l ++ [a]))), (24, AI (scode n xs (l ++ [a]))), (25, .bool (!decide ((scode n xs (l ++ [a])) = 0))), (27, .agg [AI n, LI xs]), (28, LLN (l ++ [a])), (29, LI vs), (30, .fn 125 [.rptr [LI vs], .rptr [AI n, LI xs]])]), loopObj Try.f92 D2 us3 .ready, rowA eI 2 1 X]⟩ : St) : Nat × (List Int) → St)) (fun | (N, X) => ((N : Int) ≤ shl64 1 (n * (vs.length : Int))) ∧ (X.length = 6) ∧ (∀ j : Nat, j < 6 → ¬ (j : Int) ∈ vs → X.getD j 0 = 0) ∧ (∀ M, M < N → badC true n xs vs l a M = false)) (fun | (N, X) => (totN n vs) - N) (0, (List.replicate 6 0)) [0, 1, 2, 4, 5, 16, 17] none (by kernel_rfl) (by kernel_rfl) (by kernel_rfl) ⟨(by omega), (by simp), (by exact zero_out vs), (by exact fun M hM => absurd hM (by omega))⟩ ?_)
    rintro ⟨N, X⟩ ⟨h7_1, h7_2, h7_3, h7_4⟩ R4 N5
    have hfull := shl_rng n hb0.1 (by omega)
    refine R.go 5 (R.cond ((N : Int) < (shl64 1 (n * (vs.length : Int)))) (by kernel_rfl) (fun c8 => ?_) (fun c8 => ?_))
    · refine R.go 16 (R.loop ((fun | (k, Y) => (⟨(frm 48 [(0, .ref 9), (1, .rptr [LI vs]), (2, .rptr [AI n, LI xs]), (4, .ref 10), (5, AI vs.length), (6, AI (N : Int)), (16, AI (shl64 1 (n * (vs.length : Int)))), (17, AI (N : Int)), (20, LI vs), (21, AI vs.length), (22, AI (k : Int))]), [.box 46 [AI n, LI xs], .box 66 [LLN l], .box 33 [LN a], .box 97 [.fn 93 [.rptr [AI n, LI xs]]], .box 4 [.bool false], .box 2 [AI 0], rowA eLN 33 1 [a], .dead, .frame us3 (frm 55 [(0, .agg [AI n, LI xs]), (1, LLN l), (2, LN a), (3, .fn 93 [.rptr [AI n, LI xs]]), (4, .ptr 0 0), (5, .ptr 1 0), (6, .ptr 2 0), (7, .ptr 3 0), (8, .ptr 4 0), (9, .ptr 5 0), (10, LLN (l ++ [a])), (11, AI (scode n xs (l ++ [a]))), (16, LLN l), (17, .clp 1 l.length (rows eLN l)), (18, LN a), (19, .ref 6), (20, LLN (l ++ [a])), (21, .agg [AI n, LI xs]), (22, LLN (l ++ [a])), (23, AI (scode n xs (l ++ [a]))), (24, AI (scode n xs (l ++ [a]))), (25, .bool (!decide ((scode n xs (l ++ [a])) = 0))), (27, .agg [AI n, LI xs]), (28, LLN (l ++ [a])), (29, LI vs), (30, .fn 125 [.rptr [LI vs], .rptr [AI n, LI xs]])]), loopObj Try.f92 D2 us3 .ready, rowA eI 2 1 Y]⟩ : St) : Nat × (List Int) → St)) (fun | (k, Y) => (k ≤ vs.length) ∧ (PV n vs (N : Int) k Y)) (fun | (k, Y) => vs.length - k) (0, X) [0, 1, 2, 4, 5, 6, 16, 17, 20, 21, 22] none (by kernel_rfl) (by kernel_rfl) (by kernel_rfl) ⟨(by omega), (by exact pv_start (by assumption) (by assumption))⟩ ?_)
      rintro ⟨k, Y⟩ ⟨h12_1, h12_2⟩ R9 N10
      have hY : PV n vs (N : Int) k Y := by assumption
      have hYl : Y.length = 6 := hY.1
      have hg := fun h : k < vs.length => vs_get hVS h
      have hnk : k < vs.length → 0 ≤ n * ((vs.length : Int) - 1 - (k : Int)) ∧ n * ((vs.length : Int) - 1 - (k : Int)) ≤ n * (vs.length : Int) := fun h => ⟨Int.mul_nonneg hb0.1 (by omega), Int.mul_le_mul_of_nonneg_left (by omega) hb0.1⟩
      skip
      refine R.go 5 (R.cond ((k : Int) < (vs.length : Int)) (by kernel_rfl) (fun c13 => ?_) (fun c13 => ?_))
      · have hg2 := hg (by omega)
        have hnk2 := hnk (by omega)
        refine R.go 6 (R.idx eI vs 0 k (k : Int) (by kernel_rfl) rfl eI_len (by omega) (by kernel_rfl) ?_)
        refine R.go 11 (R.ar ((vs.length : Int) - 1) (by kernel_rfl) (by omega) (by omega) (by kernel_rfl) ?_)
        refine R.go 1 (R.ar (((vs.length : Int) - 1) - (k : Int)) (by kernel_rfl) (by omega) (by omega) (by kernel_rfl) ?_)
        refine R.ar (n * (((vs.length : Int) - 1) - (k : Int))) (by kernel_rfl) (by omega) (by omega) (by kernel_rfl) ?_
        refine R.shr (N : Int) (n * (((vs.length : Int) - 1) - (k : Int))) (by kernel_rfl) (by omega) (by kernel_rfl) ?_
        refine R.go 1 (R.call true (frameAll_c n xs (by omega) (by omega)) (by kernel_rfl) rfl (by kernel_rfl) ?_)
        refine R.go 1 (R.idxO 10 1 Y.length (((vs.getD k 0)).toNat) (vs.getD k 0) (by kernel_rfl) (by omega) (by omega) (by kernel_rfl) ?_)
        refine R.stI 10 2 Y (((vs.getD k 0)).toNat) (band (shr64 (N : Int) (n * (((vs.length : Int) - 1) - (k : Int)))) ((shl64 1 n) - 1)) (by kernel_rfl) (by omega) (by kernel_rfl) ?_
        refine R.go 3 (R.ar ((k : Int) + 1) (by kernel_rfl) (by omega) (by omega) (by kernel_rfl) ?_)
        exact R.go 2 (R.stop R9 (by kernel_rfl) (N10 (k + 1, Y.set (((vs.getD k 0)).toNat) (band (shr64 (N : Int) (n * (((vs.length : Int) - 1) - (k : Int)))) ((shl64 1 n) - 1))) [0, 1, 2, 4, 5, 6, 16, 17, 20, 21, 22] none _ (by kernel_rfl) (by kernel_rfl) ⟨(by omega), (by exact pv_step hY hVS (by omega) rfl)⟩ (by show (vs.length - (k + 1)) < (vs.length - k); omega)))
      · have hX : Y = vrow n vs (N : Int) := pv_end hY (by omega)
        have hYo : OKM Y.length a := by rw [hYl]; exact hok
        refine R.go 5 (R.yield 9 D2 us3 (by kernel_rfl) (by kernel_rfl) ?_)
        intro l14 us15
        refine R.go 3 (R.begin (by kernel_rfl) (by kernel_rfl) ?_)
        have hfull2 := shl_rng n hb0.1 (by omega)
        refine R.go 4 (R.call true (frameAll_c n xs (by omega) (by omega)) (by kernel_rfl) rfl (by kernel_rfl) ?_)
        refine R.go 10 (R.loop ((fun | (i, p) => (⟨(frm 55 [(4, .ptr 0 0), (6, .ptr 2 0), (7, .ptr 3 0), (8, .ptr 4 0), (9, .ptr 5 0), (12, .ref 10), (13, AI p), (34, LLN l), (35, AI l.length), (36, AI (i : Int))]), [.box 46 [AI n, LI xs], .box 66 [LLN l], .box 33 [LN a], .box 97 [.fn 93 [.rptr [AI n, LI xs]]], .box 4 [.bool false], .box 2 [AI 0], rowA eLN 33 1 [a], .dead, .frame us3 (frm 55 [(0, .agg [AI n, LI xs]), (1, LLN l), (2, LN a), (3, .fn 93 [.rptr [AI n, LI xs]]), (4, .ptr 0 0), (5, .ptr 1 0), (6, .ptr 2 0), (7, .ptr 3 0), (8, .ptr 4 0), (9, .ptr 5 0), (10, LLN (l ++ [a])), (11, AI (scode n xs (l ++ [a]))), (16, LLN l), (17, .clp 1 l.length (rows eLN l)), (18, LN a), (19, .ref 6), (20, LLN (l ++ [a])), (21, .agg [AI n, LI xs]), (22, LLN (l ++ [a])), (23, AI (scode n xs (l ++ [a]))), (24, AI (scode n xs (l ++ [a]))), (25, .bool (!decide ((scode n xs (l ++ [a])) = 0))), (27, .agg [AI n, LI xs]), (28, LLN (l ++ [a])), (29, LI vs), (30, .fn 125 [.rptr [LI vs], .rptr [AI n, LI xs]])]), loopObj Try.f92 D2 us3 .busy, rowA eI 2 1 Y, .frame us15 (frm 48 [(0, .ref 9), (1, .rptr [LI vs]), (2, .rptr [AI n, LI xs]), (4, .ref 10), (5, AI vs.length), (6, AI (N : Int)), (16, AI (shl64 1 (n * (vs.length : Int)))), (17, AI (N : Int)), (20, LI vs), (21, AI vs.length), (22, AI (k : Int)), (23, .bool (decide ((k : Int) < (vs.length : Int)))), (43, .ref 9), (44, .ref 10)])]⟩ : St) : Nat × Int → St)) (fun | (i, p) => (i ≤ l.length) ∧ (p = pmT n xs Y l i)) (fun | (i, p) => l.length - i) (0, ((shl64 1 n) - 1)) [4, 6, 7, 8, 9, 12, 13, 34, 35, 36] none (by kernel_rfl) (by kernel_rfl) (by kernel_rfl) ⟨(by omega), (by rfl)⟩ ?_)
        rintro ⟨i, p⟩ ⟨h19_1, h19_2⟩ R16 N17
        refine R.go 5 (R.cond ((i : Int) < (l.length : Int)) (by kernel_rfl) (fun c20 => ?_) (fun c20 => ?_))
        · refine R.go 5 (R.idx eLN l [] i (i : Int) (by kernel_rfl) rfl eLN_len (by omega) (by kernel_rfl) ?_)
          have hq := isF_okm (hpr.1 i (by omega))
          have hqo : OKM Y.length (l.getD i []) := by rw [hYl]; exact hq.1
          have hql : (l.getD i []).length ≤ 40 := hq.2
          refine R.go 8 (R.call false (truthSet_c n xs Y (l.getD i []) hqo (by omega) (by omega) (by first | omega | (simp <;> omega)) (by first | omega | (simp <;> omega))) (by kernel_rfl) rfl (by kernel_rfl) ?_)
          refine R.go 5 (R.ar ((i : Int) + 1) (by kernel_rfl) (by omega) (by omega) (by kernel_rfl) ?_)
          exact R.go 2 (R.stop R16 (by kernel_rfl) (N17 (i + 1, band p (gv (mT n) (mU n (bxB xs)) Y (l.getD i []))) [4, 6, 7, 8, 9, 12, 13, 34, 35, 36] none _ (by kernel_rfl) (by kernel_rfl) ⟨(by omega), (by rw [pmT, ← ‹p = pmT n xs Y l i›]; rfl)⟩ (by show (l.length - (i + 1)) < (l.length - i); omega)))
        · have hpe : p = pmT n xs Y l l.length := by rw [show l.length = i by omega]; assumption
          refine R.go 8 (R.call false (truthSet_c n xs Y a hYo (by omega) (by omega) (by first | omega | (simp <;> omega)) (by first | omega | (simp <;> omega))) (by kernel_rfl) rfl (by kernel_rfl) ?_)
          refine R.call true (GC1_c p (gv (mT n) (mU n (bxB xs)) Y a) n xs (by omega) (by omega)) (by kernel_rfl) rfl (by kernel_rfl) ?_
          refine R.go 2 (R.condM ((!decide (p = (shl64 1 n) - 1)) || decide ((gv (mT n) (mU n (bxB xs)) Y a) = (shl64 1 n) - 1)) (by kernel_rfl) (fun c21 => ?_) (fun c21 => ?_))
          · have hb : ((!decide (p = (shl64 1 n) - 1)) || decide (gv (mT n) (mU n (bxB xs)) Y a = (shl64 1 n) - 1)) = false := by assumption
            refine R.go 5 (R.roundR (frm 48 [(0, .ref 9), (1, .rptr [LI vs]), (2, .rptr [AI n, LI xs]), (4, .ref 10), (5, AI vs.length), (6, AI (N : Int)), (16, AI (shl64 1 (n * (vs.length : Int)))), (17, AI (N : Int)), (20, LI vs), (21, AI vs.length), (22, AI (k : Int)), (23, .bool (decide ((k : Int) < (vs.length : Int)))), (43, .ref 9), (44, .ref 10)]) (by kernel_rfl) (by kernel_rfl) (by kernel_rfl) ?_)
            refine R.go 3 (R.left (.ret) (.tup []) (frm 55 [(0, .agg [AI n, LI xs]), (1, LLN l), (2, LN a), (3, .fn 93 [.rptr [AI n, LI xs]]), (4, .ptr 0 0), (5, .ptr 1 0), (6, .ptr 2 0), (7, .ptr 3 0), (8, .ptr 4 0), (9, .ptr 5 0), (10, LLN (l ++ [a])), (11, AI (scode n xs (l ++ [a]))), (16, LLN l), (17, .clp 1 l.length (rows eLN l)), (18, LN a), (19, .ref 6), (20, LLN (l ++ [a])), (21, .agg [AI n, LI xs]), (22, LLN (l ++ [a])), (23, AI (scode n xs (l ++ [a]))), (24, AI (scode n xs (l ++ [a]))), (25, .bool (!decide ((scode n xs (l ++ [a])) = 0))), (27, .agg [AI n, LI xs]), (28, LLN (l ++ [a])), (29, LI vs), (30, .fn 125 [.rptr [LI vs], .rptr [AI n, LI xs]])]) (by kernel_rfl) (by kernel_rfl) (by kernel_rfl) (by kernel_rfl) ?_)
            exact R.retE (.tup [.bool false, AI 0]) (by kernel_rfl) (by kernel_rfl) (by first | (refine tupB ?_ ?_ <;> first | exact csB_bad (by assumption) | rfl | exact hm.symm | (rw [csB, decide_eq_true hm, ← hvs, fst_some (N := N) (show ∀ M, M < N → badC true n xs vs l a M = false by assumption) (by rw [csG_go (p := p) hpe hX]; simpa using hb) (by omega)]; rfl) | (rw [csB, decide_eq_true hm, ← hvs, fst_none (fun M hM => (show ∀ M, M < N → badC true n xs vs l a M = false by assumption) M (by omega))]; rfl)) | (exfalso; omega))
          · refine R.go 2 (R.round (frm 48 [(0, .ref 9), (1, .rptr [LI vs]), (2, .rptr [AI n, LI xs]), (4, .ref 10), (5, AI vs.length), (6, AI (N : Int)), (16, AI (shl64 1 (n * (vs.length : Int)))), (17, AI (N : Int)), (20, LI vs), (21, AI vs.length), (22, AI (k : Int)), (23, .bool (decide ((k : Int) < (vs.length : Int)))), (43, .ref 9), (44, .ref 10)]) (by kernel_rfl) (by kernel_rfl) (by kernel_rfl) ?_)
            refine R.go 6 (R.ar ((N : Int) + 1) (by kernel_rfl) (by omega) (by omega) (by kernel_rfl) ?_)
            exact R.go 2 (R.stop R4 (by kernel_rfl) (N5 (N + 1, Y) [0, 1, 2, 4, 5, 16, 17] (some [0, 1, 2, 3, 4, 5, 6, 7, 8, 9, 10]) _ (by kernel_rfl) (by kernel_rfl) ⟨(by omega), (by rw [hX]; exact vrow_len _ _ _), (by rw [hX]; exact vrow_out), (by exact below_succ (by assumption) (by rw [csG_go (p := p) hpe hX]; rw [(by assumption : ((!decide (p = (shl64 1 n) - 1)) || decide (gv (mT n) (mU n (bxB xs)) Y a = (shl64 1 n) - 1)) = true)]; rfl))⟩ (by show ((totN n vs) - (N + 1)) < ((totN n vs) - N); omega)))
    · refine R.go 1 (R.over (.tup []) (frm 55 [(0, .agg [AI n, LI xs]), (1, LLN l), (2, LN a), (3, .fn 93 [.rptr [AI n, LI xs]]), (4, .ptr 0 0), (5, .ptr 1 0), (6, .ptr 2 0), (7, .ptr 3 0), (8, .ptr 4 0), (9, .ptr 5 0), (10, LLN (l ++ [a])), (11, AI (scode n xs (l ++ [a]))), (16, LLN l), (17, .clp 1 l.length (rows eLN l)), (18, LN a), (19, .ref 6), (20, LLN (l ++ [a])), (21, .agg [AI n, LI xs]), (22, LLN (l ++ [a])), (23, AI (scode n xs (l ++ [a]))), (24, AI (scode n xs (l ++ [a]))), (25, .bool (!decide ((scode n xs (l ++ [a])) = 0))), (27, .agg [AI n, LI xs]), (28, LLN (l ++ [a])), (29, LI vs), (30, .fn 125 [.rptr [LI vs], .rptr [AI n, LI xs]])]) (by kernel_rfl) (by kernel_rfl) (by kernel_rfl) (by kernel_rfl) ?_)
      exact R.go 6 (R.retE (.tup [.bool true, AI 0]) (by kernel_rfl) (by kernel_rfl) (by first | (refine tupB ?_ ?_ <;> first | exact csB_bad (by assumption) | rfl | exact hm.symm | (rw [csB, decide_eq_true hm, ← hvs, fst_some (N := N) (show ∀ M, M < N → badC true n xs vs l a M = false by assumption) (by rw [csG_go (p := p) hpe hX]; simpa using hb) (by omega)]; rfl) | (rw [csB, decide_eq_true hm, ← hvs, fst_none (fun M hM => (show ∀ M, M < N → badC true n xs vs l a M = false by assumption) M (by omega))]; rfl)) | (exfalso; omega)))

end Go.Proofs.Ytkmjijomengoiaa
