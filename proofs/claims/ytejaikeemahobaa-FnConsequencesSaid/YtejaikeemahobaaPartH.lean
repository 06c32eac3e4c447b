/- Texts of the proof: Q11, Q12T, T01, SymK, Sym2. -/
import Derived.Test.YtejaikeemahobaaPartG

/-! Consequences on frames. -/
namespace Go.Proofs.Ytejaikeemahobaa
open Go.RowKit Go.Abs

/-- Where the first premises are true. -/
def pmT (n : Int) (xs X : List Int) (l : List (List (Int × Int))) : Nat → Int
  | 0 => (shl64 1 n) - 1
  | i + 1 => band (pmT n xs X l i) (tset n xs X (l.getD i []))
def badL (n : Int) (xs vs : List Int) (l : List (List (Int × Int))) (a : List (Int × Int)) (N : Nat) : Bool := !decide (bnot (pmT n xs (vrow n vs (N : Int)) l l.length) (tset n xs (vrow n vs (N : Int)) a) = 0)
def badG (n : Int) (xs vs : List Int) (l : List (List (Int × Int))) (a : List (Int × Int)) (N : Nat) : Bool := decide (pmT n xs (vrow n vs (N : Int)) l l.length = (shl64 1 n) - 1) && !decide (tset n xs (vrow n vs (N : Int)) a = (shl64 1 n) - 1)
def badC (gl : Bool) (n : Int) (xs vs : List Int) (l : List (List (Int × Int))) (a : List (Int × Int)) (N : Nat) : Bool := if gl = true then badG n xs vs l a N else badL n xs vs l a N
def csB (gl : Bool) (n : Int) (xs : List Int) (l : List (List (Int × Int))) (a : List (Int × Int)) : Bool := decide (scode n xs (l ++ [a]) = 0) && (fstN (badC gl n xs (mem (vmT (l ++ [a]) (l ++ [a]).length)) l a) (totN n (mem (vmT (l ++ [a]) (l ++ [a]).length)))).isNone
theorem allF_app {l : List (List (Int × Int))} {a : List (Int × Int)} (h : allF (l ++ [a]) = true) : (∀ j : Nat, j < l.length → isF (l.getD j []) = true) ∧ isF a = true := by
  refine ⟨fun j hj => ?_, ?_⟩
  · have := allF_get h j (by simp; omega)
    rwa [List.getD_eq_getElem?_getD, List.getElem?_append_left hj, ← List.getD_eq_getElem?_getD] at this
  · have := allF_get h l.length (by simp)
    rw [List.getD_eq_getElem?_getD, List.getElem?_append_right (Nat.le_refl _)] at this
    simpa using this
theorem shortL_app {l : List (List (Int × Int))} {a : List (Int × Int)} (h : l.length ≤ 1048576 ∧ ∀ j : Nat, j < l.length → (l.getD j []).length ≤ 1048576) (ha : a.length ≤ 1048576) : shortL (l ++ [a]) := by
  refine ⟨by simp; omega, fun j hj => ?_⟩
  by_cases hjl : j < l.length
  · rw [List.getD_eq_getElem?_getD, List.getElem?_append_left hjl, ← List.getD_eq_getElem?_getD]
    have := h.2 j hjl
    omega
  · have : j = l.length := by simp at hj; omega
    subst this
    rw [List.getD_eq_getElem?_getD, List.getElem?_append_right (Nat.le_refl _)]
    simp
    omega
def lim (l : List (List (Int × Int))) : Prop := l.length ≤ 1048576 ∧ ∀ j : Nat, j < l.length → (l.getD j []).length ≤ 1048576
theorem l06VariablesG_c (l : List (List (Int × Int))) (vs : List Int) (hvs : vs = mem (vmT l l.length)) (hF : allF l = true) (hl : l.length ≤ 1000000000) : CallA Try.prog 97 [LLN l] (ownA eI 2 1 vs) := by rw [hvs]; exact l06Variables_c l hF hl

theorem badC_go {gl : Bool} {n : Int} {xs vs : List Int} {l : List (List (Int × Int))} {a : List (Int × Int)} {N : Nat} {p t : Int} (hp : p = pmT n xs (vrow n vs (N : Int)) l l.length) (ht : t = tset n xs (vrow n vs (N : Int)) a) (hg : gl = true) (h : ¬ p = (shl64 1 n) - 1) : badC gl n xs vs l a N = false := by
  rw [badC, if_pos hg, badG, ← hp, decide_eq_false h]; rfl
theorem bnotF {n : Int} {xs X : List Int} {a : List (Int × Int)} (hR : okFr n xs = true) (ht : InM n.toNat (tset n xs X a)) : bnot ((shl64 1 n) - 1) (tset n xs X a) = 0 ↔ tset n xs X a = (shl64 1 n) - 1 := by
  obtain ⟨h0, h8, _, _⟩ := okFr_rel hR
  have hf := inM_full (n := n.toNat) (by omega)
  rw [nn_eq h0] at hf
  rw [bnot_sub (by omega) hf ht]
  constructor
  · intro h
    refine tb_ext ht.1 hf.1 fun i => ?_
    rw [Bool.eq_iff_iff]
    refine ⟨fun hti => ?_, h i⟩
    have := tb_full (n := n.toNat) (by omega) i
    rw [nn_eq h0] at this
    rw [this]
    simpa using tb_lt ht hti
  · intro h i hi
    rw [h]; exact hi
theorem badC_ok {gl : Bool} {n : Int} {xs vs : List Int} {l : List (List (Int × Int))} {a : List (Int × Int)} {N : Nat} {p : Int} (hR : okFr n xs = true) (ha : OKM 6 a) (hN : N ≤ 65536) (hp : p = pmT n xs (vrow n vs (N : Int)) l l.length) (hg : ¬ (gl = true ∧ ¬ p = (shl64 1 n) - 1)) :
    badC gl n xs vs l a N = !decide (bnot p (tset n xs (vrow n vs (N : Int)) a) = 0) := by
  obtain ⟨h0, h8, _, _⟩ := okFr_rel hR
  unfold badC
  split
  · rename_i h
    have hpf : p = (shl64 1 n) - 1 := by
      by_cases e : p = (shl64 1 n) - 1
      · exact e
      · exact absurd ⟨h, e⟩ hg
    have ht := tset_in hR ha (X := vrow n vs (N : Int)) (vrow_in h0 h8 (by omega))
    rw [badG, ← hp, decide_eq_true hpf, Bool.true_and, hpf]
    congr 1
    exact decide_eq_decide.2 (bnotF hR ht).symm
  · rw [badL, ← hp]

theorem l06Follows_c (n : Int) (xs : List Int) (l : List (List (Int × Int))) (a : List (Int × Int)) (gl : Bool) (hF : allF (l ++ [a]) = true) (hR : okFr n xs = true) (hfit : n * ((mem (vmT (l ++ [a]) (l ++ [a]).length)).length : Int) ≤ 16) (hlim : lim l) (hl : a.length ≤ 1048576) : CallA Try.prog 50 [.agg [AI n, LI xs], LLN l, LN a, .bool gl] (.bool ((fstN (badC gl n xs (mem (vmT (l ++ [a]) (l ++ [a]).length)) l a) (totN n (mem (vmT (l ++ [a]) (l ++ [a]).length)))).isNone)) := by
  obtain ⟨vs, hvs⟩ : ∃ vs, vs = mem (vmT (l ++ [a]) (l ++ [a]).length) := ⟨_, rfl⟩
  rw [← hvs] at hfit ⊢
  have hll := hlim.1
  have hVS : VS vs := by rw [hvs]; exact VS_vmT hF
  have hRR := okFr_rel hR
  have hb0 : 0 ≤ n ∧ n ≤ 8 ∧ (xs.length : Int) = n := ⟨hRR.1, hRR.2.1, hRR.2.2.1⟩
  have hnc : 0 ≤ n * (vs.length : Int) := Int.mul_nonneg hb0.1 (by omega)
  have htot : shl64 1 (n * (vs.length : Int)) = (totN n vs : Int) := by have := shl_rng (n * (vs.length : Int)) hnc (by omega); unfold totN; omega
  have htr := shl_rng (n * (vs.length : Int)) hnc (by omega)
  have hvl : vs.length ≤ 62 := by rw [hvs]; exact mem_le _
  have hpr := allF_app hF
  have hA := isF_okm hpr.2
  have hok : OKM 6 a := hA.1
  have hal : a.length ≤ 40 := hA.2
  refine CallA.of Try.func50 rfl (by kernel_rfl) ?_
  refine R.go 9 (R.app eLN [] l 1 28 1 24 (by kernel_rfl) eLN_one (by decide) (by first | omega | (simp <;> omega)) (by kernel_rfl) ?_)
  refine R.go 2 (R.app eLN ([] ++ l) [a] 1 28 1 24 (by kernel_rfl) eLN_one (by decide) (by first | omega | (simp <;> omega)) (by kernel_rfl) ?_)
  refine R.frz 1 (by kernel_rfl) ?_
  refine R.call true (l06VariablesG_c ([] ++ l ++ [a]) vs (by assumption) (by assumption) (by simp <;> omega)).frz (by kernel_rfl) rfl (by kernel_rfl) ?_
  refine R.go 6 (R.call true (l01Full_c n (by omega) (by omega)) (by kernel_rfl) rfl (by kernel_rfl) ?_)
  refine R.go 8 (R.loop (fun (N : Nat) => (⟨(frm 68 [(1, LLN l), (2, LN a), (3, .bool gl), (4, .ptr 0 0), (9, LI vs), (10, AI ((shl64 1 n) - 1)), (11, AI (N : Int))]), [.box 26 [AI n, LI xs]]⟩ : St)) (fun (N : Nat) => ((N : Int) ≤ shl64 1 (n * (vs.length : Int))) ∧ (∀ M, M < N → badC gl n xs vs l a M = false)) (fun (N : Nat) => (totN n vs) - N) 0 [1, 2, 3, 4, 9, 10, 11] (some [0]) (by kernel_rfl) (by kernel_rfl) (by kernel_rfl) ⟨(by omega), (by exact fun M hM => absurd hM (by omega))⟩ ?_)
  rintro N ⟨h3_1, h3_2⟩ R1 N2
  have hvl6 : (vrow n vs (N : Int)).length = 6 := vrow_len _ _ _
  have hoX : OKM (vrow n vs (N : Int)).length a := by rw [hvl6]; exact hok
  have hfull := shl_rng n hb0.1 (by omega)
  have htb := totN_le ⟨hnc, hfit⟩
  refine R.go 8 (R.ar (n * (vs.length : Int)) (by kernel_rfl) (by omega) (by omega) (by kernel_rfl) ?_)
  refine R.call true (l01One_c (n * (vs.length : Int)) (by first | omega | (simp <;> omega)) (by first | omega | (simp <;> omega))) (by kernel_rfl) rfl (by kernel_rfl) ?_
  refine R.go 2 (R.cond ((N : Int) < (shl64 1 (n * (vs.length : Int)))) (by kernel_rfl) (fun c4 => ?_) (fun c4 => ?_))
  · refine R.go 9 (R.call true (l06Values_c n xs vs N hVS (by omega) (by omega) (by first | omega | (simp <;> omega)) hvl).frz (by kernel_rfl) rfl (by kernel_rfl) ?_)
    refine R.go 15 (R.loop ((fun | (i, p) => (⟨(frm 68 [(1, LLN l), (2, LN a), (3, .bool gl), (4, .ptr 0 0), (9, LI vs), (10, AI ((shl64 1 n) - 1)), (11, AI (N : Int)), (12, .ptr 1 0), (13, AI p), (14, AI (i : Int))]), [.box 26 [AI n, LI xs], .box 36 [AI n, LI xs, LI (vrow n vs (N : Int))]]⟩ : St) : Nat × Int → St)) (fun | (i, p) => (i ≤ l.length) ∧ (p = pmT n xs (vrow n vs (N : Int)) l i)) (fun | (i, p) => l.length - i) (0, ((shl64 1 n) - 1)) [1, 2, 3, 4, 9, 10, 11, 12, 13, 14] none (by kernel_rfl) (by kernel_rfl) (by kernel_rfl) ⟨(by omega), (by rfl)⟩ ?_)
    rintro ⟨i, p⟩ ⟨h8_1, h8_2⟩ R5 N6
    refine R.go 8 (R.cond ((i : Int) < (l.length : Int)) (by kernel_rfl) (fun c9 => ?_) (fun c9 => ?_))
    · have hq := isF_okm (hpr.1 i (by omega))
      have hqo : OKM (vrow n vs (N : Int)).length (l.getD i []) := by rw [hvl6]; exact hq.1
      have hql : (l.getD i []).length ≤ 40 := hq.2
      refine R.go 8 (R.idx eLN l [] i (i : Int) (by kernel_rfl) rfl eLN_len (by omega) (by kernel_rfl) ?_)
      refine R.go 1 (R.call true (l06TruthT_c n xs (vrow n vs (N : Int)) (l.getD i []) hR hqo (by first | omega | (simp <;> omega))) (by kernel_rfl) rfl (by kernel_rfl) ?_)
      refine R.go 6 (R.ar ((i : Int) + 1) (by kernel_rfl) (by omega) (by omega) (by kernel_rfl) ?_)
      exact R.go 2 (R.stop R5 (by kernel_rfl) (N6 (i + 1, band p (tset n xs (vrow n vs (N : Int)) (l.getD i []))) [1, 2, 3, 4, 9, 10, 11, 12, 13, 14] none _ (by kernel_rfl) (by kernel_rfl) ⟨(by omega), (by rw [pmT, ← ‹p = pmT n xs (vrow n vs (N : Int)) l i›])⟩ (by show (l.length - (i + 1)) < (l.length - i); omega)))
    · have hpe : p = pmT n xs (vrow n vs (N : Int)) l l.length := by rw [show l.length = i by omega]; assumption
      refine R.go 6 ?_
      refine (Bool.eq_false_or_eq_true (gl)).elim (fun c10 => ?_) (fun c10 => ?_)
      · refine R.want (gl) true (by kernel_rfl) c10 ?_
        refine R.go 1 (R.want (gl) true (by kernel_rfl) c10 ?_)
        refine R.go 1 (R.want (gl) true (by kernel_rfl) c10 ?_)
        refine R.go 1 (R.pick (gl) true (by kernel_rfl) c10 (by kernel_rfl) ?_)
        refine R.go 1 (R.condN (p = ((shl64 1 n) - 1)) (by kernel_rfl) (fun c11 => ?_) (fun c11 => ?_))
        · refine R.go 3 (R.ar ((N : Int) + 1) (by kernel_rfl) (by omega) (by omega) (by kernel_rfl) ?_)
          exact R.go 2 (R.stop R1 (by kernel_rfl) (N2 (N + 1) [1, 2, 3, 4, 9, 10, 11] (some [0]) _ (by kernel_rfl) (by kernel_rfl) ⟨(by omega), (by exact below_succ (by assumption) (by first | exact badC_go hpe rfl (by assumption) (by assumption) | (rw [badC_ok (p := p) hR hok (by omega) hpe hng]; simpa using (by assumption : bnot p (tset n xs (vrow n vs (N : Int)) a) = 0))))⟩ (by show ((totN n vs) - (N + 1)) < ((totN n vs) - N); omega)))
        · have hng : ¬ (gl = true ∧ ¬ p = (shl64 1 n) - 1) := by simp_all
          refine R.go 6 (R.call true (l06TruthT_c n xs (vrow n vs (N : Int)) a hR hoX (by first | omega | (simp <;> omega))) (by kernel_rfl) rfl (by kernel_rfl) ?_)
          refine R.go 3 (R.condN ((bnot p (tset n xs (vrow n vs (N : Int)) a)) = 0) (by kernel_rfl) (fun c12 => ?_) (fun c12 => ?_))
          · have hb : ¬ bnot p (tset n xs (vrow n vs (N : Int)) a) = 0 := by assumption
            exact R.go 4 (R.retE (.bool false) (by kernel_rfl) (by kernel_rfl) (by first | (apply congrArg AV.bool; first | (rw [fst_some (N := N) (show ∀ M, M < N → badC gl n xs vs l a M = false by assumption) (by rw [badC_ok (p := p) hR hok (by omega) hpe hng]; simpa using hb) (by omega)]; rfl) | (rw [fst_none (fun M hM => (show ∀ M, M < N → badC gl n xs vs l a M = false by assumption) M (by omega))]; rfl)) | (exfalso; omega)))
          · refine R.go 4 (R.ar ((N : Int) + 1) (by kernel_rfl) (by omega) (by omega) (by kernel_rfl) ?_)
            exact R.go 2 (R.stop R1 (by kernel_rfl) (N2 (N + 1) [1, 2, 3, 4, 9, 10, 11] (some [0]) _ (by kernel_rfl) (by kernel_rfl) ⟨(by omega), (by exact below_succ (by assumption) (by first | exact badC_go hpe rfl (by assumption) (by assumption) | (rw [badC_ok (p := p) hR hok (by omega) hpe hng]; simpa using (by assumption : bnot p (tset n xs (vrow n vs (N : Int)) a) = 0))))⟩ (by show ((totN n vs) - (N + 1)) < ((totN n vs) - N); omega)))
      · refine R.skp (gl) true (by kernel_rfl) c10 (by kernel_rfl) ?_
        refine R.skp (gl) true (by kernel_rfl) c10 (by kernel_rfl) ?_
        refine R.skp (gl) true (by kernel_rfl) c10 (by kernel_rfl) ?_
        refine R.pick (gl) false (by kernel_rfl) c10 (by kernel_rfl) ?_
        have hng : ¬ (gl = true ∧ ¬ p = (shl64 1 n) - 1) := by simp_all
        refine R.go 8 (R.call true (l06TruthT_c n xs (vrow n vs (N : Int)) a hR hoX (by first | omega | (simp <;> omega))) (by kernel_rfl) rfl (by kernel_rfl) ?_)
        refine R.go 3 (R.condN ((bnot p (tset n xs (vrow n vs (N : Int)) a)) = 0) (by kernel_rfl) (fun c13 => ?_) (fun c13 => ?_))
        · have hb : ¬ bnot p (tset n xs (vrow n vs (N : Int)) a) = 0 := by assumption
          exact R.go 4 (R.retE (.bool false) (by kernel_rfl) (by kernel_rfl) (by first | (apply congrArg AV.bool; first | (rw [fst_some (N := N) (show ∀ M, M < N → badC gl n xs vs l a M = false by assumption) (by rw [badC_ok (p := p) hR hok (by omega) hpe hng]; simpa using hb) (by omega)]; rfl) | (rw [fst_none (fun M hM => (show ∀ M, M < N → badC gl n xs vs l a M = false by assumption) M (by omega))]; rfl)) | (exfalso; omega)))
        · refine R.go 4 (R.ar ((N : Int) + 1) (by kernel_rfl) (by omega) (by omega) (by kernel_rfl) ?_)
          exact R.go 2 (R.stop R1 (by kernel_rfl) (N2 (N + 1) [1, 2, 3, 4, 9, 10, 11] (some [0]) _ (by kernel_rfl) (by kernel_rfl) ⟨(by omega), (by exact below_succ (by assumption) (by first | exact badC_go hpe rfl (by assumption) (by assumption) | (rw [badC_ok (p := p) hR hok (by omega) hpe hng]; simpa using (by assumption : bnot p (tset n xs (vrow n vs (N : Int)) a) = 0))))⟩ (by show ((totN n vs) - (N + 1)) < ((totN n vs) - N); omega)))
  · exact R.go 5 (R.retE (.bool true) (by kernel_rfl) (by kernel_rfl) (by first | (apply congrArg AV.bool; first | (rw [fst_some (N := N) (show ∀ M, M < N → badC gl n xs vs l a M = false by assumption) (by rw [badC_ok (p := p) hR hok (by omega) hpe hng]; simpa using hb) (by omega)]; rfl) | (rw [fst_none (fun M hM => (show ∀ M, M < N → badC gl n xs vs l a M = false by assumption) M (by omega))]; rfl)) | (exfalso; omega)))

theorem csB_bad {gl : Bool} {n : Int} {xs : List Int} {l : List (List (Int × Int))} {a : List (Int × Int)} (h : ¬ scode n xs (l ++ [a]) = 0) : false = csB gl n xs l a := by rw [csB, decide_eq_false h]; rfl
theorem csL_go {n : Int} {xs vs Y : List Int} {l : List (List (Int × Int))} {a : List (Int × Int)} {N : Nat} {p : Int} (hp : p = pmT n xs Y l l.length) (hX : Y = vrow n vs (N : Int)) : badC false n xs vs l a N = !decide (bnot p (gv (mT n) (mU n (bxB xs)) Y a) = 0) := by
  rw [hX] at hp ⊢
  rw [badC, if_neg (by decide), badL, ← hp]
  rfl
theorem csG_go {n : Int} {xs vs Y : List Int} {l : List (List (Int × Int))} {a : List (Int × Int)} {N : Nat} {p : Int} (hp : p = pmT n xs Y l l.length) (hX : Y = vrow n vs (N : Int)) : badC true n xs vs l a N = !((!decide (p = (shl64 1 n) - 1)) || decide (gv (mT n) (mU n (bxB xs)) Y a = (shl64 1 n) - 1)) := by
  rw [hX] at hp ⊢
  rw [badC, if_pos rfl, badG, ← hp, Bool.not_or, Bool.not_not]
  rfl

theorem GC1_c (p : Int) (t : Int) (n : Int) (xs : List Int) (h0 : 0 ≤ n) (h1 : n ≤ 62) : CallA Try.prog 47 [AI p, AI t, .rptr [AI n, LI xs]] (.bool ((!decide (p = (shl64 1 n) - 1)) || decide (t = (shl64 1 n) - 1))) := by
  refine CallA.of Try.func47 rfl (by kernel_rfl) ?_
  refine R.go 8 (R.call true (frameAll_c n xs h0 h1) (by kernel_rfl) rfl (by kernel_rfl) ?_)
  refine R.go 2 ?_
  by_cases c1 : p = ((shl64 1 n) - 1)
  · refine R.want (!decide (p = ((shl64 1 n) - 1))) false (by kernel_rfl) (nF c1) ?_
    refine R.go 1 (R.want (!decide (p = ((shl64 1 n) - 1))) false (by kernel_rfl) (nF c1) ?_)
    refine R.go 1 (R.want (!decide (p = ((shl64 1 n) - 1))) false (by kernel_rfl) (nF c1) ?_)
    refine R.call true (frameAll_c n xs h0 h1) (by kernel_rfl) rfl (by kernel_rfl) ?_
    refine R.want (!decide (p = ((shl64 1 n) - 1))) false (by kernel_rfl) (nF c1) ?_
    refine R.go 1 (R.pick (!decide (p = ((shl64 1 n) - 1))) false (by kernel_rfl) (nF c1) (by kernel_rfl) ?_)
    exact R.go 2 (R.retE (.bool (decide (t = ((shl64 1 n) - 1)))) (by kernel_rfl) (by kernel_rfl) (by first | (apply congrArg AV.bool; simp [*]) | (exfalso; omega)))
  · refine R.skp (!decide (p = ((shl64 1 n) - 1))) false (by kernel_rfl) (nT c1) (by kernel_rfl) ?_
    refine R.skp (!decide (p = ((shl64 1 n) - 1))) false (by kernel_rfl) (nT c1) (by kernel_rfl) ?_
    refine R.skp (!decide (p = ((shl64 1 n) - 1))) false (by kernel_rfl) (nT c1) (by kernel_rfl) ?_
    refine R.skp (!decide (p = ((shl64 1 n) - 1))) false (by kernel_rfl) (nT c1) (by kernel_rfl) ?_
    refine R.pick (!decide (p = ((shl64 1 n) - 1))) true (by kernel_rfl) (nT c1) (by kernel_rfl) ?_
    exact R.go 2 (R.retE (.bool true) (by kernel_rfl) (by kernel_rfl) (by first | (apply congrArg AV.bool; simp [*]) | (exfalso; omega)))

theorem clipLL_c (l : List (List (Int × Int))) : CallA Try.prog 91 [LLN l] (.clp 1 l.length (rows eLN l)) := by
  refine CallA.of Try.func91 rfl (by kernel_rfl) ?_
  refine R.go 11 (R.clip 1 l.length (rows eLN l) (by kernel_rfl) (by kernel_rfl) ?_)
  exact R.go 2 (R.retE (.clp 1 l.length (rows eLN l)) (by kernel_rfl) (by kernel_rfl) (by rfl))

theorem consL_c (n : Int) (xs : List Int) (l : List (List (Int × Int))) (a : List (Int × Int)) (lx : xs.length ≤ 1048576) (hlim : lim l) (hl : a.length ≤ 1048576) : CallA Try.prog 46 [.agg [AI n, LI xs], LLN l, LN a, .fn 51 []] (.tup [.bool (csB false n xs l a), AI (scode n xs (l ++ [a]))]) := by
  have hs : shortL (l ++ [a]) := shortL_app hlim hl
  have hll0 := hlim.1
  refine CallA.of Try.func46 rfl (by kernel_rfl) ?_
  refine R.go 12 (R.call true (clipLL_c l) (by kernel_rfl) rfl (by kernel_rfl) ?_)
  refine R.go 2 (R.appC eLN l [a] 28 1 24 (by kernel_rfl) eLN_one (by decide) (by first | omega | (simp <;> omega)) (by simp) (by kernel_rfl) ?_)
  refine R.go 7 (R.call false (searchCode_c n xs (l ++ [a]) (by first | omega | (simp <;> omega)) hs) (by kernel_rfl) rfl (by kernel_rfl) ?_)
  refine R.go 4 (R.frz 7 (by kernel_rfl) ?_)
  refine R.go 3 (R.condN ((scode n xs (l ++ [a])) = 0) (by kernel_rfl) (fun c1 => ?_) (fun c1 => ?_))
  · exact R.go 6 (R.retE (.tup [.bool false, AI (scode n xs (l ++ [a]))]) (by kernel_rfl) (by kernel_rfl) (by first | (refine tupB ?_ ?_ <;> first | exact csB_bad (by assumption) | rfl | exact hm.symm | (rw [csB, decide_eq_true hm, ← hvs, fst_some (N := N) (show ∀ M, M < N → badC false n xs vs l a M = false by assumption) (by rw [csL_go (p := p) hpe hX]; simpa using hb) (by omega)]; rfl) | (rw [csB, decide_eq_true hm, ← hvs, fst_none (fun M hM => (show ∀ M, M < N → badC false n xs vs l a M = false by assumption) M (by omega))]; rfl)) | (exfalso; omega)))
  · have hm : scode n xs (l ++ [a]) = 0 := by assumption
    have hsc := scode_ok hm
    have hF : allF (l ++ [a]) = true := hsc.2.1
    have hR : okFr n xs = true := hsc.1
    have hfit0 : n * ((mem (vmT (l ++ [a]) (l ++ [a]).length)).length : Int) ≤ 16 := hsc.2.2
    obtain ⟨vs, hvs⟩ : ∃ vs, vs = mem (vmT (l ++ [a]) (l ++ [a]).length) := ⟨_, rfl⟩
    have hfit : n * (vs.length : Int) ≤ 16 := by rw [hvs]; exact hfit0
    have hll := hlim.1
    have hVS : VS vs := by rw [hvs]; exact VS_vmT hF
    have hRR := okFr_rel hR
    have hb0 : 0 ≤ n ∧ n ≤ 8 ∧ (xs.length : Int) = n := ⟨hRR.1, hRR.2.1, hRR.2.2.1⟩
    have hnc : 0 ≤ n * (vs.length : Int) := Int.mul_nonneg hb0.1 (by omega)
    have htot : shl64 1 (n * (vs.length : Int)) = (totN n vs : Int) := by have := shl_rng (n * (vs.length : Int)) hnc (by omega); unfold totN; omega
    have htr := shl_rng (n * (vs.length : Int)) hnc (by omega)
    have hvl : vs.length ≤ 62 := by rw [hvs]; exact mem_le _
    have hpr := allF_app hF
    have hA := isF_okm hpr.2
    have hok : OKM 6 a := hA.1
    have hal : a.length ≤ 40 := hA.2
    have htb := totN_le ⟨hnc, hfit⟩
    refine R.go 6 (R.call true (variablesInG_c (l ++ [a]) vs (by assumption) hF (by first | omega | (simp <;> omega))).frz (by kernel_rfl) rfl (by kernel_rfl) ?_)
    refine R.call true (valuations_c n xs vs) (by kernel_rfl) rfl (by kernel_rfl) ?_
    refine R.go 2 (R.range (caps := [.rptr [LI vs], .rptr [AI n, LI xs]]) Try.func153 rfl (by kernel_rfl) (by kernel_rfl) ?_)
    intro D2 us3
    refine R.go 8 (R.call true (size_c vs) (by kernel_rfl) rfl (by kernel_rfl) ?_)
    refine R.go 7 (R.ar (n * (vs.length : Int)) (by kernel_rfl) (by omega) (by omega) (by kernel_rfl) ?_)
    refine R.shl 1 (n * (vs.length : Int)) (by kernel_rfl) (by omega) (by kernel_rfl) ?_
    refine R.go 3 (R.loop ((fun | (N, X) => (⟨(frm 48 [(0, .ref 9), (1, .rptr [LI vs]), (2, .rptr [AI n, LI xs]), (4, .ref 10), (5, AI vs.length), (16, AI (shl64 1 (n * (vs.length : Int)))), (17, AI (N : Int))]), [.box 26 [AI n, LI xs], .box 27 [LLN l], .box 28 [LN a], .box 59 [.fn 51 []], .box 4 [.bool false], .box 2 [AI 0], rowA eLN 28 1 [a], .dead, .frame us3 (frm 55 [(0, .agg [AI n, LI xs]), (1, LLN l), (2, LN a), (3, .fn 51 []), (4, .ptr 0 0), (5, .ptr 1 0), (6, .ptr 2 0), (7, .ptr 3 0), (8, .ptr 4 0), (9, .ptr 5 0), (10, LLN (l ++ [a])), (11, AI (scode n xs (l ++ [a]))), (16, LLN l), (17, .clp 1 l.length (rows eLN l)), (18, LN a), (19, .ref 6), (20, LLN (l ++ [a])), (21, .agg [AI n, LI xs]), (22, LLN (l ++ [a])), (23, AI (scode n xs (l ++ [a]))), (24, AI (scode n xs (l ++ [a]))), (25, .bool (!decide ((scode n xs (l ++ [a])) = 0))), (27, .agg [AI n, LI xs]), (28, LLN (l ++ [a])), (29, LI vs), (30, .fn 153 [.rptr [LI vs], .rptr [AI n, LI xs]])]), loopObj Try.f46 D2 us3 .ready, rowA eI 2 1 X]⟩ : St) : Nat × (List Int) → St)) (fun | (N, X) => ((N : Int) ≤ shl64 1 (n * (vs.length : Int))) ∧ (X.length = 6) ∧ (∀ j : Nat, j < 6 → ¬ (j : Int) ∈ vs → X.getD j 0 = 0) ∧ (∀ M, M < N → badC false n xs vs l a M = false)) (fun | (N, X) => (totN n vs) - N) (0, (List.replicate 6 0)) [0, 1, 2, 4, 5, 16, 17] none (by kernel_rfl) (by kernel_rfl) (by kernel_rfl) ⟨(by omega), (by simp), (by exact zero_out vs), (by exact fun M hM => absurd hM (by omega))⟩ ?_)
    rintro ⟨N, X⟩ ⟨h7_1, h7_2, h7_3, h7_4⟩ R4 N5
    have hfull := shl_rng n hb0.1 (by omega)
    refine R.go 5 (R.cond ((N : Int) < (shl64 1 (n * (vs.length : Int)))) (by kernel_rfl) (fun c8 => ?_) (fun c8 => ?_))
    · refine R.go 16 (R.loop ((fun | (k, Y) => (⟨(frm 48 [(0, .ref 9), (1, .rptr [LI vs]), (2, .rptr [AI n, LI xs]), (4, .ref 10), (5, AI vs.length), (6, AI (N : Int)), (16, AI (shl64 1 (n * (vs.length : Int)))), (17, AI (N : Int)), (20, LI vs), (21, AI vs.length), (22, AI (k : Int))]), [.box 26 [AI n, LI xs], .box 27 [LLN l], .box 28 [LN a], .box 59 [.fn 51 []], .box 4 [.bool false], .box 2 [AI 0], rowA eLN 28 1 [a], .dead, .frame us3 (frm 55 [(0, .agg [AI n, LI xs]), (1, LLN l), (2, LN a), (3, .fn 51 []), (4, .ptr 0 0), (5, .ptr 1 0), (6, .ptr 2 0), (7, .ptr 3 0), (8, .ptr 4 0), (9, .ptr 5 0), (10, LLN (l ++ [a])), (11, AI (scode n xs (l ++ [a]))), (16, LLN l), (17, .clp 1 l.length (rows eLN l)), (18, LN a), (19, .ref 6), (20, LLN (l ++ [a])), (21, .agg [AI n, LI xs]), (22, LLN (l ++ [a])), (23, AI (scode n xs (l ++ [a]))), (24, AI (scode n xs (l ++ [a]))), (25, .bool (!decide ((scode n xs (l ++ [a])) = 0))), (27, .agg [AI n, LI xs]), (28, LLN (l ++ [a])), (29, LI vs), (30, .fn 153 [.rptr [LI vs], .rptr [AI n, LI xs]])]), loopObj Try.f46 D2 us3 .ready, rowA eI 2 1 Y]⟩ : St) : Nat × (List Int) → St)) (fun | (k, Y) => (k ≤ vs.length) ∧ (PV n vs (N : Int) k Y)) (fun | (k, Y) => vs.length - k) (0, X) [0, 1, 2, 4, 5, 6, 16, 17, 20, 21, 22] none (by kernel_rfl) (by kernel_rfl) (by kernel_rfl) ⟨(by omega), (by exact pv_start (by assumption) (by assumption))⟩ ?_)
      rintro ⟨k, Y⟩ ⟨h12_1, h12_2⟩ R9 N10
      have hY : PV n vs (N : Int) k Y := by assumption
      have hYl : Y.length = 6 := hY.1
      have hg := fun h : k < vs.length => vs_get hVS h
      have hnk : k < vs.length → 0 ≤ n * ((vs.length : Int) - 1 - (k : Int)) ∧ n * ((vs.length : Int) - 1 - (k : Int)) ≤ n * (vs.length : Int) := fun h => ⟨Int.mul_nonneg hb0.1 (by omega), Int.mul_le_mul_of_nonneg_left (by omega) hb0.1⟩
      skip
      refine R.go 5 (R.cond ((k : Int) < (vs.length : Int)) (by kernel_rfl) (fun c13 => ?_) (fun c13 => ?_))
      · have hg2 := hg (by omega)
        have hnk2 := hnk (by omega)
        refine R.go 6 (R.idx eI vs 0 k (k : Int) (by kernel_rfl) rfl eI_len (by omega) (by kernel_rfl) ?_)
        refine R.go 11 (R.ar ((vs.length : Int) - 1) (by kernel_rfl) (by omega) (by omega) (by kernel_rfl) ?_)
        refine R.go 1 (R.ar (((vs.length : Int) - 1) - (k : Int)) (by kernel_rfl) (by omega) (by omega) (by kernel_rfl) ?_)
        refine R.ar (n * (((vs.length : Int) - 1) - (k : Int))) (by kernel_rfl) (by omega) (by omega) (by kernel_rfl) ?_
        refine R.shr (N : Int) (n * (((vs.length : Int) - 1) - (k : Int))) (by kernel_rfl) (by omega) (by kernel_rfl) ?_
        refine R.go 1 (R.call true (frameAll_c n xs (by omega) (by omega)) (by kernel_rfl) rfl (by kernel_rfl) ?_)
        refine R.go 1 (R.idxO 10 1 Y.length (((vs.getD k 0)).toNat) (vs.getD k 0) (by kernel_rfl) (by omega) (by omega) (by kernel_rfl) ?_)
        refine R.stI 10 2 Y (((vs.getD k 0)).toNat) (band (shr64 (N : Int) (n * (((vs.length : Int) - 1) - (k : Int)))) ((shl64 1 n) - 1)) (by kernel_rfl) (by omega) (by kernel_rfl) ?_
        refine R.go 3 (R.ar ((k : Int) + 1) (by kernel_rfl) (by omega) (by omega) (by kernel_rfl) ?_)
        exact R.go 2 (R.stop R9 (by kernel_rfl) (N10 (k + 1, Y.set (((vs.getD k 0)).toNat) (band (shr64 (N : Int) (n * (((vs.length : Int) - 1) - (k : Int)))) ((shl64 1 n) - 1))) [0, 1, 2, 4, 5, 6, 16, 17, 20, 21, 22] none _ (by kernel_rfl) (by kernel_rfl) ⟨(by omega), (by exact pv_step hY hVS (by omega) rfl)⟩ (by show (vs.length - (k + 1)) < (vs.length - k); omega)))
      · have hX : Y = vrow n vs (N : Int) := pv_end hY (by omega)
        have hYo : OKM Y.length a := by rw [hYl]; exact hok
        refine R.go 5 (R.yield 9 D2 us3 (by kernel_rfl) (by kernel_rfl) ?_)
        intro l14 us15
        refine R.go 3 (R.begin (by kernel_rfl) (by kernel_rfl) ?_)
        have hfull2 := shl_rng n hb0.1 (by omega)
        refine R.go 4 (R.call true (frameAll_c n xs (by omega) (by omega)) (by kernel_rfl) rfl (by kernel_rfl) ?_)
        refine R.go 10 (R.loop ((fun | (i, p) => (⟨(frm 55 [(4, .ptr 0 0), (6, .ptr 2 0), (7, .ptr 3 0), (8, .ptr 4 0), (9, .ptr 5 0), (12, .ref 10), (13, AI p), (34, LLN l), (35, AI l.length), (36, AI (i : Int))]), [.box 26 [AI n, LI xs], .box 27 [LLN l], .box 28 [LN a], .box 59 [.fn 51 []], .box 4 [.bool false], .box 2 [AI 0], rowA eLN 28 1 [a], .dead, .frame us3 (frm 55 [(0, .agg [AI n, LI xs]), (1, LLN l), (2, LN a), (3, .fn 51 []), (4, .ptr 0 0), (5, .ptr 1 0), (6, .ptr 2 0), (7, .ptr 3 0), (8, .ptr 4 0), (9, .ptr 5 0), (10, LLN (l ++ [a])), (11, AI (scode n xs (l ++ [a]))), (16, LLN l), (17, .clp 1 l.length (rows eLN l)), (18, LN a), (19, .ref 6), (20, LLN (l ++ [a])), (21, .agg [AI n, LI xs]), (22, LLN (l ++ [a])), (23, AI (scode n xs (l ++ [a]))), (24, AI (scode n xs (l ++ [a]))), (25, .bool (!decide ((scode n xs (l ++ [a])) = 0))), (27, .agg [AI n, LI xs]), (28, LLN (l ++ [a])), (29, LI vs), (30, .fn 153 [.rptr [LI vs], .rptr [AI n, LI xs]])]), loopObj Try.f46 D2 us3 .busy, rowA eI 2 1 Y, .frame us15 (frm 48 [(0, .ref 9), (1, .rptr [LI vs]), (2, .rptr [AI n, LI xs]), (4, .ref 10), (5, AI vs.length), (6, AI (N : Int)), (16, AI (shl64 1 (n * (vs.length : Int)))), (17, AI (N : Int)), (20, LI vs), (21, AI vs.length), (22, AI (k : Int)), (23, .bool (decide ((k : Int) < (vs.length : Int)))), (43, .ref 9), (44, .ref 10)])]⟩ : St) : Nat × Int → St)) (fun | (i, p) => (i ≤ l.length) ∧ (p = pmT n xs Y l i)) (fun | (i, p) => l.length - i) (0, ((shl64 1 n) - 1)) [4, 6, 7, 8, 9, 12, 13, 34, 35, 36] none (by kernel_rfl) (by kernel_rfl) (by kernel_rfl) ⟨(by omega), (by rfl)⟩ ?_)
        rintro ⟨i, p⟩ ⟨h19_1, h19_2⟩ R16 N17
        refine R.go 5 (R.cond ((i : Int) < (l.length : Int)) (by kernel_rfl) (fun c20 => ?_) (fun c20 => ?_))
        · refine R.go 5 (R.idx eLN l [] i (i : Int) (by kernel_rfl) rfl eLN_len (by omega) (by kernel_rfl) ?_)
          have hq := isF_okm (hpr.1 i (by omega))
          have hqo : OKM Y.length (l.getD i []) := by rw [hYl]; exact hq.1
          have hql : (l.getD i []).length ≤ 40 := hq.2
          refine R.go 8 (R.call false (truthSet_c n xs Y (l.getD i []) hqo (by omega) (by omega) (by first | omega | (simp <;> omega)) (by first | omega | (simp <;> omega))) (by kernel_rfl) rfl (by kernel_rfl) ?_)
          refine R.go 5 (R.ar ((i : Int) + 1) (by kernel_rfl) (by omega) (by omega) (by kernel_rfl) ?_)
          exact R.go 2 (R.stop R16 (by kernel_rfl) (N17 (i + 1, band p (gv (mT n) (mU n (bxB xs)) Y (l.getD i []))) [4, 6, 7, 8, 9, 12, 13, 34, 35, 36] none _ (by kernel_rfl) (by kernel_rfl) ⟨(by omega), (by rw [pmT, ← ‹p = pmT n xs Y l i›]; rfl)⟩ (by show (l.length - (i + 1)) < (l.length - i); omega)))
        · have hpe : p = pmT n xs Y l l.length := by rw [show l.length = i by omega]; assumption
          refine R.go 8 (R.call false (truthSet_c n xs Y a hYo (by omega) (by omega) (by first | omega | (simp <;> omega)) (by first | omega | (simp <;> omega))) (by kernel_rfl) rfl (by kernel_rfl) ?_)
          refine R.call true (within_c p (gv (mT n) (mU n (bxB xs)) Y a)) (by kernel_rfl) rfl (by kernel_rfl) ?_
          refine R.go 2 (R.condN (bnot p (gv (mT n) (mU n (bxB xs)) Y a) = 0) (by kernel_rfl) (fun c21 => ?_) (fun c21 => ?_))
          · have hb : ¬ bnot p (gv (mT n) (mU n (bxB xs)) Y a) = 0 := by assumption
            refine R.go 5 (R.roundR (frm 48 [(0, .ref 9), (1, .rptr [LI vs]), (2, .rptr [AI n, LI xs]), (4, .ref 10), (5, AI vs.length), (6, AI (N : Int)), (16, AI (shl64 1 (n * (vs.length : Int)))), (17, AI (N : Int)), (20, LI vs), (21, AI vs.length), (22, AI (k : Int)), (23, .bool (decide ((k : Int) < (vs.length : Int)))), (43, .ref 9), (44, .ref 10)]) (by kernel_rfl) (by kernel_rfl) (by kernel_rfl) ?_)
            refine R.go 3 (R.left (.ret) (.tup []) (frm 55 [(0, .agg [AI n, LI xs]), (1, LLN l), (2, LN a), (3, .fn 51 []), (4, .ptr 0 0), (5, .ptr 1 0), (6, .ptr 2 0), (7, .ptr 3 0), (8, .ptr 4 0), (9, .ptr 5 0), (10, LLN (l ++ [a])), (11, AI (scode n xs (l ++ [a]))), (16, LLN l), (17, .clp 1 l.length (rows eLN l)), (18, LN a), (19, .ref 6), (20, LLN (l ++ [a])), (21, .agg [AI n, LI xs]), (22, LLN (l ++ [a])), (23, AI (scode n xs (l ++ [a]))), (24, AI (scode n xs (l ++ [a]))), (25, .bool (!decide ((scode n xs (l ++ [a])) = 0))), (27, .agg [AI n, LI xs]), (28, LLN (l ++ [a])), (29, LI vs), (30, .fn 153 [.rptr [LI vs], .rptr [AI n, LI xs]])]) (by kernel_rfl) (by kernel_rfl) (by kernel_rfl) (by kernel_rfl) ?_)
            exact R.retE (.tup [.bool false, AI 0]) (by kernel_rfl) (by kernel_rfl) (by first | (refine tupB ?_ ?_ <;> first | exact csB_bad (by assumption) | rfl | exact hm.symm | (rw [csB, decide_eq_true hm, ← hvs, fst_some (N := N) (show ∀ M, M < N → badC false n xs vs l a M = false by assumption) (by rw [csL_go (p := p) hpe hX]; simpa using hb) (by omega)]; rfl) | (rw [csB, decide_eq_true hm, ← hvs, fst_none (fun M hM => (show ∀ M, M < N → badC false n xs vs l a M = false by assumption) M (by omega))]; rfl)) | (exfalso; omega))
          · refine R.go 2 (R.round (frm 48 [(0, .ref 9), (1, .rptr [LI vs]), (2, .rptr [AI n, LI xs]), (4, .ref 10), (5, AI vs.length), (6, AI (N : Int)), (16, AI (shl64 1 (n * (vs.length : Int)))), (17, AI (N : Int)), (20, LI vs), (21, AI vs.length), (22, AI (k : Int)), (23, .bool (decide ((k : Int) < (vs.length : Int)))), (43, .ref 9), (44, .ref 10)]) (by kernel_rfl) (by kernel_rfl) (by kernel_rfl) ?_)
            refine R.go 6 (R.ar ((N : Int) + 1) (by kernel_rfl) (by omega) (by omega) (by kernel_rfl) ?_)
            exact R.go 2 (R.stop R4 (by kernel_rfl) (N5 (N + 1, Y) [0, 1, 2, 4, 5, 16, 17] (some [0, 1, 2, 3, 4, 5, 6, 7, 8, 9, 10]) _ (by kernel_rfl) (by kernel_rfl) ⟨(by omega), (by rw [hX]; exact vrow_len _ _ _), (by rw [hX]; exact vrow_out), (by exact below_succ (by assumption) (by rw [csL_go (p := p) hpe hX]; simpa using (by assumption : bnot p (gv (mT n) (mU n (bxB xs)) Y a) = 0)))⟩ (by show ((totN n vs) - (N + 1)) < ((totN n vs) - N); omega)))
    · refine R.go 1 (R.over (.tup []) (frm 55 [(0, .agg [AI n, LI xs]), (1, LLN l), (2, LN a), (3, .fn 51 []), (4, .ptr 0 0), (5, .ptr 1 0), (6, .ptr 2 0), (7, .ptr 3 0), (8, .ptr 4 0), (9, .ptr 5 0), (10, LLN (l ++ [a])), (11, AI (scode n xs (l ++ [a]))), (16, LLN l), (17, .clp 1 l.length (rows eLN l)), (18, LN a), (19, .ref 6), (20, LLN (l ++ [a])), (21, .agg [AI n, LI xs]), (22, LLN (l ++ [a])), (23, AI (scode n xs (l ++ [a]))), (24, AI (scode n xs (l ++ [a]))), (25, .bool (!decide ((scode n xs (l ++ [a])) = 0))), (27, .agg [AI n, LI xs]), (28, LLN (l ++ [a])), (29, LI vs), (30, .fn 153 [.rptr [LI vs], .rptr [AI n, LI xs]])]) (by kernel_rfl) (by kernel_rfl) (by kernel_rfl) (by kernel_rfl) ?_)
      exact R.go 6 (R.retE (.tup [.bool true, AI 0]) (by kernel_rfl) (by kernel_rfl) (by first | (refine tupB ?_ ?_ <;> first | exact csB_bad (by assumption) | rfl | exact hm.symm | (rw [csB, decide_eq_true hm, ← hvs, fst_some (N := N) (show ∀ M, M < N → badC false n xs vs l a M = false by assumption) (by rw [csL_go (p := p) hpe hX]; simpa using hb) (by omega)]; rfl) | (rw [csB, decide_eq_true hm, ← hvs, fst_none (fun M hM => (show ∀ M, M < N → badC false n xs vs l a M = false by assumption) M (by omega))]; rfl)) | (exfalso; omega)))

theorem consG_c (n : Int) (xs : List Int) (l : List (List (Int × Int))) (a : List (Int × Int)) (lx : xs.length ≤ 1048576) (hlim : lim l) (hl : a.length ≤ 1048576) : CallA Try.prog 46 [.agg [AI n, LI xs], LLN l, LN a, .fn 47 [.rptr [AI n, LI xs]]] (.tup [.bool (csB true n xs l a), AI (scode n xs (l ++ [a]))]) := by
  have hs : shortL (l ++ [a]) := shortL_app hlim hl
  have hll0 := hlim.1
  refine CallA.of Try.func46 rfl (by kernel_rfl) ?_
  refine R.go 12 (R.call true (clipLL_c l) (by kernel_rfl) rfl (by kernel_rfl) ?_)
  refine R.go 2 (R.appC eLN l [a] 28 1 24 (by kernel_rfl) eLN_one (by decide) (by first | omega | (simp <;> omega)) (by simp) (by kernel_rfl) ?_)
  refine R.go 7 (R.call false (searchCode_c n xs (l ++ [a]) (by first | omega | (simp <;> omega)) hs) (by kernel_rfl) rfl (by kernel_rfl) ?_)
  refine R.go 4 (R.frz 7 (by kernel_rfl) ?_)
  refine R.go 3 (R.condN ((scode n xs (l ++ [a])) = 0) (by kernel_rfl) (fun c1 => ?_) (fun c1 => ?_))
  · exact R.go 6 (R.retE (.tup [.bool false, AI (scode n xs (l ++ [a]))]) (by kernel_rfl) (by kernel_rfl) (by first | (refine tupB ?_ ?_ <;> first | exact csB_bad (by assumption) | rfl | exact hm.symm | (rw [csB, decide_eq_true hm, ← hvs, fst_some (N := N) (show ∀ M, M < N → badC true n xs vs l a M = false by assumption) (by rw [csG_go (p := p) hpe hX]; simpa using hb) (by omega)]; rfl) | (rw [csB, decide_eq_true hm, ← hvs, fst_none (fun M hM => (show ∀ M, M < N → badC true n xs vs l a M = false by assumption) M (by omega))]; rfl)) | (exfalso; omega)))
  · have hm : scode n xs (l ++ [a]) = 0 := by assumption
    have hsc := scode_ok hm
    have hF : allF (l ++ [a]) = true := hsc.2.1
    have hR : okFr n xs = true := hsc.1
    have hfit0 : n * ((mem (vmT (l ++ [a]) (l ++ [a]).length)).length : Int) ≤ 16 := hsc.2.2
    obtain ⟨vs, hvs⟩ : ∃ vs, vs = mem (vmT (l ++ [a]) (l ++ [a]).length) := ⟨_, rfl⟩
    have hfit : n * (vs.length : Int) ≤ 16 := by rw [hvs]; exact hfit0
    have hll := hlim.1
    have hVS : VS vs := by rw [hvs]; exact VS_vmT hF
    have hRR := okFr_rel hR
    have hb0 : 0 ≤ n ∧ n ≤ 8 ∧ (xs.length : Int) = n := ⟨hRR.1, hRR.2.1, hRR.2.2.1⟩
    have hnc : 0 ≤ n * (vs.length : Int) := Int.mul_nonneg hb0.1 (by omega)
    have htot : shl64 1 (n * (vs.length : Int)) = (totN n vs : Int) := by have := shl_rng (n * (vs.length : Int)) hnc (by omega); unfold totN; omega
    have htr := shl_rng (n * (vs.length : Int)) hnc (by omega)
    have hvl : vs.length ≤ 62 := by rw [hvs]; exact mem_le _
    have hpr := allF_app hF
    have hA := isF_okm hpr.2
    have hok : OKM 6 a := hA.1
    have hal : a.length ≤ 40 := hA.2
    have htb := totN_le ⟨hnc, hfit⟩
    refine R.go 6 (R.call true (variablesInG_c (l ++ [a]) vs (by assumption) hF (by first | omega | (simp <;> omega))).frz (by kernel_rfl) rfl (by kernel_rfl) ?_)
    refine R.call true (valuations_c n xs vs) (by kernel_rfl) rfl (by kernel_rfl) ?_
    refine R.go 2 (R.range (caps := [.rptr [LI vs], .rptr [AI n, LI xs]]) Try.func153 rfl (by kernel_rfl) (by kernel_rfl) ?_)
    intro D2 us3
    refine R.go 8 (R.call true (size_c vs) (by kernel_rfl) rfl (by kernel_rfl) ?_)
    refine R.go 7 (R.ar (n * (vs.length : Int)) (by kernel_rfl) (by omega) (by omega) (by kernel_rfl) ?_)
    refine R.shl 1 (n * (vs.length : Int)) (by kernel_rfl) (by omega) (by kernel_rfl) ?_
    refine R.go 3 (R.loop ((fun | (N, X) => (⟨(frm 48 [(0, .ref 9), (1, .rptr [LI vs]), (2, .rptr [AI n, LI xs]), (4, .ref 10), (5, AI vs.length), (16, AI (shl64 1 (n * (vs.length : Int)))), (17, AI (N : Int))]), [.box 26 [AI n, LI xs], .box 27 [LLN l], .box 28 [LN a], .box 59 [.fn 47 [.rptr [AI n, LI xs]]], .box 4 [.bool false], .box 2 [AI 0], rowA eLN 28 1 [a], .dead, .frame us3 (frm 55 [(0, .agg [AI n, LI xs]), (1, LLN l), (2, LN a), (3, .fn 47 [.rptr [AI n, LI xs]]), (4, .ptr 0 0), (5, .ptr 1 0), (6, .ptr 2 0), (7, .ptr 3 0), (8, .ptr 4 0), (9, .ptr 5 0), (10, LLN (l ++ [a])), (11, AI (scode n xs (l ++ [a]))), (16, LLN l), (17, .clp 1 l.length (rows eLN l)), (18, LN a), (19, .ref 6), (20, LLN (l ++ [a])), (21, .agg [AI n, LI xs]), (22, LLN (l ++ [a])), (23, AI (scode n xs (l ++ [a]))), (24, AI (scode n xs (l ++ [a]))), (25, .bool (!decide ((scode n xs (l ++ [a])) = 0))), (27, .agg [AI n, LI xs]), (28, LLN (l ++ [a])), (29, LI vs), (30, .fn 153 [.rptr [LI vs], .rptr [AI n, LI xs]])]), loopObj Try.f46 D2 us3 .ready, rowA eI 2 1 X]⟩ : St) : Nat × (List Int) → St)) (fun | (N, X) => ((N : Int) ≤ shl64 1 (n * (vs.length : Int))) ∧ (X.length = 6) ∧ (∀ j : Nat, j < 6 → ¬ (j : Int) ∈ vs → X.getD j 0 = 0) ∧ (∀ M, M < N → badC true n xs vs l a M = false)) (fun | (N, X) => (totN n vs) - N) (0, (List.replicate 6 0)) [0, 1, 2, 4, 5, 16, 17] none (by kernel_rfl) (by kernel_rfl) (by kernel_rfl) ⟨(by omega), (by simp), (by exact zero_out vs), (by exact fun M hM => absurd hM (by omega))⟩ ?_)
    rintro ⟨N, X⟩ ⟨h7_1, h7_2, h7_3, h7_4⟩ R4 N5
    have hfull := shl_rng n hb0.1 (by omega)
    refine R.go 5 (R.cond ((N : Int) < (shl64 1 (n * (vs.length : Int)))) (by kernel_rfl) (fun c8 => ?_) (fun c8 => ?_))
    · refine R.go 16 (R.loop ((fun | (k, Y) => (⟨(frm 48 [(0, .ref 9), (1, .rptr [LI vs]), (2, .rptr [AI n, LI xs]), (4, .ref 10), (5, AI vs.length), (6, AI (N : Int)), (16, AI (shl64 1 (n * (vs.length : Int)))), (17, AI (N : Int)), (20, LI vs), (21, AI vs.length), (22, AI (k : Int))]), [.box 26 [AI n, LI xs], .box 27 [LLN l], .box 28 [LN a], .box 59 [.fn 47 [.rptr [AI n, LI xs]]], .box 4 [.bool false], .box 2 [AI 0], rowA eLN 28 1 [a], .dead, .frame us3 (frm 55 [(0, .agg [AI n, LI xs]), (1, LLN l), (2, LN a), (3, .fn 47 [.rptr [AI n, LI xs]]), (4, .ptr 0 0), (5, .ptr 1 0), (6, .ptr 2 0), (7, .ptr 3 0), (8, .ptr 4 0), (9, .ptr 5 0), (10, LLN (l ++ [a])), (11, AI (scode n xs (l ++ [a]))), (16, LLN l), (17, .clp 1 l.length (rows eLN l)), (18, LN a), (19, .ref 6), (20, LLN (l ++ [a])), (21, .agg [AI n, LI xs]), (22, LLN (l ++ [a])), (23, AI (scode n xs (l ++ [a]))), (24, AI (scode n xs (l ++ [a]))), (25, .bool (!decide ((scode n xs (l ++ [a])) = 0))), (27, .agg [AI n, LI xs]), (28, LLN (l ++ [a])), (29, LI vs), (30, .fn 153 [.rptr [LI vs], .rptr [AI n, LI xs]])]), loopObj Try.f46 D2 us3 .ready, rowA eI 2 1 Y]⟩ : St) : Nat × (List Int) → St)) (fun | (k, Y) => (k ≤ vs.length) ∧ (PV n vs (N : Int) k Y)) (fun | (k, Y) => vs.length - k) (0, X) [0, 1, 2, 4, 5, 6, 16, 17, 20, 21, 22] none (by kernel_rfl) (by kernel_rfl) (by kernel_rfl) ⟨(by omega), (by exact pv_start (by assumption) (by assumption))⟩ ?_)
      rintro ⟨k, Y⟩ ⟨h12_1, h12_2⟩ R9 N10
      have hY : PV n vs (N : Int) k Y := by assumption
      have hYl : Y.length = 6 := hY.1
      have hg := fun h : k < vs.length => vs_get hVS h
      have hnk : k < vs.length → 0 ≤ n * ((vs.length : Int) - 1 - (k : Int)) ∧ n * ((vs.length : Int) - 1 - (k : Int)) ≤ n * (vs.length : Int) := fun h => ⟨Int.mul_nonneg hb0.1 (by omega), Int.mul_le_mul_of_nonneg_left (by omega) hb0.1⟩
      skip
      refine R.go 5 (R.cond ((k : Int) < (vs.length : Int)) (by kernel_rfl) (fun c13 => ?_) (fun c13 => ?_))
      · have hg2 := hg (by omega)
        have hnk2 := hnk (by omega)
        refine R.go 6 (R.idx eI vs 0 k (k : Int) (by kernel_rfl) rfl eI_len (by omega) (by kernel_rfl) ?_)
        refine R.go 11 (R.ar ((vs.length : Int) - 1) (by kernel_rfl) (by omega) (by omega) (by kernel_rfl) ?_)
        refine R.go 1 (R.ar (((vs.length : Int) - 1) - (k : Int)) (by kernel_rfl) (by omega) (by omega) (by kernel_rfl) ?_)
        refine R.ar (n * (((vs.length : Int) - 1) - (k : Int))) (by kernel_rfl) (by omega) (by omega) (by kernel_rfl) ?_
        refine R.shr (N : Int) (n * (((vs.length : Int) - 1) - (k : Int))) (by kernel_rfl) (by omega) (by kernel_rfl) ?_
        refine R.go 1 (R.call true (frameAll_c n xs (by omega) (by omega)) (by kernel_rfl) rfl (by kernel_rfl) ?_)
        refine R.go 1 (R.idxO 10 1 Y.length (((vs.getD k 0)).toNat) (vs.getD k 0) (by kernel_rfl) (by omega) (by omega) (by kernel_rfl) ?_)
        refine R.stI 10 2 Y (((vs.getD k 0)).toNat) (band (shr64 (N : Int) (n * (((vs.length : Int) - 1) - (k : Int)))) ((shl64 1 n) - 1)) (by kernel_rfl) (by omega) (by kernel_rfl) ?_
        refine R.go 3 (R.ar ((k : Int) + 1) (by kernel_rfl) (by omega) (by omega) (by kernel_rfl) ?_)
        exact R.go 2 (R.stop R9 (by kernel_rfl) (N10 (k + 1, Y.set (((vs.getD k 0)).toNat) (band (shr64 (N : Int) (n * (((vs.length : Int) - 1) - (k : Int)))) ((shl64 1 n) - 1))) [0, 1, 2, 4, 5, 6, 16, 17, 20, 21, 22] none _ (by kernel_rfl) (by kernel_rfl) ⟨(by omega), (by exact pv_step hY hVS (by omega) rfl)⟩ (by show (vs.length - (k + 1)) < (vs.length - k); omega)))
      · have hX : Y = vrow n vs (N : Int) := pv_end hY (by omega)
        have hYo : OKM Y.length a := by rw [hYl]; exact hok
        refine R.go 5 (R.yield 9 D2 us3 (by kernel_rfl) (by kernel_rfl) ?_)
        intro l14 us15
        refine R.go 3 (R.begin (by kernel_rfl) (by kernel_rfl) ?_)
        have hfull2 := shl_rng n hb0.1 (by omega)
        refine R.go 4 (R.call true (frameAll_c n xs (by omega) (by omega)) (by kernel_rfl) rfl (by kernel_rfl) ?_)
        refine R.go 10 (R.loop ((fun | (i, p) => (⟨(frm 55 [(4, .ptr 0 0), (6, .ptr 2 0), (7, .ptr 3 0), (8, .ptr 4 0), (9, .ptr 5 0), (12, .ref 10), (13, AI p), (34, LLN l), (35, AI l.length), (36, AI (i : Int))]), [.box 26 [AI n, LI xs], .box 27 [LLN l], .box 28 [LN a], .box 59 [.fn 47 [.rptr [AI n, LI xs]]], .box 4 [.bool false], .box 2 [AI 0], rowA eLN 28 1 [a], .dead, .frame us3 (frm 55 [(0, .agg [AI n, LI xs]), (1, LLN l), (2, LN a), (3, .fn 47 [.rptr [AI n, LI xs]]), (4, .ptr 0 0), (5, .ptr 1 0), (6, .ptr 2 0), (7, .ptr 3 0), (8, .ptr 4 0), (9, .ptr 5 0), (10, LLN (l ++ [a])), (11, AI (scode n xs (l ++ [a]))), (16, LLN l), (17, .clp 1 l.length (rows eLN l)), (18, LN a), (19, .ref 6), (20, LLN (l ++ [a])), (21, .agg [AI n, LI xs]), (22, LLN (l ++ [a])), (23, AI (scode n xs (l ++ [a]))), (24, AI (scode n xs (l ++ [a]))), (25, .bool (!decide ((scode n xs (l ++ [a])) = 0))), (27, .agg [AI n, LI xs]), (28, LLN (l ++ [a])), (29, LI vs), (30, .fn 153 [.rptr [LI vs], .rptr [AI n, LI xs]])]), loopObj Try.f46 D2 us3 .busy, rowA eI 2 1 Y, .frame us15 (frm 48 [(0, .ref 9), (1, .rptr [LI vs]), (2, .rptr [AI n, LI xs]), (4, .ref 10), (5, AI vs.length), (6, AI (N : Int)), (16, AI (shl64 1 (n * (vs.length : Int)))), (17, AI (N : Int)), (20, LI vs), (21, AI vs.length), (22, AI (k : Int)), (23, .bool (decide ((k : Int) < (vs.length : Int)))), (43, .ref 9), (44, .ref 10)])]⟩ : St) : Nat × Int → St)) (fun | (i, p) => (i ≤ l.length) ∧ (p = pmT n xs Y l i)) (fun | (i, p) => l.length - i) (0, ((shl64 1 n) - 1)) [4, 6, 7, 8, 9, 12, 13, 34, 35, 36] none (by kernel_rfl) (by kernel_rfl) (by kernel_rfl) ⟨(by omega), (by rfl)⟩ ?_)
        rintro ⟨i, p⟩ ⟨h19_1, h19_2⟩ R16 N17
        refine R.go 5 (R.cond ((i : Int) < (l.length : Int)) (by kernel_rfl) (fun c20 => ?_) (fun c20 => ?_))
        · refine R.go 5 (R.idx eLN l [] i (i : Int) (by kernel_rfl) rfl eLN_len (by omega) (by kernel_rfl) ?_)
          have hq := isF_okm (hpr.1 i (by omega))
          have hqo : OKM Y.length (l.getD i []) := by rw [hYl]; exact hq.1
          have hql : (l.getD i []).length ≤ 40 := hq.2
          refine R.go 8 (R.call false (truthSet_c n xs Y (l.getD i []) hqo (by omega) (by omega) (by first | omega | (simp <;> omega)) (by first | omega | (simp <;> omega))) (by kernel_rfl) rfl (by kernel_rfl) ?_)
          refine R.go 5 (R.ar ((i : Int) + 1) (by kernel_rfl) (by omega) (by omega) (by kernel_rfl) ?_)
          exact R.go 2 (R.stop R16 (by kernel_rfl) (N17 (i + 1, band p (gv (mT n) (mU n (bxB xs)) Y (l.getD i []))) [4, 6, 7, 8, 9, 12, 13, 34, 35, 36] none _ (by kernel_rfl) (by kernel_rfl) ⟨(by omega), (by rw [pmT, ← ‹p = pmT n xs Y l i›]; rfl)⟩ (by show (l.length - (i + 1)) < (l.length - i); omega)))
        · have hpe : p = pmT n xs Y l l.length := by rw [show l.length = i by omega]; assumption
          refine R.go 8 (R.call false (truthSet_c n xs Y a hYo (by omega) (by omega) (by first | omega | (simp <;> omega)) (by first | omega | (simp <;> omega))) (by kernel_rfl) rfl (by kernel_rfl) ?_)
          refine R.call true (GC1_c p (gv (mT n) (mU n (bxB xs)) Y a) n xs (by omega) (by omega)) (by kernel_rfl) rfl (by kernel_rfl) ?_
          refine R.go 2 (R.condM ((!decide (p = (shl64 1 n) - 1)) || decide ((gv (mT n) (mU n (bxB xs)) Y a) = (shl64 1 n) - 1)) (by kernel_rfl) (fun c21 => ?_) (fun c21 => ?_))
          · have hb : ((!decide (p = (shl64 1 n) - 1)) || decide (gv (mT n) (mU n (bxB xs)) Y a = (shl64 1 n) - 1)) = false := by assumption
            refine R.go 5 (R.roundR (frm 48 [(0, .ref 9), (1, .rptr [LI vs]), (2, .rptr [AI n, LI xs]), (4, .ref 10), (5, AI vs.length), (6, AI (N : Int)), (16, AI (shl64 1 (n * (vs.length : Int)))), (17, AI (N : Int)), (20, LI vs), (21, AI vs.length), (22, AI (k : Int)), (23, .bool (decide ((k : Int) < (vs.length : Int)))), (43, .ref 9), (44, .ref 10)]) (by kernel_rfl) (by kernel_rfl) (by kernel_rfl) ?_)
            refine R.go 3 (R.left (.ret) (.tup []) (frm 55 [(0, .agg [AI n, LI xs]), (1, LLN l), (2, LN a), (3, .fn 47 [.rptr [AI n, LI xs]]), (4, .ptr 0 0), (5, .ptr 1 0), (6, .ptr 2 0), (7, .ptr 3 0), (8, .ptr 4 0), (9, .ptr 5 0), (10, LLN (l ++ [a])), (11, AI (scode n xs (l ++ [a]))), (16, LLN l), (17, .clp 1 l.length (rows eLN l)), (18, LN a), (19, .ref 6), (20, LLN (l ++ [a])), (21, .agg [AI n, LI xs]), (22, LLN (l ++ [a])), (23, AI (scode n xs (l ++ [a]))), (24, AI (scode n xs (l ++ [a]))), (25, .bool (!decide ((scode n xs (l ++ [a])) = 0))), (27, .agg [AI n, LI xs]), (28, LLN (l ++ [a])), (29, LI vs), (30, .fn 153 [.rptr [LI vs], .rptr [AI n, LI xs]])]) (by kernel_rfl) (by kernel_rfl) (by kernel_rfl) (by kernel_rfl) ?_)
            exact R.retE (.tup [.bool false, AI 0]) (by kernel_rfl) (by kernel_rfl) (by first | (refine tupB ?_ ?_ <;> first | exact csB_bad (by assumption) | rfl | exact hm.symm | (rw [csB, decide_eq_true hm, ← hvs, fst_some (N := N) (show ∀ M, M < N → badC true n xs vs l a M = false by assumption) (by rw [csG_go (p := p) hpe hX]; simpa using hb) (by omega)]; rfl) | (rw [csB, decide_eq_true hm, ← hvs, fst_none (fun M hM => (show ∀ M, M < N → badC true n xs vs l a M = false by assumption) M (by omega))]; rfl)) | (exfalso; omega))
          · refine R.go 2 (R.round (frm 48 [(0, .ref 9), (1, .rptr [LI vs]), (2, .rptr [AI n, LI xs]), (4, .ref 10), (5, AI vs.length), (6, AI (N : Int)), (16, AI (shl64 1 (n * (vs.length : Int)))), (17, AI (N : Int)), (20, LI vs), (21, AI vs.length), (22, AI (k : Int)), (23, .bool (decide ((k : Int) < (vs.length : Int)))), (43, .ref 9), (44, .ref 10)]) (by kernel_rfl) (by kernel_rfl) (by kernel_rfl) ?_)
            refine R.go 6 (R.ar ((N : Int) + 1) (by kernel_rfl) (by omega) (by omega) (by kernel_rfl) ?_)
            exact R.go 2 (R.stop R4 (by kernel_rfl) (N5 (N + 1, Y) [0, 1, 2, 4, 5, 16, 17] (some [0, 1, 2, 3, 4, 5, 6, 7, 8, 9, 10]) _ (by kernel_rfl) (by kernel_rfl) ⟨(by omega), (by rw [hX]; exact vrow_len _ _ _), (by rw [hX]; exact vrow_out), (by exact below_succ (by assumption) (by rw [csG_go (p := p) hpe hX]; rw [(by assumption : ((!decide (p = (shl64 1 n) - 1)) || decide (gv (mT n) (mU n (bxB xs)) Y a = (shl64 1 n) - 1)) = true)]; rfl))⟩ (by show ((totN n vs) - (N + 1)) < ((totN n vs) - N); omega)))
    · refine R.go 1 (R.over (.tup []) (frm 55 [(0, .agg [AI n, LI xs]), (1, LLN l), (2, LN a), (3, .fn 47 [.rptr [AI n, LI xs]]), (4, .ptr 0 0), (5, .ptr 1 0), (6, .ptr 2 0), (7, .ptr 3 0), (8, .ptr 4 0), (9, .ptr 5 0), (10, LLN (l ++ [a])), (11, AI (scode n xs (l ++ [a]))), (16, LLN l), (17, .clp 1 l.length (rows eLN l)), (18, LN a), (19, .ref 6), (20, LLN (l ++ [a])), (21, .agg [AI n, LI xs]), (22, LLN (l ++ [a])), (23, AI (scode n xs (l ++ [a]))), (24, AI (scode n xs (l ++ [a]))), (25, .bool (!decide ((scode n xs (l ++ [a])) = 0))), (27, .agg [AI n, LI xs]), (28, LLN (l ++ [a])), (29, LI vs), (30, .fn 153 [.rptr [LI vs], .rptr [AI n, LI xs]])]) (by kernel_rfl) (by kernel_rfl) (by kernel_rfl) (by kernel_rfl) ?_)
      exact R.go 6 (R.retE (.tup [.bool true, AI 0]) (by kernel_rfl) (by kernel_rfl) (by first | (refine tupB ?_ ?_ <;> first | exact csB_bad (by assumption) | rfl | exact hm.symm | (rw [csB, decide_eq_true hm, ← hvs, fst_some (N := N) (show ∀ M, M < N → badC true n xs vs l a M = false by assumption) (by rw [csG_go (p := p) hpe hX]; simpa using hb) (by omega)]; rfl) | (rw [csB, decide_eq_true hm, ← hvs, fst_none (fun M hM => (show ∀ M, M < N → badC true n xs vs l a M = false by assumption) M (by omega))]; rfl)) | (exfalso; omega)))

end Go.Proofs.Ytejaikeemahobaa


/-! Consequences on frames: the program and the reference. -/
namespace Go.Proofs.Ytejaikeemahobaa
open Go.RowKit Go.Abs

theorem implLocal_c (n : Int) (xs : List Int) (l : List (List (Int × Int))) (a : List (Int × Int)) (lx : xs.length ≤ 1048576) (hlim : lim l) (hl : a.length ≤ 1048576) : CallA Try.prog 12 [.agg [AI n, LI xs], LLN l, LN a] (.tup [.bool (csB false n xs l a), AI (scode n xs (l ++ [a]))]) := by
  refine CallA.of Try.func12 rfl (by kernel_rfl) ?_
  refine R.go 11 (R.call true (consL_c n xs l a lx hlim hl) (by kernel_rfl) rfl (by kernel_rfl) ?_)
  exact R.go 5 (R.retE (.tup [.bool (csB false n xs l a), AI (scode n xs (l ++ [a]))]) (by kernel_rfl) (by kernel_rfl) (by rfl))

theorem specGlobal_c (n : Int) (xs : List Int) (l : List (List (Int × Int))) (a : List (Int × Int)) (lx : xs.length ≤ 1048576) (hlim : lim l) (hl : a.length ≤ 1048576) : CallA Try.prog 11 [.agg [AI n, LI xs], LLN l, LN a] (.tup [.bool (csB true n xs l a), AI (scode n xs (l ++ [a]))]) := by
  have hs : shortL (l ++ [a]) := shortL_app hlim hl
  have hll0 := hlim.1
  refine CallA.of Try.func11 rfl (by kernel_rfl) ?_
  refine R.go 7 (R.any (by decide +kernel) (by kernel_rfl) ?_)
  refine R.anyF 2 (by kernel_rfl) (np_ret _ _ _) ?_
  refine R.anyF 4 (by kernel_rfl) (np_ret _ _ _) ?_
  refine R.any3 0 1 5 (by kernel_rfl) (by kernel_rfl) ?_ ?_ ?_
  · refine R.go 2 (R.any2 1 5 (by kernel_rfl) (by kernel_rfl) ?_ ?_)
    · refine R.go 2 (R.any2 3 5 (by kernel_rfl) (by kernel_rfl) ?_ ?_)
      · refine R.app eLN [] l 1 28 1 24 (by kernel_rfl) eLN_one (by decide) (by first | omega | (simp <;> omega)) (by kernel_rfl) ?_
        refine R.go 1 (R.any1 5 (by kernel_rfl) (by kernel_rfl) ?_)
        refine R.go 2 (R.any1 6 (by kernel_rfl) (by kernel_rfl) ?_)
        refine R.app eLN ([] ++ l) [a] 1 28 1 24 (by kernel_rfl) eLN_one (by decide) (by first | omega | (simp <;> omega)) (by kernel_rfl) ?_
        refine R.go 1 (R.any1 7 (by kernel_rfl) (by kernel_rfl) ?_)
        refine R.call false (l06Code_c n xs ([] ++ l ++ [a]) (by first | omega | (simp <;> omega)) (by first | assumption | exact shortL_one (by omega))) (by kernel_rfl) rfl (by kernel_rfl) ?_
        refine R.go 1 (R.any1 8 (by kernel_rfl) (by kernel_rfl) ?_)
        refine R.go 2 (R.any0 (by kernel_rfl) ?_)
        refine R.go 6 (R.condN ((scode n xs ([] ++ l ++ [a])) = 0) (by kernel_rfl) (fun c1 => ?_) (fun c1 => ?_))
        · exact R.go 6 (R.retE (.tup [.bool false, AI (scode n xs ([] ++ l ++ [a]))]) (by kernel_rfl) (by kernel_rfl) (by first | (refine tupB ?_ ?_ <;> first | exact csB_bad (by assumption) | rfl | exact hm.symm | (rw [csB, decide_eq_true hm, Bool.true_and])) | (exfalso; omega)))
        · have hm : scode n xs (l ++ [a]) = 0 := by assumption
          have hsc := scode_ok hm
          have hF : allF (l ++ [a]) = true := hsc.2.1
          have hR : okFr n xs = true := hsc.1
          have hfit0 : n * ((mem (vmT (l ++ [a]) (l ++ [a]).length)).length : Int) ≤ 16 := hsc.2.2
          refine R.go 6 (R.call true (l06Follows_c n xs l a true hF hR hfit0 hlim hl) (by kernel_rfl) rfl (by kernel_rfl) ?_)
          exact R.go 3 (R.retE (.tup [.bool ((fstN (badC true n xs (mem (vmT (l ++ [a]) (l ++ [a]).length)) l a) (totN n (mem (vmT (l ++ [a]) (l ++ [a]).length)))).isNone), AI 0]) (by kernel_rfl) (by kernel_rfl) (by first | (refine tupB ?_ ?_ <;> first | exact csB_bad (by assumption) | rfl | exact hm.symm | (rw [csB, decide_eq_true hm, Bool.true_and])) | (exfalso; omega)))
      · refine R.go 2 (R.any1 3 (by kernel_rfl) (by kernel_rfl) ?_)
        refine R.app eLN [] l 1 28 1 24 (by kernel_rfl) eLN_one (by decide) (by first | omega | (simp <;> omega)) (by kernel_rfl) ?_
        refine R.go 1 (R.any1 6 (by kernel_rfl) (by kernel_rfl) ?_)
        refine R.app eLN ([] ++ l) [a] 1 28 1 24 (by kernel_rfl) eLN_one (by decide) (by first | omega | (simp <;> omega)) (by kernel_rfl) ?_
        refine R.go 1 (R.any1 7 (by kernel_rfl) (by kernel_rfl) ?_)
        refine R.call false (l06Code_c n xs ([] ++ l ++ [a]) (by first | omega | (simp <;> omega)) (by first | assumption | exact shortL_one (by omega))) (by kernel_rfl) rfl (by kernel_rfl) ?_
        refine R.go 1 (R.any1 8 (by kernel_rfl) (by kernel_rfl) ?_)
        refine R.go 2 (R.any0 (by kernel_rfl) ?_)
        refine R.go 6 (R.condN ((scode n xs ([] ++ l ++ [a])) = 0) (by kernel_rfl) (fun c2 => ?_) (fun c2 => ?_))
        · exact R.go 6 (R.retE (.tup [.bool false, AI (scode n xs ([] ++ l ++ [a]))]) (by kernel_rfl) (by kernel_rfl) (by first | (refine tupB ?_ ?_ <;> first | exact csB_bad (by assumption) | rfl | exact hm.symm | (rw [csB, decide_eq_true hm, Bool.true_and])) | (exfalso; omega)))
        · have hm : scode n xs (l ++ [a]) = 0 := by assumption
          have hsc := scode_ok hm
          have hF : allF (l ++ [a]) = true := hsc.2.1
          have hR : okFr n xs = true := hsc.1
          have hfit0 : n * ((mem (vmT (l ++ [a]) (l ++ [a]).length)).length : Int) ≤ 16 := hsc.2.2
          refine R.go 6 (R.call true (l06Follows_c n xs l a true hF hR hfit0 hlim hl) (by kernel_rfl) rfl (by kernel_rfl) ?_)
          exact R.go 3 (R.retE (.tup [.bool ((fstN (badC true n xs (mem (vmT (l ++ [a]) (l ++ [a]).length)) l a) (totN n (mem (vmT (l ++ [a]) (l ++ [a]).length)))).isNone), AI 0]) (by kernel_rfl) (by kernel_rfl) (by first | (refine tupB ?_ ?_ <;> first | exact csB_bad (by assumption) | rfl | exact hm.symm | (rw [csB, decide_eq_true hm, Bool.true_and])) | (exfalso; omega)))
    · refine R.go 2 (R.any1 1 (by kernel_rfl) (by kernel_rfl) ?_)
      refine R.go 2 (R.any1 3 (by kernel_rfl) (by kernel_rfl) ?_)
      refine R.app eLN [] l 2 28 1 24 (by kernel_rfl) eLN_one (by decide) (by first | omega | (simp <;> omega)) (by kernel_rfl) ?_
      refine R.go 1 (R.any1 6 (by kernel_rfl) (by kernel_rfl) ?_)
      refine R.app eLN ([] ++ l) [a] 2 28 1 24 (by kernel_rfl) eLN_one (by decide) (by first | omega | (simp <;> omega)) (by kernel_rfl) ?_
      refine R.go 1 (R.any1 7 (by kernel_rfl) (by kernel_rfl) ?_)
      refine R.call false (l06Code_c n xs ([] ++ l ++ [a]) (by first | omega | (simp <;> omega)) (by first | assumption | exact shortL_one (by omega))) (by kernel_rfl) rfl (by kernel_rfl) ?_
      refine R.go 1 (R.any1 8 (by kernel_rfl) (by kernel_rfl) ?_)
      refine R.go 2 (R.any0 (by kernel_rfl) ?_)
      refine R.go 6 (R.condN ((scode n xs ([] ++ l ++ [a])) = 0) (by kernel_rfl) (fun c3 => ?_) (fun c3 => ?_))
      · exact R.go 6 (R.retE (.tup [.bool false, AI (scode n xs ([] ++ l ++ [a]))]) (by kernel_rfl) (by kernel_rfl) (by first | (refine tupB ?_ ?_ <;> first | exact csB_bad (by assumption) | rfl | exact hm.symm | (rw [csB, decide_eq_true hm, Bool.true_and])) | (exfalso; omega)))
      · have hm : scode n xs (l ++ [a]) = 0 := by assumption
        have hsc := scode_ok hm
        have hF : allF (l ++ [a]) = true := hsc.2.1
        have hR : okFr n xs = true := hsc.1
        have hfit0 : n * ((mem (vmT (l ++ [a]) (l ++ [a]).length)).length : Int) ≤ 16 := hsc.2.2
        refine R.go 6 (R.call true (l06Follows_c n xs l a true hF hR hfit0 hlim hl) (by kernel_rfl) rfl (by kernel_rfl) ?_)
        exact R.go 3 (R.retE (.tup [.bool ((fstN (badC true n xs (mem (vmT (l ++ [a]) (l ++ [a]).length)) l a) (totN n (mem (vmT (l ++ [a]) (l ++ [a]).length)))).isNone), AI 0]) (by kernel_rfl) (by kernel_rfl) (by first | (refine tupB ?_ ?_ <;> first | exact csB_bad (by assumption) | rfl | exact hm.symm | (rw [csB, decide_eq_true hm, Bool.true_and])) | (exfalso; omega)))
  · refine R.go 2 (R.any3 0 3 5 (by kernel_rfl) (by kernel_rfl) ?_ ?_ ?_)
    · refine R.go 2 (R.any2 3 5 (by kernel_rfl) (by kernel_rfl) ?_ ?_)
      · refine R.app eLN [] l 1 28 1 24 (by kernel_rfl) eLN_one (by decide) (by first | omega | (simp <;> omega)) (by kernel_rfl) ?_
        refine R.go 1 (R.any1 5 (by kernel_rfl) (by kernel_rfl) ?_)
        refine R.go 2 (R.any1 6 (by kernel_rfl) (by kernel_rfl) ?_)
        refine R.app eLN ([] ++ l) [a] 1 28 1 24 (by kernel_rfl) eLN_one (by decide) (by first | omega | (simp <;> omega)) (by kernel_rfl) ?_
        refine R.go 1 (R.any1 7 (by kernel_rfl) (by kernel_rfl) ?_)
        refine R.call false (l06Code_c n xs ([] ++ l ++ [a]) (by first | omega | (simp <;> omega)) (by first | assumption | exact shortL_one (by omega))) (by kernel_rfl) rfl (by kernel_rfl) ?_
        refine R.go 1 (R.any1 8 (by kernel_rfl) (by kernel_rfl) ?_)
        refine R.go 2 (R.any0 (by kernel_rfl) ?_)
        refine R.go 6 (R.condN ((scode n xs ([] ++ l ++ [a])) = 0) (by kernel_rfl) (fun c4 => ?_) (fun c4 => ?_))
        · exact R.go 6 (R.retE (.tup [.bool false, AI (scode n xs ([] ++ l ++ [a]))]) (by kernel_rfl) (by kernel_rfl) (by first | (refine tupB ?_ ?_ <;> first | exact csB_bad (by assumption) | rfl | exact hm.symm | (rw [csB, decide_eq_true hm, Bool.true_and])) | (exfalso; omega)))
        · have hm : scode n xs (l ++ [a]) = 0 := by assumption
          have hsc := scode_ok hm
          have hF : allF (l ++ [a]) = true := hsc.2.1
          have hR : okFr n xs = true := hsc.1
          have hfit0 : n * ((mem (vmT (l ++ [a]) (l ++ [a]).length)).length : Int) ≤ 16 := hsc.2.2
          refine R.go 6 (R.call true (l06Follows_c n xs l a true hF hR hfit0 hlim hl) (by kernel_rfl) rfl (by kernel_rfl) ?_)
          exact R.go 3 (R.retE (.tup [.bool ((fstN (badC true n xs (mem (vmT (l ++ [a]) (l ++ [a]).length)) l a) (totN n (mem (vmT (l ++ [a]) (l ++ [a]).length)))).isNone), AI 0]) (by kernel_rfl) (by kernel_rfl) (by first | (refine tupB ?_ ?_ <;> first | exact csB_bad (by assumption) | rfl | exact hm.symm | (rw [csB, decide_eq_true hm, Bool.true_and])) | (exfalso; omega)))
      · refine R.go 2 (R.any1 3 (by kernel_rfl) (by kernel_rfl) ?_)
        refine R.app eLN [] l 1 28 1 24 (by kernel_rfl) eLN_one (by decide) (by first | omega | (simp <;> omega)) (by kernel_rfl) ?_
        refine R.go 1 (R.any1 6 (by kernel_rfl) (by kernel_rfl) ?_)
        refine R.app eLN ([] ++ l) [a] 1 28 1 24 (by kernel_rfl) eLN_one (by decide) (by first | omega | (simp <;> omega)) (by kernel_rfl) ?_
        refine R.go 1 (R.any1 7 (by kernel_rfl) (by kernel_rfl) ?_)
        refine R.call false (l06Code_c n xs ([] ++ l ++ [a]) (by first | omega | (simp <;> omega)) (by first | assumption | exact shortL_one (by omega))) (by kernel_rfl) rfl (by kernel_rfl) ?_
        refine R.go 1 (R.any1 8 (by kernel_rfl) (by kernel_rfl) ?_)
        refine R.go 2 (R.any0 (by kernel_rfl) ?_)
        refine R.go 6 (R.condN ((scode n xs ([] ++ l ++ [a])) = 0) (by kernel_rfl) (fun c5 => ?_) (fun c5 => ?_))
        · exact R.go 6 (R.retE (.tup [.bool false, AI (scode n xs ([] ++ l ++ [a]))]) (by kernel_rfl) (by kernel_rfl) (by first | (refine tupB ?_ ?_ <;> first | exact csB_bad (by assumption) | rfl | exact hm.symm | (rw [csB, decide_eq_true hm, Bool.true_and])) | (exfalso; omega)))
        · have hm : scode n xs (l ++ [a]) = 0 := by assumption
          have hsc := scode_ok hm
          have hF : allF (l ++ [a]) = true := hsc.2.1
          have hR : okFr n xs = true := hsc.1
          have hfit0 : n * ((mem (vmT (l ++ [a]) (l ++ [a]).length)).length : Int) ≤ 16 := hsc.2.2
          refine R.go 6 (R.call true (l06Follows_c n xs l a true hF hR hfit0 hlim hl) (by kernel_rfl) rfl (by kernel_rfl) ?_)
          exact R.go 3 (R.retE (.tup [.bool ((fstN (badC true n xs (mem (vmT (l ++ [a]) (l ++ [a]).length)) l a) (totN n (mem (vmT (l ++ [a]) (l ++ [a]).length)))).isNone), AI 0]) (by kernel_rfl) (by kernel_rfl) (by first | (refine tupB ?_ ?_ <;> first | exact csB_bad (by assumption) | rfl | exact hm.symm | (rw [csB, decide_eq_true hm, Bool.true_and])) | (exfalso; omega)))
    · refine R.app eLN [] l 1 28 1 24 (by kernel_rfl) eLN_one (by decide) (by first | omega | (simp <;> omega)) (by kernel_rfl) ?_
      refine R.go 1 (R.any2 0 5 (by kernel_rfl) (by kernel_rfl) ?_ ?_)
      · refine R.go 2 (R.any1 5 (by kernel_rfl) (by kernel_rfl) ?_)
        refine R.go 2 (R.any1 6 (by kernel_rfl) (by kernel_rfl) ?_)
        refine R.app eLN ([] ++ l) [a] 1 28 1 24 (by kernel_rfl) eLN_one (by decide) (by first | omega | (simp <;> omega)) (by kernel_rfl) ?_
        refine R.go 1 (R.any1 7 (by kernel_rfl) (by kernel_rfl) ?_)
        refine R.call false (l06Code_c n xs ([] ++ l ++ [a]) (by first | omega | (simp <;> omega)) (by first | assumption | exact shortL_one (by omega))) (by kernel_rfl) rfl (by kernel_rfl) ?_
        refine R.go 1 (R.any1 8 (by kernel_rfl) (by kernel_rfl) ?_)
        refine R.go 2 (R.any0 (by kernel_rfl) ?_)
        refine R.go 6 (R.condN ((scode n xs ([] ++ l ++ [a])) = 0) (by kernel_rfl) (fun c6 => ?_) (fun c6 => ?_))
        · exact R.go 6 (R.retE (.tup [.bool false, AI (scode n xs ([] ++ l ++ [a]))]) (by kernel_rfl) (by kernel_rfl) (by first | (refine tupB ?_ ?_ <;> first | exact csB_bad (by assumption) | rfl | exact hm.symm | (rw [csB, decide_eq_true hm, Bool.true_and])) | (exfalso; omega)))
        · have hm : scode n xs (l ++ [a]) = 0 := by assumption
          have hsc := scode_ok hm
          have hF : allF (l ++ [a]) = true := hsc.2.1
          have hR : okFr n xs = true := hsc.1
          have hfit0 : n * ((mem (vmT (l ++ [a]) (l ++ [a]).length)).length : Int) ≤ 16 := hsc.2.2
          refine R.go 6 (R.call true (l06Follows_c n xs l a true hF hR hfit0 hlim hl) (by kernel_rfl) rfl (by kernel_rfl) ?_)
          exact R.go 3 (R.retE (.tup [.bool ((fstN (badC true n xs (mem (vmT (l ++ [a]) (l ++ [a]).length)) l a) (totN n (mem (vmT (l ++ [a]) (l ++ [a]).length)))).isNone), AI 0]) (by kernel_rfl) (by kernel_rfl) (by first | (refine tupB ?_ ?_ <;> first | exact csB_bad (by assumption) | rfl | exact hm.symm | (rw [csB, decide_eq_true hm, Bool.true_and])) | (exfalso; omega)))
      · refine R.go 2 (R.any2 0 6 (by kernel_rfl) (by kernel_rfl) ?_ ?_)
        · refine R.go 2 (R.any1 6 (by kernel_rfl) (by kernel_rfl) ?_)
          refine R.app eLN ([] ++ l) [a] 1 28 1 24 (by kernel_rfl) eLN_one (by decide) (by first | omega | (simp <;> omega)) (by kernel_rfl) ?_
          refine R.go 1 (R.any1 7 (by kernel_rfl) (by kernel_rfl) ?_)
          refine R.call false (l06Code_c n xs ([] ++ l ++ [a]) (by first | omega | (simp <;> omega)) (by first | assumption | exact shortL_one (by omega))) (by kernel_rfl) rfl (by kernel_rfl) ?_
          refine R.go 1 (R.any1 8 (by kernel_rfl) (by kernel_rfl) ?_)
          refine R.go 2 (R.any0 (by kernel_rfl) ?_)
          refine R.go 6 (R.condN ((scode n xs ([] ++ l ++ [a])) = 0) (by kernel_rfl) (fun c7 => ?_) (fun c7 => ?_))
          · exact R.go 6 (R.retE (.tup [.bool false, AI (scode n xs ([] ++ l ++ [a]))]) (by kernel_rfl) (by kernel_rfl) (by first | (refine tupB ?_ ?_ <;> first | exact csB_bad (by assumption) | rfl | exact hm.symm | (rw [csB, decide_eq_true hm, Bool.true_and])) | (exfalso; omega)))
          · have hm : scode n xs (l ++ [a]) = 0 := by assumption
            have hsc := scode_ok hm
            have hF : allF (l ++ [a]) = true := hsc.2.1
            have hR : okFr n xs = true := hsc.1
            have hfit0 : n * ((mem (vmT (l ++ [a]) (l ++ [a]).length)).length : Int) ≤ 16 := hsc.2.2
            refine R.go 6 (R.call true (l06Follows_c n xs l a true hF hR hfit0 hlim hl) (by kernel_rfl) rfl (by kernel_rfl) ?_)
            exact R.go 3 (R.retE (.tup [.bool ((fstN (badC true n xs (mem (vmT (l ++ [a]) (l ++ [a]).length)) l a) (totN n (mem (vmT (l ++ [a]) (l ++ [a]).length)))).isNone), AI 0]) (by kernel_rfl) (by kernel_rfl) (by first | (refine tupB ?_ ?_ <;> first | exact csB_bad (by assumption) | rfl | exact hm.symm | (rw [csB, decide_eq_true hm, Bool.true_and])) | (exfalso; omega)))
        · refine R.app eLN ([] ++ l) [a] 1 28 1 24 (by kernel_rfl) eLN_one (by decide) (by first | omega | (simp <;> omega)) (by kernel_rfl) ?_
          refine R.go 1 (R.any1 0 (by kernel_rfl) (by kernel_rfl) ?_)
          refine R.go 2 (R.any1 7 (by kernel_rfl) (by kernel_rfl) ?_)
          refine R.call false (l06Code_c n xs ([] ++ l ++ [a]) (by first | omega | (simp <;> omega)) (by first | assumption | exact shortL_one (by omega))) (by kernel_rfl) rfl (by kernel_rfl) ?_
          refine R.go 1 (R.any1 8 (by kernel_rfl) (by kernel_rfl) ?_)
          refine R.go 2 (R.any0 (by kernel_rfl) ?_)
          refine R.go 6 (R.condN ((scode n xs ([] ++ l ++ [a])) = 0) (by kernel_rfl) (fun c8 => ?_) (fun c8 => ?_))
          · exact R.go 6 (R.retE (.tup [.bool false, AI (scode n xs ([] ++ l ++ [a]))]) (by kernel_rfl) (by kernel_rfl) (by first | (refine tupB ?_ ?_ <;> first | exact csB_bad (by assumption) | rfl | exact hm.symm | (rw [csB, decide_eq_true hm, Bool.true_and])) | (exfalso; omega)))
          · have hm : scode n xs (l ++ [a]) = 0 := by assumption
            have hsc := scode_ok hm
            have hF : allF (l ++ [a]) = true := hsc.2.1
            have hR : okFr n xs = true := hsc.1
            have hfit0 : n * ((mem (vmT (l ++ [a]) (l ++ [a]).length)).length : Int) ≤ 16 := hsc.2.2
            refine R.go 6 (R.call true (l06Follows_c n xs l a true hF hR hfit0 hlim hl) (by kernel_rfl) rfl (by kernel_rfl) ?_)
            exact R.go 3 (R.retE (.tup [.bool ((fstN (badC true n xs (mem (vmT (l ++ [a]) (l ++ [a]).length)) l a) (totN n (mem (vmT (l ++ [a]) (l ++ [a]).length)))).isNone), AI 0]) (by kernel_rfl) (by kernel_rfl) (by first | (refine tupB ?_ ?_ <;> first | exact csB_bad (by assumption) | rfl | exact hm.symm | (rw [csB, decide_eq_true hm, Bool.true_and])) | (exfalso; omega)))
    · refine R.go 2 (R.any2 0 3 (by kernel_rfl) (by kernel_rfl) ?_ ?_)
      · refine R.go 2 (R.any1 3 (by kernel_rfl) (by kernel_rfl) ?_)
        refine R.app eLN [] l 1 28 1 24 (by kernel_rfl) eLN_one (by decide) (by first | omega | (simp <;> omega)) (by kernel_rfl) ?_
        refine R.go 1 (R.any1 6 (by kernel_rfl) (by kernel_rfl) ?_)
        refine R.app eLN ([] ++ l) [a] 1 28 1 24 (by kernel_rfl) eLN_one (by decide) (by first | omega | (simp <;> omega)) (by kernel_rfl) ?_
        refine R.go 1 (R.any1 7 (by kernel_rfl) (by kernel_rfl) ?_)
        refine R.call false (l06Code_c n xs ([] ++ l ++ [a]) (by first | omega | (simp <;> omega)) (by first | assumption | exact shortL_one (by omega))) (by kernel_rfl) rfl (by kernel_rfl) ?_
        refine R.go 1 (R.any1 8 (by kernel_rfl) (by kernel_rfl) ?_)
        refine R.go 2 (R.any0 (by kernel_rfl) ?_)
        refine R.go 6 (R.condN ((scode n xs ([] ++ l ++ [a])) = 0) (by kernel_rfl) (fun c9 => ?_) (fun c9 => ?_))
        · exact R.go 6 (R.retE (.tup [.bool false, AI (scode n xs ([] ++ l ++ [a]))]) (by kernel_rfl) (by kernel_rfl) (by first | (refine tupB ?_ ?_ <;> first | exact csB_bad (by assumption) | rfl | exact hm.symm | (rw [csB, decide_eq_true hm, Bool.true_and])) | (exfalso; omega)))
        · have hm : scode n xs (l ++ [a]) = 0 := by assumption
          have hsc := scode_ok hm
          have hF : allF (l ++ [a]) = true := hsc.2.1
          have hR : okFr n xs = true := hsc.1
          have hfit0 : n * ((mem (vmT (l ++ [a]) (l ++ [a]).length)).length : Int) ≤ 16 := hsc.2.2
          refine R.go 6 (R.call true (l06Follows_c n xs l a true hF hR hfit0 hlim hl) (by kernel_rfl) rfl (by kernel_rfl) ?_)
          exact R.go 3 (R.retE (.tup [.bool ((fstN (badC true n xs (mem (vmT (l ++ [a]) (l ++ [a]).length)) l a) (totN n (mem (vmT (l ++ [a]) (l ++ [a]).length)))).isNone), AI 0]) (by kernel_rfl) (by kernel_rfl) (by first | (refine tupB ?_ ?_ <;> first | exact csB_bad (by assumption) | rfl | exact hm.symm | (rw [csB, decide_eq_true hm, Bool.true_and])) | (exfalso; omega)))
      · refine R.app eLN [] l 1 28 1 24 (by kernel_rfl) eLN_one (by decide) (by first | omega | (simp <;> omega)) (by kernel_rfl) ?_
        refine R.go 1 (R.any2 0 6 (by kernel_rfl) (by kernel_rfl) ?_ ?_)
        · refine R.go 2 (R.any1 6 (by kernel_rfl) (by kernel_rfl) ?_)
          refine R.app eLN ([] ++ l) [a] 1 28 1 24 (by kernel_rfl) eLN_one (by decide) (by first | omega | (simp <;> omega)) (by kernel_rfl) ?_
          refine R.go 1 (R.any1 7 (by kernel_rfl) (by kernel_rfl) ?_)
          refine R.call false (l06Code_c n xs ([] ++ l ++ [a]) (by first | omega | (simp <;> omega)) (by first | assumption | exact shortL_one (by omega))) (by kernel_rfl) rfl (by kernel_rfl) ?_
          refine R.go 1 (R.any1 8 (by kernel_rfl) (by kernel_rfl) ?_)
          refine R.go 2 (R.any0 (by kernel_rfl) ?_)
          refine R.go 6 (R.condN ((scode n xs ([] ++ l ++ [a])) = 0) (by kernel_rfl) (fun c10 => ?_) (fun c10 => ?_))
          · exact R.go 6 (R.retE (.tup [.bool false, AI (scode n xs ([] ++ l ++ [a]))]) (by kernel_rfl) (by kernel_rfl) (by first | (refine tupB ?_ ?_ <;> first | exact csB_bad (by assumption) | rfl | exact hm.symm | (rw [csB, decide_eq_true hm, Bool.true_and])) | (exfalso; omega)))
          · have hm : scode n xs (l ++ [a]) = 0 := by assumption
            have hsc := scode_ok hm
            have hF : allF (l ++ [a]) = true := hsc.2.1
            have hR : okFr n xs = true := hsc.1
            have hfit0 : n * ((mem (vmT (l ++ [a]) (l ++ [a]).length)).length : Int) ≤ 16 := hsc.2.2
            refine R.go 6 (R.call true (l06Follows_c n xs l a true hF hR hfit0 hlim hl) (by kernel_rfl) rfl (by kernel_rfl) ?_)
            exact R.go 3 (R.retE (.tup [.bool ((fstN (badC true n xs (mem (vmT (l ++ [a]) (l ++ [a]).length)) l a) (totN n (mem (vmT (l ++ [a]) (l ++ [a]).length)))).isNone), AI 0]) (by kernel_rfl) (by kernel_rfl) (by first | (refine tupB ?_ ?_ <;> first | exact csB_bad (by assumption) | rfl | exact hm.symm | (rw [csB, decide_eq_true hm, Bool.true_and])) | (exfalso; omega)))
        · refine R.app eLN ([] ++ l) [a] 1 28 1 24 (by kernel_rfl) eLN_one (by decide) (by first | omega | (simp <;> omega)) (by kernel_rfl) ?_
          refine R.go 1 (R.any1 0 (by kernel_rfl) (by kernel_rfl) ?_)
          refine R.go 2 (R.any1 7 (by kernel_rfl) (by kernel_rfl) ?_)
          refine R.call false (l06Code_c n xs ([] ++ l ++ [a]) (by first | omega | (simp <;> omega)) (by first | assumption | exact shortL_one (by omega))) (by kernel_rfl) rfl (by kernel_rfl) ?_
          refine R.go 1 (R.any1 8 (by kernel_rfl) (by kernel_rfl) ?_)
          refine R.go 2 (R.any0 (by kernel_rfl) ?_)
          refine R.go 6 (R.condN ((scode n xs ([] ++ l ++ [a])) = 0) (by kernel_rfl) (fun c11 => ?_) (fun c11 => ?_))
          · exact R.go 6 (R.retE (.tup [.bool false, AI (scode n xs ([] ++ l ++ [a]))]) (by kernel_rfl) (by kernel_rfl) (by first | (refine tupB ?_ ?_ <;> first | exact csB_bad (by assumption) | rfl | exact hm.symm | (rw [csB, decide_eq_true hm, Bool.true_and])) | (exfalso; omega)))
          · have hm : scode n xs (l ++ [a]) = 0 := by assumption
            have hsc := scode_ok hm
            have hF : allF (l ++ [a]) = true := hsc.2.1
            have hR : okFr n xs = true := hsc.1
            have hfit0 : n * ((mem (vmT (l ++ [a]) (l ++ [a]).length)).length : Int) ≤ 16 := hsc.2.2
            refine R.go 6 (R.call true (l06Follows_c n xs l a true hF hR hfit0 hlim hl) (by kernel_rfl) rfl (by kernel_rfl) ?_)
            exact R.go 3 (R.retE (.tup [.bool ((fstN (badC true n xs (mem (vmT (l ++ [a]) (l ++ [a]).length)) l a) (totN n (mem (vmT (l ++ [a]) (l ++ [a]).length)))).isNone), AI 0]) (by kernel_rfl) (by kernel_rfl) (by first | (refine tupB ?_ ?_ <;> first | exact csB_bad (by assumption) | rfl | exact hm.symm | (rw [csB, decide_eq_true hm, Bool.true_and])) | (exfalso; omega)))
  · refine R.go 2 (R.any2 0 1 (by kernel_rfl) (by kernel_rfl) ?_ ?_)
    · refine R.go 2 (R.any1 1 (by kernel_rfl) (by kernel_rfl) ?_)
      refine R.go 2 (R.any1 3 (by kernel_rfl) (by kernel_rfl) ?_)
      refine R.app eLN [] l 2 28 1 24 (by kernel_rfl) eLN_one (by decide) (by first | omega | (simp <;> omega)) (by kernel_rfl) ?_
      refine R.go 1 (R.any1 6 (by kernel_rfl) (by kernel_rfl) ?_)
      refine R.app eLN ([] ++ l) [a] 2 28 1 24 (by kernel_rfl) eLN_one (by decide) (by first | omega | (simp <;> omega)) (by kernel_rfl) ?_
      refine R.go 1 (R.any1 7 (by kernel_rfl) (by kernel_rfl) ?_)
      refine R.call false (l06Code_c n xs ([] ++ l ++ [a]) (by first | omega | (simp <;> omega)) (by first | assumption | exact shortL_one (by omega))) (by kernel_rfl) rfl (by kernel_rfl) ?_
      refine R.go 1 (R.any1 8 (by kernel_rfl) (by kernel_rfl) ?_)
      refine R.go 2 (R.any0 (by kernel_rfl) ?_)
      refine R.go 6 (R.condN ((scode n xs ([] ++ l ++ [a])) = 0) (by kernel_rfl) (fun c12 => ?_) (fun c12 => ?_))
      · exact R.go 6 (R.retE (.tup [.bool false, AI (scode n xs ([] ++ l ++ [a]))]) (by kernel_rfl) (by kernel_rfl) (by first | (refine tupB ?_ ?_ <;> first | exact csB_bad (by assumption) | rfl | exact hm.symm | (rw [csB, decide_eq_true hm, Bool.true_and])) | (exfalso; omega)))
      · have hm : scode n xs (l ++ [a]) = 0 := by assumption
        have hsc := scode_ok hm
        have hF : allF (l ++ [a]) = true := hsc.2.1
        have hR : okFr n xs = true := hsc.1
        have hfit0 : n * ((mem (vmT (l ++ [a]) (l ++ [a]).length)).length : Int) ≤ 16 := hsc.2.2
        refine R.go 6 (R.call true (l06Follows_c n xs l a true hF hR hfit0 hlim hl) (by kernel_rfl) rfl (by kernel_rfl) ?_)
        exact R.go 3 (R.retE (.tup [.bool ((fstN (badC true n xs (mem (vmT (l ++ [a]) (l ++ [a]).length)) l a) (totN n (mem (vmT (l ++ [a]) (l ++ [a]).length)))).isNone), AI 0]) (by kernel_rfl) (by kernel_rfl) (by first | (refine tupB ?_ ?_ <;> first | exact csB_bad (by assumption) | rfl | exact hm.symm | (rw [csB, decide_eq_true hm, Bool.true_and])) | (exfalso; omega)))
    · refine R.go 2 (R.any2 0 3 (by kernel_rfl) (by kernel_rfl) ?_ ?_)
      · refine R.go 2 (R.any1 3 (by kernel_rfl) (by kernel_rfl) ?_)
        refine R.app eLN [] l 2 28 1 24 (by kernel_rfl) eLN_one (by decide) (by first | omega | (simp <;> omega)) (by kernel_rfl) ?_
        refine R.go 1 (R.any1 6 (by kernel_rfl) (by kernel_rfl) ?_)
        refine R.app eLN ([] ++ l) [a] 2 28 1 24 (by kernel_rfl) eLN_one (by decide) (by first | omega | (simp <;> omega)) (by kernel_rfl) ?_
        refine R.go 1 (R.any1 7 (by kernel_rfl) (by kernel_rfl) ?_)
        refine R.call false (l06Code_c n xs ([] ++ l ++ [a]) (by first | omega | (simp <;> omega)) (by first | assumption | exact shortL_one (by omega))) (by kernel_rfl) rfl (by kernel_rfl) ?_
        refine R.go 1 (R.any1 8 (by kernel_rfl) (by kernel_rfl) ?_)
        refine R.go 2 (R.any0 (by kernel_rfl) ?_)
        refine R.go 6 (R.condN ((scode n xs ([] ++ l ++ [a])) = 0) (by kernel_rfl) (fun c13 => ?_) (fun c13 => ?_))
        · exact R.go 6 (R.retE (.tup [.bool false, AI (scode n xs ([] ++ l ++ [a]))]) (by kernel_rfl) (by kernel_rfl) (by first | (refine tupB ?_ ?_ <;> first | exact csB_bad (by assumption) | rfl | exact hm.symm | (rw [csB, decide_eq_true hm, Bool.true_and])) | (exfalso; omega)))
        · have hm : scode n xs (l ++ [a]) = 0 := by assumption
          have hsc := scode_ok hm
          have hF : allF (l ++ [a]) = true := hsc.2.1
          have hR : okFr n xs = true := hsc.1
          have hfit0 : n * ((mem (vmT (l ++ [a]) (l ++ [a]).length)).length : Int) ≤ 16 := hsc.2.2
          refine R.go 6 (R.call true (l06Follows_c n xs l a true hF hR hfit0 hlim hl) (by kernel_rfl) rfl (by kernel_rfl) ?_)
          exact R.go 3 (R.retE (.tup [.bool ((fstN (badC true n xs (mem (vmT (l ++ [a]) (l ++ [a]).length)) l a) (totN n (mem (vmT (l ++ [a]) (l ++ [a]).length)))).isNone), AI 0]) (by kernel_rfl) (by kernel_rfl) (by first | (refine tupB ?_ ?_ <;> first | exact csB_bad (by assumption) | rfl | exact hm.symm | (rw [csB, decide_eq_true hm, Bool.true_and])) | (exfalso; omega)))
      · refine R.app eLN [] l 2 28 1 24 (by kernel_rfl) eLN_one (by decide) (by first | omega | (simp <;> omega)) (by kernel_rfl) ?_
        refine R.go 1 (R.any2 0 6 (by kernel_rfl) (by kernel_rfl) ?_ ?_)
        · refine R.go 2 (R.any1 6 (by kernel_rfl) (by kernel_rfl) ?_)
          refine R.app eLN ([] ++ l) [a] 2 28 1 24 (by kernel_rfl) eLN_one (by decide) (by first | omega | (simp <;> omega)) (by kernel_rfl) ?_
          refine R.go 1 (R.any1 7 (by kernel_rfl) (by kernel_rfl) ?_)
          refine R.call false (l06Code_c n xs ([] ++ l ++ [a]) (by first | omega | (simp <;> omega)) (by first | assumption | exact shortL_one (by omega))) (by kernel_rfl) rfl (by kernel_rfl) ?_
          refine R.go 1 (R.any1 8 (by kernel_rfl) (by kernel_rfl) ?_)
          refine R.go 2 (R.any0 (by kernel_rfl) ?_)
          refine R.go 6 (R.condN ((scode n xs ([] ++ l ++ [a])) = 0) (by kernel_rfl) (fun c14 => ?_) (fun c14 => ?_))
          · exact R.go 6 (R.retE (.tup [.bool false, AI (scode n xs ([] ++ l ++ [a]))]) (by kernel_rfl) (by kernel_rfl) (by first | (refine tupB ?_ ?_ <;> first | exact csB_bad (by assumption) | rfl | exact hm.symm | (rw [csB, decide_eq_true hm, Bool.true_and])) | (exfalso; omega)))
          · have hm : scode n xs (l ++ [a]) = 0 := by assumption
            have hsc := scode_ok hm
            have hF : allF (l ++ [a]) = true := hsc.2.1
            have hR : okFr n xs = true := hsc.1
            have hfit0 : n * ((mem (vmT (l ++ [a]) (l ++ [a]).length)).length : Int) ≤ 16 := hsc.2.2
            refine R.go 6 (R.call true (l06Follows_c n xs l a true hF hR hfit0 hlim hl) (by kernel_rfl) rfl (by kernel_rfl) ?_)
            exact R.go 3 (R.retE (.tup [.bool ((fstN (badC true n xs (mem (vmT (l ++ [a]) (l ++ [a]).length)) l a) (totN n (mem (vmT (l ++ [a]) (l ++ [a]).length)))).isNone), AI 0]) (by kernel_rfl) (by kernel_rfl) (by first | (refine tupB ?_ ?_ <;> first | exact csB_bad (by assumption) | rfl | exact hm.symm | (rw [csB, decide_eq_true hm, Bool.true_and])) | (exfalso; omega)))
        · refine R.app eLN ([] ++ l) [a] 2 28 1 24 (by kernel_rfl) eLN_one (by decide) (by first | omega | (simp <;> omega)) (by kernel_rfl) ?_
          refine R.go 1 (R.any1 0 (by kernel_rfl) (by kernel_rfl) ?_)
          refine R.go 2 (R.any1 7 (by kernel_rfl) (by kernel_rfl) ?_)
          refine R.call false (l06Code_c n xs ([] ++ l ++ [a]) (by first | omega | (simp <;> omega)) (by first | assumption | exact shortL_one (by omega))) (by kernel_rfl) rfl (by kernel_rfl) ?_
          refine R.go 1 (R.any1 8 (by kernel_rfl) (by kernel_rfl) ?_)
          refine R.go 2 (R.any0 (by kernel_rfl) ?_)
          refine R.go 6 (R.condN ((scode n xs ([] ++ l ++ [a])) = 0) (by kernel_rfl) (fun c15 => ?_) (fun c15 => ?_))
          · exact R.go 6 (R.retE (.tup [.bool false, AI (scode n xs ([] ++ l ++ [a]))]) (by kernel_rfl) (by kernel_rfl) (by first | (refine tupB ?_ ?_ <;> first | exact csB_bad (by assumption) | rfl | exact hm.symm | (rw [csB, decide_eq_true hm, Bool.true_and])) | (exfalso; omega)))
          · have hm : scode n xs (l ++ [a]) = 0 := by assumption
            have hsc := scode_ok hm
            have hF : allF (l ++ [a]) = true := hsc.2.1
            have hR : okFr n xs = true := hsc.1
            have hfit0 : n * ((mem (vmT (l ++ [a]) (l ++ [a]).length)).length : Int) ≤ 16 := hsc.2.2
            refine R.go 6 (R.call true (l06Follows_c n xs l a true hF hR hfit0 hlim hl) (by kernel_rfl) rfl (by kernel_rfl) ?_)
            exact R.go 3 (R.retE (.tup [.bool ((fstN (badC true n xs (mem (vmT (l ++ [a]) (l ++ [a]).length)) l a) (totN n (mem (vmT (l ++ [a]) (l ++ [a]).length)))).isNone), AI 0]) (by kernel_rfl) (by kernel_rfl) (by first | (refine tupB ?_ ?_ <;> first | exact csB_bad (by assumption) | rfl | exact hm.symm | (rw [csB, decide_eq_true hm, Bool.true_and])) | (exfalso; omega)))

theorem implGlobal_c (n : Int) (xs : List Int) (l : List (List (Int × Int))) (a : List (Int × Int)) (lx : xs.length ≤ 1048576) (hlim : lim l) (hl : a.length ≤ 1048576) : CallA Try.prog 10 [.agg [AI n, LI xs], LLN l, LN a] (.tup [.bool (csB true n xs l a), AI (scode n xs (l ++ [a]))]) := by
  refine CallA.of Try.func10 rfl (by kernel_rfl) ?_
  refine R.go 12 (R.call false (consG_c n xs l a lx hlim hl) (by kernel_rfl) (by simp [AV.closed, closedL, AI]) (by kernel_rfl) ?_)
  exact R.go 5 (R.retE (.tup [.bool (csB true n xs l a), AI (scode n xs (l ++ [a]))]) (by kernel_rfl) (by kernel_rfl) (by rfl))

end Go.Proofs.Ytejaikeemahobaa


/-! Truth by worlds; formulas by their parts. -/
namespace Go.Proofs.Ytejaikeemahobaa
open Go.RowKit Go.Abs

section
variable (b : Int → Int → Int → Int) (u : Int → Int → Int) (vs : List Int)
theorem gv_one1 {nv : Nat} {k s : Int} {L : List (Int × Int)} (hk : k = 5 ∨ k = 6) (hL : OKM nv L) : gv b u vs ((k, s) :: L) = u k (gv b u vs L) := by
  conv => lhs; unfold gv stkG
  rw [List.foldr_cons, okm_stk b u vs hL, stepG_one _ _ _ hk]
  rfl
end

theorem okm_mk1 {nv : Nat} {k s : Int} {L : List (Int × Int)} (hk : k = 5 ∨ k = 6) (hL : OKM nv L) : OKM nv ((k, s) :: L) := by
  refine ⟨?_, fun x hx => ?_⟩
  · rw [show (1 : Nat) = 0 + 1 from rfl, pe_succ, show partsN (k, s).1 = 1 from partsN_1 hk, show 0 + 1 = 1 from rfl, hL.1]
    simp
  · rcases List.mem_cons.1 hx with rfl | hx
    · exact ⟨by simp only; omega, by simp only; omega, fun h => by simp only at h; omega⟩
    · exact hL.2 x hx
theorem okN_all {a : List (Int × Int)} (h : isF a = true) : a.all okN = true := by
  simp only [isF, treeB, Bool.and_eq_true] at h
  exact h.2.1.2
/-- A formula of at most 40 nodes whose nodes are what they should be. -/
theorem isF_mk {a : List (Int × Int)} (h : OKM 6 a) (hl : a.length ≤ 40) (hn : a.all okN = true) : isF a = true := by
  have hp := okm_pos h
  simp only [isF, treeB, Bool.and_eq_true, decide_eq_true_eq]
  refine ⟨hl, ⟨by omega, hn⟩, ?_⟩
  simp [peX, h.1]

/-! Bits of truth sets. -/
def tr (n : Int) (xs X : List Int) (a : List (Int × Int)) (w : Nat) : Bool := tb (tset n xs X a) w
theorem bx_bits {n : Int} {xs : List Int} (hR : okFr n xs = true) {m : Int} (hm : InM n.toNat m) (w : Nat) : tb (bxB xs m) w = true ↔ w < n.toNat ∧ ∀ j, tb (xs.getD w 0) j = true → tb m j = true := by
  obtain ⟨h0, h8, hl, hr⟩ := okFr_rel hR
  have := (boxB_ok (n := n.toNat) (by omega) hr hm n.toNat (Nat.le_refl _)).2 w
  unfold bxB
  rw [show xs.length = n.toNat by omega]
  exact this
section
variable {n : Int} {xs X : List Int} (hR : okFr n xs = true) (hX : ∀ j : Nat, j < 6 → InM n.toNat (X.getD j 0))
include hR hX
theorem tr_box {s : Int} {L : List (Int × Int)} (hL : OKM 6 L) {w : Nat} (hw : w < n.toNat) : tr n xs X ((5, s) :: L) w = true ↔ ∀ j, tb (xs.getD w 0) j = true → tr n xs X L j = true := by
  unfold tr tset
  rw [gv_one1 _ _ _ (.inl rfl) hL, mU, if_pos rfl]
  have hT : InM n.toNat (gv (mT n) (mU n (bxB xs)) X L) := tset_in hR hL hX
  rw [bx_bits hR hT]
  exact ⟨fun h => h.2, fun h => ⟨hw, h⟩⟩
end
theorem full_iff {n : Int} {m : Int} (h0 : 0 ≤ n) (h8 : n ≤ 8) (hm : InM n.toNat m) : m = (shl64 1 n) - 1 ↔ ∀ w, w < n.toNat → tb m w = true := by
  have hf := inM_full (n := n.toNat) (by omega)
  have htf : ∀ j, tb ((shl64 1 n) - 1) j = decide (j < n.toNat) := fun j => by
    have ht := tb_full (n := n.toNat) (by omega) j
    rwa [nn_eq h0] at ht
  rw [nn_eq h0] at hf
  constructor
  · rintro rfl w hw
    rw [htf, decide_eq_true hw]
  · intro h
    refine tb_ext hm.1 hf.1 fun w => ?_
    rw [htf]
    by_cases hw : w < n.toNat
    · rw [h w hw, decide_eq_true hw]
    · rw [decide_eq_false hw]
      cases e : tb m w with
      | false => rfl
      | true => exact absurd (tb_lt hm e) hw

end Go.Proofs.Ytejaikeemahobaa


/-! Rows of bytes; drawn regions with tags of one's own. -/
namespace Go.Abs
open Go.RowKit Go.ChangeShapes Go.WideShapes Go.Deep

def eB (n : Int) : List AV := [.int .u8 n]
def LB (xs : List Int) : AV := .lst 1 xs.length (rows eB xs)
theorem eB_len (x : Int) : (eB x).length = 1 := rfl
section
variable {H : Type} {enc : TypeId × Value → H} {P : Program} {w : World} {base : Nat} {spare : Nat → Bool} {held : Bool}

theorem RelL_bytes {Z : Nat → Prop} {μ : List Value} : ∀ xs : List Int, RelL w Z μ (rows eB xs) (xs.map fun n => .int .u8 n)
  | [] => RelL.nil
  | x :: xs => RelL.cons (by simp [Rel]) (RelL_bytes xs)

theorem trod_bytes {t e : TypeId} {fuel : Nat} {cs : List Value} {x : DataW H × List MemPlace} (ht : P.underlying t = some (.slice e)) (he : P.underlying e = some (.int .u8)) (hc : P.cellsOf e = 1)
    (h : DataW.trod enc P w base spare held fuel t cs = some x) : ∃ v, cs = [v] ∧ ∃ xs : List Int, xs.length ≤ maxLen ∧ (∀ j, j < xs.length → 0 ≤ xs.getD j 0 ∧ xs.getD j 0 ≤ 255) ∧ Rel w (Z0 w) [] (LB xs) v := by
  rcases open_slice1 ht hc h with ⟨rfl, _⟩ | ⟨a, len, cap, m, n, V, D, Pl, rfl, _, hl, hm, hmm, _, hx⟩
  · exact ⟨_, rfl, [], Nat.zero_le _, fun j hj => absurd hj (by simp), none, 0, [], rfl, rfl, Nat.le_refl _, fun h => absurd rfl h, RelL.nil⟩
  · have hlm : len ≤ m := by rw [hmm]; split <;> omega
    obtain ⟨xs, h1, h2⟩ := choose_list (n := len) (p := fun i y => w.cell? (a.add i) = some (.int .u8 y) ∧ 0 ≤ y ∧ y ≤ 255) fun i hi => by
      obtain ⟨g1, g2⟩ := hx i (by omega)
      obtain ⟨y, hy, _, hw⟩ := DataW.trod_int he g2
      simp at hy
      simp [Lit.wf, IntKind.min, IntKind.max, IntKind.signed, IntKind.bits] at hw
      exact ⟨y, by rw [g1, hy], by omega, by omega⟩
    refine ⟨_, rfl, xs, by omega, fun j hj => (h2 j (by omega)).2, ⟨some a, cap, xs.map fun n => .int .u8 n, by rw [h1], by rw [rows_length eB_len, h1], by omega, fun hne => ⟨a, rfl, ?_, fun j u hj => ?_⟩, RelL_bytes xs⟩⟩
    · have : 0 < len := by
        rw [← h1]
        cases xs with
        | nil => exact absurd rfl hne
        | cons x xs => simp
      have := not_Z0 (h2 0 this).1
      simpa [Addr.add] using this
    · rw [List.getElem?_map, Option.map_eq_some_iff] at hj
      obtain ⟨y, hy, rfl⟩ := hj
      have hj := (List.getElem?_eq_some_iff.1 hy).1
      rw [(h2 j (by omega)).1, List.getD_eq_getElem?_getD, hy]
      rfl

theorem open_bytes {r : Reach} {b0 : Nat} {t e : TypeId} {v : Value} {d : DataW H} {ps : List MemPlace} (ht : P.underlying t = some (.slice e)) (he : P.underlying e = some (.int .u8)) (hc : P.cellsOf e = 1)
    (hval : Value.okWide P w r b0 t v) (hd : DataW.Trod enc P w base spare held t v d ps) : ∃ xs : List Int, xs.length ≤ maxLen ∧ (∀ j, j < xs.length → 0 ≤ xs.getD j 0 ∧ xs.getD j 0 ≤ 255) ∧ Rel w (Z0 w) [] (LB xs) v := by
  obtain ⟨A, n, c, rfl⟩ := okWide_slice ht hval
  obtain ⟨fuel, hf⟩ := hd
  obtain ⟨v, h1, h2⟩ := trod_bytes ht he hc hf
  simp [Value.cells] at h1
  subst h1
  exact h2
end

section
variable {rd : Option Nat} {P : Program} {m : M} {Q : Exit → St → Prop}
end
end Go.Abs


/-! Calls that change the caller's objects: under a further frame; with objects left out. -/
namespace Go.Abs
open Go.RowKit

theorem idx_range {n i : Nat} (h : i < n) : (List.range n).idxOf i = i := by
  have hm : i ∈ List.range n := List.mem_range.2 h
  have hlt := List.idxOf_lt_length_iff.2 hm
  have := List.getElem_idxOf hlt
  rw [List.getElem_range] at this
  exact this

mutual
theorem Rel.mix {w w' : World} {Z Z' : Nat → Prop} {μ μ1 μ2 : List Value} {n : Nat} (hA : ∀ (i : Nat) u, i < n → μ1[i]? = some u → μ2[i]? = some u) (hB : ∀ (i : Nat) u, n ≤ i → μ[i]? = some u → μ2[i]? = some u) :
    ∀ {c : AV} {v : Value}, Rel w Z μ c v → Rel w' Z' μ1 (c.ren (List.range n)) v → Rel w' Z' μ2 c v
  | .int _ _, _, _, h => by simpa [Rel, AV.ren] using h
  | .bool _, _, _, h => by simpa [Rel, AV.ren] using h
  | .str _, _, _, h => by simpa [Rel, AV.ren] using h
  | .nil, _, _, h => by simpa [Rel, AV.ren] using h
  | .top, _, _, _ => by simp [Rel]
  | .own _ _ _ _, _, h, _ => by simp [Rel] at h
  | .lst _ _ _, _, _, h => by simpa [Rel, AV.ren] using h
  | .clp _ _ _, _, _, h => by simpa [Rel, AV.ren] using h
  | .rptr _, _, _, h => by simpa [Rel, AV.ren] using h
  | .ref i, v, h1, h2 => by
    simp only [Rel] at h1 ⊢
    rcases Nat.lt_or_ge i n with hi | hi
    · have hc : (List.range n).contains i = true := by simpa using hi
      simp only [AV.ren, hc, if_true, idx_range hi, Rel] at h2
      exact hA i v hi h2
    · exact hB i v hi h1
  | .ptr i o, v, h1, h2 => by
    simp only [Rel] at h1 ⊢
    rcases Nat.lt_or_ge i n with hi | hi
    · have hc : (List.range n).contains i = true := by simpa using hi
      simp only [AV.ren, hc, if_true, idx_range hi, Rel] at h2
      obtain ⟨u, g, e1, e2, e3⟩ := h2
      exact ⟨u, g, hA i u hi e1, e2, e3⟩
    · obtain ⟨u, g, e1, e2, e3⟩ := h1
      exact ⟨u, g, hB i u hi e1, e2, e3⟩
  | .agg cs, v, h1, h2 => by
    simp only [Rel, AV.ren] at h1 h2 ⊢
    obtain ⟨xs, e1, r1⟩ := h1
    obtain ⟨ys, e2, r2⟩ := h2
    rw [e1] at e2
    simp only [Value.agg.injEq] at e2
    have e3 : xs = ys := by simpa using e2
    subst e3
    exact ⟨xs, e1, RelL.mix hA hB r1 r2⟩
  | .tup cs, v, h1, h2 => by
    simp only [Rel, AV.ren] at h1 h2 ⊢
    obtain ⟨xs, e1, r1⟩ := h1
    obtain ⟨ys, e2, r2⟩ := h2
    rw [e1] at e2
    simp only [Value.tuple.injEq] at e2
    have e3 : xs = ys := by simpa using e2
    subst e3
    exact ⟨xs, e1, RelL.mix hA hB r1 r2⟩
  | .fn f cs, v, h1, h2 => by
    simp only [Rel, AV.ren] at h1 h2 ⊢
    obtain ⟨xs, e1, r1⟩ := h1
    obtain ⟨ys, e2, r2⟩ := h2
    rw [e1] at e2
    simp only [Value.func.injEq, true_and] at e2
    have e3 : xs = ys := by simpa using e2
    subst e3
    exact ⟨xs, e1, RelL.mix hA hB r1 r2⟩
theorem RelL.mix {w w' : World} {Z Z' : Nat → Prop} {μ μ1 μ2 : List Value} {n : Nat} (hA : ∀ (i : Nat) u, i < n → μ1[i]? = some u → μ2[i]? = some u) (hB : ∀ (i : Nat) u, n ≤ i → μ[i]? = some u → μ2[i]? = some u) :
    ∀ {cs : List AV} {vs : List Value}, RelL w Z μ cs vs → RelL w' Z' μ1 (renL (List.range n) cs) vs → RelL w' Z' μ2 cs vs
  | [], _, _, h => by simpa [RelL, renL] using h
  | c :: cs, _, h1, h2 => by
    simp only [RelL, renL] at h1 h2 ⊢
    obtain ⟨x, xs, e1, a1, b1⟩ := h1
    obtain ⟨y, ys, e2, a2, b2⟩ := h2
    rw [e1] at e2
    simp only [List.cons.injEq] at e2
    obtain ⟨rfl, rfl⟩ := e2
    exact ⟨x, xs, e1, Rel.mix hA hB a1 a2, RelL.mix hA hB b1 b2⟩
end

/-- One object more, of which nothing is known. -/
theorem HRel.addDead {w : World} {Z : Nat → Prop} {B : Nat} {μ : List Value} {hp : List AObj} (h : HRel w Z B μ hp) (u : Value) (hu : u.oneCell' = true) : HRel w Z B (μ ++ [u]) (hp ++ [.dead]) := by
  have split : ∀ (i : Nat) oi ui, (hp ++ [.dead])[i]? = some oi → (μ ++ [u])[i]? = some ui → (hp[i]? = some oi ∧ μ[i]? = some ui) ∨ oi = .dead := by
    intro i oi ui h1 h2
    rcases Nat.lt_or_ge i hp.length with hi | hi
    · rw [List.getElem?_append_left hi] at h1
      rw [List.getElem?_append_left (by rw [h.len]; exact hi)] at h2
      exact .inl ⟨h1, h2⟩
    · rw [List.getElem?_append_right hi] at h1
      rcases Nat.eq_zero_or_pos (i - hp.length) with h0 | h0
      · rw [h0] at h1; simp at h1; exact .inr h1.symm
      · rw [List.getElem?_eq_none (by simp; omega)] at h1; cases h1
  refine ⟨by simp [h.len], fun i oi ui g h1 ha h2 hg => ?_, fun i x hx => ?_, fun i oi ui h1 h2 => ?_, fun i j oi oj ui uj g hne h1 h2 a1 a2 m1 m2 b1 b2 => ?_⟩
  · rcases split i oi ui h1 h2 with ⟨e1, e2⟩ | rfl
    · exact h.zone i oi ui g e1 ha e2 hg
    · cases ha
  · rcases Nat.lt_or_ge i μ.length with hi | hi
    · rw [List.getElem?_append_left hi] at hx
      exact h.one i x hx
    · rw [List.getElem?_append_right hi] at hx
      rcases Nat.eq_zero_or_pos (i - μ.length) with h0 | h0
      · rw [h0] at hx; simp at hx; rw [← hx]; exact hu
      · rw [List.getElem?_eq_none (by simp; omega)] at hx; cases hx
  · rcases split i oi ui h1 h2 with ⟨e1, e2⟩ | rfl
    · exact (h.obj i oi ui e1 e2).keep (fun _ _ _ => rfl) (fun i u hu => append_old i u hu) (fun _ _ => rfl)
    · trivial
  · rcases split i oi ui h1 m1 with ⟨e1, e2⟩ | rfl
    · rcases split j oj uj h2 m2 with ⟨e3, e4⟩ | rfl
      · exact h.sep i j oi oj ui uj g hne e1 e3 a1 a2 e2 e4 b1 b2
      · cases a2
    · cases a1

/-- A caller's frame where nothing is known. -/
theorem HRel.frameAt {w : World} {Z : Nat → Prop} {B n : Nat} {μ : List Value} {hp : List AObj} {us : List Value} {fr : List AV} (h : HRel w Z B μ hp) (hd : hp[n]? = some .dead) (hr : RelL w Z μ fr us) : HRel w Z B μ (hp.set n (.frame us fr)) := by
  have hn := (List.getElem?_eq_some_iff.1 hd).1
  have get : ∀ (i : Nat) oi, (hp.set n (.frame us fr))[i]? = some oi → oi = .frame us fr ∨ hp[i]? = some oi := by
    intro i oi h1
    by_cases e : n = i
    · subst e
      rw [List.getElem?_set_self hn] at h1
      simp at h1; exact .inl h1.symm
    · rw [List.getElem?_set_ne e] at h1; exact .inr h1
  refine ⟨by rw [List.length_set]; exact h.len, fun i oi ui g h1 ha h2 hg => ?_, h.one, fun i oi ui h1 h2 => ?_, fun i j oi oj ui uj g hne h1 h2 a1 a2 m1 m2 b1 b2 => ?_⟩
  · rcases get i oi h1 with rfl | h1
    · cases ha
    · exact h.zone i oi ui g h1 ha h2 hg
  · rcases get i oi h1 with rfl | h1
    · exact hr
    · exact h.obj i oi ui h1 h2
  · rcases get i oi h1 with rfl | h1
    · cases a1
    · rcases get j oj h2 with rfl | h2
      · cases a2
      · exact h.sep i j oi oj ui uj g hne h1 h2 a1 a2 m1 m2 b1 b2

def renH (js : List Nat) (hp : List AObj) : List AObj := js.map fun i => (hp.getD i .dead).ren js
/-- The caller's frame laid between the n objects of the call and those that the call has made. -/
def insJ (n m : Nat) : List Nat := List.range n ++ (m :: (List.range (m - n)).map (· + n))
def insF (n : Nat) (us : List Value) (fr : List AV) (hp : List AObj) : List AObj := (renH (insJ n hp.length) (hp ++ [.dead])).set n (.frame us fr)

theorem insJ_nodup {n m : Nat} (h : n ≤ m) : (insJ n m).Nodup := by
  unfold insJ
  rw [List.nodup_append]
  refine ⟨List.nodup_range, ?_, ?_⟩
  · rw [List.nodup_cons]
    refine ⟨?_, ?_⟩
    · intro hm
      rw [List.mem_map] at hm
      obtain ⟨k, hk, e⟩ := hm
      rw [List.mem_range] at hk
      omega
    · rw [List.nodup_iff_pairwise_ne, List.pairwise_map]
      exact List.nodup_range.imp fun h e => h (by omega)
  · intro a ha b hb e
    rw [List.mem_range] at ha
    rw [List.mem_cons, List.mem_map] at hb
    rcases hb with hb | ⟨k, _, hk⟩ <;> omega

theorem CallS.frame {P : Program} {f : FuncId} {args : List AV} {hp : List AObj} {res : AV} {hp' : List AObj} (us2 : List Value) (fr2 : List AV) (hc : CallS P f args hp res hp') (h1 : renH (List.range hp.length) hp = hp)
    (h2 : renL (List.range hp.length) args = args) (h3 : hp.length ≤ hp'.length) : CallS P f args (hp ++ [.frame us2 fr2]) (res.ren (insJ hp.length hp'.length)) (insF hp.length us2 fr2 hp') := by
  obtain ⟨hen, hc⟩ := hc
  refine ⟨hen, ?_⟩
  intro Z0 F w0 w μ vs us fr hFb hH hvs hus hbel
  have hml : μ.length = hp.length + 1 := by rw [hH.len]; simp
  have hH0 := hH.ren (List.range hp.length) List.nodup_range
  have e0 : ((List.range hp.length).map fun i => ((hp ++ [AObj.frame us2 fr2]).getD i .dead).ren (List.range hp.length)) = hp := by
    refine Eq.trans (List.map_congr_left fun i hi => ?_) h1
    have hi := List.mem_range.1 hi
    simp only [List.getD_eq_getElem?_getD]
    rw [List.getElem?_append_left hi]
  rw [e0] at hH0
  have hvs0 := hvs.ren (List.range hp.length)
  rw [h2] at hvs0
  have hn2 : (hp ++ [AObj.frame us2 fr2])[hp.length]? = some (.frame us2 fr2) := by simp
  obtain ⟨u, hu⟩ : ∃ u, μ[hp.length]? = some u := ⟨_, List.getElem?_eq_getElem (by omega)⟩
  have hf2 : RelL w (Zone Z0 F w0.heap.size) μ fr2 us2 := hH.obj _ _ u hn2 hu
  have hus0 := (hus.append hf2).ren (List.range hp.length)
  refine (hc Z0 F w0 w _ vs (us ++ us2) _ hFb hH0 hvs0 hus0 hbel).mono ?_
  rintro e w' ⟨v, μ1, F1, rfl, hF1, hH1, hres, hfr1, hb1⟩
  have hm1 := hH1.len
  have hHd := hH1.addDead u (hH.one _ u hu)
  have hH2 := hHd.ren (insJ hp.length hp'.length) (insJ_nodup h3)
  obtain ⟨μ2, hμ2⟩ : ∃ μ2, μ2 = ((insJ hp.length hp'.length).map fun i => (μ1 ++ [u]).getD i (.bool false)) := ⟨_, rfl⟩
  have hA : ∀ (i : Nat) x, i < hp.length → μ1[i]? = some x → μ2[i]? = some x := by
    intro i x hi hx
    have hj : (insJ hp.length hp'.length)[i]? = some i := by
      unfold insJ
      rw [List.getElem?_append_left (by simpa using hi)]
      simp [hi]
    rw [hμ2, List.getElem?_map, hj]
    simp only [Option.map_some, List.getD_eq_getElem?_getD]
    rw [List.getElem?_append_left (by omega), hx]
    rfl
  have hB : ∀ (i : Nat) x, hp.length ≤ i → μ[i]? = some x → μ2[i]? = some x := by
    intro i x hi hx
    have hin : i = hp.length := by have := (List.getElem?_eq_some_iff.1 hx).1; omega
    subst hin
    rw [hu] at hx
    have hj : (insJ hp.length hp'.length)[hp.length]? = some hp'.length := by
      unfold insJ
      rw [List.getElem?_append_right (by simp)]
      simp
    rw [hμ2, List.getElem?_map, hj]
    simp only [Option.map_some, List.getD_eq_getElem?_getD]
    rw [List.getElem?_append_right (by omega), hm1]
    simpa using hx
  rw [← hμ2] at hH2
  have hall := RelL.mix hA hB (hus.append hf2) hfr1
  have hul := hus.length
  have hfr : RelL w' (Zone Z0 F1 w0.heap.size) μ2 fr us := by
    have := hall.take fr.length
    rwa [List.take_left, ← hul, List.take_left] at this
  have hfr2 : RelL w' (Zone Z0 F1 w0.heap.size) μ2 fr2 us2 := by
    have := hall.drop fr.length
    rwa [List.drop_left, ← hul, List.drop_left] at this
  refine ⟨v, μ2, F1, rfl, hF1, ?_, ?_, hfr, hb1⟩
  · refine hH2.frameAt ?_ hfr2
    have hj : (insJ hp.length hp'.length)[hp.length]? = some hp'.length := by
      unfold insJ
      rw [List.getElem?_append_right (by simp)]
      simp
    rw [List.getElem?_map, hj]
    simp [AObj.ren]
  · rw [hμ2]
    exact Rel.ren _ (Rel.keep (w := w') (fun _ _ _ => rfl) (fun i u hu => append_old i u hu) hres)

/-- Objects left out that the call has made, or put in another order. -/
theorem CallS.drop {P : Program} {f : FuncId} {args : List AV} {hp : List AObj} {res : AV} {hp' : List AObj} (js : List Nat) (hc : CallS P f args hp res hp') (h1 : js.take hp.length = List.range hp.length) (h2 : js.Nodup) :
    CallS P f args hp (res.ren js) (renH js hp') := by
  obtain ⟨hen, hc⟩ := hc
  refine ⟨hen, ?_⟩
  intro Z0 F w0 w μ vs us fr hFb hH hvs hus hbel
  refine (hc Z0 F w0 w μ vs us fr hFb hH hvs hus hbel).mono ?_
  rintro e w' ⟨v, μ1, F1, rfl, hF1, hH1, hres, hfr1, hb1⟩
  have hm1 := hH1.len
  have hjs : ∀ i, i < hp.length → js[i]? = some i := by
    intro i hi
    have := congrArg (fun l : List Nat => l[i]?) h1
    simp only [List.getElem?_take, if_pos hi] at this
    rw [this]
    simp [hi]
  refine ⟨v, _, F1, rfl, hF1, hH1.ren js h2, Rel.ren js hres, ?_, hb1⟩
  refine RelL.mix (n := hp.length) ?_ ?_ hus (hfr1.ren (List.range hp.length))
  · intro i x hi hx
    rw [List.getElem?_map, hjs i hi]
    rw [List.getElem?_map] at hx
    simpa [hi] using hx
  · intro i x hi hx
    have h4 := (List.getElem?_eq_some_iff.1 hx).1
    have h5 := hH.len
    omega

end Go.Abs
