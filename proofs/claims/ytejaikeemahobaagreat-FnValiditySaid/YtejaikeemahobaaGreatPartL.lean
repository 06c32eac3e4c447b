/- Texts of the proof: Q11, Q12T, A02, A03. -/
import Derived.Test.YtejaikeemahobaaGreatPartK

/-! Consequences on frames. -/
namespace Go.Proofs.YtejaikeemahobaaGreat
open Go.RowKit Go.Abs

/-- Where the first premises are true. -/
def pmT (n : Int) (xs X : List Int) (l : List (List (Int × Int))) : Nat → Int
  | 0 => (shl64 1 n) - 1
  | i + 1 => band (pmT n xs X l i) (tset n xs X (l.getD i []))
def badL (n : Int) (xs vs : List Int) (l : List (List (Int × Int))) (a : List (Int × Int)) (N : Nat) : Bool := !decide (bnot (pmT n xs (vrow n vs (N : Int)) l l.length) (tset n xs (vrow n vs (N : Int)) a) = 0)
def badG (n : Int) (xs vs : List Int) (l : List (List (Int × Int))) (a : List (Int × Int)) (N : Nat) : Bool := decide (pmT n xs (vrow n vs (N : Int)) l l.length = (shl64 1 n) - 1) && !decide (tset n xs (vrow n vs (N : Int)) a = (shl64 1 n) - 1)
def badC (gl : Bool) (n : Int) (xs vs : List Int) (l : List (List (Int × Int))) (a : List (Int × Int)) (N : Nat) : Bool := if gl = true then badG n xs vs l a N else badL n xs vs l a N
def csB (gl : Bool) (n : Int) (xs : List Int) (l : List (List (Int × Int))) (a : List (Int × Int)) : Bool := decide (scode n xs (l ++ [a]) = 0) && (fstN (badC gl n xs (mem (vmT (l ++ [a]) (l ++ [a]).length)) l a) (totN n (mem (vmT (l ++ [a]) (l ++ [a]).length)))).isNone
theorem allF_app {l : List (List (Int × Int))} {a : List (Int × Int)} (h : allF (l ++ [a]) = true) : (∀ j : Nat, j < l.length → isF (l.getD j []) = true) ∧ isF a = true := by
  refine ⟨fun j hj => ?_, ?_⟩
  · have := allF_get h j (by simp; omega)
    rwa [List.getD_eq_getElem?_getD, List.getElem?_append_left hj, ← List.getD_eq_getElem?_getD] at this
  · have := allF_get h l.length (by simp)
    rw [List.getD_eq_getElem?_getD, List.getElem?_append_right (Nat.le_refl _)] at this
    simpa using this
theorem shortL_app {l : List (List (Int × Int))} {a : List (Int × Int)} (h : l.length ≤ 1048576 ∧ ∀ j : Nat, j < l.length → (l.getD j []).length ≤ 1048576) (ha : a.length ≤ 1048576) : shortL (l ++ [a]) := by
  refine ⟨by simp; omega, fun j hj => ?_⟩
  by_cases hjl : j < l.length
  · rw [List.getD_eq_getElem?_getD, List.getElem?_append_left hjl, ← List.getD_eq_getElem?_getD]
    have := h.2 j hjl
    omega
  · have : j = l.length := by simp at hj; omega
    subst this
    rw [List.getD_eq_getElem?_getD, List.getElem?_append_right (Nat.le_refl _)]
    simp
    omega
def lim (l : List (List (Int × Int))) : Prop := l.length ≤ 1048576 ∧ ∀ j : Nat, j < l.length → (l.getD j []).length ≤ 1048576
theorem bnotF {n : Int} {xs X : List Int} {a : List (Int × Int)} (hR : okFr n xs = true) (ht : InM n.toNat (tset n xs X a)) : bnot ((shl64 1 n) - 1) (tset n xs X a) = 0 ↔ tset n xs X a = (shl64 1 n) - 1 := by
  obtain ⟨h0, h8, _, _⟩ := okFr_rel hR
  have hf := inM_full (n := n.toNat) (by omega)
  rw [nn_eq h0] at hf
  rw [bnot_sub (by omega) hf ht]
  constructor
  · intro h
    refine tb_ext ht.1 hf.1 fun i => ?_
    rw [Bool.eq_iff_iff]
    refine ⟨fun hti => ?_, h i⟩
    have := tb_full (n := n.toNat) (by omega) i
    rw [nn_eq h0] at this
    rw [this]
    simpa using tb_lt ht hti
  · intro h i hi
    rw [h]; exact hi
theorem badC_ok {gl : Bool} {n : Int} {xs vs : List Int} {l : List (List (Int × Int))} {a : List (Int × Int)} {N : Nat} {p : Int} (hR : okFr n xs = true) (ha : OKM 6 a) (hN : N ≤ 65536) (hp : p = pmT n xs (vrow n vs (N : Int)) l l.length) (hg : ¬ (gl = true ∧ ¬ p = (shl64 1 n) - 1)) :
    badC gl n xs vs l a N = !decide (bnot p (tset n xs (vrow n vs (N : Int)) a) = 0) := by
  obtain ⟨h0, h8, _, _⟩ := okFr_rel hR
  unfold badC
  split
  · rename_i h
    have hpf : p = (shl64 1 n) - 1 := by
      by_cases e : p = (shl64 1 n) - 1
      · exact e
      · exact absurd ⟨h, e⟩ hg
    have ht := tset_in hR ha (X := vrow n vs (N : Int)) (vrow_in h0 h8 (by omega))
    rw [badG, ← hp, decide_eq_true hpf, Bool.true_and, hpf]
    congr 1
    exact decide_eq_decide.2 (bnotF hR ht).symm
  · rw [badL, ← hp]

theorem csB_bad {gl : Bool} {n : Int} {xs : List Int} {l : List (List (Int × Int))} {a : List (Int × Int)} (h : ¬ scode n xs (l ++ [a]) = 0) : false = csB gl n xs l a := by rw [csB, decide_eq_false h]; rfl
theorem csL_go {n : Int} {xs vs Y : List Int} {l : List (List (Int × Int))} {a : List (Int × Int)} {N : Nat} {p : Int} (hp : p = pmT n xs Y l l.length) (hX : Y = vrow n vs (N : Int)) : badC false n xs vs l a N = !decide (bnot p (gv (mT n) (mU n (bxB xs)) Y a) = 0) := by
  rw [hX] at hp ⊢
  rw [badC, if_neg (by decide), badL, ← hp]
  rfl
theorem clipLL_c (l : List (List (Int × Int))) : CallA Tryz.prog 56 [LLN l] (.clp 1 l.length (rows eLN l)) := by
  refine CallA.of Tryz.func56 rfl (by kernel_rfl) ?_
  refine R.go 11 (R.clip 1 l.length (rows eLN l) (by kernel_rfl) (by kernel_rfl) ?_)
  exact R.go 2 (R.retE (.clp 1 l.length (rows eLN l)) (by kernel_rfl) (by kernel_rfl) (by rfl))

theorem consL_c (n : Int) (xs : List Int) (l : List (List (Int × Int))) (a : List (Int × Int)) (lx : xs.length ≤ 1048576) (hlim : lim l) (hl : a.length ≤ 1048576) : CallA Tryz.prog 28 [.agg [AI n, LI xs], LLN l, LN a, .fn 29 []] (.tup [.bool (csB false n xs l a), AI (scode n xs (l ++ [a]))]) := by
  have hs : shortL (l ++ [a]) := shortL_app hlim hl
  have hll0 := hlim.1
  refine CallA.of Tryz.func28 rfl (by kernel_rfl) ?_
  refine R.go 12 (R.call true (clipLL_c l) (by kernel_rfl) rfl (by kernel_rfl) ?_)
  refine R.go 2 (R.appC eLN l [a] 27 1 24 (by kernel_rfl) eLN_one (by decide) (by first | omega | (simp <;> omega)) (by simp) (by kernel_rfl) ?_)
  refine R.go 7 (R.call false (searchCode_c n xs (l ++ [a]) (by first | omega | (simp <;> omega)) hs) (by kernel_rfl) rfl (by kernel_rfl) ?_)
  refine R.go 4 (R.frz 7 (by kernel_rfl) ?_)
  refine R.go 3 (R.condN ((scode n xs (l ++ [a])) = 0) (by kernel_rfl) (fun c1 => ?_) (fun c1 => ?_))
  · exact R.go 6 (R.retE (.tup [.bool false, AI (scode n xs (l ++ [a]))]) (by kernel_rfl) (by kernel_rfl) (by first | (refine tupB ?_ ?_ <;> first | exact csB_bad (by assumption) | rfl | exact hm.symm | (rw [csB, decide_eq_true hm, ← hvs, fst_some (N := N) (show ∀ M, M < N → badC false n xs vs l a M = false by assumption) (by rw [csL_go (p := p) hpe hX]; simpa using hb) (by omega)]; rfl) | (rw [csB, decide_eq_true hm, ← hvs, fst_none (fun M hM => (show ∀ M, M < N → badC false n xs vs l a M = false by assumption) M (by omega))]; rfl)) | (exfalso; omega)))
  · have hm : scode n xs (l ++ [a]) = 0 := by assumption
    have hsc := scode_ok hm
    have hF : allF (l ++ [a]) = true := hsc.2.1
    have hR : okFr n xs = true := hsc.1
    have hfit0 : n * ((mem (vmT (l ++ [a]) (l ++ [a]).length)).length : Int) ≤ 16 := hsc.2.2
    obtain ⟨vs, hvs⟩ : ∃ vs, vs = mem (vmT (l ++ [a]) (l ++ [a]).length) := ⟨_, rfl⟩
    have hfit : n * (vs.length : Int) ≤ 16 := by rw [hvs]; exact hfit0
    have hll := hlim.1
    have hVS : VS vs := by rw [hvs]; exact VS_vmT hF
    have hRR := okFr_rel hR
    have hb0 : 0 ≤ n ∧ n ≤ 8 ∧ (xs.length : Int) = n := ⟨hRR.1, hRR.2.1, hRR.2.2.1⟩
    have hnc : 0 ≤ n * (vs.length : Int) := Int.mul_nonneg hb0.1 (by omega)
    have htot : shl64 1 (n * (vs.length : Int)) = (totN n vs : Int) := by have := shl_rng (n * (vs.length : Int)) hnc (by omega); unfold totN; omega
    have htr := shl_rng (n * (vs.length : Int)) hnc (by omega)
    have hvl : vs.length ≤ 62 := by rw [hvs]; exact mem_le _
    have hpr := allF_app hF
    have hA := isF_okm hpr.2
    have hok : OKM 6 a := hA.1
    have hal : a.length ≤ 40 := hA.2
    have htb := totN_le ⟨hnc, hfit⟩
    refine R.go 6 (R.call true (variablesInG_c (l ++ [a]) vs (by assumption) hF (by first | omega | (simp <;> omega))).frz (by kernel_rfl) rfl (by kernel_rfl) ?_)
    refine R.call true (valuations_c n xs vs) (by kernel_rfl) rfl (by kernel_rfl) ?_
    refine R.go 2 (R.range (caps := [.rptr [LI vs], .rptr [AI n, LI xs]]) Tryz.func52 rfl (by kernel_rfl) (by kernel_rfl) ?_)
    intro D2 us3
    refine R.go 8 (R.call true (size_c vs) (by kernel_rfl) rfl (by kernel_rfl) ?_)
    refine R.go 7 (R.ar (n * (vs.length : Int)) (by kernel_rfl) (by omega) (by omega) (by kernel_rfl) ?_)
    refine R.shl 1 (n * (vs.length : Int)) (by kernel_rfl) (by omega) (by kernel_rfl) ?_
    refine R.go 3 (R.loop ((fun | (N, X) => (⟨(frm 48 [(0, .ref 9), (1, .rptr [LI vs]), (2, .rptr [AI n, LI xs]), (4, .ref 10), (5, AI vs.length), (16, AI (shl64 1 (n * (vs.length : Int)))), (17, AI (N : Int))]), [.box 26 [AI n, LI xs], .box 53 [LLN l], .box 27 [LN a], .box 41 [.fn 29 []], .box 4 [.bool false], .box 2 [AI 0], rowA eLN 27 1 [a], .dead, .frame us3 (frm 55 [(0, .agg [AI n, LI xs]), (1, LLN l), (2, LN a), (3, .fn 29 []), (4, .ptr 0 0), (5, .ptr 1 0), (6, .ptr 2 0), (7, .ptr 3 0), (8, .ptr 4 0), (9, .ptr 5 0), (10, LLN (l ++ [a])), (11, AI (scode n xs (l ++ [a]))), (16, LLN l), (17, .clp 1 l.length (rows eLN l)), (18, LN a), (19, .ref 6), (20, LLN (l ++ [a])), (21, .agg [AI n, LI xs]), (22, LLN (l ++ [a])), (23, AI (scode n xs (l ++ [a]))), (24, AI (scode n xs (l ++ [a]))), (25, .bool (!decide ((scode n xs (l ++ [a])) = 0))), (27, .agg [AI n, LI xs]), (28, LLN (l ++ [a])), (29, LI vs), (30, .fn 52 [.rptr [LI vs], .rptr [AI n, LI xs]])]), loopObj Tryz.f28 D2 us3 .ready, rowA eI 2 1 X]⟩ : St) : Nat × (List Int) → St)) (fun | (N, X) => ((N : Int) ≤ shl64 1 (n * (vs.length : Int))) ∧ (X.length = 6) ∧ (∀ j : Nat, j < 6 → ¬ (j : Int) ∈ vs → X.getD j 0 = 0) ∧ (∀ M, M < N → badC false n xs vs l a M = false)) (fun | (N, X) => (totN n vs) - N) (0, (List.replicate 6 0)) [0, 1, 2, 4, 5, 16, 17] none (by kernel_rfl) (by kernel_rfl) (by kernel_rfl) ⟨(by omega), (by simp), (by exact zero_out vs), (by exact fun M hM => absurd hM (by omega))⟩ ?_)
    rintro ⟨N, X⟩ ⟨h7_1, h7_2, h7_3, h7_4⟩ R4 N5
    have hfull := shl_rng n hb0.1 (by omega)
    refine R.go 5 (R.cond ((N : Int) < (shl64 1 (n * (vs.length : Int)))) (by kernel_rfl) (fun c8 => ?_) (fun c8 => ?_))
    · refine R.go 16 (R.loop ((fun | (k, Y) => (⟨(frm 48 [(0, .ref 9), (1, .rptr [LI vs]), (2, .rptr [AI n, LI xs]), (4, .ref 10), (5, AI vs.length), (6, AI (N : Int)), (16, AI (shl64 1 (n * (vs.length : Int)))), (17, AI (N : Int)), (20, LI vs), (21, AI vs.length), (22, AI (k : Int))]), [.box 26 [AI n, LI xs], .box 53 [LLN l], .box 27 [LN a], .box 41 [.fn 29 []], .box 4 [.bool false], .box 2 [AI 0], rowA eLN 27 1 [a], .dead, .frame us3 (frm 55 [(0, .agg [AI n, LI xs]), (1, LLN l), (2, LN a), (3, .fn 29 []), (4, .ptr 0 0), (5, .ptr 1 0), (6, .ptr 2 0), (7, .ptr 3 0), (8, .ptr 4 0), (9, .ptr 5 0), (10, LLN (l ++ [a])), (11, AI (scode n xs (l ++ [a]))), (16, LLN l), (17, .clp 1 l.length (rows eLN l)), (18, LN a), (19, .ref 6), (20, LLN (l ++ [a])), (21, .agg [AI n, LI xs]), (22, LLN (l ++ [a])), (23, AI (scode n xs (l ++ [a]))), (24, AI (scode n xs (l ++ [a]))), (25, .bool (!decide ((scode n xs (l ++ [a])) = 0))), (27, .agg [AI n, LI xs]), (28, LLN (l ++ [a])), (29, LI vs), (30, .fn 52 [.rptr [LI vs], .rptr [AI n, LI xs]])]), loopObj Tryz.f28 D2 us3 .ready, rowA eI 2 1 Y]⟩ : St) : Nat × (List Int) → St)) (fun | (k, Y) => (k ≤ vs.length) ∧ (PV n vs (N : Int) k Y)) (fun | (k, Y) => vs.length - k) (0, X) [0, 1, 2, 4, 5, 6, 16, 17, 20, 21, 22] none (by kernel_rfl) (by kernel_rfl) (by kernel_rfl) ⟨(by omega), (by exact pv_start (by assumption) (by assumption))⟩ ?_)
      rintro ⟨k, Y⟩ ⟨h12_1, h12_2⟩ R9 N10
      have hY : PV n vs (N : Int) k Y := by assumption
      have hYl : Y.length = 6 := hY.1
      have hg := fun h : k < vs.length => vs_get hVS h
      have hnk : k < vs.length → 0 ≤ n * ((vs.length : Int) - 1 - (k : Int)) ∧ n * ((vs.length : Int) - 1 - (k : Int)) ≤ n * (vs.length : Int) := fun h => ⟨Int.mul_nonneg hb0.1 (by omega), Int.mul_le_mul_of_nonneg_left (by omega) hb0.1⟩
      skip
      refine R.go 5 (R.cond ((k : Int) < (vs.length : Int)) (by kernel_rfl) (fun c13 => ?_) (fun c13 => ?_))
      · have hg2 := hg (by omega)
        have hnk2 := hnk (by omega)
        refine R.go 6 (R.idx eI vs 0 k (k : Int) (by kernel_rfl) rfl eI_len (by omega) (by kernel_rfl) ?_)
        refine R.go 11 (R.ar ((vs.length : Int) - 1) (by kernel_rfl) (by omega) (by omega) (by kernel_rfl) ?_)
        refine R.go 1 (R.ar (((vs.length : Int) - 1) - (k : Int)) (by kernel_rfl) (by omega) (by omega) (by kernel_rfl) ?_)
        refine R.ar (n * (((vs.length : Int) - 1) - (k : Int))) (by kernel_rfl) (by omega) (by omega) (by kernel_rfl) ?_
        refine R.shr (N : Int) (n * (((vs.length : Int) - 1) - (k : Int))) (by kernel_rfl) (by omega) (by kernel_rfl) ?_
        refine R.go 1 (R.call true (frameAll_c n xs (by omega) (by omega)) (by kernel_rfl) rfl (by kernel_rfl) ?_)
        refine R.go 1 (R.idxO 10 1 Y.length (((vs.getD k 0)).toNat) (vs.getD k 0) (by kernel_rfl) (by omega) (by omega) (by kernel_rfl) ?_)
        refine R.stI 10 2 Y (((vs.getD k 0)).toNat) (band (shr64 (N : Int) (n * (((vs.length : Int) - 1) - (k : Int)))) ((shl64 1 n) - 1)) (by kernel_rfl) (by omega) (by kernel_rfl) ?_
        refine R.go 3 (R.ar ((k : Int) + 1) (by kernel_rfl) (by omega) (by omega) (by kernel_rfl) ?_)
        exact R.go 2 (R.stop R9 (by kernel_rfl) (N10 (k + 1, Y.set (((vs.getD k 0)).toNat) (band (shr64 (N : Int) (n * (((vs.length : Int) - 1) - (k : Int)))) ((shl64 1 n) - 1))) [0, 1, 2, 4, 5, 6, 16, 17, 20, 21, 22] none _ (by kernel_rfl) (by kernel_rfl) ⟨(by omega), (by exact pv_step hY hVS (by omega) rfl)⟩ (by show (vs.length - (k + 1)) < (vs.length - k); omega)))
      · have hX : Y = vrow n vs (N : Int) := pv_end hY (by omega)
        have hYo : OKM Y.length a := by rw [hYl]; exact hok
        refine R.go 5 (R.yield 9 D2 us3 (by kernel_rfl) (by kernel_rfl) ?_)
        intro l14 us15
        refine R.go 3 (R.begin (by kernel_rfl) (by kernel_rfl) ?_)
        have hfull2 := shl_rng n hb0.1 (by omega)
        refine R.go 4 (R.call true (frameAll_c n xs (by omega) (by omega)) (by kernel_rfl) rfl (by kernel_rfl) ?_)
        refine R.go 10 (R.loop ((fun | (i, p) => (⟨(frm 55 [(4, .ptr 0 0), (6, .ptr 2 0), (7, .ptr 3 0), (8, .ptr 4 0), (9, .ptr 5 0), (12, .ref 10), (13, AI p), (34, LLN l), (35, AI l.length), (36, AI (i : Int))]), [.box 26 [AI n, LI xs], .box 53 [LLN l], .box 27 [LN a], .box 41 [.fn 29 []], .box 4 [.bool false], .box 2 [AI 0], rowA eLN 27 1 [a], .dead, .frame us3 (frm 55 [(0, .agg [AI n, LI xs]), (1, LLN l), (2, LN a), (3, .fn 29 []), (4, .ptr 0 0), (5, .ptr 1 0), (6, .ptr 2 0), (7, .ptr 3 0), (8, .ptr 4 0), (9, .ptr 5 0), (10, LLN (l ++ [a])), (11, AI (scode n xs (l ++ [a]))), (16, LLN l), (17, .clp 1 l.length (rows eLN l)), (18, LN a), (19, .ref 6), (20, LLN (l ++ [a])), (21, .agg [AI n, LI xs]), (22, LLN (l ++ [a])), (23, AI (scode n xs (l ++ [a]))), (24, AI (scode n xs (l ++ [a]))), (25, .bool (!decide ((scode n xs (l ++ [a])) = 0))), (27, .agg [AI n, LI xs]), (28, LLN (l ++ [a])), (29, LI vs), (30, .fn 52 [.rptr [LI vs], .rptr [AI n, LI xs]])]), loopObj Tryz.f28 D2 us3 .busy, rowA eI 2 1 Y, .frame us15 (frm 48 [(0, .ref 9), (1, .rptr [LI vs]), (2, .rptr [AI n, LI xs]), (4, .ref 10), (5, AI vs.length), (6, AI (N : Int)), (16, AI (shl64 1 (n * (vs.length : Int)))), (17, AI (N : Int)), (20, LI vs), (21, AI vs.length), (22, AI (k : Int)), (23, .bool (decide ((k : Int) < (vs.length : Int)))), (43, .ref 9), (44, .ref 10)])]⟩ : St) : Nat × Int → St)) (fun | (i, p) => (i ≤ l.length) ∧ (p = pmT n xs Y l i)) (fun | (i, p) => l.length - i) (0, ((shl64 1 n) - 1)) [4, 6, 7, 8, 9, 12, 13, 34, 35, 36] none (by kernel_rfl) (by kernel_rfl) (by kernel_rfl) ⟨(by omega), (by rfl)⟩ ?_)
        rintro ⟨i, p⟩ ⟨h19_1, h19_2⟩ R16 N17
        refine R.go 5 (R.cond ((i : Int) < (l.length : Int)) (by kernel_rfl) (fun c20 => ?_) (fun c20 => ?_))
        · refine R.go 5 (R.idx eLN l [] i (i : Int) (by kernel_rfl) rfl eLN_len (by omega) (by kernel_rfl) ?_)
          have hq := isF_okm (hpr.1 i (by omega))
          have hqo : OKM Y.length (l.getD i []) := by rw [hYl]; exact hq.1
          have hql : (l.getD i []).length ≤ 40 := hq.2
          refine R.go 8 (R.call false (truthSet_c n xs Y (l.getD i []) hqo (by omega) (by omega) (by first | omega | (simp <;> omega)) (by first | omega | (simp <;> omega))) (by kernel_rfl) rfl (by kernel_rfl) ?_)
          refine R.go 5 (R.ar ((i : Int) + 1) (by kernel_rfl) (by omega) (by omega) (by kernel_rfl) ?_)
          exact R.go 2 (R.stop R16 (by kernel_rfl) (N17 (i + 1, band p (gv (mT n) (mU n (bxB xs)) Y (l.getD i []))) [4, 6, 7, 8, 9, 12, 13, 34, 35, 36] none _ (by kernel_rfl) (by kernel_rfl) ⟨(by omega), (by rw [pmT, ← ‹p = pmT n xs Y l i›]; rfl)⟩ (by show (l.length - (i + 1)) < (l.length - i); omega)))
        · have hpe : p = pmT n xs Y l l.length := by rw [show l.length = i by omega]; assumption
          refine R.go 8 (R.call false (truthSet_c n xs Y a hYo (by omega) (by omega) (by first | omega | (simp <;> omega)) (by first | omega | (simp <;> omega))) (by kernel_rfl) rfl (by kernel_rfl) ?_)
          refine R.call true (within_c p (gv (mT n) (mU n (bxB xs)) Y a)) (by kernel_rfl) rfl (by kernel_rfl) ?_
          refine R.go 2 (R.condN (bnot p (gv (mT n) (mU n (bxB xs)) Y a) = 0) (by kernel_rfl) (fun c21 => ?_) (fun c21 => ?_))
          · have hb : ¬ bnot p (gv (mT n) (mU n (bxB xs)) Y a) = 0 := by assumption
            refine R.go 5 (R.roundR (frm 48 [(0, .ref 9), (1, .rptr [LI vs]), (2, .rptr [AI n, LI xs]), (4, .ref 10), (5, AI vs.length), (6, AI (N : Int)), (16, AI (shl64 1 (n * (vs.length : Int)))), (17, AI (N : Int)), (20, LI vs), (21, AI vs.length), (22, AI (k : Int)), (23, .bool (decide ((k : Int) < (vs.length : Int)))), (43, .ref 9), (44, .ref 10)]) (by kernel_rfl) (by kernel_rfl) (by kernel_rfl) ?_)
            refine R.go 3 (R.left (.ret) (.tup []) (frm 55 [(0, .agg [AI n, LI xs]), (1, LLN l), (2, LN a), (3, .fn 29 []), (4, .ptr 0 0), (5, .ptr 1 0), (6, .ptr 2 0), (7, .ptr 3 0), (8, .ptr 4 0), (9, .ptr 5 0), (10, LLN (l ++ [a])), (11, AI (scode n xs (l ++ [a]))), (16, LLN l), (17, .clp 1 l.length (rows eLN l)), (18, LN a), (19, .ref 6), (20, LLN (l ++ [a])), (21, .agg [AI n, LI xs]), (22, LLN (l ++ [a])), (23, AI (scode n xs (l ++ [a]))), (24, AI (scode n xs (l ++ [a]))), (25, .bool (!decide ((scode n xs (l ++ [a])) = 0))), (27, .agg [AI n, LI xs]), (28, LLN (l ++ [a])), (29, LI vs), (30, .fn 52 [.rptr [LI vs], .rptr [AI n, LI xs]])]) (by kernel_rfl) (by kernel_rfl) (by kernel_rfl) (by kernel_rfl) ?_)
            exact R.retE (.tup [.bool false, AI 0]) (by kernel_rfl) (by kernel_rfl) (by first | (refine tupB ?_ ?_ <;> first | exact csB_bad (by assumption) | rfl | exact hm.symm | (rw [csB, decide_eq_true hm, ← hvs, fst_some (N := N) (show ∀ M, M < N → badC false n xs vs l a M = false by assumption) (by rw [csL_go (p := p) hpe hX]; simpa using hb) (by omega)]; rfl) | (rw [csB, decide_eq_true hm, ← hvs, fst_none (fun M hM => (show ∀ M, M < N → badC false n xs vs l a M = false by assumption) M (by omega))]; rfl)) | (exfalso; omega))
          · refine R.go 2 (R.round (frm 48 [(0, .ref 9), (1, .rptr [LI vs]), (2, .rptr [AI n, LI xs]), (4, .ref 10), (5, AI vs.length), (6, AI (N : Int)), (16, AI (shl64 1 (n * (vs.length : Int)))), (17, AI (N : Int)), (20, LI vs), (21, AI vs.length), (22, AI (k : Int)), (23, .bool (decide ((k : Int) < (vs.length : Int)))), (43, .ref 9), (44, .ref 10)]) (by kernel_rfl) (by kernel_rfl) (by kernel_rfl) ?_)
            refine R.go 6 (R.ar ((N : Int) + 1) (by kernel_rfl) (by omega) (by omega) (by kernel_rfl) ?_)
            exact R.go 2 (R.stop R4 (by kernel_rfl) (N5 (N + 1, Y) [0, 1, 2, 4, 5, 16, 17] (some [0, 1, 2, 3, 4, 5, 6, 7, 8, 9, 10]) _ (by kernel_rfl) (by kernel_rfl) ⟨(by omega), (by rw [hX]; exact vrow_len _ _ _), (by rw [hX]; exact vrow_out), (by exact below_succ (by assumption) (by rw [csL_go (p := p) hpe hX]; simpa using (by assumption : bnot p (gv (mT n) (mU n (bxB xs)) Y a) = 0)))⟩ (by show ((totN n vs) - (N + 1)) < ((totN n vs) - N); omega)))
    · refine R.go 1 (R.over (.tup []) (frm 55 [(0, .agg [AI n, LI xs]), (1, LLN l), (2, LN a), (3, .fn 29 []), (4, .ptr 0 0), (5, .ptr 1 0), (6, .ptr 2 0), (7, .ptr 3 0), (8, .ptr 4 0), (9, .ptr 5 0), (10, LLN (l ++ [a])), (11, AI (scode n xs (l ++ [a]))), (16, LLN l), (17, .clp 1 l.length (rows eLN l)), (18, LN a), (19, .ref 6), (20, LLN (l ++ [a])), (21, .agg [AI n, LI xs]), (22, LLN (l ++ [a])), (23, AI (scode n xs (l ++ [a]))), (24, AI (scode n xs (l ++ [a]))), (25, .bool (!decide ((scode n xs (l ++ [a])) = 0))), (27, .agg [AI n, LI xs]), (28, LLN (l ++ [a])), (29, LI vs), (30, .fn 52 [.rptr [LI vs], .rptr [AI n, LI xs]])]) (by kernel_rfl) (by kernel_rfl) (by kernel_rfl) (by kernel_rfl) ?_)
      exact R.go 6 (R.retE (.tup [.bool true, AI 0]) (by kernel_rfl) (by kernel_rfl) (by first | (refine tupB ?_ ?_ <;> first | exact csB_bad (by assumption) | rfl | exact hm.symm | (rw [csB, decide_eq_true hm, ← hvs, fst_some (N := N) (show ∀ M, M < N → badC false n xs vs l a M = false by assumption) (by rw [csL_go (p := p) hpe hX]; simpa using hb) (by omega)]; rfl) | (rw [csB, decide_eq_true hm, ← hvs, fst_none (fun M hM => (show ∀ M, M < N → badC false n xs vs l a M = false by assumption) M (by omega))]; rfl)) | (exfalso; omega)))

end Go.Proofs.YtejaikeemahobaaGreat


/-! Consequences on frames: the program and the reference. -/
namespace Go.Proofs.YtejaikeemahobaaGreat
open Go.RowKit Go.Abs

theorem implLocal_c (n : Int) (xs : List Int) (l : List (List (Int × Int))) (a : List (Int × Int)) (lx : xs.length ≤ 1048576) (hlim : lim l) (hl : a.length ≤ 1048576) : CallA Tryz.prog 11 [.agg [AI n, LI xs], LLN l, LN a] (.tup [.bool (csB false n xs l a), AI (scode n xs (l ++ [a]))]) := by
  refine CallA.of Tryz.func11 rfl (by kernel_rfl) ?_
  refine R.go 11 (R.call true (consL_c n xs l a lx hlim hl) (by kernel_rfl) rfl (by kernel_rfl) ?_)
  exact R.go 5 (R.retE (.tup [.bool (csB false n xs l a), AI (scode n xs (l ++ [a]))]) (by kernel_rfl) (by kernel_rfl) (by rfl))

end Go.Proofs.YtejaikeemahobaaGreat


/-! Replacing a variable; facts of the law on validity. -/
namespace Go.Proofs.YtejaikeemahobaaGreat
open Go.RowKit Go.Abs

def idT : Nat → List (List (Int × Int))
  | 0 => []
  | i + 1 => idT i ++ [[(0, (i : Int))]]
theorem idT_len : ∀ i, (idT i).length = i
  | 0 => rfl
  | i + 1 => by simp [idT, idT_len i]
def boxP : List (Int × Int) := [(5, 0), (0, 0)]
def im0 : List (List (Int × Int)) := (idT 6).set 0 boxP
theorem im0_ok : ∀ v : Nat, v < 6 → OKM 6 (im0.getD v []) := by
  intro v hv
  have : v = 0 ∨ v = 1 ∨ v = 2 ∨ v = 3 ∨ v = 4 ∨ v = 5 := by omega
  rcases this with rfl | rfl | rfl | rfl | rfl | rfl
  · exact okm_mk1 (.inl rfl) (okm_var (by decide) (by decide))
  all_goals exact okm_var (by decide) (by decide)
theorem im0_len : im0.length = 6 ∧ ∀ v : Nat, (im0.getD v []).length ≤ 2 := by
  refine ⟨rfl, fun v => ?_⟩
  by_cases h : v < 6
  · have : v = 0 ∨ v = 1 ∨ v = 2 ∨ v = 3 ∨ v = 4 ∨ v = 5 := by omega
    rcases this with rfl | rfl | rfl | rfl | rfl | rfl <;> decide
  · rw [List.getD_eq_getElem?_getD, List.getElem?_eq_none (by show 6 ≤ v; omega)]
    simp
def subT (imgs : List (List (Int × Int))) (a : List (Int × Int)) (i : Nat) : List (Int × Int) := subA imgs (a.take i)
theorem subT_step {imgs : List (List (Int × Int))} {a : List (Int × Int)} {i : Nat} (hi : i < a.length) : ((a.getD i (0, 0)).1 = 0 → subT imgs a i ++ imgs.getD (a.getD i (0, 0)).2.toNat [] = subT imgs a (i + 1)) ∧ (¬ (a.getD i (0, 0)).1 = 0 → subT imgs a i ++ [a.getD i (0, 0)] = subT imgs a (i + 1)) := by
  have e : subT imgs a (i + 1) = subT imgs a i ++ subF imgs (a.getD i (0, 0)) := by
    unfold subT subA
    rw [List.take_succ_eq_append_getElem hi, List.flatMap_append, List.getD_eq_getElem?_getD, List.getElem?_eq_getElem hi]
    simp
  rw [e]
  unfold subF
  exact ⟨fun h => by rw [if_pos h], fun h => by rw [if_neg h]⟩
theorem subT_end {imgs : List (List (Int × Int))} {a : List (Int × Int)} {i : Nat} (h : i = a.length) : subT imgs a i = subA imgs a := by rw [subT, h, List.take_length]
def rvC (a : List (Int × Int)) : Int := if isF a = true then (if (subA im0 a).length > 40 then 3 else 0) else 1
def rvR (a : List (Int × Int)) : List (Int × Int) := if rvC a = 0 then subA im0 a else []
theorem rv_len (a : List (Int × Int)) : (rvR a).length ≤ 40 := by
  unfold rvR
  split
  · rename_i h
    unfold rvC at h
    split at h
    · split at h <;> omega
    · omega
  · simp
theorem rv_0 {a : List (Int × Int)} (h : rvC a = 0) : rvR a = subA im0 a := if_pos h
theorem rv_3 {a : List (Int × Int)} (hF : isF a = true) (h : ¬ rvC a = 0) : rvC a = 3 := by
  unfold rvC at h ⊢
  rw [if_pos hF] at h ⊢
  split at h
  · rw [if_pos (by assumption)]
  · exact absurd rfl h

section
variable {n : Int} {xs : List Int} {a : List (Int × Int)}
theorem fr_sc (h : frC n xs a = 0 ∨ frC n xs a = 4) : scode n xs [a] = 0 := by
  refine Classical.byContradiction fun hn => ?_
  have e : frC n xs a = scode n xs [a] := if_neg hn
  rw [e] at h
  have : scode n xs [a] = 0 ∨ scode n xs [a] = 1 ∨ scode n xs [a] = 3 := by
    unfold scode
    split
    · split <;> simp
    · simp
  omega
theorem law_A (h : scode n xs [a] = 0) : ((vdB n xs a) == (decide (frC n xs a = 4))) = true := by
  rw [beq_iff_eq, vdB, decide_eq_true h, Bool.true_and, frC, if_pos h]
  cases fstV n xs (mem (vmT [a] [a].length)) a <;> rfl
theorem rwTo_bits (h : scode n xs [a] = 0) : ∀ N, N ≤ totN n (mem (vmT [a] [a].length)) → InM n.toNat (rwTo n xs (mem (vmT [a] [a].length)) a N) ∧ ∀ w, tb (rwTo n xs (mem (vmT [a] [a].length)) a N) w = true ↔ ∃ M, M < N ∧ w < n.toNat ∧ tb (tset n xs (vrow n (mem (vmT [a] [a].length)) (M : Int)) a) w = false
  | 0, _ => ⟨inM_zero _, fun w => by simp [rwTo, tb_zero]⟩
  | N + 1, hN => by
    obtain ⟨f1, f2, f3, f4⟩ := sc1 h
    obtain ⟨h0, h8, _, _⟩ := okFr_rel f1
    obtain ⟨i1, i2⟩ := rwTo_bits h N (by omega)
    have hX := fun j hj => vrow_in (n := n) (vs := mem (vmT [a] [a].length)) (N := N) h0 h8 (by omega) j hj
    have ht := tset_in f1 (isF_okm f2).1 hX
    have hf := inM_full (n := n.toNat) (by omega)
    have htf : ∀ j, tb ((shl64 1 n) - 1) j = decide (j < n.toNat) := fun j => by
      have ht := tb_full (n := n.toNat) (by omega) j
      rwa [nn_eq h0] at ht
    rw [nn_eq h0] at hf
    have i3 := inM_bnot (n := n.toNat) (by omega) hf ht
    refine ⟨inM_bor (by omega) i1 i3, fun w => ?_⟩
    rw [rwTo, tb_bor (n := n.toNat) (by omega) i1 i3, Bool.or_eq_true, i2, tb_bnot (n := n.toNat) (by omega) hf ht, htf, Bool.and_eq_true, decide_eq_true_iff, Bool.not_eq_true']
    constructor
    · rintro (⟨M, h1, h2, h3⟩ | ⟨h2, h3⟩)
      · exact ⟨M, by omega, h2, h3⟩
      · exact ⟨N, by omega, h2, h3⟩
    · rintro ⟨M, h1, h2, h3⟩
      by_cases e : M = N
      · subst e; exact .inr ⟨h2, h3⟩
      · exact .inl ⟨M, by omega, h2, h3⟩
theorem law_B (h : scode n xs [a] = 0) : ((vdB n xs a) == (decide (rwV n xs a = 0))) = true := by
  obtain ⟨f1, f2, f3, f4⟩ := sc1 h
  obtain ⟨h0, h8, _, _⟩ := okFr_rel f1
  obtain ⟨i1, i2⟩ := rwTo_bits h _ (Nat.le_refl _)
  rw [beq_iff_eq, Bool.eq_iff_iff, vd_parts, decide_eq_true_iff, rwV, if_pos h]
  constructor
  · rintro ⟨_, h2⟩
    refine tb_ext i1.1 (Int.le_refl 0) fun w => ?_
    rw [tb_zero, ← Bool.not_eq_true, i2]
    rintro ⟨M, hM, hw, e⟩
    have hX := fun j hj => vrow_in (n := n) (vs := mem (vmT [a] [a].length)) (N := M) h0 h8 (by omega) j hj
    rw [(full_iff h0 h8 (tset_in f1 (isF_okm f2).1 hX)).1 (h2 M hM) w hw] at e
    cases e
  · intro hz
    refine ⟨h, fun N hN => ?_⟩
    have hX := fun j hj => vrow_in (n := n) (vs := mem (vmT [a] [a].length)) (N := N) h0 h8 (by omega) j hj
    refine (full_iff h0 h8 (tset_in f1 (isF_okm f2).1 hX)).2 fun w hw => ?_
    cases e : tb (tset n xs (vrow n (mem (vmT [a] [a].length)) (N : Int)) a) w with
    | true => rfl
    | false =>
      have := (i2 w).2 ⟨N, hN, hw, e⟩
      rw [hz, tb_zero] at this
      cases this
theorem law_C (h : scode n xs [a] = 0) : ((csB false n xs [] a) == (vdB n xs a)) = true := by
  obtain ⟨f1, f2, f3, f4⟩ := sc1 h
  obtain ⟨h0, h8, _, _⟩ := okFr_rel f1
  rw [beq_iff_eq, Bool.eq_iff_iff, vd_parts, csB, Bool.and_eq_true, decide_eq_true_eq]
  refine and_congr_right fun _ => ?_
  rw [fst_none_iff]
  have key : ∀ N, N < totN n (mem (vmT [a] [a].length)) → (badC false n xs (mem (vmT [a] [a].length)) [] a N = false ↔ tset n xs (vrow n (mem (vmT [a] [a].length)) (N : Int)) a = (shl64 1 n) - 1) := fun N hN => by
    have hX := fun j hj => vrow_in (n := n) (vs := mem (vmT [a] [a].length)) (N := N) h0 h8 (by omega) j hj
    rw [badC_ok f1 (isF_okm f2).1 (by omega) rfl (by simp), Bool.not_eq_false', decide_eq_true_iff]
    exact bnotF f1 (tset_in f1 (isF_okm f2).1 hX)
  exact ⟨fun h N hN => (key N hN).1 (h N hN), fun h N hN => (key N hN).2 (h N hN)⟩
/-- The refutation that is found refutes. -/
theorem law_D (h0c : frC n xs a = 0) : tatC n xs (frR n xs a) (frW n xs a) a = 0 ∧ tat n xs (frR n xs a) (frW n xs a) a = false ∧ band (shr64 (rwV n xs a) (frW n xs a)) 1 = 1 ∧ 0 ≤ frW n xs a ∧ frW n xs a < 62 ∧ (frR n xs a).length = 6 := by
  have h := fr_sc (.inl h0c)
  obtain ⟨f1, f2, f3, f4⟩ := sc1 h
  obtain ⟨h0, h8, hxl, _⟩ := okFr_rel f1
  obtain ⟨i1, i2⟩ := rwTo_bits h _ (Nat.le_refl _)
  have hs : (fstV n xs (mem (vmT [a] [a].length)) a).isSome = true := by
    rw [frC, if_pos h] at h0c
    split at h0c
    · assumption
    · omega
  obtain ⟨N, eN⟩ := Option.isSome_iff_exists.1 hs
  have hN : N < totN n (mem (vmT [a] [a].length)) := by simpa using List.mem_of_find?_eq_some eN
  have hb := List.find?_some eN
  have hX := fun j hj => vrow_in (n := n) (vs := mem (vmT [a] [a].length)) (N := N) h0 h8 (by omega) j hj
  have ht := tset_in f1 (isF_okm f2).1 hX
  have hf := inM_full (n := n.toNat) (by omega)
  have htf : ∀ j, tb ((shl64 1 n) - 1) j = decide (j < n.toNat) := fun j => by
    have ht := tb_full (n := n.toNat) (by omega) j
    rwa [nn_eq h0] at ht
  rw [nn_eq h0] at hf
  have i3 := inM_bnot (n := n.toNat) (by omega) hf ht
  have eR : frR n xs a = vrow n (mem (vmT [a] [a].length)) (N : Int) := by rw [frR, if_pos h]; simp only [fRow, eN]
  have eW : frW n xs a = (mem (bnot ((shl64 1 n) - 1) (tset n xs (vrow n (mem (vmT [a] [a].length)) (N : Int)) a))).getD 0 0 := by rw [frW, if_pos h]; simp only [fWor, eN]
  have hne : ¬ tset n xs (vrow n (mem (vmT [a] [a].length)) (N : Int)) a = (shl64 1 n) - 1 := fun e => by rw [badT_no e] at hb; cases hb
  have hpos : 0 < (mem (bnot ((shl64 1 n) - 1) (tset n xs (vrow n (mem (vmT [a] [a].length)) (N : Int)) a))).length := by
    refine Classical.byContradiction fun hz => hne ((full_iff h0 h8 ht).2 fun w hw => ?_)
    cases e : tb (tset n xs (vrow n (mem (vmT [a] [a].length)) (N : Int)) a) w with
    | true => rfl
    | false =>
      have : ((w : Nat) : Int) ∈ mem (bnot ((shl64 1 n) - 1) (tset n xs (vrow n (mem (vmT [a] [a].length)) (N : Int)) a)) := memN_mem.2 ⟨w, by omega, by rw [tb_bnot (n := n.toNat) (by omega) hf ht, htf, decide_eq_true hw, e]; rfl, rfl⟩
      exact absurd (List.length_pos_of_mem this) hz
  have hg : (mem (bnot ((shl64 1 n) - 1) (tset n xs (vrow n (mem (vmT [a] [a].length)) (N : Int)) a))).getD 0 0 ∈ mem (bnot ((shl64 1 n) - 1) (tset n xs (vrow n (mem (vmT [a] [a].length)) (N : Int)) a)) := by
    rw [List.getD_eq_getElem?_getD, List.getElem?_eq_getElem hpos]
    exact List.getElem_mem _
  obtain ⟨w, _, hw, ew⟩ := memN_mem.1 hg
  rw [← eW] at ew
  have hwn := tb_lt i3 hw
  rw [tb_bnot (n := n.toNat) (by omega) hf ht, Bool.and_eq_true, Bool.not_eq_true'] at hw
  have hmo : okMo n xs (vrow n (mem (vmT [a] [a].length)) (N : Int)) = true := by
    rw [okMo_3 f1 (by rw [vrow_len]; rfl), Bool.not_eq_true', List.any_eq_false]
    intro x hx
    obtain ⟨j, hj, rfl⟩ := List.getElem_of_mem hx
    rw [vrow_len] at hj
    have := (full_rng (n := n.toNat) (by omega)).1 (hX j hj)
    rw [List.getD_eq_getElem?_getD, List.getElem?_eq_getElem (by rw [vrow_len]; exact hj), nn_eq h0] at this
    simp only [Option.getD_some] at this
    rw [this]; simp
  have hmc := mcode_good hmo f2
  have hin : inR (w : Int) 0 (n - 1) = true := (inR_iff _ _ _).2 (by omega)
  rw [eR, ew]
  refine ⟨by rw [tatC, if_pos hmc, if_pos hin], ?_, ?_, by omega, by omega, vrow_len _ _ _⟩
  · have : ¬ band (shr64 (tset n xs (vrow n (mem (vmT [a] [a].length)) (N : Int)) a) (w : Int)) 1 = 1 := fun e => by
      have := (has_tb (n := n.toNat) (by omega) ht (by omega)).1 e
      rw [hw.2] at this
      cases this
    rw [tat, decide_eq_false this, Bool.and_false]
  · rw [rwV, if_pos h]
    exact (has_tb (n := n.toNat) (by omega) i1 (by omega)).2 ((i2 w).2 ⟨N, hN, hwn, hw.2⟩)
theorem law_E (hv : vdB n xs a = true) (h : rvC a = 0) (hs : scode n xs [rvR a] = 0) : vdB n xs (rvR a) = true := by
  rw [rv_0 h] at hs ⊢
  exact vd_sub im0_ok hv hs
end
theorem short2 {a : List (Int × Int)} (hl : a.length ≤ 1000000) : shortL [a, [(5, 0), (0, 0)]] := by
  refine ⟨by simp, fun j hj => ?_⟩
  have : j = 0 ∨ j = 1 := by simp at hj; omega
  rcases this with rfl | rfl
  · simp; omega
  · simp
theorem rv_no {a : List (Int × Int)} (h : allF [a, [(5, 0), (0, 0)]] = false) (h2 : allF [a, [(5, 0), (0, 0)]] = isF a) : [] = rvR a ∧ 1 = rvC a := by
  rw [h2] at h
  have e : rvC a = 1 := by rw [rvC, if_neg (by simp [h])]
  exact ⟨by rw [rvR, e]; rfl, e.symm⟩
theorem rv_big {a : List (Int × Int)} (h : isF a = true) (h2 : (subA im0 a).length > 40) : [] = rvR a ∧ 3 = rvC a := by
  have e : rvC a = 3 := by rw [rvC, if_pos h, if_pos h2]
  exact ⟨by rw [rvR, e]; rfl, e.symm⟩
theorem rv_fit {a : List (Int × Int)} (h : isF a = true) (h2 : ¬ (subA im0 a).length > 40) : subA im0 a = rvR a ∧ 0 = rvC a := by
  have e : rvC a = 0 := by rw [rvC, if_pos h, if_neg h2]
  exact ⟨by rw [rvR, e]; rfl, e.symm⟩
theorem tupNI {s : Nat} {a c : List (Int × Int)} {b d : Int} (h : a = c) (h' : b = d) : AV.tup [ownA eN s 2 a, AI b] = AV.tup [ownA eN s 2 c, AI d] := by rw [h, h']
theorem nil_lst {P : Program} {f : FuncId} {x a res : AV} (h : CallA P f [x, LLN [], a] res) : CallA P f [x, .nil, a] res := by
  refine ⟨h.1, fun Z0 w vs hv => h.2 Z0 w vs ?_⟩
  simp only [RelL] at hv ⊢
  obtain ⟨v1, vs1, rfl, r1, v2, vs2, rfl, r2, r3⟩ := hv
  exact ⟨v1, _, rfl, r1, v2, _, rfl, Rel.nilLst 1 r2, r3⟩

theorem variableV_c (v : Nat) : CallA Tryz.prog 102 [AI (v : Int)] (ownA eN 45 2 [(0, (v : Int))]) := by
  refine CallA.of Tryz.func102 rfl (by kernel_rfl) ?_
  exact R.go 11 (R.retE (ownA eN 45 2 [(0, (v : Int))]) (by kernel_rfl) (by kernel_rfl) (by rfl))

theorem identity_c : CallA Tryz.prog 87 [] (ownA eLN 27 1 (idT 6)) := by
  refine CallA.of Tryz.func87 rfl (by kernel_rfl) ?_
  refine R.go 14 (R.nil 1 27 1 (by kernel_rfl) ?_)
  refine R.loop ((fun | (i, o) => (⟨(frm 13 [(1, .ref 0), (3, AI (i : Int))]), [rowA eLN 27 1 o]⟩ : St) : Nat × (List (List (Int × Int))) → St)) (fun | (i, o) => (i ≤ 6) ∧ (o = idT i)) (fun | (i, o) => 6 - i) (0, []) [1, 3] none (by kernel_rfl) (by kernel_rfl) (by kernel_rfl) ⟨(by omega), (by rfl)⟩ ?_
  rintro ⟨i, o⟩ ⟨h4_1, rfl⟩ R1 N2
  have hol := idT_len i
  refine R.go 5 (R.cond ((i : Int) < 6) (by kernel_rfl) (fun c5 => ?_) (fun c5 => ?_))
  · refine R.go 11 (R.call true (variableV_c i).frz (by kernel_rfl) rfl (by kernel_rfl) ?_)
    refine R.go 1 (R.app eLN (idT i) [[(0, (i : Int))]] 0 27 1 24 (by kernel_rfl) eLN_one (by decide) (by first | omega | (simp <;> omega)) (by kernel_rfl) ?_)
    refine R.go 4 (R.ar ((i : Int) + 1) (by kernel_rfl) (by omega) (by omega) (by kernel_rfl) ?_)
    exact R.go 2 (R.stop R1 (by kernel_rfl) (N2 (i + 1, (idT i) ++ [[(0, (i : Int))]]) [1, 3] (some [0]) _ (by kernel_rfl) (by kernel_rfl) ⟨(by omega), (by rfl)⟩ (by show (6 - (i + 1)) < (6 - i); omega)))
  · exact R.go 6 (R.retE (ownA eLN 27 1 (idT i)) (by kernel_rfl) (by kernel_rfl) (by first | (rw [show i = 6 by omega]) | (exfalso; omega)))

theorem binding_c (b : List (Int × Int)) : CallA Tryz.prog 63 [AI 0, LN b] (ownA eLN 27 1 ((idT 6).set 0 b)) := by
  have hol := idT_len 6
  refine CallA.of Tryz.func63 rfl (by kernel_rfl) ?_
  refine R.go 6 (R.call true (identity_c) (by kernel_rfl) rfl (by kernel_rfl) ?_)
  refine R.go 7 (R.idxO 0 1 (idT 6).length 0 0 (by kernel_rfl) rfl (by omega) (by kernel_rfl) ?_)
  refine R.st1 eLN LN 0 27 (idT 6) 0 b (by kernel_rfl) (fun _ => rfl) (by omega) (by kernel_rfl) ?_
  exact R.go 6 (R.retE (ownA eLN 27 1 ((idT 6).set 0 b)) (by kernel_rfl) (by kernel_rfl) (by rfl))

theorem withI_c (imgs : List (List (Int × Int))) : CallA Tryz.prog 86 [LLN imgs] (.fn 101 [.rptr [LLN imgs]]) := by
  refine CallA.of Tryz.func86 rfl (by kernel_rfl) ?_
  refine R.go 10 (R.bx 0 (by kernel_rfl) ?_)
  exact R.retE (.fn 101 [.rptr [LLN imgs]]) (by kernel_rfl) (by kernel_rfl) (by rfl)

theorem withI1_c (imgs : List (List (Int × Int))) (a : List (Int × Int)) (hF : ∀ j : Nat, j < a.length → (a.getD j (0, 0)).1 = 0 → 0 ≤ (a.getD j (0, 0)).2 ∧ (a.getD j (0, 0)).2 < 6) (hi : imgs.length = 6 ∧ ∀ v : Nat, (imgs.getD v []).length ≤ 2) (hl : a.length ≤ 1000) : CallA Tryz.prog 101 [LN a, .rptr [LLN imgs]] (ownA eN 45 2 (subA imgs a)) := by
  refine CallA.of Tryz.func101 rfl (by kernel_rfl) ?_
  refine R.go 16 (R.nil 4 45 2 (by kernel_rfl) ?_)
  refine R.loop ((fun | (i, o) => (⟨(frm 29 [(1, .rptr [LLN imgs]), (4, .ref 0), (7, LN a), (8, AI a.length), (9, AI (i : Int))]), [rowA eN 45 2 o]⟩ : St) : Nat × (List (Int × Int)) → St)) (fun | (i, o) => (i ≤ a.length) ∧ (o.length ≤ 2 * i) ∧ (o = subT imgs a i)) (fun | (i, o) => a.length - i) (0, []) [1, 4, 7, 8, 9] none (by kernel_rfl) (by kernel_rfl) (by kernel_rfl) ⟨(by omega), (by simp [subT, subA]), (by rfl)⟩ ?_
  rintro ⟨i, o⟩ ⟨h4_1, h4_2, rfl⟩ R1 N2
  refine R.go 5 (R.cond ((i : Int) < (a.length : Int)) (by kernel_rfl) (fun c5 => ?_) (fun c5 => ?_))
  · refine R.go 5 (R.idx eN a (0, 0) i (i : Int) (by kernel_rfl) rfl eN_len (by omega) (by kernel_rfl) ?_)
    refine R.go 10 (R.cond (((a.getD i (0, 0)).1) = 0) (by kernel_rfl) (fun c6 => ?_) (fun c6 => ?_))
    · have hfv := hF i (by omega) (by assumption)
      have him := hi.1
      have hiv := hi.2 (a.getD i (0, 0)).2.toNat
      refine R.go 5 (R.idx eLN imgs [] (((a.getD i (0, 0)).2).toNat) ((a.getD i (0, 0)).2) (by kernel_rfl) (by omega) eLN_len (by omega) (by kernel_rfl) ?_)
      refine R.go 1 (R.app eN (subT imgs a i) (imgs.getD (((a.getD i (0, 0)).2).toNat) []) 0 45 2 16 (by kernel_rfl) eN_one (by decide) (by first | omega | (simp <;> omega)) (by kernel_rfl) ?_)
      refine R.go 4 (R.ar ((i : Int) + 1) (by kernel_rfl) (by omega) (by omega) (by kernel_rfl) ?_)
      exact R.go 2 (R.stop R1 (by kernel_rfl) (N2 (i + 1, (subT imgs a i) ++ (imgs.getD (((a.getD i (0, 0)).2).toNat) [])) [1, 4, 7, 8, 9] (some [0]) _ (by kernel_rfl) (by kernel_rfl) ⟨(by omega), (by (simp only [List.length_append, List.length_cons, List.length_nil]; have hq := hi.2 (a.getD i (0, 0)).2.toNat; omega)), (by first | exact (subT_step (by omega)).1 (by assumption) | exact (subT_step (by omega)).2 (by assumption))⟩ (by show (a.length - (i + 1)) < (a.length - i); omega)))
    · refine R.go 4 (R.app eN (subT imgs a i) [((a.getD i (0, 0)).1, (a.getD i (0, 0)).2)] 0 45 2 16 (by kernel_rfl) eN_one (by decide) (by first | omega | (simp <;> omega)) (by kernel_rfl) ?_)
      refine R.go 4 (R.ar ((i : Int) + 1) (by kernel_rfl) (by omega) (by omega) (by kernel_rfl) ?_)
      exact R.go 2 (R.stop R1 (by kernel_rfl) (N2 (i + 1, (subT imgs a i) ++ [((a.getD i (0, 0)).1, (a.getD i (0, 0)).2)]) [1, 4, 7, 8, 9] (some [0]) _ (by kernel_rfl) (by kernel_rfl) ⟨(by omega), (by (simp only [List.length_append, List.length_cons, List.length_nil]; have hq := hi.2 (a.getD i (0, 0)).2.toNat; omega)), (by first | exact (subT_step (by omega)).1 (by assumption) | exact (subT_step (by omega)).2 (by assumption))⟩ (by show (a.length - (i + 1)) < (a.length - i); omega)))
  · exact R.go 6 (R.retE (ownA eN 45 2 (subT imgs a i)) (by kernel_rfl) (by kernel_rfl) (by first | (rw [subT_end (show i = a.length by omega)]) | (exfalso; omega)))

theorem subst_c (imgs : List (List (Int × Int))) (a : List (Int × Int)) (hF : ∀ j : Nat, j < a.length → (a.getD j (0, 0)).1 = 0 → 0 ≤ (a.getD j (0, 0)).2 ∧ (a.getD j (0, 0)).2 < 6) (hi : imgs.length = 6 ∧ ∀ v : Nat, (imgs.getD v []).length ≤ 2) (hl : a.length ≤ 1000) : CallA Tryz.prog 62 [LN a, LLN imgs] (ownA eN 45 2 (subA imgs a)) := by
  refine CallA.of Tryz.func62 rfl (by kernel_rfl) ?_
  refine R.go 7 (R.call true (withI_c imgs) (by kernel_rfl) rfl (by kernel_rfl) ?_)
  refine R.go 1 (R.call true (withI1_c imgs a hF hi hl) (by kernel_rfl) rfl (by kernel_rfl) ?_)
  exact R.go 2 (R.retE (ownA eN 45 2 (subA imgs a)) (by kernel_rfl) (by kernel_rfl) (by rfl))

theorem replV_c (a : List (Int × Int)) (hF : ∀ j : Nat, j < a.length → (a.getD j (0, 0)).1 = 0 → 0 ≤ (a.getD j (0, 0)).2 ∧ (a.getD j (0, 0)).2 < 6) (hl : a.length ≤ 1000) : CallA Tryz.prog 37 [LN a, AI 0, LN [(5, 0), (0, 0)]] (ownA eN 45 2 (subA im0 a)) := by
  have him0 : ((idT 6).set 0 [(5, 0), (0, 0)]).length = 6 ∧ ∀ v : Nat, (((idT 6).set 0 [(5, 0), (0, 0)]).getD v []).length ≤ 2 := im0_len
  refine CallA.of Tryz.func37 rfl (by kernel_rfl) ?_
  refine R.go 9 (R.call true (binding_c [(5, 0), (0, 0)]).frz (by kernel_rfl) rfl (by kernel_rfl) ?_)
  refine R.call true (subst_c ((idT 6).set 0 [(5, 0), (0, 0)]) a hF him0 hl) (by kernel_rfl) rfl (by kernel_rfl) ?_
  exact R.go 2 (R.retE (ownA eN 45 2 (subA ((idT 6).set 0 [(5, 0), (0, 0)]) a)) (by kernel_rfl) (by kernel_rfl) (by first | (rfl) | (exfalso; omega)))

theorem RV_impl (a : List (Int × Int)) (hl : a.length ≤ 1000000) : CallA Tryz.prog 14 [LN a, AI 0, LN [(5, 0), (0, 0)]] (.tup [ownA eN 45 2 (rvR a), AI (rvC a)]) := by
  have hbx : isF [(5, 0), (0, 0)] = true := by decide
  have hall : allF [a, [(5, 0), (0, 0)]] = isF a := by simp [allF, hbx]
  have hsh : shortL [a, [(5, 0), (0, 0)]] := short2 hl
  refine CallA.of Tryz.func14 rfl (by kernel_rfl) ?_
  refine R.go 11 (R.lit (s := 1) (n := 2) (cs := rows eLN [a, [(5, 0), (0, 0)]]) (by kernel_rfl) (by kernel_rfl) ?_)
  refine R.call true (areFormulas_c [a, [(5, 0), (0, 0)]] hsh) (by kernel_rfl) rfl (by kernel_rfl) ?_
  refine R.go 3 (R.condM (allF [a, [(5, 0), (0, 0)]]) (by kernel_rfl) (fun c1 => ?_) (fun c1 => ?_))
  · refine R.go 5 (R.nil 6 45 2 (by kernel_rfl) ?_)
    exact R.retE (.tup [ownA eN 45 2 [], AI 1]) (by kernel_rfl) (by kernel_rfl) (by first | (first | (refine tupNI ?_ ?_ <;> first | exact (rv_no (by assumption) hall).1 | exact (rv_no (by assumption) hall).2 | exact (rv_big hFa (by omega)).1 | exact (rv_big hFa (by omega)).2 | exact (rv_fit hFa (by omega)).1 | exact (rv_fit hFa (by omega)).2) | exact absurd (by assumption : inR 0 0 5 = false) (by decide)) | (exfalso; omega))
  · refine R.go 3 (R.call true (isVariable_c 0) (by kernel_rfl) rfl (by kernel_rfl) ?_)
    refine R.go 3 (R.condM (inR 0 0 5) (by kernel_rfl) (fun c2 => ?_) (fun c2 => ?_))
    · refine R.go 5 (R.nil 6 45 2 (by kernel_rfl) ?_)
      exact R.retE (.tup [ownA eN 45 2 [], AI 2]) (by kernel_rfl) (by kernel_rfl) (by first | (first | (refine tupNI ?_ ?_ <;> first | exact (rv_no (by assumption) hall).1 | exact (rv_no (by assumption) hall).2 | exact (rv_big hFa (by omega)).1 | exact (rv_big hFa (by omega)).2 | exact (rv_fit hFa (by omega)).1 | exact (rv_fit hFa (by omega)).2) | exact absurd (by assumption : inR 0 0 5 = false) (by decide)) | (exfalso; omega))
    · have hFa : isF a = true := by have hq := (by assumption : allF [a, [(5, 0), (0, 0)]] = true); rw [hall] at hq; exact hq
      have hA := isF_okm hFa
      have hal := hA.2
      have hFv : ∀ j : Nat, j < a.length → (a.getD j (0, 0)).1 = 0 → 0 ≤ (a.getD j (0, 0)).2 ∧ (a.getD j (0, 0)).2 < 6 := fun j hj h => (okm_get hA.1 j hj).2.2 h
      refine R.go 7 (R.call true (replV_c a hFv (by first | omega | (simp <;> omega))) (by kernel_rfl) rfl (by kernel_rfl) ?_)
      refine R.enter (avs := [.ref 0]) Tryz.func36 rfl (by kernel_rfl) (by kernel_rfl) (by kernel_rfl) ?_
      intro us3
      refine R.go 12 (R.cond (((subA im0 a).length : Int) > 40) (by kernel_rfl) (fun c4 => ?_) (fun c4 => ?_))
      · refine R.go 5 (R.back (.tup [.nil, AI 3]) (frm 25 [(0, LN a), (1, AI 0), (2, LN [(5, 0), (0, 0)]), (6, .nil), (7, AI 0), (8, .bool (!(allF [a, [(5, 0), (0, 0)]]))), (9, LN a), (10, LN [(5, 0), (0, 0)]), (11, LLN [a, [(5, 0), (0, 0)]]), (12, .bool (allF [a, [(5, 0), (0, 0)]])), (13, .bool (!(allF [a, [(5, 0), (0, 0)]]))), (14, .bool (!(inR 0 0 5))), (15, AI 0), (16, .bool (inR 0 0 5)), (17, .bool (!(inR 0 0 5))), (18, LN a), (19, AI 0), (20, LN [(5, 0), (0, 0)]), (21, .ref 0)]) (by kernel_rfl) (by kernel_rfl) (by kernel_rfl) ?_)
        refine R.go 5 (R.nil 6 45 2 (by kernel_rfl) ?_)
        exact R.retE (.tup [ownA eN 45 2 [], AI 3]) (by kernel_rfl) (by kernel_rfl) (by first | (first | (refine tupNI ?_ ?_ <;> first | exact (rv_no (by assumption) hall).1 | exact (rv_no (by assumption) hall).2 | exact (rv_big hFa (by omega)).1 | exact (rv_big hFa (by omega)).2 | exact (rv_fit hFa (by omega)).1 | exact (rv_fit hFa (by omega)).2) | exact absurd (by assumption : inR 0 0 5 = false) (by decide)) | (exfalso; omega))
      · refine R.go 7 (R.back (.tup [.ref 0, AI 0]) (frm 25 [(0, LN a), (1, AI 0), (2, LN [(5, 0), (0, 0)]), (6, .nil), (7, AI 0), (8, .bool (!(allF [a, [(5, 0), (0, 0)]]))), (9, LN a), (10, LN [(5, 0), (0, 0)]), (11, LLN [a, [(5, 0), (0, 0)]]), (12, .bool (allF [a, [(5, 0), (0, 0)]])), (13, .bool (!(allF [a, [(5, 0), (0, 0)]]))), (14, .bool (!(inR 0 0 5))), (15, AI 0), (16, .bool (inR 0 0 5)), (17, .bool (!(inR 0 0 5))), (18, LN a), (19, AI 0), (20, LN [(5, 0), (0, 0)]), (21, .ref 0)]) (by kernel_rfl) (by kernel_rfl) (by kernel_rfl) ?_)
        exact R.go 5 (R.retE (.tup [ownA eN 45 2 (subA im0 a), AI 0]) (by kernel_rfl) (by kernel_rfl) (by first | (first | (refine tupNI ?_ ?_ <;> first | exact (rv_no (by assumption) hall).1 | exact (rv_no (by assumption) hall).2 | exact (rv_big hFa (by omega)).1 | exact (rv_big hFa (by omega)).2 | exact (rv_fit hFa (by omega)).1 | exact (rv_fit hFa (by omega)).2) | exact absurd (by assumption : inR 0 0 5 = false) (by decide)) | (exfalso; omega)))

theorem impLocalNil_c (n : Int) (xs : List Int) (a : List (Int × Int)) (lx : xs.length ≤ 1048576) (hl : a.length ≤ 1048576) : CallA Tryz.prog 11 [.agg [AI n, LI xs], .nil, LN a] (.tup [.bool (csB false n xs [] a), AI (scode n xs [a])]) := nil_lst (implLocal_c n xs [] a lx ⟨by simp, fun j hj => by simp at hj⟩ hl)

theorem bit9_c (k : Int) (i : Int) (h0 : 0 ≤ i) (h1 : i < 62) : CallA Tryz.prog 13 [AI k, AI i] (.bool (decide (band (shr64 k i) 1 = 1))) := by
  refine CallA.of Tryz.func13 rfl (by kernel_rfl) ?_
  refine R.go 9 ?_
  by_cases c1 : i ≥ 0
  · refine R.want (decide (i ≥ 0)) true (by kernel_rfl) (dT c1) ?_
    refine R.go 1 (R.want (decide (i ≥ 0)) true (by kernel_rfl) (dT c1) ?_)
    refine R.go 1 (R.pick (decide (i ≥ 0)) true (by kernel_rfl) (dT c1) (by kernel_rfl) ?_)
    refine R.go 1 (R.want (decide (i < 62)) true (by kernel_rfl) (dT h1) ?_)
    refine R.go 1 (R.want (decide (i < 62)) true (by kernel_rfl) (dT h1) ?_)
    refine R.go 1 (R.want (decide (i < 62)) true (by kernel_rfl) (dT h1) ?_)
    refine R.cv .u64 i (by kernel_rfl) (u64_id (by omega) (by omega)) (by kernel_rfl) ?_
    refine R.want (decide (i < 62)) true (by kernel_rfl) (dT h1) ?_
    refine R.shr k i (by kernel_rfl) (by omega) (by kernel_rfl) ?_
    refine R.want (decide (i < 62)) true (by kernel_rfl) (dT h1) ?_
    refine R.go 1 (R.want (decide (i < 62)) true (by kernel_rfl) (dT h1) ?_)
    refine R.go 1 (R.pick (decide (i < 62)) true (by kernel_rfl) (dT h1) (by kernel_rfl) ?_)
    exact R.go 2 (R.retE (.bool (decide ((band (shr64 k i) 1) = 1))) (by kernel_rfl) (by kernel_rfl) (by first | (rfl) | (exfalso; omega)))
  · refine R.skp (decide (i ≥ 0)) true (by kernel_rfl) (dF c1) (by kernel_rfl) ?_
    refine R.skp (decide (i ≥ 0)) true (by kernel_rfl) (dF c1) (by kernel_rfl) ?_
    refine R.pick (decide (i ≥ 0)) false (by kernel_rfl) (dF c1) (by kernel_rfl) ?_
    exact R.go 10 (R.retE (.bool false) (by kernel_rfl) (by kernel_rfl) (by first | (rfl) | (exfalso; omega)))

theorem likeInts_c (a : List Int) (hl : a.length ≤ 1000000000) : CallA Tryz.prog 8 [LI a, LI a] (.bool true) := by
  refine CallA.of Tryz.func8 rfl (by kernel_rfl) ?_
  refine R.go 13 (R.els (!decide ((a.length : Int) = (a.length : Int))) (by kernel_rfl) (nF rfl) ?_)
  refine R.go 7 (R.loop (fun (i : Nat) => (⟨(frm 26 [(0, LI a), (1, LI a), (5, AI (i : Int))]), []⟩ : St)) (fun (i : Nat) => i ≤ a.length) (fun (i : Nat) => a.length - i) 0 [0, 1, 5] none (by kernel_rfl) (by kernel_rfl) (by kernel_rfl) (by omega) ?_)
  rintro i h3_1 R1 N2
  refine R.go 8 (R.cond ((i : Int) < (a.length : Int)) (by kernel_rfl) (fun c4 => ?_) (fun c4 => ?_))
  · refine R.go 7 (R.idx eI a 0 i (i : Int) (by kernel_rfl) rfl eI_len (by omega) (by kernel_rfl) ?_)
    refine R.go 3 (R.idx eI a 0 i (i : Int) (by kernel_rfl) rfl eI_len (by omega) (by kernel_rfl) ?_)
    refine R.go 3 (R.els (!decide ((a.getD i 0) = (a.getD i 0))) (by kernel_rfl) (nF rfl) ?_)
    refine R.go 4 (R.ar ((i : Int) + 1) (by kernel_rfl) (by omega) (by omega) (by kernel_rfl) ?_)
    exact R.go 2 (R.stop R1 (by kernel_rfl) (N2 (i + 1) [0, 1, 5] none _ (by kernel_rfl) (by kernel_rfl) (by omega) (by show (a.length - (i + 1)) < (a.length - i); omega)))
  · exact R.go 5 (R.retE (.bool true) (by kernel_rfl) (by kernel_rfl) (by rfl))

end Go.Proofs.YtejaikeemahobaaGreat


/-! The law FnValidity. -/
namespace Go.Proofs.YtejaikeemahobaaGreat
open Go.RowKit Go.Abs

theorem fr_len (n : Int) (xs : List Int) (a : List (Int × Int)) : (frR n xs a).length ≤ 6 := by
  unfold frR
  split
  · unfold fRow
    split
    · rw [vrow_len]; decide
    · simp
  · simp

theorem big_c (c : List Int) : CallA Tryz.prog 4 [LB c] (.bool (decide ((c.length : Int) > 4096))) := by
  refine CallA.of Tryz.func4 rfl (by kernel_rfl) ?_
  exact R.go 11 (R.retE (.bool (decide ((c.length : Int) > 4096))) (by kernel_rfl) (by kernel_rfl) (by rfl))

theorem lawVal_c (c : List Int) (hcb : ∀ q : Nat, q < c.length → 0 ≤ c.getD q 0 ∧ c.getD q 0 ≤ 255) : CallA Tryz.prog 3 [LB c] (.bool true) := by
  refine CallA.of Tryz.func3 rfl (by kernel_rfl) ?_
  refine R.go 8 (R.call true (big_c c) (by kernel_rfl) rfl (by kernel_rfl) ?_)
  refine R.go 1 (R.cond ((c.length : Int) > 4096) (by kernel_rfl) (fun c1 => ?_) (fun c1 => ?_))
  · exact R.go 4 (R.retE (.bool true) (by kernel_rfl) (by kernel_rfl) (by rfl))
  · have hc : BY c := ⟨by omega, hcb⟩
    refine R.go 4 (R.callX (drFirst_c c hc) (by kernel_rfl) (by kernel_rfl) (by kernel_rfl) ?_)
    rintro _ _ ⟨n_2, xs_3, a_4, f5, f6, rfl, rfl⟩
    refine R.go 11 (R.call true (FR_impl n_2 xs_3 a_4 (by first | omega | (simp <;> omega)) (by first | omega | (simp <;> omega))).frz (by kernel_rfl) rfl (by kernel_rfl) ?_)
    refine R.go 12 (R.call true (FR_spec n_2 xs_3 a_4 (by first | omega | (simp <;> omega)) (by first | omega | (simp <;> omega))).frz (by kernel_rfl) rfl (by kernel_rfl) ?_)
    have hfrl := fr_len n_2 xs_3 a_4
    refine R.go 15 (R.want (!decide ((frC n_2 xs_3 a_4) = (frC n_2 xs_3 a_4))) false (by kernel_rfl) (nF rfl) ?_)
    refine R.go 1 (R.want (!decide ((frC n_2 xs_3 a_4) = (frC n_2 xs_3 a_4))) false (by kernel_rfl) (nF rfl) ?_)
    refine R.go 1 (R.want (!decide ((frC n_2 xs_3 a_4) = (frC n_2 xs_3 a_4))) false (by kernel_rfl) (nF rfl) ?_)
    refine R.call true (likeInts_c (frR n_2 xs_3 a_4) (by first | omega | (simp <;> omega))) (by kernel_rfl) rfl (by kernel_rfl) ?_
    refine R.want (!decide ((frC n_2 xs_3 a_4) = (frC n_2 xs_3 a_4))) false (by kernel_rfl) (nF rfl) ?_
    refine R.go 1 (R.pick (!decide ((frC n_2 xs_3 a_4) = (frC n_2 xs_3 a_4))) false (by kernel_rfl) (nF rfl) (by kernel_rfl) ?_)
    refine R.go 6 (R.els (!decide ((frW n_2 xs_3 a_4) = (frW n_2 xs_3 a_4))) (by kernel_rfl) (nF rfl) ?_)
    refine R.go 7 ?_
    by_cases c7 : (frC n_2 xs_3 a_4) = 0
    · refine R.skp (!decide ((frC n_2 xs_3 a_4) = 0)) true (by kernel_rfl) (nF c7) (by kernel_rfl) ?_
      refine R.skp (!decide ((frC n_2 xs_3 a_4) = 0)) true (by kernel_rfl) (nF c7) (by kernel_rfl) ?_
      refine R.pick (!decide ((frC n_2 xs_3 a_4) = 0)) false (by kernel_rfl) (nF c7) (by kernel_rfl) ?_
      have hsc : scode n_2 xs_3 [a_4] = 0 := fr_sc (by omega)
      have hA := law_A hsc
      have hB := law_B hsc
      have hC := law_C hsc
      refine R.go 7 (R.call true (VO_impl n_2 xs_3 a_4 (by first | omega | (simp <;> omega)) (by first | omega | (simp <;> omega))) (by kernel_rfl) rfl (by kernel_rfl) ?_)
      refine R.go 10 (R.call true (RW_impl n_2 xs_3 a_4 (by first | omega | (simp <;> omega)) (by first | omega | (simp <;> omega))) (by kernel_rfl) rfl (by kernel_rfl) ?_)
      refine R.go 10 (R.call true (impLocalNil_c n_2 xs_3 a_4 (by first | omega | (simp <;> omega)) (by first | omega | (simp <;> omega))) (by kernel_rfl) rfl (by kernel_rfl) ?_)
      refine R.go 11 (R.ar ((scode n_2 xs_3 [a_4]) + (scode n_2 xs_3 [a_4])) (by kernel_rfl) (by omega) (by omega) (by kernel_rfl) ?_)
      refine R.go 1 (R.ar (((scode n_2 xs_3 [a_4]) + (scode n_2 xs_3 [a_4])) + (scode n_2 xs_3 [a_4])) (by kernel_rfl) (by omega) (by omega) (by kernel_rfl) ?_)
      refine R.go 2 ?_
      by_cases c8 : (((scode n_2 xs_3 [a_4]) + (scode n_2 xs_3 [a_4])) + (scode n_2 xs_3 [a_4])) = 0
      · refine R.want (!decide ((((scode n_2 xs_3 [a_4]) + (scode n_2 xs_3 [a_4])) + (scode n_2 xs_3 [a_4])) = 0)) false (by kernel_rfl) (nF c8) ?_
        refine R.go 1 (R.want (!decide ((((scode n_2 xs_3 [a_4]) + (scode n_2 xs_3 [a_4])) + (scode n_2 xs_3 [a_4])) = 0)) false (by kernel_rfl) (nF c8) ?_)
        refine R.go 1 (R.want (!decide ((((scode n_2 xs_3 [a_4]) + (scode n_2 xs_3 [a_4])) + (scode n_2 xs_3 [a_4])) = 0)) false (by kernel_rfl) (nF c8) ?_)
        refine R.go 1 (R.want (!decide ((((scode n_2 xs_3 [a_4]) + (scode n_2 xs_3 [a_4])) + (scode n_2 xs_3 [a_4])) = 0)) false (by kernel_rfl) (nF c8) ?_)
        refine R.go 1 (R.pick (!decide ((((scode n_2 xs_3 [a_4]) + (scode n_2 xs_3 [a_4])) + (scode n_2 xs_3 [a_4])) = 0)) false (by kernel_rfl) (nF c8) (by kernel_rfl) ?_)
        refine R.go 1 ?_
        refine (Bool.eq_false_or_eq_true (((vdB n_2 xs_3 a_4) == (decide ((frC n_2 xs_3 a_4) = 4))))).elim (fun c9 => ?_) (fun c9 => ?_)
        · refine R.want (!((vdB n_2 xs_3 a_4) == (decide ((frC n_2 xs_3 a_4) = 4)))) false (by kernel_rfl) (bnF c9) ?_
          refine R.go 1 (R.want (!((vdB n_2 xs_3 a_4) == (decide ((frC n_2 xs_3 a_4) = 4)))) false (by kernel_rfl) (bnF c9) ?_)
          refine R.go 1 (R.want (!((vdB n_2 xs_3 a_4) == (decide ((frC n_2 xs_3 a_4) = 4)))) false (by kernel_rfl) (bnF c9) ?_)
          refine R.go 1 (R.want (!((vdB n_2 xs_3 a_4) == (decide ((frC n_2 xs_3 a_4) = 4)))) false (by kernel_rfl) (bnF c9) ?_)
          refine R.go 1 (R.pick (!((vdB n_2 xs_3 a_4) == (decide ((frC n_2 xs_3 a_4) = 4)))) false (by kernel_rfl) (bnF c9) (by kernel_rfl) ?_)
          refine R.go 1 ?_
          refine (Bool.eq_false_or_eq_true (((vdB n_2 xs_3 a_4) == (decide ((rwV n_2 xs_3 a_4) = 0))))).elim (fun c10 => ?_) (fun c10 => ?_)
          · refine R.want (!((vdB n_2 xs_3 a_4) == (decide ((rwV n_2 xs_3 a_4) = 0)))) false (by kernel_rfl) (bnF c10) ?_
            refine R.go 1 (R.want (!((vdB n_2 xs_3 a_4) == (decide ((rwV n_2 xs_3 a_4) = 0)))) false (by kernel_rfl) (bnF c10) ?_)
            refine R.go 1 (R.want (!((vdB n_2 xs_3 a_4) == (decide ((rwV n_2 xs_3 a_4) = 0)))) false (by kernel_rfl) (bnF c10) ?_)
            refine R.go 1 (R.pick (!((vdB n_2 xs_3 a_4) == (decide ((rwV n_2 xs_3 a_4) = 0)))) false (by kernel_rfl) (bnF c10) (by kernel_rfl) ?_)
            refine R.go 1 (R.condM (((csB false n_2 xs_3 [] a_4) == (vdB n_2 xs_3 a_4))) (by kernel_rfl) (fun c11 => ?_) (fun c11 => ?_))
            · exact R.go 4 (R.retE (.bool false) (by kernel_rfl) (by kernel_rfl) (by first | (first | rfl | exact absurd (hA.symm.trans (by assumption : _ = false)) (by decide) | exact absurd (hB.symm.trans (by assumption : _ = false)) (by decide) | exact absurd (hC.symm.trans (by assumption : _ = false)) (by decide) | exact absurd (hD2.symm.trans (by assumption : _ = true)) (by decide) | exact absurd hD1 (by assumption) | exact congrArg AV.bool (decide_eq_true hD3) | exact congrArg AV.bool (decide_eq_true (rv_3 hFa (by assumption))) | exact congrArg AV.bool (law_E (by assumption) (by assumption) (by assumption))) | (exfalso; omega)))
            · refine R.go 7 (R.thn (decide ((frC n_2 xs_3 a_4) = 0)) (by kernel_rfl) (dT c7) ?_)
              have hD := law_D (by assumption : frC n_2 xs_3 a_4 = 0)
              have hD1 := hD.1
              have hD2 := hD.2.1
              have hD3 := hD.2.2.1
              have hD4 := hD.2.2.2
              refine R.go 13 (R.call true (TA_impl n_2 xs_3 (frR n_2 xs_3 a_4) (frW n_2 xs_3 a_4) a_4 (by first | omega | (simp <;> omega)) (by first | omega | (simp <;> omega)) (by first | omega | (simp <;> omega))) (by kernel_rfl) rfl (by kernel_rfl) ?_)
              refine R.go 11 ?_
              by_cases c12 : (tatC n_2 xs_3 (frR n_2 xs_3 a_4) (frW n_2 xs_3 a_4) a_4) = 0
              · refine R.want (decide ((tatC n_2 xs_3 (frR n_2 xs_3 a_4) (frW n_2 xs_3 a_4) a_4) = 0)) true (by kernel_rfl) (dT c12) ?_
                refine R.go 1 (R.want (decide ((tatC n_2 xs_3 (frR n_2 xs_3 a_4) (frW n_2 xs_3 a_4) a_4) = 0)) true (by kernel_rfl) (dT c12) ?_)
                refine R.go 1 (R.pick (decide ((tatC n_2 xs_3 (frR n_2 xs_3 a_4) (frW n_2 xs_3 a_4) a_4) = 0)) true (by kernel_rfl) (dT c12) (by kernel_rfl) ?_)
                refine R.go 1 ?_
                refine (Bool.eq_false_or_eq_true (tat n_2 xs_3 (frR n_2 xs_3 a_4) (frW n_2 xs_3 a_4) a_4)).elim (fun c13 => ?_) (fun c13 => ?_)
                · refine R.skp (!(tat n_2 xs_3 (frR n_2 xs_3 a_4) (frW n_2 xs_3 a_4) a_4)) true (by kernel_rfl) (bnF c13) (by kernel_rfl) ?_
                  refine R.skp (!(tat n_2 xs_3 (frR n_2 xs_3 a_4) (frW n_2 xs_3 a_4) a_4)) true (by kernel_rfl) (bnF c13) (by kernel_rfl) ?_
                  refine R.skp (!(tat n_2 xs_3 (frR n_2 xs_3 a_4) (frW n_2 xs_3 a_4) a_4)) true (by kernel_rfl) (bnF c13) (by kernel_rfl) ?_
                  refine R.pick (!(tat n_2 xs_3 (frR n_2 xs_3 a_4) (frW n_2 xs_3 a_4) a_4)) false (by kernel_rfl) (bnF c13) (by kernel_rfl) ?_
                  exact R.go 2 (R.retE (.bool false) (by kernel_rfl) (by kernel_rfl) (by first | (first | rfl | exact absurd (hA.symm.trans (by assumption : _ = false)) (by decide) | exact absurd (hB.symm.trans (by assumption : _ = false)) (by decide) | exact absurd (hC.symm.trans (by assumption : _ = false)) (by decide) | exact absurd (hD2.symm.trans (by assumption : _ = true)) (by decide) | exact absurd hD1 (by assumption) | exact congrArg AV.bool (decide_eq_true hD3) | exact congrArg AV.bool (decide_eq_true (rv_3 hFa (by assumption))) | exact congrArg AV.bool (law_E (by assumption) (by assumption) (by assumption))) | (exfalso; omega)))
                · refine R.want (!(tat n_2 xs_3 (frR n_2 xs_3 a_4) (frW n_2 xs_3 a_4) a_4)) true (by kernel_rfl) (bnT c13) ?_
                  refine R.go 1 (R.want (!(tat n_2 xs_3 (frR n_2 xs_3 a_4) (frW n_2 xs_3 a_4) a_4)) true (by kernel_rfl) (bnT c13) ?_)
                  refine R.go 1 (R.want (!(tat n_2 xs_3 (frR n_2 xs_3 a_4) (frW n_2 xs_3 a_4) a_4)) true (by kernel_rfl) (bnT c13) ?_)
                  refine R.call true (bit9_c (rwV n_2 xs_3 a_4) (frW n_2 xs_3 a_4) (by omega) (by omega)) (by kernel_rfl) rfl (by kernel_rfl) ?_
                  refine R.pick (!(tat n_2 xs_3 (frR n_2 xs_3 a_4) (frW n_2 xs_3 a_4) a_4)) true (by kernel_rfl) (bnT c13) (by kernel_rfl) ?_
                  exact R.go 2 (R.retE (.bool (decide (band (shr64 (rwV n_2 xs_3 a_4) (frW n_2 xs_3 a_4)) 1 = 1))) (by kernel_rfl) (by kernel_rfl) (by first | (first | rfl | exact absurd (hA.symm.trans (by assumption : _ = false)) (by decide) | exact absurd (hB.symm.trans (by assumption : _ = false)) (by decide) | exact absurd (hC.symm.trans (by assumption : _ = false)) (by decide) | exact absurd (hD2.symm.trans (by assumption : _ = true)) (by decide) | exact absurd hD1 (by assumption) | exact congrArg AV.bool (decide_eq_true hD3) | exact congrArg AV.bool (decide_eq_true (rv_3 hFa (by assumption))) | exact congrArg AV.bool (law_E (by assumption) (by assumption) (by assumption))) | (exfalso; omega)))
              · refine R.skp (decide ((tatC n_2 xs_3 (frR n_2 xs_3 a_4) (frW n_2 xs_3 a_4) a_4) = 0)) true (by kernel_rfl) (dF c12) (by kernel_rfl) ?_
                refine R.skp (decide ((tatC n_2 xs_3 (frR n_2 xs_3 a_4) (frW n_2 xs_3 a_4) a_4) = 0)) true (by kernel_rfl) (dF c12) (by kernel_rfl) ?_
                refine R.pick (decide ((tatC n_2 xs_3 (frR n_2 xs_3 a_4) (frW n_2 xs_3 a_4) a_4) = 0)) false (by kernel_rfl) (dF c12) (by kernel_rfl) ?_
                exact R.go 7 (R.retE (.bool false) (by kernel_rfl) (by kernel_rfl) (by first | (first | rfl | exact absurd (hA.symm.trans (by assumption : _ = false)) (by decide) | exact absurd (hB.symm.trans (by assumption : _ = false)) (by decide) | exact absurd (hC.symm.trans (by assumption : _ = false)) (by decide) | exact absurd (hD2.symm.trans (by assumption : _ = true)) (by decide) | exact absurd hD1 (by assumption) | exact congrArg AV.bool (decide_eq_true hD3) | exact congrArg AV.bool (decide_eq_true (rv_3 hFa (by assumption))) | exact congrArg AV.bool (law_E (by assumption) (by assumption) (by assumption))) | (exfalso; omega)))
          · refine R.skp (!((vdB n_2 xs_3 a_4) == (decide ((rwV n_2 xs_3 a_4) = 0)))) false (by kernel_rfl) (bnT c10) (by kernel_rfl) ?_
            refine R.skp (!((vdB n_2 xs_3 a_4) == (decide ((rwV n_2 xs_3 a_4) = 0)))) false (by kernel_rfl) (bnT c10) (by kernel_rfl) ?_
            refine R.skp (!((vdB n_2 xs_3 a_4) == (decide ((rwV n_2 xs_3 a_4) = 0)))) false (by kernel_rfl) (bnT c10) (by kernel_rfl) ?_
            refine R.pick (!((vdB n_2 xs_3 a_4) == (decide ((rwV n_2 xs_3 a_4) = 0)))) true (by kernel_rfl) (bnT c10) (by kernel_rfl) ?_
            exact R.go 6 (R.retE (.bool false) (by kernel_rfl) (by kernel_rfl) (by first | (first | rfl | exact absurd (hA.symm.trans (by assumption : _ = false)) (by decide) | exact absurd (hB.symm.trans (by assumption : _ = false)) (by decide) | exact absurd (hC.symm.trans (by assumption : _ = false)) (by decide) | exact absurd (hD2.symm.trans (by assumption : _ = true)) (by decide) | exact absurd hD1 (by assumption) | exact congrArg AV.bool (decide_eq_true hD3) | exact congrArg AV.bool (decide_eq_true (rv_3 hFa (by assumption))) | exact congrArg AV.bool (law_E (by assumption) (by assumption) (by assumption))) | (exfalso; omega)))
        · refine R.skp (!((vdB n_2 xs_3 a_4) == (decide ((frC n_2 xs_3 a_4) = 4)))) false (by kernel_rfl) (bnT c9) (by kernel_rfl) ?_
          refine R.skp (!((vdB n_2 xs_3 a_4) == (decide ((frC n_2 xs_3 a_4) = 4)))) false (by kernel_rfl) (bnT c9) (by kernel_rfl) ?_
          refine R.skp (!((vdB n_2 xs_3 a_4) == (decide ((frC n_2 xs_3 a_4) = 4)))) false (by kernel_rfl) (bnT c9) (by kernel_rfl) ?_
          refine R.skp (!((vdB n_2 xs_3 a_4) == (decide ((frC n_2 xs_3 a_4) = 4)))) false (by kernel_rfl) (bnT c9) (by kernel_rfl) ?_
          refine R.pick (!((vdB n_2 xs_3 a_4) == (decide ((frC n_2 xs_3 a_4) = 4)))) true (by kernel_rfl) (bnT c9) (by kernel_rfl) ?_
          exact R.go 11 (R.retE (.bool false) (by kernel_rfl) (by kernel_rfl) (by first | (first | rfl | exact absurd (hA.symm.trans (by assumption : _ = false)) (by decide) | exact absurd (hB.symm.trans (by assumption : _ = false)) (by decide) | exact absurd (hC.symm.trans (by assumption : _ = false)) (by decide) | exact absurd (hD2.symm.trans (by assumption : _ = true)) (by decide) | exact absurd hD1 (by assumption) | exact congrArg AV.bool (decide_eq_true hD3) | exact congrArg AV.bool (decide_eq_true (rv_3 hFa (by assumption))) | exact congrArg AV.bool (law_E (by assumption) (by assumption) (by assumption))) | (exfalso; omega)))
      · refine R.skp (!decide ((((scode n_2 xs_3 [a_4]) + (scode n_2 xs_3 [a_4])) + (scode n_2 xs_3 [a_4])) = 0)) false (by kernel_rfl) (nT c8) (by kernel_rfl) ?_
        refine R.skp (!decide ((((scode n_2 xs_3 [a_4]) + (scode n_2 xs_3 [a_4])) + (scode n_2 xs_3 [a_4])) = 0)) false (by kernel_rfl) (nT c8) (by kernel_rfl) ?_
        refine R.skp (!decide ((((scode n_2 xs_3 [a_4]) + (scode n_2 xs_3 [a_4])) + (scode n_2 xs_3 [a_4])) = 0)) false (by kernel_rfl) (nT c8) (by kernel_rfl) ?_
        refine R.skp (!decide ((((scode n_2 xs_3 [a_4]) + (scode n_2 xs_3 [a_4])) + (scode n_2 xs_3 [a_4])) = 0)) false (by kernel_rfl) (nT c8) (by kernel_rfl) ?_
        refine R.pick (!decide ((((scode n_2 xs_3 [a_4]) + (scode n_2 xs_3 [a_4])) + (scode n_2 xs_3 [a_4])) = 0)) true (by kernel_rfl) (nT c8) (by kernel_rfl) ?_
        exact R.go 17 (R.retE (.bool false) (by kernel_rfl) (by kernel_rfl) (by first | (first | rfl | exact absurd (hA.symm.trans (by assumption : _ = false)) (by decide) | exact absurd (hB.symm.trans (by assumption : _ = false)) (by decide) | exact absurd (hC.symm.trans (by assumption : _ = false)) (by decide) | exact absurd (hD2.symm.trans (by assumption : _ = true)) (by decide) | exact absurd hD1 (by assumption) | exact congrArg AV.bool (decide_eq_true hD3) | exact congrArg AV.bool (decide_eq_true (rv_3 hFa (by assumption))) | exact congrArg AV.bool (law_E (by assumption) (by assumption) (by assumption))) | (exfalso; omega)))
    · refine R.want (!decide ((frC n_2 xs_3 a_4) = 0)) true (by kernel_rfl) (nT c7) ?_
      refine R.go 1 (R.want (!decide ((frC n_2 xs_3 a_4) = 0)) true (by kernel_rfl) (nT c7) ?_)
      refine R.go 1 (R.pick (!decide ((frC n_2 xs_3 a_4) = 0)) true (by kernel_rfl) (nT c7) (by kernel_rfl) ?_)
      refine R.go 1 (R.condN ((frC n_2 xs_3 a_4) = 4) (by kernel_rfl) (fun c14 => ?_) (fun c14 => ?_))
      · exact R.go 4 (R.retE (.bool true) (by kernel_rfl) (by kernel_rfl) (by rfl))
      · have hsc : scode n_2 xs_3 [a_4] = 0 := fr_sc (by omega)
        have hA := law_A hsc
        have hB := law_B hsc
        have hC := law_C hsc
        refine R.go 5 (R.call true (VO_impl n_2 xs_3 a_4 (by first | omega | (simp <;> omega)) (by first | omega | (simp <;> omega))) (by kernel_rfl) rfl (by kernel_rfl) ?_)
        refine R.go 10 (R.call true (RW_impl n_2 xs_3 a_4 (by first | omega | (simp <;> omega)) (by first | omega | (simp <;> omega))) (by kernel_rfl) rfl (by kernel_rfl) ?_)
        refine R.go 10 (R.call true (impLocalNil_c n_2 xs_3 a_4 (by first | omega | (simp <;> omega)) (by first | omega | (simp <;> omega))) (by kernel_rfl) rfl (by kernel_rfl) ?_)
        refine R.go 11 (R.ar ((scode n_2 xs_3 [a_4]) + (scode n_2 xs_3 [a_4])) (by kernel_rfl) (by omega) (by omega) (by kernel_rfl) ?_)
        refine R.go 1 (R.ar (((scode n_2 xs_3 [a_4]) + (scode n_2 xs_3 [a_4])) + (scode n_2 xs_3 [a_4])) (by kernel_rfl) (by omega) (by omega) (by kernel_rfl) ?_)
        refine R.go 2 ?_
        by_cases c15 : (((scode n_2 xs_3 [a_4]) + (scode n_2 xs_3 [a_4])) + (scode n_2 xs_3 [a_4])) = 0
        · refine R.want (!decide ((((scode n_2 xs_3 [a_4]) + (scode n_2 xs_3 [a_4])) + (scode n_2 xs_3 [a_4])) = 0)) false (by kernel_rfl) (nF c15) ?_
          refine R.go 1 (R.want (!decide ((((scode n_2 xs_3 [a_4]) + (scode n_2 xs_3 [a_4])) + (scode n_2 xs_3 [a_4])) = 0)) false (by kernel_rfl) (nF c15) ?_)
          refine R.go 1 (R.want (!decide ((((scode n_2 xs_3 [a_4]) + (scode n_2 xs_3 [a_4])) + (scode n_2 xs_3 [a_4])) = 0)) false (by kernel_rfl) (nF c15) ?_)
          refine R.go 1 (R.want (!decide ((((scode n_2 xs_3 [a_4]) + (scode n_2 xs_3 [a_4])) + (scode n_2 xs_3 [a_4])) = 0)) false (by kernel_rfl) (nF c15) ?_)
          refine R.go 1 (R.pick (!decide ((((scode n_2 xs_3 [a_4]) + (scode n_2 xs_3 [a_4])) + (scode n_2 xs_3 [a_4])) = 0)) false (by kernel_rfl) (nF c15) (by kernel_rfl) ?_)
          refine R.go 1 ?_
          refine (Bool.eq_false_or_eq_true (((vdB n_2 xs_3 a_4) == (decide ((frC n_2 xs_3 a_4) = 4))))).elim (fun c16 => ?_) (fun c16 => ?_)
          · refine R.want (!((vdB n_2 xs_3 a_4) == (decide ((frC n_2 xs_3 a_4) = 4)))) false (by kernel_rfl) (bnF c16) ?_
            refine R.go 1 (R.want (!((vdB n_2 xs_3 a_4) == (decide ((frC n_2 xs_3 a_4) = 4)))) false (by kernel_rfl) (bnF c16) ?_)
            refine R.go 1 (R.want (!((vdB n_2 xs_3 a_4) == (decide ((frC n_2 xs_3 a_4) = 4)))) false (by kernel_rfl) (bnF c16) ?_)
            refine R.go 1 (R.want (!((vdB n_2 xs_3 a_4) == (decide ((frC n_2 xs_3 a_4) = 4)))) false (by kernel_rfl) (bnF c16) ?_)
            refine R.go 1 (R.pick (!((vdB n_2 xs_3 a_4) == (decide ((frC n_2 xs_3 a_4) = 4)))) false (by kernel_rfl) (bnF c16) (by kernel_rfl) ?_)
            refine R.go 1 ?_
            refine (Bool.eq_false_or_eq_true (((vdB n_2 xs_3 a_4) == (decide ((rwV n_2 xs_3 a_4) = 0))))).elim (fun c17 => ?_) (fun c17 => ?_)
            · refine R.want (!((vdB n_2 xs_3 a_4) == (decide ((rwV n_2 xs_3 a_4) = 0)))) false (by kernel_rfl) (bnF c17) ?_
              refine R.go 1 (R.want (!((vdB n_2 xs_3 a_4) == (decide ((rwV n_2 xs_3 a_4) = 0)))) false (by kernel_rfl) (bnF c17) ?_)
              refine R.go 1 (R.want (!((vdB n_2 xs_3 a_4) == (decide ((rwV n_2 xs_3 a_4) = 0)))) false (by kernel_rfl) (bnF c17) ?_)
              refine R.go 1 (R.pick (!((vdB n_2 xs_3 a_4) == (decide ((rwV n_2 xs_3 a_4) = 0)))) false (by kernel_rfl) (bnF c17) (by kernel_rfl) ?_)
              refine R.go 1 (R.condM (((csB false n_2 xs_3 [] a_4) == (vdB n_2 xs_3 a_4))) (by kernel_rfl) (fun c18 => ?_) (fun c18 => ?_))
              · exact R.go 4 (R.retE (.bool false) (by kernel_rfl) (by kernel_rfl) (by first | (first | rfl | exact absurd (hA.symm.trans (by assumption : _ = false)) (by decide) | exact absurd (hB.symm.trans (by assumption : _ = false)) (by decide) | exact absurd (hC.symm.trans (by assumption : _ = false)) (by decide) | exact absurd (hD2.symm.trans (by assumption : _ = true)) (by decide) | exact absurd hD1 (by assumption) | exact congrArg AV.bool (decide_eq_true hD3) | exact congrArg AV.bool (decide_eq_true (rv_3 hFa (by assumption))) | exact congrArg AV.bool (law_E (by assumption) (by assumption) (by assumption))) | (exfalso; omega)))
              · refine R.go 7 (R.els (decide ((frC n_2 xs_3 a_4) = 0)) (by kernel_rfl) (dF c7) ?_)
                refine R.go 6 (R.lit (s := 2) (n := 2) (cs := rows eN [(5, 0), (0, 0)]) (by kernel_rfl) (by kernel_rfl) ?_)
                refine R.call true (RV_impl a_4 (by first | omega | (simp <;> omega))).frz (by kernel_rfl) rfl (by kernel_rfl) ?_
                have hrl := rv_len a_4
                have hF4 : frC n_2 xs_3 a_4 = 4 := by omega
                have hv4 : vdB n_2 xs_3 a_4 = true := ((beq_iff_eq).1 hA).trans (decide_eq_true hF4)
                have hFa : isF a_4 = true := (sc1 hsc).2.1
                refine R.go 12 (R.condN ((rvC a_4) = 0) (by kernel_rfl) (fun c19 => ?_) (fun c19 => ?_))
                · exact R.go 6 (R.retE (.bool (decide ((rvC a_4) = 3))) (by kernel_rfl) (by kernel_rfl) (by first | (first | rfl | exact absurd (hA.symm.trans (by assumption : _ = false)) (by decide) | exact absurd (hB.symm.trans (by assumption : _ = false)) (by decide) | exact absurd (hC.symm.trans (by assumption : _ = false)) (by decide) | exact absurd (hD2.symm.trans (by assumption : _ = true)) (by decide) | exact absurd hD1 (by assumption) | exact congrArg AV.bool (decide_eq_true hD3) | exact congrArg AV.bool (decide_eq_true (rv_3 hFa (by assumption))) | exact congrArg AV.bool (law_E (by assumption) (by assumption) (by assumption))) | (exfalso; omega)))
                · refine R.go 5 (R.call true (VO_impl n_2 xs_3 (rvR a_4) (by first | omega | (simp <;> omega)) (by first | omega | (simp <;> omega))) (by kernel_rfl) rfl (by kernel_rfl) ?_)
                  refine R.go 11 ?_
                  by_cases c20 : (scode n_2 xs_3 [(rvR a_4)]) = 0
                  · refine R.want (!decide ((scode n_2 xs_3 [(rvR a_4)]) = 0)) false (by kernel_rfl) (nF c20) ?_
                    refine R.go 1 (R.pick (!decide ((scode n_2 xs_3 [(rvR a_4)]) = 0)) false (by kernel_rfl) (nF c20) (by kernel_rfl) ?_)
                    exact R.go 2 (R.retE (.bool (vdB n_2 xs_3 (rvR a_4))) (by kernel_rfl) (by kernel_rfl) (by first | (first | rfl | exact absurd (hA.symm.trans (by assumption : _ = false)) (by decide) | exact absurd (hB.symm.trans (by assumption : _ = false)) (by decide) | exact absurd (hC.symm.trans (by assumption : _ = false)) (by decide) | exact absurd (hD2.symm.trans (by assumption : _ = true)) (by decide) | exact absurd hD1 (by assumption) | exact congrArg AV.bool (decide_eq_true hD3) | exact congrArg AV.bool (decide_eq_true (rv_3 hFa (by assumption))) | exact congrArg AV.bool (law_E (by assumption) (by assumption) (by assumption))) | (exfalso; omega)))
                  · refine R.skp (!decide ((scode n_2 xs_3 [(rvR a_4)]) = 0)) false (by kernel_rfl) (nT c20) (by kernel_rfl) ?_
                    refine R.pick (!decide ((scode n_2 xs_3 [(rvR a_4)]) = 0)) true (by kernel_rfl) (nT c20) (by kernel_rfl) ?_
                    exact R.go 2 (R.retE (.bool true) (by kernel_rfl) (by kernel_rfl) (by rfl))
            · refine R.skp (!((vdB n_2 xs_3 a_4) == (decide ((rwV n_2 xs_3 a_4) = 0)))) false (by kernel_rfl) (bnT c17) (by kernel_rfl) ?_
              refine R.skp (!((vdB n_2 xs_3 a_4) == (decide ((rwV n_2 xs_3 a_4) = 0)))) false (by kernel_rfl) (bnT c17) (by kernel_rfl) ?_
              refine R.skp (!((vdB n_2 xs_3 a_4) == (decide ((rwV n_2 xs_3 a_4) = 0)))) false (by kernel_rfl) (bnT c17) (by kernel_rfl) ?_
              refine R.pick (!((vdB n_2 xs_3 a_4) == (decide ((rwV n_2 xs_3 a_4) = 0)))) true (by kernel_rfl) (bnT c17) (by kernel_rfl) ?_
              exact R.go 6 (R.retE (.bool false) (by kernel_rfl) (by kernel_rfl) (by first | (first | rfl | exact absurd (hA.symm.trans (by assumption : _ = false)) (by decide) | exact absurd (hB.symm.trans (by assumption : _ = false)) (by decide) | exact absurd (hC.symm.trans (by assumption : _ = false)) (by decide) | exact absurd (hD2.symm.trans (by assumption : _ = true)) (by decide) | exact absurd hD1 (by assumption) | exact congrArg AV.bool (decide_eq_true hD3) | exact congrArg AV.bool (decide_eq_true (rv_3 hFa (by assumption))) | exact congrArg AV.bool (law_E (by assumption) (by assumption) (by assumption))) | (exfalso; omega)))
          · refine R.skp (!((vdB n_2 xs_3 a_4) == (decide ((frC n_2 xs_3 a_4) = 4)))) false (by kernel_rfl) (bnT c16) (by kernel_rfl) ?_
            refine R.skp (!((vdB n_2 xs_3 a_4) == (decide ((frC n_2 xs_3 a_4) = 4)))) false (by kernel_rfl) (bnT c16) (by kernel_rfl) ?_
            refine R.skp (!((vdB n_2 xs_3 a_4) == (decide ((frC n_2 xs_3 a_4) = 4)))) false (by kernel_rfl) (bnT c16) (by kernel_rfl) ?_
            refine R.skp (!((vdB n_2 xs_3 a_4) == (decide ((frC n_2 xs_3 a_4) = 4)))) false (by kernel_rfl) (bnT c16) (by kernel_rfl) ?_
            refine R.pick (!((vdB n_2 xs_3 a_4) == (decide ((frC n_2 xs_3 a_4) = 4)))) true (by kernel_rfl) (bnT c16) (by kernel_rfl) ?_
            exact R.go 11 (R.retE (.bool false) (by kernel_rfl) (by kernel_rfl) (by first | (first | rfl | exact absurd (hA.symm.trans (by assumption : _ = false)) (by decide) | exact absurd (hB.symm.trans (by assumption : _ = false)) (by decide) | exact absurd (hC.symm.trans (by assumption : _ = false)) (by decide) | exact absurd (hD2.symm.trans (by assumption : _ = true)) (by decide) | exact absurd hD1 (by assumption) | exact congrArg AV.bool (decide_eq_true hD3) | exact congrArg AV.bool (decide_eq_true (rv_3 hFa (by assumption))) | exact congrArg AV.bool (law_E (by assumption) (by assumption) (by assumption))) | (exfalso; omega)))
        · refine R.skp (!decide ((((scode n_2 xs_3 [a_4]) + (scode n_2 xs_3 [a_4])) + (scode n_2 xs_3 [a_4])) = 0)) false (by kernel_rfl) (nT c15) (by kernel_rfl) ?_
          refine R.skp (!decide ((((scode n_2 xs_3 [a_4]) + (scode n_2 xs_3 [a_4])) + (scode n_2 xs_3 [a_4])) = 0)) false (by kernel_rfl) (nT c15) (by kernel_rfl) ?_
          refine R.skp (!decide ((((scode n_2 xs_3 [a_4]) + (scode n_2 xs_3 [a_4])) + (scode n_2 xs_3 [a_4])) = 0)) false (by kernel_rfl) (nT c15) (by kernel_rfl) ?_
          refine R.skp (!decide ((((scode n_2 xs_3 [a_4]) + (scode n_2 xs_3 [a_4])) + (scode n_2 xs_3 [a_4])) = 0)) false (by kernel_rfl) (nT c15) (by kernel_rfl) ?_
          refine R.pick (!decide ((((scode n_2 xs_3 [a_4]) + (scode n_2 xs_3 [a_4])) + (scode n_2 xs_3 [a_4])) = 0)) true (by kernel_rfl) (nT c15) (by kernel_rfl) ?_
          exact R.go 17 (R.retE (.bool false) (by kernel_rfl) (by kernel_rfl) (by first | (first | rfl | exact absurd (hA.symm.trans (by assumption : _ = false)) (by decide) | exact absurd (hB.symm.trans (by assumption : _ = false)) (by decide) | exact absurd (hC.symm.trans (by assumption : _ = false)) (by decide) | exact absurd (hD2.symm.trans (by assumption : _ = true)) (by decide) | exact absurd hD1 (by assumption) | exact congrArg AV.bool (decide_eq_true hD3) | exact congrArg AV.bool (decide_eq_true (rv_3 hFa (by assumption))) | exact congrArg AV.bool (law_E (by assumption) (by assumption) (by assumption))) | (exfalso; omega)))

end Go.Proofs.YtejaikeemahobaaGreat
