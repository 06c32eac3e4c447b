/- Texts of the proof: SH7. -/
import Derived.Test.YtogehjciaamcfaaPartM

/-! The law FnShapes. -/
namespace Go.Proofs.Ytogehjciaamcfaa
open Go.RowKit Go.Abs

section
variable {n m : Int} {xs ys : List Int}
theorem law_s (h : stC n xs m ys = 0) : okPo n xs = true ∧ okPo m ys = true ∧ n + m ≤ 8 ∧ stN n xs m ys = n + m ∧ stR n xs m ys = stL n xs m ys ∧ okPo (stN n xs m ys) (stR n xs m ys) = true ∧ (0 ≤ n ∧ n ≤ 8 ∧ 0 ≤ m ∧ m ≤ 8) := by
  obtain ⟨hP, hQ, h8⟩ := stc_ok h
  have e1 : stN n xs m ys = n + m := if_pos h
  have e2 : stR n xs m ys = stL n xs m ys := if_pos h
  obtain ⟨a1, a2, _⟩ := po_rel hP
  obtain ⟨b1, b2, _⟩ := po_rel hQ
  exact ⟨hP, hQ, h8, e1, e2, by rw [e1, e2]; exact st_po hP hQ h8, a1, a2, b1, b2⟩
theorem dep_b (hP : okPo n xs = true) {i : Nat} (hi : i < n.toNat) : (depI n xs).getD i 0 = hgt n xs i ∧ 1 ≤ (depI n xs).getD i 0 ∧ (depI n xs).getD i 0 ≤ 9 := by
  obtain ⟨a1, a2, _⟩ := po_rel hP
  have h := dep_hgt (okPo_fr hP) hi
  have h1 := hp_1 hP hi
  have h2 : hgt n xs i ≤ ((n.toNat : Nat) : Int) + 1 := DD_le _ _ _ _
  omega
theorem law_d2 (h : stC n xs m ys = 0) {i : Nat} (hi : i < (depI m ys).length) : (depI (stN n xs m ys) (stR n xs m ys)).getD ((depI n xs).length + i) 0 = (depI m ys).getD i 0 := by
  obtain ⟨hP, hQ, h8, e1, e2, hS, _⟩ := law_s h
  rw [dep_len] at hi
  obtain ⟨b1, _⟩ := po_rel hQ
  obtain ⟨a1, _⟩ := po_rel hP
  have h1 := (dep_b hQ hi).1
  rw [e1, e2] at hS ⊢
  rw [dep_len, (dep_b hS (i := n.toNat + i) (by omega)).1, h1]
  exact hs_2 hP hQ h8 _ i hi rfl
theorem law_d1 (h : stC n xs m ys = 0) {M : Int} (hM0 : 0 ≤ M) (hM : ∀ j, j < (depI m ys).length → (depI m ys).getD j 0 ≤ M) (hA : M = 0 ∨ ∃ j, j < (depI m ys).length ∧ (depI m ys).getD j 0 = M) {i : Nat} (hi : i < (depI n xs).length) : (depI (stN n xs m ys) (stR n xs m ys)).getD i 0 = (depI n xs).getD i 0 + M := by
  obtain ⟨hP, hQ, h8, e1, e2, hS, _⟩ := law_s h
  rw [dep_len] at hi hM hA
  obtain ⟨b1, _⟩ := po_rel hQ
  obtain ⟨a1, _⟩ := po_rel hP
  have h1 := (dep_b hP hi).1
  rw [e1, e2] at hS ⊢
  rw [(dep_b hS (i := i) (by omega)).1, h1]
  exact hs_1 hP hQ h8 (fun j hj => by rw [← (dep_b hQ hj).1]; exact hM j hj) (hA.elim .inl fun ⟨j, hj, e⟩ => .inr ⟨j, hj, by rw [← (dep_b hQ hj).1]; exact e⟩) hM0 _ i hi rfl
theorem law_u (h : stC n xs m ys = 0) : smC n m = 0 ∧ okPo (smN n m) (smR n xs m ys) = true := by
  obtain ⟨hP, hQ, h8, _⟩ := law_s h
  rw [smC, smN, smR, if_pos h8, if_pos h8, if_pos h8]
  exact ⟨rfl, sm_po hP hQ h8⟩
theorem law_w {w1 w2 w3 : Int} (h : stC n xs m ys = 0) (h1 : wdS n xs xs.length 0 w1) (h2 : wdS m ys ys.length 0 w2) (h3 : wdS (smN n m) (smR n xs m ys) (smR n xs m ys).length 0 w3) : w3 = if w2 > w1 then w2 else w1 := by
  obtain ⟨hP, hQ, h8, _⟩ := law_s h
  rw [smN, smR, if_pos h8, if_pos h8] at h3
  exact wd_sum hP hQ h8 h1 h2 h3
theorem law_p (h : stC n xs m ys = 0) : InM (stN n xs m ys).toNat ((shl64 1 n) - 1) ∧ outR (stN n xs m ys) ((shl64 1 n) - 1) = false ∧ (((mem ((shl64 1 n) - 1)).length : Int) = n ∧ prt (stR n xs m ys) (mem ((shl64 1 n) - 1)) = xs) := by
  obtain ⟨hP, hQ, h8, e1, e2, hS, a1, a2, b1, b2⟩ := law_s h
  have hf := inM_full (n := n.toNat) (by omega)
  rw [show ((n.toNat : Nat) : Int) = n by omega] at hf
  have hf8 := inM_mono (n' := (n + m).toNat) (by omega) hf
  rw [e1, e2]
  exact ⟨hf8, outR_no (by omega) (by omega) ((inM_lt (by omega) (by omega)).1 hf8), part_st hP hQ h8⟩
end
theorem law_l {N k k2 : Int} {S r s : List Int} (hS : okPo N S = true) (h1 : k = N ∧ LST N S [] S r ∧ r.length ≤ 1000) (h2 : k2 = k ∧ LST k r [] r s ∧ s.length ≤ 1000) : k2 = k ∧ s = r := by
  obtain ⟨rfl, h1, _⟩ := h1
  exact ⟨h2.1, (ls_twice hS h1 h2.2.1).1⟩
theorem law_lp {N k : Int} {S r : List Int} (hS : okPo N S = true) (h6 : ¬ N > 6) (h1 : k = N ∧ LST N S [] S r ∧ r.length ≤ 1000) : okPo k r = true ∧ ¬ k > 6 := by
  obtain ⟨rfl, h1, _⟩ := h1
  exact ⟨ls_po hS h1, h6⟩
theorem po_zero : okPo 0 [] = true := by decide +kernel
theorem mx_2 {L : List Int} {i : Nat} {M : Int} (h : ∀ j, j < i → L.getD j 0 ≤ M) : ∀ j, j < i + 1 → L.getD j 0 ≤ if L.getD i 0 > M then L.getD i 0 else M := fun j hj => by
  by_cases e : j = i
  · subst e; split <;> omega
  · have := h j (by omega); split <;> omega
theorem mx_3 {L : List Int} {i : Nat} {M : Int} (h : M = 0 ∨ ∃ j, j < i ∧ L.getD j 0 = M) : (if L.getD i 0 > M then L.getD i 0 else M) = 0 ∨ ∃ j, j < i + 1 ∧ L.getD j 0 = if L.getD i 0 > M then L.getD i 0 else M := by
  split
  · exact .inr ⟨i, by omega, rfl⟩
  · rcases h with h | ⟨j, hj, e⟩
    · exact .inl h
    · exact .inr ⟨j, by omega, e⟩

theorem big_c (c : List Int) : CallA Try.prog 5 [LB c] (.bool (decide ((c.length : Int) > 4096))) := by
  refine CallA.of Try.func5 rfl (by kernel_rfl) ?_
  exact R.go 11 (R.retE (.bool (decide ((c.length : Int) > 4096))) (by kernel_rfl) (by kernel_rfl) (by rfl))

set_option maxHeartbeats 4000000 in
theorem lawSh_c (c : List Int) (hcb : ∀ q : Nat, q < c.length → 0 ≤ c.getD q 0 ∧ c.getD q 0 ≤ 255) : CallA Try.prog 4 [LB c] (.bool true) := by
  refine CallA.of Try.func4 rfl (by kernel_rfl) ?_
  refine R.go 8 (R.call true (big_c c) (by kernel_rfl) rfl (by kernel_rfl) ?_)
  refine R.go 1 (R.cond ((c.length : Int) > 4096) (by kernel_rfl) (fun c1 => ?_) (fun c1 => ?_))
  · exact R.go 4 (R.retE (.bool true) (by kernel_rfl) (by kernel_rfl) (by rfl))
  · have hc : BY c := ⟨by omega, hcb⟩
    refine R.go 4 (R.callX (drTwo_c c hc) (by kernel_rfl) (by kernel_rfl) (by kernel_rfl) ?_)
    rintro _ _ ⟨n_2, xs_3, m_4, ys_5, f6, f7, rfl, rfl⟩
    have hsl1 := st_len (n := n_2) (xs := xs_3) (m := m_4) (ys := ys_5)
    refine R.go 12 (R.call true (ST_impl n_2 xs_3 m_4 ys_5 (by first | omega | (simp <;> omega)) (by first | omega | (simp <;> omega))).frz (by kernel_rfl) rfl (by kernel_rfl) ?_)
    refine R.go 11 (R.call true (ST_spec n_2 xs_3 m_4 ys_5 (by first | omega | (simp <;> omega)) (by first | omega | (simp <;> omega))).frz (by kernel_rfl) rfl (by kernel_rfl) ?_)
    refine R.go 14 (R.want (!decide ((stC n_2 xs_3 m_4 ys_5) = (stC n_2 xs_3 m_4 ys_5))) false (by kernel_rfl) (nF rfl) ?_)
    refine R.go 1 (R.want (!decide ((stC n_2 xs_3 m_4 ys_5) = (stC n_2 xs_3 m_4 ys_5))) false (by kernel_rfl) (nF rfl) ?_)
    refine R.go 1 (R.want (!decide ((stC n_2 xs_3 m_4 ys_5) = (stC n_2 xs_3 m_4 ys_5))) false (by kernel_rfl) (nF rfl) ?_)
    refine R.call true (sameP_c (stN n_2 xs_3 m_4 ys_5) (stR n_2 xs_3 m_4 ys_5) (stN n_2 xs_3 m_4 ys_5) (stR n_2 xs_3 m_4 ys_5) (by first | omega | (simp <;> omega)) (by first | omega | (simp <;> omega))) (by kernel_rfl) rfl (by kernel_rfl) ?_
    refine R.want (!decide ((stC n_2 xs_3 m_4 ys_5) = (stC n_2 xs_3 m_4 ys_5))) false (by kernel_rfl) (nF rfl) ?_
    refine R.go 1 (R.pick (!decide ((stC n_2 xs_3 m_4 ys_5) = (stC n_2 xs_3 m_4 ys_5))) false (by kernel_rfl) (nF rfl) (by kernel_rfl) ?_)
    refine R.go 1 (R.condN ((stN n_2 xs_3 m_4 ys_5) = (stN n_2 xs_3 m_4 ys_5) ∧ (stR n_2 xs_3 m_4 ys_5) = (stR n_2 xs_3 m_4 ys_5)) (by kernel_rfl) (fun c8 => ?_) (fun c8 => ?_))
    · exact R.go 4 (R.retE (.bool false) (by kernel_rfl) (by kernel_rfl) (by first | (first | rfl | exact absurd (And.intro rfl rfl) (by assumption) | exact absurd hp3 (by assumption) | exact absurd hw (by assumption) | exact congrArg AV.bool (decide_eq_true (law_l hS (by assumption) (by assumption))) | exact congrArg AV.bool (decide_eq_true hp3) | (exfalso; omega)) | (exfalso; omega)))
    · refine R.go 7 (R.condN ((stC n_2 xs_3 m_4 ys_5) = 0) (by kernel_rfl) (fun c9 => ?_) (fun c9 => ?_))
      · exact R.go 4 (R.retE (.bool true) (by kernel_rfl) (by kernel_rfl) (by rfl))
      · have hz : stC n_2 xs_3 m_4 ys_5 = 0 := by assumption
        have hs0 := law_s hz
        have hP := hs0.1
        have hQ := hs0.2.1
        have h8 := hs0.2.2.1
        have he1 := hs0.2.2.2.1
        have hS := hs0.2.2.2.2.2.1
        have hb0 := hs0.2.2.2.2.2.2
        have hl1 := dep_len n_2 xs_3
        have hl2 := dep_len m_4 ys_5
        have hl3 := dep_len (stN n_2 xs_3 m_4 ys_5) (stR n_2 xs_3 m_4 ys_5)
        have hu := law_u hz
        have hu1 := hu.1
        have hu2 := hu.2
        have hp := law_p hz
        have hp1 := hp.1
        have hp2 := hp.2.1
        have hp3 := hp.2.2
        have hpl : (prt (stR n_2 xs_3 m_4 ys_5) (mem ((shl64 1 n_2) - 1))).length ≤ 1000 := by rw [hp3.2]; omega
        refine R.go 4 (R.call true (DE_impl n_2 xs_3 (by assumption)).frz (by kernel_rfl) rfl (by kernel_rfl) ?_)
        refine R.go 9 (R.call true (DE_impl m_4 ys_5 (by assumption)).frz (by kernel_rfl) rfl (by kernel_rfl) ?_)
        refine R.go 9 (R.call true (DE_impl (stN n_2 xs_3 m_4 ys_5) (stR n_2 xs_3 m_4 ys_5) (by assumption)).frz (by kernel_rfl) rfl (by kernel_rfl) ?_)
        refine R.go 22 (R.ar (n_2 + m_4) (by kernel_rfl) (by omega) (by omega) (by kernel_rfl) ?_)
        refine R.go 3 ?_
        by_cases c10 : ((depI (stN n_2 xs_3 m_4 ys_5) (stR n_2 xs_3 m_4 ys_5)).length : Int) = (n_2 + m_4)
        · refine R.want (!decide (((depI (stN n_2 xs_3 m_4 ys_5) (stR n_2 xs_3 m_4 ys_5)).length : Int) = (n_2 + m_4))) false (by kernel_rfl) (nF c10) ?_
          refine R.go 1 (R.want (!decide (((depI (stN n_2 xs_3 m_4 ys_5) (stR n_2 xs_3 m_4 ys_5)).length : Int) = (n_2 + m_4))) false (by kernel_rfl) (nF c10) ?_)
          refine R.go 1 (R.want (!decide (((depI (stN n_2 xs_3 m_4 ys_5) (stR n_2 xs_3 m_4 ys_5)).length : Int) = (n_2 + m_4))) false (by kernel_rfl) (nF c10) ?_)
          refine R.go 1 (R.want (!decide (((depI (stN n_2 xs_3 m_4 ys_5) (stR n_2 xs_3 m_4 ys_5)).length : Int) = (n_2 + m_4))) false (by kernel_rfl) (nF c10) ?_)
          refine R.go 1 (R.want (!decide (((depI (stN n_2 xs_3 m_4 ys_5) (stR n_2 xs_3 m_4 ys_5)).length : Int) = (n_2 + m_4))) false (by kernel_rfl) (nF c10) ?_)
          refine R.go 1 (R.pick (!decide (((depI (stN n_2 xs_3 m_4 ys_5) (stR n_2 xs_3 m_4 ys_5)).length : Int) = (n_2 + m_4))) false (by kernel_rfl) (nF c10) (by kernel_rfl) ?_)
          refine R.go 1 ?_
          by_cases c11 : ((depI n_2 xs_3).length : Int) = n_2
          · refine R.want (!decide (((depI n_2 xs_3).length : Int) = n_2)) false (by kernel_rfl) (nF c11) ?_
            refine R.go 1 (R.want (!decide (((depI n_2 xs_3).length : Int) = n_2)) false (by kernel_rfl) (nF c11) ?_)
            refine R.go 1 (R.want (!decide (((depI n_2 xs_3).length : Int) = n_2)) false (by kernel_rfl) (nF c11) ?_)
            refine R.go 1 (R.want (!decide (((depI n_2 xs_3).length : Int) = n_2)) false (by kernel_rfl) (nF c11) ?_)
            refine R.go 1 (R.want (!decide (((depI n_2 xs_3).length : Int) = n_2)) false (by kernel_rfl) (nF c11) ?_)
            refine R.go 1 (R.pick (!decide (((depI n_2 xs_3).length : Int) = n_2)) false (by kernel_rfl) (nF c11) (by kernel_rfl) ?_)
            refine R.go 1 (R.condN (((depI m_4 ys_5).length : Int) = m_4) (by kernel_rfl) (fun c12 => ?_) (fun c12 => ?_))
            · exact R.go 4 (R.retE (.bool false) (by kernel_rfl) (by kernel_rfl) (by first | (first | rfl | exact absurd (And.intro rfl rfl) (by assumption) | exact absurd hp3 (by assumption) | exact absurd hw (by assumption) | exact congrArg AV.bool (decide_eq_true (law_l hS (by assumption) (by assumption))) | exact congrArg AV.bool (decide_eq_true hp3) | (exfalso; omega)) | (exfalso; omega)))
            · refine R.go 11 (R.loop ((fun | (i, M) => (⟨(frm 222 [(3, .ptr 0 0), (4, .ptr 1 0), (5, .ptr 2 0), (9, LI (depI n_2 xs_3)), (11, LI (depI m_4 ys_5)), (13, LI (depI (stN n_2 xs_3 m_4 ys_5) (stR n_2 xs_3 m_4 ys_5))), (15, AI M), (16, AI (i : Int))]), [.box 26 [AI n_2, LI xs_3], .box 26 [AI m_4, LI ys_5], .box 26 [AI (stN n_2 xs_3 m_4 ys_5), LI (stR n_2 xs_3 m_4 ys_5)]]⟩ : St) : Nat × Int → St)) (fun | (i, M) => (i ≤ (depI m_4 ys_5).length) ∧ (0 ≤ M ∧ M ≤ 9) ∧ (∀ j, j < i → (depI m_4 ys_5).getD j 0 ≤ M) ∧ (M = 0 ∨ ∃ j, j < i ∧ (depI m_4 ys_5).getD j 0 = M)) (fun | (i, M) => (depI m_4 ys_5).length - i) (0, 0) [3, 4, 5, 9, 11, 13, 15, 16] (some [0, 1, 2]) (by kernel_rfl) (by kernel_rfl) (by kernel_rfl) ⟨(by omega), (by omega), (by exact fun j hj => absurd hj (by omega)), (by exact .inl rfl)⟩ ?_)
              rintro ⟨i, M⟩ ⟨h16_1, h16_2, h16_3, h16_4⟩ R13 N14
              refine R.go 8 (R.cond ((i : Int) < ((depI m_4 ys_5).length : Int)) (by kernel_rfl) (fun c17 => ?_) (fun c17 => ?_))
              · have hb9 := dep_b hQ (show i < (m_4).toNat by omega)
                refine R.go 8 (R.idx eI (depI m_4 ys_5) 0 i (i : Int) (by kernel_rfl) rfl eI_len (by omega) (by kernel_rfl) ?_)
                refine R.go 5 ?_
                have hd2 := law_d2 hz (show i < (depI m_4 ys_5).length by omega)
                refine R.meet (⟨(frm 222 [(3, .ptr 0 0), (4, .ptr 1 0), (5, .ptr 2 0), (9, LI (depI n_2 xs_3)), (11, LI (depI m_4 ys_5)), (13, LI (depI (stN n_2 xs_3 m_4 ys_5) (stR n_2 xs_3 m_4 ys_5))), (15, AI (if ((depI m_4 ys_5).getD i 0) > M then ((depI m_4 ys_5).getD i 0) else M)), (16, AI (i : Int)), (107, AI (i : Int)), (108, LI (depI m_4 ys_5)), (109, AI ((depI m_4 ys_5).length)), (110, .bool (decide ((i : Int) < ((depI m_4 ys_5).length : Int)))), (113, AI M), (114, LI (depI m_4 ys_5)), (115, AI (i : Int)), (116, .rptr [AI ((depI m_4 ys_5).getD i 0)]), (117, AI ((depI m_4 ys_5).getD i 0)), (118, AI (if ((depI m_4 ys_5).getD i 0) > M then ((depI m_4 ys_5).getD i 0) else M)), (119, LI (depI (stN n_2 xs_3 m_4 ys_5) (stR n_2 xs_3 m_4 ys_5))), (120, LI (depI n_2 xs_3)), (121, AI ((depI n_2 xs_3).length)), (122, AI (i : Int)), (123, AI (((depI n_2 xs_3).length : Int) + (i : Int))), (124, .rptr [AI ((depI (stN n_2 xs_3 m_4 ys_5) (stR n_2 xs_3 m_4 ys_5)).getD ((depI n_2 xs_3).length + i) 0)]), (125, AI ((depI (stN n_2 xs_3 m_4 ys_5) (stR n_2 xs_3 m_4 ys_5)).getD ((depI n_2 xs_3).length + i) 0)), (126, LI (depI m_4 ys_5)), (127, AI (i : Int)), (128, .rptr [AI ((depI m_4 ys_5).getD i 0)]), (129, AI ((depI m_4 ys_5).getD i 0)), (130, .bool (!decide (((depI (stN n_2 xs_3 m_4 ys_5) (stR n_2 xs_3 m_4 ys_5)).getD ((depI n_2 xs_3).length + i) 0) = ((depI m_4 ys_5).getD i 0))))]), [.box 26 [AI n_2, LI xs_3], .box 26 [AI m_4, LI ys_5], .box 26 [AI (stN n_2 xs_3 m_4 ys_5), LI (stR n_2 xs_3 m_4 ys_5)]]⟩ : St) (by kernel_rfl) ?_ ?_
                · refine R.any (by decide +kernel) (by kernel_rfl) ?_
                  refine R.anyF 0 (by kernel_rfl) (np_meet _) ?_
                  refine R.anyF 1 (by kernel_rfl) (np_meet _) ?_
                  refine R.anyF 3 (by kernel_rfl) (np_meet _) ?_
                  refine R.anyF 7 (by kernel_rfl) (np_meet _) ?_
                  refine R.anyF 8 (by kernel_rfl) (np_meet _) ?_
                  refine R.any2 2 9 (by kernel_rfl) (by kernel_rfl) ?_ ?_
                  · refine R.go 2 (R.any2 4 9 (by kernel_rfl) (by kernel_rfl) ?_ ?_)
                    · refine R.ar (((depI n_2 xs_3).length : Int) + (i : Int)) (by kernel_rfl) (by omega) (by omega) (by kernel_rfl) ?_
                      refine R.go 1 (R.any2 5 9 (by kernel_rfl) (by kernel_rfl) ?_ ?_)
                      · refine R.idx eI (depI (stN n_2 xs_3 m_4 ys_5) (stR n_2 xs_3 m_4 ys_5)) 0 ((depI n_2 xs_3).length + i) (((depI n_2 xs_3).length : Int) + (i : Int)) (by kernel_rfl) rfl eI_len (by omega) (by kernel_rfl) ?_
                        refine R.go 1 (R.any2 6 9 (by kernel_rfl) (by kernel_rfl) ?_ ?_)
                        · refine R.go 2 (R.any1 9 (by kernel_rfl) (by kernel_rfl) ?_)
                          refine R.idx eI (depI m_4 ys_5) 0 i (i : Int) (by kernel_rfl) rfl eI_len (by omega) (by kernel_rfl) ?_
                          refine R.go 1 (R.any1 10 (by kernel_rfl) (by kernel_rfl) ?_)
                          refine R.go 2 (R.any1 11 (by kernel_rfl) (by kernel_rfl) ?_)
                          refine R.go 2 (R.any0 (by kernel_rfl) ?_)
                          exact R.met (by kernel_rfl) (by kernel_rfl)
                        · refine R.idx eI (depI m_4 ys_5) 0 i (i : Int) (by kernel_rfl) rfl eI_len (by omega) (by kernel_rfl) ?_
                          refine R.go 1 (R.any2 6 10 (by kernel_rfl) (by kernel_rfl) ?_ ?_)
                          · refine R.go 2 (R.any1 10 (by kernel_rfl) (by kernel_rfl) ?_)
                            refine R.go 2 (R.any1 11 (by kernel_rfl) (by kernel_rfl) ?_)
                            refine R.go 2 (R.any0 (by kernel_rfl) ?_)
                            exact R.met (by kernel_rfl) (by kernel_rfl)
                          · refine R.go 2 (R.any1 6 (by kernel_rfl) (by kernel_rfl) ?_)
                            refine R.go 2 (R.any1 11 (by kernel_rfl) (by kernel_rfl) ?_)
                            refine R.go 2 (R.any0 (by kernel_rfl) ?_)
                            exact R.met (by kernel_rfl) (by kernel_rfl)
                      · refine R.idx eI (depI m_4 ys_5) 0 i (i : Int) (by kernel_rfl) rfl eI_len (by omega) (by kernel_rfl) ?_
                        refine R.go 1 (R.any2 5 10 (by kernel_rfl) (by kernel_rfl) ?_ ?_)
                        · refine R.idx eI (depI (stN n_2 xs_3 m_4 ys_5) (stR n_2 xs_3 m_4 ys_5)) 0 ((depI n_2 xs_3).length + i) (((depI n_2 xs_3).length : Int) + (i : Int)) (by kernel_rfl) rfl eI_len (by omega) (by kernel_rfl) ?_
                          refine R.go 1 (R.any2 6 10 (by kernel_rfl) (by kernel_rfl) ?_ ?_)
                          · refine R.go 2 (R.any1 10 (by kernel_rfl) (by kernel_rfl) ?_)
                            refine R.go 2 (R.any1 11 (by kernel_rfl) (by kernel_rfl) ?_)
                            refine R.go 2 (R.any0 (by kernel_rfl) ?_)
                            exact R.met (by kernel_rfl) (by kernel_rfl)
                          · refine R.go 2 (R.any1 6 (by kernel_rfl) (by kernel_rfl) ?_)
                            refine R.go 2 (R.any1 11 (by kernel_rfl) (by kernel_rfl) ?_)
                            refine R.go 2 (R.any0 (by kernel_rfl) ?_)
                            exact R.met (by kernel_rfl) (by kernel_rfl)
                        · refine R.go 2 (R.any1 5 (by kernel_rfl) (by kernel_rfl) ?_)
                          refine R.idx eI (depI (stN n_2 xs_3 m_4 ys_5) (stR n_2 xs_3 m_4 ys_5)) 0 ((depI n_2 xs_3).length + i) (((depI n_2 xs_3).length : Int) + (i : Int)) (by kernel_rfl) rfl eI_len (by omega) (by kernel_rfl) ?_
                          refine R.go 1 (R.any1 6 (by kernel_rfl) (by kernel_rfl) ?_)
                          refine R.go 2 (R.any1 11 (by kernel_rfl) (by kernel_rfl) ?_)
                          refine R.go 2 (R.any0 (by kernel_rfl) ?_)
                          exact R.met (by kernel_rfl) (by kernel_rfl)
                    · refine R.idx eI (depI m_4 ys_5) 0 i (i : Int) (by kernel_rfl) rfl eI_len (by omega) (by kernel_rfl) ?_
                      refine R.go 1 (R.any2 4 10 (by kernel_rfl) (by kernel_rfl) ?_ ?_)
                      · refine R.ar (((depI n_2 xs_3).length : Int) + (i : Int)) (by kernel_rfl) (by omega) (by omega) (by kernel_rfl) ?_
                        refine R.go 1 (R.any2 5 10 (by kernel_rfl) (by kernel_rfl) ?_ ?_)
                        · refine R.idx eI (depI (stN n_2 xs_3 m_4 ys_5) (stR n_2 xs_3 m_4 ys_5)) 0 ((depI n_2 xs_3).length + i) (((depI n_2 xs_3).length : Int) + (i : Int)) (by kernel_rfl) rfl eI_len (by omega) (by kernel_rfl) ?_
                          refine R.go 1 (R.any2 6 10 (by kernel_rfl) (by kernel_rfl) ?_ ?_)
                          · refine R.go 2 (R.any1 10 (by kernel_rfl) (by kernel_rfl) ?_)
                            refine R.go 2 (R.any1 11 (by kernel_rfl) (by kernel_rfl) ?_)
                            refine R.go 2 (R.any0 (by kernel_rfl) ?_)
                            exact R.met (by kernel_rfl) (by kernel_rfl)
                          · refine R.go 2 (R.any1 6 (by kernel_rfl) (by kernel_rfl) ?_)
                            refine R.go 2 (R.any1 11 (by kernel_rfl) (by kernel_rfl) ?_)
                            refine R.go 2 (R.any0 (by kernel_rfl) ?_)
                            exact R.met (by kernel_rfl) (by kernel_rfl)
                        · refine R.go 2 (R.any1 5 (by kernel_rfl) (by kernel_rfl) ?_)
                          refine R.idx eI (depI (stN n_2 xs_3 m_4 ys_5) (stR n_2 xs_3 m_4 ys_5)) 0 ((depI n_2 xs_3).length + i) (((depI n_2 xs_3).length : Int) + (i : Int)) (by kernel_rfl) rfl eI_len (by omega) (by kernel_rfl) ?_
                          refine R.go 1 (R.any1 6 (by kernel_rfl) (by kernel_rfl) ?_)
                          refine R.go 2 (R.any1 11 (by kernel_rfl) (by kernel_rfl) ?_)
                          refine R.go 2 (R.any0 (by kernel_rfl) ?_)
                          exact R.met (by kernel_rfl) (by kernel_rfl)
                      · refine R.go 2 (R.any1 4 (by kernel_rfl) (by kernel_rfl) ?_)
                        refine R.ar (((depI n_2 xs_3).length : Int) + (i : Int)) (by kernel_rfl) (by omega) (by omega) (by kernel_rfl) ?_
                        refine R.go 1 (R.any1 5 (by kernel_rfl) (by kernel_rfl) ?_)
                        refine R.idx eI (depI (stN n_2 xs_3 m_4 ys_5) (stR n_2 xs_3 m_4 ys_5)) 0 ((depI n_2 xs_3).length + i) (((depI n_2 xs_3).length : Int) + (i : Int)) (by kernel_rfl) rfl eI_len (by omega) (by kernel_rfl) ?_
                        refine R.go 1 (R.any1 6 (by kernel_rfl) (by kernel_rfl) ?_)
                        refine R.go 2 (R.any1 11 (by kernel_rfl) (by kernel_rfl) ?_)
                        refine R.go 2 (R.any0 (by kernel_rfl) ?_)
                        exact R.met (by kernel_rfl) (by kernel_rfl)
                  · refine R.idx eI (depI m_4 ys_5) 0 i (i : Int) (by kernel_rfl) rfl eI_len (by omega) (by kernel_rfl) ?_
                    refine R.go 1 (R.any2 2 10 (by kernel_rfl) (by kernel_rfl) ?_ ?_)
                    · refine R.go 2 (R.any2 4 10 (by kernel_rfl) (by kernel_rfl) ?_ ?_)
                      · refine R.ar (((depI n_2 xs_3).length : Int) + (i : Int)) (by kernel_rfl) (by omega) (by omega) (by kernel_rfl) ?_
                        refine R.go 1 (R.any2 5 10 (by kernel_rfl) (by kernel_rfl) ?_ ?_)
                        · refine R.idx eI (depI (stN n_2 xs_3 m_4 ys_5) (stR n_2 xs_3 m_4 ys_5)) 0 ((depI n_2 xs_3).length + i) (((depI n_2 xs_3).length : Int) + (i : Int)) (by kernel_rfl) rfl eI_len (by omega) (by kernel_rfl) ?_
                          refine R.go 1 (R.any2 6 10 (by kernel_rfl) (by kernel_rfl) ?_ ?_)
                          · refine R.go 2 (R.any1 10 (by kernel_rfl) (by kernel_rfl) ?_)
                            refine R.go 2 (R.any1 11 (by kernel_rfl) (by kernel_rfl) ?_)
                            refine R.go 2 (R.any0 (by kernel_rfl) ?_)
                            exact R.met (by kernel_rfl) (by kernel_rfl)
                          · refine R.go 2 (R.any1 6 (by kernel_rfl) (by kernel_rfl) ?_)
                            refine R.go 2 (R.any1 11 (by kernel_rfl) (by kernel_rfl) ?_)
                            refine R.go 2 (R.any0 (by kernel_rfl) ?_)
                            exact R.met (by kernel_rfl) (by kernel_rfl)
                        · refine R.go 2 (R.any1 5 (by kernel_rfl) (by kernel_rfl) ?_)
                          refine R.idx eI (depI (stN n_2 xs_3 m_4 ys_5) (stR n_2 xs_3 m_4 ys_5)) 0 ((depI n_2 xs_3).length + i) (((depI n_2 xs_3).length : Int) + (i : Int)) (by kernel_rfl) rfl eI_len (by omega) (by kernel_rfl) ?_
                          refine R.go 1 (R.any1 6 (by kernel_rfl) (by kernel_rfl) ?_)
                          refine R.go 2 (R.any1 11 (by kernel_rfl) (by kernel_rfl) ?_)
                          refine R.go 2 (R.any0 (by kernel_rfl) ?_)
                          exact R.met (by kernel_rfl) (by kernel_rfl)
                      · refine R.go 2 (R.any1 4 (by kernel_rfl) (by kernel_rfl) ?_)
                        refine R.ar (((depI n_2 xs_3).length : Int) + (i : Int)) (by kernel_rfl) (by omega) (by omega) (by kernel_rfl) ?_
                        refine R.go 1 (R.any1 5 (by kernel_rfl) (by kernel_rfl) ?_)
                        refine R.idx eI (depI (stN n_2 xs_3 m_4 ys_5) (stR n_2 xs_3 m_4 ys_5)) 0 ((depI n_2 xs_3).length + i) (((depI n_2 xs_3).length : Int) + (i : Int)) (by kernel_rfl) rfl eI_len (by omega) (by kernel_rfl) ?_
                        refine R.go 1 (R.any1 6 (by kernel_rfl) (by kernel_rfl) ?_)
                        refine R.go 2 (R.any1 11 (by kernel_rfl) (by kernel_rfl) ?_)
                        refine R.go 2 (R.any0 (by kernel_rfl) ?_)
                        exact R.met (by kernel_rfl) (by kernel_rfl)
                    · refine R.go 2 (R.any1 2 (by kernel_rfl) (by kernel_rfl) ?_)
                      refine R.go 2 (R.any1 4 (by kernel_rfl) (by kernel_rfl) ?_)
                      refine R.ar (((depI n_2 xs_3).length : Int) + (i : Int)) (by kernel_rfl) (by omega) (by omega) (by kernel_rfl) ?_
                      refine R.go 1 (R.any1 5 (by kernel_rfl) (by kernel_rfl) ?_)
                      refine R.idx eI (depI (stN n_2 xs_3 m_4 ys_5) (stR n_2 xs_3 m_4 ys_5)) 0 ((depI n_2 xs_3).length + i) (((depI n_2 xs_3).length : Int) + (i : Int)) (by kernel_rfl) rfl eI_len (by omega) (by kernel_rfl) ?_
                      refine R.go 1 (R.any1 6 (by kernel_rfl) (by kernel_rfl) ?_)
                      refine R.go 2 (R.any1 11 (by kernel_rfl) (by kernel_rfl) ?_)
                      refine R.go 2 (R.any0 (by kernel_rfl) ?_)
                      exact R.met (by kernel_rfl) (by kernel_rfl)
                · refine R.condN (((depI (stN n_2 xs_3 m_4 ys_5) (stR n_2 xs_3 m_4 ys_5)).getD ((depI n_2 xs_3).length + i) 0) = ((depI m_4 ys_5).getD i 0)) (by kernel_rfl) (fun c18 => ?_) (fun c18 => ?_)
                  · exact R.go 4 (R.retE (.bool false) (by kernel_rfl) (by kernel_rfl) (by first | (first | rfl | exact absurd (And.intro rfl rfl) (by assumption) | exact absurd hp3 (by assumption) | exact absurd hw (by assumption) | exact congrArg AV.bool (decide_eq_true (law_l hS (by assumption) (by assumption))) | exact congrArg AV.bool (decide_eq_true hp3) | (exfalso; omega)) | (exfalso; omega)))
                  · refine R.go 4 (R.ar ((i : Int) + 1) (by kernel_rfl) (by omega) (by omega) (by kernel_rfl) ?_)
                    exact R.go 2 (R.stop R13 (by kernel_rfl) (N14 (i + 1, if ((depI m_4 ys_5).getD i 0) > M then ((depI m_4 ys_5).getD i 0) else M) [3, 4, 5, 9, 11, 13, 15, 16] none _ (by kernel_rfl) (by kernel_rfl) ⟨(by omega), (by (have hb5 := dep_b hQ (show i < (m_4).toNat by omega); split <;> omega)), (by exact mx_2 (by assumption)), (by exact mx_3 (by assumption))⟩ (by show ((depI m_4 ys_5).length - (i + 1)) < ((depI m_4 ys_5).length - i); omega)))
              · refine R.go 7 (R.loop (fun (k : Nat) => (⟨(frm 222 [(3, .ptr 0 0), (4, .ptr 1 0), (5, .ptr 2 0), (9, LI (depI n_2 xs_3)), (13, LI (depI (stN n_2 xs_3 m_4 ys_5) (stR n_2 xs_3 m_4 ys_5))), (15, AI M), (17, AI (k : Int))]), [.box 26 [AI n_2, LI xs_3], .box 26 [AI m_4, LI ys_5], .box 26 [AI (stN n_2 xs_3 m_4 ys_5), LI (stR n_2 xs_3 m_4 ys_5)]]⟩ : St)) (fun (k : Nat) => k ≤ (depI n_2 xs_3).length) (fun (k : Nat) => (depI n_2 xs_3).length - k) 0 [3, 4, 5, 9, 13, 15, 17] none (by kernel_rfl) (by kernel_rfl) (by kernel_rfl) (by omega) ?_)
                rintro k h21_1 R19 N20
                refine R.go 8 (R.cond ((k : Int) < ((depI n_2 xs_3).length : Int)) (by kernel_rfl) (fun c22 => ?_) (fun c22 => ?_))
                · refine R.go 4 ?_
                  have hd1 := law_d1 hz (M := M) (by omega) (fun j hj => (by assumption : ∀ j, j < i → (depI m_4 ys_5).getD j 0 ≤ M) j (by omega)) ((by assumption : M = 0 ∨ ∃ j, j < i ∧ (depI m_4 ys_5).getD j 0 = M).elim .inl fun ⟨j, hj, e⟩ => .inr ⟨j, by omega, e⟩) (show k < (depI n_2 xs_3).length by omega)
                  have hb7 := dep_b hP (show k < (n_2).toNat by omega)
                  refine R.meet (⟨(frm 222 [(3, .ptr 0 0), (4, .ptr 1 0), (5, .ptr 2 0), (9, LI (depI n_2 xs_3)), (13, LI (depI (stN n_2 xs_3 m_4 ys_5) (stR n_2 xs_3 m_4 ys_5))), (15, AI M), (17, AI (k : Int)), (131, AI (k : Int)), (132, LI (depI n_2 xs_3)), (133, AI ((depI n_2 xs_3).length)), (134, .bool (decide ((k : Int) < ((depI n_2 xs_3).length : Int)))), (137, LI (depI (stN n_2 xs_3 m_4 ys_5) (stR n_2 xs_3 m_4 ys_5))), (138, AI (k : Int)), (139, .rptr [AI ((depI (stN n_2 xs_3 m_4 ys_5) (stR n_2 xs_3 m_4 ys_5)).getD k 0)]), (140, AI ((depI (stN n_2 xs_3 m_4 ys_5) (stR n_2 xs_3 m_4 ys_5)).getD k 0)), (141, LI (depI n_2 xs_3)), (142, AI (k : Int)), (143, .rptr [AI ((depI n_2 xs_3).getD k 0)]), (144, AI ((depI n_2 xs_3).getD k 0)), (145, AI M), (146, AI (((depI n_2 xs_3).getD k 0) + M)), (147, .bool (!decide (((depI (stN n_2 xs_3 m_4 ys_5) (stR n_2 xs_3 m_4 ys_5)).getD k 0) = (((depI n_2 xs_3).getD k 0) + M))))]), [.box 26 [AI n_2, LI xs_3], .box 26 [AI m_4, LI ys_5], .box 26 [AI (stN n_2 xs_3 m_4 ys_5), LI (stR n_2 xs_3 m_4 ys_5)]]⟩ : St) (by kernel_rfl) ?_ ?_
                  · refine R.any (by decide +kernel) (by kernel_rfl) ?_
                    refine R.anyF 0 (by kernel_rfl) (np_meet _) ?_
                    refine R.anyF 1 (by kernel_rfl) (np_meet _) ?_
                    refine R.anyF 4 (by kernel_rfl) (np_meet _) ?_
                    refine R.anyF 5 (by kernel_rfl) (np_meet _) ?_
                    refine R.anyF 8 (by kernel_rfl) (np_meet _) ?_
                    refine R.any2 2 6 (by kernel_rfl) (by kernel_rfl) ?_ ?_
                    · refine R.idx eI (depI (stN n_2 xs_3 m_4 ys_5) (stR n_2 xs_3 m_4 ys_5)) 0 k (k : Int) (by kernel_rfl) rfl eI_len (by omega) (by kernel_rfl) ?_
                      refine R.go 1 (R.any2 3 6 (by kernel_rfl) (by kernel_rfl) ?_ ?_)
                      · refine R.go 2 (R.any1 6 (by kernel_rfl) (by kernel_rfl) ?_)
                        refine R.idx eI (depI n_2 xs_3) 0 k (k : Int) (by kernel_rfl) rfl eI_len (by omega) (by kernel_rfl) ?_
                        refine R.go 1 (R.any1 7 (by kernel_rfl) (by kernel_rfl) ?_)
                        refine R.go 2 (R.any1 9 (by kernel_rfl) (by kernel_rfl) ?_)
                        refine R.ar (((depI n_2 xs_3).getD k 0) + M) (by kernel_rfl) (by omega) (by omega) (by kernel_rfl) ?_
                        refine R.go 1 (R.any1 10 (by kernel_rfl) (by kernel_rfl) ?_)
                        refine R.go 2 (R.any0 (by kernel_rfl) ?_)
                        exact R.met (by kernel_rfl) (by kernel_rfl)
                      · refine R.idx eI (depI n_2 xs_3) 0 k (k : Int) (by kernel_rfl) rfl eI_len (by omega) (by kernel_rfl) ?_
                        refine R.go 1 (R.any2 3 7 (by kernel_rfl) (by kernel_rfl) ?_ ?_)
                        · refine R.go 2 (R.any1 7 (by kernel_rfl) (by kernel_rfl) ?_)
                          refine R.go 2 (R.any1 9 (by kernel_rfl) (by kernel_rfl) ?_)
                          refine R.ar (((depI n_2 xs_3).getD k 0) + M) (by kernel_rfl) (by omega) (by omega) (by kernel_rfl) ?_
                          refine R.go 1 (R.any1 10 (by kernel_rfl) (by kernel_rfl) ?_)
                          refine R.go 2 (R.any0 (by kernel_rfl) ?_)
                          exact R.met (by kernel_rfl) (by kernel_rfl)
                        · refine R.go 2 (R.any2 3 9 (by kernel_rfl) (by kernel_rfl) ?_ ?_)
                          · refine R.go 2 (R.any1 9 (by kernel_rfl) (by kernel_rfl) ?_)
                            refine R.ar (((depI n_2 xs_3).getD k 0) + M) (by kernel_rfl) (by omega) (by omega) (by kernel_rfl) ?_
                            refine R.go 1 (R.any1 10 (by kernel_rfl) (by kernel_rfl) ?_)
                            refine R.go 2 (R.any0 (by kernel_rfl) ?_)
                            exact R.met (by kernel_rfl) (by kernel_rfl)
                          · refine R.ar (((depI n_2 xs_3).getD k 0) + M) (by kernel_rfl) (by omega) (by omega) (by kernel_rfl) ?_
                            refine R.go 1 (R.any1 3 (by kernel_rfl) (by kernel_rfl) ?_)
                            refine R.go 2 (R.any1 10 (by kernel_rfl) (by kernel_rfl) ?_)
                            refine R.go 2 (R.any0 (by kernel_rfl) ?_)
                            exact R.met (by kernel_rfl) (by kernel_rfl)
                    · refine R.idx eI (depI n_2 xs_3) 0 k (k : Int) (by kernel_rfl) rfl eI_len (by omega) (by kernel_rfl) ?_
                      refine R.go 1 (R.any2 2 7 (by kernel_rfl) (by kernel_rfl) ?_ ?_)
                      · refine R.idx eI (depI (stN n_2 xs_3 m_4 ys_5) (stR n_2 xs_3 m_4 ys_5)) 0 k (k : Int) (by kernel_rfl) rfl eI_len (by omega) (by kernel_rfl) ?_
                        refine R.go 1 (R.any2 3 7 (by kernel_rfl) (by kernel_rfl) ?_ ?_)
                        · refine R.go 2 (R.any1 7 (by kernel_rfl) (by kernel_rfl) ?_)
                          refine R.go 2 (R.any1 9 (by kernel_rfl) (by kernel_rfl) ?_)
                          refine R.ar (((depI n_2 xs_3).getD k 0) + M) (by kernel_rfl) (by omega) (by omega) (by kernel_rfl) ?_
                          refine R.go 1 (R.any1 10 (by kernel_rfl) (by kernel_rfl) ?_)
                          refine R.go 2 (R.any0 (by kernel_rfl) ?_)
                          exact R.met (by kernel_rfl) (by kernel_rfl)
                        · refine R.go 2 (R.any2 3 9 (by kernel_rfl) (by kernel_rfl) ?_ ?_)
                          · refine R.go 2 (R.any1 9 (by kernel_rfl) (by kernel_rfl) ?_)
                            refine R.ar (((depI n_2 xs_3).getD k 0) + M) (by kernel_rfl) (by omega) (by omega) (by kernel_rfl) ?_
                            refine R.go 1 (R.any1 10 (by kernel_rfl) (by kernel_rfl) ?_)
                            refine R.go 2 (R.any0 (by kernel_rfl) ?_)
                            exact R.met (by kernel_rfl) (by kernel_rfl)
                          · refine R.ar (((depI n_2 xs_3).getD k 0) + M) (by kernel_rfl) (by omega) (by omega) (by kernel_rfl) ?_
                            refine R.go 1 (R.any1 3 (by kernel_rfl) (by kernel_rfl) ?_)
                            refine R.go 2 (R.any1 10 (by kernel_rfl) (by kernel_rfl) ?_)
                            refine R.go 2 (R.any0 (by kernel_rfl) ?_)
                            exact R.met (by kernel_rfl) (by kernel_rfl)
                      · refine R.go 2 (R.any2 2 9 (by kernel_rfl) (by kernel_rfl) ?_ ?_)
                        · refine R.idx eI (depI (stN n_2 xs_3 m_4 ys_5) (stR n_2 xs_3 m_4 ys_5)) 0 k (k : Int) (by kernel_rfl) rfl eI_len (by omega) (by kernel_rfl) ?_
                          refine R.go 1 (R.any2 3 9 (by kernel_rfl) (by kernel_rfl) ?_ ?_)
                          · refine R.go 2 (R.any1 9 (by kernel_rfl) (by kernel_rfl) ?_)
                            refine R.ar (((depI n_2 xs_3).getD k 0) + M) (by kernel_rfl) (by omega) (by omega) (by kernel_rfl) ?_
                            refine R.go 1 (R.any1 10 (by kernel_rfl) (by kernel_rfl) ?_)
                            refine R.go 2 (R.any0 (by kernel_rfl) ?_)
                            exact R.met (by kernel_rfl) (by kernel_rfl)
                          · refine R.ar (((depI n_2 xs_3).getD k 0) + M) (by kernel_rfl) (by omega) (by omega) (by kernel_rfl) ?_
                            refine R.go 1 (R.any1 3 (by kernel_rfl) (by kernel_rfl) ?_)
                            refine R.go 2 (R.any1 10 (by kernel_rfl) (by kernel_rfl) ?_)
                            refine R.go 2 (R.any0 (by kernel_rfl) ?_)
                            exact R.met (by kernel_rfl) (by kernel_rfl)
                        · refine R.ar (((depI n_2 xs_3).getD k 0) + M) (by kernel_rfl) (by omega) (by omega) (by kernel_rfl) ?_
                          refine R.go 1 (R.any1 2 (by kernel_rfl) (by kernel_rfl) ?_)
                          refine R.idx eI (depI (stN n_2 xs_3 m_4 ys_5) (stR n_2 xs_3 m_4 ys_5)) 0 k (k : Int) (by kernel_rfl) rfl eI_len (by omega) (by kernel_rfl) ?_
                          refine R.go 1 (R.any1 3 (by kernel_rfl) (by kernel_rfl) ?_)
                          refine R.go 2 (R.any1 10 (by kernel_rfl) (by kernel_rfl) ?_)
                          refine R.go 2 (R.any0 (by kernel_rfl) ?_)
                          exact R.met (by kernel_rfl) (by kernel_rfl)
                  · refine R.condN (((depI (stN n_2 xs_3 m_4 ys_5) (stR n_2 xs_3 m_4 ys_5)).getD k 0) = (((depI n_2 xs_3).getD k 0) + M)) (by kernel_rfl) (fun c23 => ?_) (fun c23 => ?_)
                    · exact R.go 4 (R.retE (.bool false) (by kernel_rfl) (by kernel_rfl) (by first | (first | rfl | exact absurd (And.intro rfl rfl) (by assumption) | exact absurd hp3 (by assumption) | exact absurd hw (by assumption) | exact congrArg AV.bool (decide_eq_true (law_l hS (by assumption) (by assumption))) | exact congrArg AV.bool (decide_eq_true hp3) | (exfalso; omega)) | (exfalso; omega)))
                    · refine R.go 4 (R.ar ((k : Int) + 1) (by kernel_rfl) (by omega) (by omega) (by kernel_rfl) ?_)
                      exact R.go 2 (R.stop R19 (by kernel_rfl) (N20 (k + 1) [3, 4, 5, 9, 13, 15, 17] none _ (by kernel_rfl) (by kernel_rfl) (by omega) (by show ((depI n_2 xs_3).length - (k + 1)) < ((depI n_2 xs_3).length - k); omega)))
                · refine R.go 5 (R.call true (sumP_c n_2 xs_3 m_4 ys_5 (by assumption) (by first | assumption | exact po_one)).frz (by kernel_rfl) rfl (by kernel_rfl) ?_)
                  refine R.go 10 (R.callX0 (WD_impl n_2 xs_3 (by assumption)) (by kernel_rfl) (by rintro _ _ ⟨_, _, rfl, rfl⟩; rfl) (by kernel_rfl) (by kernel_rfl) ?_)
                  rintro _ ⟨w_24, f25, rfl, _⟩
                  refine R.go 9 (R.callX0 (WD_impl m_4 ys_5 (by assumption)) (by kernel_rfl) (by rintro _ _ ⟨_, _, rfl, rfl⟩; rfl) (by kernel_rfl) (by kernel_rfl) ?_)
                  rintro _ ⟨w_26, f27, rfl, _⟩
                  refine R.go 9 (R.callX0 (WD_impl (smN n_2 m_4) (smR n_2 xs_3 m_4 ys_5) (by assumption)) (by kernel_rfl) (by rintro _ _ ⟨_, _, rfl, rfl⟩; rfl) (by kernel_rfl) (by kernel_rfl) ?_)
                  rintro _ ⟨w_28, f29, rfl, _⟩
                  have hw : w_28 = if w_26 > w_24 then w_26 else w_24 := law_w hz (by assumption) (by assumption) (by assumption)
                  refine R.go 11 (R.ar ((smC n_2 m_4) + 0) (by kernel_rfl) (by omega) (by omega) (by kernel_rfl) ?_)
                  refine R.go 1 (R.ar (((smC n_2 m_4) + 0) + 0) (by kernel_rfl) (by omega) (by omega) (by kernel_rfl) ?_)
                  refine R.go 1 (R.ar ((((smC n_2 m_4) + 0) + 0) + 0) (by kernel_rfl) (by omega) (by omega) (by kernel_rfl) ?_)
                  refine R.go 2 ?_
                  by_cases c30 : ((((smC n_2 m_4) + 0) + 0) + 0) = 0
                  · refine R.want (!decide (((((smC n_2 m_4) + 0) + 0) + 0) = 0)) false (by kernel_rfl) (nF c30) ?_
                    refine R.go 1 (R.want (!decide (((((smC n_2 m_4) + 0) + 0) + 0) = 0)) false (by kernel_rfl) (nF c30) ?_)
                    refine R.go 1 (R.want (!decide (((((smC n_2 m_4) + 0) + 0) + 0) = 0)) false (by kernel_rfl) (nF c30) ?_)
                    refine R.go 1 (R.want (!decide (((((smC n_2 m_4) + 0) + 0) + 0) = 0)) false (by kernel_rfl) (nF c30) ?_)
                    refine R.go 1 (R.want (!decide (((((smC n_2 m_4) + 0) + 0) + 0) = 0)) false (by kernel_rfl) (nF c30) ?_)
                    refine R.go 1 (R.pick (!decide (((((smC n_2 m_4) + 0) + 0) + 0) = 0)) false (by kernel_rfl) (nF c30) (by kernel_rfl) ?_)
                    refine R.go 1 (R.condN (w_28 = (if w_26 > w_24 then w_26 else w_24)) (by kernel_rfl) (fun c31 => ?_) (fun c31 => ?_))
                    · exact R.go 4 (R.retE (.bool false) (by kernel_rfl) (by kernel_rfl) (by first | (first | rfl | exact absurd (And.intro rfl rfl) (by assumption) | exact absurd hp3 (by assumption) | exact absurd hw (by assumption) | exact congrArg AV.bool (decide_eq_true (law_l hS (by assumption) (by assumption))) | exact congrArg AV.bool (decide_eq_true hp3) | (exfalso; omega)) | (exfalso; omega)))
                    · refine R.go 2 (R.meet (⟨(frm 222 [(3, .ptr 0 0), (4, .ptr 1 0), (5, .ptr 2 0), (9, LI (depI n_2 xs_3)), (13, LI (depI (stN n_2 xs_3 m_4 ys_5) (stR n_2 xs_3 m_4 ys_5))), (15, AI M), (17, AI (k : Int)), (18, .ptr 3 0), (19, AI (smC n_2 m_4)), (20, AI w_24), (21, AI 0), (22, AI w_26), (23, AI 0), (24, AI w_28), (25, AI 0), (26, .ptr 4 0), (27, AI 0), (131, AI (k : Int)), (132, LI (depI n_2 xs_3)), (133, AI ((depI n_2 xs_3).length)), (134, .bool (decide ((k : Int) < ((depI n_2 xs_3).length : Int)))), (148, .tup [.agg [AI (smN n_2 m_4), LI (smR n_2 xs_3 m_4 ys_5)], AI (smC n_2 m_4)]), (149, .agg [AI n_2, LI xs_3]), (150, .agg [AI m_4, LI ys_5]), (151, .tup [.agg [AI (smN n_2 m_4), LI (smR n_2 xs_3 m_4 ys_5)], AI (smC n_2 m_4)]), (152, .agg [AI (smN n_2 m_4), LI (smR n_2 xs_3 m_4 ys_5)]), (153, AI (smC n_2 m_4)), (154, .tup [AI w_24, AI 0]), (155, .agg [AI n_2, LI xs_3]), (156, .tup [AI w_24, AI 0]), (157, AI w_24), (158, AI 0), (159, .tup [AI w_26, AI 0]), (160, .agg [AI m_4, LI ys_5]), (161, .tup [AI w_26, AI 0]), (162, AI w_26), (163, AI 0), (164, .tup [AI w_28, AI 0]), (165, .agg [AI (smN n_2 m_4), LI (smR n_2 xs_3 m_4 ys_5)]), (166, .tup [AI w_28, AI 0]), (167, AI w_28), (168, AI 0), (169, AI (smC n_2 m_4)), (170, AI 0), (171, AI ((smC n_2 m_4) + 0)), (172, AI 0), (173, AI (((smC n_2 m_4) + 0) + 0)), (174, AI 0), (175, AI ((((smC n_2 m_4) + 0) + 0) + 0)), (176, .bool (!decide (((((smC n_2 m_4) + 0) + 0) + 0) = 0))), (177, .bool (!decide (((((smC n_2 m_4) + 0) + 0) + 0) = 0))), (178, AI w_28), (179, AI w_24), (180, AI w_26), (181, AI (if w_26 > w_24 then w_26 else w_24)), (182, .bool (!decide (w_28 = (if w_26 > w_24 then w_26 else w_24)))), (183, .bool (!decide (w_28 = (if w_26 > w_24 then w_26 else w_24)))), (184, .tup [.agg [AI ((mem ((shl64 1 n_2) - 1)).length : Int), LI (prt (stR n_2 xs_3 m_4 ys_5) (mem ((shl64 1 n_2) - 1)))], AI 0]), (185, .agg [AI (stN n_2 xs_3 m_4 ys_5), LI (stR n_2 xs_3 m_4 ys_5)]), (186, .ptr 0 0), (187, AI n_2), (188, AI ((shl64 1 n_2) - 1)), (189, .tup [.agg [AI ((mem ((shl64 1 n_2) - 1)).length : Int), LI (prt (stR n_2 xs_3 m_4 ys_5) (mem ((shl64 1 n_2) - 1)))], AI 0]), (190, .agg [AI ((mem ((shl64 1 n_2) - 1)).length : Int), LI (prt (stR n_2 xs_3 m_4 ys_5) (mem ((shl64 1 n_2) - 1)))]), (191, AI 0)]), [.box 26 [AI n_2, LI xs_3], .box 26 [AI m_4, LI ys_5], .box 26 [AI (stN n_2 xs_3 m_4 ys_5), LI (stR n_2 xs_3 m_4 ys_5)], .box 26 [AI (smN n_2 m_4), LI (smR n_2 xs_3 m_4 ys_5)], .box 26 [AI ((mem ((shl64 1 n_2) - 1)).length : Int), LI (prt (stR n_2 xs_3 m_4 ys_5) (mem ((shl64 1 n_2) - 1)))]]⟩ : St) (by kernel_rfl) ?_ ?_)
                      · refine R.any (by decide +kernel) (by kernel_rfl) ?_
                        refine R.anyA 1 (.ptr 0 0) (by kernel_rfl) (np_meet _) ?_
                        refine R.any3 0 2 8 (by kernel_rfl) (by kernel_rfl) ?_ ?_ ?_
                        · refine R.go 2 (R.any2 2 8 (by kernel_rfl) (by kernel_rfl) ?_ ?_)
                          · refine R.go 2 (R.any2 3 8 (by kernel_rfl) (by kernel_rfl) ?_ ?_)
                            · refine R.call true (widthX0_c n_2 (by omega) (by omega)) (by kernel_rfl) rfl (by kernel_rfl) ?_
                              refine R.go 1 (R.any2 4 8 (by kernel_rfl) (by kernel_rfl) ?_ ?_)
                              · refine R.call true (PP_impl (stN n_2 xs_3 m_4 ys_5) (stR n_2 xs_3 m_4 ys_5) ((shl64 1 n_2) - 1) (by assumption) (by assumption) (by assumption)) (by kernel_rfl) rfl (by kernel_rfl) ?_
                                refine R.go 1 (R.anyF 5 (by kernel_rfl) (np_meet _) ?_)
                                refine R.anyX 6 (.agg [AI ((mem ((shl64 1 n_2) - 1)).length : Int), LI (prt (stR n_2 xs_3 m_4 ys_5) (mem ((shl64 1 n_2) - 1)))]) (by kernel_rfl) (np_meet _) ?_
                                refine R.anyX 7 (AI 0) (by kernel_rfl) (np_meet _) ?_
                                refine R.any1 8 (by kernel_rfl) (by kernel_rfl) ?_
                                refine R.go 2 (R.any1 9 (by kernel_rfl) (by kernel_rfl) ?_)
                                refine R.go 2 (R.any1 10 (by kernel_rfl) (by kernel_rfl) ?_)
                                refine R.go 2 (R.any0 (by kernel_rfl) ?_)
                                exact R.met (by kernel_rfl) (by kernel_rfl)
                              · refine R.go 2 (R.any1 4 (by kernel_rfl) (by kernel_rfl) ?_)
                                refine R.call true (PP_impl (stN n_2 xs_3 m_4 ys_5) (stR n_2 xs_3 m_4 ys_5) ((shl64 1 n_2) - 1) (by assumption) (by assumption) (by assumption)) (by kernel_rfl) rfl (by kernel_rfl) ?_
                                refine R.go 1 (R.anyF 5 (by kernel_rfl) (np_meet _) ?_)
                                refine R.anyX 6 (.agg [AI ((mem ((shl64 1 n_2) - 1)).length : Int), LI (prt (stR n_2 xs_3 m_4 ys_5) (mem ((shl64 1 n_2) - 1)))]) (by kernel_rfl) (np_meet _) ?_
                                refine R.anyX 7 (AI 0) (by kernel_rfl) (np_meet _) ?_
                                refine R.any1 9 (by kernel_rfl) (by kernel_rfl) ?_
                                refine R.go 2 (R.any1 10 (by kernel_rfl) (by kernel_rfl) ?_)
                                refine R.go 2 (R.any0 (by kernel_rfl) ?_)
                                exact R.met (by kernel_rfl) (by kernel_rfl)
                            · refine R.go 2 (R.any1 3 (by kernel_rfl) (by kernel_rfl) ?_)
                              refine R.call true (widthX0_c n_2 (by omega) (by omega)) (by kernel_rfl) rfl (by kernel_rfl) ?_
                              refine R.go 1 (R.any1 4 (by kernel_rfl) (by kernel_rfl) ?_)
                              refine R.call true (PP_impl (stN n_2 xs_3 m_4 ys_5) (stR n_2 xs_3 m_4 ys_5) ((shl64 1 n_2) - 1) (by assumption) (by assumption) (by assumption)) (by kernel_rfl) rfl (by kernel_rfl) ?_
                              refine R.go 1 (R.anyF 5 (by kernel_rfl) (np_meet _) ?_)
                              refine R.anyX 6 (.agg [AI ((mem ((shl64 1 n_2) - 1)).length : Int), LI (prt (stR n_2 xs_3 m_4 ys_5) (mem ((shl64 1 n_2) - 1)))]) (by kernel_rfl) (np_meet _) ?_
                              refine R.anyX 7 (AI 0) (by kernel_rfl) (np_meet _) ?_
                              refine R.any1 9 (by kernel_rfl) (by kernel_rfl) ?_
                              refine R.go 2 (R.any1 10 (by kernel_rfl) (by kernel_rfl) ?_)
                              refine R.go 2 (R.any0 (by kernel_rfl) ?_)
                              exact R.met (by kernel_rfl) (by kernel_rfl)
                          · refine R.go 2 (R.any1 2 (by kernel_rfl) (by kernel_rfl) ?_)
                            refine R.go 2 (R.any1 3 (by kernel_rfl) (by kernel_rfl) ?_)
                            refine R.call true (widthX0_c n_2 (by omega) (by omega)) (by kernel_rfl) rfl (by kernel_rfl) ?_
                            refine R.go 1 (R.any1 4 (by kernel_rfl) (by kernel_rfl) ?_)
                            refine R.call true (PP_impl (stN n_2 xs_3 m_4 ys_5) (stR n_2 xs_3 m_4 ys_5) ((shl64 1 n_2) - 1) (by assumption) (by assumption) (by assumption)) (by kernel_rfl) rfl (by kernel_rfl) ?_
                            refine R.go 1 (R.anyF 5 (by kernel_rfl) (np_meet _) ?_)
                            refine R.anyX 6 (.agg [AI ((mem ((shl64 1 n_2) - 1)).length : Int), LI (prt (stR n_2 xs_3 m_4 ys_5) (mem ((shl64 1 n_2) - 1)))]) (by kernel_rfl) (np_meet _) ?_
                            refine R.anyX 7 (AI 0) (by kernel_rfl) (np_meet _) ?_
                            refine R.any1 9 (by kernel_rfl) (by kernel_rfl) ?_
                            refine R.go 2 (R.any1 10 (by kernel_rfl) (by kernel_rfl) ?_)
                            refine R.go 2 (R.any0 (by kernel_rfl) ?_)
                            exact R.met (by kernel_rfl) (by kernel_rfl)
                        · refine R.go 2 (R.any3 0 3 8 (by kernel_rfl) (by kernel_rfl) ?_ ?_ ?_)
                          · refine R.go 2 (R.any2 3 8 (by kernel_rfl) (by kernel_rfl) ?_ ?_)
                            · refine R.call true (widthX0_c n_2 (by omega) (by omega)) (by kernel_rfl) rfl (by kernel_rfl) ?_
                              refine R.go 1 (R.any2 4 8 (by kernel_rfl) (by kernel_rfl) ?_ ?_)
                              · refine R.call true (PP_impl (stN n_2 xs_3 m_4 ys_5) (stR n_2 xs_3 m_4 ys_5) ((shl64 1 n_2) - 1) (by assumption) (by assumption) (by assumption)) (by kernel_rfl) rfl (by kernel_rfl) ?_
                                refine R.go 1 (R.anyF 5 (by kernel_rfl) (np_meet _) ?_)
                                refine R.anyX 6 (.agg [AI ((mem ((shl64 1 n_2) - 1)).length : Int), LI (prt (stR n_2 xs_3 m_4 ys_5) (mem ((shl64 1 n_2) - 1)))]) (by kernel_rfl) (np_meet _) ?_
                                refine R.anyX 7 (AI 0) (by kernel_rfl) (np_meet _) ?_
                                refine R.any1 8 (by kernel_rfl) (by kernel_rfl) ?_
                                refine R.go 2 (R.any1 9 (by kernel_rfl) (by kernel_rfl) ?_)
                                refine R.go 2 (R.any1 10 (by kernel_rfl) (by kernel_rfl) ?_)
                                refine R.go 2 (R.any0 (by kernel_rfl) ?_)
                                exact R.met (by kernel_rfl) (by kernel_rfl)
                              · refine R.go 2 (R.any1 4 (by kernel_rfl) (by kernel_rfl) ?_)
                                refine R.call true (PP_impl (stN n_2 xs_3 m_4 ys_5) (stR n_2 xs_3 m_4 ys_5) ((shl64 1 n_2) - 1) (by assumption) (by assumption) (by assumption)) (by kernel_rfl) rfl (by kernel_rfl) ?_
                                refine R.go 1 (R.anyF 5 (by kernel_rfl) (np_meet _) ?_)
                                refine R.anyX 6 (.agg [AI ((mem ((shl64 1 n_2) - 1)).length : Int), LI (prt (stR n_2 xs_3 m_4 ys_5) (mem ((shl64 1 n_2) - 1)))]) (by kernel_rfl) (np_meet _) ?_
                                refine R.anyX 7 (AI 0) (by kernel_rfl) (np_meet _) ?_
                                refine R.any1 9 (by kernel_rfl) (by kernel_rfl) ?_
                                refine R.go 2 (R.any1 10 (by kernel_rfl) (by kernel_rfl) ?_)
                                refine R.go 2 (R.any0 (by kernel_rfl) ?_)
                                exact R.met (by kernel_rfl) (by kernel_rfl)
                            · refine R.go 2 (R.any1 3 (by kernel_rfl) (by kernel_rfl) ?_)
                              refine R.call true (widthX0_c n_2 (by omega) (by omega)) (by kernel_rfl) rfl (by kernel_rfl) ?_
                              refine R.go 1 (R.any1 4 (by kernel_rfl) (by kernel_rfl) ?_)
                              refine R.call true (PP_impl (stN n_2 xs_3 m_4 ys_5) (stR n_2 xs_3 m_4 ys_5) ((shl64 1 n_2) - 1) (by assumption) (by assumption) (by assumption)) (by kernel_rfl) rfl (by kernel_rfl) ?_
                              refine R.go 1 (R.anyF 5 (by kernel_rfl) (np_meet _) ?_)
                              refine R.anyX 6 (.agg [AI ((mem ((shl64 1 n_2) - 1)).length : Int), LI (prt (stR n_2 xs_3 m_4 ys_5) (mem ((shl64 1 n_2) - 1)))]) (by kernel_rfl) (np_meet _) ?_
                              refine R.anyX 7 (AI 0) (by kernel_rfl) (np_meet _) ?_
                              refine R.any1 9 (by kernel_rfl) (by kernel_rfl) ?_
                              refine R.go 2 (R.any1 10 (by kernel_rfl) (by kernel_rfl) ?_)
                              refine R.go 2 (R.any0 (by kernel_rfl) ?_)
                              exact R.met (by kernel_rfl) (by kernel_rfl)
                          · refine R.call true (widthX0_c n_2 (by omega) (by omega)) (by kernel_rfl) rfl (by kernel_rfl) ?_
                            refine R.go 1 (R.any2 0 8 (by kernel_rfl) (by kernel_rfl) ?_ ?_)
                            · refine R.go 2 (R.any2 4 8 (by kernel_rfl) (by kernel_rfl) ?_ ?_)
                              · refine R.call true (PP_impl (stN n_2 xs_3 m_4 ys_5) (stR n_2 xs_3 m_4 ys_5) ((shl64 1 n_2) - 1) (by assumption) (by assumption) (by assumption)) (by kernel_rfl) rfl (by kernel_rfl) ?_
                                refine R.go 1 (R.anyF 5 (by kernel_rfl) (np_meet _) ?_)
                                refine R.anyX 6 (.agg [AI ((mem ((shl64 1 n_2) - 1)).length : Int), LI (prt (stR n_2 xs_3 m_4 ys_5) (mem ((shl64 1 n_2) - 1)))]) (by kernel_rfl) (np_meet _) ?_
                                refine R.anyX 7 (AI 0) (by kernel_rfl) (np_meet _) ?_
                                refine R.any1 8 (by kernel_rfl) (by kernel_rfl) ?_
                                refine R.go 2 (R.any1 9 (by kernel_rfl) (by kernel_rfl) ?_)
                                refine R.go 2 (R.any1 10 (by kernel_rfl) (by kernel_rfl) ?_)
                                refine R.go 2 (R.any0 (by kernel_rfl) ?_)
                                exact R.met (by kernel_rfl) (by kernel_rfl)
                              · refine R.go 2 (R.any1 4 (by kernel_rfl) (by kernel_rfl) ?_)
                                refine R.call true (PP_impl (stN n_2 xs_3 m_4 ys_5) (stR n_2 xs_3 m_4 ys_5) ((shl64 1 n_2) - 1) (by assumption) (by assumption) (by assumption)) (by kernel_rfl) rfl (by kernel_rfl) ?_
                                refine R.go 1 (R.anyF 5 (by kernel_rfl) (np_meet _) ?_)
                                refine R.anyX 6 (.agg [AI ((mem ((shl64 1 n_2) - 1)).length : Int), LI (prt (stR n_2 xs_3 m_4 ys_5) (mem ((shl64 1 n_2) - 1)))]) (by kernel_rfl) (np_meet _) ?_
                                refine R.anyX 7 (AI 0) (by kernel_rfl) (np_meet _) ?_
                                refine R.any1 9 (by kernel_rfl) (by kernel_rfl) ?_
                                refine R.go 2 (R.any1 10 (by kernel_rfl) (by kernel_rfl) ?_)
                                refine R.go 2 (R.any0 (by kernel_rfl) ?_)
                                exact R.met (by kernel_rfl) (by kernel_rfl)
                            · refine R.go 2 (R.any1 0 (by kernel_rfl) (by kernel_rfl) ?_)
                              refine R.go 2 (R.any1 4 (by kernel_rfl) (by kernel_rfl) ?_)
                              refine R.call true (PP_impl (stN n_2 xs_3 m_4 ys_5) (stR n_2 xs_3 m_4 ys_5) ((shl64 1 n_2) - 1) (by assumption) (by assumption) (by assumption)) (by kernel_rfl) rfl (by kernel_rfl) ?_
                              refine R.go 1 (R.anyF 5 (by kernel_rfl) (np_meet _) ?_)
                              refine R.anyX 6 (.agg [AI ((mem ((shl64 1 n_2) - 1)).length : Int), LI (prt (stR n_2 xs_3 m_4 ys_5) (mem ((shl64 1 n_2) - 1)))]) (by kernel_rfl) (np_meet _) ?_
                              refine R.anyX 7 (AI 0) (by kernel_rfl) (np_meet _) ?_
                              refine R.any1 9 (by kernel_rfl) (by kernel_rfl) ?_
                              refine R.go 2 (R.any1 10 (by kernel_rfl) (by kernel_rfl) ?_)
                              refine R.go 2 (R.any0 (by kernel_rfl) ?_)
                              exact R.met (by kernel_rfl) (by kernel_rfl)
                          · refine R.go 2 (R.any2 0 3 (by kernel_rfl) (by kernel_rfl) ?_ ?_)
                            · refine R.go 2 (R.any1 3 (by kernel_rfl) (by kernel_rfl) ?_)
                              refine R.call true (widthX0_c n_2 (by omega) (by omega)) (by kernel_rfl) rfl (by kernel_rfl) ?_
                              refine R.go 1 (R.any1 4 (by kernel_rfl) (by kernel_rfl) ?_)
                              refine R.call true (PP_impl (stN n_2 xs_3 m_4 ys_5) (stR n_2 xs_3 m_4 ys_5) ((shl64 1 n_2) - 1) (by assumption) (by assumption) (by assumption)) (by kernel_rfl) rfl (by kernel_rfl) ?_
                              refine R.go 1 (R.anyF 5 (by kernel_rfl) (np_meet _) ?_)
                              refine R.anyX 6 (.agg [AI ((mem ((shl64 1 n_2) - 1)).length : Int), LI (prt (stR n_2 xs_3 m_4 ys_5) (mem ((shl64 1 n_2) - 1)))]) (by kernel_rfl) (np_meet _) ?_
                              refine R.anyX 7 (AI 0) (by kernel_rfl) (np_meet _) ?_
                              refine R.any1 9 (by kernel_rfl) (by kernel_rfl) ?_
                              refine R.go 2 (R.any1 10 (by kernel_rfl) (by kernel_rfl) ?_)
                              refine R.go 2 (R.any0 (by kernel_rfl) ?_)
                              exact R.met (by kernel_rfl) (by kernel_rfl)
                            · refine R.call true (widthX0_c n_2 (by omega) (by omega)) (by kernel_rfl) rfl (by kernel_rfl) ?_
                              refine R.go 1 (R.any1 0 (by kernel_rfl) (by kernel_rfl) ?_)
                              refine R.go 2 (R.any1 4 (by kernel_rfl) (by kernel_rfl) ?_)
                              refine R.call true (PP_impl (stN n_2 xs_3 m_4 ys_5) (stR n_2 xs_3 m_4 ys_5) ((shl64 1 n_2) - 1) (by assumption) (by assumption) (by assumption)) (by kernel_rfl) rfl (by kernel_rfl) ?_
                              refine R.go 1 (R.anyF 5 (by kernel_rfl) (np_meet _) ?_)
                              refine R.anyX 6 (.agg [AI ((mem ((shl64 1 n_2) - 1)).length : Int), LI (prt (stR n_2 xs_3 m_4 ys_5) (mem ((shl64 1 n_2) - 1)))]) (by kernel_rfl) (np_meet _) ?_
                              refine R.anyX 7 (AI 0) (by kernel_rfl) (np_meet _) ?_
                              refine R.any1 9 (by kernel_rfl) (by kernel_rfl) ?_
                              refine R.go 2 (R.any1 10 (by kernel_rfl) (by kernel_rfl) ?_)
                              refine R.go 2 (R.any0 (by kernel_rfl) ?_)
                              exact R.met (by kernel_rfl) (by kernel_rfl)
                        · refine R.go 2 (R.any2 0 2 (by kernel_rfl) (by kernel_rfl) ?_ ?_)
                          · refine R.go 2 (R.any1 2 (by kernel_rfl) (by kernel_rfl) ?_)
                            refine R.go 2 (R.any1 3 (by kernel_rfl) (by kernel_rfl) ?_)
                            refine R.call true (widthX0_c n_2 (by omega) (by omega)) (by kernel_rfl) rfl (by kernel_rfl) ?_
                            refine R.go 1 (R.any1 4 (by kernel_rfl) (by kernel_rfl) ?_)
                            refine R.call true (PP_impl (stN n_2 xs_3 m_4 ys_5) (stR n_2 xs_3 m_4 ys_5) ((shl64 1 n_2) - 1) (by assumption) (by assumption) (by assumption)) (by kernel_rfl) rfl (by kernel_rfl) ?_
                            refine R.go 1 (R.anyF 5 (by kernel_rfl) (np_meet _) ?_)
                            refine R.anyX 6 (.agg [AI ((mem ((shl64 1 n_2) - 1)).length : Int), LI (prt (stR n_2 xs_3 m_4 ys_5) (mem ((shl64 1 n_2) - 1)))]) (by kernel_rfl) (np_meet _) ?_
                            refine R.anyX 7 (AI 0) (by kernel_rfl) (np_meet _) ?_
                            refine R.any1 9 (by kernel_rfl) (by kernel_rfl) ?_
                            refine R.go 2 (R.any1 10 (by kernel_rfl) (by kernel_rfl) ?_)
                            refine R.go 2 (R.any0 (by kernel_rfl) ?_)
                            exact R.met (by kernel_rfl) (by kernel_rfl)
                          · refine R.go 2 (R.any2 0 3 (by kernel_rfl) (by kernel_rfl) ?_ ?_)
                            · refine R.go 2 (R.any1 3 (by kernel_rfl) (by kernel_rfl) ?_)
                              refine R.call true (widthX0_c n_2 (by omega) (by omega)) (by kernel_rfl) rfl (by kernel_rfl) ?_
                              refine R.go 1 (R.any1 4 (by kernel_rfl) (by kernel_rfl) ?_)
                              refine R.call true (PP_impl (stN n_2 xs_3 m_4 ys_5) (stR n_2 xs_3 m_4 ys_5) ((shl64 1 n_2) - 1) (by assumption) (by assumption) (by assumption)) (by kernel_rfl) rfl (by kernel_rfl) ?_
                              refine R.go 1 (R.anyF 5 (by kernel_rfl) (np_meet _) ?_)
                              refine R.anyX 6 (.agg [AI ((mem ((shl64 1 n_2) - 1)).length : Int), LI (prt (stR n_2 xs_3 m_4 ys_5) (mem ((shl64 1 n_2) - 1)))]) (by kernel_rfl) (np_meet _) ?_
                              refine R.anyX 7 (AI 0) (by kernel_rfl) (np_meet _) ?_
                              refine R.any1 9 (by kernel_rfl) (by kernel_rfl) ?_
                              refine R.go 2 (R.any1 10 (by kernel_rfl) (by kernel_rfl) ?_)
                              refine R.go 2 (R.any0 (by kernel_rfl) ?_)
                              exact R.met (by kernel_rfl) (by kernel_rfl)
                            · refine R.call true (widthX0_c n_2 (by omega) (by omega)) (by kernel_rfl) rfl (by kernel_rfl) ?_
                              refine R.go 1 (R.any1 0 (by kernel_rfl) (by kernel_rfl) ?_)
                              refine R.go 2 (R.any1 4 (by kernel_rfl) (by kernel_rfl) ?_)
                              refine R.call true (PP_impl (stN n_2 xs_3 m_4 ys_5) (stR n_2 xs_3 m_4 ys_5) ((shl64 1 n_2) - 1) (by assumption) (by assumption) (by assumption)) (by kernel_rfl) rfl (by kernel_rfl) ?_
                              refine R.go 1 (R.anyF 5 (by kernel_rfl) (np_meet _) ?_)
                              refine R.anyX 6 (.agg [AI ((mem ((shl64 1 n_2) - 1)).length : Int), LI (prt (stR n_2 xs_3 m_4 ys_5) (mem ((shl64 1 n_2) - 1)))]) (by kernel_rfl) (np_meet _) ?_
                              refine R.anyX 7 (AI 0) (by kernel_rfl) (np_meet _) ?_
                              refine R.any1 9 (by kernel_rfl) (by kernel_rfl) ?_
                              refine R.go 2 (R.any1 10 (by kernel_rfl) (by kernel_rfl) ?_)
                              refine R.go 2 (R.any0 (by kernel_rfl) ?_)
                              exact R.met (by kernel_rfl) (by kernel_rfl)
                      · refine R.go 2 ?_
                        by_cases c32 : ((stN n_2 xs_3 m_4 ys_5) : Int) > 6
                        · refine R.go 1 (R.call true (LP_big (stN n_2 xs_3 m_4 ys_5) (stR n_2 xs_3 m_4 ys_5) (by assumption) c32) (by kernel_rfl) rfl (by kernel_rfl) ?_)
                          refine R.go 9 (R.nilB 5 1 2 1 (by kernel_rfl) ?_)
                          first | (have hlp := law_lp hS (by assumption) (by assumption : 0 = (stN n_2 xs_3 m_4 ys_5) ∧ LST (stN n_2 xs_3 m_4 ys_5) (stR n_2 xs_3 m_4 ys_5) [] (stR n_2 xs_3 m_4 ys_5) [] ∧ _)) | (have hlp : okPo 0 [] = true ∧ ¬ (0 : Int) > 6 := ⟨po_zero, by decide⟩)
                          have hlp1 := hlp.1
                          have hlp2 := hlp.2
                          refine R.go 1 ?_
                          by_cases c33 : (0 : Int) > 6
                          · first | (have hlp := law_lp hS (by assumption) (by assumption : 0 = (stN n_2 xs_3 m_4 ys_5) ∧ LST (stN n_2 xs_3 m_4 ys_5) (stR n_2 xs_3 m_4 ys_5) [] (stR n_2 xs_3 m_4 ys_5) [] ∧ _)) | (have hlp : okPo 0 [] = true ∧ ¬ (0 : Int) > 6 := ⟨po_zero, by decide⟩)
                            have hlp1 := hlp.1
                            have hlp2 := hlp.2
                            refine R.frz 6 (by kernel_rfl) ?_
                            refine R.call true (LP_big 0 [] (by assumption) c33) (by kernel_rfl) rfl (by kernel_rfl) ?_
                            refine R.go 14 (R.call true (sameP_c ((mem ((shl64 1 n_2) - 1)).length : Int) (prt (stR n_2 xs_3 m_4 ys_5) (mem ((shl64 1 n_2) - 1))) n_2 xs_3 (by first | omega | (simp <;> omega)) (by first | omega | (simp <;> omega))) (by kernel_rfl) rfl (by kernel_rfl) ?_)
                            refine R.go 2 ?_
                            by_cases c34 : ((mem ((shl64 1 n_2) - 1)).length : Int) = n_2 ∧ (prt (stR n_2 xs_3 m_4 ys_5) (mem ((shl64 1 n_2) - 1))) = xs_3
                            · refine R.want (decide (((mem ((shl64 1 n_2) - 1)).length : Int) = n_2 ∧ (prt (stR n_2 xs_3 m_4 ys_5) (mem ((shl64 1 n_2) - 1))) = xs_3)) true (by kernel_rfl) (dT c34) ?_
                              refine R.go 1 (R.want (decide (((mem ((shl64 1 n_2) - 1)).length : Int) = n_2 ∧ (prt (stR n_2 xs_3 m_4 ys_5) (mem ((shl64 1 n_2) - 1))) = xs_3)) true (by kernel_rfl) (dT c34) ?_)
                              refine R.go 1 (R.want (decide (((mem ((shl64 1 n_2) - 1)).length : Int) = n_2 ∧ (prt (stR n_2 xs_3 m_4 ys_5) (mem ((shl64 1 n_2) - 1))) = xs_3)) true (by kernel_rfl) (dT c34) ?_)
                              refine R.go 8 (R.want (decide (((mem ((shl64 1 n_2) - 1)).length : Int) = n_2 ∧ (prt (stR n_2 xs_3 m_4 ys_5) (mem ((shl64 1 n_2) - 1))) = xs_3)) true (by kernel_rfl) (dT c34) ?_)
                              refine R.go 1 (R.pick (decide (((mem ((shl64 1 n_2) - 1)).length : Int) = n_2 ∧ (prt (stR n_2 xs_3 m_4 ys_5) (mem ((shl64 1 n_2) - 1))) = xs_3)) true (by kernel_rfl) (dT c34) (by kernel_rfl) ?_)
                              exact R.go 2 (R.retE (.bool true) (by kernel_rfl) (by kernel_rfl) (by rfl))
                            · refine R.skp (decide (((mem ((shl64 1 n_2) - 1)).length : Int) = n_2 ∧ (prt (stR n_2 xs_3 m_4 ys_5) (mem ((shl64 1 n_2) - 1))) = xs_3)) true (by kernel_rfl) (dF c34) (by kernel_rfl) ?_
                              refine R.skp (decide (((mem ((shl64 1 n_2) - 1)).length : Int) = n_2 ∧ (prt (stR n_2 xs_3 m_4 ys_5) (mem ((shl64 1 n_2) - 1))) = xs_3)) true (by kernel_rfl) (dF c34) (by kernel_rfl) ?_
                              refine R.skp (decide (((mem ((shl64 1 n_2) - 1)).length : Int) = n_2 ∧ (prt (stR n_2 xs_3 m_4 ys_5) (mem ((shl64 1 n_2) - 1))) = xs_3)) true (by kernel_rfl) (dF c34) (by kernel_rfl) ?_
                              refine R.go 7 (R.skp (decide (((mem ((shl64 1 n_2) - 1)).length : Int) = n_2 ∧ (prt (stR n_2 xs_3 m_4 ys_5) (mem ((shl64 1 n_2) - 1))) = xs_3)) true (by kernel_rfl) (dF c34) (by kernel_rfl) ?_)
                              refine R.pick (decide (((mem ((shl64 1 n_2) - 1)).length : Int) = n_2 ∧ (prt (stR n_2 xs_3 m_4 ys_5) (mem ((shl64 1 n_2) - 1))) = xs_3)) false (by kernel_rfl) (dF c34) (by kernel_rfl) ?_
                              exact R.go 2 (R.retE (.bool false) (by kernel_rfl) (by kernel_rfl) (by first | (first | rfl | exact absurd (And.intro rfl rfl) (by assumption) | exact absurd hp3 (by assumption) | exact absurd hw (by assumption) | exact congrArg AV.bool (decide_eq_true (law_l hS (by assumption) (by assumption))) | exact congrArg AV.bool (decide_eq_true hp3) | (exfalso; omega)) | (exfalso; omega)))
                          · first | (have hlp := law_lp hS (by assumption) (by assumption : 0 = (stN n_2 xs_3 m_4 ys_5) ∧ LST (stN n_2 xs_3 m_4 ys_5) (stR n_2 xs_3 m_4 ys_5) [] (stR n_2 xs_3 m_4 ys_5) [] ∧ _)) | (have hlp : okPo 0 [] = true ∧ ¬ (0 : Int) > 6 := ⟨po_zero, by decide⟩)
                            have hlp1 := hlp.1
                            have hlp2 := hlp.2
                            refine R.frz 6 (by kernel_rfl) ?_
                            refine R.callX0 (LP_impl 0 [] (by assumption) (by omega)) (by kernel_rfl) (by rintro _ _ ⟨_, _, _, rfl, rfl⟩; rfl) (by kernel_rfl) (by kernel_rfl) ?_
                            rintro _ ⟨k_35, r_36, f37, rfl, _⟩
                            refine R.go 14 (R.call true (sameP_c ((mem ((shl64 1 n_2) - 1)).length : Int) (prt (stR n_2 xs_3 m_4 ys_5) (mem ((shl64 1 n_2) - 1))) n_2 xs_3 (by first | omega | (simp <;> omega)) (by first | omega | (simp <;> omega))) (by kernel_rfl) rfl (by kernel_rfl) ?_)
                            refine R.go 2 ?_
                            by_cases c38 : ((mem ((shl64 1 n_2) - 1)).length : Int) = n_2 ∧ (prt (stR n_2 xs_3 m_4 ys_5) (mem ((shl64 1 n_2) - 1))) = xs_3
                            · refine R.want (decide (((mem ((shl64 1 n_2) - 1)).length : Int) = n_2 ∧ (prt (stR n_2 xs_3 m_4 ys_5) (mem ((shl64 1 n_2) - 1))) = xs_3)) true (by kernel_rfl) (dT c38) ?_
                              refine R.go 1 (R.want (decide (((mem ((shl64 1 n_2) - 1)).length : Int) = n_2 ∧ (prt (stR n_2 xs_3 m_4 ys_5) (mem ((shl64 1 n_2) - 1))) = xs_3)) true (by kernel_rfl) (dT c38) ?_)
                              refine R.go 1 (R.want (decide (((mem ((shl64 1 n_2) - 1)).length : Int) = n_2 ∧ (prt (stR n_2 xs_3 m_4 ys_5) (mem ((shl64 1 n_2) - 1))) = xs_3)) true (by kernel_rfl) (dT c38) ?_)
                              refine R.go 8 (R.want (decide (((mem ((shl64 1 n_2) - 1)).length : Int) = n_2 ∧ (prt (stR n_2 xs_3 m_4 ys_5) (mem ((shl64 1 n_2) - 1))) = xs_3)) true (by kernel_rfl) (dT c38) ?_)
                              refine R.go 1 (R.pick (decide (((mem ((shl64 1 n_2) - 1)).length : Int) = n_2 ∧ (prt (stR n_2 xs_3 m_4 ys_5) (mem ((shl64 1 n_2) - 1))) = xs_3)) true (by kernel_rfl) (dT c38) (by kernel_rfl) ?_)
                              exact R.go 2 (R.retE (.bool true) (by kernel_rfl) (by kernel_rfl) (by rfl))
                            · refine R.skp (decide (((mem ((shl64 1 n_2) - 1)).length : Int) = n_2 ∧ (prt (stR n_2 xs_3 m_4 ys_5) (mem ((shl64 1 n_2) - 1))) = xs_3)) true (by kernel_rfl) (dF c38) (by kernel_rfl) ?_
                              refine R.skp (decide (((mem ((shl64 1 n_2) - 1)).length : Int) = n_2 ∧ (prt (stR n_2 xs_3 m_4 ys_5) (mem ((shl64 1 n_2) - 1))) = xs_3)) true (by kernel_rfl) (dF c38) (by kernel_rfl) ?_
                              refine R.skp (decide (((mem ((shl64 1 n_2) - 1)).length : Int) = n_2 ∧ (prt (stR n_2 xs_3 m_4 ys_5) (mem ((shl64 1 n_2) - 1))) = xs_3)) true (by kernel_rfl) (dF c38) (by kernel_rfl) ?_
                              refine R.go 7 (R.skp (decide (((mem ((shl64 1 n_2) - 1)).length : Int) = n_2 ∧ (prt (stR n_2 xs_3 m_4 ys_5) (mem ((shl64 1 n_2) - 1))) = xs_3)) true (by kernel_rfl) (dF c38) (by kernel_rfl) ?_)
                              refine R.pick (decide (((mem ((shl64 1 n_2) - 1)).length : Int) = n_2 ∧ (prt (stR n_2 xs_3 m_4 ys_5) (mem ((shl64 1 n_2) - 1))) = xs_3)) false (by kernel_rfl) (dF c38) (by kernel_rfl) ?_
                              exact R.go 2 (R.retE (.bool false) (by kernel_rfl) (by kernel_rfl) (by first | (first | rfl | exact absurd (And.intro rfl rfl) (by assumption) | exact absurd hp3 (by assumption) | exact absurd hw (by assumption) | exact congrArg AV.bool (decide_eq_true (law_l hS (by assumption) (by assumption))) | exact congrArg AV.bool (decide_eq_true hp3) | (exfalso; omega)) | (exfalso; omega)))
                        · refine R.go 1 (R.callX0 (LP_impl (stN n_2 xs_3 m_4 ys_5) (stR n_2 xs_3 m_4 ys_5) (by assumption) (by omega)) (by kernel_rfl) (by rintro _ _ ⟨_, _, _, rfl, rfl⟩; rfl) (by kernel_rfl) (by kernel_rfl) ?_)
                          rintro _ ⟨k_39, r_40, f41, rfl, _⟩
                          first | (have hlp := law_lp hS (by assumption) (by assumption : k_39 = (stN n_2 xs_3 m_4 ys_5) ∧ LST (stN n_2 xs_3 m_4 ys_5) (stR n_2 xs_3 m_4 ys_5) [] (stR n_2 xs_3 m_4 ys_5) r_40 ∧ _)) | (have hlp : okPo 0 [] = true ∧ ¬ (0 : Int) > 6 := ⟨po_zero, by decide⟩)
                          have hlp1 := hlp.1
                          have hlp2 := hlp.2
                          refine R.go 10 ?_
                          by_cases c42 : (k_39 : Int) > 6
                          · first | (have hlp := law_lp hS (by assumption) (by assumption : k_39 = (stN n_2 xs_3 m_4 ys_5) ∧ LST (stN n_2 xs_3 m_4 ys_5) (stR n_2 xs_3 m_4 ys_5) [] (stR n_2 xs_3 m_4 ys_5) r_40 ∧ _)) | (have hlp : okPo 0 [] = true ∧ ¬ (0 : Int) > 6 := ⟨po_zero, by decide⟩)
                            have hlp1 := hlp.1
                            have hlp2 := hlp.2
                            refine R.call true (LP_big k_39 r_40 (by assumption) c42) (by kernel_rfl) rfl (by kernel_rfl) ?_
                            refine R.go 14 (R.call true (sameP_c ((mem ((shl64 1 n_2) - 1)).length : Int) (prt (stR n_2 xs_3 m_4 ys_5) (mem ((shl64 1 n_2) - 1))) n_2 xs_3 (by first | omega | (simp <;> omega)) (by first | omega | (simp <;> omega))) (by kernel_rfl) rfl (by kernel_rfl) ?_)
                            refine R.go 2 ?_
                            by_cases c43 : ((mem ((shl64 1 n_2) - 1)).length : Int) = n_2 ∧ (prt (stR n_2 xs_3 m_4 ys_5) (mem ((shl64 1 n_2) - 1))) = xs_3
                            · refine R.want (decide (((mem ((shl64 1 n_2) - 1)).length : Int) = n_2 ∧ (prt (stR n_2 xs_3 m_4 ys_5) (mem ((shl64 1 n_2) - 1))) = xs_3)) true (by kernel_rfl) (dT c43) ?_
                              refine R.go 1 (R.want (decide (((mem ((shl64 1 n_2) - 1)).length : Int) = n_2 ∧ (prt (stR n_2 xs_3 m_4 ys_5) (mem ((shl64 1 n_2) - 1))) = xs_3)) true (by kernel_rfl) (dT c43) ?_)
                              refine R.go 1 (R.want (decide (((mem ((shl64 1 n_2) - 1)).length : Int) = n_2 ∧ (prt (stR n_2 xs_3 m_4 ys_5) (mem ((shl64 1 n_2) - 1))) = xs_3)) true (by kernel_rfl) (dT c43) ?_)
                              refine R.go 8 (R.want (decide (((mem ((shl64 1 n_2) - 1)).length : Int) = n_2 ∧ (prt (stR n_2 xs_3 m_4 ys_5) (mem ((shl64 1 n_2) - 1))) = xs_3)) true (by kernel_rfl) (dT c43) ?_)
                              refine R.go 1 (R.pick (decide (((mem ((shl64 1 n_2) - 1)).length : Int) = n_2 ∧ (prt (stR n_2 xs_3 m_4 ys_5) (mem ((shl64 1 n_2) - 1))) = xs_3)) true (by kernel_rfl) (dT c43) (by kernel_rfl) ?_)
                              exact R.go 2 (R.retE (.bool false) (by kernel_rfl) (by kernel_rfl) (by first | (first | rfl | exact absurd (And.intro rfl rfl) (by assumption) | exact absurd hp3 (by assumption) | exact absurd hw (by assumption) | exact congrArg AV.bool (decide_eq_true (law_l hS (by assumption) (by assumption))) | exact congrArg AV.bool (decide_eq_true hp3) | (exfalso; omega)) | (exfalso; omega)))
                            · refine R.skp (decide (((mem ((shl64 1 n_2) - 1)).length : Int) = n_2 ∧ (prt (stR n_2 xs_3 m_4 ys_5) (mem ((shl64 1 n_2) - 1))) = xs_3)) true (by kernel_rfl) (dF c43) (by kernel_rfl) ?_
                              refine R.skp (decide (((mem ((shl64 1 n_2) - 1)).length : Int) = n_2 ∧ (prt (stR n_2 xs_3 m_4 ys_5) (mem ((shl64 1 n_2) - 1))) = xs_3)) true (by kernel_rfl) (dF c43) (by kernel_rfl) ?_
                              refine R.skp (decide (((mem ((shl64 1 n_2) - 1)).length : Int) = n_2 ∧ (prt (stR n_2 xs_3 m_4 ys_5) (mem ((shl64 1 n_2) - 1))) = xs_3)) true (by kernel_rfl) (dF c43) (by kernel_rfl) ?_
                              refine R.go 7 (R.skp (decide (((mem ((shl64 1 n_2) - 1)).length : Int) = n_2 ∧ (prt (stR n_2 xs_3 m_4 ys_5) (mem ((shl64 1 n_2) - 1))) = xs_3)) true (by kernel_rfl) (dF c43) (by kernel_rfl) ?_)
                              refine R.pick (decide (((mem ((shl64 1 n_2) - 1)).length : Int) = n_2 ∧ (prt (stR n_2 xs_3 m_4 ys_5) (mem ((shl64 1 n_2) - 1))) = xs_3)) false (by kernel_rfl) (dF c43) (by kernel_rfl) ?_
                              exact R.go 2 (R.retE (.bool false) (by kernel_rfl) (by kernel_rfl) (by first | (first | rfl | exact absurd (And.intro rfl rfl) (by assumption) | exact absurd hp3 (by assumption) | exact absurd hw (by assumption) | exact congrArg AV.bool (decide_eq_true (law_l hS (by assumption) (by assumption))) | exact congrArg AV.bool (decide_eq_true hp3) | (exfalso; omega)) | (exfalso; omega)))
                          · first | (have hlp := law_lp hS (by assumption) (by assumption : k_39 = (stN n_2 xs_3 m_4 ys_5) ∧ LST (stN n_2 xs_3 m_4 ys_5) (stR n_2 xs_3 m_4 ys_5) [] (stR n_2 xs_3 m_4 ys_5) r_40 ∧ _)) | (have hlp : okPo 0 [] = true ∧ ¬ (0 : Int) > 6 := ⟨po_zero, by decide⟩)
                            have hlp1 := hlp.1
                            have hlp2 := hlp.2
                            refine R.callX0 (LP_impl k_39 r_40 (by assumption) (by omega)) (by kernel_rfl) (by rintro _ _ ⟨_, _, _, rfl, rfl⟩; rfl) (by kernel_rfl) (by kernel_rfl) ?_
                            rintro _ ⟨k_44, r_45, f46, rfl, _⟩
                            refine R.go 14 (R.call true (sameP_c ((mem ((shl64 1 n_2) - 1)).length : Int) (prt (stR n_2 xs_3 m_4 ys_5) (mem ((shl64 1 n_2) - 1))) n_2 xs_3 (by first | omega | (simp <;> omega)) (by first | omega | (simp <;> omega))) (by kernel_rfl) rfl (by kernel_rfl) ?_)
                            refine R.go 2 ?_
                            by_cases c47 : ((mem ((shl64 1 n_2) - 1)).length : Int) = n_2 ∧ (prt (stR n_2 xs_3 m_4 ys_5) (mem ((shl64 1 n_2) - 1))) = xs_3
                            · refine R.want (decide (((mem ((shl64 1 n_2) - 1)).length : Int) = n_2 ∧ (prt (stR n_2 xs_3 m_4 ys_5) (mem ((shl64 1 n_2) - 1))) = xs_3)) true (by kernel_rfl) (dT c47) ?_
                              refine R.go 1 (R.want (decide (((mem ((shl64 1 n_2) - 1)).length : Int) = n_2 ∧ (prt (stR n_2 xs_3 m_4 ys_5) (mem ((shl64 1 n_2) - 1))) = xs_3)) true (by kernel_rfl) (dT c47) ?_)
                              refine R.go 1 (R.want (decide (((mem ((shl64 1 n_2) - 1)).length : Int) = n_2 ∧ (prt (stR n_2 xs_3 m_4 ys_5) (mem ((shl64 1 n_2) - 1))) = xs_3)) true (by kernel_rfl) (dT c47) ?_)
                              refine R.go 6 (R.call true (sameP_c k_44 r_45 k_39 r_40 (by first | omega | (simp <;> omega)) (by first | omega | (simp <;> omega))) (by kernel_rfl) rfl (by kernel_rfl) ?_)
                              refine R.go 1 (R.want (decide (((mem ((shl64 1 n_2) - 1)).length : Int) = n_2 ∧ (prt (stR n_2 xs_3 m_4 ys_5) (mem ((shl64 1 n_2) - 1))) = xs_3)) true (by kernel_rfl) (dT c47) ?_)
                              refine R.go 1 (R.pick (decide (((mem ((shl64 1 n_2) - 1)).length : Int) = n_2 ∧ (prt (stR n_2 xs_3 m_4 ys_5) (mem ((shl64 1 n_2) - 1))) = xs_3)) true (by kernel_rfl) (dT c47) (by kernel_rfl) ?_)
                              exact R.go 2 (R.retE (.bool (decide (k_44 = k_39 ∧ r_45 = r_40))) (by kernel_rfl) (by kernel_rfl) (by first | (first | rfl | exact absurd (And.intro rfl rfl) (by assumption) | exact absurd hp3 (by assumption) | exact absurd hw (by assumption) | exact congrArg AV.bool (decide_eq_true (law_l hS (by assumption) (by assumption))) | exact congrArg AV.bool (decide_eq_true hp3) | (exfalso; omega)) | (exfalso; omega)))
                            · refine R.skp (decide (((mem ((shl64 1 n_2) - 1)).length : Int) = n_2 ∧ (prt (stR n_2 xs_3 m_4 ys_5) (mem ((shl64 1 n_2) - 1))) = xs_3)) true (by kernel_rfl) (dF c47) (by kernel_rfl) ?_
                              refine R.skp (decide (((mem ((shl64 1 n_2) - 1)).length : Int) = n_2 ∧ (prt (stR n_2 xs_3 m_4 ys_5) (mem ((shl64 1 n_2) - 1))) = xs_3)) true (by kernel_rfl) (dF c47) (by kernel_rfl) ?_
                              refine R.skp (decide (((mem ((shl64 1 n_2) - 1)).length : Int) = n_2 ∧ (prt (stR n_2 xs_3 m_4 ys_5) (mem ((shl64 1 n_2) - 1))) = xs_3)) true (by kernel_rfl) (dF c47) (by kernel_rfl) ?_
                              refine R.go 7 (R.skp (decide (((mem ((shl64 1 n_2) - 1)).length : Int) = n_2 ∧ (prt (stR n_2 xs_3 m_4 ys_5) (mem ((shl64 1 n_2) - 1))) = xs_3)) true (by kernel_rfl) (dF c47) (by kernel_rfl) ?_)
                              refine R.pick (decide (((mem ((shl64 1 n_2) - 1)).length : Int) = n_2 ∧ (prt (stR n_2 xs_3 m_4 ys_5) (mem ((shl64 1 n_2) - 1))) = xs_3)) false (by kernel_rfl) (dF c47) (by kernel_rfl) ?_
                              exact R.go 2 (R.retE (.bool false) (by kernel_rfl) (by kernel_rfl) (by first | (first | rfl | exact absurd (And.intro rfl rfl) (by assumption) | exact absurd hp3 (by assumption) | exact absurd hw (by assumption) | exact congrArg AV.bool (decide_eq_true (law_l hS (by assumption) (by assumption))) | exact congrArg AV.bool (decide_eq_true hp3) | (exfalso; omega)) | (exfalso; omega)))
                  · refine R.skp (!decide (((((smC n_2 m_4) + 0) + 0) + 0) = 0)) false (by kernel_rfl) (nT c30) (by kernel_rfl) ?_
                    refine R.skp (!decide (((((smC n_2 m_4) + 0) + 0) + 0) = 0)) false (by kernel_rfl) (nT c30) (by kernel_rfl) ?_
                    refine R.skp (!decide (((((smC n_2 m_4) + 0) + 0) + 0) = 0)) false (by kernel_rfl) (nT c30) (by kernel_rfl) ?_
                    refine R.skp (!decide (((((smC n_2 m_4) + 0) + 0) + 0) = 0)) false (by kernel_rfl) (nT c30) (by kernel_rfl) ?_
                    refine R.skp (!decide (((((smC n_2 m_4) + 0) + 0) + 0) = 0)) false (by kernel_rfl) (nT c30) (by kernel_rfl) ?_
                    refine R.pick (!decide (((((smC n_2 m_4) + 0) + 0) + 0) = 0)) true (by kernel_rfl) (nT c30) (by kernel_rfl) ?_
                    exact R.go 6 (R.retE (.bool false) (by kernel_rfl) (by kernel_rfl) (by first | (first | rfl | exact absurd (And.intro rfl rfl) (by assumption) | exact absurd hp3 (by assumption) | exact absurd hw (by assumption) | exact congrArg AV.bool (decide_eq_true (law_l hS (by assumption) (by assumption))) | exact congrArg AV.bool (decide_eq_true hp3) | (exfalso; omega)) | (exfalso; omega)))
          · refine R.skp (!decide (((depI n_2 xs_3).length : Int) = n_2)) false (by kernel_rfl) (nT c11) (by kernel_rfl) ?_
            refine R.skp (!decide (((depI n_2 xs_3).length : Int) = n_2)) false (by kernel_rfl) (nT c11) (by kernel_rfl) ?_
            refine R.skp (!decide (((depI n_2 xs_3).length : Int) = n_2)) false (by kernel_rfl) (nT c11) (by kernel_rfl) ?_
            refine R.skp (!decide (((depI n_2 xs_3).length : Int) = n_2)) false (by kernel_rfl) (nT c11) (by kernel_rfl) ?_
            refine R.skp (!decide (((depI n_2 xs_3).length : Int) = n_2)) false (by kernel_rfl) (nT c11) (by kernel_rfl) ?_
            refine R.pick (!decide (((depI n_2 xs_3).length : Int) = n_2)) true (by kernel_rfl) (nT c11) (by kernel_rfl) ?_
            exact R.go 6 (R.retE (.bool false) (by kernel_rfl) (by kernel_rfl) (by first | (first | rfl | exact absurd (And.intro rfl rfl) (by assumption) | exact absurd hp3 (by assumption) | exact absurd hw (by assumption) | exact congrArg AV.bool (decide_eq_true (law_l hS (by assumption) (by assumption))) | exact congrArg AV.bool (decide_eq_true hp3) | (exfalso; omega)) | (exfalso; omega)))
        · refine R.skp (!decide (((depI (stN n_2 xs_3 m_4 ys_5) (stR n_2 xs_3 m_4 ys_5)).length : Int) = (n_2 + m_4))) false (by kernel_rfl) (nT c10) (by kernel_rfl) ?_
          refine R.skp (!decide (((depI (stN n_2 xs_3 m_4 ys_5) (stR n_2 xs_3 m_4 ys_5)).length : Int) = (n_2 + m_4))) false (by kernel_rfl) (nT c10) (by kernel_rfl) ?_
          refine R.skp (!decide (((depI (stN n_2 xs_3 m_4 ys_5) (stR n_2 xs_3 m_4 ys_5)).length : Int) = (n_2 + m_4))) false (by kernel_rfl) (nT c10) (by kernel_rfl) ?_
          refine R.skp (!decide (((depI (stN n_2 xs_3 m_4 ys_5) (stR n_2 xs_3 m_4 ys_5)).length : Int) = (n_2 + m_4))) false (by kernel_rfl) (nT c10) (by kernel_rfl) ?_
          refine R.skp (!decide (((depI (stN n_2 xs_3 m_4 ys_5) (stR n_2 xs_3 m_4 ys_5)).length : Int) = (n_2 + m_4))) false (by kernel_rfl) (nT c10) (by kernel_rfl) ?_
          refine R.pick (!decide (((depI (stN n_2 xs_3 m_4 ys_5) (stR n_2 xs_3 m_4 ys_5)).length : Int) = (n_2 + m_4))) true (by kernel_rfl) (nT c10) (by kernel_rfl) ?_
          exact R.go 13 (R.retE (.bool false) (by kernel_rfl) (by kernel_rfl) (by first | (first | rfl | exact absurd (And.intro rfl rfl) (by assumption) | exact absurd hp3 (by assumption) | exact absurd hw (by assumption) | exact congrArg AV.bool (decide_eq_true (law_l hS (by assumption) (by assumption))) | exact congrArg AV.bool (decide_eq_true hp3) | (exfalso; omega)) | (exfalso; omega)))

end Go.Proofs.Ytogehjciaamcfaa
