/- Texts of the proof: UU2. -/
import Derived.Test.YtogehjciaamcfaaPartJ

/-! The law FnUpsets. -/
namespace Go.Proofs.Ytogehjciaamcfaa
open Go.RowKit Go.Abs

theorem po_ok {n : Int} {xs : List Int} (h : poC n xs = 0) : okPo n xs = true := by
  unfold poC at h
  split at h
  · assumption
  · omega
theorem po_0 {n : Int} {xs : List Int} (h : okPo n xs = true) : poC n xs = 0 := by rw [poC, if_pos h]
theorem memT {l : List Int} {x : Int} {i : Nat} (h : i < l.length) (e : l.getD i 0 = x) : true = decide (x ∈ l) := by
  refine (decide_eq_true ?_).symm
  rw [← e, List.getD_eq_getElem?_getD, List.getElem?_eq_getElem h]
  exact List.getElem_mem h
theorem memF {l : List Int} {x : Int} {i : Nat} (h : ∀ j, j < i → ¬ l.getD j 0 = x) (hi : l.length ≤ i) : false = decide (x ∈ l) := by
  refine (decide_eq_false fun hm => ?_).symm
  obtain ⟨j, hj, e⟩ := List.getElem_of_mem hm
  refine h j (by omega) ?_
  rw [List.getD_eq_getElem?_getD, List.getElem?_eq_getElem hj]
  exact e
theorem mem_ix {l : List Int} {k : Nat} (h : k < l.length) : l.getD k 0 ∈ l := by
  rw [List.getD_eq_getElem?_getD, List.getElem?_eq_getElem h]
  exact List.getElem_mem h
theorem outR_in {n m : Int} (h0 : 0 ≤ n) (h8 : n ≤ 8) (h : InM n.toNat m) : outR n m = false := outR_no h0 h8 ((inM_lt h0 h8).1 h)
section
variable {n : Int} {xs : List Int} (hP : okPo n xs = true)
include hP
theorem ul_1 : (0 ≤ n ∧ n ≤ 8 ∧ (xs.length : Int) = n) ∧ (1 ≤ shl64 1 n ∧ shl64 1 n ≤ 256) ∧ poC n (invA xs xs.length) = 0 ∧ (anR n xs).length = (upR n xs).length ∧ (upR n (invA xs xs.length)).length = (upR n xs).length ∧ 1 ≤ (upR n xs).length ∧ (upR n xs).length ≤ 256 ∧ (invA xs xs.length).length = xs.length := by
  obtain ⟨h0, h8, hl, _⟩ := po_rel hP
  exact ⟨⟨h0, h8, hl⟩, shl_8 h0 h8, po_0 (inv_po hP), len_anti hP, len_dual hP, up_pos hP, upR_len _ _, invA_len _ _⟩
theorem ul_2 {x : Int} (hx : x ∈ upR n xs) : InM n.toNat x ∧ outR n x = false ∧ img xs x xs.length = x ∧ boxB xs x xs.length = x := by
  obtain ⟨h0, h8, _⟩ := po_rel hP
  have hm := ((up_iff hP).1 hx).1
  exact ⟨hm, outR_in h0 h8 hm, img_id hP hx, box_id hP hx⟩
theorem ul_3 {m : Int} (h0m : 0 ≤ m) (h1m : m < shl64 1 n) : InM n.toNat m ∧ outR n m = false ∧ img xs m xs.length ∈ upR n xs ∧ boxB xs m xs.length ∈ upR n xs ∧ bnot m (img xs m xs.length) = 0 ∧ bnot (boxB xs m xs.length) m = 0 := by
  obtain ⟨h0, h8, _⟩ := po_rel hP
  have hm := (inM_lt h0 h8).2 ⟨h0m, h1m⟩
  exact ⟨hm, outR_in h0 h8 hm, img_up hP hm, box_up hP hm, sub_img hP hm, sub_box hP hm⟩
end

theorem pCodeT_c (n : Int) (xs : List Int) (m : Int) (hP : okPo n xs = true) (ho : outR n m = false) : CallA Try.prog 40 [.agg [AI n, LI xs], AI m] (AI 0) := by
  have hF : okFr n xs = true := okPo_fr hP
  have hbr := okFr_rel hF
  have hb : 0 ≤ n ∧ n ≤ 8 ∧ (xs.length : Int) = n := ⟨hbr.1, hbr.2.1, hbr.2.2.1⟩
  refine CallA.of Try.func40 rfl (by kernel_rfl) ?_
  refine R.go 10 (R.call true (isPoset_c n xs (by first | omega | (simp <;> omega))) (by kernel_rfl) rfl (by kernel_rfl) ?_)
  refine R.go 3 (R.els (!(okPo n xs)) (by kernel_rfl) (bnF hP) ?_)
  refine R.go 5 (R.call true (isMask_c n m) (by kernel_rfl) rfl (by kernel_rfl) ?_)
  refine R.go 3 (R.condM (!(outR n m)) (by kernel_rfl) (fun c1 => ?_) (fun c1 => ?_))
  · exact R.go 4 (R.retE (AI 2) (by kernel_rfl) (by kernel_rfl) (by first | (first | rfl | exact absurd (ho.symm.trans (by assumption : _ = true)) (by decide) | exact absurd (hP.symm.trans (by assumption : _ = false)) (by decide) | (exfalso; have hq := (by assumption : (!(outR n m)) = false); rw [ho] at hq; exact absurd hq (by decide))) | (exfalso; omega)))
  · exact R.go 6 (R.retE (AI 0) (by kernel_rfl) (by kernel_rfl) (by rfl))

theorem UO_impl (n : Int) (xs : List Int) (m : Int) (hP : okPo n xs = true) (hm : InM n.toNat m) (ho : outR n m = false) : CallA Try.prog 14 [.agg [AI n, LI xs], AI m] (.tup [AI (img xs m xs.length), AI 0]) := by
  have hF : okFr n xs = true := okPo_fr hP
  have hbr := okFr_rel hF
  have hb : 0 ≤ n ∧ n ≤ 8 ∧ (xs.length : Int) = n := ⟨hbr.1, hbr.2.1, hbr.2.2.1⟩
  refine CallA.of Try.func14 rfl (by kernel_rfl) ?_
  refine R.go 11 (R.call true (pCodeT_c n xs m hP ho) (by kernel_rfl) rfl (by kernel_rfl) ?_)
  refine R.go 14 (R.call true (imageI_c n xs m hF hm) (by kernel_rfl) rfl (by kernel_rfl) ?_)
  exact R.go 3 (R.retE (.tup [AI (img xs m xs.length), AI 0]) (by kernel_rfl) (by kernel_rfl) (by rfl))

theorem IO_impl (n : Int) (xs : List Int) (m : Int) (hP : okPo n xs = true) (hm : InM n.toNat m) (ho : outR n m = false) : CallA Try.prog 15 [.agg [AI n, LI xs], AI m] (.tup [AI (boxB xs m xs.length), AI 0]) := by
  have hF : okFr n xs = true := okPo_fr hP
  have hbr := okFr_rel hF
  have hb : 0 ≤ n ∧ n ≤ 8 ∧ (xs.length : Int) = n := ⟨hbr.1, hbr.2.1, hbr.2.2.1⟩
  refine CallA.of Try.func15 rfl (by kernel_rfl) ?_
  refine R.go 11 (R.call true (pCodeT_c n xs m hP ho) (by kernel_rfl) rfl (by kernel_rfl) ?_)
  refine R.go 14 (R.call true (box_c xs m (by first | omega | (simp <;> omega))) (by kernel_rfl) rfl (by kernel_rfl) ?_)
  exact R.go 3 (R.retE (.tup [AI (boxB xs m xs.length), AI 0]) (by kernel_rfl) (by kernel_rfl) (by rfl))

theorem posetOfU_c (xs : List Int) : CallA Try.prog 38 [LI xs] (.agg [AI xs.length, LI xs]) := by
  refine CallA.of Try.func38 rfl (by kernel_rfl) ?_
  refine R.go 7 (R.call true (size_c xs) (by kernel_rfl) rfl (by kernel_rfl) ?_)
  exact R.go 4 (R.retE (.agg [AI xs.length, LI xs]) (by kernel_rfl) (by kernel_rfl) (by rfl))

theorem DP_impl (n : Int) (xs : List Int) (hP : okPo n xs = true) : CallA Try.prog 11 [.agg [AI n, LI xs]] (.tup [.agg [AI n, LI (invA xs xs.length)], AI 0]) := by
  have hF : okFr n xs = true := okPo_fr hP
  have hbr := okFr_rel hF
  have hb : 0 ≤ n ∧ n ≤ 8 ∧ (xs.length : Int) = n := ⟨hbr.1, hbr.2.1, hbr.2.2.1⟩
  have hz : invA xs xs.length = invA xs xs.length := rfl
  have hil := invA_len xs xs.length
  have hin : (((invA xs xs.length).length : Nat) : Int) = n := by omega
  refine CallA.of Try.func11 rfl (by kernel_rfl) ?_
  refine R.go 10 (R.call true (isPoset_c n xs (by first | omega | (simp <;> omega))) (by kernel_rfl) rfl (by kernel_rfl) ?_)
  refine R.go 2 (R.els (!(okPo n xs)) (by kernel_rfl) (bnF hP) ?_)
  refine R.go 5 (R.call true (inverseG_c n xs (invA xs xs.length) hF (by assumption)).frz (by kernel_rfl) rfl (by kernel_rfl) ?_)
  refine R.call true (posetOfU_c (invA xs xs.length)) (by kernel_rfl) rfl (by kernel_rfl) ?_
  exact R.go 3 (R.retE (.tup [.agg [AI ((invA xs xs.length).length), LI (invA xs xs.length)], AI 0]) (by kernel_rfl) (by kernel_rfl) (by first | (first | (rw [hin]; done) | exact absurd (hP.symm.trans (by assumption : _ = false)) (by decide)) | (exfalso; omega)))

theorem full9_c (n : Int) (h0 : 0 ≤ n) (h1 : n ≤ 60) : CallA Try.prog 16 [AI n] (AI ((shl64 1 n) - 1)) := by
  have hb : 1 ≤ shl64 1 n ∧ shl64 1 n ≤ 4611686018427387904 := shl_rng n h0 (by omega)
  refine CallA.of Try.func16 rfl (by kernel_rfl) ?_
  refine R.go 10 ?_
  by_cases c1 : n < 0
  · refine R.skp (decide (n < 0)) false (by kernel_rfl) (dT c1) (by kernel_rfl) ?_
    refine R.skp (decide (n < 0)) false (by kernel_rfl) (dT c1) (by kernel_rfl) ?_
    refine R.pick (decide (n < 0)) true (by kernel_rfl) (dT c1) (by kernel_rfl) ?_
    exact R.go 6 (R.retE (AI 0) (by kernel_rfl) (by kernel_rfl) (by first | (rfl) | (exfalso; omega)))
  · refine R.want (decide (n < 0)) false (by kernel_rfl) (dF c1) ?_
    refine R.go 1 (R.want (decide (n < 0)) false (by kernel_rfl) (dF c1) ?_)
    refine R.go 1 (R.pick (decide (n < 0)) false (by kernel_rfl) (dF c1) (by kernel_rfl) ?_)
    refine R.go 1 (R.cond (n > 60) (by kernel_rfl) (fun c2 => ?_) (fun c2 => ?_))
    · exact R.go 4 (R.retE (AI 0) (by kernel_rfl) (by kernel_rfl) (by first | (rfl) | (exfalso; omega)))
    · refine R.go 4 (R.cv .u64 n (by kernel_rfl) (u64_id (by omega) (by omega)) (by kernel_rfl) ?_)
      refine R.shl 1 n (by kernel_rfl) (by omega) (by kernel_rfl) ?_
      refine R.ar ((shl64 1 n) - 1) (by kernel_rfl) (by omega) (by omega) (by kernel_rfl) ?_
      exact R.go 2 (R.retE (AI ((shl64 1 n) - 1)) (by kernel_rfl) (by kernel_rfl) (by rfl))

theorem hasInt_c (l : List Int) (x : Int) (hl : l.length ≤ 1000000000) : CallA Try.prog 17 [LI l, AI x] (.bool (decide (x ∈ l))) := by
  refine CallA.of Try.func17 rfl (by kernel_rfl) ?_
  refine R.go 10 (R.loop (fun (i : Nat) => (⟨(frm 18 [(0, LI l), (1, AI x), (5, AI (i : Int))]), []⟩ : St)) (fun (i : Nat) => (i ≤ l.length) ∧ (∀ j, j < i → ¬ l.getD j 0 = x)) (fun (i : Nat) => l.length - i) 0 [0, 1, 5] none (by kernel_rfl) (by kernel_rfl) (by kernel_rfl) ⟨(by omega), (by exact fun j hj => absurd hj (by omega))⟩ ?_)
  rintro i ⟨h3_1, h3_2⟩ R1 N2
  refine R.go 8 (R.cond ((i : Int) < (l.length : Int)) (by kernel_rfl) (fun c4 => ?_) (fun c4 => ?_))
  · refine R.go 7 (R.idx eI l 0 i (i : Int) (by kernel_rfl) rfl eI_len (by omega) (by kernel_rfl) ?_)
    refine R.go 4 (R.cond ((l.getD i 0) = x) (by kernel_rfl) (fun c5 => ?_) (fun c5 => ?_))
    · exact R.go 4 (R.retE (.bool true) (by kernel_rfl) (by kernel_rfl) (by first | (apply congrArg AV.bool; first | exact memT (i := i) (by omega) (by assumption) | exact memF (i := i) (by assumption) (by omega)) | (exfalso; omega)))
    · refine R.go 4 (R.ar ((i : Int) + 1) (by kernel_rfl) (by omega) (by omega) (by kernel_rfl) ?_)
      exact R.go 2 (R.stop R1 (by kernel_rfl) (N2 (i + 1) [0, 1, 5] none _ (by kernel_rfl) (by kernel_rfl) ⟨(by omega), (by exact below1 (P := fun j => ¬ l.getD j 0 = x) (by assumption) (by assumption))⟩ (by show (l.length - (i + 1)) < (l.length - i); omega)))
  · exact R.go 5 (R.retE (.bool false) (by kernel_rfl) (by kernel_rfl) (by first | (apply congrArg AV.bool; first | exact memT (i := i) (by omega) (by assumption) | exact memF (i := i) (by assumption) (by omega)) | (exfalso; omega)))

theorem likeIn_c (a : List Int) (hl : a.length ≤ 1000000000) : CallA Try.prog 9 [LI a, LI a] (.bool true) := by
  refine CallA.of Try.func9 rfl (by kernel_rfl) ?_
  refine R.go 13 (R.els (!decide ((a.length : Int) = (a.length : Int))) (by kernel_rfl) (nF rfl) ?_)
  refine R.go 7 (R.loop (fun (i : Nat) => (⟨(frm 26 [(0, LI a), (1, LI a), (5, AI (i : Int))]), []⟩ : St)) (fun (i : Nat) => i ≤ a.length) (fun (i : Nat) => a.length - i) 0 [0, 1, 5] none (by kernel_rfl) (by kernel_rfl) (by kernel_rfl) (by omega) ?_)
  rintro i h3_1 R1 N2
  refine R.go 8 (R.cond ((i : Int) < (a.length : Int)) (by kernel_rfl) (fun c4 => ?_) (fun c4 => ?_))
  · refine R.go 7 (R.idx eI a 0 i (i : Int) (by kernel_rfl) rfl eI_len (by omega) (by kernel_rfl) ?_)
    refine R.go 3 (R.idx eI a 0 i (i : Int) (by kernel_rfl) rfl eI_len (by omega) (by kernel_rfl) ?_)
    refine R.go 3 (R.els (!decide ((a.getD i 0) = (a.getD i 0))) (by kernel_rfl) (nF rfl) ?_)
    refine R.go 4 (R.ar ((i : Int) + 1) (by kernel_rfl) (by omega) (by omega) (by kernel_rfl) ?_)
    exact R.go 2 (R.stop R1 (by kernel_rfl) (N2 (i + 1) [0, 1, 5] none _ (by kernel_rfl) (by kernel_rfl) (by omega) (by show (a.length - (i + 1)) < (a.length - i); omega)))
  · exact R.go 5 (R.retE (.bool true) (by kernel_rfl) (by kernel_rfl) (by rfl))

theorem big_c (c : List Int) : CallA Try.prog 5 [LB c] (.bool (decide ((c.length : Int) > 4096))) := by
  refine CallA.of Try.func5 rfl (by kernel_rfl) ?_
  exact R.go 11 (R.retE (.bool (decide ((c.length : Int) > 4096))) (by kernel_rfl) (by kernel_rfl) (by rfl))

set_option maxHeartbeats 4000000 in
theorem lawUps_c (c : List Int) (hcb : ∀ q : Nat, q < c.length → 0 ≤ c.getD q 0 ∧ c.getD q 0 ≤ 255) : CallA Try.prog 3 [LB c] (.bool true) := by
  refine CallA.of Try.func3 rfl (by kernel_rfl) ?_
  refine R.go 8 (R.call true (big_c c) (by kernel_rfl) rfl (by kernel_rfl) ?_)
  refine R.go 1 (R.cond ((c.length : Int) > 4096) (by kernel_rfl) (fun c1 => ?_) (fun c1 => ?_))
  · exact R.go 4 (R.retE (.bool true) (by kernel_rfl) (by kernel_rfl) (by rfl))
  · have hc : BY c := ⟨by omega, hcb⟩
    refine R.go 4 (R.callX (drUps_c c hc) (by kernel_rfl) (by kernel_rfl) (by kernel_rfl) ?_)
    rintro _ _ ⟨n_2, xs_3, f4, rfl, rfl⟩
    refine R.go 6 (R.call true (UP_impl n_2 xs_3 (by first | omega | (simp <;> omega))).frz (by kernel_rfl) rfl (by kernel_rfl) ?_)
    refine R.go 9 (R.call true (UP_spec n_2 xs_3 (by first | omega | (simp <;> omega))).frz (by kernel_rfl) rfl (by kernel_rfl) ?_)
    have hu6 := upR_len n_2 xs_3
    refine R.go 13 (R.want (!decide ((poC n_2 xs_3) = (poC n_2 xs_3))) false (by kernel_rfl) (nF rfl) ?_)
    refine R.go 1 (R.want (!decide ((poC n_2 xs_3) = (poC n_2 xs_3))) false (by kernel_rfl) (nF rfl) ?_)
    refine R.go 1 (R.want (!decide ((poC n_2 xs_3) = (poC n_2 xs_3))) false (by kernel_rfl) (nF rfl) ?_)
    refine R.call true (likeIn_c (upR n_2 xs_3) (by first | omega | (simp <;> omega))) (by kernel_rfl) rfl (by kernel_rfl) ?_
    refine R.want (!decide ((poC n_2 xs_3) = (poC n_2 xs_3))) false (by kernel_rfl) (nF rfl) ?_
    refine R.go 1 (R.pick (!decide ((poC n_2 xs_3) = (poC n_2 xs_3))) false (by kernel_rfl) (nF rfl) (by kernel_rfl) ?_)
    refine R.go 9 (R.condN ((poC n_2 xs_3) = 0) (by kernel_rfl) (fun c5 => ?_) (fun c5 => ?_))
    · exact R.go 4 (R.retE (.bool true) (by kernel_rfl) (by kernel_rfl) (by rfl))
    · have hz : poC n_2 xs_3 = 0 := by assumption
      have hP := po_ok hz
      have hu1 := ul_1 hP
      have hb0 := hu1.1
      have hsh := hu1.2.1
      have hz2 := hu1.2.2.1
      have hl1 := hu1.2.2.2.1
      have hl2 := hu1.2.2.2.2.1
      have hl3 := hu1.2.2.2.2.2.1
      have hl4 := hu1.2.2.2.2.2.2.1
      have hl5 := hu1.2.2.2.2.2.2.2
      refine R.go 4 (R.call true (AN_impl n_2 xs_3 (by first | omega | (simp <;> omega))).frz (by kernel_rfl) rfl (by kernel_rfl) ?_)
      refine R.go 9 (R.call true (DP_impl n_2 xs_3 (by assumption)) (by kernel_rfl) rfl (by kernel_rfl) ?_)
      refine R.go 10 (R.call true (UP_impl n_2 (invA xs_3 xs_3.length) (by first | omega | (simp <;> omega))).frz (by kernel_rfl) rfl (by kernel_rfl) ?_)
      refine R.go 11 (R.ar ((poC n_2 xs_3) + 0) (by kernel_rfl) (by omega) (by omega) (by kernel_rfl) ?_)
      refine R.go 1 (R.ar (((poC n_2 xs_3) + 0) + (poC n_2 (invA xs_3 xs_3.length))) (by kernel_rfl) (by omega) (by omega) (by kernel_rfl) ?_)
      refine R.go 2 ?_
      by_cases c6 : (((poC n_2 xs_3) + 0) + (poC n_2 (invA xs_3 xs_3.length))) = 0
      · refine R.want (!decide ((((poC n_2 xs_3) + 0) + (poC n_2 (invA xs_3 xs_3.length))) = 0)) false (by kernel_rfl) (nF c6) ?_
        refine R.go 1 (R.want (!decide ((((poC n_2 xs_3) + 0) + (poC n_2 (invA xs_3 xs_3.length))) = 0)) false (by kernel_rfl) (nF c6) ?_)
        refine R.go 1 (R.want (!decide ((((poC n_2 xs_3) + 0) + (poC n_2 (invA xs_3 xs_3.length))) = 0)) false (by kernel_rfl) (nF c6) ?_)
        refine R.go 1 (R.want (!decide ((((poC n_2 xs_3) + 0) + (poC n_2 (invA xs_3 xs_3.length))) = 0)) false (by kernel_rfl) (nF c6) ?_)
        refine R.go 1 (R.want (!decide ((((poC n_2 xs_3) + 0) + (poC n_2 (invA xs_3 xs_3.length))) = 0)) false (by kernel_rfl) (nF c6) ?_)
        refine R.go 1 (R.pick (!decide ((((poC n_2 xs_3) + 0) + (poC n_2 (invA xs_3 xs_3.length))) = 0)) false (by kernel_rfl) (nF c6) (by kernel_rfl) ?_)
        refine R.go 1 ?_
        by_cases c7 : ((anR n_2 xs_3).length : Int) = ((upR n_2 xs_3).length : Int)
        · refine R.want (!decide (((anR n_2 xs_3).length : Int) = ((upR n_2 xs_3).length : Int))) false (by kernel_rfl) (nF c7) ?_
          refine R.go 1 (R.want (!decide (((anR n_2 xs_3).length : Int) = ((upR n_2 xs_3).length : Int))) false (by kernel_rfl) (nF c7) ?_)
          refine R.go 1 (R.want (!decide (((anR n_2 xs_3).length : Int) = ((upR n_2 xs_3).length : Int))) false (by kernel_rfl) (nF c7) ?_)
          refine R.go 1 (R.want (!decide (((anR n_2 xs_3).length : Int) = ((upR n_2 xs_3).length : Int))) false (by kernel_rfl) (nF c7) ?_)
          refine R.go 1 (R.want (!decide (((anR n_2 xs_3).length : Int) = ((upR n_2 xs_3).length : Int))) false (by kernel_rfl) (nF c7) ?_)
          refine R.go 1 (R.pick (!decide (((anR n_2 xs_3).length : Int) = ((upR n_2 xs_3).length : Int))) false (by kernel_rfl) (nF c7) (by kernel_rfl) ?_)
          refine R.go 1 ?_
          by_cases c8 : ((upR n_2 (invA xs_3 xs_3.length)).length : Int) = ((upR n_2 xs_3).length : Int)
          · refine R.want (!decide (((upR n_2 (invA xs_3 xs_3.length)).length : Int) = ((upR n_2 xs_3).length : Int))) false (by kernel_rfl) (nF c8) ?_
            refine R.go 1 (R.want (!decide (((upR n_2 (invA xs_3 xs_3.length)).length : Int) = ((upR n_2 xs_3).length : Int))) false (by kernel_rfl) (nF c8) ?_)
            refine R.go 1 (R.want (!decide (((upR n_2 (invA xs_3 xs_3.length)).length : Int) = ((upR n_2 xs_3).length : Int))) false (by kernel_rfl) (nF c8) ?_)
            refine R.go 1 (R.pick (!decide (((upR n_2 (invA xs_3 xs_3.length)).length : Int) = ((upR n_2 xs_3).length : Int))) false (by kernel_rfl) (nF c8) (by kernel_rfl) ?_)
            refine R.go 1 (R.cond (((upR n_2 xs_3).length : Int) = 0) (by kernel_rfl) (fun c9 => ?_) (fun c9 => ?_))
            · exact R.go 4 (R.retE (.bool false) (by kernel_rfl) (by kernel_rfl) (by first | (first | rfl | exact absurd hor (by assumption) | exact absurd han (by assumption) | exact absurd hmu (by assumption) | exact absurd hmb (by assumption) | exact congrArg AV.bool (decide_eq_true hcm) | (exfalso; omega)) | (exfalso; omega)))
            · refine R.go 4 (R.callX (CallX.box 1 26 [AI n_2, LI (invA xs_3 xs_3.length)] (CallX.box 0 26 [AI n_2, LI xs_3] (rollX_c_r2 c 4 26 2 1 [AI n_2, LI xs_3] 26 2 1 [AI n_2, LI (invA xs_3 xs_3.length)] hc) (by kernel_rfl) (by kernel_rfl) (by kernel_rfl) (by kernel_rfl) (by rintro _ _ ⟨_, rfl, rfl⟩; exact ⟨by kernel_rfl, by kernel_rfl, by kernel_rfl⟩)) (by kernel_rfl) (by kernel_rfl) (by kernel_rfl) (by kernel_rfl) (by rintro _ _ ⟨_, ⟨_, rfl, rfl⟩, rfl⟩; exact ⟨by kernel_rfl, by kernel_rfl, by kernel_rfl⟩)) (by kernel_rfl) (by kernel_rfl) (by kernel_rfl) ?_)
              rintro _ _ ⟨_, ⟨_, ⟨h_10, rfl, rfl⟩, rfl⟩, rfl⟩
              refine R.go 3 (R.meetF (α := Int × Nat × Int × Int × Nat × Int) (fun | (v_11, p1_12, h1_13, v_15, p1_16, h1_17) => ((((upR n_2 xs_3).length) < 1 → v_11 = 0) ∧ (1 ≤ ((upR n_2 xs_3).length) → 0 ≤ v_11 ∧ v_11 < ((upR n_2 xs_3).length))) ∧ ((((upR n_2 xs_3).length) < 1 → v_15 = 0) ∧ (1 ≤ ((upR n_2 xs_3).length) → 0 ≤ v_15 ∧ v_15 < ((upR n_2 xs_3).length)))) (fun | (v_11, p1_12, h1_13, v_15, p1_16, h1_17) => (⟨(frm 202 [(0, LB c), (2, .bool false), (3, .ptr 0 0), (4, LI (upR n_2 xs_3)), (5, AI (poC n_2 xs_3)), (6, LI (upR n_2 xs_3)), (7, AI (poC n_2 xs_3)), (8, LI (anR n_2 xs_3)), (9, AI (poC n_2 xs_3)), (10, .ptr 1 0), (11, AI 0), (12, LI (upR n_2 (invA xs_3 xs_3.length))), (13, AI (poC n_2 (invA xs_3 xs_3.length))), (14, .ptr 2 0), (15, AI ((upR n_2 xs_3).getD ((v_11).toNat) 0)), (16, AI ((upR n_2 xs_3).getD ((v_15).toNat) 0)), (26, LB c), (27, .bool (decide ((c.length : Int) > 4096))), (28, LB c), (29, .agg [AI n_2, LI xs_3]), (30, .tup [LI (upR n_2 xs_3), AI (poC n_2 xs_3)]), (31, .agg [AI n_2, LI xs_3]), (32, .tup [LI (upR n_2 xs_3), AI (poC n_2 xs_3)]), (33, LI (upR n_2 xs_3)), (34, AI (poC n_2 xs_3)), (35, .tup [LI (upR n_2 xs_3), AI (poC n_2 xs_3)]), (36, .agg [AI n_2, LI xs_3]), (37, .tup [LI (upR n_2 xs_3), AI (poC n_2 xs_3)]), (38, LI (upR n_2 xs_3)), (39, AI (poC n_2 xs_3)), (40, AI (poC n_2 xs_3)), (41, AI (poC n_2 xs_3)), (42, .bool (!decide ((poC n_2 xs_3) = (poC n_2 xs_3)))), (43, .bool (!decide ((poC n_2 xs_3) = (poC n_2 xs_3)))), (44, LI (upR n_2 xs_3)), (45, LI (upR n_2 xs_3)), (46, .bool true), (47, .bool false), (48, .bool false), (49, AI (poC n_2 xs_3)), (50, .bool (!decide ((poC n_2 xs_3) = 0))), (51, .tup [LI (anR n_2 xs_3), AI (poC n_2 xs_3)]), (52, .agg [AI n_2, LI xs_3]), (53, .tup [LI (anR n_2 xs_3), AI (poC n_2 xs_3)]), (54, LI (anR n_2 xs_3)), (55, AI (poC n_2 xs_3)), (56, .tup [.agg [AI n_2, LI (invA xs_3 xs_3.length)], AI 0]), (57, .agg [AI n_2, LI xs_3]), (58, .tup [.agg [AI n_2, LI (invA xs_3 xs_3.length)], AI 0]), (59, .agg [AI n_2, LI (invA xs_3 xs_3.length)]), (60, AI 0), (61, .tup [LI (upR n_2 (invA xs_3 xs_3.length)), AI (poC n_2 (invA xs_3 xs_3.length))]), (62, .agg [AI n_2, LI (invA xs_3 xs_3.length)]), (63, .tup [LI (upR n_2 (invA xs_3 xs_3.length)), AI (poC n_2 (invA xs_3 xs_3.length))]), (64, LI (upR n_2 (invA xs_3 xs_3.length))), (65, AI (poC n_2 (invA xs_3 xs_3.length))), (66, AI (poC n_2 xs_3)), (67, AI 0), (68, AI ((poC n_2 xs_3) + 0)), (69, AI (poC n_2 (invA xs_3 xs_3.length))), (70, AI (((poC n_2 xs_3) + 0) + (poC n_2 (invA xs_3 xs_3.length)))), (71, .bool (!decide ((((poC n_2 xs_3) + 0) + (poC n_2 (invA xs_3 xs_3.length))) = 0))), (72, .bool (!decide ((((poC n_2 xs_3) + 0) + (poC n_2 (invA xs_3 xs_3.length))) = 0))), (73, LI (anR n_2 xs_3)), (74, AI ((anR n_2 xs_3).length)), (75, LI (upR n_2 xs_3)), (76, AI ((upR n_2 xs_3).length)), (77, .bool (!decide (((anR n_2 xs_3).length : Int) = ((upR n_2 xs_3).length : Int)))), (78, .bool (!decide (((anR n_2 xs_3).length : Int) = ((upR n_2 xs_3).length : Int)))), (79, .bool (!decide (((anR n_2 xs_3).length : Int) = ((upR n_2 xs_3).length : Int)))), (80, LI (upR n_2 (invA xs_3 xs_3.length))), (81, AI ((upR n_2 (invA xs_3 xs_3.length)).length)), (82, LI (upR n_2 xs_3)), (83, AI ((upR n_2 xs_3).length)), (84, .bool (!decide (((upR n_2 (invA xs_3 xs_3.length)).length : Int) = ((upR n_2 xs_3).length : Int)))), (85, .bool (!decide (((upR n_2 (invA xs_3 xs_3.length)).length : Int) = ((upR n_2 xs_3).length : Int)))), (86, .bool (!decide (((upR n_2 (invA xs_3 xs_3.length)).length : Int) = ((upR n_2 xs_3).length : Int)))), (87, LI (upR n_2 xs_3)), (88, AI ((upR n_2 xs_3).length)), (89, .bool (decide (((upR n_2 xs_3).length : Int) = 0))), (90, .bool (decide (((upR n_2 xs_3).length : Int) = 0))), (91, LB c), (92, .ptr 2 0), (93, LI (upR n_2 xs_3)), (94, .ptr 2 0), (95, LI (upR n_2 xs_3)), (96, AI ((upR n_2 xs_3).length)), (97, AI v_11), (98, .rptr [AI ((upR n_2 xs_3).getD ((v_11).toNat) 0)]), (99, AI ((upR n_2 xs_3).getD ((v_11).toNat) 0)), (100, LI (upR n_2 xs_3)), (101, .ptr 2 0), (102, LI (upR n_2 xs_3)), (103, AI ((upR n_2 xs_3).length)), (104, AI v_15), (105, .rptr [AI ((upR n_2 xs_3).getD ((v_15).toNat) 0)]), (106, AI ((upR n_2 xs_3).getD ((v_15).toNat) 0))]), [.box 26 [AI n_2, LI xs_3], .box 26 [AI n_2, LI (invA xs_3 xs_3.length)], .box 59 [LB c, AI (p1_16 : Int), .int .u64 h1_17]]⟩ : St)) (by kernel_rfl) ?_ ?_)
              · refine R.any (by decide +kernel) (by kernel_rfl) ?_
                refine R.anyF 0 (by kernel_rfl) (np_meetF _ _) ?_
                refine R.anyF 1 (by kernel_rfl) (np_meetF _ _) ?_
                refine R.anyF 2 (by kernel_rfl) (np_meetF _ _) ?_
                refine R.anyF 7 (by kernel_rfl) (np_meetF _ _) ?_
                refine R.anyF 8 (by kernel_rfl) (np_meetF _ _) ?_
                refine R.anyF 9 (by kernel_rfl) (np_meetF _ _) ?_
                refine R.any2 3 10 (by kernel_rfl) (by kernel_rfl) ?_ ?_
                · refine R.go 2 (R.any2 4 10 (by kernel_rfl) (by kernel_rfl) ?_ ?_)
                  · refine R.callX (CallX.perm [1, 2, 0] [2, 0, 1] (CallX.box 2 26 [AI n_2, LI (invA xs_3 xs_3.length)] (CallX.box 1 26 [AI n_2, LI xs_3] (belowX_c_r2 c 0 h_10 ((upR n_2 xs_3).length) 26 2 1 [AI n_2, LI xs_3] 26 2 1 [AI n_2, LI (invA xs_3 xs_3.length)] hc) (by kernel_rfl) (by kernel_rfl) (by kernel_rfl) (by kernel_rfl) (by rintro _ _ ⟨_, _, _, _, rfl, rfl⟩; exact ⟨by kernel_rfl, by kernel_rfl, by kernel_rfl⟩)) (by kernel_rfl) (by kernel_rfl) (by kernel_rfl) (by kernel_rfl) (by rintro _ _ ⟨_, ⟨_, _, _, _, rfl, rfl⟩, rfl⟩; exact ⟨by kernel_rfl, by kernel_rfl, by kernel_rfl⟩)) (by kernel_rfl) (by kernel_rfl) (by kernel_rfl) (by rintro _ _ ⟨_, ⟨_, ⟨_, _, _, _, rfl, rfl⟩, rfl⟩, rfl⟩; exact Nat.le_of_ble_eq_true (by kernel_rfl))) (by kernel_rfl) (by kernel_rfl) (by kernel_rfl) ?_
                    rintro _ _ ⟨_, _, ⟨_, ⟨_, ⟨v_11, p1_12, h1_13, f14, rfl, rfl⟩, rfl⟩, rfl⟩, rfl, rfl⟩
                    refine R.go 1 (R.any2 5 10 (by kernel_rfl) (by kernel_rfl) ?_ ?_)
                    · refine R.idx eI (upR n_2 xs_3) 0 ((v_11).toNat) v_11 (by kernel_rfl) (by omega) eI_len (by omega) (by kernel_rfl) ?_
                      refine R.go 1 (R.any2 6 10 (by kernel_rfl) (by kernel_rfl) ?_ ?_)
                      · refine R.go 2 (R.any1 10 (by kernel_rfl) (by kernel_rfl) ?_)
                        refine R.go 2 (R.any1 11 (by kernel_rfl) (by kernel_rfl) ?_)
                        refine R.callX (CallX.perm [1, 2, 0] [2, 0, 1] (CallX.box 2 26 [AI n_2, LI (invA xs_3 xs_3.length)] (CallX.box 1 26 [AI n_2, LI xs_3] (belowX_c_r2 c p1_12 h1_13 ((upR n_2 xs_3).length) 26 2 1 [AI n_2, LI xs_3] 26 2 1 [AI n_2, LI (invA xs_3 xs_3.length)] hc) (by kernel_rfl) (by kernel_rfl) (by kernel_rfl) (by kernel_rfl) (by rintro _ _ ⟨_, _, _, _, rfl, rfl⟩; exact ⟨by kernel_rfl, by kernel_rfl, by kernel_rfl⟩)) (by kernel_rfl) (by kernel_rfl) (by kernel_rfl) (by kernel_rfl) (by rintro _ _ ⟨_, ⟨_, _, _, _, rfl, rfl⟩, rfl⟩; exact ⟨by kernel_rfl, by kernel_rfl, by kernel_rfl⟩)) (by kernel_rfl) (by kernel_rfl) (by kernel_rfl) (by rintro _ _ ⟨_, ⟨_, ⟨_, _, _, _, rfl, rfl⟩, rfl⟩, rfl⟩; exact Nat.le_of_ble_eq_true (by kernel_rfl))) (by kernel_rfl) (by kernel_rfl) (by kernel_rfl) ?_
                        rintro _ _ ⟨_, _, ⟨_, ⟨_, ⟨v_15, p1_16, h1_17, f18, rfl, rfl⟩, rfl⟩, rfl⟩, rfl, rfl⟩
                        refine R.go 1 (R.any2 12 14 (by kernel_rfl) (by kernel_rfl) ?_ ?_)
                        · refine R.idx eI (upR n_2 xs_3) 0 ((v_15).toNat) v_15 (by kernel_rfl) (by omega) eI_len (by omega) (by kernel_rfl) ?_
                          refine R.go 1 (R.any2 13 14 (by kernel_rfl) (by kernel_rfl) ?_ ?_)
                          · refine R.go 2 (R.any1 14 (by kernel_rfl) (by kernel_rfl) ?_)
                            refine R.go 2 (R.any1 15 (by kernel_rfl) (by kernel_rfl) ?_)
                            refine R.go 2 (R.any0 (by kernel_rfl) ?_)
                            exact R.metF (v_11, p1_12, h1_13, v_15, p1_16, h1_17) (by kernel_rfl) ⟨by first | assumption | omega, by first | assumption | omega⟩ (by kernel_rfl)
                          · refine R.go 2 (R.any1 13 (by kernel_rfl) (by kernel_rfl) ?_)
                            refine R.go 2 (R.any1 15 (by kernel_rfl) (by kernel_rfl) ?_)
                            refine R.go 2 (R.any0 (by kernel_rfl) ?_)
                            exact R.metF (v_11, p1_12, h1_13, v_15, p1_16, h1_17) (by kernel_rfl) ⟨by first | assumption | omega, by first | assumption | omega⟩ (by kernel_rfl)
                        · refine R.go 2 (R.any1 12 (by kernel_rfl) (by kernel_rfl) ?_)
                          refine R.idx eI (upR n_2 xs_3) 0 ((v_15).toNat) v_15 (by kernel_rfl) (by omega) eI_len (by omega) (by kernel_rfl) ?_
                          refine R.go 1 (R.any1 13 (by kernel_rfl) (by kernel_rfl) ?_)
                          refine R.go 2 (R.any1 15 (by kernel_rfl) (by kernel_rfl) ?_)
                          refine R.go 2 (R.any0 (by kernel_rfl) ?_)
                          exact R.metF (v_11, p1_12, h1_13, v_15, p1_16, h1_17) (by kernel_rfl) ⟨by first | assumption | omega, by first | assumption | omega⟩ (by kernel_rfl)
                      · refine R.go 2 (R.any2 6 11 (by kernel_rfl) (by kernel_rfl) ?_ ?_)
                        · refine R.go 2 (R.any1 11 (by kernel_rfl) (by kernel_rfl) ?_)
                          refine R.callX (CallX.perm [1, 2, 0] [2, 0, 1] (CallX.box 2 26 [AI n_2, LI (invA xs_3 xs_3.length)] (CallX.box 1 26 [AI n_2, LI xs_3] (belowX_c_r2 c p1_12 h1_13 ((upR n_2 xs_3).length) 26 2 1 [AI n_2, LI xs_3] 26 2 1 [AI n_2, LI (invA xs_3 xs_3.length)] hc) (by kernel_rfl) (by kernel_rfl) (by kernel_rfl) (by kernel_rfl) (by rintro _ _ ⟨_, _, _, _, rfl, rfl⟩; exact ⟨by kernel_rfl, by kernel_rfl, by kernel_rfl⟩)) (by kernel_rfl) (by kernel_rfl) (by kernel_rfl) (by kernel_rfl) (by rintro _ _ ⟨_, ⟨_, _, _, _, rfl, rfl⟩, rfl⟩; exact ⟨by kernel_rfl, by kernel_rfl, by kernel_rfl⟩)) (by kernel_rfl) (by kernel_rfl) (by kernel_rfl) (by rintro _ _ ⟨_, ⟨_, ⟨_, _, _, _, rfl, rfl⟩, rfl⟩, rfl⟩; exact Nat.le_of_ble_eq_true (by kernel_rfl))) (by kernel_rfl) (by kernel_rfl) (by kernel_rfl) ?_
                          rintro _ _ ⟨_, _, ⟨_, ⟨_, ⟨v_19, p1_20, h1_21, f22, rfl, rfl⟩, rfl⟩, rfl⟩, rfl, rfl⟩
                          refine R.go 1 (R.any2 12 14 (by kernel_rfl) (by kernel_rfl) ?_ ?_)
                          · refine R.idx eI (upR n_2 xs_3) 0 ((v_19).toNat) v_19 (by kernel_rfl) (by omega) eI_len (by omega) (by kernel_rfl) ?_
                            refine R.go 1 (R.any2 13 14 (by kernel_rfl) (by kernel_rfl) ?_ ?_)
                            · refine R.go 2 (R.any1 14 (by kernel_rfl) (by kernel_rfl) ?_)
                              refine R.go 2 (R.any1 15 (by kernel_rfl) (by kernel_rfl) ?_)
                              refine R.go 2 (R.any0 (by kernel_rfl) ?_)
                              exact R.metF (v_11, p1_12, h1_13, v_19, p1_20, h1_21) (by kernel_rfl) ⟨by first | assumption | omega, by first | assumption | omega⟩ (by kernel_rfl)
                            · refine R.go 2 (R.any1 13 (by kernel_rfl) (by kernel_rfl) ?_)
                              refine R.go 2 (R.any1 15 (by kernel_rfl) (by kernel_rfl) ?_)
                              refine R.go 2 (R.any0 (by kernel_rfl) ?_)
                              exact R.metF (v_11, p1_12, h1_13, v_19, p1_20, h1_21) (by kernel_rfl) ⟨by first | assumption | omega, by first | assumption | omega⟩ (by kernel_rfl)
                          · refine R.go 2 (R.any1 12 (by kernel_rfl) (by kernel_rfl) ?_)
                            refine R.idx eI (upR n_2 xs_3) 0 ((v_19).toNat) v_19 (by kernel_rfl) (by omega) eI_len (by omega) (by kernel_rfl) ?_
                            refine R.go 1 (R.any1 13 (by kernel_rfl) (by kernel_rfl) ?_)
                            refine R.go 2 (R.any1 15 (by kernel_rfl) (by kernel_rfl) ?_)
                            refine R.go 2 (R.any0 (by kernel_rfl) ?_)
                            exact R.metF (v_11, p1_12, h1_13, v_19, p1_20, h1_21) (by kernel_rfl) ⟨by first | assumption | omega, by first | assumption | omega⟩ (by kernel_rfl)
                        · refine R.callX (CallX.perm [1, 2, 0] [2, 0, 1] (CallX.box 2 26 [AI n_2, LI (invA xs_3 xs_3.length)] (CallX.box 1 26 [AI n_2, LI xs_3] (belowX_c_r2 c p1_12 h1_13 ((upR n_2 xs_3).length) 26 2 1 [AI n_2, LI xs_3] 26 2 1 [AI n_2, LI (invA xs_3 xs_3.length)] hc) (by kernel_rfl) (by kernel_rfl) (by kernel_rfl) (by kernel_rfl) (by rintro _ _ ⟨_, _, _, _, rfl, rfl⟩; exact ⟨by kernel_rfl, by kernel_rfl, by kernel_rfl⟩)) (by kernel_rfl) (by kernel_rfl) (by kernel_rfl) (by kernel_rfl) (by rintro _ _ ⟨_, ⟨_, _, _, _, rfl, rfl⟩, rfl⟩; exact ⟨by kernel_rfl, by kernel_rfl, by kernel_rfl⟩)) (by kernel_rfl) (by kernel_rfl) (by kernel_rfl) (by rintro _ _ ⟨_, ⟨_, ⟨_, _, _, _, rfl, rfl⟩, rfl⟩, rfl⟩; exact Nat.le_of_ble_eq_true (by kernel_rfl))) (by kernel_rfl) (by kernel_rfl) (by kernel_rfl) ?_
                          rintro _ _ ⟨_, _, ⟨_, ⟨_, ⟨v_23, p1_24, h1_25, f26, rfl, rfl⟩, rfl⟩, rfl⟩, rfl, rfl⟩
                          refine R.go 1 (R.any2 6 12 (by kernel_rfl) (by kernel_rfl) ?_ ?_)
                          · refine R.go 2 (R.any2 12 14 (by kernel_rfl) (by kernel_rfl) ?_ ?_)
                            · refine R.idx eI (upR n_2 xs_3) 0 ((v_23).toNat) v_23 (by kernel_rfl) (by omega) eI_len (by omega) (by kernel_rfl) ?_
                              refine R.go 1 (R.any2 13 14 (by kernel_rfl) (by kernel_rfl) ?_ ?_)
                              · refine R.go 2 (R.any1 14 (by kernel_rfl) (by kernel_rfl) ?_)
                                refine R.go 2 (R.any1 15 (by kernel_rfl) (by kernel_rfl) ?_)
                                refine R.go 2 (R.any0 (by kernel_rfl) ?_)
                                exact R.metF (v_11, p1_12, h1_13, v_23, p1_24, h1_25) (by kernel_rfl) ⟨by first | assumption | omega, by first | assumption | omega⟩ (by kernel_rfl)
                              · refine R.go 2 (R.any1 13 (by kernel_rfl) (by kernel_rfl) ?_)
                                refine R.go 2 (R.any1 15 (by kernel_rfl) (by kernel_rfl) ?_)
                                refine R.go 2 (R.any0 (by kernel_rfl) ?_)
                                exact R.metF (v_11, p1_12, h1_13, v_23, p1_24, h1_25) (by kernel_rfl) ⟨by first | assumption | omega, by first | assumption | omega⟩ (by kernel_rfl)
                            · refine R.go 2 (R.any1 12 (by kernel_rfl) (by kernel_rfl) ?_)
                              refine R.idx eI (upR n_2 xs_3) 0 ((v_23).toNat) v_23 (by kernel_rfl) (by omega) eI_len (by omega) (by kernel_rfl) ?_
                              refine R.go 1 (R.any1 13 (by kernel_rfl) (by kernel_rfl) ?_)
                              refine R.go 2 (R.any1 15 (by kernel_rfl) (by kernel_rfl) ?_)
                              refine R.go 2 (R.any0 (by kernel_rfl) ?_)
                              exact R.metF (v_11, p1_12, h1_13, v_23, p1_24, h1_25) (by kernel_rfl) ⟨by first | assumption | omega, by first | assumption | omega⟩ (by kernel_rfl)
                          · refine R.idx eI (upR n_2 xs_3) 0 ((v_23).toNat) v_23 (by kernel_rfl) (by omega) eI_len (by omega) (by kernel_rfl) ?_
                            refine R.go 1 (R.any2 6 13 (by kernel_rfl) (by kernel_rfl) ?_ ?_)
                            · refine R.go 2 (R.any2 13 14 (by kernel_rfl) (by kernel_rfl) ?_ ?_)
                              · refine R.go 2 (R.any1 14 (by kernel_rfl) (by kernel_rfl) ?_)
                                refine R.go 2 (R.any1 15 (by kernel_rfl) (by kernel_rfl) ?_)
                                refine R.go 2 (R.any0 (by kernel_rfl) ?_)
                                exact R.metF (v_11, p1_12, h1_13, v_23, p1_24, h1_25) (by kernel_rfl) ⟨by first | assumption | omega, by first | assumption | omega⟩ (by kernel_rfl)
                              · refine R.go 2 (R.any1 13 (by kernel_rfl) (by kernel_rfl) ?_)
                                refine R.go 2 (R.any1 15 (by kernel_rfl) (by kernel_rfl) ?_)
                                refine R.go 2 (R.any0 (by kernel_rfl) ?_)
                                exact R.metF (v_11, p1_12, h1_13, v_23, p1_24, h1_25) (by kernel_rfl) ⟨by first | assumption | omega, by first | assumption | omega⟩ (by kernel_rfl)
                            · refine R.go 2 (R.any1 6 (by kernel_rfl) (by kernel_rfl) ?_)
                              refine R.go 2 (R.any1 14 (by kernel_rfl) (by kernel_rfl) ?_)
                              refine R.go 2 (R.any1 15 (by kernel_rfl) (by kernel_rfl) ?_)
                              refine R.go 2 (R.any0 (by kernel_rfl) ?_)
                              exact R.metF (v_11, p1_12, h1_13, v_23, p1_24, h1_25) (by kernel_rfl) ⟨by first | assumption | omega, by first | assumption | omega⟩ (by kernel_rfl)
                    · refine R.go 2 (R.any2 5 11 (by kernel_rfl) (by kernel_rfl) ?_ ?_)
                      · refine R.idx eI (upR n_2 xs_3) 0 ((v_11).toNat) v_11 (by kernel_rfl) (by omega) eI_len (by omega) (by kernel_rfl) ?_
                        refine R.go 1 (R.any2 6 11 (by kernel_rfl) (by kernel_rfl) ?_ ?_)
                        · refine R.go 2 (R.any1 11 (by kernel_rfl) (by kernel_rfl) ?_)
                          refine R.callX (CallX.perm [1, 2, 0] [2, 0, 1] (CallX.box 2 26 [AI n_2, LI (invA xs_3 xs_3.length)] (CallX.box 1 26 [AI n_2, LI xs_3] (belowX_c_r2 c p1_12 h1_13 ((upR n_2 xs_3).length) 26 2 1 [AI n_2, LI xs_3] 26 2 1 [AI n_2, LI (invA xs_3 xs_3.length)] hc) (by kernel_rfl) (by kernel_rfl) (by kernel_rfl) (by kernel_rfl) (by rintro _ _ ⟨_, _, _, _, rfl, rfl⟩; exact ⟨by kernel_rfl, by kernel_rfl, by kernel_rfl⟩)) (by kernel_rfl) (by kernel_rfl) (by kernel_rfl) (by kernel_rfl) (by rintro _ _ ⟨_, ⟨_, _, _, _, rfl, rfl⟩, rfl⟩; exact ⟨by kernel_rfl, by kernel_rfl, by kernel_rfl⟩)) (by kernel_rfl) (by kernel_rfl) (by kernel_rfl) (by rintro _ _ ⟨_, ⟨_, ⟨_, _, _, _, rfl, rfl⟩, rfl⟩, rfl⟩; exact Nat.le_of_ble_eq_true (by kernel_rfl))) (by kernel_rfl) (by kernel_rfl) (by kernel_rfl) ?_
                          rintro _ _ ⟨_, _, ⟨_, ⟨_, ⟨v_27, p1_28, h1_29, f30, rfl, rfl⟩, rfl⟩, rfl⟩, rfl, rfl⟩
                          refine R.go 1 (R.any2 12 14 (by kernel_rfl) (by kernel_rfl) ?_ ?_)
                          · refine R.idx eI (upR n_2 xs_3) 0 ((v_27).toNat) v_27 (by kernel_rfl) (by omega) eI_len (by omega) (by kernel_rfl) ?_
                            refine R.go 1 (R.any2 13 14 (by kernel_rfl) (by kernel_rfl) ?_ ?_)
                            · refine R.go 2 (R.any1 14 (by kernel_rfl) (by kernel_rfl) ?_)
                              refine R.go 2 (R.any1 15 (by kernel_rfl) (by kernel_rfl) ?_)
                              refine R.go 2 (R.any0 (by kernel_rfl) ?_)
                              exact R.metF (v_11, p1_12, h1_13, v_27, p1_28, h1_29) (by kernel_rfl) ⟨by first | assumption | omega, by first | assumption | omega⟩ (by kernel_rfl)
                            · refine R.go 2 (R.any1 13 (by kernel_rfl) (by kernel_rfl) ?_)
                              refine R.go 2 (R.any1 15 (by kernel_rfl) (by kernel_rfl) ?_)
                              refine R.go 2 (R.any0 (by kernel_rfl) ?_)
                              exact R.metF (v_11, p1_12, h1_13, v_27, p1_28, h1_29) (by kernel_rfl) ⟨by first | assumption | omega, by first | assumption | omega⟩ (by kernel_rfl)
                          · refine R.go 2 (R.any1 12 (by kernel_rfl) (by kernel_rfl) ?_)
                            refine R.idx eI (upR n_2 xs_3) 0 ((v_27).toNat) v_27 (by kernel_rfl) (by omega) eI_len (by omega) (by kernel_rfl) ?_
                            refine R.go 1 (R.any1 13 (by kernel_rfl) (by kernel_rfl) ?_)
                            refine R.go 2 (R.any1 15 (by kernel_rfl) (by kernel_rfl) ?_)
                            refine R.go 2 (R.any0 (by kernel_rfl) ?_)
                            exact R.metF (v_11, p1_12, h1_13, v_27, p1_28, h1_29) (by kernel_rfl) ⟨by first | assumption | omega, by first | assumption | omega⟩ (by kernel_rfl)
                        · refine R.callX (CallX.perm [1, 2, 0] [2, 0, 1] (CallX.box 2 26 [AI n_2, LI (invA xs_3 xs_3.length)] (CallX.box 1 26 [AI n_2, LI xs_3] (belowX_c_r2 c p1_12 h1_13 ((upR n_2 xs_3).length) 26 2 1 [AI n_2, LI xs_3] 26 2 1 [AI n_2, LI (invA xs_3 xs_3.length)] hc) (by kernel_rfl) (by kernel_rfl) (by kernel_rfl) (by kernel_rfl) (by rintro _ _ ⟨_, _, _, _, rfl, rfl⟩; exact ⟨by kernel_rfl, by kernel_rfl, by kernel_rfl⟩)) (by kernel_rfl) (by kernel_rfl) (by kernel_rfl) (by kernel_rfl) (by rintro _ _ ⟨_, ⟨_, _, _, _, rfl, rfl⟩, rfl⟩; exact ⟨by kernel_rfl, by kernel_rfl, by kernel_rfl⟩)) (by kernel_rfl) (by kernel_rfl) (by kernel_rfl) (by rintro _ _ ⟨_, ⟨_, ⟨_, _, _, _, rfl, rfl⟩, rfl⟩, rfl⟩; exact Nat.le_of_ble_eq_true (by kernel_rfl))) (by kernel_rfl) (by kernel_rfl) (by kernel_rfl) ?_
                          rintro _ _ ⟨_, _, ⟨_, ⟨_, ⟨v_31, p1_32, h1_33, f34, rfl, rfl⟩, rfl⟩, rfl⟩, rfl, rfl⟩
                          refine R.go 1 (R.any2 6 12 (by kernel_rfl) (by kernel_rfl) ?_ ?_)
                          · refine R.go 2 (R.any2 12 14 (by kernel_rfl) (by kernel_rfl) ?_ ?_)
                            · refine R.idx eI (upR n_2 xs_3) 0 ((v_31).toNat) v_31 (by kernel_rfl) (by omega) eI_len (by omega) (by kernel_rfl) ?_
                              refine R.go 1 (R.any2 13 14 (by kernel_rfl) (by kernel_rfl) ?_ ?_)
                              · refine R.go 2 (R.any1 14 (by kernel_rfl) (by kernel_rfl) ?_)
                                refine R.go 2 (R.any1 15 (by kernel_rfl) (by kernel_rfl) ?_)
                                refine R.go 2 (R.any0 (by kernel_rfl) ?_)
                                exact R.metF (v_11, p1_12, h1_13, v_31, p1_32, h1_33) (by kernel_rfl) ⟨by first | assumption | omega, by first | assumption | omega⟩ (by kernel_rfl)
                              · refine R.go 2 (R.any1 13 (by kernel_rfl) (by kernel_rfl) ?_)
                                refine R.go 2 (R.any1 15 (by kernel_rfl) (by kernel_rfl) ?_)
                                refine R.go 2 (R.any0 (by kernel_rfl) ?_)
                                exact R.metF (v_11, p1_12, h1_13, v_31, p1_32, h1_33) (by kernel_rfl) ⟨by first | assumption | omega, by first | assumption | omega⟩ (by kernel_rfl)
                            · refine R.go 2 (R.any1 12 (by kernel_rfl) (by kernel_rfl) ?_)
                              refine R.idx eI (upR n_2 xs_3) 0 ((v_31).toNat) v_31 (by kernel_rfl) (by omega) eI_len (by omega) (by kernel_rfl) ?_
                              refine R.go 1 (R.any1 13 (by kernel_rfl) (by kernel_rfl) ?_)
                              refine R.go 2 (R.any1 15 (by kernel_rfl) (by kernel_rfl) ?_)
                              refine R.go 2 (R.any0 (by kernel_rfl) ?_)
                              exact R.metF (v_11, p1_12, h1_13, v_31, p1_32, h1_33) (by kernel_rfl) ⟨by first | assumption | omega, by first | assumption | omega⟩ (by kernel_rfl)
                          · refine R.idx eI (upR n_2 xs_3) 0 ((v_31).toNat) v_31 (by kernel_rfl) (by omega) eI_len (by omega) (by kernel_rfl) ?_
                            refine R.go 1 (R.any2 6 13 (by kernel_rfl) (by kernel_rfl) ?_ ?_)
                            · refine R.go 2 (R.any2 13 14 (by kernel_rfl) (by kernel_rfl) ?_ ?_)
                              · refine R.go 2 (R.any1 14 (by kernel_rfl) (by kernel_rfl) ?_)
                                refine R.go 2 (R.any1 15 (by kernel_rfl) (by kernel_rfl) ?_)
                                refine R.go 2 (R.any0 (by kernel_rfl) ?_)
                                exact R.metF (v_11, p1_12, h1_13, v_31, p1_32, h1_33) (by kernel_rfl) ⟨by first | assumption | omega, by first | assumption | omega⟩ (by kernel_rfl)
                              · refine R.go 2 (R.any1 13 (by kernel_rfl) (by kernel_rfl) ?_)
                                refine R.go 2 (R.any1 15 (by kernel_rfl) (by kernel_rfl) ?_)
                                refine R.go 2 (R.any0 (by kernel_rfl) ?_)
                                exact R.metF (v_11, p1_12, h1_13, v_31, p1_32, h1_33) (by kernel_rfl) ⟨by first | assumption | omega, by first | assumption | omega⟩ (by kernel_rfl)
                            · refine R.go 2 (R.any1 6 (by kernel_rfl) (by kernel_rfl) ?_)
                              refine R.go 2 (R.any1 14 (by kernel_rfl) (by kernel_rfl) ?_)
                              refine R.go 2 (R.any1 15 (by kernel_rfl) (by kernel_rfl) ?_)
                              refine R.go 2 (R.any0 (by kernel_rfl) ?_)
                              exact R.metF (v_11, p1_12, h1_13, v_31, p1_32, h1_33) (by kernel_rfl) ⟨by first | assumption | omega, by first | assumption | omega⟩ (by kernel_rfl)
                      · refine R.callX (CallX.perm [1, 2, 0] [2, 0, 1] (CallX.box 2 26 [AI n_2, LI (invA xs_3 xs_3.length)] (CallX.box 1 26 [AI n_2, LI xs_3] (belowX_c_r2 c p1_12 h1_13 ((upR n_2 xs_3).length) 26 2 1 [AI n_2, LI xs_3] 26 2 1 [AI n_2, LI (invA xs_3 xs_3.length)] hc) (by kernel_rfl) (by kernel_rfl) (by kernel_rfl) (by kernel_rfl) (by rintro _ _ ⟨_, _, _, _, rfl, rfl⟩; exact ⟨by kernel_rfl, by kernel_rfl, by kernel_rfl⟩)) (by kernel_rfl) (by kernel_rfl) (by kernel_rfl) (by kernel_rfl) (by rintro _ _ ⟨_, ⟨_, _, _, _, rfl, rfl⟩, rfl⟩; exact ⟨by kernel_rfl, by kernel_rfl, by kernel_rfl⟩)) (by kernel_rfl) (by kernel_rfl) (by kernel_rfl) (by rintro _ _ ⟨_, ⟨_, ⟨_, _, _, _, rfl, rfl⟩, rfl⟩, rfl⟩; exact Nat.le_of_ble_eq_true (by kernel_rfl))) (by kernel_rfl) (by kernel_rfl) (by kernel_rfl) ?_
                        rintro _ _ ⟨_, _, ⟨_, ⟨_, ⟨v_35, p1_36, h1_37, f38, rfl, rfl⟩, rfl⟩, rfl⟩, rfl, rfl⟩
                        refine R.go 1 (R.any2 5 12 (by kernel_rfl) (by kernel_rfl) ?_ ?_)
                        · refine R.idx eI (upR n_2 xs_3) 0 ((v_11).toNat) v_11 (by kernel_rfl) (by omega) eI_len (by omega) (by kernel_rfl) ?_
                          refine R.go 1 (R.any2 6 12 (by kernel_rfl) (by kernel_rfl) ?_ ?_)
                          · refine R.go 2 (R.any2 12 14 (by kernel_rfl) (by kernel_rfl) ?_ ?_)
                            · refine R.idx eI (upR n_2 xs_3) 0 ((v_35).toNat) v_35 (by kernel_rfl) (by omega) eI_len (by omega) (by kernel_rfl) ?_
                              refine R.go 1 (R.any2 13 14 (by kernel_rfl) (by kernel_rfl) ?_ ?_)
                              · refine R.go 2 (R.any1 14 (by kernel_rfl) (by kernel_rfl) ?_)
                                refine R.go 2 (R.any1 15 (by kernel_rfl) (by kernel_rfl) ?_)
                                refine R.go 2 (R.any0 (by kernel_rfl) ?_)
                                exact R.metF (v_11, p1_12, h1_13, v_35, p1_36, h1_37) (by kernel_rfl) ⟨by first | assumption | omega, by first | assumption | omega⟩ (by kernel_rfl)
                              · refine R.go 2 (R.any1 13 (by kernel_rfl) (by kernel_rfl) ?_)
                                refine R.go 2 (R.any1 15 (by kernel_rfl) (by kernel_rfl) ?_)
                                refine R.go 2 (R.any0 (by kernel_rfl) ?_)
                                exact R.metF (v_11, p1_12, h1_13, v_35, p1_36, h1_37) (by kernel_rfl) ⟨by first | assumption | omega, by first | assumption | omega⟩ (by kernel_rfl)
                            · refine R.go 2 (R.any1 12 (by kernel_rfl) (by kernel_rfl) ?_)
                              refine R.idx eI (upR n_2 xs_3) 0 ((v_35).toNat) v_35 (by kernel_rfl) (by omega) eI_len (by omega) (by kernel_rfl) ?_
                              refine R.go 1 (R.any1 13 (by kernel_rfl) (by kernel_rfl) ?_)
                              refine R.go 2 (R.any1 15 (by kernel_rfl) (by kernel_rfl) ?_)
                              refine R.go 2 (R.any0 (by kernel_rfl) ?_)
                              exact R.metF (v_11, p1_12, h1_13, v_35, p1_36, h1_37) (by kernel_rfl) ⟨by first | assumption | omega, by first | assumption | omega⟩ (by kernel_rfl)
                          · refine R.idx eI (upR n_2 xs_3) 0 ((v_35).toNat) v_35 (by kernel_rfl) (by omega) eI_len (by omega) (by kernel_rfl) ?_
                            refine R.go 1 (R.any2 6 13 (by kernel_rfl) (by kernel_rfl) ?_ ?_)
                            · refine R.go 2 (R.any2 13 14 (by kernel_rfl) (by kernel_rfl) ?_ ?_)
                              · refine R.go 2 (R.any1 14 (by kernel_rfl) (by kernel_rfl) ?_)
                                refine R.go 2 (R.any1 15 (by kernel_rfl) (by kernel_rfl) ?_)
                                refine R.go 2 (R.any0 (by kernel_rfl) ?_)
                                exact R.metF (v_11, p1_12, h1_13, v_35, p1_36, h1_37) (by kernel_rfl) ⟨by first | assumption | omega, by first | assumption | omega⟩ (by kernel_rfl)
                              · refine R.go 2 (R.any1 13 (by kernel_rfl) (by kernel_rfl) ?_)
                                refine R.go 2 (R.any1 15 (by kernel_rfl) (by kernel_rfl) ?_)
                                refine R.go 2 (R.any0 (by kernel_rfl) ?_)
                                exact R.metF (v_11, p1_12, h1_13, v_35, p1_36, h1_37) (by kernel_rfl) ⟨by first | assumption | omega, by first | assumption | omega⟩ (by kernel_rfl)
                            · refine R.go 2 (R.any1 6 (by kernel_rfl) (by kernel_rfl) ?_)
                              refine R.go 2 (R.any1 14 (by kernel_rfl) (by kernel_rfl) ?_)
                              refine R.go 2 (R.any1 15 (by kernel_rfl) (by kernel_rfl) ?_)
                              refine R.go 2 (R.any0 (by kernel_rfl) ?_)
                              exact R.metF (v_11, p1_12, h1_13, v_35, p1_36, h1_37) (by kernel_rfl) ⟨by first | assumption | omega, by first | assumption | omega⟩ (by kernel_rfl)
                        · refine R.idx eI (upR n_2 xs_3) 0 ((v_35).toNat) v_35 (by kernel_rfl) (by omega) eI_len (by omega) (by kernel_rfl) ?_
                          refine R.go 1 (R.any2 5 13 (by kernel_rfl) (by kernel_rfl) ?_ ?_)
                          · refine R.idx eI (upR n_2 xs_3) 0 ((v_11).toNat) v_11 (by kernel_rfl) (by omega) eI_len (by omega) (by kernel_rfl) ?_
                            refine R.go 1 (R.any2 6 13 (by kernel_rfl) (by kernel_rfl) ?_ ?_)
                            · refine R.go 2 (R.any2 13 14 (by kernel_rfl) (by kernel_rfl) ?_ ?_)
                              · refine R.go 2 (R.any1 14 (by kernel_rfl) (by kernel_rfl) ?_)
                                refine R.go 2 (R.any1 15 (by kernel_rfl) (by kernel_rfl) ?_)
                                refine R.go 2 (R.any0 (by kernel_rfl) ?_)
                                exact R.metF (v_11, p1_12, h1_13, v_35, p1_36, h1_37) (by kernel_rfl) ⟨by first | assumption | omega, by first | assumption | omega⟩ (by kernel_rfl)
                              · refine R.go 2 (R.any1 13 (by kernel_rfl) (by kernel_rfl) ?_)
                                refine R.go 2 (R.any1 15 (by kernel_rfl) (by kernel_rfl) ?_)
                                refine R.go 2 (R.any0 (by kernel_rfl) ?_)
                                exact R.metF (v_11, p1_12, h1_13, v_35, p1_36, h1_37) (by kernel_rfl) ⟨by first | assumption | omega, by first | assumption | omega⟩ (by kernel_rfl)
                            · refine R.go 2 (R.any1 6 (by kernel_rfl) (by kernel_rfl) ?_)
                              refine R.go 2 (R.any1 14 (by kernel_rfl) (by kernel_rfl) ?_)
                              refine R.go 2 (R.any1 15 (by kernel_rfl) (by kernel_rfl) ?_)
                              refine R.go 2 (R.any0 (by kernel_rfl) ?_)
                              exact R.metF (v_11, p1_12, h1_13, v_35, p1_36, h1_37) (by kernel_rfl) ⟨by first | assumption | omega, by first | assumption | omega⟩ (by kernel_rfl)
                          · refine R.go 2 (R.any1 5 (by kernel_rfl) (by kernel_rfl) ?_)
                            refine R.idx eI (upR n_2 xs_3) 0 ((v_11).toNat) v_11 (by kernel_rfl) (by omega) eI_len (by omega) (by kernel_rfl) ?_
                            refine R.go 1 (R.any1 6 (by kernel_rfl) (by kernel_rfl) ?_)
                            refine R.go 2 (R.any1 14 (by kernel_rfl) (by kernel_rfl) ?_)
                            refine R.go 2 (R.any1 15 (by kernel_rfl) (by kernel_rfl) ?_)
                            refine R.go 2 (R.any0 (by kernel_rfl) ?_)
                            exact R.metF (v_11, p1_12, h1_13, v_35, p1_36, h1_37) (by kernel_rfl) ⟨by first | assumption | omega, by first | assumption | omega⟩ (by kernel_rfl)
                  · refine R.go 2 (R.any1 4 (by kernel_rfl) (by kernel_rfl) ?_)
                    refine R.callX (CallX.perm [1, 2, 0] [2, 0, 1] (CallX.box 2 26 [AI n_2, LI (invA xs_3 xs_3.length)] (CallX.box 1 26 [AI n_2, LI xs_3] (belowX_c_r2 c 0 h_10 ((upR n_2 xs_3).length) 26 2 1 [AI n_2, LI xs_3] 26 2 1 [AI n_2, LI (invA xs_3 xs_3.length)] hc) (by kernel_rfl) (by kernel_rfl) (by kernel_rfl) (by kernel_rfl) (by rintro _ _ ⟨_, _, _, _, rfl, rfl⟩; exact ⟨by kernel_rfl, by kernel_rfl, by kernel_rfl⟩)) (by kernel_rfl) (by kernel_rfl) (by kernel_rfl) (by kernel_rfl) (by rintro _ _ ⟨_, ⟨_, _, _, _, rfl, rfl⟩, rfl⟩; exact ⟨by kernel_rfl, by kernel_rfl, by kernel_rfl⟩)) (by kernel_rfl) (by kernel_rfl) (by kernel_rfl) (by rintro _ _ ⟨_, ⟨_, ⟨_, _, _, _, rfl, rfl⟩, rfl⟩, rfl⟩; exact Nat.le_of_ble_eq_true (by kernel_rfl))) (by kernel_rfl) (by kernel_rfl) (by kernel_rfl) ?_
                    rintro _ _ ⟨_, _, ⟨_, ⟨_, ⟨v_39, p1_40, h1_41, f42, rfl, rfl⟩, rfl⟩, rfl⟩, rfl, rfl⟩
                    refine R.go 1 (R.any2 5 11 (by kernel_rfl) (by kernel_rfl) ?_ ?_)
                    · refine R.idx eI (upR n_2 xs_3) 0 ((v_39).toNat) v_39 (by kernel_rfl) (by omega) eI_len (by omega) (by kernel_rfl) ?_
                      refine R.go 1 (R.any2 6 11 (by kernel_rfl) (by kernel_rfl) ?_ ?_)
                      · refine R.go 2 (R.any1 11 (by kernel_rfl) (by kernel_rfl) ?_)
                        refine R.callX (CallX.perm [1, 2, 0] [2, 0, 1] (CallX.box 2 26 [AI n_2, LI (invA xs_3 xs_3.length)] (CallX.box 1 26 [AI n_2, LI xs_3] (belowX_c_r2 c p1_40 h1_41 ((upR n_2 xs_3).length) 26 2 1 [AI n_2, LI xs_3] 26 2 1 [AI n_2, LI (invA xs_3 xs_3.length)] hc) (by kernel_rfl) (by kernel_rfl) (by kernel_rfl) (by kernel_rfl) (by rintro _ _ ⟨_, _, _, _, rfl, rfl⟩; exact ⟨by kernel_rfl, by kernel_rfl, by kernel_rfl⟩)) (by kernel_rfl) (by kernel_rfl) (by kernel_rfl) (by kernel_rfl) (by rintro _ _ ⟨_, ⟨_, _, _, _, rfl, rfl⟩, rfl⟩; exact ⟨by kernel_rfl, by kernel_rfl, by kernel_rfl⟩)) (by kernel_rfl) (by kernel_rfl) (by kernel_rfl) (by rintro _ _ ⟨_, ⟨_, ⟨_, _, _, _, rfl, rfl⟩, rfl⟩, rfl⟩; exact Nat.le_of_ble_eq_true (by kernel_rfl))) (by kernel_rfl) (by kernel_rfl) (by kernel_rfl) ?_
                        rintro _ _ ⟨_, _, ⟨_, ⟨_, ⟨v_43, p1_44, h1_45, f46, rfl, rfl⟩, rfl⟩, rfl⟩, rfl, rfl⟩
                        refine R.go 1 (R.any2 12 14 (by kernel_rfl) (by kernel_rfl) ?_ ?_)
                        · refine R.idx eI (upR n_2 xs_3) 0 ((v_43).toNat) v_43 (by kernel_rfl) (by omega) eI_len (by omega) (by kernel_rfl) ?_
                          refine R.go 1 (R.any2 13 14 (by kernel_rfl) (by kernel_rfl) ?_ ?_)
                          · refine R.go 2 (R.any1 14 (by kernel_rfl) (by kernel_rfl) ?_)
                            refine R.go 2 (R.any1 15 (by kernel_rfl) (by kernel_rfl) ?_)
                            refine R.go 2 (R.any0 (by kernel_rfl) ?_)
                            exact R.metF (v_39, p1_40, h1_41, v_43, p1_44, h1_45) (by kernel_rfl) ⟨by first | assumption | omega, by first | assumption | omega⟩ (by kernel_rfl)
                          · refine R.go 2 (R.any1 13 (by kernel_rfl) (by kernel_rfl) ?_)
                            refine R.go 2 (R.any1 15 (by kernel_rfl) (by kernel_rfl) ?_)
                            refine R.go 2 (R.any0 (by kernel_rfl) ?_)
                            exact R.metF (v_39, p1_40, h1_41, v_43, p1_44, h1_45) (by kernel_rfl) ⟨by first | assumption | omega, by first | assumption | omega⟩ (by kernel_rfl)
                        · refine R.go 2 (R.any1 12 (by kernel_rfl) (by kernel_rfl) ?_)
                          refine R.idx eI (upR n_2 xs_3) 0 ((v_43).toNat) v_43 (by kernel_rfl) (by omega) eI_len (by omega) (by kernel_rfl) ?_
                          refine R.go 1 (R.any1 13 (by kernel_rfl) (by kernel_rfl) ?_)
                          refine R.go 2 (R.any1 15 (by kernel_rfl) (by kernel_rfl) ?_)
                          refine R.go 2 (R.any0 (by kernel_rfl) ?_)
                          exact R.metF (v_39, p1_40, h1_41, v_43, p1_44, h1_45) (by kernel_rfl) ⟨by first | assumption | omega, by first | assumption | omega⟩ (by kernel_rfl)
                      · refine R.callX (CallX.perm [1, 2, 0] [2, 0, 1] (CallX.box 2 26 [AI n_2, LI (invA xs_3 xs_3.length)] (CallX.box 1 26 [AI n_2, LI xs_3] (belowX_c_r2 c p1_40 h1_41 ((upR n_2 xs_3).length) 26 2 1 [AI n_2, LI xs_3] 26 2 1 [AI n_2, LI (invA xs_3 xs_3.length)] hc) (by kernel_rfl) (by kernel_rfl) (by kernel_rfl) (by kernel_rfl) (by rintro _ _ ⟨_, _, _, _, rfl, rfl⟩; exact ⟨by kernel_rfl, by kernel_rfl, by kernel_rfl⟩)) (by kernel_rfl) (by kernel_rfl) (by kernel_rfl) (by kernel_rfl) (by rintro _ _ ⟨_, ⟨_, _, _, _, rfl, rfl⟩, rfl⟩; exact ⟨by kernel_rfl, by kernel_rfl, by kernel_rfl⟩)) (by kernel_rfl) (by kernel_rfl) (by kernel_rfl) (by rintro _ _ ⟨_, ⟨_, ⟨_, _, _, _, rfl, rfl⟩, rfl⟩, rfl⟩; exact Nat.le_of_ble_eq_true (by kernel_rfl))) (by kernel_rfl) (by kernel_rfl) (by kernel_rfl) ?_
                        rintro _ _ ⟨_, _, ⟨_, ⟨_, ⟨v_47, p1_48, h1_49, f50, rfl, rfl⟩, rfl⟩, rfl⟩, rfl, rfl⟩
                        refine R.go 1 (R.any2 6 12 (by kernel_rfl) (by kernel_rfl) ?_ ?_)
                        · refine R.go 2 (R.any2 12 14 (by kernel_rfl) (by kernel_rfl) ?_ ?_)
                          · refine R.idx eI (upR n_2 xs_3) 0 ((v_47).toNat) v_47 (by kernel_rfl) (by omega) eI_len (by omega) (by kernel_rfl) ?_
                            refine R.go 1 (R.any2 13 14 (by kernel_rfl) (by kernel_rfl) ?_ ?_)
                            · refine R.go 2 (R.any1 14 (by kernel_rfl) (by kernel_rfl) ?_)
                              refine R.go 2 (R.any1 15 (by kernel_rfl) (by kernel_rfl) ?_)
                              refine R.go 2 (R.any0 (by kernel_rfl) ?_)
                              exact R.metF (v_39, p1_40, h1_41, v_47, p1_48, h1_49) (by kernel_rfl) ⟨by first | assumption | omega, by first | assumption | omega⟩ (by kernel_rfl)
                            · refine R.go 2 (R.any1 13 (by kernel_rfl) (by kernel_rfl) ?_)
                              refine R.go 2 (R.any1 15 (by kernel_rfl) (by kernel_rfl) ?_)
                              refine R.go 2 (R.any0 (by kernel_rfl) ?_)
                              exact R.metF (v_39, p1_40, h1_41, v_47, p1_48, h1_49) (by kernel_rfl) ⟨by first | assumption | omega, by first | assumption | omega⟩ (by kernel_rfl)
                          · refine R.go 2 (R.any1 12 (by kernel_rfl) (by kernel_rfl) ?_)
                            refine R.idx eI (upR n_2 xs_3) 0 ((v_47).toNat) v_47 (by kernel_rfl) (by omega) eI_len (by omega) (by kernel_rfl) ?_
                            refine R.go 1 (R.any1 13 (by kernel_rfl) (by kernel_rfl) ?_)
                            refine R.go 2 (R.any1 15 (by kernel_rfl) (by kernel_rfl) ?_)
                            refine R.go 2 (R.any0 (by kernel_rfl) ?_)
                            exact R.metF (v_39, p1_40, h1_41, v_47, p1_48, h1_49) (by kernel_rfl) ⟨by first | assumption | omega, by first | assumption | omega⟩ (by kernel_rfl)
                        · refine R.idx eI (upR n_2 xs_3) 0 ((v_47).toNat) v_47 (by kernel_rfl) (by omega) eI_len (by omega) (by kernel_rfl) ?_
                          refine R.go 1 (R.any2 6 13 (by kernel_rfl) (by kernel_rfl) ?_ ?_)
                          · refine R.go 2 (R.any2 13 14 (by kernel_rfl) (by kernel_rfl) ?_ ?_)
                            · refine R.go 2 (R.any1 14 (by kernel_rfl) (by kernel_rfl) ?_)
                              refine R.go 2 (R.any1 15 (by kernel_rfl) (by kernel_rfl) ?_)
                              refine R.go 2 (R.any0 (by kernel_rfl) ?_)
                              exact R.metF (v_39, p1_40, h1_41, v_47, p1_48, h1_49) (by kernel_rfl) ⟨by first | assumption | omega, by first | assumption | omega⟩ (by kernel_rfl)
                            · refine R.go 2 (R.any1 13 (by kernel_rfl) (by kernel_rfl) ?_)
                              refine R.go 2 (R.any1 15 (by kernel_rfl) (by kernel_rfl) ?_)
                              refine R.go 2 (R.any0 (by kernel_rfl) ?_)
                              exact R.metF (v_39, p1_40, h1_41, v_47, p1_48, h1_49) (by kernel_rfl) ⟨by first | assumption | omega, by first | assumption | omega⟩ (by kernel_rfl)
                          · refine R.go 2 (R.any1 6 (by kernel_rfl) (by kernel_rfl) ?_)
                            refine R.go 2 (R.any1 14 (by kernel_rfl) (by kernel_rfl) ?_)
                            refine R.go 2 (R.any1 15 (by kernel_rfl) (by kernel_rfl) ?_)
                            refine R.go 2 (R.any0 (by kernel_rfl) ?_)
                            exact R.metF (v_39, p1_40, h1_41, v_47, p1_48, h1_49) (by kernel_rfl) ⟨by first | assumption | omega, by first | assumption | omega⟩ (by kernel_rfl)
                    · refine R.callX (CallX.perm [1, 2, 0] [2, 0, 1] (CallX.box 2 26 [AI n_2, LI (invA xs_3 xs_3.length)] (CallX.box 1 26 [AI n_2, LI xs_3] (belowX_c_r2 c p1_40 h1_41 ((upR n_2 xs_3).length) 26 2 1 [AI n_2, LI xs_3] 26 2 1 [AI n_2, LI (invA xs_3 xs_3.length)] hc) (by kernel_rfl) (by kernel_rfl) (by kernel_rfl) (by kernel_rfl) (by rintro _ _ ⟨_, _, _, _, rfl, rfl⟩; exact ⟨by kernel_rfl, by kernel_rfl, by kernel_rfl⟩)) (by kernel_rfl) (by kernel_rfl) (by kernel_rfl) (by kernel_rfl) (by rintro _ _ ⟨_, ⟨_, _, _, _, rfl, rfl⟩, rfl⟩; exact ⟨by kernel_rfl, by kernel_rfl, by kernel_rfl⟩)) (by kernel_rfl) (by kernel_rfl) (by kernel_rfl) (by rintro _ _ ⟨_, ⟨_, ⟨_, _, _, _, rfl, rfl⟩, rfl⟩, rfl⟩; exact Nat.le_of_ble_eq_true (by kernel_rfl))) (by kernel_rfl) (by kernel_rfl) (by kernel_rfl) ?_
                      rintro _ _ ⟨_, _, ⟨_, ⟨_, ⟨v_51, p1_52, h1_53, f54, rfl, rfl⟩, rfl⟩, rfl⟩, rfl, rfl⟩
                      refine R.go 1 (R.any2 5 12 (by kernel_rfl) (by kernel_rfl) ?_ ?_)
                      · refine R.idx eI (upR n_2 xs_3) 0 ((v_39).toNat) v_39 (by kernel_rfl) (by omega) eI_len (by omega) (by kernel_rfl) ?_
                        refine R.go 1 (R.any2 6 12 (by kernel_rfl) (by kernel_rfl) ?_ ?_)
                        · refine R.go 2 (R.any2 12 14 (by kernel_rfl) (by kernel_rfl) ?_ ?_)
                          · refine R.idx eI (upR n_2 xs_3) 0 ((v_51).toNat) v_51 (by kernel_rfl) (by omega) eI_len (by omega) (by kernel_rfl) ?_
                            refine R.go 1 (R.any2 13 14 (by kernel_rfl) (by kernel_rfl) ?_ ?_)
                            · refine R.go 2 (R.any1 14 (by kernel_rfl) (by kernel_rfl) ?_)
                              refine R.go 2 (R.any1 15 (by kernel_rfl) (by kernel_rfl) ?_)
                              refine R.go 2 (R.any0 (by kernel_rfl) ?_)
                              exact R.metF (v_39, p1_40, h1_41, v_51, p1_52, h1_53) (by kernel_rfl) ⟨by first | assumption | omega, by first | assumption | omega⟩ (by kernel_rfl)
                            · refine R.go 2 (R.any1 13 (by kernel_rfl) (by kernel_rfl) ?_)
                              refine R.go 2 (R.any1 15 (by kernel_rfl) (by kernel_rfl) ?_)
                              refine R.go 2 (R.any0 (by kernel_rfl) ?_)
                              exact R.metF (v_39, p1_40, h1_41, v_51, p1_52, h1_53) (by kernel_rfl) ⟨by first | assumption | omega, by first | assumption | omega⟩ (by kernel_rfl)
                          · refine R.go 2 (R.any1 12 (by kernel_rfl) (by kernel_rfl) ?_)
                            refine R.idx eI (upR n_2 xs_3) 0 ((v_51).toNat) v_51 (by kernel_rfl) (by omega) eI_len (by omega) (by kernel_rfl) ?_
                            refine R.go 1 (R.any1 13 (by kernel_rfl) (by kernel_rfl) ?_)
                            refine R.go 2 (R.any1 15 (by kernel_rfl) (by kernel_rfl) ?_)
                            refine R.go 2 (R.any0 (by kernel_rfl) ?_)
                            exact R.metF (v_39, p1_40, h1_41, v_51, p1_52, h1_53) (by kernel_rfl) ⟨by first | assumption | omega, by first | assumption | omega⟩ (by kernel_rfl)
                        · refine R.idx eI (upR n_2 xs_3) 0 ((v_51).toNat) v_51 (by kernel_rfl) (by omega) eI_len (by omega) (by kernel_rfl) ?_
                          refine R.go 1 (R.any2 6 13 (by kernel_rfl) (by kernel_rfl) ?_ ?_)
                          · refine R.go 2 (R.any2 13 14 (by kernel_rfl) (by kernel_rfl) ?_ ?_)
                            · refine R.go 2 (R.any1 14 (by kernel_rfl) (by kernel_rfl) ?_)
                              refine R.go 2 (R.any1 15 (by kernel_rfl) (by kernel_rfl) ?_)
                              refine R.go 2 (R.any0 (by kernel_rfl) ?_)
                              exact R.metF (v_39, p1_40, h1_41, v_51, p1_52, h1_53) (by kernel_rfl) ⟨by first | assumption | omega, by first | assumption | omega⟩ (by kernel_rfl)
                            · refine R.go 2 (R.any1 13 (by kernel_rfl) (by kernel_rfl) ?_)
                              refine R.go 2 (R.any1 15 (by kernel_rfl) (by kernel_rfl) ?_)
                              refine R.go 2 (R.any0 (by kernel_rfl) ?_)
                              exact R.metF (v_39, p1_40, h1_41, v_51, p1_52, h1_53) (by kernel_rfl) ⟨by first | assumption | omega, by first | assumption | omega⟩ (by kernel_rfl)
                          · refine R.go 2 (R.any1 6 (by kernel_rfl) (by kernel_rfl) ?_)
                            refine R.go 2 (R.any1 14 (by kernel_rfl) (by kernel_rfl) ?_)
                            refine R.go 2 (R.any1 15 (by kernel_rfl) (by kernel_rfl) ?_)
                            refine R.go 2 (R.any0 (by kernel_rfl) ?_)
                            exact R.metF (v_39, p1_40, h1_41, v_51, p1_52, h1_53) (by kernel_rfl) ⟨by first | assumption | omega, by first | assumption | omega⟩ (by kernel_rfl)
                      · refine R.idx eI (upR n_2 xs_3) 0 ((v_51).toNat) v_51 (by kernel_rfl) (by omega) eI_len (by omega) (by kernel_rfl) ?_
                        refine R.go 1 (R.any2 5 13 (by kernel_rfl) (by kernel_rfl) ?_ ?_)
                        · refine R.idx eI (upR n_2 xs_3) 0 ((v_39).toNat) v_39 (by kernel_rfl) (by omega) eI_len (by omega) (by kernel_rfl) ?_
                          refine R.go 1 (R.any2 6 13 (by kernel_rfl) (by kernel_rfl) ?_ ?_)
                          · refine R.go 2 (R.any2 13 14 (by kernel_rfl) (by kernel_rfl) ?_ ?_)
                            · refine R.go 2 (R.any1 14 (by kernel_rfl) (by kernel_rfl) ?_)
                              refine R.go 2 (R.any1 15 (by kernel_rfl) (by kernel_rfl) ?_)
                              refine R.go 2 (R.any0 (by kernel_rfl) ?_)
                              exact R.metF (v_39, p1_40, h1_41, v_51, p1_52, h1_53) (by kernel_rfl) ⟨by first | assumption | omega, by first | assumption | omega⟩ (by kernel_rfl)
                            · refine R.go 2 (R.any1 13 (by kernel_rfl) (by kernel_rfl) ?_)
                              refine R.go 2 (R.any1 15 (by kernel_rfl) (by kernel_rfl) ?_)
                              refine R.go 2 (R.any0 (by kernel_rfl) ?_)
                              exact R.metF (v_39, p1_40, h1_41, v_51, p1_52, h1_53) (by kernel_rfl) ⟨by first | assumption | omega, by first | assumption | omega⟩ (by kernel_rfl)
                          · refine R.go 2 (R.any1 6 (by kernel_rfl) (by kernel_rfl) ?_)
                            refine R.go 2 (R.any1 14 (by kernel_rfl) (by kernel_rfl) ?_)
                            refine R.go 2 (R.any1 15 (by kernel_rfl) (by kernel_rfl) ?_)
                            refine R.go 2 (R.any0 (by kernel_rfl) ?_)
                            exact R.metF (v_39, p1_40, h1_41, v_51, p1_52, h1_53) (by kernel_rfl) ⟨by first | assumption | omega, by first | assumption | omega⟩ (by kernel_rfl)
                        · refine R.go 2 (R.any1 5 (by kernel_rfl) (by kernel_rfl) ?_)
                          refine R.idx eI (upR n_2 xs_3) 0 ((v_39).toNat) v_39 (by kernel_rfl) (by omega) eI_len (by omega) (by kernel_rfl) ?_
                          refine R.go 1 (R.any1 6 (by kernel_rfl) (by kernel_rfl) ?_)
                          refine R.go 2 (R.any1 14 (by kernel_rfl) (by kernel_rfl) ?_)
                          refine R.go 2 (R.any1 15 (by kernel_rfl) (by kernel_rfl) ?_)
                          refine R.go 2 (R.any0 (by kernel_rfl) ?_)
                          exact R.metF (v_39, p1_40, h1_41, v_51, p1_52, h1_53) (by kernel_rfl) ⟨by first | assumption | omega, by first | assumption | omega⟩ (by kernel_rfl)
                · refine R.go 2 (R.any1 3 (by kernel_rfl) (by kernel_rfl) ?_)
                  refine R.go 2 (R.any1 4 (by kernel_rfl) (by kernel_rfl) ?_)
                  refine R.callX (CallX.perm [1, 2, 0] [2, 0, 1] (CallX.box 2 26 [AI n_2, LI (invA xs_3 xs_3.length)] (CallX.box 1 26 [AI n_2, LI xs_3] (belowX_c_r2 c 0 h_10 ((upR n_2 xs_3).length) 26 2 1 [AI n_2, LI xs_3] 26 2 1 [AI n_2, LI (invA xs_3 xs_3.length)] hc) (by kernel_rfl) (by kernel_rfl) (by kernel_rfl) (by kernel_rfl) (by rintro _ _ ⟨_, _, _, _, rfl, rfl⟩; exact ⟨by kernel_rfl, by kernel_rfl, by kernel_rfl⟩)) (by kernel_rfl) (by kernel_rfl) (by kernel_rfl) (by kernel_rfl) (by rintro _ _ ⟨_, ⟨_, _, _, _, rfl, rfl⟩, rfl⟩; exact ⟨by kernel_rfl, by kernel_rfl, by kernel_rfl⟩)) (by kernel_rfl) (by kernel_rfl) (by kernel_rfl) (by rintro _ _ ⟨_, ⟨_, ⟨_, _, _, _, rfl, rfl⟩, rfl⟩, rfl⟩; exact Nat.le_of_ble_eq_true (by kernel_rfl))) (by kernel_rfl) (by kernel_rfl) (by kernel_rfl) ?_
                  rintro _ _ ⟨_, _, ⟨_, ⟨_, ⟨v_55, p1_56, h1_57, f58, rfl, rfl⟩, rfl⟩, rfl⟩, rfl, rfl⟩
                  refine R.go 1 (R.any2 5 11 (by kernel_rfl) (by kernel_rfl) ?_ ?_)
                  · refine R.idx eI (upR n_2 xs_3) 0 ((v_55).toNat) v_55 (by kernel_rfl) (by omega) eI_len (by omega) (by kernel_rfl) ?_
                    refine R.go 1 (R.any2 6 11 (by kernel_rfl) (by kernel_rfl) ?_ ?_)
                    · refine R.go 2 (R.any1 11 (by kernel_rfl) (by kernel_rfl) ?_)
                      refine R.callX (CallX.perm [1, 2, 0] [2, 0, 1] (CallX.box 2 26 [AI n_2, LI (invA xs_3 xs_3.length)] (CallX.box 1 26 [AI n_2, LI xs_3] (belowX_c_r2 c p1_56 h1_57 ((upR n_2 xs_3).length) 26 2 1 [AI n_2, LI xs_3] 26 2 1 [AI n_2, LI (invA xs_3 xs_3.length)] hc) (by kernel_rfl) (by kernel_rfl) (by kernel_rfl) (by kernel_rfl) (by rintro _ _ ⟨_, _, _, _, rfl, rfl⟩; exact ⟨by kernel_rfl, by kernel_rfl, by kernel_rfl⟩)) (by kernel_rfl) (by kernel_rfl) (by kernel_rfl) (by kernel_rfl) (by rintro _ _ ⟨_, ⟨_, _, _, _, rfl, rfl⟩, rfl⟩; exact ⟨by kernel_rfl, by kernel_rfl, by kernel_rfl⟩)) (by kernel_rfl) (by kernel_rfl) (by kernel_rfl) (by rintro _ _ ⟨_, ⟨_, ⟨_, _, _, _, rfl, rfl⟩, rfl⟩, rfl⟩; exact Nat.le_of_ble_eq_true (by kernel_rfl))) (by kernel_rfl) (by kernel_rfl) (by kernel_rfl) ?_
                      rintro _ _ ⟨_, _, ⟨_, ⟨_, ⟨v_59, p1_60, h1_61, f62, rfl, rfl⟩, rfl⟩, rfl⟩, rfl, rfl⟩
                      refine R.go 1 (R.any2 12 14 (by kernel_rfl) (by kernel_rfl) ?_ ?_)
                      · refine R.idx eI (upR n_2 xs_3) 0 ((v_59).toNat) v_59 (by kernel_rfl) (by omega) eI_len (by omega) (by kernel_rfl) ?_
                        refine R.go 1 (R.any2 13 14 (by kernel_rfl) (by kernel_rfl) ?_ ?_)
                        · refine R.go 2 (R.any1 14 (by kernel_rfl) (by kernel_rfl) ?_)
                          refine R.go 2 (R.any1 15 (by kernel_rfl) (by kernel_rfl) ?_)
                          refine R.go 2 (R.any0 (by kernel_rfl) ?_)
                          exact R.metF (v_55, p1_56, h1_57, v_59, p1_60, h1_61) (by kernel_rfl) ⟨by first | assumption | omega, by first | assumption | omega⟩ (by kernel_rfl)
                        · refine R.go 2 (R.any1 13 (by kernel_rfl) (by kernel_rfl) ?_)
                          refine R.go 2 (R.any1 15 (by kernel_rfl) (by kernel_rfl) ?_)
                          refine R.go 2 (R.any0 (by kernel_rfl) ?_)
                          exact R.metF (v_55, p1_56, h1_57, v_59, p1_60, h1_61) (by kernel_rfl) ⟨by first | assumption | omega, by first | assumption | omega⟩ (by kernel_rfl)
                      · refine R.go 2 (R.any1 12 (by kernel_rfl) (by kernel_rfl) ?_)
                        refine R.idx eI (upR n_2 xs_3) 0 ((v_59).toNat) v_59 (by kernel_rfl) (by omega) eI_len (by omega) (by kernel_rfl) ?_
                        refine R.go 1 (R.any1 13 (by kernel_rfl) (by kernel_rfl) ?_)
                        refine R.go 2 (R.any1 15 (by kernel_rfl) (by kernel_rfl) ?_)
                        refine R.go 2 (R.any0 (by kernel_rfl) ?_)
                        exact R.metF (v_55, p1_56, h1_57, v_59, p1_60, h1_61) (by kernel_rfl) ⟨by first | assumption | omega, by first | assumption | omega⟩ (by kernel_rfl)
                    · refine R.callX (CallX.perm [1, 2, 0] [2, 0, 1] (CallX.box 2 26 [AI n_2, LI (invA xs_3 xs_3.length)] (CallX.box 1 26 [AI n_2, LI xs_3] (belowX_c_r2 c p1_56 h1_57 ((upR n_2 xs_3).length) 26 2 1 [AI n_2, LI xs_3] 26 2 1 [AI n_2, LI (invA xs_3 xs_3.length)] hc) (by kernel_rfl) (by kernel_rfl) (by kernel_rfl) (by kernel_rfl) (by rintro _ _ ⟨_, _, _, _, rfl, rfl⟩; exact ⟨by kernel_rfl, by kernel_rfl, by kernel_rfl⟩)) (by kernel_rfl) (by kernel_rfl) (by kernel_rfl) (by kernel_rfl) (by rintro _ _ ⟨_, ⟨_, _, _, _, rfl, rfl⟩, rfl⟩; exact ⟨by kernel_rfl, by kernel_rfl, by kernel_rfl⟩)) (by kernel_rfl) (by kernel_rfl) (by kernel_rfl) (by rintro _ _ ⟨_, ⟨_, ⟨_, _, _, _, rfl, rfl⟩, rfl⟩, rfl⟩; exact Nat.le_of_ble_eq_true (by kernel_rfl))) (by kernel_rfl) (by kernel_rfl) (by kernel_rfl) ?_
                      rintro _ _ ⟨_, _, ⟨_, ⟨_, ⟨v_63, p1_64, h1_65, f66, rfl, rfl⟩, rfl⟩, rfl⟩, rfl, rfl⟩
                      refine R.go 1 (R.any2 6 12 (by kernel_rfl) (by kernel_rfl) ?_ ?_)
                      · refine R.go 2 (R.any2 12 14 (by kernel_rfl) (by kernel_rfl) ?_ ?_)
                        · refine R.idx eI (upR n_2 xs_3) 0 ((v_63).toNat) v_63 (by kernel_rfl) (by omega) eI_len (by omega) (by kernel_rfl) ?_
                          refine R.go 1 (R.any2 13 14 (by kernel_rfl) (by kernel_rfl) ?_ ?_)
                          · refine R.go 2 (R.any1 14 (by kernel_rfl) (by kernel_rfl) ?_)
                            refine R.go 2 (R.any1 15 (by kernel_rfl) (by kernel_rfl) ?_)
                            refine R.go 2 (R.any0 (by kernel_rfl) ?_)
                            exact R.metF (v_55, p1_56, h1_57, v_63, p1_64, h1_65) (by kernel_rfl) ⟨by first | assumption | omega, by first | assumption | omega⟩ (by kernel_rfl)
                          · refine R.go 2 (R.any1 13 (by kernel_rfl) (by kernel_rfl) ?_)
                            refine R.go 2 (R.any1 15 (by kernel_rfl) (by kernel_rfl) ?_)
                            refine R.go 2 (R.any0 (by kernel_rfl) ?_)
                            exact R.metF (v_55, p1_56, h1_57, v_63, p1_64, h1_65) (by kernel_rfl) ⟨by first | assumption | omega, by first | assumption | omega⟩ (by kernel_rfl)
                        · refine R.go 2 (R.any1 12 (by kernel_rfl) (by kernel_rfl) ?_)
                          refine R.idx eI (upR n_2 xs_3) 0 ((v_63).toNat) v_63 (by kernel_rfl) (by omega) eI_len (by omega) (by kernel_rfl) ?_
                          refine R.go 1 (R.any1 13 (by kernel_rfl) (by kernel_rfl) ?_)
                          refine R.go 2 (R.any1 15 (by kernel_rfl) (by kernel_rfl) ?_)
                          refine R.go 2 (R.any0 (by kernel_rfl) ?_)
                          exact R.metF (v_55, p1_56, h1_57, v_63, p1_64, h1_65) (by kernel_rfl) ⟨by first | assumption | omega, by first | assumption | omega⟩ (by kernel_rfl)
                      · refine R.idx eI (upR n_2 xs_3) 0 ((v_63).toNat) v_63 (by kernel_rfl) (by omega) eI_len (by omega) (by kernel_rfl) ?_
                        refine R.go 1 (R.any2 6 13 (by kernel_rfl) (by kernel_rfl) ?_ ?_)
                        · refine R.go 2 (R.any2 13 14 (by kernel_rfl) (by kernel_rfl) ?_ ?_)
                          · refine R.go 2 (R.any1 14 (by kernel_rfl) (by kernel_rfl) ?_)
                            refine R.go 2 (R.any1 15 (by kernel_rfl) (by kernel_rfl) ?_)
                            refine R.go 2 (R.any0 (by kernel_rfl) ?_)
                            exact R.metF (v_55, p1_56, h1_57, v_63, p1_64, h1_65) (by kernel_rfl) ⟨by first | assumption | omega, by first | assumption | omega⟩ (by kernel_rfl)
                          · refine R.go 2 (R.any1 13 (by kernel_rfl) (by kernel_rfl) ?_)
                            refine R.go 2 (R.any1 15 (by kernel_rfl) (by kernel_rfl) ?_)
                            refine R.go 2 (R.any0 (by kernel_rfl) ?_)
                            exact R.metF (v_55, p1_56, h1_57, v_63, p1_64, h1_65) (by kernel_rfl) ⟨by first | assumption | omega, by first | assumption | omega⟩ (by kernel_rfl)
                        · refine R.go 2 (R.any1 6 (by kernel_rfl) (by kernel_rfl) ?_)
                          refine R.go 2 (R.any1 14 (by kernel_rfl) (by kernel_rfl) ?_)
                          refine R.go 2 (R.any1 15 (by kernel_rfl) (by kernel_rfl) ?_)
                          refine R.go 2 (R.any0 (by kernel_rfl) ?_)
                          exact R.metF (v_55, p1_56, h1_57, v_63, p1_64, h1_65) (by kernel_rfl) ⟨by first | assumption | omega, by first | assumption | omega⟩ (by kernel_rfl)
                  · refine R.callX (CallX.perm [1, 2, 0] [2, 0, 1] (CallX.box 2 26 [AI n_2, LI (invA xs_3 xs_3.length)] (CallX.box 1 26 [AI n_2, LI xs_3] (belowX_c_r2 c p1_56 h1_57 ((upR n_2 xs_3).length) 26 2 1 [AI n_2, LI xs_3] 26 2 1 [AI n_2, LI (invA xs_3 xs_3.length)] hc) (by kernel_rfl) (by kernel_rfl) (by kernel_rfl) (by kernel_rfl) (by rintro _ _ ⟨_, _, _, _, rfl, rfl⟩; exact ⟨by kernel_rfl, by kernel_rfl, by kernel_rfl⟩)) (by kernel_rfl) (by kernel_rfl) (by kernel_rfl) (by kernel_rfl) (by rintro _ _ ⟨_, ⟨_, _, _, _, rfl, rfl⟩, rfl⟩; exact ⟨by kernel_rfl, by kernel_rfl, by kernel_rfl⟩)) (by kernel_rfl) (by kernel_rfl) (by kernel_rfl) (by rintro _ _ ⟨_, ⟨_, ⟨_, _, _, _, rfl, rfl⟩, rfl⟩, rfl⟩; exact Nat.le_of_ble_eq_true (by kernel_rfl))) (by kernel_rfl) (by kernel_rfl) (by kernel_rfl) ?_
                    rintro _ _ ⟨_, _, ⟨_, ⟨_, ⟨v_67, p1_68, h1_69, f70, rfl, rfl⟩, rfl⟩, rfl⟩, rfl, rfl⟩
                    refine R.go 1 (R.any2 5 12 (by kernel_rfl) (by kernel_rfl) ?_ ?_)
                    · refine R.idx eI (upR n_2 xs_3) 0 ((v_55).toNat) v_55 (by kernel_rfl) (by omega) eI_len (by omega) (by kernel_rfl) ?_
                      refine R.go 1 (R.any2 6 12 (by kernel_rfl) (by kernel_rfl) ?_ ?_)
                      · refine R.go 2 (R.any2 12 14 (by kernel_rfl) (by kernel_rfl) ?_ ?_)
                        · refine R.idx eI (upR n_2 xs_3) 0 ((v_67).toNat) v_67 (by kernel_rfl) (by omega) eI_len (by omega) (by kernel_rfl) ?_
                          refine R.go 1 (R.any2 13 14 (by kernel_rfl) (by kernel_rfl) ?_ ?_)
                          · refine R.go 2 (R.any1 14 (by kernel_rfl) (by kernel_rfl) ?_)
                            refine R.go 2 (R.any1 15 (by kernel_rfl) (by kernel_rfl) ?_)
                            refine R.go 2 (R.any0 (by kernel_rfl) ?_)
                            exact R.metF (v_55, p1_56, h1_57, v_67, p1_68, h1_69) (by kernel_rfl) ⟨by first | assumption | omega, by first | assumption | omega⟩ (by kernel_rfl)
                          · refine R.go 2 (R.any1 13 (by kernel_rfl) (by kernel_rfl) ?_)
                            refine R.go 2 (R.any1 15 (by kernel_rfl) (by kernel_rfl) ?_)
                            refine R.go 2 (R.any0 (by kernel_rfl) ?_)
                            exact R.metF (v_55, p1_56, h1_57, v_67, p1_68, h1_69) (by kernel_rfl) ⟨by first | assumption | omega, by first | assumption | omega⟩ (by kernel_rfl)
                        · refine R.go 2 (R.any1 12 (by kernel_rfl) (by kernel_rfl) ?_)
                          refine R.idx eI (upR n_2 xs_3) 0 ((v_67).toNat) v_67 (by kernel_rfl) (by omega) eI_len (by omega) (by kernel_rfl) ?_
                          refine R.go 1 (R.any1 13 (by kernel_rfl) (by kernel_rfl) ?_)
                          refine R.go 2 (R.any1 15 (by kernel_rfl) (by kernel_rfl) ?_)
                          refine R.go 2 (R.any0 (by kernel_rfl) ?_)
                          exact R.metF (v_55, p1_56, h1_57, v_67, p1_68, h1_69) (by kernel_rfl) ⟨by first | assumption | omega, by first | assumption | omega⟩ (by kernel_rfl)
                      · refine R.idx eI (upR n_2 xs_3) 0 ((v_67).toNat) v_67 (by kernel_rfl) (by omega) eI_len (by omega) (by kernel_rfl) ?_
                        refine R.go 1 (R.any2 6 13 (by kernel_rfl) (by kernel_rfl) ?_ ?_)
                        · refine R.go 2 (R.any2 13 14 (by kernel_rfl) (by kernel_rfl) ?_ ?_)
                          · refine R.go 2 (R.any1 14 (by kernel_rfl) (by kernel_rfl) ?_)
                            refine R.go 2 (R.any1 15 (by kernel_rfl) (by kernel_rfl) ?_)
                            refine R.go 2 (R.any0 (by kernel_rfl) ?_)
                            exact R.metF (v_55, p1_56, h1_57, v_67, p1_68, h1_69) (by kernel_rfl) ⟨by first | assumption | omega, by first | assumption | omega⟩ (by kernel_rfl)
                          · refine R.go 2 (R.any1 13 (by kernel_rfl) (by kernel_rfl) ?_)
                            refine R.go 2 (R.any1 15 (by kernel_rfl) (by kernel_rfl) ?_)
                            refine R.go 2 (R.any0 (by kernel_rfl) ?_)
                            exact R.metF (v_55, p1_56, h1_57, v_67, p1_68, h1_69) (by kernel_rfl) ⟨by first | assumption | omega, by first | assumption | omega⟩ (by kernel_rfl)
                        · refine R.go 2 (R.any1 6 (by kernel_rfl) (by kernel_rfl) ?_)
                          refine R.go 2 (R.any1 14 (by kernel_rfl) (by kernel_rfl) ?_)
                          refine R.go 2 (R.any1 15 (by kernel_rfl) (by kernel_rfl) ?_)
                          refine R.go 2 (R.any0 (by kernel_rfl) ?_)
                          exact R.metF (v_55, p1_56, h1_57, v_67, p1_68, h1_69) (by kernel_rfl) ⟨by first | assumption | omega, by first | assumption | omega⟩ (by kernel_rfl)
                    · refine R.idx eI (upR n_2 xs_3) 0 ((v_67).toNat) v_67 (by kernel_rfl) (by omega) eI_len (by omega) (by kernel_rfl) ?_
                      refine R.go 1 (R.any2 5 13 (by kernel_rfl) (by kernel_rfl) ?_ ?_)
                      · refine R.idx eI (upR n_2 xs_3) 0 ((v_55).toNat) v_55 (by kernel_rfl) (by omega) eI_len (by omega) (by kernel_rfl) ?_
                        refine R.go 1 (R.any2 6 13 (by kernel_rfl) (by kernel_rfl) ?_ ?_)
                        · refine R.go 2 (R.any2 13 14 (by kernel_rfl) (by kernel_rfl) ?_ ?_)
                          · refine R.go 2 (R.any1 14 (by kernel_rfl) (by kernel_rfl) ?_)
                            refine R.go 2 (R.any1 15 (by kernel_rfl) (by kernel_rfl) ?_)
                            refine R.go 2 (R.any0 (by kernel_rfl) ?_)
                            exact R.metF (v_55, p1_56, h1_57, v_67, p1_68, h1_69) (by kernel_rfl) ⟨by first | assumption | omega, by first | assumption | omega⟩ (by kernel_rfl)
                          · refine R.go 2 (R.any1 13 (by kernel_rfl) (by kernel_rfl) ?_)
                            refine R.go 2 (R.any1 15 (by kernel_rfl) (by kernel_rfl) ?_)
                            refine R.go 2 (R.any0 (by kernel_rfl) ?_)
                            exact R.metF (v_55, p1_56, h1_57, v_67, p1_68, h1_69) (by kernel_rfl) ⟨by first | assumption | omega, by first | assumption | omega⟩ (by kernel_rfl)
                        · refine R.go 2 (R.any1 6 (by kernel_rfl) (by kernel_rfl) ?_)
                          refine R.go 2 (R.any1 14 (by kernel_rfl) (by kernel_rfl) ?_)
                          refine R.go 2 (R.any1 15 (by kernel_rfl) (by kernel_rfl) ?_)
                          refine R.go 2 (R.any0 (by kernel_rfl) ?_)
                          exact R.metF (v_55, p1_56, h1_57, v_67, p1_68, h1_69) (by kernel_rfl) ⟨by first | assumption | omega, by first | assumption | omega⟩ (by kernel_rfl)
                      · refine R.go 2 (R.any1 5 (by kernel_rfl) (by kernel_rfl) ?_)
                        refine R.idx eI (upR n_2 xs_3) 0 ((v_55).toNat) v_55 (by kernel_rfl) (by omega) eI_len (by omega) (by kernel_rfl) ?_
                        refine R.go 1 (R.any1 6 (by kernel_rfl) (by kernel_rfl) ?_)
                        refine R.go 2 (R.any1 14 (by kernel_rfl) (by kernel_rfl) ?_)
                        refine R.go 2 (R.any1 15 (by kernel_rfl) (by kernel_rfl) ?_)
                        refine R.go 2 (R.any0 (by kernel_rfl) ?_)
                        exact R.metF (v_55, p1_56, h1_57, v_67, p1_68, h1_69) (by kernel_rfl) ⟨by first | assumption | omega, by first | assumption | omega⟩ (by kernel_rfl)
              · rintro ⟨v_11, p1_12, h1_13, v_15, p1_16, h1_17⟩ ⟨f14, f18⟩
                have hx : ((upR n_2 xs_3).getD ((v_11).toNat) 0) ∈ upR n_2 xs_3 := mem_ix (by omega)
                have hy : ((upR n_2 xs_3).getD ((v_15).toNat) 0) ∈ upR n_2 xs_3 := mem_ix (by omega)
                have hx2 := ul_2 hP hx
                have hxm : InM (n_2).toNat ((upR n_2 xs_3).getD ((v_11).toNat) 0) := hx2.1
                have hxo : outR n_2 ((upR n_2 xs_3).getD ((v_11).toNat) 0) = false := hx2.2.1
                have hxi := hx2.2.2.1
                have hxb := hx2.2.2.2
                have hor := up_or hP hx hy
                have han := up_and hP hx hy
                have hcm := comp_up hP hx
                refine R.go 4 (R.call true (UO_impl n_2 xs_3 ((upR n_2 xs_3).getD ((v_11).toNat) 0) (by assumption) (by assumption) hxo) (by kernel_rfl) rfl (by kernel_rfl) ?_)
                refine R.go 10 (R.call true (IO_impl n_2 xs_3 ((upR n_2 xs_3).getD ((v_11).toNat) 0) (by assumption) (by assumption) hxo) (by kernel_rfl) rfl (by kernel_rfl) ?_)
                refine R.go 11 (R.call true (full9_c n_2 (by omega) (by omega)) (by kernel_rfl) rfl (by kernel_rfl) ?_)
                refine R.ar (((shl64 1 n_2) - 1) + 1) (by kernel_rfl) (by omega) (by omega) (by kernel_rfl) ?_
                refine R.callX (CallX.perm [1, 2, 0] [2, 0, 1] (CallX.box 2 26 [AI n_2, LI (invA xs_3 xs_3.length)] (CallX.box 1 26 [AI n_2, LI xs_3] (belowX_c_r2 c p1_16 h1_17 (((shl64 1 n_2) - 1) + 1) 26 2 1 [AI n_2, LI xs_3] 26 2 1 [AI n_2, LI (invA xs_3 xs_3.length)] hc) (by kernel_rfl) (by kernel_rfl) (by kernel_rfl) (by kernel_rfl) (by rintro _ _ ⟨_, _, _, _, rfl, rfl⟩; exact ⟨by kernel_rfl, by kernel_rfl, by kernel_rfl⟩)) (by kernel_rfl) (by kernel_rfl) (by kernel_rfl) (by kernel_rfl) (by rintro _ _ ⟨_, ⟨_, _, _, _, rfl, rfl⟩, rfl⟩; exact ⟨by kernel_rfl, by kernel_rfl, by kernel_rfl⟩)) (by kernel_rfl) (by kernel_rfl) (by kernel_rfl) (by rintro _ _ ⟨_, ⟨_, ⟨_, _, _, _, rfl, rfl⟩, rfl⟩, rfl⟩; exact Nat.le_of_ble_eq_true (by kernel_rfl))) (by kernel_rfl) (by kernel_rfl) (by kernel_rfl) ?_
                rintro _ _ ⟨_, _, ⟨_, ⟨_, ⟨v_71, p1_72, h1_73, f74, rfl, rfl⟩, rfl⟩, rfl⟩, rfl, rfl⟩
                have hm3 := ul_3 hP (m := v_71) (by omega) (by omega)
                have hmm : InM (n_2).toNat v_71 := hm3.1
                have hmo : outR n_2 v_71 = false := hm3.2.1
                have hmu := hm3.2.2.1
                have hmb := hm3.2.2.2.1
                have hs1 := hm3.2.2.2.2.1
                have hs2 := hm3.2.2.2.2.2
                refine R.go 6 (R.call true (UO_impl n_2 xs_3 v_71 (by assumption) (by assumption) hmo) (by kernel_rfl) rfl (by kernel_rfl) ?_)
                refine R.go 10 (R.call true (IO_impl n_2 xs_3 v_71 (by assumption) (by assumption) hmo) (by kernel_rfl) rfl (by kernel_rfl) ?_)
                refine R.go 23 ?_
                by_cases c75 : (img xs_3 ((upR n_2 xs_3).getD ((v_11).toNat) 0) xs_3.length) = ((upR n_2 xs_3).getD ((v_11).toNat) 0)
                · refine R.want (!decide ((img xs_3 ((upR n_2 xs_3).getD ((v_11).toNat) 0) xs_3.length) = ((upR n_2 xs_3).getD ((v_11).toNat) 0))) false (by kernel_rfl) (nF c75) ?_
                  refine R.go 1 (R.want (!decide ((img xs_3 ((upR n_2 xs_3).getD ((v_11).toNat) 0) xs_3.length) = ((upR n_2 xs_3).getD ((v_11).toNat) 0))) false (by kernel_rfl) (nF c75) ?_)
                  refine R.go 1 (R.want (!decide ((img xs_3 ((upR n_2 xs_3).getD ((v_11).toNat) 0) xs_3.length) = ((upR n_2 xs_3).getD ((v_11).toNat) 0))) false (by kernel_rfl) (nF c75) ?_)
                  refine R.go 1 (R.pick (!decide ((img xs_3 ((upR n_2 xs_3).getD ((v_11).toNat) 0) xs_3.length) = ((upR n_2 xs_3).getD ((v_11).toNat) 0))) false (by kernel_rfl) (nF c75) (by kernel_rfl) ?_)
                  refine R.go 1 ?_
                  by_cases c76 : (boxB xs_3 ((upR n_2 xs_3).getD ((v_11).toNat) 0) xs_3.length) = ((upR n_2 xs_3).getD ((v_11).toNat) 0)
                  · refine R.want (!decide ((boxB xs_3 ((upR n_2 xs_3).getD ((v_11).toNat) 0) xs_3.length) = ((upR n_2 xs_3).getD ((v_11).toNat) 0))) false (by kernel_rfl) (nF c76) ?_
                    refine R.go 1 (R.want (!decide ((boxB xs_3 ((upR n_2 xs_3).getD ((v_11).toNat) 0) xs_3.length) = ((upR n_2 xs_3).getD ((v_11).toNat) 0))) false (by kernel_rfl) (nF c76) ?_)
                    refine R.go 1 (R.want (!decide ((boxB xs_3 ((upR n_2 xs_3).getD ((v_11).toNat) 0) xs_3.length) = ((upR n_2 xs_3).getD ((v_11).toNat) 0))) false (by kernel_rfl) (nF c76) ?_)
                    refine R.go 1 (R.want (!decide ((boxB xs_3 ((upR n_2 xs_3).getD ((v_11).toNat) 0) xs_3.length) = ((upR n_2 xs_3).getD ((v_11).toNat) 0))) false (by kernel_rfl) (nF c76) ?_)
                    refine R.go 1 (R.want (!decide ((boxB xs_3 ((upR n_2 xs_3).getD ((v_11).toNat) 0) xs_3.length) = ((upR n_2 xs_3).getD ((v_11).toNat) 0))) false (by kernel_rfl) (nF c76) ?_)
                    refine R.call true (hasInt_c (upR n_2 xs_3) (bor ((upR n_2 xs_3).getD ((v_11).toNat) 0) ((upR n_2 xs_3).getD ((v_15).toNat) 0)) (by first | omega | (simp <;> omega))) (by kernel_rfl) rfl (by kernel_rfl) ?_
                    refine R.want (!decide ((boxB xs_3 ((upR n_2 xs_3).getD ((v_11).toNat) 0) xs_3.length) = ((upR n_2 xs_3).getD ((v_11).toNat) 0))) false (by kernel_rfl) (nF c76) ?_
                    refine R.go 1 (R.pick (!decide ((boxB xs_3 ((upR n_2 xs_3).getD ((v_11).toNat) 0) xs_3.length) = ((upR n_2 xs_3).getD ((v_11).toNat) 0))) false (by kernel_rfl) (nF c76) (by kernel_rfl) ?_)
                    refine R.go 1 ?_
                    by_cases c77 : (bor ((upR n_2 xs_3).getD ((v_11).toNat) 0) ((upR n_2 xs_3).getD ((v_15).toNat) 0)) ∈ (upR n_2 xs_3)
                    · refine R.want (!decide ((bor ((upR n_2 xs_3).getD ((v_11).toNat) 0) ((upR n_2 xs_3).getD ((v_15).toNat) 0)) ∈ (upR n_2 xs_3))) false (by kernel_rfl) (nF c77) ?_
                      refine R.go 1 (R.want (!decide ((bor ((upR n_2 xs_3).getD ((v_11).toNat) 0) ((upR n_2 xs_3).getD ((v_15).toNat) 0)) ∈ (upR n_2 xs_3))) false (by kernel_rfl) (nF c77) ?_)
                      refine R.go 1 (R.want (!decide ((bor ((upR n_2 xs_3).getD ((v_11).toNat) 0) ((upR n_2 xs_3).getD ((v_15).toNat) 0)) ∈ (upR n_2 xs_3))) false (by kernel_rfl) (nF c77) ?_)
                      refine R.go 1 (R.want (!decide ((bor ((upR n_2 xs_3).getD ((v_11).toNat) 0) ((upR n_2 xs_3).getD ((v_15).toNat) 0)) ∈ (upR n_2 xs_3))) false (by kernel_rfl) (nF c77) ?_)
                      refine R.go 1 (R.want (!decide ((bor ((upR n_2 xs_3).getD ((v_11).toNat) 0) ((upR n_2 xs_3).getD ((v_15).toNat) 0)) ∈ (upR n_2 xs_3))) false (by kernel_rfl) (nF c77) ?_)
                      refine R.call true (hasInt_c (upR n_2 xs_3) (band ((upR n_2 xs_3).getD ((v_11).toNat) 0) ((upR n_2 xs_3).getD ((v_15).toNat) 0)) (by first | omega | (simp <;> omega))) (by kernel_rfl) rfl (by kernel_rfl) ?_
                      refine R.want (!decide ((bor ((upR n_2 xs_3).getD ((v_11).toNat) 0) ((upR n_2 xs_3).getD ((v_15).toNat) 0)) ∈ (upR n_2 xs_3))) false (by kernel_rfl) (nF c77) ?_
                      refine R.go 1 (R.pick (!decide ((bor ((upR n_2 xs_3).getD ((v_11).toNat) 0) ((upR n_2 xs_3).getD ((v_15).toNat) 0)) ∈ (upR n_2 xs_3))) false (by kernel_rfl) (nF c77) (by kernel_rfl) ?_)
                      refine R.go 1 ?_
                      by_cases c78 : (band ((upR n_2 xs_3).getD ((v_11).toNat) 0) ((upR n_2 xs_3).getD ((v_15).toNat) 0)) ∈ (upR n_2 xs_3)
                      · refine R.want (!decide ((band ((upR n_2 xs_3).getD ((v_11).toNat) 0) ((upR n_2 xs_3).getD ((v_15).toNat) 0)) ∈ (upR n_2 xs_3))) false (by kernel_rfl) (nF c78) ?_
                        refine R.go 1 (R.want (!decide ((band ((upR n_2 xs_3).getD ((v_11).toNat) 0) ((upR n_2 xs_3).getD ((v_15).toNat) 0)) ∈ (upR n_2 xs_3))) false (by kernel_rfl) (nF c78) ?_)
                        refine R.go 1 (R.want (!decide ((band ((upR n_2 xs_3).getD ((v_11).toNat) 0) ((upR n_2 xs_3).getD ((v_15).toNat) 0)) ∈ (upR n_2 xs_3))) false (by kernel_rfl) (nF c78) ?_)
                        refine R.call true (hasInt_c (upR n_2 xs_3) (img xs_3 v_71 xs_3.length) (by first | omega | (simp <;> omega))) (by kernel_rfl) rfl (by kernel_rfl) ?_
                        refine R.want (!decide ((band ((upR n_2 xs_3).getD ((v_11).toNat) 0) ((upR n_2 xs_3).getD ((v_15).toNat) 0)) ∈ (upR n_2 xs_3))) false (by kernel_rfl) (nF c78) ?_
                        refine R.go 1 (R.pick (!decide ((band ((upR n_2 xs_3).getD ((v_11).toNat) 0) ((upR n_2 xs_3).getD ((v_15).toNat) 0)) ∈ (upR n_2 xs_3))) false (by kernel_rfl) (nF c78) (by kernel_rfl) ?_)
                        refine R.go 1 ?_
                        by_cases c79 : (img xs_3 v_71 xs_3.length) ∈ (upR n_2 xs_3)
                        · refine R.want (!decide ((img xs_3 v_71 xs_3.length) ∈ (upR n_2 xs_3))) false (by kernel_rfl) (nF c79) ?_
                          refine R.go 1 (R.want (!decide ((img xs_3 v_71 xs_3.length) ∈ (upR n_2 xs_3))) false (by kernel_rfl) (nF c79) ?_)
                          refine R.go 1 (R.want (!decide ((img xs_3 v_71 xs_3.length) ∈ (upR n_2 xs_3))) false (by kernel_rfl) (nF c79) ?_)
                          refine R.call true (hasInt_c (upR n_2 xs_3) (boxB xs_3 v_71 xs_3.length) (by first | omega | (simp <;> omega))) (by kernel_rfl) rfl (by kernel_rfl) ?_
                          refine R.want (!decide ((img xs_3 v_71 xs_3.length) ∈ (upR n_2 xs_3))) false (by kernel_rfl) (nF c79) ?_
                          refine R.go 1 (R.pick (!decide ((img xs_3 v_71 xs_3.length) ∈ (upR n_2 xs_3))) false (by kernel_rfl) (nF c79) (by kernel_rfl) ?_)
                          refine R.go 1 ?_
                          by_cases c80 : (boxB xs_3 v_71 xs_3.length) ∈ (upR n_2 xs_3)
                          · refine R.want (!decide ((boxB xs_3 v_71 xs_3.length) ∈ (upR n_2 xs_3))) false (by kernel_rfl) (nF c80) ?_
                            refine R.go 1 (R.want (!decide ((boxB xs_3 v_71 xs_3.length) ∈ (upR n_2 xs_3))) false (by kernel_rfl) (nF c80) ?_)
                            refine R.go 1 (R.want (!decide ((boxB xs_3 v_71 xs_3.length) ∈ (upR n_2 xs_3))) false (by kernel_rfl) (nF c80) ?_)
                            refine R.go 1 (R.want (!decide ((boxB xs_3 v_71 xs_3.length) ∈ (upR n_2 xs_3))) false (by kernel_rfl) (nF c80) ?_)
                            refine R.go 1 (R.pick (!decide ((boxB xs_3 v_71 xs_3.length) ∈ (upR n_2 xs_3))) false (by kernel_rfl) (nF c80) (by kernel_rfl) ?_)
                            refine R.go 1 ?_
                            by_cases c81 : (bnot v_71 (img xs_3 v_71 xs_3.length)) = 0
                            · refine R.want (!decide ((bnot v_71 (img xs_3 v_71 xs_3.length)) = 0)) false (by kernel_rfl) (nF c81) ?_
                              refine R.go 1 (R.want (!decide ((bnot v_71 (img xs_3 v_71 xs_3.length)) = 0)) false (by kernel_rfl) (nF c81) ?_)
                              refine R.go 1 (R.want (!decide ((bnot v_71 (img xs_3 v_71 xs_3.length)) = 0)) false (by kernel_rfl) (nF c81) ?_)
                              refine R.go 1 (R.want (!decide ((bnot v_71 (img xs_3 v_71 xs_3.length)) = 0)) false (by kernel_rfl) (nF c81) ?_)
                              refine R.go 1 (R.pick (!decide ((bnot v_71 (img xs_3 v_71 xs_3.length)) = 0)) false (by kernel_rfl) (nF c81) (by kernel_rfl) ?_)
                              refine R.go 1 (R.condN ((bnot (boxB xs_3 v_71 xs_3.length) v_71) = 0) (by kernel_rfl) (fun c82 => ?_) (fun c82 => ?_))
                              · exact R.go 4 (R.retE (.bool false) (by kernel_rfl) (by kernel_rfl) (by first | (first | rfl | exact absurd hor (by assumption) | exact absurd han (by assumption) | exact absurd hmu (by assumption) | exact absurd hmb (by assumption) | exact congrArg AV.bool (decide_eq_true hcm) | (exfalso; omega)) | (exfalso; omega)))
                              · refine R.go 6 (R.call true (full9_c n_2 (by omega) (by omega)) (by kernel_rfl) rfl (by kernel_rfl) ?_)
                                refine R.go 2 (R.call true (hasInt_c (upR n_2 (invA xs_3 xs_3.length)) (bnot ((shl64 1 n_2) - 1) ((upR n_2 xs_3).getD ((v_11).toNat) 0)) (by first | omega | (simp <;> omega))) (by kernel_rfl) rfl (by kernel_rfl) ?_)
                                exact R.go 2 (R.retE (.bool (decide ((bnot ((shl64 1 n_2) - 1) ((upR n_2 xs_3).getD ((v_11).toNat) 0)) ∈ (upR n_2 (invA xs_3 xs_3.length))))) (by kernel_rfl) (by kernel_rfl) (by first | (first | rfl | exact absurd hor (by assumption) | exact absurd han (by assumption) | exact absurd hmu (by assumption) | exact absurd hmb (by assumption) | exact congrArg AV.bool (decide_eq_true hcm) | (exfalso; omega)) | (exfalso; omega)))
                            · refine R.skp (!decide ((bnot v_71 (img xs_3 v_71 xs_3.length)) = 0)) false (by kernel_rfl) (nT c81) (by kernel_rfl) ?_
                              refine R.skp (!decide ((bnot v_71 (img xs_3 v_71 xs_3.length)) = 0)) false (by kernel_rfl) (nT c81) (by kernel_rfl) ?_
                              refine R.skp (!decide ((bnot v_71 (img xs_3 v_71 xs_3.length)) = 0)) false (by kernel_rfl) (nT c81) (by kernel_rfl) ?_
                              refine R.skp (!decide ((bnot v_71 (img xs_3 v_71 xs_3.length)) = 0)) false (by kernel_rfl) (nT c81) (by kernel_rfl) ?_
                              refine R.pick (!decide ((bnot v_71 (img xs_3 v_71 xs_3.length)) = 0)) true (by kernel_rfl) (nT c81) (by kernel_rfl) ?_
                              exact R.go 6 (R.retE (.bool false) (by kernel_rfl) (by kernel_rfl) (by first | (first | rfl | exact absurd hor (by assumption) | exact absurd han (by assumption) | exact absurd hmu (by assumption) | exact absurd hmb (by assumption) | exact congrArg AV.bool (decide_eq_true hcm) | (exfalso; omega)) | (exfalso; omega)))
                          · refine R.skp (!decide ((boxB xs_3 v_71 xs_3.length) ∈ (upR n_2 xs_3))) false (by kernel_rfl) (nT c80) (by kernel_rfl) ?_
                            refine R.skp (!decide ((boxB xs_3 v_71 xs_3.length) ∈ (upR n_2 xs_3))) false (by kernel_rfl) (nT c80) (by kernel_rfl) ?_
                            refine R.skp (!decide ((boxB xs_3 v_71 xs_3.length) ∈ (upR n_2 xs_3))) false (by kernel_rfl) (nT c80) (by kernel_rfl) ?_
                            refine R.skp (!decide ((boxB xs_3 v_71 xs_3.length) ∈ (upR n_2 xs_3))) false (by kernel_rfl) (nT c80) (by kernel_rfl) ?_
                            refine R.pick (!decide ((boxB xs_3 v_71 xs_3.length) ∈ (upR n_2 xs_3))) true (by kernel_rfl) (nT c80) (by kernel_rfl) ?_
                            exact R.go 12 (R.retE (.bool false) (by kernel_rfl) (by kernel_rfl) (by first | (first | rfl | exact absurd hor (by assumption) | exact absurd han (by assumption) | exact absurd hmu (by assumption) | exact absurd hmb (by assumption) | exact congrArg AV.bool (decide_eq_true hcm) | (exfalso; omega)) | (exfalso; omega)))
                        · refine R.skp (!decide ((img xs_3 v_71 xs_3.length) ∈ (upR n_2 xs_3))) false (by kernel_rfl) (nT c79) (by kernel_rfl) ?_
                          refine R.skp (!decide ((img xs_3 v_71 xs_3.length) ∈ (upR n_2 xs_3))) false (by kernel_rfl) (nT c79) (by kernel_rfl) ?_
                          refine R.skp (!decide ((img xs_3 v_71 xs_3.length) ∈ (upR n_2 xs_3))) false (by kernel_rfl) (nT c79) (by kernel_rfl) ?_
                          refine R.skp (!decide ((img xs_3 v_71 xs_3.length) ∈ (upR n_2 xs_3))) false (by kernel_rfl) (nT c79) (by kernel_rfl) ?_
                          refine R.pick (!decide ((img xs_3 v_71 xs_3.length) ∈ (upR n_2 xs_3))) true (by kernel_rfl) (nT c79) (by kernel_rfl) ?_
                          exact R.go 18 (R.retE (.bool false) (by kernel_rfl) (by kernel_rfl) (by first | (first | rfl | exact absurd hor (by assumption) | exact absurd han (by assumption) | exact absurd hmu (by assumption) | exact absurd hmb (by assumption) | exact congrArg AV.bool (decide_eq_true hcm) | (exfalso; omega)) | (exfalso; omega)))
                      · refine R.skp (!decide ((band ((upR n_2 xs_3).getD ((v_11).toNat) 0) ((upR n_2 xs_3).getD ((v_15).toNat) 0)) ∈ (upR n_2 xs_3))) false (by kernel_rfl) (nT c78) (by kernel_rfl) ?_
                        refine R.skp (!decide ((band ((upR n_2 xs_3).getD ((v_11).toNat) 0) ((upR n_2 xs_3).getD ((v_15).toNat) 0)) ∈ (upR n_2 xs_3))) false (by kernel_rfl) (nT c78) (by kernel_rfl) ?_
                        refine R.skp (!decide ((band ((upR n_2 xs_3).getD ((v_11).toNat) 0) ((upR n_2 xs_3).getD ((v_15).toNat) 0)) ∈ (upR n_2 xs_3))) false (by kernel_rfl) (nT c78) (by kernel_rfl) ?_
                        refine R.skp (!decide ((band ((upR n_2 xs_3).getD ((v_11).toNat) 0) ((upR n_2 xs_3).getD ((v_15).toNat) 0)) ∈ (upR n_2 xs_3))) false (by kernel_rfl) (nT c78) (by kernel_rfl) ?_
                        refine R.pick (!decide ((band ((upR n_2 xs_3).getD ((v_11).toNat) 0) ((upR n_2 xs_3).getD ((v_15).toNat) 0)) ∈ (upR n_2 xs_3))) true (by kernel_rfl) (nT c78) (by kernel_rfl) ?_
                        exact R.go 24 (R.retE (.bool false) (by kernel_rfl) (by kernel_rfl) (by first | (first | rfl | exact absurd hor (by assumption) | exact absurd han (by assumption) | exact absurd hmu (by assumption) | exact absurd hmb (by assumption) | exact congrArg AV.bool (decide_eq_true hcm) | (exfalso; omega)) | (exfalso; omega)))
                    · refine R.skp (!decide ((bor ((upR n_2 xs_3).getD ((v_11).toNat) 0) ((upR n_2 xs_3).getD ((v_15).toNat) 0)) ∈ (upR n_2 xs_3))) false (by kernel_rfl) (nT c77) (by kernel_rfl) ?_
                      refine R.skp (!decide ((bor ((upR n_2 xs_3).getD ((v_11).toNat) 0) ((upR n_2 xs_3).getD ((v_15).toNat) 0)) ∈ (upR n_2 xs_3))) false (by kernel_rfl) (nT c77) (by kernel_rfl) ?_
                      refine R.skp (!decide ((bor ((upR n_2 xs_3).getD ((v_11).toNat) 0) ((upR n_2 xs_3).getD ((v_15).toNat) 0)) ∈ (upR n_2 xs_3))) false (by kernel_rfl) (nT c77) (by kernel_rfl) ?_
                      refine R.skp (!decide ((bor ((upR n_2 xs_3).getD ((v_11).toNat) 0) ((upR n_2 xs_3).getD ((v_15).toNat) 0)) ∈ (upR n_2 xs_3))) false (by kernel_rfl) (nT c77) (by kernel_rfl) ?_
                      refine R.skp (!decide ((bor ((upR n_2 xs_3).getD ((v_11).toNat) 0) ((upR n_2 xs_3).getD ((v_15).toNat) 0)) ∈ (upR n_2 xs_3))) false (by kernel_rfl) (nT c77) (by kernel_rfl) ?_
                      refine R.skp (!decide ((bor ((upR n_2 xs_3).getD ((v_11).toNat) 0) ((upR n_2 xs_3).getD ((v_15).toNat) 0)) ∈ (upR n_2 xs_3))) false (by kernel_rfl) (nT c77) (by kernel_rfl) ?_
                      refine R.pick (!decide ((bor ((upR n_2 xs_3).getD ((v_11).toNat) 0) ((upR n_2 xs_3).getD ((v_15).toNat) 0)) ∈ (upR n_2 xs_3))) true (by kernel_rfl) (nT c77) (by kernel_rfl) ?_
                      exact R.go 30 (R.retE (.bool false) (by kernel_rfl) (by kernel_rfl) (by first | (first | rfl | exact absurd hor (by assumption) | exact absurd han (by assumption) | exact absurd hmu (by assumption) | exact absurd hmb (by assumption) | exact congrArg AV.bool (decide_eq_true hcm) | (exfalso; omega)) | (exfalso; omega)))
                  · refine R.skp (!decide ((boxB xs_3 ((upR n_2 xs_3).getD ((v_11).toNat) 0) xs_3.length) = ((upR n_2 xs_3).getD ((v_11).toNat) 0))) false (by kernel_rfl) (nT c76) (by kernel_rfl) ?_
                    refine R.skp (!decide ((boxB xs_3 ((upR n_2 xs_3).getD ((v_11).toNat) 0) xs_3.length) = ((upR n_2 xs_3).getD ((v_11).toNat) 0))) false (by kernel_rfl) (nT c76) (by kernel_rfl) ?_
                    refine R.skp (!decide ((boxB xs_3 ((upR n_2 xs_3).getD ((v_11).toNat) 0) xs_3.length) = ((upR n_2 xs_3).getD ((v_11).toNat) 0))) false (by kernel_rfl) (nT c76) (by kernel_rfl) ?_
                    refine R.skp (!decide ((boxB xs_3 ((upR n_2 xs_3).getD ((v_11).toNat) 0) xs_3.length) = ((upR n_2 xs_3).getD ((v_11).toNat) 0))) false (by kernel_rfl) (nT c76) (by kernel_rfl) ?_
                    refine R.skp (!decide ((boxB xs_3 ((upR n_2 xs_3).getD ((v_11).toNat) 0) xs_3.length) = ((upR n_2 xs_3).getD ((v_11).toNat) 0))) false (by kernel_rfl) (nT c76) (by kernel_rfl) ?_
                    refine R.skp (!decide ((boxB xs_3 ((upR n_2 xs_3).getD ((v_11).toNat) 0) xs_3.length) = ((upR n_2 xs_3).getD ((v_11).toNat) 0))) false (by kernel_rfl) (nT c76) (by kernel_rfl) ?_
                    refine R.pick (!decide ((boxB xs_3 ((upR n_2 xs_3).getD ((v_11).toNat) 0) xs_3.length) = ((upR n_2 xs_3).getD ((v_11).toNat) 0))) true (by kernel_rfl) (nT c76) (by kernel_rfl) ?_
                    exact R.go 38 (R.retE (.bool false) (by kernel_rfl) (by kernel_rfl) (by first | (first | rfl | exact absurd hor (by assumption) | exact absurd han (by assumption) | exact absurd hmu (by assumption) | exact absurd hmb (by assumption) | exact congrArg AV.bool (decide_eq_true hcm) | (exfalso; omega)) | (exfalso; omega)))
                · refine R.skp (!decide ((img xs_3 ((upR n_2 xs_3).getD ((v_11).toNat) 0) xs_3.length) = ((upR n_2 xs_3).getD ((v_11).toNat) 0))) false (by kernel_rfl) (nT c75) (by kernel_rfl) ?_
                  refine R.skp (!decide ((img xs_3 ((upR n_2 xs_3).getD ((v_11).toNat) 0) xs_3.length) = ((upR n_2 xs_3).getD ((v_11).toNat) 0))) false (by kernel_rfl) (nT c75) (by kernel_rfl) ?_
                  refine R.skp (!decide ((img xs_3 ((upR n_2 xs_3).getD ((v_11).toNat) 0) xs_3.length) = ((upR n_2 xs_3).getD ((v_11).toNat) 0))) false (by kernel_rfl) (nT c75) (by kernel_rfl) ?_
                  refine R.pick (!decide ((img xs_3 ((upR n_2 xs_3).getD ((v_11).toNat) 0) xs_3.length) = ((upR n_2 xs_3).getD ((v_11).toNat) 0))) true (by kernel_rfl) (nT c75) (by kernel_rfl) ?_
                  exact R.go 46 (R.retE (.bool false) (by kernel_rfl) (by kernel_rfl) (by first | (first | rfl | exact absurd hor (by assumption) | exact absurd han (by assumption) | exact absurd hmu (by assumption) | exact absurd hmb (by assumption) | exact congrArg AV.bool (decide_eq_true hcm) | (exfalso; omega)) | (exfalso; omega)))
          · refine R.skp (!decide (((upR n_2 (invA xs_3 xs_3.length)).length : Int) = ((upR n_2 xs_3).length : Int))) false (by kernel_rfl) (nT c8) (by kernel_rfl) ?_
            refine R.skp (!decide (((upR n_2 (invA xs_3 xs_3.length)).length : Int) = ((upR n_2 xs_3).length : Int))) false (by kernel_rfl) (nT c8) (by kernel_rfl) ?_
            refine R.skp (!decide (((upR n_2 (invA xs_3 xs_3.length)).length : Int) = ((upR n_2 xs_3).length : Int))) false (by kernel_rfl) (nT c8) (by kernel_rfl) ?_
            refine R.pick (!decide (((upR n_2 (invA xs_3 xs_3.length)).length : Int) = ((upR n_2 xs_3).length : Int))) true (by kernel_rfl) (nT c8) (by kernel_rfl) ?_
            exact R.go 6 (R.retE (.bool false) (by kernel_rfl) (by kernel_rfl) (by first | (first | rfl | exact absurd hor (by assumption) | exact absurd han (by assumption) | exact absurd hmu (by assumption) | exact absurd hmb (by assumption) | exact congrArg AV.bool (decide_eq_true hcm) | (exfalso; omega)) | (exfalso; omega)))
        · refine R.skp (!decide (((anR n_2 xs_3).length : Int) = ((upR n_2 xs_3).length : Int))) false (by kernel_rfl) (nT c7) (by kernel_rfl) ?_
          refine R.skp (!decide (((anR n_2 xs_3).length : Int) = ((upR n_2 xs_3).length : Int))) false (by kernel_rfl) (nT c7) (by kernel_rfl) ?_
          refine R.skp (!decide (((anR n_2 xs_3).length : Int) = ((upR n_2 xs_3).length : Int))) false (by kernel_rfl) (nT c7) (by kernel_rfl) ?_
          refine R.skp (!decide (((anR n_2 xs_3).length : Int) = ((upR n_2 xs_3).length : Int))) false (by kernel_rfl) (nT c7) (by kernel_rfl) ?_
          refine R.skp (!decide (((anR n_2 xs_3).length : Int) = ((upR n_2 xs_3).length : Int))) false (by kernel_rfl) (nT c7) (by kernel_rfl) ?_
          refine R.pick (!decide (((anR n_2 xs_3).length : Int) = ((upR n_2 xs_3).length : Int))) true (by kernel_rfl) (nT c7) (by kernel_rfl) ?_
          exact R.go 11 (R.retE (.bool false) (by kernel_rfl) (by kernel_rfl) (by first | (first | rfl | exact absurd hor (by assumption) | exact absurd han (by assumption) | exact absurd hmu (by assumption) | exact absurd hmb (by assumption) | exact congrArg AV.bool (decide_eq_true hcm) | (exfalso; omega)) | (exfalso; omega)))
      · refine R.skp (!decide ((((poC n_2 xs_3) + 0) + (poC n_2 (invA xs_3 xs_3.length))) = 0)) false (by kernel_rfl) (nT c6) (by kernel_rfl) ?_
        refine R.skp (!decide ((((poC n_2 xs_3) + 0) + (poC n_2 (invA xs_3 xs_3.length))) = 0)) false (by kernel_rfl) (nT c6) (by kernel_rfl) ?_
        refine R.skp (!decide ((((poC n_2 xs_3) + 0) + (poC n_2 (invA xs_3 xs_3.length))) = 0)) false (by kernel_rfl) (nT c6) (by kernel_rfl) ?_
        refine R.skp (!decide ((((poC n_2 xs_3) + 0) + (poC n_2 (invA xs_3 xs_3.length))) = 0)) false (by kernel_rfl) (nT c6) (by kernel_rfl) ?_
        refine R.skp (!decide ((((poC n_2 xs_3) + 0) + (poC n_2 (invA xs_3 xs_3.length))) = 0)) false (by kernel_rfl) (nT c6) (by kernel_rfl) ?_
        refine R.pick (!decide ((((poC n_2 xs_3) + 0) + (poC n_2 (invA xs_3 xs_3.length))) = 0)) true (by kernel_rfl) (nT c6) (by kernel_rfl) ?_
        exact R.go 18 (R.retE (.bool false) (by kernel_rfl) (by kernel_rfl) (by first | (first | rfl | exact absurd hor (by assumption) | exact absurd han (by assumption) | exact absurd hmu (by assumption) | exact absurd hmb (by assumption) | exact congrArg AV.bool (decide_eq_true hcm) | (exfalso; omega)) | (exfalso; omega)))

end Go.Proofs.Ytogehjciaamcfaa
