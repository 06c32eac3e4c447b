/- IsPosetValid, FirstUnforced: both packages, their laws. -/
import Derived.Test.YtkanjgmocmhlkaaGreatZ03
import Derived.Test.YtkanjgmocmhlkaaGreatP03
namespace Go.Proofs.YtkanjgmocmhlkaaGreat
open Go.RowKit Go.Abs

theorem unforced_c (n : Int) (xs : List Int) (a : List (Int × Int)) (hR : okPo n xs = true) (hF : isF a = true) (hpl : a.any modN = false) (ht : pwT ((upL n xs).length : Int) (mem (vmT [a] [a].length)).length ≤ 4096) :
    CallA Tryz.prog 43 [.agg [AI n, LI xs], LN a] (.tup [ownA eI 2 1 (uRow n xs (mem (vmT [a] [a].length)) a), AI (uVal n xs (mem (vmT [a] [a].length)) a), .bool (fstU n xs (mem (vmT [a] [a].length)) a).isSome]) := by
  cases e : fstU n xs (mem (vmT [a] [a].length)) a with
  | none => exact (unforced_none n xs a hR hF hpl ht e).eq rfl (by simp only [uRow, uVal, e]; rfl)
  | some N => exact (unforced_some N n xs a hR hF hpl ht e).eq rfl (by simp only [uRow, uVal, e]; rfl)
theorem nn_eq {n : Int} (h0 : 0 ≤ n) : ((n.toNat : Nat) : Int) = n := by omega
theorem upTo_in (xs : List Int) : ∀ (k : Nat) (v : Int), v ∈ upTo xs k → 0 ≤ v ∧ v < (k : Int)
  | 0, v, h => by simp [upTo] at h
  | k + 1, v, h => by
    rw [upTo] at h
    split at h
    · rcases List.mem_append.1 h with h | h
      · have := upTo_in xs k v h; omega
      · rw [List.mem_singleton] at h; omega
    · have := upTo_in xs k v h; omega
theorem upL_in {n : Int} {xs : List Int} (h : okPo n xs = true) (j : Nat) : InM n.toNat ((upL n xs).getD j 0) := by
  have hF := okFr_rel (okPo_fr h)
  rw [List.getD_eq_getElem?_getD]
  rcases Nat.lt_or_ge j (upL n xs).length with hj | hj
  · rw [List.getElem?_eq_getElem hj, Option.getD_some]
    have h1 := upTo_in xs _ _ (List.getElem_mem hj)
    have h2 := shl_nat (i := n.toNat) (by omega)
    rw [nn_eq hF.1] at h2
    refine ⟨h1.1, ?_⟩
    have h3 : (upL n xs)[j] < shl64 1 n := by
      have := (shl_rng n hF.1 (by omega)).1
      omega
    rw [h2] at h3
    generalize 2 ^ n.toNat = q at h3
    omega
  · rw [List.getElem?_eq_none hj]; exact inM_zero _
theorem vrU_in {n : Int} {xs vs : List Int} (h : okPo n xs = true) (N : Nat) (j : Nat) (hj : j < 6) : InM n.toNat ((vrU (upL n xs) vs N).getD j 0) := by
  rw [vrU_get hj, vatU]
  split
  · exact upL_in h _
  · exact inM_zero _
theorem pT_in {n : Int} {xs : List Int} (hR : okFr n xs = true) {k p q : Int} (hp : InM n.toNat p) (hq : InM n.toNat q) : InM n.toNat (pT n (pxB xs) k p q) := by
  obtain ⟨h0, h8, hl, hr⟩ := okFr_rel hR
  have hn : n.toNat ≤ 61 := by omega
  have hf := inM_full (n := n.toNat) hn
  rw [nn_eq h0] at hf
  unfold pT
  split
  · exact inM_band hn hp hq
  · split
    · exact inM_bor hn hp hq
    · exact (boxB_ok hn hr (inM_bor hn (inM_bnot hn hf hp) hq) xs.length (by omega)).1
theorem fcd_in {n : Int} {xs X : List Int} {a : List (Int × Int)} (hR : okFr n xs = true) (ha : OKM 6 a) (hX : ∀ j : Nat, j < 6 → InM n.toNat (X.getD j 0)) : InM n.toNat (fcd n xs X a) :=
  (gv_in (G := InM n.toNat) (u' := pU) ha (inM_zero _) hX (fun _ _ _ hp hq => pT_in hR hp hq) (fun _ _ _ _ => ⟨inM_zero _, rfl⟩)).1
theorem mem_pos {m : Int} (h : InM 61 m) (hm : m ≠ 0) : 0 < (mem m).length := by
  obtain ⟨a, rfl, ha⟩ := inM_nat h
  obtain ⟨i, hi⟩ := Nat.exists_testBit_of_ne_zero (x := a) (by omega)
  have h1 : i < 61 := tb_lt h hi
  have : ((i : Nat) : Int) ∈ mem (a : Int) := memN_mem.2 ⟨i, by omega, hi, rfl⟩
  exact List.length_pos_of_mem this
theorem uVal_ne {n : Int} {xs vs : List Int} {a : List (Int × Int)} (hR : okPo n xs = true) (ha : OKM 6 a) (h : (fstU n xs vs a).isSome = true) :
    InM 61 (bnot ((shl64 1 n) - 1) (uVal n xs vs a)) ∧ 0 < (mem (bnot ((shl64 1 n) - 1) (uVal n xs vs a))).length := by
  obtain ⟨h0, h8, _, _⟩ := okFr_rel (okPo_fr hR)
  have hf := inM_full (n := n.toNat) (by omega)
  rw [nn_eq h0] at hf
  cases e : fstU n xs vs a with
  | none => rw [e] at h; cases h
  | some N =>
    have h1 := (fstN_some e).2.1
    have ht := fcd_in (okPo_fr hR) ha (X := vrU (upL n xs) vs N) (vrU_in hR N)
    have hi := inM_bnot (by omega) hf ht
    have e2 : uVal n xs vs a = fcd n xs (vrU (upL n xs) vs N) a := by simp only [uVal, e]
    rw [e2]
    refine ⟨inM_mono (by omega) hi, mem_pos (inM_mono (by omega) hi) fun hz => ?_⟩
    have hsub := (bnot_sub (by omega) hf ht).1 hz
    refine badU_ne rfl h1 (tb_ext ht.1 hf.1 fun i => ?_)
    rw [Bool.eq_iff_iff]
    refine ⟨fun hti => ?_, hsub i⟩
    have := tb_full (n := n.toNat) (by omega) i
    rw [nn_eq h0] at this
    rw [this]
    simpa using tb_lt ht hti
def fuC (n : Int) (xs : List Int) (a : List (Int × Int)) : Int := if pcode n xs [a] = 0 then (if (fstU n xs (mem (vmT [a] [a].length)) a).isSome = true then 0 else 4) else pcode n xs [a]
def fuR (n : Int) (xs : List Int) (a : List (Int × Int)) : List Int := if fuC n xs a = 0 then uRow n xs (mem (vmT [a] [a].length)) a else []
def fuX (n : Int) (xs : List Int) (a : List (Int × Int)) : Int := if fuC n xs a = 0 then (mem (bnot ((shl64 1 n) - 1) (uVal n xs (mem (vmT [a] [a].length)) a))).getD 0 0 else 0
section
variable {s : Nat} {n : Int} {xs : List Int} {a : List (Int × Int)}
theorem fu_bad (h : ¬ pcode n xs [a] = 0) : AV.tup [ownA eI s 1 [], AI 0, AI (pcode n xs [a])] = AV.tup [ownA eI s 1 (fuR n xs a), AI (fuX n xs a), AI (fuC n xs a)] := by
  have e : fuC n xs a = pcode n xs [a] := if_neg h
  rw [fuR, fuX, e, if_neg h, if_neg h]
theorem fu_none (h : pcode n xs [a] = 0) (h2 : (fstU n xs (mem (vmT [a] [a].length)) a).isSome = false) : AV.tup [ownA eI s 1 [], AI 0, AI 4] = AV.tup [ownA eI s 1 (fuR n xs a), AI (fuX n xs a), AI (fuC n xs a)] := by
  have e : fuC n xs a = 4 := by rw [fuC, if_pos h, if_neg (by rw [h2]; decide)]
  rw [fuR, fuX, e]; rfl
theorem fu_some (h : pcode n xs [a] = 0) (h2 : (fstU n xs (mem (vmT [a] [a].length)) a).isSome = true) : AV.tup [ownA eI s 1 (uRow n xs (mem (vmT [a] [a].length)) a), AI ((mem (bnot ((shl64 1 n) - 1) (uVal n xs (mem (vmT [a] [a].length)) a))).getD 0 0), AI 0] = AV.tup [ownA eI s 1 (fuR n xs a), AI (fuX n xs a), AI (fuC n xs a)] := by
  have e : fuC n xs a = 0 := by rw [fuC, if_pos h, if_pos h2]
  rw [fuR, fuX, e]; rfl
theorem uRow_len (n : Int) (xs vs : List Int) (a : List (Int × Int)) : (uRow n xs vs a).length ≤ 6 := by
  unfold uRow
  split
  · rw [vrU_len]; exact Nat.le_refl _
  · simp
theorem fuR_len (n : Int) (xs : List Int) (a : List (Int × Int)) : (fuR n xs a).length ≤ 6 := by
  unfold fuR
  split
  · exact uRow_len _ _ _ _
  · simp
end

theorem isValidP_c (n : Int) (xs : List Int) (a : List (Int × Int)) (hR : okPo n xs = true) (hF : isF a = true) (hpl : a.any modN = false) (ht : pwT ((upL n xs).length : Int) (mem (vmT [a] [a].length)).length ≤ 4096) : CallA Tryz.prog 38 [.agg [AI n, LI xs], LN a] (.bool ((fstU n xs (mem (vmT [a] [a].length)) a).isNone)) := by
  refine CallA.of Tryz.func38 rfl (by kernel_rfl) ?_
  refine R.go 9 (R.call true (unforced_c n xs a hR hF hpl ht).frz (by kernel_rfl) rfl (by kernel_rfl) ?_)
  exact R.go 14 (R.retE (.bool (!((fstU n xs (mem (vmT [a] [a].length)) a).isSome))) (by kernel_rfl) (by kernel_rfl) (by first | (apply congrArg AV.bool; cases fstU n xs (mem (vmT [a] [a].length)) a <;> rfl) | (exfalso; omega)))

theorem PV_impl (n : Int) (xs : List Int) (a : List (Int × Int)) (lx : xs.length ≤ 1048576) (la : a.length ≤ 1048576) : CallA Tryz.prog 13 [.agg [AI n, LI xs], LN a] (.tup [.bool (pvV n xs a), AI (pcode n xs [a])]) := by
  refine CallA.of Tryz.func13 rfl (by kernel_rfl) ?_
  refine R.go 11 (R.lit (s := 1) (n := 1) (cs := rows eLN [a]) (by kernel_rfl) (by kernel_rfl) ?_)
  refine R.call true (posetSearch_c n xs [a] lx (by first | assumption | exact shortL_one (by omega))) (by kernel_rfl) rfl (by kernel_rfl) ?_
  refine R.go 7 (R.condN ((pcode n xs [a]) = 0) (by kernel_rfl) (fun c1 => ?_) (fun c1 => ?_))
  · exact R.go 6 (R.retE (.tup [.bool false, AI (pcode n xs [a])]) (by kernel_rfl) (by kernel_rfl) (by first | (first | exact pv_no (by assumption) | exact pv_yes (by assumption)) | (exfalso; omega)))
  · have hc0 : pcode n xs [a] = 0 := by assumption
    have hpo := pc_ok hc0
    have hR : okPo n xs = true := hpo.1
    have hF : isF a = true := isF_all hpo.2.1
    have hpl : a.any modN = false := pl_one hpo.2.2.1
    have ht0 : pwT ((upL n xs).length : Int) (mem (vmT [a] [a].length)).length ≤ 4096 := hpo.2.2.2
    refine R.go 5 (R.call true (isValidP_c n xs a hR hF hpl ht0) (by kernel_rfl) rfl (by kernel_rfl) ?_)
    exact R.go 3 (R.retE (.tup [.bool ((fstU n xs (mem (vmT [a] [a].length)) a).isNone), AI 0]) (by kernel_rfl) (by kernel_rfl) (by first | (first | exact pv_no (by assumption) | exact pv_yes (by assumption)) | (exfalso; omega)))

theorem FU_spec (n : Int) (xs : List Int) (a : List (Int × Int)) (lx : xs.length ≤ 1048576) (la : a.length ≤ 1048576) : CallA Tryz.prog 16 [.agg [AI n, LI xs], LN a] (.tup [ownA eI 2 1 (fuR n xs a), AI (fuX n xs a), AI (fuC n xs a)]) := by
  refine CallA.of Tryz.func16 rfl (by kernel_rfl) ?_
  refine R.go 11 (R.lit (s := 1) (n := 1) (cs := rows eLN [a]) (by kernel_rfl) (by kernel_rfl) ?_)
  refine R.call true (l17Search_c n xs [a] lx (by first | assumption | exact shortL_one (by omega))) (by kernel_rfl) rfl (by kernel_rfl) ?_
  refine R.go 8 (R.condN ((pcode n xs [a]) = 0) (by kernel_rfl) (fun c1 => ?_) (fun c1 => ?_))
  · refine R.go 7 (R.nil 4 2 1 (by kernel_rfl) ?_)
    exact R.retE (.tup [ownA eI 2 1 [], AI 0, AI (pcode n xs [a])]) (by kernel_rfl) (by kernel_rfl) (by first | (first | exact fu_bad (by assumption) | exact fu_none hc0 (by assumption) | exact fu_some hc0 (by assumption)) | (exfalso; omega))
  · have hc0 : pcode n xs [a] = 0 := by assumption
    have hpo := pc_ok hc0
    have hR : okPo n xs = true := hpo.1
    have hF : isF a = true := isF_all hpo.2.1
    have hpl : a.any modN = false := pl_one hpo.2.2.1
    have ht0 : pwT ((upL n xs).length : Int) (mem (vmT [a] [a].length)).length ≤ 4096 := hpo.2.2.2
    have hA := isF_okm hF
    have hb0 := okFr_rel (okPo_fr hR)
    have hfull := shl_rng n hb0.1 (by omega)
    have hrl6 := uRow_len n xs (mem (vmT [a] [a].length)) a
    refine R.go 5 (R.call true (l17First_c n xs a hR hF hpl ht0) (by kernel_rfl) rfl (by kernel_rfl) ?_)
    refine R.go 14 (R.condM ((fstU n xs (mem (vmT [a] [a].length)) a).isSome) (by kernel_rfl) (fun c2 => ?_) (fun c2 => ?_))
    · refine R.go 6 (R.nil 4 2 1 (by kernel_rfl) ?_)
      exact R.retE (.tup [ownA eI 2 1 [], AI 0, AI 4]) (by kernel_rfl) (by kernel_rfl) (by first | (first | exact fu_bad (by assumption) | exact fu_none hc0 (by assumption) | exact fu_some hc0 (by assumption)) | (exfalso; omega))
    · have hne := uVal_ne hR hA.1 (by assumption)
      have hne1 := hne.1
      have hne2 := hne.2
      refine R.go 6 (R.call true (l01Full_c n (by omega) (by omega)) (by kernel_rfl) rfl (by kernel_rfl) ?_)
      refine R.go 2 (R.call true (l01ListM_c (bnot ((shl64 1 n) - 1) (uVal n xs (mem (vmT [a] [a].length)) a)) (by first | assumption | exact inM61 (by omega) (by omega))).frz (by kernel_rfl) rfl (by kernel_rfl) ?_)
      refine R.idx eI (mem (bnot ((shl64 1 n) - 1) (uVal n xs (mem (vmT [a] [a].length)) a))) 0 0 0 (by kernel_rfl) rfl eI_len (by first | omega | (simp <;> omega)) (by kernel_rfl) ?_
      exact R.go 5 (R.retE (.tup [ownA eI 2 1 (uRow n xs (mem (vmT [a] [a].length)) a), AI ((mem (bnot ((shl64 1 n) - 1) (uVal n xs (mem (vmT [a] [a].length)) a))).getD 0 0), AI 0]) (by kernel_rfl) (by kernel_rfl) (by first | (first | exact fu_bad (by assumption) | exact fu_none hc0 (by assumption) | exact fu_some hc0 (by assumption)) | (exfalso; omega)))

theorem FU_impl (n : Int) (xs : List Int) (a : List (Int × Int)) (lx : xs.length ≤ 1048576) (la : a.length ≤ 1048576) : CallA Tryz.prog 17 [.agg [AI n, LI xs], LN a] (.tup [ownA eI 2 1 (fuR n xs a), AI (fuX n xs a), AI (fuC n xs a)]) := by
  refine CallA.of Tryz.func17 rfl (by kernel_rfl) ?_
  refine R.go 12 (R.lit (s := 1) (n := 1) (cs := rows eLN [a]) (by kernel_rfl) (by kernel_rfl) ?_)
  refine R.call true (posetSearch_c n xs [a] lx (by first | assumption | exact shortL_one (by omega))) (by kernel_rfl) rfl (by kernel_rfl) ?_
  refine R.go 7 (R.condN ((pcode n xs [a]) = 0) (by kernel_rfl) (fun c1 => ?_) (fun c1 => ?_))
  · refine R.go 7 (R.nil 4 2 1 (by kernel_rfl) ?_)
    exact R.retE (.tup [ownA eI 2 1 [], AI 0, AI (pcode n xs [a])]) (by kernel_rfl) (by kernel_rfl) (by first | (first | exact fu_bad (by assumption) | exact fu_none hc0 (by assumption) | exact fu_some hc0 (by assumption)) | (exfalso; omega))
  · have hc0 : pcode n xs [a] = 0 := by assumption
    have hpo := pc_ok hc0
    have hR : okPo n xs = true := hpo.1
    have hF : isF a = true := isF_all hpo.2.1
    have hpl : a.any modN = false := pl_one hpo.2.2.1
    have ht0 : pwT ((upL n xs).length : Int) (mem (vmT [a] [a].length)).length ≤ 4096 := hpo.2.2.2
    have hA := isF_okm hF
    have hb0 := okFr_rel (okPo_fr hR)
    have hfull := shl_rng n hb0.1 (by omega)
    have hrl6 := uRow_len n xs (mem (vmT [a] [a].length)) a
    refine R.go 5 (R.call true (unforced_c n xs a hR hF hpl ht0) (by kernel_rfl) rfl (by kernel_rfl) ?_)
    refine R.go 14 (R.condM ((fstU n xs (mem (vmT [a] [a].length)) a).isSome) (by kernel_rfl) (fun c2 => ?_) (fun c2 => ?_))
    · refine R.go 6 (R.nil 4 2 1 (by kernel_rfl) ?_)
      exact R.retE (.tup [ownA eI 2 1 [], AI 0, AI 4]) (by kernel_rfl) (by kernel_rfl) (by first | (first | exact fu_bad (by assumption) | exact fu_none hc0 (by assumption) | exact fu_some hc0 (by assumption)) | (exfalso; omega))
    · have hne := uVal_ne hR hA.1 (by assumption)
      have hne1 := hne.1
      have hne2 := hne.2
      refine R.go 5 (R.call true (pAll_c n xs (by omega) (by omega)) (by kernel_rfl) rfl (by kernel_rfl) ?_)
      refine R.go 2 (R.call true (membersOf_c (bnot ((shl64 1 n) - 1) (uVal n xs (mem (vmT [a] [a].length)) a)) (by first | assumption | exact inM61 (by omega) (by omega))).frz (by kernel_rfl) rfl (by kernel_rfl) ?_)
      refine R.idx eI (mem (bnot ((shl64 1 n) - 1) (uVal n xs (mem (vmT [a] [a].length)) a))) 0 0 0 (by kernel_rfl) rfl eI_len (by first | omega | (simp <;> omega)) (by kernel_rfl) ?_
      exact R.go 5 (R.retE (.tup [ownA eI 2 1 (uRow n xs (mem (vmT [a] [a].length)) a), AI ((mem (bnot ((shl64 1 n) - 1) (uVal n xs (mem (vmT [a] [a].length)) a))).getD 0 0), AI 0]) (by kernel_rfl) (by kernel_rfl) (by first | (first | exact fu_bad (by assumption) | exact fu_none hc0 (by assumption) | exact fu_some hc0 (by assumption)) | (exfalso; omega)))

theorem lawIsPosetValid_in (n : Int) (xs : List Int) (a : List (Int × Int)) (hl : xs.length + a.length ≤ 1048576) : CallA Tryz.prog 3 [.agg [AI n, LI xs], LN a] (.bool true) := by
  refine CallA.of Tryz.func3 rfl (by kernel_rfl) ?_
  refine R.go 13 (R.call true (szPoset_c n xs 1048576 (by omega) (by first | omega | (simp <;> omega))) (by kernel_rfl) rfl (by kernel_rfl) ?_)
  refine R.go 8 (R.cond (((1048576 : Int) - xs.length) < 0) (by kernel_rfl) (fun c1 => ?_) (fun c1 => ?_))
  · exact R.go 4 (R.retE (.bool true) (by kernel_rfl) (by kernel_rfl) (by rfl))
  · refine R.go 5 (R.call true (szNodeS_c a ((1048576 : Int) - xs.length) (by first | omega | (simp <;> omega)) (by first | omega | (simp <;> omega))) (by kernel_rfl) rfl (by kernel_rfl) ?_)
    refine R.go 8 (R.cond (((((1048576 : Int) - xs.length) : Int) - a.length) < 0) (by kernel_rfl) (fun c2 => ?_) (fun c2 => ?_))
    · exact R.go 4 (R.retE (.bool true) (by kernel_rfl) (by kernel_rfl) (by rfl))
    · refine R.go 4 (R.call true (toPoset_c n xs (by first | omega | (simp <;> omega))).frz (by kernel_rfl) rfl (by kernel_rfl) ?_)
      refine R.go 1 (R.call true (toNodeS_c a (by first | omega | (simp <;> omega))).frz (by kernel_rfl) rfl (by kernel_rfl) ?_)
      refine R.call true (PV_spec n xs a (by first | omega | (simp <;> omega)) (by first | omega | (simp <;> omega))) (by kernel_rfl) rfl (by kernel_rfl) ?_
      refine R.go 9 (R.call true (toPoset_c n xs (by first | omega | (simp <;> omega))).frz (by kernel_rfl) rfl (by kernel_rfl) ?_)
      refine R.go 6 (R.call true (toNodeS_c a (by first | omega | (simp <;> omega))).frz (by kernel_rfl) rfl (by kernel_rfl) ?_)
      refine R.go 6 (R.call true (PV_impl n xs a (by first | omega | (simp <;> omega)) (by first | omega | (simp <;> omega))) (by kernel_rfl) rfl (by kernel_rfl) ?_)
      refine R.go 13 (R.want (!((pvV n xs a) == (pvV n xs a))) false (by kernel_rfl) (bnF (beq_self_eq_true _)) ?_)
      refine R.go 1 (R.want (!((pvV n xs a) == (pvV n xs a))) false (by kernel_rfl) (bnF (beq_self_eq_true _)) ?_)
      refine R.go 1 (R.want (!((pvV n xs a) == (pvV n xs a))) false (by kernel_rfl) (bnF (beq_self_eq_true _)) ?_)
      refine R.go 1 (R.pick (!((pvV n xs a) == (pvV n xs a))) false (by kernel_rfl) (bnF (beq_self_eq_true _)) (by kernel_rfl) ?_)
      refine R.go 1 (R.els (!decide ((pcode n xs [a]) = (pcode n xs [a]))) (by kernel_rfl) (nF rfl) ?_)
      refine R.go 6 (R.call true (toPoset_c n xs (by first | omega | (simp <;> omega))).frz (by kernel_rfl) rfl (by kernel_rfl) ?_)
      refine R.call true (eqPoset_c n xs (by first | omega | (simp <;> omega))) (by kernel_rfl) rfl (by kernel_rfl) ?_
      refine R.go 9 (R.call true (toNodeS_c a (by first | omega | (simp <;> omega))).frz (by kernel_rfl) rfl (by kernel_rfl) ?_)
      refine R.call true (eqNodeS_c a a (by first | omega | (simp <;> omega))) (by kernel_rfl) rfl (by kernel_rfl) ?_
      refine R.go 2 (R.els (!decide (a = a)) (by kernel_rfl) (nF rfl) ?_)
      exact R.go 5 (R.retE (.bool true) (by kernel_rfl) (by kernel_rfl) (by rfl))

theorem lawIsPosetValid_1 (n : Int) (xs : List Int) (a : List (Int × Int)) (hx : 1048576 < xs.length) (hb : xs.length ≤ 9223372036854775807) : CallA Tryz.prog 3 [.agg [AI n, LI xs], LN a] (.bool true) := by
  refine CallA.of Tryz.func3 rfl (by kernel_rfl) ?_
  refine R.go 13 (R.call true (szPoset_no n xs 1048576 (by omega) (by first | omega | (simp <;> omega)) hb) (by kernel_rfl) rfl (by kernel_rfl) ?_)
  exact R.go 13 (R.retE (.bool true) (by kernel_rfl) (by kernel_rfl) (by rfl))

theorem lawIsPosetValid_2 (n : Int) (xs : List Int) (a : List (Int × Int)) (hy : xs.length ≤ 1048576) (hx : 1048576 < xs.length + a.length) (hb : a.length ≤ 9223372036854775807) : CallA Tryz.prog 3 [.agg [AI n, LI xs], LN a] (.bool true) := by
  refine CallA.of Tryz.func3 rfl (by kernel_rfl) ?_
  refine R.go 13 (R.call true (szPoset_c n xs 1048576 (by omega) (by first | omega | (simp <;> omega))) (by kernel_rfl) rfl (by kernel_rfl) ?_)
  refine R.go 8 (R.cond (((1048576 : Int) - xs.length) < 0) (by kernel_rfl) (fun c1 => ?_) (fun c1 => ?_))
  · exact R.go 4 (R.retE (.bool true) (by kernel_rfl) (by kernel_rfl) (by rfl))
  · refine R.go 5 (R.call true (szNodeS_no a ((1048576 : Int) - xs.length) (by first | omega | (simp <;> omega)) (by first | omega | (simp <;> omega)) hb) (by kernel_rfl) rfl (by kernel_rfl) ?_)
    exact R.go 13 (R.retE (.bool true) (by kernel_rfl) (by kernel_rfl) (by rfl))

theorem lawIsPosetValid (n : Int) (xs : List Int) (m0 : xs.length ≤ maxLen) (a : List (Int × Int)) (m1 : a.length ≤ maxLen) : CallA Tryz.prog 3 [.agg [AI n, LI xs], LN a] (.bool true) := by
  have hm : maxLen ≤ 9223372036854775807 := by decide
  rcases Nat.lt_or_ge 1048576 (xs.length) with h0 | h0
  · exact lawIsPosetValid_1 n xs a h0 (by omega)
  rcases Nat.lt_or_ge 1048576 (xs.length + a.length) with h1 | h1
  · exact lawIsPosetValid_2 n xs a h0 h1 (by omega)
  exact lawIsPosetValid_in n xs a h1

end Go.Proofs.YtkanjgmocmhlkaaGreat
