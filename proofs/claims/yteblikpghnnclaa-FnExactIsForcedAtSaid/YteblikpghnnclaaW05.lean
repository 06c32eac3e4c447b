/- IsForcedAt of both packages and its law. -/
import Derived.Test.YteblikpghnnclaaW04
namespace Go.Proofs.Yteblikpghnnclaa
open Go.RowKit Go.Abs

theorem fcn {n : Int} {xs vs : List Int} {a : List (Int × Int)} (h : ¬ fcode n xs vs a = 1) : vaB n xs vs = true ∧ isF a = true := by
  unfold fcode at h
  split at h
  · assumption
  · exact absurd rfl h
theorem fc5 {n : Int} {xs vs : List Int} {a : List (Int × Int)} (h : ¬ fcode n xs vs a = 1) (h0 : ¬ fcode n xs vs a = 0) : fcode n xs vs a = 5 ∧ ¬ a.any modN = false := by
  have h1 := fcn h
  unfold fcode at h0 ⊢
  rw [if_pos h1] at h0 ⊢
  split at h0
  · exact absurd rfl h0
  · rename_i h2
    exact ⟨if_neg h2, h2⟩
theorem acb {n : Int} {xs vs : List Int} {a : List (Int × Int)} (h : ¬ fcode n xs vs a = 1) : 0 ≤ n ∧ n ≤ 8 := by
  have := okFr_rel (okPo_fr (vaB_po (fcn h).1).1)
  exact ⟨this.1, this.2.1⟩
theorem vab {n : Int} {xs vs : List Int} (h : vaB n xs vs = true) : 0 ≤ n ∧ n ≤ 8 := by
  have := okFr_rel (okPo_fr (vaB_po h).1)
  exact ⟨this.1, this.2.1⟩
theorem as_1 {n x : Int} {xs vs : List Int} {a : List (Int × Int)} (h : fcode n xs vs a = 1) : AV.tup [.bool false, AI (fcode n xs vs a)] = AV.tup [.bool (aval n xs vs x a), AI (acode n xs vs x a)] := by
  rw [h]
  refine ac_1 fun h1 => ?_
  unfold fcode at h
  rw [if_pos h1] at h
  split at h <;> cases h
theorem as_5 {n x : Int} {xs vs : List Int} {a : List (Int × Int)} (h : ¬ fcode n xs vs a = 1) (h0 : ¬ fcode n xs vs a = 0) (hx : inR x 0 (n - 1) = true) : AV.tup [.bool false, AI (fcode n xs vs a)] = AV.tup [.bool (aval n xs vs x a), AI (acode n xs vs x a)] := by
  have h5 := fc5 h h0
  rw [h5.1]
  exact ac_5 (fcn h) hx h5.2

theorem hasElement_c (n : Int) (xs : List Int) (x : Int) (h0 : 0 ≤ n) (h1 : n ≤ 8) : CallA Try.prog 95 [.agg [AI n, LI xs], AI x] (.bool (inR x 0 (n - 1))) := by
  refine CallA.of Try.func95 rfl (by kernel_rfl) ?_
  refine R.go 10 (R.ar (n - 1) (by kernel_rfl) (by omega) (by omega) (by kernel_rfl) ?_)
  refine R.call true (inRange_c x 0 (n - 1)) (by kernel_rfl) rfl (by kernel_rfl) ?_
  exact R.go 2 (R.retE (.bool (inR x 0 (n - 1))) (by kernel_rfl) (by kernel_rfl) (by rfl))

theorem FA_spec (n : Int) (xs : List Int) (vs : List Int) (x : Int) (a : List (Int × Int)) (lx : xs.length ≤ 1048576) (lv : vs.length ≤ 1048576) (la : a.length ≤ 1048576) : CallA Try.prog 45 [.agg [AI n, LI xs], LI vs, AI x, LN a] (.tup [.bool (aval n xs vs x a), AI (acode n xs vs x a)]) := by
  refine CallA.of Try.func45 rfl (by kernel_rfl) ?_
  refine R.go 11 (R.call true (l17Code_c n xs vs a lx lv la) (by kernel_rfl) rfl (by kernel_rfl) ?_)
  refine R.go 8 ?_
  by_cases c1 : (fcode n xs vs a) = 1
  · refine R.skp (!decide ((fcode n xs vs a) = 1)) true (by kernel_rfl) (nF c1) (by kernel_rfl) ?_
    refine R.skp (!decide ((fcode n xs vs a) = 1)) true (by kernel_rfl) (nF c1) (by kernel_rfl) ?_
    refine R.skp (!decide ((fcode n xs vs a) = 1)) true (by kernel_rfl) (nF c1) (by kernel_rfl) ?_
    refine R.skp (!decide ((fcode n xs vs a) = 1)) true (by kernel_rfl) (nF c1) (by kernel_rfl) ?_
    refine R.skp (!decide ((fcode n xs vs a) = 1)) true (by kernel_rfl) (nF c1) (by kernel_rfl) ?_
    refine R.skp (!decide ((fcode n xs vs a) = 1)) true (by kernel_rfl) (nF c1) (by kernel_rfl) ?_
    refine R.pick (!decide ((fcode n xs vs a) = 1)) false (by kernel_rfl) (nF c1) (by kernel_rfl) ?_
    refine R.go 9 (R.condN ((fcode n xs vs a) = 0) (by kernel_rfl) (fun c2 => ?_) (fun c2 => ?_))
    · exact R.go 6 (R.retE (.tup [.bool false, AI (fcode n xs vs a)]) (by kernel_rfl) (by kernel_rfl) (by first | (first | exact as_1 (by assumption) | exact ac_2 (fcn (by assumption)) (by assumption) | exact as_5 (by assumption) (by assumption) (by assumption) | (rw [impAB_eq hfr]; exact ac_0 ⟨hq.1, hq.2.1⟩ hxe hq.2.2)) | (exfalso; omega)))
    · have hq := fc_ok (by assumption)
      have hv6 := vaB_po hq.1
      have hPo : okPo n xs = true := hv6.1
      have hfr : okFr n xs = true := okPo_fr hPo
      have hF8 := okFr_rel hfr
      have hb8 : 0 ≤ n ∧ n ≤ 8 ∧ (xs.length : Int) = n := ⟨hF8.1, hF8.2.1, hF8.2.2.1⟩
      have hpl := okf_plain hq.2.1 hq.2.2
      have hokf : OKF vs.length a := by rw [hv6.2]; exact hpl.1
      have hal : a.length ≤ 40 := hpl.2
      have hxe : inR x 0 (n - 1) = true := by first | assumption | (exfalso; omega)
      have hx9 := (inR_iff x 0 (n - 1)).1 hxe
      refine R.go 6 (R.call true (l17Force_c a.length n xs vs a (by rfl) hokf (by first | omega | (have hq := len_lef hok ((partsN_two _).2 (by omega)); omega)) (by first | omega | (have hb9 := acb (n := n) (xs := xs) (vs := vs) (a := a) (by assumption); omega) | (have hb9 := vab (n := n) (xs := xs) (vs := vs) (by assumption); omega)) (by first | omega | (have hb9 := acb (n := n) (xs := xs) (vs := vs) (a := a) (by assumption); omega) | (have hb9 := vab (n := n) (xs := xs) (vs := vs) (by assumption); omega)) (by first | omega | (have hb9 := acb (n := n) (xs := xs) (vs := vs) (a := a) (by assumption); omega) | (have hb9 := vab (n := n) (xs := xs) (vs := vs) (by assumption); omega))) (by kernel_rfl) rfl (by kernel_rfl) ?_)
      refine R.go 1 (R.call true (l01Bit_c (fv (impA n xs) vs a) x (by first | omega | (have hb9 := acb (n := n) (xs := xs) (vs := vs) (a := a) (by assumption); omega) | (have hb9 := vab (n := n) (xs := xs) (vs := vs) (by assumption); omega)) (by first | omega | (have hb9 := acb (n := n) (xs := xs) (vs := vs) (a := a) (by assumption); omega) | (have hb9 := vab (n := n) (xs := xs) (vs := vs) (by assumption); omega))) (by kernel_rfl) rfl (by kernel_rfl) ?_)
      exact R.go 3 (R.retE (.tup [.bool (decide (band (shr64 (fv (impA n xs) vs a) x) 1 = 1)), AI 0]) (by kernel_rfl) (by kernel_rfl) (by first | (first | exact as_1 (by assumption) | exact ac_2 (fcn (by assumption)) (by assumption) | exact as_5 (by assumption) (by assumption) (by assumption) | (rw [impAB_eq hfr]; exact ac_0 ⟨hq.1, hq.2.1⟩ hxe hq.2.2)) | (exfalso; omega)))
  · refine R.want (!decide ((fcode n xs vs a) = 1)) true (by kernel_rfl) (nT c1) ?_
    refine R.go 1 (R.want (!decide ((fcode n xs vs a) = 1)) true (by kernel_rfl) (nT c1) ?_)
    refine R.go 1 (R.want (!decide ((fcode n xs vs a) = 1)) true (by kernel_rfl) (nT c1) ?_)
    refine R.go 1 (R.want (!decide ((fcode n xs vs a) = 1)) true (by kernel_rfl) (nT c1) ?_)
    refine R.ar (n - 1) (by kernel_rfl) (by first | omega | (have hb9 := acb (n := n) (xs := xs) (vs := vs) (a := a) (by assumption); omega) | (have hb9 := vab (n := n) (xs := xs) (vs := vs) (by assumption); omega)) (by first | omega | (have hb9 := acb (n := n) (xs := xs) (vs := vs) (a := a) (by assumption); omega) | (have hb9 := vab (n := n) (xs := xs) (vs := vs) (by assumption); omega)) (by kernel_rfl) ?_
    refine R.want (!decide ((fcode n xs vs a) = 1)) true (by kernel_rfl) (nT c1) ?_
    refine R.call true (l01In_c x 0 (n - 1)) (by kernel_rfl) rfl (by kernel_rfl) ?_
    refine R.want (!decide ((fcode n xs vs a) = 1)) true (by kernel_rfl) (nT c1) ?_
    refine R.go 1 (R.pick (!decide ((fcode n xs vs a) = 1)) true (by kernel_rfl) (nT c1) (by kernel_rfl) ?_)
    refine R.go 1 (R.condM (inR x 0 (n - 1)) (by kernel_rfl) (fun c3 => ?_) (fun c3 => ?_))
    · exact R.go 16 (R.retE (.tup [.bool false, AI 2]) (by kernel_rfl) (by kernel_rfl) (by first | (first | exact as_1 (by assumption) | exact ac_2 (fcn (by assumption)) (by assumption) | exact as_5 (by assumption) (by assumption) (by assumption) | (rw [impAB_eq hfr]; exact ac_0 ⟨hq.1, hq.2.1⟩ hxe hq.2.2)) | (exfalso; omega)))
    · refine R.go 7 (R.condN ((fcode n xs vs a) = 0) (by kernel_rfl) (fun c4 => ?_) (fun c4 => ?_))
      · exact R.go 6 (R.retE (.tup [.bool false, AI (fcode n xs vs a)]) (by kernel_rfl) (by kernel_rfl) (by first | (first | exact as_1 (by assumption) | exact ac_2 (fcn (by assumption)) (by assumption) | exact as_5 (by assumption) (by assumption) (by assumption) | (rw [impAB_eq hfr]; exact ac_0 ⟨hq.1, hq.2.1⟩ hxe hq.2.2)) | (exfalso; omega)))
      · have hq := fc_ok (by assumption)
        have hv6 := vaB_po hq.1
        have hPo : okPo n xs = true := hv6.1
        have hfr : okFr n xs = true := okPo_fr hPo
        have hF8 := okFr_rel hfr
        have hb8 : 0 ≤ n ∧ n ≤ 8 ∧ (xs.length : Int) = n := ⟨hF8.1, hF8.2.1, hF8.2.2.1⟩
        have hpl := okf_plain hq.2.1 hq.2.2
        have hokf : OKF vs.length a := by rw [hv6.2]; exact hpl.1
        have hal : a.length ≤ 40 := hpl.2
        have hxe : inR x 0 (n - 1) = true := by first | assumption | (exfalso; omega)
        have hx9 := (inR_iff x 0 (n - 1)).1 hxe
        refine R.go 6 (R.call true (l17Force_c a.length n xs vs a (by rfl) hokf (by first | omega | (have hq := len_lef hok ((partsN_two _).2 (by omega)); omega)) (by first | omega | (have hb9 := acb (n := n) (xs := xs) (vs := vs) (a := a) (by assumption); omega) | (have hb9 := vab (n := n) (xs := xs) (vs := vs) (by assumption); omega)) (by first | omega | (have hb9 := acb (n := n) (xs := xs) (vs := vs) (a := a) (by assumption); omega) | (have hb9 := vab (n := n) (xs := xs) (vs := vs) (by assumption); omega)) (by first | omega | (have hb9 := acb (n := n) (xs := xs) (vs := vs) (a := a) (by assumption); omega) | (have hb9 := vab (n := n) (xs := xs) (vs := vs) (by assumption); omega))) (by kernel_rfl) rfl (by kernel_rfl) ?_)
        refine R.go 1 (R.call true (l01Bit_c (fv (impA n xs) vs a) x (by first | omega | (have hb9 := acb (n := n) (xs := xs) (vs := vs) (a := a) (by assumption); omega) | (have hb9 := vab (n := n) (xs := xs) (vs := vs) (by assumption); omega)) (by first | omega | (have hb9 := acb (n := n) (xs := xs) (vs := vs) (a := a) (by assumption); omega) | (have hb9 := vab (n := n) (xs := xs) (vs := vs) (by assumption); omega))) (by kernel_rfl) rfl (by kernel_rfl) ?_)
        exact R.go 3 (R.retE (.tup [.bool (decide (band (shr64 (fv (impA n xs) vs a) x) 1 = 1)), AI 0]) (by kernel_rfl) (by kernel_rfl) (by first | (first | exact as_1 (by assumption) | exact ac_2 (fcn (by assumption)) (by assumption) | exact as_5 (by assumption) (by assumption) (by assumption) | (rw [impAB_eq hfr]; exact ac_0 ⟨hq.1, hq.2.1⟩ hxe hq.2.2)) | (exfalso; omega)))

theorem FA_impl (n : Int) (xs : List Int) (vs : List Int) (x : Int) (a : List (Int × Int)) (lx : xs.length ≤ 1048576) (lv : vs.length ≤ 1048576) (la : a.length ≤ 1048576) : CallA Try.prog 46 [.agg [AI n, LI xs], LI vs, AI x, LN a] (.tup [.bool (aval n xs vs x a), AI (acode n xs vs x a)]) := by
  refine CallA.of Try.func46 rfl (by kernel_rfl) ?_
  refine R.go 12 (R.call true (isValuation_c n xs vs lx lv) (by kernel_rfl) rfl (by kernel_rfl) ?_)
  refine R.go 2 ?_
  refine (Bool.eq_false_or_eq_true (vaB n xs vs)).elim (fun c1 => ?_) (fun c1 => ?_)
  · refine R.want (!(vaB n xs vs)) false (by kernel_rfl) (bnF c1) ?_
    refine R.go 1 (R.want (!(vaB n xs vs)) false (by kernel_rfl) (bnF c1) ?_)
    refine R.call true (isFormula_c a (by first | omega | (have hb9 := acb (n := n) (xs := xs) (vs := vs) (a := a) (by assumption); omega) | (have hb9 := vab (n := n) (xs := xs) (vs := vs) (by assumption); omega))) (by kernel_rfl) rfl (by kernel_rfl) ?_
    refine R.want (!(vaB n xs vs)) false (by kernel_rfl) (bnF c1) ?_
    refine R.go 1 (R.pick (!(vaB n xs vs)) false (by kernel_rfl) (bnF c1) (by kernel_rfl) ?_)
    refine R.go 2 (R.condM (isF a) (by kernel_rfl) (fun c2 => ?_) (fun c2 => ?_))
    · exact R.go 5 (R.retE (.tup [.bool false, AI 1]) (by kernel_rfl) (by kernel_rfl) (by first | (first | exact ac_1 (by rintro ⟨b1, b2⟩; simp_all) | exact ac_2 ⟨by assumption, by assumption⟩ (by assumption) | exact ac_5 ⟨by assumption, by assumption⟩ (by assumption) (by simpa using (by assumption : (!a.any modN) = false)) | exact ac_0 ⟨hva, hif⟩ hxe hmo) | (exfalso; omega)))
    · refine R.go 4 (R.call true (hasElement_c n xs x (by first | omega | (have hb9 := acb (n := n) (xs := xs) (vs := vs) (a := a) (by assumption); omega) | (have hb9 := vab (n := n) (xs := xs) (vs := vs) (by assumption); omega)) (by first | omega | (have hb9 := acb (n := n) (xs := xs) (vs := vs) (a := a) (by assumption); omega) | (have hb9 := vab (n := n) (xs := xs) (vs := vs) (by assumption); omega))) (by kernel_rfl) rfl (by kernel_rfl) ?_)
      refine R.go 3 (R.condM (inR x 0 (n - 1)) (by kernel_rfl) (fun c3 => ?_) (fun c3 => ?_))
      · exact R.go 5 (R.retE (.tup [.bool false, AI 2]) (by kernel_rfl) (by kernel_rfl) (by first | (first | exact ac_1 (by rintro ⟨b1, b2⟩; simp_all) | exact ac_2 ⟨by assumption, by assumption⟩ (by assumption) | exact ac_5 ⟨by assumption, by assumption⟩ (by assumption) (by simpa using (by assumption : (!a.any modN) = false)) | exact ac_0 ⟨hva, hif⟩ hxe hmo) | (exfalso; omega)))
      · refine R.go 3 (R.call true (isPlain_c a (by first | omega | (have hb9 := acb (n := n) (xs := xs) (vs := vs) (a := a) (by assumption); omega) | (have hb9 := vab (n := n) (xs := xs) (vs := vs) (by assumption); omega))) (by kernel_rfl) rfl (by kernel_rfl) ?_)
        refine R.go 3 (R.condM (!(a.any modN)) (by kernel_rfl) (fun c4 => ?_) (fun c4 => ?_))
        · exact R.go 5 (R.retE (.tup [.bool false, AI 5]) (by kernel_rfl) (by kernel_rfl) (by first | (first | exact ac_1 (by rintro ⟨b1, b2⟩; simp_all) | exact ac_2 ⟨by assumption, by assumption⟩ (by assumption) | exact ac_5 ⟨by assumption, by assumption⟩ (by assumption) (by simpa using (by assumption : (!a.any modN) = false)) | exact ac_0 ⟨hva, hif⟩ hxe hmo) | (exfalso; omega)))
        · have hva : vaB n xs vs = true := by assumption
          have hif : isF a = true := by assumption
          have hmo : a.any modN = false := by simpa using (by assumption : (!a.any modN) = true)
          have hv6 := vaB_po hva
          have hfr : okFr n xs = true := okPo_fr hv6.1
          have hF8 := okFr_rel hfr
          have hb8 : 0 ≤ n ∧ n ≤ 8 ∧ (xs.length : Int) = n := ⟨hF8.1, hF8.2.1, hF8.2.2.1⟩
          have hpl := okf_plain hif hmo
          have hokf : OKF vs.length a := by rw [hv6.2]; exact hpl.1
          have hal : a.length ≤ 40 := hpl.2
          have hxe : inR x 0 (n - 1) = true := by first | assumption | (exfalso; omega)
          have hx9 := (inR_iff x 0 (n - 1)).1 hxe
          refine R.go 7 (R.call true (forced_c n xs vs a hokf (by first | omega | (have hb9 := acb (n := n) (xs := xs) (vs := vs) (a := a) (by assumption); omega) | (have hb9 := vab (n := n) (xs := xs) (vs := vs) (by assumption); omega)) (by first | omega | (have hb9 := acb (n := n) (xs := xs) (vs := vs) (a := a) (by assumption); omega) | (have hb9 := vab (n := n) (xs := xs) (vs := vs) (by assumption); omega)) (by first | omega | (have hb9 := acb (n := n) (xs := xs) (vs := vs) (a := a) (by assumption); omega) | (have hb9 := vab (n := n) (xs := xs) (vs := vs) (by assumption); omega)) (by first | omega | (have hb9 := acb (n := n) (xs := xs) (vs := vs) (a := a) (by assumption); omega) | (have hb9 := vab (n := n) (xs := xs) (vs := vs) (by assumption); omega))) (by kernel_rfl) rfl (by kernel_rfl) ?_)
          refine R.go 1 (R.call true (has_c (fv (impB n xs) vs a) x (by first | omega | (have hb9 := acb (n := n) (xs := xs) (vs := vs) (a := a) (by assumption); omega) | (have hb9 := vab (n := n) (xs := xs) (vs := vs) (by assumption); omega))) (by kernel_rfl) rfl (by kernel_rfl) ?_)
          exact R.go 3 (R.retE (.tup [.bool (decide (band (shr64 (fv (impB n xs) vs a) x) 1 = 1)), AI 0]) (by kernel_rfl) (by kernel_rfl) (by first | (first | exact ac_1 (by rintro ⟨b1, b2⟩; simp_all) | exact ac_2 ⟨by assumption, by assumption⟩ (by assumption) | exact ac_5 ⟨by assumption, by assumption⟩ (by assumption) (by simpa using (by assumption : (!a.any modN) = false)) | exact ac_0 ⟨hva, hif⟩ hxe hmo) | (exfalso; omega)))
  · refine R.skp (!(vaB n xs vs)) false (by kernel_rfl) (bnT c1) (by kernel_rfl) ?_
    refine R.skp (!(vaB n xs vs)) false (by kernel_rfl) (bnT c1) (by kernel_rfl) ?_
    refine R.skp (!(vaB n xs vs)) false (by kernel_rfl) (bnT c1) (by kernel_rfl) ?_
    refine R.pick (!(vaB n xs vs)) true (by kernel_rfl) (bnT c1) (by kernel_rfl) ?_
    exact R.go 8 (R.retE (.tup [.bool false, AI 1]) (by kernel_rfl) (by kernel_rfl) (by first | (first | exact ac_1 (by rintro ⟨b1, b2⟩; simp_all) | exact ac_2 ⟨by assumption, by assumption⟩ (by assumption) | exact ac_5 ⟨by assumption, by assumption⟩ (by assumption) (by simpa using (by assumption : (!a.any modN) = false)) | exact ac_0 ⟨hva, hif⟩ hxe hmo) | (exfalso; omega)))

theorem lawIsForcedAt_in (n : Int) (xs : List Int) (vs : List Int) (x : Int) (a : List (Int × Int)) (hl : xs.length + a.length ≤ 1048576) (h0vs : vs.length ≤ 1048576) : CallA Try.prog 11 [.agg [AI n, LI xs], LI vs, AI x, LN a] (.bool true) := by
  refine CallA.of Try.func11 rfl (by kernel_rfl) ?_
  refine R.go 12 (R.cond ((vs.length : Int) > 1048576) (by kernel_rfl) (fun c1 => ?_) (fun c1 => ?_))
  · exact R.go 4 (R.retE (.bool true) (by kernel_rfl) (by kernel_rfl) (by rfl))
  · refine R.go 9 (R.call true (szPoset_c n xs 1048576 (by omega) (by first | omega | (simp <;> omega))) (by kernel_rfl) rfl (by kernel_rfl) ?_)
    refine R.go 8 (R.cond (((1048576 : Int) - xs.length) < 0) (by kernel_rfl) (fun c2 => ?_) (fun c2 => ?_))
    · exact R.go 4 (R.retE (.bool true) (by kernel_rfl) (by kernel_rfl) (by rfl))
    · refine R.go 5 (R.call true (szNodeS_c a ((1048576 : Int) - xs.length) (by first | omega | (simp <;> omega)) (by first | omega | (simp <;> omega))) (by kernel_rfl) rfl (by kernel_rfl) ?_)
      refine R.go 8 (R.cond (((((1048576 : Int) - xs.length) : Int) - a.length) < 0) (by kernel_rfl) (fun c3 => ?_) (fun c3 => ?_))
      · exact R.go 4 (R.retE (.bool true) (by kernel_rfl) (by kernel_rfl) (by rfl))
      · refine R.go 4 (R.call true (toPoset_c n xs (by first | omega | (simp <;> omega))).frz (by kernel_rfl) rfl (by kernel_rfl) ?_)
        refine R.go 1 (R.call true (toInt64S_c vs h0vs).frz (by kernel_rfl) rfl (by kernel_rfl) ?_)
        refine R.go 2 (R.call true (toNodeS_c a (by first | omega | (simp <;> omega))).frz (by kernel_rfl) rfl (by kernel_rfl) ?_)
        refine R.call true (FA_spec n xs vs x a (by first | omega | (simp <;> omega)) h0vs (by first | omega | (simp <;> omega))) (by kernel_rfl) rfl (by kernel_rfl) ?_
        refine R.go 9 (R.call true (toPoset_c n xs (by first | omega | (simp <;> omega))).frz (by kernel_rfl) rfl (by kernel_rfl) ?_)
        refine R.go 6 (R.call true (toInt64S_c vs h0vs).frz (by kernel_rfl) rfl (by kernel_rfl) ?_)
        refine R.go 5 (R.call true (toNodeS_c a (by first | omega | (simp <;> omega))).frz (by kernel_rfl) rfl (by kernel_rfl) ?_)
        refine R.go 8 (R.call true (FA_impl n xs vs x a (by first | omega | (simp <;> omega)) h0vs (by first | omega | (simp <;> omega))) (by kernel_rfl) rfl (by kernel_rfl) ?_)
        refine R.go 13 (R.want (!((aval n xs vs x a) == (aval n xs vs x a))) false (by kernel_rfl) (bnF (beq_self_eq_true _)) ?_)
        refine R.go 1 (R.want (!((aval n xs vs x a) == (aval n xs vs x a))) false (by kernel_rfl) (bnF (beq_self_eq_true _)) ?_)
        refine R.go 1 (R.want (!((aval n xs vs x a) == (aval n xs vs x a))) false (by kernel_rfl) (bnF (beq_self_eq_true _)) ?_)
        refine R.go 1 (R.pick (!((aval n xs vs x a) == (aval n xs vs x a))) false (by kernel_rfl) (bnF (beq_self_eq_true _)) (by kernel_rfl) ?_)
        refine R.go 1 (R.els (!decide ((acode n xs vs x a) = (acode n xs vs x a))) (by kernel_rfl) (nF rfl) ?_)
        refine R.go 6 (R.call true (toPoset_c n xs (by first | omega | (simp <;> omega))).frz (by kernel_rfl) rfl (by kernel_rfl) ?_)
        refine R.call true (eqPoset_c n xs (by first | omega | (simp <;> omega))) (by kernel_rfl) rfl (by kernel_rfl) ?_
        refine R.go 9 (R.call true (toInt64S_c vs h0vs).frz (by kernel_rfl) rfl (by kernel_rfl) ?_)
        refine R.call true (eqInt64S_c vs vs (by first | omega | (simp <;> omega))) (by kernel_rfl) rfl (by kernel_rfl) ?_
        refine R.go 2 (R.els (!decide (vs = vs)) (by kernel_rfl) (nF rfl) ?_)
        refine R.go 6 (R.call true (toNodeS_c a (by first | omega | (simp <;> omega))).frz (by kernel_rfl) rfl (by kernel_rfl) ?_)
        refine R.call true (eqNodeS_c a a (by first | omega | (simp <;> omega))) (by kernel_rfl) rfl (by kernel_rfl) ?_
        refine R.go 2 (R.els (!decide (a = a)) (by kernel_rfl) (nF rfl) ?_)
        exact R.go 5 (R.retE (.bool true) (by kernel_rfl) (by kernel_rfl) (by rfl))

theorem lawIsForcedAt_0vs (n : Int) (xs : List Int) (vs : List Int) (x : Int) (a : List (Int × Int)) (hx : 1048576 < vs.length) : CallA Try.prog 11 [.agg [AI n, LI xs], LI vs, AI x, LN a] (.bool true) := by
  refine CallA.of Try.func11 rfl (by kernel_rfl) ?_
  refine R.go 12 (R.cond ((vs.length : Int) > 1048576) (by kernel_rfl) (fun c1 => ?_) (fun c1 => ?_))
  · exact R.go 4 (R.retE (.bool true) (by kernel_rfl) (by kernel_rfl) (by rfl))
  · refine R.go 9 (R.call true (szPoset_c n xs 1048576 (by omega) (by first | omega | (simp <;> omega))) (by kernel_rfl) rfl (by kernel_rfl) ?_)
    refine R.go 8 (R.cond (((1048576 : Int) - xs.length) < 0) (by kernel_rfl) (fun c2 => ?_) (fun c2 => ?_))
    · exact R.go 4 (R.retE (.bool true) (by kernel_rfl) (by kernel_rfl) (by rfl))
    · refine R.go 5 (R.call true (szNodeS_c a ((1048576 : Int) - xs.length) (by first | omega | (simp <;> omega)) (by first | omega | (simp <;> omega))) (by kernel_rfl) rfl (by kernel_rfl) ?_)
      refine R.go 8 (R.cond (((((1048576 : Int) - xs.length) : Int) - a.length) < 0) (by kernel_rfl) (fun c3 => ?_) (fun c3 => ?_))
      · exact R.go 4 (R.retE (.bool true) (by kernel_rfl) (by kernel_rfl) (by rfl))
      · refine R.go 4 (R.call true (toPoset_c n xs (by first | omega | (simp <;> omega))).frz (by kernel_rfl) rfl (by kernel_rfl) ?_)
        refine R.go 1 (R.call true (toInt64S_c vs (by first | omega | (simp <;> omega))).frz (by kernel_rfl) rfl (by kernel_rfl) ?_)
        refine R.go 2 (R.call true (toNodeS_c a (by first | omega | (simp <;> omega))).frz (by kernel_rfl) rfl (by kernel_rfl) ?_)
        refine R.call true (FA_spec n xs vs x a (by first | omega | (simp <;> omega)) (by first | omega | (simp <;> omega)) (by first | omega | (simp <;> omega))) (by kernel_rfl) rfl (by kernel_rfl) ?_
        refine R.go 9 (R.call true (toPoset_c n xs (by first | omega | (simp <;> omega))).frz (by kernel_rfl) rfl (by kernel_rfl) ?_)
        refine R.go 6 (R.call true (toInt64S_c vs (by first | omega | (simp <;> omega))).frz (by kernel_rfl) rfl (by kernel_rfl) ?_)
        refine R.go 5 (R.call true (toNodeS_c a (by first | omega | (simp <;> omega))).frz (by kernel_rfl) rfl (by kernel_rfl) ?_)
        refine R.go 8 (R.call true (FA_impl n xs vs x a (by first | omega | (simp <;> omega)) (by first | omega | (simp <;> omega)) (by first | omega | (simp <;> omega))) (by kernel_rfl) rfl (by kernel_rfl) ?_)
        refine R.go 13 (R.want (!((aval n xs vs x a) == (aval n xs vs x a))) false (by kernel_rfl) (bnF (beq_self_eq_true _)) ?_)
        refine R.go 1 (R.want (!((aval n xs vs x a) == (aval n xs vs x a))) false (by kernel_rfl) (bnF (beq_self_eq_true _)) ?_)
        refine R.go 1 (R.want (!((aval n xs vs x a) == (aval n xs vs x a))) false (by kernel_rfl) (bnF (beq_self_eq_true _)) ?_)
        refine R.go 1 (R.pick (!((aval n xs vs x a) == (aval n xs vs x a))) false (by kernel_rfl) (bnF (beq_self_eq_true _)) (by kernel_rfl) ?_)
        refine R.go 1 (R.els (!decide ((acode n xs vs x a) = (acode n xs vs x a))) (by kernel_rfl) (nF rfl) ?_)
        refine R.go 6 (R.call true (toPoset_c n xs (by first | omega | (simp <;> omega))).frz (by kernel_rfl) rfl (by kernel_rfl) ?_)
        refine R.call true (eqPoset_c n xs (by first | omega | (simp <;> omega))) (by kernel_rfl) rfl (by kernel_rfl) ?_
        refine R.go 9 (R.call true (toInt64S_c vs (by first | omega | (simp <;> omega))).frz (by kernel_rfl) rfl (by kernel_rfl) ?_)
        refine R.call true (eqInt64S_c vs vs (by first | omega | (simp <;> omega))) (by kernel_rfl) rfl (by kernel_rfl) ?_
        refine R.go 2 (R.els (!decide (vs = vs)) (by kernel_rfl) (nF rfl) ?_)
        refine R.go 6 (R.call true (toNodeS_c a (by first | omega | (simp <;> omega))).frz (by kernel_rfl) rfl (by kernel_rfl) ?_)
        refine R.call true (eqNodeS_c a a (by first | omega | (simp <;> omega))) (by kernel_rfl) rfl (by kernel_rfl) ?_
        refine R.go 2 (R.els (!decide (a = a)) (by kernel_rfl) (nF rfl) ?_)
        exact R.go 5 (R.retE (.bool true) (by kernel_rfl) (by kernel_rfl) (by rfl))

theorem lawIsForcedAt_1 (n : Int) (xs : List Int) (vs : List Int) (x : Int) (a : List (Int × Int)) (hx : 1048576 < xs.length) (hb : xs.length ≤ 9223372036854775807) : CallA Try.prog 11 [.agg [AI n, LI xs], LI vs, AI x, LN a] (.bool true) := by
  refine CallA.of Try.func11 rfl (by kernel_rfl) ?_
  refine R.go 12 (R.cond ((vs.length : Int) > 1048576) (by kernel_rfl) (fun c1 => ?_) (fun c1 => ?_))
  · exact R.go 4 (R.retE (.bool true) (by kernel_rfl) (by kernel_rfl) (by rfl))
  · refine R.go 9 (R.call true (szPoset_no n xs 1048576 (by omega) (by first | omega | (simp <;> omega)) hb) (by kernel_rfl) rfl (by kernel_rfl) ?_)
    exact R.go 13 (R.retE (.bool true) (by kernel_rfl) (by kernel_rfl) (by rfl))

theorem lawIsForcedAt_2 (n : Int) (xs : List Int) (vs : List Int) (x : Int) (a : List (Int × Int)) (hy : xs.length ≤ 1048576) (hx : 1048576 < xs.length + a.length) (hb : a.length ≤ 9223372036854775807) : CallA Try.prog 11 [.agg [AI n, LI xs], LI vs, AI x, LN a] (.bool true) := by
  refine CallA.of Try.func11 rfl (by kernel_rfl) ?_
  refine R.go 12 (R.cond ((vs.length : Int) > 1048576) (by kernel_rfl) (fun c1 => ?_) (fun c1 => ?_))
  · exact R.go 4 (R.retE (.bool true) (by kernel_rfl) (by kernel_rfl) (by rfl))
  · refine R.go 9 (R.call true (szPoset_c n xs 1048576 (by omega) (by first | omega | (simp <;> omega))) (by kernel_rfl) rfl (by kernel_rfl) ?_)
    refine R.go 8 (R.cond (((1048576 : Int) - xs.length) < 0) (by kernel_rfl) (fun c2 => ?_) (fun c2 => ?_))
    · exact R.go 4 (R.retE (.bool true) (by kernel_rfl) (by kernel_rfl) (by rfl))
    · refine R.go 5 (R.call true (szNodeS_no a ((1048576 : Int) - xs.length) (by first | omega | (simp <;> omega)) (by first | omega | (simp <;> omega)) hb) (by kernel_rfl) rfl (by kernel_rfl) ?_)
      exact R.go 13 (R.retE (.bool true) (by kernel_rfl) (by kernel_rfl) (by rfl))

theorem lawIsForcedAt (n : Int) (xs : List Int) (m0 : xs.length ≤ maxLen) (vs : List Int) (m0vs : vs.length ≤ maxLen) (x : Int) (a : List (Int × Int)) (m1 : a.length ≤ maxLen) : CallA Try.prog 11 [.agg [AI n, LI xs], LI vs, AI x, LN a] (.bool true) := by
  have hm : maxLen ≤ 9223372036854775807 := by decide
  rcases Nat.lt_or_ge 1048576 vs.length with h0vs | h0vs
  · exact lawIsForcedAt_0vs n xs vs x a h0vs
  rcases Nat.lt_or_ge 1048576 (xs.length) with h0 | h0
  · exact lawIsForcedAt_1 n xs vs x a h0 (by omega)
  rcases Nat.lt_or_ge 1048576 (xs.length + a.length) with h1 | h1
  · exact lawIsForcedAt_2 n xs vs x a h0 h1 (by omega)
  exact lawIsForcedAt_in n xs vs x a h1 h0vs

end Go.Proofs.Yteblikpghnnclaa
