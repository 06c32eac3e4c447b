/- TruthSet, IsTrueIn, IsTrueAt of both packages; their laws. -/
import Derived.Test.YtkmjijomengoiaaQ06
import Derived.Test.YtkmjijomengoiaaH03
namespace Go.Proofs.Ytkmjijomengoiaa
open Go.RowKit Go.Abs

theorem l06TruthT_c (n : Int) (xs vs : List Int) (a : List (Int × Int)) (hF : okFr n xs = true) (hok : OKM vs.length a) (hl : a.length ≤ 1000000000) : CallA Try.prog 72 [.agg [AI n, LI xs, LI vs], LN a] (AI (tset n xs vs a)) := by
  obtain ⟨h0, h8, hx, _⟩ := okFr_rel hF
  have h := l06Truth_c a.length n xs vs a rfl hok h0 h8 (by omega) hl
  rw [bxAB hF] at h
  exact h
def tval (n : Int) (xs vs : List Int) (a : List (Int × Int)) : Int := if mcode n xs vs a = 0 then tset n xs vs a else 0
def tin (n : Int) (xs vs : List Int) (a : List (Int × Int)) : Bool := decide (mcode n xs vs a = 0) && decide (tset n xs vs a = (shl64 1 n) - 1)
def tatC (n : Int) (xs vs : List Int) (w : Int) (a : List (Int × Int)) : Int := if mcode n xs vs a = 0 then (if inR w 0 (n - 1) = true then 0 else 2) else mcode n xs vs a
def tat (n : Int) (xs vs : List Int) (w : Int) (a : List (Int × Int)) : Bool := decide (mcode n xs vs a = 0) && inR w 0 (n - 1) && decide (band (shr64 (tset n xs vs a) w) 1 = 1)
theorem tupI {a b c d : Int} (h : a = c) (h' : b = d) : AV.tup [AI a, AI b] = AV.tup [AI c, AI d] := by rw [h, h']
theorem tupB {a c : Bool} {b d : Int} (h : a = c) (h' : b = d) : AV.tup [.bool a, AI b] = AV.tup [.bool c, AI d] := by rw [h, h']
theorem mcode_bad {n : Int} {xs vs : List Int} {a : List (Int × Int)} (h : okMo n xs vs = false) : mcode n xs vs a = 1 := (mcode_1 h).symm
theorem mcode_bad2 {n : Int} {xs vs : List Int} {a : List (Int × Int)} (h : isF a = false) : mcode n xs vs a = 1 := (mcode_2 h).symm
theorem mcode_good {n : Int} {xs vs : List Int} {a : List (Int × Int)} (h : okMo n xs vs = true) (h2 : isF a = true) : mcode n xs vs a = 0 := (mcode_0 h h2).symm

theorem truthIn_c (n : Int) (xs : List Int) (vs : List Int) (a : List (Int × Int)) (hok : OKM vs.length a) (h0 : 0 ≤ n) (h1 : n ≤ 8) (hx : xs.length ≤ 60) (hl : a.length ≤ 1000000000) : CallA Try.prog 75 [.agg [AI n, LI xs, LI vs], LN a] (AI (tset n xs vs a)) := by
  refine CallA.of Try.func75 rfl (by kernel_rfl) ?_
  refine R.go 12 (R.call true (truthSet_c n xs vs a hok h0 h1 hx hl) (by kernel_rfl) rfl (by kernel_rfl) ?_)
  exact R.go 2 (R.retE (AI (gv (mT n) (mU n (bxB xs)) vs a)) (by kernel_rfl) (by kernel_rfl) (by first | (rfl) | (exfalso; omega)))

theorem hasWorld_c (n : Int) (xs : List Int) (w : Int) (h0 : 0 ≤ n) (h1 : n ≤ 8) : CallA Try.prog 79 [.agg [AI n, LI xs], AI w] (.bool (inR w 0 (n - 1))) := by
  refine CallA.of Try.func79 rfl (by kernel_rfl) ?_
  refine R.go 10 (R.ar (n - 1) (by kernel_rfl) (by omega) (by omega) (by kernel_rfl) ?_)
  refine R.call true (inRange_c w 0 (n - 1)) (by kernel_rfl) rfl (by kernel_rfl) ?_
  exact R.go 2 (R.retE (.bool (inR w 0 (n - 1))) (by kernel_rfl) (by kernel_rfl) (by rfl))

theorem l05World_c (n : Int) (xs : List Int) (w : Int) (h0 : 0 ≤ n) (h1 : n ≤ 8) : CallA Try.prog 77 [.agg [AI n, LI xs], AI w] (.bool (inR w 0 (n - 1))) := by
  refine CallA.of Try.func77 rfl (by kernel_rfl) ?_
  refine R.go 10 (R.ar (n - 1) (by kernel_rfl) (by omega) (by omega) (by kernel_rfl) ?_)
  refine R.call true (l01In_c w 0 (n - 1)) (by kernel_rfl) rfl (by kernel_rfl) ?_
  exact R.go 2 (R.retE (.bool (inR w 0 (n - 1))) (by kernel_rfl) (by kernel_rfl) (by rfl))

theorem TS_spec (n : Int) (xs : List Int) (vs : List Int) (a : List (Int × Int)) (l1 : xs.length ≤ 1048576) (l2 : vs.length ≤ 1048576) (hl : a.length ≤ 1048576) : CallA Try.prog 29 [.agg [AI n, LI xs, LI vs], LN a] (.tup [AI (tval n xs vs a), AI (mcode n xs vs a)]) := by
  refine CallA.of Try.func29 rfl (by kernel_rfl) ?_
  refine R.go 10 (R.call true (l06Is_c n xs vs (by first | omega | (simp <;> omega)) (by first | omega | (simp <;> omega))) (by kernel_rfl) rfl (by kernel_rfl) ?_)
  refine R.go 2 ?_
  rcases Bool.eq_false_or_eq_true (okMo n xs vs) with c1 | c1
  · refine R.want (!(okMo n xs vs)) false (by kernel_rfl) (bnF c1) ?_
    refine R.go 1 (R.want (!(okMo n xs vs)) false (by kernel_rfl) (bnF c1) ?_)
    refine R.call true (l02Is_c a (by first | omega | (simp <;> omega))) (by kernel_rfl) rfl (by kernel_rfl) ?_
    refine R.want (!(okMo n xs vs)) false (by kernel_rfl) (bnF c1) ?_
    refine R.go 1 (R.pick (!(okMo n xs vs)) false (by kernel_rfl) (bnF c1) (by kernel_rfl) ?_)
    refine R.go 1 (R.condM (isF a) (by kernel_rfl) (fun c2 => ?_) (fun c2 => ?_))
    · exact R.go 5 (R.retE (.tup [AI 0, AI 1]) (by kernel_rfl) (by kernel_rfl) (by first | (refine tupI ?_ ?_ <;> first | (simp [tval, tin, tat, tatC, *]; done) | (have hm := mcode_bad (a := a) ‹okMo n xs vs = false›; simp [tval, tin, tat, tatC, hm]; done) | (have hm := mcode_bad2 (n := n) (xs := xs) (vs := vs) ‹isF a = false›; simp [tval, tin, tat, tatC, hm]; done)) | (exfalso; omega)))
    · have hc1 : okMo n xs vs = true := by assumption
      have hc2 : isF a = true := by assumption
      have hm : mcode n xs vs a = 0 := mcode_good hc1 hc2
      have hM : okFr n xs = true ∧ vs.length = 6 := okMo_fr hc1
      have hF : okFr n xs = true := hM.1
      have hA := isF_okm hc2
      have hR := okFr_rel hF
      have hok : OKM vs.length a := by rw [hM.2]; exact hA.1
      have hb : 0 ≤ n ∧ n ≤ 8 ∧ (xs.length : Int) = n := ⟨hR.1, hR.2.1, hR.2.2.1⟩
      have hal : a.length ≤ 40 := hA.2
      refine R.go 5 (R.call true (l06TruthT_c n xs vs a hF hok (by first | omega | (simp <;> omega))) (by kernel_rfl) rfl (by kernel_rfl) ?_)
      exact R.go 3 (R.retE (.tup [AI (tset n xs vs a), AI 0]) (by kernel_rfl) (by kernel_rfl) (by first | (refine tupI ?_ ?_ <;> first | (simp [tval, tin, tat, tatC, *]; done) | (have hm := mcode_bad (a := a) ‹okMo n xs vs = false›; simp [tval, tin, tat, tatC, hm]; done) | (have hm := mcode_bad2 (n := n) (xs := xs) (vs := vs) ‹isF a = false›; simp [tval, tin, tat, tatC, hm]; done)) | (exfalso; omega)))
  · refine R.skp (!(okMo n xs vs)) false (by kernel_rfl) (bnT c1) (by kernel_rfl) ?_
    refine R.skp (!(okMo n xs vs)) false (by kernel_rfl) (bnT c1) (by kernel_rfl) ?_
    refine R.skp (!(okMo n xs vs)) false (by kernel_rfl) (bnT c1) (by kernel_rfl) ?_
    refine R.pick (!(okMo n xs vs)) true (by kernel_rfl) (bnT c1) (by kernel_rfl) ?_
    exact R.go 7 (R.retE (.tup [AI 0, AI 1]) (by kernel_rfl) (by kernel_rfl) (by first | (refine tupI ?_ ?_ <;> first | (simp [tval, tin, tat, tatC, *]; done) | (have hm := mcode_bad (a := a) ‹okMo n xs vs = false›; simp [tval, tin, tat, tatC, hm]; done) | (have hm := mcode_bad2 (n := n) (xs := xs) (vs := vs) ‹isF a = false›; simp [tval, tin, tat, tatC, hm]; done)) | (exfalso; omega)))

theorem TS_impl (n : Int) (xs : List Int) (vs : List Int) (a : List (Int × Int)) (l1 : xs.length ≤ 1048576) (l2 : vs.length ≤ 1048576) (hl : a.length ≤ 1048576) : CallA Try.prog 30 [.agg [AI n, LI xs, LI vs], LN a] (.tup [AI (tval n xs vs a), AI (mcode n xs vs a)]) := by
  refine CallA.of Try.func30 rfl (by kernel_rfl) ?_
  refine R.go 11 (R.call true (modelCode_c n xs vs a (by first | omega | (simp <;> omega)) (by first | omega | (simp <;> omega)) (by first | omega | (simp <;> omega))) (by kernel_rfl) rfl (by kernel_rfl) ?_)
  refine R.go 7 (R.condN ((mcode n xs vs a) = 0) (by kernel_rfl) (fun c1 => ?_) (fun c1 => ?_))
  · exact R.go 6 (R.retE (.tup [AI 0, AI (mcode n xs vs a)]) (by kernel_rfl) (by kernel_rfl) (by first | (refine tupI ?_ ?_ <;> first | (simp [tval, tin, tat, tatC, *]; done) | (have hm := mcode_bad (a := a) ‹okMo n xs vs = false›; simp [tval, tin, tat, tatC, hm]; done) | (have hm := mcode_bad2 (n := n) (xs := xs) (vs := vs) ‹isF a = false›; simp [tval, tin, tat, tatC, hm]; done)) | (exfalso; omega)))
  · have hm : mcode n xs vs a = 0 := by assumption
    have hc1 : okMo n xs vs = true := (mcode_ok hm).1
    have hc2 : isF a = true := (mcode_ok hm).2
    have hM : okFr n xs = true ∧ vs.length = 6 := okMo_fr hc1
    have hF : okFr n xs = true := hM.1
    have hA := isF_okm hc2
    have hR := okFr_rel hF
    have hok : OKM vs.length a := by rw [hM.2]; exact hA.1
    have hb : 0 ≤ n ∧ n ≤ 8 ∧ (xs.length : Int) = n := ⟨hR.1, hR.2.1, hR.2.2.1⟩
    have hal : a.length ≤ 40 := hA.2
    refine R.go 5 (R.call true (truthIn_c n xs vs a hok (by omega) (by omega) (by first | omega | (simp <;> omega)) (by first | omega | (simp <;> omega))) (by kernel_rfl) rfl (by kernel_rfl) ?_)
    exact R.go 3 (R.retE (.tup [AI (tset n xs vs a), AI 0]) (by kernel_rfl) (by kernel_rfl) (by first | (refine tupI ?_ ?_ <;> first | (simp [tval, tin, tat, tatC, *]; done) | (have hm := mcode_bad (a := a) ‹okMo n xs vs = false›; simp [tval, tin, tat, tatC, hm]; done) | (have hm := mcode_bad2 (n := n) (xs := xs) (vs := vs) ‹isF a = false›; simp [tval, tin, tat, tatC, hm]; done)) | (exfalso; omega)))

theorem TI_spec (n : Int) (xs : List Int) (vs : List Int) (a : List (Int × Int)) (l1 : xs.length ≤ 1048576) (l2 : vs.length ≤ 1048576) (hl : a.length ≤ 1048576) : CallA Try.prog 25 [.agg [AI n, LI xs, LI vs], LN a] (.tup [.bool (tin n xs vs a), AI (mcode n xs vs a)]) := by
  refine CallA.of Try.func25 rfl (by kernel_rfl) ?_
  refine R.go 10 (R.call true (l06Is_c n xs vs (by first | omega | (simp <;> omega)) (by first | omega | (simp <;> omega))) (by kernel_rfl) rfl (by kernel_rfl) ?_)
  refine R.go 2 ?_
  rcases Bool.eq_false_or_eq_true (okMo n xs vs) with c1 | c1
  · refine R.want (!(okMo n xs vs)) false (by kernel_rfl) (bnF c1) ?_
    refine R.go 1 (R.want (!(okMo n xs vs)) false (by kernel_rfl) (bnF c1) ?_)
    refine R.call true (l02Is_c a (by first | omega | (simp <;> omega))) (by kernel_rfl) rfl (by kernel_rfl) ?_
    refine R.want (!(okMo n xs vs)) false (by kernel_rfl) (bnF c1) ?_
    refine R.go 1 (R.pick (!(okMo n xs vs)) false (by kernel_rfl) (bnF c1) (by kernel_rfl) ?_)
    refine R.go 1 (R.condM (isF a) (by kernel_rfl) (fun c2 => ?_) (fun c2 => ?_))
    · exact R.go 5 (R.retE (.tup [.bool false, AI 1]) (by kernel_rfl) (by kernel_rfl) (by first | (refine tupB ?_ ?_ <;> first | (simp [tval, tin, tat, tatC, *]; done) | (have hm := mcode_bad (a := a) ‹okMo n xs vs = false›; simp [tval, tin, tat, tatC, hm]; done) | (have hm := mcode_bad2 (n := n) (xs := xs) (vs := vs) ‹isF a = false›; simp [tval, tin, tat, tatC, hm]; done)) | (exfalso; omega)))
    · have hc1 : okMo n xs vs = true := by assumption
      have hc2 : isF a = true := by assumption
      have hm : mcode n xs vs a = 0 := mcode_good hc1 hc2
      have hM : okFr n xs = true ∧ vs.length = 6 := okMo_fr hc1
      have hF : okFr n xs = true := hM.1
      have hA := isF_okm hc2
      have hR := okFr_rel hF
      have hok : OKM vs.length a := by rw [hM.2]; exact hA.1
      have hb : 0 ≤ n ∧ n ≤ 8 ∧ (xs.length : Int) = n := ⟨hR.1, hR.2.1, hR.2.2.1⟩
      have hal : a.length ≤ 40 := hA.2
      refine R.go 5 (R.call true (l06TruthT_c n xs vs a hF hok (by first | omega | (simp <;> omega))) (by kernel_rfl) rfl (by kernel_rfl) ?_)
      refine R.go 3 (R.call true (l01Full_c n (by omega) (by omega)) (by kernel_rfl) rfl (by kernel_rfl) ?_)
      exact R.go 4 (R.retE (.tup [.bool (decide ((tset n xs vs a) = ((shl64 1 n) - 1))), AI 0]) (by kernel_rfl) (by kernel_rfl) (by first | (refine tupB ?_ ?_ <;> first | (simp [tval, tin, tat, tatC, *]; done) | (have hm := mcode_bad (a := a) ‹okMo n xs vs = false›; simp [tval, tin, tat, tatC, hm]; done) | (have hm := mcode_bad2 (n := n) (xs := xs) (vs := vs) ‹isF a = false›; simp [tval, tin, tat, tatC, hm]; done)) | (exfalso; omega)))
  · refine R.skp (!(okMo n xs vs)) false (by kernel_rfl) (bnT c1) (by kernel_rfl) ?_
    refine R.skp (!(okMo n xs vs)) false (by kernel_rfl) (bnT c1) (by kernel_rfl) ?_
    refine R.skp (!(okMo n xs vs)) false (by kernel_rfl) (bnT c1) (by kernel_rfl) ?_
    refine R.pick (!(okMo n xs vs)) true (by kernel_rfl) (bnT c1) (by kernel_rfl) ?_
    exact R.go 7 (R.retE (.tup [.bool false, AI 1]) (by kernel_rfl) (by kernel_rfl) (by first | (refine tupB ?_ ?_ <;> first | (simp [tval, tin, tat, tatC, *]; done) | (have hm := mcode_bad (a := a) ‹okMo n xs vs = false›; simp [tval, tin, tat, tatC, hm]; done) | (have hm := mcode_bad2 (n := n) (xs := xs) (vs := vs) ‹isF a = false›; simp [tval, tin, tat, tatC, hm]; done)) | (exfalso; omega)))

theorem TI_impl (n : Int) (xs : List Int) (vs : List Int) (a : List (Int × Int)) (l1 : xs.length ≤ 1048576) (l2 : vs.length ≤ 1048576) (hl : a.length ≤ 1048576) : CallA Try.prog 27 [.agg [AI n, LI xs, LI vs], LN a] (.tup [.bool (tin n xs vs a), AI (mcode n xs vs a)]) := by
  refine CallA.of Try.func27 rfl (by kernel_rfl) ?_
  refine R.go 11 (R.call true (modelCode_c n xs vs a (by first | omega | (simp <;> omega)) (by first | omega | (simp <;> omega)) (by first | omega | (simp <;> omega))) (by kernel_rfl) rfl (by kernel_rfl) ?_)
  refine R.go 7 (R.condN ((mcode n xs vs a) = 0) (by kernel_rfl) (fun c1 => ?_) (fun c1 => ?_))
  · exact R.go 6 (R.retE (.tup [.bool false, AI (mcode n xs vs a)]) (by kernel_rfl) (by kernel_rfl) (by first | (refine tupB ?_ ?_ <;> first | (simp [tval, tin, tat, tatC, *]; done) | (have hm := mcode_bad (a := a) ‹okMo n xs vs = false›; simp [tval, tin, tat, tatC, hm]; done) | (have hm := mcode_bad2 (n := n) (xs := xs) (vs := vs) ‹isF a = false›; simp [tval, tin, tat, tatC, hm]; done)) | (exfalso; omega)))
  · have hm : mcode n xs vs a = 0 := by assumption
    have hc1 : okMo n xs vs = true := (mcode_ok hm).1
    have hc2 : isF a = true := (mcode_ok hm).2
    have hM : okFr n xs = true ∧ vs.length = 6 := okMo_fr hc1
    have hF : okFr n xs = true := hM.1
    have hA := isF_okm hc2
    have hR := okFr_rel hF
    have hok : OKM vs.length a := by rw [hM.2]; exact hA.1
    have hb : 0 ≤ n ∧ n ≤ 8 ∧ (xs.length : Int) = n := ⟨hR.1, hR.2.1, hR.2.2.1⟩
    have hal : a.length ≤ 40 := hA.2
    refine R.go 5 (R.call true (truthIn_c n xs vs a hok (by omega) (by omega) (by first | omega | (simp <;> omega)) (by first | omega | (simp <;> omega))) (by kernel_rfl) rfl (by kernel_rfl) ?_)
    refine R.go 2 (R.call true (frameAll_c n xs (by omega) (by omega)) (by kernel_rfl) rfl (by kernel_rfl) ?_)
    exact R.go 4 (R.retE (.tup [.bool (decide ((tset n xs vs a) = ((shl64 1 n) - 1))), AI 0]) (by kernel_rfl) (by kernel_rfl) (by first | (refine tupB ?_ ?_ <;> first | (simp [tval, tin, tat, tatC, *]; done) | (have hm := mcode_bad (a := a) ‹okMo n xs vs = false›; simp [tval, tin, tat, tatC, hm]; done) | (have hm := mcode_bad2 (n := n) (xs := xs) (vs := vs) ‹isF a = false›; simp [tval, tin, tat, tatC, hm]; done)) | (exfalso; omega)))

theorem TA_spec (n : Int) (xs : List Int) (vs : List Int) (w : Int) (a : List (Int × Int)) (l1 : xs.length ≤ 1048576) (l2 : vs.length ≤ 1048576) (hl : a.length ≤ 1048576) : CallA Try.prog 31 [.agg [AI n, LI xs, LI vs], AI w, LN a] (.tup [.bool (tat n xs vs w a), AI (tatC n xs vs w a)]) := by
  refine CallA.of Try.func31 rfl (by kernel_rfl) ?_
  refine R.go 11 (R.call true (l06Is_c n xs vs (by first | omega | (simp only [inR_iff] at *; omega)) (by first | omega | (simp only [inR_iff] at *; omega))) (by kernel_rfl) rfl (by kernel_rfl) ?_)
  refine R.go 2 ?_
  rcases Bool.eq_false_or_eq_true (okMo n xs vs) with c1 | c1
  · refine R.want (!(okMo n xs vs)) false (by kernel_rfl) (bnF c1) ?_
    refine R.go 1 (R.want (!(okMo n xs vs)) false (by kernel_rfl) (bnF c1) ?_)
    refine R.call true (l02Is_c a (by first | omega | (simp only [inR_iff] at *; omega))) (by kernel_rfl) rfl (by kernel_rfl) ?_
    refine R.want (!(okMo n xs vs)) false (by kernel_rfl) (bnF c1) ?_
    refine R.go 1 (R.pick (!(okMo n xs vs)) false (by kernel_rfl) (bnF c1) (by kernel_rfl) ?_)
    refine R.go 2 (R.condM (isF a) (by kernel_rfl) (fun c2 => ?_) (fun c2 => ?_))
    · exact R.go 5 (R.retE (.tup [.bool false, AI 1]) (by kernel_rfl) (by kernel_rfl) (by first | (refine tupB ?_ ?_ <;> first | (simp [tval, tin, tat, tatC, *]; done) | (have hm := mcode_bad (a := a) ‹okMo n xs vs = false›; simp [tval, tin, tat, tatC, hm]; done) | (have hm := mcode_bad2 (n := n) (xs := xs) (vs := vs) ‹isF a = false›; simp [tval, tin, tat, tatC, hm]; done)) | (exfalso; omega)))
    · have hc1 : okMo n xs vs = true := by assumption
      have hc2 : isF a = true := by assumption
      have hm : mcode n xs vs a = 0 := mcode_good hc1 hc2
      have hM : okFr n xs = true ∧ vs.length = 6 := okMo_fr hc1
      have hF : okFr n xs = true := hM.1
      have hA := isF_okm hc2
      have hR := okFr_rel hF
      have hok : OKM vs.length a := by rw [hM.2]; exact hA.1
      have hb : 0 ≤ n ∧ n ≤ 8 ∧ (xs.length : Int) = n := ⟨hR.1, hR.2.1, hR.2.2.1⟩
      have hal : a.length ≤ 40 := hA.2
      refine R.go 5 (R.call true (l05World_c n xs w (by first | omega | (simp only [inR_iff] at *; omega)) (by first | omega | (simp only [inR_iff] at *; omega))) (by kernel_rfl) rfl (by kernel_rfl) ?_)
      refine R.go 3 (R.condM (inR w 0 (n - 1)) (by kernel_rfl) (fun c3 => ?_) (fun c3 => ?_))
      · exact R.go 5 (R.retE (.tup [.bool false, AI 2]) (by kernel_rfl) (by kernel_rfl) (by first | (refine tupB ?_ ?_ <;> first | (simp [tval, tin, tat, tatC, *]; done) | (have hm := mcode_bad (a := a) ‹okMo n xs vs = false›; simp [tval, tin, tat, tatC, hm]; done) | (have hm := mcode_bad2 (n := n) (xs := xs) (vs := vs) ‹isF a = false›; simp [tval, tin, tat, tatC, hm]; done)) | (exfalso; omega)))
      · refine R.go 6 (R.call true (l06TruthT_c n xs vs a hF hok (by first | omega | (simp only [inR_iff] at *; omega))) (by kernel_rfl) rfl (by kernel_rfl) ?_)
        refine R.go 1 (R.call true (l01Bit_c (tset n xs vs a) w (by first | omega | (simp only [inR_iff] at *; omega)) (by first | omega | (simp only [inR_iff] at *; omega))) (by kernel_rfl) rfl (by kernel_rfl) ?_)
        exact R.go 3 (R.retE (.tup [.bool (decide (band (shr64 (tset n xs vs a) w) 1 = 1)), AI 0]) (by kernel_rfl) (by kernel_rfl) (by first | (refine tupB ?_ ?_ <;> first | (simp [tval, tin, tat, tatC, *]; done) | (have hm := mcode_bad (a := a) ‹okMo n xs vs = false›; simp [tval, tin, tat, tatC, hm]; done) | (have hm := mcode_bad2 (n := n) (xs := xs) (vs := vs) ‹isF a = false›; simp [tval, tin, tat, tatC, hm]; done)) | (exfalso; omega)))
  · refine R.skp (!(okMo n xs vs)) false (by kernel_rfl) (bnT c1) (by kernel_rfl) ?_
    refine R.skp (!(okMo n xs vs)) false (by kernel_rfl) (bnT c1) (by kernel_rfl) ?_
    refine R.skp (!(okMo n xs vs)) false (by kernel_rfl) (bnT c1) (by kernel_rfl) ?_
    refine R.pick (!(okMo n xs vs)) true (by kernel_rfl) (bnT c1) (by kernel_rfl) ?_
    exact R.go 8 (R.retE (.tup [.bool false, AI 1]) (by kernel_rfl) (by kernel_rfl) (by first | (refine tupB ?_ ?_ <;> first | (simp [tval, tin, tat, tatC, *]; done) | (have hm := mcode_bad (a := a) ‹okMo n xs vs = false›; simp [tval, tin, tat, tatC, hm]; done) | (have hm := mcode_bad2 (n := n) (xs := xs) (vs := vs) ‹isF a = false›; simp [tval, tin, tat, tatC, hm]; done)) | (exfalso; omega)))

theorem TA_impl (n : Int) (xs : List Int) (vs : List Int) (w : Int) (a : List (Int × Int)) (l1 : xs.length ≤ 1048576) (l2 : vs.length ≤ 1048576) (hl : a.length ≤ 1048576) : CallA Try.prog 32 [.agg [AI n, LI xs, LI vs], AI w, LN a] (.tup [.bool (tat n xs vs w a), AI (tatC n xs vs w a)]) := by
  refine CallA.of Try.func32 rfl (by kernel_rfl) ?_
  refine R.go 11 (R.call true (modelCode_c n xs vs a (by first | omega | (simp only [inR_iff] at *; omega)) (by first | omega | (simp only [inR_iff] at *; omega)) (by first | omega | (simp only [inR_iff] at *; omega))) (by kernel_rfl) rfl (by kernel_rfl) ?_)
  refine R.go 7 (R.condN ((mcode n xs vs a) = 0) (by kernel_rfl) (fun c1 => ?_) (fun c1 => ?_))
  · exact R.go 6 (R.retE (.tup [.bool false, AI (mcode n xs vs a)]) (by kernel_rfl) (by kernel_rfl) (by first | (refine tupB ?_ ?_ <;> first | (simp [tval, tin, tat, tatC, *]; done) | (have hm := mcode_bad (a := a) ‹okMo n xs vs = false›; simp [tval, tin, tat, tatC, hm]; done) | (have hm := mcode_bad2 (n := n) (xs := xs) (vs := vs) ‹isF a = false›; simp [tval, tin, tat, tatC, hm]; done)) | (exfalso; omega)))
  · have hm : mcode n xs vs a = 0 := by assumption
    have hc1 : okMo n xs vs = true := (mcode_ok hm).1
    have hc2 : isF a = true := (mcode_ok hm).2
    have hM : okFr n xs = true ∧ vs.length = 6 := okMo_fr hc1
    have hF : okFr n xs = true := hM.1
    have hA := isF_okm hc2
    have hR := okFr_rel hF
    have hok : OKM vs.length a := by rw [hM.2]; exact hA.1
    have hb : 0 ≤ n ∧ n ≤ 8 ∧ (xs.length : Int) = n := ⟨hR.1, hR.2.1, hR.2.2.1⟩
    have hal : a.length ≤ 40 := hA.2
    refine R.go 7 (R.call true (hasWorld_c n xs w (by first | omega | (simp only [inR_iff] at *; omega)) (by first | omega | (simp only [inR_iff] at *; omega))) (by kernel_rfl) rfl (by kernel_rfl) ?_)
    refine R.go 2 (R.condM (inR w 0 (n - 1)) (by kernel_rfl) (fun c2 => ?_) (fun c2 => ?_))
    · exact R.go 5 (R.retE (.tup [.bool false, AI 2]) (by kernel_rfl) (by kernel_rfl) (by first | (refine tupB ?_ ?_ <;> first | (simp [tval, tin, tat, tatC, *]; done) | (have hm := mcode_bad (a := a) ‹okMo n xs vs = false›; simp [tval, tin, tat, tatC, hm]; done) | (have hm := mcode_bad2 (n := n) (xs := xs) (vs := vs) ‹isF a = false›; simp [tval, tin, tat, tatC, hm]; done)) | (exfalso; omega)))
    · refine R.go 5 (R.call true (truthIn_c n xs vs a hok (by first | omega | (simp only [inR_iff] at *; omega)) (by first | omega | (simp only [inR_iff] at *; omega)) (by first | omega | (simp only [inR_iff] at *; omega)) (by first | omega | (simp only [inR_iff] at *; omega))) (by kernel_rfl) rfl (by kernel_rfl) ?_)
      refine R.go 1 (R.call true (has_c (tset n xs vs a) w (by first | omega | (simp only [inR_iff] at *; omega))) (by kernel_rfl) rfl (by kernel_rfl) ?_)
      exact R.go 3 (R.retE (.tup [.bool (decide (band (shr64 (tset n xs vs a) w) 1 = 1)), AI 0]) (by kernel_rfl) (by kernel_rfl) (by first | (refine tupB ?_ ?_ <;> first | (simp [tval, tin, tat, tatC, *]; done) | (have hm := mcode_bad (a := a) ‹okMo n xs vs = false›; simp [tval, tin, tat, tatC, hm]; done) | (have hm := mcode_bad2 (n := n) (xs := xs) (vs := vs) ‹isF a = false›; simp [tval, tin, tat, tatC, hm]; done)) | (exfalso; omega)))

theorem lawTruthSet_in (n : Int) (xs : List Int) (vs : List Int) (a : List (Int × Int)) (hl : xs.length + vs.length + a.length ≤ 1048576) : CallA Try.prog 5 [.agg [AI n, LI xs, LI vs], LN a] (.bool true) := by
  refine CallA.of Try.func5 rfl (by kernel_rfl) ?_
  refine R.go 13 (R.call true (szModel_c n xs vs 1048576 (by omega) (by first | omega | (simp <;> omega))) (by kernel_rfl) rfl (by kernel_rfl) ?_)
  refine R.go 8 (R.cond (((1048576 : Int) - xs.length - vs.length) < 0) (by kernel_rfl) (fun c1 => ?_) (fun c1 => ?_))
  · exact R.go 4 (R.retE (.bool true) (by kernel_rfl) (by kernel_rfl) (by rfl))
  · refine R.go 5 (R.call true (szNodeS_c a ((1048576 : Int) - xs.length - vs.length) (by first | omega | (simp <;> omega)) (by first | omega | (simp <;> omega))) (by kernel_rfl) rfl (by kernel_rfl) ?_)
    refine R.go 8 (R.cond (((((1048576 : Int) - xs.length - vs.length) : Int) - a.length) < 0) (by kernel_rfl) (fun c2 => ?_) (fun c2 => ?_))
    · exact R.go 4 (R.retE (.bool true) (by kernel_rfl) (by kernel_rfl) (by rfl))
    · refine R.go 4 (R.call true (toModel_c n xs vs (by first | omega | (simp <;> omega)) (by first | omega | (simp <;> omega))).frz (by kernel_rfl) rfl (by kernel_rfl) ?_)
      refine R.go 1 (R.call true (toNodeS_c a (by first | omega | (simp <;> omega))).frz (by kernel_rfl) rfl (by kernel_rfl) ?_)
      refine R.call true (TS_spec n xs vs a (by first | omega | (simp <;> omega)) (by first | omega | (simp <;> omega)) (by first | omega | (simp <;> omega))) (by kernel_rfl) rfl (by kernel_rfl) ?_
      refine R.go 9 (R.call true (toModel_c n xs vs (by first | omega | (simp <;> omega)) (by first | omega | (simp <;> omega))).frz (by kernel_rfl) rfl (by kernel_rfl) ?_)
      refine R.go 6 (R.call true (toNodeS_c a (by first | omega | (simp <;> omega))).frz (by kernel_rfl) rfl (by kernel_rfl) ?_)
      refine R.go 6 (R.call true (TS_impl n xs vs a (by first | omega | (simp <;> omega)) (by first | omega | (simp <;> omega)) (by first | omega | (simp <;> omega))) (by kernel_rfl) rfl (by kernel_rfl) ?_)
      refine R.go 13 (R.want (!decide ((tval n xs vs a) = (tval n xs vs a))) false (by kernel_rfl) (nF rfl) ?_)
      refine R.go 1 (R.want (!decide ((tval n xs vs a) = (tval n xs vs a))) false (by kernel_rfl) (nF rfl) ?_)
      refine R.go 1 (R.want (!decide ((tval n xs vs a) = (tval n xs vs a))) false (by kernel_rfl) (nF rfl) ?_)
      refine R.go 1 (R.pick (!decide ((tval n xs vs a) = (tval n xs vs a))) false (by kernel_rfl) (nF rfl) (by kernel_rfl) ?_)
      refine R.go 1 (R.els (!decide ((mcode n xs vs a) = (mcode n xs vs a))) (by kernel_rfl) (nF rfl) ?_)
      refine R.go 6 (R.call true (toModel_c n xs vs (by first | omega | (simp <;> omega)) (by first | omega | (simp <;> omega))).frz (by kernel_rfl) rfl (by kernel_rfl) ?_)
      refine R.call true (eqModel_c n xs vs (by first | omega | (simp <;> omega)) (by first | omega | (simp <;> omega))) (by kernel_rfl) rfl (by kernel_rfl) ?_
      refine R.go 9 (R.call true (toNodeS_c a (by first | omega | (simp <;> omega))).frz (by kernel_rfl) rfl (by kernel_rfl) ?_)
      refine R.call true (eqNodeS_c a a (by first | omega | (simp <;> omega))) (by kernel_rfl) rfl (by kernel_rfl) ?_
      refine R.go 2 (R.els (!decide (a = a)) (by kernel_rfl) (nF rfl) ?_)
      exact R.go 5 (R.retE (.bool true) (by kernel_rfl) (by kernel_rfl) (by rfl))

theorem lawTruthSet_1 (n : Int) (xs : List Int) (vs : List Int) (a : List (Int × Int)) (hx : 1048576 < xs.length) (hl : xs.length ≤ 9223372036854775807) : CallA Try.prog 5 [.agg [AI n, LI xs, LI vs], LN a] (.bool true) := by
  refine CallA.of Try.func5 rfl (by kernel_rfl) ?_
  refine R.go 13 (R.call true (szModel_no1 n xs vs 1048576 (by omega) (by first | omega | (simp <;> omega)) hl) (by kernel_rfl) rfl (by kernel_rfl) ?_)
  exact R.go 13 (R.retE (.bool true) (by kernel_rfl) (by kernel_rfl) (by rfl))

theorem lawTruthSet_2 (n : Int) (xs : List Int) (vs : List Int) (a : List (Int × Int)) (hy : xs.length ≤ 1048576) (hx : 1048576 < xs.length + vs.length) (hl : vs.length ≤ 9223372036854775807) : CallA Try.prog 5 [.agg [AI n, LI xs, LI vs], LN a] (.bool true) := by
  refine CallA.of Try.func5 rfl (by kernel_rfl) ?_
  refine R.go 13 (R.call true (szModel_no2 n xs vs 1048576 (by omega) (by first | omega | (simp <;> omega)) (by first | omega | (simp <;> omega)) hl) (by kernel_rfl) rfl (by kernel_rfl) ?_)
  exact R.go 13 (R.retE (.bool true) (by kernel_rfl) (by kernel_rfl) (by rfl))

theorem lawTruthSet_3 (n : Int) (xs : List Int) (vs : List Int) (a : List (Int × Int)) (hy : xs.length + vs.length ≤ 1048576) (hx : 1048576 < xs.length + vs.length + a.length) (hl : a.length ≤ 9223372036854775807) : CallA Try.prog 5 [.agg [AI n, LI xs, LI vs], LN a] (.bool true) := by
  refine CallA.of Try.func5 rfl (by kernel_rfl) ?_
  refine R.go 13 (R.call true (szModel_c n xs vs 1048576 (by omega) (by first | omega | (simp <;> omega))) (by kernel_rfl) rfl (by kernel_rfl) ?_)
  refine R.go 8 (R.cond (((1048576 : Int) - xs.length - vs.length) < 0) (by kernel_rfl) (fun c1 => ?_) (fun c1 => ?_))
  · exact R.go 4 (R.retE (.bool true) (by kernel_rfl) (by kernel_rfl) (by rfl))
  · refine R.go 5 (R.call true (szNodeS_no a ((1048576 : Int) - xs.length - vs.length) (by first | omega | (simp <;> omega)) (by first | omega | (simp <;> omega)) hl) (by kernel_rfl) rfl (by kernel_rfl) ?_)
    exact R.go 13 (R.retE (.bool true) (by kernel_rfl) (by kernel_rfl) (by rfl))

theorem lawTruthSet (n : Int) (xs vs : List Int) (l1 : xs.length ≤ maxLen) (l2 : vs.length ≤ maxLen) (a : List (Int × Int)) (l3 : a.length ≤ maxLen) : CallA Try.prog 5 [.agg [AI n, LI xs, LI vs], LN a] (.bool true) := by
  have hm : maxLen ≤ 9223372036854775807 := by decide
  rcases Nat.lt_or_ge 1048576 xs.length with h | h
  · exact lawTruthSet_1 n xs vs a h (by omega)
  · rcases Nat.lt_or_ge 1048576 (xs.length + vs.length) with h2 | h2
    · exact lawTruthSet_2 n xs vs a h h2 (by omega)
    · rcases Nat.lt_or_ge 1048576 (xs.length + vs.length + a.length) with h3 | h3
      · exact lawTruthSet_3 n xs vs a h2 h3 (by omega)
      · exact lawTruthSet_in n xs vs a h3

theorem lawIsTrueIn_in (n : Int) (xs : List Int) (vs : List Int) (a : List (Int × Int)) (hl : xs.length + vs.length + a.length ≤ 1048576) : CallA Try.prog 4 [.agg [AI n, LI xs, LI vs], LN a] (.bool true) := by
  refine CallA.of Try.func4 rfl (by kernel_rfl) ?_
  refine R.go 13 (R.call true (szModel_c n xs vs 1048576 (by omega) (by first | omega | (simp <;> omega))) (by kernel_rfl) rfl (by kernel_rfl) ?_)
  refine R.go 8 (R.cond (((1048576 : Int) - xs.length - vs.length) < 0) (by kernel_rfl) (fun c1 => ?_) (fun c1 => ?_))
  · exact R.go 4 (R.retE (.bool true) (by kernel_rfl) (by kernel_rfl) (by rfl))
  · refine R.go 5 (R.call true (szNodeS_c a ((1048576 : Int) - xs.length - vs.length) (by first | omega | (simp <;> omega)) (by first | omega | (simp <;> omega))) (by kernel_rfl) rfl (by kernel_rfl) ?_)
    refine R.go 8 (R.cond (((((1048576 : Int) - xs.length - vs.length) : Int) - a.length) < 0) (by kernel_rfl) (fun c2 => ?_) (fun c2 => ?_))
    · exact R.go 4 (R.retE (.bool true) (by kernel_rfl) (by kernel_rfl) (by rfl))
    · refine R.go 4 (R.call true (toModel_c n xs vs (by first | omega | (simp <;> omega)) (by first | omega | (simp <;> omega))).frz (by kernel_rfl) rfl (by kernel_rfl) ?_)
      refine R.go 1 (R.call true (toNodeS_c a (by first | omega | (simp <;> omega))).frz (by kernel_rfl) rfl (by kernel_rfl) ?_)
      refine R.call true (TI_spec n xs vs a (by first | omega | (simp <;> omega)) (by first | omega | (simp <;> omega)) (by first | omega | (simp <;> omega))) (by kernel_rfl) rfl (by kernel_rfl) ?_
      refine R.go 9 (R.call true (toModel_c n xs vs (by first | omega | (simp <;> omega)) (by first | omega | (simp <;> omega))).frz (by kernel_rfl) rfl (by kernel_rfl) ?_)
      refine R.go 6 (R.call true (toNodeS_c a (by first | omega | (simp <;> omega))).frz (by kernel_rfl) rfl (by kernel_rfl) ?_)
      refine R.go 6 (R.call true (TI_impl n xs vs a (by first | omega | (simp <;> omega)) (by first | omega | (simp <;> omega)) (by first | omega | (simp <;> omega))) (by kernel_rfl) rfl (by kernel_rfl) ?_)
      refine R.go 13 (R.want (!((tin n xs vs a) == (tin n xs vs a))) false (by kernel_rfl) (bnF (beq_self_eq_true _)) ?_)
      refine R.go 1 (R.want (!((tin n xs vs a) == (tin n xs vs a))) false (by kernel_rfl) (bnF (beq_self_eq_true _)) ?_)
      refine R.go 1 (R.want (!((tin n xs vs a) == (tin n xs vs a))) false (by kernel_rfl) (bnF (beq_self_eq_true _)) ?_)
      refine R.go 1 (R.pick (!((tin n xs vs a) == (tin n xs vs a))) false (by kernel_rfl) (bnF (beq_self_eq_true _)) (by kernel_rfl) ?_)
      refine R.go 1 (R.els (!decide ((mcode n xs vs a) = (mcode n xs vs a))) (by kernel_rfl) (nF rfl) ?_)
      refine R.go 6 (R.call true (toModel_c n xs vs (by first | omega | (simp <;> omega)) (by first | omega | (simp <;> omega))).frz (by kernel_rfl) rfl (by kernel_rfl) ?_)
      refine R.call true (eqModel_c n xs vs (by first | omega | (simp <;> omega)) (by first | omega | (simp <;> omega))) (by kernel_rfl) rfl (by kernel_rfl) ?_
      refine R.go 9 (R.call true (toNodeS_c a (by first | omega | (simp <;> omega))).frz (by kernel_rfl) rfl (by kernel_rfl) ?_)
      refine R.call true (eqNodeS_c a a (by first | omega | (simp <;> omega))) (by kernel_rfl) rfl (by kernel_rfl) ?_
      refine R.go 2 (R.els (!decide (a = a)) (by kernel_rfl) (nF rfl) ?_)
      exact R.go 5 (R.retE (.bool true) (by kernel_rfl) (by kernel_rfl) (by rfl))

theorem lawIsTrueIn_1 (n : Int) (xs : List Int) (vs : List Int) (a : List (Int × Int)) (hx : 1048576 < xs.length) (hl : xs.length ≤ 9223372036854775807) : CallA Try.prog 4 [.agg [AI n, LI xs, LI vs], LN a] (.bool true) := by
  refine CallA.of Try.func4 rfl (by kernel_rfl) ?_
  refine R.go 13 (R.call true (szModel_no1 n xs vs 1048576 (by omega) (by first | omega | (simp <;> omega)) hl) (by kernel_rfl) rfl (by kernel_rfl) ?_)
  exact R.go 13 (R.retE (.bool true) (by kernel_rfl) (by kernel_rfl) (by rfl))

theorem lawIsTrueIn_2 (n : Int) (xs : List Int) (vs : List Int) (a : List (Int × Int)) (hy : xs.length ≤ 1048576) (hx : 1048576 < xs.length + vs.length) (hl : vs.length ≤ 9223372036854775807) : CallA Try.prog 4 [.agg [AI n, LI xs, LI vs], LN a] (.bool true) := by
  refine CallA.of Try.func4 rfl (by kernel_rfl) ?_
  refine R.go 13 (R.call true (szModel_no2 n xs vs 1048576 (by omega) (by first | omega | (simp <;> omega)) (by first | omega | (simp <;> omega)) hl) (by kernel_rfl) rfl (by kernel_rfl) ?_)
  exact R.go 13 (R.retE (.bool true) (by kernel_rfl) (by kernel_rfl) (by rfl))

theorem lawIsTrueIn_3 (n : Int) (xs : List Int) (vs : List Int) (a : List (Int × Int)) (hy : xs.length + vs.length ≤ 1048576) (hx : 1048576 < xs.length + vs.length + a.length) (hl : a.length ≤ 9223372036854775807) : CallA Try.prog 4 [.agg [AI n, LI xs, LI vs], LN a] (.bool true) := by
  refine CallA.of Try.func4 rfl (by kernel_rfl) ?_
  refine R.go 13 (R.call true (szModel_c n xs vs 1048576 (by omega) (by first | omega | (simp <;> omega))) (by kernel_rfl) rfl (by kernel_rfl) ?_)
  refine R.go 8 (R.cond (((1048576 : Int) - xs.length - vs.length) < 0) (by kernel_rfl) (fun c1 => ?_) (fun c1 => ?_))
  · exact R.go 4 (R.retE (.bool true) (by kernel_rfl) (by kernel_rfl) (by rfl))
  · refine R.go 5 (R.call true (szNodeS_no a ((1048576 : Int) - xs.length - vs.length) (by first | omega | (simp <;> omega)) (by first | omega | (simp <;> omega)) hl) (by kernel_rfl) rfl (by kernel_rfl) ?_)
    exact R.go 13 (R.retE (.bool true) (by kernel_rfl) (by kernel_rfl) (by rfl))

theorem lawIsTrueIn (n : Int) (xs vs : List Int) (l1 : xs.length ≤ maxLen) (l2 : vs.length ≤ maxLen) (a : List (Int × Int)) (l3 : a.length ≤ maxLen) : CallA Try.prog 4 [.agg [AI n, LI xs, LI vs], LN a] (.bool true) := by
  have hm : maxLen ≤ 9223372036854775807 := by decide
  rcases Nat.lt_or_ge 1048576 xs.length with h | h
  · exact lawIsTrueIn_1 n xs vs a h (by omega)
  · rcases Nat.lt_or_ge 1048576 (xs.length + vs.length) with h2 | h2
    · exact lawIsTrueIn_2 n xs vs a h h2 (by omega)
    · rcases Nat.lt_or_ge 1048576 (xs.length + vs.length + a.length) with h3 | h3
      · exact lawIsTrueIn_3 n xs vs a h2 h3 (by omega)
      · exact lawIsTrueIn_in n xs vs a h3

theorem lawIsTrueAt_in (n : Int) (xs : List Int) (vs : List Int) (w : Int) (a : List (Int × Int)) (hl : xs.length + vs.length + a.length ≤ 1048576) : CallA Try.prog 6 [.agg [AI n, LI xs, LI vs], AI w, LN a] (.bool true) := by
  refine CallA.of Try.func6 rfl (by kernel_rfl) ?_
  refine R.go 13 (R.call true (szModel_c n xs vs 1048576 (by omega) (by first | omega | (simp <;> omega))) (by kernel_rfl) rfl (by kernel_rfl) ?_)
  refine R.go 8 (R.cond (((1048576 : Int) - xs.length - vs.length) < 0) (by kernel_rfl) (fun c1 => ?_) (fun c1 => ?_))
  · exact R.go 4 (R.retE (.bool true) (by kernel_rfl) (by kernel_rfl) (by rfl))
  · refine R.go 5 (R.call true (szNodeS_c a ((1048576 : Int) - xs.length - vs.length) (by first | omega | (simp <;> omega)) (by first | omega | (simp <;> omega))) (by kernel_rfl) rfl (by kernel_rfl) ?_)
    refine R.go 8 (R.cond (((((1048576 : Int) - xs.length - vs.length) : Int) - a.length) < 0) (by kernel_rfl) (fun c2 => ?_) (fun c2 => ?_))
    · exact R.go 4 (R.retE (.bool true) (by kernel_rfl) (by kernel_rfl) (by rfl))
    · refine R.go 4 (R.call true (toModel_c n xs vs (by first | omega | (simp <;> omega)) (by first | omega | (simp <;> omega))).frz (by kernel_rfl) rfl (by kernel_rfl) ?_)
      refine R.go 2 (R.call true (toNodeS_c a (by first | omega | (simp <;> omega))).frz (by kernel_rfl) rfl (by kernel_rfl) ?_)
      refine R.call true (TA_spec n xs vs w a (by first | omega | (simp <;> omega)) (by first | omega | (simp <;> omega)) (by first | omega | (simp <;> omega))) (by kernel_rfl) rfl (by kernel_rfl) ?_
      refine R.go 9 (R.call true (toModel_c n xs vs (by first | omega | (simp <;> omega)) (by first | omega | (simp <;> omega))).frz (by kernel_rfl) rfl (by kernel_rfl) ?_)
      refine R.go 6 (R.call true (toNodeS_c a (by first | omega | (simp <;> omega))).frz (by kernel_rfl) rfl (by kernel_rfl) ?_)
      refine R.go 7 (R.call true (TA_impl n xs vs w a (by first | omega | (simp <;> omega)) (by first | omega | (simp <;> omega)) (by first | omega | (simp <;> omega))) (by kernel_rfl) rfl (by kernel_rfl) ?_)
      refine R.go 13 (R.want (!((tat n xs vs w a) == (tat n xs vs w a))) false (by kernel_rfl) (bnF (beq_self_eq_true _)) ?_)
      refine R.go 1 (R.want (!((tat n xs vs w a) == (tat n xs vs w a))) false (by kernel_rfl) (bnF (beq_self_eq_true _)) ?_)
      refine R.go 1 (R.want (!((tat n xs vs w a) == (tat n xs vs w a))) false (by kernel_rfl) (bnF (beq_self_eq_true _)) ?_)
      refine R.go 1 (R.pick (!((tat n xs vs w a) == (tat n xs vs w a))) false (by kernel_rfl) (bnF (beq_self_eq_true _)) (by kernel_rfl) ?_)
      refine R.go 1 (R.els (!decide ((tatC n xs vs w a) = (tatC n xs vs w a))) (by kernel_rfl) (nF rfl) ?_)
      refine R.go 6 (R.call true (toModel_c n xs vs (by first | omega | (simp <;> omega)) (by first | omega | (simp <;> omega))).frz (by kernel_rfl) rfl (by kernel_rfl) ?_)
      refine R.call true (eqModel_c n xs vs (by first | omega | (simp <;> omega)) (by first | omega | (simp <;> omega))) (by kernel_rfl) rfl (by kernel_rfl) ?_
      refine R.go 9 (R.call true (toNodeS_c a (by first | omega | (simp <;> omega))).frz (by kernel_rfl) rfl (by kernel_rfl) ?_)
      refine R.call true (eqNodeS_c a a (by first | omega | (simp <;> omega))) (by kernel_rfl) rfl (by kernel_rfl) ?_
      refine R.go 2 (R.els (!decide (a = a)) (by kernel_rfl) (nF rfl) ?_)
      exact R.go 5 (R.retE (.bool true) (by kernel_rfl) (by kernel_rfl) (by rfl))

theorem lawIsTrueAt_1 (n : Int) (xs : List Int) (vs : List Int) (w : Int) (a : List (Int × Int)) (hx : 1048576 < xs.length) (hl : xs.length ≤ 9223372036854775807) : CallA Try.prog 6 [.agg [AI n, LI xs, LI vs], AI w, LN a] (.bool true) := by
  refine CallA.of Try.func6 rfl (by kernel_rfl) ?_
  refine R.go 13 (R.call true (szModel_no1 n xs vs 1048576 (by omega) (by first | omega | (simp <;> omega)) hl) (by kernel_rfl) rfl (by kernel_rfl) ?_)
  exact R.go 13 (R.retE (.bool true) (by kernel_rfl) (by kernel_rfl) (by rfl))

theorem lawIsTrueAt_2 (n : Int) (xs : List Int) (vs : List Int) (w : Int) (a : List (Int × Int)) (hy : xs.length ≤ 1048576) (hx : 1048576 < xs.length + vs.length) (hl : vs.length ≤ 9223372036854775807) : CallA Try.prog 6 [.agg [AI n, LI xs, LI vs], AI w, LN a] (.bool true) := by
  refine CallA.of Try.func6 rfl (by kernel_rfl) ?_
  refine R.go 13 (R.call true (szModel_no2 n xs vs 1048576 (by omega) (by first | omega | (simp <;> omega)) (by first | omega | (simp <;> omega)) hl) (by kernel_rfl) rfl (by kernel_rfl) ?_)
  exact R.go 13 (R.retE (.bool true) (by kernel_rfl) (by kernel_rfl) (by rfl))

theorem lawIsTrueAt_3 (n : Int) (xs : List Int) (vs : List Int) (w : Int) (a : List (Int × Int)) (hy : xs.length + vs.length ≤ 1048576) (hx : 1048576 < xs.length + vs.length + a.length) (hl : a.length ≤ 9223372036854775807) : CallA Try.prog 6 [.agg [AI n, LI xs, LI vs], AI w, LN a] (.bool true) := by
  refine CallA.of Try.func6 rfl (by kernel_rfl) ?_
  refine R.go 13 (R.call true (szModel_c n xs vs 1048576 (by omega) (by first | omega | (simp <;> omega))) (by kernel_rfl) rfl (by kernel_rfl) ?_)
  refine R.go 8 (R.cond (((1048576 : Int) - xs.length - vs.length) < 0) (by kernel_rfl) (fun c1 => ?_) (fun c1 => ?_))
  · exact R.go 4 (R.retE (.bool true) (by kernel_rfl) (by kernel_rfl) (by rfl))
  · refine R.go 5 (R.call true (szNodeS_no a ((1048576 : Int) - xs.length - vs.length) (by first | omega | (simp <;> omega)) (by first | omega | (simp <;> omega)) hl) (by kernel_rfl) rfl (by kernel_rfl) ?_)
    exact R.go 13 (R.retE (.bool true) (by kernel_rfl) (by kernel_rfl) (by rfl))

theorem lawIsTrueAt (n : Int) (xs vs : List Int) (l1 : xs.length ≤ maxLen) (l2 : vs.length ≤ maxLen) (w : Int) (a : List (Int × Int)) (l3 : a.length ≤ maxLen) : CallA Try.prog 6 [.agg [AI n, LI xs, LI vs], AI w, LN a] (.bool true) := by
  have hm : maxLen ≤ 9223372036854775807 := by decide
  rcases Nat.lt_or_ge 1048576 xs.length with h | h
  · exact lawIsTrueAt_1 n xs vs w a h (by omega)
  · rcases Nat.lt_or_ge 1048576 (xs.length + vs.length) with h2 | h2
    · exact lawIsTrueAt_2 n xs vs w a h h2 (by omega)
    · rcases Nat.lt_or_ge 1048576 (xs.length + vs.length + a.length) with h3 | h3
      · exact lawIsTrueAt_3 n xs vs w a h2 h3 (by omega)
      · exact lawIsTrueAt_in n xs vs w a h3

end Go.Proofs.Ytkmjijomengoiaa
