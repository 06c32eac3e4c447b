/- Texts of the proof: W06, Sym8, PD1, SH1, Y00, Y01. -/
import Derived.Test.YtogehjciaamcfaaPartH

/-! StackPosets of both packages and its law. -/
namespace Go.Proofs.Ytogehjciaamcfaa
open Go.RowKit Go.Abs

def stC (n : Int) (xs : List Int) (m : Int) (ys : List Int) : Int := if okPo n xs = true ∧ okPo m ys = true then (if n + m ≤ 8 then 0 else 3) else 1
/-- One poset above another. -/
def stL (n : Int) (xs : List Int) (m : Int) (ys : List Int) : List Int := (xs.map fun x => bor x (shl64 ((shl64 1 m) - 1) n)) ++ ys.map fun y => shl64 y n
def stX (n : Int) (xs : List Int) (m : Int) (i : Nat) : List Int := (xs.take i).map fun x => bor x (shl64 ((shl64 1 m) - 1) n)
def stY (n : Int) (xs : List Int) (m : Int) (ys : List Int) (j : Nat) : List Int := (xs.map fun x => bor x (shl64 ((shl64 1 m) - 1) n)) ++ ((ys.take j).map fun y => shl64 y n)
theorem stX_len {n m : Int} {xs : List Int} {i : Nat} (h : i ≤ xs.length) : (stX n xs m i).length = i := by simp [stX]; omega
theorem stY_len {n m : Int} {xs ys : List Int} {j : Nat} (h : j ≤ ys.length) : (stY n xs m ys j).length = xs.length + j := by simp [stY]; omega
theorem stY_end {n m : Int} {xs ys : List Int} {j : Nat} (h : j = ys.length) : stY n xs m ys j = stL n xs m ys := by rw [stY, h, List.take_length]; rfl
theorem stY_zero {n m : Int} {xs ys : List Int} {i : Nat} (h : i = xs.length) : stX n xs m i = stY n xs m ys 0 := by rw [stX, stY, h, List.take_length]; simp
def stR (n : Int) (xs : List Int) (m : Int) (ys : List Int) : List Int := if stC n xs m ys = 0 then stL n xs m ys else []
def stN (n : Int) (xs : List Int) (m : Int) (ys : List Int) : Int := if stC n xs m ys = 0 then n + m else 0
theorem stL_len (n : Int) (xs : List Int) (m : Int) (ys : List Int) : (stL n xs m ys).length = xs.length + ys.length := by simp [stL]
theorem map_take {f : Int → Int} {xs : List Int} {i : Nat} (h : i < xs.length) : (xs.take i).map f ++ [f (xs.getD i 0)] = (xs.take (i + 1)).map f := by
  rw [List.take_succ_eq_append_getElem h, List.map_append, List.getD_eq_getElem?_getD, List.getElem?_eq_getElem h]
  rfl
theorem stX_step {n m : Int} {xs : List Int} {i : Nat} (h : i < xs.length) : stX n xs m i ++ [bor (xs.getD i 0) (shl64 ((shl64 1 m) - 1) n)] = stX n xs m (i + 1) := map_take (f := fun x => bor x (shl64 ((shl64 1 m) - 1) n)) h
theorem stY_step {n m : Int} {xs ys : List Int} {j : Nat} (h : j < ys.length) : stY n xs m ys j ++ [shl64 (ys.getD j 0) n] = stY n xs m ys (j + 1) := by rw [stY, List.append_assoc, map_take (f := fun y => shl64 y n) h]; rfl
theorem st_1 {n m : Int} {xs ys : List Int} (h : ¬ (okPo n xs = true ∧ okPo m ys = true)) : stC n xs m ys = 1 := if_neg h
theorem st_3 {n m : Int} {xs ys : List Int} (h : okPo n xs = true) (h1 : okPo m ys = true) (h2 : n + m > 8) : stC n xs m ys = 3 := by rw [stC, if_pos ⟨h, h1⟩, if_neg (by omega)]
theorem st_0 {n m : Int} {xs ys : List Int} (h : okPo n xs = true) (h1 : okPo m ys = true) (h2 : ¬ n + m > 8) : stC n xs m ys = 0 := by rw [stC, if_pos ⟨h, h1⟩, if_pos (by omega)]
theorem st_bad {s : Nat} {n m c : Int} {xs ys : List Int} (h : stC n xs m ys = c) (hc : ¬ c = 0) : AV.tup [.agg [AI 0, ownA eI s 1 []], AI c] = AV.tup [.agg [AI (stN n xs m ys), ownA eI s 1 (stR n xs m ys)], AI (stC n xs m ys)] := by
  rw [stN, stR, h, if_neg hc, if_neg hc]
theorem st_ok {s : Nat} {n m k : Int} {xs ys L : List Int} (h : stC n xs m ys = 0) (hk : k = n + m) (hL : L = stL n xs m ys) : AV.tup [.agg [AI k, ownA eI s 1 L], AI 0] = AV.tup [.agg [AI (stN n xs m ys), ownA eI s 1 (stR n xs m ys)], AI (stC n xs m ys)] := by
  rw [stN, stR, h, if_pos rfl, if_pos rfl, hk, hL]
theorem stc_ok {n m : Int} {xs ys : List Int} (h : stC n xs m ys = 0) : okPo n xs = true ∧ okPo m ys = true ∧ n + m ≤ 8 := by
  unfold stC at h
  split at h
  · rename_i h1
    split at h
    · rename_i h2; exact ⟨h1.1, h1.2, h2⟩
    · cases h
  · cases h
theorem st_len {n m : Int} {xs ys : List Int} : (stR n xs m ys).length ≤ 16 := by
  unfold stR
  split
  · rename_i h
    unfold stC at h
    split at h
    · rename_i h1
      have a := okFr_rel (okPo_fr h1.1)
      have b := okFr_rel (okPo_fr h1.2)
      rw [stL_len]
      omega
    · cases h
  · simp

theorem l16Make_c (xs : List Int) (hl : xs.length ≤ 1000000000) : CallA Try.prog 70 [LI xs] (.agg [AI xs.length, ownA eI 2 1 xs]) := by
  refine CallA.of Try.func70 rfl (by kernel_rfl) ?_
  refine R.go 9 (R.call true (l01Own_c xs hl) (by kernel_rfl) rfl (by kernel_rfl) ?_)
  exact R.go 3 (R.retE (.agg [AI xs.length, ownA eI 2 1 xs]) (by kernel_rfl) (by kernel_rfl) (by rfl))

theorem l16Two_c (n : Int) (xs : List Int) (m : Int) (ys : List Int) (lx : xs.length ≤ 1048576) (ly : ys.length ≤ 1048576) : CallA Try.prog 45 [.agg [AI n, LI xs], .agg [AI m, LI ys]] (AI (stC n xs m ys)) := by
  have hp := fun h : okPo n xs = true => okFr_rel (okPo_fr h)
  have hq := fun h : okPo m ys = true => okFr_rel (okPo_fr h)
  refine CallA.of Try.func45 rfl (by kernel_rfl) ?_
  refine R.go 11 (R.call true (l16Is_c n xs (by first | omega | (have h2 := hq (by assumption); omega) | (have h1 := hp (by assumption); omega) | (have h1 := hp (by assumption); have h2 := hq (by assumption); omega))) (by kernel_rfl) rfl (by kernel_rfl) ?_)
  refine R.go 2 ?_
  refine (Bool.eq_false_or_eq_true (okPo n xs)).elim (fun c1 => ?_) (fun c1 => ?_)
  · refine R.want (!(okPo n xs)) false (by kernel_rfl) (bnF c1) ?_
    refine R.go 1 (R.want (!(okPo n xs)) false (by kernel_rfl) (bnF c1) ?_)
    refine R.call true (l16Is_c m ys (by first | omega | (have h2 := hq (by assumption); omega) | (have h1 := hp (by assumption); omega) | (have h1 := hp (by assumption); have h2 := hq (by assumption); omega))) (by kernel_rfl) rfl (by kernel_rfl) ?_
    refine R.want (!(okPo n xs)) false (by kernel_rfl) (bnF c1) ?_
    refine R.go 1 (R.pick (!(okPo n xs)) false (by kernel_rfl) (bnF c1) (by kernel_rfl) ?_)
    refine R.go 2 (R.condM (okPo m ys) (by kernel_rfl) (fun c2 => ?_) (fun c2 => ?_))
    · exact R.go 4 (R.retE (AI 1) (by kernel_rfl) (by kernel_rfl) (by first | (apply congrArg AI; first | exact (st_1 (by simp_all)).symm | exact (st_3 (by assumption) (by assumption) (by assumption)).symm | exact (st_0 (by assumption) (by assumption) (by assumption)).symm) | (exfalso; omega)))
    · refine R.go 6 (R.ar (n + m) (by kernel_rfl) (by first | omega | (have h2 := hq (by assumption); omega) | (have h1 := hp (by assumption); omega) | (have h1 := hp (by assumption); have h2 := hq (by assumption); omega)) (by first | omega | (have h2 := hq (by assumption); omega) | (have h1 := hp (by assumption); omega) | (have h1 := hp (by assumption); have h2 := hq (by assumption); omega)) (by kernel_rfl) ?_)
      refine R.go 3 (R.cond ((n + m) > 8) (by kernel_rfl) (fun c3 => ?_) (fun c3 => ?_))
      · exact R.go 4 (R.retE (AI 3) (by kernel_rfl) (by kernel_rfl) (by first | (apply congrArg AI; first | exact (st_1 (by simp_all)).symm | exact (st_3 (by assumption) (by assumption) (by assumption)).symm | exact (st_0 (by assumption) (by assumption) (by assumption)).symm) | (exfalso; omega)))
      · exact R.go 6 (R.retE (AI 0) (by kernel_rfl) (by kernel_rfl) (by first | (apply congrArg AI; first | exact (st_1 (by simp_all)).symm | exact (st_3 (by assumption) (by assumption) (by assumption)).symm | exact (st_0 (by assumption) (by assumption) (by assumption)).symm) | (exfalso; omega)))
  · refine R.skp (!(okPo n xs)) false (by kernel_rfl) (bnT c1) (by kernel_rfl) ?_
    refine R.skp (!(okPo n xs)) false (by kernel_rfl) (bnT c1) (by kernel_rfl) ?_
    refine R.skp (!(okPo n xs)) false (by kernel_rfl) (bnT c1) (by kernel_rfl) ?_
    refine R.pick (!(okPo n xs)) true (by kernel_rfl) (bnT c1) (by kernel_rfl) ?_
    exact R.go 7 (R.retE (AI 1) (by kernel_rfl) (by kernel_rfl) (by first | (apply congrArg AI; first | exact (st_1 (by simp_all)).symm | exact (st_3 (by assumption) (by assumption) (by assumption)).symm | exact (st_0 (by assumption) (by assumption) (by assumption)).symm) | (exfalso; omega)))

theorem l16Join_c (n : Int) (xs : List Int) (m : Int) (ys : List Int) (hP : okPo n xs = true) (hQ : okPo m ys = true) (hs : n + m ≤ 8) : CallA Try.prog 46 [.agg [AI n, LI xs], .agg [AI m, LI ys], .bool true] (.agg [AI (n + m), ownA eI 2 1 (stL n xs m ys)]) := by
  have hp := fun h : okPo n xs = true => okFr_rel (okPo_fr h)
  have hq := fun h : okPo m ys = true => okFr_rel (okPo_fr h)
  have hp1 := hp hP
  have hq1 := hq hQ
  have hb : 0 ≤ n ∧ n ≤ 8 ∧ (xs.length : Int) = n ∧ 0 ≤ m ∧ m ≤ 8 ∧ (ys.length : Int) = m := ⟨hp1.1, hp1.2.1, hp1.2.2.1, hq1.1, hq1.2.1, hq1.2.2.1⟩
  have hsh := shl_rng m hq1.1 (by omega)
  refine CallA.of Try.func46 rfl (by kernel_rfl) ?_
  refine R.go 17 (R.loop ((fun | (i, out) => (⟨(frm 59 [(2, .bool true), (3, .ptr 0 0), (4, .ptr 1 0), (6, .ptr 2 0), (7, .ref 3), (8, AI (i : Int))]), [.box 26 [AI n, LI xs], .box 26 [AI m, LI ys], .box 26 [AI 0, .nil], rowA eI 2 1 out]⟩ : St) : Nat × (List Int) → St)) (fun | (i, out) => (i ≤ xs.length) ∧ (out = stX n xs m i)) (fun | (i, out) => xs.length - i) (0, []) [2, 3, 4, 6, 7, 8] none (by kernel_rfl) (by kernel_rfl) (by kernel_rfl) ⟨(by omega), (by rfl)⟩ ?_)
  rintro ⟨i, out⟩ ⟨h4_1, rfl⟩ R1 N2
  have hol := stX_len (n := n) (m := m) (xs := xs) (i := i) (by assumption)
  refine R.go 9 (R.cond ((i : Int) < (xs.length : Int)) (by kernel_rfl) (fun c5 => ?_) (fun c5 => ?_))
  · refine R.go 8 (R.idx eI xs 0 i (i : Int) (by kernel_rfl) rfl eI_len (by omega) (by kernel_rfl) ?_)
    refine R.go 13 (R.call true (l01Full_c m (by omega) (by omega)) (by kernel_rfl) rfl (by kernel_rfl) ?_)
    refine R.go 2 (R.cv .u64 n (by kernel_rfl) (u64_id (by omega) (by omega)) (by kernel_rfl) ?_)
    refine R.shl ((shl64 1 m) - 1) n (by kernel_rfl) (by omega) (by kernel_rfl) ?_
    refine R.go 7 (R.app eI (stX n xs m i) [bor (xs.getD i 0) (shl64 ((shl64 1 m) - 1) n)] 3 2 1 8 (by kernel_rfl) eI_one (by decide) (by first | omega | (simp <;> omega)) (by kernel_rfl) ?_)
    refine R.go 5 (R.ar ((i : Int) + 1) (by kernel_rfl) (by omega) (by omega) (by kernel_rfl) ?_)
    exact R.go 2 (R.stop R1 (by kernel_rfl) (N2 (i + 1, (stX n xs m i) ++ [bor (xs.getD i 0) (shl64 ((shl64 1 m) - 1) n)]) [2, 3, 4, 6, 7, 8] (some [0, 1, 2, 3]) _ (by kernel_rfl) (by kernel_rfl) ⟨(by omega), (by exact stX_step (by omega))⟩ (by show (xs.length - (i + 1)) < (xs.length - i); omega)))
  · refine R.go 7 (R.loop ((fun | (j, o2) => (⟨(frm 59 [(3, .ptr 0 0), (4, .ptr 1 0), (6, .ptr 2 0), (7, .ref 3), (10, AI (j : Int))]), [.box 26 [AI n, LI xs], .box 26 [AI m, LI ys], .box 26 [AI 0, .nil], rowA eI 2 1 o2]⟩ : St) : Nat × (List Int) → St)) (fun | (j, o2) => (j ≤ ys.length) ∧ (o2 = stY n xs m ys j)) (fun | (j, o2) => ys.length - j) (0, (stX n xs m i)) [3, 4, 6, 7, 10] none (by kernel_rfl) (by kernel_rfl) (by kernel_rfl) ⟨(by omega), (by exact stY_zero (by omega))⟩ ?_)
    rintro ⟨j, o2⟩ ⟨h9_1, rfl⟩ R6 N7
    have hol2 := stY_len (n := n) (m := m) (xs := xs) (ys := ys) (j := j) (by assumption)
    refine R.go 9 (R.cond ((j : Int) < (ys.length : Int)) (by kernel_rfl) (fun c10 => ?_) (fun c10 => ?_))
    · refine R.go 8 (R.idx eI ys 0 j (j : Int) (by kernel_rfl) rfl eI_len (by omega) (by kernel_rfl) ?_)
      refine R.go 3 (R.cv .u64 n (by kernel_rfl) (u64_id (by omega) (by omega)) (by kernel_rfl) ?_)
      refine R.shl (ys.getD j 0) n (by kernel_rfl) (by omega) (by kernel_rfl) ?_
      refine R.go 1 (R.app eI (stY n xs m ys j) [shl64 (ys.getD j 0) n] 3 2 1 8 (by kernel_rfl) eI_one (by decide) (by first | omega | (simp <;> omega)) (by kernel_rfl) ?_)
      refine R.go 5 (R.ar ((j : Int) + 1) (by kernel_rfl) (by omega) (by omega) (by kernel_rfl) ?_)
      exact R.go 2 (R.stop R6 (by kernel_rfl) (N7 (j + 1, (stY n xs m ys j) ++ [shl64 (ys.getD j 0) n]) [3, 4, 6, 7, 10] (some [0, 1, 2, 3]) _ (by kernel_rfl) (by kernel_rfl) ⟨(by omega), (by exact stY_step (by omega))⟩ (by show (ys.length - (j + 1)) < (ys.length - j); omega)))
    · refine R.go 4 (R.call false (l16Make_c (stY n xs m ys j) (by first | omega | (simp <;> omega))) (by kernel_rfl) (by simp [AV.closed, closedL, AI, ownA_closed eI_closed]) (by kernel_rfl) ?_)
      exact R.go 2 (R.retE (.agg [AI ((stY n xs m ys j).length), ownA eI 2 1 (stY n xs m ys j)]) (by kernel_rfl) (by kernel_rfl) (by first | (rw [hol2, stY_end (show j = ys.length by omega), show ((xs.length + j : Nat) : Int) = n + m by omega]) | (exfalso; omega)))

theorem ST_spec (n : Int) (xs : List Int) (m : Int) (ys : List Int) (lx : xs.length ≤ 1048576) (ly : ys.length ≤ 1048576) : CallA Try.prog 20 [.agg [AI n, LI xs], .agg [AI m, LI ys]] (.tup [.agg [AI (stN n xs m ys), ownA eI 2 1 (stR n xs m ys)], AI (stC n xs m ys)]) := by
  refine CallA.of Try.func20 rfl (by kernel_rfl) ?_
  refine R.go 11 (R.call true (l16Two_c n xs m ys lx ly) (by kernel_rfl) rfl (by kernel_rfl) ?_)
  refine R.go 8 (R.condN ((stC n xs m ys) = 0) (by kernel_rfl) (fun c1 => ?_) (fun c1 => ?_))
  · refine R.go 7 (R.nilB 2 1 2 1 (by kernel_rfl) ?_)
    exact R.retE (.tup [.agg [AI 0, ownA eI 2 1 []], AI (stC n xs m ys)]) (by kernel_rfl) (by kernel_rfl) (by first | (first | exact st_bad rfl (by assumption) | exact st_ok hc0 rfl rfl) | (exfalso; omega))
  · have hc0 : stC n xs m ys = 0 := by assumption
    have hst := stc_ok hc0
    have hP : okPo n xs = true := hst.1
    have hQ : okPo m ys = true := hst.2.1
    have hs8 : n + m ≤ 8 := hst.2.2
    refine R.go 5 (R.call true (l16Join_c n xs m ys hP hQ hs8) (by kernel_rfl) rfl (by kernel_rfl) ?_)
    exact R.go 3 (R.retE (.tup [.agg [AI (n + m), ownA eI 2 1 (stL n xs m ys)], AI 0]) (by kernel_rfl) (by kernel_rfl) (by first | (first | exact st_bad rfl (by assumption) | exact st_ok hc0 rfl rfl) | (exfalso; omega)))

theorem summed_c (n : Int) (xs : List Int) (m : Int) (ys : List Int) (lx : xs.length ≤ 1048576) (ly : ys.length ≤ 1048576) : CallA Try.prog 44 [.agg [AI n, LI xs], .agg [AI m, LI ys], AI ((shl64 1 m) - 1)] (.tup [.agg [AI (stN n xs m ys), ownA eI 2 1 (stR n xs m ys)], AI (stC n xs m ys)]) := by
  have hp := fun h : okPo n xs = true => okFr_rel (okPo_fr h)
  have hq := fun h : okPo m ys = true => okFr_rel (okPo_fr h)
  refine CallA.of Try.func44 rfl (by kernel_rfl) ?_
  refine R.go 12 (R.call true (isPoset_c n xs (by first | omega | (have h2 := hq (by assumption); omega) | (have h1 := hp (by assumption); omega) | (have h1 := hp (by assumption); have h2 := hq (by assumption); omega))) (by kernel_rfl) rfl (by kernel_rfl) ?_)
  refine R.go 2 ?_
  refine (Bool.eq_false_or_eq_true (okPo n xs)).elim (fun c1 => ?_) (fun c1 => ?_)
  · refine R.want (!(okPo n xs)) false (by kernel_rfl) (bnF c1) ?_
    refine R.go 1 (R.want (!(okPo n xs)) false (by kernel_rfl) (bnF c1) ?_)
    refine R.call true (isPoset_c m ys (by first | omega | (have h2 := hq (by assumption); omega) | (have h1 := hp (by assumption); omega) | (have h1 := hp (by assumption); have h2 := hq (by assumption); omega))) (by kernel_rfl) rfl (by kernel_rfl) ?_
    refine R.want (!(okPo n xs)) false (by kernel_rfl) (bnF c1) ?_
    refine R.go 1 (R.pick (!(okPo n xs)) false (by kernel_rfl) (bnF c1) (by kernel_rfl) ?_)
    refine R.go 2 (R.condM (okPo m ys) (by kernel_rfl) (fun c2 => ?_) (fun c2 => ?_))
    · refine R.go 6 (R.nilB 2 1 2 1 (by kernel_rfl) ?_)
      exact R.retE (.tup [.agg [AI 0, ownA eI 2 1 []], AI 1]) (by kernel_rfl) (by kernel_rfl) (by first | (first | exact st_bad (st_1 (by simp_all)) (by decide) | exact st_bad (st_3 (by assumption) (by assumption) (by assumption)) (by decide) | exact st_ok hc0 (by rw [hol2]; omega) (stY_end (by omega))) | (exfalso; omega))
    · refine R.go 6 (R.ar (n + m) (by kernel_rfl) (by first | omega | (have h2 := hq (by assumption); omega) | (have h1 := hp (by assumption); omega) | (have h1 := hp (by assumption); have h2 := hq (by assumption); omega)) (by first | omega | (have h2 := hq (by assumption); omega) | (have h1 := hp (by assumption); omega) | (have h1 := hp (by assumption); have h2 := hq (by assumption); omega)) (by kernel_rfl) ?_)
      refine R.go 3 (R.cond ((n + m) > 8) (by kernel_rfl) (fun c3 => ?_) (fun c3 => ?_))
      · refine R.go 6 (R.nilB 2 1 2 1 (by kernel_rfl) ?_)
        exact R.retE (.tup [.agg [AI 0, ownA eI 2 1 []], AI 3]) (by kernel_rfl) (by kernel_rfl) (by first | (first | exact st_bad (st_1 (by simp_all)) (by decide) | exact st_bad (st_3 (by assumption) (by assumption) (by assumption)) (by decide) | exact st_ok hc0 (by rw [hol2]; omega) (stY_end (by omega))) | (exfalso; omega))
      · have hc0 : stC n xs m ys = 0 := st_0 (by assumption) (by assumption) (by assumption)
        have hp1 := hp (by assumption)
        have hq1 := hq (by assumption)
        have hb : 0 ≤ n ∧ n ≤ 8 ∧ (xs.length : Int) = n ∧ 0 ≤ m ∧ m ≤ 8 ∧ (ys.length : Int) = m := ⟨hp1.1, hp1.2.1, hp1.2.2.1, hq1.1, hq1.2.1, hq1.2.2.1⟩
        refine R.go 15 (R.nil 8 2 1 (by kernel_rfl) ?_)
        refine R.loop ((fun | (i, out) => (⟨(frm 65 [(2, AI ((shl64 1 m) - 1)), (3, .ptr 0 0), (4, .ptr 1 0), (6, .ptr 2 0), (8, .ref 3), (32, LI xs), (33, AI xs.length), (34, AI (i : Int))]), [.box 26 [AI n, LI xs], .box 26 [AI m, LI ys], .box 26 [AI 0, .nil], rowA eI 2 1 out]⟩ : St) : Nat × (List Int) → St)) (fun | (i, out) => (i ≤ xs.length) ∧ (out = stX n xs m i)) (fun | (i, out) => xs.length - i) (0, []) [2, 3, 4, 6, 8, 32, 33, 34] none (by kernel_rfl) (by kernel_rfl) (by kernel_rfl) ⟨(by omega), (by rfl)⟩ ?_
        rintro ⟨i, out⟩ ⟨h7_1, rfl⟩ R4 N5
        have hol := stX_len (n := n) (m := m) (xs := xs) (i := i) (by assumption)
        refine R.go 5 (R.cond ((i : Int) < (xs.length : Int)) (by kernel_rfl) (fun c8 => ?_) (fun c8 => ?_))
        · refine R.go 5 (R.idx eI xs 0 i (i : Int) (by kernel_rfl) rfl eI_len (by first | omega | (have h2 := hq (by assumption); omega) | (have h1 := hp (by assumption); omega) | (have h1 := hp (by assumption); have h2 := hq (by assumption); omega)) (by kernel_rfl) ?_)
          refine R.go 9 (R.shl ((shl64 1 m) - 1) n (by kernel_rfl) (by first | omega | (have h2 := hq (by assumption); omega) | (have h1 := hp (by assumption); omega) | (have h1 := hp (by assumption); have h2 := hq (by assumption); omega)) (by kernel_rfl) ?_)
          refine R.go 2 (R.app eI (stX n xs m i) [bor (xs.getD i 0) (shl64 ((shl64 1 m) - 1) n)] 3 2 1 8 (by kernel_rfl) eI_one (by decide) (by first | omega | (simp <;> omega)) (by kernel_rfl) ?_)
          refine R.go 4 (R.ar ((i : Int) + 1) (by kernel_rfl) (by first | omega | (have h2 := hq (by assumption); omega) | (have h1 := hp (by assumption); omega) | (have h1 := hp (by assumption); have h2 := hq (by assumption); omega)) (by first | omega | (have h2 := hq (by assumption); omega) | (have h1 := hp (by assumption); omega) | (have h1 := hp (by assumption); have h2 := hq (by assumption); omega)) (by kernel_rfl) ?_)
          exact R.go 2 (R.stop R4 (by kernel_rfl) (N5 (i + 1, (stX n xs m i) ++ [bor (xs.getD i 0) (shl64 ((shl64 1 m) - 1) n)]) [2, 3, 4, 6, 8, 32, 33, 34] (some [0, 1, 2, 3]) _ (by kernel_rfl) (by kernel_rfl) ⟨(by omega), (by exact stX_step (by omega))⟩ (by show (xs.length - (i + 1)) < (xs.length - i); omega)))
        · refine R.go 10 (R.loop ((fun | (j, o2) => (⟨(frm 65 [(3, .ptr 0 0), (6, .ptr 1 0), (8, .ref 2), (49, LI ys), (50, AI ys.length), (51, AI (j : Int))]), [.box 26 [AI n, LI xs], .box 26 [AI 0, .nil], rowA eI 2 1 o2]⟩ : St) : Nat × (List Int) → St)) (fun | (j, o2) => (j ≤ ys.length) ∧ (o2 = stY n xs m ys j)) (fun | (j, o2) => ys.length - j) (0, (stX n xs m i)) [3, 6, 8, 49, 50, 51] (some [0, 2, 3]) (by kernel_rfl) (by kernel_rfl) (by kernel_rfl) ⟨(by omega), (by exact stY_zero (by omega))⟩ ?_)
          rintro ⟨j, o2⟩ ⟨h12_1, rfl⟩ R9 N10
          have hol2 := stY_len (n := n) (m := m) (xs := xs) (ys := ys) (j := j) (by assumption)
          refine R.go 5 (R.cond ((j : Int) < (ys.length : Int)) (by kernel_rfl) (fun c13 => ?_) (fun c13 => ?_))
          · refine R.go 5 (R.idx eI ys 0 j (j : Int) (by kernel_rfl) rfl eI_len (by first | omega | (have h2 := hq (by assumption); omega) | (have h1 := hp (by assumption); omega) | (have h1 := hp (by assumption); have h2 := hq (by assumption); omega)) (by kernel_rfl) ?_)
            refine R.go 8 (R.shl (ys.getD j 0) n (by kernel_rfl) (by first | omega | (have h2 := hq (by assumption); omega) | (have h1 := hp (by assumption); omega) | (have h1 := hp (by assumption); have h2 := hq (by assumption); omega)) (by kernel_rfl) ?_)
            refine R.go 1 (R.app eI (stY n xs m ys j) [shl64 (ys.getD j 0) n] 2 2 1 8 (by kernel_rfl) eI_one (by decide) (by first | omega | (simp <;> omega)) (by kernel_rfl) ?_)
            refine R.go 4 (R.ar ((j : Int) + 1) (by kernel_rfl) (by first | omega | (have h2 := hq (by assumption); omega) | (have h1 := hp (by assumption); omega) | (have h1 := hp (by assumption); have h2 := hq (by assumption); omega)) (by first | omega | (have h2 := hq (by assumption); omega) | (have h1 := hp (by assumption); omega) | (have h1 := hp (by assumption); have h2 := hq (by assumption); omega)) (by kernel_rfl) ?_)
            exact R.go 2 (R.stop R9 (by kernel_rfl) (N10 (j + 1, (stY n xs m ys j) ++ [shl64 (ys.getD j 0) n]) [3, 6, 8, 49, 50, 51] (some [0, 1, 2]) _ (by kernel_rfl) (by kernel_rfl) ⟨(by omega), (by exact stY_step (by omega))⟩ (by show (ys.length - (j + 1)) < (ys.length - j); omega)))
          · refine R.go 4 (R.enter (avs := [.ref 2]) Try.func38 rfl (by kernel_rfl) (by kernel_rfl) (by kernel_rfl) ?_)
            intro us14
            refine R.go 7 (R.call false (size_c (stY n xs m ys j)) (by kernel_rfl) rfl (by kernel_rfl) ?_)
            refine R.go 4 (R.back (.agg [AI ((stY n xs m ys j).length), .ref 2]) (frm 65 [(3, .ptr 0 0), (6, .ptr 1 0), (8, .ref 2), (49, LI ys), (50, AI ys.length), (51, AI (j : Int)), (52, .bool (decide ((j : Int) < (ys.length : Int)))), (63, .ref 2)]) (by kernel_rfl) (by kernel_rfl) (by kernel_rfl) ?_)
            exact R.go 3 (R.retE (.tup [.agg [AI ((stY n xs m ys j).length), ownA eI 2 1 (stY n xs m ys j)], AI 0]) (by kernel_rfl) (by kernel_rfl) (by first | (first | exact st_bad (st_1 (by simp_all)) (by decide) | exact st_bad (st_3 (by assumption) (by assumption) (by assumption)) (by decide) | exact st_ok hc0 (by rw [hol2]; omega) (stY_end (by omega))) | (exfalso; omega)))
  · refine R.skp (!(okPo n xs)) false (by kernel_rfl) (bnT c1) (by kernel_rfl) ?_
    refine R.skp (!(okPo n xs)) false (by kernel_rfl) (bnT c1) (by kernel_rfl) ?_
    refine R.skp (!(okPo n xs)) false (by kernel_rfl) (bnT c1) (by kernel_rfl) ?_
    refine R.pick (!(okPo n xs)) true (by kernel_rfl) (bnT c1) (by kernel_rfl) ?_
    refine R.go 9 (R.nilB 2 1 2 1 (by kernel_rfl) ?_)
    exact R.retE (.tup [.agg [AI 0, ownA eI 2 1 []], AI 1]) (by kernel_rfl) (by kernel_rfl) (by first | (first | exact st_bad (st_1 (by simp_all)) (by decide) | exact st_bad (st_3 (by assumption) (by assumption) (by assumption)) (by decide) | exact st_ok hc0 (by rw [hol2]; omega) (stY_end (by omega))) | (exfalso; omega))

set_option maxHeartbeats 4000000 in
theorem ST_impl (n : Int) (xs : List Int) (m : Int) (ys : List Int) (lx : xs.length ≤ 1048576) (ly : ys.length ≤ 1048576) : CallA Try.prog 19 [.agg [AI n, LI xs], .agg [AI m, LI ys]] (.tup [.agg [AI (stN n xs m ys), ownA eI 2 1 (stR n xs m ys)], AI (stC n xs m ys)]) := by
  have hp := fun h : okPo n xs = true => okFr_rel (okPo_fr h)
  have hq := fun h : okPo m ys = true => okFr_rel (okPo_fr h)
  refine CallA.of Try.func19 rfl (by kernel_rfl) ?_
  refine R.go 11 (R.call true (isPoset_c m ys (by first | omega | (have h2 := hq (by assumption); omega) | (have h1 := hp (by assumption); omega) | (have h1 := hp (by assumption); have h2 := hq (by assumption); omega))) (by kernel_rfl) rfl (by kernel_rfl) ?_)
  refine R.go 2 (R.condM (okPo m ys) (by kernel_rfl) (fun c1 => ?_) (fun c1 => ?_))
  · refine R.go 6 (R.nilB 2 1 2 1 (by kernel_rfl) ?_)
    exact R.retE (.tup [.agg [AI 0, ownA eI 2 1 []], AI 1]) (by kernel_rfl) (by kernel_rfl) (by first | (first | rfl | exact st_bad (st_1 (by simp_all)) (by decide)) | (exfalso; omega))
  · refine R.go 2 (R.meet (⟨(frm 17 [(0, .agg [AI n, LI xs]), (1, .agg [AI m, LI ys]), (2, .ptr 0 0), (3, .ptr 1 0), (4, .ptr 2 0), (5, AI (stC n xs m ys)), (6, .agg [AI m, LI ys]), (7, .bool (okPo m ys)), (8, .bool (!(okPo m ys))), (10, .agg [AI n, LI xs]), (11, .agg [AI m, LI ys]), (12, .agg [AI m, LI ys]), (13, AI ((shl64 1 m) - 1)), (14, .tup [.agg [AI (stN n xs m ys), .ref 3], AI (stC n xs m ys)]), (15, .agg [AI (stN n xs m ys), .ref 3]), (16, AI (stC n xs m ys))]), [.box 26 [AI n, LI xs], .box 26 [AI m, LI ys], .box 26 [AI (stN n xs m ys), .ref 3], rowA eI 2 1 (stR n xs m ys)]⟩ : St) (by kernel_rfl) ?_ ?_)
    · refine R.any (by decide +kernel) (by kernel_rfl) ?_
      refine R.any3 0 1 2 (by kernel_rfl) (by kernel_rfl) ?_ ?_ ?_
      · refine R.go 2 (R.any2 1 2 (by kernel_rfl) (by kernel_rfl) ?_ ?_)
        · refine R.go 2 (R.any1 2 (by kernel_rfl) (by kernel_rfl) ?_)
          refine R.go 2 (R.any1 3 (by kernel_rfl) (by kernel_rfl) ?_)
          refine R.call true (pAll_c m ys (by first | omega | (have h2 := hq (by assumption); omega) | (have h1 := hp (by assumption); omega) | (have h1 := hp (by assumption); have h2 := hq (by assumption); omega)) (by first | omega | (have h2 := hq (by assumption); omega) | (have h1 := hp (by assumption); omega) | (have h1 := hp (by assumption); have h2 := hq (by assumption); omega))) (by kernel_rfl) rfl (by kernel_rfl) ?_
          refine R.go 1 (R.any1 4 (by kernel_rfl) (by kernel_rfl) ?_)
          refine R.call true (summed_c n xs m ys lx ly) (by kernel_rfl) rfl (by kernel_rfl) ?_
          refine R.go 1 (R.anyX 5 (.agg [AI (stN n xs m ys), .ref 3]) (by kernel_rfl) (np_meet _) ?_)
          refine R.anyX 6 (AI (stC n xs m ys)) (by kernel_rfl) (np_meet _) ?_
          refine R.any1 7 (by kernel_rfl) (by kernel_rfl) ?_
          refine R.go 2 (R.any1 8 (by kernel_rfl) (by kernel_rfl) ?_)
          refine R.go 2 (R.any0 (by kernel_rfl) ?_)
          exact R.met (by kernel_rfl) (by kernel_rfl)
        · refine R.go 2 (R.any2 1 3 (by kernel_rfl) (by kernel_rfl) ?_ ?_)
          · refine R.go 2 (R.any1 3 (by kernel_rfl) (by kernel_rfl) ?_)
            refine R.call true (pAll_c m ys (by first | omega | (have h2 := hq (by assumption); omega) | (have h1 := hp (by assumption); omega) | (have h1 := hp (by assumption); have h2 := hq (by assumption); omega)) (by first | omega | (have h2 := hq (by assumption); omega) | (have h1 := hp (by assumption); omega) | (have h1 := hp (by assumption); have h2 := hq (by assumption); omega))) (by kernel_rfl) rfl (by kernel_rfl) ?_
            refine R.go 1 (R.any1 4 (by kernel_rfl) (by kernel_rfl) ?_)
            refine R.call true (summed_c n xs m ys lx ly) (by kernel_rfl) rfl (by kernel_rfl) ?_
            refine R.go 1 (R.anyX 5 (.agg [AI (stN n xs m ys), .ref 3]) (by kernel_rfl) (np_meet _) ?_)
            refine R.anyX 6 (AI (stC n xs m ys)) (by kernel_rfl) (np_meet _) ?_
            refine R.any1 7 (by kernel_rfl) (by kernel_rfl) ?_
            refine R.go 2 (R.any1 8 (by kernel_rfl) (by kernel_rfl) ?_)
            refine R.go 2 (R.any0 (by kernel_rfl) ?_)
            exact R.met (by kernel_rfl) (by kernel_rfl)
          · refine R.call true (pAll_c m ys (by first | omega | (have h2 := hq (by assumption); omega) | (have h1 := hp (by assumption); omega) | (have h1 := hp (by assumption); have h2 := hq (by assumption); omega)) (by first | omega | (have h2 := hq (by assumption); omega) | (have h1 := hp (by assumption); omega) | (have h1 := hp (by assumption); have h2 := hq (by assumption); omega))) (by kernel_rfl) rfl (by kernel_rfl) ?_
            refine R.go 1 (R.any1 1 (by kernel_rfl) (by kernel_rfl) ?_)
            refine R.go 2 (R.any1 4 (by kernel_rfl) (by kernel_rfl) ?_)
            refine R.call true (summed_c n xs m ys lx ly) (by kernel_rfl) rfl (by kernel_rfl) ?_
            refine R.go 1 (R.anyX 5 (.agg [AI (stN n xs m ys), .ref 3]) (by kernel_rfl) (np_meet _) ?_)
            refine R.anyX 6 (AI (stC n xs m ys)) (by kernel_rfl) (np_meet _) ?_
            refine R.any1 7 (by kernel_rfl) (by kernel_rfl) ?_
            refine R.go 2 (R.any1 8 (by kernel_rfl) (by kernel_rfl) ?_)
            refine R.go 2 (R.any0 (by kernel_rfl) ?_)
            exact R.met (by kernel_rfl) (by kernel_rfl)
      · refine R.go 2 (R.any2 0 2 (by kernel_rfl) (by kernel_rfl) ?_ ?_)
        · refine R.go 2 (R.any1 2 (by kernel_rfl) (by kernel_rfl) ?_)
          refine R.go 2 (R.any1 3 (by kernel_rfl) (by kernel_rfl) ?_)
          refine R.call true (pAll_c m ys (by first | omega | (have h2 := hq (by assumption); omega) | (have h1 := hp (by assumption); omega) | (have h1 := hp (by assumption); have h2 := hq (by assumption); omega)) (by first | omega | (have h2 := hq (by assumption); omega) | (have h1 := hp (by assumption); omega) | (have h1 := hp (by assumption); have h2 := hq (by assumption); omega))) (by kernel_rfl) rfl (by kernel_rfl) ?_
          refine R.go 1 (R.any1 4 (by kernel_rfl) (by kernel_rfl) ?_)
          refine R.call true (summed_c n xs m ys lx ly) (by kernel_rfl) rfl (by kernel_rfl) ?_
          refine R.go 1 (R.anyX 5 (.agg [AI (stN n xs m ys), .ref 3]) (by kernel_rfl) (np_meet _) ?_)
          refine R.anyX 6 (AI (stC n xs m ys)) (by kernel_rfl) (np_meet _) ?_
          refine R.any1 7 (by kernel_rfl) (by kernel_rfl) ?_
          refine R.go 2 (R.any1 8 (by kernel_rfl) (by kernel_rfl) ?_)
          refine R.go 2 (R.any0 (by kernel_rfl) ?_)
          exact R.met (by kernel_rfl) (by kernel_rfl)
        · refine R.go 2 (R.any2 0 3 (by kernel_rfl) (by kernel_rfl) ?_ ?_)
          · refine R.go 2 (R.any1 3 (by kernel_rfl) (by kernel_rfl) ?_)
            refine R.call true (pAll_c m ys (by first | omega | (have h2 := hq (by assumption); omega) | (have h1 := hp (by assumption); omega) | (have h1 := hp (by assumption); have h2 := hq (by assumption); omega)) (by first | omega | (have h2 := hq (by assumption); omega) | (have h1 := hp (by assumption); omega) | (have h1 := hp (by assumption); have h2 := hq (by assumption); omega))) (by kernel_rfl) rfl (by kernel_rfl) ?_
            refine R.go 1 (R.any1 4 (by kernel_rfl) (by kernel_rfl) ?_)
            refine R.call true (summed_c n xs m ys lx ly) (by kernel_rfl) rfl (by kernel_rfl) ?_
            refine R.go 1 (R.anyX 5 (.agg [AI (stN n xs m ys), .ref 3]) (by kernel_rfl) (np_meet _) ?_)
            refine R.anyX 6 (AI (stC n xs m ys)) (by kernel_rfl) (np_meet _) ?_
            refine R.any1 7 (by kernel_rfl) (by kernel_rfl) ?_
            refine R.go 2 (R.any1 8 (by kernel_rfl) (by kernel_rfl) ?_)
            refine R.go 2 (R.any0 (by kernel_rfl) ?_)
            exact R.met (by kernel_rfl) (by kernel_rfl)
          · refine R.call true (pAll_c m ys (by first | omega | (have h2 := hq (by assumption); omega) | (have h1 := hp (by assumption); omega) | (have h1 := hp (by assumption); have h2 := hq (by assumption); omega)) (by first | omega | (have h2 := hq (by assumption); omega) | (have h1 := hp (by assumption); omega) | (have h1 := hp (by assumption); have h2 := hq (by assumption); omega))) (by kernel_rfl) rfl (by kernel_rfl) ?_
            refine R.go 1 (R.any1 0 (by kernel_rfl) (by kernel_rfl) ?_)
            refine R.go 2 (R.any1 4 (by kernel_rfl) (by kernel_rfl) ?_)
            refine R.call true (summed_c n xs m ys lx ly) (by kernel_rfl) rfl (by kernel_rfl) ?_
            refine R.go 1 (R.anyX 5 (.agg [AI (stN n xs m ys), .ref 3]) (by kernel_rfl) (np_meet _) ?_)
            refine R.anyX 6 (AI (stC n xs m ys)) (by kernel_rfl) (np_meet _) ?_
            refine R.any1 7 (by kernel_rfl) (by kernel_rfl) ?_
            refine R.go 2 (R.any1 8 (by kernel_rfl) (by kernel_rfl) ?_)
            refine R.go 2 (R.any0 (by kernel_rfl) ?_)
            exact R.met (by kernel_rfl) (by kernel_rfl)
      · refine R.go 2 (R.any3 0 1 3 (by kernel_rfl) (by kernel_rfl) ?_ ?_ ?_)
        · refine R.go 2 (R.any2 1 3 (by kernel_rfl) (by kernel_rfl) ?_ ?_)
          · refine R.go 2 (R.any1 3 (by kernel_rfl) (by kernel_rfl) ?_)
            refine R.call true (pAll_c m ys (by first | omega | (have h2 := hq (by assumption); omega) | (have h1 := hp (by assumption); omega) | (have h1 := hp (by assumption); have h2 := hq (by assumption); omega)) (by first | omega | (have h2 := hq (by assumption); omega) | (have h1 := hp (by assumption); omega) | (have h1 := hp (by assumption); have h2 := hq (by assumption); omega))) (by kernel_rfl) rfl (by kernel_rfl) ?_
            refine R.go 1 (R.any1 4 (by kernel_rfl) (by kernel_rfl) ?_)
            refine R.call true (summed_c n xs m ys lx ly) (by kernel_rfl) rfl (by kernel_rfl) ?_
            refine R.go 1 (R.anyX 5 (.agg [AI (stN n xs m ys), .ref 3]) (by kernel_rfl) (np_meet _) ?_)
            refine R.anyX 6 (AI (stC n xs m ys)) (by kernel_rfl) (np_meet _) ?_
            refine R.any1 7 (by kernel_rfl) (by kernel_rfl) ?_
            refine R.go 2 (R.any1 8 (by kernel_rfl) (by kernel_rfl) ?_)
            refine R.go 2 (R.any0 (by kernel_rfl) ?_)
            exact R.met (by kernel_rfl) (by kernel_rfl)
          · refine R.call true (pAll_c m ys (by first | omega | (have h2 := hq (by assumption); omega) | (have h1 := hp (by assumption); omega) | (have h1 := hp (by assumption); have h2 := hq (by assumption); omega)) (by first | omega | (have h2 := hq (by assumption); omega) | (have h1 := hp (by assumption); omega) | (have h1 := hp (by assumption); have h2 := hq (by assumption); omega))) (by kernel_rfl) rfl (by kernel_rfl) ?_
            refine R.go 1 (R.any1 1 (by kernel_rfl) (by kernel_rfl) ?_)
            refine R.go 2 (R.any1 4 (by kernel_rfl) (by kernel_rfl) ?_)
            refine R.call true (summed_c n xs m ys lx ly) (by kernel_rfl) rfl (by kernel_rfl) ?_
            refine R.go 1 (R.anyX 5 (.agg [AI (stN n xs m ys), .ref 3]) (by kernel_rfl) (np_meet _) ?_)
            refine R.anyX 6 (AI (stC n xs m ys)) (by kernel_rfl) (np_meet _) ?_
            refine R.any1 7 (by kernel_rfl) (by kernel_rfl) ?_
            refine R.go 2 (R.any1 8 (by kernel_rfl) (by kernel_rfl) ?_)
            refine R.go 2 (R.any0 (by kernel_rfl) ?_)
            exact R.met (by kernel_rfl) (by kernel_rfl)
        · refine R.go 2 (R.any2 0 3 (by kernel_rfl) (by kernel_rfl) ?_ ?_)
          · refine R.go 2 (R.any1 3 (by kernel_rfl) (by kernel_rfl) ?_)
            refine R.call true (pAll_c m ys (by first | omega | (have h2 := hq (by assumption); omega) | (have h1 := hp (by assumption); omega) | (have h1 := hp (by assumption); have h2 := hq (by assumption); omega)) (by first | omega | (have h2 := hq (by assumption); omega) | (have h1 := hp (by assumption); omega) | (have h1 := hp (by assumption); have h2 := hq (by assumption); omega))) (by kernel_rfl) rfl (by kernel_rfl) ?_
            refine R.go 1 (R.any1 4 (by kernel_rfl) (by kernel_rfl) ?_)
            refine R.call true (summed_c n xs m ys lx ly) (by kernel_rfl) rfl (by kernel_rfl) ?_
            refine R.go 1 (R.anyX 5 (.agg [AI (stN n xs m ys), .ref 3]) (by kernel_rfl) (np_meet _) ?_)
            refine R.anyX 6 (AI (stC n xs m ys)) (by kernel_rfl) (np_meet _) ?_
            refine R.any1 7 (by kernel_rfl) (by kernel_rfl) ?_
            refine R.go 2 (R.any1 8 (by kernel_rfl) (by kernel_rfl) ?_)
            refine R.go 2 (R.any0 (by kernel_rfl) ?_)
            exact R.met (by kernel_rfl) (by kernel_rfl)
          · refine R.call true (pAll_c m ys (by first | omega | (have h2 := hq (by assumption); omega) | (have h1 := hp (by assumption); omega) | (have h1 := hp (by assumption); have h2 := hq (by assumption); omega)) (by first | omega | (have h2 := hq (by assumption); omega) | (have h1 := hp (by assumption); omega) | (have h1 := hp (by assumption); have h2 := hq (by assumption); omega))) (by kernel_rfl) rfl (by kernel_rfl) ?_
            refine R.go 1 (R.any1 0 (by kernel_rfl) (by kernel_rfl) ?_)
            refine R.go 2 (R.any1 4 (by kernel_rfl) (by kernel_rfl) ?_)
            refine R.call true (summed_c n xs m ys lx ly) (by kernel_rfl) rfl (by kernel_rfl) ?_
            refine R.go 1 (R.anyX 5 (.agg [AI (stN n xs m ys), .ref 3]) (by kernel_rfl) (np_meet _) ?_)
            refine R.anyX 6 (AI (stC n xs m ys)) (by kernel_rfl) (np_meet _) ?_
            refine R.any1 7 (by kernel_rfl) (by kernel_rfl) ?_
            refine R.go 2 (R.any1 8 (by kernel_rfl) (by kernel_rfl) ?_)
            refine R.go 2 (R.any0 (by kernel_rfl) ?_)
            exact R.met (by kernel_rfl) (by kernel_rfl)
        · refine R.call true (pAll_c m ys (by first | omega | (have h2 := hq (by assumption); omega) | (have h1 := hp (by assumption); omega) | (have h1 := hp (by assumption); have h2 := hq (by assumption); omega)) (by first | omega | (have h2 := hq (by assumption); omega) | (have h1 := hp (by assumption); omega) | (have h1 := hp (by assumption); have h2 := hq (by assumption); omega))) (by kernel_rfl) rfl (by kernel_rfl) ?_
          refine R.go 1 (R.any2 0 1 (by kernel_rfl) (by kernel_rfl) ?_ ?_)
          · refine R.go 2 (R.any1 1 (by kernel_rfl) (by kernel_rfl) ?_)
            refine R.go 2 (R.any1 4 (by kernel_rfl) (by kernel_rfl) ?_)
            refine R.call true (summed_c n xs m ys lx ly) (by kernel_rfl) rfl (by kernel_rfl) ?_
            refine R.go 1 (R.anyX 5 (.agg [AI (stN n xs m ys), .ref 3]) (by kernel_rfl) (np_meet _) ?_)
            refine R.anyX 6 (AI (stC n xs m ys)) (by kernel_rfl) (np_meet _) ?_
            refine R.any1 7 (by kernel_rfl) (by kernel_rfl) ?_
            refine R.go 2 (R.any1 8 (by kernel_rfl) (by kernel_rfl) ?_)
            refine R.go 2 (R.any0 (by kernel_rfl) ?_)
            exact R.met (by kernel_rfl) (by kernel_rfl)
          · refine R.go 2 (R.any1 0 (by kernel_rfl) (by kernel_rfl) ?_)
            refine R.go 2 (R.any1 4 (by kernel_rfl) (by kernel_rfl) ?_)
            refine R.call true (summed_c n xs m ys lx ly) (by kernel_rfl) rfl (by kernel_rfl) ?_
            refine R.go 1 (R.anyX 5 (.agg [AI (stN n xs m ys), .ref 3]) (by kernel_rfl) (np_meet _) ?_)
            refine R.anyX 6 (AI (stC n xs m ys)) (by kernel_rfl) (np_meet _) ?_
            refine R.any1 7 (by kernel_rfl) (by kernel_rfl) ?_
            refine R.go 2 (R.any1 8 (by kernel_rfl) (by kernel_rfl) ?_)
            refine R.go 2 (R.any0 (by kernel_rfl) ?_)
            exact R.met (by kernel_rfl) (by kernel_rfl)
    · exact R.retE (.tup [.agg [AI (stN n xs m ys), ownA eI 2 1 (stR n xs m ys)], AI (stC n xs m ys)]) (by kernel_rfl) (by kernel_rfl) (by rfl)

end Go.Proofs.Ytogehjciaamcfaa


/-! Ways that meet again in a family of states. -/
namespace Go.Abs
open Go.RowKit Go.ChangeShapes Go.WideShapes Go.Deep
section
variable {rd : Option Nat} {P : Program} {m : M} {Q : Exit → St → Prop}
def meetQF {α : Type} (I : α → Prop) (S : α → St) : Exit → St → Prop := fun e st => e = .normal ∧ ∃ a, I a ∧ st = S a
theorem np_meetF {α : Type} (I : α → Prop) (S : α → St) : NoPanic (meetQF I S) := fun _ _ h => by simp [meetQF] at h
theorem R.meetF {α : Type} (I : α → Prop) (S : α → St) (h : mtAt m = true) (h1 : Runs rd P ⟨m.ks.take 1, m.st⟩ (meetQF I S)) (h2 : ∀ a, I a → Runs rd P ⟨m.ks.tail, S a⟩ Q) : Runs rd P m Q := by
  obtain ⟨ks, st⟩ := m
  unfold mtAt at h
  simp only [runs_iff] at h h1 h2 ⊢
  split at h
  · rename_i c ks'
    simp only [List.take_succ_cons, List.take_zero, List.tail_cons, RunsK] at h1 h2 ⊢
    refine h1.mono ?_
    rintro e st' ⟨rfl, a, ha, rfl⟩
    exact h2 a ha
  · cases h
theorem R.metF {α : Type} {I : α → Prop} {S : α → St} (a : α) (h : m.ks = []) (hi : I a) (hs : m.st = S a) : Runs rd P m (meetQF I S) := by
  obtain ⟨ks, st⟩ := m
  simp only at h hs
  subst h hs
  rw [runs_iff]
  exact ⟨rfl, a, hi, rfl⟩
end
end Go.Abs


/-! Draws of posets. -/
namespace Go.Proofs.Ytogehjciaamcfaa
open Go.RowKit Go.Abs

def sqz (L : List Int) (m : Int) : Nat → Int
  | 0 => 0
  | k + 1 => if band (shr64 m (L.getD k 0)) 1 = 1 then bor (sqz L m k) (shl64 1 (k : Int)) else sqz L m k
theorem sqz_yes {L : List Int} {m : Int} {k : Nat} (h : band (shr64 m (L.getD k 0)) 1 = 1) : bor (sqz L m k) (shl64 1 (k : Int)) = sqz L m (k + 1) := by rw [sqz, if_pos h]
theorem sqz_no {L : List Int} {m : Int} {k : Nat} (h : ¬ band (shr64 m (L.getD k 0)) 1 = 1) : sqz L m k = sqz L m (k + 1) := by rw [sqz, if_neg h]

theorem swp_len {l : List Int} {i j : Nat} {v w : Int} : ((l.set i v).set j w).length = l.length := by rw [List.length_set, List.length_set]
/-- Numbers below n. -/
def RNG (n : Int) (l : List Int) : Prop := ∀ j : Nat, j < l.length → 0 ≤ l.getD j 0 ∧ l.getD j 0 < n
theorem rng_set {n v : Int} {l : List Int} {i : Nat} (h : RNG n l) (h0 : 0 ≤ v) (h1 : v < n) : RNG n (l.set i v) := by
  intro j hj
  rw [List.length_set] at hj
  rcases Nat.lt_or_ge i l.length with hi | hi
  · rw [getD_set_if _ _ _ _ _ hi]
    split
    · exact ⟨h0, h1⟩
    · exact h j hj
  · rw [List.set_eq_of_length_le hi]; exact h j hj
theorem rng_snoc {n v : Int} {l : List Int} (h : RNG n l) (h0 : 0 ≤ v) (h1 : v < n) : RNG n (l ++ [v]) := by
  intro j hj
  rw [List.length_append, List.length_singleton] at hj
  rcases Nat.lt_or_ge j l.length with hi | hi
  · rw [List.getD_eq_getElem?_getD, List.getElem?_append_left hi, ← List.getD_eq_getElem?_getD]; exact h j hi
  · rw [List.getD_eq_getElem?_getD, List.getElem?_append_right hi, show j - l.length = 0 by omega]
    exact ⟨h0, h1⟩

theorem l05SquD_c (L : List Int) (m : Int) (hL : ∀ j : Nat, j < L.length → 0 ≤ L.getD j 0 ∧ L.getD j 0 < 61) (hl : L.length ≤ 62) : CallA Try.prog 112 [LI L, AI m] (AI (sqz L m L.length)) := by
  refine CallA.of Try.func112 rfl (by kernel_rfl) ?_
  refine R.go 14 (R.loop ((fun | (t, r) => (⟨(frm 24 [(0, LI L), (1, AI m), (5, AI r), (6, AI (t : Int))]), []⟩ : St) : Nat × Int → St)) (fun | (t, r) => (t ≤ L.length) ∧ (r = sqz L m t)) (fun | (t, r) => L.length - t) (0, 0) [0, 1, 5, 6] none (by kernel_rfl) (by kernel_rfl) (by kernel_rfl) ⟨(by omega), (by rfl)⟩ ?_)
  rintro ⟨t, r⟩ ⟨h4_1, rfl⟩ R1 N2
  refine R.go 8 (R.cond ((t : Int) < (L.length : Int)) (by kernel_rfl) (fun c5 => ?_) (fun c5 => ?_))
  · have hjw := hL t (by omega)
    refine R.go 8 (R.idx eI L 0 t (t : Int) (by kernel_rfl) rfl eI_len (by omega) (by kernel_rfl) ?_)
    refine R.go 1 (R.call true (l01Bit_c m (L.getD t 0) (by omega) (by omega)) (by kernel_rfl) rfl (by kernel_rfl) ?_)
    refine R.go 1 (R.cond (band (shr64 m (L.getD t 0)) 1 = 1) (by kernel_rfl) (fun c6 => ?_) (fun c6 => ?_))
    · refine R.go 3 (R.call true (l01One_c (t : Int) (by omega) (by omega)) (by kernel_rfl) rfl (by kernel_rfl) ?_)
      refine R.go 6 (R.ar ((t : Int) + 1) (by kernel_rfl) (by omega) (by omega) (by kernel_rfl) ?_)
      exact R.go 2 (R.stop R1 (by kernel_rfl) (N2 (t + 1, bor (sqz L m t) (shl64 1 (t : Int))) [0, 1, 5, 6] none _ (by kernel_rfl) (by kernel_rfl) ⟨(by omega), (by first | exact sqz_yes (by assumption) | exact sqz_no (by assumption))⟩ (by show (L.length - (t + 1)) < (L.length - t); omega)))
    · refine R.go 4 (R.ar ((t : Int) + 1) (by kernel_rfl) (by omega) (by omega) (by kernel_rfl) ?_)
      exact R.go 2 (R.stop R1 (by kernel_rfl) (N2 (t + 1, sqz L m t) [0, 1, 5, 6] none _ (by kernel_rfl) (by kernel_rfl) ⟨(by omega), (by first | exact sqz_yes (by assumption) | exact sqz_no (by assumption))⟩ (by show (L.length - (t + 1)) < (L.length - t); omega)))
  · exact R.go 6 (R.retE (AI (sqz L m t)) (by kernel_rfl) (by kernel_rfl) (by first | (rw [show t = L.length by omega]) | (exfalso; omega)))

theorem renX_c (xs : List Int) (L : List Int) (hR : ∀ j : Nat, j < L.length → 0 ≤ L.getD j 0 ∧ L.getD j 0 < (xs.length : Int)) (hl : L.length ≤ 40 ∧ xs.length ≤ 40) : CallX Try.prog 81 [LI xs, LI L] [] (fun (resX : AV) (objX : List AObj) => ∃ r : List Int, (r.length = L.length) ∧ resX = LI r ∧ objX = []) := by
  have hL61 : ∀ j : Nat, j < L.length → 0 ≤ L.getD j 0 ∧ L.getD j 0 < 61 := fun j hj => by have := hR j hj; omega
  refine CallX.dropE (CallX.ofF Try.func81 rfl (by kernel_rfl) ?_)
  intro usC frC hfC
  refine R.go 15 (R.loop ((fun | (i, o) => (⟨(frm 27 [(0, LI xs), (1, LI L), (5, .ref 1), (6, AI (i : Int))]), [.frame usC frC, rowA eI 2 1 o]⟩ : St) : Nat × (List Int) → St)) (fun | (i, o) => (i ≤ L.length) ∧ (o.length = i)) (fun | (i, o) => L.length - i) (0, []) [0, 1, 5, 6] none (by kernel_rfl) (by kernel_rfl) (by kernel_rfl) ⟨(by omega), (by rfl)⟩ ?_)
  rintro ⟨i, o⟩ ⟨h4_1, h4_2⟩ R1 N2
  refine R.go 8 (R.cond ((i : Int) < (L.length : Int)) (by kernel_rfl) (fun c5 => ?_) (fun c5 => ?_))
  · have hjr := hR i (by omega)
    refine R.go 9 (R.idx eI L 0 i (i : Int) (by kernel_rfl) rfl eI_len (by omega) (by kernel_rfl) ?_)
    refine R.go 1 (R.idx eI xs 0 (((L.getD i 0)).toNat) (L.getD i 0) (by kernel_rfl) (by omega) eI_len (by omega) (by kernel_rfl) ?_)
    refine R.go 1 (R.call true (l05SquD_c L (xs.getD (((L.getD i 0)).toNat) 0) hL61 (by first | omega | (simp <;> omega))) (by kernel_rfl) rfl (by kernel_rfl) ?_)
    refine R.go 1 (R.app eI o [sqz L (xs.getD (((L.getD i 0)).toNat) 0) L.length] 1 2 1 8 (by kernel_rfl) eI_one (by decide) (by first | omega | (simp <;> omega)) (by kernel_rfl) ?_)
    refine R.kfix 0 (us := usC) (by kernel_rfl) (hfC.kill 1 (Nat.le_of_ble_eq_true (by kernel_rfl))) ?_
    refine R.go 5 (R.ar ((i : Int) + 1) (by kernel_rfl) (by omega) (by omega) (by kernel_rfl) ?_)
    exact R.go 2 (R.stop R1 (by kernel_rfl) (N2 (i + 1, o ++ [sqz L (xs.getD (((L.getD i 0)).toNat) 0) L.length]) [0, 1, 5, 6] (some [0, 1]) _ (by kernel_rfl) (canonF (fr := frC) (fun (frX : List AV) => (⟨(frm 27 [(0, LI xs), (1, LI L), (5, .ref 1), (6, AI ((i : Int) + 1))]), [.frame usC frX, rowA eI 2 1 (o ++ [sqz L (xs.getD (((L.getD i 0)).toNat) 0) L.length])]⟩ : St)) (hfC.ren _ (by kernel_rfl)) (by kernel_rfl) (by kernel_rfl)) ⟨(by omega), (by (simp <;> omega))⟩ (by show (L.length - (i + 1)) < (L.length - i); omega)))
  · refine R.go 6 (R.frz 1 (by kernel_rfl) ?_)
    refine R.kfix 0 (us := usC) (by kernel_rfl) (hfC.frz 1 (LI o) (Nat.le_of_ble_eq_true (by kernel_rfl))) ?_
    exact R.retX (res := LI o) (hp' := [.dead, .dead]) (by kernel_rfl) (by kernel_rfl) (by kernel_rfl) (by kernel_rfl) ⟨[], by kernel_rfl, by decide, o, by omega, by kernel_rfl, by kernel_rfl⟩

theorem joinD_c (n : Int) (xs : List Int) (m : Int) (ys : List Int) (hb : 0 ≤ n ∧ n ≤ 20 ∧ (xs.length : Int) = n ∧ 0 ≤ m ∧ m ≤ 20 ∧ (ys.length : Int) = m) : CallA Try.prog 46 [.agg [AI n, LI xs], .agg [AI m, LI ys], .bool true] (.agg [AI ((stL n xs m ys).length), ownA eI 2 1 (stL n xs m ys)]) := by
  have hsh := shl_rng m (by omega) (by omega)
  refine CallA.of Try.func46 rfl (by kernel_rfl) ?_
  refine R.go 17 (R.loop ((fun | (i, out) => (⟨(frm 59 [(2, .bool true), (3, .ptr 0 0), (4, .ptr 1 0), (6, .ptr 2 0), (7, .ref 3), (8, AI (i : Int))]), [.box 26 [AI n, LI xs], .box 26 [AI m, LI ys], .box 26 [AI 0, .nil], rowA eI 2 1 out]⟩ : St) : Nat × (List Int) → St)) (fun | (i, out) => (i ≤ xs.length) ∧ (out = stX n xs m i)) (fun | (i, out) => xs.length - i) (0, []) [2, 3, 4, 6, 7, 8] none (by kernel_rfl) (by kernel_rfl) (by kernel_rfl) ⟨(by omega), (by rfl)⟩ ?_)
  rintro ⟨i, out⟩ ⟨h4_1, rfl⟩ R1 N2
  have hol := stX_len (n := n) (m := m) (xs := xs) (i := i) (by assumption)
  refine R.go 9 (R.cond ((i : Int) < (xs.length : Int)) (by kernel_rfl) (fun c5 => ?_) (fun c5 => ?_))
  · refine R.go 8 (R.idx eI xs 0 i (i : Int) (by kernel_rfl) rfl eI_len (by omega) (by kernel_rfl) ?_)
    refine R.go 13 (R.call true (l01Full_c m (by omega) (by omega)) (by kernel_rfl) rfl (by kernel_rfl) ?_)
    refine R.go 2 (R.cv .u64 n (by kernel_rfl) (u64_id (by omega) (by omega)) (by kernel_rfl) ?_)
    refine R.shl ((shl64 1 m) - 1) n (by kernel_rfl) (by omega) (by kernel_rfl) ?_
    refine R.go 7 (R.app eI (stX n xs m i) [bor (xs.getD i 0) (shl64 ((shl64 1 m) - 1) n)] 3 2 1 8 (by kernel_rfl) eI_one (by decide) (by first | omega | (simp <;> omega)) (by kernel_rfl) ?_)
    refine R.go 5 (R.ar ((i : Int) + 1) (by kernel_rfl) (by omega) (by omega) (by kernel_rfl) ?_)
    exact R.go 2 (R.stop R1 (by kernel_rfl) (N2 (i + 1, (stX n xs m i) ++ [bor (xs.getD i 0) (shl64 ((shl64 1 m) - 1) n)]) [2, 3, 4, 6, 7, 8] (some [0, 1, 2, 3]) _ (by kernel_rfl) (by kernel_rfl) ⟨(by omega), (by exact stX_step (by omega))⟩ (by show (xs.length - (i + 1)) < (xs.length - i); omega)))
  · refine R.go 7 (R.loop ((fun | (j, o2) => (⟨(frm 59 [(3, .ptr 0 0), (4, .ptr 1 0), (6, .ptr 2 0), (7, .ref 3), (10, AI (j : Int))]), [.box 26 [AI n, LI xs], .box 26 [AI m, LI ys], .box 26 [AI 0, .nil], rowA eI 2 1 o2]⟩ : St) : Nat × (List Int) → St)) (fun | (j, o2) => (j ≤ ys.length) ∧ (o2 = stY n xs m ys j)) (fun | (j, o2) => ys.length - j) (0, (stX n xs m i)) [3, 4, 6, 7, 10] none (by kernel_rfl) (by kernel_rfl) (by kernel_rfl) ⟨(by omega), (by exact stY_zero (by omega))⟩ ?_)
    rintro ⟨j, o2⟩ ⟨h9_1, rfl⟩ R6 N7
    have hol2 := stY_len (n := n) (m := m) (xs := xs) (ys := ys) (j := j) (by assumption)
    refine R.go 9 (R.cond ((j : Int) < (ys.length : Int)) (by kernel_rfl) (fun c10 => ?_) (fun c10 => ?_))
    · refine R.go 8 (R.idx eI ys 0 j (j : Int) (by kernel_rfl) rfl eI_len (by omega) (by kernel_rfl) ?_)
      refine R.go 3 (R.cv .u64 n (by kernel_rfl) (u64_id (by omega) (by omega)) (by kernel_rfl) ?_)
      refine R.shl (ys.getD j 0) n (by kernel_rfl) (by omega) (by kernel_rfl) ?_
      refine R.go 1 (R.app eI (stY n xs m ys j) [shl64 (ys.getD j 0) n] 3 2 1 8 (by kernel_rfl) eI_one (by decide) (by first | omega | (simp <;> omega)) (by kernel_rfl) ?_)
      refine R.go 5 (R.ar ((j : Int) + 1) (by kernel_rfl) (by omega) (by omega) (by kernel_rfl) ?_)
      exact R.go 2 (R.stop R6 (by kernel_rfl) (N7 (j + 1, (stY n xs m ys j) ++ [shl64 (ys.getD j 0) n]) [3, 4, 6, 7, 10] (some [0, 1, 2, 3]) _ (by kernel_rfl) (by kernel_rfl) ⟨(by omega), (by exact stY_step (by omega))⟩ (by show (ys.length - (j + 1)) < (ys.length - j); omega)))
    · refine R.go 4 (R.call false (l16Make_c (stY n xs m ys j) (by first | omega | (simp <;> omega))) (by kernel_rfl) (by simp [AV.closed, closedL, AI, ownA_closed eI_closed]) (by kernel_rfl) ?_)
      exact R.go 2 (R.retE (.agg [AI ((stY n xs m ys j).length), ownA eI 2 1 (stY n xs m ys j)]) (by kernel_rfl) (by kernel_rfl) (by first | (rw [stY_end (show j = ys.length by omega)]) | (exfalso; omega)))

end Go.Proofs.Ytogehjciaamcfaa


/-! Stacks, sums and parts of posets; depths on a stack. -/
namespace Go.Proofs.Ytogehjciaamcfaa
open Go.RowKit Go.Abs

theorem sqz_ok {L : List Int} {m : Int} {N : Nat} (hN : N ≤ 61) : ∀ k : Nat, k ≤ N → InM N (sqz L m k)
  | 0, _ => inM_zero N
  | k + 1, h => by
    have ih := sqz_ok (L := L) (m := m) hN k (by omega)
    rw [sqz]
    split
    · exact inM_bor hN ih (inM_one hN (by omega))
    · exact ih
def prt (xs L : List Int) : List Int := L.map fun v => sqz L (xs.getD v.toNat 0) L.length
theorem prt_len (xs L : List Int) : (prt xs L).length = L.length := by simp [prt]
theorem prt_step {xs L : List Int} {t : Nat} (h : t < L.length) : ((L.take t).map fun v => sqz L (xs.getD v.toNat 0) L.length) ++ [sqz L (xs.getD (L.getD t 0).toNat 0) L.length] = (L.take (t + 1)).map fun v => sqz L (xs.getD v.toNat 0) L.length := map_take (f := fun v => sqz L (xs.getD v.toNat 0) L.length) h
theorem prt_end {xs L : List Int} {t : Nat} (h : t = L.length) : ((L.take t).map fun v => sqz L (xs.getD v.toNat 0) L.length) = prt xs L := by rw [h, List.take_length]; rfl
theorem mem_lenN {N : Nat} {m : Int} (hN : N ≤ 62) (h : InM N m) : (mem m).length ≤ N := by
  have e : mem m = memN m N := memN_stop (fun j hj => by
    cases e : tb m j with
    | false => rfl
    | true => exact absurd (tb_lt h e) (by omega)) hN
  rw [e]
  exact memN_len m N

theorem sqz_bits {N : Nat} {C m : Int} (hN : N ≤ 61) (hC : InM N C) (hm : InM N m) : ∀ t, t ≤ (mem C).length → ∀ k, tb (sqz (mem C) m t) k = true ↔ k < t ∧ tb m ((mem C).getD k 0).toNat = true
  | 0, _, k => by simp [sqz, tb_zero]
  | t + 1, ht, k => by
    have hl := mem_lenN (by omega) hC
    have ih := sqz_bits hN hC hm t (by omega) k
    obtain ⟨h1, h2, h3⟩ := mem_in hN hC (k := t) (by omega)
    have hb : band (shr64 m ((mem C).getD t 0)) 1 = 1 ↔ tb m ((mem C).getD t 0).toNat = true := by
      rw [h1]; exact has_tb hN hm (by omega)
    rw [sqz]
    split
    · rename_i h
      rw [tb_bor (n := N) hN (inM_mono (n' := N) (by omega) (sqz_ok (N := t) (by omega) t (Nat.le_refl _))) (inM_one hN (by omega)), Bool.or_eq_true, ih, tb_one (by omega), decide_eq_true_iff]
      constructor
      · rintro (⟨a, b⟩ | rfl)
        · exact ⟨by omega, b⟩
        · exact ⟨by omega, hb.1 h⟩
      · rintro ⟨a, b⟩
        by_cases e : k = t
        · exact .inr e.symm
        · exact .inl ⟨by omega, b⟩
    · rename_i h
      rw [ih]
      constructor
      · exact fun ⟨a, b⟩ => ⟨by omega, b⟩
      · rintro ⟨a, b⟩
        refine ⟨?_, b⟩
        by_cases e : k = t
        · subst e; exact absurd (hb.2 b) h
        · omega

theorem tb_shl {N k : Nat} {m : Int} (hN : N + k ≤ 61) (hm : InM N m) : InM (N + k) (shl64 m (k : Int)) ∧ ∀ i, tb (shl64 m (k : Int)) i = (decide (k ≤ i) && tb m (i - k)) := by
  obtain ⟨a, rfl, ha⟩ := inM_nat hm
  have hlt : a * 2 ^ k < 2 ^ (N + k) := by
    rw [Nat.pow_add]
    exact Nat.mul_lt_mul_of_pos_right ha (Nat.two_pow_pos k)
  have h62 := inM_62 hN hlt
  have e : shl64 (a : Int) (k : Int) = ((a * 2 ^ k : Nat) : Int) := by
    unfold shl64
    rw [show min (k : Int).toNat 64 = k by omega]
    have e2 : (a : Int) * 2 ^ k = ((a * 2 ^ k : Nat) : Int) := by push_cast; rfl
    rw [e2]
    generalize a * 2 ^ k = q at h62
    have : (2 : Nat) ^ 62 = 4611686018427387904 := by decide
    exact wrap_id (by omega) (by omega)
  refine ⟨?_, fun i => ?_⟩
  · rw [e]
    exact ⟨Int.natCast_nonneg _, by rw [Int.toNat_natCast]; exact hlt⟩
  · rw [e]
    unfold tb
    rw [Int.toNat_natCast, Int.toNat_natCast, Nat.mul_comm, Nat.testBit_two_pow_mul]

theorem inM_lt {n m : Int} (h0 : 0 ≤ n) (h8 : n ≤ 8) : InM n.toNat m ↔ 0 ≤ m ∧ m < shl64 1 n := by
  rw [full_rng (n := n.toNat) (by omega), show ((n.toNat : Nat) : Int) = n by omega, inR_iff]
  omega
/-- Masks that are equal bit by bit. -/
theorem bits_eq {N : Nat} {a b : Int} (ha : InM N a) (hb : InM N b) (h : ∀ i, i < N → (tb a i = true ↔ tb b i = true)) : a = b := by
  refine tb_ext ha.1 hb.1 fun i => ?_
  rw [Bool.eq_iff_iff]
  by_cases hi : i < N
  · exact h i hi
  · constructor
    · intro h2; exact absurd (tb_lt ha h2) hi
    · intro h2; exact absurd (tb_lt hb h2) hi

section
variable {n : Int} {xs : List Int} (hP : okPo n xs = true)
include hP
theorem po_rel : 0 ≤ n ∧ n ≤ 8 ∧ (xs.length : Int) = n ∧ RelOK n.toNat xs ∧ (∀ i, i < n.toNat → tb (xs.getD i 0) i = true) ∧ (∀ i j k : Nat, i < n.toNat → tb (xs.getD i 0) j = true → tb (xs.getD j 0) k = true → tb (xs.getD i 0) k = true) ∧ ∀ i j : Nat, i < n.toNat → tb (xs.getD i 0) j = true → tb (xs.getD j 0) i = true → i = j := by
  have hF := okPo_fr hP
  obtain ⟨h0, h8, hl, hr⟩ := okFr_rel hF
  simp only [okPo, Bool.and_eq_true] at hP
  obtain ⟨_, h1, h2, h3⟩ := hP
  have hlt : ∀ i j, i < n.toNat → tb (xs.getD i 0) j = true → j < n.toNat := fun i j hi h => tb_lt (hr.2 i hi) h
  exact ⟨h0, h8, hl, hr, rB_iff.1 h1, fun i j k hi a b => tB_iff.1 h2 i hi j (hlt i j hi a) k (hlt j k (hlt i j hi a) b) a b, fun i j hi a b => aB_iff.1 h3 i hi j (hlt i j hi a) a b⟩
end

theorem shl0 : ∀ n : Fin 9, shl64 0 (n.val : Int) = 0 := by decide +kernel
theorem bor_0 {n x : Int} (h0 : 0 ≤ n) (h8 : n ≤ 8) (hx : InM n.toNat x) : bor x (shl64 0 n) = x := by
  obtain ⟨k, rfl⟩ := Int.eq_ofNat_of_zero_le h0
  rw [shl0 ⟨k, by omega⟩]
  refine tb_ext (inM_bor (n := k) (by omega) hx (inM_zero _)).1 hx.1 fun w => ?_
  rw [tb_bor (n := k) (by omega) hx (inM_zero _), tb_zero, Bool.or_false]
/-- Two posets side by side. -/
def smL (n : Int) (xs ys : List Int) : List Int := xs ++ ys.map fun y => shl64 y n
def smC (n m : Int) : Int := if n + m ≤ 8 then 0 else 3
def smN (n m : Int) : Int := if n + m ≤ 8 then n + m else 0
def smR (n : Int) (xs : List Int) (m : Int) (ys : List Int) : List Int := if n + m ≤ 8 then smL n xs ys else []
def smY (n : Int) (xs ys : List Int) (j : Nat) : List Int := xs ++ (ys.take j).map fun y => shl64 y n
theorem smX_step {n : Int} {xs : List Int} {i : Nat} (hR : okFr n xs = true) (h : i < xs.length) : xs.take i ++ [bor (xs.getD i 0) (shl64 0 n)] = xs.take (i + 1) := by
  obtain ⟨h0, h8, hl, hr⟩ := okFr_rel hR
  rw [bor_0 h0 h8 (hr.2 i (by omega)), List.take_succ_eq_append_getElem h, List.getD_eq_getElem?_getD, List.getElem?_eq_getElem h]
  rfl
theorem smY_zero {n : Int} {xs ys : List Int} {i : Nat} (h : i = xs.length) : xs.take i = smY n xs ys 0 := by rw [smY, h, List.take_length]; simp
theorem smY_len {n : Int} {xs ys : List Int} {j : Nat} (h : j ≤ ys.length) : (smY n xs ys j).length = xs.length + j := by simp [smY]; omega
theorem smY_step {n : Int} {xs ys : List Int} {j : Nat} (h : j < ys.length) : smY n xs ys j ++ [shl64 (ys.getD j 0) n] = smY n xs ys (j + 1) := by
  rw [smY, smY, List.append_assoc, List.take_succ_eq_append_getElem h, List.map_append, List.getD_eq_getElem?_getD, List.getElem?_eq_getElem h]
  rfl
theorem smY_end {n : Int} {xs ys : List Int} {j : Nat} (h : j = ys.length) : smY n xs ys j = smL n xs ys := by rw [smY, h, List.take_length]; rfl
theorem sm_3 {s : Nat} {n m : Int} {xs ys : List Int} (h : n + m > 8) : AV.tup [.agg [AI 0, ownA eI s 1 []], AI 3] = AV.tup [.agg [AI (smN n m), ownA eI s 1 (smR n xs m ys)], AI (smC n m)] := by
  rw [smN, smR, smC, if_neg (by omega), if_neg (by omega), if_neg (by omega)]
theorem sm_0 {s : Nat} {n m k : Int} {xs ys L : List Int} (h : ¬ n + m > 8) (hk : k = n + m) (hL : L = smL n xs ys) : AV.tup [.agg [AI k, ownA eI s 1 L], AI 0] = AV.tup [.agg [AI (smN n m), ownA eI s 1 (smR n xs m ys)], AI (smC n m)] := by
  rw [smN, smR, smC, if_pos (by omega), if_pos (by omega), if_pos (by omega), hk, hL]
/-- What a poset is, bit by bit. -/
theorem po_mk {n : Int} {xs : List Int} (h0 : 0 ≤ n) (h8 : n ≤ 8) (hl : (xs.length : Int) = n) (hr : ∀ i : Nat, i < n.toNat → InM n.toNat (xs.getD i 0)) (rf : ∀ i : Nat, i < n.toNat → tb (xs.getD i 0) i = true) (tr : ∀ i j k : Nat, i < n.toNat → tb (xs.getD i 0) j = true → tb (xs.getD j 0) k = true → tb (xs.getD i 0) k = true) (asy : ∀ i j : Nat, i < n.toNat → tb (xs.getD i 0) j = true → tb (xs.getD j 0) i = true → i = j) : okPo n xs = true := by
  have hF : okFr n xs = true := by
    refine okFr_mk ((inR_iff _ _ _).2 (by omega)) hl ?_
    rw [List.any_eq_false]
    intro x hx
    obtain ⟨j, hj, rfl⟩ := List.getElem_of_mem hx
    have h1 := hr j (by omega)
    rw [List.getD_eq_getElem?_getD, List.getElem?_eq_getElem hj] at h1
    have := (full_rng (n := n.toNat) (by omega)).1 h1
    rw [show ((n.toNat : Nat) : Int) = n by omega] at this
    simp only [Option.getD_some] at this
    rw [this]; simp
  simp only [okPo, Bool.and_eq_true]
  exact ⟨hF, rB_iff.2 rf, tB_iff.2 fun i hi j _ k _ a b => tr i j k hi a b, aB_iff.2 fun i hi j _ a b => asy i j hi a b⟩
theorem st_get1 {n m : Int} {xs ys : List Int} (hP : okPo n xs = true) {i : Nat} (hi : i < n.toNat) : (stL n xs m ys).getD i 0 = bor (xs.getD i 0) (shl64 ((shl64 1 m) - 1) n) := by
  obtain ⟨h0, _, hl, _⟩ := po_rel hP
  rw [stL, List.getD_eq_getElem?_getD, List.getElem?_append_left (by rw [List.length_map]; omega), List.getElem?_map, List.getD_eq_getElem?_getD, List.getElem?_eq_getElem (by omega)]
  rfl
theorem st_get2 {n m : Int} {xs ys : List Int} (hP : okPo n xs = true) (hQ : okPo m ys = true) {j : Nat} (hj : j < m.toNat) : (stL n xs m ys).getD (n.toNat + j) 0 = shl64 (ys.getD j 0) n := by
  obtain ⟨h0, _, hl, _⟩ := po_rel hP
  obtain ⟨_, _, hm, _⟩ := po_rel hQ
  rw [stL, List.getD_eq_getElem?_getD, List.getElem?_append_right (by rw [List.length_map]; omega), List.length_map, show n.toNat + j - xs.length = j by omega, List.getElem?_map, List.getD_eq_getElem?_getD, List.getElem?_eq_getElem (by omega)]
  rfl
theorem sm_get1 {n : Int} {xs ys : List Int} (hP : okPo n xs = true) {i : Nat} (hi : i < n.toNat) : (smL n xs ys).getD i 0 = xs.getD i 0 := by
  obtain ⟨h0, _, hl, _⟩ := po_rel hP
  rw [smL, List.getD_eq_getElem?_getD, List.getElem?_append_left (by omega), ← List.getD_eq_getElem?_getD]
theorem sm_get2 {n m : Int} {xs ys : List Int} (hP : okPo n xs = true) (hQ : okPo m ys = true) {j : Nat} (hj : j < m.toNat) : (smL n xs ys).getD (n.toNat + j) 0 = shl64 (ys.getD j 0) n := by
  obtain ⟨h0, _, hl, _⟩ := po_rel hP
  obtain ⟨_, _, hm, _⟩ := po_rel hQ
  rw [smL, List.getD_eq_getElem?_getD, List.getElem?_append_right (by omega), show n.toNat + j - xs.length = j by omega, List.getElem?_map, List.getD_eq_getElem?_getD, List.getElem?_eq_getElem (by omega)]
  rfl
theorem nm_split {n m : Int} {xs ys : List Int} (hP : okPo n xs = true) (hQ : okPo m ys = true) {i : Nat} (hi : i < (n + m).toNat) : i < n.toNat ∨ ∃ j, j < m.toNat ∧ i = n.toNat + j := by
  obtain ⟨h0, _, _⟩ := po_rel hP
  obtain ⟨h1, _, _⟩ := po_rel hQ
  by_cases h : i < n.toNat
  · exact .inl h
  · exact .inr ⟨i - n.toNat, by omega, by omega⟩
section
variable {n m : Int} {xs ys : List Int} (hP : okPo n xs = true) (hQ : okPo m ys = true) (h8 : n + m ≤ 8)
include hP hQ h8
theorem sh_bits {y : Int} (hy : InM m.toNat y) : InM (n + m).toNat (shl64 y n) ∧ ∀ k, tb (shl64 y n) k = true ↔ n.toNat ≤ k ∧ tb y (k - n.toNat) = true := by
  obtain ⟨h0, _, _⟩ := po_rel hP
  obtain ⟨h1, _, _⟩ := po_rel hQ
  obtain ⟨a, b⟩ := tb_shl (N := m.toNat) (k := n.toNat) (by omega) hy
  rw [show ((n.toNat : Nat) : Int) = n by omega] at a b
  refine ⟨by rw [show (n + m).toNat = m.toNat + n.toNat by omega]; exact a, fun k => ?_⟩
  rw [b k, Bool.and_eq_true, decide_eq_true_iff]
theorem st_bits1 {i : Nat} (hi : i < n.toNat) : InM (n + m).toNat ((stL n xs m ys).getD i 0) ∧ ∀ k, tb ((stL n xs m ys).getD i 0) k = true ↔ tb (xs.getD i 0) k = true ∨ n.toNat ≤ k ∧ k < n.toNat + m.toNat := by
  obtain ⟨h0, _, hl, hr, _⟩ := po_rel hP
  obtain ⟨h1, _, _⟩ := po_rel hQ
  have hf := inM_full (n := m.toNat) (by omega)
  have ht := fun k => tb_full (n := m.toNat) (by omega) k
  rw [show ((m.toNat : Nat) : Int) = m by omega] at hf ht
  obtain ⟨a, b⟩ := sh_bits hP hQ h8 hf
  have hx := inM_mono (n' := (n + m).toNat) (by omega) (hr.2 i hi)
  rw [st_get1 hP hi]
  refine ⟨inM_bor (by omega) hx a, fun k => ?_⟩
  rw [tb_bor (by omega) hx a, Bool.or_eq_true, b k, ht, decide_eq_true_iff]
  constructor
  · rintro (h | ⟨h2, h3⟩)
    · exact .inl h
    · exact .inr ⟨h2, by omega⟩
  · rintro (h | ⟨h2, h3⟩)
    · exact .inl h
    · exact .inr ⟨h2, by omega⟩
theorem st_bits2 {j : Nat} (hj : j < m.toNat) : InM (n + m).toNat ((stL n xs m ys).getD (n.toNat + j) 0) ∧ ∀ k, tb ((stL n xs m ys).getD (n.toNat + j) 0) k = true ↔ n.toNat ≤ k ∧ tb (ys.getD j 0) (k - n.toNat) = true := by
  obtain ⟨_, _, _, hs, _⟩ := po_rel hQ
  rw [st_get2 hP hQ hj]
  exact sh_bits hP hQ h8 (hs.2 j hj)
theorem sm_bits1 {i : Nat} (hi : i < n.toNat) : InM (n + m).toNat ((smL n xs ys).getD i 0) ∧ ∀ k, tb ((smL n xs ys).getD i 0) k = true ↔ tb (xs.getD i 0) k = true := by
  obtain ⟨h0, _, hl, hr, _⟩ := po_rel hP
  obtain ⟨h1, _, _⟩ := po_rel hQ
  rw [sm_get1 hP hi]
  exact ⟨inM_mono (n' := (n + m).toNat) (by omega) (hr.2 i hi), fun k => Iff.rfl⟩
theorem sm_bits2 {j : Nat} (hj : j < m.toNat) : InM (n + m).toNat ((smL n xs ys).getD (n.toNat + j) 0) ∧ ∀ k, tb ((smL n xs ys).getD (n.toNat + j) 0) k = true ↔ n.toNat ≤ k ∧ tb (ys.getD j 0) (k - n.toNat) = true := by
  obtain ⟨_, _, _, hs, _⟩ := po_rel hQ
  rw [sm_get2 hP hQ hj]
  exact sh_bits hP hQ h8 (hs.2 j hj)
/-- A poset of two in which the first lies within itself or below the whole second. -/
theorem two_po {zs : List Int} {c : Bool} (hl : (zs.length : Int) = n + m) (b1 : ∀ i, i < n.toNat → InM (n + m).toNat (zs.getD i 0) ∧ ∀ k, tb (zs.getD i 0) k = true ↔ tb (xs.getD i 0) k = true ∨ (c = true ∧ n.toNat ≤ k ∧ k < n.toNat + m.toNat)) (b2 : ∀ j, j < m.toNat → InM (n + m).toNat (zs.getD (n.toNat + j) 0) ∧ ∀ k, tb (zs.getD (n.toNat + j) 0) k = true ↔ n.toNat ≤ k ∧ tb (ys.getD j 0) (k - n.toNat) = true) : okPo (n + m) zs = true := by
  obtain ⟨h0, _, hxl, hr, rf, tr, asy⟩ := po_rel hP
  obtain ⟨h1, _, hyl, hs, rf2, tr2, asy2⟩ := po_rel hQ
  have hlt : ∀ {i k : Nat}, i < n.toNat → tb (xs.getD i 0) k = true → k < n.toNat := fun hi h => tb_lt (hr.2 _ hi) h
  have hlt2 : ∀ {i k : Nat}, i < m.toNat → tb (ys.getD i 0) k = true → k < m.toNat := fun hi h => tb_lt (hs.2 _ hi) h
  refine po_mk (by omega) h8 hl (fun i hi => ?_) (fun i hi => ?_) (fun i j k hi a b => ?_) (fun i j hi a b => ?_)
  · rcases nm_split hP hQ hi with hi | ⟨j, hj, rfl⟩
    · exact (b1 i hi).1
    · exact (b2 j hj).1
  · rcases nm_split hP hQ hi with hi | ⟨j, hj, rfl⟩
    · exact ((b1 i hi).2 i).2 (.inl (rf i hi))
    · exact ((b2 j hj).2 _).2 ⟨by omega, by rw [Nat.add_sub_cancel_left]; exact rf2 j hj⟩
  · rcases nm_split hP hQ hi with hi | ⟨i', hi', rfl⟩
    · rcases ((b1 i hi).2 j).1 a with a | ⟨hc, a1, a2⟩
      · have hj := hlt hi a
        rcases ((b1 j hj).2 k).1 b with b | b
        · exact ((b1 i hi).2 k).2 (.inl (tr i j k hi a b))
        · exact ((b1 i hi).2 k).2 (.inr b)
      · have hj : j - n.toNat < m.toNat := by omega
        have e : j = n.toNat + (j - n.toNat) := by omega
        rw [e] at b
        obtain ⟨b3, b4⟩ := ((b2 _ hj).2 k).1 b
        have := hlt2 hj b4
        exact ((b1 i hi).2 k).2 (.inr ⟨hc, b3, by omega⟩)
    · obtain ⟨a1, a2⟩ := ((b2 i' hi').2 j).1 a
      have hj := hlt2 hi' a2
      have e : j = n.toNat + (j - n.toNat) := by omega
      rw [e] at b
      obtain ⟨b3, b4⟩ := ((b2 _ hj).2 k).1 b
      exact ((b2 i' hi').2 k).2 ⟨b3, tr2 _ _ _ hi' a2 b4⟩
  · rcases nm_split hP hQ hi with hi | ⟨i', hi', rfl⟩
    · rcases ((b1 i hi).2 j).1 a with a | ⟨hc, a1, a2⟩
      · have hj := hlt hi a
        rcases ((b1 j hj).2 i).1 b with b | b
        · exact asy i j hi a b
        · omega
      · have hj : j - n.toNat < m.toNat := by omega
        have e : j = n.toNat + (j - n.toNat) := by omega
        rw [e] at b
        have := (((b2 _ hj).2 i).1 b).1
        omega
    · obtain ⟨a1, a2⟩ := ((b2 i' hi').2 j).1 a
      have hj := hlt2 hi' a2
      have e : j = n.toNat + (j - n.toNat) := by omega
      rw [e] at b
      obtain ⟨b3, b4⟩ := ((b2 _ hj).2 _).1 b
      rw [Nat.add_sub_cancel_left] at b4
      have := asy2 _ _ hi' a2 b4
      omega
theorem st_po : okPo (n + m) (stL n xs m ys) = true := by
  obtain ⟨_, _, hxl, _⟩ := po_rel hP
  obtain ⟨_, _, hyl, _⟩ := po_rel hQ
  refine two_po hP hQ h8 (c := true) (by rw [stL_len]; omega) (fun i hi => ⟨(st_bits1 hP hQ h8 hi).1, fun k => ?_⟩) (fun j hj => st_bits2 hP hQ h8 hj)
  rw [(st_bits1 hP hQ h8 hi).2 k]
  simp
theorem sm_po : okPo (n + m) (smL n xs ys) = true := by
  obtain ⟨_, _, hxl, _⟩ := po_rel hP
  obtain ⟨_, _, hyl, _⟩ := po_rel hQ
  refine two_po hP hQ h8 (c := false) (by rw [smL, List.length_append, List.length_map]; omega) (fun i hi => ⟨(sm_bits1 hP hQ h8 hi).1, fun k => ?_⟩) (fun j hj => sm_bits2 hP hQ h8 hj)
  rw [(sm_bits1 hP hQ h8 hi).2 k]
  simp
end
/-! Depths in posets. -/
theorem po_star {n : Int} {xs : List Int} (hP : okPo n xs = true) {x k : Nat} (hx : x < n.toNat) : Star (Edge xs) x k ↔ tb (xs.getD x 0) k = true := by
  obtain ⟨h0, h8, hl, hr, rf, tr, asy⟩ := po_rel hP
  constructor
  · intro h
    induction h with
    | refl => exact rf x hx
    | tail _ e ih => exact tr x _ _ hx ih e.2
  · intro h
    exact .tail (.refl x) ⟨by omega, h⟩
theorem po_st {n : Int} {xs : List Int} (hP : okPo n xs = true) {x y : Nat} (hx : x < n.toNat) (hy : y < n.toNat) : stB (clo xs) x y = true ↔ tb (xs.getD x 0) y = true ∧ x ≠ y := by
  obtain ⟨h0, h8, hl, hr, rf, tr, asy⟩ := po_rel hP
  rw [st_iff (okPo_fr hP) hx hy, po_star hP hx, po_star hP hy]
  constructor
  · rintro ⟨a, b⟩
    exact ⟨a, fun e => b (by rw [← e]; exact rf x hx)⟩
  · rintro ⟨a, b⟩
    exact ⟨a, fun c => b (asy x y hx a c)⟩
theorem hp_ge {n : Int} {xs : List Int} (hP : okPo n xs = true) {x y : Nat} (hx : x < n.toNat) (h : tb (xs.getD x 0) y = true) (hne : x ≠ y) : hgt n xs y + 1 ≤ hgt n xs x := by
  obtain ⟨_, _, _, hr, _⟩ := po_rel hP
  exact hgt_ge (okPo_fr hP) hx ((po_st hP hx (tb_lt (hr.2 x hx) h)).2 ⟨h, hne⟩)
theorem hp_att {n : Int} {xs : List Int} (hP : okPo n xs = true) {x : Nat} (hx : x < n.toNat) : hgt n xs x = 1 ∨ ∃ y, y < n.toNat ∧ tb (xs.getD x 0) y = true ∧ x ≠ y ∧ hgt n xs x = hgt n xs y + 1 := by
  rcases hgt_att (okPo_fr hP) hx with h | ⟨y, h1, h2, h3⟩
  · exact .inl h
  · have := (po_st hP hx h1).1 h2
    exact .inr ⟨y, h1, this.1, this.2, h3⟩
theorem hp_1 {n : Int} {xs : List Int} (hP : okPo n xs = true) {x : Nat} (hx : x < n.toNat) : 1 ≤ hgt n xs x := hgt_ge1 (okPo_fr hP) hx
section
variable {n m : Int} {xs ys : List Int} (hP : okPo n xs = true) (hQ : okPo m ys = true) (h8 : n + m ≤ 8)
include hP hQ h8
theorem hs_2 : ∀ (c : Nat) (j : Nat), j < m.toNat → (hgt m ys j).toNat = c → hgt (n + m) (stL n xs m ys) (n.toNat + j) = hgt m ys j := by
  obtain ⟨h0, _, _⟩ := po_rel hP
  obtain ⟨h1, _, _, hs, _⟩ := po_rel hQ
  have hS := st_po hP hQ h8
  intro c
  induction c using Nat.strongRecOn with
  | _ c ih =>
    intro j hj hc
    have hjS : n.toNat + j < (n + m).toNat := by omega
    have hj1 := hp_1 hQ hj
    refine Int.le_antisymm ?_ ?_
    · rcases hp_att hS hjS with h | ⟨k, k1, k2, k3, k4⟩
      · omega
      · obtain ⟨b1, b2⟩ := ((st_bits2 hP hQ h8 hj).2 k).1 k2
        have hk := tb_lt (hs.2 j hj) b2
        have hg := hp_ge hQ hj b2 (by omega)
        have hk1 := hp_1 hQ hk
        have := ih (hgt m ys (k - n.toNat)).toNat (by omega) _ hk rfl
        rw [show n.toNat + (k - n.toNat) = k by omega] at this
        omega
    · rcases hp_att hQ hj with h | ⟨k, k1, k2, k3, k4⟩
      · have := hp_1 hS hjS; omega
      · have hk1 := hp_1 hQ k1
        have := ih (hgt m ys k).toNat (by omega) _ k1 rfl
        have hg := hp_ge hS hjS (y := n.toNat + k) (((st_bits2 hP hQ h8 hj).2 _).2 ⟨by omega, by rw [Nat.add_sub_cancel_left]; exact k2⟩) (by omega)
        omega
theorem hs_1 {M : Int} (hM : ∀ j, j < m.toNat → hgt m ys j ≤ M) (hA : M = 0 ∨ ∃ j, j < m.toNat ∧ hgt m ys j = M) (hM0 : 0 ≤ M) : ∀ (c : Nat) (i : Nat), i < n.toNat → (hgt n xs i).toNat = c → hgt (n + m) (stL n xs m ys) i = hgt n xs i + M := by
  obtain ⟨h0, _, _, hr, _⟩ := po_rel hP
  obtain ⟨h1, _, _⟩ := po_rel hQ
  have hS := st_po hP hQ h8
  intro c
  induction c using Nat.strongRecOn with
  | _ c ih =>
    intro i hi hc
    have hiS : i < (n + m).toNat := by omega
    have hi1 := hp_1 hP hi
    have hge : hgt n xs i + M ≤ hgt (n + m) (stL n xs m ys) i := by
      rcases hp_att hP hi with h | ⟨k, k1, k2, k3, k4⟩
      · rcases hA with h2 | ⟨j, j1, j2⟩
        · have := hp_1 hS hiS; omega
        · have := hs_2 hP hQ h8 _ j j1 rfl
          have hg := hp_ge hS hiS (y := n.toNat + j) (((st_bits1 hP hQ h8 hi).2 _).2 (.inr ⟨by omega, by omega⟩)) (by omega)
          omega
      · have hk1 := hp_1 hP k1
        have := ih (hgt n xs k).toNat (by omega) _ k1 rfl
        have hg := hp_ge hS hiS (y := k) (((st_bits1 hP hQ h8 hi).2 _).2 (.inl k2)) k3
        omega
    refine Int.le_antisymm ?_ hge
    rcases hp_att hS hiS with h | ⟨k, k1, k2, k3, k4⟩
    · omega
    · rcases ((st_bits1 hP hQ h8 hi).2 k).1 k2 with h | ⟨h2, h3⟩
      · have hk := tb_lt (hr.2 i hi) h
        have hg := hp_ge hP hi h k3
        have hk1 := hp_1 hP hk
        have := ih (hgt n xs k).toNat (by omega) _ hk rfl
        omega
      · have := hs_2 hP hQ h8 _ (k - n.toNat) (by omega) rfl
        rw [show n.toNat + (k - n.toNat) = k by omega] at this
        have := hM (k - n.toNat) (by omega)
        omega
end
theorem dep_len (n : Int) (xs : List Int) : (depI n xs).length = n.toNat := dpR_len _ _ _ _
/-! The part of a stack below. -/
theorem memFull : ∀ n : Fin 9, mem ((shl64 1 (n.val : Int)) - 1) = (List.range n.val).map fun i : Nat => (i : Int) := by decide +kernel
theorem mem_full {n : Int} (h0 : 0 ≤ n) (h8 : n ≤ 8) : mem ((shl64 1 n) - 1) = (List.range n.toNat).map fun i : Nat => (i : Int) := by
  have := memFull ⟨n.toNat, by omega⟩
  simp only [show ((n.toNat : Nat) : Int) = n by omega] at this
  exact this
theorem part_st {n m : Int} {xs ys : List Int} (hP : okPo n xs = true) (hQ : okPo m ys = true) (h8 : n + m ≤ 8) : ((mem ((shl64 1 n) - 1)).length : Int) = n ∧ prt (stL n xs m ys) (mem ((shl64 1 n) - 1)) = xs := by
  obtain ⟨h0, hn8, hl, hr, _⟩ := po_rel hP
  obtain ⟨h1, _⟩ := po_rel hQ
  have e := mem_full h0 hn8
  have el : (mem ((shl64 1 n) - 1)).length = n.toNat := by rw [e]; simp
  have hf := inM_full (n := n.toNat) (by omega)
  rw [show ((n.toNat : Nat) : Int) = n by omega] at hf
  have hf8 := inM_mono (n' := (n + m).toNat) (by omega) hf
  refine ⟨by omega, ?_⟩
  have hg : ∀ k, k < n.toNat → (mem ((shl64 1 n) - 1)).getD k 0 = (k : Int) := fun k hk => by
    rw [e, List.getD_eq_getElem?_getD, List.getElem?_map, List.getElem?_range hk]
    rfl
  refine List.ext_getElem (by rw [prt_len]; omega) fun i hi _ => ?_
  rw [prt_len, el] at hi
  have e1 : (prt (stL n xs m ys) (mem ((shl64 1 n) - 1)))[i] = sqz (mem ((shl64 1 n) - 1)) ((stL n xs m ys).getD i 0) n.toNat := by
    have h2 : i < (mem ((shl64 1 n) - 1)).length := by omega
    have h3 := hg i hi
    rw [List.getD_eq_getElem?_getD, List.getElem?_eq_getElem h2] at h3
    simp only [Option.getD_some] at h3
    simp only [prt, List.getElem_map, h3, el, Int.toNat_natCast]
  have e2 : xs[i]'(by omega) = xs.getD i 0 := by rw [List.getD_eq_getElem?_getD, List.getElem?_eq_getElem (by omega)]; rfl
  rw [e1, e2]
  refine bits_eq (N := n.toNat) (sqz_ok (by omega) n.toNat (Nat.le_refl _)) (hr.2 i hi) fun k hk => ?_
  rw [sqz_bits (N := (n + m).toNat) (by omega) hf8 (st_bits1 hP hQ h8 hi).1 n.toNat (by omega), hg k hk, Int.toNat_natCast, (st_bits1 hP hQ h8 hi).2 k]
  constructor
  · rintro ⟨_, h | h⟩
    · exact h
    · omega
  · intro h; exact ⟨hk, .inl h⟩

end Go.Proofs.Ytogehjciaamcfaa


/-! Rows filtered in place; antichains. -/
namespace Go.Proofs.Ytogehjciaamcfaa
open Go.RowKit Go.Abs

def ANT (xs : List Int) (m : Int) (i : Nat) : Prop := tb m i = true → band (xs.getD i 0) m = shl64 1 (i : Int)
instance (xs : List Int) (m : Int) (i : Nat) : Decidable (ANT xs m i) := by unfold ANT; infer_instance
def antB (n : Int) (xs : List Int) (m : Int) : Bool := (List.range n.toNat).all fun i => decide (ANT xs m i)
theorem antB_iff {n : Int} {xs : List Int} {m : Int} : antB n xs m = true ↔ ∀ i : Nat, i < n.toNat → ANT xs m i := by simp [antB]
theorem antB_no {n : Int} {xs : List Int} {m : Int} {i : Nat} (hi : i < n.toNat) (h : tb m i = true) (h2 : ¬ band (xs.getD i 0) m = shl64 1 (i : Int)) : false = antB n xs m := by
  cases e : antB n xs m with
  | false => rfl
  | true => exact absurd (antB_iff.1 e i hi h) h2
def ANM (xs : List Int) (m : Int) (t : Nat) : Prop := band (xs.getD ((mem m).getD t 0).toNat 0) m = shl64 1 ((mem m).getD t 0)
theorem antB_mem {n : Int} {xs : List Int} {m : Int} (h8 : n ≤ 8) (hm : InM n.toNat m) (h : ∀ t : Nat, t < (mem m).length → ANM xs m t) : true = antB n xs m := by
  refine (antB_iff.2 fun i hi hb => ?_).symm
  obtain ⟨t, ht, e⟩ := List.getElem_of_mem ((mem_iff (by omega) hm).2 hb)
  have h1 := h t ht
  unfold ANM at h1
  have e2 : (mem m).getD t 0 = (i : Int) := by rw [List.getD_eq_getElem?_getD, List.getElem?_eq_getElem ht, e]; rfl
  rw [e2] at h1
  exact h1
theorem antB_nom {n : Int} {xs : List Int} {m : Int} {t : Nat} (h8 : n ≤ 8) (hm : InM n.toNat m) (ht : t < (mem m).length) (h : ¬ band (xs.getD ((mem m).getD t 0).toNat 0) m = shl64 1 ((mem m).getD t 0)) : false = antB n xs m := by
  have h1 := mem_lt' (N := n.toNat) (by omega) hm ht
  have e : (((mem m).getD t 0).toNat : Int) = (mem m).getD t 0 := by omega
  refine antB_no (i := ((mem m).getD t 0).toNat) (by omega) ((mem_iff (N := n.toNat) (by omega) hm).1 ?_) (by rw [e]; exact h)
  rw [e, List.getD_eq_getElem?_getD, List.getElem?_eq_getElem ht]
  exact List.getElem_mem _
end Go.Proofs.Ytogehjciaamcfaa


/-! AntichainsOf of both packages and its law. -/
namespace Go.Proofs.Ytogehjciaamcfaa
open Go.RowKit Go.Abs

theorem isAntichain_c (n : Int) (xs : List Int) (m : Int) (hR : okFr n xs = true) (hm : InM n.toNat m) : CallA Try.prog 37 [.agg [AI n, LI xs], AI m] (.bool (antB n xs m)) := by
  have hF := okFr_rel hR
  have hRel : RelOK n.toNat xs := hF.2.2.2
  have hb0 : 0 ≤ n ∧ n ≤ 8 ∧ (xs.length : Int) = n := ⟨hF.1, hF.2.1, hF.2.2.1⟩
  have hN8 : n.toNat ≤ 8 := by omega
  have hm61 := inM_mono (n' := 61) (by omega) hm
  have hml := mem_le m
  refine CallA.of Try.func37 rfl (by kernel_rfl) ?_
  refine R.go 9 (R.call true (membersOf_c m (by first | assumption | exact inM61 (by omega) (by omega))).frz (by kernel_rfl) rfl (by kernel_rfl) ?_)
  refine R.go 4 (R.loop (fun (t : Nat) => (⟨(frm 25 [(1, AI m), (2, .ptr 0 0), (8, LI (mem m)), (9, AI ((mem m).length)), (10, AI (t : Int))]), [.box 26 [AI n, LI xs]]⟩ : St)) (fun (t : Nat) => (t ≤ (mem m).length) ∧ (∀ s : Nat, s < t → ANM xs m s)) (fun (t : Nat) => (mem m).length - t) 0 [1, 2, 8, 9, 10] none (by kernel_rfl) (by kernel_rfl) (by kernel_rfl) ⟨(by omega), (by exact fun i hi => absurd hi (by omega))⟩ ?_)
  rintro t ⟨h3_1, h3_2⟩ R1 N2
  have hjr := fun h : t < (mem m).length => mem_lt' (N := n.toNat) (by omega) hm h
  refine R.go 5 (R.cond ((t : Int) < ((mem m).length : Int)) (by kernel_rfl) (fun c4 => ?_) (fun c4 => ?_))
  · have hj2 := hjr (by omega)
    refine R.go 5 (R.idx eI (mem m) 0 t (t : Int) (by kernel_rfl) rfl eI_len (by omega) (by kernel_rfl) ?_)
    refine R.go 8 (R.idx eI xs 0 ((((mem m).getD t 0)).toNat) ((mem m).getD t 0) (by kernel_rfl) (by omega) eI_len (by omega) (by kernel_rfl) ?_)
    refine R.go 4 (R.shl 1 ((mem m).getD t 0) (by kernel_rfl) (by omega) (by kernel_rfl) ?_)
    refine R.go 2 (R.condN ((band (xs.getD ((((mem m).getD t 0)).toNat) 0) m) = (shl64 1 ((mem m).getD t 0))) (by kernel_rfl) (fun c5 => ?_) (fun c5 => ?_))
    · exact R.go 4 (R.retE (.bool false) (by kernel_rfl) (by kernel_rfl) (by first | (apply congrArg AV.bool; first | exact antB_nom hb0.2.1 hm (t := t) (by omega) (by assumption) | exact antB_mem hb0.2.1 hm fun s hs => (‹∀ s : Nat, s < t → ANM xs m s›) s (by omega)) | (exfalso; omega)))
    · refine R.go 3 (R.ar ((t : Int) + 1) (by kernel_rfl) (by omega) (by omega) (by kernel_rfl) ?_)
      exact R.go 2 (R.stop R1 (by kernel_rfl) (N2 (t + 1) [1, 2, 8, 9, 10] none _ (by kernel_rfl) (by kernel_rfl) ⟨(by omega), (by exact below1 (P := ANM xs m) (by assumption) (show band _ _ = _ by assumption))⟩ (by show ((mem m).length - (t + 1)) < ((mem m).length - t); omega)))
  · exact R.go 5 (R.retE (.bool true) (by kernel_rfl) (by kernel_rfl) (by first | (apply congrArg AV.bool; first | exact antB_nom hb0.2.1 hm (t := t) (by omega) (by assumption) | exact antB_mem hb0.2.1 hm fun s hs => (‹∀ s : Nat, s < t → ANM xs m s›) s (by omega)) | (exfalso; omega)))

end Go.Proofs.Ytogehjciaamcfaa
