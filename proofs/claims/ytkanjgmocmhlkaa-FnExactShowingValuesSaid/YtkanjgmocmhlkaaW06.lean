/- StackPosets of both packages and its law. -/
import Derived.Test.YtkanjgmocmhlkaaW02
import Derived.Test.YtkanjgmocmhlkaaSymZ
namespace Go.Proofs.Ytkanjgmocmhlkaa
open Go.RowKit Go.Abs

def stC (n : Int) (xs : List Int) (m : Int) (ys : List Int) : Int := if okPo n xs = true ∧ okPo m ys = true then (if n + m ≤ 8 then 0 else 3) else 1
/-- One poset above another. -/
def stL (n : Int) (xs : List Int) (m : Int) (ys : List Int) : List Int := (xs.map fun x => bor x (shl64 ((shl64 1 m) - 1) n)) ++ ys.map fun y => shl64 y n
def stX (n : Int) (xs : List Int) (m : Int) (i : Nat) : List Int := (xs.take i).map fun x => bor x (shl64 ((shl64 1 m) - 1) n)
def stY (n : Int) (xs : List Int) (m : Int) (ys : List Int) (j : Nat) : List Int := (xs.map fun x => bor x (shl64 ((shl64 1 m) - 1) n)) ++ ((ys.take j).map fun y => shl64 y n)
theorem stX_len {n m : Int} {xs : List Int} {i : Nat} (h : i ≤ xs.length) : (stX n xs m i).length = i := by simp [stX]; omega
theorem stY_len {n m : Int} {xs ys : List Int} {j : Nat} (h : j ≤ ys.length) : (stY n xs m ys j).length = xs.length + j := by simp [stY]; omega
theorem stY_end {n m : Int} {xs ys : List Int} {j : Nat} (h : j = ys.length) : stY n xs m ys j = stL n xs m ys := by rw [stY, h, List.take_length]; rfl
theorem stY_zero {n m : Int} {xs ys : List Int} {i : Nat} (h : i = xs.length) : stX n xs m i = stY n xs m ys 0 := by rw [stX, stY, h, List.take_length]; simp
def stR (n : Int) (xs : List Int) (m : Int) (ys : List Int) : List Int := if stC n xs m ys = 0 then stL n xs m ys else []
def stN (n : Int) (xs : List Int) (m : Int) (ys : List Int) : Int := if stC n xs m ys = 0 then n + m else 0
theorem stL_len (n : Int) (xs : List Int) (m : Int) (ys : List Int) : (stL n xs m ys).length = xs.length + ys.length := by simp [stL]
theorem map_take {f : Int → Int} {xs : List Int} {i : Nat} (h : i < xs.length) : (xs.take i).map f ++ [f (xs.getD i 0)] = (xs.take (i + 1)).map f := by
  rw [List.take_succ_eq_append_getElem h, List.map_append, List.getD_eq_getElem?_getD, List.getElem?_eq_getElem h]
  rfl
theorem stX_step {n m : Int} {xs : List Int} {i : Nat} (h : i < xs.length) : stX n xs m i ++ [bor (xs.getD i 0) (shl64 ((shl64 1 m) - 1) n)] = stX n xs m (i + 1) := map_take (f := fun x => bor x (shl64 ((shl64 1 m) - 1) n)) h
theorem stY_step {n m : Int} {xs ys : List Int} {j : Nat} (h : j < ys.length) : stY n xs m ys j ++ [shl64 (ys.getD j 0) n] = stY n xs m ys (j + 1) := by rw [stY, List.append_assoc, map_take (f := fun y => shl64 y n) h]; rfl
theorem st_1 {n m : Int} {xs ys : List Int} (h : ¬ (okPo n xs = true ∧ okPo m ys = true)) : stC n xs m ys = 1 := if_neg h
theorem st_3 {n m : Int} {xs ys : List Int} (h : okPo n xs = true) (h1 : okPo m ys = true) (h2 : n + m > 8) : stC n xs m ys = 3 := by rw [stC, if_pos ⟨h, h1⟩, if_neg (by omega)]
theorem st_0 {n m : Int} {xs ys : List Int} (h : okPo n xs = true) (h1 : okPo m ys = true) (h2 : ¬ n + m > 8) : stC n xs m ys = 0 := by rw [stC, if_pos ⟨h, h1⟩, if_pos (by omega)]
theorem st_bad {s : Nat} {n m c : Int} {xs ys : List Int} (h : stC n xs m ys = c) (hc : ¬ c = 0) : AV.tup [.agg [AI 0, ownA eI s 1 []], AI c] = AV.tup [.agg [AI (stN n xs m ys), ownA eI s 1 (stR n xs m ys)], AI (stC n xs m ys)] := by
  rw [stN, stR, h, if_neg hc, if_neg hc]
theorem st_ok {s : Nat} {n m k : Int} {xs ys L : List Int} (h : stC n xs m ys = 0) (hk : k = n + m) (hL : L = stL n xs m ys) : AV.tup [.agg [AI k, ownA eI s 1 L], AI 0] = AV.tup [.agg [AI (stN n xs m ys), ownA eI s 1 (stR n xs m ys)], AI (stC n xs m ys)] := by
  rw [stN, stR, h, if_pos rfl, if_pos rfl, hk, hL]
theorem stc_ok {n m : Int} {xs ys : List Int} (h : stC n xs m ys = 0) : okPo n xs = true ∧ okPo m ys = true ∧ n + m ≤ 8 := by
  unfold stC at h
  split at h
  · rename_i h1
    split at h
    · rename_i h2; exact ⟨h1.1, h1.2, h2⟩
    · cases h
  · cases h
theorem st_len {n m : Int} {xs ys : List Int} : (stR n xs m ys).length ≤ 16 := by
  unfold stR
  split
  · rename_i h
    unfold stC at h
    split at h
    · rename_i h1
      have a := okFr_rel (okPo_fr h1.1)
      have b := okFr_rel (okPo_fr h1.2)
      rw [stL_len]
      omega
    · cases h
  · simp

theorem l16Make_c (xs : List Int) (hl : xs.length ≤ 1000000000) : CallA Try.prog 78 [LI xs] (.agg [AI xs.length, ownA eI 2 1 xs]) := by
  refine CallA.of Try.func78 rfl (by kernel_rfl) ?_
  refine R.go 9 (R.call true (l01Own_c xs hl) (by kernel_rfl) rfl (by kernel_rfl) ?_)
  exact R.go 3 (R.retE (.agg [AI xs.length, ownA eI 2 1 xs]) (by kernel_rfl) (by kernel_rfl) (by rfl))

theorem l16Two_c (n : Int) (xs : List Int) (m : Int) (ys : List Int) (lx : xs.length ≤ 1048576) (ly : ys.length ≤ 1048576) : CallA Try.prog 40 [.agg [AI n, LI xs], .agg [AI m, LI ys]] (AI (stC n xs m ys)) := by
  have hp := fun h : okPo n xs = true => okFr_rel (okPo_fr h)
  have hq := fun h : okPo m ys = true => okFr_rel (okPo_fr h)
  refine CallA.of Try.func40 rfl (by kernel_rfl) ?_
  refine R.go 11 (R.call true (l16Is_c n xs (by first | omega | (have h2 := hq (by assumption); omega) | (have h1 := hp (by assumption); omega) | (have h1 := hp (by assumption); have h2 := hq (by assumption); omega))) (by kernel_rfl) rfl (by kernel_rfl) ?_)
  refine R.go 2 ?_
  refine (Bool.eq_false_or_eq_true (okPo n xs)).elim (fun c1 => ?_) (fun c1 => ?_)
  · refine R.want (!(okPo n xs)) false (by kernel_rfl) (bnF c1) ?_
    refine R.go 1 (R.want (!(okPo n xs)) false (by kernel_rfl) (bnF c1) ?_)
    refine R.call true (l16Is_c m ys (by first | omega | (have h2 := hq (by assumption); omega) | (have h1 := hp (by assumption); omega) | (have h1 := hp (by assumption); have h2 := hq (by assumption); omega))) (by kernel_rfl) rfl (by kernel_rfl) ?_
    refine R.want (!(okPo n xs)) false (by kernel_rfl) (bnF c1) ?_
    refine R.go 1 (R.pick (!(okPo n xs)) false (by kernel_rfl) (bnF c1) (by kernel_rfl) ?_)
    refine R.go 2 (R.condM (okPo m ys) (by kernel_rfl) (fun c2 => ?_) (fun c2 => ?_))
    · exact R.go 4 (R.retE (AI 1) (by kernel_rfl) (by kernel_rfl) (by first | (apply congrArg AI; first | exact (st_1 (by simp_all)).symm | exact (st_3 (by assumption) (by assumption) (by assumption)).symm | exact (st_0 (by assumption) (by assumption) (by assumption)).symm) | (exfalso; omega)))
    · refine R.go 6 (R.ar (n + m) (by kernel_rfl) (by first | omega | (have h2 := hq (by assumption); omega) | (have h1 := hp (by assumption); omega) | (have h1 := hp (by assumption); have h2 := hq (by assumption); omega)) (by first | omega | (have h2 := hq (by assumption); omega) | (have h1 := hp (by assumption); omega) | (have h1 := hp (by assumption); have h2 := hq (by assumption); omega)) (by kernel_rfl) ?_)
      refine R.go 3 (R.cond ((n + m) > 8) (by kernel_rfl) (fun c3 => ?_) (fun c3 => ?_))
      · exact R.go 4 (R.retE (AI 3) (by kernel_rfl) (by kernel_rfl) (by first | (apply congrArg AI; first | exact (st_1 (by simp_all)).symm | exact (st_3 (by assumption) (by assumption) (by assumption)).symm | exact (st_0 (by assumption) (by assumption) (by assumption)).symm) | (exfalso; omega)))
      · exact R.go 6 (R.retE (AI 0) (by kernel_rfl) (by kernel_rfl) (by first | (apply congrArg AI; first | exact (st_1 (by simp_all)).symm | exact (st_3 (by assumption) (by assumption) (by assumption)).symm | exact (st_0 (by assumption) (by assumption) (by assumption)).symm) | (exfalso; omega)))
  · refine R.skp (!(okPo n xs)) false (by kernel_rfl) (bnT c1) (by kernel_rfl) ?_
    refine R.skp (!(okPo n xs)) false (by kernel_rfl) (bnT c1) (by kernel_rfl) ?_
    refine R.skp (!(okPo n xs)) false (by kernel_rfl) (bnT c1) (by kernel_rfl) ?_
    refine R.pick (!(okPo n xs)) true (by kernel_rfl) (bnT c1) (by kernel_rfl) ?_
    exact R.go 7 (R.retE (AI 1) (by kernel_rfl) (by kernel_rfl) (by first | (apply congrArg AI; first | exact (st_1 (by simp_all)).symm | exact (st_3 (by assumption) (by assumption) (by assumption)).symm | exact (st_0 (by assumption) (by assumption) (by assumption)).symm) | (exfalso; omega)))

theorem l16Join_c (n : Int) (xs : List Int) (m : Int) (ys : List Int) (hP : okPo n xs = true) (hQ : okPo m ys = true) (hs : n + m ≤ 8) : CallA Try.prog 41 [.agg [AI n, LI xs], .agg [AI m, LI ys], .bool true] (.agg [AI (n + m), ownA eI 2 1 (stL n xs m ys)]) := by
  have hp := fun h : okPo n xs = true => okFr_rel (okPo_fr h)
  have hq := fun h : okPo m ys = true => okFr_rel (okPo_fr h)
  have hp1 := hp hP
  have hq1 := hq hQ
  have hb : 0 ≤ n ∧ n ≤ 8 ∧ (xs.length : Int) = n ∧ 0 ≤ m ∧ m ≤ 8 ∧ (ys.length : Int) = m := ⟨hp1.1, hp1.2.1, hp1.2.2.1, hq1.1, hq1.2.1, hq1.2.2.1⟩
  have hsh := shl_rng m hq1.1 (by omega)
  refine CallA.of Try.func41 rfl (by kernel_rfl) ?_
  refine R.go 17 (R.loop ((fun | (i, out) => (⟨(frm 59 [(2, .bool true), (3, .ptr 0 0), (4, .ptr 1 0), (6, .ptr 2 0), (7, .ref 3), (8, AI (i : Int))]), [.box 26 [AI n, LI xs], .box 26 [AI m, LI ys], .box 26 [AI 0, .nil], rowA eI 2 1 out]⟩ : St) : Nat × (List Int) → St)) (fun | (i, out) => (i ≤ xs.length) ∧ (out = stX n xs m i)) (fun | (i, out) => xs.length - i) (0, []) [2, 3, 4, 6, 7, 8] none (by kernel_rfl) (by kernel_rfl) (by kernel_rfl) ⟨(by omega), (by rfl)⟩ ?_)
  rintro ⟨i, out⟩ ⟨h4_1, rfl⟩ R1 N2
  have hol := stX_len (n := n) (m := m) (xs := xs) (i := i) (by assumption)
  refine R.go 9 (R.cond ((i : Int) < (xs.length : Int)) (by kernel_rfl) (fun c5 => ?_) (fun c5 => ?_))
  · refine R.go 8 (R.idx eI xs 0 i (i : Int) (by kernel_rfl) rfl eI_len (by omega) (by kernel_rfl) ?_)
    refine R.go 13 (R.call true (l01Full_c m (by omega) (by omega)) (by kernel_rfl) rfl (by kernel_rfl) ?_)
    refine R.go 2 (R.cv .u64 n (by kernel_rfl) (u64_id (by omega) (by omega)) (by kernel_rfl) ?_)
    refine R.shl ((shl64 1 m) - 1) n (by kernel_rfl) (by omega) (by kernel_rfl) ?_
    refine R.go 7 (R.app eI (stX n xs m i) [bor (xs.getD i 0) (shl64 ((shl64 1 m) - 1) n)] 3 2 1 8 (by kernel_rfl) eI_one (by decide) (by first | omega | (simp <;> omega)) (by kernel_rfl) ?_)
    refine R.go 5 (R.ar ((i : Int) + 1) (by kernel_rfl) (by omega) (by omega) (by kernel_rfl) ?_)
    exact R.go 2 (R.stop R1 (by kernel_rfl) (N2 (i + 1, (stX n xs m i) ++ [bor (xs.getD i 0) (shl64 ((shl64 1 m) - 1) n)]) [2, 3, 4, 6, 7, 8] (some [0, 1, 2, 3]) _ (by kernel_rfl) (by kernel_rfl) ⟨(by omega), (by exact stX_step (by omega))⟩ (by show (xs.length - (i + 1)) < (xs.length - i); omega)))
  · refine R.go 7 (R.loop ((fun | (j, o2) => (⟨(frm 59 [(3, .ptr 0 0), (4, .ptr 1 0), (6, .ptr 2 0), (7, .ref 3), (10, AI (j : Int))]), [.box 26 [AI n, LI xs], .box 26 [AI m, LI ys], .box 26 [AI 0, .nil], rowA eI 2 1 o2]⟩ : St) : Nat × (List Int) → St)) (fun | (j, o2) => (j ≤ ys.length) ∧ (o2 = stY n xs m ys j)) (fun | (j, o2) => ys.length - j) (0, (stX n xs m i)) [3, 4, 6, 7, 10] none (by kernel_rfl) (by kernel_rfl) (by kernel_rfl) ⟨(by omega), (by exact stY_zero (by omega))⟩ ?_)
    rintro ⟨j, o2⟩ ⟨h9_1, rfl⟩ R6 N7
    have hol2 := stY_len (n := n) (m := m) (xs := xs) (ys := ys) (j := j) (by assumption)
    refine R.go 9 (R.cond ((j : Int) < (ys.length : Int)) (by kernel_rfl) (fun c10 => ?_) (fun c10 => ?_))
    · refine R.go 8 (R.idx eI ys 0 j (j : Int) (by kernel_rfl) rfl eI_len (by omega) (by kernel_rfl) ?_)
      refine R.go 3 (R.cv .u64 n (by kernel_rfl) (u64_id (by omega) (by omega)) (by kernel_rfl) ?_)
      refine R.shl (ys.getD j 0) n (by kernel_rfl) (by omega) (by kernel_rfl) ?_
      refine R.go 1 (R.app eI (stY n xs m ys j) [shl64 (ys.getD j 0) n] 3 2 1 8 (by kernel_rfl) eI_one (by decide) (by first | omega | (simp <;> omega)) (by kernel_rfl) ?_)
      refine R.go 5 (R.ar ((j : Int) + 1) (by kernel_rfl) (by omega) (by omega) (by kernel_rfl) ?_)
      exact R.go 2 (R.stop R6 (by kernel_rfl) (N7 (j + 1, (stY n xs m ys j) ++ [shl64 (ys.getD j 0) n]) [3, 4, 6, 7, 10] (some [0, 1, 2, 3]) _ (by kernel_rfl) (by kernel_rfl) ⟨(by omega), (by exact stY_step (by omega))⟩ (by show (ys.length - (j + 1)) < (ys.length - j); omega)))
    · refine R.go 4 (R.call false (l16Make_c (stY n xs m ys j) (by first | omega | (simp <;> omega))) (by kernel_rfl) (by simp [AV.closed, closedL, AI, ownA_closed eI_closed]) (by kernel_rfl) ?_)
      exact R.go 2 (R.retE (.agg [AI ((stY n xs m ys j).length), ownA eI 2 1 (stY n xs m ys j)]) (by kernel_rfl) (by kernel_rfl) (by first | (rw [hol2, stY_end (show j = ys.length by omega), show ((xs.length + j : Nat) : Int) = n + m by omega]) | (exfalso; omega)))

theorem ST_spec (n : Int) (xs : List Int) (m : Int) (ys : List Int) (lx : xs.length ≤ 1048576) (ly : ys.length ≤ 1048576) : CallA Try.prog 11 [.agg [AI n, LI xs], .agg [AI m, LI ys]] (.tup [.agg [AI (stN n xs m ys), ownA eI 2 1 (stR n xs m ys)], AI (stC n xs m ys)]) := by
  refine CallA.of Try.func11 rfl (by kernel_rfl) ?_
  refine R.go 11 (R.call true (l16Two_c n xs m ys lx ly) (by kernel_rfl) rfl (by kernel_rfl) ?_)
  refine R.go 8 (R.condN ((stC n xs m ys) = 0) (by kernel_rfl) (fun c1 => ?_) (fun c1 => ?_))
  · refine R.go 7 (R.nilB 2 1 2 1 (by kernel_rfl) ?_)
    exact R.retE (.tup [.agg [AI 0, ownA eI 2 1 []], AI (stC n xs m ys)]) (by kernel_rfl) (by kernel_rfl) (by first | (first | exact st_bad rfl (by assumption) | exact st_ok hc0 rfl rfl) | (exfalso; omega))
  · have hc0 : stC n xs m ys = 0 := by assumption
    have hst := stc_ok hc0
    have hP : okPo n xs = true := hst.1
    have hQ : okPo m ys = true := hst.2.1
    have hs8 : n + m ≤ 8 := hst.2.2
    refine R.go 5 (R.call true (l16Join_c n xs m ys hP hQ hs8) (by kernel_rfl) rfl (by kernel_rfl) ?_)
    exact R.go 3 (R.retE (.tup [.agg [AI (n + m), ownA eI 2 1 (stL n xs m ys)], AI 0]) (by kernel_rfl) (by kernel_rfl) (by first | (first | exact st_bad rfl (by assumption) | exact st_ok hc0 rfl rfl) | (exfalso; omega)))

theorem summed_c (n : Int) (xs : List Int) (m : Int) (ys : List Int) (lx : xs.length ≤ 1048576) (ly : ys.length ≤ 1048576) : CallA Try.prog 43 [.agg [AI n, LI xs], .agg [AI m, LI ys], AI ((shl64 1 m) - 1)] (.tup [.agg [AI (stN n xs m ys), ownA eI 2 1 (stR n xs m ys)], AI (stC n xs m ys)]) := by
  have hp := fun h : okPo n xs = true => okFr_rel (okPo_fr h)
  have hq := fun h : okPo m ys = true => okFr_rel (okPo_fr h)
  refine CallA.of Try.func43 rfl (by kernel_rfl) ?_
  refine R.go 12 (R.call true (isPoset_c n xs (by first | omega | (have h2 := hq (by assumption); omega) | (have h1 := hp (by assumption); omega) | (have h1 := hp (by assumption); have h2 := hq (by assumption); omega))) (by kernel_rfl) rfl (by kernel_rfl) ?_)
  refine R.go 2 ?_
  refine (Bool.eq_false_or_eq_true (okPo n xs)).elim (fun c1 => ?_) (fun c1 => ?_)
  · refine R.want (!(okPo n xs)) false (by kernel_rfl) (bnF c1) ?_
    refine R.go 1 (R.want (!(okPo n xs)) false (by kernel_rfl) (bnF c1) ?_)
    refine R.call true (isPoset_c m ys (by first | omega | (have h2 := hq (by assumption); omega) | (have h1 := hp (by assumption); omega) | (have h1 := hp (by assumption); have h2 := hq (by assumption); omega))) (by kernel_rfl) rfl (by kernel_rfl) ?_
    refine R.want (!(okPo n xs)) false (by kernel_rfl) (bnF c1) ?_
    refine R.go 1 (R.pick (!(okPo n xs)) false (by kernel_rfl) (bnF c1) (by kernel_rfl) ?_)
    refine R.go 2 (R.condM (okPo m ys) (by kernel_rfl) (fun c2 => ?_) (fun c2 => ?_))
    · refine R.go 6 (R.nilB 2 1 2 1 (by kernel_rfl) ?_)
      exact R.retE (.tup [.agg [AI 0, ownA eI 2 1 []], AI 1]) (by kernel_rfl) (by kernel_rfl) (by first | (first | exact st_bad (st_1 (by simp_all)) (by decide) | exact st_bad (st_3 (by assumption) (by assumption) (by assumption)) (by decide) | exact st_ok hc0 (by rw [hol2]; omega) (stY_end (by omega))) | (exfalso; omega))
    · refine R.go 6 (R.ar (n + m) (by kernel_rfl) (by first | omega | (have h2 := hq (by assumption); omega) | (have h1 := hp (by assumption); omega) | (have h1 := hp (by assumption); have h2 := hq (by assumption); omega)) (by first | omega | (have h2 := hq (by assumption); omega) | (have h1 := hp (by assumption); omega) | (have h1 := hp (by assumption); have h2 := hq (by assumption); omega)) (by kernel_rfl) ?_)
      refine R.go 3 (R.cond ((n + m) > 8) (by kernel_rfl) (fun c3 => ?_) (fun c3 => ?_))
      · refine R.go 6 (R.nilB 2 1 2 1 (by kernel_rfl) ?_)
        exact R.retE (.tup [.agg [AI 0, ownA eI 2 1 []], AI 3]) (by kernel_rfl) (by kernel_rfl) (by first | (first | exact st_bad (st_1 (by simp_all)) (by decide) | exact st_bad (st_3 (by assumption) (by assumption) (by assumption)) (by decide) | exact st_ok hc0 (by rw [hol2]; omega) (stY_end (by omega))) | (exfalso; omega))
      · have hc0 : stC n xs m ys = 0 := st_0 (by assumption) (by assumption) (by assumption)
        have hp1 := hp (by assumption)
        have hq1 := hq (by assumption)
        have hb : 0 ≤ n ∧ n ≤ 8 ∧ (xs.length : Int) = n ∧ 0 ≤ m ∧ m ≤ 8 ∧ (ys.length : Int) = m := ⟨hp1.1, hp1.2.1, hp1.2.2.1, hq1.1, hq1.2.1, hq1.2.2.1⟩
        refine R.go 15 (R.nil 8 2 1 (by kernel_rfl) ?_)
        refine R.loop ((fun | (i, out) => (⟨(frm 65 [(2, AI ((shl64 1 m) - 1)), (3, .ptr 0 0), (4, .ptr 1 0), (6, .ptr 2 0), (8, .ref 3), (32, LI xs), (33, AI xs.length), (34, AI (i : Int))]), [.box 26 [AI n, LI xs], .box 26 [AI m, LI ys], .box 26 [AI 0, .nil], rowA eI 2 1 out]⟩ : St) : Nat × (List Int) → St)) (fun | (i, out) => (i ≤ xs.length) ∧ (out = stX n xs m i)) (fun | (i, out) => xs.length - i) (0, []) [2, 3, 4, 6, 8, 32, 33, 34] none (by kernel_rfl) (by kernel_rfl) (by kernel_rfl) ⟨(by omega), (by rfl)⟩ ?_
        rintro ⟨i, out⟩ ⟨h7_1, rfl⟩ R4 N5
        have hol := stX_len (n := n) (m := m) (xs := xs) (i := i) (by assumption)
        refine R.go 5 (R.cond ((i : Int) < (xs.length : Int)) (by kernel_rfl) (fun c8 => ?_) (fun c8 => ?_))
        · refine R.go 5 (R.idx eI xs 0 i (i : Int) (by kernel_rfl) rfl eI_len (by first | omega | (have h2 := hq (by assumption); omega) | (have h1 := hp (by assumption); omega) | (have h1 := hp (by assumption); have h2 := hq (by assumption); omega)) (by kernel_rfl) ?_)
          refine R.go 9 (R.shl ((shl64 1 m) - 1) n (by kernel_rfl) (by first | omega | (have h2 := hq (by assumption); omega) | (have h1 := hp (by assumption); omega) | (have h1 := hp (by assumption); have h2 := hq (by assumption); omega)) (by kernel_rfl) ?_)
          refine R.go 2 (R.app eI (stX n xs m i) [bor (xs.getD i 0) (shl64 ((shl64 1 m) - 1) n)] 3 2 1 8 (by kernel_rfl) eI_one (by decide) (by first | omega | (simp <;> omega)) (by kernel_rfl) ?_)
          refine R.go 4 (R.ar ((i : Int) + 1) (by kernel_rfl) (by first | omega | (have h2 := hq (by assumption); omega) | (have h1 := hp (by assumption); omega) | (have h1 := hp (by assumption); have h2 := hq (by assumption); omega)) (by first | omega | (have h2 := hq (by assumption); omega) | (have h1 := hp (by assumption); omega) | (have h1 := hp (by assumption); have h2 := hq (by assumption); omega)) (by kernel_rfl) ?_)
          exact R.go 2 (R.stop R4 (by kernel_rfl) (N5 (i + 1, (stX n xs m i) ++ [bor (xs.getD i 0) (shl64 ((shl64 1 m) - 1) n)]) [2, 3, 4, 6, 8, 32, 33, 34] (some [0, 1, 2, 3]) _ (by kernel_rfl) (by kernel_rfl) ⟨(by omega), (by exact stX_step (by omega))⟩ (by show (xs.length - (i + 1)) < (xs.length - i); omega)))
        · refine R.go 10 (R.loop ((fun | (j, o2) => (⟨(frm 65 [(3, .ptr 0 0), (6, .ptr 1 0), (8, .ref 2), (49, LI ys), (50, AI ys.length), (51, AI (j : Int))]), [.box 26 [AI n, LI xs], .box 26 [AI 0, .nil], rowA eI 2 1 o2]⟩ : St) : Nat × (List Int) → St)) (fun | (j, o2) => (j ≤ ys.length) ∧ (o2 = stY n xs m ys j)) (fun | (j, o2) => ys.length - j) (0, (stX n xs m i)) [3, 6, 8, 49, 50, 51] (some [0, 2, 3]) (by kernel_rfl) (by kernel_rfl) (by kernel_rfl) ⟨(by omega), (by exact stY_zero (by omega))⟩ ?_)
          rintro ⟨j, o2⟩ ⟨h12_1, rfl⟩ R9 N10
          have hol2 := stY_len (n := n) (m := m) (xs := xs) (ys := ys) (j := j) (by assumption)
          refine R.go 5 (R.cond ((j : Int) < (ys.length : Int)) (by kernel_rfl) (fun c13 => ?_) (fun c13 => ?_))
          · refine R.go 5 (R.idx eI ys 0 j (j : Int) (by kernel_rfl) rfl eI_len (by first | omega | (have h2 := hq (by assumption); omega) | (have h1 := hp (by assumption); omega) | (have h1 := hp (by assumption); have h2 := hq (by assumption); omega)) (by kernel_rfl) ?_)
            refine R.go 8 (R.shl (ys.getD j 0) n (by kernel_rfl) (by first | omega | (have h2 := hq (by assumption); omega) | (have h1 := hp (by assumption); omega) | (have h1 := hp (by assumption); have h2 := hq (by assumption); omega)) (by kernel_rfl) ?_)
            refine R.go 1 (R.app eI (stY n xs m ys j) [shl64 (ys.getD j 0) n] 2 2 1 8 (by kernel_rfl) eI_one (by decide) (by first | omega | (simp <;> omega)) (by kernel_rfl) ?_)
            refine R.go 4 (R.ar ((j : Int) + 1) (by kernel_rfl) (by first | omega | (have h2 := hq (by assumption); omega) | (have h1 := hp (by assumption); omega) | (have h1 := hp (by assumption); have h2 := hq (by assumption); omega)) (by first | omega | (have h2 := hq (by assumption); omega) | (have h1 := hp (by assumption); omega) | (have h1 := hp (by assumption); have h2 := hq (by assumption); omega)) (by kernel_rfl) ?_)
            exact R.go 2 (R.stop R9 (by kernel_rfl) (N10 (j + 1, (stY n xs m ys j) ++ [shl64 (ys.getD j 0) n]) [3, 6, 8, 49, 50, 51] (some [0, 1, 2]) _ (by kernel_rfl) (by kernel_rfl) ⟨(by omega), (by exact stY_step (by omega))⟩ (by show (ys.length - (j + 1)) < (ys.length - j); omega)))
          · refine R.go 4 (R.enter (avs := [.ref 2]) Try.func61 rfl (by kernel_rfl) (by kernel_rfl) (by kernel_rfl) ?_)
            intro us14
            refine R.go 7 (R.call false (size_c (stY n xs m ys j)) (by kernel_rfl) rfl (by kernel_rfl) ?_)
            refine R.go 4 (R.back (.agg [AI ((stY n xs m ys j).length), .ref 2]) (frm 65 [(3, .ptr 0 0), (6, .ptr 1 0), (8, .ref 2), (49, LI ys), (50, AI ys.length), (51, AI (j : Int)), (52, .bool (decide ((j : Int) < (ys.length : Int)))), (63, .ref 2)]) (by kernel_rfl) (by kernel_rfl) (by kernel_rfl) ?_)
            exact R.go 3 (R.retE (.tup [.agg [AI ((stY n xs m ys j).length), ownA eI 2 1 (stY n xs m ys j)], AI 0]) (by kernel_rfl) (by kernel_rfl) (by first | (first | exact st_bad (st_1 (by simp_all)) (by decide) | exact st_bad (st_3 (by assumption) (by assumption) (by assumption)) (by decide) | exact st_ok hc0 (by rw [hol2]; omega) (stY_end (by omega))) | (exfalso; omega)))
  · refine R.skp (!(okPo n xs)) false (by kernel_rfl) (bnT c1) (by kernel_rfl) ?_
    refine R.skp (!(okPo n xs)) false (by kernel_rfl) (bnT c1) (by kernel_rfl) ?_
    refine R.skp (!(okPo n xs)) false (by kernel_rfl) (bnT c1) (by kernel_rfl) ?_
    refine R.pick (!(okPo n xs)) true (by kernel_rfl) (bnT c1) (by kernel_rfl) ?_
    refine R.go 9 (R.nilB 2 1 2 1 (by kernel_rfl) ?_)
    exact R.retE (.tup [.agg [AI 0, ownA eI 2 1 []], AI 1]) (by kernel_rfl) (by kernel_rfl) (by first | (first | exact st_bad (st_1 (by simp_all)) (by decide) | exact st_bad (st_3 (by assumption) (by assumption) (by assumption)) (by decide) | exact st_ok hc0 (by rw [hol2]; omega) (stY_end (by omega))) | (exfalso; omega))

set_option maxHeartbeats 4000000 in
theorem ST_impl (n : Int) (xs : List Int) (m : Int) (ys : List Int) (lx : xs.length ≤ 1048576) (ly : ys.length ≤ 1048576) : CallA Try.prog 13 [.agg [AI n, LI xs], .agg [AI m, LI ys]] (.tup [.agg [AI (stN n xs m ys), ownA eI 2 1 (stR n xs m ys)], AI (stC n xs m ys)]) := by
  have hp := fun h : okPo n xs = true => okFr_rel (okPo_fr h)
  have hq := fun h : okPo m ys = true => okFr_rel (okPo_fr h)
  refine CallA.of Try.func13 rfl (by kernel_rfl) ?_
  refine R.go 11 (R.call true (isPoset_c m ys (by first | omega | (have h2 := hq (by assumption); omega) | (have h1 := hp (by assumption); omega) | (have h1 := hp (by assumption); have h2 := hq (by assumption); omega))) (by kernel_rfl) rfl (by kernel_rfl) ?_)
  refine R.go 2 (R.condM (okPo m ys) (by kernel_rfl) (fun c1 => ?_) (fun c1 => ?_))
  · refine R.go 6 (R.nilB 2 1 2 1 (by kernel_rfl) ?_)
    exact R.retE (.tup [.agg [AI 0, ownA eI 2 1 []], AI 1]) (by kernel_rfl) (by kernel_rfl) (by first | (first | rfl | exact st_bad (st_1 (by simp_all)) (by decide)) | (exfalso; omega))
  · refine R.go 2 (R.meet (⟨(frm 17 [(0, .agg [AI n, LI xs]), (1, .agg [AI m, LI ys]), (2, .ptr 0 0), (3, .ptr 1 0), (4, .ptr 2 0), (5, AI (stC n xs m ys)), (6, .agg [AI m, LI ys]), (7, .bool (okPo m ys)), (8, .bool (!(okPo m ys))), (10, .agg [AI n, LI xs]), (11, .agg [AI m, LI ys]), (12, .agg [AI m, LI ys]), (13, AI ((shl64 1 m) - 1)), (14, .tup [.agg [AI (stN n xs m ys), .ref 3], AI (stC n xs m ys)]), (15, .agg [AI (stN n xs m ys), .ref 3]), (16, AI (stC n xs m ys))]), [.box 26 [AI n, LI xs], .box 26 [AI m, LI ys], .box 26 [AI (stN n xs m ys), .ref 3], rowA eI 2 1 (stR n xs m ys)]⟩ : St) (by kernel_rfl) ?_ ?_)
    · refine R.any (by decide +kernel) (by kernel_rfl) ?_
      refine R.any3 0 1 2 (by kernel_rfl) (by kernel_rfl) ?_ ?_ ?_
      · refine R.go 2 (R.any2 1 2 (by kernel_rfl) (by kernel_rfl) ?_ ?_)
        · refine R.go 2 (R.any1 2 (by kernel_rfl) (by kernel_rfl) ?_)
          refine R.go 2 (R.any1 3 (by kernel_rfl) (by kernel_rfl) ?_)
          refine R.call true (pAll_c m ys (by first | omega | (have h2 := hq (by assumption); omega) | (have h1 := hp (by assumption); omega) | (have h1 := hp (by assumption); have h2 := hq (by assumption); omega)) (by first | omega | (have h2 := hq (by assumption); omega) | (have h1 := hp (by assumption); omega) | (have h1 := hp (by assumption); have h2 := hq (by assumption); omega))) (by kernel_rfl) rfl (by kernel_rfl) ?_
          refine R.go 1 (R.any1 4 (by kernel_rfl) (by kernel_rfl) ?_)
          refine R.call true (summed_c n xs m ys lx ly) (by kernel_rfl) rfl (by kernel_rfl) ?_
          refine R.go 1 (R.anyX 5 (.agg [AI (stN n xs m ys), .ref 3]) (by kernel_rfl) (np_meet _) ?_)
          refine R.anyX 6 (AI (stC n xs m ys)) (by kernel_rfl) (np_meet _) ?_
          refine R.any1 7 (by kernel_rfl) (by kernel_rfl) ?_
          refine R.go 2 (R.any1 8 (by kernel_rfl) (by kernel_rfl) ?_)
          refine R.go 2 (R.any0 (by kernel_rfl) ?_)
          exact R.met (by kernel_rfl) (by kernel_rfl)
        · refine R.go 2 (R.any2 1 3 (by kernel_rfl) (by kernel_rfl) ?_ ?_)
          · refine R.go 2 (R.any1 3 (by kernel_rfl) (by kernel_rfl) ?_)
            refine R.call true (pAll_c m ys (by first | omega | (have h2 := hq (by assumption); omega) | (have h1 := hp (by assumption); omega) | (have h1 := hp (by assumption); have h2 := hq (by assumption); omega)) (by first | omega | (have h2 := hq (by assumption); omega) | (have h1 := hp (by assumption); omega) | (have h1 := hp (by assumption); have h2 := hq (by assumption); omega))) (by kernel_rfl) rfl (by kernel_rfl) ?_
            refine R.go 1 (R.any1 4 (by kernel_rfl) (by kernel_rfl) ?_)
            refine R.call true (summed_c n xs m ys lx ly) (by kernel_rfl) rfl (by kernel_rfl) ?_
            refine R.go 1 (R.anyX 5 (.agg [AI (stN n xs m ys), .ref 3]) (by kernel_rfl) (np_meet _) ?_)
            refine R.anyX 6 (AI (stC n xs m ys)) (by kernel_rfl) (np_meet _) ?_
            refine R.any1 7 (by kernel_rfl) (by kernel_rfl) ?_
            refine R.go 2 (R.any1 8 (by kernel_rfl) (by kernel_rfl) ?_)
            refine R.go 2 (R.any0 (by kernel_rfl) ?_)
            exact R.met (by kernel_rfl) (by kernel_rfl)
          · refine R.call true (pAll_c m ys (by first | omega | (have h2 := hq (by assumption); omega) | (have h1 := hp (by assumption); omega) | (have h1 := hp (by assumption); have h2 := hq (by assumption); omega)) (by first | omega | (have h2 := hq (by assumption); omega) | (have h1 := hp (by assumption); omega) | (have h1 := hp (by assumption); have h2 := hq (by assumption); omega))) (by kernel_rfl) rfl (by kernel_rfl) ?_
            refine R.go 1 (R.any1 1 (by kernel_rfl) (by kernel_rfl) ?_)
            refine R.go 2 (R.any1 4 (by kernel_rfl) (by kernel_rfl) ?_)
            refine R.call true (summed_c n xs m ys lx ly) (by kernel_rfl) rfl (by kernel_rfl) ?_
            refine R.go 1 (R.anyX 5 (.agg [AI (stN n xs m ys), .ref 3]) (by kernel_rfl) (np_meet _) ?_)
            refine R.anyX 6 (AI (stC n xs m ys)) (by kernel_rfl) (np_meet _) ?_
            refine R.any1 7 (by kernel_rfl) (by kernel_rfl) ?_
            refine R.go 2 (R.any1 8 (by kernel_rfl) (by kernel_rfl) ?_)
            refine R.go 2 (R.any0 (by kernel_rfl) ?_)
            exact R.met (by kernel_rfl) (by kernel_rfl)
      · refine R.go 2 (R.any2 0 2 (by kernel_rfl) (by kernel_rfl) ?_ ?_)
        · refine R.go 2 (R.any1 2 (by kernel_rfl) (by kernel_rfl) ?_)
          refine R.go 2 (R.any1 3 (by kernel_rfl) (by kernel_rfl) ?_)
          refine R.call true (pAll_c m ys (by first | omega | (have h2 := hq (by assumption); omega) | (have h1 := hp (by assumption); omega) | (have h1 := hp (by assumption); have h2 := hq (by assumption); omega)) (by first | omega | (have h2 := hq (by assumption); omega) | (have h1 := hp (by assumption); omega) | (have h1 := hp (by assumption); have h2 := hq (by assumption); omega))) (by kernel_rfl) rfl (by kernel_rfl) ?_
          refine R.go 1 (R.any1 4 (by kernel_rfl) (by kernel_rfl) ?_)
          refine R.call true (summed_c n xs m ys lx ly) (by kernel_rfl) rfl (by kernel_rfl) ?_
          refine R.go 1 (R.anyX 5 (.agg [AI (stN n xs m ys), .ref 3]) (by kernel_rfl) (np_meet _) ?_)
          refine R.anyX 6 (AI (stC n xs m ys)) (by kernel_rfl) (np_meet _) ?_
          refine R.any1 7 (by kernel_rfl) (by kernel_rfl) ?_
          refine R.go 2 (R.any1 8 (by kernel_rfl) (by kernel_rfl) ?_)
          refine R.go 2 (R.any0 (by kernel_rfl) ?_)
          exact R.met (by kernel_rfl) (by kernel_rfl)
        · refine R.go 2 (R.any2 0 3 (by kernel_rfl) (by kernel_rfl) ?_ ?_)
          · refine R.go 2 (R.any1 3 (by kernel_rfl) (by kernel_rfl) ?_)
            refine R.call true (pAll_c m ys (by first | omega | (have h2 := hq (by assumption); omega) | (have h1 := hp (by assumption); omega) | (have h1 := hp (by assumption); have h2 := hq (by assumption); omega)) (by first | omega | (have h2 := hq (by assumption); omega) | (have h1 := hp (by assumption); omega) | (have h1 := hp (by assumption); have h2 := hq (by assumption); omega))) (by kernel_rfl) rfl (by kernel_rfl) ?_
            refine R.go 1 (R.any1 4 (by kernel_rfl) (by kernel_rfl) ?_)
            refine R.call true (summed_c n xs m ys lx ly) (by kernel_rfl) rfl (by kernel_rfl) ?_
            refine R.go 1 (R.anyX 5 (.agg [AI (stN n xs m ys), .ref 3]) (by kernel_rfl) (np_meet _) ?_)
            refine R.anyX 6 (AI (stC n xs m ys)) (by kernel_rfl) (np_meet _) ?_
            refine R.any1 7 (by kernel_rfl) (by kernel_rfl) ?_
            refine R.go 2 (R.any1 8 (by kernel_rfl) (by kernel_rfl) ?_)
            refine R.go 2 (R.any0 (by kernel_rfl) ?_)
            exact R.met (by kernel_rfl) (by kernel_rfl)
          · refine R.call true (pAll_c m ys (by first | omega | (have h2 := hq (by assumption); omega) | (have h1 := hp (by assumption); omega) | (have h1 := hp (by assumption); have h2 := hq (by assumption); omega)) (by first | omega | (have h2 := hq (by assumption); omega) | (have h1 := hp (by assumption); omega) | (have h1 := hp (by assumption); have h2 := hq (by assumption); omega))) (by kernel_rfl) rfl (by kernel_rfl) ?_
            refine R.go 1 (R.any1 0 (by kernel_rfl) (by kernel_rfl) ?_)
            refine R.go 2 (R.any1 4 (by kernel_rfl) (by kernel_rfl) ?_)
            refine R.call true (summed_c n xs m ys lx ly) (by kernel_rfl) rfl (by kernel_rfl) ?_
            refine R.go 1 (R.anyX 5 (.agg [AI (stN n xs m ys), .ref 3]) (by kernel_rfl) (np_meet _) ?_)
            refine R.anyX 6 (AI (stC n xs m ys)) (by kernel_rfl) (np_meet _) ?_
            refine R.any1 7 (by kernel_rfl) (by kernel_rfl) ?_
            refine R.go 2 (R.any1 8 (by kernel_rfl) (by kernel_rfl) ?_)
            refine R.go 2 (R.any0 (by kernel_rfl) ?_)
            exact R.met (by kernel_rfl) (by kernel_rfl)
      · refine R.go 2 (R.any3 0 1 3 (by kernel_rfl) (by kernel_rfl) ?_ ?_ ?_)
        · refine R.go 2 (R.any2 1 3 (by kernel_rfl) (by kernel_rfl) ?_ ?_)
          · refine R.go 2 (R.any1 3 (by kernel_rfl) (by kernel_rfl) ?_)
            refine R.call true (pAll_c m ys (by first | omega | (have h2 := hq (by assumption); omega) | (have h1 := hp (by assumption); omega) | (have h1 := hp (by assumption); have h2 := hq (by assumption); omega)) (by first | omega | (have h2 := hq (by assumption); omega) | (have h1 := hp (by assumption); omega) | (have h1 := hp (by assumption); have h2 := hq (by assumption); omega))) (by kernel_rfl) rfl (by kernel_rfl) ?_
            refine R.go 1 (R.any1 4 (by kernel_rfl) (by kernel_rfl) ?_)
            refine R.call true (summed_c n xs m ys lx ly) (by kernel_rfl) rfl (by kernel_rfl) ?_
            refine R.go 1 (R.anyX 5 (.agg [AI (stN n xs m ys), .ref 3]) (by kernel_rfl) (np_meet _) ?_)
            refine R.anyX 6 (AI (stC n xs m ys)) (by kernel_rfl) (np_meet _) ?_
            refine R.any1 7 (by kernel_rfl) (by kernel_rfl) ?_
            refine R.go 2 (R.any1 8 (by kernel_rfl) (by kernel_rfl) ?_)
            refine R.go 2 (R.any0 (by kernel_rfl) ?_)
            exact R.met (by kernel_rfl) (by kernel_rfl)
          · refine R.call true (pAll_c m ys (by first | omega | (have h2 := hq (by assumption); omega) | (have h1 := hp (by assumption); omega) | (have h1 := hp (by assumption); have h2 := hq (by assumption); omega)) (by first | omega | (have h2 := hq (by assumption); omega) | (have h1 := hp (by assumption); omega) | (have h1 := hp (by assumption); have h2 := hq (by assumption); omega))) (by kernel_rfl) rfl (by kernel_rfl) ?_
            refine R.go 1 (R.any1 1 (by kernel_rfl) (by kernel_rfl) ?_)
            refine R.go 2 (R.any1 4 (by kernel_rfl) (by kernel_rfl) ?_)
            refine R.call true (summed_c n xs m ys lx ly) (by kernel_rfl) rfl (by kernel_rfl) ?_
            refine R.go 1 (R.anyX 5 (.agg [AI (stN n xs m ys), .ref 3]) (by kernel_rfl) (np_meet _) ?_)
            refine R.anyX 6 (AI (stC n xs m ys)) (by kernel_rfl) (np_meet _) ?_
            refine R.any1 7 (by kernel_rfl) (by kernel_rfl) ?_
            refine R.go 2 (R.any1 8 (by kernel_rfl) (by kernel_rfl) ?_)
            refine R.go 2 (R.any0 (by kernel_rfl) ?_)
            exact R.met (by kernel_rfl) (by kernel_rfl)
        · refine R.go 2 (R.any2 0 3 (by kernel_rfl) (by kernel_rfl) ?_ ?_)
          · refine R.go 2 (R.any1 3 (by kernel_rfl) (by kernel_rfl) ?_)
            refine R.call true (pAll_c m ys (by first | omega | (have h2 := hq (by assumption); omega) | (have h1 := hp (by assumption); omega) | (have h1 := hp (by assumption); have h2 := hq (by assumption); omega)) (by first | omega | (have h2 := hq (by assumption); omega) | (have h1 := hp (by assumption); omega) | (have h1 := hp (by assumption); have h2 := hq (by assumption); omega))) (by kernel_rfl) rfl (by kernel_rfl) ?_
            refine R.go 1 (R.any1 4 (by kernel_rfl) (by kernel_rfl) ?_)
            refine R.call true (summed_c n xs m ys lx ly) (by kernel_rfl) rfl (by kernel_rfl) ?_
            refine R.go 1 (R.anyX 5 (.agg [AI (stN n xs m ys), .ref 3]) (by kernel_rfl) (np_meet _) ?_)
            refine R.anyX 6 (AI (stC n xs m ys)) (by kernel_rfl) (np_meet _) ?_
            refine R.any1 7 (by kernel_rfl) (by kernel_rfl) ?_
            refine R.go 2 (R.any1 8 (by kernel_rfl) (by kernel_rfl) ?_)
            refine R.go 2 (R.any0 (by kernel_rfl) ?_)
            exact R.met (by kernel_rfl) (by kernel_rfl)
          · refine R.call true (pAll_c m ys (by first | omega | (have h2 := hq (by assumption); omega) | (have h1 := hp (by assumption); omega) | (have h1 := hp (by assumption); have h2 := hq (by assumption); omega)) (by first | omega | (have h2 := hq (by assumption); omega) | (have h1 := hp (by assumption); omega) | (have h1 := hp (by assumption); have h2 := hq (by assumption); omega))) (by kernel_rfl) rfl (by kernel_rfl) ?_
            refine R.go 1 (R.any1 0 (by kernel_rfl) (by kernel_rfl) ?_)
            refine R.go 2 (R.any1 4 (by kernel_rfl) (by kernel_rfl) ?_)
            refine R.call true (summed_c n xs m ys lx ly) (by kernel_rfl) rfl (by kernel_rfl) ?_
            refine R.go 1 (R.anyX 5 (.agg [AI (stN n xs m ys), .ref 3]) (by kernel_rfl) (np_meet _) ?_)
            refine R.anyX 6 (AI (stC n xs m ys)) (by kernel_rfl) (np_meet _) ?_
            refine R.any1 7 (by kernel_rfl) (by kernel_rfl) ?_
            refine R.go 2 (R.any1 8 (by kernel_rfl) (by kernel_rfl) ?_)
            refine R.go 2 (R.any0 (by kernel_rfl) ?_)
            exact R.met (by kernel_rfl) (by kernel_rfl)
        · refine R.call true (pAll_c m ys (by first | omega | (have h2 := hq (by assumption); omega) | (have h1 := hp (by assumption); omega) | (have h1 := hp (by assumption); have h2 := hq (by assumption); omega)) (by first | omega | (have h2 := hq (by assumption); omega) | (have h1 := hp (by assumption); omega) | (have h1 := hp (by assumption); have h2 := hq (by assumption); omega))) (by kernel_rfl) rfl (by kernel_rfl) ?_
          refine R.go 1 (R.any2 0 1 (by kernel_rfl) (by kernel_rfl) ?_ ?_)
          · refine R.go 2 (R.any1 1 (by kernel_rfl) (by kernel_rfl) ?_)
            refine R.go 2 (R.any1 4 (by kernel_rfl) (by kernel_rfl) ?_)
            refine R.call true (summed_c n xs m ys lx ly) (by kernel_rfl) rfl (by kernel_rfl) ?_
            refine R.go 1 (R.anyX 5 (.agg [AI (stN n xs m ys), .ref 3]) (by kernel_rfl) (np_meet _) ?_)
            refine R.anyX 6 (AI (stC n xs m ys)) (by kernel_rfl) (np_meet _) ?_
            refine R.any1 7 (by kernel_rfl) (by kernel_rfl) ?_
            refine R.go 2 (R.any1 8 (by kernel_rfl) (by kernel_rfl) ?_)
            refine R.go 2 (R.any0 (by kernel_rfl) ?_)
            exact R.met (by kernel_rfl) (by kernel_rfl)
          · refine R.go 2 (R.any1 0 (by kernel_rfl) (by kernel_rfl) ?_)
            refine R.go 2 (R.any1 4 (by kernel_rfl) (by kernel_rfl) ?_)
            refine R.call true (summed_c n xs m ys lx ly) (by kernel_rfl) rfl (by kernel_rfl) ?_
            refine R.go 1 (R.anyX 5 (.agg [AI (stN n xs m ys), .ref 3]) (by kernel_rfl) (np_meet _) ?_)
            refine R.anyX 6 (AI (stC n xs m ys)) (by kernel_rfl) (np_meet _) ?_
            refine R.any1 7 (by kernel_rfl) (by kernel_rfl) ?_
            refine R.go 2 (R.any1 8 (by kernel_rfl) (by kernel_rfl) ?_)
            refine R.go 2 (R.any0 (by kernel_rfl) ?_)
            exact R.met (by kernel_rfl) (by kernel_rfl)
    · exact R.retE (.tup [.agg [AI (stN n xs m ys), ownA eI 2 1 (stR n xs m ys)], AI (stC n xs m ys)]) (by kernel_rfl) (by kernel_rfl) (by rfl)

end Go.Proofs.Ytkanjgmocmhlkaa
