/- JoinIndices of both packages and its law. -/
import Derived.Test.YtfkdkhlimdkehaaGreatS20c
namespace Go.Proofs.YtfkdkhlimdkehaaGreat
open Go.RowKit Go.Abs

/-- The implication on the ladder. -/
def impI (a b : Int) : Int := boxB (lad 28) (bor (bnot ((shl64 1 28) - 1) a) b) 28
theorem lad_rng : ∀ x ∈ lad 28, IntKind.i64.wrap x = x := by decide +kernel
def setsA : List Int := [268435455, 0, 1, 2, 3, 5, 7, 11, 15, 23, 31, 47, 63, 95, 127, 191, 255, 383, 511, 767, 1023, 1535, 2047, 3071, 4095, 6143, 8191, 12287, 16383, 24575, 32767, 49151, 65535, 98303, 131071, 196607, 262143, 393215, 524287, 786431, 1048575, 1572863]
def setsS : List Int := [268435455, 0, 1, 2, 3, 5, 7, 11, 15, 23, 31, 47, 63, 95, 127, 191, 255, 383, 511, 767, 1023, 1535, 2047, 3071, 4095, 6143, 8191, 12287, 16383, 24575, 32767, 49151, 65535, 98303, 131071, 196607, 262143, 393215, 524287, 786431, 1048575, 1572863, 2097151, 3145727, 4194303, 6291455, 8388607, 12582911, 16777215, 25165823, 33554431, 50331647, 67108863, 100663295, 134217727]
theorem setsA_eq : (List.range 42).map (fun i : Nat => setI ((i : Int) - 1)) = setsA := by decide +kernel
theorem setsS_ok : ∀ m ∈ setsS, okM m = true := by decide +kernel
theorem join_lits : (setsA.all fun a => setsA.all fun b => setsS.contains (band a b) && setsS.contains (bor a b) && setsS.contains (impI a b)) = true := by kernel_rfl
theorem mem_setsA (i : Int) (hi : inR i (-1) 40 = true) : setI i ∈ setsA := by
  rw [inR_iff] at hi
  obtain ⟨a, ha⟩ := Int.eq_ofNat_of_zero_le (show 0 ≤ i + 1 by omega)
  rw [← setsA_eq, List.mem_map]
  exact ⟨a, List.mem_range.2 (by omega), by rw [show i = (a : Int) - 1 by omega]⟩
theorem joinOk (i j : Int) (hi : inR i (-1) 40 = true) (hj : inR j (-1) 40 = true) : okM (band (setI i) (setI j)) = true ∧ okM (bor (setI i) (setI j)) = true ∧ okM (impI (setI i) (setI j)) = true := by
  have h := join_lits
  rw [List.all_eq_true] at h
  have h1 := h _ (mem_setsA i hi)
  rw [List.all_eq_true] at h1
  have h2 := h1 _ (mem_setsA j hj)
  simp only [Bool.and_eq_true, List.contains_iff_mem] at h2
  exact ⟨setsS_ok _ h2.1.1, setsS_ok _ h2.1.2, setsS_ok _ h2.2⟩
def joinC (k i j : Int) : Int := if inR i (-1) 40 = true ∧ inR j (-1) 40 = true ∧ (k = 2 ∨ k = 3 ∨ k = 4) then 0 else 2
def joinI (k i j : Int) : Int := if inR i (-1) 40 = true ∧ inR j (-1) 40 = true then (if k = 2 then idx (band (setI i) (setI j)) else if k = 3 then idx (bor (setI i) (setI j)) else if k = 4 then idx (impI (setI i) (setI j)) else 0) else 0

theorem tup2 {a b c d : Int} (h : a = c) (h' : b = d) : AV.tup [AI a, AI b] = AV.tup [AI c, AI d] := by rw [h, h']

theorem posetAll_c (n : Int) (xs : List Int) (h0 : 0 ≤ n) (h1 : n ≤ 62) : CallA Tryz.prog 79 [.agg [AI n, LI xs]] (AI ((shl64 1 n) - 1)) := by
  have hb : 1 ≤ shl64 1 n ∧ shl64 1 n ≤ 4611686018427387904 := shl_rng n h0 h1
  refine CallA.of Tryz.func79 rfl (by kernel_rfl) ?_
  refine R.go 9 (R.shl 1 n (by kernel_rfl) (by omega) (by kernel_rfl) ?_)
  refine R.ar ((shl64 1 n) - 1) (by kernel_rfl) (by omega) (by omega) (by kernel_rfl) ?_
  exact R.go 2 (R.retE (AI ((shl64 1 n) - 1)) (by kernel_rfl) (by kernel_rfl) (by rfl))

theorem imply_c (n : Int) (xs : List Int) (a : Int) (b : Int) (h0 : 0 ≤ n) (h1 : n ≤ 62) (hl : xs.length ≤ 60) : CallA Tryz.prog 47 [.agg [AI n, LI xs], AI a, AI b] (AI (boxB xs (bor (bnot ((shl64 1 n) - 1) a) b) xs.length)) := by
  refine CallA.of Tryz.func47 rfl (by kernel_rfl) ?_
  refine R.go 10 (R.call true (posetAll_c n xs h0 h1) (by kernel_rfl) rfl (by kernel_rfl) ?_)
  refine R.go 4 (R.call true (box_c xs (bor (bnot ((shl64 1 n) - 1) a) b) hl) (by kernel_rfl) rfl (by kernel_rfl) ?_)
  exact R.go 2 (R.retE (AI (boxB xs (bor (bnot ((shl64 1 n) - 1) a) b) xs.length)) (by kernel_rfl) (by kernel_rfl) (by rfl))

theorem l17Arrow_c (n : Int) (xs : List Int) (a : Int) (b : Int) (h0 : 0 ≤ n) (h1 : n ≤ 62) (hl : xs.length ≤ 60) : CallA Tryz.prog 51 [.agg [AI n, LI xs], AI a, AI b] (AI (boxA xs (bor (bnot ((shl64 1 n) - 1) a) b) xs.length)) := by
  refine CallA.of Tryz.func51 rfl (by kernel_rfl) ?_
  refine R.go 11 (R.call true (l01Full_c n h0 h1) (by kernel_rfl) rfl (by kernel_rfl) ?_)
  refine R.go 4 (R.call true (l01Box_c xs (bor (bnot ((shl64 1 n) - 1) a) b) hl) (by kernel_rfl) rfl (by kernel_rfl) ?_)
  exact R.go 2 (R.retE (AI (boxA xs (bor (bnot ((shl64 1 n) - 1) a) b) xs.length)) (by kernel_rfl) (by kernel_rfl) (by rfl))

theorem imply_lad (a b : Int) : boxB (lad 28) (bor (bnot ((shl64 1 28) - 1) a) b) (lad 28).length = impI a b := by rw [lad_length]; rfl
theorem arrow_lad (a b : Int) : boxA (lad 28) (bor (bnot ((shl64 1 28) - 1) a) b) (lad 28).length = impI a b := by rw [boxAB _ _ lad_rng _ (Nat.le_refl _), imply_lad]
theorem implyLad_c (a b : Int) : CallA Tryz.prog 47 [.agg [AI 28, LI (lad 28)], AI a, AI b] (AI (impI a b)) := (imply_c 28 (lad 28) a b (by decide) (by decide) (by simp)).eq rfl (congrArg AI (imply_lad a b))
theorem arrowLad_c (a b : Int) : CallA Tryz.prog 51 [.agg [AI 28, LI (lad 28)], AI a, AI b] (AI (impI a b)) := (l17Arrow_c 28 (lad 28) a b (by decide) (by decide) (by simp)).eq rfl (congrArg AI (arrow_lad a b))

theorem JI_spec (k : Int) (i : Int) (j : Int) : CallA Tryz.prog 17 [AI k, AI i, AI j] (.tup [AI (joinI k i j), AI (joinC k i j)]) := by
  refine CallA.of Tryz.func17 rfl (by kernel_rfl) ?_
  refine R.go 9 (R.call true (l20In_c i) (by kernel_rfl) rfl (by kernel_rfl) ?_)
  refine R.go 2 ?_
  refine (Bool.eq_false_or_eq_true (inR i (-1) 40)).elim (fun c1 => ?_) (fun c1 => ?_)
  · refine R.want (!(inR i (-1) 40)) false (by kernel_rfl) (bnF c1) ?_
    refine R.go 1 (R.want (!(inR i (-1) 40)) false (by kernel_rfl) (bnF c1) ?_)
    refine R.call true (l20In_c j) (by kernel_rfl) rfl (by kernel_rfl) ?_
    refine R.want (!(inR i (-1) 40)) false (by kernel_rfl) (bnF c1) ?_
    refine R.go 1 (R.pick (!(inR i (-1) 40)) false (by kernel_rfl) (bnF c1) (by kernel_rfl) ?_)
    refine R.go 1 (R.condM (inR j (-1) 40) (by kernel_rfl) (fun c2 => ?_) (fun c2 => ?_))
    · exact R.go 5 (R.retE (.tup [AI 0, AI 2]) (by kernel_rfl) (by kernel_rfl) (by first | (refine tup2 ?_ ?_ <;> simp [joinI, joinC, *]) | (exfalso; omega)))
    · have hi : -1 ≤ i ∧ i ≤ 40 := (inR_iff _ _ _).1 (by assumption)
      have hj : -1 ≤ j ∧ j ≤ 40 := (inR_iff _ _ _).1 (by assumption)
      have ok1 : okM (band (setI i) (setI j)) = true := (joinOk i j (by assumption) (by assumption)).1
      have ok2 : okM (bor (setI i) (setI j)) = true := (joinOk i j (by assumption) (by assumption)).2.1
      have ok3 : okM (impI (setI i) (setI j)) = true := (joinOk i j (by assumption) (by assumption)).2.2
      refine R.go 4 (R.call true (l20Set_c i (by omega) (by omega)) (by kernel_rfl) rfl (by kernel_rfl) ?_)
      refine R.go 1 (R.call true (l20Set_c j (by omega) (by omega)) (by kernel_rfl) rfl (by kernel_rfl) ?_)
      refine R.go 14 (R.cond (k = 2) (by kernel_rfl) (fun c3 => ?_) (fun c3 => ?_))
      · refine R.go 5 (R.call true (l20Index_c (band (setI i) (setI j)) ok1) (by kernel_rfl) rfl (by kernel_rfl) ?_)
        exact R.go 3 (R.retE (.tup [AI (idx (band (setI i) (setI j))), AI 0]) (by kernel_rfl) (by kernel_rfl) (by first | (refine tup2 ?_ ?_ <;> simp [joinI, joinC, *]) | (exfalso; omega)))
      · refine R.go 5 (R.cond (k = 3) (by kernel_rfl) (fun c4 => ?_) (fun c4 => ?_))
        · refine R.go 5 (R.call true (l20Index_c (bor (setI i) (setI j)) ok2) (by kernel_rfl) rfl (by kernel_rfl) ?_)
          exact R.go 3 (R.retE (.tup [AI (idx (bor (setI i) (setI j))), AI 0]) (by kernel_rfl) (by kernel_rfl) (by first | (refine tup2 ?_ ?_ <;> simp [joinI, joinC, *]) | (exfalso; omega)))
        · refine R.go 5 (R.cond (k = 4) (by kernel_rfl) (fun c5 => ?_) (fun c5 => ?_))
          · refine R.go 2 (R.call true (l20Ladder_c 28 (by omega)).frz (by kernel_rfl) rfl (by kernel_rfl) ?_)
            refine R.go 2 (R.call true (arrowLad_c (setI i) (setI j)) (by kernel_rfl) rfl (by kernel_rfl) ?_)
            refine R.call true (l20Index_c (impI (setI i) (setI j)) ok3) (by kernel_rfl) rfl (by kernel_rfl) ?_
            exact R.go 3 (R.retE (.tup [AI (idx (impI (setI i) (setI j))), AI 0]) (by kernel_rfl) (by kernel_rfl) (by first | (refine tup2 ?_ ?_ <;> simp [joinI, joinC, *]) | (exfalso; omega)))
          · exact R.go 7 (R.retE (.tup [AI 0, AI 2]) (by kernel_rfl) (by kernel_rfl) (by first | (refine tup2 ?_ ?_ <;> simp [joinI, joinC, *]) | (exfalso; omega)))
  · refine R.skp (!(inR i (-1) 40)) false (by kernel_rfl) (bnT c1) (by kernel_rfl) ?_
    refine R.skp (!(inR i (-1) 40)) false (by kernel_rfl) (bnT c1) (by kernel_rfl) ?_
    refine R.skp (!(inR i (-1) 40)) false (by kernel_rfl) (bnT c1) (by kernel_rfl) ?_
    refine R.pick (!(inR i (-1) 40)) true (by kernel_rfl) (bnT c1) (by kernel_rfl) ?_
    exact R.go 7 (R.retE (.tup [AI 0, AI 2]) (by kernel_rfl) (by kernel_rfl) (by first | (refine tup2 ?_ ?_ <;> simp [joinI, joinC, *]) | (exfalso; omega)))

theorem JI_impl (k : Int) (i : Int) (j : Int) : CallA Tryz.prog 16 [AI k, AI i, AI j] (.tup [AI (joinI k i j), AI (joinC k i j)]) := by
  refine CallA.of Tryz.func16 rfl (by kernel_rfl) ?_
  refine R.go 9 (R.call true (isIndex_c i) (by kernel_rfl) rfl (by kernel_rfl) ?_)
  refine R.go 2 ?_
  refine (Bool.eq_false_or_eq_true (inR i (-1) 40)).elim (fun c1 => ?_) (fun c1 => ?_)
  · refine R.want (!(inR i (-1) 40)) false (by kernel_rfl) (bnF c1) ?_
    refine R.go 1 (R.want (!(inR i (-1) 40)) false (by kernel_rfl) (bnF c1) ?_)
    refine R.call true (isIndex_c j) (by kernel_rfl) rfl (by kernel_rfl) ?_
    refine R.want (!(inR i (-1) 40)) false (by kernel_rfl) (bnF c1) ?_
    refine R.go 1 (R.pick (!(inR i (-1) 40)) false (by kernel_rfl) (bnF c1) (by kernel_rfl) ?_)
    refine R.go 1 ?_
    refine (Bool.eq_false_or_eq_true (inR j (-1) 40)).elim (fun c2 => ?_) (fun c2 => ?_)
    · refine R.want (!(inR j (-1) 40)) false (by kernel_rfl) (bnF c2) ?_
      refine R.go 1 (R.want (!(inR j (-1) 40)) false (by kernel_rfl) (bnF c2) ?_)
      refine R.call true (partsOf_c k) (by kernel_rfl) rfl (by kernel_rfl) ?_
      refine R.want (!(inR j (-1) 40)) false (by kernel_rfl) (bnF c2) ?_
      refine R.go 1 (R.pick (!(inR j (-1) 40)) false (by kernel_rfl) (bnF c2) (by kernel_rfl) ?_)
      refine R.go 1 (R.condN ((partsN k : Int) = 2) (by kernel_rfl) (fun c3 => ?_) (fun c3 => ?_))
      · exact R.go 5 (R.retE (.tup [AI 0, AI 2]) (by kernel_rfl) (by kernel_rfl) (by first | (first | (refine tup2 ?_ ?_ <;> simp [joinI, joinC, *]; done) | (have hp := partsI_two k; refine tup2 ?_ ?_ <;> simp_all [joinI, joinC])) | (exfalso; omega)))
      · have hi : -1 ≤ i ∧ i ≤ 40 := (inR_iff _ _ _).1 (by assumption)
        have hj : -1 ≤ j ∧ j ≤ 40 := (inR_iff _ _ _).1 (by assumption)
        have ok1 : okM (band (setI i) (setI j)) = true := (joinOk i j (by assumption) (by assumption)).1
        have ok2 : okM (bor (setI i) (setI j)) = true := (joinOk i j (by assumption) (by assumption)).2.1
        have ok3 : okM (impI (setI i) (setI j)) = true := (joinOk i j (by assumption) (by assumption)).2.2
        have hk : k = 2 ∨ k = 3 ∨ k = 4 := (partsI_two k).1 (by omega)
        refine R.go 4 (R.call true (indexSet_c i (by omega) (by omega)) (by kernel_rfl) rfl (by kernel_rfl) ?_)
        refine R.go 1 (R.call true (indexSet_c j (by omega) (by omega)) (by kernel_rfl) rfl (by kernel_rfl) ?_)
        refine R.go 14 (R.cond (k = 2) (by kernel_rfl) (fun c4 => ?_) (fun c4 => ?_))
        · refine R.go 5 (R.call true (indexOf_c (band (setI i) (setI j)) ok1) (by kernel_rfl) rfl (by kernel_rfl) ?_)
          exact R.go 3 (R.retE (.tup [AI (idx (band (setI i) (setI j))), AI 0]) (by kernel_rfl) (by kernel_rfl) (by first | (first | (refine tup2 ?_ ?_ <;> simp [joinI, joinC, *]; done) | (have hp := partsI_two k; refine tup2 ?_ ?_ <;> simp_all [joinI, joinC])) | (exfalso; omega)))
        · refine R.go 5 (R.cond (k = 3) (by kernel_rfl) (fun c5 => ?_) (fun c5 => ?_))
          · refine R.go 5 (R.call true (indexOf_c (bor (setI i) (setI j)) ok2) (by kernel_rfl) rfl (by kernel_rfl) ?_)
            exact R.go 3 (R.retE (.tup [AI (idx (bor (setI i) (setI j))), AI 0]) (by kernel_rfl) (by kernel_rfl) (by first | (first | (refine tup2 ?_ ?_ <;> simp [joinI, joinC, *]; done) | (have hp := partsI_two k; refine tup2 ?_ ?_ <;> simp_all [joinI, joinC])) | (exfalso; omega)))
          · refine R.go 4 (R.call true (ladder_c 28 (by omega)) (by kernel_rfl) rfl (by kernel_rfl) ?_)
            refine R.go 2 (R.call true (implyLad_c (setI i) (setI j)) (by kernel_rfl) rfl (by kernel_rfl) ?_)
            refine R.call true (indexOf_c (impI (setI i) (setI j)) ok3) (by kernel_rfl) rfl (by kernel_rfl) ?_
            exact R.go 3 (R.retE (.tup [AI (idx (impI (setI i) (setI j))), AI 0]) (by kernel_rfl) (by kernel_rfl) (by first | (first | (refine tup2 ?_ ?_ <;> simp [joinI, joinC, *]; done) | (have hp := partsI_two k; refine tup2 ?_ ?_ <;> simp_all [joinI, joinC])) | (exfalso; omega)))
    · refine R.skp (!(inR j (-1) 40)) false (by kernel_rfl) (bnT c2) (by kernel_rfl) ?_
      refine R.skp (!(inR j (-1) 40)) false (by kernel_rfl) (bnT c2) (by kernel_rfl) ?_
      refine R.skp (!(inR j (-1) 40)) false (by kernel_rfl) (bnT c2) (by kernel_rfl) ?_
      refine R.pick (!(inR j (-1) 40)) true (by kernel_rfl) (bnT c2) (by kernel_rfl) ?_
      exact R.go 7 (R.retE (.tup [AI 0, AI 2]) (by kernel_rfl) (by kernel_rfl) (by first | (first | (refine tup2 ?_ ?_ <;> simp [joinI, joinC, *]; done) | (have hp := partsI_two k; refine tup2 ?_ ?_ <;> simp_all [joinI, joinC])) | (exfalso; omega)))
  · refine R.skp (!(inR i (-1) 40)) false (by kernel_rfl) (bnT c1) (by kernel_rfl) ?_
    refine R.skp (!(inR i (-1) 40)) false (by kernel_rfl) (bnT c1) (by kernel_rfl) ?_
    refine R.skp (!(inR i (-1) 40)) false (by kernel_rfl) (bnT c1) (by kernel_rfl) ?_
    refine R.pick (!(inR i (-1) 40)) true (by kernel_rfl) (bnT c1) (by kernel_rfl) ?_
    exact R.go 12 (R.retE (.tup [AI 0, AI 2]) (by kernel_rfl) (by kernel_rfl) (by first | (first | (refine tup2 ?_ ?_ <;> simp [joinI, joinC, *]; done) | (have hp := partsI_two k; refine tup2 ?_ ?_ <;> simp_all [joinI, joinC])) | (exfalso; omega)))

end Go.Proofs.YtfkdkhlimdkehaaGreat
