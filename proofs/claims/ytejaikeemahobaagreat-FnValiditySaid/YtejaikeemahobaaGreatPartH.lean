/- Texts of the proof: Q09, T01, A01, SymZ, SymK. -/
import Derived.Test.YtejaikeemahobaaGreatPartG

/-! Searches on frames: codes, valuations of the reference, first refutations, refuting worlds. -/
namespace Go.Proofs.YtejaikeemahobaaGreat
open Go.RowKit Go.Abs

def scode (n : Int) (xs : List Int) (l : List (List (Int × Int))) : Int := if okFr n xs = true ∧ allF l = true then (if n * ((mem (vmT l l.length)).length : Int) > 16 then 3 else 0) else 1
theorem scode_1 {n : Int} {xs : List Int} {l : List (List (Int × Int))} (h : okFr n xs = false) : 1 = scode n xs l := by rw [scode, if_neg (by simp [h])]
theorem scode_2 {n : Int} {xs : List Int} {l : List (List (Int × Int))} (h : allF l = false) : 1 = scode n xs l := by rw [scode, if_neg (by simp [h])]
theorem scode_3 {n : Int} {xs : List Int} {l : List (List (Int × Int))} (h : okFr n xs = true) (h2 : allF l = true) (h3 : n * ((mem (vmT l l.length)).length : Int) > 16) : 3 = scode n xs l := by rw [scode, if_pos ⟨h, h2⟩, if_pos h3]
theorem scode_4 {n : Int} {xs : List Int} {l : List (List (Int × Int))} (h : okFr n xs = true) (h2 : allF l = true) (h3 : ¬ n * ((mem (vmT l l.length)).length : Int) > 16) : 0 = scode n xs l := by rw [scode, if_pos ⟨h, h2⟩, if_neg h3]
theorem scode_ok {n : Int} {xs : List Int} {l : List (List (Int × Int))} (h : scode n xs l = 0) : okFr n xs = true ∧ allF l = true ∧ n * ((mem (vmT l l.length)).length : Int) ≤ 16 := by
  unfold scode at h
  split at h
  · rename_i h1
    split at h
    · cases h
    · exact ⟨h1.1, h1.2, by omega⟩
  · cases h
theorem mul_mem {n : Int} (m : Int) (h0 : 0 ≤ n) (h8 : n ≤ 8) : 0 ≤ n * ((mem m).length : Int) ∧ n * ((mem m).length : Int) ≤ 496 := by
  have := mem_le m
  refine ⟨Int.mul_nonneg h0 (by omega), ?_⟩
  have := Int.mul_le_mul h8 (show ((mem m).length : Int) ≤ 62 by omega) (by omega) (by omega)
  omega
theorem allF_no {l : List (List (Int × Int))} {i : Nat} (hi : i < l.length) (h : isF (l.getD i []) = false) : allF l = false := by
  rw [allF_not, show l.any notF = true from ?_]
  · rfl
  · rw [List.any_eq_true]
    refine ⟨l.getD i [], ?_, notF_yes h⟩
    rw [List.getD_eq_getElem?_getD, List.getElem?_eq_getElem hi, Option.getD_some]
    exact List.getElem_mem hi
theorem allF_all {l : List (List (Int × Int))} (h : ∀ j, j < l.length → isF (l.getD j []) = true) : allF l = true := by
  rw [allF_not, show l.any notF = false from ?_]
  · rfl
  · rw [List.any_eq_false]
    intro x hx
    obtain ⟨j, hj, rfl⟩ := List.getElem_of_mem hx
    have := h j hj
    rw [List.getD_eq_getElem?_getD, List.getElem?_eq_getElem hj, Option.getD_some] at this
    rw [notF, this]
    decide

theorem searchCode_c (n : Int) (xs : List Int) (l : List (List (Int × Int))) (lx : xs.length ≤ 1000000000) (hs : shortL l) : CallA Tryz.prog 17 [.agg [AI n, LI xs], LLN l] (AI (scode n xs l)) := by
  refine CallA.of Tryz.func17 rfl (by kernel_rfl) ?_
  refine R.go 10 (R.call true (isFrame_c n xs lx) (by kernel_rfl) rfl (by kernel_rfl) ?_)
  refine R.go 2 ?_
  refine (Bool.eq_false_or_eq_true (okFr n xs)).elim (fun c1 => ?_) (fun c1 => ?_)
  · refine R.want (!(okFr n xs)) false (by kernel_rfl) (bnF c1) ?_
    refine R.go 1 (R.want (!(okFr n xs)) false (by kernel_rfl) (bnF c1) ?_)
    refine R.call true (areFormulas_c l hs) (by kernel_rfl) rfl (by kernel_rfl) ?_
    refine R.want (!(okFr n xs)) false (by kernel_rfl) (bnF c1) ?_
    refine R.go 1 (R.pick (!(okFr n xs)) false (by kernel_rfl) (bnF c1) (by kernel_rfl) ?_)
    refine R.go 2 (R.condM (allF l) (by kernel_rfl) (fun c2 => ?_) (fun c2 => ?_))
    · exact R.go 4 (R.retE (AI 1) (by kernel_rfl) (by kernel_rfl) (by first | (apply congrArg AI; first | exact scode_1 (by assumption) | exact scode_2 (by assumption) | exact scode_3 (by assumption) (by assumption) (by assumption) | exact scode_4 (by assumption) (by assumption) (by assumption)) | (exfalso; omega)))
    · have hb0 := okFr_rel (by assumption : okFr n xs = true)
      have hmm := mul_mem (vmT l l.length) hb0.1 hb0.2.1
      have hll := hs.1
      refine R.go 5 (R.call true (variablesIn_c l c2 (by first | omega | (simp <;> omega))).frz (by kernel_rfl) rfl (by kernel_rfl) ?_)
      refine R.call true (size_c (mem (vmT l l.length))) (by kernel_rfl) rfl (by kernel_rfl) ?_
      refine R.ar (n * ((mem (vmT l l.length)).length : Int)) (by kernel_rfl) (by omega) (by omega) (by kernel_rfl) ?_
      refine R.go 3 (R.cond ((n * ((mem (vmT l l.length)).length : Int)) > 16) (by kernel_rfl) (fun c3 => ?_) (fun c3 => ?_))
      · exact R.go 4 (R.retE (AI 3) (by kernel_rfl) (by kernel_rfl) (by first | (apply congrArg AI; first | exact scode_1 (by assumption) | exact scode_2 (by assumption) | exact scode_3 (by assumption) (by assumption) (by assumption) | exact scode_4 (by assumption) (by assumption) (by assumption)) | (exfalso; omega)))
      · exact R.go 6 (R.retE (AI 0) (by kernel_rfl) (by kernel_rfl) (by first | (apply congrArg AI; first | exact scode_1 (by assumption) | exact scode_2 (by assumption) | exact scode_3 (by assumption) (by assumption) (by assumption) | exact scode_4 (by assumption) (by assumption) (by assumption)) | (exfalso; omega)))
  · refine R.skp (!(okFr n xs)) false (by kernel_rfl) (bnT c1) (by kernel_rfl) ?_
    refine R.skp (!(okFr n xs)) false (by kernel_rfl) (bnT c1) (by kernel_rfl) ?_
    refine R.skp (!(okFr n xs)) false (by kernel_rfl) (bnT c1) (by kernel_rfl) ?_
    refine R.pick (!(okFr n xs)) true (by kernel_rfl) (bnT c1) (by kernel_rfl) ?_
    exact R.go 7 (R.retE (AI 1) (by kernel_rfl) (by kernel_rfl) (by first | (apply congrArg AI; first | exact scode_1 (by assumption) | exact scode_2 (by assumption) | exact scode_3 (by assumption) (by assumption) (by assumption) | exact scode_4 (by assumption) (by assumption) (by assumption)) | (exfalso; omega)))

theorem l06Fits_c (n : Int) (xs : List Int) (l : List (List (Int × Int))) (hs : shortL l) (hR : okFr n xs = true) (hF : allF l = true) : CallA Tryz.prog 47 [.agg [AI n, LI xs], LLN l] (.bool (decide (n * ((mem (vmT l l.length)).length : Int) ≤ 16))) := by
  have hb0 := okFr_rel (by assumption : okFr n xs = true)
  have hmm := mul_mem (vmT l l.length) hb0.1 hb0.2.1
  have hll := hs.1
  refine CallA.of Tryz.func47 rfl (by kernel_rfl) ?_
  refine R.go 10 (R.call true (l06Variables_c l hF (by first | omega | (simp <;> omega))).frz (by kernel_rfl) rfl (by kernel_rfl) ?_)
  refine R.go 1 (R.ar (n * ((mem (vmT l l.length)).length : Int)) (by kernel_rfl) (by omega) (by omega) (by kernel_rfl) ?_)
  exact R.go 3 (R.retE (.bool (decide ((n * ((mem (vmT l l.length)).length : Int)) ≤ 16))) (by kernel_rfl) (by kernel_rfl) (by first | (rfl) | (exfalso; omega)))

theorem l06Code_c (n : Int) (xs : List Int) (l : List (List (Int × Int))) (lx : xs.length ≤ 1000000000) (hs : shortL l) : CallA Tryz.prog 19 [.agg [AI n, LI xs], LLN l] (AI (scode n xs l)) := by
  have hll := hs.1
  refine CallA.of Tryz.func19 rfl (by kernel_rfl) ?_
  refine R.go 9 (R.call true (l05Is_c n xs lx) (by kernel_rfl) rfl (by kernel_rfl) ?_)
  refine R.go 2 (R.condM (okFr n xs) (by kernel_rfl) (fun c1 => ?_) (fun c1 => ?_))
  · exact R.go 4 (R.retE (AI 1) (by kernel_rfl) (by kernel_rfl) (by first | (apply congrArg AI; first | exact scode_1 (by assumption) | exact scode_2 (allF_no (i := i) (by omega) (by assumption)) | exact scode_3 (by assumption) hF (by omega) | exact scode_4 (by assumption) hF (by omega)) | (exfalso; omega)))
  · refine R.go 7 (R.loop (fun (i : Nat) => (⟨(frm 25 [(1, LLN l), (2, .ptr 0 0), (5, AI (i : Int))]), [.box 26 [AI n, LI xs]]⟩ : St)) (fun (i : Nat) => (i ≤ l.length) ∧ (∀ j, j < i → isF (l.getD j []) = true)) (fun (i : Nat) => l.length - i) 0 [1, 2, 5] none (by kernel_rfl) (by kernel_rfl) (by kernel_rfl) ⟨(by omega), (by exact fun j hj => absurd hj (by omega))⟩ ?_)
    rintro i ⟨h4_1, h4_2⟩ R2 N3
    refine R.go 8 (R.cond ((i : Int) < (l.length : Int)) (by kernel_rfl) (fun c5 => ?_) (fun c5 => ?_))
    · have hj := hs.2 i (by omega)
      refine R.go 7 (R.idx eLN l [] i (i : Int) (by kernel_rfl) rfl eLN_len (by omega) (by kernel_rfl) ?_)
      refine R.go 1 (R.call true (l02Is_c (l.getD i []) (by first | omega | (simp <;> omega))) (by kernel_rfl) rfl (by kernel_rfl) ?_)
      refine R.go 2 (R.condM (isF (l.getD i [])) (by kernel_rfl) (fun c6 => ?_) (fun c6 => ?_))
      · exact R.go 4 (R.retE (AI 1) (by kernel_rfl) (by kernel_rfl) (by first | (apply congrArg AI; first | exact scode_1 (by assumption) | exact scode_2 (allF_no (i := i) (by omega) (by assumption)) | exact scode_3 (by assumption) hF (by omega) | exact scode_4 (by assumption) hF (by omega)) | (exfalso; omega)))
      · refine R.go 4 (R.ar ((i : Int) + 1) (by kernel_rfl) (by omega) (by omega) (by kernel_rfl) ?_)
        exact R.go 2 (R.stop R2 (by kernel_rfl) (N3 (i + 1) [1, 2, 5] none _ (by kernel_rfl) (by kernel_rfl) ⟨(by omega), (by intro j hj; by_cases hji : j = i; (subst hji; assumption); exact (show ∀ j, j < i → isF (l.getD j []) = true by assumption) j (by omega))⟩ (by show (l.length - (i + 1)) < (l.length - i); omega)))
    · have hF : allF l = true := allF_all (fun j hj => (show ∀ j, j < i → isF (l.getD j []) = true by assumption) j (by omega))
      refine R.go 6 (R.call true (l06Fits_c n xs l hs c1 hF) (by kernel_rfl) rfl (by kernel_rfl) ?_)
      refine R.go 2 (R.condN (n * ((mem (vmT l l.length)).length : Int) ≤ 16) (by kernel_rfl) (fun c7 => ?_) (fun c7 => ?_))
      · exact R.go 4 (R.retE (AI 3) (by kernel_rfl) (by kernel_rfl) (by first | (apply congrArg AI; first | exact scode_1 (by assumption) | exact scode_2 (allF_no (i := i) (by omega) (by assumption)) | exact scode_3 (by assumption) hF (by omega) | exact scode_4 (by assumption) hF (by omega)) | (exfalso; omega)))
      · exact R.go 5 (R.retE (AI 0) (by kernel_rfl) (by kernel_rfl) (by first | (apply congrArg AI; first | exact scode_1 (by assumption) | exact scode_2 (allF_no (i := i) (by omega) (by assumption)) | exact scode_3 (by assumption) hF (by omega) | exact scode_4 (by assumption) hF (by omega)) | (exfalso; omega)))

theorem shr_addI {N : Nat} {a b : Int} (ha : 0 ≤ a) (hb : 0 ≤ b) (h : a + b ≤ 62) : shr64 (shr64 (N : Int) a) b = shr64 (N : Int) (a + b) := by
  obtain ⟨a, rfl⟩ := Int.eq_ofNat_of_zero_le ha
  obtain ⟨b, rfl⟩ := Int.eq_ofNat_of_zero_le hb
  rw [shr_add (by omega)]
  congr 1
theorem shr_zero (N : Nat) : shr64 (N : Int) 0 = N := by
  have := shr_nat (m := N) (i := 0) (by decide)
  simpa using this

theorem l06Values_c (n : Int) (xs : List Int) (vs : List Int) (N : Nat) (hVS : VS vs) (h0 : 0 ≤ n) (h8 : n ≤ 8) (hfit : n * (vs.length : Int) ≤ 16) (hvl : vs.length ≤ 62) : CallA Tryz.prog 50 [.agg [AI n, LI xs], LI vs, AI (N : Int)] (ownA eI 2 1 (vrow n vs (N : Int))) := by
  refine CallA.of Tryz.func50 rfl (by kernel_rfl) ?_
  refine R.go 15 (R.ar ((vs.length : Int) - 1) (by kernel_rfl) (by omega) (by omega) (by kernel_rfl) ?_)
  refine R.go 3 (R.loop ((fun | (k, X, q) => (⟨(frm 34 [(1, LI vs), (2, AI q), (3, .ptr 0 0), (7, .ref 1), (8, AI k)]), [.box 26 [AI n, LI xs], rowA eI 2 1 X]⟩ : St) : Int × (List Int) × Int → St)) (fun | (k, X, q) => (-1 ≤ k) ∧ (k < vs.length) ∧ (PD n vs (N : Int) (k + 1).toNat X) ∧ (q = shr64 (N : Int) (n * ((vs.length : Int) - 1 - k)))) (fun | (k, X, q) => (k + 1).toNat) (((vs.length : Int) - 1), (List.replicate 6 0), (N : Int)) [1, 2, 3, 7, 8] none (by kernel_rfl) (by kernel_rfl) (by kernel_rfl) ⟨(by omega), (by omega), (by exact pd_start (by omega)), (by rw [show (vs.length : Int) - 1 - ((vs.length : Int) - 1) = 0 by omega, Int.mul_zero, shr_zero])⟩ ?_)
  rintro ⟨k, X, q⟩ ⟨h4_1, h4_2, h4_3, h4_4⟩ R1 N2
  have hP : PD n vs (N : Int) (k + 1).toNat X := by assumption
  have hXl : X.length = 6 := hP.1
  have hg := fun h : 0 ≤ k => vs_get hVS (k := k.toNat) (by omega)
  have hnk : 0 ≤ n * ((vs.length : Int) - 1 - k) ∧ n * ((vs.length : Int) - 1 - k) ≤ n * (vs.length : Int) := ⟨Int.mul_nonneg h0 (by omega), Int.mul_le_mul_of_nonneg_left (by omega) h0⟩
  refine R.go 6 (R.cond (k ≥ 0) (by kernel_rfl) (fun c5 => ?_) (fun c5 => ?_))
  · have hq : q = shr64 (N : Int) (n * ((vs.length : Int) - 1 - k)) := by assumption
    have hg2 := hg (by omega)
    have hk0 : 0 ≤ k := by omega
    refine R.go 8 (R.idx eI vs 0 ((k).toNat) k (by kernel_rfl) (by omega) eI_len (by omega) (by kernel_rfl) ?_)
    refine R.go 4 (R.call true (l01Full_c n h0 (by omega)) (by kernel_rfl) rfl (by kernel_rfl) ?_)
    refine R.go 1 (R.idxO 1 1 X.length (((vs.getD ((k).toNat) 0)).toNat) (vs.getD ((k).toNat) 0) (by kernel_rfl) (by omega) (by omega) (by kernel_rfl) ?_)
    refine R.stI 1 2 X (((vs.getD ((k).toNat) 0)).toNat) (band q ((shl64 1 n) - 1)) (by kernel_rfl) (by omega) (by kernel_rfl) ?_
    refine R.go 5 (R.cv .u64 n (by kernel_rfl) (u64_id (by omega) (by omega)) (by kernel_rfl) ?_)
    refine R.shr q n (by kernel_rfl) (by omega) (by kernel_rfl) ?_
    refine R.go 5 (R.ar (k - 1) (by kernel_rfl) (by omega) (by omega) (by kernel_rfl) ?_)
    exact R.go 2 (R.stop R1 (by kernel_rfl) (N2 (k - 1, X.set (((vs.getD ((k).toNat) 0)).toNat) (band q ((shl64 1 n) - 1)), shr64 q n) [1, 2, 3, 7, 8] none _ (by kernel_rfl) (by kernel_rfl) ⟨(by omega), (by omega), (by rw [show (k - 1 + 1).toNat = k.toNat by omega]; exact pd_step (by rw [show k.toNat + 1 = (k + 1).toNat by omega]; exact hP) hVS (by omega) (by rw [hq, show ((k.toNat : Nat) : Int) = k by omega])), (by rw [hq, shr_addI hnk.1 h0 (by omega), show (vs.length : Int) - 1 - (k - 1) = ((vs.length : Int) - 1 - k) + 1 by omega, Int.mul_add, Int.mul_one])⟩ (by show (((k - 1) + 1).toNat) < ((k + 1).toNat); omega)))
  · exact R.go 6 (R.retE (ownA eI 2 1 X) (by kernel_rfl) (by kernel_rfl) (by first | (rw [pd_end (n := n) (vs := vs) (N := (N : Int)) (X := X) (by rw [show 0 = (k + 1).toNat by omega]; exact hP)]) | (exfalso; omega)))

def fRow (n : Int) (xs vs : List Int) (a : List (Int × Int)) : List Int := match fstV n xs vs a with | some N => vrow n vs (N : Int) | none => []
def fTru (n : Int) (xs vs : List Int) (a : List (Int × Int)) : Int := match fstV n xs vs a with | some N => tset n xs (vrow n vs (N : Int)) a | none => 0
def fWor (n : Int) (xs vs : List Int) (a : List (Int × Int)) : Int := match fstV n xs vs a with | some N => (mem (bnot ((shl64 1 n) - 1) (tset n xs (vrow n vs (N : Int)) a))).getD 0 0 | none => 0
theorem badT_no {n : Int} {xs vs : List Int} {a : List (Int × Int)} {N : Nat} (h : tset n xs (vrow n vs (N : Int)) a = (shl64 1 n) - 1) : badV n xs vs a N = false := badV_no rfl h
theorem badT_yes {n : Int} {xs vs : List Int} {a : List (Int × Int)} {N : Nat} (h : ¬ tset n xs (vrow n vs (N : Int)) a = (shl64 1 n) - 1) : badV n xs vs a N = true := badV_yes rfl h
def rwTo (n : Int) (xs vs : List Int) (a : List (Int × Int)) : Nat → Int
  | 0 => 0
  | N + 1 => bor (rwTo n xs vs a N) (bnot ((shl64 1 n) - 1) (tset n xs (vrow n vs (N : Int)) a))
theorem tup3 {s : Nat} {a c : List Int} {b d : Int} {p q : Bool} (h : a = c) (h2 : b = d) (h3 : p = q) : AV.tup [ownA eI s 1 a, AI b, .bool p] = AV.tup [ownA eI s 1 c, AI d, .bool q] := by rw [h, h2, h3]
theorem l02VariablesG_c (a : List (Int × Int)) (vs : List Int) (hvs : vs = mem (vmT [a] [a].length)) (hF : isF a = true) : CallA Tryz.prog 48 [LN a] (ownA eI 2 1 vs) := by
  rw [hvs, vmT_one hF]
  exact l02VariablesM_c a (isF_parts hF).2.2.1 (isF_parts hF).1

theorem l06First_c (n : Int) (xs : List Int) (a : List (Int × Int)) (hF : allF [a] = true) (hR : okFr n xs = true) (hfit : n * ((mem (vmT [a] [a].length)).length : Int) ≤ 16) (hl : a.length ≤ 1000000000) : CallA Tryz.prog 20 [.agg [AI n, LI xs], LN a] (.tup [ownA eI 2 1 (fRow n xs (mem (vmT [a] [a].length)) a), AI (fTru n xs (mem (vmT [a] [a].length)) a), .bool ((fstV n xs (mem (vmT [a] [a].length)) a).isSome)]) := by
  obtain ⟨vs, hvs⟩ : ∃ vs, vs = mem (vmT [a] [a].length) := ⟨_, rfl⟩
  rw [← hvs] at hfit ⊢
  have hVS : VS vs := by rw [hvs]; exact VS_vmT hF
  have hRR := okFr_rel hR
  have hb0 : 0 ≤ n ∧ n ≤ 8 ∧ (xs.length : Int) = n := ⟨hRR.1, hRR.2.1, hRR.2.2.1⟩
  have hnc : 0 ≤ n * (vs.length : Int) := Int.mul_nonneg hb0.1 (by omega)
  have htot : shl64 1 (n * (vs.length : Int)) = (totN n vs : Int) := by have := shl_rng (n * (vs.length : Int)) hnc (by omega); unfold totN; omega
  have htr := shl_rng (n * (vs.length : Int)) hnc (by omega)
  have hvl : vs.length ≤ 62 := by rw [hvs]; exact mem_le _
  have hisF : isF a = true := by simpa using allF_get hF 0 (by simp)
  have hA := isF_okm hisF
  have hok : OKM 6 a := hA.1
  have hal : a.length ≤ 40 := hA.2
  refine CallA.of Tryz.func20 rfl (by kernel_rfl) ?_
  refine R.go 10 (R.call true (l02VariablesG_c a vs (by assumption) hisF).frz (by kernel_rfl) rfl (by kernel_rfl) ?_)
  refine R.go 8 (R.loop (fun (N : Nat) => (⟨(frm 39 [(1, LN a), (2, .ptr 0 0), (7, LI vs), (8, AI (N : Int))]), [.box 26 [AI n, LI xs]]⟩ : St)) (fun (N : Nat) => ((N : Int) ≤ shl64 1 (n * (vs.length : Int))) ∧ (∀ M, M < N → badV n xs vs a M = false)) (fun (N : Nat) => (totN n vs) - N) 0 [1, 2, 7, 8] none (by kernel_rfl) (by kernel_rfl) (by kernel_rfl) ⟨(by omega), (by exact fun M hM => absurd hM (by omega))⟩ ?_)
  rintro N ⟨h3_1, h3_2⟩ R1 N2
  have hvl6 : (vrow n vs (N : Int)).length = 6 := vrow_len _ _ _
  have hoX : OKM (vrow n vs (N : Int)).length a := by rw [hvl6]; exact hok
  have hfull := shl_rng n hb0.1 (by omega)
  refine R.go 8 (R.ar (n * (vs.length : Int)) (by kernel_rfl) (by omega) (by omega) (by kernel_rfl) ?_)
  refine R.call true (l01One_c (n * (vs.length : Int)) (by first | omega | (simp <;> omega)) (by first | omega | (simp <;> omega))) (by kernel_rfl) rfl (by kernel_rfl) ?_
  refine R.go 2 (R.cond ((N : Int) < (shl64 1 (n * (vs.length : Int)))) (by kernel_rfl) (fun c4 => ?_) (fun c4 => ?_))
  · refine R.go 8 (R.call true (l06Values_c n xs vs N hVS (by omega) (by omega) (by first | omega | (simp <;> omega)) hvl) (by kernel_rfl) rfl (by kernel_rfl) ?_)
    refine R.go 8 (R.call false (l06TruthT_c n xs (vrow n vs (N : Int)) a hR hoX hl) (by kernel_rfl) rfl (by kernel_rfl) ?_)
    refine R.go 7 (R.call true (l01Full_c n (by omega) (by omega)) (by kernel_rfl) rfl (by kernel_rfl) ?_)
    refine R.go 2 (R.condN ((tset n xs (vrow n vs (N : Int)) a) = ((shl64 1 n) - 1)) (by kernel_rfl) (fun c5 => ?_) (fun c5 => ?_))
    · exact R.go 8 (R.retE (.tup [ownA eI 2 1 (vrow n vs (N : Int)), AI (tset n xs (vrow n vs (N : Int)) a), .bool true]) (by kernel_rfl) (by kernel_rfl) (by first | (refine tup3 ?_ ?_ ?_ <;> first | (have e : fstV n xs vs a = some N := fst_some (show ∀ M, M < N → badV n xs vs a M = false by assumption) (badT_yes (by assumption)) (by omega); simp [fRow, fTru, fWor, e]; done) | (have e : fstV n xs vs a = none := fst_none (fun M hM => (show ∀ M, M < N → badV n xs vs a M = false by assumption) M (by omega)); simp [fRow, fTru, fWor, e]; done)) | (exfalso; omega)))
    · refine R.go 4 (R.ar ((N : Int) + 1) (by kernel_rfl) (by omega) (by omega) (by kernel_rfl) ?_)
      exact R.go 2 (R.stop R1 (by kernel_rfl) (N2 (N + 1) [1, 2, 7, 8] (some [0]) _ (by kernel_rfl) (by kernel_rfl) ⟨(by omega), (by exact below_succ (by assumption) (badT_no (by assumption)))⟩ (by show ((totN n vs) - (N + 1)) < ((totN n vs) - N); omega)))
  · refine R.go 7 (R.nil 4 2 1 (by kernel_rfl) ?_)
    exact R.retE (.tup [ownA eI 2 1 [], AI 0, .bool false]) (by kernel_rfl) (by kernel_rfl) (by first | (refine tup3 ?_ ?_ ?_ <;> first | (have e : fstV n xs vs a = some N := fst_some (show ∀ M, M < N → badV n xs vs a M = false by assumption) (badT_yes (by assumption)) (by omega); simp [fRow, fTru, fWor, e]; done) | (have e : fstV n xs vs a = none := fst_none (fun M hM => (show ∀ M, M < N → badV n xs vs a M = false by assumption) M (by omega)); simp [fRow, fTru, fWor, e]; done)) | (exfalso; omega))

def rwV (n : Int) (xs : List Int) (a : List (Int × Int)) : Int := if scode n xs [a] = 0 then rwTo n xs (mem (vmT [a] [a].length)) a (totN n (mem (vmT [a] [a].length))) else 0
def vdB (n : Int) (xs : List Int) (a : List (Int × Int)) : Bool := decide (scode n xs [a] = 0) && (fstV n xs (mem (vmT [a] [a].length)) a).isNone
def frC (n : Int) (xs : List Int) (a : List (Int × Int)) : Int := if scode n xs [a] = 0 then (if (fstV n xs (mem (vmT [a] [a].length)) a).isSome = true then 0 else 4) else scode n xs [a]
def frR (n : Int) (xs : List Int) (a : List (Int × Int)) : List Int := if scode n xs [a] = 0 then fRow n xs (mem (vmT [a] [a].length)) a else []
def frW (n : Int) (xs : List Int) (a : List (Int × Int)) : Int := if scode n xs [a] = 0 then fWor n xs (mem (vmT [a] [a].length)) a else 0
theorem fRow_none {n : Int} {xs vs : List Int} {a : List (Int × Int)} (h : (fstV n xs vs a).isSome = false) : fRow n xs vs a = [] ∧ fWor n xs vs a = 0 := by
  unfold fRow fWor
  cases e : fstV n xs vs a with
  | none => exact ⟨rfl, rfl⟩
  | some N => rw [e] at h; cases h
theorem fWor_some {n : Int} {xs vs : List Int} {a : List (Int × Int)} (h : (fstV n xs vs a).isSome = true) : fWor n xs vs a = (mem (bnot ((shl64 1 n) - 1) (fTru n xs vs a))).getD 0 0 := by
  unfold fWor fTru
  cases e : fstV n xs vs a with
  | none => rw [e] at h; cases h
  | some N => rfl

theorem RW_impl (n : Int) (xs : List Int) (a : List (Int × Int)) (lx : xs.length ≤ 1048576) (hl : a.length ≤ 1048576) : CallA Tryz.prog 10 [.agg [AI n, LI xs], LN a] (.tup [AI (rwV n xs a), AI (scode n xs [a])]) := by
  refine CallA.of Tryz.func10 rfl (by kernel_rfl) ?_
  refine R.go 12 (R.lit (s := 1) (n := 1) (cs := rows eLN [a]) (by kernel_rfl) (by kernel_rfl) ?_)
  refine R.call true (searchCode_c n xs [a] (by first | omega | (simp <;> omega)) (by first | assumption | exact shortL_one (by omega))) (by kernel_rfl) rfl (by kernel_rfl) ?_
  refine R.go 7 (R.condN ((scode n xs [a]) = 0) (by kernel_rfl) (fun c1 => ?_) (fun c1 => ?_))
  · exact R.go 6 (R.retE (.tup [AI 0, AI (scode n xs [a])]) (by kernel_rfl) (by kernel_rfl) (by first | (refine tupI ?_ ?_ <;> first | (simp [rwV, *]; done) | (rw [rwV, if_pos hm, ← hvs, show totN n vs = N by omega]; assumption) | exact hm.symm) | (exfalso; omega)))
  · have hm : scode n xs [a] = 0 := by assumption
    have hsc := scode_ok hm
    have hF : allF [a] = true := hsc.2.1
    have hR : okFr n xs = true := hsc.1
    have hfit0 : n * ((mem (vmT [a] [a].length)).length : Int) ≤ 16 := hsc.2.2
    obtain ⟨vs, hvs⟩ : ∃ vs, vs = mem (vmT [a] [a].length) := ⟨_, rfl⟩
    have hfit : n * (vs.length : Int) ≤ 16 := by rw [hvs]; exact hfit0
    have hVS : VS vs := by rw [hvs]; exact VS_vmT hF
    have hRR := okFr_rel hR
    have hb0 : 0 ≤ n ∧ n ≤ 8 ∧ (xs.length : Int) = n := ⟨hRR.1, hRR.2.1, hRR.2.2.1⟩
    have hnc : 0 ≤ n * (vs.length : Int) := Int.mul_nonneg hb0.1 (by omega)
    have htot : shl64 1 (n * (vs.length : Int)) = (totN n vs : Int) := by have := shl_rng (n * (vs.length : Int)) hnc (by omega); unfold totN; omega
    have htr := shl_rng (n * (vs.length : Int)) hnc (by omega)
    have hvl : vs.length ≤ 62 := by rw [hvs]; exact mem_le _
    have hisF : isF a = true := by simpa using allF_get hF 0 (by simp)
    have hA := isF_okm hisF
    have hok : OKM 6 a := hA.1
    have hal : a.length ≤ 40 := hA.2
    refine R.go 10 (R.lit (s := 1) (n := 1) (cs := rows eLN [a]) (by kernel_rfl) (by kernel_rfl) ?_)
    refine R.call true (variablesInG_c [a] vs (by assumption) hF (by first | omega | (simp <;> omega))).frz (by kernel_rfl) rfl (by kernel_rfl) ?_
    refine R.call true (valuations_c n xs vs) (by kernel_rfl) rfl (by kernel_rfl) ?_
    refine R.go 2 (R.range (caps := [.rptr [LI vs], .rptr [AI n, LI xs]]) Tryz.func52 rfl (by kernel_rfl) (by kernel_rfl) ?_)
    intro D2 us3
    refine R.go 8 (R.call true (size_c vs) (by kernel_rfl) rfl (by kernel_rfl) ?_)
    refine R.go 7 (R.ar (n * (vs.length : Int)) (by kernel_rfl) (by omega) (by omega) (by kernel_rfl) ?_)
    refine R.shl 1 (n * (vs.length : Int)) (by kernel_rfl) (by omega) (by kernel_rfl) ?_
    refine R.go 3 (R.loop ((fun | (N, X, o) => (⟨(frm 48 [(0, .ref 4), (1, .rptr [LI vs]), (2, .rptr [AI n, LI xs]), (4, .ref 5), (5, AI vs.length), (16, AI (shl64 1 (n * (vs.length : Int)))), (17, AI (N : Int))]), [.box 26 [AI n, LI xs], .box 27 [LN a], .box 2 [AI o], .frame us3 (frm 32 [(0, .agg [AI n, LI xs]), (1, LN a), (2, .ptr 0 0), (3, .ptr 1 0), (4, AI 0), (5, AI 0), (6, AI (scode n xs [a])), (7, .ptr 2 0), (9, .agg [AI n, LI xs]), (10, LN a), (11, LLN [a]), (12, AI (scode n xs [a])), (13, AI (scode n xs [a])), (14, .bool (!decide ((scode n xs [a]) = 0))), (16, .agg [AI n, LI xs]), (17, LN a), (18, LLN [a]), (19, LI vs), (20, .fn 52 [.rptr [LI vs], .rptr [AI n, LI xs]])]), loopObj Tryz.f10 D2 us3 .ready, rowA eI 2 1 X]⟩ : St) : Nat × (List Int) × Int → St)) (fun | (N, X, o) => ((N : Int) ≤ shl64 1 (n * (vs.length : Int))) ∧ (X.length = 6) ∧ (∀ j : Nat, j < 6 → ¬ (j : Int) ∈ vs → X.getD j 0 = 0) ∧ (o = rwTo n xs vs a N)) (fun | (N, X, o) => (totN n vs) - N) (0, (List.replicate 6 0), 0) [0, 1, 2, 4, 5, 16, 17] none (by kernel_rfl) (by kernel_rfl) (by kernel_rfl) ⟨(by omega), (by simp), (by exact zero_out vs), (by rfl)⟩ ?_)
    rintro ⟨N, X, o⟩ ⟨h7_1, h7_2, h7_3, h7_4⟩ R4 N5
    have hfull := shl_rng n hb0.1 (by omega)
    refine R.go 5 (R.cond ((N : Int) < (shl64 1 (n * (vs.length : Int)))) (by kernel_rfl) (fun c8 => ?_) (fun c8 => ?_))
    · refine R.go 16 (R.loop ((fun | (k, Y) => (⟨(frm 48 [(0, .ref 4), (1, .rptr [LI vs]), (2, .rptr [AI n, LI xs]), (4, .ref 5), (5, AI vs.length), (6, AI (N : Int)), (16, AI (shl64 1 (n * (vs.length : Int)))), (17, AI (N : Int)), (20, LI vs), (21, AI vs.length), (22, AI (k : Int))]), [.box 26 [AI n, LI xs], .box 27 [LN a], .box 2 [AI o], .frame us3 (frm 32 [(0, .agg [AI n, LI xs]), (1, LN a), (2, .ptr 0 0), (3, .ptr 1 0), (4, AI 0), (5, AI 0), (6, AI (scode n xs [a])), (7, .ptr 2 0), (9, .agg [AI n, LI xs]), (10, LN a), (11, LLN [a]), (12, AI (scode n xs [a])), (13, AI (scode n xs [a])), (14, .bool (!decide ((scode n xs [a]) = 0))), (16, .agg [AI n, LI xs]), (17, LN a), (18, LLN [a]), (19, LI vs), (20, .fn 52 [.rptr [LI vs], .rptr [AI n, LI xs]])]), loopObj Tryz.f10 D2 us3 .ready, rowA eI 2 1 Y]⟩ : St) : Nat × (List Int) → St)) (fun | (k, Y) => (k ≤ vs.length) ∧ (PV n vs (N : Int) k Y)) (fun | (k, Y) => vs.length - k) (0, X) [0, 1, 2, 4, 5, 6, 16, 17, 20, 21, 22] none (by kernel_rfl) (by kernel_rfl) (by kernel_rfl) ⟨(by omega), (by exact pv_start (by assumption) (by assumption))⟩ ?_)
      rintro ⟨k, Y⟩ ⟨h12_1, h12_2⟩ R9 N10
      have hY : PV n vs (N : Int) k Y := by assumption
      have hYl : Y.length = 6 := hY.1
      have hg := fun h : k < vs.length => vs_get hVS h
      have hnk : k < vs.length → 0 ≤ n * ((vs.length : Int) - 1 - (k : Int)) ∧ n * ((vs.length : Int) - 1 - (k : Int)) ≤ n * (vs.length : Int) := fun h => ⟨Int.mul_nonneg hb0.1 (by omega), Int.mul_le_mul_of_nonneg_left (by omega) hb0.1⟩
      skip
      refine R.go 5 (R.cond ((k : Int) < (vs.length : Int)) (by kernel_rfl) (fun c13 => ?_) (fun c13 => ?_))
      · have hg2 := hg (by omega)
        have hnk2 := hnk (by omega)
        refine R.go 6 (R.idx eI vs 0 k (k : Int) (by kernel_rfl) rfl eI_len (by omega) (by kernel_rfl) ?_)
        refine R.go 11 (R.ar ((vs.length : Int) - 1) (by kernel_rfl) (by omega) (by omega) (by kernel_rfl) ?_)
        refine R.go 1 (R.ar (((vs.length : Int) - 1) - (k : Int)) (by kernel_rfl) (by omega) (by omega) (by kernel_rfl) ?_)
        refine R.ar (n * (((vs.length : Int) - 1) - (k : Int))) (by kernel_rfl) (by omega) (by omega) (by kernel_rfl) ?_
        refine R.shr (N : Int) (n * (((vs.length : Int) - 1) - (k : Int))) (by kernel_rfl) (by omega) (by kernel_rfl) ?_
        refine R.go 1 (R.call true (frameAll_c n xs (by omega) (by omega)) (by kernel_rfl) rfl (by kernel_rfl) ?_)
        refine R.go 1 (R.idxO 5 1 Y.length (((vs.getD k 0)).toNat) (vs.getD k 0) (by kernel_rfl) (by omega) (by omega) (by kernel_rfl) ?_)
        refine R.stI 5 2 Y (((vs.getD k 0)).toNat) (band (shr64 (N : Int) (n * (((vs.length : Int) - 1) - (k : Int)))) ((shl64 1 n) - 1)) (by kernel_rfl) (by omega) (by kernel_rfl) ?_
        refine R.go 3 (R.ar ((k : Int) + 1) (by kernel_rfl) (by omega) (by omega) (by kernel_rfl) ?_)
        exact R.go 2 (R.stop R9 (by kernel_rfl) (N10 (k + 1, Y.set (((vs.getD k 0)).toNat) (band (shr64 (N : Int) (n * (((vs.length : Int) - 1) - (k : Int)))) ((shl64 1 n) - 1))) [0, 1, 2, 4, 5, 6, 16, 17, 20, 21, 22] none _ (by kernel_rfl) (by kernel_rfl) ⟨(by omega), (by exact pv_step hY hVS (by omega) rfl)⟩ (by show (vs.length - (k + 1)) < (vs.length - k); omega)))
      · have hX : Y = vrow n vs (N : Int) := pv_end hY (by omega)
        have hYo : OKM Y.length a := by rw [hYl]; exact hok
        refine R.go 5 (R.yield 4 D2 us3 (by kernel_rfl) (by kernel_rfl) ?_)
        intro l14 us15
        refine R.go 3 (R.begin (by kernel_rfl) (by kernel_rfl) ?_)
        refine R.go 4 (R.call true (frameAll_c n xs (by omega) (by omega)) (by kernel_rfl) rfl (by kernel_rfl) ?_)
        refine R.go 3 (R.call false (truthSet_c n xs Y a hYo (by omega) (by omega) (by first | omega | (simp <;> omega)) (by first | omega | (simp <;> omega))) (by kernel_rfl) rfl (by kernel_rfl) ?_)
        refine R.go 5 (R.round (frm 48 [(0, .ref 4), (1, .rptr [LI vs]), (2, .rptr [AI n, LI xs]), (4, .ref 5), (5, AI vs.length), (6, AI (N : Int)), (16, AI (shl64 1 (n * (vs.length : Int)))), (17, AI (N : Int)), (20, LI vs), (21, AI vs.length), (22, AI (k : Int)), (23, .bool (decide ((k : Int) < (vs.length : Int)))), (43, .ref 4), (44, .ref 5)]) (by kernel_rfl) (by kernel_rfl) (by kernel_rfl) ?_)
        refine R.go 6 (R.ar ((N : Int) + 1) (by kernel_rfl) (by omega) (by omega) (by kernel_rfl) ?_)
        exact R.go 2 (R.stop R4 (by kernel_rfl) (N5 (N + 1, Y, bor o (bnot ((shl64 1 n) - 1) (gv (mT n) (mU n (bxB xs)) Y a))) [0, 1, 2, 4, 5, 16, 17] (some [0, 1, 2, 3, 4, 5]) _ (by kernel_rfl) (by kernel_rfl) ⟨(by omega), (by rw [hX]; exact vrow_len _ _ _), (by rw [hX]; exact vrow_out), (by rw [rwTo, ← ‹o = rwTo n xs vs a N›, ← hX]; rfl)⟩ (by show ((totN n vs) - (N + 1)) < ((totN n vs) - N); omega)))
    · refine R.go 1 (R.over (.tup []) (frm 32 [(0, .agg [AI n, LI xs]), (1, LN a), (2, .ptr 0 0), (3, .ptr 1 0), (4, AI 0), (5, AI 0), (6, AI (scode n xs [a])), (7, .ptr 2 0), (9, .agg [AI n, LI xs]), (10, LN a), (11, LLN [a]), (12, AI (scode n xs [a])), (13, AI (scode n xs [a])), (14, .bool (!decide ((scode n xs [a]) = 0))), (16, .agg [AI n, LI xs]), (17, LN a), (18, LLN [a]), (19, LI vs), (20, .fn 52 [.rptr [LI vs], .rptr [AI n, LI xs]])]) (by kernel_rfl) (by kernel_rfl) (by kernel_rfl) (by kernel_rfl) ?_)
      exact R.go 7 (R.retE (.tup [AI o, AI 0]) (by kernel_rfl) (by kernel_rfl) (by first | (refine tupI ?_ ?_ <;> first | (simp [rwV, *]; done) | (rw [rwV, if_pos hm, ← hvs, show totN n vs = N by omega]; assumption) | exact hm.symm) | (exfalso; omega)))

theorem VO_impl (n : Int) (xs : List Int) (a : List (Int × Int)) (lx : xs.length ≤ 1048576) (hl : a.length ≤ 1048576) : CallA Tryz.prog 9 [.agg [AI n, LI xs], LN a] (.tup [.bool (vdB n xs a), AI (scode n xs [a])]) := by
  refine CallA.of Tryz.func9 rfl (by kernel_rfl) ?_
  refine R.go 11 (R.lit (s := 1) (n := 1) (cs := rows eLN [a]) (by kernel_rfl) (by kernel_rfl) ?_)
  refine R.call true (searchCode_c n xs [a] (by first | omega | (simp <;> omega)) (by first | assumption | exact shortL_one (by omega))) (by kernel_rfl) rfl (by kernel_rfl) ?_
  refine R.go 7 (R.condN ((scode n xs [a]) = 0) (by kernel_rfl) (fun c1 => ?_) (fun c1 => ?_))
  · exact R.go 6 (R.retE (.tup [.bool false, AI (scode n xs [a])]) (by kernel_rfl) (by kernel_rfl) (by first | (refine tupB ?_ ?_ <;> first | (simp [vdB, *]; done) | (rw [vdB, hm]; rfl) | exact hm.symm) | (exfalso; omega)))
  · have hm : scode n xs [a] = 0 := by assumption
    have hsc := scode_ok hm
    have hF : allF [a] = true := hsc.2.1
    have hR : okFr n xs = true := hsc.1
    have hfit : n * ((mem (vmT [a] [a].length)).length : Int) ≤ 16 := hsc.2.2
    refine R.go 5 (R.call true (isValid_c n xs a hF hR hfit (by first | omega | (simp <;> omega))) (by kernel_rfl) rfl (by kernel_rfl) ?_)
    exact R.go 3 (R.retE (.tup [.bool ((fstV n xs (mem (vmT [a] [a].length)) a).isNone), AI 0]) (by kernel_rfl) (by kernel_rfl) (by first | (refine tupB ?_ ?_ <;> first | (simp [vdB, *]; done) | (rw [vdB, hm]; rfl) | exact hm.symm) | (exfalso; omega)))

theorem nn_eq {n : Int} (h0 : 0 ≤ n) : ((n.toNat : Nat) : Int) = n := by omega
theorem mT_in {n : Int} (h0 : 0 ≤ n) (h8 : n ≤ 8) {k p q : Int} (hp : InM n.toNat p) (hq : InM n.toNat q) : InM n.toNat (mT n k p q) := by
  have hn : n.toNat ≤ 61 := by omega
  have hf := inM_full (n := n.toNat) hn
  rw [nn_eq h0] at hf
  unfold mT
  split
  · exact inM_band hn hp hq
  · split
    · exact inM_bor hn hp hq
    · exact inM_bor hn (inM_bnot hn hf hp) hq
theorem bxB_in {n : Int} {xs : List Int} (hR : okFr n xs = true) {m : Int} (hm : InM n.toNat m) : InM n.toNat (bxB xs m) := by
  obtain ⟨h0, h8, hl, hr⟩ := okFr_rel hR
  exact (boxB_ok (by omega) hr hm xs.length (by omega)).1
theorem mU_in {n : Int} {xs : List Int} (hR : okFr n xs = true) {k p : Int} (hp : InM n.toNat p) : InM n.toNat (mU n (bxB xs) k p) := by
  obtain ⟨h0, h8, hl, hr⟩ := okFr_rel hR
  have hn : n.toNat ≤ 61 := by omega
  have hf := inM_full (n := n.toNat) hn
  rw [nn_eq h0] at hf
  unfold mU
  split
  · exact bxB_in hR hp
  · exact inM_bnot hn hf (bxB_in hR (inM_bnot hn hf hp))
theorem tset_in {n : Int} {xs X : List Int} {a : List (Int × Int)} (hR : okFr n xs = true) (ha : OKM 6 a) (hX : ∀ j : Nat, j < 6 → InM n.toNat (X.getD j 0)) : InM n.toNat (tset n xs X a) := by
  obtain ⟨h0, h8, _, _⟩ := okFr_rel hR
  exact (gv_in (G := InM n.toNat) (u' := mU n (bxB xs)) ha (inM_zero _) hX (fun k p q hp hq => mT_in h0 h8 hp hq) (fun k p _ hp => ⟨mU_in hR hp, rfl⟩)).1
theorem shr_inM {m : Int} (h : InM 61 m) (e : Int) : InM 61 (shr64 m e) := by
  obtain ⟨a, rfl, ha⟩ := inM_nat h
  unfold shr64
  rw [show ((2 : Int) ^ (min e.toNat 64)) = ((2 ^ (min e.toNat 64) : Nat) : Int) by simp, Int.fdiv_eq_ediv_of_nonneg _ (Int.natCast_nonneg _), ← Int.natCast_ediv]
  exact ⟨Int.natCast_nonneg _, by rw [Int.toNat_natCast]; exact Nat.lt_of_le_of_lt (Nat.div_le_self _ _) ha⟩
theorem vrow_in {n : Int} {vs : List Int} {N : Nat} (h0 : 0 ≤ n) (h8 : n ≤ 8) (hN : N ≤ 2305843009213693951) (j : Nat) (hj : j < 6) : InM n.toNat ((vrow n vs (N : Int)).getD j 0) := by
  rw [vrow_get hj, vat]
  have hf := inM_full (n := n.toNat) (by omega)
  rw [nn_eq h0] at hf
  split
  · refine inM_band_r (by omega) (shr_inM (inM61 (by omega) (by omega)) _) hf
  · exact inM_zero _
theorem mem_pos {m : Int} (h : InM 61 m) (hm : m ≠ 0) : 0 < (mem m).length := by
  obtain ⟨a, rfl, ha⟩ := inM_nat h
  obtain ⟨i, hi⟩ := Nat.exists_testBit_of_ne_zero (x := a) (by omega)
  have h1 : i < 61 := tb_lt h hi
  have : ((i : Nat) : Int) ∈ mem (a : Int) := memN_mem.2 ⟨i, by omega, hi, rfl⟩
  exact List.length_pos_of_mem this
theorem totN_le {n : Int} {vs : List Int} (h : 0 ≤ n * (vs.length : Int) ∧ n * (vs.length : Int) ≤ 16) : (totN n vs : Int) ≤ 65536 := by
  have := shl_one (n * (vs.length : Int)) h.1 (by omega)
  have h4 : (2 : Nat) ^ (n * (vs.length : Int)).toNat ≤ 2 ^ 16 := Nat.pow_le_pow_right (by decide) (by omega)
  have h5 : (2 : Int) ^ (n * (vs.length : Int)).toNat = ((2 ^ (n * (vs.length : Int)).toNat : Nat) : Int) := by simp
  unfold totN
  omega
theorem rest_ok0 {n : Int} {xs vs X : List Int} {a : List (Int × Int)} {N : Nat} (hR : okFr n xs = true) (ha : OKM 6 a) (hX : X = vrow n vs (N : Int)) (hN : N ≤ 65536) :
    InM 61 (bnot ((shl64 1 n) - 1) (tset n xs X a)) ∧ (bnot ((shl64 1 n) - 1) (tset n xs X a) = 0 → tset n xs X a = (shl64 1 n) - 1) ∧ (¬ bnot ((shl64 1 n) - 1) (tset n xs X a) = 0 → 0 < (mem (bnot ((shl64 1 n) - 1) (tset n xs X a))).length ∧ ¬ tset n xs X a = (shl64 1 n) - 1) := by
  obtain ⟨h0, h8, _, _⟩ := okFr_rel hR
  have hf := inM_full (n := n.toNat) (by omega)
  rw [nn_eq h0] at hf
  have ht := tset_in hR ha (X := X) (by rw [hX]; exact vrow_in h0 h8 (by omega))
  have hi := inM_bnot (by omega) hf ht
  refine ⟨inM_mono (by omega) hi, fun hz => ?_, fun hz => ⟨mem_pos (inM_mono (by omega) hi) hz, fun he => hz ((bnot_sub (by omega) hf ht).2 fun i h => by rw [he]; exact h)⟩⟩
  have hsub := (bnot_sub (by omega) hf ht).1 hz
  refine tb_ext ht.1 hf.1 fun i => ?_
  rw [Bool.eq_iff_iff]
  refine ⟨fun hti => ?_, hsub i⟩
  have := tb_full (n := n.toNat) (by omega) i
  rw [nn_eq h0] at this
  rw [this]
  simpa using tb_lt ht hti
theorem rest_ok {n : Int} {xs vs X : List Int} {a : List (Int × Int)} {N : Nat} (hR : okFr n xs = true) (ha : OKM 6 a) (hX : X = vrow n vs (N : Int)) (hN : N ≤ 65536) :
    InM 61 (bnot ((shl64 1 n) - 1) (gv (mT n) (mU n (bxB xs)) X a)) ∧ (bnot ((shl64 1 n) - 1) (gv (mT n) (mU n (bxB xs)) X a) = 0 → gv (mT n) (mU n (bxB xs)) X a = (shl64 1 n) - 1) ∧ (¬ bnot ((shl64 1 n) - 1) (gv (mT n) (mU n (bxB xs)) X a) = 0 → 0 < (mem (bnot ((shl64 1 n) - 1) (gv (mT n) (mU n (bxB xs)) X a))).length ∧ ¬ gv (mT n) (mU n (bxB xs)) X a = (shl64 1 n) - 1) := rest_ok0 hR ha hX hN
theorem frT_bad {s : Nat} {n : Int} {xs : List Int} {a : List (Int × Int)} (h : ¬ scode n xs [a] = 0) : AV.tup [ownA eI s 1 [], AI 0, AI (scode n xs [a])] = AV.tup [ownA eI s 1 (frR n xs a), AI (frW n xs a), AI (frC n xs a)] := by
  rw [frR, frW, frC, if_neg h, if_neg h, if_neg h]
theorem frT_none {s : Nat} {n : Int} {xs : List Int} {a : List (Int × Int)} (h : scode n xs [a] = 0) (h2 : (fstV n xs (mem (vmT [a] [a].length)) a).isSome = false) : AV.tup [ownA eI s 1 [], AI 0, AI 4] = AV.tup [ownA eI s 1 (frR n xs a), AI (frW n xs a), AI (frC n xs a)] := by
  have h1 := fRow_none h2
  rw [frR, frW, frC, if_pos h, if_pos h, if_pos h, h1.1, h1.2, if_neg (by rw [h2]; decide)]
theorem frT_some {s : Nat} {n : Int} {xs : List Int} {a : List (Int × Int)} (h : scode n xs [a] = 0) (h2 : (fstV n xs (mem (vmT [a] [a].length)) a).isSome = true) : AV.tup [ownA eI s 1 (fRow n xs (mem (vmT [a] [a].length)) a), AI (fWor n xs (mem (vmT [a] [a].length)) a), AI 0] = AV.tup [ownA eI s 1 (frR n xs a), AI (frW n xs a), AI (frC n xs a)] := by
  rw [frR, frW, frC, if_pos h, if_pos h, if_pos h, if_pos h2]
theorem frT_someW {s : Nat} {n : Int} {xs : List Int} {a : List (Int × Int)} (h : scode n xs [a] = 0) (h2 : (fstV n xs (mem (vmT [a] [a].length)) a).isSome = true) : AV.tup [ownA eI s 1 (fRow n xs (mem (vmT [a] [a].length)) a), AI ((mem (bnot ((shl64 1 n) - 1) (fTru n xs (mem (vmT [a] [a].length)) a))).getD 0 0), AI 0] = AV.tup [ownA eI s 1 (frR n xs a), AI (frW n xs a), AI (frC n xs a)] := by
  rw [← fWor_some h2]
  exact frT_some h h2
theorem firstT_some {s N : Nat} {n : Int} {xs vs X : List Int} {a : List (Int × Int)} (hX : X = vrow n vs (N : Int)) (h : ∀ M, M < N → badV n xs vs a M = false) (hb : ¬ gv (mT n) (mU n (bxB xs)) X a = (shl64 1 n) - 1) (ht : N < totN n vs) :
    AV.tup [ownA eI s 1 X, AI ((mem (bnot ((shl64 1 n) - 1) (gv (mT n) (mU n (bxB xs)) X a))).getD 0 0), .bool true] = AV.tup [ownA eI s 1 (fRow n xs vs a), AI (fWor n xs vs a), .bool (fstV n xs vs a).isSome] := by
  have e : fstV n xs vs a = some N := fst_some h (badV_yes hX hb) ht
  simp only [fRow, fWor, e, hX]
  rfl
theorem firstT_none {s : Nat} {n : Int} {xs vs : List Int} {a : List (Int × Int)} (h : ∀ M, M < totN n vs → badV n xs vs a M = false) :
    AV.tup [ownA eI s 1 [], AI 0, .bool false] = AV.tup [ownA eI s 1 (fRow n xs vs a), AI (fWor n xs vs a), .bool (fstV n xs vs a).isSome] := by
  have e : fstV n xs vs a = none := fst_none h
  simp only [fRow, fWor, e]
  rfl
theorem fTru_ne {n : Int} {xs vs : List Int} {a : List (Int × Int)} (hR : okFr n xs = true) (ha : OKM 6 a) (hfit : 0 ≤ n * (vs.length : Int) ∧ n * (vs.length : Int) ≤ 16) (h : (fstV n xs vs a).isSome = true) :
    InM 61 (bnot ((shl64 1 n) - 1) (fTru n xs vs a)) ∧ 0 < (mem (bnot ((shl64 1 n) - 1) (fTru n xs vs a))).length := by
  obtain ⟨h0, h8, _, _⟩ := okFr_rel hR
  have hf := inM_full (n := n.toNat) (by omega)
  rw [nn_eq h0] at hf
  cases e : fstV n xs vs a with
  | none => rw [e] at h; cases h
  | some N =>
    have h1 := List.find?_some e
    have h2 : N < totN n vs := by simpa using List.mem_of_find?_eq_some e
    have h3 : (totN n vs : Int) ≤ 65536 := by
      have := shl_one (n * (vs.length : Int)) hfit.1 (by omega)
      have h4 : (2 : Nat) ^ (n * (vs.length : Int)).toNat ≤ 2 ^ 16 := Nat.pow_le_pow_right (by decide) (by omega)
      have h5 : (2 : Int) ^ (n * (vs.length : Int)).toNat = ((2 ^ (n * (vs.length : Int)).toNat : Nat) : Int) := by simp
      unfold totN
      omega
    have ht := tset_in hR ha (X := vrow n vs (N : Int)) (vrow_in h0 h8 (by omega))
    have hi := inM_bnot (by omega) hf ht
    have e2 : fTru n xs vs a = tset n xs (vrow n vs (N : Int)) a := by simp only [fTru, e]
    rw [e2]
    refine ⟨inM_mono (by omega) hi, mem_pos (inM_mono (by omega) hi) fun hz => ?_⟩
    have hsub := (bnot_sub (by omega) hf ht).1 hz
    have : tset n xs (vrow n vs (N : Int)) a = (shl64 1 n) - 1 := by
      refine tb_ext ht.1 hf.1 fun i => ?_
      rw [Bool.eq_iff_iff]
      refine ⟨fun hti => ?_, hsub i⟩
      have := tb_full (n := n.toNat) (by omega) i
      rw [nn_eq h0] at this
      rw [this]
      simpa using tb_lt ht hti
    rw [badT_no this] at h1
    cases h1

theorem FR_spec (n : Int) (xs : List Int) (a : List (Int × Int)) (lx : xs.length ≤ 1048576) (hl : a.length ≤ 1048576) : CallA Tryz.prog 7 [.agg [AI n, LI xs], LN a] (.tup [ownA eI 2 1 (frR n xs a), AI (frW n xs a), AI (frC n xs a)]) := by
  refine CallA.of Tryz.func7 rfl (by kernel_rfl) ?_
  refine R.go 11 (R.lit (s := 1) (n := 1) (cs := rows eLN [a]) (by kernel_rfl) (by kernel_rfl) ?_)
  refine R.call true (l06Code_c n xs [a] (by first | omega | (simp <;> omega)) (by first | assumption | exact shortL_one (by omega))) (by kernel_rfl) rfl (by kernel_rfl) ?_
  refine R.go 8 (R.condN ((scode n xs [a]) = 0) (by kernel_rfl) (fun c1 => ?_) (fun c1 => ?_))
  · refine R.go 7 (R.nil 4 2 1 (by kernel_rfl) ?_)
    exact R.retE (.tup [ownA eI 2 1 [], AI 0, AI (scode n xs [a])]) (by kernel_rfl) (by kernel_rfl) (by first | (first | exact frT_bad (by assumption) | exact frT_none hm (by assumption) | exact frT_someW hm (by assumption) | exact frT_some hm (by assumption)) | (exfalso; omega))
  · have hm : scode n xs [a] = 0 := by assumption
    have hsc := scode_ok hm
    have hF : allF [a] = true := hsc.2.1
    have hR : okFr n xs = true := hsc.1
    have hfit0 : n * ((mem (vmT [a] [a].length)).length : Int) ≤ 16 := hsc.2.2
    have hb0 := okFr_rel hR
    have hmm := mul_mem (vmT [a] [a].length) hb0.1 hb0.2.1
    have hA := isF_okm (show isF a = true by simpa using allF_get hF 0 (by simp))
    refine R.go 5 (R.call true (l06First_c n xs a hF hR hfit0 (by first | omega | (simp <;> omega))) (by kernel_rfl) rfl (by kernel_rfl) ?_)
    refine R.go 14 (R.condM ((fstV n xs (mem (vmT [a] [a].length)) a).isSome) (by kernel_rfl) (fun c2 => ?_) (fun c2 => ?_))
    · refine R.go 6 (R.nil 4 2 1 (by kernel_rfl) ?_)
      exact R.retE (.tup [ownA eI 2 1 [], AI 0, AI 4]) (by kernel_rfl) (by kernel_rfl) (by first | (first | exact frT_bad (by assumption) | exact frT_none hm (by assumption) | exact frT_someW hm (by assumption) | exact frT_some hm (by assumption)) | (exfalso; omega))
    · have hne := fTru_ne hR hA.1 ⟨hmm.1, hfit0⟩ (by assumption)
      have hne1 := hne.1
      have hne2 := hne.2
      have hfull := shl_rng n hb0.1 (by omega)
      refine R.go 6 (R.call true (l01Full_c n (by omega) (by omega)) (by kernel_rfl) rfl (by kernel_rfl) ?_)
      refine R.go 2 (R.call true (l01ListM_c (bnot ((shl64 1 n) - 1) (fTru n xs (mem (vmT [a] [a].length)) a)) (by first | assumption | exact inM61 (by omega) (by omega))).frz (by kernel_rfl) rfl (by kernel_rfl) ?_)
      refine R.idx eI (mem (bnot ((shl64 1 n) - 1) (fTru n xs (mem (vmT [a] [a].length)) a))) 0 0 0 (by kernel_rfl) rfl eI_len (by first | omega | (simp <;> omega)) (by kernel_rfl) ?_
      exact R.go 5 (R.retE (.tup [ownA eI 2 1 (fRow n xs (mem (vmT [a] [a].length)) a), AI ((mem (bnot ((shl64 1 n) - 1) (fTru n xs (mem (vmT [a] [a].length)) a))).getD 0 0), AI 0]) (by kernel_rfl) (by kernel_rfl) (by first | (first | exact frT_bad (by assumption) | exact frT_none hm (by assumption) | exact frT_someW hm (by assumption) | exact frT_some hm (by assumption)) | (exfalso; omega)))

theorem firstRef_c (n : Int) (xs : List Int) (a : List (Int × Int)) (hF : allF [a] = true) (hR : okFr n xs = true) (hfit : n * ((mem (vmT [a] [a].length)).length : Int) ≤ 16) (hl : a.length ≤ 1000000000) : CallA Tryz.prog 18 [.agg [AI n, LI xs], LN a] (.tup [ownA eI 2 1 (fRow n xs (mem (vmT [a] [a].length)) a), AI (fWor n xs (mem (vmT [a] [a].length)) a), .bool ((fstV n xs (mem (vmT [a] [a].length)) a).isSome)]) := by
  obtain ⟨vs, hvs⟩ : ∃ vs, vs = mem (vmT [a] [a].length) := ⟨_, rfl⟩
  rw [← hvs] at hfit ⊢
  have hVS : VS vs := by rw [hvs]; exact VS_vmT hF
  have hRR := okFr_rel hR
  have hb0 : 0 ≤ n ∧ n ≤ 8 ∧ (xs.length : Int) = n := ⟨hRR.1, hRR.2.1, hRR.2.2.1⟩
  have hnc : 0 ≤ n * (vs.length : Int) := Int.mul_nonneg hb0.1 (by omega)
  have htot : shl64 1 (n * (vs.length : Int)) = (totN n vs : Int) := by have := shl_rng (n * (vs.length : Int)) hnc (by omega); unfold totN; omega
  have htr := shl_rng (n * (vs.length : Int)) hnc (by omega)
  have hvl : vs.length ≤ 62 := by rw [hvs]; exact mem_le _
  have hisF : isF a = true := by simpa using allF_get hF 0 (by simp)
  have hA := isF_okm hisF
  have hok : OKM 6 a := hA.1
  have hal : a.length ≤ 40 := hA.2
  refine CallA.of Tryz.func18 rfl (by kernel_rfl) ?_
  refine R.go 13 (R.lit (s := 1) (n := 1) (cs := rows eLN [a]) (by kernel_rfl) (by kernel_rfl) ?_)
  refine R.call true (variablesInG_c [a] vs (by assumption) hF (by first | omega | (simp <;> omega))).frz (by kernel_rfl) rfl (by kernel_rfl) ?_
  refine R.call true (valuations_c n xs vs) (by kernel_rfl) rfl (by kernel_rfl) ?_
  refine R.go 2 (R.range (caps := [.rptr [LI vs], .rptr [AI n, LI xs]]) Tryz.func52 rfl (by kernel_rfl) (by kernel_rfl) ?_)
  intro D1 us2
  refine R.go 8 (R.call true (size_c vs) (by kernel_rfl) rfl (by kernel_rfl) ?_)
  refine R.go 7 (R.ar (n * (vs.length : Int)) (by kernel_rfl) (by omega) (by omega) (by kernel_rfl) ?_)
  refine R.shl 1 (n * (vs.length : Int)) (by kernel_rfl) (by omega) (by kernel_rfl) ?_
  refine R.go 3 (R.loop ((fun | (N, X) => (⟨(frm 48 [(0, .ref 6), (1, .rptr [LI vs]), (2, .rptr [AI n, LI xs]), (4, .ref 7), (5, AI vs.length), (16, AI (shl64 1 (n * (vs.length : Int)))), (17, AI (N : Int))]), [.box 26 [AI n, LI xs], .box 27 [LN a], .box 24 [.nil], .box 2 [AI 0], .box 4 [.bool false], .frame us2 (frm 30 [(0, .agg [AI n, LI xs]), (1, LN a), (2, .ptr 0 0), (3, .ptr 1 0), (4, .ptr 2 0), (5, .ptr 3 0), (6, .ptr 4 0), (9, .agg [AI n, LI xs]), (10, LN a), (11, LLN [a]), (12, LI vs), (13, .fn 52 [.rptr [LI vs], .rptr [AI n, LI xs]])]), loopObj Tryz.f18 D1 us2 .ready, rowA eI 2 1 X]⟩ : St) : Nat × (List Int) → St)) (fun | (N, X) => ((N : Int) ≤ shl64 1 (n * (vs.length : Int))) ∧ (X.length = 6) ∧ (∀ j : Nat, j < 6 → ¬ (j : Int) ∈ vs → X.getD j 0 = 0) ∧ (∀ M, M < N → badV n xs vs a M = false)) (fun | (N, X) => (totN n vs) - N) (0, (List.replicate 6 0)) [0, 1, 2, 4, 5, 16, 17] none (by kernel_rfl) (by kernel_rfl) (by kernel_rfl) ⟨(by omega), (by simp), (by exact zero_out vs), (by exact fun M hM => absurd hM (by omega))⟩ ?_)
  rintro ⟨N, X⟩ ⟨h6_1, h6_2, h6_3, h6_4⟩ R3 N4
  have hfull := shl_rng n hb0.1 (by omega)
  refine R.go 5 (R.cond ((N : Int) < (shl64 1 (n * (vs.length : Int)))) (by kernel_rfl) (fun c7 => ?_) (fun c7 => ?_))
  · refine R.go 16 (R.loop ((fun | (k, Y) => (⟨(frm 48 [(0, .ref 6), (1, .rptr [LI vs]), (2, .rptr [AI n, LI xs]), (4, .ref 7), (5, AI vs.length), (6, AI (N : Int)), (16, AI (shl64 1 (n * (vs.length : Int)))), (17, AI (N : Int)), (20, LI vs), (21, AI vs.length), (22, AI (k : Int))]), [.box 26 [AI n, LI xs], .box 27 [LN a], .box 24 [.nil], .box 2 [AI 0], .box 4 [.bool false], .frame us2 (frm 30 [(0, .agg [AI n, LI xs]), (1, LN a), (2, .ptr 0 0), (3, .ptr 1 0), (4, .ptr 2 0), (5, .ptr 3 0), (6, .ptr 4 0), (9, .agg [AI n, LI xs]), (10, LN a), (11, LLN [a]), (12, LI vs), (13, .fn 52 [.rptr [LI vs], .rptr [AI n, LI xs]])]), loopObj Tryz.f18 D1 us2 .ready, rowA eI 2 1 Y]⟩ : St) : Nat × (List Int) → St)) (fun | (k, Y) => (k ≤ vs.length) ∧ (PV n vs (N : Int) k Y)) (fun | (k, Y) => vs.length - k) (0, X) [0, 1, 2, 4, 5, 6, 16, 17, 20, 21, 22] none (by kernel_rfl) (by kernel_rfl) (by kernel_rfl) ⟨(by omega), (by exact pv_start (by assumption) (by assumption))⟩ ?_)
    rintro ⟨k, Y⟩ ⟨h11_1, h11_2⟩ R8 N9
    have hY : PV n vs (N : Int) k Y := by assumption
    have hYl : Y.length = 6 := hY.1
    have hg := fun h : k < vs.length => vs_get hVS h
    have hnk : k < vs.length → 0 ≤ n * ((vs.length : Int) - 1 - (k : Int)) ∧ n * ((vs.length : Int) - 1 - (k : Int)) ≤ n * (vs.length : Int) := fun h => ⟨Int.mul_nonneg hb0.1 (by omega), Int.mul_le_mul_of_nonneg_left (by omega) hb0.1⟩
    skip
    refine R.go 5 (R.cond ((k : Int) < (vs.length : Int)) (by kernel_rfl) (fun c12 => ?_) (fun c12 => ?_))
    · have hg2 := hg (by omega)
      have hnk2 := hnk (by omega)
      refine R.go 6 (R.idx eI vs 0 k (k : Int) (by kernel_rfl) rfl eI_len (by omega) (by kernel_rfl) ?_)
      refine R.go 11 (R.ar ((vs.length : Int) - 1) (by kernel_rfl) (by omega) (by omega) (by kernel_rfl) ?_)
      refine R.go 1 (R.ar (((vs.length : Int) - 1) - (k : Int)) (by kernel_rfl) (by omega) (by omega) (by kernel_rfl) ?_)
      refine R.ar (n * (((vs.length : Int) - 1) - (k : Int))) (by kernel_rfl) (by omega) (by omega) (by kernel_rfl) ?_
      refine R.shr (N : Int) (n * (((vs.length : Int) - 1) - (k : Int))) (by kernel_rfl) (by omega) (by kernel_rfl) ?_
      refine R.go 1 (R.call true (frameAll_c n xs (by omega) (by omega)) (by kernel_rfl) rfl (by kernel_rfl) ?_)
      refine R.go 1 (R.idxO 7 1 Y.length (((vs.getD k 0)).toNat) (vs.getD k 0) (by kernel_rfl) (by omega) (by omega) (by kernel_rfl) ?_)
      refine R.stI 7 2 Y (((vs.getD k 0)).toNat) (band (shr64 (N : Int) (n * (((vs.length : Int) - 1) - (k : Int)))) ((shl64 1 n) - 1)) (by kernel_rfl) (by omega) (by kernel_rfl) ?_
      refine R.go 3 (R.ar ((k : Int) + 1) (by kernel_rfl) (by omega) (by omega) (by kernel_rfl) ?_)
      exact R.go 2 (R.stop R8 (by kernel_rfl) (N9 (k + 1, Y.set (((vs.getD k 0)).toNat) (band (shr64 (N : Int) (n * (((vs.length : Int) - 1) - (k : Int)))) ((shl64 1 n) - 1))) [0, 1, 2, 4, 5, 6, 16, 17, 20, 21, 22] none _ (by kernel_rfl) (by kernel_rfl) ⟨(by omega), (by exact pv_step hY hVS (by omega) rfl)⟩ (by show (vs.length - (k + 1)) < (vs.length - k); omega)))
    · have hX : Y = vrow n vs (N : Int) := pv_end hY (by omega)
      have hYo : OKM Y.length a := by rw [hYl]; exact hok
      refine R.go 5 (R.yield 6 D1 us2 (by kernel_rfl) (by kernel_rfl) ?_)
      intro l13 us14
      refine R.go 3 (R.begin (by kernel_rfl) (by kernel_rfl) ?_)
      refine R.go 4 (R.call true (frameAll_c n xs (by omega) (by omega)) (by kernel_rfl) rfl (by kernel_rfl) ?_)
      refine R.go 3 (R.call false (truthSet_c n xs Y a hYo (by omega) (by omega) (by first | omega | (simp <;> omega)) hl) (by kernel_rfl) rfl (by kernel_rfl) ?_)
      have htb := totN_le ⟨hnc, hfit⟩
      have hr := rest_ok hR hok hX (show N ≤ 65536 by omega)
      have hr1 := hr.1
      refine R.go 8 (R.condN ((bnot ((shl64 1 n) - 1) (gv (mT n) (mU n (bxB xs)) Y a)) = 0) (by kernel_rfl) (fun c15 => ?_) (fun c15 => ?_))
      · refine R.go 1 (R.any (by decide +kernel) (by kernel_rfl) ?_)
        refine R.any2 0 2 (by kernel_rfl) (by kernel_rfl) ?_ ?_
        · have hr2 := hr.2.2 (by assumption)
          have hr3 := hr2.1
          have hXl : Y.length ≤ 1000000000 := by omega
          refine R.go 2 (R.any2 1 2 (by kernel_rfl) (by kernel_rfl) ?_ ?_)
          · refine R.call false (clone_c Y hXl) (by kernel_rfl) (ownA_closed eI_closed 2 1 Y) (by kernel_rfl) ?_
            refine R.go 1 (R.any1 2 (by kernel_rfl) (by kernel_rfl) ?_)
            refine R.go 2 (R.any1 3 (by kernel_rfl) (by kernel_rfl) ?_)
            refine R.call true (membersOf_c (bnot ((shl64 1 n) - 1) (gv (mT n) (mU n (bxB xs)) Y a)) (by first | assumption | exact inM61 (by omega) (by omega))).frz (by kernel_rfl) rfl (by kernel_rfl) ?_
            refine R.go 1 (R.any2 4 6 (by kernel_rfl) (by kernel_rfl) ?_ ?_)
            · refine R.idx eI (mem (bnot ((shl64 1 n) - 1) (gv (mT n) (mU n (bxB xs)) Y a))) 0 0 0 (by kernel_rfl) rfl eI_len (by omega) (by kernel_rfl) ?_
              refine R.go 1 (R.any2 5 6 (by kernel_rfl) (by kernel_rfl) ?_ ?_)
              · refine R.go 2 (R.any1 6 (by kernel_rfl) (by kernel_rfl) ?_)
                refine R.go 2 (R.any1 7 (by kernel_rfl) (by kernel_rfl) ?_)
                refine R.go 2 (R.any1 8 (by kernel_rfl) (by kernel_rfl) ?_)
                refine R.go 2 (R.any0 (by kernel_rfl) ?_)
                refine R.roundR (frm 48 [(0, .ref 6), (1, .rptr [LI vs]), (2, .rptr [AI n, LI xs]), (4, .ref 7), (5, AI vs.length), (6, AI (N : Int)), (16, AI (shl64 1 (n * (vs.length : Int)))), (17, AI (N : Int)), (20, LI vs), (21, AI vs.length), (22, AI (k : Int)), (23, .bool (decide ((k : Int) < (vs.length : Int)))), (43, .ref 6), (44, .ref 7)]) (by kernel_rfl) (by kernel_rfl) (by kernel_rfl) ?_
                refine R.go 3 (R.left (.ret) (.tup []) (frm 30 [(0, .agg [AI n, LI xs]), (1, LN a), (2, .ptr 0 0), (3, .ptr 1 0), (4, .ptr 2 0), (5, .ptr 3 0), (6, .ptr 4 0), (9, .agg [AI n, LI xs]), (10, LN a), (11, LLN [a]), (12, LI vs), (13, .fn 52 [.rptr [LI vs], .rptr [AI n, LI xs]])]) (by kernel_rfl) (by kernel_rfl) (by kernel_rfl) (by kernel_rfl) ?_)
                exact R.retE (.tup [ownA eI 2 1 Y, AI ((mem (bnot ((shl64 1 n) - 1) (gv (mT n) (mU n (bxB xs)) Y a))).getD 0 0), .bool true]) (by kernel_rfl) (by kernel_rfl) (by first | (first | exact firstT_some hX (by assumption) hr2.2 (by omega) | exact firstT_none (fun M hM => (show ∀ M, M < N → badV n xs vs a M = false by assumption) M (by omega))) | (exfalso; omega))
              · refine R.go 2 (R.any1 5 (by kernel_rfl) (by kernel_rfl) ?_)
                refine R.go 2 (R.any1 7 (by kernel_rfl) (by kernel_rfl) ?_)
                refine R.go 2 (R.any1 8 (by kernel_rfl) (by kernel_rfl) ?_)
                refine R.go 2 (R.any0 (by kernel_rfl) ?_)
                refine R.roundR (frm 48 [(0, .ref 6), (1, .rptr [LI vs]), (2, .rptr [AI n, LI xs]), (4, .ref 7), (5, AI vs.length), (6, AI (N : Int)), (16, AI (shl64 1 (n * (vs.length : Int)))), (17, AI (N : Int)), (20, LI vs), (21, AI vs.length), (22, AI (k : Int)), (23, .bool (decide ((k : Int) < (vs.length : Int)))), (43, .ref 6), (44, .ref 7)]) (by kernel_rfl) (by kernel_rfl) (by kernel_rfl) ?_
                refine R.go 3 (R.left (.ret) (.tup []) (frm 30 [(0, .agg [AI n, LI xs]), (1, LN a), (2, .ptr 0 0), (3, .ptr 1 0), (4, .ptr 2 0), (5, .ptr 3 0), (6, .ptr 4 0), (9, .agg [AI n, LI xs]), (10, LN a), (11, LLN [a]), (12, LI vs), (13, .fn 52 [.rptr [LI vs], .rptr [AI n, LI xs]])]) (by kernel_rfl) (by kernel_rfl) (by kernel_rfl) (by kernel_rfl) ?_)
                exact R.retE (.tup [ownA eI 2 1 Y, AI ((mem (bnot ((shl64 1 n) - 1) (gv (mT n) (mU n (bxB xs)) Y a))).getD 0 0), .bool true]) (by kernel_rfl) (by kernel_rfl) (by first | (first | exact firstT_some hX (by assumption) hr2.2 (by omega) | exact firstT_none (fun M hM => (show ∀ M, M < N → badV n xs vs a M = false by assumption) M (by omega))) | (exfalso; omega))
            · refine R.go 2 (R.any1 4 (by kernel_rfl) (by kernel_rfl) ?_)
              refine R.idx eI (mem (bnot ((shl64 1 n) - 1) (gv (mT n) (mU n (bxB xs)) Y a))) 0 0 0 (by kernel_rfl) rfl eI_len (by omega) (by kernel_rfl) ?_
              refine R.go 1 (R.any1 5 (by kernel_rfl) (by kernel_rfl) ?_)
              refine R.go 2 (R.any1 7 (by kernel_rfl) (by kernel_rfl) ?_)
              refine R.go 2 (R.any1 8 (by kernel_rfl) (by kernel_rfl) ?_)
              refine R.go 2 (R.any0 (by kernel_rfl) ?_)
              refine R.roundR (frm 48 [(0, .ref 6), (1, .rptr [LI vs]), (2, .rptr [AI n, LI xs]), (4, .ref 7), (5, AI vs.length), (6, AI (N : Int)), (16, AI (shl64 1 (n * (vs.length : Int)))), (17, AI (N : Int)), (20, LI vs), (21, AI vs.length), (22, AI (k : Int)), (23, .bool (decide ((k : Int) < (vs.length : Int)))), (43, .ref 6), (44, .ref 7)]) (by kernel_rfl) (by kernel_rfl) (by kernel_rfl) ?_
              refine R.go 3 (R.left (.ret) (.tup []) (frm 30 [(0, .agg [AI n, LI xs]), (1, LN a), (2, .ptr 0 0), (3, .ptr 1 0), (4, .ptr 2 0), (5, .ptr 3 0), (6, .ptr 4 0), (9, .agg [AI n, LI xs]), (10, LN a), (11, LLN [a]), (12, LI vs), (13, .fn 52 [.rptr [LI vs], .rptr [AI n, LI xs]])]) (by kernel_rfl) (by kernel_rfl) (by kernel_rfl) (by kernel_rfl) ?_)
              exact R.retE (.tup [ownA eI 2 1 Y, AI ((mem (bnot ((shl64 1 n) - 1) (gv (mT n) (mU n (bxB xs)) Y a))).getD 0 0), .bool true]) (by kernel_rfl) (by kernel_rfl) (by first | (first | exact firstT_some hX (by assumption) hr2.2 (by omega) | exact firstT_none (fun M hM => (show ∀ M, M < N → badV n xs vs a M = false by assumption) M (by omega))) | (exfalso; omega))
          · refine R.go 2 (R.any1 1 (by kernel_rfl) (by kernel_rfl) ?_)
            refine R.call false (clone_c Y hXl) (by kernel_rfl) (ownA_closed eI_closed 2 1 Y) (by kernel_rfl) ?_
            refine R.go 1 (R.any1 3 (by kernel_rfl) (by kernel_rfl) ?_)
            refine R.call true (membersOf_c (bnot ((shl64 1 n) - 1) (gv (mT n) (mU n (bxB xs)) Y a)) (by first | assumption | exact inM61 (by omega) (by omega))).frz (by kernel_rfl) rfl (by kernel_rfl) ?_
            refine R.go 1 (R.any2 4 6 (by kernel_rfl) (by kernel_rfl) ?_ ?_)
            · refine R.idx eI (mem (bnot ((shl64 1 n) - 1) (gv (mT n) (mU n (bxB xs)) Y a))) 0 0 0 (by kernel_rfl) rfl eI_len (by omega) (by kernel_rfl) ?_
              refine R.go 1 (R.any2 5 6 (by kernel_rfl) (by kernel_rfl) ?_ ?_)
              · refine R.go 2 (R.any1 6 (by kernel_rfl) (by kernel_rfl) ?_)
                refine R.go 2 (R.any1 7 (by kernel_rfl) (by kernel_rfl) ?_)
                refine R.go 2 (R.any1 8 (by kernel_rfl) (by kernel_rfl) ?_)
                refine R.go 2 (R.any0 (by kernel_rfl) ?_)
                refine R.roundR (frm 48 [(0, .ref 6), (1, .rptr [LI vs]), (2, .rptr [AI n, LI xs]), (4, .ref 7), (5, AI vs.length), (6, AI (N : Int)), (16, AI (shl64 1 (n * (vs.length : Int)))), (17, AI (N : Int)), (20, LI vs), (21, AI vs.length), (22, AI (k : Int)), (23, .bool (decide ((k : Int) < (vs.length : Int)))), (43, .ref 6), (44, .ref 7)]) (by kernel_rfl) (by kernel_rfl) (by kernel_rfl) ?_
                refine R.go 3 (R.left (.ret) (.tup []) (frm 30 [(0, .agg [AI n, LI xs]), (1, LN a), (2, .ptr 0 0), (3, .ptr 1 0), (4, .ptr 2 0), (5, .ptr 3 0), (6, .ptr 4 0), (9, .agg [AI n, LI xs]), (10, LN a), (11, LLN [a]), (12, LI vs), (13, .fn 52 [.rptr [LI vs], .rptr [AI n, LI xs]])]) (by kernel_rfl) (by kernel_rfl) (by kernel_rfl) (by kernel_rfl) ?_)
                exact R.retE (.tup [ownA eI 2 1 Y, AI ((mem (bnot ((shl64 1 n) - 1) (gv (mT n) (mU n (bxB xs)) Y a))).getD 0 0), .bool true]) (by kernel_rfl) (by kernel_rfl) (by first | (first | exact firstT_some hX (by assumption) hr2.2 (by omega) | exact firstT_none (fun M hM => (show ∀ M, M < N → badV n xs vs a M = false by assumption) M (by omega))) | (exfalso; omega))
              · refine R.go 2 (R.any1 5 (by kernel_rfl) (by kernel_rfl) ?_)
                refine R.go 2 (R.any1 7 (by kernel_rfl) (by kernel_rfl) ?_)
                refine R.go 2 (R.any1 8 (by kernel_rfl) (by kernel_rfl) ?_)
                refine R.go 2 (R.any0 (by kernel_rfl) ?_)
                refine R.roundR (frm 48 [(0, .ref 6), (1, .rptr [LI vs]), (2, .rptr [AI n, LI xs]), (4, .ref 7), (5, AI vs.length), (6, AI (N : Int)), (16, AI (shl64 1 (n * (vs.length : Int)))), (17, AI (N : Int)), (20, LI vs), (21, AI vs.length), (22, AI (k : Int)), (23, .bool (decide ((k : Int) < (vs.length : Int)))), (43, .ref 6), (44, .ref 7)]) (by kernel_rfl) (by kernel_rfl) (by kernel_rfl) ?_
                refine R.go 3 (R.left (.ret) (.tup []) (frm 30 [(0, .agg [AI n, LI xs]), (1, LN a), (2, .ptr 0 0), (3, .ptr 1 0), (4, .ptr 2 0), (5, .ptr 3 0), (6, .ptr 4 0), (9, .agg [AI n, LI xs]), (10, LN a), (11, LLN [a]), (12, LI vs), (13, .fn 52 [.rptr [LI vs], .rptr [AI n, LI xs]])]) (by kernel_rfl) (by kernel_rfl) (by kernel_rfl) (by kernel_rfl) ?_)
                exact R.retE (.tup [ownA eI 2 1 Y, AI ((mem (bnot ((shl64 1 n) - 1) (gv (mT n) (mU n (bxB xs)) Y a))).getD 0 0), .bool true]) (by kernel_rfl) (by kernel_rfl) (by first | (first | exact firstT_some hX (by assumption) hr2.2 (by omega) | exact firstT_none (fun M hM => (show ∀ M, M < N → badV n xs vs a M = false by assumption) M (by omega))) | (exfalso; omega))
            · refine R.go 2 (R.any1 4 (by kernel_rfl) (by kernel_rfl) ?_)
              refine R.idx eI (mem (bnot ((shl64 1 n) - 1) (gv (mT n) (mU n (bxB xs)) Y a))) 0 0 0 (by kernel_rfl) rfl eI_len (by omega) (by kernel_rfl) ?_
              refine R.go 1 (R.any1 5 (by kernel_rfl) (by kernel_rfl) ?_)
              refine R.go 2 (R.any1 7 (by kernel_rfl) (by kernel_rfl) ?_)
              refine R.go 2 (R.any1 8 (by kernel_rfl) (by kernel_rfl) ?_)
              refine R.go 2 (R.any0 (by kernel_rfl) ?_)
              refine R.roundR (frm 48 [(0, .ref 6), (1, .rptr [LI vs]), (2, .rptr [AI n, LI xs]), (4, .ref 7), (5, AI vs.length), (6, AI (N : Int)), (16, AI (shl64 1 (n * (vs.length : Int)))), (17, AI (N : Int)), (20, LI vs), (21, AI vs.length), (22, AI (k : Int)), (23, .bool (decide ((k : Int) < (vs.length : Int)))), (43, .ref 6), (44, .ref 7)]) (by kernel_rfl) (by kernel_rfl) (by kernel_rfl) ?_
              refine R.go 3 (R.left (.ret) (.tup []) (frm 30 [(0, .agg [AI n, LI xs]), (1, LN a), (2, .ptr 0 0), (3, .ptr 1 0), (4, .ptr 2 0), (5, .ptr 3 0), (6, .ptr 4 0), (9, .agg [AI n, LI xs]), (10, LN a), (11, LLN [a]), (12, LI vs), (13, .fn 52 [.rptr [LI vs], .rptr [AI n, LI xs]])]) (by kernel_rfl) (by kernel_rfl) (by kernel_rfl) (by kernel_rfl) ?_)
              exact R.retE (.tup [ownA eI 2 1 Y, AI ((mem (bnot ((shl64 1 n) - 1) (gv (mT n) (mU n (bxB xs)) Y a))).getD 0 0), .bool true]) (by kernel_rfl) (by kernel_rfl) (by first | (first | exact firstT_some hX (by assumption) hr2.2 (by omega) | exact firstT_none (fun M hM => (show ∀ M, M < N → badV n xs vs a M = false by assumption) M (by omega))) | (exfalso; omega))
        · refine R.go 2 (R.any1 0 (by kernel_rfl) (by kernel_rfl) ?_)
          have hr2 := hr.2.2 (by assumption)
          have hr3 := hr2.1
          have hXl : Y.length ≤ 1000000000 := by omega
          refine R.go 2 (R.any1 1 (by kernel_rfl) (by kernel_rfl) ?_)
          refine R.call false (clone_c Y hXl) (by kernel_rfl) (ownA_closed eI_closed 2 1 Y) (by kernel_rfl) ?_
          refine R.go 1 (R.any1 3 (by kernel_rfl) (by kernel_rfl) ?_)
          refine R.call true (membersOf_c (bnot ((shl64 1 n) - 1) (gv (mT n) (mU n (bxB xs)) Y a)) (by first | assumption | exact inM61 (by omega) (by omega))).frz (by kernel_rfl) rfl (by kernel_rfl) ?_
          refine R.go 1 (R.any2 4 6 (by kernel_rfl) (by kernel_rfl) ?_ ?_)
          · refine R.idx eI (mem (bnot ((shl64 1 n) - 1) (gv (mT n) (mU n (bxB xs)) Y a))) 0 0 0 (by kernel_rfl) rfl eI_len (by omega) (by kernel_rfl) ?_
            refine R.go 1 (R.any2 5 6 (by kernel_rfl) (by kernel_rfl) ?_ ?_)
            · refine R.go 2 (R.any1 6 (by kernel_rfl) (by kernel_rfl) ?_)
              refine R.go 2 (R.any1 7 (by kernel_rfl) (by kernel_rfl) ?_)
              refine R.go 2 (R.any1 8 (by kernel_rfl) (by kernel_rfl) ?_)
              refine R.go 2 (R.any0 (by kernel_rfl) ?_)
              refine R.roundR (frm 48 [(0, .ref 6), (1, .rptr [LI vs]), (2, .rptr [AI n, LI xs]), (4, .ref 7), (5, AI vs.length), (6, AI (N : Int)), (16, AI (shl64 1 (n * (vs.length : Int)))), (17, AI (N : Int)), (20, LI vs), (21, AI vs.length), (22, AI (k : Int)), (23, .bool (decide ((k : Int) < (vs.length : Int)))), (43, .ref 6), (44, .ref 7)]) (by kernel_rfl) (by kernel_rfl) (by kernel_rfl) ?_
              refine R.go 3 (R.left (.ret) (.tup []) (frm 30 [(0, .agg [AI n, LI xs]), (1, LN a), (2, .ptr 0 0), (3, .ptr 1 0), (4, .ptr 2 0), (5, .ptr 3 0), (6, .ptr 4 0), (9, .agg [AI n, LI xs]), (10, LN a), (11, LLN [a]), (12, LI vs), (13, .fn 52 [.rptr [LI vs], .rptr [AI n, LI xs]])]) (by kernel_rfl) (by kernel_rfl) (by kernel_rfl) (by kernel_rfl) ?_)
              exact R.retE (.tup [ownA eI 2 1 Y, AI ((mem (bnot ((shl64 1 n) - 1) (gv (mT n) (mU n (bxB xs)) Y a))).getD 0 0), .bool true]) (by kernel_rfl) (by kernel_rfl) (by first | (first | exact firstT_some hX (by assumption) hr2.2 (by omega) | exact firstT_none (fun M hM => (show ∀ M, M < N → badV n xs vs a M = false by assumption) M (by omega))) | (exfalso; omega))
            · refine R.go 2 (R.any1 5 (by kernel_rfl) (by kernel_rfl) ?_)
              refine R.go 2 (R.any1 7 (by kernel_rfl) (by kernel_rfl) ?_)
              refine R.go 2 (R.any1 8 (by kernel_rfl) (by kernel_rfl) ?_)
              refine R.go 2 (R.any0 (by kernel_rfl) ?_)
              refine R.roundR (frm 48 [(0, .ref 6), (1, .rptr [LI vs]), (2, .rptr [AI n, LI xs]), (4, .ref 7), (5, AI vs.length), (6, AI (N : Int)), (16, AI (shl64 1 (n * (vs.length : Int)))), (17, AI (N : Int)), (20, LI vs), (21, AI vs.length), (22, AI (k : Int)), (23, .bool (decide ((k : Int) < (vs.length : Int)))), (43, .ref 6), (44, .ref 7)]) (by kernel_rfl) (by kernel_rfl) (by kernel_rfl) ?_
              refine R.go 3 (R.left (.ret) (.tup []) (frm 30 [(0, .agg [AI n, LI xs]), (1, LN a), (2, .ptr 0 0), (3, .ptr 1 0), (4, .ptr 2 0), (5, .ptr 3 0), (6, .ptr 4 0), (9, .agg [AI n, LI xs]), (10, LN a), (11, LLN [a]), (12, LI vs), (13, .fn 52 [.rptr [LI vs], .rptr [AI n, LI xs]])]) (by kernel_rfl) (by kernel_rfl) (by kernel_rfl) (by kernel_rfl) ?_)
              exact R.retE (.tup [ownA eI 2 1 Y, AI ((mem (bnot ((shl64 1 n) - 1) (gv (mT n) (mU n (bxB xs)) Y a))).getD 0 0), .bool true]) (by kernel_rfl) (by kernel_rfl) (by first | (first | exact firstT_some hX (by assumption) hr2.2 (by omega) | exact firstT_none (fun M hM => (show ∀ M, M < N → badV n xs vs a M = false by assumption) M (by omega))) | (exfalso; omega))
          · refine R.go 2 (R.any1 4 (by kernel_rfl) (by kernel_rfl) ?_)
            refine R.idx eI (mem (bnot ((shl64 1 n) - 1) (gv (mT n) (mU n (bxB xs)) Y a))) 0 0 0 (by kernel_rfl) rfl eI_len (by omega) (by kernel_rfl) ?_
            refine R.go 1 (R.any1 5 (by kernel_rfl) (by kernel_rfl) ?_)
            refine R.go 2 (R.any1 7 (by kernel_rfl) (by kernel_rfl) ?_)
            refine R.go 2 (R.any1 8 (by kernel_rfl) (by kernel_rfl) ?_)
            refine R.go 2 (R.any0 (by kernel_rfl) ?_)
            refine R.roundR (frm 48 [(0, .ref 6), (1, .rptr [LI vs]), (2, .rptr [AI n, LI xs]), (4, .ref 7), (5, AI vs.length), (6, AI (N : Int)), (16, AI (shl64 1 (n * (vs.length : Int)))), (17, AI (N : Int)), (20, LI vs), (21, AI vs.length), (22, AI (k : Int)), (23, .bool (decide ((k : Int) < (vs.length : Int)))), (43, .ref 6), (44, .ref 7)]) (by kernel_rfl) (by kernel_rfl) (by kernel_rfl) ?_
            refine R.go 3 (R.left (.ret) (.tup []) (frm 30 [(0, .agg [AI n, LI xs]), (1, LN a), (2, .ptr 0 0), (3, .ptr 1 0), (4, .ptr 2 0), (5, .ptr 3 0), (6, .ptr 4 0), (9, .agg [AI n, LI xs]), (10, LN a), (11, LLN [a]), (12, LI vs), (13, .fn 52 [.rptr [LI vs], .rptr [AI n, LI xs]])]) (by kernel_rfl) (by kernel_rfl) (by kernel_rfl) (by kernel_rfl) ?_)
            exact R.retE (.tup [ownA eI 2 1 Y, AI ((mem (bnot ((shl64 1 n) - 1) (gv (mT n) (mU n (bxB xs)) Y a))).getD 0 0), .bool true]) (by kernel_rfl) (by kernel_rfl) (by first | (first | exact firstT_some hX (by assumption) hr2.2 (by omega) | exact firstT_none (fun M hM => (show ∀ M, M < N → badV n xs vs a M = false by assumption) M (by omega))) | (exfalso; omega))
      · refine R.go 2 (R.round (frm 48 [(0, .ref 6), (1, .rptr [LI vs]), (2, .rptr [AI n, LI xs]), (4, .ref 7), (5, AI vs.length), (6, AI (N : Int)), (16, AI (shl64 1 (n * (vs.length : Int)))), (17, AI (N : Int)), (20, LI vs), (21, AI vs.length), (22, AI (k : Int)), (23, .bool (decide ((k : Int) < (vs.length : Int)))), (43, .ref 6), (44, .ref 7)]) (by kernel_rfl) (by kernel_rfl) (by kernel_rfl) ?_)
        refine R.go 6 (R.ar ((N : Int) + 1) (by kernel_rfl) (by omega) (by omega) (by kernel_rfl) ?_)
        exact R.go 2 (R.stop R3 (by kernel_rfl) (N4 (N + 1, Y) [0, 1, 2, 4, 5, 16, 17] (some [0, 1, 2, 3, 4, 5, 6, 7]) _ (by kernel_rfl) (by kernel_rfl) ⟨(by omega), (by rw [hX]; exact vrow_len _ _ _), (by rw [hX]; exact vrow_out), (by exact below_succ (by assumption) (badV_no hX (hr.2.1 (by assumption))))⟩ (by show ((totN n vs) - (N + 1)) < ((totN n vs) - N); omega)))
  · refine R.go 1 (R.over (.tup []) (frm 30 [(0, .agg [AI n, LI xs]), (1, LN a), (2, .ptr 0 0), (3, .ptr 1 0), (4, .ptr 2 0), (5, .ptr 3 0), (6, .ptr 4 0), (9, .agg [AI n, LI xs]), (10, LN a), (11, LLN [a]), (12, LI vs), (13, .fn 52 [.rptr [LI vs], .rptr [AI n, LI xs]])]) (by kernel_rfl) (by kernel_rfl) (by kernel_rfl) (by kernel_rfl) ?_)
    refine R.go 7 (R.nilB 2 0 2 1 (by kernel_rfl) ?_)
    exact R.retE (.tup [ownA eI 2 1 [], AI 0, .bool false]) (by kernel_rfl) (by kernel_rfl) (by first | (first | exact firstT_some hX (by assumption) hr2.2 (by omega) | exact firstT_none (fun M hM => (show ∀ M, M < N → badV n xs vs a M = false by assumption) M (by omega))) | (exfalso; omega))

theorem FR_impl (n : Int) (xs : List Int) (a : List (Int × Int)) (lx : xs.length ≤ 1048576) (hl : a.length ≤ 1048576) : CallA Tryz.prog 6 [.agg [AI n, LI xs], LN a] (.tup [ownA eI 2 1 (frR n xs a), AI (frW n xs a), AI (frC n xs a)]) := by
  refine CallA.of Tryz.func6 rfl (by kernel_rfl) ?_
  refine R.go 12 (R.lit (s := 1) (n := 1) (cs := rows eLN [a]) (by kernel_rfl) (by kernel_rfl) ?_)
  refine R.call true (searchCode_c n xs [a] (by first | omega | (simp <;> omega)) (by first | assumption | exact shortL_one (by omega))) (by kernel_rfl) rfl (by kernel_rfl) ?_
  refine R.go 7 (R.condN ((scode n xs [a]) = 0) (by kernel_rfl) (fun c1 => ?_) (fun c1 => ?_))
  · refine R.go 7 (R.nil 4 2 1 (by kernel_rfl) ?_)
    exact R.retE (.tup [ownA eI 2 1 [], AI 0, AI (scode n xs [a])]) (by kernel_rfl) (by kernel_rfl) (by first | (first | exact frT_bad (by assumption) | exact frT_none hm (by assumption) | exact frT_someW hm (by assumption) | exact frT_some hm (by assumption)) | (exfalso; omega))
  · have hm : scode n xs [a] = 0 := by assumption
    have hsc := scode_ok hm
    have hF : allF [a] = true := hsc.2.1
    have hR : okFr n xs = true := hsc.1
    have hfit0 : n * ((mem (vmT [a] [a].length)).length : Int) ≤ 16 := hsc.2.2
    have hb0 := okFr_rel hR
    have hmm := mul_mem (vmT [a] [a].length) hb0.1 hb0.2.1
    have hA := isF_okm (show isF a = true by simpa using allF_get hF 0 (by simp))
    refine R.go 5 (R.call true (firstRef_c n xs a hF hR hfit0 (by first | omega | (simp <;> omega))) (by kernel_rfl) rfl (by kernel_rfl) ?_)
    refine R.go 14 (R.condM ((fstV n xs (mem (vmT [a] [a].length)) a).isSome) (by kernel_rfl) (fun c2 => ?_) (fun c2 => ?_))
    · refine R.go 6 (R.nil 4 2 1 (by kernel_rfl) ?_)
      exact R.retE (.tup [ownA eI 2 1 [], AI 0, AI 4]) (by kernel_rfl) (by kernel_rfl) (by first | (first | exact frT_bad (by assumption) | exact frT_none hm (by assumption) | exact frT_someW hm (by assumption) | exact frT_some hm (by assumption)) | (exfalso; omega))
    · exact R.go 9 (R.retE (.tup [ownA eI 2 1 (fRow n xs (mem (vmT [a] [a].length)) a), AI (fWor n xs (mem (vmT [a] [a].length)) a), AI 0]) (by kernel_rfl) (by kernel_rfl) (by first | (first | exact frT_bad (by assumption) | exact frT_none hm (by assumption) | exact frT_someW hm (by assumption) | exact frT_some hm (by assumption)) | (exfalso; omega)))

end Go.Proofs.YtejaikeemahobaaGreat


/-! Truth by worlds; formulas by their parts. -/
namespace Go.Proofs.YtejaikeemahobaaGreat
open Go.RowKit Go.Abs

/-- A formula is a variable, False, two parts under a node, or one. -/
theorem okm_cases {nv : Nat} {a : List (Int × Int)} (h : OKM nv a) : (∃ v, a = [(0, v)] ∧ 0 ≤ v ∧ v < nv) ∨ (∃ s, a = [(1, s)]) ∨ (∃ k s L R, (k = 2 ∨ k = 3 ∨ k = 4) ∧ a = (k, s) :: (L ++ R) ∧ OKM nv L ∧ OKM nv R ∧ lef a = L ∧ rig a = R) ∨ (∃ k s L, (k = 5 ∨ k = 6) ∧ a = (k, s) :: L ∧ OKM nv L) := by
  obtain ⟨⟨k, s⟩, r, rfl, hr⟩ := okm_cons h
  have hk := h.2 (k, s) (List.mem_cons_self ..)
  simp only at hk hr
  have hp : partsN k = 0 ∨ partsN k = 1 ∨ partsN k = 2 := by have := partsN_le k; omega
  rcases hp with hp | hp | hp
  · rw [hp, pe_zero] at hr
    have h0 : r = [] := List.eq_nil_of_length_eq_zero (by simpa using hr.symm)
    subst h0
    have hk01 : k = 0 ∨ k = 1 := by
      have h2 : ¬ (k = 2 ∨ k = 3 ∨ k = 4) := fun hq => by have := (partsN_two k).2 hq; omega
      have h5 : ¬ (k = 5 ∨ k = 6) := fun hq => by have := partsN_1 hq; omega
      omega
    rcases hk01 with rfl | rfl
    · exact .inl ⟨s, rfl, hk.2.2 rfl⟩
    · exact .inr (.inl ⟨s, rfl⟩)
  · obtain ⟨x, r', e, h1, h2⟩ := okm_one h (by simpa using hp)
    cases e
    refine .inr (.inr (.inr ⟨k, s, r, ?_, rfl, h1⟩))
    have h2 : ¬ (k = 2 ∨ k = 3 ∨ k = 4) := fun hq => by have := (partsN_two k).2 hq; omega
    have h0 : ¬ k = 0 := fun e => by subst e; exact absurd hp (by decide)
    have h1 : ¬ k = 1 := fun e => by subst e; exact absurd hp (by decide)
    omega
  · obtain ⟨x, L, R, e, h1, h2, _, h4, h5⟩ := okm_two h (by simpa using hp)
    cases e
    exact .inr (.inr (.inl ⟨k, s, L, R, (partsN_two k).1 hp, rfl, h1, h2, h4, h5⟩))

/-- What holds of a formula if it holds of its parts. -/
theorem okm_ind {nv : Nat} {C : List (Int × Int) → Prop} (hv : ∀ v : Int, 0 ≤ v → v < nv → C [(0, v)]) (hb : ∀ s : Int, C [(1, s)])
    (h2 : ∀ (k s : Int) (L R : List (Int × Int)), (k = 2 ∨ k = 3 ∨ k = 4) → OKM nv ((k, s) :: (L ++ R)) → OKM nv L → OKM nv R → C L → C R → C ((k, s) :: (L ++ R))) (h1 : ∀ (k s : Int) (L : List (Int × Int)), (k = 5 ∨ k = 6) → OKM nv ((k, s) :: L) → OKM nv L → C L → C ((k, s) :: L)) :
    ∀ {a : List (Int × Int)}, OKM nv a → C a := by
  intro a0 ha0
  have main : ∀ (m : Nat) (a : List (Int × Int)), a.length = m → OKM nv a → C a := by
    intro m
    induction m using Nat.strongRecOn with
    | _ m ih =>
      intro a hm ha
      rcases okm_cases ha with ⟨v, rfl, h0, h3⟩ | ⟨s, rfl⟩ | ⟨k, s, L, R, hk, rfl, hL, hR, _, _⟩ | ⟨k, s, L, hk, rfl, hL⟩
      · exact hv v h0 h3
      · exact hb s
      · simp only [List.length_cons, List.length_append] at hm
        exact h2 k s L R hk ha hL hR (ih _ (by omega) L rfl hL) (ih _ (by omega) R rfl hR)
      · simp only [List.length_cons] at hm
        exact h1 k s L hk ha hL (ih _ (by omega) L rfl hL)
  exact main _ _ rfl ha0

section
variable (b : Int → Int → Int → Int) (u : Int → Int → Int) (vs : List Int)
theorem gv_var1 (v : Int) : gv b u vs [(0, v)] = vs.getD v.toNat 0 := rfl
theorem gv_two1 {nv : Nat} {k s : Int} {L R : List (Int × Int)} (hk : k = 2 ∨ k = 3 ∨ k = 4) (hL : OKM nv L) (hR : OKM nv R) : gv b u vs ((k, s) :: (L ++ R)) = b k (gv b u vs L) (gv b u vs R) := by
  conv => lhs; unfold gv stkG
  rw [List.foldr_cons, List.foldr_append, okm_stk b u vs hR, okm_stk b u vs hL, stepG_two _ _ _ hk]
  rfl
theorem gv_one1 {nv : Nat} {k s : Int} {L : List (Int × Int)} (hk : k = 5 ∨ k = 6) (hL : OKM nv L) : gv b u vs ((k, s) :: L) = u k (gv b u vs L) := by
  conv => lhs; unfold gv stkG
  rw [List.foldr_cons, okm_stk b u vs hL, stepG_one _ _ _ hk]
  rfl
end

/-- Formulas put together. -/
theorem pe_app {o p n : Nat} : ∀ {l r : List (Int × Int)}, pe o l = some l.length → pe p r = some n → pe (o + p) (l ++ r) = some (l.length + n)
  | l, r, h1, h2 => by
    induction l generalizing o with
    | nil =>
      cases o with
      | zero => simpa using h2
      | succ o => cases h1
    | cons x l ih =>
      cases o with
      | zero => rw [pe_zero] at h1; simp at h1
      | succ o =>
        obtain ⟨k, hk, h1⟩ := pe_cons h1
        have hk : k = l.length := by simpa using hk.symm
        subst hk
        have := ih h1
        rw [show o + 1 + p = (o + p) + 1 by omega, List.cons_append, pe_succ, show o + p + partsN x.1 = o + partsN x.1 + p by omega, this]
        simp; omega
theorem okm_var {nv : Nat} {v : Int} (h0 : 0 ≤ v) (h1 : v < nv) : OKM nv [(0, v)] := ⟨rfl, fun x hx => by simp at hx; subst hx; exact ⟨Int.le_refl 0, by simp, fun _ => ⟨h0, h1⟩⟩⟩
theorem okm_bot {nv : Nat} (s : Int) : OKM nv [(1, s)] := ⟨rfl, fun x hx => by simp at hx; subst hx; exact ⟨by simp, by simp, fun h => by simp at h⟩⟩
theorem okm_mk2 {nv : Nat} {k s : Int} {L R : List (Int × Int)} (hk : k = 2 ∨ k = 3 ∨ k = 4) (hL : OKM nv L) (hR : OKM nv R) : OKM nv ((k, s) :: (L ++ R)) := by
  refine ⟨?_, fun x hx => ?_⟩
  · rw [show (1 : Nat) = 0 + 1 from rfl, pe_succ, show partsN (k, s).1 = 2 from (partsN_two k).2 hk]
    rw [show 0 + 2 = 1 + 1 from rfl, pe_app hL.1 hR.1]
    simp
  · rcases List.mem_cons.1 hx with rfl | hx
    · exact ⟨by simp only; omega, by simp only; omega, fun h => by simp only at h; omega⟩
    · rcases List.mem_append.1 hx with hx | hx
      · exact hL.2 x hx
      · exact hR.2 x hx
theorem okm_mk1 {nv : Nat} {k s : Int} {L : List (Int × Int)} (hk : k = 5 ∨ k = 6) (hL : OKM nv L) : OKM nv ((k, s) :: L) := by
  refine ⟨?_, fun x hx => ?_⟩
  · rw [show (1 : Nat) = 0 + 1 from rfl, pe_succ, show partsN (k, s).1 = 1 from partsN_1 hk, show 0 + 1 = 1 from rfl, hL.1]
    simp
  · rcases List.mem_cons.1 hx with rfl | hx
    · exact ⟨by simp only; omega, by simp only; omega, fun h => by simp only at h; omega⟩
    · exact hL.2 x hx
/-! Bits of truth sets. -/
section
variable {n : Int} {xs X : List Int} (hR : okFr n xs = true) (hX : ∀ j : Nat, j < 6 → InM n.toNat (X.getD j 0))
include hR hX
end
theorem full_iff {n : Int} {m : Int} (h0 : 0 ≤ n) (h8 : n ≤ 8) (hm : InM n.toNat m) : m = (shl64 1 n) - 1 ↔ ∀ w, w < n.toNat → tb m w = true := by
  have hf := inM_full (n := n.toNat) (by omega)
  have htf : ∀ j, tb ((shl64 1 n) - 1) j = decide (j < n.toNat) := fun j => by
    have ht := tb_full (n := n.toNat) (by omega) j
    rwa [nn_eq h0] at ht
  rw [nn_eq h0] at hf
  constructor
  · rintro rfl w hw
    rw [htf, decide_eq_true hw]
  · intro h
    refine tb_ext hm.1 hf.1 fun w => ?_
    rw [htf]
    by_cases hw : w < n.toNat
    · rw [h w hw, decide_eq_true hw]
    · rw [decide_eq_false hw]
      cases e : tb m w with
      | false => rfl
      | true => exact absurd (tb_lt hm e) hw

end Go.Proofs.YtejaikeemahobaaGreat


/-! Validity by all valuations; substitution. -/
namespace Go.Proofs.YtejaikeemahobaaGreat
open Go.RowKit Go.Abs

/-- The number of a valuation. -/
def encV (q : Nat) (Y : List Int) : List Int → Nat
  | [] => 0
  | v :: r => (Y.getD v.toNat 0).toNat * 2 ^ (q * r.length) + encV q Y r
theorem encV_lt {q : Nat} {Y : List Int} : ∀ {l : List Int}, (∀ v ∈ l, (Y.getD v.toNat 0).toNat < 2 ^ q) → encV q Y l < 2 ^ (q * l.length)
  | [], _ => by simp [encV]
  | v :: r, h => by
    have ih := encV_lt (l := r) fun u hu => h u (List.mem_cons_of_mem _ hu)
    have hv := h v (List.mem_cons_self ..)
    rw [encV, List.length_cons, Nat.mul_succ, Nat.pow_add, Nat.mul_comm (2 ^ (q * r.length))]
    generalize 2 ^ (q * r.length) = A at ih ⊢
    generalize (Y.getD v.toNat 0).toNat = a at hv ⊢
    generalize 2 ^ q = B at hv ⊢
    calc a * A + encV q Y r < a * A + A := by omega
      _ = (a + 1) * A := by rw [Nat.add_mul, Nat.one_mul]
      _ ≤ B * A := Nat.mul_le_mul_right _ (by omega)
theorem encV_get {q : Nat} {Y : List Int} : ∀ {l : List Int}, (∀ v ∈ l, (Y.getD v.toNat 0).toNat < 2 ^ q) → ∀ k, k < l.length → encV q Y l / 2 ^ (q * (l.length - 1 - k)) % 2 ^ q = (Y.getD (l.getD k 0).toNat 0).toNat
  | [], _, k, hk => by simp at hk
  | v :: r, h, 0, _ => by
    have ih := encV_lt (l := r) fun u hu => h u (List.mem_cons_of_mem _ hu)
    have hv := h v (List.mem_cons_self ..)
    rw [encV, List.length_cons, show r.length + 1 - 1 - 0 = r.length by omega, List.getD_cons_zero]
    rw [Nat.add_comm, Nat.add_mul_div_right _ _ (Nat.two_pow_pos _), Nat.div_eq_of_lt ih, Nat.zero_add]
    exact Nat.mod_eq_of_lt hv
  | v :: r, h, k + 1, hk => by
    have ih := encV_get (l := r) (fun u hu => h u (List.mem_cons_of_mem _ hu)) k (by simpa using hk)
    simp only [List.length_cons] at hk
    rw [encV, List.length_cons, show r.length + 1 - 1 - (k + 1) = r.length - 1 - k by omega, List.getD_cons_succ, ← ih]
    have e : q * r.length = q * (r.length - 1 - k) + (q * k + q) := by
      rw [← Nat.mul_succ, ← Nat.mul_add]; congr 1; omega
    rw [e, Nat.pow_add, Nat.pow_add]
    generalize (Y.getD v.toNat 0).toNat = a
    generalize encV q Y r = E
    have e2 : a * (2 ^ (q * (r.length - 1 - k)) * (2 ^ (q * k) * 2 ^ q)) + E = E + (a * 2 ^ (q * k) * 2 ^ q) * 2 ^ (q * (r.length - 1 - k)) := by
      rw [Nat.add_comm]; congr 1
      simp only [Nat.mul_assoc, Nat.mul_comm, Nat.mul_left_comm]
    rw [e2, Nat.add_mul_div_right _ _ (Nat.two_pow_pos _), Nat.add_mul_mod_self_right]
theorem totN_eq {n : Int} {vs : List Int} (h0 : 0 ≤ n) (h : n * (vs.length : Int) ≤ 16) : totN n vs = 2 ^ (n.toNat * vs.length) := by
  have hnn : 0 ≤ n * (vs.length : Int) := Int.mul_nonneg h0 (by omega)
  unfold totN
  rw [shl_one _ hnn (by omega)]
  have : (n * (vs.length : Int)).toNat = n.toNat * vs.length := by
    obtain ⟨q, rfl⟩ := Int.eq_ofNat_of_zero_le h0
    rw [← Int.natCast_mul]
    rfl
  rw [this]
  have e : (2 : Int) ^ (n.toNat * vs.length) = ((2 ^ (n.toNat * vs.length) : Nat) : Int) := by simp
  rw [e]
  rfl
/-- Every choice of values for the variables is one of those that are tried. -/
theorem vrow_onto {n : Int} {vs Y : List Int} (hvs : VS vs) (h0 : 0 ≤ n) (h8 : n ≤ 8) (hfit : n * (vs.length : Int) ≤ 16) (hY : ∀ j : Nat, j < 6 → InM n.toNat (Y.getD j 0)) :
    ∃ N, N < totN n vs ∧ ∀ j : Nat, j < 6 → (j : Int) ∈ vs → (vrow n vs (N : Int)).getD j 0 = Y.getD j 0 := by
  have hlt : ∀ v ∈ vs, (Y.getD v.toNat 0).toNat < 2 ^ n.toNat := fun v hv => (hY v.toNat (by have := hvs.2 v hv; omega)).2
  refine ⟨encV n.toNat Y vs, by rw [totN_eq h0 hfit]; exact encV_lt hlt, fun j hj hm => ?_⟩
  rw [vrow_get hj, vat, if_pos hm]
  have hk : vs.idxOf (j : Int) < vs.length := List.idxOf_lt_length_iff.2 hm
  have hget : vs.getD (vs.idxOf (j : Int)) 0 = (j : Int) := by
    rw [List.getD_eq_getElem?_getD, List.getElem?_eq_getElem hk, Option.getD_some]
    exact List.getElem_idxOf hk
  have hg := encV_get hlt (vs.idxOf (j : Int)) hk
  rw [hget] at hg
  have hE := encV_lt hlt
  have hsh : n * ((vs.length : Int) - 1 - (vs.idxOf (j : Int) : Int)) = ((n.toNat * (vs.length - 1 - vs.idxOf (j : Int)) : Nat) : Int) := by
    rw [Int.natCast_mul, nn_eq h0]
    congr 1
    omega
  have hle : n.toNat * (vs.length - 1 - vs.idxOf (j : Int)) ≤ n.toNat * vs.length := Nat.mul_le_mul_left _ (by omega)
  have h16 : n.toNat * vs.length ≤ 16 := by
    have : ((n.toNat * vs.length : Nat) : Int) = n * vs.length := by rw [Int.natCast_mul, nn_eq h0]
    omega
  rw [hsh]
  generalize encV n.toNat Y vs = E at hg hE ⊢
  generalize n.toNat * (vs.length - 1 - vs.idxOf (j : Int)) = s at hg hle ⊢
  rw [shr_nat (by omega)]
  have hfull : (shl64 1 n) - 1 = ((2 ^ n.toNat - 1 : Nat) : Int) := by
    rw [shl_one n h0 (by omega)]
    have := Nat.two_pow_pos n.toNat
    have e : (2 : Int) ^ n.toNat = ((2 ^ n.toNat : Nat) : Int) := by simp
    rw [e]
    omega
  have hE62 : E / 2 ^ s < 2 ^ 62 := Nat.lt_of_le_of_lt (Nat.div_le_self _ _) (Nat.lt_of_lt_of_le hE (Nat.pow_le_pow_right (by decide) (by omega)))
  have hF62 : 2 ^ n.toNat - 1 < 2 ^ 62 := Nat.lt_of_lt_of_le (Nat.sub_lt (Nat.two_pow_pos _) (by decide)) (Nat.pow_le_pow_right (by decide) (by omega))
  simp only [Int.toNat_natCast] at hg
  rw [hfull, band_nat hE62 hF62, Nat.and_two_pow_sub_one_eq_mod, hg]
  have := (hY j hj).1
  omega

/-- Values matter only for the variables that occur. -/
theorem gv_agree {b : Int → Int → Int → Int} {u : Int → Int → Int} {X Y : List Int} {nv : Nat} {a : List (Int × Int)} (ha : OKM nv a) : (∀ v : Int, (0, v) ∈ a → X.getD v.toNat 0 = Y.getD v.toNat 0) → gv b u X a = gv b u Y a := by
  refine okm_ind (C := fun a => (∀ v : Int, (0, v) ∈ a → X.getD v.toNat 0 = Y.getD v.toNat 0) → gv b u X a = gv b u Y a) ?_ ?_ ?_ ?_ ha
  · intro v _ _ h
    exact h v (by simp)
  · intro s _
    rfl
  · intro k s L R hk _ hL hR iL iR h
    rw [gv_two1 _ _ _ hk hL hR, gv_two1 _ _ _ hk hL hR, iL fun v hv => h v (by simp [hv]), iR fun v hv => h v (by simp [hv])]
  · intro k s L hk _ hL iL h
    rw [gv_one1 _ _ _ hk hL, gv_one1 _ _ _ hk hL, iL fun v hv => h v (by simp [hv])]
theorem vmTo_bits {a : List (Int × Int)} (ha : ∀ x ∈ a, x.1 = 0 → 0 ≤ x.2 ∧ x.2 < 6) : ∀ i, i ≤ a.length → InM 6 (vmTo a i) ∧ ∀ v : Nat, tb (vmTo a i) v = true ↔ ∃ j, j < i ∧ a.getD j (0, 0) = (0, (v : Int))
  | 0, _ => ⟨inM_zero 6, fun v => by simp [vmTo, tb_zero]⟩
  | i + 1, hi => by
    obtain ⟨h1, h2⟩ := vmTo_bits ha i (by omega)
    have hm : a.getD i (0, 0) ∈ a := by
      rw [List.getD_eq_getElem?_getD, List.getElem?_eq_getElem (by omega)]
      exact List.getElem_mem _
    rw [vmTo]
    split
    · rename_i h0
      obtain ⟨r1, r2⟩ := ha _ hm h0
      obtain ⟨s, hs⟩ := Int.eq_ofNat_of_zero_le r1
      have i1 : InM 6 (shl64 1 (a.getD i (0, 0)).2) := by rw [hs]; exact inM_one (by omega) (by omega)
      refine ⟨inM_bor (by omega) h1 i1, fun v => ?_⟩
      rw [tb_bor (n := 6) (by omega) h1 i1, Bool.or_eq_true, h2, hs, tb_one (by omega), decide_eq_true_iff]
      constructor
      · rintro (⟨j, hj, e⟩ | rfl)
        · exact ⟨j, by omega, e⟩
        · exact ⟨i, by omega, Prod.ext h0 hs⟩
      · rintro ⟨j, hj, e⟩
        by_cases ej : j = i
        · subst ej
          refine .inr ?_
          rw [e] at hs
          simp only at hs
          omega
        · exact .inl ⟨j, by omega, e⟩
    · rename_i h0
      refine ⟨h1, fun v => ?_⟩
      rw [h2]
      constructor
      · exact fun ⟨j, hj, e⟩ => ⟨j, by omega, e⟩
      · rintro ⟨j, hj, e⟩
        by_cases ej : j = i
        · subst ej; rw [e] at h0; exact absurd rfl h0
        · exact ⟨j, by omega, e⟩
theorem vm_mem {a : List (Int × Int)} (hF : isF a = true) {v : Int} (h : (0, v) ∈ a) : v ∈ mem (vmT [a] [a].length) ∧ 0 ≤ v ∧ v < 6 := by
  have ha := (isF_okm hF).1
  have hb := ha.2 _ h
  have hv := hb.2.2 rfl
  simp only at hv
  obtain ⟨w, rfl⟩ := Int.eq_ofNat_of_zero_le hv.1
  refine ⟨?_, hv.1, hv.2⟩
  rw [vmT_one hF]
  refine memN_mem.2 ⟨w, by omega, ?_, rfl⟩
  refine ((vmTo_bits (fun x hx h0 => (ha.2 x hx).2.2 h0) a.length (Nat.le_refl _)).2 w).2 ?_
  obtain ⟨j, hj, e⟩ := List.getElem_of_mem h
  exact ⟨j, hj, by rw [List.getD_eq_getElem?_getD, List.getElem?_eq_getElem hj, e]; rfl⟩
theorem sc1 {n : Int} {xs : List Int} {a : List (Int × Int)} (h : scode n xs [a] = 0) : okFr n xs = true ∧ isF a = true ∧ n * ((mem (vmT [a] [a].length)).length : Int) ≤ 16 ∧ totN n (mem (vmT [a] [a].length)) ≤ 65536 := by
  obtain ⟨h1, h2, h3⟩ := scode_ok h
  have hb := okFr_rel h1
  have := totN_le (n := n) (vs := mem (vmT [a] [a].length)) ⟨Int.mul_nonneg hb.1 (by omega), h3⟩
  exact ⟨h1, by simpa using allF_get h2 0 (by simp), h3, by omega⟩
theorem fst_none_iff {p : Nat → Bool} {t : Nat} : (fstN p t).isNone = true ↔ ∀ M, M < t → p M = false := by
  unfold fstN
  rw [Option.isNone_iff_eq_none, List.find?_eq_none]
  simp only [List.mem_range, Bool.not_eq_true]
theorem vd_parts {n : Int} {xs : List Int} {a : List (Int × Int)} : vdB n xs a = true ↔ scode n xs [a] = 0 ∧ ∀ N, N < totN n (mem (vmT [a] [a].length)) → tset n xs (vrow n (mem (vmT [a] [a].length)) (N : Int)) a = (shl64 1 n) - 1 := by
  rw [vdB, Bool.and_eq_true, decide_eq_true_eq]
  unfold fstV
  rw [fst_none_iff]
  refine and_congr_right fun _ => ⟨fun h N hN => ?_, fun h N hN => badT_no (h N hN)⟩
  refine Classical.byContradiction fun hne => ?_
  have := h N hN
  rw [badT_yes hne] at this
  cases this
/-- What is valid is true everywhere, whatever the values. -/
theorem vd_all {n : Int} {xs Y : List Int} {a : List (Int × Int)} (h : vdB n xs a = true) (hY : ∀ j : Nat, j < 6 → InM n.toNat (Y.getD j 0)) : tset n xs Y a = (shl64 1 n) - 1 := by
  obtain ⟨h1, h2⟩ := vd_parts.1 h
  obtain ⟨f1, f2, f3, f4⟩ := sc1 h1
  obtain ⟨h0, h8, _, _⟩ := okFr_rel f1
  have hVS : VS (mem (vmT [a] [a].length)) := VS_vmT (allF_one f2)
  obtain ⟨N, hN, hr⟩ := vrow_onto hVS h0 h8 f3 hY
  rw [← h2 N hN]
  refine gv_agree (isF_okm f2).1 fun v hv => ?_
  obtain ⟨m1, m2, m3⟩ := vm_mem f2 hv
  exact (hr v.toNat (by omega) (by rw [nn_eq m2]; exact m1)).symm

/-! Substitution. -/
def subF (imgs : List (List (Int × Int))) (x : Int × Int) : List (Int × Int) := if x.1 = 0 then imgs.getD x.2.toNat [] else [x]
def subA (imgs : List (List (Int × Int))) (a : List (Int × Int)) : List (Int × Int) := a.flatMap (subF imgs)
theorem sub_ok {imgs : List (List (Int × Int))} (h : ∀ v : Nat, v < 6 → OKM 6 (imgs.getD v [])) {a : List (Int × Int)} (ha : OKM 6 a) : OKM 6 (subA imgs a) ∧ ∀ (b : Int → Int → Int → Int) (u : Int → Int → Int) (X : List Int), gv b u X (subA imgs a) = gv b u ((List.range 6).map fun v => gv b u X (imgs.getD v [])) a := by
  refine okm_ind (C := fun a => OKM 6 (subA imgs a) ∧ ∀ (b : Int → Int → Int → Int) (u : Int → Int → Int) (X : List Int), gv b u X (subA imgs a) = gv b u ((List.range 6).map fun v => gv b u X (imgs.getD v [])) a) ?_ ?_ ?_ ?_ ha
  · intro v h0 h6
    have e : subA imgs [(0, v)] = imgs.getD v.toNat [] := by simp [subA, subF]
    rw [e]
    refine ⟨h _ (by omega), fun b u X => ?_⟩
    rw [gv_var1, List.getD_eq_getElem?_getD (l := (List.range 6).map _), List.getElem?_map, List.getElem?_range (by omega)]
    rfl
  · intro s
    exact ⟨okm_bot s, fun _ _ _ => rfl⟩
  · intro k s L R hk _ hL hR iL iR
    have e : subA imgs ((k, s) :: (L ++ R)) = (k, s) :: (subA imgs L ++ subA imgs R) := by
      have hk0 : ¬ k = 0 := by omega
      simp [subA, subF, hk0]
    rw [e]
    refine ⟨okm_mk2 hk iL.1 iR.1, fun b u X => ?_⟩
    rw [gv_two1 _ _ _ hk iL.1 iR.1, gv_two1 _ _ _ hk hL hR, iL.2, iR.2]
  · intro k s L hk _ hL iL
    have e : subA imgs ((k, s) :: L) = (k, s) :: subA imgs L := by
      have hk0 : ¬ k = 0 := by omega
      simp [subA, subF, hk0]
    rw [e]
    refine ⟨okm_mk1 hk iL.1, fun b u X => ?_⟩
    rw [gv_one1 _ _ _ hk iL.1, gv_one1 _ _ _ hk hL, iL.2]
/-- Validity is kept by substitution. -/
theorem vd_sub {imgs : List (List (Int × Int))} (h : ∀ v : Nat, v < 6 → OKM 6 (imgs.getD v [])) {n : Int} {xs : List Int} {a : List (Int × Int)} (hv : vdB n xs a = true) (hs : scode n xs [subA imgs a] = 0) : vdB n xs (subA imgs a) = true := by
  obtain ⟨h1, h2⟩ := vd_parts.1 hv
  obtain ⟨f1, f2, f3, f4⟩ := sc1 h1
  obtain ⟨g1, g2, g3, g4⟩ := sc1 hs
  obtain ⟨h0, h8, _, _⟩ := okFr_rel f1
  refine vd_parts.2 ⟨hs, fun N hN => ?_⟩
  have hX := fun j hj => vrow_in (n := n) (vs := mem (vmT [subA imgs a] [subA imgs a].length)) (N := N) h0 h8 (by omega) j hj
  unfold tset
  rw [(sub_ok h (isF_okm f2).1).2]
  refine vd_all hv fun j hj => ?_
  rw [List.getD_eq_getElem?_getD, List.getElem?_map, List.getElem?_range hj]
  exact tset_in f1 (h j hj) hX

end Go.Proofs.YtejaikeemahobaaGreat


/-! The machine's rules: slices without spare room; ways that meet again. -/
namespace Go.Abs
open Go.RowKit Go.ChangeShapes Go.WideShapes Go.Deep

section
variable {rd : Option Nat} {P : Program} {m : M} {Q : Exit → St → Prop} {α : Type}

/-- A slice cut so that it has no spare room. -/
def cpAt (P : Program) (m : M) : Option (Nat × Nat × List AV × Int × Int) :=
  match opM m with
  | some (.slice t x none (some hi) (some mx)) => match ev m.st.fr x, ev m.st.fr hi, ev m.st.fr mx, elemB P t with
    | .lst s n cs, .int _ h, .int _ h', some (_, s') => if s' = s then some (s, n, cs, h, h') else none
    | _, _, _, _ => none
  | _ => none

theorem R.clip (s n : Nat) (cs : List AV) (h : cpAt P m = some (s, n, cs, (n : Int), (n : Int))) (ht : quietOk m [] = true) (h' : Runs rd P (putM m none (.clp s n cs) m.st.hp) Q) : Runs rd P m Q := by
  unfold cpAt at h
  split at h
  · rename_i t x hi mx hop
    split at h
    · rename_i s0 n0 cs0 k h1 k' h2 el s' hx hhi hmx hel
      split at h
      · rename_i hs
        subst hs
        simp only [Option.some.injEq, Prod.mk.injEq] at h
        obtain ⟨rfl, rfl, rfl, rfl, rfl⟩ := h
        exact R.effM hop (.inl (.sliceHM _ _ el _ k k' hx hhi hmx hel)) ht (by rw [List.append_nil]; exact h')
      · cases h
    · cases h
  · cases h

def srcAt (hp : List AObj) (s : Nat) : AV → Option (Nat × List AV)
  | .lst s' k ds => if s' = s then some (k, ds) else none
  | .ref j => match hp[j]? with
    | some (.list _ s' k ds) => if s' = s then some (k, ds) else none
    | _ => none
  | _ => none

theorem srcAt_sound {hp : List AObj} {s k : Nat} {v : AV} {ds : List AV} (h : srcAt hp s v = some (k, ds)) : SrcR hp s v k ds := by
  unfold srcAt at h
  split at h
  · split at h
    · rename_i hs; cases h; subst hs; exact .lst
    · cases h
  · rename_i j
    split at h
    · rename_i e s' k' ds' hj
      split at h
      · rename_i hs; cases h; subst hs; exact .ref hj
      · cases h
    · cases h
  · cases h

def acAt (P : Program) (m : M) : Option (Nat × Nat × Nat × Nat × List AV × Nat × List AV) :=
  match opM m with
  | some (.call c) => match c.callee, c.args.toList, c.argTypes.toList with
    | .builtin .append, [x, y], [t, t'] =>
      if t = t' then
        match rowB P t with
        | some (el, s, _, b) => match srcAt m.st.hp s (ev m.st.fr y), ev m.st.fr x with
          | some (k, ds), .clp s' n cs => if s' = s then some (el, s, b, n, cs, k, ds) else none
          | _, _ => none
        | none => none
      else none
    | _, _, _ => none
  | _ => none

theorem R.appC (E : α → List AV) (xs ys : List α) (el s b : Nat) (h : acAt P m = some (el, s, b, xs.length, rows E xs, ys.length, rows E ys)) (hE : ∀ x, (E x).all AV.one = true) (h0 : 0 < b) (hb : (xs.length + ys.length) * b ≤ 140737488355328) (hy : 0 < ys.length) (ht : writeOk m = true)
    (h' : Runs rd P (putM m none (.ref m.st.hp.length) (m.st.hp ++ [.list el s (xs ++ ys).length (rows E (xs ++ ys))])) Q) : Runs rd P m Q := by
  unfold acAt at h
  split at h
  · rename_i c hop
    obtain ⟨callee, args, tys⟩ := c
    simp only at h
    split at h
    · rename_i x y t t' h2 h3
      obtain rfl : args = #[x, y] := Array.toList_inj.1 (by simpa using h2)
      obtain rfl : tys = #[t, t'] := Array.toList_inj.1 (by simpa using h3)
      split at h
      · rename_i htt
        subst htt
        split at h
        · rename_i el0 s0 zs b0 hrow
          split at h
          · rename_i k ds s' n cs hsrc hx
            split at h
            · rename_i hs
              subst hs
              simp only [Option.some.injEq, Prod.mk.injEq] at h
              obtain ⟨rfl, rfl, rfl, rfl, rfl, rfl, rfl⟩ := h
              rw [List.length_append, rows_append] at h'
              exact R.effW hop (.appendC _ _ _ xs.length ys.length zs (rows E xs) (rows E ys) hx (srcAt_sound hsrc) hrow (by simpa using rows_all hE ys) hb (app_bound hb h0) hy) ht h'
            · cases h
          · cases h
        · cases h
      · cases h
    · cases h
  · cases h

/-! ### Rows of slices, all nil at first -/
theorem Rel.nilLst {w : World} {Z : Nat → Prop} {μ : List Value} {v : Value} (s : Nat) (h : Rel w Z μ .nil v) : Rel w Z μ (.lst s 0 []) v := by
  simp only [Rel] at h
  subst h
  exact ⟨none, 0, [], rfl, by simp, Nat.le_refl _, fun h => absurd rfl h, RelL.nil⟩

/-! ### A part of a tuple that may come first -/
def exM (i : Nat) (v : AV) (m : M) : M :=
  match m.ks with
  | .any ops listed n :: ks => match ops[i]? with
    | some o => ⟨.any ops (listed.setIfInBounds i true) (n - 1) :: ks, ⟨putF m.st.fr o.dst v, m.st.hp⟩⟩
    | none => m
  | _ => m

/-! ### Ways that meet again -/
def meetQ (S : St) : Exit → St → Prop := fun e st => e = .normal ∧ st = S
def mtAt (m : M) : Bool :=
  match m.ks with
  | .code _ :: _ => true
  | _ => false

theorem R.meet (S : St) (h : mtAt m = true) (h1 : Runs rd P ⟨m.ks.take 1, m.st⟩ (meetQ S)) (h2 : Runs rd P ⟨m.ks.tail, S⟩ Q) : Runs rd P m Q := by
  obtain ⟨ks, st⟩ := m
  unfold mtAt at h
  simp only [runs_iff] at h h1 h2 ⊢
  split at h
  · rename_i c ks'
    simp only [List.take_succ_cons, List.take_zero, List.tail_cons, RunsK] at h1 h2 ⊢
    refine h1.mono ?_
    rintro e st' ⟨rfl, rfl⟩
    exact h2
  · cases h

end

/-! ### Rows of rows of pairs, handed to a law -/
section
variable {H : Type} {enc : TypeId × Value → H} {P : Program} {w : World} {base : Nat} {spare : Nat → Bool} {held : Bool}

end

end Go.Abs


/-! Rows of bytes; drawn regions with tags of one's own. -/
namespace Go.Abs
open Go.RowKit Go.ChangeShapes Go.WideShapes Go.Deep

def eB (n : Int) : List AV := [.int .u8 n]
def LB (xs : List Int) : AV := .lst 1 xs.length (rows eB xs)
theorem eB_len (x : Int) : (eB x).length = 1 := rfl
section
variable {H : Type} {enc : TypeId × Value → H} {P : Program} {w : World} {base : Nat} {spare : Nat → Bool} {held : Bool}

theorem RelL_bytes {Z : Nat → Prop} {μ : List Value} : ∀ xs : List Int, RelL w Z μ (rows eB xs) (xs.map fun n => .int .u8 n)
  | [] => RelL.nil
  | x :: xs => RelL.cons (by simp [Rel]) (RelL_bytes xs)

theorem trod_bytes {t e : TypeId} {fuel : Nat} {cs : List Value} {x : DataW H × List MemPlace} (ht : P.underlying t = some (.slice e)) (he : P.underlying e = some (.int .u8)) (hc : P.cellsOf e = 1)
    (h : DataW.trod enc P w base spare held fuel t cs = some x) : ∃ v, cs = [v] ∧ ∃ xs : List Int, xs.length ≤ maxLen ∧ (∀ j, j < xs.length → 0 ≤ xs.getD j 0 ∧ xs.getD j 0 ≤ 255) ∧ Rel w (Z0 w) [] (LB xs) v := by
  rcases open_slice1 ht hc h with ⟨rfl, _⟩ | ⟨a, len, cap, m, n, V, D, Pl, rfl, _, hl, hm, hmm, _, hx⟩
  · exact ⟨_, rfl, [], Nat.zero_le _, fun j hj => absurd hj (by simp), none, 0, [], rfl, rfl, Nat.le_refl _, fun h => absurd rfl h, RelL.nil⟩
  · have hlm : len ≤ m := by rw [hmm]; split <;> omega
    obtain ⟨xs, h1, h2⟩ := choose_list (n := len) (p := fun i y => w.cell? (a.add i) = some (.int .u8 y) ∧ 0 ≤ y ∧ y ≤ 255) fun i hi => by
      obtain ⟨g1, g2⟩ := hx i (by omega)
      obtain ⟨y, hy, _, hw⟩ := DataW.trod_int he g2
      simp at hy
      simp [Lit.wf, IntKind.min, IntKind.max, IntKind.signed, IntKind.bits] at hw
      exact ⟨y, by rw [g1, hy], by omega, by omega⟩
    refine ⟨_, rfl, xs, by omega, fun j hj => (h2 j (by omega)).2, ⟨some a, cap, xs.map fun n => .int .u8 n, by rw [h1], by rw [rows_length eB_len, h1], by omega, fun hne => ⟨a, rfl, ?_, fun j u hj => ?_⟩, RelL_bytes xs⟩⟩
    · have : 0 < len := by
        rw [← h1]
        cases xs with
        | nil => exact absurd rfl hne
        | cons x xs => simp
      have := not_Z0 (h2 0 this).1
      simpa [Addr.add] using this
    · rw [List.getElem?_map, Option.map_eq_some_iff] at hj
      obtain ⟨y, hy, rfl⟩ := hj
      have hj := (List.getElem?_eq_some_iff.1 hy).1
      rw [(h2 j (by omega)).1, List.getD_eq_getElem?_getD, hy]
      rfl

theorem open_bytes {r : Reach} {b0 : Nat} {t e : TypeId} {v : Value} {d : DataW H} {ps : List MemPlace} (ht : P.underlying t = some (.slice e)) (he : P.underlying e = some (.int .u8)) (hc : P.cellsOf e = 1)
    (hval : Value.okWide P w r b0 t v) (hd : DataW.Trod enc P w base spare held t v d ps) : ∃ xs : List Int, xs.length ≤ maxLen ∧ (∀ j, j < xs.length → 0 ≤ xs.getD j 0 ∧ xs.getD j 0 ≤ 255) ∧ Rel w (Z0 w) [] (LB xs) v := by
  obtain ⟨A, n, c, rfl⟩ := okWide_slice ht hval
  obtain ⟨fuel, hf⟩ := hd
  obtain ⟨v, h1, h2⟩ := trod_bytes ht he hc hf
  simp [Value.cells] at h1
  subst h1
  exact h2
end

section
variable {rd : Option Nat} {P : Program} {m : M} {Q : Exit → St → Prop}
end
end Go.Abs
