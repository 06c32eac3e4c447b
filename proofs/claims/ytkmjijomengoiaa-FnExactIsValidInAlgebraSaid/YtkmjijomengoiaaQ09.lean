/- Searches on frames: codes, valuations of the reference, first refutations, refuting worlds. -/
import Derived.Test.YtkmjijomengoiaaQ07
import Derived.Test.YtkmjijomengoiaaQ08
import Derived.Test.YtkmjijomengoiaaP05
import Derived.Test.YtkmjijomengoiaaP03
namespace Go.Proofs.Ytkmjijomengoiaa
open Go.RowKit Go.Abs

def scode (n : Int) (xs : List Int) (l : List (List (Int × Int))) : Int := if okFr n xs = true ∧ allF l = true then (if n * ((mem (vmT l l.length)).length : Int) > 16 then 3 else 0) else 1
theorem scode_1 {n : Int} {xs : List Int} {l : List (List (Int × Int))} (h : okFr n xs = false) : 1 = scode n xs l := by rw [scode, if_neg (by simp [h])]
theorem scode_2 {n : Int} {xs : List Int} {l : List (List (Int × Int))} (h : allF l = false) : 1 = scode n xs l := by rw [scode, if_neg (by simp [h])]
theorem scode_3 {n : Int} {xs : List Int} {l : List (List (Int × Int))} (h : okFr n xs = true) (h2 : allF l = true) (h3 : n * ((mem (vmT l l.length)).length : Int) > 16) : 3 = scode n xs l := by rw [scode, if_pos ⟨h, h2⟩, if_pos h3]
theorem scode_4 {n : Int} {xs : List Int} {l : List (List (Int × Int))} (h : okFr n xs = true) (h2 : allF l = true) (h3 : ¬ n * ((mem (vmT l l.length)).length : Int) > 16) : 0 = scode n xs l := by rw [scode, if_pos ⟨h, h2⟩, if_neg h3]
theorem scode_ok {n : Int} {xs : List Int} {l : List (List (Int × Int))} (h : scode n xs l = 0) : okFr n xs = true ∧ allF l = true ∧ n * ((mem (vmT l l.length)).length : Int) ≤ 16 := by
  unfold scode at h
  split at h
  · rename_i h1
    split at h
    · cases h
    · exact ⟨h1.1, h1.2, by omega⟩
  · cases h
theorem mul_mem {n : Int} (m : Int) (h0 : 0 ≤ n) (h8 : n ≤ 8) : 0 ≤ n * ((mem m).length : Int) ∧ n * ((mem m).length : Int) ≤ 496 := by
  have := mem_le m
  refine ⟨Int.mul_nonneg h0 (by omega), ?_⟩
  have := Int.mul_le_mul h8 (show ((mem m).length : Int) ≤ 62 by omega) (by omega) (by omega)
  omega
theorem allF_no {l : List (List (Int × Int))} {i : Nat} (hi : i < l.length) (h : isF (l.getD i []) = false) : allF l = false := by
  rw [allF_not, show l.any notF = true from ?_]
  · rfl
  · rw [List.any_eq_true]
    refine ⟨l.getD i [], ?_, notF_yes h⟩
    rw [List.getD_eq_getElem?_getD, List.getElem?_eq_getElem hi, Option.getD_some]
    exact List.getElem_mem hi
theorem allF_all {l : List (List (Int × Int))} (h : ∀ j, j < l.length → isF (l.getD j []) = true) : allF l = true := by
  rw [allF_not, show l.any notF = false from ?_]
  · rfl
  · rw [List.any_eq_false]
    intro x hx
    obtain ⟨j, hj, rfl⟩ := List.getElem_of_mem hx
    have := h j hj
    rw [List.getD_eq_getElem?_getD, List.getElem?_eq_getElem hj, Option.getD_some] at this
    rw [notF, this]
    decide

theorem searchCode_c (n : Int) (xs : List Int) (l : List (List (Int × Int))) (lx : xs.length ≤ 1000000000) (hs : shortL l) : CallA Try.prog 88 [.agg [AI n, LI xs], LLN l] (AI (scode n xs l)) := by
  refine CallA.of Try.func88 rfl (by kernel_rfl) ?_
  refine R.go 10 (R.call true (isFrame_c n xs lx) (by kernel_rfl) rfl (by kernel_rfl) ?_)
  refine R.go 2 ?_
  rcases Bool.eq_false_or_eq_true (okFr n xs) with c1 | c1
  · refine R.want (!(okFr n xs)) false (by kernel_rfl) (bnF c1) ?_
    refine R.go 1 (R.want (!(okFr n xs)) false (by kernel_rfl) (bnF c1) ?_)
    refine R.call true (areFormulas_c l hs) (by kernel_rfl) rfl (by kernel_rfl) ?_
    refine R.want (!(okFr n xs)) false (by kernel_rfl) (bnF c1) ?_
    refine R.go 1 (R.pick (!(okFr n xs)) false (by kernel_rfl) (bnF c1) (by kernel_rfl) ?_)
    refine R.go 2 (R.condM (allF l) (by kernel_rfl) (fun c2 => ?_) (fun c2 => ?_))
    · exact R.go 4 (R.retE (AI 1) (by kernel_rfl) (by kernel_rfl) (by first | (apply congrArg AI; first | exact scode_1 (by assumption) | exact scode_2 (by assumption) | exact scode_3 (by assumption) (by assumption) (by assumption) | exact scode_4 (by assumption) (by assumption) (by assumption)) | (exfalso; omega)))
    · have hb0 := okFr_rel (by assumption : okFr n xs = true)
      have hmm := mul_mem (vmT l l.length) hb0.1 hb0.2.1
      have hll := hs.1
      refine R.go 5 (R.call true (variablesIn_c l c2 (by first | omega | (simp <;> omega))).frz (by kernel_rfl) rfl (by kernel_rfl) ?_)
      refine R.call true (size_c (mem (vmT l l.length))) (by kernel_rfl) rfl (by kernel_rfl) ?_
      refine R.ar (n * ((mem (vmT l l.length)).length : Int)) (by kernel_rfl) (by omega) (by omega) (by kernel_rfl) ?_
      refine R.go 3 (R.cond ((n * ((mem (vmT l l.length)).length : Int)) > 16) (by kernel_rfl) (fun c3 => ?_) (fun c3 => ?_))
      · exact R.go 4 (R.retE (AI 3) (by kernel_rfl) (by kernel_rfl) (by first | (apply congrArg AI; first | exact scode_1 (by assumption) | exact scode_2 (by assumption) | exact scode_3 (by assumption) (by assumption) (by assumption) | exact scode_4 (by assumption) (by assumption) (by assumption)) | (exfalso; omega)))
      · exact R.go 6 (R.retE (AI 0) (by kernel_rfl) (by kernel_rfl) (by first | (apply congrArg AI; first | exact scode_1 (by assumption) | exact scode_2 (by assumption) | exact scode_3 (by assumption) (by assumption) (by assumption) | exact scode_4 (by assumption) (by assumption) (by assumption)) | (exfalso; omega)))
  · refine R.skp (!(okFr n xs)) false (by kernel_rfl) (bnT c1) (by kernel_rfl) ?_
    refine R.skp (!(okFr n xs)) false (by kernel_rfl) (bnT c1) (by kernel_rfl) ?_
    refine R.skp (!(okFr n xs)) false (by kernel_rfl) (bnT c1) (by kernel_rfl) ?_
    refine R.pick (!(okFr n xs)) true (by kernel_rfl) (bnT c1) (by kernel_rfl) ?_
    exact R.go 7 (R.retE (AI 1) (by kernel_rfl) (by kernel_rfl) (by first | (apply congrArg AI; first | exact scode_1 (by assumption) | exact scode_2 (by assumption) | exact scode_3 (by assumption) (by assumption) (by assumption) | exact scode_4 (by assumption) (by assumption) (by assumption)) | (exfalso; omega)))

theorem l06Fits_c (n : Int) (xs : List Int) (l : List (List (Int × Int))) (hs : shortL l) (hR : okFr n xs = true) (hF : allF l = true) : CallA Try.prog 123 [.agg [AI n, LI xs], LLN l] (.bool (decide (n * ((mem (vmT l l.length)).length : Int) ≤ 16))) := by
  have hb0 := okFr_rel (by assumption : okFr n xs = true)
  have hmm := mul_mem (vmT l l.length) hb0.1 hb0.2.1
  have hll := hs.1
  refine CallA.of Try.func123 rfl (by kernel_rfl) ?_
  refine R.go 10 (R.call true (l06Variables_c l hF (by first | omega | (simp <;> omega))).frz (by kernel_rfl) rfl (by kernel_rfl) ?_)
  refine R.go 1 (R.ar (n * ((mem (vmT l l.length)).length : Int)) (by kernel_rfl) (by omega) (by omega) (by kernel_rfl) ?_)
  exact R.go 3 (R.retE (.bool (decide ((n * ((mem (vmT l l.length)).length : Int)) ≤ 16))) (by kernel_rfl) (by kernel_rfl) (by first | (rfl) | (exfalso; omega)))

theorem l06Code_c (n : Int) (xs : List Int) (l : List (List (Int × Int))) (lx : xs.length ≤ 1000000000) (hs : shortL l) : CallA Try.prog 86 [.agg [AI n, LI xs], LLN l] (AI (scode n xs l)) := by
  have hll := hs.1
  refine CallA.of Try.func86 rfl (by kernel_rfl) ?_
  refine R.go 9 (R.call true (l05Is_c n xs lx) (by kernel_rfl) rfl (by kernel_rfl) ?_)
  refine R.go 2 (R.condM (okFr n xs) (by kernel_rfl) (fun c1 => ?_) (fun c1 => ?_))
  · exact R.go 4 (R.retE (AI 1) (by kernel_rfl) (by kernel_rfl) (by first | (apply congrArg AI; first | exact scode_1 (by assumption) | exact scode_2 (allF_no (i := i) (by omega) (by assumption)) | exact scode_3 (by assumption) hF (by omega) | exact scode_4 (by assumption) hF (by omega)) | (exfalso; omega)))
  · refine R.go 7 (R.loop (fun (i : Nat) => (⟨(frm 25 [(1, LLN l), (2, .ptr 0 0), (5, AI (i : Int))]), [.box 46 [AI n, LI xs]]⟩ : St)) (fun (i : Nat) => (i ≤ l.length) ∧ (∀ j, j < i → isF (l.getD j []) = true)) (fun (i : Nat) => l.length - i) 0 [1, 2, 5] none (by kernel_rfl) (by kernel_rfl) (by kernel_rfl) ⟨(by omega), (by exact fun j hj => absurd hj (by omega))⟩ ?_)
    rintro i ⟨h4_1, h4_2⟩ R2 N3
    refine R.go 8 (R.cond ((i : Int) < (l.length : Int)) (by kernel_rfl) (fun c5 => ?_) (fun c5 => ?_))
    · have hj := hs.2 i (by omega)
      refine R.go 7 (R.idx eLN l [] i (i : Int) (by kernel_rfl) rfl eLN_len (by omega) (by kernel_rfl) ?_)
      refine R.go 1 (R.call true (l02Is_c (l.getD i []) (by first | omega | (simp <;> omega))) (by kernel_rfl) rfl (by kernel_rfl) ?_)
      refine R.go 2 (R.condM (isF (l.getD i [])) (by kernel_rfl) (fun c6 => ?_) (fun c6 => ?_))
      · exact R.go 4 (R.retE (AI 1) (by kernel_rfl) (by kernel_rfl) (by first | (apply congrArg AI; first | exact scode_1 (by assumption) | exact scode_2 (allF_no (i := i) (by omega) (by assumption)) | exact scode_3 (by assumption) hF (by omega) | exact scode_4 (by assumption) hF (by omega)) | (exfalso; omega)))
      · refine R.go 4 (R.ar ((i : Int) + 1) (by kernel_rfl) (by omega) (by omega) (by kernel_rfl) ?_)
        exact R.go 2 (R.stop R2 (by kernel_rfl) (N3 (i + 1) [1, 2, 5] none _ (by kernel_rfl) (by kernel_rfl) ⟨(by omega), (by intro j hj; by_cases hji : j = i; (subst hji; assumption); exact (show ∀ j, j < i → isF (l.getD j []) = true by assumption) j (by omega))⟩ (by show (l.length - (i + 1)) < (l.length - i); omega)))
    · have hF : allF l = true := allF_all (fun j hj => (show ∀ j, j < i → isF (l.getD j []) = true by assumption) j (by omega))
      refine R.go 6 (R.call true (l06Fits_c n xs l hs c1 hF) (by kernel_rfl) rfl (by kernel_rfl) ?_)
      refine R.go 2 (R.condN (n * ((mem (vmT l l.length)).length : Int) ≤ 16) (by kernel_rfl) (fun c7 => ?_) (fun c7 => ?_))
      · exact R.go 4 (R.retE (AI 3) (by kernel_rfl) (by kernel_rfl) (by first | (apply congrArg AI; first | exact scode_1 (by assumption) | exact scode_2 (allF_no (i := i) (by omega) (by assumption)) | exact scode_3 (by assumption) hF (by omega) | exact scode_4 (by assumption) hF (by omega)) | (exfalso; omega)))
      · exact R.go 5 (R.retE (AI 0) (by kernel_rfl) (by kernel_rfl) (by first | (apply congrArg AI; first | exact scode_1 (by assumption) | exact scode_2 (allF_no (i := i) (by omega) (by assumption)) | exact scode_3 (by assumption) hF (by omega) | exact scode_4 (by assumption) hF (by omega)) | (exfalso; omega)))

theorem shr_addI {N : Nat} {a b : Int} (ha : 0 ≤ a) (hb : 0 ≤ b) (h : a + b ≤ 62) : shr64 (shr64 (N : Int) a) b = shr64 (N : Int) (a + b) := by
  obtain ⟨a, rfl⟩ := Int.eq_ofNat_of_zero_le ha
  obtain ⟨b, rfl⟩ := Int.eq_ofNat_of_zero_le hb
  rw [shr_add (by omega)]
  congr 1
theorem shr_zero (N : Nat) : shr64 (N : Int) 0 = N := by
  have := shr_nat (m := N) (i := 0) (by decide)
  simpa using this

theorem l06Values_c (n : Int) (xs : List Int) (vs : List Int) (N : Nat) (hVS : VS vs) (h0 : 0 ≤ n) (h8 : n ≤ 8) (hfit : n * (vs.length : Int) ≤ 16) (hvl : vs.length ≤ 62) : CallA Try.prog 87 [.agg [AI n, LI xs], LI vs, AI (N : Int)] (ownA eI 2 1 (vrow n vs (N : Int))) := by
  refine CallA.of Try.func87 rfl (by kernel_rfl) ?_
  refine R.go 15 (R.ar ((vs.length : Int) - 1) (by kernel_rfl) (by omega) (by omega) (by kernel_rfl) ?_)
  refine R.go 3 (R.loop ((fun | (k, X, q) => (⟨(frm 34 [(1, LI vs), (2, AI q), (3, .ptr 0 0), (7, .ref 1), (8, AI k)]), [.box 46 [AI n, LI xs], rowA eI 2 1 X]⟩ : St) : Int × (List Int) × Int → St)) (fun | (k, X, q) => (-1 ≤ k) ∧ (k < vs.length) ∧ (PD n vs (N : Int) (k + 1).toNat X) ∧ (q = shr64 (N : Int) (n * ((vs.length : Int) - 1 - k)))) (fun | (k, X, q) => (k + 1).toNat) (((vs.length : Int) - 1), (List.replicate 6 0), (N : Int)) [1, 2, 3, 7, 8] none (by kernel_rfl) (by kernel_rfl) (by kernel_rfl) ⟨(by omega), (by omega), (by exact pd_start (by omega)), (by rw [show (vs.length : Int) - 1 - ((vs.length : Int) - 1) = 0 by omega, Int.mul_zero, shr_zero])⟩ ?_)
  rintro ⟨k, X, q⟩ ⟨h4_1, h4_2, h4_3, h4_4⟩ R1 N2
  have hP : PD n vs (N : Int) (k + 1).toNat X := by assumption
  have hXl : X.length = 6 := hP.1
  have hg := fun h : 0 ≤ k => vs_get hVS (k := k.toNat) (by omega)
  have hnk : 0 ≤ n * ((vs.length : Int) - 1 - k) ∧ n * ((vs.length : Int) - 1 - k) ≤ n * (vs.length : Int) := ⟨Int.mul_nonneg h0 (by omega), Int.mul_le_mul_of_nonneg_left (by omega) h0⟩
  refine R.go 6 (R.cond (k ≥ 0) (by kernel_rfl) (fun c5 => ?_) (fun c5 => ?_))
  · have hq : q = shr64 (N : Int) (n * ((vs.length : Int) - 1 - k)) := by assumption
    have hg2 := hg (by omega)
    have hk0 : 0 ≤ k := by omega
    refine R.go 8 (R.idx eI vs 0 ((k).toNat) k (by kernel_rfl) (by omega) eI_len (by omega) (by kernel_rfl) ?_)
    refine R.go 4 (R.call true (l01Full_c n h0 (by omega)) (by kernel_rfl) rfl (by kernel_rfl) ?_)
    refine R.go 1 (R.idxO 1 1 X.length (((vs.getD ((k).toNat) 0)).toNat) (vs.getD ((k).toNat) 0) (by kernel_rfl) (by omega) (by omega) (by kernel_rfl) ?_)
    refine R.stI 1 2 X (((vs.getD ((k).toNat) 0)).toNat) (band q ((shl64 1 n) - 1)) (by kernel_rfl) (by omega) (by kernel_rfl) ?_
    refine R.go 5 (R.cv .u64 n (by kernel_rfl) (u64_id (by omega) (by omega)) (by kernel_rfl) ?_)
    refine R.shr q n (by kernel_rfl) (by omega) (by kernel_rfl) ?_
    refine R.go 5 (R.ar (k - 1) (by kernel_rfl) (by omega) (by omega) (by kernel_rfl) ?_)
    exact R.go 2 (R.stop R1 (by kernel_rfl) (N2 (k - 1, X.set (((vs.getD ((k).toNat) 0)).toNat) (band q ((shl64 1 n) - 1)), shr64 q n) [1, 2, 3, 7, 8] none _ (by kernel_rfl) (by kernel_rfl) ⟨(by omega), (by omega), (by rw [show (k - 1 + 1).toNat = k.toNat by omega]; exact pd_step (by rw [show k.toNat + 1 = (k + 1).toNat by omega]; exact hP) hVS (by omega) (by rw [hq, show ((k.toNat : Nat) : Int) = k by omega])), (by rw [hq, shr_addI hnk.1 h0 (by omega), show (vs.length : Int) - 1 - (k - 1) = ((vs.length : Int) - 1 - k) + 1 by omega, Int.mul_add, Int.mul_one])⟩ (by show (((k - 1) + 1).toNat) < ((k + 1).toNat); omega)))
  · exact R.go 6 (R.retE (ownA eI 2 1 X) (by kernel_rfl) (by kernel_rfl) (by first | (rw [pd_end (n := n) (vs := vs) (N := (N : Int)) (X := X) (by rw [show 0 = (k + 1).toNat by omega]; exact hP)]) | (exfalso; omega)))

def fRow (n : Int) (xs vs : List Int) (a : List (Int × Int)) : List Int := match fstV n xs vs a with | some N => vrow n vs (N : Int) | none => []
def fTru (n : Int) (xs vs : List Int) (a : List (Int × Int)) : Int := match fstV n xs vs a with | some N => tset n xs (vrow n vs (N : Int)) a | none => 0
def fWor (n : Int) (xs vs : List Int) (a : List (Int × Int)) : Int := match fstV n xs vs a with | some N => (mem (bnot ((shl64 1 n) - 1) (tset n xs (vrow n vs (N : Int)) a))).getD 0 0 | none => 0
theorem badT_no {n : Int} {xs vs : List Int} {a : List (Int × Int)} {N : Nat} (h : tset n xs (vrow n vs (N : Int)) a = (shl64 1 n) - 1) : badV n xs vs a N = false := badV_no rfl h
theorem badT_yes {n : Int} {xs vs : List Int} {a : List (Int × Int)} {N : Nat} (h : ¬ tset n xs (vrow n vs (N : Int)) a = (shl64 1 n) - 1) : badV n xs vs a N = true := badV_yes rfl h
def rwTo (n : Int) (xs vs : List Int) (a : List (Int × Int)) : Nat → Int
  | 0 => 0
  | N + 1 => bor (rwTo n xs vs a N) (bnot ((shl64 1 n) - 1) (tset n xs (vrow n vs (N : Int)) a))
theorem tup3 {s : Nat} {a c : List Int} {b d : Int} {p q : Bool} (h : a = c) (h2 : b = d) (h3 : p = q) : AV.tup [ownA eI s 1 a, AI b, .bool p] = AV.tup [ownA eI s 1 c, AI d, .bool q] := by rw [h, h2, h3]
theorem tup3I {s : Nat} {a c : List Int} {b d p q : Int} (h : a = c) (h2 : b = d) (h3 : p = q) : AV.tup [ownA eI s 1 a, AI b, AI p] = AV.tup [ownA eI s 1 c, AI d, AI q] := by rw [h, h2, h3]
theorem l02VariablesG_c (a : List (Int × Int)) (vs : List Int) (hvs : vs = mem (vmT [a] [a].length)) (hF : isF a = true) : CallA Try.prog 81 [LN a] (ownA eI 2 1 vs) := by
  rw [hvs, vmT_one hF]
  exact l02VariablesM_c a (isF_parts hF).2.2.1 (isF_parts hF).1

theorem l06First_c (n : Int) (xs : List Int) (a : List (Int × Int)) (hF : allF [a] = true) (hR : okFr n xs = true) (hfit : n * ((mem (vmT [a] [a].length)).length : Int) ≤ 16) (hl : a.length ≤ 1000000000) : CallA Try.prog 95 [.agg [AI n, LI xs], LN a] (.tup [ownA eI 2 1 (fRow n xs (mem (vmT [a] [a].length)) a), AI (fTru n xs (mem (vmT [a] [a].length)) a), .bool ((fstV n xs (mem (vmT [a] [a].length)) a).isSome)]) := by
  obtain ⟨vs, hvs⟩ : ∃ vs, vs = mem (vmT [a] [a].length) := ⟨_, rfl⟩
  rw [← hvs] at hfit ⊢
  have hVS : VS vs := by rw [hvs]; exact VS_vmT hF
  have hRR := okFr_rel hR
  have hb0 : 0 ≤ n ∧ n ≤ 8 ∧ (xs.length : Int) = n := ⟨hRR.1, hRR.2.1, hRR.2.2.1⟩
  have hnc : 0 ≤ n * (vs.length : Int) := Int.mul_nonneg hb0.1 (by omega)
  have htot : shl64 1 (n * (vs.length : Int)) = (totN n vs : Int) := by have := shl_rng (n * (vs.length : Int)) hnc (by omega); unfold totN; omega
  have htr := shl_rng (n * (vs.length : Int)) hnc (by omega)
  have hvl : vs.length ≤ 62 := by rw [hvs]; exact mem_le _
  have hisF : isF a = true := by simpa using allF_get hF 0 (by simp)
  have hA := isF_okm hisF
  have hok : OKM 6 a := hA.1
  have hal : a.length ≤ 40 := hA.2
  refine CallA.of Try.func95 rfl (by kernel_rfl) ?_
  refine R.go 10 (R.call true (l02VariablesG_c a vs (by assumption) hisF).frz (by kernel_rfl) rfl (by kernel_rfl) ?_)
  refine R.go 8 (R.loop (fun (N : Nat) => (⟨(frm 39 [(1, LN a), (2, .ptr 0 0), (7, LI vs), (8, AI (N : Int))]), [.box 46 [AI n, LI xs]]⟩ : St)) (fun (N : Nat) => ((N : Int) ≤ shl64 1 (n * (vs.length : Int))) ∧ (∀ M, M < N → badV n xs vs a M = false)) (fun (N : Nat) => (totN n vs) - N) 0 [1, 2, 7, 8] none (by kernel_rfl) (by kernel_rfl) (by kernel_rfl) ⟨(by omega), (by exact fun M hM => absurd hM (by omega))⟩ ?_)
  rintro N ⟨h3_1, h3_2⟩ R1 N2
  have hvl6 : (vrow n vs (N : Int)).length = 6 := vrow_len _ _ _
  have hoX : OKM (vrow n vs (N : Int)).length a := by rw [hvl6]; exact hok
  have hfull := shl_rng n hb0.1 (by omega)
  refine R.go 8 (R.ar (n * (vs.length : Int)) (by kernel_rfl) (by omega) (by omega) (by kernel_rfl) ?_)
  refine R.call true (l01One_c (n * (vs.length : Int)) (by first | omega | (simp <;> omega)) (by first | omega | (simp <;> omega))) (by kernel_rfl) rfl (by kernel_rfl) ?_
  refine R.go 2 (R.cond ((N : Int) < (shl64 1 (n * (vs.length : Int)))) (by kernel_rfl) (fun c4 => ?_) (fun c4 => ?_))
  · refine R.go 8 (R.call true (l06Values_c n xs vs N hVS (by omega) (by omega) (by first | omega | (simp <;> omega)) hvl) (by kernel_rfl) rfl (by kernel_rfl) ?_)
    refine R.go 8 (R.call false (l06TruthT_c n xs (vrow n vs (N : Int)) a hR hoX hl) (by kernel_rfl) rfl (by kernel_rfl) ?_)
    refine R.go 7 (R.call true (l01Full_c n (by omega) (by omega)) (by kernel_rfl) rfl (by kernel_rfl) ?_)
    refine R.go 2 (R.condN ((tset n xs (vrow n vs (N : Int)) a) = ((shl64 1 n) - 1)) (by kernel_rfl) (fun c5 => ?_) (fun c5 => ?_))
    · exact R.go 8 (R.retE (.tup [ownA eI 2 1 (vrow n vs (N : Int)), AI (tset n xs (vrow n vs (N : Int)) a), .bool true]) (by kernel_rfl) (by kernel_rfl) (by first | (refine tup3 ?_ ?_ ?_ <;> first | (have e : fstV n xs vs a = some N := fst_some (show ∀ M, M < N → badV n xs vs a M = false by assumption) (badT_yes (by assumption)) (by omega); simp [fRow, fTru, fWor, e]; done) | (have e : fstV n xs vs a = none := fst_none (fun M hM => (show ∀ M, M < N → badV n xs vs a M = false by assumption) M (by omega)); simp [fRow, fTru, fWor, e]; done)) | (exfalso; omega)))
    · refine R.go 4 (R.ar ((N : Int) + 1) (by kernel_rfl) (by omega) (by omega) (by kernel_rfl) ?_)
      exact R.go 2 (R.stop R1 (by kernel_rfl) (N2 (N + 1) [1, 2, 7, 8] (some [0]) _ (by kernel_rfl) (by kernel_rfl) ⟨(by omega), (by exact below_succ (by assumption) (badT_no (by assumption)))⟩ (by show ((totN n vs) - (N + 1)) < ((totN n vs) - N); omega)))
  · refine R.go 7 (R.nil 4 2 1 (by kernel_rfl) ?_)
    exact R.retE (.tup [ownA eI 2 1 [], AI 0, .bool false]) (by kernel_rfl) (by kernel_rfl) (by first | (refine tup3 ?_ ?_ ?_ <;> first | (have e : fstV n xs vs a = some N := fst_some (show ∀ M, M < N → badV n xs vs a M = false by assumption) (badT_yes (by assumption)) (by omega); simp [fRow, fTru, fWor, e]; done) | (have e : fstV n xs vs a = none := fst_none (fun M hM => (show ∀ M, M < N → badV n xs vs a M = false by assumption) M (by omega)); simp [fRow, fTru, fWor, e]; done)) | (exfalso; omega))

theorem l06Valid_c (n : Int) (xs : List Int) (a : List (Int × Int)) (hF : allF [a] = true) (hR : okFr n xs = true) (hfit : n * ((mem (vmT [a] [a].length)).length : Int) ≤ 16) (hl : a.length ≤ 1000000000) : CallA Try.prog 90 [.agg [AI n, LI xs], LN a] (.bool ((fstV n xs (mem (vmT [a] [a].length)) a).isNone)) := by
  refine CallA.of Try.func90 rfl (by kernel_rfl) ?_
  refine R.go 9 (R.call true (l06First_c n xs a hF hR hfit hl).frz (by kernel_rfl) rfl (by kernel_rfl) ?_)
  exact R.go 14 (R.retE (.bool (!((fstV n xs (mem (vmT [a] [a].length)) a).isSome))) (by kernel_rfl) (by kernel_rfl) (by first | (apply congrArg AV.bool; cases fstV n xs (mem (vmT [a] [a].length)) a <;> rfl) | (exfalso; omega)))

def rwV (n : Int) (xs : List Int) (a : List (Int × Int)) : Int := if scode n xs [a] = 0 then rwTo n xs (mem (vmT [a] [a].length)) a (totN n (mem (vmT [a] [a].length))) else 0
def vdB (n : Int) (xs : List Int) (a : List (Int × Int)) : Bool := decide (scode n xs [a] = 0) && (fstV n xs (mem (vmT [a] [a].length)) a).isNone
def frC (n : Int) (xs : List Int) (a : List (Int × Int)) : Int := if scode n xs [a] = 0 then (if (fstV n xs (mem (vmT [a] [a].length)) a).isSome = true then 0 else 4) else scode n xs [a]
def frR (n : Int) (xs : List Int) (a : List (Int × Int)) : List Int := if scode n xs [a] = 0 then fRow n xs (mem (vmT [a] [a].length)) a else []
def frW (n : Int) (xs : List Int) (a : List (Int × Int)) : Int := if scode n xs [a] = 0 then fWor n xs (mem (vmT [a] [a].length)) a else 0
theorem fRow_none {n : Int} {xs vs : List Int} {a : List (Int × Int)} (h : (fstV n xs vs a).isSome = false) : fRow n xs vs a = [] ∧ fWor n xs vs a = 0 := by
  unfold fRow fWor
  cases e : fstV n xs vs a with
  | none => exact ⟨rfl, rfl⟩
  | some N => rw [e] at h; cases h
theorem fWor_some {n : Int} {xs vs : List Int} {a : List (Int × Int)} (h : (fstV n xs vs a).isSome = true) : fWor n xs vs a = (mem (bnot ((shl64 1 n) - 1) (fTru n xs vs a))).getD 0 0 := by
  unfold fWor fTru
  cases e : fstV n xs vs a with
  | none => rw [e] at h; cases h
  | some N => rfl

theorem RW_spec (n : Int) (xs : List Int) (a : List (Int × Int)) (lx : xs.length ≤ 1048576) (hl : a.length ≤ 1048576) : CallA Try.prog 36 [.agg [AI n, LI xs], LN a] (.tup [AI (rwV n xs a), AI (scode n xs [a])]) := by
  refine CallA.of Try.func36 rfl (by kernel_rfl) ?_
  refine R.go 10 (R.lit (s := 1) (n := 1) (cs := rows eLN [a]) (by kernel_rfl) (by kernel_rfl) ?_)
  refine R.call true (l06Code_c n xs [a] (by first | omega | (simp <;> omega)) (by first | assumption | exact shortL_one (by omega))) (by kernel_rfl) rfl (by kernel_rfl) ?_
  refine R.go 8 (R.condN ((scode n xs [a]) = 0) (by kernel_rfl) (fun c1 => ?_) (fun c1 => ?_))
  · exact R.go 6 (R.retE (.tup [AI 0, AI (scode n xs [a])]) (by kernel_rfl) (by kernel_rfl) (by first | (refine tupI ?_ ?_ <;> first | (simp [rwV, *]; done) | (rw [rwV, if_pos hm, ← hvs, show totN n vs = N by omega]; assumption) | exact hm.symm) | (exfalso; omega)))
  · have hm : scode n xs [a] = 0 := by assumption
    have hsc := scode_ok hm
    have hF : allF [a] = true := hsc.2.1
    have hR : okFr n xs = true := hsc.1
    have hfit0 : n * ((mem (vmT [a] [a].length)).length : Int) ≤ 16 := hsc.2.2
    obtain ⟨vs, hvs⟩ : ∃ vs, vs = mem (vmT [a] [a].length) := ⟨_, rfl⟩
    have hfit : n * (vs.length : Int) ≤ 16 := by rw [hvs]; exact hfit0
    have hVS : VS vs := by rw [hvs]; exact VS_vmT hF
    have hRR := okFr_rel hR
    have hb0 : 0 ≤ n ∧ n ≤ 8 ∧ (xs.length : Int) = n := ⟨hRR.1, hRR.2.1, hRR.2.2.1⟩
    have hnc : 0 ≤ n * (vs.length : Int) := Int.mul_nonneg hb0.1 (by omega)
    have htot : shl64 1 (n * (vs.length : Int)) = (totN n vs : Int) := by have := shl_rng (n * (vs.length : Int)) hnc (by omega); unfold totN; omega
    have htr := shl_rng (n * (vs.length : Int)) hnc (by omega)
    have hvl : vs.length ≤ 62 := by rw [hvs]; exact mem_le _
    have hisF : isF a = true := by simpa using allF_get hF 0 (by simp)
    have hA := isF_okm hisF
    have hok : OKM 6 a := hA.1
    have hal : a.length ≤ 40 := hA.2
    refine R.go 4 (R.call true (l02VariablesG_c a vs (by assumption) hisF).frz (by kernel_rfl) rfl (by kernel_rfl) ?_)
    refine R.go 9 (R.loop ((fun | (N, o) => (⟨(frm 46 [(1, LN a), (2, .ptr 0 0), (7, LI vs), (8, AI o), (9, AI (N : Int))]), [.box 46 [AI n, LI xs]]⟩ : St) : Nat × Int → St)) (fun | (N, o) => ((N : Int) ≤ shl64 1 (n * (vs.length : Int))) ∧ (o = rwTo n xs vs a N)) (fun | (N, o) => (totN n vs) - N) (0, 0) [1, 2, 7, 8, 9] none (by kernel_rfl) (by kernel_rfl) (by kernel_rfl) ⟨(by omega), (by rfl)⟩ ?_)
    rintro ⟨N, o⟩ ⟨h5_1, h5_2⟩ R2 N3
    have hvl6 : (vrow n vs (N : Int)).length = 6 := vrow_len _ _ _
    have hoX : OKM (vrow n vs (N : Int)).length a := by rw [hvl6]; exact hok
    have hfull := shl_rng n hb0.1 (by omega)
    refine R.go 8 (R.ar (n * (vs.length : Int)) (by kernel_rfl) (by omega) (by omega) (by kernel_rfl) ?_)
    refine R.call true (l01One_c (n * (vs.length : Int)) (by first | omega | (simp <;> omega)) (by first | omega | (simp <;> omega))) (by kernel_rfl) rfl (by kernel_rfl) ?_
    refine R.go 2 (R.cond ((N : Int) < (shl64 1 (n * (vs.length : Int)))) (by kernel_rfl) (fun c6 => ?_) (fun c6 => ?_))
    · refine R.go 9 (R.call true (l06Values_c n xs vs N hVS (by omega) (by omega) hfit hvl).frz (by kernel_rfl) rfl (by kernel_rfl) ?_)
      refine R.go 8 (R.call true (l01Full_c n (by omega) (by omega)) (by kernel_rfl) rfl (by kernel_rfl) ?_)
      refine R.go 2 (R.call true (l06TruthT_c n xs (vrow n vs (N : Int)) a hR hoX (by first | omega | (simp <;> omega))) (by kernel_rfl) rfl (by kernel_rfl) ?_)
      refine R.go 7 (R.ar ((N : Int) + 1) (by kernel_rfl) (by omega) (by omega) (by kernel_rfl) ?_)
      exact R.go 2 (R.stop R2 (by kernel_rfl) (N3 (N + 1, bor o (bnot ((shl64 1 n) - 1) (tset n xs (vrow n vs (N : Int)) a))) [1, 2, 7, 8, 9] (some [0]) _ (by kernel_rfl) (by kernel_rfl) ⟨(by omega), (by rw [rwTo, ← ‹o = rwTo n xs vs a N›])⟩ (by show ((totN n vs) - (N + 1)) < ((totN n vs) - N); omega)))
    · exact R.go 7 (R.retE (.tup [AI o, AI 0]) (by kernel_rfl) (by kernel_rfl) (by first | (refine tupI ?_ ?_ <;> first | (simp [rwV, *]; done) | (rw [rwV, if_pos hm, ← hvs, show totN n vs = N by omega]; assumption) | exact hm.symm) | (exfalso; omega)))

theorem RW_impl (n : Int) (xs : List Int) (a : List (Int × Int)) (lx : xs.length ≤ 1048576) (hl : a.length ≤ 1048576) : CallA Try.prog 38 [.agg [AI n, LI xs], LN a] (.tup [AI (rwV n xs a), AI (scode n xs [a])]) := by
  refine CallA.of Try.func38 rfl (by kernel_rfl) ?_
  refine R.go 12 (R.lit (s := 1) (n := 1) (cs := rows eLN [a]) (by kernel_rfl) (by kernel_rfl) ?_)
  refine R.call true (searchCode_c n xs [a] (by first | omega | (simp <;> omega)) (by first | assumption | exact shortL_one (by omega))) (by kernel_rfl) rfl (by kernel_rfl) ?_
  refine R.go 7 (R.condN ((scode n xs [a]) = 0) (by kernel_rfl) (fun c1 => ?_) (fun c1 => ?_))
  · exact R.go 6 (R.retE (.tup [AI 0, AI (scode n xs [a])]) (by kernel_rfl) (by kernel_rfl) (by first | (refine tupI ?_ ?_ <;> first | (simp [rwV, *]; done) | (rw [rwV, if_pos hm, ← hvs, show totN n vs = N by omega]; assumption) | exact hm.symm) | (exfalso; omega)))
  · have hm : scode n xs [a] = 0 := by assumption
    have hsc := scode_ok hm
    have hF : allF [a] = true := hsc.2.1
    have hR : okFr n xs = true := hsc.1
    have hfit0 : n * ((mem (vmT [a] [a].length)).length : Int) ≤ 16 := hsc.2.2
    obtain ⟨vs, hvs⟩ : ∃ vs, vs = mem (vmT [a] [a].length) := ⟨_, rfl⟩
    have hfit : n * (vs.length : Int) ≤ 16 := by rw [hvs]; exact hfit0
    have hVS : VS vs := by rw [hvs]; exact VS_vmT hF
    have hRR := okFr_rel hR
    have hb0 : 0 ≤ n ∧ n ≤ 8 ∧ (xs.length : Int) = n := ⟨hRR.1, hRR.2.1, hRR.2.2.1⟩
    have hnc : 0 ≤ n * (vs.length : Int) := Int.mul_nonneg hb0.1 (by omega)
    have htot : shl64 1 (n * (vs.length : Int)) = (totN n vs : Int) := by have := shl_rng (n * (vs.length : Int)) hnc (by omega); unfold totN; omega
    have htr := shl_rng (n * (vs.length : Int)) hnc (by omega)
    have hvl : vs.length ≤ 62 := by rw [hvs]; exact mem_le _
    have hisF : isF a = true := by simpa using allF_get hF 0 (by simp)
    have hA := isF_okm hisF
    have hok : OKM 6 a := hA.1
    have hal : a.length ≤ 40 := hA.2
    refine R.go 10 (R.lit (s := 1) (n := 1) (cs := rows eLN [a]) (by kernel_rfl) (by kernel_rfl) ?_)
    refine R.call true (variablesInG_c [a] vs (by assumption) hF (by first | omega | (simp <;> omega))).frz (by kernel_rfl) rfl (by kernel_rfl) ?_
    refine R.call true (valuations_c n xs vs) (by kernel_rfl) rfl (by kernel_rfl) ?_
    refine R.go 2 (R.range (caps := [.rptr [LI vs], .rptr [AI n, LI xs]]) Try.func125 rfl (by kernel_rfl) (by kernel_rfl) ?_)
    intro D2 us3
    refine R.go 8 (R.call true (size_c vs) (by kernel_rfl) rfl (by kernel_rfl) ?_)
    refine R.go 7 (R.ar (n * (vs.length : Int)) (by kernel_rfl) (by omega) (by omega) (by kernel_rfl) ?_)
    refine R.shl 1 (n * (vs.length : Int)) (by kernel_rfl) (by omega) (by kernel_rfl) ?_
    refine R.go 3 (R.loop ((fun | (N, X, o) => (⟨(frm 48 [(0, .ref 4), (1, .rptr [LI vs]), (2, .rptr [AI n, LI xs]), (4, .ref 5), (5, AI vs.length), (16, AI (shl64 1 (n * (vs.length : Int)))), (17, AI (N : Int))]), [.box 46 [AI n, LI xs], .box 33 [LN a], .box 2 [AI o], .frame us3 (frm 32 [(0, .agg [AI n, LI xs]), (1, LN a), (2, .ptr 0 0), (3, .ptr 1 0), (4, AI 0), (5, AI 0), (6, AI (scode n xs [a])), (7, .ptr 2 0), (9, .agg [AI n, LI xs]), (10, LN a), (11, LLN [a]), (12, AI (scode n xs [a])), (13, AI (scode n xs [a])), (14, .bool (!decide ((scode n xs [a]) = 0))), (16, .agg [AI n, LI xs]), (17, LN a), (18, LLN [a]), (19, LI vs), (20, .fn 125 [.rptr [LI vs], .rptr [AI n, LI xs]])]), loopObj Try.f38 D2 us3 .ready, rowA eI 2 1 X]⟩ : St) : Nat × (List Int) × Int → St)) (fun | (N, X, o) => ((N : Int) ≤ shl64 1 (n * (vs.length : Int))) ∧ (X.length = 6) ∧ (∀ j : Nat, j < 6 → ¬ (j : Int) ∈ vs → X.getD j 0 = 0) ∧ (o = rwTo n xs vs a N)) (fun | (N, X, o) => (totN n vs) - N) (0, (List.replicate 6 0), 0) [0, 1, 2, 4, 5, 16, 17] none (by kernel_rfl) (by kernel_rfl) (by kernel_rfl) ⟨(by omega), (by simp), (by exact zero_out vs), (by rfl)⟩ ?_)
    rintro ⟨N, X, o⟩ ⟨h7_1, h7_2, h7_3, h7_4⟩ R4 N5
    have hfull := shl_rng n hb0.1 (by omega)
    refine R.go 5 (R.cond ((N : Int) < (shl64 1 (n * (vs.length : Int)))) (by kernel_rfl) (fun c8 => ?_) (fun c8 => ?_))
    · refine R.go 16 (R.loop ((fun | (k, Y) => (⟨(frm 48 [(0, .ref 4), (1, .rptr [LI vs]), (2, .rptr [AI n, LI xs]), (4, .ref 5), (5, AI vs.length), (6, AI (N : Int)), (16, AI (shl64 1 (n * (vs.length : Int)))), (17, AI (N : Int)), (20, LI vs), (21, AI vs.length), (22, AI (k : Int))]), [.box 46 [AI n, LI xs], .box 33 [LN a], .box 2 [AI o], .frame us3 (frm 32 [(0, .agg [AI n, LI xs]), (1, LN a), (2, .ptr 0 0), (3, .ptr 1 0), (4, AI 0), (5, AI 0), (6, AI (scode n xs [a])), (7, .ptr 2 0), (9, .agg [AI n, LI xs]), (10, LN a), (11, LLN [a]), (12, AI (scode n xs [a])), (13, AI (scode n xs [a])), (14, .bool (!decide ((scode n xs [a]) = 0))), (16, .agg [AI n, LI xs]), (17, LN a), (18, LLN [a]), (19, LI vs), (20, .fn 125 [.rptr [LI vs], .rptr [AI n, LI xs]])]), loopObj Try.f38 D2 us3 .ready, rowA eI 2 1 Y]⟩ : St) : Nat × (List Int) → St)) (fun | (k, Y) => (k ≤ vs.length) ∧ (PV n vs (N : Int) k Y)) (fun | (k, Y) => vs.length - k) (0, X) [0, 1, 2, 4, 5, 6, 16, 17, 20, 21, 22] none (by kernel_rfl) (by kernel_rfl) (by kernel_rfl) ⟨(by omega), (by exact pv_start (by assumption) (by assumption))⟩ ?_)
      rintro ⟨k, Y⟩ ⟨h12_1, h12_2⟩ R9 N10
      have hY : PV n vs (N : Int) k Y := by assumption
      have hYl : Y.length = 6 := hY.1
      have hg := fun h : k < vs.length => vs_get hVS h
      have hnk : k < vs.length → 0 ≤ n * ((vs.length : Int) - 1 - (k : Int)) ∧ n * ((vs.length : Int) - 1 - (k : Int)) ≤ n * (vs.length : Int) := fun h => ⟨Int.mul_nonneg hb0.1 (by omega), Int.mul_le_mul_of_nonneg_left (by omega) hb0.1⟩
      skip
      refine R.go 5 (R.cond ((k : Int) < (vs.length : Int)) (by kernel_rfl) (fun c13 => ?_) (fun c13 => ?_))
      · have hg2 := hg (by omega)
        have hnk2 := hnk (by omega)
        refine R.go 6 (R.idx eI vs 0 k (k : Int) (by kernel_rfl) rfl eI_len (by omega) (by kernel_rfl) ?_)
        refine R.go 11 (R.ar ((vs.length : Int) - 1) (by kernel_rfl) (by omega) (by omega) (by kernel_rfl) ?_)
        refine R.go 1 (R.ar (((vs.length : Int) - 1) - (k : Int)) (by kernel_rfl) (by omega) (by omega) (by kernel_rfl) ?_)
        refine R.ar (n * (((vs.length : Int) - 1) - (k : Int))) (by kernel_rfl) (by omega) (by omega) (by kernel_rfl) ?_
        refine R.shr (N : Int) (n * (((vs.length : Int) - 1) - (k : Int))) (by kernel_rfl) (by omega) (by kernel_rfl) ?_
        refine R.go 1 (R.call true (frameAll_c n xs (by omega) (by omega)) (by kernel_rfl) rfl (by kernel_rfl) ?_)
        refine R.go 1 (R.idxO 5 1 Y.length (((vs.getD k 0)).toNat) (vs.getD k 0) (by kernel_rfl) (by omega) (by omega) (by kernel_rfl) ?_)
        refine R.stI 5 2 Y (((vs.getD k 0)).toNat) (band (shr64 (N : Int) (n * (((vs.length : Int) - 1) - (k : Int)))) ((shl64 1 n) - 1)) (by kernel_rfl) (by omega) (by kernel_rfl) ?_
        refine R.go 3 (R.ar ((k : Int) + 1) (by kernel_rfl) (by omega) (by omega) (by kernel_rfl) ?_)
        exact R.go 2 (R.stop R9 (by kernel_rfl) (N10 (k + 1, Y.set (((vs.getD k 0)).toNat) (band (shr64 (N : Int) (n * (((vs.length : Int) - 1) - (k : Int)))) ((shl64 1 n) - 1))) [0, 1, 2, 4, 5, 6, 16, 17, 20, 21, 22] none _ (by kernel_rfl) (by kernel_rfl) ⟨(by omega), (by exact pv_step hY hVS (by omega) rfl)⟩ (by show (vs.length - (k + 1)) < (vs.length - k); omega)))
      · have hX : Y = vrow n vs (N : Int) := pv_end hY (by omega)
        have hYo : OKM Y.length a := by rw [hYl]; exact hok
        refine R.go 5 (R.yield 4 D2 us3 (by kernel_rfl) (by kernel_rfl) ?_)
        intro l14 us15
        refine R.go 3 (R.begin (by kernel_rfl) (by kernel_rfl) ?_)
        refine R.go 4 (R.call true (frameAll_c n xs (by omega) (by omega)) (by kernel_rfl) rfl (by kernel_rfl) ?_)
        refine R.go 3 (R.call false (truthSet_c n xs Y a hYo (by omega) (by omega) (by first | omega | (simp <;> omega)) (by first | omega | (simp <;> omega))) (by kernel_rfl) rfl (by kernel_rfl) ?_)
        refine R.go 5 (R.round (frm 48 [(0, .ref 4), (1, .rptr [LI vs]), (2, .rptr [AI n, LI xs]), (4, .ref 5), (5, AI vs.length), (6, AI (N : Int)), (16, AI (shl64 1 (n * (vs.length : Int)))), (17, AI (N : Int)), (20, LI vs), (21, AI vs.length), (22, AI (k : Int)), (23, .bool (decide ((k : Int) < (vs.length : Int)))), (43, .ref 4), (44, .ref 5)]) (by kernel_rfl) (by kernel_rfl) (by kernel_rfl) ?_)
        refine R.go 6 (R.ar ((N : Int) + 1) (by kernel_rfl) (by omega) (by omega) (by kernel_rfl) ?_)
        exact R.go 2 (R.stop R4 (by kernel_rfl) (N5 (N + 1, Y, bor o (bnot ((shl64 1 n) - 1) (gv (mT n) (mU n (bxB xs)) Y a))) [0, 1, 2, 4, 5, 16, 17] (some [0, 1, 2, 3, 4, 5]) _ (by kernel_rfl) (by kernel_rfl) ⟨(by omega), (by rw [hX]; exact vrow_len _ _ _), (by rw [hX]; exact vrow_out), (by rw [rwTo, ← ‹o = rwTo n xs vs a N›, ← hX]; rfl)⟩ (by show ((totN n vs) - (N + 1)) < ((totN n vs) - N); omega)))
    · refine R.go 1 (R.over (.tup []) (frm 32 [(0, .agg [AI n, LI xs]), (1, LN a), (2, .ptr 0 0), (3, .ptr 1 0), (4, AI 0), (5, AI 0), (6, AI (scode n xs [a])), (7, .ptr 2 0), (9, .agg [AI n, LI xs]), (10, LN a), (11, LLN [a]), (12, AI (scode n xs [a])), (13, AI (scode n xs [a])), (14, .bool (!decide ((scode n xs [a]) = 0))), (16, .agg [AI n, LI xs]), (17, LN a), (18, LLN [a]), (19, LI vs), (20, .fn 125 [.rptr [LI vs], .rptr [AI n, LI xs]])]) (by kernel_rfl) (by kernel_rfl) (by kernel_rfl) (by kernel_rfl) ?_)
      exact R.go 7 (R.retE (.tup [AI o, AI 0]) (by kernel_rfl) (by kernel_rfl) (by first | (refine tupI ?_ ?_ <;> first | (simp [rwV, *]; done) | (rw [rwV, if_pos hm, ← hvs, show totN n vs = N by omega]; assumption) | exact hm.symm) | (exfalso; omega)))

theorem VO_spec (n : Int) (xs : List Int) (a : List (Int × Int)) (lx : xs.length ≤ 1048576) (hl : a.length ≤ 1048576) : CallA Try.prog 40 [.agg [AI n, LI xs], LN a] (.tup [.bool (vdB n xs a), AI (scode n xs [a])]) := by
  refine CallA.of Try.func40 rfl (by kernel_rfl) ?_
  refine R.go 10 (R.lit (s := 1) (n := 1) (cs := rows eLN [a]) (by kernel_rfl) (by kernel_rfl) ?_)
  refine R.call true (l06Code_c n xs [a] (by first | omega | (simp <;> omega)) (by first | assumption | exact shortL_one (by omega))) (by kernel_rfl) rfl (by kernel_rfl) ?_
  refine R.go 8 (R.condN ((scode n xs [a]) = 0) (by kernel_rfl) (fun c1 => ?_) (fun c1 => ?_))
  · exact R.go 6 (R.retE (.tup [.bool false, AI (scode n xs [a])]) (by kernel_rfl) (by kernel_rfl) (by first | (refine tupB ?_ ?_ <;> first | (simp [vdB, *]; done) | (rw [vdB, hm]; rfl) | exact hm.symm) | (exfalso; omega)))
  · have hm : scode n xs [a] = 0 := by assumption
    have hsc := scode_ok hm
    have hF : allF [a] = true := hsc.2.1
    have hR : okFr n xs = true := hsc.1
    have hfit : n * ((mem (vmT [a] [a].length)).length : Int) ≤ 16 := hsc.2.2
    refine R.go 5 (R.call true (l06Valid_c n xs a hF hR hfit (by first | omega | (simp <;> omega))) (by kernel_rfl) rfl (by kernel_rfl) ?_)
    exact R.go 3 (R.retE (.tup [.bool ((fstV n xs (mem (vmT [a] [a].length)) a).isNone), AI 0]) (by kernel_rfl) (by kernel_rfl) (by first | (refine tupB ?_ ?_ <;> first | (simp [vdB, *]; done) | (rw [vdB, hm]; rfl) | exact hm.symm) | (exfalso; omega)))

theorem VO_impl (n : Int) (xs : List Int) (a : List (Int × Int)) (lx : xs.length ≤ 1048576) (hl : a.length ≤ 1048576) : CallA Try.prog 41 [.agg [AI n, LI xs], LN a] (.tup [.bool (vdB n xs a), AI (scode n xs [a])]) := by
  refine CallA.of Try.func41 rfl (by kernel_rfl) ?_
  refine R.go 11 (R.lit (s := 1) (n := 1) (cs := rows eLN [a]) (by kernel_rfl) (by kernel_rfl) ?_)
  refine R.call true (searchCode_c n xs [a] (by first | omega | (simp <;> omega)) (by first | assumption | exact shortL_one (by omega))) (by kernel_rfl) rfl (by kernel_rfl) ?_
  refine R.go 7 (R.condN ((scode n xs [a]) = 0) (by kernel_rfl) (fun c1 => ?_) (fun c1 => ?_))
  · exact R.go 6 (R.retE (.tup [.bool false, AI (scode n xs [a])]) (by kernel_rfl) (by kernel_rfl) (by first | (refine tupB ?_ ?_ <;> first | (simp [vdB, *]; done) | (rw [vdB, hm]; rfl) | exact hm.symm) | (exfalso; omega)))
  · have hm : scode n xs [a] = 0 := by assumption
    have hsc := scode_ok hm
    have hF : allF [a] = true := hsc.2.1
    have hR : okFr n xs = true := hsc.1
    have hfit : n * ((mem (vmT [a] [a].length)).length : Int) ≤ 16 := hsc.2.2
    refine R.go 5 (R.call true (isValid_c n xs a hF hR hfit (by first | omega | (simp <;> omega))) (by kernel_rfl) rfl (by kernel_rfl) ?_)
    exact R.go 3 (R.retE (.tup [.bool ((fstV n xs (mem (vmT [a] [a].length)) a).isNone), AI 0]) (by kernel_rfl) (by kernel_rfl) (by first | (refine tupB ?_ ?_ <;> first | (simp [vdB, *]; done) | (rw [vdB, hm]; rfl) | exact hm.symm) | (exfalso; omega)))

theorem nn_eq {n : Int} (h0 : 0 ≤ n) : ((n.toNat : Nat) : Int) = n := by omega
theorem mT_in {n : Int} (h0 : 0 ≤ n) (h8 : n ≤ 8) {k p q : Int} (hp : InM n.toNat p) (hq : InM n.toNat q) : InM n.toNat (mT n k p q) := by
  have hn : n.toNat ≤ 61 := by omega
  have hf := inM_full (n := n.toNat) hn
  rw [nn_eq h0] at hf
  unfold mT
  split
  · exact inM_band hn hp hq
  · split
    · exact inM_bor hn hp hq
    · exact inM_bor hn (inM_bnot hn hf hp) hq
theorem bxB_in {n : Int} {xs : List Int} (hR : okFr n xs = true) {m : Int} (hm : InM n.toNat m) : InM n.toNat (bxB xs m) := by
  obtain ⟨h0, h8, hl, hr⟩ := okFr_rel hR
  exact (boxB_ok (by omega) hr hm xs.length (by omega)).1
theorem mU_in {n : Int} {xs : List Int} (hR : okFr n xs = true) {k p : Int} (hp : InM n.toNat p) : InM n.toNat (mU n (bxB xs) k p) := by
  obtain ⟨h0, h8, hl, hr⟩ := okFr_rel hR
  have hn : n.toNat ≤ 61 := by omega
  have hf := inM_full (n := n.toNat) hn
  rw [nn_eq h0] at hf
  unfold mU
  split
  · exact bxB_in hR hp
  · exact inM_bnot hn hf (bxB_in hR (inM_bnot hn hf hp))
theorem tset_in {n : Int} {xs X : List Int} {a : List (Int × Int)} (hR : okFr n xs = true) (ha : OKM 6 a) (hX : ∀ j : Nat, j < 6 → InM n.toNat (X.getD j 0)) : InM n.toNat (tset n xs X a) := by
  obtain ⟨h0, h8, _, _⟩ := okFr_rel hR
  exact (gv_in (G := InM n.toNat) (u' := mU n (bxB xs)) ha (inM_zero _) hX (fun k p q hp hq => mT_in h0 h8 hp hq) (fun k p _ hp => ⟨mU_in hR hp, rfl⟩)).1
theorem shr_inM {m : Int} (h : InM 61 m) (e : Int) : InM 61 (shr64 m e) := by
  obtain ⟨a, rfl, ha⟩ := inM_nat h
  unfold shr64
  rw [show ((2 : Int) ^ (min e.toNat 64)) = ((2 ^ (min e.toNat 64) : Nat) : Int) by simp, Int.fdiv_eq_ediv_of_nonneg _ (Int.natCast_nonneg _), ← Int.natCast_ediv]
  exact ⟨Int.natCast_nonneg _, by rw [Int.toNat_natCast]; exact Nat.lt_of_le_of_lt (Nat.div_le_self _ _) ha⟩
theorem vrow_in {n : Int} {vs : List Int} {N : Nat} (h0 : 0 ≤ n) (h8 : n ≤ 8) (hN : N ≤ 2305843009213693951) (j : Nat) (hj : j < 6) : InM n.toNat ((vrow n vs (N : Int)).getD j 0) := by
  rw [vrow_get hj, vat]
  have hf := inM_full (n := n.toNat) (by omega)
  rw [nn_eq h0] at hf
  split
  · refine inM_band_r (by omega) (shr_inM (inM61 (by omega) (by omega)) _) hf
  · exact inM_zero _
theorem mem_pos {m : Int} (h : InM 61 m) (hm : m ≠ 0) : 0 < (mem m).length := by
  obtain ⟨a, rfl, ha⟩ := inM_nat h
  obtain ⟨i, hi⟩ := Nat.exists_testBit_of_ne_zero (x := a) (by omega)
  have h1 : i < 61 := tb_lt h hi
  have : ((i : Nat) : Int) ∈ mem (a : Int) := memN_mem.2 ⟨i, by omega, hi, rfl⟩
  exact List.length_pos_of_mem this
theorem totN_le {n : Int} {vs : List Int} (h : 0 ≤ n * (vs.length : Int) ∧ n * (vs.length : Int) ≤ 16) : (totN n vs : Int) ≤ 65536 := by
  have := shl_one (n * (vs.length : Int)) h.1 (by omega)
  have h4 : (2 : Nat) ^ (n * (vs.length : Int)).toNat ≤ 2 ^ 16 := Nat.pow_le_pow_right (by decide) (by omega)
  have h5 : (2 : Int) ^ (n * (vs.length : Int)).toNat = ((2 ^ (n * (vs.length : Int)).toNat : Nat) : Int) := by simp
  unfold totN
  omega
theorem rest_ok0 {n : Int} {xs vs X : List Int} {a : List (Int × Int)} {N : Nat} (hR : okFr n xs = true) (ha : OKM 6 a) (hX : X = vrow n vs (N : Int)) (hN : N ≤ 65536) :
    InM 61 (bnot ((shl64 1 n) - 1) (tset n xs X a)) ∧ (bnot ((shl64 1 n) - 1) (tset n xs X a) = 0 → tset n xs X a = (shl64 1 n) - 1) ∧ (¬ bnot ((shl64 1 n) - 1) (tset n xs X a) = 0 → 0 < (mem (bnot ((shl64 1 n) - 1) (tset n xs X a))).length ∧ ¬ tset n xs X a = (shl64 1 n) - 1) := by
  obtain ⟨h0, h8, _, _⟩ := okFr_rel hR
  have hf := inM_full (n := n.toNat) (by omega)
  rw [nn_eq h0] at hf
  have ht := tset_in hR ha (X := X) (by rw [hX]; exact vrow_in h0 h8 (by omega))
  have hi := inM_bnot (by omega) hf ht
  refine ⟨inM_mono (by omega) hi, fun hz => ?_, fun hz => ⟨mem_pos (inM_mono (by omega) hi) hz, fun he => hz ((bnot_sub (by omega) hf ht).2 fun i h => by rw [he]; exact h)⟩⟩
  have hsub := (bnot_sub (by omega) hf ht).1 hz
  refine tb_ext ht.1 hf.1 fun i => ?_
  rw [Bool.eq_iff_iff]
  refine ⟨fun hti => ?_, hsub i⟩
  have := tb_full (n := n.toNat) (by omega) i
  rw [nn_eq h0] at this
  rw [this]
  simpa using tb_lt ht hti
theorem rest_ok {n : Int} {xs vs X : List Int} {a : List (Int × Int)} {N : Nat} (hR : okFr n xs = true) (ha : OKM 6 a) (hX : X = vrow n vs (N : Int)) (hN : N ≤ 65536) :
    InM 61 (bnot ((shl64 1 n) - 1) (gv (mT n) (mU n (bxB xs)) X a)) ∧ (bnot ((shl64 1 n) - 1) (gv (mT n) (mU n (bxB xs)) X a) = 0 → gv (mT n) (mU n (bxB xs)) X a = (shl64 1 n) - 1) ∧ (¬ bnot ((shl64 1 n) - 1) (gv (mT n) (mU n (bxB xs)) X a) = 0 → 0 < (mem (bnot ((shl64 1 n) - 1) (gv (mT n) (mU n (bxB xs)) X a))).length ∧ ¬ gv (mT n) (mU n (bxB xs)) X a = (shl64 1 n) - 1) := rest_ok0 hR ha hX hN
theorem frT_bad {s : Nat} {n : Int} {xs : List Int} {a : List (Int × Int)} (h : ¬ scode n xs [a] = 0) : AV.tup [ownA eI s 1 [], AI 0, AI (scode n xs [a])] = AV.tup [ownA eI s 1 (frR n xs a), AI (frW n xs a), AI (frC n xs a)] := by
  rw [frR, frW, frC, if_neg h, if_neg h, if_neg h]
theorem frT_none {s : Nat} {n : Int} {xs : List Int} {a : List (Int × Int)} (h : scode n xs [a] = 0) (h2 : (fstV n xs (mem (vmT [a] [a].length)) a).isSome = false) : AV.tup [ownA eI s 1 [], AI 0, AI 4] = AV.tup [ownA eI s 1 (frR n xs a), AI (frW n xs a), AI (frC n xs a)] := by
  have h1 := fRow_none h2
  rw [frR, frW, frC, if_pos h, if_pos h, if_pos h, h1.1, h1.2, if_neg (by rw [h2]; decide)]
theorem frT_some {s : Nat} {n : Int} {xs : List Int} {a : List (Int × Int)} (h : scode n xs [a] = 0) (h2 : (fstV n xs (mem (vmT [a] [a].length)) a).isSome = true) : AV.tup [ownA eI s 1 (fRow n xs (mem (vmT [a] [a].length)) a), AI (fWor n xs (mem (vmT [a] [a].length)) a), AI 0] = AV.tup [ownA eI s 1 (frR n xs a), AI (frW n xs a), AI (frC n xs a)] := by
  rw [frR, frW, frC, if_pos h, if_pos h, if_pos h, if_pos h2]
theorem frT_someW {s : Nat} {n : Int} {xs : List Int} {a : List (Int × Int)} (h : scode n xs [a] = 0) (h2 : (fstV n xs (mem (vmT [a] [a].length)) a).isSome = true) : AV.tup [ownA eI s 1 (fRow n xs (mem (vmT [a] [a].length)) a), AI ((mem (bnot ((shl64 1 n) - 1) (fTru n xs (mem (vmT [a] [a].length)) a))).getD 0 0), AI 0] = AV.tup [ownA eI s 1 (frR n xs a), AI (frW n xs a), AI (frC n xs a)] := by
  rw [← fWor_some h2]
  exact frT_some h h2
theorem firstT_some {s N : Nat} {n : Int} {xs vs X : List Int} {a : List (Int × Int)} (hX : X = vrow n vs (N : Int)) (h : ∀ M, M < N → badV n xs vs a M = false) (hb : ¬ gv (mT n) (mU n (bxB xs)) X a = (shl64 1 n) - 1) (ht : N < totN n vs) :
    AV.tup [ownA eI s 1 X, AI ((mem (bnot ((shl64 1 n) - 1) (gv (mT n) (mU n (bxB xs)) X a))).getD 0 0), .bool true] = AV.tup [ownA eI s 1 (fRow n xs vs a), AI (fWor n xs vs a), .bool (fstV n xs vs a).isSome] := by
  have e : fstV n xs vs a = some N := fst_some h (badV_yes hX hb) ht
  simp only [fRow, fWor, e, hX]
  rfl
theorem firstT_none {s : Nat} {n : Int} {xs vs : List Int} {a : List (Int × Int)} (h : ∀ M, M < totN n vs → badV n xs vs a M = false) :
    AV.tup [ownA eI s 1 [], AI 0, .bool false] = AV.tup [ownA eI s 1 (fRow n xs vs a), AI (fWor n xs vs a), .bool (fstV n xs vs a).isSome] := by
  have e : fstV n xs vs a = none := fst_none h
  simp only [fRow, fWor, e]
  rfl
theorem fTru_ne {n : Int} {xs vs : List Int} {a : List (Int × Int)} (hR : okFr n xs = true) (ha : OKM 6 a) (hfit : 0 ≤ n * (vs.length : Int) ∧ n * (vs.length : Int) ≤ 16) (h : (fstV n xs vs a).isSome = true) :
    InM 61 (bnot ((shl64 1 n) - 1) (fTru n xs vs a)) ∧ 0 < (mem (bnot ((shl64 1 n) - 1) (fTru n xs vs a))).length := by
  obtain ⟨h0, h8, _, _⟩ := okFr_rel hR
  have hf := inM_full (n := n.toNat) (by omega)
  rw [nn_eq h0] at hf
  cases e : fstV n xs vs a with
  | none => rw [e] at h; cases h
  | some N =>
    have h1 := List.find?_some e
    have h2 : N < totN n vs := by simpa using List.mem_of_find?_eq_some e
    have h3 : (totN n vs : Int) ≤ 65536 := by
      have := shl_one (n * (vs.length : Int)) hfit.1 (by omega)
      have h4 : (2 : Nat) ^ (n * (vs.length : Int)).toNat ≤ 2 ^ 16 := Nat.pow_le_pow_right (by decide) (by omega)
      have h5 : (2 : Int) ^ (n * (vs.length : Int)).toNat = ((2 ^ (n * (vs.length : Int)).toNat : Nat) : Int) := by simp
      unfold totN
      omega
    have ht := tset_in hR ha (X := vrow n vs (N : Int)) (vrow_in h0 h8 (by omega))
    have hi := inM_bnot (by omega) hf ht
    have e2 : fTru n xs vs a = tset n xs (vrow n vs (N : Int)) a := by simp only [fTru, e]
    rw [e2]
    refine ⟨inM_mono (by omega) hi, mem_pos (inM_mono (by omega) hi) fun hz => ?_⟩
    have hsub := (bnot_sub (by omega) hf ht).1 hz
    have : tset n xs (vrow n vs (N : Int)) a = (shl64 1 n) - 1 := by
      refine tb_ext ht.1 hf.1 fun i => ?_
      rw [Bool.eq_iff_iff]
      refine ⟨fun hti => ?_, hsub i⟩
      have := tb_full (n := n.toNat) (by omega) i
      rw [nn_eq h0] at this
      rw [this]
      simpa using tb_lt ht hti
    rw [badT_no this] at h1
    cases h1

theorem FR_spec (n : Int) (xs : List Int) (a : List (Int × Int)) (lx : xs.length ≤ 1048576) (hl : a.length ≤ 1048576) : CallA Try.prog 49 [.agg [AI n, LI xs], LN a] (.tup [ownA eI 2 1 (frR n xs a), AI (frW n xs a), AI (frC n xs a)]) := by
  refine CallA.of Try.func49 rfl (by kernel_rfl) ?_
  refine R.go 11 (R.lit (s := 1) (n := 1) (cs := rows eLN [a]) (by kernel_rfl) (by kernel_rfl) ?_)
  refine R.call true (l06Code_c n xs [a] (by first | omega | (simp <;> omega)) (by first | assumption | exact shortL_one (by omega))) (by kernel_rfl) rfl (by kernel_rfl) ?_
  refine R.go 8 (R.condN ((scode n xs [a]) = 0) (by kernel_rfl) (fun c1 => ?_) (fun c1 => ?_))
  · refine R.go 7 (R.nil 4 2 1 (by kernel_rfl) ?_)
    exact R.retE (.tup [ownA eI 2 1 [], AI 0, AI (scode n xs [a])]) (by kernel_rfl) (by kernel_rfl) (by first | (first | exact frT_bad (by assumption) | exact frT_none hm (by assumption) | exact frT_someW hm (by assumption) | exact frT_some hm (by assumption)) | (exfalso; omega))
  · have hm : scode n xs [a] = 0 := by assumption
    have hsc := scode_ok hm
    have hF : allF [a] = true := hsc.2.1
    have hR : okFr n xs = true := hsc.1
    have hfit0 : n * ((mem (vmT [a] [a].length)).length : Int) ≤ 16 := hsc.2.2
    have hb0 := okFr_rel hR
    have hmm := mul_mem (vmT [a] [a].length) hb0.1 hb0.2.1
    have hA := isF_okm (show isF a = true by simpa using allF_get hF 0 (by simp))
    refine R.go 5 (R.call true (l06First_c n xs a hF hR hfit0 (by first | omega | (simp <;> omega))) (by kernel_rfl) rfl (by kernel_rfl) ?_)
    refine R.go 14 (R.condM ((fstV n xs (mem (vmT [a] [a].length)) a).isSome) (by kernel_rfl) (fun c2 => ?_) (fun c2 => ?_))
    · refine R.go 6 (R.nil 4 2 1 (by kernel_rfl) ?_)
      exact R.retE (.tup [ownA eI 2 1 [], AI 0, AI 4]) (by kernel_rfl) (by kernel_rfl) (by first | (first | exact frT_bad (by assumption) | exact frT_none hm (by assumption) | exact frT_someW hm (by assumption) | exact frT_some hm (by assumption)) | (exfalso; omega))
    · have hne := fTru_ne hR hA.1 ⟨hmm.1, hfit0⟩ (by assumption)
      have hne1 := hne.1
      have hne2 := hne.2
      have hfull := shl_rng n hb0.1 (by omega)
      refine R.go 6 (R.call true (l01Full_c n (by omega) (by omega)) (by kernel_rfl) rfl (by kernel_rfl) ?_)
      refine R.go 2 (R.call true (l01ListM_c (bnot ((shl64 1 n) - 1) (fTru n xs (mem (vmT [a] [a].length)) a)) (by first | assumption | exact inM61 (by omega) (by omega))).frz (by kernel_rfl) rfl (by kernel_rfl) ?_)
      refine R.idx eI (mem (bnot ((shl64 1 n) - 1) (fTru n xs (mem (vmT [a] [a].length)) a))) 0 0 0 (by kernel_rfl) rfl eI_len (by first | omega | (simp <;> omega)) (by kernel_rfl) ?_
      exact R.go 5 (R.retE (.tup [ownA eI 2 1 (fRow n xs (mem (vmT [a] [a].length)) a), AI ((mem (bnot ((shl64 1 n) - 1) (fTru n xs (mem (vmT [a] [a].length)) a))).getD 0 0), AI 0]) (by kernel_rfl) (by kernel_rfl) (by first | (first | exact frT_bad (by assumption) | exact frT_none hm (by assumption) | exact frT_someW hm (by assumption) | exact frT_some hm (by assumption)) | (exfalso; omega)))

theorem firstRef_c (n : Int) (xs : List Int) (a : List (Int × Int)) (hF : allF [a] = true) (hR : okFr n xs = true) (hfit : n * ((mem (vmT [a] [a].length)).length : Int) ≤ 16) (hl : a.length ≤ 1000000000) : CallA Try.prog 97 [.agg [AI n, LI xs], LN a] (.tup [ownA eI 2 1 (fRow n xs (mem (vmT [a] [a].length)) a), AI (fWor n xs (mem (vmT [a] [a].length)) a), .bool ((fstV n xs (mem (vmT [a] [a].length)) a).isSome)]) := by
  obtain ⟨vs, hvs⟩ : ∃ vs, vs = mem (vmT [a] [a].length) := ⟨_, rfl⟩
  rw [← hvs] at hfit ⊢
  have hVS : VS vs := by rw [hvs]; exact VS_vmT hF
  have hRR := okFr_rel hR
  have hb0 : 0 ≤ n ∧ n ≤ 8 ∧ (xs.length : Int) = n := ⟨hRR.1, hRR.2.1, hRR.2.2.1⟩
  have hnc : 0 ≤ n * (vs.length : Int) := Int.mul_nonneg hb0.1 (by omega)
  have htot : shl64 1 (n * (vs.length : Int)) = (totN n vs : Int) := by have := shl_rng (n * (vs.length : Int)) hnc (by omega); unfold totN; omega
  have htr := shl_rng (n * (vs.length : Int)) hnc (by omega)
  have hvl : vs.length ≤ 62 := by rw [hvs]; exact mem_le _
  have hisF : isF a = true := by simpa using allF_get hF 0 (by simp)
  have hA := isF_okm hisF
  have hok : OKM 6 a := hA.1
  have hal : a.length ≤ 40 := hA.2
  refine CallA.of Try.func97 rfl (by kernel_rfl) ?_
  refine R.go 13 (R.lit (s := 1) (n := 1) (cs := rows eLN [a]) (by kernel_rfl) (by kernel_rfl) ?_)
  refine R.call true (variablesInG_c [a] vs (by assumption) hF (by first | omega | (simp <;> omega))).frz (by kernel_rfl) rfl (by kernel_rfl) ?_
  refine R.call true (valuations_c n xs vs) (by kernel_rfl) rfl (by kernel_rfl) ?_
  refine R.go 2 (R.range (caps := [.rptr [LI vs], .rptr [AI n, LI xs]]) Try.func125 rfl (by kernel_rfl) (by kernel_rfl) ?_)
  intro D1 us2
  refine R.go 8 (R.call true (size_c vs) (by kernel_rfl) rfl (by kernel_rfl) ?_)
  refine R.go 7 (R.ar (n * (vs.length : Int)) (by kernel_rfl) (by omega) (by omega) (by kernel_rfl) ?_)
  refine R.shl 1 (n * (vs.length : Int)) (by kernel_rfl) (by omega) (by kernel_rfl) ?_
  refine R.go 3 (R.loop ((fun | (N, X) => (⟨(frm 48 [(0, .ref 6), (1, .rptr [LI vs]), (2, .rptr [AI n, LI xs]), (4, .ref 7), (5, AI vs.length), (16, AI (shl64 1 (n * (vs.length : Int)))), (17, AI (N : Int))]), [.box 46 [AI n, LI xs], .box 33 [LN a], .box 22 [.nil], .box 2 [AI 0], .box 4 [.bool false], .frame us2 (frm 30 [(0, .agg [AI n, LI xs]), (1, LN a), (2, .ptr 0 0), (3, .ptr 1 0), (4, .ptr 2 0), (5, .ptr 3 0), (6, .ptr 4 0), (9, .agg [AI n, LI xs]), (10, LN a), (11, LLN [a]), (12, LI vs), (13, .fn 125 [.rptr [LI vs], .rptr [AI n, LI xs]])]), loopObj Try.f97 D1 us2 .ready, rowA eI 2 1 X]⟩ : St) : Nat × (List Int) → St)) (fun | (N, X) => ((N : Int) ≤ shl64 1 (n * (vs.length : Int))) ∧ (X.length = 6) ∧ (∀ j : Nat, j < 6 → ¬ (j : Int) ∈ vs → X.getD j 0 = 0) ∧ (∀ M, M < N → badV n xs vs a M = false)) (fun | (N, X) => (totN n vs) - N) (0, (List.replicate 6 0)) [0, 1, 2, 4, 5, 16, 17] none (by kernel_rfl) (by kernel_rfl) (by kernel_rfl) ⟨(by omega), (by simp), (by exact zero_out vs), (by exact fun M hM => absurd hM (by omega))⟩ ?_)
  rintro ⟨N, X⟩ ⟨h6_1, h6_2, h6_3, h6_4⟩ R3 N4
  have hfull := shl_rng n hb0.1 (by omega)
  refine R.go 5 (R.cond ((N : Int) < (shl64 1 (n * (vs.length : Int)))) (by kernel_rfl) (fun c7 => ?_) (fun c7 => ?_))
  · refine R.go 16 (R.loop ((fun | (k, Y) => (⟨(frm 48 [(0, .ref 6), (1, .rptr [LI vs]), (2, .rptr [AI n, LI xs]), (4, .ref 7), (5, AI vs.length), (6, AI (N : Int)), (16, AI (shl64 1 (n * (vs.length : Int)))), (17, AI (N : Int)), (20, LI vs), (21, AI vs.length), (22, AI (k : Int))]), [.box 46 [AI n, LI xs], .box 33 [LN a], .box 22 [.nil], .box 2 [AI 0], .box 4 [.bool false], .frame us2 (frm 30 [(0, .agg [AI n, LI xs]), (1, LN a), (2, .ptr 0 0), (3, .ptr 1 0), (4, .ptr 2 0), (5, .ptr 3 0), (6, .ptr 4 0), (9, .agg [AI n, LI xs]), (10, LN a), (11, LLN [a]), (12, LI vs), (13, .fn 125 [.rptr [LI vs], .rptr [AI n, LI xs]])]), loopObj Try.f97 D1 us2 .ready, rowA eI 2 1 Y]⟩ : St) : Nat × (List Int) → St)) (fun | (k, Y) => (k ≤ vs.length) ∧ (PV n vs (N : Int) k Y)) (fun | (k, Y) => vs.length - k) (0, X) [0, 1, 2, 4, 5, 6, 16, 17, 20, 21, 22] none (by kernel_rfl) (by kernel_rfl) (by kernel_rfl) ⟨(by omega), (by exact pv_start (by assumption) (by assumption))⟩ ?_)
    rintro ⟨k, Y⟩ ⟨h11_1, h11_2⟩ R8 N9
    have hY : PV n vs (N : Int) k Y := by assumption
    have hYl : Y.length = 6 := hY.1
    have hg := fun h : k < vs.length => vs_get hVS h
    have hnk : k < vs.length → 0 ≤ n * ((vs.length : Int) - 1 - (k : Int)) ∧ n * ((vs.length : Int) - 1 - (k : Int)) ≤ n * (vs.length : Int) := fun h => ⟨Int.mul_nonneg hb0.1 (by omega), Int.mul_le_mul_of_nonneg_left (by omega) hb0.1⟩
    skip
    refine R.go 5 (R.cond ((k : Int) < (vs.length : Int)) (by kernel_rfl) (fun c12 => ?_) (fun c12 => ?_))
    · have hg2 := hg (by omega)
      have hnk2 := hnk (by omega)
      refine R.go 6 (R.idx eI vs 0 k (k : Int) (by kernel_rfl) rfl eI_len (by omega) (by kernel_rfl) ?_)
      refine R.go 11 (R.ar ((vs.length : Int) - 1) (by kernel_rfl) (by omega) (by omega) (by kernel_rfl) ?_)
      refine R.go 1 (R.ar (((vs.length : Int) - 1) - (k : Int)) (by kernel_rfl) (by omega) (by omega) (by kernel_rfl) ?_)
      refine R.ar (n * (((vs.length : Int) - 1) - (k : Int))) (by kernel_rfl) (by omega) (by omega) (by kernel_rfl) ?_
      refine R.shr (N : Int) (n * (((vs.length : Int) - 1) - (k : Int))) (by kernel_rfl) (by omega) (by kernel_rfl) ?_
      refine R.go 1 (R.call true (frameAll_c n xs (by omega) (by omega)) (by kernel_rfl) rfl (by kernel_rfl) ?_)
      refine R.go 1 (R.idxO 7 1 Y.length (((vs.getD k 0)).toNat) (vs.getD k 0) (by kernel_rfl) (by omega) (by omega) (by kernel_rfl) ?_)
      refine R.stI 7 2 Y (((vs.getD k 0)).toNat) (band (shr64 (N : Int) (n * (((vs.length : Int) - 1) - (k : Int)))) ((shl64 1 n) - 1)) (by kernel_rfl) (by omega) (by kernel_rfl) ?_
      refine R.go 3 (R.ar ((k : Int) + 1) (by kernel_rfl) (by omega) (by omega) (by kernel_rfl) ?_)
      exact R.go 2 (R.stop R8 (by kernel_rfl) (N9 (k + 1, Y.set (((vs.getD k 0)).toNat) (band (shr64 (N : Int) (n * (((vs.length : Int) - 1) - (k : Int)))) ((shl64 1 n) - 1))) [0, 1, 2, 4, 5, 6, 16, 17, 20, 21, 22] none _ (by kernel_rfl) (by kernel_rfl) ⟨(by omega), (by exact pv_step hY hVS (by omega) rfl)⟩ (by show (vs.length - (k + 1)) < (vs.length - k); omega)))
    · have hX : Y = vrow n vs (N : Int) := pv_end hY (by omega)
      have hYo : OKM Y.length a := by rw [hYl]; exact hok
      refine R.go 5 (R.yield 6 D1 us2 (by kernel_rfl) (by kernel_rfl) ?_)
      intro l13 us14
      refine R.go 3 (R.begin (by kernel_rfl) (by kernel_rfl) ?_)
      refine R.go 4 (R.call true (frameAll_c n xs (by omega) (by omega)) (by kernel_rfl) rfl (by kernel_rfl) ?_)
      refine R.go 3 (R.call false (truthSet_c n xs Y a hYo (by omega) (by omega) (by first | omega | (simp <;> omega)) hl) (by kernel_rfl) rfl (by kernel_rfl) ?_)
      have htb := totN_le ⟨hnc, hfit⟩
      have hr := rest_ok hR hok hX (show N ≤ 65536 by omega)
      have hr1 := hr.1
      refine R.go 8 (R.condN ((bnot ((shl64 1 n) - 1) (gv (mT n) (mU n (bxB xs)) Y a)) = 0) (by kernel_rfl) (fun c15 => ?_) (fun c15 => ?_))
      · refine R.go 1 (R.any (by decide +kernel) (by kernel_rfl) ?_)
        refine R.any2 0 2 (by kernel_rfl) (by kernel_rfl) ?_ ?_
        · have hr2 := hr.2.2 (by assumption)
          have hr3 := hr2.1
          have hXl : Y.length ≤ 1000000000 := by omega
          refine R.go 2 (R.any2 1 2 (by kernel_rfl) (by kernel_rfl) ?_ ?_)
          · refine R.call false (clone_c Y hXl) (by kernel_rfl) (ownA_closed eI_closed 2 1 Y) (by kernel_rfl) ?_
            refine R.go 1 (R.any1 2 (by kernel_rfl) (by kernel_rfl) ?_)
            refine R.go 2 (R.any1 3 (by kernel_rfl) (by kernel_rfl) ?_)
            refine R.call true (membersOf_c (bnot ((shl64 1 n) - 1) (gv (mT n) (mU n (bxB xs)) Y a)) (by first | assumption | exact inM61 (by omega) (by omega))).frz (by kernel_rfl) rfl (by kernel_rfl) ?_
            refine R.go 1 (R.any2 4 6 (by kernel_rfl) (by kernel_rfl) ?_ ?_)
            · refine R.idx eI (mem (bnot ((shl64 1 n) - 1) (gv (mT n) (mU n (bxB xs)) Y a))) 0 0 0 (by kernel_rfl) rfl eI_len (by omega) (by kernel_rfl) ?_
              refine R.go 1 (R.any2 5 6 (by kernel_rfl) (by kernel_rfl) ?_ ?_)
              · refine R.go 2 (R.any1 6 (by kernel_rfl) (by kernel_rfl) ?_)
                refine R.go 2 (R.any1 7 (by kernel_rfl) (by kernel_rfl) ?_)
                refine R.go 2 (R.any1 8 (by kernel_rfl) (by kernel_rfl) ?_)
                refine R.go 2 (R.any0 (by kernel_rfl) ?_)
                refine R.roundR (frm 48 [(0, .ref 6), (1, .rptr [LI vs]), (2, .rptr [AI n, LI xs]), (4, .ref 7), (5, AI vs.length), (6, AI (N : Int)), (16, AI (shl64 1 (n * (vs.length : Int)))), (17, AI (N : Int)), (20, LI vs), (21, AI vs.length), (22, AI (k : Int)), (23, .bool (decide ((k : Int) < (vs.length : Int)))), (43, .ref 6), (44, .ref 7)]) (by kernel_rfl) (by kernel_rfl) (by kernel_rfl) ?_
                refine R.go 3 (R.left (.ret) (.tup []) (frm 30 [(0, .agg [AI n, LI xs]), (1, LN a), (2, .ptr 0 0), (3, .ptr 1 0), (4, .ptr 2 0), (5, .ptr 3 0), (6, .ptr 4 0), (9, .agg [AI n, LI xs]), (10, LN a), (11, LLN [a]), (12, LI vs), (13, .fn 125 [.rptr [LI vs], .rptr [AI n, LI xs]])]) (by kernel_rfl) (by kernel_rfl) (by kernel_rfl) (by kernel_rfl) ?_)
                exact R.retE (.tup [ownA eI 2 1 Y, AI ((mem (bnot ((shl64 1 n) - 1) (gv (mT n) (mU n (bxB xs)) Y a))).getD 0 0), .bool true]) (by kernel_rfl) (by kernel_rfl) (by first | (first | exact firstT_some hX (by assumption) hr2.2 (by omega) | exact firstT_none (fun M hM => (show ∀ M, M < N → badV n xs vs a M = false by assumption) M (by omega))) | (exfalso; omega))
              · refine R.go 2 (R.any1 5 (by kernel_rfl) (by kernel_rfl) ?_)
                refine R.go 2 (R.any1 7 (by kernel_rfl) (by kernel_rfl) ?_)
                refine R.go 2 (R.any1 8 (by kernel_rfl) (by kernel_rfl) ?_)
                refine R.go 2 (R.any0 (by kernel_rfl) ?_)
                refine R.roundR (frm 48 [(0, .ref 6), (1, .rptr [LI vs]), (2, .rptr [AI n, LI xs]), (4, .ref 7), (5, AI vs.length), (6, AI (N : Int)), (16, AI (shl64 1 (n * (vs.length : Int)))), (17, AI (N : Int)), (20, LI vs), (21, AI vs.length), (22, AI (k : Int)), (23, .bool (decide ((k : Int) < (vs.length : Int)))), (43, .ref 6), (44, .ref 7)]) (by kernel_rfl) (by kernel_rfl) (by kernel_rfl) ?_
                refine R.go 3 (R.left (.ret) (.tup []) (frm 30 [(0, .agg [AI n, LI xs]), (1, LN a), (2, .ptr 0 0), (3, .ptr 1 0), (4, .ptr 2 0), (5, .ptr 3 0), (6, .ptr 4 0), (9, .agg [AI n, LI xs]), (10, LN a), (11, LLN [a]), (12, LI vs), (13, .fn 125 [.rptr [LI vs], .rptr [AI n, LI xs]])]) (by kernel_rfl) (by kernel_rfl) (by kernel_rfl) (by kernel_rfl) ?_)
                exact R.retE (.tup [ownA eI 2 1 Y, AI ((mem (bnot ((shl64 1 n) - 1) (gv (mT n) (mU n (bxB xs)) Y a))).getD 0 0), .bool true]) (by kernel_rfl) (by kernel_rfl) (by first | (first | exact firstT_some hX (by assumption) hr2.2 (by omega) | exact firstT_none (fun M hM => (show ∀ M, M < N → badV n xs vs a M = false by assumption) M (by omega))) | (exfalso; omega))
            · refine R.go 2 (R.any1 4 (by kernel_rfl) (by kernel_rfl) ?_)
              refine R.idx eI (mem (bnot ((shl64 1 n) - 1) (gv (mT n) (mU n (bxB xs)) Y a))) 0 0 0 (by kernel_rfl) rfl eI_len (by omega) (by kernel_rfl) ?_
              refine R.go 1 (R.any1 5 (by kernel_rfl) (by kernel_rfl) ?_)
              refine R.go 2 (R.any1 7 (by kernel_rfl) (by kernel_rfl) ?_)
              refine R.go 2 (R.any1 8 (by kernel_rfl) (by kernel_rfl) ?_)
              refine R.go 2 (R.any0 (by kernel_rfl) ?_)
              refine R.roundR (frm 48 [(0, .ref 6), (1, .rptr [LI vs]), (2, .rptr [AI n, LI xs]), (4, .ref 7), (5, AI vs.length), (6, AI (N : Int)), (16, AI (shl64 1 (n * (vs.length : Int)))), (17, AI (N : Int)), (20, LI vs), (21, AI vs.length), (22, AI (k : Int)), (23, .bool (decide ((k : Int) < (vs.length : Int)))), (43, .ref 6), (44, .ref 7)]) (by kernel_rfl) (by kernel_rfl) (by kernel_rfl) ?_
              refine R.go 3 (R.left (.ret) (.tup []) (frm 30 [(0, .agg [AI n, LI xs]), (1, LN a), (2, .ptr 0 0), (3, .ptr 1 0), (4, .ptr 2 0), (5, .ptr 3 0), (6, .ptr 4 0), (9, .agg [AI n, LI xs]), (10, LN a), (11, LLN [a]), (12, LI vs), (13, .fn 125 [.rptr [LI vs], .rptr [AI n, LI xs]])]) (by kernel_rfl) (by kernel_rfl) (by kernel_rfl) (by kernel_rfl) ?_)
              exact R.retE (.tup [ownA eI 2 1 Y, AI ((mem (bnot ((shl64 1 n) - 1) (gv (mT n) (mU n (bxB xs)) Y a))).getD 0 0), .bool true]) (by kernel_rfl) (by kernel_rfl) (by first | (first | exact firstT_some hX (by assumption) hr2.2 (by omega) | exact firstT_none (fun M hM => (show ∀ M, M < N → badV n xs vs a M = false by assumption) M (by omega))) | (exfalso; omega))
          · refine R.go 2 (R.any1 1 (by kernel_rfl) (by kernel_rfl) ?_)
            refine R.call false (clone_c Y hXl) (by kernel_rfl) (ownA_closed eI_closed 2 1 Y) (by kernel_rfl) ?_
            refine R.go 1 (R.any1 3 (by kernel_rfl) (by kernel_rfl) ?_)
            refine R.call true (membersOf_c (bnot ((shl64 1 n) - 1) (gv (mT n) (mU n (bxB xs)) Y a)) (by first | assumption | exact inM61 (by omega) (by omega))).frz (by kernel_rfl) rfl (by kernel_rfl) ?_
            refine R.go 1 (R.any2 4 6 (by kernel_rfl) (by kernel_rfl) ?_ ?_)
            · refine R.idx eI (mem (bnot ((shl64 1 n) - 1) (gv (mT n) (mU n (bxB xs)) Y a))) 0 0 0 (by kernel_rfl) rfl eI_len (by omega) (by kernel_rfl) ?_
              refine R.go 1 (R.any2 5 6 (by kernel_rfl) (by kernel_rfl) ?_ ?_)
              · refine R.go 2 (R.any1 6 (by kernel_rfl) (by kernel_rfl) ?_)
                refine R.go 2 (R.any1 7 (by kernel_rfl) (by kernel_rfl) ?_)
                refine R.go 2 (R.any1 8 (by kernel_rfl) (by kernel_rfl) ?_)
                refine R.go 2 (R.any0 (by kernel_rfl) ?_)
                refine R.roundR (frm 48 [(0, .ref 6), (1, .rptr [LI vs]), (2, .rptr [AI n, LI xs]), (4, .ref 7), (5, AI vs.length), (6, AI (N : Int)), (16, AI (shl64 1 (n * (vs.length : Int)))), (17, AI (N : Int)), (20, LI vs), (21, AI vs.length), (22, AI (k : Int)), (23, .bool (decide ((k : Int) < (vs.length : Int)))), (43, .ref 6), (44, .ref 7)]) (by kernel_rfl) (by kernel_rfl) (by kernel_rfl) ?_
                refine R.go 3 (R.left (.ret) (.tup []) (frm 30 [(0, .agg [AI n, LI xs]), (1, LN a), (2, .ptr 0 0), (3, .ptr 1 0), (4, .ptr 2 0), (5, .ptr 3 0), (6, .ptr 4 0), (9, .agg [AI n, LI xs]), (10, LN a), (11, LLN [a]), (12, LI vs), (13, .fn 125 [.rptr [LI vs], .rptr [AI n, LI xs]])]) (by kernel_rfl) (by kernel_rfl) (by kernel_rfl) (by kernel_rfl) ?_)
                exact R.retE (.tup [ownA eI 2 1 Y, AI ((mem (bnot ((shl64 1 n) - 1) (gv (mT n) (mU n (bxB xs)) Y a))).getD 0 0), .bool true]) (by kernel_rfl) (by kernel_rfl) (by first | (first | exact firstT_some hX (by assumption) hr2.2 (by omega) | exact firstT_none (fun M hM => (show ∀ M, M < N → badV n xs vs a M = false by assumption) M (by omega))) | (exfalso; omega))
              · refine R.go 2 (R.any1 5 (by kernel_rfl) (by kernel_rfl) ?_)
                refine R.go 2 (R.any1 7 (by kernel_rfl) (by kernel_rfl) ?_)
                refine R.go 2 (R.any1 8 (by kernel_rfl) (by kernel_rfl) ?_)
                refine R.go 2 (R.any0 (by kernel_rfl) ?_)
                refine R.roundR (frm 48 [(0, .ref 6), (1, .rptr [LI vs]), (2, .rptr [AI n, LI xs]), (4, .ref 7), (5, AI vs.length), (6, AI (N : Int)), (16, AI (shl64 1 (n * (vs.length : Int)))), (17, AI (N : Int)), (20, LI vs), (21, AI vs.length), (22, AI (k : Int)), (23, .bool (decide ((k : Int) < (vs.length : Int)))), (43, .ref 6), (44, .ref 7)]) (by kernel_rfl) (by kernel_rfl) (by kernel_rfl) ?_
                refine R.go 3 (R.left (.ret) (.tup []) (frm 30 [(0, .agg [AI n, LI xs]), (1, LN a), (2, .ptr 0 0), (3, .ptr 1 0), (4, .ptr 2 0), (5, .ptr 3 0), (6, .ptr 4 0), (9, .agg [AI n, LI xs]), (10, LN a), (11, LLN [a]), (12, LI vs), (13, .fn 125 [.rptr [LI vs], .rptr [AI n, LI xs]])]) (by kernel_rfl) (by kernel_rfl) (by kernel_rfl) (by kernel_rfl) ?_)
                exact R.retE (.tup [ownA eI 2 1 Y, AI ((mem (bnot ((shl64 1 n) - 1) (gv (mT n) (mU n (bxB xs)) Y a))).getD 0 0), .bool true]) (by kernel_rfl) (by kernel_rfl) (by first | (first | exact firstT_some hX (by assumption) hr2.2 (by omega) | exact firstT_none (fun M hM => (show ∀ M, M < N → badV n xs vs a M = false by assumption) M (by omega))) | (exfalso; omega))
            · refine R.go 2 (R.any1 4 (by kernel_rfl) (by kernel_rfl) ?_)
              refine R.idx eI (mem (bnot ((shl64 1 n) - 1) (gv (mT n) (mU n (bxB xs)) Y a))) 0 0 0 (by kernel_rfl) rfl eI_len (by omega) (by kernel_rfl) ?_
              refine R.go 1 (R.any1 5 (by kernel_rfl) (by kernel_rfl) ?_)
              refine R.go 2 (R.any1 7 (by kernel_rfl) (by kernel_rfl) ?_)
              refine R.go 2 (R.any1 8 (by kernel_rfl) (by kernel_rfl) ?_)
              refine R.go 2 (R.any0 (by kernel_rfl) ?_)
              refine R.roundR (frm 48 [(0, .ref 6), (1, .rptr [LI vs]), (2, .rptr [AI n, LI xs]), (4, .ref 7), (5, AI vs.length), (6, AI (N : Int)), (16, AI (shl64 1 (n * (vs.length : Int)))), (17, AI (N : Int)), (20, LI vs), (21, AI vs.length), (22, AI (k : Int)), (23, .bool (decide ((k : Int) < (vs.length : Int)))), (43, .ref 6), (44, .ref 7)]) (by kernel_rfl) (by kernel_rfl) (by kernel_rfl) ?_
              refine R.go 3 (R.left (.ret) (.tup []) (frm 30 [(0, .agg [AI n, LI xs]), (1, LN a), (2, .ptr 0 0), (3, .ptr 1 0), (4, .ptr 2 0), (5, .ptr 3 0), (6, .ptr 4 0), (9, .agg [AI n, LI xs]), (10, LN a), (11, LLN [a]), (12, LI vs), (13, .fn 125 [.rptr [LI vs], .rptr [AI n, LI xs]])]) (by kernel_rfl) (by kernel_rfl) (by kernel_rfl) (by kernel_rfl) ?_)
              exact R.retE (.tup [ownA eI 2 1 Y, AI ((mem (bnot ((shl64 1 n) - 1) (gv (mT n) (mU n (bxB xs)) Y a))).getD 0 0), .bool true]) (by kernel_rfl) (by kernel_rfl) (by first | (first | exact firstT_some hX (by assumption) hr2.2 (by omega) | exact firstT_none (fun M hM => (show ∀ M, M < N → badV n xs vs a M = false by assumption) M (by omega))) | (exfalso; omega))
        · refine R.go 2 (R.any1 0 (by kernel_rfl) (by kernel_rfl) ?_)
          have hr2 := hr.2.2 (by assumption)
          have hr3 := hr2.1
          have hXl : Y.length ≤ 1000000000 := by omega
          refine R.go 2 (R.any1 1 (by kernel_rfl) (by kernel_rfl) ?_)
          refine R.call false (clone_c Y hXl) (by kernel_rfl) (ownA_closed eI_closed 2 1 Y) (by kernel_rfl) ?_
          refine R.go 1 (R.any1 3 (by kernel_rfl) (by kernel_rfl) ?_)
          refine R.call true (membersOf_c (bnot ((shl64 1 n) - 1) (gv (mT n) (mU n (bxB xs)) Y a)) (by first | assumption | exact inM61 (by omega) (by omega))).frz (by kernel_rfl) rfl (by kernel_rfl) ?_
          refine R.go 1 (R.any2 4 6 (by kernel_rfl) (by kernel_rfl) ?_ ?_)
          · refine R.idx eI (mem (bnot ((shl64 1 n) - 1) (gv (mT n) (mU n (bxB xs)) Y a))) 0 0 0 (by kernel_rfl) rfl eI_len (by omega) (by kernel_rfl) ?_
            refine R.go 1 (R.any2 5 6 (by kernel_rfl) (by kernel_rfl) ?_ ?_)
            · refine R.go 2 (R.any1 6 (by kernel_rfl) (by kernel_rfl) ?_)
              refine R.go 2 (R.any1 7 (by kernel_rfl) (by kernel_rfl) ?_)
              refine R.go 2 (R.any1 8 (by kernel_rfl) (by kernel_rfl) ?_)
              refine R.go 2 (R.any0 (by kernel_rfl) ?_)
              refine R.roundR (frm 48 [(0, .ref 6), (1, .rptr [LI vs]), (2, .rptr [AI n, LI xs]), (4, .ref 7), (5, AI vs.length), (6, AI (N : Int)), (16, AI (shl64 1 (n * (vs.length : Int)))), (17, AI (N : Int)), (20, LI vs), (21, AI vs.length), (22, AI (k : Int)), (23, .bool (decide ((k : Int) < (vs.length : Int)))), (43, .ref 6), (44, .ref 7)]) (by kernel_rfl) (by kernel_rfl) (by kernel_rfl) ?_
              refine R.go 3 (R.left (.ret) (.tup []) (frm 30 [(0, .agg [AI n, LI xs]), (1, LN a), (2, .ptr 0 0), (3, .ptr 1 0), (4, .ptr 2 0), (5, .ptr 3 0), (6, .ptr 4 0), (9, .agg [AI n, LI xs]), (10, LN a), (11, LLN [a]), (12, LI vs), (13, .fn 125 [.rptr [LI vs], .rptr [AI n, LI xs]])]) (by kernel_rfl) (by kernel_rfl) (by kernel_rfl) (by kernel_rfl) ?_)
              exact R.retE (.tup [ownA eI 2 1 Y, AI ((mem (bnot ((shl64 1 n) - 1) (gv (mT n) (mU n (bxB xs)) Y a))).getD 0 0), .bool true]) (by kernel_rfl) (by kernel_rfl) (by first | (first | exact firstT_some hX (by assumption) hr2.2 (by omega) | exact firstT_none (fun M hM => (show ∀ M, M < N → badV n xs vs a M = false by assumption) M (by omega))) | (exfalso; omega))
            · refine R.go 2 (R.any1 5 (by kernel_rfl) (by kernel_rfl) ?_)
              refine R.go 2 (R.any1 7 (by kernel_rfl) (by kernel_rfl) ?_)
              refine R.go 2 (R.any1 8 (by kernel_rfl) (by kernel_rfl) ?_)
              refine R.go 2 (R.any0 (by kernel_rfl) ?_)
              refine R.roundR (frm 48 [(0, .ref 6), (1, .rptr [LI vs]), (2, .rptr [AI n, LI xs]), (4, .ref 7), (5, AI vs.length), (6, AI (N : Int)), (16, AI (shl64 1 (n * (vs.length : Int)))), (17, AI (N : Int)), (20, LI vs), (21, AI vs.length), (22, AI (k : Int)), (23, .bool (decide ((k : Int) < (vs.length : Int)))), (43, .ref 6), (44, .ref 7)]) (by kernel_rfl) (by kernel_rfl) (by kernel_rfl) ?_
              refine R.go 3 (R.left (.ret) (.tup []) (frm 30 [(0, .agg [AI n, LI xs]), (1, LN a), (2, .ptr 0 0), (3, .ptr 1 0), (4, .ptr 2 0), (5, .ptr 3 0), (6, .ptr 4 0), (9, .agg [AI n, LI xs]), (10, LN a), (11, LLN [a]), (12, LI vs), (13, .fn 125 [.rptr [LI vs], .rptr [AI n, LI xs]])]) (by kernel_rfl) (by kernel_rfl) (by kernel_rfl) (by kernel_rfl) ?_)
              exact R.retE (.tup [ownA eI 2 1 Y, AI ((mem (bnot ((shl64 1 n) - 1) (gv (mT n) (mU n (bxB xs)) Y a))).getD 0 0), .bool true]) (by kernel_rfl) (by kernel_rfl) (by first | (first | exact firstT_some hX (by assumption) hr2.2 (by omega) | exact firstT_none (fun M hM => (show ∀ M, M < N → badV n xs vs a M = false by assumption) M (by omega))) | (exfalso; omega))
          · refine R.go 2 (R.any1 4 (by kernel_rfl) (by kernel_rfl) ?_)
            refine R.idx eI (mem (bnot ((shl64 1 n) - 1) (gv (mT n) (mU n (bxB xs)) Y a))) 0 0 0 (by kernel_rfl) rfl eI_len (by omega) (by kernel_rfl) ?_
            refine R.go 1 (R.any1 5 (by kernel_rfl) (by kernel_rfl) ?_)
            refine R.go 2 (R.any1 7 (by kernel_rfl) (by kernel_rfl) ?_)
            refine R.go 2 (R.any1 8 (by kernel_rfl) (by kernel_rfl) ?_)
            refine R.go 2 (R.any0 (by kernel_rfl) ?_)
            refine R.roundR (frm 48 [(0, .ref 6), (1, .rptr [LI vs]), (2, .rptr [AI n, LI xs]), (4, .ref 7), (5, AI vs.length), (6, AI (N : Int)), (16, AI (shl64 1 (n * (vs.length : Int)))), (17, AI (N : Int)), (20, LI vs), (21, AI vs.length), (22, AI (k : Int)), (23, .bool (decide ((k : Int) < (vs.length : Int)))), (43, .ref 6), (44, .ref 7)]) (by kernel_rfl) (by kernel_rfl) (by kernel_rfl) ?_
            refine R.go 3 (R.left (.ret) (.tup []) (frm 30 [(0, .agg [AI n, LI xs]), (1, LN a), (2, .ptr 0 0), (3, .ptr 1 0), (4, .ptr 2 0), (5, .ptr 3 0), (6, .ptr 4 0), (9, .agg [AI n, LI xs]), (10, LN a), (11, LLN [a]), (12, LI vs), (13, .fn 125 [.rptr [LI vs], .rptr [AI n, LI xs]])]) (by kernel_rfl) (by kernel_rfl) (by kernel_rfl) (by kernel_rfl) ?_)
            exact R.retE (.tup [ownA eI 2 1 Y, AI ((mem (bnot ((shl64 1 n) - 1) (gv (mT n) (mU n (bxB xs)) Y a))).getD 0 0), .bool true]) (by kernel_rfl) (by kernel_rfl) (by first | (first | exact firstT_some hX (by assumption) hr2.2 (by omega) | exact firstT_none (fun M hM => (show ∀ M, M < N → badV n xs vs a M = false by assumption) M (by omega))) | (exfalso; omega))
      · refine R.go 2 (R.round (frm 48 [(0, .ref 6), (1, .rptr [LI vs]), (2, .rptr [AI n, LI xs]), (4, .ref 7), (5, AI vs.length), (6, AI (N : Int)), (16, AI (shl64 1 (n * (vs.length : Int)))), (17, AI (N : Int)), (20, LI vs), (21, AI vs.length), (22, AI (k : Int)), (23, .bool (decide ((k : Int) < (vs.length : Int)))), (43, .ref 6), (44, .ref 7)]) (by kernel_rfl) (by kernel_rfl) (by kernel_rfl) ?_)
        refine R.go 6 (R.ar ((N : Int) + 1) (by kernel_rfl) (by omega) (by omega) (by kernel_rfl) ?_)
        exact R.go 2 (R.stop R3 (by kernel_rfl) (N4 (N + 1, Y) [0, 1, 2, 4, 5, 16, 17] (some [0, 1, 2, 3, 4, 5, 6, 7]) _ (by kernel_rfl) (by kernel_rfl) ⟨(by omega), (by rw [hX]; exact vrow_len _ _ _), (by rw [hX]; exact vrow_out), (by exact below_succ (by assumption) (badV_no hX (hr.2.1 (by assumption))))⟩ (by show ((totN n vs) - (N + 1)) < ((totN n vs) - N); omega)))
  · refine R.go 1 (R.over (.tup []) (frm 30 [(0, .agg [AI n, LI xs]), (1, LN a), (2, .ptr 0 0), (3, .ptr 1 0), (4, .ptr 2 0), (5, .ptr 3 0), (6, .ptr 4 0), (9, .agg [AI n, LI xs]), (10, LN a), (11, LLN [a]), (12, LI vs), (13, .fn 125 [.rptr [LI vs], .rptr [AI n, LI xs]])]) (by kernel_rfl) (by kernel_rfl) (by kernel_rfl) (by kernel_rfl) ?_)
    refine R.go 7 (R.nilB 2 0 2 1 (by kernel_rfl) ?_)
    exact R.retE (.tup [ownA eI 2 1 [], AI 0, .bool false]) (by kernel_rfl) (by kernel_rfl) (by first | (first | exact firstT_some hX (by assumption) hr2.2 (by omega) | exact firstT_none (fun M hM => (show ∀ M, M < N → badV n xs vs a M = false by assumption) M (by omega))) | (exfalso; omega))

theorem FR_impl (n : Int) (xs : List Int) (a : List (Int × Int)) (lx : xs.length ≤ 1048576) (hl : a.length ≤ 1048576) : CallA Try.prog 50 [.agg [AI n, LI xs], LN a] (.tup [ownA eI 2 1 (frR n xs a), AI (frW n xs a), AI (frC n xs a)]) := by
  refine CallA.of Try.func50 rfl (by kernel_rfl) ?_
  refine R.go 12 (R.lit (s := 1) (n := 1) (cs := rows eLN [a]) (by kernel_rfl) (by kernel_rfl) ?_)
  refine R.call true (searchCode_c n xs [a] (by first | omega | (simp <;> omega)) (by first | assumption | exact shortL_one (by omega))) (by kernel_rfl) rfl (by kernel_rfl) ?_
  refine R.go 7 (R.condN ((scode n xs [a]) = 0) (by kernel_rfl) (fun c1 => ?_) (fun c1 => ?_))
  · refine R.go 7 (R.nil 4 2 1 (by kernel_rfl) ?_)
    exact R.retE (.tup [ownA eI 2 1 [], AI 0, AI (scode n xs [a])]) (by kernel_rfl) (by kernel_rfl) (by first | (first | exact frT_bad (by assumption) | exact frT_none hm (by assumption) | exact frT_someW hm (by assumption) | exact frT_some hm (by assumption)) | (exfalso; omega))
  · have hm : scode n xs [a] = 0 := by assumption
    have hsc := scode_ok hm
    have hF : allF [a] = true := hsc.2.1
    have hR : okFr n xs = true := hsc.1
    have hfit0 : n * ((mem (vmT [a] [a].length)).length : Int) ≤ 16 := hsc.2.2
    have hb0 := okFr_rel hR
    have hmm := mul_mem (vmT [a] [a].length) hb0.1 hb0.2.1
    have hA := isF_okm (show isF a = true by simpa using allF_get hF 0 (by simp))
    refine R.go 5 (R.call true (firstRef_c n xs a hF hR hfit0 (by first | omega | (simp <;> omega))) (by kernel_rfl) rfl (by kernel_rfl) ?_)
    refine R.go 14 (R.condM ((fstV n xs (mem (vmT [a] [a].length)) a).isSome) (by kernel_rfl) (fun c2 => ?_) (fun c2 => ?_))
    · refine R.go 6 (R.nil 4 2 1 (by kernel_rfl) ?_)
      exact R.retE (.tup [ownA eI 2 1 [], AI 0, AI 4]) (by kernel_rfl) (by kernel_rfl) (by first | (first | exact frT_bad (by assumption) | exact frT_none hm (by assumption) | exact frT_someW hm (by assumption) | exact frT_some hm (by assumption)) | (exfalso; omega))
    · exact R.go 9 (R.retE (.tup [ownA eI 2 1 (fRow n xs (mem (vmT [a] [a].length)) a), AI (fWor n xs (mem (vmT [a] [a].length)) a), AI 0]) (by kernel_rfl) (by kernel_rfl) (by first | (first | exact frT_bad (by assumption) | exact frT_none hm (by assumption) | exact frT_someW hm (by assumption) | exact frT_some hm (by assumption)) | (exfalso; omega)))

end Go.Proofs.Ytkmjijomengoiaa
