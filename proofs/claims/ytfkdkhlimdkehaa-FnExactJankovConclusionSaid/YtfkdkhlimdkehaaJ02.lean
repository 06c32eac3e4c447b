/- The conclusion of the Jankov formulas, and their code. -/
import Derived.Test.YtfkdkhlimdkehaaJ01
namespace Go.Proofs.Ytfkdkhlimdkehaa
open Go.RowKit Go.Abs

def varT (L : List Int) : Nat → List (List (Int × Int))
  | 0 => []
  | i + 1 => varT L i ++ [[(0, L.getD i 0)]]
theorem varT_eq (L : List Int) : ∀ i : Nat, i ≤ L.length → varT L i = varL (L.take i)
  | 0, _ => by simp [varT, varL]
  | i + 1, h => by
    rw [varT, varT_eq L i (by omega), varL_snoc, List.take_succ_eq_append_getElem (by omega)]
    simp [List.getD_eq_getElem?_getD, List.getElem?_eq_getElem (show i < L.length by omega)]
theorem varT_all (L : List Int) : varT L L.length = varL L := by rw [varT_eq L _ (Nat.le_refl _), List.take_length]
theorem varT_len (L : List Int) : ∀ i : Nat, (varT L i).length = i
  | 0 => rfl
  | i + 1 => by simp [varT, varT_len L i]
theorem lenTo_succ {l : List (List (Int × Int))} {i : Nat} : lenTo l (i + 1) = lenTo l i + (l.getD i []).length := rfl
theorem orT_one {l : List (List (Int × Int))} : l.getD 0 [] = orT l 1 := by simp [orT, joinTo]
theorem jn_yes {xs : List Int} {m : Int} {n x y : Nat} {le : Bool} (h : lstT xs m x y = le) (hle : le = true) (hy : y = n) : varL (mnS xs m n x) ++ [[(0, (x : Int))]] = varL (mnS xs m n (x + 1)) := by
  subst hy; rw [← mnS_yes (by rw [h, hle]), varL_snoc]
theorem jn_no {xs : List Int} {m : Int} {n x y : Nat} {le : Bool} (h : lstT xs m x y = le) (hle : le = false) (hy : y = n) : varL (mnS xs m n x) = varL (mnS xs m n (x + 1)) := by
  subst hy; rw [← mnS_no (by rw [h, hle])]
theorem orAll_len {l : List (List (Int × Int))} {i : Nat} {X : List (Int × Int)} (h0 : ¬ l.length = 0) (hi : i = l.length) (hX : X = List.replicate (l.length - 1) ((3 : Int), (0 : Int)) ++ joinTo l i) : X = orAll l := by rw [hX, orAll, if_neg h0, hi]
theorem lenTo_varT {L : List Int} (i : Nat) (h : i = L.length) : lenTo (varT L i) (varT L i).length = L.length := by rw [h, varT_all, varL_len, lenTo_var L _ (Nat.le_refl _)]
theorem lenTo_vars {L : List Int} : lenTo (varL L) (varL L).length = L.length := by rw [varL_len, lenTo_var L _ (Nat.le_refl _)]

theorem joinAll_c (l : List (List (Int × Int))) (h8 : l.length ≤ 16) (hs : lenTo l l.length ≤ 1000) : CallA Try.prog 170 [AI 3, LLN l] (ownA eN 65 2 (orAll l)) := by
  refine CallA.of Try.func170 rfl (by kernel_rfl) ?_
  refine R.go 11 (R.cond ((l.length : Int) = 0) (by kernel_rfl) (fun c1 => ?_) (fun c1 => ?_))
  · refine R.go 10 (R.call true (falsum_c) (by kernel_rfl) rfl (by kernel_rfl) ?_)
    exact R.go 2 (R.retE (ownA eN 65 2 [(1, 0)]) (by kernel_rfl) (by kernel_rfl) (by first | (apply congrArg (ownA eN _ 2); first | exact orAll_len (i := k) (by omega) (by omega) rfl | exact orAll_nil (by omega)) | (exfalso; omega)))
  · refine R.go 5 (R.ar ((l.length : Int) - 1) (by kernel_rfl) (by omega) (by omega) (by kernel_rfl) ?_)
    refine R.go 10 (R.loop ((fun | (i, sz) => (⟨(frm 56 [(0, AI 3), (1, LLN l), (5, AI sz), (21, LLN l), (22, AI l.length), (23, AI (i : Int))]), []⟩ : St) : Nat × Int → St)) (fun | (i, sz) => (i ≤ l.length) ∧ (sz = (l.length : Int) - 1 + (lenTo l i : Int))) (fun | (i, sz) => l.length - i) (0, ((l.length : Int) - 1)) [0, 1, 5, 21, 22, 23] none (by kernel_rfl) (by kernel_rfl) (by kernel_rfl) ⟨(by omega), (by simp [lenTo])⟩ ?_)
    rintro ⟨i, sz⟩ ⟨h5_1, h5_2⟩ R2 N3
    refine R.go 5 (R.cond ((i : Int) < (l.length : Int)) (by kernel_rfl) (fun c6 => ?_) (fun c6 => ?_))
    · have hs1 : lenTo l i + (l.getD i []).length ≤ lenTo l l.length := lenTo_step l i (by omega)
      refine R.go 5 (R.idx eLN l [] i (i : Int) (by kernel_rfl) rfl eLN_len (by omega) (by kernel_rfl) ?_)
      refine R.go 7 (R.ar (sz + ((l.getD i []).length : Int)) (by kernel_rfl) (by omega) (by omega) (by kernel_rfl) ?_)
      refine R.go 4 (R.ar ((i : Int) + 1) (by kernel_rfl) (by omega) (by omega) (by kernel_rfl) ?_)
      exact R.go 2 (R.stop R2 (by kernel_rfl) (N3 (i + 1, sz + ((l.getD i []).length : Int)) [0, 1, 5, 21, 22, 23] none _ (by kernel_rfl) (by kernel_rfl) ⟨(by omega), (by rw [lenTo_succ]; omega)⟩ (by show (l.length - (i + 1)) < (l.length - i); omega)))
    · have hs2 : lenTo l i = lenTo l l.length := by rw [show i = l.length by omega]
      refine R.go 4 (R.mkC eN (0, 0) 65 16 0 ((sz).toNat) 0 sz (by kernel_rfl) rfl (by omega) (by omega) (by decide) (by omega) (by kernel_rfl) ?_)
      refine R.go 7 (R.ar ((l.length : Int) - 1) (by kernel_rfl) (by omega) (by omega) (by kernel_rfl) ?_)
      refine R.go 3 (R.loop ((fun | (j, ys) => (⟨(frm 56 [(0, AI 3), (1, LLN l), (8, .ref 0), (36, AI ((l.length : Int) - 1)), (37, AI (j : Int))]), [rowA eN 65 2 ys]⟩ : St) : Nat × (List (Int × Int)) → St)) (fun | (j, ys) => (j ≤ l.length - 1) ∧ (ys = List.replicate j ((3 : Int), (0 : Int)))) (fun | (j, ys) => l.length - 1 - j) (0, []) [0, 1, 8, 36, 37] none (by kernel_rfl) (by kernel_rfl) (by kernel_rfl) ⟨(by omega), (by rfl)⟩ ?_)
      rintro ⟨j, ys⟩ ⟨h10_1, rfl⟩ R7 N8
      refine R.go 5 (R.cond ((j : Int) < ((l.length : Int) - 1)) (by kernel_rfl) (fun c11 => ?_) (fun c11 => ?_))
      · refine R.go 8 (R.app eN (List.replicate j ((3 : Int), (0 : Int))) [(3, 0)] 0 65 2 16 (by kernel_rfl) eN_one (by decide) (by first | omega | (simp <;> omega)) (by kernel_rfl) ?_)
        refine R.go 4 (R.ar ((j : Int) + 1) (by kernel_rfl) (by omega) (by omega) (by kernel_rfl) ?_)
        exact R.go 2 (R.stop R7 (by kernel_rfl) (N8 (j + 1, (List.replicate j ((3 : Int), (0 : Int))) ++ [(3, 0)]) [0, 1, 8, 36, 37] (some [0]) _ (by kernel_rfl) (by kernel_rfl) ⟨(by omega), (by exact List.replicate_succ'.symm)⟩ (by show (l.length - 1 - (j + 1)) < (l.length - 1 - j); omega)))
      · refine R.go 9 (R.loop ((fun | (k, zs) => (⟨(frm 56 [(8, .ref 0), (45, LLN l), (46, AI l.length), (47, AI (k : Int))]), [rowA eN 65 2 zs]⟩ : St) : Nat × (List (Int × Int)) → St)) (fun | (k, zs) => (k ≤ l.length) ∧ (zs = List.replicate (l.length - 1) ((3 : Int), (0 : Int)) ++ joinTo l k)) (fun | (k, zs) => l.length - k) (0, (List.replicate j ((3 : Int), (0 : Int)))) [8, 45, 46, 47] none (by kernel_rfl) (by kernel_rfl) (by kernel_rfl) ⟨(by omega), (by rw [show j = l.length - 1 by omega]; simp [joinTo])⟩ ?_)
        rintro ⟨k, zs⟩ ⟨h15_1, rfl⟩ R12 N13
        refine R.go 5 (R.cond ((k : Int) < (l.length : Int)) (by kernel_rfl) (fun c16 => ?_) (fun c16 => ?_))
        · have hs3 : (List.replicate (l.length - 1) ((3 : Int), (0 : Int)) ++ joinTo l k).length + (l.getD k []).length ≤ 2000 := by
            have := lenTo_step l k (by omega)
            rw [List.length_append, List.length_replicate, joinTo_length]; omega
          refine R.go 5 (R.idx eLN l [] k (k : Int) (by kernel_rfl) rfl eLN_len (by omega) (by kernel_rfl) ?_)
          refine R.go 6 (R.app eN (List.replicate (l.length - 1) ((3 : Int), (0 : Int)) ++ joinTo l k) (l.getD k []) 0 65 2 16 (by kernel_rfl) eN_one (by decide) (by first | omega | (simp <;> omega)) (by kernel_rfl) ?_)
          refine R.go 4 (R.ar ((k : Int) + 1) (by kernel_rfl) (by omega) (by omega) (by kernel_rfl) ?_)
          exact R.go 2 (R.stop R12 (by kernel_rfl) (N13 (k + 1, List.replicate (l.length - 1) ((3 : Int), (0 : Int)) ++ joinTo l k ++ (l.getD k [])) [8, 45, 46, 47] none _ (by kernel_rfl) (by kernel_rfl) ⟨(by omega), (by exact List.append_assoc _ _ _)⟩ (by show (l.length - (k + 1)) < (l.length - k); omega)))
        · exact R.go 6 (R.retE (ownA eN 65 2 (List.replicate (l.length - 1) ((3 : Int), (0 : Int)) ++ joinTo l k)) (by kernel_rfl) (by kernel_rfl) (by first | (apply congrArg (ownA eN _ 2); first | exact orAll_len (i := k) (by omega) (by omega) rfl | exact orAll_nil (by omega)) | (exfalso; omega)))

theorem anyOf_c (L : List Int) (h16 : L.length ≤ 16) : CallA Try.prog 119 [LI L] (ownA eN 65 2 (orAll (varL L))) := by
  refine CallA.of Try.func119 rfl (by kernel_rfl) ?_
  refine R.go 16 (R.nil 3 26 1 (by kernel_rfl) ?_)
  refine R.loop ((fun | (i, r) => (⟨(frm 20 [(3, .ref 0), (6, LI L), (7, AI L.length), (8, AI (i : Int))]), [rowA eLN 26 1 r]⟩ : St) : Nat × (List (List (Int × Int))) → St)) (fun | (i, r) => (i ≤ L.length) ∧ (r = varT L i)) (fun | (i, r) => L.length - i) (0, []) [3, 6, 7, 8] none (by kernel_rfl) (by kernel_rfl) (by kernel_rfl) ⟨(by omega), (by rfl)⟩ ?_
  rintro ⟨i, r⟩ ⟨h4_1, rfl⟩ R1 N2
  have hvl := varT_len L i
  refine R.go 5 (R.cond ((i : Int) < (L.length : Int)) (by kernel_rfl) (fun c5 => ?_) (fun c5 => ?_))
  · refine R.go 5 (R.idx eI L 0 i (i : Int) (by kernel_rfl) rfl eI_len (by omega) (by kernel_rfl) ?_)
    refine R.go 6 (R.call true (variable_c (L.getD i 0)) (by kernel_rfl) rfl (by kernel_rfl) ?_)
    refine R.frz 1 (by kernel_rfl) ?_
    refine R.go 1 (R.app eLN (varT L i) [[(0, (L.getD i 0))]] 0 26 1 24 (by kernel_rfl) eLN_one (by decide) (by first | omega | (simp <;> omega)) (by kernel_rfl) ?_)
    refine R.go 4 (R.ar ((i : Int) + 1) (by kernel_rfl) (by omega) (by omega) (by kernel_rfl) ?_)
    exact R.go 2 (R.stop R1 (by kernel_rfl) (N2 (i + 1, (varT L i) ++ [[(0, (L.getD i 0))]]) [3, 6, 7, 8] (some [0]) _ (by kernel_rfl) (by kernel_rfl) ⟨(by omega), (by rfl)⟩ (by show (L.length - (i + 1)) < (L.length - i); omega)))
  · refine R.go 4 (R.call false (joinAll_c (varT L i) (by first | omega | (simp <;> omega)) (by first | assumption | (rw [lenTo_varT _ (by omega)]; omega) | (rw [lenTo_vars]; omega))) (by kernel_rfl) (ownA_closed eN_closed 65 2 (orAll (varT L i))) (by kernel_rfl) ?_)
    exact R.go 2 (R.retE (ownA eN 65 2 (orAll (varT L i))) (by kernel_rfl) (by kernel_rfl) (by first | (apply congrArg (ownA eN _ 2); rw [show i = L.length by omega, varT_all]) | (exfalso; omega)))

theorem joined_c (n : Int) (xs : List Int) (m : Int) (hP : okPo n xs = true) (hm : InM n.toNat m) : CallA Try.prog 78 [.agg [AI n, LI xs], AI m] (ownA eN 65 2 (jnd n xs m)) := by
  have hR := okPo_fr hP
  have hF := okFr_rel hR
  have hb0 : 0 ≤ n ∧ n ≤ 8 ∧ (xs.length : Int) = n := ⟨hF.1, hF.2.1, hF.2.2.1⟩
  have hm61 := inM_mono (n' := 61) (by omega) hm
  have hml := mem_le m
  have hml2 := mnS_len xs m n.toNat n.toNat
  refine CallA.of Try.func78 rfl (by kernel_rfl) ?_
  refine R.go 9 (R.call true (minimal_c n xs m hP hm) (by kernel_rfl) rfl (by kernel_rfl) ?_)
  refine R.call false (anyOf_c (mnS xs m n.toNat n.toNat) (by first | omega | (simp <;> omega))) (by kernel_rfl) (ownA_closed eN_closed 65 2 (orAll (varL (mnS xs m n.toNat n.toNat)))) (by kernel_rfl) ?_
  exact R.go 2 (R.retE (ownA eN 65 2 (orAll (varL (mnS xs m n.toNat n.toNat)))) (by kernel_rfl) (by kernel_rfl) (by first | (rfl) | (exfalso; omega)))

theorem l02Own_c (a : List (Int × Int)) (ha : a.length ≤ 1000000) : CallA Try.prog 168 [LN a] (ownA eN 65 2 a) := by
  refine CallA.of Try.func168 rfl (by kernel_rfl) ?_
  refine R.go 8 (R.app eN [] a 0 65 2 16 (by kernel_rfl) eN_one (by decide) (by first | omega | (simp <;> omega)) (by kernel_rfl) ?_)
  exact R.go 2 (R.retE (ownA eN 65 2 ([] ++ a)) (by kernel_rfl) (by kernel_rfl) (by first | (first | rfl | simp) | (exfalso; omega)))

theorem l02All_c (l : List (List (Int × Int))) (h8 : l.length ≤ 16) (hs : lenTo l l.length ≤ 1000) : CallA Try.prog 117 [AI 3, LLN l] (ownA eN 65 2 (orAll l)) := by
  have hgl : ∀ i : Nat, i < l.length → lenTo l i + (l.getD i []).length ≤ lenTo l l.length := fun i hi => lenTo_step l i hi
  refine CallA.of Try.func117 rfl (by kernel_rfl) ?_
  refine R.go 11 (R.cond ((l.length : Int) = 0) (by kernel_rfl) (fun c1 => ?_) (fun c1 => ?_))
  · refine R.go 10 (R.call true (l02False_c) (by kernel_rfl) rfl (by kernel_rfl) ?_)
    exact R.go 2 (R.retE (ownA eN 65 2 [(1, 0)]) (by kernel_rfl) (by kernel_rfl) (by first | (apply congrArg (ownA eN _ 2); first | exact orAll_nil (by assumption) | exact orAll_nil (by omega) | exact orAll_some (by omega) (by omega)) | (exfalso; omega)))
  · have hg0 := hgl 0 (by omega)
    refine R.go 4 (R.idx eLN l [] 0 0 (by kernel_rfl) rfl eLN_len (by omega) (by kernel_rfl) ?_)
    refine R.go 1 (R.call true (l02Own_c (l.getD 0 []) (by first | omega | (simp <;> omega))) (by kernel_rfl) rfl (by kernel_rfl) ?_)
    refine R.go 8 (R.loop ((fun | (i, ys) => (⟨(frm 32 [(0, AI 3), (1, LLN l), (5, .ref 0), (6, AI (i : Int))]), [rowA eN 65 2 ys]⟩ : St) : Nat × (List (Int × Int)) → St)) (fun | (i, ys) => (1 ≤ i) ∧ (i ≤ l.length) ∧ (ys = orT l i)) (fun | (i, ys) => l.length - i) (1, (l.getD 0 [])) [0, 1, 5, 6] none (by kernel_rfl) (by kernel_rfl) (by kernel_rfl) ⟨(by omega), (by omega), (by exact orT_one)⟩ ?_)
    rintro ⟨i, ys⟩ ⟨h5_1, h5_2, rfl⟩ R2 N3
    have hol := orT_len l i
    have hgi := hgl i
    refine R.go 8 (R.cond ((i : Int) < (l.length : Int)) (by kernel_rfl) (fun c6 => ?_) (fun c6 => ?_))
    · have hg1 := hgi (by omega)
      refine R.go 8 (R.idx eLN l [] i (i : Int) (by kernel_rfl) rfl eLN_len (by omega) (by kernel_rfl) ?_)
      refine R.go 1 (R.call false (l02Pair_c 3 (orT l i) (l.getD i []) (by first | omega | (simp <;> omega)) (by first | omega | (simp <;> omega))) (by kernel_rfl) (ownA_closed eN_closed 65 2 ((3, 0) :: ((orT l i) ++ (l.getD i [])))) (by kernel_rfl) ?_)
      refine R.go 5 (R.ar ((i : Int) + 1) (by kernel_rfl) (by omega) (by omega) (by kernel_rfl) ?_)
      exact R.go 2 (R.stop R2 (by kernel_rfl) (N3 (i + 1, (3, 0) :: ((orT l i) ++ (l.getD i []))) [0, 1, 5, 6] (some [1]) _ (by kernel_rfl) (by kernel_rfl) ⟨(by omega), (by omega), (by exact orT_step (by omega))⟩ (by show (l.length - (i + 1)) < (l.length - i); omega)))
    · exact R.go 6 (R.retE (ownA eN 65 2 (orT l i)) (by kernel_rfl) (by kernel_rfl) (by first | (apply congrArg (ownA eN _ 2); first | exact orAll_nil (by assumption) | exact orAll_nil (by omega) | exact orAll_some (by omega) (by omega)) | (exfalso; omega)))

theorem l16Leq_c (n : Int) (xs : List Int) (x : Nat) (y : Int) (hx : x < xs.length) (h0 : 0 ≤ y) (h1 : y ≤ 62) : CallA Try.prog 115 [.agg [AI n, LI xs], AI (x : Int), AI y] (.bool (decide (band (shr64 (xs.getD x 0) y) 1 = 1))) := by
  refine CallA.of Try.func115 rfl (by kernel_rfl) ?_
  refine R.go 10 (R.idx eI xs 0 x (x : Int) (by kernel_rfl) rfl eI_len (by omega) (by kernel_rfl) ?_)
  refine R.go 2 (R.call true (l01Bit_c (xs.getD x 0) y h0 h1) (by kernel_rfl) rfl (by kernel_rfl) ?_)
  exact R.go 2 (R.retE (.bool (decide (band (shr64 (xs.getD x 0) y) 1 = 1))) (by kernel_rfl) (by kernel_rfl) (by rfl))

theorem l21Join_c (n : Int) (xs : List Int) (m : Int) (hP : okPo n xs = true) (hm : InM n.toNat m) : CallA Try.prog 74 [.agg [AI n, LI xs], AI m] (ownA eN 65 2 (jnd n xs m)) := by
  have hR := okPo_fr hP
  have hF := okFr_rel hR
  have hb0 : 0 ≤ n ∧ n ≤ 8 ∧ (xs.length : Int) = n := ⟨hF.1, hF.2.1, hF.2.2.1⟩
  have hm61 := inM_mono (n' := 61) (by omega) hm
  have hml := mem_le m
  refine CallA.of Try.func74 rfl (by kernel_rfl) ?_
  refine R.go 16 (R.loop ((fun | (x, L) => (⟨(frm 52 [(1, AI m), (2, .ptr 0 0), (5, .ref 1), (6, AI (x : Int))]), [.box 29 [AI n, LI xs], rowA eLN 26 1 L]⟩ : St) : Nat × (List (List (Int × Int))) → St)) (fun | (x, L) => (x ≤ n.toNat) ∧ (L = varL (mnS xs m n.toNat x))) (fun | (x, L) => n.toNat - x) (0, []) [1, 2, 5, 6] none (by kernel_rfl) (by kernel_rfl) (by kernel_rfl) ⟨(by omega), (by rfl)⟩ ?_)
  rintro ⟨x, L⟩ ⟨h4_1, rfl⟩ R1 N2
  have hmx := mnS_len xs m n.toNat x
  have hvl := varL_len (mnS xs m n.toNat x)
  refine R.go 8 (R.cond ((x : Int) < n) (by kernel_rfl) (fun c5 => ?_) (fun c5 => ?_))
  · refine R.go 7 (R.call true (l01Bit_c m (x : Int) (by omega) (by omega)) (by kernel_rfl) rfl (by kernel_rfl) ?_)
    refine R.go 8 (R.loop ((fun | (y, le) => (⟨(frm 52 [(1, AI m), (2, .ptr 0 0), (5, .ref 1), (6, AI (x : Int)), (7, .bool le), (8, AI (y : Int))]), [.box 29 [AI n, LI xs], rowA eLN 26 1 (varL (mnS xs m n.toNat x))]⟩ : St) : Nat × Bool → St)) (fun | (y, le) => (y ≤ n.toNat) ∧ (lstT xs m x y = le)) (fun | (y, le) => n.toNat - y) (0, (decide (band (shr64 m (x : Int)) 1 = 1))) [1, 2, 5, 6, 7, 8] none (by kernel_rfl) (by kernel_rfl) (by kernel_rfl) ⟨(by omega), (by rfl)⟩ ?_)
    rintro ⟨y, le⟩ ⟨h9_1, h9_2⟩ R6 N7
    refine R.go 8 (R.cond ((y : Int) < n) (by kernel_rfl) (fun c10 => ?_) (fun c10 => ?_))
    · refine R.go 6 ?_
      refine (Bool.eq_false_or_eq_true (le)).elim (fun c11 => ?_) (fun c11 => ?_)
      · refine R.want (le) true (by kernel_rfl) c11 ?_
        refine R.go 1 (R.want (le) true (by kernel_rfl) c11 ?_)
        refine R.go 1 (R.want (le) true (by kernel_rfl) c11 ?_)
        refine R.go 1 (R.want (le) true (by kernel_rfl) c11 ?_)
        refine R.go 1 ?_
        by_cases c12 : (y : Int) = (x : Int)
        · refine R.skp (decide ((y : Int) = (x : Int))) false (by kernel_rfl) (dT c12) (by kernel_rfl) ?_
          refine R.skp (decide ((y : Int) = (x : Int))) false (by kernel_rfl) (dT c12) (by kernel_rfl) ?_
          refine R.skp (decide ((y : Int) = (x : Int))) false (by kernel_rfl) (dT c12) (by kernel_rfl) ?_
          refine R.skp (decide ((y : Int) = (x : Int))) false (by kernel_rfl) (dT c12) (by kernel_rfl) ?_
          refine R.want (le) true (by kernel_rfl) c11 ?_
          refine R.pick (decide ((y : Int) = (x : Int))) true (by kernel_rfl) (dT c12) (by kernel_rfl) ?_
          refine R.want (le) true (by kernel_rfl) c11 ?_
          refine R.go 6 (R.want (le) true (by kernel_rfl) c11 ?_)
          refine R.go 1 (R.pick (le) true (by kernel_rfl) c11 (by kernel_rfl) ?_)
          refine R.go 5 (R.ar ((y : Int) + 1) (by kernel_rfl) (by omega) (by omega) (by kernel_rfl) ?_)
          exact R.go 2 (R.stop R6 (by kernel_rfl) (N7 (y + 1, true) [1, 2, 5, 6, 7, 8] none _ (by kernel_rfl) (by kernel_rfl) ⟨(by omega), (by rw [lstT, ‹lstT xs m x y = le›]; simp [*])⟩ (by show (n.toNat - (y + 1)) < (n.toNat - y); omega)))
        · refine R.want (decide ((y : Int) = (x : Int))) false (by kernel_rfl) (dF c12) ?_
          refine R.go 1 (R.want (decide ((y : Int) = (x : Int))) false (by kernel_rfl) (dF c12) ?_)
          refine R.go 1 (R.want (decide ((y : Int) = (x : Int))) false (by kernel_rfl) (dF c12) ?_)
          refine R.call true (l01Bit_c m (y : Int) (by omega) (by omega)) (by kernel_rfl) rfl (by kernel_rfl) ?_
          refine R.want (decide ((y : Int) = (x : Int))) false (by kernel_rfl) (dF c12) ?_
          refine R.go 1 (R.want (le) true (by kernel_rfl) c11 ?_)
          refine R.pick (decide ((y : Int) = (x : Int))) false (by kernel_rfl) (dF c12) (by kernel_rfl) ?_
          refine R.want (le) true (by kernel_rfl) c11 ?_
          refine R.go 1 ?_
          by_cases c13 : band (shr64 m (y : Int)) 1 = 1
          · refine R.want (!decide (band (shr64 m (y : Int)) 1 = 1)) false (by kernel_rfl) (nF c13) ?_
            refine R.go 1 (R.want (!decide (band (shr64 m (y : Int)) 1 = 1)) false (by kernel_rfl) (nF c13) ?_)
            refine R.go 1 (R.want (!decide (band (shr64 m (y : Int)) 1 = 1)) false (by kernel_rfl) (nF c13) ?_)
            refine R.go 1 (R.want (!decide (band (shr64 m (y : Int)) 1 = 1)) false (by kernel_rfl) (nF c13) ?_)
            refine R.call true (l16Leq_c n xs y (x : Int) (by first | omega | (simp <;> omega)) (by omega) (by omega)) (by kernel_rfl) rfl (by kernel_rfl) ?_
            refine R.want (!decide (band (shr64 m (y : Int)) 1 = 1)) false (by kernel_rfl) (nF c13) ?_
            refine R.go 1 (R.want (le) true (by kernel_rfl) c11 ?_)
            refine R.pick (!decide (band (shr64 m (y : Int)) 1 = 1)) false (by kernel_rfl) (nF c13) (by kernel_rfl) ?_
            refine R.pick (le) true (by kernel_rfl) c11 (by kernel_rfl) ?_
            refine R.go 5 (R.ar ((y : Int) + 1) (by kernel_rfl) (by omega) (by omega) (by kernel_rfl) ?_)
            exact R.go 2 (R.stop R6 (by kernel_rfl) (N7 (y + 1, !decide (band (shr64 (xs.getD y 0) (x : Int)) 1 = 1)) [1, 2, 5, 6, 7, 8] none _ (by kernel_rfl) (by kernel_rfl) ⟨(by omega), (by rw [lstT, ‹lstT xs m x y = le›]; simp [*])⟩ (by show (n.toNat - (y + 1)) < (n.toNat - y); omega)))
          · refine R.skp (!decide (band (shr64 m (y : Int)) 1 = 1)) false (by kernel_rfl) (nT c13) (by kernel_rfl) ?_
            refine R.skp (!decide (band (shr64 m (y : Int)) 1 = 1)) false (by kernel_rfl) (nT c13) (by kernel_rfl) ?_
            refine R.skp (!decide (band (shr64 m (y : Int)) 1 = 1)) false (by kernel_rfl) (nT c13) (by kernel_rfl) ?_
            refine R.skp (!decide (band (shr64 m (y : Int)) 1 = 1)) false (by kernel_rfl) (nT c13) (by kernel_rfl) ?_
            refine R.skp (!decide (band (shr64 m (y : Int)) 1 = 1)) false (by kernel_rfl) (nT c13) (by kernel_rfl) ?_
            refine R.want (le) true (by kernel_rfl) c11 ?_
            refine R.pick (!decide (band (shr64 m (y : Int)) 1 = 1)) true (by kernel_rfl) (nT c13) (by kernel_rfl) ?_
            refine R.pick (le) true (by kernel_rfl) c11 (by kernel_rfl) ?_
            refine R.go 5 (R.ar ((y : Int) + 1) (by kernel_rfl) (by omega) (by omega) (by kernel_rfl) ?_)
            exact R.go 2 (R.stop R6 (by kernel_rfl) (N7 (y + 1, true) [1, 2, 5, 6, 7, 8] none _ (by kernel_rfl) (by kernel_rfl) ⟨(by omega), (by rw [lstT, ‹lstT xs m x y = le›]; simp [*])⟩ (by show (n.toNat - (y + 1)) < (n.toNat - y); omega)))
      · refine R.skp (le) true (by kernel_rfl) c11 (by kernel_rfl) ?_
        refine R.skp (le) true (by kernel_rfl) c11 (by kernel_rfl) ?_
        refine R.skp (le) true (by kernel_rfl) c11 (by kernel_rfl) ?_
        refine R.skp (le) true (by kernel_rfl) c11 (by kernel_rfl) ?_
        refine R.go 4 (R.skp (le) true (by kernel_rfl) c11 (by kernel_rfl) ?_)
        refine R.skp (le) true (by kernel_rfl) c11 (by kernel_rfl) ?_
        refine R.go 5 (R.skp (le) true (by kernel_rfl) c11 (by kernel_rfl) ?_)
        refine R.pick (le) false (by kernel_rfl) c11 (by kernel_rfl) ?_
        refine R.go 5 (R.ar ((y : Int) + 1) (by kernel_rfl) (by omega) (by omega) (by kernel_rfl) ?_)
        exact R.go 2 (R.stop R6 (by kernel_rfl) (N7 (y + 1, false) [1, 2, 5, 6, 7, 8] none _ (by kernel_rfl) (by kernel_rfl) ⟨(by omega), (by rw [lstT, ‹lstT xs m x y = le›]; simp [*])⟩ (by show (n.toNat - (y + 1)) < (n.toNat - y); omega)))
    · refine R.go 5 (R.condB (le) (by kernel_rfl) (fun c14 => ?_) (fun c14 => ?_))
      · refine R.go 3 (R.call true (l02Var_c (x : Int)) (by kernel_rfl) rfl (by kernel_rfl) ?_)
        refine R.frz 2 (by kernel_rfl) ?_
        refine R.go 1 (R.app eLN (varL (mnS xs m n.toNat x)) [[(0, (x : Int))]] 1 26 1 24 (by kernel_rfl) eLN_one (by decide) (by first | omega | (simp <;> omega)) (by kernel_rfl) ?_)
        refine R.go 5 (R.ar ((x : Int) + 1) (by kernel_rfl) (by omega) (by omega) (by kernel_rfl) ?_)
        exact R.go 2 (R.stop R1 (by kernel_rfl) (N2 (x + 1, (varL (mnS xs m n.toNat x)) ++ [[(0, (x : Int))]]) [1, 2, 5, 6] (some [0, 1]) _ (by kernel_rfl) (by kernel_rfl) ⟨(by omega), (by first | exact jn_yes (by assumption) (by assumption) (by omega) | exact jn_no (by assumption) (by assumption) (by omega))⟩ (by show (n.toNat - (x + 1)) < (n.toNat - x); omega)))
      · refine R.go 4 (R.ar ((x : Int) + 1) (by kernel_rfl) (by omega) (by omega) (by kernel_rfl) ?_)
        exact R.go 2 (R.stop R1 (by kernel_rfl) (N2 (x + 1, varL (mnS xs m n.toNat x)) [1, 2, 5, 6] none _ (by kernel_rfl) (by kernel_rfl) ⟨(by omega), (by first | exact jn_yes (by assumption) (by assumption) (by omega) | exact jn_no (by assumption) (by assumption) (by omega))⟩ (by show (n.toNat - (x + 1)) < (n.toNat - x); omega)))
  · refine R.go 4 (R.call false (l02All_c (varL (mnS xs m n.toNat x)) (by first | omega | (simp <;> omega)) (by first | assumption | (rw [lenTo_varT _ (by omega)]; omega) | (rw [lenTo_vars]; omega))) (by kernel_rfl) (ownA_closed eN_closed 65 2 (orAll (varL (mnS xs m n.toNat x)))) (by kernel_rfl) ?_)
    exact R.go 2 (R.retE (ownA eN 65 2 (orAll (varL (mnS xs m n.toNat x)))) (by kernel_rfl) (by kernel_rfl) (by first | (apply congrArg (ownA eN _ 2); rw [show x = n.toNat by omega]; rfl) | (exfalso; omega)))

theorem jankovConclusion_c (n : Int) (xs : List Int) (hP : okPo n xs = true) (hr0 : 0 ≤ rootX n xs) : CallA Try.prog 38 [.agg [AI n, LI xs]] (LN (jcL n xs)) := by
  have hjM := jcM_in hP hr0
  have hR := okPo_fr hP
  have hF := okFr_rel hR
  have hb0 : 0 ≤ n ∧ n ≤ 8 ∧ (xs.length : Int) = n := ⟨hF.1, hF.2.1, hF.2.2.1⟩
  have hrl := rootX_lt hF.2.2.1
  refine CallA.of Try.func38 rfl (by kernel_rfl) ?_
  refine R.go 9 (R.call true (pAll_c n xs (by omega) (by omega)) (by kernel_rfl) rfl (by kernel_rfl) ?_)
  refine R.go 1 (R.call true (root_c n xs hP) (by kernel_rfl) rfl (by kernel_rfl) ?_)
  refine R.shl 1 (rootX n xs) (by kernel_rfl) (by omega) (by kernel_rfl) ?_
  refine R.go 1 (R.call true (joined_c n xs (bnot ((shl64 1 n) - 1) (shl64 1 (rootX n xs))) hP (by first | assumption | exact jcM_in (by assumption) (by omega))).frz (by kernel_rfl) rfl (by kernel_rfl) ?_)
  exact R.go 2 (R.retE (LN (jnd n xs (bnot ((shl64 1 n) - 1) (shl64 1 (rootX n xs))))) (by kernel_rfl) (by kernel_rfl) (by first | (rfl) | (exfalso; omega)))

theorem l21Conclusion_c (n : Int) (xs : List Int) (hP : okPo n xs = true) (hr0 : 0 ≤ rootX n xs) : CallA Try.prog 35 [.agg [AI n, LI xs]] (LN (jcL n xs)) := by
  have hjM := jcM_in hP hr0
  have hR := okPo_fr hP
  have hF := okFr_rel hR
  have hb0 : 0 ≤ n ∧ n ≤ 8 ∧ (xs.length : Int) = n := ⟨hF.1, hF.2.1, hF.2.2.1⟩
  have hrl := rootX_lt hF.2.2.1
  refine CallA.of Try.func35 rfl (by kernel_rfl) ?_
  refine R.go 10 (R.call true (l01Full_c n (by omega) (by omega)) (by kernel_rfl) rfl (by kernel_rfl) ?_)
  refine R.go 1 (R.call true (l16Root_c n xs hP) (by kernel_rfl) rfl (by kernel_rfl) ?_)
  refine R.call true (l01One_c (rootX n xs) (by omega) (by omega)) (by kernel_rfl) rfl (by kernel_rfl) ?_
  refine R.go 1 (R.call true (l21Join_c n xs (bnot ((shl64 1 n) - 1) (shl64 1 (rootX n xs))) hP (by first | assumption | exact jcM_in (by assumption) (by omega))).frz (by kernel_rfl) rfl (by kernel_rfl) ?_)
  exact R.go 2 (R.retE (LN (jnd n xs (bnot ((shl64 1 n) - 1) (shl64 1 (rootX n xs))))) (by kernel_rfl) (by kernel_rfl) (by first | (rfl) | (exfalso; omega)))

theorem jankovCode_c (n : Int) (xs : List Int) (lx : xs.length ≤ 1048576) : CallA Try.prog 37 [.agg [AI n, LI xs]] (AI (jkC n xs)) := by
  refine CallA.of Try.func37 rfl (by kernel_rfl) ?_
  refine R.go 10 (R.call true (isPoset_c n xs (by first | omega | (simp <;> omega))) (by kernel_rfl) rfl (by kernel_rfl) ?_)
  refine R.go 3 (R.condM (okPo n xs) (by kernel_rfl) (fun c1 => ?_) (fun c1 => ?_))
  · exact R.go 4 (R.retE (AI 1) (by kernel_rfl) (by kernel_rfl) (by first | (apply congrArg AI; first | exact jk_1 (by assumption) | exact jk_5 (by assumption) (by assumption) | exact jk_3 (by assumption) (by assumption) (by assumption) | exact jk_0 (by assumption) (by assumption) (by assumption)) | (exfalso; omega)))
  · refine R.go 3 (R.call true (root_c n xs c1) (by kernel_rfl) rfl (by kernel_rfl) ?_)
    refine R.go 3 (R.cond ((rootX n xs) < 0) (by kernel_rfl) (fun c2 => ?_) (fun c2 => ?_))
    · exact R.go 4 (R.retE (AI 5) (by kernel_rfl) (by kernel_rfl) (by first | (apply congrArg AI; first | exact jk_1 (by assumption) | exact jk_5 (by assumption) (by assumption) | exact jk_3 (by assumption) (by assumption) (by assumption) | exact jk_0 (by assumption) (by assumption) (by assumption)) | (exfalso; omega)))
    · refine R.go 7 (R.cond (n > 5) (by kernel_rfl) (fun c3 => ?_) (fun c3 => ?_))
      · exact R.go 4 (R.retE (AI 3) (by kernel_rfl) (by kernel_rfl) (by first | (apply congrArg AI; first | exact jk_1 (by assumption) | exact jk_5 (by assumption) (by assumption) | exact jk_3 (by assumption) (by assumption) (by assumption) | exact jk_0 (by assumption) (by assumption) (by assumption)) | (exfalso; omega)))
      · exact R.go 6 (R.retE (AI 0) (by kernel_rfl) (by kernel_rfl) (by first | (apply congrArg AI; first | exact jk_1 (by assumption) | exact jk_5 (by assumption) (by assumption) | exact jk_3 (by assumption) (by assumption) (by assumption) | exact jk_0 (by assumption) (by assumption) (by assumption)) | (exfalso; omega)))

theorem l21Code_c (n : Int) (xs : List Int) (lx : xs.length ≤ 1048576) : CallA Try.prog 34 [.agg [AI n, LI xs]] (AI (jkC n xs)) := by
  refine CallA.of Try.func34 rfl (by kernel_rfl) ?_
  refine R.go 10 (R.call true (l16Is_c n xs (by first | omega | (simp <;> omega))) (by kernel_rfl) rfl (by kernel_rfl) ?_)
  refine R.go 3 (R.condM (okPo n xs) (by kernel_rfl) (fun c1 => ?_) (fun c1 => ?_))
  · exact R.go 4 (R.retE (AI 1) (by kernel_rfl) (by kernel_rfl) (by first | (apply congrArg AI; first | exact jk_1 (by assumption) | exact jk_5 (by assumption) (by assumption) | exact jk_3 (by assumption) (by assumption) (by assumption) | exact jk_0 (by assumption) (by assumption) (by assumption)) | (exfalso; omega)))
  · refine R.go 3 (R.call true (l16Root_c n xs c1) (by kernel_rfl) rfl (by kernel_rfl) ?_)
    refine R.go 3 (R.cond ((rootX n xs) < 0) (by kernel_rfl) (fun c2 => ?_) (fun c2 => ?_))
    · exact R.go 4 (R.retE (AI 5) (by kernel_rfl) (by kernel_rfl) (by first | (apply congrArg AI; first | exact jk_1 (by assumption) | exact jk_5 (by assumption) (by assumption) | exact jk_3 (by assumption) (by assumption) (by assumption) | exact jk_0 (by assumption) (by assumption) (by assumption)) | (exfalso; omega)))
    · refine R.go 7 (R.cond (n > 5) (by kernel_rfl) (fun c3 => ?_) (fun c3 => ?_))
      · exact R.go 4 (R.retE (AI 3) (by kernel_rfl) (by kernel_rfl) (by first | (apply congrArg AI; first | exact jk_1 (by assumption) | exact jk_5 (by assumption) (by assumption) | exact jk_3 (by assumption) (by assumption) (by assumption) | exact jk_0 (by assumption) (by assumption) (by assumption)) | (exfalso; omega)))
      · exact R.go 6 (R.retE (AI 0) (by kernel_rfl) (by kernel_rfl) (by first | (apply congrArg AI; first | exact jk_1 (by assumption) | exact jk_5 (by assumption) (by assumption) | exact jk_3 (by assumption) (by assumption) (by assumption) | exact jk_0 (by assumption) (by assumption) (by assumption)) | (exfalso; omega)))

end Go.Proofs.Ytfkdkhlimdkehaa
