/- Texts of the proof: J02, Z04, SymK, J03, J04, H05, Syma, SymL. -/
import Derived.Test.YtalfakdiinhdnaaGreatPartG

/-! The conclusion of the Jankov formulas, and their code. -/
namespace Go.Proofs.YtalfakdiinhdnaaGreat
open Go.RowKit Go.Abs

def varT (L : List Int) : Nat → List (List (Int × Int))
  | 0 => []
  | i + 1 => varT L i ++ [[(0, L.getD i 0)]]
theorem varT_eq (L : List Int) : ∀ i : Nat, i ≤ L.length → varT L i = varL (L.take i)
  | 0, _ => by simp [varT, varL]
  | i + 1, h => by
    rw [varT, varT_eq L i (by omega), varL_snoc, List.take_succ_eq_append_getElem (by omega)]
    simp [List.getD_eq_getElem?_getD, List.getElem?_eq_getElem (show i < L.length by omega)]
theorem varT_all (L : List Int) : varT L L.length = varL L := by rw [varT_eq L _ (Nat.le_refl _), List.take_length]
theorem varT_len (L : List Int) : ∀ i : Nat, (varT L i).length = i
  | 0 => rfl
  | i + 1 => by simp [varT, varT_len L i]
theorem lenTo_succ {l : List (List (Int × Int))} {i : Nat} : lenTo l (i + 1) = lenTo l i + (l.getD i []).length := rfl
theorem orT_one {l : List (List (Int × Int))} : l.getD 0 [] = orT l 1 := by simp [orT, joinTo]
theorem jn_yes {xs : List Int} {m : Int} {n x y : Nat} {le : Bool} (h : lstT xs m x y = le) (hle : le = true) (hy : y = n) : varL (mnS xs m n x) ++ [[(0, (x : Int))]] = varL (mnS xs m n (x + 1)) := by
  subst hy; rw [← mnS_yes (by rw [h, hle]), varL_snoc]
theorem jn_no {xs : List Int} {m : Int} {n x y : Nat} {le : Bool} (h : lstT xs m x y = le) (hle : le = false) (hy : y = n) : varL (mnS xs m n x) = varL (mnS xs m n (x + 1)) := by
  subst hy; rw [← mnS_no (by rw [h, hle])]
theorem orAll_len {l : List (List (Int × Int))} {i : Nat} {X : List (Int × Int)} (h0 : ¬ l.length = 0) (hi : i = l.length) (hX : X = List.replicate (l.length - 1) ((3 : Int), (0 : Int)) ++ joinTo l i) : X = orAll l := by rw [hX, orAll, if_neg h0, hi]
theorem lenTo_varT {L : List Int} (i : Nat) (h : i = L.length) : lenTo (varT L i) (varT L i).length = L.length := by rw [h, varT_all, varL_len, lenTo_var L _ (Nat.le_refl _)]
theorem lenTo_vars {L : List Int} : lenTo (varL L) (varL L).length = L.length := by rw [varL_len, lenTo_var L _ (Nat.le_refl _)]

theorem joinAll_c (l : List (List (Int × Int))) (h8 : l.length ≤ 16) (hs : lenTo l l.length ≤ 1000) : CallA Tryz.prog 247 [AI 3, LLN l] (ownA eN 119 2 (orAll l)) := by
  refine CallA.of Tryz.func247 rfl (by kernel_rfl) ?_
  refine R.go 11 (R.cond ((l.length : Int) = 0) (by kernel_rfl) (fun c1 => ?_) (fun c1 => ?_))
  · refine R.go 10 (R.call true (falsum_c) (by kernel_rfl) rfl (by kernel_rfl) ?_)
    exact R.go 2 (R.retE (ownA eN 119 2 [(1, 0)]) (by kernel_rfl) (by kernel_rfl) (by first | (apply congrArg (ownA eN _ 2); first | exact orAll_len (i := k) (by omega) (by omega) rfl | exact orAll_nil (by omega)) | (exfalso; omega)))
  · refine R.go 5 (R.ar ((l.length : Int) - 1) (by kernel_rfl) (by omega) (by omega) (by kernel_rfl) ?_)
    refine R.go 10 (R.loop ((fun | (i, sz) => (⟨(frm 56 [(0, AI 3), (1, LLN l), (5, AI sz), (21, LLN l), (22, AI l.length), (23, AI (i : Int))]), []⟩ : St) : Nat × Int → St)) (fun | (i, sz) => (i ≤ l.length) ∧ (sz = (l.length : Int) - 1 + (lenTo l i : Int))) (fun | (i, sz) => l.length - i) (0, ((l.length : Int) - 1)) [0, 1, 5, 21, 22, 23] none (by kernel_rfl) (by kernel_rfl) (by kernel_rfl) ⟨(by omega), (by simp [lenTo])⟩ ?_)
    rintro ⟨i, sz⟩ ⟨h5_1, h5_2⟩ R2 N3
    refine R.go 5 (R.cond ((i : Int) < (l.length : Int)) (by kernel_rfl) (fun c6 => ?_) (fun c6 => ?_))
    · have hs1 : lenTo l i + (l.getD i []).length ≤ lenTo l l.length := lenTo_step l i (by omega)
      refine R.go 5 (R.idx eLN l [] i (i : Int) (by kernel_rfl) rfl eLN_len (by omega) (by kernel_rfl) ?_)
      refine R.go 7 (R.ar (sz + ((l.getD i []).length : Int)) (by kernel_rfl) (by omega) (by omega) (by kernel_rfl) ?_)
      refine R.go 4 (R.ar ((i : Int) + 1) (by kernel_rfl) (by omega) (by omega) (by kernel_rfl) ?_)
      exact R.go 2 (R.stop R2 (by kernel_rfl) (N3 (i + 1, sz + ((l.getD i []).length : Int)) [0, 1, 5, 21, 22, 23] none _ (by kernel_rfl) (by kernel_rfl) ⟨(by omega), (by rw [lenTo_succ]; omega)⟩ (by show (l.length - (i + 1)) < (l.length - i); omega)))
    · have hs2 : lenTo l i = lenTo l l.length := by rw [show i = l.length by omega]
      refine R.go 4 (R.mkC eN (0, 0) 119 16 0 ((sz).toNat) 0 sz (by kernel_rfl) rfl (by omega) (by omega) (by decide) (by omega) (by kernel_rfl) ?_)
      refine R.go 7 (R.ar ((l.length : Int) - 1) (by kernel_rfl) (by omega) (by omega) (by kernel_rfl) ?_)
      refine R.go 3 (R.loop ((fun | (j, ys) => (⟨(frm 56 [(0, AI 3), (1, LLN l), (8, .ref 0), (36, AI ((l.length : Int) - 1)), (37, AI (j : Int))]), [rowA eN 119 2 ys]⟩ : St) : Nat × (List (Int × Int)) → St)) (fun | (j, ys) => (j ≤ l.length - 1) ∧ (ys = List.replicate j ((3 : Int), (0 : Int)))) (fun | (j, ys) => l.length - 1 - j) (0, []) [0, 1, 8, 36, 37] none (by kernel_rfl) (by kernel_rfl) (by kernel_rfl) ⟨(by omega), (by rfl)⟩ ?_)
      rintro ⟨j, ys⟩ ⟨h10_1, rfl⟩ R7 N8
      refine R.go 5 (R.cond ((j : Int) < ((l.length : Int) - 1)) (by kernel_rfl) (fun c11 => ?_) (fun c11 => ?_))
      · refine R.go 8 (R.app eN (List.replicate j ((3 : Int), (0 : Int))) [(3, 0)] 0 119 2 16 (by kernel_rfl) eN_one (by decide) (by first | omega | (simp <;> omega)) (by kernel_rfl) ?_)
        refine R.go 4 (R.ar ((j : Int) + 1) (by kernel_rfl) (by omega) (by omega) (by kernel_rfl) ?_)
        exact R.go 2 (R.stop R7 (by kernel_rfl) (N8 (j + 1, (List.replicate j ((3 : Int), (0 : Int))) ++ [(3, 0)]) [0, 1, 8, 36, 37] (some [0]) _ (by kernel_rfl) (by kernel_rfl) ⟨(by omega), (by exact List.replicate_succ'.symm)⟩ (by show (l.length - 1 - (j + 1)) < (l.length - 1 - j); omega)))
      · refine R.go 9 (R.loop ((fun | (k, zs) => (⟨(frm 56 [(8, .ref 0), (45, LLN l), (46, AI l.length), (47, AI (k : Int))]), [rowA eN 119 2 zs]⟩ : St) : Nat × (List (Int × Int)) → St)) (fun | (k, zs) => (k ≤ l.length) ∧ (zs = List.replicate (l.length - 1) ((3 : Int), (0 : Int)) ++ joinTo l k)) (fun | (k, zs) => l.length - k) (0, (List.replicate j ((3 : Int), (0 : Int)))) [8, 45, 46, 47] none (by kernel_rfl) (by kernel_rfl) (by kernel_rfl) ⟨(by omega), (by rw [show j = l.length - 1 by omega]; simp [joinTo])⟩ ?_)
        rintro ⟨k, zs⟩ ⟨h15_1, rfl⟩ R12 N13
        refine R.go 5 (R.cond ((k : Int) < (l.length : Int)) (by kernel_rfl) (fun c16 => ?_) (fun c16 => ?_))
        · have hs3 : (List.replicate (l.length - 1) ((3 : Int), (0 : Int)) ++ joinTo l k).length + (l.getD k []).length ≤ 2000 := by
            have := lenTo_step l k (by omega)
            rw [List.length_append, List.length_replicate, joinTo_length]; omega
          refine R.go 5 (R.idx eLN l [] k (k : Int) (by kernel_rfl) rfl eLN_len (by omega) (by kernel_rfl) ?_)
          refine R.go 6 (R.app eN (List.replicate (l.length - 1) ((3 : Int), (0 : Int)) ++ joinTo l k) (l.getD k []) 0 119 2 16 (by kernel_rfl) eN_one (by decide) (by first | omega | (simp <;> omega)) (by kernel_rfl) ?_)
          refine R.go 4 (R.ar ((k : Int) + 1) (by kernel_rfl) (by omega) (by omega) (by kernel_rfl) ?_)
          exact R.go 2 (R.stop R12 (by kernel_rfl) (N13 (k + 1, List.replicate (l.length - 1) ((3 : Int), (0 : Int)) ++ joinTo l k ++ (l.getD k [])) [8, 45, 46, 47] none _ (by kernel_rfl) (by kernel_rfl) ⟨(by omega), (by exact List.append_assoc _ _ _)⟩ (by show (l.length - (k + 1)) < (l.length - k); omega)))
        · exact R.go 6 (R.retE (ownA eN 119 2 (List.replicate (l.length - 1) ((3 : Int), (0 : Int)) ++ joinTo l k)) (by kernel_rfl) (by kernel_rfl) (by first | (apply congrArg (ownA eN _ 2); first | exact orAll_len (i := k) (by omega) (by omega) rfl | exact orAll_nil (by omega)) | (exfalso; omega)))

theorem anyOf_c (L : List Int) (h16 : L.length ≤ 16) : CallA Tryz.prog 174 [LI L] (ownA eN 119 2 (orAll (varL L))) := by
  refine CallA.of Tryz.func174 rfl (by kernel_rfl) ?_
  refine R.go 16 (R.nil 3 38 1 (by kernel_rfl) ?_)
  refine R.loop ((fun | (i, r) => (⟨(frm 20 [(3, .ref 0), (6, LI L), (7, AI L.length), (8, AI (i : Int))]), [rowA eLN 38 1 r]⟩ : St) : Nat × (List (List (Int × Int))) → St)) (fun | (i, r) => (i ≤ L.length) ∧ (r = varT L i)) (fun | (i, r) => L.length - i) (0, []) [3, 6, 7, 8] none (by kernel_rfl) (by kernel_rfl) (by kernel_rfl) ⟨(by omega), (by rfl)⟩ ?_
  rintro ⟨i, r⟩ ⟨h4_1, rfl⟩ R1 N2
  have hvl := varT_len L i
  refine R.go 5 (R.cond ((i : Int) < (L.length : Int)) (by kernel_rfl) (fun c5 => ?_) (fun c5 => ?_))
  · refine R.go 5 (R.idx eI L 0 i (i : Int) (by kernel_rfl) rfl eI_len (by omega) (by kernel_rfl) ?_)
    refine R.go 6 (R.call true (variable_c (L.getD i 0)) (by kernel_rfl) rfl (by kernel_rfl) ?_)
    refine R.frz 1 (by kernel_rfl) ?_
    refine R.go 1 (R.app eLN (varT L i) [[(0, (L.getD i 0))]] 0 38 1 24 (by kernel_rfl) eLN_one (by decide) (by first | omega | (simp <;> omega)) (by kernel_rfl) ?_)
    refine R.go 4 (R.ar ((i : Int) + 1) (by kernel_rfl) (by omega) (by omega) (by kernel_rfl) ?_)
    exact R.go 2 (R.stop R1 (by kernel_rfl) (N2 (i + 1, (varT L i) ++ [[(0, (L.getD i 0))]]) [3, 6, 7, 8] (some [0]) _ (by kernel_rfl) (by kernel_rfl) ⟨(by omega), (by rfl)⟩ (by show (L.length - (i + 1)) < (L.length - i); omega)))
  · refine R.go 4 (R.call false (joinAll_c (varT L i) (by first | omega | (simp <;> omega)) (by first | assumption | (rw [lenTo_varT _ (by omega)]; omega) | (rw [lenTo_vars]; omega))) (by kernel_rfl) (ownA_closed eN_closed 119 2 (orAll (varT L i))) (by kernel_rfl) ?_)
    exact R.go 2 (R.retE (ownA eN 119 2 (orAll (varT L i))) (by kernel_rfl) (by kernel_rfl) (by first | (apply congrArg (ownA eN _ 2); rw [show i = L.length by omega, varT_all]) | (exfalso; omega)))

theorem joined_c (n : Int) (xs : List Int) (m : Int) (hP : okPo n xs = true) (hm : InM n.toNat m) : CallA Tryz.prog 102 [.agg [AI n, LI xs], AI m] (ownA eN 119 2 (jnd n xs m)) := by
  have hR := okPo_fr hP
  have hF := okFr_rel hR
  have hb0 : 0 ≤ n ∧ n ≤ 8 ∧ (xs.length : Int) = n := ⟨hF.1, hF.2.1, hF.2.2.1⟩
  have hm61 := inM_mono (n' := 61) (by omega) hm
  have hml := mem_le m
  have hml2 := mnS_len xs m n.toNat n.toNat
  refine CallA.of Tryz.func102 rfl (by kernel_rfl) ?_
  refine R.go 9 (R.call true (minimal_c n xs m hP hm) (by kernel_rfl) rfl (by kernel_rfl) ?_)
  refine R.call false (anyOf_c (mnS xs m n.toNat n.toNat) (by first | omega | (simp <;> omega))) (by kernel_rfl) (ownA_closed eN_closed 119 2 (orAll (varL (mnS xs m n.toNat n.toNat)))) (by kernel_rfl) ?_
  exact R.go 2 (R.retE (ownA eN 119 2 (orAll (varL (mnS xs m n.toNat n.toNat)))) (by kernel_rfl) (by kernel_rfl) (by first | (rfl) | (exfalso; omega)))

theorem l02Own_c (a : List (Int × Int)) (ha : a.length ≤ 1000000) : CallA Tryz.prog 245 [LN a] (ownA eN 119 2 a) := by
  refine CallA.of Tryz.func245 rfl (by kernel_rfl) ?_
  refine R.go 8 (R.app eN [] a 0 119 2 16 (by kernel_rfl) eN_one (by decide) (by first | omega | (simp <;> omega)) (by kernel_rfl) ?_)
  exact R.go 2 (R.retE (ownA eN 119 2 ([] ++ a)) (by kernel_rfl) (by kernel_rfl) (by first | (first | rfl | simp) | (exfalso; omega)))

theorem l02All_c (l : List (List (Int × Int))) (h8 : l.length ≤ 16) (hs : lenTo l l.length ≤ 1000) : CallA Tryz.prog 170 [AI 3, LLN l] (ownA eN 119 2 (orAll l)) := by
  have hgl : ∀ i : Nat, i < l.length → lenTo l i + (l.getD i []).length ≤ lenTo l l.length := fun i hi => lenTo_step l i hi
  refine CallA.of Tryz.func170 rfl (by kernel_rfl) ?_
  refine R.go 11 (R.cond ((l.length : Int) = 0) (by kernel_rfl) (fun c1 => ?_) (fun c1 => ?_))
  · refine R.go 10 (R.call true (l02False_c) (by kernel_rfl) rfl (by kernel_rfl) ?_)
    exact R.go 2 (R.retE (ownA eN 119 2 [(1, 0)]) (by kernel_rfl) (by kernel_rfl) (by first | (apply congrArg (ownA eN _ 2); first | exact orAll_nil (by assumption) | exact orAll_nil (by omega) | exact orAll_some (by omega) (by omega)) | (exfalso; omega)))
  · have hg0 := hgl 0 (by omega)
    refine R.go 4 (R.idx eLN l [] 0 0 (by kernel_rfl) rfl eLN_len (by omega) (by kernel_rfl) ?_)
    refine R.go 1 (R.call true (l02Own_c (l.getD 0 []) (by first | omega | (simp <;> omega))) (by kernel_rfl) rfl (by kernel_rfl) ?_)
    refine R.go 8 (R.loop ((fun | (i, ys) => (⟨(frm 32 [(0, AI 3), (1, LLN l), (5, .ref 0), (6, AI (i : Int))]), [rowA eN 119 2 ys]⟩ : St) : Nat × (List (Int × Int)) → St)) (fun | (i, ys) => (1 ≤ i) ∧ (i ≤ l.length) ∧ (ys = orT l i)) (fun | (i, ys) => l.length - i) (1, (l.getD 0 [])) [0, 1, 5, 6] none (by kernel_rfl) (by kernel_rfl) (by kernel_rfl) ⟨(by omega), (by omega), (by exact orT_one)⟩ ?_)
    rintro ⟨i, ys⟩ ⟨h5_1, h5_2, rfl⟩ R2 N3
    have hol := orT_len l i
    have hgi := hgl i
    refine R.go 8 (R.cond ((i : Int) < (l.length : Int)) (by kernel_rfl) (fun c6 => ?_) (fun c6 => ?_))
    · have hg1 := hgi (by omega)
      refine R.go 8 (R.idx eLN l [] i (i : Int) (by kernel_rfl) rfl eLN_len (by omega) (by kernel_rfl) ?_)
      refine R.go 1 (R.call false (l02Pair_c 3 (orT l i) (l.getD i []) (by first | omega | (simp <;> omega)) (by first | omega | (simp <;> omega))) (by kernel_rfl) (ownA_closed eN_closed 119 2 ((3, 0) :: ((orT l i) ++ (l.getD i [])))) (by kernel_rfl) ?_)
      refine R.go 5 (R.ar ((i : Int) + 1) (by kernel_rfl) (by omega) (by omega) (by kernel_rfl) ?_)
      exact R.go 2 (R.stop R2 (by kernel_rfl) (N3 (i + 1, (3, 0) :: ((orT l i) ++ (l.getD i []))) [0, 1, 5, 6] (some [1]) _ (by kernel_rfl) (by kernel_rfl) ⟨(by omega), (by omega), (by exact orT_step (by omega))⟩ (by show (l.length - (i + 1)) < (l.length - i); omega)))
    · exact R.go 6 (R.retE (ownA eN 119 2 (orT l i)) (by kernel_rfl) (by kernel_rfl) (by first | (apply congrArg (ownA eN _ 2); first | exact orAll_nil (by assumption) | exact orAll_nil (by omega) | exact orAll_some (by omega) (by omega)) | (exfalso; omega)))

theorem l16Leq_c (n : Int) (xs : List Int) (x : Nat) (y : Int) (hx : x < xs.length) (h0 : 0 ≤ y) (h1 : y ≤ 62) : CallA Tryz.prog 169 [.agg [AI n, LI xs], AI (x : Int), AI y] (.bool (decide (band (shr64 (xs.getD x 0) y) 1 = 1))) := by
  refine CallA.of Tryz.func169 rfl (by kernel_rfl) ?_
  refine R.go 10 (R.idx eI xs 0 x (x : Int) (by kernel_rfl) rfl eI_len (by omega) (by kernel_rfl) ?_)
  refine R.go 2 (R.call true (l01Bit_c (xs.getD x 0) y h0 h1) (by kernel_rfl) rfl (by kernel_rfl) ?_)
  exact R.go 2 (R.retE (.bool (decide (band (shr64 (xs.getD x 0) y) 1 = 1))) (by kernel_rfl) (by kernel_rfl) (by rfl))

theorem l21Join_c (n : Int) (xs : List Int) (m : Int) (hP : okPo n xs = true) (hm : InM n.toNat m) : CallA Tryz.prog 97 [.agg [AI n, LI xs], AI m] (ownA eN 119 2 (jnd n xs m)) := by
  have hR := okPo_fr hP
  have hF := okFr_rel hR
  have hb0 : 0 ≤ n ∧ n ≤ 8 ∧ (xs.length : Int) = n := ⟨hF.1, hF.2.1, hF.2.2.1⟩
  have hm61 := inM_mono (n' := 61) (by omega) hm
  have hml := mem_le m
  refine CallA.of Tryz.func97 rfl (by kernel_rfl) ?_
  refine R.go 16 (R.loop ((fun | (x, L) => (⟨(frm 52 [(1, AI m), (2, .ptr 0 0), (5, .ref 1), (6, AI (x : Int))]), [.box 29 [AI n, LI xs], rowA eLN 38 1 L]⟩ : St) : Nat × (List (List (Int × Int))) → St)) (fun | (x, L) => (x ≤ n.toNat) ∧ (L = varL (mnS xs m n.toNat x))) (fun | (x, L) => n.toNat - x) (0, []) [1, 2, 5, 6] none (by kernel_rfl) (by kernel_rfl) (by kernel_rfl) ⟨(by omega), (by rfl)⟩ ?_)
  rintro ⟨x, L⟩ ⟨h4_1, rfl⟩ R1 N2
  have hmx := mnS_len xs m n.toNat x
  have hvl := varL_len (mnS xs m n.toNat x)
  refine R.go 8 (R.cond ((x : Int) < n) (by kernel_rfl) (fun c5 => ?_) (fun c5 => ?_))
  · refine R.go 7 (R.call true (l01Bit_c m (x : Int) (by omega) (by omega)) (by kernel_rfl) rfl (by kernel_rfl) ?_)
    refine R.go 8 (R.loop ((fun | (y, le) => (⟨(frm 52 [(1, AI m), (2, .ptr 0 0), (5, .ref 1), (6, AI (x : Int)), (7, .bool le), (8, AI (y : Int))]), [.box 29 [AI n, LI xs], rowA eLN 38 1 (varL (mnS xs m n.toNat x))]⟩ : St) : Nat × Bool → St)) (fun | (y, le) => (y ≤ n.toNat) ∧ (lstT xs m x y = le)) (fun | (y, le) => n.toNat - y) (0, (decide (band (shr64 m (x : Int)) 1 = 1))) [1, 2, 5, 6, 7, 8] none (by kernel_rfl) (by kernel_rfl) (by kernel_rfl) ⟨(by omega), (by rfl)⟩ ?_)
    rintro ⟨y, le⟩ ⟨h9_1, h9_2⟩ R6 N7
    refine R.go 8 (R.cond ((y : Int) < n) (by kernel_rfl) (fun c10 => ?_) (fun c10 => ?_))
    · refine R.go 6 ?_
      refine (Bool.eq_false_or_eq_true (le)).elim (fun c11 => ?_) (fun c11 => ?_)
      · refine R.want (le) true (by kernel_rfl) c11 ?_
        refine R.go 1 (R.want (le) true (by kernel_rfl) c11 ?_)
        refine R.go 1 (R.want (le) true (by kernel_rfl) c11 ?_)
        refine R.go 1 (R.want (le) true (by kernel_rfl) c11 ?_)
        refine R.go 1 ?_
        by_cases c12 : (y : Int) = (x : Int)
        · refine R.skp (decide ((y : Int) = (x : Int))) false (by kernel_rfl) (dT c12) (by kernel_rfl) ?_
          refine R.skp (decide ((y : Int) = (x : Int))) false (by kernel_rfl) (dT c12) (by kernel_rfl) ?_
          refine R.skp (decide ((y : Int) = (x : Int))) false (by kernel_rfl) (dT c12) (by kernel_rfl) ?_
          refine R.skp (decide ((y : Int) = (x : Int))) false (by kernel_rfl) (dT c12) (by kernel_rfl) ?_
          refine R.want (le) true (by kernel_rfl) c11 ?_
          refine R.pick (decide ((y : Int) = (x : Int))) true (by kernel_rfl) (dT c12) (by kernel_rfl) ?_
          refine R.want (le) true (by kernel_rfl) c11 ?_
          refine R.go 6 (R.want (le) true (by kernel_rfl) c11 ?_)
          refine R.go 1 (R.pick (le) true (by kernel_rfl) c11 (by kernel_rfl) ?_)
          refine R.go 5 (R.ar ((y : Int) + 1) (by kernel_rfl) (by omega) (by omega) (by kernel_rfl) ?_)
          exact R.go 2 (R.stop R6 (by kernel_rfl) (N7 (y + 1, true) [1, 2, 5, 6, 7, 8] none _ (by kernel_rfl) (by kernel_rfl) ⟨(by omega), (by rw [lstT, ‹lstT xs m x y = le›]; simp [*])⟩ (by show (n.toNat - (y + 1)) < (n.toNat - y); omega)))
        · refine R.want (decide ((y : Int) = (x : Int))) false (by kernel_rfl) (dF c12) ?_
          refine R.go 1 (R.want (decide ((y : Int) = (x : Int))) false (by kernel_rfl) (dF c12) ?_)
          refine R.go 1 (R.want (decide ((y : Int) = (x : Int))) false (by kernel_rfl) (dF c12) ?_)
          refine R.call true (l01Bit_c m (y : Int) (by omega) (by omega)) (by kernel_rfl) rfl (by kernel_rfl) ?_
          refine R.want (decide ((y : Int) = (x : Int))) false (by kernel_rfl) (dF c12) ?_
          refine R.go 1 (R.want (le) true (by kernel_rfl) c11 ?_)
          refine R.pick (decide ((y : Int) = (x : Int))) false (by kernel_rfl) (dF c12) (by kernel_rfl) ?_
          refine R.want (le) true (by kernel_rfl) c11 ?_
          refine R.go 1 ?_
          by_cases c13 : band (shr64 m (y : Int)) 1 = 1
          · refine R.want (!decide (band (shr64 m (y : Int)) 1 = 1)) false (by kernel_rfl) (nF c13) ?_
            refine R.go 1 (R.want (!decide (band (shr64 m (y : Int)) 1 = 1)) false (by kernel_rfl) (nF c13) ?_)
            refine R.go 1 (R.want (!decide (band (shr64 m (y : Int)) 1 = 1)) false (by kernel_rfl) (nF c13) ?_)
            refine R.go 1 (R.want (!decide (band (shr64 m (y : Int)) 1 = 1)) false (by kernel_rfl) (nF c13) ?_)
            refine R.call true (l16Leq_c n xs y (x : Int) (by first | omega | (simp <;> omega)) (by omega) (by omega)) (by kernel_rfl) rfl (by kernel_rfl) ?_
            refine R.want (!decide (band (shr64 m (y : Int)) 1 = 1)) false (by kernel_rfl) (nF c13) ?_
            refine R.go 1 (R.want (le) true (by kernel_rfl) c11 ?_)
            refine R.pick (!decide (band (shr64 m (y : Int)) 1 = 1)) false (by kernel_rfl) (nF c13) (by kernel_rfl) ?_
            refine R.pick (le) true (by kernel_rfl) c11 (by kernel_rfl) ?_
            refine R.go 5 (R.ar ((y : Int) + 1) (by kernel_rfl) (by omega) (by omega) (by kernel_rfl) ?_)
            exact R.go 2 (R.stop R6 (by kernel_rfl) (N7 (y + 1, !decide (band (shr64 (xs.getD y 0) (x : Int)) 1 = 1)) [1, 2, 5, 6, 7, 8] none _ (by kernel_rfl) (by kernel_rfl) ⟨(by omega), (by rw [lstT, ‹lstT xs m x y = le›]; simp [*])⟩ (by show (n.toNat - (y + 1)) < (n.toNat - y); omega)))
          · refine R.skp (!decide (band (shr64 m (y : Int)) 1 = 1)) false (by kernel_rfl) (nT c13) (by kernel_rfl) ?_
            refine R.skp (!decide (band (shr64 m (y : Int)) 1 = 1)) false (by kernel_rfl) (nT c13) (by kernel_rfl) ?_
            refine R.skp (!decide (band (shr64 m (y : Int)) 1 = 1)) false (by kernel_rfl) (nT c13) (by kernel_rfl) ?_
            refine R.skp (!decide (band (shr64 m (y : Int)) 1 = 1)) false (by kernel_rfl) (nT c13) (by kernel_rfl) ?_
            refine R.skp (!decide (band (shr64 m (y : Int)) 1 = 1)) false (by kernel_rfl) (nT c13) (by kernel_rfl) ?_
            refine R.want (le) true (by kernel_rfl) c11 ?_
            refine R.pick (!decide (band (shr64 m (y : Int)) 1 = 1)) true (by kernel_rfl) (nT c13) (by kernel_rfl) ?_
            refine R.pick (le) true (by kernel_rfl) c11 (by kernel_rfl) ?_
            refine R.go 5 (R.ar ((y : Int) + 1) (by kernel_rfl) (by omega) (by omega) (by kernel_rfl) ?_)
            exact R.go 2 (R.stop R6 (by kernel_rfl) (N7 (y + 1, true) [1, 2, 5, 6, 7, 8] none _ (by kernel_rfl) (by kernel_rfl) ⟨(by omega), (by rw [lstT, ‹lstT xs m x y = le›]; simp [*])⟩ (by show (n.toNat - (y + 1)) < (n.toNat - y); omega)))
      · refine R.skp (le) true (by kernel_rfl) c11 (by kernel_rfl) ?_
        refine R.skp (le) true (by kernel_rfl) c11 (by kernel_rfl) ?_
        refine R.skp (le) true (by kernel_rfl) c11 (by kernel_rfl) ?_
        refine R.skp (le) true (by kernel_rfl) c11 (by kernel_rfl) ?_
        refine R.go 4 (R.skp (le) true (by kernel_rfl) c11 (by kernel_rfl) ?_)
        refine R.skp (le) true (by kernel_rfl) c11 (by kernel_rfl) ?_
        refine R.go 5 (R.skp (le) true (by kernel_rfl) c11 (by kernel_rfl) ?_)
        refine R.pick (le) false (by kernel_rfl) c11 (by kernel_rfl) ?_
        refine R.go 5 (R.ar ((y : Int) + 1) (by kernel_rfl) (by omega) (by omega) (by kernel_rfl) ?_)
        exact R.go 2 (R.stop R6 (by kernel_rfl) (N7 (y + 1, false) [1, 2, 5, 6, 7, 8] none _ (by kernel_rfl) (by kernel_rfl) ⟨(by omega), (by rw [lstT, ‹lstT xs m x y = le›]; simp [*])⟩ (by show (n.toNat - (y + 1)) < (n.toNat - y); omega)))
    · refine R.go 5 (R.condB (le) (by kernel_rfl) (fun c14 => ?_) (fun c14 => ?_))
      · refine R.go 3 (R.call true (l02Var_c (x : Int)) (by kernel_rfl) rfl (by kernel_rfl) ?_)
        refine R.frz 2 (by kernel_rfl) ?_
        refine R.go 1 (R.app eLN (varL (mnS xs m n.toNat x)) [[(0, (x : Int))]] 1 38 1 24 (by kernel_rfl) eLN_one (by decide) (by first | omega | (simp <;> omega)) (by kernel_rfl) ?_)
        refine R.go 5 (R.ar ((x : Int) + 1) (by kernel_rfl) (by omega) (by omega) (by kernel_rfl) ?_)
        exact R.go 2 (R.stop R1 (by kernel_rfl) (N2 (x + 1, (varL (mnS xs m n.toNat x)) ++ [[(0, (x : Int))]]) [1, 2, 5, 6] (some [0, 1]) _ (by kernel_rfl) (by kernel_rfl) ⟨(by omega), (by first | exact jn_yes (by assumption) (by assumption) (by omega) | exact jn_no (by assumption) (by assumption) (by omega))⟩ (by show (n.toNat - (x + 1)) < (n.toNat - x); omega)))
      · refine R.go 4 (R.ar ((x : Int) + 1) (by kernel_rfl) (by omega) (by omega) (by kernel_rfl) ?_)
        exact R.go 2 (R.stop R1 (by kernel_rfl) (N2 (x + 1, varL (mnS xs m n.toNat x)) [1, 2, 5, 6] none _ (by kernel_rfl) (by kernel_rfl) ⟨(by omega), (by first | exact jn_yes (by assumption) (by assumption) (by omega) | exact jn_no (by assumption) (by assumption) (by omega))⟩ (by show (n.toNat - (x + 1)) < (n.toNat - x); omega)))
  · refine R.go 4 (R.call false (l02All_c (varL (mnS xs m n.toNat x)) (by first | omega | (simp <;> omega)) (by first | assumption | (rw [lenTo_varT _ (by omega)]; omega) | (rw [lenTo_vars]; omega))) (by kernel_rfl) (ownA_closed eN_closed 119 2 (orAll (varL (mnS xs m n.toNat x)))) (by kernel_rfl) ?_)
    exact R.go 2 (R.retE (ownA eN 119 2 (orAll (varL (mnS xs m n.toNat x)))) (by kernel_rfl) (by kernel_rfl) (by first | (apply congrArg (ownA eN _ 2); rw [show x = n.toNat by omega]; rfl) | (exfalso; omega)))

theorem jankovCode_c (n : Int) (xs : List Int) (lx : xs.length ≤ 1048576) : CallA Tryz.prog 45 [.agg [AI n, LI xs]] (AI (jkC n xs)) := by
  refine CallA.of Tryz.func45 rfl (by kernel_rfl) ?_
  refine R.go 10 (R.call true (isPoset_c n xs (by first | omega | (simp <;> omega))) (by kernel_rfl) rfl (by kernel_rfl) ?_)
  refine R.go 3 (R.condM (okPo n xs) (by kernel_rfl) (fun c1 => ?_) (fun c1 => ?_))
  · exact R.go 4 (R.retE (AI 1) (by kernel_rfl) (by kernel_rfl) (by first | (apply congrArg AI; first | exact jk_1 (by assumption) | exact jk_5 (by assumption) (by assumption) | exact jk_3 (by assumption) (by assumption) (by assumption) | exact jk_0 (by assumption) (by assumption) (by assumption)) | (exfalso; omega)))
  · refine R.go 3 (R.call true (root_c n xs c1) (by kernel_rfl) rfl (by kernel_rfl) ?_)
    refine R.go 3 (R.cond ((rootX n xs) < 0) (by kernel_rfl) (fun c2 => ?_) (fun c2 => ?_))
    · exact R.go 4 (R.retE (AI 5) (by kernel_rfl) (by kernel_rfl) (by first | (apply congrArg AI; first | exact jk_1 (by assumption) | exact jk_5 (by assumption) (by assumption) | exact jk_3 (by assumption) (by assumption) (by assumption) | exact jk_0 (by assumption) (by assumption) (by assumption)) | (exfalso; omega)))
    · refine R.go 7 (R.cond (n > 5) (by kernel_rfl) (fun c3 => ?_) (fun c3 => ?_))
      · exact R.go 4 (R.retE (AI 3) (by kernel_rfl) (by kernel_rfl) (by first | (apply congrArg AI; first | exact jk_1 (by assumption) | exact jk_5 (by assumption) (by assumption) | exact jk_3 (by assumption) (by assumption) (by assumption) | exact jk_0 (by assumption) (by assumption) (by assumption)) | (exfalso; omega)))
      · exact R.go 6 (R.retE (AI 0) (by kernel_rfl) (by kernel_rfl) (by first | (apply congrArg AI; first | exact jk_1 (by assumption) | exact jk_5 (by assumption) (by assumption) | exact jk_3 (by assumption) (by assumption) (by assumption) | exact jk_0 (by assumption) (by assumption) (by assumption)) | (exfalso; omega)))

theorem l21Code_c (n : Int) (xs : List Int) (lx : xs.length ≤ 1048576) : CallA Tryz.prog 42 [.agg [AI n, LI xs]] (AI (jkC n xs)) := by
  refine CallA.of Tryz.func42 rfl (by kernel_rfl) ?_
  refine R.go 10 (R.call true (l16Is_c n xs (by first | omega | (simp <;> omega))) (by kernel_rfl) rfl (by kernel_rfl) ?_)
  refine R.go 3 (R.condM (okPo n xs) (by kernel_rfl) (fun c1 => ?_) (fun c1 => ?_))
  · exact R.go 4 (R.retE (AI 1) (by kernel_rfl) (by kernel_rfl) (by first | (apply congrArg AI; first | exact jk_1 (by assumption) | exact jk_5 (by assumption) (by assumption) | exact jk_3 (by assumption) (by assumption) (by assumption) | exact jk_0 (by assumption) (by assumption) (by assumption)) | (exfalso; omega)))
  · refine R.go 3 (R.call true (l16Root_c n xs c1) (by kernel_rfl) rfl (by kernel_rfl) ?_)
    refine R.go 3 (R.cond ((rootX n xs) < 0) (by kernel_rfl) (fun c2 => ?_) (fun c2 => ?_))
    · exact R.go 4 (R.retE (AI 5) (by kernel_rfl) (by kernel_rfl) (by first | (apply congrArg AI; first | exact jk_1 (by assumption) | exact jk_5 (by assumption) (by assumption) | exact jk_3 (by assumption) (by assumption) (by assumption) | exact jk_0 (by assumption) (by assumption) (by assumption)) | (exfalso; omega)))
    · refine R.go 7 (R.cond (n > 5) (by kernel_rfl) (fun c3 => ?_) (fun c3 => ?_))
      · exact R.go 4 (R.retE (AI 3) (by kernel_rfl) (by kernel_rfl) (by first | (apply congrArg AI; first | exact jk_1 (by assumption) | exact jk_5 (by assumption) (by assumption) | exact jk_3 (by assumption) (by assumption) (by assumption) | exact jk_0 (by assumption) (by assumption) (by assumption)) | (exfalso; omega)))
      · exact R.go 6 (R.retE (AI 0) (by kernel_rfl) (by kernel_rfl) (by first | (apply congrArg AI; first | exact jk_1 (by assumption) | exact jk_5 (by assumption) (by assumption) | exact jk_3 (by assumption) (by assumption) (by assumption) | exact jk_0 (by assumption) (by assumption) (by assumption)) | (exfalso; omega)))

end Go.Proofs.YtalfakdiinhdnaaGreat


/-! IsPosetValid, FirstUnforced: both packages, their laws. -/
namespace Go.Proofs.YtalfakdiinhdnaaGreat
open Go.RowKit Go.Abs

theorem nn_eq {n : Int} (h0 : 0 ≤ n) : ((n.toNat : Nat) : Int) = n := by omega
theorem upTo_in (xs : List Int) : ∀ (k : Nat) (v : Int), v ∈ upTo xs k → 0 ≤ v ∧ v < (k : Int)
  | 0, v, h => by simp [upTo] at h
  | k + 1, v, h => by
    rw [upTo] at h
    split at h
    · rcases List.mem_append.1 h with h | h
      · have := upTo_in xs k v h; omega
      · rw [List.mem_singleton] at h; omega
    · have := upTo_in xs k v h; omega
theorem upL_in {n : Int} {xs : List Int} (h : okPo n xs = true) (j : Nat) : InM n.toNat ((upL n xs).getD j 0) := by
  have hF := okFr_rel (okPo_fr h)
  rw [List.getD_eq_getElem?_getD]
  rcases Nat.lt_or_ge j (upL n xs).length with hj | hj
  · rw [List.getElem?_eq_getElem hj, Option.getD_some]
    have h1 := upTo_in xs _ _ (List.getElem_mem hj)
    have h2 := shl_nat (i := n.toNat) (by omega)
    rw [nn_eq hF.1] at h2
    refine ⟨h1.1, ?_⟩
    have h3 : (upL n xs)[j] < shl64 1 n := by
      have := (shl_rng n hF.1 (by omega)).1
      omega
    rw [h2] at h3
    generalize 2 ^ n.toNat = q at h3
    omega
  · rw [List.getElem?_eq_none hj]; exact inM_zero _
theorem pT_in {n : Int} {xs : List Int} (hR : okFr n xs = true) {k p q : Int} (hp : InM n.toNat p) (hq : InM n.toNat q) : InM n.toNat (pT n (pxB xs) k p q) := by
  obtain ⟨h0, h8, hl, hr⟩ := okFr_rel hR
  have hn : n.toNat ≤ 61 := by omega
  have hf := inM_full (n := n.toNat) hn
  rw [nn_eq h0] at hf
  unfold pT
  split
  · exact inM_band hn hp hq
  · split
    · exact inM_bor hn hp hq
    · exact (boxB_ok hn hr (inM_bor hn (inM_bnot hn hf hp) hq) xs.length (by omega)).1
section
variable {s : Nat} {n : Int} {xs : List Int} {a : List (Int × Int)}
end

end Go.Proofs.YtalfakdiinhdnaaGreat


/-! Rows of bytes; drawn regions with tags of one's own. -/
namespace Go.Abs
open Go.RowKit Go.ChangeShapes Go.WideShapes Go.Deep

section
variable {H : Type} {enc : TypeId × Value → H} {P : Program} {w : World} {base : Nat} {spare : Nat → Bool} {held : Bool}

end

section
variable {rd : Option Nat} {P : Program} {m : M} {Q : Exit → St → Prop}
/-- A drawn region's entry, with tags of one's own: 0 for a literal that is only read, 1 for a call that makes objects. -/
def drwOk (P : Program) (ts : List Nat) (m : M) : Bool :=
  match m.ks with
  | .code (.region _ ops true) :: _ => P.follows .mixedOrders && okDraw ops ts
  | _ => false
def drwM (ts : List Nat) (m : M) : M :=
  match m.ks with
  | .code (.region _ ops true) :: ks => ⟨.drw ops ops.toList ts false :: ks, m.st⟩
  | _ => m
theorem R.drwT (ts : List Nat) (h : drwOk P ts m = true) (h' : Runs rd P (drwM ts m) Q) : Runs rd P m Q := by
  obtain ⟨ks, st⟩ := m
  unfold drwOk at h
  simp only at h
  split at h
  · rename_i id ops ks
    simp only [Bool.and_eq_true] at h
    simp only [drwM, runs_iff] at h' ⊢
    simp only [RunsK] at h' ⊢
    exact RunA.drawK ts h.1 h.2 (h' headW_false)
  · cases h
end
end Go.Abs


/-! The premises of the Jankov formulas. -/
namespace Go.Proofs.YtalfakdiinhdnaaGreat
open Go.RowKit Go.Abs

def bothL (a b : List (Int × Int)) : List (List (Int × Int)) := [(4, 0) :: (a ++ b), (4, 0) :: (b ++ a)]
def jA (n : Int) (xs : List Int) (a b : Int) : Int := pxB xs (bor (bnot ((shl64 1 n) - 1) a) b)
def conL (x y : Nat) : List (Int × Int) := (2, 0) :: ([(0, (x : Int))] ++ [(0, (y : Int))])
def impL (x : Nat) (a : List (Int × Int)) : List (Int × Int) := (4, 0) :: ([(0, (x : Int))] ++ a)
def p1y (n : Int) (xs : List Int) (x : Nat) : Nat → List (List (Int × Int))
  | 0 => []
  | y + 1 => if x < y then p1y n xs x y ++ bothL (conL x y) (jnd n xs (band (xs.getD x 0) (xs.getD y 0))) else p1y n xs x y
def p1 (n : Int) (xs : List Int) : Nat → List (List (Int × Int))
  | 0 => [[(0, rootX n xs)]]
  | x + 1 => p1 n xs x ++ p1y n xs x n.toNat
def p2y (n : Int) (xs U : List Int) (x : Nat) : Nat → List (List (Int × Int))
  | 0 => []
  | k + 1 => p2y n xs U x k ++ bothL (impL x (jnd n xs (U.getD k 0))) (jnd n xs (jA n xs (xs.getD x 0) (U.getD k 0)))
def p2 (n : Int) (xs U : List Int) : Nat → List (List (Int × Int))
  | 0 => p1 n xs n.toNat
  | x + 1 => p2 n xs U x ++ p2y n xs U x U.length
def jpL (n : Int) (xs : List Int) : List (List (Int × Int)) := p2 n xs (upL n xs) n.toNat
theorem p1y_low (n : Int) (xs : List Int) (x : Nat) : ∀ y : Nat, y ≤ x + 1 → p1y n xs x y = []
  | 0, _ => rfl
  | y + 1, h => by rw [p1y, if_neg (by omega), p1y_low n xs x y (by omega)]
theorem p1_in {n : Int} {xs : List Int} {x : Nat} : p1 n xs x = p1 n xs x ++ p1y n xs x (x + 1) := by rw [p1y_low n xs x _ (Nat.le_refl _), List.append_nil]
theorem p1_step {n : Int} {xs : List Int} {x y : Nat} (h : x + 1 ≤ y) : (p1 n xs x ++ p1y n xs x y) ++ bothL (conL x y) (jnd n xs (band (xs.getD x 0) (xs.getD y 0))) = p1 n xs x ++ p1y n xs x (y + 1) := by
  rw [p1y, if_pos (by omega), List.append_assoc]
theorem p1_out {n : Int} {xs : List Int} {x y : Nat} (h : y = n.toNat) : p1 n xs x ++ p1y n xs x y = p1 n xs (x + 1) := by rw [h]; rfl
theorem p2_in {n : Int} {xs U : List Int} {x : Nat} : p2 n xs U x = p2 n xs U x ++ p2y n xs U x 0 := (List.append_nil _).symm
theorem p2_step {n : Int} {xs U : List Int} {x k : Nat} : (p2 n xs U x ++ p2y n xs U x k) ++ bothL (impL x (jnd n xs (U.getD k 0))) (jnd n xs (jA n xs (xs.getD x 0) (U.getD k 0))) = p2 n xs U x ++ p2y n xs U x (k + 1) := List.append_assoc _ _ _
theorem p2_out {n : Int} {xs U : List Int} {x k : Nat} (h : k = U.length) : p2 n xs U x ++ p2y n xs U x k = p2 n xs U (x + 1) := by rw [h]; rfl
theorem p2_start {n : Int} {xs U : List Int} {x : Nat} (h : x = n.toNat) : p1 n xs x = p2 n xs U 0 := by rw [h]; rfl
theorem p1y_len (n : Int) (xs : List Int) (x : Nat) : ∀ y : Nat, (p1y n xs x y).length ≤ 2 * y
  | 0 => Nat.le_refl _
  | y + 1 => by
    have := p1y_len n xs x y
    rw [p1y]
    split
    · simp [bothL]; omega
    · omega
theorem p1_len {n : Int} {xs : List Int} (h8 : n ≤ 8) : ∀ x : Nat, (p1 n xs x).length ≤ 1 + 16 * x
  | 0 => by simp [p1]
  | x + 1 => by
    have := p1_len (xs := xs) h8 x
    have := p1y_len n xs x n.toNat
    rw [p1, List.length_append]
    omega
theorem p2y_len (n : Int) (xs U : List Int) (x : Nat) : ∀ y : Nat, (p2y n xs U x y).length = 2 * y
  | 0 => rfl
  | y + 1 => by
    have := p2y_len n xs U x y
    rw [p2y, List.length_append, this]
    simp [bothL]; omega
theorem p2_len {n : Int} {xs U : List Int} (h8 : n ≤ 8) (hU : U.length ≤ 256) : ∀ x : Nat, (p2 n xs U x).length ≤ 1 + 16 * n.toNat + 512 * x
  | 0 => p1_len h8 _
  | x + 1 => by
    have := p2_len (xs := xs) h8 hU x
    have := p2y_len n xs U x U.length
    rw [p2, List.length_append]
    omega
theorem jA_in {n : Int} {xs : List Int} (hR : okFr n xs = true) {a b : Int} (ha : InM n.toNat a) (hb : InM n.toNat b) : InM n.toNat (jA n xs a b) := by
  have := pT_in (k := 4) hR ha hb
  simpa [pT, jA] using this
theorem row_in {n : Int} {xs : List Int} (hR : okFr n xs = true) {x : Nat} (hx : x < xs.length) : InM n.toNat (xs.getD x 0) := (okFr_rel hR).2.2.2.2 x (by have := okFr_rel hR; omega)
theorem bothL_len (a b : List (Int × Int)) : (bothL a b).length = 2 := rfl
theorem arrow3_c (n : Int) (xs : List Int) (a b : Int) (hR : okFr n xs = true) : CallA Tryz.prog 99 [.agg [AI n, LI xs], AI a, AI b] (AI (jA n xs a b)) := by
  have hF := okFr_rel hR
  have h1 := arrow2_c n xs a b (by omega) (by omega) (by omega)
  rw [pxAB hR] at h1
  exact h1

theorem imply3_c (n : Int) (xs : List Int) (a : Int) (b : Int) (h0 : 0 ≤ n) (h1 : n ≤ 62) (hl : xs.length ≤ 60) : CallA Tryz.prog 104 [.agg [AI n, LI xs], AI a, AI b] (AI (jA n xs a b)) := by
  refine CallA.of Tryz.func104 rfl (by kernel_rfl) ?_
  refine R.go 10 (R.call true (pAll_c n xs h0 h1) (by kernel_rfl) rfl (by kernel_rfl) ?_)
  refine R.go 4 (R.call true (box_c xs (bor (bnot ((shl64 1 n) - 1) a) b) hl) (by kernel_rfl) rfl (by kernel_rfl) ?_)
  exact R.go 2 (R.retE (AI (boxB xs (bor (bnot ((shl64 1 n) - 1) a) b) xs.length)) (by kernel_rfl) (by kernel_rfl) (by first | (rfl) | (exfalso; omega)))

theorem l21Both_c (a : List (Int × Int)) (b : List (Int × Int)) (ha : a.length ≤ 1000000) (hb : b.length ≤ 1000000) : CallA Tryz.prog 95 [LN a, LN b] (ownA eLN 38 1 (bothL a b)) := by
  refine CallA.of Tryz.func95 rfl (by kernel_rfl) ?_
  refine R.go 8 (R.call true (l02Pair_c 4 a b ha hb) (by kernel_rfl) rfl (by kernel_rfl) ?_)
  refine R.go 2 (R.call true (l02Pair_c 4 b a hb ha) (by kernel_rfl) rfl (by kernel_rfl) ?_)
  refine R.frz 0 (by kernel_rfl) ?_
  refine R.frz 1 (by kernel_rfl) ?_
  exact R.go 3 (R.retE (ownA eLN 38 1 [(4, 0) :: (a ++ b), (4, 0) :: (b ++ a)]) (by kernel_rfl) (by kernel_rfl) (by first | (rfl) | (exfalso; omega)))

theorem l21Premises_c (n : Int) (xs : List Int) (hP : okPo n xs = true) (hr0 : 0 ≤ rootX n xs) : CallA Tryz.prog 43 [.agg [AI n, LI xs]] (ownA eLN 38 1 (jpL n xs)) := by
  have hR := okPo_fr hP
  have hF := okFr_rel hR
  have hb0 : 0 ≤ n ∧ n ≤ 8 ∧ (xs.length : Int) = n := ⟨hF.1, hF.2.1, hF.2.2.1⟩
  have hrl := rootX_lt hF.2.2.1
  have hjl := fun m => jnd_len n xs m hF.2.1
  have hul := upL_len hP
  have hrw := fun (x : Nat) (h : x < xs.length) => row_in hR h
  have hban := fun (x y : Nat) (h : x < xs.length) (h2 : y < xs.length) => inM_band (by omega) (row_in hR h) (row_in hR h2)
  have hul2 := upL_in hP
  have hjj := fun (x k : Nat) (h : x < xs.length) => jA_in hR (row_in hR h) (hul2 k)
  refine CallA.of Tryz.func43 rfl (by kernel_rfl) ?_
  refine R.go 8 (R.call true (l16Root_c n xs hP) (by kernel_rfl) rfl (by kernel_rfl) ?_)
  refine R.call true (l02Var_c (rootX n xs)) (by kernel_rfl) rfl (by kernel_rfl) ?_
  refine R.frz 1 (by kernel_rfl) ?_
  refine R.go 9 (R.loop ((fun | (x, P) => (⟨(frm 90 [(1, .ptr 0 0), (3, .ref 1), (4, AI (x : Int))]), [.box 29 [AI n, LI xs], rowA eLN 38 1 P]⟩ : St) : Nat × (List (List (Int × Int))) → St)) (fun | (x, P) => (x ≤ n.toNat) ∧ (P = p1 n xs x)) (fun | (x, P) => n.toNat - x) (0, [[(0, (rootX n xs))]]) [1, 3, 4] (some [0, 2]) (by kernel_rfl) (by kernel_rfl) (by kernel_rfl) ⟨(by omega), (by rfl)⟩ ?_)
  rintro ⟨x, P⟩ ⟨h4_1, rfl⟩ R1 N2
  have h1l := p1_len (xs := xs) hb0.2.1 x
  refine R.go 8 (R.cond ((x : Int) < n) (by kernel_rfl) (fun c5 => ?_) (fun c5 => ?_))
  · refine R.go 6 (R.ar ((x : Int) + 1) (by kernel_rfl) (by omega) (by omega) (by kernel_rfl) ?_)
    refine R.go 3 (R.loop ((fun | (y, Q) => (⟨(frm 90 [(1, .ptr 0 0), (3, .ref 1), (4, AI (x : Int)), (5, AI (y : Int))]), [.box 29 [AI n, LI xs], rowA eLN 38 1 Q]⟩ : St) : Nat × (List (List (Int × Int))) → St)) (fun | (y, Q) => (x + 1 ≤ y) ∧ (y ≤ n.toNat) ∧ (Q = p1 n xs x ++ p1y n xs x y)) (fun | (y, Q) => n.toNat - y) ((x + 1), (p1 n xs x)) [1, 3, 4, 5] none (by kernel_rfl) (by kernel_rfl) (by kernel_rfl) ⟨(by omega), (by omega), (by exact p1_in)⟩ ?_)
    rintro ⟨y, Q⟩ ⟨h9_1, h9_2, rfl⟩ R6 N7
    have h1y := p1y_len n xs x y
    refine R.go 8 (R.cond ((y : Int) < n) (by kernel_rfl) (fun c10 => ?_) (fun c10 => ?_))
    · have hb1 := hban x y (by omega) (by omega)
      have hj1 := hjl (band (xs.getD x 0) (xs.getD y 0))
      refine R.go 6 (R.call true (l02Var_c (x : Int)).frz (by kernel_rfl) rfl (by kernel_rfl) ?_)
      refine R.go 1 (R.call true (l02Var_c (y : Int)).frz (by kernel_rfl) rfl (by kernel_rfl) ?_)
      refine R.call true (l02Pair_c 2 [(0, (x : Int))] [(0, (y : Int))] (by first | omega | (simp only [List.length_cons, List.length_append, List.length_nil]; omega)) (by first | omega | (simp only [List.length_cons, List.length_append, List.length_nil]; omega))).frz (by kernel_rfl) rfl (by kernel_rfl) ?_
      refine R.go 4 (R.idx eI xs 0 x (x : Int) (by kernel_rfl) rfl eI_len (by omega) (by kernel_rfl) ?_)
      refine R.go 4 (R.idx eI xs 0 y (y : Int) (by kernel_rfl) rfl eI_len (by omega) (by kernel_rfl) ?_)
      refine R.go 2 (R.call true (l21Join_c n xs (band (xs.getD x 0) (xs.getD y 0)) hP (by first | assumption | exact jcM_in (by assumption) (by omega))).frz (by kernel_rfl) rfl (by kernel_rfl) ?_)
      refine R.call true (l21Both_c ((2, 0) :: ([(0, (x : Int))] ++ [(0, (y : Int))])) (jnd n xs (band (xs.getD x 0) (xs.getD y 0))) (by first | omega | (simp only [List.length_cons, List.length_append, List.length_nil]; omega)) (by first | omega | (simp only [List.length_cons, List.length_append, List.length_nil]; omega))).frz (by kernel_rfl) rfl (by kernel_rfl) ?_
      refine R.app eLN (p1 n xs x ++ p1y n xs x y) (bothL ((2, 0) :: ([(0, (x : Int))] ++ [(0, (y : Int))])) (jnd n xs (band (xs.getD x 0) (xs.getD y 0)))) 1 38 1 24 (by kernel_rfl) eLN_one (by decide) (by first | omega | (simp only [List.length_cons, List.length_append, List.length_nil, bothL_len]; omega)) (by kernel_rfl) ?_
      refine R.go 5 (R.ar ((y : Int) + 1) (by kernel_rfl) (by omega) (by omega) (by kernel_rfl) ?_)
      exact R.go 2 (R.stop R6 (by kernel_rfl) (N7 (y + 1, p1 n xs x ++ p1y n xs x y ++ (bothL ((2, 0) :: ([(0, (x : Int))] ++ [(0, (y : Int))])) (jnd n xs (band (xs.getD x 0) (xs.getD y 0))))) [1, 3, 4, 5] none _ (by kernel_rfl) (by kernel_rfl) ⟨(by omega), (by omega), (by exact p1_step (by omega))⟩ (by show (n.toNat - (y + 1)) < (n.toNat - y); omega)))
    · refine R.go 4 (R.ar ((x : Int) + 1) (by kernel_rfl) (by omega) (by omega) (by kernel_rfl) ?_)
      exact R.go 2 (R.stop R1 (by kernel_rfl) (N2 (x + 1, p1 n xs x ++ p1y n xs x y) [1, 3, 4] none _ (by kernel_rfl) (by kernel_rfl) ⟨(by omega), (by exact p1_out (by omega))⟩ (by show (n.toNat - (x + 1)) < (n.toNat - x); omega)))
  · refine R.go 4 (R.call true (l16Upsets_c n xs hP).frz (by kernel_rfl) rfl (by kernel_rfl) ?_)
    refine R.go 8 (R.loop ((fun | (z, P) => (⟨(frm 90 [(1, .ptr 0 0), (3, .ref 1), (6, LI (upL n xs)), (7, AI (z : Int))]), [.box 29 [AI n, LI xs], rowA eLN 38 1 P]⟩ : St) : Nat × (List (List (Int × Int))) → St)) (fun | (z, P) => (z ≤ n.toNat) ∧ (P = p2 n xs (upL n xs) z)) (fun | (z, P) => n.toNat - z) (0, (p1 n xs x)) [1, 3, 6, 7] none (by kernel_rfl) (by kernel_rfl) (by kernel_rfl) ⟨(by omega), (by exact p2_start (by omega))⟩ ?_)
    rintro ⟨z, P⟩ ⟨h14_1, rfl⟩ R11 N12
    have h2l := p2_len (xs := xs) hb0.2.1 hul z
    refine R.go 8 (R.cond ((z : Int) < n) (by kernel_rfl) (fun c15 => ?_) (fun c15 => ?_))
    · refine R.go 8 (R.loop ((fun | (k, Q) => (⟨(frm 90 [(1, .ptr 0 0), (3, .ref 1), (6, LI (upL n xs)), (7, AI (z : Int)), (8, AI (k : Int))]), [.box 29 [AI n, LI xs], rowA eLN 38 1 Q]⟩ : St) : Nat × (List (List (Int × Int))) → St)) (fun | (k, Q) => (k ≤ (upL n xs).length) ∧ (Q = p2 n xs (upL n xs) z ++ p2y n xs (upL n xs) z k)) (fun | (k, Q) => (upL n xs).length - k) (0, (p2 n xs (upL n xs) z)) [1, 3, 6, 7, 8] none (by kernel_rfl) (by kernel_rfl) (by kernel_rfl) ⟨(by omega), (by exact p2_in)⟩ ?_)
      rintro ⟨k, Q⟩ ⟨h19_1, rfl⟩ R16 N17
      have h2y := p2y_len n xs (upL n xs) z k
      refine R.go 8 (R.cond ((k : Int) < ((upL n xs).length : Int)) (by kernel_rfl) (fun c20 => ?_) (fun c20 => ?_))
      · have hb2 := hul2 k
        have hj2 := hjl ((upL n xs).getD k 0)
        have hb3 := hjj z k (by omega)
        have hj3 := hjl (jA n xs (xs.getD z 0) ((upL n xs).getD k 0))
        refine R.go 6 (R.call true (l02Var_c (z : Int)).frz (by kernel_rfl) rfl (by kernel_rfl) ?_)
        refine R.go 3 (R.idx eI (upL n xs) 0 k (k : Int) (by kernel_rfl) rfl eI_len (by omega) (by kernel_rfl) ?_)
        refine R.go 1 (R.call true (l21Join_c n xs ((upL n xs).getD k 0) hP (by first | assumption | exact jcM_in (by assumption) (by omega))).frz (by kernel_rfl) rfl (by kernel_rfl) ?_)
        refine R.call true (l02Pair_c 4 [(0, (z : Int))] (jnd n xs ((upL n xs).getD k 0)) (by first | omega | (simp only [List.length_cons, List.length_append, List.length_nil]; omega)) (by first | omega | (simp only [List.length_cons, List.length_append, List.length_nil]; omega))).frz (by kernel_rfl) rfl (by kernel_rfl) ?_
        refine R.go 10 (R.idx eI xs 0 z (z : Int) (by kernel_rfl) rfl eI_len (by omega) (by kernel_rfl) ?_)
        refine R.go 3 (R.idx eI (upL n xs) 0 k (k : Int) (by kernel_rfl) rfl eI_len (by omega) (by kernel_rfl) ?_)
        refine R.go 1 (R.call true (arrow3_c n xs (xs.getD z 0) ((upL n xs).getD k 0) (by assumption)) (by kernel_rfl) rfl (by kernel_rfl) ?_)
        refine R.call true (l21Join_c n xs (jA n xs (xs.getD z 0) ((upL n xs).getD k 0)) hP (by first | assumption | exact jcM_in (by assumption) (by omega))).frz (by kernel_rfl) rfl (by kernel_rfl) ?_
        refine R.call true (l21Both_c ((4, 0) :: ([(0, (z : Int))] ++ (jnd n xs ((upL n xs).getD k 0)))) (jnd n xs (jA n xs (xs.getD z 0) ((upL n xs).getD k 0))) (by first | omega | (simp only [List.length_cons, List.length_append, List.length_nil]; omega)) (by first | omega | (simp only [List.length_cons, List.length_append, List.length_nil]; omega))).frz (by kernel_rfl) rfl (by kernel_rfl) ?_
        refine R.app eLN (p2 n xs (upL n xs) z ++ p2y n xs (upL n xs) z k) (bothL ((4, 0) :: ([(0, (z : Int))] ++ (jnd n xs ((upL n xs).getD k 0)))) (jnd n xs (jA n xs (xs.getD z 0) ((upL n xs).getD k 0)))) 1 38 1 24 (by kernel_rfl) eLN_one (by decide) (by first | omega | (simp only [List.length_cons, List.length_append, List.length_nil, bothL_len]; omega)) (by kernel_rfl) ?_
        refine R.go 5 (R.ar ((k : Int) + 1) (by kernel_rfl) (by omega) (by omega) (by kernel_rfl) ?_)
        exact R.go 2 (R.stop R16 (by kernel_rfl) (N17 (k + 1, p2 n xs (upL n xs) z ++ p2y n xs (upL n xs) z k ++ (bothL ((4, 0) :: ([(0, (z : Int))] ++ (jnd n xs ((upL n xs).getD k 0)))) (jnd n xs (jA n xs (xs.getD z 0) ((upL n xs).getD k 0))))) [1, 3, 6, 7, 8] none _ (by kernel_rfl) (by kernel_rfl) ⟨(by omega), (by exact p2_step)⟩ (by show ((upL n xs).length - (k + 1)) < ((upL n xs).length - k); omega)))
      · refine R.go 4 (R.ar ((z : Int) + 1) (by kernel_rfl) (by omega) (by omega) (by kernel_rfl) ?_)
        exact R.go 2 (R.stop R11 (by kernel_rfl) (N12 (z + 1, p2 n xs (upL n xs) z ++ p2y n xs (upL n xs) z k) [1, 3, 6, 7] none _ (by kernel_rfl) (by kernel_rfl) ⟨(by omega), (by exact p2_out (by omega))⟩ (by show (n.toNat - (z + 1)) < (n.toNat - z); omega)))
    · exact R.go 6 (R.retE (ownA eLN 38 1 (p2 n xs (upL n xs) z)) (by kernel_rfl) (by kernel_rfl) (by first | (apply congrArg (ownA eLN _ 1); rw [show z = n.toNat by omega]; rfl) | (exfalso; omega)))

end Go.Proofs.YtalfakdiinhdnaaGreat


/-! Shows of both packages. -/
namespace Go.Proofs.YtalfakdiinhdnaaGreat
open Go.RowKit Go.Abs

theorem pe_app : ∀ {a l : List (Int × Int)} {k o : Nat}, pe k a = some a.length → pe (o + k) (a ++ l) = (pe o l).map (· + a.length)
  | [], l, k, o, h => by
    cases k with
    | zero => simp
    | succ k => cases h
  | x :: a, l, k, o, h => by
    cases k with
    | zero => rw [pe_zero] at h; simp at h
    | succ k =>
      rw [pe_succ] at h
      obtain ⟨n, h1, h2⟩ := Option.map_eq_some_iff.1 h
      have h3 : n = a.length := by simp at h2; omega
      subst h3
      have e1 : pe (o + (k + 1)) (x :: a ++ l) = (pe ((o + k) + partsN x.1) (a ++ l)).map (· + 1) := pe_succ (o + k) x (a ++ l)
      rw [e1, show o + k + partsN x.1 = o + (k + partsN x.1) by omega, pe_app h1, Option.map_map]
      congr 1
/-- A plain formula in the first six variables, with a bound of its length. -/
def GF (b : Nat) (a : List (Int × Int)) : Prop := pe 1 a = some a.length ∧ (∀ x ∈ a, 0 ≤ x.1 ∧ x.1 ≤ 4 ∧ (x.1 = 0 → 0 ≤ x.2 ∧ x.2 < 6)) ∧ a.length ≤ b
theorem gf_mono {b c : Nat} {a : List (Int × Int)} (h : GF b a) (hb : b ≤ c) : GF c a := ⟨h.1, h.2.1, by have := h.2.2; omega⟩
theorem gf_node {b c d : Nat} {k : Int} {p q : List (Int × Int)} (hk : k = 2 ∨ k = 3 ∨ k = 4) (hp : GF b p) (hq : GF c q) (hd : 1 + b + c ≤ d) : GF d ((k, 0) :: (p ++ q)) := by
  refine ⟨?_, fun x hx => ?_, by have := hp.2.2; have := hq.2.2; simp; omega⟩
  · have e : pe (0 + 1) ((k, 0) :: (p ++ q)) = (pe (0 + partsN k) (p ++ q)).map (· + 1) := pe_succ 0 _ _
    have e2 : pe (1 + 1) (p ++ q) = (pe 1 q).map (· + p.length) := pe_app hp.1
    rw [(partsN_two k).2 hk, show 0 + 2 = 1 + 1 by rfl, e2, hq.1] at e
    rw [show 1 = 0 + 1 by rfl, e]
    simp; omega
  · rcases List.mem_cons.1 hx with rfl | hx
    · exact ⟨by simp; omega, by simp; omega, fun h => by simp at h; omega⟩
    · rcases List.mem_append.1 hx with hx | hx
      · exact hp.2.1 x hx
      · exact hq.2.1 x hx
theorem gf_var {v : Int} (h0 : 0 ≤ v) (h5 : v < 6) : GF 1 [(0, v)] := ⟨rfl, fun x hx => by rw [List.mem_singleton] at hx; subst hx; exact ⟨Int.le_refl 0, (by decide : (0 : Int) ≤ 4), fun _ => ⟨h0, h5⟩⟩, Nat.le_refl _⟩
theorem gf_bot : GF 1 [(1, 0)] := ⟨rfl, fun x hx => by rw [List.mem_singleton] at hx; subst hx; exact ⟨by decide, by decide, fun h => by cases h⟩, Nat.le_refl _⟩
theorem gf_or {l : List (List (Int × Int))} (h : ∀ j : Nat, j < l.length → GF 1 (l.getD j [])) : ∀ i : Nat, 1 ≤ i → i ≤ l.length → GF (2 * i) (orT l i)
  | 0, h1, _ => absurd h1 (by omega)
  | 1, _, h2 => gf_mono (by rw [← orT_one]; exact h 0 (by omega)) (by omega)
  | i + 2, _, h2 => by
    rw [← orT_step (by omega)]
    exact gf_node (.inr (.inl rfl)) (gf_or h (i + 1) (by omega) (by omega)) (h (i + 1) (by omega)) (by omega)
theorem gf_jnd {n : Int} {xs : List Int} {m : Int} (h5 : n ≤ 5) : GF 12 (jnd n xs m) := by
  have hl := mnS_len xs m n.toNat n.toNat
  have hr := mnS_rng xs m n.toNat n.toNat
  unfold jnd
  by_cases h0 : (varL (mnS xs m n.toNat n.toNat)).length = 0
  · rw [← orAll_nil h0]; exact gf_mono gf_bot (by omega)
  · rw [← orAll_some h0 rfl]
    rw [varL_len] at h0 ⊢
    refine gf_mono (gf_or (fun j hj => ?_) _ (by omega) (by rw [varL_len]; omega)) (c := 12) (by omega)
    rw [varL_len] at hj
    rw [varL_get hj]
    have h1 := hr ((mnS xs m n.toNat n.toNat).getD j 0) (by rw [List.getD_eq_getElem?_getD, List.getElem?_eq_getElem hj]; exact List.getElem_mem _)
    exact gf_var h1.1 (by omega)
theorem gf_both {b c d : Nat} {p q : List (Int × Int)} (hp : GF b p) (hq : GF c q) (hd : 1 + b + c ≤ d) : ∀ a ∈ bothL p q, GF d a := by
  intro a ha
  simp only [bothL, List.mem_cons, List.not_mem_nil, or_false] at ha
  rcases ha with rfl | rfl
  · exact gf_node (.inr (.inr rfl)) hp hq hd
  · exact gf_node (.inr (.inr rfl)) hq hp (by omega)
theorem gf_con {x y : Nat} (hx : x < 6) (hy : y < 6) : GF 3 (conL x y) := gf_node (.inl rfl) (gf_var (by omega) (by omega)) (gf_var (by omega) (by omega)) (by omega)
theorem gf_imp {x b : Nat} {a : List (Int × Int)} (hx : x < 6) (ha : GF b a) : GF (b + 2) (impL x a) := gf_node (.inr (.inr rfl)) (gf_var (by omega) (by omega)) ha (by omega)
theorem gf_p1y {n : Int} {xs : List Int} {x : Nat} (h5 : n ≤ 5) (hx : x < n.toNat) : ∀ y : Nat, y ≤ n.toNat → ∀ a ∈ p1y n xs x y, GF 60 a
  | 0, _, a, ha => by simp [p1y] at ha
  | y + 1, hy, a, ha => by
    rw [p1y] at ha
    split at ha
    · rcases List.mem_append.1 ha with ha | ha
      · exact gf_p1y h5 hx y (by omega) a ha
      · exact gf_both (gf_con (by omega) (by omega)) (gf_jnd h5) (by omega) a ha
    · exact gf_p1y h5 hx y (by omega) a ha
theorem gf_p1 {n : Int} {xs : List Int} (h5 : n ≤ 5) (h0 : 0 ≤ rootX n xs) (hr : rootX n xs < n) : ∀ x : Nat, x ≤ n.toNat → ∀ a ∈ p1 n xs x, GF 60 a
  | 0, _, a, ha => by
    rw [p1, List.mem_singleton] at ha
    rw [ha]
    exact gf_mono (gf_var h0 (by omega)) (by omega)
  | x + 1, hx, a, ha => by
    rw [p1] at ha
    rcases List.mem_append.1 ha with ha | ha
    · exact gf_p1 h5 h0 hr x (by omega) a ha
    · exact gf_p1y h5 (by omega) _ (Nat.le_refl _) a ha
theorem gf_p2y {n : Int} {xs U : List Int} {x : Nat} (h5 : n ≤ 5) (hx : x < n.toNat) : ∀ y : Nat, ∀ a ∈ p2y n xs U x y, GF 60 a
  | 0, a, ha => by simp [p2y] at ha
  | y + 1, a, ha => by
    rw [p2y] at ha
    rcases List.mem_append.1 ha with ha | ha
    · exact gf_p2y h5 hx y a ha
    · exact gf_both (gf_imp (by omega) (gf_jnd h5)) (gf_jnd h5) (by omega) a ha
theorem gf_p2 {n : Int} {xs U : List Int} (h5 : n ≤ 5) (h0 : 0 ≤ rootX n xs) (hr : rootX n xs < n) : ∀ x : Nat, x ≤ n.toNat → ∀ a ∈ p2 n xs U x, GF 60 a
  | 0, _, a, ha => gf_p1 h5 h0 hr _ (Nat.le_refl _) a ha
  | x + 1, hx, a, ha => by
    rw [p2] at ha
    rcases List.mem_append.1 ha with ha | ha
    · exact gf_p2 h5 h0 hr x (by omega) a ha
    · exact gf_p2y h5 (by omega) _ a ha
theorem jk_len {n : Int} {xs : List Int} (h : okPo n xs = true) : (xs.length : Int) = n ∧ n ≤ 8 := by
  have := okFr_rel (okPo_fr h)
  exact ⟨this.2.2.1, this.2.1⟩
theorem jp_get {m : Int} {ys : List Int} (hP : okPo m ys = true) (h0 : 0 ≤ rootX m ys) (h5 : m ≤ 5) (i : Nat) (hi : i < (jpL m ys).length) : GF 60 ((jpL m ys).getD i []) := by
  rw [List.getD_eq_getElem?_getD, List.getElem?_eq_getElem hi]
  exact gf_p2 h5 h0 (rootX_lt (jk_len hP).1) _ (Nat.le_refl _) _ (List.getElem_mem _)
theorem jp_len {m : Int} {ys : List Int} (hP : okPo m ys = true) : (jpL m ys).length ≤ 5000 := by
  have h1 := jk_len hP
  have h2 := p2_len (xs := ys) h1.2 (upL_len hP) m.toNat
  unfold jpL
  omega
end Go.Proofs.YtalfakdiinhdnaaGreat


/-! The harness: rows of formulas. -/
namespace Go.Proofs.YtalfakdiinhdnaaGreat
open Go.RowKit Go.Abs

theorem eqNodeSS_c (a : List (List (Int × Int))) (b : List (List (Int × Int))) (la : a.length ≤ 1000000000) (lb : ∀ j : Nat, j < a.length → (a.getD j []).length ≤ 1000000000) : CallA Tryz.prog 11 [LLN a, LLN b] (.bool (decide (a = b))) := by
  refine CallA.of Tryz.func11 rfl (by kernel_rfl) ?_
  refine R.go 13 (R.condN ((a.length : Int) = (b.length : Int)) (by kernel_rfl) (fun c1 => ?_) (fun c1 => ?_))
  · exact R.go 4 (R.retE (.bool false) (by kernel_rfl) (by kernel_rfl) (by first | (first | (rw [dF (fun h => by subst h; omega)]) | (rw [dT (take_all (i := i) (by omega) (by omega) (by assumption))]) | (rw [dF (fun h => by subst h; exact absurd rfl (by assumption))])) | (exfalso; omega)))
  · refine R.go 7 (R.loop (fun (i : Nat) => (⟨(frm 27 [(0, LLN a), (1, LLN b), (5, AI (i : Int))]), []⟩ : St)) (fun (i : Nat) => (i ≤ a.length) ∧ (a.take i = b.take i)) (fun (i : Nat) => a.length - i) 0 [0, 1, 5] none (by kernel_rfl) (by kernel_rfl) (by kernel_rfl) ⟨(by omega), (by rfl)⟩ ?_)
    rintro i ⟨h4_1, h4_2⟩ R2 N3
    refine R.go 8 (R.cond ((i : Int) < (a.length : Int)) (by kernel_rfl) (fun c5 => ?_) (fun c5 => ?_))
    · have hgl := lb i (by omega)
      refine R.go 7 (R.idx eLN a [] i (i : Int) (by kernel_rfl) rfl eLN_len (by omega) (by kernel_rfl) ?_)
      refine R.go 3 (R.idx eLN b [] i (i : Int) (by kernel_rfl) rfl eLN_len (by omega) (by kernel_rfl) ?_)
      refine R.go 1 (R.call true (eqNodeS_c (a.getD i []) (b.getD i []) (by first | omega | (simp <;> omega))) (by kernel_rfl) rfl (by kernel_rfl) ?_)
      refine R.go 2 (R.condN ((a.getD i []) = (b.getD i [])) (by kernel_rfl) (fun c6 => ?_) (fun c6 => ?_))
      · exact R.go 4 (R.retE (.bool false) (by kernel_rfl) (by kernel_rfl) (by first | (first | (rw [dF (fun h => by subst h; omega)]) | (rw [dT (take_all (i := i) (by omega) (by omega) (by assumption))]) | (rw [dF (fun h => by subst h; exact absurd rfl (by assumption))])) | (exfalso; omega)))
      · refine R.go 4 (R.ar ((i : Int) + 1) (by kernel_rfl) (by omega) (by omega) (by kernel_rfl) ?_)
        exact R.go 2 (R.stop R2 (by kernel_rfl) (N3 (i + 1) [0, 1, 5] none _ (by kernel_rfl) (by kernel_rfl) ⟨(by omega), (by exact take_step a b [] i (by omega) (by omega) (by assumption) (by assumption))⟩ (by show (a.length - (i + 1)) < (a.length - i); omega)))
    · exact R.go 5 (R.retE (.bool true) (by kernel_rfl) (by kernel_rfl) (by first | (first | (rw [dF (fun h => by subst h; omega)]) | (rw [dT (take_all (i := i) (by omega) (by omega) (by assumption))]) | (rw [dF (fun h => by subst h; exact absurd rfl (by assumption))])) | (exfalso; omega)))

end Go.Proofs.YtalfakdiinhdnaaGreat


/-! Named slices: rows of one's own laid into rows; a named row taken back to be written; slots read by names. -/
namespace Go.Abs
open Go.RowKit

/-! ### Names -/
mutual
/-- u stands named in c, with a block that is read. -/
def InN (u : Value) : AV → Prop
  | .nam v o _ _ cs => (u = v ∧ (cs ≠ [] ∨ o ≠ none)) ∨ InNL u cs
  | .lst _ _ cs => InNL u cs
  | .clp _ _ cs => InNL u cs
  | .rptr cs => InNL u cs
  | .agg cs => InNL u cs
  | .tup cs => InNL u cs
  | .fn _ cs => InNL u cs
  | .int _ _ => False
  | .bool _ => False
  | .str _ => False
  | .nil => False
  | .ref _ => False
  | .ptr _ _ => False
  | .own _ _ _ _ => False
  | .top => False
def InNL (u : Value) : List AV → Prop
  | [] => False
  | c :: cs => InN u c ∨ InNL u cs
end

mutual
/-- Nothing is read but by a name. -/
def NoRaw : AV → Bool
  | .nam _ _ _ _ cs => NoRawL cs
  | .lst _ _ cs => cs.isEmpty
  | .clp _ _ cs => cs.isEmpty
  | .rptr _ => false
  | .agg cs => NoRawL cs
  | .tup cs => NoRawL cs
  | .fn _ cs => NoRawL cs
  | .int _ _ => true
  | .bool _ => true
  | .str _ => true
  | .nil => true
  | .ref _ => true
  | .ptr _ _ => true
  | .own _ _ _ _ => true
  | .top => true
def NoRawL : List AV → Bool
  | [] => true
  | c :: cs => NoRaw c && NoRawL cs
end

theorem inNL_iff {u : Value} : ∀ {cs : List AV}, InNL u cs ↔ ∃ c ∈ cs, InN u c
  | [] => by simp [InNL]
  | c :: cs => by rw [InNL, inNL_iff]; simp
theorem add_block' (a : Addr) (j : Nat) : (a.add j).block = a.block := by unfold Addr.add; split <;> rfl

section
variable {w : World}
mutual
/-- A name's block is there, and is not written. -/
theorem InN.of {Z : Nat → Prop} {μ : List Value} {u : Value} {g : Nat} (hg : blk u = some g) : ∀ {c : AV} {v : Value}, Rel w Z μ c v → InN u c → g < w.heap.size ∧ ¬ Z g
  | .nam v' o s n cs, v, h, hn => by
    simp only [Rel] at h
    simp only [InN] at hn
    obtain ⟨⟨h0, h00⟩, A, c, xs, h1, h2, h3, h4, h5⟩ := h
    rcases hn with ⟨rfl, hn⟩ | hn
    · subst h0
      by_cases ho : o = none
      · have hcs : cs ≠ [] := by
          rcases hn with hn | hn
          · exact hn
          · exact absurd ho hn
        have hx : xs ≠ [] := by
          intro e
          have h6 := h5.length
          rw [e] at h6
          exact hcs (List.eq_nil_of_length_eq_zero (by simpa using h6.symm))
        obtain ⟨ad, rfl, hz, hc⟩ := h4 hx
        rw [h1] at hg
        simp only [blk, Option.some.injEq] at hg
        subst hg
        cases xs with
        | nil => exact absurd rfl hx
        | cons y ys =>
          have h6 := World.block_lt_of_cell? w _ (hc 0 y rfl)
          rw [add_block'] at h6
          exact ⟨h6, hz⟩
      · cases o with
        | none => exact absurd rfl ho
        | some e =>
          obtain ⟨xs', hown, hz⟩ := h00 e rfl
          exact ⟨ownsRow_lt' hown hg, hz g hg⟩
    · exact InNL.of hg h5 hn
  | .lst s n cs, v, h, hn => by
    simp only [Rel] at h
    simp only [InN] at hn
    obtain ⟨A, c, xs, h1, h2, h3, h4, h5⟩ := h
    exact InNL.of hg h5 hn
  | .clp s n cs, v, h, hn => by
    simp only [Rel] at h
    simp only [InN] at hn
    obtain ⟨A, c, xs, h1, h2, h3, h4, h5⟩ := h
    exact InNL.of hg h5 hn
  | .rptr cs, v, h, hn => by
    simp only [Rel] at h
    simp only [InN] at hn
    obtain ⟨ad, xs, h1, h4, h5⟩ := h
    exact InNL.of hg h5 hn
  | .agg cs, v, h, hn => by
    simp only [Rel] at h
    simp only [InN] at hn
    obtain ⟨xs, h1, h5⟩ := h
    exact InNL.of hg h5 hn
  | .tup cs, v, h, hn => by
    simp only [Rel] at h
    simp only [InN] at hn
    obtain ⟨xs, h1, h5⟩ := h
    exact InNL.of hg h5 hn
  | .fn f cs, v, h, hn => by
    simp only [Rel] at h
    simp only [InN] at hn
    obtain ⟨xs, h1, h5⟩ := h
    exact InNL.of hg h5 hn
  | .int _ _, _, _, hn => by simp [InN] at hn
  | .bool _, _, _, hn => by simp [InN] at hn
  | .str _, _, _, hn => by simp [InN] at hn
  | .nil, _, _, hn => by simp [InN] at hn
  | .ref _, _, _, hn => by simp [InN] at hn
  | .ptr _ _, _, _, hn => by simp [InN] at hn
  | .own _ _ _ _, _, _, hn => by simp [InN] at hn
  | .top, _, _, hn => by simp [InN] at hn
theorem InNL.of {Z : Nat → Prop} {μ : List Value} {u : Value} {g : Nat} (hg : blk u = some g) : ∀ {cs : List AV} {vs : List Value}, RelL w Z μ cs vs → InNL u cs → g < w.heap.size ∧ ¬ Z g
  | [], _, _, hn => by simp [InNL] at hn
  | c :: cs, _, h, hn => by
    simp only [RelL] at h
    simp only [InNL] at hn
    obtain ⟨x, xs, rfl, h1, h2⟩ := h
    rcases hn with hn | hn
    · exact InN.of hg h1 hn
    · exact InNL.of hg h2 hn
end

mutual
/-- What does not read block g stays what it is where that may be written. -/
theorem Rel.thaw {Z Z' : Nat → Prop} {g : Option Nat} (hz : ∀ b, ¬ Z b → g ≠ some b → ¬ Z' b) : ∀ {μ μ' : List Value} (_ : ∀ (i : Nat) (u : Value), μ[i]? = some u → μ'[i]? = some u) {c : AV} {v : Value}, NoRaw c = true → (∀ u, InN u c → ∀ b, g = some b → blk u ≠ some b) → Rel w Z μ c v → Rel w Z' μ' c v
  | μ, μ', hm, .nam u o s n cs, v, hr, hn, h => by
    simp only [Rel] at h ⊢
    simp only [NoRaw] at hr
    obtain ⟨⟨h0, h00⟩, A, c, xs, h1, h2, h3, h4, h5⟩ := h
    refine ⟨⟨h0, fun e he => ?_⟩, A, c, xs, h1, h2, h3, fun hx => ?_, RelL.thaw hz (μ := []) (μ' := []) (fun _ _ h => h) hr (fun u' hu' => hn u' (by simp only [InN]; exact .inr hu')) h5⟩
    · obtain ⟨ys, k1, k2⟩ := h00 e he
      refine ⟨ys, k1, fun b hb => hz b (k2 b hb) (fun hgb => hn u (by rw [InN]; exact .inl ⟨rfl, .inr (by rw [he]; simp)⟩) b hgb (by rw [← h0]; exact hb))⟩
    · obtain ⟨ad, rfl, k1, k2⟩ := h4 hx
      refine ⟨ad, rfl, hz _ k1 (fun hgb => hn u (by rw [InN]; exact .inl ⟨rfl, .inl (fun e => hx (List.eq_nil_of_length_eq_zero (by have h6 := h5.length; rw [e] at h6; simpa using h6)))⟩) _ hgb (by rw [← h0, h1]; rfl)), k2⟩
  | μ, μ', hm, .lst s n cs, v, hr, hn, h => by
    simp only [Rel] at h ⊢
    simp only [NoRaw, List.isEmpty_iff] at hr
    subst hr
    obtain ⟨A, c, xs, h1, h2, h3, h4, h5⟩ := h
    rw [RelL] at h5
    subst h5
    exact ⟨A, c, [], h1, h2, h3, fun h => absurd rfl h, RelL.nil⟩
  | μ, μ', hm, .clp s n cs, v, hr, hn, h => by
    simp only [Rel] at h ⊢
    simp only [NoRaw, List.isEmpty_iff] at hr
    subst hr
    obtain ⟨A, c, xs, h1, h2, h3, h4, h5⟩ := h
    rw [RelL] at h5
    subst h5
    exact ⟨A, c, [], h1, h2, h3, fun h => absurd rfl h, RelL.nil⟩
  | μ, μ', hm, .rptr cs, v, hr, hn, h => by simp [NoRaw] at hr
  | μ, μ', hm, .agg cs, v, hr, hn, h => by
    simp only [Rel] at h ⊢
    simp only [NoRaw] at hr
    obtain ⟨xs, h1, h5⟩ := h
    exact ⟨xs, h1, RelL.thaw hz hm hr (fun u' hu' => hn u' (by simp only [InN]; exact hu')) h5⟩
  | μ, μ', hm, .tup cs, v, hr, hn, h => by
    simp only [Rel] at h ⊢
    simp only [NoRaw] at hr
    obtain ⟨xs, h1, h5⟩ := h
    exact ⟨xs, h1, RelL.thaw hz hm hr (fun u' hu' => hn u' (by simp only [InN]; exact hu')) h5⟩
  | μ, μ', hm, .fn f cs, v, hr, hn, h => by
    simp only [Rel] at h ⊢
    simp only [NoRaw] at hr
    obtain ⟨xs, h1, h5⟩ := h
    exact ⟨xs, h1, RelL.thaw hz hm hr (fun u' hu' => hn u' (by simp only [InN]; exact hu')) h5⟩
  | μ, μ', hm, .int _ _, _, _, _, h => by simpa [Rel] using h
  | μ, μ', hm, .bool _, _, _, _, h => by simpa [Rel] using h
  | μ, μ', hm, .str _, _, _, _, h => by simpa [Rel] using h
  | μ, μ', hm, .nil, _, _, _, h => by simpa [Rel] using h
  | μ, μ', hm, .ref i, v, _, _, h => by simp only [Rel] at h ⊢; exact hm i v h
  | μ, μ', hm, .ptr i o, v, _, _, h => by
    simp only [Rel] at h ⊢
    obtain ⟨u, g, h1, h2, h3⟩ := h
    exact ⟨u, g, hm i u h1, h2, h3⟩
  | μ, μ', hm, .own _ _ _ _, _, _, _, h => by simp [Rel] at h
  | μ, μ', hm, .top, _, _, _, h => by simp [Rel]
theorem RelL.thaw {Z Z' : Nat → Prop} {g : Option Nat} (hz : ∀ b, ¬ Z b → g ≠ some b → ¬ Z' b) : ∀ {μ μ' : List Value} (_ : ∀ (i : Nat) (u : Value), μ[i]? = some u → μ'[i]? = some u) {cs : List AV} {vs : List Value}, NoRawL cs = true → (∀ u, InNL u cs → ∀ b, g = some b → blk u ≠ some b) → RelL w Z μ cs vs → RelL w Z' μ' cs vs
  | μ, μ', hm, [], vs, _, _, h => by simpa [RelL] using h
  | μ, μ', hm, c :: cs, vs, hr, hn, h => by
    simp only [RelL] at h ⊢
    simp only [NoRawL, Bool.and_eq_true] at hr
    obtain ⟨x, xs, h1, h2, h3⟩ := h
    exact ⟨x, xs, h1, Rel.thaw hz hm hr.1 (fun u' hu' => hn u' (by simp only [InNL]; exact .inl hu')) h2, RelL.thaw hz hm hr.2 (fun u' hu' => hn u' (by simp only [InNL]; exact .inr hu')) h3⟩
end
end

/-- c reads nothing of v's block. -/
def Safe (v : Value) (c : AV) : Prop := NoRaw c = true ∧ ∀ u, InN u c → ∀ g, blk v = some g → blk u ≠ some g
def SafeL (v : Value) (cs : List AV) : Prop := NoRawL cs = true ∧ ∀ u, InNL u cs → ∀ g, blk v = some g → blk u ≠ some g
def SafeO (v : Value) : AObj → Prop
  | .box _ cs => SafeL v cs
  | .list _ _ _ cs => SafeL v cs
  | .frame _ cs => SafeL v cs
  | .dead => True
  | .inert (.base _) => True
  | .inert _ => False

theorem safeL_nil {v : Value} : SafeL v [] := ⟨rfl, fun u h => by simp [InNL] at h⟩
theorem safeL_cons {v : Value} {c : AV} {cs : List AV} : SafeL v (c :: cs) ↔ Safe v c ∧ SafeL v cs := by
  simp only [SafeL, Safe, NoRawL, Bool.and_eq_true, InNL]
  exact ⟨fun ⟨h1, h2⟩ => ⟨⟨h1.1, fun u hu => h2 u (.inl hu)⟩, h1.2, fun u hu => h2 u (.inr hu)⟩, fun ⟨h1, h2⟩ => ⟨⟨h1.1, h2.1⟩, fun u hu => hu.elim (h1.2 u) (h2.2 u)⟩⟩
theorem safeL_iff {v : Value} {cs : List AV} : SafeL v cs ↔ ∀ c ∈ cs, Safe v c := by
  induction cs with
  | nil => simp [safeL_nil]
  | cons c cs ih => rw [safeL_cons, ih]; simp

theorem safe_int {v : Value} {k : IntKind} {n : Int} : Safe v (.int k n) := ⟨rfl, fun u h => by simp [InN] at h⟩
theorem safe_bool {v : Value} {b : Bool} : Safe v (.bool b) := ⟨rfl, fun u h => by simp [InN] at h⟩
theorem safe_nil {v : Value} : Safe v .nil := ⟨rfl, fun u h => by simp [InN] at h⟩
theorem safe_ref {v : Value} {i : Nat} : Safe v (.ref i) := ⟨rfl, fun u h => by simp [InN] at h⟩
theorem safe_ptr {v : Value} {i o : Nat} : Safe v (.ptr i o) := ⟨rfl, fun u h => by simp [InN] at h⟩
theorem safe_top {v : Value} : Safe v .top := ⟨rfl, fun u h => by simp [InN] at h⟩
theorem safe_agg {v : Value} {cs : List AV} (h : SafeL v cs) : Safe v (.agg cs) := ⟨by simpa [NoRaw] using h.1, fun u hu => h.2 u (by simpa [InN] using hu)⟩
theorem safe_tup {v : Value} {cs : List AV} (h : SafeL v cs) : Safe v (.tup cs) := ⟨by simpa [NoRaw] using h.1, fun u hu => h.2 u (by simpa [InN] using hu)⟩
theorem safe_nam {v u : Value} {o : Option Nat} {s n : Nat} {cs : List AV} (h : SafeL v cs) (hu : ∀ g, blk v = some g → blk u ≠ some g) : Safe v (.nam u o s n cs) :=
  ⟨by simpa [NoRaw] using h.1, fun u' hu' => by
    simp only [InN] at hu'
    rcases hu' with ⟨rfl, _⟩ | hu'
    · exact hu
    · exact h.2 u' hu'⟩

/-- The owned row behind a name is what is read. -/
theorem own_read {w : World} {Z : Nat → Prop} {B e s n c : Nat} {v : Value} {A : Option Addr} {xs ys : List Value} (h : w.ownsRow B e s v n ys) (hv : v = .slice A n c) (hl : xs.length = n * s) (hr : Rd w Z A xs) : xs = ys := by
  have hl2 := h.1
  rcases h.2 with ⟨h1, rfl⟩ | ⟨g, cap, cur, h1, h2, h3, h4, h5, h6, h7⟩
  · simp at hl hl2
    rw [hl, hl2]
  · subst h1
    simp only [Value.slice.injEq] at hv
    obtain ⟨rfl, _, rfl⟩ := hv
    apply List.ext_getElem?
    intro j
    rcases Nat.lt_or_ge j (n * s) with hj | hj
    · obtain ⟨x, hx⟩ : ∃ x, xs[j]? = some x := ⟨_, List.getElem?_eq_getElem (by omega)⟩
      obtain ⟨ad, e1, _, e2⟩ := hr (by rintro rfl; simp at hx)
      cases e1
      have h8 := e2 j x hx
      rw [add_lit', Nat.zero_add, h.cellAt j hj] at h8
      rw [hx, h8]
    · rw [List.getElem?_eq_none (by omega), List.getElem?_eq_none (by omega)]

theorem ownsRow_from {w : World} {B B' e s n : Nat} {v : Value} {xs : List Value} (h : w.ownsRow B e s v n xs) (hg : ∀ g, blk v = some g → B' ≤ g) : w.ownsRow B' e s v n xs := by
  refine ⟨h.1, h.2.imp id ?_⟩
  rintro ⟨g, cap, cur, h1, h2, h3⟩
  exact ⟨g, cap, cur, h1, hg g (by rw [h1]; rfl), h3⟩

/-! ### One of several states -/
def SubE {ι : Type} (st : St) (st' : ι → St) (Φ : ι → Prop) : Prop := ∀ (Z0 : Nat → Prop) (w0 : World) (a : Act) (w : World), Sim Z0 w0 st a w → ∃ x, Φ x ∧ Sim Z0 w0 (st' x) a w

section
variable {rd : Option Nat} {P : Program} {m : M} {Q : Exit → St → Prop}
theorem R.subE {ι : Type} (st' : ι → St) (Φ : ι → Prop) (h : subOk m = true) (hs : SubE m.st st' Φ) (h' : ∀ x, Φ x → Runs rd P ⟨m.ks, st' x⟩ Q) : Runs rd P m Q := by
  obtain ⟨ks, st⟩ := m
  unfold subOk at h
  simp only [runs_iff] at h' ⊢
  try simp only at h hs h' ⊢
  split at h
  · intro Z0 w0 a w hS
    obtain ⟨x, hx, hS'⟩ := hs Z0 w0 a w hS
    exact h' x hx Z0 w0 a w hS'
  · intro _ Z0 w0 a w hS
    obtain ⟨x, hx, hS'⟩ := hs Z0 w0 a w hS
    exact h' x hx headW_false Z0 w0 a w hS'
  · cases h
end

/-! ### A row of one's own gets a name -/
/-- u stands named in the state. -/
def InS (u : Value) (st : St) : Prop := InNL u st.fr ∨ ∃ (j : Nat) (o : AObj), st.hp[j]? = some o ∧ InNL u o.cells

theorem InS.of {w : World} {Z : Nat → Prop} {B : Nat} {μ : List Value} {st : St} {vs : List Value} {u : Value} {g : Nat} (hH : HRel w Z B μ st.hp) (hF : RelL w Z μ st.fr vs) (hg : blk u = some g) (h : InS u st) : g < w.heap.size ∧ ¬ Z g := by
  rcases h with h | ⟨j, o, ho, h⟩
  · exact InNL.of hg hF h
  · have hjl : j < μ.length := by rw [hH.len]; exact (List.getElem?_eq_some_iff.1 ho).1
    obtain ⟨xs, hx, _⟩ := obj_cells (hH.obj j o _ ho (List.getElem?_eq_getElem hjl))
    exact InNL.of hg hx h

/-- What is told of a new name. -/
def NewN (st : St) (v : Value) : Prop :=
  (∀ u, InS u st → ∀ g, blk v = some g → blk u ≠ some g) ∧ ∀ (k b : Nat), st.hp[k]? = some (.inert (.base b)) → ∀ g, blk v = some g → b ≤ g

theorem SubE.pin (i e s n : Nat) (cs : List AV) (st : St) (hi : st.hp[i]? = some (.list e s n cs)) : SubE st (fun u => frzS i (.nam u (some e) s n cs) st) (NewN st) := by
  rintro Z0 w0 a w ⟨μ, F, hFb, hH, hF, hd, hb⟩
  have hil : i < μ.length := by rw [hH.len]; exact (List.getElem?_eq_some_iff.1 hi).1
  obtain ⟨u, hu⟩ : ∃ u, μ[i]? = some u := ⟨_, List.getElem?_eq_getElem hil⟩
  obtain ⟨xs, hown, hx⟩ := hH.obj i _ u hi hu
  have hge : ∀ g, blk u = some g → w0.heap.size ≤ g := fun g hg => ((hH.obj i _ u hi hu).blk_ge rfl hg).1
  refine ⟨u, ⟨fun u' hu' g hg hg' => (InS.of hH hF hg' hu').2 (hH.zone i _ u g hi rfl hu hg), fun k b hk g hg => ?_⟩, ?_⟩
  · have hkl : k < μ.length := by rw [hH.len]; exact (List.getElem?_eq_some_iff.1 hk).1
    have h1 := hH.obj k _ _ hk (List.getElem?_eq_getElem hkl)
    obtain ⟨_, rfl⟩ := h1
    exact hge g hg
  have hz : ∀ b, b < w.heap.size → ¬ Zone Z0 F w0.heap.size b → ¬ Zone Z0 (fun b => F b ∨ blk u = some b) w0.heap.size b := fun b _ h => zone_more b h
  have hr0 : Rel w (Zone Z0 (fun b => F b ∨ blk u = some b) w0.heap.size) μ (.lst s n cs) u := own_lst hown hx hz (fun g hg hzz => hzz.elim (fun h => by
    have := hge g hg
    omega) (fun h => h.2 (.inr hg)))
  have hr : Rel w (Zone Z0 (fun b => F b ∨ blk u = some b) w0.heap.size) μ (.nam u (some e) s n cs) u := by
    simp only [Rel] at hr0 ⊢
    refine ⟨⟨trivial, fun e' he' => ?_⟩, hr0⟩
    cases he'
    refine ⟨xs, ownsRow_from hown (fun _ _ => Nat.zero_le _), fun g hg hzz => ?_⟩
    exact hzz.elim (fun h => by
      have := hge g hg
      omega) (fun h => h.2 (.inr hg))
  refine ⟨μ, fun b => F b ∨ blk u = some b, fun b h => h.elim (hFb b) (fun h => (hH.obj i _ u hi hu).blk_ge rfl h), ?_, RelL.frz i _ u hz hu hr hF, hd.keep (fun j x hj => ⟨?_, fun u hu => hu⟩), hb⟩
  rotate_left
  · have hne : i ≠ j := by
      rintro rfl
      rw [hi] at hj
      cases hj
    show ((st.hp.map (AObj.frz i _)).set i .dead)[j]? = _
    rw [List.getElem?_set_ne hne, List.getElem?_map, hj]
    rfl
  have get : ∀ (j : Nat) o, ((st.hp.map (AObj.frz i (.nam u (some e) s n cs))).set i .dead)[j]? = some o → o = .dead ∨ (j ≠ i ∧ ∃ o', st.hp[j]? = some o' ∧ o = o'.frz i (.nam u (some e) s n cs)) := by
    intro j o ho
    by_cases hj : j = i
    · subst hj
      rw [List.getElem?_set_self (by simpa using (List.getElem?_eq_some_iff.1 hi).1)] at ho
      simp at ho
      exact .inl ho.symm
    · rw [List.getElem?_set_ne (Ne.symm hj), List.getElem?_map, Option.map_eq_some_iff] at ho
      obtain ⟨o', h1, rfl⟩ := ho
      exact .inr ⟨hj, o', h1, rfl⟩
  refine ⟨by simp [frzS, hH.len], fun j o v g h1 ha h2 hg => ?_, hH.one, fun j o v h1 h2 => ?_, fun j k oj ok uj uk g hne h1 h2 a1 a2 m1 m2 b1 b2 => ?_⟩
  · rcases get j o h1 with rfl | ⟨hj, o', ho, rfl⟩
    · cases ha
    · rw [AObj.frz_alive] at ha
      have h3 := hH.zone j o' v g ho ha h2 hg
      exact h3.elim .inl (fun h => .inr ⟨h.1, fun hf => hf.elim h.2 (fun h4 => hH.sep i j _ o' u v g (Ne.symm hj) hi ho rfl ha hu h2 h4 hg)⟩)
  · rcases get j o h1 with rfl | ⟨hj, o', ho, rfl⟩
    · trivial
    · have hO := hH.obj j o' v ho h2
      cases o' with
      | box t ds => obtain ⟨g, ys, e1, e2, e3, e4⟩ := hO; exact ⟨g, ys, e1, e2, e3, RelL.frz i _ u hz hu hr e4⟩
      | list e s n ds => obtain ⟨ys, e1, e2⟩ := hO; exact ⟨ys, e1, e2.weak hz⟩
      | dead => trivial
      | frame us ds => exact RelL.frz i _ u hz hu hr hO
      | inert x => exact InertRel.keep (fun b h1 h2 => ⟨rfl, hz b h1 h2⟩) hO
  · rcases get j oj h1 with rfl | ⟨hj, o1, ho1, rfl⟩
    · cases a1
    · rcases get k ok h2 with rfl | ⟨hk, o2, ho2, rfl⟩
      · cases a2
      · rw [AObj.frz_alive] at a1 a2
        exact hH.sep j k o1 o2 uj uk g hne ho1 ho2 a1 a2 m1 m2 b1 b2

section
variable {rd : Option Nat} {P : Program} {m : M} {Q : Exit → St → Prop}
theorem R.pin (i e s n : Nat) (cs : List AV) (h : subOk m = true) (hi : m.st.hp[i]? = some (.list e s n cs)) (h' : ∀ u, NewN m.st u → Runs rd P ⟨m.ks, frzS i (.nam u (some e) s n cs) m.st⟩ Q) : Runs rd P m Q :=
  R.subE _ _ h (SubE.pin i e s n cs m.st hi) h'
end

/-! ### Objects told otherwise -/
theorem HRel.swap {w : World} {Z : Nat → Prop} {B : Nat} {μ : List Value} {hp : List AObj} {i : Nat} {o o' : AObj} (h : HRel w Z B μ hp) (hi : hp[i]? = some o) (ha : o'.alive = true → o.alive = true) (ho : ∀ u, μ[i]? = some u → ObjRel w Z μ B u o → ObjRel w Z μ B u o') : HRel w Z B μ (hp.set i o') := by
  have hil := (List.getElem?_eq_some_iff.1 hi).1
  have get : ∀ (j : Nat) oj, (hp.set i o')[j]? = some oj → (j = i ∧ oj = o') ∨ (j ≠ i ∧ hp[j]? = some oj) := by
    intro j oj hj
    by_cases hji : j = i
    · subst hji
      rw [List.getElem?_set_self hil] at hj
      simp at hj
      exact .inl ⟨rfl, hj.symm⟩
    · rw [List.getElem?_set_ne (Ne.symm hji)] at hj
      exact .inr ⟨hji, hj⟩
  have old : ∀ (j : Nat) oj, (hp.set i o')[j]? = some oj → ∃ o1, hp[j]? = some o1 ∧ (oj.alive = true → o1.alive = true) := by
    intro j oj hj
    rcases get j oj hj with ⟨rfl, rfl⟩ | ⟨_, h1⟩
    · exact ⟨o, hi, ha⟩
    · exact ⟨oj, h1, id⟩
  refine ⟨by simpa using h.len, fun j oj u g h1 h2 h3 hg => ?_, h.one, fun j oj u h1 h2 => ?_, fun j k oj ok uj uk g hne h1 h2 a1 a2 m1 m2 b1 b2 => ?_⟩
  · obtain ⟨o1, e1, f1⟩ := old j oj h1
    exact h.zone j o1 u g e1 (f1 h2) h3 hg
  · rcases get j oj h1 with ⟨rfl, rfl⟩ | ⟨_, e1⟩
    · exact ho u h2 (h.obj j o u hi h2)
    · exact h.obj j oj u e1 h2
  · obtain ⟨o1, e1, f1⟩ := old j oj h1
    obtain ⟨o2, e2, f2⟩ := old k ok h2
    exact h.sep j k o1 o2 uj uk g hne e1 e2 (f1 a1) (f2 a2) m1 m2 b1 b2

/-! ### A named row taken back -/
/-- The name alone: nothing is read. -/
def weakN (v : Value) (n : Nat) : AV := .nam v none 0 n []

theorem weakN_of {w : World} {Z Z' : Nat → Prop} {μ μ' : List Value} {v x : Value} {o : Option Nat} {s n : Nat} {cs : List AV} (h : Rel w Z μ (.nam v o s n cs) x) : Rel w Z' μ' (weakN v n) x := by
  simp only [Rel, weakN] at h ⊢
  obtain ⟨⟨h0, _⟩, A, c, xs, h1, h2, h3, h4, h5⟩ := h
  exact ⟨⟨h0, fun e he => by cases he⟩, A, c, [], h1, by simp, h3, fun h => absurd rfl h, RelL.nil⟩

def thawS (j p t e s n : Nat) (v : Value) (cs : List AV) (el s1 n1 : Nat) (cells : List AV) (st : St) : St :=
  ⟨st.fr.set t (.ref st.hp.length), st.hp.set j (.list el s1 n1 (cells.set p (weakN v n))) ++ [.list e s n cs, .frame [v] [.ref st.hp.length]]⟩

theorem Sub.thaw (j p t k e s n el s1 n1 b : Nat) (v : Value) (cs cells : List AV) (st : St) (hj : st.hp[j]? = some (.list el s1 n1 cells)) (hp : cells[p]? = some (.nam v (some e) s n cs)) (ht : st.fr[t]? = some (.nam v (some e) s n cs)) (hcs : closedL cs = true)
    (hk : st.hp[k]? = some (.inert (.base b))) (hge : ∀ g, blk v = some g → b ≤ g) (hfr : ∀ i c, st.fr[i]? = some c → i ≠ t → Safe v c) (hcell : ∀ q c, cells[q]? = some c → q ≠ p → Safe v c) (hoth : ∀ i o, st.hp[i]? = some o → i ≠ j → SafeO v o) :
    Sub st (thawS j p t e s n v cs el s1 n1 cells st) := by
  rintro Z0 w0 a w ⟨μ, F, hFb, hH, hF, hd, hb⟩
  have hjl := (List.getElem?_eq_some_iff.1 hj).1
  obtain ⟨x, hx, hrx⟩ := hF.get ht
  simp only [Rel] at hrx
  obtain ⟨⟨rfl, h00⟩, A, c, xs, h1, h2, h3, h4, h5⟩ := hrx
  obtain ⟨ys, hown, hyz⟩ := h00 e rfl
  have hxy : xs = ys := own_read hown h1 (by rw [h5.length, h2]) h4
  subst hxy
  have hB : ∀ g, blk x = some g → w0.heap.size ≤ g := fun g hg => by
    have hkl : k < μ.length := by rw [hH.len]; exact (List.getElem?_eq_some_iff.1 hk).1
    have h1 := hH.obj k _ _ hk (List.getElem?_eq_getElem hkl)
    obtain ⟨_, rfl⟩ := h1
    exact hge g hg
  have hz : ∀ b, ¬ Zone Z0 F w0.heap.size b → blk x ≠ some b → ¬ Zone Z0 (fun b => F b ∧ blk x ≠ some b) w0.heap.size b := fun b h1 h2 hzz => h1 (hzz.elim .inl (fun h => .inr ⟨h.1, fun hf => h.2 ⟨hf, h2⟩⟩))
  have hzz : ∀ b, Zone Z0 F w0.heap.size b → Zone Z0 (fun b => F b ∧ blk x ≠ some b) w0.heap.size b := fun b h => h.elim .inl (fun h => .inr ⟨h.1, fun hf => h.2 hf.1⟩)
  have hm : ∀ (i : Nat) (u : Value), μ[i]? = some u → (μ ++ [x, .bool false])[i]? = some u := fun i u h => append_old i u h
  have hml : (μ ++ [x, .bool false])[st.hp.length]? = some x := by rw [← hH.len]; simp
  have hSc : ∀ {μ1 μ2 : List Value}, (∀ (i : Nat) (u : Value), μ1[i]? = some u → μ2[i]? = some u) → ∀ {c : AV} {v : Value}, Safe x c → Rel w (Zone Z0 F w0.heap.size) μ1 c v → Rel w (Zone Z0 (fun b => F b ∧ blk x ≠ some b) w0.heap.size) μ2 c v := fun hm _ _ hs hr => Rel.thaw (g := blk x) hz hm hs.1 hs.2 hr
  have hSl : ∀ {μ1 μ2 : List Value}, (∀ (i : Nat) (u : Value), μ1[i]? = some u → μ2[i]? = some u) → ∀ {c : List AV} {v : List Value}, SafeL x c → RelL w (Zone Z0 F w0.heap.size) μ1 c v → RelL w (Zone Z0 (fun b => F b ∧ blk x ≠ some b) w0.heap.size) μ2 c v := fun hm _ _ hs hr => RelL.thaw (g := blk x) hz hm hs.1 hs.2 hr
  refine ⟨μ ++ [x, .bool false], fun b => F b ∧ blk x ≠ some b, fun b h => hFb b h.1, ?_, ?_, hd.keep (fun i y hi => ⟨?_, fun u hu => hm i u hu⟩), hb⟩
  rotate_left
  · refine relL_of_get (by rw [hF.length]; simp [thawS]) (fun i c y hi hy => ?_)
    simp only [thawS] at hi
    by_cases hit : i = t
    · subst hit
      rw [List.getElem?_set_self (List.getElem?_eq_some_iff.1 ht).1] at hi
      simp only [Option.some.injEq] at hi
      subst hi
      rw [hx] at hy
      cases hy
      simp only [Rel]
      exact hml
    · rw [List.getElem?_set_ne (Ne.symm hit)] at hi
      obtain ⟨y', hy', hr⟩ := hF.get hi
      rw [hy] at hy'
      cases hy'
      exact hSc hm (hfr i c hi hit) hr
  · have hne : j ≠ i := by
      rintro rfl
      rw [hj] at hi
      cases hi
    simp only [thawS]
    rw [List.getElem?_append_left (by simpa using (List.getElem?_eq_some_iff.1 hi).1), List.getElem?_set_ne hne]
    exact hi
  -- objects
  have get : ∀ (i : Nat) o u, (thawS j p t e s n x cs el s1 n1 cells st).hp[i]? = some o → (μ ++ [x, .bool false])[i]? = some u →
      (i ≠ j ∧ st.hp[i]? = some o ∧ μ[i]? = some u) ∨ (i = j ∧ o = .list el s1 n1 (cells.set p (weakN x n)) ∧ μ[i]? = some u) ∨ (i = st.hp.length ∧ o = .list e s n cs ∧ u = x) ∨ (i = st.hp.length + 1 ∧ o = .frame [x] [.ref st.hp.length] ∧ u = .bool false) := by
    intro i o u h1 h2
    simp only [thawS] at h1
    rcases Nat.lt_or_ge i st.hp.length with hi | hi
    · rw [List.getElem?_append_left (by simpa using hi)] at h1
      rw [List.getElem?_append_left (by rw [hH.len]; exact hi)] at h2
      by_cases hij : i = j
      · subst hij
        rw [List.getElem?_set_self hi] at h1
        simp only [Option.some.injEq] at h1
        exact .inr (.inl ⟨rfl, h1.symm, h2⟩)
      · rw [List.getElem?_set_ne (Ne.symm hij)] at h1
        exact .inl ⟨hij, h1, h2⟩
    · rw [List.getElem?_append_right (by simpa using hi)] at h1
      rw [List.getElem?_append_right (by rw [hH.len]; exact hi), hH.len] at h2
      simp only [List.length_set] at h1
      rcases Nat.lt_trichotomy (i - st.hp.length) 1 with h | h | h
      · have h0 : i - st.hp.length = 0 := by omega
        rw [h0] at h1 h2
        simp at h1 h2
        exact .inr (.inr (.inl ⟨by omega, h1.symm, h2.symm⟩))
      · rw [h] at h1 h2
        simp at h1 h2
        exact .inr (.inr (.inr ⟨by omega, h1.symm, h2.symm⟩))
      · rw [List.getElem?_eq_none (by simp; omega)] at h1
        cases h1
  have old : ∀ (i : Nat) o u, (thawS j p t e s n x cs el s1 n1 cells st).hp[i]? = some o → (μ ++ [x, .bool false])[i]? = some u → o.alive = true → (∃ o', st.hp[i]? = some o' ∧ o'.alive = true ∧ μ[i]? = some u) ∨ (i = st.hp.length ∧ u = x) := by
    intro i o u h1 h2 ha
    rcases get i o u h1 h2 with ⟨_, e1, e2⟩ | ⟨rfl, rfl, e2⟩ | ⟨e1, rfl, e2⟩ | ⟨_, rfl, _⟩
    · exact .inl ⟨o, e1, ha, e2⟩
    · exact .inl ⟨_, hj, rfl, e2⟩
    · exact .inr ⟨e1, e2⟩
    · cases ha
  refine ⟨by simp [thawS, hH.len], fun i o u g h1 ha h2 hg => ?_, fun i u hu => ?_, fun i o u h1 h2 => ?_, fun i i2 o o2 u u2 g hne h1 h2 a1 a2 m1 m2 b1 b2 => ?_⟩
  · rcases old i o u h1 h2 ha with ⟨o', e1, e2, e3⟩ | ⟨_, rfl⟩
    · exact hzz g (hH.zone i o' u g e1 e2 e3 hg)
    · exact .inr ⟨hB g hg, fun hf => hf.2 hg⟩
  · rcases Nat.lt_or_ge i μ.length with hi | hi
    · rw [List.getElem?_append_left hi] at hu
      exact hH.one i u hu
    · rw [List.getElem?_append_right hi] at hu
      rcases Nat.lt_trichotomy (i - μ.length) 1 with h | h | h
      · have h0 : i - μ.length = 0 := by omega
        rw [h0] at hu
        simp at hu
        subst hu
        rw [h1]; rfl
      · rw [h] at hu
        simp at hu
        subst hu
        rfl
      · rw [List.getElem?_eq_none (by simp; omega)] at hu
        cases hu
  · rcases get i o u h1 h2 with ⟨hij, e1, e2⟩ | ⟨rfl, rfl, e2⟩ | ⟨_, rfl, rfl⟩ | ⟨_, rfl, rfl⟩
    · have hO := hH.obj i o u e1 e2
      have hs := hoth i o e1 hij
      cases o with
      | box t ds => obtain ⟨g, zs, e1, e2, e3, e4⟩ := hO; exact ⟨g, zs, e1, e2, e3, hSl hm hs e4⟩
      | list e s n ds => obtain ⟨zs, e1, e2⟩ := hO; exact ⟨zs, e1, hSl (fun _ _ h => h) hs e2⟩
      | dead => trivial
      | frame us ds => exact hSl hm hs hO
      | inert y =>
        cases y with
        | base b' => exact hO
        | mark D => exact hs.elim
        | lrec D s us ps asg bd => exact hs.elim
    · obtain ⟨zs, e1, e3⟩ := hH.obj i _ u hj e2
      refine ⟨zs, e1, relL_of_get (by rw [e3.length]; simp) (fun q c y hq hy => ?_)⟩
      by_cases hqp : q = p
      · subst hqp
        rw [List.getElem?_set_self (List.getElem?_eq_some_iff.1 hp).1] at hq
        simp only [Option.some.injEq] at hq
        subst hq
        obtain ⟨y', hy', hr⟩ := e3.get hp
        rw [hy] at hy'
        cases hy'
        exact weakN_of hr
      · rw [List.getElem?_set_ne (Ne.symm hqp)] at hq
        obtain ⟨y', hy', hr⟩ := e3.get hq
        rw [hy] at hy'
        cases hy'
        exact hSc (fun _ _ h => h) (hcell q c hq hqp) hr
    · exact ⟨xs, ownsRow_from hown hB, RelL.shut hcs h5⟩
    · exact RelL.cons (by simp only [Rel]; exact hml) RelL.nil
  · rcases old i o u h1 m1 a1 with ⟨o', e1, e2, e3⟩ | ⟨e1, rfl⟩ <;> rcases old i2 o2 u2 h2 m2 a2 with ⟨o2', f1, f2, f3⟩ | ⟨f1, rfl⟩
    · exact hH.sep i i2 o' o2' u u2 g hne e1 f1 e2 f2 e3 f3 b1 b2
    · exact hyz g b2 (hH.zone i o' u g e1 e2 e3 b1)
    · exact hyz g b1 (hH.zone i2 o2' u2 g f1 f2 f3 b2)
    · omega

def pinS (j p k e s n : Nat) (v : Value) (cs : List AV) (el s1 n1 : Nat) (cells : List AV) (st : St) : St :=
  ⟨(frzS k (.nam v (some e) s n cs) st).fr, ((frzS k (.nam v (some e) s n cs) st).hp.set j (.list el s1 n1 (cells.set p (.nam v (some e) s n cs)))).set (k + 1) .dead⟩

theorem Sub.repin (j p k e s n el s1 n1 n0 : Nat) (v : Value) (cs cells : List AV) (st : St) (hj : st.hp[j]? = some (.list el s1 n1 cells)) (hp : cells[p]? = some (weakN v n0)) (hk : st.hp[k]? = some (.list e s n cs)) (hk1 : st.hp[k + 1]? = some (.frame [v] [.ref k])) (hjk : j ≠ k) :
    Sub st (pinS j p k e s n v cs el s1 n1 cells st) := by
  intro Z0 w0 a w hS
  obtain ⟨u, _, μ, F, hFb, hH, hF, hd, hb⟩ := SubE.pin k e s n cs st hk Z0 w0 a w hS
  have hml : μ.length = (frzS k (.nam u (some e) s n cs) st).hp.length := hH.len
  have hkl := (List.getElem?_eq_some_iff.1 hk1).1
  have hjl := (List.getElem?_eq_some_iff.1 hj).1
  have hL : (frzS k (.nam u (some e) s n cs) st).hp.length = st.hp.length := by simp [frzS]
  have hfr : (frzS k (.nam u (some e) s n cs) st).hp[k + 1]? = some (.frame [v] [.nam u (some e) s n cs]) := by
    simp only [frzS]
    rw [List.getElem?_set_ne (by omega), List.getElem?_map, hk1]
    simp [AObj.frz, frzL, frzV]
  have hjj : (frzS k (.nam u (some e) s n cs) st).hp[j]? = some (.list el s1 n1 cells) := by
    simp only [frzS]
    rw [List.getElem?_set_ne (Ne.symm hjk), List.getElem?_map, hj]
    rfl
  have hO := hH.obj (k + 1) _ _ hfr (List.getElem?_eq_getElem (by omega))
  obtain ⟨y, ys, hy, hr, hys⟩ := hO
  cases hy
  have huv : v = u := by
    have h2 := hr
    simp only [Rel] at h2
    exact h2.1.1
  subst huv
  have hr0 := Rel.leafy (by rfl) hr
  refine ⟨μ, F, hFb, ?_, hF, hd.keep (fun i x hi => ⟨?_, fun u hu => hu⟩), hb⟩
  · have h1 := hH.swap (i := j) (o' := .list el s1 n1 (cells.set p (.nam v (some e) s n cs))) hjj (fun _ => rfl) (fun u hu hO => ?_)
    · exact h1.swap (i := k + 1) (o' := .dead) (o := .frame [v] [.nam v (some e) s n cs]) (by rw [List.getElem?_set_ne (by rintro rfl; rw [hfr] at hjj; cases hjj)]; exact hfr) (fun h => by cases h) (fun _ _ _ => trivial)
    · obtain ⟨zs, e1, e3⟩ := hO
      refine ⟨zs, e1, relL_of_get (by rw [e3.length]; simp) (fun q c y hq hy => ?_)⟩
      by_cases hqp : q = p
      · subst hqp
        rw [List.getElem?_set_self (List.getElem?_eq_some_iff.1 hp).1] at hq
        simp only [Option.some.injEq] at hq
        subst hq
        obtain ⟨y', hy', hr2⟩ := e3.get hp
        rw [hy] at hy'
        cases hy'
        have h3 := hr2
        simp only [weakN, Rel] at h3
        rw [h3.1.1]
        exact hr0
      · rw [List.getElem?_set_ne (Ne.symm hqp)] at hq
        obtain ⟨y', hy', hr⟩ := e3.get hq
        rw [hy] at hy'
        cases hy'
        exact hr
  · have h1 : j ≠ i := by rintro rfl; rw [hjj] at hi; cases hi
    have h2 : k + 1 ≠ i := by rintro rfl; rw [hfr] at hi; cases hi
    simp only [pinS]
    rw [List.getElem?_set_ne h2, List.getElem?_set_ne h1]
    exact hi

section
variable {rd : Option Nat} {P : Program} {m : M} {Q : Exit → St → Prop}
theorem R.thaw (j p t k e s n el s1 n1 b : Nat) (v : Value) (cs cells : List AV) (h : subOk m = true) (hj : m.st.hp[j]? = some (.list el s1 n1 cells)) (hp : cells[p]? = some (.nam v (some e) s n cs)) (ht : m.st.fr[t]? = some (.nam v (some e) s n cs)) (hcs : closedL cs = true)
    (hk : m.st.hp[k]? = some (.inert (.base b))) (hge : ∀ g, blk v = some g → b ≤ g) (hfr : SafeL v (m.st.fr.set t .top)) (hcell : ∀ q c, cells[q]? = some c → q ≠ p → Safe v c) (hoth : ∀ o ∈ m.st.hp.set j .dead, SafeO v o)
    (h' : Runs rd P ⟨m.ks, thawS j p t e s n v cs el s1 n1 cells m.st⟩ Q) : Runs rd P m Q :=
  R.sub _ h (Sub.thaw j p t k e s n el s1 n1 b v cs cells m.st hj hp ht hcs hk hge (fun i c hi hit => safeL_iff.1 hfr c (List.mem_of_getElem? (i := i) (by rw [List.getElem?_set_ne (Ne.symm hit)]; exact hi))) hcell
    (fun i o hi hij => hoth o (List.mem_of_getElem? (i := i) (by rw [List.getElem?_set_ne (Ne.symm hij)]; exact hi)))) h'

theorem R.repin (j p k e s n el s1 n1 n0 : Nat) (v : Value) (cs cells : List AV) (h : subOk m = true) (hj : m.st.hp[j]? = some (.list el s1 n1 cells)) (hp : cells[p]? = some (weakN v n0)) (hk : m.st.hp[k]? = some (.list e s n cs)) (hk1 : m.st.hp[k + 1]? = some (.frame [v] [.ref k])) (hjk : j ≠ k)
    (h' : Runs rd P ⟨m.ks, pinS j p k e s n v cs el s1 n1 cells m.st⟩ Q) : Runs rd P m Q :=
  R.sub _ h (Sub.repin j p k e s n el s1 n1 n0 v cs cells m.st hj hp hk hk1 hjk) h'
end

/-! ### A slot read by names -/
mutual
def nameable : AV → Bool
  | .lst _ _ cs => nameableL cs
  | .agg cs => nameableL cs
  | .int _ _ => true
  | .bool _ => true
  | .nil => true
  | .nam _ _ _ _ _ => false
  | .clp _ _ _ => false
  | .rptr _ => false
  | .tup _ => false
  | .fn _ _ => false
  | .str _ => true
  | .ref _ => false
  | .ptr _ _ => false
  | .own _ _ _ _ => false
  | .top => true
def nameableL : List AV → Bool
  | [] => true
  | c :: cs => nameable c && nameableL cs
end

/-- c' is c, read by names. -/
structure ByN (c' c : AV) : Prop where
  leafy : c'.leafy = true
  raw : NoRaw c' = true
  fgt : ∀ (w : World) (Z : Nat → Prop) v, Rel w Z [] c' v → Rel w Z [] c v

structure ByNL (c' c : List AV) : Prop where
  leafy : leafyL c' = true
  raw : NoRawL c' = true
  fgt : ∀ (w : World) (Z : Nat → Prop) v, RelL w Z [] c' v → RelL w Z [] c v

mutual
theorem name_of {w : World} {Z : Nat → Prop} : ∀ {c : AV} {v : Value}, nameable c = true → Rel w Z [] c v → ∃ c', ByN c' c ∧ Rel w Z [] c' v
  | .lst s n cs, v, h, hr => by
    simp only [nameable] at h
    simp only [Rel] at hr
    obtain ⟨A, c, xs, h1, h2, h3, h4, h5⟩ := hr
    obtain ⟨cs', ⟨k1, k2, k3⟩, k4⟩ := nameL_of h h5
    refine ⟨.nam v none s n cs', ⟨rfl, by simpa [NoRaw] using k2, fun w Z x hx => ?_⟩, ?_⟩
    · simp only [Rel] at hx ⊢
      obtain ⟨_, A, c, xs', e1, e2, e3, e4, e5⟩ := hx
      exact ⟨A, c, xs', e1, by rw [← h2, ← h5.length, k4.length, e2, ← e2, ← k4.length, h5.length, h2] , e3, e4, k3 _ _ _ e5⟩
    · simp only [Rel]
      exact ⟨⟨trivial, fun e he => by cases he⟩, A, c, xs, h1, by rw [← k4.length, h5.length, h2], h3, h4, k4⟩
  | .agg cs, v, h, hr => by
    simp only [nameable] at h
    simp only [Rel] at hr
    obtain ⟨xs, h1, h5⟩ := hr
    obtain ⟨cs', ⟨k1, k2, k3⟩, k4⟩ := nameL_of h h5
    refine ⟨.agg cs', ⟨by simpa [AV.leafy] using k1, by simpa [NoRaw] using k2, fun w Z x hx => ?_⟩, ?_⟩
    · simp only [Rel] at hx ⊢
      obtain ⟨xs', e1, e5⟩ := hx
      exact ⟨xs', e1, k3 _ _ _ e5⟩
    · simp only [Rel]
      exact ⟨xs, h1, k4⟩
  | .int k n, v, _, hr => ⟨.int k n, ⟨rfl, rfl, fun _ _ _ h => h⟩, hr⟩
  | .bool b, v, _, hr => ⟨.bool b, ⟨rfl, rfl, fun _ _ _ h => h⟩, hr⟩
  | .str b, v, _, hr => ⟨.str b, ⟨rfl, rfl, fun _ _ _ h => h⟩, hr⟩
  | .nil, v, _, hr => ⟨.nil, ⟨rfl, rfl, fun _ _ _ h => h⟩, hr⟩
  | .top, v, _, hr => ⟨.top, ⟨rfl, rfl, fun _ _ _ h => h⟩, hr⟩
  | .nam _ _ _ _ _, _, h, _ => by simp [nameable] at h
  | .clp _ _ _, _, h, _ => by simp [nameable] at h
  | .rptr _, _, h, _ => by simp [nameable] at h
  | .tup _, _, h, _ => by simp [nameable] at h
  | .fn _ _, _, h, _ => by simp [nameable] at h
  | .ref _, _, h, _ => by simp [nameable] at h
  | .ptr _ _, _, h, _ => by simp [nameable] at h
  | .own _ _ _ _, _, h, _ => by simp [nameable] at h
theorem nameL_of {w : World} {Z : Nat → Prop} : ∀ {c : List AV} {v : List Value}, nameableL c = true → RelL w Z [] c v → ∃ c', ByNL c' c ∧ RelL w Z [] c' v
  | [], v, _, hr => ⟨[], ⟨rfl, rfl, fun _ _ _ h => h⟩, hr⟩
  | c :: cs, v, h, hr => by
    simp only [nameableL, Bool.and_eq_true] at h
    simp only [RelL] at hr
    obtain ⟨x, xs, rfl, h1, h2⟩ := hr
    obtain ⟨c', ⟨k1, k2, k3⟩, k4⟩ := name_of h.1 h1
    obtain ⟨cs', ⟨l1, l2, l3⟩, l4⟩ := nameL_of h.2 h2
    refine ⟨c' :: cs', ⟨by simp [leafyL, k1, l1], by simp [NoRawL, k2, l2], fun w Z v hv => ?_⟩, RelL.cons k4 l4⟩
    simp only [RelL] at hv ⊢
    obtain ⟨x, xs, e1, e2, e3⟩ := hv
    exact ⟨x, xs, e1, k3 _ _ _ e2, l3 _ _ _ e3⟩
end

theorem SubE.name (t : Nat) (c : AV) (st : St) (ht : st.fr[t]? = some c) (hn : nameable c = true) (hl : c.leafy = true) : SubE st (fun c' => ⟨st.fr.set t c', st.hp⟩) (fun c' => ByN c' c) := by
  rintro Z0 w0 a w ⟨μ, F, hFb, hH, hF, hd, hb⟩
  obtain ⟨x, hx, hr⟩ := hF.get ht
  obtain ⟨c', h1, h2⟩ := name_of hn (Rel.leafy hl hr)
  refine ⟨c', h1, μ, F, hFb, hH, ?_, hd, hb⟩
  have h3 := hF.set t h2.lift
  rwa [show a.tmps.toList.set t x = a.tmps.toList by
    apply List.ext_getElem?
    intro i
    by_cases hi : i = t
    · subst hi; rw [List.getElem?_set_self (List.getElem?_eq_some_iff.1 hx).1, hx]
    · rw [List.getElem?_set_ne (Ne.symm hi)]] at h3

section
variable {rd : Option Nat} {P : Program} {m : M} {Q : Exit → St → Prop}
theorem R.name (t : Nat) (c : AV) (h : subOk m = true) (ht : m.st.fr[t]? = some c) (hn : nameable c = true) (hl : c.leafy = true) (h' : ∀ c', ByN c' c → Runs rd P ⟨m.ks, ⟨m.st.fr.set t c', m.st.hp⟩⟩ Q) : Runs rd P m Q :=
  R.subE _ _ h (SubE.name t c m.st ht hn hl) h'
end

end Go.Abs


/-! Calls of which only what holds behind them is told (draws). -/
namespace Go.Abs
open Go.RowKit Go.ChangeShapes Go.WideShapes Go.Deep

/-- A call by reference: behind it the objects and the result are some of those that Φ tells. -/
def CallX (P : Program) (f : FuncId) (args : List AV) (hp : List AObj) (Φ : AV → List AObj → Prop) : Prop :=
  Enters P f ∧ ∀ (Z0 F : Nat → Prop) (w0 w : World) (μ vs us : List Value) (fr : List AV), (∀ b, F b → w0.heap.size ≤ b ∧ b < w.heap.size) → HRel w (Zone Z0 F w0.heap.size) w0.heap.size μ hp → RelL w (Zone Z0 F w0.heap.size) μ args vs → RelL w (Zone Z0 F w0.heap.size) μ fr us → Below w0.heap.size w0 w →
    Calls P f vs.toArray w fun e w' => ∃ v μ' F' res hp', Φ res hp' ∧ e = .returned v ∧ (∀ b, F' b → w0.heap.size ≤ b ∧ b < w'.heap.size) ∧ HRel w' (Zone Z0 F' w0.heap.size) w0.heap.size μ' hp' ∧ Rel w' (Zone Z0 F' w0.heap.size) μ' res v ∧ RelL w' (Zone Z0 F' w0.heap.size) μ' fr us ∧ Below w0.heap.size w0 w'

section
variable {rd : Option Nat} {P : Program} {m : M} {Q : Exit → St → Prop}

theorem CallX.mono {f : FuncId} {args : List AV} {hp : List AObj} {Φ Ψ : AV → List AObj → Prop} (h : CallX P f args hp Φ) (hm : ∀ r h', Φ r h' → Ψ r h') : CallX P f args hp Ψ := by
  refine ⟨h.1, fun Z0 F w0 w μ vs us fr hFb hH hvs hus hbel => (h.2 Z0 F w0 w μ vs us fr hFb hH hvs hus hbel).mono ?_⟩
  rintro e w' ⟨v, μ', F', res, hp', hΦ, r⟩
  exact ⟨v, μ', F', res, hp', hm _ _ hΦ, r⟩

/-- How the body of such a function ends. -/
def retX (P : Program) (fn : Func) (n : Nat) (us : List Value) (fr : List AV) (Φ : AV → List AObj → Prop) : Exit → St → Prop := fun e st' => ∃ res hp', Φ res hp' ∧ Go.Abs.retS P fn n us fr res hp' e st'

theorem CallX.of {f : FuncId} {fn : Func} {c : Code} {args : List AV} {hp : List AObj} {Φ : AV → List AObj → Prop} (hf : P.funcs[f]? = some fn) (hb : fn.body = some c) (hnm : (fn.name == "runtime.NumGoroutine") = false)
    (h : ∀ us fr, Runs none P ⟨[.code c], ⟨frameOf fn.ntmps args, hp ++ [.frame us fr]⟩⟩ (retX P fn hp.length us fr Φ)) : CallX P f args hp Φ := by
  refine ⟨enters_of hf hnm (by rw [hb]; rfl), ?_⟩
  intro Z0 F w0 w μ vs us fr hFb hH hvs hus hbel
  have hlen := hvs.length
  refine calls_of_wpIn hf hb ?_
  have hS : Sim Z0 w0 ⟨frameOf fn.ntmps args, hp ++ [.frame us fr]⟩ { tmps := vs.toArray ++ Array.replicate (fn.ntmps - vs.toArray.size) undef, defers := [] } w := by
    refine ⟨μ ++ [.bool false], F, hFb, hH.extend1 (zone_new hbel.size hFb) (Below.refl _ _) ?_ (fun g hg => by simp [blk] at hg) rfl, ?_, .inl rfl, hbel⟩
    · exact RelL.keep (w := w) (fun _ _ _ => rfl) (fun i u hu => append_old i u hu) hus
    · simp only [Array.toList_append, Array.toList_replicate, List.size_toArray, hlen, frameOf]
      refine RelL.append (RelL.keep (w := w) (fun _ _ _ => rfl) (fun i u hu => append_old i u hu) hvs) ?_
      generalize fn.ntmps - args.length = n
      induction n with
      | zero => exact RelL.nil
      | succ n ih => exact RelL.cons (by simp [Rel]) ih
  have hrun2 := h us fr
  simp only [runs_iff] at hrun2
  simp only [RunsK] at hrun2
  refine wpIn_mono (hrun2 Z0 w0 _ w hS) ?_
  have fin : ∀ (e : Exit) (st' : St) (a' : Act) (w' : World), retX P fn hp.length us fr Φ e st' → Sim Z0 w0 st' a' w' → a'.defers = [] ∧ ∃ v, (results fn a'.tmps).run P w' = .ok v w' ∧ ∃ v' μ' F' res hp', Φ res hp' ∧ Ending.returned v = .returned v' ∧ (∀ b, F' b → w0.heap.size ≤ b ∧ b < w'.heap.size) ∧ HRel w' (Zone Z0 F' w0.heap.size) w0.heap.size μ' hp' ∧ Rel w' (Zone Z0 F' w0.heap.size) μ' res v' ∧ RelL w' (Zone Z0 F' w0.heap.size) μ' fr us ∧ Below w0.heap.size w0 w' := by
    rintro e st' a' w' ⟨res, hp', hΦ, _, hres, hfr, hh⟩ ⟨μ', F', hFb', hH', hF', hd', hbel'⟩
    obtain ⟨x, h1, h2⟩ := resIn_run hH' hF' hres
    unfold frameAt at hfr
    split at hfr
    · rename_i us2 fr2 hi
      cases hfr
      have hil : hp.length < μ'.length := by rw [hH'.len]; exact (List.getElem?_eq_some_iff.1 hi).1
      have hfrr : RelL w' (Zone Z0 F' w0.heap.size) μ' fr us := hH'.obj _ _ _ hi (List.getElem?_eq_getElem hil)
      exact ⟨hd'.none (resIn_mark hres), x, h1, x, μ', F', res, hp', hΦ, rfl, hFb', hh ▸ hH'.bury _, h2, hfrr, hbel'⟩
    · cases hfr
  rintro e a' w' ⟨st', hq, hS'⟩
  cases e with
  | normal => exact fin _ st' a' w' hq hS'
  | ret => exact fin _ st' a' w' hq hS'
  | exit id => (obtain ⟨_, _, _, hq, _⟩ := hq; exact absurd hq (by simp))
  | goto l => (obtain ⟨_, _, _, hq, _⟩ := hq; exact absurd hq (by simp))
  | panic ch => (obtain ⟨_, _, _, hq, _⟩ := hq; exact absurd hq (by simp))
  | outgrown => (obtain ⟨_, _, _, hq, _⟩ := hq; exact absurd hq (by simp))

theorem R.retX {fn : Func} {n : Nat} {us : List Value} {fr : List AV} {Φ : AV → List AObj → Prop} {res : AV} {hp' : List AObj} (h : (edAt m).isSome = true) (hr : resIn P fn m.st = some res) (hf : frameAt n m.st = some (us, fr)) (hh : m.st.hp.set n .dead = hp') (hΦ : Φ res hp') :
    Runs rd P m (Go.Abs.retX P fn n us fr Φ) :=
  R.fin h ⟨res, hp', hΦ, .inl rfl, hr, hf, hh⟩ ⟨res, hp', hΦ, .inr rfl, hr, hf, hh⟩

def opsHd (m : M) : Bool :=
  match m.ks with
  | .ops _ (_ :: _) _ :: _ => true
  | _ => false

/-- Under one more frame. -/
theorem CallX.frame {P : Program} {f : FuncId} {args : List AV} {hp : List AObj} {Φ : AV → List AObj → Prop} (us2 : List Value) (fr2 : List AV) (hc : CallX P f args hp Φ) (h1 : renH (List.range hp.length) hp = hp)
    (h2 : renL (List.range hp.length) args = args) (h3 : ∀ r h', Φ r h' → hp.length ≤ h'.length) : CallX P f args (hp ++ [.frame us2 fr2]) fun r h => ∃ res hp', Φ res hp' ∧ r = res.ren (insJ hp.length hp'.length) ∧ h = insF hp.length us2 fr2 hp' := by
  obtain ⟨hen, hc⟩ := hc
  refine ⟨hen, ?_⟩
  intro Z0 F w0 w μ vs us fr hFb hH hvs hus hbel
  have hml : μ.length = hp.length + 1 := by rw [hH.len]; simp
  have hH0 := hH.ren (List.range hp.length) List.nodup_range
  have e0 : ((List.range hp.length).map fun i => ((hp ++ [AObj.frame us2 fr2]).getD i .dead).ren (List.range hp.length)) = hp := by
    refine Eq.trans (List.map_congr_left fun i hi => ?_) h1
    have hi := List.mem_range.1 hi
    simp only [List.getD_eq_getElem?_getD]
    rw [List.getElem?_append_left hi]
  rw [e0] at hH0
  have hvs0 := hvs.ren (List.range hp.length)
  rw [h2] at hvs0
  have hn2 : (hp ++ [AObj.frame us2 fr2])[hp.length]? = some (.frame us2 fr2) := by simp
  obtain ⟨u, hu⟩ : ∃ u, μ[hp.length]? = some u := ⟨_, List.getElem?_eq_getElem (by omega)⟩
  have hf2 : RelL w (Zone Z0 F w0.heap.size) μ fr2 us2 := hH.obj _ _ u hn2 hu
  have hus0 := (hus.append hf2).ren (List.range hp.length)
  refine (hc Z0 F w0 w _ vs (us ++ us2) _ hFb hH0 hvs0 hus0 hbel).mono ?_
  rintro e w' ⟨v, μ1, F1, res, hp', hΦ, rfl, hF1, hH1, hres, hfr1, hb1⟩
  have h3 := h3 _ _ hΦ
  have hm1 := hH1.len
  have hHd := hH1.addDead u (hH.one _ u hu)
  have hH2 := hHd.ren (insJ hp.length hp'.length) (insJ_nodup h3)
  obtain ⟨μ2, hμ2⟩ : ∃ μ2, μ2 = ((insJ hp.length hp'.length).map fun i => (μ1 ++ [u]).getD i (.bool false)) := ⟨_, rfl⟩
  have hA : ∀ (i : Nat) x, i < hp.length → μ1[i]? = some x → μ2[i]? = some x := by
    intro i x hi hx
    have hj : (insJ hp.length hp'.length)[i]? = some i := by
      unfold insJ
      rw [List.getElem?_append_left (by simpa using hi)]
      simp [hi]
    rw [hμ2, List.getElem?_map, hj]
    simp only [Option.map_some, List.getD_eq_getElem?_getD]
    rw [List.getElem?_append_left (by omega), hx]
    rfl
  have hB : ∀ (i : Nat) x, hp.length ≤ i → μ[i]? = some x → μ2[i]? = some x := by
    intro i x hi hx
    have hin : i = hp.length := by have := (List.getElem?_eq_some_iff.1 hx).1; omega
    subst hin
    rw [hu] at hx
    have hj : (insJ hp.length hp'.length)[hp.length]? = some hp'.length := by
      unfold insJ
      rw [List.getElem?_append_right (by simp)]
      simp
    rw [hμ2, List.getElem?_map, hj]
    simp only [Option.map_some, List.getD_eq_getElem?_getD]
    rw [List.getElem?_append_right (by omega), hm1]
    simpa using hx
  rw [← hμ2] at hH2
  have hall := RelL.mix hA hB (hus.append hf2) hfr1
  have hul := hus.length
  have hfr : RelL w' (Zone Z0 F1 w0.heap.size) μ2 fr us := by
    have := hall.take fr.length
    rwa [List.take_left, ← hul, List.take_left] at this
  have hfr2 : RelL w' (Zone Z0 F1 w0.heap.size) μ2 fr2 us2 := by
    have := hall.drop fr.length
    rwa [List.drop_left, ← hul, List.drop_left] at this
  refine ⟨v, μ2, F1, _, _, ⟨res, hp', hΦ, rfl, rfl⟩, rfl, hF1, ?_, ?_, hfr, hb1⟩
  · refine hH2.frameAt ?_ hfr2
    have hj : (insJ hp.length hp'.length)[hp.length]? = some hp'.length := by
      unfold insJ
      rw [List.getElem?_append_right (by simp)]
      simp
    rw [List.getElem?_map, hj]
    simp [AObj.ren]
  · rw [hμ2]
    exact Rel.ren _ (Rel.keep (w := w') (fun _ _ _ => rfl) (fun i u hu => append_old i u hu) hres)
/-- Objects left out that the call has made. -/
theorem CallX.drop {P : Program} {f : FuncId} {args : List AV} {hp : List AObj} {Φ : AV → List AObj → Prop} (js : List Nat) (hc : CallX P f args hp Φ) (h1 : js.take hp.length = List.range hp.length) (h2 : js.Nodup) :
    CallX P f args hp fun r h => ∃ res hp', Φ res hp' ∧ r = res.ren js ∧ h = renH js hp' := by
  obtain ⟨hen, hc⟩ := hc
  refine ⟨hen, ?_⟩
  intro Z0 F w0 w μ vs us fr hFb hH hvs hus hbel
  refine (hc Z0 F w0 w μ vs us fr hFb hH hvs hus hbel).mono ?_
  rintro e w' ⟨v, μ1, F1, res, hp', hΦ, rfl, hF1, hH1, hres, hfr1, hb1⟩
  have hm1 := hH1.len
  have hjs : ∀ i, i < hp.length → js[i]? = some i := by
    intro i hi
    have := congrArg (fun l : List Nat => l[i]?) h1
    simp only [List.getElem?_take, if_pos hi] at this
    rw [this]
    simp [hi]
  refine ⟨v, _, F1, _, _, ⟨res, hp', hΦ, rfl, rfl⟩, rfl, hF1, hH1.ren js h2, Rel.ren js hres, ?_, hb1⟩
  refine RelL.mix (n := hp.length) ?_ ?_ hus (hfr1.ren (List.range hp.length))
  · intro i x hi hx
    rw [List.getElem?_map, hjs i hi]
    rw [List.getElem?_map] at hx
    simpa [hi] using hx
  · intro i x hi hx
    have h4 := (List.getElem?_eq_some_iff.1 hx).1
    have h5 := hH.len
    omega
end
end Go.Abs
