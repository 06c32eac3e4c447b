/- Formulas as lists of nodes. -/
import Derived.Test.YtfkdkhlimdkehaaGreatS01
namespace Go.Proofs.YtfkdkhlimdkehaaGreat
open Go.RowKit Go.Abs

/-- Lengths and joins of the first lists. -/
def lenTo {α : Type} (xss : List (List α)) : Nat → Nat
  | 0 => 0
  | i + 1 => lenTo xss i + (xss.getD i []).length
def joinTo {α : Type} (xss : List (List α)) : Nat → List α
  | 0 => []
  | i + 1 => joinTo xss i ++ xss.getD i []

theorem lenTo_mono {α : Type} (xss : List (List α)) {i j : Nat} (h : i ≤ j) : lenTo xss i ≤ lenTo xss j := by
  induction h with
  | refl => exact Nat.le_refl _
  | step _ ih => exact Nat.le_trans ih (Nat.le_add_right _ _)
theorem lenTo_step {α : Type} (xss : List (List α)) (i : Nat) (h : i < xss.length) : lenTo xss i + (xss.getD i []).length ≤ lenTo xss xss.length := lenTo_mono xss (i := i + 1) h
theorem joinTo_length {α : Type} (xss : List (List α)) (i : Nat) : (joinTo xss i).length = lenTo xss i := by
  induction i with
  | zero => rfl
  | succ i ih => simp [joinTo, lenTo, ih]

theorem take_step {α : Type} (a b : List α) (d : α) (i : Nat) (ha : i < a.length) (hb : i < b.length) (h : a.take i = b.take i) (e : a.getD i d = b.getD i d) : a.take (i + 1) = b.take (i + 1) := by
  rw [List.take_succ_eq_append_getElem ha, List.take_succ_eq_append_getElem hb, h]
  simp only [List.getD_eq_getElem?_getD, List.getElem?_eq_getElem ha, List.getElem?_eq_getElem hb, Option.getD_some] at e
  rw [e]
theorem take_all {α : Type} {a b : List α} {i : Nat} (ha : a.length ≤ i) (hl : a.length = b.length) (h : a.take i = b.take i) : a = b := by
  rwa [List.take_of_length_le ha, List.take_of_length_le (by omega)] at h
theorem getD_eta (xs : List (Int × Int)) (i : Nat) : ((xs.getD i (0, 0)).1, (xs.getD i (0, 0)).2) = xs.getD i (0, 0) := rfl

/-- The Nishimura formulas. -/
def nishi : Nat → List (Int × Int)
  | 0 => [(1, 0)]
  | 1 => [(0, 0)]
  | 2 => [(4, 0), (0, 0), (1, 0)]
  | n + 3 => if (n + 3) % 2 = 1 then (3, 0) :: (nishi (n + 2) ++ nishi (n + 1)) else (4, 0) :: (nishi (n + 1) ++ nishi n)
theorem nishi_len : ∀ n, n ≤ 8 → (nishi n).length ≤ 1000 := by decide
theorem nishi_odd (n : Nat) (h0 : 3 ≤ n) (h : n % 2 = 1) : (3, 0) :: (nishi (n - 1) ++ nishi (n - 2)) = nishi n := by
  obtain ⟨k, rfl⟩ : ∃ k, n = k + 3 := ⟨n - 3, by omega⟩
  simp only [nishi, if_pos h]
  rfl
theorem nishi_even (n : Nat) (h0 : 3 ≤ n) (h : ¬ n % 2 = 1) : (4, 0) :: (nishi (n - 2) ++ nishi (n - 3)) = nishi n := by
  obtain ⟨k, rfl⟩ : ∃ k, n = k + 3 := ⟨n - 3, by omega⟩
  simp only [nishi, if_neg h]
  rfl

theorem growN_c (n : Nat) (h0 : 0 < n) (hn : n ≤ 1000000000) : CallA Tryz.prog 116 [.nil, AI (n : Int)] (ownA eN 90 2 []) := by
  refine CallA.of Tryz.func116 rfl (by kernel_rfl) ?_
  refine R.go 10 (R.cond ((n : Int) < 0) (by kernel_rfl) (fun c1 => ?_) (fun c1 => ?_))
  · exfalso; omega -- op ('other', 'makeInterface')
  · refine R.go 10 (R.ar ((n : Int)) (by kernel_rfl) (by omega) (by omega) (by kernel_rfl) ?_)
    refine R.go 7 (R.cond ((n : Int) > 0) (by kernel_rfl) (fun c2 => ?_) (fun c2 => ?_))
    · refine R.go 6 (R.appZ eN (0, 0) 90 16 n (n : Int) (by kernel_rfl) rfl (by omega) (by decide) (by omega) (by kernel_rfl) ?_)
      refine R.go 2 (R.cut eN (List.replicate n (0, 0)) 0 90 0 0 (by kernel_rfl) rfl eN_len (by first | omega | (simp <;> omega)) (by kernel_rfl) ?_)
      exact R.go 7 (R.retE (ownA eN 90 2 ((List.replicate n (0, 0)).take 0)) (by kernel_rfl) (by kernel_rfl) (by first | (rfl) | (exfalso; omega)))
    · refine R.go 6 (R.nil 4 90 2 (by kernel_rfl) ?_)
      exact R.retE (ownA eN 90 2 []) (by kernel_rfl) (by kernel_rfl) (by rfl)

theorem concatN_c (xss : List (List (Int × Int))) (h0 : 0 < lenTo xss xss.length) (hn : lenTo xss xss.length ≤ 1000000000) (hl : xss.length ≤ 1000000) : CallA Tryz.prog 90 [LLN xss] (ownA eN 90 2 (joinTo xss xss.length)) := by
  refine CallA.of Tryz.func90 rfl (by kernel_rfl) ?_
  refine R.go 16 (R.loop ((fun | (i, sz) => (⟨(frm 36 [(0, LLN xss), (3, AI (sz : Int)), (9, LLN xss), (10, AI xss.length), (11, AI (i : Int))]), []⟩ : St) : Nat × Nat → St)) (fun | (i, sz) => (i ≤ xss.length) ∧ (sz = lenTo xss i)) (fun | (i, sz) => xss.length - i) (0, 0) [0, 3, 9, 10, 11] none (by kernel_rfl) (by kernel_rfl) (by kernel_rfl) ⟨(by omega), (by rfl)⟩ ?_)
  rintro ⟨i, sz⟩ ⟨h4_1, rfl⟩ R1 N2
  refine R.go 5 (R.cond ((i : Int) < (xss.length : Int)) (by kernel_rfl) (fun c5 => ?_) (fun c5 => ?_))
  · refine R.go 5 (R.idx eLN xss [] i (i : Int) (by kernel_rfl) rfl eLN_len (by omega) (by kernel_rfl) ?_)
    have hs : lenTo xss i + (xss.getD i []).length ≤ lenTo xss xss.length := lenTo_step xss i (by omega)
    refine R.go 8 (R.ar (((lenTo xss i) : Int) + ((xss.getD i []).length : Int)) (by kernel_rfl) (by omega) (by omega) (by kernel_rfl) ?_)
    refine R.go 7 (R.cond ((((lenTo xss i) : Int) + ((xss.getD i []).length : Int)) < 0) (by kernel_rfl) (fun c6 => ?_) (fun c6 => ?_))
    · exfalso; omega -- op ('other', 'makeInterface')
    · refine R.go 3 (R.ar ((i : Int) + 1) (by kernel_rfl) (by omega) (by omega) (by kernel_rfl) ?_)
      exact R.go 2 (R.stop R1 (by kernel_rfl) (N2 (i + 1, lenTo xss i + ((xss.getD i []).length)) [0, 3, 9, 10, 11] none _ (by kernel_rfl) (by kernel_rfl) ⟨(by omega), (by rfl)⟩ (by show (xss.length - (i + 1)) < (xss.length - i); omega)))
  · have hs : lenTo xss i = lenTo xss xss.length := by rw [show i = xss.length by omega]
    refine R.go 4 (R.call true (growN_c (lenTo xss i) (by omega) (by omega)) (by kernel_rfl) rfl (by kernel_rfl) ?_)
    refine R.go 10 (R.loop ((fun | (i, ys) => (⟨(frm 36 [(6, .ref 0), (25, LLN xss), (26, AI xss.length), (27, AI (i : Int))]), [rowA eN 90 2 ys]⟩ : St) : Nat × (List (Int × Int)) → St)) (fun | (i, ys) => (i ≤ xss.length) ∧ (ys = joinTo xss i)) (fun | (i, ys) => xss.length - i) (0, []) [6, 25, 26, 27] none (by kernel_rfl) (by kernel_rfl) (by kernel_rfl) ⟨(by omega), (by rfl)⟩ ?_)
    rintro ⟨i, ys⟩ ⟨h10_1, rfl⟩ R7 N8
    refine R.go 5 (R.cond ((i : Int) < (xss.length : Int)) (by kernel_rfl) (fun c11 => ?_) (fun c11 => ?_))
    · refine R.go 5 (R.idx eLN xss [] i (i : Int) (by kernel_rfl) rfl eLN_len (by omega) (by kernel_rfl) ?_)
      have hs : (joinTo xss i).length + (xss.getD i []).length ≤ lenTo xss xss.length := by rw [joinTo_length]; exact lenTo_step xss i (by omega)
      refine R.go 6 (R.app eN (joinTo xss i) (xss.getD i []) 0 90 2 16 (by kernel_rfl) eN_one (by decide) (by first | omega | (simp <;> omega)) (by kernel_rfl) ?_)
      refine R.go 4 (R.ar ((i : Int) + 1) (by kernel_rfl) (by omega) (by omega) (by kernel_rfl) ?_)
      exact R.go 2 (R.stop R7 (by kernel_rfl) (N8 (i + 1, (joinTo xss i) ++ (xss.getD i [])) [6, 25, 26, 27] none _ (by kernel_rfl) (by kernel_rfl) ⟨(by omega), (by rfl)⟩ (by show (xss.length - (i + 1)) < (xss.length - i); omega)))
    · exact R.go 6 (R.retE (ownA eN 90 2 (joinTo xss i)) (by kernel_rfl) (by kernel_rfl) (by first | (rw [show i = xss.length by omega]) | (exfalso; omega)))

theorem falsum_c : CallA Tryz.prog 85 [] (ownA eN 90 2 [(1, 0)]) := by
  refine CallA.of Tryz.func85 rfl (by kernel_rfl) ?_
  exact R.go 10 (R.retE (ownA eN 90 2 [(1, 0)]) (by kernel_rfl) (by kernel_rfl) (by rfl))

theorem variable_c (v : Int) : CallA Tryz.prog 72 [AI v] (ownA eN 90 2 [(0, v)]) := by
  refine CallA.of Tryz.func72 rfl (by kernel_rfl) ?_
  exact R.go 11 (R.retE (ownA eN 90 2 [(0, v)]) (by kernel_rfl) (by kernel_rfl) (by rfl))

theorem join_c (k : Int) (a : List (Int × Int)) (b : List (Int × Int)) (ha : a.length ≤ 1000000) (hb : b.length ≤ 1000000) : CallA Tryz.prog 58 [AI k, LN a, LN b] (ownA eN 90 2 ((k, 0) :: (a ++ b))) := by
  refine CallA.of Tryz.func58 rfl (by kernel_rfl) ?_
  refine R.go 11 (R.frz 0 (by kernel_rfl) ?_)
  refine R.lit (s := 1) (n := 3) (cs := rows eLN [[(k, 0)], a, b]) (by kernel_rfl) (by kernel_rfl) ?_
  refine R.call true (concatN_c [[(k, 0)], a, b] (by simp [lenTo] <;> omega) (by simp [lenTo] <;> omega) (by simp)) (by kernel_rfl) rfl (by kernel_rfl) ?_
  exact R.go 2 (R.retE (ownA eN 90 2 (joinTo [[(k, 0)], a, b] [[(k, 0)], a, b].length)) (by kernel_rfl) (by kernel_rfl) (by first | (simp [joinTo]) | (exfalso; omega)))

theorem negation_c (a : List (Int × Int)) (ha : a.length ≤ 1000000) : CallA Tryz.prog 86 [LN a] (ownA eN 90 2 ((4, 0) :: (a ++ [(1, 0)]))) := by
  refine CallA.of Tryz.func86 rfl (by kernel_rfl) ?_
  refine R.go 7 (R.call true (falsum_c).frz (by kernel_rfl) rfl (by kernel_rfl) ?_)
  refine R.call true (join_c 4 a [(1, 0)] ha (by first | omega | (simp <;> omega))) (by kernel_rfl) rfl (by kernel_rfl) ?_
  exact R.go 2 (R.retE (ownA eN 90 2 ((4, 0) :: (a ++ [(1, 0)]))) (by kernel_rfl) (by kernel_rfl) (by rfl))

theorem l02False_c : CallA Tryz.prog 125 [] (ownA eN 90 2 [(1, 0)]) := by
  refine CallA.of Tryz.func125 rfl (by kernel_rfl) ?_
  exact R.go 10 (R.retE (ownA eN 90 2 [(1, 0)]) (by kernel_rfl) (by kernel_rfl) (by rfl))

theorem l02Var_c (v : Int) : CallA Tryz.prog 65 [AI v] (ownA eN 90 2 [(0, v)]) := by
  refine CallA.of Tryz.func65 rfl (by kernel_rfl) ?_
  exact R.go 11 (R.retE (ownA eN 90 2 [(0, v)]) (by kernel_rfl) (by kernel_rfl) (by rfl))

theorem l02Pair_c (k : Int) (a : List (Int × Int)) (b : List (Int × Int)) (ha : a.length ≤ 1000000) (hb : b.length ≤ 1000000) : CallA Tryz.prog 67 [AI k, LN a, LN b] (ownA eN 90 2 ((k, 0) :: (a ++ b))) := by
  refine CallA.of Tryz.func67 rfl (by kernel_rfl) ?_
  refine R.go 10 (R.app eN [(k, 0)] a 0 90 2 16 (by kernel_rfl) eN_one (by decide) (by first | omega | (simp <;> omega)) (by kernel_rfl) ?_)
  refine R.go 1 (R.app eN ([(k, 0)] ++ a) b 0 90 2 16 (by kernel_rfl) eN_one (by decide) (by first | omega | (simp <;> omega)) (by kernel_rfl) ?_)
  exact R.go 2 (R.retE (ownA eN 90 2 ([(k, 0)] ++ a ++ b)) (by kernel_rfl) (by kernel_rfl) (by first | (rfl) | (exfalso; omega)))

theorem l02Not_c (a : List (Int × Int)) (ha : a.length ≤ 1000000) : CallA Tryz.prog 156 [LN a] (ownA eN 90 2 ((4, 0) :: (a ++ [(1, 0)]))) := by
  refine CallA.of Tryz.func156 rfl (by kernel_rfl) ?_
  refine R.go 7 (R.call true (l02False_c).frz (by kernel_rfl) rfl (by kernel_rfl) ?_)
  refine R.call true (l02Pair_c 4 a [(1, 0)] ha (by first | omega | (simp <;> omega))) (by kernel_rfl) rfl (by kernel_rfl) ?_
  exact R.go 2 (R.retE (ownA eN 90 2 ((4, 0) :: (a ++ [(1, 0)]))) (by kernel_rfl) (by kernel_rfl) (by rfl))

end Go.Proofs.YtfkdkhlimdkehaaGreat
