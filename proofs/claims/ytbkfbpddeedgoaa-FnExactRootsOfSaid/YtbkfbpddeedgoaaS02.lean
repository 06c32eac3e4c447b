/- Formulas as lists of nodes. -/
import Derived.Test.YtbkfbpddeedgoaaS01
namespace Go.Proofs.Ytbkfbpddeedgoaa
open Go.RowKit Go.Abs

/-- Lengths and joins of the first lists. -/
def lenTo {α : Type} (xss : List (List α)) : Nat → Nat
  | 0 => 0
  | i + 1 => lenTo xss i + (xss.getD i []).length
def joinTo {α : Type} (xss : List (List α)) : Nat → List α
  | 0 => []
  | i + 1 => joinTo xss i ++ xss.getD i []

theorem lenTo_mono {α : Type} (xss : List (List α)) {i j : Nat} (h : i ≤ j) : lenTo xss i ≤ lenTo xss j := by
  induction h with
  | refl => exact Nat.le_refl _
  | step _ ih => exact Nat.le_trans ih (Nat.le_add_right _ _)
theorem lenTo_step {α : Type} (xss : List (List α)) (i : Nat) (h : i < xss.length) : lenTo xss i + (xss.getD i []).length ≤ lenTo xss xss.length := lenTo_mono xss (i := i + 1) h
theorem joinTo_length {α : Type} (xss : List (List α)) (i : Nat) : (joinTo xss i).length = lenTo xss i := by
  induction i with
  | zero => rfl
  | succ i ih => simp [joinTo, lenTo, ih]

theorem take_step {α : Type} (a b : List α) (d : α) (i : Nat) (ha : i < a.length) (hb : i < b.length) (h : a.take i = b.take i) (e : a.getD i d = b.getD i d) : a.take (i + 1) = b.take (i + 1) := by
  rw [List.take_succ_eq_append_getElem ha, List.take_succ_eq_append_getElem hb, h]
  simp only [List.getD_eq_getElem?_getD, List.getElem?_eq_getElem ha, List.getElem?_eq_getElem hb, Option.getD_some] at e
  rw [e]
theorem take_all {α : Type} {a b : List α} {i : Nat} (ha : a.length ≤ i) (hl : a.length = b.length) (h : a.take i = b.take i) : a = b := by
  rwa [List.take_of_length_le ha, List.take_of_length_le (by omega)] at h
theorem getD_eta (xs : List (Int × Int)) (i : Nat) : ((xs.getD i (0, 0)).1, (xs.getD i (0, 0)).2) = xs.getD i (0, 0) := rfl

/-- The Nishimura formulas. -/
def nishi : Nat → List (Int × Int)
  | 0 => [(1, 0)]
  | 1 => [(0, 0)]
  | 2 => [(4, 0), (0, 0), (1, 0)]
  | n + 3 => if (n + 3) % 2 = 1 then (3, 0) :: (nishi (n + 2) ++ nishi (n + 1)) else (4, 0) :: (nishi (n + 1) ++ nishi n)
theorem nishi_len : ∀ n, n ≤ 8 → (nishi n).length ≤ 1000 := by decide
theorem nishi_odd (n : Nat) (h0 : 3 ≤ n) (h : n % 2 = 1) : (3, 0) :: (nishi (n - 1) ++ nishi (n - 2)) = nishi n := by
  obtain ⟨k, rfl⟩ : ∃ k, n = k + 3 := ⟨n - 3, by omega⟩
  simp only [nishi, if_pos h]
  rfl
theorem nishi_even (n : Nat) (h0 : 3 ≤ n) (h : ¬ n % 2 = 1) : (4, 0) :: (nishi (n - 2) ++ nishi (n - 3)) = nishi n := by
  obtain ⟨k, rfl⟩ : ∃ k, n = k + 3 := ⟨n - 3, by omega⟩
  simp only [nishi, if_neg h]
  rfl

/-- k, k + 1, .. as marks. -/
def marks : Nat → Int → List (Int × Int)
  | 0, _ => []
  | n + 1, k => (k, k + 1) :: marks n (k + 2)
theorem marks_length (n : Nat) (k : Int) : (marks n k).length = n := by
  induction n generalizing k with
  | zero => rfl
  | succ n ih => simp [marks, ih]
theorem marks_get (n : Nat) (k : Int) (i : Nat) (h : i < n) : (marks n k).getD i (0, 0) = (k + 2 * i, k + 2 * i + 1) := by
  induction n generalizing k i with
  | zero => omega
  | succ n ih =>
    cases i with
    | zero => simp [marks]
    | succ i =>
      have := ih (k + 2) i (by omega)
      simp only [marks, List.getD_cons_succ, this]
      congr 1 <;> omega
theorem marks_snoc (n : Nat) (k : Int) : marks (n + 1) k = marks n k ++ [(k + 2 * n, k + 2 * n + 1)] := by
  induction n generalizing k with
  | zero => simp [marks]
  | succ n ih =>
    rw [marks, ih (k + 2), marks]
    simp only [List.cons_append]
    congr 3
    ext <;> simp <;> omega
/-- The first i of xs marked. -/
def markTo (xs : List (Int × Int)) (k : Int) (i : Nat) : List (Int × Int) := marks i k ++ xs.drop i
theorem markTo_length (xs : List (Int × Int)) (k : Int) (i : Nat) (h : i ≤ xs.length) : (markTo xs k i).length = xs.length := by
  simp [markTo, marks_length]; omega
theorem markTo_set (xs : List (Int × Int)) (k : Int) (i : Nat) (h : i < xs.length) (y : Int × Int) (v : Int × Int) (hv : v = (k + 2 * i, k + 2 * i + 1)) : ((markTo xs k i).set i y).set i v = markTo xs k (i + 1) := by
  subst hv
  rw [List.set_set, markTo, List.set_append_right _ _ (by rw [marks_length]; omega), marks_length, Nat.sub_self, List.drop_eq_getElem_cons h, List.set_cons_zero, markTo, marks_snoc]
  simp
theorem getD_set_eq {α : Type} (xs : List α) (i : Nat) (v d : α) (h : i < xs.length) : (xs.set i v).getD i d = v := by
  simp [List.getD_eq_getElem?_getD, List.getElem?_set_self h]
theorem markTo_all (xs : List (Int × Int)) (k : Int) (n : Nat) (h : xs.length = n) : markTo xs k n = marks n k := by
  subst h
  simp [markTo]
theorem markTo_zero (xs : List (Int × Int)) (k : Int) : xs = markTo xs k 0 := by simp [markTo, marks]

theorem growN_c (n : Nat) (h0 : 0 < n) (hn : n ≤ 1000000000) : CallA Try.prog 116 [.nil, AI (n : Int)] (ownA eN 62 2 []) := by
  refine CallA.of Try.func116 rfl (by kernel_rfl) ?_
  refine R.go 10 (R.cond ((n : Int) < 0) (by kernel_rfl) (fun c1 => ?_) (fun c1 => ?_))
  · exfalso; omega -- op ('other', 'makeInterface')
  · refine R.go 10 (R.ar ((n : Int)) (by kernel_rfl) (by omega) (by omega) (by kernel_rfl) ?_)
    refine R.go 7 (R.cond ((n : Int) > 0) (by kernel_rfl) (fun c2 => ?_) (fun c2 => ?_))
    · refine R.go 6 (R.appZ eN (0, 0) 62 16 n (n : Int) (by kernel_rfl) rfl (by omega) (by decide) (by omega) (by kernel_rfl) ?_)
      refine R.go 2 (R.cut eN (List.replicate n (0, 0)) 0 62 0 0 (by kernel_rfl) rfl eN_len (by first | omega | (simp <;> omega)) (by kernel_rfl) ?_)
      exact R.go 7 (R.retE (ownA eN 62 2 ((List.replicate n (0, 0)).take 0)) (by kernel_rfl) (by kernel_rfl) (by first | (rfl) | (exfalso; omega)))
    · exact R.go 6 (R.retE (.nil) (by kernel_rfl) (by kernel_rfl) (by first | (rfl) | (exfalso; omega)))

theorem concatN_c (xss : List (List (Int × Int))) (h0 : 0 < lenTo xss xss.length) (hn : lenTo xss xss.length ≤ 1000000000) (hl : xss.length ≤ 1000000) : CallA Try.prog 98 [LLN xss] (ownA eN 62 2 (joinTo xss xss.length)) := by
  refine CallA.of Try.func98 rfl (by kernel_rfl) ?_
  refine R.go 16 (R.loop ((fun | (i, sz) => (⟨(frm 36 [(0, LLN xss), (3, AI (sz : Int)), (9, LLN xss), (10, AI xss.length), (11, AI (i : Int))]), []⟩ : St) : Nat × Nat → St)) (fun | (i, sz) => (i ≤ xss.length) ∧ (sz = lenTo xss i)) (fun | (i, sz) => xss.length - i) (0, 0) [0, 3, 9, 10, 11] none (by kernel_rfl) (by kernel_rfl) (by kernel_rfl) ⟨(by omega), (by rfl)⟩ ?_)
  rintro ⟨i, sz⟩ ⟨h4_1, rfl⟩ R1 N2
  refine R.go 5 (R.cond ((i : Int) < (xss.length : Int)) (by kernel_rfl) (fun c5 => ?_) (fun c5 => ?_))
  · refine R.go 5 (R.idx eLN xss [] i (i : Int) (by kernel_rfl) rfl eLN_len (by omega) (by kernel_rfl) ?_)
    have hs : lenTo xss i + (xss.getD i []).length ≤ lenTo xss xss.length := lenTo_step xss i (by omega)
    refine R.go 8 (R.ar (((lenTo xss i) : Int) + ((xss.getD i []).length : Int)) (by kernel_rfl) (by omega) (by omega) (by kernel_rfl) ?_)
    refine R.go 7 (R.cond ((((lenTo xss i) : Int) + ((xss.getD i []).length : Int)) < 0) (by kernel_rfl) (fun c6 => ?_) (fun c6 => ?_))
    · exfalso; omega -- op ('other', 'makeInterface')
    · refine R.go 3 (R.ar ((i : Int) + 1) (by kernel_rfl) (by omega) (by omega) (by kernel_rfl) ?_)
      exact R.go 2 (R.stop R1 (by kernel_rfl) (N2 (i + 1, lenTo xss i + ((xss.getD i []).length)) [0, 3, 9, 10, 11] none _ (by kernel_rfl) (by kernel_rfl) ⟨(by omega), (by rfl)⟩ (by show (xss.length - (i + 1)) < (xss.length - i); omega)))
  · have hs : lenTo xss i = lenTo xss xss.length := by rw [show i = xss.length by omega]
    refine R.go 4 (R.call true (growN_c (lenTo xss i) (by omega) (by omega)) (by kernel_rfl) rfl (by kernel_rfl) ?_)
    refine R.go 10 (R.loop ((fun | (i, ys) => (⟨(frm 36 [(6, .ref 0), (25, LLN xss), (26, AI xss.length), (27, AI (i : Int))]), [rowA eN 62 2 ys]⟩ : St) : Nat × (List (Int × Int)) → St)) (fun | (i, ys) => (i ≤ xss.length) ∧ (ys = joinTo xss i)) (fun | (i, ys) => xss.length - i) (0, []) [6, 25, 26, 27] none (by kernel_rfl) (by kernel_rfl) (by kernel_rfl) ⟨(by omega), (by rfl)⟩ ?_)
    rintro ⟨i, ys⟩ ⟨h10_1, rfl⟩ R7 N8
    refine R.go 5 (R.cond ((i : Int) < (xss.length : Int)) (by kernel_rfl) (fun c11 => ?_) (fun c11 => ?_))
    · refine R.go 5 (R.idx eLN xss [] i (i : Int) (by kernel_rfl) rfl eLN_len (by omega) (by kernel_rfl) ?_)
      have hs : (joinTo xss i).length + (xss.getD i []).length ≤ lenTo xss xss.length := by rw [joinTo_length]; exact lenTo_step xss i (by omega)
      refine R.go 6 (R.app eN (joinTo xss i) (xss.getD i []) 0 62 2 16 (by kernel_rfl) eN_one (by decide) (by first | omega | (simp <;> omega)) (by kernel_rfl) ?_)
      refine R.go 4 (R.ar ((i : Int) + 1) (by kernel_rfl) (by omega) (by omega) (by kernel_rfl) ?_)
      exact R.go 2 (R.stop R7 (by kernel_rfl) (N8 (i + 1, (joinTo xss i) ++ (xss.getD i [])) [6, 25, 26, 27] none _ (by kernel_rfl) (by kernel_rfl) ⟨(by omega), (by rfl)⟩ (by show (xss.length - (i + 1)) < (xss.length - i); omega)))
    · exact R.go 6 (R.retE (ownA eN 62 2 (joinTo xss i)) (by kernel_rfl) (by kernel_rfl) (by first | (rw [show i = xss.length by omega]) | (exfalso; omega)))

theorem falsum_c : CallA Try.prog 76 [] (ownA eN 62 2 [(1, 0)]) := by
  refine CallA.of Try.func76 rfl (by kernel_rfl) ?_
  exact R.go 10 (R.retE (ownA eN 62 2 [(1, 0)]) (by kernel_rfl) (by kernel_rfl) (by rfl))

theorem variable_c (v : Int) : CallA Try.prog 77 [AI v] (ownA eN 62 2 [(0, v)]) := by
  refine CallA.of Try.func77 rfl (by kernel_rfl) ?_
  exact R.go 11 (R.retE (ownA eN 62 2 [(0, v)]) (by kernel_rfl) (by kernel_rfl) (by rfl))

theorem join_c (k : Int) (a : List (Int × Int)) (b : List (Int × Int)) (ha : a.length ≤ 1000000) (hb : b.length ≤ 1000000) : CallA Try.prog 79 [AI k, LN a, LN b] (ownA eN 62 2 ((k, 0) :: (a ++ b))) := by
  refine CallA.of Try.func79 rfl (by kernel_rfl) ?_
  refine R.go 11 (R.frz 0 (by kernel_rfl) ?_)
  refine R.go 1 (R.call false (concatN_c [[(k, 0)], a, b] (by simp [lenTo] <;> omega) (by simp [lenTo] <;> omega) (by simp)) (by kernel_rfl) (ownA_closed eN_closed 62 2 (joinTo [[(k, 0)], a, b] [[(k, 0)], a, b].length)) (by kernel_rfl) ?_)
  exact R.go 2 (R.retE (ownA eN 62 2 (joinTo [[(k, 0)], a, b] [[(k, 0)], a, b].length)) (by kernel_rfl) (by kernel_rfl) (by first | (simp [joinTo]) | (exfalso; omega)))

theorem negation_c (a : List (Int × Int)) (ha : a.length ≤ 1000000) : CallA Try.prog 78 [LN a] (ownA eN 62 2 ((4, 0) :: (a ++ [(1, 0)]))) := by
  refine CallA.of Try.func78 rfl (by kernel_rfl) ?_
  refine R.go 7 (R.call true (falsum_c).frz (by kernel_rfl) rfl (by kernel_rfl) ?_)
  refine R.call true (join_c 4 a [(1, 0)] ha (by simp <;> omega)) (by kernel_rfl) rfl (by kernel_rfl) ?_
  exact R.go 2 (R.retE (ownA eN 62 2 ((4, 0) :: (a ++ [(1, 0)]))) (by kernel_rfl) (by kernel_rfl) (by rfl))

theorem l02False_c : CallA Try.prog 72 [] (ownA eN 62 2 [(1, 0)]) := by
  refine CallA.of Try.func72 rfl (by kernel_rfl) ?_
  exact R.go 10 (R.retE (ownA eN 62 2 [(1, 0)]) (by kernel_rfl) (by kernel_rfl) (by rfl))

theorem l02Var_c (v : Int) : CallA Try.prog 73 [AI v] (ownA eN 62 2 [(0, v)]) := by
  refine CallA.of Try.func73 rfl (by kernel_rfl) ?_
  exact R.go 11 (R.retE (ownA eN 62 2 [(0, v)]) (by kernel_rfl) (by kernel_rfl) (by rfl))

theorem l02Pair_c (k : Int) (a : List (Int × Int)) (b : List (Int × Int)) (ha : a.length ≤ 1000000) (hb : b.length ≤ 1000000) : CallA Try.prog 75 [AI k, LN a, LN b] (ownA eN 62 2 ((k, 0) :: (a ++ b))) := by
  refine CallA.of Try.func75 rfl (by kernel_rfl) ?_
  refine R.go 10 (R.app eN [(k, 0)] a 0 62 2 16 (by kernel_rfl) eN_one (by decide) (by first | omega | (simp <;> omega)) (by kernel_rfl) ?_)
  refine R.go 1 (R.app eN ([(k, 0)] ++ a) b 0 62 2 16 (by kernel_rfl) eN_one (by decide) (by first | omega | (simp <;> omega)) (by kernel_rfl) ?_)
  exact R.go 2 (R.retE (ownA eN 62 2 ([(k, 0)] ++ a ++ b)) (by kernel_rfl) (by kernel_rfl) (by first | (rfl) | (exfalso; omega)))

theorem l02Not_c (a : List (Int × Int)) (ha : a.length ≤ 1000000) : CallA Try.prog 74 [LN a] (ownA eN 62 2 ((4, 0) :: (a ++ [(1, 0)]))) := by
  refine CallA.of Try.func74 rfl (by kernel_rfl) ?_
  refine R.go 7 (R.call true (l02False_c).frz (by kernel_rfl) rfl (by kernel_rfl) ?_)
  refine R.call true (l02Pair_c 4 a [(1, 0)] ha (by simp <;> omega)) (by kernel_rfl) rfl (by kernel_rfl) ?_
  exact R.go 2 (R.retE (ownA eN 62 2 ((4, 0) :: (a ++ [(1, 0)]))) (by kernel_rfl) (by kernel_rfl) (by rfl))

end Go.Proofs.Ytbkfbpddeedgoaa
