/- Forcing on posets; the codes of searches. -/
import Derived.Test.YtkanjgmocmhlkaaGreatW02
import Derived.Test.YtkanjgmocmhlkaaGreatP04
import Derived.Test.YtkanjgmocmhlkaaGreatSym2
namespace Go.Proofs.YtkanjgmocmhlkaaGreat
open Go.RowKit Go.Abs

def pxB (xs : List Int) (m : Int) : Int := boxB xs m xs.length
def pxA (xs : List Int) (m : Int) : Int := boxA xs m xs.length
theorem pxAB {n : Int} {xs : List Int} (h : okFr n xs = true) : pxA xs = pxB xs := by
  obtain ⟨h0, h8, hl, hr⟩ := okFr_rel h
  funext m
  refine boxAB xs m (fun x hx => ?_) _ (Nat.le_refl _)
  obtain ⟨j, hj, rfl⟩ := List.getElem_of_mem hx
  have hg : xs[j] = xs.getD j 0 := by rw [List.getD_eq_getElem?_getD, List.getElem?_eq_getElem hj]; rfl
  rw [hg]
  exact wrap_inM (by omega) (hr.2 j (by omega))
/-- The words of plain formulas. -/
def pT (n : Int) (bx : Int → Int) (k p q : Int) : Int := if k = 2 then band p q else if k = 3 then bor p q else bx (bor (bnot ((shl64 1 n) - 1) p) q)
def pU (_ _ : Int) : Int := 0
/-- The value of a formula. -/
def fcd (n : Int) (xs vs : List Int) (a : List (Int × Int)) : Int := gv (pT n (pxB xs)) pU vs a
theorem plain_get {a : List (Int × Int)} (h : a.any modN = false) {j : Nat} (hj : j < a.length) : ¬ ((a.getD j (0, 0)).1 = 5 ∨ (a.getD j (0, 0)).1 = 6) := by
  have h1 := List.any_eq_false.1 h (a.getD j (0, 0)) (by rw [List.getD_eq_getElem?_getD, List.getElem?_eq_getElem hj]; exact List.getElem_mem _)
  exact (mod_no _).1 (by simpa using h1)
theorem plain_sub {a b : List (Int × Int)} (h : a.any modN = false) (hb : ∀ x ∈ b, x ∈ a) : b.any modN = false := List.any_eq_false.2 fun x hx => List.any_eq_false.1 h x (hb x hx)
theorem plain_lef {a : List (Int × Int)} (h : a.any modN = false) : (lef a).any modN = false := plain_sub h fun x hx => List.mem_of_mem_take (List.mem_of_mem_drop hx)
theorem plain_rig {a : List (Int × Int)} (h : a.any modN = false) : (rig a).any modN = false := plain_sub h fun x hx => List.mem_of_mem_drop hx
def anyM (a : List (Int × Int)) : Bool := a.any modN
def allPl (l : List (List (Int × Int))) : Bool := !l.any anyM
def pwT (U : Int) : Nat → Int
  | 0 => 1
  | k + 1 => if pwT U k ≤ 4096 then pwT U k * U else pwT U k
theorem pwT_step {U : Int} {k : Nat} (h : pwT U k ≤ 4096) : pwT U k * U = pwT U (k + 1) := by rw [pwT, if_pos h]
theorem pwT_stay {U : Int} {k : Nat} (h : ¬ pwT U k ≤ 4096) : ∀ m : Nat, k ≤ m → pwT U m = pwT U k := by
  intro m hm
  induction m with
  | zero => rw [show k = 0 by omega]
  | succ m ih =>
    by_cases e : k = m + 1
    · rw [e]
    · rw [pwT, ih (by omega), if_neg h]
theorem pwT_pow {U : Nat} {m : Nat} (h : pwT (U : Int) m ≤ 4096) : ∀ k : Nat, k ≤ m → pwT (U : Int) k = ((U ^ k : Nat) : Int)
  | 0, _ => rfl
  | k + 1, hk => by
    have h1 : pwT (U : Int) k ≤ 4096 := by
      rcases Int.lt_or_le 4096 (pwT (U : Int) k) with h2 | h2
      · have := pwT_stay (U := (U : Int)) (k := k) (by omega) m (by omega)
        omega
      · exact h2
    rw [pwT, if_pos h1, pwT_pow h k (by omega), Nat.pow_succ, Int.natCast_mul]
theorem pwT_rng {U : Int} (h0 : 0 ≤ U) (h1 : U ≤ 1000) : ∀ k : Nat, 0 ≤ pwT U k ∧ pwT U k ≤ 4096000
  | 0 => by simp [pwT]
  | k + 1 => by
    have ih := pwT_rng h0 h1 k
    rw [pwT]
    split
    · rename_i h
      refine ⟨Int.mul_nonneg ih.1 h0, ?_⟩
      have := Int.mul_le_mul h h1 h0 (by omega)
      omega
    · exact ih
theorem mul_rng {p U : Int} (h0 : 0 ≤ U) (h1 : U ≤ 1000) (h2 : 0 ≤ p) (h3 : p ≤ 4096) : 0 ≤ p * U ∧ p * U ≤ 4096000 := by
  refine ⟨Int.mul_nonneg h2 h0, ?_⟩
  have := Int.mul_le_mul h3 h1 h0 (by omega)
  omega
theorem upL_len {n : Int} {xs : List Int} (h : okPo n xs = true) : (upL n xs).length ≤ 256 := by
  have := upR_len n xs
  rwa [upR, if_pos h] at this
/-- The code of a search. -/
def pcode (n : Int) (xs : List Int) (l : List (List (Int × Int))) : Int := if okPo n xs = true ∧ allF l = true then (if allPl l = true then (if pwT ((upL n xs).length : Int) (mem (vmT l l.length)).length ≤ 4096 then 0 else 3) else 5) else 1
section
variable {n : Int} {xs : List Int} {l : List (List (Int × Int))}
theorem pc_1 (h : okPo n xs = false) : 1 = pcode n xs l := by rw [pcode, if_neg (by simp [h])]
theorem pc_2 (h : allF l = false) : 1 = pcode n xs l := by rw [pcode, if_neg (by simp [h])]
theorem pc_5 (h : okPo n xs = true) (h2 : allF l = true) (h3 : allPl l = false) : 5 = pcode n xs l := by rw [pcode, if_pos ⟨h, h2⟩, if_neg (by rw [h3]; decide)]
theorem pc_3 (h : okPo n xs = true) (h2 : allF l = true) (h3 : allPl l = true) (h4 : ¬ pwT ((upL n xs).length : Int) (mem (vmT l l.length)).length ≤ 4096) : 3 = pcode n xs l := by rw [pcode, if_pos ⟨h, h2⟩, if_pos h3, if_neg h4]
theorem pc_0 (h : okPo n xs = true) (h2 : allF l = true) (h3 : allPl l = true) (h4 : pwT ((upL n xs).length : Int) (mem (vmT l l.length)).length ≤ 4096) : 0 = pcode n xs l := by rw [pcode, if_pos ⟨h, h2⟩, if_pos h3, if_pos h4]
theorem pc_ok (h : pcode n xs l = 0) : okPo n xs = true ∧ allF l = true ∧ allPl l = true ∧ pwT ((upL n xs).length : Int) (mem (vmT l l.length)).length ≤ 4096 := by
  unfold pcode at h
  split at h
  · rename_i h1
    split at h
    · rename_i h2
      split at h
      · rename_i h3; exact ⟨h1.1, h1.2, h2, h3⟩
      · cases h
    · cases h
  · cases h
theorem allF_no {i : Nat} (hi : i < l.length) (h : isF (l.getD i []) = false) : allF l = false := by
  rw [allF_not, show l.any notF = true from ?_]
  · rfl
  · rw [List.any_eq_true]
    refine ⟨l.getD i [], ?_, notF_yes h⟩
    rw [List.getD_eq_getElem?_getD, List.getElem?_eq_getElem hi, Option.getD_some]
    exact List.getElem_mem hi
theorem allF_all (h : ∀ j : Nat, j < l.length → isF (l.getD j []) = true) : allF l = true := by
  rw [allF_not, show l.any notF = false from ?_]
  · rfl
  · rw [List.any_eq_false]
    intro x hx
    obtain ⟨j, hj, rfl⟩ := List.getElem_of_mem hx
    have := h j hj
    rw [List.getD_eq_getElem?_getD, List.getElem?_eq_getElem hj, Option.getD_some] at this
    rw [notF_no this]; decide
/-- The first i formulas are plain. -/
def plTo (l : List (List (Int × Int))) (i : Nat) : Bool := !(l.take i).any anyM
theorem plTo_step {b : Bool} {i : Nat} (h : i < l.length) (hb : b = true) (hp : plTo l i = b) : (!(l.getD i []).any modN) = plTo l (i + 1) := by
  subst hb
  have h1 : (l.take i).any anyM = false := by simpa [plTo] using hp
  rw [plTo, List.take_succ_eq_append_getElem h, List.any_append, h1, Bool.false_or, List.getD_eq_getElem?_getD, List.getElem?_eq_getElem h]
  simp [anyM]
theorem plTo_off {b : Bool} {i : Nat} (h : i < l.length) (hb : b = false) (hp : plTo l i = b) : false = plTo l (i + 1) := by
  subst hb
  have h1 : (l.take i).any anyM = true := by simpa [plTo] using hp
  rw [plTo, List.take_succ_eq_append_getElem h, List.any_append, h1]
  rfl
theorem plTo_all {i : Nat} (h : l.length ≤ i) : plTo l i = allPl l := by rw [plTo, List.take_of_length_le h]; rfl
end

theorem imply2_c (n : Int) (xs : List Int) (a : Int) (b : Int) (h0 : 0 ≤ n) (h1 : n ≤ 62) (hl : xs.length ≤ 60) : CallA Tryz.prog 86 [.agg [AI n, LI xs], AI a, AI b] (AI (pxB xs (bor (bnot ((shl64 1 n) - 1) a) b))) := by
  refine CallA.of Tryz.func86 rfl (by kernel_rfl) ?_
  refine R.go 10 (R.call true (pAll_c n xs h0 h1) (by kernel_rfl) rfl (by kernel_rfl) ?_)
  refine R.go 4 (R.call true (box_c xs (bor (bnot ((shl64 1 n) - 1) a) b) hl) (by kernel_rfl) rfl (by kernel_rfl) ?_)
  exact R.go 2 (R.retE (AI (boxB xs (bor (bnot ((shl64 1 n) - 1) a) b) xs.length)) (by kernel_rfl) (by kernel_rfl) (by first | (rfl) | (exfalso; omega)))

theorem arrow2_c (n : Int) (xs : List Int) (a : Int) (b : Int) (h0 : 0 ≤ n) (h1 : n ≤ 62) (hl : xs.length ≤ 60) : CallA Tryz.prog 81 [.agg [AI n, LI xs], AI a, AI b] (AI (pxA xs (bor (bnot ((shl64 1 n) - 1) a) b))) := by
  refine CallA.of Tryz.func81 rfl (by kernel_rfl) ?_
  refine R.go 11 (R.call true (l01Full_c n h0 h1) (by kernel_rfl) rfl (by kernel_rfl) ?_)
  refine R.go 4 (R.call true (l01Box_c xs (bor (bnot ((shl64 1 n) - 1) a) b) hl) (by kernel_rfl) rfl (by kernel_rfl) ?_)
  exact R.go 2 (R.retE (AI (boxA xs (bor (bnot ((shl64 1 n) - 1) a) b) xs.length)) (by kernel_rfl) (by kernel_rfl) (by first | (rfl) | (exfalso; omega)))

theorem forced2_c (n : Int) (xs : List Int) (vs : List Int) (a : List (Int × Int)) (hok : OKM vs.length a) (hp : a.any modN = false) (h0 : 0 ≤ n) (h1 : n ≤ 8) (hx : xs.length ≤ 60) (hl : a.length ≤ 1000000000) : CallA Tryz.prog 53 [.agg [AI n, LI xs], LI vs, LN a] (AI (fcd n xs vs a)) := by
  have hlen := okm_pos hok
  refine CallA.of Tryz.func53 rfl (by kernel_rfl) ?_
  refine R.go 19 (R.arE ((a.length : Int) - 1) ((a.length - 1 : Nat) : Int) (by kernel_rfl) (by omega) (by omega) (by omega) (by kernel_rfl) ?_)
  refine R.go 3 (R.nilB 1 0 2 1 (by kernel_rfl) ?_)
  refine R.loop ((fun | (i, S) => (⟨(frm 65 [(1, LI vs), (2, LN a), (3, .ptr 0 0), (7, .ptr 1 0), (8, .fn 85 [.ptr 1 0]), (9, AI i)]), [.box 30 [AI n, LI xs], .box 22 [.ref 2], rowA eI 2 1 S]⟩ : St) : Int × (List Int) → St)) (fun | (i, S) => (-1 ≤ i) ∧ (i < a.length) ∧ (S.length ≤ a.length - i) ∧ (S = (stkG (pT n (pxB xs)) pU vs (a.drop (i + 1).toNat)).reverse)) (fun | (i, S) => (i + 1).toNat) (((a.length - 1 : Nat) : Int), []) [1, 2, 3, 7, 8, 9] none (by kernel_rfl) (by kernel_rfl) (by kernel_rfl) ⟨(by omega), (by omega), (by simp <;> omega), (by rw [show (((a.length - 1 : Nat) : Int) + 1).toNat = a.length by omega, List.drop_length]; rfl)⟩ ?_
  rintro ⟨i, S⟩ ⟨h4_1, h4_2, h4_3, h4_4⟩ R1 N2
  have hk := fun h : 0 ≤ i => okm_get hok i.toNat (by omega)
  have hkp := fun h : 0 ≤ i => plain_get hp (j := i.toNat) (by omega)
  have hS2 := fun h : 0 ≤ i => stkg_room hok ‹S = _› h (by omega)
  have hP2 := fun h : ((a.getD i.toNat (0, 0)).1 = 2 ∨ (a.getD i.toNat (0, 0)).1 = 3 ∨ (a.getD i.toNat (0, 0)).1 = 4) => (partsN_two _).2 h
  have hS1 := fun h : i = -1 => congrArg List.length (stkg_fin hok ‹S = _› h)
  simp only [List.length_cons, List.length_nil] at hS1
  have hT : (S.take (S.length - 1)).length = S.length - 1 := by simp
  refine R.go 6 (R.cond (i ≥ 0) (by kernel_rfl) (fun c5 => ?_) (fun c5 => ?_))
  · refine R.go 12 (R.idx eN a (0, 0) ((i).toNat) i (by kernel_rfl) (by omega) eN_len (by omega) (by kernel_rfl) ?_)
    refine R.go 9 (R.cond (((a.getD ((i).toNat) (0, 0)).1) = 0) (by kernel_rfl) (fun c6 => ?_) (fun c6 => ?_))
    · refine R.go 4 (R.idx eN a (0, 0) ((i).toNat) i (by kernel_rfl) (by omega) eN_len (by omega) (by kernel_rfl) ?_)
      refine R.go 2 (R.idx eI vs 0 (((a.getD ((i).toNat) (0, 0)).2).toNat) ((a.getD ((i).toNat) (0, 0)).2) (by kernel_rfl) (by omega) eI_len (by omega) (by kernel_rfl) ?_)
      refine R.go 8 (R.app eI S [(vs.getD (((a.getD ((i).toNat) (0, 0)).2).toNat) 0)] 2 2 1 8 (by kernel_rfl) eI_one (by decide) (by first | omega | (simp <;> omega)) (by kernel_rfl) ?_)
      refine R.go 5 (R.ar (i - 1) (by kernel_rfl) (by omega) (by omega) (by kernel_rfl) ?_)
      exact R.go 2 (R.stop R1 (by kernel_rfl) (N2 (i - 1, S ++ [(vs.getD (((a.getD ((i).toNat) (0, 0)).2).toNat) 0)]) [1, 2, 3, 7, 8, 9] (some [0, 1, 2]) _ (by kernel_rfl) (by kernel_rfl) ⟨(by omega), (by omega), (by simp <;> omega), (by first | exact stkg_push ‹S = _› (by omega) (by omega) (by omega) | exact stkg_bot ‹S = _› (by omega) (by omega) (by omega) | exact stkg_two hok ‹S = _› (by omega) (by omega) ‹(a.getD i.toNat (0, 0)).1 = _› (by omega) rfl rfl rfl rfl)⟩ (by show (((i - 1) + 1).toNat) < ((i + 1).toNat); omega)))
    · refine R.go 5 (R.cond (((a.getD ((i).toNat) (0, 0)).1) = 2) (by kernel_rfl) (fun c7 => ?_) (fun c7 => ?_))
      · refine R.go 2 (R.enter (avs := [.ptr 1 0]) Tryz.func85 rfl (by kernel_rfl) (by kernel_rfl) (by kernel_rfl) ?_)
        intro us8
        refine R.go 9 (R.arE ((S.length : Int) - 1) ((S.length - 1 : Nat) : Int) (by kernel_rfl) (by omega) (by omega) (by omega) (by kernel_rfl) ?_)
        refine R.idxO 2 1 S.length (S.length - 1) ((S.length - 1 : Nat) : Int) (by kernel_rfl) (by omega) (by omega) (by kernel_rfl) ?_
        refine R.ldI S (S.length - 1) (by kernel_rfl) (by omega) (by kernel_rfl) ?_
        refine R.go 7 (R.arE ((S.length : Int) - 1) ((S.length - 1 : Nat) : Int) (by kernel_rfl) (by omega) (by omega) (by omega) (by kernel_rfl) ?_)
        refine R.cut eI S 2 2 (S.length - 1) ((S.length - 1 : Nat) : Int) (by kernel_rfl) (by omega) eI_len (by omega) (by kernel_rfl) ?_
        refine R.go 7 (R.back (AI (S.getD (S.length - 1) 0)) (frm 65 [(1, LI vs), (2, LN a), (3, .ptr 0 0), (7, .ptr 1 0), (8, .fn 85 [.ptr 1 0]), (9, AI i), (10, AI 0), (16, AI i), (17, .bool (decide (i ≥ 0))), (20, LN a), (21, AI i), (22, .rptr [AI ((a.getD ((i).toNat) (0, 0)).1), AI ((a.getD ((i).toNat) (0, 0)).2)]), (23, .rptr [AI ((a.getD ((i).toNat) (0, 0)).1), AI ((a.getD ((i).toNat) (0, 0)).2)]), (24, AI ((a.getD ((i).toNat) (0, 0)).1)), (25, .bool (decide (((a.getD ((i).toNat) (0, 0)).1) = 0))), (26, .bool (decide (((a.getD ((i).toNat) (0, 0)).1) = 0))), (35, .bool (decide (((a.getD ((i).toNat) (0, 0)).1) = 2))), (36, .bool (decide (((a.getD ((i).toNat) (0, 0)).1) = 2))), (37, .fn 85 [.ptr 1 0])]) (by kernel_rfl) (by kernel_rfl) (by kernel_rfl) ?_)
        refine R.go 1 (R.enter (avs := [.ptr 1 0]) Tryz.func85 rfl (by kernel_rfl) (by kernel_rfl) (by kernel_rfl) ?_)
        intro us9
        refine R.go 9 (R.arE (((S.take (S.length - 1)).length : Int) - 1) ((((S.take (S.length - 1)).length) - 1 : Nat) : Int) (by kernel_rfl) (by omega) (by omega) (by omega) (by kernel_rfl) ?_)
        refine R.idxO 2 1 (S.take (S.length - 1)).length (((S.take (S.length - 1)).length) - 1) ((((S.take (S.length - 1)).length) - 1 : Nat) : Int) (by kernel_rfl) (by omega) (by first | omega | (simp <;> omega)) (by kernel_rfl) ?_
        refine R.ldI (S.take (S.length - 1)) (((S.take (S.length - 1)).length) - 1) (by kernel_rfl) (by first | omega | (simp <;> omega)) (by kernel_rfl) ?_
        refine R.go 7 (R.arE (((S.take (S.length - 1)).length : Int) - 1) ((((S.take (S.length - 1)).length) - 1 : Nat) : Int) (by kernel_rfl) (by omega) (by omega) (by omega) (by kernel_rfl) ?_)
        refine R.cut eI (S.take (S.length - 1)) 2 2 (((S.take (S.length - 1)).length) - 1) ((((S.take (S.length - 1)).length) - 1 : Nat) : Int) (by kernel_rfl) (by omega) eI_len (by first | omega | (simp <;> omega)) (by kernel_rfl) ?_
        refine R.go 7 (R.back (AI ((S.take (S.length - 1)).getD (((S.take (S.length - 1)).length) - 1) 0)) (frm 65 [(1, LI vs), (2, LN a), (3, .ptr 0 0), (7, .ptr 1 0), (8, .fn 85 [.ptr 1 0]), (9, AI i), (10, AI 0), (16, AI i), (17, .bool (decide (i ≥ 0))), (20, LN a), (21, AI i), (22, .rptr [AI ((a.getD ((i).toNat) (0, 0)).1), AI ((a.getD ((i).toNat) (0, 0)).2)]), (23, .rptr [AI ((a.getD ((i).toNat) (0, 0)).1), AI ((a.getD ((i).toNat) (0, 0)).2)]), (24, AI ((a.getD ((i).toNat) (0, 0)).1)), (25, .bool (decide (((a.getD ((i).toNat) (0, 0)).1) = 0))), (26, .bool (decide (((a.getD ((i).toNat) (0, 0)).1) = 0))), (35, .bool (decide (((a.getD ((i).toNat) (0, 0)).1) = 2))), (36, .bool (decide (((a.getD ((i).toNat) (0, 0)).1) = 2))), (37, .fn 85 [.ptr 1 0]), (38, AI (S.getD (S.length - 1) 0)), (39, .fn 85 [.ptr 1 0])]) (by kernel_rfl) (by kernel_rfl) (by kernel_rfl) ?_)
        refine R.go 8 (R.app eI ((S.take (S.length - 1)).take (((S.take (S.length - 1)).length) - 1)) [band (S.getD (S.length - 1) 0) ((S.take (S.length - 1)).getD (((S.take (S.length - 1)).length) - 1) 0)] 2 2 1 8 (by kernel_rfl) eI_one (by decide) (by first | omega | (simp <;> omega)) (by kernel_rfl) ?_)
        refine R.go 5 (R.ar (i - 1) (by kernel_rfl) (by omega) (by omega) (by kernel_rfl) ?_)
        exact R.go 2 (R.stop R1 (by kernel_rfl) (N2 (i - 1, ((S.take (S.length - 1)).take (((S.take (S.length - 1)).length) - 1)) ++ [band (S.getD (S.length - 1) 0) ((S.take (S.length - 1)).getD (((S.take (S.length - 1)).length) - 1) 0)]) [1, 2, 3, 7, 8, 9] (some [0, 1, 2]) _ (by kernel_rfl) (by kernel_rfl) ⟨(by omega), (by omega), (by simp <;> omega), (by first | exact stkg_push ‹S = _› (by omega) (by omega) (by omega) | exact stkg_bot ‹S = _› (by omega) (by omega) (by omega) | exact stkg_two hok ‹S = _› (by omega) (by omega) ‹(a.getD i.toNat (0, 0)).1 = _› (by omega) rfl rfl rfl rfl)⟩ (by show (((i - 1) + 1).toNat) < ((i + 1).toNat); omega)))
      · refine R.go 5 (R.cond (((a.getD ((i).toNat) (0, 0)).1) = 3) (by kernel_rfl) (fun c10 => ?_) (fun c10 => ?_))
        · refine R.go 2 (R.enter (avs := [.ptr 1 0]) Tryz.func85 rfl (by kernel_rfl) (by kernel_rfl) (by kernel_rfl) ?_)
          intro us11
          refine R.go 9 (R.arE ((S.length : Int) - 1) ((S.length - 1 : Nat) : Int) (by kernel_rfl) (by omega) (by omega) (by omega) (by kernel_rfl) ?_)
          refine R.idxO 2 1 S.length (S.length - 1) ((S.length - 1 : Nat) : Int) (by kernel_rfl) (by omega) (by omega) (by kernel_rfl) ?_
          refine R.ldI S (S.length - 1) (by kernel_rfl) (by omega) (by kernel_rfl) ?_
          refine R.go 7 (R.arE ((S.length : Int) - 1) ((S.length - 1 : Nat) : Int) (by kernel_rfl) (by omega) (by omega) (by omega) (by kernel_rfl) ?_)
          refine R.cut eI S 2 2 (S.length - 1) ((S.length - 1 : Nat) : Int) (by kernel_rfl) (by omega) eI_len (by omega) (by kernel_rfl) ?_
          refine R.go 7 (R.back (AI (S.getD (S.length - 1) 0)) (frm 65 [(1, LI vs), (2, LN a), (3, .ptr 0 0), (7, .ptr 1 0), (8, .fn 85 [.ptr 1 0]), (9, AI i), (10, AI 0), (16, AI i), (17, .bool (decide (i ≥ 0))), (20, LN a), (21, AI i), (22, .rptr [AI ((a.getD ((i).toNat) (0, 0)).1), AI ((a.getD ((i).toNat) (0, 0)).2)]), (23, .rptr [AI ((a.getD ((i).toNat) (0, 0)).1), AI ((a.getD ((i).toNat) (0, 0)).2)]), (24, AI ((a.getD ((i).toNat) (0, 0)).1)), (25, .bool (decide (((a.getD ((i).toNat) (0, 0)).1) = 0))), (26, .bool (decide (((a.getD ((i).toNat) (0, 0)).1) = 0))), (35, .bool (decide (((a.getD ((i).toNat) (0, 0)).1) = 2))), (36, .bool (decide (((a.getD ((i).toNat) (0, 0)).1) = 2))), (42, .bool (decide (((a.getD ((i).toNat) (0, 0)).1) = 3))), (43, .bool (decide (((a.getD ((i).toNat) (0, 0)).1) = 3))), (44, .fn 85 [.ptr 1 0])]) (by kernel_rfl) (by kernel_rfl) (by kernel_rfl) ?_)
          refine R.go 1 (R.enter (avs := [.ptr 1 0]) Tryz.func85 rfl (by kernel_rfl) (by kernel_rfl) (by kernel_rfl) ?_)
          intro us12
          refine R.go 9 (R.arE (((S.take (S.length - 1)).length : Int) - 1) ((((S.take (S.length - 1)).length) - 1 : Nat) : Int) (by kernel_rfl) (by omega) (by omega) (by omega) (by kernel_rfl) ?_)
          refine R.idxO 2 1 (S.take (S.length - 1)).length (((S.take (S.length - 1)).length) - 1) ((((S.take (S.length - 1)).length) - 1 : Nat) : Int) (by kernel_rfl) (by omega) (by first | omega | (simp <;> omega)) (by kernel_rfl) ?_
          refine R.ldI (S.take (S.length - 1)) (((S.take (S.length - 1)).length) - 1) (by kernel_rfl) (by first | omega | (simp <;> omega)) (by kernel_rfl) ?_
          refine R.go 7 (R.arE (((S.take (S.length - 1)).length : Int) - 1) ((((S.take (S.length - 1)).length) - 1 : Nat) : Int) (by kernel_rfl) (by omega) (by omega) (by omega) (by kernel_rfl) ?_)
          refine R.cut eI (S.take (S.length - 1)) 2 2 (((S.take (S.length - 1)).length) - 1) ((((S.take (S.length - 1)).length) - 1 : Nat) : Int) (by kernel_rfl) (by omega) eI_len (by first | omega | (simp <;> omega)) (by kernel_rfl) ?_
          refine R.go 7 (R.back (AI ((S.take (S.length - 1)).getD (((S.take (S.length - 1)).length) - 1) 0)) (frm 65 [(1, LI vs), (2, LN a), (3, .ptr 0 0), (7, .ptr 1 0), (8, .fn 85 [.ptr 1 0]), (9, AI i), (10, AI 0), (16, AI i), (17, .bool (decide (i ≥ 0))), (20, LN a), (21, AI i), (22, .rptr [AI ((a.getD ((i).toNat) (0, 0)).1), AI ((a.getD ((i).toNat) (0, 0)).2)]), (23, .rptr [AI ((a.getD ((i).toNat) (0, 0)).1), AI ((a.getD ((i).toNat) (0, 0)).2)]), (24, AI ((a.getD ((i).toNat) (0, 0)).1)), (25, .bool (decide (((a.getD ((i).toNat) (0, 0)).1) = 0))), (26, .bool (decide (((a.getD ((i).toNat) (0, 0)).1) = 0))), (35, .bool (decide (((a.getD ((i).toNat) (0, 0)).1) = 2))), (36, .bool (decide (((a.getD ((i).toNat) (0, 0)).1) = 2))), (42, .bool (decide (((a.getD ((i).toNat) (0, 0)).1) = 3))), (43, .bool (decide (((a.getD ((i).toNat) (0, 0)).1) = 3))), (44, .fn 85 [.ptr 1 0]), (45, AI (S.getD (S.length - 1) 0)), (46, .fn 85 [.ptr 1 0])]) (by kernel_rfl) (by kernel_rfl) (by kernel_rfl) ?_)
          refine R.go 8 (R.app eI ((S.take (S.length - 1)).take (((S.take (S.length - 1)).length) - 1)) [bor (S.getD (S.length - 1) 0) ((S.take (S.length - 1)).getD (((S.take (S.length - 1)).length) - 1) 0)] 2 2 1 8 (by kernel_rfl) eI_one (by decide) (by first | omega | (simp <;> omega)) (by kernel_rfl) ?_)
          refine R.go 5 (R.ar (i - 1) (by kernel_rfl) (by omega) (by omega) (by kernel_rfl) ?_)
          exact R.go 2 (R.stop R1 (by kernel_rfl) (N2 (i - 1, ((S.take (S.length - 1)).take (((S.take (S.length - 1)).length) - 1)) ++ [bor (S.getD (S.length - 1) 0) ((S.take (S.length - 1)).getD (((S.take (S.length - 1)).length) - 1) 0)]) [1, 2, 3, 7, 8, 9] (some [0, 1, 2]) _ (by kernel_rfl) (by kernel_rfl) ⟨(by omega), (by omega), (by simp <;> omega), (by first | exact stkg_push ‹S = _› (by omega) (by omega) (by omega) | exact stkg_bot ‹S = _› (by omega) (by omega) (by omega) | exact stkg_two hok ‹S = _› (by omega) (by omega) ‹(a.getD i.toNat (0, 0)).1 = _› (by omega) rfl rfl rfl rfl)⟩ (by show (((i - 1) + 1).toNat) < ((i + 1).toNat); omega)))
        · refine R.go 5 (R.cond (((a.getD ((i).toNat) (0, 0)).1) = 4) (by kernel_rfl) (fun c13 => ?_) (fun c13 => ?_))
          · refine R.go 3 (R.enter (avs := [.ptr 1 0]) Tryz.func85 rfl (by kernel_rfl) (by kernel_rfl) (by kernel_rfl) ?_)
            intro us14
            refine R.go 9 (R.arE ((S.length : Int) - 1) ((S.length - 1 : Nat) : Int) (by kernel_rfl) (by omega) (by omega) (by omega) (by kernel_rfl) ?_)
            refine R.idxO 2 1 S.length (S.length - 1) ((S.length - 1 : Nat) : Int) (by kernel_rfl) (by omega) (by omega) (by kernel_rfl) ?_
            refine R.ldI S (S.length - 1) (by kernel_rfl) (by omega) (by kernel_rfl) ?_
            refine R.go 7 (R.arE ((S.length : Int) - 1) ((S.length - 1 : Nat) : Int) (by kernel_rfl) (by omega) (by omega) (by omega) (by kernel_rfl) ?_)
            refine R.cut eI S 2 2 (S.length - 1) ((S.length - 1 : Nat) : Int) (by kernel_rfl) (by omega) eI_len (by omega) (by kernel_rfl) ?_
            refine R.go 7 (R.back (AI (S.getD (S.length - 1) 0)) (frm 65 [(1, LI vs), (2, LN a), (3, .ptr 0 0), (7, .ptr 1 0), (8, .fn 85 [.ptr 1 0]), (9, AI i), (10, AI 0), (16, AI i), (17, .bool (decide (i ≥ 0))), (20, LN a), (21, AI i), (22, .rptr [AI ((a.getD ((i).toNat) (0, 0)).1), AI ((a.getD ((i).toNat) (0, 0)).2)]), (23, .rptr [AI ((a.getD ((i).toNat) (0, 0)).1), AI ((a.getD ((i).toNat) (0, 0)).2)]), (24, AI ((a.getD ((i).toNat) (0, 0)).1)), (25, .bool (decide (((a.getD ((i).toNat) (0, 0)).1) = 0))), (26, .bool (decide (((a.getD ((i).toNat) (0, 0)).1) = 0))), (35, .bool (decide (((a.getD ((i).toNat) (0, 0)).1) = 2))), (36, .bool (decide (((a.getD ((i).toNat) (0, 0)).1) = 2))), (42, .bool (decide (((a.getD ((i).toNat) (0, 0)).1) = 3))), (43, .bool (decide (((a.getD ((i).toNat) (0, 0)).1) = 3))), (49, .bool (decide (((a.getD ((i).toNat) (0, 0)).1) = 4))), (50, .bool (decide (((a.getD ((i).toNat) (0, 0)).1) = 4))), (51, .fn 85 [.ptr 1 0])]) (by kernel_rfl) (by kernel_rfl) (by kernel_rfl) ?_)
            refine R.go 2 (R.any (by decide +kernel) (by kernel_rfl) ?_)
            refine R.anyF 1 (by kernel_rfl) (np_ret _ _ _) ?_
            refine R.anyF 2 (by kernel_rfl) (np_ret _ _ _) ?_
            refine R.any2 0 3 (by kernel_rfl) (by kernel_rfl) ?_ ?_
            · refine R.go 2 (R.any1 3 (by kernel_rfl) (by kernel_rfl) ?_)
              refine R.enter (avs := [.ptr 1 0]) Tryz.func85 rfl (by kernel_rfl) (by kernel_rfl) (by kernel_rfl) ?_
              intro us15
              refine R.go 9 (R.arE (((S.take (S.length - 1)).length : Int) - 1) ((((S.take (S.length - 1)).length) - 1 : Nat) : Int) (by kernel_rfl) (by omega) (by omega) (by omega) (by kernel_rfl) ?_)
              refine R.idxO 2 1 (S.take (S.length - 1)).length (((S.take (S.length - 1)).length) - 1) ((((S.take (S.length - 1)).length) - 1 : Nat) : Int) (by kernel_rfl) (by omega) (by first | omega | (simp <;> omega)) (by kernel_rfl) ?_
              refine R.ldI (S.take (S.length - 1)) (((S.take (S.length - 1)).length) - 1) (by kernel_rfl) (by first | omega | (simp <;> omega)) (by kernel_rfl) ?_
              refine R.go 7 (R.arE (((S.take (S.length - 1)).length : Int) - 1) ((((S.take (S.length - 1)).length) - 1 : Nat) : Int) (by kernel_rfl) (by omega) (by omega) (by omega) (by kernel_rfl) ?_)
              refine R.cut eI (S.take (S.length - 1)) 2 2 (((S.take (S.length - 1)).length) - 1) ((((S.take (S.length - 1)).length) - 1 : Nat) : Int) (by kernel_rfl) (by omega) eI_len (by first | omega | (simp <;> omega)) (by kernel_rfl) ?_
              refine R.go 7 (R.back (AI ((S.take (S.length - 1)).getD (((S.take (S.length - 1)).length) - 1) 0)) (frm 65 [(1, LI vs), (2, LN a), (3, .ptr 0 0), (7, .ptr 1 0), (8, .fn 85 [.ptr 1 0]), (9, AI i), (10, AI 0), (11, AI (S.getD (S.length - 1) 0)), (16, AI i), (17, .bool (decide (i ≥ 0))), (20, LN a), (21, AI i), (22, .rptr [AI ((a.getD ((i).toNat) (0, 0)).1), AI ((a.getD ((i).toNat) (0, 0)).2)]), (23, .rptr [AI ((a.getD ((i).toNat) (0, 0)).1), AI ((a.getD ((i).toNat) (0, 0)).2)]), (24, AI ((a.getD ((i).toNat) (0, 0)).1)), (25, .bool (decide (((a.getD ((i).toNat) (0, 0)).1) = 0))), (26, .bool (decide (((a.getD ((i).toNat) (0, 0)).1) = 0))), (35, .bool (decide (((a.getD ((i).toNat) (0, 0)).1) = 2))), (36, .bool (decide (((a.getD ((i).toNat) (0, 0)).1) = 2))), (42, .bool (decide (((a.getD ((i).toNat) (0, 0)).1) = 3))), (43, .bool (decide (((a.getD ((i).toNat) (0, 0)).1) = 3))), (49, .bool (decide (((a.getD ((i).toNat) (0, 0)).1) = 4))), (50, .bool (decide (((a.getD ((i).toNat) (0, 0)).1) = 4))), (51, .fn 85 [.ptr 1 0]), (52, AI (S.getD (S.length - 1) 0)), (53, .agg [AI n, LI xs]), (54, AI (S.getD (S.length - 1) 0)), (55, .fn 85 [.ptr 1 0])]) (by kernel_rfl) (by kernel_rfl) (by kernel_rfl) ?_)
              refine R.go 1 (R.any1 4 (by kernel_rfl) (by kernel_rfl) ?_)
              refine R.call true (imply2_c n xs (S.getD (S.length - 1) 0) ((S.take (S.length - 1)).getD (((S.take (S.length - 1)).length) - 1) 0) h0 (by omega) hx) (by kernel_rfl) rfl (by kernel_rfl) ?_
              refine R.go 1 (R.any1 5 (by kernel_rfl) (by kernel_rfl) ?_)
              refine R.go 2 (R.any0 (by kernel_rfl) ?_)
              refine R.go 5 (R.app eI ((S.take (S.length - 1)).take (((S.take (S.length - 1)).length) - 1)) [pxB xs (bor (bnot ((shl64 1 n) - 1) (S.getD (S.length - 1) 0)) ((S.take (S.length - 1)).getD (((S.take (S.length - 1)).length) - 1) 0))] 2 2 1 8 (by kernel_rfl) eI_one (by decide) (by first | omega | (simp <;> omega)) (by kernel_rfl) ?_)
              refine R.go 5 (R.ar (i - 1) (by kernel_rfl) (by omega) (by omega) (by kernel_rfl) ?_)
              exact R.go 2 (R.stop R1 (by kernel_rfl) (N2 (i - 1, ((S.take (S.length - 1)).take (((S.take (S.length - 1)).length) - 1)) ++ [pxB xs (bor (bnot ((shl64 1 n) - 1) (S.getD (S.length - 1) 0)) ((S.take (S.length - 1)).getD (((S.take (S.length - 1)).length) - 1) 0))]) [1, 2, 3, 7, 8, 9] (some [0, 1, 2]) _ (by kernel_rfl) (by kernel_rfl) ⟨(by omega), (by omega), (by simp <;> omega), (by first | exact stkg_push ‹S = _› (by omega) (by omega) (by omega) | exact stkg_bot ‹S = _› (by omega) (by omega) (by omega) | exact stkg_two hok ‹S = _› (by omega) (by omega) ‹(a.getD i.toNat (0, 0)).1 = _› (by omega) rfl rfl rfl rfl)⟩ (by show (((i - 1) + 1).toNat) < ((i + 1).toNat); omega)))
            · refine R.enter (avs := [.ptr 1 0]) Tryz.func85 rfl (by kernel_rfl) (by kernel_rfl) (by kernel_rfl) ?_
              intro us16
              refine R.go 9 (R.arE (((S.take (S.length - 1)).length : Int) - 1) ((((S.take (S.length - 1)).length) - 1 : Nat) : Int) (by kernel_rfl) (by omega) (by omega) (by omega) (by kernel_rfl) ?_)
              refine R.idxO 2 1 (S.take (S.length - 1)).length (((S.take (S.length - 1)).length) - 1) ((((S.take (S.length - 1)).length) - 1 : Nat) : Int) (by kernel_rfl) (by omega) (by first | omega | (simp <;> omega)) (by kernel_rfl) ?_
              refine R.ldI (S.take (S.length - 1)) (((S.take (S.length - 1)).length) - 1) (by kernel_rfl) (by first | omega | (simp <;> omega)) (by kernel_rfl) ?_
              refine R.go 7 (R.arE (((S.take (S.length - 1)).length : Int) - 1) ((((S.take (S.length - 1)).length) - 1 : Nat) : Int) (by kernel_rfl) (by omega) (by omega) (by omega) (by kernel_rfl) ?_)
              refine R.cut eI (S.take (S.length - 1)) 2 2 (((S.take (S.length - 1)).length) - 1) ((((S.take (S.length - 1)).length) - 1 : Nat) : Int) (by kernel_rfl) (by omega) eI_len (by first | omega | (simp <;> omega)) (by kernel_rfl) ?_
              refine R.go 7 (R.back (AI ((S.take (S.length - 1)).getD (((S.take (S.length - 1)).length) - 1) 0)) (frm 65 [(1, LI vs), (2, LN a), (3, .ptr 0 0), (7, .ptr 1 0), (8, .fn 85 [.ptr 1 0]), (9, AI i), (10, AI 0), (11, AI (S.getD (S.length - 1) 0)), (16, AI i), (17, .bool (decide (i ≥ 0))), (20, LN a), (21, AI i), (22, .rptr [AI ((a.getD ((i).toNat) (0, 0)).1), AI ((a.getD ((i).toNat) (0, 0)).2)]), (23, .rptr [AI ((a.getD ((i).toNat) (0, 0)).1), AI ((a.getD ((i).toNat) (0, 0)).2)]), (24, AI ((a.getD ((i).toNat) (0, 0)).1)), (25, .bool (decide (((a.getD ((i).toNat) (0, 0)).1) = 0))), (26, .bool (decide (((a.getD ((i).toNat) (0, 0)).1) = 0))), (35, .bool (decide (((a.getD ((i).toNat) (0, 0)).1) = 2))), (36, .bool (decide (((a.getD ((i).toNat) (0, 0)).1) = 2))), (42, .bool (decide (((a.getD ((i).toNat) (0, 0)).1) = 3))), (43, .bool (decide (((a.getD ((i).toNat) (0, 0)).1) = 3))), (49, .bool (decide (((a.getD ((i).toNat) (0, 0)).1) = 4))), (50, .bool (decide (((a.getD ((i).toNat) (0, 0)).1) = 4))), (51, .fn 85 [.ptr 1 0]), (52, AI (S.getD (S.length - 1) 0)), (54, AI (S.getD (S.length - 1) 0)), (55, .fn 85 [.ptr 1 0])]) (by kernel_rfl) (by kernel_rfl) (by kernel_rfl) ?_)
              refine R.go 1 (R.any1 0 (by kernel_rfl) (by kernel_rfl) ?_)
              refine R.go 2 (R.any1 4 (by kernel_rfl) (by kernel_rfl) ?_)
              refine R.call true (imply2_c n xs (S.getD (S.length - 1) 0) ((S.take (S.length - 1)).getD (((S.take (S.length - 1)).length) - 1) 0) h0 (by omega) hx) (by kernel_rfl) rfl (by kernel_rfl) ?_
              refine R.go 1 (R.any1 5 (by kernel_rfl) (by kernel_rfl) ?_)
              refine R.go 2 (R.any0 (by kernel_rfl) ?_)
              refine R.go 5 (R.app eI ((S.take (S.length - 1)).take (((S.take (S.length - 1)).length) - 1)) [pxB xs (bor (bnot ((shl64 1 n) - 1) (S.getD (S.length - 1) 0)) ((S.take (S.length - 1)).getD (((S.take (S.length - 1)).length) - 1) 0))] 2 2 1 8 (by kernel_rfl) eI_one (by decide) (by first | omega | (simp <;> omega)) (by kernel_rfl) ?_)
              refine R.go 5 (R.ar (i - 1) (by kernel_rfl) (by omega) (by omega) (by kernel_rfl) ?_)
              exact R.go 2 (R.stop R1 (by kernel_rfl) (N2 (i - 1, ((S.take (S.length - 1)).take (((S.take (S.length - 1)).length) - 1)) ++ [pxB xs (bor (bnot ((shl64 1 n) - 1) (S.getD (S.length - 1) 0)) ((S.take (S.length - 1)).getD (((S.take (S.length - 1)).length) - 1) 0))]) [1, 2, 3, 7, 8, 9] (some [0, 1, 2]) _ (by kernel_rfl) (by kernel_rfl) ⟨(by omega), (by omega), (by simp <;> omega), (by first | exact stkg_push ‹S = _› (by omega) (by omega) (by omega) | exact stkg_bot ‹S = _› (by omega) (by omega) (by omega) | exact stkg_two hok ‹S = _› (by omega) (by omega) ‹(a.getD i.toNat (0, 0)).1 = _› (by omega) rfl rfl rfl rfl)⟩ (by show (((i - 1) + 1).toNat) < ((i + 1).toNat); omega)))
          · refine R.go 6 (R.app eI S [0] 2 2 1 8 (by kernel_rfl) eI_one (by decide) (by first | omega | (simp <;> omega)) (by kernel_rfl) ?_)
            refine R.go 5 (R.ar (i - 1) (by kernel_rfl) (by omega) (by omega) (by kernel_rfl) ?_)
            exact R.go 2 (R.stop R1 (by kernel_rfl) (N2 (i - 1, S ++ [0]) [1, 2, 3, 7, 8, 9] (some [0, 1, 2]) _ (by kernel_rfl) (by kernel_rfl) ⟨(by omega), (by omega), (by simp <;> omega), (by first | exact stkg_push ‹S = _› (by omega) (by omega) (by omega) | exact stkg_bot ‹S = _› (by omega) (by omega) (by omega) | exact stkg_two hok ‹S = _› (by omega) (by omega) ‹(a.getD i.toNat (0, 0)).1 = _› (by omega) rfl rfl rfl rfl)⟩ (by show (((i - 1) + 1).toNat) < ((i + 1).toNat); omega)))
  · refine R.go 4 (R.idxO 2 1 S.length 0 0 (by kernel_rfl) rfl (by omega) (by kernel_rfl) ?_)
    refine R.ldI S 0 (by kernel_rfl) (by omega) (by kernel_rfl) ?_
    exact R.go 2 (R.retE (AI (S.getD 0 0)) (by kernel_rfl) (by kernel_rfl) (by first | (apply congrArg AI; rw [fcd, stkg_fin hok ‹S = _› (by omega)]; rfl) | (exfalso; omega)))

theorem l17Force2_c : ∀ (k : Nat) (n : Int) (xs : List Int) (vs : List Int) (a : List (Int × Int)) (hk : a.length = k) (hok : OKM vs.length a) (hp : a.any modN = false) (h0 : 0 ≤ n) (h1 : n ≤ 8) (hx : xs.length ≤ 60) (hl : a.length ≤ 1000000000), CallA Tryz.prog 49 [.agg [AI n, LI xs], LI vs, LN a] (AI (gv (pT n (pxA xs)) pU vs a)) := by
  intro k
  induction k using Nat.strongRecOn with
  | _ k ih =>
  intro n xs vs a hk hok hp h0 h1 hx hl
  have hlen := okm_pos hok
  have hg := okm_get hok 0 (by omega)
  have hgp := plain_get hp (j := 0) (by omega)
  refine CallA.of Tryz.func49 rfl (by kernel_rfl) ?_
  refine R.go 9 (R.idx eN a (0, 0) 0 0 (by kernel_rfl) rfl eN_len (by first | omega | (have hq := lenm_lef hok ((partsN_two _).2 (by omega)); omega)) (by kernel_rfl) ?_)
  refine R.go 9 (R.cond (((a.getD 0 (0, 0)).1) = 0) (by kernel_rfl) (fun c1 => ?_) (fun c1 => ?_))
  · refine R.go 4 (R.idx eN a (0, 0) 0 0 (by kernel_rfl) rfl eN_len (by first | omega | (have hq := lenm_lef hok ((partsN_two _).2 (by omega)); omega)) (by kernel_rfl) ?_)
    refine R.go 2 (R.idx eI vs 0 (((a.getD 0 (0, 0)).2).toNat) ((a.getD 0 (0, 0)).2) (by kernel_rfl) (by first | omega | (have hq := lenm_lef hok ((partsN_two _).2 (by omega)); omega)) eI_len (by first | omega | (have hq := lenm_lef hok ((partsN_two _).2 (by omega)); omega)) (by kernel_rfl) ?_)
    exact R.go 3 (R.retE (AI (vs.getD (((a.getD 0 (0, 0)).2).toNat) 0)) (by kernel_rfl) (by kernel_rfl) (by first | (apply congrArg AI; first | exact gv_two (pT n (pxA xs)) pU vs hok ‹(a.getD 0 (0, 0)).1 = _› (by omega) | exact gv_two (pT n (pxA xs)) pU vs hok (k := 4) (by omega) (by omega) | exact gv_var _ _ _ hok (by omega) | exact gv_bot _ _ _ hok (by omega)) | (exfalso; omega)))
  · refine R.go 5 (R.cond (((a.getD 0 (0, 0)).1) = 1) (by kernel_rfl) (fun c2 => ?_) (fun c2 => ?_))
    · exact R.go 4 (R.retE (AI 0) (by kernel_rfl) (by kernel_rfl) (by first | (apply congrArg AI; first | exact gv_two (pT n (pxA xs)) pU vs hok ‹(a.getD 0 (0, 0)).1 = _› (by omega) | exact gv_two (pT n (pxA xs)) pU vs hok (k := 4) (by omega) (by omega) | exact gv_var _ _ _ hok (by omega) | exact gv_bot _ _ _ hok (by omega)) | (exfalso; omega)))
    · refine R.go 5 (R.cond (((a.getD 0 (0, 0)).1) = 2) (by kernel_rfl) (fun c3 => ?_) (fun c3 => ?_))
      · refine R.go 5 (R.call true (l02Left_c vs.length a hok (by exact (partsN_two _).2 (by omega)) hl) (by kernel_rfl) rfl (by kernel_rfl) ?_)
        refine R.call true (ih ((lef a).length) (by first | omega | (have hq := lenm_lef hok ((partsN_two _).2 (by omega)); omega)) n xs vs (lef a) (by first | rfl | simp) (by first | assumption | exact okm_lef hok ((partsN_two _).2 (by omega)) | exact okm_rig hok ((partsN_two _).2 (by omega))) (by first | assumption | exact plain_lef hp | exact plain_rig hp) h0 h1 hx (by first | omega | (have hq := lenm_lef hok ((partsN_two _).2 (by omega)); omega))) (by kernel_rfl) rfl (by kernel_rfl) ?_
        refine R.go 3 (R.call true (l02Right_c vs.length a hok (by exact (partsN_two _).2 (by omega)) hl) (by kernel_rfl) rfl (by kernel_rfl) ?_)
        refine R.call true (ih ((rig a).length) (by first | omega | (have hq := lenm_lef hok ((partsN_two _).2 (by omega)); omega)) n xs vs (rig a) (by first | rfl | simp) (by first | assumption | exact okm_lef hok ((partsN_two _).2 (by omega)) | exact okm_rig hok ((partsN_two _).2 (by omega))) (by first | assumption | exact plain_lef hp | exact plain_rig hp) h0 h1 hx (by first | omega | (have hq := lenm_lef hok ((partsN_two _).2 (by omega)); omega))) (by kernel_rfl) rfl (by kernel_rfl) ?_
        exact R.go 3 (R.retE (AI (band (gv (pT n (pxA xs)) pU vs (lef a)) (gv (pT n (pxA xs)) pU vs (rig a)))) (by kernel_rfl) (by kernel_rfl) (by first | (apply congrArg AI; first | exact gv_two (pT n (pxA xs)) pU vs hok ‹(a.getD 0 (0, 0)).1 = _› (by omega) | exact gv_two (pT n (pxA xs)) pU vs hok (k := 4) (by omega) (by omega) | exact gv_var _ _ _ hok (by omega) | exact gv_bot _ _ _ hok (by omega)) | (exfalso; omega)))
      · refine R.go 5 (R.cond (((a.getD 0 (0, 0)).1) = 3) (by kernel_rfl) (fun c4 => ?_) (fun c4 => ?_))
        · refine R.go 5 (R.call true (l02Left_c vs.length a hok (by exact (partsN_two _).2 (by omega)) hl) (by kernel_rfl) rfl (by kernel_rfl) ?_)
          refine R.call true (ih ((lef a).length) (by first | omega | (have hq := lenm_lef hok ((partsN_two _).2 (by omega)); omega)) n xs vs (lef a) (by first | rfl | simp) (by first | assumption | exact okm_lef hok ((partsN_two _).2 (by omega)) | exact okm_rig hok ((partsN_two _).2 (by omega))) (by first | assumption | exact plain_lef hp | exact plain_rig hp) h0 h1 hx (by first | omega | (have hq := lenm_lef hok ((partsN_two _).2 (by omega)); omega))) (by kernel_rfl) rfl (by kernel_rfl) ?_
          refine R.go 3 (R.call true (l02Right_c vs.length a hok (by exact (partsN_two _).2 (by omega)) hl) (by kernel_rfl) rfl (by kernel_rfl) ?_)
          refine R.call true (ih ((rig a).length) (by first | omega | (have hq := lenm_lef hok ((partsN_two _).2 (by omega)); omega)) n xs vs (rig a) (by first | rfl | simp) (by first | assumption | exact okm_lef hok ((partsN_two _).2 (by omega)) | exact okm_rig hok ((partsN_two _).2 (by omega))) (by first | assumption | exact plain_lef hp | exact plain_rig hp) h0 h1 hx (by first | omega | (have hq := lenm_lef hok ((partsN_two _).2 (by omega)); omega))) (by kernel_rfl) rfl (by kernel_rfl) ?_
          exact R.go 3 (R.retE (AI (bor (gv (pT n (pxA xs)) pU vs (lef a)) (gv (pT n (pxA xs)) pU vs (rig a)))) (by kernel_rfl) (by kernel_rfl) (by first | (apply congrArg AI; first | exact gv_two (pT n (pxA xs)) pU vs hok ‹(a.getD 0 (0, 0)).1 = _› (by omega) | exact gv_two (pT n (pxA xs)) pU vs hok (k := 4) (by omega) (by omega) | exact gv_var _ _ _ hok (by omega) | exact gv_bot _ _ _ hok (by omega)) | (exfalso; omega)))
        · refine R.go 8 (R.call true (l02Left_c vs.length a hok (by exact (partsN_two _).2 (by omega)) hl) (by kernel_rfl) rfl (by kernel_rfl) ?_)
          refine R.call true (ih ((lef a).length) (by first | omega | (have hq := lenm_lef hok ((partsN_two _).2 (by omega)); omega)) n xs vs (lef a) (by first | rfl | simp) (by first | assumption | exact okm_lef hok ((partsN_two _).2 (by omega)) | exact okm_rig hok ((partsN_two _).2 (by omega))) (by first | assumption | exact plain_lef hp | exact plain_rig hp) h0 h1 hx (by first | omega | (have hq := lenm_lef hok ((partsN_two _).2 (by omega)); omega))) (by kernel_rfl) rfl (by kernel_rfl) ?_
          refine R.go 3 (R.call true (l02Right_c vs.length a hok (by exact (partsN_two _).2 (by omega)) hl) (by kernel_rfl) rfl (by kernel_rfl) ?_)
          refine R.call true (ih ((rig a).length) (by first | omega | (have hq := lenm_lef hok ((partsN_two _).2 (by omega)); omega)) n xs vs (rig a) (by first | rfl | simp) (by first | assumption | exact okm_lef hok ((partsN_two _).2 (by omega)) | exact okm_rig hok ((partsN_two _).2 (by omega))) (by first | assumption | exact plain_lef hp | exact plain_rig hp) h0 h1 hx (by first | omega | (have hq := lenm_lef hok ((partsN_two _).2 (by omega)); omega))) (by kernel_rfl) rfl (by kernel_rfl) ?_
          refine R.call true (arrow2_c n xs (gv (pT n (pxA xs)) pU vs (lef a)) (gv (pT n (pxA xs)) pU vs (rig a)) h0 (by first | omega | (have hq := lenm_lef hok ((partsN_two _).2 (by omega)); omega)) hx) (by kernel_rfl) rfl (by kernel_rfl) ?_
          exact R.go 2 (R.retE (AI (pxA xs (bor (bnot ((shl64 1 n) - 1) (gv (pT n (pxA xs)) pU vs (lef a))) (gv (pT n (pxA xs)) pU vs (rig a))))) (by kernel_rfl) (by kernel_rfl) (by first | (apply congrArg AI; first | exact gv_two (pT n (pxA xs)) pU vs hok ‹(a.getD 0 (0, 0)).1 = _› (by omega) | exact gv_two (pT n (pxA xs)) pU vs hok (k := 4) (by omega) (by omega) | exact gv_var _ _ _ hok (by omega) | exact gv_bot _ _ _ hok (by omega)) | (exfalso; omega)))

theorem l17ForceF_c (n : Int) (xs vs : List Int) (a : List (Int × Int)) (hok : OKM vs.length a) (hp : a.any modN = false) (hR : okFr n xs = true) (hl : a.length ≤ 1000000000) : CallA Tryz.prog 49 [.agg [AI n, LI xs], LI vs, LN a] (AI (fcd n xs vs a)) := by
  have hF := okFr_rel hR
  have h := l17Force2_c a.length n xs vs a rfl hok hp hF.1 hF.2.1 (by omega) hl
  rw [pxAB hR] at h
  exact h

theorem allPlain1_c (a : List (Int × Int)) (hl : a.length ≤ 1000000000) : CallA Tryz.prog 110 [LN a] (.bool (anyM a)) := by
  refine CallA.of Tryz.func110 rfl (by kernel_rfl) ?_
  refine R.go 7 (R.call true (isPlain_c a hl) (by kernel_rfl) rfl (by kernel_rfl) ?_)
  exact R.go 3 (R.retE (.bool (!(!(a.any modN)))) (by kernel_rfl) (by kernel_rfl) (by first | (apply congrArg AV.bool; simp [anyM]) | (exfalso; omega)))

theorem index_anyM_c (l : List (List (Int × Int))) (hs : shortL l) : CallA Tryz.prog 147 [LLN l, .fn 110 []] (AI (fidxF anyM l 0)) := by
  have hl := hs.1
  refine CallA.of Tryz.func147 rfl (by kernel_rfl) ?_
  refine R.go 12 (R.loop (fun (i : Nat) => (⟨(frm 19 [(0, LLN l), (1, .fn 110 []), (7, AI l.length), (8, AI (i : Int))]), []⟩ : St)) (fun (i : Nat) => (i ≤ l.length) ∧ (fidxF anyM l 0 = fidxF anyM (l.drop i) i)) (fun (i : Nat) => l.length - i) 0 [0, 1, 7, 8] none (by kernel_rfl) (by kernel_rfl) (by kernel_rfl) ⟨(by omega), (by rfl)⟩ ?_)
  rintro i ⟨h3_1, h3_2⟩ R1 N2
  refine R.go 5 (R.cond ((i : Int) < (l.length : Int)) (by kernel_rfl) (fun c4 => ?_) (fun c4 => ?_))
  · have hj := hs.2 i (by omega)
    refine R.go 13 (R.idx eLN l [] i (i : Int) (by kernel_rfl) rfl eLN_len (by omega) (by kernel_rfl) ?_)
    refine R.go 1 (R.call true (allPlain1_c (l.getD i []) (by first | omega | (simp <;> omega))) (by kernel_rfl) rfl (by kernel_rfl) ?_)
    refine R.go 1 (R.condB (anyM (l.getD i [])) (by kernel_rfl) (fun c5 => ?_) (fun c5 => ?_))
    · exact R.go 5 (R.retE (AI (i : Int)) (by kernel_rfl) (by kernel_rfl) (by first | (apply congrArg AI; rw [‹fidxF anyM l 0 = _›]; first | exact (fidxF_end (by omega)).symm | exact (fidxF_hit (by omega) (by assumption)).symm) | (exfalso; omega)))
    · refine R.go 3 (R.ar ((i : Int) + 1) (by kernel_rfl) (by omega) (by omega) (by kernel_rfl) ?_)
      exact R.go 2 (R.stop R1 (by kernel_rfl) (N2 (i + 1) [0, 1, 7, 8] none _ (by kernel_rfl) (by kernel_rfl) ⟨(by omega), (by rw [‹fidxF anyM l 0 = _›]; exact fidxF_miss (by omega) (by assumption))⟩ (by show (l.length - (i + 1)) < (l.length - i); omega)))
  · exact R.go 5 (R.retE (AI (-1)) (by kernel_rfl) (by kernel_rfl) (by first | (apply congrArg AI; rw [‹fidxF anyM l 0 = _›]; first | exact (fidxF_end (by omega)).symm | exact (fidxF_hit (by omega) (by assumption)).symm) | (exfalso; omega)))

theorem contains_anyM_c (l : List (List (Int × Int))) (hs : shortL l) : CallA Tryz.prog 107 [LLN l, .fn 110 []] (.bool (l.any anyM)) := by
  refine CallA.of Tryz.func107 rfl (by kernel_rfl) ?_
  refine R.go 8 (R.call true (index_anyM_c l hs) (by kernel_rfl) rfl (by kernel_rfl) ?_)
  exact R.go 3 (R.retE (.bool (decide ((fidxF anyM l 0) ≥ 0))) (by kernel_rfl) (by kernel_rfl) (by first | (apply congrArg AV.bool; rw [Bool.eq_iff_iff, decide_eq_true_iff]; exact fidxF_any (Int.le_refl 0)) | (exfalso; omega)))

theorem allPlain_c (l : List (List (Int × Int))) (hs : shortL l) : CallA Tryz.prog 73 [LLN l] (.bool (allPl l)) := by
  refine CallA.of Tryz.func73 rfl (by kernel_rfl) ?_
  refine R.go 7 (R.call true (contains_anyM_c l hs) (by kernel_rfl) rfl (by kernel_rfl) ?_)
  exact R.go 3 (R.retE (.bool (!(l.any anyM))) (by kernel_rfl) (by kernel_rfl) (by first | (rfl) | (exfalso; omega)))

theorem fits_c (U : Int) (m : Nat) (h0 : 0 ≤ U) (h1 : U ≤ 1000) (hm : m ≤ 1000) : CallA Tryz.prog 74 [AI U, AI (m : Int)] (.bool (decide (pwT U m ≤ 4096))) := by
  refine CallA.of Tryz.func74 rfl (by kernel_rfl) ?_
  refine R.go 15 (R.loop ((fun | (j, p) => (⟨(frm 15 [(0, AI U), (5, AI p), (6, AI (m : Int)), (7, AI (j : Int))]), []⟩ : St) : Nat × Int → St)) (fun | (j, p) => (j ≤ m) ∧ (pwT U j ≤ 4096) ∧ (p = pwT U j)) (fun | (j, p) => m - j) (0, 1) [0, 5, 6, 7] none (by kernel_rfl) (by kernel_rfl) (by kernel_rfl) ⟨(by omega), (by simp [pwT]), (by rfl)⟩ ?_)
  rintro ⟨j, p⟩ ⟨h4_1, h4_2, rfl⟩ R1 N2
  have hpr := pwT_rng h0 h1 j
  have hmr := mul_rng h0 h1 hpr.1 (by assumption)
  refine R.go 5 (R.cond ((j : Int) < (m : Int)) (by kernel_rfl) (fun c5 => ?_) (fun c5 => ?_))
  · refine R.go 7 (R.ar ((pwT U j) * U) (by kernel_rfl) (by omega) (by omega) (by kernel_rfl) ?_)
    refine R.go 7 (R.cond (((pwT U j) * U) > 4096) (by kernel_rfl) (fun c6 => ?_) (fun c6 => ?_))
    · exact R.go 4 (R.retE (.bool false) (by kernel_rfl) (by kernel_rfl) (by first | (apply congrArg AV.bool; first | (refine (decide_eq_true ?_).symm; rw [show m = j by omega]; assumption) | (refine (decide_eq_false ?_).symm; rw [pwT_stay (k := j + 1) (by rw [← pwT_step (by assumption)]; omega) m (by omega), ← pwT_step (by assumption)]; omega)) | (exfalso; omega)))
    · refine R.go 3 (R.ar ((j : Int) + 1) (by kernel_rfl) (by omega) (by omega) (by kernel_rfl) ?_)
      exact R.go 2 (R.stop R1 (by kernel_rfl) (N2 (j + 1, (pwT U j) * U) [0, 5, 6, 7] none _ (by kernel_rfl) (by kernel_rfl) ⟨(by omega), (by rw [← pwT_step (by assumption)]; omega), (by exact pwT_step (by assumption))⟩ (by show (m - (j + 1)) < (m - j); omega)))
  · exact R.go 5 (R.retE (.bool true) (by kernel_rfl) (by kernel_rfl) (by first | (apply congrArg AV.bool; first | (refine (decide_eq_true ?_).symm; rw [show m = j by omega]; assumption) | (refine (decide_eq_false ?_).symm; rw [pwT_stay (k := j + 1) (by rw [← pwT_step (by assumption)]; omega) m (by omega), ← pwT_step (by assumption)]; omega)) | (exfalso; omega)))

theorem l17Power_c (U : Int) (m : Nat) (h0 : 0 ≤ U) (h1 : U ≤ 1000) (hm : m ≤ 1000) : CallA Tryz.prog 48 [AI U, AI (m : Int)] (AI (pwT U m)) := by
  refine CallA.of Tryz.func48 rfl (by kernel_rfl) ?_
  refine R.go 10 (R.loop ((fun | (j, kk, p) => (⟨(frm 18 [(0, AI U), (1, AI kk), (5, AI p)]), []⟩ : St) : Nat × Int × Int → St)) (fun | (j, kk, p) => (j ≤ m) ∧ (kk = (m : Int) - j) ∧ (p = pwT U j)) (fun | (j, kk, p) => m - j) (0, (m : Int), 1) [0, 1, 5] none (by kernel_rfl) (by kernel_rfl) (by kernel_rfl) ⟨(by omega), (by simp), (by rfl)⟩ ?_)
  rintro ⟨j, kk, p⟩ ⟨h4_1, h4_2, rfl⟩ R1 N2
  have hpr := pwT_rng h0 h1 j
  have hmr := fun h : pwT U j ≤ 4096 => mul_rng h0 h1 hpr.1 h
  refine R.go 6 ?_
  by_cases c5 : kk > 0
  · refine R.want (decide (kk > 0)) true (by kernel_rfl) (dT c5) ?_
    refine R.go 1 (R.want (decide (kk > 0)) true (by kernel_rfl) (dT c5) ?_)
    refine R.go 1 (R.pick (decide (kk > 0)) true (by kernel_rfl) (dT c5) (by kernel_rfl) ?_)
    refine R.go 1 (R.cond ((pwT U j) ≤ 4096) (by kernel_rfl) (fun c6 => ?_) (fun c6 => ?_))
    · refine R.go 6 (R.ar ((pwT U j) * U) (by kernel_rfl) (by omega) (by omega) (by kernel_rfl) ?_)
      refine R.go 5 (R.ar (kk - 1) (by kernel_rfl) (by omega) (by omega) (by kernel_rfl) ?_)
      exact R.go 2 (R.stop R1 (by kernel_rfl) (N2 ((j + 1), kk - 1, (pwT U j) * U) [0, 1, 5] none _ (by kernel_rfl) (by kernel_rfl) ⟨(by omega), (by omega), (by exact pwT_step (by assumption))⟩ (by show (m - (j + 1)) < (m - j); omega)))
    · exact R.go 6 (R.retE (AI (pwT U j)) (by kernel_rfl) (by kernel_rfl) (by first | (apply congrArg AI; first | (rw [show m = j by omega]) | exact (pwT_stay (by omega) m (by omega)).symm) | (exfalso; omega)))
  · refine R.skp (decide (kk > 0)) true (by kernel_rfl) (dF c5) (by kernel_rfl) ?_
    refine R.skp (decide (kk > 0)) true (by kernel_rfl) (dF c5) (by kernel_rfl) ?_
    refine R.pick (decide (kk > 0)) false (by kernel_rfl) (dF c5) (by kernel_rfl) ?_
    exact R.go 8 (R.retE (AI (pwT U j)) (by kernel_rfl) (by kernel_rfl) (by first | (apply congrArg AI; first | (rw [show m = j by omega]) | exact (pwT_stay (by omega) m (by omega)).symm) | (exfalso; omega)))

theorem posetSearch_c (n : Int) (xs : List Int) (l : List (List (Int × Int))) (lx : xs.length ≤ 1048576) (hs : shortL l) : CallA Tryz.prog 37 [.agg [AI n, LI xs], LLN l] (AI (pcode n xs l)) := by
  have hub := fun h : okPo n xs = true => upL_len h
  have hmm := mem_le (vmT l l.length)
  have hsl := hs.1
  refine CallA.of Tryz.func37 rfl (by kernel_rfl) ?_
  refine R.go 10 (R.call true (isPoset_c n xs (by first | omega | (have h2 := hub (by assumption); omega))) (by kernel_rfl) rfl (by kernel_rfl) ?_)
  refine R.go 2 ?_
  refine (Bool.eq_false_or_eq_true (okPo n xs)).elim (fun c1 => ?_) (fun c1 => ?_)
  · refine R.want (!(okPo n xs)) false (by kernel_rfl) (bnF c1) ?_
    refine R.go 1 (R.want (!(okPo n xs)) false (by kernel_rfl) (bnF c1) ?_)
    refine R.call true (areFormulas_c l hs) (by kernel_rfl) rfl (by kernel_rfl) ?_
    refine R.want (!(okPo n xs)) false (by kernel_rfl) (bnF c1) ?_
    refine R.go 1 (R.pick (!(okPo n xs)) false (by kernel_rfl) (bnF c1) (by kernel_rfl) ?_)
    refine R.go 2 (R.condM (allF l) (by kernel_rfl) (fun c2 => ?_) (fun c2 => ?_))
    · exact R.go 4 (R.retE (AI 1) (by kernel_rfl) (by kernel_rfl) (by first | (apply congrArg AI; first | exact pc_1 (by assumption) | exact pc_2 (by assumption) | exact pc_5 (by assumption) (by assumption) (by assumption) | exact pc_3 (by assumption) (by assumption) (by assumption) (by assumption) | exact pc_0 (by assumption) (by assumption) (by assumption) (by assumption)) | (exfalso; omega)))
    · refine R.go 3 (R.call true (allPlain_c l hs) (by kernel_rfl) rfl (by kernel_rfl) ?_)
      refine R.go 3 (R.condM (allPl l) (by kernel_rfl) (fun c3 => ?_) (fun c3 => ?_))
      · exact R.go 4 (R.retE (AI 5) (by kernel_rfl) (by kernel_rfl) (by first | (apply congrArg AI; first | exact pc_1 (by assumption) | exact pc_2 (by assumption) | exact pc_5 (by assumption) (by assumption) (by assumption) | exact pc_3 (by assumption) (by assumption) (by assumption) (by assumption) | exact pc_0 (by assumption) (by assumption) (by assumption) (by assumption)) | (exfalso; omega)))
      · refine R.go 3 (R.call true (upsets_c n xs c1).frz (by kernel_rfl) rfl (by kernel_rfl) ?_)
        refine R.go 2 (R.call true (variablesIn_c l c2 (by first | omega | (have h2 := hub (by assumption); omega))).frz (by kernel_rfl) rfl (by kernel_rfl) ?_)
        refine R.go 1 (R.call true (fits_c ((upL n xs).length) ((mem (vmT l l.length)).length) (by first | omega | (have h2 := hub (by assumption); omega)) (by first | omega | (have h2 := hub (by assumption); omega)) (by first | omega | (have h2 := hub (by assumption); omega))) (by kernel_rfl) rfl (by kernel_rfl) ?_)
        refine R.go 3 (R.condN (pwT ((upL n xs).length) ((mem (vmT l l.length)).length) ≤ 4096) (by kernel_rfl) (fun c4 => ?_) (fun c4 => ?_))
        · exact R.go 4 (R.retE (AI 3) (by kernel_rfl) (by kernel_rfl) (by first | (apply congrArg AI; first | exact pc_1 (by assumption) | exact pc_2 (by assumption) | exact pc_5 (by assumption) (by assumption) (by assumption) | exact pc_3 (by assumption) (by assumption) (by assumption) (by assumption) | exact pc_0 (by assumption) (by assumption) (by assumption) (by assumption)) | (exfalso; omega)))
        · exact R.go 6 (R.retE (AI 0) (by kernel_rfl) (by kernel_rfl) (by first | (apply congrArg AI; first | exact pc_1 (by assumption) | exact pc_2 (by assumption) | exact pc_5 (by assumption) (by assumption) (by assumption) | exact pc_3 (by assumption) (by assumption) (by assumption) (by assumption) | exact pc_0 (by assumption) (by assumption) (by assumption) (by assumption)) | (exfalso; omega)))
  · refine R.skp (!(okPo n xs)) false (by kernel_rfl) (bnT c1) (by kernel_rfl) ?_
    refine R.skp (!(okPo n xs)) false (by kernel_rfl) (bnT c1) (by kernel_rfl) ?_
    refine R.skp (!(okPo n xs)) false (by kernel_rfl) (bnT c1) (by kernel_rfl) ?_
    refine R.pick (!(okPo n xs)) true (by kernel_rfl) (bnT c1) (by kernel_rfl) ?_
    exact R.go 7 (R.retE (AI 1) (by kernel_rfl) (by kernel_rfl) (by first | (apply congrArg AI; first | exact pc_1 (by assumption) | exact pc_2 (by assumption) | exact pc_5 (by assumption) (by assumption) (by assumption) | exact pc_3 (by assumption) (by assumption) (by assumption) (by assumption) | exact pc_0 (by assumption) (by assumption) (by assumption) (by assumption)) | (exfalso; omega)))

theorem l17Search_c (n : Int) (xs : List Int) (l : List (List (Int × Int))) (lx : xs.length ≤ 1048576) (hs : shortL l) : CallA Tryz.prog 34 [.agg [AI n, LI xs], LLN l] (AI (pcode n xs l)) := by
  have hub := fun h : okPo n xs = true => upL_len h
  have hmm := mem_le (vmT l l.length)
  have hsl := hs.1
  have hs2 := hs.2
  refine CallA.of Tryz.func34 rfl (by kernel_rfl) ?_
  refine R.go 9 (R.call true (l16Is_c n xs (by first | omega | assumption | (have h2 := hub (by assumption); omega))) (by kernel_rfl) rfl (by kernel_rfl) ?_)
  refine R.go 2 (R.condM (okPo n xs) (by kernel_rfl) (fun c1 => ?_) (fun c1 => ?_))
  · exact R.go 4 (R.retE (AI 1) (by kernel_rfl) (by kernel_rfl) (by first | (apply congrArg AI; first | exact pc_1 (by assumption) | exact pc_2 (allF_no (i := i) (by omega) (by assumption)) | exact pc_5 (by assumption) hAF (by rw [hAP]; assumption) | exact pc_3 (by assumption) hAF (by rw [hAP]; assumption) (by omega) | exact pc_0 (by assumption) hAF (by rw [hAP]; assumption) (by omega)) | (exfalso; omega)))
  · refine R.go 11 (R.loop ((fun | (i, pl) => (⟨(frm 42 [(1, LLN l), (2, .ptr 0 0), (5, .bool pl), (6, AI (i : Int))]), [.box 30 [AI n, LI xs]]⟩ : St) : Nat × Bool → St)) (fun | (i, pl) => (i ≤ l.length) ∧ (∀ j : Nat, j < i → isF (l.getD j []) = true) ∧ (plTo l i = pl)) (fun | (i, pl) => l.length - i) (0, true) [1, 2, 5, 6] none (by kernel_rfl) (by kernel_rfl) (by kernel_rfl) ⟨(by omega), (by exact fun j hj => absurd hj (by omega)), (by rfl)⟩ ?_)
    rintro ⟨i, pl⟩ ⟨h5_1, h5_2, h5_3⟩ R2 N3
    have hsi := hs2 i
    refine R.go 8 (R.cond ((i : Int) < (l.length : Int)) (by kernel_rfl) (fun c6 => ?_) (fun c6 => ?_))
    · have hsj := hsi (by omega)
      refine R.go 8 (R.idx eLN l [] i (i : Int) (by kernel_rfl) rfl eLN_len (by first | omega | (have h2 := hub (by assumption); omega)) (by kernel_rfl) ?_)
      refine R.go 1 (R.call true (l02Is_c (l.getD i []) (by first | omega | assumption | (have h2 := hub (by assumption); omega))) (by kernel_rfl) rfl (by kernel_rfl) ?_)
      refine R.go 2 (R.condM (isF (l.getD i [])) (by kernel_rfl) (fun c7 => ?_) (fun c7 => ?_))
      · exact R.go 4 (R.retE (AI 1) (by kernel_rfl) (by kernel_rfl) (by first | (apply congrArg AI; first | exact pc_1 (by assumption) | exact pc_2 (allF_no (i := i) (by omega) (by assumption)) | exact pc_5 (by assumption) hAF (by rw [hAP]; assumption) | exact pc_3 (by assumption) hAF (by rw [hAP]; assumption) (by omega) | exact pc_0 (by assumption) hAF (by rw [hAP]; assumption) (by omega)) | (exfalso; omega)))
      · refine R.go 4 ?_
        refine (Bool.eq_false_or_eq_true (pl)).elim (fun c8 => ?_) (fun c8 => ?_)
        · refine R.want (pl) true (by kernel_rfl) c8 ?_
          refine R.go 1 (R.want (pl) true (by kernel_rfl) c8 ?_)
          refine R.go 1 (R.want (pl) true (by kernel_rfl) c8 ?_)
          refine R.idx eLN l [] i (i : Int) (by kernel_rfl) rfl eLN_len (by first | omega | (have h2 := hub (by assumption); omega)) (by kernel_rfl) ?_
          refine R.want (pl) true (by kernel_rfl) c8 ?_
          refine R.go 1 (R.want (pl) true (by kernel_rfl) c8 ?_)
          refine R.call true (l02Plain_c (l.getD i []) (by first | omega | assumption | (have h2 := hub (by assumption); omega))) (by kernel_rfl) rfl (by kernel_rfl) ?_
          refine R.pick (pl) true (by kernel_rfl) c8 (by kernel_rfl) ?_
          refine R.go 5 (R.ar ((i : Int) + 1) (by kernel_rfl) (by first | omega | (have h2 := hub (by assumption); omega)) (by first | omega | (have h2 := hub (by assumption); omega)) (by kernel_rfl) ?_)
          exact R.go 2 (R.stop R2 (by kernel_rfl) (N3 (i + 1, !((l.getD i []).any modN)) [1, 2, 5, 6] none _ (by kernel_rfl) (by kernel_rfl) ⟨(by omega), (by exact below1 (P := fun j => isF (l.getD j []) = true) (by assumption) (by assumption)), (by first | exact (plTo_step (by omega) (by assumption) (by assumption)).symm | exact (plTo_off (by omega) (by assumption) (by assumption)).symm)⟩ (by show (l.length - (i + 1)) < (l.length - i); omega)))
        · refine R.skp (pl) true (by kernel_rfl) c8 (by kernel_rfl) ?_
          refine R.skp (pl) true (by kernel_rfl) c8 (by kernel_rfl) ?_
          refine R.skp (pl) true (by kernel_rfl) c8 (by kernel_rfl) ?_
          refine R.skp (pl) true (by kernel_rfl) c8 (by kernel_rfl) ?_
          refine R.skp (pl) true (by kernel_rfl) c8 (by kernel_rfl) ?_
          refine R.pick (pl) false (by kernel_rfl) c8 (by kernel_rfl) ?_
          refine R.go 5 (R.ar ((i : Int) + 1) (by kernel_rfl) (by first | omega | (have h2 := hub (by assumption); omega)) (by first | omega | (have h2 := hub (by assumption); omega)) (by kernel_rfl) ?_)
          exact R.go 2 (R.stop R2 (by kernel_rfl) (N3 (i + 1, false) [1, 2, 5, 6] none _ (by kernel_rfl) (by kernel_rfl) ⟨(by omega), (by exact below1 (P := fun j => isF (l.getD j []) = true) (by assumption) (by assumption)), (by first | exact (plTo_step (by omega) (by assumption) (by assumption)).symm | exact (plTo_off (by omega) (by assumption) (by assumption)).symm)⟩ (by show (l.length - (i + 1)) < (l.length - i); omega)))
    · have hAF : allF l = true := allF_all fun j hj => (‹∀ j : Nat, j < i → isF (l.getD j []) = true›) j (by omega)
      have hAP : allPl l = pl := by rw [← plTo_all (show l.length ≤ i by omega)]; assumption
      refine R.go 9 (R.condM (pl) (by kernel_rfl) (fun c9 => ?_) (fun c9 => ?_))
      · exact R.go 4 (R.retE (AI 5) (by kernel_rfl) (by kernel_rfl) (by first | (apply congrArg AI; first | exact pc_1 (by assumption) | exact pc_2 (allF_no (i := i) (by omega) (by assumption)) | exact pc_5 (by assumption) hAF (by rw [hAP]; assumption) | exact pc_3 (by assumption) hAF (by rw [hAP]; assumption) (by omega) | exact pc_0 (by assumption) hAF (by rw [hAP]; assumption) (by omega)) | (exfalso; omega)))
      · refine R.go 3 (R.call true (l16Upsets_c n xs c1).frz (by kernel_rfl) rfl (by kernel_rfl) ?_)
        refine R.go 2 (R.call true (l06Variables_c l hAF (by first | omega | assumption | (have h2 := hub (by assumption); omega))).frz (by kernel_rfl) rfl (by kernel_rfl) ?_)
        refine R.go 1 (R.call true (l17Power_c ((upL n xs).length) ((mem (vmT l l.length)).length) (by first | omega | assumption | (have h2 := hub (by assumption); omega)) (by first | omega | assumption | (have h2 := hub (by assumption); omega)) (by first | omega | assumption | (have h2 := hub (by assumption); omega))) (by kernel_rfl) rfl (by kernel_rfl) ?_)
        refine R.go 3 (R.cond ((pwT ((upL n xs).length) ((mem (vmT l l.length)).length)) > 4096) (by kernel_rfl) (fun c10 => ?_) (fun c10 => ?_))
        · exact R.go 4 (R.retE (AI 3) (by kernel_rfl) (by kernel_rfl) (by first | (apply congrArg AI; first | exact pc_1 (by assumption) | exact pc_2 (allF_no (i := i) (by omega) (by assumption)) | exact pc_5 (by assumption) hAF (by rw [hAP]; assumption) | exact pc_3 (by assumption) hAF (by rw [hAP]; assumption) (by omega) | exact pc_0 (by assumption) hAF (by rw [hAP]; assumption) (by omega)) | (exfalso; omega)))
        · exact R.go 6 (R.retE (AI 0) (by kernel_rfl) (by kernel_rfl) (by first | (apply congrArg AI; first | exact pc_1 (by assumption) | exact pc_2 (allF_no (i := i) (by omega) (by assumption)) | exact pc_5 (by assumption) hAF (by rw [hAP]; assumption) | exact pc_3 (by assumption) hAF (by rw [hAP]; assumption) (by omega) | exact pc_0 (by assumption) hAF (by rw [hAP]; assumption) (by omega)) | (exfalso; omega)))

end Go.Proofs.YtkanjgmocmhlkaaGreat
