/- Texts of the proof: Z01, Z02, Z03, Z04. -/
import Derived.Test.YtjllngcefoohpaaGreatPartJ

/-! Forcing on posets; the codes of searches. -/
namespace Go.Proofs.YtjllngcefoohpaaGreat
open Go.RowKit Go.Abs

def pxB (xs : List Int) (m : Int) : Int := boxB xs m xs.length
def pxA (xs : List Int) (m : Int) : Int := boxA xs m xs.length
theorem pxAB {n : Int} {xs : List Int} (h : okFr n xs = true) : pxA xs = pxB xs := by
  obtain ⟨h0, h8, hl, hr⟩ := okFr_rel h
  funext m
  refine boxAB xs m (fun x hx => ?_) _ (Nat.le_refl _)
  obtain ⟨j, hj, rfl⟩ := List.getElem_of_mem hx
  have hg : xs[j] = xs.getD j 0 := by rw [List.getD_eq_getElem?_getD, List.getElem?_eq_getElem hj]; rfl
  rw [hg]
  exact wrap_inM (by omega) (hr.2 j (by omega))
/-- The words of plain formulas. -/
def pT (n : Int) (bx : Int → Int) (k p q : Int) : Int := if k = 2 then band p q else if k = 3 then bor p q else bx (bor (bnot ((shl64 1 n) - 1) p) q)
def pU (_ _ : Int) : Int := 0
/-- The value of a formula. -/
def fcd (n : Int) (xs vs : List Int) (a : List (Int × Int)) : Int := gv (pT n (pxB xs)) pU vs a
theorem plain_get {a : List (Int × Int)} (h : a.any modN = false) {j : Nat} (hj : j < a.length) : ¬ ((a.getD j (0, 0)).1 = 5 ∨ (a.getD j (0, 0)).1 = 6) := by
  have h1 := List.any_eq_false.1 h (a.getD j (0, 0)) (by rw [List.getD_eq_getElem?_getD, List.getElem?_eq_getElem hj]; exact List.getElem_mem _)
  exact (mod_no _).1 (by simpa using h1)
theorem plain_sub {a b : List (Int × Int)} (h : a.any modN = false) (hb : ∀ x ∈ b, x ∈ a) : b.any modN = false := List.any_eq_false.2 fun x hx => List.any_eq_false.1 h x (hb x hx)
theorem plain_lef {a : List (Int × Int)} (h : a.any modN = false) : (lef a).any modN = false := plain_sub h fun x hx => List.mem_of_mem_take (List.mem_of_mem_drop hx)
theorem plain_rig {a : List (Int × Int)} (h : a.any modN = false) : (rig a).any modN = false := plain_sub h fun x hx => List.mem_of_mem_drop hx
def anyM (a : List (Int × Int)) : Bool := a.any modN
def allPl (l : List (List (Int × Int))) : Bool := !l.any anyM
def pwT (U : Int) : Nat → Int
  | 0 => 1
  | k + 1 => if pwT U k ≤ 4096 then pwT U k * U else pwT U k
theorem pwT_step {U : Int} {k : Nat} (h : pwT U k ≤ 4096) : pwT U k * U = pwT U (k + 1) := by rw [pwT, if_pos h]
theorem pwT_stay {U : Int} {k : Nat} (h : ¬ pwT U k ≤ 4096) : ∀ m : Nat, k ≤ m → pwT U m = pwT U k := by
  intro m hm
  induction m with
  | zero => rw [show k = 0 by omega]
  | succ m ih =>
    by_cases e : k = m + 1
    · rw [e]
    · rw [pwT, ih (by omega), if_neg h]
theorem pwT_pow {U : Nat} {m : Nat} (h : pwT (U : Int) m ≤ 4096) : ∀ k : Nat, k ≤ m → pwT (U : Int) k = ((U ^ k : Nat) : Int)
  | 0, _ => rfl
  | k + 1, hk => by
    have h1 : pwT (U : Int) k ≤ 4096 := by
      rcases Int.lt_or_le 4096 (pwT (U : Int) k) with h2 | h2
      · have := pwT_stay (U := (U : Int)) (k := k) (by omega) m (by omega)
        omega
      · exact h2
    rw [pwT, if_pos h1, pwT_pow h k (by omega), Nat.pow_succ, Int.natCast_mul]
theorem pwT_rng {U : Int} (h0 : 0 ≤ U) (h1 : U ≤ 1000) : ∀ k : Nat, 0 ≤ pwT U k ∧ pwT U k ≤ 4096000
  | 0 => by simp [pwT]
  | k + 1 => by
    have ih := pwT_rng h0 h1 k
    rw [pwT]
    split
    · rename_i h
      refine ⟨Int.mul_nonneg ih.1 h0, ?_⟩
      have := Int.mul_le_mul h h1 h0 (by omega)
      omega
    · exact ih
theorem mul_rng {p U : Int} (h0 : 0 ≤ U) (h1 : U ≤ 1000) (h2 : 0 ≤ p) (h3 : p ≤ 4096) : 0 ≤ p * U ∧ p * U ≤ 4096000 := by
  refine ⟨Int.mul_nonneg h2 h0, ?_⟩
  have := Int.mul_le_mul h3 h1 h0 (by omega)
  omega
theorem upL_len {n : Int} {xs : List Int} (h : okPo n xs = true) : (upL n xs).length ≤ 256 := by
  have := upR_len n xs
  rwa [upR, if_pos h] at this
/-- The code of a search. -/
def pcode (n : Int) (xs : List Int) (l : List (List (Int × Int))) : Int := if okPo n xs = true ∧ allF l = true then (if allPl l = true then (if pwT ((upL n xs).length : Int) (mem (vmT l l.length)).length ≤ 4096 then 0 else 3) else 5) else 1
section
variable {n : Int} {xs : List Int} {l : List (List (Int × Int))}
theorem pc_1 (h : okPo n xs = false) : 1 = pcode n xs l := by rw [pcode, if_neg (by simp [h])]
theorem pc_2 (h : allF l = false) : 1 = pcode n xs l := by rw [pcode, if_neg (by simp [h])]
theorem pc_5 (h : okPo n xs = true) (h2 : allF l = true) (h3 : allPl l = false) : 5 = pcode n xs l := by rw [pcode, if_pos ⟨h, h2⟩, if_neg (by rw [h3]; decide)]
theorem pc_3 (h : okPo n xs = true) (h2 : allF l = true) (h3 : allPl l = true) (h4 : ¬ pwT ((upL n xs).length : Int) (mem (vmT l l.length)).length ≤ 4096) : 3 = pcode n xs l := by rw [pcode, if_pos ⟨h, h2⟩, if_pos h3, if_neg h4]
theorem pc_0 (h : okPo n xs = true) (h2 : allF l = true) (h3 : allPl l = true) (h4 : pwT ((upL n xs).length : Int) (mem (vmT l l.length)).length ≤ 4096) : 0 = pcode n xs l := by rw [pcode, if_pos ⟨h, h2⟩, if_pos h3, if_pos h4]
theorem pc_ok (h : pcode n xs l = 0) : okPo n xs = true ∧ allF l = true ∧ allPl l = true ∧ pwT ((upL n xs).length : Int) (mem (vmT l l.length)).length ≤ 4096 := by
  unfold pcode at h
  split at h
  · rename_i h1
    split at h
    · rename_i h2
      split at h
      · rename_i h3; exact ⟨h1.1, h1.2, h2, h3⟩
      · cases h
    · cases h
  · cases h
theorem allF_no {i : Nat} (hi : i < l.length) (h : isF (l.getD i []) = false) : allF l = false := by
  rw [allF_not, show l.any notF = true from ?_]
  · rfl
  · rw [List.any_eq_true]
    refine ⟨l.getD i [], ?_, notF_yes h⟩
    rw [List.getD_eq_getElem?_getD, List.getElem?_eq_getElem hi, Option.getD_some]
    exact List.getElem_mem hi
theorem allF_all (h : ∀ j : Nat, j < l.length → isF (l.getD j []) = true) : allF l = true := by
  rw [allF_not, show l.any notF = false from ?_]
  · rfl
  · rw [List.any_eq_false]
    intro x hx
    obtain ⟨j, hj, rfl⟩ := List.getElem_of_mem hx
    have := h j hj
    rw [List.getD_eq_getElem?_getD, List.getElem?_eq_getElem hj, Option.getD_some] at this
    rw [notF_no this]; decide
/-- The first i formulas are plain. -/
def plTo (l : List (List (Int × Int))) (i : Nat) : Bool := !(l.take i).any anyM
theorem plTo_step {b : Bool} {i : Nat} (h : i < l.length) (hb : b = true) (hp : plTo l i = b) : (!(l.getD i []).any modN) = plTo l (i + 1) := by
  subst hb
  have h1 : (l.take i).any anyM = false := by simpa [plTo] using hp
  rw [plTo, List.take_succ_eq_append_getElem h, List.any_append, h1, Bool.false_or, List.getD_eq_getElem?_getD, List.getElem?_eq_getElem h]
  simp [anyM]
theorem plTo_off {b : Bool} {i : Nat} (h : i < l.length) (hb : b = false) (hp : plTo l i = b) : false = plTo l (i + 1) := by
  subst hb
  have h1 : (l.take i).any anyM = true := by simpa [plTo] using hp
  rw [plTo, List.take_succ_eq_append_getElem h, List.any_append, h1]
  rfl
theorem plTo_all {i : Nat} (h : l.length ≤ i) : plTo l i = allPl l := by rw [plTo, List.take_of_length_le h]; rfl
end

theorem imply2_c (n : Int) (xs : List Int) (a : Int) (b : Int) (h0 : 0 ≤ n) (h1 : n ≤ 62) (hl : xs.length ≤ 60) : CallA Tryz.prog 167 [.agg [AI n, LI xs], AI a, AI b] (AI (pxB xs (bor (bnot ((shl64 1 n) - 1) a) b))) := by
 refine CallA.of Tryz.func167 rfl (by kernel_rfl) ?_
 refine R.go 10 (k14 true (pAll_c n xs h0 h1) rfl ?_)
 refine R.go 4 (k14 true (box_c xs (bor (bnot ((shl64 1 n) - 1) a) b) hl) rfl ?_)
 exact R.go 2 (k17 (AI (boxB xs (bor (bnot ((shl64 1 n) - 1) a) b) xs.length)) (by first | (rfl) | (exfalso; omega)))

theorem arrow2_c (n : Int) (xs : List Int) (a : Int) (b : Int) (h0 : 0 ≤ n) (h1 : n ≤ 62) (hl : xs.length ≤ 60) : CallA Tryz.prog 335 [.agg [AI n, LI xs], AI a, AI b] (AI (pxA xs (bor (bnot ((shl64 1 n) - 1) a) b))) := by
 refine CallA.of Tryz.func335 rfl (by kernel_rfl) ?_
 refine R.go 11 (k14 true (l01Full_c n h0 h1) rfl ?_)
 refine R.go 4 (k14 true (l01Box_c xs (bor (bnot ((shl64 1 n) - 1) a) b) hl) rfl ?_)
 exact R.go 2 (k17 (AI (boxA xs (bor (bnot ((shl64 1 n) - 1) a) b) xs.length)) (by first | (rfl) | (exfalso; omega)))

theorem forced2_c (n : Int) (xs : List Int) (vs : List Int) (a : List (Int × Int)) (hok : OKM vs.length a) (hp : a.any modN = false) (h0 : 0 ≤ n) (h1 : n ≤ 8) (hx : xs.length ≤ 60) (hl : a.length ≤ 1000000000) : CallA Tryz.prog 75 [.agg [AI n, LI xs], LI vs, LN a] (AI (fcd n xs vs a)) := by
 have hlen := okm_pos hok
 refine CallA.of Tryz.func75 rfl (by kernel_rfl) ?_
 refine R.go 19 (R.arE ((a.length : Int) - 1) ((a.length - 1 : Nat) : Int) (by kernel_rfl) (by omega) (by omega) (by omega) (by kernel_rfl) ?_)
 refine R.go 3 (R.nilB 1 0 2 1 (by kernel_rfl) ?_)
 refine k15 ((fun | (i, S) => (⟨(frm 65 [(1, LI vs), (2, LN a), (3, .ptr 0 0), (7, .ptr 1 0), (8, .fn 166 [.ptr 1 0]), (9, AI i)]), [.box 35 [AI n, LI xs], .box 30 [.ref 2], rowA eI 2 1 S]⟩ : St) : Int × (List Int) → St)) (fun | (i, S) => (-1 ≤ i) ∧ (i < a.length) ∧ (S.length ≤ a.length - i) ∧ (S = (stkG (pT n (pxB xs)) pU vs (a.drop (i + 1).toNat)).reverse)) (fun | (i, S) => (i + 1).toNat) (((a.length - 1 : Nat) : Int), []) [1, 2, 3, 7, 8, 9] none ⟨(by omega), (by omega), (by simp <;> omega), (by rw [show (((a.length - 1 : Nat) : Int) + 1).toNat = a.length by omega, List.drop_length]; rfl)⟩ ?_
 rintro ⟨i, S⟩ ⟨h4_1, h4_2, h4_3, h4_4⟩ R1 N2
 have hk := fun h : 0 ≤ i => okm_get hok i.toNat (by omega)
 have hkp := fun h : 0 ≤ i => plain_get hp (j := i.toNat) (by omega)
 have hS2 := fun h : 0 ≤ i => stkg_room hok ‹S = _› h (by omega)
 have hP2 := fun h : ((a.getD i.toNat (0, 0)).1 = 2 ∨ (a.getD i.toNat (0, 0)).1 = 3 ∨ (a.getD i.toNat (0, 0)).1 = 4) => (partsN_two _).2 h
 have hS1 := fun h : i = -1 => congrArg List.length (stkg_fin hok ‹S = _› h)
 simp only [List.length_cons, List.length_nil] at hS1
 have hT : (S.take (S.length - 1)).length = S.length - 1 := by simp
 refine R.go 6 (k3 (i ≥ 0) (fun c5 => ?_) (fun c5 => ?_))
 ·refine R.go 12 (k8 eN a (0, 0) ((i).toNat) i (by omega) eN_len ?_)
  refine R.go 9 (k3 (((a.getD ((i).toNat) (0, 0)).1) = 0) (fun c6 => ?_) (fun c6 => ?_))
  ·refine R.go 4 (k8 eN a (0, 0) ((i).toNat) i (by omega) eN_len ?_)
   refine R.go 2 (k8 eI vs 0 (((a.getD ((i).toNat) (0, 0)).2).toNat) ((a.getD ((i).toNat) (0, 0)).2) (by omega) eI_len ?_)
   refine R.go 8 (k12 eI S [(vs.getD (((a.getD ((i).toNat) (0, 0)).2).toNat) 0)] 2 2 1 8 eI_one ?_)
   refine R.go 5 (k1 (i - 1) ?_)
   exact R.go 2 (k16 R1 (N2 (i - 1, S ++ [(vs.getD (((a.getD ((i).toNat) (0, 0)).2).toNat) 0)]) [1, 2, 3, 7, 8, 9] (some [0, 1, 2]) _ (by kernel_rfl) (by kernel_rfl) ⟨(by omega), (by omega), (by simp <;> omega), (by first | exact stkg_push ‹S = _› (by omega) (by omega) (by omega) | exact stkg_bot ‹S = _› (by omega) (by omega) (by omega) | exact stkg_two hok ‹S = _› (by omega) (by omega) ‹(a.getD i.toNat (0, 0)).1 = _› (by omega) rfl rfl rfl rfl)⟩ (by show (((i - 1) + 1).toNat) < ((i + 1).toNat); omega)))
  ·refine R.go 5 (k3 (((a.getD ((i).toNat) (0, 0)).1) = 2) (fun c7 => ?_) (fun c7 => ?_))
   ·refine R.go 2 (R.enter (avs := [.ptr 1 0]) Tryz.func166 rfl (by kernel_rfl) (by kernel_rfl) (by kernel_rfl) ?_)
    intro us8
    refine R.go 9 (R.arE ((S.length : Int) - 1) ((S.length - 1 : Nat) : Int) (by kernel_rfl) (by omega) (by omega) (by omega) (by kernel_rfl) ?_)
    refine k9 2 1 S.length (S.length - 1) ((S.length - 1 : Nat) : Int) ?_
    refine k10 S (S.length - 1) ?_
    refine R.go 7 (R.arE ((S.length : Int) - 1) ((S.length - 1 : Nat) : Int) (by kernel_rfl) (by omega) (by omega) (by omega) (by kernel_rfl) ?_)
    refine R.cut eI S 2 2 (S.length - 1) ((S.length - 1 : Nat) : Int) (by kernel_rfl) (by omega) eI_len (by omega) (by kernel_rfl) ?_
    refine R.go 7 (R.back (AI (S.getD (S.length - 1) 0)) (frm 65 [(1, LI vs), (2, LN a), (3, .ptr 0 0), (7, .ptr 1 0), (8, .fn 166 [.ptr 1 0]), (9, AI i), (10, AI 0), (16, AI i), (17, .bool (decide (i ≥ 0))), (20, LN a), (21, AI i), (22, .rptr [AI ((a.getD ((i).toNat) (0, 0)).1), AI ((a.getD ((i).toNat) (0, 0)).2)]), (23, .rptr [AI ((a.getD ((i).toNat) (0, 0)).1), AI ((a.getD ((i).toNat) (0, 0)).2)]), (24, AI ((a.getD ((i).toNat) (0, 0)).1)), (25, .bool (decide (((a.getD ((i).toNat) (0, 0)).1) = 0))), (26, .bool (decide (((a.getD ((i).toNat) (0, 0)).1) = 0))), (35, .bool (decide (((a.getD ((i).toNat) (0, 0)).1) = 2))), (36, .bool (decide (((a.getD ((i).toNat) (0, 0)).1) = 2))), (37, .fn 166 [.ptr 1 0])]) (by kernel_rfl) (by kernel_rfl) (by kernel_rfl) ?_)
    refine R.go 1 (R.enter (avs := [.ptr 1 0]) Tryz.func166 rfl (by kernel_rfl) (by kernel_rfl) (by kernel_rfl) ?_)
    intro us9
    refine R.go 9 (R.arE (((S.take (S.length - 1)).length : Int) - 1) ((((S.take (S.length - 1)).length) - 1 : Nat) : Int) (by kernel_rfl) (by omega) (by omega) (by omega) (by kernel_rfl) ?_)
    refine k9 2 1 (S.take (S.length - 1)).length (((S.take (S.length - 1)).length) - 1) ((((S.take (S.length - 1)).length) - 1 : Nat) : Int) ?_ (hj := by first | omega | (simp only [List.length_set]; omega) | (simp <;> omega))
    refine k10 (S.take (S.length - 1)) (((S.take (S.length - 1)).length) - 1) ?_ (hj := by first | omega | (simp only [List.length_set]; omega) | (simp <;> omega))
    refine R.go 7 (R.arE (((S.take (S.length - 1)).length : Int) - 1) ((((S.take (S.length - 1)).length) - 1 : Nat) : Int) (by kernel_rfl) (by omega) (by omega) (by omega) (by kernel_rfl) ?_)
    refine R.cut eI (S.take (S.length - 1)) 2 2 (((S.take (S.length - 1)).length) - 1) ((((S.take (S.length - 1)).length) - 1 : Nat) : Int) (by kernel_rfl) (by omega) eI_len (by first | omega | (simp only [List.length_set]; omega) | (simp <;> omega)) (by kernel_rfl) ?_
    refine R.go 7 (R.back (AI ((S.take (S.length - 1)).getD (((S.take (S.length - 1)).length) - 1) 0)) (frm 65 [(1, LI vs), (2, LN a), (3, .ptr 0 0), (7, .ptr 1 0), (8, .fn 166 [.ptr 1 0]), (9, AI i), (10, AI 0), (16, AI i), (17, .bool (decide (i ≥ 0))), (20, LN a), (21, AI i), (22, .rptr [AI ((a.getD ((i).toNat) (0, 0)).1), AI ((a.getD ((i).toNat) (0, 0)).2)]), (23, .rptr [AI ((a.getD ((i).toNat) (0, 0)).1), AI ((a.getD ((i).toNat) (0, 0)).2)]), (24, AI ((a.getD ((i).toNat) (0, 0)).1)), (25, .bool (decide (((a.getD ((i).toNat) (0, 0)).1) = 0))), (26, .bool (decide (((a.getD ((i).toNat) (0, 0)).1) = 0))), (35, .bool (decide (((a.getD ((i).toNat) (0, 0)).1) = 2))), (36, .bool (decide (((a.getD ((i).toNat) (0, 0)).1) = 2))), (37, .fn 166 [.ptr 1 0]), (38, AI (S.getD (S.length - 1) 0)), (39, .fn 166 [.ptr 1 0])]) (by kernel_rfl) (by kernel_rfl) (by kernel_rfl) ?_)
    refine R.go 8 (k12 eI ((S.take (S.length - 1)).take (((S.take (S.length - 1)).length) - 1)) [band (S.getD (S.length - 1) 0) ((S.take (S.length - 1)).getD (((S.take (S.length - 1)).length) - 1) 0)] 2 2 1 8 eI_one ?_)
    refine R.go 5 (k1 (i - 1) ?_)
    exact R.go 2 (k16 R1 (N2 (i - 1, ((S.take (S.length - 1)).take (((S.take (S.length - 1)).length) - 1)) ++ [band (S.getD (S.length - 1) 0) ((S.take (S.length - 1)).getD (((S.take (S.length - 1)).length) - 1) 0)]) [1, 2, 3, 7, 8, 9] (some [0, 1, 2]) _ (by kernel_rfl) (by kernel_rfl) ⟨(by omega), (by omega), (by simp <;> omega), (by first | exact stkg_push ‹S = _› (by omega) (by omega) (by omega) | exact stkg_bot ‹S = _› (by omega) (by omega) (by omega) | exact stkg_two hok ‹S = _› (by omega) (by omega) ‹(a.getD i.toNat (0, 0)).1 = _› (by omega) rfl rfl rfl rfl)⟩ (by show (((i - 1) + 1).toNat) < ((i + 1).toNat); omega)))
   ·refine R.go 5 (k3 (((a.getD ((i).toNat) (0, 0)).1) = 3) (fun c10 => ?_) (fun c10 => ?_))
    ·refine R.go 2 (R.enter (avs := [.ptr 1 0]) Tryz.func166 rfl (by kernel_rfl) (by kernel_rfl) (by kernel_rfl) ?_)
     intro us11
     refine R.go 9 (R.arE ((S.length : Int) - 1) ((S.length - 1 : Nat) : Int) (by kernel_rfl) (by omega) (by omega) (by omega) (by kernel_rfl) ?_)
     refine k9 2 1 S.length (S.length - 1) ((S.length - 1 : Nat) : Int) ?_
     refine k10 S (S.length - 1) ?_
     refine R.go 7 (R.arE ((S.length : Int) - 1) ((S.length - 1 : Nat) : Int) (by kernel_rfl) (by omega) (by omega) (by omega) (by kernel_rfl) ?_)
     refine R.cut eI S 2 2 (S.length - 1) ((S.length - 1 : Nat) : Int) (by kernel_rfl) (by omega) eI_len (by omega) (by kernel_rfl) ?_
     refine R.go 7 (R.back (AI (S.getD (S.length - 1) 0)) (frm 65 [(1, LI vs), (2, LN a), (3, .ptr 0 0), (7, .ptr 1 0), (8, .fn 166 [.ptr 1 0]), (9, AI i), (10, AI 0), (16, AI i), (17, .bool (decide (i ≥ 0))), (20, LN a), (21, AI i), (22, .rptr [AI ((a.getD ((i).toNat) (0, 0)).1), AI ((a.getD ((i).toNat) (0, 0)).2)]), (23, .rptr [AI ((a.getD ((i).toNat) (0, 0)).1), AI ((a.getD ((i).toNat) (0, 0)).2)]), (24, AI ((a.getD ((i).toNat) (0, 0)).1)), (25, .bool (decide (((a.getD ((i).toNat) (0, 0)).1) = 0))), (26, .bool (decide (((a.getD ((i).toNat) (0, 0)).1) = 0))), (35, .bool (decide (((a.getD ((i).toNat) (0, 0)).1) = 2))), (36, .bool (decide (((a.getD ((i).toNat) (0, 0)).1) = 2))), (42, .bool (decide (((a.getD ((i).toNat) (0, 0)).1) = 3))), (43, .bool (decide (((a.getD ((i).toNat) (0, 0)).1) = 3))), (44, .fn 166 [.ptr 1 0])]) (by kernel_rfl) (by kernel_rfl) (by kernel_rfl) ?_)
     refine R.go 1 (R.enter (avs := [.ptr 1 0]) Tryz.func166 rfl (by kernel_rfl) (by kernel_rfl) (by kernel_rfl) ?_)
     intro us12
     refine R.go 9 (R.arE (((S.take (S.length - 1)).length : Int) - 1) ((((S.take (S.length - 1)).length) - 1 : Nat) : Int) (by kernel_rfl) (by omega) (by omega) (by omega) (by kernel_rfl) ?_)
     refine k9 2 1 (S.take (S.length - 1)).length (((S.take (S.length - 1)).length) - 1) ((((S.take (S.length - 1)).length) - 1 : Nat) : Int) ?_ (hj := by first | omega | (simp only [List.length_set]; omega) | (simp <;> omega))
     refine k10 (S.take (S.length - 1)) (((S.take (S.length - 1)).length) - 1) ?_ (hj := by first | omega | (simp only [List.length_set]; omega) | (simp <;> omega))
     refine R.go 7 (R.arE (((S.take (S.length - 1)).length : Int) - 1) ((((S.take (S.length - 1)).length) - 1 : Nat) : Int) (by kernel_rfl) (by omega) (by omega) (by omega) (by kernel_rfl) ?_)
     refine R.cut eI (S.take (S.length - 1)) 2 2 (((S.take (S.length - 1)).length) - 1) ((((S.take (S.length - 1)).length) - 1 : Nat) : Int) (by kernel_rfl) (by omega) eI_len (by first | omega | (simp only [List.length_set]; omega) | (simp <;> omega)) (by kernel_rfl) ?_
     refine R.go 7 (R.back (AI ((S.take (S.length - 1)).getD (((S.take (S.length - 1)).length) - 1) 0)) (frm 65 [(1, LI vs), (2, LN a), (3, .ptr 0 0), (7, .ptr 1 0), (8, .fn 166 [.ptr 1 0]), (9, AI i), (10, AI 0), (16, AI i), (17, .bool (decide (i ≥ 0))), (20, LN a), (21, AI i), (22, .rptr [AI ((a.getD ((i).toNat) (0, 0)).1), AI ((a.getD ((i).toNat) (0, 0)).2)]), (23, .rptr [AI ((a.getD ((i).toNat) (0, 0)).1), AI ((a.getD ((i).toNat) (0, 0)).2)]), (24, AI ((a.getD ((i).toNat) (0, 0)).1)), (25, .bool (decide (((a.getD ((i).toNat) (0, 0)).1) = 0))), (26, .bool (decide (((a.getD ((i).toNat) (0, 0)).1) = 0))), (35, .bool (decide (((a.getD ((i).toNat) (0, 0)).1) = 2))), (36, .bool (decide (((a.getD ((i).toNat) (0, 0)).1) = 2))), (42, .bool (decide (((a.getD ((i).toNat) (0, 0)).1) = 3))), (43, .bool (decide (((a.getD ((i).toNat) (0, 0)).1) = 3))), (44, .fn 166 [.ptr 1 0]), (45, AI (S.getD (S.length - 1) 0)), (46, .fn 166 [.ptr 1 0])]) (by kernel_rfl) (by kernel_rfl) (by kernel_rfl) ?_)
     refine R.go 8 (k12 eI ((S.take (S.length - 1)).take (((S.take (S.length - 1)).length) - 1)) [bor (S.getD (S.length - 1) 0) ((S.take (S.length - 1)).getD (((S.take (S.length - 1)).length) - 1) 0)] 2 2 1 8 eI_one ?_)
     refine R.go 5 (k1 (i - 1) ?_)
     exact R.go 2 (k16 R1 (N2 (i - 1, ((S.take (S.length - 1)).take (((S.take (S.length - 1)).length) - 1)) ++ [bor (S.getD (S.length - 1) 0) ((S.take (S.length - 1)).getD (((S.take (S.length - 1)).length) - 1) 0)]) [1, 2, 3, 7, 8, 9] (some [0, 1, 2]) _ (by kernel_rfl) (by kernel_rfl) ⟨(by omega), (by omega), (by simp <;> omega), (by first | exact stkg_push ‹S = _› (by omega) (by omega) (by omega) | exact stkg_bot ‹S = _› (by omega) (by omega) (by omega) | exact stkg_two hok ‹S = _› (by omega) (by omega) ‹(a.getD i.toNat (0, 0)).1 = _› (by omega) rfl rfl rfl rfl)⟩ (by show (((i - 1) + 1).toNat) < ((i + 1).toNat); omega)))
    ·refine R.go 5 (k3 (((a.getD ((i).toNat) (0, 0)).1) = 4) (fun c13 => ?_) (fun c13 => ?_))
     ·refine R.go 3 (R.enter (avs := [.ptr 1 0]) Tryz.func166 rfl (by kernel_rfl) (by kernel_rfl) (by kernel_rfl) ?_)
      intro us14
      refine R.go 9 (R.arE ((S.length : Int) - 1) ((S.length - 1 : Nat) : Int) (by kernel_rfl) (by omega) (by omega) (by omega) (by kernel_rfl) ?_)
      refine k9 2 1 S.length (S.length - 1) ((S.length - 1 : Nat) : Int) ?_
      refine k10 S (S.length - 1) ?_
      refine R.go 7 (R.arE ((S.length : Int) - 1) ((S.length - 1 : Nat) : Int) (by kernel_rfl) (by omega) (by omega) (by omega) (by kernel_rfl) ?_)
      refine R.cut eI S 2 2 (S.length - 1) ((S.length - 1 : Nat) : Int) (by kernel_rfl) (by omega) eI_len (by omega) (by kernel_rfl) ?_
      refine R.go 7 (R.back (AI (S.getD (S.length - 1) 0)) (frm 65 [(1, LI vs), (2, LN a), (3, .ptr 0 0), (7, .ptr 1 0), (8, .fn 166 [.ptr 1 0]), (9, AI i), (10, AI 0), (16, AI i), (17, .bool (decide (i ≥ 0))), (20, LN a), (21, AI i), (22, .rptr [AI ((a.getD ((i).toNat) (0, 0)).1), AI ((a.getD ((i).toNat) (0, 0)).2)]), (23, .rptr [AI ((a.getD ((i).toNat) (0, 0)).1), AI ((a.getD ((i).toNat) (0, 0)).2)]), (24, AI ((a.getD ((i).toNat) (0, 0)).1)), (25, .bool (decide (((a.getD ((i).toNat) (0, 0)).1) = 0))), (26, .bool (decide (((a.getD ((i).toNat) (0, 0)).1) = 0))), (35, .bool (decide (((a.getD ((i).toNat) (0, 0)).1) = 2))), (36, .bool (decide (((a.getD ((i).toNat) (0, 0)).1) = 2))), (42, .bool (decide (((a.getD ((i).toNat) (0, 0)).1) = 3))), (43, .bool (decide (((a.getD ((i).toNat) (0, 0)).1) = 3))), (49, .bool (decide (((a.getD ((i).toNat) (0, 0)).1) = 4))), (50, .bool (decide (((a.getD ((i).toNat) (0, 0)).1) = 4))), (51, .fn 166 [.ptr 1 0])]) (by kernel_rfl) (by kernel_rfl) (by kernel_rfl) ?_)
      refine R.go 2 (R.any (by decide +kernel) (by kernel_rfl) ?_)
      refine k24 1 (np_ret _ _ _) ?_
      refine k24 2 (np_ret _ _ _) ?_
      refine k22 0 3 ?_ ?_
      ·refine R.go 2 (k21 3 ?_)
       refine R.enter (avs := [.ptr 1 0]) Tryz.func166 rfl (by kernel_rfl) (by kernel_rfl) (by kernel_rfl) ?_
       intro us15
       refine R.go 9 (R.arE (((S.take (S.length - 1)).length : Int) - 1) ((((S.take (S.length - 1)).length) - 1 : Nat) : Int) (by kernel_rfl) (by omega) (by omega) (by omega) (by kernel_rfl) ?_)
       refine k9 2 1 (S.take (S.length - 1)).length (((S.take (S.length - 1)).length) - 1) ((((S.take (S.length - 1)).length) - 1 : Nat) : Int) ?_ (hj := by first | omega | (simp only [List.length_set]; omega) | (simp <;> omega))
       refine k10 (S.take (S.length - 1)) (((S.take (S.length - 1)).length) - 1) ?_ (hj := by first | omega | (simp only [List.length_set]; omega) | (simp <;> omega))
       refine R.go 7 (R.arE (((S.take (S.length - 1)).length : Int) - 1) ((((S.take (S.length - 1)).length) - 1 : Nat) : Int) (by kernel_rfl) (by omega) (by omega) (by omega) (by kernel_rfl) ?_)
       refine R.cut eI (S.take (S.length - 1)) 2 2 (((S.take (S.length - 1)).length) - 1) ((((S.take (S.length - 1)).length) - 1 : Nat) : Int) (by kernel_rfl) (by omega) eI_len (by first | omega | (simp only [List.length_set]; omega) | (simp <;> omega)) (by kernel_rfl) ?_
       refine R.go 7 (R.back (AI ((S.take (S.length - 1)).getD (((S.take (S.length - 1)).length) - 1) 0)) (frm 65 [(1, LI vs), (2, LN a), (3, .ptr 0 0), (7, .ptr 1 0), (8, .fn 166 [.ptr 1 0]), (9, AI i), (10, AI 0), (11, AI (S.getD (S.length - 1) 0)), (16, AI i), (17, .bool (decide (i ≥ 0))), (20, LN a), (21, AI i), (22, .rptr [AI ((a.getD ((i).toNat) (0, 0)).1), AI ((a.getD ((i).toNat) (0, 0)).2)]), (23, .rptr [AI ((a.getD ((i).toNat) (0, 0)).1), AI ((a.getD ((i).toNat) (0, 0)).2)]), (24, AI ((a.getD ((i).toNat) (0, 0)).1)), (25, .bool (decide (((a.getD ((i).toNat) (0, 0)).1) = 0))), (26, .bool (decide (((a.getD ((i).toNat) (0, 0)).1) = 0))), (35, .bool (decide (((a.getD ((i).toNat) (0, 0)).1) = 2))), (36, .bool (decide (((a.getD ((i).toNat) (0, 0)).1) = 2))), (42, .bool (decide (((a.getD ((i).toNat) (0, 0)).1) = 3))), (43, .bool (decide (((a.getD ((i).toNat) (0, 0)).1) = 3))), (49, .bool (decide (((a.getD ((i).toNat) (0, 0)).1) = 4))), (50, .bool (decide (((a.getD ((i).toNat) (0, 0)).1) = 4))), (51, .fn 166 [.ptr 1 0]), (52, AI (S.getD (S.length - 1) 0)), (53, .agg [AI n, LI xs]), (54, AI (S.getD (S.length - 1) 0)), (55, .fn 166 [.ptr 1 0])]) (by kernel_rfl) (by kernel_rfl) (by kernel_rfl) ?_)
       refine R.go 1 (k21 4 ?_)
       refine k14 true (imply2_c n xs (S.getD (S.length - 1) 0) ((S.take (S.length - 1)).getD (((S.take (S.length - 1)).length) - 1) 0) h0 (by omega) hx) rfl ?_
       refine R.go 1 (k21 5 ?_)
       refine R.go 2 (k20 ?_)
       refine R.go 5 (k12 eI ((S.take (S.length - 1)).take (((S.take (S.length - 1)).length) - 1)) [pxB xs (bor (bnot ((shl64 1 n) - 1) (S.getD (S.length - 1) 0)) ((S.take (S.length - 1)).getD (((S.take (S.length - 1)).length) - 1) 0))] 2 2 1 8 eI_one ?_)
       refine R.go 5 (k1 (i - 1) ?_)
       exact R.go 2 (k16 R1 (N2 (i - 1, ((S.take (S.length - 1)).take (((S.take (S.length - 1)).length) - 1)) ++ [pxB xs (bor (bnot ((shl64 1 n) - 1) (S.getD (S.length - 1) 0)) ((S.take (S.length - 1)).getD (((S.take (S.length - 1)).length) - 1) 0))]) [1, 2, 3, 7, 8, 9] (some [0, 1, 2]) _ (by kernel_rfl) (by kernel_rfl) ⟨(by omega), (by omega), (by simp <;> omega), (by first | exact stkg_push ‹S = _› (by omega) (by omega) (by omega) | exact stkg_bot ‹S = _› (by omega) (by omega) (by omega) | exact stkg_two hok ‹S = _› (by omega) (by omega) ‹(a.getD i.toNat (0, 0)).1 = _› (by omega) rfl rfl rfl rfl)⟩ (by show (((i - 1) + 1).toNat) < ((i + 1).toNat); omega)))
      ·refine R.enter (avs := [.ptr 1 0]) Tryz.func166 rfl (by kernel_rfl) (by kernel_rfl) (by kernel_rfl) ?_
       intro us16
       refine R.go 9 (R.arE (((S.take (S.length - 1)).length : Int) - 1) ((((S.take (S.length - 1)).length) - 1 : Nat) : Int) (by kernel_rfl) (by omega) (by omega) (by omega) (by kernel_rfl) ?_)
       refine k9 2 1 (S.take (S.length - 1)).length (((S.take (S.length - 1)).length) - 1) ((((S.take (S.length - 1)).length) - 1 : Nat) : Int) ?_ (hj := by first | omega | (simp only [List.length_set]; omega) | (simp <;> omega))
       refine k10 (S.take (S.length - 1)) (((S.take (S.length - 1)).length) - 1) ?_ (hj := by first | omega | (simp only [List.length_set]; omega) | (simp <;> omega))
       refine R.go 7 (R.arE (((S.take (S.length - 1)).length : Int) - 1) ((((S.take (S.length - 1)).length) - 1 : Nat) : Int) (by kernel_rfl) (by omega) (by omega) (by omega) (by kernel_rfl) ?_)
       refine R.cut eI (S.take (S.length - 1)) 2 2 (((S.take (S.length - 1)).length) - 1) ((((S.take (S.length - 1)).length) - 1 : Nat) : Int) (by kernel_rfl) (by omega) eI_len (by first | omega | (simp only [List.length_set]; omega) | (simp <;> omega)) (by kernel_rfl) ?_
       refine R.go 7 (R.back (AI ((S.take (S.length - 1)).getD (((S.take (S.length - 1)).length) - 1) 0)) (frm 65 [(1, LI vs), (2, LN a), (3, .ptr 0 0), (7, .ptr 1 0), (8, .fn 166 [.ptr 1 0]), (9, AI i), (10, AI 0), (11, AI (S.getD (S.length - 1) 0)), (16, AI i), (17, .bool (decide (i ≥ 0))), (20, LN a), (21, AI i), (22, .rptr [AI ((a.getD ((i).toNat) (0, 0)).1), AI ((a.getD ((i).toNat) (0, 0)).2)]), (23, .rptr [AI ((a.getD ((i).toNat) (0, 0)).1), AI ((a.getD ((i).toNat) (0, 0)).2)]), (24, AI ((a.getD ((i).toNat) (0, 0)).1)), (25, .bool (decide (((a.getD ((i).toNat) (0, 0)).1) = 0))), (26, .bool (decide (((a.getD ((i).toNat) (0, 0)).1) = 0))), (35, .bool (decide (((a.getD ((i).toNat) (0, 0)).1) = 2))), (36, .bool (decide (((a.getD ((i).toNat) (0, 0)).1) = 2))), (42, .bool (decide (((a.getD ((i).toNat) (0, 0)).1) = 3))), (43, .bool (decide (((a.getD ((i).toNat) (0, 0)).1) = 3))), (49, .bool (decide (((a.getD ((i).toNat) (0, 0)).1) = 4))), (50, .bool (decide (((a.getD ((i).toNat) (0, 0)).1) = 4))), (51, .fn 166 [.ptr 1 0]), (52, AI (S.getD (S.length - 1) 0)), (54, AI (S.getD (S.length - 1) 0)), (55, .fn 166 [.ptr 1 0])]) (by kernel_rfl) (by kernel_rfl) (by kernel_rfl) ?_)
       refine R.go 1 (k21 0 ?_)
       refine R.go 2 (k21 4 ?_)
       refine k14 true (imply2_c n xs (S.getD (S.length - 1) 0) ((S.take (S.length - 1)).getD (((S.take (S.length - 1)).length) - 1) 0) h0 (by omega) hx) rfl ?_
       refine R.go 1 (k21 5 ?_)
       refine R.go 2 (k20 ?_)
       refine R.go 5 (k12 eI ((S.take (S.length - 1)).take (((S.take (S.length - 1)).length) - 1)) [pxB xs (bor (bnot ((shl64 1 n) - 1) (S.getD (S.length - 1) 0)) ((S.take (S.length - 1)).getD (((S.take (S.length - 1)).length) - 1) 0))] 2 2 1 8 eI_one ?_)
       refine R.go 5 (k1 (i - 1) ?_)
       exact R.go 2 (k16 R1 (N2 (i - 1, ((S.take (S.length - 1)).take (((S.take (S.length - 1)).length) - 1)) ++ [pxB xs (bor (bnot ((shl64 1 n) - 1) (S.getD (S.length - 1) 0)) ((S.take (S.length - 1)).getD (((S.take (S.length - 1)).length) - 1) 0))]) [1, 2, 3, 7, 8, 9] (some [0, 1, 2]) _ (by kernel_rfl) (by kernel_rfl) ⟨(by omega), (by omega), (by simp <;> omega), (by first | exact stkg_push ‹S = _› (by omega) (by omega) (by omega) | exact stkg_bot ‹S = _› (by omega) (by omega) (by omega) | exact stkg_two hok ‹S = _› (by omega) (by omega) ‹(a.getD i.toNat (0, 0)).1 = _› (by omega) rfl rfl rfl rfl)⟩ (by show (((i - 1) + 1).toNat) < ((i + 1).toNat); omega)))
     ·refine R.go 6 (k12 eI S [0] 2 2 1 8 eI_one ?_)
      refine R.go 5 (k1 (i - 1) ?_)
      exact R.go 2 (k16 R1 (N2 (i - 1, S ++ [0]) [1, 2, 3, 7, 8, 9] (some [0, 1, 2]) _ (by kernel_rfl) (by kernel_rfl) ⟨(by omega), (by omega), (by simp <;> omega), (by first | exact stkg_push ‹S = _› (by omega) (by omega) (by omega) | exact stkg_bot ‹S = _› (by omega) (by omega) (by omega) | exact stkg_two hok ‹S = _› (by omega) (by omega) ‹(a.getD i.toNat (0, 0)).1 = _› (by omega) rfl rfl rfl rfl)⟩ (by show (((i - 1) + 1).toNat) < ((i + 1).toNat); omega)))
 ·refine R.go 4 (k9 2 1 S.length 0 0 ?_ (hji := rfl))
  refine k10 S 0 ?_
  exact R.go 2 (k17 (AI (S.getD 0 0)) (by first | (apply congrArg AI; rw [fcd, stkg_fin hok ‹S = _› (by omega)]; rfl) | (exfalso; omega)))

theorem l17Force2_c : ∀ (k : Nat) (n : Int) (xs : List Int) (vs : List Int) (a : List (Int × Int)) (hk : a.length = k) (hok : OKM vs.length a) (hp : a.any modN = false) (h0 : 0 ≤ n) (h1 : n ≤ 8) (hx : xs.length ≤ 60) (hl : a.length ≤ 1000000000), CallA Tryz.prog 278 [.agg [AI n, LI xs], LI vs, LN a] (AI (gv (pT n (pxA xs)) pU vs a)) := by
 intro k
 induction k using Nat.strongRecOn with
 | _ k ih =>
 intro n xs vs a hk hok hp h0 h1 hx hl
 have hlen := okm_pos hok
 have hg := okm_get hok 0 (by omega)
 have hgp := plain_get hp (j := 0) (by omega)
 refine CallA.of Tryz.func278 rfl (by kernel_rfl) ?_
 refine R.go 9 (k8 eN a (0, 0) 0 0 rfl eN_len ?_ (hj := by first | omega | (have hq := lenm_lef hok ((partsN_two _).2 (by omega)); omega)))
 refine R.go 9 (k3 (((a.getD 0 (0, 0)).1) = 0) (fun c1 => ?_) (fun c1 => ?_))
 ·refine R.go 4 (k8 eN a (0, 0) 0 0 rfl eN_len ?_ (hj := by first | omega | (have hq := lenm_lef hok ((partsN_two _).2 (by omega)); omega)))
  refine R.go 2 (k8 eI vs 0 (((a.getD 0 (0, 0)).2).toNat) ((a.getD 0 (0, 0)).2) (by first | omega | (have hq := lenm_lef hok ((partsN_two _).2 (by omega)); omega)) eI_len ?_ (hj := by first | omega | (have hq := lenm_lef hok ((partsN_two _).2 (by omega)); omega)))
  exact R.go 3 (k17 (AI (vs.getD (((a.getD 0 (0, 0)).2).toNat) 0)) (by first | (apply congrArg AI; first | exact gv_two (pT n (pxA xs)) pU vs hok ‹(a.getD 0 (0, 0)).1 = _› (by omega) | exact gv_two (pT n (pxA xs)) pU vs hok (k := 4) (by omega) (by omega) | exact gv_var _ _ _ hok (by omega) | exact gv_bot _ _ _ hok (by omega)) | (exfalso; omega)))
 ·refine R.go 5 (k3 (((a.getD 0 (0, 0)).1) = 1) (fun c2 => ?_) (fun c2 => ?_))
  ·exact R.go 4 (k17 (AI 0) (by first | (apply congrArg AI; first | exact gv_two (pT n (pxA xs)) pU vs hok ‹(a.getD 0 (0, 0)).1 = _› (by omega) | exact gv_two (pT n (pxA xs)) pU vs hok (k := 4) (by omega) (by omega) | exact gv_var _ _ _ hok (by omega) | exact gv_bot _ _ _ hok (by omega)) | (exfalso; omega)))
  ·refine R.go 5 (k3 (((a.getD 0 (0, 0)).1) = 2) (fun c3 => ?_) (fun c3 => ?_))
   ·refine R.go 5 (k14 true (l02Left_c vs.length a hok (by exact (partsN_two _).2 (by omega)) hl) rfl ?_)
    refine k14 true (ih ((lef a).length) (by first | omega | (have hq := lenm_lef hok ((partsN_two _).2 (by omega)); omega)) n xs vs (lef a) (by first | rfl | simp) (by first | assumption | exact okm_lef hok ((partsN_two _).2 (by omega)) | exact okm_rig hok ((partsN_two _).2 (by omega))) (by first | assumption | exact plain_lef hp | exact plain_rig hp) h0 h1 hx (by first | omega | (have hq := lenm_lef hok ((partsN_two _).2 (by omega)); omega))) rfl ?_
    refine R.go 3 (k14 true (l02Right_c vs.length a hok (by exact (partsN_two _).2 (by omega)) hl) rfl ?_)
    refine k14 true (ih ((rig a).length) (by first | omega | (have hq := lenm_lef hok ((partsN_two _).2 (by omega)); omega)) n xs vs (rig a) (by first | rfl | simp) (by first | assumption | exact okm_lef hok ((partsN_two _).2 (by omega)) | exact okm_rig hok ((partsN_two _).2 (by omega))) (by first | assumption | exact plain_lef hp | exact plain_rig hp) h0 h1 hx (by first | omega | (have hq := lenm_lef hok ((partsN_two _).2 (by omega)); omega))) rfl ?_
    exact R.go 3 (k17 (AI (band (gv (pT n (pxA xs)) pU vs (lef a)) (gv (pT n (pxA xs)) pU vs (rig a)))) (by first | (apply congrArg AI; first | exact gv_two (pT n (pxA xs)) pU vs hok ‹(a.getD 0 (0, 0)).1 = _› (by omega) | exact gv_two (pT n (pxA xs)) pU vs hok (k := 4) (by omega) (by omega) | exact gv_var _ _ _ hok (by omega) | exact gv_bot _ _ _ hok (by omega)) | (exfalso; omega)))
   ·refine R.go 5 (k3 (((a.getD 0 (0, 0)).1) = 3) (fun c4 => ?_) (fun c4 => ?_))
    ·refine R.go 5 (k14 true (l02Left_c vs.length a hok (by exact (partsN_two _).2 (by omega)) hl) rfl ?_)
     refine k14 true (ih ((lef a).length) (by first | omega | (have hq := lenm_lef hok ((partsN_two _).2 (by omega)); omega)) n xs vs (lef a) (by first | rfl | simp) (by first | assumption | exact okm_lef hok ((partsN_two _).2 (by omega)) | exact okm_rig hok ((partsN_two _).2 (by omega))) (by first | assumption | exact plain_lef hp | exact plain_rig hp) h0 h1 hx (by first | omega | (have hq := lenm_lef hok ((partsN_two _).2 (by omega)); omega))) rfl ?_
     refine R.go 3 (k14 true (l02Right_c vs.length a hok (by exact (partsN_two _).2 (by omega)) hl) rfl ?_)
     refine k14 true (ih ((rig a).length) (by first | omega | (have hq := lenm_lef hok ((partsN_two _).2 (by omega)); omega)) n xs vs (rig a) (by first | rfl | simp) (by first | assumption | exact okm_lef hok ((partsN_two _).2 (by omega)) | exact okm_rig hok ((partsN_two _).2 (by omega))) (by first | assumption | exact plain_lef hp | exact plain_rig hp) h0 h1 hx (by first | omega | (have hq := lenm_lef hok ((partsN_two _).2 (by omega)); omega))) rfl ?_
     exact R.go 3 (k17 (AI (bor (gv (pT n (pxA xs)) pU vs (lef a)) (gv (pT n (pxA xs)) pU vs (rig a)))) (by first | (apply congrArg AI; first | exact gv_two (pT n (pxA xs)) pU vs hok ‹(a.getD 0 (0, 0)).1 = _› (by omega) | exact gv_two (pT n (pxA xs)) pU vs hok (k := 4) (by omega) (by omega) | exact gv_var _ _ _ hok (by omega) | exact gv_bot _ _ _ hok (by omega)) | (exfalso; omega)))
    ·refine R.go 8 (k14 true (l02Left_c vs.length a hok (by exact (partsN_two _).2 (by omega)) hl) rfl ?_)
     refine k14 true (ih ((lef a).length) (by first | omega | (have hq := lenm_lef hok ((partsN_two _).2 (by omega)); omega)) n xs vs (lef a) (by first | rfl | simp) (by first | assumption | exact okm_lef hok ((partsN_two _).2 (by omega)) | exact okm_rig hok ((partsN_two _).2 (by omega))) (by first | assumption | exact plain_lef hp | exact plain_rig hp) h0 h1 hx (by first | omega | (have hq := lenm_lef hok ((partsN_two _).2 (by omega)); omega))) rfl ?_
     refine R.go 3 (k14 true (l02Right_c vs.length a hok (by exact (partsN_two _).2 (by omega)) hl) rfl ?_)
     refine k14 true (ih ((rig a).length) (by first | omega | (have hq := lenm_lef hok ((partsN_two _).2 (by omega)); omega)) n xs vs (rig a) (by first | rfl | simp) (by first | assumption | exact okm_lef hok ((partsN_two _).2 (by omega)) | exact okm_rig hok ((partsN_two _).2 (by omega))) (by first | assumption | exact plain_lef hp | exact plain_rig hp) h0 h1 hx (by first | omega | (have hq := lenm_lef hok ((partsN_two _).2 (by omega)); omega))) rfl ?_
     refine k14 true (arrow2_c n xs (gv (pT n (pxA xs)) pU vs (lef a)) (gv (pT n (pxA xs)) pU vs (rig a)) h0 (by first | omega | (have hq := lenm_lef hok ((partsN_two _).2 (by omega)); omega)) hx) rfl ?_
     exact R.go 2 (k17 (AI (pxA xs (bor (bnot ((shl64 1 n) - 1) (gv (pT n (pxA xs)) pU vs (lef a))) (gv (pT n (pxA xs)) pU vs (rig a))))) (by first | (apply congrArg AI; first | exact gv_two (pT n (pxA xs)) pU vs hok ‹(a.getD 0 (0, 0)).1 = _› (by omega) | exact gv_two (pT n (pxA xs)) pU vs hok (k := 4) (by omega) (by omega) | exact gv_var _ _ _ hok (by omega) | exact gv_bot _ _ _ hok (by omega)) | (exfalso; omega)))

theorem l17ForceF_c (n : Int) (xs vs : List Int) (a : List (Int × Int)) (hok : OKM vs.length a) (hp : a.any modN = false) (hR : okFr n xs = true) (hl : a.length ≤ 1000000000) : CallA Tryz.prog 278 [.agg [AI n, LI xs], LI vs, LN a] (AI (fcd n xs vs a)) := by
  have hF := okFr_rel hR
  have h := l17Force2_c a.length n xs vs a rfl hok hp hF.1 hF.2.1 (by omega) hl
  rw [pxAB hR] at h
  exact h

theorem allPlain1_c (a : List (Int × Int)) (hl : a.length ≤ 1000000000) : CallA Tryz.prog 274 [LN a] (.bool (anyM a)) := by
 refine CallA.of Tryz.func274 rfl (by kernel_rfl) ?_
 refine R.go 7 (k14 true (isPlain_c a hl) rfl ?_)
 exact R.go 3 (k17 (.bool (!(!(a.any modN)))) (by first | (apply congrArg AV.bool; simp [anyM]) | (exfalso; omega)))

theorem index_anyM_c (l : List (List (Int × Int))) (hs : shortL l) : CallA Tryz.prog 332 [LLN l, .fn 274 []] (AI (fidxF anyM l 0)) := by
 have hl := hs.1
 refine CallA.of Tryz.func332 rfl (by kernel_rfl) ?_
 refine R.go 12 (k15 (fun (i : Nat) => (⟨(frm 19 [(0, LLN l), (1, .fn 274 []), (7, AI l.length), (8, AI (i : Int))]), []⟩ : St)) (fun (i : Nat) => (i ≤ l.length) ∧ (fidxF anyM l 0 = fidxF anyM (l.drop i) i)) (fun (i : Nat) => l.length - i) 0 [0, 1, 7, 8] none ⟨(by omega), (by rfl)⟩ ?_)
 rintro i ⟨h3_1, h3_2⟩ R1 N2
 refine R.go 5 (k3 ((i : Int) < (l.length : Int)) (fun c4 => ?_) (fun c4 => ?_))
 ·have hj := hs.2 i (by omega)
  refine R.go 13 (k8 eLN l [] i (i : Int) rfl eLN_len ?_)
  refine R.go 1 (k14 true (allPlain1_c (l.getD i []) (by first | omega | (simp <;> omega))) rfl ?_)
  refine R.go 1 (R.condB (anyM (l.getD i [])) (by kernel_rfl) (fun c5 => ?_) (fun c5 => ?_))
  ·exact R.go 5 (k17 (AI (i : Int)) (by first | (apply congrArg AI; rw [‹fidxF anyM l 0 = _›]; first | exact (fidxF_end (by omega)).symm | exact (fidxF_hit (by omega) (by assumption)).symm) | (exfalso; omega)))
  ·refine R.go 3 (k1 ((i : Int) + 1) ?_)
   exact R.go 2 (k16 R1 (N2 (i + 1) [0, 1, 7, 8] none _ (by kernel_rfl) (by kernel_rfl) ⟨(by omega), (by rw [‹fidxF anyM l 0 = _›]; exact fidxF_miss (by omega) (by assumption))⟩ (by show (l.length - (i + 1)) < (l.length - i); omega)))
 ·exact R.go 5 (k17 (AI (-1)) (by first | (apply congrArg AI; rw [‹fidxF anyM l 0 = _›]; first | exact (fidxF_end (by omega)).symm | exact (fidxF_hit (by omega) (by assumption)).symm) | (exfalso; omega)))

theorem contains_anyM_c (l : List (List (Int × Int))) (hs : shortL l) : CallA Tryz.prog 272 [LLN l, .fn 274 []] (.bool (l.any anyM)) := by
 refine CallA.of Tryz.func272 rfl (by kernel_rfl) ?_
 refine R.go 8 (k14 true (index_anyM_c l hs) rfl ?_)
 exact R.go 3 (k17 (.bool (decide ((fidxF anyM l 0) ≥ 0))) (by first | (apply congrArg AV.bool; rw [Bool.eq_iff_iff, decide_eq_true_iff]; exact fidxF_any (Int.le_refl 0)) | (exfalso; omega)))

theorem allPlain_c (l : List (List (Int × Int))) (hs : shortL l) : CallA Tryz.prog 155 [LLN l] (.bool (allPl l)) := by
 refine CallA.of Tryz.func155 rfl (by kernel_rfl) ?_
 refine R.go 7 (k14 true (contains_anyM_c l hs) rfl ?_)
 exact R.go 3 (k17 (.bool (!(l.any anyM))) (by first | (rfl) | (exfalso; omega)))

theorem fits_c (U : Int) (m : Nat) (h0 : 0 ≤ U) (h1 : U ≤ 1000) (hm : m ≤ 1000) : CallA Tryz.prog 156 [AI U, AI (m : Int)] (.bool (decide (pwT U m ≤ 4096))) := by
 refine CallA.of Tryz.func156 rfl (by kernel_rfl) ?_
 refine R.go 15 (k15 ((fun | (j, p) => (⟨(frm 15 [(0, AI U), (5, AI p), (6, AI (m : Int)), (7, AI (j : Int))]), []⟩ : St) : Nat × Int → St)) (fun | (j, p) => (j ≤ m) ∧ (pwT U j ≤ 4096) ∧ (p = pwT U j)) (fun | (j, p) => m - j) (0, 1) [0, 5, 6, 7] none ⟨(by omega), (by simp [pwT]), (by rfl)⟩ ?_)
 rintro ⟨j, p⟩ ⟨h4_1, h4_2, rfl⟩ R1 N2
 have hpr := pwT_rng h0 h1 j
 have hmr := mul_rng h0 h1 hpr.1 (by assumption)
 refine R.go 5 (k3 ((j : Int) < (m : Int)) (fun c5 => ?_) (fun c5 => ?_))
 ·refine R.go 7 (k1 ((pwT U j) * U) ?_)
  refine R.go 7 (k3 (((pwT U j) * U) > 4096) (fun c6 => ?_) (fun c6 => ?_))
  ·exact R.go 4 (k17 (.bool false) (by first | (apply congrArg AV.bool; first | (refine (decide_eq_true ?_).symm; rw [show m = j by omega]; assumption) | (refine (decide_eq_false ?_).symm; rw [pwT_stay (k := j + 1) (by rw [← pwT_step (by assumption)]; omega) m (by omega), ← pwT_step (by assumption)]; omega)) | (exfalso; omega)))
  ·refine R.go 3 (k1 ((j : Int) + 1) ?_)
   exact R.go 2 (k16 R1 (N2 (j + 1, (pwT U j) * U) [0, 5, 6, 7] none _ (by kernel_rfl) (by kernel_rfl) ⟨(by omega), (by rw [← pwT_step (by assumption)]; omega), (by exact pwT_step (by assumption))⟩ (by show (m - (j + 1)) < (m - j); omega)))
 ·exact R.go 5 (k17 (.bool true) (by first | (apply congrArg AV.bool; first | (refine (decide_eq_true ?_).symm; rw [show m = j by omega]; assumption) | (refine (decide_eq_false ?_).symm; rw [pwT_stay (k := j + 1) (by rw [← pwT_step (by assumption)]; omega) m (by omega), ← pwT_step (by assumption)]; omega)) | (exfalso; omega)))

theorem l17Power_c (U : Int) (m : Nat) (h0 : 0 ≤ U) (h1 : U ≤ 1000) (hm : m ≤ 1000) : CallA Tryz.prog 159 [AI U, AI (m : Int)] (AI (pwT U m)) := by
 refine CallA.of Tryz.func159 rfl (by kernel_rfl) ?_
 refine R.go 10 (k15 ((fun | (j, kk, p) => (⟨(frm 18 [(0, AI U), (1, AI kk), (5, AI p)]), []⟩ : St) : Nat × Int × Int → St)) (fun | (j, kk, p) => (j ≤ m) ∧ (kk = (m : Int) - j) ∧ (p = pwT U j)) (fun | (j, kk, p) => m - j) (0, (m : Int), 1) [0, 1, 5] none ⟨(by omega), (by simp), (by rfl)⟩ ?_)
 rintro ⟨j, kk, p⟩ ⟨h4_1, h4_2, rfl⟩ R1 N2
 have hpr := pwT_rng h0 h1 j
 have hmr := fun h : pwT U j ≤ 4096 => mul_rng h0 h1 hpr.1 h
 refine R.go 6 ?_
 by_cases c5 : kk > 0
 ·refine k5 (decide (kk > 0)) true (dT c5) ?_
  refine R.go 1 (k5 (decide (kk > 0)) true (dT c5) ?_)
  refine R.go 1 (k7 (decide (kk > 0)) true (dT c5) ?_)
  refine R.go 1 (k3 ((pwT U j) ≤ 4096) (fun c6 => ?_) (fun c6 => ?_))
  ·refine R.go 6 (k1 ((pwT U j) * U) ?_)
   refine R.go 5 (k1 (kk - 1) ?_)
   exact R.go 2 (k16 R1 (N2 ((j + 1), kk - 1, (pwT U j) * U) [0, 1, 5] none _ (by kernel_rfl) (by kernel_rfl) ⟨(by omega), (by omega), (by exact pwT_step (by assumption))⟩ (by show (m - (j + 1)) < (m - j); omega)))
  ·exact R.go 6 (k17 (AI (pwT U j)) (by first | (apply congrArg AI; first | (rw [show m = j by omega]) | exact (pwT_stay (by omega) m (by omega)).symm) | (exfalso; omega)))
 ·refine k6 (decide (kk > 0)) true (dF c5) ?_
  refine k6 (decide (kk > 0)) true (dF c5) ?_
  refine k7 (decide (kk > 0)) false (dF c5) ?_
  exact R.go 8 (k17 (AI (pwT U j)) (by first | (apply congrArg AI; first | (rw [show m = j by omega]) | exact (pwT_stay (by omega) m (by omega)).symm) | (exfalso; omega)))

theorem posetSearch_c (n : Int) (xs : List Int) (l : List (List (Int × Int))) (lx : xs.length ≤ 1048576) (hs : shortL l) : CallA Tryz.prog 66 [.agg [AI n, LI xs], LLN l] (AI (pcode n xs l)) := by
 have hub := fun h : okPo n xs = true => upL_len h
 have hmm := mem_le (vmT l l.length)
 have hsl := hs.1
 refine CallA.of Tryz.func66 rfl (by kernel_rfl) ?_
 refine R.go 10 (k14 true (isPoset_c n xs (by first | omega | (have h2 := hub (by assumption); omega))) rfl ?_)
 refine R.go 2 ?_
 refine (Bool.eq_false_or_eq_true (okPo n xs)).elim (fun c1 => ?_) (fun c1 => ?_)
 ·refine k5 (!(okPo n xs)) false (bnF c1) ?_
  refine R.go 1 (k5 (!(okPo n xs)) false (bnF c1) ?_)
  refine k14 true (areFormulas_c l hs) rfl ?_
  refine k5 (!(okPo n xs)) false (bnF c1) ?_
  refine R.go 1 (k7 (!(okPo n xs)) false (bnF c1) ?_)
  refine R.go 2 (k19 (allF l) (fun c2 => ?_) (fun c2 => ?_))
  ·exact R.go 4 (k17 (AI 1) (by first | (apply congrArg AI; first | exact pc_1 (by assumption) | exact pc_2 (by assumption) | exact pc_5 (by assumption) (by assumption) (by assumption) | exact pc_3 (by assumption) (by assumption) (by assumption) (by assumption) | exact pc_0 (by assumption) (by assumption) (by assumption) (by assumption)) | (exfalso; omega)))
  ·refine R.go 3 (k14 true (allPlain_c l hs) rfl ?_)
   refine R.go 3 (k19 (allPl l) (fun c3 => ?_) (fun c3 => ?_))
   ·exact R.go 4 (k17 (AI 5) (by first | (apply congrArg AI; first | exact pc_1 (by assumption) | exact pc_2 (by assumption) | exact pc_5 (by assumption) (by assumption) (by assumption) | exact pc_3 (by assumption) (by assumption) (by assumption) (by assumption) | exact pc_0 (by assumption) (by assumption) (by assumption) (by assumption)) | (exfalso; omega)))
   ·refine R.go 3 (k14 true (upsets_c n xs c1).frz rfl ?_)
    refine R.go 2 (k14 true (variablesIn_c l c2 (by first | omega | (have h2 := hub (by assumption); omega))).frz rfl ?_)
    refine R.go 1 (k14 true (fits_c ((upL n xs).length) ((mem (vmT l l.length)).length) (by first | omega | (have h2 := hub (by assumption); omega)) (by first | omega | (have h2 := hub (by assumption); omega)) (by first | omega | (have h2 := hub (by assumption); omega))) rfl ?_)
    refine R.go 3 (k4 (pwT ((upL n xs).length) ((mem (vmT l l.length)).length) ≤ 4096) (fun c4 => ?_) (fun c4 => ?_))
    ·exact R.go 4 (k17 (AI 3) (by first | (apply congrArg AI; first | exact pc_1 (by assumption) | exact pc_2 (by assumption) | exact pc_5 (by assumption) (by assumption) (by assumption) | exact pc_3 (by assumption) (by assumption) (by assumption) (by assumption) | exact pc_0 (by assumption) (by assumption) (by assumption) (by assumption)) | (exfalso; omega)))
    ·exact R.go 6 (k17 (AI 0) (by first | (apply congrArg AI; first | exact pc_1 (by assumption) | exact pc_2 (by assumption) | exact pc_5 (by assumption) (by assumption) (by assumption) | exact pc_3 (by assumption) (by assumption) (by assumption) (by assumption) | exact pc_0 (by assumption) (by assumption) (by assumption) (by assumption)) | (exfalso; omega)))
 ·refine k6 (!(okPo n xs)) false (bnT c1) ?_
  refine k6 (!(okPo n xs)) false (bnT c1) ?_
  refine k6 (!(okPo n xs)) false (bnT c1) ?_
  refine k7 (!(okPo n xs)) true (bnT c1) ?_
  exact R.go 7 (k17 (AI 1) (by first | (apply congrArg AI; first | exact pc_1 (by assumption) | exact pc_2 (by assumption) | exact pc_5 (by assumption) (by assumption) (by assumption) | exact pc_3 (by assumption) (by assumption) (by assumption) (by assumption) | exact pc_0 (by assumption) (by assumption) (by assumption) (by assumption)) | (exfalso; omega)))

theorem l17Search_c (n : Int) (xs : List Int) (l : List (List (Int × Int))) (lx : xs.length ≤ 1048576) (hs : shortL l) : CallA Tryz.prog 68 [.agg [AI n, LI xs], LLN l] (AI (pcode n xs l)) := by
 have hub := fun h : okPo n xs = true => upL_len h
 have hmm := mem_le (vmT l l.length)
 have hsl := hs.1
 have hs2 := hs.2
 refine CallA.of Tryz.func68 rfl (by kernel_rfl) ?_
 refine R.go 9 (k14 true (l16Is_c n xs (by first | omega | assumption | (have h2 := hub (by assumption); omega))) rfl ?_)
 refine R.go 2 (k19 (okPo n xs) (fun c1 => ?_) (fun c1 => ?_))
 ·exact R.go 4 (k17 (AI 1) (by first | (apply congrArg AI; first | exact pc_1 (by assumption) | exact pc_2 (allF_no (i := i) (by omega) (by assumption)) | exact pc_5 (by assumption) hAF (by rw [hAP]; assumption) | exact pc_3 (by assumption) hAF (by rw [hAP]; assumption) (by omega) | exact pc_0 (by assumption) hAF (by rw [hAP]; assumption) (by omega)) | (exfalso; omega)))
 ·refine R.go 11 (k15 ((fun | (i, pl) => (⟨(frm 42 [(1, LLN l), (2, .ptr 0 0), (5, .bool pl), (6, AI (i : Int))]), [.box 35 [AI n, LI xs]]⟩ : St) : Nat × Bool → St)) (fun | (i, pl) => (i ≤ l.length) ∧ (∀ j : Nat, j < i → isF (l.getD j []) = true) ∧ (plTo l i = pl)) (fun | (i, pl) => l.length - i) (0, true) [1, 2, 5, 6] none ⟨(by omega), (by exact fun j hj => absurd hj (by omega)), (by rfl)⟩ ?_)
  rintro ⟨i, pl⟩ ⟨h5_1, h5_2, h5_3⟩ R2 N3
  have hsi := hs2 i
  refine R.go 8 (k3 ((i : Int) < (l.length : Int)) (fun c6 => ?_) (fun c6 => ?_))
  ·have hsj := hsi (by omega)
   refine R.go 8 (k8 eLN l [] i (i : Int) rfl eLN_len ?_ (hj := by first | omega | (have h2 := hub (by assumption); omega)))
   refine R.go 1 (k14 true (l02Is_c (l.getD i []) (by first | omega | assumption | (have h2 := hub (by assumption); omega))) rfl ?_)
   refine R.go 2 (k19 (isF (l.getD i [])) (fun c7 => ?_) (fun c7 => ?_))
   ·exact R.go 4 (k17 (AI 1) (by first | (apply congrArg AI; first | exact pc_1 (by assumption) | exact pc_2 (allF_no (i := i) (by omega) (by assumption)) | exact pc_5 (by assumption) hAF (by rw [hAP]; assumption) | exact pc_3 (by assumption) hAF (by rw [hAP]; assumption) (by omega) | exact pc_0 (by assumption) hAF (by rw [hAP]; assumption) (by omega)) | (exfalso; omega)))
   ·refine R.go 4 ?_
    refine (Bool.eq_false_or_eq_true (pl)).elim (fun c8 => ?_) (fun c8 => ?_)
    ·refine k5 (pl) true c8 ?_
     refine R.go 1 (k5 (pl) true c8 ?_)
     refine R.go 1 (k5 (pl) true c8 ?_)
     refine k8 eLN l [] i (i : Int) rfl eLN_len ?_ (hj := by first | omega | (have h2 := hub (by assumption); omega))
     refine k5 (pl) true c8 ?_
     refine R.go 1 (k5 (pl) true c8 ?_)
     refine k14 true (l02Plain_c (l.getD i []) (by first | omega | assumption | (have h2 := hub (by assumption); omega))) rfl ?_
     refine k7 (pl) true c8 ?_
     refine R.go 5 (k1 ((i : Int) + 1) ?_ (h0 := by first | omega | (have h2 := hub (by assumption); omega)) (h1 := by first | omega | (have h2 := hub (by assumption); omega)))
     exact R.go 2 (k16 R2 (N3 (i + 1, !((l.getD i []).any modN)) [1, 2, 5, 6] none _ (by kernel_rfl) (by kernel_rfl) ⟨(by omega), (by exact below1 (P := fun j => isF (l.getD j []) = true) (by assumption) (by assumption)), (by first | exact (plTo_step (by omega) (by assumption) (by assumption)).symm | exact (plTo_off (by omega) (by assumption) (by assumption)).symm)⟩ (by show (l.length - (i + 1)) < (l.length - i); omega)))
    ·refine k6 (pl) true c8 ?_
     refine k6 (pl) true c8 ?_
     refine k6 (pl) true c8 ?_
     refine k6 (pl) true c8 ?_
     refine k6 (pl) true c8 ?_
     refine k7 (pl) false c8 ?_
     refine R.go 5 (k1 ((i : Int) + 1) ?_ (h0 := by first | omega | (have h2 := hub (by assumption); omega)) (h1 := by first | omega | (have h2 := hub (by assumption); omega)))
     exact R.go 2 (k16 R2 (N3 (i + 1, false) [1, 2, 5, 6] none _ (by kernel_rfl) (by kernel_rfl) ⟨(by omega), (by exact below1 (P := fun j => isF (l.getD j []) = true) (by assumption) (by assumption)), (by first | exact (plTo_step (by omega) (by assumption) (by assumption)).symm | exact (plTo_off (by omega) (by assumption) (by assumption)).symm)⟩ (by show (l.length - (i + 1)) < (l.length - i); omega)))
  ·have hAF : allF l = true := allF_all fun j hj => (‹∀ j : Nat, j < i → isF (l.getD j []) = true›) j (by omega)
   have hAP : allPl l = pl := by rw [← plTo_all (show l.length ≤ i by omega)]; assumption
   refine R.go 9 (k19 (pl) (fun c9 => ?_) (fun c9 => ?_))
   ·exact R.go 4 (k17 (AI 5) (by first | (apply congrArg AI; first | exact pc_1 (by assumption) | exact pc_2 (allF_no (i := i) (by omega) (by assumption)) | exact pc_5 (by assumption) hAF (by rw [hAP]; assumption) | exact pc_3 (by assumption) hAF (by rw [hAP]; assumption) (by omega) | exact pc_0 (by assumption) hAF (by rw [hAP]; assumption) (by omega)) | (exfalso; omega)))
   ·refine R.go 3 (k14 true (l16Upsets_c n xs c1).frz rfl ?_)
    refine R.go 2 (k14 true (l06Variables_c l hAF (by first | omega | assumption | (have h2 := hub (by assumption); omega))).frz rfl ?_)
    refine R.go 1 (k14 true (l17Power_c ((upL n xs).length) ((mem (vmT l l.length)).length) (by first | omega | assumption | (have h2 := hub (by assumption); omega)) (by first | omega | assumption | (have h2 := hub (by assumption); omega)) (by first | omega | assumption | (have h2 := hub (by assumption); omega))) rfl ?_)
    refine R.go 3 (k3 ((pwT ((upL n xs).length) ((mem (vmT l l.length)).length)) > 4096) (fun c10 => ?_) (fun c10 => ?_))
    ·exact R.go 4 (k17 (AI 3) (by first | (apply congrArg AI; first | exact pc_1 (by assumption) | exact pc_2 (allF_no (i := i) (by omega) (by assumption)) | exact pc_5 (by assumption) hAF (by rw [hAP]; assumption) | exact pc_3 (by assumption) hAF (by rw [hAP]; assumption) (by omega) | exact pc_0 (by assumption) hAF (by rw [hAP]; assumption) (by omega)) | (exfalso; omega)))
    ·exact R.go 6 (k17 (AI 0) (by first | (apply congrArg AI; first | exact pc_1 (by assumption) | exact pc_2 (allF_no (i := i) (by omega) (by assumption)) | exact pc_5 (by assumption) hAF (by rw [hAP]; assumption) | exact pc_3 (by assumption) hAF (by rw [hAP]; assumption) (by omega) | exact pc_0 (by assumption) hAF (by rw [hAP]; assumption) (by omega)) | (exfalso; omega)))

end Go.Proofs.YtjllngcefoohpaaGreat


/-! Valuations on posets by numbers; what the reference answers. -/
namespace Go.Proofs.YtjllngcefoohpaaGreat
open Go.RowKit Go.Abs

def VS (vs : List Int) : Prop := vs.Nodup ∧ ∀ v ∈ vs, 0 ≤ v ∧ v < 6
theorem row_ext {X Y : List Int} (hx : X.length = 6) (hy : Y.length = 6) (h : ∀ j : Nat, j < 6 → X.getD j 0 = Y.getD j 0) : X = Y := by
  apply List.ext_getElem (by omega)
  intro j h1 h2
  have := h j (by omega)
  simpa [List.getD_eq_getElem?_getD, List.getElem?_eq_getElem h1, List.getElem?_eq_getElem h2] using this
theorem vs_get {vs : List Int} (h : VS vs) {k : Nat} (hk : k < vs.length) : vs.getD k 0 ∈ vs ∧ 0 ≤ vs.getD k 0 ∧ vs.getD k 0 < 6 ∧ vs.idxOf (vs.getD k 0) = k := by
  have e : vs.getD k 0 = vs[k] := by rw [List.getD_eq_getElem?_getD, List.getElem?_eq_getElem hk, Option.getD_some]
  have hm : vs.getD k 0 ∈ vs := by rw [e]; exact List.getElem_mem hk
  have := h.2 _ hm
  exact ⟨hm, this.1, this.2, by rw [e]; exact h.1.idxOf_getElem k hk⟩
theorem zero_out (vs : List Int) (j : Nat) (_ : j < 6) (_ : ¬ (j : Int) ∈ vs) : (List.replicate 6 (0 : Int)).getD j 0 = 0 := by
  simp only [List.getD_eq_getElem?_getD, List.getElem?_replicate]
  split <;> rfl
/-! The first number of which p holds. -/
def fstN (p : Nat → Bool) (t : Nat) : Option Nat := (List.range t).find? p
theorem fst_none {p : Nat → Bool} {t : Nat} (h : ∀ M, M < t → p M = false) : fstN p t = none := by
  rw [fstN, List.find?_eq_none]
  intro x hx
  rw [h x (by simpa using hx)]
  decide
theorem fst_some {p : Nat → Bool} {t N : Nat} (h : ∀ M, M < N → p M = false) (hp : p N = true) (ht : N < t) : fstN p t = some N := by
  rw [fstN, List.find?_eq_some_iff_append]
  refine ⟨hp, List.range N, (List.range t).drop (N + 1), ?_, fun x hx => by rw [h x (by simpa using hx)]; rfl⟩
  have h1 : (List.range t).take N = List.range N := by rw [List.take_range]; congr 1; omega
  have h2 : (List.range t).drop N = N :: (List.range t).drop (N + 1) := by
    rw [List.drop_eq_getElem_cons (by simpa using ht)]
    simp
  rw [← h1, ← h2, List.take_append_drop]
theorem below_succ {p : Nat → Bool} {N : Nat} (h : ∀ M, M < N → p M = false) (hp : p N = false) : ∀ M, M < N + 1 → p M = false := fun M hM => by
  by_cases e : M = N
  · rw [e]; exact hp
  · exact h M (by omega)
theorem VS_mem {m : Int} (hm : InM 6 m) : VS (mem m) := ⟨memN_nodup m 62, fun v hv => by have := mem_get hv hm; exact ⟨this.1, this.2.1⟩⟩
theorem VS_vmT {l : List (List (Int × Int))} (h : allF l = true) : VS (mem (vmT l l.length)) := VS_mem (inM6 (vmT_rng h _ (Nat.le_refl _)).1 (vmT_rng h _ (Nat.le_refl _)).2)
theorem allF_one {a : List (Int × Int)} (h : isF a = true) : allF [a] = true := by simp [allF, h]
theorem bor_zero {m : Int} (h : InM 6 m) : bor 0 m = m := by
  refine tb_ext (inM_bor (by decide) (inM_zero 6) h).1 h.1 fun i => ?_
  rw [tb_bor (by decide) (inM_zero 6) h, tb_zero, Bool.false_or]
theorem vmT_one {a : List (Int × Int)} (h : isF a = true) : vmT [a] [a].length = vmTo a a.length := by
  show bor 0 (vmTo a a.length) = _
  exact bor_zero (vm63 (isF_parts h).2.2.1)

/-- The value of variable j in the valuation N. -/
def vatU (ups vs : List Int) (N j : Nat) : Int := if (j : Int) ∈ vs then ups.getD (N / ups.length ^ (vs.length - 1 - vs.idxOf (j : Int)) % ups.length) 0 else 0
def vrU (ups vs : List Int) (N : Nat) : List Int := (List.range 6).map (vatU ups vs N)
theorem vrU_len (ups vs : List Int) (N : Nat) : (vrU ups vs N).length = 6 := by simp [vrU]
theorem vrU_get {ups vs : List Int} {N j : Nat} (h : j < 6) : (vrU ups vs N).getD j 0 = vatU ups vs N j := by
  simp [vrU, List.getD_eq_getElem?_getD, h]
/-! From the end on. -/
def PDU (ups vs : List Int) (N k : Nat) (X : List Int) : Prop := X.length = 6 ∧ ∀ j : Nat, j < 6 → ((j : Int) ∈ vs.drop k → X.getD j 0 = vatU ups vs N j) ∧ (¬ (j : Int) ∈ vs.drop k → X.getD j 0 = 0)
theorem pdU_start {ups vs : List Int} {N k : Nat} (hk : vs.length ≤ k) : PDU ups vs N k (List.replicate 6 0) := ⟨by simp, fun j hj => ⟨fun h => by rw [List.drop_eq_nil_of_le hk] at h; simp at h, fun _ => by
  simp only [List.getD_eq_getElem?_getD, List.getElem?_replicate]
  split <;> rfl⟩⟩
theorem pdU_step {ups vs : List Int} {N k : Nat} {X : List Int} {v : Int} (h : PDU ups vs N (k + 1) X) (hv : VS vs) (hk : k < vs.length) (he : v = ups.getD (N / ups.length ^ (vs.length - 1 - k) % ups.length) 0) : PDU ups vs N k (X.set (vs.getD k 0).toNat v) := by
  obtain ⟨hm, h0, h6, hi⟩ := vs_get hv hk
  have hd : vs.drop k = vs.getD k 0 :: vs.drop (k + 1) := by
    rw [List.drop_eq_getElem_cons hk, List.getD_eq_getElem?_getD, List.getElem?_eq_getElem hk]; rfl
  refine ⟨by rw [List.length_set]; exact h.1, fun j hj => ?_⟩
  rw [getD_set_if _ _ _ _ _ (by rw [h.1]; omega), hd, List.mem_cons]
  by_cases e : (vs.getD k 0).toNat = j
  · rw [if_pos e]
    have ej : (j : Int) = vs.getD k 0 := by omega
    exact ⟨fun _ => by rw [vatU, if_pos (by rw [ej]; exact hm), ej, hi, he], fun h => absurd (.inl ej) h⟩
  · rw [if_neg e]
    have hne : ¬ (j : Int) = vs.getD k 0 := fun h => e (by omega)
    exact ⟨fun h2 => (h.2 j hj).1 (h2.elim (fun h => absurd h hne) id), fun h2 => (h.2 j hj).2 (fun h3 => h2 (.inr h3))⟩
theorem pdU_end {ups vs : List Int} {N : Nat} {X : List Int} (h : PDU ups vs N 0 X) : X = vrU ups vs N := by
  refine row_ext h.1 (vrU_len _ _ _) fun j hj => ?_
  rw [vrU_get hj]
  have := h.2 j hj
  rw [List.drop_zero] at this
  by_cases hm : (j : Int) ∈ vs
  · exact this.1 hm
  · rw [this.2 hm, vatU, if_neg hm]
/-! From the beginning on: p, the number of the first k digits. -/
def PVU (ups vs : List Int) (p k : Nat) (X : List Int) : Prop := X.length = 6 ∧ ∀ j : Nat, j < 6 → ((j : Int) ∈ vs.take k → X.getD j 0 = ups.getD (p / ups.length ^ (k - 1 - vs.idxOf (j : Int)) % ups.length) 0) ∧ (¬ (j : Int) ∈ vs → X.getD j 0 = 0)
theorem idx_take {vs : List Int} (hv : VS vs) {j k : Nat} (hk : k ≤ vs.length) (h : (j : Int) ∈ vs.take k) : vs.idxOf (j : Int) < k := by
  obtain ⟨t, ht, e⟩ := List.getElem_of_mem h
  rw [List.length_take] at ht
  rw [List.getElem_take] at e
  rw [← e, hv.1.idxOf_getElem t (by omega)]
  omega
theorem pvU_step {ups vs : List Int} {p k i : Nat} {X : List Int} (h : PVU ups vs p k X) (hv : VS vs) (hk : k < vs.length) (hi : i < ups.length) : PVU ups vs (p * ups.length + i) (k + 1) (X.set (vs.getD k 0).toNat (ups.getD i 0)) := by
  obtain ⟨hm, h0, h6, hix⟩ := vs_get hv hk
  refine ⟨by rw [List.length_set]; exact h.1, fun j hj => ⟨fun hjm => ?_, fun hjn => ?_⟩⟩
  · rw [getD_set_if _ _ _ _ _ (by rw [h.1]; omega)]
    by_cases e : (vs.getD k 0).toNat = j
    · rw [if_pos e]
      have ej : (j : Int) = vs.getD k 0 := by omega
      rw [ej, hix, show k + 1 - 1 - k = 0 by omega, Nat.pow_zero, Nat.div_one, Nat.mul_comm, Nat.mul_add_mod, Nat.mod_eq_of_lt hi]
    · rw [if_neg e]
      rw [List.take_succ_eq_append_getElem hk, List.mem_append, List.mem_singleton] at hjm
      rcases hjm with hjm | hjm
      · have hlt := idx_take hv (by omega) hjm
        rw [(h.2 j hj).1 hjm, show k + 1 - 1 - vs.idxOf (j : Int) = (k - 1 - vs.idxOf (j : Int)) + 1 by omega, Nat.pow_succ, Nat.mul_comm (ups.length ^ _) ups.length, ← Nat.div_div_eq_div_mul, Nat.mul_comm p, Nat.mul_add_div (by omega), Nat.div_eq_of_lt hi, Nat.add_zero]
      · exfalso
        apply e
        rw [List.getD_eq_getElem?_getD, List.getElem?_eq_getElem hk, Option.getD_some, ← hjm]
        omega
  · rw [getD_set_if _ _ _ _ _ (by rw [h.1]; omega), if_neg (by rintro rfl; exact hjn (by rw [show ((vs.getD k 0).toNat : Int) = vs.getD k 0 by omega]; exact hm))]
    exact (h.2 j hj).2 hjn
theorem pvU_end {ups vs : List Int} {p k : Nat} {X : List Int} (h : PVU ups vs p k X) (hk : k = vs.length) : X = vrU ups vs p := by
  subst hk
  refine row_ext h.1 (vrU_len _ _ _) fun j hj => ?_
  rw [vrU_get hj]
  by_cases hm : (j : Int) ∈ vs
  · rw [(h.2 j hj).1 (by rw [List.take_length]; exact hm), vatU, if_pos hm]
  · rw [(h.2 j hj).2 hm, vatU, if_neg hm]
theorem pvU_start (ups vs : List Int) : PVU ups vs 0 0 (List.replicate 6 0) := ⟨by simp, fun j hj => ⟨fun h => by simp at h, zero_out vs j hj⟩⟩
theorem pvU_of {ups vs : List Int} {N p k : Nat} (hv : VS vs) (hk : k ≤ vs.length) (h : N / ups.length ^ (vs.length - k) = p) : PVU ups vs p k (vrU ups vs N) := by
  refine ⟨vrU_len _ _ _, fun j hj => ⟨fun hjm => ?_, fun hjn => ?_⟩⟩
  · have hlt := idx_take hv hk hjm
    rw [vrU_get hj, vatU, if_pos (List.mem_of_mem_take hjm), ← h, Nat.div_div_eq_div_mul, ← Nat.pow_add, show vs.length - k + (k - 1 - vs.idxOf (j : Int)) = vs.length - 1 - vs.idxOf (j : Int) by omega]
  · rw [vrU_get hj, vatU, if_neg hjn]
/-- The last valuation of part i of the numbers that begin with p. -/
theorem last_div {U d p i N : Nat} (hi : i < U) (h1 : (p * U + i) * U ^ d ≤ N) (h2 : N < (p * U + i + 1) * U ^ d) : N / U ^ (d + 1) = p := by
  have hU : 0 < U ^ d := by
    rcases Nat.eq_zero_or_pos (U ^ d) with h | h
    · rw [h] at h2; omega
    · exact h
  have h3 : N / U ^ d = p * U + i := by
    apply Nat.div_eq_of_lt_le
    · exact h1
    · exact h2
  rw [Nat.pow_succ, ← Nat.div_div_eq_div_mul, h3, Nat.mul_comm p, Nat.mul_add_div (by omega), Nat.div_eq_of_lt hi, Nat.add_zero]
theorem img_zero (xs : List Int) : ∀ i : Nat, i ≤ 61 → img xs 0 i = 0
  | 0, _ => rfl
  | i + 1, h => by
    have := has_tb (n := 8) (i := i) (m := 0) (by decide) (inM_zero 8) (by omega)
    rw [img, if_neg (fun e => by have := this.1 e; rw [tb_zero] at this; cases this)]
    exact img_zero xs i (by omega)
theorem upTo_pos (xs : List Int) (h : xs.length ≤ 60) : ∀ k : Nat, 1 ≤ k → 1 ≤ (upTo xs k).length
  | 0, hk => by omega
  | 1, _ => by
    have e : img xs ((0 : Nat) : Int) xs.length = ((0 : Nat) : Int) := img_zero xs xs.length (by omega)
    rw [← upTo_yes e]
    simp
  | k + 2, _ => by
    have ih := upTo_pos xs h (k + 1) (by omega)
    by_cases e : img xs ((k + 1 : Nat) : Int) xs.length = ((k + 1 : Nat) : Int)
    · rw [← upTo_yes e]; simp
    · rw [← upTo_no e]; exact ih
theorem upL_pos {n : Int} {xs : List Int} (h : okPo n xs = true) : 1 ≤ (upL n xs).length := by
  have hF := okFr_rel (okPo_fr h)
  have hs := shl_rng n hF.1 (by omega)
  exact upTo_pos xs (by omega) _ (by omega)
/-- Is the formula not forced everywhere in the valuation N? -/
def badU (n : Int) (xs vs : List Int) (a : List (Int × Int)) (N : Nat) : Bool := !decide (fcd n xs (vrU (upL n xs) vs N) a = (shl64 1 n) - 1)
theorem badU_no {n : Int} {xs vs : List Int} {a : List (Int × Int)} {N : Nat} (h : fcd n xs (vrU (upL n xs) vs N) a = (shl64 1 n) - 1) : badU n xs vs a N = false := by simp [badU, h]
theorem badU_yes {n : Int} {xs vs : List Int} {a : List (Int × Int)} {N : Nat} (h : ¬ fcd n xs (vrU (upL n xs) vs N) a = (shl64 1 n) - 1) : badU n xs vs a N = true := by simp [badU, h]
def totU (n : Int) (xs vs : List Int) : Nat := (upL n xs).length ^ vs.length
def fstU (n : Int) (xs vs : List Int) (a : List (Int × Int)) : Option Nat := fstN (badU n xs vs a) (totU n xs vs)
def uRow (n : Int) (xs vs : List Int) (a : List (Int × Int)) : List Int := match fstU n xs vs a with | some N => vrU (upL n xs) vs N | none => []
def uVal (n : Int) (xs vs : List Int) (a : List (Int × Int)) : Int := match fstU n xs vs a with | some N => fcd n xs (vrU (upL n xs) vs N) a | none => 0
theorem tup3 {s : Nat} {a c : List Int} {b d : Int} {p q : Bool} (h : a = c) (h2 : b = d) (h3 : p = q) : AV.tup [ownA eI s 1 a, AI b, .bool p] = AV.tup [ownA eI s 1 c, AI d, .bool q] := by rw [h, h2, h3]
theorem tot_le {n : Int} {xs vs : List Int} (h : pwT ((upL n xs).length : Int) vs.length ≤ 4096) : (totU n xs vs : Int) = pwT ((upL n xs).length : Int) vs.length := (pwT_pow h vs.length (Nat.le_refl _)).symm

theorem variablesInG_c (l : List (List (Int × Int))) (vs : List Int) (hvs : vs = mem (vmT l l.length)) (hF : allF l = true) (hl : l.length ≤ 1000000000) : CallA Tryz.prog 118 [LLN l] (ownA eI 2 1 vs) := by rw [hvs]; exact variablesIn_c l hF hl
theorem l02VariablesG_c (a : List (Int × Int)) (vs : List Int) (hvs : vs = mem (vmT [a] [a].length)) (hF : isF a = true) : CallA Tryz.prog 120 [LN a] (ownA eI 2 1 vs) := by
  rw [hvs, vmT_one hF]
  exact l02VariablesM_c a (isF_parts hF).2.2.1 (isF_parts hF).1
theorem upsetsG_c (n : Int) (xs ups : List Int) (hu : ups = upL n xs) (hP : okPo n xs = true) : CallA Tryz.prog 70 [.agg [AI n, LI xs]] (ownA eI 2 1 ups) := by rw [hu]; exact upsets_c n xs hP
theorem l16UpsetsG_c (n : Int) (xs ups : List Int) (hu : ups = upL n xs) (hP : okPo n xs = true) : CallA Tryz.prog 160 [.agg [AI n, LI xs]] (ownA eI 2 1 ups) := by rw [hu]; exact l16Upsets_c n xs hP

theorem l17Values_c (ups : List Int) (vs : List Int) (N : Nat) (hVS : VS vs) (hu : 1 ≤ ups.length) (hul : ups.length ≤ 1000) (hvl : vs.length ≤ 62) (hN : (N : Int) ≤ 1000000) : CallA Tryz.prog 277 [LI ups, LI vs, AI (N : Int)] (ownA eI 2 1 (vrU ups vs N)) := by
 refine CallA.of Tryz.func277 rfl (by kernel_rfl) ?_
 refine R.go 14 (k1 ((vs.length : Int) - 1) ?_)
 refine R.go 3 (k15 ((fun | (k, X, q) => (⟨(frm 35 [(0, LI ups), (1, LI vs), (2, AI q), (7, .ref 0), (8, AI k)]), [rowA eI 2 1 X]⟩ : St) : Int × (List Int) × Int → St)) (fun | (k, X, q) => (-1 ≤ k) ∧ (k < vs.length) ∧ (PDU ups vs N (k + 1).toNat X) ∧ (q = ((N / ups.length ^ (vs.length - 1 - k).toNat : Nat) : Int))) (fun | (k, X, q) => (k + 1).toNat) (((vs.length : Int) - 1), (List.replicate 6 0), (N : Int)) [0, 1, 2, 7, 8] none ⟨(by omega), (by omega), (by exact pdU_start (by omega)), (by rw [show ((vs.length : Int) - 1 - ((vs.length : Int) - 1)).toNat = 0 by omega, Nat.pow_zero, Nat.div_one])⟩ ?_)
 rintro ⟨k, X, q⟩ ⟨h4_1, h4_2, h4_3, h4_4⟩ R1 N2
 have hP : PDU ups vs N (k + 1).toNat X := by assumption
 have hXl : X.length = 6 := hP.1
 have hg := fun h : 0 ≤ k => vs_get hVS (k := k.toNat) (by omega)
 have hqr : 0 ≤ q ∧ q ≤ 1000000 := by
  have h1 := Nat.div_le_self N (ups.length ^ (vs.length - 1 - k).toNat)
  have h2 : q = ((N / ups.length ^ (vs.length - 1 - k).toNat : Nat) : Int) := by assumption
  generalize N / ups.length ^ (vs.length - 1 - k).toNat = z at h1 h2
  omega
 have hqm : 0 ≤ q % (ups.length : Int) ∧ q % (ups.length : Int) < (ups.length : Int) := ⟨Int.emod_nonneg _ (by omega), Int.emod_lt_of_pos _ (by omega)⟩
 have hqd : 0 ≤ q / (ups.length : Int) ∧ q / (ups.length : Int) ≤ q := ⟨Int.ediv_nonneg (by omega) (by omega), Int.ediv_le_self _ (by omega)⟩
 refine R.go 6 (k3 (k ≥ 0) (fun c5 => ?_) (fun c5 => ?_))
 ·have hq : q = ((N / ups.length ^ (vs.length - 1 - k).toNat : Nat) : Int) := by assumption
  have hg2 := hg (by omega)
  have hk0 : 0 ≤ k := by omega
  refine R.go 8 (k8 eI vs 0 ((k).toNat) k (by omega) eI_len ?_)
  refine R.go 5 (R.rem q ups.length (by kernel_rfl) (by omega) (by omega) (by kernel_rfl) ?_)
  refine k8 eI ups 0 ((q % ups.length).toNat) (q % ups.length) (by omega) eI_len ?_
  refine R.go 1 (k9 0 1 X.length (((vs.getD ((k).toNat) 0)).toNat) (vs.getD ((k).toNat) 0) ?_)
  refine k11 0 2 X (((vs.getD ((k).toNat) 0)).toNat) (ups.getD ((q % ups.length).toNat) 0) ?_
  refine R.go 5 (R.quo q ups.length (by kernel_rfl) (by omega) (by omega) (by omega) (by kernel_rfl) ?_)
  refine R.go 5 (k1 (k - 1) ?_)
  exact R.go 2 (k16 R1 (N2 (k - 1, X.set (((vs.getD ((k).toNat) 0)).toNat) (ups.getD ((q % ups.length).toNat) 0), q / ups.length) [0, 1, 2, 7, 8] none _ (by kernel_rfl) (by kernel_rfl) ⟨(by omega), (by omega), (by rw [show (k - 1 + 1).toNat = k.toNat by omega]; exact pdU_step (by rw [show k.toNat + 1 = (k + 1).toNat by omega]; exact hP) hVS (by omega) (by rw [hq, show (vs.length - 1 - k).toNat = vs.length - 1 - k.toNat by omega, ← Int.natCast_emod, Int.toNat_natCast])), (by rw [hq, ← Int.natCast_ediv, Nat.div_div_eq_div_mul, ← Nat.pow_succ, show (vs.length - 1 - (k - 1)).toNat = (vs.length - 1 - k).toNat + 1 by omega])⟩ (by show (((k - 1) + 1).toNat) < ((k + 1).toNat); omega)))
 ·exact R.go 6 (k17 (ownA eI 2 1 X) (by first | (rw [pdU_end (ups := ups) (vs := vs) (N := N) (X := X) (by rw [show 0 = (k + 1).toNat by omega]; exact hP)]) | (exfalso; omega)))

theorem l17First_c (n : Int) (xs : List Int) (a : List (Int × Int)) (hR : okPo n xs = true) (hF : isF a = true) (hpl : a.any modN = false) (ht : pwT ((upL n xs).length : Int) (mem (vmT [a] [a].length)).length ≤ 4096) : CallA Tryz.prog 162 [.agg [AI n, LI xs], LN a] (.tup [ownA eI 2 1 (uRow n xs (mem (vmT [a] [a].length)) a), AI (uVal n xs (mem (vmT [a] [a].length)) a), .bool ((fstU n xs (mem (vmT [a] [a].length)) a).isSome)]) := by
 obtain ⟨vs, hvs⟩ : ∃ vs, vs = mem (vmT [a] [a].length) := ⟨_, rfl⟩
 obtain ⟨ups, hu⟩ : ∃ ups, ups = upL n xs := ⟨_, rfl⟩
 rw [← hvs] at ht ⊢
 rw [← hu] at ht
 have hfr : okFr n xs = true := okPo_fr hR
 have hFr := okFr_rel hfr
 have hb0 : 0 ≤ n ∧ n ≤ 8 ∧ (xs.length : Int) = n := ⟨hFr.1, hFr.2.1, hFr.2.2.1⟩
 have hAF : allF [a] = true := allF_one hF
 have hVS : VS vs := by rw [hvs]; exact VS_vmT hAF
 have hvl : vs.length ≤ 62 := by rw [hvs]; exact mem_le _
 have hul : ups.length ≤ 256 := by rw [hu]; exact upL_len hR
 have hup : 1 ≤ ups.length := by rw [hu]; exact upL_pos hR
 have htt : (totU n xs vs : Int) = pwT (ups.length : Int) vs.length := by rw [hu]; rw [hu] at ht; exact tot_le ht
 have hok : OKM 6 a := (isF_okm hF).1
 have hal : a.length ≤ 40 := (isF_okm hF).2
 have hok2 := fun N => show OKM (vrU ups vs N).length a by rw [vrU_len]; exact hok
 have hlen := okm_pos hok
 refine CallA.of Tryz.func162 rfl (by kernel_rfl) ?_
 refine R.go 10 (k14 true (l16UpsetsG_c n xs ups (by assumption) hR).frz rfl ?_)
 refine R.go 1 (k14 true (l02VariablesG_c a vs (by assumption) hF).frz rfl ?_)
 refine R.go 9 (k14 true (l17Power_c ups.length vs.length (by first | omega | (simp <;> omega)) (by first | omega | (simp <;> omega)) (by first | omega | (simp <;> omega))) rfl ?_)
 refine R.go 8 (k15 (fun (N : Nat) => (⟨(frm 42 [(1, LN a), (2, .ptr 0 0), (7, LI ups), (8, LI vs), (9, AI (pwT ups.length vs.length)), (10, AI (N : Int))]), [.box 35 [AI n, LI xs]]⟩ : St)) (fun (N : Nat) => ((N : Int) ≤ pwT (ups.length : Int) vs.length) ∧ (∀ M : Nat, M < N → badU n xs vs a M = false)) (fun (N : Nat) => (totU n xs vs) - N) 0 [1, 2, 7, 8, 9, 10] none ⟨(by omega), (by exact fun M hM => absurd hM (by omega))⟩ ?_)
 rintro N ⟨h3_1, h3_2⟩ R1 N2
 have hoX := hok2 N
 have hvl6 := vrU_len ups vs N
 refine R.go 7 (k3 ((N : Int) < (pwT ups.length vs.length)) (fun c4 => ?_) (fun c4 => ?_))
 ·refine R.go 8 (k14 true (l17Values_c ups vs N hVS hup (by first | omega | (simp <;> omega)) hvl (by omega)) rfl ?_)
  refine R.go 7 (k14 false (l17ForceF_c n xs (vrU ups vs N) a (by assumption) hpl hfr (by first | omega | (simp <;> omega))) rfl ?_)
  refine R.go 7 (k14 true (l01Full_c n (by omega) (by omega)) rfl ?_)
  refine R.go 2 (k4 ((fcd n xs (vrU ups vs N) a) = ((shl64 1 n) - 1)) (fun c5 => ?_) (fun c5 => ?_))
  ·exact R.go 8 (k17 (.tup [ownA eI 2 1 (vrU ups vs N), AI (fcd n xs (vrU ups vs N) a), .bool true]) (by first | (refine tup3 ?_ ?_ ?_ <;> first | (have e : fstU n xs vs a = some N := fst_some (‹∀ M : Nat, M < N → badU n xs vs a M = false›) (badU_yes (by rw [← hu]; assumption)) (by omega); simp [uRow, uVal, e, ← hu]; done) | (have e : fstU n xs vs a = none := fst_none (fun M hM => (‹∀ M : Nat, M < N → badU n xs vs a M = false›) M (by omega)); simp [uRow, uVal, e]; done)) | (exfalso; omega)))
  ·refine R.go 4 (k1 ((N : Int) + 1) ?_)
   exact R.go 2 (k16 R1 (N2 (N + 1) [1, 2, 7, 8, 9, 10] (some [0]) _ (by kernel_rfl) (by kernel_rfl) ⟨(by omega), (by exact below_succ (by assumption) (badU_no (by rw [← hu]; assumption)))⟩ (by show ((totU n xs vs) - (N + 1)) < ((totU n xs vs) - N); omega)))
 ·refine R.go 7 (R.nil 4 2 1 (by kernel_rfl) ?_)
  exact k17 (.tup [ownA eI 2 1 [], AI 0, .bool false]) (by first | (refine tup3 ?_ ?_ ?_ <;> first | (have e : fstU n xs vs a = some N := fst_some (‹∀ M : Nat, M < N → badU n xs vs a M = false›) (badU_yes (by rw [← hu]; assumption)) (by omega); simp [uRow, uVal, e, ← hu]; done) | (have e : fstU n xs vs a = none := fst_none (fun M hM => (‹∀ M : Nat, M < N → badU n xs vs a M = false›) M (by omega)); simp [uRow, uVal, e]; done)) | (exfalso; omega))

theorem l17Valid_c (n : Int) (xs : List Int) (a : List (Int × Int)) (hR : okPo n xs = true) (hF : isF a = true) (hpl : a.any modN = false) (ht : pwT ((upL n xs).length : Int) (mem (vmT [a] [a].length)).length ≤ 4096) : CallA Tryz.prog 69 [.agg [AI n, LI xs], LN a] (.bool ((fstU n xs (mem (vmT [a] [a].length)) a).isNone)) := by
 refine CallA.of Tryz.func69 rfl (by kernel_rfl) ?_
 refine R.go 9 (k14 true (l17First_c n xs a hR hF hpl ht).frz rfl ?_)
 exact R.go 14 (k17 (.bool (!((fstU n xs (mem (vmT [a] [a].length)) a).isSome))) (by first | (apply congrArg AV.bool; cases fstU n xs (mem (vmT [a] [a].length)) a <;> rfl) | (exfalso; omega)))

def pvV (n : Int) (xs : List Int) (a : List (Int × Int)) : Bool := decide (pcode n xs [a] = 0) && (fstU n xs (mem (vmT [a] [a].length)) a).isNone
theorem pv_no {n : Int} {xs : List Int} {a : List (Int × Int)} (h : ¬ pcode n xs [a] = 0) : AV.tup [.bool false, AI (pcode n xs [a])] = AV.tup [.bool (pvV n xs a), AI (pcode n xs [a])] := by rw [pvV, decide_eq_false h]; rfl
theorem pv_yes {n : Int} {xs : List Int} {a : List (Int × Int)} (h : pcode n xs [a] = 0) : AV.tup [.bool (fstU n xs (mem (vmT [a] [a].length)) a).isNone, AI 0] = AV.tup [.bool (pvV n xs a), AI (pcode n xs [a])] := by rw [pvV, decide_eq_true h, h]; rfl
theorem pl_one {a : List (Int × Int)} (h : allPl [a] = true) : a.any modN = false := by simpa [allPl, anyM] using h
theorem isF_all {a : List (Int × Int)} (h : allF [a] = true) : isF a = true := by
  have := allF_get h 0 (by simp)
  exact this
theorem PV_spec (n : Int) (xs : List Int) (a : List (Int × Int)) (lx : xs.length ≤ 1048576) (la : a.length ≤ 1048576) : CallA Tryz.prog 17 [.agg [AI n, LI xs], LN a] (.tup [.bool (pvV n xs a), AI (pcode n xs [a])]) := by
 refine CallA.of Tryz.func17 rfl (by kernel_rfl) ?_
 refine R.go 10 (R.lit (s := 1) (n := 1) (cs := rows eLN [a]) (by kernel_rfl) (by kernel_rfl) ?_)
 refine k14 true (l17Search_c n xs [a] lx (by first | assumption | exact shortL_one (by omega))) rfl ?_
 refine R.go 8 (k4 ((pcode n xs [a]) = 0) (fun c1 => ?_) (fun c1 => ?_))
 ·exact R.go 6 (k17 (.tup [.bool false, AI (pcode n xs [a])]) (by first | (first | exact pv_no (by assumption) | exact pv_yes (by assumption)) | (exfalso; omega)))
 ·have hc0 : pcode n xs [a] = 0 := by assumption
  have hpo := pc_ok hc0
  have hR : okPo n xs = true := hpo.1
  have hF : isF a = true := isF_all hpo.2.1
  have hpl : a.any modN = false := pl_one hpo.2.2.1
  have ht0 : pwT ((upL n xs).length : Int) (mem (vmT [a] [a].length)).length ≤ 4096 := hpo.2.2.2
  refine R.go 5 (k14 true (l17Valid_c n xs a hR hF hpl ht0) rfl ?_)
  exact R.go 3 (k17 (.tup [.bool ((fstU n xs (mem (vmT [a] [a].length)) a).isNone), AI 0]) (by first | (first | exact pv_no (by assumption) | exact pv_yes (by assumption)) | (exfalso; omega)))

end Go.Proofs.YtjllngcefoohpaaGreat


/-! The program's valuations on posets (a recursive closure that yields); validity and first refutations. -/
namespace Go.Proofs.YtjllngcefoohpaaGreat
open Go.RowKit Go.Abs

theorem li_next {a i q li : Nat} (h : li = (a + i) * q) : li + q = (a + (i + 1)) * q := by rw [h, ← Nat.add_assoc, Nat.succ_mul]
theorem li_start {p U q lo : Nat} (h : lo = p * (q * U)) : lo = (p * U + 0) * q := by rw [h, Nat.add_zero, Nat.mul_assoc, Nat.mul_comm U q]
theorem li_end {p U q lo li i : Nat} (h : lo = p * (q * U)) (h2 : li = (p * U + i) * q) (hi : i = U) : li = lo + q * U := by rw [h2, h, hi, Nat.add_mul, Nat.mul_assoc, Nat.mul_comm U q]
theorem li_bd {p U q lo li i : Nat} (h : lo = p * (q * U)) (h2 : li = (p * U + i) * q) (hi : i < U) : lo ≤ li ∧ li + q ≤ lo + q * U := by
  have h3 : (i + 1) * q ≤ U * q := Nat.mul_le_mul_right q hi
  have h4 : li = lo + i * q := by rw [h2, h, Nat.add_mul, Nat.mul_assoc, Nat.mul_comm U q]
  rw [Nat.succ_mul] at h3
  rw [Nat.mul_comm q U]
  omega
theorem pv_next {ups vs : List Int} {p d k i li q : Nat} (hv : VS vs) (hk : k + (d + 1) = vs.length) (hi : i < ups.length) (hq : q = ups.length ^ d) (hli : li = (p * ups.length + i) * q) (hq0 : 1 ≤ q) : PVU ups vs p k (vrU ups vs (li + q - 1)) := by
  refine pvU_of hv (by omega) ?_
  rw [show vs.length - k = d + 1 by omega]
  have h1 := Nat.succ_mul (p * ups.length + i) q
  refine last_div (i := i) hi ?_ ?_
  · rw [← hq, ← hli]; omega
  · rw [← hq, h1, ← hli]; omega

theorem badU_eq {n : Int} {xs ups vs : List Int} {a : List (Int × Int)} {p : Nat} (hu : ups = upL n xs) (h : badU n xs vs a p = false) : fcd n xs (vrU ups vs p) a = (shl64 1 n) - 1 := by subst hu; simpa [badU] using h
theorem badU_ne {n : Int} {xs ups vs : List Int} {a : List (Int × Int)} {p : Nat} (hu : ups = upL n xs) (h : badU n xs vs a p = true) : ¬ fcd n xs (vrU ups vs p) a = (shl64 1 n) - 1 := by subst hu; simpa [badU] using h
theorem fstN_none {p : Nat → Bool} {t : Nat} (h : fstN p t = none) : ∀ M : Nat, M < t → p M = false := fun M hM => by
  have := List.find?_eq_none.1 h M (List.mem_range.2 hM)
  simpa using this
theorem fstN_some {p : Nat → Bool} {N : Nat} : ∀ {t : Nat}, fstN p t = some N → N < t ∧ p N = true ∧ ∀ M : Nat, M < N → p M = false
  | 0, h => by simp [fstN] at h
  | t + 1, h => by
    have e : fstN p (t + 1) = (fstN p t).or (if p t = true then some t else none) := by
      have h5 : List.find? p [t] = if p t = true then some t else none := by cases e : p t <;> simp [List.find?, e]
      rw [fstN, List.range_succ, List.find?_append, h5]
      rfl
    rw [e] at h
    cases hN : fstN p t with
    | some N' =>
      rw [hN] at h
      simp only [Option.some_or, Option.some.injEq] at h
      subst h
      have := fstN_some hN
      exact ⟨by omega, this.2⟩
    | none =>
      rw [hN] at h
      simp only [Option.none_or] at h
      split at h
      · rename_i hp
        simp only [Option.some.injEq] at h
        subst h
        exact ⟨by omega, hp, fstN_none hN⟩
      · cases h

theorem valuationsP_c (n : Int) (xs : List Int) (vs : List Int) (ups : List Int) (hu : ups = upL n xs) (hP : okPo n xs = true) : CallA Tryz.prog 275 [.agg [AI n, LI xs], LI vs] (.fn 333 [.rptr [LI vs], .rptr [LI ups]]) := by
 refine CallA.of Tryz.func275 rfl (by kernel_rfl) ?_
 refine R.go 9 (k14 true (upsetsG_c n xs ups hu hP).frz rfl ?_)
 refine R.go 8 (R.bx 1 (by kernel_rfl) ?_)
 refine R.bx 2 (by kernel_rfl) ?_
 exact k17 (.fn 333 [.rptr [LI vs], .rptr [LI ups]]) (by rfl)

theorem unf_go (n : Int) (xs vs ups : List Int) (a : List (Int × Int)) (hR : okPo n xs = true) (hb0 : 0 ≤ n ∧ n ≤ 8 ∧ (xs.length : Int) = n) (hVS : VS vs) (hvl : vs.length ≤ 62) (hul : ups.length ≤ 256) (hup : 1 ≤ ups.length) (hok : OKM 6 a) (hal : a.length ≤ 40) (hpl : a.any modN = false) (hu : ups = upL n xs) (D : Nat) (us : List Value) : ∀ (d k p q lo e : Nat) (r : List Int), k + d = vs.length → q = ups.length ^ d → lo = p * q → e + 1 = lo + q → PVU ups vs p k r → (∀ M : Nat, lo ≤ M → M ≤ e → badU n xs vs a M = false) → CallS Tryz.prog 334 [AI (k : Int), .rptr [LI vs], .ptr 7 0, .ptr 9 0, .rptr [LI ups], .ptr 10 0] [.box 35 [AI n, LI xs], .box 39 [LN a], .box 30 [.nil], .box 2 [AI 0], .box 4 [.bool false], .frame us (frm 26 [(0, .agg [AI n, LI xs]), (1, LN a), (2, .ptr 0 0), (3, .ptr 1 0), (4, .ptr 2 0), (5, .ptr 3 0), (6, .ptr 4 0), (9, .agg [AI n, LI xs]), (10, LN a), (11, LLN [a]), (12, LI vs), (13, .fn 333 [.rptr [LI vs], .rptr [LI ups]])]), loopObj Tryz.f157 D us .ready, .box 133 [.ref 6], rowA eI 2 1 r, .box 30 [.ref 8], .box 178 [.fn 334 [.rptr [LI vs], .ptr 7 0, .ptr 9 0, .rptr [LI ups], .ptr 10 0]]] (.bool true) [.box 35 [AI n, LI xs], .box 39 [LN a], .box 30 [.nil], .box 2 [AI 0], .box 4 [.bool false], .frame us (frm 26 [(0, .agg [AI n, LI xs]), (1, LN a), (2, .ptr 0 0), (3, .ptr 1 0), (4, .ptr 2 0), (5, .ptr 3 0), (6, .ptr 4 0), (9, .agg [AI n, LI xs]), (10, LN a), (11, LLN [a]), (12, LI vs), (13, .fn 333 [.rptr [LI vs], .rptr [LI ups]])]), loopObj Tryz.f157 D us .ready, .box 133 [.ref 6], rowA eI 2 1 (vrU ups vs e), .box 30 [.ref 8], .box 178 [.fn 334 [.rptr [LI vs], .ptr 7 0, .ptr 9 0, .rptr [LI ups], .ptr 10 0]]] := by
 intro d
 induction d with
 | zero =>
  intro k p q lo e r hk hq hlo he hr hb
  have hlp : lo = p := by rw [hlo, hq, Nat.pow_zero, Nat.mul_one]
  have hq1 : q = 1 := by rw [hq, Nat.pow_zero]
  have hrv : r = vrU ups vs p := pvU_end hr (by omega)
  have hkv : (k : Int) = (vs.length : Int) := by omega
  have hoX : OKM (vrU ups vs p).length a := by rw [vrU_len]; exact hok
  have hvl6 := vrU_len ups vs p
  have hfrr : okFr n xs = true := okPo_fr hR
  subst hrv
  have hep : e = p := by omega
  rw [hep]
  have hgood : fcd n xs (vrU ups vs p) a = (shl64 1 n) - 1 := badU_eq hu (hb p (by omega) (by omega))
  refine CallS.cast (CallS.drop [0, 1, 2, 3, 4, 5, 6, 7, 8, 9, 10] (CallS.of (res := .bool true) (hp' := [.box 35 [AI n, LI xs], .box 39 [LN a], .box 30 [.nil], .box 2 [AI 0], .box 4 [.bool false], .frame us (frm 26 [(0, .agg [AI n, LI xs]), (1, LN a), (2, .ptr 0 0), (3, .ptr 1 0), (4, .ptr 2 0), (5, .ptr 3 0), (6, .ptr 4 0), (9, .agg [AI n, LI xs]), (10, LN a), (11, LLN [a]), (12, LI vs), (13, .fn 333 [.rptr [LI vs], .rptr [LI ups]])]), loopObj Tryz.f157 D us .ready, .box 133 [.ref 6], rowA eI 2 1 (vrU ups vs p), .box 30 [.ref 8], .box 178 [.fn 334 [.rptr [LI vs], .ptr 7 0, .ptr 9 0, .rptr [LI ups], .ptr 10 0]], .dead, .dead]) Tryz.func334 rfl (by kernel_rfl) ?_) (by kernel_rfl) (by decide)) (by kernel_rfl) (by kernel_rfl)
  intro usC frC
  refine R.go 12 (R.thn (decide ((k : Int) = (vs.length : Int))) (by kernel_rfl) (dT hkv) ?_)
  refine R.go 4 (R.yield 6 D us (by kernel_rfl) (by kernel_rfl) ?_)
  intro l1 us2
  refine R.go 3 (R.begin (by kernel_rfl) (by kernel_rfl) ?_)
  refine R.go 6 (k14 false (forced2_c n xs (vrU ups vs p) a hoX hpl (by omega) (by omega) (by first | omega | (simp <;> omega)) (by first | omega | (simp <;> omega))) rfl ?_)
  refine R.go 6 (k14 true (pAll_c n xs (by omega) (by omega)) rfl ?_)
  refine R.go 2 (k4 ((fcd n xs (vrU ups vs p) a) = ((shl64 1 n) - 1)) (fun c3 => ?_) (fun c3 => ?_))
  ·exfalso; omega -- another end: .bool false
  ·refine R.go 2 (R.round (frm 36 [(0, AI (k : Int)), (1, .rptr [LI vs]), (2, .ptr 7 0), (3, .ptr 9 0), (4, .rptr [LI ups]), (5, .ptr 10 0), (7, .bool false), (10, AI (k : Int)), (11, LI vs), (12, AI vs.length), (13, .bool (decide ((k : Int) = (vs.length : Int)))), (14, .ref 6), (15, .ref 8)]) (by kernel_rfl) (by kernel_rfl) (by kernel_rfl) ?_)
   exact R.go 2 (R.retS (by kernel_rfl) (by kernel_rfl) (by kernel_rfl) (by kernel_rfl))
 | succ d ih =>
  intro k p q lo e r hk hq hlo he hr hb
  obtain ⟨q1, hq1⟩ : ∃ q1, q1 = ups.length ^ d := ⟨_, rfl⟩
  have hqq : q = q1 * ups.length := by rw [hq, Nat.pow_succ, hq1]
  have hlo2 : lo = p * (q1 * ups.length) := by rw [hlo, hqq]
  have hq0 : 1 ≤ q1 := by rw [hq1]; exact Nat.pow_pos (by omega)
  have hkv : ¬ (k : Int) = (vs.length : Int) := by omega
  have hg := vs_get hVS (k := k) (by omega)
  refine CallS.cast (CallS.drop [0, 1, 2, 3, 4, 5, 6, 7, 8, 9, 10] (CallS.of (res := .bool true) (hp' := [.box 35 [AI n, LI xs], .box 39 [LN a], .box 30 [.nil], .box 2 [AI 0], .box 4 [.bool false], .frame us (frm 26 [(0, .agg [AI n, LI xs]), (1, LN a), (2, .ptr 0 0), (3, .ptr 1 0), (4, .ptr 2 0), (5, .ptr 3 0), (6, .ptr 4 0), (9, .agg [AI n, LI xs]), (10, LN a), (11, LLN [a]), (12, LI vs), (13, .fn 333 [.rptr [LI vs], .rptr [LI ups]])]), loopObj Tryz.f157 D us .ready, .box 133 [.ref 6], rowA eI 2 1 (vrU ups vs e), .box 30 [.ref 8], .box 178 [.fn 334 [.rptr [LI vs], .ptr 7 0, .ptr 9 0, .rptr [LI ups], .ptr 10 0]], .dead]) Tryz.func334 rfl (by kernel_rfl) ?_) (by kernel_rfl) (by decide)) (by kernel_rfl) (by kernel_rfl)
  intro usC frC
  refine R.go 12 (R.els (decide ((k : Int) = (vs.length : Int))) (by kernel_rfl) (dF hkv) ?_)
  refine R.go 9 (k15 ((fun | (i, li, r1) => (⟨(frm 36 [(0, AI (k : Int)), (1, .rptr [LI vs]), (3, .ptr 9 0), (5, .ptr 10 0), (17, LI ups), (18, AI ups.length), (19, AI (i : Int))]), [.box 35 [AI n, LI xs], .box 39 [LN a], .box 30 [.nil], .box 2 [AI 0], .box 4 [.bool false], .frame us (frm 26 [(0, .agg [AI n, LI xs]), (1, LN a), (2, .ptr 0 0), (3, .ptr 1 0), (4, .ptr 2 0), (5, .ptr 3 0), (6, .ptr 4 0), (9, .agg [AI n, LI xs]), (10, LN a), (11, LLN [a]), (12, LI vs), (13, .fn 333 [.rptr [LI vs], .rptr [LI ups]])]), loopObj Tryz.f157 D us .ready, .box 133 [.ref 6], rowA eI 2 1 r1, .box 30 [.ref 8], .box 178 [.fn 334 [.rptr [LI vs], .ptr 7 0, .ptr 9 0, .rptr [LI ups], .ptr 10 0]], .frame usC frC]⟩ : St) : Nat × Nat × (List Int) → St)) (fun | (i, li, r1) => (i ≤ ups.length) ∧ (li = (p * ups.length + i) * q1) ∧ (PVU ups vs p k r1) ∧ (i = 0 ∨ r1 = vrU ups vs (li - 1))) (fun | (i, li, r1) => ups.length - i) (0, lo, r) [0, 1, 3, 5, 17, 18, 19] none ⟨(by omega), (by exact li_start hlo2), (by assumption), (by exact .inl rfl)⟩ ?_)
  rintro ⟨i, li, r1⟩ ⟨h4_1, h4_2, h4_3, h4_4⟩ R1 N2
  have hlI : li = (p * ups.length + i) * q1 := by assumption
  have hpv : PVU ups vs p k r1 := by assumption
  have hlb := fun h : i < ups.length => li_bd hlo2 hlI h
  have hr1l : r1.length = 6 := hpv.1
  have hle2 := fun h : i = ups.length => li_end hlo2 hlI h
  refine R.go 5 (k3 ((i : Int) < (ups.length : Int)) (fun c5 => ?_) (fun c5 => ?_))
  ·refine R.go 5 (k8 eI ups 0 i (i : Int) rfl eI_len ?_)
   refine R.go 8 (k8 eI vs 0 k (k : Int) rfl eI_len ?_)
   refine R.go 2 (k9 8 1 r1.length (((vs.getD k 0)).toNat) (vs.getD k 0) ?_)
   refine k11 8 2 r1 (((vs.getD k 0)).toNat) (ups.getD i 0) ?_
   have hlc := hlb (by omega)
   have hgo := ih (k + 1) (p * ups.length + i) q1 li (li + q1 - 1) (r1.set (vs.getD k 0).toNat (ups.getD i 0)) (by omega) hq1 hlI (by omega) (pvU_step hpv hVS (by omega) (by omega)) (fun M h1 h2 => hb M (by omega) (by omega))
   refine R.go 5 (k1 ((k : Int) + 1) ?_)
   refine R.callS (CallS.frame usC frC hgo (by kernel_rfl) (by kernel_rfl) (Nat.le_of_ble_eq_true (by kernel_rfl))) (by kernel_rfl) (by kernel_rfl) (by kernel_rfl) ?_
   refine R.go 6 (k1 ((i : Int) + 1) ?_)
   exact R.go 2 (k16 R1 (N2 (i + 1, (li + q1 - 1 + 1), vrU ups vs (li + q1 - 1)) [0, 1, 3, 5, 17, 18, 19] none _ (by kernel_rfl) (by kernel_rfl) ⟨(by omega), (by rw [show li + q1 - 1 + 1 = li + q1 by omega]; exact li_next (by assumption)), (by exact pv_next hVS hk (by omega) hq1 hlI hq0), (by exact .inr rfl)⟩ (by show (ups.length - (i + 1)) < (ups.length - i); omega)))
  ·have hle : li = e + 1 := by have h1 := li_end hlo2 hlI (by omega); omega
   refine R.go 3 ?_
   have hsub_r1 : r1 = vrU ups vs e := ((by assumption : i = 0 ∨ r1 = vrU ups vs (li - 1)).elim (fun h => absurd h (by omega)) (fun h => h.trans (by rw [show li - 1 = e by omega])))
   subst hsub_r1
   exact R.go 2 (R.retS (by kernel_rfl) (by kernel_rfl) (by kernel_rfl) (by kernel_rfl))
theorem unf_stop (n : Int) (xs vs ups : List Int) (a : List (Int × Int)) (hR : okPo n xs = true) (hb0 : 0 ≤ n ∧ n ≤ 8 ∧ (xs.length : Int) = n) (hVS : VS vs) (hvl : vs.length ≤ 62) (hul : ups.length ≤ 256) (hup : 1 ≤ ups.length) (hok : OKM 6 a) (hal : a.length ≤ 40) (hpl : a.any modN = false) (hu : ups = upL n xs) (D : Nat) (us : List Value) : ∀ (d k p q lo : Nat) (r : List Int), k + d = vs.length → q = ups.length ^ d → lo = p * q → PVU ups vs p k r → (N0 : Nat) → lo ≤ N0 → N0 < lo + q → (∀ M : Nat, M < N0 → badU n xs vs a M = false) → badU n xs vs a N0 = true → CallS Tryz.prog 334 [AI (k : Int), .rptr [LI vs], .ptr 7 0, .ptr 9 0, .rptr [LI ups], .ptr 10 0] [.box 35 [AI n, LI xs], .box 39 [LN a], .box 30 [.nil], .box 2 [AI 0], .box 4 [.bool false], .frame us (frm 26 [(0, .agg [AI n, LI xs]), (1, LN a), (2, .ptr 0 0), (3, .ptr 1 0), (4, .ptr 2 0), (5, .ptr 3 0), (6, .ptr 4 0), (9, .agg [AI n, LI xs]), (10, LN a), (11, LLN [a]), (12, LI vs), (13, .fn 333 [.rptr [LI vs], .rptr [LI ups]])]), loopObj Tryz.f157 D us .ready, .box 133 [.ref 6], rowA eI 2 1 r, .box 30 [.ref 8], .box 178 [.fn 334 [.rptr [LI vs], .ptr 7 0, .ptr 9 0, .rptr [LI ups], .ptr 10 0]]] (.bool false) [.box 35 [AI n, LI xs], .box 39 [LN a], .box 30 [.ref 11], .box 2 [AI (fcd n xs (vrU ups vs N0) a)], .box 4 [.bool true], .frame us (frm 26 [(0, .agg [AI n, LI xs]), (1, LN a), (2, .ptr 0 0), (3, .ptr 1 0), (4, .ptr 2 0), (5, .ptr 3 0), (6, .ptr 4 0), (9, .agg [AI n, LI xs]), (10, LN a), (11, LLN [a]), (12, LI vs), (13, .fn 333 [.rptr [LI vs], .rptr [LI ups]])]), loopObj Tryz.f157 D us (.done .ret), .box 133 [.ref 6], rowA eI 2 1 (vrU ups vs N0), .box 30 [.ref 8], .box 178 [.fn 334 [.rptr [LI vs], .ptr 7 0, .ptr 9 0, .rptr [LI ups], .ptr 10 0]], rowA eI 2 1 (vrU ups vs N0)] := by
 intro d
 induction d with
 | zero =>
  intro k p q lo r hk hq hlo hr N0 h1 h2 hn hp0
  have hlp : lo = p := by rw [hlo, hq, Nat.pow_zero, Nat.mul_one]
  have hq1 : q = 1 := by rw [hq, Nat.pow_zero]
  have hrv : r = vrU ups vs p := pvU_end hr (by omega)
  have hkv : (k : Int) = (vs.length : Int) := by omega
  have hoX : OKM (vrU ups vs p).length a := by rw [vrU_len]; exact hok
  have hvl6 := vrU_len ups vs p
  have hfrr : okFr n xs = true := okPo_fr hR
  subst hrv
  have hep : N0 = p := by omega
  rw [hep]
  have hbad : ¬ fcd n xs (vrU ups vs p) a = (shl64 1 n) - 1 := badU_ne hu (by rw [← hep]; exact hp0)
  refine CallS.cast (CallS.drop [0, 1, 2, 3, 4, 5, 6, 7, 8, 9, 10, 13] (CallS.of (res := .bool false) (hp' := [.box 35 [AI n, LI xs], .box 39 [LN a], .box 30 [.ref 13], .box 2 [AI (fcd n xs (vrU ups vs p) a)], .box 4 [.bool true], .frame us (frm 26 [(0, .agg [AI n, LI xs]), (1, LN a), (2, .ptr 0 0), (3, .ptr 1 0), (4, .ptr 2 0), (5, .ptr 3 0), (6, .ptr 4 0), (9, .agg [AI n, LI xs]), (10, LN a), (11, LLN [a]), (12, LI vs), (13, .fn 333 [.rptr [LI vs], .rptr [LI ups]])]), loopObj Tryz.f157 D us (.done .ret), .box 133 [.ref 6], rowA eI 2 1 (vrU ups vs p), .box 30 [.ref 8], .box 178 [.fn 334 [.rptr [LI vs], .ptr 7 0, .ptr 9 0, .rptr [LI ups], .ptr 10 0]], .dead, .dead, rowA eI 2 1 (vrU ups vs p)]) Tryz.func334 rfl (by kernel_rfl) ?_) (by kernel_rfl) (by decide)) (by kernel_rfl) (by kernel_rfl)
  intro usC frC
  refine R.go 12 (R.thn (decide ((k : Int) = (vs.length : Int))) (by kernel_rfl) (dT hkv) ?_)
  refine R.go 4 (R.yield 6 D us (by kernel_rfl) (by kernel_rfl) ?_)
  intro l1 us2
  refine R.go 3 (R.begin (by kernel_rfl) (by kernel_rfl) ?_)
  refine R.go 6 (k14 false (forced2_c n xs (vrU ups vs p) a hoX hpl (by omega) (by omega) (by first | omega | (simp <;> omega)) (by first | omega | (simp <;> omega))) rfl ?_)
  refine R.go 6 (k14 true (pAll_c n xs (by omega) (by omega)) rfl ?_)
  refine R.go 2 (k4 ((fcd n xs (vrU ups vs p) a) = ((shl64 1 n) - 1)) (fun c3 => ?_) (fun c3 => ?_))
  ·refine R.go 3 (k14 false (clone_c (vrU ups vs p) (by first | omega | (simp <;> omega))) (ownA_closed eI_closed 2 1 (vrU ups vs p)) ?_)
   refine R.go 5 (R.roundR (frm 36 [(0, AI (k : Int)), (1, .rptr [LI vs]), (2, .ptr 7 0), (3, .ptr 9 0), (4, .rptr [LI ups]), (5, .ptr 10 0), (7, .bool false), (10, AI (k : Int)), (11, LI vs), (12, AI vs.length), (13, .bool (decide ((k : Int) = (vs.length : Int)))), (14, .ref 6), (15, .ref 8)]) (by kernel_rfl) (by kernel_rfl) (by kernel_rfl) ?_)
   exact R.go 2 (R.retS (by kernel_rfl) (by kernel_rfl) (by kernel_rfl) (by kernel_rfl))
  ·exfalso; omega -- another end: .bool true
 | succ d ih =>
  intro k p q lo r hk hq hlo hr N0 h1 h2 hn hp0
  obtain ⟨q1, hq1⟩ : ∃ q1, q1 = ups.length ^ d := ⟨_, rfl⟩
  have hqq : q = q1 * ups.length := by rw [hq, Nat.pow_succ, hq1]
  have hlo2 : lo = p * (q1 * ups.length) := by rw [hlo, hqq]
  have hq0 : 1 ≤ q1 := by rw [hq1]; exact Nat.pow_pos (by omega)
  have hkv : ¬ (k : Int) = (vs.length : Int) := by omega
  have hg := vs_get hVS (k := k) (by omega)
  refine CallS.cast (CallS.drop [0, 1, 2, 3, 4, 5, 6, 7, 8, 9, 10, 12] (CallS.of (res := .bool false) (hp' := [.box 35 [AI n, LI xs], .box 39 [LN a], .box 30 [.ref 12], .box 2 [AI (fcd n xs (vrU ups vs N0) a)], .box 4 [.bool true], .frame us (frm 26 [(0, .agg [AI n, LI xs]), (1, LN a), (2, .ptr 0 0), (3, .ptr 1 0), (4, .ptr 2 0), (5, .ptr 3 0), (6, .ptr 4 0), (9, .agg [AI n, LI xs]), (10, LN a), (11, LLN [a]), (12, LI vs), (13, .fn 333 [.rptr [LI vs], .rptr [LI ups]])]), loopObj Tryz.f157 D us (.done .ret), .box 133 [.ref 6], rowA eI 2 1 (vrU ups vs N0), .box 30 [.ref 8], .box 178 [.fn 334 [.rptr [LI vs], .ptr 7 0, .ptr 9 0, .rptr [LI ups], .ptr 10 0]], .dead, rowA eI 2 1 (vrU ups vs N0)]) Tryz.func334 rfl (by kernel_rfl) ?_) (by kernel_rfl) (by decide)) (by kernel_rfl) (by kernel_rfl)
  intro usC frC
  refine R.go 12 (R.els (decide ((k : Int) = (vs.length : Int))) (by kernel_rfl) (dF hkv) ?_)
  refine R.go 9 (k15 ((fun | (i, li, r1) => (⟨(frm 36 [(0, AI (k : Int)), (1, .rptr [LI vs]), (3, .ptr 9 0), (5, .ptr 10 0), (17, LI ups), (18, AI ups.length), (19, AI (i : Int))]), [.box 35 [AI n, LI xs], .box 39 [LN a], .box 30 [.nil], .box 2 [AI 0], .box 4 [.bool false], .frame us (frm 26 [(0, .agg [AI n, LI xs]), (1, LN a), (2, .ptr 0 0), (3, .ptr 1 0), (4, .ptr 2 0), (5, .ptr 3 0), (6, .ptr 4 0), (9, .agg [AI n, LI xs]), (10, LN a), (11, LLN [a]), (12, LI vs), (13, .fn 333 [.rptr [LI vs], .rptr [LI ups]])]), loopObj Tryz.f157 D us .ready, .box 133 [.ref 6], rowA eI 2 1 r1, .box 30 [.ref 8], .box 178 [.fn 334 [.rptr [LI vs], .ptr 7 0, .ptr 9 0, .rptr [LI ups], .ptr 10 0]], .frame usC frC]⟩ : St) : Nat × Nat × (List Int) → St)) (fun | (i, li, r1) => (i ≤ ups.length) ∧ (li = (p * ups.length + i) * q1) ∧ (PVU ups vs p k r1) ∧ (i = 0 ∨ r1 = vrU ups vs (li - 1)) ∧ (li ≤ N0)) (fun | (i, li, r1) => ups.length - i) (0, lo, r) [0, 1, 3, 5, 17, 18, 19] none ⟨(by omega), (by exact li_start hlo2), (by assumption), (by exact .inl rfl), (by omega)⟩ ?_)
  rintro ⟨i, li, r1⟩ ⟨h4_1, h4_2, h4_3, h4_4, h4_5⟩ R1 N2
  have hlI : li = (p * ups.length + i) * q1 := by assumption
  have hpv : PVU ups vs p k r1 := by assumption
  have hlb := fun h : i < ups.length => li_bd hlo2 hlI h
  have hr1l : r1.length = 6 := hpv.1
  have hle2 := fun h : i = ups.length => li_end hlo2 hlI h
  refine R.go 5 (k3 ((i : Int) < (ups.length : Int)) (fun c5 => ?_) (fun c5 => ?_))
  ·refine R.go 5 (k8 eI ups 0 i (i : Int) rfl eI_len ?_)
   refine R.go 8 (k8 eI vs 0 k (k : Int) rfl eI_len ?_)
   refine R.go 2 (k9 8 1 r1.length (((vs.getD k 0)).toNat) (vs.getD k 0) ?_)
   refine k11 8 2 r1 (((vs.getD k 0)).toNat) (ups.getD i 0) ?_
   have hlc := hlb (by omega)
   have hgo := fun h : ¬ N0 < li + q1 => unf_go n xs vs ups a hR hb0 hVS hvl hul hup hok hal hpl hu D us d (k + 1) (p * ups.length + i) q1 li (li + q1 - 1) (r1.set (vs.getD k 0).toNat (ups.getD i 0)) (by omega) hq1 hlI (by omega) (pvU_step hpv hVS (by omega) (by omega)) (fun M h1 h2 => hn M (by omega))
   have hstop := fun h : N0 < li + q1 => ih (k + 1) (p * ups.length + i) q1 li (r1.set (vs.getD k 0).toNat (ups.getD i 0)) (by omega) hq1 hlI (pvU_step hpv hVS (by omega) (by omega)) N0 (by omega) h hn hp0
   refine R.go 4 ?_
   by_cases c6 : N0 < li + q1
   ·refine R.go 1 (k1 ((k : Int) + 1) ?_)
    refine R.callS (CallS.frame usC frC (hstop (by assumption)) (by kernel_rfl) (by kernel_rfl) (Nat.le_of_ble_eq_true (by kernel_rfl))) (by kernel_rfl) (by kernel_rfl) (by kernel_rfl) ?_
    exact R.go 7 (R.retS (by kernel_rfl) (by kernel_rfl) (by kernel_rfl) (by kernel_rfl))
   ·refine R.go 1 (k1 ((k : Int) + 1) ?_)
    refine R.callS (CallS.frame usC frC (hgo (by assumption)) (by kernel_rfl) (by kernel_rfl) (Nat.le_of_ble_eq_true (by kernel_rfl))) (by kernel_rfl) (by kernel_rfl) (by kernel_rfl) ?_
    refine R.go 6 (k1 ((i : Int) + 1) ?_)
    exact R.go 2 (k16 R1 (N2 (i + 1, (li + q1 - 1 + 1), vrU ups vs (li + q1 - 1)) [0, 1, 3, 5, 17, 18, 19] none _ (by kernel_rfl) (by kernel_rfl) ⟨(by omega), (by rw [show li + q1 - 1 + 1 = li + q1 by omega]; exact li_next (by assumption)), (by exact pv_next hVS hk (by omega) hq1 hlI hq0), (by exact .inr rfl), (by omega)⟩ (by show (ups.length - (i + 1)) < (ups.length - i); omega)))
  ·exfalso; omega -- another end: .bool true

theorem unforced_none (n : Int) (xs : List Int) (a : List (Int × Int)) (hR : okPo n xs = true) (hF : isF a = true) (hpl : a.any modN = false) (ht : pwT ((upL n xs).length : Int) (mem (vmT [a] [a].length)).length ≤ 4096) (hn : fstU n xs (mem (vmT [a] [a].length)) a = none) : CallA Tryz.prog 157 [.agg [AI n, LI xs], LN a] (.tup [ownA eI 2 1 [], AI 0, .bool false]) := by
 obtain ⟨vs, hvs⟩ : ∃ vs, vs = mem (vmT [a] [a].length) := ⟨_, rfl⟩
 obtain ⟨ups, hu⟩ : ∃ ups, ups = upL n xs := ⟨_, rfl⟩
 rw [← hvs] at ht hn
 rw [← hu] at ht
 have hfr : okFr n xs = true := okPo_fr hR
 have hFr := okFr_rel hfr
 have hb0 : 0 ≤ n ∧ n ≤ 8 ∧ (xs.length : Int) = n := ⟨hFr.1, hFr.2.1, hFr.2.2.1⟩
 have hAF : allF [a] = true := allF_one hF
 have hVS : VS vs := by rw [hvs]; exact VS_vmT hAF
 have hvl : vs.length ≤ 62 := by rw [hvs]; exact mem_le _
 have hul : ups.length ≤ 256 := by rw [hu]; exact upL_len hR
 have hup : 1 ≤ ups.length := by rw [hu]; exact upL_pos hR
 have htt : (totU n xs vs : Int) = pwT (ups.length : Int) vs.length := by rw [hu]; rw [hu] at ht; exact tot_le ht
 have hok : OKM 6 a := (isF_okm hF).1
 have hal : a.length ≤ 40 := (isF_okm hF).2
 have hok2 := fun N => show OKM (vrU ups vs N).length a by rw [vrU_len]; exact hok
 have hlen := okm_pos hok
 have hq1 : 1 ≤ ups.length ^ vs.length := Nat.pow_pos (by omega)
 have hn0 := fstN_none hn
 rw [totU, ← hu] at hn0
 refine CallA.of Tryz.func157 rfl (by kernel_rfl) ?_
 refine R.go 13 (R.lit (s := 1) (n := 1) (cs := rows eLN [a]) (by kernel_rfl) (by kernel_rfl) ?_)
 refine k14 true (variablesInG_c [a] vs (by assumption) hAF (by first | omega | (simp <;> omega))).frz rfl ?_
 refine k14 true (valuationsP_c n xs vs ups (by assumption) hR) rfl ?_
 refine R.go 2 (R.range (caps := [.rptr [LI vs], .rptr [LI ups]]) Tryz.func333 rfl (by kernel_rfl) (by kernel_rfl) ?_)
 intro D1 us2
 refine R.go 21 (R.callS (unf_go n xs vs ups a hR hb0 hVS hvl hul hup hok hal hpl hu D1 us2 vs.length 0 0 (ups.length ^ vs.length) 0 ((ups.length ^ vs.length) - 1) (List.replicate 6 0) (by omega) rfl (by simp) (by omega) (pvU_start ups vs) (fun M h1 h2 => hn0 M (by omega))) (by kernel_rfl) (by kernel_rfl) (by kernel_rfl) ?_)
 refine R.go 1 (R.over (.tup []) (frm 26 [(0, .agg [AI n, LI xs]), (1, LN a), (2, .ptr 0 0), (3, .ptr 1 0), (4, .ptr 2 0), (5, .ptr 3 0), (6, .ptr 4 0), (9, .agg [AI n, LI xs]), (10, LN a), (11, LLN [a]), (12, LI vs), (13, .fn 333 [.rptr [LI vs], .rptr [LI ups]])]) (by kernel_rfl) (by kernel_rfl) (by kernel_rfl) (by kernel_rfl) ?_)
 refine R.go 7 (R.nilB 2 0 2 1 (by kernel_rfl) ?_)
 exact k17 (.tup [ownA eI 2 1 [], AI 0, .bool false]) (by rfl)

theorem unforced_some (N : Nat) (n : Int) (xs : List Int) (a : List (Int × Int)) (hR : okPo n xs = true) (hF : isF a = true) (hpl : a.any modN = false) (ht : pwT ((upL n xs).length : Int) (mem (vmT [a] [a].length)).length ≤ 4096) (hn : fstU n xs (mem (vmT [a] [a].length)) a = some N) : CallA Tryz.prog 157 [.agg [AI n, LI xs], LN a] (.tup [ownA eI 2 1 (vrU (upL n xs) (mem (vmT [a] [a].length)) N), AI (fcd n xs (vrU (upL n xs) (mem (vmT [a] [a].length)) N) a), .bool true]) := by
 obtain ⟨vs, hvs⟩ : ∃ vs, vs = mem (vmT [a] [a].length) := ⟨_, rfl⟩
 obtain ⟨ups, hu⟩ : ∃ ups, ups = upL n xs := ⟨_, rfl⟩
 rw [← hvs] at ht hn ⊢
 rw [← hu]
 rw [← hu] at ht
 have hfr : okFr n xs = true := okPo_fr hR
 have hFr := okFr_rel hfr
 have hb0 : 0 ≤ n ∧ n ≤ 8 ∧ (xs.length : Int) = n := ⟨hFr.1, hFr.2.1, hFr.2.2.1⟩
 have hAF : allF [a] = true := allF_one hF
 have hVS : VS vs := by rw [hvs]; exact VS_vmT hAF
 have hvl : vs.length ≤ 62 := by rw [hvs]; exact mem_le _
 have hul : ups.length ≤ 256 := by rw [hu]; exact upL_len hR
 have hup : 1 ≤ ups.length := by rw [hu]; exact upL_pos hR
 have htt : (totU n xs vs : Int) = pwT (ups.length : Int) vs.length := by rw [hu]; rw [hu] at ht; exact tot_le ht
 have hok : OKM 6 a := (isF_okm hF).1
 have hal : a.length ≤ 40 := (isF_okm hF).2
 have hok2 := fun N => show OKM (vrU ups vs N).length a by rw [vrU_len]; exact hok
 have hlen := okm_pos hok
 have hq1 : 1 ≤ ups.length ^ vs.length := Nat.pow_pos (by omega)
 obtain ⟨hn1, hn2, hn3⟩ := fstN_some hn
 rw [totU, ← hu] at hn1
 refine CallA.of Tryz.func157 rfl (by kernel_rfl) ?_
 refine R.go 13 (R.lit (s := 1) (n := 1) (cs := rows eLN [a]) (by kernel_rfl) (by kernel_rfl) ?_)
 refine k14 true (variablesInG_c [a] vs (by assumption) hAF (by first | omega | (simp <;> omega))).frz rfl ?_
 refine k14 true (valuationsP_c n xs vs ups (by assumption) hR) rfl ?_
 refine R.go 2 (R.range (caps := [.rptr [LI vs], .rptr [LI ups]]) Tryz.func333 rfl (by kernel_rfl) (by kernel_rfl) ?_)
 intro D1 us2
 refine R.go 21 (R.callS (unf_stop n xs vs ups a hR hb0 hVS hvl hul hup hok hal hpl hu D1 us2 vs.length 0 0 (ups.length ^ vs.length) 0 (List.replicate 6 0) (by omega) rfl (by simp) (pvU_start ups vs) N (by omega) (by omega) hn3 hn2) (by kernel_rfl) (by kernel_rfl) (by kernel_rfl) ?_)
 refine R.go 1 (R.left (.ret) (.tup []) (frm 26 [(0, .agg [AI n, LI xs]), (1, LN a), (2, .ptr 0 0), (3, .ptr 1 0), (4, .ptr 2 0), (5, .ptr 3 0), (6, .ptr 4 0), (9, .agg [AI n, LI xs]), (10, LN a), (11, LLN [a]), (12, LI vs), (13, .fn 333 [.rptr [LI vs], .rptr [LI ups]])]) (by kernel_rfl) (by kernel_rfl) (by kernel_rfl) (by kernel_rfl) ?_)
 exact k17 (.tup [ownA eI 2 1 (vrU ups vs N), AI (fcd n xs (vrU ups vs N) a), .bool true]) (by first | (rfl) | (exfalso; omega))

end Go.Proofs.YtjllngcefoohpaaGreat


/-! IsPosetValid, FirstUnforced: both packages, their laws. -/
namespace Go.Proofs.YtjllngcefoohpaaGreat
open Go.RowKit Go.Abs

theorem unforced_c (n : Int) (xs : List Int) (a : List (Int × Int)) (hR : okPo n xs = true) (hF : isF a = true) (hpl : a.any modN = false) (ht : pwT ((upL n xs).length : Int) (mem (vmT [a] [a].length)).length ≤ 4096) :
    CallA Tryz.prog 157 [.agg [AI n, LI xs], LN a] (.tup [ownA eI 2 1 (uRow n xs (mem (vmT [a] [a].length)) a), AI (uVal n xs (mem (vmT [a] [a].length)) a), .bool (fstU n xs (mem (vmT [a] [a].length)) a).isSome]) := by
  cases e : fstU n xs (mem (vmT [a] [a].length)) a with
  | none => exact (unforced_none n xs a hR hF hpl ht e).eq rfl (by simp only [uRow, uVal, e]; rfl)
  | some N => exact (unforced_some N n xs a hR hF hpl ht e).eq rfl (by simp only [uRow, uVal, e]; rfl)
theorem nn_eq {n : Int} (h0 : 0 ≤ n) : ((n.toNat : Nat) : Int) = n := by omega
theorem upTo_in (xs : List Int) : ∀ (k : Nat) (v : Int), v ∈ upTo xs k → 0 ≤ v ∧ v < (k : Int)
  | 0, v, h => by simp [upTo] at h
  | k + 1, v, h => by
    rw [upTo] at h
    split at h
    · rcases List.mem_append.1 h with h | h
      · have := upTo_in xs k v h; omega
      · rw [List.mem_singleton] at h; omega
    · have := upTo_in xs k v h; omega
theorem upL_in {n : Int} {xs : List Int} (h : okPo n xs = true) (j : Nat) : InM n.toNat ((upL n xs).getD j 0) := by
  have hF := okFr_rel (okPo_fr h)
  rw [List.getD_eq_getElem?_getD]
  rcases Nat.lt_or_ge j (upL n xs).length with hj | hj
  · rw [List.getElem?_eq_getElem hj, Option.getD_some]
    have h1 := upTo_in xs _ _ (List.getElem_mem hj)
    have h2 := shl_nat (i := n.toNat) (by omega)
    rw [nn_eq hF.1] at h2
    refine ⟨h1.1, ?_⟩
    have h3 : (upL n xs)[j] < shl64 1 n := by
      have := (shl_rng n hF.1 (by omega)).1
      omega
    rw [h2] at h3
    generalize 2 ^ n.toNat = q at h3
    omega
  · rw [List.getElem?_eq_none hj]; exact inM_zero _
section
variable {s : Nat} {n : Int} {xs : List Int} {a : List (Int × Int)}
end

theorem isValidP_c (n : Int) (xs : List Int) (a : List (Int × Int)) (hR : okPo n xs = true) (hF : isF a = true) (hpl : a.any modN = false) (ht : pwT ((upL n xs).length : Int) (mem (vmT [a] [a].length)).length ≤ 4096) : CallA Tryz.prog 67 [.agg [AI n, LI xs], LN a] (.bool ((fstU n xs (mem (vmT [a] [a].length)) a).isNone)) := by
 refine CallA.of Tryz.func67 rfl (by kernel_rfl) ?_
 refine R.go 9 (k14 true (unforced_c n xs a hR hF hpl ht).frz rfl ?_)
 exact R.go 14 (k17 (.bool (!((fstU n xs (mem (vmT [a] [a].length)) a).isSome))) (by first | (apply congrArg AV.bool; cases fstU n xs (mem (vmT [a] [a].length)) a <;> rfl) | (exfalso; omega)))

theorem PV_impl (n : Int) (xs : List Int) (a : List (Int × Int)) (lx : xs.length ≤ 1048576) (la : a.length ≤ 1048576) : CallA Tryz.prog 16 [.agg [AI n, LI xs], LN a] (.tup [.bool (pvV n xs a), AI (pcode n xs [a])]) := by
 refine CallA.of Tryz.func16 rfl (by kernel_rfl) ?_
 refine R.go 11 (R.lit (s := 1) (n := 1) (cs := rows eLN [a]) (by kernel_rfl) (by kernel_rfl) ?_)
 refine k14 true (posetSearch_c n xs [a] lx (by first | assumption | exact shortL_one (by omega))) rfl ?_
 refine R.go 7 (k4 ((pcode n xs [a]) = 0) (fun c1 => ?_) (fun c1 => ?_))
 ·exact R.go 6 (k17 (.tup [.bool false, AI (pcode n xs [a])]) (by first | (first | exact pv_no (by assumption) | exact pv_yes (by assumption)) | (exfalso; omega)))
 ·have hc0 : pcode n xs [a] = 0 := by assumption
  have hpo := pc_ok hc0
  have hR : okPo n xs = true := hpo.1
  have hF : isF a = true := isF_all hpo.2.1
  have hpl : a.any modN = false := pl_one hpo.2.2.1
  have ht0 : pwT ((upL n xs).length : Int) (mem (vmT [a] [a].length)).length ≤ 4096 := hpo.2.2.2
  refine R.go 5 (k14 true (isValidP_c n xs a hR hF hpl ht0) rfl ?_)
  exact R.go 3 (k17 (.tup [.bool ((fstU n xs (mem (vmT [a] [a].length)) a).isNone), AI 0]) (by first | (first | exact pv_no (by assumption) | exact pv_yes (by assumption)) | (exfalso; omega)))

end Go.Proofs.YtjllngcefoohpaaGreat
