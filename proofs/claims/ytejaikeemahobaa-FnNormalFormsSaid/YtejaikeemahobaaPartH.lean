/- Texts of the proof: U03, SymZ, SymK. -/
import Derived.Test.YtejaikeemahobaaPartG

/-! Negation normal forms: the program and the reference. -/
namespace Go.Proofs.Ytejaikeemahobaa
open Go.RowKit Go.Abs

def dualI (k : Int) : Int := if k = 2 then 3 else if k = 3 then 2 else if k = 5 then 6 else 5
section
variable {nv : Nat} {a : List (Int × Int)} {p : Bool}
theorem root_1 (hok : OKM nv a) (h : partsN (a.getD 0 (0, 0)).1 = 1) : ∃ k s L, (k = 5 ∨ k = 6) ∧ a = (k, s) :: L ∧ OKM nv L := by
  rcases okm_cases hok with ⟨v, rfl, _⟩ | ⟨s, rfl⟩ | ⟨k, s, L, R, hk, rfl, _⟩ | ⟨k, s, L, hk, rfl, hL⟩
  · exact absurd h (by simp [partsN])
  · exact absurd h (by simp [partsN])
  · simp only [List.getD_cons_zero] at h
    rw [(partsN_two k).2 hk] at h
    omega
  · exact ⟨k, s, L, hk, rfl, hL⟩
theorem root_2 (hok : OKM nv a) (h : partsN (a.getD 0 (0, 0)).1 = 2) : ∃ k s L R, (k = 2 ∨ k = 3 ∨ k = 4) ∧ a = (k, s) :: (L ++ R) ∧ OKM nv L ∧ OKM nv R ∧ lef a = L ∧ rig a = R := by
  rcases okm_cases hok with ⟨v, rfl, _⟩ | ⟨s, rfl⟩ | ⟨k, s, L, R, hk, rfl, r⟩ | ⟨k, s, L, hk, rfl, hL⟩
  · exact absurd h (by simp [partsN])
  · exact absurd h (by simp [partsN])
  · exact ⟨k, s, L, R, hk, rfl, r⟩
  · simp only [List.getD_cons_zero] at h
    rw [partsN_1 hk] at h
    omega
theorem kind12 (hok : OKM nv a) (h0 : ¬ (a.getD 0 (0, 0)).1 = 0) (h1 : ¬ (a.getD 0 (0, 0)).1 = 1) : partsN (a.getD 0 (0, 0)).1 = 1 ∨ partsN (a.getD 0 (0, 0)).1 = 2 := by
  have h := okm_get hok 0 (okm_pos hok)
  by_cases h5 : (a.getD 0 (0, 0)).1 = 5 ∨ (a.getD 0 (0, 0)).1 = 6
  · exact .inl (partsN_1 h5)
  · exact .inr ((partsN_two _).2 (by omega))
theorem peX_one (hok : OKM nv a) (h : partsN (a.getD 0 (0, 0)).1 = 1) : peX 1 a 1 = a.length := by
  obtain ⟨k, s, L, _, rfl, hL⟩ := root_1 hok h
  simp [peX, hL.1]
  omega
theorem peX_two (hok : OKM nv a) (h : partsN (a.getD 0 (0, 0)).1 = 2) : peX 1 a (peX 1 a 1).toNat = a.length ∧ a.drop (peX 1 a 1).toNat = rig a := by
  obtain ⟨x, L, R, rfl, hL, hR, e, _, er⟩ := okm_two hok h
  rw [e, er, show (1 + (L.length : Int)).toNat = L.length + 1 by omega]
  have hd : (x :: (L ++ R)).drop (L.length + 1) = R := by simp
  refine ⟨?_, hd⟩
  unfold peX
  rw [hd, hR.1]
  simp
  omega
theorem e_varT (hok : OKM nv a) (h : (a.getD 0 (0, 0)).1 = 0) (hp : p = true) : a = nfA a p := by
  rcases okm_cases hok with ⟨v, rfl, _⟩ | ⟨s, rfl⟩ | ⟨k, s, L, R, hk, rfl, _⟩ | ⟨k, s, L, hk, rfl, _⟩
  · rw [nfA_var, if_pos hp]
  · simp at h
  · simp only [List.getD_cons_zero] at h; omega
  · simp only [List.getD_cons_zero] at h; omega
theorem e_varF (hok : OKM nv a) (h : (a.getD 0 (0, 0)).1 = 0) (hp : p = false) : (4, 0) :: (a ++ [(1, 0)]) = nfA a p := by
  rcases okm_cases hok with ⟨v, rfl, _⟩ | ⟨s, rfl⟩ | ⟨k, s, L, R, hk, rfl, _⟩ | ⟨k, s, L, hk, rfl, _⟩
  · subst hp; rfl
  · simp at h
  · simp only [List.getD_cons_zero] at h; omega
  · simp only [List.getD_cons_zero] at h; omega
theorem e_bot (hok : OKM nv a) (h : (a.getD 0 (0, 0)).1 = 1) : (p = true → [(1, 0)] = nfA a p) ∧ (p = false → [(4, 0), (1, 0), (1, 0)] = nfA a p) := by
  obtain ⟨s, rfl⟩ := (isB_eq hok).1 (by unfold isB; exact decide_eq_true h)
  exact ⟨fun hp => by subst hp; rfl, fun hp => by subst hp; rfl⟩
theorem e_imp (hok : OKM nv a) (h : (a.getD 0 (0, 0)).1 = 4) : nfA a p =
    (if isB (lef a) = true ∧ isB (rig a) = true then (if p = true then [(4, 0), (1, 0), (1, 0)] else [(1, 0)]) else if isB (rig a) = true then nfA (lef a) (!p) else if p = true then (3, 0) :: (nfA (lef a) false ++ nfA (rig a) true) else (2, 0) :: (nfA (lef a) true ++ nfA (rig a) false)) := by
  obtain ⟨k, s, L, R, hk, rfl, hL, hR, el, er⟩ := root_2 hok ((partsN_two _).2 (by omega))
  simp only [List.getD_cons_zero] at h
  subst h
  rw [nfA_imp hok hL hR el er, el, er]
theorem e_i1 (hok : OKM nv a) (h : (a.getD 0 (0, 0)).1 = 4) (hl : isB (lef a) = true) (hr : isB (rig a) = true) : (p = true → [(4, 0), (1, 0), (1, 0)] = nfA a p) ∧ (p = false → [(1, 0)] = nfA a p) := by
  rw [e_imp hok h, if_pos ⟨hl, hr⟩]
  exact ⟨fun hp => by rw [if_pos hp], fun hp => by rw [if_neg (by simp [hp])]⟩
theorem e_i2 (hok : OKM nv a) (h : (a.getD 0 (0, 0)).1 = 4) (hl : isB (lef a) = false) (hr : isB (rig a) = true) : nfA (lef a) (!p) = nfA a p := by
  rw [e_imp (a := a) hok h, if_neg (by simp [hl]), if_pos hr]
theorem e_i3 (hok : OKM nv a) (h : (a.getD 0 (0, 0)).1 = 4) (hr : isB (rig a) = false) : (p = true → (3, 0) :: (nfA (lef a) false ++ nfA (rig a) true) = nfA a p) ∧ (p = false → (2, 0) :: (nfA (lef a) true ++ nfA (rig a) false) = nfA a p) := by
  rw [e_imp (a := a) hok h, if_neg (by simp [hr]), if_neg (by simp [hr])]
  exact ⟨fun hp => by rw [if_pos hp], fun hp => by rw [if_neg (by simp [hp])]⟩
theorem e_one (hok : OKM nv a) (h : partsN (a.getD 0 (0, 0)).1 = 1) : nfA a p = ((if p = true then (a.getD 0 (0, 0)).1 else 11 - (a.getD 0 (0, 0)).1), 0) :: nfA (a.drop 1) p := by
  obtain ⟨k, s, L, hk, rfl, hL⟩ := root_1 hok h
  rw [nfA_one hk]
  simp
theorem e_two (hok : OKM nv a) (h : partsN (a.getD 0 (0, 0)).1 = 2) (h4 : ¬ (a.getD 0 (0, 0)).1 = 4) : nfA a p = ((if p = true then (a.getD 0 (0, 0)).1 else 5 - (a.getD 0 (0, 0)).1), 0) :: (nfA (lef a) p ++ nfA (rig a) p) := by
  obtain ⟨k, s, L, R, hk, rfl, hL, hR, el, er⟩ := root_2 hok h
  simp only [List.getD_cons_zero] at h4
  rw [nfA_two (by omega) hL hR el er, el, er]
  simp
theorem e_loop1 {kk : Int} {i : Nat} {o : List (Int × Int)} (hok : OKM nv a) (h : partsN (a.getD 0 (0, 0)).1 = 1) (ho : o = (kk, 0) :: joinTo ([a.drop 1].map fun b => nfA b p) i) (hi : i ≤ [a.drop 1].length) (hn : ¬ (i : Int) < ([a.drop 1].length : Nat))
    (hk : kk = (a.getD 0 (0, 0)).1 ∧ p = true ∨ kk = dualI (a.getD 0 (0, 0)).1 ∧ p = false) : o = nfA a p := by
  simp only [List.length_cons, List.length_nil] at hi hn
  have : i = 1 := by omega
  subst this
  rw [ho, e_one hok h]
  simp only [joinTo, List.map_cons, List.map_nil, List.nil_append, List.getD_cons_zero]
  obtain ⟨k, s, L, hk5, rfl, hL⟩ := root_1 hok h
  simp only [List.getD_cons_zero] at hk ⊢
  congr 1
  rcases hk with ⟨rfl, rfl⟩ | ⟨rfl, rfl⟩
  · rfl
  · rcases hk5 with rfl | rfl <;> rfl
theorem e_loop2 {kk : Int} {i : Nat} {o : List (Int × Int)} (hok : OKM nv a) (h : partsN (a.getD 0 (0, 0)).1 = 2) (h4 : ¬ (a.getD 0 (0, 0)).1 = 4) (ho : o = (kk, 0) :: joinTo ([lef a, rig a].map fun b => nfA b p) i) (hi : i ≤ [lef a, rig a].length) (hn : ¬ (i : Int) < ([lef a, rig a].length : Nat))
    (hk : kk = (a.getD 0 (0, 0)).1 ∧ p = true ∨ kk = dualI (a.getD 0 (0, 0)).1 ∧ p = false) : o = nfA a p := by
  simp only [List.length_cons, List.length_nil] at hi hn
  have : i = 2 := by omega
  subst this
  rw [ho, e_two hok h h4]
  have hj : joinTo ([lef a, rig a].map fun b => nfA b p) 2 = nfA (lef a) p ++ nfA (rig a) p := by simp [joinTo]
  rw [hj]
  obtain ⟨k, s, L, R, hk2, rfl, _⟩ := root_2 hok h
  simp only [List.getD_cons_zero] at hk h4 ⊢
  congr 2
  rcases hk with ⟨rfl, rfl⟩ | ⟨rfl, rfl⟩
  · rfl
  · rcases hk2 with rfl | rfl | rfl
    · rfl
    · rfl
    · exact absurd rfl h4
theorem mem_1 (hok : OKM nv a) (h : partsN (a.getD 0 (0, 0)).1 = 1) : ∀ b ∈ [a.drop 1], OKM nv b ∧ b.length < a.length := by
  intro b hb
  simp only [List.mem_cons, List.not_mem_nil, or_false] at hb
  subst hb
  have := okm_pos hok
  exact ⟨okm_tail hok h, by simp; omega⟩
theorem mem_2 (hok : OKM nv a) (h : partsN (a.getD 0 (0, 0)).1 = 2) : ∀ b ∈ [lef a, rig a], OKM nv b ∧ b.length < a.length := by
  intro b hb
  have hl := lenm_lef hok h
  simp only [List.mem_cons, List.not_mem_nil, or_false] at hb
  rcases hb with rfl | rfl
  · exact ⟨okm_lef hok h, hl.1⟩
  · exact ⟨okm_rig hok h, hl.2.1⟩
theorem mem_getL {L : List (List (Int × Int))} (h : ∀ b ∈ L, OKM nv b ∧ b.length < a.length) {i : Nat} (hi : (i : Int) < (L.length : Int)) : OKM nv (L.getD i []) ∧ (L.getD i []).length < a.length := by
  have hi : i < L.length := by omega
  rw [List.getD_eq_getElem?_getD, List.getElem?_eq_getElem hi]
  exact h _ (List.getElem_mem hi)
theorem join_step {L : List (List (Int × Int))} {i : Nat} {o : List (Int × Int)} {kk : Int} (ho : o = (kk, 0) :: joinTo (L.map fun b => nfA b p) i) (hi : (i : Int) < (L.length : Int)) : o ++ nfA (L.getD i []) p = (kk, 0) :: joinTo (L.map fun b => nfA b p) (i + 1) := by
  have hi : i < L.length := by omega
  rw [ho, joinTo, List.cons_append]
  congr 2
  rw [List.getD_eq_getElem?_getD, List.getD_eq_getElem?_getD, List.getElem?_map, List.getElem?_eq_getElem hi]
  rfl
end
def nnC (a : List (Int × Int)) (p : Bool) : Int := if isF a = true then (if (nfA a p).length > 40 then 3 else 0) else 1
def nnR (a : List (Int × Int)) (p : Bool) : List (Int × Int) := if nnC a p = 0 then nfA a p else []

theorem clone_c2 (xs : List (Int × Int)) (hl : xs.length ≤ 1000000000) : CallA Try.prog 167 [LN xs] (ownA eN 89 2 xs) := by
  refine CallA.of Try.func167 rfl (by kernel_rfl) ?_
  refine R.go 8 (R.isNil xs.length (by kernel_rfl) (by kernel_rfl) (fun c1 => ?_) ?_)
  · refine R.go 6 (R.nil 2 89 2 (by kernel_rfl) ?_)
    exact R.retE (ownA eN 89 2 []) (by kernel_rfl) (by kernel_rfl) (by first | (first | rfl | rw [List.eq_nil_of_length_eq_zero (l := xs) (by assumption)]) | (exfalso; omega))
  · refine R.go 7 (R.app eN [] xs 0 89 2 16 (by kernel_rfl) eN_one (by decide) (by first | omega | (simp <;> omega)) (by kernel_rfl) ?_)
    exact R.go 2 (R.retE (ownA eN 89 2 ([] ++ xs)) (by kernel_rfl) (by kernel_rfl) (by first | (first | rfl | rw [List.eq_nil_of_length_eq_zero (l := xs) (by assumption)]) | (exfalso; omega)))

theorem clone_n (xs : List (Int × Int)) (hl : xs.length ≤ 1000000000) : CallA Try.prog 120 [LN xs] (ownA eN 89 2 xs) := by
  refine CallA.of Try.func120 rfl (by kernel_rfl) ?_
  refine R.go 7 (R.call true (clone_c2 xs hl) (by kernel_rfl) rfl (by kernel_rfl) ?_)
  exact R.go 2 (R.retE (ownA eN 89 2 xs) (by kernel_rfl) (by kernel_rfl) (by rfl))

theorem truth_c : CallA Try.prog 123 [] (ownA eN 89 2 [(4, 0), (1, 0), (1, 0)]) := by
  refine CallA.of Try.func123 rfl (by kernel_rfl) ?_
  exact R.go 12 (R.retE (ownA eN 89 2 [(4, 0), (1, 0), (1, 0)]) (by kernel_rfl) (by kernel_rfl) (by rfl))

theorem l02True_c : CallA Try.prog 129 [] (ownA eN 89 2 [(4, 0), (1, 0), (1, 0)]) := by
  refine CallA.of Try.func129 rfl (by kernel_rfl) ?_
  refine R.go 6 (R.call true (l02False_c).frz (by kernel_rfl) rfl (by kernel_rfl) ?_)
  refine R.call true (l02Not_c [(1, 0)] (by first | omega | (simp <;> omega))) (by kernel_rfl) rfl (by kernel_rfl) ?_
  exact R.go 2 (R.retE (ownA eN 89 2 ((4, 0) :: ([(1, 0)] ++ [(1, 0)]))) (by kernel_rfl) (by kernel_rfl) (by first | (rfl) | (exfalso; omega)))

theorem isFalsum_c (a : List (Int × Int)) (hl : 0 < a.length) : CallA Try.prog 169 [LN a] (.bool (isB a)) := by
  refine CallA.of Try.func169 rfl (by kernel_rfl) ?_
  refine R.go 7 (R.idx eN a (0, 0) 0 0 (by kernel_rfl) rfl eN_len (by omega) (by kernel_rfl) ?_)
  exact R.go 5 (R.retE (.bool (decide (((a.getD 0 (0, 0)).1) = 1))) (by kernel_rfl) (by kernel_rfl) (by first | (rfl) | (exfalso; omega)))

theorem dual_c (k : Int) : CallA Try.prog 125 [AI k] (AI (dualI k)) := by
  refine CallA.of Try.func125 rfl (by kernel_rfl) ?_
  refine R.go 15 (R.cond (k = 2) (by kernel_rfl) (fun c1 => ?_) (fun c1 => ?_))
  · exact R.go 4 (R.retE (AI 3) (by kernel_rfl) (by kernel_rfl) (by first | (apply congrArg AI; simp [dualI, *]) | (exfalso; omega)))
  · refine R.go 5 (R.cond (k = 3) (by kernel_rfl) (fun c2 => ?_) (fun c2 => ?_))
    · exact R.go 4 (R.retE (AI 2) (by kernel_rfl) (by kernel_rfl) (by first | (apply congrArg AI; simp [dualI, *]) | (exfalso; omega)))
    · refine R.go 5 (R.cond (k = 5) (by kernel_rfl) (fun c3 => ?_) (fun c3 => ?_))
      · exact R.go 4 (R.retE (AI 6) (by kernel_rfl) (by kernel_rfl) (by first | (apply congrArg AI; simp [dualI, *]) | (exfalso; omega)))
      · exact R.go 6 (R.retE (AI 5) (by kernel_rfl) (by kernel_rfl) (by first | (apply congrArg AI; simp [dualI, *]) | (exfalso; omega)))

theorem part_c (a : List (Int × Int)) (i : Nat) (hi : i ≤ a.length) (h1 : (i : Int) ≤ peX 1 a i) (h2 : peX 1 a i ≤ a.length) (hl : a.length ≤ 1000000000) : CallA Try.prog 177 [LN a, AI (i : Int)] (LN ((a.take (peX 1 a i).toNat).drop i)) := by
  refine CallA.of Try.func177 rfl (by kernel_rfl) ?_
  refine R.go 10 (R.call true (partEnd_c a i hi hl) (by kernel_rfl) rfl (by kernel_rfl) ?_)
  refine R.go 2 (R.call true (partEnd_c a i hi hl) (by kernel_rfl) rfl (by kernel_rfl) ?_)
  refine R.slM eN a i ((peX 1 a i).toNat) ((peX 1 a i).toNat) (i : Int) (peX 1 a i) (peX 1 a i) (by kernel_rfl) rfl (by omega) (by omega) eN_len (by omega) (by omega) (by omega) (by kernel_rfl) ?_
  exact R.go 2 (R.retE (LN ((a.take ((peX 1 a i).toNat)).drop i)) (by kernel_rfl) (by kernel_rfl) (by first | (rfl) | (exfalso; omega)))

theorem first2_c (nv : Nat) (a : List (Int × Int)) (hok : OKM nv a) (h2 : partsN (a.getD 0 (0, 0)).1 = 2) (hl : a.length ≤ 1000000000) : CallA Try.prog 165 [LN a] (LN (lef a)) := by
  have h1 := okm_pos hok
  have hb := lenm_lef hok h2
  refine CallA.of Try.func165 rfl (by kernel_rfl) ?_
  refine R.go 7 (R.call true (part_c a 1 (by first | omega | (simp <;> omega)) (by omega) (by first | omega | (simp <;> omega)) hl) (by kernel_rfl) rfl (by kernel_rfl) ?_)
  exact R.go 2 (R.retE (LN ((a.take (peX 1 a 1).toNat).drop 1)) (by kernel_rfl) (by kernel_rfl) (by first | (rfl) | (exfalso; omega)))

theorem first1_c (nv : Nat) (a : List (Int × Int)) (hok : OKM nv a) (h1 : partsN (a.getD 0 (0, 0)).1 = 1) (hl : a.length ≤ 1000000000) : CallA Try.prog 165 [LN a] (LN (a.drop 1)) := by
  have hp := okm_pos hok
  have hb := peX_one hok h1
  refine CallA.of Try.func165 rfl (by kernel_rfl) ?_
  refine R.go 7 (R.call true (part_c a 1 (by first | omega | (simp <;> omega)) (by omega) (by first | omega | (simp <;> omega)) hl) (by kernel_rfl) rfl (by kernel_rfl) ?_)
  exact R.go 2 (R.retE (LN ((a.take (peX 1 a 1).toNat).drop 1)) (by kernel_rfl) (by kernel_rfl) (by first | (rw [hb]; simp) | (exfalso; omega)))

theorem partEndG_c (a : List (Int × Int)) (i e : Nat) (he : peX 1 a i = e) (hi : i ≤ a.length) (hl : a.length ≤ 1000000000) : CallA Try.prog 105 [LN a, AI (i : Int)] (AI (e : Int)) := by rw [← he]; exact partEnd_c a i hi hl

theorem second_c (nv : Nat) (a : List (Int × Int)) (hok : OKM nv a) (h2 : partsN (a.getD 0 (0, 0)).1 = 2) (hl : a.length ≤ 1000000000) : CallA Try.prog 166 [LN a] (LN (rig a)) := by
  have h1 := okm_pos hok
  have hb := lenm_lef hok h2
  obtain ⟨e, he⟩ : ∃ e : Nat, peX 1 a 1 = e := ⟨(peX 1 a 1).toNat, by omega⟩
  have hx := peX_two hok h2
  rw [he, show (e : Int).toNat = e from rfl] at hx
  have hx1 := hx.1
  refine CallA.of Try.func166 rfl (by kernel_rfl) ?_
  refine R.go 8 (R.call true (partEndG_c a 1 e (by assumption) (by first | omega | (simp <;> omega)) hl) (by kernel_rfl) rfl (by kernel_rfl) ?_)
  refine R.call true (part_c a e (by first | omega | (simp <;> omega)) (by omega) (by first | omega | (simp <;> omega)) hl) (by kernel_rfl) rfl (by kernel_rfl) ?_
  exact R.go 2 (R.retE (LN ((a.take (peX 1 a e).toNat).drop e)) (by kernel_rfl) (by kernel_rfl) (by first | (rw [hx1, ← hx.2]; simp) | (exfalso; omega)))

theorem parts1_c (nv : Nat) (a : List (Int × Int)) (hok : OKM nv a) (hp : partsN (a.getD 0 (0, 0)).1 = 1) (hl : a.length ≤ 1000000000) : CallA Try.prog 118 [LN a] (ownA eLN 28 1 [a.drop 1]) := by
  have h1 := okm_pos hok
  have hpi : (partsN (a.getD 0 (0, 0)).1 : Int) = 1 := by omega
  refine CallA.of Try.func118 rfl (by kernel_rfl) ?_
  refine R.go 8 (R.idx eN a (0, 0) 0 0 (by kernel_rfl) rfl eN_len (by omega) (by kernel_rfl) ?_)
  refine R.go 2 (R.call true (partsOf_c ((a.getD 0 (0, 0)).1)) (by kernel_rfl) rfl (by kernel_rfl) ?_)
  refine R.go 7 (R.cond ((partsN ((a.getD 0 (0, 0)).1) : Int) = 1) (by kernel_rfl) (fun c1 => ?_) (fun c1 => ?_))
  · refine R.go 3 (R.call true (first1_c nv a hok hp hl) (by kernel_rfl) rfl (by kernel_rfl) ?_)
    exact R.go 3 (R.retE (ownA eLN 28 1 [a.drop 1]) (by kernel_rfl) (by kernel_rfl) (by rfl))
  · refine R.go 5 (R.cond ((partsN ((a.getD 0 (0, 0)).1) : Int) = 2) (by kernel_rfl) (fun c2 => ?_) (fun c2 => ?_))
    · refine R.go 3 (R.call true (first1_c nv a hok hp hl) (by kernel_rfl) rfl (by kernel_rfl) ?_)
      refine R.go 1 (R.call true (second_c nv a hok (by first | assumption | exact (partsN_two _).2 (by omega)) hl) (by kernel_rfl) rfl (by kernel_rfl) ?_)
      exact R.go 3 (R.retE (ownA eLN 28 1 [a.drop 1, rig a]) (by kernel_rfl) (by kernel_rfl) (by first | (rfl) | (exfalso; omega)))
    · refine R.go 6 (R.nil 2 28 1 (by kernel_rfl) ?_)
      exact R.retE (ownA eLN 28 1 []) (by kernel_rfl) (by kernel_rfl) (by first | (rfl) | (exfalso; omega))

theorem parts2_c (nv : Nat) (a : List (Int × Int)) (hok : OKM nv a) (hp : partsN (a.getD 0 (0, 0)).1 = 2) (hl : a.length ≤ 1000000000) : CallA Try.prog 118 [LN a] (ownA eLN 28 1 [lef a, rig a]) := by
  have h1 := okm_pos hok
  have hpi : (partsN (a.getD 0 (0, 0)).1 : Int) = 2 := by omega
  refine CallA.of Try.func118 rfl (by kernel_rfl) ?_
  refine R.go 8 (R.idx eN a (0, 0) 0 0 (by kernel_rfl) rfl eN_len (by omega) (by kernel_rfl) ?_)
  refine R.go 2 (R.call true (partsOf_c ((a.getD 0 (0, 0)).1)) (by kernel_rfl) rfl (by kernel_rfl) ?_)
  refine R.go 7 (R.cond ((partsN ((a.getD 0 (0, 0)).1) : Int) = 1) (by kernel_rfl) (fun c1 => ?_) (fun c1 => ?_))
  · refine R.go 3 (R.call true (first2_c nv a hok hp hl) (by kernel_rfl) rfl (by kernel_rfl) ?_)
    exact R.go 3 (R.retE (ownA eLN 28 1 [lef a]) (by kernel_rfl) (by kernel_rfl) (by first | (rfl) | (exfalso; omega)))
  · refine R.go 5 (R.cond ((partsN ((a.getD 0 (0, 0)).1) : Int) = 2) (by kernel_rfl) (fun c2 => ?_) (fun c2 => ?_))
    · refine R.go 3 (R.call true (first2_c nv a hok hp hl) (by kernel_rfl) rfl (by kernel_rfl) ?_)
      refine R.go 1 (R.call true (second_c nv a hok hp hl) (by kernel_rfl) rfl (by kernel_rfl) ?_)
      exact R.go 3 (R.retE (ownA eLN 28 1 [lef a, rig a]) (by kernel_rfl) (by kernel_rfl) (by rfl))
    · refine R.go 6 (R.nil 2 28 1 (by kernel_rfl) ?_)
      exact R.retE (ownA eLN 28 1 []) (by kernel_rfl) (by kernel_rfl) (by first | (rfl) | (exfalso; omega))

theorem negNormal_c : ∀ (k : Nat) (nv : Nat) (a : List (Int × Int)) (p : Bool) (hk : a.length = k) (hok : OKM nv a) (hl : a.length ≤ 300000), CallA Try.prog 66 [LN a, .bool p] (ownA eN 89 2 (nfA a p)) := by
  intro k
  induction k using Nat.strongRecOn with
  | _ k ih =>
  intro nv a p hk hok hl
  have hlen := okm_pos hok
  have hg := okm_get hok 0 (by omega)
  have hnl := fun p => (nfA_ok hok p).2.1
  refine CallA.of Try.func66 rfl (by kernel_rfl) ?_
  refine R.go 7 (R.idx eN a (0, 0) 0 0 (by kernel_rfl) rfl eN_len (by first | omega | (have hq2 := lenm_lef hok ((partsN_two _).2 (by omega)); have hn1 := fun p => (nfA_ok (okm_lef hok ((partsN_two _).2 (by omega))) p).2.1; have hn2 := fun p => (nfA_ok (okm_rig hok ((partsN_two _).2 (by omega))) p).2.1; have b1 := okm_pos (okm_lef hok ((partsN_two _).2 (by omega))); have b2 := okm_pos (okm_rig hok ((partsN_two _).2 (by omega))); have a1 := hn1 true; have a2 := hn1 false; have a3 := hn2 true; have a4 := hn2 false; omega) | (have hn3 := fun p => (nfA_ok (okm_tail hok (partsN_1 (by omega))) p).2.1; have a1 := hn3 p; simp at *; omega) | (simp; omega)) (by kernel_rfl) ?_)
  refine R.go 15 (R.cond (((a.getD 0 (0, 0)).1) = 0) (by kernel_rfl) (fun c1 => ?_) (fun c1 => ?_))
  · refine R.go 5 (R.condB (p) (by kernel_rfl) (fun c2 => ?_) (fun c2 => ?_))
    · refine R.go 3 (R.call true (clone_n a (by first | omega | (have hq2 := lenm_lef hok ((partsN_two _).2 (by omega)); have hn1 := fun p => (nfA_ok (okm_lef hok ((partsN_two _).2 (by omega))) p).2.1; have hn2 := fun p => (nfA_ok (okm_rig hok ((partsN_two _).2 (by omega))) p).2.1; have b1 := okm_pos (okm_lef hok ((partsN_two _).2 (by omega))); have b2 := okm_pos (okm_rig hok ((partsN_two _).2 (by omega))); have a1 := hn1 true; have a2 := hn1 false; have a3 := hn2 true; have a4 := hn2 false; omega) | (have hn3 := fun p => (nfA_ok (okm_tail hok (partsN_1 (by omega))) p).2.1; have a1 := hn3 p; simp at *; omega) | (simp; omega))) (by kernel_rfl) rfl (by kernel_rfl) ?_)
      exact R.go 2 (R.retE (ownA eN 89 2 a) (by kernel_rfl) (by kernel_rfl) (by first | (apply congrArg (ownA eN _ 2); first | exact e_varT hok (by assumption) (by assumption) | exact e_varF hok (by assumption) (by assumption) | exact (e_bot hok (by assumption)).1 (by assumption) | exact (e_bot hok (by assumption)).2 (by assumption) | exact (e_i1 hok (by assumption) (by assumption) (by assumption)).1 (by assumption) | exact (e_i1 hok (by assumption) (by assumption) (by assumption)).2 (by assumption) | exact e_i2 hok (by assumption) (by assumption) (by assumption) | exact (e_i3 hok (by assumption) (by assumption)).1 (by assumption) | exact (e_i3 hok (by assumption) (by assumption)).2 (by assumption) | exact e_loop1 hok (by assumption) (by assumption) (by assumption) (by assumption) (by first | exact .inl ⟨rfl, by assumption⟩ | exact .inr ⟨rfl, by assumption⟩) | exact e_loop2 hok (by omega) (by assumption) (by assumption) (by assumption) (by assumption) (by first | exact .inl ⟨rfl, by assumption⟩ | exact .inr ⟨rfl, by assumption⟩)) | (exfalso; omega)))
    · refine R.go 4 (R.call true (negation_c a (by first | omega | (have hq2 := lenm_lef hok ((partsN_two _).2 (by omega)); have hn1 := fun p => (nfA_ok (okm_lef hok ((partsN_two _).2 (by omega))) p).2.1; have hn2 := fun p => (nfA_ok (okm_rig hok ((partsN_two _).2 (by omega))) p).2.1; have b1 := okm_pos (okm_lef hok ((partsN_two _).2 (by omega))); have b2 := okm_pos (okm_rig hok ((partsN_two _).2 (by omega))); have a1 := hn1 true; have a2 := hn1 false; have a3 := hn2 true; have a4 := hn2 false; omega) | (have hn3 := fun p => (nfA_ok (okm_tail hok (partsN_1 (by omega))) p).2.1; have a1 := hn3 p; simp at *; omega) | (simp; omega))) (by kernel_rfl) rfl (by kernel_rfl) ?_)
      exact R.go 2 (R.retE (ownA eN 89 2 ((4, 0) :: (a ++ [(1, 0)]))) (by kernel_rfl) (by kernel_rfl) (by first | (apply congrArg (ownA eN _ 2); first | exact e_varT hok (by assumption) (by assumption) | exact e_varF hok (by assumption) (by assumption) | exact (e_bot hok (by assumption)).1 (by assumption) | exact (e_bot hok (by assumption)).2 (by assumption) | exact (e_i1 hok (by assumption) (by assumption) (by assumption)).1 (by assumption) | exact (e_i1 hok (by assumption) (by assumption) (by assumption)).2 (by assumption) | exact e_i2 hok (by assumption) (by assumption) (by assumption) | exact (e_i3 hok (by assumption) (by assumption)).1 (by assumption) | exact (e_i3 hok (by assumption) (by assumption)).2 (by assumption) | exact e_loop1 hok (by assumption) (by assumption) (by assumption) (by assumption) (by first | exact .inl ⟨rfl, by assumption⟩ | exact .inr ⟨rfl, by assumption⟩) | exact e_loop2 hok (by omega) (by assumption) (by assumption) (by assumption) (by assumption) (by first | exact .inl ⟨rfl, by assumption⟩ | exact .inr ⟨rfl, by assumption⟩)) | (exfalso; omega)))
  · refine R.go 5 (R.cond (((a.getD 0 (0, 0)).1) = 1) (by kernel_rfl) (fun c3 => ?_) (fun c3 => ?_))
    · refine R.go 5 (R.condB (p) (by kernel_rfl) (fun c4 => ?_) (fun c4 => ?_))
      · refine R.go 2 (R.call true (falsum_c) (by kernel_rfl) rfl (by kernel_rfl) ?_)
        exact R.go 2 (R.retE (ownA eN 89 2 [(1, 0)]) (by kernel_rfl) (by kernel_rfl) (by first | (apply congrArg (ownA eN _ 2); first | exact e_varT hok (by assumption) (by assumption) | exact e_varF hok (by assumption) (by assumption) | exact (e_bot hok (by assumption)).1 (by assumption) | exact (e_bot hok (by assumption)).2 (by assumption) | exact (e_i1 hok (by assumption) (by assumption) (by assumption)).1 (by assumption) | exact (e_i1 hok (by assumption) (by assumption) (by assumption)).2 (by assumption) | exact e_i2 hok (by assumption) (by assumption) (by assumption) | exact (e_i3 hok (by assumption) (by assumption)).1 (by assumption) | exact (e_i3 hok (by assumption) (by assumption)).2 (by assumption) | exact e_loop1 hok (by assumption) (by assumption) (by assumption) (by assumption) (by first | exact .inl ⟨rfl, by assumption⟩ | exact .inr ⟨rfl, by assumption⟩) | exact e_loop2 hok (by omega) (by assumption) (by assumption) (by assumption) (by assumption) (by first | exact .inl ⟨rfl, by assumption⟩ | exact .inr ⟨rfl, by assumption⟩)) | (exfalso; omega)))
      · refine R.go 3 (R.call true (truth_c) (by kernel_rfl) rfl (by kernel_rfl) ?_)
        exact R.go 2 (R.retE (ownA eN 89 2 [(4, 0), (1, 0), (1, 0)]) (by kernel_rfl) (by kernel_rfl) (by first | (apply congrArg (ownA eN _ 2); first | exact e_varT hok (by assumption) (by assumption) | exact e_varF hok (by assumption) (by assumption) | exact (e_bot hok (by assumption)).1 (by assumption) | exact (e_bot hok (by assumption)).2 (by assumption) | exact (e_i1 hok (by assumption) (by assumption) (by assumption)).1 (by assumption) | exact (e_i1 hok (by assumption) (by assumption) (by assumption)).2 (by assumption) | exact e_i2 hok (by assumption) (by assumption) (by assumption) | exact (e_i3 hok (by assumption) (by assumption)).1 (by assumption) | exact (e_i3 hok (by assumption) (by assumption)).2 (by assumption) | exact e_loop1 hok (by assumption) (by assumption) (by assumption) (by assumption) (by first | exact .inl ⟨rfl, by assumption⟩ | exact .inr ⟨rfl, by assumption⟩) | exact e_loop2 hok (by omega) (by assumption) (by assumption) (by assumption) (by assumption) (by first | exact .inl ⟨rfl, by assumption⟩ | exact .inr ⟨rfl, by assumption⟩)) | (exfalso; omega)))
    · refine R.go 5 (R.cond (((a.getD 0 (0, 0)).1) = 4) (by kernel_rfl) (fun c5 => ?_) (fun c5 => ?_))
      · refine R.go 4 (R.enter (avs := [LN a, .bool p]) Try.func124 rfl (by kernel_rfl) (by kernel_rfl) (by kernel_rfl) ?_)
        intro us6
        refine R.go 7 (R.call true (first2_c nv a hok (by first | assumption | exact (partsN_two _).2 (by omega)) (by first | omega | (have hq2 := lenm_lef hok ((partsN_two _).2 (by omega)); have hn1 := fun p => (nfA_ok (okm_lef hok ((partsN_two _).2 (by omega))) p).2.1; have hn2 := fun p => (nfA_ok (okm_rig hok ((partsN_two _).2 (by omega))) p).2.1; have b1 := okm_pos (okm_lef hok ((partsN_two _).2 (by omega))); have b2 := okm_pos (okm_rig hok ((partsN_two _).2 (by omega))); have a1 := hn1 true; have a2 := hn1 false; have a3 := hn2 true; have a4 := hn2 false; omega) | (have hn3 := fun p => (nfA_ok (okm_tail hok (partsN_1 (by omega))) p).2.1; have a1 := hn3 p; simp at *; omega) | (simp; omega))) (by kernel_rfl) rfl (by kernel_rfl) ?_)
        refine R.go 1 (R.call true (second_c nv a hok (by first | assumption | exact (partsN_two _).2 (by omega)) (by first | omega | (have hq2 := lenm_lef hok ((partsN_two _).2 (by omega)); have hn1 := fun p => (nfA_ok (okm_lef hok ((partsN_two _).2 (by omega))) p).2.1; have hn2 := fun p => (nfA_ok (okm_rig hok ((partsN_two _).2 (by omega))) p).2.1; have b1 := okm_pos (okm_lef hok ((partsN_two _).2 (by omega))); have b2 := okm_pos (okm_rig hok ((partsN_two _).2 (by omega))); have a1 := hn1 true; have a2 := hn1 false; have a3 := hn2 true; have a4 := hn2 false; omega) | (have hn3 := fun p => (nfA_ok (okm_tail hok (partsN_1 (by omega))) p).2.1; have a1 := hn3 p; simp at *; omega) | (simp; omega))) (by kernel_rfl) rfl (by kernel_rfl) ?_)
        refine R.go 8 (R.call true (isFalsum_c (lef a) (by first | omega | (have hq2 := lenm_lef hok ((partsN_two _).2 (by omega)); have hn1 := fun p => (nfA_ok (okm_lef hok ((partsN_two _).2 (by omega))) p).2.1; have hn2 := fun p => (nfA_ok (okm_rig hok ((partsN_two _).2 (by omega))) p).2.1; have b1 := okm_pos (okm_lef hok ((partsN_two _).2 (by omega))); have b2 := okm_pos (okm_rig hok ((partsN_two _).2 (by omega))); have a1 := hn1 true; have a2 := hn1 false; have a3 := hn2 true; have a4 := hn2 false; omega) | (have hn3 := fun p => (nfA_ok (okm_tail hok (partsN_1 (by omega))) p).2.1; have a1 := hn3 p; simp at *; omega) | (simp; omega))) (by kernel_rfl) rfl (by kernel_rfl) ?_)
        refine R.go 1 ?_
        refine (Bool.eq_false_or_eq_true (isB (lef a))).elim (fun c7 => ?_) (fun c7 => ?_)
        · refine R.want (isB (lef a)) true (by kernel_rfl) c7 ?_
          refine R.go 1 (R.want (isB (lef a)) true (by kernel_rfl) c7 ?_)
          refine R.call true (isFalsum_c (rig a) (by first | omega | (have hq2 := lenm_lef hok ((partsN_two _).2 (by omega)); have hn1 := fun p => (nfA_ok (okm_lef hok ((partsN_two _).2 (by omega))) p).2.1; have hn2 := fun p => (nfA_ok (okm_rig hok ((partsN_two _).2 (by omega))) p).2.1; have b1 := okm_pos (okm_lef hok ((partsN_two _).2 (by omega))); have b2 := okm_pos (okm_rig hok ((partsN_two _).2 (by omega))); have a1 := hn1 true; have a2 := hn1 false; have a3 := hn2 true; have a4 := hn2 false; omega) | (have hn3 := fun p => (nfA_ok (okm_tail hok (partsN_1 (by omega))) p).2.1; have a1 := hn3 p; simp at *; omega) | (simp; omega))) (by kernel_rfl) rfl (by kernel_rfl) ?_
          refine R.pick (isB (lef a)) true (by kernel_rfl) c7 (by kernel_rfl) ?_
          refine R.go 1 ?_
          refine (Bool.eq_false_or_eq_true (isB (rig a))).elim (fun c8 => ?_) (fun c8 => ?_)
          · refine R.want (isB (rig a)) true (by kernel_rfl) c8 ?_
            refine R.go 1 (R.pick (isB (rig a)) true (by kernel_rfl) c8 (by kernel_rfl) ?_)
            refine R.go 2 (R.condB (p) (by kernel_rfl) (fun c9 => ?_) (fun c9 => ?_))
            · refine R.go 2 (R.call true (truth_c) (by kernel_rfl) rfl (by kernel_rfl) ?_)
              refine R.go 2 (R.back (.ref 1) (frm 52 [(0, LN a), (1, .bool p), (4, .nil), (5, AI ((a.getD 0 (0, 0)).1)), (9, LN a), (10, .rptr [AI ((a.getD 0 (0, 0)).1), AI ((a.getD 0 (0, 0)).2)]), (11, .rptr [AI ((a.getD 0 (0, 0)).1), AI ((a.getD 0 (0, 0)).2)]), (12, AI ((a.getD 0 (0, 0)).1)), (13, AI ((a.getD 0 (0, 0)).1)), (14, .bool (decide (((a.getD 0 (0, 0)).1) = 0))), (15, .bool (decide (((a.getD 0 (0, 0)).1) = 0))), (21, .bool (decide (((a.getD 0 (0, 0)).1) = 1))), (22, .bool (decide (((a.getD 0 (0, 0)).1) = 1))), (26, .bool (decide (((a.getD 0 (0, 0)).1) = 4))), (27, .bool (decide (((a.getD 0 (0, 0)).1) = 4))), (28, LN a), (29, .bool p)]) (by kernel_rfl) (by kernel_rfl) (by kernel_rfl) ?_)
              exact R.go 2 (R.retE (ownA eN 89 2 [(4, 0), (1, 0), (1, 0)]) (by kernel_rfl) (by kernel_rfl) (by first | (apply congrArg (ownA eN _ 2); first | exact e_varT hok (by assumption) (by assumption) | exact e_varF hok (by assumption) (by assumption) | exact (e_bot hok (by assumption)).1 (by assumption) | exact (e_bot hok (by assumption)).2 (by assumption) | exact (e_i1 hok (by assumption) (by assumption) (by assumption)).1 (by assumption) | exact (e_i1 hok (by assumption) (by assumption) (by assumption)).2 (by assumption) | exact e_i2 hok (by assumption) (by assumption) (by assumption) | exact (e_i3 hok (by assumption) (by assumption)).1 (by assumption) | exact (e_i3 hok (by assumption) (by assumption)).2 (by assumption) | exact e_loop1 hok (by assumption) (by assumption) (by assumption) (by assumption) (by first | exact .inl ⟨rfl, by assumption⟩ | exact .inr ⟨rfl, by assumption⟩) | exact e_loop2 hok (by omega) (by assumption) (by assumption) (by assumption) (by assumption) (by first | exact .inl ⟨rfl, by assumption⟩ | exact .inr ⟨rfl, by assumption⟩)) | (exfalso; omega)))
            · refine R.go 3 (R.call true (isFalsum_c (lef a) (by first | omega | (have hq2 := lenm_lef hok ((partsN_two _).2 (by omega)); have hn1 := fun p => (nfA_ok (okm_lef hok ((partsN_two _).2 (by omega))) p).2.1; have hn2 := fun p => (nfA_ok (okm_rig hok ((partsN_two _).2 (by omega))) p).2.1; have b1 := okm_pos (okm_lef hok ((partsN_two _).2 (by omega))); have b2 := okm_pos (okm_rig hok ((partsN_two _).2 (by omega))); have a1 := hn1 true; have a2 := hn1 false; have a3 := hn2 true; have a4 := hn2 false; omega) | (have hn3 := fun p => (nfA_ok (okm_tail hok (partsN_1 (by omega))) p).2.1; have a1 := hn3 p; simp at *; omega) | (simp; omega))) (by kernel_rfl) rfl (by kernel_rfl) ?_)
              refine R.go 1 (R.want (isB (lef a)) true (by kernel_rfl) c7 ?_)
              refine R.go 1 (R.want (isB (lef a)) true (by kernel_rfl) c7 ?_)
              refine R.call true (isFalsum_c (rig a) (by first | omega | (have hq2 := lenm_lef hok ((partsN_two _).2 (by omega)); have hn1 := fun p => (nfA_ok (okm_lef hok ((partsN_two _).2 (by omega))) p).2.1; have hn2 := fun p => (nfA_ok (okm_rig hok ((partsN_two _).2 (by omega))) p).2.1; have b1 := okm_pos (okm_lef hok ((partsN_two _).2 (by omega))); have b2 := okm_pos (okm_rig hok ((partsN_two _).2 (by omega))); have a1 := hn1 true; have a2 := hn1 false; have a3 := hn2 true; have a4 := hn2 false; omega) | (have hn3 := fun p => (nfA_ok (okm_tail hok (partsN_1 (by omega))) p).2.1; have a1 := hn3 p; simp at *; omega) | (simp; omega))) (by kernel_rfl) rfl (by kernel_rfl) ?_
              refine R.pick (isB (lef a)) true (by kernel_rfl) c7 (by kernel_rfl) ?_
              refine R.go 2 (R.thn (isB (rig a)) (by kernel_rfl) c8 ?_)
              refine R.go 2 (R.call true (falsum_c) (by kernel_rfl) rfl (by kernel_rfl) ?_)
              refine R.go 2 (R.back (.ref 1) (frm 52 [(0, LN a), (1, .bool p), (4, .nil), (5, AI ((a.getD 0 (0, 0)).1)), (9, LN a), (10, .rptr [AI ((a.getD 0 (0, 0)).1), AI ((a.getD 0 (0, 0)).2)]), (11, .rptr [AI ((a.getD 0 (0, 0)).1), AI ((a.getD 0 (0, 0)).2)]), (12, AI ((a.getD 0 (0, 0)).1)), (13, AI ((a.getD 0 (0, 0)).1)), (14, .bool (decide (((a.getD 0 (0, 0)).1) = 0))), (15, .bool (decide (((a.getD 0 (0, 0)).1) = 0))), (21, .bool (decide (((a.getD 0 (0, 0)).1) = 1))), (22, .bool (decide (((a.getD 0 (0, 0)).1) = 1))), (26, .bool (decide (((a.getD 0 (0, 0)).1) = 4))), (27, .bool (decide (((a.getD 0 (0, 0)).1) = 4))), (28, LN a), (29, .bool p)]) (by kernel_rfl) (by kernel_rfl) (by kernel_rfl) ?_)
              exact R.go 2 (R.retE (ownA eN 89 2 [(1, 0)]) (by kernel_rfl) (by kernel_rfl) (by first | (apply congrArg (ownA eN _ 2); first | exact e_varT hok (by assumption) (by assumption) | exact e_varF hok (by assumption) (by assumption) | exact (e_bot hok (by assumption)).1 (by assumption) | exact (e_bot hok (by assumption)).2 (by assumption) | exact (e_i1 hok (by assumption) (by assumption) (by assumption)).1 (by assumption) | exact (e_i1 hok (by assumption) (by assumption) (by assumption)).2 (by assumption) | exact e_i2 hok (by assumption) (by assumption) (by assumption) | exact (e_i3 hok (by assumption) (by assumption)).1 (by assumption) | exact (e_i3 hok (by assumption) (by assumption)).2 (by assumption) | exact e_loop1 hok (by assumption) (by assumption) (by assumption) (by assumption) (by first | exact .inl ⟨rfl, by assumption⟩ | exact .inr ⟨rfl, by assumption⟩) | exact e_loop2 hok (by omega) (by assumption) (by assumption) (by assumption) (by assumption) (by first | exact .inl ⟨rfl, by assumption⟩ | exact .inr ⟨rfl, by assumption⟩)) | (exfalso; omega)))
          · refine R.skp (isB (rig a)) true (by kernel_rfl) c8 (by kernel_rfl) ?_
            refine R.pick (isB (rig a)) false (by kernel_rfl) c8 (by kernel_rfl) ?_
            refine R.go 6 (R.call true (isFalsum_c (lef a) (by first | omega | (have hq2 := lenm_lef hok ((partsN_two _).2 (by omega)); have hn1 := fun p => (nfA_ok (okm_lef hok ((partsN_two _).2 (by omega))) p).2.1; have hn2 := fun p => (nfA_ok (okm_rig hok ((partsN_two _).2 (by omega))) p).2.1; have b1 := okm_pos (okm_lef hok ((partsN_two _).2 (by omega))); have b2 := okm_pos (okm_rig hok ((partsN_two _).2 (by omega))); have a1 := hn1 true; have a2 := hn1 false; have a3 := hn2 true; have a4 := hn2 false; omega) | (have hn3 := fun p => (nfA_ok (okm_tail hok (partsN_1 (by omega))) p).2.1; have a1 := hn3 p; simp at *; omega) | (simp; omega))) (by kernel_rfl) rfl (by kernel_rfl) ?_)
            refine R.go 1 (R.want (isB (lef a)) true (by kernel_rfl) c7 ?_)
            refine R.go 1 (R.want (isB (lef a)) true (by kernel_rfl) c7 ?_)
            refine R.call true (isFalsum_c (rig a) (by first | omega | (have hq2 := lenm_lef hok ((partsN_two _).2 (by omega)); have hn1 := fun p => (nfA_ok (okm_lef hok ((partsN_two _).2 (by omega))) p).2.1; have hn2 := fun p => (nfA_ok (okm_rig hok ((partsN_two _).2 (by omega))) p).2.1; have b1 := okm_pos (okm_lef hok ((partsN_two _).2 (by omega))); have b2 := okm_pos (okm_rig hok ((partsN_two _).2 (by omega))); have a1 := hn1 true; have a2 := hn1 false; have a3 := hn2 true; have a4 := hn2 false; omega) | (have hn3 := fun p => (nfA_ok (okm_tail hok (partsN_1 (by omega))) p).2.1; have a1 := hn3 p; simp at *; omega) | (simp; omega))) (by kernel_rfl) rfl (by kernel_rfl) ?_
            refine R.pick (isB (lef a)) true (by kernel_rfl) c7 (by kernel_rfl) ?_
            refine R.go 2 (R.els (isB (rig a)) (by kernel_rfl) c8 ?_)
            refine R.go 3 (R.call true (isFalsum_c (rig a) (by first | omega | (have hq2 := lenm_lef hok ((partsN_two _).2 (by omega)); have hn1 := fun p => (nfA_ok (okm_lef hok ((partsN_two _).2 (by omega))) p).2.1; have hn2 := fun p => (nfA_ok (okm_rig hok ((partsN_two _).2 (by omega))) p).2.1; have b1 := okm_pos (okm_lef hok ((partsN_two _).2 (by omega))); have b2 := okm_pos (okm_rig hok ((partsN_two _).2 (by omega))); have a1 := hn1 true; have a2 := hn1 false; have a3 := hn2 true; have a4 := hn2 false; omega) | (have hn3 := fun p => (nfA_ok (okm_tail hok (partsN_1 (by omega))) p).2.1; have a1 := hn3 p; simp at *; omega) | (simp; omega))) (by kernel_rfl) rfl (by kernel_rfl) ?_)
            refine R.go 2 (R.els (isB (rig a)) (by kernel_rfl) c8 ?_)
            refine R.go 5 (R.condB (p) (by kernel_rfl) (fun c10 => ?_) (fun c10 => ?_))
            · refine R.go 3 (R.call true (ih ((lef a).length) (by first | omega | (have hq2 := lenm_lef hok ((partsN_two _).2 (by omega)); have hn1 := fun p => (nfA_ok (okm_lef hok ((partsN_two _).2 (by omega))) p).2.1; have hn2 := fun p => (nfA_ok (okm_rig hok ((partsN_two _).2 (by omega))) p).2.1; have b1 := okm_pos (okm_lef hok ((partsN_two _).2 (by omega))); have b2 := okm_pos (okm_rig hok ((partsN_two _).2 (by omega))); have a1 := hn1 true; have a2 := hn1 false; have a3 := hn2 true; have a4 := hn2 false; omega) | (have hn3 := fun p => (nfA_ok (okm_tail hok (partsN_1 (by omega))) p).2.1; have a1 := hn3 p; simp at *; omega) | (simp; omega)) nv (lef a) false (by first | rfl | simp) (by first | assumption | exact okm_lef hok ((partsN_two _).2 (by omega)) | exact okm_rig hok ((partsN_two _).2 (by omega)) | exact okm_tail hok (partsN_1 (by omega)) | exact hq.1) (by first | omega | (have hq2 := lenm_lef hok ((partsN_two _).2 (by omega)); have hn1 := fun p => (nfA_ok (okm_lef hok ((partsN_two _).2 (by omega))) p).2.1; have hn2 := fun p => (nfA_ok (okm_rig hok ((partsN_two _).2 (by omega))) p).2.1; have b1 := okm_pos (okm_lef hok ((partsN_two _).2 (by omega))); have b2 := okm_pos (okm_rig hok ((partsN_two _).2 (by omega))); have a1 := hn1 true; have a2 := hn1 false; have a3 := hn2 true; have a4 := hn2 false; omega) | (have hn3 := fun p => (nfA_ok (okm_tail hok (partsN_1 (by omega))) p).2.1; have a1 := hn3 p; simp at *; omega) | (simp; omega))) (by kernel_rfl) rfl (by kernel_rfl) ?_)
              refine R.go 1 (R.call true (ih ((rig a).length) (by first | omega | (have hq2 := lenm_lef hok ((partsN_two _).2 (by omega)); have hn1 := fun p => (nfA_ok (okm_lef hok ((partsN_two _).2 (by omega))) p).2.1; have hn2 := fun p => (nfA_ok (okm_rig hok ((partsN_two _).2 (by omega))) p).2.1; have b1 := okm_pos (okm_lef hok ((partsN_two _).2 (by omega))); have b2 := okm_pos (okm_rig hok ((partsN_two _).2 (by omega))); have a1 := hn1 true; have a2 := hn1 false; have a3 := hn2 true; have a4 := hn2 false; omega) | (have hn3 := fun p => (nfA_ok (okm_tail hok (partsN_1 (by omega))) p).2.1; have a1 := hn3 p; simp at *; omega) | (simp; omega)) nv (rig a) true (by first | rfl | simp) (by first | assumption | exact okm_lef hok ((partsN_two _).2 (by omega)) | exact okm_rig hok ((partsN_two _).2 (by omega)) | exact okm_tail hok (partsN_1 (by omega)) | exact hq.1) (by first | omega | (have hq2 := lenm_lef hok ((partsN_two _).2 (by omega)); have hn1 := fun p => (nfA_ok (okm_lef hok ((partsN_two _).2 (by omega))) p).2.1; have hn2 := fun p => (nfA_ok (okm_rig hok ((partsN_two _).2 (by omega))) p).2.1; have b1 := okm_pos (okm_lef hok ((partsN_two _).2 (by omega))); have b2 := okm_pos (okm_rig hok ((partsN_two _).2 (by omega))); have a1 := hn1 true; have a2 := hn1 false; have a3 := hn2 true; have a4 := hn2 false; omega) | (have hn3 := fun p => (nfA_ok (okm_tail hok (partsN_1 (by omega))) p).2.1; have a1 := hn3 p; simp at *; omega) | (simp; omega))) (by kernel_rfl) rfl (by kernel_rfl) ?_)
              refine R.call false (join_c 3 (nfA (lef a) false) (nfA (rig a) true) (by first | omega | (have hq2 := lenm_lef hok ((partsN_two _).2 (by omega)); have hn1 := fun p => (nfA_ok (okm_lef hok ((partsN_two _).2 (by omega))) p).2.1; have hn2 := fun p => (nfA_ok (okm_rig hok ((partsN_two _).2 (by omega))) p).2.1; have b1 := okm_pos (okm_lef hok ((partsN_two _).2 (by omega))); have b2 := okm_pos (okm_rig hok ((partsN_two _).2 (by omega))); have a1 := hn1 true; have a2 := hn1 false; have a3 := hn2 true; have a4 := hn2 false; omega) | (have hn3 := fun p => (nfA_ok (okm_tail hok (partsN_1 (by omega))) p).2.1; have a1 := hn3 p; simp at *; omega) | (simp; omega)) (by first | omega | (have hq2 := lenm_lef hok ((partsN_two _).2 (by omega)); have hn1 := fun p => (nfA_ok (okm_lef hok ((partsN_two _).2 (by omega))) p).2.1; have hn2 := fun p => (nfA_ok (okm_rig hok ((partsN_two _).2 (by omega))) p).2.1; have b1 := okm_pos (okm_lef hok ((partsN_two _).2 (by omega))); have b2 := okm_pos (okm_rig hok ((partsN_two _).2 (by omega))); have a1 := hn1 true; have a2 := hn1 false; have a3 := hn2 true; have a4 := hn2 false; omega) | (have hn3 := fun p => (nfA_ok (okm_tail hok (partsN_1 (by omega))) p).2.1; have a1 := hn3 p; simp at *; omega) | (simp; omega))) (by kernel_rfl) (ownA_closed eN_closed 89 2 ((3, 0) :: ((nfA (lef a) false) ++ (nfA (rig a) true)))) (by kernel_rfl) ?_
              refine R.go 2 (R.back (.ref 3) (frm 52 [(0, LN a), (1, .bool p), (4, .nil), (5, AI ((a.getD 0 (0, 0)).1)), (9, LN a), (10, .rptr [AI ((a.getD 0 (0, 0)).1), AI ((a.getD 0 (0, 0)).2)]), (11, .rptr [AI ((a.getD 0 (0, 0)).1), AI ((a.getD 0 (0, 0)).2)]), (12, AI ((a.getD 0 (0, 0)).1)), (13, AI ((a.getD 0 (0, 0)).1)), (14, .bool (decide (((a.getD 0 (0, 0)).1) = 0))), (15, .bool (decide (((a.getD 0 (0, 0)).1) = 0))), (21, .bool (decide (((a.getD 0 (0, 0)).1) = 1))), (22, .bool (decide (((a.getD 0 (0, 0)).1) = 1))), (26, .bool (decide (((a.getD 0 (0, 0)).1) = 4))), (27, .bool (decide (((a.getD 0 (0, 0)).1) = 4))), (28, LN a), (29, .bool p)]) (by kernel_rfl) (by kernel_rfl) (by kernel_rfl) ?_)
              exact R.go 2 (R.retE (ownA eN 89 2 ((3, 0) :: ((nfA (lef a) false) ++ (nfA (rig a) true)))) (by kernel_rfl) (by kernel_rfl) (by first | (apply congrArg (ownA eN _ 2); first | exact e_varT hok (by assumption) (by assumption) | exact e_varF hok (by assumption) (by assumption) | exact (e_bot hok (by assumption)).1 (by assumption) | exact (e_bot hok (by assumption)).2 (by assumption) | exact (e_i1 hok (by assumption) (by assumption) (by assumption)).1 (by assumption) | exact (e_i1 hok (by assumption) (by assumption) (by assumption)).2 (by assumption) | exact e_i2 hok (by assumption) (by assumption) (by assumption) | exact (e_i3 hok (by assumption) (by assumption)).1 (by assumption) | exact (e_i3 hok (by assumption) (by assumption)).2 (by assumption) | exact e_loop1 hok (by assumption) (by assumption) (by assumption) (by assumption) (by first | exact .inl ⟨rfl, by assumption⟩ | exact .inr ⟨rfl, by assumption⟩) | exact e_loop2 hok (by omega) (by assumption) (by assumption) (by assumption) (by assumption) (by first | exact .inl ⟨rfl, by assumption⟩ | exact .inr ⟨rfl, by assumption⟩)) | (exfalso; omega)))
            · refine R.go 5 (R.call true (ih ((lef a).length) (by first | omega | (have hq2 := lenm_lef hok ((partsN_two _).2 (by omega)); have hn1 := fun p => (nfA_ok (okm_lef hok ((partsN_two _).2 (by omega))) p).2.1; have hn2 := fun p => (nfA_ok (okm_rig hok ((partsN_two _).2 (by omega))) p).2.1; have b1 := okm_pos (okm_lef hok ((partsN_two _).2 (by omega))); have b2 := okm_pos (okm_rig hok ((partsN_two _).2 (by omega))); have a1 := hn1 true; have a2 := hn1 false; have a3 := hn2 true; have a4 := hn2 false; omega) | (have hn3 := fun p => (nfA_ok (okm_tail hok (partsN_1 (by omega))) p).2.1; have a1 := hn3 p; simp at *; omega) | (simp; omega)) nv (lef a) true (by first | rfl | simp) (by first | assumption | exact okm_lef hok ((partsN_two _).2 (by omega)) | exact okm_rig hok ((partsN_two _).2 (by omega)) | exact okm_tail hok (partsN_1 (by omega)) | exact hq.1) (by first | omega | (have hq2 := lenm_lef hok ((partsN_two _).2 (by omega)); have hn1 := fun p => (nfA_ok (okm_lef hok ((partsN_two _).2 (by omega))) p).2.1; have hn2 := fun p => (nfA_ok (okm_rig hok ((partsN_two _).2 (by omega))) p).2.1; have b1 := okm_pos (okm_lef hok ((partsN_two _).2 (by omega))); have b2 := okm_pos (okm_rig hok ((partsN_two _).2 (by omega))); have a1 := hn1 true; have a2 := hn1 false; have a3 := hn2 true; have a4 := hn2 false; omega) | (have hn3 := fun p => (nfA_ok (okm_tail hok (partsN_1 (by omega))) p).2.1; have a1 := hn3 p; simp at *; omega) | (simp; omega))) (by kernel_rfl) rfl (by kernel_rfl) ?_)
              refine R.go 1 (R.call true (ih ((rig a).length) (by first | omega | (have hq2 := lenm_lef hok ((partsN_two _).2 (by omega)); have hn1 := fun p => (nfA_ok (okm_lef hok ((partsN_two _).2 (by omega))) p).2.1; have hn2 := fun p => (nfA_ok (okm_rig hok ((partsN_two _).2 (by omega))) p).2.1; have b1 := okm_pos (okm_lef hok ((partsN_two _).2 (by omega))); have b2 := okm_pos (okm_rig hok ((partsN_two _).2 (by omega))); have a1 := hn1 true; have a2 := hn1 false; have a3 := hn2 true; have a4 := hn2 false; omega) | (have hn3 := fun p => (nfA_ok (okm_tail hok (partsN_1 (by omega))) p).2.1; have a1 := hn3 p; simp at *; omega) | (simp; omega)) nv (rig a) false (by first | rfl | simp) (by first | assumption | exact okm_lef hok ((partsN_two _).2 (by omega)) | exact okm_rig hok ((partsN_two _).2 (by omega)) | exact okm_tail hok (partsN_1 (by omega)) | exact hq.1) (by first | omega | (have hq2 := lenm_lef hok ((partsN_two _).2 (by omega)); have hn1 := fun p => (nfA_ok (okm_lef hok ((partsN_two _).2 (by omega))) p).2.1; have hn2 := fun p => (nfA_ok (okm_rig hok ((partsN_two _).2 (by omega))) p).2.1; have b1 := okm_pos (okm_lef hok ((partsN_two _).2 (by omega))); have b2 := okm_pos (okm_rig hok ((partsN_two _).2 (by omega))); have a1 := hn1 true; have a2 := hn1 false; have a3 := hn2 true; have a4 := hn2 false; omega) | (have hn3 := fun p => (nfA_ok (okm_tail hok (partsN_1 (by omega))) p).2.1; have a1 := hn3 p; simp at *; omega) | (simp; omega))) (by kernel_rfl) rfl (by kernel_rfl) ?_)
              refine R.call false (join_c 2 (nfA (lef a) true) (nfA (rig a) false) (by first | omega | (have hq2 := lenm_lef hok ((partsN_two _).2 (by omega)); have hn1 := fun p => (nfA_ok (okm_lef hok ((partsN_two _).2 (by omega))) p).2.1; have hn2 := fun p => (nfA_ok (okm_rig hok ((partsN_two _).2 (by omega))) p).2.1; have b1 := okm_pos (okm_lef hok ((partsN_two _).2 (by omega))); have b2 := okm_pos (okm_rig hok ((partsN_two _).2 (by omega))); have a1 := hn1 true; have a2 := hn1 false; have a3 := hn2 true; have a4 := hn2 false; omega) | (have hn3 := fun p => (nfA_ok (okm_tail hok (partsN_1 (by omega))) p).2.1; have a1 := hn3 p; simp at *; omega) | (simp; omega)) (by first | omega | (have hq2 := lenm_lef hok ((partsN_two _).2 (by omega)); have hn1 := fun p => (nfA_ok (okm_lef hok ((partsN_two _).2 (by omega))) p).2.1; have hn2 := fun p => (nfA_ok (okm_rig hok ((partsN_two _).2 (by omega))) p).2.1; have b1 := okm_pos (okm_lef hok ((partsN_two _).2 (by omega))); have b2 := okm_pos (okm_rig hok ((partsN_two _).2 (by omega))); have a1 := hn1 true; have a2 := hn1 false; have a3 := hn2 true; have a4 := hn2 false; omega) | (have hn3 := fun p => (nfA_ok (okm_tail hok (partsN_1 (by omega))) p).2.1; have a1 := hn3 p; simp at *; omega) | (simp; omega))) (by kernel_rfl) (ownA_closed eN_closed 89 2 ((2, 0) :: ((nfA (lef a) true) ++ (nfA (rig a) false)))) (by kernel_rfl) ?_
              refine R.go 2 (R.back (.ref 3) (frm 52 [(0, LN a), (1, .bool p), (4, .nil), (5, AI ((a.getD 0 (0, 0)).1)), (9, LN a), (10, .rptr [AI ((a.getD 0 (0, 0)).1), AI ((a.getD 0 (0, 0)).2)]), (11, .rptr [AI ((a.getD 0 (0, 0)).1), AI ((a.getD 0 (0, 0)).2)]), (12, AI ((a.getD 0 (0, 0)).1)), (13, AI ((a.getD 0 (0, 0)).1)), (14, .bool (decide (((a.getD 0 (0, 0)).1) = 0))), (15, .bool (decide (((a.getD 0 (0, 0)).1) = 0))), (21, .bool (decide (((a.getD 0 (0, 0)).1) = 1))), (22, .bool (decide (((a.getD 0 (0, 0)).1) = 1))), (26, .bool (decide (((a.getD 0 (0, 0)).1) = 4))), (27, .bool (decide (((a.getD 0 (0, 0)).1) = 4))), (28, LN a), (29, .bool p)]) (by kernel_rfl) (by kernel_rfl) (by kernel_rfl) ?_)
              exact R.go 2 (R.retE (ownA eN 89 2 ((2, 0) :: ((nfA (lef a) true) ++ (nfA (rig a) false)))) (by kernel_rfl) (by kernel_rfl) (by first | (apply congrArg (ownA eN _ 2); first | exact e_varT hok (by assumption) (by assumption) | exact e_varF hok (by assumption) (by assumption) | exact (e_bot hok (by assumption)).1 (by assumption) | exact (e_bot hok (by assumption)).2 (by assumption) | exact (e_i1 hok (by assumption) (by assumption) (by assumption)).1 (by assumption) | exact (e_i1 hok (by assumption) (by assumption) (by assumption)).2 (by assumption) | exact e_i2 hok (by assumption) (by assumption) (by assumption) | exact (e_i3 hok (by assumption) (by assumption)).1 (by assumption) | exact (e_i3 hok (by assumption) (by assumption)).2 (by assumption) | exact e_loop1 hok (by assumption) (by assumption) (by assumption) (by assumption) (by first | exact .inl ⟨rfl, by assumption⟩ | exact .inr ⟨rfl, by assumption⟩) | exact e_loop2 hok (by omega) (by assumption) (by assumption) (by assumption) (by assumption) (by first | exact .inl ⟨rfl, by assumption⟩ | exact .inr ⟨rfl, by assumption⟩)) | (exfalso; omega)))
        · refine R.skp (isB (lef a)) true (by kernel_rfl) c7 (by kernel_rfl) ?_
          refine R.skp (isB (lef a)) true (by kernel_rfl) c7 (by kernel_rfl) ?_
          refine R.pick (isB (lef a)) false (by kernel_rfl) c7 (by kernel_rfl) ?_
          refine R.go 9 (R.call true (isFalsum_c (lef a) (by first | omega | (have hq2 := lenm_lef hok ((partsN_two _).2 (by omega)); have hn1 := fun p => (nfA_ok (okm_lef hok ((partsN_two _).2 (by omega))) p).2.1; have hn2 := fun p => (nfA_ok (okm_rig hok ((partsN_two _).2 (by omega))) p).2.1; have b1 := okm_pos (okm_lef hok ((partsN_two _).2 (by omega))); have b2 := okm_pos (okm_rig hok ((partsN_two _).2 (by omega))); have a1 := hn1 true; have a2 := hn1 false; have a3 := hn2 true; have a4 := hn2 false; omega) | (have hn3 := fun p => (nfA_ok (okm_tail hok (partsN_1 (by omega))) p).2.1; have a1 := hn3 p; simp at *; omega) | (simp; omega))) (by kernel_rfl) rfl (by kernel_rfl) ?_)
          refine R.go 1 (R.skp (isB (lef a)) true (by kernel_rfl) c7 (by kernel_rfl) ?_)
          refine R.skp (isB (lef a)) true (by kernel_rfl) c7 (by kernel_rfl) ?_
          refine R.pick (isB (lef a)) false (by kernel_rfl) c7 (by kernel_rfl) ?_
          refine R.go 6 (R.call true (isFalsum_c (rig a) (by first | omega | (have hq2 := lenm_lef hok ((partsN_two _).2 (by omega)); have hn1 := fun p => (nfA_ok (okm_lef hok ((partsN_two _).2 (by omega))) p).2.1; have hn2 := fun p => (nfA_ok (okm_rig hok ((partsN_two _).2 (by omega))) p).2.1; have b1 := okm_pos (okm_lef hok ((partsN_two _).2 (by omega))); have b2 := okm_pos (okm_rig hok ((partsN_two _).2 (by omega))); have a1 := hn1 true; have a2 := hn1 false; have a3 := hn2 true; have a4 := hn2 false; omega) | (have hn3 := fun p => (nfA_ok (okm_tail hok (partsN_1 (by omega))) p).2.1; have a1 := hn3 p; simp at *; omega) | (simp; omega))) (by kernel_rfl) rfl (by kernel_rfl) ?_)
          refine R.go 2 (R.condB (isB (rig a)) (by kernel_rfl) (fun c11 => ?_) (fun c11 => ?_))
          · refine R.go 5 (R.call true (ih ((lef a).length) (by first | omega | (have hq2 := lenm_lef hok ((partsN_two _).2 (by omega)); have hn1 := fun p => (nfA_ok (okm_lef hok ((partsN_two _).2 (by omega))) p).2.1; have hn2 := fun p => (nfA_ok (okm_rig hok ((partsN_two _).2 (by omega))) p).2.1; have b1 := okm_pos (okm_lef hok ((partsN_two _).2 (by omega))); have b2 := okm_pos (okm_rig hok ((partsN_two _).2 (by omega))); have a1 := hn1 true; have a2 := hn1 false; have a3 := hn2 true; have a4 := hn2 false; omega) | (have hn3 := fun p => (nfA_ok (okm_tail hok (partsN_1 (by omega))) p).2.1; have a1 := hn3 p; simp at *; omega) | (simp; omega)) nv (lef a) (!p) (by first | rfl | simp) (by first | assumption | exact okm_lef hok ((partsN_two _).2 (by omega)) | exact okm_rig hok ((partsN_two _).2 (by omega)) | exact okm_tail hok (partsN_1 (by omega)) | exact hq.1) (by first | omega | (have hq2 := lenm_lef hok ((partsN_two _).2 (by omega)); have hn1 := fun p => (nfA_ok (okm_lef hok ((partsN_two _).2 (by omega))) p).2.1; have hn2 := fun p => (nfA_ok (okm_rig hok ((partsN_two _).2 (by omega))) p).2.1; have b1 := okm_pos (okm_lef hok ((partsN_two _).2 (by omega))); have b2 := okm_pos (okm_rig hok ((partsN_two _).2 (by omega))); have a1 := hn1 true; have a2 := hn1 false; have a3 := hn2 true; have a4 := hn2 false; omega) | (have hn3 := fun p => (nfA_ok (okm_tail hok (partsN_1 (by omega))) p).2.1; have a1 := hn3 p; simp at *; omega) | (simp; omega))) (by kernel_rfl) rfl (by kernel_rfl) ?_)
            refine R.go 2 (R.back (.ref 1) (frm 52 [(0, LN a), (1, .bool p), (4, .nil), (5, AI ((a.getD 0 (0, 0)).1)), (9, LN a), (10, .rptr [AI ((a.getD 0 (0, 0)).1), AI ((a.getD 0 (0, 0)).2)]), (11, .rptr [AI ((a.getD 0 (0, 0)).1), AI ((a.getD 0 (0, 0)).2)]), (12, AI ((a.getD 0 (0, 0)).1)), (13, AI ((a.getD 0 (0, 0)).1)), (14, .bool (decide (((a.getD 0 (0, 0)).1) = 0))), (15, .bool (decide (((a.getD 0 (0, 0)).1) = 0))), (21, .bool (decide (((a.getD 0 (0, 0)).1) = 1))), (22, .bool (decide (((a.getD 0 (0, 0)).1) = 1))), (26, .bool (decide (((a.getD 0 (0, 0)).1) = 4))), (27, .bool (decide (((a.getD 0 (0, 0)).1) = 4))), (28, LN a), (29, .bool p)]) (by kernel_rfl) (by kernel_rfl) (by kernel_rfl) ?_)
            exact R.go 2 (R.retE (ownA eN 89 2 (nfA (lef a) (!p))) (by kernel_rfl) (by kernel_rfl) (by first | (apply congrArg (ownA eN _ 2); first | exact e_varT hok (by assumption) (by assumption) | exact e_varF hok (by assumption) (by assumption) | exact (e_bot hok (by assumption)).1 (by assumption) | exact (e_bot hok (by assumption)).2 (by assumption) | exact (e_i1 hok (by assumption) (by assumption) (by assumption)).1 (by assumption) | exact (e_i1 hok (by assumption) (by assumption) (by assumption)).2 (by assumption) | exact e_i2 hok (by assumption) (by assumption) (by assumption) | exact (e_i3 hok (by assumption) (by assumption)).1 (by assumption) | exact (e_i3 hok (by assumption) (by assumption)).2 (by assumption) | exact e_loop1 hok (by assumption) (by assumption) (by assumption) (by assumption) (by first | exact .inl ⟨rfl, by assumption⟩ | exact .inr ⟨rfl, by assumption⟩) | exact e_loop2 hok (by omega) (by assumption) (by assumption) (by assumption) (by assumption) (by first | exact .inl ⟨rfl, by assumption⟩ | exact .inr ⟨rfl, by assumption⟩)) | (exfalso; omega)))
          · refine R.go 5 (R.condB (p) (by kernel_rfl) (fun c12 => ?_) (fun c12 => ?_))
            · refine R.go 3 (R.call true (ih ((lef a).length) (by first | omega | (have hq2 := lenm_lef hok ((partsN_two _).2 (by omega)); have hn1 := fun p => (nfA_ok (okm_lef hok ((partsN_two _).2 (by omega))) p).2.1; have hn2 := fun p => (nfA_ok (okm_rig hok ((partsN_two _).2 (by omega))) p).2.1; have b1 := okm_pos (okm_lef hok ((partsN_two _).2 (by omega))); have b2 := okm_pos (okm_rig hok ((partsN_two _).2 (by omega))); have a1 := hn1 true; have a2 := hn1 false; have a3 := hn2 true; have a4 := hn2 false; omega) | (have hn3 := fun p => (nfA_ok (okm_tail hok (partsN_1 (by omega))) p).2.1; have a1 := hn3 p; simp at *; omega) | (simp; omega)) nv (lef a) false (by first | rfl | simp) (by first | assumption | exact okm_lef hok ((partsN_two _).2 (by omega)) | exact okm_rig hok ((partsN_two _).2 (by omega)) | exact okm_tail hok (partsN_1 (by omega)) | exact hq.1) (by first | omega | (have hq2 := lenm_lef hok ((partsN_two _).2 (by omega)); have hn1 := fun p => (nfA_ok (okm_lef hok ((partsN_two _).2 (by omega))) p).2.1; have hn2 := fun p => (nfA_ok (okm_rig hok ((partsN_two _).2 (by omega))) p).2.1; have b1 := okm_pos (okm_lef hok ((partsN_two _).2 (by omega))); have b2 := okm_pos (okm_rig hok ((partsN_two _).2 (by omega))); have a1 := hn1 true; have a2 := hn1 false; have a3 := hn2 true; have a4 := hn2 false; omega) | (have hn3 := fun p => (nfA_ok (okm_tail hok (partsN_1 (by omega))) p).2.1; have a1 := hn3 p; simp at *; omega) | (simp; omega))) (by kernel_rfl) rfl (by kernel_rfl) ?_)
              refine R.go 1 (R.call true (ih ((rig a).length) (by first | omega | (have hq2 := lenm_lef hok ((partsN_two _).2 (by omega)); have hn1 := fun p => (nfA_ok (okm_lef hok ((partsN_two _).2 (by omega))) p).2.1; have hn2 := fun p => (nfA_ok (okm_rig hok ((partsN_two _).2 (by omega))) p).2.1; have b1 := okm_pos (okm_lef hok ((partsN_two _).2 (by omega))); have b2 := okm_pos (okm_rig hok ((partsN_two _).2 (by omega))); have a1 := hn1 true; have a2 := hn1 false; have a3 := hn2 true; have a4 := hn2 false; omega) | (have hn3 := fun p => (nfA_ok (okm_tail hok (partsN_1 (by omega))) p).2.1; have a1 := hn3 p; simp at *; omega) | (simp; omega)) nv (rig a) true (by first | rfl | simp) (by first | assumption | exact okm_lef hok ((partsN_two _).2 (by omega)) | exact okm_rig hok ((partsN_two _).2 (by omega)) | exact okm_tail hok (partsN_1 (by omega)) | exact hq.1) (by first | omega | (have hq2 := lenm_lef hok ((partsN_two _).2 (by omega)); have hn1 := fun p => (nfA_ok (okm_lef hok ((partsN_two _).2 (by omega))) p).2.1; have hn2 := fun p => (nfA_ok (okm_rig hok ((partsN_two _).2 (by omega))) p).2.1; have b1 := okm_pos (okm_lef hok ((partsN_two _).2 (by omega))); have b2 := okm_pos (okm_rig hok ((partsN_two _).2 (by omega))); have a1 := hn1 true; have a2 := hn1 false; have a3 := hn2 true; have a4 := hn2 false; omega) | (have hn3 := fun p => (nfA_ok (okm_tail hok (partsN_1 (by omega))) p).2.1; have a1 := hn3 p; simp at *; omega) | (simp; omega))) (by kernel_rfl) rfl (by kernel_rfl) ?_)
              refine R.call false (join_c 3 (nfA (lef a) false) (nfA (rig a) true) (by first | omega | (have hq2 := lenm_lef hok ((partsN_two _).2 (by omega)); have hn1 := fun p => (nfA_ok (okm_lef hok ((partsN_two _).2 (by omega))) p).2.1; have hn2 := fun p => (nfA_ok (okm_rig hok ((partsN_two _).2 (by omega))) p).2.1; have b1 := okm_pos (okm_lef hok ((partsN_two _).2 (by omega))); have b2 := okm_pos (okm_rig hok ((partsN_two _).2 (by omega))); have a1 := hn1 true; have a2 := hn1 false; have a3 := hn2 true; have a4 := hn2 false; omega) | (have hn3 := fun p => (nfA_ok (okm_tail hok (partsN_1 (by omega))) p).2.1; have a1 := hn3 p; simp at *; omega) | (simp; omega)) (by first | omega | (have hq2 := lenm_lef hok ((partsN_two _).2 (by omega)); have hn1 := fun p => (nfA_ok (okm_lef hok ((partsN_two _).2 (by omega))) p).2.1; have hn2 := fun p => (nfA_ok (okm_rig hok ((partsN_two _).2 (by omega))) p).2.1; have b1 := okm_pos (okm_lef hok ((partsN_two _).2 (by omega))); have b2 := okm_pos (okm_rig hok ((partsN_two _).2 (by omega))); have a1 := hn1 true; have a2 := hn1 false; have a3 := hn2 true; have a4 := hn2 false; omega) | (have hn3 := fun p => (nfA_ok (okm_tail hok (partsN_1 (by omega))) p).2.1; have a1 := hn3 p; simp at *; omega) | (simp; omega))) (by kernel_rfl) (ownA_closed eN_closed 89 2 ((3, 0) :: ((nfA (lef a) false) ++ (nfA (rig a) true)))) (by kernel_rfl) ?_
              refine R.go 2 (R.back (.ref 3) (frm 52 [(0, LN a), (1, .bool p), (4, .nil), (5, AI ((a.getD 0 (0, 0)).1)), (9, LN a), (10, .rptr [AI ((a.getD 0 (0, 0)).1), AI ((a.getD 0 (0, 0)).2)]), (11, .rptr [AI ((a.getD 0 (0, 0)).1), AI ((a.getD 0 (0, 0)).2)]), (12, AI ((a.getD 0 (0, 0)).1)), (13, AI ((a.getD 0 (0, 0)).1)), (14, .bool (decide (((a.getD 0 (0, 0)).1) = 0))), (15, .bool (decide (((a.getD 0 (0, 0)).1) = 0))), (21, .bool (decide (((a.getD 0 (0, 0)).1) = 1))), (22, .bool (decide (((a.getD 0 (0, 0)).1) = 1))), (26, .bool (decide (((a.getD 0 (0, 0)).1) = 4))), (27, .bool (decide (((a.getD 0 (0, 0)).1) = 4))), (28, LN a), (29, .bool p)]) (by kernel_rfl) (by kernel_rfl) (by kernel_rfl) ?_)
              exact R.go 2 (R.retE (ownA eN 89 2 ((3, 0) :: ((nfA (lef a) false) ++ (nfA (rig a) true)))) (by kernel_rfl) (by kernel_rfl) (by first | (apply congrArg (ownA eN _ 2); first | exact e_varT hok (by assumption) (by assumption) | exact e_varF hok (by assumption) (by assumption) | exact (e_bot hok (by assumption)).1 (by assumption) | exact (e_bot hok (by assumption)).2 (by assumption) | exact (e_i1 hok (by assumption) (by assumption) (by assumption)).1 (by assumption) | exact (e_i1 hok (by assumption) (by assumption) (by assumption)).2 (by assumption) | exact e_i2 hok (by assumption) (by assumption) (by assumption) | exact (e_i3 hok (by assumption) (by assumption)).1 (by assumption) | exact (e_i3 hok (by assumption) (by assumption)).2 (by assumption) | exact e_loop1 hok (by assumption) (by assumption) (by assumption) (by assumption) (by first | exact .inl ⟨rfl, by assumption⟩ | exact .inr ⟨rfl, by assumption⟩) | exact e_loop2 hok (by omega) (by assumption) (by assumption) (by assumption) (by assumption) (by first | exact .inl ⟨rfl, by assumption⟩ | exact .inr ⟨rfl, by assumption⟩)) | (exfalso; omega)))
            · refine R.go 5 (R.call true (ih ((lef a).length) (by first | omega | (have hq2 := lenm_lef hok ((partsN_two _).2 (by omega)); have hn1 := fun p => (nfA_ok (okm_lef hok ((partsN_two _).2 (by omega))) p).2.1; have hn2 := fun p => (nfA_ok (okm_rig hok ((partsN_two _).2 (by omega))) p).2.1; have b1 := okm_pos (okm_lef hok ((partsN_two _).2 (by omega))); have b2 := okm_pos (okm_rig hok ((partsN_two _).2 (by omega))); have a1 := hn1 true; have a2 := hn1 false; have a3 := hn2 true; have a4 := hn2 false; omega) | (have hn3 := fun p => (nfA_ok (okm_tail hok (partsN_1 (by omega))) p).2.1; have a1 := hn3 p; simp at *; omega) | (simp; omega)) nv (lef a) true (by first | rfl | simp) (by first | assumption | exact okm_lef hok ((partsN_two _).2 (by omega)) | exact okm_rig hok ((partsN_two _).2 (by omega)) | exact okm_tail hok (partsN_1 (by omega)) | exact hq.1) (by first | omega | (have hq2 := lenm_lef hok ((partsN_two _).2 (by omega)); have hn1 := fun p => (nfA_ok (okm_lef hok ((partsN_two _).2 (by omega))) p).2.1; have hn2 := fun p => (nfA_ok (okm_rig hok ((partsN_two _).2 (by omega))) p).2.1; have b1 := okm_pos (okm_lef hok ((partsN_two _).2 (by omega))); have b2 := okm_pos (okm_rig hok ((partsN_two _).2 (by omega))); have a1 := hn1 true; have a2 := hn1 false; have a3 := hn2 true; have a4 := hn2 false; omega) | (have hn3 := fun p => (nfA_ok (okm_tail hok (partsN_1 (by omega))) p).2.1; have a1 := hn3 p; simp at *; omega) | (simp; omega))) (by kernel_rfl) rfl (by kernel_rfl) ?_)
              refine R.go 1 (R.call true (ih ((rig a).length) (by first | omega | (have hq2 := lenm_lef hok ((partsN_two _).2 (by omega)); have hn1 := fun p => (nfA_ok (okm_lef hok ((partsN_two _).2 (by omega))) p).2.1; have hn2 := fun p => (nfA_ok (okm_rig hok ((partsN_two _).2 (by omega))) p).2.1; have b1 := okm_pos (okm_lef hok ((partsN_two _).2 (by omega))); have b2 := okm_pos (okm_rig hok ((partsN_two _).2 (by omega))); have a1 := hn1 true; have a2 := hn1 false; have a3 := hn2 true; have a4 := hn2 false; omega) | (have hn3 := fun p => (nfA_ok (okm_tail hok (partsN_1 (by omega))) p).2.1; have a1 := hn3 p; simp at *; omega) | (simp; omega)) nv (rig a) false (by first | rfl | simp) (by first | assumption | exact okm_lef hok ((partsN_two _).2 (by omega)) | exact okm_rig hok ((partsN_two _).2 (by omega)) | exact okm_tail hok (partsN_1 (by omega)) | exact hq.1) (by first | omega | (have hq2 := lenm_lef hok ((partsN_two _).2 (by omega)); have hn1 := fun p => (nfA_ok (okm_lef hok ((partsN_two _).2 (by omega))) p).2.1; have hn2 := fun p => (nfA_ok (okm_rig hok ((partsN_two _).2 (by omega))) p).2.1; have b1 := okm_pos (okm_lef hok ((partsN_two _).2 (by omega))); have b2 := okm_pos (okm_rig hok ((partsN_two _).2 (by omega))); have a1 := hn1 true; have a2 := hn1 false; have a3 := hn2 true; have a4 := hn2 false; omega) | (have hn3 := fun p => (nfA_ok (okm_tail hok (partsN_1 (by omega))) p).2.1; have a1 := hn3 p; simp at *; omega) | (simp; omega))) (by kernel_rfl) rfl (by kernel_rfl) ?_)
              refine R.call false (join_c 2 (nfA (lef a) true) (nfA (rig a) false) (by first | omega | (have hq2 := lenm_lef hok ((partsN_two _).2 (by omega)); have hn1 := fun p => (nfA_ok (okm_lef hok ((partsN_two _).2 (by omega))) p).2.1; have hn2 := fun p => (nfA_ok (okm_rig hok ((partsN_two _).2 (by omega))) p).2.1; have b1 := okm_pos (okm_lef hok ((partsN_two _).2 (by omega))); have b2 := okm_pos (okm_rig hok ((partsN_two _).2 (by omega))); have a1 := hn1 true; have a2 := hn1 false; have a3 := hn2 true; have a4 := hn2 false; omega) | (have hn3 := fun p => (nfA_ok (okm_tail hok (partsN_1 (by omega))) p).2.1; have a1 := hn3 p; simp at *; omega) | (simp; omega)) (by first | omega | (have hq2 := lenm_lef hok ((partsN_two _).2 (by omega)); have hn1 := fun p => (nfA_ok (okm_lef hok ((partsN_two _).2 (by omega))) p).2.1; have hn2 := fun p => (nfA_ok (okm_rig hok ((partsN_two _).2 (by omega))) p).2.1; have b1 := okm_pos (okm_lef hok ((partsN_two _).2 (by omega))); have b2 := okm_pos (okm_rig hok ((partsN_two _).2 (by omega))); have a1 := hn1 true; have a2 := hn1 false; have a3 := hn2 true; have a4 := hn2 false; omega) | (have hn3 := fun p => (nfA_ok (okm_tail hok (partsN_1 (by omega))) p).2.1; have a1 := hn3 p; simp at *; omega) | (simp; omega))) (by kernel_rfl) (ownA_closed eN_closed 89 2 ((2, 0) :: ((nfA (lef a) true) ++ (nfA (rig a) false)))) (by kernel_rfl) ?_
              refine R.go 2 (R.back (.ref 3) (frm 52 [(0, LN a), (1, .bool p), (4, .nil), (5, AI ((a.getD 0 (0, 0)).1)), (9, LN a), (10, .rptr [AI ((a.getD 0 (0, 0)).1), AI ((a.getD 0 (0, 0)).2)]), (11, .rptr [AI ((a.getD 0 (0, 0)).1), AI ((a.getD 0 (0, 0)).2)]), (12, AI ((a.getD 0 (0, 0)).1)), (13, AI ((a.getD 0 (0, 0)).1)), (14, .bool (decide (((a.getD 0 (0, 0)).1) = 0))), (15, .bool (decide (((a.getD 0 (0, 0)).1) = 0))), (21, .bool (decide (((a.getD 0 (0, 0)).1) = 1))), (22, .bool (decide (((a.getD 0 (0, 0)).1) = 1))), (26, .bool (decide (((a.getD 0 (0, 0)).1) = 4))), (27, .bool (decide (((a.getD 0 (0, 0)).1) = 4))), (28, LN a), (29, .bool p)]) (by kernel_rfl) (by kernel_rfl) (by kernel_rfl) ?_)
              exact R.go 2 (R.retE (ownA eN 89 2 ((2, 0) :: ((nfA (lef a) true) ++ (nfA (rig a) false)))) (by kernel_rfl) (by kernel_rfl) (by first | (apply congrArg (ownA eN _ 2); first | exact e_varT hok (by assumption) (by assumption) | exact e_varF hok (by assumption) (by assumption) | exact (e_bot hok (by assumption)).1 (by assumption) | exact (e_bot hok (by assumption)).2 (by assumption) | exact (e_i1 hok (by assumption) (by assumption) (by assumption)).1 (by assumption) | exact (e_i1 hok (by assumption) (by assumption) (by assumption)).2 (by assumption) | exact e_i2 hok (by assumption) (by assumption) (by assumption) | exact (e_i3 hok (by assumption) (by assumption)).1 (by assumption) | exact (e_i3 hok (by assumption) (by assumption)).2 (by assumption) | exact e_loop1 hok (by assumption) (by assumption) (by assumption) (by assumption) (by first | exact .inl ⟨rfl, by assumption⟩ | exact .inr ⟨rfl, by assumption⟩) | exact e_loop2 hok (by omega) (by assumption) (by assumption) (by assumption) (by assumption) (by first | exact .inl ⟨rfl, by assumption⟩ | exact .inr ⟨rfl, by assumption⟩)) | (exfalso; omega)))
      · have h12 := kind12 hok (by assumption) (by assumption)
        refine R.go 8 (R.condM (p) (by kernel_rfl) (fun c13 => ?_) (fun c13 => ?_))
        · refine R.go 2 (R.call true (dual_c ((a.getD 0 (0, 0)).1)) (by kernel_rfl) rfl (by kernel_rfl) ?_)
          refine R.go 12 ?_
          by_cases c14 : partsN (a.getD 0 (0, 0)).1 = 1
          · refine R.go 1 (R.call true (parts1_c nv a hok c14 (by first | omega | (have hq2 := lenm_lef hok ((partsN_two _).2 (by omega)); have hn1 := fun p => (nfA_ok (okm_lef hok ((partsN_two _).2 (by omega))) p).2.1; have hn2 := fun p => (nfA_ok (okm_rig hok ((partsN_two _).2 (by omega))) p).2.1; have b1 := okm_pos (okm_lef hok ((partsN_two _).2 (by omega))); have b2 := okm_pos (okm_rig hok ((partsN_two _).2 (by omega))); have a1 := hn1 true; have a2 := hn1 false; have a3 := hn2 true; have a4 := hn2 false; omega) | (have hn3 := fun p => (nfA_ok (okm_tail hok (partsN_1 (by omega))) p).2.1; have a1 := hn3 p; simp at *; omega) | (simp; omega))) (by kernel_rfl) rfl (by kernel_rfl) ?_)
            refine R.go 4 (R.loop ((fun | (i, o) => (⟨(frm 52 [(1, .bool p), (6, .ref 0), (39, .ref 1), (40, AI ([a.drop 1].length)), (41, AI (i : Int))]), [rowA eN 89 2 o, rowA eLN 28 1 [a.drop 1]]⟩ : St) : Nat × (List (Int × Int)) → St)) (fun | (i, o) => (i ≤ ([a.drop 1]).length) ∧ (o.length ≤ 1 + 900000 * i) ∧ (o = ((dualI ((a.getD 0 (0, 0)).1)), 0) :: joinTo (([a.drop 1]).map fun b => nfA b p) i)) (fun | (i, o) => ([a.drop 1]).length - i) (0, [(dualI ((a.getD 0 (0, 0)).1), 0)]) [1, 6, 39, 40, 41] none (by kernel_rfl) (by kernel_rfl) (by kernel_rfl) ⟨(by simp), (by simp), (by rfl)⟩ ?_)
            rintro ⟨i, o⟩ ⟨h18_1, h18_2, h18_3⟩ R15 N16
            have hP := mem_1 hok (by assumption)
            have hll : ([a.drop 1]).length ≤ 2 := by simp
            refine R.go 5 (R.cond ((i : Int) < ([a.drop 1].length : Int)) (by kernel_rfl) (fun c19 => ?_) (fun c19 => ?_))
            · refine R.go 5 (R.idxO 1 1 [a.drop 1].length i (i : Int) (by kernel_rfl) rfl (by first | omega | (have hq2 := lenm_lef hok ((partsN_two _).2 (by omega)); have hn1 := fun p => (nfA_ok (okm_lef hok ((partsN_two _).2 (by omega))) p).2.1; have hn2 := fun p => (nfA_ok (okm_rig hok ((partsN_two _).2 (by omega))) p).2.1; have b1 := okm_pos (okm_lef hok ((partsN_two _).2 (by omega))); have b2 := okm_pos (okm_rig hok ((partsN_two _).2 (by omega))); have a1 := hn1 true; have a2 := hn1 false; have a3 := hn2 true; have a4 := hn2 false; omega) | (have hn3 := fun p => (nfA_ok (okm_tail hok (partsN_1 (by omega))) p).2.1; have a1 := hn3 p; simp at *; omega) | (simp; omega)) (by kernel_rfl) ?_)
              refine R.ldE eLN 1 0 [a.drop 1] [] i (LN ([a.drop 1].getD i [])) (by kernel_rfl) eLN_len (by first | omega | (have hq2 := lenm_lef hok ((partsN_two _).2 (by omega)); have hn1 := fun p => (nfA_ok (okm_lef hok ((partsN_two _).2 (by omega))) p).2.1; have hn2 := fun p => (nfA_ok (okm_rig hok ((partsN_two _).2 (by omega))) p).2.1; have b1 := okm_pos (okm_lef hok ((partsN_two _).2 (by omega))); have b2 := okm_pos (okm_rig hok ((partsN_two _).2 (by omega))); have a1 := hn1 true; have a2 := hn1 false; have a3 := hn2 true; have a4 := hn2 false; omega) | (have hn3 := fun p => (nfA_ok (okm_tail hok (partsN_1 (by omega))) p).2.1; have a1 := hn3 p; simp at *; omega) | (simp; omega)) rfl (by kernel_rfl) ?_
              have hq := mem_getL hP (by assumption)
              have hqn := (nfA_ok hq.1 p).2.1
              refine R.go 6 (R.call true (ih (([a.drop 1].getD i []).length) (by first | omega | (have hq2 := lenm_lef hok ((partsN_two _).2 (by omega)); have hn1 := fun p => (nfA_ok (okm_lef hok ((partsN_two _).2 (by omega))) p).2.1; have hn2 := fun p => (nfA_ok (okm_rig hok ((partsN_two _).2 (by omega))) p).2.1; have b1 := okm_pos (okm_lef hok ((partsN_two _).2 (by omega))); have b2 := okm_pos (okm_rig hok ((partsN_two _).2 (by omega))); have a1 := hn1 true; have a2 := hn1 false; have a3 := hn2 true; have a4 := hn2 false; omega) | (have hn3 := fun p => (nfA_ok (okm_tail hok (partsN_1 (by omega))) p).2.1; have a1 := hn3 p; simp at *; omega) | (simp; omega)) nv ([a.drop 1].getD i []) p (by first | rfl | simp) (by first | assumption | exact okm_lef hok ((partsN_two _).2 (by omega)) | exact okm_rig hok ((partsN_two _).2 (by omega)) | exact okm_tail hok (partsN_1 (by omega)) | exact hq.1) (by first | omega | (simp <;> omega))) (by kernel_rfl) rfl (by kernel_rfl) ?_)
              refine R.app eN o (nfA ([a.drop 1].getD i []) p) 0 89 2 16 (by kernel_rfl) eN_one (by decide) (by first | omega | (simp <;> omega)) (by kernel_rfl) ?_
              refine R.go 4 (R.ar ((i : Int) + 1) (by kernel_rfl) (by first | omega | (have hq2 := lenm_lef hok ((partsN_two _).2 (by omega)); have hn1 := fun p => (nfA_ok (okm_lef hok ((partsN_two _).2 (by omega))) p).2.1; have hn2 := fun p => (nfA_ok (okm_rig hok ((partsN_two _).2 (by omega))) p).2.1; have b1 := okm_pos (okm_lef hok ((partsN_two _).2 (by omega))); have b2 := okm_pos (okm_rig hok ((partsN_two _).2 (by omega))); have a1 := hn1 true; have a2 := hn1 false; have a3 := hn2 true; have a4 := hn2 false; omega) | (have hn3 := fun p => (nfA_ok (okm_tail hok (partsN_1 (by omega))) p).2.1; have a1 := hn3 p; simp at *; omega) | (simp; omega)) (by first | omega | (have hq2 := lenm_lef hok ((partsN_two _).2 (by omega)); have hn1 := fun p => (nfA_ok (okm_lef hok ((partsN_two _).2 (by omega))) p).2.1; have hn2 := fun p => (nfA_ok (okm_rig hok ((partsN_two _).2 (by omega))) p).2.1; have b1 := okm_pos (okm_lef hok ((partsN_two _).2 (by omega))); have b2 := okm_pos (okm_rig hok ((partsN_two _).2 (by omega))); have a1 := hn1 true; have a2 := hn1 false; have a3 := hn2 true; have a4 := hn2 false; omega) | (have hn3 := fun p => (nfA_ok (okm_tail hok (partsN_1 (by omega))) p).2.1; have a1 := hn3 p; simp at *; omega) | (simp; omega)) (by kernel_rfl) ?_)
              exact R.go 2 (R.stop R15 (by kernel_rfl) (N16 (i + 1, o ++ (nfA ([a.drop 1].getD i []) p)) [1, 6, 39, 40, 41] (some [0, 1]) _ (by kernel_rfl) (by kernel_rfl) ⟨(by omega), (by (simp only [List.length_append]; omega)), (by exact join_step (by assumption) (by assumption))⟩ (by show (([a.drop 1]).length - (i + 1)) < (([a.drop 1]).length - i); omega)))
            · exact R.go 6 (R.retE (ownA eN 89 2 o) (by kernel_rfl) (by kernel_rfl) (by first | (apply congrArg (ownA eN _ 2); first | exact e_varT hok (by assumption) (by assumption) | exact e_varF hok (by assumption) (by assumption) | exact (e_bot hok (by assumption)).1 (by assumption) | exact (e_bot hok (by assumption)).2 (by assumption) | exact (e_i1 hok (by assumption) (by assumption) (by assumption)).1 (by assumption) | exact (e_i1 hok (by assumption) (by assumption) (by assumption)).2 (by assumption) | exact e_i2 hok (by assumption) (by assumption) (by assumption) | exact (e_i3 hok (by assumption) (by assumption)).1 (by assumption) | exact (e_i3 hok (by assumption) (by assumption)).2 (by assumption) | exact e_loop1 hok (by assumption) (by assumption) (by assumption) (by assumption) (by first | exact .inl ⟨rfl, by assumption⟩ | exact .inr ⟨rfl, by assumption⟩) | exact e_loop2 hok (by omega) (by assumption) (by assumption) (by assumption) (by assumption) (by first | exact .inl ⟨rfl, by assumption⟩ | exact .inr ⟨rfl, by assumption⟩)) | (exfalso; omega)))
          · refine R.go 1 (R.call true (parts2_c nv a hok (by first | omega | (have hq2 := lenm_lef hok ((partsN_two _).2 (by omega)); have hn1 := fun p => (nfA_ok (okm_lef hok ((partsN_two _).2 (by omega))) p).2.1; have hn2 := fun p => (nfA_ok (okm_rig hok ((partsN_two _).2 (by omega))) p).2.1; have b1 := okm_pos (okm_lef hok ((partsN_two _).2 (by omega))); have b2 := okm_pos (okm_rig hok ((partsN_two _).2 (by omega))); have a1 := hn1 true; have a2 := hn1 false; have a3 := hn2 true; have a4 := hn2 false; omega) | (have hn3 := fun p => (nfA_ok (okm_tail hok (partsN_1 (by omega))) p).2.1; have a1 := hn3 p; simp at *; omega) | (simp; omega)) (by first | omega | (have hq2 := lenm_lef hok ((partsN_two _).2 (by omega)); have hn1 := fun p => (nfA_ok (okm_lef hok ((partsN_two _).2 (by omega))) p).2.1; have hn2 := fun p => (nfA_ok (okm_rig hok ((partsN_two _).2 (by omega))) p).2.1; have b1 := okm_pos (okm_lef hok ((partsN_two _).2 (by omega))); have b2 := okm_pos (okm_rig hok ((partsN_two _).2 (by omega))); have a1 := hn1 true; have a2 := hn1 false; have a3 := hn2 true; have a4 := hn2 false; omega) | (have hn3 := fun p => (nfA_ok (okm_tail hok (partsN_1 (by omega))) p).2.1; have a1 := hn3 p; simp at *; omega) | (simp; omega))) (by kernel_rfl) rfl (by kernel_rfl) ?_)
            refine R.go 4 (R.loop ((fun | (i, o) => (⟨(frm 52 [(1, .bool p), (6, .ref 0), (39, .ref 1), (40, AI ([lef a, rig a].length)), (41, AI (i : Int))]), [rowA eN 89 2 o, rowA eLN 28 1 [lef a, rig a]]⟩ : St) : Nat × (List (Int × Int)) → St)) (fun | (i, o) => (i ≤ ([lef a, rig a]).length) ∧ (o.length ≤ 1 + 900000 * i) ∧ (o = ((dualI ((a.getD 0 (0, 0)).1)), 0) :: joinTo (([lef a, rig a]).map fun b => nfA b p) i)) (fun | (i, o) => ([lef a, rig a]).length - i) (0, [(dualI ((a.getD 0 (0, 0)).1), 0)]) [1, 6, 39, 40, 41] none (by kernel_rfl) (by kernel_rfl) (by kernel_rfl) ⟨(by simp), (by simp), (by rfl)⟩ ?_)
            rintro ⟨i, o⟩ ⟨h23_1, h23_2, h23_3⟩ R20 N21
            have hP := mem_2 hok (by omega)
            have hll : ([lef a, rig a]).length ≤ 2 := by simp
            refine R.go 5 (R.cond ((i : Int) < ([lef a, rig a].length : Int)) (by kernel_rfl) (fun c24 => ?_) (fun c24 => ?_))
            · refine R.go 5 (R.idxO 1 1 [lef a, rig a].length i (i : Int) (by kernel_rfl) rfl (by first | omega | (have hq2 := lenm_lef hok ((partsN_two _).2 (by omega)); have hn1 := fun p => (nfA_ok (okm_lef hok ((partsN_two _).2 (by omega))) p).2.1; have hn2 := fun p => (nfA_ok (okm_rig hok ((partsN_two _).2 (by omega))) p).2.1; have b1 := okm_pos (okm_lef hok ((partsN_two _).2 (by omega))); have b2 := okm_pos (okm_rig hok ((partsN_two _).2 (by omega))); have a1 := hn1 true; have a2 := hn1 false; have a3 := hn2 true; have a4 := hn2 false; omega) | (have hn3 := fun p => (nfA_ok (okm_tail hok (partsN_1 (by omega))) p).2.1; have a1 := hn3 p; simp at *; omega) | (simp; omega)) (by kernel_rfl) ?_)
              refine R.ldE eLN 1 0 [lef a, rig a] [] i (LN ([lef a, rig a].getD i [])) (by kernel_rfl) eLN_len (by first | omega | (have hq2 := lenm_lef hok ((partsN_two _).2 (by omega)); have hn1 := fun p => (nfA_ok (okm_lef hok ((partsN_two _).2 (by omega))) p).2.1; have hn2 := fun p => (nfA_ok (okm_rig hok ((partsN_two _).2 (by omega))) p).2.1; have b1 := okm_pos (okm_lef hok ((partsN_two _).2 (by omega))); have b2 := okm_pos (okm_rig hok ((partsN_two _).2 (by omega))); have a1 := hn1 true; have a2 := hn1 false; have a3 := hn2 true; have a4 := hn2 false; omega) | (have hn3 := fun p => (nfA_ok (okm_tail hok (partsN_1 (by omega))) p).2.1; have a1 := hn3 p; simp at *; omega) | (simp; omega)) rfl (by kernel_rfl) ?_
              have hq := mem_getL hP (by assumption)
              have hqn := (nfA_ok hq.1 p).2.1
              refine R.go 6 (R.call true (ih (([lef a, rig a].getD i []).length) (by first | omega | (have hq2 := lenm_lef hok ((partsN_two _).2 (by omega)); have hn1 := fun p => (nfA_ok (okm_lef hok ((partsN_two _).2 (by omega))) p).2.1; have hn2 := fun p => (nfA_ok (okm_rig hok ((partsN_two _).2 (by omega))) p).2.1; have b1 := okm_pos (okm_lef hok ((partsN_two _).2 (by omega))); have b2 := okm_pos (okm_rig hok ((partsN_two _).2 (by omega))); have a1 := hn1 true; have a2 := hn1 false; have a3 := hn2 true; have a4 := hn2 false; omega) | (have hn3 := fun p => (nfA_ok (okm_tail hok (partsN_1 (by omega))) p).2.1; have a1 := hn3 p; simp at *; omega) | (simp; omega)) nv ([lef a, rig a].getD i []) p (by first | rfl | simp) (by first | assumption | exact okm_lef hok ((partsN_two _).2 (by omega)) | exact okm_rig hok ((partsN_two _).2 (by omega)) | exact okm_tail hok (partsN_1 (by omega)) | exact hq.1) (by first | omega | (simp <;> omega))) (by kernel_rfl) rfl (by kernel_rfl) ?_)
              refine R.app eN o (nfA ([lef a, rig a].getD i []) p) 0 89 2 16 (by kernel_rfl) eN_one (by decide) (by first | omega | (simp <;> omega)) (by kernel_rfl) ?_
              refine R.go 4 (R.ar ((i : Int) + 1) (by kernel_rfl) (by first | omega | (have hq2 := lenm_lef hok ((partsN_two _).2 (by omega)); have hn1 := fun p => (nfA_ok (okm_lef hok ((partsN_two _).2 (by omega))) p).2.1; have hn2 := fun p => (nfA_ok (okm_rig hok ((partsN_two _).2 (by omega))) p).2.1; have b1 := okm_pos (okm_lef hok ((partsN_two _).2 (by omega))); have b2 := okm_pos (okm_rig hok ((partsN_two _).2 (by omega))); have a1 := hn1 true; have a2 := hn1 false; have a3 := hn2 true; have a4 := hn2 false; omega) | (have hn3 := fun p => (nfA_ok (okm_tail hok (partsN_1 (by omega))) p).2.1; have a1 := hn3 p; simp at *; omega) | (simp; omega)) (by first | omega | (have hq2 := lenm_lef hok ((partsN_two _).2 (by omega)); have hn1 := fun p => (nfA_ok (okm_lef hok ((partsN_two _).2 (by omega))) p).2.1; have hn2 := fun p => (nfA_ok (okm_rig hok ((partsN_two _).2 (by omega))) p).2.1; have b1 := okm_pos (okm_lef hok ((partsN_two _).2 (by omega))); have b2 := okm_pos (okm_rig hok ((partsN_two _).2 (by omega))); have a1 := hn1 true; have a2 := hn1 false; have a3 := hn2 true; have a4 := hn2 false; omega) | (have hn3 := fun p => (nfA_ok (okm_tail hok (partsN_1 (by omega))) p).2.1; have a1 := hn3 p; simp at *; omega) | (simp; omega)) (by kernel_rfl) ?_)
              exact R.go 2 (R.stop R20 (by kernel_rfl) (N21 (i + 1, o ++ (nfA ([lef a, rig a].getD i []) p)) [1, 6, 39, 40, 41] (some [0, 1]) _ (by kernel_rfl) (by kernel_rfl) ⟨(by omega), (by (simp only [List.length_append]; omega)), (by exact join_step (by assumption) (by assumption))⟩ (by show (([lef a, rig a]).length - (i + 1)) < (([lef a, rig a]).length - i); omega)))
            · exact R.go 6 (R.retE (ownA eN 89 2 o) (by kernel_rfl) (by kernel_rfl) (by first | (apply congrArg (ownA eN _ 2); first | exact e_varT hok (by assumption) (by assumption) | exact e_varF hok (by assumption) (by assumption) | exact (e_bot hok (by assumption)).1 (by assumption) | exact (e_bot hok (by assumption)).2 (by assumption) | exact (e_i1 hok (by assumption) (by assumption) (by assumption)).1 (by assumption) | exact (e_i1 hok (by assumption) (by assumption) (by assumption)).2 (by assumption) | exact e_i2 hok (by assumption) (by assumption) (by assumption) | exact (e_i3 hok (by assumption) (by assumption)).1 (by assumption) | exact (e_i3 hok (by assumption) (by assumption)).2 (by assumption) | exact e_loop1 hok (by assumption) (by assumption) (by assumption) (by assumption) (by first | exact .inl ⟨rfl, by assumption⟩ | exact .inr ⟨rfl, by assumption⟩) | exact e_loop2 hok (by omega) (by assumption) (by assumption) (by assumption) (by assumption) (by first | exact .inl ⟨rfl, by assumption⟩ | exact .inr ⟨rfl, by assumption⟩)) | (exfalso; omega)))
        · refine R.go 11 ?_
          by_cases c25 : partsN (a.getD 0 (0, 0)).1 = 1
          · refine R.go 1 (R.call true (parts1_c nv a hok c25 (by first | omega | (have hq2 := lenm_lef hok ((partsN_two _).2 (by omega)); have hn1 := fun p => (nfA_ok (okm_lef hok ((partsN_two _).2 (by omega))) p).2.1; have hn2 := fun p => (nfA_ok (okm_rig hok ((partsN_two _).2 (by omega))) p).2.1; have b1 := okm_pos (okm_lef hok ((partsN_two _).2 (by omega))); have b2 := okm_pos (okm_rig hok ((partsN_two _).2 (by omega))); have a1 := hn1 true; have a2 := hn1 false; have a3 := hn2 true; have a4 := hn2 false; omega) | (have hn3 := fun p => (nfA_ok (okm_tail hok (partsN_1 (by omega))) p).2.1; have a1 := hn3 p; simp at *; omega) | (simp; omega))) (by kernel_rfl) rfl (by kernel_rfl) ?_)
            refine R.go 4 (R.loop ((fun | (i, o) => (⟨(frm 52 [(1, .bool p), (6, .ref 0), (39, .ref 1), (40, AI ([a.drop 1].length)), (41, AI (i : Int))]), [rowA eN 89 2 o, rowA eLN 28 1 [a.drop 1]]⟩ : St) : Nat × (List (Int × Int)) → St)) (fun | (i, o) => (i ≤ ([a.drop 1]).length) ∧ (o.length ≤ 1 + 900000 * i) ∧ (o = (((a.getD 0 (0, 0)).1), 0) :: joinTo (([a.drop 1]).map fun b => nfA b p) i)) (fun | (i, o) => ([a.drop 1]).length - i) (0, [((a.getD 0 (0, 0)).1, 0)]) [1, 6, 39, 40, 41] none (by kernel_rfl) (by kernel_rfl) (by kernel_rfl) ⟨(by simp), (by simp), (by rfl)⟩ ?_)
            rintro ⟨i, o⟩ ⟨h29_1, h29_2, h29_3⟩ R26 N27
            have hP := mem_1 hok (by assumption)
            have hll : ([a.drop 1]).length ≤ 2 := by simp
            refine R.go 5 (R.cond ((i : Int) < ([a.drop 1].length : Int)) (by kernel_rfl) (fun c30 => ?_) (fun c30 => ?_))
            · refine R.go 5 (R.idxO 1 1 [a.drop 1].length i (i : Int) (by kernel_rfl) rfl (by first | omega | (have hq2 := lenm_lef hok ((partsN_two _).2 (by omega)); have hn1 := fun p => (nfA_ok (okm_lef hok ((partsN_two _).2 (by omega))) p).2.1; have hn2 := fun p => (nfA_ok (okm_rig hok ((partsN_two _).2 (by omega))) p).2.1; have b1 := okm_pos (okm_lef hok ((partsN_two _).2 (by omega))); have b2 := okm_pos (okm_rig hok ((partsN_two _).2 (by omega))); have a1 := hn1 true; have a2 := hn1 false; have a3 := hn2 true; have a4 := hn2 false; omega) | (have hn3 := fun p => (nfA_ok (okm_tail hok (partsN_1 (by omega))) p).2.1; have a1 := hn3 p; simp at *; omega) | (simp; omega)) (by kernel_rfl) ?_)
              refine R.ldE eLN 1 0 [a.drop 1] [] i (LN ([a.drop 1].getD i [])) (by kernel_rfl) eLN_len (by first | omega | (have hq2 := lenm_lef hok ((partsN_two _).2 (by omega)); have hn1 := fun p => (nfA_ok (okm_lef hok ((partsN_two _).2 (by omega))) p).2.1; have hn2 := fun p => (nfA_ok (okm_rig hok ((partsN_two _).2 (by omega))) p).2.1; have b1 := okm_pos (okm_lef hok ((partsN_two _).2 (by omega))); have b2 := okm_pos (okm_rig hok ((partsN_two _).2 (by omega))); have a1 := hn1 true; have a2 := hn1 false; have a3 := hn2 true; have a4 := hn2 false; omega) | (have hn3 := fun p => (nfA_ok (okm_tail hok (partsN_1 (by omega))) p).2.1; have a1 := hn3 p; simp at *; omega) | (simp; omega)) rfl (by kernel_rfl) ?_
              have hq := mem_getL hP (by assumption)
              have hqn := (nfA_ok hq.1 p).2.1
              refine R.go 6 (R.call true (ih (([a.drop 1].getD i []).length) (by first | omega | (have hq2 := lenm_lef hok ((partsN_two _).2 (by omega)); have hn1 := fun p => (nfA_ok (okm_lef hok ((partsN_two _).2 (by omega))) p).2.1; have hn2 := fun p => (nfA_ok (okm_rig hok ((partsN_two _).2 (by omega))) p).2.1; have b1 := okm_pos (okm_lef hok ((partsN_two _).2 (by omega))); have b2 := okm_pos (okm_rig hok ((partsN_two _).2 (by omega))); have a1 := hn1 true; have a2 := hn1 false; have a3 := hn2 true; have a4 := hn2 false; omega) | (have hn3 := fun p => (nfA_ok (okm_tail hok (partsN_1 (by omega))) p).2.1; have a1 := hn3 p; simp at *; omega) | (simp; omega)) nv ([a.drop 1].getD i []) p (by first | rfl | simp) (by first | assumption | exact okm_lef hok ((partsN_two _).2 (by omega)) | exact okm_rig hok ((partsN_two _).2 (by omega)) | exact okm_tail hok (partsN_1 (by omega)) | exact hq.1) (by first | omega | (simp <;> omega))) (by kernel_rfl) rfl (by kernel_rfl) ?_)
              refine R.app eN o (nfA ([a.drop 1].getD i []) p) 0 89 2 16 (by kernel_rfl) eN_one (by decide) (by first | omega | (simp <;> omega)) (by kernel_rfl) ?_
              refine R.go 4 (R.ar ((i : Int) + 1) (by kernel_rfl) (by first | omega | (have hq2 := lenm_lef hok ((partsN_two _).2 (by omega)); have hn1 := fun p => (nfA_ok (okm_lef hok ((partsN_two _).2 (by omega))) p).2.1; have hn2 := fun p => (nfA_ok (okm_rig hok ((partsN_two _).2 (by omega))) p).2.1; have b1 := okm_pos (okm_lef hok ((partsN_two _).2 (by omega))); have b2 := okm_pos (okm_rig hok ((partsN_two _).2 (by omega))); have a1 := hn1 true; have a2 := hn1 false; have a3 := hn2 true; have a4 := hn2 false; omega) | (have hn3 := fun p => (nfA_ok (okm_tail hok (partsN_1 (by omega))) p).2.1; have a1 := hn3 p; simp at *; omega) | (simp; omega)) (by first | omega | (have hq2 := lenm_lef hok ((partsN_two _).2 (by omega)); have hn1 := fun p => (nfA_ok (okm_lef hok ((partsN_two _).2 (by omega))) p).2.1; have hn2 := fun p => (nfA_ok (okm_rig hok ((partsN_two _).2 (by omega))) p).2.1; have b1 := okm_pos (okm_lef hok ((partsN_two _).2 (by omega))); have b2 := okm_pos (okm_rig hok ((partsN_two _).2 (by omega))); have a1 := hn1 true; have a2 := hn1 false; have a3 := hn2 true; have a4 := hn2 false; omega) | (have hn3 := fun p => (nfA_ok (okm_tail hok (partsN_1 (by omega))) p).2.1; have a1 := hn3 p; simp at *; omega) | (simp; omega)) (by kernel_rfl) ?_)
              exact R.go 2 (R.stop R26 (by kernel_rfl) (N27 (i + 1, o ++ (nfA ([a.drop 1].getD i []) p)) [1, 6, 39, 40, 41] (some [0, 1]) _ (by kernel_rfl) (by kernel_rfl) ⟨(by omega), (by (simp only [List.length_append]; omega)), (by exact join_step (by assumption) (by assumption))⟩ (by show (([a.drop 1]).length - (i + 1)) < (([a.drop 1]).length - i); omega)))
            · exact R.go 6 (R.retE (ownA eN 89 2 o) (by kernel_rfl) (by kernel_rfl) (by first | (apply congrArg (ownA eN _ 2); first | exact e_varT hok (by assumption) (by assumption) | exact e_varF hok (by assumption) (by assumption) | exact (e_bot hok (by assumption)).1 (by assumption) | exact (e_bot hok (by assumption)).2 (by assumption) | exact (e_i1 hok (by assumption) (by assumption) (by assumption)).1 (by assumption) | exact (e_i1 hok (by assumption) (by assumption) (by assumption)).2 (by assumption) | exact e_i2 hok (by assumption) (by assumption) (by assumption) | exact (e_i3 hok (by assumption) (by assumption)).1 (by assumption) | exact (e_i3 hok (by assumption) (by assumption)).2 (by assumption) | exact e_loop1 hok (by assumption) (by assumption) (by assumption) (by assumption) (by first | exact .inl ⟨rfl, by assumption⟩ | exact .inr ⟨rfl, by assumption⟩) | exact e_loop2 hok (by omega) (by assumption) (by assumption) (by assumption) (by assumption) (by first | exact .inl ⟨rfl, by assumption⟩ | exact .inr ⟨rfl, by assumption⟩)) | (exfalso; omega)))
          · refine R.go 1 (R.call true (parts2_c nv a hok (by first | omega | (have hq2 := lenm_lef hok ((partsN_two _).2 (by omega)); have hn1 := fun p => (nfA_ok (okm_lef hok ((partsN_two _).2 (by omega))) p).2.1; have hn2 := fun p => (nfA_ok (okm_rig hok ((partsN_two _).2 (by omega))) p).2.1; have b1 := okm_pos (okm_lef hok ((partsN_two _).2 (by omega))); have b2 := okm_pos (okm_rig hok ((partsN_two _).2 (by omega))); have a1 := hn1 true; have a2 := hn1 false; have a3 := hn2 true; have a4 := hn2 false; omega) | (have hn3 := fun p => (nfA_ok (okm_tail hok (partsN_1 (by omega))) p).2.1; have a1 := hn3 p; simp at *; omega) | (simp; omega)) (by first | omega | (have hq2 := lenm_lef hok ((partsN_two _).2 (by omega)); have hn1 := fun p => (nfA_ok (okm_lef hok ((partsN_two _).2 (by omega))) p).2.1; have hn2 := fun p => (nfA_ok (okm_rig hok ((partsN_two _).2 (by omega))) p).2.1; have b1 := okm_pos (okm_lef hok ((partsN_two _).2 (by omega))); have b2 := okm_pos (okm_rig hok ((partsN_two _).2 (by omega))); have a1 := hn1 true; have a2 := hn1 false; have a3 := hn2 true; have a4 := hn2 false; omega) | (have hn3 := fun p => (nfA_ok (okm_tail hok (partsN_1 (by omega))) p).2.1; have a1 := hn3 p; simp at *; omega) | (simp; omega))) (by kernel_rfl) rfl (by kernel_rfl) ?_)
            refine R.go 4 (R.loop ((fun | (i, o) => (⟨(frm 52 [(1, .bool p), (6, .ref 0), (39, .ref 1), (40, AI ([lef a, rig a].length)), (41, AI (i : Int))]), [rowA eN 89 2 o, rowA eLN 28 1 [lef a, rig a]]⟩ : St) : Nat × (List (Int × Int)) → St)) (fun | (i, o) => (i ≤ ([lef a, rig a]).length) ∧ (o.length ≤ 1 + 900000 * i) ∧ (o = (((a.getD 0 (0, 0)).1), 0) :: joinTo (([lef a, rig a]).map fun b => nfA b p) i)) (fun | (i, o) => ([lef a, rig a]).length - i) (0, [((a.getD 0 (0, 0)).1, 0)]) [1, 6, 39, 40, 41] none (by kernel_rfl) (by kernel_rfl) (by kernel_rfl) ⟨(by simp), (by simp), (by rfl)⟩ ?_)
            rintro ⟨i, o⟩ ⟨h34_1, h34_2, h34_3⟩ R31 N32
            have hP := mem_2 hok (by omega)
            have hll : ([lef a, rig a]).length ≤ 2 := by simp
            refine R.go 5 (R.cond ((i : Int) < ([lef a, rig a].length : Int)) (by kernel_rfl) (fun c35 => ?_) (fun c35 => ?_))
            · refine R.go 5 (R.idxO 1 1 [lef a, rig a].length i (i : Int) (by kernel_rfl) rfl (by first | omega | (have hq2 := lenm_lef hok ((partsN_two _).2 (by omega)); have hn1 := fun p => (nfA_ok (okm_lef hok ((partsN_two _).2 (by omega))) p).2.1; have hn2 := fun p => (nfA_ok (okm_rig hok ((partsN_two _).2 (by omega))) p).2.1; have b1 := okm_pos (okm_lef hok ((partsN_two _).2 (by omega))); have b2 := okm_pos (okm_rig hok ((partsN_two _).2 (by omega))); have a1 := hn1 true; have a2 := hn1 false; have a3 := hn2 true; have a4 := hn2 false; omega) | (have hn3 := fun p => (nfA_ok (okm_tail hok (partsN_1 (by omega))) p).2.1; have a1 := hn3 p; simp at *; omega) | (simp; omega)) (by kernel_rfl) ?_)
              refine R.ldE eLN 1 0 [lef a, rig a] [] i (LN ([lef a, rig a].getD i [])) (by kernel_rfl) eLN_len (by first | omega | (have hq2 := lenm_lef hok ((partsN_two _).2 (by omega)); have hn1 := fun p => (nfA_ok (okm_lef hok ((partsN_two _).2 (by omega))) p).2.1; have hn2 := fun p => (nfA_ok (okm_rig hok ((partsN_two _).2 (by omega))) p).2.1; have b1 := okm_pos (okm_lef hok ((partsN_two _).2 (by omega))); have b2 := okm_pos (okm_rig hok ((partsN_two _).2 (by omega))); have a1 := hn1 true; have a2 := hn1 false; have a3 := hn2 true; have a4 := hn2 false; omega) | (have hn3 := fun p => (nfA_ok (okm_tail hok (partsN_1 (by omega))) p).2.1; have a1 := hn3 p; simp at *; omega) | (simp; omega)) rfl (by kernel_rfl) ?_
              have hq := mem_getL hP (by assumption)
              have hqn := (nfA_ok hq.1 p).2.1
              refine R.go 6 (R.call true (ih (([lef a, rig a].getD i []).length) (by first | omega | (have hq2 := lenm_lef hok ((partsN_two _).2 (by omega)); have hn1 := fun p => (nfA_ok (okm_lef hok ((partsN_two _).2 (by omega))) p).2.1; have hn2 := fun p => (nfA_ok (okm_rig hok ((partsN_two _).2 (by omega))) p).2.1; have b1 := okm_pos (okm_lef hok ((partsN_two _).2 (by omega))); have b2 := okm_pos (okm_rig hok ((partsN_two _).2 (by omega))); have a1 := hn1 true; have a2 := hn1 false; have a3 := hn2 true; have a4 := hn2 false; omega) | (have hn3 := fun p => (nfA_ok (okm_tail hok (partsN_1 (by omega))) p).2.1; have a1 := hn3 p; simp at *; omega) | (simp; omega)) nv ([lef a, rig a].getD i []) p (by first | rfl | simp) (by first | assumption | exact okm_lef hok ((partsN_two _).2 (by omega)) | exact okm_rig hok ((partsN_two _).2 (by omega)) | exact okm_tail hok (partsN_1 (by omega)) | exact hq.1) (by first | omega | (simp <;> omega))) (by kernel_rfl) rfl (by kernel_rfl) ?_)
              refine R.app eN o (nfA ([lef a, rig a].getD i []) p) 0 89 2 16 (by kernel_rfl) eN_one (by decide) (by first | omega | (simp <;> omega)) (by kernel_rfl) ?_
              refine R.go 4 (R.ar ((i : Int) + 1) (by kernel_rfl) (by first | omega | (have hq2 := lenm_lef hok ((partsN_two _).2 (by omega)); have hn1 := fun p => (nfA_ok (okm_lef hok ((partsN_two _).2 (by omega))) p).2.1; have hn2 := fun p => (nfA_ok (okm_rig hok ((partsN_two _).2 (by omega))) p).2.1; have b1 := okm_pos (okm_lef hok ((partsN_two _).2 (by omega))); have b2 := okm_pos (okm_rig hok ((partsN_two _).2 (by omega))); have a1 := hn1 true; have a2 := hn1 false; have a3 := hn2 true; have a4 := hn2 false; omega) | (have hn3 := fun p => (nfA_ok (okm_tail hok (partsN_1 (by omega))) p).2.1; have a1 := hn3 p; simp at *; omega) | (simp; omega)) (by first | omega | (have hq2 := lenm_lef hok ((partsN_two _).2 (by omega)); have hn1 := fun p => (nfA_ok (okm_lef hok ((partsN_two _).2 (by omega))) p).2.1; have hn2 := fun p => (nfA_ok (okm_rig hok ((partsN_two _).2 (by omega))) p).2.1; have b1 := okm_pos (okm_lef hok ((partsN_two _).2 (by omega))); have b2 := okm_pos (okm_rig hok ((partsN_two _).2 (by omega))); have a1 := hn1 true; have a2 := hn1 false; have a3 := hn2 true; have a4 := hn2 false; omega) | (have hn3 := fun p => (nfA_ok (okm_tail hok (partsN_1 (by omega))) p).2.1; have a1 := hn3 p; simp at *; omega) | (simp; omega)) (by kernel_rfl) ?_)
              exact R.go 2 (R.stop R31 (by kernel_rfl) (N32 (i + 1, o ++ (nfA ([lef a, rig a].getD i []) p)) [1, 6, 39, 40, 41] (some [0, 1]) _ (by kernel_rfl) (by kernel_rfl) ⟨(by omega), (by (simp only [List.length_append]; omega)), (by exact join_step (by assumption) (by assumption))⟩ (by show (([lef a, rig a]).length - (i + 1)) < (([lef a, rig a]).length - i); omega)))
            · exact R.go 6 (R.retE (ownA eN 89 2 o) (by kernel_rfl) (by kernel_rfl) (by first | (apply congrArg (ownA eN _ 2); first | exact e_varT hok (by assumption) (by assumption) | exact e_varF hok (by assumption) (by assumption) | exact (e_bot hok (by assumption)).1 (by assumption) | exact (e_bot hok (by assumption)).2 (by assumption) | exact (e_i1 hok (by assumption) (by assumption) (by assumption)).1 (by assumption) | exact (e_i1 hok (by assumption) (by assumption) (by assumption)).2 (by assumption) | exact e_i2 hok (by assumption) (by assumption) (by assumption) | exact (e_i3 hok (by assumption) (by assumption)).1 (by assumption) | exact (e_i3 hok (by assumption) (by assumption)).2 (by assumption) | exact e_loop1 hok (by assumption) (by assumption) (by assumption) (by assumption) (by first | exact .inl ⟨rfl, by assumption⟩ | exact .inr ⟨rfl, by assumption⟩) | exact e_loop2 hok (by omega) (by assumption) (by assumption) (by assumption) (by assumption) (by first | exact .inl ⟨rfl, by assumption⟩ | exact .inr ⟨rfl, by assumption⟩)) | (exfalso; omega)))

end Go.Proofs.Ytejaikeemahobaa


/-! The machine's rules: slices without spare room; ways that meet again. -/
namespace Go.Abs
open Go.RowKit Go.ChangeShapes Go.WideShapes Go.Deep

section
variable {rd : Option Nat} {P : Program} {m : M} {Q : Exit → St → Prop} {α : Type}

/-! ### Rows of slices, all nil at first -/
/-! ### A part of a tuple that may come first -/
def exM (i : Nat) (v : AV) (m : M) : M :=
  match m.ks with
  | .any ops listed n :: ks => match ops[i]? with
    | some o => ⟨.any ops (listed.setIfInBounds i true) (n - 1) :: ks, ⟨putF m.st.fr o.dst v, m.st.hp⟩⟩
    | none => m
  | _ => m

/-! ### Ways that meet again -/
def meetQ (S : St) : Exit → St → Prop := fun e st => e = .normal ∧ st = S
def mtAt (m : M) : Bool :=
  match m.ks with
  | .code _ :: _ => true
  | _ => false

theorem R.meet (S : St) (h : mtAt m = true) (h1 : Runs rd P ⟨m.ks.take 1, m.st⟩ (meetQ S)) (h2 : Runs rd P ⟨m.ks.tail, S⟩ Q) : Runs rd P m Q := by
  obtain ⟨ks, st⟩ := m
  unfold mtAt at h
  simp only [runs_iff] at h h1 h2 ⊢
  split at h
  · rename_i c ks'
    simp only [List.take_succ_cons, List.take_zero, List.tail_cons, RunsK] at h1 h2 ⊢
    refine h1.mono ?_
    rintro e st' ⟨rfl, rfl⟩
    exact h2
  · cases h

end

/-! ### Rows of rows of pairs, handed to a law -/
section
variable {H : Type} {enc : TypeId × Value → H} {P : Program} {w : World} {base : Nat} {spare : Nat → Bool} {held : Bool}

end

end Go.Abs


/-! Rows of bytes; drawn regions with tags of one's own. -/
namespace Go.Abs
open Go.RowKit Go.ChangeShapes Go.WideShapes Go.Deep

def eB (n : Int) : List AV := [.int .u8 n]
def LB (xs : List Int) : AV := .lst 1 xs.length (rows eB xs)
theorem eB_len (x : Int) : (eB x).length = 1 := rfl
section
variable {H : Type} {enc : TypeId × Value → H} {P : Program} {w : World} {base : Nat} {spare : Nat → Bool} {held : Bool}

theorem RelL_bytes {Z : Nat → Prop} {μ : List Value} : ∀ xs : List Int, RelL w Z μ (rows eB xs) (xs.map fun n => .int .u8 n)
  | [] => RelL.nil
  | x :: xs => RelL.cons (by simp [Rel]) (RelL_bytes xs)

theorem trod_bytes {t e : TypeId} {fuel : Nat} {cs : List Value} {x : DataW H × List MemPlace} (ht : P.underlying t = some (.slice e)) (he : P.underlying e = some (.int .u8)) (hc : P.cellsOf e = 1)
    (h : DataW.trod enc P w base spare held fuel t cs = some x) : ∃ v, cs = [v] ∧ ∃ xs : List Int, xs.length ≤ maxLen ∧ (∀ j, j < xs.length → 0 ≤ xs.getD j 0 ∧ xs.getD j 0 ≤ 255) ∧ Rel w (Z0 w) [] (LB xs) v := by
  rcases open_slice1 ht hc h with ⟨rfl, _⟩ | ⟨a, len, cap, m, n, V, D, Pl, rfl, _, hl, hm, hmm, _, hx⟩
  · exact ⟨_, rfl, [], Nat.zero_le _, fun j hj => absurd hj (by simp), none, 0, [], rfl, rfl, Nat.le_refl _, fun h => absurd rfl h, RelL.nil⟩
  · have hlm : len ≤ m := by rw [hmm]; split <;> omega
    obtain ⟨xs, h1, h2⟩ := choose_list (n := len) (p := fun i y => w.cell? (a.add i) = some (.int .u8 y) ∧ 0 ≤ y ∧ y ≤ 255) fun i hi => by
      obtain ⟨g1, g2⟩ := hx i (by omega)
      obtain ⟨y, hy, _, hw⟩ := DataW.trod_int he g2
      simp at hy
      simp [Lit.wf, IntKind.min, IntKind.max, IntKind.signed, IntKind.bits] at hw
      exact ⟨y, by rw [g1, hy], by omega, by omega⟩
    refine ⟨_, rfl, xs, by omega, fun j hj => (h2 j (by omega)).2, ⟨some a, cap, xs.map fun n => .int .u8 n, by rw [h1], by rw [rows_length eB_len, h1], by omega, fun hne => ⟨a, rfl, ?_, fun j u hj => ?_⟩, RelL_bytes xs⟩⟩
    · have : 0 < len := by
        rw [← h1]
        cases xs with
        | nil => exact absurd rfl hne
        | cons x xs => simp
      have := not_Z0 (h2 0 this).1
      simpa [Addr.add] using this
    · rw [List.getElem?_map, Option.map_eq_some_iff] at hj
      obtain ⟨y, hy, rfl⟩ := hj
      have hj := (List.getElem?_eq_some_iff.1 hy).1
      rw [(h2 j (by omega)).1, List.getD_eq_getElem?_getD, hy]
      rfl

theorem open_bytes {r : Reach} {b0 : Nat} {t e : TypeId} {v : Value} {d : DataW H} {ps : List MemPlace} (ht : P.underlying t = some (.slice e)) (he : P.underlying e = some (.int .u8)) (hc : P.cellsOf e = 1)
    (hval : Value.okWide P w r b0 t v) (hd : DataW.Trod enc P w base spare held t v d ps) : ∃ xs : List Int, xs.length ≤ maxLen ∧ (∀ j, j < xs.length → 0 ≤ xs.getD j 0 ∧ xs.getD j 0 ≤ 255) ∧ Rel w (Z0 w) [] (LB xs) v := by
  obtain ⟨A, n, c, rfl⟩ := okWide_slice ht hval
  obtain ⟨fuel, hf⟩ := hd
  obtain ⟨v, h1, h2⟩ := trod_bytes ht he hc hf
  simp [Value.cells] at h1
  subst h1
  exact h2
end

section
variable {rd : Option Nat} {P : Program} {m : M} {Q : Exit → St → Prop}
end
end Go.Abs
