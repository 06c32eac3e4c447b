/- Which lists are formulas; LadderValue of both packages. -/
import Derived.Test.YtfkdkhlimdkehaaGreatF03
import Derived.Test.YtfkdkhlimdkehaaGreatSymV
namespace Go.Proofs.YtfkdkhlimdkehaaGreat
open Go.RowKit Go.Abs

def okN (x : Int × Int) : Bool := decide ((x.1 = 0 ∧ 0 ≤ x.2 ∧ x.2 ≤ 5) ∨ (1 ≤ x.1 ∧ x.1 ≤ 6 ∧ x.2 = 0))
def badN (x : Int × Int) : Bool := !okN x
def modN (x : Int × Int) : Bool := decide (x.1 = 5 ∨ x.1 = 6)
def treeB (a : List (Int × Int)) : Bool := decide (0 < a.length) && a.all okN && decide (peX 1 a 0 = a.length)
def isF (a : List (Int × Int)) : Bool := decide (a.length ≤ 40) && treeB a
theorem okN_eq (k v : Int) : okN (k, v) = true ↔ (k = 0 ∧ 0 ≤ v ∧ v ≤ 5) ∨ (1 ≤ k ∧ k ≤ 6 ∧ v = 0) := by simp [okN]
theorem okN_no (x : Int × Int) : okN x = false ↔ ¬ ((x.1 = 0 ∧ 0 ≤ x.2 ∧ x.2 ≤ 5) ∨ (1 ≤ x.1 ∧ x.1 ≤ 6 ∧ x.2 = 0)) := by unfold okN; exact decide_eq_false_iff_not
theorem okN_yes (x : Int × Int) : okN x = true ↔ ((x.1 = 0 ∧ 0 ≤ x.2 ∧ x.2 ≤ 5) ∨ (1 ≤ x.1 ∧ x.1 ≤ 6 ∧ x.2 = 0)) := by unfold okN; exact decide_eq_true_iff
theorem mod_no (x : Int × Int) : modN x = false ↔ ¬ (x.1 = 5 ∨ x.1 = 6) := by unfold modN; exact decide_eq_false_iff_not
theorem mod_yes (x : Int × Int) : modN x = true ↔ (x.1 = 5 ∨ x.1 = 6) := by unfold modN; exact decide_eq_true_iff
theorem bad_no (x : Int × Int) : badN x = false ↔ ((x.1 = 0 ∧ 0 ≤ x.2 ∧ x.2 ≤ 5) ∨ (1 ≤ x.1 ∧ x.1 ≤ 6 ∧ x.2 = 0)) := by unfold badN; rw [Bool.not_eq_false', okN_yes]
theorem bad_yes (x : Int × Int) : badN x = true ↔ ¬ ((x.1 = 0 ∧ 0 ≤ x.2 ∧ x.2 ≤ 5) ∨ (1 ≤ x.1 ∧ x.1 ≤ 6 ∧ x.2 = 0)) := by unfold badN; rw [Bool.not_eq_true', okN_no]
theorem all_any (a : List (Int × Int)) : a.all okN = !a.any badN := by
  induction a with
  | nil => rfl
  | cons x a ih => simp [List.all_cons, List.any_cons, ih, badN]
/-- Where p holds first. -/
def fidx (p : Int × Int → Bool) : List (Int × Int) → Int → Int
  | [], _ => -1
  | x :: l, i => if p x = true then i else fidx p l (i + 1)
theorem fidx_hit {p : Int × Int → Bool} {a : List (Int × Int)} {i : Nat} (h : i < a.length) (hp : p (a.getD i (0, 0)) = true) : fidx p (a.drop i) i = i := by
  rw [drop_cons a i h, fidx, if_pos hp]
theorem fidx_miss {p : Int × Int → Bool} {a : List (Int × Int)} {i : Nat} (h : i < a.length) (hp : p (a.getD i (0, 0)) = false) : fidx p (a.drop i) i = fidx p (a.drop (i + 1)) ((i + 1 : Nat) : Int) := by
  rw [drop_cons a i h, fidx, if_neg (by rw [hp]; decide)]
  rfl
theorem fidx_end {p : Int × Int → Bool} {a : List (Int × Int)} {i : Nat} (h : a.length ≤ i) : fidx p (a.drop i) i = -1 := by
  rw [List.drop_eq_nil_of_le h, fidx]
theorem fidx_any {p : Int × Int → Bool} : ∀ {a : List (Int × Int)} {i : Int}, 0 ≤ i → (0 ≤ fidx p a i ↔ a.any p = true)
  | [], i, h => by simp [fidx]
  | x :: a, i, h => by
    have ih := fidx_any (p := p) (a := a) (i := i + 1) (by omega)
    rw [fidx, List.any_cons]
    by_cases hp : p x = true
    · simp [hp, h]
    · rw [if_neg hp, ih]; simp [hp]
theorem any_hit {p : Int × Int → Bool} {a : List (Int × Int)} {i : Nat} (h : i < a.length) (hp : p (a.getD i (0, 0)) = true) : (a.drop i).any p = true := by
  rw [drop_cons a i h, List.any_cons, hp, Bool.true_or]
theorem any_miss {p : Int × Int → Bool} {a : List (Int × Int)} {i : Nat} (h : i < a.length) (hp : p (a.getD i (0, 0)) = false) : (a.drop i).any p = (a.drop (i + 1)).any p := by
  rw [drop_cons a i h, List.any_cons, hp, Bool.false_or]
theorem any_end {p : Int × Int → Bool} {a : List (Int × Int)} {i : Nat} (h : a.length ≤ i) : (a.drop i).any p = false := by
  rw [List.drop_eq_nil_of_le h]; rfl
theorem tree_no {a : List (Int × Int)} (h : a.any badN = true) : treeB a = false := by simp [treeB, all_any, h]
theorem tree_yes {a : List (Int × Int)} (h : a.any badN = false) : treeB a = (decide (0 < a.length) && decide (peX 1 a 0 = a.length)) := by simp [treeB, all_any, h]
/-- The variables of the first nodes. -/
def vmTo (a : List (Int × Int)) : Nat → Int
  | 0 => 0
  | i + 1 => if (a.getD i (0, 0)).1 = 0 then bor (vmTo a i) (shl64 1 (a.getD i (0, 0)).2) else vmTo a i
theorem bor63 : ∀ m s : Fin 64, 0 ≤ bor (m.val : Int) (s.val : Int) ∧ bor (m.val : Int) (s.val : Int) ≤ 63 ∧ (m.val : Int) ≤ bor (m.val : Int) (s.val : Int) ∧ (s.val : Int) ≤ bor (m.val : Int) (s.val : Int) := by decide +kernel
theorem bor_63 {m s : Int} (h0 : 0 ≤ m) (h1 : m ≤ 63) (h2 : 0 ≤ s) (h3 : s ≤ 63) : 0 ≤ bor m s ∧ bor m s ≤ 63 ∧ m ≤ bor m s ∧ s ≤ bor m s := by
  obtain ⟨m, rfl⟩ := Int.eq_ofNat_of_zero_le h0
  obtain ⟨s, rfl⟩ := Int.eq_ofNat_of_zero_le h2
  exact bor63 ⟨m, by omega⟩ ⟨s, by omega⟩
theorem shl6 : ∀ v : Fin 6, 1 ≤ shl64 1 (v.val : Int) ∧ shl64 1 (v.val : Int) ≤ 63 ∧ (shl64 1 (v.val : Int) ≤ 1 → v.val = 0) := by decide +kernel
theorem shl_6 {v : Int} (h0 : 0 ≤ v) (h1 : v ≤ 5) : 1 ≤ shl64 1 v ∧ shl64 1 v ≤ 63 ∧ (shl64 1 v ≤ 1 → v = 0) := by
  obtain ⟨v, rfl⟩ := Int.eq_ofNat_of_zero_le h0
  obtain ⟨a, b, c⟩ := shl6 ⟨v, by omega⟩
  exact ⟨a, b, fun h => by have := c h; simp at this; omega⟩
theorem okN_get {a : List (Int × Int)} (h : a.any badN = false) {j : Nat} (hj : j < a.length) : okN (a.getD j (0, 0)) = true := by
  have h1 : a.getD j (0, 0) ∈ a := by
    rw [List.getD_eq_getElem?_getD, List.getElem?_eq_getElem hj, Option.getD_some]
    exact List.getElem_mem hj
  have h2 : a.all okN = true := by rw [all_any, h]; rfl
  exact List.all_eq_true.1 h2 _ h1
theorem vm_rng {a : List (Int × Int)} (h : a.any badN = false) : ∀ i, i ≤ a.length → 0 ≤ vmTo a i ∧ vmTo a i ≤ 63
  | 0, _ => ⟨Int.le_refl _, by simp [vmTo]⟩
  | i + 1, hi => by
    have ih := vm_rng h i (by omega)
    have hn := (okN_yes _).1 (okN_get h (j := i) (by omega))
    rw [vmTo]
    split
    · have hs := shl_6 (v := (a.getD i (0, 0)).2) (by omega) (by omega)
      have hb := bor_63 ih.1 ih.2 (by omega) hs.2.1
      exact ⟨hb.1, hb.2.1⟩
    · exact ih
theorem vm_one {a : List (Int × Int)} (h : a.any badN = false) : ∀ i, i ≤ a.length → vmTo a i ≤ 1 → ∀ j, j < i → (a.getD j (0, 0)).1 = 0 → (a.getD j (0, 0)).2 = 0
  | 0, _, _, j, hj, _ => by omega
  | i + 1, hi, hv, j, hj, h0 => by
    have hr := vm_rng h i (by omega)
    have hn := (okN_yes _).1 (okN_get h (j := i) (by omega))
    rw [vmTo] at hv
    split at hv
    · have hs := shl_6 (v := (a.getD i (0, 0)).2) (by omega) (by omega)
      have hb := bor_63 hr.1 hr.2 (by omega) hs.2.1
      by_cases hji : j = i
      · subst hji; exact hs.2.2 (by omega)
      · exact vm_one h i (by omega) (by omega) j (by omega) h0
    · by_cases hji : j = i
      · subst hji; contradiction
      · exact vm_one h i (by omega) hv j (by omega) h0
/-- The bits of a mask. -/
def bitsL : Nat → Int → Int → List Int
  | 0, _, _ => []
  | f + 1, m, i => if 0 < m then (if m % 2 = 1 then i :: bitsL f (m / 2) (i + 1) else bitsL f (m / 2) (i + 1)) else []
theorem bits_one (f : Nat) (m i : Int) (h : 0 < m) (h1 : m % 2 = 1) : bitsL (f + 1) m i = i :: bitsL f (m / 2) (i + 1) := by rw [bitsL, if_pos h, if_pos h1]
theorem bits_no (f : Nat) (m i : Int) (h : 0 < m) (h1 : ¬ m % 2 = 1) : bitsL (f + 1) m i = bitsL f (m / 2) (i + 1) := by rw [bitsL, if_pos h, if_neg h1]
theorem bits_end (f : Nat) (m i : Int) (h : ¬ 0 < m) : bitsL f m i = [] := by cases f with | zero => rfl | succ f => rw [bitsL, if_neg h]
theorem half_lt {m : Int} {f : Nat} (h : m < 2 ^ (f + 1)) : m / 2 < 2 ^ f := by rw [Int.pow_succ] at h; omega
theorem bits6 : ∀ m : Fin 64, (1 < (bitsL 6 (m.val : Int) 0).length ∨ ((bitsL 6 (m.val : Int) 0).length = 1 ∧ (bitsL 6 (m.val : Int) 0).getD 0 0 ≠ 0)) ↔ 1 < m.val := by decide +kernel
theorem bits_6 {m : Int} (h0 : 0 ≤ m) (h1 : m ≤ 63) : (1 < (bitsL 6 m 0).length ∨ ((bitsL 6 m 0).length = 1 ∧ (bitsL 6 m 0).getD 0 0 ≠ 0)) ↔ 1 < m := by
  obtain ⟨m, rfl⟩ := Int.eq_ofNat_of_zero_le h0
  have := bits6 ⟨m, by omega⟩
  simp only at this
  rw [this]; omega
def lcode (a : List (Int × Int)) : Int := if isF a = true then (if a.any modN = false ∧ vmTo a a.length ≤ 1 then 0 else 5) else 1
def lval (a : List (Int × Int)) : Int := if lcode a = 0 then fv impI [1] a else 0
theorem isF_parts {a : List (Int × Int)} (h : isF a = true) : a.length ≤ 40 ∧ 0 < a.length ∧ a.any badN = false ∧ peX 1 a 0 = a.length := by
  simp only [isF, treeB, all_any, Bool.and_eq_true, decide_eq_true_eq, Bool.not_eq_true'] at h
  exact ⟨h.1, h.2.1.1, h.2.1.2, h.2.2⟩
theorem pe_of_peX {a : List (Int × Int)} (h : peX 1 a 0 = a.length) : pe 1 a = some a.length := by
  unfold peX at h
  rw [List.drop_zero] at h
  cases hp : pe 1 a with
  | none => rw [hp] at h; simp only at h; omega
  | some n => rw [hp] at h; simp only at h; congr 1; omega
theorem lcode_1 {a : List (Int × Int)} (h : isF a = false) : 1 = lcode a := by simp [lcode, h]
theorem lcode_5 {a : List (Int × Int)} (h : isF a = true) (h2 : (!a.any modN) = false) : 5 = lcode a := by
  rw [Bool.not_eq_false'] at h2
  unfold lcode
  rw [if_pos h, if_neg fun h3 => by rw [h2] at h3; exact absurd h3.1 (by decide)]
theorem lcode_5v {a : List (Int × Int)} (h : isF a = true) (h2 : 1 < vmTo a a.length) : 5 = lcode a := by
  unfold lcode
  rw [if_pos h, if_neg fun h3 => by omega]
theorem lcode_0 {a : List (Int × Int)} (h : isF a = true) (h2 : (!a.any modN) = true) (h3 : ¬ 1 < vmTo a a.length) : 0 = lcode a := by
  rw [Bool.not_eq_true'] at h2
  unfold lcode
  rw [if_pos h, if_pos ⟨h2, by omega⟩]
theorem lcode_ok {a : List (Int × Int)} (h : lcode a = 0) : OKF 1 a ∧ a.length ≤ 40 := by
  unfold lcode at h
  split at h
  · rename_i hF
    split at h
    · rename_i hm
      obtain ⟨h1, h2, h3, h4⟩ := isF_parts hF
      refine ⟨⟨pe_of_peX h4, fun x hx => ?_⟩, h1⟩
      obtain ⟨j, hj, rfl⟩ := List.getElem_of_mem hx
      have hg : a[j] = a.getD j (0, 0) := by rw [List.getD_eq_getElem?_getD, List.getElem?_eq_getElem hj]; rfl
      have hn := (okN_yes _).1 (okN_get h3 hj)
      have hmod : modN (a.getD j (0, 0)) = false := by
        have := List.any_eq_false.1 hm.1 _ hx
        rw [hg] at this
        simpa using this
      have hmod' : ¬ ((a.getD j (0, 0)).1 = 5 ∨ (a.getD j (0, 0)).1 = 6) := by unfold modN at hmod; exact of_decide_eq_false hmod
      have hv := vm_one h3 a.length (Nat.le_refl _) hm.2 j hj
      rw [hg]
      refine ⟨by omega, by omega, fun h0 => ?_⟩
      have := hv h0
      omega
    · omega
  · omega

theorem isVariable_c (v : Int) : CallA Tryz.prog 154 [AI v] (.bool (inR v 0 5)) := by
  refine CallA.of Tryz.func154 rfl (by kernel_rfl) ?_
  refine R.go 7 (R.call true (inRange_c v 0 5) (by kernel_rfl) rfl (by kernel_rfl) ?_)
  exact R.go 2 (R.retE (.bool (inR v 0 5)) (by kernel_rfl) (by kernel_rfl) (by rfl))

theorem isNode_c (k : Int) (v : Int) : CallA Tryz.prog 114 [.agg [AI k, AI v]] (.bool (okN (k, v))) := by
  refine CallA.of Tryz.func114 rfl (by kernel_rfl) ?_
  refine R.go 12 (R.cond (k = 0) (by kernel_rfl) (fun c1 => ?_) (fun c1 => ?_))
  · refine R.go 4 (R.call true (isVariable_c v) (by kernel_rfl) rfl (by kernel_rfl) ?_)
    exact R.go 2 (R.retE (.bool (inR v 0 5)) (by kernel_rfl) (by kernel_rfl) (by first | (apply congrArg AV.bool; rw [Bool.eq_iff_iff]; simp only [okN, badN, modN, inR, decide_eq_true_eq, Bool.and_eq_true, Bool.not_eq_true', decide_eq_false_iff_not, Bool.and_eq_false_iff, true_iff, false_iff, iff_true, iff_false, reduceCtorEq] at *; omega) | (exfalso; omega)))
  · refine R.go 5 (R.call true (inRange_c k 1 6) (by kernel_rfl) rfl (by kernel_rfl) ?_)
    refine R.go 1 ?_
    refine (Bool.eq_false_or_eq_true (inR k 1 6)).elim (fun c2 => ?_) (fun c2 => ?_)
    · refine R.want (inR k 1 6) true (by kernel_rfl) c2 ?_
      refine R.go 1 (R.want (inR k 1 6) true (by kernel_rfl) c2 ?_)
      refine R.go 1 (R.want (inR k 1 6) true (by kernel_rfl) c2 ?_)
      refine R.go 1 (R.pick (inR k 1 6) true (by kernel_rfl) c2 (by kernel_rfl) ?_)
      exact R.go 2 (R.retE (.bool (decide (v = 0))) (by kernel_rfl) (by kernel_rfl) (by first | (apply congrArg AV.bool; rw [Bool.eq_iff_iff]; simp only [okN, badN, modN, inR, decide_eq_true_eq, Bool.and_eq_true, Bool.not_eq_true', decide_eq_false_iff_not, Bool.and_eq_false_iff, true_iff, false_iff, iff_true, iff_false, reduceCtorEq] at *; omega) | (exfalso; omega)))
    · refine R.skp (inR k 1 6) true (by kernel_rfl) c2 (by kernel_rfl) ?_
      refine R.skp (inR k 1 6) true (by kernel_rfl) c2 (by kernel_rfl) ?_
      refine R.skp (inR k 1 6) true (by kernel_rfl) c2 (by kernel_rfl) ?_
      refine R.pick (inR k 1 6) false (by kernel_rfl) c2 (by kernel_rfl) ?_
      exact R.go 2 (R.retE (.bool false) (by kernel_rfl) (by kernel_rfl) (by first | (apply congrArg AV.bool; rw [Bool.eq_iff_iff]; simp only [okN, badN, modN, inR, decide_eq_true_eq, Bool.and_eq_true, Bool.not_eq_true', decide_eq_false_iff_not, Bool.and_eq_false_iff, true_iff, false_iff, iff_true, iff_false, reduceCtorEq] at *; omega) | (exfalso; omega)))

theorem isFormula1_c (k : Int) (v : Int) : CallA Tryz.prog 113 [.agg [AI k, AI v]] (.bool (badN (k, v))) := by
  refine CallA.of Tryz.func113 rfl (by kernel_rfl) ?_
  refine R.go 8 (R.call true (isNode_c k v) (by kernel_rfl) rfl (by kernel_rfl) ?_)
  exact R.go 3 (R.retE (.bool (!(okN (k, v)))) (by kernel_rfl) (by kernel_rfl) (by first | (rfl) | (exfalso; omega)))

theorem isModal_c (k : Int) : CallA Tryz.prog 118 [AI k] (.bool (decide (k = 5 ∨ k = 6))) := by
  refine CallA.of Tryz.func118 rfl (by kernel_rfl) ?_
  refine R.go 9 ?_
  by_cases c1 : k = 5
  · refine R.skp (decide (k = 5)) false (by kernel_rfl) (dT c1) (by kernel_rfl) ?_
    refine R.skp (decide (k = 5)) false (by kernel_rfl) (dT c1) (by kernel_rfl) ?_
    refine R.pick (decide (k = 5)) true (by kernel_rfl) (dT c1) (by kernel_rfl) ?_
    exact R.go 2 (R.retE (.bool true) (by kernel_rfl) (by kernel_rfl) (by first | (apply congrArg AV.bool; rw [Bool.eq_iff_iff]; simp only [okN, badN, modN, inR, decide_eq_true_eq, Bool.and_eq_true, Bool.not_eq_true', decide_eq_false_iff_not, Bool.and_eq_false_iff, true_iff, false_iff, iff_true, iff_false, reduceCtorEq] at *; omega) | (exfalso; omega)))
  · refine R.want (decide (k = 5)) false (by kernel_rfl) (dF c1) ?_
    refine R.go 1 (R.want (decide (k = 5)) false (by kernel_rfl) (dF c1) ?_)
    refine R.go 1 (R.pick (decide (k = 5)) false (by kernel_rfl) (dF c1) (by kernel_rfl) ?_)
    exact R.go 2 (R.retE (.bool (decide (k = 6))) (by kernel_rfl) (by kernel_rfl) (by first | (apply congrArg AV.bool; rw [Bool.eq_iff_iff]; simp only [okN, badN, modN, inR, decide_eq_true_eq, Bool.and_eq_true, Bool.not_eq_true', decide_eq_false_iff_not, Bool.and_eq_false_iff, true_iff, false_iff, iff_true, iff_false, reduceCtorEq] at *; omega) | (exfalso; omega)))

theorem isPlain1_c (k : Int) (v : Int) : CallA Tryz.prog 117 [.agg [AI k, AI v]] (.bool (modN (k, v))) := by
  refine CallA.of Tryz.func117 rfl (by kernel_rfl) ?_
  refine R.go 9 (R.call true (isModal_c k) (by kernel_rfl) rfl (by kernel_rfl) ?_)
  exact R.go 2 (R.retE (.bool (decide (k = 5 ∨ k = 6))) (by kernel_rfl) (by kernel_rfl) (by first | (rfl) | (exfalso; omega)))

theorem index_badN_c (a : List (Int × Int)) (hl : a.length ≤ 1000000000) : CallA Tryz.prog 153 [LN a, .fn 113 []] (AI (fidx badN a 0)) := by
  refine CallA.of Tryz.func153 rfl (by kernel_rfl) ?_
  refine R.go 12 (R.loop (fun (i : Nat) => (⟨(frm 19 [(0, LN a), (1, .fn 113 []), (7, AI a.length), (8, AI (i : Int))]), []⟩ : St)) (fun (i : Nat) => (i ≤ a.length) ∧ (fidx badN a 0 = fidx badN (a.drop i) i)) (fun (i : Nat) => a.length - i) 0 [0, 1, 7, 8] none (by kernel_rfl) (by kernel_rfl) (by kernel_rfl) ⟨(by omega), (by rfl)⟩ ?_)
  rintro i ⟨h3_1, h3_2⟩ R1 N2
  refine R.go 5 (R.cond ((i : Int) < (a.length : Int)) (by kernel_rfl) (fun c4 => ?_) (fun c4 => ?_))
  · refine R.go 13 (R.idx eN a (0, 0) i (i : Int) (by kernel_rfl) rfl eN_len (by omega) (by kernel_rfl) ?_)
    refine R.go 1 (R.call true (isFormula1_c ((a.getD i (0, 0)).1) ((a.getD i (0, 0)).2)) (by kernel_rfl) rfl (by kernel_rfl) ?_)
    refine R.go 1 (R.condB (badN (((a.getD i (0, 0)).1), ((a.getD i (0, 0)).2))) (by kernel_rfl) (fun c5 => ?_) (fun c5 => ?_))
    · exact R.go 5 (R.retE (AI (i : Int)) (by kernel_rfl) (by kernel_rfl) (by first | (apply congrArg AI; rw [‹fidx badN a 0 = _›]; first | exact (fidx_end (by omega)).symm | exact (fidx_hit (by omega) (by assumption)).symm) | (exfalso; omega)))
    · refine R.go 3 (R.ar ((i : Int) + 1) (by kernel_rfl) (by omega) (by omega) (by kernel_rfl) ?_)
      exact R.go 2 (R.stop R1 (by kernel_rfl) (N2 (i + 1) [0, 1, 7, 8] none _ (by kernel_rfl) (by kernel_rfl) ⟨(by omega), (by rw [‹fidx badN a 0 = _›]; exact fidx_miss (by omega) (by assumption))⟩ (by show (a.length - (i + 1)) < (a.length - i); omega)))
  · exact R.go 5 (R.retE (AI (-1)) (by kernel_rfl) (by kernel_rfl) (by first | (apply congrArg AI; rw [‹fidx badN a 0 = _›]; first | exact (fidx_end (by omega)).symm | exact (fidx_hit (by omega) (by assumption)).symm) | (exfalso; omega)))

theorem contains_badN_c (a : List (Int × Int)) (hl : a.length ≤ 1000000000) : CallA Tryz.prog 112 [LN a, .fn 113 []] (.bool (a.any badN)) := by
  refine CallA.of Tryz.func112 rfl (by kernel_rfl) ?_
  refine R.go 8 (R.call true (index_badN_c a hl) (by kernel_rfl) rfl (by kernel_rfl) ?_)
  exact R.go 3 (R.retE (.bool (decide ((fidx badN a 0) ≥ 0))) (by kernel_rfl) (by kernel_rfl) (by first | (apply congrArg AV.bool; rw [Bool.eq_iff_iff, decide_eq_true_iff]; exact fidx_any (Int.le_refl 0)) | (exfalso; omega)))

theorem index_modN_c (a : List (Int × Int)) (hl : a.length ≤ 1000000000) : CallA Tryz.prog 153 [LN a, .fn 117 []] (AI (fidx modN a 0)) := by
  refine CallA.of Tryz.func153 rfl (by kernel_rfl) ?_
  refine R.go 12 (R.loop (fun (i : Nat) => (⟨(frm 19 [(0, LN a), (1, .fn 117 []), (7, AI a.length), (8, AI (i : Int))]), []⟩ : St)) (fun (i : Nat) => (i ≤ a.length) ∧ (fidx modN a 0 = fidx modN (a.drop i) i)) (fun (i : Nat) => a.length - i) 0 [0, 1, 7, 8] none (by kernel_rfl) (by kernel_rfl) (by kernel_rfl) ⟨(by omega), (by rfl)⟩ ?_)
  rintro i ⟨h3_1, h3_2⟩ R1 N2
  refine R.go 5 (R.cond ((i : Int) < (a.length : Int)) (by kernel_rfl) (fun c4 => ?_) (fun c4 => ?_))
  · refine R.go 13 (R.idx eN a (0, 0) i (i : Int) (by kernel_rfl) rfl eN_len (by omega) (by kernel_rfl) ?_)
    refine R.go 1 (R.call true (isPlain1_c ((a.getD i (0, 0)).1) ((a.getD i (0, 0)).2)) (by kernel_rfl) rfl (by kernel_rfl) ?_)
    refine R.go 1 (R.condB (modN (((a.getD i (0, 0)).1), ((a.getD i (0, 0)).2))) (by kernel_rfl) (fun c5 => ?_) (fun c5 => ?_))
    · exact R.go 5 (R.retE (AI (i : Int)) (by kernel_rfl) (by kernel_rfl) (by first | (apply congrArg AI; rw [‹fidx modN a 0 = _›]; first | exact (fidx_end (by omega)).symm | exact (fidx_hit (by omega) (by assumption)).symm) | (exfalso; omega)))
    · refine R.go 3 (R.ar ((i : Int) + 1) (by kernel_rfl) (by omega) (by omega) (by kernel_rfl) ?_)
      exact R.go 2 (R.stop R1 (by kernel_rfl) (N2 (i + 1) [0, 1, 7, 8] none _ (by kernel_rfl) (by kernel_rfl) ⟨(by omega), (by rw [‹fidx modN a 0 = _›]; exact fidx_miss (by omega) (by assumption))⟩ (by show (a.length - (i + 1)) < (a.length - i); omega)))
  · exact R.go 5 (R.retE (AI (-1)) (by kernel_rfl) (by kernel_rfl) (by first | (apply congrArg AI; rw [‹fidx modN a 0 = _›]; first | exact (fidx_end (by omega)).symm | exact (fidx_hit (by omega) (by assumption)).symm) | (exfalso; omega)))

theorem contains_modN_c (a : List (Int × Int)) (hl : a.length ≤ 1000000000) : CallA Tryz.prog 112 [LN a, .fn 117 []] (.bool (a.any modN)) := by
  refine CallA.of Tryz.func112 rfl (by kernel_rfl) ?_
  refine R.go 8 (R.call true (index_modN_c a hl) (by kernel_rfl) rfl (by kernel_rfl) ?_)
  exact R.go 3 (R.retE (.bool (decide ((fidx modN a 0) ≥ 0))) (by kernel_rfl) (by kernel_rfl) (by first | (apply congrArg AV.bool; rw [Bool.eq_iff_iff, decide_eq_true_iff]; exact fidx_any (Int.le_refl 0)) | (exfalso; omega)))

theorem isPlain_c (a : List (Int × Int)) (hl : a.length ≤ 1000000000) : CallA Tryz.prog 91 [LN a] (.bool (!(a.any modN))) := by
  refine CallA.of Tryz.func91 rfl (by kernel_rfl) ?_
  refine R.go 7 (R.call true (contains_modN_c a hl) (by kernel_rfl) rfl (by kernel_rfl) ?_)
  exact R.go 3 (R.retE (.bool (!(a.any modN))) (by kernel_rfl) (by kernel_rfl) (by rfl))

theorem isFormula_c (a : List (Int × Int)) (hl : a.length ≤ 1000000000) : CallA Tryz.prog 89 [LN a] (.bool (isF a)) := by
  refine CallA.of Tryz.func89 rfl (by kernel_rfl) ?_
  refine R.go 10 ?_
  by_cases c1 : (a.length : Int) ≥ 1
  · refine R.want (decide ((a.length : Int) ≥ 1)) true (by kernel_rfl) (dT c1) ?_
    refine R.go 1 (R.want (decide ((a.length : Int) ≥ 1)) true (by kernel_rfl) (dT c1) ?_)
    refine R.go 1 (R.want (decide ((a.length : Int) ≥ 1)) true (by kernel_rfl) (dT c1) ?_)
    refine R.go 1 (R.pick (decide ((a.length : Int) ≥ 1)) true (by kernel_rfl) (dT c1) (by kernel_rfl) ?_)
    refine R.go 1 ?_
    by_cases c2 : (a.length : Int) ≤ 40
    · refine R.want (decide ((a.length : Int) ≤ 40)) true (by kernel_rfl) (dT c2) ?_
      refine R.go 1 (R.want (decide ((a.length : Int) ≤ 40)) true (by kernel_rfl) (dT c2) ?_)
      refine R.call true (contains_badN_c a hl) (by kernel_rfl) rfl (by kernel_rfl) ?_
      refine R.want (decide ((a.length : Int) ≤ 40)) true (by kernel_rfl) (dT c2) ?_
      refine R.go 1 (R.pick (decide ((a.length : Int) ≤ 40)) true (by kernel_rfl) (dT c2) (by kernel_rfl) ?_)
      refine R.go 1 ?_
      refine (Bool.eq_false_or_eq_true (a.any badN)).elim (fun c3 => ?_) (fun c3 => ?_)
      · refine R.skp (!(a.any badN)) true (by kernel_rfl) (bnF c3) (by kernel_rfl) ?_
        refine R.skp (!(a.any badN)) true (by kernel_rfl) (bnF c3) (by kernel_rfl) ?_
        refine R.skp (!(a.any badN)) true (by kernel_rfl) (bnF c3) (by kernel_rfl) ?_
        refine R.skp (!(a.any badN)) true (by kernel_rfl) (bnF c3) (by kernel_rfl) ?_
        refine R.skp (!(a.any badN)) true (by kernel_rfl) (bnF c3) (by kernel_rfl) ?_
        refine R.pick (!(a.any badN)) false (by kernel_rfl) (bnF c3) (by kernel_rfl) ?_
        exact R.go 2 (R.retE (.bool false) (by kernel_rfl) (by kernel_rfl) (by first | (apply congrArg AV.bool; simp only [isF, treeB, all_any]; first | (rw [decide_eq_true (show a.length ≤ 40 by omega), decide_eq_true (show 0 < a.length by omega)]; simp [*]; done) | (rw [decide_eq_false (show ¬ a.length ≤ 40 by omega)]; rfl) | (rw [decide_eq_false (show ¬ 0 < a.length by omega)]; simp)) | (exfalso; omega)))
      · refine R.want (!(a.any badN)) true (by kernel_rfl) (bnT c3) ?_
        refine R.go 1 (R.want (!(a.any badN)) true (by kernel_rfl) (bnT c3) ?_)
        refine R.call true (partEnd_c a 0 (by first | omega | (simp <;> omega)) hl) (by kernel_rfl) rfl (by kernel_rfl) ?_
        refine R.want (!(a.any badN)) true (by kernel_rfl) (bnT c3) ?_
        refine R.go 1 (R.want (!(a.any badN)) true (by kernel_rfl) (bnT c3) ?_)
        refine R.go 1 (R.want (!(a.any badN)) true (by kernel_rfl) (bnT c3) ?_)
        refine R.go 1 (R.pick (!(a.any badN)) true (by kernel_rfl) (bnT c3) (by kernel_rfl) ?_)
        exact R.go 2 (R.retE (.bool (decide ((peX 1 a 0) = (a.length : Int)))) (by kernel_rfl) (by kernel_rfl) (by first | (apply congrArg AV.bool; simp only [isF, treeB, all_any]; first | (rw [decide_eq_true (show a.length ≤ 40 by omega), decide_eq_true (show 0 < a.length by omega)]; simp [*]; done) | (rw [decide_eq_false (show ¬ a.length ≤ 40 by omega)]; rfl) | (rw [decide_eq_false (show ¬ 0 < a.length by omega)]; simp)) | (exfalso; omega)))
    · refine R.skp (decide ((a.length : Int) ≤ 40)) true (by kernel_rfl) (dF c2) (by kernel_rfl) ?_
      refine R.skp (decide ((a.length : Int) ≤ 40)) true (by kernel_rfl) (dF c2) (by kernel_rfl) ?_
      refine R.skp (decide ((a.length : Int) ≤ 40)) true (by kernel_rfl) (dF c2) (by kernel_rfl) ?_
      refine R.pick (decide ((a.length : Int) ≤ 40)) false (by kernel_rfl) (dF c2) (by kernel_rfl) ?_
      exact R.go 9 (R.retE (.bool false) (by kernel_rfl) (by kernel_rfl) (by first | (apply congrArg AV.bool; simp only [isF, treeB, all_any]; first | (rw [decide_eq_true (show a.length ≤ 40 by omega), decide_eq_true (show 0 < a.length by omega)]; simp [*]; done) | (rw [decide_eq_false (show ¬ a.length ≤ 40 by omega)]; rfl) | (rw [decide_eq_false (show ¬ 0 < a.length by omega)]; simp)) | (exfalso; omega)))
  · refine R.skp (decide ((a.length : Int) ≥ 1)) true (by kernel_rfl) (dF c1) (by kernel_rfl) ?_
    refine R.skp (decide ((a.length : Int) ≥ 1)) true (by kernel_rfl) (dF c1) (by kernel_rfl) ?_
    refine R.skp (decide ((a.length : Int) ≥ 1)) true (by kernel_rfl) (dF c1) (by kernel_rfl) ?_
    refine R.pick (decide ((a.length : Int) ≥ 1)) false (by kernel_rfl) (dF c1) (by kernel_rfl) ?_
    exact R.go 14 (R.retE (.bool false) (by kernel_rfl) (by kernel_rfl) (by first | (apply congrArg AV.bool; simp only [isF, treeB, all_any]; first | (rw [decide_eq_true (show a.length ≤ 40 by omega), decide_eq_true (show 0 < a.length by omega)]; simp [*]; done) | (rw [decide_eq_false (show ¬ a.length ≤ 40 by omega)]; rfl) | (rw [decide_eq_false (show ¬ 0 < a.length by omega)]; simp)) | (exfalso; omega)))

theorem variableMask_c (a : List (Int × Int)) (hb : a.any badN = false) (hl : a.length ≤ 40) : CallA Tryz.prog 92 [LN a] (AI (vmTo a a.length)) := by
  refine CallA.of Tryz.func92 rfl (by kernel_rfl) ?_
  refine R.go 16 (R.loop ((fun | (i, m) => (⟨(frm 22 [(3, AI m), (6, LN a), (7, AI a.length), (8, AI (i : Int))]), []⟩ : St) : Nat × Int → St)) (fun | (i, m) => (i ≤ a.length) ∧ (m = vmTo a i)) (fun | (i, m) => a.length - i) (0, 0) [3, 6, 7, 8] none (by kernel_rfl) (by kernel_rfl) (by kernel_rfl) ⟨(by omega), (by rfl)⟩ ?_)
  rintro ⟨i, m⟩ ⟨h4_1, h4_2⟩ R1 N2
  have hk : i < a.length → (a.getD i (0, 0)).1 = 0 → 0 ≤ (a.getD i (0, 0)).2 ∧ (a.getD i (0, 0)).2 ≤ 5 := fun h h0 => by
    have hn := (okN_yes _).1 (okN_get hb h)
    omega
  refine R.go 5 (R.cond ((i : Int) < (a.length : Int)) (by kernel_rfl) (fun c5 => ?_) (fun c5 => ?_))
  · refine R.go 5 (R.idx eN a (0, 0) i (i : Int) (by kernel_rfl) rfl eN_len (by omega) (by kernel_rfl) ?_)
    refine R.go 10 (R.cond (((a.getD i (0, 0)).1) = 0) (by kernel_rfl) (fun c6 => ?_) (fun c6 => ?_))
    · refine R.go 4 (R.shl 1 ((a.getD i (0, 0)).2) (by kernel_rfl) (by omega) (by kernel_rfl) ?_)
      refine R.go 5 (R.ar ((i : Int) + 1) (by kernel_rfl) (by omega) (by omega) (by kernel_rfl) ?_)
      exact R.go 2 (R.stop R1 (by kernel_rfl) (N2 (i + 1, bor m (shl64 1 ((a.getD i (0, 0)).2))) [3, 6, 7, 8] (some []) _ (by kernel_rfl) (by kernel_rfl) ⟨(by omega), (by first | (rw [vmTo, if_pos ‹(a.getD i (0, 0)).1 = 0›, ← ‹m = vmTo a i›]) | (rw [vmTo, if_neg ‹¬ (a.getD i (0, 0)).1 = 0›]; assumption))⟩ (by show (a.length - (i + 1)) < (a.length - i); omega)))
    · refine R.go 3 (R.ar ((i : Int) + 1) (by kernel_rfl) (by omega) (by omega) (by kernel_rfl) ?_)
      exact R.go 2 (R.stop R1 (by kernel_rfl) (N2 (i + 1, m) [3, 6, 7, 8] (some []) _ (by kernel_rfl) (by kernel_rfl) ⟨(by omega), (by first | (rw [vmTo, if_pos ‹(a.getD i (0, 0)).1 = 0›, ← ‹m = vmTo a i›]) | (rw [vmTo, if_neg ‹¬ (a.getD i (0, 0)).1 = 0›]; assumption))⟩ (by show (a.length - (i + 1)) < (a.length - i); omega)))
  · exact R.go 6 (R.retE (AI m) (by kernel_rfl) (by kernel_rfl) (by first | (rw [‹m = _›, show i = a.length by omega]) | (exfalso; omega)))

theorem ladderCode_c (a : List (Int × Int)) (hl : a.length ≤ 1000000000) : CallA Tryz.prog 59 [LN a] (AI (lcode a)) := by
  have hP := fun h : isF a = true => isF_parts h
  have hB := fun h : isF a = true => (isF_parts h).2.2.1
  have hV := fun h : isF a = true => vm_rng (hB h) a.length (Nat.le_refl _)
  have h6 := fun h : isF a = true => bits_6 (hV h).1 (hV h).2
  refine CallA.of Tryz.func59 rfl (by kernel_rfl) ?_
  refine R.go 9 (R.call true (isFormula_c a hl) (by kernel_rfl) rfl (by kernel_rfl) ?_)
  refine R.go 3 (R.condM (isF a) (by kernel_rfl) (fun c1 => ?_) (fun c1 => ?_))
  · exact R.go 4 (R.retE (AI 1) (by kernel_rfl) (by kernel_rfl) (by first | (apply congrArg AI; first | exact lcode_1 (by assumption) | exact lcode_5 (by assumption) (by assumption) | exact lcode_5v (by assumption) (by omega) | exact lcode_0 (by assumption) (by assumption) (by omega)) | (exfalso; omega)))
  · have hb : a.any badN = false := hB (by assumption)
    have hq : a.length ≤ 40 := (hP (by assumption)).1
    refine R.go 3 (R.call true (isPlain_c a hl) (by kernel_rfl) rfl (by kernel_rfl) ?_)
    refine R.go 2 ?_
    refine (Bool.eq_false_or_eq_true (!(a.any modN))).elim (fun c2 => ?_) (fun c2 => ?_)
    · refine R.want (!(!(a.any modN))) false (by kernel_rfl) (bnF c2) ?_
      refine R.go 1 (R.want (!(!(a.any modN))) false (by kernel_rfl) (bnF c2) ?_)
      refine R.call true (variableMask_c a hb hq) (by kernel_rfl) rfl (by kernel_rfl) ?_
      refine R.want (!(!(a.any modN))) false (by kernel_rfl) (bnF c2) ?_
      refine R.go 1 (R.pick (!(!(a.any modN))) false (by kernel_rfl) (bnF c2) (by kernel_rfl) ?_)
      refine R.go 2 (R.cond ((vmTo a a.length) > 1) (by kernel_rfl) (fun c3 => ?_) (fun c3 => ?_))
      · exact R.go 4 (R.retE (AI 5) (by kernel_rfl) (by kernel_rfl) (by first | (apply congrArg AI; first | exact lcode_1 (by assumption) | exact lcode_5 (by assumption) (by assumption) | exact lcode_5v (by assumption) (by omega) | exact lcode_0 (by assumption) (by assumption) (by omega)) | (exfalso; omega)))
      · exact R.go 6 (R.retE (AI 0) (by kernel_rfl) (by kernel_rfl) (by first | (apply congrArg AI; first | exact lcode_1 (by assumption) | exact lcode_5 (by assumption) (by assumption) | exact lcode_5v (by assumption) (by omega) | exact lcode_0 (by assumption) (by assumption) (by omega)) | (exfalso; omega)))
    · refine R.skp (!(!(a.any modN))) false (by kernel_rfl) (bnT c2) (by kernel_rfl) ?_
      refine R.skp (!(!(a.any modN))) false (by kernel_rfl) (bnT c2) (by kernel_rfl) ?_
      refine R.skp (!(!(a.any modN))) false (by kernel_rfl) (bnT c2) (by kernel_rfl) ?_
      refine R.pick (!(!(a.any modN))) true (by kernel_rfl) (bnT c2) (by kernel_rfl) ?_
      exact R.go 7 (R.retE (AI 5) (by kernel_rfl) (by kernel_rfl) (by first | (apply congrArg AI; first | exact lcode_1 (by assumption) | exact lcode_5 (by assumption) (by assumption) | exact lcode_5v (by assumption) (by omega) | exact lcode_0 (by assumption) (by assumption) (by omega)) | (exfalso; omega)))

theorem ladderValue_c (a : List (Int × Int)) (hok : OKF 1 a) (hl : a.length ≤ 1000000000) : CallA Tryz.prog 60 [LN a] (AI (fv impI [1] a)) := by
  refine CallA.of Tryz.func60 rfl (by kernel_rfl) ?_
  refine R.go 7 (R.call true (onLadder_c a 1 hok hl) (by kernel_rfl) rfl (by kernel_rfl) ?_)
  exact R.go 2 (R.retE (AI (fv impI [1] a)) (by kernel_rfl) (by kernel_rfl) (by rfl))

theorem LV_impl (a : List (Int × Int)) (hl : a.length ≤ 1000000000) : CallA Tryz.prog 25 [LN a] (.tup [AI (lval a), AI (lcode a)]) := by
  refine CallA.of Tryz.func25 rfl (by kernel_rfl) ?_
  refine R.go 9 (R.call true (ladderCode_c a hl) (by kernel_rfl) rfl (by kernel_rfl) ?_)
  refine R.go 7 (R.condN ((lcode a) = 0) (by kernel_rfl) (fun c1 => ?_) (fun c1 => ?_))
  · exact R.go 6 (R.retE (.tup [AI 0, AI (lcode a)]) (by kernel_rfl) (by kernel_rfl) (by first | (refine tup2 ?_ ?_ <;> first | (simp [lval, *]; done) | (rw [lval, if_pos ‹lcode a = 0›]; exact fv_one _ (lcode_ok ‹lcode a = 0›).1 rfl)) | (exfalso; omega)))
  · have hq := lcode_ok ‹lcode a = 0›
    have hk1 : OKF 1 a := hq.1
    have hk6 : OKF 6 a := okf_mono hq.1 (by decide)
    refine R.go 4 (R.call true (ladderValue_c a hk1 hl) (by kernel_rfl) rfl (by kernel_rfl) ?_)
    exact R.go 3 (R.retE (.tup [AI (fv impI [1] a), AI 0]) (by kernel_rfl) (by kernel_rfl) (by first | (refine tup2 ?_ ?_ <;> first | (simp [lval, *]; done) | (rw [lval, if_pos ‹lcode a = 0›]; exact fv_one _ (lcode_ok ‹lcode a = 0›).1 rfl)) | (exfalso; omega)))

end Go.Proofs.YtfkdkhlimdkehaaGreat
