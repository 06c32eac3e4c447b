/- Texts of the proof: P02, P04B, SymX, SymY. -/
import Derived.RangeFuncNested
import Derived.Test.YtogehjciaamcfaaGreatPartF

/-! Which lists are formulas; their variables. -/
namespace Go.Proofs.YtogehjciaamcfaaGreat
open Go.RowKit Go.Abs

def okN (x : Int × Int) : Bool := decide ((x.1 = 0 ∧ 0 ≤ x.2 ∧ x.2 ≤ 5) ∨ (1 ≤ x.1 ∧ x.1 ≤ 6 ∧ x.2 = 0))
def badN (x : Int × Int) : Bool := !okN x
def modN (x : Int × Int) : Bool := decide (x.1 = 5 ∨ x.1 = 6)
def treeB (a : List (Int × Int)) : Bool := decide (0 < a.length) && a.all okN && decide (peX 1 a 0 = a.length)
def isF (a : List (Int × Int)) : Bool := decide (a.length ≤ 40) && treeB a
theorem okN_no (x : Int × Int) : okN x = false ↔ ¬ ((x.1 = 0 ∧ 0 ≤ x.2 ∧ x.2 ≤ 5) ∨ (1 ≤ x.1 ∧ x.1 ≤ 6 ∧ x.2 = 0)) := by unfold okN; exact decide_eq_false_iff_not
theorem okN_yes (x : Int × Int) : okN x = true ↔ ((x.1 = 0 ∧ 0 ≤ x.2 ∧ x.2 ≤ 5) ∨ (1 ≤ x.1 ∧ x.1 ≤ 6 ∧ x.2 = 0)) := by unfold okN; exact decide_eq_true_iff
theorem mod_no (x : Int × Int) : modN x = false ↔ ¬ (x.1 = 5 ∨ x.1 = 6) := by unfold modN; exact decide_eq_false_iff_not
theorem mod_yes (x : Int × Int) : modN x = true ↔ (x.1 = 5 ∨ x.1 = 6) := by unfold modN; exact decide_eq_true_iff
theorem bad_no (x : Int × Int) : badN x = false ↔ ((x.1 = 0 ∧ 0 ≤ x.2 ∧ x.2 ≤ 5) ∨ (1 ≤ x.1 ∧ x.1 ≤ 6 ∧ x.2 = 0)) := by unfold badN; rw [Bool.not_eq_false', okN_yes]
theorem bad_yes (x : Int × Int) : badN x = true ↔ ¬ ((x.1 = 0 ∧ 0 ≤ x.2 ∧ x.2 ≤ 5) ∨ (1 ≤ x.1 ∧ x.1 ≤ 6 ∧ x.2 = 0)) := by unfold badN; rw [Bool.not_eq_true', okN_no]
theorem all_any (a : List (Int × Int)) : a.all okN = !a.any badN := by
  induction a with
  | nil => rfl
  | cons x a ih => simp [List.all_cons, List.any_cons, ih, badN]
/-- Where p holds first. -/
def fidx (p : Int × Int → Bool) : List (Int × Int) → Int → Int
  | [], _ => -1
  | x :: l, i => if p x = true then i else fidx p l (i + 1)
theorem fidx_hit {p : Int × Int → Bool} {a : List (Int × Int)} {i : Nat} (h : i < a.length) (hp : p (a.getD i (0, 0)) = true) : fidx p (a.drop i) i = i := by
  rw [drop_cons a i h, fidx, if_pos hp]
theorem fidx_miss {p : Int × Int → Bool} {a : List (Int × Int)} {i : Nat} (h : i < a.length) (hp : p (a.getD i (0, 0)) = false) : fidx p (a.drop i) i = fidx p (a.drop (i + 1)) ((i + 1 : Nat) : Int) := by
  rw [drop_cons a i h, fidx, if_neg (by rw [hp]; decide)]
  rfl
theorem fidx_end {p : Int × Int → Bool} {a : List (Int × Int)} {i : Nat} (h : a.length ≤ i) : fidx p (a.drop i) i = -1 := by
  rw [List.drop_eq_nil_of_le h, fidx]
theorem fidx_any {p : Int × Int → Bool} : ∀ {a : List (Int × Int)} {i : Int}, 0 ≤ i → (0 ≤ fidx p a i ↔ a.any p = true)
  | [], i, h => by simp [fidx]
  | x :: a, i, h => by
    have ih := fidx_any (p := p) (a := a) (i := i + 1) (by omega)
    rw [fidx, List.any_cons]
    by_cases hp : p x = true
    · simp [hp, h]
    · rw [if_neg hp, ih]; simp [hp]
theorem any_hit {p : Int × Int → Bool} {a : List (Int × Int)} {i : Nat} (h : i < a.length) (hp : p (a.getD i (0, 0)) = true) : (a.drop i).any p = true := by
  rw [drop_cons a i h, List.any_cons, hp, Bool.true_or]
theorem any_miss {p : Int × Int → Bool} {a : List (Int × Int)} {i : Nat} (h : i < a.length) (hp : p (a.getD i (0, 0)) = false) : (a.drop i).any p = (a.drop (i + 1)).any p := by
  rw [drop_cons a i h, List.any_cons, hp, Bool.false_or]
theorem any_end {p : Int × Int → Bool} {a : List (Int × Int)} {i : Nat} (h : a.length ≤ i) : (a.drop i).any p = false := by
  rw [List.drop_eq_nil_of_le h]; rfl
theorem tree_no {a : List (Int × Int)} (h : a.any badN = true) : treeB a = false := by simp [treeB, all_any, h]
theorem tree_yes {a : List (Int × Int)} (h : a.any badN = false) : treeB a = (decide (0 < a.length) && decide (peX 1 a 0 = a.length)) := by simp [treeB, all_any, h]
/-- The variables of the first nodes. -/
def vmTo (a : List (Int × Int)) : Nat → Int
  | 0 => 0
  | i + 1 => if (a.getD i (0, 0)).1 = 0 then bor (vmTo a i) (shl64 1 (a.getD i (0, 0)).2) else vmTo a i
theorem bor63 : ∀ m s : Fin 64, 0 ≤ bor (m.val : Int) (s.val : Int) ∧ bor (m.val : Int) (s.val : Int) ≤ 63 ∧ (m.val : Int) ≤ bor (m.val : Int) (s.val : Int) ∧ (s.val : Int) ≤ bor (m.val : Int) (s.val : Int) := by decide +kernel
theorem bor_63 {m s : Int} (h0 : 0 ≤ m) (h1 : m ≤ 63) (h2 : 0 ≤ s) (h3 : s ≤ 63) : 0 ≤ bor m s ∧ bor m s ≤ 63 ∧ m ≤ bor m s ∧ s ≤ bor m s := by
  obtain ⟨m, rfl⟩ := Int.eq_ofNat_of_zero_le h0
  obtain ⟨s, rfl⟩ := Int.eq_ofNat_of_zero_le h2
  exact bor63 ⟨m, by omega⟩ ⟨s, by omega⟩
theorem shl6 : ∀ v : Fin 6, 1 ≤ shl64 1 (v.val : Int) ∧ shl64 1 (v.val : Int) ≤ 63 ∧ (shl64 1 (v.val : Int) ≤ 1 → v.val = 0) := by decide +kernel
theorem shl_6 {v : Int} (h0 : 0 ≤ v) (h1 : v ≤ 5) : 1 ≤ shl64 1 v ∧ shl64 1 v ≤ 63 ∧ (shl64 1 v ≤ 1 → v = 0) := by
  obtain ⟨v, rfl⟩ := Int.eq_ofNat_of_zero_le h0
  obtain ⟨a, b, c⟩ := shl6 ⟨v, by omega⟩
  exact ⟨a, b, fun h => by have := c h; simp at this; omega⟩
theorem okN_get {a : List (Int × Int)} (h : a.any badN = false) {j : Nat} (hj : j < a.length) : okN (a.getD j (0, 0)) = true := by
  have h1 : a.getD j (0, 0) ∈ a := by
    rw [List.getD_eq_getElem?_getD, List.getElem?_eq_getElem hj, Option.getD_some]
    exact List.getElem_mem hj
  have h2 : a.all okN = true := by rw [all_any, h]; rfl
  exact List.all_eq_true.1 h2 _ h1
theorem vm_rng {a : List (Int × Int)} (h : a.any badN = false) : ∀ i, i ≤ a.length → 0 ≤ vmTo a i ∧ vmTo a i ≤ 63
  | 0, _ => ⟨Int.le_refl _, by simp [vmTo]⟩
  | i + 1, hi => by
    have ih := vm_rng h i (by omega)
    have hn := (okN_yes _).1 (okN_get h (j := i) (by omega))
    rw [vmTo]
    split
    · have hs := shl_6 (v := (a.getD i (0, 0)).2) (by omega) (by omega)
      have hb := bor_63 ih.1 ih.2 (by omega) hs.2.1
      exact ⟨hb.1, hb.2.1⟩
    · exact ih
/-- The bits of a mask. -/
def bitsL : Nat → Int → Int → List Int
  | 0, _, _ => []
  | f + 1, m, i => if 0 < m then (if m % 2 = 1 then i :: bitsL f (m / 2) (i + 1) else bitsL f (m / 2) (i + 1)) else []
theorem bits_one (f : Nat) (m i : Int) (h : 0 < m) (h1 : m % 2 = 1) : bitsL (f + 1) m i = i :: bitsL f (m / 2) (i + 1) := by rw [bitsL, if_pos h, if_pos h1]
theorem bits_no (f : Nat) (m i : Int) (h : 0 < m) (h1 : ¬ m % 2 = 1) : bitsL (f + 1) m i = bitsL f (m / 2) (i + 1) := by rw [bitsL, if_pos h, if_neg h1]
theorem bits_end (f : Nat) (m i : Int) (h : ¬ 0 < m) : bitsL f m i = [] := by cases f with | zero => rfl | succ f => rw [bitsL, if_neg h]
theorem half_lt {m : Int} {f : Nat} (h : m < 2 ^ (f + 1)) : m / 2 < 2 ^ f := by rw [Int.pow_succ] at h; omega
theorem isF_parts {a : List (Int × Int)} (h : isF a = true) : a.length ≤ 40 ∧ 0 < a.length ∧ a.any badN = false ∧ peX 1 a 0 = a.length := by
  simp only [isF, treeB, all_any, Bool.and_eq_true, decide_eq_true_eq, Bool.not_eq_true'] at h
  exact ⟨h.1, h.2.1.1, h.2.1.2, h.2.2⟩
theorem pe_of_peX {a : List (Int × Int)} (h : peX 1 a 0 = a.length) : pe 1 a = some a.length := by
  unfold peX at h
  rw [List.drop_zero] at h
  cases hp : pe 1 a with
  | none => rw [hp] at h; simp only at h; omega
  | some n => rw [hp] at h; simp only at h; congr 1; omega

theorem isF_okm {a : List (Int × Int)} (h : isF a = true) : OKM 6 a ∧ a.length ≤ 40 := by
  obtain ⟨h1, h2, h3, h4⟩ := isF_parts h
  refine ⟨⟨pe_of_peX h4, fun x hx => ?_⟩, h1⟩
  obtain ⟨j, hj, rfl⟩ := List.getElem_of_mem hx
  have hg : a[j] = a.getD j (0, 0) := by rw [List.getD_eq_getElem?_getD, List.getElem?_eq_getElem hj]; rfl
  have hn := (okN_yes _).1 (okN_get h3 hj)
  rw [hg]
  refine ⟨by omega, by omega, fun h0 => by omega⟩

theorem isVariable_c (v : Int) : CallA Tryz.prog 97 [AI v] (.bool (inR v 0 5)) := by
  refine CallA.of Tryz.func97 rfl (by kernel_rfl) ?_
  refine R.go 7 (R.call true (inRange_c v 0 5) (by kernel_rfl) rfl (by kernel_rfl) ?_)
  exact R.go 2 (R.retE (.bool (inR v 0 5)) (by kernel_rfl) (by kernel_rfl) (by rfl))

theorem isNode_c (k : Int) (v : Int) : CallA Tryz.prog 66 [.agg [AI k, AI v]] (.bool (okN (k, v))) := by
  refine CallA.of Tryz.func66 rfl (by kernel_rfl) ?_
  refine R.go 12 (R.cond (k = 0) (by kernel_rfl) (fun c1 => ?_) (fun c1 => ?_))
  · refine R.go 4 (R.call true (isVariable_c v) (by kernel_rfl) rfl (by kernel_rfl) ?_)
    exact R.go 2 (R.retE (.bool (inR v 0 5)) (by kernel_rfl) (by kernel_rfl) (by first | (apply congrArg AV.bool; rw [Bool.eq_iff_iff]; simp only [okN, badN, modN, inR, decide_eq_true_eq, Bool.and_eq_true, Bool.not_eq_true', decide_eq_false_iff_not, Bool.and_eq_false_iff, true_iff, false_iff, iff_true, iff_false, reduceCtorEq] at *; omega) | (exfalso; omega)))
  · refine R.go 5 (R.call true (inRange_c k 1 6) (by kernel_rfl) rfl (by kernel_rfl) ?_)
    refine R.go 1 ?_
    refine (Bool.eq_false_or_eq_true (inR k 1 6)).elim (fun c2 => ?_) (fun c2 => ?_)
    · refine R.want (inR k 1 6) true (by kernel_rfl) c2 ?_
      refine R.go 1 (R.want (inR k 1 6) true (by kernel_rfl) c2 ?_)
      refine R.go 1 (R.want (inR k 1 6) true (by kernel_rfl) c2 ?_)
      refine R.go 1 (R.pick (inR k 1 6) true (by kernel_rfl) c2 (by kernel_rfl) ?_)
      exact R.go 2 (R.retE (.bool (decide (v = 0))) (by kernel_rfl) (by kernel_rfl) (by first | (apply congrArg AV.bool; rw [Bool.eq_iff_iff]; simp only [okN, badN, modN, inR, decide_eq_true_eq, Bool.and_eq_true, Bool.not_eq_true', decide_eq_false_iff_not, Bool.and_eq_false_iff, true_iff, false_iff, iff_true, iff_false, reduceCtorEq] at *; omega) | (exfalso; omega)))
    · refine R.skp (inR k 1 6) true (by kernel_rfl) c2 (by kernel_rfl) ?_
      refine R.skp (inR k 1 6) true (by kernel_rfl) c2 (by kernel_rfl) ?_
      refine R.skp (inR k 1 6) true (by kernel_rfl) c2 (by kernel_rfl) ?_
      refine R.pick (inR k 1 6) false (by kernel_rfl) c2 (by kernel_rfl) ?_
      exact R.go 2 (R.retE (.bool false) (by kernel_rfl) (by kernel_rfl) (by first | (apply congrArg AV.bool; rw [Bool.eq_iff_iff]; simp only [okN, badN, modN, inR, decide_eq_true_eq, Bool.and_eq_true, Bool.not_eq_true', decide_eq_false_iff_not, Bool.and_eq_false_iff, true_iff, false_iff, iff_true, iff_false, reduceCtorEq] at *; omega) | (exfalso; omega)))

theorem isFormula1_c (k : Int) (v : Int) : CallA Tryz.prog 65 [.agg [AI k, AI v]] (.bool (badN (k, v))) := by
  refine CallA.of Tryz.func65 rfl (by kernel_rfl) ?_
  refine R.go 8 (R.call true (isNode_c k v) (by kernel_rfl) rfl (by kernel_rfl) ?_)
  exact R.go 3 (R.retE (.bool (!(okN (k, v)))) (by kernel_rfl) (by kernel_rfl) (by first | (rfl) | (exfalso; omega)))

theorem isModal_c (k : Int) : CallA Tryz.prog 70 [AI k] (.bool (decide (k = 5 ∨ k = 6))) := by
  refine CallA.of Tryz.func70 rfl (by kernel_rfl) ?_
  refine R.go 9 ?_
  by_cases c1 : k = 5
  · refine R.skp (decide (k = 5)) false (by kernel_rfl) (dT c1) (by kernel_rfl) ?_
    refine R.skp (decide (k = 5)) false (by kernel_rfl) (dT c1) (by kernel_rfl) ?_
    refine R.pick (decide (k = 5)) true (by kernel_rfl) (dT c1) (by kernel_rfl) ?_
    exact R.go 2 (R.retE (.bool true) (by kernel_rfl) (by kernel_rfl) (by first | (apply congrArg AV.bool; rw [Bool.eq_iff_iff]; simp only [okN, badN, modN, inR, decide_eq_true_eq, Bool.and_eq_true, Bool.not_eq_true', decide_eq_false_iff_not, Bool.and_eq_false_iff, true_iff, false_iff, iff_true, iff_false, reduceCtorEq] at *; omega) | (exfalso; omega)))
  · refine R.want (decide (k = 5)) false (by kernel_rfl) (dF c1) ?_
    refine R.go 1 (R.want (decide (k = 5)) false (by kernel_rfl) (dF c1) ?_)
    refine R.go 1 (R.pick (decide (k = 5)) false (by kernel_rfl) (dF c1) (by kernel_rfl) ?_)
    exact R.go 2 (R.retE (.bool (decide (k = 6))) (by kernel_rfl) (by kernel_rfl) (by first | (apply congrArg AV.bool; rw [Bool.eq_iff_iff]; simp only [okN, badN, modN, inR, decide_eq_true_eq, Bool.and_eq_true, Bool.not_eq_true', decide_eq_false_iff_not, Bool.and_eq_false_iff, true_iff, false_iff, iff_true, iff_false, reduceCtorEq] at *; omega) | (exfalso; omega)))

theorem isPlain1_c (k : Int) (v : Int) : CallA Tryz.prog 69 [.agg [AI k, AI v]] (.bool (modN (k, v))) := by
  refine CallA.of Tryz.func69 rfl (by kernel_rfl) ?_
  refine R.go 9 (R.call true (isModal_c k) (by kernel_rfl) rfl (by kernel_rfl) ?_)
  exact R.go 2 (R.retE (.bool (decide (k = 5 ∨ k = 6))) (by kernel_rfl) (by kernel_rfl) (by first | (rfl) | (exfalso; omega)))

theorem index_badN_c (a : List (Int × Int)) (hl : a.length ≤ 1000000000) : CallA Tryz.prog 96 [LN a, .fn 65 []] (AI (fidx badN a 0)) := by
  refine CallA.of Tryz.func96 rfl (by kernel_rfl) ?_
  refine R.go 12 (R.loop (fun (i : Nat) => (⟨(frm 19 [(0, LN a), (1, .fn 65 []), (7, AI a.length), (8, AI (i : Int))]), []⟩ : St)) (fun (i : Nat) => (i ≤ a.length) ∧ (fidx badN a 0 = fidx badN (a.drop i) i)) (fun (i : Nat) => a.length - i) 0 [0, 1, 7, 8] none (by kernel_rfl) (by kernel_rfl) (by kernel_rfl) ⟨(by omega), (by rfl)⟩ ?_)
  rintro i ⟨h3_1, h3_2⟩ R1 N2
  refine R.go 5 (R.cond ((i : Int) < (a.length : Int)) (by kernel_rfl) (fun c4 => ?_) (fun c4 => ?_))
  · refine R.go 13 (R.idx eN a (0, 0) i (i : Int) (by kernel_rfl) rfl eN_len (by omega) (by kernel_rfl) ?_)
    refine R.go 1 (R.call true (isFormula1_c ((a.getD i (0, 0)).1) ((a.getD i (0, 0)).2)) (by kernel_rfl) rfl (by kernel_rfl) ?_)
    refine R.go 1 (R.condB (badN (((a.getD i (0, 0)).1), ((a.getD i (0, 0)).2))) (by kernel_rfl) (fun c5 => ?_) (fun c5 => ?_))
    · exact R.go 5 (R.retE (AI (i : Int)) (by kernel_rfl) (by kernel_rfl) (by first | (apply congrArg AI; rw [‹fidx badN a 0 = _›]; first | exact (fidx_end (by omega)).symm | exact (fidx_hit (by omega) (by assumption)).symm) | (exfalso; omega)))
    · refine R.go 3 (R.ar ((i : Int) + 1) (by kernel_rfl) (by omega) (by omega) (by kernel_rfl) ?_)
      exact R.go 2 (R.stop R1 (by kernel_rfl) (N2 (i + 1) [0, 1, 7, 8] none _ (by kernel_rfl) (by kernel_rfl) ⟨(by omega), (by rw [‹fidx badN a 0 = _›]; exact fidx_miss (by omega) (by assumption))⟩ (by show (a.length - (i + 1)) < (a.length - i); omega)))
  · exact R.go 5 (R.retE (AI (-1)) (by kernel_rfl) (by kernel_rfl) (by first | (apply congrArg AI; rw [‹fidx badN a 0 = _›]; first | exact (fidx_end (by omega)).symm | exact (fidx_hit (by omega) (by assumption)).symm) | (exfalso; omega)))

theorem contains_badN_c (a : List (Int × Int)) (hl : a.length ≤ 1000000000) : CallA Tryz.prog 64 [LN a, .fn 65 []] (.bool (a.any badN)) := by
  refine CallA.of Tryz.func64 rfl (by kernel_rfl) ?_
  refine R.go 8 (R.call true (index_badN_c a hl) (by kernel_rfl) rfl (by kernel_rfl) ?_)
  exact R.go 3 (R.retE (.bool (decide ((fidx badN a 0) ≥ 0))) (by kernel_rfl) (by kernel_rfl) (by first | (apply congrArg AV.bool; rw [Bool.eq_iff_iff, decide_eq_true_iff]; exact fidx_any (Int.le_refl 0)) | (exfalso; omega)))

theorem index_modN_c (a : List (Int × Int)) (hl : a.length ≤ 1000000000) : CallA Tryz.prog 96 [LN a, .fn 69 []] (AI (fidx modN a 0)) := by
  refine CallA.of Tryz.func96 rfl (by kernel_rfl) ?_
  refine R.go 12 (R.loop (fun (i : Nat) => (⟨(frm 19 [(0, LN a), (1, .fn 69 []), (7, AI a.length), (8, AI (i : Int))]), []⟩ : St)) (fun (i : Nat) => (i ≤ a.length) ∧ (fidx modN a 0 = fidx modN (a.drop i) i)) (fun (i : Nat) => a.length - i) 0 [0, 1, 7, 8] none (by kernel_rfl) (by kernel_rfl) (by kernel_rfl) ⟨(by omega), (by rfl)⟩ ?_)
  rintro i ⟨h3_1, h3_2⟩ R1 N2
  refine R.go 5 (R.cond ((i : Int) < (a.length : Int)) (by kernel_rfl) (fun c4 => ?_) (fun c4 => ?_))
  · refine R.go 13 (R.idx eN a (0, 0) i (i : Int) (by kernel_rfl) rfl eN_len (by omega) (by kernel_rfl) ?_)
    refine R.go 1 (R.call true (isPlain1_c ((a.getD i (0, 0)).1) ((a.getD i (0, 0)).2)) (by kernel_rfl) rfl (by kernel_rfl) ?_)
    refine R.go 1 (R.condB (modN (((a.getD i (0, 0)).1), ((a.getD i (0, 0)).2))) (by kernel_rfl) (fun c5 => ?_) (fun c5 => ?_))
    · exact R.go 5 (R.retE (AI (i : Int)) (by kernel_rfl) (by kernel_rfl) (by first | (apply congrArg AI; rw [‹fidx modN a 0 = _›]; first | exact (fidx_end (by omega)).symm | exact (fidx_hit (by omega) (by assumption)).symm) | (exfalso; omega)))
    · refine R.go 3 (R.ar ((i : Int) + 1) (by kernel_rfl) (by omega) (by omega) (by kernel_rfl) ?_)
      exact R.go 2 (R.stop R1 (by kernel_rfl) (N2 (i + 1) [0, 1, 7, 8] none _ (by kernel_rfl) (by kernel_rfl) ⟨(by omega), (by rw [‹fidx modN a 0 = _›]; exact fidx_miss (by omega) (by assumption))⟩ (by show (a.length - (i + 1)) < (a.length - i); omega)))
  · exact R.go 5 (R.retE (AI (-1)) (by kernel_rfl) (by kernel_rfl) (by first | (apply congrArg AI; rw [‹fidx modN a 0 = _›]; first | exact (fidx_end (by omega)).symm | exact (fidx_hit (by omega) (by assumption)).symm) | (exfalso; omega)))

theorem contains_modN_c (a : List (Int × Int)) (hl : a.length ≤ 1000000000) : CallA Tryz.prog 64 [LN a, .fn 69 []] (.bool (a.any modN)) := by
  refine CallA.of Tryz.func64 rfl (by kernel_rfl) ?_
  refine R.go 8 (R.call true (index_modN_c a hl) (by kernel_rfl) rfl (by kernel_rfl) ?_)
  exact R.go 3 (R.retE (.bool (decide ((fidx modN a 0) ≥ 0))) (by kernel_rfl) (by kernel_rfl) (by first | (apply congrArg AV.bool; rw [Bool.eq_iff_iff, decide_eq_true_iff]; exact fidx_any (Int.le_refl 0)) | (exfalso; omega)))

theorem isPlain_c (a : List (Int × Int)) (hl : a.length ≤ 1000000000) : CallA Tryz.prog 34 [LN a] (.bool (!(a.any modN))) := by
  refine CallA.of Tryz.func34 rfl (by kernel_rfl) ?_
  refine R.go 7 (R.call true (contains_modN_c a hl) (by kernel_rfl) rfl (by kernel_rfl) ?_)
  exact R.go 3 (R.retE (.bool (!(a.any modN))) (by kernel_rfl) (by kernel_rfl) (by rfl))

theorem isFormula_c (a : List (Int × Int)) (hl : a.length ≤ 1000000000) : CallA Tryz.prog 32 [LN a] (.bool (isF a)) := by
  refine CallA.of Tryz.func32 rfl (by kernel_rfl) ?_
  refine R.go 10 ?_
  by_cases c1 : (a.length : Int) ≥ 1
  · refine R.want (decide ((a.length : Int) ≥ 1)) true (by kernel_rfl) (dT c1) ?_
    refine R.go 1 (R.want (decide ((a.length : Int) ≥ 1)) true (by kernel_rfl) (dT c1) ?_)
    refine R.go 1 (R.want (decide ((a.length : Int) ≥ 1)) true (by kernel_rfl) (dT c1) ?_)
    refine R.go 1 (R.pick (decide ((a.length : Int) ≥ 1)) true (by kernel_rfl) (dT c1) (by kernel_rfl) ?_)
    refine R.go 1 ?_
    by_cases c2 : (a.length : Int) ≤ 40
    · refine R.want (decide ((a.length : Int) ≤ 40)) true (by kernel_rfl) (dT c2) ?_
      refine R.go 1 (R.want (decide ((a.length : Int) ≤ 40)) true (by kernel_rfl) (dT c2) ?_)
      refine R.call true (contains_badN_c a hl) (by kernel_rfl) rfl (by kernel_rfl) ?_
      refine R.want (decide ((a.length : Int) ≤ 40)) true (by kernel_rfl) (dT c2) ?_
      refine R.go 1 (R.pick (decide ((a.length : Int) ≤ 40)) true (by kernel_rfl) (dT c2) (by kernel_rfl) ?_)
      refine R.go 1 ?_
      refine (Bool.eq_false_or_eq_true (a.any badN)).elim (fun c3 => ?_) (fun c3 => ?_)
      · refine R.skp (!(a.any badN)) true (by kernel_rfl) (bnF c3) (by kernel_rfl) ?_
        refine R.skp (!(a.any badN)) true (by kernel_rfl) (bnF c3) (by kernel_rfl) ?_
        refine R.skp (!(a.any badN)) true (by kernel_rfl) (bnF c3) (by kernel_rfl) ?_
        refine R.skp (!(a.any badN)) true (by kernel_rfl) (bnF c3) (by kernel_rfl) ?_
        refine R.skp (!(a.any badN)) true (by kernel_rfl) (bnF c3) (by kernel_rfl) ?_
        refine R.pick (!(a.any badN)) false (by kernel_rfl) (bnF c3) (by kernel_rfl) ?_
        exact R.go 2 (R.retE (.bool false) (by kernel_rfl) (by kernel_rfl) (by first | (apply congrArg AV.bool; simp only [isF, treeB, all_any]; first | (rw [decide_eq_true (show a.length ≤ 40 by omega), decide_eq_true (show 0 < a.length by omega)]; simp [*]; done) | (rw [decide_eq_false (show ¬ a.length ≤ 40 by omega)]; rfl) | (rw [decide_eq_false (show ¬ 0 < a.length by omega)]; simp)) | (exfalso; omega)))
      · refine R.want (!(a.any badN)) true (by kernel_rfl) (bnT c3) ?_
        refine R.go 1 (R.want (!(a.any badN)) true (by kernel_rfl) (bnT c3) ?_)
        refine R.call true (partEnd_c a 0 (by first | omega | (simp <;> omega)) hl) (by kernel_rfl) rfl (by kernel_rfl) ?_
        refine R.want (!(a.any badN)) true (by kernel_rfl) (bnT c3) ?_
        refine R.go 1 (R.want (!(a.any badN)) true (by kernel_rfl) (bnT c3) ?_)
        refine R.go 1 (R.want (!(a.any badN)) true (by kernel_rfl) (bnT c3) ?_)
        refine R.go 1 (R.pick (!(a.any badN)) true (by kernel_rfl) (bnT c3) (by kernel_rfl) ?_)
        exact R.go 2 (R.retE (.bool (decide ((peX 1 a 0) = (a.length : Int)))) (by kernel_rfl) (by kernel_rfl) (by first | (apply congrArg AV.bool; simp only [isF, treeB, all_any]; first | (rw [decide_eq_true (show a.length ≤ 40 by omega), decide_eq_true (show 0 < a.length by omega)]; simp [*]; done) | (rw [decide_eq_false (show ¬ a.length ≤ 40 by omega)]; rfl) | (rw [decide_eq_false (show ¬ 0 < a.length by omega)]; simp)) | (exfalso; omega)))
    · refine R.skp (decide ((a.length : Int) ≤ 40)) true (by kernel_rfl) (dF c2) (by kernel_rfl) ?_
      refine R.skp (decide ((a.length : Int) ≤ 40)) true (by kernel_rfl) (dF c2) (by kernel_rfl) ?_
      refine R.skp (decide ((a.length : Int) ≤ 40)) true (by kernel_rfl) (dF c2) (by kernel_rfl) ?_
      refine R.pick (decide ((a.length : Int) ≤ 40)) false (by kernel_rfl) (dF c2) (by kernel_rfl) ?_
      exact R.go 9 (R.retE (.bool false) (by kernel_rfl) (by kernel_rfl) (by first | (apply congrArg AV.bool; simp only [isF, treeB, all_any]; first | (rw [decide_eq_true (show a.length ≤ 40 by omega), decide_eq_true (show 0 < a.length by omega)]; simp [*]; done) | (rw [decide_eq_false (show ¬ a.length ≤ 40 by omega)]; rfl) | (rw [decide_eq_false (show ¬ 0 < a.length by omega)]; simp)) | (exfalso; omega)))
  · refine R.skp (decide ((a.length : Int) ≥ 1)) true (by kernel_rfl) (dF c1) (by kernel_rfl) ?_
    refine R.skp (decide ((a.length : Int) ≥ 1)) true (by kernel_rfl) (dF c1) (by kernel_rfl) ?_
    refine R.skp (decide ((a.length : Int) ≥ 1)) true (by kernel_rfl) (dF c1) (by kernel_rfl) ?_
    refine R.pick (decide ((a.length : Int) ≥ 1)) false (by kernel_rfl) (dF c1) (by kernel_rfl) ?_
    exact R.go 14 (R.retE (.bool false) (by kernel_rfl) (by kernel_rfl) (by first | (apply congrArg AV.bool; simp only [isF, treeB, all_any]; first | (rw [decide_eq_true (show a.length ≤ 40 by omega), decide_eq_true (show 0 < a.length by omega)]; simp [*]; done) | (rw [decide_eq_false (show ¬ a.length ≤ 40 by omega)]; rfl) | (rw [decide_eq_false (show ¬ 0 < a.length by omega)]; simp)) | (exfalso; omega)))

theorem l02Plain_c (a : List (Int × Int)) (hl : a.length ≤ 1000000000) : CallA Tryz.prog 48 [LN a] (.bool (!(a.any modN))) := by
  refine CallA.of Tryz.func48 rfl (by kernel_rfl) ?_
  refine R.go 10 (R.loop (fun (i : Nat) => (⟨(frm 24 [(0, LN a), (3, AI (i : Int))]), []⟩ : St)) (fun (i : Nat) => (i ≤ a.length) ∧ (a.any modN = (a.drop i).any modN)) (fun (i : Nat) => a.length - i) 0 [0, 3] none (by kernel_rfl) (by kernel_rfl) (by kernel_rfl) ⟨(by omega), (by rfl)⟩ ?_)
  rintro i ⟨h3_1, h3_2⟩ R1 N2
  refine R.go 8 (R.cond ((i : Int) < (a.length : Int)) (by kernel_rfl) (fun c4 => ?_) (fun c4 => ?_))
  · refine R.go 7 (R.idx eN a (0, 0) i (i : Int) (by kernel_rfl) rfl eN_len (by omega) (by kernel_rfl) ?_)
    refine R.go 4 ?_
    by_cases c5 : ((a.getD i (0, 0)).1) = 5
    · refine R.skp (decide (((a.getD i (0, 0)).1) = 5)) false (by kernel_rfl) (dT c5) (by kernel_rfl) ?_
      refine R.skp (decide (((a.getD i (0, 0)).1) = 5)) false (by kernel_rfl) (dT c5) (by kernel_rfl) ?_
      refine R.skp (decide (((a.getD i (0, 0)).1) = 5)) false (by kernel_rfl) (dT c5) (by kernel_rfl) ?_
      refine R.skp (decide (((a.getD i (0, 0)).1) = 5)) false (by kernel_rfl) (dT c5) (by kernel_rfl) ?_
      refine R.skp (decide (((a.getD i (0, 0)).1) = 5)) false (by kernel_rfl) (dT c5) (by kernel_rfl) ?_
      refine R.skp (decide (((a.getD i (0, 0)).1) = 5)) false (by kernel_rfl) (dT c5) (by kernel_rfl) ?_
      refine R.pick (decide (((a.getD i (0, 0)).1) = 5)) true (by kernel_rfl) (dT c5) (by kernel_rfl) ?_
      exact R.go 6 (R.retE (.bool false) (by kernel_rfl) (by kernel_rfl) (by first | (apply congrArg AV.bool; rw [‹a.any modN = _›]; first | (rw [any_end (by omega)]; rfl) | (rw [any_hit (by omega) ((mod_yes _).2 (by omega))]; rfl)) | (exfalso; omega)))
    · refine R.want (decide (((a.getD i (0, 0)).1) = 5)) false (by kernel_rfl) (dF c5) ?_
      refine R.go 1 (R.want (decide (((a.getD i (0, 0)).1) = 5)) false (by kernel_rfl) (dF c5) ?_)
      refine R.go 1 (R.want (decide (((a.getD i (0, 0)).1) = 5)) false (by kernel_rfl) (dF c5) ?_)
      refine R.idx eN a (0, 0) i (i : Int) (by kernel_rfl) rfl eN_len (by omega) (by kernel_rfl) ?_
      refine R.want (decide (((a.getD i (0, 0)).1) = 5)) false (by kernel_rfl) (dF c5) ?_
      refine R.go 1 (R.want (decide (((a.getD i (0, 0)).1) = 5)) false (by kernel_rfl) (dF c5) ?_)
      refine R.go 1 (R.want (decide (((a.getD i (0, 0)).1) = 5)) false (by kernel_rfl) (dF c5) ?_)
      refine R.go 1 (R.pick (decide (((a.getD i (0, 0)).1) = 5)) false (by kernel_rfl) (dF c5) (by kernel_rfl) ?_)
      refine R.go 1 (R.cond (((a.getD i (0, 0)).1) = 6) (by kernel_rfl) (fun c6 => ?_) (fun c6 => ?_))
      · exact R.go 4 (R.retE (.bool false) (by kernel_rfl) (by kernel_rfl) (by first | (apply congrArg AV.bool; rw [‹a.any modN = _›]; first | (rw [any_end (by omega)]; rfl) | (rw [any_hit (by omega) ((mod_yes _).2 (by omega))]; rfl)) | (exfalso; omega)))
      · refine R.go 4 (R.ar ((i : Int) + 1) (by kernel_rfl) (by omega) (by omega) (by kernel_rfl) ?_)
        exact R.go 2 (R.stop R1 (by kernel_rfl) (N2 (i + 1) [0, 3] none _ (by kernel_rfl) (by kernel_rfl) ⟨(by omega), (by rw [‹a.any modN = _›]; exact any_miss (by omega) ((mod_no _).2 (by omega)))⟩ (by show (a.length - (i + 1)) < (a.length - i); omega)))
  · exact R.go 5 (R.retE (.bool true) (by kernel_rfl) (by kernel_rfl) (by first | (apply congrArg AV.bool; rw [‹a.any modN = _›]; first | (rw [any_end (by omega)]; rfl) | (rw [any_hit (by omega) ((mod_yes _).2 (by omega))]; rfl)) | (exfalso; omega)))

theorem l02Tree_c (a : List (Int × Int)) (hl : a.length ≤ 1000000000) : CallA Tryz.prog 87 [LN a] (.bool (treeB a)) := by
  refine CallA.of Tryz.func87 rfl (by kernel_rfl) ?_
  refine R.go 10 (R.loop (fun (i : Nat) => (⟨(frm 52 [(0, LN a), (3, AI (i : Int))]), []⟩ : St)) (fun (i : Nat) => (i ≤ a.length) ∧ (a.any badN = (a.drop i).any badN)) (fun (i : Nat) => a.length - i) 0 [0, 3] none (by kernel_rfl) (by kernel_rfl) (by kernel_rfl) ⟨(by omega), (by rfl)⟩ ?_)
  rintro i ⟨h3_1, h3_2⟩ R1 N2
  refine R.go 8 (R.cond ((i : Int) < (a.length : Int)) (by kernel_rfl) (fun c4 => ?_) (fun c4 => ?_))
  · refine R.go 7 (R.idx eN a (0, 0) i (i : Int) (by kernel_rfl) rfl eN_len (by omega) (by kernel_rfl) ?_)
    refine R.go 2 (R.call true (l01In_c ((a.getD i (0, 0)).1) 0 6) (by kernel_rfl) rfl (by kernel_rfl) ?_)
    refine R.go 2 ?_
    refine (Bool.eq_false_or_eq_true (inR ((a.getD i (0, 0)).1) 0 6)).elim (fun c5 => ?_) (fun c5 => ?_)
    · refine R.want (!(inR ((a.getD i (0, 0)).1) 0 6)) false (by kernel_rfl) (bnF c5) ?_
      refine R.go 1 (R.want (!(inR ((a.getD i (0, 0)).1) 0 6)) false (by kernel_rfl) (bnF c5) ?_)
      refine R.go 1 (R.want (!(inR ((a.getD i (0, 0)).1) 0 6)) false (by kernel_rfl) (bnF c5) ?_)
      refine R.idx eN a (0, 0) i (i : Int) (by kernel_rfl) rfl eN_len (by omega) (by kernel_rfl) ?_
      refine R.want (!(inR ((a.getD i (0, 0)).1) 0 6)) false (by kernel_rfl) (bnF c5) ?_
      refine R.go 1 (R.want (!(inR ((a.getD i (0, 0)).1) 0 6)) false (by kernel_rfl) (bnF c5) ?_)
      refine R.go 1 (R.want (!(inR ((a.getD i (0, 0)).1) 0 6)) false (by kernel_rfl) (bnF c5) ?_)
      refine R.call true (l01In_c ((a.getD i (0, 0)).2) 0 5) (by kernel_rfl) rfl (by kernel_rfl) ?_
      refine R.want (!(inR ((a.getD i (0, 0)).1) 0 6)) false (by kernel_rfl) (bnF c5) ?_
      refine R.go 1 (R.pick (!(inR ((a.getD i (0, 0)).1) 0 6)) false (by kernel_rfl) (bnF c5) (by kernel_rfl) ?_)
      refine R.go 1 ?_
      refine (Bool.eq_false_or_eq_true (inR ((a.getD i (0, 0)).2) 0 5)).elim (fun c6 => ?_) (fun c6 => ?_)
      · refine R.want (!(inR ((a.getD i (0, 0)).2) 0 5)) false (by kernel_rfl) (bnF c6) ?_
        refine R.go 1 (R.want (!(inR ((a.getD i (0, 0)).2) 0 5)) false (by kernel_rfl) (bnF c6) ?_)
        refine R.go 1 (R.want (!(inR ((a.getD i (0, 0)).2) 0 5)) false (by kernel_rfl) (bnF c6) ?_)
        refine R.idx eN a (0, 0) i (i : Int) (by kernel_rfl) rfl eN_len (by omega) (by kernel_rfl) ?_
        refine R.want (!(inR ((a.getD i (0, 0)).2) 0 5)) false (by kernel_rfl) (bnF c6) ?_
        refine R.go 1 (R.want (!(inR ((a.getD i (0, 0)).2) 0 5)) false (by kernel_rfl) (bnF c6) ?_)
        refine R.go 1 (R.want (!(inR ((a.getD i (0, 0)).2) 0 5)) false (by kernel_rfl) (bnF c6) ?_)
        refine R.go 1 (R.want (!(inR ((a.getD i (0, 0)).2) 0 5)) false (by kernel_rfl) (bnF c6) ?_)
        refine R.go 1 ?_
        by_cases c7 : ((a.getD i (0, 0)).1) = 0
        · refine R.skp (!decide (((a.getD i (0, 0)).1) = 0)) true (by kernel_rfl) (nF c7) (by kernel_rfl) ?_
          refine R.skp (!decide (((a.getD i (0, 0)).1) = 0)) true (by kernel_rfl) (nF c7) (by kernel_rfl) ?_
          refine R.skp (!decide (((a.getD i (0, 0)).1) = 0)) true (by kernel_rfl) (nF c7) (by kernel_rfl) ?_
          refine R.skp (!decide (((a.getD i (0, 0)).1) = 0)) true (by kernel_rfl) (nF c7) (by kernel_rfl) ?_
          refine R.skp (!decide (((a.getD i (0, 0)).1) = 0)) true (by kernel_rfl) (nF c7) (by kernel_rfl) ?_
          refine R.skp (!decide (((a.getD i (0, 0)).1) = 0)) true (by kernel_rfl) (nF c7) (by kernel_rfl) ?_
          refine R.want (!(inR ((a.getD i (0, 0)).2) 0 5)) false (by kernel_rfl) (bnF c6) ?_
          refine R.pick (!decide (((a.getD i (0, 0)).1) = 0)) false (by kernel_rfl) (nF c7) (by kernel_rfl) ?_
          refine R.pick (!(inR ((a.getD i (0, 0)).2) 0 5)) false (by kernel_rfl) (bnF c6) (by kernel_rfl) ?_
          refine R.go 6 (R.ar ((i : Int) + 1) (by kernel_rfl) (by omega) (by omega) (by kernel_rfl) ?_)
          exact R.go 2 (R.stop R1 (by kernel_rfl) (N2 (i + 1) [0, 3] none _ (by kernel_rfl) (by kernel_rfl) ⟨(by omega), (by rw [‹a.any badN = _›]; exact any_miss (by omega) ((bad_no _).2 (by simp only [inR_iff, inR_not] at *; omega)))⟩ (by show (a.length - (i + 1)) < (a.length - i); omega)))
        · refine R.want (!decide (((a.getD i (0, 0)).1) = 0)) true (by kernel_rfl) (nT c7) ?_
          refine R.go 1 (R.want (!decide (((a.getD i (0, 0)).1) = 0)) true (by kernel_rfl) (nT c7) ?_)
          refine R.go 1 (R.want (!decide (((a.getD i (0, 0)).1) = 0)) true (by kernel_rfl) (nT c7) ?_)
          refine R.idx eN a (0, 0) i (i : Int) (by kernel_rfl) rfl eN_len (by omega) (by kernel_rfl) ?_
          refine R.want (!decide (((a.getD i (0, 0)).1) = 0)) true (by kernel_rfl) (nT c7) ?_
          refine R.go 1 (R.want (!decide (((a.getD i (0, 0)).1) = 0)) true (by kernel_rfl) (nT c7) ?_)
          refine R.go 1 (R.want (!decide (((a.getD i (0, 0)).1) = 0)) true (by kernel_rfl) (nT c7) ?_)
          refine R.go 1 (R.want (!(inR ((a.getD i (0, 0)).2) 0 5)) false (by kernel_rfl) (bnF c6) ?_)
          refine R.pick (!decide (((a.getD i (0, 0)).1) = 0)) true (by kernel_rfl) (nT c7) (by kernel_rfl) ?_
          refine R.pick (!(inR ((a.getD i (0, 0)).2) 0 5)) false (by kernel_rfl) (bnF c6) (by kernel_rfl) ?_
          refine R.go 1 (R.condN (((a.getD i (0, 0)).2) = 0) (by kernel_rfl) (fun c8 => ?_) (fun c8 => ?_))
          · exact R.go 4 (R.retE (.bool false) (by kernel_rfl) (by kernel_rfl) (by first | (apply congrArg AV.bool; first | (rw [tree_yes (by rw [‹a.any badN = _›]; exact any_end (by omega))]; simp [*]; try omega) | (rw [tree_no (by rw [‹a.any badN = _›]; exact any_hit (by omega) ((bad_yes _).2 (by simp only [inR_iff, inR_not] at *; omega)))])) | (exfalso; omega)))
          · refine R.go 4 (R.ar ((i : Int) + 1) (by kernel_rfl) (by omega) (by omega) (by kernel_rfl) ?_)
            exact R.go 2 (R.stop R1 (by kernel_rfl) (N2 (i + 1) [0, 3] none _ (by kernel_rfl) (by kernel_rfl) ⟨(by omega), (by rw [‹a.any badN = _›]; exact any_miss (by omega) ((bad_no _).2 (by simp only [inR_iff, inR_not] at *; omega)))⟩ (by show (a.length - (i + 1)) < (a.length - i); omega)))
      · refine R.skp (!(inR ((a.getD i (0, 0)).2) 0 5)) false (by kernel_rfl) (bnT c6) (by kernel_rfl) ?_
        refine R.skp (!(inR ((a.getD i (0, 0)).2) 0 5)) false (by kernel_rfl) (bnT c6) (by kernel_rfl) ?_
        refine R.skp (!(inR ((a.getD i (0, 0)).2) 0 5)) false (by kernel_rfl) (bnT c6) (by kernel_rfl) ?_
        refine R.skp (!(inR ((a.getD i (0, 0)).2) 0 5)) false (by kernel_rfl) (bnT c6) (by kernel_rfl) ?_
        refine R.skp (!(inR ((a.getD i (0, 0)).2) 0 5)) false (by kernel_rfl) (bnT c6) (by kernel_rfl) ?_
        refine R.skp (!(inR ((a.getD i (0, 0)).2) 0 5)) false (by kernel_rfl) (bnT c6) (by kernel_rfl) ?_
        refine R.skp (!(inR ((a.getD i (0, 0)).2) 0 5)) false (by kernel_rfl) (bnT c6) (by kernel_rfl) ?_
        refine R.go 6 (R.skp (!(inR ((a.getD i (0, 0)).2) 0 5)) false (by kernel_rfl) (bnT c6) (by kernel_rfl) ?_)
        refine R.pick (!(inR ((a.getD i (0, 0)).2) 0 5)) true (by kernel_rfl) (bnT c6) (by kernel_rfl) ?_
        exact R.go 6 (R.retE (.bool false) (by kernel_rfl) (by kernel_rfl) (by first | (apply congrArg AV.bool; first | (rw [tree_yes (by rw [‹a.any badN = _›]; exact any_end (by omega))]; simp [*]; try omega) | (rw [tree_no (by rw [‹a.any badN = _›]; exact any_hit (by omega) ((bad_yes _).2 (by simp only [inR_iff, inR_not] at *; omega)))])) | (exfalso; omega)))
    · refine R.skp (!(inR ((a.getD i (0, 0)).1) 0 6)) false (by kernel_rfl) (bnT c5) (by kernel_rfl) ?_
      refine R.skp (!(inR ((a.getD i (0, 0)).1) 0 6)) false (by kernel_rfl) (bnT c5) (by kernel_rfl) ?_
      refine R.skp (!(inR ((a.getD i (0, 0)).1) 0 6)) false (by kernel_rfl) (bnT c5) (by kernel_rfl) ?_
      refine R.skp (!(inR ((a.getD i (0, 0)).1) 0 6)) false (by kernel_rfl) (bnT c5) (by kernel_rfl) ?_
      refine R.skp (!(inR ((a.getD i (0, 0)).1) 0 6)) false (by kernel_rfl) (bnT c5) (by kernel_rfl) ?_
      refine R.skp (!(inR ((a.getD i (0, 0)).1) 0 6)) false (by kernel_rfl) (bnT c5) (by kernel_rfl) ?_
      refine R.skp (!(inR ((a.getD i (0, 0)).1) 0 6)) false (by kernel_rfl) (bnT c5) (by kernel_rfl) ?_
      refine R.pick (!(inR ((a.getD i (0, 0)).1) 0 6)) true (by kernel_rfl) (bnT c5) (by kernel_rfl) ?_
      exact R.go 22 (R.retE (.bool false) (by kernel_rfl) (by kernel_rfl) (by first | (apply congrArg AV.bool; first | (rw [tree_yes (by rw [‹a.any badN = _›]; exact any_end (by omega))]; simp [*]; try omega) | (rw [tree_no (by rw [‹a.any badN = _›]; exact any_hit (by omega) ((bad_yes _).2 (by simp only [inR_iff, inR_not] at *; omega)))])) | (exfalso; omega)))
  · refine R.go 7 ?_
    by_cases c9 : (a.length : Int) > 0
    · refine R.want (decide ((a.length : Int) > 0)) true (by kernel_rfl) (dT c9) ?_
      refine R.go 1 (R.want (decide ((a.length : Int) > 0)) true (by kernel_rfl) (dT c9) ?_)
      refine R.call true (l02Part_c a 0 (by first | omega | (simp <;> omega)) hl) (by kernel_rfl) rfl (by kernel_rfl) ?_
      refine R.want (decide ((a.length : Int) > 0)) true (by kernel_rfl) (dT c9) ?_
      refine R.go 1 (R.want (decide ((a.length : Int) > 0)) true (by kernel_rfl) (dT c9) ?_)
      refine R.go 1 (R.want (decide ((a.length : Int) > 0)) true (by kernel_rfl) (dT c9) ?_)
      refine R.go 1 (R.pick (decide ((a.length : Int) > 0)) true (by kernel_rfl) (dT c9) (by kernel_rfl) ?_)
      exact R.go 2 (R.retE (.bool (decide ((peX 1 a 0) = (a.length : Int)))) (by kernel_rfl) (by kernel_rfl) (by first | (apply congrArg AV.bool; first | (rw [tree_yes (by rw [‹a.any badN = _›]; exact any_end (by omega))]; simp [*]; try omega) | (rw [tree_no (by rw [‹a.any badN = _›]; exact any_hit (by omega) ((bad_yes _).2 (by simp only [inR_iff, inR_not] at *; omega)))])) | (exfalso; omega)))
    · refine R.skp (decide ((a.length : Int) > 0)) true (by kernel_rfl) (dF c9) (by kernel_rfl) ?_
      refine R.skp (decide ((a.length : Int) > 0)) true (by kernel_rfl) (dF c9) (by kernel_rfl) ?_
      refine R.skp (decide ((a.length : Int) > 0)) true (by kernel_rfl) (dF c9) (by kernel_rfl) ?_
      refine R.skp (decide ((a.length : Int) > 0)) true (by kernel_rfl) (dF c9) (by kernel_rfl) ?_
      refine R.skp (decide ((a.length : Int) > 0)) true (by kernel_rfl) (dF c9) (by kernel_rfl) ?_
      refine R.pick (decide ((a.length : Int) > 0)) false (by kernel_rfl) (dF c9) (by kernel_rfl) ?_
      exact R.go 2 (R.retE (.bool false) (by kernel_rfl) (by kernel_rfl) (by first | (apply congrArg AV.bool; first | (rw [tree_yes (by rw [‹a.any badN = _›]; exact any_end (by omega))]; simp [*]; try omega) | (rw [tree_no (by rw [‹a.any badN = _›]; exact any_hit (by omega) ((bad_yes _).2 (by simp only [inR_iff, inR_not] at *; omega)))])) | (exfalso; omega)))

theorem l02Is_c (a : List (Int × Int)) (hl : a.length ≤ 1000000000) : CallA Tryz.prog 47 [LN a] (.bool (isF a)) := by
  refine CallA.of Tryz.func47 rfl (by kernel_rfl) ?_
  refine R.go 10 ?_
  by_cases c1 : (a.length : Int) ≤ 40
  · refine R.want (decide ((a.length : Int) ≤ 40)) true (by kernel_rfl) (dT c1) ?_
    refine R.go 1 (R.want (decide ((a.length : Int) ≤ 40)) true (by kernel_rfl) (dT c1) ?_)
    refine R.call true (l02Tree_c a hl) (by kernel_rfl) rfl (by kernel_rfl) ?_
    refine R.pick (decide ((a.length : Int) ≤ 40)) true (by kernel_rfl) (dT c1) (by kernel_rfl) ?_
    exact R.go 2 (R.retE (.bool (treeB a)) (by kernel_rfl) (by kernel_rfl) (by first | (apply congrArg AV.bool; simp [isF, *]; try omega) | (exfalso; omega)))
  · refine R.skp (decide ((a.length : Int) ≤ 40)) true (by kernel_rfl) (dF c1) (by kernel_rfl) ?_
    refine R.skp (decide ((a.length : Int) ≤ 40)) true (by kernel_rfl) (dF c1) (by kernel_rfl) ?_
    refine R.pick (decide ((a.length : Int) ≤ 40)) false (by kernel_rfl) (dF c1) (by kernel_rfl) ?_
    exact R.go 2 (R.retE (.bool false) (by kernel_rfl) (by kernel_rfl) (by first | (apply congrArg AV.bool; simp [isF, *]; try omega) | (exfalso; omega)))

theorem l02Variables_list_c (m : Int) (h0 : 0 ≤ m) (h1 : m ≤ 63) : CallA Tryz.prog 23 [AI m] (ownA eI 2 1 (bitsL 6 m 0)) := by
  refine CallA.of Tryz.func23 rfl (by kernel_rfl) ?_
  refine R.go 15 (R.loop ((fun | (out, f, m', i) => (⟨(frm 20 [(0, AI m'), (3, .ref 0), (4, AI i)]), [rowA eI 2 1 out]⟩ : St) : (List Int) × Nat × Int × Int → St)) (fun | (out, f, m', i) => (0 ≤ m' ∧ m' ≤ 63) ∧ (m' < 2 ^ f) ∧ (i = 6 - f) ∧ (f ≤ 6) ∧ (out.length ≤ i) ∧ (out ++ bitsL f m' i = bitsL 6 m 0)) (fun | (out, f, m', i) => f) ([], 6, m, 0) [0, 3, 4] none (by kernel_rfl) (by kernel_rfl) (by kernel_rfl) ⟨(by omega), (by omega), (by omega), (by omega), (by simp), (by rfl)⟩ ?_)
  rintro ⟨out, f, m', i⟩ ⟨h4_1, h4_2, h4_3, h4_4, h4_5, h4_6⟩ R1 N2
  have hf : 0 < m' → f = f - 1 + 1 := fun h => by
    cases f with
    | zero => simp at *; omega
    | succ f => rfl
  have hh : 0 < m' → m' / 2 < 2 ^ (f - 1) := fun h => half_lt (by rw [← hf h]; assumption)
  have b1 : 0 < m' → m' % 2 = 1 → bitsL f m' i = i :: bitsL (f - 1) (m' / 2) (i + 1) := fun h h1 => by rw [hf h]; exact bits_one _ _ _ h h1
  have b0 : 0 < m' → ¬ m' % 2 = 1 → bitsL f m' i = bitsL (f - 1) (m' / 2) (i + 1) := fun h h1 => by rw [hf h]; exact bits_no _ _ _ h h1
  refine R.go 6 (R.cond (m' > 0) (by kernel_rfl) (fun c5 => ?_) (fun c5 => ?_))
  · refine R.go 7 (R.rem m' 2 (by kernel_rfl) (by omega) (by omega) (by kernel_rfl) ?_)
    refine R.go 2 (R.cond ((m' % 2) = 1) (by kernel_rfl) (fun c6 => ?_) (fun c6 => ?_))
    · refine R.go 4 (R.app eI out [i] 0 2 1 8 (by kernel_rfl) eI_one (by decide) (by first | omega | (simp <;> omega)) (by kernel_rfl) ?_)
      refine R.go 4 (R.ar (i + 1) (by kernel_rfl) (by omega) (by omega) (by kernel_rfl) ?_)
      refine R.go 5 (R.quo m' 2 (by kernel_rfl) (by omega) (by omega) (by omega) (by kernel_rfl) ?_)
      exact R.go 2 (R.stop R1 (by kernel_rfl) (N2 (out ++ [i], (f - 1), m' / 2, i + 1) [0, 3, 4] (some [0]) _ (by kernel_rfl) (by kernel_rfl) ⟨(by omega), (by exact hh (by omega)), (by have := hf (by omega); omega), (by omega), (by first | omega | (simp <;> omega)), (by first | (rw [List.append_assoc, List.singleton_append, ← b1 (by omega) (by omega)]; assumption) | (rw [← b0 (by omega) (by omega)]; assumption))⟩ (by show (f - 1) < f; have := hf (by omega); omega)))
    · refine R.go 3 (R.ar (i + 1) (by kernel_rfl) (by omega) (by omega) (by kernel_rfl) ?_)
      refine R.go 5 (R.quo m' 2 (by kernel_rfl) (by omega) (by omega) (by omega) (by kernel_rfl) ?_)
      exact R.go 2 (R.stop R1 (by kernel_rfl) (N2 (out, (f - 1), m' / 2, i + 1) [0, 3, 4] none _ (by kernel_rfl) (by kernel_rfl) ⟨(by omega), (by exact hh (by omega)), (by have := hf (by omega); omega), (by omega), (by first | omega | (simp <;> omega)), (by first | (rw [List.append_assoc, List.singleton_append, ← b1 (by omega) (by omega)]; assumption) | (rw [← b0 (by omega) (by omega)]; assumption))⟩ (by show (f - 1) < f; have := hf (by omega); omega)))
  · exact R.go 6 (R.retE (ownA eI 2 1 out) (by kernel_rfl) (by kernel_rfl) (by first | (rw [show out = bitsL 6 m 0 by rw [← ‹out ++ bitsL f m' i = bitsL 6 m 0›, bits_end f m' i (by omega), List.append_nil]]) | (exfalso; omega)))

theorem l02Variables_c (a : List (Int × Int)) (hb : a.any badN = false) (hl : a.length ≤ 40) : CallA Tryz.prog 52 [LN a] (ownA eI 2 1 (bitsL 6 (vmTo a a.length) 0)) := by
  refine CallA.of Tryz.func52 rfl (by kernel_rfl) ?_
  refine R.go 14 (R.loop ((fun | (i, m) => (⟨(frm 27 [(0, LN a), (3, AI m), (4, AI (i : Int))]), []⟩ : St) : Nat × Int → St)) (fun | (i, m) => (i ≤ a.length) ∧ (m = vmTo a i)) (fun | (i, m) => a.length - i) (0, 0) [0, 3, 4] none (by kernel_rfl) (by kernel_rfl) (by kernel_rfl) ⟨(by omega), (by rfl)⟩ ?_)
  rintro ⟨i, m⟩ ⟨h4_1, h4_2⟩ R1 N2
  have hk : i < a.length → (a.getD i (0, 0)).1 = 0 → 0 ≤ (a.getD i (0, 0)).2 ∧ (a.getD i (0, 0)).2 ≤ 5 := fun h h0 => by
    have hn := (okN_yes _).1 (okN_get hb h)
    omega
  have hr := vm_rng hb i (by omega)
  refine R.go 8 (R.cond ((i : Int) < (a.length : Int)) (by kernel_rfl) (fun c5 => ?_) (fun c5 => ?_))
  · refine R.go 7 (R.idx eN a (0, 0) i (i : Int) (by kernel_rfl) rfl eN_len (by omega) (by kernel_rfl) ?_)
    refine R.go 4 (R.cond (((a.getD i (0, 0)).1) = 0) (by kernel_rfl) (fun c6 => ?_) (fun c6 => ?_))
    · refine R.go 4 (R.idx eN a (0, 0) i (i : Int) (by kernel_rfl) rfl eN_len (by omega) (by kernel_rfl) ?_)
      refine R.go 2 (R.call true (l01One_c ((a.getD i (0, 0)).2) (by omega) (by omega)) (by kernel_rfl) rfl (by kernel_rfl) ?_)
      refine R.go 6 (R.ar ((i : Int) + 1) (by kernel_rfl) (by omega) (by omega) (by kernel_rfl) ?_)
      exact R.go 2 (R.stop R1 (by kernel_rfl) (N2 (i + 1, bor m (shl64 1 ((a.getD i (0, 0)).2))) [0, 3, 4] none _ (by kernel_rfl) (by kernel_rfl) ⟨(by omega), (by first | (rw [vmTo, if_pos ‹(a.getD i (0, 0)).1 = 0›, ← ‹m = vmTo a i›]) | (rw [vmTo, if_neg ‹¬ (a.getD i (0, 0)).1 = 0›]; assumption))⟩ (by show (a.length - (i + 1)) < (a.length - i); omega)))
    · refine R.go 4 (R.ar ((i : Int) + 1) (by kernel_rfl) (by omega) (by omega) (by kernel_rfl) ?_)
      exact R.go 2 (R.stop R1 (by kernel_rfl) (N2 (i + 1, m) [0, 3, 4] none _ (by kernel_rfl) (by kernel_rfl) ⟨(by omega), (by first | (rw [vmTo, if_pos ‹(a.getD i (0, 0)).1 = 0›, ← ‹m = vmTo a i›]) | (rw [vmTo, if_neg ‹¬ (a.getD i (0, 0)).1 = 0›]; assumption))⟩ (by show (a.length - (i + 1)) < (a.length - i); omega)))
  · refine R.go 4 (R.call true (l02Variables_list_c m (by omega) (by omega)) (by kernel_rfl) rfl (by kernel_rfl) ?_)
    exact R.go 2 (R.retE (ownA eI 2 1 (bitsL 6 m 0)) (by kernel_rfl) (by kernel_rfl) (by first | (rw [‹m = _›, show i = a.length by omega]) | (exfalso; omega)))

theorem variableMask_c (a : List (Int × Int)) (hb : a.any badN = false) (hl : a.length ≤ 40) : CallA Tryz.prog 58 [LN a] (AI (vmTo a a.length)) := by
  refine CallA.of Tryz.func58 rfl (by kernel_rfl) ?_
  refine R.go 16 (R.loop ((fun | (i, m) => (⟨(frm 22 [(3, AI m), (6, LN a), (7, AI a.length), (8, AI (i : Int))]), []⟩ : St) : Nat × Int → St)) (fun | (i, m) => (i ≤ a.length) ∧ (m = vmTo a i)) (fun | (i, m) => a.length - i) (0, 0) [3, 6, 7, 8] none (by kernel_rfl) (by kernel_rfl) (by kernel_rfl) ⟨(by omega), (by rfl)⟩ ?_)
  rintro ⟨i, m⟩ ⟨h4_1, h4_2⟩ R1 N2
  have hk : i < a.length → (a.getD i (0, 0)).1 = 0 → 0 ≤ (a.getD i (0, 0)).2 ∧ (a.getD i (0, 0)).2 ≤ 5 := fun h h0 => by
    have hn := (okN_yes _).1 (okN_get hb h)
    omega
  refine R.go 5 (R.cond ((i : Int) < (a.length : Int)) (by kernel_rfl) (fun c5 => ?_) (fun c5 => ?_))
  · refine R.go 5 (R.idx eN a (0, 0) i (i : Int) (by kernel_rfl) rfl eN_len (by omega) (by kernel_rfl) ?_)
    refine R.go 10 (R.cond (((a.getD i (0, 0)).1) = 0) (by kernel_rfl) (fun c6 => ?_) (fun c6 => ?_))
    · refine R.go 4 (R.shl 1 ((a.getD i (0, 0)).2) (by kernel_rfl) (by omega) (by kernel_rfl) ?_)
      refine R.go 5 (R.ar ((i : Int) + 1) (by kernel_rfl) (by omega) (by omega) (by kernel_rfl) ?_)
      exact R.go 2 (R.stop R1 (by kernel_rfl) (N2 (i + 1, bor m (shl64 1 ((a.getD i (0, 0)).2))) [3, 6, 7, 8] (some []) _ (by kernel_rfl) (by kernel_rfl) ⟨(by omega), (by first | (rw [vmTo, if_pos ‹(a.getD i (0, 0)).1 = 0›, ← ‹m = vmTo a i›]) | (rw [vmTo, if_neg ‹¬ (a.getD i (0, 0)).1 = 0›]; assumption))⟩ (by show (a.length - (i + 1)) < (a.length - i); omega)))
    · refine R.go 3 (R.ar ((i : Int) + 1) (by kernel_rfl) (by omega) (by omega) (by kernel_rfl) ?_)
      exact R.go 2 (R.stop R1 (by kernel_rfl) (N2 (i + 1, m) [3, 6, 7, 8] (some []) _ (by kernel_rfl) (by kernel_rfl) ⟨(by omega), (by first | (rw [vmTo, if_pos ‹(a.getD i (0, 0)).1 = 0›, ← ‹m = vmTo a i›]) | (rw [vmTo, if_neg ‹¬ (a.getD i (0, 0)).1 = 0›]; assumption))⟩ (by show (a.length - (i + 1)) < (a.length - i); omega)))
  · exact R.go 6 (R.retE (AI m) (by kernel_rfl) (by kernel_rfl) (by first | (rw [‹m = _›, show i = a.length by omega]) | (exfalso; omega)))

end Go.Proofs.YtogehjciaamcfaaGreat


/-! Lists of formulas: their variables. -/
namespace Go.Proofs.YtogehjciaamcfaaGreat
open Go.RowKit Go.Abs

/-- The variables of the first formulas. -/
def vmT (l : List (List (Int × Int))) : Nat → Int
  | 0 => 0
  | i + 1 => bor (vmT l i) (vmTo (l.getD i []) (l.getD i []).length)
def allF (l : List (List (Int × Int))) : Bool := !l.any fun a => !isF a
theorem allF_get {l : List (List (Int × Int))} (h : allF l = true) (j : Nat) (hj : j < l.length) : isF (l.getD j []) = true := by
  unfold allF at h
  rw [Bool.not_eq_true', List.any_eq_false] at h
  have h1 : l.getD j [] ∈ l := by
    rw [List.getD_eq_getElem?_getD, List.getElem?_eq_getElem hj, Option.getD_some]
    exact List.getElem_mem hj
  simpa using h _ h1
theorem vmT_rng {l : List (List (Int × Int))} (h : allF l = true) : ∀ i, i ≤ l.length → 0 ≤ vmT l i ∧ vmT l i ≤ 63
  | 0, _ => ⟨Int.le_refl _, by simp [vmT]⟩
  | i + 1, hi => by
    have ih := vmT_rng h i (by omega)
    have hv := vm_rng (isF_parts (allF_get h i (by omega))).2.2.1 _ (Nat.le_refl _)
    have hb := bor_63 ih.1 ih.2 hv.1 hv.2
    exact ⟨hb.1, hb.2.1⟩
theorem vm63 {a : List (Int × Int)} (h : a.any badN = false) : InM 6 (vmTo a a.length) := by
  have := vm_rng h _ (Nat.le_refl _)
  exact ⟨this.1, by have : (2 : Nat) ^ 6 = 64 := by decide
                    omega⟩
theorem inM6 {m : Int} (h0 : 0 ≤ m) (h1 : m ≤ 63) : InM 6 m := ⟨h0, by have : (2 : Nat) ^ 6 = 64 := by decide
                                                                       omega⟩
theorem inM6_le {m : Int} (h : InM 6 m) : 0 ≤ m ∧ m ≤ 63 := ⟨h.1, by have : (2 : Nat) ^ 6 = 64 := by decide
                                                                     have := h.2
                                                                     omega⟩
/-- A mask with the first members of a list. -/
def orTo (m : Int) (vs : List Int) : Nat → Int
  | 0 => m
  | k + 1 => bor (orTo m vs k) (shl64 1 (vs.getD k 0))
theorem mem_get {m : Int} {v : Int} (h : v ∈ mem m) (hm : InM 6 m) : 0 ≤ v ∧ v < 6 ∧ tb m v.toNat = true := by
  obtain ⟨j, h1, h2, rfl⟩ := memN_mem.1 h
  have := tb_lt hm h2
  exact ⟨by omega, by omega, h2⟩
theorem mem_at {v : Int} (hv : InM 6 v) {k : Nat} (h : k < (mem v).length) : 0 ≤ (mem v).getD k 0 ∧ (mem v).getD k 0 < 6 := by
  have hg : (mem v).getD k 0 ∈ mem v := by
    rw [List.getD_eq_getElem?_getD, List.getElem?_eq_getElem h, Option.getD_some]
    exact List.getElem_mem _
  have := mem_get hg hv
  exact ⟨this.1, this.2.1⟩
theorem orTo_ok {m : Int} {vs : List Int} (hm : InM 6 m) (hv : ∀ v ∈ vs, 0 ≤ v ∧ v < 6) : ∀ k, k ≤ vs.length → InM 6 (orTo m vs k) ∧ ∀ j, tb (orTo m vs k) j = true ↔ tb m j = true ∨ ∃ i, i < k ∧ vs.getD i 0 = (j : Int)
  | 0, _ => ⟨hm, fun j => by simp [orTo]⟩
  | k + 1, hk => by
    obtain ⟨h1, h2⟩ := orTo_ok hm hv k (by omega)
    have hg : vs.getD k 0 ∈ vs := by
      rw [List.getD_eq_getElem?_getD, List.getElem?_eq_getElem (by omega), Option.getD_some]
      exact List.getElem_mem _
    obtain ⟨v, hvv⟩ : ∃ v : Nat, vs.getD k 0 = (v : Int) := ⟨(vs.getD k 0).toNat, by have := hv _ hg; omega⟩
    have hv6 : v < 6 := by have := hv _ hg; omega
    have h3 := inM_one (n := 6) (by decide) hv6
    rw [orTo, hvv]
    refine ⟨inM_bor (by decide) h1 h3, fun j => ?_⟩
    rw [tb_bor (by decide) h1 h3, Bool.or_eq_true, h2 j, tb_one (by omega), decide_eq_true_iff]
    constructor
    · rintro ((h | ⟨i, a, b⟩) | h)
      · exact .inl h
      · exact .inr ⟨i, by omega, b⟩
      · exact .inr ⟨k, by omega, by rw [hvv, h]⟩
    · rintro (h | ⟨i, a, b⟩)
      · exact .inl (.inl h)
      · by_cases hik : i = k
        · subst hik; exact .inr (by rw [hvv] at b; omega)
        · exact .inl (.inr ⟨i, by omega, b⟩)
theorem orTo_mem {m v : Int} (hm : InM 6 m) (hv : InM 6 v) : orTo m (mem v) (mem v).length = bor m v := by
  obtain ⟨h1, h2⟩ := orTo_ok hm (fun x hx => by have := mem_get hx hv; exact ⟨this.1, this.2.1⟩) (mem v).length (Nat.le_refl _)
  refine tb_ext h1.1 (inM_bor (by decide) hm hv).1 fun j => ?_
  rw [Bool.eq_iff_iff, h2 j, tb_bor (by decide) hm hv, Bool.or_eq_true]
  constructor
  · rintro (h | ⟨i, a, b⟩)
    · exact .inl h
    · have hg : (mem v).getD i 0 ∈ mem v := by
        rw [List.getD_eq_getElem?_getD, List.getElem?_eq_getElem a, Option.getD_some]
        exact List.getElem_mem _
      have := (mem_get hg hv).2.2
      rw [b] at this
      exact .inr this
  · rintro (h | h)
    · exact .inl h
    · have hj := tb_lt hv h
      have : (j : Int) ∈ mem v := memN_mem.2 ⟨j, by omega, h, rfl⟩
      obtain ⟨i, hi, e⟩ := List.getElem_of_mem this
      exact .inr ⟨i, hi, by rw [List.getD_eq_getElem?_getD, List.getElem?_eq_getElem hi, Option.getD_some, e]⟩
theorem bits_mem : ∀ m : Fin 64, bitsL 6 (m.val : Int) 0 = mem (m.val : Int) := by decide +kernel
theorem bits_mem6 {m : Int} (h : InM 6 m) : bitsL 6 m 0 = mem m := by
  obtain ⟨h0, h1⟩ := inM6_le h
  obtain ⟨m, rfl⟩ := Int.eq_ofNat_of_zero_le h0
  exact bits_mem ⟨m, by omega⟩
def fidxF (p : List (Int × Int) → Bool) : List (List (Int × Int)) → Int → Int
  | [], _ => -1
  | x :: l, i => if p x = true then i else fidxF p l (i + 1)
theorem drop_consF (a : List (List (Int × Int))) (j : Nat) (h : j < a.length) : a.drop j = a.getD j [] :: a.drop (j + 1) := by
  rw [List.drop_eq_getElem_cons h, List.getD_eq_getElem?_getD, List.getElem?_eq_getElem h]; rfl
theorem fidxF_hit {p : List (Int × Int) → Bool} {a : List (List (Int × Int))} {i : Nat} (h : i < a.length) (hp : p (a.getD i []) = true) : fidxF p (a.drop i) i = i := by
  rw [drop_consF a i h, fidxF, if_pos hp]
theorem fidxF_miss {p : List (Int × Int) → Bool} {a : List (List (Int × Int))} {i : Nat} (h : i < a.length) (hp : p (a.getD i []) = false) : fidxF p (a.drop i) i = fidxF p (a.drop (i + 1)) ((i + 1 : Nat) : Int) := by
  rw [drop_consF a i h, fidxF, if_neg (by rw [hp]; decide)]
  rfl
theorem fidxF_end {p : List (Int × Int) → Bool} {a : List (List (Int × Int))} {i : Nat} (h : a.length ≤ i) : fidxF p (a.drop i) i = -1 := by
  rw [List.drop_eq_nil_of_le h, fidxF]
theorem fidxF_any {p : List (Int × Int) → Bool} : ∀ {a : List (List (Int × Int))} {i : Int}, 0 ≤ i → (0 ≤ fidxF p a i ↔ a.any p = true)
  | [], i, h => by simp [fidxF]
  | x :: a, i, h => by
    have ih := fidxF_any (p := p) (a := a) (i := i + 1) (by omega)
    rw [fidxF, List.any_cons]
    by_cases hp : p x = true
    · simp [hp, h]
    · rw [if_neg hp, ih]; simp [hp]
/-- The rows of l are short. -/
def shortL (l : List (List (Int × Int))) : Prop := l.length ≤ 1000000000 ∧ ∀ j : Nat, j < l.length → (l.getD j []).length ≤ 1000000000
def notF (a : List (Int × Int)) : Bool := !isF a
theorem notF_yes {a : List (Int × Int)} (h : isF a = false) : notF a = true := by rw [notF, h]; rfl
theorem notF_no {a : List (Int × Int)} (h : isF a = true) : notF a = false := by rw [notF, h]; rfl
theorem allF_not (l : List (List (Int × Int))) : allF l = !l.any notF := rfl

theorem shortL_one {a : List (Int × Int)} (h : a.length ≤ 1000000000) : shortL [a] := ⟨by simp, fun j hj => by
  have hj : j = 0 := by simpa using hj
  subst hj
  simpa using h⟩

theorem areFormulas1_c (a : List (Int × Int)) (hl : a.length ≤ 1000000000) : CallA Tryz.prog 82 [LN a] (.bool (notF a)) := by
  refine CallA.of Tryz.func82 rfl (by kernel_rfl) ?_
  refine R.go 7 (R.call true (isFormula_c a hl) (by kernel_rfl) rfl (by kernel_rfl) ?_)
  exact R.go 3 (R.retE (.bool (!(isF a))) (by kernel_rfl) (by kernel_rfl) (by first | (rfl) | (exfalso; omega)))

theorem index_notF_c (l : List (List (Int × Int))) (hs : shortL l) : CallA Tryz.prog 126 [LLN l, .fn 82 []] (AI (fidxF notF l 0)) := by
  have hl := hs.1
  refine CallA.of Tryz.func126 rfl (by kernel_rfl) ?_
  refine R.go 12 (R.loop (fun (i : Nat) => (⟨(frm 19 [(0, LLN l), (1, .fn 82 []), (7, AI l.length), (8, AI (i : Int))]), []⟩ : St)) (fun (i : Nat) => (i ≤ l.length) ∧ (fidxF notF l 0 = fidxF notF (l.drop i) i)) (fun (i : Nat) => l.length - i) 0 [0, 1, 7, 8] none (by kernel_rfl) (by kernel_rfl) (by kernel_rfl) ⟨(by omega), (by rfl)⟩ ?_)
  rintro i ⟨h3_1, h3_2⟩ R1 N2
  refine R.go 5 (R.cond ((i : Int) < (l.length : Int)) (by kernel_rfl) (fun c4 => ?_) (fun c4 => ?_))
  · have hj := hs.2 i (by omega)
    refine R.go 13 (R.idx eLN l [] i (i : Int) (by kernel_rfl) rfl eLN_len (by omega) (by kernel_rfl) ?_)
    refine R.go 1 (R.call true (areFormulas1_c (l.getD i []) (by first | omega | (simp <;> omega))) (by kernel_rfl) rfl (by kernel_rfl) ?_)
    refine R.go 1 (R.condB (notF (l.getD i [])) (by kernel_rfl) (fun c5 => ?_) (fun c5 => ?_))
    · exact R.go 5 (R.retE (AI (i : Int)) (by kernel_rfl) (by kernel_rfl) (by first | (apply congrArg AI; rw [‹fidxF notF l 0 = _›]; first | exact (fidxF_end (by omega)).symm | exact (fidxF_hit (by omega) (by assumption)).symm) | (exfalso; omega)))
    · refine R.go 3 (R.ar ((i : Int) + 1) (by kernel_rfl) (by omega) (by omega) (by kernel_rfl) ?_)
      exact R.go 2 (R.stop R1 (by kernel_rfl) (N2 (i + 1) [0, 1, 7, 8] none _ (by kernel_rfl) (by kernel_rfl) ⟨(by omega), (by rw [‹fidxF notF l 0 = _›]; exact fidxF_miss (by omega) (by assumption))⟩ (by show (l.length - (i + 1)) < (l.length - i); omega)))
  · exact R.go 5 (R.retE (AI (-1)) (by kernel_rfl) (by kernel_rfl) (by first | (apply congrArg AI; rw [‹fidxF notF l 0 = _›]; first | exact (fidxF_end (by omega)).symm | exact (fidxF_hit (by omega) (by assumption)).symm) | (exfalso; omega)))

theorem contains_notF_c (l : List (List (Int × Int))) (hs : shortL l) : CallA Tryz.prog 81 [LLN l, .fn 82 []] (.bool (l.any notF)) := by
  refine CallA.of Tryz.func81 rfl (by kernel_rfl) ?_
  refine R.go 8 (R.call true (index_notF_c l hs) (by kernel_rfl) rfl (by kernel_rfl) ?_)
  exact R.go 3 (R.retE (.bool (decide ((fidxF notF l 0) ≥ 0))) (by kernel_rfl) (by kernel_rfl) (by first | (apply congrArg AV.bool; rw [Bool.eq_iff_iff, decide_eq_true_iff]; exact fidxF_any (Int.le_refl 0)) | (exfalso; omega)))

theorem areFormulas_c (l : List (List (Int × Int))) (hs : shortL l) : CallA Tryz.prog 41 [LLN l] (.bool (allF l)) := by
  refine CallA.of Tryz.func41 rfl (by kernel_rfl) ?_
  refine R.go 7 (R.call true (contains_notF_c l hs) (by kernel_rfl) rfl (by kernel_rfl) ?_)
  exact R.go 3 (R.retE (.bool (!(l.any notF))) (by kernel_rfl) (by kernel_rfl) (by first | (rfl) | (exfalso; omega)))

theorem variablesIn_c (l : List (List (Int × Int))) (hF : allF l = true) (hl : l.length ≤ 1000000000) : CallA Tryz.prog 27 [LLN l] (ownA eI 2 1 (mem (vmT l l.length))) := by
  refine CallA.of Tryz.func27 rfl (by kernel_rfl) ?_
  refine R.go 16 (R.loop ((fun | (i, m) => (⟨(frm 19 [(3, AI m), (6, LLN l), (7, AI l.length), (8, AI (i : Int))]), []⟩ : St) : Nat × Int → St)) (fun | (i, m) => (i ≤ l.length) ∧ (m = vmT l i)) (fun | (i, m) => l.length - i) (0, 0) [3, 6, 7, 8] none (by kernel_rfl) (by kernel_rfl) (by kernel_rfl) ⟨(by omega), (by rfl)⟩ ?_)
  rintro ⟨i, m⟩ ⟨h4_1, h4_2⟩ R1 N2
  have hv := vmT_rng hF i (by omega)
  have ha := fun h : i < l.length => isF_parts (allF_get hF i h)
  refine R.go 5 (R.cond ((i : Int) < (l.length : Int)) (by kernel_rfl) (fun c5 => ?_) (fun c5 => ?_))
  · refine R.go 5 (R.idx eLN l [] i (i : Int) (by kernel_rfl) rfl eLN_len (by omega) (by kernel_rfl) ?_)
    have hb : (l.getD i []).any badN = false := (ha (by omega)).2.2.1
    have hl4 : (l.getD i []).length ≤ 40 := (ha (by omega)).1
    refine R.go 6 (R.call true (variableMask_c (l.getD i []) hb hl4) (by kernel_rfl) rfl (by kernel_rfl) ?_)
    refine R.go 5 (R.ar ((i : Int) + 1) (by kernel_rfl) (by omega) (by omega) (by kernel_rfl) ?_)
    exact R.go 2 (R.stop R1 (by kernel_rfl) (N2 (i + 1, bor m (vmTo (l.getD i []) (l.getD i []).length)) [3, 6, 7, 8] none _ (by kernel_rfl) (by kernel_rfl) ⟨(by omega), (by rw [vmT, ← ‹m = vmT l i›])⟩ (by show (l.length - (i + 1)) < (l.length - i); omega)))
  · have hv2 := vmT_rng hF i (by omega)
    refine R.go 4 (R.call true (membersOf_c m (by first | assumption | exact inM61 (by omega) (by omega))) (by kernel_rfl) rfl (by kernel_rfl) ?_)
    exact R.go 2 (R.retE (ownA eI 2 1 (mem m)) (by kernel_rfl) (by kernel_rfl) (by first | (rw [‹m = vmT l i›, show i = l.length by omega]) | (exfalso; omega)))

theorem l02VariablesM_c (a : List (Int × Int)) (hb : a.any badN = false) (hl : a.length ≤ 40) : CallA Tryz.prog 52 [LN a] (ownA eI 2 1 (mem (vmTo a a.length))) := by
  have h := l02Variables_c a hb hl
  rw [bits_mem6 (vm63 hb)] at h
  exact h

theorem l06Variables_c (l : List (List (Int × Int))) (hF : allF l = true) (hl : l.length ≤ 1000000000) : CallA Tryz.prog 51 [LLN l] (ownA eI 2 1 (mem (vmT l l.length))) := by
  refine CallA.of Tryz.func51 rfl (by kernel_rfl) ?_
  refine R.go 14 (R.loop ((fun | (i, m) => (⟨(frm 33 [(0, LLN l), (3, AI m), (4, AI (i : Int))]), []⟩ : St) : Nat × Int → St)) (fun | (i, m) => (i ≤ l.length) ∧ (m = vmT l i)) (fun | (i, m) => l.length - i) (0, 0) [0, 3, 4] none (by kernel_rfl) (by kernel_rfl) (by kernel_rfl) ⟨(by omega), (by rfl)⟩ ?_)
  rintro ⟨i, m⟩ ⟨h4_1, h4_2⟩ R1 N2
  have hv := vmT_rng hF i (by omega)
  have ha := fun h : i < l.length => isF_parts (allF_get hF i h)
  refine R.go 8 (R.cond ((i : Int) < (l.length : Int)) (by kernel_rfl) (fun c5 => ?_) (fun c5 => ?_))
  · have hb : (l.getD i []).any badN = false := (ha (by omega)).2.2.1
    have hl4 : (l.getD i []).length ≤ 40 := (ha (by omega)).1
    have hv6 := vm63 hb
    have hm6 : InM 6 (vmT l i) := inM6 hv.1 hv.2
    refine R.go 7 (R.idx eLN l [] i (i : Int) (by kernel_rfl) rfl eLN_len (by omega) (by kernel_rfl) ?_)
    refine R.go 1 (R.call true (l02VariablesM_c (l.getD i []) hb hl4).frz (by kernel_rfl) rfl (by kernel_rfl) ?_)
    refine R.go 7 (R.loop ((fun | (k, m2) => (⟨(frm 33 [(0, LLN l), (3, AI m2), (4, AI (i : Int)), (5, LI (mem (vmTo (l.getD i []) (l.getD i []).length))), (6, AI (k : Int))]), []⟩ : St) : Nat × Int → St)) (fun | (k, m2) => (k ≤ (mem (vmTo (l.getD i []) (l.getD i []).length)).length) ∧ (m2 = orTo m (mem (vmTo (l.getD i []) (l.getD i []).length)) k)) (fun | (k, m2) => (mem (vmTo (l.getD i []) (l.getD i []).length)).length - k) (0, m) [0, 3, 4, 5, 6] none (by kernel_rfl) (by kernel_rfl) (by kernel_rfl) ⟨(by omega), (by rfl)⟩ ?_)
    rintro ⟨k, m2⟩ ⟨h9_1, h9_2⟩ R6 N7
    have hg := fun h : k < (mem (vmTo (l.getD i []) (l.getD i []).length)).length => mem_at hv6 h
    have hml := mem_le (vmTo (l.getD i []) (l.getD i []).length)
    refine R.go 8 (R.cond ((k : Int) < ((mem (vmTo (l.getD i []) (l.getD i []).length)).length : Int)) (by kernel_rfl) (fun c10 => ?_) (fun c10 => ?_))
    · have hg2 := hg (by omega)
      refine R.go 7 (R.idx eI (mem (vmTo (l.getD i []) (l.getD i []).length)) 0 k (k : Int) (by kernel_rfl) rfl eI_len (by first | omega | (simp <;> omega)) (by kernel_rfl) ?_)
      refine R.go 1 (R.call true (l01One_c ((mem (vmTo (l.getD i []) (l.getD i []).length)).getD k 0) (by first | omega | (simp <;> omega)) (by first | omega | (simp <;> omega))) (by kernel_rfl) rfl (by kernel_rfl) ?_)
      refine R.go 6 (R.ar ((k : Int) + 1) (by kernel_rfl) (by omega) (by omega) (by kernel_rfl) ?_)
      exact R.go 2 (R.stop R6 (by kernel_rfl) (N7 (k + 1, bor m2 (shl64 1 ((mem (vmTo (l.getD i []) (l.getD i []).length)).getD k 0))) [0, 3, 4, 5, 6] none _ (by kernel_rfl) (by kernel_rfl) ⟨(by omega), (by rw [orTo, ← ‹m2 = orTo m (mem (vmTo (l.getD i []) (l.getD i []).length)) k›])⟩ (by show ((mem (vmTo (l.getD i []) (l.getD i []).length)).length - (k + 1)) < ((mem (vmTo (l.getD i []) (l.getD i []).length)).length - k); omega)))
    · refine R.go 4 (R.ar ((i : Int) + 1) (by kernel_rfl) (by omega) (by omega) (by kernel_rfl) ?_)
      exact R.go 2 (R.stop R1 (by kernel_rfl) (N2 (i + 1, m2) [0, 3, 4] none _ (by kernel_rfl) (by kernel_rfl) ⟨(by omega), (by rw [vmT, ← orTo_mem hm6 hv6, ← ‹m = vmT l i›, ← show k = (mem _).length by omega]; assumption)⟩ (by show (l.length - (i + 1)) < (l.length - i); omega)))
  · have hv2 := vmT_rng hF i (by omega)
    refine R.go 4 (R.call true (l01ListM_c m (by first | assumption | exact inM61 (by omega) (by omega))) (by kernel_rfl) rfl (by kernel_rfl) ?_)
    exact R.go 2 (R.retE (ownA eI 2 1 (mem m)) (by kernel_rfl) (by kernel_rfl) (by first | (rw [‹m = vmT l i›, show i = l.length by omega]) | (exfalso; omega)))

end Go.Proofs.YtogehjciaamcfaaGreat


/-! The machine's rules: loops over functions. -/
namespace Go.Abs
open Go.RowKit

/-- A new object that names no block. -/
theorem HRel.extend0 {w w' : World} {Z : Nat → Prop} {B : Nat} {μ : List Value} {hp : List AObj} {u : Value} {o : AObj} (h : HRel w Z B μ hp)
    (hb : Below w.heap.size w w') (hnew : ObjRel w' Z (μ ++ [u]) B u o) (hbl : blk u = none) (hone : u.oneCell' = true) : HRel w' Z B (μ ++ [u]) (hp ++ [o]) := by
  have hold : ∀ (i : Nat) (x : Value), μ[i]? = some x → (μ ++ [u])[i]? = some x := fun i x hx => by
    rw [List.getElem?_append_left (List.getElem?_eq_some_iff.1 hx).1]; exact hx
  have hbk : ∀ (i : Nat) oi ui g, hp[i]? = some oi → oi.alive = true → μ[i]? = some ui → blk ui = some g → g < w.heap.size := fun i oi ui g h1 h2 h3 h4 => ((h.obj i oi ui h1 h3).blk_ge h2 h4).2
  have split : ∀ (i : Nat) oi ui, (hp ++ [o])[i]? = some oi → (μ ++ [u])[i]? = some ui → (hp[i]? = some oi ∧ μ[i]? = some ui) ∨ (i = hp.length ∧ oi = o ∧ ui = u) := by
    intro i oi ui h1 h2
    rcases Nat.lt_trichotomy i hp.length with hi | hi | hi
    · rw [List.getElem?_append_left hi] at h1
      rw [List.getElem?_append_left (by rw [h.len]; exact hi)] at h2
      exact .inl ⟨h1, h2⟩
    · subst hi
      rw [List.getElem?_append_right (Nat.le_refl _)] at h1
      rw [List.getElem?_append_right (by rw [h.len]; exact Nat.le_refl _), h.len] at h2
      simp at h1 h2
      exact .inr ⟨rfl, h1.symm, h2.symm⟩
    · rw [List.getElem?_eq_none (by simp; omega)] at h1
      cases h1
  refine ⟨by simp [h.len], fun i oi ui g h1 ha h2 hg => ?_, fun i x hx => ?_, fun i oi ui h1 h2 => ?_, fun i j oi oj ui uj g hne h1 h2 a1 a2 m1 m2 b1 b2 => ?_⟩
  · rcases split i oi ui h1 h2 with ⟨e1, e2⟩ | ⟨_, rfl, rfl⟩
    · exact h.zone i oi ui g e1 ha e2 hg
    · rw [hbl] at hg; cases hg
  · rcases Nat.lt_or_ge i μ.length with hi | hi
    · rw [List.getElem?_append_left hi] at hx
      exact h.one i x hx
    · rw [List.getElem?_append_right hi] at hx
      have : x = u := by
        rcases Nat.eq_zero_or_pos (i - μ.length) with h0 | h0
        · rw [h0] at hx; simpa using hx.symm
        · rw [List.getElem?_eq_none (by simp; omega)] at hx; cases hx
      subst this
      exact hone
  · rcases split i oi ui h1 h2 with ⟨e1, e2⟩ | ⟨_, rfl, rfl⟩
    · cases ho : oi.alive with
      | true => exact (h.obj i oi ui e1 e2).keep (fun b hb1 _ => hb.block b hb1) hold (fun g hg => hb.block g (hbk i oi ui g e1 ho e2 hg))
      | false => exact (h.obj i oi ui e1 e2).keep_dead (fun b hb1 _ => hb.block b hb1) hold ho
    · exact hnew
  · rcases split i oi ui h1 m1 with ⟨e1, e2⟩ | ⟨_, rfl, rfl⟩ <;> rcases split j oj uj h2 m2 with ⟨e3, e4⟩ | ⟨_, rfl, rfl⟩
    · exact h.sep i j oi oj ui uj g hne e1 e3 a1 a2 e2 e4 b1 b2
    · rw [hbl] at b2; cases b2
    · rw [hbl] at b1; cases b1
    · rw [hbl] at b1; cases b1

/-- The block r, which holds no cells, is turned; the one object that holds no cells is turned with it. -/
theorem HRel.turn {w : World} {Z : Nat → Prop} {B : Nat} {μ : List Value} {hp : List AObj} {i r : Nat} {o o' : Obj} {x' : Inert} (h : HRel w Z B μ hp) (hr : w.heap[r]? = some o) (hn : o.isCells = false)
    (hi : ∀ j x, hp[j]? = some (.inert x) → j = i) (hnew : ∀ u, μ[i]? = some u → InertRel (w.putObj r o') Z B u x') : HRel (w.putObj r o') Z B μ (hp.set i (.inert x')) := by
  have get : ∀ (j : Nat) oj, (hp.set i (.inert x'))[j]? = some oj → (j = i ∧ oj = .inert x') ∨ (hp[j]? = some oj ∧ ∀ x, oj ≠ .inert x) := by
    intro j oj hj
    by_cases hji : j = i
    · subst hji
      rcases Nat.lt_or_ge j hp.length with hlt | hge
      · rw [List.getElem?_set_self hlt] at hj; simp at hj; exact .inl ⟨rfl, hj.symm⟩
      · rw [List.getElem?_eq_none (by simpa using hge)] at hj; cases hj
    · rw [List.getElem?_set_ne (Ne.symm hji)] at hj
      exact .inr ⟨hj, fun x e => hji (hi j x (by rw [hj, e]))⟩
  refine ⟨by simpa using h.len, fun j o u g h1 ha h2 hg => ?_, h.one, fun j oj u h1 h2 => ?_, fun j k oj ok uj uk g hne h1 h2 a1 a2 m1 m2 b1 b2 => ?_⟩
  · rcases get j o h1 with ⟨rfl, rfl⟩ | ⟨h1, _⟩
    · have := (hnew u h2).blk
      rw [this] at hg; cases hg
    · exact h.zone j o u g h1 ha h2 hg
  · rcases get j oj h1 with ⟨rfl, rfl⟩ | ⟨h1, hx⟩
    · exact hnew u h2
    · exact (h.obj j oj u h1 h2).turn hr hn hx
  · rcases get j oj h1 with ⟨rfl, rfl⟩ | ⟨h1, _⟩
    · rw [(hnew uj m1).blk] at b1; cases b1
    · rcases get k ok h2 with ⟨rfl, rfl⟩ | ⟨h2, _⟩
      · rw [(hnew uk m2).blk] at b2; cases b2
      · exact h.sep j k oj ok uj uk g hne h1 h2 a1 a2 m1 m2 b1 b2

theorem oneInert_at {hp : List AObj} (h : oneInert hp = true) {i : Nat} {y : Inert} (hi : hp[i]? = some (.inert y)) : ∀ j x, hp[j]? = some (.inert x) → j = i := fun j x hj => oneInert_sound h j i x y hj hi

/-- How far the loop has come that object i stands for. -/
def lstAt (i : Nat) (hp : List AObj) : Option (Nat × LSt) :=
  match hp[i]? with
  | some (.inert (.lrec D s _ _ _ _)) => if oneInert hp then some (D, s) else none
  | _ => none

theorem lstAt_parts {i D : Nat} {s : LSt} {hp : List AObj} (h : lstAt i hp = some (D, s)) : (∃ us ps asg bd, hp[i]? = some (.inert (.lrec D s us ps asg bd))) ∧ oneInert hp = true := by
  unfold lstAt at h
  split at h
  · rename_i D' s' us ps asg bd hi
    split at h
    · cases h
      exact ⟨⟨us, ps, asg, bd, hi⟩, by assumption⟩
    · cases h
  · cases h

def Inert.to (s : LSt) : Inert → Inert
  | .lrec D _ us ps asg bd => .lrec D s us ps asg bd
  | x => x

def setL (i : Nat) (s : LSt) (hp : List AObj) : List AObj :=
  match hp[i]? with
  | some (.inert x) => hp.set i (.inert (x.to s))
  | _ => hp

def Inert.over : Inert → Inert
  | .lrec D _ _ _ _ _ => .mark D
  | x => x
def setM (i : Nat) (hp : List AObj) : List AObj :=
  match hp[i]? with
  | some (.inert x) => hp.set i (.inert x.over)
  | _ => hp

/-- The record's block is turned, and its object with it. -/
theorem HRel.turnL {w : World} {Z : Nat → Prop} {B D i : Nat} {μ : List Value} {hp : List AObj} {s : LSt} {us : List Value} {ps : Array Tmp} {asg bd : Code} (h : HRel w Z B μ hp) (h1 : oneInert hp = true)
    (hi : hp[i]? = some (.inert (.lrec D s us ps asg bd))) :
    ∃ r : Loop, w.heap[D + 1]? = some (.loop r) ∧ r.state = s.state ∧ r.pending = s.pend ∧ r.tmps = us.toArray ∧ r.params = ps ∧ r.assign = asg ∧ r.body = bd ∧ B ≤ D ∧ w.heap[D]? = some (.deferred (some [])) ∧ μ[i]? = some (.func (.yield (D + 1)) #[] #[]) ∧
      (∀ s' : LSt, HRel (w.putObj (D + 1) (.loop { r with state := s'.state, pending := s'.pend })) Z B μ (setL i s' hp)) ∧
      (∀ o', HRel (w.putObj (D + 1) o') Z B μ (setM i hp)) := by
  have hil : i < μ.length := by rw [h.len]; exact (List.getElem?_eq_some_iff.1 hi).1
  obtain ⟨u, hu⟩ : ∃ u, μ[i]? = some u := ⟨_, List.getElem?_eq_getElem hil⟩
  obtain ⟨fn, rfl, ⟨⟨hB, hz⟩, hD⟩, hz2, hl⟩ := h.obj i _ u hi hu
  refine ⟨_, hl, rfl, rfl, rfl, rfl, rfl, rfl, hB, hD, hu, fun s' => ?_, fun o' => ?_⟩
  · unfold setL
    rw [hi]
    refine h.turn hl rfl (oneInert_at h1 hi) fun u' hu' => ?_
    rw [hu] at hu'
    cases hu'
    exact ⟨fn, rfl, ⟨⟨hB, hz⟩, (World.putObj_heap_other (by omega)).trans hD⟩, hz2, World.putObj_heap_same (Array.getElem?_eq_some_iff.1 hl).1⟩
  · unfold setM
    rw [hi]
    refine h.turn hl rfl (oneInert_at h1 hi) fun u' hu' => ?_
    rw [hu] at hu'
    cases hu'
    exact ⟨rfl, ⟨hB, hz⟩, (World.putObj_heap_other (by omega)).trans hD⟩

/-- The temporaries ps become avs. -/
def setPs : List Tmp → List AV → List AV → List AV
  | p :: ps, v :: vs, fr => setPs ps vs (fr.set p v)
  | _, _, fr => fr

theorem setPs_rel {w : World} {Z : Nat → Prop} {μ : List Value} : ∀ {ps : List Tmp} {avs : List AV} {vs : List Value} {fr : List AV} {tmps : Array Value}, RelL w Z μ avs vs → RelL w Z μ fr tmps.toList → ps.length = avs.length →
    RelL w Z μ (setPs ps avs fr) ((ps.zip vs).foldl (fun t (x : Tmp × Value) => t.setIfInBounds x.1 x.2) tmps).toList
  | [], [], vs, fr, tmps, _, h, _ => by simpa [setPs] using h
  | p :: ps, c :: cs, vs, fr, tmps, hv, h, hl => by
    rw [RelL] at hv
    obtain ⟨x, xs, rfl, h1, h2⟩ := hv
    simp only [setPs, List.zip_cons_cons, List.foldl_cons]
    refine setPs_rel h2 ?_ (by simpa using hl)
    rw [Array.toList_setIfInBounds]
    exact h.set p h1
  | [], _ :: _, _, _, _, _, _, hl => by simp at hl
  | _ :: _, [], _, _, _, _, _, hl => by simp at hl

/-! ### The loop -/
def rfAt (m : M) : Option (FuncId × List AV) :=
  match m.ks with
  | .code (.rangeFunc g _ _ _) :: _ => match ev m.st.fr g with
    | .fn f caps => if noMark m.st.hp then some (f, caps) else none
    | _ => none
  | _ => none

def recM (D : Nat) (us : List Value) (m : M) : AObj :=
  match m.ks with
  | .code (.rangeFunc _ ps asg bd) :: _ => .inert (.lrec D .ready us ps asg bd)
  | _ => .dead

def afterM (j : Option Code) (m : M) (fr : List AV) (hp : List AObj) : M :=
  match m.ks with
  | .code (.rangeFunc _ _ _ _) :: ks => match j with
    | none => ⟨ks, ⟨fr, hp⟩⟩
    | some c => ⟨.code c :: ks, ⟨fr, hp⟩⟩
  | _ => m

/-- Behind the function that was ranged over: its caller goes on, or leaves by the jump of a round. -/
def rangeQ (P : Program) (fn : Func) (m : M) (n D : Nat) (us : List Value) (Q : Exit → St → Prop) : Exit → St → Prop := fun e st' =>
  (e = .normal ∨ e = .ret) ∧ ∃ res fr' s, resIn P fn st' = some res ∧ frameAt n st' = some (us, fr') ∧ lstAt (n + 1) st'.hp = some (D, s) ∧
    (match s with
     | .busy => False
     | s => Runs none P (afterM s.pend m fr' (setM (n + 1) (st'.hp.set n .dead))) Q)

section
variable {P : Program} {m : M} {Q : Exit → St → Prop}

theorem oneInert_dead : ∀ {hp : List AObj} (n : Nat), oneInert hp = true → oneInert (hp.set n .dead) = true
  | [], n, h => by simpa using h
  | o :: hp, 0, h => by
    unfold oneInert at h
    simp only [List.set_cons_zero, oneInert, isInert, Bool.false_eq_true, if_false]
    split at h
    · rename_i ho
      clear ho
      induction hp with
      | nil => rfl
      | cons o hp ih =>
        simp only [List.all_cons, Bool.and_eq_true] at h
        simp only [oneInert]
        rw [if_neg (by simpa using h.1)]
        exact ih h.2
    · exact h
  | o :: hp, n + 1, h => by
    unfold oneInert at h
    simp only [List.set_cons_succ, oneInert]
    split at h
    · rename_i ho
      rw [if_pos ho, List.all_eq_true]
      intro o' ho'
      rcases List.mem_or_eq_of_mem_set ho' with h1 | rfl
      · exact List.all_eq_true.1 h o' h1
      · rfl
    · rename_i ho
      rw [if_neg ho]
      exact oneInert_dead n h

theorem R.range {f : FuncId} {fn : Func} {c : Code} {caps : List AV} (hf : P.funcs[f]? = some fn) (hb : fn.body = some c) (hnm : (fn.name == "runtime.NumGoroutine") = false) (h : rfAt m = some (f, caps))
    (h' : ∀ (D : Nat) (us : List Value), Runs none P ⟨[.code c], ⟨frameOf fn.ntmps (.ref (m.st.hp.length + 1) :: caps), m.st.hp ++ [.frame us m.st.fr] ++ [recM D us m]⟩⟩ (rangeQ P fn m m.st.hp.length D us Q)) : Runs none P m Q := by
  have hen := enters_of hf hnm (by rw [hb]; rfl)
  obtain ⟨ks, ⟨fr, hp⟩⟩ := m
  unfold rfAt at h
  simp only at h
  rw [runs_iff]
  split at h
  · rename_i g ps asg bd ks'
    split at h
    · rename_i f' caps' hg
      split at h
      · rename_i hnmk
        cases h
        simp only [recM] at h'
        simp only [RunsK]
        intro Z0 w0 a w hS
        obtain ⟨μ, F, hFb, hH, hF, hd, hbel⟩ := hS
        have hd0 := hd.none hnmk
        refine wpIn_rangeFunc ?_
        intro fnid _
        have hgv := hg ▸ ev_rel hF g
        simp only [Rel] at hgv
        obtain ⟨cv, hgv, hcr⟩ := hgv
        obtain ⟨rec, hrec⟩ : ∃ rec : Loop, rec = { state := .ready, pending := none, fn := fnid, tmps := a.tmps, params := ps, assign := asg, body := bd, defers := w.heap.size } := ⟨_, rfl⟩
        obtain ⟨W1, hW1⟩ : ∃ W1, (w.alloc (.deferred (some []))).alloc (.loop rec) = W1 := ⟨_, rfl⟩
        have hL1 : W1.heap[w.heap.size + 1]? = some (.loop rec) := by
          rw [← hW1]; have := World.alloc_heap_new (w.alloc (.deferred (some []))) (.loop rec); rwa [World.size_alloc] at this
        have hK1 : W1.heap[w.heap.size]? = some (.deferred (some [])) := by
          rw [← hW1]; exact (Below.heap_alloc _ _ _ (by simp)).trans (World.alloc_heap_new w _)
        have hsz : W1.heap.size = w.heap.size + 2 := by rw [← hW1]; simp
        have hb1 : Below w.heap.size w W1 := by
          rw [← hW1]; exact ((Below.refl _ w).alloc (Nat.le_refl _) _).alloc (by simp) _
        refine ⟨w.heap.size + 1, [{ target := .collected w.heap.size, args := #[] }], W1, { target := .fn (.func f) cv.toArray, args := #[.func (.yield (w.heap.size + 1)) #[] #[]] }, W1, f,
          #[.func (.yield (w.heap.size + 1)) #[] #[]] ++ cv.toArray, W1, ?_, ?_, fun _ _ => trivial, ?_, fun hd => absurd hd (by simp [Fc, Fence.wide]), ?_⟩
        · rw [← hW1, hrec]; exact run_enterLoop_outer _ _ _ _ _
        · simp only [resolve, hgv]
          simp [go_sem]
        · simp [invoke, go_sem, hen _ W1]
        · -- the function that is ranged over
          have hrun := h' w.heap.size a.tmps.toList
          simp only [runs_iff, RunsK] at hrun
          have hFb2 : ∀ b, (F b ∨ b = w.heap.size ∨ b = w.heap.size + 1) → w0.heap.size ≤ b ∧ b < W1.heap.size := fun b hb => by
            have hB := hbel.size
            rcases hb with hb | rfl | rfl
            · have := hFb b hb; omega
            · omega
            · omega
          have hz : ∀ b, b < w.heap.size → ¬ Zone Z0 F w0.heap.size b → ¬ Zone Z0 (fun b => F b ∨ b = w.heap.size ∨ b = w.heap.size + 1) w0.heap.size b := fun b _ hb => zone_more (F' := fun b => b = w.heap.size ∨ b = w.heap.size + 1) b hb
          have hzz : ∀ b, b < w.heap.size → Zone Z0 F w0.heap.size b → Zone Z0 (fun b => F b ∨ b = w.heap.size ∨ b = w.heap.size + 1) w0.heap.size b := fun b hb h => h.elim .inl fun h2 => .inr ⟨h2.1, fun hf => hf.elim h2.2 (fun h3 => by omega)⟩
          have hnz : ∀ b, w.heap.size ≤ b → b ≤ w.heap.size + 1 → ¬ Zone Z0 (fun b => F b ∨ b = w.heap.size ∨ b = w.heap.size + 1) w0.heap.size b := fun b h1 h2 h => by
            have hB := hbel.size
            rcases h with h | h
            · omega
            · exact h.2 (.inr (by omega))
          have hH1 := (hH.weak hz hzz).extend0 (u := .bool false) (o := .frame a.tmps.toList fr) (Below.refl _ _) (RelL.keep (w := w) (fun _ _ _ => rfl) (fun i u hu => append_old i u hu) (hF.weak hz)) rfl rfl
          have hH2 := hH1.extend0 (u := .func (.yield (w.heap.size + 1)) #[] #[]) (o := .inert (.lrec w.heap.size .ready a.tmps.toList ps asg bd)) hb1
            ⟨fnid, rfl, ⟨⟨hbel.size, hnz _ (Nat.le_refl _) (by omega)⟩, hK1⟩, hnz _ (by omega) (Nat.le_refl _), by rw [hL1, hrec]; rfl⟩ rfl rfl
          have hlen := hcr.length
          have hkeep : ∀ {cs : List AV} {vs : List Value}, RelL w (Zone Z0 F w0.heap.size) μ cs vs → RelL W1 (Zone Z0 (fun b => F b ∨ b = w.heap.size ∨ b = w.heap.size + 1) w0.heap.size) (μ ++ [.bool false] ++ [.func (.yield (w.heap.size + 1)) #[] #[]]) cs vs := fun h =>
            RelL.keep (w := w) (fun b hb _ => hb1.block b hb) (fun i u hu => append_old i u (append_old i u hu)) (h.weak hz)
          have hS2 : Sim Z0 w0 ⟨frameOf fn.ntmps (.ref (hp.length + 1) :: caps), hp ++ [.frame a.tmps.toList fr] ++ [.inert (.lrec w.heap.size .ready a.tmps.toList ps asg bd)]⟩
              { tmps := (#[Value.func (.yield (w.heap.size + 1)) #[] #[]] ++ cv.toArray) ++ Array.replicate (fn.ntmps - (#[Value.func (.yield (w.heap.size + 1)) #[] #[]] ++ cv.toArray).size) undef, defers := [] } W1 := by
            refine ⟨_, _, hFb2, hH2, ?_, .inl rfl, hbel.trans (hb1.mono hbel.size)⟩
            have hall : RelL W1 (Zone Z0 (fun b => F b ∨ b = w.heap.size ∨ b = w.heap.size + 1) w0.heap.size) (μ ++ [.bool false] ++ [.func (.yield (w.heap.size + 1)) #[] #[]]) (.ref (hp.length + 1) :: caps) (.func (.yield (w.heap.size + 1)) #[] #[] :: cv) := by
              refine RelL.cons ?_ (hkeep hcr)
              simp only [Rel]
              rw [← hH.len]
              simp
            have e1 : (#[Value.func (.yield (w.heap.size + 1)) #[] #[]] ++ cv.toArray) = (Value.func (.yield (w.heap.size + 1)) #[] #[] :: cv).toArray := by simp
            rw [e1]
            have hl2 := hall.length
            simp only [Array.toList_append, Array.toList_replicate, List.size_toArray, hl2, frameOf]
            refine RelL.append hall ?_
            generalize fn.ntmps - (AV.ref (hp.length + 1) :: caps).length = n
            induction n with
            | zero => exact RelL.nil
            | succ n ih => exact RelL.cons (by simp [Rel]) ih
          refine callsIn_of_wp (F := Fc none) (n := 0 - 1) hf hb trivial (wpIn_mono (hrun Z0 w0 _ W1 hS2) ?_)
          have fin : ∀ (e : Exit) (st' : St) (a' : Act) (w' : World), rangeQ P fn ⟨.code (.rangeFunc g ps asg bd) :: ks', ⟨fr, hp⟩⟩ hp.length w.heap.size a.tmps.toList Q e st' → Sim Z0 w0 st' a' w' → a'.defers = [] ∧ ∃ v, (results fn a'.tmps).run P w' = .ok v w' ∧
              rangePost (Fc none) 0 P (w.heap.size + 1) (fun e a' w' => ∃ st', RunsK none P Q ks' e st' ∧ Sim Z0 w0 st' a' w') { a with defers := [{ target := .collected w.heap.size, args := #[] }] ++ a.defers } (.returned v) w' := by
            rintro e st' a' w' ⟨_, res, fr', s, hres, hfr, hls, hgo⟩ ⟨μ', F', hFb', hH', hF', hd', hbel'⟩
            obtain ⟨x, h1, h2⟩ := resIn_run hH' hF' hres
            obtain ⟨⟨us', ps', asg', bd', hi⟩, hone⟩ := lstAt_parts hls
            refine ⟨hd'.none (resIn_mark hres), x, h1, ?_⟩
            unfold frameAt at hfr
            split at hfr
            · rename_i us2 fr2 hi2
              cases hfr
              have hil : hp.length < μ'.length := by rw [hH'.len]; exact (List.getElem?_eq_some_iff.1 hi2).1
              have hfrr : RelL w' (Zone Z0 F' w0.heap.size) μ' fr' a.tmps.toList := hH'.obj _ _ _ hi2 (List.getElem?_eq_getElem hil)
              have hi3 : (st'.hp.set hp.length .dead)[hp.length + 1]? = some (.inert (.lrec w.heap.size s us' ps' asg' bd')) := by
                rw [List.getElem?_set_ne (by omega)]; exact hi
              obtain ⟨r, hr1, hr2, hr3, _, _, _, _, hBD, hD, hμ, _, hM⟩ := (hH'.bury hp.length).turnL (oneInert_dead _ hone) hi3
              have hend := run_endLoop (P := P) hr1
              have hsim : Sim Z0 w0 ⟨fr', setM (hp.length + 1) (st'.hp.set hp.length .dead)⟩ { a with defers := [{ target := .collected w.heap.size, args := #[] }] ++ a.defers } (w'.putObj (w.heap.size + 1) (.loop { r with state := .exhausted })) := by
                refine ⟨μ', F', fun b hb => by rw [World.putObj_size]; exact hFb' b hb, hM _, hfrr.cells (putObj_cells hr1 rfl), .inr ⟨hp.length + 1, w.heap.size, _, ?_, hμ, by rw [hd0]; rfl⟩, ?_⟩
                · unfold setM
                  rw [hi3]
                  simp only [Inert.over]
                  rw [List.getElem?_set_self]
                  have := (List.getElem?_eq_some_iff.1 hi3).1
                  exact this
                · exact hbel'.grown (grownBy_putObj' w' _ _) hbel'.size (fun k e => by cases e; omega)
              cases s with
              | ready =>
                refine ⟨none, w'.putObj (w.heap.size + 1) (.loop { r with state := .exhausted }), (hend (by rw [hr2]; simp [LSt.state])).trans (congrArg (fun x => Result.ok x _) hr3), ?_⟩
                simp only [runs_iff, afterM, LSt.pend] at hgo
                exact ⟨_, hgo, hsim⟩
              | busy => exact hgo.elim
              | done c =>
                refine ⟨some c, w'.putObj (w.heap.size + 1) (.loop { r with state := .exhausted }), (hend (by rw [hr2]; simp [LSt.state])).trans (congrArg (fun x => Result.ok x _) hr3), ?_⟩
                simp only [runs_iff, afterM, LSt.pend, RunsK] at hgo
                exact hgo Z0 w0 _ _ hsim
            · cases hfr
          rintro e a' w' ⟨st', hq, hS'⟩
          cases e with
          | normal => exact fin _ st' a' w' hq hS'
          | ret => exact fin _ st' a' w' hq hS'
          | exit id => exact absurd hq.1 (by simp)
          | goto l => exact absurd hq.1 (by simp)
          | panic ch => exact absurd hq.1 (by simp)
          | outgrown => exact absurd hq.1 (by simp)
      · cases h
    · cases h
  · cases h

/-! ### Rounds -/
/-- The head calls yield: the record's object, its D, the values us of the caller's frame (by the record, by the frame), the caller's frame with the loop's variables set. -/
def ylAt (m : M) : Option (Nat × Nat × List Value × List Value) :=
  match opM m with
  | some (.call c) => match c.callee with
    | .value f => match ev m.st.fr f with
      | .ref i => match m.st.hp[i]?, m.st.hp[i - 1]? with
        | some (.inert (.lrec D .ready us ps _ _)), some (.frame us' _) => if noMark m.st.hp && oneInert m.st.hp && decide (ps.size = c.args.size) then some (i, D, us, us') else none
        | _, _ => none
      | _ => none
    | _ => none
  | _ => none

def ylF (m : M) : List AV :=
  match opM m with
  | some (.call c) => match c.callee with
    | .value f => match ev m.st.fr f with
      | .ref i => match m.st.hp[i]?, m.st.hp[i - 1]? with
        | some (.inert (.lrec _ _ _ ps _ _)), some (.frame _ fr) => setPs ps.toList (c.args.toList.map (ev m.st.fr)) fr
        | _, _ => []
      | _ => []
    | _ => []
  | _ => []

def ylC (m : M) : Code × Code :=
  match opM m with
  | some (.call c) => match c.callee with
    | .value f => match ev m.st.fr f with
      | .ref i => match m.st.hp[i]? with
        | some (.inert (.lrec _ _ _ _ asg bd)) => (asg, bd)
        | _ => (.skip, .skip)
      | _ => (.skip, .skip)
    | _ => (.skip, .skip)
  | _ => (.skip, .skip)

/-- Behind the assignments to the loop's variables the record is busy and the body runs. -/
def beginQ (l : Nat) (P : Program) (i D : Nat) (bd : Code) (Q : Exit → St → Prop) : Exit → St → Prop := fun e st' =>
  e = .normal ∧ lstAt i st'.hp = some (D, .ready) ∧ Runs (some l) P ⟨[.code bd], ⟨st'.fr, setL i .busy st'.hp⟩⟩ Q

/-- Behind a round yield's caller goes on. -/
def roundQ (P : Program) (m : M) (i D n : Nat) (us : List Value) (Q : Exit → St → Prop) : Exit → St → Prop := fun e st' =>
  ∃ fr', frameAt n st' = some (us, fr') ∧ lstAt i st'.hp = some (D, .busy) ∧
    match e with
    | .normal => Runs none P (backM m fr' (.bool true) (setL i .ready (st'.hp.set n .dead))) Q
    | .ret => Runs none P (backM m fr' (.bool false) (setL i (.done .ret) (st'.hp.set n .dead))) Q
    | .exit id => Runs none P (backM m fr' (.bool false) (setL i (.done (.exit id)) (st'.hp.set n .dead))) Q
    | _ => False

theorem R.yield (i D : Nat) (us : List Value) (h : ylAt m = some (i, D, us, us)) (ho : opsAt m = true)
    (h' : ∀ (l : Nat) (us' : List Value), Runs (some l) P ⟨[.code (ylC m).1], ⟨ylF m, m.st.hp ++ [.frame us' m.st.fr]⟩⟩ (beginQ l P i D (ylC m).2 (roundQ P m i D m.st.hp.length us' Q))) : Runs none P m Q := by
  obtain ⟨ks, ⟨fr, hp⟩⟩ := m
  unfold ylAt at h
  unfold ylF ylC at h'
  unfold opM headOf at h h'
  unfold opsAt at ho
  simp only at h ho h'
  rw [runs_iff]
  split at ho
  · rename_i all o lst fl ks'
    simp only at h h'
    split at h
    · rename_i c hop
      split at hop
      · rename_i hw
        simp only [Option.some.injEq] at hop
        simp only [hw, if_true, hop] at h'
        split at h
        · rename_i fo hcal
          simp only [hcal] at h'
          split at h
          · rename_i i0 hev
            simp only [hev] at h'
            split at h
            · rename_i D0 us0 ps asg bd us1 cfr hi0 hi1
              simp only [hi0, hi1] at h'
              split at h
              · rename_i hc
                simp only [Bool.and_eq_true, decide_eq_true_eq] at hc
                obtain ⟨⟨hnmk, hone⟩, hps⟩ := hc
                simp only [Option.some.injEq, Prod.mk.injEq] at h
                obtain ⟨rfl, rfl, rfl, rfl⟩ := h
                simp only [RunsK]
                intro hW
                have hwant := wantH_true hw hW
                intro Z0 w0 a w hS
                obtain ⟨μ, F, hFb, hH, hF, hd, hbel⟩ := hS
                have hd0 := hd.none hnmk
                refine wpListIn_step fun K hK => ?_
                rw [wanted_rel hF hwant, if_pos rfl]
                have hE : ∀ y, Rel w (Zone Z0 F w0.heap.size) μ (ev fr y) (a.eval y) := fun y => ev_rel hF y
                have hcv := hev ▸ hE fo
                simp only [Rel] at hcv
                obtain ⟨r, hr1, hr2, hr3, hr4, hr5, hr6, hr7, hBD, hD, hμ, hL, _⟩ := hH.turnL hone hi0
                rw [hμ] at hcv
                have hcv : a.eval fo = .func (.yield (D0 + 1)) #[] #[] := (Option.some.inj hcv).symm
                have hargs' : RelL w (Zone Z0 F w0.heap.size) μ (c.args.toList.map (ev fr)) (c.args.toList.map a.eval) := by
                  generalize c.args.toList = l
                  induction l with
                  | nil => exact RelL.nil
                  | cons x l ih => exact RelL.cons (hE x) ih
                have hrun : (execOp a.eval o).run P w = .ok (.round (D0 + 1) r.fn ((ps.zip (c.args.map a.eval)).foldl (fun tmps (x : Tmp × Value) => tmps.setIfInBounds x.1 x.2) us1.toArray) asg bd) w := by
                  have hy := run_yield (P := P) (args := c.args.map a.eval) hr1 (by rw [hr5, Array.size_map]; exact hps.symm)
                  rw [hr4, hr5, hr6, hr7] at hy
                  obtain ⟨callee, cargs, tys⟩ := c
                  simp only at hcal hy
                  subst hcal
                  simp only [execOp, hop, resolve, Deferred.ofValue, hcv, Sem.run_bind, Sem.run_pure, Result.andThen_ok, invoke, Array.empty_append, Array.append_empty]
                  exact hy
                refine wpIn_of_run (fun c' => by rw [hop]; simp) ?_
                rw [hrun, Oper.uponIn_round]
                refine ⟨fun hd => absurd hd (by simp [Fc, Fence.wide]), ?_⟩
                refine roundIn_of_wpIn (F := Fc none) trivial ?_
                have hrun2 := h' (D0 + 1) a.tmps.toList
                simp only [runs_iff, RunsK] at hrun2
                have hil : i0 - 1 < μ.length := by rw [hH.len]; exact (List.getElem?_eq_some_iff.1 hi1).1
                have hcfr : RelL w (Zone Z0 F w0.heap.size) μ cfr us1 := hH.obj _ _ _ hi1 (List.getElem?_eq_getElem hil)
                have hS2 : Sim Z0 w0 ⟨setPs ps.toList (c.args.toList.map (ev fr)) cfr, hp ++ [.frame a.tmps.toList fr]⟩ { tmps := (ps.zip (c.args.map a.eval)).foldl (fun tmps (x : Tmp × Value) => tmps.setIfInBounds x.1 x.2) us1.toArray, defers := [] } w := by
                  refine ⟨μ ++ [.bool false], F, hFb, hH.extend0 (Below.refl _ _) (RelL.keep (w := w) (fun _ _ _ => rfl) (fun i u hu => append_old i u hu) hF) rfl rfl, ?_, .inl rfl, hbel⟩
                  have := setPs_rel (ps := ps.toList) (tmps := us1.toArray) hargs' hcfr (by simpa using hps)
                  refine RelL.keep (w := w) (fun _ _ _ => rfl) (fun i u hu => append_old i u hu) ?_
                  rw [← Array.foldl_toList, Array.toList_zip, Array.toList_map]
                  exact this
                refine wpIn_mono (hrun2 Z0 w0 _ w hS2) ?_
                rintro e a1 w1 ⟨st1, ⟨rfl, hls, hgo⟩, hS1⟩
                obtain ⟨⟨us2, ps2, as2, bd2, hj⟩, hone1⟩ := lstAt_parts hls
                obtain ⟨μ1, F1, hFb1, hH1, hF1, hd1, hbel1⟩ := hS1
                obtain ⟨r1, k1, k2, k3, k4, k5, k6, k7, kB, kD, kμ, kL, _⟩ := hH1.turnL hone1 hj
                refine ⟨_, run_beginRound k1 (by rw [k2]; rfl), ?_⟩
                have hbusy : ({ r1 with state := .busy } : Loop) = { r1 with state := LSt.busy.state, pending := LSt.busy.pend } := by
                  rw [show LSt.busy.pend = r1.pending from k3.symm]; rfl
                have keepD : ∀ {hp' : List AObj} {μ' : List Value} {ds : List Deferred} (s : LSt), Defs μ' hp' ds → noMark hp' = true → Defs μ' (setL i0 s hp') ds := fun s h hn => .inl (h.none hn)
                have hS3 : Sim Z0 w0 ⟨st1.fr, setL i0 .busy st1.hp⟩ a1 (w1.putObj (D0 + 1) (.loop { r1 with state := .busy })) := by
                  refine ⟨μ1, F1, fun b hb => by rw [World.putObj_size]; exact hFb1 b hb, by rw [hbusy]; exact kL .busy, hF1.cells (putObj_cells k1 rfl), ?_, hbel1.grown (grownBy_putObj' w1 _ _) hbel1.size (fun k e => by cases e; omega)⟩
                  rcases hd1 with hd1 | ⟨i', D', u', e1, _, _⟩
                  · exact .inl hd1
                  · exfalso
                    have := oneInert_at hone1 hj _ _ e1
                    subst this
                    rw [hj] at e1
                    cases e1
                simp only [runs_iff, RunsK] at hgo
                refine wpIn_mono (hgo Z0 w0 _ _ hS3) ?_
                have fin : ∀ (s : LSt) (j : Option Code) (b : Bool) (st2 : St) (a2 : Act) (w2 : World) (fr2 : List AV), s.pend = j → s.state = (if j.isNone then LoopState.ready else LoopState.done) → b = j.isNone → frameAt hp.length st2 = some (a.tmps.toList, fr2) → lstAt i0 st2.hp = some (D0, .busy) → Sim Z0 w0 st2 a2 w2 →
                    Runs none P (backM ⟨.ops all (o :: lst) fl :: ks', ⟨fr, hp⟩⟩ fr2 (.bool b) (setL i0 s (st2.hp.set hp.length .dead))) Q → ∃ v w3, (Instr.endRound (D0 + 1) j).run P w2 = .ok v w3 ∧ K (a.put o.dst v) w3 := by
                  rintro s j b st2 a2 w2 fr2 rfl hst rfl hfr hls2 ⟨μ2, F2, hFb2, hH2, hF2, hd2, hbel2⟩ hgo2
                  obtain ⟨⟨us3, ps3, as3, bd3, hj3⟩, hone2⟩ := lstAt_parts hls2
                  unfold frameAt at hfr
                  split at hfr
                  · rename_i us4 fr4 hi4
                    cases hfr
                    have hne : hp.length ≠ i0 := by
                      intro e
                      rw [e, hj3] at hi4
                      cases hi4
                    have hj4 : (st2.hp.set hp.length .dead)[i0]? = some (.inert (.lrec D0 .busy us3 ps3 as3 bd3)) := by
                      rw [List.getElem?_set_ne hne]; exact hj3
                    obtain ⟨r2, q1, q2, q3, _, _, _, _, qB, _, _, qL, _⟩ := (hH2.bury hp.length).turnL (oneInert_dead _ hone2) hj4
                    refine ⟨_, _, run_endRound _ q1, hK _ _ ?_⟩
                    have hil2 : hp.length < μ2.length := by rw [hH2.len]; exact (List.getElem?_eq_some_iff.1 hi4).1
                    have hfrr : RelL w2 (Zone Z0 F2 w0.heap.size) μ2 fr2 a.tmps.toList := hH2.obj _ _ _ hi4 (List.getElem?_eq_getElem hil2)
                    simp only [runs_iff, backM, RunsK] at hgo2
                    refine hgo2 headW_false Z0 w0 _ _ ⟨μ2, F2, fun b hb => by rw [World.putObj_size]; exact hFb2 b hb, ?_, put_rel (hfrr.cells (putObj_cells q1 rfl)) _ (by simp [Rel]), by rw [put_defers']; exact .inl hd0, hbel2.grown (grownBy_putObj' w2 _ _) hbel2.size (fun k e => by cases e; omega)⟩
                    rw [← hst]
                    exact qL s
                  · cases hfr
                rintro e a2 w2 ⟨st2, ⟨fr2, hfr, hls2, hgo2⟩, hS4⟩
                cases e with
                | normal => exact fin .ready none true st2 a2 w2 fr2 rfl rfl rfl hfr hls2 hS4 hgo2
                | ret => exact fin (.done .ret) (some .ret) false st2 a2 w2 fr2 rfl rfl rfl hfr hls2 hS4 hgo2
                | exit id => exact fin (.done (.exit id)) (some (.exit id)) false st2 a2 w2 fr2 rfl rfl rfl hfr hls2 hS4 hgo2
                | goto l => exact hgo2.elim
                | panic ch => exact hgo2.elim
                | outgrown => exact hgo2.elim
              · cases h
            · cases h
          · cases h
        · cases h
      · cases hop
    · cases h
  · cases ho

theorem R.begin {l i D : Nat} {bd : Code} (h : m.ks = []) (hl : lstAt i m.st.hp = some (D, .ready)) (h' : Runs (some l) P ⟨[.code bd], ⟨m.st.fr, setL i .busy m.st.hp⟩⟩ Q) : Runs (some l) P m (beginQ l P i D bd Q) := by
  obtain ⟨ks, st⟩ := m
  simp only at h hl h'
  subst h
  rw [runs_iff]
  exact ⟨rfl, hl, h'⟩

/-- A round ends; the loop goes on. -/
theorem R.round {l i D n : Nat} {m0 : M} {us : List Value} (fr' : List AV) (h : m.ks = []) (hf : frameAt n m.st = some (us, fr')) (hl : lstAt i m.st.hp = some (D, .busy))
    (h' : Runs none P (backM m0 fr' (.bool true) (setL i .ready (m.st.hp.set n .dead))) Q) : Runs (some l) P m (roundQ P m0 i D n us Q) := by
  obtain ⟨ks, st⟩ := m
  simp only at h hl h' hf
  subst h
  rw [runs_iff]
  exact ⟨fr', hf, hl, h'⟩

def isRet (m : M) : Bool :=
  match m.ks with
  | .code .ret :: _ => true
  | _ => false

/-- A round returns. -/
theorem R.roundR {l i D n : Nat} {m0 : M} {us : List Value} (fr' : List AV) (h : isRet m = true) (hf : frameAt n m.st = some (us, fr')) (hl : lstAt i m.st.hp = some (D, .busy))
    (h' : Runs none P (backM m0 fr' (.bool false) (setL i (.done .ret) (m.st.hp.set n .dead))) Q) : Runs (some l) P m (roundQ P m0 i D n us Q) := by
  obtain ⟨ks, st⟩ := m
  unfold isRet at h
  simp only at h hl h' hf
  split at h
  · rw [runs_iff]
    exact RunA.ret (runsK_ret _ _ ⟨fr', hf, hl, h'⟩)
  · cases h

/-- The function that was ranged over ends, all rounds having gone on. -/
theorem R.over {fn : Func} {n D : Nat} {us : List Value} {m0 : M} (res : AV) (fr' : List AV) (h : (edAt m).isSome = true) (hr : resIn P fn m.st = some res) (hf : frameAt n m.st = some (us, fr')) (hl : lstAt (n + 1) m.st.hp = some (D, .ready))
    (h' : Runs none P (afterM none m0 fr' (setM (n + 1) (m.st.hp.set n .dead))) Q) : Runs none P m (rangeQ P fn m0 n D us Q) :=
  R.fin h ⟨.inl rfl, res, fr', .ready, hr, hf, hl, h'⟩ ⟨.inr rfl, res, fr', .ready, hr, hf, hl, h'⟩

/-- .. a round having left by the jump c. -/
theorem R.left {fn : Func} {n D : Nat} {us : List Value} {m0 : M} (c : Code) (res : AV) (fr' : List AV) (h : (edAt m).isSome = true) (hr : resIn P fn m.st = some res) (hf : frameAt n m.st = some (us, fr')) (hl : lstAt (n + 1) m.st.hp = some (D, .done c))
    (h' : Runs none P (afterM (some c) m0 fr' (setM (n + 1) (m.st.hp.set n .dead))) Q) : Runs none P m (rangeQ P fn m0 n D us Q) :=
  R.fin h ⟨.inl rfl, res, fr', .done c, hr, hf, hl, h'⟩ ⟨.inr rfl, res, fr', .done c, hr, hf, hl, h'⟩

end

end Go.Abs


/-! The machine's rules: boxes that are written no more. -/
namespace Go.Abs
open Go.RowKit

mutual
/-- Object i, a box with the cells ds, is only read from now on. -/
def bxV (i : Nat) (ds : List AV) : AV → AV
  | .ptr j o => if j = i then .rptr (ds.drop o) else .ptr j o
  | .agg cs => .agg (bxL i ds cs)
  | .tup cs => .tup (bxL i ds cs)
  | .fn f cs => .fn f (bxL i ds cs)
  | .ref j => .ref j
  | .lst s n cs => .lst s n cs
  | .clp s n cs => .clp s n cs
  | .rptr cs => .rptr cs
  | .int k n => .int k n
  | .bool b => .bool b
  | .str s => .str s
  | .nil => .nil
  | .own e s n cs => .own e s n cs
  | .top => .top
def bxL (i : Nat) (ds : List AV) : List AV → List AV
  | [] => []
  | c :: cs => bxV i ds c :: bxL i ds cs
end

def AObj.bx (i : Nat) (ds : List AV) : AObj → AObj
  | .box t cs => .box t (bxL i ds cs)
  | .list e s n cs => .list e s n cs
  | .dead => .dead
  | .frame us cs => .frame us (bxL i ds cs)
  | .inert x => .inert x

theorem AObj.bx_alive (i : Nat) (ds : List AV) (o : AObj) : (o.bx i ds).alive = o.alive := by cases o <;> rfl

def bxS (i : Nat) (ds : List AV) (st : St) : St := ⟨bxL i ds st.fr, (st.hp.map (AObj.bx i ds)).set i .dead⟩

theorem RelL.dropN {w : World} {Z : Nat → Prop} {μ : List Value} : ∀ {cs : List AV} {vs : List Value} (k : Nat), RelL w Z μ cs vs → RelL w Z μ (cs.drop k) (vs.drop k)
  | cs, vs, 0, h => by simpa using h
  | [], vs, k + 1, h => by rw [RelL] at h; subst h; simpa using RelL.nil
  | c :: cs, vs, k + 1, h => by
    rw [RelL] at h
    obtain ⟨x, xs, rfl, _, h2⟩ := h
    simpa using RelL.dropN k h2

mutual
theorem Rel.bx {w : World} {Z Z' : Nat → Prop} {μ : List Value} (i : Nat) (ds : List AV) (g : Nat) (xs : List Value) (hz : ∀ b, b < w.heap.size → ¬ Z b → ¬ Z' b) (hu : μ[i]? = some (.pointer (some ⟨g, 0, none⟩))) (hg : ¬ Z' g)
    (hc : ∀ (j : Nat) x, xs[j]? = some x → w.cell? ⟨g, j, none⟩ = some x) (hr : RelL w Z' [] ds xs) : ∀ {c : AV} {v : Value}, Rel w Z μ c v → Rel w Z' μ (bxV i ds c) v
  | .int _ _, _, h => by simpa [Rel, bxV] using h
  | .bool _, _, h => by simpa [Rel, bxV] using h
  | .str _, _, h => by simpa [Rel, bxV] using h
  | .nil, _, h => by simpa [Rel, bxV] using h
  | .top, _, _ => by simp [Rel, bxV]
  | .own _ _ _ _, _, h => by simp [Rel] at h
  | .lst s n cs, v, h => Rel.weak (c := .lst s n cs) hz h
  | .clp s n cs, v, h => Rel.weak (c := .clp s n cs) hz h
  | .rptr cs, v, h => Rel.weak (c := .rptr cs) hz h
  | .ref j, v, h => by simpa [Rel, bxV] using h
  | .ptr j o, v, h => by
    simp only [bxV]
    split
    · rename_i hj
      simp only [Rel] at h ⊢
      obtain ⟨u, g', h1, h2, rfl⟩ := h
      rw [hj, hu] at h1
      cases h1
      simp only [blk, Option.some.injEq] at h2
      subst h2
      refine ⟨⟨g, o, none⟩, xs.drop o, rfl, fun _ => ⟨_, rfl, hg, fun j x hx => ?_⟩, hr.dropN o⟩
      rw [List.getElem?_drop] at hx
      rw [add_lit']
      exact hc _ _ hx
    · simpa [Rel] using h
  | .agg cs, v, h => by
    simp only [Rel, bxV] at h ⊢
    obtain ⟨ys, h1, h2⟩ := h
    exact ⟨ys, h1, RelL.bx i ds g xs hz hu hg hc hr h2⟩
  | .tup cs, v, h => by
    simp only [Rel, bxV] at h ⊢
    obtain ⟨ys, h1, h2⟩ := h
    exact ⟨ys, h1, RelL.bx i ds g xs hz hu hg hc hr h2⟩
  | .fn f cs, v, h => by
    simp only [Rel, bxV] at h ⊢
    obtain ⟨ys, h1, h2⟩ := h
    exact ⟨ys, h1, RelL.bx i ds g xs hz hu hg hc hr h2⟩
theorem RelL.bx {w : World} {Z Z' : Nat → Prop} {μ : List Value} (i : Nat) (ds : List AV) (g : Nat) (xs : List Value) (hz : ∀ b, b < w.heap.size → ¬ Z b → ¬ Z' b) (hu : μ[i]? = some (.pointer (some ⟨g, 0, none⟩))) (hg : ¬ Z' g)
    (hc : ∀ (j : Nat) x, xs[j]? = some x → w.cell? ⟨g, j, none⟩ = some x) (hr : RelL w Z' [] ds xs) : ∀ {cs : List AV} {vs : List Value}, RelL w Z μ cs vs → RelL w Z' μ (bxL i ds cs) vs
  | [], _, h => by simpa [RelL, bxL] using h
  | c :: cs, _, h => by
    simp only [RelL, bxL] at h ⊢
    obtain ⟨x, ys, h1, h2, h3⟩ := h
    exact ⟨x, ys, h1, Rel.bx i ds g xs hz hu hg hc hr h2, RelL.bx i ds g xs hz hu hg hc hr h3⟩
end

theorem Sub.bx (i t : Nat) (ds : List AV) (st : St) (hi : st.hp[i]? = some (.box t ds)) (hl : leafyL ds = true) : Sub st (bxS i ds st) := by
  rintro Z0 w0 a w ⟨μ, F, hFb, hH, hF, hd, hb⟩
  have hil : i < μ.length := by rw [hH.len]; exact (List.getElem?_eq_some_iff.1 hi).1
  obtain ⟨u, hu⟩ : ∃ u, μ[i]? = some u := ⟨_, List.getElem?_eq_getElem hil⟩
  have hO := hH.obj i _ u hi hu
  have hzn := fun g => hH.zone i _ u g hi rfl hu
  obtain ⟨g, xs, rfl, hB, hh, hx⟩ := hO
  have hz : ∀ b, b < w.heap.size → ¬ Zone Z0 F w0.heap.size b → ¬ Zone Z0 (fun b => F b ∨ b = g) w0.heap.size b := fun b _ h => zone_more b h
  have hg : ¬ Zone Z0 (fun b => F b ∨ b = g) w0.heap.size g := fun h => h.elim (fun h => by omega) (fun h => h.2 (.inr rfl))
  have hc : ∀ (j : Nat) x, xs[j]? = some x → w.cell? ⟨g, j, none⟩ = some x := fun j x hx => by
    rw [cell_of_row w _ j _ _ _ hh]; simpa using hx
  have hr : RelL w (Zone Z0 (fun b => F b ∨ b = g) w0.heap.size) [] ds xs := RelL.weak hz (RelL.leafy hl hx)
  refine ⟨μ, fun b => F b ∨ b = g, fun b h => h.elim (hFb b) (fun h => by subst h; exact ⟨hB, (Array.getElem?_eq_some_iff.1 hh).1⟩), ?_, RelL.bx i ds g xs hz hu hg hc hr hF, hd.keep (fun j x hj => ⟨?_, fun u hu => hu⟩), hb⟩
  rotate_left
  · have hne : i ≠ j := by
      rintro rfl
      rw [hi] at hj
      cases hj
    show ((st.hp.map (AObj.bx i ds)).set i .dead)[j]? = _
    rw [List.getElem?_set_ne hne, List.getElem?_map, hj]
    rfl
  have get : ∀ (j : Nat) o, ((st.hp.map (AObj.bx i ds)).set i .dead)[j]? = some o → o = .dead ∨ (j ≠ i ∧ ∃ o', st.hp[j]? = some o' ∧ o = o'.bx i ds) := by
    intro j o ho
    by_cases hj : j = i
    · subst hj
      rw [List.getElem?_set_self (by simpa using (List.getElem?_eq_some_iff.1 hi).1)] at ho
      simp at ho
      exact .inl ho.symm
    · rw [List.getElem?_set_ne (Ne.symm hj), List.getElem?_map, Option.map_eq_some_iff] at ho
      obtain ⟨o', h1, rfl⟩ := ho
      exact .inr ⟨hj, o', h1, rfl⟩
  refine ⟨by simp [bxS, hH.len], fun j o v g' h1 ha h2 hg' => ?_, hH.one, fun j o v h1 h2 => ?_, fun j k oj ok uj uk g' hne h1 h2 a1 a2 m1 m2 b1 b2 => ?_⟩
  · rcases get j o h1 with rfl | ⟨hj, o', ho, rfl⟩
    · cases ha
    · rw [AObj.bx_alive] at ha
      have h3 := hH.zone j o' v g' ho ha h2 hg'
      exact h3.elim .inl (fun h => .inr ⟨h.1, fun hf => hf.elim h.2 (fun h4 => hH.sep i j _ o' _ v g' (Ne.symm hj) hi ho rfl ha hu h2 (by rw [h4]; rfl) hg')⟩)
  · rcases get j o h1 with rfl | ⟨hj, o', ho, rfl⟩
    · trivial
    · have hO := hH.obj j o' v ho h2
      cases o' with
      | box t es => obtain ⟨g', ys, e1, e2, e3, e4⟩ := hO; exact ⟨g', ys, e1, e2, e3, RelL.bx i ds g xs hz hu hg hc hr e4⟩
      | list e s n es => obtain ⟨ys, e1, e2⟩ := hO; exact ⟨ys, e1, e2.weak hz⟩
      | dead => trivial
      | frame us es => exact RelL.bx i ds g xs hz hu hg hc hr hO
      | inert x => exact InertRel.keep (fun b h1 h2 => ⟨rfl, hz b h1 h2⟩) hO
  · rcases get j oj h1 with rfl | ⟨hj, o1, ho1, rfl⟩
    · cases a1
    · rcases get k ok h2 with rfl | ⟨hk, o2, ho2, rfl⟩
      · cases a2
      · rw [AObj.bx_alive] at a1 a2
        exact hH.sep j k o1 o2 uj uk g' hne ho1 ho2 a1 a2 m1 m2 b1 b2

def bxM (i : Nat) (m : M) : M :=
  match m.st.hp[i]? with
  | some (.box _ ds) => if leafyL ds then ⟨m.ks, bxS i ds m.st⟩ else m
  | _ => m

theorem R.bx {rd : Option Nat} {P : Program} {m : M} {Q : Exit → St → Prop} (i : Nat) (h : subOk m = true) (h' : Runs rd P (bxM i m) Q) : Runs rd P m Q := by
  unfold bxM at h'
  split at h'
  · rename_i t ds hi
    split at h'
    · exact R.sub _ h (Sub.bx i t ds m.st hi (by assumption)) h'
    · exact h'
  · exact h'

/-! ### The record of a function's loop over a function -/
def rfOf : Code → Option (Array Tmp × Code × Code)
  | .rangeFunc _ ps asg bd => some (ps, asg, bd)
  | .seq x y => match rfOf x with
    | some r => some r
    | none => rfOf y
  | .cond _ x y => match rfOf x with
    | some r => some r
    | none => rfOf y
  | .block _ c => rfOf c
  | .loop c => rfOf c
  | .scope c => rfOf c
  | _ => none

def loopObj (fn : Func) (D : Nat) (us : List Value) (s : LSt) : AObj :=
  match fn.body with
  | some c => match rfOf c with
    | some (ps, asg, bd) => .inert (.lrec D s us ps asg bd)
    | none => .dead
  | none => .dead

end Go.Abs
