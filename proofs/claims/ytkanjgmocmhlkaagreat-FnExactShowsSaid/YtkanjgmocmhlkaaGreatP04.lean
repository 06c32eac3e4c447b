/- Lists of formulas: their variables. -/
import Derived.Test.YtkanjgmocmhlkaaGreatP02
import Derived.Test.YtkanjgmocmhlkaaGreatMEM
namespace Go.Proofs.YtkanjgmocmhlkaaGreat
open Go.RowKit Go.Abs

/-- The variables of the first formulas. -/
def vmT (l : List (List (Int × Int))) : Nat → Int
  | 0 => 0
  | i + 1 => bor (vmT l i) (vmTo (l.getD i []) (l.getD i []).length)
def allF (l : List (List (Int × Int))) : Bool := !l.any fun a => !isF a
theorem allF_get {l : List (List (Int × Int))} (h : allF l = true) (j : Nat) (hj : j < l.length) : isF (l.getD j []) = true := by
  unfold allF at h
  rw [Bool.not_eq_true', List.any_eq_false] at h
  have h1 : l.getD j [] ∈ l := by
    rw [List.getD_eq_getElem?_getD, List.getElem?_eq_getElem hj, Option.getD_some]
    exact List.getElem_mem hj
  simpa using h _ h1
theorem vmT_rng {l : List (List (Int × Int))} (h : allF l = true) : ∀ i, i ≤ l.length → 0 ≤ vmT l i ∧ vmT l i ≤ 63
  | 0, _ => ⟨Int.le_refl _, by simp [vmT]⟩
  | i + 1, hi => by
    have ih := vmT_rng h i (by omega)
    have hv := vm_rng (isF_parts (allF_get h i (by omega))).2.2.1 _ (Nat.le_refl _)
    have hb := bor_63 ih.1 ih.2 hv.1 hv.2
    exact ⟨hb.1, hb.2.1⟩
theorem vm63 {a : List (Int × Int)} (h : a.any badN = false) : InM 6 (vmTo a a.length) := by
  have := vm_rng h _ (Nat.le_refl _)
  exact ⟨this.1, by have : (2 : Nat) ^ 6 = 64 := by decide
                    omega⟩
theorem inM6 {m : Int} (h0 : 0 ≤ m) (h1 : m ≤ 63) : InM 6 m := ⟨h0, by have : (2 : Nat) ^ 6 = 64 := by decide
                                                                       omega⟩
theorem inM6_le {m : Int} (h : InM 6 m) : 0 ≤ m ∧ m ≤ 63 := ⟨h.1, by have : (2 : Nat) ^ 6 = 64 := by decide
                                                                     have := h.2
                                                                     omega⟩
/-- A mask with the first members of a list. -/
def orTo (m : Int) (vs : List Int) : Nat → Int
  | 0 => m
  | k + 1 => bor (orTo m vs k) (shl64 1 (vs.getD k 0))
theorem mem_get {m : Int} {v : Int} (h : v ∈ mem m) (hm : InM 6 m) : 0 ≤ v ∧ v < 6 ∧ tb m v.toNat = true := by
  obtain ⟨j, h1, h2, rfl⟩ := memN_mem.1 h
  have := tb_lt hm h2
  exact ⟨by omega, by omega, h2⟩
theorem mem_at {v : Int} (hv : InM 6 v) {k : Nat} (h : k < (mem v).length) : 0 ≤ (mem v).getD k 0 ∧ (mem v).getD k 0 < 6 := by
  have hg : (mem v).getD k 0 ∈ mem v := by
    rw [List.getD_eq_getElem?_getD, List.getElem?_eq_getElem h, Option.getD_some]
    exact List.getElem_mem _
  have := mem_get hg hv
  exact ⟨this.1, this.2.1⟩
theorem orTo_ok {m : Int} {vs : List Int} (hm : InM 6 m) (hv : ∀ v ∈ vs, 0 ≤ v ∧ v < 6) : ∀ k, k ≤ vs.length → InM 6 (orTo m vs k) ∧ ∀ j, tb (orTo m vs k) j = true ↔ tb m j = true ∨ ∃ i, i < k ∧ vs.getD i 0 = (j : Int)
  | 0, _ => ⟨hm, fun j => by simp [orTo]⟩
  | k + 1, hk => by
    obtain ⟨h1, h2⟩ := orTo_ok hm hv k (by omega)
    have hg : vs.getD k 0 ∈ vs := by
      rw [List.getD_eq_getElem?_getD, List.getElem?_eq_getElem (by omega), Option.getD_some]
      exact List.getElem_mem _
    obtain ⟨v, hvv⟩ : ∃ v : Nat, vs.getD k 0 = (v : Int) := ⟨(vs.getD k 0).toNat, by have := hv _ hg; omega⟩
    have hv6 : v < 6 := by have := hv _ hg; omega
    have h3 := inM_one (n := 6) (by decide) hv6
    rw [orTo, hvv]
    refine ⟨inM_bor (by decide) h1 h3, fun j => ?_⟩
    rw [tb_bor (by decide) h1 h3, Bool.or_eq_true, h2 j, tb_one (by omega), decide_eq_true_iff]
    constructor
    · rintro ((h | ⟨i, a, b⟩) | h)
      · exact .inl h
      · exact .inr ⟨i, by omega, b⟩
      · exact .inr ⟨k, by omega, by rw [hvv, h]⟩
    · rintro (h | ⟨i, a, b⟩)
      · exact .inl (.inl h)
      · by_cases hik : i = k
        · subst hik; exact .inr (by rw [hvv] at b; omega)
        · exact .inl (.inr ⟨i, by omega, b⟩)
theorem orTo_mem {m v : Int} (hm : InM 6 m) (hv : InM 6 v) : orTo m (mem v) (mem v).length = bor m v := by
  obtain ⟨h1, h2⟩ := orTo_ok hm (fun x hx => by have := mem_get hx hv; exact ⟨this.1, this.2.1⟩) (mem v).length (Nat.le_refl _)
  refine tb_ext h1.1 (inM_bor (by decide) hm hv).1 fun j => ?_
  rw [Bool.eq_iff_iff, h2 j, tb_bor (by decide) hm hv, Bool.or_eq_true]
  constructor
  · rintro (h | ⟨i, a, b⟩)
    · exact .inl h
    · have hg : (mem v).getD i 0 ∈ mem v := by
        rw [List.getD_eq_getElem?_getD, List.getElem?_eq_getElem a, Option.getD_some]
        exact List.getElem_mem _
      have := (mem_get hg hv).2.2
      rw [b] at this
      exact .inr this
  · rintro (h | h)
    · exact .inl h
    · have hj := tb_lt hv h
      have : (j : Int) ∈ mem v := memN_mem.2 ⟨j, by omega, h, rfl⟩
      obtain ⟨i, hi, e⟩ := List.getElem_of_mem this
      exact .inr ⟨i, hi, by rw [List.getD_eq_getElem?_getD, List.getElem?_eq_getElem hi, Option.getD_some, e]⟩
theorem bits_mem : ∀ m : Fin 64, bitsL 6 (m.val : Int) 0 = mem (m.val : Int) := by decide +kernel
theorem bits_mem6 {m : Int} (h : InM 6 m) : bitsL 6 m 0 = mem m := by
  obtain ⟨h0, h1⟩ := inM6_le h
  obtain ⟨m, rfl⟩ := Int.eq_ofNat_of_zero_le h0
  exact bits_mem ⟨m, by omega⟩
def fidxF (p : List (Int × Int) → Bool) : List (List (Int × Int)) → Int → Int
  | [], _ => -1
  | x :: l, i => if p x = true then i else fidxF p l (i + 1)
theorem drop_consF (a : List (List (Int × Int))) (j : Nat) (h : j < a.length) : a.drop j = a.getD j [] :: a.drop (j + 1) := by
  rw [List.drop_eq_getElem_cons h, List.getD_eq_getElem?_getD, List.getElem?_eq_getElem h]; rfl
theorem fidxF_hit {p : List (Int × Int) → Bool} {a : List (List (Int × Int))} {i : Nat} (h : i < a.length) (hp : p (a.getD i []) = true) : fidxF p (a.drop i) i = i := by
  rw [drop_consF a i h, fidxF, if_pos hp]
theorem fidxF_miss {p : List (Int × Int) → Bool} {a : List (List (Int × Int))} {i : Nat} (h : i < a.length) (hp : p (a.getD i []) = false) : fidxF p (a.drop i) i = fidxF p (a.drop (i + 1)) ((i + 1 : Nat) : Int) := by
  rw [drop_consF a i h, fidxF, if_neg (by rw [hp]; decide)]
  rfl
theorem fidxF_end {p : List (Int × Int) → Bool} {a : List (List (Int × Int))} {i : Nat} (h : a.length ≤ i) : fidxF p (a.drop i) i = -1 := by
  rw [List.drop_eq_nil_of_le h, fidxF]
theorem fidxF_any {p : List (Int × Int) → Bool} : ∀ {a : List (List (Int × Int))} {i : Int}, 0 ≤ i → (0 ≤ fidxF p a i ↔ a.any p = true)
  | [], i, h => by simp [fidxF]
  | x :: a, i, h => by
    have ih := fidxF_any (p := p) (a := a) (i := i + 1) (by omega)
    rw [fidxF, List.any_cons]
    by_cases hp : p x = true
    · simp [hp, h]
    · rw [if_neg hp, ih]; simp [hp]
theorem anyF_hit {p : List (Int × Int) → Bool} {a : List (List (Int × Int))} {i : Nat} (h : i < a.length) (hp : p (a.getD i []) = true) : (a.drop i).any p = true := by
  rw [drop_consF a i h, List.any_cons, hp, Bool.true_or]
theorem anyF_miss {p : List (Int × Int) → Bool} {a : List (List (Int × Int))} {i : Nat} (h : i < a.length) (hp : p (a.getD i []) = false) : (a.drop i).any p = (a.drop (i + 1)).any p := by
  rw [drop_consF a i h, List.any_cons, hp, Bool.false_or]
theorem anyF_end {p : List (Int × Int) → Bool} {a : List (List (Int × Int))} {i : Nat} (h : a.length ≤ i) : (a.drop i).any p = false := by
  rw [List.drop_eq_nil_of_le h]; rfl
/-- The rows of l are short. -/
def shortL (l : List (List (Int × Int))) : Prop := l.length ≤ 1000000000 ∧ ∀ j : Nat, j < l.length → (l.getD j []).length ≤ 1000000000
def notF (a : List (Int × Int)) : Bool := !isF a
theorem notF_yes {a : List (Int × Int)} (h : isF a = false) : notF a = true := by rw [notF, h]; rfl
theorem notF_no {a : List (Int × Int)} (h : isF a = true) : notF a = false := by rw [notF, h]; rfl
theorem allF_not (l : List (List (Int × Int))) : allF l = !l.any notF := rfl

theorem shortL_one {a : List (Int × Int)} (h : a.length ≤ 1000000000) : shortL [a] := ⟨by simp, fun j hj => by
  have hj : j = 0 := by simpa using hj
  subst hj
  simpa using h⟩

theorem areFormulas1_c (a : List (Int × Int)) (hl : a.length ≤ 1000000000) : CallA Tryz.prog 108 [LN a] (.bool (notF a)) := by
  refine CallA.of Tryz.func108 rfl (by kernel_rfl) ?_
  refine R.go 7 (R.call true (isFormula_c a hl) (by kernel_rfl) rfl (by kernel_rfl) ?_)
  exact R.go 3 (R.retE (.bool (!(isF a))) (by kernel_rfl) (by kernel_rfl) (by first | (rfl) | (exfalso; omega)))

theorem index_notF_c (l : List (List (Int × Int))) (hs : shortL l) : CallA Tryz.prog 147 [LLN l, .fn 108 []] (AI (fidxF notF l 0)) := by
  have hl := hs.1
  refine CallA.of Tryz.func147 rfl (by kernel_rfl) ?_
  refine R.go 12 (R.loop (fun (i : Nat) => (⟨(frm 19 [(0, LLN l), (1, .fn 108 []), (7, AI l.length), (8, AI (i : Int))]), []⟩ : St)) (fun (i : Nat) => (i ≤ l.length) ∧ (fidxF notF l 0 = fidxF notF (l.drop i) i)) (fun (i : Nat) => l.length - i) 0 [0, 1, 7, 8] none (by kernel_rfl) (by kernel_rfl) (by kernel_rfl) ⟨(by omega), (by rfl)⟩ ?_)
  rintro i ⟨h3_1, h3_2⟩ R1 N2
  refine R.go 5 (R.cond ((i : Int) < (l.length : Int)) (by kernel_rfl) (fun c4 => ?_) (fun c4 => ?_))
  · have hj := hs.2 i (by omega)
    refine R.go 13 (R.idx eLN l [] i (i : Int) (by kernel_rfl) rfl eLN_len (by omega) (by kernel_rfl) ?_)
    refine R.go 1 (R.call true (areFormulas1_c (l.getD i []) (by first | omega | (simp <;> omega))) (by kernel_rfl) rfl (by kernel_rfl) ?_)
    refine R.go 1 (R.condB (notF (l.getD i [])) (by kernel_rfl) (fun c5 => ?_) (fun c5 => ?_))
    · exact R.go 5 (R.retE (AI (i : Int)) (by kernel_rfl) (by kernel_rfl) (by first | (apply congrArg AI; rw [‹fidxF notF l 0 = _›]; first | exact (fidxF_end (by omega)).symm | exact (fidxF_hit (by omega) (by assumption)).symm) | (exfalso; omega)))
    · refine R.go 3 (R.ar ((i : Int) + 1) (by kernel_rfl) (by omega) (by omega) (by kernel_rfl) ?_)
      exact R.go 2 (R.stop R1 (by kernel_rfl) (N2 (i + 1) [0, 1, 7, 8] none _ (by kernel_rfl) (by kernel_rfl) ⟨(by omega), (by rw [‹fidxF notF l 0 = _›]; exact fidxF_miss (by omega) (by assumption))⟩ (by show (l.length - (i + 1)) < (l.length - i); omega)))
  · exact R.go 5 (R.retE (AI (-1)) (by kernel_rfl) (by kernel_rfl) (by first | (apply congrArg AI; rw [‹fidxF notF l 0 = _›]; first | exact (fidxF_end (by omega)).symm | exact (fidxF_hit (by omega) (by assumption)).symm) | (exfalso; omega)))

theorem contains_notF_c (l : List (List (Int × Int))) (hs : shortL l) : CallA Tryz.prog 107 [LLN l, .fn 108 []] (.bool (l.any notF)) := by
  refine CallA.of Tryz.func107 rfl (by kernel_rfl) ?_
  refine R.go 8 (R.call true (index_notF_c l hs) (by kernel_rfl) rfl (by kernel_rfl) ?_)
  exact R.go 3 (R.retE (.bool (decide ((fidxF notF l 0) ≥ 0))) (by kernel_rfl) (by kernel_rfl) (by first | (apply congrArg AV.bool; rw [Bool.eq_iff_iff, decide_eq_true_iff]; exact fidxF_any (Int.le_refl 0)) | (exfalso; omega)))

theorem areFormulas_c (l : List (List (Int × Int))) (hs : shortL l) : CallA Tryz.prog 72 [LLN l] (.bool (allF l)) := by
  refine CallA.of Tryz.func72 rfl (by kernel_rfl) ?_
  refine R.go 7 (R.call true (contains_notF_c l hs) (by kernel_rfl) rfl (by kernel_rfl) ?_)
  exact R.go 3 (R.retE (.bool (!(l.any notF))) (by kernel_rfl) (by kernel_rfl) (by first | (rfl) | (exfalso; omega)))

theorem variablesIn_c (l : List (List (Int × Int))) (hF : allF l = true) (hl : l.length ≤ 1000000000) : CallA Tryz.prog 52 [LLN l] (ownA eI 2 1 (mem (vmT l l.length))) := by
  refine CallA.of Tryz.func52 rfl (by kernel_rfl) ?_
  refine R.go 16 (R.loop ((fun | (i, m) => (⟨(frm 19 [(3, AI m), (6, LLN l), (7, AI l.length), (8, AI (i : Int))]), []⟩ : St) : Nat × Int → St)) (fun | (i, m) => (i ≤ l.length) ∧ (m = vmT l i)) (fun | (i, m) => l.length - i) (0, 0) [3, 6, 7, 8] none (by kernel_rfl) (by kernel_rfl) (by kernel_rfl) ⟨(by omega), (by rfl)⟩ ?_)
  rintro ⟨i, m⟩ ⟨h4_1, h4_2⟩ R1 N2
  have hv := vmT_rng hF i (by omega)
  have ha := fun h : i < l.length => isF_parts (allF_get hF i h)
  refine R.go 5 (R.cond ((i : Int) < (l.length : Int)) (by kernel_rfl) (fun c5 => ?_) (fun c5 => ?_))
  · refine R.go 5 (R.idx eLN l [] i (i : Int) (by kernel_rfl) rfl eLN_len (by omega) (by kernel_rfl) ?_)
    have hb : (l.getD i []).any badN = false := (ha (by omega)).2.2.1
    have hl4 : (l.getD i []).length ≤ 40 := (ha (by omega)).1
    refine R.go 6 (R.call true (variableMask_c (l.getD i []) hb hl4) (by kernel_rfl) rfl (by kernel_rfl) ?_)
    refine R.go 5 (R.ar ((i : Int) + 1) (by kernel_rfl) (by omega) (by omega) (by kernel_rfl) ?_)
    exact R.go 2 (R.stop R1 (by kernel_rfl) (N2 (i + 1, bor m (vmTo (l.getD i []) (l.getD i []).length)) [3, 6, 7, 8] none _ (by kernel_rfl) (by kernel_rfl) ⟨(by omega), (by rw [vmT, ← ‹m = vmT l i›])⟩ (by show (l.length - (i + 1)) < (l.length - i); omega)))
  · have hv2 := vmT_rng hF i (by omega)
    refine R.go 4 (R.call true (membersOf_c m (by first | assumption | exact inM61 (by omega) (by omega))) (by kernel_rfl) rfl (by kernel_rfl) ?_)
    exact R.go 2 (R.retE (ownA eI 2 1 (mem m)) (by kernel_rfl) (by kernel_rfl) (by first | (rw [‹m = vmT l i›, show i = l.length by omega]) | (exfalso; omega)))

theorem l02VariablesM_c (a : List (Int × Int)) (hb : a.any badN = false) (hl : a.length ≤ 40) : CallA Tryz.prog 47 [LN a] (ownA eI 2 1 (mem (vmTo a a.length))) := by
  have h := l02Variables_c a hb hl
  rw [bits_mem6 (vm63 hb)] at h
  exact h

theorem l06Variables_c (l : List (List (Int × Int))) (hF : allF l = true) (hl : l.length ≤ 1000000000) : CallA Tryz.prog 54 [LLN l] (ownA eI 2 1 (mem (vmT l l.length))) := by
  refine CallA.of Tryz.func54 rfl (by kernel_rfl) ?_
  refine R.go 14 (R.loop ((fun | (i, m) => (⟨(frm 33 [(0, LLN l), (3, AI m), (4, AI (i : Int))]), []⟩ : St) : Nat × Int → St)) (fun | (i, m) => (i ≤ l.length) ∧ (m = vmT l i)) (fun | (i, m) => l.length - i) (0, 0) [0, 3, 4] none (by kernel_rfl) (by kernel_rfl) (by kernel_rfl) ⟨(by omega), (by rfl)⟩ ?_)
  rintro ⟨i, m⟩ ⟨h4_1, h4_2⟩ R1 N2
  have hv := vmT_rng hF i (by omega)
  have ha := fun h : i < l.length => isF_parts (allF_get hF i h)
  refine R.go 8 (R.cond ((i : Int) < (l.length : Int)) (by kernel_rfl) (fun c5 => ?_) (fun c5 => ?_))
  · have hb : (l.getD i []).any badN = false := (ha (by omega)).2.2.1
    have hl4 : (l.getD i []).length ≤ 40 := (ha (by omega)).1
    have hv6 := vm63 hb
    have hm6 : InM 6 (vmT l i) := inM6 hv.1 hv.2
    refine R.go 7 (R.idx eLN l [] i (i : Int) (by kernel_rfl) rfl eLN_len (by omega) (by kernel_rfl) ?_)
    refine R.go 1 (R.call true (l02VariablesM_c (l.getD i []) hb hl4).frz (by kernel_rfl) rfl (by kernel_rfl) ?_)
    refine R.go 7 (R.loop ((fun | (k, m2) => (⟨(frm 33 [(0, LLN l), (3, AI m2), (4, AI (i : Int)), (5, LI (mem (vmTo (l.getD i []) (l.getD i []).length))), (6, AI (k : Int))]), []⟩ : St) : Nat × Int → St)) (fun | (k, m2) => (k ≤ (mem (vmTo (l.getD i []) (l.getD i []).length)).length) ∧ (m2 = orTo m (mem (vmTo (l.getD i []) (l.getD i []).length)) k)) (fun | (k, m2) => (mem (vmTo (l.getD i []) (l.getD i []).length)).length - k) (0, m) [0, 3, 4, 5, 6] none (by kernel_rfl) (by kernel_rfl) (by kernel_rfl) ⟨(by omega), (by rfl)⟩ ?_)
    rintro ⟨k, m2⟩ ⟨h9_1, h9_2⟩ R6 N7
    have hg := fun h : k < (mem (vmTo (l.getD i []) (l.getD i []).length)).length => mem_at hv6 h
    have hml := mem_le (vmTo (l.getD i []) (l.getD i []).length)
    refine R.go 8 (R.cond ((k : Int) < ((mem (vmTo (l.getD i []) (l.getD i []).length)).length : Int)) (by kernel_rfl) (fun c10 => ?_) (fun c10 => ?_))
    · have hg2 := hg (by omega)
      refine R.go 7 (R.idx eI (mem (vmTo (l.getD i []) (l.getD i []).length)) 0 k (k : Int) (by kernel_rfl) rfl eI_len (by first | omega | (simp <;> omega)) (by kernel_rfl) ?_)
      refine R.go 1 (R.call true (l01One_c ((mem (vmTo (l.getD i []) (l.getD i []).length)).getD k 0) (by first | omega | (simp <;> omega)) (by first | omega | (simp <;> omega))) (by kernel_rfl) rfl (by kernel_rfl) ?_)
      refine R.go 6 (R.ar ((k : Int) + 1) (by kernel_rfl) (by omega) (by omega) (by kernel_rfl) ?_)
      exact R.go 2 (R.stop R6 (by kernel_rfl) (N7 (k + 1, bor m2 (shl64 1 ((mem (vmTo (l.getD i []) (l.getD i []).length)).getD k 0))) [0, 3, 4, 5, 6] none _ (by kernel_rfl) (by kernel_rfl) ⟨(by omega), (by rw [orTo, ← ‹m2 = orTo m (mem (vmTo (l.getD i []) (l.getD i []).length)) k›])⟩ (by show ((mem (vmTo (l.getD i []) (l.getD i []).length)).length - (k + 1)) < ((mem (vmTo (l.getD i []) (l.getD i []).length)).length - k); omega)))
    · refine R.go 4 (R.ar ((i : Int) + 1) (by kernel_rfl) (by omega) (by omega) (by kernel_rfl) ?_)
      exact R.go 2 (R.stop R1 (by kernel_rfl) (N2 (i + 1, m2) [0, 3, 4] none _ (by kernel_rfl) (by kernel_rfl) ⟨(by omega), (by rw [vmT, ← orTo_mem hm6 hv6, ← ‹m = vmT l i›, ← show k = (mem _).length by omega]; assumption)⟩ (by show (l.length - (i + 1)) < (l.length - i); omega)))
  · have hv2 := vmT_rng hF i (by omega)
    refine R.go 4 (R.call true (l01ListM_c m (by first | assumption | exact inM61 (by omega) (by omega))) (by kernel_rfl) rfl (by kernel_rfl) ?_)
    exact R.go 2 (R.retE (ownA eI 2 1 (mem m)) (by kernel_rfl) (by kernel_rfl) (by first | (rw [‹m = vmT l i›, show i = l.length by omega]) | (exfalso; omega)))

end Go.Proofs.YtkanjgmocmhlkaaGreat
