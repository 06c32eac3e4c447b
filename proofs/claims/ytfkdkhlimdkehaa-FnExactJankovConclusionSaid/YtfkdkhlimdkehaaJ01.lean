/- Minimal elements, disjunctions of variables; the conclusion of the Jankov formulas. -/
import Derived.Test.YtfkdkhlimdkehaaY00
import Derived.Test.YtfkdkhlimdkehaaS02
namespace Go.Proofs.Ytfkdkhlimdkehaa
open Go.RowKit Go.Abs

/-- Is x a least member of m, against the first y elements? -/
def lstT (xs : List Int) (m : Int) (x : Nat) : Nat → Bool
  | 0 => decide (band (shr64 m (x : Int)) 1 = 1)
  | y + 1 => lstT xs m x y && (decide ((y : Int) = (x : Int)) || !decide (band (shr64 m (y : Int)) 1 = 1) || !decide (band (shr64 (xs.getD y 0) (x : Int)) 1 = 1))
def mnS (xs : List Int) (m : Int) (n : Nat) : Nat → List Int
  | 0 => []
  | x + 1 => if lstT xs m x n = true then mnS xs m n x ++ [(x : Int)] else mnS xs m n x
theorem mnS_yes {xs : List Int} {m : Int} {n x : Nat} (h : lstT xs m x n = true) : mnS xs m n x ++ [(x : Int)] = mnS xs m n (x + 1) := by rw [mnS, if_pos h]
theorem mnS_no {xs : List Int} {m : Int} {n x : Nat} (h : lstT xs m x n = false) : mnS xs m n x = mnS xs m n (x + 1) := by rw [mnS, if_neg (by rw [h]; decide)]
theorem mnS_len (xs : List Int) (m : Int) (n : Nat) : ∀ x : Nat, (mnS xs m n x).length ≤ x
  | 0 => Nat.le_refl _
  | x + 1 => by
    have := mnS_len xs m n x
    rw [mnS]
    split
    · simp; omega
    · omega
theorem mnS_rng (xs : List Int) (m : Int) (n : Nat) : ∀ (x : Nat) (v : Int), v ∈ mnS xs m n x → 0 ≤ v ∧ v < (x : Int)
  | 0, v, h => by simp [mnS] at h
  | x + 1, v, h => by
    rw [mnS] at h
    split at h
    · rcases List.mem_append.1 h with h | h
      · have := mnS_rng xs m n x v h; omega
      · rw [List.mem_singleton] at h; omega
    · have := mnS_rng xs m n x v h; omega
/-- Lies another member of m below x? -/
def loM (xs : List Int) (x : Int) (y : Int) : Bool := decide (¬ y = x) && decide (band (shr64 (xs.getD y.toNat 0) x) 1 = 1)
def delM (xs : List Int) (m : Int) (x : Int) : Bool := (mem m).any (loM xs x)
def keepM (xs : List Int) (m : Int) (x : Int) : Bool := !delM xs m x
theorem lstT_iff {xs : List Int} {m : Int} {x : Nat} : ∀ {y : Nat}, lstT xs m x y = true ↔ band (shr64 m (x : Int)) 1 = 1 ∧ ∀ j : Nat, j < y → (j : Int) = (x : Int) ∨ ¬ band (shr64 m (j : Int)) 1 = 1 ∨ ¬ band (shr64 (xs.getD j 0) (x : Int)) 1 = 1
  | 0 => by simp [lstT]
  | y + 1 => by
    rw [lstT, Bool.and_eq_true, lstT_iff (y := y)]
    constructor
    · rintro ⟨⟨h1, h2⟩, h3⟩
      refine ⟨h1, fun j hj => ?_⟩
      by_cases e : j = y
      · subst e
        simpa [or_assoc] using h3
      · exact h2 j (by omega)
    · rintro ⟨h1, h2⟩
      refine ⟨⟨h1, fun j hj => h2 j (by omega)⟩, ?_⟩
      simpa [or_assoc] using h2 y (by omega)
theorem keep_iff {n : Nat} {xs : List Int} {m : Int} {x : Nat} (hn : n ≤ 8) (hm : InM n m) (hx : x < n) (hb : tb m x = true) : keepM xs m (x : Int) = lstT xs m x n := by
  have hT := fun (j : Nat) (hj : j < n) => has_tb (n := n) (m := m) (i := j) (by omega) hm (by omega)
  rw [Bool.eq_iff_iff, lstT_iff, keepM, delM, Bool.not_eq_true', List.any_eq_false]
  constructor
  · intro h
    refine ⟨(hT x hx).2 hb, fun j hj => ?_⟩
    by_cases e1 : (j : Int) = (x : Int)
    · exact .inl e1
    · by_cases e2 : band (shr64 m (j : Int)) 1 = 1
      · refine .inr (.inr fun e3 => h (j : Int) ((mem_iff (N := n) (by omega) hm).2 ((hT j hj).1 e2)) ?_)
        simp only [loM, Int.toNat_natCast, Bool.and_eq_true, decide_eq_true_eq]
        exact ⟨e1, e3⟩
      · exact .inr (.inl e2)
  · rintro ⟨_, h⟩ y hy hl
    simp only [loM, Bool.and_eq_true, decide_eq_true_eq] at hl
    have h1 := mem_lt (N := n) (by omega) hm y hy
    have e : ((y.toNat : Nat) : Int) = y := by omega
    have h2 := (mem_iff (N := n) (j := y.toNat) (by omega) hm).1 (by rw [e]; exact hy)
    have h3 := (hT y.toNat (by omega)).2 h2
    have h4 := h y.toNat (by omega)
    rw [e] at h3 h4
    rcases h4 with h4 | h4 | h4
    · exact hl.1 h4
    · exact h4 h3
    · exact h4 hl.2
theorem mn_filter {n : Nat} {xs : List Int} {m : Int} (hn : n ≤ 8) (hm : InM n m) : ∀ i : Nat, i ≤ n → (memN m i).filter (keepM xs m) = mnS xs m n i
  | 0, _ => rfl
  | i + 1, h => by
    have ih := mn_filter (xs := xs) hn hm i (by omega)
    by_cases hb : tb m i = true
    · rw [memN_yes hb, List.filter_append, ih, mnS, ← keep_iff hn hm (by omega) hb]
      split
      · rename_i hk
        rw [List.filter_cons, if_pos hk]; rfl
      · rename_i hk
        rw [List.filter_cons, if_neg hk]; simp
    · rw [memN_no hb, ih, mnS, if_neg]
      intro hl
      exact hb ((has_tb (n := n) (by omega) hm (by omega)).1 (lstT_iff.1 hl).1)
theorem mn_eq {n : Nat} {xs : List Int} {m : Int} (hn : n ≤ 8) (hm : InM n m) : (mem m).filter (keepM xs m) = mnS xs m n n := by
  rw [← mn_filter hn hm n (Nat.le_refl _)]
  congr 1
  exact memN_stop (fun j hj => by
    cases e : tb m j with
    | false => rfl
    | true => exact absurd (tb_lt hm e) (by omega)) (by omega)
theorem fil_cut {q : Int → Bool} {a r : List Int} {ii jj : Int} (hl : r.length = a.length) (hi : 0 ≤ ii) (hij : ii < jj) (hj : jj ≤ a.length) (hjl : ¬ jj < (r.length : Int)) (h : r.take ii.toNat = (a.take jj.toNat).filter q) :
    (r.take ii.toNat ++ List.replicate (r.length - ii.toNat) 0).take ii.toNat = a.filter q := by
  rw [List.take_append_of_le_length (by rw [List.length_take]; omega), List.take_take, Nat.min_self, h, List.take_of_length_le (by omega)]
/-! Disjunctions. -/
def varL (L : List Int) : List (List (Int × Int)) := L.map fun v => [(0, v)]
def orAll (l : List (List (Int × Int))) : List (Int × Int) := if l.length = 0 then [(1, 0)] else List.replicate (l.length - 1) (3, 0) ++ joinTo l l.length
def orT (l : List (List (Int × Int))) (i : Nat) : List (Int × Int) := List.replicate (i - 1) (3, 0) ++ joinTo l i
theorem varL_len (L : List Int) : (varL L).length = L.length := by simp [varL]
theorem varL_snoc (L : List Int) (v : Int) : varL L ++ [[(0, v)]] = varL (L ++ [v]) := by simp [varL]
theorem varL_get {L : List Int} {j : Nat} (h : j < L.length) : (varL L).getD j [] = [(0, L.getD j 0)] := by
  simp [varL, List.getD_eq_getElem?_getD, List.getElem?_eq_getElem h]
theorem lenTo_var (L : List Int) : ∀ i : Nat, i ≤ L.length → lenTo (varL L) i = i
  | 0, _ => rfl
  | i + 1, h => by rw [lenTo, lenTo_var L i (by omega), varL_get (by omega)]; rfl
theorem orT_step {l : List (List (Int × Int))} {i : Nat} (h : 1 ≤ i) : (3, 0) :: (orT l i ++ l.getD i []) = orT l (i + 1) := by
  rw [orT, orT, joinTo, show i + 1 - 1 = (i - 1) + 1 by omega, List.replicate_succ]
  simp
theorem orAll_nil {l : List (List (Int × Int))} (h : l.length = 0) : [((1 : Int), (0 : Int))] = orAll l := by rw [orAll, if_pos h]
theorem orAll_some {l : List (List (Int × Int))} {i : Nat} (h : ¬ l.length = 0) (hi : i = l.length) : orT l i = orAll l := by rw [orAll, if_neg h, hi]; rfl
theorem orT_len (l : List (List (Int × Int))) (i : Nat) : (orT l i).length = i - 1 + lenTo l i := by simp [orT, joinTo_length]
def jnd (n : Int) (xs : List Int) (m : Int) : List (Int × Int) := orAll (varL (mnS xs m n.toNat n.toNat))
theorem jnd_len (n : Int) (xs : List Int) (m : Int) (h8 : n ≤ 8) : (jnd n xs m).length ≤ 16 := by
  have h1 := mnS_len xs m n.toNat n.toNat
  unfold jnd orAll
  split
  · simp
  · rw [List.length_append, List.length_replicate, joinTo_length, varL_len, lenTo_var _ _ (Nat.le_refl _)]
    omega
def jkC (n : Int) (xs : List Int) : Int := if okPo n xs = true then (if rootX n xs < 0 then 5 else if n > 5 then 3 else 0) else 1
theorem jk_1 {n : Int} {xs : List Int} (h : okPo n xs = false) : 1 = jkC n xs := by simp [jkC, h]
theorem jk_5 {n : Int} {xs : List Int} (h : okPo n xs = true) (h2 : rootX n xs < 0) : 5 = jkC n xs := by rw [jkC, if_pos h, if_pos h2]
theorem jk_3 {n : Int} {xs : List Int} (h : okPo n xs = true) (h2 : ¬ rootX n xs < 0) (h3 : n > 5) : 3 = jkC n xs := by rw [jkC, if_pos h, if_neg h2, if_pos h3]
theorem jk_0 {n : Int} {xs : List Int} (h : okPo n xs = true) (h2 : ¬ rootX n xs < 0) (h3 : ¬ n > 5) : 0 = jkC n xs := by rw [jkC, if_pos h, if_neg h2, if_neg h3]
theorem jk_ok {n : Int} {xs : List Int} (h : jkC n xs = 0) : okPo n xs = true ∧ 0 ≤ rootX n xs ∧ n ≤ 5 := by
  unfold jkC at h
  split at h
  · rename_i h1
    split at h
    · cases h
    · split at h
      · cases h
      · exact ⟨h1, by omega, by omega⟩
  · cases h
theorem fidxI_lt {p : Int → Bool} : ∀ {a : List Int} {i : Int}, 0 ≤ i → fidxI p a i < i + a.length
  | [], i, h => by simp [fidxI]; omega
  | x :: a, i, h => by
    have := fidxI_lt (p := p) (a := a) (i := i + 1) (by omega)
    rw [fidxI, List.length_cons]
    split <;> omega
theorem rootX_lt {n : Int} {xs : List Int} (h : (xs.length : Int) = n) : rootX n xs < n := by
  have := fidxI_lt (p := fixP n) (a := xs) (i := 0) (Int.le_refl 0)
  unfold rootX
  omega
def jcM (n : Int) (xs : List Int) : Int := bnot ((shl64 1 n) - 1) (shl64 1 (rootX n xs))
theorem jcM_in {n : Int} {xs : List Int} (hP : okPo n xs = true) (hr : 0 ≤ rootX n xs) : InM n.toNat (jcM n xs) := by
  have hF := okFr_rel (okPo_fr hP)
  have h1 := rootX_lt hF.2.2.1
  have e : ((n.toNat : Nat) : Int) = n := by omega
  have hf := inM_full (n := n.toNat) (by omega)
  rw [e] at hf
  have h2 := inM_one (n := n.toNat) (i := (rootX n xs).toNat) (by omega) (by omega)
  rw [show (((rootX n xs).toNat : Nat) : Int) = rootX n xs by omega] at h2
  exact inM_bnot (by omega) hf h2
def jcL (n : Int) (xs : List Int) : List (Int × Int) := jnd n xs (jcM n xs)

theorem min11_c (y : Int) (x : Int) (n : Int) (xs : List Int) (hy : 0 ≤ y ∧ y < xs.length) (hx : 0 ≤ x) : CallA Try.prog 172 [AI y, .rptr [AI x], .rptr [AI n, LI xs]] (.bool (loM xs x y)) := by
  refine CallA.of Try.func172 rfl (by kernel_rfl) ?_
  refine R.go 10 ?_
  by_cases c1 : y = x
  · refine R.skp (!decide (y = x)) true (by kernel_rfl) (nF c1) (by kernel_rfl) ?_
    refine R.skp (!decide (y = x)) true (by kernel_rfl) (nF c1) (by kernel_rfl) ?_
    refine R.skp (!decide (y = x)) true (by kernel_rfl) (nF c1) (by kernel_rfl) ?_
    refine R.skp (!decide (y = x)) true (by kernel_rfl) (nF c1) (by kernel_rfl) ?_
    refine R.skp (!decide (y = x)) true (by kernel_rfl) (nF c1) (by kernel_rfl) ?_
    refine R.skp (!decide (y = x)) true (by kernel_rfl) (nF c1) (by kernel_rfl) ?_
    refine R.skp (!decide (y = x)) true (by kernel_rfl) (nF c1) (by kernel_rfl) ?_
    refine R.pick (!decide (y = x)) false (by kernel_rfl) (nF c1) (by kernel_rfl) ?_
    exact R.go 2 (R.retE (.bool false) (by kernel_rfl) (by kernel_rfl) (by first | (apply congrArg AV.bool; simp [loM, *]) | (exfalso; omega)))
  · refine R.want (!decide (y = x)) true (by kernel_rfl) (nT c1) ?_
    refine R.go 1 (R.want (!decide (y = x)) true (by kernel_rfl) (nT c1) ?_)
    refine R.go 1 (R.want (!decide (y = x)) true (by kernel_rfl) (nT c1) ?_)
    refine R.go 1 (R.want (!decide (y = x)) true (by kernel_rfl) (nT c1) ?_)
    refine R.idx eI xs 0 ((y).toNat) y (by kernel_rfl) (by omega) eI_len (by omega) (by kernel_rfl) ?_
    refine R.want (!decide (y = x)) true (by kernel_rfl) (nT c1) ?_
    refine R.go 1 (R.want (!decide (y = x)) true (by kernel_rfl) (nT c1) ?_)
    refine R.go 1 (R.want (!decide (y = x)) true (by kernel_rfl) (nT c1) ?_)
    refine R.call true (has_c (xs.getD ((y).toNat) 0) x hx) (by kernel_rfl) rfl (by kernel_rfl) ?_
    refine R.pick (!decide (y = x)) true (by kernel_rfl) (nT c1) (by kernel_rfl) ?_
    exact R.go 2 (R.retE (.bool (decide (band (shr64 (xs.getD ((y).toNat) 0) x) 1 = 1))) (by kernel_rfl) (by kernel_rfl) (by first | (apply congrArg AV.bool; simp [loM, *]) | (exfalso; omega)))

theorem indexLo_c (a : List Int) (x : Int) (n : Int) (xs : List Int) (hl : a.length ≤ 1000000000) (ha : ∀ j : Nat, j < a.length → 0 ≤ a.getD j 0 ∧ a.getD j 0 < (xs.length : Int)) (hx : 0 ≤ x) : CallA Try.prog 93 [LI a, .fn 172 [.rptr [AI x], .rptr [AI n, LI xs]]] (AI (fidxI (loM xs x) a 0)) := by
  refine CallA.of Try.func93 rfl (by kernel_rfl) ?_
  refine R.go 12 (R.loop (fun (i : Nat) => (⟨(frm 19 [(0, LI a), (1, .fn 172 [.rptr [AI x], .rptr [AI n, LI xs]]), (7, AI a.length), (8, AI (i : Int))]), []⟩ : St)) (fun (i : Nat) => (i ≤ a.length) ∧ (fidxI (loM xs x) a 0 = fidxI (loM xs x) (a.drop i) i)) (fun (i : Nat) => a.length - i) 0 [0, 1, 7, 8] none (by kernel_rfl) (by kernel_rfl) (by kernel_rfl) ⟨(by omega), (by rfl)⟩ ?_)
  rintro i ⟨h3_1, h3_2⟩ R1 N2
  have hai := ha i
  refine R.go 5 (R.cond ((i : Int) < (a.length : Int)) (by kernel_rfl) (fun c4 => ?_) (fun c4 => ?_))
  · have haj := hai (by omega)
    refine R.go 13 (R.idx eI a 0 i (i : Int) (by kernel_rfl) rfl eI_len (by omega) (by kernel_rfl) ?_)
    refine R.go 1 (R.call true (min11_c (a.getD i 0) x n xs (by first | omega | (simp <;> omega)) hx) (by kernel_rfl) rfl (by kernel_rfl) ?_)
    refine R.go 1 (R.condB (loM xs x (a.getD i 0)) (by kernel_rfl) (fun c5 => ?_) (fun c5 => ?_))
    · exact R.go 5 (R.retE (AI (i : Int)) (by kernel_rfl) (by kernel_rfl) (by first | (apply congrArg AI; rw [‹fidxI _ a 0 = _›]; first | exact (fidxI_end (by omega)).symm | exact (fidxI_hit (by omega) (by assumption)).symm) | (exfalso; omega)))
    · refine R.go 3 (R.ar ((i : Int) + 1) (by kernel_rfl) (by omega) (by omega) (by kernel_rfl) ?_)
      exact R.go 2 (R.stop R1 (by kernel_rfl) (N2 (i + 1) [0, 1, 7, 8] none _ (by kernel_rfl) (by kernel_rfl) ⟨(by omega), (by rw [‹fidxI _ a 0 = _›]; exact fidxI_miss (by omega) (by assumption))⟩ (by show (a.length - (i + 1)) < (a.length - i); omega)))
  · exact R.go 5 (R.retE (AI (-1)) (by kernel_rfl) (by kernel_rfl) (by first | (apply congrArg AI; rw [‹fidxI _ a 0 = _›]; first | exact (fidxI_end (by omega)).symm | exact (fidxI_hit (by omega) (by assumption)).symm) | (exfalso; omega)))

theorem containsLo_c (a : List Int) (x : Int) (n : Int) (xs : List Int) (hl : a.length ≤ 1000000000) (ha : ∀ j : Nat, j < a.length → 0 ≤ a.getD j 0 ∧ a.getD j 0 < (xs.length : Int)) (hx : 0 ≤ x) : CallA Try.prog 127 [LI a, .fn 172 [.rptr [AI x], .rptr [AI n, LI xs]]] (.bool (a.any (loM xs x))) := by
  refine CallA.of Try.func127 rfl (by kernel_rfl) ?_
  refine R.go 8 (R.call true (indexLo_c a x n xs hl ha hx) (by kernel_rfl) rfl (by kernel_rfl) ?_)
  exact R.go 3 (R.retE (.bool (decide ((fidxI (loM xs x) a 0) ≥ 0))) (by kernel_rfl) (by kernel_rfl) (by first | (apply congrArg AV.bool; rw [Bool.eq_iff_iff, decide_eq_true_iff]; exact fidxI_any (Int.le_refl 0)) | (exfalso; omega)))

theorem min1_c (x : Int) (m : Int) (n : Int) (xs : List Int) (hP : okPo n xs = true) (hm : InM n.toNat m) (hx : 0 ≤ x) : CallA Try.prog 171 [AI x, .rptr [AI m], .rptr [AI n, LI xs]] (.bool (delM xs m x)) := by
  have hR := okPo_fr hP
  have hF := okFr_rel hR
  have hb0 : 0 ≤ n ∧ n ≤ 8 ∧ (xs.length : Int) = n := ⟨hF.1, hF.2.1, hF.2.2.1⟩
  have hm61 := inM_mono (n' := 61) (by omega) hm
  have hml := mem_le m
  have hmg : ∀ j : Nat, j < (mem m).length → 0 ≤ (mem m).getD j 0 ∧ (mem m).getD j 0 < (xs.length : Int) := fun j hj => by have h1 := mem_lt' (N := n.toNat) (by omega) hm hj; omega
  refine CallA.of Try.func171 rfl (by kernel_rfl) ?_
  refine R.go 8 (R.call true (membersOf_c m (by first | assumption | exact inM61 (by omega) (by omega))).frz (by kernel_rfl) rfl (by kernel_rfl) ?_)
  refine R.go 1 (R.call false (containsLo_c (mem m) x n xs (by first | omega | (simp <;> omega)) hmg hx) (by kernel_rfl) rfl (by kernel_rfl) ?_)
  exact R.go 2 (R.retE (.bool ((mem m).any (loM xs x))) (by kernel_rfl) (by kernel_rfl) (by first | (rfl) | (exfalso; omega)))

theorem indexDel_c (a : List Int) (m : Int) (n : Int) (xs : List Int) (hl : a.length ≤ 1000000000) (hP : okPo n xs = true) (hm : InM n.toNat m) (ha : ∀ j : Nat, j < a.length → 0 ≤ a.getD j 0 ∧ a.getD j 0 < (xs.length : Int)) : CallA Try.prog 93 [LI a, .fn 171 [.rptr [AI m], .rptr [AI n, LI xs]]] (AI (fidxI (delM xs m) a 0)) := by
  refine CallA.of Try.func93 rfl (by kernel_rfl) ?_
  refine R.go 12 (R.loop (fun (i : Nat) => (⟨(frm 19 [(0, LI a), (1, .fn 171 [.rptr [AI m], .rptr [AI n, LI xs]]), (7, AI a.length), (8, AI (i : Int))]), []⟩ : St)) (fun (i : Nat) => (i ≤ a.length) ∧ (fidxI (delM xs m) a 0 = fidxI (delM xs m) (a.drop i) i)) (fun (i : Nat) => a.length - i) 0 [0, 1, 7, 8] none (by kernel_rfl) (by kernel_rfl) (by kernel_rfl) ⟨(by omega), (by rfl)⟩ ?_)
  rintro i ⟨h3_1, h3_2⟩ R1 N2
  have hai := ha i
  refine R.go 5 (R.cond ((i : Int) < (a.length : Int)) (by kernel_rfl) (fun c4 => ?_) (fun c4 => ?_))
  · have haj := hai (by omega)
    refine R.go 13 (R.idx eI a 0 i (i : Int) (by kernel_rfl) rfl eI_len (by omega) (by kernel_rfl) ?_)
    refine R.go 1 (R.call true (min1_c (a.getD i 0) m n xs hP hm (by omega)) (by kernel_rfl) rfl (by kernel_rfl) ?_)
    refine R.go 1 (R.condB (delM xs m (a.getD i 0)) (by kernel_rfl) (fun c5 => ?_) (fun c5 => ?_))
    · exact R.go 5 (R.retE (AI (i : Int)) (by kernel_rfl) (by kernel_rfl) (by first | (apply congrArg AI; rw [‹fidxI _ a 0 = _›]; first | exact (fidxI_end (by omega)).symm | exact (fidxI_hit (by omega) (by assumption)).symm) | (exfalso; omega)))
    · refine R.go 3 (R.ar ((i : Int) + 1) (by kernel_rfl) (by omega) (by omega) (by kernel_rfl) ?_)
      exact R.go 2 (R.stop R1 (by kernel_rfl) (N2 (i + 1) [0, 1, 7, 8] none _ (by kernel_rfl) (by kernel_rfl) ⟨(by omega), (by rw [‹fidxI _ a 0 = _›]; exact fidxI_miss (by omega) (by assumption))⟩ (by show (a.length - (i + 1)) < (a.length - i); omega)))
  · exact R.go 5 (R.retE (AI (-1)) (by kernel_rfl) (by kernel_rfl) (by first | (apply congrArg AI; rw [‹fidxI _ a 0 = _›]; first | exact (fidxI_end (by omega)).symm | exact (fidxI_hit (by omega) (by assumption)).symm) | (exfalso; omega)))

theorem membersG_c (m : Int) (a : List Int) (hm : InM 61 m) (ha : a = mem m) : CallA Try.prog 94 [AI m] (ownA eI 2 1 a) := by rw [ha]; exact membersOf_c m hm

theorem minimal_c (n : Int) (xs : List Int) (m : Int) (hP : okPo n xs = true) (hm : InM n.toNat m) : CallA Try.prog 120 [.agg [AI n, LI xs], AI m] (ownA eI 2 1 (mnS xs m n.toNat n.toNat)) := by
  have hR := okPo_fr hP
  have hF := okFr_rel hR
  have hb0 : 0 ≤ n ∧ n ≤ 8 ∧ (xs.length : Int) = n := ⟨hF.1, hF.2.1, hF.2.2.1⟩
  have hm61 := inM_mono (n' := 61) (by omega) hm
  have hml := mem_le m
  have hmg : ∀ j : Nat, j < (mem m).length → 0 ≤ (mem m).getD j 0 ∧ (mem m).getD j 0 < (xs.length : Int) := fun j hj => by have h1 := mem_lt' (N := n.toNat) (by omega) hm hj; omega
  obtain ⟨a, haE⟩ : ∃ a, a = mem m := ⟨_, rfl⟩
  rw [← haE] at hmg hml
  have hqn : ∀ x, delM xs m x = !keepM xs m x := fun x => by simp [keepM]
  have hst := fun h : ¬ fidxI (delM xs m) a 0 = -1 => fidx_start hqn h
  refine CallA.of Try.func120 rfl (by kernel_rfl) ?_
  refine R.go 9 (R.call true (membersG_c m a (by assumption) (by assumption)) (by kernel_rfl) rfl (by kernel_rfl) ?_)
  refine R.go 1 (R.enter (avs := [.ref 2, .fn 171 [.ptr 1 0, .ptr 0 0]]) Try.func48 rfl (by kernel_rfl) (by kernel_rfl) (by kernel_rfl) ?_)
  intro us1
  refine R.go 8 (R.call false (indexDel_c a m n xs (by first | omega | (simp <;> omega)) hP hm (by assumption)) (by kernel_rfl) rfl (by kernel_rfl) ?_)
  refine R.go 8 (R.cond ((fidxI (delM xs m) a 0) = (-1)) (by kernel_rfl) (fun c2 => ?_) (fun c2 => ?_))
  · refine R.go 5 (R.back (.ref 2) (frm 9 [(0, .agg [AI n, LI xs]), (1, AI m), (2, .ptr 0 0), (3, .ptr 1 0), (4, .nil), (5, AI m), (6, .ref 2), (7, .fn 171 [.ptr 1 0, .ptr 0 0])]) (by kernel_rfl) (by kernel_rfl) (by kernel_rfl) ?_)
    exact R.go 2 (R.retE (ownA eI 2 1 a) (by kernel_rfl) (by kernel_rfl) (by first | (apply congrArg (ownA eI _ 1); rw [← mn_eq (by omega) hm, ← haE]; first | exact (fidx_none hqn (Int.le_refl 0) (by assumption)).symm | exact fil_cut (jj := jj) (by assumption) (by omega) (by omega) (by omega) (by omega) (by assumption)) | (exfalso; omega)))
  · have hs2 := hst (by assumption)
    refine R.go 5 (R.ar ((fidxI (delM xs m) a 0) + 1) (by kernel_rfl) (by omega) (by omega) (by kernel_rfl) ?_)
    refine R.go 3 (R.loop ((fun | (jj, ii, r) => (⟨(frm 42 [(0, .ref 2), (1, .fn 171 [.ptr 1 0, .ptr 0 0]), (5, AI ii), (6, AI jj)]), [.box 29 [AI n, LI xs], .box 2 [AI m], rowA eI 2 1 r, .frame us1 (frm 9 [(0, .agg [AI n, LI xs]), (1, AI m), (2, .ptr 0 0), (3, .ptr 1 0), (4, .nil), (5, AI m), (6, .ref 2), (7, .fn 171 [.ptr 1 0, .ptr 0 0])])]⟩ : St) : Int × Int × (List Int) → St)) (fun | (jj, ii, r) => (0 ≤ ii) ∧ (ii < jj) ∧ (jj ≤ a.length) ∧ (r.length = a.length) ∧ (r.take ii.toNat = (a.take jj.toNat).filter (keepM xs m)) ∧ (r.drop jj.toNat = a.drop jj.toNat)) (fun | (jj, ii, r) => (a.length - jj).toNat) (((fidxI (delM xs m) a 0) + 1), (fidxI (delM xs m) a 0), a) [0, 1, 5, 6] none (by kernel_rfl) (by kernel_rfl) (by kernel_rfl) ⟨(by omega), (by omega), (by omega), (by rfl), (by exact hs2.2.2), (by rfl)⟩ ?_)
    rintro ⟨jj, ii, r⟩ ⟨h6_1, h6_2, h6_3, h6_4, h6_5, h6_6⟩ R3 N4
    have hjm : jj < a.length → 0 ≤ r.getD jj.toNat 0 ∧ r.getD jj.toNat 0 < (xs.length : Int) := fun hj => by
      have h2 := congrArg (fun l : List Int => l.getD 0 0) (by assumption : r.drop jj.toNat = a.drop jj.toNat)
      have h3 : r.getD jj.toNat 0 = a.getD jj.toNat 0 := by simpa [List.getD_eq_getElem?_getD, List.getElem?_drop] using h2
      rw [h3]; exact hmg _ (by omega)
    have hjk := fun (hj : jj < a.length) (hq : keepM xs m (r.getD jj.toNat 0) = true) => del_keep (q := keepM xs m) (by assumption : r.length = a.length) (i := ii.toNat) (j := jj.toNat) (by omega) (by omega) (by assumption) (by assumption) hq
    have hjs := fun (hj : jj < a.length) (hq : keepM xs m (r.getD jj.toNat 0) = false) => del_skip (q := keepM xs m) (by assumption : r.length = a.length) (i := ii.toNat) (j := jj.toNat) (by omega) (by assumption) (by assumption) hq
    refine R.go 8 (R.cond (jj < (r.length : Int)) (by kernel_rfl) (fun c7 => ?_) (fun c7 => ?_))
    · refine R.go 7 (R.idxO 2 1 r.length ((jj).toNat) jj (by kernel_rfl) (by omega) (by omega) (by kernel_rfl) ?_)
      refine R.ldI r ((jj).toNat) (by kernel_rfl) (by omega) (by kernel_rfl) ?_
      have hjM := hjm (by omega)
      refine R.go 6 (R.call false (min1_c (r.getD ((jj).toNat) 0) m n xs hP hm (by omega)) (by kernel_rfl) rfl (by kernel_rfl) ?_)
      refine R.go 2 (R.condM (delM xs m (r.getD ((jj).toNat) 0)) (by kernel_rfl) (fun c8 => ?_) (fun c8 => ?_))
      · refine R.go 5 (R.idxO 2 1 r.length ((ii).toNat) ii (by kernel_rfl) (by omega) (by omega) (by kernel_rfl) ?_)
        refine R.stI 2 2 r ((ii).toNat) (r.getD ((jj).toNat) 0) (by kernel_rfl) (by omega) (by kernel_rfl) ?_
        refine R.go 3 (R.ar (ii + 1) (by kernel_rfl) (by omega) (by omega) (by kernel_rfl) ?_)
        refine R.go 5 (R.ar (jj + 1) (by kernel_rfl) (by omega) (by omega) (by kernel_rfl) ?_)
        exact R.go 2 (R.stop R3 (by kernel_rfl) (N4 (jj + 1, ii + 1, r.set ((ii).toNat) (r.getD ((jj).toNat) 0)) [0, 1, 5, 6] none _ (by kernel_rfl) (by kernel_rfl) ⟨(by omega), (by omega), (by omega), (by first | assumption | exact (hjk (by omega) (by simpa [keepM] using (by assumption : delM xs m (r.getD jj.toNat 0) = false))).2.2), (by first | (rw [show (ii + 1).toNat = ii.toNat + 1 by omega, show (jj + 1).toNat = jj.toNat + 1 by omega]; exact (hjk (by omega) (by simpa [keepM] using (by assumption : delM xs m (r.getD jj.toNat 0) = false))).1) | (rw [show (jj + 1).toNat = jj.toNat + 1 by omega]; exact (hjs (by omega) (by simpa [keepM] using (by assumption : delM xs m (r.getD jj.toNat 0) = true))).1)), (by rw [show (jj + 1).toNat = jj.toNat + 1 by omega]; first | exact (hjk (by omega) (by simpa [keepM] using (by assumption : delM xs m (r.getD jj.toNat 0) = false))).2.1 | exact (hjs (by omega) (by simpa [keepM] using (by assumption : delM xs m (r.getD jj.toNat 0) = true))).2)⟩ (by show ((a.length - (jj + 1)).toNat) < ((a.length - jj).toNat); omega)))
      · refine R.go 4 (R.ar (jj + 1) (by kernel_rfl) (by omega) (by omega) (by kernel_rfl) ?_)
        exact R.go 2 (R.stop R3 (by kernel_rfl) (N4 (jj + 1, ii, r) [0, 1, 5, 6] none _ (by kernel_rfl) (by kernel_rfl) ⟨(by omega), (by omega), (by omega), (by first | assumption | exact (hjk (by omega) (by simpa [keepM] using (by assumption : delM xs m (r.getD jj.toNat 0) = false))).2.2), (by first | (rw [show (ii + 1).toNat = ii.toNat + 1 by omega, show (jj + 1).toNat = jj.toNat + 1 by omega]; exact (hjk (by omega) (by simpa [keepM] using (by assumption : delM xs m (r.getD jj.toNat 0) = false))).1) | (rw [show (jj + 1).toNat = jj.toNat + 1 by omega]; exact (hjs (by omega) (by simpa [keepM] using (by assumption : delM xs m (r.getD jj.toNat 0) = true))).1)), (by rw [show (jj + 1).toNat = jj.toNat + 1 by omega]; first | exact (hjk (by omega) (by simpa [keepM] using (by assumption : delM xs m (r.getD jj.toNat 0) = false))).2.1 | exact (hjs (by omega) (by simpa [keepM] using (by assumption : delM xs m (r.getD jj.toNat 0) = true))).2)⟩ (by show ((a.length - (jj + 1)).toNat) < ((a.length - jj).toNat); omega)))
    · refine R.go 5 (R.clr eI 0 r 2 2 ((ii).toNat) ii (by kernel_rfl) (by omega) (fun _ => rfl) (fun _ => rfl) (fun _ => rfl) (by omega) ?_)
      refine R.go 5 (R.cut eI (r.take ((ii).toNat) ++ List.replicate (r.length - (ii).toNat) 0) 2 2 ((ii).toNat) ii (by kernel_rfl) (by omega) eI_len (by first | omega | (simp <;> omega)) (by kernel_rfl) ?_)
      refine R.go 2 (R.back (.ref 2) (frm 9 [(0, .agg [AI n, LI xs]), (1, AI m), (2, .ptr 0 0), (3, .ptr 1 0), (4, .nil), (5, AI m), (7, .fn 171 [.ptr 1 0, .ptr 0 0])]) (by kernel_rfl) (by kernel_rfl) (by kernel_rfl) ?_)
      exact R.go 2 (R.retE (ownA eI 2 1 ((r.take ((ii).toNat) ++ List.replicate (r.length - (ii).toNat) 0).take ((ii).toNat))) (by kernel_rfl) (by kernel_rfl) (by first | (apply congrArg (ownA eI _ 1); rw [← mn_eq (by omega) hm, ← haE]; first | exact (fidx_none hqn (Int.le_refl 0) (by assumption)).symm | exact fil_cut (jj := jj) (by assumption) (by omega) (by omega) (by omega) (by omega) (by assumption)) | (exfalso; omega)))

end Go.Proofs.Ytfkdkhlimdkehaa
