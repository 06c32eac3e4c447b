/- Valuations on posets by numbers; what the reference answers. -/
import Derived.Test.YtkanjgmocmhlkaaGreatZ01
namespace Go.Proofs.YtkanjgmocmhlkaaGreat
open Go.RowKit Go.Abs

def VS (vs : List Int) : Prop := vs.Nodup ∧ ∀ v ∈ vs, 0 ≤ v ∧ v < 6
theorem row_ext {X Y : List Int} (hx : X.length = 6) (hy : Y.length = 6) (h : ∀ j : Nat, j < 6 → X.getD j 0 = Y.getD j 0) : X = Y := by
  apply List.ext_getElem (by omega)
  intro j h1 h2
  have := h j (by omega)
  simpa [List.getD_eq_getElem?_getD, List.getElem?_eq_getElem h1, List.getElem?_eq_getElem h2] using this
theorem vs_get {vs : List Int} (h : VS vs) {k : Nat} (hk : k < vs.length) : vs.getD k 0 ∈ vs ∧ 0 ≤ vs.getD k 0 ∧ vs.getD k 0 < 6 ∧ vs.idxOf (vs.getD k 0) = k := by
  have e : vs.getD k 0 = vs[k] := by rw [List.getD_eq_getElem?_getD, List.getElem?_eq_getElem hk, Option.getD_some]
  have hm : vs.getD k 0 ∈ vs := by rw [e]; exact List.getElem_mem hk
  have := h.2 _ hm
  exact ⟨hm, this.1, this.2, by rw [e]; exact h.1.idxOf_getElem k hk⟩
theorem zero_out (vs : List Int) (j : Nat) (_ : j < 6) (_ : ¬ (j : Int) ∈ vs) : (List.replicate 6 (0 : Int)).getD j 0 = 0 := by
  simp only [List.getD_eq_getElem?_getD, List.getElem?_replicate]
  split <;> rfl
/-! The first number of which p holds. -/
def fstN (p : Nat → Bool) (t : Nat) : Option Nat := (List.range t).find? p
theorem fst_none {p : Nat → Bool} {t : Nat} (h : ∀ M, M < t → p M = false) : fstN p t = none := by
  rw [fstN, List.find?_eq_none]
  intro x hx
  rw [h x (by simpa using hx)]
  decide
theorem fst_some {p : Nat → Bool} {t N : Nat} (h : ∀ M, M < N → p M = false) (hp : p N = true) (ht : N < t) : fstN p t = some N := by
  rw [fstN, List.find?_eq_some_iff_append]
  refine ⟨hp, List.range N, (List.range t).drop (N + 1), ?_, fun x hx => by rw [h x (by simpa using hx)]; rfl⟩
  have h1 : (List.range t).take N = List.range N := by rw [List.take_range]; congr 1; omega
  have h2 : (List.range t).drop N = N :: (List.range t).drop (N + 1) := by
    rw [List.drop_eq_getElem_cons (by simpa using ht)]
    simp
  rw [← h1, ← h2, List.take_append_drop]
theorem below_succ {p : Nat → Bool} {N : Nat} (h : ∀ M, M < N → p M = false) (hp : p N = false) : ∀ M, M < N + 1 → p M = false := fun M hM => by
  by_cases e : M = N
  · rw [e]; exact hp
  · exact h M (by omega)
theorem VS_mem {m : Int} (hm : InM 6 m) : VS (mem m) := ⟨memN_nodup m 62, fun v hv => by have := mem_get hv hm; exact ⟨this.1, this.2.1⟩⟩
theorem VS_vmT {l : List (List (Int × Int))} (h : allF l = true) : VS (mem (vmT l l.length)) := VS_mem (inM6 (vmT_rng h _ (Nat.le_refl _)).1 (vmT_rng h _ (Nat.le_refl _)).2)
theorem allF_one {a : List (Int × Int)} (h : isF a = true) : allF [a] = true := by simp [allF, h]
theorem bor_zero {m : Int} (h : InM 6 m) : bor 0 m = m := by
  refine tb_ext (inM_bor (by decide) (inM_zero 6) h).1 h.1 fun i => ?_
  rw [tb_bor (by decide) (inM_zero 6) h, tb_zero, Bool.false_or]
theorem vmT_one {a : List (Int × Int)} (h : isF a = true) : vmT [a] [a].length = vmTo a a.length := by
  show bor 0 (vmTo a a.length) = _
  exact bor_zero (vm63 (isF_parts h).2.2.1)

/-- The value of variable j in the valuation N. -/
def vatU (ups vs : List Int) (N j : Nat) : Int := if (j : Int) ∈ vs then ups.getD (N / ups.length ^ (vs.length - 1 - vs.idxOf (j : Int)) % ups.length) 0 else 0
def vrU (ups vs : List Int) (N : Nat) : List Int := (List.range 6).map (vatU ups vs N)
theorem vrU_len (ups vs : List Int) (N : Nat) : (vrU ups vs N).length = 6 := by simp [vrU]
theorem vrU_get {ups vs : List Int} {N j : Nat} (h : j < 6) : (vrU ups vs N).getD j 0 = vatU ups vs N j := by
  simp [vrU, List.getD_eq_getElem?_getD, h]
/-! From the end on. -/
def PDU (ups vs : List Int) (N k : Nat) (X : List Int) : Prop := X.length = 6 ∧ ∀ j : Nat, j < 6 → ((j : Int) ∈ vs.drop k → X.getD j 0 = vatU ups vs N j) ∧ (¬ (j : Int) ∈ vs.drop k → X.getD j 0 = 0)
theorem pdU_start {ups vs : List Int} {N k : Nat} (hk : vs.length ≤ k) : PDU ups vs N k (List.replicate 6 0) := ⟨by simp, fun j hj => ⟨fun h => by rw [List.drop_eq_nil_of_le hk] at h; simp at h, fun _ => by
  simp only [List.getD_eq_getElem?_getD, List.getElem?_replicate]
  split <;> rfl⟩⟩
theorem pdU_step {ups vs : List Int} {N k : Nat} {X : List Int} {v : Int} (h : PDU ups vs N (k + 1) X) (hv : VS vs) (hk : k < vs.length) (he : v = ups.getD (N / ups.length ^ (vs.length - 1 - k) % ups.length) 0) : PDU ups vs N k (X.set (vs.getD k 0).toNat v) := by
  obtain ⟨hm, h0, h6, hi⟩ := vs_get hv hk
  have hd : vs.drop k = vs.getD k 0 :: vs.drop (k + 1) := by
    rw [List.drop_eq_getElem_cons hk, List.getD_eq_getElem?_getD, List.getElem?_eq_getElem hk]; rfl
  refine ⟨by rw [List.length_set]; exact h.1, fun j hj => ?_⟩
  rw [getD_set_if _ _ _ _ _ (by rw [h.1]; omega), hd, List.mem_cons]
  by_cases e : (vs.getD k 0).toNat = j
  · rw [if_pos e]
    have ej : (j : Int) = vs.getD k 0 := by omega
    exact ⟨fun _ => by rw [vatU, if_pos (by rw [ej]; exact hm), ej, hi, he], fun h => absurd (.inl ej) h⟩
  · rw [if_neg e]
    have hne : ¬ (j : Int) = vs.getD k 0 := fun h => e (by omega)
    exact ⟨fun h2 => (h.2 j hj).1 (h2.elim (fun h => absurd h hne) id), fun h2 => (h.2 j hj).2 (fun h3 => h2 (.inr h3))⟩
theorem pdU_end {ups vs : List Int} {N : Nat} {X : List Int} (h : PDU ups vs N 0 X) : X = vrU ups vs N := by
  refine row_ext h.1 (vrU_len _ _ _) fun j hj => ?_
  rw [vrU_get hj]
  have := h.2 j hj
  rw [List.drop_zero] at this
  by_cases hm : (j : Int) ∈ vs
  · exact this.1 hm
  · rw [this.2 hm, vatU, if_neg hm]
/-! From the beginning on: p, the number of the first k digits. -/
def PVU (ups vs : List Int) (p k : Nat) (X : List Int) : Prop := X.length = 6 ∧ ∀ j : Nat, j < 6 → ((j : Int) ∈ vs.take k → X.getD j 0 = ups.getD (p / ups.length ^ (k - 1 - vs.idxOf (j : Int)) % ups.length) 0) ∧ (¬ (j : Int) ∈ vs → X.getD j 0 = 0)
theorem idx_take {vs : List Int} (hv : VS vs) {j k : Nat} (hk : k ≤ vs.length) (h : (j : Int) ∈ vs.take k) : vs.idxOf (j : Int) < k := by
  obtain ⟨t, ht, e⟩ := List.getElem_of_mem h
  rw [List.length_take] at ht
  rw [List.getElem_take] at e
  rw [← e, hv.1.idxOf_getElem t (by omega)]
  omega
theorem pvU_step {ups vs : List Int} {p k i : Nat} {X : List Int} (h : PVU ups vs p k X) (hv : VS vs) (hk : k < vs.length) (hi : i < ups.length) : PVU ups vs (p * ups.length + i) (k + 1) (X.set (vs.getD k 0).toNat (ups.getD i 0)) := by
  obtain ⟨hm, h0, h6, hix⟩ := vs_get hv hk
  refine ⟨by rw [List.length_set]; exact h.1, fun j hj => ⟨fun hjm => ?_, fun hjn => ?_⟩⟩
  · rw [getD_set_if _ _ _ _ _ (by rw [h.1]; omega)]
    by_cases e : (vs.getD k 0).toNat = j
    · rw [if_pos e]
      have ej : (j : Int) = vs.getD k 0 := by omega
      rw [ej, hix, show k + 1 - 1 - k = 0 by omega, Nat.pow_zero, Nat.div_one, Nat.mul_comm, Nat.mul_add_mod, Nat.mod_eq_of_lt hi]
    · rw [if_neg e]
      rw [List.take_succ_eq_append_getElem hk, List.mem_append, List.mem_singleton] at hjm
      rcases hjm with hjm | hjm
      · have hlt := idx_take hv (by omega) hjm
        rw [(h.2 j hj).1 hjm, show k + 1 - 1 - vs.idxOf (j : Int) = (k - 1 - vs.idxOf (j : Int)) + 1 by omega, Nat.pow_succ, Nat.mul_comm (ups.length ^ _) ups.length, ← Nat.div_div_eq_div_mul, Nat.mul_comm p, Nat.mul_add_div (by omega), Nat.div_eq_of_lt hi, Nat.add_zero]
      · exfalso
        apply e
        rw [List.getD_eq_getElem?_getD, List.getElem?_eq_getElem hk, Option.getD_some, ← hjm]
        omega
  · rw [getD_set_if _ _ _ _ _ (by rw [h.1]; omega), if_neg (by rintro rfl; exact hjn (by rw [show ((vs.getD k 0).toNat : Int) = vs.getD k 0 by omega]; exact hm))]
    exact (h.2 j hj).2 hjn
theorem pvU_end {ups vs : List Int} {p k : Nat} {X : List Int} (h : PVU ups vs p k X) (hk : k = vs.length) : X = vrU ups vs p := by
  subst hk
  refine row_ext h.1 (vrU_len _ _ _) fun j hj => ?_
  rw [vrU_get hj]
  by_cases hm : (j : Int) ∈ vs
  · rw [(h.2 j hj).1 (by rw [List.take_length]; exact hm), vatU, if_pos hm]
  · rw [(h.2 j hj).2 hm, vatU, if_neg hm]
theorem pvU_start (ups vs : List Int) : PVU ups vs 0 0 (List.replicate 6 0) := ⟨by simp, fun j hj => ⟨fun h => by simp at h, zero_out vs j hj⟩⟩
theorem pvU_of {ups vs : List Int} {N p k : Nat} (hv : VS vs) (hk : k ≤ vs.length) (h : N / ups.length ^ (vs.length - k) = p) : PVU ups vs p k (vrU ups vs N) := by
  refine ⟨vrU_len _ _ _, fun j hj => ⟨fun hjm => ?_, fun hjn => ?_⟩⟩
  · have hlt := idx_take hv hk hjm
    rw [vrU_get hj, vatU, if_pos (List.mem_of_mem_take hjm), ← h, Nat.div_div_eq_div_mul, ← Nat.pow_add, show vs.length - k + (k - 1 - vs.idxOf (j : Int)) = vs.length - 1 - vs.idxOf (j : Int) by omega]
  · rw [vrU_get hj, vatU, if_neg hjn]
/-- The last valuation of part i of the numbers that begin with p. -/
theorem last_div {U d p i N : Nat} (hi : i < U) (h1 : (p * U + i) * U ^ d ≤ N) (h2 : N < (p * U + i + 1) * U ^ d) : N / U ^ (d + 1) = p := by
  have hU : 0 < U ^ d := by
    rcases Nat.eq_zero_or_pos (U ^ d) with h | h
    · rw [h] at h2; omega
    · exact h
  have h3 : N / U ^ d = p * U + i := by
    apply Nat.div_eq_of_lt_le
    · exact h1
    · exact h2
  rw [Nat.pow_succ, ← Nat.div_div_eq_div_mul, h3, Nat.mul_comm p, Nat.mul_add_div (by omega), Nat.div_eq_of_lt hi, Nat.add_zero]
theorem img_zero (xs : List Int) : ∀ i : Nat, i ≤ 61 → img xs 0 i = 0
  | 0, _ => rfl
  | i + 1, h => by
    have := has_tb (n := 8) (i := i) (m := 0) (by decide) (inM_zero 8) (by omega)
    rw [img, if_neg (fun e => by have := this.1 e; rw [tb_zero] at this; cases this)]
    exact img_zero xs i (by omega)
theorem upTo_pos (xs : List Int) (h : xs.length ≤ 60) : ∀ k : Nat, 1 ≤ k → 1 ≤ (upTo xs k).length
  | 0, hk => by omega
  | 1, _ => by
    have e : img xs ((0 : Nat) : Int) xs.length = ((0 : Nat) : Int) := img_zero xs xs.length (by omega)
    rw [← upTo_yes e]
    simp
  | k + 2, _ => by
    have ih := upTo_pos xs h (k + 1) (by omega)
    by_cases e : img xs ((k + 1 : Nat) : Int) xs.length = ((k + 1 : Nat) : Int)
    · rw [← upTo_yes e]; simp
    · rw [← upTo_no e]; exact ih
theorem upL_pos {n : Int} {xs : List Int} (h : okPo n xs = true) : 1 ≤ (upL n xs).length := by
  have hF := okFr_rel (okPo_fr h)
  have hs := shl_rng n hF.1 (by omega)
  exact upTo_pos xs (by omega) _ (by omega)
/-- Is the formula not forced everywhere in the valuation N? -/
def badU (n : Int) (xs vs : List Int) (a : List (Int × Int)) (N : Nat) : Bool := !decide (fcd n xs (vrU (upL n xs) vs N) a = (shl64 1 n) - 1)
theorem badU_no {n : Int} {xs vs : List Int} {a : List (Int × Int)} {N : Nat} (h : fcd n xs (vrU (upL n xs) vs N) a = (shl64 1 n) - 1) : badU n xs vs a N = false := by simp [badU, h]
theorem badU_yes {n : Int} {xs vs : List Int} {a : List (Int × Int)} {N : Nat} (h : ¬ fcd n xs (vrU (upL n xs) vs N) a = (shl64 1 n) - 1) : badU n xs vs a N = true := by simp [badU, h]
def totU (n : Int) (xs vs : List Int) : Nat := (upL n xs).length ^ vs.length
def fstU (n : Int) (xs vs : List Int) (a : List (Int × Int)) : Option Nat := fstN (badU n xs vs a) (totU n xs vs)
def uRow (n : Int) (xs vs : List Int) (a : List (Int × Int)) : List Int := match fstU n xs vs a with | some N => vrU (upL n xs) vs N | none => []
def uVal (n : Int) (xs vs : List Int) (a : List (Int × Int)) : Int := match fstU n xs vs a with | some N => fcd n xs (vrU (upL n xs) vs N) a | none => 0
def uTo (n : Int) (xs vs : List Int) (a : List (Int × Int)) : Nat → Int
  | 0 => 0
  | N + 1 => bor (uTo n xs vs a N) (bnot ((shl64 1 n) - 1) (fcd n xs (vrU (upL n xs) vs N) a))
theorem tup3 {s : Nat} {a c : List Int} {b d : Int} {p q : Bool} (h : a = c) (h2 : b = d) (h3 : p = q) : AV.tup [ownA eI s 1 a, AI b, .bool p] = AV.tup [ownA eI s 1 c, AI d, .bool q] := by rw [h, h2, h3]
theorem tot_le {n : Int} {xs vs : List Int} (h : pwT ((upL n xs).length : Int) vs.length ≤ 4096) : (totU n xs vs : Int) = pwT ((upL n xs).length : Int) vs.length := (pwT_pow h vs.length (Nat.le_refl _)).symm

theorem variablesInG_c (l : List (List (Int × Int))) (vs : List Int) (hvs : vs = mem (vmT l l.length)) (hF : allF l = true) (hl : l.length ≤ 1000000000) : CallA Tryz.prog 52 [LLN l] (ownA eI 2 1 vs) := by rw [hvs]; exact variablesIn_c l hF hl
theorem l06VariablesG_c (l : List (List (Int × Int))) (vs : List Int) (hvs : vs = mem (vmT l l.length)) (hF : allF l = true) (hl : l.length ≤ 1000000000) : CallA Tryz.prog 54 [LLN l] (ownA eI 2 1 vs) := by rw [hvs]; exact l06Variables_c l hF hl
theorem l02VariablesG_c (a : List (Int × Int)) (vs : List Int) (hvs : vs = mem (vmT [a] [a].length)) (hF : isF a = true) : CallA Tryz.prog 47 [LN a] (ownA eI 2 1 vs) := by
  rw [hvs, vmT_one hF]
  exact l02VariablesM_c a (isF_parts hF).2.2.1 (isF_parts hF).1
theorem upsetsG_c (n : Int) (xs ups : List Int) (hu : ups = upL n xs) (hP : okPo n xs = true) : CallA Tryz.prog 75 [.agg [AI n, LI xs]] (ownA eI 2 1 ups) := by rw [hu]; exact upsets_c n xs hP
theorem l16UpsetsG_c (n : Int) (xs ups : List Int) (hu : ups = upL n xs) (hP : okPo n xs = true) : CallA Tryz.prog 46 [.agg [AI n, LI xs]] (ownA eI 2 1 ups) := by rw [hu]; exact l16Upsets_c n xs hP

theorem l17Values_c (ups : List Int) (vs : List Int) (N : Nat) (hVS : VS vs) (hu : 1 ≤ ups.length) (hul : ups.length ≤ 1000) (hvl : vs.length ≤ 62) (hN : (N : Int) ≤ 1000000) : CallA Tryz.prog 50 [LI ups, LI vs, AI (N : Int)] (ownA eI 2 1 (vrU ups vs N)) := by
  refine CallA.of Tryz.func50 rfl (by kernel_rfl) ?_
  refine R.go 14 (R.ar ((vs.length : Int) - 1) (by kernel_rfl) (by omega) (by omega) (by kernel_rfl) ?_)
  refine R.go 3 (R.loop ((fun | (k, X, q) => (⟨(frm 35 [(0, LI ups), (1, LI vs), (2, AI q), (7, .ref 0), (8, AI k)]), [rowA eI 2 1 X]⟩ : St) : Int × (List Int) × Int → St)) (fun | (k, X, q) => (-1 ≤ k) ∧ (k < vs.length) ∧ (PDU ups vs N (k + 1).toNat X) ∧ (q = ((N / ups.length ^ (vs.length - 1 - k).toNat : Nat) : Int))) (fun | (k, X, q) => (k + 1).toNat) (((vs.length : Int) - 1), (List.replicate 6 0), (N : Int)) [0, 1, 2, 7, 8] none (by kernel_rfl) (by kernel_rfl) (by kernel_rfl) ⟨(by omega), (by omega), (by exact pdU_start (by omega)), (by rw [show ((vs.length : Int) - 1 - ((vs.length : Int) - 1)).toNat = 0 by omega, Nat.pow_zero, Nat.div_one])⟩ ?_)
  rintro ⟨k, X, q⟩ ⟨h4_1, h4_2, h4_3, h4_4⟩ R1 N2
  have hP : PDU ups vs N (k + 1).toNat X := by assumption
  have hXl : X.length = 6 := hP.1
  have hg := fun h : 0 ≤ k => vs_get hVS (k := k.toNat) (by omega)
  have hqr : 0 ≤ q ∧ q ≤ 1000000 := by
    have h1 := Nat.div_le_self N (ups.length ^ (vs.length - 1 - k).toNat)
    have h2 : q = ((N / ups.length ^ (vs.length - 1 - k).toNat : Nat) : Int) := by assumption
    generalize N / ups.length ^ (vs.length - 1 - k).toNat = z at h1 h2
    omega
  have hqm : 0 ≤ q % (ups.length : Int) ∧ q % (ups.length : Int) < (ups.length : Int) := ⟨Int.emod_nonneg _ (by omega), Int.emod_lt_of_pos _ (by omega)⟩
  have hqd : 0 ≤ q / (ups.length : Int) ∧ q / (ups.length : Int) ≤ q := ⟨Int.ediv_nonneg (by omega) (by omega), Int.ediv_le_self _ (by omega)⟩
  refine R.go 6 (R.cond (k ≥ 0) (by kernel_rfl) (fun c5 => ?_) (fun c5 => ?_))
  · have hq : q = ((N / ups.length ^ (vs.length - 1 - k).toNat : Nat) : Int) := by assumption
    have hg2 := hg (by omega)
    have hk0 : 0 ≤ k := by omega
    refine R.go 8 (R.idx eI vs 0 ((k).toNat) k (by kernel_rfl) (by omega) eI_len (by omega) (by kernel_rfl) ?_)
    refine R.go 5 (R.rem q ups.length (by kernel_rfl) (by omega) (by omega) (by kernel_rfl) ?_)
    refine R.idx eI ups 0 ((q % ups.length).toNat) (q % ups.length) (by kernel_rfl) (by omega) eI_len (by omega) (by kernel_rfl) ?_
    refine R.go 1 (R.idxO 0 1 X.length (((vs.getD ((k).toNat) 0)).toNat) (vs.getD ((k).toNat) 0) (by kernel_rfl) (by omega) (by omega) (by kernel_rfl) ?_)
    refine R.stI 0 2 X (((vs.getD ((k).toNat) 0)).toNat) (ups.getD ((q % ups.length).toNat) 0) (by kernel_rfl) (by omega) (by kernel_rfl) ?_
    refine R.go 5 (R.quo q ups.length (by kernel_rfl) (by omega) (by omega) (by omega) (by kernel_rfl) ?_)
    refine R.go 5 (R.ar (k - 1) (by kernel_rfl) (by omega) (by omega) (by kernel_rfl) ?_)
    exact R.go 2 (R.stop R1 (by kernel_rfl) (N2 (k - 1, X.set (((vs.getD ((k).toNat) 0)).toNat) (ups.getD ((q % ups.length).toNat) 0), q / ups.length) [0, 1, 2, 7, 8] none _ (by kernel_rfl) (by kernel_rfl) ⟨(by omega), (by omega), (by rw [show (k - 1 + 1).toNat = k.toNat by omega]; exact pdU_step (by rw [show k.toNat + 1 = (k + 1).toNat by omega]; exact hP) hVS (by omega) (by rw [hq, show (vs.length - 1 - k).toNat = vs.length - 1 - k.toNat by omega, ← Int.natCast_emod, Int.toNat_natCast])), (by rw [hq, ← Int.natCast_ediv, Nat.div_div_eq_div_mul, ← Nat.pow_succ, show (vs.length - 1 - (k - 1)).toNat = (vs.length - 1 - k).toNat + 1 by omega])⟩ (by show (((k - 1) + 1).toNat) < ((k + 1).toNat); omega)))
  · exact R.go 6 (R.retE (ownA eI 2 1 X) (by kernel_rfl) (by kernel_rfl) (by first | (rw [pdU_end (ups := ups) (vs := vs) (N := N) (X := X) (by rw [show 0 = (k + 1).toNat by omega]; exact hP)]) | (exfalso; omega)))

theorem l17First_c (n : Int) (xs : List Int) (a : List (Int × Int)) (hR : okPo n xs = true) (hF : isF a = true) (hpl : a.any modN = false) (ht : pwT ((upL n xs).length : Int) (mem (vmT [a] [a].length)).length ≤ 4096) : CallA Tryz.prog 40 [.agg [AI n, LI xs], LN a] (.tup [ownA eI 2 1 (uRow n xs (mem (vmT [a] [a].length)) a), AI (uVal n xs (mem (vmT [a] [a].length)) a), .bool ((fstU n xs (mem (vmT [a] [a].length)) a).isSome)]) := by
  obtain ⟨vs, hvs⟩ : ∃ vs, vs = mem (vmT [a] [a].length) := ⟨_, rfl⟩
  obtain ⟨ups, hu⟩ : ∃ ups, ups = upL n xs := ⟨_, rfl⟩
  rw [← hvs] at ht ⊢
  rw [← hu] at ht
  have hfr : okFr n xs = true := okPo_fr hR
  have hFr := okFr_rel hfr
  have hb0 : 0 ≤ n ∧ n ≤ 8 ∧ (xs.length : Int) = n := ⟨hFr.1, hFr.2.1, hFr.2.2.1⟩
  have hAF : allF [a] = true := allF_one hF
  have hVS : VS vs := by rw [hvs]; exact VS_vmT hAF
  have hvl : vs.length ≤ 62 := by rw [hvs]; exact mem_le _
  have hul : ups.length ≤ 256 := by rw [hu]; exact upL_len hR
  have hup : 1 ≤ ups.length := by rw [hu]; exact upL_pos hR
  have htt : (totU n xs vs : Int) = pwT (ups.length : Int) vs.length := by rw [hu]; rw [hu] at ht; exact tot_le ht
  have hok : OKM 6 a := (isF_okm hF).1
  have hal : a.length ≤ 40 := (isF_okm hF).2
  have hok2 := fun N => show OKM (vrU ups vs N).length a by rw [vrU_len]; exact hok
  have hlen := okm_pos hok
  refine CallA.of Tryz.func40 rfl (by kernel_rfl) ?_
  refine R.go 10 (R.call true (l16UpsetsG_c n xs ups (by assumption) hR).frz (by kernel_rfl) rfl (by kernel_rfl) ?_)
  refine R.go 1 (R.call true (l02VariablesG_c a vs (by assumption) hF).frz (by kernel_rfl) rfl (by kernel_rfl) ?_)
  refine R.go 9 (R.call true (l17Power_c ups.length vs.length (by first | omega | (simp <;> omega)) (by first | omega | (simp <;> omega)) (by first | omega | (simp <;> omega))) (by kernel_rfl) rfl (by kernel_rfl) ?_)
  refine R.go 8 (R.loop (fun (N : Nat) => (⟨(frm 42 [(1, LN a), (2, .ptr 0 0), (7, LI ups), (8, LI vs), (9, AI (pwT ups.length vs.length)), (10, AI (N : Int))]), [.box 30 [AI n, LI xs]]⟩ : St)) (fun (N : Nat) => ((N : Int) ≤ pwT (ups.length : Int) vs.length) ∧ (∀ M : Nat, M < N → badU n xs vs a M = false)) (fun (N : Nat) => (totU n xs vs) - N) 0 [1, 2, 7, 8, 9, 10] none (by kernel_rfl) (by kernel_rfl) (by kernel_rfl) ⟨(by omega), (by exact fun M hM => absurd hM (by omega))⟩ ?_)
  rintro N ⟨h3_1, h3_2⟩ R1 N2
  have hoX := hok2 N
  have hvl6 := vrU_len ups vs N
  refine R.go 7 (R.cond ((N : Int) < (pwT ups.length vs.length)) (by kernel_rfl) (fun c4 => ?_) (fun c4 => ?_))
  · refine R.go 8 (R.call true (l17Values_c ups vs N hVS hup (by first | omega | (simp <;> omega)) hvl (by omega)) (by kernel_rfl) rfl (by kernel_rfl) ?_)
    refine R.go 7 (R.call false (l17ForceF_c n xs (vrU ups vs N) a (by assumption) hpl hfr (by first | omega | (simp <;> omega))) (by kernel_rfl) rfl (by kernel_rfl) ?_)
    refine R.go 7 (R.call true (l01Full_c n (by omega) (by omega)) (by kernel_rfl) rfl (by kernel_rfl) ?_)
    refine R.go 2 (R.condN ((fcd n xs (vrU ups vs N) a) = ((shl64 1 n) - 1)) (by kernel_rfl) (fun c5 => ?_) (fun c5 => ?_))
    · exact R.go 8 (R.retE (.tup [ownA eI 2 1 (vrU ups vs N), AI (fcd n xs (vrU ups vs N) a), .bool true]) (by kernel_rfl) (by kernel_rfl) (by first | (refine tup3 ?_ ?_ ?_ <;> first | (have e : fstU n xs vs a = some N := fst_some (‹∀ M : Nat, M < N → badU n xs vs a M = false›) (badU_yes (by rw [← hu]; assumption)) (by omega); simp [uRow, uVal, e, ← hu]; done) | (have e : fstU n xs vs a = none := fst_none (fun M hM => (‹∀ M : Nat, M < N → badU n xs vs a M = false›) M (by omega)); simp [uRow, uVal, e]; done)) | (exfalso; omega)))
    · refine R.go 4 (R.ar ((N : Int) + 1) (by kernel_rfl) (by omega) (by omega) (by kernel_rfl) ?_)
      exact R.go 2 (R.stop R1 (by kernel_rfl) (N2 (N + 1) [1, 2, 7, 8, 9, 10] (some [0]) _ (by kernel_rfl) (by kernel_rfl) ⟨(by omega), (by exact below_succ (by assumption) (badU_no (by rw [← hu]; assumption)))⟩ (by show ((totU n xs vs) - (N + 1)) < ((totU n xs vs) - N); omega)))
  · refine R.go 7 (R.nil 4 2 1 (by kernel_rfl) ?_)
    exact R.retE (.tup [ownA eI 2 1 [], AI 0, .bool false]) (by kernel_rfl) (by kernel_rfl) (by first | (refine tup3 ?_ ?_ ?_ <;> first | (have e : fstU n xs vs a = some N := fst_some (‹∀ M : Nat, M < N → badU n xs vs a M = false›) (badU_yes (by rw [← hu]; assumption)) (by omega); simp [uRow, uVal, e, ← hu]; done) | (have e : fstU n xs vs a = none := fst_none (fun M hM => (‹∀ M : Nat, M < N → badU n xs vs a M = false›) M (by omega)); simp [uRow, uVal, e]; done)) | (exfalso; omega))

theorem l17Valid_c (n : Int) (xs : List Int) (a : List (Int × Int)) (hR : okPo n xs = true) (hF : isF a = true) (hpl : a.any modN = false) (ht : pwT ((upL n xs).length : Int) (mem (vmT [a] [a].length)).length ≤ 4096) : CallA Tryz.prog 35 [.agg [AI n, LI xs], LN a] (.bool ((fstU n xs (mem (vmT [a] [a].length)) a).isNone)) := by
  refine CallA.of Tryz.func35 rfl (by kernel_rfl) ?_
  refine R.go 9 (R.call true (l17First_c n xs a hR hF hpl ht).frz (by kernel_rfl) rfl (by kernel_rfl) ?_)
  exact R.go 14 (R.retE (.bool (!((fstU n xs (mem (vmT [a] [a].length)) a).isSome))) (by kernel_rfl) (by kernel_rfl) (by first | (apply congrArg AV.bool; cases fstU n xs (mem (vmT [a] [a].length)) a <;> rfl) | (exfalso; omega)))

def pvV (n : Int) (xs : List Int) (a : List (Int × Int)) : Bool := decide (pcode n xs [a] = 0) && (fstU n xs (mem (vmT [a] [a].length)) a).isNone
theorem pv_no {n : Int} {xs : List Int} {a : List (Int × Int)} (h : ¬ pcode n xs [a] = 0) : AV.tup [.bool false, AI (pcode n xs [a])] = AV.tup [.bool (pvV n xs a), AI (pcode n xs [a])] := by rw [pvV, decide_eq_false h]; rfl
theorem pv_yes {n : Int} {xs : List Int} {a : List (Int × Int)} (h : pcode n xs [a] = 0) : AV.tup [.bool (fstU n xs (mem (vmT [a] [a].length)) a).isNone, AI 0] = AV.tup [.bool (pvV n xs a), AI (pcode n xs [a])] := by rw [pvV, decide_eq_true h, h]; rfl
theorem pl_one {a : List (Int × Int)} (h : allPl [a] = true) : a.any modN = false := by simpa [allPl, anyM] using h
theorem isF_all {a : List (Int × Int)} (h : allF [a] = true) : isF a = true := by
  have := allF_get h 0 (by simp)
  exact this
def ueV (n : Int) (xs : List Int) (a : List (Int × Int)) : Int := if pcode n xs [a] = 0 then uTo n xs (mem (vmT [a] [a].length)) a (totU n xs (mem (vmT [a] [a].length))) else 0
theorem ue_no {n : Int} {xs : List Int} {a : List (Int × Int)} (h : ¬ pcode n xs [a] = 0) : AV.tup [AI 0, AI (pcode n xs [a])] = AV.tup [AI (ueV n xs a), AI (pcode n xs [a])] := by rw [ueV, if_neg h]
theorem ue_yes {n : Int} {xs vs : List Int} {a : List (Int × Int)} {N : Nat} (h : pcode n xs [a] = 0) (hv : vs = mem (vmT [a] [a].length)) (hN : N = totU n xs vs) : AV.tup [AI (uTo n xs vs a N), AI 0] = AV.tup [AI (ueV n xs a), AI (pcode n xs [a])] := by subst hv; subst hN; rw [ueV, if_pos h, h]

theorem PV_spec (n : Int) (xs : List Int) (a : List (Int × Int)) (lx : xs.length ≤ 1048576) (la : a.length ≤ 1048576) : CallA Tryz.prog 10 [.agg [AI n, LI xs], LN a] (.tup [.bool (pvV n xs a), AI (pcode n xs [a])]) := by
  refine CallA.of Tryz.func10 rfl (by kernel_rfl) ?_
  refine R.go 10 (R.lit (s := 1) (n := 1) (cs := rows eLN [a]) (by kernel_rfl) (by kernel_rfl) ?_)
  refine R.call true (l17Search_c n xs [a] lx (by first | assumption | exact shortL_one (by omega))) (by kernel_rfl) rfl (by kernel_rfl) ?_
  refine R.go 8 (R.condN ((pcode n xs [a]) = 0) (by kernel_rfl) (fun c1 => ?_) (fun c1 => ?_))
  · exact R.go 6 (R.retE (.tup [.bool false, AI (pcode n xs [a])]) (by kernel_rfl) (by kernel_rfl) (by first | (first | exact pv_no (by assumption) | exact pv_yes (by assumption)) | (exfalso; omega)))
  · have hc0 : pcode n xs [a] = 0 := by assumption
    have hpo := pc_ok hc0
    have hR : okPo n xs = true := hpo.1
    have hF : isF a = true := isF_all hpo.2.1
    have hpl : a.any modN = false := pl_one hpo.2.2.1
    have ht0 : pwT ((upL n xs).length : Int) (mem (vmT [a] [a].length)).length ≤ 4096 := hpo.2.2.2
    refine R.go 5 (R.call true (l17Valid_c n xs a hR hF hpl ht0) (by kernel_rfl) rfl (by kernel_rfl) ?_)
    exact R.go 3 (R.retE (.tup [.bool ((fstU n xs (mem (vmT [a] [a].length)) a).isNone), AI 0]) (by kernel_rfl) (by kernel_rfl) (by first | (first | exact pv_no (by assumption) | exact pv_yes (by assumption)) | (exfalso; omega)))

theorem UE_spec (n : Int) (xs : List Int) (a : List (Int × Int)) (lx : xs.length ≤ 1048576) (la : a.length ≤ 1048576) : CallA Tryz.prog 23 [.agg [AI n, LI xs], LN a] (.tup [AI (ueV n xs a), AI (pcode n xs [a])]) := by
  refine CallA.of Tryz.func23 rfl (by kernel_rfl) ?_
  refine R.go 10 (R.lit (s := 1) (n := 1) (cs := rows eLN [a]) (by kernel_rfl) (by kernel_rfl) ?_)
  refine R.call true (l17Search_c n xs [a] lx (by first | assumption | exact shortL_one (by omega))) (by kernel_rfl) rfl (by kernel_rfl) ?_
  refine R.go 8 (R.condN ((pcode n xs [a]) = 0) (by kernel_rfl) (fun c1 => ?_) (fun c1 => ?_))
  · exact R.go 6 (R.retE (.tup [AI 0, AI (pcode n xs [a])]) (by kernel_rfl) (by kernel_rfl) (by first | (first | exact ue_no (by assumption) | exact ue_yes hc0 hvs (by omega)) | (exfalso; omega)))
  · have hc0 : pcode n xs [a] = 0 := by assumption
    have hpo := pc_ok hc0
    have hR : okPo n xs = true := hpo.1
    have hF : isF a = true := isF_all hpo.2.1
    have hpl : a.any modN = false := pl_one hpo.2.2.1
    have ht0 : pwT ((upL n xs).length : Int) (mem (vmT [a] [a].length)).length ≤ 4096 := hpo.2.2.2
    have ht := ht0
    obtain ⟨vs, hvs⟩ : ∃ vs, vs = mem (vmT [a] [a].length) := ⟨_, rfl⟩
    obtain ⟨ups, hu⟩ : ∃ ups, ups = upL n xs := ⟨_, rfl⟩
    rw [← hvs] at ht
    rw [← hu] at ht
    have hfr : okFr n xs = true := okPo_fr hR
    have hFr := okFr_rel hfr
    have hb0 : 0 ≤ n ∧ n ≤ 8 ∧ (xs.length : Int) = n := ⟨hFr.1, hFr.2.1, hFr.2.2.1⟩
    have hAF : allF [a] = true := allF_one hF
    have hVS : VS vs := by rw [hvs]; exact VS_vmT hAF
    have hvl : vs.length ≤ 62 := by rw [hvs]; exact mem_le _
    have hul : ups.length ≤ 256 := by rw [hu]; exact upL_len hR
    have hup : 1 ≤ ups.length := by rw [hu]; exact upL_pos hR
    have htt : (totU n xs vs : Int) = pwT (ups.length : Int) vs.length := by rw [hu]; rw [hu] at ht; exact tot_le ht
    have hok : OKM 6 a := (isF_okm hF).1
    have hal : a.length ≤ 40 := (isF_okm hF).2
    have hok2 := fun N => show OKM (vrU ups vs N).length a by rw [vrU_len]; exact hok
    have hlen := okm_pos hok
    refine R.go 4 (R.call true (l16UpsetsG_c n xs ups (by assumption) hR).frz (by kernel_rfl) rfl (by kernel_rfl) ?_)
    refine R.go 1 (R.call true (l02VariablesG_c a vs (by assumption) hF).frz (by kernel_rfl) rfl (by kernel_rfl) ?_)
    refine R.go 10 (R.call true (l17Power_c ups.length vs.length (by first | omega | (simp <;> omega)) (by first | omega | (simp <;> omega)) (by first | omega | (simp <;> omega))) (by kernel_rfl) rfl (by kernel_rfl) ?_)
    refine R.go 8 (R.loop ((fun | (N, o) => (⟨(frm 47 [(1, LN a), (2, .ptr 0 0), (7, LI ups), (8, LI vs), (9, AI o), (10, AI (pwT ups.length vs.length)), (11, AI (N : Int))]), [.box 30 [AI n, LI xs]]⟩ : St) : Nat × Int → St)) (fun | (N, o) => ((N : Int) ≤ pwT (ups.length : Int) vs.length) ∧ (o = uTo n xs vs a N)) (fun | (N, o) => (totU n xs vs) - N) (0, 0) [1, 2, 7, 8, 9, 10, 11] none (by kernel_rfl) (by kernel_rfl) (by kernel_rfl) ⟨(by omega), (by rfl)⟩ ?_)
    rintro ⟨N, o⟩ ⟨h5_1, rfl⟩ R2 N3
    have hoX := hok2 N
    have hvl6 := vrU_len ups vs N
    refine R.go 7 (R.cond ((N : Int) < (pwT ups.length vs.length)) (by kernel_rfl) (fun c6 => ?_) (fun c6 => ?_))
    · refine R.go 7 (R.call true (l01Full_c n (by omega) (by omega)) (by kernel_rfl) rfl (by kernel_rfl) ?_)
      refine R.go 4 (R.call true (l17Values_c ups vs N hVS hup (by first | omega | (simp <;> omega)) hvl (by omega)).frz (by kernel_rfl) rfl (by kernel_rfl) ?_)
      refine R.go 1 (R.call true (l17ForceF_c n xs (vrU ups vs N) a (by assumption) hpl hfr (by first | omega | (simp <;> omega))) (by kernel_rfl) rfl (by kernel_rfl) ?_)
      refine R.go 7 (R.ar ((N : Int) + 1) (by kernel_rfl) (by omega) (by omega) (by kernel_rfl) ?_)
      exact R.go 2 (R.stop R2 (by kernel_rfl) (N3 (N + 1, bor (uTo n xs vs a N) (bnot ((shl64 1 n) - 1) (fcd n xs (vrU ups vs N) a))) [1, 2, 7, 8, 9, 10, 11] none _ (by kernel_rfl) (by kernel_rfl) ⟨(by omega), (by rw [uTo, ← hu])⟩ (by show ((totU n xs vs) - (N + 1)) < ((totU n xs vs) - N); omega)))
    · exact R.go 7 (R.retE (.tup [AI (uTo n xs vs a N), AI 0]) (by kernel_rfl) (by kernel_rfl) (by first | (first | exact ue_no (by assumption) | exact ue_yes hc0 hvs (by omega)) | (exfalso; omega)))

end Go.Proofs.YtkanjgmocmhlkaaGreat
