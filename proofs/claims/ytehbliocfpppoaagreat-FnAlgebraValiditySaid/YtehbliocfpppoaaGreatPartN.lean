/- Texts of the proof: Q16, Symd. -/
import Derived.Test.YtehbliocfpppoaaGreatPartM

/-! Modal algebras: AlgebraValue and IsValidInAlgebra of both packages. -/
namespace Go.Proofs.YtehbliocfpppoaaGreat
open Go.RowKit Go.Abs
def avC (n : Int) (ys vs : List Int) (a : List (Int × Int)) : Int := if okAl n ys = true ∧ isF a = true ∧ vs.length = 6 ∧ vs.any (outE n) = false then 0 else 1
def avV (n : Int) (ys vs : List Int) (a : List (Int × Int)) : Int := if avC n ys vs a = 0 then gv (mT n) (mU n (bxT ys)) vs a else 0
theorem avC_bad {n : Int} {ys vs : List Int} {a : List (Int × Int)} (h : ¬ (okAl n ys = true ∧ isF a = true ∧ vs.length = 6 ∧ vs.any (outE n) = false)) : avC n ys vs a = 1 := if_neg h
theorem avC_ok {n : Int} {ys vs : List Int} {a : List (Int × Int)} (h1 : okAl n ys = true) (h2 : isF a = true) (h3 : vs.length = 6) (h4 : vs.any (outE n) = false) : avC n ys vs a = 0 := if_pos ⟨h1, h2, h3, h4⟩
theorem frT_ok {n : Int} {ys : List Int} (h : okAl n ys = true) : okFr n (frT n ys) = true := by
 have h5 := okAl_rel h
 have hr := frT_rel h
 have hfr : (!(frT n ys).any fun m => !inR m 0 ((shl64 1 n) - 1)) = true := by
  rw [Bool.not_eq_true', List.any_eq_false]
  intro m hm
  obtain ⟨j, hj, rfl⟩ := List.getElem_of_mem hm
  have h1 := hr.2 j (by rw [← hr.1]; exact hj)
  rw [List.getD_eq_getElem?_getD, List.getElem?_eq_getElem hj] at h1
  have h2 := (full_rng (n := n.toNat) (by omega) (m := (frT n ys)[j])).1 h1
  rw [nn_eq h5.1] at h2
  simp [h2]
 rw [okFr, (inR_iff n 0 8).2 (by omega), hfr, show ((frT n ys).length : Int) = n by rw [hr.1]; omega]
 simp

def uat (n : Int) (vs : List Int) (N : Int) (j : Nat) : Int := if (j : Int) ∈ vs then band (shr64 N ((vs.idxOf (j : Int) : Int) * n)) ((shl64 1 n) - 1) else 0
def urow (n : Int) (vs : List Int) (N : Int) : List Int := (List.range 6).map (uat n vs N)
theorem urow_len (n : Int) (vs : List Int) (N : Int) : (urow n vs N).length = 6 := by simp [urow]
theorem urow_get {n : Int} {vs : List Int} {N : Int} {j : Nat} (h : j < 6) : (urow n vs N).getD j 0 = uat n vs N j := by
 simp [urow, List.getD_eq_getElem?_getD, h]
theorem urow_out {n : Int} {vs : List Int} {N : Int} (j : Nat) (hj : j < 6) (hm : ¬ (j : Int) ∈ vs) : (urow n vs N).getD j 0 = 0 := by rw [urow_get hj, uat, if_neg hm]
def PU (n : Int) (vs : List Int) (N : Int) (k : Nat) (X : List Int) : Prop := X.length = 6 ∧ ∀ j : Nat, j < 6 → ((j : Int) ∈ vs.take k → X.getD j 0 = uat n vs N j) ∧ (¬ (j : Int) ∈ vs → X.getD j 0 = 0)
theorem pu_start {n : Int} {vs : List Int} {N : Int} {X : List Int} (hx : X.length = 6) (h : ∀ j : Nat, j < 6 → ¬ (j : Int) ∈ vs → X.getD j 0 = 0) : PU n vs N 0 X := ⟨hx, fun j hj => ⟨fun h => by simp at h, h j hj⟩⟩
theorem pu_step {n : Int} {vs : List Int} {N : Int} {X : List Int} {k : Nat} {v : Int} (h : PU n vs N k X) (hv : VS vs) (hk : k < vs.length) (he : v = band (shr64 N ((k : Int) * n)) ((shl64 1 n) - 1)) : PU n vs N (k + 1) (X.set (vs.getD k 0).toNat v) := by
 obtain ⟨hm, h0, h6, hi⟩ := vs_get hv hk
 refine ⟨by rw [List.length_set]; exact h.1, fun j hj => ⟨fun hjm => ?_, fun hjn => ?_⟩⟩
 ·rw [getD_set_if _ _ _ _ _ (by rw [h.1]; omega)]
  by_cases e : (vs.getD k 0).toNat = j
  ·rw [if_pos e]
   have ej : (j : Int) = vs.getD k 0 := by omega
   rw [uat, if_pos (by rw [ej]; exact hm), ej, hi, he]
  ·rw [if_neg e]
   rw [List.take_succ_eq_append_getElem hk, List.mem_append, List.mem_singleton] at hjm
   rcases hjm with hjm | hjm
   ·exact (h.2 j hj).1 hjm
   ·exfalso
    apply e
    rw [List.getD_eq_getElem?_getD, List.getElem?_eq_getElem hk, Option.getD_some, ← hjm]
    omega
 ·rw [getD_set_if _ _ _ _ _ (by rw [h.1]; omega), if_neg (by rintro rfl; exact hjn (by rw [show ((vs.getD k 0).toNat : Int) = vs.getD k 0 by omega]; exact hm))]
  exact (h.2 j hj).2 hjn
theorem pu_end {n : Int} {vs : List Int} {N : Int} {X : List Int} {k : Nat} (h : PU n vs N k X) (hk : vs.length ≤ k) : X = urow n vs N := by
 refine row_ext h.1 (urow_len _ _ _) fun j hj => ?_
 rw [urow_get hj]
 by_cases hm : (j : Int) ∈ vs
 ·exact (h.2 j hj).1 (by rw [List.take_of_length_le hk]; exact hm)
 ·rw [(h.2 j hj).2 hm, uat, if_neg hm]
theorem outE_in {n m : Int} (h0 : 0 ≤ n) (h5 : n ≤ 61) (h : InM n.toNat m) : outE n m = false := by
 have h2 := (full_rng (n := n.toNat) (by omega) (m := m)).1 h
 rw [nn_eq h0] at h2
 rw [outE, h2]; rfl
theorem any_of {n : Int} {X : List Int} (h0 : 0 ≤ n) (h5 : n ≤ 61) (h : ∀ j : Nat, j < X.length → InM n.toNat (X.getD j 0)) : X.any (outE n) = false := by
 rw [List.any_eq_false]
 intro m hm
 obtain ⟨j, hj, rfl⟩ := List.getElem_of_mem hm
 have h1 := h j hj
 rw [List.getD_eq_getElem?_getD, List.getElem?_eq_getElem hj] at h1
 have := outE_in h0 h5 h1
 simpa using this
theorem dig_nat {n : Int} {N : Nat} {e : Int} (h0 : 0 ≤ n) (h5 : n ≤ 5) (he : 0 ≤ e) (h : e ≤ 62) (hN : N < 2 ^ 61) : band (shr64 (N : Int) e) ((shl64 1 n) - 1) = ((N / 2 ^ e.toNat % 2 ^ n.toNat : Nat) : Int) := by
 have e1 := shr_nat (m := N) (i := e.toNat) (by omega)
 rw [show ((e.toNat : Nat) : Int) = e by omega] at e1
 have e2 := full_nat (n := n.toNat) (by omega)
 rw [nn_eq h0] at e2
 rw [e1, e2, band_nat (Nat.lt_of_le_of_lt (Nat.div_le_self _ _) (by omega)) ?_, Nat.and_two_pow_sub_one_eq_mod]
 have : (2 : Nat) ^ n.toNat ≤ 2 ^ 5 := Nat.pow_le_pow_right (by decide) (by omega)
 omega
theorem digits (b : Nat) (d : Nat → Nat) (hd : ∀ i, d i < 2 ^ b) : ∀ L : Nat, ∃ N : Nat, N < 2 ^ (b * L) ∧ ∀ i, i < L → N / 2 ^ (b * i) % 2 ^ b = d i
 | 0 => ⟨0, by simp, fun i hi => by omega⟩
 | L + 1 => by
  obtain ⟨N, h1, h2⟩ := digits b d hd L
  have hp : 0 < 2 ^ (b * L) := Nat.two_pow_pos _
  refine ⟨N + 2 ^ (b * L) * d L, ?_, fun i hi => ?_⟩
  ·rw [Nat.mul_succ, Nat.pow_add]
   have h3 := hd L
   have : 2 ^ (b * L) * (d L + 1) ≤ 2 ^ (b * L) * 2 ^ b := Nat.mul_le_mul_left _ (by omega)
   rw [Nat.mul_add, Nat.mul_one] at this
   omega
  ·by_cases e : i = L
   ·subst e
    rw [Nat.add_mul_div_left _ _ hp, Nat.div_eq_of_lt h1, Nat.zero_add, Nat.mod_eq_of_lt (hd i)]
   ·obtain ⟨k, rfl⟩ : ∃ k, L = i + 1 + k := ⟨L - i - 1, by omega⟩
    have e2 : 2 ^ (b * (i + 1 + k)) * d (i + 1 + k) = 2 ^ (b * i) * (2 ^ b * (2 ^ (b * k) * d (i + 1 + k))) := by
     rw [Nat.mul_add, Nat.mul_add, Nat.mul_one, Nat.pow_add, Nat.pow_add]
     simp only [Nat.mul_assoc]
    rw [e2, Nat.add_mul_div_left _ _ (Nat.two_pow_pos _), Nat.add_mul_mod_self_left]
    exact h2 i (by omega)
theorem rev_row {n : Int} {vs : List Int} (h0 : 0 ≤ n) (h5 : n ≤ 5) (hfit : n * (vs.length : Int) ≤ 16) (N : Nat) (hN : N < totN n vs) : ∃ M : Nat, M < totN n vs ∧ urow n vs (M : Int) = vrow n vs (N : Int) ∧ vrow n vs (M : Int) = urow n vs (N : Int) := by
 obtain ⟨b, rfl⟩ := Int.eq_ofNat_of_zero_le h0
 have hb : b * vs.length ≤ 16 := by
  have : ((b * vs.length : Nat) : Int) ≤ 16 := by rw [Int.natCast_mul]; exact hfit
  omega
 have ht : totN (b : Int) vs = 2 ^ (b * vs.length) := by
  have := shl_nat (i := b * vs.length) (by omega)
  rw [totN, show (b : Int) * (vs.length : Int) = ((b * vs.length : Nat) : Int) by rw [Int.natCast_mul], this]
  exact Int.toNat_natCast _
 have hle : (2 : Nat) ^ (b * vs.length) ≤ 2 ^ 16 := Nat.pow_le_pow_right (by decide) hb
 obtain ⟨M, h1, h2⟩ := digits b (fun i => N / 2 ^ (b * (vs.length - 1 - i)) % 2 ^ b) (fun i => Nat.mod_lt _ (Nat.two_pow_pos _)) vs.length
 have hv : ∀ (K i : Nat), K < 2 ^ 61 → i < vs.length → band (shr64 (K : Int) ((b : Int) * ((vs.length : Int) - 1 - (i : Int)))) ((shl64 1 (b : Int)) - 1) = ((K / 2 ^ (b * (vs.length - 1 - i)) % 2 ^ b : Nat) : Int) := fun K i hK hi => by
  have e : (b : Int) * ((vs.length : Int) - 1 - (i : Int)) = ((b * (vs.length - 1 - i) : Nat) : Int) := by
   rw [Int.natCast_mul, show ((vs.length - 1 - i : Nat) : Int) = (vs.length : Int) - 1 - (i : Int) by omega]
  have hle2 : b * (vs.length - 1 - i) ≤ b * vs.length := Nat.mul_le_mul_left _ (by omega)
  have := dig_nat (n := (b : Int)) (N := K) (e := ((b * (vs.length - 1 - i) : Nat) : Int)) h0 h5 (by omega) (by omega) hK
  rw [e, this]; rfl
 have hu : ∀ (K i : Nat), K < 2 ^ 61 → i < vs.length → band (shr64 (K : Int) ((i : Int) * (b : Int))) ((shl64 1 (b : Int)) - 1) = ((K / 2 ^ (b * i) % 2 ^ b : Nat) : Int) := fun K i hK hi => by
  have e : (i : Int) * (b : Int) = ((b * i : Nat) : Int) := by rw [Int.natCast_mul, Int.mul_comm]
  have hle2 : b * i ≤ b * vs.length := Nat.mul_le_mul_left _ (by omega)
  have := dig_nat (n := (b : Int)) (N := K) (e := ((b * i : Nat) : Int)) h0 h5 (by omega) (by omega) hK
  rw [e, this]; rfl
 refine ⟨M, by omega, row_ext (urow_len _ _ _) (vrow_len _ _ _) fun j hj => ?_, row_ext (vrow_len _ _ _) (urow_len _ _ _) fun j hj => ?_⟩
 ·rw [urow_get hj, vrow_get hj, uat, vat]
  split
  ·rename_i hm
   have hi := List.idxOf_lt_length_of_mem hm
   rw [hu M _ (by omega) hi, hv N _ (by omega) hi, h2 _ hi]
  ·rfl
 ·rw [urow_get hj, vrow_get hj, uat, vat]
  split
  ·rename_i hm
   have hi := List.idxOf_lt_length_of_mem hm
   rw [hv M _ (by omega) hi, hu N _ (by omega) hi, h2 _ (by omega), show vs.length - 1 - (vs.length - 1 - vs.idxOf (j : Int)) = vs.idxOf (j : Int) by omega]
  ·rfl
def badU (n : Int) (ys vs : List Int) (a : List (Int × Int)) (N : Nat) : Bool := !decide (gv (mT n) (mU n (bxT ys)) (urow n vs (N : Int)) a = (shl64 1 n) - 1)
theorem badU_no {n : Int} {ys vs Y : List Int} {a : List (Int × Int)} {N : Nat} (hX : Y = urow n vs (N : Int)) (h : gv (mT n) (mU n (bxT ys)) Y a = (shl64 1 n) - 1) : badU n ys vs a N = false := by
 rw [badU, ← hX, h]; simp
theorem badU_yes {n : Int} {ys vs Y : List Int} {a : List (Int × Int)} {N : Nat} (hX : Y = urow n vs (N : Int)) (h : ¬ gv (mT n) (mU n (bxT ys)) Y a = (shl64 1 n) - 1) : badU n ys vs a N = true := by
 rw [badU, ← hX]; simpa using h
theorem uat_in {n : Int} {vs : List Int} {N : Nat} (h0 : 0 ≤ n) (h5 : n ≤ 5) (hN : N ≤ 65536) (j : Nat) (hj : j < 6) : InM n.toNat ((urow n vs (N : Int)).getD j 0) := by
 rw [urow_get hj, uat]
 have hf := inM_full (n := n.toNat) (by omega)
 rw [nn_eq h0] at hf
 split
 ·exact inM_band_r (by omega) (shr_inM (inM61 (by omega) (by omega)) _) hf
 ·exact inM_zero _
theorem urow_any {n : Int} {vs Y : List Int} {N : Nat} (h0 : 0 ≤ n) (h5 : n ≤ 5) (hN : N ≤ 65536) (hX : Y = urow n vs (N : Int)) : Y.any (outE n) = false := by
 subst hX
 exact any_of h0 (by omega) fun j hj => uat_in h0 h5 hN j (by rw [urow_len] at hj; exact hj)
theorem fst_isNone {p : Nat → Bool} {t : Nat} : (fstN p t).isNone = true ↔ ∀ M, M < t → p M = false := by
 rw [Option.isNone_iff_eq_none, fstN, List.find?_eq_none]
 constructor
 ·intro h M hM
  simpa using h M (by simpa using hM)
 ·intro h M hM
  rw [h M (by simpa using hM)]; decide
theorem va_same {n : Int} {ys vs : List Int} {a : List (Int × Int)} (h : okAl n ys = true) (ha : OKM 6 a) (hfit : n * (vs.length : Int) ≤ 16) : (fstV n (frT n ys) vs a).isNone = (fstN (badU n ys vs a) (totN n vs)).isNone := by
 have h5 := okAl_rel h
 have hb : 0 ≤ n ∧ n ≤ 5 := ⟨h5.1, h5.2.1⟩
 have htot := totN_le (n := n) (vs := vs) ⟨Int.mul_nonneg hb.1 (by omega), hfit⟩
 have key : ∀ N M : Nat, N ≤ 65536 → urow n vs (M : Int) = vrow n vs (N : Int) → badV n (frT n ys) vs a N = badU n ys vs a M := fun N M hN e => by
  have hv := vrow_in (vs := vs) hb.1 (by omega) (show N ≤ 2305843009213693951 by omega)
  have hx := (avl_in (vs := vrow n vs (N : Int)) h (any_of hb.1 (by omega) fun j hj => hv j (by rw [vrow_len] at hj; exact hj)) (by rw [vrow_len]; exact ha)).2
  rw [badV, badU, tv, e, ← hx]; rfl
 rw [Bool.eq_iff_iff, fstV, fst_isNone, fst_isNone]
 constructor
 ·intro hA M hM
  obtain ⟨N, h1, h2, h3⟩ := rev_row hb.1 hb.2 hfit M hM
  rw [← key N M (by omega) h3.symm]
  exact hA N h1
 ·intro hA N hN
  obtain ⟨M, h1, h2, h3⟩ := rev_row hb.1 hb.2 hfit N hN
  rw [key N M (by omega) h2]
  exact hA M h1
def vaC (n : Int) (ys : List Int) (a : List (Int × Int)) : Int := if okAl n ys = true ∧ isF a = true then (if n * ((mem (vmT [a] [a].length)).length : Int) ≤ 16 then 0 else 3) else 1
def vaB (n : Int) (ys : List Int) (a : List (Int × Int)) : Bool := decide (vaC n ys a = 0) && (fstN (badU n ys (mem (vmT [a] [a].length)) a) (totN n (mem (vmT [a] [a].length)))).isNone
theorem vaC_bad {n : Int} {ys : List Int} {a : List (Int × Int)} (h : ¬ (okAl n ys = true ∧ isF a = true)) : vaC n ys a = 1 := if_neg h
theorem vaC_big {n : Int} {ys vs : List Int} {a : List (Int × Int)} (hv : vs = mem (vmT [a] [a].length)) (h1 : okAl n ys = true) (h2 : isF a = true) (h : 16 < n * (vs.length : Int)) : vaC n ys a = 3 := by
 rw [vaC, if_pos ⟨h1, h2⟩, if_neg (by rw [← hv]; omega)]
theorem vaC_ok {n : Int} {ys vs : List Int} {a : List (Int × Int)} (hv : vs = mem (vmT [a] [a].length)) (h1 : okAl n ys = true) (h2 : isF a = true) (h : n * (vs.length : Int) ≤ 16) : vaC n ys a = 0 := by
 rw [vaC, if_pos ⟨h1, h2⟩, if_pos (by rw [← hv]; omega)]
theorem vaT_no {n : Int} {ys : List Int} {a : List (Int × Int)} {c : Int} (h : vaC n ys a = c) (hc : ¬ c = 0) : AV.tup [.bool false, AI c] = AV.tup [.bool (vaB n ys a), AI (vaC n ys a)] := by
 rw [vaB, h, decide_eq_false hc]; rfl
theorem vaT_ok {n : Int} {ys vs : List Int} {a : List (Int × Int)} {b : Bool} (hv : vs = mem (vmT [a] [a].length)) (h : vaC n ys a = 0) (hb : (fstN (badU n ys vs a) (totN n vs)).isNone = b) : AV.tup [.bool b, AI 0] = AV.tup [.bool (vaB n ys a), AI (vaC n ys a)] := by
 rw [vaB, h, ← hv, hb]; simp
theorem areElements_c (n : Int) (ys vs : List Int) (h0 : 0 ≤ n) (h1 : n ≤ 62) (hl : vs.length ≤ 1000000000) : CallA Tryz.prog 52 [.agg [AI n, LI ys], LI vs] (.bool (!(vs.any (outE n)))) := by
 refine CallA.of Tryz.func52 rfl (by kernel_rfl) (R.go 9 (k15 false (containsEl_c vs n ys h0 h1 hl) ?_))
 exact R.go 3 (k18 (.bool (!(vs.any (outE n)))) (by rfl))
theorem AV_spec (n : Int) (ys vs : List Int) (a : List (Int × Int)) (l1 : ys.length ≤ 1048576) (l2 : vs.length ≤ 1048576) (hl : a.length ≤ 1048576) : CallA Tryz.prog 17 [.agg [AI n, LI ys], LI vs, LN a] (.tup [AI (avV n ys vs a), AI (avC n ys vs a)]) := by
 have hal5 := fun h : okAl n ys = true => okAl_rel h
 refine CallA.of Tryz.func17 rfl (by kernel_rfl) (R.go 10 (k15 true (l15Is_c n ys (by first | omega | (have hq1 := (hal5 (by assumption)).1; have hq2 := (hal5 (by assumption)).2.1; omega))) (R.go 2 ((Bool.eq_false_or_eq_true (okAl n ys)).elim (fun c1 => ?_) (fun c1 => ?_)))))
 ·refine k7 false (bnF c1) (R.go 1 (k7 false (bnF c1) (k15 true (l02Is_c a (by first | omega | (have hq1 := (hal5 (by assumption)).1; have hq2 := (hal5 (by assumption)).2.1; omega))) (k7 false (bnF c1) (R.go 1 (k9 false (bnF c1) (R.go 1 ((Bool.eq_false_or_eq_true (isF a)).elim (fun c2 => ?_) (fun c2 => ?_)))))))))
  ·refine k7 false (bnF c2) ?_
   iterate 2 refine R.go 1 (k7 false (bnF c2) ?_)
   refine R.go 1 (k9 false (bnF c2) (R.go 1 ?_))
   by_cases c3 : (vs.length : Int) = 6
   ·refine k7 false (nF c3) ?_
    iterate 3 refine R.go 1 (k7 false (nF c3) ?_)
    refine k15 true (l01MasksE_c n vs (by first | omega | (have hq1 := (hal5 (by assumption)).1; have hq2 := (hal5 (by assumption)).2.1; omega)) (by first | omega | (have hq1 := (hal5 (by assumption)).1; have hq2 := (hal5 (by assumption)).2.1; omega)) (by first | omega | (have hq1 := (hal5 (by assumption)).1; have hq2 := (hal5 (by assumption)).2.1; omega))) (k7 false (nF c3) (R.go 1 (k9 false (nF c3) (R.go 1 (k20 (!(vs.any (outE n))) (fun c4 => ?_) (fun c4 => ?_))))))
    ·exact R.go 5 (k18 (.tup [AI 0, AI 1]) (by first | (refine tupI ?_ ?_ <;> first | (rw [avV, if_pos hm]; done) | (rw [avV, if_pos hm]; exact (avl_in hc1 hc3 hok).2.symm) | exact hm.symm | (have hz : avC n ys vs a = 1 := avC_bad (by rintro ⟨b1, b2, b3, b4⟩; first | (simp_all; done) | omega); first | (rw [avV, if_neg (by rw [hz]; decide)]) | exact hz.symm)) | (exfalso; omega)))
    have hc1 : okAl n ys = true := by assumption
    have hc2 : isF a = true := by assumption
    have hc3 : vs.any (outE n) = false := by first | assumption | simpa using (by assumption : (!vs.any (outE n)) = true)
    have h6 : vs.length = 6 := by omega
    have hm : avC n ys vs a = 0 := avC_ok hc1 hc2 h6 hc3
    have hA := isF_okm hc2
    have hok : OKM vs.length a := by rw [h6]; exact hA.1
    have hal : a.length ≤ 40 := hA.2
    have hfl : (frT n ys).length = n.toNat := arwS_len _ _ _ _ _
    have hr5 := okAl_rel hc1
    have hb5 : 0 ≤ n ∧ n ≤ 5 := ⟨hr5.1, hr5.2.1⟩
    refine R.go 6 (k15 true (l15Value_c a.length n ys vs a (by first | rfl | simp) hok hc1 hc3 (by first | omega | (have hq := lenm_lef hok ((partsN_two _).2 (by omega)); omega) | (simp; omega))) ?_)
    exact R.go 3 (k18 (.tup [AI (gv (mT n) (mU n (bxT ys)) vs a), AI 0]) (by first | (refine tupI ?_ ?_ <;> first | (rw [avV, if_pos hm]; done) | (rw [avV, if_pos hm]; exact (avl_in hc1 hc3 hok).2.symm) | exact hm.symm | (have hz : avC n ys vs a = 1 := avC_bad (by rintro ⟨b1, b2, b3, b4⟩; first | (simp_all; done) | omega); first | (rw [avV, if_neg (by rw [hz]; decide)]) | exact hz.symm)) | (exfalso; omega)))
   iterate 5 refine k8 false (nT c3) ?_
   refine k9 true (nT c3) ?_
   exact R.go 7 (k18 (.tup [AI 0, AI 1]) (by first | (refine tupI ?_ ?_ <;> first | (rw [avV, if_pos hm]; done) | (rw [avV, if_pos hm]; exact (avl_in hc1 hc3 hok).2.symm) | exact hm.symm | (have hz : avC n ys vs a = 1 := avC_bad (by rintro ⟨b1, b2, b3, b4⟩; first | (simp_all; done) | omega); first | (rw [avV, if_neg (by rw [hz]; decide)]) | exact hz.symm)) | (exfalso; omega)))
  iterate 3 refine k8 false (bnT c2) ?_
  refine k9 true (bnT c2) ?_
  exact R.go 14 (k18 (.tup [AI 0, AI 1]) (by first | (refine tupI ?_ ?_ <;> first | (rw [avV, if_pos hm]; done) | (rw [avV, if_pos hm]; exact (avl_in hc1 hc3 hok).2.symm) | exact hm.symm | (have hz : avC n ys vs a = 1 := avC_bad (by rintro ⟨b1, b2, b3, b4⟩; first | (simp_all; done) | omega); first | (rw [avV, if_neg (by rw [hz]; decide)]) | exact hz.symm)) | (exfalso; omega)))
 iterate 3 refine k8 false (bnT c1) ?_
 refine k9 true (bnT c1) ?_
 exact R.go 19 (k18 (.tup [AI 0, AI 1]) (by first | (refine tupI ?_ ?_ <;> first | (rw [avV, if_pos hm]; done) | (rw [avV, if_pos hm]; exact (avl_in hc1 hc3 hok).2.symm) | exact hm.symm | (have hz : avC n ys vs a = 1 := avC_bad (by rintro ⟨b1, b2, b3, b4⟩; first | (simp_all; done) | omega); first | (rw [avV, if_neg (by rw [hz]; decide)]) | exact hz.symm)) | (exfalso; omega)))
theorem AV_impl (n : Int) (ys vs : List Int) (a : List (Int × Int)) (l1 : ys.length ≤ 1048576) (l2 : vs.length ≤ 1048576) (hl : a.length ≤ 1048576) : CallA Tryz.prog 16 [.agg [AI n, LI ys], LI vs, LN a] (.tup [AI (avV n ys vs a), AI (avC n ys vs a)]) := by
 have hal5 := fun h : okAl n ys = true => okAl_rel h
 refine CallA.of Tryz.func16 rfl (by kernel_rfl) (R.go 10 (k15 true (isModalAlgebra_c n ys (by first | omega | (have hq1 := (hal5 (by assumption)).1; have hq2 := (hal5 (by assumption)).2.1; omega))) (R.go 2 ((Bool.eq_false_or_eq_true (okAl n ys)).elim (fun c1 => ?_) (fun c1 => ?_)))))
 ·refine k7 false (bnF c1) (R.go 1 (k7 false (bnF c1) (k15 true (isFormula_c a (by first | omega | (have hq1 := (hal5 (by assumption)).1; have hq2 := (hal5 (by assumption)).2.1; omega))) (k7 false (bnF c1) (R.go 1 (k9 false (bnF c1) (R.go 1 ((Bool.eq_false_or_eq_true (isF a)).elim (fun c2 => ?_) (fun c2 => ?_)))))))))
  ·refine k7 false (bnF c2) ?_
   iterate 2 refine R.go 1 (k7 false (bnF c2) ?_)
   refine R.go 1 (k9 false (bnF c2) (R.go 1 ?_))
   by_cases c3 : (vs.length : Int) = 6
   ·refine k7 false (nF c3) ?_
    iterate 2 refine R.go 1 (k7 false (nF c3) ?_)
    refine k15 true (areElements_c n ys vs (by first | omega | (have hq1 := (hal5 (by assumption)).1; have hq2 := (hal5 (by assumption)).2.1; omega)) (by first | omega | (have hq1 := (hal5 (by assumption)).1; have hq2 := (hal5 (by assumption)).2.1; omega)) (by first | omega | (have hq1 := (hal5 (by assumption)).1; have hq2 := (hal5 (by assumption)).2.1; omega))) (k7 false (nF c3) (R.go 1 (k9 false (nF c3) (R.go 1 (k20 (!(vs.any (outE n))) (fun c4 => ?_) (fun c4 => ?_))))))
    ·exact R.go 5 (k18 (.tup [AI 0, AI 1]) (by first | (refine tupI ?_ ?_ <;> first | (rw [avV, if_pos hm]; done) | (rw [avV, if_pos hm]; exact (avl_in hc1 hc3 hok).2.symm) | exact hm.symm | (have hz : avC n ys vs a = 1 := avC_bad (by rintro ⟨b1, b2, b3, b4⟩; first | (simp_all; done) | omega); first | (rw [avV, if_neg (by rw [hz]; decide)]) | exact hz.symm)) | (exfalso; omega)))
    have hc1 : okAl n ys = true := by assumption
    have hc2 : isF a = true := by assumption
    have hc3 : vs.any (outE n) = false := by first | assumption | simpa using (by assumption : (!vs.any (outE n)) = true)
    have h6 : vs.length = 6 := by omega
    have hm : avC n ys vs a = 0 := avC_ok hc1 hc2 h6 hc3
    have hA := isF_okm hc2
    have hok : OKM vs.length a := by rw [h6]; exact hA.1
    have hal : a.length ≤ 40 := hA.2
    have hfl : (frT n ys).length = n.toNat := arwS_len _ _ _ _ _
    have hr5 := okAl_rel hc1
    have hb5 : 0 ≤ n ∧ n ≤ 5 := ⟨hr5.1, hr5.2.1⟩
    refine R.go 4 (k15 true (frameA_c n ys hc1) (R.go 2 (k15 true (truthSet_c n (frT n ys) vs a hok (by first | omega | (have hq1 := (hal5 (by assumption)).1; have hq2 := (hal5 (by assumption)).2.1; omega)) (by first | omega | (have hq1 := (hal5 (by assumption)).1; have hq2 := (hal5 (by assumption)).2.1; omega)) (by first | omega | (have hq1 := (hal5 (by assumption)).1; have hq2 := (hal5 (by assumption)).2.1; omega)) (by first | omega | (have hq1 := (hal5 (by assumption)).1; have hq2 := (hal5 (by assumption)).2.1; omega))) ?_)))
    exact R.go 3 (k18 (.tup [AI (gv (mT n) (mU n (bxB (frT n ys))) vs a), AI 0]) (by first | (refine tupI ?_ ?_ <;> first | (rw [avV, if_pos hm]; done) | (rw [avV, if_pos hm]; exact (avl_in hc1 hc3 hok).2.symm) | exact hm.symm | (have hz : avC n ys vs a = 1 := avC_bad (by rintro ⟨b1, b2, b3, b4⟩; first | (simp_all; done) | omega); first | (rw [avV, if_neg (by rw [hz]; decide)]) | exact hz.symm)) | (exfalso; omega)))
   iterate 4 refine k8 false (nT c3) ?_
   refine k9 true (nT c3) ?_
   exact R.go 7 (k18 (.tup [AI 0, AI 1]) (by first | (refine tupI ?_ ?_ <;> first | (rw [avV, if_pos hm]; done) | (rw [avV, if_pos hm]; exact (avl_in hc1 hc3 hok).2.symm) | exact hm.symm | (have hz : avC n ys vs a = 1 := avC_bad (by rintro ⟨b1, b2, b3, b4⟩; first | (simp_all; done) | omega); first | (rw [avV, if_neg (by rw [hz]; decide)]) | exact hz.symm)) | (exfalso; omega)))
  iterate 3 refine k8 false (bnT c2) ?_
  refine k9 true (bnT c2) ?_
  exact R.go 13 (k18 (.tup [AI 0, AI 1]) (by first | (refine tupI ?_ ?_ <;> first | (rw [avV, if_pos hm]; done) | (rw [avV, if_pos hm]; exact (avl_in hc1 hc3 hok).2.symm) | exact hm.symm | (have hz : avC n ys vs a = 1 := avC_bad (by rintro ⟨b1, b2, b3, b4⟩; first | (simp_all; done) | omega); first | (rw [avV, if_neg (by rw [hz]; decide)]) | exact hz.symm)) | (exfalso; omega)))
 iterate 3 refine k8 false (bnT c1) ?_
 refine k9 true (bnT c1) ?_
 exact R.go 18 (k18 (.tup [AI 0, AI 1]) (by first | (refine tupI ?_ ?_ <;> first | (rw [avV, if_pos hm]; done) | (rw [avV, if_pos hm]; exact (avl_in hc1 hc3 hok).2.symm) | exact hm.symm | (have hz : avC n ys vs a = 1 := avC_bad (by rintro ⟨b1, b2, b3, b4⟩; first | (simp_all; done) | omega); first | (rw [avV, if_neg (by rw [hz]; decide)]) | exact hz.symm)) | (exfalso; omega)))
theorem VA_spec (n : Int) (ys : List Int) (a : List (Int × Int)) (l1 : ys.length ≤ 1048576) (hl : a.length ≤ 1048576) : CallA Tryz.prog 22 [.agg [AI n, LI ys], LN a] (.tup [.bool (vaB n ys a), AI (vaC n ys a)]) := by
 have hvv : ∃ vs, vs = mem (vmT [a] [a].length) := ⟨_, rfl⟩
 obtain ⟨vs, hvs⟩ := hvv
 have hal5 := fun h : okAl n ys = true => okAl_rel h
 have hvl : vs.length ≤ 62 := by rw [hvs]; exact mem_le _
 refine CallA.of Tryz.func22 rfl (by kernel_rfl) (R.go 10 (k15 true (l15Is_c n ys (by first | omega | (have hq1 := (hal5 (by assumption)).1; have hq2 := (hal5 (by assumption)).2.1; omega))) (R.go 2 ((Bool.eq_false_or_eq_true (okAl n ys)).elim (fun c1 => ?_) (fun c1 => ?_)))))
 ·refine k7 false (bnF c1) (R.go 1 (k7 false (bnF c1) (k15 true (l02Is_c a (by first | omega | (have hq1 := (hal5 (by assumption)).1; have hq2 := (hal5 (by assumption)).2.1; omega))) (k7 false (bnF c1) (R.go 1 (k9 false (bnF c1) (R.go 1 (k20 (isF a) (fun c2 => ?_) (fun c2 => ?_)))))))))
  ·exact R.go 5 (k18 (.tup [.bool false, AI 1]) (by first | (first | (exact vaT_no (vaC_bad (by rintro ⟨b1, b2⟩; simp_all)) (by decide)) | exact vaT_no (vaC_big hvs hc1 hc2 (by omega)) (by decide) | exact vaT_ok hvs hm (by rw [fst_some (N := N) (show ∀ M, M < N → badU n ys vs a M = false by assumption) (badU_yes hX (by assumption)) (by omega)]; rfl) | exact vaT_ok hvs hm (by rw [fst_none (fun M hM => (show ∀ M, M < N → badU n ys vs a M = false by assumption) M (by omega))]; rfl)) | (exfalso; omega)))
  have hc1 : okAl n ys = true := by assumption
  have hc2 : isF a = true := by assumption
  have hA := isF_okm hc2
  have hok : OKM 6 a := hA.1
  have hal : a.length ≤ 40 := hA.2
  have hr5 := okAl_rel hc1
  have hb5 : 0 ≤ n ∧ n ≤ 5 := ⟨hr5.1, hr5.2.1⟩
  have hF1 : allF [a] = true := allF_one hc2
  have hVS : VS vs := by rw [hvs]; exact VS_vmT hF1
  have hnl : 0 ≤ n * (vs.length : Int) ∧ n * (vs.length : Int) ≤ 310 := ⟨Int.mul_nonneg hb5.1 (by omega), Int.le_trans (Int.mul_le_mul_of_nonneg_right hb5.2 (by omega)) (by omega)⟩
  have hfr := frT_ok hc1
  refine R.go 4 (k15 true (l02VariablesG_c a vs (by assumption) hc2).frz (R.go 8 (k1 (n * (vs.length : Int)) ?_ (h0 := by first | omega | (have hq1 := (hal5 (by assumption)).1; have hq2 := (hal5 (by assumption)).2.1; omega)) (h1 := by first | omega | (have hq1 := (hal5 (by assumption)).1; have hq2 := (hal5 (by assumption)).2.1; omega)))))
  refine R.go 8 (k4 ((n * (vs.length : Int)) > 16) (fun c3 => ?_) (fun c3 => ?_))
  ·exact R.go 5 (k18 (.tup [.bool false, AI 3]) (by first | (first | (exact vaT_no (vaC_bad (by rintro ⟨b1, b2⟩; simp_all)) (by decide)) | exact vaT_no (vaC_big hvs hc1 hc2 (by omega)) (by decide) | exact vaT_ok hvs hm (by rw [fst_some (N := N) (show ∀ M, M < N → badU n ys vs a M = false by assumption) (badU_yes hX (by assumption)) (by omega)]; rfl) | exact vaT_ok hvs hm (by rw [fst_none (fun M hM => (show ∀ M, M < N → badU n ys vs a M = false by assumption) M (by omega))]; rfl)) | (exfalso; omega)))
  have hfit : n * (vs.length : Int) ≤ 16 := by omega
  have hm : vaC n ys a = 0 := vaC_ok hvs hc1 hc2 hfit
  have htot : shl64 1 (n * (vs.length : Int)) = (totN n vs : Int) := by have := shl_rng (n * (vs.length : Int)) hnl.1 (by omega); unfold totN; omega
  have htr := shl_rng (n * (vs.length : Int)) hnl.1 (by omega)
  have htb := totN_le ⟨hnl.1, hfit⟩
  have hfull := shl_rng n hb5.1 (by omega)
  refine R.go 12 (k16 ((fun | (N, X) => (⟨(frm 66 [(1, LN a), (2, .ptr 0 0), (6, LI vs), (7, AI (n * (vs.length : Int))), (8, .ref 1), (9, AI (N : Int))]), [.box 39 [AI n, LI ys], rowA eI 2 1 X]⟩ : St) : Nat × (List Int) → St)) (fun | (N, X) => ((N : Int) ≤ shl64 1 (n * (vs.length : Int))) ∧ (X.length = 6) ∧ (∀ j : Nat, j < 6 → ¬ (j : Int) ∈ vs → X.getD j 0 = 0) ∧ (∀ M, M < N → badU n ys vs a M = false)) (fun | (N, X) => (totN n vs) - N) (0, (List.replicate 6 0)) [1, 2, 6, 7, 8, 9] none ⟨(by omega), (by simp), (by exact zero_out vs), (by exact fun M hM => absurd hM (by omega))⟩ ?_)
  rintro ⟨N, X⟩ ⟨h7_1, h7_2, h7_3, h7_4⟩ R4 N5
  refine R.go 5 (k15 true (l01One_c (n * (vs.length : Int)) (by first | omega | (have hq1 := (hal5 (by assumption)).1; have hq2 := (hal5 (by assumption)).2.1; omega)) (by first | omega | (have hq1 := (hal5 (by assumption)).1; have hq2 := (hal5 (by assumption)).2.1; omega))) (R.go 2 (k4 ((N : Int) < (shl64 1 (n * (vs.length : Int)))) (fun c8 => ?_) (fun c8 => ?_))))
  ·refine R.go 9 (k16 ((fun | (k, Y) => (⟨(frm 66 [(1, LN a), (2, .ptr 0 0), (6, LI vs), (7, AI (n * (vs.length : Int))), (8, .ref 1), (9, AI (N : Int)), (10, AI (k : Int))]), [.box 39 [AI n, LI ys], rowA eI 2 1 Y]⟩ : St) : Nat × (List Int) → St)) (fun | (k, Y) => (k ≤ vs.length) ∧ (PU n vs (N : Int) k Y)) (fun | (k, Y) => vs.length - k) (0, X) [1, 2, 6, 7, 8, 9, 10] none ⟨(by omega), (by exact pu_start (by assumption) (by assumption))⟩ ?_)
   rintro ⟨k, Y⟩ ⟨h12_1, h12_2⟩ R9 N10
   have hY : PU n vs (N : Int) k Y := by assumption
   have hYl : Y.length = 6 := hY.1
   have hg := fun h : k < vs.length => vs_get hVS h
   have hnk : k < vs.length → 0 ≤ (k : Int) * n ∧ (k : Int) * n ≤ n * (vs.length : Int) := fun h => ⟨Int.mul_nonneg (by omega) hb5.1, by rw [Int.mul_comm]; exact Int.mul_le_mul_of_nonneg_left (by omega) hb5.1⟩
   refine R.go 8 (k4 ((k : Int) < (vs.length : Int)) (fun c13 => ?_) (fun c13 => ?_))
   ·have hg2 := hg (by omega)
    have hnk2 := hnk (by omega)
    refine R.go 7 (k10 eI vs 0 k (k : Int) eI_len ?_ (hj := by first | omega | (have hq1 := (hal5 (by assumption)).1; have hq2 := (hal5 (by assumption)).2.1; omega)))
    refine R.go 5 (k1 ((k : Int) * n) ?_ (h0 := by first | omega | (have hq1 := (hal5 (by assumption)).1; have hq2 := (hal5 (by assumption)).2.1; omega)) (h1 := by first | omega | (have hq1 := (hal5 (by assumption)).1; have hq2 := (hal5 (by assumption)).2.1; omega)))
    refine k2 .u64 ((k : Int) * n) (u64_id (by first | omega | (have hq1 := (hal5 (by assumption)).1; have hq2 := (hal5 (by assumption)).2.1; omega)) (by first | omega | (have hq1 := (hal5 (by assumption)).1; have hq2 := (hal5 (by assumption)).2.1; omega))) (R.shr (N : Int) ((k : Int) * n) (by kernel_rfl) (by first | omega | (have hq1 := (hal5 (by assumption)).1; have hq2 := (hal5 (by assumption)).2.1; omega)) (by kernel_rfl) (R.go 2 (k15 true (l01Full_c n (by first | omega | (have hq1 := (hal5 (by assumption)).1; have hq2 := (hal5 (by assumption)).2.1; omega)) (by first | omega | (have hq1 := (hal5 (by assumption)).1; have hq2 := (hal5 (by assumption)).2.1; omega))) (R.go 1 (k11 1 1 Y.length (((vs.getD k 0)).toNat) (vs.getD k 0) ?_ (hji := by first | omega | (have hq1 := (hal5 (by assumption)).1; have hq2 := (hal5 (by assumption)).2.1; omega)) (hj := by first | omega | (have hq1 := (hal5 (by assumption)).1; have hq2 := (hal5 (by assumption)).2.1; omega)))))))
    refine k13 1 2 Y (((vs.getD k 0)).toNat) (band (shr64 (N : Int) ((k : Int) * n)) ((shl64 1 n) - 1)) ?_ (hj := by first | omega | (have hq1 := (hal5 (by assumption)).1; have hq2 := (hal5 (by assumption)).2.1; omega))
    refine R.go 4 (k1 ((k : Int) + 1) ?_ (h0 := by first | omega | (have hq1 := (hal5 (by assumption)).1; have hq2 := (hal5 (by assumption)).2.1; omega)) (h1 := by first | omega | (have hq1 := (hal5 (by assumption)).1; have hq2 := (hal5 (by assumption)).2.1; omega)))
    exact R.go 2 (k17 R9 (N10 (k + 1, Y.set (((vs.getD k 0)).toNat) (band (shr64 (N : Int) ((k : Int) * n)) ((shl64 1 n) - 1))) [1, 2, 6, 7, 8, 9, 10] none _ (by kernel_rfl) (by kernel_rfl) ⟨(by omega), (by exact pu_step hY hVS (by omega) rfl)⟩ (by show (vs.length - (k + 1)) < (vs.length - k); omega)))
   refine R.go 2 (R.meet (⟨(frm 66 [(1, LN a), (2, .ptr 0 0), (6, LI vs), (7, AI (n * (vs.length : Int))), (8, .ref 1), (9, AI (N : Int)), (10, AI (k : Int)), (35, AI (k : Int)), (36, LI vs), (37, AI vs.length), (38, .bool (decide ((k : Int) < (vs.length : Int)))), (58, .agg [AI n, LI ys]), (59, .ref 1), (60, LN a), (61, AI (gv (mT n) (mU n (bxT ys)) Y a)), (62, .ptr 0 0), (63, AI n), (64, AI ((shl64 1 n) - 1)), (65, .bool (!decide ((gv (mT n) (mU n (bxT ys)) Y a) = ((shl64 1 n) - 1))))]), [.box 39 [AI n, LI ys], rowA eI 2 1 Y]⟩ : St) (by kernel_rfl) ?_ ?_)
   ·refine R.any (by decide +kernel) (by kernel_rfl) (k24 1 (np_meet _) (k24 2 (np_meet _) (R.anyA 4 (.ptr 0 0) (by kernel_rfl) (np_meet _) (k23 0 5 ?_ ?_))))
    ·have hX : Y = urow n vs (N : Int) := pu_end hY (by omega)
     have hYo : OKM Y.length a := by rw [hYl]; exact hok
     have hYa := urow_any hb5.1 hb5.2 (show N ≤ 65536 by omega) hX
     refine R.go 2 (k23 3 5 ?_ ?_)
     ·refine k15 false (l15Value_c a.length n ys Y a (by first | rfl | simp) hYo hc1 (by assumption) (by first | omega | (have hq := lenm_lef hok ((partsN_two _).2 (by omega)); omega) | (simp; omega))) (R.go 1 (k22 5 (R.go 2 (k22 6 (k15 true (l01Full_c n (by first | omega | (have hq1 := (hal5 (by assumption)).1; have hq2 := (hal5 (by assumption)).2.1; omega)) (by first | omega | (have hq1 := (hal5 (by assumption)).1; have hq2 := (hal5 (by assumption)).2.1; omega))) (R.go 1 (k22 7 (R.go 2 (k21 ?_)))))))))
      exact R.met (by kernel_rfl) (by kernel_rfl)
     refine R.go 2 (k22 3 (k15 false (l15Value_c a.length n ys Y a (by first | rfl | simp) hYo hc1 (by assumption) (by first | omega | (have hq := lenm_lef hok ((partsN_two _).2 (by omega)); omega) | (simp; omega))) (R.go 1 (k22 6 (k15 true (l01Full_c n (by first | omega | (have hq1 := (hal5 (by assumption)).1; have hq2 := (hal5 (by assumption)).2.1; omega)) (by first | omega | (have hq1 := (hal5 (by assumption)).1; have hq2 := (hal5 (by assumption)).2.1; omega))) (R.go 1 (k22 7 (R.go 2 (k21 ?_)))))))))
     exact R.met (by kernel_rfl) (by kernel_rfl)
    refine R.go 2 (k22 0 ?_)
    have hX : Y = urow n vs (N : Int) := pu_end hY (by omega)
    have hYo : OKM Y.length a := by rw [hYl]; exact hok
    have hYa := urow_any hb5.1 hb5.2 (show N ≤ 65536 by omega) hX
    refine R.go 2 (k22 3 (k15 false (l15Value_c a.length n ys Y a (by first | rfl | simp) hYo hc1 (by assumption) (by first | omega | (have hq := lenm_lef hok ((partsN_two _).2 (by omega)); omega) | (simp; omega))) (R.go 1 (k22 6 (k15 true (l01Full_c n (by first | omega | (have hq1 := (hal5 (by assumption)).1; have hq2 := (hal5 (by assumption)).2.1; omega)) (by first | omega | (have hq1 := (hal5 (by assumption)).1; have hq2 := (hal5 (by assumption)).2.1; omega))) (R.go 1 (k22 7 (R.go 2 (k21 ?_)))))))))
    exact R.met (by kernel_rfl) (by kernel_rfl)
   refine k5 ((gv (mT n) (mU n (bxT ys)) Y a) = ((shl64 1 n) - 1)) (fun c14 => ?_) (fun c14 => ?_)
   ·have hX : Y = urow n vs (N : Int) := pu_end hY (by omega)
    exact R.go 5 (k18 (.tup [.bool false, AI 0]) (by first | (first | (exact vaT_no (vaC_bad (by rintro ⟨b1, b2⟩; simp_all)) (by decide)) | exact vaT_no (vaC_big hvs hc1 hc2 (by omega)) (by decide) | exact vaT_ok hvs hm (by rw [fst_some (N := N) (show ∀ M, M < N → badU n ys vs a M = false by assumption) (badU_yes hX (by assumption)) (by omega)]; rfl) | exact vaT_ok hvs hm (by rw [fst_none (fun M hM => (show ∀ M, M < N → badU n ys vs a M = false by assumption) M (by omega))]; rfl)) | (exfalso; omega)))
   have hX : Y = urow n vs (N : Int) := pu_end hY (by omega)
   refine R.go 4 (k1 ((N : Int) + 1) ?_ (h0 := by first | omega | (have hq1 := (hal5 (by assumption)).1; have hq2 := (hal5 (by assumption)).2.1; omega)) (h1 := by first | omega | (have hq1 := (hal5 (by assumption)).1; have hq2 := (hal5 (by assumption)).2.1; omega)))
   exact R.go 2 (k17 R4 (N5 (N + 1, Y) [1, 2, 6, 7, 8, 9] none _ (by kernel_rfl) (by kernel_rfl) ⟨(by omega), (by rw [hX]; exact urow_len _ _ _), (by rw [hX]; exact urow_out), (by exact below_succ (by assumption) (badU_no hX (by assumption)))⟩ (by show ((totN n vs) - (N + 1)) < ((totN n vs) - N); omega)))
  exact R.go 6 (k18 (.tup [.bool true, AI 0]) (by first | (first | (exact vaT_no (vaC_bad (by rintro ⟨b1, b2⟩; simp_all)) (by decide)) | exact vaT_no (vaC_big hvs hc1 hc2 (by omega)) (by decide) | exact vaT_ok hvs hm (by rw [fst_some (N := N) (show ∀ M, M < N → badU n ys vs a M = false by assumption) (badU_yes hX (by assumption)) (by omega)]; rfl) | exact vaT_ok hvs hm (by rw [fst_none (fun M hM => (show ∀ M, M < N → badU n ys vs a M = false by assumption) M (by omega))]; rfl)) | (exfalso; omega)))
 iterate 3 refine k8 false (bnT c1) ?_
 refine k9 true (bnT c1) ?_
 exact R.go 7 (k18 (.tup [.bool false, AI 1]) (by first | (first | (exact vaT_no (vaC_bad (by rintro ⟨b1, b2⟩; simp_all)) (by decide)) | exact vaT_no (vaC_big hvs hc1 hc2 (by omega)) (by decide) | exact vaT_ok hvs hm (by rw [fst_some (N := N) (show ∀ M, M < N → badU n ys vs a M = false by assumption) (badU_yes hX (by assumption)) (by omega)]; rfl) | exact vaT_ok hvs hm (by rw [fst_none (fun M hM => (show ∀ M, M < N → badU n ys vs a M = false by assumption) M (by omega))]; rfl)) | (exfalso; omega)))
theorem VA_impl (n : Int) (ys : List Int) (a : List (Int × Int)) (l1 : ys.length ≤ 1048576) (hl : a.length ≤ 1048576) : CallA Tryz.prog 21 [.agg [AI n, LI ys], LN a] (.tup [.bool (vaB n ys a), AI (vaC n ys a)]) := by
 have hvv : ∃ vs, vs = mem (vmT [a] [a].length) := ⟨_, rfl⟩
 obtain ⟨vs, hvs⟩ := hvv
 have hal5 := fun h : okAl n ys = true => okAl_rel h
 have hvl : vs.length ≤ 62 := by rw [hvs]; exact mem_le _
 refine CallA.of Tryz.func21 rfl (by kernel_rfl) (R.go 11 (k15 true (isModalAlgebra_c n ys (by first | omega | (have hq1 := (hal5 (by assumption)).1; have hq2 := (hal5 (by assumption)).2.1; omega))) (R.go 2 ((Bool.eq_false_or_eq_true (okAl n ys)).elim (fun c1 => ?_) (fun c1 => ?_)))))
 ·refine k7 false (bnF c1) (R.go 1 (k7 false (bnF c1) (k15 true (isFormula_c a (by first | omega | (have hq1 := (hal5 (by assumption)).1; have hq2 := (hal5 (by assumption)).2.1; omega))) (k7 false (bnF c1) (R.go 1 (k9 false (bnF c1) (R.go 2 (k20 (isF a) (fun c2 => ?_) (fun c2 => ?_)))))))))
  ·exact R.go 5 (k18 (.tup [.bool false, AI 1]) (by first | (first | (exact vaT_no (vaC_bad (by rintro ⟨b1, b2⟩; simp_all)) (by decide)) | exact vaT_no (vaC_big hvs hc1 hc2 (by omega)) (by decide) | exact vaT_ok hvs hm (by rw [← hsm, hvs])) | (exfalso; omega)))
  have hc1 : okAl n ys = true := by assumption
  have hc2 : isF a = true := by assumption
  have hA := isF_okm hc2
  have hok : OKM 6 a := hA.1
  have hal : a.length ≤ 40 := hA.2
  have hr5 := okAl_rel hc1
  have hb5 : 0 ≤ n ∧ n ≤ 5 := ⟨hr5.1, hr5.2.1⟩
  have hF1 : allF [a] = true := allF_one hc2
  have hVS : VS vs := by rw [hvs]; exact VS_vmT hF1
  have hnl : 0 ≤ n * (vs.length : Int) ∧ n * (vs.length : Int) ≤ 310 := ⟨Int.mul_nonneg hb5.1 (by omega), Int.le_trans (Int.mul_le_mul_of_nonneg_right hb5.2 (by omega)) (by omega)⟩
  have hfr := frT_ok hc1
  refine R.go 5 (R.lit (s := 1) (n := 1) (cs := rows eLN [a]) (by kernel_rfl) (by kernel_rfl) (k15 true (variablesInG_c [a] vs (by assumption) hF1 (by first | omega | (simp <;> omega))).frz (k15 true (size_c vs) (k1 (n * (vs.length : Int)) ?_ (h0 := by first | omega | (have hq1 := (hal5 (by assumption)).1; have hq2 := (hal5 (by assumption)).2.1; omega)) (h1 := by first | omega | (have hq1 := (hal5 (by assumption)).1; have hq2 := (hal5 (by assumption)).2.1; omega))))))
  refine R.go 3 (k4 ((n * (vs.length : Int)) > 16) (fun c3 => ?_) (fun c3 => ?_))
  ·exact R.go 5 (k18 (.tup [.bool false, AI 3]) (by first | (first | (exact vaT_no (vaC_bad (by rintro ⟨b1, b2⟩; simp_all)) (by decide)) | exact vaT_no (vaC_big hvs hc1 hc2 (by omega)) (by decide) | exact vaT_ok hvs hm (by rw [← hsm, hvs])) | (exfalso; omega)))
  have hfit : n * (vs.length : Int) ≤ 16 := by omega
  have hfit2 : n * ((mem (vmT [a] [a].length)).length : Int) ≤ 16 := by rw [← hvs]; exact hfit
  have hm : vaC n ys a = 0 := vaC_ok hvs hc1 hc2 hfit
  have hsm := va_same hc1 hok hfit
  refine R.go 5 (k15 true (frameA_c n ys hc1) (R.go 1 (k15 true (isValid_c n (frT n ys) a hF1 (by assumption) hfit2 (by first | omega | (have hq1 := (hal5 (by assumption)).1; have hq2 := (hal5 (by assumption)).2.1; omega))) ?_)))
  exact R.go 3 (k18 (.tup [.bool ((fstV n (frT n ys) (mem (vmT [a] [a].length)) a).isNone), AI 0]) (by first | (first | (exact vaT_no (vaC_bad (by rintro ⟨b1, b2⟩; simp_all)) (by decide)) | exact vaT_no (vaC_big hvs hc1 hc2 (by omega)) (by decide) | exact vaT_ok hvs hm (by rw [← hsm, hvs])) | (exfalso; omega)))
 iterate 3 refine k8 false (bnT c1) ?_
 refine k9 true (bnT c1) ?_
 exact R.go 8 (k18 (.tup [.bool false, AI 1]) (by first | (first | (exact vaT_no (vaC_bad (by rintro ⟨b1, b2⟩; simp_all)) (by decide)) | exact vaT_no (vaC_big hvs hc1 hc2 (by omega)) (by decide) | exact vaT_ok hvs hm (by rw [← hsm, hvs])) | (exfalso; omega)))
end Go.Proofs.YtehbliocfpppoaaGreat

/-! Drawn regions: places of elements of one's own rows come first; ways that meet with their objects in another order. -/
namespace Go.Abs
open Go.RowKit
section
variable {rd : Option Nat} {P : Program} {m : M} {Q : Exit → St → Prop}
def ioAtA (P : Program) (m : M) (i : Nat) : Option (Nat × Nat × Nat × Int) :=
 match m.ks with
 | .any ops listed (_ + 1) :: _ => match ops[i]? with
  | some o => match o.op with
   | .indexAddr t x y => if o.guard.isNone && Region.noSelect ops && Region.free .any ops listed i && (Region.ready .any ops listed).contains i then (match ev m.st.fr x, ev m.st.fr y, elemB P t with
    | .ref q, .int _ j, some (el', s') => (match m.st.hp[q]? with
     | some (.list el s n _) => if el' = el ∧ s' = s ∧ s ≠ 0 then some (q, s, n, j) else none
     | _ => none)
    | _, _, _ => none) else none
   | _ => none
  | none => none
 | _ => none
theorem R.anyO (i q s n j : Nat) (ji : Int) (h : ioAtA P m i = some (q, s, n, ji)) (hji : ji = (j : Int)) (hj : j < n) (np : NoPanic Q)
  (h' : Runs none P (exM i (.ptr q (j * s)) m) Q) : Runs none P m Q := by
 obtain ⟨ks, ⟨fr, hp⟩⟩ := m
 simp only [runs_iff] at h' ⊢
 unfold ioAtA at h
 simp only at h
 split at h
 ·rename_i ops listed nn ks'
  split at h
  ·rename_i o ho
   split at h
   ·rename_i t x y hx
    split at h
    ·rename_i hc
     simp only [Bool.and_eq_true] at hc
     obtain ⟨⟨⟨hg, hs⟩, hf⟩, hr⟩ := hc
     split at h
     ·rename_i q0 k j0 el' s' h1 h2 hel
      split at h
      ·rename_i el s0 n0 cs hq
       have hq0 := hq
       split at h
       ·rename_i hss
        obtain ⟨rfl, rfl, hs0⟩ := hss
        cases h
        subst hji
        simp only [exM, ho, RunsK] at h' ⊢
        intro Z0 w0 ac w hS
        have hW : Region.wanted o (yielded ops ac.tmps) = true := by
         unfold Region.wanted
         rw [Option.isNone_iff_eq_none.1 hg]
        have hrun : ∃ u, ∀ w, (execOp ac.eval o).run P w = .ok (.value u) w := by
         obtain ⟨μ, F, _, hHr, hFr, _, _⟩ := hS
         have e1 := h1 ▸ ev_rel hFr x
         have e2 := rel_int (h2 ▸ ev_rel hFr y)
         simp only [Rel] at e1
         obtain ⟨vs, hown, _⟩ := hHr.obj q _ _ hq e1
         rcases hown.2 with ⟨_, h0⟩ | ⟨g, cap, cur, e3, _⟩
         ·omega
         ·refine ⟨.pointer (some (Addr.add ⟨g, 0, none⟩ ((j : Int).toNat * s))), fun w => ?_⟩
          unfold execOp
          rw [hx]
          simp [e3, e2, run_indexAt hel (show (0 : Int) ≤ (j : Int) by omega) (show (j : Int) < (n : Nat) by omega) w] <;> rfl
        obtain ⟨u, hrun⟩ := hrun
        have hw' : WantedA ops o fr := wantedE_true (by unfold wantedE; rw [Option.isNone_iff_eq_none.1 hg])
        have h1' := StepR.sound (rd := none) (K := fun a' w' => Sim Z0 w0 ⟨putF fr o.dst (.ptr q (j * _)), hp⟩ a' w') (Q := fun _ _ _ => True) (st' := ⟨putF fr o.dst (.ptr q (j * _)), hp⟩) (by simpa using StepR.eff (P := P) (st := ⟨fr, hp⟩) hw' (v := .ptr q (j * _)) (news := []) (by rw [hx]; exact EffR.indexAddrO q _ _ n cs k (j : Int) h1 hq0 h2 hel hs0 (by omega) (by omega))) hS (fun _ _ h => h)
        rw [if_pos hW] at h1'
        unfold Oper.wpIn at h1'
        have h1' := h1'.2
        rw [show (Fc none).round = none from rfl, Oper.semAt_none, hrun w] at h1'
        simp only [Oper.uponIn] at h1'
        exact wpAnyIn_take rfl ho hs hf hr (fun c a w ⟨st', hq, _⟩ => absurd (runsK_panic ks' st' hq) (np c st')) ⟨.inl ⟨hW, hrun⟩, fun w => by unfold Oper.about; rw [hx]⟩ (h' Z0 w0 _ w h1')
       ·cases h
      ·cases h
     ·cases h
    ·cases h
   ·cases h
  ·cases h
 ·cases h
end
end Go.Abs
