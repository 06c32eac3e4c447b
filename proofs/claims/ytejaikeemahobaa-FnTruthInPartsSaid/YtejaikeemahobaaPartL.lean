/- Texts of the proof: V02, V03, Sym4, V04. -/
import Derived.Test.YtejaikeemahobaaPartK

/-! Parts and sums of models: the program and the reference. -/
namespace Go.Proofs.Ytejaikeemahobaa
open Go.RowKit Go.Abs

theorem tb_shl {N k : Nat} {m : Int} (hN : N + k ≤ 61) (hm : InM N m) : InM (N + k) (shl64 m (k : Int)) ∧ ∀ i, tb (shl64 m (k : Int)) i = (decide (k ≤ i) && tb m (i - k)) := by
  obtain ⟨a, rfl, ha⟩ := inM_nat hm
  have hlt : a * 2 ^ k < 2 ^ (N + k) := by
    rw [Nat.pow_add]
    exact Nat.mul_lt_mul_of_pos_right ha (Nat.two_pow_pos k)
  have h62 := inM_62 hN hlt
  have e : shl64 (a : Int) (k : Int) = ((a * 2 ^ k : Nat) : Int) := by
    unfold shl64
    rw [show min (k : Int).toNat 64 = k by omega]
    have e2 : (a : Int) * 2 ^ k = ((a * 2 ^ k : Nat) : Int) := by push_cast; rfl
    rw [e2]
    generalize a * 2 ^ k = q at h62
    have : (2 : Nat) ^ 62 = 4611686018427387904 := by decide
    exact wrap_id (by omega) (by omega)
  refine ⟨?_, fun i => ?_⟩
  · rw [e]
    exact ⟨Int.natCast_nonneg _, by rw [Int.toNat_natCast]; exact hlt⟩
  · rw [e]
    unfold tb
    rw [Int.toNat_natCast, Int.toNat_natCast, Nat.mul_comm, Nat.testBit_two_pow_mul]
def pomC (n : Int) (xs vs : List Int) (k : Int) : Int := if okMo n xs vs = true then (if outR n k = true then 2 else 0) else 1
theorem pom_ok {n : Int} {xs vs : List Int} {k : Int} (h : pomC n xs vs k = 0) : okMo n xs vs = true ∧ outR n k = false ∧ InM n.toNat k := by
  unfold pomC at h
  split at h
  · rename_i hm
    have := okFr_rel (okMo_fr hm).1
    split at h
    · omega
    · rename_i ho
      have ho : outR n k = false := by simpa using ho
      exact ⟨hm, ho, inM_out this.1 this.2.1 ho⟩
  · omega
theorem pom_mk {n : Int} {xs vs : List Int} {k : Int} (hm : okMo n xs vs = true) (hk : InM n.toNat k) : pomC n xs vs k = 0 := by
  have hb := okFr_rel (okMo_fr hm).1
  have h2 := (full_rng (n := n.toNat) (by omega)).1 hk
  rw [nn_eq hb.1] at h2
  rw [pomC, if_pos hm, outR, (inR_iff n 0 30).2 (by omega), h2]
  rfl
theorem pom_1 {n : Int} {xs vs : List Int} {k : Int} (h : okMo n xs vs = false) : pomC n xs vs k = 1 := by rw [pomC, if_neg (by simp [h])]
theorem pom_2 {n : Int} {xs vs : List Int} {k : Int} (h : okMo n xs vs = true) (h2 : outR n k = true) : pomC n xs vs k = 2 := by rw [pomC, if_pos h, if_pos h2]
def imT (R L : List Int) : Nat → Int
  | 0 => 0
  | t + 1 => bor (imT R L t) (R.getD (L.getD t 0).toNat 0)
theorem imT_ok {N : Nat} {R : List Int} {C : Int} (hN : N ≤ 61) (hR : RelOK N R) (hC : InM N C) : ∀ t, t ≤ (mem C).length → InM N (imT R (mem C) t) ∧ ∀ u, tb (imT R (mem C) t) u = true ↔ ∃ k, k < t ∧ tb (R.getD ((mem C).getD k 0).toNat 0) u = true
  | 0, _ => ⟨inM_zero N, fun u => by simp [imT, tb_zero]⟩
  | t + 1, ht => by
    obtain ⟨i1, i2⟩ := imT_ok hN hR hC t (by omega)
    obtain ⟨_, h2, _⟩ := mem_in hN hC (k := t) (by omega)
    have i3 := hR.2 _ h2
    refine ⟨inM_bor hN i1 i3, fun u => ?_⟩
    rw [imT, tb_bor hN i1 i3, Bool.or_eq_true, i2]
    constructor
    · rintro (⟨k, hk, h⟩ | h)
      · exact ⟨k, by omega, h⟩
      · exact ⟨t, by omega, h⟩
    · rintro ⟨k, hk, h⟩
      by_cases e : k = t
      · subst e; exact .inr h
      · exact .inl ⟨k, by omega, h⟩
def gwI (xs : List Int) (C : Int) : Int := imT (clo xs) (mem C) (mem C).length
theorem gw_ok {n : Int} {xs : List Int} {C : Int} (hR : okFr n xs = true) (hC : InM n.toNat C) : InM n.toNat (gwI xs C) ∧ ClosedS xs (gwI xs C) := by
  obtain ⟨h0, h8, hxl, hrr⟩ := okFr_rel hR
  obtain ⟨c1, c2⟩ := clo_ok (n := n.toNat) (by omega) hrr
  obtain ⟨i1, i2⟩ := imT_ok (by omega) c1 hC (mem C).length (Nat.le_refl _)
  refine ⟨i1, fun w u hw hu => ?_⟩
  obtain ⟨k, hk, h⟩ := (i2 w).1 hw
  obtain ⟨_, h2, _⟩ := mem_in (by omega) hC hk
  refine (i2 u).2 ⟨k, hk, ?_⟩
  rw [c2 _ h2] at h ⊢
  have hwn : w < n.toNat := tb_lt i1 hw
  exact h.tail ⟨by omega, hu⟩
theorem part_ok {n : Int} {xs vs : List Int} {C : Int} (hm : okMo n xs vs = true) (hC : InM n.toNat C) : okMo ((mem C).length : Int) (prt xs (mem C)) (prV vs C) = true := by
  obtain ⟨hR, hl, hX⟩ := okMo_in hm
  obtain ⟨h0, h8, _, _⟩ := okFr_rel hR
  have hml := mem_lenN (N := n.toNat) (by omega) hC
  rw [okMo_3 (prt_fr hR hC) (by unfold prV; rw [List.length_map]; omega)]
  rw [Bool.not_eq_true', List.any_eq_false]
  intro x hx
  obtain ⟨v, _, rfl⟩ := List.mem_map.1 hx
  have := (full_rng (n := (mem C).length) (by omega)).1 (sqz_ok (L := mem C) (m := v) (N := (mem C).length) (by omega) _ (Nat.le_refl _))
  rw [this]
  simp
def sumX (n : Int) (xs ys : List Int) : List Int := xs ++ ys.map fun y => shl64 y n
def sumT (n : Int) (vs us : List Int) (i : Nat) : List Int := (List.range i).map fun j => bor (vs.getD j 0) (shl64 (us.getD j 0) n)
def sumV (n : Int) (vs us : List Int) : List Int := sumT n vs us vs.length
theorem sumT_len (n : Int) (vs us : List Int) (i : Nat) : (sumT n vs us i).length = i := by simp [sumT]
theorem sumT_step (n : Int) (vs us : List Int) (i : Nat) : sumT n vs us i ++ [bor (vs.getD i 0) (shl64 (us.getD i 0) n)] = sumT n vs us (i + 1) := by
  unfold sumT
  rw [List.range_succ, List.map_append]
  rfl
theorem sumX_step {n : Int} {xs ys : List Int} {j : Nat} (h : j < ys.length) : (xs ++ (ys.take j).map fun y => shl64 y n) ++ [shl64 (ys.getD j 0) n] = xs ++ (ys.take (j + 1)).map fun y => shl64 y n := by rw [List.append_assoc, map_take (f := fun y => shl64 y n) h]
theorem sumX_len (n : Int) (xs ys : List Int) : (sumX n xs ys).length = xs.length + ys.length := by simp [sumX]

theorem squeeze_c (m : Int) (k : Int) (hk : InM 61 k) : CallA Try.prog 137 [AI m, AI k] (AI (sqz (mem k) m (mem k).length)) := by
  have hml := mem_le k
  have hjr0 := fun (t : Nat) (h : t < (mem k).length) => mem_lt' (N := 61) (by omega) hk h
  refine CallA.of Try.func137 rfl (by kernel_rfl) ?_
  refine R.go 12 (R.call true (membersOf_c k hk).frz (by kernel_rfl) rfl (by kernel_rfl) ?_)
  refine R.go 4 (R.loop ((fun | (t, r) => (⟨(frm 25 [(0, AI m), (5, AI r), (9, LI (mem k)), (10, AI ((mem k).length)), (11, AI (t : Int))]), []⟩ : St) : Nat × Int → St)) (fun | (t, r) => (t ≤ (mem k).length) ∧ (r = sqz (mem k) m t)) (fun | (t, r) => (mem k).length - t) (0, 0) [0, 5, 9, 10, 11] none (by kernel_rfl) (by kernel_rfl) (by kernel_rfl) ⟨(by omega), (by rfl)⟩ ?_)
  rintro ⟨t, r⟩ ⟨h4_1, rfl⟩ R1 N2
  have hjr := hjr0 t
  refine R.go 5 (R.cond ((t : Int) < ((mem k).length : Int)) (by kernel_rfl) (fun c5 => ?_) (fun c5 => ?_))
  · refine R.go 6 (R.idx eI (mem k) 0 t (t : Int) (by kernel_rfl) rfl eI_len (by omega) (by kernel_rfl) ?_)
    have hjw := hjr (by omega)
    refine R.go 8 (R.call true (has_c m ((mem k).getD t 0) (by omega)) (by kernel_rfl) rfl (by kernel_rfl) ?_)
    refine R.go 1 (R.cond (band (shr64 m ((mem k).getD t 0)) 1 = 1) (by kernel_rfl) (fun c6 => ?_) (fun c6 => ?_))
    · refine R.go 3 (R.shl 1 (t : Int) (by kernel_rfl) (by omega) (by kernel_rfl) ?_)
      refine R.go 5 (R.ar ((t : Int) + 1) (by kernel_rfl) (by omega) (by omega) (by kernel_rfl) ?_)
      exact R.go 2 (R.stop R1 (by kernel_rfl) (N2 (t + 1, bor (sqz (mem k) m t) (shl64 1 (t : Int))) [0, 5, 9, 10, 11] none _ (by kernel_rfl) (by kernel_rfl) ⟨(by omega), (by first | exact sqz_yes (by assumption) | exact sqz_no (by assumption))⟩ (by show ((mem k).length - (t + 1)) < ((mem k).length - t); omega)))
    · refine R.go 3 (R.ar ((t : Int) + 1) (by kernel_rfl) (by omega) (by omega) (by kernel_rfl) ?_)
      exact R.go 2 (R.stop R1 (by kernel_rfl) (N2 (t + 1, sqz (mem k) m t) [0, 5, 9, 10, 11] none _ (by kernel_rfl) (by kernel_rfl) ⟨(by omega), (by first | exact sqz_yes (by assumption) | exact sqz_no (by assumption))⟩ (by show ((mem k).length - (t + 1)) < ((mem k).length - t); omega)))
  · exact R.go 6 (R.retE (AI (sqz (mem k) m t)) (by kernel_rfl) (by kernel_rfl) (by first | (rw [show t = (mem k).length by omega]) | (exfalso; omega)))

theorem l05Squeeze_c (L : List Int) (m : Int) (hL : ∀ j : Nat, j < L.length → 0 ≤ L.getD j 0 ∧ L.getD j 0 < ((61 : Nat) : Int)) (hl : L.length ≤ 62) : CallA Try.prog 76 [LI L, AI m] (AI (sqz L m L.length)) := by
  have hjr0 := hL
  refine CallA.of Try.func76 rfl (by kernel_rfl) ?_
  refine R.go 14 (R.loop ((fun | (t, r) => (⟨(frm 24 [(0, LI L), (1, AI m), (5, AI r), (6, AI (t : Int))]), []⟩ : St) : Nat × Int → St)) (fun | (t, r) => (t ≤ (L).length) ∧ (r = sqz (L) m t)) (fun | (t, r) => (L).length - t) (0, 0) [0, 1, 5, 6] none (by kernel_rfl) (by kernel_rfl) (by kernel_rfl) ⟨(by omega), (by rfl)⟩ ?_)
  rintro ⟨t, r⟩ ⟨h4_1, rfl⟩ R1 N2
  have hjr := hjr0 t
  refine R.go 8 (R.cond ((t : Int) < (L.length : Int)) (by kernel_rfl) (fun c5 => ?_) (fun c5 => ?_))
  · have hjw := hjr (by omega)
    refine R.go 8 (R.idx eI L 0 t (t : Int) (by kernel_rfl) rfl eI_len (by omega) (by kernel_rfl) ?_)
    refine R.go 1 (R.call true (l01Bit_c m (L.getD t 0) (by omega) (by omega)) (by kernel_rfl) rfl (by kernel_rfl) ?_)
    refine R.go 1 (R.cond (band (shr64 m (L.getD t 0)) 1 = 1) (by kernel_rfl) (fun c6 => ?_) (fun c6 => ?_))
    · refine R.go 3 (R.call true (l01One_c (t : Int) (by omega) (by omega)) (by kernel_rfl) rfl (by kernel_rfl) ?_)
      refine R.go 6 (R.ar ((t : Int) + 1) (by kernel_rfl) (by omega) (by omega) (by kernel_rfl) ?_)
      exact R.go 2 (R.stop R1 (by kernel_rfl) (N2 (t + 1, bor (sqz (L) m t) (shl64 1 (t : Int))) [0, 1, 5, 6] none _ (by kernel_rfl) (by kernel_rfl) ⟨(by omega), (by first | exact sqz_yes (by assumption) | exact sqz_no (by assumption))⟩ (by show ((L).length - (t + 1)) < ((L).length - t); omega)))
    · refine R.go 4 (R.ar ((t : Int) + 1) (by kernel_rfl) (by omega) (by omega) (by kernel_rfl) ?_)
      exact R.go 2 (R.stop R1 (by kernel_rfl) (N2 (t + 1, sqz (L) m t) [0, 1, 5, 6] none _ (by kernel_rfl) (by kernel_rfl) ⟨(by omega), (by first | exact sqz_yes (by assumption) | exact sqz_no (by assumption))⟩ (by show ((L).length - (t + 1)) < ((L).length - t); omega)))
  · exact R.go 6 (R.retE (AI (sqz (L) m t)) (by kernel_rfl) (by kernel_rfl) (by first | (rw [show t = L.length by omega]) | (exfalso; omega)))

theorem partOn_c (n : Int) (xs : List Int) (k : Int) (hP : okFr n xs = true) (hk : InM n.toNat k) : CallA Try.prog 136 [LI xs, AI k] (ownA eI 2 1 (prt xs (mem k))) := by
  have hp1 := okFr_rel hP
  have hb : 0 ≤ n ∧ n ≤ 8 ∧ (xs.length : Int) = n := ⟨hp1.1, hp1.2.1, hp1.2.2.1⟩
  have hk61 : InM 61 k := inM_mono (n' := 61) (by omega) hk
  have hml := mem_lenN (N := n.toNat) (by omega) hk
  have hjr0 := fun (t : Nat) (h : t < (mem k).length) => mem_lt' (N := 61) (by omega) hk61 h
  have hjr1 := fun (t : Nat) (h : t < (mem k).length) => mem_lt' (N := n.toNat) (by omega) hk h
  refine CallA.of Try.func136 rfl (by kernel_rfl) ?_
  refine R.go 12 (R.call true (membersOf_c k hk61).frz (by kernel_rfl) rfl (by kernel_rfl) ?_)
  refine R.go 4 (R.nil 5 2 1 (by kernel_rfl) ?_)
  refine R.loop ((fun | (t, out) => (⟨(frm 26 [(0, LI xs), (1, AI k), (5, .ref 0), (9, LI (mem k)), (10, AI ((mem k).length)), (11, AI (t : Int))]), [rowA eI 2 1 out]⟩ : St) : Nat × (List Int) → St)) (fun | (t, out) => (t ≤ (mem k).length) ∧ (out = (List.take t (mem k)).map fun v => sqz (mem k) (xs.getD v.toNat 0) (mem k).length)) (fun | (t, out) => (mem k).length - t) (0, []) [0, 1, 5, 9, 10, 11] none (by kernel_rfl) (by kernel_rfl) (by kernel_rfl) ⟨(by omega), (by rfl)⟩ ?_
  rintro ⟨t, out⟩ ⟨h4_1, rfl⟩ R1 N2
  have hol : ((List.take t (mem k)).map fun v => sqz (mem k) (xs.getD v.toNat 0) (mem k).length).length = t := by simp; omega
  have hjr := hjr1 t
  refine R.go 5 (R.cond ((t : Int) < ((mem k).length : Int)) (by kernel_rfl) (fun c5 => ?_) (fun c5 => ?_))
  · refine R.go 5 (R.idx eI (mem k) 0 t (t : Int) (by kernel_rfl) rfl eI_len (by omega) (by kernel_rfl) ?_)
    have hjw := hjr (by omega)
    refine R.go 7 (R.idx eI xs 0 ((((mem k).getD t 0)).toNat) ((mem k).getD t 0) (by kernel_rfl) (by omega) eI_len (by omega) (by kernel_rfl) ?_)
    refine R.go 2 (R.call true (squeeze_c (xs.getD ((((mem k).getD t 0)).toNat) 0) k hk61) (by kernel_rfl) rfl (by kernel_rfl) ?_)
    refine R.go 1 (R.app eI ((List.take t (mem k)).map fun v => sqz (mem k) (xs.getD v.toNat 0) (mem k).length) [sqz (mem k) (xs.getD ((((mem k).getD t 0)).toNat) 0) (mem k).length] 0 2 1 8 (by kernel_rfl) eI_one (by decide) (by first | omega | (simp <;> omega)) (by kernel_rfl) ?_)
    refine R.go 4 (R.ar ((t : Int) + 1) (by kernel_rfl) (by omega) (by omega) (by kernel_rfl) ?_)
    exact R.go 2 (R.stop R1 (by kernel_rfl) (N2 (t + 1, ((List.take t (mem k)).map fun v => sqz (mem k) (xs.getD v.toNat 0) (mem k).length) ++ [sqz (mem k) (xs.getD ((((mem k).getD t 0)).toNat) 0) (mem k).length]) [0, 1, 5, 9, 10, 11] (some [0]) _ (by kernel_rfl) (by kernel_rfl) ⟨(by omega), (by exact prt_step (by omega))⟩ (by show ((mem k).length - (t + 1)) < ((mem k).length - t); omega)))
  · exact R.go 6 (R.retE (ownA eI 2 1 ((List.take t (mem k)).map fun v => sqz (mem k) (xs.getD v.toNat 0) (mem k).length)) (by kernel_rfl) (by kernel_rfl) (by first | (rw [prt_end (by omega)]) | (exfalso; omega)))

theorem frameOf_c (xs : List Int) : CallA Try.prog 135 [LI xs] (.agg [AI xs.length, LI xs]) := by
  refine CallA.of Try.func135 rfl (by kernel_rfl) ?_
  refine R.go 7 (R.call true (size_c xs) (by kernel_rfl) rfl (by kernel_rfl) ?_)
  exact R.go 4 (R.retE (.agg [AI xs.length, LI xs]) (by kernel_rfl) (by kernel_rfl) (by rfl))

theorem l05Part_c (n : Int) (xs : List Int) (k : Int) (hP : okFr n xs = true) (hk : InM n.toNat k) : CallA Try.prog 77 [.agg [AI n, LI xs], AI k] (.agg [AI ((mem k).length), ownA eI 2 1 (prt xs (mem k))]) := by
  have hp1 := okFr_rel hP
  have hb : 0 ≤ n ∧ n ≤ 8 ∧ (xs.length : Int) = n := ⟨hp1.1, hp1.2.1, hp1.2.2.1⟩
  have hk61 : InM 61 k := inM_mono (n' := 61) (by omega) hk
  have hml := mem_lenN (N := n.toNat) (by omega) hk
  have hjr0 := fun (t : Nat) (h : t < (mem k).length) => mem_lt' (N := 61) (by omega) hk61 h
  have hjr1 := fun (t : Nat) (h : t < (mem k).length) => mem_lt' (N := n.toNat) (by omega) hk h
  refine CallA.of Try.func77 rfl (by kernel_rfl) ?_
  refine R.go 8 (R.call true (l01ListM_c k hk61).frz (by kernel_rfl) rfl (by kernel_rfl) ?_)
  refine R.go 10 (R.loop ((fun | (t, out) => (⟨(frm 32 [(2, .ptr 0 0), (4, .ptr 1 0), (5, LI (mem k)), (6, .ref 2), (7, AI (t : Int))]), [.box 26 [AI n, LI xs], .box 26 [AI 0, .nil], rowA eI 2 1 out]⟩ : St) : Nat × (List Int) → St)) (fun | (t, out) => (t ≤ (mem k).length) ∧ (out = (List.take t (mem k)).map fun v => sqz (mem k) (xs.getD v.toNat 0) (mem k).length)) (fun | (t, out) => (mem k).length - t) (0, []) [2, 4, 5, 6, 7] none (by kernel_rfl) (by kernel_rfl) (by kernel_rfl) ⟨(by omega), (by rfl)⟩ ?_)
  rintro ⟨t, out⟩ ⟨h4_1, rfl⟩ R1 N2
  have hol : ((List.take t (mem k)).map fun v => sqz (mem k) (xs.getD v.toNat 0) (mem k).length).length = t := by simp; omega
  have hjr := hjr1 t
  refine R.go 8 (R.cond ((t : Int) < ((mem k).length : Int)) (by kernel_rfl) (fun c5 => ?_) (fun c5 => ?_))
  · have hjw := hjr (by omega)
    refine R.go 10 (R.idx eI (mem k) 0 t (t : Int) (by kernel_rfl) rfl eI_len (by omega) (by kernel_rfl) ?_)
    refine R.go 1 (R.idx eI xs 0 ((((mem k).getD t 0)).toNat) ((mem k).getD t 0) (by kernel_rfl) (by omega) eI_len (by omega) (by kernel_rfl) ?_)
    refine R.go 1 (R.call true (l05Squeeze_c (mem k) (xs.getD ((((mem k).getD t 0)).toNat) 0) (by first | assumption | exact hjr0) (by first | omega | (simp <;> omega))) (by kernel_rfl) rfl (by kernel_rfl) ?_)
    refine R.go 1 (R.app eI ((List.take t (mem k)).map fun v => sqz (mem k) (xs.getD v.toNat 0) (mem k).length) [sqz (mem k) (xs.getD ((((mem k).getD t 0)).toNat) 0) (mem k).length] 2 2 1 8 (by kernel_rfl) eI_one (by decide) (by first | omega | (simp <;> omega)) (by kernel_rfl) ?_)
    refine R.go 5 (R.ar ((t : Int) + 1) (by kernel_rfl) (by omega) (by omega) (by kernel_rfl) ?_)
    exact R.go 2 (R.stop R1 (by kernel_rfl) (N2 (t + 1, ((List.take t (mem k)).map fun v => sqz (mem k) (xs.getD v.toNat 0) (mem k).length) ++ [sqz (mem k) (xs.getD ((((mem k).getD t 0)).toNat) 0) (mem k).length]) [2, 4, 5, 6, 7] (some [0, 1, 2]) _ (by kernel_rfl) (by kernel_rfl) ⟨(by omega), (by exact prt_step (by omega))⟩ (by show ((mem k).length - (t + 1)) < ((mem k).length - t); omega)))
  · refine R.go 4 (R.call false (l05Make_c ((List.take t (mem k)).map fun v => sqz (mem k) (xs.getD v.toNat 0) (mem k).length) (by first | omega | (simp <;> omega))) (by kernel_rfl) (by simp [AV.closed, closedL, AI, ownA_closed eI_closed]) (by kernel_rfl) ?_)
    exact R.go 2 (R.retE (.agg [AI (((List.take t (mem k)).map fun v => sqz (mem k) (xs.getD v.toNat 0) (mem k).length).length), ownA eI 2 1 ((List.take t (mem k)).map fun v => sqz (mem k) (xs.getD v.toNat 0) (mem k).length)]) (by kernel_rfl) (by kernel_rfl) (by first | (rw [prt_end (by omega), prt_len]) | (exfalso; omega)))

theorem partM_c (n : Int) (xs : List Int) (vs : List Int) (k : Int) (hP : okFr n xs = true) (hk : InM n.toNat k) (lv : vs.length ≤ 1000000) : CallA Try.prog 72 [.agg [AI n, LI xs, LI vs], AI k] (.agg [AI ((mem k).length), LI (prt xs (mem k)), ownA eI 2 1 (prV vs k)]) := by
  have hp1 := okFr_rel hP
  have hb : 0 ≤ n ∧ n ≤ 8 ∧ (xs.length : Int) = n := ⟨hp1.1, hp1.2.1, hp1.2.2.1⟩
  have hk61 : InM 61 k := inM_mono (n' := 61) (by omega) hk
  have hml := mem_lenN (N := n.toNat) (by omega) hk
  have hjr0 := fun (t : Nat) (h : t < (mem k).length) => mem_lt' (N := 61) (by omega) hk61 h
  have hjr1 := fun (t : Nat) (h : t < (mem k).length) => mem_lt' (N := n.toNat) (by omega) hk h
  refine CallA.of Try.func72 rfl (by kernel_rfl) ?_
  refine R.go 11 (R.call true (partOn_c n xs k hP hk).frz (by kernel_rfl) rfl (by kernel_rfl) ?_)
  refine R.call true (frameOf_c (prt xs (mem k))) (by kernel_rfl) rfl (by kernel_rfl) ?_
  refine R.go 13 (R.nilB 2 2 2 1 (by kernel_rfl) ?_)
  refine R.loop ((fun | (t, out) => (⟨(frm 32 [(1, AI k), (4, .ptr 0 0), (5, .ptr 1 0), (16, LI vs), (17, AI vs.length), (18, AI (t : Int))]), [.box 36 [AI 0, .nil, .nil], .box 36 [AI ((prt xs (mem k)).length), LI (prt xs (mem k)), .ref 2], rowA eI 2 1 out]⟩ : St) : Nat × (List Int) → St)) (fun | (t, out) => (t ≤ vs.length) ∧ (out = (vs.take t).map fun v => sqz (mem k) v (mem k).length)) (fun | (t, out) => vs.length - t) (0, []) [1, 4, 5, 16, 17, 18] (some [1, 2, 3]) (by kernel_rfl) (by kernel_rfl) (by kernel_rfl) ⟨(by omega), (by rfl)⟩ ?_
  rintro ⟨t, out⟩ ⟨h4_1, rfl⟩ R1 N2
  have hol : ((vs.take t).map fun v => sqz (mem k) v (mem k).length).length = t := by simp; omega
  refine R.go 5 (R.cond ((t : Int) < (vs.length : Int)) (by kernel_rfl) (fun c5 => ?_) (fun c5 => ?_))
  · refine R.go 5 (R.idx eI vs 0 t (t : Int) (by kernel_rfl) rfl eI_len (by omega) (by kernel_rfl) ?_)
    refine R.go 8 (R.call true (squeeze_c (vs.getD t 0) k hk61) (by kernel_rfl) rfl (by kernel_rfl) ?_)
    refine R.go 1 (R.app eI ((vs.take t).map fun v => sqz (mem k) v (mem k).length) [sqz (mem k) (vs.getD t 0) (mem k).length] 2 2 1 8 (by kernel_rfl) eI_one (by decide) (by first | omega | (simp <;> omega)) (by kernel_rfl) ?_)
    refine R.go 5 (R.ar ((t : Int) + 1) (by kernel_rfl) (by omega) (by omega) (by kernel_rfl) ?_)
    exact R.go 2 (R.stop R1 (by kernel_rfl) (N2 (t + 1, ((vs.take t).map fun v => sqz (mem k) v (mem k).length) ++ [sqz (mem k) (vs.getD t 0) (mem k).length]) [1, 4, 5, 16, 17, 18] (some [0, 1, 2]) _ (by kernel_rfl) (by kernel_rfl) ⟨(by omega), (by exact map_take (f := fun v => sqz (mem k) v (mem k).length) (by omega))⟩ (by show (vs.length - (t + 1)) < (vs.length - t); omega)))
  · exact R.go 6 (R.retE (.agg [AI ((prt xs (mem k)).length), LI (prt xs (mem k)), ownA eI 2 1 ((vs.take t).map fun v => sqz (mem k) v (mem k).length)]) (by kernel_rfl) (by kernel_rfl) (by first | (rw [prt_len, show t = vs.length by omega, List.take_length]; rfl) | (exfalso; omega)))

theorem l05Set_c (n : Int) (xs : List Int) (k : Int) (h0 : 0 ≤ n) (h1 : n ≤ 8) : CallA Try.prog 74 [.agg [AI n, LI xs], AI k] (.bool (inR k 0 ((shl64 1 n) - 1))) := by
  refine CallA.of Try.func74 rfl (by kernel_rfl) ?_
  refine R.go 10 (R.call true (l01Full_c n h0 (by omega)) (by kernel_rfl) rfl (by kernel_rfl) ?_)
  refine R.call true (l01In_c k 0 ((shl64 1 n) - 1)) (by kernel_rfl) rfl (by kernel_rfl) ?_
  exact R.go 2 (R.retE (.bool (inR k 0 ((shl64 1 n) - 1))) (by kernel_rfl) (by kernel_rfl) (by rfl))

theorem PMok_impl (n : Int) (xs : List Int) (vs : List Int) (k : Int) (hz : pomC n xs vs k = 0) (l1 : xs.length ≤ 1000000) (l2 : vs.length ≤ 1000000) : CallA Try.prog 27 [.agg [AI n, LI xs, LI vs], AI k] (.tup [.agg [AI ((mem k).length), LI (prt xs (mem k)), ownA eI 2 1 (prV vs k)], AI 0]) := by
  have hpo := pom_ok hz
  have hM : okMo n xs vs = true := hpo.1
  have hO : outR n k = false := hpo.2.1
  have hO2 : (!(outR n k)) = true := by rw [hO]; rfl
  have hP : okFr n xs = true := (okMo_in hM).1
  have hk : InM n.toNat k := hpo.2.2
  have hvl : vs.length = 6 := (okMo_in hM).2.1
  have hp1 := okFr_rel hP
  have hb : 0 ≤ n ∧ n ≤ 8 ∧ (xs.length : Int) = n := ⟨hp1.1, hp1.2.1, hp1.2.2.1⟩
  have hk61 : InM 61 k := inM_mono (n' := 61) (by omega) hk
  have hml := mem_lenN (N := n.toNat) (by omega) hk
  have hjr0 := fun (t : Nat) (h : t < (mem k).length) => mem_lt' (N := 61) (by omega) hk61 h
  have hjr1 := fun (t : Nat) (h : t < (mem k).length) => mem_lt' (N := n.toNat) (by omega) hk h
  refine CallA.of Try.func27 rfl (by kernel_rfl) ?_
  refine R.go 11 (R.call true (isModel_c n xs vs (by first | omega | (simp <;> omega)) (by first | omega | (simp <;> omega))) (by kernel_rfl) rfl (by kernel_rfl) ?_)
  refine R.go 3 (R.els (!(okMo n xs vs)) (by kernel_rfl) (bnF hM) ?_)
  refine R.go 6 (R.call true (isMask_c n k) (by kernel_rfl) rfl (by kernel_rfl) ?_)
  refine R.go 3 (R.els (!(!(outR n k))) (by kernel_rfl) (bnF hO2) ?_)
  refine R.go 6 (R.call true (partM_c n xs vs k hP hk l2) (by kernel_rfl) rfl (by kernel_rfl) ?_)
  exact R.go 3 (R.retE (.tup [.agg [AI ((mem k).length), LI (prt xs (mem k)), ownA eI 2 1 (prV vs k)], AI 0]) (by kernel_rfl) (by kernel_rfl) (by rfl))

theorem PMok_spec (n : Int) (xs : List Int) (vs : List Int) (k : Int) (hz : pomC n xs vs k = 0) (l1 : xs.length ≤ 1000000) (l2 : vs.length ≤ 1000000) : CallA Try.prog 28 [.agg [AI n, LI xs, LI vs], AI k] (.tup [.agg [AI ((mem k).length), LI (prt xs (mem k)), ownA eI 2 1 (prV vs k)], AI 0]) := by
  have hpo := pom_ok hz
  have hM : okMo n xs vs = true := hpo.1
  have hO : outR n k = false := hpo.2.1
  have hO2 : (!(outR n k)) = true := by rw [hO]; rfl
  have hP : okFr n xs = true := (okMo_in hM).1
  have hk : InM n.toNat k := hpo.2.2
  have hvl : vs.length = 6 := (okMo_in hM).2.1
  have hp1 := okFr_rel hP
  have hb : 0 ≤ n ∧ n ≤ 8 ∧ (xs.length : Int) = n := ⟨hp1.1, hp1.2.1, hp1.2.2.1⟩
  have hk61 : InM 61 k := inM_mono (n' := 61) (by omega) hk
  have hml := mem_lenN (N := n.toNat) (by omega) hk
  have hjr0 := fun (t : Nat) (h : t < (mem k).length) => mem_lt' (N := 61) (by omega) hk61 h
  have hjr1 := fun (t : Nat) (h : t < (mem k).length) => mem_lt' (N := n.toNat) (by omega) hk h
  have hin : inR k 0 ((shl64 1 n) - 1) = true := by have := outR_inR (n := n) (k := k) hb.1 hb.2.1 rfl; rw [hO] at this; simpa using this.symm
  refine CallA.of Try.func28 rfl (by kernel_rfl) ?_
  refine R.go 11 (R.call true (l06Is_c n xs vs (by first | omega | (simp <;> omega)) (by first | omega | (simp <;> omega))) (by kernel_rfl) rfl (by kernel_rfl) ?_)
  refine R.go 3 (R.els (!(okMo n xs vs)) (by kernel_rfl) (bnF hM) ?_)
  refine R.go 5 (R.call true (l05Set_c n xs k (by omega) (by omega)) (by kernel_rfl) rfl (by kernel_rfl) ?_)
  refine R.go 3 (R.els (!(inR k 0 ((shl64 1 n) - 1))) (by kernel_rfl) (bnF hin) ?_)
  refine R.go 5 (R.call true (l01ListM_c k hk61).frz (by kernel_rfl) rfl (by kernel_rfl) ?_)
  refine R.go 10 (R.loop ((fun | (t, out) => (⟨(frm 47 [(1, AI k), (2, .ptr 0 0), (4, .ptr 1 0), (6, LI (mem k)), (7, .ref 2), (8, AI (t : Int))]), [.box 36 [AI n, LI xs, LI vs], .box 36 [AI 0, .nil, .nil], rowA eI 2 1 out]⟩ : St) : Nat × (List Int) → St)) (fun | (t, out) => (t ≤ vs.length) ∧ (out = (vs.take t).map fun v => sqz (mem k) v (mem k).length)) (fun | (t, out) => vs.length - t) (0, []) [1, 2, 4, 6, 7, 8] none (by kernel_rfl) (by kernel_rfl) (by kernel_rfl) ⟨(by omega), (by rfl)⟩ ?_)
  rintro ⟨t, out⟩ ⟨h4_1, rfl⟩ R1 N2
  have hol : ((vs.take t).map fun v => sqz (mem k) v (mem k).length).length = t := by simp; omega
  refine R.go 9 (R.cond ((t : Int) < (vs.length : Int)) (by kernel_rfl) (fun c5 => ?_) (fun c5 => ?_))
  · refine R.go 9 (R.idx eI vs 0 t (t : Int) (by kernel_rfl) rfl eI_len (by omega) (by kernel_rfl) ?_)
    refine R.go 1 (R.call true (l05Squeeze_c (mem k) (vs.getD t 0) (by first | assumption | exact hjr0) (by first | omega | (simp <;> omega))) (by kernel_rfl) rfl (by kernel_rfl) ?_)
    refine R.go 1 (R.app eI ((vs.take t).map fun v => sqz (mem k) v (mem k).length) [sqz (mem k) (vs.getD t 0) (mem k).length] 2 2 1 8 (by kernel_rfl) eI_one (by decide) (by first | omega | (simp <;> omega)) (by kernel_rfl) ?_)
    refine R.go 5 (R.ar ((t : Int) + 1) (by kernel_rfl) (by omega) (by omega) (by kernel_rfl) ?_)
    exact R.go 2 (R.stop R1 (by kernel_rfl) (N2 (t + 1, ((vs.take t).map fun v => sqz (mem k) v (mem k).length) ++ [sqz (mem k) (vs.getD t 0) (mem k).length]) [1, 2, 4, 6, 7, 8] (some [0, 1, 2]) _ (by kernel_rfl) (by kernel_rfl) ⟨(by omega), (by exact map_take (f := fun v => sqz (mem k) v (mem k).length) (by omega))⟩ (by show (vs.length - (t + 1)) < (vs.length - t); omega)))
  · refine R.go 6 (R.call true (l05Part_c n xs k hP hk).frz (by kernel_rfl) rfl (by kernel_rfl) ?_)
    exact R.go 5 (R.retE (.tup [.agg [AI ((mem k).length), LI (prt xs (mem k)), ownA eI 2 1 ((vs.take t).map fun v => sqz (mem k) v (mem k).length)], AI 0]) (by kernel_rfl) (by kernel_rfl) (by first | (rw [show t = vs.length by omega, List.take_length]; rfl) | (exfalso; omega)))

theorem PMbad_impl (n : Int) (xs : List Int) (vs : List Int) (k : Int) (hz : ¬ pomC n xs vs k = 0) (l1 : xs.length ≤ 1000000) (l2 : vs.length ≤ 1000000) : CallA Try.prog 27 [.agg [AI n, LI xs, LI vs], AI k] (.tup [.agg [AI 0, .nil, .nil], AI (pomC n xs vs k)]) := by
  refine CallA.of Try.func27 rfl (by kernel_rfl) ?_
  refine R.go 11 (R.call true (isModel_c n xs vs (by first | omega | (simp <;> omega)) (by first | omega | (simp <;> omega))) (by kernel_rfl) rfl (by kernel_rfl) ?_)
  refine R.go 3 (R.condM (okMo n xs vs) (by kernel_rfl) (fun c1 => ?_) (fun c1 => ?_))
  · exact R.go 6 (R.retE (.tup [.agg [AI 0, .nil, .nil], AI 1]) (by kernel_rfl) (by kernel_rfl) (by first | (first | (rw [pom_1 (by assumption)]) | (rw [pom_2 (by assumption) (by first | assumption | exact (outR_inR hb.1 hb.2.1 (by assumption)))])) | (exfalso; omega)))
  · have hp1 := okFr_rel (okMo_fr (by assumption : okMo n xs vs = true)).1
    have hb : 0 ≤ n ∧ n ≤ 8 ∧ (xs.length : Int) = n := ⟨hp1.1, hp1.2.1, hp1.2.2.1⟩
    have hno2 : (!(outR n k)) = false := Bool.eq_false_iff.2 fun h => hz (by rw [pomC, if_pos (by assumption : okMo n xs vs = true), if_neg (by simpa using h)])
    have hno3 : outR n k = true := by simpa using hno2
    have hni : inR k 0 ((shl64 1 n) - 1) = false := by have h1 := hno3; rw [outR_inR (n := n) (k := k) hb.1 hb.2.1 rfl] at h1; simpa using h1
    refine R.go 6 (R.call true (isMask_c n k) (by kernel_rfl) rfl (by kernel_rfl) ?_)
    refine R.go 3 (R.thn (!(!(outR n k))) (by kernel_rfl) (bnT hno2) ?_)
    exact R.go 6 (R.retE (.tup [.agg [AI 0, .nil, .nil], AI 2]) (by kernel_rfl) (by kernel_rfl) (by first | (first | (rw [pom_1 (by assumption)]) | (rw [pom_2 (by assumption) (by first | assumption | exact (outR_inR hb.1 hb.2.1 (by assumption)))])) | (exfalso; omega)))

theorem PMbad_spec (n : Int) (xs : List Int) (vs : List Int) (k : Int) (hz : ¬ pomC n xs vs k = 0) (l1 : xs.length ≤ 1000000) (l2 : vs.length ≤ 1000000) : CallA Try.prog 28 [.agg [AI n, LI xs, LI vs], AI k] (.tup [.agg [AI 0, .nil, .nil], AI (pomC n xs vs k)]) := by
  refine CallA.of Try.func28 rfl (by kernel_rfl) ?_
  refine R.go 11 (R.call true (l06Is_c n xs vs (by first | omega | (simp <;> omega)) (by first | omega | (simp <;> omega))) (by kernel_rfl) rfl (by kernel_rfl) ?_)
  refine R.go 3 (R.condM (okMo n xs vs) (by kernel_rfl) (fun c1 => ?_) (fun c1 => ?_))
  · exact R.go 6 (R.retE (.tup [.agg [AI 0, .nil, .nil], AI 1]) (by kernel_rfl) (by kernel_rfl) (by first | (first | (rw [pom_1 (by assumption)]) | (rw [pom_2 (by assumption) (by first | assumption | exact (outR_inR hb.1 hb.2.1 (by assumption)))])) | (exfalso; omega)))
  · have hp1 := okFr_rel (okMo_fr (by assumption : okMo n xs vs = true)).1
    have hb : 0 ≤ n ∧ n ≤ 8 ∧ (xs.length : Int) = n := ⟨hp1.1, hp1.2.1, hp1.2.2.1⟩
    have hno2 : (!(outR n k)) = false := Bool.eq_false_iff.2 fun h => hz (by rw [pomC, if_pos (by assumption : okMo n xs vs = true), if_neg (by simpa using h)])
    have hno3 : outR n k = true := by simpa using hno2
    have hni : inR k 0 ((shl64 1 n) - 1) = false := by have h1 := hno3; rw [outR_inR (n := n) (k := k) hb.1 hb.2.1 rfl] at h1; simpa using h1
    refine R.go 5 (R.call true (l05Set_c n xs k (by omega) (by omega)) (by kernel_rfl) rfl (by kernel_rfl) ?_)
    refine R.go 3 (R.thn (!(inR k 0 ((shl64 1 n) - 1))) (by kernel_rfl) (bnT hni) ?_)
    exact R.go 6 (R.retE (.tup [.agg [AI 0, .nil, .nil], AI 2]) (by kernel_rfl) (by kernel_rfl) (by first | (first | (rw [pom_1 (by assumption)]) | (rw [pom_2 (by assumption) (by first | assumption | exact (outR_inR hb.1 hb.2.1 (by assumption)))])) | (exfalso; omega)))

end Go.Proofs.Ytejaikeemahobaa


/-! Generated sets, members, sums; marks of the law on parts. -/
namespace Go.Proofs.Ytejaikeemahobaa
open Go.RowKit Go.Abs

def sumXt (n : Int) (xs ys : List Int) (t : Nat) : List Int := xs ++ (ys.take t).map fun y => shl64 y n
theorem getD_app {α : Type} (a b : List α) (d : α) (j : Nat) : (a ++ b).getD j d = if j < a.length then a.getD j d else b.getD (j - a.length) d := by
  simp only [List.getD_eq_getElem?_getD, List.getElem?_append]
  split <;> rfl
section
variable {n m : Int} {xs ys vs us : List Int}
theorem sumX_lo {j : Nat} (h : j < xs.length) : (sumX n xs ys).getD j 0 = xs.getD j 0 := by rw [sumX, getD_app, if_pos h]
theorem sumX_hi {j : Nat} (h : j < ys.length) : (sumX n xs ys).getD (xs.length + j) 0 = shl64 (ys.getD j 0) n := by
  rw [sumX, getD_app, if_neg (by omega), show xs.length + j - xs.length = j by omega]
  rw [List.getD_eq_getElem?_getD, List.getElem?_map, List.getElem?_eq_getElem h, List.getD_eq_getElem?_getD, List.getElem?_eq_getElem h]
  rfl
theorem sumV_get {j : Nat} (h : j < vs.length) : (sumV n vs us).getD j 0 = bor (vs.getD j 0) (shl64 (us.getD j 0) n) := by
  unfold sumV sumT
  rw [List.getD_eq_getElem?_getD, List.getElem?_map, List.getElem?_range h]
  rfl
theorem shl_in {a : Int} (hm0 : 0 ≤ m) (h0 : 0 ≤ n) (h8 : n + m ≤ 8) (ha : InM m.toNat a) : InM (n + m).toNat (shl64 a n) ∧ ∀ i, tb (shl64 a n) i = (decide (n.toNat ≤ i) && tb a (i - n.toNat)) := by
  have := tb_shl (N := m.toNat) (k := n.toNat) (by omega) ha
  rw [nn_eq h0] at this
  rw [show (n + m).toNat = m.toNat + n.toNat by omega]
  exact this
theorem sum_fr (hR : okFr n xs = true) (hS : okFr m ys = true) (h8 : n + m ≤ 8) : okFr (n + m) (sumX n xs ys) = true := by
  obtain ⟨a1, a2, a3, a4⟩ := okFr_rel hR
  obtain ⟨b1, b2, b3, b4⟩ := okFr_rel hS
  refine okFr_mk ((inR_iff _ _ _).2 (by omega)) (by rw [sumX_len]; omega) ?_
  rw [List.any_eq_false]
  intro x hx
  have hin : InM (n + m).toNat x := by
    rcases List.mem_append.1 hx with h | h
    · obtain ⟨j, hj, rfl⟩ := List.getElem_of_mem h
      have := a4.2 j (by omega)
      rw [List.getD_eq_getElem?_getD, List.getElem?_eq_getElem hj] at this
      exact inM_mono (by omega) this
    · obtain ⟨y, hy, rfl⟩ := List.mem_map.1 h
      obtain ⟨j, hj, rfl⟩ := List.getElem_of_mem hy
      have := b4.2 j (by omega)
      rw [List.getD_eq_getElem?_getD, List.getElem?_eq_getElem hj] at this
      exact (shl_in b1 a1 h8 this).1
  have := (full_rng (n := (n + m).toNat) (by omega)).1 hin
  rw [nn_eq (by omega)] at this
  rw [this]
  simp
theorem sumV_in (hR : okFr n xs = true) (hS : okFr m ys = true) (h8 : n + m ≤ 8) (hv : vs.length = 6) (hV : ∀ j : Nat, j < 6 → InM n.toNat (vs.getD j 0)) (hU : ∀ j : Nat, j < 6 → InM m.toNat (us.getD j 0)) : ∀ j : Nat, j < 6 → InM (n + m).toNat ((sumV n vs us).getD j 0) := by
  intro j hj
  obtain ⟨a1, _, _, _⟩ := okFr_rel hR
  obtain ⟨b1, _, _, _⟩ := okFr_rel hS
  rw [sumV_get (by omega)]
  exact inM_bor (by omega) (inM_mono (by omega) (hV j hj)) (shl_in b1 a1 h8 (hU j hj)).1
theorem sum_ok (hR : okMo n xs vs = true) (hS : okMo m ys us = true) (h8 : n + m ≤ 8) : okMo (n + m) (sumX n xs ys) (sumV n vs us) = true := by
  obtain ⟨r1, r2, r3⟩ := okMo_in hR
  obtain ⟨s1, s2, s3⟩ := okMo_in hS
  have hl : (sumV n vs us).length = 6 := by rw [sumV, sumT_len]; exact r2
  rw [okMo_3 (sum_fr r1 s1 h8) (by omega), Bool.not_eq_true', List.any_eq_false]
  intro x hx
  obtain ⟨j, hj, rfl⟩ := List.getElem_of_mem hx
  have := sumV_in r1 s1 h8 r2 r3 s3 j (by omega)
  rw [List.getD_eq_getElem?_getD, List.getElem?_eq_getElem hj] at this
  have h2 := (full_rng (n := (n + m).toNat) (by omega)).1 this
  have := okFr_rel r1
  have := okFr_rel s1
  rw [nn_eq (by omega)] at h2
  simp only [Option.getD_some] at h2
  rw [h2]
  simp
/-- Truth in a sum. -/
theorem sum_tr (hR : okFr n xs = true) (hS : okFr m ys = true) (h8 : n + m ≤ 8) (hv : vs.length = 6) (hV : ∀ j : Nat, j < 6 → InM n.toNat (vs.getD j 0)) (hU : ∀ j : Nat, j < 6 → InM m.toNat (us.getD j 0)) {a : List (Int × Int)} (ha : OKM 6 a) :
    (∀ w, w < n.toNat → tr (n + m) (sumX n xs ys) (sumV n vs us) a w = tr n xs vs a w) ∧ ∀ w, w < m.toNat → tr (n + m) (sumX n xs ys) (sumV n vs us) a (n.toNat + w) = tr m ys us a w := by
  obtain ⟨a1, a2, a3, a4⟩ := okFr_rel hR
  obtain ⟨b1, b2, b3, b4⟩ := okFr_rel hS
  have hF := sum_fr hR hS h8
  have hW := sumV_in hR hS h8 hv hV hU
  have hn : (n + m).toNat = n.toNat + m.toNat := by omega
  have bitV : ∀ j, j < 6 → ∀ w, tb ((sumV n vs us).getD j 0) w = (tb (vs.getD j 0) w || (decide (n.toNat ≤ w) && tb (us.getD j 0) (w - n.toNat))) := fun j hj w => by
    rw [sumV_get (by omega), tb_bor (n := (n + m).toNat) (by omega) (inM_mono (by omega) (hV j hj)) (shl_in b1 a1 h8 (hU j hj)).1, (shl_in b1 a1 h8 (hU j hj)).2]
  have eLo : ∀ w, w < n.toNat → (sumX n xs ys).getD w 0 = xs.getD w 0 := fun w hw => sumX_lo (by omega)
  have eHi : ∀ w, w < m.toNat → ∀ j, tb ((sumX n xs ys).getD (n.toNat + w) 0) j = (decide (n.toNat ≤ j) && tb (ys.getD w 0) (j - n.toNat)) := fun w hw j => by
    rw [show n.toNat + w = xs.length + w by omega, sumX_hi (by omega)]
    exact (shl_in b1 a1 h8 (b4.2 w (by omega))).2 j
  refine okm_ind (C := fun a => (∀ w, w < n.toNat → tr (n + m) (sumX n xs ys) (sumV n vs us) a w = tr n xs vs a w) ∧ ∀ w, w < m.toNat → tr (n + m) (sumX n xs ys) (sumV n vs us) a (n.toNat + w) = tr m ys us a w) ?_ ?_ ?_ ?_ ha
  · intro v hv0 hv6
    refine ⟨fun w hw => ?_, fun w hw => ?_⟩
    · rw [tr_var, tr_var, bitV _ (by omega), decide_eq_false (by omega), Bool.false_and, Bool.or_false]
    · rw [tr_var, tr_var, bitV _ (by omega), decide_eq_true (by omega), Bool.true_and, show n.toNat + w - n.toNat = w by omega]
      cases e : tb (vs.getD v.toNat 0) (n.toNat + w) with
      | false => rfl
      | true => exact absurd (tb_lt (hV _ (by omega)) e) (by omega)
  · intro s
    exact ⟨fun w _ => by rw [tr_bot, tr_bot], fun w _ => by rw [tr_bot, tr_bot]⟩
  · intro c s L R hc _ hL hRR iL iR
    rcases hc with rfl | rfl | rfl
    · exact ⟨fun w hw => by rw [tr_and hF hW hL hRR, tr_and hR hV hL hRR, iL.1 w hw, iR.1 w hw], fun w hw => by rw [tr_and hF hW hL hRR, tr_and hS hU hL hRR, iL.2 w hw, iR.2 w hw]⟩
    · exact ⟨fun w hw => by rw [tr_or hF hW hL hRR, tr_or hR hV hL hRR, iL.1 w hw, iR.1 w hw], fun w hw => by rw [tr_or hF hW hL hRR, tr_or hS hU hL hRR, iL.2 w hw, iR.2 w hw]⟩
    · exact ⟨fun w hw => by rw [tr_imp hF hW hL hRR (by omega), tr_imp hR hV hL hRR hw, iL.1 w hw, iR.1 w hw], fun w hw => by rw [tr_imp hF hW hL hRR (by omega), tr_imp hS hU hL hRR hw, iL.2 w hw, iR.2 w hw]⟩
  · intro c s L hc _ hL iL
    have up : ∀ w, w < m.toNat → ∀ j, tb (ys.getD w 0) j = true → tb ((sumX n xs ys).getD (n.toNat + w) 0) (n.toNat + j) = true ∧ j < m.toNat := fun w hw j hj => by
      rw [eHi w hw, decide_eq_true (by omega), Bool.true_and, show n.toNat + j - n.toNat = j by omega]
      exact ⟨hj, tb_lt (b4.2 w hw) hj⟩
    have down : ∀ w, w < m.toNat → ∀ j, tb ((sumX n xs ys).getD (n.toNat + w) 0) j = true → ∃ i, j = n.toNat + i ∧ tb (ys.getD w 0) i = true ∧ i < m.toNat := fun w hw j hj => by
      rw [eHi w hw, Bool.and_eq_true, decide_eq_true_iff] at hj
      exact ⟨j - n.toNat, by omega, hj.2, tb_lt (b4.2 w hw) hj.2⟩
    rcases hc with rfl | rfl
    · refine ⟨fun w hw => ?_, fun w hw => ?_⟩
      · rw [Bool.eq_iff_iff, tr_box hF hW hL (by omega), tr_box hR hV hL hw, eLo w hw]
        exact ⟨fun h j hj => by rw [← iL.1 j (tb_lt (a4.2 w hw) hj)]; exact h j hj, fun h j hj => by rw [iL.1 j (tb_lt (a4.2 w hw) hj)]; exact h j hj⟩
      · rw [Bool.eq_iff_iff, tr_box hF hW hL (by omega), tr_box hS hU hL hw]
        constructor
        · intro h j hj
          obtain ⟨u1, u2⟩ := up w hw j hj
          rw [← iL.2 j u2]
          exact h _ u1
        · intro h j hj
          obtain ⟨i, rfl, u1, u2⟩ := down w hw j hj
          rw [iL.2 i u2]
          exact h i u1
    · refine ⟨fun w hw => ?_, fun w hw => ?_⟩
      · rw [Bool.eq_iff_iff, tr_dia hF hW hL (by omega), tr_dia hR hV hL hw, eLo w hw]
        exact ⟨fun ⟨j, hj, h⟩ => ⟨j, hj, by rw [← iL.1 j (tb_lt (a4.2 w hw) hj)]; exact h⟩, fun ⟨j, hj, h⟩ => ⟨j, hj, by rw [iL.1 j (tb_lt (a4.2 w hw) hj)]; exact h⟩⟩
      · rw [Bool.eq_iff_iff, tr_dia hF hW hL (by omega), tr_dia hS hU hL hw]
        constructor
        · rintro ⟨j, hj, h⟩
          obtain ⟨i, rfl, u1, u2⟩ := down w hw j hj
          exact ⟨i, u1, by rw [← iL.2 i u2]; exact h⟩
        · rintro ⟨j, hj, h⟩
          obtain ⟨u1, u2⟩ := up w hw j hj
          exact ⟨_, u1, by rw [iL.2 j u2]; exact h⟩
theorem sum_tset (hR : okFr n xs = true) (hS : okFr m ys = true) (h8 : n + m ≤ 8) (hv : vs.length = 6) (hV : ∀ j : Nat, j < 6 → InM n.toNat (vs.getD j 0)) (hU : ∀ j : Nat, j < 6 → InM m.toNat (us.getD j 0)) {a : List (Int × Int)} (ha : OKM 6 a) :
    tset (n + m) (sumX n xs ys) (sumV n vs us) a = bor (tset n xs vs a) (shl64 (tset m ys us a) n) := by
  obtain ⟨a1, a2, a3, a4⟩ := okFr_rel hR
  obtain ⟨b1, b2, b3, b4⟩ := okFr_rel hS
  have hF := sum_fr hR hS h8
  have hW := sumV_in hR hS h8 hv hV hU
  have i1 := tset_in hF ha hW
  have i2 := tset_in hR ha hV
  have i3 := tset_in hS ha hU
  obtain ⟨s1, s2⟩ := shl_in b1 a1 h8 i3
  obtain ⟨t1, t2⟩ := sum_tr hR hS h8 hv hV hU ha
  refine tb_ext i1.1 (inM_bor (n := (n + m).toNat) (by omega) (inM_mono (by omega) i2) s1).1 fun w => ?_
  rw [tb_bor (n := (n + m).toNat) (by omega) (inM_mono (by omega) i2) s1, s2]
  by_cases hw : w < n.toNat
  · rw [decide_eq_false (by omega), Bool.false_and, Bool.or_false]
    exact t1 w hw
  · rw [decide_eq_true (by omega), Bool.true_and]
    have e2 : tb (tset n xs vs a) w = false := by
      cases e : tb (tset n xs vs a) w with
      | false => rfl
      | true => exact absurd (tb_lt i2 e) hw
    rw [e2, Bool.false_or]
    by_cases hm : w - n.toNat < m.toNat
    · have := t2 (w - n.toNat) hm
      rw [show n.toNat + (w - n.toNat) = w by omega] at this
      exact this
    · have e3 : tb (tset m ys us a) (w - n.toNat) = false := by
        cases e : tb (tset m ys us a) (w - n.toNat) with
        | false => rfl
        | true => exact absurd (tb_lt i3 e) hm
      rw [e3]
      cases e : tb (tset (n + m) (sumX n xs ys) (sumV n vs us) a) w with
      | false => rfl
      | true => exact absurd (tb_lt i1 e) (by omega)
end

theorem image_c (rs : List Int) (k : Int) (hk : InM 61 k) (hr : ∀ t : Nat, t < (mem k).length → ((mem k).getD t 0) < (rs.length : Int)) : CallA Try.prog 79 [LI rs, AI k] (AI (imT rs (mem k) (mem k).length)) := by
  have hml := mem_le k
  have hjr0 := fun (t : Nat) (h : t < (mem k).length) => mem_lt' (N := 61) (by omega) hk h
  refine CallA.of Try.func79 rfl (by kernel_rfl) ?_
  refine R.go 12 (R.call true (membersOf_c k hk).frz (by kernel_rfl) rfl (by kernel_rfl) ?_)
  refine R.go 4 (R.loop ((fun | (t, r) => (⟨(frm 23 [(0, LI rs), (5, AI r), (9, LI (mem k)), (10, AI ((mem k).length)), (11, AI (t : Int))]), []⟩ : St) : Nat × Int → St)) (fun | (t, r) => (t ≤ (mem k).length) ∧ (r = imT rs (mem k) t)) (fun | (t, r) => (mem k).length - t) (0, 0) [0, 5, 9, 10, 11] none (by kernel_rfl) (by kernel_rfl) (by kernel_rfl) ⟨(by omega), (by rfl)⟩ ?_)
  rintro ⟨t, r⟩ ⟨h4_1, rfl⟩ R1 N2
  have hjr := hjr0 t
  have hjw := hr t
  refine R.go 5 (R.cond ((t : Int) < ((mem k).length : Int)) (by kernel_rfl) (fun c5 => ?_) (fun c5 => ?_))
  · refine R.go 5 (R.idx eI (mem k) 0 t (t : Int) (by kernel_rfl) rfl eI_len (by omega) (by kernel_rfl) ?_)
    refine R.go 7 (R.idx eI rs 0 ((((mem k).getD t 0)).toNat) ((mem k).getD t 0) (by kernel_rfl) (by omega) eI_len (by omega) (by kernel_rfl) ?_)
    refine R.go 6 (R.ar ((t : Int) + 1) (by kernel_rfl) (by omega) (by omega) (by kernel_rfl) ?_)
    exact R.go 2 (R.stop R1 (by kernel_rfl) (N2 (t + 1, bor (imT rs (mem k) t) (rs.getD ((((mem k).getD t 0)).toNat) 0)) [0, 5, 9, 10, 11] none _ (by kernel_rfl) (by kernel_rfl) ⟨(by omega), (by rfl)⟩ (by show ((mem k).length - (t + 1)) < ((mem k).length - t); omega)))
  · exact R.go 6 (R.retE (AI (imT rs (mem k) t)) (by kernel_rfl) (by kernel_rfl) (by first | (rw [show t = (mem k).length by omega]) | (exfalso; omega)))

theorem wCode_c (n : Int) (xs : List Int) (k : Int) (hP : okFr n xs = true) (hO : outR n k = false) : CallA Try.prog 78 [.agg [AI n, LI xs], AI k] (AI 0) := by
  have hp1 := okFr_rel hP
  have hb : 0 ≤ n ∧ n ≤ 8 ∧ (xs.length : Int) = n := ⟨hp1.1, hp1.2.1, hp1.2.2.1⟩
  have hO2 : (!(outR n k)) = true := by rw [hO]; rfl
  have hkN : InM n.toNat k := inM_out hb.1 hb.2.1 hO
  have hk61 : InM 61 k := inM_mono (n' := 61) (by omega) hkN
  have hcl := clo_len xs
  have hri : ∀ t : Nat, t < (mem k).length → ((mem k).getD t 0) < ((clo xs).length : Int) := fun t ht => by have := mem_lt' (N := n.toNat) (by omega) hkN ht; omega
  refine CallA.of Try.func78 rfl (by kernel_rfl) ?_
  refine R.go 10 (R.call true (isFrame_c n xs (by first | omega | (simp <;> omega))) (by kernel_rfl) rfl (by kernel_rfl) ?_)
  refine R.go 3 (R.els (!(okFr n xs)) (by kernel_rfl) (bnF hP) ?_)
  refine R.go 5 (R.call true (isMask_c n k) (by kernel_rfl) rfl (by kernel_rfl) ?_)
  refine R.go 3 (R.els (!(!(outR n k))) (by kernel_rfl) (bnF hO2) ?_)
  exact R.go 6 (R.retE (AI 0) (by kernel_rfl) (by kernel_rfl) (by rfl))

theorem GW_impl (n : Int) (xs : List Int) (k : Int) (hP : okFr n xs = true) (hO : outR n k = false) : CallA Try.prog 31 [.agg [AI n, LI xs], AI k] (.tup [AI (gwI xs k), AI 0]) := by
  have hp1 := okFr_rel hP
  have hb : 0 ≤ n ∧ n ≤ 8 ∧ (xs.length : Int) = n := ⟨hp1.1, hp1.2.1, hp1.2.2.1⟩
  have hO2 : (!(outR n k)) = true := by rw [hO]; rfl
  have hkN : InM n.toNat k := inM_out hb.1 hb.2.1 hO
  have hk61 : InM 61 k := inM_mono (n' := 61) (by omega) hkN
  have hcl := clo_len xs
  have hri : ∀ t : Nat, t < (mem k).length → ((mem k).getD t 0) < ((clo xs).length : Int) := fun t ht => by have := mem_lt' (N := n.toNat) (by omega) hkN ht; omega
  refine CallA.of Try.func31 rfl (by kernel_rfl) ?_
  refine R.go 11 (R.call true (wCode_c n xs k hP hO) (by kernel_rfl) rfl (by kernel_rfl) ?_)
  refine R.go 12 (R.call true (reachable_c n xs (by first | omega | (simp <;> omega))).frz (by kernel_rfl) rfl (by kernel_rfl) ?_)
  refine R.go 1 (R.call true (image_c (clo xs) k hk61 hri) (by kernel_rfl) rfl (by kernel_rfl) ?_)
  exact R.go 3 (R.retE (.tup [AI (imT (clo xs) (mem k) (mem k).length), AI 0]) (by kernel_rfl) (by kernel_rfl) (by first | (rfl) | (exfalso; omega)))

theorem maskCode_c (n : Int) (k : Int) (h0 : 0 ≤ n) (h8 : n ≤ 8) (hO : outR n k = false) : CallA Try.prog 81 [AI n, AI k] (AI 0) := by
  have hO2 : (!(outR n k)) = true := by rw [hO]; rfl
  have hin : inR n 0 30 = true := (inR_iff _ _ _).2 (by omega)
  refine CallA.of Try.func81 rfl (by kernel_rfl) ?_
  refine R.go 9 (R.call true (inRange_c n 0 30) (by kernel_rfl) rfl (by kernel_rfl) ?_)
  refine R.go 3 (R.els (!(inR n 0 30)) (by kernel_rfl) (bnF hin) ?_)
  refine R.go 4 (R.call true (isMask_c n k) (by kernel_rfl) rfl (by kernel_rfl) ?_)
  refine R.go 3 (R.els (!(!(outR n k))) (by kernel_rfl) (bnF hO2) ?_)
  exact R.go 6 (R.retE (AI 0) (by kernel_rfl) (by kernel_rfl) (by rfl))

theorem MO_impl (n : Int) (k : Int) (h0 : 0 ≤ n) (h8 : n ≤ 8) (hO : outR n k = false) : CallA Try.prog 32 [AI n, AI k] (.tup [ownA eI 2 1 (mem k), AI 0]) := by
  have hkN : InM n.toNat k := inM_out h0 h8 hO
  have hk61 : InM 61 k := inM_mono (n' := 61) (by omega) hkN
  refine CallA.of Try.func32 rfl (by kernel_rfl) ?_
  refine R.go 10 (R.call true (maskCode_c n k h0 h8 hO) (by kernel_rfl) rfl (by kernel_rfl) ?_)
  refine R.go 12 (R.call true (membersOf_c k hk61) (by kernel_rfl) rfl (by kernel_rfl) ?_)
  exact R.go 3 (R.retE (.tup [ownA eI 2 1 (mem k), AI 0]) (by kernel_rfl) (by kernel_rfl) (by rfl))

theorem SFok (n : Int) (xs : List Int) (m : Int) (ys : List Int) (hP : okFr n xs = true) (hQ : okFr m ys = true) (h8 : n + m ≤ 8) : CallA Try.prog 83 [.agg [AI n, LI xs], .agg [AI m, LI ys]] (.tup [.agg [AI (n + m), LI (sumX n xs ys)], AI 0]) := by
  have hp1 := okFr_rel hP
  have hb : 0 ≤ n ∧ n ≤ 8 ∧ (xs.length : Int) = n := ⟨hp1.1, hp1.2.1, hp1.2.2.1⟩
  have hp2 := okFr_rel hQ
  have hb2 : 0 ≤ m ∧ m ≤ 8 ∧ (ys.length : Int) = m := ⟨hp2.1, hp2.2.1, hp2.2.2.1⟩
  have h8n : ¬ n + m > 8 := by omega
  refine CallA.of Try.func83 rfl (by kernel_rfl) ?_
  refine R.go 12 (R.call true (isFrame_c n xs (by first | omega | (simp <;> omega))) (by kernel_rfl) rfl (by kernel_rfl) ?_)
  refine R.go 2 (R.want (!(okFr n xs)) false (by kernel_rfl) (bnF hP) ?_)
  refine R.go 1 (R.want (!(okFr n xs)) false (by kernel_rfl) (bnF hP) ?_)
  refine R.call true (isFrame_c m ys (by first | omega | (simp <;> omega))) (by kernel_rfl) rfl (by kernel_rfl) ?_
  refine R.want (!(okFr n xs)) false (by kernel_rfl) (bnF hP) ?_
  refine R.go 1 (R.pick (!(okFr n xs)) false (by kernel_rfl) (bnF hP) (by kernel_rfl) ?_)
  refine R.go 2 (R.els (!(okFr m ys)) (by kernel_rfl) (bnF hQ) ?_)
  refine R.go 6 (R.ar (n + m) (by kernel_rfl) (by omega) (by omega) (by kernel_rfl) ?_)
  refine R.go 3 (R.cond ((n + m) > 8) (by kernel_rfl) (fun c1 => ?_) (fun c1 => ?_))
  · exact R.go 6 (R.retE (.tup [.agg [AI 0, .nil], AI 3]) (by kernel_rfl) (by kernel_rfl) (by first | (rw [hol, show t = ys.length by omega]; unfold sumXt; rw [List.take_length, ← hb.2.2, ← hb2.2.2]; simp [sumX]) | (exfalso; omega)))
  · refine R.go 6 (R.call true (clone_c xs (by first | omega | (simp <;> omega))) (by kernel_rfl) rfl (by kernel_rfl) ?_)
    refine R.go 11 (R.loop ((fun | (t, out) => (⟨(frm 47 [(2, .ptr 0 0), (4, .ptr 1 0), (6, .ref 2), (31, LI ys), (32, AI ys.length), (33, AI (t : Int))]), [.box 26 [AI n, LI xs], .box 26 [AI 0, .nil], rowA eI 2 1 out]⟩ : St) : Nat × (List Int) → St)) (fun | (t, out) => (t ≤ ys.length) ∧ (out = sumXt n xs ys t)) (fun | (t, out) => ys.length - t) (0, xs) [2, 4, 6, 31, 32, 33] (some [0, 2, 3]) (by kernel_rfl) (by kernel_rfl) (by kernel_rfl) ⟨(by omega), (by simp [sumXt])⟩ ?_)
    rintro ⟨t, out⟩ ⟨h5_1, rfl⟩ R2 N3
    have hol : (sumXt n xs ys t).length = xs.length + t := by unfold sumXt; simp; omega
    refine R.go 5 (R.cond ((t : Int) < (ys.length : Int)) (by kernel_rfl) (fun c6 => ?_) (fun c6 => ?_))
    · refine R.go 5 (R.idx eI ys 0 t (t : Int) (by kernel_rfl) rfl eI_len (by omega) (by kernel_rfl) ?_)
      refine R.go 8 (R.shl (ys.getD t 0) n (by kernel_rfl) (by omega) (by kernel_rfl) ?_)
      refine R.go 1 (R.app eI (sumXt n xs ys t) [shl64 (ys.getD t 0) n] 2 2 1 8 (by kernel_rfl) eI_one (by decide) (by first | omega | (simp <;> omega)) (by kernel_rfl) ?_)
      refine R.go 4 (R.ar ((t : Int) + 1) (by kernel_rfl) (by omega) (by omega) (by kernel_rfl) ?_)
      exact R.go 2 (R.stop R2 (by kernel_rfl) (N3 (t + 1, (sumXt n xs ys t) ++ [shl64 (ys.getD t 0) n]) [2, 4, 6, 31, 32, 33] (some [0, 1, 2]) _ (by kernel_rfl) (by kernel_rfl) ⟨(by omega), (by exact sumX_step (by omega))⟩ (by show (ys.length - (t + 1)) < (ys.length - t); omega)))
    · refine R.go 4 (R.frz 2 (by kernel_rfl) ?_)
      refine R.call true (frameOf_c (sumXt n xs ys t)) (by kernel_rfl) rfl (by kernel_rfl) ?_
      exact R.go 3 (R.retE (.tup [.agg [AI ((sumXt n xs ys t).length), LI (sumXt n xs ys t)], AI 0]) (by kernel_rfl) (by kernel_rfl) (by first | (rw [hol, show t = ys.length by omega]; unfold sumXt; rw [List.take_length, ← hb.2.2, ← hb2.2.2]; simp [sumX]) | (exfalso; omega)))

theorem SFbig (n : Int) (xs : List Int) (m : Int) (ys : List Int) (hP : okFr n xs = true) (hQ : okFr m ys = true) (h8 : ¬ n + m ≤ 8) : CallA Try.prog 83 [.agg [AI n, LI xs], .agg [AI m, LI ys]] (.tup [.agg [AI 0, .nil], AI 3]) := by
  have hp1 := okFr_rel hP
  have hb : 0 ≤ n ∧ n ≤ 8 ∧ (xs.length : Int) = n := ⟨hp1.1, hp1.2.1, hp1.2.2.1⟩
  have hp2 := okFr_rel hQ
  have hb2 : 0 ≤ m ∧ m ≤ 8 ∧ (ys.length : Int) = m := ⟨hp2.1, hp2.2.1, hp2.2.2.1⟩
  have h8n : n + m > 8 := by omega
  refine CallA.of Try.func83 rfl (by kernel_rfl) ?_
  refine R.go 12 (R.call true (isFrame_c n xs (by first | omega | (simp <;> omega))) (by kernel_rfl) rfl (by kernel_rfl) ?_)
  refine R.go 2 (R.want (!(okFr n xs)) false (by kernel_rfl) (bnF hP) ?_)
  refine R.go 1 (R.want (!(okFr n xs)) false (by kernel_rfl) (bnF hP) ?_)
  refine R.call true (isFrame_c m ys (by first | omega | (simp <;> omega))) (by kernel_rfl) rfl (by kernel_rfl) ?_
  refine R.want (!(okFr n xs)) false (by kernel_rfl) (bnF hP) ?_
  refine R.go 1 (R.pick (!(okFr n xs)) false (by kernel_rfl) (bnF hP) (by kernel_rfl) ?_)
  refine R.go 2 (R.els (!(okFr m ys)) (by kernel_rfl) (bnF hQ) ?_)
  refine R.go 6 (R.ar (n + m) (by kernel_rfl) (by omega) (by omega) (by kernel_rfl) ?_)
  refine R.go 3 (R.cond ((n + m) > 8) (by kernel_rfl) (fun c1 => ?_) (fun c1 => ?_))
  · exact R.go 6 (R.retE (.tup [.agg [AI 0, .nil], AI 3]) (by kernel_rfl) (by kernel_rfl) (by rfl))
  · exfalso; omega -- no annotation for loop 0; frame (frm 47 [(0, .agg [AI n, LI xs]), (1, .agg [AI m, LI ys]), (2, .ptr

theorem SMok (n : Int) (xs : List Int) (vs : List Int) (m : Int) (ys : List Int) (us : List Int) (hM : okMo n xs vs = true) (hN : okMo m ys us = true) (h8 : n + m ≤ 8) : CallA Try.prog 34 [.agg [AI n, LI xs, LI vs], .agg [AI m, LI ys, LI us]] (.tup [.agg [AI (n + m), LI (sumX n xs ys), ownA eI 2 1 (sumV n vs us)], AI 0]) := by
  have hP : okFr n xs = true := (okMo_fr hM).1
  have hQ : okFr m ys = true := (okMo_fr hN).1
  have hvl : vs.length = 6 := (okMo_fr hM).2
  have hul : us.length = 6 := (okMo_fr hN).2
  have hp1 := okFr_rel hP
  have hb : 0 ≤ n ∧ n ≤ 8 ∧ (xs.length : Int) = n := ⟨hp1.1, hp1.2.1, hp1.2.2.1⟩
  have hp2 := okFr_rel hQ
  have hb2 : 0 ≤ m ∧ m ≤ 8 ∧ (ys.length : Int) = m := ⟨hp2.1, hp2.2.1, hp2.2.2.1⟩
  refine CallA.of Try.func34 rfl (by kernel_rfl) ?_
  refine R.go 11 (R.call true (isModel_c n xs vs (by first | omega | (simp <;> omega)) (by first | omega | (simp <;> omega))) (by kernel_rfl) rfl (by kernel_rfl) ?_)
  refine R.go 2 (R.want (!(okMo n xs vs)) false (by kernel_rfl) (bnF hM) ?_)
  refine R.go 1 (R.want (!(okMo n xs vs)) false (by kernel_rfl) (bnF hM) ?_)
  refine R.call true (isModel_c m ys us (by first | omega | (simp <;> omega)) (by first | omega | (simp <;> omega))) (by kernel_rfl) rfl (by kernel_rfl) ?_
  refine R.want (!(okMo n xs vs)) false (by kernel_rfl) (bnF hM) ?_
  refine R.go 1 (R.pick (!(okMo n xs vs)) false (by kernel_rfl) (bnF hM) (by kernel_rfl) ?_)
  refine R.go 1 (R.els (!(okMo m ys us)) (by kernel_rfl) (bnF hN) ?_)
  refine R.go 7 (R.call true (SFok n xs m ys hP hQ h8) (by kernel_rfl) rfl (by kernel_rfl) ?_)
  refine R.go 31 (R.nilB 4 2 2 1 (by kernel_rfl) ?_)
  refine R.loop ((fun | (t, out) => (⟨(frm 60 [(2, .ptr 0 0), (3, .ptr 1 0), (4, .ptr 2 0), (8, .ptr 3 0), (35, LI vs), (36, AI vs.length), (37, AI (t : Int))]), [.box 36 [AI n, LI xs, LI vs], .box 36 [AI m, LI ys, LI us], .box 36 [AI 0, .nil, .nil], .box 36 [AI (n + m), LI (sumX n xs ys), .ref 4], rowA eI 2 1 out]⟩ : St) : Nat × (List Int) → St)) (fun | (t, out) => (t ≤ vs.length) ∧ (out = sumT n vs us t)) (fun | (t, out) => vs.length - t) (0, []) [2, 3, 4, 8, 35, 36, 37] (some [0, 1, 2, 4, 5]) (by kernel_rfl) (by kernel_rfl) (by kernel_rfl) ⟨(by omega), (by rfl)⟩ ?_
  rintro ⟨t, out⟩ ⟨h4_1, rfl⟩ R1 N2
  have hol : (sumT n vs us t).length = t := sumT_len n vs us t
  refine R.go 5 (R.cond ((t : Int) < (vs.length : Int)) (by kernel_rfl) (fun c5 => ?_) (fun c5 => ?_))
  · refine R.go 6 (R.idx eI vs 0 t (t : Int) (by kernel_rfl) rfl eI_len (by omega) (by kernel_rfl) ?_)
    refine R.go 11 (R.idx eI us 0 t (t : Int) (by kernel_rfl) rfl eI_len (by omega) (by kernel_rfl) ?_)
    refine R.go 4 (R.shl (us.getD t 0) n (by kernel_rfl) (by omega) (by kernel_rfl) ?_)
    refine R.go 2 (R.app eI (sumT n vs us t) [bor (vs.getD t 0) (shl64 (us.getD t 0) n)] 4 2 1 8 (by kernel_rfl) eI_one (by decide) (by first | omega | (simp <;> omega)) (by kernel_rfl) ?_)
    refine R.go 5 (R.ar ((t : Int) + 1) (by kernel_rfl) (by omega) (by omega) (by kernel_rfl) ?_)
    exact R.go 2 (R.stop R1 (by kernel_rfl) (N2 (t + 1, (sumT n vs us t) ++ [bor (vs.getD t 0) (shl64 (us.getD t 0) n)]) [2, 3, 4, 8, 35, 36, 37] (some [0, 1, 2, 3, 4]) _ (by kernel_rfl) (by kernel_rfl) ⟨(by omega), (by exact sumT_step n vs us t)⟩ (by show (vs.length - (t + 1)) < (vs.length - t); omega)))
  · exact R.go 7 (R.retE (.tup [.agg [AI (n + m), LI (sumX n xs ys), ownA eI 2 1 (sumT n vs us t)], AI 0]) (by kernel_rfl) (by kernel_rfl) (by first | (rw [show t = vs.length by omega]; rfl) | (exfalso; omega)))

theorem SMbig (n : Int) (xs : List Int) (vs : List Int) (m : Int) (ys : List Int) (us : List Int) (hM : okMo n xs vs = true) (hN : okMo m ys us = true) (h8 : ¬ n + m ≤ 8) : CallA Try.prog 34 [.agg [AI n, LI xs, LI vs], .agg [AI m, LI ys, LI us]] (.tup [.agg [AI 0, .nil, .nil], AI 3]) := by
  have hP : okFr n xs = true := (okMo_fr hM).1
  have hQ : okFr m ys = true := (okMo_fr hN).1
  have hvl : vs.length = 6 := (okMo_fr hM).2
  have hul : us.length = 6 := (okMo_fr hN).2
  have hp1 := okFr_rel hP
  have hb : 0 ≤ n ∧ n ≤ 8 ∧ (xs.length : Int) = n := ⟨hp1.1, hp1.2.1, hp1.2.2.1⟩
  have hp2 := okFr_rel hQ
  have hb2 : 0 ≤ m ∧ m ≤ 8 ∧ (ys.length : Int) = m := ⟨hp2.1, hp2.2.1, hp2.2.2.1⟩
  refine CallA.of Try.func34 rfl (by kernel_rfl) ?_
  refine R.go 11 (R.call true (isModel_c n xs vs (by first | omega | (simp <;> omega)) (by first | omega | (simp <;> omega))) (by kernel_rfl) rfl (by kernel_rfl) ?_)
  refine R.go 2 (R.want (!(okMo n xs vs)) false (by kernel_rfl) (bnF hM) ?_)
  refine R.go 1 (R.want (!(okMo n xs vs)) false (by kernel_rfl) (bnF hM) ?_)
  refine R.call true (isModel_c m ys us (by first | omega | (simp <;> omega)) (by first | omega | (simp <;> omega))) (by kernel_rfl) rfl (by kernel_rfl) ?_
  refine R.want (!(okMo n xs vs)) false (by kernel_rfl) (bnF hM) ?_
  refine R.go 1 (R.pick (!(okMo n xs vs)) false (by kernel_rfl) (bnF hM) (by kernel_rfl) ?_)
  refine R.go 1 (R.els (!(okMo m ys us)) (by kernel_rfl) (bnF hN) ?_)
  refine R.go 7 (R.call true (SFbig n xs m ys hP hQ (by omega)) (by kernel_rfl) rfl (by kernel_rfl) ?_)
  exact R.go 21 (R.retE (.tup [.agg [AI 0, .nil, .nil], AI 3]) (by kernel_rfl) (by kernel_rfl) (by rfl))

theorem bit9_c (k : Int) (i : Int) (h0 : 0 ≤ i) (h1 : i < 62) : CallA Try.prog 33 [AI k, AI i] (.bool (decide (band (shr64 k i) 1 = 1))) := by
  refine CallA.of Try.func33 rfl (by kernel_rfl) ?_
  refine R.go 9 ?_
  by_cases c1 : i ≥ 0
  · refine R.want (decide (i ≥ 0)) true (by kernel_rfl) (dT c1) ?_
    refine R.go 1 (R.want (decide (i ≥ 0)) true (by kernel_rfl) (dT c1) ?_)
    refine R.go 1 (R.pick (decide (i ≥ 0)) true (by kernel_rfl) (dT c1) (by kernel_rfl) ?_)
    refine R.go 1 (R.want (decide (i < 62)) true (by kernel_rfl) (dT h1) ?_)
    refine R.go 1 (R.want (decide (i < 62)) true (by kernel_rfl) (dT h1) ?_)
    refine R.go 1 (R.want (decide (i < 62)) true (by kernel_rfl) (dT h1) ?_)
    refine R.cv .u64 i (by kernel_rfl) (u64_id (by omega) (by omega)) (by kernel_rfl) ?_
    refine R.want (decide (i < 62)) true (by kernel_rfl) (dT h1) ?_
    refine R.shr k i (by kernel_rfl) (by omega) (by kernel_rfl) ?_
    refine R.want (decide (i < 62)) true (by kernel_rfl) (dT h1) ?_
    refine R.go 1 (R.want (decide (i < 62)) true (by kernel_rfl) (dT h1) ?_)
    refine R.go 1 (R.pick (decide (i < 62)) true (by kernel_rfl) (dT h1) (by kernel_rfl) ?_)
    exact R.go 2 (R.retE (.bool (decide ((band (shr64 k i) 1) = 1))) (by kernel_rfl) (by kernel_rfl) (by first | (rfl) | (exfalso; omega)))
  · refine R.skp (decide (i ≥ 0)) true (by kernel_rfl) (dF c1) (by kernel_rfl) ?_
    refine R.skp (decide (i ≥ 0)) true (by kernel_rfl) (dF c1) (by kernel_rfl) ?_
    refine R.pick (decide (i ≥ 0)) false (by kernel_rfl) (dF c1) (by kernel_rfl) ?_
    exact R.go 10 (R.retE (.bool false) (by kernel_rfl) (by kernel_rfl) (by first | (rfl) | (exfalso; omega)))

theorem likeInts_c (a : List Int) (hl : a.length ≤ 1000000000) : CallA Try.prog 30 [LI a, LI a] (.bool true) := by
  refine CallA.of Try.func30 rfl (by kernel_rfl) ?_
  refine R.go 13 (R.els (!decide ((a.length : Int) = (a.length : Int))) (by kernel_rfl) (nF rfl) ?_)
  refine R.go 7 (R.loop (fun (i : Nat) => (⟨(frm 26 [(0, LI a), (1, LI a), (5, AI (i : Int))]), []⟩ : St)) (fun (i : Nat) => i ≤ a.length) (fun (i : Nat) => a.length - i) 0 [0, 1, 5] none (by kernel_rfl) (by kernel_rfl) (by kernel_rfl) (by omega) ?_)
  rintro i h3_1 R1 N2
  refine R.go 8 (R.cond ((i : Int) < (a.length : Int)) (by kernel_rfl) (fun c4 => ?_) (fun c4 => ?_))
  · refine R.go 7 (R.idx eI a 0 i (i : Int) (by kernel_rfl) rfl eI_len (by omega) (by kernel_rfl) ?_)
    refine R.go 3 (R.idx eI a 0 i (i : Int) (by kernel_rfl) rfl eI_len (by omega) (by kernel_rfl) ?_)
    refine R.go 3 (R.els (!decide ((a.getD i 0) = (a.getD i 0))) (by kernel_rfl) (nF rfl) ?_)
    refine R.go 4 (R.ar ((i : Int) + 1) (by kernel_rfl) (by omega) (by omega) (by kernel_rfl) ?_)
    exact R.go 2 (R.stop R1 (by kernel_rfl) (N2 (i + 1) [0, 1, 5] none _ (by kernel_rfl) (by kernel_rfl) (by omega) (by show (a.length - (i + 1)) < (a.length - i); omega)))
  · exact R.go 5 (R.retE (.bool true) (by kernel_rfl) (by kernel_rfl) (by rfl))

theorem likeInts_nil : CallA Try.prog 30 [.nil, .nil] (.bool true) := by
  refine CallA.of Try.func30 rfl (by kernel_rfl) ?_
  refine R.go 21 (R.loop (fun (i : Nat) => (⟨(frm 26 [(0, .nil), (1, .nil), (5, AI (i : Int))]), []⟩ : St)) (fun (i : Nat) => i ≤ 0) (fun (i : Nat) => 0) 0 [0, 1, 5] none (by kernel_rfl) (by kernel_rfl) (by kernel_rfl) (by omega) ?_)
  rintro i h3_1 R1 N2
  refine R.go 8 (R.cond ((i : Int) < 0) (by kernel_rfl) (fun c4 => ?_) (fun c4 => ?_))
  · exfalso; omega -- indexAddr .nil AI (i : Int)
  · exact R.go 5 (R.retE (.bool true) (by kernel_rfl) (by kernel_rfl) (by rfl))

theorem sameFr9_c (n : Int) (xs : List Int) (hl : xs.length ≤ 1000000000) : CallA Try.prog 29 [.agg [AI n, LI xs], .agg [AI n, LI xs]] (.bool true) := by
  refine CallA.of Try.func29 rfl (by kernel_rfl) ?_
  refine R.go 14 (R.want (decide (n = n)) true (by kernel_rfl) (dT rfl) ?_)
  refine R.go 1 (R.want (decide (n = n)) true (by kernel_rfl) (dT rfl) ?_)
  refine R.go 1 (R.want (decide (n = n)) true (by kernel_rfl) (dT rfl) ?_)
  refine R.go 1 (R.want (decide (n = n)) true (by kernel_rfl) (dT rfl) ?_)
  refine R.go 1 (R.want (decide (n = n)) true (by kernel_rfl) (dT rfl) ?_)
  refine R.call true (likeInts_c xs hl) (by kernel_rfl) rfl (by kernel_rfl) ?_
  refine R.pick (decide (n = n)) true (by kernel_rfl) (dT rfl) (by kernel_rfl) ?_
  exact R.go 2 (R.retE (.bool true) (by kernel_rfl) (by kernel_rfl) (by rfl))

theorem sameFr9_nil (n : Int) : CallA Try.prog 29 [.agg [AI n, .nil], .agg [AI n, .nil]] (.bool true) := by
  refine CallA.of Try.func29 rfl (by kernel_rfl) ?_
  refine R.go 14 (R.want (decide (n = n)) true (by kernel_rfl) (dT rfl) ?_)
  refine R.go 1 (R.want (decide (n = n)) true (by kernel_rfl) (dT rfl) ?_)
  refine R.go 1 (R.want (decide (n = n)) true (by kernel_rfl) (dT rfl) ?_)
  refine R.go 1 (R.want (decide (n = n)) true (by kernel_rfl) (dT rfl) ?_)
  refine R.go 1 (R.want (decide (n = n)) true (by kernel_rfl) (dT rfl) ?_)
  refine R.call true (likeInts_nil) (by kernel_rfl) rfl (by kernel_rfl) ?_
  refine R.pick (decide (n = n)) true (by kernel_rfl) (dT rfl) (by kernel_rfl) ?_
  exact R.go 2 (R.retE (.bool true) (by kernel_rfl) (by kernel_rfl) (by rfl))

end Go.Proofs.Ytejaikeemahobaa


/-! Calls that need no object of the caller's, beside any objects. -/
namespace Go.Abs
open Go.RowKit

theorem zone_two {Z0 F F1 : Nat → Prop} {B C : Nat} (hBC : B ≤ C) (hF : ∀ b, F b → B ≤ b ∧ b < C) (hF1 : ∀ b, F1 b → C ≤ b) (b : Nat) : Zone Z0 (fun b => F b ∨ F1 b) B b ↔ Zone (Zone Z0 F B) F1 C b := by
  unfold Zone
  constructor
  · rintro (⟨h1, h2⟩ | ⟨h1, h2⟩)
    · exact .inl ⟨by omega, .inl ⟨h1, h2⟩⟩
    · rcases Nat.lt_or_ge b C with h | h
      · exact .inl ⟨h, .inr ⟨h1, fun hf => h2 (.inl hf)⟩⟩
      · exact .inr ⟨h, fun hf => h2 (.inr hf)⟩
  · rintro (⟨h1, h2 | h2⟩ | ⟨h1, h2⟩)
    · exact .inl h2
    · refine .inr ⟨h2.1, ?_⟩
      rintro (hf | hf)
      · exact h2.2 hf
      · have := hF1 b hf; omega
    · refine .inr ⟨by omega, ?_⟩
      rintro (hf | hf)
      · have := hF b hf; omega
      · exact h2 hf

section
variable {rd : Option Nat} {P : Program} {m : M} {Q : Exit → St → Prop}
theorem CallX.any {f : FuncId} {args : List AV} {Φ : AV → List AObj → Prop} (hp : List AObj) (hc : CallX P f args [] Φ) (hl : leafyL args = true) (hΦ : ∀ r h, Φ r h → h = []) : CallX P f args hp fun r h => h = hp ∧ Φ r [] := by
  obtain ⟨hen, hc⟩ := hc
  refine ⟨hen, ?_⟩
  intro Z0 F w0 w μ vs us fr hFb hH hvs hus hbel
  have hBC := hbel.size
  have zn : ∀ b, b < w.heap.size → (Zone (Zone Z0 F w0.heap.size) NoF w.heap.size b ↔ Zone Z0 F w0.heap.size b) := fun b hb => by
    unfold Zone NoF
    constructor
    · rintro (h | h)
      · exact h.2
      · omega
    · exact fun h => .inl ⟨hb, h⟩
  have hvs1 : RelL w (Zone (Zone Z0 F w0.heap.size) NoF w.heap.size) [] args vs := (RelL.leafy hl hvs).weak fun b hb h1 h2 => h1 ((zn b hb).1 h2)
  have h0 : HRel w (Zone (Zone Z0 F w0.heap.size) NoF w.heap.size) w.heap.size [] [] := ⟨rfl, fun i o u g h => by simp at h, fun i u h => by simp at h, fun i o u h => by simp at h, fun i j oi oj ui uj g _ h => by simp at h⟩
  refine (hc (Zone Z0 F w0.heap.size) NoF w w [] vs [] [] (fun b h => h.elim) h0 hvs1 RelL.nil (Below.refl _ _)).mono ?_
  rintro e w' ⟨v, μ', F1, res, hp', hΦ1, rfl, hF1, hH1, hres, _, hb1⟩
  have e1 := hΦ _ _ hΦ1
  subst e1
  have hm' : μ' = [] := List.eq_nil_of_length_eq_zero (by simpa using hH1.len)
  subst hm'
  have z2 := zone_two (Z0 := Z0) hBC hFb (fun b h => (hF1 b h).1)
  have hk : ∀ b, b < w.heap.size → w'.heap[b]? = w.heap[b]? := fun b hb => hb1.block b hb
  have hold : ∀ b, b < w'.heap.size → ¬ Zone Z0 F w0.heap.size b → ¬ Zone Z0 (fun b => F b ∨ F1 b) w0.heap.size b := by
    intro b _ h1 h2
    rcases Nat.lt_or_ge b w.heap.size with h | h
    · rcases (z2 b).1 h2 with h3 | h3
      · exact h1 h3.2
      · omega
    · exact h1 (.inr ⟨by omega, fun hf => by have := hFb b hf; omega⟩)
  refine ⟨v, μ, fun b => F b ∨ F1 b, res, hp, ⟨rfl, hΦ1⟩, rfl, ?_, ?_, ?_, ?_, hbel.trans (hb1.mono hBC)⟩
  · rintro b (h | h)
    · have := hFb b h; have := hb1.size; omega
    · have := hF1 b h; omega
  · refine ⟨hH.len, fun i o u g h1 ha h2 hg => ?_, hH.one, fun i o u h1 h2 => ?_, hH.sep⟩
    · have hz := hH.zone i o u g h1 ha h2 hg
      have hlt := ((hH.obj i o u h1 h2).blk_ge ha hg).2
      exact (z2 g).2 (.inl ⟨hlt, hz⟩)
    · have h3 := hH.obj i o u h1 h2
      cases ha : o.alive with
      | true => exact (h3.keep (w' := w') (fun b hb _ => hk b hb) (fun _ _ h => h) (fun g hg => hk g (h3.blk_ge ha hg).2)).weak hold
      | false => exact (h3.keep_dead (w' := w') (B' := w0.heap.size) (u' := u) (fun b hb _ => hk b hb) (fun _ _ h => h) ha).weak hold
  · exact Rel.lift (hres.weak fun b _ h1 h2 => h1 ((z2 b).1 h2))
  · exact (hus.keep (w' := w') (fun b hb _ => hk b hb) (fun _ _ h => h)).weak hold

theorem R.callX0 {f : FuncId} {avs : List AV} {Φ : AV → List AObj → Prop} (hc : CallX P f avs [] Φ) (hl : leafyL avs = true) (h0 : ∀ r h, Φ r h → h = []) (h : csAt m = some (f, avs)) (ht : opsHd m = true) (h' : ∀ res, Φ res [] → Runs rd P (putM m none res m.st.hp) Q) : Runs rd P m Q :=
  R.callX (hc.any m.st.hp hl h0) h rfl ht fun res hp' ⟨e, hΦ⟩ => by subst e; exact h' res hΦ
end
end Go.Abs


/-! The law FnTruthInParts. -/
namespace Go.Proofs.Ytejaikeemahobaa
open Go.RowKit Go.Abs

section
variable {n : Int} {xs vs : List Int} {k : Int} {a : List (Int × Int)}
theorem pl_1 (hz : pomC n xs vs k = 0) : okFr n xs = true ∧ outR n k = false ∧ InM n.toNat (gwI xs k) ∧ pomC n xs vs (gwI xs k) = 0 ∧ outR n (gwI xs k) = false ∧ (0 ≤ n ∧ n ≤ 8) ∧ (mem (gwI xs k)).length ≤ 8 ∧ vs.length = 6 := by
  obtain ⟨h1, h2, h3⟩ := pom_ok hz
  obtain ⟨r1, r2, r3⟩ := okMo_in h1
  have hr := okFr_rel r1
  have hg := (gw_ok r1 h3).1
  have hp := pom_mk h1 hg
  have := mem_lenN (N := n.toNat) (by omega) hg
  exact ⟨r1, h2, hg, hp, (pom_ok hp).2.1, ⟨hr.1, hr.2.1⟩, by omega, r2⟩
theorem pl_2 (hz : pomC n xs vs k = 0) (hm : mcode n xs vs a = 0) : mcode ((mem (gwI xs k)).length : Int) (prt xs (mem (gwI xs k))) (prV vs (gwI xs k)) a = 0 :=
  mcode_good (part_ok (pom_ok hz).1 (pl_1 hz).2.2.1) (mcode_ok hm).2
theorem bit_iff {N : Nat} {m : Int} (hN : N ≤ 61) (h : InM N m) {i : Nat} (hi : i ≤ 61) : decide (band (shr64 m (i : Int)) 1 = 1) = tb m i := by
  rw [Bool.eq_iff_iff, decide_eq_true_iff]
  exact has_tb hN h hi
theorem pl_3 (hz : pomC n xs vs k = 0) (hm : mcode n xs vs a = 0) {i : Nat} (hi : i < (mem (gwI xs k)).length) :
    ((decide (band (shr64 (tval ((mem (gwI xs k)).length : Int) (prt xs (mem (gwI xs k))) (prV vs (gwI xs k)) a) (i : Int)) 1 = 1)) == (decide (band (shr64 (tval n xs vs a) ((mem (gwI xs k)).getD i 0)) 1 = 1))) = true := by
  obtain ⟨h1, h2, h3⟩ := pom_ok hz
  obtain ⟨r1, r2, r3⟩ := okMo_in h1
  have hr := okFr_rel r1
  obtain ⟨g1, g2⟩ := gw_ok r1 h3
  have hok := (isF_okm (mcode_ok hm).2).1
  obtain ⟨e1, e2, e3⟩ := mem_in (N := n.toNat) (by omega) g1 hi
  have hp := pl_2 hz hm
  have hml := mem_lenN (N := n.toNat) (by omega) g1
  rw [beq_iff_eq, e1]
  unfold tval
  rw [if_pos hm, if_pos hp]
  rw [bit_iff (N := ((mem (gwI xs k)).length : Int).toNat) (by omega) (tset_in (prt_fr r1 g1) hok (prV_in r1 r3 r2 g1)) (by omega), bit_iff (N := n.toNat) (by omega) (tset_in r1 hok r3) (by omega)]
  exact part_tr r1 r3 r2 g1 g2 hok i hi
theorem pl_4 (hz : pomC n xs vs k = 0) (hm : mcode n xs vs a = 0) (h8 : ((mem (gwI xs k)).length : Int) + n ≤ 8) :
    mcode (((mem (gwI xs k)).length : Int) + n) (sumX ((mem (gwI xs k)).length : Int) (prt xs (mem (gwI xs k))) xs) (sumV ((mem (gwI xs k)).length : Int) (prV vs (gwI xs k)) vs) a = 0 ∧
    tval (((mem (gwI xs k)).length : Int) + n) (sumX ((mem (gwI xs k)).length : Int) (prt xs (mem (gwI xs k))) xs) (sumV ((mem (gwI xs k)).length : Int) (prV vs (gwI xs k)) vs) a = bor (tval ((mem (gwI xs k)).length : Int) (prt xs (mem (gwI xs k))) (prV vs (gwI xs k)) a) (shl64 (tval n xs vs a) ((mem (gwI xs k)).length : Int)) := by
  obtain ⟨h1, h2, h3⟩ := pom_ok hz
  obtain ⟨r1, r2, r3⟩ := okMo_in h1
  obtain ⟨g1, g2⟩ := gw_ok r1 h3
  have hok := (isF_okm (mcode_ok hm).2).1
  have hp := pl_2 hz hm
  have hpo := part_ok h1 g1
  have hs := sum_ok hpo h1 h8
  have hms := mcode_good hs (mcode_ok hm).2
  refine ⟨hms, ?_⟩
  unfold tval
  rw [if_pos hms, if_pos hp, if_pos hm]
  exact sum_tset (prt_fr r1 g1) r1 h8 (okMo_in hpo).2.1 (okMo_in hpo).2.2 r3 hok
end

theorem big_c (c : List Int) : CallA Try.prog 8 [LB c] (.bool (decide ((c.length : Int) > 4096))) := by
  refine CallA.of Try.func8 rfl (by kernel_rfl) ?_
  exact R.go 11 (R.retE (.bool (decide ((c.length : Int) > 4096))) (by kernel_rfl) (by kernel_rfl) (by rfl))

theorem lawTP_c (c : List Int) (hcb : ∀ q : Nat, q < c.length → 0 ≤ c.getD q 0 ∧ c.getD q 0 ≤ 255) : CallA Try.prog 6 [LB c] (.bool true) := by
  refine CallA.of Try.func6 rfl (by kernel_rfl) ?_
  refine R.go 8 (R.call true (big_c c) (by kernel_rfl) rfl (by kernel_rfl) ?_)
  refine R.go 1 (R.cond ((c.length : Int) > 4096) (by kernel_rfl) (fun c1 => ?_) (fun c1 => ?_))
  · exact R.go 4 (R.retE (.bool true) (by kernel_rfl) (by kernel_rfl) (by rfl))
  · have hc : BY c := ⟨by omega, hcb⟩
    refine R.go 4 (R.callX (drPart_c c hc) (by kernel_rfl) (by kernel_rfl) (by kernel_rfl) ?_)
    rintro _ _ ⟨n_2, xs_3, vs_4, k_5, f6, f7, rfl, rfl⟩
    refine R.go 9 ?_
    by_cases c8 : pomC n_2 xs_3 vs_4 k_5 = 0
    · refine R.go 2 (R.call true (PMok_impl n_2 xs_3 vs_4 k_5 c8 (by first | omega | (simp <;> omega)) (by first | omega | (simp <;> omega))).frz (by kernel_rfl) rfl (by kernel_rfl) ?_)
      refine R.go 11 (R.call true (PMok_spec n_2 xs_3 vs_4 k_5 c8 (by first | omega | (simp <;> omega)) (by first | omega | (simp <;> omega))).frz (by kernel_rfl) rfl (by kernel_rfl) ?_)
      have hlp : (prt xs_3 (mem k_5)).length ≤ 62 := by rw [prt_len]; exact mem_le _
      have hlv : (prV vs_4 k_5).length ≤ 6 := by unfold prV; rw [List.length_map]; assumption
      refine R.go 18 (R.call true (sameFr9_c ((mem k_5).length) (prt xs_3 (mem k_5)) (by first | omega | (simp <;> omega))) (by kernel_rfl) rfl (by kernel_rfl) ?_)
      refine R.go 7 (R.call true (likeInts_c (prV vs_4 k_5) (by first | omega | (simp <;> omega))) (by kernel_rfl) rfl (by kernel_rfl) ?_)
      refine R.go 16 (R.callX0 (drTruth_c c hc) (by kernel_rfl) (by rintro _ _ ⟨_, _, _, _, _, _, _, rfl, rfl⟩; rfl) (by kernel_rfl) (by kernel_rfl) ?_)
      rintro _ ⟨n_9, xs_10, vs_11, a_12, f13, f14, f15, rfl, _⟩
      refine R.go 11 (R.call true (TS_impl n_2 xs_3 vs_4 a_12 (by first | omega | (simp <;> omega)) (by first | omega | (simp <;> omega)) (by first | omega | (simp <;> omega))) (by kernel_rfl) rfl (by kernel_rfl) ?_)
      have hz : pomC n_2 xs_3 vs_4 k_5 = 0 := by assumption
      have h1 := pl_1 hz
      have hP : okFr n_2 xs_3 = true := h1.1
      have hO : outR n_2 k_5 = false := h1.2.1
      have hz2 : pomC n_2 xs_3 vs_4 (gwI xs_3 k_5) = 0 := h1.2.2.2.1
      have hO2 : outR n_2 (gwI xs_3 k_5) = false := h1.2.2.2.2.1
      have hb0 : 0 ≤ n_2 ∧ n_2 ≤ 8 := h1.2.2.2.2.2.1
      have hml : (mem (gwI xs_3 k_5)).length ≤ 8 := h1.2.2.2.2.2.2.1
      have hvl : (vs_4).length = 6 := h1.2.2.2.2.2.2.2
      have hpl := prt_len xs_3 (mem (gwI xs_3 k_5))
      have hvl2 : (prV vs_4 (gwI xs_3 k_5)).length = 6 := by unfold prV; rw [List.length_map]; exact hvl
      refine R.go 11 (R.call true (GW_impl n_2 xs_3 k_5 hP hO) (by kernel_rfl) rfl (by kernel_rfl) ?_)
      refine R.go 12 ?_
      by_cases c16 : (mcode n_2 xs_3 vs_4 a_12) = 0
      · refine R.want (!decide ((mcode n_2 xs_3 vs_4 a_12) = 0)) false (by kernel_rfl) (nF c16) ?_
        refine R.go 1 (R.want (!decide ((mcode n_2 xs_3 vs_4 a_12) = 0)) false (by kernel_rfl) (nF c16) ?_)
        refine R.go 1 (R.pick (!decide ((mcode n_2 xs_3 vs_4 a_12) = 0)) false (by kernel_rfl) (nF c16) (by kernel_rfl) ?_)
        have hm : mcode n_2 xs_3 vs_4 a_12 = 0 := by first | assumption | omega
        have hm2 := pl_2 hz hm
        have hMo : okMo n_2 xs_3 vs_4 = true := (pom_ok hz).1
        have hMp : okMo ((mem (gwI xs_3 k_5)).length : Int) (prt xs_3 (mem (gwI xs_3 k_5))) (prV vs_4 (gwI xs_3 k_5)) = true := (mcode_ok hm2).1
        refine R.go 7 (R.call true (PMok_impl n_2 xs_3 vs_4 (gwI xs_3 k_5) hz2 (by first | omega | (simp <;> omega)) (by first | omega | (simp <;> omega))).frz (by kernel_rfl) rfl (by kernel_rfl) ?_)
        refine R.go 11 (R.call true (TS_impl ((mem (gwI xs_3 k_5)).length) (prt xs_3 (mem (gwI xs_3 k_5))) (prV vs_4 (gwI xs_3 k_5)) a_12 (by first | omega | (simp <;> omega)) (by first | omega | (simp <;> omega)) (by first | omega | (simp <;> omega))) (by kernel_rfl) rfl (by kernel_rfl) ?_)
        refine R.go 12 (R.call true (MO_impl n_2 (gwI xs_3 k_5) (by omega) (by omega) hO2).frz (by kernel_rfl) rfl (by kernel_rfl) ?_)
        refine R.go 11 (R.ar (0 + (mcode ((mem (gwI xs_3 k_5)).length) (prt xs_3 (mem (gwI xs_3 k_5))) (prV vs_4 (gwI xs_3 k_5)) a_12)) (by kernel_rfl) (by omega) (by omega) (by kernel_rfl) ?_)
        refine R.go 1 (R.ar ((0 + (mcode ((mem (gwI xs_3 k_5)).length) (prt xs_3 (mem (gwI xs_3 k_5))) (prV vs_4 (gwI xs_3 k_5)) a_12)) + 0) (by kernel_rfl) (by omega) (by omega) (by kernel_rfl) ?_)
        refine R.go 2 (R.condN (((0 + (mcode ((mem (gwI xs_3 k_5)).length) (prt xs_3 (mem (gwI xs_3 k_5))) (prV vs_4 (gwI xs_3 k_5)) a_12)) + 0) = 0) (by kernel_rfl) (fun c17 => ?_) (fun c17 => ?_))
        · exact R.go 4 (R.retE (.bool false) (by kernel_rfl) (by kernel_rfl) (by first | (first | rfl | exact congrArg AV.bool (decide_eq_true h4.2)) | (exfalso; omega)))
        · refine R.go 7 (R.loop (fun (i : Nat) => (⟨(frm 163 [(3, .ptr 0 0), (10, LN a_12), (11, AI (tval n_2 xs_3 vs_4 a_12)), (15, .ptr 1 0), (17, AI (tval ((mem (gwI xs_3 k_5)).length) (prt xs_3 (mem (gwI xs_3 k_5))) (prV vs_4 (gwI xs_3 k_5)) a_12)), (19, LI (mem (gwI xs_3 k_5))), (21, AI (i : Int))]), [.box 36 [AI n_2, LI xs_3, LI vs_4], .box 36 [AI ((mem (gwI xs_3 k_5)).length), LI (prt xs_3 (mem (gwI xs_3 k_5))), LI (prV vs_4 (gwI xs_3 k_5))]]⟩ : St)) (fun (i : Nat) => i ≤ ((mem (gwI xs_3 k_5))).length) (fun (i : Nat) => ((mem (gwI xs_3 k_5))).length - i) 0 [3, 10, 11, 15, 17, 19, 21] (some [0, 4]) (by kernel_rfl) (by kernel_rfl) (by kernel_rfl) (by omega) ?_)
          rintro i h20_1 R18 N19
          refine R.go 8 (R.cond ((i : Int) < ((mem (gwI xs_3 k_5)).length : Int)) (by kernel_rfl) (fun c21 => ?_) (fun c21 => ?_))
          · have hmj := mem_in (N := (n_2).toNat) (by omega) h1.2.2.1 (k := i) (by omega)
            have hmj0 : 0 ≤ (mem (gwI xs_3 k_5)).getD i 0 ∧ (mem (gwI xs_3 k_5)).getD i 0 < 62 := by omega
            have hbit : ((decide (band (shr64 (tval ((mem (gwI xs_3 k_5)).length) (prt xs_3 (mem (gwI xs_3 k_5))) (prV vs_4 (gwI xs_3 k_5)) a_12) (i : Int)) 1 = 1)) == (decide (band (shr64 (tval n_2 xs_3 vs_4 a_12) ((mem (gwI xs_3 k_5)).getD i 0)) 1 = 1))) = true := pl_3 hz hm (by omega)
            refine R.go 7 (R.call true (bit9_c (tval ((mem (gwI xs_3 k_5)).length) (prt xs_3 (mem (gwI xs_3 k_5))) (prV vs_4 (gwI xs_3 k_5)) a_12) (i : Int) (by omega) (by omega)) (by kernel_rfl) rfl (by kernel_rfl) ?_)
            refine R.go 3 (R.idx eI (mem (gwI xs_3 k_5)) 0 i (i : Int) (by kernel_rfl) rfl eI_len (by omega) (by kernel_rfl) ?_)
            refine R.go 1 (R.call true (bit9_c (tval n_2 xs_3 vs_4 a_12) ((mem (gwI xs_3 k_5)).getD i 0) (by omega) (by omega)) (by kernel_rfl) rfl (by kernel_rfl) ?_)
            refine R.go 2 (R.els (!((decide (band (shr64 (tval ((mem (gwI xs_3 k_5)).length) (prt xs_3 (mem (gwI xs_3 k_5))) (prV vs_4 (gwI xs_3 k_5)) a_12) (i : Int)) 1 = 1)) == (decide (band (shr64 (tval n_2 xs_3 vs_4 a_12) ((mem (gwI xs_3 k_5)).getD i 0)) 1 = 1)))) (by kernel_rfl) (bnF hbit) ?_)
            refine R.go 4 (R.ar ((i : Int) + 1) (by kernel_rfl) (by omega) (by omega) (by kernel_rfl) ?_)
            exact R.go 2 (R.stop R18 (by kernel_rfl) (N19 (i + 1) [3, 10, 11, 15, 17, 19, 21] none _ (by kernel_rfl) (by kernel_rfl) (by omega) (by show (((mem (gwI xs_3 k_5))).length - (i + 1)) < (((mem (gwI xs_3 k_5))).length - i); omega)))
          · refine R.go 3 ?_
            by_cases c22 : ((mem (gwI xs_3 k_5)).length) + n_2 ≤ 8
            · refine R.go 2 (R.call true (SMok ((mem (gwI xs_3 k_5)).length) (prt xs_3 (mem (gwI xs_3 k_5))) (prV vs_4 (gwI xs_3 k_5)) n_2 xs_3 vs_4 (by assumption) hMo c22).frz (by kernel_rfl) rfl (by kernel_rfl) ?_)
              have h4 := pl_4 hz hm (by assumption)
              have hms := h4.1
              have hsl : ((sumX ((mem (gwI xs_3 k_5)).length) (prt xs_3 (mem (gwI xs_3 k_5))) xs_3)).length ≤ 1048576 := by rw [sumX_len]; omega
              have hsl2 : ((sumV ((mem (gwI xs_3 k_5)).length) (prV vs_4 (gwI xs_3 k_5)) vs_4)).length ≤ 1048576 := by rw [sumV, sumT_len]; omega
              refine R.go 19 (R.call true (TS_impl (((mem (gwI xs_3 k_5)).length) + n_2) (sumX ((mem (gwI xs_3 k_5)).length) (prt xs_3 (mem (gwI xs_3 k_5))) xs_3) (sumV ((mem (gwI xs_3 k_5)).length) (prV vs_4 (gwI xs_3 k_5)) vs_4) a_12 (by first | omega | (simp <;> omega)) (by first | omega | (simp <;> omega)) (by first | omega | (simp <;> omega))) (by kernel_rfl) rfl (by kernel_rfl) ?_)
              refine R.go 11 ?_
              by_cases c23 : (mcode (((mem (gwI xs_3 k_5)).length) + n_2) (sumX ((mem (gwI xs_3 k_5)).length) (prt xs_3 (mem (gwI xs_3 k_5))) xs_3) (sumV ((mem (gwI xs_3 k_5)).length) (prV vs_4 (gwI xs_3 k_5)) vs_4) a_12) = 0
              · refine R.want (decide ((mcode (((mem (gwI xs_3 k_5)).length) + n_2) (sumX ((mem (gwI xs_3 k_5)).length) (prt xs_3 (mem (gwI xs_3 k_5))) xs_3) (sumV ((mem (gwI xs_3 k_5)).length) (prV vs_4 (gwI xs_3 k_5)) vs_4) a_12) = 0)) true (by kernel_rfl) (dT c23) ?_
                refine R.go 1 (R.want (decide ((mcode (((mem (gwI xs_3 k_5)).length) + n_2) (sumX ((mem (gwI xs_3 k_5)).length) (prt xs_3 (mem (gwI xs_3 k_5))) xs_3) (sumV ((mem (gwI xs_3 k_5)).length) (prV vs_4 (gwI xs_3 k_5)) vs_4) a_12) = 0)) true (by kernel_rfl) (dT c23) ?_)
                refine R.go 1 (R.want (decide ((mcode (((mem (gwI xs_3 k_5)).length) + n_2) (sumX ((mem (gwI xs_3 k_5)).length) (prt xs_3 (mem (gwI xs_3 k_5))) xs_3) (sumV ((mem (gwI xs_3 k_5)).length) (prV vs_4 (gwI xs_3 k_5)) vs_4) a_12) = 0)) true (by kernel_rfl) (dT c23) ?_)
                refine R.go 1 (R.want (decide ((mcode (((mem (gwI xs_3 k_5)).length) + n_2) (sumX ((mem (gwI xs_3 k_5)).length) (prt xs_3 (mem (gwI xs_3 k_5))) xs_3) (sumV ((mem (gwI xs_3 k_5)).length) (prV vs_4 (gwI xs_3 k_5)) vs_4) a_12) = 0)) true (by kernel_rfl) (dT c23) ?_)
                refine R.go 1 (R.want (decide ((mcode (((mem (gwI xs_3 k_5)).length) + n_2) (sumX ((mem (gwI xs_3 k_5)).length) (prt xs_3 (mem (gwI xs_3 k_5))) xs_3) (sumV ((mem (gwI xs_3 k_5)).length) (prV vs_4 (gwI xs_3 k_5)) vs_4) a_12) = 0)) true (by kernel_rfl) (dT c23) ?_)
                refine R.go 1 (R.want (decide ((mcode (((mem (gwI xs_3 k_5)).length) + n_2) (sumX ((mem (gwI xs_3 k_5)).length) (prt xs_3 (mem (gwI xs_3 k_5))) xs_3) (sumV ((mem (gwI xs_3 k_5)).length) (prV vs_4 (gwI xs_3 k_5)) vs_4) a_12) = 0)) true (by kernel_rfl) (dT c23) ?_)
                refine R.cv .u64 ((mem (gwI xs_3 k_5)).length : Int) (by kernel_rfl) (u64_id (by omega) (by omega)) (by kernel_rfl) ?_
                refine R.want (decide ((mcode (((mem (gwI xs_3 k_5)).length) + n_2) (sumX ((mem (gwI xs_3 k_5)).length) (prt xs_3 (mem (gwI xs_3 k_5))) xs_3) (sumV ((mem (gwI xs_3 k_5)).length) (prV vs_4 (gwI xs_3 k_5)) vs_4) a_12) = 0)) true (by kernel_rfl) (dT c23) ?_
                refine R.shl (tval n_2 xs_3 vs_4 a_12) ((mem (gwI xs_3 k_5)).length : Int) (by kernel_rfl) (by omega) (by kernel_rfl) ?_
                refine R.want (decide ((mcode (((mem (gwI xs_3 k_5)).length) + n_2) (sumX ((mem (gwI xs_3 k_5)).length) (prt xs_3 (mem (gwI xs_3 k_5))) xs_3) (sumV ((mem (gwI xs_3 k_5)).length) (prV vs_4 (gwI xs_3 k_5)) vs_4) a_12) = 0)) true (by kernel_rfl) (dT c23) ?_
                refine R.go 1 (R.want (decide ((mcode (((mem (gwI xs_3 k_5)).length) + n_2) (sumX ((mem (gwI xs_3 k_5)).length) (prt xs_3 (mem (gwI xs_3 k_5))) xs_3) (sumV ((mem (gwI xs_3 k_5)).length) (prV vs_4 (gwI xs_3 k_5)) vs_4) a_12) = 0)) true (by kernel_rfl) (dT c23) ?_)
                refine R.go 1 (R.pick (decide ((mcode (((mem (gwI xs_3 k_5)).length) + n_2) (sumX ((mem (gwI xs_3 k_5)).length) (prt xs_3 (mem (gwI xs_3 k_5))) xs_3) (sumV ((mem (gwI xs_3 k_5)).length) (prV vs_4 (gwI xs_3 k_5)) vs_4) a_12) = 0)) true (by kernel_rfl) (dT c23) (by kernel_rfl) ?_)
                exact R.go 2 (R.retE (.bool (decide ((tval (((mem (gwI xs_3 k_5)).length) + n_2) (sumX ((mem (gwI xs_3 k_5)).length) (prt xs_3 (mem (gwI xs_3 k_5))) xs_3) (sumV ((mem (gwI xs_3 k_5)).length) (prV vs_4 (gwI xs_3 k_5)) vs_4) a_12) = (bor (tval ((mem (gwI xs_3 k_5)).length) (prt xs_3 (mem (gwI xs_3 k_5))) (prV vs_4 (gwI xs_3 k_5)) a_12) (shl64 (tval n_2 xs_3 vs_4 a_12) ((mem (gwI xs_3 k_5)).length : Int)))))) (by kernel_rfl) (by kernel_rfl) (by first | (first | rfl | exact congrArg AV.bool (decide_eq_true h4.2)) | (exfalso; omega)))
              · refine R.skp (decide ((mcode (((mem (gwI xs_3 k_5)).length) + n_2) (sumX ((mem (gwI xs_3 k_5)).length) (prt xs_3 (mem (gwI xs_3 k_5))) xs_3) (sumV ((mem (gwI xs_3 k_5)).length) (prV vs_4 (gwI xs_3 k_5)) vs_4) a_12) = 0)) true (by kernel_rfl) (dF c23) (by kernel_rfl) ?_
                refine R.skp (decide ((mcode (((mem (gwI xs_3 k_5)).length) + n_2) (sumX ((mem (gwI xs_3 k_5)).length) (prt xs_3 (mem (gwI xs_3 k_5))) xs_3) (sumV ((mem (gwI xs_3 k_5)).length) (prV vs_4 (gwI xs_3 k_5)) vs_4) a_12) = 0)) true (by kernel_rfl) (dF c23) (by kernel_rfl) ?_
                refine R.skp (decide ((mcode (((mem (gwI xs_3 k_5)).length) + n_2) (sumX ((mem (gwI xs_3 k_5)).length) (prt xs_3 (mem (gwI xs_3 k_5))) xs_3) (sumV ((mem (gwI xs_3 k_5)).length) (prV vs_4 (gwI xs_3 k_5)) vs_4) a_12) = 0)) true (by kernel_rfl) (dF c23) (by kernel_rfl) ?_
                refine R.skp (decide ((mcode (((mem (gwI xs_3 k_5)).length) + n_2) (sumX ((mem (gwI xs_3 k_5)).length) (prt xs_3 (mem (gwI xs_3 k_5))) xs_3) (sumV ((mem (gwI xs_3 k_5)).length) (prV vs_4 (gwI xs_3 k_5)) vs_4) a_12) = 0)) true (by kernel_rfl) (dF c23) (by kernel_rfl) ?_
                refine R.skp (decide ((mcode (((mem (gwI xs_3 k_5)).length) + n_2) (sumX ((mem (gwI xs_3 k_5)).length) (prt xs_3 (mem (gwI xs_3 k_5))) xs_3) (sumV ((mem (gwI xs_3 k_5)).length) (prV vs_4 (gwI xs_3 k_5)) vs_4) a_12) = 0)) true (by kernel_rfl) (dF c23) (by kernel_rfl) ?_
                refine R.skp (decide ((mcode (((mem (gwI xs_3 k_5)).length) + n_2) (sumX ((mem (gwI xs_3 k_5)).length) (prt xs_3 (mem (gwI xs_3 k_5))) xs_3) (sumV ((mem (gwI xs_3 k_5)).length) (prV vs_4 (gwI xs_3 k_5)) vs_4) a_12) = 0)) true (by kernel_rfl) (dF c23) (by kernel_rfl) ?_
                refine R.skp (decide ((mcode (((mem (gwI xs_3 k_5)).length) + n_2) (sumX ((mem (gwI xs_3 k_5)).length) (prt xs_3 (mem (gwI xs_3 k_5))) xs_3) (sumV ((mem (gwI xs_3 k_5)).length) (prV vs_4 (gwI xs_3 k_5)) vs_4) a_12) = 0)) true (by kernel_rfl) (dF c23) (by kernel_rfl) ?_
                refine R.skp (decide ((mcode (((mem (gwI xs_3 k_5)).length) + n_2) (sumX ((mem (gwI xs_3 k_5)).length) (prt xs_3 (mem (gwI xs_3 k_5))) xs_3) (sumV ((mem (gwI xs_3 k_5)).length) (prV vs_4 (gwI xs_3 k_5)) vs_4) a_12) = 0)) true (by kernel_rfl) (dF c23) (by kernel_rfl) ?_
                refine R.skp (decide ((mcode (((mem (gwI xs_3 k_5)).length) + n_2) (sumX ((mem (gwI xs_3 k_5)).length) (prt xs_3 (mem (gwI xs_3 k_5))) xs_3) (sumV ((mem (gwI xs_3 k_5)).length) (prV vs_4 (gwI xs_3 k_5)) vs_4) a_12) = 0)) true (by kernel_rfl) (dF c23) (by kernel_rfl) ?_
                refine R.pick (decide ((mcode (((mem (gwI xs_3 k_5)).length) + n_2) (sumX ((mem (gwI xs_3 k_5)).length) (prt xs_3 (mem (gwI xs_3 k_5))) xs_3) (sumV ((mem (gwI xs_3 k_5)).length) (prV vs_4 (gwI xs_3 k_5)) vs_4) a_12) = 0)) false (by kernel_rfl) (dF c23) (by kernel_rfl) ?_
                exact R.go 2 (R.retE (.bool false) (by kernel_rfl) (by kernel_rfl) (by first | (first | rfl | exact congrArg AV.bool (decide_eq_true h4.2)) | (exfalso; omega)))
            · refine R.go 2 (R.call true (SMbig ((mem (gwI xs_3 k_5)).length) (prt xs_3 (mem (gwI xs_3 k_5))) (prV vs_4 (gwI xs_3 k_5)) n_2 xs_3 vs_4 (by assumption) hMo (by first | omega | (simp <;> omega))) (by kernel_rfl) rfl (by kernel_rfl) ?_)
              exact R.go 20 (R.retE (.bool true) (by kernel_rfl) (by kernel_rfl) (by rfl))
      · refine R.skp (!decide ((mcode n_2 xs_3 vs_4 a_12) = 0)) false (by kernel_rfl) (nT c16) (by kernel_rfl) ?_
        refine R.skp (!decide ((mcode n_2 xs_3 vs_4 a_12) = 0)) false (by kernel_rfl) (nT c16) (by kernel_rfl) ?_
        refine R.pick (!decide ((mcode n_2 xs_3 vs_4 a_12) = 0)) true (by kernel_rfl) (nT c16) (by kernel_rfl) ?_
        exact R.go 8 (R.retE (.bool true) (by kernel_rfl) (by kernel_rfl) (by rfl))
    · refine R.go 2 (R.call true (PMbad_impl n_2 xs_3 vs_4 k_5 (by assumption) (by first | omega | (simp <;> omega)) (by first | omega | (simp <;> omega))) (by kernel_rfl) rfl (by kernel_rfl) ?_)
      refine R.go 11 (R.call true (PMbad_spec n_2 xs_3 vs_4 k_5 (by assumption) (by first | omega | (simp <;> omega)) (by first | omega | (simp <;> omega))) (by kernel_rfl) rfl (by kernel_rfl) ?_)
      have hlp : (prt xs_3 (mem k_5)).length ≤ 62 := by rw [prt_len]; exact mem_le _
      have hlv : (prV vs_4 k_5).length ≤ 6 := by unfold prV; rw [List.length_map]; assumption
      refine R.go 14 (R.want (!decide ((pomC n_2 xs_3 vs_4 k_5) = (pomC n_2 xs_3 vs_4 k_5))) false (by kernel_rfl) (nF rfl) ?_)
      refine R.go 1 (R.want (!decide ((pomC n_2 xs_3 vs_4 k_5) = (pomC n_2 xs_3 vs_4 k_5))) false (by kernel_rfl) (nF rfl) ?_)
      refine R.go 1 (R.want (!decide ((pomC n_2 xs_3 vs_4 k_5) = (pomC n_2 xs_3 vs_4 k_5))) false (by kernel_rfl) (nF rfl) ?_)
      refine R.go 1 (R.want (!decide ((pomC n_2 xs_3 vs_4 k_5) = (pomC n_2 xs_3 vs_4 k_5))) false (by kernel_rfl) (nF rfl) ?_)
      refine R.go 1 (R.want (!decide ((pomC n_2 xs_3 vs_4 k_5) = (pomC n_2 xs_3 vs_4 k_5))) false (by kernel_rfl) (nF rfl) ?_)
      refine R.call true (sameFr9_nil 0) (by kernel_rfl) rfl (by kernel_rfl) ?_
      refine R.want (!decide ((pomC n_2 xs_3 vs_4 k_5) = (pomC n_2 xs_3 vs_4 k_5))) false (by kernel_rfl) (nF rfl) ?_
      refine R.go 1 (R.pick (!decide ((pomC n_2 xs_3 vs_4 k_5) = (pomC n_2 xs_3 vs_4 k_5))) false (by kernel_rfl) (nF rfl) (by kernel_rfl) ?_)
      refine R.go 5 (R.call true (likeInts_nil) (by kernel_rfl) rfl (by kernel_rfl) ?_)
      refine R.go 11 (R.condN ((pomC n_2 xs_3 vs_4 k_5) = 0) (by kernel_rfl) (fun c24 => ?_) (fun c24 => ?_))
      · exact R.go 4 (R.retE (.bool true) (by kernel_rfl) (by kernel_rfl) (by rfl))
      · refine R.go 4 (R.callX0 (drTruth_c c hc) (by kernel_rfl) (by rintro _ _ ⟨_, _, _, _, _, _, _, rfl, rfl⟩; rfl) (by kernel_rfl) (by kernel_rfl) ?_)
        rintro _ ⟨n_25, xs_26, vs_27, a_28, f29, f30, f31, rfl, _⟩
        refine R.go 11 (R.call true (TS_impl n_2 xs_3 vs_4 a_28 (by first | omega | (simp <;> omega)) (by first | omega | (simp <;> omega)) (by first | omega | (simp <;> omega))) (by kernel_rfl) rfl (by kernel_rfl) ?_)
        have hz : pomC n_2 xs_3 vs_4 k_5 = 0 := by assumption
        have h1 := pl_1 hz
        have hP : okFr n_2 xs_3 = true := h1.1
        have hO : outR n_2 k_5 = false := h1.2.1
        have hz2 : pomC n_2 xs_3 vs_4 (gwI xs_3 k_5) = 0 := h1.2.2.2.1
        have hO2 : outR n_2 (gwI xs_3 k_5) = false := h1.2.2.2.2.1
        have hb0 : 0 ≤ n_2 ∧ n_2 ≤ 8 := h1.2.2.2.2.2.1
        have hml : (mem (gwI xs_3 k_5)).length ≤ 8 := h1.2.2.2.2.2.2.1
        have hvl : (vs_4).length = 6 := h1.2.2.2.2.2.2.2
        have hpl := prt_len xs_3 (mem (gwI xs_3 k_5))
        have hvl2 : (prV vs_4 (gwI xs_3 k_5)).length = 6 := by unfold prV; rw [List.length_map]; exact hvl
        refine R.go 11 (R.call true (GW_impl n_2 xs_3 k_5 hP hO) (by kernel_rfl) rfl (by kernel_rfl) ?_)
        refine R.go 12 ?_
        by_cases c32 : (mcode n_2 xs_3 vs_4 a_28) = 0
        · refine R.want (!decide ((mcode n_2 xs_3 vs_4 a_28) = 0)) false (by kernel_rfl) (nF c32) ?_
          refine R.go 1 (R.want (!decide ((mcode n_2 xs_3 vs_4 a_28) = 0)) false (by kernel_rfl) (nF c32) ?_)
          refine R.go 1 (R.pick (!decide ((mcode n_2 xs_3 vs_4 a_28) = 0)) false (by kernel_rfl) (nF c32) (by kernel_rfl) ?_)
          have hm : mcode n_2 xs_3 vs_4 a_28 = 0 := by first | assumption | omega
          have hm2 := pl_2 hz hm
          have hMo : okMo n_2 xs_3 vs_4 = true := (pom_ok hz).1
          have hMp : okMo ((mem (gwI xs_3 k_5)).length : Int) (prt xs_3 (mem (gwI xs_3 k_5))) (prV vs_4 (gwI xs_3 k_5)) = true := (mcode_ok hm2).1
          refine R.go 7 (R.call true (PMok_impl n_2 xs_3 vs_4 (gwI xs_3 k_5) hz2 (by first | omega | (simp <;> omega)) (by first | omega | (simp <;> omega))).frz (by kernel_rfl) rfl (by kernel_rfl) ?_)
          refine R.go 11 (R.call true (TS_impl ((mem (gwI xs_3 k_5)).length) (prt xs_3 (mem (gwI xs_3 k_5))) (prV vs_4 (gwI xs_3 k_5)) a_28 (by first | omega | (simp <;> omega)) (by first | omega | (simp <;> omega)) (by first | omega | (simp <;> omega))) (by kernel_rfl) rfl (by kernel_rfl) ?_)
          refine R.go 12 (R.call true (MO_impl n_2 (gwI xs_3 k_5) (by omega) (by omega) hO2).frz (by kernel_rfl) rfl (by kernel_rfl) ?_)
          refine R.go 11 (R.ar (0 + (mcode ((mem (gwI xs_3 k_5)).length) (prt xs_3 (mem (gwI xs_3 k_5))) (prV vs_4 (gwI xs_3 k_5)) a_28)) (by kernel_rfl) (by omega) (by omega) (by kernel_rfl) ?_)
          refine R.go 1 (R.ar ((0 + (mcode ((mem (gwI xs_3 k_5)).length) (prt xs_3 (mem (gwI xs_3 k_5))) (prV vs_4 (gwI xs_3 k_5)) a_28)) + 0) (by kernel_rfl) (by omega) (by omega) (by kernel_rfl) ?_)
          refine R.go 2 (R.condN (((0 + (mcode ((mem (gwI xs_3 k_5)).length) (prt xs_3 (mem (gwI xs_3 k_5))) (prV vs_4 (gwI xs_3 k_5)) a_28)) + 0) = 0) (by kernel_rfl) (fun c33 => ?_) (fun c33 => ?_))
          · exact R.go 4 (R.retE (.bool false) (by kernel_rfl) (by kernel_rfl) (by first | (first | rfl | exact congrArg AV.bool (decide_eq_true h4.2)) | (exfalso; omega)))
          · exfalso; omega -- no annotation for loop 1; frame (frm 163 [(0, LB c), (2, .bool false), (3, .ptr 0 0), (4, AI k_5), (
        · refine R.skp (!decide ((mcode n_2 xs_3 vs_4 a_28) = 0)) false (by kernel_rfl) (nT c32) (by kernel_rfl) ?_
          refine R.skp (!decide ((mcode n_2 xs_3 vs_4 a_28) = 0)) false (by kernel_rfl) (nT c32) (by kernel_rfl) ?_
          refine R.pick (!decide ((mcode n_2 xs_3 vs_4 a_28) = 0)) true (by kernel_rfl) (nT c32) (by kernel_rfl) ?_
          exact R.go 8 (R.retE (.bool true) (by kernel_rfl) (by kernel_rfl) (by rfl))

end Go.Proofs.Ytejaikeemahobaa
