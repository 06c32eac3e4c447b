/- Texts of the proof: MO1, Sym6, Sym9, E01. -/
import Derived.Test.YtgebepfdphmjcaaGreatPartH

/-! Morphisms of frames in both packages; truth along a morphism. -/
namespace Go.Proofs.YtgebepfdphmjcaaGreat
open Go.RowKit Go.Abs

theorem below1 {P : Nat → Prop} {x : Nat} (h : ∀ i : Nat, i < x → P i) (hx : P x) : ∀ i : Nat, i < x + 1 → P i := fun i hi => by
  by_cases e : i = x
  · rw [e]; exact hx
  · exact h i (by omega)
def imgF (ims : List Int) (L : List Int) : Int := L.foldl (fun o j => bor o (shl64 1 (ims.getD j.toNat 0))) 0
def mapM (ims : List Int) (m : Int) : Int := imgF ims (mem m)
theorem imgF_snoc {ims L : List Int} {t : Nat} (h : t < L.length) : bor (imgF ims (L.take t)) (shl64 1 (ims.getD (L.getD t 0).toNat 0)) = imgF ims (L.take (t + 1)) := by
  rw [List.take_succ_eq_append_getElem h, imgF, imgF, List.foldl_append, List.getD_eq_getElem?_getD (l := L), List.getElem?_eq_getElem h]
  rfl
def MorH (xs ys ims : List Int) : Prop := ims.length ≤ 8 ∧ ys.length ≤ 8 ∧ RelOK ims.length xs ∧ ∀ j : Nat, j < ims.length → 0 ≤ ims.getD j 0 ∧ ims.getD j 0 < (ys.length : Int)
def ImsH (ims : List Int) : Prop := ims.length ≤ 8 ∧ ∀ j : Nat, j < ims.length → 0 ≤ ims.getD j 0 ∧ ims.getD j 0 ≤ 61
theorem morH_i {xs ys ims : List Int} (h : MorH xs ys ims) : ImsH ims := ⟨h.1, fun j hj => by have := h.2.2.2 j hj; have := h.2.1; omega⟩
def mapB (n m : Int) (ims : List Int) : Bool := decide ((ims.length : Int) = n) && !ims.any fun y => !inR y 0 (m - 1)
def MOR (xs ys ims : List Int) (x : Nat) : Prop := mapM ims (xs.getD x 0) = ys.getD (ims.getD x 0).toNat 0
instance (xs ys ims : List Int) (x : Nat) : Decidable (MOR xs ys ims x) := by unfold MOR; infer_instance
def morA (n : Int) (xs ys ims : List Int) : Bool := (List.range n.toNat).all fun x => decide (MOR xs ys ims x)
theorem morA_iff {n : Int} {xs ys ims : List Int} : morA n xs ys ims = true ↔ ∀ i : Nat, i < n.toNat → MOR xs ys ims i := by simp [morA]
theorem morA_no {n : Int} {xs ys ims : List Int} {i : Nat} (hi : i < n.toNat) (h : ¬ mapM ims (xs.getD i 0) = ys.getD (ims.getD i 0).toNat 0) : false = morA n xs ys ims := by
  cases e : morA n xs ys ims with
  | false => rfl
  | true => exact absurd (morA_iff.1 e i hi) h
theorem mapB_len {n m : Int} {ims : List Int} (h : ¬ (ims.length : Int) = n) : false = mapB n m ims := by rw [mapB, decide_eq_false h]; rfl
theorem mapB_any {n m : Int} {ims : List Int} (h : (ims.length : Int) = n) : (!ims.any fun y => !inR y 0 (m - 1)) = mapB n m ims := by rw [mapB, decide_eq_true h]; rfl
theorem mapB_no {n m : Int} {ims : List Int} {i : Nat} (hi : i < ims.length) (h : inR (ims.getD i 0) 0 (m - 1) = false) : mapB n m ims = false := by
  have : (ims.any fun y => !inR y 0 (m - 1)) = true := List.any_eq_true.2 ⟨ims.getD i 0, by rw [List.getD_eq_getElem?_getD, List.getElem?_eq_getElem hi]; exact List.getElem_mem _, by rw [h]; rfl⟩
  rw [mapB, this]; simp
theorem mapB_mk {n m : Int} {ims : List Int} (h : (ims.length : Int) = n) (hi : ∀ i : Nat, i < ims.length → inR (ims.getD i 0) 0 (m - 1) = true) : mapB n m ims = true := by
  rw [← mapB_any h, Bool.not_eq_true', List.any_eq_false]
  intro y hy
  obtain ⟨j, hj, rfl⟩ := List.getElem_of_mem hy
  have := hi j hj
  rw [List.getD_eq_getElem?_getD, List.getElem?_eq_getElem hj] at this
  have : inR ims[j] 0 (m - 1) = true := this
  rw [this]; decide
theorem mapB_ok {n m : Int} {ims : List Int} (h : mapB n m ims = true) : (ims.length : Int) = n ∧ ∀ i : Nat, i < ims.length → 0 ≤ ims.getD i 0 ∧ ims.getD i 0 < m := by
  simp only [mapB, Bool.and_eq_true, decide_eq_true_eq, Bool.not_eq_true', List.any_eq_false] at h
  refine ⟨h.1, fun i hi => ?_⟩
  have h1 := h.2 (ims.getD i 0) (by rw [List.getD_eq_getElem?_getD, List.getElem?_eq_getElem hi]; exact List.getElem_mem _)
  have h2 : inR (ims.getD i 0) 0 (m - 1) = true := by simpa using h1
  rw [inR_iff] at h2
  omega
theorem morH_of {n m : Int} {xs ys ims : List Int} (hP : okFr n xs = true) (hQ : okFr m ys = true) (h : mapB n m ims = true) : MorH xs ys ims := by
  have a := okFr_rel hP
  have b := okFr_rel hQ
  have c := mapB_ok h
  have e : ims.length = n.toNat := by omega
  exact ⟨by omega, by omega, by rw [e]; exact a.2.2.2, fun j hj => by have := c.2 j hj; omega⟩

/-- The images of the first worlds of a mask, as the reference lays them together. -/
def imgL (ims : List Int) (m : Int) : Nat → Int
  | 0 => 0
  | i + 1 => if band (shr64 m (i : Int)) 1 = 1 then bor (imgL ims m i) (shl64 1 (ims.getD i 0)) else imgL ims m i
theorem imgL_yes {ims : List Int} {m : Int} {i : Nat} (h : band (shr64 m (i : Int)) 1 = 1) : bor (imgL ims m i) (shl64 1 (ims.getD i 0)) = imgL ims m (i + 1) := by rw [imgL, if_pos h]
theorem imgL_no {ims : List Int} {m : Int} {i : Nat} (h : ¬ band (shr64 m (i : Int)) 1 = 1) : imgL ims m i = imgL ims m (i + 1) := by rw [imgL, if_neg h]
theorem imgL_mem {ims : List Int} {m : Int} (hm : InM 61 m) : ∀ i, i ≤ 61 → imgL ims m i = imgF ims (memN m i)
  | 0, _ => rfl
  | i + 1, hi => by
    have ih := imgL_mem (ims := ims) hm i (by omega)
    have hb := has_tb (n := 61) (i := i) (by decide) hm (by omega)
    by_cases h : tb m i = true
    · rw [imgL, if_pos (hb.2 h), ih, memN_yes h]
      unfold imgF
      rw [List.foldl_append]
      simp
    · rw [imgL, if_neg (fun e => h (hb.1 e)), ih, memN_no h]
theorem imgL_map {ims : List Int} {m : Int} (hl : ims.length ≤ 61) (hm : InM ims.length m) : imgL ims m ims.length = mapM ims m := by
  have h61 := inM_mono (n' := 61) hl hm
  rw [imgL_mem h61 _ hl, mapM, mem, memN_stop (m := m) (i := ims.length) (fun j hj => by
    cases e : tb m j with
    | false => rfl
    | true => exact absurd (tb_lt hm e) (by omega)) (k := 62) (by omega)]
theorem imgL_bits {N : Nat} {ims : List Int} {m : Int} (hN : N ≤ 61) (hm : InM 61 m) (hl : ims.length ≤ 61) (hi : ∀ j, j < ims.length → 0 ≤ ims.getD j 0 ∧ ims.getD j 0 < (N : Int)) : ∀ i, i ≤ ims.length → InM N (imgL ims m i) ∧ ∀ k, tb (imgL ims m i) k = true ↔ ∃ j, j < i ∧ tb m j = true ∧ (ims.getD j 0).toNat = k
  | 0, _ => ⟨inM_zero _, fun k => by simp [imgL, tb_zero]⟩
  | i + 1, h => by
    obtain ⟨ih1, ih2⟩ := imgL_bits hN hm hl hi i (by omega)
    have hb := has_tb (n := 61) (i := i) (by decide) hm (by omega)
    have hx := hi i (by omega)
    have e : ims.getD i 0 = (((ims.getD i 0).toNat : Nat) : Int) := by omega
    have ho : InM N (shl64 1 (ims.getD i 0)) := by rw [e]; exact inM_one hN (by omega)
    rw [imgL]
    split
    · rename_i hc
      refine ⟨inM_bor hN ih1 ho, fun k => ?_⟩
      rw [tb_bor hN ih1 ho, Bool.or_eq_true, ih2, e, tb_one (by omega), decide_eq_true_iff]
      constructor
      · rintro (⟨j, h1, h2, h3⟩ | h1)
        · exact ⟨j, by omega, h2, h3⟩
        · exact ⟨i, by omega, hb.1 hc, h1⟩
      · rintro ⟨j, h1, h2, h3⟩
        by_cases ej : j = i
        · subst ej; exact .inr h3
        · exact .inl ⟨j, by omega, h2, h3⟩
    · rename_i hc
      refine ⟨ih1, fun k => ?_⟩
      rw [ih2]
      constructor
      · rintro ⟨j, h1, h2, h3⟩
        exact ⟨j, by omega, h2, h3⟩
      · rintro ⟨j, h1, h2, h3⟩
        by_cases ej : j = i
        · subst ej; exact absurd (hb.2 h2) hc
        · exact ⟨j, by omega, h2, h3⟩
def moC (n : Int) (xs : List Int) (m : Int) (ys ims : List Int) : Int := if okFr n xs = true ∧ okFr m ys = true ∧ mapB n m ims = true then 0 else 1
def moR (n : Int) (xs : List Int) (m : Int) (ys ims : List Int) : Bool := decide (moC n xs m ys ims = 0) && morA n xs ys ims
theorem moC_1 {n m : Int} {xs ys ims : List Int} (h : okFr n xs = false) : 1 = moC n xs m ys ims := by rw [moC, if_neg (by rw [h]; simp)]
theorem moC_2 {n m : Int} {xs ys ims : List Int} (h : okFr m ys = false) : 1 = moC n xs m ys ims := by rw [moC, if_neg (by rw [h]; simp)]
theorem moC_3 {n m : Int} {xs ys ims : List Int} (h : mapB n m ims = false) : 1 = moC n xs m ys ims := by rw [moC, if_neg (by rw [h]; simp)]
theorem moC_0 {n m : Int} {xs ys ims : List Int} (h : okFr n xs = true) (h2 : okFr m ys = true) (h3 : mapB n m ims = true) : 0 = moC n xs m ys ims := by rw [moC, if_pos ⟨h, h2, h3⟩]
theorem moC_ok {n m : Int} {xs ys ims : List Int} (h : moC n xs m ys ims = 0) : okFr n xs = true ∧ okFr m ys = true ∧ mapB n m ims = true ∧ MorH xs ys ims ∧ n = (ims.length : Int) := by
  unfold moC at h
  split at h
  · rename_i h1
    exact ⟨h1.1, h1.2.1, h1.2.2, morH_of h1.1 h1.2.1 h1.2.2, (mapB_ok h1.2.2).1.symm⟩
  · omega
theorem moR_0 {n m : Int} {xs ys ims : List Int} (h : moC n xs m ys ims = 0) : morA n xs ys ims = moR n xs m ys ims := by rw [moR, decide_eq_true h]; rfl
theorem moR_n {n m : Int} {xs ys ims : List Int} (h : ¬ moC n xs m ys ims = 0) : false = moR n xs m ys ims := by rw [moR, decide_eq_false h]; rfl
theorem tupBI {a b : Bool} {c d : Int} (h : a = b) (h' : c = d) : AV.tup [.bool a, AI c] = AV.tup [.bool b, AI d] := by rw [h, h']
/-- Truth along a morphism, bit by bit. -/
theorem mor_tr {n m : Int} {xs ys ims V : List Int} {a : List (Int × Int)} (hz : moC n xs m ys ims = 0) (hM : morA n xs ys ims = true) (hV : pvH m ims V) (hl : V.length = 6) (hF : isF a = true) {x : Nat} (hx : x < ims.length) : tr n xs (pulV ims V) a x = tr m ys V a (ims.getD x 0).toNat := by
  obtain ⟨h1, h2, _, h4, h5⟩ := moC_ok hz
  obtain ⟨n0, n8, nl, nr⟩ := okFr_rel h1
  obtain ⟨m0, m8, ml, mr⟩ := okFr_rel h2
  have hA := (isF_okm hF).1
  have hI : ∀ j, j < ims.length → 0 ≤ ims.getD j 0 ∧ ims.getD j 0 < ((m.toNat : Nat) : Int) := fun j hj => by have := h4.2.2.2 j hj; omega
  have hX : ∀ j : Nat, j < 6 → InM n.toNat ((pulV ims V).getD j 0) := fun j hj => by
    rw [pulV_get (by omega)]
    exact sqz_ok (by omega) _ (by omega)
  have hY : ∀ j : Nat, j < 6 → InM m.toNat (V.getD j 0) := fun j hj => hV.2 j (by omega)
  have hb : ∀ x, x < n.toNat → ∀ k, tb (ys.getD (ims.getD x 0).toNat 0) k = true ↔ ∃ j, j < ims.length ∧ tb (xs.getD x 0) j = true ∧ (ims.getD j 0).toNat = k := fun x hx k => by
    have hmx : InM ims.length (xs.getD x 0) := by have := nr.2 x hx; rwa [show n.toNat = ims.length by omega] at this
    have := morA_iff.1 hM x hx
    unfold MOR at this
    rw [← this, ← imgL_map (by omega) hmx]
    exact (imgL_bits (N := m.toNat) (by omega) (inM_mono (n' := 61) (by omega) hmx) (by omega) hI _ (Nat.le_refl _)).2 k
  refine tr_map h1 h2 hX hY (fun x => (ims.getD x 0).toNat) (fun _ => mdp a + 1) (fun x hx => by have := hI x (by omega); omega) (fun j hj x hx => ?_) (fun x hx y hy => ?_) (fun x hx _ v hv => ?_) hA x (by omega) (by omega)
  · rw [pulV_get (by omega), Bool.eq_iff_iff, sqzG_bits (N := m.toNat) (R := 8) (by omega) (by omega) (hY j hj) (fun i hi => hI i hi) _ (Nat.le_refl _) (by omega)]
    exact ⟨fun h => h.2, fun h => ⟨by omega, h⟩⟩
  · have hyl : y < n.toNat := tb_lt (nr.2 x hx) hy
    exact ⟨(hb x hx _).2 ⟨y, by omega, hy, rfl⟩, by omega⟩
  · obtain ⟨j, _, h6, h7⟩ := (hb x hx v).1 hv
    exact ⟨j, h6, h7⟩

theorem mapMask_c (ims : List Int) (m : Int) (hI : ImsH ims) (hm : InM ims.length m) : CallA Tryz.prog 96 [LI ims, AI m] (AI (mapM ims m)) := by
  have hi1 := hI.1
  have hm61 := inM_mono (n' := 61) (by omega) hm
  have hml := mem_le m
  have hiv := hI.2
  refine CallA.of Tryz.func96 rfl (by kernel_rfl) ?_
  refine R.go 12 (R.call true (membersOf_c m (by first | assumption | exact inM61 (by omega) (by omega))).frz (by kernel_rfl) rfl (by kernel_rfl) ?_)
  refine R.go 4 (R.loop ((fun | (t, r) => (⟨(frm 24 [(0, LI ims), (5, AI r), (9, LI (mem m)), (10, AI ((mem m).length)), (11, AI (t : Int))]), []⟩ : St) : Nat × Int → St)) (fun | (t, r) => (t ≤ (mem m).length) ∧ (r = imgF ims ((mem m).take t))) (fun | (t, r) => (mem m).length - t) (0, 0) [0, 5, 9, 10, 11] none (by kernel_rfl) (by kernel_rfl) (by kernel_rfl) ⟨(by omega), (by rfl)⟩ ?_)
  rintro ⟨t, r⟩ ⟨h4_1, rfl⟩ R1 N2
  have hjr := fun h : t < (mem m).length => mem_lt' (N := ims.length) (by omega) hm h
  have hiw := fun h : t < (mem m).length => hiv ((mem m).getD t 0).toNat (by have := hjr h; omega)
  refine R.go 5 (R.cond ((t : Int) < ((mem m).length : Int)) (by kernel_rfl) (fun c5 => ?_) (fun c5 => ?_))
  · refine R.go 5 (R.idx eI (mem m) 0 t (t : Int) (by kernel_rfl) rfl eI_len (by omega) (by kernel_rfl) ?_)
    have hj2 := hjr (by omega)
    have hw2 := hiw (by omega)
    refine R.go 7 (R.idx eI ims 0 ((((mem m).getD t 0)).toNat) ((mem m).getD t 0) (by kernel_rfl) (by omega) eI_len (by omega) (by kernel_rfl) ?_)
    refine R.go 1 (R.shl 1 (ims.getD ((((mem m).getD t 0)).toNat) 0) (by kernel_rfl) (by omega) (by kernel_rfl) ?_)
    refine R.go 5 (R.ar ((t : Int) + 1) (by kernel_rfl) (by omega) (by omega) (by kernel_rfl) ?_)
    exact R.go 2 (R.stop R1 (by kernel_rfl) (N2 (t + 1, bor (imgF ims ((mem m).take t)) (shl64 1 (ims.getD ((((mem m).getD t 0)).toNat) 0))) [0, 5, 9, 10, 11] none _ (by kernel_rfl) (by kernel_rfl) ⟨(by omega), (by exact imgF_snoc (by omega))⟩ (by show ((mem m).length - (t + 1)) < ((mem m).length - t); omega)))
  · exact R.go 6 (R.retE (AI (imgF ims ((mem m).take t))) (by kernel_rfl) (by kernel_rfl) (by first | (rw [mapM, List.take_of_length_le (by omega)]) | (exfalso; omega)))

theorem l08Image_c (ims : List Int) (m : Int) (hl : ims.length ≤ 60) (hi : ∀ j, j < ims.length → 0 ≤ ims.getD j 0 ∧ ims.getD j 0 ≤ 60) : CallA Tryz.prog 98 [LI ims, AI m] (AI (imgL ims m ims.length)) := by
  refine CallA.of Tryz.func98 rfl (by kernel_rfl) ?_
  refine R.go 14 (R.loop ((fun | (i, r) => (⟨(frm 24 [(0, LI ims), (1, AI m), (5, AI r), (6, AI (i : Int))]), []⟩ : St) : Nat × Int → St)) (fun | (i, r) => (i ≤ ims.length) ∧ (r = imgL ims m i)) (fun | (i, r) => ims.length - i) (0, 0) [0, 1, 5, 6] none (by kernel_rfl) (by kernel_rfl) (by kernel_rfl) ⟨(by omega), (by rfl)⟩ ?_)
  rintro ⟨i, r⟩ ⟨h4_1, rfl⟩ R1 N2
  refine R.go 8 (R.cond ((i : Int) < (ims.length : Int)) (by kernel_rfl) (fun c5 => ?_) (fun c5 => ?_))
  · have hij := hi i (by omega)
    refine R.go 7 (R.call true (l01Bit_c m (i : Int) (by omega) (by omega)) (by kernel_rfl) rfl (by kernel_rfl) ?_)
    refine R.go 1 (R.cond (band (shr64 m (i : Int)) 1 = 1) (by kernel_rfl) (fun c6 => ?_) (fun c6 => ?_))
    · refine R.go 4 (R.idx eI ims 0 i (i : Int) (by kernel_rfl) rfl eI_len (by omega) (by kernel_rfl) ?_)
      refine R.go 1 (R.call true (l01One_c (ims.getD i 0) (by omega) (by omega)) (by kernel_rfl) rfl (by kernel_rfl) ?_)
      refine R.go 6 (R.ar ((i : Int) + 1) (by kernel_rfl) (by omega) (by omega) (by kernel_rfl) ?_)
      exact R.go 2 (R.stop R1 (by kernel_rfl) (N2 (i + 1, bor (imgL ims m i) (shl64 1 (ims.getD i 0))) [0, 1, 5, 6] none _ (by kernel_rfl) (by kernel_rfl) ⟨(by omega), (by first | exact imgL_yes (by assumption) | exact imgL_no (by assumption))⟩ (by show (ims.length - (i + 1)) < (ims.length - i); omega)))
    · refine R.go 4 (R.ar ((i : Int) + 1) (by kernel_rfl) (by omega) (by omega) (by kernel_rfl) ?_)
      exact R.go 2 (R.stop R1 (by kernel_rfl) (N2 (i + 1, imgL ims m i) [0, 1, 5, 6] none _ (by kernel_rfl) (by kernel_rfl) ⟨(by omega), (by first | exact imgL_yes (by assumption) | exact imgL_no (by assumption))⟩ (by show (ims.length - (i + 1)) < (ims.length - i); omega)))
  · exact R.go 6 (R.retE (AI (imgL ims m i)) (by kernel_rfl) (by kernel_rfl) (by first | (rw [show i = ims.length by omega]) | (exfalso; omega)))

theorem isMap_c (n : Int) (xs : List Int) (m : Int) (ys : List Int) (ims : List Int) (h0 : 0 ≤ m) (h8 : m ≤ 8) (li : ims.length ≤ 1000000000) : CallA Tryz.prog 93 [.agg [AI n, LI xs], .agg [AI m, LI ys], LI ims] (.bool (mapB n m ims)) := by
  refine CallA.of Tryz.func93 rfl (by kernel_rfl) ?_
  refine R.go 7 (R.any (by decide +kernel) (by kernel_rfl) ?_)
  refine R.anyF 0 (by kernel_rfl) (np_ret _ _ _) ?_
  refine R.any2 1 2 (by kernel_rfl) (by kernel_rfl) ?_ ?_
  · refine R.call true (size_c ims) (by kernel_rfl) rfl (by kernel_rfl) ?_
    refine R.go 1 (R.any1 2 (by kernel_rfl) (by kernel_rfl) ?_)
    refine R.go 2 (R.any1 3 (by kernel_rfl) (by kernel_rfl) ?_)
    refine R.go 2 (R.any1 4 (by kernel_rfl) (by kernel_rfl) ?_)
    refine R.go 2 (R.anyF 5 (by kernel_rfl) (np_ret _ _ _) ?_)
    refine R.any2 6 7 (by kernel_rfl) (by kernel_rfl) ?_ ?_
    · by_cases c1 : (ims.length : Int) = n
      · refine R.want (decide ((ims.length : Int) = n)) true (by kernel_rfl) (dT c1) ?_
        refine R.go 2 (R.any1 7 (by kernel_rfl) (by kernel_rfl) ?_)
        refine R.want (decide ((ims.length : Int) = n)) true (by kernel_rfl) (dT c1) ?_
        refine R.go 2 (R.any1 8 (by kernel_rfl) (by kernel_rfl) ?_)
        refine R.want (decide ((ims.length : Int) = n)) true (by kernel_rfl) (dT c1) ?_
        refine R.call false (containsMp_c ims m ys li h0 h8) (by kernel_rfl) rfl (by kernel_rfl) ?_
        refine R.go 1 (R.any1 9 (by kernel_rfl) (by kernel_rfl) ?_)
        refine R.want (decide ((ims.length : Int) = n)) true (by kernel_rfl) (dT c1) ?_
        refine R.go 2 (R.any1 10 (by kernel_rfl) (by kernel_rfl) ?_)
        refine R.pick (decide ((ims.length : Int) = n)) true (by kernel_rfl) (dT c1) (by kernel_rfl) ?_
        refine R.go 1 (R.any1 11 (by kernel_rfl) (by kernel_rfl) ?_)
        refine R.go 2 (R.any0 (by kernel_rfl) ?_)
        exact R.retE (.bool (!(ims.any (fun y => !inR y 0 (m - 1))))) (by kernel_rfl) (by kernel_rfl) (by first | (apply congrArg AV.bool; first | exact mapB_len (by assumption) | exact mapB_any (by assumption)) | (exfalso; omega))
      · refine R.skp (decide ((ims.length : Int) = n)) true (by kernel_rfl) (dF c1) (by kernel_rfl) ?_
        refine R.go 1 (R.any1 7 (by kernel_rfl) (by kernel_rfl) ?_)
        refine R.skp (decide ((ims.length : Int) = n)) true (by kernel_rfl) (dF c1) (by kernel_rfl) ?_
        refine R.go 1 (R.any1 8 (by kernel_rfl) (by kernel_rfl) ?_)
        refine R.skp (decide ((ims.length : Int) = n)) true (by kernel_rfl) (dF c1) (by kernel_rfl) ?_
        refine R.go 1 (R.any1 9 (by kernel_rfl) (by kernel_rfl) ?_)
        refine R.skp (decide ((ims.length : Int) = n)) true (by kernel_rfl) (dF c1) (by kernel_rfl) ?_
        refine R.go 1 (R.any1 10 (by kernel_rfl) (by kernel_rfl) ?_)
        refine R.pick (decide ((ims.length : Int) = n)) false (by kernel_rfl) (dF c1) (by kernel_rfl) ?_
        refine R.go 1 (R.any1 11 (by kernel_rfl) (by kernel_rfl) ?_)
        refine R.go 2 (R.any0 (by kernel_rfl) ?_)
        exact R.retE (.bool false) (by kernel_rfl) (by kernel_rfl) (by first | (apply congrArg AV.bool; first | exact mapB_len (by assumption) | exact mapB_any (by assumption)) | (exfalso; omega))
    · by_cases c2 : (ims.length : Int) = n
      · refine R.want (decide ((ims.length : Int) = n)) true (by kernel_rfl) (dT c2) ?_
        refine R.go 2 (R.any1 6 (by kernel_rfl) (by kernel_rfl) ?_)
        refine R.want (decide ((ims.length : Int) = n)) true (by kernel_rfl) (dT c2) ?_
        refine R.go 2 (R.any1 8 (by kernel_rfl) (by kernel_rfl) ?_)
        refine R.want (decide ((ims.length : Int) = n)) true (by kernel_rfl) (dT c2) ?_
        refine R.call false (containsMp_c ims m ys li h0 h8) (by kernel_rfl) rfl (by kernel_rfl) ?_
        refine R.go 1 (R.any1 9 (by kernel_rfl) (by kernel_rfl) ?_)
        refine R.want (decide ((ims.length : Int) = n)) true (by kernel_rfl) (dT c2) ?_
        refine R.go 2 (R.any1 10 (by kernel_rfl) (by kernel_rfl) ?_)
        refine R.pick (decide ((ims.length : Int) = n)) true (by kernel_rfl) (dT c2) (by kernel_rfl) ?_
        refine R.go 1 (R.any1 11 (by kernel_rfl) (by kernel_rfl) ?_)
        refine R.go 2 (R.any0 (by kernel_rfl) ?_)
        exact R.retE (.bool (!(ims.any (fun y => !inR y 0 (m - 1))))) (by kernel_rfl) (by kernel_rfl) (by first | (apply congrArg AV.bool; first | exact mapB_len (by assumption) | exact mapB_any (by assumption)) | (exfalso; omega))
      · refine R.skp (decide ((ims.length : Int) = n)) true (by kernel_rfl) (dF c2) (by kernel_rfl) ?_
        refine R.go 1 (R.any1 6 (by kernel_rfl) (by kernel_rfl) ?_)
        refine R.skp (decide ((ims.length : Int) = n)) true (by kernel_rfl) (dF c2) (by kernel_rfl) ?_
        refine R.go 1 (R.any1 8 (by kernel_rfl) (by kernel_rfl) ?_)
        refine R.skp (decide ((ims.length : Int) = n)) true (by kernel_rfl) (dF c2) (by kernel_rfl) ?_
        refine R.go 1 (R.any1 9 (by kernel_rfl) (by kernel_rfl) ?_)
        refine R.skp (decide ((ims.length : Int) = n)) true (by kernel_rfl) (dF c2) (by kernel_rfl) ?_
        refine R.go 1 (R.any1 10 (by kernel_rfl) (by kernel_rfl) ?_)
        refine R.pick (decide ((ims.length : Int) = n)) false (by kernel_rfl) (dF c2) (by kernel_rfl) ?_
        refine R.go 1 (R.any1 11 (by kernel_rfl) (by kernel_rfl) ?_)
        refine R.go 2 (R.any0 (by kernel_rfl) ?_)
        exact R.retE (.bool false) (by kernel_rfl) (by kernel_rfl) (by first | (apply congrArg AV.bool; first | exact mapB_len (by assumption) | exact mapB_any (by assumption)) | (exfalso; omega))
  · refine R.go 2 (R.any2 1 3 (by kernel_rfl) (by kernel_rfl) ?_ ?_)
    · refine R.call true (size_c ims) (by kernel_rfl) rfl (by kernel_rfl) ?_
      refine R.go 1 (R.any1 3 (by kernel_rfl) (by kernel_rfl) ?_)
      refine R.go 2 (R.any1 4 (by kernel_rfl) (by kernel_rfl) ?_)
      refine R.go 2 (R.anyF 5 (by kernel_rfl) (np_ret _ _ _) ?_)
      refine R.any2 6 7 (by kernel_rfl) (by kernel_rfl) ?_ ?_
      · by_cases c3 : (ims.length : Int) = n
        · refine R.want (decide ((ims.length : Int) = n)) true (by kernel_rfl) (dT c3) ?_
          refine R.go 2 (R.any1 7 (by kernel_rfl) (by kernel_rfl) ?_)
          refine R.want (decide ((ims.length : Int) = n)) true (by kernel_rfl) (dT c3) ?_
          refine R.go 2 (R.any1 8 (by kernel_rfl) (by kernel_rfl) ?_)
          refine R.want (decide ((ims.length : Int) = n)) true (by kernel_rfl) (dT c3) ?_
          refine R.call false (containsMp_c ims m ys li h0 h8) (by kernel_rfl) rfl (by kernel_rfl) ?_
          refine R.go 1 (R.any1 9 (by kernel_rfl) (by kernel_rfl) ?_)
          refine R.want (decide ((ims.length : Int) = n)) true (by kernel_rfl) (dT c3) ?_
          refine R.go 2 (R.any1 10 (by kernel_rfl) (by kernel_rfl) ?_)
          refine R.pick (decide ((ims.length : Int) = n)) true (by kernel_rfl) (dT c3) (by kernel_rfl) ?_
          refine R.go 1 (R.any1 11 (by kernel_rfl) (by kernel_rfl) ?_)
          refine R.go 2 (R.any0 (by kernel_rfl) ?_)
          exact R.retE (.bool (!(ims.any (fun y => !inR y 0 (m - 1))))) (by kernel_rfl) (by kernel_rfl) (by first | (apply congrArg AV.bool; first | exact mapB_len (by assumption) | exact mapB_any (by assumption)) | (exfalso; omega))
        · refine R.skp (decide ((ims.length : Int) = n)) true (by kernel_rfl) (dF c3) (by kernel_rfl) ?_
          refine R.go 1 (R.any1 7 (by kernel_rfl) (by kernel_rfl) ?_)
          refine R.skp (decide ((ims.length : Int) = n)) true (by kernel_rfl) (dF c3) (by kernel_rfl) ?_
          refine R.go 1 (R.any1 8 (by kernel_rfl) (by kernel_rfl) ?_)
          refine R.skp (decide ((ims.length : Int) = n)) true (by kernel_rfl) (dF c3) (by kernel_rfl) ?_
          refine R.go 1 (R.any1 9 (by kernel_rfl) (by kernel_rfl) ?_)
          refine R.skp (decide ((ims.length : Int) = n)) true (by kernel_rfl) (dF c3) (by kernel_rfl) ?_
          refine R.go 1 (R.any1 10 (by kernel_rfl) (by kernel_rfl) ?_)
          refine R.pick (decide ((ims.length : Int) = n)) false (by kernel_rfl) (dF c3) (by kernel_rfl) ?_
          refine R.go 1 (R.any1 11 (by kernel_rfl) (by kernel_rfl) ?_)
          refine R.go 2 (R.any0 (by kernel_rfl) ?_)
          exact R.retE (.bool false) (by kernel_rfl) (by kernel_rfl) (by first | (apply congrArg AV.bool; first | exact mapB_len (by assumption) | exact mapB_any (by assumption)) | (exfalso; omega))
      · by_cases c4 : (ims.length : Int) = n
        · refine R.want (decide ((ims.length : Int) = n)) true (by kernel_rfl) (dT c4) ?_
          refine R.go 2 (R.any1 6 (by kernel_rfl) (by kernel_rfl) ?_)
          refine R.want (decide ((ims.length : Int) = n)) true (by kernel_rfl) (dT c4) ?_
          refine R.go 2 (R.any1 8 (by kernel_rfl) (by kernel_rfl) ?_)
          refine R.want (decide ((ims.length : Int) = n)) true (by kernel_rfl) (dT c4) ?_
          refine R.call false (containsMp_c ims m ys li h0 h8) (by kernel_rfl) rfl (by kernel_rfl) ?_
          refine R.go 1 (R.any1 9 (by kernel_rfl) (by kernel_rfl) ?_)
          refine R.want (decide ((ims.length : Int) = n)) true (by kernel_rfl) (dT c4) ?_
          refine R.go 2 (R.any1 10 (by kernel_rfl) (by kernel_rfl) ?_)
          refine R.pick (decide ((ims.length : Int) = n)) true (by kernel_rfl) (dT c4) (by kernel_rfl) ?_
          refine R.go 1 (R.any1 11 (by kernel_rfl) (by kernel_rfl) ?_)
          refine R.go 2 (R.any0 (by kernel_rfl) ?_)
          exact R.retE (.bool (!(ims.any (fun y => !inR y 0 (m - 1))))) (by kernel_rfl) (by kernel_rfl) (by first | (apply congrArg AV.bool; first | exact mapB_len (by assumption) | exact mapB_any (by assumption)) | (exfalso; omega))
        · refine R.skp (decide ((ims.length : Int) = n)) true (by kernel_rfl) (dF c4) (by kernel_rfl) ?_
          refine R.go 1 (R.any1 6 (by kernel_rfl) (by kernel_rfl) ?_)
          refine R.skp (decide ((ims.length : Int) = n)) true (by kernel_rfl) (dF c4) (by kernel_rfl) ?_
          refine R.go 1 (R.any1 8 (by kernel_rfl) (by kernel_rfl) ?_)
          refine R.skp (decide ((ims.length : Int) = n)) true (by kernel_rfl) (dF c4) (by kernel_rfl) ?_
          refine R.go 1 (R.any1 9 (by kernel_rfl) (by kernel_rfl) ?_)
          refine R.skp (decide ((ims.length : Int) = n)) true (by kernel_rfl) (dF c4) (by kernel_rfl) ?_
          refine R.go 1 (R.any1 10 (by kernel_rfl) (by kernel_rfl) ?_)
          refine R.pick (decide ((ims.length : Int) = n)) false (by kernel_rfl) (dF c4) (by kernel_rfl) ?_
          refine R.go 1 (R.any1 11 (by kernel_rfl) (by kernel_rfl) ?_)
          refine R.go 2 (R.any0 (by kernel_rfl) ?_)
          exact R.retE (.bool false) (by kernel_rfl) (by kernel_rfl) (by first | (apply congrArg AV.bool; first | exact mapB_len (by assumption) | exact mapB_any (by assumption)) | (exfalso; omega))
    · refine R.go 2 (R.any1 1 (by kernel_rfl) (by kernel_rfl) ?_)
      refine R.call true (size_c ims) (by kernel_rfl) rfl (by kernel_rfl) ?_
      refine R.go 1 (R.any1 4 (by kernel_rfl) (by kernel_rfl) ?_)
      refine R.go 2 (R.anyF 5 (by kernel_rfl) (np_ret _ _ _) ?_)
      refine R.any2 6 7 (by kernel_rfl) (by kernel_rfl) ?_ ?_
      · by_cases c5 : (ims.length : Int) = n
        · refine R.want (decide ((ims.length : Int) = n)) true (by kernel_rfl) (dT c5) ?_
          refine R.go 2 (R.any1 7 (by kernel_rfl) (by kernel_rfl) ?_)
          refine R.want (decide ((ims.length : Int) = n)) true (by kernel_rfl) (dT c5) ?_
          refine R.go 2 (R.any1 8 (by kernel_rfl) (by kernel_rfl) ?_)
          refine R.want (decide ((ims.length : Int) = n)) true (by kernel_rfl) (dT c5) ?_
          refine R.call false (containsMp_c ims m ys li h0 h8) (by kernel_rfl) rfl (by kernel_rfl) ?_
          refine R.go 1 (R.any1 9 (by kernel_rfl) (by kernel_rfl) ?_)
          refine R.want (decide ((ims.length : Int) = n)) true (by kernel_rfl) (dT c5) ?_
          refine R.go 2 (R.any1 10 (by kernel_rfl) (by kernel_rfl) ?_)
          refine R.pick (decide ((ims.length : Int) = n)) true (by kernel_rfl) (dT c5) (by kernel_rfl) ?_
          refine R.go 1 (R.any1 11 (by kernel_rfl) (by kernel_rfl) ?_)
          refine R.go 2 (R.any0 (by kernel_rfl) ?_)
          exact R.retE (.bool (!(ims.any (fun y => !inR y 0 (m - 1))))) (by kernel_rfl) (by kernel_rfl) (by first | (apply congrArg AV.bool; first | exact mapB_len (by assumption) | exact mapB_any (by assumption)) | (exfalso; omega))
        · refine R.skp (decide ((ims.length : Int) = n)) true (by kernel_rfl) (dF c5) (by kernel_rfl) ?_
          refine R.go 1 (R.any1 7 (by kernel_rfl) (by kernel_rfl) ?_)
          refine R.skp (decide ((ims.length : Int) = n)) true (by kernel_rfl) (dF c5) (by kernel_rfl) ?_
          refine R.go 1 (R.any1 8 (by kernel_rfl) (by kernel_rfl) ?_)
          refine R.skp (decide ((ims.length : Int) = n)) true (by kernel_rfl) (dF c5) (by kernel_rfl) ?_
          refine R.go 1 (R.any1 9 (by kernel_rfl) (by kernel_rfl) ?_)
          refine R.skp (decide ((ims.length : Int) = n)) true (by kernel_rfl) (dF c5) (by kernel_rfl) ?_
          refine R.go 1 (R.any1 10 (by kernel_rfl) (by kernel_rfl) ?_)
          refine R.pick (decide ((ims.length : Int) = n)) false (by kernel_rfl) (dF c5) (by kernel_rfl) ?_
          refine R.go 1 (R.any1 11 (by kernel_rfl) (by kernel_rfl) ?_)
          refine R.go 2 (R.any0 (by kernel_rfl) ?_)
          exact R.retE (.bool false) (by kernel_rfl) (by kernel_rfl) (by first | (apply congrArg AV.bool; first | exact mapB_len (by assumption) | exact mapB_any (by assumption)) | (exfalso; omega))
      · by_cases c6 : (ims.length : Int) = n
        · refine R.want (decide ((ims.length : Int) = n)) true (by kernel_rfl) (dT c6) ?_
          refine R.go 2 (R.any1 6 (by kernel_rfl) (by kernel_rfl) ?_)
          refine R.want (decide ((ims.length : Int) = n)) true (by kernel_rfl) (dT c6) ?_
          refine R.go 2 (R.any1 8 (by kernel_rfl) (by kernel_rfl) ?_)
          refine R.want (decide ((ims.length : Int) = n)) true (by kernel_rfl) (dT c6) ?_
          refine R.call false (containsMp_c ims m ys li h0 h8) (by kernel_rfl) rfl (by kernel_rfl) ?_
          refine R.go 1 (R.any1 9 (by kernel_rfl) (by kernel_rfl) ?_)
          refine R.want (decide ((ims.length : Int) = n)) true (by kernel_rfl) (dT c6) ?_
          refine R.go 2 (R.any1 10 (by kernel_rfl) (by kernel_rfl) ?_)
          refine R.pick (decide ((ims.length : Int) = n)) true (by kernel_rfl) (dT c6) (by kernel_rfl) ?_
          refine R.go 1 (R.any1 11 (by kernel_rfl) (by kernel_rfl) ?_)
          refine R.go 2 (R.any0 (by kernel_rfl) ?_)
          exact R.retE (.bool (!(ims.any (fun y => !inR y 0 (m - 1))))) (by kernel_rfl) (by kernel_rfl) (by first | (apply congrArg AV.bool; first | exact mapB_len (by assumption) | exact mapB_any (by assumption)) | (exfalso; omega))
        · refine R.skp (decide ((ims.length : Int) = n)) true (by kernel_rfl) (dF c6) (by kernel_rfl) ?_
          refine R.go 1 (R.any1 6 (by kernel_rfl) (by kernel_rfl) ?_)
          refine R.skp (decide ((ims.length : Int) = n)) true (by kernel_rfl) (dF c6) (by kernel_rfl) ?_
          refine R.go 1 (R.any1 8 (by kernel_rfl) (by kernel_rfl) ?_)
          refine R.skp (decide ((ims.length : Int) = n)) true (by kernel_rfl) (dF c6) (by kernel_rfl) ?_
          refine R.go 1 (R.any1 9 (by kernel_rfl) (by kernel_rfl) ?_)
          refine R.skp (decide ((ims.length : Int) = n)) true (by kernel_rfl) (dF c6) (by kernel_rfl) ?_
          refine R.go 1 (R.any1 10 (by kernel_rfl) (by kernel_rfl) ?_)
          refine R.pick (decide ((ims.length : Int) = n)) false (by kernel_rfl) (dF c6) (by kernel_rfl) ?_
          refine R.go 1 (R.any1 11 (by kernel_rfl) (by kernel_rfl) ?_)
          refine R.go 2 (R.any0 (by kernel_rfl) ?_)
          exact R.retE (.bool false) (by kernel_rfl) (by kernel_rfl) (by first | (apply congrArg AV.bool; first | exact mapB_len (by assumption) | exact mapB_any (by assumption)) | (exfalso; omega))

theorem isMor1_c (x : Nat) (ims : List Int) (n : Int) (xs : List Int) (m : Int) (ys : List Int) (hM : MorH xs ys ims) (hx : x < ims.length) : CallA Tryz.prog 95 [AI (x : Int), .rptr [LI ims], .rptr [AI n, LI xs], .rptr [AI m, LI ys]] (.bool (decide (mapM ims (xs.getD x 0) = ys.getD (ims.getD x 0).toNat 0))) := by
  have hM1 := hM.1
  have hM2 := hM.2.1
  have hMx := hM.2.2.1.1
  have hMv := hM.2.2.2 x hx
  refine CallA.of Tryz.func95 rfl (by kernel_rfl) ?_
  refine R.go 10 (R.idx eI xs 0 x (x : Int) (by kernel_rfl) rfl eI_len (by omega) (by kernel_rfl) ?_)
  refine R.go 1 (R.call true (mapMask_c ims (xs.getD x 0) (by first | assumption | exact morH_i (by assumption)) (by first | assumption | exact hM.2.2.1.2 x (by omega))) (by kernel_rfl) rfl (by kernel_rfl) ?_)
  refine R.go 4 (R.idx eI ims 0 x (x : Int) (by kernel_rfl) rfl eI_len (by omega) (by kernel_rfl) ?_)
  refine R.go 1 (R.idx eI ys 0 (((ims.getD x 0)).toNat) (ims.getD x 0) (by kernel_rfl) (by omega) eI_len (by omega) (by kernel_rfl) ?_)
  exact R.go 4 (R.retE (.bool (decide ((mapM ims (xs.getD x 0)) = (ys.getD (((ims.getD x 0)).toNat) 0)))) (by kernel_rfl) (by kernel_rfl) (by first | (rfl) | (exfalso; omega)))

theorem everyM_c (n : Int) (xs : List Int) (m : Int) (ys : List Int) (ims : List Int) (hM : MorH xs ys ims) (hn : n = (ims.length : Int)) : CallA Tryz.prog 94 [.agg [AI n, LI xs], .fn 95 [.rptr [LI ims], .rptr [AI n, LI xs], .rptr [AI m, LI ys]]] (.bool (morA n xs ys ims)) := by
  have hM1 := hM.1
  have hM2 := hM.2.1
  have hMx := hM.2.2.1.1
  refine CallA.of Tryz.func94 rfl (by kernel_rfl) ?_
  refine R.go 13 (R.loop (fun (x : Nat) => (⟨(frm 16 [(1, .fn 95 [.rptr [LI ims], .rptr [AI n, LI xs], .rptr [AI m, LI ys]]), (7, AI n), (8, AI (x : Int))]), []⟩ : St)) (fun (x : Nat) => (x ≤ n.toNat) ∧ (∀ i : Nat, i < x → MOR xs ys ims i)) (fun (x : Nat) => n.toNat - x) 0 [1, 7, 8] (some []) (by kernel_rfl) (by kernel_rfl) (by kernel_rfl) ⟨(by omega), (by exact fun i hi => absurd hi (by omega))⟩ ?_)
  rintro x ⟨h3_1, h3_2⟩ R1 N2
  refine R.go 5 (R.cond ((x : Int) < n) (by kernel_rfl) (fun c4 => ?_) (fun c4 => ?_))
  · refine R.go 12 (R.call true (isMor1_c x ims n xs m ys hM (by first | omega | (simp <;> omega))) (by kernel_rfl) rfl (by kernel_rfl) ?_)
    refine R.go 2 (R.condN (mapM ims (xs.getD x 0) = ys.getD (ims.getD x 0).toNat 0) (by kernel_rfl) (fun c5 => ?_) (fun c5 => ?_))
    · exact R.go 4 (R.retE (.bool false) (by kernel_rfl) (by kernel_rfl) (by first | (apply congrArg AV.bool; first | exact morA_no (i := x) (by omega) (by assumption) | exact (morA_iff.2 fun i hi => (‹∀ i : Nat, i < x → MOR xs ys ims i›) i (by omega)).symm) | (exfalso; omega)))
    · refine R.go 3 (R.ar ((x : Int) + 1) (by kernel_rfl) (by omega) (by omega) (by kernel_rfl) ?_)
      exact R.go 2 (R.stop R1 (by kernel_rfl) (N2 (x + 1) [1, 7, 8] none _ (by kernel_rfl) (by kernel_rfl) ⟨(by omega), (by exact below1 (P := MOR xs ys ims) (by assumption) (show mapM _ _ = _ by assumption))⟩ (by show (n.toNat - (x + 1)) < (n.toNat - x); omega)))
  · exact R.go 5 (R.retE (.bool true) (by kernel_rfl) (by kernel_rfl) (by first | (apply congrArg AV.bool; first | exact morA_no (i := x) (by omega) (by assumption) | exact (morA_iff.2 fun i hi => (‹∀ i : Nat, i < x → MOR xs ys ims i›) i (by omega)).symm) | (exfalso; omega)))

theorem isMorphism_c (n : Int) (xs : List Int) (m : Int) (ys : List Int) (ims : List Int) (hM : MorH xs ys ims) (hn : n = (ims.length : Int)) : CallA Tryz.prog 38 [.agg [AI n, LI xs], .agg [AI m, LI ys], LI ims] (.bool (morA n xs ys ims)) := by
  refine CallA.of Tryz.func38 rfl (by kernel_rfl) ?_
  refine R.go 11 (R.call false (everyM_c n xs m ys ims hM hn) (by kernel_rfl) rfl (by kernel_rfl) ?_)
  exact R.go 2 (R.retE (.bool (morA n xs ys ims)) (by kernel_rfl) (by kernel_rfl) (by rfl))

theorem mapCodeG_c (n : Int) (xs : List Int) (m : Int) (ys : List Int) (ims : List Int) (l1 : xs.length ≤ 1000000000) (l2 : ys.length ≤ 1000000000) (l3 : ims.length ≤ 1000000000) : CallA Tryz.prog 37 [.agg [AI n, LI xs], .agg [AI m, LI ys], LI ims] (AI (moC n xs m ys ims)) := by
  have hgr := fun h : okFr m ys = true => okFr_rel h
  refine CallA.of Tryz.func37 rfl (by kernel_rfl) ?_
  refine R.go 10 (R.call true (isFrame_c n xs l1) (by kernel_rfl) rfl (by kernel_rfl) ?_)
  refine R.go 2 ?_
  refine (Bool.eq_false_or_eq_true (okFr n xs)).elim (fun c1 => ?_) (fun c1 => ?_)
  · refine R.want (!(okFr n xs)) false (by kernel_rfl) (bnF c1) ?_
    refine R.go 1 (R.want (!(okFr n xs)) false (by kernel_rfl) (bnF c1) ?_)
    refine R.call true (isFrame_c m ys l2) (by kernel_rfl) rfl (by kernel_rfl) ?_
    refine R.want (!(okFr n xs)) false (by kernel_rfl) (bnF c1) ?_
    refine R.go 1 (R.pick (!(okFr n xs)) false (by kernel_rfl) (bnF c1) (by kernel_rfl) ?_)
    refine R.go 1 ?_
    refine (Bool.eq_false_or_eq_true (okFr m ys)).elim (fun c2 => ?_) (fun c2 => ?_)
    · refine R.want (!(okFr m ys)) false (by kernel_rfl) (bnF c2) ?_
      refine R.go 1 (R.want (!(okFr m ys)) false (by kernel_rfl) (bnF c2) ?_)
      refine R.go 1 (R.want (!(okFr m ys)) false (by kernel_rfl) (bnF c2) ?_)
      refine R.go 1 (R.want (!(okFr m ys)) false (by kernel_rfl) (bnF c2) ?_)
      refine R.call true (isMap_c n xs m ys ims (by first | omega | (have hq := hgr (by assumption); omega)) (by first | omega | (have hq := hgr (by assumption); omega)) l3) (by kernel_rfl) rfl (by kernel_rfl) ?_
      refine R.want (!(okFr m ys)) false (by kernel_rfl) (bnF c2) ?_
      refine R.go 1 (R.pick (!(okFr m ys)) false (by kernel_rfl) (bnF c2) (by kernel_rfl) ?_)
      refine R.go 1 (R.condM (mapB n m ims) (by kernel_rfl) (fun c3 => ?_) (fun c3 => ?_))
      · exact R.go 4 (R.retE (AI 1) (by kernel_rfl) (by kernel_rfl) (by first | (apply congrArg AI; first | exact moC_1 (by assumption) | exact moC_2 (by assumption) | exact moC_3 (by assumption) | exact moC_0 (by assumption) (by assumption) (by assumption)) | (exfalso; omega)))
      · exact R.go 5 (R.retE (AI 0) (by kernel_rfl) (by kernel_rfl) (by first | (apply congrArg AI; first | exact moC_1 (by assumption) | exact moC_2 (by assumption) | exact moC_3 (by assumption) | exact moC_0 (by assumption) (by assumption) (by assumption)) | (exfalso; omega)))
    · refine R.skp (!(okFr m ys)) false (by kernel_rfl) (bnT c2) (by kernel_rfl) ?_
      refine R.skp (!(okFr m ys)) false (by kernel_rfl) (bnT c2) (by kernel_rfl) ?_
      refine R.skp (!(okFr m ys)) false (by kernel_rfl) (bnT c2) (by kernel_rfl) ?_
      refine R.skp (!(okFr m ys)) false (by kernel_rfl) (bnT c2) (by kernel_rfl) ?_
      refine R.skp (!(okFr m ys)) false (by kernel_rfl) (bnT c2) (by kernel_rfl) ?_
      refine R.pick (!(okFr m ys)) true (by kernel_rfl) (bnT c2) (by kernel_rfl) ?_
      exact R.go 6 (R.retE (AI 1) (by kernel_rfl) (by kernel_rfl) (by first | (apply congrArg AI; first | exact moC_1 (by assumption) | exact moC_2 (by assumption) | exact moC_3 (by assumption) | exact moC_0 (by assumption) (by assumption) (by assumption)) | (exfalso; omega)))
  · refine R.skp (!(okFr n xs)) false (by kernel_rfl) (bnT c1) (by kernel_rfl) ?_
    refine R.skp (!(okFr n xs)) false (by kernel_rfl) (bnT c1) (by kernel_rfl) ?_
    refine R.skp (!(okFr n xs)) false (by kernel_rfl) (bnT c1) (by kernel_rfl) ?_
    refine R.pick (!(okFr n xs)) true (by kernel_rfl) (bnT c1) (by kernel_rfl) ?_
    exact R.go 13 (R.retE (AI 1) (by kernel_rfl) (by kernel_rfl) (by first | (apply congrArg AI; first | exact moC_1 (by assumption) | exact moC_2 (by assumption) | exact moC_3 (by assumption) | exact moC_0 (by assumption) (by assumption) (by assumption)) | (exfalso; omega)))

theorem l08Map_c (n : Int) (xs : List Int) (m : Int) (ys : List Int) (ims : List Int) (h0 : 0 ≤ m) (h8 : m ≤ 8) (li : ims.length ≤ 1000000000) : CallA Tryz.prog 97 [.agg [AI n, LI xs], .agg [AI m, LI ys], LI ims] (.bool (mapB n m ims)) := by
  refine CallA.of Tryz.func97 rfl (by kernel_rfl) ?_
  refine R.go 15 (R.condN ((ims.length : Int) = n) (by kernel_rfl) (fun c1 => ?_) (fun c1 => ?_))
  · exact R.go 4 (R.retE (.bool false) (by kernel_rfl) (by kernel_rfl) (by first | (apply congrArg AV.bool; first | exact mapB_len (by assumption) | exact (mapB_mk (by assumption) (fun j hj => (‹∀ j : Nat, j < i → inR (ims.getD j 0) 0 (m - 1) = true›) j (by omega))).symm | exact (mapB_no (i := i) (by omega) (by assumption)).symm) | (exfalso; omega)))
  · refine R.go 7 (R.loop (fun (i : Nat) => (⟨(frm 26 [(2, LI ims), (4, .ptr 0 0), (7, AI (i : Int))]), [.box 26 [AI m, LI ys]]⟩ : St)) (fun (i : Nat) => (i ≤ ims.length) ∧ (∀ j : Nat, j < i → inR (ims.getD j 0) 0 (m - 1) = true)) (fun (i : Nat) => ims.length - i) 0 [2, 4, 7] (some [1]) (by kernel_rfl) (by kernel_rfl) (by kernel_rfl) ⟨(by omega), (by exact fun j hj => absurd hj (by omega))⟩ ?_)
    rintro i ⟨h4_1, h4_2⟩ R2 N3
    refine R.go 8 (R.cond ((i : Int) < (ims.length : Int)) (by kernel_rfl) (fun c5 => ?_) (fun c5 => ?_))
    · refine R.go 8 (R.idx eI ims 0 i (i : Int) (by kernel_rfl) rfl eI_len (by omega) (by kernel_rfl) ?_)
      refine R.go 1 (R.call true (l05World_c m ys (ims.getD i 0) h0 h8) (by kernel_rfl) rfl (by kernel_rfl) ?_)
      refine R.go 2 (R.condM (inR (ims.getD i 0) 0 (m - 1)) (by kernel_rfl) (fun c6 => ?_) (fun c6 => ?_))
      · exact R.go 4 (R.retE (.bool false) (by kernel_rfl) (by kernel_rfl) (by first | (apply congrArg AV.bool; first | exact mapB_len (by assumption) | exact (mapB_mk (by assumption) (fun j hj => (‹∀ j : Nat, j < i → inR (ims.getD j 0) 0 (m - 1) = true›) j (by omega))).symm | exact (mapB_no (i := i) (by omega) (by assumption)).symm) | (exfalso; omega)))
      · refine R.go 4 (R.ar ((i : Int) + 1) (by kernel_rfl) (by omega) (by omega) (by kernel_rfl) ?_)
        exact R.go 2 (R.stop R2 (by kernel_rfl) (N3 (i + 1) [2, 4, 7] none _ (by kernel_rfl) (by kernel_rfl) ⟨(by omega), (by exact below1 (P := fun j => inR (ims.getD j 0) 0 (m - 1) = true) (by assumption) (by assumption))⟩ (by show (ims.length - (i + 1)) < (ims.length - i); omega)))
    · exact R.go 5 (R.retE (.bool true) (by kernel_rfl) (by kernel_rfl) (by first | (apply congrArg AV.bool; first | exact mapB_len (by assumption) | exact (mapB_mk (by assumption) (fun j hj => (‹∀ j : Nat, j < i → inR (ims.getD j 0) 0 (m - 1) = true›) j (by omega))).symm | exact (mapB_no (i := i) (by omega) (by assumption)).symm) | (exfalso; omega)))

theorem l08Code_c (n : Int) (xs : List Int) (m : Int) (ys : List Int) (ims : List Int) (l1 : xs.length ≤ 1000000000) (l2 : ys.length ≤ 1000000000) (l3 : ims.length ≤ 1000000000) : CallA Tryz.prog 39 [.agg [AI n, LI xs], .agg [AI m, LI ys], LI ims] (AI (moC n xs m ys ims)) := by
  have hgr := fun h : okFr m ys = true => okFr_rel h
  refine CallA.of Tryz.func39 rfl (by kernel_rfl) ?_
  refine R.go 10 (R.call true (l05Is_c n xs l1) (by kernel_rfl) rfl (by kernel_rfl) ?_)
  refine R.go 2 ?_
  refine (Bool.eq_false_or_eq_true (okFr n xs)).elim (fun c1 => ?_) (fun c1 => ?_)
  · refine R.want (!(okFr n xs)) false (by kernel_rfl) (bnF c1) ?_
    refine R.go 1 (R.want (!(okFr n xs)) false (by kernel_rfl) (bnF c1) ?_)
    refine R.call true (l05Is_c m ys l2) (by kernel_rfl) rfl (by kernel_rfl) ?_
    refine R.want (!(okFr n xs)) false (by kernel_rfl) (bnF c1) ?_
    refine R.go 1 (R.pick (!(okFr n xs)) false (by kernel_rfl) (bnF c1) (by kernel_rfl) ?_)
    refine R.go 1 ?_
    refine (Bool.eq_false_or_eq_true (okFr m ys)).elim (fun c2 => ?_) (fun c2 => ?_)
    · refine R.want (!(okFr m ys)) false (by kernel_rfl) (bnF c2) ?_
      refine R.go 1 (R.want (!(okFr m ys)) false (by kernel_rfl) (bnF c2) ?_)
      refine R.go 1 (R.want (!(okFr m ys)) false (by kernel_rfl) (bnF c2) ?_)
      refine R.go 1 (R.want (!(okFr m ys)) false (by kernel_rfl) (bnF c2) ?_)
      refine R.call true (l08Map_c n xs m ys ims (by first | omega | (have hq := hgr (by assumption); omega)) (by first | omega | (have hq := hgr (by assumption); omega)) l3) (by kernel_rfl) rfl (by kernel_rfl) ?_
      refine R.want (!(okFr m ys)) false (by kernel_rfl) (bnF c2) ?_
      refine R.go 1 (R.pick (!(okFr m ys)) false (by kernel_rfl) (bnF c2) (by kernel_rfl) ?_)
      refine R.go 1 (R.condM (mapB n m ims) (by kernel_rfl) (fun c3 => ?_) (fun c3 => ?_))
      · exact R.go 4 (R.retE (AI 1) (by kernel_rfl) (by kernel_rfl) (by first | (apply congrArg AI; first | exact moC_1 (by assumption) | exact moC_2 (by assumption) | exact moC_3 (by assumption) | exact moC_0 (by assumption) (by assumption) (by assumption)) | (exfalso; omega)))
      · exact R.go 5 (R.retE (AI 0) (by kernel_rfl) (by kernel_rfl) (by first | (apply congrArg AI; first | exact moC_1 (by assumption) | exact moC_2 (by assumption) | exact moC_3 (by assumption) | exact moC_0 (by assumption) (by assumption) (by assumption)) | (exfalso; omega)))
    · refine R.skp (!(okFr m ys)) false (by kernel_rfl) (bnT c2) (by kernel_rfl) ?_
      refine R.skp (!(okFr m ys)) false (by kernel_rfl) (bnT c2) (by kernel_rfl) ?_
      refine R.skp (!(okFr m ys)) false (by kernel_rfl) (bnT c2) (by kernel_rfl) ?_
      refine R.skp (!(okFr m ys)) false (by kernel_rfl) (bnT c2) (by kernel_rfl) ?_
      refine R.skp (!(okFr m ys)) false (by kernel_rfl) (bnT c2) (by kernel_rfl) ?_
      refine R.pick (!(okFr m ys)) true (by kernel_rfl) (bnT c2) (by kernel_rfl) ?_
      exact R.go 6 (R.retE (AI 1) (by kernel_rfl) (by kernel_rfl) (by first | (apply congrArg AI; first | exact moC_1 (by assumption) | exact moC_2 (by assumption) | exact moC_3 (by assumption) | exact moC_0 (by assumption) (by assumption) (by assumption)) | (exfalso; omega)))
  · refine R.skp (!(okFr n xs)) false (by kernel_rfl) (bnT c1) (by kernel_rfl) ?_
    refine R.skp (!(okFr n xs)) false (by kernel_rfl) (bnT c1) (by kernel_rfl) ?_
    refine R.skp (!(okFr n xs)) false (by kernel_rfl) (bnT c1) (by kernel_rfl) ?_
    refine R.pick (!(okFr n xs)) true (by kernel_rfl) (bnT c1) (by kernel_rfl) ?_
    exact R.go 13 (R.retE (AI 1) (by kernel_rfl) (by kernel_rfl) (by first | (apply congrArg AI; first | exact moC_1 (by assumption) | exact moC_2 (by assumption) | exact moC_3 (by assumption) | exact moC_0 (by assumption) (by assumption) (by assumption)) | (exfalso; omega)))

theorem l08Is_c (n : Int) (xs : List Int) (m : Int) (ys : List Int) (ims : List Int) (hM : MorH xs ys ims) (hn : n = (ims.length : Int)) : CallA Tryz.prog 40 [.agg [AI n, LI xs], .agg [AI m, LI ys], LI ims] (.bool (morA n xs ys ims)) := by
  have hM1 := hM.1
  have hM2 := hM.2.1
  have hMx := hM.2.2.1.1
  have hMI : ∀ j, j < ims.length → 0 ≤ ims.getD j 0 ∧ ims.getD j 0 ≤ 60 := fun j hj => by have := hM.2.2.2 j hj; omega
  refine CallA.of Tryz.func40 rfl (by kernel_rfl) ?_
  refine R.go 12 (R.loop (fun (x : Nat) => (⟨(frm 30 [(2, LI ims), (3, .ptr 0 0), (4, .ptr 1 0), (7, AI (x : Int))]), [.box 26 [AI n, LI xs], .box 26 [AI m, LI ys]]⟩ : St)) (fun (x : Nat) => (x ≤ ims.length) ∧ (∀ i : Nat, i < x → MOR xs ys ims i)) (fun (x : Nat) => ims.length - x) 0 [2, 3, 4, 7] none (by kernel_rfl) (by kernel_rfl) (by kernel_rfl) ⟨(by omega), (by exact fun i hi => absurd hi (by omega))⟩ ?_)
  rintro x ⟨h3_1, h3_2⟩ R1 N2
  refine R.go 8 (R.cond ((x : Int) < (ims.length : Int)) (by kernel_rfl) (fun c4 => ?_) (fun c4 => ?_))
  · have hMv := hM.2.2.2 x (by omega)
    have himg := imgL_map (ims := ims) (m := xs.getD x 0) (by omega) (hM.2.2.1.2 x (by omega))
    refine R.go 9 (R.idx eI xs 0 x (x : Int) (by kernel_rfl) rfl eI_len (by omega) (by kernel_rfl) ?_)
    refine R.go 1 (R.call true (l08Image_c ims (xs.getD x 0) (by first | omega | (simp <;> omega)) hMI) (by kernel_rfl) rfl (by kernel_rfl) ?_)
    refine R.go 4 (R.idx eI ims 0 x (x : Int) (by kernel_rfl) rfl eI_len (by omega) (by kernel_rfl) ?_)
    refine R.go 1 (R.idx eI ys 0 (((ims.getD x 0)).toNat) (ims.getD x 0) (by kernel_rfl) (by omega) eI_len (by omega) (by kernel_rfl) ?_)
    refine R.go 3 (R.condN ((imgL ims (xs.getD x 0) ims.length) = (ys.getD (((ims.getD x 0)).toNat) 0)) (by kernel_rfl) (fun c5 => ?_) (fun c5 => ?_))
    · exact R.go 4 (R.retE (.bool false) (by kernel_rfl) (by kernel_rfl) (by first | (apply congrArg AV.bool; first | exact morA_no (i := x) (by omega) (by rw [← himg]; assumption) | exact (morA_iff.2 fun i hi => (‹∀ i : Nat, i < x → MOR xs ys ims i›) i (by omega)).symm) | (exfalso; omega)))
    · refine R.go 4 (R.ar ((x : Int) + 1) (by kernel_rfl) (by omega) (by omega) (by kernel_rfl) ?_)
      exact R.go 2 (R.stop R1 (by kernel_rfl) (N2 (x + 1) [2, 3, 4, 7] none _ (by kernel_rfl) (by kernel_rfl) ⟨(by omega), (by exact below1 (P := MOR xs ys ims) (by assumption) (show mapM _ _ = _ by rw [← himg]; assumption))⟩ (by show (ims.length - (x + 1)) < (ims.length - x); omega)))
  · exact R.go 5 (R.retE (.bool true) (by kernel_rfl) (by kernel_rfl) (by first | (apply congrArg AV.bool; first | exact morA_no (i := x) (by omega) (by rw [← himg]; assumption) | exact (morA_iff.2 fun i hi => (‹∀ i : Nat, i < x → MOR xs ys ims i›) i (by omega)).symm) | (exfalso; omega)))

theorem IM_impl (n : Int) (xs : List Int) (m : Int) (ys : List Int) (ims : List Int) (l1 : xs.length ≤ 1000000000) (l2 : ys.length ≤ 1000000000) (l3 : ims.length ≤ 1000000000) : CallA Tryz.prog 8 [.agg [AI n, LI xs], .agg [AI m, LI ys], LI ims] (.tup [.bool (moR n xs m ys ims), AI (moC n xs m ys ims)]) := by
  refine CallA.of Tryz.func8 rfl (by kernel_rfl) ?_
  refine R.go 13 (R.call true (mapCodeG_c n xs m ys ims l1 l2 l3) (by kernel_rfl) rfl (by kernel_rfl) ?_)
  refine R.go 7 (R.condN ((moC n xs m ys ims) = 0) (by kernel_rfl) (fun c1 => ?_) (fun c1 => ?_))
  · exact R.go 6 (R.retE (.tup [.bool false, AI (moC n xs m ys ims)]) (by kernel_rfl) (by kernel_rfl) (by first | (refine tupBI ?_ ?_ <;> first | rfl | exact moR_0 (by assumption) | exact moR_n (by assumption) | exact Eq.symm (by assumption)) | (exfalso; omega)))
  · have hmk := moC_ok (by assumption : moC n xs m ys ims = 0)
    have hM : MorH xs ys ims := hmk.2.2.2.1
    have hnl := hmk.2.2.2.2
    refine R.go 6 (R.call true (isMorphism_c n xs m ys ims hM (by first | omega | (simp <;> omega))) (by kernel_rfl) rfl (by kernel_rfl) ?_)
    exact R.go 3 (R.retE (.tup [.bool (morA n xs ys ims), AI 0]) (by kernel_rfl) (by kernel_rfl) (by first | (refine tupBI ?_ ?_ <;> first | rfl | exact moR_0 (by assumption) | exact moR_n (by assumption) | exact Eq.symm (by assumption)) | (exfalso; omega)))

theorem IM_spec (n : Int) (xs : List Int) (m : Int) (ys : List Int) (ims : List Int) (l1 : xs.length ≤ 1000000000) (l2 : ys.length ≤ 1000000000) (l3 : ims.length ≤ 1000000000) : CallA Tryz.prog 9 [.agg [AI n, LI xs], .agg [AI m, LI ys], LI ims] (.tup [.bool (moR n xs m ys ims), AI (moC n xs m ys ims)]) := by
  refine CallA.of Tryz.func9 rfl (by kernel_rfl) ?_
  refine R.go 13 (R.call true (l08Code_c n xs m ys ims l1 l2 l3) (by kernel_rfl) rfl (by kernel_rfl) ?_)
  refine R.go 7 (R.condN ((moC n xs m ys ims) = 0) (by kernel_rfl) (fun c1 => ?_) (fun c1 => ?_))
  · exact R.go 6 (R.retE (.tup [.bool false, AI (moC n xs m ys ims)]) (by kernel_rfl) (by kernel_rfl) (by first | (refine tupBI ?_ ?_ <;> first | rfl | exact moR_0 (by assumption) | exact moR_n (by assumption) | exact Eq.symm (by assumption)) | (exfalso; omega)))
  · have hmk := moC_ok (by assumption : moC n xs m ys ims = 0)
    have hM : MorH xs ys ims := hmk.2.2.2.1
    have hnl := hmk.2.2.2.2
    refine R.go 6 (R.call true (l08Is_c n xs m ys ims hM (by first | omega | (simp <;> omega))) (by kernel_rfl) rfl (by kernel_rfl) ?_)
    exact R.go 3 (R.retE (.tup [.bool (morA n xs ys ims), AI 0]) (by kernel_rfl) (by kernel_rfl) (by first | (refine tupBI ?_ ?_ <;> first | rfl | exact moR_0 (by assumption) | exact moR_n (by assumption) | exact Eq.symm (by assumption)) | (exfalso; omega)))

theorem l08Pull_c (L : List Int) (vs : List Int) (hl : L.length ≤ 60) (hL : ∀ j, j < L.length → 0 ≤ L.getD j 0 ∧ L.getD j 0 ≤ 60) (lv : vs.length ≤ 1000) : CallA Tryz.prog 46 [LI L, LI vs] (ownA eI 2 1 (pulV L vs)) := by
  refine CallA.of Tryz.func46 rfl (by kernel_rfl) ?_
  refine R.go 15 (R.loop ((fun | (t, out) => (⟨(frm 40 [(0, LI L), (1, LI vs), (5, .ref 0), (6, AI (t : Int))]), [rowA eI 2 1 out]⟩ : St) : Nat × (List Int) → St)) (fun | (t, out) => (t ≤ vs.length) ∧ (out = (vs.take t).map fun v => sqz L v L.length)) (fun | (t, out) => vs.length - t) (0, []) [0, 1, 5, 6] none (by kernel_rfl) (by kernel_rfl) (by kernel_rfl) ⟨(by omega), (by rfl)⟩ ?_)
  rintro ⟨t, out⟩ ⟨h4_1, rfl⟩ R1 N2
  have hol : ((vs.take t).map fun v => sqz L v L.length).length = t := by simp; omega
  refine R.go 8 (R.cond ((t : Int) < (vs.length : Int)) (by kernel_rfl) (fun c5 => ?_) (fun c5 => ?_))
  · refine R.go 13 (R.loop ((fun | (i, r) => (⟨(frm 40 [(0, LI L), (1, LI vs), (5, .ref 0), (6, AI (t : Int)), (7, AI r), (8, AI (i : Int))]), [rowA eI 2 1 ((vs.take t).map fun v => sqz L v L.length)]⟩ : St) : Nat × Int → St)) (fun | (i, r) => (i ≤ L.length) ∧ (r = sqz L (vs.getD t 0) i)) (fun | (i, r) => L.length - i) (0, 0) [0, 1, 5, 6, 7, 8] none (by kernel_rfl) (by kernel_rfl) (by kernel_rfl) ⟨(by omega), (by rfl)⟩ ?_)
    rintro ⟨i, r⟩ ⟨h9_1, rfl⟩ R6 N7
    refine R.go 8 (R.cond ((i : Int) < (L.length : Int)) (by kernel_rfl) (fun c10 => ?_) (fun c10 => ?_))
    · have hj := hL i (by omega)
      refine R.go 7 (R.idx eI vs 0 t (t : Int) (by kernel_rfl) rfl eI_len (by omega) (by kernel_rfl) ?_)
      refine R.go 3 (R.idx eI L 0 i (i : Int) (by kernel_rfl) rfl eI_len (by omega) (by kernel_rfl) ?_)
      refine R.go 1 (R.call true (l01Bit_c (vs.getD t 0) (L.getD i 0) (by omega) (by omega)) (by kernel_rfl) rfl (by kernel_rfl) ?_)
      refine R.go 1 (R.cond (band (shr64 (vs.getD t 0) (L.getD i 0)) 1 = 1) (by kernel_rfl) (fun c11 => ?_) (fun c11 => ?_))
      · refine R.go 3 (R.call true (l01One_c (i : Int) (by omega) (by omega)) (by kernel_rfl) rfl (by kernel_rfl) ?_)
        refine R.go 6 (R.ar ((i : Int) + 1) (by kernel_rfl) (by omega) (by omega) (by kernel_rfl) ?_)
        exact R.go 2 (R.stop R6 (by kernel_rfl) (N7 (i + 1, bor (sqz L (vs.getD t 0) i) (shl64 1 (i : Int))) [0, 1, 5, 6, 7, 8] none _ (by kernel_rfl) (by kernel_rfl) ⟨(by omega), (by first | exact sqz_yes (by assumption) | exact sqz_no (by assumption))⟩ (by show (L.length - (i + 1)) < (L.length - i); omega)))
      · refine R.go 4 (R.ar ((i : Int) + 1) (by kernel_rfl) (by omega) (by omega) (by kernel_rfl) ?_)
        exact R.go 2 (R.stop R6 (by kernel_rfl) (N7 (i + 1, sqz L (vs.getD t 0) i) [0, 1, 5, 6, 7, 8] none _ (by kernel_rfl) (by kernel_rfl) ⟨(by omega), (by first | exact sqz_yes (by assumption) | exact sqz_no (by assumption))⟩ (by show (L.length - (i + 1)) < (L.length - i); omega)))
    · refine R.go 5 (R.app eI ((vs.take t).map fun v => sqz L v L.length) [sqz L (vs.getD t 0) i] 0 2 1 8 (by kernel_rfl) eI_one (by decide) (by first | omega | (simp <;> omega)) (by kernel_rfl) ?_)
      refine R.go 5 (R.ar ((t : Int) + 1) (by kernel_rfl) (by omega) (by omega) (by kernel_rfl) ?_)
      exact R.go 2 (R.stop R1 (by kernel_rfl) (N2 (t + 1, ((vs.take t).map fun v => sqz L v L.length) ++ [sqz L (vs.getD t 0) i]) [0, 1, 5, 6] (some [0]) _ (by kernel_rfl) (by kernel_rfl) ⟨(by omega), (by first | exact map_take (f := fun v => sqz L v L.length) (by omega) | (rw [show i = L.length by omega]; exact map_take (f := fun v => sqz L v L.length) (by omega)))⟩ (by show (vs.length - (t + 1)) < (vs.length - t); omega)))
  · exact R.go 6 (R.retE (ownA eI 2 1 ((vs.take t).map fun v => sqz L v L.length)) (by kernel_rfl) (by kernel_rfl) (by first | (rw [show t = vs.length by omega, List.take_length]; rfl) | (exfalso; omega)))

theorem PV_spec (n : Int) (xs : List Int) (mw : Int) (ys : List Int) (L : List Int) (vs : List Int) (hz : moC n xs mw ys L = 0) (hp : pvH mw L vs) (lv : vs.length ≤ 1000) (l1 : xs.length ≤ 1000000000) (l2 : ys.length ≤ 1000000000) (l3 : L.length ≤ 1000000000) : CallA Tryz.prog 13 [.agg [AI n, LI xs], .agg [AI mw, LI ys], LI L, LI vs] (.tup [ownA eI 2 1 (pulV L vs), AI 0]) := by
  have hmk := moC_ok hz
  have hg := okFr_rel hmk.2.1
  have hMl := hmk.2.2.2.1.1
  have hL0 : ∀ j, j < L.length → 0 ≤ L.getD j 0 ∧ L.getD j 0 ≤ 60 := fun j hj => by have := hp.1 j hj; omega
  have hvb : (!(vs.any fun m => !inR m 0 ((shl64 1 mw) - 1))) = true := by rw [anyI_all (p := fun q => !inR q 0 ((shl64 1 mw) - 1)) fun j hj => by have := (full_rng (n := mw.toNat) (by omega)).1 (hp.2 j hj); rw [nn_eq hg.1] at this; rw [this]; rfl]; rfl
  refine CallA.of Tryz.func13 rfl (by kernel_rfl) ?_
  refine R.go 13 (R.call true (l08Code_c n xs mw ys L l1 l2 l3) (by kernel_rfl) rfl (by kernel_rfl) ?_)
  refine R.go 2 ?_
  by_cases c1 : (moC n xs mw ys L) = 0
  · refine R.want (!decide ((moC n xs mw ys L) = 0)) false (by kernel_rfl) (nF c1) ?_
    refine R.go 1 (R.want (!decide ((moC n xs mw ys L) = 0)) false (by kernel_rfl) (nF c1) ?_)
    refine R.go 1 (R.want (!decide ((moC n xs mw ys L) = 0)) false (by kernel_rfl) (nF c1) ?_)
    refine R.go 1 (R.want (!decide ((moC n xs mw ys L) = 0)) false (by kernel_rfl) (nF c1) ?_)
    refine R.call true (l01Masks_c mw vs (by first | omega | (simp <;> omega)) (by omega) (by omega)) (by kernel_rfl) rfl (by kernel_rfl) ?_
    refine R.want (!decide ((moC n xs mw ys L) = 0)) false (by kernel_rfl) (nF c1) ?_
    refine R.go 1 (R.pick (!decide ((moC n xs mw ys L) = 0)) false (by kernel_rfl) (nF c1) (by kernel_rfl) ?_)
    refine R.go 1 (R.els (!(!(vs.any fun m => !inR m 0 ((shl64 1 mw) - 1)))) (by kernel_rfl) (bnF hvb) ?_)
    refine R.go 5 (R.call true (l08Pull_c L vs (by first | omega | (simp <;> omega)) hL0 lv) (by kernel_rfl) rfl (by kernel_rfl) ?_)
    exact R.go 3 (R.retE (.tup [ownA eI 2 1 (pulV L vs), AI 0]) (by kernel_rfl) (by kernel_rfl) (by rfl))
  · refine R.skp (!decide ((moC n xs mw ys L) = 0)) false (by kernel_rfl) (nT c1) (by kernel_rfl) ?_
    refine R.skp (!decide ((moC n xs mw ys L) = 0)) false (by kernel_rfl) (nT c1) (by kernel_rfl) ?_
    refine R.skp (!decide ((moC n xs mw ys L) = 0)) false (by kernel_rfl) (nT c1) (by kernel_rfl) ?_
    refine R.skp (!decide ((moC n xs mw ys L) = 0)) false (by kernel_rfl) (nT c1) (by kernel_rfl) ?_
    refine R.skp (!decide ((moC n xs mw ys L) = 0)) false (by kernel_rfl) (nT c1) (by kernel_rfl) ?_
    refine R.pick (!decide ((moC n xs mw ys L) = 0)) true (by kernel_rfl) (nT c1) (by kernel_rfl) ?_
    refine R.go 7 (R.nil 8 2 1 (by kernel_rfl) ?_)
    exact R.retE (.tup [ownA eI 2 1 [], AI 1]) (by kernel_rfl) (by kernel_rfl) (by first | (first | exact absurd (hvb.symm.trans (by assumption : _ = false)) (by decide) | exact absurd hz (by assumption)) | (exfalso; omega))

end Go.Proofs.YtgebepfdphmjcaaGreat


/-! Calls by reference whose caller's frame does not name one object (a row that the call may move). -/
namespace Go.Abs
open Go.RowKit Go.ChangeShapes Go.WideShapes Go.Deep

mutual
theorem AV.kill_ren {js : List Nat} {q q2 : Nat} (h : ∀ i, js.contains i = true → js.idxOf i = q → i = q2) : ∀ c : AV, c.kill q2 = c → (c.ren js).kill q = c.ren js
  | .int _ _, _ => rfl
  | .bool _, _ => rfl
  | .str _, _ => rfl
  | .nil, _ => rfl
  | .top, _ => rfl
  | .own _ _ _ _, _ => rfl
  | .lst _ _ _, _ => rfl
  | .clp _ _ _, _ => rfl
  | .rptr _, _ => rfl
  | .ref i, hk => by
    simp only [AV.kill, AV.ren] at hk ⊢
    split at hk
    · cases hk
    · rename_i hne
      cases hc : js.contains i with
      | true =>
        simp only [if_true, AV.kill]
        rw [if_neg fun e => hne (h i hc e)]
      | false => simp [AV.kill]
  | .ptr i o, hk => by
    simp only [AV.kill, AV.ren] at hk ⊢
    split at hk
    · cases hk
    · rename_i hne
      cases hc : js.contains i with
      | true =>
        simp only [if_true, AV.kill]
        rw [if_neg fun e => hne (h i hc e)]
      | false => simp [AV.kill]
  | .agg cs, hk => by
    simp only [AV.kill, AV.agg.injEq] at hk
    simp only [AV.ren, AV.kill, killL_ren h cs hk]
  | .tup cs, hk => by
    simp only [AV.kill, AV.tup.injEq] at hk
    simp only [AV.ren, AV.kill, killL_ren h cs hk]
  | .fn f cs, hk => by
    simp only [AV.kill, AV.fn.injEq, true_and] at hk
    simp only [AV.ren, AV.kill, killL_ren h cs hk]
theorem killL_ren {js : List Nat} {q q2 : Nat} (h : ∀ i, js.contains i = true → js.idxOf i = q → i = q2) : ∀ cs : List AV, killL q2 cs = cs → killL q (renL js cs) = renL js cs
  | [], _ => rfl
  | c :: cs, hk => by
    simp only [killL, List.cons.injEq] at hk
    simp only [renL, killL, AV.kill_ren h c hk.1, killL_ren h cs hk.2]
end
theorem killL_app (q : Nat) : ∀ xs ys : List AV, killL q (xs ++ ys) = killL q xs ++ killL q ys
  | [], _ => rfl
  | x :: xs, ys => by simp [killL, killL_app q xs ys]
theorem insI_kill {k n q : Nat} (hk : k ≤ n) : ∀ i, (insI k n).contains i = true → (insI k n).idxOf i = q → i = (if q < k then q else q + 1) := fun i hi hq => by
  obtain ⟨_, g2⟩ := insI_idx hk hi
  rw [hq] at g2
  exact g2

def CallY (P : Program) (q : Nat) (f : FuncId) (args : List AV) (hp : List AObj) (Φ : AV → List AObj → Prop) : Prop :=
  Enters P f ∧ ∀ (Z0 F : Nat → Prop) (w0 w : World) (μ vs us : List Value) (fr : List AV), (∀ b, F b → w0.heap.size ≤ b ∧ b < w.heap.size) → HRel w (Zone Z0 F w0.heap.size) w0.heap.size μ hp → RelL w (Zone Z0 F w0.heap.size) μ args vs → RelL w (Zone Z0 F w0.heap.size) μ fr us → Below w0.heap.size w0 w → killL q fr = fr →
    Calls P f vs.toArray w fun e w' => ∃ v μ' F' res hp', Φ res hp' ∧ e = .returned v ∧ (∀ b, F' b → w0.heap.size ≤ b ∧ b < w'.heap.size) ∧ HRel w' (Zone Z0 F' w0.heap.size) w0.heap.size μ' hp' ∧ Rel w' (Zone Z0 F' w0.heap.size) μ' res v ∧ RelL w' (Zone Z0 F' w0.heap.size) μ' fr us ∧ Below w0.heap.size w0 w'

section
variable {rd : Option Nat} {P : Program} {m : M} {Q : Exit → St → Prop}
theorem CallY.ofF {q : Nat} {f : FuncId} {fn : Func} {c : Code} {args : List AV} {hp : List AObj} {Φ : AV → List AObj → Prop} (hf : P.funcs[f]? = some fn) (hb : fn.body = some c) (hnm : (fn.name == "runtime.NumGoroutine") = false)
    (h : ∀ us fr, Fits hp.length fr → killL q fr = fr → Runs none P ⟨[.code c], ⟨frameOf fn.ntmps args, hp ++ [.frame us fr]⟩⟩ (retX P fn hp.length us fr Φ)) : CallY P q f args hp Φ := by
  refine ⟨enters_of hf hnm (by rw [hb]; rfl), ?_⟩
  intro Z0 F w0 w μ vs us fr hFb hH hvs hus hbel hkq
  have hml := hH.len
  have hfit : Fits hp.length fr := ⟨fun js hjs => RelL.fitR (by rw [hml]; exact hjs) hus, fun i hi => RelL.fitK (by rw [hml]; exact hi) hus, fun i r hi => RelL.fitF (by rw [hml]; exact hi) hus⟩
  · have hlen := hvs.length
    refine calls_of_wpIn hf hb ?_
    have hS : Sim Z0 w0 ⟨frameOf fn.ntmps args, hp ++ [.frame us fr]⟩ { tmps := vs.toArray ++ Array.replicate (fn.ntmps - vs.toArray.size) undef, defers := [] } w := by
      refine ⟨μ ++ [.bool false], F, hFb, hH.extend1 (zone_new hbel.size hFb) (Below.refl _ _) ?_ (fun g hg => by simp [blk] at hg) rfl, ?_, .inl rfl, hbel⟩
      · exact RelL.keep (w := w) (fun _ _ _ => rfl) (fun i u hu => append_old i u hu) hus
      · simp only [Array.toList_append, Array.toList_replicate, List.size_toArray, hlen, frameOf]
        refine RelL.append (RelL.keep (w := w) (fun _ _ _ => rfl) (fun i u hu => append_old i u hu) hvs) ?_
        generalize fn.ntmps - args.length = n
        induction n with
        | zero => exact RelL.nil
        | succ n ih => exact RelL.cons (by simp [Rel]) ih
    have hrun2 := h us fr hfit hkq
    simp only [runs_iff] at hrun2
    simp only [RunsK] at hrun2
    refine wpIn_mono (hrun2 Z0 w0 _ w hS) ?_
    have fin : ∀ (e : Exit) (st' : St) (a' : Act) (w' : World), retX P fn hp.length us fr Φ e st' → Sim Z0 w0 st' a' w' → a'.defers = [] ∧ ∃ v, (results fn a'.tmps).run P w' = .ok v w' ∧ ∃ v' μ' F' res hp', Φ res hp' ∧ Ending.returned v = .returned v' ∧ (∀ b, F' b → w0.heap.size ≤ b ∧ b < w'.heap.size) ∧ HRel w' (Zone Z0 F' w0.heap.size) w0.heap.size μ' hp' ∧ Rel w' (Zone Z0 F' w0.heap.size) μ' res v' ∧ RelL w' (Zone Z0 F' w0.heap.size) μ' fr us ∧ Below w0.heap.size w0 w' := by
      rintro e st' a' w' ⟨res, hp', hΦ, _, hres, hfr, hh⟩ ⟨μ', F', hFb', hH', hF', hd', hbel'⟩
      obtain ⟨x, h1, h2⟩ := resIn_run hH' hF' hres
      unfold frameAt at hfr
      split at hfr
      · rename_i us2 fr2 hi
        cases hfr
        have hil : hp.length < μ'.length := by rw [hH'.len]; exact (List.getElem?_eq_some_iff.1 hi).1
        have hfrr : RelL w' (Zone Z0 F' w0.heap.size) μ' fr us := hH'.obj _ _ _ hi (List.getElem?_eq_getElem hil)
        exact ⟨hd'.none (resIn_mark hres), x, h1, x, μ', F', res, hp', hΦ, rfl, hFb', hh ▸ hH'.bury _, h2, hfrr, hbel'⟩
      · cases hfr
    rintro e a' w' ⟨st', hq, hS'⟩
    cases e with
    | normal => exact fin _ st' a' w' hq hS'
    | ret => exact fin _ st' a' w' hq hS'
    | exit id => (obtain ⟨_, _, _, hq, _⟩ := hq; exact absurd hq (by simp))
    | goto l => (obtain ⟨_, _, _, hq, _⟩ := hq; exact absurd hq (by simp))
    | panic ch => (obtain ⟨_, _, _, hq, _⟩ := hq; exact absurd hq (by simp))
    | outgrown => (obtain ⟨_, _, _, hq, _⟩ := hq; exact absurd hq (by simp))
end
section
variable {P : Program}
theorem CallY.dropE {P : Program} {q : Nat} {f : FuncId} {args : List AV} {hp : List AObj} {Φ : AV → List AObj → Prop} (hc : CallY P q f args hp fun r h => ∃ js : List Nat, js.take hp.length = List.range hp.length ∧ js.Nodup ∧ Φ (r.ren js) (renH js h)) :
    CallY P q f args hp Φ := by
  obtain ⟨hen, hc⟩ := hc
  refine ⟨hen, ?_⟩
  intro Z0 F w0 w μ vs us fr hFb hH hvs hus hbel hkq
  refine (hc Z0 F w0 w μ vs us fr hFb hH hvs hus hbel hkq).mono ?_
  rintro e w' ⟨v, μ1, F1, res, hp', ⟨js, h1, h2, hΦ⟩, rfl, hF1, hH1, hres, hfr1, hb1⟩
  have hm1 := hH1.len
  have hjs : ∀ i, i < hp.length → js[i]? = some i := by
    intro i hi
    have := congrArg (fun l : List Nat => l[i]?) h1
    simp only [List.getElem?_take, if_pos hi] at this
    rw [this]
    simp [hi]
  refine ⟨v, _, F1, _, _, hΦ, rfl, hF1, hH1.ren js h2, Rel.ren js hres, ?_, hb1⟩
  refine RelL.mix (n := hp.length) ?_ ?_ hus (hfr1.ren (List.range hp.length))
  · intro i x hi hx
    rw [List.getElem?_map, hjs i hi]
    rw [List.getElem?_map] at hx
    simpa [hi] using hx
  · intro i x hi hx
    have h4 := (List.getElem?_eq_some_iff.1 hx).1
    have h5 := hH.len
    omega
theorem CallY.inF {q : Nat} {f : FuncId} {args : List AV} {hp : List AObj} {Φ : AV → List AObj → Prop} (k : Nat) (us2 : List Value) (fr2 : List AV) (hc : CallY P q f args hp Φ) (hk : k ≤ hp.length)
    (h1 : renH (insI k hp.length) (insF k us2 fr2 hp) = hp) (h2 : renL (insI k hp.length) (renL (insJ k hp.length) args) = args) (h3 : ∀ r h', Φ r h' → hp.length ≤ h'.length) (q2 : Nat) (hq2 : q2 = if q < k then q else q + 1) (hkf : killL q2 fr2 = fr2) :
    CallY P q2 f (renL (insJ k hp.length) args) (insF k us2 fr2 hp) fun r h => ∃ res hp', Φ res hp' ∧ r = res.ren (insJ k hp'.length) ∧ h = insF k us2 fr2 hp' := by
  obtain ⟨hen, hc⟩ := hc
  refine ⟨hen, ?_⟩
  intro Z0 F w0 w μ vs us fr hFb hH hvs hus hbel hkq
  have hHl : (insF k us2 fr2 hp).length = hp.length + 1 := by
    unfold insF renH insJ
    simp
    omega
  have hml : μ.length = hp.length + 1 := by rw [hH.len, hHl]
  have hH0 := hH.ren (insI k hp.length) (insI_nodup hk)
  have e0 : ((insI k hp.length).map fun i => ((insF k us2 fr2 hp).getD i .dead).ren (insI k hp.length)) = hp := h1
  rw [e0] at hH0
  have hvs0 := hvs.ren (insI k hp.length)
  rw [h2] at hvs0
  have hn2 : (insF k us2 fr2 hp)[k]? = some (.frame us2 fr2) := by
    unfold insF
    rw [List.getElem?_set_self]
    have : (renH (insJ k hp.length) (hp ++ [.dead])).length = hp.length + 1 := by unfold renH insJ; simp; omega
    omega
  obtain ⟨u, hu⟩ : ∃ u, μ[k]? = some u := ⟨_, List.getElem?_eq_getElem (by omega)⟩
  have hf2 : RelL w (Zone Z0 F w0.heap.size) μ fr2 us2 := hH.obj _ _ u hn2 hu
  have hus0 := (hus.append hf2).ren (insI k hp.length)
  refine (hc Z0 F w0 w _ vs (us ++ us2) _ hFb hH0 hvs0 hus0 hbel (killL_ren (q2 := q2) (fun i hi e => by rw [hq2]; exact insI_kill hk i hi e) _ (by rw [killL_app, hkq, hkf]))).mono ?_
  rintro e w' ⟨v, μ1, F1, res, hp', hΦ, rfl, hF1, hH1, hres, hfr1, hb1⟩
  have h3 := h3 _ _ hΦ
  have hm1 := hH1.len
  have hHd := hH1.addDead u (hH.one _ u hu)
  have hH2 := hHd.ren (insJ k hp'.length) (insJ_nodup (by omega))
  obtain ⟨μ2, hμ2⟩ : ∃ μ2, μ2 = ((insJ k hp'.length).map fun i => (μ1 ++ [u]).getD i (.bool false)) := ⟨_, rfl⟩
  have hA : ∀ (i : Nat) x, (insI k hp.length).contains i = true → μ1[(insI k hp.length).idxOf i]? = some x → μ2[i]? = some x := by
    intro i x hi hx
    obtain ⟨g1, g2⟩ := insI_idx hk hi
    generalize (insI k hp.length).idxOf i = j at g1 g2 hx
    have hj : (insJ k hp'.length)[i]? = some j := by
      split at g2
      · rw [g2]; exact insJ_lo (by assumption)
      · rw [g2]; exact insJ_hi (by omega) (by omega)
    rw [hμ2, List.getElem?_map, hj]
    simp only [Option.map_some, List.getD_eq_getElem?_getD]
    rw [List.getElem?_append_left (List.getElem?_eq_some_iff.1 hx).1, hx]
    rfl
  have hB : ∀ (i : Nat) x, (insI k hp.length).contains i = false → μ[i]? = some x → μ2[i]? = some x := by
    intro i x hi hx
    have hlt := (List.getElem?_eq_some_iff.1 hx).1
    have hin : i = k := by
      refine Classical.byContradiction fun hne => ?_
      have := insI_mem hk (i := i) (by omega) hne
      rw [this] at hi
      cases hi
    subst hin
    rw [hu] at hx
    rw [hμ2, List.getElem?_map, insJ_at]
    simp only [Option.map_some, List.getD_eq_getElem?_getD]
    rw [List.getElem?_append_right (by omega), hm1]
    simpa using hx
  rw [← hμ2] at hH2
  have hall := RelL.mixJ hA hB (hus.append hf2) hfr1
  have hul := hus.length
  have hfr : RelL w' (Zone Z0 F1 w0.heap.size) μ2 fr us := by
    have := hall.take fr.length
    rwa [List.take_left, ← hul, List.take_left] at this
  have hfr2 : RelL w' (Zone Z0 F1 w0.heap.size) μ2 fr2 us2 := by
    have := hall.drop fr.length
    rwa [List.drop_left, ← hul, List.drop_left] at this
  refine ⟨v, μ2, F1, _, _, ⟨res, hp', hΦ, rfl, rfl⟩, rfl, hF1, ?_, ?_, hfr, hb1⟩
  · refine hH2.frameAt ?_ hfr2
    rw [List.getElem?_map, insJ_at]
    simp [AObj.ren]
  · rw [hμ2]
    exact Rel.ren _ (Rel.keep (w := w') (fun _ _ _ => rfl) (fun i u hu => append_old i u hu) hres)
end
end Go.Abs


/-! Calls by reference that may move a row which the caller's frame names: the frame forgets it. -/
namespace Go.Abs
open Go.RowKit Go.ChangeShapes Go.WideShapes Go.Deep

mutual
theorem AV.kill_kill (q : Nat) : ∀ c : AV, (c.kill q).kill q = c.kill q
  | .int _ _ => rfl
  | .bool _ => rfl
  | .str _ => rfl
  | .nil => rfl
  | .top => rfl
  | .own _ _ _ _ => rfl
  | .lst _ _ _ => rfl
  | .clp _ _ _ => rfl
  | .rptr _ => rfl
  | .ref i => by
    simp only [AV.kill]
    split
    · rfl
    · rename_i h
      simp only [AV.kill, if_neg h]
  | .ptr i o => by
    simp only [AV.kill]
    split
    · rfl
    · rename_i h
      simp only [AV.kill, if_neg h]
  | .agg cs => by simp only [AV.kill, killL_kill q cs]
  | .tup cs => by simp only [AV.kill, killL_kill q cs]
  | .fn f cs => by simp only [AV.kill, killL_kill q cs]
theorem killL_kill (q : Nat) : ∀ cs : List AV, killL q (killL q cs) = killL q cs
  | [] => rfl
  | c :: cs => by simp only [killL, AV.kill_kill q c, killL_kill q cs]
end

mutual
/-- What does not name object i is as it was when object i is only read from now on. -/
theorem bxV_kill (i : Nat) (ds : List AV) : ∀ c : AV, c.kill i = c → bxV i ds c = c
  | .int _ _, _ => rfl
  | .bool _, _ => rfl
  | .str _, _ => rfl
  | .nil, _ => rfl
  | .top, _ => rfl
  | .own _ _ _ _, _ => rfl
  | .lst _ _ _, _ => rfl
  | .clp _ _ _, _ => rfl
  | .rptr _, _ => rfl
  | .ref _, _ => rfl
  | .ptr j o, h => by
    simp only [AV.kill] at h
    simp only [bxV]
    split at h
    · cases h
    · rename_i hne
      rw [if_neg hne]
  | .agg cs, h => by
    simp only [AV.kill, AV.agg.injEq] at h
    simp only [bxV, bxL_kill i ds cs h]
  | .tup cs, h => by
    simp only [AV.kill, AV.tup.injEq] at h
    simp only [bxV, bxL_kill i ds cs h]
  | .fn f cs, h => by
    simp only [AV.kill, AV.fn.injEq, true_and] at h
    simp only [bxV, bxL_kill i ds cs h]
theorem bxL_kill (i : Nat) (ds : List AV) : ∀ cs : List AV, killL i cs = cs → bxL i ds cs = cs
  | [], _ => rfl
  | c :: cs, h => by
    simp only [killL, List.cons.injEq] at h
    simp only [bxL, bxV_kill i ds c h.1, bxL_kill i ds cs h.2]
end

section
variable {rd : Option Nat} {P : Program} {m : M} {Q : Exit → St → Prop}
theorem OpsQ.callZ {all : Array Oper} {o : Oper} {l : List Oper} {fr : List AV} {hp : List AObj} {R : Exit → St → Prop} {c : Operand} {args : Array Operand} {tys : Array TypeId} {q : Nat} {f : FuncId} {caps : List AV} {Φ : AV → List AObj → Prop} (hnm : noMark hp = true) (hw : WantedA all o fr)
    (hop : o.op = .call { callee := .value c, args := args, argTypes := tys }) (hc : ev fr c = .fn f caps) (hcall : CallY P q f (args.toList.map (ev fr) ++ caps) hp Φ) (h' : ∀ res hp', Φ res hp' → OpsQ rd P all l ⟨putF (killL q fr) o.dst res, hp'⟩ R) : OpsQ rd P all (o :: l) ⟨fr, hp⟩ R := by
  intro Z0 w0 a w hS
  refine wpListIn_step fun K hK => ?_
  obtain ⟨μ, F, hFb, hH, hF, hd, hb⟩ := hS
  rw [wanted_rel hF hw, if_pos rfl]
  have hE : ∀ y, Rel w (Zone Z0 F w0.heap.size) μ (ev fr y) (a.eval y) := fun y => ev_rel hF y
  have hcv := hc ▸ hE c
  simp only [Rel] at hcv
  obtain ⟨cv, hcv, hrc⟩ := hcv
  have hargs' : RelL w (Zone Z0 F w0.heap.size) μ (args.toList.map (ev fr)) (args.toList.map a.eval) := by
    generalize args.toList = l
    induction l with
    | nil => exact RelL.nil
    | cons x l ih => exact RelL.cons (hE x) ih
  obtain ⟨hen, hcall⟩ := hcall
  have hFk : RelL w (Zone Z0 F w0.heap.size) μ (killL q fr) a.tmps.toList := RelL.keep_kill q (fun _ _ _ => rfl) (fun i u _ h => h) hF
  have hC := hcall Z0 F w0 w μ _ _ (killL q fr) hFb hH (hargs'.append hrc) hFk hb (killL_kill q fr)
  have hrun : (execOp a.eval o).run P w = .ok (.enter f (args.toList.map a.eval ++ cv).toArray) w := by
    have e1 : (args.map a.eval ++ cv.toArray) = (args.toList.map a.eval ++ cv).toArray := by
      apply Array.toList_inj.1; simp
    simp only [execOp, hop, resolve, Deferred.ofValue, hcv, Sem.run_bind, Sem.run_pure, Result.andThen_ok, invoke, Array.empty_append]
    rw [e1]
    exact hen _ _
  refine wpIn_of_run (fun c' => by rw [hop]; simp) ?_
  rw [hrun]
  refine upon_enter hC ?_
  rintro en w' ⟨x, μ', F', res, hp', hΦ, rfl, hFb', hH', hr, hF', hbel⟩
  exact ⟨x, rfl, hK _ _ (h' res hp' hΦ Z0 w0 _ _ ⟨μ', F', hFb', hH', put_rel hF' _ hr, by rw [put_defers']; exact .inl (hd.none hnm), hbel⟩)⟩

theorem R.callZ {q : Nat} {f : FuncId} {avs : List AV} {hp : List AObj} {Φ : AV → List AObj → Prop} (hc : CallY P q f avs hp Φ) (h : csAt m = some (f, avs)) (hh : m.st.hp = hp) (ht : opsHd m = true) (h' : ∀ res hp', Φ res hp' → Runs rd P (putM ⟨m.ks, ⟨killL q m.st.fr, m.st.hp⟩⟩ none res hp') Q) : Runs rd P m Q := by
  have hnm := csAt_mark h
  obtain ⟨fo, args, tys, caps, hop, hf, rfl⟩ := csAt_parts h
  subst hh
  obtain ⟨ks, ⟨fr, hp⟩⟩ := m
  unfold opM headOf at hop
  unfold opsHd at ht
  unfold putM at h'
  simp only [runs_iff] at h' ⊢
  try simp only at hop ht h' hf hc hnm ⊢
  split at hop
  · rename_i all o fl t heq
    split at hop
    · rename_i hw
      simp only [Option.some.injEq] at hop
      split at heq
      · cases heq
        intro hW
        exact OpsQ.callZ hnm (wantH_true hw hW) hop hf hc fun res hp' hΦ => h' res hp' hΦ headW_false
      · simp at ht
      · cases heq
    · cases hop
  · cases hop
end
end Go.Abs


/-! Draws, existential: numbers. -/
namespace Go.Proofs.YtgebepfdphmjcaaGreat
open Go.RowKit Go.Abs

theorem u64and (a : Int) : 0 ≤ bits .and .u64 a 16777215 ∧ bits .and .u64 a 16777215 ≤ 16777215 := by
  show 0 ≤ IntKind.u64.wrap _ ∧ IntKind.u64.wrap _ ≤ 16777215
  rw [IntKind.wrap_u64]
  have h : (BitVec.ofInt 64 a &&& BitVec.ofInt 64 16777215).toNat ≤ 16777215 := by
    rw [BitVec.toNat_and]
    exact Nat.le_trans Nat.and_le_right (by decide)
  have e : ∀ k : Nat, k ≤ 16777215 → 0 ≤ ((k : Int) % 18446744073709551616) ∧ ((k : Int) % 18446744073709551616) ≤ 16777215 := fun k hk => by omega
  exact e _ h
def BY (c : List Int) : Prop := c.length ≤ 4096 ∧ ∀ j : Nat, j < c.length → 0 ≤ c.getD j 0 ∧ c.getD j 0 ≤ 255
theorem mod_rng {x n : Int} (h : ¬ n < 1) : (n < 1 → x % n = 0) ∧ (1 ≤ n → 0 ≤ x % n ∧ x % n < n) := ⟨fun h1 => absurd h1 h, fun h1 => ⟨Int.emod_nonneg _ (by omega), Int.emod_lt_of_pos _ (by omega)⟩⟩

theorem nextX_c (c : List Int) (p : Nat) (h : Int) (n : Int) (hc : BY c) : CallX Tryz.prog 53 [.ptr 0 0, AI n] [.box 120 [LB c, AI (p : Int), .int .u64 h]] (fun (resX : AV) (objX : List AObj) => ∃ v : Int, ∃ p1 : Nat, ∃ h1 : Int, ((n < 1 → v = 0) ∧ (1 ≤ n → 0 ≤ v ∧ v < n)) ∧ resX = AI v ∧ objX = [.box 120 [LB c, AI (p1 : Int), .int .u64 h1]]) := by
  have hcl : c.length ≤ 4096 := hc.1
  have hcb := hc.2
  have hxr := fun h => u64and (shr64 (IntKind.u64.wrap (IntKind.u64.wrap (h * 6364136223846793005) + 1442695040888963407)) 33)
  have hxh := hxr h
  refine CallX.dropE (CallX.ofF Tryz.func53 rfl (by kernel_rfl) ?_)
  intro usC frC hfC
  refine R.go 10 (R.cond (n < 1) (by kernel_rfl) (fun c1 => ?_) (fun c1 => ?_))
  · exact R.go 4 (R.retX (res := AI 0) (hp' := [.box 120 [LB c, AI (p : Int), .int .u64 h], .dead]) (by kernel_rfl) (by kernel_rfl) (by kernel_rfl) (by kernel_rfl) ⟨[0], by kernel_rfl, by decide, 0, p, h, by first | exact mod_rng (by assumption) | exact ⟨fun _ => rfl, fun h1 => by omega⟩, by kernel_rfl, by kernel_rfl⟩)
  · refine R.go 22 (R.cv .i64 (bits .and .u64 (shr64 (IntKind.u64.wrap ((IntKind.u64.wrap (h * 6364136223846793005)) + 1442695040888963407)) 33) 16777215) (by kernel_rfl) (wrap_id (by omega) (by omega)) (by kernel_rfl) ?_)
    refine R.go 16 (R.cond ((p : Int) < (c.length : Int)) (by kernel_rfl) (fun c2 => ?_) (fun c2 => ?_))
    · have hbp := hcb p (by omega)
      refine R.go 11 (R.idx eB c 0 p (p : Int) (by kernel_rfl) rfl eB_len (by omega) (by kernel_rfl) ?_)
      refine R.go 1 (R.cv .i64 (c.getD p 0) (by kernel_rfl) (wrap_id (by omega) (by omega)) (by kernel_rfl) ?_)
      refine R.ar ((bits .and .u64 (shr64 (IntKind.u64.wrap ((IntKind.u64.wrap (h * 6364136223846793005)) + 1442695040888963407)) 33) 16777215) + (c.getD p 0)) (by kernel_rfl) (by omega) (by omega) (by kernel_rfl) ?_
      refine R.go 8 (R.ar ((p : Int) + 1) (by kernel_rfl) (by omega) (by omega) (by kernel_rfl) ?_)
      refine R.go 8 (R.rem ((bits .and .u64 (shr64 (IntKind.u64.wrap ((IntKind.u64.wrap (h * 6364136223846793005)) + 1442695040888963407)) 33) 16777215) + (c.getD p 0)) n (by kernel_rfl) (by omega) (by omega) (by kernel_rfl) ?_)
      exact R.go 2 (R.retX (res := AI (((bits .and .u64 (shr64 (IntKind.u64.wrap ((IntKind.u64.wrap (h * 6364136223846793005)) + 1442695040888963407)) 33) 16777215) + (c.getD p 0)) % n)) (hp' := [.box 120 [LB c, AI ((p : Int) + 1), .int .u64 (IntKind.u64.wrap ((IntKind.u64.wrap (h * 6364136223846793005)) + 1442695040888963407))], .dead]) (by kernel_rfl) (by kernel_rfl) (by kernel_rfl) (by kernel_rfl) ⟨[0], by kernel_rfl, by decide, ((bits .and .u64 (shr64 (IntKind.u64.wrap ((IntKind.u64.wrap (h * 6364136223846793005)) + 1442695040888963407)) 33) 16777215) + (c.getD p 0)) % n, p + 1, IntKind.u64.wrap ((IntKind.u64.wrap (h * 6364136223846793005)) + 1442695040888963407), by first | exact mod_rng (by assumption) | exact ⟨fun _ => rfl, fun h1 => by omega⟩, by kernel_rfl, by kernel_rfl⟩)
    · refine R.go 5 (R.rem (bits .and .u64 (shr64 (IntKind.u64.wrap ((IntKind.u64.wrap (h * 6364136223846793005)) + 1442695040888963407)) 33) 16777215) n (by kernel_rfl) (by omega) (by omega) (by kernel_rfl) ?_)
      exact R.go 2 (R.retX (res := AI ((bits .and .u64 (shr64 (IntKind.u64.wrap ((IntKind.u64.wrap (h * 6364136223846793005)) + 1442695040888963407)) 33) 16777215) % n)) (hp' := [.box 120 [LB c, AI (p : Int), .int .u64 (IntKind.u64.wrap ((IntKind.u64.wrap (h * 6364136223846793005)) + 1442695040888963407))], .dead]) (by kernel_rfl) (by kernel_rfl) (by kernel_rfl) (by kernel_rfl) ⟨[0], by kernel_rfl, by decide, (bits .and .u64 (shr64 (IntKind.u64.wrap ((IntKind.u64.wrap (h * 6364136223846793005)) + 1442695040888963407)) 33) 16777215) % n, p, IntKind.u64.wrap ((IntKind.u64.wrap (h * 6364136223846793005)) + 1442695040888963407), by first | exact mod_rng (by assumption) | exact ⟨fun _ => rfl, fun h1 => by omega⟩, by kernel_rfl, by kernel_rfl⟩)

theorem nextX_c_r1 (c : List Int) (p : Nat) (h : Int) (n : Int) (eo1 : Nat) (so1 : Nat) (no1 : Nat) (co1 : List AV) (hc : BY c) : CallX Tryz.prog 53 [.ptr 0 0, AI n] [.box 120 [LB c, AI (p : Int), .int .u64 h], .list eo1 so1 no1 co1] (fun (resX : AV) (objX : List AObj) => ∃ v : Int, ∃ p1 : Nat, ∃ h1 : Int, ((n < 1 → v = 0) ∧ (1 ≤ n → 0 ≤ v ∧ v < n)) ∧ resX = AI v ∧ objX = [.box 120 [LB c, AI (p1 : Int), .int .u64 h1], .list eo1 so1 no1 co1]) := by
  have hcl : c.length ≤ 4096 := hc.1
  have hcb := hc.2
  have hxr := fun h => u64and (shr64 (IntKind.u64.wrap (IntKind.u64.wrap (h * 6364136223846793005) + 1442695040888963407)) 33)
  have hxh := hxr h
  refine CallX.dropE (CallX.ofF Tryz.func53 rfl (by kernel_rfl) ?_)
  intro usC frC hfC
  refine R.go 10 (R.cond (n < 1) (by kernel_rfl) (fun c1 => ?_) (fun c1 => ?_))
  · exact R.go 4 (R.retX (res := AI 0) (hp' := [.box 120 [LB c, AI (p : Int), .int .u64 h], .list eo1 so1 no1 co1, .dead]) (by kernel_rfl) (by kernel_rfl) (by kernel_rfl) (by kernel_rfl) ⟨[0, 1], by kernel_rfl, by decide, 0, p, h, by first | exact mod_rng (by assumption) | exact ⟨fun _ => rfl, fun h1 => by omega⟩, by kernel_rfl, by kernel_rfl⟩)
  · refine R.go 22 (R.cv .i64 (bits .and .u64 (shr64 (IntKind.u64.wrap ((IntKind.u64.wrap (h * 6364136223846793005)) + 1442695040888963407)) 33) 16777215) (by kernel_rfl) (wrap_id (by omega) (by omega)) (by kernel_rfl) ?_)
    refine R.go 16 (R.cond ((p : Int) < (c.length : Int)) (by kernel_rfl) (fun c2 => ?_) (fun c2 => ?_))
    · have hbp := hcb p (by omega)
      refine R.go 11 (R.idx eB c 0 p (p : Int) (by kernel_rfl) rfl eB_len (by omega) (by kernel_rfl) ?_)
      refine R.go 1 (R.cv .i64 (c.getD p 0) (by kernel_rfl) (wrap_id (by omega) (by omega)) (by kernel_rfl) ?_)
      refine R.ar ((bits .and .u64 (shr64 (IntKind.u64.wrap ((IntKind.u64.wrap (h * 6364136223846793005)) + 1442695040888963407)) 33) 16777215) + (c.getD p 0)) (by kernel_rfl) (by omega) (by omega) (by kernel_rfl) ?_
      refine R.go 8 (R.ar ((p : Int) + 1) (by kernel_rfl) (by omega) (by omega) (by kernel_rfl) ?_)
      refine R.go 8 (R.rem ((bits .and .u64 (shr64 (IntKind.u64.wrap ((IntKind.u64.wrap (h * 6364136223846793005)) + 1442695040888963407)) 33) 16777215) + (c.getD p 0)) n (by kernel_rfl) (by omega) (by omega) (by kernel_rfl) ?_)
      exact R.go 2 (R.retX (res := AI (((bits .and .u64 (shr64 (IntKind.u64.wrap ((IntKind.u64.wrap (h * 6364136223846793005)) + 1442695040888963407)) 33) 16777215) + (c.getD p 0)) % n)) (hp' := [.box 120 [LB c, AI ((p : Int) + 1), .int .u64 (IntKind.u64.wrap ((IntKind.u64.wrap (h * 6364136223846793005)) + 1442695040888963407))], .list eo1 so1 no1 co1, .dead]) (by kernel_rfl) (by kernel_rfl) (by kernel_rfl) (by kernel_rfl) ⟨[0, 1], by kernel_rfl, by decide, ((bits .and .u64 (shr64 (IntKind.u64.wrap ((IntKind.u64.wrap (h * 6364136223846793005)) + 1442695040888963407)) 33) 16777215) + (c.getD p 0)) % n, p + 1, IntKind.u64.wrap ((IntKind.u64.wrap (h * 6364136223846793005)) + 1442695040888963407), by first | exact mod_rng (by assumption) | exact ⟨fun _ => rfl, fun h1 => by omega⟩, by kernel_rfl, by kernel_rfl⟩)
    · refine R.go 5 (R.rem (bits .and .u64 (shr64 (IntKind.u64.wrap ((IntKind.u64.wrap (h * 6364136223846793005)) + 1442695040888963407)) 33) 16777215) n (by kernel_rfl) (by omega) (by omega) (by kernel_rfl) ?_)
      exact R.go 2 (R.retX (res := AI ((bits .and .u64 (shr64 (IntKind.u64.wrap ((IntKind.u64.wrap (h * 6364136223846793005)) + 1442695040888963407)) 33) 16777215) % n)) (hp' := [.box 120 [LB c, AI (p : Int), .int .u64 (IntKind.u64.wrap ((IntKind.u64.wrap (h * 6364136223846793005)) + 1442695040888963407))], .list eo1 so1 no1 co1, .dead]) (by kernel_rfl) (by kernel_rfl) (by kernel_rfl) (by kernel_rfl) ⟨[0, 1], by kernel_rfl, by decide, (bits .and .u64 (shr64 (IntKind.u64.wrap ((IntKind.u64.wrap (h * 6364136223846793005)) + 1442695040888963407)) 33) 16777215) % n, p, IntKind.u64.wrap ((IntKind.u64.wrap (h * 6364136223846793005)) + 1442695040888963407), by first | exact mod_rng (by assumption) | exact ⟨fun _ => rfl, fun h1 => by omega⟩, by kernel_rfl, by kernel_rfl⟩)

theorem nextX_c_r6 (c : List Int) (p : Nat) (h : Int) (n : Int) (eo1 : Nat) (so1 : Nat) (no1 : Nat) (co1 : List AV) (eo2 : Nat) (so2 : Nat) (no2 : Nat) (co2 : List AV) (eo3 : Nat) (so3 : Nat) (no3 : Nat) (co3 : List AV) (eo4 : Nat) (so4 : Nat) (no4 : Nat) (co4 : List AV) (eo5 : Nat) (so5 : Nat) (no5 : Nat) (co5 : List AV) (eo6 : Nat) (so6 : Nat) (no6 : Nat) (co6 : List AV) (hc : BY c) : CallX Tryz.prog 53 [.ptr 0 0, AI n] [.box 120 [LB c, AI (p : Int), .int .u64 h], .list eo1 so1 no1 co1, .list eo2 so2 no2 co2, .list eo3 so3 no3 co3, .list eo4 so4 no4 co4, .list eo5 so5 no5 co5, .list eo6 so6 no6 co6] (fun (resX : AV) (objX : List AObj) => ∃ v : Int, ∃ p1 : Nat, ∃ h1 : Int, ((n < 1 → v = 0) ∧ (1 ≤ n → 0 ≤ v ∧ v < n)) ∧ resX = AI v ∧ objX = [.box 120 [LB c, AI (p1 : Int), .int .u64 h1], .list eo1 so1 no1 co1, .list eo2 so2 no2 co2, .list eo3 so3 no3 co3, .list eo4 so4 no4 co4, .list eo5 so5 no5 co5, .list eo6 so6 no6 co6]) := by
  have hcl : c.length ≤ 4096 := hc.1
  have hcb := hc.2
  have hxr := fun h => u64and (shr64 (IntKind.u64.wrap (IntKind.u64.wrap (h * 6364136223846793005) + 1442695040888963407)) 33)
  have hxh := hxr h
  refine CallX.dropE (CallX.ofF Tryz.func53 rfl (by kernel_rfl) ?_)
  intro usC frC hfC
  refine R.go 10 (R.cond (n < 1) (by kernel_rfl) (fun c1 => ?_) (fun c1 => ?_))
  · exact R.go 4 (R.retX (res := AI 0) (hp' := [.box 120 [LB c, AI (p : Int), .int .u64 h], .list eo1 so1 no1 co1, .list eo2 so2 no2 co2, .list eo3 so3 no3 co3, .list eo4 so4 no4 co4, .list eo5 so5 no5 co5, .list eo6 so6 no6 co6, .dead]) (by kernel_rfl) (by kernel_rfl) (by kernel_rfl) (by kernel_rfl) ⟨[0, 1, 2, 3, 4, 5, 6], by kernel_rfl, by decide, 0, p, h, by first | exact mod_rng (by assumption) | exact ⟨fun _ => rfl, fun h1 => by omega⟩, by kernel_rfl, by kernel_rfl⟩)
  · refine R.go 22 (R.cv .i64 (bits .and .u64 (shr64 (IntKind.u64.wrap ((IntKind.u64.wrap (h * 6364136223846793005)) + 1442695040888963407)) 33) 16777215) (by kernel_rfl) (wrap_id (by omega) (by omega)) (by kernel_rfl) ?_)
    refine R.go 16 (R.cond ((p : Int) < (c.length : Int)) (by kernel_rfl) (fun c2 => ?_) (fun c2 => ?_))
    · have hbp := hcb p (by omega)
      refine R.go 11 (R.idx eB c 0 p (p : Int) (by kernel_rfl) rfl eB_len (by omega) (by kernel_rfl) ?_)
      refine R.go 1 (R.cv .i64 (c.getD p 0) (by kernel_rfl) (wrap_id (by omega) (by omega)) (by kernel_rfl) ?_)
      refine R.ar ((bits .and .u64 (shr64 (IntKind.u64.wrap ((IntKind.u64.wrap (h * 6364136223846793005)) + 1442695040888963407)) 33) 16777215) + (c.getD p 0)) (by kernel_rfl) (by omega) (by omega) (by kernel_rfl) ?_
      refine R.go 8 (R.ar ((p : Int) + 1) (by kernel_rfl) (by omega) (by omega) (by kernel_rfl) ?_)
      refine R.go 8 (R.rem ((bits .and .u64 (shr64 (IntKind.u64.wrap ((IntKind.u64.wrap (h * 6364136223846793005)) + 1442695040888963407)) 33) 16777215) + (c.getD p 0)) n (by kernel_rfl) (by omega) (by omega) (by kernel_rfl) ?_)
      exact R.go 2 (R.retX (res := AI (((bits .and .u64 (shr64 (IntKind.u64.wrap ((IntKind.u64.wrap (h * 6364136223846793005)) + 1442695040888963407)) 33) 16777215) + (c.getD p 0)) % n)) (hp' := [.box 120 [LB c, AI ((p : Int) + 1), .int .u64 (IntKind.u64.wrap ((IntKind.u64.wrap (h * 6364136223846793005)) + 1442695040888963407))], .list eo1 so1 no1 co1, .list eo2 so2 no2 co2, .list eo3 so3 no3 co3, .list eo4 so4 no4 co4, .list eo5 so5 no5 co5, .list eo6 so6 no6 co6, .dead]) (by kernel_rfl) (by kernel_rfl) (by kernel_rfl) (by kernel_rfl) ⟨[0, 1, 2, 3, 4, 5, 6], by kernel_rfl, by decide, ((bits .and .u64 (shr64 (IntKind.u64.wrap ((IntKind.u64.wrap (h * 6364136223846793005)) + 1442695040888963407)) 33) 16777215) + (c.getD p 0)) % n, p + 1, IntKind.u64.wrap ((IntKind.u64.wrap (h * 6364136223846793005)) + 1442695040888963407), by first | exact mod_rng (by assumption) | exact ⟨fun _ => rfl, fun h1 => by omega⟩, by kernel_rfl, by kernel_rfl⟩)
    · refine R.go 5 (R.rem (bits .and .u64 (shr64 (IntKind.u64.wrap ((IntKind.u64.wrap (h * 6364136223846793005)) + 1442695040888963407)) 33) 16777215) n (by kernel_rfl) (by omega) (by omega) (by kernel_rfl) ?_)
      exact R.go 2 (R.retX (res := AI ((bits .and .u64 (shr64 (IntKind.u64.wrap ((IntKind.u64.wrap (h * 6364136223846793005)) + 1442695040888963407)) 33) 16777215) % n)) (hp' := [.box 120 [LB c, AI (p : Int), .int .u64 (IntKind.u64.wrap ((IntKind.u64.wrap (h * 6364136223846793005)) + 1442695040888963407))], .list eo1 so1 no1 co1, .list eo2 so2 no2 co2, .list eo3 so3 no3 co3, .list eo4 so4 no4 co4, .list eo5 so5 no5 co5, .list eo6 so6 no6 co6, .dead]) (by kernel_rfl) (by kernel_rfl) (by kernel_rfl) (by kernel_rfl) ⟨[0, 1, 2, 3, 4, 5, 6], by kernel_rfl, by decide, (bits .and .u64 (shr64 (IntKind.u64.wrap ((IntKind.u64.wrap (h * 6364136223846793005)) + 1442695040888963407)) 33) 16777215) % n, p, IntKind.u64.wrap ((IntKind.u64.wrap (h * 6364136223846793005)) + 1442695040888963407), by first | exact mod_rng (by assumption) | exact ⟨fun _ => rfl, fun h1 => by omega⟩, by kernel_rfl, by kernel_rfl⟩)

theorem pickX_c_r1 (c : List Int) (p : Nat) (h : Int) (L : List Int) (eo1 : Nat) (so1 : Nat) (no1 : Nat) (co1 : List AV) (hc : BY c) (hL : 1 ≤ L.length ∧ L.length ≤ 100) : CallX Tryz.prog 54 [.ptr 0 0, LI L] [.box 120 [LB c, AI (p : Int), .int .u64 h], .list eo1 so1 no1 co1] (fun (resX : AV) (objX : List AObj) => ∃ v : Int, ∃ p1 : Nat, ∃ h1 : Int, resX = AI v ∧ objX = [.box 120 [LB c, AI (p1 : Int), .int .u64 h1], .list eo1 so1 no1 co1]) := by
  have hcl : c.length ≤ 4096 := hc.1
  have hcb := hc.2
  refine CallX.dropE (CallX.ofF Tryz.func54 rfl (by kernel_rfl) ?_)
  intro usC frC hfC
  refine R.go 10 (R.callX (CallX.inF 2 usC frC (nextX_c_r1 c p h L.length eo1 so1 no1 co1 hc) (Nat.le_of_ble_eq_true (by kernel_rfl)) (by kernel_rfl) (by kernel_rfl) (by rintro _ _ ⟨_, _, _, _, rfl, rfl⟩; exact Nat.le_of_ble_eq_true (by kernel_rfl))) (by kernel_rfl) (by kernel_rfl) (by kernel_rfl) ?_)
  rintro _ _ ⟨_, _, ⟨v_1, p1_2, h1_3, f4, rfl, rfl⟩, rfl, rfl⟩
  refine R.idx eI L 0 ((v_1).toNat) v_1 (by kernel_rfl) (by omega) eI_len (by omega) (by kernel_rfl) ?_
  exact R.go 3 (R.retX (res := AI (L.getD ((v_1).toNat) 0)) (hp' := [.box 120 [LB c, AI (p1_2 : Int), .int .u64 h1_3], .list eo1 so1 no1 co1, .dead]) (by kernel_rfl) (by kernel_rfl) (by kernel_rfl) (by kernel_rfl) ⟨[0, 1], by kernel_rfl, by decide, (L.getD ((v_1).toNat) 0), p1_2, h1_3, by kernel_rfl, by kernel_rfl⟩)

end Go.Proofs.YtgebepfdphmjcaaGreat
