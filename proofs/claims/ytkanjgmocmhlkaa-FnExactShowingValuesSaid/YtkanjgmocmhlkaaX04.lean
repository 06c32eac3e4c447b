/- Parts of posets; ShowingValues of both packages. -/
import Derived.Test.YtkanjgmocmhlkaaX02
import Derived.Test.YtkanjgmocmhlkaaSymZ
namespace Go.Proofs.Ytkanjgmocmhlkaa
open Go.RowKit Go.Abs

theorem inM_out {n k : Int} (h0 : 0 ≤ n) (h8 : n ≤ 8) (h : outR n k = false) : InM n.toNat k := by
  have h1 : inR k 0 ((shl64 1 n) - 1) = true := by
    rw [outR, (inR_iff n 0 30).2 (by omega)] at h
    simpa using h
  have h2 := (full_rng (n := n.toNat) (by omega) (m := k)).2
  rw [show ((n.toNat : Nat) : Int) = n by omega] at h2
  exact h2 h1
theorem outR_inR {n k : Int} {b : Bool} (h0 : 0 ≤ n) (h8 : n ≤ 8) (h : inR k 0 ((shl64 1 n) - 1) = b) : outR n k = !b := by
  rw [outR, (inR_iff n 0 30).2 (by omega), h]; rfl
def sqz (L : List Int) (m : Int) : Nat → Int
  | 0 => 0
  | k + 1 => if band (shr64 m (L.getD k 0)) 1 = 1 then bor (sqz L m k) (shl64 1 (k : Int)) else sqz L m k
theorem sqz_yes {L : List Int} {m : Int} {k : Nat} (h : band (shr64 m (L.getD k 0)) 1 = 1) : bor (sqz L m k) (shl64 1 (k : Int)) = sqz L m (k + 1) := by rw [sqz, if_pos h]
theorem sqz_no {L : List Int} {m : Int} {k : Nat} (h : ¬ band (shr64 m (L.getD k 0)) 1 = 1) : sqz L m k = sqz L m (k + 1) := by rw [sqz, if_neg h]
theorem sqz_ok {L : List Int} {m : Int} {N : Nat} (hN : N ≤ 61) : ∀ k : Nat, k ≤ N → InM N (sqz L m k)
  | 0, _ => inM_zero N
  | k + 1, h => by
    have ih := sqz_ok (L := L) (m := m) hN k (by omega)
    rw [sqz]
    split
    · exact inM_bor hN ih (inM_one hN (by omega))
    · exact ih
def prt (xs L : List Int) : List Int := L.map fun v => sqz L (xs.getD v.toNat 0) L.length
theorem prt_len (xs L : List Int) : (prt xs L).length = L.length := by simp [prt]
theorem prt_step {xs L : List Int} {t : Nat} (h : t < L.length) : ((L.take t).map fun v => sqz L (xs.getD v.toNat 0) L.length) ++ [sqz L (xs.getD (L.getD t 0).toNat 0) L.length] = (L.take (t + 1)).map fun v => sqz L (xs.getD v.toNat 0) L.length := map_take (f := fun v => sqz L (xs.getD v.toNat 0) L.length) h
theorem prt_end {xs L : List Int} {t : Nat} (h : t = L.length) : ((L.take t).map fun v => sqz L (xs.getD v.toNat 0) L.length) = prt xs L := by rw [h, List.take_length]; rfl
theorem mem_lenN {N : Nat} {m : Int} (hN : N ≤ 62) (h : InM N m) : (mem m).length ≤ N := by
  have e : mem m = memN m N := memN_stop (fun j hj => by
    cases e : tb m j with
    | false => rfl
    | true => exact absurd (tb_lt h e) (by omega)) hN
  rw [e]
  exact memN_len m N
theorem prt_fr {n k : Int} {xs : List Int} (hP : okFr n xs = true) (hk : InM n.toNat k) : okFr ((mem k).length : Int) (prt xs (mem k)) = true := by
  have a := okFr_rel hP
  have hl := mem_lenN (by omega) hk
  refine okFr_mk ((inR_iff _ _ _).2 (by omega)) (by rw [prt_len]) ?_
  rw [List.any_eq_false]
  intro v hv
  obtain ⟨u, _, rfl⟩ := List.mem_map.1 hv
  have h1 := (full_rng (n := (mem k).length) (by omega)).1 (sqz_ok (L := mem k) (m := xs.getD u.toNat 0) (N := (mem k).length) (by omega) (mem k).length (Nat.le_refl _))
  rw [h1]; decide
/-! The values that a map gives. -/
def valX (ims L : List Int) (a : Int) : Nat → Int
  | 0 => 0
  | k + 1 => if band (shr64 a (ims.getD k 0)) 1 = 1 then bor (valX ims L a k) (shl64 1 (L.getD k 0)) else valX ims L a k
theorem valX_yes {ims L : List Int} {a : Int} {k : Nat} (h : band (shr64 a (ims.getD k 0)) 1 = 1) : bor (valX ims L a k) (shl64 1 (L.getD k 0)) = valX ims L a (k + 1) := by rw [valX, if_pos h]
theorem valX_no {ims L : List Int} {a : Int} {k : Nat} (h : ¬ band (shr64 a (ims.getD k 0)) 1 = 1) : valX ims L a k = valX ims L a (k + 1) := by rw [valX, if_neg h]
def plM (ims : List Int) (a : Int) : Nat → Int
  | 0 => 0
  | k + 1 => if band (shr64 a (ims.getD k 0)) 1 = 1 then bor (plM ims a k) (shl64 1 (k : Int)) else plM ims a k
theorem plM_yes {ims : List Int} {a : Int} {k : Nat} (h : band (shr64 a (ims.getD k 0)) 1 = 1) : bor (plM ims a k) (shl64 1 (k : Int)) = plM ims a (k + 1) := by rw [plM, if_pos h]
theorem plM_no {ims : List Int} {a : Int} {k : Nat} (h : ¬ band (shr64 a (ims.getD k 0)) 1 = 1) : plM ims a k = plM ims a (k + 1) := by rw [plM, if_neg h]
theorem plM_ok {ims : List Int} {a : Int} {N : Nat} (hN : N ≤ 61) : ∀ k : Nat, k ≤ N → InM N (plM ims a k) ∧ ∀ j : Nat, tb (plM ims a k) j = true ↔ j < k ∧ band (shr64 a (ims.getD j 0)) 1 = 1
  | 0, _ => ⟨inM_zero N, fun j => by simp [plM, tb_zero]⟩
  | k + 1, h => by
    obtain ⟨h1, h2⟩ := plM_ok (ims := ims) (a := a) hN k (by omega)
    have hI := inM_one (n := N) (i := k) hN (by omega)
    rw [plM]
    split
    · rename_i hc
      refine ⟨inM_bor hN h1 hI, fun j => ?_⟩
      rw [tb_bor hN h1 hI, Bool.or_eq_true, h2, tb_one (by omega), decide_eq_true_eq]
      constructor
      · rintro (⟨a, b⟩ | rfl)
        · exact ⟨by omega, b⟩
        · exact ⟨by omega, hc⟩
      · rintro ⟨a, b⟩
        by_cases e : k = j
        · exact .inr e
        · exact .inl ⟨by omega, b⟩
    · rename_i hc
      refine ⟨h1, fun j => ?_⟩
      rw [h2]
      constructor
      · rintro ⟨a, b⟩; exact ⟨by omega, b⟩
      · rintro ⟨a, b⟩
        by_cases e : j = k
        · subst e; exact absurd b hc
        · exact ⟨by omega, b⟩
def sprd (p : Int) (L : List Int) : Nat → Int
  | 0 => 0
  | k + 1 => if band (shr64 p (k : Int)) 1 = 1 then bor (sprd p L k) (shl64 1 (L.getD k 0)) else sprd p L k
theorem sprd_yes {p : Int} {L : List Int} {k : Nat} (h : band (shr64 p (k : Int)) 1 = 1) : bor (sprd p L k) (shl64 1 (L.getD k 0)) = sprd p L (k + 1) := by rw [sprd, if_pos h]
theorem sprd_no {p : Int} {L : List Int} {k : Nat} (h : ¬ band (shr64 p (k : Int)) 1 = 1) : sprd p L k = sprd p L (k + 1) := by rw [sprd, if_neg h]
theorem sprd_val {ims L : List Int} {a : Int} (hl : ims.length ≤ 61) : ∀ k : Nat, k ≤ ims.length → sprd (plM ims a ims.length) L k = valX ims L a k
  | 0, _ => rfl
  | k + 1, h => by
    obtain ⟨h1, h2⟩ := plM_ok (ims := ims) (a := a) hl ims.length (Nat.le_refl _)
    have hb := has_tb (i := k) hl h1 (by omega)
    have h3 := h2 k
    rw [sprd, valX, sprd_val hl k (by omega)]
    by_cases e : band (shr64 a (ims.getD k 0)) 1 = 1
    · rw [if_pos e, if_pos (hb.2 (h3.2 ⟨by omega, e⟩))]
    · rw [if_neg e, if_neg fun h => e (h3.1 (hb.1 h)).2]
theorem map_set {n i : Nat} {f g : Nat → Int} {v : Int} (hi : i < n) (h : g i = v) (hj : ∀ j : Nat, j < n → j ≠ i → f j = g j) : ((List.range n).map f).set i v = (List.range n).map g := by
  apply List.ext_getElem (by simp)
  intro j h1 h2
  simp only [List.length_map, List.length_range] at h2
  rw [List.getElem_set]
  split
  · rename_i e; subst e; simp [h]
  · rename_i e; simp [hj j h2 (fun x => e x.symm)]
theorem map_cong {n : Nat} {f g : Nat → Int} (hj : ∀ j : Nat, j < n → f j = g j) : (List.range n).map f = (List.range n).map g := List.map_congr_left fun j hj' => hj j (List.mem_range.1 hj')
/-- Behind k rounds, and x rounds of the next one. -/
def vS (ims L ys : List Int) (k x : Nat) : List Int := (List.range 6).map fun i => if i < ys.length then (if i < x then valX ims L (ys.getD i 0) (k + 1) else valX ims L (ys.getD i 0) k) else 0
def vF (ims L ys : List Int) : List Int := (List.range 6).map fun i => if i < ys.length then valX ims L (ys.getD i 0) L.length else 0
theorem vS_len (ims L ys : List Int) (k x : Nat) : (vS ims L ys k x).length = 6 := by simp [vS]
theorem vS_00 (ims L ys : List Int) : List.replicate 6 (0 : Int) = vS ims L ys 0 0 := by
  have : vS ims L ys 0 0 = (List.range 6).map fun _ => (0 : Int) := map_cong fun j hj => by
    split
    · rw [if_neg (by omega), valX]
    · rfl
  rw [this]; rfl
theorem vS_get {ims L ys : List Int} {k x i : Nat} (h : i < 6) (h2 : i < ys.length) (hx : ¬ i < x) : (vS ims L ys k x).getD i 0 = valX ims L (ys.getD i 0) k := by
  simp [vS, List.getD_eq_getElem?_getD, List.getElem?_range h, h2, hx]
theorem vS_yes {ims L ys : List Int} {k x : Nat} (hx : x < ys.length) (h6 : ys.length ≤ 6) (h : band (shr64 (ys.getD x 0) (ims.getD k 0)) 1 = 1) :
    (vS ims L ys k x).set x (bor ((vS ims L ys k x).getD x 0) (shl64 1 (L.getD k 0))) = vS ims L ys k (x + 1) := by
  rw [vS_get (by omega) hx (by omega), valX_yes h]
  refine map_set (by omega) (by rw [if_pos hx, if_pos (by omega)]) fun j hj hne => ?_
  split
  · by_cases e : j < x
    · rw [if_pos e, if_pos (by omega)]
    · rw [if_neg e, if_neg (by omega)]
  · rfl
theorem vS_no {ims L ys : List Int} {k x : Nat} (h : ¬ band (shr64 (ys.getD x 0) (ims.getD k 0)) 1 = 1) : vS ims L ys k x = vS ims L ys k (x + 1) := by
  refine map_cong fun j hj => ?_
  split
  · by_cases e : j < x
    · rw [if_pos e, if_pos (by omega)]
    · by_cases e2 : j = x
      · subst e2
        rw [if_neg e, if_pos (by omega), valX_no h]
      · rw [if_neg e, if_neg (by omega)]
  · rfl
theorem vS_next {ims L ys : List Int} {k x : Nat} (h : ys.length ≤ x) : vS ims L ys k x = vS ims L ys (k + 1) 0 := by
  refine map_cong fun j hj => ?_
  split
  · rw [if_pos (by omega), if_neg (by omega)]
  · rfl
theorem vS_end {ims L ys : List Int} {k : Nat} (h : k = L.length) : vS ims L ys k 0 = vF ims L ys := by
  subst h
  refine map_cong fun j hj => ?_
  split
  · rw [if_neg (by omega)]
  · rfl
def vI (ims L ys : List Int) (x : Nat) : List Int := (List.range 6).map fun i => if i < x then valX ims L (ys.getD i 0) L.length else 0
theorem vI_len (ims L ys : List Int) (x : Nat) : (vI ims L ys x).length = 6 := by simp [vI]
theorem vI_0 (ims L ys : List Int) : List.replicate 6 (0 : Int) = vI ims L ys 0 := by
  have : vI ims L ys 0 = (List.range 6).map fun _ => (0 : Int) := map_cong fun j hj => by rw [if_neg (by omega)]
  rw [this]; rfl
theorem vI_set {ims L ys : List Int} {x : Nat} (hx : x < 6) (hl : ims.length = L.length) (h61 : ims.length ≤ 61) : (vI ims L ys x).set x (sprd (plM ims (ys.getD x 0) ims.length) L L.length) = vI ims L ys (x + 1) := by
  rw [sprd_val h61 _ (by omega)]
  refine map_set hx (by rw [if_pos (by omega)]) fun j hj hne => ?_
  by_cases e : j < x
  · rw [if_pos e, if_pos (by omega)]
  · rw [if_neg e, if_neg (by omega)]
theorem vI_end {ims L ys : List Int} {x : Nat} (h : x = ys.length) : vI ims L ys x = vF ims L ys := by rw [vI, h]; rfl
def shC (n : Int) (xs : List Int) (k : Int) (ims : List Int) (m : Int) (ys : List Int) : Int :=
  if twoC n xs m ys = 0 then (if outR n k = true then 2 else if (decide (img xs k xs.length = k) && morB ((mem k).length : Int) (prt xs (mem k)) m ys ims) = true then (if m > 6 then 3 else 0) else 5) else 1
def shR (n : Int) (xs : List Int) (k : Int) (ims : List Int) (m : Int) (ys : List Int) : List Int := if shC n xs k ims m ys = 0 then vF ims (mem k) ys else []
section
variable {n k m : Int} {xs ims ys : List Int}
theorem sh_1 (h : ¬ twoC n xs m ys = 0) : shC n xs k ims m ys = 1 := if_neg h
theorem sh_1' (h : ¬ twoC n xs m ys = 0) : shC n xs k ims m ys = twoC n xs m ys := by
  rw [sh_1 h]
  unfold twoC at h ⊢
  split at h
  · exact absurd rfl h
  · rename_i h1; rw [if_neg h1]
theorem sh_2 (h : twoC n xs m ys = 0) (h2 : outR n k = true) : shC n xs k ims m ys = 2 := by rw [shC, if_pos h, if_pos h2]
theorem sh_5 (h : twoC n xs m ys = 0) (h2 : outR n k = false) (h3 : (decide (img xs k xs.length = k) && morB ((mem k).length : Int) (prt xs (mem k)) m ys ims) = false) : shC n xs k ims m ys = 5 := by
  rw [shC, if_pos h, if_neg (by rw [h2]; decide), if_neg (by rw [h3]; decide)]
theorem sh_3 (h : twoC n xs m ys = 0) (h2 : outR n k = false) (h3 : (decide (img xs k xs.length = k) && morB ((mem k).length : Int) (prt xs (mem k)) m ys ims) = true) (h4 : m > 6) : shC n xs k ims m ys = 3 := by
  rw [shC, if_pos h, if_neg (by rw [h2]; decide), if_pos h3, if_pos h4]
theorem sh_0 (h : twoC n xs m ys = 0) (h2 : outR n k = false) (h3 : (decide (img xs k xs.length = k) && morB ((mem k).length : Int) (prt xs (mem k)) m ys ims) = true) (h4 : ¬ m > 6) : shC n xs k ims m ys = 0 := by
  rw [shC, if_pos h, if_neg (by rw [h2]; decide), if_pos h3, if_neg h4]
theorem sh_bad {s : Nat} {c : Int} (h : shC n xs k ims m ys = c) (hc : ¬ c = 0) : AV.tup [ownA eI s 1 [], AI c] = AV.tup [ownA eI s 1 (shR n xs k ims m ys), AI (shC n xs k ims m ys)] := by rw [shR, h, if_neg hc]
theorem sh_ok {s : Nat} {R : List Int} (h : shC n xs k ims m ys = 0) (hR : R = vF ims (mem k) ys) : AV.tup [ownA eI s 1 R, AI 0] = AV.tup [ownA eI s 1 (shR n xs k ims m ys), AI (shC n xs k ims m ys)] := by rw [shR, h, if_pos rfl, hR]
theorem shR_len : (shR n xs k ims m ys).length ≤ 6 := by
  unfold shR
  split
  · simp [vF]
  · simp
theorem mor_b {n' : Int} {xs' : List Int} (h : morB n' xs' m ys ims = true) : (ims.length : Int) = n' ∧ ∀ i : Nat, i < ims.length → 0 ≤ ims.getD i 0 ∧ ims.getD i 0 < m := by
  rw [morB, Bool.and_eq_true] at h
  exact mapB_ok h.1
end

theorem squeeze_c (m : Int) (k : Int) (hk : InM 61 k) : CallA Try.prog 142 [AI m, AI k] (AI (sqz (mem k) m (mem k).length)) := by
  have hml := mem_le k
  have hjr0 := fun (t : Nat) (h : t < (mem k).length) => mem_lt' (N := 61) (by omega) hk h
  refine CallA.of Try.func142 rfl (by kernel_rfl) ?_
  refine R.go 12 (R.call true (membersOf_c k hk).frz (by kernel_rfl) rfl (by kernel_rfl) ?_)
  refine R.go 4 (R.loop ((fun | (t, r) => (⟨(frm 25 [(0, AI m), (5, AI r), (9, LI (mem k)), (10, AI ((mem k).length)), (11, AI (t : Int))]), []⟩ : St) : Nat × Int → St)) (fun | (t, r) => (t ≤ (mem k).length) ∧ (r = sqz (mem k) m t)) (fun | (t, r) => (mem k).length - t) (0, 0) [0, 5, 9, 10, 11] none (by kernel_rfl) (by kernel_rfl) (by kernel_rfl) ⟨(by omega), (by rfl)⟩ ?_)
  rintro ⟨t, r⟩ ⟨h4_1, rfl⟩ R1 N2
  have hjr := hjr0 t
  refine R.go 5 (R.cond ((t : Int) < ((mem k).length : Int)) (by kernel_rfl) (fun c5 => ?_) (fun c5 => ?_))
  · refine R.go 6 (R.idx eI (mem k) 0 t (t : Int) (by kernel_rfl) rfl eI_len (by omega) (by kernel_rfl) ?_)
    have hjw := hjr (by omega)
    refine R.go 8 (R.call true (has_c m ((mem k).getD t 0) (by omega)) (by kernel_rfl) rfl (by kernel_rfl) ?_)
    refine R.go 1 (R.cond (band (shr64 m ((mem k).getD t 0)) 1 = 1) (by kernel_rfl) (fun c6 => ?_) (fun c6 => ?_))
    · refine R.go 3 (R.shl 1 (t : Int) (by kernel_rfl) (by omega) (by kernel_rfl) ?_)
      refine R.go 5 (R.ar ((t : Int) + 1) (by kernel_rfl) (by omega) (by omega) (by kernel_rfl) ?_)
      exact R.go 2 (R.stop R1 (by kernel_rfl) (N2 (t + 1, bor (sqz (mem k) m t) (shl64 1 (t : Int))) [0, 5, 9, 10, 11] none _ (by kernel_rfl) (by kernel_rfl) ⟨(by omega), (by first | exact sqz_yes (by assumption) | exact sqz_no (by assumption))⟩ (by show ((mem k).length - (t + 1)) < ((mem k).length - t); omega)))
    · refine R.go 3 (R.ar ((t : Int) + 1) (by kernel_rfl) (by omega) (by omega) (by kernel_rfl) ?_)
      exact R.go 2 (R.stop R1 (by kernel_rfl) (N2 (t + 1, sqz (mem k) m t) [0, 5, 9, 10, 11] none _ (by kernel_rfl) (by kernel_rfl) ⟨(by omega), (by first | exact sqz_yes (by assumption) | exact sqz_no (by assumption))⟩ (by show ((mem k).length - (t + 1)) < ((mem k).length - t); omega)))
  · exact R.go 6 (R.retE (AI (sqz (mem k) m t)) (by kernel_rfl) (by kernel_rfl) (by first | (rw [show t = (mem k).length by omega]) | (exfalso; omega)))

theorem l05Squeeze_c (L : List Int) (m : Int) (hL : ∀ j : Nat, j < L.length → 0 ≤ L.getD j 0 ∧ L.getD j 0 < ((61 : Nat) : Int)) (hl : L.length ≤ 62) : CallA Try.prog 107 [LI L, AI m] (AI (sqz L m L.length)) := by
  have hjr0 := hL
  refine CallA.of Try.func107 rfl (by kernel_rfl) ?_
  refine R.go 14 (R.loop ((fun | (t, r) => (⟨(frm 24 [(0, LI L), (1, AI m), (5, AI r), (6, AI (t : Int))]), []⟩ : St) : Nat × Int → St)) (fun | (t, r) => (t ≤ (L).length) ∧ (r = sqz (L) m t)) (fun | (t, r) => (L).length - t) (0, 0) [0, 1, 5, 6] none (by kernel_rfl) (by kernel_rfl) (by kernel_rfl) ⟨(by omega), (by rfl)⟩ ?_)
  rintro ⟨t, r⟩ ⟨h4_1, rfl⟩ R1 N2
  have hjr := hjr0 t
  refine R.go 8 (R.cond ((t : Int) < (L.length : Int)) (by kernel_rfl) (fun c5 => ?_) (fun c5 => ?_))
  · have hjw := hjr (by omega)
    refine R.go 8 (R.idx eI L 0 t (t : Int) (by kernel_rfl) rfl eI_len (by omega) (by kernel_rfl) ?_)
    refine R.go 1 (R.call true (l01Bit_c m (L.getD t 0) (by omega) (by omega)) (by kernel_rfl) rfl (by kernel_rfl) ?_)
    refine R.go 1 (R.cond (band (shr64 m (L.getD t 0)) 1 = 1) (by kernel_rfl) (fun c6 => ?_) (fun c6 => ?_))
    · refine R.go 3 (R.call true (l01One_c (t : Int) (by omega) (by omega)) (by kernel_rfl) rfl (by kernel_rfl) ?_)
      refine R.go 6 (R.ar ((t : Int) + 1) (by kernel_rfl) (by omega) (by omega) (by kernel_rfl) ?_)
      exact R.go 2 (R.stop R1 (by kernel_rfl) (N2 (t + 1, bor (sqz (L) m t) (shl64 1 (t : Int))) [0, 1, 5, 6] none _ (by kernel_rfl) (by kernel_rfl) ⟨(by omega), (by first | exact sqz_yes (by assumption) | exact sqz_no (by assumption))⟩ (by show ((L).length - (t + 1)) < ((L).length - t); omega)))
    · refine R.go 4 (R.ar ((t : Int) + 1) (by kernel_rfl) (by omega) (by omega) (by kernel_rfl) ?_)
      exact R.go 2 (R.stop R1 (by kernel_rfl) (N2 (t + 1, sqz (L) m t) [0, 1, 5, 6] none _ (by kernel_rfl) (by kernel_rfl) ⟨(by omega), (by first | exact sqz_yes (by assumption) | exact sqz_no (by assumption))⟩ (by show ((L).length - (t + 1)) < ((L).length - t); omega)))
  · exact R.go 6 (R.retE (AI (sqz (L) m t)) (by kernel_rfl) (by kernel_rfl) (by first | (rw [show t = L.length by omega]) | (exfalso; omega)))

theorem partOn_c (n : Int) (xs : List Int) (k : Int) (hP : okFr n xs = true) (hk : InM n.toNat k) : CallA Try.prog 110 [LI xs, AI k] (ownA eI 2 1 (prt xs (mem k))) := by
  have hp1 := okFr_rel hP
  have hb : 0 ≤ n ∧ n ≤ 8 ∧ (xs.length : Int) = n := ⟨hp1.1, hp1.2.1, hp1.2.2.1⟩
  have hk61 : InM 61 k := inM_mono (n' := 61) (by omega) hk
  have hml := mem_lenN (N := n.toNat) (by omega) hk
  have hjr0 := fun (t : Nat) (h : t < (mem k).length) => mem_lt' (N := 61) (by omega) hk61 h
  have hjr1 := fun (t : Nat) (h : t < (mem k).length) => mem_lt' (N := n.toNat) (by omega) hk h
  refine CallA.of Try.func110 rfl (by kernel_rfl) ?_
  refine R.go 12 (R.call true (membersOf_c k hk61).frz (by kernel_rfl) rfl (by kernel_rfl) ?_)
  refine R.go 4 (R.nil 5 2 1 (by kernel_rfl) ?_)
  refine R.loop ((fun | (t, out) => (⟨(frm 26 [(0, LI xs), (1, AI k), (5, .ref 0), (9, LI (mem k)), (10, AI ((mem k).length)), (11, AI (t : Int))]), [rowA eI 2 1 out]⟩ : St) : Nat × (List Int) → St)) (fun | (t, out) => (t ≤ (mem k).length) ∧ (out = (List.take t (mem k)).map fun v => sqz (mem k) (xs.getD v.toNat 0) (mem k).length)) (fun | (t, out) => (mem k).length - t) (0, []) [0, 1, 5, 9, 10, 11] none (by kernel_rfl) (by kernel_rfl) (by kernel_rfl) ⟨(by omega), (by rfl)⟩ ?_
  rintro ⟨t, out⟩ ⟨h4_1, rfl⟩ R1 N2
  have hol : ((List.take t (mem k)).map fun v => sqz (mem k) (xs.getD v.toNat 0) (mem k).length).length = t := by simp; omega
  have hjr := hjr1 t
  refine R.go 5 (R.cond ((t : Int) < ((mem k).length : Int)) (by kernel_rfl) (fun c5 => ?_) (fun c5 => ?_))
  · refine R.go 5 (R.idx eI (mem k) 0 t (t : Int) (by kernel_rfl) rfl eI_len (by omega) (by kernel_rfl) ?_)
    have hjw := hjr (by omega)
    refine R.go 7 (R.idx eI xs 0 ((((mem k).getD t 0)).toNat) ((mem k).getD t 0) (by kernel_rfl) (by omega) eI_len (by omega) (by kernel_rfl) ?_)
    refine R.go 2 (R.call true (squeeze_c (xs.getD ((((mem k).getD t 0)).toNat) 0) k hk61) (by kernel_rfl) rfl (by kernel_rfl) ?_)
    refine R.go 1 (R.app eI ((List.take t (mem k)).map fun v => sqz (mem k) (xs.getD v.toNat 0) (mem k).length) [sqz (mem k) (xs.getD ((((mem k).getD t 0)).toNat) 0) (mem k).length] 0 2 1 8 (by kernel_rfl) eI_one (by decide) (by first | omega | (simp <;> omega)) (by kernel_rfl) ?_)
    refine R.go 4 (R.ar ((t : Int) + 1) (by kernel_rfl) (by omega) (by omega) (by kernel_rfl) ?_)
    exact R.go 2 (R.stop R1 (by kernel_rfl) (N2 (t + 1, ((List.take t (mem k)).map fun v => sqz (mem k) (xs.getD v.toNat 0) (mem k).length) ++ [sqz (mem k) (xs.getD ((((mem k).getD t 0)).toNat) 0) (mem k).length]) [0, 1, 5, 9, 10, 11] (some [0]) _ (by kernel_rfl) (by kernel_rfl) ⟨(by omega), (by exact prt_step (by omega))⟩ (by show ((mem k).length - (t + 1)) < ((mem k).length - t); omega)))
  · exact R.go 6 (R.retE (ownA eI 2 1 ((List.take t (mem k)).map fun v => sqz (mem k) (xs.getD v.toNat 0) (mem k).length)) (by kernel_rfl) (by kernel_rfl) (by first | (rw [prt_end (by omega)]) | (exfalso; omega)))

theorem posetOfP_c (xs : List Int) : CallA Try.prog 61 [LI xs] (.agg [AI xs.length, LI xs]) := by
  refine CallA.of Try.func61 rfl (by kernel_rfl) ?_
  refine R.go 7 (R.call true (size_c xs) (by kernel_rfl) rfl (by kernel_rfl) ?_)
  exact R.go 4 (R.retE (.agg [AI xs.length, LI xs]) (by kernel_rfl) (by kernel_rfl) (by rfl))

theorem pOn_c (n : Int) (xs : List Int) (k : Int) (hP : okFr n xs = true) (hk : InM n.toNat k) : CallA Try.prog 75 [.agg [AI n, LI xs], AI k] (.agg [AI ((mem k).length), LI (prt xs (mem k))]) := by
  refine CallA.of Try.func75 rfl (by kernel_rfl) ?_
  refine R.go 10 (R.call true (partOn_c n xs k hP hk).frz (by kernel_rfl) rfl (by kernel_rfl) ?_)
  refine R.call true (posetOfP_c (prt xs (mem k))) (by kernel_rfl) rfl (by kernel_rfl) ?_
  exact R.go 2 (R.retE (.agg [AI ((prt xs (mem k)).length), LI (prt xs (mem k))]) (by kernel_rfl) (by kernel_rfl) (by first | (rw [prt_len]) | (exfalso; omega)))

theorem l16Part_c (n : Int) (xs : List Int) (k : Int) (hP : okFr n xs = true) (hk : InM n.toNat k) : CallA Try.prog 71 [.agg [AI n, LI xs], AI k] (.agg [AI ((mem k).length), ownA eI 2 1 (prt xs (mem k))]) := by
  have hp1 := okFr_rel hP
  have hb : 0 ≤ n ∧ n ≤ 8 ∧ (xs.length : Int) = n := ⟨hp1.1, hp1.2.1, hp1.2.2.1⟩
  have hk61 : InM 61 k := inM_mono (n' := 61) (by omega) hk
  have hml := mem_lenN (N := n.toNat) (by omega) hk
  have hjr0 := fun (t : Nat) (h : t < (mem k).length) => mem_lt' (N := 61) (by omega) hk61 h
  have hjr1 := fun (t : Nat) (h : t < (mem k).length) => mem_lt' (N := n.toNat) (by omega) hk h
  refine CallA.of Try.func71 rfl (by kernel_rfl) ?_
  refine R.go 8 (R.call true (l01ListM_c k hk61).frz (by kernel_rfl) rfl (by kernel_rfl) ?_)
  refine R.go 10 (R.loop ((fun | (t, out) => (⟨(frm 32 [(2, .ptr 0 0), (4, .ptr 1 0), (5, LI (mem k)), (6, .ref 2), (7, AI (t : Int))]), [.box 26 [AI n, LI xs], .box 26 [AI 0, .nil], rowA eI 2 1 out]⟩ : St) : Nat × (List Int) → St)) (fun | (t, out) => (t ≤ (mem k).length) ∧ (out = (List.take t (mem k)).map fun v => sqz (mem k) (xs.getD v.toNat 0) (mem k).length)) (fun | (t, out) => (mem k).length - t) (0, []) [2, 4, 5, 6, 7] none (by kernel_rfl) (by kernel_rfl) (by kernel_rfl) ⟨(by omega), (by rfl)⟩ ?_)
  rintro ⟨t, out⟩ ⟨h4_1, rfl⟩ R1 N2
  have hol : ((List.take t (mem k)).map fun v => sqz (mem k) (xs.getD v.toNat 0) (mem k).length).length = t := by simp; omega
  have hjr := hjr1 t
  refine R.go 8 (R.cond ((t : Int) < ((mem k).length : Int)) (by kernel_rfl) (fun c5 => ?_) (fun c5 => ?_))
  · have hjw := hjr (by omega)
    refine R.go 10 (R.idx eI (mem k) 0 t (t : Int) (by kernel_rfl) rfl eI_len (by omega) (by kernel_rfl) ?_)
    refine R.go 1 (R.idx eI xs 0 ((((mem k).getD t 0)).toNat) ((mem k).getD t 0) (by kernel_rfl) (by omega) eI_len (by omega) (by kernel_rfl) ?_)
    refine R.go 1 (R.call true (l05Squeeze_c (mem k) (xs.getD ((((mem k).getD t 0)).toNat) 0) (by first | assumption | exact hjr0) (by first | omega | (simp <;> omega))) (by kernel_rfl) rfl (by kernel_rfl) ?_)
    refine R.go 1 (R.app eI ((List.take t (mem k)).map fun v => sqz (mem k) (xs.getD v.toNat 0) (mem k).length) [sqz (mem k) (xs.getD ((((mem k).getD t 0)).toNat) 0) (mem k).length] 2 2 1 8 (by kernel_rfl) eI_one (by decide) (by first | omega | (simp <;> omega)) (by kernel_rfl) ?_)
    refine R.go 5 (R.ar ((t : Int) + 1) (by kernel_rfl) (by omega) (by omega) (by kernel_rfl) ?_)
    exact R.go 2 (R.stop R1 (by kernel_rfl) (N2 (t + 1, ((List.take t (mem k)).map fun v => sqz (mem k) (xs.getD v.toNat 0) (mem k).length) ++ [sqz (mem k) (xs.getD ((((mem k).getD t 0)).toNat) 0) (mem k).length]) [2, 4, 5, 6, 7] (some [0, 1, 2]) _ (by kernel_rfl) (by kernel_rfl) ⟨(by omega), (by exact prt_step (by omega))⟩ (by show ((mem k).length - (t + 1)) < ((mem k).length - t); omega)))
  · refine R.go 4 (R.call false (l16Make_c ((List.take t (mem k)).map fun v => sqz (mem k) (xs.getD v.toNat 0) (mem k).length) (by first | omega | (simp <;> omega))) (by kernel_rfl) (by simp [AV.closed, closedL, AI, ownA_closed eI_closed]) (by kernel_rfl) ?_)
    exact R.go 2 (R.retE (.agg [AI (((List.take t (mem k)).map fun v => sqz (mem k) (xs.getD v.toNat 0) (mem k).length).length), ownA eI 2 1 ((List.take t (mem k)).map fun v => sqz (mem k) (xs.getD v.toNat 0) (mem k).length)]) (by kernel_rfl) (by kernel_rfl) (by first | (rw [prt_end (by omega), prt_len]) | (exfalso; omega)))

theorem l16Code_c (n : Int) (xs : List Int) (k : Int) (hP : okPo n xs = true) (lx : xs.length ≤ 1000000000) : CallA Try.prog 69 [.agg [AI n, LI xs], AI k] (AI (if outR n k = true then 2 else 0)) := by
  have hp1 := okFr_rel (okPo_fr hP)
  have hb : 0 ≤ n ∧ n ≤ 8 ∧ (xs.length : Int) = n := ⟨hp1.1, hp1.2.1, hp1.2.2.1⟩
  have hsh := shl_rng n hp1.1 (by omega)
  refine CallA.of Try.func69 rfl (by kernel_rfl) ?_
  refine R.go 10 (R.call true (l16Is_c n xs lx) (by kernel_rfl) rfl (by kernel_rfl) ?_)
  refine R.go 3 (R.els (!(okPo n xs)) (by kernel_rfl) (bnF hP) ?_)
  refine R.go 5 (R.call true (l01Full_c n (by omega) (by omega)) (by kernel_rfl) rfl (by kernel_rfl) ?_)
  refine R.call true (l01In_c k 0 ((shl64 1 n) - 1)) (by kernel_rfl) rfl (by kernel_rfl) ?_
  refine R.go 3 (R.condM (inR k 0 ((shl64 1 n) - 1)) (by kernel_rfl) (fun c1 => ?_) (fun c1 => ?_))
  · exact R.go 4 (R.retE (AI 2) (by kernel_rfl) (by kernel_rfl) (by first | (apply congrArg AI; rw [outR_inR (by omega) (by omega) (by assumption)]; rfl) | (exfalso; omega)))
  · exact R.go 6 (R.retE (AI 0) (by kernel_rfl) (by kernel_rfl) (by first | (apply congrArg AI; rw [outR_inR (by omega) (by omega) (by assumption)]; rfl) | (exfalso; omega)))

theorem pull_c (ims : List Int) (a : Int) (hi : ∀ j : Nat, j < ims.length → 0 ≤ ims.getD j 0 ∧ ims.getD j 0 ≤ 61) (hl : ims.length ≤ 61) : CallA Try.prog 77 [LI ims, AI a] (AI (plM ims a ims.length)) := by
  refine CallA.of Try.func77 rfl (by kernel_rfl) ?_
  refine R.go 16 (R.loop ((fun | (x, r) => (⟨(frm 24 [(1, AI a), (5, AI r), (8, LI ims), (9, AI ims.length), (10, AI (x : Int))]), []⟩ : St) : Nat × Int → St)) (fun | (x, r) => (x ≤ ims.length) ∧ (r = plM ims a x)) (fun | (x, r) => ims.length - x) (0, 0) [1, 5, 8, 9, 10] none (by kernel_rfl) (by kernel_rfl) (by kernel_rfl) ⟨(by omega), (by rfl)⟩ ?_)
  rintro ⟨x, r⟩ ⟨h4_1, rfl⟩ R1 N2
  have hiv := hi x
  refine R.go 5 (R.cond ((x : Int) < (ims.length : Int)) (by kernel_rfl) (fun c5 => ?_) (fun c5 => ?_))
  · refine R.go 6 (R.idx eI ims 0 x (x : Int) (by kernel_rfl) rfl eI_len (by omega) (by kernel_rfl) ?_)
    have hiw := hiv (by omega)
    refine R.go 8 (R.call true (has_c a (ims.getD x 0) (by omega)) (by kernel_rfl) rfl (by kernel_rfl) ?_)
    refine R.go 1 (R.cond (band (shr64 a (ims.getD x 0)) 1 = 1) (by kernel_rfl) (fun c6 => ?_) (fun c6 => ?_))
    · refine R.go 3 (R.shl 1 (x : Int) (by kernel_rfl) (by omega) (by kernel_rfl) ?_)
      refine R.go 5 (R.ar ((x : Int) + 1) (by kernel_rfl) (by omega) (by omega) (by kernel_rfl) ?_)
      exact R.go 2 (R.stop R1 (by kernel_rfl) (N2 (x + 1, bor (plM ims a x) (shl64 1 (x : Int))) [1, 5, 8, 9, 10] none _ (by kernel_rfl) (by kernel_rfl) ⟨(by omega), (by first | exact plM_yes (by assumption) | exact plM_no (by assumption))⟩ (by show (ims.length - (x + 1)) < (ims.length - x); omega)))
    · refine R.go 3 (R.ar ((x : Int) + 1) (by kernel_rfl) (by omega) (by omega) (by kernel_rfl) ?_)
      exact R.go 2 (R.stop R1 (by kernel_rfl) (N2 (x + 1, plM ims a x) [1, 5, 8, 9, 10] none _ (by kernel_rfl) (by kernel_rfl) ⟨(by omega), (by first | exact plM_yes (by assumption) | exact plM_no (by assumption))⟩ (by show (ims.length - (x + 1)) < (ims.length - x); omega)))
  · exact R.go 6 (R.retE (AI (plM ims a x)) (by kernel_rfl) (by kernel_rfl) (by first | (rw [show x = ims.length by omega]) | (exfalso; omega)))

theorem spread_c (p : Int) (k : Int) (hk : InM 61 k) : CallA Try.prog 76 [AI p, AI k] (AI (sprd p (mem k) (mem k).length)) := by
  have hml := mem_le k
  have hjr0 := fun (t : Nat) (h : t < (mem k).length) => mem_lt' (N := 61) (by omega) hk h
  refine CallA.of Try.func76 rfl (by kernel_rfl) ?_
  refine R.go 12 (R.call true (membersOf_c k hk).frz (by kernel_rfl) rfl (by kernel_rfl) ?_)
  refine R.go 4 (R.loop ((fun | (t, r) => (⟨(frm 25 [(0, AI p), (5, AI r), (9, LI (mem k)), (10, AI ((mem k).length)), (11, AI (t : Int))]), []⟩ : St) : Nat × Int → St)) (fun | (t, r) => (t ≤ (mem k).length) ∧ (r = sprd p (mem k) t)) (fun | (t, r) => (mem k).length - t) (0, 0) [0, 5, 9, 10, 11] none (by kernel_rfl) (by kernel_rfl) (by kernel_rfl) ⟨(by omega), (by rfl)⟩ ?_)
  rintro ⟨t, r⟩ ⟨h4_1, rfl⟩ R1 N2
  have hjr := hjr0 t
  refine R.go 5 (R.cond ((t : Int) < ((mem k).length : Int)) (by kernel_rfl) (fun c5 => ?_) (fun c5 => ?_))
  · refine R.go 6 (R.idx eI (mem k) 0 t (t : Int) (by kernel_rfl) rfl eI_len (by omega) (by kernel_rfl) ?_)
    have hjw := hjr (by omega)
    refine R.go 8 (R.call true (has_c p (t : Int) (by omega)) (by kernel_rfl) rfl (by kernel_rfl) ?_)
    refine R.go 1 (R.cond (band (shr64 p (t : Int)) 1 = 1) (by kernel_rfl) (fun c6 => ?_) (fun c6 => ?_))
    · refine R.go 3 (R.shl 1 ((mem k).getD t 0) (by kernel_rfl) (by omega) (by kernel_rfl) ?_)
      refine R.go 5 (R.ar ((t : Int) + 1) (by kernel_rfl) (by omega) (by omega) (by kernel_rfl) ?_)
      exact R.go 2 (R.stop R1 (by kernel_rfl) (N2 (t + 1, bor (sprd p (mem k) t) (shl64 1 ((mem k).getD t 0))) [0, 5, 9, 10, 11] none _ (by kernel_rfl) (by kernel_rfl) ⟨(by omega), (by first | exact sprd_yes (by assumption) | exact sprd_no (by assumption))⟩ (by show ((mem k).length - (t + 1)) < ((mem k).length - t); omega)))
    · refine R.go 3 (R.ar ((t : Int) + 1) (by kernel_rfl) (by omega) (by omega) (by kernel_rfl) ?_)
      exact R.go 2 (R.stop R1 (by kernel_rfl) (N2 (t + 1, sprd p (mem k) t) [0, 5, 9, 10, 11] none _ (by kernel_rfl) (by kernel_rfl) ⟨(by omega), (by first | exact sprd_yes (by assumption) | exact sprd_no (by assumption))⟩ (by show ((mem k).length - (t + 1)) < ((mem k).length - t); omega)))
  · exact R.go 6 (R.retE (AI (sprd p (mem k) t)) (by kernel_rfl) (by kernel_rfl) (by first | (rw [show t = (mem k).length by omega]) | (exfalso; omega)))

theorem l16Leq_c (m : Int) (ys : List Int) (x : Nat) (y : Int) (hx : x < ys.length) (h0 : 0 ≤ y) (h1 : y ≤ 62) : CallA Try.prog 108 [.agg [AI m, LI ys], AI (x : Int), AI y] (.bool (decide (band (shr64 (ys.getD x 0) y) 1 = 1))) := by
  refine CallA.of Try.func108 rfl (by kernel_rfl) ?_
  refine R.go 10 (R.idx eI ys 0 x (x : Int) (by kernel_rfl) rfl eI_len (by omega) (by kernel_rfl) ?_)
  refine R.go 2 (R.call true (l01Bit_c (ys.getD x 0) y h0 h1) (by kernel_rfl) rfl (by kernel_rfl) ?_)
  exact R.go 2 (R.retE (.bool (decide (band (shr64 (ys.getD x 0) y) 1 = 1))) (by kernel_rfl) (by kernel_rfl) (by rfl))

theorem l21Values_c (k : Int) (ims : List Int) (m : Int) (ys : List Int) (hk : InM 61 k) (hl : ims.length = (mem k).length) (hm : (ys.length : Int) = m ∧ m ≤ 6) (hi : ∀ j : Nat, j < ims.length → 0 ≤ ims.getD j 0 ∧ ims.getD j 0 ≤ 61) : CallA Try.prog 72 [AI k, LI ims, .agg [AI m, LI ys]] (ownA eI 2 1 (vF ims (mem k) ys)) := by
  have hml := mem_le k
  have hjr0 := fun (t : Nat) (h : t < (mem k).length) => mem_lt' (N := 61) (by omega) hk h
  refine CallA.of Try.func72 rfl (by kernel_rfl) ?_
  refine R.go 6 (R.meet (⟨(frm 47 [(0, AI k), (1, LI ims), (2, .agg [AI m, LI ys]), (5, .ptr 0 0), (6, .nil), (7, .ref 1), (8, LI (mem k)), (11, .ref 1), (12, AI k), (13, LI (mem k))]), [.box 26 [AI m, LI ys], rowA eI 2 1 (List.replicate 6 0)]⟩ : St) (by kernel_rfl) ?_ ?_)
  · refine R.any (by decide +kernel) (by kernel_rfl) ?_
    refine R.anyF 1 (by kernel_rfl) (np_meet _) ?_
    refine R.any2 0 2 (by kernel_rfl) (by kernel_rfl) ?_ ?_
    · refine R.go 2 (R.any1 2 (by kernel_rfl) (by kernel_rfl) ?_)
      refine R.call true (l01ListM_c k hk).frz (by kernel_rfl) rfl (by kernel_rfl) ?_
      refine R.go 1 (R.any1 3 (by kernel_rfl) (by kernel_rfl) ?_)
      refine R.go 2 (R.any1 4 (by kernel_rfl) (by kernel_rfl) ?_)
      refine R.go 2 (R.any0 (by kernel_rfl) ?_)
      exact R.met (by kernel_rfl) (by kernel_rfl)
    · refine R.call true (l01ListM_c k hk).frz (by kernel_rfl) rfl (by kernel_rfl) ?_
      refine R.go 1 (R.any1 0 (by kernel_rfl) (by kernel_rfl) ?_)
      refine R.go 2 (R.any1 3 (by kernel_rfl) (by kernel_rfl) ?_)
      refine R.go 2 (R.any1 4 (by kernel_rfl) (by kernel_rfl) ?_)
      refine R.go 2 (R.any0 (by kernel_rfl) ?_)
      exact R.met (by kernel_rfl) (by kernel_rfl)
  · refine R.go 6 (R.loop ((fun | (t, out) => (⟨(frm 47 [(1, LI ims), (5, .ptr 0 0), (7, .ref 1), (8, LI (mem k)), (9, AI (t : Int))]), [.box 26 [AI m, LI ys], rowA eI 2 1 out]⟩ : St) : Nat × (List Int) → St)) (fun | (t, out) => (t ≤ (mem k).length) ∧ (out = vS ims (mem k) ys t 0)) (fun | (t, out) => (mem k).length - t) (0, (List.replicate 6 0)) [1, 5, 7, 8, 9] none (by kernel_rfl) (by kernel_rfl) (by kernel_rfl) ⟨(by omega), (by exact vS_00 _ _ _)⟩ ?_)
    rintro ⟨t, out⟩ ⟨h4_1, rfl⟩ R1 N2
    have hol := vS_len ims (mem k) ys t 0
    have hjr := hjr0 t
    have hiv := hi t
    refine R.go 8 (R.cond ((t : Int) < ((mem k).length : Int)) (by kernel_rfl) (fun c5 => ?_) (fun c5 => ?_))
    · have hjw := hjr (by omega)
      have hiw := hiv (by omega)
      refine R.go 8 (R.loop ((fun | (x, o2) => (⟨(frm 47 [(1, LI ims), (5, .ptr 0 0), (7, .ref 1), (8, LI (mem k)), (9, AI (t : Int)), (10, AI (x : Int))]), [.box 26 [AI m, LI ys], rowA eI 2 1 o2]⟩ : St) : Nat × (List Int) → St)) (fun | (x, o2) => (x ≤ ys.length) ∧ (o2 = vS ims (mem k) ys t x)) (fun | (x, o2) => ys.length - x) (0, (vS ims (mem k) ys t 0)) [1, 5, 7, 8, 9, 10] none (by kernel_rfl) (by kernel_rfl) (by kernel_rfl) ⟨(by omega), (by rfl)⟩ ?_)
      rintro ⟨x, o2⟩ ⟨h9_1, rfl⟩ R6 N7
      have hol2 := vS_len ims (mem k) ys t x
      refine R.go 8 (R.cond ((x : Int) < m) (by kernel_rfl) (fun c10 => ?_) (fun c10 => ?_))
      · refine R.go 9 (R.idx eI ims 0 t (t : Int) (by kernel_rfl) rfl eI_len (by omega) (by kernel_rfl) ?_)
        refine R.go 1 (R.call true (l16Leq_c m ys x (ims.getD t 0) (by first | omega | (simp <;> omega)) (by omega) (by omega)) (by kernel_rfl) rfl (by kernel_rfl) ?_)
        refine R.go 1 (R.cond (band (shr64 (ys.getD x 0) (ims.getD t 0)) 1 = 1) (by kernel_rfl) (fun c11 => ?_) (fun c11 => ?_))
        · refine R.any (by decide +kernel) (by kernel_rfl) ?_
          refine R.anyF 0 (by kernel_rfl) (np_ret _ _ _) ?_
          refine R.anyF 1 (by kernel_rfl) (np_ret _ _ _) ?_
          refine R.anyF 2 (by kernel_rfl) (np_ret _ _ _) ?_
          refine R.anyF 3 (by kernel_rfl) (np_ret _ _ _) ?_
          refine R.anyF 6 (by kernel_rfl) (np_ret _ _ _) ?_
          refine R.anyF 7 (by kernel_rfl) (np_ret _ _ _) ?_
          refine R.any2 4 8 (by kernel_rfl) (by kernel_rfl) ?_ ?_
          · refine R.idxO 1 1 (vS ims (mem k) ys t x).length x (x : Int) (by kernel_rfl) rfl (by omega) (by kernel_rfl) ?_
            refine R.go 1 (R.any2 5 8 (by kernel_rfl) (by kernel_rfl) ?_ ?_)
            · refine R.ldI (vS ims (mem k) ys t x) x (by kernel_rfl) (by omega) (by kernel_rfl) ?_
              refine R.go 1 (R.any1 8 (by kernel_rfl) (by kernel_rfl) ?_)
              refine R.idx eI (mem k) 0 t (t : Int) (by kernel_rfl) rfl eI_len (by omega) (by kernel_rfl) ?_
              refine R.go 1 (R.any1 9 (by kernel_rfl) (by kernel_rfl) ?_)
              refine R.go 2 (R.any1 10 (by kernel_rfl) (by kernel_rfl) ?_)
              refine R.call true (l01One_c ((mem k).getD t 0) (by omega) (by omega)) (by kernel_rfl) rfl (by kernel_rfl) ?_
              refine R.go 1 (R.any1 11 (by kernel_rfl) (by kernel_rfl) ?_)
              refine R.go 2 (R.any1 12 (by kernel_rfl) (by kernel_rfl) ?_)
              refine R.idxO 1 1 (vS ims (mem k) ys t x).length x (x : Int) (by kernel_rfl) rfl (by omega) (by kernel_rfl) ?_
              refine R.go 1 (R.any1 13 (by kernel_rfl) (by kernel_rfl) ?_)
              refine R.stI 1 2 (vS ims (mem k) ys t x) x (bor ((vS ims (mem k) ys t x).getD x 0) (shl64 1 ((mem k).getD t 0))) (by kernel_rfl) (by omega) (by kernel_rfl) ?_
              refine R.go 1 (R.any0 (by kernel_rfl) ?_)
              refine R.go 3 (R.ar ((x : Int) + 1) (by kernel_rfl) (by omega) (by omega) (by kernel_rfl) ?_)
              exact R.go 2 (R.stop R6 (by kernel_rfl) (N7 (x + 1, (vS ims (mem k) ys t x).set x (bor ((vS ims (mem k) ys t x).getD x 0) (shl64 1 ((mem k).getD t 0)))) [1, 5, 7, 8, 9, 10] none _ (by kernel_rfl) (by kernel_rfl) ⟨(by omega), (by first | exact vS_yes (by omega) (by omega) (by assumption) | exact vS_no (by assumption))⟩ (by show (ys.length - (x + 1)) < (ys.length - x); omega)))
            · refine R.idx eI (mem k) 0 t (t : Int) (by kernel_rfl) rfl eI_len (by omega) (by kernel_rfl) ?_
              refine R.go 1 (R.any2 5 9 (by kernel_rfl) (by kernel_rfl) ?_ ?_)
              · refine R.ldI (vS ims (mem k) ys t x) x (by kernel_rfl) (by omega) (by kernel_rfl) ?_
                refine R.go 1 (R.any1 9 (by kernel_rfl) (by kernel_rfl) ?_)
                refine R.go 2 (R.any1 10 (by kernel_rfl) (by kernel_rfl) ?_)
                refine R.call true (l01One_c ((mem k).getD t 0) (by omega) (by omega)) (by kernel_rfl) rfl (by kernel_rfl) ?_
                refine R.go 1 (R.any1 11 (by kernel_rfl) (by kernel_rfl) ?_)
                refine R.go 2 (R.any1 12 (by kernel_rfl) (by kernel_rfl) ?_)
                refine R.idxO 1 1 (vS ims (mem k) ys t x).length x (x : Int) (by kernel_rfl) rfl (by omega) (by kernel_rfl) ?_
                refine R.go 1 (R.any1 13 (by kernel_rfl) (by kernel_rfl) ?_)
                refine R.stI 1 2 (vS ims (mem k) ys t x) x (bor ((vS ims (mem k) ys t x).getD x 0) (shl64 1 ((mem k).getD t 0))) (by kernel_rfl) (by omega) (by kernel_rfl) ?_
                refine R.go 1 (R.any0 (by kernel_rfl) ?_)
                refine R.go 3 (R.ar ((x : Int) + 1) (by kernel_rfl) (by omega) (by omega) (by kernel_rfl) ?_)
                exact R.go 2 (R.stop R6 (by kernel_rfl) (N7 (x + 1, (vS ims (mem k) ys t x).set x (bor ((vS ims (mem k) ys t x).getD x 0) (shl64 1 ((mem k).getD t 0)))) [1, 5, 7, 8, 9, 10] none _ (by kernel_rfl) (by kernel_rfl) ⟨(by omega), (by first | exact vS_yes (by omega) (by omega) (by assumption) | exact vS_no (by assumption))⟩ (by show (ys.length - (x + 1)) < (ys.length - x); omega)))
              · refine R.go 2 (R.any2 5 10 (by kernel_rfl) (by kernel_rfl) ?_ ?_)
                · refine R.ldI (vS ims (mem k) ys t x) x (by kernel_rfl) (by omega) (by kernel_rfl) ?_
                  refine R.go 1 (R.any1 10 (by kernel_rfl) (by kernel_rfl) ?_)
                  refine R.call true (l01One_c ((mem k).getD t 0) (by omega) (by omega)) (by kernel_rfl) rfl (by kernel_rfl) ?_
                  refine R.go 1 (R.any1 11 (by kernel_rfl) (by kernel_rfl) ?_)
                  refine R.go 2 (R.any1 12 (by kernel_rfl) (by kernel_rfl) ?_)
                  refine R.idxO 1 1 (vS ims (mem k) ys t x).length x (x : Int) (by kernel_rfl) rfl (by omega) (by kernel_rfl) ?_
                  refine R.go 1 (R.any1 13 (by kernel_rfl) (by kernel_rfl) ?_)
                  refine R.stI 1 2 (vS ims (mem k) ys t x) x (bor ((vS ims (mem k) ys t x).getD x 0) (shl64 1 ((mem k).getD t 0))) (by kernel_rfl) (by omega) (by kernel_rfl) ?_
                  refine R.go 1 (R.any0 (by kernel_rfl) ?_)
                  refine R.go 3 (R.ar ((x : Int) + 1) (by kernel_rfl) (by omega) (by omega) (by kernel_rfl) ?_)
                  exact R.go 2 (R.stop R6 (by kernel_rfl) (N7 (x + 1, (vS ims (mem k) ys t x).set x (bor ((vS ims (mem k) ys t x).getD x 0) (shl64 1 ((mem k).getD t 0)))) [1, 5, 7, 8, 9, 10] none _ (by kernel_rfl) (by kernel_rfl) ⟨(by omega), (by first | exact vS_yes (by omega) (by omega) (by assumption) | exact vS_no (by assumption))⟩ (by show (ys.length - (x + 1)) < (ys.length - x); omega)))
                · refine R.call true (l01One_c ((mem k).getD t 0) (by omega) (by omega)) (by kernel_rfl) rfl (by kernel_rfl) ?_
                  refine R.go 1 (R.any1 5 (by kernel_rfl) (by kernel_rfl) ?_)
                  refine R.ldI (vS ims (mem k) ys t x) x (by kernel_rfl) (by omega) (by kernel_rfl) ?_
                  refine R.go 1 (R.any1 11 (by kernel_rfl) (by kernel_rfl) ?_)
                  refine R.go 2 (R.any1 12 (by kernel_rfl) (by kernel_rfl) ?_)
                  refine R.idxO 1 1 (vS ims (mem k) ys t x).length x (x : Int) (by kernel_rfl) rfl (by omega) (by kernel_rfl) ?_
                  refine R.go 1 (R.any1 13 (by kernel_rfl) (by kernel_rfl) ?_)
                  refine R.stI 1 2 (vS ims (mem k) ys t x) x (bor ((vS ims (mem k) ys t x).getD x 0) (shl64 1 ((mem k).getD t 0))) (by kernel_rfl) (by omega) (by kernel_rfl) ?_
                  refine R.go 1 (R.any0 (by kernel_rfl) ?_)
                  refine R.go 3 (R.ar ((x : Int) + 1) (by kernel_rfl) (by omega) (by omega) (by kernel_rfl) ?_)
                  exact R.go 2 (R.stop R6 (by kernel_rfl) (N7 (x + 1, (vS ims (mem k) ys t x).set x (bor ((vS ims (mem k) ys t x).getD x 0) (shl64 1 ((mem k).getD t 0)))) [1, 5, 7, 8, 9, 10] none _ (by kernel_rfl) (by kernel_rfl) ⟨(by omega), (by first | exact vS_yes (by omega) (by omega) (by assumption) | exact vS_no (by assumption))⟩ (by show (ys.length - (x + 1)) < (ys.length - x); omega)))
          · refine R.idx eI (mem k) 0 t (t : Int) (by kernel_rfl) rfl eI_len (by omega) (by kernel_rfl) ?_
            refine R.go 1 (R.any2 4 9 (by kernel_rfl) (by kernel_rfl) ?_ ?_)
            · refine R.idxO 1 1 (vS ims (mem k) ys t x).length x (x : Int) (by kernel_rfl) rfl (by omega) (by kernel_rfl) ?_
              refine R.go 1 (R.any2 5 9 (by kernel_rfl) (by kernel_rfl) ?_ ?_)
              · refine R.ldI (vS ims (mem k) ys t x) x (by kernel_rfl) (by omega) (by kernel_rfl) ?_
                refine R.go 1 (R.any1 9 (by kernel_rfl) (by kernel_rfl) ?_)
                refine R.go 2 (R.any1 10 (by kernel_rfl) (by kernel_rfl) ?_)
                refine R.call true (l01One_c ((mem k).getD t 0) (by omega) (by omega)) (by kernel_rfl) rfl (by kernel_rfl) ?_
                refine R.go 1 (R.any1 11 (by kernel_rfl) (by kernel_rfl) ?_)
                refine R.go 2 (R.any1 12 (by kernel_rfl) (by kernel_rfl) ?_)
                refine R.idxO 1 1 (vS ims (mem k) ys t x).length x (x : Int) (by kernel_rfl) rfl (by omega) (by kernel_rfl) ?_
                refine R.go 1 (R.any1 13 (by kernel_rfl) (by kernel_rfl) ?_)
                refine R.stI 1 2 (vS ims (mem k) ys t x) x (bor ((vS ims (mem k) ys t x).getD x 0) (shl64 1 ((mem k).getD t 0))) (by kernel_rfl) (by omega) (by kernel_rfl) ?_
                refine R.go 1 (R.any0 (by kernel_rfl) ?_)
                refine R.go 3 (R.ar ((x : Int) + 1) (by kernel_rfl) (by omega) (by omega) (by kernel_rfl) ?_)
                exact R.go 2 (R.stop R6 (by kernel_rfl) (N7 (x + 1, (vS ims (mem k) ys t x).set x (bor ((vS ims (mem k) ys t x).getD x 0) (shl64 1 ((mem k).getD t 0)))) [1, 5, 7, 8, 9, 10] none _ (by kernel_rfl) (by kernel_rfl) ⟨(by omega), (by first | exact vS_yes (by omega) (by omega) (by assumption) | exact vS_no (by assumption))⟩ (by show (ys.length - (x + 1)) < (ys.length - x); omega)))
              · refine R.go 2 (R.any2 5 10 (by kernel_rfl) (by kernel_rfl) ?_ ?_)
                · refine R.ldI (vS ims (mem k) ys t x) x (by kernel_rfl) (by omega) (by kernel_rfl) ?_
                  refine R.go 1 (R.any1 10 (by kernel_rfl) (by kernel_rfl) ?_)
                  refine R.call true (l01One_c ((mem k).getD t 0) (by omega) (by omega)) (by kernel_rfl) rfl (by kernel_rfl) ?_
                  refine R.go 1 (R.any1 11 (by kernel_rfl) (by kernel_rfl) ?_)
                  refine R.go 2 (R.any1 12 (by kernel_rfl) (by kernel_rfl) ?_)
                  refine R.idxO 1 1 (vS ims (mem k) ys t x).length x (x : Int) (by kernel_rfl) rfl (by omega) (by kernel_rfl) ?_
                  refine R.go 1 (R.any1 13 (by kernel_rfl) (by kernel_rfl) ?_)
                  refine R.stI 1 2 (vS ims (mem k) ys t x) x (bor ((vS ims (mem k) ys t x).getD x 0) (shl64 1 ((mem k).getD t 0))) (by kernel_rfl) (by omega) (by kernel_rfl) ?_
                  refine R.go 1 (R.any0 (by kernel_rfl) ?_)
                  refine R.go 3 (R.ar ((x : Int) + 1) (by kernel_rfl) (by omega) (by omega) (by kernel_rfl) ?_)
                  exact R.go 2 (R.stop R6 (by kernel_rfl) (N7 (x + 1, (vS ims (mem k) ys t x).set x (bor ((vS ims (mem k) ys t x).getD x 0) (shl64 1 ((mem k).getD t 0)))) [1, 5, 7, 8, 9, 10] none _ (by kernel_rfl) (by kernel_rfl) ⟨(by omega), (by first | exact vS_yes (by omega) (by omega) (by assumption) | exact vS_no (by assumption))⟩ (by show (ys.length - (x + 1)) < (ys.length - x); omega)))
                · refine R.call true (l01One_c ((mem k).getD t 0) (by omega) (by omega)) (by kernel_rfl) rfl (by kernel_rfl) ?_
                  refine R.go 1 (R.any1 5 (by kernel_rfl) (by kernel_rfl) ?_)
                  refine R.ldI (vS ims (mem k) ys t x) x (by kernel_rfl) (by omega) (by kernel_rfl) ?_
                  refine R.go 1 (R.any1 11 (by kernel_rfl) (by kernel_rfl) ?_)
                  refine R.go 2 (R.any1 12 (by kernel_rfl) (by kernel_rfl) ?_)
                  refine R.idxO 1 1 (vS ims (mem k) ys t x).length x (x : Int) (by kernel_rfl) rfl (by omega) (by kernel_rfl) ?_
                  refine R.go 1 (R.any1 13 (by kernel_rfl) (by kernel_rfl) ?_)
                  refine R.stI 1 2 (vS ims (mem k) ys t x) x (bor ((vS ims (mem k) ys t x).getD x 0) (shl64 1 ((mem k).getD t 0))) (by kernel_rfl) (by omega) (by kernel_rfl) ?_
                  refine R.go 1 (R.any0 (by kernel_rfl) ?_)
                  refine R.go 3 (R.ar ((x : Int) + 1) (by kernel_rfl) (by omega) (by omega) (by kernel_rfl) ?_)
                  exact R.go 2 (R.stop R6 (by kernel_rfl) (N7 (x + 1, (vS ims (mem k) ys t x).set x (bor ((vS ims (mem k) ys t x).getD x 0) (shl64 1 ((mem k).getD t 0)))) [1, 5, 7, 8, 9, 10] none _ (by kernel_rfl) (by kernel_rfl) ⟨(by omega), (by first | exact vS_yes (by omega) (by omega) (by assumption) | exact vS_no (by assumption))⟩ (by show (ys.length - (x + 1)) < (ys.length - x); omega)))
            · refine R.go 2 (R.any2 4 10 (by kernel_rfl) (by kernel_rfl) ?_ ?_)
              · refine R.idxO 1 1 (vS ims (mem k) ys t x).length x (x : Int) (by kernel_rfl) rfl (by omega) (by kernel_rfl) ?_
                refine R.go 1 (R.any2 5 10 (by kernel_rfl) (by kernel_rfl) ?_ ?_)
                · refine R.ldI (vS ims (mem k) ys t x) x (by kernel_rfl) (by omega) (by kernel_rfl) ?_
                  refine R.go 1 (R.any1 10 (by kernel_rfl) (by kernel_rfl) ?_)
                  refine R.call true (l01One_c ((mem k).getD t 0) (by omega) (by omega)) (by kernel_rfl) rfl (by kernel_rfl) ?_
                  refine R.go 1 (R.any1 11 (by kernel_rfl) (by kernel_rfl) ?_)
                  refine R.go 2 (R.any1 12 (by kernel_rfl) (by kernel_rfl) ?_)
                  refine R.idxO 1 1 (vS ims (mem k) ys t x).length x (x : Int) (by kernel_rfl) rfl (by omega) (by kernel_rfl) ?_
                  refine R.go 1 (R.any1 13 (by kernel_rfl) (by kernel_rfl) ?_)
                  refine R.stI 1 2 (vS ims (mem k) ys t x) x (bor ((vS ims (mem k) ys t x).getD x 0) (shl64 1 ((mem k).getD t 0))) (by kernel_rfl) (by omega) (by kernel_rfl) ?_
                  refine R.go 1 (R.any0 (by kernel_rfl) ?_)
                  refine R.go 3 (R.ar ((x : Int) + 1) (by kernel_rfl) (by omega) (by omega) (by kernel_rfl) ?_)
                  exact R.go 2 (R.stop R6 (by kernel_rfl) (N7 (x + 1, (vS ims (mem k) ys t x).set x (bor ((vS ims (mem k) ys t x).getD x 0) (shl64 1 ((mem k).getD t 0)))) [1, 5, 7, 8, 9, 10] none _ (by kernel_rfl) (by kernel_rfl) ⟨(by omega), (by first | exact vS_yes (by omega) (by omega) (by assumption) | exact vS_no (by assumption))⟩ (by show (ys.length - (x + 1)) < (ys.length - x); omega)))
                · refine R.call true (l01One_c ((mem k).getD t 0) (by omega) (by omega)) (by kernel_rfl) rfl (by kernel_rfl) ?_
                  refine R.go 1 (R.any1 5 (by kernel_rfl) (by kernel_rfl) ?_)
                  refine R.ldI (vS ims (mem k) ys t x) x (by kernel_rfl) (by omega) (by kernel_rfl) ?_
                  refine R.go 1 (R.any1 11 (by kernel_rfl) (by kernel_rfl) ?_)
                  refine R.go 2 (R.any1 12 (by kernel_rfl) (by kernel_rfl) ?_)
                  refine R.idxO 1 1 (vS ims (mem k) ys t x).length x (x : Int) (by kernel_rfl) rfl (by omega) (by kernel_rfl) ?_
                  refine R.go 1 (R.any1 13 (by kernel_rfl) (by kernel_rfl) ?_)
                  refine R.stI 1 2 (vS ims (mem k) ys t x) x (bor ((vS ims (mem k) ys t x).getD x 0) (shl64 1 ((mem k).getD t 0))) (by kernel_rfl) (by omega) (by kernel_rfl) ?_
                  refine R.go 1 (R.any0 (by kernel_rfl) ?_)
                  refine R.go 3 (R.ar ((x : Int) + 1) (by kernel_rfl) (by omega) (by omega) (by kernel_rfl) ?_)
                  exact R.go 2 (R.stop R6 (by kernel_rfl) (N7 (x + 1, (vS ims (mem k) ys t x).set x (bor ((vS ims (mem k) ys t x).getD x 0) (shl64 1 ((mem k).getD t 0)))) [1, 5, 7, 8, 9, 10] none _ (by kernel_rfl) (by kernel_rfl) ⟨(by omega), (by first | exact vS_yes (by omega) (by omega) (by assumption) | exact vS_no (by assumption))⟩ (by show (ys.length - (x + 1)) < (ys.length - x); omega)))
              · refine R.call true (l01One_c ((mem k).getD t 0) (by omega) (by omega)) (by kernel_rfl) rfl (by kernel_rfl) ?_
                refine R.go 1 (R.any1 4 (by kernel_rfl) (by kernel_rfl) ?_)
                refine R.idxO 1 1 (vS ims (mem k) ys t x).length x (x : Int) (by kernel_rfl) rfl (by omega) (by kernel_rfl) ?_
                refine R.go 1 (R.any1 5 (by kernel_rfl) (by kernel_rfl) ?_)
                refine R.ldI (vS ims (mem k) ys t x) x (by kernel_rfl) (by omega) (by kernel_rfl) ?_
                refine R.go 1 (R.any1 11 (by kernel_rfl) (by kernel_rfl) ?_)
                refine R.go 2 (R.any1 12 (by kernel_rfl) (by kernel_rfl) ?_)
                refine R.idxO 1 1 (vS ims (mem k) ys t x).length x (x : Int) (by kernel_rfl) rfl (by omega) (by kernel_rfl) ?_
                refine R.go 1 (R.any1 13 (by kernel_rfl) (by kernel_rfl) ?_)
                refine R.stI 1 2 (vS ims (mem k) ys t x) x (bor ((vS ims (mem k) ys t x).getD x 0) (shl64 1 ((mem k).getD t 0))) (by kernel_rfl) (by omega) (by kernel_rfl) ?_
                refine R.go 1 (R.any0 (by kernel_rfl) ?_)
                refine R.go 3 (R.ar ((x : Int) + 1) (by kernel_rfl) (by omega) (by omega) (by kernel_rfl) ?_)
                exact R.go 2 (R.stop R6 (by kernel_rfl) (N7 (x + 1, (vS ims (mem k) ys t x).set x (bor ((vS ims (mem k) ys t x).getD x 0) (shl64 1 ((mem k).getD t 0)))) [1, 5, 7, 8, 9, 10] none _ (by kernel_rfl) (by kernel_rfl) ⟨(by omega), (by first | exact vS_yes (by omega) (by omega) (by assumption) | exact vS_no (by assumption))⟩ (by show (ys.length - (x + 1)) < (ys.length - x); omega)))
        · refine R.go 4 (R.ar ((x : Int) + 1) (by kernel_rfl) (by omega) (by omega) (by kernel_rfl) ?_)
          exact R.go 2 (R.stop R6 (by kernel_rfl) (N7 (x + 1, vS ims (mem k) ys t x) [1, 5, 7, 8, 9, 10] none _ (by kernel_rfl) (by kernel_rfl) ⟨(by omega), (by first | exact vS_yes (by omega) (by omega) (by assumption) | exact vS_no (by assumption))⟩ (by show (ys.length - (x + 1)) < (ys.length - x); omega)))
      · refine R.go 4 (R.ar ((t : Int) + 1) (by kernel_rfl) (by omega) (by omega) (by kernel_rfl) ?_)
        exact R.go 2 (R.stop R1 (by kernel_rfl) (N2 (t + 1, vS ims (mem k) ys t x) [1, 5, 7, 8, 9] none _ (by kernel_rfl) (by kernel_rfl) ⟨(by omega), (by exact vS_next (by omega))⟩ (by show ((mem k).length - (t + 1)) < ((mem k).length - t); omega)))
    · exact R.go 6 (R.retE (ownA eI 2 1 (vS ims (mem k) ys t 0)) (by kernel_rfl) (by kernel_rfl) (by first | (rw [vS_end (by omega)]) | (exfalso; omega)))

theorem l16Code_2 (n : Int) (xs : List Int) (k : Int) (ho : outR n k = true) (hP : okPo n xs = true) (lx : xs.length ≤ 1000000000) : CallA Try.prog 69 [.agg [AI n, LI xs], AI k] (AI 2) := by
  have hp1 := okFr_rel (okPo_fr hP)
  have hb : 0 ≤ n ∧ n ≤ 8 ∧ (xs.length : Int) = n := ⟨hp1.1, hp1.2.1, hp1.2.2.1⟩
  have hsh := shl_rng n hp1.1 (by omega)
  refine CallA.of Try.func69 rfl (by kernel_rfl) ?_
  refine R.go 10 (R.call true (l16Is_c n xs lx) (by kernel_rfl) rfl (by kernel_rfl) ?_)
  refine R.go 3 (R.els (!(okPo n xs)) (by kernel_rfl) (bnF hP) ?_)
  refine R.go 5 (R.call true (l01Full_c n (by omega) (by omega)) (by kernel_rfl) rfl (by kernel_rfl) ?_)
  refine R.call true (l01In_c k 0 ((shl64 1 n) - 1)) (by kernel_rfl) rfl (by kernel_rfl) ?_
  refine R.go 3 (R.condM (inR k 0 ((shl64 1 n) - 1)) (by kernel_rfl) (fun c1 => ?_) (fun c1 => ?_))
  · exact R.go 4 (R.retE (AI 2) (by kernel_rfl) (by kernel_rfl) (by rfl))
  · exact R.go 6 (R.retE (AI 0) (by kernel_rfl) (by kernel_rfl) (by first | (exfalso; rw [outR_inR (by omega) (by omega) (by assumption)] at ho; cases ho) | (exfalso; omega)))

theorem l16Code_0 (n : Int) (xs : List Int) (k : Int) (ho : outR n k = false) (hP : okPo n xs = true) (lx : xs.length ≤ 1000000000) : CallA Try.prog 69 [.agg [AI n, LI xs], AI k] (AI 0) := by
  have hp1 := okFr_rel (okPo_fr hP)
  have hb : 0 ≤ n ∧ n ≤ 8 ∧ (xs.length : Int) = n := ⟨hp1.1, hp1.2.1, hp1.2.2.1⟩
  have hsh := shl_rng n hp1.1 (by omega)
  refine CallA.of Try.func69 rfl (by kernel_rfl) ?_
  refine R.go 10 (R.call true (l16Is_c n xs lx) (by kernel_rfl) rfl (by kernel_rfl) ?_)
  refine R.go 3 (R.els (!(okPo n xs)) (by kernel_rfl) (bnF hP) ?_)
  refine R.go 5 (R.call true (l01Full_c n (by omega) (by omega)) (by kernel_rfl) rfl (by kernel_rfl) ?_)
  refine R.call true (l01In_c k 0 ((shl64 1 n) - 1)) (by kernel_rfl) rfl (by kernel_rfl) ?_
  refine R.go 3 (R.condM (inR k 0 ((shl64 1 n) - 1)) (by kernel_rfl) (fun c1 => ?_) (fun c1 => ?_))
  · exact R.go 4 (R.retE (AI 2) (by kernel_rfl) (by kernel_rfl) (by first | (exfalso; rw [outR_inR (by omega) (by omega) (by assumption)] at ho; cases ho) | (exfalso; omega)))
  · exact R.go 6 (R.retE (AI 0) (by kernel_rfl) (by kernel_rfl) (by rfl))

theorem SV_spec (n : Int) (xs : List Int) (k : Int) (ims : List Int) (m : Int) (ys : List Int) (lx : xs.length ≤ 1048576) (ly : ys.length ≤ 1048576) (li : ims.length ≤ 1048576) : CallA Try.prog 37 [.agg [AI n, LI xs], AI k, LI ims, .agg [AI m, LI ys]] (.tup [ownA eI 2 1 (shR n xs k ims m ys), AI (shC n xs k ims m ys)]) := by
  have htw := fun h : twoC n xs m ys = 0 => two_ok h
  have hp := fun h : okPo n xs = true => okFr_rel (okPo_fr h)
  have hq := fun h : okPo m ys = true => okFr_rel (okPo_fr h)
  refine CallA.of Try.func37 rfl (by kernel_rfl) ?_
  refine R.go 11 (R.call true (l21Two_c n xs m ys (by first | omega | (simp <;> omega)) (by first | omega | (simp <;> omega))) (by kernel_rfl) rfl (by kernel_rfl) ?_)
  refine R.go 8 (R.cond ((twoC n xs m ys) = 0) (by kernel_rfl) (fun c1 => ?_) (fun c1 => ?_))
  · have hc0 : twoC n xs m ys = 0 := by first | assumption | exact two_0 (by assumption) (by assumption)
    have hP : okPo n xs = true := (htw hc0).1
    have hQ : okPo m ys = true := (htw hc0).2
    have hp1 := hp hP
    have hq1 := hq hQ
    have hb : 0 ≤ n ∧ n ≤ 8 ∧ (xs.length : Int) = n ∧ 0 ≤ m ∧ m ≤ 8 ∧ (ys.length : Int) = m := ⟨hp1.1, hp1.2.1, hp1.2.2.1, hq1.1, hq1.2.1, hq1.2.2.1⟩
    refine R.go 2 ?_
    refine (Bool.eq_false_or_eq_true (outR n k)).elim (fun c2 => ?_) (fun c2 => ?_)
    · refine R.go 1 (R.call true (l16Code_2 n xs k c2 hP (by first | omega | (simp <;> omega))) (by kernel_rfl) rfl (by kernel_rfl) ?_)
      refine R.go 17 (R.nil 8 2 1 (by kernel_rfl) ?_)
      exact R.retE (.tup [ownA eI 2 1 [], AI 2]) (by kernel_rfl) (by kernel_rfl) (by first | (first | exact sh_ok hsh0 (by first | rfl | assumption | exact vI_end (by omega)) | exact sh_bad (sh_1' (by assumption)) (by assumption) | exact sh_bad (sh_1 (by first | assumption | (rw [two_1 (by simp_all)]; decide))) (by decide) | exact sh_bad (sh_2 hc0 (by first | assumption | simpa using (by assumption : (!outR n k) = false))) (by decide) | exact sh_bad (sh_5 hc0 ho (by simp [*])) (by decide) | exact sh_bad (sh_3 hc0 ho (by simp [*]) (by omega)) (by decide)) | (exfalso; omega))
    · refine R.go 1 (R.call true (l16Code_0 n xs k c2 hP (by first | omega | (simp <;> omega))) (by kernel_rfl) rfl (by kernel_rfl) ?_)
      have ho : outR n k = false := by first | assumption | simpa using (by assumption : (!outR n k) = true)
      have hk : InM n.toNat k := inM_out (by omega) (by omega) ho
      have hml := mem_lenN (N := n.toNat) (by omega) hk
      have hfp : okFr ((mem k).length : Int) (prt xs (mem k)) = true := prt_fr (okPo_fr hP) hk
      have hfq : okFr m ys = true := okPo_fr hQ
      have hk61 : InM 61 k := inM_mono (n' := 61) (by omega) hk
      refine R.go 16 (R.call true (l01Image_c xs k (by first | omega | (simp <;> omega))) (by kernel_rfl) rfl (by kernel_rfl) ?_)
      refine R.go 3 ?_
      by_cases c3 : (img xs k xs.length) = k
      · refine R.want (!decide ((img xs k xs.length) = k)) false (by kernel_rfl) (nF c3) ?_
        refine R.go 1 (R.want (!decide ((img xs k xs.length) = k)) false (by kernel_rfl) (nF c3) ?_)
        refine R.go 1 (R.want (!decide ((img xs k xs.length) = k)) false (by kernel_rfl) (nF c3) ?_)
        refine R.call true (l16Part_c n xs k (by first | assumption | exact okPo_fr (by assumption)) hk).frz (by kernel_rfl) rfl (by kernel_rfl) ?_
        refine R.want (!decide ((img xs k xs.length) = k)) false (by kernel_rfl) (nF c3) ?_
        refine R.go 1 (R.want (!decide ((img xs k xs.length) = k)) false (by kernel_rfl) (nF c3) ?_)
        refine R.go 1 (R.want (!decide ((img xs k xs.length) = k)) false (by kernel_rfl) (nF c3) ?_)
        refine R.call true (l21Morphism_c ((mem k).length) (prt xs (mem k)) m ys ims (by first | assumption | exact okPo_fr (by assumption)) hfq (by first | omega | (simp <;> omega))) (by kernel_rfl) rfl (by kernel_rfl) ?_
        refine R.want (!decide ((img xs k xs.length) = k)) false (by kernel_rfl) (nF c3) ?_
        refine R.go 1 (R.pick (!decide ((img xs k xs.length) = k)) false (by kernel_rfl) (nF c3) (by kernel_rfl) ?_)
        refine R.go 2 (R.condM (morB ((mem k).length) (prt xs (mem k)) m ys ims) (by kernel_rfl) (fun c4 => ?_) (fun c4 => ?_))
        · refine R.go 5 (R.nil 8 2 1 (by kernel_rfl) ?_)
          exact R.retE (.tup [ownA eI 2 1 [], AI 5]) (by kernel_rfl) (by kernel_rfl) (by first | (first | exact sh_ok hsh0 (by first | rfl | assumption | exact vI_end (by omega)) | exact sh_bad (sh_1' (by assumption)) (by assumption) | exact sh_bad (sh_1 (by first | assumption | (rw [two_1 (by simp_all)]; decide))) (by decide) | exact sh_bad (sh_2 hc0 (by first | assumption | simpa using (by assumption : (!outR n k) = false))) (by decide) | exact sh_bad (sh_5 hc0 ho (by simp [*])) (by decide) | exact sh_bad (sh_3 hc0 ho (by simp [*]) (by omega)) (by decide)) | (exfalso; omega))
        · refine R.go 7 (R.cond (m > 6) (by kernel_rfl) (fun c5 => ?_) (fun c5 => ?_))
          · refine R.go 5 (R.nil 8 2 1 (by kernel_rfl) ?_)
            exact R.retE (.tup [ownA eI 2 1 [], AI 3]) (by kernel_rfl) (by kernel_rfl) (by first | (first | exact sh_ok hsh0 (by first | rfl | assumption | exact vI_end (by omega)) | exact sh_bad (sh_1' (by assumption)) (by assumption) | exact sh_bad (sh_1 (by first | assumption | (rw [two_1 (by simp_all)]; decide))) (by decide) | exact sh_bad (sh_2 hc0 (by first | assumption | simpa using (by assumption : (!outR n k) = false))) (by decide) | exact sh_bad (sh_5 hc0 ho (by simp [*])) (by decide) | exact sh_bad (sh_3 hc0 ho (by simp [*]) (by omega)) (by decide)) | (exfalso; omega))
          · have him : img xs k xs.length = k := by assumption
            have hmo : morB ((mem k).length : Int) (prt xs (mem k)) m ys ims = true := by assumption
            have hmb := mor_b hmo
            have hm6 : ¬ m > 6 := by omega
            have hiv : ∀ j : Nat, j < ims.length → 0 ≤ ims.getD j 0 ∧ ims.getD j 0 ≤ 61 := fun j hj => by have := hmb.2 j hj; omega
            have hmc := hmb.1
            have h3 : (decide (img xs k xs.length = k) && morB ((mem k).length : Int) (prt xs (mem k)) m ys ims) = true := by simp [*]
            have hsh0 : shC n xs k ims m ys = 0 := sh_0 hc0 ho h3 hm6
            refine R.go 7 (R.call true (l21Values_c k ims m ys hk61 (by first | omega | (simp <;> omega)) (by first | omega | (simp <;> omega)) hiv) (by kernel_rfl) rfl (by kernel_rfl) ?_)
            exact R.go 3 (R.retE (.tup [ownA eI 2 1 (vF ims (mem k) ys), AI 0]) (by kernel_rfl) (by kernel_rfl) (by first | (first | exact sh_ok hsh0 (by first | rfl | assumption | exact vI_end (by omega)) | exact sh_bad (sh_1' (by assumption)) (by assumption) | exact sh_bad (sh_1 (by first | assumption | (rw [two_1 (by simp_all)]; decide))) (by decide) | exact sh_bad (sh_2 hc0 (by first | assumption | simpa using (by assumption : (!outR n k) = false))) (by decide) | exact sh_bad (sh_5 hc0 ho (by simp [*])) (by decide) | exact sh_bad (sh_3 hc0 ho (by simp [*]) (by omega)) (by decide)) | (exfalso; omega)))
      · refine R.skp (!decide ((img xs k xs.length) = k)) false (by kernel_rfl) (nT c3) (by kernel_rfl) ?_
        refine R.skp (!decide ((img xs k xs.length) = k)) false (by kernel_rfl) (nT c3) (by kernel_rfl) ?_
        refine R.skp (!decide ((img xs k xs.length) = k)) false (by kernel_rfl) (nT c3) (by kernel_rfl) ?_
        refine R.skp (!decide ((img xs k xs.length) = k)) false (by kernel_rfl) (nT c3) (by kernel_rfl) ?_
        refine R.skp (!decide ((img xs k xs.length) = k)) false (by kernel_rfl) (nT c3) (by kernel_rfl) ?_
        refine R.skp (!decide ((img xs k xs.length) = k)) false (by kernel_rfl) (nT c3) (by kernel_rfl) ?_
        refine R.skp (!decide ((img xs k xs.length) = k)) false (by kernel_rfl) (nT c3) (by kernel_rfl) ?_
        refine R.pick (!decide ((img xs k xs.length) = k)) true (by kernel_rfl) (nT c3) (by kernel_rfl) ?_
        refine R.go 8 (R.nil 8 2 1 (by kernel_rfl) ?_)
        exact R.retE (.tup [ownA eI 2 1 [], AI 5]) (by kernel_rfl) (by kernel_rfl) (by first | (first | exact sh_ok hsh0 (by first | rfl | assumption | exact vI_end (by omega)) | exact sh_bad (sh_1' (by assumption)) (by assumption) | exact sh_bad (sh_1 (by first | assumption | (rw [two_1 (by simp_all)]; decide))) (by decide) | exact sh_bad (sh_2 hc0 (by first | assumption | simpa using (by assumption : (!outR n k) = false))) (by decide) | exact sh_bad (sh_5 hc0 ho (by simp [*])) (by decide) | exact sh_bad (sh_3 hc0 ho (by simp [*]) (by omega)) (by decide)) | (exfalso; omega))
  · refine R.go 9 (R.thn (!decide ((twoC n xs m ys) = 0)) (by kernel_rfl) (nT c1) ?_)
    refine R.go 6 (R.nil 8 2 1 (by kernel_rfl) ?_)
    exact R.retE (.tup [ownA eI 2 1 [], AI (twoC n xs m ys)]) (by kernel_rfl) (by kernel_rfl) (by first | (first | exact sh_ok hsh0 (by first | rfl | assumption | exact vI_end (by omega)) | exact sh_bad (sh_1' (by assumption)) (by assumption) | exact sh_bad (sh_1 (by first | assumption | (rw [two_1 (by simp_all)]; decide))) (by decide) | exact sh_bad (sh_2 hc0 (by first | assumption | simpa using (by assumption : (!outR n k) = false))) (by decide) | exact sh_bad (sh_5 hc0 ho (by simp [*])) (by decide) | exact sh_bad (sh_3 hc0 ho (by simp [*]) (by omega)) (by decide)) | (exfalso; omega))

theorem SV_impl (n : Int) (xs : List Int) (k : Int) (ims : List Int) (m : Int) (ys : List Int) (lx : xs.length ≤ 1048576) (ly : ys.length ≤ 1048576) (li : ims.length ≤ 1048576) : CallA Try.prog 38 [.agg [AI n, LI xs], AI k, LI ims, .agg [AI m, LI ys]] (.tup [ownA eI 2 1 (shR n xs k ims m ys), AI (shC n xs k ims m ys)]) := by
  have htw := fun h : twoC n xs m ys = 0 => two_ok h
  have hp := fun h : okPo n xs = true => okFr_rel (okPo_fr h)
  have hq := fun h : okPo m ys = true => okFr_rel (okPo_fr h)
  refine CallA.of Try.func38 rfl (by kernel_rfl) ?_
  refine R.go 12 (R.call true (isPoset_c n xs (by first | omega | (simp <;> omega))) (by kernel_rfl) rfl (by kernel_rfl) ?_)
  refine R.go 2 ?_
  refine (Bool.eq_false_or_eq_true (okPo n xs)).elim (fun c1 => ?_) (fun c1 => ?_)
  · refine R.want (!(okPo n xs)) false (by kernel_rfl) (bnF c1) ?_
    refine R.go 1 (R.want (!(okPo n xs)) false (by kernel_rfl) (bnF c1) ?_)
    refine R.call true (isPoset_c m ys (by first | omega | (simp <;> omega))) (by kernel_rfl) rfl (by kernel_rfl) ?_
    refine R.want (!(okPo n xs)) false (by kernel_rfl) (bnF c1) ?_
    refine R.go 1 (R.pick (!(okPo n xs)) false (by kernel_rfl) (bnF c1) (by kernel_rfl) ?_)
    refine R.go 2 (R.condM (okPo m ys) (by kernel_rfl) (fun c2 => ?_) (fun c2 => ?_))
    · refine R.go 5 (R.nil 8 2 1 (by kernel_rfl) ?_)
      exact R.retE (.tup [ownA eI 2 1 [], AI 1]) (by kernel_rfl) (by kernel_rfl) (by first | (first | exact sh_ok hsh0 (by first | rfl | assumption | exact vI_end (by omega)) | exact sh_bad (sh_1' (by assumption)) (by assumption) | exact sh_bad (sh_1 (by first | assumption | (rw [two_1 (by simp_all)]; decide))) (by decide) | exact sh_bad (sh_2 hc0 (by first | assumption | simpa using (by assumption : (!outR n k) = false))) (by decide) | exact sh_bad (sh_5 hc0 ho (by simp [*])) (by decide) | exact sh_bad (sh_3 hc0 ho (by simp [*]) (by omega)) (by decide)) | (exfalso; omega))
    · have hc0 : twoC n xs m ys = 0 := by first | assumption | exact two_0 (by assumption) (by assumption)
      have hP : okPo n xs = true := (htw hc0).1
      have hQ : okPo m ys = true := (htw hc0).2
      have hp1 := hp hP
      have hq1 := hq hQ
      have hb : 0 ≤ n ∧ n ≤ 8 ∧ (xs.length : Int) = n ∧ 0 ≤ m ∧ m ≤ 8 ∧ (ys.length : Int) = m := ⟨hp1.1, hp1.2.1, hp1.2.2.1, hq1.1, hq1.2.1, hq1.2.2.1⟩
      refine R.go 5 (R.call true (isMask_c n k) (by kernel_rfl) rfl (by kernel_rfl) ?_)
      refine R.go 3 (R.condM (!(outR n k)) (by kernel_rfl) (fun c3 => ?_) (fun c3 => ?_))
      · refine R.go 5 (R.nil 8 2 1 (by kernel_rfl) ?_)
        exact R.retE (.tup [ownA eI 2 1 [], AI 2]) (by kernel_rfl) (by kernel_rfl) (by first | (first | exact sh_ok hsh0 (by first | rfl | assumption | exact vI_end (by omega)) | exact sh_bad (sh_1' (by assumption)) (by assumption) | exact sh_bad (sh_1 (by first | assumption | (rw [two_1 (by simp_all)]; decide))) (by decide) | exact sh_bad (sh_2 hc0 (by first | assumption | simpa using (by assumption : (!outR n k) = false))) (by decide) | exact sh_bad (sh_5 hc0 ho (by simp [*])) (by decide) | exact sh_bad (sh_3 hc0 ho (by simp [*]) (by omega)) (by decide)) | (exfalso; omega))
      · have ho : outR n k = false := by first | assumption | simpa using (by assumption : (!outR n k) = true)
        have hk : InM n.toNat k := inM_out (by omega) (by omega) ho
        have hml := mem_lenN (N := n.toNat) (by omega) hk
        have hfp : okFr ((mem k).length : Int) (prt xs (mem k)) = true := prt_fr (okPo_fr hP) hk
        have hfq : okFr m ys = true := okPo_fr hQ
        have hk61 : InM 61 k := inM_mono (n' := 61) (by omega) hk
        have hfx : okFr n xs = true := okPo_fr hP
        refine R.go 4 (R.call true (isUpset_c n xs k hfx hk ho) (by kernel_rfl) rfl (by kernel_rfl) ?_)
        refine R.go 2 ?_
        by_cases c4 : img xs k xs.length = k
        · refine R.want (!decide (img xs k xs.length = k)) false (by kernel_rfl) (nF c4) ?_
          refine R.go 1 (R.want (!decide (img xs k xs.length = k)) false (by kernel_rfl) (nF c4) ?_)
          refine R.go 1 (R.want (!decide (img xs k xs.length = k)) false (by kernel_rfl) (nF c4) ?_)
          refine R.call true (pOn_c n xs k hfx hk) (by kernel_rfl) rfl (by kernel_rfl) ?_
          refine R.want (!decide (img xs k xs.length = k)) false (by kernel_rfl) (nF c4) ?_
          refine R.go 1 (R.want (!decide (img xs k xs.length = k)) false (by kernel_rfl) (nF c4) ?_)
          refine R.go 1 (R.want (!decide (img xs k xs.length = k)) false (by kernel_rfl) (nF c4) ?_)
          refine R.call true (isPosetMorphism_c ((mem k).length) (prt xs (mem k)) m ys ims (by first | assumption | exact okPo_fr (by assumption)) hfq (by first | omega | (simp <;> omega))) (by kernel_rfl) rfl (by kernel_rfl) ?_
          refine R.want (!decide (img xs k xs.length = k)) false (by kernel_rfl) (nF c4) ?_
          refine R.go 1 (R.pick (!decide (img xs k xs.length = k)) false (by kernel_rfl) (nF c4) (by kernel_rfl) ?_)
          refine R.go 2 (R.condM (morB ((mem k).length) (prt xs (mem k)) m ys ims) (by kernel_rfl) (fun c5 => ?_) (fun c5 => ?_))
          · refine R.go 5 (R.nil 8 2 1 (by kernel_rfl) ?_)
            exact R.retE (.tup [ownA eI 2 1 [], AI 5]) (by kernel_rfl) (by kernel_rfl) (by first | (first | exact sh_ok hsh0 (by first | rfl | assumption | exact vI_end (by omega)) | exact sh_bad (sh_1' (by assumption)) (by assumption) | exact sh_bad (sh_1 (by first | assumption | (rw [two_1 (by simp_all)]; decide))) (by decide) | exact sh_bad (sh_2 hc0 (by first | assumption | simpa using (by assumption : (!outR n k) = false))) (by decide) | exact sh_bad (sh_5 hc0 ho (by simp [*])) (by decide) | exact sh_bad (sh_3 hc0 ho (by simp [*]) (by omega)) (by decide)) | (exfalso; omega))
          · refine R.go 7 (R.cond (m > 6) (by kernel_rfl) (fun c6 => ?_) (fun c6 => ?_))
            · refine R.go 5 (R.nil 8 2 1 (by kernel_rfl) ?_)
              exact R.retE (.tup [ownA eI 2 1 [], AI 3]) (by kernel_rfl) (by kernel_rfl) (by first | (first | exact sh_ok hsh0 (by first | rfl | assumption | exact vI_end (by omega)) | exact sh_bad (sh_1' (by assumption)) (by assumption) | exact sh_bad (sh_1 (by first | assumption | (rw [two_1 (by simp_all)]; decide))) (by decide) | exact sh_bad (sh_2 hc0 (by first | assumption | simpa using (by assumption : (!outR n k) = false))) (by decide) | exact sh_bad (sh_5 hc0 ho (by simp [*])) (by decide) | exact sh_bad (sh_3 hc0 ho (by simp [*]) (by omega)) (by decide)) | (exfalso; omega))
            · have him : img xs k xs.length = k := by assumption
              have hmo : morB ((mem k).length : Int) (prt xs (mem k)) m ys ims = true := by assumption
              have hmb := mor_b hmo
              have hm6 : ¬ m > 6 := by omega
              have hiv : ∀ j : Nat, j < ims.length → 0 ≤ ims.getD j 0 ∧ ims.getD j 0 ≤ 61 := fun j hj => by have := hmb.2 j hj; omega
              have hmc := hmb.1
              have h3 : (decide (img xs k xs.length = k) && morB ((mem k).length : Int) (prt xs (mem k)) m ys ims) = true := by simp [*]
              have hsh0 : shC n xs k ims m ys = 0 := sh_0 hc0 ho h3 hm6
              refine R.go 16 (R.loop ((fun | (x, out) => (⟨(frm 65 [(1, AI k), (2, LI ims), (10, .ref 0), (48, LI ys), (49, AI ys.length), (50, AI (x : Int))]), [rowA eI 2 1 out]⟩ : St) : Nat × (List Int) → St)) (fun | (x, out) => (x ≤ ys.length) ∧ (out = vI ims (mem k) ys x)) (fun | (x, out) => ys.length - x) (0, (List.replicate 6 0)) [1, 2, 10, 48, 49, 50] (some [2]) (by kernel_rfl) (by kernel_rfl) (by kernel_rfl) ⟨(by omega), (by exact vI_0 _ _ _)⟩ ?_)
              rintro ⟨x, out⟩ ⟨h10_1, rfl⟩ R7 N8
              have hol := vI_len ims (mem k) ys x
              refine R.go 5 (R.cond ((x : Int) < (ys.length : Int)) (by kernel_rfl) (fun c11 => ?_) (fun c11 => ?_))
              · refine R.go 6 (R.idx eI ys 0 x (x : Int) (by kernel_rfl) rfl eI_len (by omega) (by kernel_rfl) ?_)
                refine R.go 9 (R.call true (pull_c ims (ys.getD x 0) hiv (by first | omega | (simp <;> omega))) (by kernel_rfl) rfl (by kernel_rfl) ?_)
                refine R.go 1 (R.call true (spread_c (plM ims (ys.getD x 0) ims.length) k hk61) (by kernel_rfl) rfl (by kernel_rfl) ?_)
                refine R.idxO 0 1 (vI ims (mem k) ys x).length x (x : Int) (by kernel_rfl) rfl (by omega) (by kernel_rfl) ?_
                refine R.stI 0 2 (vI ims (mem k) ys x) x (sprd (plM ims (ys.getD x 0) ims.length) (mem k) (mem k).length) (by kernel_rfl) (by omega) (by kernel_rfl) ?_
                refine R.go 3 (R.ar ((x : Int) + 1) (by kernel_rfl) (by omega) (by omega) (by kernel_rfl) ?_)
                exact R.go 2 (R.stop R7 (by kernel_rfl) (N8 (x + 1, (vI ims (mem k) ys x).set x (sprd (plM ims (ys.getD x 0) ims.length) (mem k) (mem k).length)) [1, 2, 10, 48, 49, 50] none _ (by kernel_rfl) (by kernel_rfl) ⟨(by omega), (by exact vI_set (by omega) (by omega) (by omega))⟩ (by show (ys.length - (x + 1)) < (ys.length - x); omega)))
              · exact R.go 7 (R.retE (.tup [ownA eI 2 1 (vI ims (mem k) ys x), AI 0]) (by kernel_rfl) (by kernel_rfl) (by first | (first | exact sh_ok hsh0 (by first | rfl | assumption | exact vI_end (by omega)) | exact sh_bad (sh_1' (by assumption)) (by assumption) | exact sh_bad (sh_1 (by first | assumption | (rw [two_1 (by simp_all)]; decide))) (by decide) | exact sh_bad (sh_2 hc0 (by first | assumption | simpa using (by assumption : (!outR n k) = false))) (by decide) | exact sh_bad (sh_5 hc0 ho (by simp [*])) (by decide) | exact sh_bad (sh_3 hc0 ho (by simp [*]) (by omega)) (by decide)) | (exfalso; omega)))
        · refine R.skp (!decide (img xs k xs.length = k)) false (by kernel_rfl) (nT c4) (by kernel_rfl) ?_
          refine R.skp (!decide (img xs k xs.length = k)) false (by kernel_rfl) (nT c4) (by kernel_rfl) ?_
          refine R.skp (!decide (img xs k xs.length = k)) false (by kernel_rfl) (nT c4) (by kernel_rfl) ?_
          refine R.skp (!decide (img xs k xs.length = k)) false (by kernel_rfl) (nT c4) (by kernel_rfl) ?_
          refine R.skp (!decide (img xs k xs.length = k)) false (by kernel_rfl) (nT c4) (by kernel_rfl) ?_
          refine R.skp (!decide (img xs k xs.length = k)) false (by kernel_rfl) (nT c4) (by kernel_rfl) ?_
          refine R.skp (!decide (img xs k xs.length = k)) false (by kernel_rfl) (nT c4) (by kernel_rfl) ?_
          refine R.pick (!decide (img xs k xs.length = k)) true (by kernel_rfl) (nT c4) (by kernel_rfl) ?_
          refine R.go 8 (R.nil 8 2 1 (by kernel_rfl) ?_)
          exact R.retE (.tup [ownA eI 2 1 [], AI 5]) (by kernel_rfl) (by kernel_rfl) (by first | (first | exact sh_ok hsh0 (by first | rfl | assumption | exact vI_end (by omega)) | exact sh_bad (sh_1' (by assumption)) (by assumption) | exact sh_bad (sh_1 (by first | assumption | (rw [two_1 (by simp_all)]; decide))) (by decide) | exact sh_bad (sh_2 hc0 (by first | assumption | simpa using (by assumption : (!outR n k) = false))) (by decide) | exact sh_bad (sh_5 hc0 ho (by simp [*])) (by decide) | exact sh_bad (sh_3 hc0 ho (by simp [*]) (by omega)) (by decide)) | (exfalso; omega))
  · refine R.skp (!(okPo n xs)) false (by kernel_rfl) (bnT c1) (by kernel_rfl) ?_
    refine R.skp (!(okPo n xs)) false (by kernel_rfl) (bnT c1) (by kernel_rfl) ?_
    refine R.skp (!(okPo n xs)) false (by kernel_rfl) (bnT c1) (by kernel_rfl) ?_
    refine R.pick (!(okPo n xs)) true (by kernel_rfl) (bnT c1) (by kernel_rfl) ?_
    refine R.go 8 (R.nil 8 2 1 (by kernel_rfl) ?_)
    exact R.retE (.tup [ownA eI 2 1 [], AI 1]) (by kernel_rfl) (by kernel_rfl) (by first | (first | exact sh_ok hsh0 (by first | rfl | assumption | exact vI_end (by omega)) | exact sh_bad (sh_1' (by assumption)) (by assumption) | exact sh_bad (sh_1 (by first | assumption | (rw [two_1 (by simp_all)]; decide))) (by decide) | exact sh_bad (sh_2 hc0 (by first | assumption | simpa using (by assumption : (!outR n k) = false))) (by decide) | exact sh_bad (sh_5 hc0 ho (by simp [*])) (by decide) | exact sh_bad (sh_3 hc0 ho (by simp [*]) (by omega)) (by decide)) | (exfalso; omega))

set_option maxHeartbeats 1000000 in
theorem lawShowingValues_in (n : Int) (xs : List Int) (k : Int) (ims : List Int) (m : Int) (ys : List Int) (hl : xs.length + ys.length ≤ 1048576) (h0ims : ims.length ≤ 1048576) : CallA Try.prog 9 [.agg [AI n, LI xs], AI k, LI ims, .agg [AI m, LI ys]] (.bool true) := by
  have hrl := shR_len (n := n) (xs := xs) (k := k) (ims := ims) (m := m) (ys := ys)
  refine CallA.of Try.func9 rfl (by kernel_rfl) ?_
  refine R.go 13 (R.cond ((ims.length : Int) > 1048576) (by kernel_rfl) (fun c1 => ?_) (fun c1 => ?_))
  · exact R.go 4 (R.retE (.bool true) (by kernel_rfl) (by kernel_rfl) (by rfl))
  · refine R.go 9 (R.call true (szPoset_c n xs 1048576 (by omega) (by first | omega | (simp <;> omega))) (by kernel_rfl) rfl (by kernel_rfl) ?_)
    refine R.go 8 (R.cond (((1048576 : Int) - xs.length) < 0) (by kernel_rfl) (fun c2 => ?_) (fun c2 => ?_))
    · exact R.go 4 (R.retE (.bool true) (by kernel_rfl) (by kernel_rfl) (by rfl))
    · refine R.go 5 (R.call true (szPoset_c m ys ((1048576 : Int) - xs.length) (by first | omega | (simp <;> omega)) (by first | omega | (simp <;> omega))) (by kernel_rfl) rfl (by kernel_rfl) ?_)
      refine R.go 8 (R.cond (((((1048576 : Int) - xs.length) : Int) - ys.length) < 0) (by kernel_rfl) (fun c3 => ?_) (fun c3 => ?_))
      · exact R.go 4 (R.retE (.bool true) (by kernel_rfl) (by kernel_rfl) (by rfl))
      · refine R.go 4 (R.call true (toPoset_c n xs (by first | omega | (simp <;> omega))).frz (by kernel_rfl) rfl (by kernel_rfl) ?_)
        refine R.go 2 (R.call true (toInt64S_c ims h0ims).frz (by kernel_rfl) rfl (by kernel_rfl) ?_)
        refine R.go 1 (R.call true (toPoset_c m ys (by first | omega | (simp <;> omega))).frz (by kernel_rfl) rfl (by kernel_rfl) ?_)
        refine R.call true (SV_spec n xs k ims m ys (by first | omega | (simp <;> omega)) (by first | omega | (simp <;> omega)) h0ims).frz (by kernel_rfl) rfl (by kernel_rfl) ?_
        refine R.go 9 (R.call true (toPoset_c n xs (by first | omega | (simp <;> omega))) (by kernel_rfl) rfl (by kernel_rfl) ?_)
        refine R.go 6 (R.call true (toInt64S_c ims h0ims) (by kernel_rfl) rfl (by kernel_rfl) ?_)
        refine R.go 5 (R.call true (toPoset_c m ys (by first | omega | (simp <;> omega))) (by kernel_rfl) rfl (by kernel_rfl) ?_)
        refine R.go 9 (R.call false (SV_impl n xs k ims m ys (by first | omega | (simp <;> omega)) (by first | omega | (simp <;> omega)) h0ims) (by kernel_rfl) (by simp [AV.closed, closedL, AI, ownA_closed eI_closed]) (by kernel_rfl) ?_)
        refine R.go 11 (R.call false (eqInt64S_c (shR n xs k ims m ys) (shR n xs k ims m ys) (by first | omega | (simp <;> omega))) (by kernel_rfl) rfl (by kernel_rfl) ?_)
        refine R.go 2 (R.want (!decide ((shR n xs k ims m ys) = (shR n xs k ims m ys))) false (by kernel_rfl) (nF rfl) ?_)
        refine R.go 1 (R.want (!decide ((shR n xs k ims m ys) = (shR n xs k ims m ys))) false (by kernel_rfl) (nF rfl) ?_)
        refine R.go 1 (R.want (!decide ((shR n xs k ims m ys) = (shR n xs k ims m ys))) false (by kernel_rfl) (nF rfl) ?_)
        refine R.go 1 (R.pick (!decide ((shR n xs k ims m ys) = (shR n xs k ims m ys))) false (by kernel_rfl) (nF rfl) (by kernel_rfl) ?_)
        refine R.go 1 (R.els (!decide ((shC n xs k ims m ys) = (shC n xs k ims m ys))) (by kernel_rfl) (nF rfl) ?_)
        refine R.go 3 (R.meet (⟨(frm 145 [(0, .agg [AI n, LI xs]), (1, AI k), (2, LI ims), (3, .agg [AI m, LI ys]), (4, .ptr 0 0), (7, .ptr 1 0), (8, .bool false), (9, AI ((((1048576 : Int) - xs.length) : Int) - ys.length)), (10, LI (shR n xs k ims m ys)), (11, AI (shC n xs k ims m ys)), (12, .ptr 3 0), (13, .ref 4), (14, .ptr 6 0), (15, .ref 7), (16, AI (shC n xs k ims m ys)), (22, LI ims), (23, AI ims.length), (24, .bool (decide ((ims.length : Int) > 1048576))), (25, .agg [AI n, LI xs]), (26, AI 1048576), (27, AI ((1048576 : Int) - xs.length)), (28, AI ((1048576 : Int) - xs.length)), (29, .bool (decide (((1048576 : Int) - xs.length) < 0))), (30, .agg [AI m, LI ys]), (31, AI ((1048576 : Int) - xs.length)), (32, AI ((((1048576 : Int) - xs.length) : Int) - ys.length)), (33, AI ((((1048576 : Int) - xs.length) : Int) - ys.length)), (34, .bool (decide (((((1048576 : Int) - xs.length) : Int) - ys.length) < 0))), (35, .tup [LI (shR n xs k ims m ys), AI (shC n xs k ims m ys)]), (36, .agg [AI n, LI xs]), (37, .agg [AI n, LI xs]), (38, AI k), (39, LI ims), (40, LI ims), (41, .agg [AI m, LI ys]), (42, .agg [AI m, LI ys]), (43, .tup [LI (shR n xs k ims m ys), AI (shC n xs k ims m ys)]), (44, LI (shR n xs k ims m ys)), (45, AI (shC n xs k ims m ys)), (46, .agg [AI n, LI xs]), (47, .agg [AI n, .ref 2]), (48, LI ims), (49, .ref 4), (50, .agg [AI m, LI ys]), (51, .agg [AI m, .ref 5]), (52, .tup [.ref 7, AI (shC n xs k ims m ys)]), (53, .agg [AI n, .ref 2]), (54, AI k), (55, .ref 4), (56, .agg [AI m, .ref 5]), (57, .tup [.ref 7, AI (shC n xs k ims m ys)]), (58, .ref 7), (59, AI (shC n xs k ims m ys)), (60, .ref 7), (61, LI (shR n xs k ims m ys)), (62, .bool (decide ((shR n xs k ims m ys) = (shR n xs k ims m ys)))), (63, .bool (!decide ((shR n xs k ims m ys) = (shR n xs k ims m ys)))), (64, .bool (!decide ((shR n xs k ims m ys) = (shR n xs k ims m ys)))), (65, AI (shC n xs k ims m ys)), (66, AI (shC n xs k ims m ys)), (67, .bool (!decide ((shC n xs k ims m ys) = (shC n xs k ims m ys)))), (68, .bool (!decide ((shC n xs k ims m ys) = (shC n xs k ims m ys)))), (69, .agg [AI n, .ref 2]), (70, .agg [AI n, LI xs]), (71, .agg [AI n, .ref 8]), (72, .bool true), (73, .bool false)]), [.box 24 [AI n, LI xs], .box 24 [AI m, LI ys], rowA eI 2 1 xs, .box 26 [AI n, .ref 2], rowA eI 2 1 ims, rowA eI 2 1 ys, .box 26 [AI m, .ref 5], rowA eI 2 1 (shR n xs k ims m ys), rowA eI 2 1 xs]⟩ : St) (by kernel_rfl) ?_ ?_)
        · refine R.any (by decide +kernel) (by kernel_rfl) ?_
          refine R.any2 0 1 (by kernel_rfl) (by kernel_rfl) ?_ ?_
          · refine R.go 2 (R.any1 1 (by kernel_rfl) (by kernel_rfl) ?_)
            refine R.go 2 (R.any1 2 (by kernel_rfl) (by kernel_rfl) ?_)
            refine R.call true (toPoset_c n xs (by first | omega | (simp <;> omega))) (by kernel_rfl) rfl (by kernel_rfl) ?_
            refine R.go 1 (R.any1 3 (by kernel_rfl) (by kernel_rfl) ?_)
            refine R.call false (eqPoset_c n xs (by first | omega | (simp <;> omega))) (by kernel_rfl) rfl (by kernel_rfl) ?_
            refine R.go 1 (R.any1 4 (by kernel_rfl) (by kernel_rfl) ?_)
            refine R.go 2 (R.any0 (by kernel_rfl) ?_)
            exact R.met (by kernel_rfl) (by kernel_rfl)
          · refine R.go 2 (R.any2 0 2 (by kernel_rfl) (by kernel_rfl) ?_ ?_)
            · refine R.go 2 (R.any1 2 (by kernel_rfl) (by kernel_rfl) ?_)
              refine R.call true (toPoset_c n xs (by first | omega | (simp <;> omega))) (by kernel_rfl) rfl (by kernel_rfl) ?_
              refine R.go 1 (R.any1 3 (by kernel_rfl) (by kernel_rfl) ?_)
              refine R.call false (eqPoset_c n xs (by first | omega | (simp <;> omega))) (by kernel_rfl) rfl (by kernel_rfl) ?_
              refine R.go 1 (R.any1 4 (by kernel_rfl) (by kernel_rfl) ?_)
              refine R.go 2 (R.any0 (by kernel_rfl) ?_)
              exact R.met (by kernel_rfl) (by kernel_rfl)
            · refine R.call true (toPoset_c n xs (by first | omega | (simp <;> omega))) (by kernel_rfl) rfl (by kernel_rfl) ?_
              refine R.go 1 (R.any1 0 (by kernel_rfl) (by kernel_rfl) ?_)
              refine R.go 2 (R.any1 3 (by kernel_rfl) (by kernel_rfl) ?_)
              refine R.call false (eqPoset_c n xs (by first | omega | (simp <;> omega))) (by kernel_rfl) rfl (by kernel_rfl) ?_
              refine R.go 1 (R.any1 4 (by kernel_rfl) (by kernel_rfl) ?_)
              refine R.go 2 (R.any0 (by kernel_rfl) ?_)
              exact R.met (by kernel_rfl) (by kernel_rfl)
        · refine R.go 7 (R.call true (toInt64S_c ims h0ims) (by kernel_rfl) rfl (by kernel_rfl) ?_)
          refine R.call false (eqInt64S_c ims ims (by first | omega | (simp <;> omega))) (by kernel_rfl) rfl (by kernel_rfl) ?_
          refine R.go 2 (R.els (!decide (ims = ims)) (by kernel_rfl) (nF rfl) ?_)
          refine R.go 3 (R.meet (⟨(frm 145 [(0, .agg [AI n, LI xs]), (1, AI k), (2, LI ims), (3, .agg [AI m, LI ys]), (4, .ptr 0 0), (7, .ptr 1 0), (8, .bool false), (9, AI ((((1048576 : Int) - xs.length) : Int) - ys.length)), (10, LI (shR n xs k ims m ys)), (11, AI (shC n xs k ims m ys)), (12, .ptr 3 0), (13, .ref 4), (14, .ptr 6 0), (15, .ref 7), (16, AI (shC n xs k ims m ys)), (22, LI ims), (23, AI ims.length), (24, .bool (decide ((ims.length : Int) > 1048576))), (25, .agg [AI n, LI xs]), (26, AI 1048576), (27, AI ((1048576 : Int) - xs.length)), (28, AI ((1048576 : Int) - xs.length)), (29, .bool (decide (((1048576 : Int) - xs.length) < 0))), (30, .agg [AI m, LI ys]), (31, AI ((1048576 : Int) - xs.length)), (32, AI ((((1048576 : Int) - xs.length) : Int) - ys.length)), (33, AI ((((1048576 : Int) - xs.length) : Int) - ys.length)), (34, .bool (decide (((((1048576 : Int) - xs.length) : Int) - ys.length) < 0))), (35, .tup [LI (shR n xs k ims m ys), AI (shC n xs k ims m ys)]), (36, .agg [AI n, LI xs]), (37, .agg [AI n, LI xs]), (38, AI k), (39, LI ims), (40, LI ims), (41, .agg [AI m, LI ys]), (42, .agg [AI m, LI ys]), (43, .tup [LI (shR n xs k ims m ys), AI (shC n xs k ims m ys)]), (44, LI (shR n xs k ims m ys)), (45, AI (shC n xs k ims m ys)), (46, .agg [AI n, LI xs]), (47, .agg [AI n, .ref 2]), (48, LI ims), (49, .ref 4), (50, .agg [AI m, LI ys]), (51, .agg [AI m, .ref 5]), (52, .tup [.ref 7, AI (shC n xs k ims m ys)]), (53, .agg [AI n, .ref 2]), (54, AI k), (55, .ref 4), (56, .agg [AI m, .ref 5]), (57, .tup [.ref 7, AI (shC n xs k ims m ys)]), (58, .ref 7), (59, AI (shC n xs k ims m ys)), (60, .ref 7), (61, LI (shR n xs k ims m ys)), (62, .bool (decide ((shR n xs k ims m ys) = (shR n xs k ims m ys)))), (63, .bool (!decide ((shR n xs k ims m ys) = (shR n xs k ims m ys)))), (64, .bool (!decide ((shR n xs k ims m ys) = (shR n xs k ims m ys)))), (65, AI (shC n xs k ims m ys)), (66, AI (shC n xs k ims m ys)), (67, .bool (!decide ((shC n xs k ims m ys) = (shC n xs k ims m ys)))), (68, .bool (!decide ((shC n xs k ims m ys) = (shC n xs k ims m ys)))), (69, .agg [AI n, .ref 2]), (70, .agg [AI n, LI xs]), (71, .agg [AI n, .ref 8]), (72, .bool true), (73, .bool false), (74, .ref 4), (75, LI ims), (76, .ref 9), (77, .bool (decide (ims = ims))), (78, .bool (!decide (ims = ims))), (79, .agg [AI m, .ref 5]), (80, .agg [AI m, LI ys]), (81, .agg [AI m, .ref 10]), (82, .bool true), (83, .bool false)]), [.box 24 [AI n, LI xs], .box 24 [AI m, LI ys], rowA eI 2 1 xs, .box 26 [AI n, .ref 2], rowA eI 2 1 ims, rowA eI 2 1 ys, .box 26 [AI m, .ref 5], rowA eI 2 1 (shR n xs k ims m ys), rowA eI 2 1 xs, rowA eI 2 1 ims, rowA eI 2 1 ys]⟩ : St) (by kernel_rfl) ?_ ?_)
          · refine R.any (by decide +kernel) (by kernel_rfl) ?_
            refine R.any2 0 1 (by kernel_rfl) (by kernel_rfl) ?_ ?_
            · refine R.go 2 (R.any1 1 (by kernel_rfl) (by kernel_rfl) ?_)
              refine R.go 2 (R.any1 2 (by kernel_rfl) (by kernel_rfl) ?_)
              refine R.call true (toPoset_c m ys (by first | omega | (simp <;> omega))) (by kernel_rfl) rfl (by kernel_rfl) ?_
              refine R.go 1 (R.any1 3 (by kernel_rfl) (by kernel_rfl) ?_)
              refine R.call false (eqPoset_c m ys (by first | omega | (simp <;> omega))) (by kernel_rfl) rfl (by kernel_rfl) ?_
              refine R.go 1 (R.any1 4 (by kernel_rfl) (by kernel_rfl) ?_)
              refine R.go 2 (R.any0 (by kernel_rfl) ?_)
              exact R.met (by kernel_rfl) (by kernel_rfl)
            · refine R.go 2 (R.any2 0 2 (by kernel_rfl) (by kernel_rfl) ?_ ?_)
              · refine R.go 2 (R.any1 2 (by kernel_rfl) (by kernel_rfl) ?_)
                refine R.call true (toPoset_c m ys (by first | omega | (simp <;> omega))) (by kernel_rfl) rfl (by kernel_rfl) ?_
                refine R.go 1 (R.any1 3 (by kernel_rfl) (by kernel_rfl) ?_)
                refine R.call false (eqPoset_c m ys (by first | omega | (simp <;> omega))) (by kernel_rfl) rfl (by kernel_rfl) ?_
                refine R.go 1 (R.any1 4 (by kernel_rfl) (by kernel_rfl) ?_)
                refine R.go 2 (R.any0 (by kernel_rfl) ?_)
                exact R.met (by kernel_rfl) (by kernel_rfl)
              · refine R.call true (toPoset_c m ys (by first | omega | (simp <;> omega))) (by kernel_rfl) rfl (by kernel_rfl) ?_
                refine R.go 1 (R.any1 0 (by kernel_rfl) (by kernel_rfl) ?_)
                refine R.go 2 (R.any1 3 (by kernel_rfl) (by kernel_rfl) ?_)
                refine R.call false (eqPoset_c m ys (by first | omega | (simp <;> omega))) (by kernel_rfl) rfl (by kernel_rfl) ?_
                refine R.go 1 (R.any1 4 (by kernel_rfl) (by kernel_rfl) ?_)
                refine R.go 2 (R.any0 (by kernel_rfl) ?_)
                exact R.met (by kernel_rfl) (by kernel_rfl)
          · refine R.go 10 (R.enter (avs := [.agg [AI n, .ref 2], AI 1]) Try.func15 rfl (by kernel_rfl) (by kernel_rfl) (by kernel_rfl) ?_)
            intro us4
            refine R.go 10 (R.enter (avs := [.ref 2, AI 1]) Try.func20 rfl (by kernel_rfl) (by kernel_rfl) (by kernel_rfl) ?_)
            intro us5
            refine R.go 10 (R.loop ((fun | (i1, ys1, q1) => (⟨(frm 19 [(0, .ref 2), (1, AI q1), (5, AI (i1 : Int))]), [.box 24 [AI n, LI xs], .box 24 [AI m, LI ys], rowA eI 2 1 ys1, .box 26 [AI n, .ref 2], rowA eI 2 1 ims, rowA eI 2 1 ys, .box 26 [AI m, .ref 5], rowA eI 2 1 (shR n xs k ims m ys), rowA eI 2 1 xs, rowA eI 2 1 ims, rowA eI 2 1 ys, .frame us4 (frm 145 [(0, .agg [AI n, LI xs]), (1, AI k), (2, LI ims), (3, .agg [AI m, LI ys]), (4, .ptr 0 0), (7, .ptr 1 0), (8, .bool false), (9, AI ((((1048576 : Int) - xs.length) : Int) - ys.length)), (10, LI (shR n xs k ims m ys)), (11, AI (shC n xs k ims m ys)), (12, .ptr 3 0), (13, .ref 4), (14, .ptr 6 0), (15, .ref 7), (16, AI (shC n xs k ims m ys)), (17, AI 1), (22, LI ims), (23, AI ims.length), (24, .bool (decide ((ims.length : Int) > 1048576))), (25, .agg [AI n, LI xs]), (26, AI 1048576), (27, AI ((1048576 : Int) - xs.length)), (28, AI ((1048576 : Int) - xs.length)), (29, .bool (decide (((1048576 : Int) - xs.length) < 0))), (30, .agg [AI m, LI ys]), (31, AI ((1048576 : Int) - xs.length)), (32, AI ((((1048576 : Int) - xs.length) : Int) - ys.length)), (33, AI ((((1048576 : Int) - xs.length) : Int) - ys.length)), (34, .bool (decide (((((1048576 : Int) - xs.length) : Int) - ys.length) < 0))), (35, .tup [LI (shR n xs k ims m ys), AI (shC n xs k ims m ys)]), (36, .agg [AI n, LI xs]), (37, .agg [AI n, LI xs]), (38, AI k), (39, LI ims), (40, LI ims), (41, .agg [AI m, LI ys]), (42, .agg [AI m, LI ys]), (43, .tup [LI (shR n xs k ims m ys), AI (shC n xs k ims m ys)]), (44, LI (shR n xs k ims m ys)), (45, AI (shC n xs k ims m ys)), (46, .agg [AI n, LI xs]), (47, .agg [AI n, .ref 2]), (48, LI ims), (49, .ref 4), (50, .agg [AI m, LI ys]), (51, .agg [AI m, .ref 5]), (52, .tup [.ref 7, AI (shC n xs k ims m ys)]), (53, .agg [AI n, .ref 2]), (54, AI k), (55, .ref 4), (56, .agg [AI m, .ref 5]), (57, .tup [.ref 7, AI (shC n xs k ims m ys)]), (58, .ref 7), (59, AI (shC n xs k ims m ys)), (60, .ref 7), (61, LI (shR n xs k ims m ys)), (62, .bool (decide ((shR n xs k ims m ys) = (shR n xs k ims m ys)))), (63, .bool (!decide ((shR n xs k ims m ys) = (shR n xs k ims m ys)))), (64, .bool (!decide ((shR n xs k ims m ys) = (shR n xs k ims m ys)))), (65, AI (shC n xs k ims m ys)), (66, AI (shC n xs k ims m ys)), (67, .bool (!decide ((shC n xs k ims m ys) = (shC n xs k ims m ys)))), (68, .bool (!decide ((shC n xs k ims m ys) = (shC n xs k ims m ys)))), (69, .agg [AI n, .ref 2]), (70, .agg [AI n, LI xs]), (71, .agg [AI n, .ref 8]), (72, .bool true), (73, .bool false), (74, .ref 4), (75, LI ims), (76, .ref 9), (77, .bool (decide (ims = ims))), (78, .bool (!decide (ims = ims))), (79, .agg [AI m, .ref 5]), (80, .agg [AI m, LI ys]), (81, .agg [AI m, .ref 10]), (82, .bool true), (83, .bool false), (84, .agg [AI n, .ref 2]), (85, AI 1)]), .box 26 [AI n, .ref 2], .frame us5 (frm 10 [(0, .agg [AI n, .ref 2]), (1, AI 1), (2, .ptr 12 0), (4, AI 0), (5, .ptr 12 1), (6, .ref 2), (7, AI 1)])]⟩ : St) : Nat × (List Int) × Int → St)) (fun | (i1, ys1, q1) => (i1 ≤ xs.length) ∧ (ys1 = markI xs 1 i1) ∧ (q1 = 1 + (i1 : Int))) (fun | (i1, ys1, q1) => xs.length - i1) (0, xs, 1) [0, 1, 5] none (by kernel_rfl) (by kernel_rfl) (by kernel_rfl) ⟨(by omega), (by exact markI_zero _ _), (by simp)⟩ ?_)
            rintro ⟨i1, ys1, q1⟩ ⟨h9_1, rfl, rfl⟩ R6 N7
            have hl1 : (markI xs 1 i1).length = xs.length := markI_length _ _ _ (by assumption)
            refine R.go 8 (R.cond ((i1 : Int) < ((markI xs 1 i1).length : Int)) (by kernel_rfl) (fun c10 => ?_) (fun c10 => ?_))
            · refine R.go 8 (R.idxO 2 1 (markI xs 1 i1).length i1 (i1 : Int) (by kernel_rfl) rfl (by omega) (by kernel_rfl) ?_)
              refine R.stI 2 2 (markI xs 1 i1) i1 (1 + (i1 : Int)) (by kernel_rfl) (by omega) (by kernel_rfl) ?_
              refine R.go 3 (R.ar ((1 + (i1 : Int)) + 1) (by kernel_rfl) (by omega) (by omega) (by kernel_rfl) ?_)
              refine R.go 5 (R.ar ((i1 : Int) + 1) (by kernel_rfl) (by omega) (by omega) (by kernel_rfl) ?_)
              exact R.go 2 (R.stop R6 (by kernel_rfl) (N7 (i1 + 1, (markI xs 1 i1).set i1 (1 + (i1 : Int)), (1 + (i1 : Int)) + 1) [0, 1, 5] none _ (by kernel_rfl) (by kernel_rfl) ⟨(by omega), (by exact markI_set _ _ _ (by omega) _ (by omega)), (by omega)⟩ (by show (xs.length - (i1 + 1)) < (xs.length - i1); omega)))
            · refine R.go 6 (R.back (AI (1 + (i1 : Int))) (frm 10 [(0, .agg [AI n, .ref 2]), (1, AI 1), (2, .ptr 12 0), (4, AI 0), (5, .ptr 12 1), (6, .ref 2), (7, AI 1)]) (by kernel_rfl) (by kernel_rfl) (by kernel_rfl) ?_)
              refine R.go 7 (R.back (AI (1 + (i1 : Int))) (frm 145 [(0, .agg [AI n, LI xs]), (1, AI k), (2, LI ims), (3, .agg [AI m, LI ys]), (4, .ptr 0 0), (7, .ptr 1 0), (8, .bool false), (9, AI ((((1048576 : Int) - xs.length) : Int) - ys.length)), (10, LI (shR n xs k ims m ys)), (11, AI (shC n xs k ims m ys)), (12, .ptr 3 0), (13, .ref 4), (14, .ptr 6 0), (15, .ref 7), (16, AI (shC n xs k ims m ys)), (17, AI 1), (22, LI ims), (23, AI ims.length), (24, .bool (decide ((ims.length : Int) > 1048576))), (25, .agg [AI n, LI xs]), (26, AI 1048576), (27, AI ((1048576 : Int) - xs.length)), (28, AI ((1048576 : Int) - xs.length)), (29, .bool (decide (((1048576 : Int) - xs.length) < 0))), (30, .agg [AI m, LI ys]), (31, AI ((1048576 : Int) - xs.length)), (32, AI ((((1048576 : Int) - xs.length) : Int) - ys.length)), (33, AI ((((1048576 : Int) - xs.length) : Int) - ys.length)), (34, .bool (decide (((((1048576 : Int) - xs.length) : Int) - ys.length) < 0))), (35, .tup [LI (shR n xs k ims m ys), AI (shC n xs k ims m ys)]), (36, .agg [AI n, LI xs]), (37, .agg [AI n, LI xs]), (38, AI k), (39, LI ims), (40, LI ims), (41, .agg [AI m, LI ys]), (42, .agg [AI m, LI ys]), (43, .tup [LI (shR n xs k ims m ys), AI (shC n xs k ims m ys)]), (44, LI (shR n xs k ims m ys)), (45, AI (shC n xs k ims m ys)), (46, .agg [AI n, LI xs]), (47, .agg [AI n, .ref 2]), (48, LI ims), (49, .ref 4), (50, .agg [AI m, LI ys]), (51, .agg [AI m, .ref 5]), (52, .tup [.ref 7, AI (shC n xs k ims m ys)]), (53, .agg [AI n, .ref 2]), (54, AI k), (55, .ref 4), (56, .agg [AI m, .ref 5]), (57, .tup [.ref 7, AI (shC n xs k ims m ys)]), (58, .ref 7), (59, AI (shC n xs k ims m ys)), (60, .ref 7), (61, LI (shR n xs k ims m ys)), (62, .bool (decide ((shR n xs k ims m ys) = (shR n xs k ims m ys)))), (63, .bool (!decide ((shR n xs k ims m ys) = (shR n xs k ims m ys)))), (64, .bool (!decide ((shR n xs k ims m ys) = (shR n xs k ims m ys)))), (65, AI (shC n xs k ims m ys)), (66, AI (shC n xs k ims m ys)), (67, .bool (!decide ((shC n xs k ims m ys) = (shC n xs k ims m ys)))), (68, .bool (!decide ((shC n xs k ims m ys) = (shC n xs k ims m ys)))), (69, .agg [AI n, .ref 2]), (70, .agg [AI n, LI xs]), (71, .agg [AI n, .ref 8]), (72, .bool true), (73, .bool false), (74, .ref 4), (75, LI ims), (76, .ref 9), (77, .bool (decide (ims = ims))), (78, .bool (!decide (ims = ims))), (79, .agg [AI m, .ref 5]), (80, .agg [AI m, LI ys]), (81, .agg [AI m, .ref 10]), (82, .bool true), (83, .bool false), (84, .agg [AI n, .ref 2]), (85, AI 1)]) (by kernel_rfl) (by kernel_rfl) (by kernel_rfl) ?_)
              refine R.go 6 (R.enter (avs := [.ref 4, AI (1 + (i1 : Int))]) Try.func20 rfl (by kernel_rfl) (by kernel_rfl) (by kernel_rfl) ?_)
              intro us11
              refine R.go 10 (R.loop ((fun | (i2, ys2, q2) => (⟨(frm 19 [(0, .ref 4), (1, AI q2), (5, AI (i2 : Int))]), [.box 24 [AI n, LI xs], .box 24 [AI m, LI ys], rowA eI 2 1 (markI xs 1 i1), .box 26 [AI n, .ref 2], rowA eI 2 1 ys2, rowA eI 2 1 ys, .box 26 [AI m, .ref 5], rowA eI 2 1 (shR n xs k ims m ys), rowA eI 2 1 xs, rowA eI 2 1 ims, rowA eI 2 1 ys, .dead, .box 26 [AI n, .ref 2], .dead, .frame us11 (frm 145 [(0, .agg [AI n, LI xs]), (1, AI k), (2, LI ims), (3, .agg [AI m, LI ys]), (4, .ptr 0 0), (7, .ptr 1 0), (8, .bool false), (9, AI ((((1048576 : Int) - xs.length) : Int) - ys.length)), (10, LI (shR n xs k ims m ys)), (11, AI (shC n xs k ims m ys)), (12, .ptr 3 0), (13, .ref 4), (14, .ptr 6 0), (15, .ref 7), (16, AI (shC n xs k ims m ys)), (17, AI (1 + (i1 : Int))), (22, LI ims), (23, AI ims.length), (24, .bool (decide ((ims.length : Int) > 1048576))), (25, .agg [AI n, LI xs]), (26, AI 1048576), (27, AI ((1048576 : Int) - xs.length)), (28, AI ((1048576 : Int) - xs.length)), (29, .bool (decide (((1048576 : Int) - xs.length) < 0))), (30, .agg [AI m, LI ys]), (31, AI ((1048576 : Int) - xs.length)), (32, AI ((((1048576 : Int) - xs.length) : Int) - ys.length)), (33, AI ((((1048576 : Int) - xs.length) : Int) - ys.length)), (34, .bool (decide (((((1048576 : Int) - xs.length) : Int) - ys.length) < 0))), (35, .tup [LI (shR n xs k ims m ys), AI (shC n xs k ims m ys)]), (36, .agg [AI n, LI xs]), (37, .agg [AI n, LI xs]), (38, AI k), (39, LI ims), (40, LI ims), (41, .agg [AI m, LI ys]), (42, .agg [AI m, LI ys]), (43, .tup [LI (shR n xs k ims m ys), AI (shC n xs k ims m ys)]), (44, LI (shR n xs k ims m ys)), (45, AI (shC n xs k ims m ys)), (46, .agg [AI n, LI xs]), (47, .agg [AI n, .ref 2]), (48, LI ims), (49, .ref 4), (50, .agg [AI m, LI ys]), (51, .agg [AI m, .ref 5]), (52, .tup [.ref 7, AI (shC n xs k ims m ys)]), (53, .agg [AI n, .ref 2]), (54, AI k), (55, .ref 4), (56, .agg [AI m, .ref 5]), (57, .tup [.ref 7, AI (shC n xs k ims m ys)]), (58, .ref 7), (59, AI (shC n xs k ims m ys)), (60, .ref 7), (61, LI (shR n xs k ims m ys)), (62, .bool (decide ((shR n xs k ims m ys) = (shR n xs k ims m ys)))), (63, .bool (!decide ((shR n xs k ims m ys) = (shR n xs k ims m ys)))), (64, .bool (!decide ((shR n xs k ims m ys) = (shR n xs k ims m ys)))), (65, AI (shC n xs k ims m ys)), (66, AI (shC n xs k ims m ys)), (67, .bool (!decide ((shC n xs k ims m ys) = (shC n xs k ims m ys)))), (68, .bool (!decide ((shC n xs k ims m ys) = (shC n xs k ims m ys)))), (69, .agg [AI n, .ref 2]), (70, .agg [AI n, LI xs]), (71, .agg [AI n, .ref 8]), (72, .bool true), (73, .bool false), (74, .ref 4), (75, LI ims), (76, .ref 9), (77, .bool (decide (ims = ims))), (78, .bool (!decide (ims = ims))), (79, .agg [AI m, .ref 5]), (80, .agg [AI m, LI ys]), (81, .agg [AI m, .ref 10]), (82, .bool true), (83, .bool false), (84, .agg [AI n, .ref 2]), (85, AI 1), (86, AI (1 + (i1 : Int))), (87, .ref 4), (88, AI (1 + (i1 : Int)))])]⟩ : St) : Nat × (List Int) × Int → St)) (fun | (i2, ys2, q2) => (i2 ≤ ims.length) ∧ (ys2 = markI ims (1 + (i1 : Int)) i2) ∧ (q2 = 1 + (i1 : Int) + (i2 : Int))) (fun | (i2, ys2, q2) => ims.length - i2) (0, ims, (1 + (i1 : Int))) [0, 1, 5] none (by kernel_rfl) (by kernel_rfl) (by kernel_rfl) ⟨(by omega), (by exact markI_zero _ _), (by simp)⟩ ?_)
              rintro ⟨i2, ys2, q2⟩ ⟨h15_1, rfl, rfl⟩ R12 N13
              have hl2 : (markI ims (1 + (i1 : Int)) i2).length = ims.length := markI_length _ _ _ (by assumption)
              refine R.go 8 (R.cond ((i2 : Int) < ((markI ims (1 + (i1 : Int)) i2).length : Int)) (by kernel_rfl) (fun c16 => ?_) (fun c16 => ?_))
              · refine R.go 8 (R.idxO 4 1 (markI ims (1 + (i1 : Int)) i2).length i2 (i2 : Int) (by kernel_rfl) rfl (by omega) (by kernel_rfl) ?_)
                refine R.stI 4 2 (markI ims (1 + (i1 : Int)) i2) i2 (1 + (i1 : Int) + (i2 : Int)) (by kernel_rfl) (by omega) (by kernel_rfl) ?_
                refine R.go 3 (R.ar ((1 + (i1 : Int) + (i2 : Int)) + 1) (by kernel_rfl) (by omega) (by omega) (by kernel_rfl) ?_)
                refine R.go 5 (R.ar ((i2 : Int) + 1) (by kernel_rfl) (by omega) (by omega) (by kernel_rfl) ?_)
                exact R.go 2 (R.stop R12 (by kernel_rfl) (N13 (i2 + 1, (markI ims (1 + (i1 : Int)) i2).set i2 (1 + (i1 : Int) + (i2 : Int)), (1 + (i1 : Int) + (i2 : Int)) + 1) [0, 1, 5] none _ (by kernel_rfl) (by kernel_rfl) ⟨(by omega), (by exact markI_set _ _ _ (by omega) _ (by omega)), (by omega)⟩ (by show (ims.length - (i2 + 1)) < (ims.length - i2); omega)))
              · refine R.go 6 (R.back (AI (1 + (i1 : Int) + (i2 : Int))) (frm 145 [(0, .agg [AI n, LI xs]), (1, AI k), (2, LI ims), (3, .agg [AI m, LI ys]), (4, .ptr 0 0), (7, .ptr 1 0), (8, .bool false), (9, AI ((((1048576 : Int) - xs.length) : Int) - ys.length)), (10, LI (shR n xs k ims m ys)), (11, AI (shC n xs k ims m ys)), (12, .ptr 3 0), (13, .ref 4), (14, .ptr 6 0), (15, .ref 7), (16, AI (shC n xs k ims m ys)), (17, AI (1 + (i1 : Int))), (22, LI ims), (23, AI ims.length), (24, .bool (decide ((ims.length : Int) > 1048576))), (25, .agg [AI n, LI xs]), (26, AI 1048576), (27, AI ((1048576 : Int) - xs.length)), (28, AI ((1048576 : Int) - xs.length)), (29, .bool (decide (((1048576 : Int) - xs.length) < 0))), (30, .agg [AI m, LI ys]), (31, AI ((1048576 : Int) - xs.length)), (32, AI ((((1048576 : Int) - xs.length) : Int) - ys.length)), (33, AI ((((1048576 : Int) - xs.length) : Int) - ys.length)), (34, .bool (decide (((((1048576 : Int) - xs.length) : Int) - ys.length) < 0))), (35, .tup [LI (shR n xs k ims m ys), AI (shC n xs k ims m ys)]), (36, .agg [AI n, LI xs]), (37, .agg [AI n, LI xs]), (38, AI k), (39, LI ims), (40, LI ims), (41, .agg [AI m, LI ys]), (42, .agg [AI m, LI ys]), (43, .tup [LI (shR n xs k ims m ys), AI (shC n xs k ims m ys)]), (44, LI (shR n xs k ims m ys)), (45, AI (shC n xs k ims m ys)), (46, .agg [AI n, LI xs]), (47, .agg [AI n, .ref 2]), (48, LI ims), (49, .ref 4), (50, .agg [AI m, LI ys]), (51, .agg [AI m, .ref 5]), (52, .tup [.ref 7, AI (shC n xs k ims m ys)]), (53, .agg [AI n, .ref 2]), (54, AI k), (55, .ref 4), (56, .agg [AI m, .ref 5]), (57, .tup [.ref 7, AI (shC n xs k ims m ys)]), (58, .ref 7), (59, AI (shC n xs k ims m ys)), (60, .ref 7), (61, LI (shR n xs k ims m ys)), (62, .bool (decide ((shR n xs k ims m ys) = (shR n xs k ims m ys)))), (63, .bool (!decide ((shR n xs k ims m ys) = (shR n xs k ims m ys)))), (64, .bool (!decide ((shR n xs k ims m ys) = (shR n xs k ims m ys)))), (65, AI (shC n xs k ims m ys)), (66, AI (shC n xs k ims m ys)), (67, .bool (!decide ((shC n xs k ims m ys) = (shC n xs k ims m ys)))), (68, .bool (!decide ((shC n xs k ims m ys) = (shC n xs k ims m ys)))), (69, .agg [AI n, .ref 2]), (70, .agg [AI n, LI xs]), (71, .agg [AI n, .ref 8]), (72, .bool true), (73, .bool false), (74, .ref 4), (75, LI ims), (76, .ref 9), (77, .bool (decide (ims = ims))), (78, .bool (!decide (ims = ims))), (79, .agg [AI m, .ref 5]), (80, .agg [AI m, LI ys]), (81, .agg [AI m, .ref 10]), (82, .bool true), (83, .bool false), (84, .agg [AI n, .ref 2]), (85, AI 1), (86, AI (1 + (i1 : Int))), (87, .ref 4), (88, AI (1 + (i1 : Int)))]) (by kernel_rfl) (by kernel_rfl) (by kernel_rfl) ?_)
                refine R.go 6 (R.enter (avs := [.agg [AI m, .ref 5], AI (1 + (i1 : Int) + (i2 : Int))]) Try.func15 rfl (by kernel_rfl) (by kernel_rfl) (by kernel_rfl) ?_)
                intro us17
                refine R.go 10 (R.enter (avs := [.ref 5, AI (1 + (i1 : Int) + (i2 : Int))]) Try.func20 rfl (by kernel_rfl) (by kernel_rfl) (by kernel_rfl) ?_)
                intro us18
                refine R.go 10 (R.loop ((fun | (i3, ys3, q3) => (⟨(frm 19 [(0, .ref 5), (1, AI q3), (5, AI (i3 : Int))]), [.box 24 [AI n, LI xs], .box 24 [AI m, LI ys], rowA eI 2 1 (markI xs 1 i1), .box 26 [AI n, .ref 2], rowA eI 2 1 (markI ims (1 + (i1 : Int)) i2), rowA eI 2 1 ys3, .box 26 [AI m, .ref 5], rowA eI 2 1 (shR n xs k ims m ys), rowA eI 2 1 xs, rowA eI 2 1 ims, rowA eI 2 1 ys, .dead, .box 26 [AI n, .ref 2], .dead, .dead, .frame us17 (frm 145 [(0, .agg [AI n, LI xs]), (1, AI k), (2, LI ims), (3, .agg [AI m, LI ys]), (4, .ptr 0 0), (7, .ptr 1 0), (8, .bool false), (9, AI ((((1048576 : Int) - xs.length) : Int) - ys.length)), (10, LI (shR n xs k ims m ys)), (11, AI (shC n xs k ims m ys)), (12, .ptr 3 0), (13, .ref 4), (14, .ptr 6 0), (15, .ref 7), (16, AI (shC n xs k ims m ys)), (17, AI (1 + (i1 : Int) + (i2 : Int))), (22, LI ims), (23, AI ims.length), (24, .bool (decide ((ims.length : Int) > 1048576))), (25, .agg [AI n, LI xs]), (26, AI 1048576), (27, AI ((1048576 : Int) - xs.length)), (28, AI ((1048576 : Int) - xs.length)), (29, .bool (decide (((1048576 : Int) - xs.length) < 0))), (30, .agg [AI m, LI ys]), (31, AI ((1048576 : Int) - xs.length)), (32, AI ((((1048576 : Int) - xs.length) : Int) - ys.length)), (33, AI ((((1048576 : Int) - xs.length) : Int) - ys.length)), (34, .bool (decide (((((1048576 : Int) - xs.length) : Int) - ys.length) < 0))), (35, .tup [LI (shR n xs k ims m ys), AI (shC n xs k ims m ys)]), (36, .agg [AI n, LI xs]), (37, .agg [AI n, LI xs]), (38, AI k), (39, LI ims), (40, LI ims), (41, .agg [AI m, LI ys]), (42, .agg [AI m, LI ys]), (43, .tup [LI (shR n xs k ims m ys), AI (shC n xs k ims m ys)]), (44, LI (shR n xs k ims m ys)), (45, AI (shC n xs k ims m ys)), (46, .agg [AI n, LI xs]), (47, .agg [AI n, .ref 2]), (48, LI ims), (49, .ref 4), (50, .agg [AI m, LI ys]), (51, .agg [AI m, .ref 5]), (52, .tup [.ref 7, AI (shC n xs k ims m ys)]), (53, .agg [AI n, .ref 2]), (54, AI k), (55, .ref 4), (56, .agg [AI m, .ref 5]), (57, .tup [.ref 7, AI (shC n xs k ims m ys)]), (58, .ref 7), (59, AI (shC n xs k ims m ys)), (60, .ref 7), (61, LI (shR n xs k ims m ys)), (62, .bool (decide ((shR n xs k ims m ys) = (shR n xs k ims m ys)))), (63, .bool (!decide ((shR n xs k ims m ys) = (shR n xs k ims m ys)))), (64, .bool (!decide ((shR n xs k ims m ys) = (shR n xs k ims m ys)))), (65, AI (shC n xs k ims m ys)), (66, AI (shC n xs k ims m ys)), (67, .bool (!decide ((shC n xs k ims m ys) = (shC n xs k ims m ys)))), (68, .bool (!decide ((shC n xs k ims m ys) = (shC n xs k ims m ys)))), (69, .agg [AI n, .ref 2]), (70, .agg [AI n, LI xs]), (71, .agg [AI n, .ref 8]), (72, .bool true), (73, .bool false), (74, .ref 4), (75, LI ims), (76, .ref 9), (77, .bool (decide (ims = ims))), (78, .bool (!decide (ims = ims))), (79, .agg [AI m, .ref 5]), (80, .agg [AI m, LI ys]), (81, .agg [AI m, .ref 10]), (82, .bool true), (83, .bool false), (84, .agg [AI n, .ref 2]), (85, AI 1), (86, AI (1 + (i1 : Int))), (87, .ref 4), (88, AI (1 + (i1 : Int))), (89, AI (1 + (i1 : Int) + (i2 : Int))), (90, .agg [AI m, .ref 5]), (91, AI (1 + (i1 : Int) + (i2 : Int)))]), .box 26 [AI m, .ref 5], .frame us18 (frm 10 [(0, .agg [AI m, .ref 5]), (1, AI (1 + (i1 : Int) + (i2 : Int))), (2, .ptr 16 0), (4, AI 0), (5, .ptr 16 1), (6, .ref 5), (7, AI (1 + (i1 : Int) + (i2 : Int)))])]⟩ : St) : Nat × (List Int) × Int → St)) (fun | (i3, ys3, q3) => (i3 ≤ ys.length) ∧ (ys3 = markI ys (1 + (i1 : Int) + (i2 : Int)) i3) ∧ (q3 = 1 + (i1 : Int) + (i2 : Int) + (i3 : Int))) (fun | (i3, ys3, q3) => ys.length - i3) (0, ys, (1 + (i1 : Int) + (i2 : Int))) [0, 1, 5] none (by kernel_rfl) (by kernel_rfl) (by kernel_rfl) ⟨(by omega), (by exact markI_zero _ _), (by simp)⟩ ?_)
                rintro ⟨i3, ys3, q3⟩ ⟨h22_1, rfl, rfl⟩ R19 N20
                have hl3 : (markI ys (1 + (i1 : Int) + (i2 : Int)) i3).length = ys.length := markI_length _ _ _ (by assumption)
                refine R.go 8 (R.cond ((i3 : Int) < ((markI ys (1 + (i1 : Int) + (i2 : Int)) i3).length : Int)) (by kernel_rfl) (fun c23 => ?_) (fun c23 => ?_))
                · refine R.go 8 (R.idxO 5 1 (markI ys (1 + (i1 : Int) + (i2 : Int)) i3).length i3 (i3 : Int) (by kernel_rfl) rfl (by omega) (by kernel_rfl) ?_)
                  refine R.stI 5 2 (markI ys (1 + (i1 : Int) + (i2 : Int)) i3) i3 (1 + (i1 : Int) + (i2 : Int) + (i3 : Int)) (by kernel_rfl) (by omega) (by kernel_rfl) ?_
                  refine R.go 3 (R.ar ((1 + (i1 : Int) + (i2 : Int) + (i3 : Int)) + 1) (by kernel_rfl) (by omega) (by omega) (by kernel_rfl) ?_)
                  refine R.go 5 (R.ar ((i3 : Int) + 1) (by kernel_rfl) (by omega) (by omega) (by kernel_rfl) ?_)
                  exact R.go 2 (R.stop R19 (by kernel_rfl) (N20 (i3 + 1, (markI ys (1 + (i1 : Int) + (i2 : Int)) i3).set i3 (1 + (i1 : Int) + (i2 : Int) + (i3 : Int)), (1 + (i1 : Int) + (i2 : Int) + (i3 : Int)) + 1) [0, 1, 5] none _ (by kernel_rfl) (by kernel_rfl) ⟨(by omega), (by exact markI_set _ _ _ (by omega) _ (by omega)), (by omega)⟩ (by show (ys.length - (i3 + 1)) < (ys.length - i3); omega)))
                · refine R.go 6 (R.back (AI (1 + (i1 : Int) + (i2 : Int) + (i3 : Int))) (frm 10 [(0, .agg [AI m, .ref 5]), (1, AI (1 + (i1 : Int) + (i2 : Int))), (2, .ptr 16 0), (4, AI 0), (5, .ptr 16 1), (6, .ref 5), (7, AI (1 + (i1 : Int) + (i2 : Int)))]) (by kernel_rfl) (by kernel_rfl) (by kernel_rfl) ?_)
                  refine R.go 7 (R.back (AI (1 + (i1 : Int) + (i2 : Int) + (i3 : Int))) (frm 145 [(0, .agg [AI n, LI xs]), (1, AI k), (2, LI ims), (3, .agg [AI m, LI ys]), (4, .ptr 0 0), (7, .ptr 1 0), (8, .bool false), (9, AI ((((1048576 : Int) - xs.length) : Int) - ys.length)), (10, LI (shR n xs k ims m ys)), (11, AI (shC n xs k ims m ys)), (12, .ptr 3 0), (13, .ref 4), (14, .ptr 6 0), (15, .ref 7), (16, AI (shC n xs k ims m ys)), (17, AI (1 + (i1 : Int) + (i2 : Int))), (22, LI ims), (23, AI ims.length), (24, .bool (decide ((ims.length : Int) > 1048576))), (25, .agg [AI n, LI xs]), (26, AI 1048576), (27, AI ((1048576 : Int) - xs.length)), (28, AI ((1048576 : Int) - xs.length)), (29, .bool (decide (((1048576 : Int) - xs.length) < 0))), (30, .agg [AI m, LI ys]), (31, AI ((1048576 : Int) - xs.length)), (32, AI ((((1048576 : Int) - xs.length) : Int) - ys.length)), (33, AI ((((1048576 : Int) - xs.length) : Int) - ys.length)), (34, .bool (decide (((((1048576 : Int) - xs.length) : Int) - ys.length) < 0))), (35, .tup [LI (shR n xs k ims m ys), AI (shC n xs k ims m ys)]), (36, .agg [AI n, LI xs]), (37, .agg [AI n, LI xs]), (38, AI k), (39, LI ims), (40, LI ims), (41, .agg [AI m, LI ys]), (42, .agg [AI m, LI ys]), (43, .tup [LI (shR n xs k ims m ys), AI (shC n xs k ims m ys)]), (44, LI (shR n xs k ims m ys)), (45, AI (shC n xs k ims m ys)), (46, .agg [AI n, LI xs]), (47, .agg [AI n, .ref 2]), (48, LI ims), (49, .ref 4), (50, .agg [AI m, LI ys]), (51, .agg [AI m, .ref 5]), (52, .tup [.ref 7, AI (shC n xs k ims m ys)]), (53, .agg [AI n, .ref 2]), (54, AI k), (55, .ref 4), (56, .agg [AI m, .ref 5]), (57, .tup [.ref 7, AI (shC n xs k ims m ys)]), (58, .ref 7), (59, AI (shC n xs k ims m ys)), (60, .ref 7), (61, LI (shR n xs k ims m ys)), (62, .bool (decide ((shR n xs k ims m ys) = (shR n xs k ims m ys)))), (63, .bool (!decide ((shR n xs k ims m ys) = (shR n xs k ims m ys)))), (64, .bool (!decide ((shR n xs k ims m ys) = (shR n xs k ims m ys)))), (65, AI (shC n xs k ims m ys)), (66, AI (shC n xs k ims m ys)), (67, .bool (!decide ((shC n xs k ims m ys) = (shC n xs k ims m ys)))), (68, .bool (!decide ((shC n xs k ims m ys) = (shC n xs k ims m ys)))), (69, .agg [AI n, .ref 2]), (70, .agg [AI n, LI xs]), (71, .agg [AI n, .ref 8]), (72, .bool true), (73, .bool false), (74, .ref 4), (75, LI ims), (76, .ref 9), (77, .bool (decide (ims = ims))), (78, .bool (!decide (ims = ims))), (79, .agg [AI m, .ref 5]), (80, .agg [AI m, LI ys]), (81, .agg [AI m, .ref 10]), (82, .bool true), (83, .bool false), (84, .agg [AI n, .ref 2]), (85, AI 1), (86, AI (1 + (i1 : Int))), (87, .ref 4), (88, AI (1 + (i1 : Int))), (89, AI (1 + (i1 : Int) + (i2 : Int))), (90, .agg [AI m, .ref 5]), (91, AI (1 + (i1 : Int) + (i2 : Int)))]) (by kernel_rfl) (by kernel_rfl) (by kernel_rfl) ?_)
                  refine R.go 8 ?_
                  by_cases c24 : (1 + (i1 : Int) + (i2 : Int) + (i3 : Int)) < 0
                  · refine R.skp (decide ((1 + (i1 : Int) + (i2 : Int) + (i3 : Int)) < 0)) false (by kernel_rfl) (dT c24) (by kernel_rfl) ?_
                    refine R.skp (decide ((1 + (i1 : Int) + (i2 : Int) + (i3 : Int)) < 0)) false (by kernel_rfl) (dT c24) (by kernel_rfl) ?_
                    refine R.skp (decide ((1 + (i1 : Int) + (i2 : Int) + (i3 : Int)) < 0)) false (by kernel_rfl) (dT c24) (by kernel_rfl) ?_
                    refine R.skp (decide ((1 + (i1 : Int) + (i2 : Int) + (i3 : Int)) < 0)) false (by kernel_rfl) (dT c24) (by kernel_rfl) ?_
                    refine R.pick (decide ((1 + (i1 : Int) + (i2 : Int) + (i3 : Int)) < 0)) true (by kernel_rfl) (dT c24) (by kernel_rfl) ?_
                    exact R.go 11 (R.retE (.bool false) (by kernel_rfl) (by kernel_rfl) (by first | (rfl) | (exfalso; omega)))
                  · refine R.want (decide ((1 + (i1 : Int) + (i2 : Int) + (i3 : Int)) < 0)) false (by kernel_rfl) (dF c24) ?_
                    refine R.go 1 (R.want (decide ((1 + (i1 : Int) + (i2 : Int) + (i3 : Int)) < 0)) false (by kernel_rfl) (dF c24) ?_)
                    refine R.go 1 (R.want (decide ((1 + (i1 : Int) + (i2 : Int) + (i3 : Int)) < 0)) false (by kernel_rfl) (dF c24) ?_)
                    refine R.call false (eqInt64S_c (shR n xs k ims m ys) (shR n xs k ims m ys) (by first | omega | (simp <;> omega))) (by kernel_rfl) rfl (by kernel_rfl) ?_
                    refine R.want (decide ((1 + (i1 : Int) + (i2 : Int) + (i3 : Int)) < 0)) false (by kernel_rfl) (dF c24) ?_
                    refine R.go 1 (R.pick (decide ((1 + (i1 : Int) + (i2 : Int) + (i3 : Int)) < 0)) false (by kernel_rfl) (dF c24) (by kernel_rfl) ?_)
                    refine R.go 1 (R.want (!decide ((shR n xs k ims m ys) = (shR n xs k ims m ys))) false (by kernel_rfl) (nF rfl) ?_)
                    refine R.go 1 (R.want (!decide ((shR n xs k ims m ys) = (shR n xs k ims m ys))) false (by kernel_rfl) (nF rfl) ?_)
                    refine R.go 1 (R.want (!decide ((shR n xs k ims m ys) = (shR n xs k ims m ys))) false (by kernel_rfl) (nF rfl) ?_)
                    refine R.go 1 (R.pick (!decide ((shR n xs k ims m ys) = (shR n xs k ims m ys))) false (by kernel_rfl) (nF rfl) (by kernel_rfl) ?_)
                    refine R.go 1 (R.els (!decide ((shC n xs k ims m ys) = (shC n xs k ims m ys))) (by kernel_rfl) (nF rfl) ?_)
                    refine R.go 9 (R.enter (avs := [.ref 7, AI 1]) Try.func20 rfl (by kernel_rfl) (by kernel_rfl) (by kernel_rfl) ?_)
                    intro us25
                    refine R.go 10 (R.loop ((fun | (i4, ys4, q4) => (⟨(frm 19 [(0, .ref 7), (1, AI q4), (5, AI (i4 : Int))]), [.box 24 [AI n, LI xs], .box 24 [AI m, LI ys], rowA eI 2 1 (markI xs 1 i1), .box 26 [AI n, .ref 2], rowA eI 2 1 (markI ims (1 + (i1 : Int)) i2), rowA eI 2 1 (markI ys (1 + (i1 : Int) + (i2 : Int)) i3), .box 26 [AI m, .ref 5], rowA eI 2 1 ys4, rowA eI 2 1 xs, rowA eI 2 1 ims, rowA eI 2 1 ys, .dead, .box 26 [AI n, .ref 2], .dead, .dead, .dead, .box 26 [AI m, .ref 5], .dead, .frame us25 (frm 145 [(0, .agg [AI n, LI xs]), (1, AI k), (2, LI ims), (3, .agg [AI m, LI ys]), (4, .ptr 0 0), (7, .ptr 1 0), (8, .bool false), (9, AI ((((1048576 : Int) - xs.length) : Int) - ys.length)), (10, LI (shR n xs k ims m ys)), (11, AI (shC n xs k ims m ys)), (12, .ptr 3 0), (13, .ref 4), (14, .ptr 6 0), (15, .ref 7), (16, AI (shC n xs k ims m ys)), (17, AI (1 + (i1 : Int) + (i2 : Int) + (i3 : Int))), (18, AI 1), (22, LI ims), (23, AI ims.length), (24, .bool (decide ((ims.length : Int) > 1048576))), (25, .agg [AI n, LI xs]), (26, AI 1048576), (27, AI ((1048576 : Int) - xs.length)), (28, AI ((1048576 : Int) - xs.length)), (29, .bool (decide (((1048576 : Int) - xs.length) < 0))), (30, .agg [AI m, LI ys]), (31, AI ((1048576 : Int) - xs.length)), (32, AI ((((1048576 : Int) - xs.length) : Int) - ys.length)), (33, AI ((((1048576 : Int) - xs.length) : Int) - ys.length)), (34, .bool (decide (((((1048576 : Int) - xs.length) : Int) - ys.length) < 0))), (35, .tup [LI (shR n xs k ims m ys), AI (shC n xs k ims m ys)]), (36, .agg [AI n, LI xs]), (37, .agg [AI n, LI xs]), (38, AI k), (39, LI ims), (40, LI ims), (41, .agg [AI m, LI ys]), (42, .agg [AI m, LI ys]), (43, .tup [LI (shR n xs k ims m ys), AI (shC n xs k ims m ys)]), (44, LI (shR n xs k ims m ys)), (45, AI (shC n xs k ims m ys)), (46, .agg [AI n, LI xs]), (47, .agg [AI n, .ref 2]), (48, LI ims), (49, .ref 4), (50, .agg [AI m, LI ys]), (51, .agg [AI m, .ref 5]), (52, .tup [.ref 7, AI (shC n xs k ims m ys)]), (53, .agg [AI n, .ref 2]), (54, AI k), (55, .ref 4), (56, .agg [AI m, .ref 5]), (57, .tup [.ref 7, AI (shC n xs k ims m ys)]), (58, .ref 7), (59, AI (shC n xs k ims m ys)), (60, .ref 7), (61, LI (shR n xs k ims m ys)), (62, .bool (decide ((shR n xs k ims m ys) = (shR n xs k ims m ys)))), (63, .bool (!decide ((shR n xs k ims m ys) = (shR n xs k ims m ys)))), (64, .bool (!decide ((shR n xs k ims m ys) = (shR n xs k ims m ys)))), (65, AI (shC n xs k ims m ys)), (66, AI (shC n xs k ims m ys)), (67, .bool (!decide ((shC n xs k ims m ys) = (shC n xs k ims m ys)))), (68, .bool (!decide ((shC n xs k ims m ys) = (shC n xs k ims m ys)))), (69, .agg [AI n, .ref 2]), (70, .agg [AI n, LI xs]), (71, .agg [AI n, .ref 8]), (72, .bool true), (73, .bool false), (74, .ref 4), (75, LI ims), (76, .ref 9), (77, .bool (decide (ims = ims))), (78, .bool (!decide (ims = ims))), (79, .agg [AI m, .ref 5]), (80, .agg [AI m, LI ys]), (81, .agg [AI m, .ref 10]), (82, .bool true), (83, .bool false), (84, .agg [AI n, .ref 2]), (85, AI 1), (86, AI (1 + (i1 : Int))), (87, .ref 4), (88, AI (1 + (i1 : Int))), (89, AI (1 + (i1 : Int) + (i2 : Int))), (90, .agg [AI m, .ref 5]), (91, AI (1 + (i1 : Int) + (i2 : Int))), (92, AI (1 + (i1 : Int) + (i2 : Int) + (i3 : Int))), (93, AI (1 + (i1 : Int) + (i2 : Int) + (i3 : Int))), (94, .bool (decide ((1 + (i1 : Int) + (i2 : Int) + (i3 : Int)) < 0))), (95, .bool (decide ((1 + (i1 : Int) + (i2 : Int) + (i3 : Int)) < 0))), (96, .ref 7), (97, LI (shR n xs k ims m ys)), (98, .bool (decide ((shR n xs k ims m ys) = (shR n xs k ims m ys)))), (99, .bool (!decide ((shR n xs k ims m ys) = (shR n xs k ims m ys)))), (100, .bool (!decide ((shR n xs k ims m ys) = (shR n xs k ims m ys)))), (101, .bool (!decide ((shR n xs k ims m ys) = (shR n xs k ims m ys)))), (102, AI (shC n xs k ims m ys)), (103, AI (shC n xs k ims m ys)), (104, .bool (!decide ((shC n xs k ims m ys) = (shC n xs k ims m ys)))), (105, .bool (!decide ((shC n xs k ims m ys) = (shC n xs k ims m ys)))), (106, .ref 7), (107, AI 1)])]⟩ : St) : Nat × (List Int) × Int → St)) (fun | (i4, ys4, q4) => (i4 ≤ (shR n xs k ims m ys).length) ∧ (ys4 = markI (shR n xs k ims m ys) 1 i4) ∧ (q4 = 1 + (i4 : Int))) (fun | (i4, ys4, q4) => (shR n xs k ims m ys).length - i4) (0, (shR n xs k ims m ys), 1) [0, 1, 5] none (by kernel_rfl) (by kernel_rfl) (by kernel_rfl) ⟨(by omega), (by exact markI_zero _ _), (by simp)⟩ ?_)
                    rintro ⟨i4, ys4, q4⟩ ⟨h29_1, rfl, rfl⟩ R26 N27
                    have hl4 : (markI (shR n xs k ims m ys) 1 i4).length = (shR n xs k ims m ys).length := markI_length _ _ _ (by assumption)
                    refine R.go 8 (R.cond ((i4 : Int) < ((markI (shR n xs k ims m ys) 1 i4).length : Int)) (by kernel_rfl) (fun c30 => ?_) (fun c30 => ?_))
                    · refine R.go 8 (R.idxO 7 1 (markI (shR n xs k ims m ys) 1 i4).length i4 (i4 : Int) (by kernel_rfl) rfl (by omega) (by kernel_rfl) ?_)
                      refine R.stI 7 2 (markI (shR n xs k ims m ys) 1 i4) i4 (1 + (i4 : Int)) (by kernel_rfl) (by omega) (by kernel_rfl) ?_
                      refine R.go 3 (R.ar ((1 + (i4 : Int)) + 1) (by kernel_rfl) (by omega) (by omega) (by kernel_rfl) ?_)
                      refine R.go 5 (R.ar ((i4 : Int) + 1) (by kernel_rfl) (by omega) (by omega) (by kernel_rfl) ?_)
                      exact R.go 2 (R.stop R26 (by kernel_rfl) (N27 (i4 + 1, (markI (shR n xs k ims m ys) 1 i4).set i4 (1 + (i4 : Int)), (1 + (i4 : Int)) + 1) [0, 1, 5] none _ (by kernel_rfl) (by kernel_rfl) ⟨(by omega), (by exact markI_set _ _ _ (by omega) _ (by omega)), (by omega)⟩ (by show ((shR n xs k ims m ys).length - (i4 + 1)) < ((shR n xs k ims m ys).length - i4); omega)))
                    · refine R.go 6 (R.back (AI (1 + (i4 : Int))) (frm 145 [(0, .agg [AI n, LI xs]), (1, AI k), (2, LI ims), (3, .agg [AI m, LI ys]), (4, .ptr 0 0), (7, .ptr 1 0), (8, .bool false), (9, AI ((((1048576 : Int) - xs.length) : Int) - ys.length)), (10, LI (shR n xs k ims m ys)), (11, AI (shC n xs k ims m ys)), (12, .ptr 3 0), (13, .ref 4), (14, .ptr 6 0), (15, .ref 7), (16, AI (shC n xs k ims m ys)), (17, AI (1 + (i1 : Int) + (i2 : Int) + (i3 : Int))), (18, AI 1), (22, LI ims), (23, AI ims.length), (24, .bool (decide ((ims.length : Int) > 1048576))), (25, .agg [AI n, LI xs]), (26, AI 1048576), (27, AI ((1048576 : Int) - xs.length)), (28, AI ((1048576 : Int) - xs.length)), (29, .bool (decide (((1048576 : Int) - xs.length) < 0))), (30, .agg [AI m, LI ys]), (31, AI ((1048576 : Int) - xs.length)), (32, AI ((((1048576 : Int) - xs.length) : Int) - ys.length)), (33, AI ((((1048576 : Int) - xs.length) : Int) - ys.length)), (34, .bool (decide (((((1048576 : Int) - xs.length) : Int) - ys.length) < 0))), (35, .tup [LI (shR n xs k ims m ys), AI (shC n xs k ims m ys)]), (36, .agg [AI n, LI xs]), (37, .agg [AI n, LI xs]), (38, AI k), (39, LI ims), (40, LI ims), (41, .agg [AI m, LI ys]), (42, .agg [AI m, LI ys]), (43, .tup [LI (shR n xs k ims m ys), AI (shC n xs k ims m ys)]), (44, LI (shR n xs k ims m ys)), (45, AI (shC n xs k ims m ys)), (46, .agg [AI n, LI xs]), (47, .agg [AI n, .ref 2]), (48, LI ims), (49, .ref 4), (50, .agg [AI m, LI ys]), (51, .agg [AI m, .ref 5]), (52, .tup [.ref 7, AI (shC n xs k ims m ys)]), (53, .agg [AI n, .ref 2]), (54, AI k), (55, .ref 4), (56, .agg [AI m, .ref 5]), (57, .tup [.ref 7, AI (shC n xs k ims m ys)]), (58, .ref 7), (59, AI (shC n xs k ims m ys)), (60, .ref 7), (61, LI (shR n xs k ims m ys)), (62, .bool (decide ((shR n xs k ims m ys) = (shR n xs k ims m ys)))), (63, .bool (!decide ((shR n xs k ims m ys) = (shR n xs k ims m ys)))), (64, .bool (!decide ((shR n xs k ims m ys) = (shR n xs k ims m ys)))), (65, AI (shC n xs k ims m ys)), (66, AI (shC n xs k ims m ys)), (67, .bool (!decide ((shC n xs k ims m ys) = (shC n xs k ims m ys)))), (68, .bool (!decide ((shC n xs k ims m ys) = (shC n xs k ims m ys)))), (69, .agg [AI n, .ref 2]), (70, .agg [AI n, LI xs]), (71, .agg [AI n, .ref 8]), (72, .bool true), (73, .bool false), (74, .ref 4), (75, LI ims), (76, .ref 9), (77, .bool (decide (ims = ims))), (78, .bool (!decide (ims = ims))), (79, .agg [AI m, .ref 5]), (80, .agg [AI m, LI ys]), (81, .agg [AI m, .ref 10]), (82, .bool true), (83, .bool false), (84, .agg [AI n, .ref 2]), (85, AI 1), (86, AI (1 + (i1 : Int))), (87, .ref 4), (88, AI (1 + (i1 : Int))), (89, AI (1 + (i1 : Int) + (i2 : Int))), (90, .agg [AI m, .ref 5]), (91, AI (1 + (i1 : Int) + (i2 : Int))), (92, AI (1 + (i1 : Int) + (i2 : Int) + (i3 : Int))), (93, AI (1 + (i1 : Int) + (i2 : Int) + (i3 : Int))), (94, .bool (decide ((1 + (i1 : Int) + (i2 : Int) + (i3 : Int)) < 0))), (95, .bool (decide ((1 + (i1 : Int) + (i2 : Int) + (i3 : Int)) < 0))), (96, .ref 7), (97, LI (shR n xs k ims m ys)), (98, .bool (decide ((shR n xs k ims m ys) = (shR n xs k ims m ys)))), (99, .bool (!decide ((shR n xs k ims m ys) = (shR n xs k ims m ys)))), (100, .bool (!decide ((shR n xs k ims m ys) = (shR n xs k ims m ys)))), (101, .bool (!decide ((shR n xs k ims m ys) = (shR n xs k ims m ys)))), (102, AI (shC n xs k ims m ys)), (103, AI (shC n xs k ims m ys)), (104, .bool (!decide ((shC n xs k ims m ys) = (shC n xs k ims m ys)))), (105, .bool (!decide ((shC n xs k ims m ys) = (shC n xs k ims m ys)))), (106, .ref 7), (107, AI 1)]) (by kernel_rfl) (by kernel_rfl) (by kernel_rfl) ?_)
                      have hi4 : i4 = (shR n xs k ims m ys).length := by omega
                      have hx4 : markI (shR n xs k ims m ys) 1 i4 = markC (markI (shR n xs k ims m ys) 1 i4).length 1 := by rw [hl4, hi4]; exact markI_all _ _ _ rfl
                      refine R.go 10 (R.call false (heldInt64S_c (markI (shR n xs k ims m ys) 1 i4) 1 (by first | omega | (simp <;> omega)) (by omega) (by assumption)) (by kernel_rfl) rfl (by kernel_rfl) ?_)
                      refine R.go 8 (R.cond ((1 + ((markI (shR n xs k ims m ys) 1 i4).length : Int)) < 0) (by kernel_rfl) (fun c31 => ?_) (fun c31 => ?_))
                      · exact R.go 4 (R.retE (.bool false) (by kernel_rfl) (by kernel_rfl) (by first | (rfl) | (exfalso; omega)))
                      · refine R.go 8 (R.condN ((1 + ((markI (shR n xs k ims m ys) 1 i4).length : Int)) = (1 + (i4 : Int))) (by kernel_rfl) (fun c32 => ?_) (fun c32 => ?_))
                        · exact R.go 4 (R.retE (.bool false) (by kernel_rfl) (by kernel_rfl) (by first | (rfl) | (exfalso; omega)))
                        · refine R.go 4 (R.call true (toPoset_c n xs (by first | omega | (simp <;> omega))).frz (by kernel_rfl) rfl (by kernel_rfl) ?_)
                          refine R.go 2 (R.call true (toInt64S_c ims h0ims).frz (by kernel_rfl) rfl (by kernel_rfl) ?_)
                          refine R.go 1 (R.call true (toPoset_c m ys (by first | omega | (simp <;> omega))).frz (by kernel_rfl) rfl (by kernel_rfl) ?_)
                          refine R.call true (SV_impl n xs k ims m ys (by first | omega | (simp <;> omega)) (by first | omega | (simp <;> omega)) h0ims).frz (by kernel_rfl) rfl (by kernel_rfl) ?_
                          refine R.go 11 (R.call true (eqInt64S_c (shR n xs k ims m ys) (shR n xs k ims m ys) (by first | omega | (simp <;> omega))) (by kernel_rfl) rfl (by kernel_rfl) ?_)
                          refine R.go 2 (R.want (!decide ((shR n xs k ims m ys) = (shR n xs k ims m ys))) false (by kernel_rfl) (nF rfl) ?_)
                          refine R.go 1 (R.want (!decide ((shR n xs k ims m ys) = (shR n xs k ims m ys))) false (by kernel_rfl) (nF rfl) ?_)
                          refine R.go 1 (R.want (!decide ((shR n xs k ims m ys) = (shR n xs k ims m ys))) false (by kernel_rfl) (nF rfl) ?_)
                          refine R.go 1 (R.pick (!decide ((shR n xs k ims m ys) = (shR n xs k ims m ys))) false (by kernel_rfl) (nF rfl) (by kernel_rfl) ?_)
                          refine R.go 1 (R.els (!decide ((shC n xs k ims m ys) = (shC n xs k ims m ys))) (by kernel_rfl) (nF rfl) ?_)
                          refine R.go 9 (R.call false (heldInt64S_c (markI (shR n xs k ims m ys) 1 i4) 1 (by first | omega | (simp <;> omega)) (by omega) (by assumption)) (by kernel_rfl) rfl (by kernel_rfl) ?_)
                          refine R.go 8 (R.els (decide ((1 + ((markI (shR n xs k ims m ys) 1 i4).length : Int)) < 0)) (by kernel_rfl) (dF c31) ?_)
                          refine R.go 8 (R.els (!decide ((1 + ((markI (shR n xs k ims m ys) 1 i4).length : Int)) = (1 + (i4 : Int)))) (by kernel_rfl) (nF c32) ?_)
                          exact R.go 5 (R.retE (.bool true) (by kernel_rfl) (by kernel_rfl) (by rfl))

theorem lawShowingValues_0ims (n : Int) (xs : List Int) (k : Int) (ims : List Int) (m : Int) (ys : List Int) (hx : 1048576 < ims.length) : CallA Try.prog 9 [.agg [AI n, LI xs], AI k, LI ims, .agg [AI m, LI ys]] (.bool true) := by
  refine CallA.of Try.func9 rfl (by kernel_rfl) ?_
  refine R.go 13 (R.cond ((ims.length : Int) > 1048576) (by kernel_rfl) (fun c1 => ?_) (fun c1 => ?_))
  · exact R.go 4 (R.retE (.bool true) (by kernel_rfl) (by kernel_rfl) (by rfl))
  · refine R.go 9 (R.call true (szPoset_c n xs 1048576 (by omega) (by first | omega | (simp <;> omega))) (by kernel_rfl) rfl (by kernel_rfl) ?_)
    refine R.go 8 (R.cond (((1048576 : Int) - xs.length) < 0) (by kernel_rfl) (fun c2 => ?_) (fun c2 => ?_))
    · exact R.go 4 (R.retE (.bool true) (by kernel_rfl) (by kernel_rfl) (by rfl))
    · refine R.go 5 (R.call true (szPoset_c m ys ((1048576 : Int) - xs.length) (by first | omega | (simp <;> omega)) (by first | omega | (simp <;> omega))) (by kernel_rfl) rfl (by kernel_rfl) ?_)
      refine R.go 8 (R.cond (((((1048576 : Int) - xs.length) : Int) - ys.length) < 0) (by kernel_rfl) (fun c3 => ?_) (fun c3 => ?_))
      · exact R.go 4 (R.retE (.bool true) (by kernel_rfl) (by kernel_rfl) (by rfl))
      · exfalso; omega -- no contract for f15 loop.example/g01089/laws.markPoset (.agg [AI n, LI xs], AI 1)

theorem lawShowingValues_1 (n : Int) (xs : List Int) (k : Int) (ims : List Int) (m : Int) (ys : List Int) (hx : 1048576 < xs.length) (hb : xs.length ≤ 9223372036854775807) : CallA Try.prog 9 [.agg [AI n, LI xs], AI k, LI ims, .agg [AI m, LI ys]] (.bool true) := by
  refine CallA.of Try.func9 rfl (by kernel_rfl) ?_
  refine R.go 13 (R.cond ((ims.length : Int) > 1048576) (by kernel_rfl) (fun c1 => ?_) (fun c1 => ?_))
  · exact R.go 4 (R.retE (.bool true) (by kernel_rfl) (by kernel_rfl) (by rfl))
  · refine R.go 9 (R.call true (szPoset_no n xs 1048576 (by omega) (by first | omega | (simp <;> omega)) hb) (by kernel_rfl) rfl (by kernel_rfl) ?_)
    exact R.go 13 (R.retE (.bool true) (by kernel_rfl) (by kernel_rfl) (by rfl))

theorem lawShowingValues_2 (n : Int) (xs : List Int) (k : Int) (ims : List Int) (m : Int) (ys : List Int) (hy : xs.length ≤ 1048576) (hx : 1048576 < xs.length + ys.length) (hb : ys.length ≤ 9223372036854775807) : CallA Try.prog 9 [.agg [AI n, LI xs], AI k, LI ims, .agg [AI m, LI ys]] (.bool true) := by
  refine CallA.of Try.func9 rfl (by kernel_rfl) ?_
  refine R.go 13 (R.cond ((ims.length : Int) > 1048576) (by kernel_rfl) (fun c1 => ?_) (fun c1 => ?_))
  · exact R.go 4 (R.retE (.bool true) (by kernel_rfl) (by kernel_rfl) (by rfl))
  · refine R.go 9 (R.call true (szPoset_c n xs 1048576 (by omega) (by first | omega | (simp <;> omega))) (by kernel_rfl) rfl (by kernel_rfl) ?_)
    refine R.go 8 (R.cond (((1048576 : Int) - xs.length) < 0) (by kernel_rfl) (fun c2 => ?_) (fun c2 => ?_))
    · exact R.go 4 (R.retE (.bool true) (by kernel_rfl) (by kernel_rfl) (by rfl))
    · refine R.go 5 (R.call true (szPoset_no m ys ((1048576 : Int) - xs.length) (by first | omega | (simp <;> omega)) (by first | omega | (simp <;> omega)) hb) (by kernel_rfl) rfl (by kernel_rfl) ?_)
      exact R.go 13 (R.retE (.bool true) (by kernel_rfl) (by kernel_rfl) (by rfl))

theorem lawShowingValues (n : Int) (xs : List Int) (m0 : xs.length ≤ maxLen) (k : Int) (ims : List Int) (m0ims : ims.length ≤ maxLen) (m : Int) (ys : List Int) (m1 : ys.length ≤ maxLen) : CallA Try.prog 9 [.agg [AI n, LI xs], AI k, LI ims, .agg [AI m, LI ys]] (.bool true) := by
  have hm : maxLen ≤ 9223372036854775807 := by decide
  rcases Nat.lt_or_ge 1048576 ims.length with h0ims | h0ims
  · exact lawShowingValues_0ims n xs k ims m ys h0ims
  rcases Nat.lt_or_ge 1048576 (xs.length) with h0 | h0
  · exact lawShowingValues_1 n xs k ims m ys h0 (by omega)
  rcases Nat.lt_or_ge 1048576 (xs.length + ys.length) with h1 | h1
  · exact lawShowingValues_2 n xs k ims m ys h0 h1 (by omega)
  exact lawShowingValues_in n xs k ims m ys h1 h0ims

end Go.Proofs.Ytkanjgmocmhlkaa
