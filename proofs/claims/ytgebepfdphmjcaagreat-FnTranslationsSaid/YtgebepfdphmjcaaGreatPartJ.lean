/- Texts of the proof: TR4, Sym4, Sym8, TR5. -/
import Derived.Test.YtgebepfdphmjcaaGreatPartI

/-! Point formulas: what the program computes. -/
namespace Go.Proofs.YtgebepfdphmjcaaGreat
open Go.RowKit Go.Abs

theorem pointParts_c (k : Int) : CallA Tryz.prog 177 [AI k] (AI (ptN k : Int)) := by
  refine CallA.of Tryz.func177 rfl (by kernel_rfl) ?_
  refine R.go 16 (R.cond (k = 4) (by kernel_rfl) (fun c1 => ?_) (fun c1 => ?_))
  · refine R.go 1 (R.thn (decide (k = 4)) (by kernel_rfl) (dT c1) ?_)
    exact R.go 4 (R.retE (AI 2) (by kernel_rfl) (by kernel_rfl) (by first | (simp [ptN, *]) | (exfalso; omega)))
  · refine R.go 5 (R.cond (k = 5) (by kernel_rfl) (fun c2 => ?_) (fun c2 => ?_))
    · refine R.go 1 (R.thn (decide (k = 5)) (by kernel_rfl) (dT c2) ?_)
      exact R.go 4 (R.retE (AI 2) (by kernel_rfl) (by kernel_rfl) (by first | (simp [ptN, *]) | (exfalso; omega)))
    · refine R.go 4 (R.cond (k = 6) (by kernel_rfl) (fun c3 => ?_) (fun c3 => ?_))
      · exact R.go 4 (R.retE (AI 2) (by kernel_rfl) (by kernel_rfl) (by first | (simp [ptN, *]) | (exfalso; omega)))
      · refine R.go 6 (R.cond (k = 7) (by kernel_rfl) (fun c4 => ?_) (fun c4 => ?_))
        · refine R.go 1 (R.thn (decide (k = 7)) (by kernel_rfl) (dT c4) ?_)
          exact R.go 4 (R.retE (AI 1) (by kernel_rfl) (by kernel_rfl) (by first | (simp [ptN, *]) | (exfalso; omega)))
        · refine R.go 4 (R.cond (k = 8) (by kernel_rfl) (fun c5 => ?_) (fun c5 => ?_))
          · exact R.go 4 (R.retE (AI 1) (by kernel_rfl) (by kernel_rfl) (by first | (simp [ptN, *]) | (exfalso; omega)))
          · exact R.go 6 (R.retE (AI 0) (by kernel_rfl) (by kernel_rfl) (by first | (simp [ptN, *]) | (exfalso; omega)))

theorem pointEnd_c (a : List (Int × Int × Int)) (i : Nat) (hi : i ≤ a.length) (hl : a.length ≤ 1000000000) : CallA Tryz.prog 129 [LT a, AI (i : Int)] (AI (peXT 1 a i)) := by
  refine CallA.of Tryz.func129 rfl (by kernel_rfl) ?_
  refine R.go 10 (R.loop ((fun | (o, j) => (⟨(frm 24 [(0, LT a), (1, AI (j : Int)), (5, AI o)]), []⟩ : St) : Int × Nat → St)) (fun | (o, j) => (0 ≤ o) ∧ (o ≤ j + 1) ∧ (j ≤ a.length) ∧ (peXT 1 a i = peXT o.toNat a j)) (fun | (o, j) => a.length - j) (1, i) [0, 1, 5] none (by kernel_rfl) (by kernel_rfl) (by kernel_rfl) ⟨(by omega), (by omega), (by omega), (by rfl)⟩ ?_)
  rintro ⟨o, j⟩ ⟨h4_1, h4_2, h4_3, h4_4⟩ R1 N2
  have hp := ptN_le (a.getD j (0, 0, 0)).1
  refine R.go 6 (R.cond (o > 0) (by kernel_rfl) (fun c5 => ?_) (fun c5 => ?_))
  · refine R.go 11 (R.cond ((j : Int) ≥ (a.length : Int)) (by kernel_rfl) (fun c6 => ?_) (fun c6 => ?_))
    · exact R.go 4 (R.retE (AI (-1)) (by kernel_rfl) (by kernel_rfl) (by first | (apply congrArg AI; rw [‹peXT 1 a i = _›]; first | exact (peXT_endI _ _ _ (by omega) (by omega)).symm | (rw [show o = 0 by omega]; exact (peXT_zero _ _).symm)) | (exfalso; omega)))
    · refine R.go 5 (R.idx eT a (0, 0, 0) j (j : Int) (by kernel_rfl) rfl eT_len (by omega) (by kernel_rfl) ?_)
      refine R.go 2 (R.call true (pointParts_c ((a.getD j (0, 0, 0)).1)) (by kernel_rfl) rfl (by kernel_rfl) ?_)
      refine R.ar ((ptN ((a.getD j (0, 0, 0)).1) : Int) - 1) (by kernel_rfl) (by omega) (by omega) (by kernel_rfl) ?_
      refine R.ar (o + ((ptN ((a.getD j (0, 0, 0)).1) : Int) - 1)) (by kernel_rfl) (by omega) (by omega) (by kernel_rfl) ?_
      refine R.go 5 (R.ar ((j : Int) + 1) (by kernel_rfl) (by omega) (by omega) (by kernel_rfl) ?_)
      exact R.go 2 (R.stop R1 (by kernel_rfl) (N2 (o + ((ptN ((a.getD j (0, 0, 0)).1) : Int) - 1), j + 1) [0, 1, 5] none _ (by kernel_rfl) (by kernel_rfl) ⟨(by omega), (by omega), (by omega), (by rw [‹peXT 1 a i = _›]; exact peXT_stepI _ _ _ _ (by omega) (by omega) (by omega))⟩ (by show (a.length - (j + 1)) < (a.length - j); omega)))
  · exact R.go 6 (R.retE (AI (j : Int)) (by kernel_rfl) (by kernel_rfl) (by first | (apply congrArg AI; rw [‹peXT 1 a i = _›]; first | exact (peXT_endI _ _ _ (by omega) (by omega)).symm | (rw [show o = 0 by omega]; exact (peXT_zero _ _).symm)) | (exfalso; omega)))

theorem below_b {a : List (Int × Int × Int)} (hok : OKP a) (h2 : ptN (a.getD 0 (0, 0, 0)).1 = 2) : (peXT 1 a 1 = 1 + ((lefT a).length : Int) ∧ 1 ≤ peXT 1 a 1 ∧ peXT 1 a 1 ≤ a.length) ∧ prtsT a = [lefT a, rigT a] := by
  obtain ⟨o1, o2, hl, e, hp⟩ := okp_two hok h2
  exact ⟨⟨e, by omega, by omega⟩, hp⟩
theorem prts_0 {a : List (Int × Int × Int)} (h1 : ¬ ptN (a.getD 0 (0, 0, 0)).1 = 1) (h2 : ¬ ptN (a.getD 0 (0, 0, 0)).1 = 2) : prtsT a = [] := by rw [prtsT, if_neg h1, if_neg h2]

theorem below_c (a : List (Int × Int × Int)) (hok : OKP a) (hl : a.length ≤ 1000000000) : CallA Tryz.prog 132 [LT a] (ownA eLT 47 1 (prtsT a)) := by
  have hp := okp_pos hok
  have hb := fun h => below_b hok h
  have ho := fun h => okp_one hok h
  have hz := fun h h' => prts_0 (a := a) h h'
  refine CallA.of Tryz.func132 rfl (by kernel_rfl) ?_
  refine R.go 8 (R.idx eT a (0, 0, 0) 0 0 (by kernel_rfl) rfl eT_len (by omega) (by kernel_rfl) ?_)
  refine R.go 2 (R.call true (pointParts_c ((a.getD 0 (0, 0, 0)).1)) (by kernel_rfl) rfl (by kernel_rfl) ?_)
  refine R.go 7 (R.cond ((ptN ((a.getD 0 (0, 0, 0)).1) : Int) = 1) (by kernel_rfl) (fun c1 => ?_) (fun c1 => ?_))
  · refine R.go 3 (R.slL eT a 1 1 (by kernel_rfl) rfl eT_len (by omega) (by kernel_rfl) ?_)
    exact R.go 3 (R.retE (ownA eLT 47 1 [a.drop 1]) (by kernel_rfl) (by kernel_rfl) (by first | (first | (rw [(ho (by omega)).2]; done) | (rw [hb2, lefT, rigT]; done) | (rw [hz (by omega) (by omega)]; done)) | (exfalso; omega)))
  · refine R.go 5 (R.cond ((ptN ((a.getD 0 (0, 0, 0)).1) : Int) = 2) (by kernel_rfl) (fun c2 => ?_) (fun c2 => ?_))
    · refine R.go 3 (R.call true (pointEnd_c a 1 (by first | omega | (simp <;> omega)) hl) (by kernel_rfl) rfl (by kernel_rfl) ?_)
      have hb1 := (hb (by omega)).1
      have hb2 := (hb (by omega)).2
      refine R.go 6 (R.slLH eT a 1 ((peXT 1 a 1).toNat) 1 (peXT 1 a 1) (by kernel_rfl) rfl (by omega) eT_len (by omega) (by omega) (by kernel_rfl) ?_)
      refine R.go 2 (R.slL eT a ((peXT 1 a 1).toNat) (peXT 1 a 1) (by kernel_rfl) (by omega) eT_len (by omega) (by kernel_rfl) ?_)
      exact R.go 3 (R.retE (ownA eLT 47 1 [(a.take ((peXT 1 a 1).toNat)).drop 1, a.drop ((peXT 1 a 1).toNat)]) (by kernel_rfl) (by kernel_rfl) (by first | (first | (rw [(ho (by omega)).2]; done) | (rw [hb2, lefT, rigT]; done) | (rw [hz (by omega) (by omega)]; done)) | (exfalso; omega)))
    · refine R.go 6 (R.nil 2 47 1 (by kernel_rfl) ?_)
      exact R.retE (ownA eLT 47 1 []) (by kernel_rfl) (by kernel_rfl) (by first | (first | (rw [(ho (by omega)).2]; done) | (rw [hb2, lefT, rigT]; done) | (rw [hz (by omega) (by omega)]; done)) | (exfalso; omega))

theorem isPoint_c (x : Int) : CallA Tryz.prog 176 [AI x] (.bool (inR x 0 9)) := by
  refine CallA.of Tryz.func176 rfl (by kernel_rfl) ?_
  refine R.go 7 (R.call true (inRange_c x 0 9) (by kernel_rfl) rfl (by kernel_rfl) ?_)
  exact R.go 2 (R.retE (.bool (inR x 0 9)) (by kernel_rfl) (by kernel_rfl) (by rfl))

def nodT (p : Int × Int × Int) : Prop := (p.1 = 0 ∨ p.1 = 1 → 0 ≤ p.2.1 ∧ p.2.1 ≤ 9 ∧ 0 ≤ p.2.2 ∧ p.2.2 ≤ 9) ∧ (p.1 = 2 → 0 ≤ p.2.1 ∧ p.2.1 ≤ 5 ∧ 0 ≤ p.2.2 ∧ p.2.2 ≤ 9) ∧ (p.1 = 7 ∨ p.1 = 8 → 0 ≤ p.2.1 ∧ p.2.1 ≤ 9 ∧ p.2.2 = 0) ∧ (p.1 = 3 ∨ p.1 = 4 ∨ p.1 = 5 ∨ p.1 = 6 → p.2.1 = 0 ∧ p.2.2 = 0) ∧ 0 ≤ p.1 ∧ p.1 ≤ 8
theorem nod_fl : ∀ (t : PF), t.ok → ∀ p ∈ t.fl, nodT p
  | .atm k x y, h, p, hp => by
    simp only [PF.fl, List.mem_singleton] at hp
    subst hp
    simp only [PF.ok] at h
    unfold nodT
    simp only
    omega
  | .bi k L R, h, p, hp => by
    simp only [PF.ok] at h
    have hk := h.1
    rcases List.mem_cons.1 hp with rfl | hp
    · rcases hk with rfl | rfl | rfl <;> simp [nodT]
    · rcases List.mem_append.1 hp with hp | hp
      · exact nod_fl L h.2.1 p hp
      · exact nod_fl R h.2.2 p hp
  | .qu k x L, h, p, hp => by
    simp only [PF.ok] at h
    have hk := h.1
    have hx := h.2.1
    rcases List.mem_cons.1 hp with rfl | hp
    · rcases hk with rfl | rfl <;> simp [nodT] <;> omega
    · exact nod_fl L h.2.2 p hp
theorem okp_nod {a : List (Int × Int × Int)} (h : OKP a) {i : Nat} (hi : i < a.length) : nodT (a.getD i (0, 0, 0)) := by
  obtain ⟨t, ht, rfl⟩ := h
  refine nod_fl t ht _ ?_
  rw [List.getD_eq_getElem?_getD, List.getElem?_eq_getElem hi]
  exact List.getElem_mem hi
theorem okp_end {a : List (Int × Int × Int)} (h : OKP a) : peXT 1 a 0 = (a.length : Int) := by
  obtain ⟨t, ht, rfl⟩ := h
  exact peXT_fl ht

theorem isPointNode_c (k : Int) (x : Int) (y : Int) (hn : nodT (k, x, y)) : CallA Tryz.prog 128 [.agg [AI k, AI x, AI y]] (.bool true) := by
  have hn2 := hn
  unfold nodT at hn2
  simp only at hn2
  refine CallA.of Tryz.func128 rfl (by kernel_rfl) ?_
  refine R.go 18 (R.cond (k = 0) (by kernel_rfl) (fun c1 => ?_) (fun c1 => ?_))
  · refine R.go 1 (R.thn (decide (k = 0)) (by kernel_rfl) (dT c1) ?_)
    refine R.go 4 (R.call true (isPoint_c x) (by kernel_rfl) rfl (by kernel_rfl) ?_)
    refine R.go 1 ?_
    refine (Bool.eq_false_or_eq_true (inR x 0 9)).elim (fun c2 => ?_) (fun c2 => ?_)
    · refine R.want (inR x 0 9) true (by kernel_rfl) c2 ?_
      refine R.go 1 (R.want (inR x 0 9) true (by kernel_rfl) c2 ?_)
      refine R.go 1 (R.want (inR x 0 9) true (by kernel_rfl) c2 ?_)
      refine R.call true (isPoint_c y) (by kernel_rfl) rfl (by kernel_rfl) ?_
      refine R.pick (inR x 0 9) true (by kernel_rfl) c2 (by kernel_rfl) ?_
      exact R.go 2 (R.retE (.bool (inR y 0 9)) (by kernel_rfl) (by kernel_rfl) (by first | (first | rfl | (exfalso; omega) | (apply congrArg AV.bool; simp [inR]; omega) | (exfalso; simp [inR] at *; omega)) | (exfalso; omega)))
    · refine R.skp (inR x 0 9) true (by kernel_rfl) c2 (by kernel_rfl) ?_
      refine R.skp (inR x 0 9) true (by kernel_rfl) c2 (by kernel_rfl) ?_
      refine R.skp (inR x 0 9) true (by kernel_rfl) c2 (by kernel_rfl) ?_
      refine R.pick (inR x 0 9) false (by kernel_rfl) c2 (by kernel_rfl) ?_
      exact R.go 2 (R.retE (.bool false) (by kernel_rfl) (by kernel_rfl) (by first | (first | rfl | (exfalso; omega) | (apply congrArg AV.bool; simp [inR]; omega) | (exfalso; simp [inR] at *; omega)) | (exfalso; omega)))
  · refine R.go 4 (R.cond (k = 1) (by kernel_rfl) (fun c3 => ?_) (fun c3 => ?_))
    · refine R.go 4 (R.call true (isPoint_c x) (by kernel_rfl) rfl (by kernel_rfl) ?_)
      refine R.go 1 ?_
      refine (Bool.eq_false_or_eq_true (inR x 0 9)).elim (fun c4 => ?_) (fun c4 => ?_)
      · refine R.want (inR x 0 9) true (by kernel_rfl) c4 ?_
        refine R.go 1 (R.want (inR x 0 9) true (by kernel_rfl) c4 ?_)
        refine R.go 1 (R.want (inR x 0 9) true (by kernel_rfl) c4 ?_)
        refine R.call true (isPoint_c y) (by kernel_rfl) rfl (by kernel_rfl) ?_
        refine R.pick (inR x 0 9) true (by kernel_rfl) c4 (by kernel_rfl) ?_
        exact R.go 2 (R.retE (.bool (inR y 0 9)) (by kernel_rfl) (by kernel_rfl) (by first | (first | rfl | (exfalso; omega) | (apply congrArg AV.bool; simp [inR]; omega) | (exfalso; simp [inR] at *; omega)) | (exfalso; omega)))
      · refine R.skp (inR x 0 9) true (by kernel_rfl) c4 (by kernel_rfl) ?_
        refine R.skp (inR x 0 9) true (by kernel_rfl) c4 (by kernel_rfl) ?_
        refine R.skp (inR x 0 9) true (by kernel_rfl) c4 (by kernel_rfl) ?_
        refine R.pick (inR x 0 9) false (by kernel_rfl) c4 (by kernel_rfl) ?_
        exact R.go 2 (R.retE (.bool false) (by kernel_rfl) (by kernel_rfl) (by first | (first | rfl | (exfalso; omega) | (apply congrArg AV.bool; simp [inR]; omega) | (exfalso; simp [inR] at *; omega)) | (exfalso; omega)))
    · refine R.go 5 (R.cond (k = 2) (by kernel_rfl) (fun c5 => ?_) (fun c5 => ?_))
      · refine R.go 4 (R.call true (isVariable_c x) (by kernel_rfl) rfl (by kernel_rfl) ?_)
        refine R.go 1 ?_
        refine (Bool.eq_false_or_eq_true (inR x 0 5)).elim (fun c6 => ?_) (fun c6 => ?_)
        · refine R.want (inR x 0 5) true (by kernel_rfl) c6 ?_
          refine R.go 1 (R.want (inR x 0 5) true (by kernel_rfl) c6 ?_)
          refine R.go 1 (R.want (inR x 0 5) true (by kernel_rfl) c6 ?_)
          refine R.call true (isPoint_c y) (by kernel_rfl) rfl (by kernel_rfl) ?_
          refine R.pick (inR x 0 5) true (by kernel_rfl) c6 (by kernel_rfl) ?_
          exact R.go 2 (R.retE (.bool (inR y 0 9)) (by kernel_rfl) (by kernel_rfl) (by first | (first | rfl | (exfalso; omega) | (apply congrArg AV.bool; simp [inR]; omega) | (exfalso; simp [inR] at *; omega)) | (exfalso; omega)))
        · refine R.skp (inR x 0 5) true (by kernel_rfl) c6 (by kernel_rfl) ?_
          refine R.skp (inR x 0 5) true (by kernel_rfl) c6 (by kernel_rfl) ?_
          refine R.skp (inR x 0 5) true (by kernel_rfl) c6 (by kernel_rfl) ?_
          refine R.pick (inR x 0 5) false (by kernel_rfl) c6 (by kernel_rfl) ?_
          exact R.go 2 (R.retE (.bool false) (by kernel_rfl) (by kernel_rfl) (by first | (first | rfl | (exfalso; omega) | (apply congrArg AV.bool; simp [inR]; omega) | (exfalso; simp [inR] at *; omega)) | (exfalso; omega)))
      · refine R.go 6 (R.cond (k = 7) (by kernel_rfl) (fun c7 => ?_) (fun c7 => ?_))
        · refine R.go 1 (R.thn (decide (k = 7)) (by kernel_rfl) (dT c7) ?_)
          refine R.go 4 (R.call true (isPoint_c x) (by kernel_rfl) rfl (by kernel_rfl) ?_)
          refine R.go 1 ?_
          refine (Bool.eq_false_or_eq_true (inR x 0 9)).elim (fun c8 => ?_) (fun c8 => ?_)
          · refine R.want (inR x 0 9) true (by kernel_rfl) c8 ?_
            refine R.go 1 (R.want (inR x 0 9) true (by kernel_rfl) c8 ?_)
            refine R.go 1 (R.want (inR x 0 9) true (by kernel_rfl) c8 ?_)
            refine R.go 1 (R.pick (inR x 0 9) true (by kernel_rfl) c8 (by kernel_rfl) ?_)
            exact R.go 2 (R.retE (.bool (decide (y = 0))) (by kernel_rfl) (by kernel_rfl) (by first | (first | rfl | (exfalso; omega) | (apply congrArg AV.bool; simp [inR]; omega) | (exfalso; simp [inR] at *; omega)) | (exfalso; omega)))
          · refine R.skp (inR x 0 9) true (by kernel_rfl) c8 (by kernel_rfl) ?_
            refine R.skp (inR x 0 9) true (by kernel_rfl) c8 (by kernel_rfl) ?_
            refine R.skp (inR x 0 9) true (by kernel_rfl) c8 (by kernel_rfl) ?_
            refine R.pick (inR x 0 9) false (by kernel_rfl) c8 (by kernel_rfl) ?_
            exact R.go 2 (R.retE (.bool false) (by kernel_rfl) (by kernel_rfl) (by first | (first | rfl | (exfalso; omega) | (apply congrArg AV.bool; simp [inR]; omega) | (exfalso; simp [inR] at *; omega)) | (exfalso; omega)))
        · refine R.go 4 (R.cond (k = 8) (by kernel_rfl) (fun c9 => ?_) (fun c9 => ?_))
          · refine R.go 4 (R.call true (isPoint_c x) (by kernel_rfl) rfl (by kernel_rfl) ?_)
            refine R.go 1 ?_
            refine (Bool.eq_false_or_eq_true (inR x 0 9)).elim (fun c10 => ?_) (fun c10 => ?_)
            · refine R.want (inR x 0 9) true (by kernel_rfl) c10 ?_
              refine R.go 1 (R.want (inR x 0 9) true (by kernel_rfl) c10 ?_)
              refine R.go 1 (R.want (inR x 0 9) true (by kernel_rfl) c10 ?_)
              refine R.go 1 (R.pick (inR x 0 9) true (by kernel_rfl) c10 (by kernel_rfl) ?_)
              exact R.go 2 (R.retE (.bool (decide (y = 0))) (by kernel_rfl) (by kernel_rfl) (by first | (first | rfl | (exfalso; omega) | (apply congrArg AV.bool; simp [inR]; omega) | (exfalso; simp [inR] at *; omega)) | (exfalso; omega)))
            · refine R.skp (inR x 0 9) true (by kernel_rfl) c10 (by kernel_rfl) ?_
              refine R.skp (inR x 0 9) true (by kernel_rfl) c10 (by kernel_rfl) ?_
              refine R.skp (inR x 0 9) true (by kernel_rfl) c10 (by kernel_rfl) ?_
              refine R.pick (inR x 0 9) false (by kernel_rfl) c10 (by kernel_rfl) ?_
              exact R.go 2 (R.retE (.bool false) (by kernel_rfl) (by kernel_rfl) (by first | (first | rfl | (exfalso; omega) | (apply congrArg AV.bool; simp [inR]; omega) | (exfalso; simp [inR] at *; omega)) | (exfalso; omega)))
          · refine R.go 6 (R.call true (inRange_c k 3 6) (by kernel_rfl) rfl (by kernel_rfl) ?_)
            refine R.go 1 ?_
            refine (Bool.eq_false_or_eq_true (inR k 3 6)).elim (fun c11 => ?_) (fun c11 => ?_)
            · refine R.want (inR k 3 6) true (by kernel_rfl) c11 ?_
              refine R.go 1 (R.want (inR k 3 6) true (by kernel_rfl) c11 ?_)
              refine R.go 1 (R.want (inR k 3 6) true (by kernel_rfl) c11 ?_)
              refine R.go 1 (R.pick (inR k 3 6) true (by kernel_rfl) c11 (by kernel_rfl) ?_)
              refine R.go 1 ?_
              by_cases c12 : x = 0
              · refine R.want (decide (x = 0)) true (by kernel_rfl) (dT c12) ?_
                refine R.go 1 (R.want (decide (x = 0)) true (by kernel_rfl) (dT c12) ?_)
                refine R.go 1 (R.want (decide (x = 0)) true (by kernel_rfl) (dT c12) ?_)
                refine R.go 1 (R.pick (decide (x = 0)) true (by kernel_rfl) (dT c12) (by kernel_rfl) ?_)
                exact R.go 2 (R.retE (.bool (decide (y = 0))) (by kernel_rfl) (by kernel_rfl) (by first | (first | rfl | (exfalso; omega) | (apply congrArg AV.bool; simp [inR]; omega) | (exfalso; simp [inR] at *; omega)) | (exfalso; omega)))
              · refine R.skp (decide (x = 0)) true (by kernel_rfl) (dF c12) (by kernel_rfl) ?_
                refine R.skp (decide (x = 0)) true (by kernel_rfl) (dF c12) (by kernel_rfl) ?_
                refine R.skp (decide (x = 0)) true (by kernel_rfl) (dF c12) (by kernel_rfl) ?_
                refine R.pick (decide (x = 0)) false (by kernel_rfl) (dF c12) (by kernel_rfl) ?_
                exact R.go 2 (R.retE (.bool false) (by kernel_rfl) (by kernel_rfl) (by first | (first | rfl | (exfalso; omega) | (apply congrArg AV.bool; simp [inR]; omega) | (exfalso; simp [inR] at *; omega)) | (exfalso; omega)))
            · refine R.skp (inR k 3 6) true (by kernel_rfl) c11 (by kernel_rfl) ?_
              refine R.skp (inR k 3 6) true (by kernel_rfl) c11 (by kernel_rfl) ?_
              refine R.skp (inR k 3 6) true (by kernel_rfl) c11 (by kernel_rfl) ?_
              refine R.pick (inR k 3 6) false (by kernel_rfl) c11 (by kernel_rfl) ?_
              exact R.go 7 (R.retE (.bool false) (by kernel_rfl) (by kernel_rfl) (by first | (first | rfl | (exfalso; omega) | (apply congrArg AV.bool; simp [inR]; omega) | (exfalso; simp [inR] at *; omega)) | (exfalso; omega)))

theorem isPF1_c (k : Int) (x : Int) (y : Int) (hn : nodT (k, x, y)) : CallA Tryz.prog 127 [.agg [AI k, AI x, AI y]] (.bool false) := by
  refine CallA.of Tryz.func127 rfl (by kernel_rfl) ?_
  refine R.go 8 (R.call true (isPointNode_c k x y hn) (by kernel_rfl) rfl (by kernel_rfl) ?_)
  exact R.go 3 (R.retE (.bool false) (by kernel_rfl) (by kernel_rfl) (by rfl))

theorem indexPF_c (a : List (Int × Int × Int)) (hok : OKP a) (hl : a.length ≤ 1000000000) : CallA Tryz.prog 175 [LT a, .fn 127 []] (AI (-1)) := by
  refine CallA.of Tryz.func175 rfl (by kernel_rfl) ?_
  refine R.go 12 (R.loop (fun (i : Nat) => (⟨(frm 19 [(0, LT a), (1, .fn 127 []), (7, AI a.length), (8, AI (i : Int))]), []⟩ : St)) (fun (i : Nat) => i ≤ a.length) (fun (i : Nat) => a.length - i) 0 [0, 1, 7, 8] none (by kernel_rfl) (by kernel_rfl) (by kernel_rfl) (by omega) ?_)
  rintro i h3_1 R1 N2
  have hnd := fun h : i < a.length => okp_nod hok h
  refine R.go 5 (R.cond ((i : Int) < (a.length : Int)) (by kernel_rfl) (fun c4 => ?_) (fun c4 => ?_))
  · have hnd2 := hnd (by omega)
    refine R.go 13 (R.idx eT a (0, 0, 0) i (i : Int) (by kernel_rfl) rfl eT_len (by omega) (by kernel_rfl) ?_)
    refine R.go 1 (R.call true (isPF1_c ((a.getD i (0, 0, 0)).1) ((a.getD i (0, 0, 0)).2.1) ((a.getD i (0, 0, 0)).2.2) (by first | assumption | exact okp_nod hok (by omega))) (by kernel_rfl) rfl (by kernel_rfl) ?_)
    refine R.go 5 (R.ar ((i : Int) + 1) (by kernel_rfl) (by omega) (by omega) (by kernel_rfl) ?_)
    exact R.go 2 (R.stop R1 (by kernel_rfl) (N2 (i + 1) [0, 1, 7, 8] none _ (by kernel_rfl) (by kernel_rfl) (by omega) (by show (a.length - (i + 1)) < (a.length - i); omega)))
  · exact R.go 5 (R.retE (AI (-1)) (by kernel_rfl) (by kernel_rfl) (by rfl))

theorem containsPF_c (a : List (Int × Int × Int)) (hok : OKP a) (hl : a.length ≤ 1000000000) : CallA Tryz.prog 126 [LT a, .fn 127 []] (.bool false) := by
  refine CallA.of Tryz.func126 rfl (by kernel_rfl) ?_
  refine R.go 8 (R.call true (indexPF_c a hok hl) (by kernel_rfl) rfl (by kernel_rfl) ?_)
  exact R.go 3 (R.retE (.bool false) (by kernel_rfl) (by kernel_rfl) (by rfl))

theorem isPF_c (a : List (Int × Int × Int)) (hok : OKP a) (hl : a.length ≤ 120) : CallA Tryz.prog 65 [LT a] (.bool true) := by
  have hp := okp_pos hok
  have he := okp_end hok
  refine CallA.of Tryz.func65 rfl (by kernel_rfl) ?_
  refine R.go 10 ?_
  by_cases c1 : (a.length : Int) ≥ 1
  · refine R.want (decide ((a.length : Int) ≥ 1)) true (by kernel_rfl) (dT c1) ?_
    refine R.go 1 (R.want (decide ((a.length : Int) ≥ 1)) true (by kernel_rfl) (dT c1) ?_)
    refine R.go 1 (R.want (decide ((a.length : Int) ≥ 1)) true (by kernel_rfl) (dT c1) ?_)
    refine R.go 1 (R.pick (decide ((a.length : Int) ≥ 1)) true (by kernel_rfl) (dT c1) (by kernel_rfl) ?_)
    refine R.go 1 ?_
    by_cases c2 : (a.length : Int) ≤ 120
    · refine R.want (decide ((a.length : Int) ≤ 120)) true (by kernel_rfl) (dT c2) ?_
      refine R.go 1 (R.want (decide ((a.length : Int) ≤ 120)) true (by kernel_rfl) (dT c2) ?_)
      refine R.call true (containsPF_c a hok (by first | omega | (simp <;> omega))) (by kernel_rfl) rfl (by kernel_rfl) ?_
      refine R.want (decide ((a.length : Int) ≤ 120)) true (by kernel_rfl) (dT c2) ?_
      refine R.go 1 (R.pick (decide ((a.length : Int) ≤ 120)) true (by kernel_rfl) (dT c2) (by kernel_rfl) ?_)
      refine R.go 2 (R.call true (pointEnd_c a 0 (by first | omega | (simp <;> omega)) (by first | omega | (simp <;> omega))) (by kernel_rfl) rfl (by kernel_rfl) ?_)
      exact R.go 6 (R.retE (.bool (decide ((peXT 1 a 0) = (a.length : Int)))) (by kernel_rfl) (by kernel_rfl) (by first | (first | rfl | (exfalso; omega) | (apply congrArg AV.bool; first | exact decide_eq_true he | exact decide_eq_true (by omega))) | (exfalso; omega)))
    · refine R.skp (decide ((a.length : Int) ≤ 120)) true (by kernel_rfl) (dF c2) (by kernel_rfl) ?_
      refine R.skp (decide ((a.length : Int) ≤ 120)) true (by kernel_rfl) (dF c2) (by kernel_rfl) ?_
      refine R.skp (decide ((a.length : Int) ≤ 120)) true (by kernel_rfl) (dF c2) (by kernel_rfl) ?_
      refine R.pick (decide ((a.length : Int) ≤ 120)) false (by kernel_rfl) (dF c2) (by kernel_rfl) ?_
      exact R.go 9 (R.retE (.bool false) (by kernel_rfl) (by kernel_rfl) (by first | (first | rfl | (exfalso; omega) | (apply congrArg AV.bool; first | exact decide_eq_true he | exact decide_eq_true (by omega))) | (exfalso; omega)))
  · refine R.skp (decide ((a.length : Int) ≥ 1)) true (by kernel_rfl) (dF c1) (by kernel_rfl) ?_
    refine R.skp (decide ((a.length : Int) ≥ 1)) true (by kernel_rfl) (dF c1) (by kernel_rfl) ?_
    refine R.skp (decide ((a.length : Int) ≥ 1)) true (by kernel_rfl) (dF c1) (by kernel_rfl) ?_
    refine R.pick (decide ((a.length : Int) ≥ 1)) false (by kernel_rfl) (dF c1) (by kernel_rfl) ?_
    exact R.go 14 (R.retE (.bool false) (by kernel_rfl) (by kernel_rfl) (by first | (first | rfl | (exfalso; omega) | (apply congrArg AV.bool; first | exact decide_eq_true he | exact decide_eq_true (by omega))) | (exfalso; omega)))

theorem IPF_c (a : List (Int × Int × Int)) (hok : OKP a) (hl : a.length ≤ 120) : CallA Tryz.prog 24 [LT a] (.bool true) := by
  refine CallA.of Tryz.func24 rfl (by kernel_rfl) ?_
  refine R.go 7 (R.call true (isPF_c a hok hl) (by kernel_rfl) rfl (by kernel_rfl) ?_)
  exact R.go 2 (R.retE (.bool true) (by kernel_rfl) (by kernel_rfl) (by rfl))

end Go.Proofs.YtgebepfdphmjcaaGreat


/-! Calls that need no object of the caller's, beside any objects. -/
namespace Go.Abs
open Go.RowKit

theorem zone_two {Z0 F F1 : Nat → Prop} {B C : Nat} (hBC : B ≤ C) (hF : ∀ b, F b → B ≤ b ∧ b < C) (hF1 : ∀ b, F1 b → C ≤ b) (b : Nat) : Zone Z0 (fun b => F b ∨ F1 b) B b ↔ Zone (Zone Z0 F B) F1 C b := by
  unfold Zone
  constructor
  · rintro (⟨h1, h2⟩ | ⟨h1, h2⟩)
    · exact .inl ⟨by omega, .inl ⟨h1, h2⟩⟩
    · rcases Nat.lt_or_ge b C with h | h
      · exact .inl ⟨h, .inr ⟨h1, fun hf => h2 (.inl hf)⟩⟩
      · exact .inr ⟨h, fun hf => h2 (.inr hf)⟩
  · rintro (⟨h1, h2 | h2⟩ | ⟨h1, h2⟩)
    · exact .inl h2
    · refine .inr ⟨h2.1, ?_⟩
      rintro (hf | hf)
      · exact h2.2 hf
      · have := hF1 b hf; omega
    · refine .inr ⟨by omega, ?_⟩
      rintro (hf | hf)
      · have := hF b hf; omega
      · exact h2 hf

section
variable {rd : Option Nat} {P : Program} {m : M} {Q : Exit → St → Prop}
theorem CallX.any {f : FuncId} {args : List AV} {Φ : AV → List AObj → Prop} (hp : List AObj) (hc : CallX P f args [] Φ) (hl : leafyL args = true) (hΦ : ∀ r h, Φ r h → h = []) : CallX P f args hp fun r h => h = hp ∧ Φ r [] := by
  obtain ⟨hen, hc⟩ := hc
  refine ⟨hen, ?_⟩
  intro Z0 F w0 w μ vs us fr hFb hH hvs hus hbel
  have hBC := hbel.size
  have zn : ∀ b, b < w.heap.size → (Zone (Zone Z0 F w0.heap.size) NoF w.heap.size b ↔ Zone Z0 F w0.heap.size b) := fun b hb => by
    unfold Zone NoF
    constructor
    · rintro (h | h)
      · exact h.2
      · omega
    · exact fun h => .inl ⟨hb, h⟩
  have hvs1 : RelL w (Zone (Zone Z0 F w0.heap.size) NoF w.heap.size) [] args vs := (RelL.leafy hl hvs).weak fun b hb h1 h2 => h1 ((zn b hb).1 h2)
  have h0 : HRel w (Zone (Zone Z0 F w0.heap.size) NoF w.heap.size) w.heap.size [] [] := ⟨rfl, fun i o u g h => by simp at h, fun i u h => by simp at h, fun i o u h => by simp at h, fun i j oi oj ui uj g _ h => by simp at h⟩
  refine (hc (Zone Z0 F w0.heap.size) NoF w w [] vs [] [] (fun b h => h.elim) h0 hvs1 RelL.nil (Below.refl _ _)).mono ?_
  rintro e w' ⟨v, μ', F1, res, hp', hΦ1, rfl, hF1, hH1, hres, _, hb1⟩
  have e1 := hΦ _ _ hΦ1
  subst e1
  have hm' : μ' = [] := List.eq_nil_of_length_eq_zero (by simpa using hH1.len)
  subst hm'
  have z2 := zone_two (Z0 := Z0) hBC hFb (fun b h => (hF1 b h).1)
  have hk : ∀ b, b < w.heap.size → w'.heap[b]? = w.heap[b]? := fun b hb => hb1.block b hb
  have hold : ∀ b, b < w'.heap.size → ¬ Zone Z0 F w0.heap.size b → ¬ Zone Z0 (fun b => F b ∨ F1 b) w0.heap.size b := by
    intro b _ h1 h2
    rcases Nat.lt_or_ge b w.heap.size with h | h
    · rcases (z2 b).1 h2 with h3 | h3
      · exact h1 h3.2
      · omega
    · exact h1 (.inr ⟨by omega, fun hf => by have := hFb b hf; omega⟩)
  refine ⟨v, μ, fun b => F b ∨ F1 b, res, hp, ⟨rfl, hΦ1⟩, rfl, ?_, ?_, ?_, ?_, hbel.trans (hb1.mono hBC)⟩
  · rintro b (h | h)
    · have := hFb b h; have := hb1.size; omega
    · have := hF1 b h; omega
  · refine ⟨hH.len, fun i o u g h1 ha h2 hg => ?_, hH.one, fun i o u h1 h2 => ?_, hH.sep⟩
    · have hz := hH.zone i o u g h1 ha h2 hg
      have hlt := ((hH.obj i o u h1 h2).blk_ge ha hg).2
      exact (z2 g).2 (.inl ⟨hlt, hz⟩)
    · have h3 := hH.obj i o u h1 h2
      cases ha : o.alive with
      | true => exact (h3.keep (w' := w') (fun b hb _ => hk b hb) (fun _ _ h => h) (fun g hg => hk g (h3.blk_ge ha hg).2)).weak hold
      | false => exact (h3.keep_dead (w' := w') (B' := w0.heap.size) (u' := u) (fun b hb _ => hk b hb) (fun _ _ h => h) ha).weak hold
  · exact Rel.lift (hres.weak fun b _ h1 h2 => h1 ((z2 b).1 h2))
  · exact (hus.keep (w' := w') (fun b hb _ => hk b hb) (fun _ _ h => h)).weak hold

theorem R.callX0 {f : FuncId} {avs : List AV} {Φ : AV → List AObj → Prop} (hc : CallX P f avs [] Φ) (hl : leafyL avs = true) (h0 : ∀ r h, Φ r h → h = []) (h : csAt m = some (f, avs)) (ht : opsHd m = true) (h' : ∀ res, Φ res [] → Runs rd P (putM m none res m.st.hp) Q) : Runs rd P m Q :=
  R.callX (hc.any m.st.hp hl h0) h rfl ht fun res hp' ⟨e, hΦ⟩ => by subst e; exact h' res hΦ
end
end Go.Abs


/-! Ways that meet again in a family of states. -/
namespace Go.Abs
open Go.RowKit Go.ChangeShapes Go.WideShapes Go.Deep
section
variable {rd : Option Nat} {P : Program} {m : M} {Q : Exit → St → Prop}
def meetQF {α : Type} (I : α → Prop) (S : α → St) : Exit → St → Prop := fun e st => e = .normal ∧ ∃ a, I a ∧ st = S a
theorem np_meetF {α : Type} (I : α → Prop) (S : α → St) : NoPanic (meetQF I S) := fun _ _ h => by simp [meetQF] at h
theorem R.meetF {α : Type} (I : α → Prop) (S : α → St) (h : mtAt m = true) (h1 : Runs rd P ⟨m.ks.take 1, m.st⟩ (meetQF I S)) (h2 : ∀ a, I a → Runs rd P ⟨m.ks.tail, S a⟩ Q) : Runs rd P m Q := by
  obtain ⟨ks, st⟩ := m
  unfold mtAt at h
  simp only [runs_iff] at h h1 h2 ⊢
  split at h
  · rename_i c ks'
    simp only [List.take_succ_cons, List.take_zero, List.tail_cons, RunsK] at h1 h2 ⊢
    refine h1.mono ?_
    rintro e st' ⟨rfl, a, ha, rfl⟩
    exact h2 a ha
  · cases h
theorem R.metF {α : Type} {I : α → Prop} {S : α → St} (a : α) (h : m.ks = []) (hi : I a) (hs : m.st = S a) : Runs rd P m (meetQF I S) := by
  obtain ⟨ks, st⟩ := m
  simp only at h hs
  subst h hs
  rw [runs_iff]
  exact ⟨rfl, a, hi, rfl⟩
end
end Go.Abs


/-! Point formulas in models: what the program computes. -/
namespace Go.Proofs.YtgebepfdphmjcaaGreat
open Go.RowKit Go.Abs

section
variable {n : Int} {xs vs ws : List Int} {a : List (Int × Int × Int)}
theorem qu_hit {v : Nat} (hok : OKP a) (h1 : (a.getD 0 (0, 0, 0)).1 = 7 ∨ (a.getD 0 (0, 0, 0)).1 = 8) (hv : (v : Int) < n) (h : (evL n xs vs (a.drop 1) (ws.set (a.getD 0 (0, 0, 0)).2.1.toNat (v : Int)) == decide ((a.getD 0 (0, 0, 0)).1 = 8)) = true) : decide ((a.getD 0 (0, 0, 0)).1 = 8) = evL n xs vs a ws := by
  rw [beq_iff_eq] at h
  rw [ev_qu hok ((ptN_one _).2 h1)]
  by_cases e : (a.getD 0 (0, 0, 0)).1 = 8
  · rw [if_neg (by omega), decide_eq_true e]
    rw [decide_eq_true e] at h
    exact (List.any_eq_true.2 ⟨v, List.mem_range.2 (by omega), h⟩).symm
  · rw [if_pos (by omega), decide_eq_false e]
    rw [decide_eq_false e] at h
    exact (List.all_eq_false.2 ⟨v, List.mem_range.2 (by omega), by rw [h]; decide⟩).symm
theorem qu_miss {v : Nat} (hok : OKP a) (h1 : (a.getD 0 (0, 0, 0)).1 = 7 ∨ (a.getD 0 (0, 0, 0)).1 = 8) (h0 : 0 ≤ n) (hv : ¬ (v : Int) < n) (h : ∀ u : Nat, u < v → evL n xs vs (a.drop 1) (ws.set (a.getD 0 (0, 0, 0)).2.1.toNat (u : Int)) = !decide ((a.getD 0 (0, 0, 0)).1 = 8)) : (!decide ((a.getD 0 (0, 0, 0)).1 = 8)) = evL n xs vs a ws := by
  rw [ev_qu hok ((ptN_one _).2 h1)]
  by_cases e : (a.getD 0 (0, 0, 0)).1 = 8
  · rw [if_neg (by omega), decide_eq_true e]
    symm
    rw [Bool.not_true, List.any_eq_false]
    intro u hu
    rw [h u (by have := List.mem_range.1 hu; omega), decide_eq_true e]
    decide
  · rw [if_pos (by omega), decide_eq_false e]
    symm
    rw [Bool.not_false, List.all_eq_true]
    intro u hu
    rw [h u (by have := List.mem_range.1 hu; omega), decide_eq_false e]
    rfl
theorem qu_next {v : Nat} {b : Bool} {p : Nat → Bool} (h : ∀ u : Nat, u < v → p u = !b) (h2 : (p v == b) = false) : ∀ u : Nat, u < v + 1 → p u = !b := fun u hu => by
  by_cases e : u = v
  · subst e
    cases hb : b <;> cases hp : p u <;> simp_all
  · exact h u (by omega)
def WS (n : Int) (ws : List Int) : Prop := ws.length = 10 ∧ ∀ j : Nat, j < 10 → 0 ≤ ws.getD j 0 ∧ ws.getD j 0 < n
theorem ws_set {x : Nat} {v : Int} (h : WS n ws) (h0 : 0 ≤ v) (h1 : v < n) : WS n (ws.set x v) := by
  refine ⟨by rw [List.length_set]; exact h.1, fun j hj => ?_⟩
  by_cases hx : x < ws.length
  · rw [getD_set_if _ _ _ _ _ hx]
    split
    · exact ⟨h0, h1⟩
    · exact h.2 j hj
  · rw [List.set_eq_of_length_le (by omega)]; exact h.2 j hj
theorem set_same {Z : List Int} {x : Nat} {v : Int} (h : ∀ q : Int, Z.set x q = ws.set x q) : ∀ q : Int, (Z.set x v).set x q = ws.set x q := fun q => by
  rw [List.set_set, h q]
theorem prt0 (hok : OKP a) (h1 : ptN (a.getD 0 (0, 0, 0)).1 = 1) : (prtsT a).getD 0 [] = a.drop 1 ∧ (prtsT a).length = 1 ∧ OKP (a.drop 1) := by
  obtain ⟨o, e⟩ := okp_one hok h1
  rw [e]; exact ⟨rfl, rfl, o⟩
theorem prt2 (hok : OKP a) (h2 : ptN (a.getD 0 (0, 0, 0)).1 = 2) : (prtsT a).getD 0 [] = lefT a ∧ (prtsT a).getD 1 [] = rigT a ∧ (prtsT a).length = 2 ∧ OKP (lefT a) ∧ OKP (rigT a) ∧ (lefT a).length < a.length ∧ (rigT a).length < a.length := by
  obtain ⟨o1, o2, hl, _, e⟩ := okp_two hok h2
  have p1 := okp_pos o1
  have p2 := okp_pos o2
  rw [e]; exact ⟨rfl, rfl, rfl, o1, o2, by omega, by omega⟩
end

theorem seesT_c (n : Int) (xs : List Int) (x : Int) (y : Int) (h0 : 0 ≤ x) (hx : x < xs.length) (hy : 0 ≤ y) : CallA Tryz.prog 133 [.agg [AI n, LI xs], AI x, AI y] (.bool (decide (band (shr64 (xs.getD x.toNat 0) y) 1 = 1))) := by
  refine CallA.of Tryz.func133 rfl (by kernel_rfl) ?_
  refine R.go 10 (R.idx eI xs 0 ((x).toNat) x (by kernel_rfl) (by omega) eI_len (by omega) (by kernel_rfl) ?_)
  refine R.go 2 (R.call true (has_c (xs.getD ((x).toNat) 0) y hy) (by kernel_rfl) rfl (by kernel_rfl) ?_)
  exact R.go 2 (R.retE (.bool (decide (band (shr64 (xs.getD ((x).toNat) 0) y) 1 = 1))) (by kernel_rfl) (by kernel_rfl) (by first | (rfl) | (exfalso; omega)))

theorem holds_c : ∀ (k : Nat) (n : Int) (xs : List Int) (vs : List Int) (a : List (Int × Int × Int)) (ws : List Int) (hk : a.length = k) (hok : OKP a) (hM : 0 ≤ n ∧ n ≤ 8 ∧ (xs.length : Int) = n ∧ vs.length = 6) (hw : WS n ws) (hl : a.length ≤ 1000), CallA Tryz.prog 70 [.agg [AI n, LI xs, LI vs], LT a, LI ws] (.bool (evL n xs vs a ws)) := by
  intro k
  induction k using Nat.strongRecOn with
  | _ k ih =>
  intro n xs vs a ws hk hok hM hw hl
  have hp := okp_pos hok
  have hh := okp_head hok
  have hwl := hw.1
  have hwg := hw.2
  refine CallA.of Tryz.func70 rfl (by kernel_rfl) ?_
  refine R.go 8 (R.idx eT a (0, 0, 0) 0 0 (by kernel_rfl) rfl eT_len (by first | omega | (rw [hb1]; omega) | (rw [hb2]; omega) | (rw [hz0, List.length_drop]; omega)) (by kernel_rfl) ?_)
  refine R.go 2 (R.call true (below_c a hok (by first | omega | (rw [hb1]; omega) | (rw [hb2]; omega) | (rw [hz0, List.length_drop]; omega))).frz (by kernel_rfl) rfl (by kernel_rfl) ?_)
  refine R.go 16 (R.cond (((a.getD 0 (0, 0, 0)).1) = 0) (by kernel_rfl) (fun c1 => ?_) (fun c1 => ?_))
  · have hx1 := hwg (a.getD 0 (0, 0, 0)).2.1.toNat (by omega)
    have hx2 := hwg (a.getD 0 (0, 0, 0)).2.2.toNat (by omega)
    refine R.go 7 (R.idx eI ws 0 (((a.getD 0 (0, 0, 0)).2.1).toNat) ((a.getD 0 (0, 0, 0)).2.1) (by kernel_rfl) (by first | omega | (rw [hb1]; omega) | (rw [hb2]; omega) | (rw [hz0, List.length_drop]; omega)) eI_len (by first | omega | (rw [hb1]; omega) | (rw [hb2]; omega) | (rw [hz0, List.length_drop]; omega)) (by kernel_rfl) ?_)
    refine R.go 4 (R.idx eI ws 0 (((a.getD 0 (0, 0, 0)).2.2).toNat) ((a.getD 0 (0, 0, 0)).2.2) (by kernel_rfl) (by first | omega | (rw [hb1]; omega) | (rw [hb2]; omega) | (rw [hz0, List.length_drop]; omega)) eI_len (by first | omega | (rw [hb1]; omega) | (rw [hb2]; omega) | (rw [hz0, List.length_drop]; omega)) (by kernel_rfl) ?_)
    refine R.go 1 (R.call true (seesT_c n xs (ws.getD (((a.getD 0 (0, 0, 0)).2.1).toNat) 0) (ws.getD (((a.getD 0 (0, 0, 0)).2.2).toNat) 0) (by first | omega | (rw [hb1]; omega) | (rw [hb2]; omega) | (rw [hz0, List.length_drop]; omega)) (by first | omega | (rw [hb1]; omega) | (rw [hb2]; omega) | (rw [hz0, List.length_drop]; omega)) (by first | omega | (rw [hb1]; omega) | (rw [hb2]; omega) | (rw [hz0, List.length_drop]; omega))) (by kernel_rfl) rfl (by kernel_rfl) ?_)
    exact R.go 2 (R.retE (.bool (decide (band (shr64 (xs.getD (ws.getD (((a.getD 0 (0, 0, 0)).2.1).toNat) 0).toNat 0) (ws.getD (((a.getD 0 (0, 0, 0)).2.2).toNat) 0)) 1 = 1))) (by kernel_rfl) (by kernel_rfl) (by first | (first | (apply congrArg AV.bool; rw [ev_at hok (by omega), PF.ev]; first | (rw [if_pos (by assumption)]; done) | (rw [if_neg (by omega), if_pos (by assumption)]; done) | (rw [if_neg (by omega), if_neg (by omega), if_pos (by assumption)]; done) | (rw [if_neg (by omega), if_neg (by omega), if_neg (by omega)]; done)) | (apply congrArg AV.bool; rw [ev_bi hok ((ptN_two _).2 (by omega)), ← hb1, ← hb2]; clear hb1 hb2 hb3 hb4 hb5 hb6 hb7; generalize evL n xs vs ((prtsT a).getD 0 []) ws = A at *; generalize evL n xs vs ((prtsT a).getD 1 []) ws = B at *; first | (rw [if_pos (by assumption)]; cases A <;> cases B <;> simp_all; done) | (rw [if_neg (by omega), if_pos (by assumption)]; cases A <;> cases B <;> simp_all; done) | (rw [if_neg (by omega), if_neg (by omega)]; cases A <;> cases B <;> simp_all; done)) | (apply congrArg AV.bool; exact qu_hit hok h78 (by assumption) (by rw [← hz0, ← (by assumption : ∀ q : Int, Z.set (a.getD 0 (0, 0, 0)).2.1.toNat q = ws.set (a.getD 0 (0, 0, 0)).2.1.toNat q)]; assumption)) | (apply congrArg AV.bool; exact qu_miss hok h78 hM.1 (by assumption) (by assumption))) | (exfalso; omega)))
  · refine R.go 5 (R.cond (((a.getD 0 (0, 0, 0)).1) = 1) (by kernel_rfl) (fun c2 => ?_) (fun c2 => ?_))
    · have hx1 := hwg (a.getD 0 (0, 0, 0)).2.1.toNat (by omega)
      refine R.go 5 (R.idx eI ws 0 (((a.getD 0 (0, 0, 0)).2.1).toNat) ((a.getD 0 (0, 0, 0)).2.1) (by kernel_rfl) (by first | omega | (rw [hb1]; omega) | (rw [hb2]; omega) | (rw [hz0, List.length_drop]; omega)) eI_len (by first | omega | (rw [hb1]; omega) | (rw [hb2]; omega) | (rw [hz0, List.length_drop]; omega)) (by kernel_rfl) ?_)
      refine R.go 4 (R.idx eI ws 0 (((a.getD 0 (0, 0, 0)).2.2).toNat) ((a.getD 0 (0, 0, 0)).2.2) (by kernel_rfl) (by first | omega | (rw [hb1]; omega) | (rw [hb2]; omega) | (rw [hz0, List.length_drop]; omega)) eI_len (by first | omega | (rw [hb1]; omega) | (rw [hb2]; omega) | (rw [hz0, List.length_drop]; omega)) (by kernel_rfl) ?_)
      exact R.go 4 (R.retE (.bool (decide ((ws.getD (((a.getD 0 (0, 0, 0)).2.1).toNat) 0) = (ws.getD (((a.getD 0 (0, 0, 0)).2.2).toNat) 0)))) (by kernel_rfl) (by kernel_rfl) (by first | (first | (apply congrArg AV.bool; rw [ev_at hok (by omega), PF.ev]; first | (rw [if_pos (by assumption)]; done) | (rw [if_neg (by omega), if_pos (by assumption)]; done) | (rw [if_neg (by omega), if_neg (by omega), if_pos (by assumption)]; done) | (rw [if_neg (by omega), if_neg (by omega), if_neg (by omega)]; done)) | (apply congrArg AV.bool; rw [ev_bi hok ((ptN_two _).2 (by omega)), ← hb1, ← hb2]; clear hb1 hb2 hb3 hb4 hb5 hb6 hb7; generalize evL n xs vs ((prtsT a).getD 0 []) ws = A at *; generalize evL n xs vs ((prtsT a).getD 1 []) ws = B at *; first | (rw [if_pos (by assumption)]; cases A <;> cases B <;> simp_all; done) | (rw [if_neg (by omega), if_pos (by assumption)]; cases A <;> cases B <;> simp_all; done) | (rw [if_neg (by omega), if_neg (by omega)]; cases A <;> cases B <;> simp_all; done)) | (apply congrArg AV.bool; exact qu_hit hok h78 (by assumption) (by rw [← hz0, ← (by assumption : ∀ q : Int, Z.set (a.getD 0 (0, 0, 0)).2.1.toNat q = ws.set (a.getD 0 (0, 0, 0)).2.1.toNat q)]; assumption)) | (apply congrArg AV.bool; exact qu_miss hok h78 hM.1 (by assumption) (by assumption))) | (exfalso; omega)))
    · refine R.go 5 (R.cond (((a.getD 0 (0, 0, 0)).1) = 2) (by kernel_rfl) (fun c3 => ?_) (fun c3 => ?_))
      · have hx2 := hwg (a.getD 0 (0, 0, 0)).2.2.toNat (by omega)
        refine R.go 6 (R.idx eI vs 0 (((a.getD 0 (0, 0, 0)).2.1).toNat) ((a.getD 0 (0, 0, 0)).2.1) (by kernel_rfl) (by first | omega | (rw [hb1]; omega) | (rw [hb2]; omega) | (rw [hz0, List.length_drop]; omega)) eI_len (by first | omega | (rw [hb1]; omega) | (rw [hb2]; omega) | (rw [hz0, List.length_drop]; omega)) (by kernel_rfl) ?_)
        refine R.go 4 (R.idx eI ws 0 (((a.getD 0 (0, 0, 0)).2.2).toNat) ((a.getD 0 (0, 0, 0)).2.2) (by kernel_rfl) (by first | omega | (rw [hb1]; omega) | (rw [hb2]; omega) | (rw [hz0, List.length_drop]; omega)) eI_len (by first | omega | (rw [hb1]; omega) | (rw [hb2]; omega) | (rw [hz0, List.length_drop]; omega)) (by kernel_rfl) ?_)
        refine R.go 1 (R.call true (has_c (vs.getD (((a.getD 0 (0, 0, 0)).2.1).toNat) 0) (ws.getD (((a.getD 0 (0, 0, 0)).2.2).toNat) 0) (by first | omega | (rw [hb1]; omega) | (rw [hb2]; omega) | (rw [hz0, List.length_drop]; omega))) (by kernel_rfl) rfl (by kernel_rfl) ?_)
        exact R.go 2 (R.retE (.bool (decide (band (shr64 (vs.getD (((a.getD 0 (0, 0, 0)).2.1).toNat) 0) (ws.getD (((a.getD 0 (0, 0, 0)).2.2).toNat) 0)) 1 = 1))) (by kernel_rfl) (by kernel_rfl) (by first | (first | (apply congrArg AV.bool; rw [ev_at hok (by omega), PF.ev]; first | (rw [if_pos (by assumption)]; done) | (rw [if_neg (by omega), if_pos (by assumption)]; done) | (rw [if_neg (by omega), if_neg (by omega), if_pos (by assumption)]; done) | (rw [if_neg (by omega), if_neg (by omega), if_neg (by omega)]; done)) | (apply congrArg AV.bool; rw [ev_bi hok ((ptN_two _).2 (by omega)), ← hb1, ← hb2]; clear hb1 hb2 hb3 hb4 hb5 hb6 hb7; generalize evL n xs vs ((prtsT a).getD 0 []) ws = A at *; generalize evL n xs vs ((prtsT a).getD 1 []) ws = B at *; first | (rw [if_pos (by assumption)]; cases A <;> cases B <;> simp_all; done) | (rw [if_neg (by omega), if_pos (by assumption)]; cases A <;> cases B <;> simp_all; done) | (rw [if_neg (by omega), if_neg (by omega)]; cases A <;> cases B <;> simp_all; done)) | (apply congrArg AV.bool; exact qu_hit hok h78 (by assumption) (by rw [← hz0, ← (by assumption : ∀ q : Int, Z.set (a.getD 0 (0, 0, 0)).2.1.toNat q = ws.set (a.getD 0 (0, 0, 0)).2.1.toNat q)]; assumption)) | (apply congrArg AV.bool; exact qu_miss hok h78 hM.1 (by assumption) (by assumption))) | (exfalso; omega)))
      · refine R.go 5 (R.cond (((a.getD 0 (0, 0, 0)).1) = 3) (by kernel_rfl) (fun c4 => ?_) (fun c4 => ?_))
        · exact R.go 4 (R.retE (.bool false) (by kernel_rfl) (by kernel_rfl) (by first | (first | (apply congrArg AV.bool; rw [ev_at hok (by omega), PF.ev]; first | (rw [if_pos (by assumption)]; done) | (rw [if_neg (by omega), if_pos (by assumption)]; done) | (rw [if_neg (by omega), if_neg (by omega), if_pos (by assumption)]; done) | (rw [if_neg (by omega), if_neg (by omega), if_neg (by omega)]; done)) | (apply congrArg AV.bool; rw [ev_bi hok ((ptN_two _).2 (by omega)), ← hb1, ← hb2]; clear hb1 hb2 hb3 hb4 hb5 hb6 hb7; generalize evL n xs vs ((prtsT a).getD 0 []) ws = A at *; generalize evL n xs vs ((prtsT a).getD 1 []) ws = B at *; first | (rw [if_pos (by assumption)]; cases A <;> cases B <;> simp_all; done) | (rw [if_neg (by omega), if_pos (by assumption)]; cases A <;> cases B <;> simp_all; done) | (rw [if_neg (by omega), if_neg (by omega)]; cases A <;> cases B <;> simp_all; done)) | (apply congrArg AV.bool; exact qu_hit hok h78 (by assumption) (by rw [← hz0, ← (by assumption : ∀ q : Int, Z.set (a.getD 0 (0, 0, 0)).2.1.toNat q = ws.set (a.getD 0 (0, 0, 0)).2.1.toNat q)]; assumption)) | (apply congrArg AV.bool; exact qu_miss hok h78 hM.1 (by assumption) (by assumption))) | (exfalso; omega)))
        · refine R.go 5 (R.cond (((a.getD 0 (0, 0, 0)).1) = 4) (by kernel_rfl) (fun c5 => ?_) (fun c5 => ?_))
          · obtain ⟨hb1, hb2, hb3, hb4, hb5, hb6, hb7⟩ := prt2 hok ((ptN_two _).2 (by omega))
            refine R.go 4 (R.idx eLT (prtsT a) [] 0 0 (by kernel_rfl) rfl eLT_len (by first | omega | (rw [hb1]; omega) | (rw [hb2]; omega) | (rw [hz0, List.length_drop]; omega)) (by kernel_rfl) ?_)
            refine R.go 2 (R.call true (ih ((((prtsT a).getD 0 []) : List (Int × Int × Int)).length) (by first | omega | (rw [hb1]; omega) | (rw [hb2]; omega) | (rw [hz0, List.length_drop]; omega)) n xs vs ((prtsT a).getD 0 []) ws (by first | rfl | simp) (by first | assumption | (rw [hz0]; exact hz3) | (rw [hb1]; exact hb4) | (rw [hb2]; exact hb5)) hM hw (by first | omega | (rw [hb1]; omega) | (rw [hb2]; omega) | (rw [hz0, List.length_drop]; omega))) (by kernel_rfl) rfl (by kernel_rfl) ?_)
            refine R.go 1 ?_
            refine (Bool.eq_false_or_eq_true (evL n xs vs ((prtsT a).getD 0 []) ws)).elim (fun c6 => ?_) (fun c6 => ?_)
            · refine R.want (evL n xs vs ((prtsT a).getD 0 []) ws) true (by kernel_rfl) c6 ?_
              refine R.go 1 (R.want (evL n xs vs ((prtsT a).getD 0 []) ws) true (by kernel_rfl) c6 ?_)
              refine R.go 1 (R.want (evL n xs vs ((prtsT a).getD 0 []) ws) true (by kernel_rfl) c6 ?_)
              refine R.idx eLT (prtsT a) [] 1 1 (by kernel_rfl) rfl eLT_len (by first | omega | (rw [hb1]; omega) | (rw [hb2]; omega) | (rw [hz0, List.length_drop]; omega)) (by kernel_rfl) ?_
              refine R.want (evL n xs vs ((prtsT a).getD 0 []) ws) true (by kernel_rfl) c6 ?_
              refine R.go 1 (R.want (evL n xs vs ((prtsT a).getD 0 []) ws) true (by kernel_rfl) c6 ?_)
              refine R.go 1 (R.want (evL n xs vs ((prtsT a).getD 0 []) ws) true (by kernel_rfl) c6 ?_)
              refine R.call true (ih ((((prtsT a).getD 1 []) : List (Int × Int × Int)).length) (by first | omega | (rw [hb1]; omega) | (rw [hb2]; omega) | (rw [hz0, List.length_drop]; omega)) n xs vs ((prtsT a).getD 1 []) ws (by first | rfl | simp) (by first | assumption | (rw [hz0]; exact hz3) | (rw [hb1]; exact hb4) | (rw [hb2]; exact hb5)) hM hw (by first | omega | (rw [hb1]; omega) | (rw [hb2]; omega) | (rw [hz0, List.length_drop]; omega))) (by kernel_rfl) rfl (by kernel_rfl) ?_
              refine R.pick (evL n xs vs ((prtsT a).getD 0 []) ws) true (by kernel_rfl) c6 (by kernel_rfl) ?_
              exact R.go 2 (R.retE (.bool (evL n xs vs ((prtsT a).getD 1 []) ws)) (by kernel_rfl) (by kernel_rfl) (by first | (first | (apply congrArg AV.bool; rw [ev_at hok (by omega), PF.ev]; first | (rw [if_pos (by assumption)]; done) | (rw [if_neg (by omega), if_pos (by assumption)]; done) | (rw [if_neg (by omega), if_neg (by omega), if_pos (by assumption)]; done) | (rw [if_neg (by omega), if_neg (by omega), if_neg (by omega)]; done)) | (apply congrArg AV.bool; rw [ev_bi hok ((ptN_two _).2 (by omega)), ← hb1, ← hb2]; clear hb1 hb2 hb3 hb4 hb5 hb6 hb7; generalize evL n xs vs ((prtsT a).getD 0 []) ws = A at *; generalize evL n xs vs ((prtsT a).getD 1 []) ws = B at *; first | (rw [if_pos (by assumption)]; cases A <;> cases B <;> simp_all; done) | (rw [if_neg (by omega), if_pos (by assumption)]; cases A <;> cases B <;> simp_all; done) | (rw [if_neg (by omega), if_neg (by omega)]; cases A <;> cases B <;> simp_all; done)) | (apply congrArg AV.bool; exact qu_hit hok h78 (by assumption) (by rw [← hz0, ← (by assumption : ∀ q : Int, Z.set (a.getD 0 (0, 0, 0)).2.1.toNat q = ws.set (a.getD 0 (0, 0, 0)).2.1.toNat q)]; assumption)) | (apply congrArg AV.bool; exact qu_miss hok h78 hM.1 (by assumption) (by assumption))) | (exfalso; omega)))
            · refine R.skp (evL n xs vs ((prtsT a).getD 0 []) ws) true (by kernel_rfl) c6 (by kernel_rfl) ?_
              refine R.skp (evL n xs vs ((prtsT a).getD 0 []) ws) true (by kernel_rfl) c6 (by kernel_rfl) ?_
              refine R.skp (evL n xs vs ((prtsT a).getD 0 []) ws) true (by kernel_rfl) c6 (by kernel_rfl) ?_
              refine R.skp (evL n xs vs ((prtsT a).getD 0 []) ws) true (by kernel_rfl) c6 (by kernel_rfl) ?_
              refine R.skp (evL n xs vs ((prtsT a).getD 0 []) ws) true (by kernel_rfl) c6 (by kernel_rfl) ?_
              refine R.skp (evL n xs vs ((prtsT a).getD 0 []) ws) true (by kernel_rfl) c6 (by kernel_rfl) ?_
              refine R.pick (evL n xs vs ((prtsT a).getD 0 []) ws) false (by kernel_rfl) c6 (by kernel_rfl) ?_
              exact R.go 2 (R.retE (.bool false) (by kernel_rfl) (by kernel_rfl) (by first | (first | (apply congrArg AV.bool; rw [ev_at hok (by omega), PF.ev]; first | (rw [if_pos (by assumption)]; done) | (rw [if_neg (by omega), if_pos (by assumption)]; done) | (rw [if_neg (by omega), if_neg (by omega), if_pos (by assumption)]; done) | (rw [if_neg (by omega), if_neg (by omega), if_neg (by omega)]; done)) | (apply congrArg AV.bool; rw [ev_bi hok ((ptN_two _).2 (by omega)), ← hb1, ← hb2]; clear hb1 hb2 hb3 hb4 hb5 hb6 hb7; generalize evL n xs vs ((prtsT a).getD 0 []) ws = A at *; generalize evL n xs vs ((prtsT a).getD 1 []) ws = B at *; first | (rw [if_pos (by assumption)]; cases A <;> cases B <;> simp_all; done) | (rw [if_neg (by omega), if_pos (by assumption)]; cases A <;> cases B <;> simp_all; done) | (rw [if_neg (by omega), if_neg (by omega)]; cases A <;> cases B <;> simp_all; done)) | (apply congrArg AV.bool; exact qu_hit hok h78 (by assumption) (by rw [← hz0, ← (by assumption : ∀ q : Int, Z.set (a.getD 0 (0, 0, 0)).2.1.toNat q = ws.set (a.getD 0 (0, 0, 0)).2.1.toNat q)]; assumption)) | (apply congrArg AV.bool; exact qu_miss hok h78 hM.1 (by assumption) (by assumption))) | (exfalso; omega)))
          · refine R.go 5 (R.cond (((a.getD 0 (0, 0, 0)).1) = 5) (by kernel_rfl) (fun c7 => ?_) (fun c7 => ?_))
            · obtain ⟨hb1, hb2, hb3, hb4, hb5, hb6, hb7⟩ := prt2 hok ((ptN_two _).2 (by omega))
              refine R.go 4 (R.idx eLT (prtsT a) [] 0 0 (by kernel_rfl) rfl eLT_len (by first | omega | (rw [hb1]; omega) | (rw [hb2]; omega) | (rw [hz0, List.length_drop]; omega)) (by kernel_rfl) ?_)
              refine R.go 2 (R.call true (ih ((((prtsT a).getD 0 []) : List (Int × Int × Int)).length) (by first | omega | (rw [hb1]; omega) | (rw [hb2]; omega) | (rw [hz0, List.length_drop]; omega)) n xs vs ((prtsT a).getD 0 []) ws (by first | rfl | simp) (by first | assumption | (rw [hz0]; exact hz3) | (rw [hb1]; exact hb4) | (rw [hb2]; exact hb5)) hM hw (by first | omega | (rw [hb1]; omega) | (rw [hb2]; omega) | (rw [hz0, List.length_drop]; omega))) (by kernel_rfl) rfl (by kernel_rfl) ?_)
              refine R.go 1 ?_
              refine (Bool.eq_false_or_eq_true (evL n xs vs ((prtsT a).getD 0 []) ws)).elim (fun c8 => ?_) (fun c8 => ?_)
              · refine R.skp (evL n xs vs ((prtsT a).getD 0 []) ws) false (by kernel_rfl) c8 (by kernel_rfl) ?_
                refine R.skp (evL n xs vs ((prtsT a).getD 0 []) ws) false (by kernel_rfl) c8 (by kernel_rfl) ?_
                refine R.skp (evL n xs vs ((prtsT a).getD 0 []) ws) false (by kernel_rfl) c8 (by kernel_rfl) ?_
                refine R.skp (evL n xs vs ((prtsT a).getD 0 []) ws) false (by kernel_rfl) c8 (by kernel_rfl) ?_
                refine R.skp (evL n xs vs ((prtsT a).getD 0 []) ws) false (by kernel_rfl) c8 (by kernel_rfl) ?_
                refine R.skp (evL n xs vs ((prtsT a).getD 0 []) ws) false (by kernel_rfl) c8 (by kernel_rfl) ?_
                refine R.pick (evL n xs vs ((prtsT a).getD 0 []) ws) true (by kernel_rfl) c8 (by kernel_rfl) ?_
                exact R.go 2 (R.retE (.bool true) (by kernel_rfl) (by kernel_rfl) (by first | (first | (apply congrArg AV.bool; rw [ev_at hok (by omega), PF.ev]; first | (rw [if_pos (by assumption)]; done) | (rw [if_neg (by omega), if_pos (by assumption)]; done) | (rw [if_neg (by omega), if_neg (by omega), if_pos (by assumption)]; done) | (rw [if_neg (by omega), if_neg (by omega), if_neg (by omega)]; done)) | (apply congrArg AV.bool; rw [ev_bi hok ((ptN_two _).2 (by omega)), ← hb1, ← hb2]; clear hb1 hb2 hb3 hb4 hb5 hb6 hb7; generalize evL n xs vs ((prtsT a).getD 0 []) ws = A at *; generalize evL n xs vs ((prtsT a).getD 1 []) ws = B at *; first | (rw [if_pos (by assumption)]; cases A <;> cases B <;> simp_all; done) | (rw [if_neg (by omega), if_pos (by assumption)]; cases A <;> cases B <;> simp_all; done) | (rw [if_neg (by omega), if_neg (by omega)]; cases A <;> cases B <;> simp_all; done)) | (apply congrArg AV.bool; exact qu_hit hok h78 (by assumption) (by rw [← hz0, ← (by assumption : ∀ q : Int, Z.set (a.getD 0 (0, 0, 0)).2.1.toNat q = ws.set (a.getD 0 (0, 0, 0)).2.1.toNat q)]; assumption)) | (apply congrArg AV.bool; exact qu_miss hok h78 hM.1 (by assumption) (by assumption))) | (exfalso; omega)))
              · refine R.want (evL n xs vs ((prtsT a).getD 0 []) ws) false (by kernel_rfl) c8 ?_
                refine R.go 1 (R.want (evL n xs vs ((prtsT a).getD 0 []) ws) false (by kernel_rfl) c8 ?_)
                refine R.go 1 (R.want (evL n xs vs ((prtsT a).getD 0 []) ws) false (by kernel_rfl) c8 ?_)
                refine R.idx eLT (prtsT a) [] 1 1 (by kernel_rfl) rfl eLT_len (by first | omega | (rw [hb1]; omega) | (rw [hb2]; omega) | (rw [hz0, List.length_drop]; omega)) (by kernel_rfl) ?_
                refine R.want (evL n xs vs ((prtsT a).getD 0 []) ws) false (by kernel_rfl) c8 ?_
                refine R.go 1 (R.want (evL n xs vs ((prtsT a).getD 0 []) ws) false (by kernel_rfl) c8 ?_)
                refine R.go 1 (R.want (evL n xs vs ((prtsT a).getD 0 []) ws) false (by kernel_rfl) c8 ?_)
                refine R.call true (ih ((((prtsT a).getD 1 []) : List (Int × Int × Int)).length) (by first | omega | (rw [hb1]; omega) | (rw [hb2]; omega) | (rw [hz0, List.length_drop]; omega)) n xs vs ((prtsT a).getD 1 []) ws (by first | rfl | simp) (by first | assumption | (rw [hz0]; exact hz3) | (rw [hb1]; exact hb4) | (rw [hb2]; exact hb5)) hM hw (by first | omega | (rw [hb1]; omega) | (rw [hb2]; omega) | (rw [hz0, List.length_drop]; omega))) (by kernel_rfl) rfl (by kernel_rfl) ?_
                refine R.pick (evL n xs vs ((prtsT a).getD 0 []) ws) false (by kernel_rfl) c8 (by kernel_rfl) ?_
                exact R.go 2 (R.retE (.bool (evL n xs vs ((prtsT a).getD 1 []) ws)) (by kernel_rfl) (by kernel_rfl) (by first | (first | (apply congrArg AV.bool; rw [ev_at hok (by omega), PF.ev]; first | (rw [if_pos (by assumption)]; done) | (rw [if_neg (by omega), if_pos (by assumption)]; done) | (rw [if_neg (by omega), if_neg (by omega), if_pos (by assumption)]; done) | (rw [if_neg (by omega), if_neg (by omega), if_neg (by omega)]; done)) | (apply congrArg AV.bool; rw [ev_bi hok ((ptN_two _).2 (by omega)), ← hb1, ← hb2]; clear hb1 hb2 hb3 hb4 hb5 hb6 hb7; generalize evL n xs vs ((prtsT a).getD 0 []) ws = A at *; generalize evL n xs vs ((prtsT a).getD 1 []) ws = B at *; first | (rw [if_pos (by assumption)]; cases A <;> cases B <;> simp_all; done) | (rw [if_neg (by omega), if_pos (by assumption)]; cases A <;> cases B <;> simp_all; done) | (rw [if_neg (by omega), if_neg (by omega)]; cases A <;> cases B <;> simp_all; done)) | (apply congrArg AV.bool; exact qu_hit hok h78 (by assumption) (by rw [← hz0, ← (by assumption : ∀ q : Int, Z.set (a.getD 0 (0, 0, 0)).2.1.toNat q = ws.set (a.getD 0 (0, 0, 0)).2.1.toNat q)]; assumption)) | (apply congrArg AV.bool; exact qu_miss hok h78 hM.1 (by assumption) (by assumption))) | (exfalso; omega)))
            · refine R.go 5 (R.cond (((a.getD 0 (0, 0, 0)).1) = 6) (by kernel_rfl) (fun c9 => ?_) (fun c9 => ?_))
              · obtain ⟨hb1, hb2, hb3, hb4, hb5, hb6, hb7⟩ := prt2 hok ((ptN_two _).2 (by omega))
                refine R.go 4 (R.idx eLT (prtsT a) [] 0 0 (by kernel_rfl) rfl eLT_len (by first | omega | (rw [hb1]; omega) | (rw [hb2]; omega) | (rw [hz0, List.length_drop]; omega)) (by kernel_rfl) ?_)
                refine R.go 2 (R.call true (ih ((((prtsT a).getD 0 []) : List (Int × Int × Int)).length) (by first | omega | (rw [hb1]; omega) | (rw [hb2]; omega) | (rw [hz0, List.length_drop]; omega)) n xs vs ((prtsT a).getD 0 []) ws (by first | rfl | simp) (by first | assumption | (rw [hz0]; exact hz3) | (rw [hb1]; exact hb4) | (rw [hb2]; exact hb5)) hM hw (by first | omega | (rw [hb1]; omega) | (rw [hb2]; omega) | (rw [hz0, List.length_drop]; omega))) (by kernel_rfl) rfl (by kernel_rfl) ?_)
                refine R.go 2 ?_
                refine (Bool.eq_false_or_eq_true (evL n xs vs ((prtsT a).getD 0 []) ws)).elim (fun c10 => ?_) (fun c10 => ?_)
                · refine R.want (!(evL n xs vs ((prtsT a).getD 0 []) ws)) false (by kernel_rfl) (bnF c10) ?_
                  refine R.go 1 (R.want (!(evL n xs vs ((prtsT a).getD 0 []) ws)) false (by kernel_rfl) (bnF c10) ?_)
                  refine R.go 1 (R.want (!(evL n xs vs ((prtsT a).getD 0 []) ws)) false (by kernel_rfl) (bnF c10) ?_)
                  refine R.idx eLT (prtsT a) [] 1 1 (by kernel_rfl) rfl eLT_len (by first | omega | (rw [hb1]; omega) | (rw [hb2]; omega) | (rw [hz0, List.length_drop]; omega)) (by kernel_rfl) ?_
                  refine R.want (!(evL n xs vs ((prtsT a).getD 0 []) ws)) false (by kernel_rfl) (bnF c10) ?_
                  refine R.go 1 (R.want (!(evL n xs vs ((prtsT a).getD 0 []) ws)) false (by kernel_rfl) (bnF c10) ?_)
                  refine R.go 1 (R.want (!(evL n xs vs ((prtsT a).getD 0 []) ws)) false (by kernel_rfl) (bnF c10) ?_)
                  refine R.call true (ih ((((prtsT a).getD 1 []) : List (Int × Int × Int)).length) (by first | omega | (rw [hb1]; omega) | (rw [hb2]; omega) | (rw [hz0, List.length_drop]; omega)) n xs vs ((prtsT a).getD 1 []) ws (by first | rfl | simp) (by first | assumption | (rw [hz0]; exact hz3) | (rw [hb1]; exact hb4) | (rw [hb2]; exact hb5)) hM hw (by first | omega | (rw [hb1]; omega) | (rw [hb2]; omega) | (rw [hz0, List.length_drop]; omega))) (by kernel_rfl) rfl (by kernel_rfl) ?_
                  refine R.pick (!(evL n xs vs ((prtsT a).getD 0 []) ws)) false (by kernel_rfl) (bnF c10) (by kernel_rfl) ?_
                  exact R.go 2 (R.retE (.bool (evL n xs vs ((prtsT a).getD 1 []) ws)) (by kernel_rfl) (by kernel_rfl) (by first | (first | (apply congrArg AV.bool; rw [ev_at hok (by omega), PF.ev]; first | (rw [if_pos (by assumption)]; done) | (rw [if_neg (by omega), if_pos (by assumption)]; done) | (rw [if_neg (by omega), if_neg (by omega), if_pos (by assumption)]; done) | (rw [if_neg (by omega), if_neg (by omega), if_neg (by omega)]; done)) | (apply congrArg AV.bool; rw [ev_bi hok ((ptN_two _).2 (by omega)), ← hb1, ← hb2]; clear hb1 hb2 hb3 hb4 hb5 hb6 hb7; generalize evL n xs vs ((prtsT a).getD 0 []) ws = A at *; generalize evL n xs vs ((prtsT a).getD 1 []) ws = B at *; first | (rw [if_pos (by assumption)]; cases A <;> cases B <;> simp_all; done) | (rw [if_neg (by omega), if_pos (by assumption)]; cases A <;> cases B <;> simp_all; done) | (rw [if_neg (by omega), if_neg (by omega)]; cases A <;> cases B <;> simp_all; done)) | (apply congrArg AV.bool; exact qu_hit hok h78 (by assumption) (by rw [← hz0, ← (by assumption : ∀ q : Int, Z.set (a.getD 0 (0, 0, 0)).2.1.toNat q = ws.set (a.getD 0 (0, 0, 0)).2.1.toNat q)]; assumption)) | (apply congrArg AV.bool; exact qu_miss hok h78 hM.1 (by assumption) (by assumption))) | (exfalso; omega)))
                · refine R.skp (!(evL n xs vs ((prtsT a).getD 0 []) ws)) false (by kernel_rfl) (bnT c10) (by kernel_rfl) ?_
                  refine R.skp (!(evL n xs vs ((prtsT a).getD 0 []) ws)) false (by kernel_rfl) (bnT c10) (by kernel_rfl) ?_
                  refine R.skp (!(evL n xs vs ((prtsT a).getD 0 []) ws)) false (by kernel_rfl) (bnT c10) (by kernel_rfl) ?_
                  refine R.skp (!(evL n xs vs ((prtsT a).getD 0 []) ws)) false (by kernel_rfl) (bnT c10) (by kernel_rfl) ?_
                  refine R.skp (!(evL n xs vs ((prtsT a).getD 0 []) ws)) false (by kernel_rfl) (bnT c10) (by kernel_rfl) ?_
                  refine R.skp (!(evL n xs vs ((prtsT a).getD 0 []) ws)) false (by kernel_rfl) (bnT c10) (by kernel_rfl) ?_
                  refine R.pick (!(evL n xs vs ((prtsT a).getD 0 []) ws)) true (by kernel_rfl) (bnT c10) (by kernel_rfl) ?_
                  exact R.go 2 (R.retE (.bool true) (by kernel_rfl) (by kernel_rfl) (by first | (first | (apply congrArg AV.bool; rw [ev_at hok (by omega), PF.ev]; first | (rw [if_pos (by assumption)]; done) | (rw [if_neg (by omega), if_pos (by assumption)]; done) | (rw [if_neg (by omega), if_neg (by omega), if_pos (by assumption)]; done) | (rw [if_neg (by omega), if_neg (by omega), if_neg (by omega)]; done)) | (apply congrArg AV.bool; rw [ev_bi hok ((ptN_two _).2 (by omega)), ← hb1, ← hb2]; clear hb1 hb2 hb3 hb4 hb5 hb6 hb7; generalize evL n xs vs ((prtsT a).getD 0 []) ws = A at *; generalize evL n xs vs ((prtsT a).getD 1 []) ws = B at *; first | (rw [if_pos (by assumption)]; cases A <;> cases B <;> simp_all; done) | (rw [if_neg (by omega), if_pos (by assumption)]; cases A <;> cases B <;> simp_all; done) | (rw [if_neg (by omega), if_neg (by omega)]; cases A <;> cases B <;> simp_all; done)) | (apply congrArg AV.bool; exact qu_hit hok h78 (by assumption) (by rw [← hz0, ← (by assumption : ∀ q : Int, Z.set (a.getD 0 (0, 0, 0)).2.1.toNat q = ws.set (a.getD 0 (0, 0, 0)).2.1.toNat q)]; assumption)) | (apply congrArg AV.bool; exact qu_miss hok h78 hM.1 (by assumption) (by assumption))) | (exfalso; omega)))
              · have h78 : (a.getD 0 (0, 0, 0)).1 = 7 ∨ (a.getD 0 (0, 0, 0)).1 = 8 := by omega
                obtain ⟨hz0, hz1, hz3⟩ := prt0 hok ((ptN_one _).2 h78)
                have hdl : (a.drop 1).length < a.length := by rw [List.length_drop]; omega
                refine R.go 5 (R.call true (clone_c ws (by first | omega | (rw [hb1]; omega) | (rw [hb2]; omega) | (rw [hz0, List.length_drop]; omega))) (by kernel_rfl) rfl (by kernel_rfl) ?_)
                refine R.go 18 (R.loop ((fun | (v, Z) => (⟨(frm 140 [(3, .ptr 0 0), (7, .ptr 1 0), (8, LLT (prtsT a)), (9, .ref 2), (10, .bool (decide (((a.getD 0 (0, 0, 0)).1) = 8))), (119, AI n), (120, AI (v : Int))]), [.box 43 [AI n, LI xs, LI vs], .box 89 [AI ((a.getD 0 (0, 0, 0)).1), AI ((a.getD 0 (0, 0, 0)).2.1), AI ((a.getD 0 (0, 0, 0)).2.2)], rowA eI 2 1 Z]⟩ : St) : Nat × (List Int) → St)) (fun | (v, Z) => ((v : Int) ≤ n) ∧ (WS n Z) ∧ (∀ q : Int, Z.set (a.getD 0 (0, 0, 0)).2.1.toNat q = ws.set (a.getD 0 (0, 0, 0)).2.1.toNat q) ∧ (∀ u : Nat, u < v → evL n xs vs (a.drop 1) (ws.set (a.getD 0 (0, 0, 0)).2.1.toNat (u : Int)) = !decide ((a.getD 0 (0, 0, 0)).1 = 8))) (fun | (v, Z) => (n - v).toNat) (0, ws) [3, 7, 8, 9, 10, 119, 120] none (by kernel_rfl) (by kernel_rfl) (by kernel_rfl) ⟨(by omega), (by assumption), (by exact fun q => rfl), (by exact fun u hu => absurd hu (by omega))⟩ ?_)
                rintro ⟨v, Z⟩ ⟨h14_1, h14_2, h14_3, h14_4⟩ R11 N12
                have hZl := (by assumption : WS n Z).1
                refine R.go 5 (R.cond ((v : Int) < n) (by kernel_rfl) (fun c15 => ?_) (fun c15 => ?_))
                · refine R.go 14 (R.idxO 2 1 Z.length (((a.getD 0 (0, 0, 0)).2.1).toNat) ((a.getD 0 (0, 0, 0)).2.1) (by kernel_rfl) (by first | omega | (rw [hb1]; omega) | (rw [hb2]; omega) | (rw [hz0, List.length_drop]; omega)) (by first | omega | (rw [hb1]; omega) | (rw [hb2]; omega) | (rw [hz0, List.length_drop]; omega)) (by kernel_rfl) ?_)
                  refine R.stI 2 2 Z (((a.getD 0 (0, 0, 0)).2.1).toNat) (v : Int) (by kernel_rfl) (by first | omega | (rw [hb1]; omega) | (rw [hb2]; omega) | (rw [hz0, List.length_drop]; omega)) (by kernel_rfl) ?_
                  refine R.go 5 (R.idx eLT (prtsT a) [] 0 0 (by kernel_rfl) rfl eLT_len (by first | omega | (rw [hb1]; omega) | (rw [hb2]; omega) | (rw [hz0, List.length_drop]; omega)) (by kernel_rfl) ?_)
                  refine R.go 2 (R.call false (ih ((((prtsT a).getD 0 []) : List (Int × Int × Int)).length) (by first | omega | (rw [hb1]; omega) | (rw [hb2]; omega) | (rw [hz0, List.length_drop]; omega)) n xs vs ((prtsT a).getD 0 []) (Z.set (((a.getD 0 (0, 0, 0)).2.1).toNat) (v : Int)) (by first | rfl | simp) (by first | assumption | (rw [hz0]; exact hz3) | (rw [hb1]; exact hb4) | (rw [hb2]; exact hb5)) hM (by first | assumption | exact ws_set (by assumption) (by omega) (by omega)) (by first | omega | (rw [hb1]; omega) | (rw [hb2]; omega) | (rw [hz0, List.length_drop]; omega))) (by kernel_rfl) rfl (by kernel_rfl) ?_)
                  refine R.go 3 (R.condB ((evL n xs vs ((prtsT a).getD 0 []) (Z.set (((a.getD 0 (0, 0, 0)).2.1).toNat) (v : Int))) == (decide (((a.getD 0 (0, 0, 0)).1) = 8))) (by kernel_rfl) (fun c16 => ?_) (fun c16 => ?_))
                  · exact R.go 5 (R.retE (.bool (decide (((a.getD 0 (0, 0, 0)).1) = 8))) (by kernel_rfl) (by kernel_rfl) (by first | (first | (apply congrArg AV.bool; rw [ev_at hok (by omega), PF.ev]; first | (rw [if_pos (by assumption)]; done) | (rw [if_neg (by omega), if_pos (by assumption)]; done) | (rw [if_neg (by omega), if_neg (by omega), if_pos (by assumption)]; done) | (rw [if_neg (by omega), if_neg (by omega), if_neg (by omega)]; done)) | (apply congrArg AV.bool; rw [ev_bi hok ((ptN_two _).2 (by omega)), ← hb1, ← hb2]; clear hb1 hb2 hb3 hb4 hb5 hb6 hb7; generalize evL n xs vs ((prtsT a).getD 0 []) ws = A at *; generalize evL n xs vs ((prtsT a).getD 1 []) ws = B at *; first | (rw [if_pos (by assumption)]; cases A <;> cases B <;> simp_all; done) | (rw [if_neg (by omega), if_pos (by assumption)]; cases A <;> cases B <;> simp_all; done) | (rw [if_neg (by omega), if_neg (by omega)]; cases A <;> cases B <;> simp_all; done)) | (apply congrArg AV.bool; exact qu_hit hok h78 (by assumption) (by rw [← hz0, ← (by assumption : ∀ q : Int, Z.set (a.getD 0 (0, 0, 0)).2.1.toNat q = ws.set (a.getD 0 (0, 0, 0)).2.1.toNat q)]; assumption)) | (apply congrArg AV.bool; exact qu_miss hok h78 hM.1 (by assumption) (by assumption))) | (exfalso; omega)))
                  · refine R.go 3 (R.ar ((v : Int) + 1) (by kernel_rfl) (by first | omega | (rw [hb1]; omega) | (rw [hb2]; omega) | (rw [hz0, List.length_drop]; omega)) (by first | omega | (rw [hb1]; omega) | (rw [hb2]; omega) | (rw [hz0, List.length_drop]; omega)) (by kernel_rfl) ?_)
                    exact R.go 2 (R.stop R11 (by kernel_rfl) (N12 (v + 1, Z.set (((a.getD 0 (0, 0, 0)).2.1).toNat) (v : Int)) [3, 7, 8, 9, 10, 119, 120] none _ (by kernel_rfl) (by kernel_rfl) ⟨(by omega), (by exact ws_set (by assumption) (by omega) (by omega)), (by exact set_same (by assumption)), (by exact qu_next (by assumption) (by rw [← hz0, ← (by assumption : ∀ q : Int, Z.set (a.getD 0 (0, 0, 0)).2.1.toNat q = ws.set (a.getD 0 (0, 0, 0)).2.1.toNat q)]; assumption))⟩ (by show ((n - (v + 1)).toNat) < ((n - v).toNat); omega)))
                · exact R.go 7 (R.retE (.bool (!decide (((a.getD 0 (0, 0, 0)).1) = 8))) (by kernel_rfl) (by kernel_rfl) (by first | (first | (apply congrArg AV.bool; rw [ev_at hok (by omega), PF.ev]; first | (rw [if_pos (by assumption)]; done) | (rw [if_neg (by omega), if_pos (by assumption)]; done) | (rw [if_neg (by omega), if_neg (by omega), if_pos (by assumption)]; done) | (rw [if_neg (by omega), if_neg (by omega), if_neg (by omega)]; done)) | (apply congrArg AV.bool; rw [ev_bi hok ((ptN_two _).2 (by omega)), ← hb1, ← hb2]; clear hb1 hb2 hb3 hb4 hb5 hb6 hb7; generalize evL n xs vs ((prtsT a).getD 0 []) ws = A at *; generalize evL n xs vs ((prtsT a).getD 1 []) ws = B at *; first | (rw [if_pos (by assumption)]; cases A <;> cases B <;> simp_all; done) | (rw [if_neg (by omega), if_pos (by assumption)]; cases A <;> cases B <;> simp_all; done) | (rw [if_neg (by omega), if_neg (by omega)]; cases A <;> cases B <;> simp_all; done)) | (apply congrArg AV.bool; exact qu_hit hok h78 (by assumption) (by rw [← hz0, ← (by assumption : ∀ q : Int, Z.set (a.getD 0 (0, 0, 0)).2.1.toNat q = ws.set (a.getD 0 (0, 0, 0)).2.1.toNat q)]; assumption)) | (apply congrArg AV.bool; exact qu_miss hok h78 hM.1 (by assumption) (by assumption))) | (exfalso; omega)))

end Go.Proofs.YtgebepfdphmjcaaGreat
