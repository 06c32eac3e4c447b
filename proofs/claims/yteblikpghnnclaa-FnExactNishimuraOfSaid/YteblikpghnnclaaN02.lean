/- FirstLadderElement, NishimuraIndex, NishimuraOf of both packages. -/
import Derived.Test.YteblikpghnnclaaN01
import Derived.Test.YteblikpghnnclaaMEM
namespace Go.Proofs.Yteblikpghnnclaa
open Go.RowKit Go.Abs

theorem idx_rng (m : Int) : -1 ≤ idx m := by
  unfold idx
  split
  · omega
  · split <;> omega
def nval1 (a : List (Int × Int)) : Int := fv impI [1] a
def niV (a : List (Int × Int)) : Int := if lcode a = 0 then idx (nval1 a) else 0
def noR (a : List (Int × Int)) : List (Int × Int) := if lcode a = 0 then (if idx (nval1 a) = -1 then [(4, 0), (1, 0), (1, 0)] else if idx (nval1 a) ≤ 8 then nishi (idx (nval1 a)).toNat else []) else []
def noC (a : List (Int × Int)) : Int := if lcode a = 0 then (if idx (nval1 a) ≤ 8 then 0 else 3) else lcode a
theorem noR_len (a : List (Int × Int)) : (noR a).length ≤ 1000 := by
  unfold noR
  split
  · split
    · simp
    · split
      · exact nishi_len _ (by omega)
      · simp
  · simp
theorem no_bad {s : Nat} {a : List (Int × Int)} (h : ¬ lcode a = 0) : AV.tup [ownA eN s 2 [], AI (lcode a)] = AV.tup [ownA eN s 2 (noR a), AI (noC a)] := by rw [noR, noC, if_neg h, if_neg h]
theorem no_top {s : Nat} {a : List (Int × Int)} (h : lcode a = 0) (h2 : idx (nval1 a) = -1) : AV.tup [ownA eN s 2 [(4, 0), (1, 0), (1, 0)], AI 0] = AV.tup [ownA eN s 2 (noR a), AI (noC a)] := by rw [noR, noC, if_pos h, if_pos h, if_pos h2, if_pos (by omega)]
theorem no_big {s : Nat} {a : List (Int × Int)} (h : lcode a = 0) (h2 : 8 < idx (nval1 a)) : AV.tup [ownA eN s 2 [], AI 3] = AV.tup [ownA eN s 2 (noR a), AI (noC a)] := by rw [noR, noC, if_pos h, if_pos h, if_neg (by omega), if_neg (by omega), if_neg (by omega)]
theorem no_ok {s n : Nat} {a : List (Int × Int)} (h : lcode a = 0) (h2 : idx (nval1 a) = (n : Int)) (h3 : n ≤ 8) : AV.tup [ownA eN s 2 (nishi n), AI 0] = AV.tup [ownA eN s 2 (noR a), AI (noC a)] := by rw [noR, noC, if_pos h, if_pos h, if_neg (by omega), if_pos (by omega), if_pos (by omega), h2]; rfl
theorem nval6 {a : List (Int × Int)} (h : lcode a = 0) : fv impI [1, 0, 0, 0, 0, 0] a = nval1 a := fv_one impI (lcode_ok h).1 rfl
theorem okN1 {a : List (Int × Int)} (h : lcode a = 0) : okM (nval1 a) = true := fv_okM h
/-- The first element of the ladder that is not in a set. -/
def fle (m : Int) : Option Nat := (List.range 28).find? fun x => !decide (band (shr64 m (x : Int)) 1 = 1)
def fleV (a : List (Int × Int)) : Int := if lcode a = 0 then (match fle (nval1 a) with | some x => (x : Int) | none => 0) else 0
def fleC (a : List (Int × Int)) : Int := if lcode a = 0 then (match fle (nval1 a) with | some _ => 0 | none => 4) else lcode a
theorem fle_at {m : Int} {x : Nat} (hx : x < 28) (h : ¬ band (shr64 m (x : Int)) 1 = 1) (hb : ∀ y : Nat, y < x → band (shr64 m (y : Int)) 1 = 1) : fle m = some x := by
  rw [fle, List.find?_range_eq_some]
  refine ⟨by simpa using h, List.mem_range.2 hx, fun j hj => by simpa using hb j hj⟩
theorem fle_no {m : Int} (hb : ∀ y : Nat, y < 28 → band (shr64 m (y : Int)) 1 = 1) : fle m = none := by
  rw [fle, List.find?_eq_none]
  intro y hy
  simpa using hb y (List.mem_range.1 hy)
theorem fl_bad {a : List (Int × Int)} (h : ¬ lcode a = 0) : AV.tup [AI 0, AI (lcode a)] = AV.tup [AI (fleV a), AI (fleC a)] := by rw [fleV, fleC, if_neg h, if_neg h]
theorem fl_at {a : List (Int × Int)} {x : Nat} (h : lcode a = 0) (h2 : fle (nval1 a) = some x) : AV.tup [AI (x : Int), AI 0] = AV.tup [AI (fleV a), AI (fleC a)] := by rw [fleV, fleC, if_pos h, if_pos h, h2]
theorem fl_no {a : List (Int × Int)} (h : lcode a = 0) (h2 : fle (nval1 a) = none) : AV.tup [AI 0, AI 4] = AV.tup [AI (fleV a), AI (fleC a)] := by rw [fleV, fleC, if_pos h, if_pos h, h2]
/-! The values are few: what the program does is checked for each. -/
instance (n : Nat) (m : Int) : Decidable (InM n m) := by unfold InM; infer_instance
theorem tabN_fle : (tabN.all fun x => if x.1 = setI (-1) then decide (fle x.1 = none) else decide (InM 61 (bnot (setI (-1)) x.1)) && decide (0 < (mem (bnot (setI (-1)) x.1)).length) && decide ((fle x.1).map (fun n : Nat => (n : Int)) = some ((mem (bnot (setI (-1)) x.1)).getD 0 0))) = true := by decide +kernel
theorem fle_val {v : Int} {k : Nat} (h : costs v k) : (v = setI (-1) → fle v = none) ∧ (¬ v = setI (-1) → InM 61 (bnot (setI (-1)) v) ∧ 0 < (mem (bnot (setI (-1)) v)).length ∧ ∃ n : Nat, fle v = some n ∧ (mem (bnot (setI (-1)) v)).getD 0 0 = (n : Int)) := by
  obtain ⟨c, hc, _⟩ := h
  have h1 := tabN_fle
  rw [List.all_eq_true] at h1
  have h2 := h1 _ hc
  simp only at h2
  split at h2
  · rename_i he
    exact ⟨fun _ => of_decide_eq_true h2, fun hn => absurd he hn⟩
  · rename_i he
    simp only [Bool.and_eq_true, decide_eq_true_eq] at h2
    refine ⟨fun h => absurd h he, fun _ => ⟨h2.1.1, h2.1.2, ?_⟩⟩
    cases e : fle v with
    | none => rw [e] at h2; simp at h2
    | some n => rw [e] at h2; exact ⟨n, rfl, by have := h2.2; simp at this; exact this.symm⟩
theorem fle_nval {a : List (Int × Int)} (h : lcode a = 0) : (nval1 a = setI (-1) → fle (nval1 a) = none) ∧ (¬ nval1 a = setI (-1) → InM 61 (bnot (setI (-1)) (nval1 a)) ∧ 0 < (mem (bnot (setI (-1)) (nval1 a))).length ∧ ∃ n : Nat, fle (nval1 a) = some n ∧ (mem (bnot (setI (-1)) (nval1 a))).getD 0 0 = (n : Int)) := by
  have h1 := lcode_ok h
  exact fle_val (fv_costs a.length a rfl h1.1 h1.2)
theorem l20ValueN_c (a : List (Int × Int)) (h : lcode a = 0) : CallA Try.prog 57 [LN a, AI 1] (AI (nval1 a)) := by
  have h1 := lcode_ok h
  rw [← nval6 h]
  exact l20Value_c a 1 (okf_mono h1.1 (by decide)) (by omega)
theorem ladderValueN_c (a : List (Int × Int)) (h : lcode a = 0) : CallA Try.prog 61 [LN a] (AI (nval1 a)) := by
  have h1 := lcode_ok h
  exact ladderValue_c a h1.1 (by omega)

theorem NI_spec (a : List (Int × Int)) (hl : a.length ≤ 1048576) : CallA Try.prog 20 [LN a] (.tup [AI (niV a), AI (lcode a)]) := by
  refine CallA.of Try.func20 rfl (by kernel_rfl) ?_
  refine R.go 8 (R.call true (l20Code_c a (by first | omega | (simp <;> omega))) (by kernel_rfl) rfl (by kernel_rfl) ?_)
  refine R.go 8 (R.condN ((lcode a) = 0) (by kernel_rfl) (fun c1 => ?_) (fun c1 => ?_))
  · exact R.go 6 (R.retE (.tup [AI 0, AI (lcode a)]) (by kernel_rfl) (by kernel_rfl) (by first | (refine tup2 ?_ ?_ <;> simp [niV, *]) | (exfalso; omega)))
  · have hz : lcode a = 0 := by assumption
    have hok1 : okM (nval1 a) = true := okN1 hz
    have hir := idx_rng (nval1 a)
    refine R.go 4 (R.call true (l20ValueN_c a hz) (by kernel_rfl) rfl (by kernel_rfl) ?_)
    refine R.call true (l20Index_c (nval1 a) hok1) (by kernel_rfl) rfl (by kernel_rfl) ?_
    exact R.go 3 (R.retE (.tup [AI (idx (nval1 a)), AI 0]) (by kernel_rfl) (by kernel_rfl) (by first | (refine tup2 ?_ ?_ <;> simp [niV, *]) | (exfalso; omega)))

theorem NI_impl (a : List (Int × Int)) (hl : a.length ≤ 1048576) : CallA Try.prog 21 [LN a] (.tup [AI (niV a), AI (lcode a)]) := by
  refine CallA.of Try.func21 rfl (by kernel_rfl) ?_
  refine R.go 9 (R.call true (ladderCode_c a (by first | omega | (simp <;> omega))) (by kernel_rfl) rfl (by kernel_rfl) ?_)
  refine R.go 7 (R.condN ((lcode a) = 0) (by kernel_rfl) (fun c1 => ?_) (fun c1 => ?_))
  · exact R.go 6 (R.retE (.tup [AI 0, AI (lcode a)]) (by kernel_rfl) (by kernel_rfl) (by first | (refine tup2 ?_ ?_ <;> simp [niV, *]) | (exfalso; omega)))
  · have hz : lcode a = 0 := by assumption
    have hok1 : okM (nval1 a) = true := okN1 hz
    have hir := idx_rng (nval1 a)
    refine R.go 4 (R.call true (ladderValueN_c a hz) (by kernel_rfl) rfl (by kernel_rfl) ?_)
    refine R.call true (indexOf_c (nval1 a) hok1) (by kernel_rfl) rfl (by kernel_rfl) ?_
    exact R.go 3 (R.retE (.tup [AI (idx (nval1 a)), AI 0]) (by kernel_rfl) (by kernel_rfl) (by first | (refine tup2 ?_ ?_ <;> simp [niV, *]) | (exfalso; omega)))

theorem l02True_c : CallA Try.prog 67 [] (ownA eN 71 2 [(4, 0), (1, 0), (1, 0)]) := by
  refine CallA.of Try.func67 rfl (by kernel_rfl) ?_
  refine R.go 6 (R.call true (l02False_c).frz (by kernel_rfl) rfl (by kernel_rfl) ?_)
  refine R.call true (l02Not_c [(1, 0)] (by first | omega | (simp <;> omega))) (by kernel_rfl) rfl (by kernel_rfl) ?_
  exact R.go 2 (R.retE (ownA eN 71 2 ((4, 0) :: ([(1, 0)] ++ [(1, 0)]))) (by kernel_rfl) (by kernel_rfl) (by first | (rfl) | (exfalso; omega)))

theorem truth_c : CallA Try.prog 69 [] (ownA eN 71 2 [(4, 0), (1, 0), (1, 0)]) := by
  refine CallA.of Try.func69 rfl (by kernel_rfl) ?_
  exact R.go 12 (R.retE (ownA eN 71 2 [(4, 0), (1, 0), (1, 0)]) (by kernel_rfl) (by kernel_rfl) (by rfl))

theorem nishG_c (f : FuncId) (i : Int) (s : Nat) (h : ∀ n : Nat, n ≤ 8 → CallA Try.prog f [AI (n : Int)] (ownA eN s 2 (nishi n))) (h0 : 0 ≤ i) (h8 : i ≤ 8) : CallA Try.prog f [AI i] (ownA eN s 2 (nishi i.toNat)) := by
  have := h i.toNat (by omega)
  rwa [show ((i.toNat : Nat) : Int) = i by omega] at this
theorem l20FormulaG_c (i : Int) (h0 : 0 ≤ i) (h8 : i ≤ 8) : CallA Try.prog 68 [AI i] (ownA eN 71 2 (nishi i.toNat)) := nishG_c _ i _ l20Formula_c h0 h8
theorem nishimuraG_c (i : Int) (h0 : 0 ≤ i) (h8 : i ≤ 8) : CallA Try.prog 70 [AI i] (ownA eN 71 2 (nishi i.toNat)) := nishG_c _ i _ nishimura_c h0 h8
theorem no_okI {s : Nat} {a : List (Int × Int)} (h : lcode a = 0) (h0 : 0 ≤ idx (nval1 a)) (h3 : idx (nval1 a) ≤ 8) : AV.tup [ownA eN s 2 (nishi (idx (nval1 a)).toNat), AI 0] = AV.tup [ownA eN s 2 (noR a), AI (noC a)] := no_ok h (by omega) (by omega)

theorem NO_spec (a : List (Int × Int)) (hl : a.length ≤ 1048576) : CallA Try.prog 22 [LN a] (.tup [ownA eN 71 2 (noR a), AI (noC a)]) := by
  refine CallA.of Try.func22 rfl (by kernel_rfl) ?_
  refine R.go 8 (R.call true (l20Code_c a (by first | omega | (simp <;> omega))) (by kernel_rfl) rfl (by kernel_rfl) ?_)
  refine R.go 8 (R.condN ((lcode a) = 0) (by kernel_rfl) (fun c1 => ?_) (fun c1 => ?_))
  · refine R.go 6 (R.nil 2 71 2 (by kernel_rfl) ?_)
    exact R.retE (.tup [ownA eN 71 2 [], AI (lcode a)]) (by kernel_rfl) (by kernel_rfl) (by first | (first | exact no_bad (by assumption) | exact no_top hz (by omega) | exact no_big hz (by omega) | exact no_okI hz (by omega) (by omega)) | (exfalso; omega))
  · have hz : lcode a = 0 := by assumption
    have hok1 : okM (nval1 a) = true := okN1 hz
    have hir := idx_rng (nval1 a)
    refine R.go 4 (R.call true (l20ValueN_c a hz) (by kernel_rfl) rfl (by kernel_rfl) ?_)
    refine R.call true (l20Index_c (nval1 a) hok1) (by kernel_rfl) rfl (by kernel_rfl) ?_
    refine R.go 10 (R.cond ((idx (nval1 a)) < 0) (by kernel_rfl) (fun c2 => ?_) (fun c2 => ?_))
    · refine R.go 2 (R.call true (l02True_c) (by kernel_rfl) rfl (by kernel_rfl) ?_)
      exact R.go 3 (R.retE (.tup [ownA eN 71 2 [(4, 0), (1, 0), (1, 0)], AI 0]) (by kernel_rfl) (by kernel_rfl) (by first | (first | exact no_bad (by assumption) | exact no_top hz (by omega) | exact no_big hz (by omega) | exact no_okI hz (by omega) (by omega)) | (exfalso; omega)))
    · refine R.go 6 (R.cond ((idx (nval1 a)) > 8) (by kernel_rfl) (fun c3 => ?_) (fun c3 => ?_))
      · refine R.go 5 (R.nil 2 71 2 (by kernel_rfl) ?_)
        exact R.retE (.tup [ownA eN 71 2 [], AI 3]) (by kernel_rfl) (by kernel_rfl) (by first | (first | exact no_bad (by assumption) | exact no_top hz (by omega) | exact no_big hz (by omega) | exact no_okI hz (by omega) (by omega)) | (exfalso; omega))
      · refine R.go 5 (R.call true (l20FormulaG_c (idx (nval1 a)) (by omega) (by omega)) (by kernel_rfl) rfl (by kernel_rfl) ?_)
        exact R.go 3 (R.retE (.tup [ownA eN 71 2 (nishi (idx (nval1 a)).toNat), AI 0]) (by kernel_rfl) (by kernel_rfl) (by first | (first | exact no_bad (by assumption) | exact no_top hz (by omega) | exact no_big hz (by omega) | exact no_okI hz (by omega) (by omega)) | (exfalso; omega)))

theorem NO_impl (a : List (Int × Int)) (hl : a.length ≤ 1048576) : CallA Try.prog 23 [LN a] (.tup [ownA eN 71 2 (noR a), AI (noC a)]) := by
  refine CallA.of Try.func23 rfl (by kernel_rfl) ?_
  refine R.go 8 (R.call true (NI_impl a hl) (by kernel_rfl) rfl (by kernel_rfl) ?_)
  refine R.go 14 (R.condN ((lcode a) = 0) (by kernel_rfl) (fun c1 => ?_) (fun c1 => ?_))
  · refine R.go 6 (R.nil 2 71 2 (by kernel_rfl) ?_)
    exact R.retE (.tup [ownA eN 71 2 [], AI (lcode a)]) (by kernel_rfl) (by kernel_rfl) (by first | (first | exact no_bad (by assumption) | exact no_top hz (by omega) | exact no_big hz (by omega) | (rw [hni]; exact no_okI hz (by omega) (by omega))) | (exfalso; omega))
  · have hz : lcode a = 0 := by assumption
    have hir := idx_rng (nval1 a)
    have hni : niV a = idx (nval1 a) := if_pos hz
    refine R.go 6 (R.cond ((niV a) = (-1)) (by kernel_rfl) (fun c2 => ?_) (fun c2 => ?_))
    · refine R.go 2 (R.call true (truth_c) (by kernel_rfl) rfl (by kernel_rfl) ?_)
      exact R.go 3 (R.retE (.tup [ownA eN 71 2 [(4, 0), (1, 0), (1, 0)], AI 0]) (by kernel_rfl) (by kernel_rfl) (by first | (first | exact no_bad (by assumption) | exact no_top hz (by omega) | exact no_big hz (by omega) | (rw [hni]; exact no_okI hz (by omega) (by omega))) | (exfalso; omega)))
    · refine R.go 6 (R.cond ((niV a) > 8) (by kernel_rfl) (fun c3 => ?_) (fun c3 => ?_))
      · refine R.go 5 (R.nil 2 71 2 (by kernel_rfl) ?_)
        exact R.retE (.tup [ownA eN 71 2 [], AI 3]) (by kernel_rfl) (by kernel_rfl) (by first | (first | exact no_bad (by assumption) | exact no_top hz (by omega) | exact no_big hz (by omega) | (rw [hni]; exact no_okI hz (by omega) (by omega))) | (exfalso; omega))
      · refine R.go 5 (R.call true (nishimuraG_c (niV a) (by omega) (by omega)) (by kernel_rfl) rfl (by kernel_rfl) ?_)
        exact R.go 3 (R.retE (.tup [ownA eN 71 2 (nishi (niV a).toNat), AI 0]) (by kernel_rfl) (by kernel_rfl) (by first | (first | exact no_bad (by assumption) | exact no_top hz (by omega) | exact no_big hz (by omega) | (rw [hni]; exact no_okI hz (by omega) (by omega))) | (exfalso; omega)))

theorem FL_spec (a : List (Int × Int)) (hl : a.length ≤ 1048576) : CallA Try.prog 16 [LN a] (.tup [AI (fleV a), AI (fleC a)]) := by
  refine CallA.of Try.func16 rfl (by kernel_rfl) ?_
  refine R.go 8 (R.call true (l20Code_c a (by first | omega | (simp <;> omega))) (by kernel_rfl) rfl (by kernel_rfl) ?_)
  refine R.go 8 (R.condN ((lcode a) = 0) (by kernel_rfl) (fun c1 => ?_) (fun c1 => ?_))
  · exact R.go 6 (R.retE (.tup [AI 0, AI (lcode a)]) (by kernel_rfl) (by kernel_rfl) (by first | (first | exact fl_bad (by assumption) | exact fl_at hz (fle_at (by omega) (by assumption) (by assumption)) | exact fl_no hz (fle_no fun y hy => (‹∀ y : Nat, y < x → band (shr64 (nval1 a) (y : Int)) 1 = 1›) y (by omega))) | (exfalso; omega)))
  · have hz : lcode a = 0 := by assumption
    refine R.go 4 (R.call true (l20ValueN_c a hz) (by kernel_rfl) rfl (by kernel_rfl) ?_)
    refine R.go 8 (R.loop (fun (x : Nat) => (⟨(frm 23 [(5, AI (nval1 a)), (6, AI (x : Int))]), []⟩ : St)) (fun (x : Nat) => (x ≤ 28) ∧ (∀ y : Nat, y < x → band (shr64 (nval1 a) (y : Int)) 1 = 1)) (fun (x : Nat) => 28 - x) 0 [5, 6] none (by kernel_rfl) (by kernel_rfl) (by kernel_rfl) ⟨(by omega), (by exact fun y hy => absurd hy (by omega))⟩ ?_)
    rintro x ⟨h4_1, h4_2⟩ R2 N3
    refine R.go 6 (R.cond ((x : Int) < 28) (by kernel_rfl) (fun c5 => ?_) (fun c5 => ?_))
    · refine R.go 7 (R.call true (l01Bit_c (nval1 a) (x : Int) (by omega) (by omega)) (by kernel_rfl) rfl (by kernel_rfl) ?_)
      refine R.go 2 (R.condN (band (shr64 (nval1 a) (x : Int)) 1 = 1) (by kernel_rfl) (fun c6 => ?_) (fun c6 => ?_))
      · exact R.go 6 (R.retE (.tup [AI (x : Int), AI 0]) (by kernel_rfl) (by kernel_rfl) (by first | (first | exact fl_bad (by assumption) | exact fl_at hz (fle_at (by omega) (by assumption) (by assumption)) | exact fl_no hz (fle_no fun y hy => (‹∀ y : Nat, y < x → band (shr64 (nval1 a) (y : Int)) 1 = 1›) y (by omega))) | (exfalso; omega)))
      · refine R.go 4 (R.ar ((x : Int) + 1) (by kernel_rfl) (by omega) (by omega) (by kernel_rfl) ?_)
        exact R.go 2 (R.stop R2 (by kernel_rfl) (N3 (x + 1) [5, 6] none _ (by kernel_rfl) (by kernel_rfl) ⟨(by omega), (by exact fun y hy => by (by_cases e : y = x); (subst e; assumption); exact (‹∀ y : Nat, y < x → band (shr64 (nval1 a) (y : Int)) 1 = 1›) y (by omega))⟩ (by show (28 - (x + 1)) < (28 - x); omega)))
    · exact R.go 6 (R.retE (.tup [AI 0, AI 4]) (by kernel_rfl) (by kernel_rfl) (by first | (first | exact fl_bad (by assumption) | exact fl_at hz (fle_at (by omega) (by assumption) (by assumption)) | exact fl_no hz (fle_no fun y hy => (‹∀ y : Nat, y < x → band (shr64 (nval1 a) (y : Int)) 1 = 1›) y (by omega))) | (exfalso; omega)))

theorem FL_impl (a : List (Int × Int)) (hl : a.length ≤ 1048576) : CallA Try.prog 18 [LN a] (.tup [AI (fleV a), AI (fleC a)]) := by
  refine CallA.of Try.func18 rfl (by kernel_rfl) ?_
  refine R.go 9 (R.call true (ladderCode_c a (by first | omega | (simp <;> omega))) (by kernel_rfl) rfl (by kernel_rfl) ?_)
  refine R.go 7 (R.condN ((lcode a) = 0) (by kernel_rfl) (fun c1 => ?_) (fun c1 => ?_))
  · exact R.go 6 (R.retE (.tup [AI 0, AI (lcode a)]) (by kernel_rfl) (by kernel_rfl) (by first | (first | exact fl_bad (by assumption) | exact fl_no hz ((fle_nval hz).1 (by assumption)) | (rw [hn2]; exact fl_at hz hn1)) | (exfalso; omega)))
  · have hz : lcode a = 0 := by assumption
    refine R.go 4 (R.call true (ladderValueN_c a hz) (by kernel_rfl) rfl (by kernel_rfl) ?_)
    refine R.go 6 (R.call true (indexSet_c (-1) (by omega) (by omega)) (by kernel_rfl) rfl (by kernel_rfl) ?_)
    refine R.go 2 (R.cond ((nval1 a) = (setI (-1))) (by kernel_rfl) (fun c2 => ?_) (fun c2 => ?_))
    · exact R.go 5 (R.retE (.tup [AI 0, AI 4]) (by kernel_rfl) (by kernel_rfl) (by first | (first | exact fl_bad (by assumption) | exact fl_no hz ((fle_nval hz).1 (by assumption)) | (rw [hn2]; exact fl_at hz hn1)) | (exfalso; omega)))
    · obtain ⟨hm1, hm2, n, hn1, hn2⟩ := (fle_nval hz).2 (by assumption)
      refine R.go 3 (R.call true (indexSet_c (-1) (by omega) (by omega)) (by kernel_rfl) rfl (by kernel_rfl) ?_)
      refine R.go 2 (R.call true (membersOf_c (bnot (setI (-1)) (nval1 a)) (by first | assumption | exact inM61 (by omega) (by omega))).frz (by kernel_rfl) rfl (by kernel_rfl) ?_)
      refine R.idx eI (mem (bnot (setI (-1)) (nval1 a))) 0 0 0 (by kernel_rfl) rfl eI_len (by omega) (by kernel_rfl) ?_
      exact R.go 4 (R.retE (.tup [AI ((mem (bnot (setI (-1)) (nval1 a))).getD 0 0), AI 0]) (by kernel_rfl) (by kernel_rfl) (by first | (first | exact fl_bad (by assumption) | exact fl_no hz ((fle_nval hz).1 (by assumption)) | (rw [hn2]; exact fl_at hz hn1)) | (exfalso; omega)))

end Go.Proofs.Yteblikpghnnclaa
