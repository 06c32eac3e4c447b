/- The ladder's law: its parts. -/
import Derived.Test.YtfkdkhlimdkehaaGreatN01
import Derived.Test.YtfkdkhlimdkehaaGreatD00
import Derived.Test.YtfkdkhlimdkehaaGreatD02
namespace Go.Proofs.YtfkdkhlimdkehaaGreat
open Go.RowKit Go.Abs

structure LOK (k i j : Int) : Prop where
  hi : inR i (-1) 40 = true
  hj : inR j (-1) 40 = true
  hk : k = 2 ∨ k = 3 ∨ k = 4
theorem lok_of {k i j : Int} (h : joinC k i j = 0) : LOK k i j := by
  unfold joinC at h
  split at h
  · rename_i h1; exact ⟨h1.1, h1.2.1, h1.2.2⟩
  · cases h
theorem joinI_ok {k i j : Int} (h : LOK k i j) : joinI k i j = idx (opJ k (setI i) (setI j)) := by
  rw [joinI, if_pos ⟨h.hi, h.hj⟩, opJ]
  rcases h.hk with h1 | h1 | h1
  · rw [if_pos h1, if_pos h1]
  · rw [if_neg (by omega), if_pos h1, if_neg (by omega), if_pos h1]
  · rw [if_neg (by omega), if_neg (by omega), if_pos h1, if_neg (by omega), if_neg (by omega)]
theorem joinI_no {k i j : Int} (h : ¬ joinC k i j = 0) : joinI k i j = 0 := by
  unfold joinC at h
  unfold joinI
  split
  · rename_i h1
    split
    · rename_i h2; exact absurd (if_pos ⟨h1.1, h1.2, .inl h2⟩) h
    · split
      · rename_i h2; exact absurd (if_pos ⟨h1.1, h1.2, .inr (.inl h2)⟩) h
      · split
        · rename_i h2; exact absurd (if_pos ⟨h1.1, h1.2, .inr (.inr h2)⟩) h
        · rfl
  · rfl
theorem bel_eq {k i j : Int} (h : LOK k i j) (hk : k = 4) : (decide (bnot (setI i) (setI j) = 0) == decide (joinI k i j = -1)) = true := by
  have h0 := imp_top
  rw [List.all_eq_true] at h0
  have h1 := h0 _ (mem_setsA i h.hi)
  rw [List.all_eq_true] at h1
  have h2 := h1 _ (mem_setsA j h.hj)
  have e : opJ k (setI i) (setI j) = impI (setI i) (setI j) := by rw [opJ, if_neg (by omega), if_neg (by omega)]
  rw [joinI_ok h, e]
  exact h2
structure ZOK (k i j : Int) : Prop where
  code : lcode (zI k i j) = 0
  val : idx (fv impI [1] (zI k i j)) = joinI k i j
  mask : fv (impB 8 (lad 8)) [1, 0, 0, 0, 0, 0] (zI k i j) = band (fv impI [1] (zI k i j)) 255
theorem zok {k i j : Int} (h : LOK k i j) (hi : 0 ≤ i ∧ i ≤ 8) (hj : 0 ≤ j ∧ j ≤ 8) (hl : (nishi i.toNat).length + (nishi j.toNat).length ≤ 39) : ZOK k i j := by
  have ek : ∃ q : Fin 3, k = (q.val : Int) + 2 := by
    rcases h.hk with rfl | rfl | rfl
    · exact ⟨0, rfl⟩
    · exact ⟨1, rfl⟩
    · exact ⟨2, rfl⟩
  obtain ⟨q, rfl⟩ := ek
  have e1 : ((i.toNat : Nat) : Int) = i := by omega
  have e2 : ((j.toNat : Nat) : Int) = j := by omega
  have v := zJ_val q ⟨i.toNat, by omega⟩ ⟨j.toNat, by omega⟩
  have m := zJ_mask q ⟨i.toNat, by omega⟩ ⟨j.toNat, by omega⟩
  have c := zJ_ok q ⟨i.toNat, by omega⟩ ⟨j.toNat, by omega⟩ (by simp [zJ]; omega)
  simp only [e1, e2] at v
  exact ⟨c, by rw [joinI_ok h]; exact congrArg idx v, m⟩
theorem nishi_F {i : Int} (hi : 0 ≤ i ∧ i ≤ 8) : isF (nishi i.toNat) = true ∧ (nishi i.toNat).length ≤ 1000 := ⟨nishi_isF ⟨i.toNat, by omega⟩, nishi_len _ (by omega)⟩
theorem z_set {k i j : Int} (h : ZOK k i j) : fcode 8 (lad 8) [1, 0, 0, 0, 0, 0] (zI k i j) = 0 ∧ fset 8 (lad 8) [1, 0, 0, 0, 0, 0] (zI k i j) = band (lval (zI k i j)) 255 := by
  have hc : fcode 8 (lad 8) [1, 0, 0, 0, 0, 0] (zI k i j) = 0 := by
    have h1 := h.code
    unfold lcode at h1
    split at h1
    · rename_i hF
      split at h1
      · rename_i h2
        rw [fcode, if_pos ⟨lad_va, hF⟩, if_pos h2.1]
      · cases h1
    · cases h1
  exact ⟨hc, by rw [fset, if_pos hc, lval, if_pos h.code, h.mask]⟩
def notF (a : List (Int × Int)) : Bool := !isF a
theorem two_notF {a b : List (Int × Int)} (ha : isF a = true) (hb : isF b = true) (i : Nat) (hi : (i : Int) < 2) : notF ([a, b].getD i []) = false := by
  have : i = 0 ∨ i = 1 := by omega
  rcases this with rfl | rfl
  · show (!isF a) = false; rw [ha]; rfl
  · show (!isF b) = false; rw [hb]; rfl
theorem two_len {a b : List (Int × Int)} (ha : a.length ≤ 1000) (hb : b.length ≤ 1000) (i : Nat) (hi : (i : Int) < 2) : ([a, b].getD i []).length ≤ 1000 := by
  have : i = 0 ∨ i = 1 := by omega
  rcases this with rfl | rfl
  · exact ha
  · exact hb

theorem notF_c (a : List (Int × Int)) (hl : a.length ≤ 1000000000) : CallA Tryz.prog 88 [LN a] (.bool (notF a)) := by
  refine CallA.of Tryz.func88 rfl (by kernel_rfl) ?_
  refine R.go 7 (R.call true (isFormula_c a hl) (by kernel_rfl) rfl (by kernel_rfl) ?_)
  exact R.go 3 (R.retE (.bool (!(isF a))) (by kernel_rfl) (by kernel_rfl) (by first | (rfl) | (exfalso; omega)))

theorem areF2_c (a : List (Int × Int)) (b : List (Int × Int)) (ha : isF a = true) (hb : isF b = true) (hal : a.length ≤ 1000) (hbl : b.length ≤ 1000) : CallA Tryz.prog 56 [LLN [a, b]] (.bool true) := by
  refine CallA.of Tryz.func56 rfl (by kernel_rfl) ?_
  refine R.go 7 (R.enter (avs := [LLN [a, b], .fn 88 []]) Tryz.func87 rfl (by kernel_rfl) (by kernel_rfl) (by kernel_rfl) ?_)
  intro us1
  refine R.go 8 (R.enter (avs := [LLN [a, b], .fn 88 []]) Tryz.func111 rfl (by kernel_rfl) (by kernel_rfl) (by kernel_rfl) ?_)
  intro us2
  refine R.go 12 (R.loop (fun (i : Nat) => (⟨(frm 19 [(0, LLN [a, b]), (1, .fn 88 []), (7, AI 2), (8, AI (i : Int))]), [.frame us1 (frm 6 [(0, LLN [a, b]), (2, .bool false), (3, LLN [a, b])]), .frame us2 (frm 9 [(0, LLN [a, b]), (1, .fn 88 []), (4, .bool false), (5, LLN [a, b]), (6, .fn 88 [])])]⟩ : St)) (fun (i : Nat) => i ≤ 2) (fun (i : Nat) => 2 - i) 0 [0, 1, 7, 8] none (by kernel_rfl) (by kernel_rfl) (by kernel_rfl) (by omega) ?_)
  rintro i h5_1 R3 N4
  refine R.go 5 (R.cond ((i : Int) < 2) (by kernel_rfl) (fun c6 => ?_) (fun c6 => ?_))
  · have hnf : notF ([a, b].getD i []) = false := two_notF ha hb i (by omega)
    have hgl := two_len hal hbl i (by omega)
    refine R.go 13 (R.idx eLN [a, b] [] i (i : Int) (by kernel_rfl) rfl eLN_len (by first | omega | (simp <;> omega)) (by kernel_rfl) ?_)
    refine R.go 1 (R.call true (notF_c ([a, b].getD i []) (by first | omega | (simp <;> omega))) (by kernel_rfl) rfl (by kernel_rfl) ?_)
    refine R.go 1 (R.els (notF ([a, b].getD i [])) (by kernel_rfl) hnf ?_)
    refine R.go 3 (R.ar ((i : Int) + 1) (by kernel_rfl) (by omega) (by omega) (by kernel_rfl) ?_)
    exact R.go 2 (R.stop R3 (by kernel_rfl) (N4 (i + 1) [0, 1, 7, 8] none _ (by kernel_rfl) (by kernel_rfl) (by omega) (by show (2 - (i + 1)) < (2 - i); omega)))
  · refine R.go 5 (R.back (AI (-1)) (frm 9 [(0, LLN [a, b]), (1, .fn 88 []), (4, .bool false), (5, LLN [a, b]), (6, .fn 88 [])]) (by kernel_rfl) (by kernel_rfl) (by kernel_rfl) ?_)
    refine R.go 3 (R.back (.bool false) (frm 6 [(0, LLN [a, b]), (2, .bool false), (3, LLN [a, b])]) (by kernel_rfl) (by kernel_rfl) (by kernel_rfl) ?_)
    exact R.go 3 (R.retE (.bool true) (by kernel_rfl) (by kernel_rfl) (by rfl))

theorem JF_in (k : Int) (a : List (Int × Int)) (b : List (Int × Int)) (hk : k = 2 ∨ k = 3 ∨ k = 4) (ha : isF a = true) (hb : isF b = true) (hal : a.length ≤ 1000) (hbl : b.length ≤ 1000) (hl : a.length + b.length ≤ 39) : CallA Tryz.prog 21 [AI k, LN a, LN b] (.tup [ownA eN 90 2 ((k, 0) :: (a ++ b)), AI 0]) := by
  have hp2 := (partsI_two k).2 hk
  have hlz : ((k, (0 : Int)) :: (a ++ b)).length = a.length + b.length + 1 := by simp
  refine CallA.of Tryz.func21 rfl (by kernel_rfl) ?_
  refine R.go 11 (R.lit (s := 1) (n := 2) (cs := rows eLN [a, b]) (by kernel_rfl) (by kernel_rfl) ?_)
  refine R.call true (areF2_c a b ha hb hal hbl) (by kernel_rfl) rfl (by kernel_rfl) ?_
  refine R.go 7 (R.call true (partsOf_c k) (by kernel_rfl) rfl (by kernel_rfl) ?_)
  refine R.go 3 (R.condN ((partsN k : Int) = 2) (by kernel_rfl) (fun c1 => ?_) (fun c1 => ?_))
  · refine R.go 5 (R.nil 6 90 2 (by kernel_rfl) ?_)
    exact R.retE (.tup [ownA eN 90 2 [], AI 2]) (by kernel_rfl) (by kernel_rfl) (by first | (rfl) | (exfalso; omega))
  · refine R.go 7 (R.call true (join_c k a b (by first | omega | (simp <;> omega)) (by first | omega | (simp <;> omega))) (by kernel_rfl) rfl (by kernel_rfl) ?_)
    refine R.enter (avs := [.ref 0]) Tryz.func57 rfl (by kernel_rfl) (by kernel_rfl) (by kernel_rfl) ?_
    intro us2
    refine R.go 12 (R.cond ((((k, 0) :: (a ++ b)).length : Int) > 40) (by kernel_rfl) (fun c3 => ?_) (fun c3 => ?_))
    · refine R.go 5 (R.back (.tup [.nil, AI 3]) (frm 25 [(0, AI k), (1, LN a), (2, LN b), (6, .nil), (7, AI 0), (8, .bool false), (9, LN a), (10, LN b), (11, LLN [a, b]), (12, .bool true), (13, .bool false), (14, .bool (!decide ((partsN k : Int) = 2))), (15, AI k), (16, AI (partsN k : Int)), (17, .bool (!decide ((partsN k : Int) = 2))), (18, AI k), (19, LN a), (20, LN b), (21, .ref 0)]) (by kernel_rfl) (by kernel_rfl) (by kernel_rfl) ?_)
      refine R.go 5 (R.nil 6 90 2 (by kernel_rfl) ?_)
      exact R.retE (.tup [ownA eN 90 2 [], AI 3]) (by kernel_rfl) (by kernel_rfl) (by first | (rfl) | (exfalso; omega))
    · refine R.go 7 (R.back (.tup [.ref 0, AI 0]) (frm 25 [(0, AI k), (1, LN a), (2, LN b), (6, .nil), (7, AI 0), (8, .bool false), (9, LN a), (10, LN b), (11, LLN [a, b]), (12, .bool true), (13, .bool false), (14, .bool (!decide ((partsN k : Int) = 2))), (15, AI k), (16, AI (partsN k : Int)), (17, .bool (!decide ((partsN k : Int) = 2))), (18, AI k), (19, LN a), (20, LN b), (21, .ref 0)]) (by kernel_rfl) (by kernel_rfl) (by kernel_rfl) ?_)
      exact R.go 5 (R.retE (.tup [ownA eN 90 2 ((k, 0) :: (a ++ b)), AI 0]) (by kernel_rfl) (by kernel_rfl) (by rfl))

theorem JF_out (k : Int) (a : List (Int × Int)) (b : List (Int × Int)) (hk : k = 2 ∨ k = 3 ∨ k = 4) (ha : isF a = true) (hb : isF b = true) (hal : a.length ≤ 1000) (hbl : b.length ≤ 1000) (hl : ¬ a.length + b.length ≤ 39) : CallA Tryz.prog 21 [AI k, LN a, LN b] (.tup [.nil, AI 3]) := by
  have hp2 := (partsI_two k).2 hk
  have hlz : ((k, (0 : Int)) :: (a ++ b)).length = a.length + b.length + 1 := by simp
  refine CallA.of Tryz.func21 rfl (by kernel_rfl) ?_
  refine R.go 11 (R.lit (s := 1) (n := 2) (cs := rows eLN [a, b]) (by kernel_rfl) (by kernel_rfl) ?_)
  refine R.call true (areF2_c a b ha hb hal hbl) (by kernel_rfl) rfl (by kernel_rfl) ?_
  refine R.go 7 (R.call true (partsOf_c k) (by kernel_rfl) rfl (by kernel_rfl) ?_)
  refine R.go 3 (R.condN ((partsN k : Int) = 2) (by kernel_rfl) (fun c1 => ?_) (fun c1 => ?_))
  · exact R.go 5 (R.retE (.tup [.nil, AI 2]) (by kernel_rfl) (by kernel_rfl) (by first | (rfl) | (exfalso; omega)))
  · refine R.go 7 (R.call true (join_c k a b (by first | omega | (simp <;> omega)) (by first | omega | (simp <;> omega))) (by kernel_rfl) rfl (by kernel_rfl) ?_)
    refine R.enter (avs := [.ref 0]) Tryz.func57 rfl (by kernel_rfl) (by kernel_rfl) (by kernel_rfl) ?_
    intro us2
    refine R.go 12 (R.cond ((((k, 0) :: (a ++ b)).length : Int) > 40) (by kernel_rfl) (fun c3 => ?_) (fun c3 => ?_))
    · refine R.go 5 (R.back (.tup [.nil, AI 3]) (frm 25 [(0, AI k), (1, LN a), (2, LN b), (6, .nil), (7, AI 0), (8, .bool false), (9, LN a), (10, LN b), (11, LLN [a, b]), (12, .bool true), (13, .bool false), (14, .bool (!decide ((partsN k : Int) = 2))), (15, AI k), (16, AI (partsN k : Int)), (17, .bool (!decide ((partsN k : Int) = 2))), (18, AI k), (19, LN a), (20, LN b), (21, .ref 0)]) (by kernel_rfl) (by kernel_rfl) (by kernel_rfl) ?_)
      exact R.go 5 (R.retE (.tup [.nil, AI 3]) (by kernel_rfl) (by kernel_rfl) (by rfl))
    · refine R.go 7 (R.back (.tup [.ref 0, AI 0]) (frm 25 [(0, AI k), (1, LN a), (2, LN b), (6, .nil), (7, AI 0), (8, .bool false), (9, LN a), (10, LN b), (11, LLN [a, b]), (12, .bool true), (13, .bool false), (14, .bool (!decide ((partsN k : Int) = 2))), (15, AI k), (16, AI (partsN k : Int)), (17, .bool (!decide ((partsN k : Int) = 2))), (18, AI k), (19, LN a), (20, LN b), (21, .ref 0)]) (by kernel_rfl) (by kernel_rfl) (by kernel_rfl) ?_)
      exact R.go 5 (R.retE (.tup [ownA eN 90 2 ((k, 0) :: (a ++ b)), AI 0]) (by kernel_rfl) (by kernel_rfl) (by first | (rfl) | (exfalso; omega)))

theorem IB_impl (i : Int) (j : Int) (hi : inR i (-1) 40 = true) (hj : inR j (-1) 40 = true) : CallA Tryz.prog 18 [AI i, AI j] (.tup [.bool (decide (bnot (setI i) (setI j) = 0)), AI 0]) := by
  have hi2 := (inR_iff _ _ _).1 hi
  have hj2 := (inR_iff _ _ _).1 hj
  refine CallA.of Tryz.func18 rfl (by kernel_rfl) ?_
  refine R.go 9 (R.call true (isIndex_c i) (by kernel_rfl) rfl (by kernel_rfl) ?_)
  refine R.go 2 (R.want (!(inR i (-1) 40)) false (by kernel_rfl) (bnF hi) ?_)
  refine R.go 1 (R.want (!(inR i (-1) 40)) false (by kernel_rfl) (bnF hi) ?_)
  refine R.call true (isIndex_c j) (by kernel_rfl) rfl (by kernel_rfl) ?_
  refine R.want (!(inR i (-1) 40)) false (by kernel_rfl) (bnF hi) ?_
  refine R.go 1 (R.pick (!(inR i (-1) 40)) false (by kernel_rfl) (bnF hi) (by kernel_rfl) ?_)
  refine R.go 1 (R.els (!(inR j (-1) 40)) (by kernel_rfl) (bnF hj) ?_)
  refine R.go 4 (R.call true (indexSet_c i (by omega) (by omega)) (by kernel_rfl) rfl (by kernel_rfl) ?_)
  refine R.go 1 (R.call true (indexSet_c j (by omega) (by omega)) (by kernel_rfl) rfl (by kernel_rfl) ?_)
  refine R.call true (within_c (setI i) (setI j)) (by kernel_rfl) rfl (by kernel_rfl) ?_
  exact R.go 3 (R.retE (.tup [.bool (decide (bnot (setI i) (setI j) = 0)), AI 0]) (by kernel_rfl) (by kernel_rfl) (by rfl))

theorem IS_impl (i : Int) (hi : inR i (-1) 40 = true) : CallA Tryz.prog 19 [AI i] (.tup [AI (setI i), AI 0]) := by
  have hi2 := (inR_iff _ _ _).1 hi
  refine CallA.of Tryz.func19 rfl (by kernel_rfl) ?_
  refine R.go 9 (R.call true (isIndex_c i) (by kernel_rfl) rfl (by kernel_rfl) ?_)
  refine R.go 2 (R.els (!(inR i (-1) 40)) (by kernel_rfl) (bnF hi) ?_)
  refine R.go 4 (R.call true (indexSet_c i (by omega) (by omega)) (by kernel_rfl) rfl (by kernel_rfl) ?_)
  exact R.go 3 (R.retE (.tup [AI (setI i), AI 0]) (by kernel_rfl) (by kernel_rfl) (by rfl))

theorem LP_impl : CallA Tryz.prog 23 [AI 8] (.tup [.agg [AI 8, LI (lad 8)], AI 0]) := by
  have h88 : inR 8 0 8 = true := rfl
  refine CallA.of Tryz.func23 rfl (by kernel_rfl) ?_
  refine R.go 9 (R.call true (inRange_c 8 0 8) (by kernel_rfl) rfl (by kernel_rfl) ?_)
  refine R.go 2 (R.els (!(inR 8 0 8)) (by kernel_rfl) (bnF h88) ?_)
  refine R.go 4 (R.call true (ladder_c 8 (by omega)) (by kernel_rfl) rfl (by kernel_rfl) ?_)
  exact R.go 3 (R.retE (.tup [.agg [AI 8, LI (lad 8)], AI 0]) (by kernel_rfl) (by kernel_rfl) (by rfl))

theorem nishI_c (i : Int) (h : 0 ≤ i ∧ i ≤ 8) : CallA Tryz.prog 55 [AI i] (ownA eN 90 2 (nishi i.toNat)) := by
  have := nishimura_c i.toNat (by omega)
  rwa [show ((i.toNat : Nat) : Int) = i by omega] at this
theorem inR8_yes {i : Int} (h : 0 ≤ i ∧ i ≤ 8) : inR i 0 8 = true := (inR_iff _ _ _).2 h
theorem ladderZ_c (a : List (Int × Int)) (h : lcode a = 0) : CallA Tryz.prog 60 [LN a] (AI (fv impI [1] a)) := by
  have h1 := lcode_ok h
  exact ladderValue_c a h1.1 (by omega)

theorem NFI_impl (i : Int) (h : 0 ≤ i ∧ i ≤ 8) : CallA Tryz.prog 20 [AI i] (.tup [ownA eN 90 2 (nishi i.toNat), AI 0]) := by
  have hin : inR i 0 8 = true := inR8_yes h
  refine CallA.of Tryz.func20 rfl (by kernel_rfl) ?_
  refine R.go 9 (R.call true (inRange_c i 0 8) (by kernel_rfl) rfl (by kernel_rfl) ?_)
  refine R.go 2 (R.els (!(inR i 0 8)) (by kernel_rfl) (bnF hin) ?_)
  refine R.go 4 (R.call true (nishI_c i h) (by kernel_rfl) rfl (by kernel_rfl) ?_)
  exact R.go 3 (R.retE (.tup [ownA eN 90 2 (nishi i.toNat), AI 0]) (by kernel_rfl) (by kernel_rfl) (by rfl))

theorem NIZ_impl (a : List (Int × Int)) (h : lcode a = 0) (hl : a.length ≤ 1000000000) : CallA Tryz.prog 22 [LN a] (.tup [AI (idx (fv impI [1] a)), AI 0]) := by
  have hok1 : okM (fv impI [1] a) = true := fv_okM h
  refine CallA.of Tryz.func22 rfl (by kernel_rfl) ?_
  refine R.go 9 (R.call true (ladderCode_c a hl) (by kernel_rfl) rfl (by kernel_rfl) ?_)
  refine R.go 7 (R.condN ((lcode a) = 0) (by kernel_rfl) (fun c1 => ?_) (fun c1 => ?_))
  · exact R.go 6 (R.retE (.tup [AI 0, AI (lcode a)]) (by kernel_rfl) (by kernel_rfl) (by first | (rfl) | (exfalso; omega)))
  · refine R.go 4 (R.call true (ladderZ_c a h) (by kernel_rfl) rfl (by kernel_rfl) ?_)
    refine R.call true (indexOf_c (fv impI [1] a) hok1) (by kernel_rfl) rfl (by kernel_rfl) ?_
    exact R.go 3 (R.retE (.tup [AI (idx (fv impI [1] a)), AI 0]) (by kernel_rfl) (by kernel_rfl) (by rfl))

end Go.Proofs.YtfkdkhlimdkehaaGreat
