/- Frames: which are frames, reachability, roots. -/
import Derived.Test.YtfkdkhlimdkehaaGreatM02
namespace Go.Proofs.YtfkdkhlimdkehaaGreat
open Go.RowKit Go.Abs

def okFr (n : Int) (xs : List Int) : Bool := inR n 0 8 && decide ((xs.length : Int) = n) && !xs.any fun m => !inR m 0 ((shl64 1 n) - 1)
def outR (n m : Int) : Bool := !(inR n 0 30 && inR m 0 ((shl64 1 n) - 1))
/-- Where p holds first. -/
def fidxI (p : Int → Bool) : List Int → Int → Int
  | [], _ => -1
  | x :: l, i => if p x = true then i else fidxI p l (i + 1)
theorem drop_consI (a : List Int) (j : Nat) (h : j < a.length) : a.drop j = a.getD j 0 :: a.drop (j + 1) := by
  rw [List.drop_eq_getElem_cons h, List.getD_eq_getElem?_getD, List.getElem?_eq_getElem h]; rfl
theorem fidxI_hit {p : Int → Bool} {a : List Int} {i : Nat} (h : i < a.length) (hp : p (a.getD i 0) = true) : fidxI p (a.drop i) i = i := by
  rw [drop_consI a i h, fidxI, if_pos hp]
theorem fidxI_miss {p : Int → Bool} {a : List Int} {i : Nat} (h : i < a.length) (hp : p (a.getD i 0) = false) : fidxI p (a.drop i) i = fidxI p (a.drop (i + 1)) ((i + 1 : Nat) : Int) := by
  rw [drop_consI a i h, fidxI, if_neg (by rw [hp]; decide)]
  rfl
theorem fidxI_end {p : Int → Bool} {a : List Int} {i : Nat} (h : a.length ≤ i) : fidxI p (a.drop i) i = -1 := by
  rw [List.drop_eq_nil_of_le h, fidxI]
theorem fidxI_any {p : Int → Bool} : ∀ {a : List Int} {i : Int}, 0 ≤ i → (0 ≤ fidxI p a i ↔ a.any p = true)
  | [], i, h => by simp [fidxI]
  | x :: a, i, h => by
    have ih := fidxI_any (p := p) (a := a) (i := i + 1) (by omega)
    rw [fidxI, List.any_cons]
    by_cases hp : p x = true
    · simp [hp, h]
    · rw [if_neg hp, ih]; simp [hp]
theorem anyI_hit {p : Int → Bool} {a : List Int} {i : Nat} (h : i < a.length) (hp : p (a.getD i 0) = true) : (a.drop i).any p = true := by
  rw [drop_consI a i h, List.any_cons, hp, Bool.true_or]
theorem anyI_miss {p : Int → Bool} {a : List Int} {i : Nat} (h : i < a.length) (hp : p (a.getD i 0) = false) : (a.drop i).any p = (a.drop (i + 1)).any p := by
  rw [drop_consI a i h, List.any_cons, hp, Bool.false_or]
theorem anyI_end {p : Int → Bool} {a : List Int} {i : Nat} (h : a.length ≤ i) : (a.drop i).any p = false := by
  rw [List.drop_eq_nil_of_le h]; rfl
theorem okFr_no {n : Int} {xs : List Int} (h : inR n 0 8 = false) : okFr n xs = false := by simp [okFr, h]
theorem okFr_ne {n : Int} {xs : List Int} (h : ¬ (xs.length : Int) = n) : okFr n xs = false := by simp [okFr, h]
theorem okFr_yes {n : Int} {xs : List Int} (h : inR n 0 8 = true) (h1 : (xs.length : Int) = n) : okFr n xs = !xs.any fun m => !inR m 0 ((shl64 1 n) - 1) := by simp [okFr, h, h1]
theorem okFr_out {n : Int} {xs : List Int} (h : inR n 0 8 = true) (h1 : (xs.length : Int) = n) : (!xs.any (outR xs.length)) = okFr n xs := by
  rw [okFr_yes h h1]
  have h8 := (inR_iff _ _ _).1 h
  have e : outR xs.length = fun m => !inR m 0 ((shl64 1 n) - 1) := by
    funext m
    rw [outR, h1, (inR_iff n 0 30).2 (by omega), Bool.true_and]
  rw [e]
theorem okFr_rel {n : Int} {xs : List Int} (h : okFr n xs = true) : 0 ≤ n ∧ n ≤ 8 ∧ (xs.length : Int) = n ∧ RelOK n.toNat xs := by
  simp only [okFr, Bool.and_eq_true, inR_iff, decide_eq_true_eq, Bool.not_eq_true'] at h
  obtain ⟨⟨⟨h0, h1⟩, h2⟩, h3⟩ := h
  refine ⟨h0, h1, h2, by omega, fun j hj => ?_⟩
  have hg : xs.getD j 0 ∈ xs := by
    rw [List.getD_eq_getElem?_getD, List.getElem?_eq_getElem (by omega), Option.getD_some]
    exact List.getElem_mem _
  have := List.any_eq_false.1 h3 _ hg
  rw [full_rng (by omega), show ((n.toNat : Nat) : Int) = n by omega]
  simpa using this
/-- The points from which all is reached. -/
def rootsTo (ys : List Int) (n : Int) : Nat → Int
  | 0 => 0
  | i + 1 => if ys.getD i 0 = (shl64 1 n) - 1 then bor (rootsTo ys n i) (shl64 1 (i : Int)) else rootsTo ys n i
def rootsI (n : Int) (xs : List Int) : Int := if okFr n xs = true then rootsTo (clo xs) n xs.length else 0
def rootsC (n : Int) (xs : List Int) : Int := if okFr n xs = true then 0 else 1
theorem wout_len (xs : List Int) : ∀ j, (wout xs j).length = xs.length
  | 0 => rfl
  | j + 1 => by rw [wout, win_len, wout_len xs j]
where win_len (out : List Int) (j : Nat) : ∀ i, (win out j i).length = out.length
  | 0 => rfl
  | i + 1 => by
    rw [win, wrow]
    split
    · rw [List.length_set, win_len out j i]
    · exact win_len out j i
theorem win_len (out : List Int) (j i : Nat) : (win out j i).length = out.length := wout_len.win_len out j i
theorem rout_len (xs : List Int) : ∀ j, (rout xs j).length = xs.length
  | 0 => rfl
  | j + 1 => by rw [rout, List.length_set, rout_len xs j]

theorem isMask_c (n : Int) (m : Int) : CallA Tryz.prog 128 [AI n, AI m] (.bool (!(outR n m))) := by
  have hb : (0 ≤ n ∧ n ≤ 30) → 1 ≤ shl64 1 n ∧ shl64 1 n ≤ 4611686018427387904 := fun h => shl_rng n h.1 (by omega)
  refine CallA.of Tryz.func128 rfl (by kernel_rfl) ?_
  refine R.go 7 (R.call true (inRange_c n 0 30) (by kernel_rfl) rfl (by kernel_rfl) ?_)
  refine R.go 1 ?_
  refine (Bool.eq_false_or_eq_true (inR n 0 30)).elim (fun c1 => ?_) (fun c1 => ?_)
  · refine R.want (inR n 0 30) true (by kernel_rfl) c1 ?_
    refine R.go 1 (R.want (inR n 0 30) true (by kernel_rfl) c1 ?_)
    refine R.go 1 (R.want (inR n 0 30) true (by kernel_rfl) c1 ?_)
    refine R.shl 1 n (by kernel_rfl) (by first | omega | (simp only [inR_iff, inR_not] at *; omega)) (by kernel_rfl) ?_
    refine R.want (inR n 0 30) true (by kernel_rfl) c1 ?_
    refine R.ar ((shl64 1 n) - 1) (by kernel_rfl) (by first | omega | (simp only [inR_iff, inR_not] at *; omega)) (by first | omega | (simp only [inR_iff, inR_not] at *; omega)) (by kernel_rfl) ?_
    refine R.want (inR n 0 30) true (by kernel_rfl) c1 ?_
    refine R.call true (inRange_c m 0 ((shl64 1 n) - 1)) (by kernel_rfl) rfl (by kernel_rfl) ?_
    refine R.pick (inR n 0 30) true (by kernel_rfl) c1 (by kernel_rfl) ?_
    exact R.go 2 (R.retE (.bool (inR m 0 ((shl64 1 n) - 1))) (by kernel_rfl) (by kernel_rfl) (by first | (apply congrArg AV.bool; simp [outR, *]) | (exfalso; omega)))
  · refine R.skp (inR n 0 30) true (by kernel_rfl) c1 (by kernel_rfl) ?_
    refine R.skp (inR n 0 30) true (by kernel_rfl) c1 (by kernel_rfl) ?_
    refine R.skp (inR n 0 30) true (by kernel_rfl) c1 (by kernel_rfl) ?_
    refine R.skp (inR n 0 30) true (by kernel_rfl) c1 (by kernel_rfl) ?_
    refine R.skp (inR n 0 30) true (by kernel_rfl) c1 (by kernel_rfl) ?_
    refine R.pick (inR n 0 30) false (by kernel_rfl) c1 (by kernel_rfl) ?_
    exact R.go 2 (R.retE (.bool false) (by kernel_rfl) (by kernel_rfl) (by first | (apply congrArg AV.bool; simp [outR, *]) | (exfalso; omega)))

theorem isRel1_c (m : Int) (xs : List Int) : CallA Tryz.prog 127 [AI m, .rptr [LI xs]] (.bool (outR xs.length m)) := by
  refine CallA.of Tryz.func127 rfl (by kernel_rfl) ?_
  refine R.go 7 (R.call true (size_c xs) (by kernel_rfl) rfl (by kernel_rfl) ?_)
  refine R.go 1 (R.call true (isMask_c xs.length m) (by kernel_rfl) rfl (by kernel_rfl) ?_)
  exact R.go 3 (R.retE (.bool (!(!(outR xs.length m)))) (by kernel_rfl) (by kernel_rfl) (by first | (apply congrArg AV.bool; simp) | (exfalso; omega)))

theorem indexI_c (a : List Int) (xs : List Int) (hl : a.length ≤ 1000000000) : CallA Tryz.prog 155 [LI a, .fn 127 [.rptr [LI xs]]] (AI (fidxI (outR xs.length) a 0)) := by
  refine CallA.of Tryz.func155 rfl (by kernel_rfl) ?_
  refine R.go 12 (R.loop (fun (i : Nat) => (⟨(frm 19 [(0, LI a), (1, .fn 127 [.rptr [LI xs]]), (7, AI a.length), (8, AI (i : Int))]), []⟩ : St)) (fun (i : Nat) => (i ≤ a.length) ∧ (fidxI (outR xs.length) a 0 = fidxI (outR xs.length) (a.drop i) i)) (fun (i : Nat) => a.length - i) 0 [0, 1, 7, 8] none (by kernel_rfl) (by kernel_rfl) (by kernel_rfl) ⟨(by omega), (by rfl)⟩ ?_)
  rintro i ⟨h3_1, h3_2⟩ R1 N2
  refine R.go 5 (R.cond ((i : Int) < (a.length : Int)) (by kernel_rfl) (fun c4 => ?_) (fun c4 => ?_))
  · refine R.go 13 (R.idx eI a 0 i (i : Int) (by kernel_rfl) rfl eI_len (by omega) (by kernel_rfl) ?_)
    refine R.go 1 (R.call true (isRel1_c (a.getD i 0) xs) (by kernel_rfl) rfl (by kernel_rfl) ?_)
    refine R.go 1 (R.condB (outR xs.length (a.getD i 0)) (by kernel_rfl) (fun c5 => ?_) (fun c5 => ?_))
    · exact R.go 5 (R.retE (AI (i : Int)) (by kernel_rfl) (by kernel_rfl) (by first | (apply congrArg AI; rw [‹fidxI (outR xs.length) a 0 = _›]; first | exact (fidxI_end (by omega)).symm | exact (fidxI_hit (by omega) (by assumption)).symm) | (exfalso; omega)))
    · refine R.go 3 (R.ar ((i : Int) + 1) (by kernel_rfl) (by omega) (by omega) (by kernel_rfl) ?_)
      exact R.go 2 (R.stop R1 (by kernel_rfl) (N2 (i + 1) [0, 1, 7, 8] none _ (by kernel_rfl) (by kernel_rfl) ⟨(by omega), (by rw [‹fidxI (outR xs.length) a 0 = _›]; exact fidxI_miss (by omega) (by assumption))⟩ (by show (a.length - (i + 1)) < (a.length - i); omega)))
  · exact R.go 5 (R.retE (AI (-1)) (by kernel_rfl) (by kernel_rfl) (by first | (apply congrArg AI; rw [‹fidxI (outR xs.length) a 0 = _›]; first | exact (fidxI_end (by omega)).symm | exact (fidxI_hit (by omega) (by assumption)).symm) | (exfalso; omega)))

theorem containsI_c (a : List Int) (xs : List Int) (hl : a.length ≤ 1000000000) : CallA Tryz.prog 119 [LI a, .fn 127 [.rptr [LI xs]]] (.bool (a.any (outR xs.length))) := by
  refine CallA.of Tryz.func119 rfl (by kernel_rfl) ?_
  refine R.go 8 (R.call true (indexI_c a xs hl) (by kernel_rfl) rfl (by kernel_rfl) ?_)
  exact R.go 3 (R.retE (.bool (decide ((fidxI (outR xs.length) a 0) ≥ 0))) (by kernel_rfl) (by kernel_rfl) (by first | (apply congrArg AV.bool; rw [Bool.eq_iff_iff, decide_eq_true_iff]; exact fidxI_any (Int.le_refl 0)) | (exfalso; omega)))

theorem isRelation_c (xs : List Int) (hl : xs.length ≤ 1000000000) : CallA Tryz.prog 103 [LI xs] (.bool (!(xs.any (outR xs.length)))) := by
  refine CallA.of Tryz.func103 rfl (by kernel_rfl) ?_
  refine R.go 9 (R.call false (containsI_c xs xs hl) (by kernel_rfl) rfl (by kernel_rfl) ?_)
  exact R.go 3 (R.retE (.bool (!(xs.any (outR xs.length)))) (by kernel_rfl) (by kernel_rfl) (by rfl))

theorem l01Masks_c (n : Int) (xs : List Int) (hl : xs.length ≤ 1000000000) (h0 : 0 ≤ n) (h1 : n ≤ 62) : CallA Tryz.prog 96 [AI n, LI xs] (.bool (!(xs.any fun m => !inR m 0 ((shl64 1 n) - 1)))) := by
  refine CallA.of Tryz.func96 rfl (by kernel_rfl) ?_
  refine R.go 10 (R.loop (fun (i : Nat) => (⟨(frm 20 [(0, AI n), (1, LI xs), (5, AI (i : Int))]), []⟩ : St)) (fun (i : Nat) => (i ≤ xs.length) ∧ ((xs.any fun m => !inR m 0 ((shl64 1 n) - 1)) = (xs.drop i).any fun m => !inR m 0 ((shl64 1 n) - 1))) (fun (i : Nat) => xs.length - i) 0 [0, 1, 5] none (by kernel_rfl) (by kernel_rfl) (by kernel_rfl) ⟨(by omega), (by rfl)⟩ ?_)
  rintro i ⟨h3_1, h3_2⟩ R1 N2
  refine R.go 8 (R.cond ((i : Int) < (xs.length : Int)) (by kernel_rfl) (fun c4 => ?_) (fun c4 => ?_))
  · refine R.go 7 (R.idx eI xs 0 i (i : Int) (by kernel_rfl) rfl eI_len (by omega) (by kernel_rfl) ?_)
    refine R.go 2 (R.call true (l01Full_c n h0 h1) (by kernel_rfl) rfl (by kernel_rfl) ?_)
    refine R.call true (l01In_c (xs.getD i 0) 0 ((shl64 1 n) - 1)) (by kernel_rfl) rfl (by kernel_rfl) ?_
    refine R.go 2 (R.condM (inR (xs.getD i 0) 0 ((shl64 1 n) - 1)) (by kernel_rfl) (fun c5 => ?_) (fun c5 => ?_))
    · exact R.go 4 (R.retE (.bool false) (by kernel_rfl) (by kernel_rfl) (by first | (apply congrArg AV.bool; rw [‹(xs.any fun m => !inR m 0 ((shl64 1 n) - 1)) = _›]; first | (rw [anyI_end (by omega)]; rfl) | (rw [anyI_hit (by omega) (by simpa using ‹inR _ _ _ = false›)]; rfl)) | (exfalso; omega)))
    · refine R.go 4 (R.ar ((i : Int) + 1) (by kernel_rfl) (by omega) (by omega) (by kernel_rfl) ?_)
      exact R.go 2 (R.stop R1 (by kernel_rfl) (N2 (i + 1) [0, 1, 5] none _ (by kernel_rfl) (by kernel_rfl) ⟨(by omega), (by rw [‹(xs.any fun m => !inR m 0 ((shl64 1 n) - 1)) = _›]; exact anyI_miss (p := fun m => !inR m 0 ((shl64 1 n) - 1)) (by omega) (by simpa using ‹inR _ _ _ = true›))⟩ (by show (xs.length - (i + 1)) < (xs.length - i); omega)))
  · exact R.go 5 (R.retE (.bool true) (by kernel_rfl) (by kernel_rfl) (by first | (apply congrArg AV.bool; rw [‹(xs.any fun m => !inR m 0 ((shl64 1 n) - 1)) = _›]; first | (rw [anyI_end (by omega)]; rfl) | (rw [anyI_hit (by omega) (by simpa using ‹inR _ _ _ = false›)]; rfl)) | (exfalso; omega)))

theorem has_c (m : Int) (i : Int) (h0 : 0 ≤ i) : CallA Tryz.prog 142 [AI m, AI i] (.bool (decide (band (shr64 m i) 1 = 1))) := by
  refine CallA.of Tryz.func142 rfl (by kernel_rfl) ?_
  refine R.go 8 (R.shr m i (by kernel_rfl) (by omega) (by kernel_rfl) ?_)
  exact R.go 4 (R.retE (.bool (decide ((band (shr64 m i) 1) = 1))) (by kernel_rfl) (by kernel_rfl) (by first | (rfl) | (exfalso; omega)))

theorem l01Bit_c (m : Int) (i : Int) (h0 : 0 ≤ i) (h1 : i ≤ 62) : CallA Tryz.prog 98 [AI m, AI i] (.bool (decide (band (shr64 m i) 1 = 1))) := by
  refine CallA.of Tryz.func98 rfl (by kernel_rfl) ?_
  refine R.go 8 (R.cv .u64 i (by kernel_rfl) (u64_id (by omega) (by omega)) (by kernel_rfl) ?_)
  refine R.shr m i (by kernel_rfl) (by omega) (by kernel_rfl) ?_
  exact R.go 4 (R.retE (.bool (decide ((band (shr64 m i) 1) = 1))) (by kernel_rfl) (by kernel_rfl) (by first | (rfl) | (exfalso; omega)))

theorem clone_c (xs : List Int) (hl : xs.length ≤ 1000000000) : CallA Tryz.prog 157 [LI xs] (ownA eI 2 1 xs) := by
  refine CallA.of Tryz.func157 rfl (by kernel_rfl) ?_
  refine R.go 8 (R.isNil xs.length (by kernel_rfl) (by kernel_rfl) (fun c1 => ?_) ?_)
  · refine R.go 6 (R.nil 2 2 1 (by kernel_rfl) ?_)
    exact R.retE (ownA eI 2 1 []) (by kernel_rfl) (by kernel_rfl) (by first | (first | rfl | rw [List.eq_nil_of_length_eq_zero (l := xs) (by assumption)]) | (exfalso; omega))
  · refine R.go 7 (R.app eI [] xs 0 2 1 8 (by kernel_rfl) eI_one (by decide) (by first | omega | (simp <;> omega)) (by kernel_rfl) ?_)
    exact R.go 2 (R.retE (ownA eI 2 1 ([] ++ xs)) (by kernel_rfl) (by kernel_rfl) (by first | (first | rfl | rw [List.eq_nil_of_length_eq_zero (l := xs) (by assumption)]) | (exfalso; omega)))

theorem l01Image_c (xs : List Int) (m : Int) (hl : xs.length ≤ 60) : CallA Tryz.prog 101 [LI xs, AI m] (AI (img xs m xs.length)) := by
  refine CallA.of Tryz.func101 rfl (by kernel_rfl) ?_
  refine R.go 14 (R.loop ((fun | (i, r) => (⟨(frm 23 [(0, LI xs), (1, AI m), (5, AI r), (6, AI (i : Int))]), []⟩ : St) : Nat × Int → St)) (fun | (i, r) => (i ≤ xs.length) ∧ (r = img xs m i)) (fun | (i, r) => xs.length - i) (0, 0) [0, 1, 5, 6] none (by kernel_rfl) (by kernel_rfl) (by kernel_rfl) ⟨(by omega), (by rfl)⟩ ?_)
  rintro ⟨i, r⟩ ⟨h4_1, h4_2⟩ R1 N2
  refine R.go 8 (R.cond ((i : Int) < (xs.length : Int)) (by kernel_rfl) (fun c5 => ?_) (fun c5 => ?_))
  · refine R.go 7 (R.call true (l01Bit_c m (i : Int) (by omega) (by omega)) (by kernel_rfl) rfl (by kernel_rfl) ?_)
    refine R.go 1 (R.cond (band (shr64 m (i : Int)) 1 = 1) (by kernel_rfl) (fun c6 => ?_) (fun c6 => ?_))
    · refine R.go 4 (R.idx eI xs 0 i (i : Int) (by kernel_rfl) rfl eI_len (by omega) (by kernel_rfl) ?_)
      refine R.go 7 (R.ar ((i : Int) + 1) (by kernel_rfl) (by omega) (by omega) (by kernel_rfl) ?_)
      exact R.go 2 (R.stop R1 (by kernel_rfl) (N2 (i + 1, bor r (xs.getD i 0)) [0, 1, 5, 6] none _ (by kernel_rfl) (by kernel_rfl) ⟨(by omega), (by first | (rw [img, if_pos ‹band (shr64 m (i : Int)) 1 = 1›, ← ‹r = img xs m i›]) | (rw [img, if_neg ‹¬ band (shr64 m (i : Int)) 1 = 1›]; assumption))⟩ (by show (xs.length - (i + 1)) < (xs.length - i); omega)))
    · refine R.go 4 (R.ar ((i : Int) + 1) (by kernel_rfl) (by omega) (by omega) (by kernel_rfl) ?_)
      exact R.go 2 (R.stop R1 (by kernel_rfl) (N2 (i + 1, r) [0, 1, 5, 6] none _ (by kernel_rfl) (by kernel_rfl) ⟨(by omega), (by first | (rw [img, if_pos ‹band (shr64 m (i : Int)) 1 = 1›, ← ‹r = img xs m i›]) | (rw [img, if_neg ‹¬ band (shr64 m (i : Int)) 1 = 1›]; assumption))⟩ (by show (xs.length - (i + 1)) < (xs.length - i); omega)))
  · exact R.go 6 (R.retE (AI r) (by kernel_rfl) (by kernel_rfl) (by first | (rw [‹r = img xs m i›, show i = xs.length by omega]) | (exfalso; omega)))

theorem transitive_c (xs : List Int) (hl : xs.length ≤ 60) : CallA Tryz.prog 136 [LI xs] (ownA eI 2 1 (wout xs xs.length)) := by
  refine CallA.of Tryz.func136 rfl (by kernel_rfl) ?_
  refine R.go 7 (R.call true (clone_c xs (by first | omega | (simp <;> omega))) (by kernel_rfl) rfl (by kernel_rfl) ?_)
  refine R.go 10 (R.loop ((fun | (j, out) => (⟨(frm 37 [(3, .ref 0), (9, AI xs.length), (10, AI (j : Int))]), [rowA eI 2 1 out]⟩ : St) : Nat × (List Int) → St)) (fun | (j, out) => (j ≤ xs.length) ∧ (out = wout xs j)) (fun | (j, out) => xs.length - j) (0, xs) [3, 9, 10] none (by kernel_rfl) (by kernel_rfl) (by kernel_rfl) ⟨(by omega), (by rfl)⟩ ?_)
  rintro ⟨j, out⟩ ⟨h4_1, h4_2⟩ R1 N2
  have hlen : out.length = xs.length := by rw [‹out = wout xs j›]; exact wout_len xs j
  refine R.go 5 (R.cond ((j : Int) < (xs.length : Int)) (by kernel_rfl) (fun c5 => ?_) (fun c5 => ?_))
  · refine R.go 15 (R.loop ((fun | (i, o2) => (⟨(frm 37 [(3, .ref 0), (4, AI (j : Int)), (9, AI xs.length), (10, AI (j : Int)), (14, AI out.length), (15, AI (i : Int))]), [rowA eI 2 1 o2]⟩ : St) : Nat × (List Int) → St)) (fun | (i, o2) => (i ≤ xs.length) ∧ (o2 = win out j i)) (fun | (i, o2) => xs.length - i) (0, out) [3, 4, 9, 10, 14, 15] none (by kernel_rfl) (by kernel_rfl) (by kernel_rfl) ⟨(by omega), (by rfl)⟩ ?_)
    rintro ⟨i, o2⟩ ⟨h9_1, h9_2⟩ R6 N7
    have hlen2 : o2.length = xs.length := by rw [‹o2 = win out j i›, win_len]; exact hlen
    refine R.go 5 (R.cond ((i : Int) < (out.length : Int)) (by kernel_rfl) (fun c10 => ?_) (fun c10 => ?_))
    · refine R.go 12 (R.idxO 0 1 o2.length i (i : Int) (by kernel_rfl) rfl (by omega) (by kernel_rfl) ?_)
      refine R.ldI o2 i (by kernel_rfl) (by omega) (by kernel_rfl) ?_
      refine R.go 1 (R.call true (has_c (o2.getD i 0) (j : Int) (by omega)) (by kernel_rfl) rfl (by kernel_rfl) ?_)
      refine R.go 1 (R.cond (band (shr64 (o2.getD i 0) (j : Int)) 1 = 1) (by kernel_rfl) (fun c11 => ?_) (fun c11 => ?_))
      · refine R.go 3 (R.idxO 0 1 o2.length i (i : Int) (by kernel_rfl) rfl (by omega) (by kernel_rfl) ?_)
        refine R.ldI o2 i (by kernel_rfl) (by omega) (by kernel_rfl) ?_
        refine R.go 2 (R.idxO 0 1 o2.length j (j : Int) (by kernel_rfl) rfl (by omega) (by kernel_rfl) ?_)
        refine R.ldI o2 j (by kernel_rfl) (by omega) (by kernel_rfl) ?_
        refine R.go 1 (R.idxO 0 1 o2.length i (i : Int) (by kernel_rfl) rfl (by omega) (by kernel_rfl) ?_)
        refine R.stI 0 2 o2 i (bor (o2.getD i 0) (o2.getD j 0)) (by kernel_rfl) (by omega) (by kernel_rfl) ?_
        refine R.go 3 (R.ar ((i : Int) + 1) (by kernel_rfl) (by omega) (by omega) (by kernel_rfl) ?_)
        exact R.go 2 (R.stop R6 (by kernel_rfl) (N7 (i + 1, o2.set i (bor (o2.getD i 0) (o2.getD j 0))) [3, 4, 9, 10, 14, 15] none _ (by kernel_rfl) (by kernel_rfl) ⟨(by omega), (by first | (rw [win, wrow, ← ‹o2 = win out j i›, if_pos ‹band (shr64 (o2.getD i 0) (j : Int)) 1 = 1›]) | (rw [win, wrow, ← ‹o2 = win out j i›, if_neg ‹¬ band (shr64 (o2.getD i 0) (j : Int)) 1 = 1›]))⟩ (by show (xs.length - (i + 1)) < (xs.length - i); omega)))
      · refine R.go 3 (R.ar ((i : Int) + 1) (by kernel_rfl) (by omega) (by omega) (by kernel_rfl) ?_)
        exact R.go 2 (R.stop R6 (by kernel_rfl) (N7 (i + 1, o2) [3, 4, 9, 10, 14, 15] none _ (by kernel_rfl) (by kernel_rfl) ⟨(by omega), (by first | (rw [win, wrow, ← ‹o2 = win out j i›, if_pos ‹band (shr64 (o2.getD i 0) (j : Int)) 1 = 1›]) | (rw [win, wrow, ← ‹o2 = win out j i›, if_neg ‹¬ band (shr64 (o2.getD i 0) (j : Int)) 1 = 1›]))⟩ (by show (xs.length - (i + 1)) < (xs.length - i); omega)))
    · refine R.go 3 (R.ar ((j : Int) + 1) (by kernel_rfl) (by omega) (by omega) (by kernel_rfl) ?_)
      exact R.go 2 (R.stop R1 (by kernel_rfl) (N2 (j + 1, o2) [3, 9, 10] none _ (by kernel_rfl) (by kernel_rfl) ⟨(by omega), (by rw [wout, ← ‹out = wout xs j›, ← show i = xs.length by omega]; assumption)⟩ (by show (xs.length - (j + 1)) < (xs.length - j); omega)))
  · exact R.go 6 (R.retE (ownA eI 2 1 out) (by kernel_rfl) (by kernel_rfl) (by first | (rw [‹out = wout xs j›, show j = xs.length by omega]) | (exfalso; omega)))

theorem l01ImageG_c (xs : List Int) (m g : Int) (hg : g = img xs m xs.length) (hl : xs.length ≤ 60) : CallA Tryz.prog 101 [LI xs, AI m] (AI g) := by rw [hg]; exact l01Image_c xs m hl

theorem tupR {a b c d : Int} (h : a = c) (h' : b = d) : AV.tup [AI a, AI b] = AV.tup [AI c, AI d] := by rw [h, h']
theorem clo_len (xs : List Int) : (clo xs).length = xs.length := by rw [clo, rout_len, wout_len]

end Go.Proofs.YtfkdkhlimdkehaaGreat
