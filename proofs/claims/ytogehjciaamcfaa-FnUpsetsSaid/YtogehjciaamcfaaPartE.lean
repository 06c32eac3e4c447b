/- Texts of the proof: R05, MEM, H03, P05, W01. -/
import Derived.Test.YtogehjciaamcfaaPartD

/-! Frames: which are frames, reachability, roots. -/
namespace Go.Proofs.Ytogehjciaamcfaa
open Go.RowKit Go.Abs

def okFr (n : Int) (xs : List Int) : Bool := inR n 0 8 && decide ((xs.length : Int) = n) && !xs.any fun m => !inR m 0 ((shl64 1 n) - 1)
def outR (n m : Int) : Bool := !(inR n 0 30 && inR m 0 ((shl64 1 n) - 1))
/-- Where p holds first. -/
def fidxI (p : Int → Bool) : List Int → Int → Int
  | [], _ => -1
  | x :: l, i => if p x = true then i else fidxI p l (i + 1)
theorem drop_consI (a : List Int) (j : Nat) (h : j < a.length) : a.drop j = a.getD j 0 :: a.drop (j + 1) := by
  rw [List.drop_eq_getElem_cons h, List.getD_eq_getElem?_getD, List.getElem?_eq_getElem h]; rfl
theorem fidxI_hit {p : Int → Bool} {a : List Int} {i : Nat} (h : i < a.length) (hp : p (a.getD i 0) = true) : fidxI p (a.drop i) i = i := by
  rw [drop_consI a i h, fidxI, if_pos hp]
theorem fidxI_miss {p : Int → Bool} {a : List Int} {i : Nat} (h : i < a.length) (hp : p (a.getD i 0) = false) : fidxI p (a.drop i) i = fidxI p (a.drop (i + 1)) ((i + 1 : Nat) : Int) := by
  rw [drop_consI a i h, fidxI, if_neg (by rw [hp]; decide)]
  rfl
theorem fidxI_end {p : Int → Bool} {a : List Int} {i : Nat} (h : a.length ≤ i) : fidxI p (a.drop i) i = -1 := by
  rw [List.drop_eq_nil_of_le h, fidxI]
theorem fidxI_any {p : Int → Bool} : ∀ {a : List Int} {i : Int}, 0 ≤ i → (0 ≤ fidxI p a i ↔ a.any p = true)
  | [], i, h => by simp [fidxI]
  | x :: a, i, h => by
    have ih := fidxI_any (p := p) (a := a) (i := i + 1) (by omega)
    rw [fidxI, List.any_cons]
    by_cases hp : p x = true
    · simp [hp, h]
    · rw [if_neg hp, ih]; simp [hp]
theorem anyI_hit {p : Int → Bool} {a : List Int} {i : Nat} (h : i < a.length) (hp : p (a.getD i 0) = true) : (a.drop i).any p = true := by
  rw [drop_consI a i h, List.any_cons, hp, Bool.true_or]
theorem anyI_miss {p : Int → Bool} {a : List Int} {i : Nat} (h : i < a.length) (hp : p (a.getD i 0) = false) : (a.drop i).any p = (a.drop (i + 1)).any p := by
  rw [drop_consI a i h, List.any_cons, hp, Bool.false_or]
theorem anyI_end {p : Int → Bool} {a : List Int} {i : Nat} (h : a.length ≤ i) : (a.drop i).any p = false := by
  rw [List.drop_eq_nil_of_le h]; rfl
theorem okFr_no {n : Int} {xs : List Int} (h : inR n 0 8 = false) : okFr n xs = false := by simp [okFr, h]
theorem okFr_ne {n : Int} {xs : List Int} (h : ¬ (xs.length : Int) = n) : okFr n xs = false := by simp [okFr, h]
theorem okFr_yes {n : Int} {xs : List Int} (h : inR n 0 8 = true) (h1 : (xs.length : Int) = n) : okFr n xs = !xs.any fun m => !inR m 0 ((shl64 1 n) - 1) := by simp [okFr, h, h1]
theorem okFr_out {n : Int} {xs : List Int} (h : inR n 0 8 = true) (h1 : (xs.length : Int) = n) : (!xs.any (outR xs.length)) = okFr n xs := by
  rw [okFr_yes h h1]
  have h8 := (inR_iff _ _ _).1 h
  have e : outR xs.length = fun m => !inR m 0 ((shl64 1 n) - 1) := by
    funext m
    rw [outR, h1, (inR_iff n 0 30).2 (by omega), Bool.true_and]
  rw [e]
theorem okFr_rel {n : Int} {xs : List Int} (h : okFr n xs = true) : 0 ≤ n ∧ n ≤ 8 ∧ (xs.length : Int) = n ∧ RelOK n.toNat xs := by
  simp only [okFr, Bool.and_eq_true, inR_iff, decide_eq_true_eq, Bool.not_eq_true'] at h
  obtain ⟨⟨⟨h0, h1⟩, h2⟩, h3⟩ := h
  refine ⟨h0, h1, h2, by omega, fun j hj => ?_⟩
  have hg : xs.getD j 0 ∈ xs := by
    rw [List.getD_eq_getElem?_getD, List.getElem?_eq_getElem (by omega), Option.getD_some]
    exact List.getElem_mem _
  have := List.any_eq_false.1 h3 _ hg
  rw [full_rng (by omega), show ((n.toNat : Nat) : Int) = n by omega]
  simpa using this
theorem wout_len (xs : List Int) : ∀ j, (wout xs j).length = xs.length
  | 0 => rfl
  | j + 1 => by rw [wout, win_len, wout_len xs j]
where win_len (out : List Int) (j : Nat) : ∀ i, (win out j i).length = out.length
  | 0 => rfl
  | i + 1 => by
    rw [win, wrow]
    split
    · rw [List.length_set, win_len out j i]
    · exact win_len out j i
theorem win_len (out : List Int) (j i : Nat) : (win out j i).length = out.length := wout_len.win_len out j i
theorem isMask_c (n : Int) (m : Int) : CallA Try.prog 68 [AI n, AI m] (.bool (!(outR n m))) := by
  have hb : (0 ≤ n ∧ n ≤ 30) → 1 ≤ shl64 1 n ∧ shl64 1 n ≤ 4611686018427387904 := fun h => shl_rng n h.1 (by omega)
  refine CallA.of Try.func68 rfl (by kernel_rfl) ?_
  refine R.go 7 (R.call true (inRange_c n 0 30) (by kernel_rfl) rfl (by kernel_rfl) ?_)
  refine R.go 1 ?_
  refine (Bool.eq_false_or_eq_true (inR n 0 30)).elim (fun c1 => ?_) (fun c1 => ?_)
  · refine R.want (inR n 0 30) true (by kernel_rfl) c1 ?_
    refine R.go 1 (R.want (inR n 0 30) true (by kernel_rfl) c1 ?_)
    refine R.go 1 (R.want (inR n 0 30) true (by kernel_rfl) c1 ?_)
    refine R.shl 1 n (by kernel_rfl) (by first | omega | (simp only [inR_iff, inR_not] at *; omega)) (by kernel_rfl) ?_
    refine R.want (inR n 0 30) true (by kernel_rfl) c1 ?_
    refine R.ar ((shl64 1 n) - 1) (by kernel_rfl) (by first | omega | (simp only [inR_iff, inR_not] at *; omega)) (by first | omega | (simp only [inR_iff, inR_not] at *; omega)) (by kernel_rfl) ?_
    refine R.want (inR n 0 30) true (by kernel_rfl) c1 ?_
    refine R.call true (inRange_c m 0 ((shl64 1 n) - 1)) (by kernel_rfl) rfl (by kernel_rfl) ?_
    refine R.pick (inR n 0 30) true (by kernel_rfl) c1 (by kernel_rfl) ?_
    exact R.go 2 (R.retE (.bool (inR m 0 ((shl64 1 n) - 1))) (by kernel_rfl) (by kernel_rfl) (by first | (apply congrArg AV.bool; simp [outR, *]) | (exfalso; omega)))
  · refine R.skp (inR n 0 30) true (by kernel_rfl) c1 (by kernel_rfl) ?_
    refine R.skp (inR n 0 30) true (by kernel_rfl) c1 (by kernel_rfl) ?_
    refine R.skp (inR n 0 30) true (by kernel_rfl) c1 (by kernel_rfl) ?_
    refine R.skp (inR n 0 30) true (by kernel_rfl) c1 (by kernel_rfl) ?_
    refine R.skp (inR n 0 30) true (by kernel_rfl) c1 (by kernel_rfl) ?_
    refine R.pick (inR n 0 30) false (by kernel_rfl) c1 (by kernel_rfl) ?_
    exact R.go 2 (R.retE (.bool false) (by kernel_rfl) (by kernel_rfl) (by first | (apply congrArg AV.bool; simp [outR, *]) | (exfalso; omega)))

theorem isRel1_c (m : Int) (xs : List Int) : CallA Try.prog 85 [AI m, .rptr [LI xs]] (.bool (outR xs.length m)) := by
  refine CallA.of Try.func85 rfl (by kernel_rfl) ?_
  refine R.go 7 (R.call true (size_c xs) (by kernel_rfl) rfl (by kernel_rfl) ?_)
  refine R.go 1 (R.call true (isMask_c xs.length m) (by kernel_rfl) rfl (by kernel_rfl) ?_)
  exact R.go 3 (R.retE (.bool (!(!(outR xs.length m)))) (by kernel_rfl) (by kernel_rfl) (by first | (apply congrArg AV.bool; simp) | (exfalso; omega)))

theorem indexI_c (a : List Int) (xs : List Int) (hl : a.length ≤ 1000000000) : CallA Try.prog 66 [LI a, .fn 85 [.rptr [LI xs]]] (AI (fidxI (outR xs.length) a 0)) := by
  refine CallA.of Try.func66 rfl (by kernel_rfl) ?_
  refine R.go 12 (R.loop (fun (i : Nat) => (⟨(frm 19 [(0, LI a), (1, .fn 85 [.rptr [LI xs]]), (7, AI a.length), (8, AI (i : Int))]), []⟩ : St)) (fun (i : Nat) => (i ≤ a.length) ∧ (fidxI (outR xs.length) a 0 = fidxI (outR xs.length) (a.drop i) i)) (fun (i : Nat) => a.length - i) 0 [0, 1, 7, 8] none (by kernel_rfl) (by kernel_rfl) (by kernel_rfl) ⟨(by omega), (by rfl)⟩ ?_)
  rintro i ⟨h3_1, h3_2⟩ R1 N2
  refine R.go 5 (R.cond ((i : Int) < (a.length : Int)) (by kernel_rfl) (fun c4 => ?_) (fun c4 => ?_))
  · refine R.go 13 (R.idx eI a 0 i (i : Int) (by kernel_rfl) rfl eI_len (by omega) (by kernel_rfl) ?_)
    refine R.go 1 (R.call true (isRel1_c (a.getD i 0) xs) (by kernel_rfl) rfl (by kernel_rfl) ?_)
    refine R.go 1 (R.condB (outR xs.length (a.getD i 0)) (by kernel_rfl) (fun c5 => ?_) (fun c5 => ?_))
    · exact R.go 5 (R.retE (AI (i : Int)) (by kernel_rfl) (by kernel_rfl) (by first | (apply congrArg AI; rw [‹fidxI (outR xs.length) a 0 = _›]; first | exact (fidxI_end (by omega)).symm | exact (fidxI_hit (by omega) (by assumption)).symm) | (exfalso; omega)))
    · refine R.go 3 (R.ar ((i : Int) + 1) (by kernel_rfl) (by omega) (by omega) (by kernel_rfl) ?_)
      exact R.go 2 (R.stop R1 (by kernel_rfl) (N2 (i + 1) [0, 1, 7, 8] none _ (by kernel_rfl) (by kernel_rfl) ⟨(by omega), (by rw [‹fidxI (outR xs.length) a 0 = _›]; exact fidxI_miss (by omega) (by assumption))⟩ (by show (a.length - (i + 1)) < (a.length - i); omega)))
  · exact R.go 5 (R.retE (AI (-1)) (by kernel_rfl) (by kernel_rfl) (by first | (apply congrArg AI; rw [‹fidxI (outR xs.length) a 0 = _›]; first | exact (fidxI_end (by omega)).symm | exact (fidxI_hit (by omega) (by assumption)).symm) | (exfalso; omega)))

theorem containsI_c (a : List Int) (xs : List Int) (hl : a.length ≤ 1000000000) : CallA Try.prog 84 [LI a, .fn 85 [.rptr [LI xs]]] (.bool (a.any (outR xs.length))) := by
  refine CallA.of Try.func84 rfl (by kernel_rfl) ?_
  refine R.go 8 (R.call true (indexI_c a xs hl) (by kernel_rfl) rfl (by kernel_rfl) ?_)
  exact R.go 3 (R.retE (.bool (decide ((fidxI (outR xs.length) a 0) ≥ 0))) (by kernel_rfl) (by kernel_rfl) (by first | (apply congrArg AV.bool; rw [Bool.eq_iff_iff, decide_eq_true_iff]; exact fidxI_any (Int.le_refl 0)) | (exfalso; omega)))

theorem isRelation_c (xs : List Int) (hl : xs.length ≤ 1000000000) : CallA Try.prog 58 [LI xs] (.bool (!(xs.any (outR xs.length)))) := by
  refine CallA.of Try.func58 rfl (by kernel_rfl) ?_
  refine R.go 9 (R.call false (containsI_c xs xs hl) (by kernel_rfl) rfl (by kernel_rfl) ?_)
  exact R.go 3 (R.retE (.bool (!(xs.any (outR xs.length)))) (by kernel_rfl) (by kernel_rfl) (by rfl))

theorem l01Masks_c (n : Int) (xs : List Int) (hl : xs.length ≤ 1000000000) (h0 : 0 ≤ n) (h1 : n ≤ 62) : CallA Try.prog 63 [AI n, LI xs] (.bool (!(xs.any fun m => !inR m 0 ((shl64 1 n) - 1)))) := by
  refine CallA.of Try.func63 rfl (by kernel_rfl) ?_
  refine R.go 10 (R.loop (fun (i : Nat) => (⟨(frm 20 [(0, AI n), (1, LI xs), (5, AI (i : Int))]), []⟩ : St)) (fun (i : Nat) => (i ≤ xs.length) ∧ ((xs.any fun m => !inR m 0 ((shl64 1 n) - 1)) = (xs.drop i).any fun m => !inR m 0 ((shl64 1 n) - 1))) (fun (i : Nat) => xs.length - i) 0 [0, 1, 5] none (by kernel_rfl) (by kernel_rfl) (by kernel_rfl) ⟨(by omega), (by rfl)⟩ ?_)
  rintro i ⟨h3_1, h3_2⟩ R1 N2
  refine R.go 8 (R.cond ((i : Int) < (xs.length : Int)) (by kernel_rfl) (fun c4 => ?_) (fun c4 => ?_))
  · refine R.go 7 (R.idx eI xs 0 i (i : Int) (by kernel_rfl) rfl eI_len (by omega) (by kernel_rfl) ?_)
    refine R.go 2 (R.call true (l01Full_c n h0 h1) (by kernel_rfl) rfl (by kernel_rfl) ?_)
    refine R.call true (l01In_c (xs.getD i 0) 0 ((shl64 1 n) - 1)) (by kernel_rfl) rfl (by kernel_rfl) ?_
    refine R.go 2 (R.condM (inR (xs.getD i 0) 0 ((shl64 1 n) - 1)) (by kernel_rfl) (fun c5 => ?_) (fun c5 => ?_))
    · exact R.go 4 (R.retE (.bool false) (by kernel_rfl) (by kernel_rfl) (by first | (apply congrArg AV.bool; rw [‹(xs.any fun m => !inR m 0 ((shl64 1 n) - 1)) = _›]; first | (rw [anyI_end (by omega)]; rfl) | (rw [anyI_hit (by omega) (by simpa using ‹inR _ _ _ = false›)]; rfl)) | (exfalso; omega)))
    · refine R.go 4 (R.ar ((i : Int) + 1) (by kernel_rfl) (by omega) (by omega) (by kernel_rfl) ?_)
      exact R.go 2 (R.stop R1 (by kernel_rfl) (N2 (i + 1) [0, 1, 5] none _ (by kernel_rfl) (by kernel_rfl) ⟨(by omega), (by rw [‹(xs.any fun m => !inR m 0 ((shl64 1 n) - 1)) = _›]; exact anyI_miss (p := fun m => !inR m 0 ((shl64 1 n) - 1)) (by omega) (by simpa using ‹inR _ _ _ = true›))⟩ (by show (xs.length - (i + 1)) < (xs.length - i); omega)))
  · exact R.go 5 (R.retE (.bool true) (by kernel_rfl) (by kernel_rfl) (by first | (apply congrArg AV.bool; rw [‹(xs.any fun m => !inR m 0 ((shl64 1 n) - 1)) = _›]; first | (rw [anyI_end (by omega)]; rfl) | (rw [anyI_hit (by omega) (by simpa using ‹inR _ _ _ = false›)]; rfl)) | (exfalso; omega)))

theorem has_c (m : Int) (i : Int) (h0 : 0 ≤ i) : CallA Try.prog 98 [AI m, AI i] (.bool (decide (band (shr64 m i) 1 = 1))) := by
  refine CallA.of Try.func98 rfl (by kernel_rfl) ?_
  refine R.go 8 (R.shr m i (by kernel_rfl) (by omega) (by kernel_rfl) ?_)
  exact R.go 4 (R.retE (.bool (decide ((band (shr64 m i) 1) = 1))) (by kernel_rfl) (by kernel_rfl) (by first | (rfl) | (exfalso; omega)))

theorem l01Bit_c (m : Int) (i : Int) (h0 : 0 ≤ i) (h1 : i ≤ 62) : CallA Try.prog 102 [AI m, AI i] (.bool (decide (band (shr64 m i) 1 = 1))) := by
  refine CallA.of Try.func102 rfl (by kernel_rfl) ?_
  refine R.go 8 (R.cv .u64 i (by kernel_rfl) (u64_id (by omega) (by omega)) (by kernel_rfl) ?_)
  refine R.shr m i (by kernel_rfl) (by omega) (by kernel_rfl) ?_
  exact R.go 4 (R.retE (.bool (decide ((band (shr64 m i) 1) = 1))) (by kernel_rfl) (by kernel_rfl) (by first | (rfl) | (exfalso; omega)))

theorem clone_c (xs : List Int) (hl : xs.length ≤ 1000000000) : CallA Try.prog 74 [LI xs] (ownA eI 2 1 xs) := by
  refine CallA.of Try.func74 rfl (by kernel_rfl) ?_
  refine R.go 8 (R.isNil xs.length (by kernel_rfl) (by kernel_rfl) (fun c1 => ?_) ?_)
  · refine R.go 6 (R.nil 2 2 1 (by kernel_rfl) ?_)
    exact R.retE (ownA eI 2 1 []) (by kernel_rfl) (by kernel_rfl) (by first | (first | rfl | rw [List.eq_nil_of_length_eq_zero (l := xs) (by assumption)]) | (exfalso; omega))
  · refine R.go 7 (R.app eI [] xs 0 2 1 8 (by kernel_rfl) eI_one (by decide) (by first | omega | (simp <;> omega)) (by kernel_rfl) ?_)
    exact R.go 2 (R.retE (ownA eI 2 1 ([] ++ xs)) (by kernel_rfl) (by kernel_rfl) (by first | (first | rfl | rw [List.eq_nil_of_length_eq_zero (l := xs) (by assumption)]) | (exfalso; omega)))

theorem l01Image_c (xs : List Int) (m : Int) (hl : xs.length ≤ 60) : CallA Try.prog 65 [LI xs, AI m] (AI (img xs m xs.length)) := by
  refine CallA.of Try.func65 rfl (by kernel_rfl) ?_
  refine R.go 14 (R.loop ((fun | (i, r) => (⟨(frm 23 [(0, LI xs), (1, AI m), (5, AI r), (6, AI (i : Int))]), []⟩ : St) : Nat × Int → St)) (fun | (i, r) => (i ≤ xs.length) ∧ (r = img xs m i)) (fun | (i, r) => xs.length - i) (0, 0) [0, 1, 5, 6] none (by kernel_rfl) (by kernel_rfl) (by kernel_rfl) ⟨(by omega), (by rfl)⟩ ?_)
  rintro ⟨i, r⟩ ⟨h4_1, h4_2⟩ R1 N2
  refine R.go 8 (R.cond ((i : Int) < (xs.length : Int)) (by kernel_rfl) (fun c5 => ?_) (fun c5 => ?_))
  · refine R.go 7 (R.call true (l01Bit_c m (i : Int) (by omega) (by omega)) (by kernel_rfl) rfl (by kernel_rfl) ?_)
    refine R.go 1 (R.cond (band (shr64 m (i : Int)) 1 = 1) (by kernel_rfl) (fun c6 => ?_) (fun c6 => ?_))
    · refine R.go 4 (R.idx eI xs 0 i (i : Int) (by kernel_rfl) rfl eI_len (by omega) (by kernel_rfl) ?_)
      refine R.go 7 (R.ar ((i : Int) + 1) (by kernel_rfl) (by omega) (by omega) (by kernel_rfl) ?_)
      exact R.go 2 (R.stop R1 (by kernel_rfl) (N2 (i + 1, bor r (xs.getD i 0)) [0, 1, 5, 6] none _ (by kernel_rfl) (by kernel_rfl) ⟨(by omega), (by first | (rw [img, if_pos ‹band (shr64 m (i : Int)) 1 = 1›, ← ‹r = img xs m i›]) | (rw [img, if_neg ‹¬ band (shr64 m (i : Int)) 1 = 1›]; assumption))⟩ (by show (xs.length - (i + 1)) < (xs.length - i); omega)))
    · refine R.go 4 (R.ar ((i : Int) + 1) (by kernel_rfl) (by omega) (by omega) (by kernel_rfl) ?_)
      exact R.go 2 (R.stop R1 (by kernel_rfl) (N2 (i + 1, r) [0, 1, 5, 6] none _ (by kernel_rfl) (by kernel_rfl) ⟨(by omega), (by first | (rw [img, if_pos ‹band (shr64 m (i : Int)) 1 = 1›, ← ‹r = img xs m i›]) | (rw [img, if_neg ‹¬ band (shr64 m (i : Int)) 1 = 1›]; assumption))⟩ (by show (xs.length - (i + 1)) < (xs.length - i); omega)))
  · exact R.go 6 (R.retE (AI r) (by kernel_rfl) (by kernel_rfl) (by first | (rw [‹r = img xs m i›, show i = xs.length by omega]) | (exfalso; omega)))

theorem transitive_c (xs : List Int) (hl : xs.length ≤ 60) : CallA Try.prog 92 [LI xs] (ownA eI 2 1 (wout xs xs.length)) := by
  refine CallA.of Try.func92 rfl (by kernel_rfl) ?_
  refine R.go 7 (R.call true (clone_c xs (by first | omega | (simp <;> omega))) (by kernel_rfl) rfl (by kernel_rfl) ?_)
  refine R.go 10 (R.loop ((fun | (j, out) => (⟨(frm 37 [(3, .ref 0), (9, AI xs.length), (10, AI (j : Int))]), [rowA eI 2 1 out]⟩ : St) : Nat × (List Int) → St)) (fun | (j, out) => (j ≤ xs.length) ∧ (out = wout xs j)) (fun | (j, out) => xs.length - j) (0, xs) [3, 9, 10] none (by kernel_rfl) (by kernel_rfl) (by kernel_rfl) ⟨(by omega), (by rfl)⟩ ?_)
  rintro ⟨j, out⟩ ⟨h4_1, h4_2⟩ R1 N2
  have hlen : out.length = xs.length := by rw [‹out = wout xs j›]; exact wout_len xs j
  refine R.go 5 (R.cond ((j : Int) < (xs.length : Int)) (by kernel_rfl) (fun c5 => ?_) (fun c5 => ?_))
  · refine R.go 15 (R.loop ((fun | (i, o2) => (⟨(frm 37 [(3, .ref 0), (4, AI (j : Int)), (9, AI xs.length), (10, AI (j : Int)), (14, AI out.length), (15, AI (i : Int))]), [rowA eI 2 1 o2]⟩ : St) : Nat × (List Int) → St)) (fun | (i, o2) => (i ≤ xs.length) ∧ (o2 = win out j i)) (fun | (i, o2) => xs.length - i) (0, out) [3, 4, 9, 10, 14, 15] none (by kernel_rfl) (by kernel_rfl) (by kernel_rfl) ⟨(by omega), (by rfl)⟩ ?_)
    rintro ⟨i, o2⟩ ⟨h9_1, h9_2⟩ R6 N7
    have hlen2 : o2.length = xs.length := by rw [‹o2 = win out j i›, win_len]; exact hlen
    refine R.go 5 (R.cond ((i : Int) < (out.length : Int)) (by kernel_rfl) (fun c10 => ?_) (fun c10 => ?_))
    · refine R.go 12 (R.idxO 0 1 o2.length i (i : Int) (by kernel_rfl) rfl (by omega) (by kernel_rfl) ?_)
      refine R.ldI o2 i (by kernel_rfl) (by omega) (by kernel_rfl) ?_
      refine R.go 1 (R.call true (has_c (o2.getD i 0) (j : Int) (by omega)) (by kernel_rfl) rfl (by kernel_rfl) ?_)
      refine R.go 1 (R.cond (band (shr64 (o2.getD i 0) (j : Int)) 1 = 1) (by kernel_rfl) (fun c11 => ?_) (fun c11 => ?_))
      · refine R.go 3 (R.idxO 0 1 o2.length i (i : Int) (by kernel_rfl) rfl (by omega) (by kernel_rfl) ?_)
        refine R.ldI o2 i (by kernel_rfl) (by omega) (by kernel_rfl) ?_
        refine R.go 2 (R.idxO 0 1 o2.length j (j : Int) (by kernel_rfl) rfl (by omega) (by kernel_rfl) ?_)
        refine R.ldI o2 j (by kernel_rfl) (by omega) (by kernel_rfl) ?_
        refine R.go 1 (R.idxO 0 1 o2.length i (i : Int) (by kernel_rfl) rfl (by omega) (by kernel_rfl) ?_)
        refine R.stI 0 2 o2 i (bor (o2.getD i 0) (o2.getD j 0)) (by kernel_rfl) (by omega) (by kernel_rfl) ?_
        refine R.go 3 (R.ar ((i : Int) + 1) (by kernel_rfl) (by omega) (by omega) (by kernel_rfl) ?_)
        exact R.go 2 (R.stop R6 (by kernel_rfl) (N7 (i + 1, o2.set i (bor (o2.getD i 0) (o2.getD j 0))) [3, 4, 9, 10, 14, 15] none _ (by kernel_rfl) (by kernel_rfl) ⟨(by omega), (by first | (rw [win, wrow, ← ‹o2 = win out j i›, if_pos ‹band (shr64 (o2.getD i 0) (j : Int)) 1 = 1›]) | (rw [win, wrow, ← ‹o2 = win out j i›, if_neg ‹¬ band (shr64 (o2.getD i 0) (j : Int)) 1 = 1›]))⟩ (by show (xs.length - (i + 1)) < (xs.length - i); omega)))
      · refine R.go 3 (R.ar ((i : Int) + 1) (by kernel_rfl) (by omega) (by omega) (by kernel_rfl) ?_)
        exact R.go 2 (R.stop R6 (by kernel_rfl) (N7 (i + 1, o2) [3, 4, 9, 10, 14, 15] none _ (by kernel_rfl) (by kernel_rfl) ⟨(by omega), (by first | (rw [win, wrow, ← ‹o2 = win out j i›, if_pos ‹band (shr64 (o2.getD i 0) (j : Int)) 1 = 1›]) | (rw [win, wrow, ← ‹o2 = win out j i›, if_neg ‹¬ band (shr64 (o2.getD i 0) (j : Int)) 1 = 1›]))⟩ (by show (xs.length - (i + 1)) < (xs.length - i); omega)))
    · refine R.go 3 (R.ar ((j : Int) + 1) (by kernel_rfl) (by omega) (by omega) (by kernel_rfl) ?_)
      exact R.go 2 (R.stop R1 (by kernel_rfl) (N2 (j + 1, o2) [3, 9, 10] none _ (by kernel_rfl) (by kernel_rfl) ⟨(by omega), (by rw [wout, ← ‹out = wout xs j›, ← show i = xs.length by omega]; assumption)⟩ (by show (xs.length - (j + 1)) < (xs.length - j); omega)))
  · exact R.go 6 (R.retE (ownA eI 2 1 out) (by kernel_rfl) (by kernel_rfl) (by first | (rw [‹out = wout xs j›, show j = xs.length by omega]) | (exfalso; omega)))

end Go.Proofs.Ytogehjciaamcfaa


/-! Members of masks. -/
namespace Go.Proofs.Ytogehjciaamcfaa
open Go.RowKit Go.Abs

/-- The members of a mask below i. -/
def memN (m : Int) : Nat → List Int
  | 0 => []
  | i + 1 => if tb m i = true then memN m i ++ [(i : Int)] else memN m i
def mem (m : Int) : List Int := memN m 62
theorem memN_yes {m : Int} {i : Nat} (h : tb m i = true) : memN m (i + 1) = memN m i ++ [(i : Int)] := by rw [memN, if_pos h]
theorem memN_no {m : Int} {i : Nat} (h : ¬ tb m i = true) : memN m (i + 1) = memN m i := by rw [memN, if_neg h]
theorem memN_mem {m : Int} {v : Int} : ∀ {i : Nat}, v ∈ memN m i ↔ ∃ j : Nat, j < i ∧ tb m j = true ∧ v = (j : Int)
  | 0 => by simp [memN]
  | i + 1 => by
    have ih := memN_mem (m := m) (v := v) (i := i)
    by_cases h : tb m i = true
    · rw [memN_yes h, List.mem_append, ih, List.mem_singleton]
      constructor
      · rintro (⟨j, a, b, c⟩ | h2)
        · exact ⟨j, by omega, b, c⟩
        · exact ⟨i, by omega, h, h2⟩
      · rintro ⟨j, a, b, c⟩
        by_cases hji : j = i
        · subst hji; exact .inr c
        · exact .inl ⟨j, by omega, b, c⟩
    · rw [memN_no h, ih]
      constructor
      · rintro ⟨j, a, b, c⟩; exact ⟨j, by omega, b, c⟩
      · rintro ⟨j, a, b, c⟩
        by_cases hji : j = i
        · subst hji; exact absurd b h
        · exact ⟨j, by omega, b, c⟩
theorem memN_len (m : Int) : ∀ i : Nat, (memN m i).length ≤ i
  | 0 => Nat.le_refl _
  | i + 1 => by
    have ih := memN_len m i
    rw [memN]
    split
    · simp; omega
    · omega
theorem memN_stop {m : Int} {i : Nat} (h : ∀ j, i ≤ j → tb m j = false) : ∀ {k : Nat}, i ≤ k → memN m k = memN m i := by
  intro k hk
  induction k with
  | zero => rw [show i = 0 by omega]
  | succ k ih =>
    by_cases hki : i = k + 1
    · rw [hki]
    · rw [memN_no (by rw [h k (by omega)]; decide), ih (by omega)]
theorem inM61 {m : Int} (h0 : 0 ≤ m) (h1 : m ≤ 2305843009213693951) : InM 61 m := ⟨h0, by
  have : (2 : Nat) ^ 61 = 2305843009213693952 := by decide
  omega⟩
theorem inM_mono {n n' : Nat} {m : Int} (hn : n ≤ n') (h : InM n m) : InM n' m := ⟨h.1, Nat.lt_of_lt_of_le h.2 (Nat.pow_le_pow_right (by decide) hn)⟩
theorem shr_pos {m : Int} (h : InM 61 m) {i : Nat} (hi : i ≤ 62) (hp : shr64 m (i : Int) > 0) : i < 61 := by
  obtain ⟨a, rfl, ha⟩ := inM_nat h
  rw [shr_nat hi] at hp
  have h1 : 0 < a / 2 ^ i := by
    generalize a / 2 ^ i = q at hp ⊢
    omega
  rw [Nat.div_pos_iff] at h1
  have h2 : 2 ^ i < 2 ^ 61 := by omega
  exact (Nat.pow_lt_pow_iff_right (by decide)).1 h2
theorem mem_end {m : Int} (h : InM 61 m) {i : Nat} (hi : i ≤ 61) (hp : ¬ shr64 m (i : Int) > 0) : memN m i = mem m := by
  refine (memN_stop (fun j hj => ?_) (by omega)).symm
  obtain ⟨a, rfl, ha⟩ := inM_nat h
  rw [shr_nat (by omega)] at hp
  have h1 : a < 2 ^ i := by
    have h2 : a / 2 ^ i = 0 := by
      generalize a / 2 ^ i = q at hp ⊢
      omega
    rcases Nat.div_eq_zero_iff.1 h2 with h | h
    · exact absurd h (Nat.ne_of_gt (Nat.two_pow_pos i))
    · exact h
  exact Nat.testBit_lt_two_pow (Nat.lt_of_lt_of_le h1 (Nat.pow_le_pow_right (by decide) hj))
theorem mem_le (m : Int) : (mem m).length ≤ 62 := memN_len m 62

theorem membersOf_c (m : Int) (hm : InM 61 m) : CallA Try.prog 67 [AI m] (ownA eI 2 1 (mem m)) := by
  refine CallA.of Try.func67 rfl (by kernel_rfl) ?_
  refine R.go 14 (R.nil 3 2 1 (by kernel_rfl) ?_)
  refine R.loop ((fun | (i, out) => (⟨(frm 19 [(0, AI m), (3, .ref 0), (4, AI (i : Int))]), [rowA eI 2 1 out]⟩ : St) : Nat × (List Int) → St)) (fun | (i, out) => (i ≤ 61) ∧ (out = memN m i) ∧ (out.length ≤ i)) (fun | (i, out) => 61 - i) (0, []) [0, 3, 4] none (by kernel_rfl) (by kernel_rfl) (by kernel_rfl) ⟨(by omega), (by rfl), (by simp)⟩ ?_
  rintro ⟨i, out⟩ ⟨h4_1, h4_2, h4_3⟩ R1 N2
  refine R.go 5 (R.shr m (i : Int) (by kernel_rfl) (by omega) (by kernel_rfl) ?_)
  refine R.go 2 (R.cond ((shr64 m (i : Int)) > 0) (by kernel_rfl) (fun c5 => ?_) (fun c5 => ?_))
  · refine R.go 7 (R.call true (has_c m (i : Int) (by omega)) (by kernel_rfl) rfl (by kernel_rfl) ?_)
    refine R.go 1 (R.cond (band (shr64 m (i : Int)) 1 = 1) (by kernel_rfl) (fun c6 => ?_) (fun c6 => ?_))
    · refine R.go 4 (R.app eI out [(i : Int)] 0 2 1 8 (by kernel_rfl) eI_one (by decide) (by first | omega | (simp <;> omega)) (by kernel_rfl) ?_)
      refine R.go 5 (R.ar ((i : Int) + 1) (by kernel_rfl) (by omega) (by omega) (by kernel_rfl) ?_)
      exact R.go 2 (R.stop R1 (by kernel_rfl) (N2 (i + 1, out ++ [(i : Int)]) [0, 3, 4] (some [0]) _ (by kernel_rfl) (by kernel_rfl) ⟨(by have := shr_pos hm (by omega) ‹shr64 m (i : Int) > 0›; omega), (by first | (rw [‹out = memN m i›, memN_yes ((has_tb (by decide) hm (by omega)).1 ‹band (shr64 m (i : Int)) 1 = 1›)]) | (rw [‹out = memN m i›, memN_no (fun h => ‹¬ band (shr64 m (i : Int)) 1 = 1› ((has_tb (by decide) hm (by omega)).2 h))])), (by first | omega | (simp <;> omega))⟩ (by show (61 - (i + 1)) < (61 - i); have := shr_pos hm (by omega) ‹shr64 m (i : Int) > 0›; omega)))
    · refine R.go 4 (R.ar ((i : Int) + 1) (by kernel_rfl) (by omega) (by omega) (by kernel_rfl) ?_)
      exact R.go 2 (R.stop R1 (by kernel_rfl) (N2 (i + 1, out) [0, 3, 4] none _ (by kernel_rfl) (by kernel_rfl) ⟨(by have := shr_pos hm (by omega) ‹shr64 m (i : Int) > 0›; omega), (by first | (rw [‹out = memN m i›, memN_yes ((has_tb (by decide) hm (by omega)).1 ‹band (shr64 m (i : Int)) 1 = 1›)]) | (rw [‹out = memN m i›, memN_no (fun h => ‹¬ band (shr64 m (i : Int)) 1 = 1› ((has_tb (by decide) hm (by omega)).2 h))])), (by first | omega | (simp <;> omega))⟩ (by show (61 - (i + 1)) < (61 - i); have := shr_pos hm (by omega) ‹shr64 m (i : Int) > 0›; omega)))
  · exact R.go 6 (R.retE (ownA eI 2 1 out) (by kernel_rfl) (by kernel_rfl) (by first | (rw [‹out = memN m i›, mem_end hm (by omega) (by assumption)]) | (exfalso; omega)))

end Go.Proofs.Ytogehjciaamcfaa


/-! The harness of the laws. -/
namespace Go.Proofs.Ytogehjciaamcfaa
open Go.RowKit Go.Abs

theorem take_step {α : Type} (a b : List α) (d : α) (i : Nat) (ha : i < a.length) (hb : i < b.length) (h : a.take i = b.take i) (e : a.getD i d = b.getD i d) : a.take (i + 1) = b.take (i + 1) := by
  rw [List.take_succ_eq_append_getElem ha, List.take_succ_eq_append_getElem hb, h]
  simp only [List.getD_eq_getElem?_getD, List.getElem?_eq_getElem ha, List.getElem?_eq_getElem hb, Option.getD_some] at e
  rw [e]
theorem take_all {α : Type} {a b : List α} {i : Nat} (ha : a.length ≤ i) (hl : a.length = b.length) (h : a.take i = b.take i) : a = b := by
  rwa [List.take_of_length_le ha, List.take_of_length_le (by omega)] at h
end Go.Proofs.Ytogehjciaamcfaa


/-! Bits of meets, differences and boxes; truth sets stay within the worlds. -/
namespace Go.Proofs.Ytogehjciaamcfaa
open Go.RowKit Go.Abs

theorem tb_nat (a i : Nat) : tb (a : Int) i = a.testBit i := rfl
theorem inM_band {n : Nat} {a b : Int} (hn : n ≤ 61) (ha : InM n a) (hb : InM n b) : InM n (band a b) := by
  obtain ⟨a, rfl, ha'⟩ := inM_nat ha
  obtain ⟨b, rfl, hb'⟩ := inM_nat hb
  rw [band_nat (inM_62 hn ha') (inM_62 hn hb')]
  exact ⟨Int.natCast_nonneg _, by rw [Int.toNat_natCast]; exact Nat.and_lt_two_pow _ hb'⟩
theorem tb_band {n : Nat} {a b : Int} (hn : n ≤ 61) (ha : InM n a) (hb : InM n b) (i : Nat) : tb (band a b) i = (tb a i && tb b i) := by
  obtain ⟨a, rfl, ha'⟩ := inM_nat ha
  obtain ⟨b, rfl, hb'⟩ := inM_nat hb
  rw [band_nat (inM_62 hn ha') (inM_62 hn hb'), tb_nat, tb_nat, tb_nat, Nat.testBit_and]
theorem bnot_nat {a b : Nat} (ha : a < 2 ^ 62) (hb : b < 2 ^ 62) : ∃ c : Nat, bnot (a : Int) (b : Int) = (c : Int) ∧ c ≤ a ∧ ∀ i, c.testBit i = (a.testBit i && !b.testBit i) := by
  have hx : (BitVec.ofNat 64 a &&& ~~~ BitVec.ofNat 64 b).toNat ≤ a := by
    rw [BitVec.toNat_and, toNat_lt ha]
    exact Nat.and_le_left
  refine ⟨(BitVec.ofNat 64 a &&& ~~~ BitVec.ofNat 64 b).toNat, ?_, hx, fun i => ?_⟩
  · rw [bnot_bv, bv_nat, bv_nat, toInt_lt (Nat.lt_of_le_of_lt hx ha)]
  · rw [BitVec.testBit_toNat, BitVec.getLsbD_and, BitVec.getLsbD_not, BitVec.getLsbD_ofNat, BitVec.getLsbD_ofNat]
    by_cases hi : i < 64
    · simp [hi]
    · have h1 : a.testBit i = false := Nat.testBit_lt_two_pow (Nat.lt_of_lt_of_le ha (Nat.pow_le_pow_right (by decide) (by omega)))
      simp [hi, h1]
theorem inM_bnot {n : Nat} {a b : Int} (hn : n ≤ 61) (ha : InM n a) (hb : InM n b) : InM n (bnot a b) := by
  obtain ⟨a, rfl, ha'⟩ := inM_nat ha
  obtain ⟨b, rfl, hb'⟩ := inM_nat hb
  obtain ⟨c, h1, h2, _⟩ := bnot_nat (inM_62 hn ha') (inM_62 hn hb')
  rw [h1]
  exact ⟨Int.natCast_nonneg _, by rw [Int.toNat_natCast]; omega⟩
theorem tb_bnot {n : Nat} {a b : Int} (hn : n ≤ 61) (ha : InM n a) (hb : InM n b) (i : Nat) : tb (bnot a b) i = (tb a i && !tb b i) := by
  obtain ⟨a, rfl, ha'⟩ := inM_nat ha
  obtain ⟨b, rfl, hb'⟩ := inM_nat hb
  obtain ⟨c, h1, _, h3⟩ := bnot_nat (inM_62 hn ha') (inM_62 hn hb')
  rw [h1, tb_nat, tb_nat, tb_nat, h3]
theorem full_nat {n : Nat} (hn : n ≤ 61) : (shl64 1 (n : Int)) - 1 = ((2 ^ n - 1 : Nat) : Int) := by
  rw [shl_nat (by omega)]
  have := Nat.two_pow_pos n
  omega
theorem inM_full {n : Nat} (hn : n ≤ 61) : InM n ((shl64 1 (n : Int)) - 1) := by
  rw [full_nat hn]
  have := Nat.two_pow_pos n
  exact ⟨Int.natCast_nonneg _, by rw [Int.toNat_natCast]; omega⟩
theorem tb_full {n : Nat} (hn : n ≤ 61) (i : Nat) : tb ((shl64 1 (n : Int)) - 1) i = decide (i < n) := by
  rw [full_nat hn, tb_nat, Nat.testBit_two_pow_sub_one]
theorem boxB_ok {n : Nat} {xs : List Int} {m : Int} (hn : n ≤ 61) (h : RelOK n xs) (hm : InM n m) : ∀ i, i ≤ n → InM n (boxB xs m i) ∧ ∀ k, tb (boxB xs m i) k = true ↔ k < i ∧ ∀ j, tb (xs.getD k 0) j = true → tb m j = true
  | 0, _ => ⟨inM_zero n, fun k => by simp [boxB, tb_zero]⟩
  | i + 1, hi => by
    obtain ⟨h1, h2⟩ := boxB_ok hn h hm i (by omega)
    have hb := bnot_sub hn (h.2 i (by omega)) hm
    have hI := inM_one (n := n) hn (show i < n by omega)
    simp only [boxB]
    split
    · rename_i hc
      refine ⟨inM_bor hn h1 hI, fun k => ?_⟩
      rw [tb_bor hn h1 hI, Bool.or_eq_true, h2 k, tb_one (by omega), decide_eq_true_iff]
      constructor
      · rintro (⟨a, b⟩ | rfl)
        · exact ⟨by omega, b⟩
        · exact ⟨by omega, hb.1 hc⟩
      · rintro ⟨a, b⟩
        by_cases hki : i = k
        · exact .inr hki
        · exact .inl ⟨by omega, b⟩
    · rename_i hc
      refine ⟨h1, fun k => ?_⟩
      rw [h2 k]
      constructor
      · rintro ⟨a, b⟩; exact ⟨by omega, b⟩
      · rintro ⟨a, b⟩
        by_cases hki : k = i
        · subst hki; exact absurd (hb.2 b) hc
        · exact ⟨by omega, b⟩

end Go.Proofs.Ytogehjciaamcfaa


/-! Posets: what both packages take for one. -/
namespace Go.Proofs.Ytogehjciaamcfaa
open Go.RowKit Go.Abs

theorem rowN_ext {N : Nat} {X Y : List Int} (hx : X.length = N) (hy : Y.length = N) (h : ∀ j : Nat, j < N → X.getD j 0 = Y.getD j 0) : X = Y := by
  apply List.ext_getElem (by omega)
  intro j h1 h2
  have := h j (by omega)
  simpa [List.getD_eq_getElem?_getD, List.getElem?_eq_getElem h1, List.getElem?_eq_getElem h2] using this
def rB (N : Nat) (xs : List Int) : Bool := (List.range N).all fun i => tb (xs.getD i 0) i
def tB (N : Nat) (xs : List Int) : Bool := (List.range N).all fun i => (List.range N).all fun j => (List.range N).all fun k => !(tb (xs.getD i 0) j && tb (xs.getD j 0) k) || tb (xs.getD i 0) k
def AC (xs : List Int) (i j : Nat) : Prop := tb (xs.getD i 0) j = true → tb (xs.getD j 0) i = true → i = j
def aB (N : Nat) (xs : List Int) : Bool := (List.range N).all fun i => (List.range N).all fun j => !(tb (xs.getD i 0) j && tb (xs.getD j 0) i) || decide (i = j)
def okPo (n : Int) (xs : List Int) : Bool := okFr n xs && (rB n.toNat xs && (tB n.toNat xs && aB n.toNat xs))
theorem rB_iff {N : Nat} {xs : List Int} : rB N xs = true ↔ ∀ i : Nat, i < N → tb (xs.getD i 0) i = true := by simp [rB]
theorem tB_iff {N : Nat} {xs : List Int} : tB N xs = true ↔ ∀ i : Nat, i < N → ∀ j : Nat, j < N → ∀ k : Nat, k < N → tb (xs.getD i 0) j = true → tb (xs.getD j 0) k = true → tb (xs.getD i 0) k = true := by
  simp only [tB, List.all_eq_true, List.mem_range]
  constructor
  · intro h i hi j hj k hk h1 h2
    have := h i hi j hj k hk
    rw [h1, h2] at this
    simpa using this
  · intro h i hi j hj k hk
    cases h1 : tb (xs.getD i 0) j <;> cases h2 : tb (xs.getD j 0) k <;> simp
    have := h i hi j hj k hk h1 h2
    simpa using this
theorem aB_iff {N : Nat} {xs : List Int} : aB N xs = true ↔ ∀ i : Nat, i < N → ∀ j : Nat, j < N → AC xs i j := by
  simp only [aB, List.all_eq_true, List.mem_range]
  constructor
  · intro h i hi j hj h1 h2
    have := h i hi j hj
    rw [h1, h2] at this
    simpa using this
  · intro h i hi j hj
    have := h i hi j hj
    unfold AC at this
    cases h1 : tb (xs.getD i 0) j <;> cases h2 : tb (xs.getD j 0) i <;> simp
    exact this h1 h2
theorem rB_no {N : Nat} {xs : List Int} {i : Nat} (hi : i < N) (h : ¬ tb (xs.getD i 0) i = true) : false = rB N xs := by
  cases e : rB N xs with
  | false => rfl
  | true => exact absurd (rB_iff.1 e i hi) h
theorem aB_no {N : Nat} {xs : List Int} {i j : Nat} (hi : i < N) (hj : j < N) (h1 : tb (xs.getD i 0) j = true) (h2 : tb (xs.getD j 0) i = true) (h : ¬ (i : Int) = (j : Int)) : false = aB N xs := by
  cases e : aB N xs with
  | false => rfl
  | true => exact absurd (aB_iff.1 e i hi j hj h1 h2) (by omega)
theorem bitT {N : Nat} {xs : List Int} (hR : RelOK N xs) (hN : N ≤ 8) {x j : Nat} (hx : x < N) (hj : j ≤ 61) (h : band (shr64 (xs.getD x 0) (j : Int)) 1 = 1) : tb (xs.getD x 0) j = true := (has_tb (n := N) (by omega) (hR.2 x hx) hj).1 h
theorem bitF {N : Nat} {xs : List Int} (hR : RelOK N xs) (hN : N ≤ 8) {x j : Nat} (hx : x < N) (hj : j ≤ 61) (h : ¬ band (shr64 (xs.getD x 0) (j : Int)) 1 = 1) : ¬ tb (xs.getD x 0) j = true := fun e => h ((has_tb (n := N) (by omega) (hR.2 x hx) hj).2 e)
theorem below1 {P : Nat → Prop} {x : Nat} (h : ∀ i : Nat, i < x → P i) (hx : P x) : ∀ i : Nat, i < x + 1 → P i := fun i hi => by
  by_cases e : i = x
  · rw [e]; exact hx
  · exact h i (by omega)
def TR (xs : List Int) (i : Nat) : Prop := bnot (img xs (xs.getD i 0) xs.length) (xs.getD i 0) = 0
theorem TR_iff {N : Nat} {xs : List Int} (hR : RelOK N xs) (hN : N ≤ 8) {i : Nat} (hi : i < N) : TR xs i ↔ ∀ j k : Nat, tb (xs.getD i 0) j = true → tb (xs.getD j 0) k = true → tb (xs.getD i 0) k = true := by
  have hl := hR.1
  have h1 := img_ok (n := N) (by omega) hR (hR.2 i hi) xs.length (by omega)
  rw [TR, bnot_sub (n := N) (by omega) h1.1 (hR.2 i hi)]
  constructor
  · intro h j k a b
    exact h k ((h1.2 k).2 ⟨j, by have := tb_lt (hR.2 i hi) a; omega, a, b⟩)
  · intro h k a
    obtain ⟨j, _, b, c⟩ := (h1.2 k).1 a
    exact h j k b c
theorem tB_of {N : Nat} {xs : List Int} (hR : RelOK N xs) (hN : N ≤ 8) (h : ∀ i : Nat, i < N → TR xs i) : true = tB N xs := (tB_iff.2 fun i hi j _ k _ a b => (TR_iff hR hN hi).1 (h i hi) j k a b).symm
theorem tB_no {N : Nat} {xs : List Int} (hR : RelOK N xs) (hN : N ≤ 8) {i : Nat} (hi : i < N) (h : ¬ bnot (img xs (xs.getD i 0) xs.length) (xs.getD i 0) = 0) : false = tB N xs := by
  cases e : tB N xs with
  | false => rfl
  | true => exact absurd ((TR_iff hR hN hi).2 fun j k a b => tB_iff.1 e i hi j (tb_lt (hR.2 i hi) a) k (tb_lt (hR.2 j (tb_lt (hR.2 i hi) a)) b) a b) h
/-! By the closure. -/
theorem trW {N : Nat} {xs : List Int} (hR : RelOK N xs) (hN : N ≤ 8) : decide (wout xs xs.length = xs) = tB N xs := by
  have hl := hR.1
  obtain ⟨w1, w2⟩ := wout_ok (n := N) (by omega) hR N (Nat.le_refl _)
  rw [Bool.eq_iff_iff, decide_eq_true_iff, tB_iff, hl]
  constructor
  · intro e i hi j hj k hk a b
    have h1 := (w2 i hi k).2 (.via (.edge ⟨by omega, a⟩) hj (.edge ⟨by omega, b⟩))
    rwa [e] at h1
  · intro h
    refine rowN_ext w1.1 hl fun p hp => tb_ext (w1.2 p hp).1 (hR.2 p hp).1 fun k => ?_
    rw [Bool.eq_iff_iff, w2 p hp]
    constructor
    · intro hpt
      induction hpt with
      | edge e => exact e.2
      | @via i m k _ hm _ i1 i2 =>
        have a := i1 hp
        have b := i2 hm
        exact h i hp m hm k (tb_lt (hR.2 m hm) b) a b
    · intro a
      exact .edge ⟨by omega, a⟩
/-! The inverse. -/
def invJ (ys : List Int) (i : Nat) (L : List Int) : List Int := L.foldl (fun o j => o.set j.toNat (bor (o.getD j.toNat 0) (shl64 1 (i : Int)))) ys
def invA (xs : List Int) : Nat → List Int
  | 0 => List.replicate xs.length 0
  | i + 1 => invJ (invA xs i) i (mem (xs.getD i 0))
theorem invJ_snoc {ys : List Int} {i : Nat} {L : List Int} {t : Nat} (h : t < L.length) : (invJ ys i (L.take t)).set (L.getD t 0).toNat (bor ((invJ ys i (L.take t)).getD (L.getD t 0).toNat 0) (shl64 1 (i : Int))) = invJ ys i (L.take (t + 1)) := by
  rw [List.take_succ_eq_append_getElem h, invJ, invJ, List.foldl_append, List.getD_eq_getElem?_getD (l := L), List.getElem?_eq_getElem h]
  rfl
theorem invJ_len (i : Nat) : ∀ (L : List Int) (ys : List Int), (invJ ys i L).length = ys.length
  | [], _ => rfl
  | j :: L, ys => by
    have := invJ_len i L (ys.set j.toNat (bor (ys.getD j.toNat 0) (shl64 1 (i : Int))))
    rw [List.length_set] at this
    exact this
theorem invA_len (xs : List Int) : ∀ i : Nat, (invA xs i).length = xs.length
  | 0 => by simp [invA]
  | i + 1 => by rw [invA, invJ_len, invA_len xs i]
theorem invJ_ok {N i : Nat} (hN : N ≤ 8) (hi : i < N) : ∀ (L : List Int) (ys : List Int), RelOK N ys → (∀ j ∈ L, 0 ≤ j ∧ j < (N : Int)) → RelOK N (invJ ys i L) ∧ ∀ j : Nat, j < N → ∀ k, tb ((invJ ys i L).getD j 0) k = true ↔ tb (ys.getD j 0) k = true ∨ (k = i ∧ (j : Int) ∈ L)
  | [], ys, h, _ => ⟨h, fun j hj k => by simp [invJ]⟩
  | v :: L, ys, h, hL => by
    have hv := hL v (List.mem_cons_self ..)
    have ho := inM_one (n := N) (by omega) hi
    have hvl : v.toNat < ys.length := by rw [h.1]; omega
    have hb := inM_bor (n := N) (by omega) (h.2 v.toNat (by omega)) ho
    have h2 : RelOK N (ys.set v.toNat (bor (ys.getD v.toNat 0) (shl64 1 (i : Int)))) := ⟨by rw [List.length_set, h.1], fun j hj => by
      rw [getD_set_if _ _ _ _ _ hvl]
      split
      · exact hb
      · exact h.2 j hj⟩
    obtain ⟨i1, i2⟩ := invJ_ok hN hi L _ h2 fun j hj => hL j (List.mem_cons_of_mem _ hj)
    refine ⟨i1, fun j hj k => ?_⟩
    have e0 : invJ ys i (v :: L) = invJ (ys.set v.toNat (bor (ys.getD v.toNat 0) (shl64 1 (i : Int)))) i L := rfl
    rw [e0, i2 j hj, getD_set_if _ _ _ _ _ hvl, List.mem_cons]
    split
    · rename_i e
      rw [tb_bor (n := N) (by omega) (h.2 v.toNat (by omega)) ho, tb_one (by omega), Bool.or_eq_true, decide_eq_true_eq, e]
      have hjv : (j : Int) = v := by omega
      constructor
      · rintro ((a | a) | ⟨a, b⟩)
        · exact .inl a
        · exact .inr ⟨a.symm, .inl hjv⟩
        · exact .inr ⟨a, .inr b⟩
      · rintro (a | ⟨a, b | b⟩)
        · exact .inl (.inl a)
        · exact .inl (.inr a.symm)
        · exact .inr ⟨a, b⟩
    · rename_i e
      have hjv : ¬ (j : Int) = v := by omega
      constructor
      · rintro (a | ⟨a, b⟩)
        · exact .inl a
        · exact .inr ⟨a, .inr b⟩
      · rintro (a | ⟨a, b | b⟩)
        · exact .inl a
        · exact absurd b hjv
        · exact .inr ⟨a, b⟩
theorem mem_iff {N : Nat} {m : Int} (hN : N ≤ 61) (h : InM N m) {j : Nat} : (j : Int) ∈ mem m ↔ tb m j = true := by
  rw [mem, memN_mem]
  constructor
  · rintro ⟨k, _, h2, h3⟩
    rw [show j = k by omega]; exact h2
  · intro hb
    exact ⟨j, by have := tb_lt h hb; omega, hb, rfl⟩
theorem mem_lt {N : Nat} {m : Int} (hN : N ≤ 61) (h : InM N m) : ∀ v ∈ mem m, 0 ≤ v ∧ v < (N : Int) := fun v hv => by
  rw [mem, memN_mem] at hv
  obtain ⟨k, _, h2, rfl⟩ := hv
  have := tb_lt h h2
  omega
theorem mem_lt' {N : Nat} {m : Int} (hN : N ≤ 61) (h : InM N m) {t : Nat} (ht : t < (mem m).length) : 0 ≤ (mem m).getD t 0 ∧ (mem m).getD t 0 < (N : Int) := by
  refine mem_lt hN h _ ?_
  rw [List.getD_eq_getElem?_getD, List.getElem?_eq_getElem ht]
  exact List.getElem_mem _
theorem invA_ok {N : Nat} {xs : List Int} (hR : RelOK N xs) (hN : N ≤ 8) : ∀ i : Nat, i ≤ N → RelOK N (invA xs i) ∧ ∀ j : Nat, j < N → ∀ k, tb ((invA xs i).getD j 0) k = true ↔ k < i ∧ tb (xs.getD k 0) j = true
  | 0, _ => ⟨⟨by simp [invA, hR.1], fun j hj => by
      have : (invA xs 0).getD j 0 = 0 := by
        simp only [invA, List.getD_eq_getElem?_getD, List.getElem?_replicate]
        split <;> rfl
      rw [this]; exact inM_zero _⟩, fun j hj k => by
      have : (invA xs 0).getD j 0 = 0 := by
        simp only [invA, List.getD_eq_getElem?_getD, List.getElem?_replicate]
        split <;> rfl
      rw [this]; simp [tb_zero]⟩
  | i + 1, hi => by
    obtain ⟨h1, h2⟩ := invA_ok hR hN i (by omega)
    have hm := hR.2 i (by omega)
    obtain ⟨g1, g2⟩ := invJ_ok hN (show i < N by omega) (mem (xs.getD i 0)) (invA xs i) h1 (mem_lt (by omega) hm)
    refine ⟨g1, fun j hj k => ?_⟩
    rw [invA, g2 j hj, h2 j hj, mem_iff (by omega) hm]
    constructor
    · rintro (⟨a, b⟩ | ⟨rfl, b⟩)
      · exact ⟨by omega, b⟩
      · exact ⟨by omega, b⟩
    · rintro ⟨a, b⟩
      by_cases e : k = i
      · subst e; exact .inr ⟨rfl, b⟩
      · exact .inl ⟨by omega, b⟩
def AN (xs zs : List Int) (x : Nat) : Prop := bnot (band (xs.getD x 0) (zs.getD x 0)) (shl64 1 (x : Int)) = 0
theorem AN_iff {N : Nat} {xs zs : List Int} (hR : RelOK N xs) (hN : N ≤ 8) (hz : zs = invA xs xs.length) {x : Nat} (hx : x < N) : AN xs zs x ↔ ∀ j : Nat, j < N → AC xs x j := by
  obtain ⟨z1, z2⟩ := invA_ok hR hN N (Nat.le_refl _)
  rw [hR.1] at hz
  subst hz
  have hb := inM_band (n := N) (by omega) (hR.2 x hx) (z1.2 x hx)
  rw [AN, bnot_sub (n := N) (by omega) hb (inM_one (by omega) hx)]
  constructor
  · intro h j hj a b
    have := h j (by rw [tb_band (n := N) (by omega) (hR.2 x hx) (z1.2 x hx), a, (z2 x hx j).2 ⟨hj, b⟩]; rfl)
    rw [tb_one (by omega)] at this
    exact of_decide_eq_true this
  · intro h k hk
    rw [tb_band (n := N) (by omega) (hR.2 x hx) (z1.2 x hx), Bool.and_eq_true, z2 x hx] at hk
    rw [tb_one (by omega)]
    exact decide_eq_true (h k hk.2.1 hk.1 hk.2.2)
theorem aB_of {N : Nat} {xs zs : List Int} (hR : RelOK N xs) (hN : N ≤ 8) (hz : zs = invA xs xs.length) (h : ∀ i : Nat, i < N → AN xs zs i) : true = aB N xs := (aB_iff.2 fun i hi j hj => (AN_iff hR hN hz hi).1 (h i hi) j hj).symm
theorem aB_noN {N : Nat} {xs zs : List Int} (hR : RelOK N xs) (hN : N ≤ 8) (hz : zs = invA xs xs.length) {x : Nat} (hx : x < N) (h : ¬ bnot (band (xs.getD x 0) (zs.getD x 0)) (shl64 1 (x : Int)) = 0) : false = aB N xs := by
  cases e : aB N xs with
  | false => rfl
  | true => exact absurd ((AN_iff hR hN hz hx).2 fun j hj => aB_iff.1 e x hx j hj) h
theorem okPo_fr {n : Int} {xs : List Int} (h : okPo n xs = true) : okFr n xs = true := by
  simp only [okPo, Bool.and_eq_true] at h
  exact h.1
theorem okPo_0 {n : Int} {xs : List Int} (h : okFr n xs = false) : false = okPo n xs := by simp [okPo, h]
theorem okPo_1 {n : Int} {xs : List Int} (h : okFr n xs = true) (h1 : rB n.toNat xs = false) : false = okPo n xs := by simp [okPo, h, h1]
theorem okPo_2 {n : Int} {xs : List Int} (h : okFr n xs = true) (h1 : rB n.toNat xs = true) (h2 : tB n.toNat xs = false) : false = okPo n xs := by simp [okPo, h, h1, h2]
theorem okPo_3 {n : Int} {xs : List Int} (h : okFr n xs = true) (h1 : rB n.toNat xs = true) (h2 : tB n.toNat xs = true) : aB n.toNat xs = okPo n xs := by simp [okPo, h, h1, h2]

theorem flagR_c (n : Int) (xs : List Int) (hR : okFr n xs = true) : CallA Try.prog 64 [.agg [AI n, LI xs], AI 0] (.bool (rB n.toNat xs)) := by
  have hF := okFr_rel hR
  have hRel : RelOK n.toNat xs := hF.2.2.2
  have hb0 : 0 ≤ n ∧ n ≤ 8 ∧ (xs.length : Int) = n := ⟨hF.1, hF.2.1, hF.2.2.1⟩
  have hN8 : n.toNat ≤ 8 := by omega
  refine CallA.of Try.func64 rfl (by kernel_rfl) ?_
  refine R.go 20 (R.loop (fun (x : Nat) => (⟨(frm 175 [(1, AI 0), (5, AI n), (6, LI xs), (7, AI (x : Int))]), []⟩ : St)) (fun (x : Nat) => (x ≤ n.toNat) ∧ (∀ i : Nat, i < x → tb (xs.getD i 0) i = true)) (fun (x : Nat) => n.toNat - x) 0 [1, 5, 6, 7] (some []) (by kernel_rfl) (by kernel_rfl) (by kernel_rfl) ⟨(by omega), (by exact fun i hi => absurd hi (by omega))⟩ ?_)
  rintro x ⟨h3_1, h3_2⟩ R1 N2
  refine R.go 7 (R.cond ((x : Int) < n) (by kernel_rfl) (fun c4 => ?_) (fun c4 => ?_))
  · refine R.go 19 (R.idx eI xs 0 x (x : Int) (by kernel_rfl) rfl eI_len (by omega) (by kernel_rfl) ?_)
    refine R.go 2 (R.call true (l01Bit_c (xs.getD x 0) (x : Int) (by omega) (by omega)) (by kernel_rfl) rfl (by kernel_rfl) ?_)
    refine R.go 2 (R.condN (band (shr64 (xs.getD x 0) (x : Int)) 1 = 1) (by kernel_rfl) (fun c5 => ?_) (fun c5 => ?_))
    · exact R.go 4 (R.retE (.bool false) (by kernel_rfl) (by kernel_rfl) (by first | (apply congrArg AV.bool; first | exact rB_no (i := x) (by omega) (bitF hRel hN8 (by omega) (by omega) (by assumption)) | exact (rB_iff.2 fun i hi => (‹∀ i : Nat, i < x → tb (xs.getD i 0) i = true›) i (by omega)).symm) | (exfalso; omega)))
    · refine R.go 7 (R.loop (fun (y : Nat) => (⟨(frm 175 [(1, AI 0), (5, AI n), (6, LI xs), (7, AI (x : Int)), (8, AI (y : Int))]), []⟩ : St)) (fun (y : Nat) => y ≤ n.toNat) (fun (y : Nat) => n.toNat - y) 0 [1, 5, 6, 7, 8] none (by kernel_rfl) (by kernel_rfl) (by kernel_rfl) (by omega) ?_)
      rintro y h8_1 R6 N7
      refine R.go 7 (R.cond ((y : Int) < n) (by kernel_rfl) (fun c9 => ?_) (fun c9 => ?_))
      · refine R.go 8 (R.idx eI xs 0 x (x : Int) (by kernel_rfl) rfl eI_len (by omega) (by kernel_rfl) ?_)
        refine R.go 2 (R.call true (l01Bit_c (xs.getD x 0) (y : Int) (by omega) (by omega)) (by kernel_rfl) rfl (by kernel_rfl) ?_)
        refine R.go 2 (R.condN (band (shr64 (xs.getD x 0) (y : Int)) 1 = 1) (by kernel_rfl) (fun c10 => ?_) (fun c10 => ?_))
        · refine R.go 3 (R.ar ((y : Int) + 1) (by kernel_rfl) (by omega) (by omega) (by kernel_rfl) ?_)
          exact R.go 2 (R.stop R6 (by kernel_rfl) (N7 (y + 1) [1, 5, 6, 7, 8] none _ (by kernel_rfl) (by kernel_rfl) (by omega) (by show (n.toNat - (y + 1)) < (n.toNat - y); omega)))
        · refine R.go 38 (R.loop (fun (z : Nat) => (⟨(frm 175 [(1, AI 0), (5, AI n), (6, LI xs), (7, AI (x : Int)), (8, AI (y : Int)), (9, AI (z : Int))]), []⟩ : St)) (fun (z : Nat) => z ≤ n.toNat) (fun (z : Nat) => n.toNat - z) 0 [1, 5, 6, 7, 8, 9] none (by kernel_rfl) (by kernel_rfl) (by kernel_rfl) (by omega) ?_)
          rintro z h13_1 R11 N12
          refine R.go 7 (R.cond ((z : Int) < n) (by kernel_rfl) (fun c14 => ?_) (fun c14 => ?_))
          · refine R.go 8 (R.idx eI xs 0 x (x : Int) (by kernel_rfl) rfl eI_len (by omega) (by kernel_rfl) ?_)
            refine R.go 2 (R.call true (l01Bit_c (xs.getD x 0) (z : Int) (by omega) (by omega)) (by kernel_rfl) rfl (by kernel_rfl) ?_)
            refine R.go 2 (R.condN (band (shr64 (xs.getD x 0) (z : Int)) 1 = 1) (by kernel_rfl) (fun c15 => ?_) (fun c15 => ?_))
            · refine R.go 3 (R.ar ((z : Int) + 1) (by kernel_rfl) (by omega) (by omega) (by kernel_rfl) ?_)
              exact R.go 2 (R.stop R11 (by kernel_rfl) (N12 (z + 1) [1, 5, 6, 7, 8, 9] none _ (by kernel_rfl) (by kernel_rfl) (by omega) (by show (n.toNat - (z + 1)) < (n.toNat - z); omega)))
            · refine R.go 45 (R.ar ((z : Int) + 1) (by kernel_rfl) (by omega) (by omega) (by kernel_rfl) ?_)
              exact R.go 2 (R.stop R11 (by kernel_rfl) (N12 (z + 1) [1, 5, 6, 7, 8, 9] none _ (by kernel_rfl) (by kernel_rfl) (by omega) (by show (n.toNat - (z + 1)) < (n.toNat - z); omega)))
          · refine R.go 4 (R.ar ((y : Int) + 1) (by kernel_rfl) (by omega) (by omega) (by kernel_rfl) ?_)
            exact R.go 2 (R.stop R6 (by kernel_rfl) (N7 (y + 1) [1, 5, 6, 7, 8] none _ (by kernel_rfl) (by kernel_rfl) (by omega) (by show (n.toNat - (y + 1)) < (n.toNat - y); omega)))
      · refine R.go 4 (R.ar ((x : Int) + 1) (by kernel_rfl) (by omega) (by omega) (by kernel_rfl) ?_)
        exact R.go 2 (R.stop R1 (by kernel_rfl) (N2 (x + 1) [1, 5, 6, 7] none _ (by kernel_rfl) (by kernel_rfl) ⟨(by omega), (by exact below1 (by assumption) (bitT hRel hN8 (by omega) (by omega) (by assumption)))⟩ (by show (n.toNat - (x + 1)) < (n.toNat - x); omega)))
  · exact R.go 5 (R.retE (.bool true) (by kernel_rfl) (by kernel_rfl) (by first | (apply congrArg AV.bool; first | exact rB_no (i := x) (by omega) (bitF hRel hN8 (by omega) (by omega) (by assumption)) | exact (rB_iff.2 fun i hi => (‹∀ i : Nat, i < x → tb (xs.getD i 0) i = true›) i (by omega)).symm) | (exfalso; omega)))

theorem flagT_c (n : Int) (xs : List Int) (hR : okFr n xs = true) : CallA Try.prog 64 [.agg [AI n, LI xs], AI 2] (.bool (tB n.toNat xs)) := by
  have hF := okFr_rel hR
  have hRel : RelOK n.toNat xs := hF.2.2.2
  have hb0 : 0 ≤ n ∧ n ≤ 8 ∧ (xs.length : Int) = n := ⟨hF.1, hF.2.1, hF.2.2.1⟩
  have hN8 : n.toNat ≤ 8 := by omega
  refine CallA.of Try.func64 rfl (by kernel_rfl) ?_
  refine R.go 20 (R.loop (fun (x : Nat) => (⟨(frm 175 [(1, AI 2), (5, AI n), (6, LI xs), (7, AI (x : Int))]), []⟩ : St)) (fun (x : Nat) => (x ≤ n.toNat) ∧ (∀ i : Nat, i < x → TR xs i)) (fun (x : Nat) => n.toNat - x) 0 [1, 5, 6, 7] (some []) (by kernel_rfl) (by kernel_rfl) (by kernel_rfl) ⟨(by omega), (by exact fun i hi => absurd hi (by omega))⟩ ?_)
  rintro x ⟨h3_1, h3_2⟩ R1 N2
  refine R.go 7 (R.cond ((x : Int) < n) (by kernel_rfl) (fun c4 => ?_) (fun c4 => ?_))
  · refine R.go 32 (R.idx eI xs 0 x (x : Int) (by kernel_rfl) rfl eI_len (by omega) (by kernel_rfl) ?_)
    refine R.go 1 (R.call true (l01Image_c xs (xs.getD x 0) (by first | omega | (simp <;> omega))) (by kernel_rfl) rfl (by kernel_rfl) ?_)
    refine R.go 2 (R.idx eI xs 0 x (x : Int) (by kernel_rfl) rfl eI_len (by omega) (by kernel_rfl) ?_)
    refine R.go 4 (R.condN ((bnot (img xs (xs.getD x 0) xs.length) (xs.getD x 0)) = 0) (by kernel_rfl) (fun c5 => ?_) (fun c5 => ?_))
    · exact R.go 4 (R.retE (.bool false) (by kernel_rfl) (by kernel_rfl) (by first | (apply congrArg AV.bool; first | exact tB_no hRel hN8 (i := x) (by omega) (by assumption) | exact tB_of hRel hN8 fun i hi => (‹∀ i : Nat, i < x → TR xs i›) i (by omega)) | (exfalso; omega)))
    · refine R.go 7 (R.loop (fun (y : Nat) => (⟨(frm 175 [(1, AI 2), (5, AI n), (6, LI xs), (7, AI (x : Int)), (8, AI (y : Int))]), []⟩ : St)) (fun (y : Nat) => y ≤ n.toNat) (fun (y : Nat) => n.toNat - y) 0 [1, 5, 6, 7, 8] none (by kernel_rfl) (by kernel_rfl) (by kernel_rfl) (by omega) ?_)
      rintro y h8_1 R6 N7
      refine R.go 7 (R.cond ((y : Int) < n) (by kernel_rfl) (fun c9 => ?_) (fun c9 => ?_))
      · refine R.go 8 (R.idx eI xs 0 x (x : Int) (by kernel_rfl) rfl eI_len (by omega) (by kernel_rfl) ?_)
        refine R.go 2 (R.call true (l01Bit_c (xs.getD x 0) (y : Int) (by omega) (by omega)) (by kernel_rfl) rfl (by kernel_rfl) ?_)
        refine R.go 2 (R.condN (band (shr64 (xs.getD x 0) (y : Int)) 1 = 1) (by kernel_rfl) (fun c10 => ?_) (fun c10 => ?_))
        · refine R.go 3 (R.ar ((y : Int) + 1) (by kernel_rfl) (by omega) (by omega) (by kernel_rfl) ?_)
          exact R.go 2 (R.stop R6 (by kernel_rfl) (N7 (y + 1) [1, 5, 6, 7, 8] none _ (by kernel_rfl) (by kernel_rfl) (by omega) (by show (n.toNat - (y + 1)) < (n.toNat - y); omega)))
        · refine R.go 38 (R.loop (fun (z : Nat) => (⟨(frm 175 [(1, AI 2), (5, AI n), (6, LI xs), (7, AI (x : Int)), (8, AI (y : Int)), (9, AI (z : Int))]), []⟩ : St)) (fun (z : Nat) => z ≤ n.toNat) (fun (z : Nat) => n.toNat - z) 0 [1, 5, 6, 7, 8, 9] none (by kernel_rfl) (by kernel_rfl) (by kernel_rfl) (by omega) ?_)
          rintro z h13_1 R11 N12
          refine R.go 7 (R.cond ((z : Int) < n) (by kernel_rfl) (fun c14 => ?_) (fun c14 => ?_))
          · refine R.go 8 (R.idx eI xs 0 x (x : Int) (by kernel_rfl) rfl eI_len (by omega) (by kernel_rfl) ?_)
            refine R.go 2 (R.call true (l01Bit_c (xs.getD x 0) (z : Int) (by omega) (by omega)) (by kernel_rfl) rfl (by kernel_rfl) ?_)
            refine R.go 2 (R.condN (band (shr64 (xs.getD x 0) (z : Int)) 1 = 1) (by kernel_rfl) (fun c15 => ?_) (fun c15 => ?_))
            · refine R.go 3 (R.ar ((z : Int) + 1) (by kernel_rfl) (by omega) (by omega) (by kernel_rfl) ?_)
              exact R.go 2 (R.stop R11 (by kernel_rfl) (N12 (z + 1) [1, 5, 6, 7, 8, 9] none _ (by kernel_rfl) (by kernel_rfl) (by omega) (by show (n.toNat - (z + 1)) < (n.toNat - z); omega)))
            · refine R.go 45 (R.ar ((z : Int) + 1) (by kernel_rfl) (by omega) (by omega) (by kernel_rfl) ?_)
              exact R.go 2 (R.stop R11 (by kernel_rfl) (N12 (z + 1) [1, 5, 6, 7, 8, 9] none _ (by kernel_rfl) (by kernel_rfl) (by omega) (by show (n.toNat - (z + 1)) < (n.toNat - z); omega)))
          · refine R.go 4 (R.ar ((y : Int) + 1) (by kernel_rfl) (by omega) (by omega) (by kernel_rfl) ?_)
            exact R.go 2 (R.stop R6 (by kernel_rfl) (N7 (y + 1) [1, 5, 6, 7, 8] none _ (by kernel_rfl) (by kernel_rfl) (by omega) (by show (n.toNat - (y + 1)) < (n.toNat - y); omega)))
      · refine R.go 4 (R.ar ((x : Int) + 1) (by kernel_rfl) (by omega) (by omega) (by kernel_rfl) ?_)
        exact R.go 2 (R.stop R1 (by kernel_rfl) (N2 (x + 1) [1, 5, 6, 7] none _ (by kernel_rfl) (by kernel_rfl) ⟨(by omega), (by exact below1 (by assumption) (show bnot (img xs (xs.getD x 0) xs.length) (xs.getD x 0) = 0 by assumption))⟩ (by show (n.toNat - (x + 1)) < (n.toNat - x); omega)))
  · exact R.go 5 (R.retE (.bool true) (by kernel_rfl) (by kernel_rfl) (by first | (apply congrArg AV.bool; first | exact tB_no hRel hN8 (i := x) (by omega) (by assumption) | exact tB_of hRel hN8 fun i hi => (‹∀ i : Nat, i < x → TR xs i›) i (by omega)) | (exfalso; omega)))

theorem flagA_c (n : Int) (xs : List Int) (hR : okFr n xs = true) : CallA Try.prog 64 [.agg [AI n, LI xs], AI 8] (.bool (aB n.toNat xs)) := by
  have hF := okFr_rel hR
  have hRel : RelOK n.toNat xs := hF.2.2.2
  have hb0 : 0 ≤ n ∧ n ≤ 8 ∧ (xs.length : Int) = n := ⟨hF.1, hF.2.1, hF.2.2.1⟩
  have hN8 : n.toNat ≤ 8 := by omega
  refine CallA.of Try.func64 rfl (by kernel_rfl) ?_
  refine R.go 20 (R.loop (fun (x : Nat) => (⟨(frm 175 [(1, AI 8), (5, AI n), (6, LI xs), (7, AI (x : Int))]), []⟩ : St)) (fun (x : Nat) => (x ≤ n.toNat) ∧ (∀ i : Nat, i < x → ∀ j : Nat, j < n.toNat → AC xs i j)) (fun (x : Nat) => n.toNat - x) 0 [1, 5, 6, 7] (some []) (by kernel_rfl) (by kernel_rfl) (by kernel_rfl) ⟨(by omega), (by exact fun i hi => absurd hi (by omega))⟩ ?_)
  rintro x ⟨h3_1, h3_2⟩ R1 N2
  refine R.go 7 (R.cond ((x : Int) < n) (by kernel_rfl) (fun c4 => ?_) (fun c4 => ?_))
  · refine R.go 46 (R.loop (fun (y : Nat) => (⟨(frm 175 [(1, AI 8), (5, AI n), (6, LI xs), (7, AI (x : Int)), (8, AI (y : Int))]), []⟩ : St)) (fun (y : Nat) => (y ≤ n.toNat) ∧ (∀ j : Nat, j < y → AC xs x j)) (fun (y : Nat) => n.toNat - y) 0 [1, 5, 6, 7, 8] none (by kernel_rfl) (by kernel_rfl) (by kernel_rfl) ⟨(by omega), (by exact fun j hj => absurd hj (by omega))⟩ ?_)
    rintro y ⟨h7_1, h7_2⟩ R5 N6
    refine R.go 7 (R.cond ((y : Int) < n) (by kernel_rfl) (fun c8 => ?_) (fun c8 => ?_))
    · refine R.go 8 (R.idx eI xs 0 x (x : Int) (by kernel_rfl) rfl eI_len (by omega) (by kernel_rfl) ?_)
      refine R.go 2 (R.call true (l01Bit_c (xs.getD x 0) (y : Int) (by omega) (by omega)) (by kernel_rfl) rfl (by kernel_rfl) ?_)
      refine R.go 2 (R.condN (band (shr64 (xs.getD x 0) (y : Int)) 1 = 1) (by kernel_rfl) (fun c9 => ?_) (fun c9 => ?_))
      · refine R.go 3 (R.ar ((y : Int) + 1) (by kernel_rfl) (by omega) (by omega) (by kernel_rfl) ?_)
        exact R.go 2 (R.stop R5 (by kernel_rfl) (N6 (y + 1) [1, 5, 6, 7, 8] none _ (by kernel_rfl) (by kernel_rfl) ⟨(by omega), (by exact below1 (by assumption) (by unfold AC; first | (refine fun a => absurd a (bitF hRel hN8 ?_ ?_ ?_) <;> first | omega | assumption) | (refine fun _ b => absurd b (bitF hRel hN8 ?_ ?_ ?_) <;> first | omega | assumption) | (intro _ _; omega)))⟩ (by show (n.toNat - (y + 1)) < (n.toNat - y); omega)))
      · refine R.go 31 ?_
        by_cases c10 : (x : Int) = (y : Int)
        · refine R.skp (!decide ((x : Int) = (y : Int))) true (by kernel_rfl) (nF c10) (by kernel_rfl) ?_
          refine R.skp (!decide ((x : Int) = (y : Int))) true (by kernel_rfl) (nF c10) (by kernel_rfl) ?_
          refine R.skp (!decide ((x : Int) = (y : Int))) true (by kernel_rfl) (nF c10) (by kernel_rfl) ?_
          refine R.skp (!decide ((x : Int) = (y : Int))) true (by kernel_rfl) (nF c10) (by kernel_rfl) ?_
          refine R.skp (!decide ((x : Int) = (y : Int))) true (by kernel_rfl) (nF c10) (by kernel_rfl) ?_
          refine R.skp (!decide ((x : Int) = (y : Int))) true (by kernel_rfl) (nF c10) (by kernel_rfl) ?_
          refine R.pick (!decide ((x : Int) = (y : Int))) false (by kernel_rfl) (nF c10) (by kernel_rfl) ?_
          refine R.go 9 (R.loop (fun (z : Nat) => (⟨(frm 175 [(1, AI 8), (5, AI n), (6, LI xs), (7, AI (x : Int)), (8, AI (y : Int)), (9, AI (z : Int))]), []⟩ : St)) (fun (z : Nat) => z ≤ n.toNat) (fun (z : Nat) => n.toNat - z) 0 [1, 5, 6, 7, 8, 9] none (by kernel_rfl) (by kernel_rfl) (by kernel_rfl) (by omega) ?_)
          rintro z h13_1 R11 N12
          refine R.go 7 (R.cond ((z : Int) < n) (by kernel_rfl) (fun c14 => ?_) (fun c14 => ?_))
          · refine R.go 8 (R.idx eI xs 0 x (x : Int) (by kernel_rfl) rfl eI_len (by omega) (by kernel_rfl) ?_)
            refine R.go 2 (R.call true (l01Bit_c (xs.getD x 0) (z : Int) (by omega) (by omega)) (by kernel_rfl) rfl (by kernel_rfl) ?_)
            refine R.go 2 (R.condN (band (shr64 (xs.getD x 0) (z : Int)) 1 = 1) (by kernel_rfl) (fun c15 => ?_) (fun c15 => ?_))
            · refine R.go 3 (R.ar ((z : Int) + 1) (by kernel_rfl) (by omega) (by omega) (by kernel_rfl) ?_)
              exact R.go 2 (R.stop R11 (by kernel_rfl) (N12 (z + 1) [1, 5, 6, 7, 8, 9] none _ (by kernel_rfl) (by kernel_rfl) (by omega) (by show (n.toNat - (z + 1)) < (n.toNat - z); omega)))
            · refine R.go 45 (R.ar ((z : Int) + 1) (by kernel_rfl) (by omega) (by omega) (by kernel_rfl) ?_)
              exact R.go 2 (R.stop R11 (by kernel_rfl) (N12 (z + 1) [1, 5, 6, 7, 8, 9] none _ (by kernel_rfl) (by kernel_rfl) (by omega) (by show (n.toNat - (z + 1)) < (n.toNat - z); omega)))
          · refine R.go 4 (R.ar ((y : Int) + 1) (by kernel_rfl) (by omega) (by omega) (by kernel_rfl) ?_)
            exact R.go 2 (R.stop R5 (by kernel_rfl) (N6 (y + 1) [1, 5, 6, 7, 8] none _ (by kernel_rfl) (by kernel_rfl) ⟨(by omega), (by exact below1 (by assumption) (by unfold AC; first | (refine fun a => absurd a (bitF hRel hN8 ?_ ?_ ?_) <;> first | omega | assumption) | (refine fun _ b => absurd b (bitF hRel hN8 ?_ ?_ ?_) <;> first | omega | assumption) | (intro _ _; omega)))⟩ (by show (n.toNat - (y + 1)) < (n.toNat - y); omega)))
        · refine R.want (!decide ((x : Int) = (y : Int))) true (by kernel_rfl) (nT c10) ?_
          refine R.go 1 (R.want (!decide ((x : Int) = (y : Int))) true (by kernel_rfl) (nT c10) ?_)
          refine R.go 1 (R.want (!decide ((x : Int) = (y : Int))) true (by kernel_rfl) (nT c10) ?_)
          refine R.idx eI xs 0 y (y : Int) (by kernel_rfl) rfl eI_len (by omega) (by kernel_rfl) ?_
          refine R.want (!decide ((x : Int) = (y : Int))) true (by kernel_rfl) (nT c10) ?_
          refine R.go 1 (R.want (!decide ((x : Int) = (y : Int))) true (by kernel_rfl) (nT c10) ?_)
          refine R.go 1 (R.want (!decide ((x : Int) = (y : Int))) true (by kernel_rfl) (nT c10) ?_)
          refine R.call true (l01Bit_c (xs.getD y 0) (x : Int) (by omega) (by omega)) (by kernel_rfl) rfl (by kernel_rfl) ?_
          refine R.pick (!decide ((x : Int) = (y : Int))) true (by kernel_rfl) (nT c10) (by kernel_rfl) ?_
          refine R.go 1 (R.cond (band (shr64 (xs.getD y 0) (x : Int)) 1 = 1) (by kernel_rfl) (fun c16 => ?_) (fun c16 => ?_))
          · exact R.go 4 (R.retE (.bool false) (by kernel_rfl) (by kernel_rfl) (by first | (apply congrArg AV.bool; first | exact aB_no (i := x) (j := y) (by omega) (by omega) (bitT hRel hN8 (by omega) (by omega) (by assumption)) (bitT hRel hN8 (by omega) (by omega) (by assumption)) (by assumption) | exact (aB_iff.2 fun i hi => (‹∀ i : Nat, i < x → ∀ j : Nat, j < n.toNat → AC xs i j›) i (by omega)).symm) | (exfalso; omega)))
          · refine R.go 7 (R.loop (fun (z : Nat) => (⟨(frm 175 [(1, AI 8), (5, AI n), (6, LI xs), (7, AI (x : Int)), (8, AI (y : Int)), (9, AI (z : Int))]), []⟩ : St)) (fun (z : Nat) => z ≤ n.toNat) (fun (z : Nat) => n.toNat - z) 0 [1, 5, 6, 7, 8, 9] none (by kernel_rfl) (by kernel_rfl) (by kernel_rfl) (by omega) ?_)
            rintro z h19_1 R17 N18
            refine R.go 7 (R.cond ((z : Int) < n) (by kernel_rfl) (fun c20 => ?_) (fun c20 => ?_))
            · refine R.go 8 (R.idx eI xs 0 x (x : Int) (by kernel_rfl) rfl eI_len (by omega) (by kernel_rfl) ?_)
              refine R.go 2 (R.call true (l01Bit_c (xs.getD x 0) (z : Int) (by omega) (by omega)) (by kernel_rfl) rfl (by kernel_rfl) ?_)
              refine R.go 2 (R.condN (band (shr64 (xs.getD x 0) (z : Int)) 1 = 1) (by kernel_rfl) (fun c21 => ?_) (fun c21 => ?_))
              · refine R.go 3 (R.ar ((z : Int) + 1) (by kernel_rfl) (by omega) (by omega) (by kernel_rfl) ?_)
                exact R.go 2 (R.stop R17 (by kernel_rfl) (N18 (z + 1) [1, 5, 6, 7, 8, 9] none _ (by kernel_rfl) (by kernel_rfl) (by omega) (by show (n.toNat - (z + 1)) < (n.toNat - z); omega)))
              · refine R.go 45 (R.ar ((z : Int) + 1) (by kernel_rfl) (by omega) (by omega) (by kernel_rfl) ?_)
                exact R.go 2 (R.stop R17 (by kernel_rfl) (N18 (z + 1) [1, 5, 6, 7, 8, 9] none _ (by kernel_rfl) (by kernel_rfl) (by omega) (by show (n.toNat - (z + 1)) < (n.toNat - z); omega)))
            · refine R.go 4 (R.ar ((y : Int) + 1) (by kernel_rfl) (by omega) (by omega) (by kernel_rfl) ?_)
              exact R.go 2 (R.stop R5 (by kernel_rfl) (N6 (y + 1) [1, 5, 6, 7, 8] none _ (by kernel_rfl) (by kernel_rfl) ⟨(by omega), (by exact below1 (by assumption) (by unfold AC; first | (refine fun a => absurd a (bitF hRel hN8 ?_ ?_ ?_) <;> first | omega | assumption) | (refine fun _ b => absurd b (bitF hRel hN8 ?_ ?_ ?_) <;> first | omega | assumption) | (intro _ _; omega)))⟩ (by show (n.toNat - (y + 1)) < (n.toNat - y); omega)))
    · refine R.go 4 (R.ar ((x : Int) + 1) (by kernel_rfl) (by omega) (by omega) (by kernel_rfl) ?_)
      exact R.go 2 (R.stop R1 (by kernel_rfl) (N2 (x + 1) [1, 5, 6, 7] none _ (by kernel_rfl) (by kernel_rfl) ⟨(by omega), (by exact below1 (by assumption) (fun j hj => (‹∀ j : Nat, j < y → AC xs x j›) j (by omega)))⟩ (by show (n.toNat - (x + 1)) < (n.toNat - x); omega)))
  · exact R.go 5 (R.retE (.bool true) (by kernel_rfl) (by kernel_rfl) (by first | (apply congrArg AV.bool; first | exact aB_no (i := x) (j := y) (by omega) (by omega) (bitT hRel hN8 (by omega) (by omega) (by assumption)) (bitT hRel hN8 (by omega) (by omega) (by assumption)) (by assumption) | exact (aB_iff.2 fun i hi => (‹∀ i : Nat, i < x → ∀ j : Nat, j < n.toNat → AC xs i j›) i (by omega)).symm) | (exfalso; omega)))

theorem sees_c (n : Int) (xs : List Int) (x : Nat) (y : Int) (hx : x < xs.length) (h0 : 0 ≤ y) : CallA Try.prog 89 [.agg [AI n, LI xs], AI (x : Int), AI y] (.bool (decide (band (shr64 (xs.getD x 0) y) 1 = 1))) := by
  refine CallA.of Try.func89 rfl (by kernel_rfl) ?_
  refine R.go 10 (R.idx eI xs 0 x (x : Int) (by kernel_rfl) rfl eI_len (by omega) (by kernel_rfl) ?_)
  refine R.go 2 (R.call true (has_c (xs.getD x 0) y h0) (by kernel_rfl) rfl (by kernel_rfl) ?_)
  exact R.go 2 (R.retE (.bool (decide (band (shr64 (xs.getD x 0) y) 1 = 1))) (by kernel_rfl) (by kernel_rfl) (by rfl))

theorem hasFlag1_c (x : Nat) (n : Int) (xs : List Int) (hx : x < xs.length) : CallA Try.prog 88 [AI (x : Int), .rptr [AI n, LI xs]] (.bool (decide (band (shr64 (xs.getD x 0) (x : Int)) 1 = 1))) := by
  refine CallA.of Try.func88 rfl (by kernel_rfl) ?_
  refine R.go 9 (R.call true (sees_c n xs x (x : Int) hx (by omega)) (by kernel_rfl) rfl (by kernel_rfl) ?_)
  exact R.go 2 (R.retE (.bool (decide (band (shr64 (xs.getD x 0) (x : Int)) 1 = 1))) (by kernel_rfl) (by kernel_rfl) (by rfl))

theorem hasFlag7_c (x : Nat) (n : Int) (xs : List Int) (zs : List Int) (hx : x < xs.length) (hz : x < zs.length) : CallA Try.prog 99 [AI (x : Int), .rptr [AI n, LI xs], .rptr [LI zs]] (.bool (decide (bnot (band (xs.getD x 0) (zs.getD x 0)) (shl64 1 (x : Int)) = 0))) := by
  refine CallA.of Try.func99 rfl (by kernel_rfl) ?_
  refine R.go 9 (R.idx eI xs 0 x (x : Int) (by kernel_rfl) rfl eI_len (by omega) (by kernel_rfl) ?_)
  refine R.go 3 (R.idx eI zs 0 x (x : Int) (by kernel_rfl) rfl eI_len (by omega) (by kernel_rfl) ?_)
  refine R.go 3 (R.shl 1 (x : Int) (by kernel_rfl) (by omega) (by kernel_rfl) ?_)
  refine R.call true (within_c (band (xs.getD x 0) (zs.getD x 0)) (shl64 1 (x : Int))) (by kernel_rfl) rfl (by kernel_rfl) ?_
  exact R.go 2 (R.retE (.bool (decide (bnot (band (xs.getD x 0) (zs.getD x 0)) (shl64 1 (x : Int)) = 0))) (by kernel_rfl) (by kernel_rfl) (by rfl))

theorem everyR_c (n : Int) (xs : List Int) (hR : okFr n xs = true) : CallA Try.prog 87 [.agg [AI n, LI xs], .fn 88 [.rptr [AI n, LI xs]]] (.bool (rB n.toNat xs)) := by
  have hF := okFr_rel hR
  have hRel : RelOK n.toNat xs := hF.2.2.2
  have hb0 : 0 ≤ n ∧ n ≤ 8 ∧ (xs.length : Int) = n := ⟨hF.1, hF.2.1, hF.2.2.1⟩
  have hN8 : n.toNat ≤ 8 := by omega
  refine CallA.of Try.func87 rfl (by kernel_rfl) ?_
  refine R.go 13 (R.loop (fun (x : Nat) => (⟨(frm 16 [(1, .fn 88 [.rptr [AI n, LI xs]]), (7, AI n), (8, AI (x : Int))]), []⟩ : St)) (fun (x : Nat) => (x ≤ n.toNat) ∧ (∀ i : Nat, i < x → tb (xs.getD i 0) i = true)) (fun (x : Nat) => n.toNat - x) 0 [1, 7, 8] (some []) (by kernel_rfl) (by kernel_rfl) (by kernel_rfl) ⟨(by omega), (by exact fun i hi => absurd hi (by omega))⟩ ?_)
  rintro x ⟨h3_1, h3_2⟩ R1 N2
  refine R.go 5 (R.cond ((x : Int) < n) (by kernel_rfl) (fun c4 => ?_) (fun c4 => ?_))
  · refine R.go 12 (R.call true (hasFlag1_c x n xs (by first | omega | (simp <;> omega))) (by kernel_rfl) rfl (by kernel_rfl) ?_)
    refine R.go 2 (R.condN (band (shr64 (xs.getD x 0) (x : Int)) 1 = 1) (by kernel_rfl) (fun c5 => ?_) (fun c5 => ?_))
    · exact R.go 4 (R.retE (.bool false) (by kernel_rfl) (by kernel_rfl) (by first | (apply congrArg AV.bool; first | exact rB_no (i := x) (by omega) (bitF hRel hN8 (by omega) (by omega) (by assumption)) | exact (rB_iff.2 fun i hi => (‹∀ i : Nat, i < x → tb (xs.getD i 0) i = true›) i (by omega)).symm) | (exfalso; omega)))
    · refine R.go 3 (R.ar ((x : Int) + 1) (by kernel_rfl) (by omega) (by omega) (by kernel_rfl) ?_)
      exact R.go 2 (R.stop R1 (by kernel_rfl) (N2 (x + 1) [1, 7, 8] none _ (by kernel_rfl) (by kernel_rfl) ⟨(by omega), (by exact below1 (by assumption) (bitT hRel hN8 (by omega) (by omega) (by assumption)))⟩ (by show (n.toNat - (x + 1)) < (n.toNat - x); omega)))
  · exact R.go 5 (R.retE (.bool true) (by kernel_rfl) (by kernel_rfl) (by first | (apply congrArg AV.bool; first | exact rB_no (i := x) (by omega) (bitF hRel hN8 (by omega) (by omega) (by assumption)) | exact (rB_iff.2 fun i hi => (‹∀ i : Nat, i < x → tb (xs.getD i 0) i = true›) i (by omega)).symm) | (exfalso; omega)))

theorem everyA_c (n : Int) (xs : List Int) (zs : List Int) (hR : okFr n xs = true) (hz : zs = invA xs xs.length) : CallA Try.prog 87 [.agg [AI n, LI xs], .fn 99 [.rptr [AI n, LI xs], .rptr [LI zs]]] (.bool (aB n.toNat xs)) := by
  have hF := okFr_rel hR
  have hRel : RelOK n.toNat xs := hF.2.2.2
  have hb0 : 0 ≤ n ∧ n ≤ 8 ∧ (xs.length : Int) = n := ⟨hF.1, hF.2.1, hF.2.2.1⟩
  have hN8 : n.toNat ≤ 8 := by omega
  have hzl : zs.length = xs.length := by rw [hz]; exact invA_len _ _
  refine CallA.of Try.func87 rfl (by kernel_rfl) ?_
  refine R.go 13 (R.loop (fun (x : Nat) => (⟨(frm 16 [(1, .fn 99 [.rptr [AI n, LI xs], .rptr [LI zs]]), (7, AI n), (8, AI (x : Int))]), []⟩ : St)) (fun (x : Nat) => (x ≤ n.toNat) ∧ (∀ i : Nat, i < x → AN xs zs i)) (fun (x : Nat) => n.toNat - x) 0 [1, 7, 8] (some []) (by kernel_rfl) (by kernel_rfl) (by kernel_rfl) ⟨(by omega), (by exact fun i hi => absurd hi (by omega))⟩ ?_)
  rintro x ⟨h3_1, h3_2⟩ R1 N2
  refine R.go 5 (R.cond ((x : Int) < n) (by kernel_rfl) (fun c4 => ?_) (fun c4 => ?_))
  · refine R.go 12 (R.call true (hasFlag7_c x n xs zs (by first | omega | (simp <;> omega)) (by first | omega | (simp <;> omega))) (by kernel_rfl) rfl (by kernel_rfl) ?_)
    refine R.go 2 (R.condN (bnot (band (xs.getD x 0) (zs.getD x 0)) (shl64 1 (x : Int)) = 0) (by kernel_rfl) (fun c5 => ?_) (fun c5 => ?_))
    · exact R.go 4 (R.retE (.bool false) (by kernel_rfl) (by kernel_rfl) (by first | (apply congrArg AV.bool; first | exact aB_noN hRel hN8 hz (x := x) (by omega) (by assumption) | exact aB_of hRel hN8 hz fun i hi => (‹∀ i : Nat, i < x → AN xs zs i›) i (by omega)) | (exfalso; omega)))
    · refine R.go 3 (R.ar ((x : Int) + 1) (by kernel_rfl) (by omega) (by omega) (by kernel_rfl) ?_)
      exact R.go 2 (R.stop R1 (by kernel_rfl) (N2 (x + 1) [1, 7, 8] none _ (by kernel_rfl) (by kernel_rfl) ⟨(by omega), (by exact below1 (by assumption) (show bnot (band (xs.getD x 0) (zs.getD x 0)) (shl64 1 (x : Int)) = 0 by assumption))⟩ (by show (n.toNat - (x + 1)) < (n.toNat - x); omega)))
  · exact R.go 5 (R.retE (.bool true) (by kernel_rfl) (by kernel_rfl) (by first | (apply congrArg AV.bool; first | exact aB_noN hRel hN8 hz (x := x) (by omega) (by assumption) | exact aB_of hRel hN8 hz fun i hi => (‹∀ i : Nat, i < x → AN xs zs i›) i (by omega)) | (exfalso; omega)))

theorem inverse_c (n : Int) (xs : List Int) (hR : okFr n xs = true) : CallA Try.prog 39 [LI xs] (ownA eI 2 1 (invA xs xs.length)) := by
  have hF := okFr_rel hR
  have hRel : RelOK n.toNat xs := hF.2.2.2
  have hb0 : 0 ≤ n ∧ n ≤ 8 ∧ (xs.length : Int) = n := ⟨hF.1, hF.2.1, hF.2.2.1⟩
  have hN8 : n.toNat ≤ 8 := by omega
  refine CallA.of Try.func39 rfl (by kernel_rfl) ?_
  refine R.go 8 (R.mk eI 0 2 8 xs.length xs.length (by kernel_rfl) rfl (by decide) (by omega) (by kernel_rfl) ?_)
  refine R.go 10 (R.loop ((fun | (i, out) => (⟨(frm 36 [(3, .ref 0), (11, LI xs), (12, AI xs.length), (13, AI (i : Int))]), [rowA eI 2 1 out]⟩ : St) : Nat × (List Int) → St)) (fun | (i, out) => (i ≤ xs.length) ∧ (out = invA xs i)) (fun | (i, out) => xs.length - i) (0, (List.replicate xs.length 0)) [3, 11, 12, 13] none (by kernel_rfl) (by kernel_rfl) (by kernel_rfl) ⟨(by omega), (by rfl)⟩ ?_)
  rintro ⟨i, out⟩ ⟨h4_1, rfl⟩ R1 N2
  have hol := invA_len xs i
  have hmi := fun h : i < xs.length => hRel.2 i (by omega)
  have hml := mem_le (xs.getD i 0)
  refine R.go 5 (R.cond ((i : Int) < (xs.length : Int)) (by kernel_rfl) (fun c5 => ?_) (fun c5 => ?_))
  · refine R.go 6 (R.idx eI xs 0 i (i : Int) (by kernel_rfl) rfl eI_len (by omega) (by kernel_rfl) ?_)
    have hmm := inM_mono (n' := 61) (by omega) (hmi (by omega))
    refine R.go 7 (R.call true (membersOf_c (xs.getD i 0) (by first | assumption | exact inM61 (by omega) (by omega))).frz (by kernel_rfl) rfl (by kernel_rfl) ?_)
    refine R.go 4 (R.loop ((fun | (t, o2) => (⟨(frm 36 [(3, .ref 0), (4, AI (i : Int)), (11, LI xs), (12, AI xs.length), (13, AI (i : Int)), (19, LI (mem (xs.getD i 0))), (20, AI ((mem (xs.getD i 0)).length)), (21, AI (t : Int))]), [rowA eI 2 1 o2]⟩ : St) : Nat × (List Int) → St)) (fun | (t, o2) => (t ≤ (mem (xs.getD i 0)).length) ∧ (o2 = invJ (invA xs i) i ((mem (xs.getD i 0)).take t))) (fun | (t, o2) => (mem (xs.getD i 0)).length - t) (0, (invA xs i)) [3, 4, 11, 12, 13, 19, 20, 21] none (by kernel_rfl) (by kernel_rfl) (by kernel_rfl) ⟨(by omega), (by rfl)⟩ ?_)
    rintro ⟨t, o2⟩ ⟨h9_1, rfl⟩ R6 N7
    have hol2 : (invJ (invA xs i) i ((mem (xs.getD i 0)).take t)).length = xs.length := by rw [invJ_len, hol]
    refine R.go 5 (R.cond ((t : Int) < ((mem (xs.getD i 0)).length : Int)) (by kernel_rfl) (fun c10 => ?_) (fun c10 => ?_))
    · refine R.go 5 (R.idx eI (mem (xs.getD i 0)) 0 t (t : Int) (by kernel_rfl) rfl eI_len (by omega) (by kernel_rfl) ?_)
      have hjr := mem_lt' (N := n.toNat) (by omega) (hmi (by omega)) (t := t) (by omega)
      refine R.go 6 (R.idxO 0 1 (invJ (invA xs i) i ((mem (xs.getD i 0)).take t)).length ((((mem (xs.getD i 0)).getD t 0)).toNat) ((mem (xs.getD i 0)).getD t 0) (by kernel_rfl) (by omega) (by first | omega | (simp <;> omega)) (by kernel_rfl) ?_)
      refine R.ldI (invJ (invA xs i) i ((mem (xs.getD i 0)).take t)) ((((mem (xs.getD i 0)).getD t 0)).toNat) (by kernel_rfl) (by first | omega | (simp <;> omega)) (by kernel_rfl) ?_
      refine R.go 1 (R.shl 1 (i : Int) (by kernel_rfl) (by omega) (by kernel_rfl) ?_)
      refine R.go 1 (R.idxO 0 1 (invJ (invA xs i) i ((mem (xs.getD i 0)).take t)).length ((((mem (xs.getD i 0)).getD t 0)).toNat) ((mem (xs.getD i 0)).getD t 0) (by kernel_rfl) (by omega) (by first | omega | (simp <;> omega)) (by kernel_rfl) ?_)
      refine R.stI 0 2 (invJ (invA xs i) i ((mem (xs.getD i 0)).take t)) ((((mem (xs.getD i 0)).getD t 0)).toNat) (bor ((invJ (invA xs i) i ((mem (xs.getD i 0)).take t)).getD ((((mem (xs.getD i 0)).getD t 0)).toNat) 0) (shl64 1 (i : Int))) (by kernel_rfl) (by first | omega | (simp <;> omega)) (by kernel_rfl) ?_
      refine R.go 3 (R.ar ((t : Int) + 1) (by kernel_rfl) (by omega) (by omega) (by kernel_rfl) ?_)
      exact R.go 2 (R.stop R6 (by kernel_rfl) (N7 (t + 1, (invJ (invA xs i) i ((mem (xs.getD i 0)).take t)).set ((((mem (xs.getD i 0)).getD t 0)).toNat) (bor ((invJ (invA xs i) i ((mem (xs.getD i 0)).take t)).getD ((((mem (xs.getD i 0)).getD t 0)).toNat) 0) (shl64 1 (i : Int)))) [3, 4, 11, 12, 13, 19, 20, 21] none _ (by kernel_rfl) (by kernel_rfl) ⟨(by omega), (by exact invJ_snoc (by omega))⟩ (by show ((mem (xs.getD i 0)).length - (t + 1)) < ((mem (xs.getD i 0)).length - t); omega)))
    · refine R.go 3 (R.ar ((i : Int) + 1) (by kernel_rfl) (by omega) (by omega) (by kernel_rfl) ?_)
      exact R.go 2 (R.stop R1 (by kernel_rfl) (N2 (i + 1, invJ (invA xs i) i ((mem (xs.getD i 0)).take t)) [3, 11, 12, 13] none _ (by kernel_rfl) (by kernel_rfl) ⟨(by omega), (by rw [invA, List.take_of_length_le (by omega)])⟩ (by show (xs.length - (i + 1)) < (xs.length - i); omega)))
  · exact R.go 6 (R.retE (ownA eI 2 1 (invA xs i)) (by kernel_rfl) (by kernel_rfl) (by first | (rw [show i = xs.length by omega]) | (exfalso; omega)))

theorem equalI_c (a : List Int) (b : List Int) (la : a.length ≤ 1000000000) : CallA Try.prog 91 [LI a, LI b] (.bool (decide (a = b))) := by
  refine CallA.of Try.func91 rfl (by kernel_rfl) ?_
  refine R.go 13 (R.condN ((a.length : Int) = (b.length : Int)) (by kernel_rfl) (fun c1 => ?_) (fun c1 => ?_))
  · exact R.go 4 (R.retE (.bool false) (by kernel_rfl) (by kernel_rfl) (by first | (first | (rw [dF (fun h => by subst h; omega)]) | (rw [dT (take_all (i := i) (by omega) (by omega) (by assumption))])) | (exfalso; omega)))
  · refine R.go 9 (R.loop (fun (i : Nat) => (⟨(frm 26 [(0, LI a), (1, LI b), (12, AI a.length), (13, AI (i : Int))]), []⟩ : St)) (fun (i : Nat) => (i ≤ a.length) ∧ (a.take i = b.take i)) (fun (i : Nat) => a.length - i) 0 [0, 1, 12, 13] none (by kernel_rfl) (by kernel_rfl) (by kernel_rfl) ⟨(by omega), (by rfl)⟩ ?_)
    rintro i ⟨h4_1, h4_2⟩ R2 N3
    refine R.go 5 (R.cond ((i : Int) < (a.length : Int)) (by kernel_rfl) (fun c5 => ?_) (fun c5 => ?_))
    · refine R.go 12 (R.idx eI a 0 i (i : Int) (by kernel_rfl) rfl eI_len (by omega) (by kernel_rfl) ?_)
      refine R.go 3 (R.idx eI b 0 i (i : Int) (by kernel_rfl) rfl eI_len (by omega) (by kernel_rfl) ?_)
      refine R.go 3 (R.condN ((a.getD i 0) = (b.getD i 0)) (by kernel_rfl) (fun c6 => ?_) (fun c6 => ?_))
      · exact R.go 4 (R.retE (.bool false) (by kernel_rfl) (by kernel_rfl) (by first | (first | (rw [dF (fun h => by subst h; omega)]) | (rw [dT (take_all (i := i) (by omega) (by omega) (by assumption))])) | (exfalso; omega)))
      · refine R.go 3 (R.ar ((i : Int) + 1) (by kernel_rfl) (by omega) (by omega) (by kernel_rfl) ?_)
        exact R.go 2 (R.stop R2 (by kernel_rfl) (N3 (i + 1) [0, 1, 12, 13] none _ (by kernel_rfl) (by kernel_rfl) ⟨(by omega), (by exact take_step a b 0 i (by omega) (by omega) (by assumption) (by assumption))⟩ (by show (a.length - (i + 1)) < (a.length - i); omega)))
    · exact R.go 5 (R.retE (.bool true) (by kernel_rfl) (by kernel_rfl) (by first | (first | (rw [dF (fun h => by subst h; omega)]) | (rw [dT (take_all (i := i) (by omega) (by omega) (by assumption))])) | (exfalso; omega)))

theorem inverseG_c (n : Int) (xs zs : List Int) (hR : okFr n xs = true) (hz : zs = invA xs xs.length) : CallA Try.prog 39 [LI xs] (ownA eI 2 1 zs) := by rw [hz]; exact inverse_c n xs hR

theorem hasFlagR_c (n : Int) (xs : List Int) (hR : okFr n xs = true) : CallA Try.prog 60 [.agg [AI n, LI xs], AI 0] (.bool (rB n.toNat xs)) := by
  have hF := okFr_rel hR
  have hRel : RelOK n.toNat xs := hF.2.2.2
  have hb0 : 0 ≤ n ∧ n ≤ 8 ∧ (xs.length : Int) = n := ⟨hF.1, hF.2.1, hF.2.2.1⟩
  have hN8 : n.toNat ≤ 8 := by omega
  obtain ⟨zs, hz⟩ : ∃ zs, zs = invA xs xs.length := ⟨_, rfl⟩
  have hwl := wout_len xs xs.length
  refine CallA.of Try.func60 rfl (by kernel_rfl) ?_
  refine R.go 9 (R.call true (inverseG_c n xs zs hR (by assumption)).frz (by kernel_rfl) rfl (by kernel_rfl) ?_)
  refine R.go 19 (R.call false (everyR_c n xs hR) (by kernel_rfl) rfl (by kernel_rfl) ?_)
  exact R.go 2 (R.retE (.bool (rB n.toNat xs)) (by kernel_rfl) (by kernel_rfl) (by rfl))

theorem hasFlagT_c (n : Int) (xs : List Int) (hR : okFr n xs = true) : CallA Try.prog 60 [.agg [AI n, LI xs], AI 2] (.bool (tB n.toNat xs)) := by
  have hF := okFr_rel hR
  have hRel : RelOK n.toNat xs := hF.2.2.2
  have hb0 : 0 ≤ n ∧ n ≤ 8 ∧ (xs.length : Int) = n := ⟨hF.1, hF.2.1, hF.2.2.1⟩
  have hN8 : n.toNat ≤ 8 := by omega
  obtain ⟨zs, hz⟩ : ∃ zs, zs = invA xs xs.length := ⟨_, rfl⟩
  have hwl := wout_len xs xs.length
  refine CallA.of Try.func60 rfl (by kernel_rfl) ?_
  refine R.go 9 (R.call true (inverseG_c n xs zs hR (by assumption)).frz (by kernel_rfl) rfl (by kernel_rfl) ?_)
  refine R.go 31 (R.call true (transitive_c xs (by first | omega | (simp <;> omega))).frz (by kernel_rfl) rfl (by kernel_rfl) ?_)
  refine R.go 2 (R.call true (equalI_c (wout xs xs.length) xs (by first | omega | (simp <;> omega))) (by kernel_rfl) rfl (by kernel_rfl) ?_)
  exact R.go 2 (R.retE (.bool (decide ((wout xs xs.length) = xs))) (by kernel_rfl) (by kernel_rfl) (by first | (apply congrArg AV.bool; exact trW hRel hN8) | (exfalso; omega)))

theorem hasFlagA_c (n : Int) (xs : List Int) (hR : okFr n xs = true) : CallA Try.prog 60 [.agg [AI n, LI xs], AI 8] (.bool (aB n.toNat xs)) := by
  have hF := okFr_rel hR
  have hRel : RelOK n.toNat xs := hF.2.2.2
  have hb0 : 0 ≤ n ∧ n ≤ 8 ∧ (xs.length : Int) = n := ⟨hF.1, hF.2.1, hF.2.2.1⟩
  have hN8 : n.toNat ≤ 8 := by omega
  obtain ⟨zs, hz⟩ : ∃ zs, zs = invA xs xs.length := ⟨_, rfl⟩
  have hwl := wout_len xs xs.length
  refine CallA.of Try.func60 rfl (by kernel_rfl) ?_
  refine R.go 9 (R.call true (inverseG_c n xs zs hR (by assumption)).frz (by kernel_rfl) rfl (by kernel_rfl) ?_)
  refine R.go 67 (R.call false (everyA_c n xs zs hR (by assumption)) (by kernel_rfl) rfl (by kernel_rfl) ?_)
  exact R.go 2 (R.retE (.bool (aB n.toNat xs)) (by kernel_rfl) (by kernel_rfl) (by rfl))

theorem okFr_any {n : Int} {xs : List Int} (h : (xs.any fun m => !inR m 0 ((shl64 1 n) - 1)) = true) : okFr n xs = false := by simp [okFr, h]
theorem okFr_mk {n : Int} {xs : List Int} (h : inR n 0 8 = true) (h1 : (xs.length : Int) = n) (h2 : (xs.any fun m => !inR m 0 ((shl64 1 n) - 1)) = false) : okFr n xs = true := by rw [okFr_yes h h1, h2]; rfl
theorem okFr_rel1 {n : Int} {xs : List Int} (h : inR n 0 8 = true) (h1 : (xs.length : Int) = n) (h2 : xs.any (outR xs.length) = false) : okFr n xs = true := by rw [← okFr_out h h1, h2]; rfl
theorem okFr_rel0 {n : Int} {xs : List Int} (h : inR n 0 8 = true) (h1 : (xs.length : Int) = n) (h2 : xs.any (outR xs.length) = true) : okFr n xs = false := by rw [← okFr_out h h1, h2]; rfl

theorem frameOf_c (xs : List Int) : CallA Try.prog 86 [LI xs] (.agg [AI xs.length, LI xs]) := by
  refine CallA.of Try.func86 rfl (by kernel_rfl) ?_
  refine R.go 7 (R.call true (size_c xs) (by kernel_rfl) rfl (by kernel_rfl) ?_)
  exact R.go 4 (R.retE (.agg [AI xs.length, LI xs]) (by kernel_rfl) (by kernel_rfl) (by rfl))

theorem pFrame_c (n : Int) (xs : List Int) (hn : (xs.length : Int) = n) : CallA Try.prog 59 [.agg [AI n, LI xs]] (.agg [AI n, LI xs]) := by
  refine CallA.of Try.func59 rfl (by kernel_rfl) ?_
  refine R.go 9 (R.call true (frameOf_c xs) (by kernel_rfl) rfl (by kernel_rfl) ?_)
  exact R.go 2 (R.retE (.agg [AI xs.length, LI xs]) (by kernel_rfl) (by kernel_rfl) (by first | (rw [hn]) | (exfalso; omega)))

set_option maxHeartbeats 1000000 in
theorem isPoset_c (n : Int) (xs : List Int) (hl : xs.length ≤ 1000000000) : CallA Try.prog 29 [.agg [AI n, LI xs]] (.bool (okPo n xs)) := by
  have hn := fun h : inR n 0 8 = true => (inR_iff _ _ _).1 h
  refine CallA.of Try.func29 rfl (by kernel_rfl) ?_
  refine R.go 10 (R.call true (inRange_c n 0 8) (by kernel_rfl) rfl (by kernel_rfl) ?_)
  refine R.go 2 ?_
  refine (Bool.eq_false_or_eq_true (inR n 0 8)).elim (fun c1 => ?_) (fun c1 => ?_)
  · refine R.want (!(inR n 0 8)) false (by kernel_rfl) (bnF c1) ?_
    refine R.go 1 (R.want (!(inR n 0 8)) false (by kernel_rfl) (bnF c1) ?_)
    refine R.go 1 (R.want (!(inR n 0 8)) false (by kernel_rfl) (bnF c1) ?_)
    refine R.call true (size_c xs) (by kernel_rfl) rfl (by kernel_rfl) ?_
    refine R.want (!(inR n 0 8)) false (by kernel_rfl) (bnF c1) ?_
    refine R.go 1 (R.want (!(inR n 0 8)) false (by kernel_rfl) (bnF c1) ?_)
    refine R.go 1 (R.want (!(inR n 0 8)) false (by kernel_rfl) (bnF c1) ?_)
    refine R.go 1 (R.pick (!(inR n 0 8)) false (by kernel_rfl) (bnF c1) (by kernel_rfl) ?_)
    refine R.go 1 ?_
    by_cases c2 : (xs.length : Int) = n
    · refine R.want (!decide ((xs.length : Int) = n)) false (by kernel_rfl) (nF c2) ?_
      refine R.go 1 (R.want (!decide ((xs.length : Int) = n)) false (by kernel_rfl) (nF c2) ?_)
      refine R.go 1 (R.want (!decide ((xs.length : Int) = n)) false (by kernel_rfl) (nF c2) ?_)
      refine R.call true (isRelation_c xs hl) (by kernel_rfl) rfl (by kernel_rfl) ?_
      refine R.want (!decide ((xs.length : Int) = n)) false (by kernel_rfl) (nF c2) ?_
      refine R.go 1 (R.pick (!decide ((xs.length : Int) = n)) false (by kernel_rfl) (nF c2) (by kernel_rfl) ?_)
      refine R.go 1 (R.condM (!(xs.any (outR xs.length))) (by kernel_rfl) (fun c3 => ?_) (fun c3 => ?_))
      · exact R.go 4 (R.retE (.bool false) (by kernel_rfl) (by kernel_rfl) (by first | (apply congrArg AV.bool; first | exact okPo_0 (okFr_no (by assumption)) | exact okPo_0 (okFr_ne (by assumption)) | exact okPo_0 (by assumption) | exact okPo_1 hfr (by assumption) | exact okPo_2 hfr (by assumption) (by assumption) | exact okPo_3 hfr (by assumption) (by assumption) | exact okPo_0 (okFr_rel0 (by assumption) (by assumption) (by first | assumption | simpa using (by assumption : (!xs.any (outR xs.length)) = false)))) | (exfalso; omega)))
      · have hfr : okFr n xs = true := okFr_rel1 (by assumption) (by assumption) (by first | assumption | simpa using (by assumption : (!xs.any (outR xs.length)) = true))
        refine R.go 4 (R.call true (pFrame_c n xs c2) (by kernel_rfl) rfl (by kernel_rfl) ?_)
        refine R.go 6 (R.call true (hasFlagR_c n xs hfr) (by kernel_rfl) rfl (by kernel_rfl) ?_)
        refine R.go 1 ?_
        refine (Bool.eq_false_or_eq_true (rB n.toNat xs)).elim (fun c4 => ?_) (fun c4 => ?_)
        · refine R.want (rB n.toNat xs) true (by kernel_rfl) c4 ?_
          refine R.go 1 (R.want (rB n.toNat xs) true (by kernel_rfl) c4 ?_)
          refine R.call true (hasFlagT_c n xs hfr) (by kernel_rfl) rfl (by kernel_rfl) ?_
          refine R.pick (rB n.toNat xs) true (by kernel_rfl) c4 (by kernel_rfl) ?_
          refine R.go 1 ?_
          refine (Bool.eq_false_or_eq_true (tB n.toNat xs)).elim (fun c5 => ?_) (fun c5 => ?_)
          · refine R.want (tB n.toNat xs) true (by kernel_rfl) c5 ?_
            refine R.go 1 (R.want (tB n.toNat xs) true (by kernel_rfl) c5 ?_)
            refine R.call true (hasFlagA_c n xs hfr) (by kernel_rfl) rfl (by kernel_rfl) ?_
            refine R.pick (tB n.toNat xs) true (by kernel_rfl) c5 (by kernel_rfl) ?_
            exact R.go 2 (R.retE (.bool (aB n.toNat xs)) (by kernel_rfl) (by kernel_rfl) (by first | (apply congrArg AV.bool; first | exact okPo_0 (okFr_no (by assumption)) | exact okPo_0 (okFr_ne (by assumption)) | exact okPo_0 (by assumption) | exact okPo_1 hfr (by assumption) | exact okPo_2 hfr (by assumption) (by assumption) | exact okPo_3 hfr (by assumption) (by assumption) | exact okPo_0 (okFr_rel0 (by assumption) (by assumption) (by first | assumption | simpa using (by assumption : (!xs.any (outR xs.length)) = false)))) | (exfalso; omega)))
          · refine R.skp (tB n.toNat xs) true (by kernel_rfl) c5 (by kernel_rfl) ?_
            refine R.skp (tB n.toNat xs) true (by kernel_rfl) c5 (by kernel_rfl) ?_
            refine R.pick (tB n.toNat xs) false (by kernel_rfl) c5 (by kernel_rfl) ?_
            exact R.go 2 (R.retE (.bool false) (by kernel_rfl) (by kernel_rfl) (by first | (apply congrArg AV.bool; first | exact okPo_0 (okFr_no (by assumption)) | exact okPo_0 (okFr_ne (by assumption)) | exact okPo_0 (by assumption) | exact okPo_1 hfr (by assumption) | exact okPo_2 hfr (by assumption) (by assumption) | exact okPo_3 hfr (by assumption) (by assumption) | exact okPo_0 (okFr_rel0 (by assumption) (by assumption) (by first | assumption | simpa using (by assumption : (!xs.any (outR xs.length)) = false)))) | (exfalso; omega)))
        · refine R.skp (rB n.toNat xs) true (by kernel_rfl) c4 (by kernel_rfl) ?_
          refine R.skp (rB n.toNat xs) true (by kernel_rfl) c4 (by kernel_rfl) ?_
          refine R.pick (rB n.toNat xs) false (by kernel_rfl) c4 (by kernel_rfl) ?_
          exact R.go 6 (R.retE (.bool false) (by kernel_rfl) (by kernel_rfl) (by first | (apply congrArg AV.bool; first | exact okPo_0 (okFr_no (by assumption)) | exact okPo_0 (okFr_ne (by assumption)) | exact okPo_0 (by assumption) | exact okPo_1 hfr (by assumption) | exact okPo_2 hfr (by assumption) (by assumption) | exact okPo_3 hfr (by assumption) (by assumption) | exact okPo_0 (okFr_rel0 (by assumption) (by assumption) (by first | assumption | simpa using (by assumption : (!xs.any (outR xs.length)) = false)))) | (exfalso; omega)))
    · refine R.skp (!decide ((xs.length : Int) = n)) false (by kernel_rfl) (nT c2) (by kernel_rfl) ?_
      refine R.skp (!decide ((xs.length : Int) = n)) false (by kernel_rfl) (nT c2) (by kernel_rfl) ?_
      refine R.skp (!decide ((xs.length : Int) = n)) false (by kernel_rfl) (nT c2) (by kernel_rfl) ?_
      refine R.skp (!decide ((xs.length : Int) = n)) false (by kernel_rfl) (nT c2) (by kernel_rfl) ?_
      refine R.pick (!decide ((xs.length : Int) = n)) true (by kernel_rfl) (nT c2) (by kernel_rfl) ?_
      exact R.go 6 (R.retE (.bool false) (by kernel_rfl) (by kernel_rfl) (by first | (apply congrArg AV.bool; first | exact okPo_0 (okFr_no (by assumption)) | exact okPo_0 (okFr_ne (by assumption)) | exact okPo_0 (by assumption) | exact okPo_1 hfr (by assumption) | exact okPo_2 hfr (by assumption) (by assumption) | exact okPo_3 hfr (by assumption) (by assumption) | exact okPo_0 (okFr_rel0 (by assumption) (by assumption) (by first | assumption | simpa using (by assumption : (!xs.any (outR xs.length)) = false)))) | (exfalso; omega)))
  · refine R.skp (!(inR n 0 8)) false (by kernel_rfl) (bnT c1) (by kernel_rfl) ?_
    refine R.skp (!(inR n 0 8)) false (by kernel_rfl) (bnT c1) (by kernel_rfl) ?_
    refine R.skp (!(inR n 0 8)) false (by kernel_rfl) (bnT c1) (by kernel_rfl) ?_
    refine R.skp (!(inR n 0 8)) false (by kernel_rfl) (bnT c1) (by kernel_rfl) ?_
    refine R.skp (!(inR n 0 8)) false (by kernel_rfl) (bnT c1) (by kernel_rfl) ?_
    refine R.skp (!(inR n 0 8)) false (by kernel_rfl) (bnT c1) (by kernel_rfl) ?_
    refine R.pick (!(inR n 0 8)) true (by kernel_rfl) (bnT c1) (by kernel_rfl) ?_
    exact R.go 12 (R.retE (.bool false) (by kernel_rfl) (by kernel_rfl) (by first | (apply congrArg AV.bool; first | exact okPo_0 (okFr_no (by assumption)) | exact okPo_0 (okFr_ne (by assumption)) | exact okPo_0 (by assumption) | exact okPo_1 hfr (by assumption) | exact okPo_2 hfr (by assumption) (by assumption) | exact okPo_3 hfr (by assumption) (by assumption) | exact okPo_0 (okFr_rel0 (by assumption) (by assumption) (by first | assumption | simpa using (by assumption : (!xs.any (outR xs.length)) = false)))) | (exfalso; omega)))

set_option maxHeartbeats 1000000 in
theorem l16Is_c (n : Int) (xs : List Int) (hl : xs.length ≤ 1000000000) : CallA Try.prog 31 [.agg [AI n, LI xs]] (.bool (okPo n xs)) := by
  have hn := fun h : inR n 0 8 = true => (inR_iff _ _ _).1 h
  refine CallA.of Try.func31 rfl (by kernel_rfl) ?_
  refine R.go 10 (R.call true (l01In_c n 0 8) (by kernel_rfl) rfl (by kernel_rfl) ?_)
  refine R.go 2 ?_
  refine (Bool.eq_false_or_eq_true (inR n 0 8)).elim (fun c1 => ?_) (fun c1 => ?_)
  · refine R.want (!(inR n 0 8)) false (by kernel_rfl) (bnF c1) ?_
    refine R.go 1 (R.want (!(inR n 0 8)) false (by kernel_rfl) (bnF c1) ?_)
    refine R.go 1 (R.want (!(inR n 0 8)) false (by kernel_rfl) (bnF c1) ?_)
    refine R.go 1 (R.want (!(inR n 0 8)) false (by kernel_rfl) (bnF c1) ?_)
    refine R.go 1 (R.want (!(inR n 0 8)) false (by kernel_rfl) (bnF c1) ?_)
    refine R.go 1 (R.want (!(inR n 0 8)) false (by kernel_rfl) (bnF c1) ?_)
    refine R.go 1 (R.pick (!(inR n 0 8)) false (by kernel_rfl) (bnF c1) (by kernel_rfl) ?_)
    refine R.go 1 ?_
    by_cases c2 : (xs.length : Int) = n
    · refine R.want (!decide ((xs.length : Int) = n)) false (by kernel_rfl) (nF c2) ?_
      refine R.go 1 (R.want (!decide ((xs.length : Int) = n)) false (by kernel_rfl) (nF c2) ?_)
      refine R.go 1 (R.want (!decide ((xs.length : Int) = n)) false (by kernel_rfl) (nF c2) ?_)
      refine R.go 1 (R.want (!decide ((xs.length : Int) = n)) false (by kernel_rfl) (nF c2) ?_)
      refine R.go 1 (R.want (!decide ((xs.length : Int) = n)) false (by kernel_rfl) (nF c2) ?_)
      refine R.call true (l01Masks_c n xs hl (by first | omega | (simp only [inR_iff, inR_not] at *; omega)) (by first | omega | (simp only [inR_iff, inR_not] at *; omega))) (by kernel_rfl) rfl (by kernel_rfl) ?_
      refine R.want (!decide ((xs.length : Int) = n)) false (by kernel_rfl) (nF c2) ?_
      refine R.go 1 (R.pick (!decide ((xs.length : Int) = n)) false (by kernel_rfl) (nF c2) (by kernel_rfl) ?_)
      refine R.go 1 (R.condM (!(xs.any fun m => !inR m 0 ((shl64 1 n) - 1))) (by kernel_rfl) (fun c3 => ?_) (fun c3 => ?_))
      · exact R.go 4 (R.retE (.bool false) (by kernel_rfl) (by kernel_rfl) (by first | (apply congrArg AV.bool; first | exact okPo_0 (okFr_no (by assumption)) | exact okPo_0 (okFr_ne (by assumption)) | exact okPo_0 (by assumption) | exact okPo_1 hfr (by assumption) | exact okPo_2 hfr (by assumption) (by assumption) | exact okPo_3 hfr (by assumption) (by assumption) | exact okPo_0 (okFr_any (by first | assumption | simpa using (by assumption : (!xs.any fun m => !inR m 0 ((shl64 1 n) - 1)) = false)))) | (exfalso; omega)))
      · have hfr : okFr n xs = true := okFr_mk (by assumption) (by assumption) (by first | assumption | simpa using (by assumption : (!xs.any fun m => !inR m 0 ((shl64 1 n) - 1)) = true))
        refine R.go 14 (R.call true (flagR_c n xs hfr) (by kernel_rfl) rfl (by kernel_rfl) ?_)
        refine R.go 1 ?_
        refine (Bool.eq_false_or_eq_true (rB n.toNat xs)).elim (fun c4 => ?_) (fun c4 => ?_)
        · refine R.want (rB n.toNat xs) true (by kernel_rfl) c4 ?_
          refine R.go 1 (R.want (rB n.toNat xs) true (by kernel_rfl) c4 ?_)
          refine R.call true (flagT_c n xs hfr) (by kernel_rfl) rfl (by kernel_rfl) ?_
          refine R.pick (rB n.toNat xs) true (by kernel_rfl) c4 (by kernel_rfl) ?_
          refine R.go 1 ?_
          refine (Bool.eq_false_or_eq_true (tB n.toNat xs)).elim (fun c5 => ?_) (fun c5 => ?_)
          · refine R.want (tB n.toNat xs) true (by kernel_rfl) c5 ?_
            refine R.go 1 (R.want (tB n.toNat xs) true (by kernel_rfl) c5 ?_)
            refine R.call true (flagA_c n xs hfr) (by kernel_rfl) rfl (by kernel_rfl) ?_
            refine R.pick (tB n.toNat xs) true (by kernel_rfl) c5 (by kernel_rfl) ?_
            exact R.go 2 (R.retE (.bool (aB n.toNat xs)) (by kernel_rfl) (by kernel_rfl) (by first | (apply congrArg AV.bool; first | exact okPo_0 (okFr_no (by assumption)) | exact okPo_0 (okFr_ne (by assumption)) | exact okPo_0 (by assumption) | exact okPo_1 hfr (by assumption) | exact okPo_2 hfr (by assumption) (by assumption) | exact okPo_3 hfr (by assumption) (by assumption) | exact okPo_0 (okFr_any (by first | assumption | simpa using (by assumption : (!xs.any fun m => !inR m 0 ((shl64 1 n) - 1)) = false)))) | (exfalso; omega)))
          · refine R.skp (tB n.toNat xs) true (by kernel_rfl) c5 (by kernel_rfl) ?_
            refine R.skp (tB n.toNat xs) true (by kernel_rfl) c5 (by kernel_rfl) ?_
            refine R.pick (tB n.toNat xs) false (by kernel_rfl) c5 (by kernel_rfl) ?_
            exact R.go 2 (R.retE (.bool false) (by kernel_rfl) (by kernel_rfl) (by first | (apply congrArg AV.bool; first | exact okPo_0 (okFr_no (by assumption)) | exact okPo_0 (okFr_ne (by assumption)) | exact okPo_0 (by assumption) | exact okPo_1 hfr (by assumption) | exact okPo_2 hfr (by assumption) (by assumption) | exact okPo_3 hfr (by assumption) (by assumption) | exact okPo_0 (okFr_any (by first | assumption | simpa using (by assumption : (!xs.any fun m => !inR m 0 ((shl64 1 n) - 1)) = false)))) | (exfalso; omega)))
        · refine R.skp (rB n.toNat xs) true (by kernel_rfl) c4 (by kernel_rfl) ?_
          refine R.skp (rB n.toNat xs) true (by kernel_rfl) c4 (by kernel_rfl) ?_
          refine R.pick (rB n.toNat xs) false (by kernel_rfl) c4 (by kernel_rfl) ?_
          exact R.go 6 (R.retE (.bool false) (by kernel_rfl) (by kernel_rfl) (by first | (apply congrArg AV.bool; first | exact okPo_0 (okFr_no (by assumption)) | exact okPo_0 (okFr_ne (by assumption)) | exact okPo_0 (by assumption) | exact okPo_1 hfr (by assumption) | exact okPo_2 hfr (by assumption) (by assumption) | exact okPo_3 hfr (by assumption) (by assumption) | exact okPo_0 (okFr_any (by first | assumption | simpa using (by assumption : (!xs.any fun m => !inR m 0 ((shl64 1 n) - 1)) = false)))) | (exfalso; omega)))
    · refine R.skp (!decide ((xs.length : Int) = n)) false (by kernel_rfl) (nT c2) (by kernel_rfl) ?_
      refine R.skp (!decide ((xs.length : Int) = n)) false (by kernel_rfl) (nT c2) (by kernel_rfl) ?_
      refine R.skp (!decide ((xs.length : Int) = n)) false (by kernel_rfl) (nT c2) (by kernel_rfl) ?_
      refine R.skp (!decide ((xs.length : Int) = n)) false (by kernel_rfl) (nT c2) (by kernel_rfl) ?_
      refine R.skp (!decide ((xs.length : Int) = n)) false (by kernel_rfl) (nT c2) (by kernel_rfl) ?_
      refine R.skp (!decide ((xs.length : Int) = n)) false (by kernel_rfl) (nT c2) (by kernel_rfl) ?_
      refine R.pick (!decide ((xs.length : Int) = n)) true (by kernel_rfl) (nT c2) (by kernel_rfl) ?_
      exact R.go 6 (R.retE (.bool false) (by kernel_rfl) (by kernel_rfl) (by first | (apply congrArg AV.bool; first | exact okPo_0 (okFr_no (by assumption)) | exact okPo_0 (okFr_ne (by assumption)) | exact okPo_0 (by assumption) | exact okPo_1 hfr (by assumption) | exact okPo_2 hfr (by assumption) (by assumption) | exact okPo_3 hfr (by assumption) (by assumption) | exact okPo_0 (okFr_any (by first | assumption | simpa using (by assumption : (!xs.any fun m => !inR m 0 ((shl64 1 n) - 1)) = false)))) | (exfalso; omega)))
  · refine R.skp (!(inR n 0 8)) false (by kernel_rfl) (bnT c1) (by kernel_rfl) ?_
    refine R.skp (!(inR n 0 8)) false (by kernel_rfl) (bnT c1) (by kernel_rfl) ?_
    refine R.skp (!(inR n 0 8)) false (by kernel_rfl) (bnT c1) (by kernel_rfl) ?_
    refine R.skp (!(inR n 0 8)) false (by kernel_rfl) (bnT c1) (by kernel_rfl) ?_
    refine R.skp (!(inR n 0 8)) false (by kernel_rfl) (bnT c1) (by kernel_rfl) ?_
    refine R.skp (!(inR n 0 8)) false (by kernel_rfl) (bnT c1) (by kernel_rfl) ?_
    refine R.pick (!(inR n 0 8)) true (by kernel_rfl) (bnT c1) (by kernel_rfl) ?_
    exact R.go 14 (R.retE (.bool false) (by kernel_rfl) (by kernel_rfl) (by first | (apply congrArg AV.bool; first | exact okPo_0 (okFr_no (by assumption)) | exact okPo_0 (okFr_ne (by assumption)) | exact okPo_0 (by assumption) | exact okPo_1 hfr (by assumption) | exact okPo_2 hfr (by assumption) (by assumption) | exact okPo_3 hfr (by assumption) (by assumption) | exact okPo_0 (okFr_any (by first | assumption | simpa using (by assumption : (!xs.any fun m => !inR m 0 ((shl64 1 n) - 1)) = false)))) | (exfalso; omega)))

end Go.Proofs.Ytogehjciaamcfaa
