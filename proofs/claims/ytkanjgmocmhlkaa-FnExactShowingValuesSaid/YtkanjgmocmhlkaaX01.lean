/- Maps between posets: what both packages take for a p-morphism. -/
import Derived.Test.YtkanjgmocmhlkaaW02
import Derived.Test.YtkanjgmocmhlkaaSymZ
namespace Go.Proofs.Ytkanjgmocmhlkaa
open Go.RowKit Go.Abs

def eP (p : Int × List Int) : List AV := [AI p.1, LI p.2]
theorem eP_len (p : Int × List Int) : (eP p).length = 2 := rfl
theorem eP_one (p : Int × List Int) : (eP p).all AV.one = true := rfl
def fidxG {α : Type} (p : α → Bool) : List α → Int → Int
  | [], _ => -1
  | x :: l, i => if p x = true then i else fidxG p l (i + 1)
theorem drop_consG {α : Type} (a : List α) (i : Nat) (d : α) (h : i < a.length) : a.drop i = a.getD i d :: a.drop (i + 1) := by
  rw [List.drop_eq_getElem_cons h, List.getD_eq_getElem?_getD, List.getElem?_eq_getElem h]; rfl
theorem fidxG_hit {α : Type} {p : α → Bool} {a : List α} {i : Nat} {d : α} (h : i < a.length) (hp : p (a.getD i d) = true) : fidxG p (a.drop i) i = i := by
  rw [drop_consG a i d h, fidxG, if_pos hp]
theorem fidxG_miss {α : Type} {p : α → Bool} {a : List α} {i : Nat} {d : α} (h : i < a.length) (hp : p (a.getD i d) = false) : fidxG p (a.drop i) i = fidxG p (a.drop (i + 1)) ((i + 1 : Nat) : Int) := by
  rw [drop_consG a i d h, fidxG, if_neg (by rw [hp]; decide)]
  simp
theorem fidxG_end {α : Type} {p : α → Bool} {a : List α} {i : Nat} (h : a.length ≤ i) : fidxG p (a.drop i) i = -1 := by
  rw [List.drop_eq_nil_of_le h, fidxG]
theorem fidxG_any {α : Type} {p : α → Bool} : ∀ {a : List α} {i : Int}, 0 ≤ i → (0 ≤ fidxG p a i ↔ a.any p = true)
  | [], i, h => by simp [fidxG]
  | x :: a, i, h => by
    have ih := fidxG_any (p := p) (a := a) (i := i + 1) (by omega)
    rw [fidxG, List.any_cons]
    cases hx : p x with
    | true => simp [h]
    | false => simpa using ih
def twoC (n : Int) (xs : List Int) (m : Int) (ys : List Int) : Int := if okPo n xs = true ∧ okPo m ys = true then 0 else 1
theorem two_0 {n m : Int} {xs ys : List Int} (h : okPo n xs = true) (h2 : okPo m ys = true) : twoC n xs m ys = 0 := if_pos ⟨h, h2⟩
theorem two_1 {n m : Int} {xs ys : List Int} (h : ¬ (okPo n xs = true ∧ okPo m ys = true)) : twoC n xs m ys = 1 := if_neg h
theorem two_ok {n m : Int} {xs ys : List Int} (h : twoC n xs m ys = 0) : okPo n xs = true ∧ okPo m ys = true := by
  unfold twoC at h
  split at h
  · assumption
  · cases h
theorem two_any {n m : Int} {xs ys : List Int} {b : Bool} (h : (([(n, xs), (m, ys)] : List (Int × List Int)).any fun p => !okPo p.1 p.2) = b) : twoC n xs m ys = if b then 1 else 0 := by
  subst h
  cases h1 : okPo n xs <;> cases h2 : okPo m ys <;> simp [twoC, h1, h2]
/-! The image of a mask under a map. -/
def imgF (ims : List Int) (L : List Int) : Int := L.foldl (fun o j => bor o (shl64 1 (ims.getD j.toNat 0))) 0
def mapM (ims : List Int) (m : Int) : Int := imgF ims (mem m)
theorem imgF_snoc {ims L : List Int} {t : Nat} (h : t < L.length) : bor (imgF ims (L.take t)) (shl64 1 (ims.getD (L.getD t 0).toNat 0)) = imgF ims (L.take (t + 1)) := by
  rw [List.take_succ_eq_append_getElem h, imgF, imgF, List.foldl_append, List.getD_eq_getElem?_getD (l := L), List.getElem?_eq_getElem h]
  rfl
def MorH (xs ys ims : List Int) : Prop := ims.length ≤ 8 ∧ ys.length ≤ 8 ∧ RelOK ims.length xs ∧ ∀ j : Nat, j < ims.length → 0 ≤ ims.getD j 0 ∧ ims.getD j 0 < (ys.length : Int)
def ImsH (ims : List Int) : Prop := ims.length ≤ 8 ∧ ∀ j : Nat, j < ims.length → 0 ≤ ims.getD j 0 ∧ ims.getD j 0 ≤ 61
theorem morH_i {xs ys ims : List Int} (h : MorH xs ys ims) : ImsH ims := ⟨h.1, fun j hj => by have := h.2.2.2 j hj; have := h.2.1; omega⟩
def mapB (n m : Int) (ims : List Int) : Bool := decide ((ims.length : Int) = n) && !ims.any fun y => !inR y 0 (m - 1)
def MOR (xs ys ims : List Int) (x : Nat) : Prop := mapM ims (xs.getD x 0) = ys.getD (ims.getD x 0).toNat 0
instance (xs ys ims : List Int) (x : Nat) : Decidable (MOR xs ys ims x) := by unfold MOR; infer_instance
def morA (n : Int) (xs ys ims : List Int) : Bool := (List.range n.toNat).all fun x => decide (MOR xs ys ims x)
def morB (n : Int) (xs : List Int) (m : Int) (ys ims : List Int) : Bool := mapB n m ims && morA n xs ys ims
theorem morA_iff {n : Int} {xs ys ims : List Int} : morA n xs ys ims = true ↔ ∀ i : Nat, i < n.toNat → MOR xs ys ims i := by simp [morA]
theorem morA_no {n : Int} {xs ys ims : List Int} {i : Nat} (hi : i < n.toNat) (h : ¬ mapM ims (xs.getD i 0) = ys.getD (ims.getD i 0).toNat 0) : false = morA n xs ys ims := by
  cases e : morA n xs ys ims with
  | false => rfl
  | true => exact absurd (morA_iff.1 e i hi) h
theorem mapB_len {n m : Int} {ims : List Int} (h : ¬ (ims.length : Int) = n) : false = mapB n m ims := by rw [mapB, decide_eq_false h]; rfl
theorem mapB_any {n m : Int} {ims : List Int} (h : (ims.length : Int) = n) : (!ims.any fun y => !inR y 0 (m - 1)) = mapB n m ims := by rw [mapB, decide_eq_true h]; rfl
theorem mapB_no {n m : Int} {ims : List Int} {i : Nat} (hi : i < ims.length) (h : inR (ims.getD i 0) 0 (m - 1) = false) : mapB n m ims = false := by
  have : (ims.any fun y => !inR y 0 (m - 1)) = true := List.any_eq_true.2 ⟨ims.getD i 0, by rw [List.getD_eq_getElem?_getD, List.getElem?_eq_getElem hi]; exact List.getElem_mem _, by rw [h]; rfl⟩
  rw [mapB, this]; simp
theorem mapB_mk {n m : Int} {ims : List Int} (h : (ims.length : Int) = n) (hi : ∀ i : Nat, i < ims.length → inR (ims.getD i 0) 0 (m - 1) = true) : mapB n m ims = true := by
  rw [← mapB_any h, Bool.not_eq_true', List.any_eq_false]
  intro y hy
  obtain ⟨j, hj, rfl⟩ := List.getElem_of_mem hy
  have := hi j hj
  rw [List.getD_eq_getElem?_getD, List.getElem?_eq_getElem hj] at this
  have : inR ims[j] 0 (m - 1) = true := this
  rw [this]; decide
theorem mapB_ok {n m : Int} {ims : List Int} (h : mapB n m ims = true) : (ims.length : Int) = n ∧ ∀ i : Nat, i < ims.length → 0 ≤ ims.getD i 0 ∧ ims.getD i 0 < m := by
  simp only [mapB, Bool.and_eq_true, decide_eq_true_eq, Bool.not_eq_true', List.any_eq_false] at h
  refine ⟨h.1, fun i hi => ?_⟩
  have h1 := h.2 (ims.getD i 0) (by rw [List.getD_eq_getElem?_getD, List.getElem?_eq_getElem hi]; exact List.getElem_mem _)
  have h2 : inR (ims.getD i 0) 0 (m - 1) = true := by simpa using h1
  rw [inR_iff] at h2
  omega
theorem morH_of {n m : Int} {xs ys ims : List Int} (hP : okFr n xs = true) (hQ : okFr m ys = true) (h : mapB n m ims = true) : MorH xs ys ims := by
  have a := okFr_rel hP
  have b := okFr_rel hQ
  have c := mapB_ok h
  have e : ims.length = n.toNat := by omega
  exact ⟨by omega, by omega, by rw [e]; exact a.2.2.2, fun j hj => by have := c.2 j hj; omega⟩

theorem arePosets1_c (n : Int) (xs : List Int) (lx : xs.length ≤ 1000000000) : CallA Try.prog 100 [.agg [AI n, LI xs]] (.bool (!(okPo n xs))) := by
  refine CallA.of Try.func100 rfl (by kernel_rfl) ?_
  refine R.go 8 (R.call true (isPoset_c n xs lx) (by kernel_rfl) rfl (by kernel_rfl) ?_)
  exact R.go 3 (R.retE (.bool (!(okPo n xs))) (by kernel_rfl) (by kernel_rfl) (by rfl))

theorem indexP_c (a : List (Int × List Int)) (hl : a.length ≤ 1000000000) (he : ∀ j : Nat, j < a.length → (a.getD j (0, [])).2.length ≤ 1000000000) : CallA Try.prog 138 [lstA eP 2 a, .fn 100 []] (AI (fidxG (fun p : Int × List Int => !okPo p.1 p.2) a 0)) := by
  refine CallA.of Try.func138 rfl (by kernel_rfl) ?_
  refine R.go 12 (R.loop (fun (i : Nat) => (⟨(frm 19 [(0, lstA eP 2 a), (1, .fn 100 []), (7, AI a.length), (8, AI (i : Int))]), []⟩ : St)) (fun (i : Nat) => (i ≤ a.length) ∧ (fidxG (fun p : Int × List Int => !okPo p.1 p.2) a 0 = fidxG (fun p : Int × List Int => !okPo p.1 p.2) (a.drop i) i)) (fun (i : Nat) => a.length - i) 0 [0, 1, 7, 8] none (by kernel_rfl) (by kernel_rfl) (by kernel_rfl) ⟨(by omega), (by rfl)⟩ ?_)
  rintro i ⟨h3_1, h3_2⟩ R1 N2
  have hei := he i
  refine R.go 5 (R.cond ((i : Int) < (a.length : Int)) (by kernel_rfl) (fun c4 => ?_) (fun c4 => ?_))
  · refine R.go 13 (R.idx eP a (0, []) i (i : Int) (by kernel_rfl) rfl eP_len (by omega) (by kernel_rfl) ?_)
    refine R.go 1 (R.call true (arePosets1_c ((a.getD i (0, [])).1) ((a.getD i (0, [])).2) (by first | omega | (simp <;> omega))) (by kernel_rfl) rfl (by kernel_rfl) ?_)
    refine R.go 1 (R.condM (okPo ((a.getD i (0, [])).1) ((a.getD i (0, [])).2)) (by kernel_rfl) (fun c5 => ?_) (fun c5 => ?_))
    · exact R.go 5 (R.retE (AI (i : Int)) (by kernel_rfl) (by kernel_rfl) (by first | (apply congrArg AI; rw [‹fidxG _ a 0 = _›]; first | exact (fidxG_end (by omega)).symm | exact (fidxG_hit (d := (0, [])) (by omega) (bnT (by assumption))).symm) | (exfalso; omega)))
    · refine R.go 3 (R.ar ((i : Int) + 1) (by kernel_rfl) (by omega) (by omega) (by kernel_rfl) ?_)
      exact R.go 2 (R.stop R1 (by kernel_rfl) (N2 (i + 1) [0, 1, 7, 8] none _ (by kernel_rfl) (by kernel_rfl) ⟨(by omega), (by rw [‹fidxG _ a 0 = _›]; exact fidxG_miss (d := (0, [])) (by omega) (bnF (by assumption)))⟩ (by show (a.length - (i + 1)) < (a.length - i); omega)))
  · exact R.go 5 (R.retE (AI (-1)) (by kernel_rfl) (by kernel_rfl) (by first | (apply congrArg AI; rw [‹fidxG _ a 0 = _›]; first | exact (fidxG_end (by omega)).symm | exact (fidxG_hit (d := (0, [])) (by omega) (bnT (by assumption))).symm) | (exfalso; omega)))

theorem containsP_c (a : List (Int × List Int)) (hl : a.length ≤ 1000000000) (he : ∀ j : Nat, j < a.length → (a.getD j (0, [])).2.length ≤ 1000000000) : CallA Try.prog 99 [lstA eP 2 a, .fn 100 []] (.bool (a.any (fun p : Int × List Int => !okPo p.1 p.2))) := by
  refine CallA.of Try.func99 rfl (by kernel_rfl) ?_
  refine R.go 8 (R.call true (indexP_c a hl he) (by kernel_rfl) rfl (by kernel_rfl) ?_)
  exact R.go 3 (R.retE (.bool (decide ((fidxG (fun p : Int × List Int => !okPo p.1 p.2) a 0) ≥ 0))) (by kernel_rfl) (by kernel_rfl) (by first | (apply congrArg AV.bool; rw [Bool.eq_iff_iff, decide_eq_true_iff]; exact fidxG_any (Int.le_refl 0)) | (exfalso; omega)))

theorem arePosets2_c (n : Int) (xs : List Int) (m : Int) (ys : List Int) (lx : xs.length ≤ 1000000000) (ly : ys.length ≤ 1000000000) : CallA Try.prog 65 [lstA eP 2 [(n, xs), (m, ys)]] (AI (twoC n xs m ys)) := by
  refine CallA.of Try.func65 rfl (by kernel_rfl) ?_
  refine R.go 8 (R.call true (containsP_c [(n, xs), (m, ys)] (by first | omega | (simp <;> omega)) (by first | assumption | (intro j hj; rcases j with _ | _ | j <;> simp at hj ⊢ <;> omega))) (by kernel_rfl) rfl (by kernel_rfl) ?_)
  refine R.go 1 (R.condB ([(n, xs), (m, ys)].any (fun p : Int × List Int => !okPo p.1 p.2)) (by kernel_rfl) (fun c1 => ?_) (fun c1 => ?_))
  · exact R.go 4 (R.retE (AI 1) (by kernel_rfl) (by kernel_rfl) (by first | (apply congrArg AI; rw [two_any (by assumption)]; rfl) | (exfalso; omega)))
  · exact R.go 5 (R.retE (AI 0) (by kernel_rfl) (by kernel_rfl) (by first | (apply congrArg AI; rw [two_any (by assumption)]; rfl) | (exfalso; omega)))

theorem l21Two_c (n : Int) (xs : List Int) (m : Int) (ys : List Int) (lx : xs.length ≤ 1000000000) (ly : ys.length ≤ 1000000000) : CallA Try.prog 63 [.agg [AI n, LI xs], .agg [AI m, LI ys]] (AI (twoC n xs m ys)) := by
  refine CallA.of Try.func63 rfl (by kernel_rfl) ?_
  refine R.go 10 (R.call true (l16Is_c n xs lx) (by kernel_rfl) rfl (by kernel_rfl) ?_)
  refine R.go 2 ?_
  refine (Bool.eq_false_or_eq_true (okPo n xs)).elim (fun c1 => ?_) (fun c1 => ?_)
  · refine R.want (!(okPo n xs)) false (by kernel_rfl) (bnF c1) ?_
    refine R.go 1 (R.want (!(okPo n xs)) false (by kernel_rfl) (bnF c1) ?_)
    refine R.call true (l16Is_c m ys ly) (by kernel_rfl) rfl (by kernel_rfl) ?_
    refine R.want (!(okPo n xs)) false (by kernel_rfl) (bnF c1) ?_
    refine R.go 1 (R.pick (!(okPo n xs)) false (by kernel_rfl) (bnF c1) (by kernel_rfl) ?_)
    refine R.go 1 (R.condM (okPo m ys) (by kernel_rfl) (fun c2 => ?_) (fun c2 => ?_))
    · exact R.go 4 (R.retE (AI 1) (by kernel_rfl) (by kernel_rfl) (by first | (apply congrArg AI; first | exact (two_0 (by assumption) (by assumption)).symm | exact (two_1 (by simp [*])).symm) | (exfalso; omega)))
    · exact R.go 5 (R.retE (AI 0) (by kernel_rfl) (by kernel_rfl) (by first | (apply congrArg AI; first | exact (two_0 (by assumption) (by assumption)).symm | exact (two_1 (by simp [*])).symm) | (exfalso; omega)))
  · refine R.skp (!(okPo n xs)) false (by kernel_rfl) (bnT c1) (by kernel_rfl) ?_
    refine R.skp (!(okPo n xs)) false (by kernel_rfl) (bnT c1) (by kernel_rfl) ?_
    refine R.skp (!(okPo n xs)) false (by kernel_rfl) (bnT c1) (by kernel_rfl) ?_
    refine R.pick (!(okPo n xs)) true (by kernel_rfl) (bnT c1) (by kernel_rfl) ?_
    exact R.go 6 (R.retE (AI 1) (by kernel_rfl) (by kernel_rfl) (by first | (apply congrArg AI; first | exact (two_0 (by assumption) (by assumption)).symm | exact (two_1 (by simp [*])).symm) | (exfalso; omega)))

theorem mapMask_c (ims : List Int) (m : Int) (hI : ImsH ims) (hm : InM ims.length m) : CallA Try.prog 98 [LI ims, AI m] (AI (mapM ims m)) := by
  have hi1 := hI.1
  have hm61 := inM_mono (n' := 61) (by omega) hm
  have hml := mem_le m
  have hiv := hI.2
  refine CallA.of Try.func98 rfl (by kernel_rfl) ?_
  refine R.go 12 (R.call true (membersOf_c m (by first | assumption | exact inM61 (by omega) (by omega))).frz (by kernel_rfl) rfl (by kernel_rfl) ?_)
  refine R.go 4 (R.loop ((fun | (t, r) => (⟨(frm 24 [(0, LI ims), (5, AI r), (9, LI (mem m)), (10, AI ((mem m).length)), (11, AI (t : Int))]), []⟩ : St) : Nat × Int → St)) (fun | (t, r) => (t ≤ (mem m).length) ∧ (r = imgF ims ((mem m).take t))) (fun | (t, r) => (mem m).length - t) (0, 0) [0, 5, 9, 10, 11] none (by kernel_rfl) (by kernel_rfl) (by kernel_rfl) ⟨(by omega), (by rfl)⟩ ?_)
  rintro ⟨t, r⟩ ⟨h4_1, rfl⟩ R1 N2
  have hjr := fun h : t < (mem m).length => mem_lt' (N := ims.length) (by omega) hm h
  have hiw := fun h : t < (mem m).length => hiv ((mem m).getD t 0).toNat (by have := hjr h; omega)
  refine R.go 5 (R.cond ((t : Int) < ((mem m).length : Int)) (by kernel_rfl) (fun c5 => ?_) (fun c5 => ?_))
  · refine R.go 5 (R.idx eI (mem m) 0 t (t : Int) (by kernel_rfl) rfl eI_len (by omega) (by kernel_rfl) ?_)
    have hj2 := hjr (by omega)
    have hw2 := hiw (by omega)
    refine R.go 7 (R.idx eI ims 0 ((((mem m).getD t 0)).toNat) ((mem m).getD t 0) (by kernel_rfl) (by omega) eI_len (by omega) (by kernel_rfl) ?_)
    refine R.go 1 (R.shl 1 (ims.getD ((((mem m).getD t 0)).toNat) 0) (by kernel_rfl) (by omega) (by kernel_rfl) ?_)
    refine R.go 5 (R.ar ((t : Int) + 1) (by kernel_rfl) (by omega) (by omega) (by kernel_rfl) ?_)
    exact R.go 2 (R.stop R1 (by kernel_rfl) (N2 (t + 1, bor (imgF ims ((mem m).take t)) (shl64 1 (ims.getD ((((mem m).getD t 0)).toNat) 0))) [0, 5, 9, 10, 11] none _ (by kernel_rfl) (by kernel_rfl) ⟨(by omega), (by exact imgF_snoc (by omega))⟩ (by show ((mem m).length - (t + 1)) < ((mem m).length - t); omega)))
  · exact R.go 6 (R.retE (AI (imgF ims ((mem m).take t))) (by kernel_rfl) (by kernel_rfl) (by first | (rw [mapM, List.take_of_length_le (by omega)]) | (exfalso; omega)))

theorem l21Images_c (m : Int) (ims : List Int) (hI : ImsH ims) (hm : InM ims.length m) : CallA Try.prog 93 [AI m, LI ims] (AI (mapM ims m)) := by
  have hi1 := hI.1
  have hm61 := inM_mono (n' := 61) (by omega) hm
  have hml := mem_le m
  have hiv := hI.2
  refine CallA.of Try.func93 rfl (by kernel_rfl) ?_
  refine R.go 7 (R.call true (l01ListM_c m (by first | assumption | exact inM61 (by omega) (by omega))).frz (by kernel_rfl) rfl (by kernel_rfl) ?_)
  refine R.go 9 (R.loop ((fun | (t, r) => (⟨(frm 35 [(1, LI ims), (5, LI (mem m)), (6, AI r), (7, AI (t : Int))]), []⟩ : St) : Nat × Int → St)) (fun | (t, r) => (t ≤ (mem m).length) ∧ (r = imgF ims ((mem m).take t))) (fun | (t, r) => (mem m).length - t) (0, 0) [1, 5, 6, 7] none (by kernel_rfl) (by kernel_rfl) (by kernel_rfl) ⟨(by omega), (by rfl)⟩ ?_)
  rintro ⟨t, r⟩ ⟨h4_1, rfl⟩ R1 N2
  have hjr := fun h : t < (mem m).length => mem_lt' (N := ims.length) (by omega) hm h
  have hiw := fun h : t < (mem m).length => hiv ((mem m).getD t 0).toNat (by have := hjr h; omega)
  refine R.go 8 (R.cond ((t : Int) < ((mem m).length : Int)) (by kernel_rfl) (fun c5 => ?_) (fun c5 => ?_))
  · have hj2 := hjr (by omega)
    have hw2 := hiw (by omega)
    refine R.go 8 (R.idx eI (mem m) 0 t (t : Int) (by kernel_rfl) rfl eI_len (by omega) (by kernel_rfl) ?_)
    refine R.go 1 (R.idx eI ims 0 ((((mem m).getD t 0)).toNat) ((mem m).getD t 0) (by kernel_rfl) (by omega) eI_len (by omega) (by kernel_rfl) ?_)
    refine R.go 3 (R.cond ((ims.getD ((((mem m).getD t 0)).toNat) 0) ≥ 0) (by kernel_rfl) (fun c6 => ?_) (fun c6 => ?_))
    · refine R.go 5 (R.idx eI (mem m) 0 t (t : Int) (by kernel_rfl) rfl eI_len (by omega) (by kernel_rfl) ?_)
      refine R.go 1 (R.idx eI ims 0 ((((mem m).getD t 0)).toNat) ((mem m).getD t 0) (by kernel_rfl) (by omega) eI_len (by omega) (by kernel_rfl) ?_)
      refine R.go 1 (R.call true (l01One_c (ims.getD ((((mem m).getD t 0)).toNat) 0) (by omega) (by omega)) (by kernel_rfl) rfl (by kernel_rfl) ?_)
      refine R.go 6 (R.ar ((t : Int) + 1) (by kernel_rfl) (by omega) (by omega) (by kernel_rfl) ?_)
      exact R.go 2 (R.stop R1 (by kernel_rfl) (N2 (t + 1, bor (imgF ims ((mem m).take t)) (shl64 1 (ims.getD ((((mem m).getD t 0)).toNat) 0))) [1, 5, 6, 7] none _ (by kernel_rfl) (by kernel_rfl) ⟨(by omega), (by first | exact imgF_snoc (by omega) | (exfalso; omega))⟩ (by show ((mem m).length - (t + 1)) < ((mem m).length - t); omega)))
    · refine R.go 4 (R.ar ((t : Int) + 1) (by kernel_rfl) (by omega) (by omega) (by kernel_rfl) ?_)
      exact R.go 2 (R.stop R1 (by kernel_rfl) (N2 (t + 1, imgF ims ((mem m).take t)) [1, 5, 6, 7] none _ (by kernel_rfl) (by kernel_rfl) ⟨(by omega), (by first | exact imgF_snoc (by omega) | (exfalso; omega))⟩ (by show ((mem m).length - (t + 1)) < ((mem m).length - t); omega)))
  · exact R.go 6 (R.retE (AI (imgF ims ((mem m).take t))) (by kernel_rfl) (by kernel_rfl) (by first | (rw [mapM, List.take_of_length_le (by omega)]) | (exfalso; omega)))

theorem hasWorld_c (m : Int) (ys : List Int) (y : Int) (h0 : 0 ≤ m) (h8 : m ≤ 8) : CallA Try.prog 140 [.agg [AI m, LI ys], AI y] (.bool (inR y 0 (m - 1))) := by
  refine CallA.of Try.func140 rfl (by kernel_rfl) ?_
  refine R.go 10 (R.ar (m - 1) (by kernel_rfl) (by omega) (by omega) (by kernel_rfl) ?_)
  refine R.call true (inRange_c y 0 (m - 1)) (by kernel_rfl) rfl (by kernel_rfl) ?_
  exact R.go 2 (R.retE (.bool (inR y 0 (m - 1))) (by kernel_rfl) (by kernel_rfl) (by rfl))

theorem isMap1_c (y : Int) (m : Int) (ys : List Int) (h0 : 0 ≤ m) (h8 : m ≤ 8) : CallA Try.prog 139 [AI y, .rptr [AI m, LI ys]] (.bool (!(inR y 0 (m - 1)))) := by
  refine CallA.of Try.func139 rfl (by kernel_rfl) ?_
  refine R.go 8 (R.call true (hasWorld_c m ys y h0 h8) (by kernel_rfl) rfl (by kernel_rfl) ?_)
  exact R.go 3 (R.retE (.bool (!(inR y 0 (m - 1)))) (by kernel_rfl) (by kernel_rfl) (by rfl))

theorem indexM_c (a : List Int) (m : Int) (ys : List Int) (hl : a.length ≤ 1000000000) (h0 : 0 ≤ m) (h8 : m ≤ 8) : CallA Try.prog 88 [LI a, .fn 139 [.rptr [AI m, LI ys]]] (AI (fidxI (fun y => !inR y 0 (m - 1)) a 0)) := by
  refine CallA.of Try.func88 rfl (by kernel_rfl) ?_
  refine R.go 12 (R.loop (fun (i : Nat) => (⟨(frm 19 [(0, LI a), (1, .fn 139 [.rptr [AI m, LI ys]]), (7, AI a.length), (8, AI (i : Int))]), []⟩ : St)) (fun (i : Nat) => (i ≤ a.length) ∧ (fidxI (fun y => !inR y 0 (m - 1)) a 0 = fidxI (fun y => !inR y 0 (m - 1)) (a.drop i) i)) (fun (i : Nat) => a.length - i) 0 [0, 1, 7, 8] none (by kernel_rfl) (by kernel_rfl) (by kernel_rfl) ⟨(by omega), (by rfl)⟩ ?_)
  rintro i ⟨h3_1, h3_2⟩ R1 N2
  refine R.go 5 (R.cond ((i : Int) < (a.length : Int)) (by kernel_rfl) (fun c4 => ?_) (fun c4 => ?_))
  · refine R.go 13 (R.idx eI a 0 i (i : Int) (by kernel_rfl) rfl eI_len (by omega) (by kernel_rfl) ?_)
    refine R.go 1 (R.call true (isMap1_c (a.getD i 0) m ys h0 h8) (by kernel_rfl) rfl (by kernel_rfl) ?_)
    refine R.go 1 (R.condM (inR (a.getD i 0) 0 (m - 1)) (by kernel_rfl) (fun c5 => ?_) (fun c5 => ?_))
    · exact R.go 5 (R.retE (AI (i : Int)) (by kernel_rfl) (by kernel_rfl) (by first | (apply congrArg AI; rw [‹fidxI _ a 0 = _›]; first | exact (fidxI_end (by omega)).symm | exact (fidxI_hit (by omega) (bnT (by assumption))).symm) | (exfalso; omega)))
    · refine R.go 3 (R.ar ((i : Int) + 1) (by kernel_rfl) (by omega) (by omega) (by kernel_rfl) ?_)
      exact R.go 2 (R.stop R1 (by kernel_rfl) (N2 (i + 1) [0, 1, 7, 8] none _ (by kernel_rfl) (by kernel_rfl) ⟨(by omega), (by rw [‹fidxI _ a 0 = _›]; exact fidxI_miss (by omega) (bnF (by assumption)))⟩ (by show (a.length - (i + 1)) < (a.length - i); omega)))
  · exact R.go 5 (R.retE (AI (-1)) (by kernel_rfl) (by kernel_rfl) (by first | (apply congrArg AI; rw [‹fidxI _ a 0 = _›]; first | exact (fidxI_end (by omega)).symm | exact (fidxI_hit (by omega) (bnT (by assumption))).symm) | (exfalso; omega)))

theorem containsM_c (a : List Int) (m : Int) (ys : List Int) (hl : a.length ≤ 1000000000) (h0 : 0 ≤ m) (h8 : m ≤ 8) : CallA Try.prog 112 [LI a, .fn 139 [.rptr [AI m, LI ys]]] (.bool (a.any (fun y => !inR y 0 (m - 1)))) := by
  refine CallA.of Try.func112 rfl (by kernel_rfl) ?_
  refine R.go 8 (R.call true (indexM_c a m ys hl h0 h8) (by kernel_rfl) rfl (by kernel_rfl) ?_)
  exact R.go 3 (R.retE (.bool (decide ((fidxI (fun y => !inR y 0 (m - 1)) a 0) ≥ 0))) (by kernel_rfl) (by kernel_rfl) (by first | (apply congrArg AV.bool; rw [Bool.eq_iff_iff, decide_eq_true_iff]; exact fidxI_any (Int.le_refl 0)) | (exfalso; omega)))

theorem isMap_c (n : Int) (xs : List Int) (m : Int) (ys : List Int) (ims : List Int) (h0 : 0 ≤ m) (h8 : m ≤ 8) (li : ims.length ≤ 1000000000) : CallA Try.prog 101 [.agg [AI n, LI xs], .agg [AI m, LI ys], LI ims] (.bool (mapB n m ims)) := by
  refine CallA.of Try.func101 rfl (by kernel_rfl) ?_
  refine R.go 7 (R.any (by decide +kernel) (by kernel_rfl) ?_)
  refine R.anyF 0 (by kernel_rfl) (np_ret _ _ _) ?_
  refine R.any2 1 2 (by kernel_rfl) (by kernel_rfl) ?_ ?_
  · refine R.call true (size_c ims) (by kernel_rfl) rfl (by kernel_rfl) ?_
    refine R.go 1 (R.any1 2 (by kernel_rfl) (by kernel_rfl) ?_)
    refine R.go 2 (R.any1 3 (by kernel_rfl) (by kernel_rfl) ?_)
    refine R.go 2 (R.any1 4 (by kernel_rfl) (by kernel_rfl) ?_)
    refine R.go 2 (R.anyF 5 (by kernel_rfl) (np_ret _ _ _) ?_)
    refine R.any2 6 7 (by kernel_rfl) (by kernel_rfl) ?_ ?_
    · by_cases c1 : (ims.length : Int) = n
      · refine R.want (decide ((ims.length : Int) = n)) true (by kernel_rfl) (dT c1) ?_
        refine R.go 2 (R.any1 7 (by kernel_rfl) (by kernel_rfl) ?_)
        refine R.want (decide ((ims.length : Int) = n)) true (by kernel_rfl) (dT c1) ?_
        refine R.go 2 (R.any1 8 (by kernel_rfl) (by kernel_rfl) ?_)
        refine R.want (decide ((ims.length : Int) = n)) true (by kernel_rfl) (dT c1) ?_
        refine R.call false (containsM_c ims m ys li h0 h8) (by kernel_rfl) rfl (by kernel_rfl) ?_
        refine R.go 1 (R.any1 9 (by kernel_rfl) (by kernel_rfl) ?_)
        refine R.want (decide ((ims.length : Int) = n)) true (by kernel_rfl) (dT c1) ?_
        refine R.go 2 (R.any1 10 (by kernel_rfl) (by kernel_rfl) ?_)
        refine R.pick (decide ((ims.length : Int) = n)) true (by kernel_rfl) (dT c1) (by kernel_rfl) ?_
        refine R.go 1 (R.any1 11 (by kernel_rfl) (by kernel_rfl) ?_)
        refine R.go 2 (R.any0 (by kernel_rfl) ?_)
        exact R.retE (.bool (!(ims.any (fun y => !inR y 0 (m - 1))))) (by kernel_rfl) (by kernel_rfl) (by first | (apply congrArg AV.bool; first | exact mapB_len (by assumption) | exact mapB_any (by assumption)) | (exfalso; omega))
      · refine R.skp (decide ((ims.length : Int) = n)) true (by kernel_rfl) (dF c1) (by kernel_rfl) ?_
        refine R.go 1 (R.any1 7 (by kernel_rfl) (by kernel_rfl) ?_)
        refine R.skp (decide ((ims.length : Int) = n)) true (by kernel_rfl) (dF c1) (by kernel_rfl) ?_
        refine R.go 1 (R.any1 8 (by kernel_rfl) (by kernel_rfl) ?_)
        refine R.skp (decide ((ims.length : Int) = n)) true (by kernel_rfl) (dF c1) (by kernel_rfl) ?_
        refine R.go 1 (R.any1 9 (by kernel_rfl) (by kernel_rfl) ?_)
        refine R.skp (decide ((ims.length : Int) = n)) true (by kernel_rfl) (dF c1) (by kernel_rfl) ?_
        refine R.go 1 (R.any1 10 (by kernel_rfl) (by kernel_rfl) ?_)
        refine R.pick (decide ((ims.length : Int) = n)) false (by kernel_rfl) (dF c1) (by kernel_rfl) ?_
        refine R.go 1 (R.any1 11 (by kernel_rfl) (by kernel_rfl) ?_)
        refine R.go 2 (R.any0 (by kernel_rfl) ?_)
        exact R.retE (.bool false) (by kernel_rfl) (by kernel_rfl) (by first | (apply congrArg AV.bool; first | exact mapB_len (by assumption) | exact mapB_any (by assumption)) | (exfalso; omega))
    · by_cases c2 : (ims.length : Int) = n
      · refine R.want (decide ((ims.length : Int) = n)) true (by kernel_rfl) (dT c2) ?_
        refine R.go 2 (R.any1 6 (by kernel_rfl) (by kernel_rfl) ?_)
        refine R.want (decide ((ims.length : Int) = n)) true (by kernel_rfl) (dT c2) ?_
        refine R.go 2 (R.any1 8 (by kernel_rfl) (by kernel_rfl) ?_)
        refine R.want (decide ((ims.length : Int) = n)) true (by kernel_rfl) (dT c2) ?_
        refine R.call false (containsM_c ims m ys li h0 h8) (by kernel_rfl) rfl (by kernel_rfl) ?_
        refine R.go 1 (R.any1 9 (by kernel_rfl) (by kernel_rfl) ?_)
        refine R.want (decide ((ims.length : Int) = n)) true (by kernel_rfl) (dT c2) ?_
        refine R.go 2 (R.any1 10 (by kernel_rfl) (by kernel_rfl) ?_)
        refine R.pick (decide ((ims.length : Int) = n)) true (by kernel_rfl) (dT c2) (by kernel_rfl) ?_
        refine R.go 1 (R.any1 11 (by kernel_rfl) (by kernel_rfl) ?_)
        refine R.go 2 (R.any0 (by kernel_rfl) ?_)
        exact R.retE (.bool (!(ims.any (fun y => !inR y 0 (m - 1))))) (by kernel_rfl) (by kernel_rfl) (by first | (apply congrArg AV.bool; first | exact mapB_len (by assumption) | exact mapB_any (by assumption)) | (exfalso; omega))
      · refine R.skp (decide ((ims.length : Int) = n)) true (by kernel_rfl) (dF c2) (by kernel_rfl) ?_
        refine R.go 1 (R.any1 6 (by kernel_rfl) (by kernel_rfl) ?_)
        refine R.skp (decide ((ims.length : Int) = n)) true (by kernel_rfl) (dF c2) (by kernel_rfl) ?_
        refine R.go 1 (R.any1 8 (by kernel_rfl) (by kernel_rfl) ?_)
        refine R.skp (decide ((ims.length : Int) = n)) true (by kernel_rfl) (dF c2) (by kernel_rfl) ?_
        refine R.go 1 (R.any1 9 (by kernel_rfl) (by kernel_rfl) ?_)
        refine R.skp (decide ((ims.length : Int) = n)) true (by kernel_rfl) (dF c2) (by kernel_rfl) ?_
        refine R.go 1 (R.any1 10 (by kernel_rfl) (by kernel_rfl) ?_)
        refine R.pick (decide ((ims.length : Int) = n)) false (by kernel_rfl) (dF c2) (by kernel_rfl) ?_
        refine R.go 1 (R.any1 11 (by kernel_rfl) (by kernel_rfl) ?_)
        refine R.go 2 (R.any0 (by kernel_rfl) ?_)
        exact R.retE (.bool false) (by kernel_rfl) (by kernel_rfl) (by first | (apply congrArg AV.bool; first | exact mapB_len (by assumption) | exact mapB_any (by assumption)) | (exfalso; omega))
  · refine R.go 2 (R.any2 1 3 (by kernel_rfl) (by kernel_rfl) ?_ ?_)
    · refine R.call true (size_c ims) (by kernel_rfl) rfl (by kernel_rfl) ?_
      refine R.go 1 (R.any1 3 (by kernel_rfl) (by kernel_rfl) ?_)
      refine R.go 2 (R.any1 4 (by kernel_rfl) (by kernel_rfl) ?_)
      refine R.go 2 (R.anyF 5 (by kernel_rfl) (np_ret _ _ _) ?_)
      refine R.any2 6 7 (by kernel_rfl) (by kernel_rfl) ?_ ?_
      · by_cases c3 : (ims.length : Int) = n
        · refine R.want (decide ((ims.length : Int) = n)) true (by kernel_rfl) (dT c3) ?_
          refine R.go 2 (R.any1 7 (by kernel_rfl) (by kernel_rfl) ?_)
          refine R.want (decide ((ims.length : Int) = n)) true (by kernel_rfl) (dT c3) ?_
          refine R.go 2 (R.any1 8 (by kernel_rfl) (by kernel_rfl) ?_)
          refine R.want (decide ((ims.length : Int) = n)) true (by kernel_rfl) (dT c3) ?_
          refine R.call false (containsM_c ims m ys li h0 h8) (by kernel_rfl) rfl (by kernel_rfl) ?_
          refine R.go 1 (R.any1 9 (by kernel_rfl) (by kernel_rfl) ?_)
          refine R.want (decide ((ims.length : Int) = n)) true (by kernel_rfl) (dT c3) ?_
          refine R.go 2 (R.any1 10 (by kernel_rfl) (by kernel_rfl) ?_)
          refine R.pick (decide ((ims.length : Int) = n)) true (by kernel_rfl) (dT c3) (by kernel_rfl) ?_
          refine R.go 1 (R.any1 11 (by kernel_rfl) (by kernel_rfl) ?_)
          refine R.go 2 (R.any0 (by kernel_rfl) ?_)
          exact R.retE (.bool (!(ims.any (fun y => !inR y 0 (m - 1))))) (by kernel_rfl) (by kernel_rfl) (by first | (apply congrArg AV.bool; first | exact mapB_len (by assumption) | exact mapB_any (by assumption)) | (exfalso; omega))
        · refine R.skp (decide ((ims.length : Int) = n)) true (by kernel_rfl) (dF c3) (by kernel_rfl) ?_
          refine R.go 1 (R.any1 7 (by kernel_rfl) (by kernel_rfl) ?_)
          refine R.skp (decide ((ims.length : Int) = n)) true (by kernel_rfl) (dF c3) (by kernel_rfl) ?_
          refine R.go 1 (R.any1 8 (by kernel_rfl) (by kernel_rfl) ?_)
          refine R.skp (decide ((ims.length : Int) = n)) true (by kernel_rfl) (dF c3) (by kernel_rfl) ?_
          refine R.go 1 (R.any1 9 (by kernel_rfl) (by kernel_rfl) ?_)
          refine R.skp (decide ((ims.length : Int) = n)) true (by kernel_rfl) (dF c3) (by kernel_rfl) ?_
          refine R.go 1 (R.any1 10 (by kernel_rfl) (by kernel_rfl) ?_)
          refine R.pick (decide ((ims.length : Int) = n)) false (by kernel_rfl) (dF c3) (by kernel_rfl) ?_
          refine R.go 1 (R.any1 11 (by kernel_rfl) (by kernel_rfl) ?_)
          refine R.go 2 (R.any0 (by kernel_rfl) ?_)
          exact R.retE (.bool false) (by kernel_rfl) (by kernel_rfl) (by first | (apply congrArg AV.bool; first | exact mapB_len (by assumption) | exact mapB_any (by assumption)) | (exfalso; omega))
      · by_cases c4 : (ims.length : Int) = n
        · refine R.want (decide ((ims.length : Int) = n)) true (by kernel_rfl) (dT c4) ?_
          refine R.go 2 (R.any1 6 (by kernel_rfl) (by kernel_rfl) ?_)
          refine R.want (decide ((ims.length : Int) = n)) true (by kernel_rfl) (dT c4) ?_
          refine R.go 2 (R.any1 8 (by kernel_rfl) (by kernel_rfl) ?_)
          refine R.want (decide ((ims.length : Int) = n)) true (by kernel_rfl) (dT c4) ?_
          refine R.call false (containsM_c ims m ys li h0 h8) (by kernel_rfl) rfl (by kernel_rfl) ?_
          refine R.go 1 (R.any1 9 (by kernel_rfl) (by kernel_rfl) ?_)
          refine R.want (decide ((ims.length : Int) = n)) true (by kernel_rfl) (dT c4) ?_
          refine R.go 2 (R.any1 10 (by kernel_rfl) (by kernel_rfl) ?_)
          refine R.pick (decide ((ims.length : Int) = n)) true (by kernel_rfl) (dT c4) (by kernel_rfl) ?_
          refine R.go 1 (R.any1 11 (by kernel_rfl) (by kernel_rfl) ?_)
          refine R.go 2 (R.any0 (by kernel_rfl) ?_)
          exact R.retE (.bool (!(ims.any (fun y => !inR y 0 (m - 1))))) (by kernel_rfl) (by kernel_rfl) (by first | (apply congrArg AV.bool; first | exact mapB_len (by assumption) | exact mapB_any (by assumption)) | (exfalso; omega))
        · refine R.skp (decide ((ims.length : Int) = n)) true (by kernel_rfl) (dF c4) (by kernel_rfl) ?_
          refine R.go 1 (R.any1 6 (by kernel_rfl) (by kernel_rfl) ?_)
          refine R.skp (decide ((ims.length : Int) = n)) true (by kernel_rfl) (dF c4) (by kernel_rfl) ?_
          refine R.go 1 (R.any1 8 (by kernel_rfl) (by kernel_rfl) ?_)
          refine R.skp (decide ((ims.length : Int) = n)) true (by kernel_rfl) (dF c4) (by kernel_rfl) ?_
          refine R.go 1 (R.any1 9 (by kernel_rfl) (by kernel_rfl) ?_)
          refine R.skp (decide ((ims.length : Int) = n)) true (by kernel_rfl) (dF c4) (by kernel_rfl) ?_
          refine R.go 1 (R.any1 10 (by kernel_rfl) (by kernel_rfl) ?_)
          refine R.pick (decide ((ims.length : Int) = n)) false (by kernel_rfl) (dF c4) (by kernel_rfl) ?_
          refine R.go 1 (R.any1 11 (by kernel_rfl) (by kernel_rfl) ?_)
          refine R.go 2 (R.any0 (by kernel_rfl) ?_)
          exact R.retE (.bool false) (by kernel_rfl) (by kernel_rfl) (by first | (apply congrArg AV.bool; first | exact mapB_len (by assumption) | exact mapB_any (by assumption)) | (exfalso; omega))
    · refine R.go 2 (R.any1 1 (by kernel_rfl) (by kernel_rfl) ?_)
      refine R.call true (size_c ims) (by kernel_rfl) rfl (by kernel_rfl) ?_
      refine R.go 1 (R.any1 4 (by kernel_rfl) (by kernel_rfl) ?_)
      refine R.go 2 (R.anyF 5 (by kernel_rfl) (np_ret _ _ _) ?_)
      refine R.any2 6 7 (by kernel_rfl) (by kernel_rfl) ?_ ?_
      · by_cases c5 : (ims.length : Int) = n
        · refine R.want (decide ((ims.length : Int) = n)) true (by kernel_rfl) (dT c5) ?_
          refine R.go 2 (R.any1 7 (by kernel_rfl) (by kernel_rfl) ?_)
          refine R.want (decide ((ims.length : Int) = n)) true (by kernel_rfl) (dT c5) ?_
          refine R.go 2 (R.any1 8 (by kernel_rfl) (by kernel_rfl) ?_)
          refine R.want (decide ((ims.length : Int) = n)) true (by kernel_rfl) (dT c5) ?_
          refine R.call false (containsM_c ims m ys li h0 h8) (by kernel_rfl) rfl (by kernel_rfl) ?_
          refine R.go 1 (R.any1 9 (by kernel_rfl) (by kernel_rfl) ?_)
          refine R.want (decide ((ims.length : Int) = n)) true (by kernel_rfl) (dT c5) ?_
          refine R.go 2 (R.any1 10 (by kernel_rfl) (by kernel_rfl) ?_)
          refine R.pick (decide ((ims.length : Int) = n)) true (by kernel_rfl) (dT c5) (by kernel_rfl) ?_
          refine R.go 1 (R.any1 11 (by kernel_rfl) (by kernel_rfl) ?_)
          refine R.go 2 (R.any0 (by kernel_rfl) ?_)
          exact R.retE (.bool (!(ims.any (fun y => !inR y 0 (m - 1))))) (by kernel_rfl) (by kernel_rfl) (by first | (apply congrArg AV.bool; first | exact mapB_len (by assumption) | exact mapB_any (by assumption)) | (exfalso; omega))
        · refine R.skp (decide ((ims.length : Int) = n)) true (by kernel_rfl) (dF c5) (by kernel_rfl) ?_
          refine R.go 1 (R.any1 7 (by kernel_rfl) (by kernel_rfl) ?_)
          refine R.skp (decide ((ims.length : Int) = n)) true (by kernel_rfl) (dF c5) (by kernel_rfl) ?_
          refine R.go 1 (R.any1 8 (by kernel_rfl) (by kernel_rfl) ?_)
          refine R.skp (decide ((ims.length : Int) = n)) true (by kernel_rfl) (dF c5) (by kernel_rfl) ?_
          refine R.go 1 (R.any1 9 (by kernel_rfl) (by kernel_rfl) ?_)
          refine R.skp (decide ((ims.length : Int) = n)) true (by kernel_rfl) (dF c5) (by kernel_rfl) ?_
          refine R.go 1 (R.any1 10 (by kernel_rfl) (by kernel_rfl) ?_)
          refine R.pick (decide ((ims.length : Int) = n)) false (by kernel_rfl) (dF c5) (by kernel_rfl) ?_
          refine R.go 1 (R.any1 11 (by kernel_rfl) (by kernel_rfl) ?_)
          refine R.go 2 (R.any0 (by kernel_rfl) ?_)
          exact R.retE (.bool false) (by kernel_rfl) (by kernel_rfl) (by first | (apply congrArg AV.bool; first | exact mapB_len (by assumption) | exact mapB_any (by assumption)) | (exfalso; omega))
      · by_cases c6 : (ims.length : Int) = n
        · refine R.want (decide ((ims.length : Int) = n)) true (by kernel_rfl) (dT c6) ?_
          refine R.go 2 (R.any1 6 (by kernel_rfl) (by kernel_rfl) ?_)
          refine R.want (decide ((ims.length : Int) = n)) true (by kernel_rfl) (dT c6) ?_
          refine R.go 2 (R.any1 8 (by kernel_rfl) (by kernel_rfl) ?_)
          refine R.want (decide ((ims.length : Int) = n)) true (by kernel_rfl) (dT c6) ?_
          refine R.call false (containsM_c ims m ys li h0 h8) (by kernel_rfl) rfl (by kernel_rfl) ?_
          refine R.go 1 (R.any1 9 (by kernel_rfl) (by kernel_rfl) ?_)
          refine R.want (decide ((ims.length : Int) = n)) true (by kernel_rfl) (dT c6) ?_
          refine R.go 2 (R.any1 10 (by kernel_rfl) (by kernel_rfl) ?_)
          refine R.pick (decide ((ims.length : Int) = n)) true (by kernel_rfl) (dT c6) (by kernel_rfl) ?_
          refine R.go 1 (R.any1 11 (by kernel_rfl) (by kernel_rfl) ?_)
          refine R.go 2 (R.any0 (by kernel_rfl) ?_)
          exact R.retE (.bool (!(ims.any (fun y => !inR y 0 (m - 1))))) (by kernel_rfl) (by kernel_rfl) (by first | (apply congrArg AV.bool; first | exact mapB_len (by assumption) | exact mapB_any (by assumption)) | (exfalso; omega))
        · refine R.skp (decide ((ims.length : Int) = n)) true (by kernel_rfl) (dF c6) (by kernel_rfl) ?_
          refine R.go 1 (R.any1 6 (by kernel_rfl) (by kernel_rfl) ?_)
          refine R.skp (decide ((ims.length : Int) = n)) true (by kernel_rfl) (dF c6) (by kernel_rfl) ?_
          refine R.go 1 (R.any1 8 (by kernel_rfl) (by kernel_rfl) ?_)
          refine R.skp (decide ((ims.length : Int) = n)) true (by kernel_rfl) (dF c6) (by kernel_rfl) ?_
          refine R.go 1 (R.any1 9 (by kernel_rfl) (by kernel_rfl) ?_)
          refine R.skp (decide ((ims.length : Int) = n)) true (by kernel_rfl) (dF c6) (by kernel_rfl) ?_
          refine R.go 1 (R.any1 10 (by kernel_rfl) (by kernel_rfl) ?_)
          refine R.pick (decide ((ims.length : Int) = n)) false (by kernel_rfl) (dF c6) (by kernel_rfl) ?_
          refine R.go 1 (R.any1 11 (by kernel_rfl) (by kernel_rfl) ?_)
          refine R.go 2 (R.any0 (by kernel_rfl) ?_)
          exact R.retE (.bool false) (by kernel_rfl) (by kernel_rfl) (by first | (apply congrArg AV.bool; first | exact mapB_len (by assumption) | exact mapB_any (by assumption)) | (exfalso; omega))

theorem isMor1_c (x : Nat) (ims : List Int) (n : Int) (xs : List Int) (m : Int) (ys : List Int) (hM : MorH xs ys ims) (hx : x < ims.length) : CallA Try.prog 136 [AI (x : Int), .rptr [LI ims], .rptr [AI n, LI xs], .rptr [AI m, LI ys]] (.bool (decide (mapM ims (xs.getD x 0) = ys.getD (ims.getD x 0).toNat 0))) := by
  have hM1 := hM.1
  have hM2 := hM.2.1
  have hMx := hM.2.2.1.1
  have hMv := hM.2.2.2 x hx
  refine CallA.of Try.func136 rfl (by kernel_rfl) ?_
  refine R.go 10 (R.idx eI xs 0 x (x : Int) (by kernel_rfl) rfl eI_len (by omega) (by kernel_rfl) ?_)
  refine R.go 1 (R.call true (mapMask_c ims (xs.getD x 0) (by first | assumption | exact morH_i (by assumption)) (by first | assumption | exact hM.2.2.1.2 x (by omega))) (by kernel_rfl) rfl (by kernel_rfl) ?_)
  refine R.go 4 (R.idx eI ims 0 x (x : Int) (by kernel_rfl) rfl eI_len (by omega) (by kernel_rfl) ?_)
  refine R.go 1 (R.idx eI ys 0 (((ims.getD x 0)).toNat) (ims.getD x 0) (by kernel_rfl) (by omega) eI_len (by omega) (by kernel_rfl) ?_)
  exact R.go 4 (R.retE (.bool (decide ((mapM ims (xs.getD x 0)) = (ys.getD (((ims.getD x 0)).toNat) 0)))) (by kernel_rfl) (by kernel_rfl) (by first | (rfl) | (exfalso; omega)))

theorem everyM_c (n : Int) (xs : List Int) (m : Int) (ys : List Int) (ims : List Int) (hM : MorH xs ys ims) (hn : n = (ims.length : Int)) : CallA Try.prog 115 [.agg [AI n, LI xs], .fn 136 [.rptr [LI ims], .rptr [AI n, LI xs], .rptr [AI m, LI ys]]] (.bool (morA n xs ys ims)) := by
  have hM1 := hM.1
  have hM2 := hM.2.1
  have hMx := hM.2.2.1.1
  refine CallA.of Try.func115 rfl (by kernel_rfl) ?_
  refine R.go 13 (R.loop (fun (x : Nat) => (⟨(frm 16 [(1, .fn 136 [.rptr [LI ims], .rptr [AI n, LI xs], .rptr [AI m, LI ys]]), (7, AI n), (8, AI (x : Int))]), []⟩ : St)) (fun (x : Nat) => (x ≤ n.toNat) ∧ (∀ i : Nat, i < x → MOR xs ys ims i)) (fun (x : Nat) => n.toNat - x) 0 [1, 7, 8] (some []) (by kernel_rfl) (by kernel_rfl) (by kernel_rfl) ⟨(by omega), (by exact fun i hi => absurd hi (by omega))⟩ ?_)
  rintro x ⟨h3_1, h3_2⟩ R1 N2
  refine R.go 5 (R.cond ((x : Int) < n) (by kernel_rfl) (fun c4 => ?_) (fun c4 => ?_))
  · refine R.go 12 (R.call true (isMor1_c x ims n xs m ys hM (by first | omega | (simp <;> omega))) (by kernel_rfl) rfl (by kernel_rfl) ?_)
    refine R.go 2 (R.condN (mapM ims (xs.getD x 0) = ys.getD (ims.getD x 0).toNat 0) (by kernel_rfl) (fun c5 => ?_) (fun c5 => ?_))
    · exact R.go 4 (R.retE (.bool false) (by kernel_rfl) (by kernel_rfl) (by first | (apply congrArg AV.bool; first | exact morA_no (i := x) (by omega) (by assumption) | exact (morA_iff.2 fun i hi => (‹∀ i : Nat, i < x → MOR xs ys ims i›) i (by omega)).symm) | (exfalso; omega)))
    · refine R.go 3 (R.ar ((x : Int) + 1) (by kernel_rfl) (by omega) (by omega) (by kernel_rfl) ?_)
      exact R.go 2 (R.stop R1 (by kernel_rfl) (N2 (x + 1) [1, 7, 8] none _ (by kernel_rfl) (by kernel_rfl) ⟨(by omega), (by exact below1 (P := MOR xs ys ims) (by assumption) (show mapM _ _ = _ by assumption))⟩ (by show (n.toNat - (x + 1)) < (n.toNat - x); omega)))
  · exact R.go 5 (R.retE (.bool true) (by kernel_rfl) (by kernel_rfl) (by first | (apply congrArg AV.bool; first | exact morA_no (i := x) (by omega) (by assumption) | exact (morA_iff.2 fun i hi => (‹∀ i : Nat, i < x → MOR xs ys ims i›) i (by omega)).symm) | (exfalso; omega)))

theorem isMorphism_c (n : Int) (xs : List Int) (m : Int) (ys : List Int) (ims : List Int) (hM : MorH xs ys ims) (hn : n = (ims.length : Int)) : CallA Try.prog 95 [.agg [AI n, LI xs], .agg [AI m, LI ys], LI ims] (.bool (morA n xs ys ims)) := by
  refine CallA.of Try.func95 rfl (by kernel_rfl) ?_
  refine R.go 11 (R.call false (everyM_c n xs m ys ims hM hn) (by kernel_rfl) rfl (by kernel_rfl) ?_)
  exact R.go 2 (R.retE (.bool (morA n xs ys ims)) (by kernel_rfl) (by kernel_rfl) (by rfl))

theorem isPosetMorphism_c (n : Int) (xs : List Int) (m : Int) (ys : List Int) (ims : List Int) (hP : okFr n xs = true) (hQ : okFr m ys = true) (li : ims.length ≤ 1000000000) : CallA Try.prog 66 [.agg [AI n, LI xs], .agg [AI m, LI ys], LI ims] (.bool (morB n xs m ys ims)) := by
  have hp1 := okFr_rel hP
  have hq1 := okFr_rel hQ
  have hb : 0 ≤ n ∧ n ≤ 8 ∧ (xs.length : Int) = n ∧ 0 ≤ m ∧ m ≤ 8 ∧ (ys.length : Int) = m := ⟨hp1.1, hp1.2.1, hp1.2.2.1, hq1.1, hq1.2.1, hq1.2.2.1⟩
  have hMO : mapB n m ims = true → MorH xs ys ims ∧ n = (ims.length : Int) := fun h => ⟨morH_of hP hQ h, (mapB_ok h).1.symm⟩
  refine CallA.of Try.func66 rfl (by kernel_rfl) ?_
  refine R.go 9 (R.call true (pFrame_c n xs (by first | omega | assumption | exact (hMO (by assumption)).1 | exact (hMO (by assumption)).2)) (by kernel_rfl) rfl (by kernel_rfl) ?_)
  refine R.go 1 (R.call true (pFrame_c m ys (by first | omega | assumption | exact (hMO (by assumption)).1 | exact (hMO (by assumption)).2)) (by kernel_rfl) rfl (by kernel_rfl) ?_)
  refine R.go 1 (R.call true (isMap_c n xs m ys ims (by first | omega | assumption | exact (hMO (by assumption)).1 | exact (hMO (by assumption)).2) (by first | omega | assumption | exact (hMO (by assumption)).1 | exact (hMO (by assumption)).2) li) (by kernel_rfl) rfl (by kernel_rfl) ?_)
  refine R.go 1 ?_
  refine (Bool.eq_false_or_eq_true (mapB n m ims)).elim (fun c1 => ?_) (fun c1 => ?_)
  · refine R.want (mapB n m ims) true (by kernel_rfl) c1 ?_
    refine R.go 1 (R.want (mapB n m ims) true (by kernel_rfl) c1 ?_)
    refine R.call true (pFrame_c n xs (by first | omega | assumption | exact (hMO (by assumption)).1 | exact (hMO (by assumption)).2)) (by kernel_rfl) rfl (by kernel_rfl) ?_
    refine R.want (mapB n m ims) true (by kernel_rfl) c1 ?_
    refine R.go 1 (R.want (mapB n m ims) true (by kernel_rfl) c1 ?_)
    refine R.call true (pFrame_c m ys (by first | omega | assumption | exact (hMO (by assumption)).1 | exact (hMO (by assumption)).2)) (by kernel_rfl) rfl (by kernel_rfl) ?_
    refine R.want (mapB n m ims) true (by kernel_rfl) c1 ?_
    refine R.go 1 (R.want (mapB n m ims) true (by kernel_rfl) c1 ?_)
    refine R.call true (isMorphism_c n xs m ys ims (hMO (by assumption)).1 (hMO (by assumption)).2) (by kernel_rfl) rfl (by kernel_rfl) ?_
    refine R.pick (mapB n m ims) true (by kernel_rfl) c1 (by kernel_rfl) ?_
    exact R.go 2 (R.retE (.bool (morA n xs ys ims)) (by kernel_rfl) (by kernel_rfl) (by first | (apply congrArg AV.bool; simp [morB, *]) | (exfalso; omega)))
  · refine R.skp (mapB n m ims) true (by kernel_rfl) c1 (by kernel_rfl) ?_
    refine R.skp (mapB n m ims) true (by kernel_rfl) c1 (by kernel_rfl) ?_
    refine R.skp (mapB n m ims) true (by kernel_rfl) c1 (by kernel_rfl) ?_
    refine R.skp (mapB n m ims) true (by kernel_rfl) c1 (by kernel_rfl) ?_
    refine R.skp (mapB n m ims) true (by kernel_rfl) c1 (by kernel_rfl) ?_
    refine R.skp (mapB n m ims) true (by kernel_rfl) c1 (by kernel_rfl) ?_
    refine R.pick (mapB n m ims) false (by kernel_rfl) c1 (by kernel_rfl) ?_
    exact R.go 2 (R.retE (.bool false) (by kernel_rfl) (by kernel_rfl) (by first | (apply congrArg AV.bool; simp [morB, *]) | (exfalso; omega)))

theorem l21Morphism_c (n : Int) (xs : List Int) (m : Int) (ys : List Int) (ims : List Int) (hP : okFr n xs = true) (hQ : okFr m ys = true) (li : ims.length ≤ 1000000000) : CallA Try.prog 64 [.agg [AI n, LI xs], .agg [AI m, LI ys], LI ims] (.bool (morB n xs m ys ims)) := by
  have hp1 := okFr_rel hP
  have hq1 := okFr_rel hQ
  have hb : 0 ≤ n ∧ n ≤ 8 ∧ (xs.length : Int) = n ∧ 0 ≤ m ∧ m ≤ 8 ∧ (ys.length : Int) = m := ⟨hp1.1, hp1.2.1, hp1.2.2.1, hq1.1, hq1.2.1, hq1.2.2.1⟩
  have hMO : mapB n m ims = true → MorH xs ys ims ∧ n = (ims.length : Int) := fun h => ⟨morH_of hP hQ h, (mapB_ok h).1.symm⟩
  refine CallA.of Try.func64 rfl (by kernel_rfl) ?_
  refine R.go 15 (R.condN ((ims.length : Int) = n) (by kernel_rfl) (fun c1 => ?_) (fun c1 => ?_))
  · exact R.go 4 (R.retE (.bool false) (by kernel_rfl) (by kernel_rfl) (by first | (apply congrArg AV.bool; first | (rw [morB, ← mapB_len (by assumption)]; rfl) | (rw [morB, mapB_no (i := x) (by omega) (by assumption)]; rfl) | (rw [morB, hmb, ← morA_no (i := x) (by omega) (by assumption)]; rfl) | (rw [morB, hmb, morA_iff.2 fun i hi => (‹∀ i : Nat, i < x → MOR xs ys ims i›) i (by omega)]; rfl)) | (exfalso; omega)))
  · refine R.go 7 (R.loop (fun (x : Nat) => (⟨(frm 51 [(2, LI ims), (3, .ptr 0 0), (4, .ptr 1 0), (7, AI (x : Int))]), [.box 26 [AI n, LI xs], .box 26 [AI m, LI ys]]⟩ : St)) (fun (x : Nat) => (x ≤ ims.length) ∧ (∀ i : Nat, i < x → inR (ims.getD i 0) 0 (m - 1) = true)) (fun (x : Nat) => ims.length - x) 0 [2, 3, 4, 7] none (by kernel_rfl) (by kernel_rfl) (by kernel_rfl) ⟨(by omega), (by exact fun i hi => absurd hi (by omega))⟩ ?_)
    rintro x ⟨h4_1, h4_2⟩ R2 N3
    refine R.go 8 (R.cond ((x : Int) < (ims.length : Int)) (by kernel_rfl) (fun c5 => ?_) (fun c5 => ?_))
    · refine R.go 7 (R.idx eI ims 0 x (x : Int) (by kernel_rfl) rfl eI_len (by omega) (by kernel_rfl) ?_)
      refine R.go 3 (R.ar (m - 1) (by kernel_rfl) (by omega) (by omega) (by kernel_rfl) ?_)
      refine R.call true (l01In_c (ims.getD x 0) 0 (m - 1)) (by kernel_rfl) rfl (by kernel_rfl) ?_
      refine R.go 2 (R.condM (inR (ims.getD x 0) 0 (m - 1)) (by kernel_rfl) (fun c6 => ?_) (fun c6 => ?_))
      · exact R.go 4 (R.retE (.bool false) (by kernel_rfl) (by kernel_rfl) (by first | (apply congrArg AV.bool; first | (rw [morB, ← mapB_len (by assumption)]; rfl) | (rw [morB, mapB_no (i := x) (by omega) (by assumption)]; rfl) | (rw [morB, hmb, ← morA_no (i := x) (by omega) (by assumption)]; rfl) | (rw [morB, hmb, morA_iff.2 fun i hi => (‹∀ i : Nat, i < x → MOR xs ys ims i›) i (by omega)]; rfl)) | (exfalso; omega)))
      · refine R.go 4 (R.ar ((x : Int) + 1) (by kernel_rfl) (by omega) (by omega) (by kernel_rfl) ?_)
        exact R.go 2 (R.stop R2 (by kernel_rfl) (N3 (x + 1) [2, 3, 4, 7] none _ (by kernel_rfl) (by kernel_rfl) ⟨(by omega), (by exact below1 (by assumption) (by assumption))⟩ (by show (ims.length - (x + 1)) < (ims.length - x); omega)))
    · have hRi : ∀ i : Nat, i < ims.length → inR (ims.getD i 0) 0 (m - 1) = true := fun i hi => (‹∀ i : Nat, i < x → inR (ims.getD i 0) 0 (m - 1) = true›) i (by omega)
      have hmb : mapB n m ims = true := mapB_mk (by assumption) hRi
      have hM : MorH xs ys ims := (hMO hmb).1
      have hM1 := hM.1
      have hM2 := hM.2.1
      have hMx := hM.2.2.1.1
      refine R.go 7 (R.loop (fun (x : Nat) => (⟨(frm 51 [(2, LI ims), (3, .ptr 0 0), (4, .ptr 1 0), (8, AI (x : Int))]), [.box 26 [AI n, LI xs], .box 26 [AI m, LI ys]]⟩ : St)) (fun (x : Nat) => (x ≤ n.toNat) ∧ (∀ i : Nat, i < x → MOR xs ys ims i)) (fun (x : Nat) => n.toNat - x) 0 [2, 3, 4, 8] none (by kernel_rfl) (by kernel_rfl) (by kernel_rfl) ⟨(by omega), (by exact fun i hi => absurd hi (by omega))⟩ ?_)
      rintro x ⟨h9_1, h9_2⟩ R7 N8
      have hMv := fun h : x < ims.length => hM.2.2.2 x h
      refine R.go 8 (R.cond ((x : Int) < n) (by kernel_rfl) (fun c10 => ?_) (fun c10 => ?_))
      · have hMw := hMv (by omega)
        refine R.go 8 (R.idx eI xs 0 x (x : Int) (by kernel_rfl) rfl eI_len (by omega) (by kernel_rfl) ?_)
        refine R.go 2 (R.call true (l21Images_c (xs.getD x 0) ims (by first | assumption | exact morH_i (by assumption)) (by first | assumption | exact hM.2.2.1.2 x (by omega))) (by kernel_rfl) rfl (by kernel_rfl) ?_)
        refine R.go 4 (R.idx eI ims 0 x (x : Int) (by kernel_rfl) rfl eI_len (by omega) (by kernel_rfl) ?_)
        refine R.go 1 (R.idx eI ys 0 (((ims.getD x 0)).toNat) (ims.getD x 0) (by kernel_rfl) (by omega) eI_len (by omega) (by kernel_rfl) ?_)
        refine R.go 3 (R.condN ((mapM ims (xs.getD x 0)) = (ys.getD (((ims.getD x 0)).toNat) 0)) (by kernel_rfl) (fun c11 => ?_) (fun c11 => ?_))
        · exact R.go 4 (R.retE (.bool false) (by kernel_rfl) (by kernel_rfl) (by first | (apply congrArg AV.bool; first | (rw [morB, ← mapB_len (by assumption)]; rfl) | (rw [morB, mapB_no (i := x) (by omega) (by assumption)]; rfl) | (rw [morB, hmb, ← morA_no (i := x) (by omega) (by assumption)]; rfl) | (rw [morB, hmb, morA_iff.2 fun i hi => (‹∀ i : Nat, i < x → MOR xs ys ims i›) i (by omega)]; rfl)) | (exfalso; omega)))
        · refine R.go 4 (R.ar ((x : Int) + 1) (by kernel_rfl) (by omega) (by omega) (by kernel_rfl) ?_)
          exact R.go 2 (R.stop R7 (by kernel_rfl) (N8 (x + 1) [2, 3, 4, 8] none _ (by kernel_rfl) (by kernel_rfl) ⟨(by omega), (by exact below1 (P := MOR xs ys ims) (by assumption) (show mapM _ _ = _ by assumption))⟩ (by show (n.toNat - (x + 1)) < (n.toNat - x); omega)))
      · exact R.go 5 (R.retE (.bool true) (by kernel_rfl) (by kernel_rfl) (by first | (apply congrArg AV.bool; first | (rw [morB, ← mapB_len (by assumption)]; rfl) | (rw [morB, mapB_no (i := x) (by omega) (by assumption)]; rfl) | (rw [morB, hmb, ← morA_no (i := x) (by omega) (by assumption)]; rfl) | (rw [morB, hmb, morA_iff.2 fun i hi => (‹∀ i : Nat, i < x → MOR xs ys ims i›) i (by omega)]; rfl)) | (exfalso; omega)))

def pmV (n : Int) (xs : List Int) (m : Int) (ys ims : List Int) : Bool := decide (twoC n xs m ys = 0) && morB n xs m ys ims
theorem pm_no {n m : Int} {xs ys ims : List Int} (h : ¬ twoC n xs m ys = 0) : AV.tup [.bool false, AI (twoC n xs m ys)] = AV.tup [.bool (pmV n xs m ys ims), AI (twoC n xs m ys)] := by rw [pmV, decide_eq_false h]; rfl
theorem pm_yes {n m : Int} {xs ys ims : List Int} (h : twoC n xs m ys = 0) : AV.tup [.bool (morB n xs m ys ims), AI 0] = AV.tup [.bool (pmV n xs m ys ims), AI (twoC n xs m ys)] := by rw [pmV, decide_eq_true h, h]; rfl

theorem PM_spec (n : Int) (xs : List Int) (m : Int) (ys : List Int) (ims : List Int) (lx : xs.length ≤ 1000000000) (ly : ys.length ≤ 1000000000) (li : ims.length ≤ 1048576) : CallA Try.prog 30 [.agg [AI n, LI xs], .agg [AI m, LI ys], LI ims] (.tup [.bool (pmV n xs m ys ims), AI (twoC n xs m ys)]) := by
  refine CallA.of Try.func30 rfl (by kernel_rfl) ?_
  refine R.go 11 (R.call true (l21Two_c n xs m ys lx ly) (by kernel_rfl) rfl (by kernel_rfl) ?_)
  refine R.go 8 (R.condN ((twoC n xs m ys) = 0) (by kernel_rfl) (fun c1 => ?_) (fun c1 => ?_))
  · exact R.go 6 (R.retE (.tup [.bool false, AI (twoC n xs m ys)]) (by kernel_rfl) (by kernel_rfl) (by first | (first | exact pm_no (by assumption) | exact pm_yes (by assumption)) | (exfalso; omega)))
  · have hc0 : twoC n xs m ys = 0 := by assumption
    have hP : okPo n xs = true := (two_ok hc0).1
    have hQ : okPo m ys = true := (two_ok hc0).2
    refine R.go 6 (R.call true (l21Morphism_c n xs m ys ims (by first | assumption | exact okPo_fr (by assumption)) (by first | assumption | exact okPo_fr (by assumption)) (by first | omega | (simp <;> omega))) (by kernel_rfl) rfl (by kernel_rfl) ?_)
    exact R.go 3 (R.retE (.tup [.bool (morB n xs m ys ims), AI 0]) (by kernel_rfl) (by kernel_rfl) (by first | (first | exact pm_no (by assumption) | exact pm_yes (by assumption)) | (exfalso; omega)))

theorem PM_impl (n : Int) (xs : List Int) (m : Int) (ys : List Int) (ims : List Int) (lx : xs.length ≤ 1000000000) (ly : ys.length ≤ 1000000000) (li : ims.length ≤ 1048576) : CallA Try.prog 31 [.agg [AI n, LI xs], .agg [AI m, LI ys], LI ims] (.tup [.bool (pmV n xs m ys ims), AI (twoC n xs m ys)]) := by
  refine CallA.of Try.func31 rfl (by kernel_rfl) ?_
  refine R.go 12 (R.lit (s := 2) (n := 2) (cs := rows eP [(n, xs), (m, ys)]) (by kernel_rfl) (by kernel_rfl) ?_)
  refine R.call true (arePosets2_c n xs m ys lx ly) (by kernel_rfl) rfl (by kernel_rfl) ?_
  refine R.go 7 (R.condN ((twoC n xs m ys) = 0) (by kernel_rfl) (fun c1 => ?_) (fun c1 => ?_))
  · exact R.go 6 (R.retE (.tup [.bool false, AI (twoC n xs m ys)]) (by kernel_rfl) (by kernel_rfl) (by first | (first | exact pm_no (by assumption) | exact pm_yes (by assumption)) | (exfalso; omega)))
  · have hc0 : twoC n xs m ys = 0 := by assumption
    have hP : okPo n xs = true := (two_ok hc0).1
    have hQ : okPo m ys = true := (two_ok hc0).2
    refine R.go 6 (R.call true (isPosetMorphism_c n xs m ys ims (by first | assumption | exact okPo_fr (by assumption)) (by first | assumption | exact okPo_fr (by assumption)) (by first | omega | (simp <;> omega))) (by kernel_rfl) rfl (by kernel_rfl) ?_)
    exact R.go 3 (R.retE (.tup [.bool (morB n xs m ys ims), AI 0]) (by kernel_rfl) (by kernel_rfl) (by first | (first | exact pm_no (by assumption) | exact pm_yes (by assumption)) | (exfalso; omega)))

theorem lawIsPosetMorphism_in (n : Int) (xs : List Int) (m : Int) (ys : List Int) (ims : List Int) (hl : xs.length + ys.length ≤ 1048576) (h0ims : ims.length ≤ 1048576) : CallA Try.prog 7 [.agg [AI n, LI xs], .agg [AI m, LI ys], LI ims] (.bool true) := by
  refine CallA.of Try.func7 rfl (by kernel_rfl) ?_
  refine R.go 13 (R.cond ((ims.length : Int) > 1048576) (by kernel_rfl) (fun c1 => ?_) (fun c1 => ?_))
  · exact R.go 4 (R.retE (.bool true) (by kernel_rfl) (by kernel_rfl) (by rfl))
  · refine R.go 9 (R.call true (szPoset_c n xs 1048576 (by omega) (by first | omega | (simp <;> omega))) (by kernel_rfl) rfl (by kernel_rfl) ?_)
    refine R.go 8 (R.cond (((1048576 : Int) - xs.length) < 0) (by kernel_rfl) (fun c2 => ?_) (fun c2 => ?_))
    · exact R.go 4 (R.retE (.bool true) (by kernel_rfl) (by kernel_rfl) (by rfl))
    · refine R.go 5 (R.call true (szPoset_c m ys ((1048576 : Int) - xs.length) (by first | omega | (simp <;> omega)) (by first | omega | (simp <;> omega))) (by kernel_rfl) rfl (by kernel_rfl) ?_)
      refine R.go 8 (R.cond (((((1048576 : Int) - xs.length) : Int) - ys.length) < 0) (by kernel_rfl) (fun c3 => ?_) (fun c3 => ?_))
      · exact R.go 4 (R.retE (.bool true) (by kernel_rfl) (by kernel_rfl) (by rfl))
      · refine R.go 4 (R.call true (toPoset_c n xs (by first | omega | (simp <;> omega))).frz (by kernel_rfl) rfl (by kernel_rfl) ?_)
        refine R.go 1 (R.call true (toPoset_c m ys (by first | omega | (simp <;> omega))).frz (by kernel_rfl) rfl (by kernel_rfl) ?_)
        refine R.go 1 (R.call true (toInt64S_c ims h0ims).frz (by kernel_rfl) rfl (by kernel_rfl) ?_)
        refine R.call true (PM_spec n xs m ys ims (by first | omega | (simp <;> omega)) (by first | omega | (simp <;> omega)) h0ims) (by kernel_rfl) rfl (by kernel_rfl) ?_
        refine R.go 9 (R.call true (toPoset_c n xs (by first | omega | (simp <;> omega))).frz (by kernel_rfl) rfl (by kernel_rfl) ?_)
        refine R.go 6 (R.call true (toPoset_c m ys (by first | omega | (simp <;> omega))).frz (by kernel_rfl) rfl (by kernel_rfl) ?_)
        refine R.go 6 (R.call true (toInt64S_c ims h0ims).frz (by kernel_rfl) rfl (by kernel_rfl) ?_)
        refine R.go 7 (R.call true (PM_impl n xs m ys ims (by first | omega | (simp <;> omega)) (by first | omega | (simp <;> omega)) h0ims) (by kernel_rfl) rfl (by kernel_rfl) ?_)
        refine R.go 13 (R.want (!((pmV n xs m ys ims) == (pmV n xs m ys ims))) false (by kernel_rfl) (bnF (beq_self_eq_true _)) ?_)
        refine R.go 1 (R.want (!((pmV n xs m ys ims) == (pmV n xs m ys ims))) false (by kernel_rfl) (bnF (beq_self_eq_true _)) ?_)
        refine R.go 1 (R.want (!((pmV n xs m ys ims) == (pmV n xs m ys ims))) false (by kernel_rfl) (bnF (beq_self_eq_true _)) ?_)
        refine R.go 1 (R.pick (!((pmV n xs m ys ims) == (pmV n xs m ys ims))) false (by kernel_rfl) (bnF (beq_self_eq_true _)) (by kernel_rfl) ?_)
        refine R.go 1 (R.els (!decide ((twoC n xs m ys) = (twoC n xs m ys))) (by kernel_rfl) (nF rfl) ?_)
        refine R.go 6 (R.call true (toPoset_c n xs (by first | omega | (simp <;> omega))).frz (by kernel_rfl) rfl (by kernel_rfl) ?_)
        refine R.call true (eqPoset_c n xs (by first | omega | (simp <;> omega))) (by kernel_rfl) rfl (by kernel_rfl) ?_
        refine R.go 9 (R.call true (toPoset_c m ys (by first | omega | (simp <;> omega))).frz (by kernel_rfl) rfl (by kernel_rfl) ?_)
        refine R.call true (eqPoset_c m ys (by first | omega | (simp <;> omega))) (by kernel_rfl) rfl (by kernel_rfl) ?_
        refine R.go 9 (R.call true (toInt64S_c ims h0ims).frz (by kernel_rfl) rfl (by kernel_rfl) ?_)
        refine R.call true (eqInt64S_c ims ims (by first | omega | (simp <;> omega))) (by kernel_rfl) rfl (by kernel_rfl) ?_
        refine R.go 2 (R.els (!decide (ims = ims)) (by kernel_rfl) (nF rfl) ?_)
        exact R.go 5 (R.retE (.bool true) (by kernel_rfl) (by kernel_rfl) (by rfl))

theorem lawIsPosetMorphism_0ims (n : Int) (xs : List Int) (m : Int) (ys : List Int) (ims : List Int) (hx : 1048576 < ims.length) : CallA Try.prog 7 [.agg [AI n, LI xs], .agg [AI m, LI ys], LI ims] (.bool true) := by
  refine CallA.of Try.func7 rfl (by kernel_rfl) ?_
  refine R.go 13 (R.cond ((ims.length : Int) > 1048576) (by kernel_rfl) (fun c1 => ?_) (fun c1 => ?_))
  · exact R.go 4 (R.retE (.bool true) (by kernel_rfl) (by kernel_rfl) (by rfl))
  · refine R.go 9 (R.call true (szPoset_c n xs 1048576 (by omega) (by first | omega | (simp <;> omega))) (by kernel_rfl) rfl (by kernel_rfl) ?_)
    refine R.go 8 (R.cond (((1048576 : Int) - xs.length) < 0) (by kernel_rfl) (fun c2 => ?_) (fun c2 => ?_))
    · exact R.go 4 (R.retE (.bool true) (by kernel_rfl) (by kernel_rfl) (by rfl))
    · refine R.go 5 (R.call true (szPoset_c m ys ((1048576 : Int) - xs.length) (by first | omega | (simp <;> omega)) (by first | omega | (simp <;> omega))) (by kernel_rfl) rfl (by kernel_rfl) ?_)
      refine R.go 8 (R.cond (((((1048576 : Int) - xs.length) : Int) - ys.length) < 0) (by kernel_rfl) (fun c3 => ?_) (fun c3 => ?_))
      · exact R.go 4 (R.retE (.bool true) (by kernel_rfl) (by kernel_rfl) (by rfl))
      · refine R.go 4 (R.call true (toPoset_c n xs (by first | omega | (simp <;> omega))).frz (by kernel_rfl) rfl (by kernel_rfl) ?_)
        refine R.go 1 (R.call true (toPoset_c m ys (by first | omega | (simp <;> omega))).frz (by kernel_rfl) rfl (by kernel_rfl) ?_)
        refine R.go 1 (R.call true (toInt64S_c ims (by first | omega | (simp <;> omega))).frz (by kernel_rfl) rfl (by kernel_rfl) ?_)
        refine R.call true (PM_spec n xs m ys ims (by first | omega | (simp <;> omega)) (by first | omega | (simp <;> omega)) (by first | omega | (simp <;> omega))) (by kernel_rfl) rfl (by kernel_rfl) ?_
        refine R.go 9 (R.call true (toPoset_c n xs (by first | omega | (simp <;> omega))).frz (by kernel_rfl) rfl (by kernel_rfl) ?_)
        refine R.go 6 (R.call true (toPoset_c m ys (by first | omega | (simp <;> omega))).frz (by kernel_rfl) rfl (by kernel_rfl) ?_)
        refine R.go 6 (R.call true (toInt64S_c ims (by first | omega | (simp <;> omega))).frz (by kernel_rfl) rfl (by kernel_rfl) ?_)
        refine R.go 7 (R.call true (PM_impl n xs m ys ims (by first | omega | (simp <;> omega)) (by first | omega | (simp <;> omega)) (by first | omega | (simp <;> omega))) (by kernel_rfl) rfl (by kernel_rfl) ?_)
        refine R.go 13 (R.want (!((pmV n xs m ys ims) == (pmV n xs m ys ims))) false (by kernel_rfl) (bnF (beq_self_eq_true _)) ?_)
        refine R.go 1 (R.want (!((pmV n xs m ys ims) == (pmV n xs m ys ims))) false (by kernel_rfl) (bnF (beq_self_eq_true _)) ?_)
        refine R.go 1 (R.want (!((pmV n xs m ys ims) == (pmV n xs m ys ims))) false (by kernel_rfl) (bnF (beq_self_eq_true _)) ?_)
        refine R.go 1 (R.pick (!((pmV n xs m ys ims) == (pmV n xs m ys ims))) false (by kernel_rfl) (bnF (beq_self_eq_true _)) (by kernel_rfl) ?_)
        refine R.go 1 (R.els (!decide ((twoC n xs m ys) = (twoC n xs m ys))) (by kernel_rfl) (nF rfl) ?_)
        refine R.go 6 (R.call true (toPoset_c n xs (by first | omega | (simp <;> omega))).frz (by kernel_rfl) rfl (by kernel_rfl) ?_)
        refine R.call true (eqPoset_c n xs (by first | omega | (simp <;> omega))) (by kernel_rfl) rfl (by kernel_rfl) ?_
        refine R.go 9 (R.call true (toPoset_c m ys (by first | omega | (simp <;> omega))).frz (by kernel_rfl) rfl (by kernel_rfl) ?_)
        refine R.call true (eqPoset_c m ys (by first | omega | (simp <;> omega))) (by kernel_rfl) rfl (by kernel_rfl) ?_
        refine R.go 9 (R.call true (toInt64S_c ims (by first | omega | (simp <;> omega))).frz (by kernel_rfl) rfl (by kernel_rfl) ?_)
        refine R.call true (eqInt64S_c ims ims (by first | omega | (simp <;> omega))) (by kernel_rfl) rfl (by kernel_rfl) ?_
        refine R.go 2 (R.els (!decide (ims = ims)) (by kernel_rfl) (nF rfl) ?_)
        exact R.go 5 (R.retE (.bool true) (by kernel_rfl) (by kernel_rfl) (by rfl))

theorem lawIsPosetMorphism_1 (n : Int) (xs : List Int) (m : Int) (ys : List Int) (ims : List Int) (hx : 1048576 < xs.length) (hb : xs.length ≤ 9223372036854775807) : CallA Try.prog 7 [.agg [AI n, LI xs], .agg [AI m, LI ys], LI ims] (.bool true) := by
  refine CallA.of Try.func7 rfl (by kernel_rfl) ?_
  refine R.go 13 (R.cond ((ims.length : Int) > 1048576) (by kernel_rfl) (fun c1 => ?_) (fun c1 => ?_))
  · exact R.go 4 (R.retE (.bool true) (by kernel_rfl) (by kernel_rfl) (by rfl))
  · refine R.go 9 (R.call true (szPoset_no n xs 1048576 (by omega) (by first | omega | (simp <;> omega)) hb) (by kernel_rfl) rfl (by kernel_rfl) ?_)
    exact R.go 13 (R.retE (.bool true) (by kernel_rfl) (by kernel_rfl) (by rfl))

theorem lawIsPosetMorphism_2 (n : Int) (xs : List Int) (m : Int) (ys : List Int) (ims : List Int) (hy : xs.length ≤ 1048576) (hx : 1048576 < xs.length + ys.length) (hb : ys.length ≤ 9223372036854775807) : CallA Try.prog 7 [.agg [AI n, LI xs], .agg [AI m, LI ys], LI ims] (.bool true) := by
  refine CallA.of Try.func7 rfl (by kernel_rfl) ?_
  refine R.go 13 (R.cond ((ims.length : Int) > 1048576) (by kernel_rfl) (fun c1 => ?_) (fun c1 => ?_))
  · exact R.go 4 (R.retE (.bool true) (by kernel_rfl) (by kernel_rfl) (by rfl))
  · refine R.go 9 (R.call true (szPoset_c n xs 1048576 (by omega) (by first | omega | (simp <;> omega))) (by kernel_rfl) rfl (by kernel_rfl) ?_)
    refine R.go 8 (R.cond (((1048576 : Int) - xs.length) < 0) (by kernel_rfl) (fun c2 => ?_) (fun c2 => ?_))
    · exact R.go 4 (R.retE (.bool true) (by kernel_rfl) (by kernel_rfl) (by rfl))
    · refine R.go 5 (R.call true (szPoset_no m ys ((1048576 : Int) - xs.length) (by first | omega | (simp <;> omega)) (by first | omega | (simp <;> omega)) hb) (by kernel_rfl) rfl (by kernel_rfl) ?_)
      exact R.go 13 (R.retE (.bool true) (by kernel_rfl) (by kernel_rfl) (by rfl))

theorem lawIsPosetMorphism (n : Int) (xs : List Int) (m0 : xs.length ≤ maxLen) (m : Int) (ys : List Int) (m1 : ys.length ≤ maxLen) (ims : List Int) (m0ims : ims.length ≤ maxLen) : CallA Try.prog 7 [.agg [AI n, LI xs], .agg [AI m, LI ys], LI ims] (.bool true) := by
  have hm : maxLen ≤ 9223372036854775807 := by decide
  rcases Nat.lt_or_ge 1048576 ims.length with h0ims | h0ims
  · exact lawIsPosetMorphism_0ims n xs m ys ims h0ims
  rcases Nat.lt_or_ge 1048576 (xs.length) with h0 | h0
  · exact lawIsPosetMorphism_1 n xs m ys ims h0 (by omega)
  rcases Nat.lt_or_ge 1048576 (xs.length + ys.length) with h1 | h1
  · exact lawIsPosetMorphism_2 n xs m ys ims h0 h1 (by omega)
  exact lawIsPosetMorphism_in n xs m ys ims h1 h0ims

end Go.Proofs.Ytkanjgmocmhlkaa
