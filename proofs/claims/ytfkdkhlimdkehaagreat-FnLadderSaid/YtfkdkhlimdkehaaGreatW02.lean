/- Posets: roots and upsets of both packages. -/
import Derived.Test.YtfkdkhlimdkehaaGreatW01
namespace Go.Proofs.YtfkdkhlimdkehaaGreat
open Go.RowKit Go.Abs

theorem shl8N : ∀ n : Fin 9, 1 ≤ shl64 1 (n.val : Int) ∧ shl64 1 (n.val : Int) ≤ 256 := by decide +kernel
theorem shl_8 {n : Int} (h0 : 0 ≤ n) (h8 : n ≤ 8) : 1 ≤ shl64 1 n ∧ shl64 1 n ≤ 256 := by
  obtain ⟨k, rfl⟩ := Int.eq_ofNat_of_zero_le h0
  exact shl8N ⟨k, by omega⟩
def fixP (n m : Int) : Bool := decide (m = (shl64 1 n) - 1)
def rootX (n : Int) (xs : List Int) : Int := fidxI (fixP n) xs 0
def rootV (n : Int) (xs : List Int) : Int := if okPo n xs = true then (if rootX n xs < 0 then 0 else rootX n xs) else 0
def rootC (n : Int) (xs : List Int) : Int := if okPo n xs = true then (if rootX n xs < 0 then 4 else 0) else 1
def poC (n : Int) (xs : List Int) : Int := if okPo n xs = true then 0 else 1
theorem root_bad {n : Int} {xs : List Int} (h : okPo n xs = false) : AV.tup [AI 0, AI 1] = AV.tup [AI (rootV n xs), AI (rootC n xs)] := by simp [rootV, rootC, h]
theorem root_no {n : Int} {xs : List Int} (h : okPo n xs = true) (h2 : rootX n xs < 0) : AV.tup [AI 0, AI 4] = AV.tup [AI (rootV n xs), AI (rootC n xs)] := by rw [rootV, rootC, if_pos h, if_pos h, if_pos h2, if_pos h2]
theorem root_ok {n : Int} {xs : List Int} (h : okPo n xs = true) (h2 : ¬ rootX n xs < 0) : AV.tup [AI (rootX n xs), AI 0] = AV.tup [AI (rootV n xs), AI (rootC n xs)] := by rw [rootV, rootC, if_pos h, if_pos h, if_neg h2, if_neg h2]
theorem fix_eq {n m : Int} (h : m = (shl64 1 n) - 1) : fixP n m = true := decide_eq_true h
theorem fix_ne {n m : Int} (h : ¬ m = (shl64 1 n) - 1) : fixP n m = false := decide_eq_false h
/-- The upsets below k. -/
def upTo (xs : List Int) : Nat → List Int
  | 0 => []
  | k + 1 => if img xs (k : Int) xs.length = (k : Int) then upTo xs k ++ [(k : Int)] else upTo xs k
theorem upTo_len (xs : List Int) : ∀ k : Nat, (upTo xs k).length ≤ k
  | 0 => Nat.le_refl _
  | k + 1 => by
    have := upTo_len xs k
    rw [upTo]
    split
    · simp; omega
    · omega
theorem upTo_yes {xs : List Int} {k : Nat} (h : img xs (k : Int) xs.length = (k : Int)) : upTo xs k ++ [(k : Int)] = upTo xs (k + 1) := by rw [upTo, if_pos h]
theorem upTo_no {xs : List Int} {k : Nat} (h : ¬ img xs (k : Int) xs.length = (k : Int)) : upTo xs k = upTo xs (k + 1) := by rw [upTo, if_neg h]
def upL (n : Int) (xs : List Int) : List Int := upTo xs (shl64 1 n).toNat
def upR (n : Int) (xs : List Int) : List Int := if okPo n xs = true then upL n xs else []
theorem up_bad {s : Nat} {n : Int} {xs : List Int} (h : okPo n xs = false) : AV.tup [ownA eI s 1 [], AI 1] = AV.tup [ownA eI s 1 (upR n xs), AI (poC n xs)] := by simp [upR, poC, h]
theorem up_ok {s : Nat} {n : Int} {xs : List Int} (h : okPo n xs = true) : AV.tup [ownA eI s 1 (upL n xs), AI 0] = AV.tup [ownA eI s 1 (upR n xs), AI (poC n xs)] := by rw [upR, poC, if_pos h, if_pos h]
theorem upR_len (n : Int) (xs : List Int) : (upR n xs).length ≤ 256 := by
  unfold upR
  split
  · rename_i h
    have hF := okFr_rel (okPo_fr h)
    have := upTo_len xs (shl64 1 n).toNat
    have := shl_8 hF.1 hF.2.1
    unfold upL
    omega
  · simp
/-! The image, by the members of the mask. -/
def imgL (xs : List Int) (L : List Int) : Int := L.foldl (fun o j => bor o (xs.getD j.toNat 0)) 0
theorem imgL_snoc {xs L : List Int} {t : Nat} (h : t < L.length) : bor (imgL xs (L.take t)) (xs.getD (L.getD t 0).toNat 0) = imgL xs (L.take (t + 1)) := by
  rw [List.take_succ_eq_append_getElem h, imgL, imgL, List.foldl_append, List.getD_eq_getElem?_getD (l := L), List.getElem?_eq_getElem h]
  rfl
theorem imgF_ok {N : Nat} {xs : List Int} (hR : RelOK N xs) (hN : N ≤ 8) : ∀ (L : List Int) (o : Int), InM N o → (∀ j ∈ L, 0 ≤ j ∧ j < (N : Int)) → InM N (L.foldl (fun o j => bor o (xs.getD j.toNat 0)) o) ∧ ∀ k, tb (L.foldl (fun o j => bor o (xs.getD j.toNat 0)) o) k = true ↔ tb o k = true ∨ ∃ j ∈ L, tb (xs.getD j.toNat 0) k = true
  | [], o, h, _ => ⟨h, fun k => by simp⟩
  | v :: L, o, h, hL => by
    have hv := hL v (List.mem_cons_self ..)
    have hx := hR.2 v.toNat (by omega)
    have hb := inM_bor (n := N) (by omega) h hx
    obtain ⟨i1, i2⟩ := imgF_ok hR hN L _ hb fun j hj => hL j (List.mem_cons_of_mem _ hj)
    refine ⟨i1, fun k => ?_⟩
    rw [List.foldl_cons, i2, tb_bor (n := N) (by omega) h hx, Bool.or_eq_true]
    simp [or_assoc]
theorem img_eq {N : Nat} {xs : List Int} {m : Int} (hR : RelOK N xs) (hN : N ≤ 8) (hm : InM N m) : imgL xs (mem m) = img xs m xs.length := by
  have hl := hR.1
  obtain ⟨a1, a2⟩ := imgF_ok hR hN (mem m) 0 (inM_zero _) (mem_lt (by omega) hm)
  obtain ⟨b1, b2⟩ := img_ok (n := N) (by omega) hR hm xs.length (by omega)
  refine tb_ext a1.1 b1.1 fun k => ?_
  rw [Bool.eq_iff_iff, imgL, a2, b2]
  constructor
  · rintro (a | ⟨j, hj, h⟩)
    · rw [tb_zero] at a; cases a
    · have h1 := mem_lt (by omega) hm j hj
      refine ⟨j.toNat, by omega, (mem_iff (by omega) hm).1 (by rw [show ((j.toNat : Nat) : Int) = j by omega]; exact hj), h⟩
  · rintro ⟨j, _, h1, h2⟩
    exact .inr ⟨(j : Int), (mem_iff (by omega) hm).2 h1, by simpa using h2⟩
theorem nat_inM {n : Int} {k : Nat} (h0 : 0 ≤ n) (h8 : n ≤ 8) (hk : (k : Int) < shl64 1 n) : InM n.toNat (k : Int) := by
  have := shl_nat (i := n.toNat) (by omega)
  rw [show ((n.toNat : Nat) : Int) = n by omega] at this
  exact ⟨by omega, by omega⟩
theorem outR_no {n m : Int} (h0 : 0 ≤ n) (h8 : n ≤ 8) (h : 0 ≤ m ∧ m < shl64 1 n) : outR n m = false := by
  rw [outR, (inR_iff n 0 30).2 (by omega), (inR_iff m 0 _).2 (by omega)]; rfl

theorem pAll_c (n : Int) (xs : List Int) (h0 : 0 ≤ n) (h1 : n ≤ 62) : CallA Tryz.prog 79 [.agg [AI n, LI xs]] (AI ((shl64 1 n) - 1)) := by
  have hb : 1 ≤ shl64 1 n ∧ shl64 1 n ≤ 4611686018427387904 := shl_rng n h0 h1
  refine CallA.of Tryz.func79 rfl (by kernel_rfl) ?_
  refine R.go 9 (R.shl 1 n (by kernel_rfl) (by omega) (by kernel_rfl) ?_)
  refine R.ar ((shl64 1 n) - 1) (by kernel_rfl) (by omega) (by omega) (by kernel_rfl) ?_
  exact R.go 2 (R.retE (AI ((shl64 1 n) - 1)) (by kernel_rfl) (by kernel_rfl) (by rfl))

theorem l16Root_c (n : Int) (xs : List Int) (hP : okPo n xs = true) : CallA Tryz.prog 64 [.agg [AI n, LI xs]] (AI (rootX n xs)) := by
  have hR := okPo_fr hP
  have hF := okFr_rel hR
  have hRel : RelOK n.toNat xs := hF.2.2.2
  have hb0 : 0 ≤ n ∧ n ≤ 8 ∧ (xs.length : Int) = n := ⟨hF.1, hF.2.1, hF.2.2.1⟩
  have hN8 : n.toNat ≤ 8 := by omega
  have hs8 := shl_8 hF.1 hF.2.1
  refine CallA.of Tryz.func64 rfl (by kernel_rfl) ?_
  refine R.go 11 (R.loop (fun (i : Nat) => (⟨(frm 20 [(1, .ptr 0 0), (3, AI (i : Int))]), [.box 29 [AI n, LI xs]]⟩ : St)) (fun (i : Nat) => (i ≤ xs.length) ∧ (rootX n xs = fidxI (fixP n) (xs.drop i) i)) (fun (i : Nat) => xs.length - i) 0 [1, 3] none (by kernel_rfl) (by kernel_rfl) (by kernel_rfl) ⟨(by omega), (by rfl)⟩ ?_)
  rintro i ⟨h3_1, h3_2⟩ R1 N2
  refine R.go 8 (R.cond ((i : Int) < n) (by kernel_rfl) (fun c4 => ?_) (fun c4 => ?_))
  · refine R.go 8 (R.idx eI xs 0 i (i : Int) (by kernel_rfl) rfl eI_len (by omega) (by kernel_rfl) ?_)
    refine R.go 3 (R.call true (l01Full_c n (by omega) (by omega)) (by kernel_rfl) rfl (by kernel_rfl) ?_)
    refine R.go 2 (R.cond ((xs.getD i 0) = ((shl64 1 n) - 1)) (by kernel_rfl) (fun c5 => ?_) (fun c5 => ?_))
    · exact R.go 5 (R.retE (AI (i : Int)) (by kernel_rfl) (by kernel_rfl) (by first | (apply congrArg AI; rw [‹rootX n xs = _›]; first | exact (fidxI_end (by omega)).symm | exact (fidxI_hit (by omega) (fix_eq (by assumption))).symm) | (exfalso; omega)))
    · refine R.go 4 (R.ar ((i : Int) + 1) (by kernel_rfl) (by omega) (by omega) (by kernel_rfl) ?_)
      exact R.go 2 (R.stop R1 (by kernel_rfl) (N2 (i + 1) [1, 3] none _ (by kernel_rfl) (by kernel_rfl) ⟨(by omega), (by rw [‹rootX n xs = _›]; exact fidxI_miss (by omega) (fix_ne (by assumption)))⟩ (by show (xs.length - (i + 1)) < (xs.length - i); omega)))
  · exact R.go 5 (R.retE (AI (-1)) (by kernel_rfl) (by kernel_rfl) (by first | (apply congrArg AI; rw [‹rootX n xs = _›]; first | exact (fidxI_end (by omega)).symm | exact (fidxI_hit (by omega) (fix_eq (by assumption))).symm) | (exfalso; omega)))

theorem indexV_c (n : Int) (a : List Int) (hl : a.length ≤ 1000000000) : CallA Tryz.prog 106 [LI a, AI ((shl64 1 n) - 1)] (AI (fidxI (fixP n) a 0)) := by
  refine CallA.of Tryz.func106 rfl (by kernel_rfl) ?_
  refine R.go 12 (R.loop (fun (i : Nat) => (⟨(frm 19 [(0, LI a), (1, AI ((shl64 1 n) - 1)), (7, AI a.length), (8, AI (i : Int))]), []⟩ : St)) (fun (i : Nat) => (i ≤ a.length) ∧ (fidxI (fixP n) a 0 = fidxI (fixP n) (a.drop i) i)) (fun (i : Nat) => a.length - i) 0 [0, 1, 7, 8] none (by kernel_rfl) (by kernel_rfl) (by kernel_rfl) ⟨(by omega), (by rfl)⟩ ?_)
  rintro i ⟨h3_1, h3_2⟩ R1 N2
  refine R.go 5 (R.cond ((i : Int) < (a.length : Int)) (by kernel_rfl) (fun c4 => ?_) (fun c4 => ?_))
  · refine R.go 13 (R.idx eI a 0 i (i : Int) (by kernel_rfl) rfl eI_len (by omega) (by kernel_rfl) ?_)
    refine R.go 3 (R.cond (((shl64 1 n) - 1) = (a.getD i 0)) (by kernel_rfl) (fun c5 => ?_) (fun c5 => ?_))
    · exact R.go 5 (R.retE (AI (i : Int)) (by kernel_rfl) (by kernel_rfl) (by first | (apply congrArg AI; rw [‹fidxI (fixP n) a 0 = _›]; first | exact (fidxI_end (by omega)).symm | exact (fidxI_hit (by omega) (fix_eq (Eq.symm (by assumption)))).symm) | (exfalso; omega)))
    · refine R.go 3 (R.ar ((i : Int) + 1) (by kernel_rfl) (by omega) (by omega) (by kernel_rfl) ?_)
      exact R.go 2 (R.stop R1 (by kernel_rfl) (N2 (i + 1) [0, 1, 7, 8] none _ (by kernel_rfl) (by kernel_rfl) ⟨(by omega), (by rw [‹fidxI (fixP n) a 0 = _›]; exact fidxI_miss (by omega) (fix_ne (fun e => (by assumption : ¬ (shl64 1 n) - 1 = a.getD i 0) e.symm)))⟩ (by show (a.length - (i + 1)) < (a.length - i); omega)))
  · exact R.go 5 (R.retE (AI (-1)) (by kernel_rfl) (by kernel_rfl) (by first | (apply congrArg AI; rw [‹fidxI (fixP n) a 0 = _›]; first | exact (fidxI_end (by omega)).symm | exact (fidxI_hit (by omega) (fix_eq (Eq.symm (by assumption)))).symm) | (exfalso; omega)))

theorem root_c (n : Int) (xs : List Int) (hP : okPo n xs = true) : CallA Tryz.prog 71 [.agg [AI n, LI xs]] (AI (rootX n xs)) := by
  have hR := okPo_fr hP
  have hF := okFr_rel hR
  have hRel : RelOK n.toNat xs := hF.2.2.2
  have hb0 : 0 ≤ n ∧ n ≤ 8 ∧ (xs.length : Int) = n := ⟨hF.1, hF.2.1, hF.2.2.1⟩
  have hN8 : n.toNat ≤ 8 := by omega
  have hs8 := shl_8 hF.1 hF.2.1
  refine CallA.of Tryz.func71 rfl (by kernel_rfl) ?_
  refine R.go 10 (R.call true (pAll_c n xs (by omega) (by omega)) (by kernel_rfl) rfl (by kernel_rfl) ?_)
  refine R.call true (indexV_c n xs (by first | omega | (simp <;> omega))) (by kernel_rfl) rfl (by kernel_rfl) ?_
  exact R.go 2 (R.retE (AI (fidxI (fixP n) xs 0)) (by kernel_rfl) (by kernel_rfl) (by first | (rfl) | (exfalso; omega)))

theorem imageI_c (n : Int) (xs : List Int) (m : Int) (hR : okFr n xs = true) (hm : InM n.toNat m) : CallA Tryz.prog 152 [LI xs, AI m] (AI (img xs m xs.length)) := by
  have hF := okFr_rel hR
  have hRel : RelOK n.toNat xs := hF.2.2.2
  have hb0 : 0 ≤ n ∧ n ≤ 8 ∧ (xs.length : Int) = n := ⟨hF.1, hF.2.1, hF.2.2.1⟩
  have hN8 : n.toNat ≤ 8 := by omega
  have hm61 := inM_mono (n' := 61) (by omega) hm
  refine CallA.of Tryz.func152 rfl (by kernel_rfl) ?_
  refine R.go 12 (R.call true (membersOf_c m (by first | assumption | exact inM61 (by omega) (by omega))).frz (by kernel_rfl) rfl (by kernel_rfl) ?_)
  refine R.go 4 (R.loop ((fun | (t, r) => (⟨(frm 23 [(0, LI xs), (5, AI r), (9, LI (mem m)), (10, AI ((mem m).length)), (11, AI (t : Int))]), []⟩ : St) : Nat × Int → St)) (fun | (t, r) => (t ≤ (mem m).length) ∧ (r = imgL xs ((mem m).take t))) (fun | (t, r) => (mem m).length - t) (0, 0) [0, 5, 9, 10, 11] none (by kernel_rfl) (by kernel_rfl) (by kernel_rfl) ⟨(by omega), (by rfl)⟩ ?_)
  rintro ⟨t, r⟩ ⟨h4_1, rfl⟩ R1 N2
  have hml := mem_le m
  have hjr := fun h : t < (mem m).length => mem_lt' (N := n.toNat) (by omega) hm h
  refine R.go 5 (R.cond ((t : Int) < ((mem m).length : Int)) (by kernel_rfl) (fun c5 => ?_) (fun c5 => ?_))
  · refine R.go 5 (R.idx eI (mem m) 0 t (t : Int) (by kernel_rfl) rfl eI_len (by omega) (by kernel_rfl) ?_)
    have hj2 := hjr (by omega)
    refine R.go 7 (R.idx eI xs 0 ((((mem m).getD t 0)).toNat) ((mem m).getD t 0) (by kernel_rfl) (by omega) eI_len (by omega) (by kernel_rfl) ?_)
    refine R.go 6 (R.ar ((t : Int) + 1) (by kernel_rfl) (by omega) (by omega) (by kernel_rfl) ?_)
    exact R.go 2 (R.stop R1 (by kernel_rfl) (N2 (t + 1, bor (imgL xs ((mem m).take t)) (xs.getD ((((mem m).getD t 0)).toNat) 0)) [0, 5, 9, 10, 11] none _ (by kernel_rfl) (by kernel_rfl) ⟨(by omega), (by exact imgL_snoc (by omega))⟩ (by show ((mem m).length - (t + 1)) < ((mem m).length - t); omega)))
  · exact R.go 6 (R.retE (AI (imgL xs ((mem m).take t))) (by kernel_rfl) (by kernel_rfl) (by first | (rw [← img_eq hRel hN8 hm, List.take_of_length_le (by omega)]) | (exfalso; omega)))

theorem isUpset_c (n : Int) (xs : List Int) (m : Int) (hR : okFr n xs = true) (hm : InM n.toNat m) (ho : outR n m = false) : CallA Tryz.prog 109 [.agg [AI n, LI xs], AI m] (.bool (decide (img xs m xs.length = m))) := by
  refine CallA.of Tryz.func109 rfl (by kernel_rfl) ?_
  refine R.go 10 (R.call true (isMask_c n m) (by kernel_rfl) rfl (by kernel_rfl) ?_)
  refine R.go 1 (R.want (!(outR n m)) true (by kernel_rfl) (bnT ho) ?_)
  refine R.go 1 (R.want (!(outR n m)) true (by kernel_rfl) (bnT ho) ?_)
  refine R.go 1 (R.want (!(outR n m)) true (by kernel_rfl) (bnT ho) ?_)
  refine R.go 1 (R.want (!(outR n m)) true (by kernel_rfl) (bnT ho) ?_)
  refine R.call true (imageI_c n xs m hR hm) (by kernel_rfl) rfl (by kernel_rfl) ?_
  refine R.want (!(outR n m)) true (by kernel_rfl) (bnT ho) ?_
  refine R.go 1 (R.want (!(outR n m)) true (by kernel_rfl) (bnT ho) ?_)
  refine R.go 1 (R.pick (!(outR n m)) true (by kernel_rfl) (bnT ho) (by kernel_rfl) ?_)
  exact R.go 2 (R.retE (.bool (decide ((img xs m xs.length) = m))) (by kernel_rfl) (by kernel_rfl) (by first | (rfl) | (exfalso; omega)))

theorem l16Upsets_c (n : Int) (xs : List Int) (hP : okPo n xs = true) : CallA Tryz.prog 69 [.agg [AI n, LI xs]] (ownA eI 2 1 (upL n xs)) := by
  have hR := okPo_fr hP
  have hF := okFr_rel hR
  have hRel : RelOK n.toNat xs := hF.2.2.2
  have hb0 : 0 ≤ n ∧ n ≤ 8 ∧ (xs.length : Int) = n := ⟨hF.1, hF.2.1, hF.2.2.1⟩
  have hN8 : n.toNat ≤ 8 := by omega
  have hs8 := shl_8 hF.1 hF.2.1
  refine CallA.of Tryz.func69 rfl (by kernel_rfl) ?_
  refine R.go 16 (R.loop ((fun | (k, out) => (⟨(frm 24 [(1, .ptr 0 0), (3, .ref 1), (4, AI (k : Int))]), [.box 29 [AI n, LI xs], rowA eI 2 1 out]⟩ : St) : Nat × (List Int) → St)) (fun | (k, out) => ((k : Int) ≤ shl64 1 n) ∧ (out = upTo xs k)) (fun | (k, out) => (shl64 1 n).toNat - k) (0, []) [1, 3, 4] none (by kernel_rfl) (by kernel_rfl) (by kernel_rfl) ⟨(by omega), (by rfl)⟩ ?_)
  rintro ⟨k, out⟩ ⟨h4_1, rfl⟩ R1 N2
  have hul := upTo_len xs k
  refine R.go 6 (R.call true (l01Full_c n (by omega) (by omega)) (by kernel_rfl) rfl (by kernel_rfl) ?_)
  refine R.go 2 (R.cond ((k : Int) ≤ ((shl64 1 n) - 1)) (by kernel_rfl) (fun c5 => ?_) (fun c5 => ?_))
  · refine R.go 8 (R.call true (l01Image_c xs (k : Int) (by first | omega | (simp <;> omega))) (by kernel_rfl) rfl (by kernel_rfl) ?_)
    refine R.go 3 (R.cond ((img xs (k : Int) xs.length) = (k : Int)) (by kernel_rfl) (fun c6 => ?_) (fun c6 => ?_))
    · refine R.go 4 (R.app eI (upTo xs k) [(k : Int)] 1 2 1 8 (by kernel_rfl) eI_one (by decide) (by first | omega | (simp <;> omega)) (by kernel_rfl) ?_)
      refine R.go 5 (R.ar ((k : Int) + 1) (by kernel_rfl) (by omega) (by omega) (by kernel_rfl) ?_)
      exact R.go 2 (R.stop R1 (by kernel_rfl) (N2 (k + 1, (upTo xs k) ++ [(k : Int)]) [1, 3, 4] (some [0, 1]) _ (by kernel_rfl) (by kernel_rfl) ⟨(by omega), (by first | exact upTo_yes (by assumption) | exact upTo_no (by assumption))⟩ (by show ((shl64 1 n).toNat - (k + 1)) < ((shl64 1 n).toNat - k); omega)))
    · refine R.go 4 (R.ar ((k : Int) + 1) (by kernel_rfl) (by omega) (by omega) (by kernel_rfl) ?_)
      exact R.go 2 (R.stop R1 (by kernel_rfl) (N2 (k + 1, upTo xs k) [1, 3, 4] none _ (by kernel_rfl) (by kernel_rfl) ⟨(by omega), (by first | exact upTo_yes (by assumption) | exact upTo_no (by assumption))⟩ (by show ((shl64 1 n).toNat - (k + 1)) < ((shl64 1 n).toNat - k); omega)))
  · exact R.go 6 (R.retE (ownA eI 2 1 (upTo xs k)) (by kernel_rfl) (by kernel_rfl) (by first | (show ownA eI _ 1 (upTo xs k) = ownA eI _ 1 (upL n xs); rw [upL, show k = (shl64 1 n).toNat by omega]) | (exfalso; omega)))

theorem upsets_c (n : Int) (xs : List Int) (hP : okPo n xs = true) : CallA Tryz.prog 75 [.agg [AI n, LI xs]] (ownA eI 2 1 (upL n xs)) := by
  have hR := okPo_fr hP
  have hF := okFr_rel hR
  have hRel : RelOK n.toNat xs := hF.2.2.2
  have hb0 : 0 ≤ n ∧ n ≤ 8 ∧ (xs.length : Int) = n := ⟨hF.1, hF.2.1, hF.2.2.1⟩
  have hN8 : n.toNat ≤ 8 := by omega
  have hs8 := shl_8 hF.1 hF.2.1
  refine CallA.of Tryz.func75 rfl (by kernel_rfl) ?_
  refine R.go 13 (R.call true (pAll_c n xs (by omega) (by omega)) (by kernel_rfl) rfl (by kernel_rfl) ?_)
  refine R.ar (((shl64 1 n) - 1) + 1) (by kernel_rfl) (by omega) (by omega) (by kernel_rfl) ?_
  refine R.go 3 (R.nil 3 2 1 (by kernel_rfl) ?_)
  refine R.loop ((fun | (k, out) => (⟨(frm 20 [(1, .ptr 0 0), (3, .ref 1), (7, AI (((shl64 1 n) - 1) + 1)), (8, AI (k : Int))]), [.box 29 [AI n, LI xs], rowA eI 2 1 out]⟩ : St) : Nat × (List Int) → St)) (fun | (k, out) => ((k : Int) ≤ shl64 1 n) ∧ (out = upTo xs k)) (fun | (k, out) => (shl64 1 n).toNat - k) (0, []) [1, 3, 7, 8] none (by kernel_rfl) (by kernel_rfl) (by kernel_rfl) ⟨(by omega), (by rfl)⟩ ?_
  rintro ⟨k, out⟩ ⟨h4_1, rfl⟩ R1 N2
  have hul := upTo_len xs k
  refine R.go 5 (R.cond ((k : Int) < (((shl64 1 n) - 1) + 1)) (by kernel_rfl) (fun c5 => ?_) (fun c5 => ?_))
  · have hkm := nat_inM (k := k) hb0.1 hb0.2.1 (by omega)
    have hko := outR_no (m := (k : Int)) hb0.1 hb0.2.1 (by omega)
    refine R.go 12 (R.call true (isUpset_c n xs (k : Int) (by assumption) (by assumption) (by assumption)) (by kernel_rfl) rfl (by kernel_rfl) ?_)
    refine R.go 1 (R.cond (img xs (k : Int) xs.length = (k : Int)) (by kernel_rfl) (fun c6 => ?_) (fun c6 => ?_))
    · refine R.go 4 (R.app eI (upTo xs k) [(k : Int)] 1 2 1 8 (by kernel_rfl) eI_one (by decide) (by first | omega | (simp <;> omega)) (by kernel_rfl) ?_)
      refine R.go 4 (R.ar ((k : Int) + 1) (by kernel_rfl) (by omega) (by omega) (by kernel_rfl) ?_)
      exact R.go 2 (R.stop R1 (by kernel_rfl) (N2 (k + 1, (upTo xs k) ++ [(k : Int)]) [1, 3, 7, 8] (some [0, 1]) _ (by kernel_rfl) (by kernel_rfl) ⟨(by omega), (by first | exact upTo_yes (by assumption) | exact upTo_no (by assumption))⟩ (by show ((shl64 1 n).toNat - (k + 1)) < ((shl64 1 n).toNat - k); omega)))
    · refine R.go 3 (R.ar ((k : Int) + 1) (by kernel_rfl) (by omega) (by omega) (by kernel_rfl) ?_)
      exact R.go 2 (R.stop R1 (by kernel_rfl) (N2 (k + 1, upTo xs k) [1, 3, 7, 8] none _ (by kernel_rfl) (by kernel_rfl) ⟨(by omega), (by first | exact upTo_yes (by assumption) | exact upTo_no (by assumption))⟩ (by show ((shl64 1 n).toNat - (k + 1)) < ((shl64 1 n).toNat - k); omega)))
  · exact R.go 6 (R.retE (ownA eI 2 1 (upTo xs k)) (by kernel_rfl) (by kernel_rfl) (by first | (show ownA eI _ 1 (upTo xs k) = ownA eI _ 1 (upL n xs); rw [upL, show k = (shl64 1 n).toNat by omega]) | (exfalso; omega)))

theorem szPoset_c (n : Int) (xs : List Int) (k : Int) (hk : (k : Int) ≤ 1048576) (hx : (xs.length : Int) ≤ k) : CallA Tryz.prog 5 [.agg [AI n, LI xs], AI k] (AI ((k : Int) - xs.length)) := by
  refine CallA.of Tryz.func5 rfl (by kernel_rfl) ?_
  refine R.go 10 (R.call true (szInt64S_c xs k hk hx) (by kernel_rfl) rfl (by kernel_rfl) ?_)
  refine R.go 8 (R.cond (((k : Int) - xs.length) < 0) (by kernel_rfl) (fun c1 => ?_) (fun c1 => ?_))
  · exact R.go 4 (R.retE (AI (-1)) (by kernel_rfl) (by kernel_rfl) (by first | (rfl) | (exfalso; omega)))
  · exact R.go 6 (R.retE (AI ((k : Int) - xs.length)) (by kernel_rfl) (by kernel_rfl) (by rfl))

theorem szPoset_no (n : Int) (xs : List Int) (k : Int) (hk : (0 : Int) ≤ k ∧ (k : Int) ≤ 1048576) (hx : (k : Int) < xs.length) (hl : xs.length ≤ 9223372036854775807) : CallA Tryz.prog 5 [.agg [AI n, LI xs], AI k] (AI (-1)) := by
  refine CallA.of Tryz.func5 rfl (by kernel_rfl) ?_
  refine R.go 10 (R.call true (szInt64S_no xs k hk hx hl) (by kernel_rfl) rfl (by kernel_rfl) ?_)
  exact R.go 13 (R.retE (AI (-1)) (by kernel_rfl) (by kernel_rfl) (by rfl))

theorem toPoset_c (n : Int) (xs : List Int) (hl : xs.length ≤ 1048576) : CallA Tryz.prog 7 [.agg [AI n, LI xs]] (.agg [AI n, ownA eI 2 1 xs]) := by
  refine CallA.of Tryz.func7 rfl (by kernel_rfl) ?_
  refine R.go 20 (R.call true (toInt64S_c xs hl) (by kernel_rfl) rfl (by kernel_rfl) ?_)
  exact R.go 8 (R.retE (.agg [AI n, ownA eI 2 1 xs]) (by kernel_rfl) (by kernel_rfl) (by rfl))

theorem eqPoset_c (n : Int) (xs : List Int) (la : xs.length ≤ 1000000000) : CallA Tryz.prog 10 [.agg [AI n, LI xs], .agg [AI n, LI xs]] (.bool true) := by
  refine CallA.of Tryz.func10 rfl (by kernel_rfl) ?_
  refine R.go 15 (R.els (!decide (n = n)) (by kernel_rfl) (nF rfl) ?_)
  refine R.go 8 (R.call true (eqInt64S_c xs xs la) (by kernel_rfl) rfl (by kernel_rfl) ?_)
  refine R.go 2 (R.els (!decide (xs = xs)) (by kernel_rfl) (nF rfl) ?_)
  exact R.go 5 (R.retE (.bool true) (by kernel_rfl) (by kernel_rfl) (by rfl))

end Go.Proofs.YtfkdkhlimdkehaaGreat
