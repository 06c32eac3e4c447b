/- Texts of the proof: W02, SymX, SymZ, Sym1, Y00, Y01. -/
import Derived.RangeFuncNested
import Derived.Test.YtogehjciaamcfaaPartE

/-! Posets: roots and upsets of both packages. -/
namespace Go.Proofs.Ytogehjciaamcfaa
open Go.RowKit Go.Abs

theorem shl8N : ∀ n : Fin 9, 1 ≤ shl64 1 (n.val : Int) ∧ shl64 1 (n.val : Int) ≤ 256 := by decide +kernel
theorem shl_8 {n : Int} (h0 : 0 ≤ n) (h8 : n ≤ 8) : 1 ≤ shl64 1 n ∧ shl64 1 n ≤ 256 := by
  obtain ⟨k, rfl⟩ := Int.eq_ofNat_of_zero_le h0
  exact shl8N ⟨k, by omega⟩
def poC (n : Int) (xs : List Int) : Int := if okPo n xs = true then 0 else 1
/-- The upsets below k. -/
def upTo (xs : List Int) : Nat → List Int
  | 0 => []
  | k + 1 => if img xs (k : Int) xs.length = (k : Int) then upTo xs k ++ [(k : Int)] else upTo xs k
theorem upTo_len (xs : List Int) : ∀ k : Nat, (upTo xs k).length ≤ k
  | 0 => Nat.le_refl _
  | k + 1 => by
    have := upTo_len xs k
    rw [upTo]
    split
    · simp; omega
    · omega
theorem upTo_yes {xs : List Int} {k : Nat} (h : img xs (k : Int) xs.length = (k : Int)) : upTo xs k ++ [(k : Int)] = upTo xs (k + 1) := by rw [upTo, if_pos h]
theorem upTo_no {xs : List Int} {k : Nat} (h : ¬ img xs (k : Int) xs.length = (k : Int)) : upTo xs k = upTo xs (k + 1) := by rw [upTo, if_neg h]
def upL (n : Int) (xs : List Int) : List Int := upTo xs (shl64 1 n).toNat
def upR (n : Int) (xs : List Int) : List Int := if okPo n xs = true then upL n xs else []
theorem up_bad {s : Nat} {n : Int} {xs : List Int} (h : okPo n xs = false) : AV.tup [ownA eI s 1 [], AI 1] = AV.tup [ownA eI s 1 (upR n xs), AI (poC n xs)] := by simp [upR, poC, h]
theorem up_ok {s : Nat} {n : Int} {xs : List Int} (h : okPo n xs = true) : AV.tup [ownA eI s 1 (upL n xs), AI 0] = AV.tup [ownA eI s 1 (upR n xs), AI (poC n xs)] := by rw [upR, poC, if_pos h, if_pos h]
theorem upR_len (n : Int) (xs : List Int) : (upR n xs).length ≤ 256 := by
  unfold upR
  split
  · rename_i h
    have hF := okFr_rel (okPo_fr h)
    have := upTo_len xs (shl64 1 n).toNat
    have := shl_8 hF.1 hF.2.1
    unfold upL
    omega
  · simp
/-! The image, by the members of the mask. -/
def imgL (xs : List Int) (L : List Int) : Int := L.foldl (fun o j => bor o (xs.getD j.toNat 0)) 0
theorem imgL_snoc {xs L : List Int} {t : Nat} (h : t < L.length) : bor (imgL xs (L.take t)) (xs.getD (L.getD t 0).toNat 0) = imgL xs (L.take (t + 1)) := by
  rw [List.take_succ_eq_append_getElem h, imgL, imgL, List.foldl_append, List.getD_eq_getElem?_getD (l := L), List.getElem?_eq_getElem h]
  rfl
theorem imgF_ok {N : Nat} {xs : List Int} (hR : RelOK N xs) (hN : N ≤ 8) : ∀ (L : List Int) (o : Int), InM N o → (∀ j ∈ L, 0 ≤ j ∧ j < (N : Int)) → InM N (L.foldl (fun o j => bor o (xs.getD j.toNat 0)) o) ∧ ∀ k, tb (L.foldl (fun o j => bor o (xs.getD j.toNat 0)) o) k = true ↔ tb o k = true ∨ ∃ j ∈ L, tb (xs.getD j.toNat 0) k = true
  | [], o, h, _ => ⟨h, fun k => by simp⟩
  | v :: L, o, h, hL => by
    have hv := hL v (List.mem_cons_self ..)
    have hx := hR.2 v.toNat (by omega)
    have hb := inM_bor (n := N) (by omega) h hx
    obtain ⟨i1, i2⟩ := imgF_ok hR hN L _ hb fun j hj => hL j (List.mem_cons_of_mem _ hj)
    refine ⟨i1, fun k => ?_⟩
    rw [List.foldl_cons, i2, tb_bor (n := N) (by omega) h hx, Bool.or_eq_true]
    simp [or_assoc]
theorem img_eq {N : Nat} {xs : List Int} {m : Int} (hR : RelOK N xs) (hN : N ≤ 8) (hm : InM N m) : imgL xs (mem m) = img xs m xs.length := by
  have hl := hR.1
  obtain ⟨a1, a2⟩ := imgF_ok hR hN (mem m) 0 (inM_zero _) (mem_lt (by omega) hm)
  obtain ⟨b1, b2⟩ := img_ok (n := N) (by omega) hR hm xs.length (by omega)
  refine tb_ext a1.1 b1.1 fun k => ?_
  rw [Bool.eq_iff_iff, imgL, a2, b2]
  constructor
  · rintro (a | ⟨j, hj, h⟩)
    · rw [tb_zero] at a; cases a
    · have h1 := mem_lt (by omega) hm j hj
      refine ⟨j.toNat, by omega, (mem_iff (by omega) hm).1 (by rw [show ((j.toNat : Nat) : Int) = j by omega]; exact hj), h⟩
  · rintro ⟨j, _, h1, h2⟩
    exact .inr ⟨(j : Int), (mem_iff (by omega) hm).2 h1, by simpa using h2⟩
theorem nat_inM {n : Int} {k : Nat} (h0 : 0 ≤ n) (h8 : n ≤ 8) (hk : (k : Int) < shl64 1 n) : InM n.toNat (k : Int) := by
  have := shl_nat (i := n.toNat) (by omega)
  rw [show ((n.toNat : Nat) : Int) = n by omega] at this
  exact ⟨by omega, by omega⟩
theorem outR_no {n m : Int} (h0 : 0 ≤ n) (h8 : n ≤ 8) (h : 0 ≤ m ∧ m < shl64 1 n) : outR n m = false := by
  rw [outR, (inR_iff n 0 30).2 (by omega), (inR_iff m 0 _).2 (by omega)]; rfl

theorem pAll_c (n : Int) (xs : List Int) (h0 : 0 ≤ n) (h1 : n ≤ 62) : CallA Try.prog 35 [.agg [AI n, LI xs]] (AI ((shl64 1 n) - 1)) := by
  have hb : 1 ≤ shl64 1 n ∧ shl64 1 n ≤ 4611686018427387904 := shl_rng n h0 h1
  refine CallA.of Try.func35 rfl (by kernel_rfl) ?_
  refine R.go 9 (R.shl 1 n (by kernel_rfl) (by omega) (by kernel_rfl) ?_)
  refine R.ar ((shl64 1 n) - 1) (by kernel_rfl) (by omega) (by omega) (by kernel_rfl) ?_
  exact R.go 2 (R.retE (AI ((shl64 1 n) - 1)) (by kernel_rfl) (by kernel_rfl) (by rfl))

theorem imageI_c (n : Int) (xs : List Int) (m : Int) (hR : okFr n xs = true) (hm : InM n.toNat m) : CallA Try.prog 41 [LI xs, AI m] (AI (img xs m xs.length)) := by
  have hF := okFr_rel hR
  have hRel : RelOK n.toNat xs := hF.2.2.2
  have hb0 : 0 ≤ n ∧ n ≤ 8 ∧ (xs.length : Int) = n := ⟨hF.1, hF.2.1, hF.2.2.1⟩
  have hN8 : n.toNat ≤ 8 := by omega
  have hm61 := inM_mono (n' := 61) (by omega) hm
  refine CallA.of Try.func41 rfl (by kernel_rfl) ?_
  refine R.go 12 (R.call true (membersOf_c m (by first | assumption | exact inM61 (by omega) (by omega))).frz (by kernel_rfl) rfl (by kernel_rfl) ?_)
  refine R.go 4 (R.loop ((fun | (t, r) => (⟨(frm 23 [(0, LI xs), (5, AI r), (9, LI (mem m)), (10, AI ((mem m).length)), (11, AI (t : Int))]), []⟩ : St) : Nat × Int → St)) (fun | (t, r) => (t ≤ (mem m).length) ∧ (r = imgL xs ((mem m).take t))) (fun | (t, r) => (mem m).length - t) (0, 0) [0, 5, 9, 10, 11] none (by kernel_rfl) (by kernel_rfl) (by kernel_rfl) ⟨(by omega), (by rfl)⟩ ?_)
  rintro ⟨t, r⟩ ⟨h4_1, rfl⟩ R1 N2
  have hml := mem_le m
  have hjr := fun h : t < (mem m).length => mem_lt' (N := n.toNat) (by omega) hm h
  refine R.go 5 (R.cond ((t : Int) < ((mem m).length : Int)) (by kernel_rfl) (fun c5 => ?_) (fun c5 => ?_))
  · refine R.go 5 (R.idx eI (mem m) 0 t (t : Int) (by kernel_rfl) rfl eI_len (by omega) (by kernel_rfl) ?_)
    have hj2 := hjr (by omega)
    refine R.go 7 (R.idx eI xs 0 ((((mem m).getD t 0)).toNat) ((mem m).getD t 0) (by kernel_rfl) (by omega) eI_len (by omega) (by kernel_rfl) ?_)
    refine R.go 6 (R.ar ((t : Int) + 1) (by kernel_rfl) (by omega) (by omega) (by kernel_rfl) ?_)
    exact R.go 2 (R.stop R1 (by kernel_rfl) (N2 (t + 1, bor (imgL xs ((mem m).take t)) (xs.getD ((((mem m).getD t 0)).toNat) 0)) [0, 5, 9, 10, 11] none _ (by kernel_rfl) (by kernel_rfl) ⟨(by omega), (by exact imgL_snoc (by omega))⟩ (by show ((mem m).length - (t + 1)) < ((mem m).length - t); omega)))
  · exact R.go 6 (R.retE (AI (imgL xs ((mem m).take t))) (by kernel_rfl) (by kernel_rfl) (by first | (rw [← img_eq hRel hN8 hm, List.take_of_length_le (by omega)]) | (exfalso; omega)))

theorem isUpset_c (n : Int) (xs : List Int) (m : Int) (hR : okFr n xs = true) (hm : InM n.toNat m) (ho : outR n m = false) : CallA Try.prog 61 [.agg [AI n, LI xs], AI m] (.bool (decide (img xs m xs.length = m))) := by
  refine CallA.of Try.func61 rfl (by kernel_rfl) ?_
  refine R.go 10 (R.call true (isMask_c n m) (by kernel_rfl) rfl (by kernel_rfl) ?_)
  refine R.go 1 (R.want (!(outR n m)) true (by kernel_rfl) (bnT ho) ?_)
  refine R.go 1 (R.want (!(outR n m)) true (by kernel_rfl) (bnT ho) ?_)
  refine R.go 1 (R.want (!(outR n m)) true (by kernel_rfl) (bnT ho) ?_)
  refine R.go 1 (R.want (!(outR n m)) true (by kernel_rfl) (bnT ho) ?_)
  refine R.call true (imageI_c n xs m hR hm) (by kernel_rfl) rfl (by kernel_rfl) ?_
  refine R.want (!(outR n m)) true (by kernel_rfl) (bnT ho) ?_
  refine R.go 1 (R.want (!(outR n m)) true (by kernel_rfl) (bnT ho) ?_)
  refine R.go 1 (R.pick (!(outR n m)) true (by kernel_rfl) (bnT ho) (by kernel_rfl) ?_)
  exact R.go 2 (R.retE (.bool (decide ((img xs m xs.length) = m))) (by kernel_rfl) (by kernel_rfl) (by first | (rfl) | (exfalso; omega)))

theorem l16Upsets_c (n : Int) (xs : List Int) (hP : okPo n xs = true) : CallA Try.prog 32 [.agg [AI n, LI xs]] (ownA eI 2 1 (upL n xs)) := by
  have hR := okPo_fr hP
  have hF := okFr_rel hR
  have hRel : RelOK n.toNat xs := hF.2.2.2
  have hb0 : 0 ≤ n ∧ n ≤ 8 ∧ (xs.length : Int) = n := ⟨hF.1, hF.2.1, hF.2.2.1⟩
  have hN8 : n.toNat ≤ 8 := by omega
  have hs8 := shl_8 hF.1 hF.2.1
  refine CallA.of Try.func32 rfl (by kernel_rfl) ?_
  refine R.go 16 (R.loop ((fun | (k, out) => (⟨(frm 24 [(1, .ptr 0 0), (3, .ref 1), (4, AI (k : Int))]), [.box 26 [AI n, LI xs], rowA eI 2 1 out]⟩ : St) : Nat × (List Int) → St)) (fun | (k, out) => ((k : Int) ≤ shl64 1 n) ∧ (out = upTo xs k)) (fun | (k, out) => (shl64 1 n).toNat - k) (0, []) [1, 3, 4] none (by kernel_rfl) (by kernel_rfl) (by kernel_rfl) ⟨(by omega), (by rfl)⟩ ?_)
  rintro ⟨k, out⟩ ⟨h4_1, rfl⟩ R1 N2
  have hul := upTo_len xs k
  refine R.go 6 (R.call true (l01Full_c n (by omega) (by omega)) (by kernel_rfl) rfl (by kernel_rfl) ?_)
  refine R.go 2 (R.cond ((k : Int) ≤ ((shl64 1 n) - 1)) (by kernel_rfl) (fun c5 => ?_) (fun c5 => ?_))
  · refine R.go 8 (R.call true (l01Image_c xs (k : Int) (by first | omega | (simp <;> omega))) (by kernel_rfl) rfl (by kernel_rfl) ?_)
    refine R.go 3 (R.cond ((img xs (k : Int) xs.length) = (k : Int)) (by kernel_rfl) (fun c6 => ?_) (fun c6 => ?_))
    · refine R.go 4 (R.app eI (upTo xs k) [(k : Int)] 1 2 1 8 (by kernel_rfl) eI_one (by decide) (by first | omega | (simp <;> omega)) (by kernel_rfl) ?_)
      refine R.go 5 (R.ar ((k : Int) + 1) (by kernel_rfl) (by omega) (by omega) (by kernel_rfl) ?_)
      exact R.go 2 (R.stop R1 (by kernel_rfl) (N2 (k + 1, (upTo xs k) ++ [(k : Int)]) [1, 3, 4] (some [0, 1]) _ (by kernel_rfl) (by kernel_rfl) ⟨(by omega), (by first | exact upTo_yes (by assumption) | exact upTo_no (by assumption))⟩ (by show ((shl64 1 n).toNat - (k + 1)) < ((shl64 1 n).toNat - k); omega)))
    · refine R.go 4 (R.ar ((k : Int) + 1) (by kernel_rfl) (by omega) (by omega) (by kernel_rfl) ?_)
      exact R.go 2 (R.stop R1 (by kernel_rfl) (N2 (k + 1, upTo xs k) [1, 3, 4] none _ (by kernel_rfl) (by kernel_rfl) ⟨(by omega), (by first | exact upTo_yes (by assumption) | exact upTo_no (by assumption))⟩ (by show ((shl64 1 n).toNat - (k + 1)) < ((shl64 1 n).toNat - k); omega)))
  · exact R.go 6 (R.retE (ownA eI 2 1 (upTo xs k)) (by kernel_rfl) (by kernel_rfl) (by first | (show ownA eI _ 1 (upTo xs k) = ownA eI _ 1 (upL n xs); rw [upL, show k = (shl64 1 n).toNat by omega]) | (exfalso; omega)))

theorem upsets_c (n : Int) (xs : List Int) (hP : okPo n xs = true) : CallA Try.prog 30 [.agg [AI n, LI xs]] (ownA eI 2 1 (upL n xs)) := by
  have hR := okPo_fr hP
  have hF := okFr_rel hR
  have hRel : RelOK n.toNat xs := hF.2.2.2
  have hb0 : 0 ≤ n ∧ n ≤ 8 ∧ (xs.length : Int) = n := ⟨hF.1, hF.2.1, hF.2.2.1⟩
  have hN8 : n.toNat ≤ 8 := by omega
  have hs8 := shl_8 hF.1 hF.2.1
  refine CallA.of Try.func30 rfl (by kernel_rfl) ?_
  refine R.go 13 (R.call true (pAll_c n xs (by omega) (by omega)) (by kernel_rfl) rfl (by kernel_rfl) ?_)
  refine R.ar (((shl64 1 n) - 1) + 1) (by kernel_rfl) (by omega) (by omega) (by kernel_rfl) ?_
  refine R.go 3 (R.nil 3 2 1 (by kernel_rfl) ?_)
  refine R.loop ((fun | (k, out) => (⟨(frm 20 [(1, .ptr 0 0), (3, .ref 1), (7, AI (((shl64 1 n) - 1) + 1)), (8, AI (k : Int))]), [.box 26 [AI n, LI xs], rowA eI 2 1 out]⟩ : St) : Nat × (List Int) → St)) (fun | (k, out) => ((k : Int) ≤ shl64 1 n) ∧ (out = upTo xs k)) (fun | (k, out) => (shl64 1 n).toNat - k) (0, []) [1, 3, 7, 8] none (by kernel_rfl) (by kernel_rfl) (by kernel_rfl) ⟨(by omega), (by rfl)⟩ ?_
  rintro ⟨k, out⟩ ⟨h4_1, rfl⟩ R1 N2
  have hul := upTo_len xs k
  refine R.go 5 (R.cond ((k : Int) < (((shl64 1 n) - 1) + 1)) (by kernel_rfl) (fun c5 => ?_) (fun c5 => ?_))
  · have hkm := nat_inM (k := k) hb0.1 hb0.2.1 (by omega)
    have hko := outR_no (m := (k : Int)) hb0.1 hb0.2.1 (by omega)
    refine R.go 12 (R.call true (isUpset_c n xs (k : Int) (by assumption) (by assumption) (by assumption)) (by kernel_rfl) rfl (by kernel_rfl) ?_)
    refine R.go 1 (R.cond (img xs (k : Int) xs.length = (k : Int)) (by kernel_rfl) (fun c6 => ?_) (fun c6 => ?_))
    · refine R.go 4 (R.app eI (upTo xs k) [(k : Int)] 1 2 1 8 (by kernel_rfl) eI_one (by decide) (by first | omega | (simp <;> omega)) (by kernel_rfl) ?_)
      refine R.go 4 (R.ar ((k : Int) + 1) (by kernel_rfl) (by omega) (by omega) (by kernel_rfl) ?_)
      exact R.go 2 (R.stop R1 (by kernel_rfl) (N2 (k + 1, (upTo xs k) ++ [(k : Int)]) [1, 3, 7, 8] (some [0, 1]) _ (by kernel_rfl) (by kernel_rfl) ⟨(by omega), (by first | exact upTo_yes (by assumption) | exact upTo_no (by assumption))⟩ (by show ((shl64 1 n).toNat - (k + 1)) < ((shl64 1 n).toNat - k); omega)))
    · refine R.go 3 (R.ar ((k : Int) + 1) (by kernel_rfl) (by omega) (by omega) (by kernel_rfl) ?_)
      exact R.go 2 (R.stop R1 (by kernel_rfl) (N2 (k + 1, upTo xs k) [1, 3, 7, 8] none _ (by kernel_rfl) (by kernel_rfl) ⟨(by omega), (by first | exact upTo_yes (by assumption) | exact upTo_no (by assumption))⟩ (by show ((shl64 1 n).toNat - (k + 1)) < ((shl64 1 n).toNat - k); omega)))
  · exact R.go 6 (R.retE (ownA eI 2 1 (upTo xs k)) (by kernel_rfl) (by kernel_rfl) (by first | (show ownA eI _ 1 (upTo xs k) = ownA eI _ 1 (upL n xs); rw [upL, show k = (shl64 1 n).toNat by omega]) | (exfalso; omega)))

theorem UP_spec (n : Int) (xs : List Int) (lx : xs.length ≤ 1048576) : CallA Try.prog 8 [.agg [AI n, LI xs]] (.tup [ownA eI 2 1 (upR n xs), AI (poC n xs)]) := by
  refine CallA.of Try.func8 rfl (by kernel_rfl) ?_
  refine R.go 10 (R.call true (l16Is_c n xs (by first | omega | (simp <;> omega))) (by kernel_rfl) rfl (by kernel_rfl) ?_)
  refine R.go 2 (R.condM (okPo n xs) (by kernel_rfl) (fun c1 => ?_) (fun c1 => ?_))
  · refine R.go 5 (R.nil 2 2 1 (by kernel_rfl) ?_)
    exact R.retE (.tup [ownA eI 2 1 [], AI 1]) (by kernel_rfl) (by kernel_rfl) (by first | (first | exact up_bad (by assumption) | exact up_ok (by assumption)) | (exfalso; omega))
  · refine R.go 4 (R.call true (l16Upsets_c n xs c1) (by kernel_rfl) rfl (by kernel_rfl) ?_)
    exact R.go 3 (R.retE (.tup [ownA eI 2 1 (upL n xs), AI 0]) (by kernel_rfl) (by kernel_rfl) (by first | (first | exact up_bad (by assumption) | exact up_ok (by assumption)) | (exfalso; omega)))

theorem UP_impl (n : Int) (xs : List Int) (lx : xs.length ≤ 1048576) : CallA Try.prog 7 [.agg [AI n, LI xs]] (.tup [ownA eI 2 1 (upR n xs), AI (poC n xs)]) := by
  refine CallA.of Try.func7 rfl (by kernel_rfl) ?_
  refine R.go 10 (R.call true (isPoset_c n xs (by first | omega | (simp <;> omega))) (by kernel_rfl) rfl (by kernel_rfl) ?_)
  refine R.go 2 (R.condM (okPo n xs) (by kernel_rfl) (fun c1 => ?_) (fun c1 => ?_))
  · refine R.go 5 (R.nil 2 2 1 (by kernel_rfl) ?_)
    exact R.retE (.tup [ownA eI 2 1 [], AI 1]) (by kernel_rfl) (by kernel_rfl) (by first | (first | exact up_bad (by assumption) | exact up_ok (by assumption)) | (exfalso; omega))
  · refine R.go 4 (R.call true (upsets_c n xs c1) (by kernel_rfl) rfl (by kernel_rfl) ?_)
    exact R.go 3 (R.retE (.tup [ownA eI 2 1 (upL n xs), AI 0]) (by kernel_rfl) (by kernel_rfl) (by first | (first | exact up_bad (by assumption) | exact up_ok (by assumption)) | (exfalso; omega)))

end Go.Proofs.Ytogehjciaamcfaa


/-! The machine's rules: loops over functions. -/
namespace Go.Abs
open Go.RowKit

/-- A new object that names no block. -/
theorem HRel.extend0 {w w' : World} {Z : Nat → Prop} {B : Nat} {μ : List Value} {hp : List AObj} {u : Value} {o : AObj} (h : HRel w Z B μ hp)
    (hb : Below w.heap.size w w') (hnew : ObjRel w' Z (μ ++ [u]) B u o) (hbl : blk u = none) (hone : u.oneCell' = true) : HRel w' Z B (μ ++ [u]) (hp ++ [o]) := by
  have hold : ∀ (i : Nat) (x : Value), μ[i]? = some x → (μ ++ [u])[i]? = some x := fun i x hx => by
    rw [List.getElem?_append_left (List.getElem?_eq_some_iff.1 hx).1]; exact hx
  have hbk : ∀ (i : Nat) oi ui g, hp[i]? = some oi → oi.alive = true → μ[i]? = some ui → blk ui = some g → g < w.heap.size := fun i oi ui g h1 h2 h3 h4 => ((h.obj i oi ui h1 h3).blk_ge h2 h4).2
  have split : ∀ (i : Nat) oi ui, (hp ++ [o])[i]? = some oi → (μ ++ [u])[i]? = some ui → (hp[i]? = some oi ∧ μ[i]? = some ui) ∨ (i = hp.length ∧ oi = o ∧ ui = u) := by
    intro i oi ui h1 h2
    rcases Nat.lt_trichotomy i hp.length with hi | hi | hi
    · rw [List.getElem?_append_left hi] at h1
      rw [List.getElem?_append_left (by rw [h.len]; exact hi)] at h2
      exact .inl ⟨h1, h2⟩
    · subst hi
      rw [List.getElem?_append_right (Nat.le_refl _)] at h1
      rw [List.getElem?_append_right (by rw [h.len]; exact Nat.le_refl _), h.len] at h2
      simp at h1 h2
      exact .inr ⟨rfl, h1.symm, h2.symm⟩
    · rw [List.getElem?_eq_none (by simp; omega)] at h1
      cases h1
  refine ⟨by simp [h.len], fun i oi ui g h1 ha h2 hg => ?_, fun i x hx => ?_, fun i oi ui h1 h2 => ?_, fun i j oi oj ui uj g hne h1 h2 a1 a2 m1 m2 b1 b2 => ?_⟩
  · rcases split i oi ui h1 h2 with ⟨e1, e2⟩ | ⟨_, rfl, rfl⟩
    · exact h.zone i oi ui g e1 ha e2 hg
    · rw [hbl] at hg; cases hg
  · rcases Nat.lt_or_ge i μ.length with hi | hi
    · rw [List.getElem?_append_left hi] at hx
      exact h.one i x hx
    · rw [List.getElem?_append_right hi] at hx
      have : x = u := by
        rcases Nat.eq_zero_or_pos (i - μ.length) with h0 | h0
        · rw [h0] at hx; simpa using hx.symm
        · rw [List.getElem?_eq_none (by simp; omega)] at hx; cases hx
      subst this
      exact hone
  · rcases split i oi ui h1 h2 with ⟨e1, e2⟩ | ⟨_, rfl, rfl⟩
    · cases ho : oi.alive with
      | true => exact (h.obj i oi ui e1 e2).keep (fun b hb1 _ => hb.block b hb1) hold (fun g hg => hb.block g (hbk i oi ui g e1 ho e2 hg))
      | false => exact (h.obj i oi ui e1 e2).keep_dead (fun b hb1 _ => hb.block b hb1) hold ho
    · exact hnew
  · rcases split i oi ui h1 m1 with ⟨e1, e2⟩ | ⟨_, rfl, rfl⟩ <;> rcases split j oj uj h2 m2 with ⟨e3, e4⟩ | ⟨_, rfl, rfl⟩
    · exact h.sep i j oi oj ui uj g hne e1 e3 a1 a2 e2 e4 b1 b2
    · rw [hbl] at b2; cases b2
    · rw [hbl] at b1; cases b1
    · rw [hbl] at b1; cases b1

/-- The block r, which holds no cells, is turned; the one object that holds no cells is turned with it. -/
theorem HRel.turn {w : World} {Z : Nat → Prop} {B : Nat} {μ : List Value} {hp : List AObj} {i r : Nat} {o o' : Obj} {x' : Inert} (h : HRel w Z B μ hp) (hr : w.heap[r]? = some o) (hn : o.isCells = false)
    (hi : ∀ j x, hp[j]? = some (.inert x) → j = i) (hnew : ∀ u, μ[i]? = some u → InertRel (w.putObj r o') Z B u x') : HRel (w.putObj r o') Z B μ (hp.set i (.inert x')) := by
  have get : ∀ (j : Nat) oj, (hp.set i (.inert x'))[j]? = some oj → (j = i ∧ oj = .inert x') ∨ (hp[j]? = some oj ∧ ∀ x, oj ≠ .inert x) := by
    intro j oj hj
    by_cases hji : j = i
    · subst hji
      rcases Nat.lt_or_ge j hp.length with hlt | hge
      · rw [List.getElem?_set_self hlt] at hj; simp at hj; exact .inl ⟨rfl, hj.symm⟩
      · rw [List.getElem?_eq_none (by simpa using hge)] at hj; cases hj
    · rw [List.getElem?_set_ne (Ne.symm hji)] at hj
      exact .inr ⟨hj, fun x e => hji (hi j x (by rw [hj, e]))⟩
  refine ⟨by simpa using h.len, fun j o u g h1 ha h2 hg => ?_, h.one, fun j oj u h1 h2 => ?_, fun j k oj ok uj uk g hne h1 h2 a1 a2 m1 m2 b1 b2 => ?_⟩
  · rcases get j o h1 with ⟨rfl, rfl⟩ | ⟨h1, _⟩
    · have := (hnew u h2).blk
      rw [this] at hg; cases hg
    · exact h.zone j o u g h1 ha h2 hg
  · rcases get j oj h1 with ⟨rfl, rfl⟩ | ⟨h1, hx⟩
    · exact hnew u h2
    · exact (h.obj j oj u h1 h2).turn hr hn hx
  · rcases get j oj h1 with ⟨rfl, rfl⟩ | ⟨h1, _⟩
    · rw [(hnew uj m1).blk] at b1; cases b1
    · rcases get k ok h2 with ⟨rfl, rfl⟩ | ⟨h2, _⟩
      · rw [(hnew uk m2).blk] at b2; cases b2
      · exact h.sep j k oj ok uj uk g hne h1 h2 a1 a2 m1 m2 b1 b2

theorem oneInert_at {hp : List AObj} (h : oneInert hp = true) {i : Nat} {y : Inert} (hi : hp[i]? = some (.inert y)) : ∀ j x, hp[j]? = some (.inert x) → j = i := fun j x hj => oneInert_sound h j i x y hj hi

/-- How far the loop has come that object i stands for. -/
def lstAt (i : Nat) (hp : List AObj) : Option (Nat × LSt) :=
  match hp[i]? with
  | some (.inert (.lrec D s _ _ _ _)) => if oneInert hp then some (D, s) else none
  | _ => none

theorem lstAt_parts {i D : Nat} {s : LSt} {hp : List AObj} (h : lstAt i hp = some (D, s)) : (∃ us ps asg bd, hp[i]? = some (.inert (.lrec D s us ps asg bd))) ∧ oneInert hp = true := by
  unfold lstAt at h
  split at h
  · rename_i D' s' us ps asg bd hi
    split at h
    · cases h
      exact ⟨⟨us, ps, asg, bd, hi⟩, by assumption⟩
    · cases h
  · cases h

def Inert.to (s : LSt) : Inert → Inert
  | .lrec D _ us ps asg bd => .lrec D s us ps asg bd
  | x => x

def setL (i : Nat) (s : LSt) (hp : List AObj) : List AObj :=
  match hp[i]? with
  | some (.inert x) => hp.set i (.inert (x.to s))
  | _ => hp

def Inert.over : Inert → Inert
  | .lrec D _ _ _ _ _ => .mark D
  | x => x
def setM (i : Nat) (hp : List AObj) : List AObj :=
  match hp[i]? with
  | some (.inert x) => hp.set i (.inert x.over)
  | _ => hp

/-- The record's block is turned, and its object with it. -/
theorem HRel.turnL {w : World} {Z : Nat → Prop} {B D i : Nat} {μ : List Value} {hp : List AObj} {s : LSt} {us : List Value} {ps : Array Tmp} {asg bd : Code} (h : HRel w Z B μ hp) (h1 : oneInert hp = true)
    (hi : hp[i]? = some (.inert (.lrec D s us ps asg bd))) :
    ∃ r : Loop, w.heap[D + 1]? = some (.loop r) ∧ r.state = s.state ∧ r.pending = s.pend ∧ r.tmps = us.toArray ∧ r.params = ps ∧ r.assign = asg ∧ r.body = bd ∧ B ≤ D ∧ w.heap[D]? = some (.deferred (some [])) ∧ μ[i]? = some (.func (.yield (D + 1)) #[] #[]) ∧
      (∀ s' : LSt, HRel (w.putObj (D + 1) (.loop { r with state := s'.state, pending := s'.pend })) Z B μ (setL i s' hp)) ∧
      (∀ o', HRel (w.putObj (D + 1) o') Z B μ (setM i hp)) := by
  have hil : i < μ.length := by rw [h.len]; exact (List.getElem?_eq_some_iff.1 hi).1
  obtain ⟨u, hu⟩ : ∃ u, μ[i]? = some u := ⟨_, List.getElem?_eq_getElem hil⟩
  obtain ⟨fn, rfl, ⟨⟨hB, hz⟩, hD⟩, hz2, hl⟩ := h.obj i _ u hi hu
  refine ⟨_, hl, rfl, rfl, rfl, rfl, rfl, rfl, hB, hD, hu, fun s' => ?_, fun o' => ?_⟩
  · unfold setL
    rw [hi]
    refine h.turn hl rfl (oneInert_at h1 hi) fun u' hu' => ?_
    rw [hu] at hu'
    cases hu'
    exact ⟨fn, rfl, ⟨⟨hB, hz⟩, (World.putObj_heap_other (by omega)).trans hD⟩, hz2, World.putObj_heap_same (Array.getElem?_eq_some_iff.1 hl).1⟩
  · unfold setM
    rw [hi]
    refine h.turn hl rfl (oneInert_at h1 hi) fun u' hu' => ?_
    rw [hu] at hu'
    cases hu'
    exact ⟨rfl, ⟨hB, hz⟩, (World.putObj_heap_other (by omega)).trans hD⟩

/-- The temporaries ps become avs. -/
def setPs : List Tmp → List AV → List AV → List AV
  | p :: ps, v :: vs, fr => setPs ps vs (fr.set p v)
  | _, _, fr => fr

theorem setPs_rel {w : World} {Z : Nat → Prop} {μ : List Value} : ∀ {ps : List Tmp} {avs : List AV} {vs : List Value} {fr : List AV} {tmps : Array Value}, RelL w Z μ avs vs → RelL w Z μ fr tmps.toList → ps.length = avs.length →
    RelL w Z μ (setPs ps avs fr) ((ps.zip vs).foldl (fun t (x : Tmp × Value) => t.setIfInBounds x.1 x.2) tmps).toList
  | [], [], vs, fr, tmps, _, h, _ => by simpa [setPs] using h
  | p :: ps, c :: cs, vs, fr, tmps, hv, h, hl => by
    rw [RelL] at hv
    obtain ⟨x, xs, rfl, h1, h2⟩ := hv
    simp only [setPs, List.zip_cons_cons, List.foldl_cons]
    refine setPs_rel h2 ?_ (by simpa using hl)
    rw [Array.toList_setIfInBounds]
    exact h.set p h1
  | [], _ :: _, _, _, _, _, _, hl => by simp at hl
  | _ :: _, [], _, _, _, _, _, hl => by simp at hl

/-! ### The loop -/
def rfAt (m : M) : Option (FuncId × List AV) :=
  match m.ks with
  | .code (.rangeFunc g _ _ _) :: _ => match ev m.st.fr g with
    | .fn f caps => if noMark m.st.hp then some (f, caps) else none
    | _ => none
  | _ => none

def recM (D : Nat) (us : List Value) (m : M) : AObj :=
  match m.ks with
  | .code (.rangeFunc _ ps asg bd) :: _ => .inert (.lrec D .ready us ps asg bd)
  | _ => .dead

def afterM (j : Option Code) (m : M) (fr : List AV) (hp : List AObj) : M :=
  match m.ks with
  | .code (.rangeFunc _ _ _ _) :: ks => match j with
    | none => ⟨ks, ⟨fr, hp⟩⟩
    | some c => ⟨.code c :: ks, ⟨fr, hp⟩⟩
  | _ => m

/-- Behind the function that was ranged over: its caller goes on, or leaves by the jump of a round. -/
def rangeQ (P : Program) (fn : Func) (m : M) (n D : Nat) (us : List Value) (Q : Exit → St → Prop) : Exit → St → Prop := fun e st' =>
  (e = .normal ∨ e = .ret) ∧ ∃ res fr' s, resIn P fn st' = some res ∧ frameAt n st' = some (us, fr') ∧ lstAt (n + 1) st'.hp = some (D, s) ∧
    (match s with
     | .busy => False
     | s => Runs none P (afterM s.pend m fr' (setM (n + 1) (st'.hp.set n .dead))) Q)

section
variable {P : Program} {m : M} {Q : Exit → St → Prop}

theorem oneInert_dead : ∀ {hp : List AObj} (n : Nat), oneInert hp = true → oneInert (hp.set n .dead) = true
  | [], n, h => by simpa using h
  | o :: hp, 0, h => by
    unfold oneInert at h
    simp only [List.set_cons_zero, oneInert, isInert, Bool.false_eq_true, if_false]
    split at h
    · rename_i ho
      clear ho
      induction hp with
      | nil => rfl
      | cons o hp ih =>
        simp only [List.all_cons, Bool.and_eq_true] at h
        simp only [oneInert]
        rw [if_neg (by simpa using h.1)]
        exact ih h.2
    · exact h
  | o :: hp, n + 1, h => by
    unfold oneInert at h
    simp only [List.set_cons_succ, oneInert]
    split at h
    · rename_i ho
      rw [if_pos ho, List.all_eq_true]
      intro o' ho'
      rcases List.mem_or_eq_of_mem_set ho' with h1 | rfl
      · exact List.all_eq_true.1 h o' h1
      · rfl
    · rename_i ho
      rw [if_neg ho]
      exact oneInert_dead n h

theorem R.range {f : FuncId} {fn : Func} {c : Code} {caps : List AV} (hf : P.funcs[f]? = some fn) (hb : fn.body = some c) (hnm : (fn.name == "runtime.NumGoroutine") = false) (h : rfAt m = some (f, caps))
    (h' : ∀ (D : Nat) (us : List Value), Runs none P ⟨[.code c], ⟨frameOf fn.ntmps (.ref (m.st.hp.length + 1) :: caps), m.st.hp ++ [.frame us m.st.fr] ++ [recM D us m]⟩⟩ (rangeQ P fn m m.st.hp.length D us Q)) : Runs none P m Q := by
  have hen := enters_of hf hnm (by rw [hb]; rfl)
  obtain ⟨ks, ⟨fr, hp⟩⟩ := m
  unfold rfAt at h
  simp only at h
  rw [runs_iff]
  split at h
  · rename_i g ps asg bd ks'
    split at h
    · rename_i f' caps' hg
      split at h
      · rename_i hnmk
        cases h
        simp only [recM] at h'
        simp only [RunsK]
        intro Z0 w0 a w hS
        obtain ⟨μ, F, hFb, hH, hF, hd, hbel⟩ := hS
        have hd0 := hd.none hnmk
        refine wpIn_rangeFunc ?_
        intro fnid _
        have hgv := hg ▸ ev_rel hF g
        simp only [Rel] at hgv
        obtain ⟨cv, hgv, hcr⟩ := hgv
        obtain ⟨rec, hrec⟩ : ∃ rec : Loop, rec = { state := .ready, pending := none, fn := fnid, tmps := a.tmps, params := ps, assign := asg, body := bd, defers := w.heap.size } := ⟨_, rfl⟩
        obtain ⟨W1, hW1⟩ : ∃ W1, (w.alloc (.deferred (some []))).alloc (.loop rec) = W1 := ⟨_, rfl⟩
        have hL1 : W1.heap[w.heap.size + 1]? = some (.loop rec) := by
          rw [← hW1]; have := World.alloc_heap_new (w.alloc (.deferred (some []))) (.loop rec); rwa [World.size_alloc] at this
        have hK1 : W1.heap[w.heap.size]? = some (.deferred (some [])) := by
          rw [← hW1]; exact (Below.heap_alloc _ _ _ (by simp)).trans (World.alloc_heap_new w _)
        have hsz : W1.heap.size = w.heap.size + 2 := by rw [← hW1]; simp
        have hb1 : Below w.heap.size w W1 := by
          rw [← hW1]; exact ((Below.refl _ w).alloc (Nat.le_refl _) _).alloc (by simp) _
        refine ⟨w.heap.size + 1, [{ target := .collected w.heap.size, args := #[] }], W1, { target := .fn (.func f) cv.toArray, args := #[.func (.yield (w.heap.size + 1)) #[] #[]] }, W1, f,
          #[.func (.yield (w.heap.size + 1)) #[] #[]] ++ cv.toArray, W1, ?_, ?_, fun _ _ => trivial, ?_, fun hd => absurd hd (by simp [Fc, Fence.wide]), ?_⟩
        · rw [← hW1, hrec]; exact run_enterLoop_outer _ _ _ _ _
        · simp only [resolve, hgv]
          simp [go_sem]
        · simp [invoke, go_sem, hen _ W1]
        · -- the function that is ranged over
          have hrun := h' w.heap.size a.tmps.toList
          simp only [runs_iff, RunsK] at hrun
          have hFb2 : ∀ b, (F b ∨ b = w.heap.size ∨ b = w.heap.size + 1) → w0.heap.size ≤ b ∧ b < W1.heap.size := fun b hb => by
            have hB := hbel.size
            rcases hb with hb | rfl | rfl
            · have := hFb b hb; omega
            · omega
            · omega
          have hz : ∀ b, b < w.heap.size → ¬ Zone Z0 F w0.heap.size b → ¬ Zone Z0 (fun b => F b ∨ b = w.heap.size ∨ b = w.heap.size + 1) w0.heap.size b := fun b _ hb => zone_more (F' := fun b => b = w.heap.size ∨ b = w.heap.size + 1) b hb
          have hzz : ∀ b, b < w.heap.size → Zone Z0 F w0.heap.size b → Zone Z0 (fun b => F b ∨ b = w.heap.size ∨ b = w.heap.size + 1) w0.heap.size b := fun b hb h => h.elim .inl fun h2 => .inr ⟨h2.1, fun hf => hf.elim h2.2 (fun h3 => by omega)⟩
          have hnz : ∀ b, w.heap.size ≤ b → b ≤ w.heap.size + 1 → ¬ Zone Z0 (fun b => F b ∨ b = w.heap.size ∨ b = w.heap.size + 1) w0.heap.size b := fun b h1 h2 h => by
            have hB := hbel.size
            rcases h with h | h
            · omega
            · exact h.2 (.inr (by omega))
          have hH1 := (hH.weak hz hzz).extend0 (u := .bool false) (o := .frame a.tmps.toList fr) (Below.refl _ _) (RelL.keep (w := w) (fun _ _ _ => rfl) (fun i u hu => append_old i u hu) (hF.weak hz)) rfl rfl
          have hH2 := hH1.extend0 (u := .func (.yield (w.heap.size + 1)) #[] #[]) (o := .inert (.lrec w.heap.size .ready a.tmps.toList ps asg bd)) hb1
            ⟨fnid, rfl, ⟨⟨hbel.size, hnz _ (Nat.le_refl _) (by omega)⟩, hK1⟩, hnz _ (by omega) (Nat.le_refl _), by rw [hL1, hrec]; rfl⟩ rfl rfl
          have hlen := hcr.length
          have hkeep : ∀ {cs : List AV} {vs : List Value}, RelL w (Zone Z0 F w0.heap.size) μ cs vs → RelL W1 (Zone Z0 (fun b => F b ∨ b = w.heap.size ∨ b = w.heap.size + 1) w0.heap.size) (μ ++ [.bool false] ++ [.func (.yield (w.heap.size + 1)) #[] #[]]) cs vs := fun h =>
            RelL.keep (w := w) (fun b hb _ => hb1.block b hb) (fun i u hu => append_old i u (append_old i u hu)) (h.weak hz)
          have hS2 : Sim Z0 w0 ⟨frameOf fn.ntmps (.ref (hp.length + 1) :: caps), hp ++ [.frame a.tmps.toList fr] ++ [.inert (.lrec w.heap.size .ready a.tmps.toList ps asg bd)]⟩
              { tmps := (#[Value.func (.yield (w.heap.size + 1)) #[] #[]] ++ cv.toArray) ++ Array.replicate (fn.ntmps - (#[Value.func (.yield (w.heap.size + 1)) #[] #[]] ++ cv.toArray).size) undef, defers := [] } W1 := by
            refine ⟨_, _, hFb2, hH2, ?_, .inl rfl, hbel.trans (hb1.mono hbel.size)⟩
            have hall : RelL W1 (Zone Z0 (fun b => F b ∨ b = w.heap.size ∨ b = w.heap.size + 1) w0.heap.size) (μ ++ [.bool false] ++ [.func (.yield (w.heap.size + 1)) #[] #[]]) (.ref (hp.length + 1) :: caps) (.func (.yield (w.heap.size + 1)) #[] #[] :: cv) := by
              refine RelL.cons ?_ (hkeep hcr)
              simp only [Rel]
              rw [← hH.len]
              simp
            have e1 : (#[Value.func (.yield (w.heap.size + 1)) #[] #[]] ++ cv.toArray) = (Value.func (.yield (w.heap.size + 1)) #[] #[] :: cv).toArray := by simp
            rw [e1]
            have hl2 := hall.length
            simp only [Array.toList_append, Array.toList_replicate, List.size_toArray, hl2, frameOf]
            refine RelL.append hall ?_
            generalize fn.ntmps - (AV.ref (hp.length + 1) :: caps).length = n
            induction n with
            | zero => exact RelL.nil
            | succ n ih => exact RelL.cons (by simp [Rel]) ih
          refine callsIn_of_wp (F := Fc none) (n := 0 - 1) hf hb trivial (wpIn_mono (hrun Z0 w0 _ W1 hS2) ?_)
          have fin : ∀ (e : Exit) (st' : St) (a' : Act) (w' : World), rangeQ P fn ⟨.code (.rangeFunc g ps asg bd) :: ks', ⟨fr, hp⟩⟩ hp.length w.heap.size a.tmps.toList Q e st' → Sim Z0 w0 st' a' w' → a'.defers = [] ∧ ∃ v, (results fn a'.tmps).run P w' = .ok v w' ∧
              rangePost (Fc none) 0 P (w.heap.size + 1) (fun e a' w' => ∃ st', RunsK none P Q ks' e st' ∧ Sim Z0 w0 st' a' w') { a with defers := [{ target := .collected w.heap.size, args := #[] }] ++ a.defers } (.returned v) w' := by
            rintro e st' a' w' ⟨_, res, fr', s, hres, hfr, hls, hgo⟩ ⟨μ', F', hFb', hH', hF', hd', hbel'⟩
            obtain ⟨x, h1, h2⟩ := resIn_run hH' hF' hres
            obtain ⟨⟨us', ps', asg', bd', hi⟩, hone⟩ := lstAt_parts hls
            refine ⟨hd'.none (resIn_mark hres), x, h1, ?_⟩
            unfold frameAt at hfr
            split at hfr
            · rename_i us2 fr2 hi2
              cases hfr
              have hil : hp.length < μ'.length := by rw [hH'.len]; exact (List.getElem?_eq_some_iff.1 hi2).1
              have hfrr : RelL w' (Zone Z0 F' w0.heap.size) μ' fr' a.tmps.toList := hH'.obj _ _ _ hi2 (List.getElem?_eq_getElem hil)
              have hi3 : (st'.hp.set hp.length .dead)[hp.length + 1]? = some (.inert (.lrec w.heap.size s us' ps' asg' bd')) := by
                rw [List.getElem?_set_ne (by omega)]; exact hi
              obtain ⟨r, hr1, hr2, hr3, _, _, _, _, hBD, hD, hμ, _, hM⟩ := (hH'.bury hp.length).turnL (oneInert_dead _ hone) hi3
              have hend := run_endLoop (P := P) hr1
              have hsim : Sim Z0 w0 ⟨fr', setM (hp.length + 1) (st'.hp.set hp.length .dead)⟩ { a with defers := [{ target := .collected w.heap.size, args := #[] }] ++ a.defers } (w'.putObj (w.heap.size + 1) (.loop { r with state := .exhausted })) := by
                refine ⟨μ', F', fun b hb => by rw [World.putObj_size]; exact hFb' b hb, hM _, hfrr.cells (putObj_cells hr1 rfl), .inr ⟨hp.length + 1, w.heap.size, _, ?_, hμ, by rw [hd0]; rfl⟩, ?_⟩
                · unfold setM
                  rw [hi3]
                  simp only [Inert.over]
                  rw [List.getElem?_set_self]
                  have := (List.getElem?_eq_some_iff.1 hi3).1
                  exact this
                · exact hbel'.grown (grownBy_putObj' w' _ _) hbel'.size (fun k e => by cases e; omega)
              cases s with
              | ready =>
                refine ⟨none, w'.putObj (w.heap.size + 1) (.loop { r with state := .exhausted }), (hend (by rw [hr2]; simp [LSt.state])).trans (congrArg (fun x => Result.ok x _) hr3), ?_⟩
                simp only [runs_iff, afterM, LSt.pend] at hgo
                exact ⟨_, hgo, hsim⟩
              | busy => exact hgo.elim
              | done c =>
                refine ⟨some c, w'.putObj (w.heap.size + 1) (.loop { r with state := .exhausted }), (hend (by rw [hr2]; simp [LSt.state])).trans (congrArg (fun x => Result.ok x _) hr3), ?_⟩
                simp only [runs_iff, afterM, LSt.pend, RunsK] at hgo
                exact hgo Z0 w0 _ _ hsim
            · cases hfr
          rintro e a' w' ⟨st', hq, hS'⟩
          cases e with
          | normal => exact fin _ st' a' w' hq hS'
          | ret => exact fin _ st' a' w' hq hS'
          | exit id => exact absurd hq.1 (by simp)
          | goto l => exact absurd hq.1 (by simp)
          | panic ch => exact absurd hq.1 (by simp)
          | outgrown => exact absurd hq.1 (by simp)
      · cases h
    · cases h
  · cases h

/-! ### Rounds -/
/-- The head calls yield: the record's object, its D, the values us of the caller's frame (by the record, by the frame), the caller's frame with the loop's variables set. -/
def ylAt (m : M) : Option (Nat × Nat × List Value × List Value) :=
  match opM m with
  | some (.call c) => match c.callee with
    | .value f => match ev m.st.fr f with
      | .ref i => match m.st.hp[i]?, m.st.hp[i - 1]? with
        | some (.inert (.lrec D .ready us ps _ _)), some (.frame us' _) => if noMark m.st.hp && oneInert m.st.hp && decide (ps.size = c.args.size) then some (i, D, us, us') else none
        | _, _ => none
      | _ => none
    | _ => none
  | _ => none

def ylF (m : M) : List AV :=
  match opM m with
  | some (.call c) => match c.callee with
    | .value f => match ev m.st.fr f with
      | .ref i => match m.st.hp[i]?, m.st.hp[i - 1]? with
        | some (.inert (.lrec _ _ _ ps _ _)), some (.frame _ fr) => setPs ps.toList (c.args.toList.map (ev m.st.fr)) fr
        | _, _ => []
      | _ => []
    | _ => []
  | _ => []

def ylC (m : M) : Code × Code :=
  match opM m with
  | some (.call c) => match c.callee with
    | .value f => match ev m.st.fr f with
      | .ref i => match m.st.hp[i]? with
        | some (.inert (.lrec _ _ _ _ asg bd)) => (asg, bd)
        | _ => (.skip, .skip)
      | _ => (.skip, .skip)
    | _ => (.skip, .skip)
  | _ => (.skip, .skip)

/-- Behind the assignments to the loop's variables the record is busy and the body runs. -/
def beginQ (l : Nat) (P : Program) (i D : Nat) (bd : Code) (Q : Exit → St → Prop) : Exit → St → Prop := fun e st' =>
  e = .normal ∧ lstAt i st'.hp = some (D, .ready) ∧ Runs (some l) P ⟨[.code bd], ⟨st'.fr, setL i .busy st'.hp⟩⟩ Q

/-- Behind a round yield's caller goes on. -/
def roundQ (P : Program) (m : M) (i D n : Nat) (us : List Value) (Q : Exit → St → Prop) : Exit → St → Prop := fun e st' =>
  ∃ fr', frameAt n st' = some (us, fr') ∧ lstAt i st'.hp = some (D, .busy) ∧
    match e with
    | .normal => Runs none P (backM m fr' (.bool true) (setL i .ready (st'.hp.set n .dead))) Q
    | .ret => Runs none P (backM m fr' (.bool false) (setL i (.done .ret) (st'.hp.set n .dead))) Q
    | .exit id => Runs none P (backM m fr' (.bool false) (setL i (.done (.exit id)) (st'.hp.set n .dead))) Q
    | _ => False

theorem R.yield (i D : Nat) (us : List Value) (h : ylAt m = some (i, D, us, us)) (ho : opsAt m = true)
    (h' : ∀ (l : Nat) (us' : List Value), Runs (some l) P ⟨[.code (ylC m).1], ⟨ylF m, m.st.hp ++ [.frame us' m.st.fr]⟩⟩ (beginQ l P i D (ylC m).2 (roundQ P m i D m.st.hp.length us' Q))) : Runs none P m Q := by
  obtain ⟨ks, ⟨fr, hp⟩⟩ := m
  unfold ylAt at h
  unfold ylF ylC at h'
  unfold opM headOf at h h'
  unfold opsAt at ho
  simp only at h ho h'
  rw [runs_iff]
  split at ho
  · rename_i all o lst fl ks'
    simp only at h h'
    split at h
    · rename_i c hop
      split at hop
      · rename_i hw
        simp only [Option.some.injEq] at hop
        simp only [hw, if_true, hop] at h'
        split at h
        · rename_i fo hcal
          simp only [hcal] at h'
          split at h
          · rename_i i0 hev
            simp only [hev] at h'
            split at h
            · rename_i D0 us0 ps asg bd us1 cfr hi0 hi1
              simp only [hi0, hi1] at h'
              split at h
              · rename_i hc
                simp only [Bool.and_eq_true, decide_eq_true_eq] at hc
                obtain ⟨⟨hnmk, hone⟩, hps⟩ := hc
                simp only [Option.some.injEq, Prod.mk.injEq] at h
                obtain ⟨rfl, rfl, rfl, rfl⟩ := h
                simp only [RunsK]
                intro hW
                have hwant := wantH_true hw hW
                intro Z0 w0 a w hS
                obtain ⟨μ, F, hFb, hH, hF, hd, hbel⟩ := hS
                have hd0 := hd.none hnmk
                refine wpListIn_step fun K hK => ?_
                rw [wanted_rel hF hwant, if_pos rfl]
                have hE : ∀ y, Rel w (Zone Z0 F w0.heap.size) μ (ev fr y) (a.eval y) := fun y => ev_rel hF y
                have hcv := hev ▸ hE fo
                simp only [Rel] at hcv
                obtain ⟨r, hr1, hr2, hr3, hr4, hr5, hr6, hr7, hBD, hD, hμ, hL, _⟩ := hH.turnL hone hi0
                rw [hμ] at hcv
                have hcv : a.eval fo = .func (.yield (D0 + 1)) #[] #[] := (Option.some.inj hcv).symm
                have hargs' : RelL w (Zone Z0 F w0.heap.size) μ (c.args.toList.map (ev fr)) (c.args.toList.map a.eval) := by
                  generalize c.args.toList = l
                  induction l with
                  | nil => exact RelL.nil
                  | cons x l ih => exact RelL.cons (hE x) ih
                have hrun : (execOp a.eval o).run P w = .ok (.round (D0 + 1) r.fn ((ps.zip (c.args.map a.eval)).foldl (fun tmps (x : Tmp × Value) => tmps.setIfInBounds x.1 x.2) us1.toArray) asg bd) w := by
                  have hy := run_yield (P := P) (args := c.args.map a.eval) hr1 (by rw [hr5, Array.size_map]; exact hps.symm)
                  rw [hr4, hr5, hr6, hr7] at hy
                  obtain ⟨callee, cargs, tys⟩ := c
                  simp only at hcal hy
                  subst hcal
                  simp only [execOp, hop, resolve, Deferred.ofValue, hcv, Sem.run_bind, Sem.run_pure, Result.andThen_ok, invoke, Array.empty_append, Array.append_empty]
                  exact hy
                refine wpIn_of_run (fun c' => by rw [hop]; simp) ?_
                rw [hrun, Oper.uponIn_round]
                refine ⟨fun hd => absurd hd (by simp [Fc, Fence.wide]), ?_⟩
                refine roundIn_of_wpIn (F := Fc none) trivial ?_
                have hrun2 := h' (D0 + 1) a.tmps.toList
                simp only [runs_iff, RunsK] at hrun2
                have hil : i0 - 1 < μ.length := by rw [hH.len]; exact (List.getElem?_eq_some_iff.1 hi1).1
                have hcfr : RelL w (Zone Z0 F w0.heap.size) μ cfr us1 := hH.obj _ _ _ hi1 (List.getElem?_eq_getElem hil)
                have hS2 : Sim Z0 w0 ⟨setPs ps.toList (c.args.toList.map (ev fr)) cfr, hp ++ [.frame a.tmps.toList fr]⟩ { tmps := (ps.zip (c.args.map a.eval)).foldl (fun tmps (x : Tmp × Value) => tmps.setIfInBounds x.1 x.2) us1.toArray, defers := [] } w := by
                  refine ⟨μ ++ [.bool false], F, hFb, hH.extend0 (Below.refl _ _) (RelL.keep (w := w) (fun _ _ _ => rfl) (fun i u hu => append_old i u hu) hF) rfl rfl, ?_, .inl rfl, hbel⟩
                  have := setPs_rel (ps := ps.toList) (tmps := us1.toArray) hargs' hcfr (by simpa using hps)
                  refine RelL.keep (w := w) (fun _ _ _ => rfl) (fun i u hu => append_old i u hu) ?_
                  rw [← Array.foldl_toList, Array.toList_zip, Array.toList_map]
                  exact this
                refine wpIn_mono (hrun2 Z0 w0 _ w hS2) ?_
                rintro e a1 w1 ⟨st1, ⟨rfl, hls, hgo⟩, hS1⟩
                obtain ⟨⟨us2, ps2, as2, bd2, hj⟩, hone1⟩ := lstAt_parts hls
                obtain ⟨μ1, F1, hFb1, hH1, hF1, hd1, hbel1⟩ := hS1
                obtain ⟨r1, k1, k2, k3, k4, k5, k6, k7, kB, kD, kμ, kL, _⟩ := hH1.turnL hone1 hj
                refine ⟨_, run_beginRound k1 (by rw [k2]; rfl), ?_⟩
                have hbusy : ({ r1 with state := .busy } : Loop) = { r1 with state := LSt.busy.state, pending := LSt.busy.pend } := by
                  rw [show LSt.busy.pend = r1.pending from k3.symm]; rfl
                have keepD : ∀ {hp' : List AObj} {μ' : List Value} {ds : List Deferred} (s : LSt), Defs μ' hp' ds → noMark hp' = true → Defs μ' (setL i0 s hp') ds := fun s h hn => .inl (h.none hn)
                have hS3 : Sim Z0 w0 ⟨st1.fr, setL i0 .busy st1.hp⟩ a1 (w1.putObj (D0 + 1) (.loop { r1 with state := .busy })) := by
                  refine ⟨μ1, F1, fun b hb => by rw [World.putObj_size]; exact hFb1 b hb, by rw [hbusy]; exact kL .busy, hF1.cells (putObj_cells k1 rfl), ?_, hbel1.grown (grownBy_putObj' w1 _ _) hbel1.size (fun k e => by cases e; omega)⟩
                  rcases hd1 with hd1 | ⟨i', D', u', e1, _, _⟩
                  · exact .inl hd1
                  · exfalso
                    have := oneInert_at hone1 hj _ _ e1
                    subst this
                    rw [hj] at e1
                    cases e1
                simp only [runs_iff, RunsK] at hgo
                refine wpIn_mono (hgo Z0 w0 _ _ hS3) ?_
                have fin : ∀ (s : LSt) (j : Option Code) (b : Bool) (st2 : St) (a2 : Act) (w2 : World) (fr2 : List AV), s.pend = j → s.state = (if j.isNone then LoopState.ready else LoopState.done) → b = j.isNone → frameAt hp.length st2 = some (a.tmps.toList, fr2) → lstAt i0 st2.hp = some (D0, .busy) → Sim Z0 w0 st2 a2 w2 →
                    Runs none P (backM ⟨.ops all (o :: lst) fl :: ks', ⟨fr, hp⟩⟩ fr2 (.bool b) (setL i0 s (st2.hp.set hp.length .dead))) Q → ∃ v w3, (Instr.endRound (D0 + 1) j).run P w2 = .ok v w3 ∧ K (a.put o.dst v) w3 := by
                  rintro s j b st2 a2 w2 fr2 rfl hst rfl hfr hls2 ⟨μ2, F2, hFb2, hH2, hF2, hd2, hbel2⟩ hgo2
                  obtain ⟨⟨us3, ps3, as3, bd3, hj3⟩, hone2⟩ := lstAt_parts hls2
                  unfold frameAt at hfr
                  split at hfr
                  · rename_i us4 fr4 hi4
                    cases hfr
                    have hne : hp.length ≠ i0 := by
                      intro e
                      rw [e, hj3] at hi4
                      cases hi4
                    have hj4 : (st2.hp.set hp.length .dead)[i0]? = some (.inert (.lrec D0 .busy us3 ps3 as3 bd3)) := by
                      rw [List.getElem?_set_ne hne]; exact hj3
                    obtain ⟨r2, q1, q2, q3, _, _, _, _, qB, _, _, qL, _⟩ := (hH2.bury hp.length).turnL (oneInert_dead _ hone2) hj4
                    refine ⟨_, _, run_endRound _ q1, hK _ _ ?_⟩
                    have hil2 : hp.length < μ2.length := by rw [hH2.len]; exact (List.getElem?_eq_some_iff.1 hi4).1
                    have hfrr : RelL w2 (Zone Z0 F2 w0.heap.size) μ2 fr2 a.tmps.toList := hH2.obj _ _ _ hi4 (List.getElem?_eq_getElem hil2)
                    simp only [runs_iff, backM, RunsK] at hgo2
                    refine hgo2 headW_false Z0 w0 _ _ ⟨μ2, F2, fun b hb => by rw [World.putObj_size]; exact hFb2 b hb, ?_, put_rel (hfrr.cells (putObj_cells q1 rfl)) _ (by simp [Rel]), by rw [put_defers']; exact .inl hd0, hbel2.grown (grownBy_putObj' w2 _ _) hbel2.size (fun k e => by cases e; omega)⟩
                    rw [← hst]
                    exact qL s
                  · cases hfr
                rintro e a2 w2 ⟨st2, ⟨fr2, hfr, hls2, hgo2⟩, hS4⟩
                cases e with
                | normal => exact fin .ready none true st2 a2 w2 fr2 rfl rfl rfl hfr hls2 hS4 hgo2
                | ret => exact fin (.done .ret) (some .ret) false st2 a2 w2 fr2 rfl rfl rfl hfr hls2 hS4 hgo2
                | exit id => exact fin (.done (.exit id)) (some (.exit id)) false st2 a2 w2 fr2 rfl rfl rfl hfr hls2 hS4 hgo2
                | goto l => exact hgo2.elim
                | panic ch => exact hgo2.elim
                | outgrown => exact hgo2.elim
              · cases h
            · cases h
          · cases h
        · cases h
      · cases hop
    · cases h
  · cases ho

theorem R.begin {l i D : Nat} {bd : Code} (h : m.ks = []) (hl : lstAt i m.st.hp = some (D, .ready)) (h' : Runs (some l) P ⟨[.code bd], ⟨m.st.fr, setL i .busy m.st.hp⟩⟩ Q) : Runs (some l) P m (beginQ l P i D bd Q) := by
  obtain ⟨ks, st⟩ := m
  simp only at h hl h'
  subst h
  rw [runs_iff]
  exact ⟨rfl, hl, h'⟩

/-- A round ends; the loop goes on. -/
theorem R.round {l i D n : Nat} {m0 : M} {us : List Value} (fr' : List AV) (h : m.ks = []) (hf : frameAt n m.st = some (us, fr')) (hl : lstAt i m.st.hp = some (D, .busy))
    (h' : Runs none P (backM m0 fr' (.bool true) (setL i .ready (m.st.hp.set n .dead))) Q) : Runs (some l) P m (roundQ P m0 i D n us Q) := by
  obtain ⟨ks, st⟩ := m
  simp only at h hl h' hf
  subst h
  rw [runs_iff]
  exact ⟨fr', hf, hl, h'⟩

/-- The function that was ranged over ends, all rounds having gone on. -/
theorem R.over {fn : Func} {n D : Nat} {us : List Value} {m0 : M} (res : AV) (fr' : List AV) (h : (edAt m).isSome = true) (hr : resIn P fn m.st = some res) (hf : frameAt n m.st = some (us, fr')) (hl : lstAt (n + 1) m.st.hp = some (D, .ready))
    (h' : Runs none P (afterM none m0 fr' (setM (n + 1) (m.st.hp.set n .dead))) Q) : Runs none P m (rangeQ P fn m0 n D us Q) :=
  R.fin h ⟨.inl rfl, res, fr', .ready, hr, hf, hl, h'⟩ ⟨.inr rfl, res, fr', .ready, hr, hf, hl, h'⟩

/-- .. a round having left by the jump c. -/
theorem R.left {fn : Func} {n D : Nat} {us : List Value} {m0 : M} (c : Code) (res : AV) (fr' : List AV) (h : (edAt m).isSome = true) (hr : resIn P fn m.st = some res) (hf : frameAt n m.st = some (us, fr')) (hl : lstAt (n + 1) m.st.hp = some (D, .done c))
    (h' : Runs none P (afterM (some c) m0 fr' (setM (n + 1) (m.st.hp.set n .dead))) Q) : Runs none P m (rangeQ P fn m0 n D us Q) :=
  R.fin h ⟨.inl rfl, res, fr', .done c, hr, hf, hl, h'⟩ ⟨.inr rfl, res, fr', .done c, hr, hf, hl, h'⟩

end

end Go.Abs


/-! The machine's rules: slices without spare room; ways that meet again. -/
namespace Go.Abs
open Go.RowKit Go.ChangeShapes Go.WideShapes Go.Deep

section
variable {rd : Option Nat} {P : Program} {m : M} {Q : Exit → St → Prop} {α : Type}

/-! ### Rows of slices, all nil at first -/
/-! ### A part of a tuple that may come first -/
def exM (i : Nat) (v : AV) (m : M) : M :=
  match m.ks with
  | .any ops listed n :: ks => match ops[i]? with
    | some o => ⟨.any ops (listed.setIfInBounds i true) (n - 1) :: ks, ⟨putF m.st.fr o.dst v, m.st.hp⟩⟩
    | none => m
  | _ => m

/-! ### Ways that meet again -/
def meetQ (S : St) : Exit → St → Prop := fun e st => e = .normal ∧ st = S
def mtAt (m : M) : Bool :=
  match m.ks with
  | .code _ :: _ => true
  | _ => false

theorem R.meet (S : St) (h : mtAt m = true) (h1 : Runs rd P ⟨m.ks.take 1, m.st⟩ (meetQ S)) (h2 : Runs rd P ⟨m.ks.tail, S⟩ Q) : Runs rd P m Q := by
  obtain ⟨ks, st⟩ := m
  unfold mtAt at h
  simp only [runs_iff] at h h1 h2 ⊢
  split at h
  · rename_i c ks'
    simp only [List.take_succ_cons, List.take_zero, List.tail_cons, RunsK] at h1 h2 ⊢
    refine h1.mono ?_
    rintro e st' ⟨rfl, rfl⟩
    exact h2
  · cases h

end

/-! ### Rows of rows of pairs, handed to a law -/
section
variable {H : Type} {enc : TypeId × Value → H} {P : Program} {w : World} {base : Nat} {spare : Nat → Bool} {held : Bool}

end

end Go.Abs


/-! The machine's rules: the end of a row is cleared. -/
namespace Go.Abs
open Go.RowKit

theorem set_self {α : Type} {xs : List α} {i : Nat} {x : α} (h : xs[i]? = some x) : xs.set i x = xs := by
  apply List.ext_getElem?
  intro j
  by_cases e : i = j
  · subst e
    rw [List.getElem?_set_self (List.getElem?_eq_some_iff.1 h).1, h]
  · rw [List.getElem?_set_ne e]

section
variable {rd : Option Nat} {P : Program} {Q : Exit → St → Prop}

/-- The slice of a row of one's own from l on is laid into d, and cleared. -/
theorem OpsQ.clr {all : Array Oper} {o1 o2 : Oper} {rest : List Oper} {fr : List AV} {hp : List AObj} {R : Exit → St → Prop} {t d i el s n by_ l : Nat} {k : IntKind} {x lo : Operand} {cs zs : List AV}
    (g1 : o1.guard = none) (p1 : o1.op = .slice t x (some lo) none none) (d1 : o1.dst = some d) (g2 : o2.guard = none) (p2 : o2.op = .call { callee := .builtin .clear, args := #[.tmp d], argTypes := #[t] })
    (hx : ev fr x = .ref i) (hlo : ev fr lo = .int k l) (hr : rowB P t = some (el, s, zs, by_)) (hi : hp[i]? = some (.list el s n cs)) (hl : l ≤ n) (hd : d < fr.length)
    (h1 : ∀ c ∈ zerosA zs s (n - l), c.one = true) (h2 : leafyL (zerosA zs s (n - l)) = true)
    (h' : OpsQ rd P all rest ⟨putF (putF fr (some d) .top) o2.dst (.tup []), hp.set i (.list el s n (setMany cs (l * s) (zerosA zs s (n - l))))⟩ R) :
    OpsQ rd P all (o1 :: o2 :: rest) ⟨fr, hp⟩ R := by
  intro Z0 w0 a w hS
  obtain ⟨μ, F, hFb, hH, hF, hdf, hb⟩ := hS
  have hB := hb.size
  have hZn := zone_new (Z0 := Z0) hB hFb
  obtain ⟨info, z, hu, hinf, hz, rfl, rfl, hzs, hs0, rfl⟩ := row_parts hr
  have hxv := hx ▸ ev_rel hF x
  simp only [Rel] at hxv
  have hlv := rel_int (hlo ▸ ev_rel hF lo)
  have hsize : d < a.tmps.size := by
    have : a.tmps.size = fr.length := by simpa using hF.length
    omega
  have hel : elemB P t = some (el, info.size) := by
    unfold elemB
    rw [hu]
    simp [hinf]
  obtain ⟨xs, hown, hrx⟩ := hH.obj i _ _ hi hxv
  have hlen := hrx.length
  have hcl := hown.1
  -- what a state behind the clearing needs
  have main : ∀ v, (Instr.sliceAt t (a.eval x) (some (.int k l)) none none).run P w = .ok v w →
      (∃ w', (Builtin.clear_ #[t] o2.type #[v]).run P w = .ok (.tuple #[]) w' ∧ HRel w' (Zone Z0 F w0.heap.size) w0.heap.size μ (hp.set i (.list el info.size n (setMany cs (l * info.size) (zerosA (z.cells.toList.map ofConst) info.size (n - l))))) ∧
        Below w0.heap.size w w' ∧ (∀ b, b < w.heap.size → ¬ Zone Z0 F w0.heap.size b → w'.heap[b]? = w.heap[b]?) ∧ w.heap.size ≤ w'.heap.size) →
      wpListIn (Fc rd) 0 P all (fun e a' w' => ∃ st', R e st' ∧ Sim Z0 w0 st' a' w') (o1 :: o2 :: rest) a w := by
    rintro v hv ⟨w', hc, hH', hbel, hk, hsz⟩
    refine wpListIn_plain g1 fun K1 hK1 => ?_
    refine wpIn_of_run (fun c h => by rw [p1] at h; cases h) ?_
    have e1 : (execOp a.eval o1).run P w = .ok (.value v) w := by
      simp only [execOp, p1, hlv, Option.map_some, Option.map_none, Sem.run_bind, hv, Result.andThen_ok, Sem.run_pure]
    rw [e1]
    refine hK1 _ _ ?_
    refine wpListIn_plain g2 fun K2 hK2 => ?_
    refine wpIn_of_run (fun c h => by rw [p2] at h; cases h) ?_
    have ed : (a.put o1.dst v).eval (.tmp d) = v := by
      rw [d1]
      simp [Act.put, Act.eval, hsize]
    have e2 : (execOp (a.put o1.dst v).eval o2).run P w = .ok (.value (.tuple #[])) w' := by
      simp only [execOp, p2, resolve, List.map_toArray, List.map_cons, List.map_nil, ed, Sem.run_bind, Sem.run_pure, Result.andThen_ok, invoke, builtin, hc]
    rw [e2]
    refine hK2 _ _ (h' Z0 w0 _ _ ⟨μ, F, fun b h => ⟨(hFb b h).1, Nat.lt_of_lt_of_le (hFb b h).2 hsz⟩, hH', ?_, ?_, hb.trans hbel⟩)
    · refine put_rel ?_ _ (by simp only [Rel]; exact ⟨[], rfl, RelL.nil⟩)
      rw [← d1]
      exact put_rel (hF.keep hk (fun _ _ h => h)) _ (by simp [Rel])
    · rw [put_defers', put_defers']
      refine hdf.keep fun j y hj => ⟨?_, fun u hu => hu⟩
      rw [List.getElem?_set_ne (by rintro rfl; rw [hi] at hj; cases hj)]
      exact hj
  have hlz : (zerosA (z.cells.toList.map ofConst) info.size (n - l)).length = (n - l) * info.size := by simp [zerosA]
  have hmul : l * info.size + (n - l) * info.size = n * info.size := by rw [← Nat.add_mul]; congr 1; omega
  have hun : (underlying t).run P w = .ok (.slice el) w := run_underlying hu w
  rcases hown.2 with ⟨hv0, rfl⟩ | ⟨g, cap, cur, hv0, hB2, hg, hnc, hcm, hcs, htk⟩
  · have hl0 : l = 0 := by omega
    subst hl0
    have hb0 := run_sliceAt (P := P) hel none 0 0 (some (.int k ((0 : Nat) : Int))) none none 0 0 0 (fun w => by
      have hbb : (Instr.sliceBound (.int k ((0 : Nat) : Int)) 0 .sliceB).run P w = .ok 0 w := run_bound (P := P) k 0 0 .sliceB (Nat.le_refl _) w
      simp [Instr.sliceBounds] at hbb ⊢; simp [hbb]) w
    rw [hv0] at *
    refine main _ hb0 ⟨w, by simp [Builtin.clear_, run_underlying hu], ?_, Below.refl _ _, fun _ _ _ => rfl, Nat.le_refl _⟩
    have ecs : cs = [] := List.eq_nil_of_length_eq_zero (by rw [← hlen, hcl]; simp)
    have hset : hp.set i (.list el info.size 0 (setMany cs (0 * info.size) (zerosA (z.cells.toList.map ofConst) info.size (0 - 0)))) = hp := by
      rw [ecs]
      have : setMany ([] : List AV) (0 * info.size) (zerosA (z.cells.toList.map ofConst) info.size (0 - 0)) = [] := by simp [setMany, zerosA]
      rw [this, ← ecs]
      exact set_self hi
    rw [hset]
    exact hH
  · rw [hv0] at hxv
    have hb0 := run_sliceAt (P := P) hel (some ⟨g, 0, none⟩) n cap (some (.int k l)) none none l n cap (fun w => by simp [Instr.sliceBounds, run_bound (P := P) k l n _ hl]) w
    rw [← hv0] at hb0
    rcases Nat.lt_or_ge l n with hln | hln
    · have hne : ¬ cap = l := by omega
      rw [if_neg hne] at hb0
      have hadd : (some (⟨g, 0, none⟩ : Addr)).map (·.add (l * info.size)) = some ⟨g, l * info.size, none⟩ := by simp [add_lit']
      refine main _ hb0 ?_
      have hpos : 0 < (n - l) * info.size := Nat.mul_pos (by omega) hs0
      have hval : (Builtin.zeroCells z.cells (n - l)).toList = (List.range ((n - l) * info.size)).map fun j => z.cells[j % info.size]! := by simp [Builtin.zeroCells, hzs]
      have hzr : RelL w (Zone Z0 F w0.heap.size) μ (zerosA (z.cells.toList.map ofConst) info.size (n - l)) (Builtin.zeroCells z.cells (n - l)).toList := by
        rw [hval]
        exact zeros_rel z.cells info.size (n - l) hzs hs0 _ (fun j _ => rfl)
      obtain ⟨w', hst, hH', hbel, hk, hsz⟩ := store_obj (P := P) hH hZn (o := l * info.size) hi hxv (g := g) rfl hzr (ones_rel hH.one h1 hzr) (by simp only [AObj.cells]; rw [hlz, ← hlen, hcl]; omega) (by intro h; rw [h] at hlz; simp at hlz; omega) (by simp [h2])
      refine ⟨w', ?_, hH', hbel, hk, hsz⟩
      have hnl : ∃ q, n - l = q + 1 := ⟨n - l - 1, by omega⟩
      obtain ⟨q, hq⟩ := hnl
      rw [hadd]
      rw [hq] at hst ⊢
      simp [Builtin.clear_, run_underlying hu, zeroValue, typeInfo, hinf, hz, hst]
    · have e : n - l = 0 := by omega
      refine main _ hb0 ⟨w, ?_, ?_, Below.refl _ _, fun _ _ _ => rfl, Nat.le_refl _⟩
      · rw [e]
        by_cases ec : cap = l <;> simp [Builtin.clear_, run_underlying hu, ec]
      · have hset : hp.set i (.list el info.size n (setMany cs (l * info.size) (zerosA (z.cells.toList.map ofConst) info.size (n - l)))) = hp := by
          have : setMany cs (l * info.size) (zerosA (z.cells.toList.map ofConst) info.size (n - l)) = cs := by
            rw [e]
            simp [setMany, zerosA]
          rw [this]
          exact set_self hi
        rw [hset]
        exact hH

def clrAt (P : Program) (m : M) : Option (Nat × Nat × Nat × Nat × List AV × List AV × Int) :=
  match m.ks with
  | .ops _ (o1 :: o2 :: _) _ :: _ => match o1.op, o2.op with
    | .slice t x (some lo) none none, .call c => match c.callee, c.args.toList, c.argTypes.toList with
      | .builtin .clear, [.tmp d], [t'] =>
        if decide (t' = t) && o1.guard.isNone && o2.guard.isNone && decide (o1.dst = some d) && decide (d < m.st.fr.length) then
          match ev m.st.fr x, ev m.st.fr lo, rowB P t with
          | .ref i, .int _ l, some (el, s, zs, _) => match m.st.hp[i]? with
            | some (.list el' s' n cs) => if el' = el ∧ s' = s then some (i, el, s, n, cs, zs, l) else none
            | _ => none
          | _, _, _ => none
        else none
      | _, _, _ => none
    | _, _ => none
  | _ => none

def clrM (m : M) (hp : List AObj) : M :=
  match m.ks with
  | .ops all (o1 :: o2 :: l) _ :: ks => ⟨.ops all l false :: ks, ⟨putF (putF m.st.fr o1.dst .top) o2.dst (.tup []), hp⟩⟩
  | _ => m

theorem setMany_tail {α : Type} {E : α → List AV} (xs : List α) (d : α) {l : Nat} (hE : ∀ x, (E x).length = (E d).length) (h1 : l ≤ xs.length) :
    setMany (rows E xs) (l * (E d).length) (zerosA (E d) (E d).length (xs.length - l)) = rows E (xs.take l ++ List.replicate (xs.length - l) d) := by
  rw [zerosA_rows, rows_append, setMany, rows_take hE, rows_length hE, List.length_replicate]
  have e : l * (E d).length + (xs.length - l) * (E d).length = xs.length * (E d).length := by rw [← Nat.add_mul]; congr 1; omega
  rw [e, List.drop_of_length_le (by rw [rows_length hE]; exact Nat.le_refl _), List.append_nil]

theorem R.clr {α : Type} {m : M} (E : α → List AV) (d : α) (xs : List α) (i el l : Nat) (li : Int) (h : clrAt P m = some (i, el, (E d).length, xs.length, rows E xs, E d, li)) (hl : li = (l : Int)) (hE : ∀ x, (E x).length = (E d).length) (hE1 : ∀ x, (E x).all AV.one = true)
    (hE2 : ∀ x, leafyL (E x) = true) (h1 : l ≤ xs.length) (h' : Runs rd P (clrM m (m.st.hp.set i (.list el (E d).length (xs.take l ++ List.replicate (xs.length - l) d).length (rows E (xs.take l ++ List.replicate (xs.length - l) d))))) Q) : Runs rd P m Q := by
  subst hl
  obtain ⟨ks, ⟨fr, hp⟩⟩ := m
  unfold clrAt at h
  simp only at h
  split at h
  · rename_i all o1 o2 rest f ks'
    split at h
    · rename_i t x lo c hp1 hp2
      obtain ⟨callee, args, tys⟩ := c
      simp only at h
      split at h
      · rename_i d0 t' ha hb
        split at h
        · rename_i hc
          simp only [Bool.and_eq_true, decide_eq_true_eq, Option.isNone_iff_eq_none] at hc
          obtain ⟨⟨⟨⟨rfl, g1⟩, g2⟩, hd1⟩, hd⟩ := hc
          split at h
          · rename_i i0 k0 l0 el0 s0 zs0 b0 hx hlo hr
            split at h
            · rename_i el1 s1 n1 cs1 hi
              split at h
              · rename_i he
                obtain ⟨rfl, rfl⟩ := he
                simp only [Option.some.injEq, Prod.mk.injEq] at h
                obtain ⟨rfl, rfl, rfl, rfl, rfl, rfl, rfl⟩ := h
                have ea : args = #[.tmp d0] := Array.toList_inj.1 ha
                have et : tys = #[t'] := Array.toList_inj.1 hb
                subst ea
                subst et
                rw [runs_iff] at h' ⊢
                simp only [clrM, RunsK] at h' ⊢
                have hlen : (xs.take l ++ List.replicate (xs.length - l) d).length = xs.length := by simp; omega
                rw [hlen, ← setMany_tail xs d hE h1] at h'
                intro _
                refine OpsQ.clr g1 hp1 hd1 g2 hp2 hx hlo hr hi h1 hd ?_ ?_ ?_
                · rw [zerosA_rows]
                  exact fun c hc => List.all_eq_true.1 (rows_all hE1 _) c hc
                · rw [zerosA_rows]
                  exact leafyL_rows hE2 _
                · rw [← hd1]
                  exact h' headW_false
              · cases h
            · cases h
          · cases h
        · cases h
      · cases h
    · cases h
  · cases h
end
end Go.Abs


/-! Rows filtered in place; antichains. -/
namespace Go.Proofs.Ytogehjciaamcfaa
open Go.RowKit Go.Abs

def rangeL (k : Nat) : List Int := (List.range k).map fun i : Nat => (i : Int)
theorem rangeL_len (k : Nat) : (rangeL k).length = k := by simp [rangeL]
theorem rangeL_succ (k : Nat) : rangeL k ++ [(k : Int)] = rangeL (k + 1) := by simp [rangeL, List.range_succ]
theorem rangeL_get {k j : Nat} (h : j < k) : (rangeL k).getD j 0 = (j : Int) := by simp [rangeL, List.getD_eq_getElem?_getD, List.getElem?_range h]
theorem sub_tab : ∀ n : Fin 9, ∀ i : Fin 256, i.val + 1 < 2 ^ n.val → band ((i.val : Int) - (shl64 1 (n.val : Int) - 1)) (shl64 1 (n.val : Int) - 1) = (i.val : Int) + 1 := by decide +kernel
theorem sub_next {n : Int} {i : Nat} (h0 : 0 ≤ n) (h8 : n ≤ 8) (h : (i : Int) + 1 < shl64 1 n) : band ((i : Int) - (shl64 1 n - 1)) (shl64 1 n - 1) = (i : Int) + 1 := by
  have e : ((n.toNat : Nat) : Int) = n := by omega
  have h2 := shl_nat (i := n.toNat) (by omega)
  rw [e] at h2
  have h3 : 2 ^ n.toNat ≤ 2 ^ 8 := Nat.pow_le_pow_right (by decide) (by omega)
  have h4 : i + 1 < 2 ^ n.toNat := by
    rw [h2] at h
    generalize 2 ^ n.toNat = q at h h3
    omega
  have := sub_tab ⟨n.toNat, by omega⟩ ⟨i, by omega⟩ h4
  simpa only [e] using this
def ANT (xs : List Int) (m : Int) (i : Nat) : Prop := tb m i = true → band (xs.getD i 0) m = shl64 1 (i : Int)
instance (xs : List Int) (m : Int) (i : Nat) : Decidable (ANT xs m i) := by unfold ANT; infer_instance
def antB (n : Int) (xs : List Int) (m : Int) : Bool := (List.range n.toNat).all fun i => decide (ANT xs m i)
theorem antB_iff {n : Int} {xs : List Int} {m : Int} : antB n xs m = true ↔ ∀ i : Nat, i < n.toNat → ANT xs m i := by simp [antB]
theorem antB_no {n : Int} {xs : List Int} {m : Int} {i : Nat} (hi : i < n.toNat) (h : tb m i = true) (h2 : ¬ band (xs.getD i 0) m = shl64 1 (i : Int)) : false = antB n xs m := by
  cases e : antB n xs m with
  | false => rfl
  | true => exact absurd (antB_iff.1 e i hi h) h2
def ANM (xs : List Int) (m : Int) (t : Nat) : Prop := band (xs.getD ((mem m).getD t 0).toNat 0) m = shl64 1 ((mem m).getD t 0)
theorem antB_mem {n : Int} {xs : List Int} {m : Int} (h8 : n ≤ 8) (hm : InM n.toNat m) (h : ∀ t : Nat, t < (mem m).length → ANM xs m t) : true = antB n xs m := by
  refine (antB_iff.2 fun i hi hb => ?_).symm
  obtain ⟨t, ht, e⟩ := List.getElem_of_mem ((mem_iff (by omega) hm).2 hb)
  have h1 := h t ht
  unfold ANM at h1
  have e2 : (mem m).getD t 0 = (i : Int) := by rw [List.getD_eq_getElem?_getD, List.getElem?_eq_getElem ht, e]; rfl
  rw [e2] at h1
  exact h1
theorem antB_nom {n : Int} {xs : List Int} {m : Int} {t : Nat} (h8 : n ≤ 8) (hm : InM n.toNat m) (ht : t < (mem m).length) (h : ¬ band (xs.getD ((mem m).getD t 0).toNat 0) m = shl64 1 ((mem m).getD t 0)) : false = antB n xs m := by
  have h1 := mem_lt' (N := n.toNat) (by omega) hm ht
  have e : (((mem m).getD t 0).toNat : Int) = (mem m).getD t 0 := by omega
  refine antB_no (i := ((mem m).getD t 0).toNat) (by omega) ((mem_iff (N := n.toNat) (by omega) hm).1 ?_) (by rw [e]; exact h)
  rw [e, List.getD_eq_getElem?_getD, List.getElem?_eq_getElem ht]
  exact List.getElem_mem _
def antTo (n : Int) (xs : List Int) : Nat → List Int
  | 0 => []
  | k + 1 => if antB n xs (k : Int) = true then antTo n xs k ++ [(k : Int)] else antTo n xs k
theorem antTo_yes {n : Int} {xs : List Int} {k : Nat} (h : antB n xs (k : Int) = true) : antTo n xs k ++ [(k : Int)] = antTo n xs (k + 1) := by rw [antTo, if_pos h]
theorem antTo_no {n : Int} {xs : List Int} {k : Nat} (h : antB n xs (k : Int) = false) : antTo n xs k = antTo n xs (k + 1) := by rw [antTo, if_neg (by rw [h]; decide)]
theorem antTo_filter (n : Int) (xs : List Int) : ∀ k : Nat, (rangeL k).filter (antB n xs) = antTo n xs k
  | 0 => rfl
  | k + 1 => by
    rw [← rangeL_succ, List.filter_append, antTo_filter n xs k, antTo]
    split
    · rename_i h; simp [h]
    · rename_i h; simp [h]
def QA (n : Int) (xs : List Int) (m : Int) : Bool := !antB n xs m
theorem fidx_none {p q : Int → Bool} (hq : ∀ x, p x = !q x) : ∀ {a : List Int} {i : Int}, 0 ≤ i → fidxI p a i = -1 → a.filter q = a
  | [], _, _, _ => rfl
  | x :: a, i, h0, h => by
    rw [fidxI] at h
    split at h
    · omega
    · rename_i hp
      have : q x = true := by have := hq x; cases e : q x <;> simp_all
      rw [List.filter_cons, if_pos this, fidx_none hq (by omega) h]
theorem fidx_some {p q : Int → Bool} (hq : ∀ x, p x = !q x) : ∀ {a : List Int} {i k : Int}, fidxI p a i = k → ¬ k = -1 → 0 ≤ i → i ≤ k ∧ (k - i).toNat < a.length ∧ (a.take (k - i + 1).toNat).filter q = a.take (k - i).toNat
  | [], i, k, h, hk, h0 => by rw [fidxI] at h; omega
  | x :: a, i, k, h, hk, h0 => by
    rw [fidxI] at h
    split at h
    · rename_i hp
      subst h
      have : q x = false := by have := hq x; cases e : q x <;> simp_all
      refine ⟨Int.le_refl _, by simp, ?_⟩
      rw [show (i - i + 1).toNat = 1 by omega, show (i - i).toNat = 0 by omega]
      simp [this]
    · rename_i hp
      have hqx : q x = true := by have := hq x; cases e : q x <;> simp_all
      obtain ⟨h1, h2, h3⟩ := fidx_some hq h hk (by omega)
      refine ⟨by omega, by simp; omega, ?_⟩
      rw [show (k - i + 1).toNat = (k - (i + 1) + 1).toNat + 1 by omega, show (k - i).toNat = (k - (i + 1)).toNat + 1 by omega, List.take_succ_cons, List.take_succ_cons, List.filter_cons, if_pos hqx, h3]
theorem fidx_start {p q : Int → Bool} (hq : ∀ x, p x = !q x) {a : List Int} (h : ¬ fidxI p a 0 = -1) : 0 ≤ fidxI p a 0 ∧ (fidxI p a 0).toNat < a.length ∧ a.take (fidxI p a 0).toNat = (a.take (fidxI p a 0 + 1).toNat).filter q := by
  obtain ⟨h1, h2, h3⟩ := fidx_some hq (k := fidxI p a 0) rfl h (Int.le_refl 0)
  refine ⟨h1, by simpa using h2, ?_⟩
  have h4 := h3.symm
  simpa using h4
theorem del_keep {q : Int → Bool} {a r : List Int} {i j : Nat} (hl : r.length = a.length) (hi : i ≤ j) (hj : j < a.length) (h1 : r.take i = (a.take j).filter q) (h2 : r.drop j = a.drop j) (hq : q (r.getD j 0) = true) :
    (r.set i (r.getD j 0)).take (i + 1) = (a.take (j + 1)).filter q ∧ (r.set i (r.getD j 0)).drop (j + 1) = a.drop (j + 1) ∧ (r.set i (r.getD j 0)).length = a.length := by
  have e : r.getD j 0 = a.getD j 0 := by
    have := congrArg (fun l : List Int => l.getD 0 0) h2
    simpa [List.getD_eq_getElem?_getD, List.getElem?_drop] using this
  refine ⟨?_, ?_, by rw [List.length_set, hl]⟩
  · rw [List.take_succ_eq_append_getElem (by rw [List.length_set]; omega), List.take_set_of_le (Nat.le_refl _), h1, List.getElem_set_self, List.take_succ_eq_append_getElem hj, List.filter_append]
    have e2 : a[j] = r.getD j 0 := by rw [e, List.getD_eq_getElem?_getD, List.getElem?_eq_getElem hj]; rfl
    have e3 : List.filter q [r.getD j 0] = [r.getD j 0] := by rw [List.filter_cons, if_pos hq]; rfl
    rw [e2, e3]
  · rw [List.drop_set_of_lt (by omega)]
    have := congrArg (fun l : List Int => l.drop 1) h2
    simpa [List.drop_drop] using this
theorem del_skip {q : Int → Bool} {a r : List Int} {i j : Nat} (hl : r.length = a.length) (hj : j < a.length) (h1 : r.take i = (a.take j).filter q) (h2 : r.drop j = a.drop j) (hq : q (r.getD j 0) = false) :
    r.take i = (a.take (j + 1)).filter q ∧ r.drop (j + 1) = a.drop (j + 1) := by
  have e : r.getD j 0 = a.getD j 0 := by
    have := congrArg (fun l : List Int => l.getD 0 0) h2
    simpa [List.getD_eq_getElem?_getD, List.getElem?_drop] using this
  refine ⟨?_, ?_⟩
  · rw [h1, List.take_succ_eq_append_getElem hj, List.filter_append]
    have e2 : a[j] = r.getD j 0 := by rw [e, List.getD_eq_getElem?_getD, List.getElem?_eq_getElem hj]; rfl
    have e3 : List.filter q [r.getD j 0] = [] := by rw [List.filter_cons, if_neg (by rw [hq]; decide)]; rfl
    rw [e2, e3, List.append_nil]
  · have := congrArg (fun l : List Int => l.drop 1) h2
    simpa [List.drop_drop] using this
def anL (n : Int) (xs : List Int) : List Int := antTo n xs (shl64 1 n).toNat
def anR (n : Int) (xs : List Int) : List Int := if okPo n xs = true then anL n xs else []
theorem an_bad {s : Nat} {n : Int} {xs : List Int} (h : okPo n xs = false) : AV.tup [ownA eI s 1 [], AI 1] = AV.tup [ownA eI s 1 (anR n xs), AI (poC n xs)] := by simp [anR, poC, h]
theorem an_ok {s : Nat} {n : Int} {xs L : List Int} (h : okPo n xs = true) (hL : L = anL n xs) : AV.tup [ownA eI s 1 L, AI 0] = AV.tup [ownA eI s 1 (anR n xs), AI (poC n xs)] := by rw [anR, poC, if_pos h, if_pos h, hL]
theorem an_cut {a r : List Int} {n : Int} {xs : List Int} {ii jj : Int} (hl : r.length = a.length) (hi : 0 ≤ ii) (hij : ii < jj) (hj : jj ≤ a.length) (hjl : ¬ jj < (r.length : Int)) (h : r.take ii.toNat = (a.take jj.toNat).filter (antB n xs)) (ha : a = rangeL (shl64 1 n).toNat) :
    (r.take ii.toNat ++ List.replicate (r.length - ii.toNat) 0).take ii.toNat = anL n xs := by
  rw [List.take_append_of_le_length (by rw [List.length_take]; omega), List.take_take, Nat.min_self, h, List.take_of_length_le (by omega), ha, antTo_filter]
  rfl

end Go.Proofs.Ytogehjciaamcfaa


/-! AntichainsOf of both packages and its law. -/
namespace Go.Proofs.Ytogehjciaamcfaa
open Go.RowKit Go.Abs

theorem isAntichain_c (n : Int) (xs : List Int) (m : Int) (hR : okFr n xs = true) (hm : InM n.toNat m) : CallA Try.prog 37 [.agg [AI n, LI xs], AI m] (.bool (antB n xs m)) := by
  have hF := okFr_rel hR
  have hRel : RelOK n.toNat xs := hF.2.2.2
  have hb0 : 0 ≤ n ∧ n ≤ 8 ∧ (xs.length : Int) = n := ⟨hF.1, hF.2.1, hF.2.2.1⟩
  have hN8 : n.toNat ≤ 8 := by omega
  have hm61 := inM_mono (n' := 61) (by omega) hm
  have hml := mem_le m
  refine CallA.of Try.func37 rfl (by kernel_rfl) ?_
  refine R.go 9 (R.call true (membersOf_c m (by first | assumption | exact inM61 (by omega) (by omega))).frz (by kernel_rfl) rfl (by kernel_rfl) ?_)
  refine R.go 4 (R.loop (fun (t : Nat) => (⟨(frm 25 [(1, AI m), (2, .ptr 0 0), (8, LI (mem m)), (9, AI ((mem m).length)), (10, AI (t : Int))]), [.box 26 [AI n, LI xs]]⟩ : St)) (fun (t : Nat) => (t ≤ (mem m).length) ∧ (∀ s : Nat, s < t → ANM xs m s)) (fun (t : Nat) => (mem m).length - t) 0 [1, 2, 8, 9, 10] none (by kernel_rfl) (by kernel_rfl) (by kernel_rfl) ⟨(by omega), (by exact fun i hi => absurd hi (by omega))⟩ ?_)
  rintro t ⟨h3_1, h3_2⟩ R1 N2
  have hjr := fun h : t < (mem m).length => mem_lt' (N := n.toNat) (by omega) hm h
  refine R.go 5 (R.cond ((t : Int) < ((mem m).length : Int)) (by kernel_rfl) (fun c4 => ?_) (fun c4 => ?_))
  · have hj2 := hjr (by omega)
    refine R.go 5 (R.idx eI (mem m) 0 t (t : Int) (by kernel_rfl) rfl eI_len (by omega) (by kernel_rfl) ?_)
    refine R.go 8 (R.idx eI xs 0 ((((mem m).getD t 0)).toNat) ((mem m).getD t 0) (by kernel_rfl) (by omega) eI_len (by omega) (by kernel_rfl) ?_)
    refine R.go 4 (R.shl 1 ((mem m).getD t 0) (by kernel_rfl) (by omega) (by kernel_rfl) ?_)
    refine R.go 2 (R.condN ((band (xs.getD ((((mem m).getD t 0)).toNat) 0) m) = (shl64 1 ((mem m).getD t 0))) (by kernel_rfl) (fun c5 => ?_) (fun c5 => ?_))
    · exact R.go 4 (R.retE (.bool false) (by kernel_rfl) (by kernel_rfl) (by first | (apply congrArg AV.bool; first | exact antB_nom hb0.2.1 hm (t := t) (by omega) (by assumption) | exact antB_mem hb0.2.1 hm fun s hs => (‹∀ s : Nat, s < t → ANM xs m s›) s (by omega)) | (exfalso; omega)))
    · refine R.go 3 (R.ar ((t : Int) + 1) (by kernel_rfl) (by omega) (by omega) (by kernel_rfl) ?_)
      exact R.go 2 (R.stop R1 (by kernel_rfl) (N2 (t + 1) [1, 2, 8, 9, 10] none _ (by kernel_rfl) (by kernel_rfl) ⟨(by omega), (by exact below1 (P := ANM xs m) (by assumption) (show band _ _ = _ by assumption))⟩ (by show ((mem m).length - (t + 1)) < ((mem m).length - t); omega)))
  · exact R.go 5 (R.retE (.bool true) (by kernel_rfl) (by kernel_rfl) (by first | (apply congrArg AV.bool; first | exact antB_nom hb0.2.1 hm (t := t) (by omega) (by assumption) | exact antB_mem hb0.2.1 hm fun s hs => (‹∀ s : Nat, s < t → ANM xs m s›) s (by omega)) | (exfalso; omega)))

theorem subMasks_c (n : Int) (h0 : 0 ≤ n) (h8 : n ≤ 8) : CallA Try.prog 34 [AI ((shl64 1 n) - 1)] (ownA eI 2 1 (rangeL (shl64 1 n).toNat)) := by
  have hs8 := shl_8 h0 h8
  have hs1 := shl_rng n h0 (by omega)
  refine CallA.of Try.func34 rfl (by kernel_rfl) ?_
  refine R.go 15 (R.loop ((fun | (i, sb, out) => (⟨(frm 19 [(0, AI ((shl64 1 n) - 1)), (3, .ref 0), (4, AI sb)]), [rowA eI 2 1 out]⟩ : St) : Nat × Int × (List Int) → St)) (fun | (i, sb, out) => ((i : Int) + 1 ≤ shl64 1 n) ∧ (sb = (i : Int)) ∧ (out = rangeL (i + 1))) (fun | (i, sb, out) => (shl64 1 n).toNat - i) (0, 0, [0]) [0, 3, 4] none (by kernel_rfl) (by kernel_rfl) (by kernel_rfl) ⟨(by omega), (by rfl), (by rfl)⟩ ?_)
  rintro ⟨i, sb, out⟩ ⟨h4_1, rfl, rfl⟩ R1 N2
  have hol := rangeL_len (i + 1)
  have hnx := fun h : (i : Int) + 1 < shl64 1 n => sub_next h0 h8 h
  refine R.go 7 (R.condN ((i : Int) = ((shl64 1 n) - 1)) (by kernel_rfl) (fun c5 => ?_) (fun c5 => ?_))
  · refine R.go 6 (R.ar ((i : Int) - ((shl64 1 n) - 1)) (by kernel_rfl) (by omega) (by omega) (by kernel_rfl) ?_)
    refine R.go 8 (R.app eI (rangeL (i + 1)) [band ((i : Int) - ((shl64 1 n) - 1)) ((shl64 1 n) - 1)] 0 2 1 8 (by kernel_rfl) eI_one (by decide) (by first | omega | (simp <;> omega)) (by kernel_rfl) ?_)
    exact R.go 3 (R.stop R1 (by kernel_rfl) (N2 ((i + 1), band ((i : Int) - ((shl64 1 n) - 1)) ((shl64 1 n) - 1), (rangeL (i + 1)) ++ [band ((i : Int) - ((shl64 1 n) - 1)) ((shl64 1 n) - 1)]) [0, 3, 4] (some [0]) _ (by kernel_rfl) (by kernel_rfl) ⟨(by omega), (by rw [sub_next h0 h8 (by omega)]; rfl), (by rw [sub_next h0 h8 (by omega)]; exact rangeL_succ (i + 1))⟩ (by show ((shl64 1 n).toNat - (i + 1)) < ((shl64 1 n).toNat - i); omega)))
  · exact R.go 6 (R.retE (ownA eI 2 1 (rangeL (i + 1))) (by kernel_rfl) (by kernel_rfl) (by first | (rw [show i + 1 = (shl64 1 n).toNat by omega]) | (exfalso; omega)))

theorem anti1_c (m : Int) (n : Int) (xs : List Int) (hR : okFr n xs = true) (hm : InM n.toNat m) : CallA Try.prog 36 [AI m, .rptr [AI n, LI xs]] (.bool (QA n xs m)) := by
  refine CallA.of Try.func36 rfl (by kernel_rfl) ?_
  refine R.go 8 (R.call true (isAntichain_c n xs m hR hm) (by kernel_rfl) rfl (by kernel_rfl) ?_)
  exact R.go 3 (R.retE (.bool (!(antB n xs m))) (by kernel_rfl) (by kernel_rfl) (by first | (rfl) | (exfalso; omega)))

theorem indexA_c (a : List Int) (n : Int) (xs : List Int) (hl : a.length ≤ 1000000000) (hR : okFr n xs = true) (ha : ∀ j : Nat, j < a.length → InM n.toNat (a.getD j 0)) : CallA Try.prog 66 [LI a, .fn 36 [.rptr [AI n, LI xs]]] (AI (fidxI (QA n xs) a 0)) := by
  refine CallA.of Try.func66 rfl (by kernel_rfl) ?_
  refine R.go 12 (R.loop (fun (i : Nat) => (⟨(frm 19 [(0, LI a), (1, .fn 36 [.rptr [AI n, LI xs]]), (7, AI a.length), (8, AI (i : Int))]), []⟩ : St)) (fun (i : Nat) => (i ≤ a.length) ∧ (fidxI (QA n xs) a 0 = fidxI (QA n xs) (a.drop i) i)) (fun (i : Nat) => a.length - i) 0 [0, 1, 7, 8] none (by kernel_rfl) (by kernel_rfl) (by kernel_rfl) ⟨(by omega), (by rfl)⟩ ?_)
  rintro i ⟨h3_1, h3_2⟩ R1 N2
  have hai := ha i
  refine R.go 5 (R.cond ((i : Int) < (a.length : Int)) (by kernel_rfl) (fun c4 => ?_) (fun c4 => ?_))
  · have haj := hai (by omega)
    refine R.go 13 (R.idx eI a 0 i (i : Int) (by kernel_rfl) rfl eI_len (by omega) (by kernel_rfl) ?_)
    refine R.go 1 (R.call true (anti1_c (a.getD i 0) n xs hR (by assumption)) (by kernel_rfl) rfl (by kernel_rfl) ?_)
    refine R.go 1 (R.condB (QA n xs (a.getD i 0)) (by kernel_rfl) (fun c5 => ?_) (fun c5 => ?_))
    · exact R.go 5 (R.retE (AI (i : Int)) (by kernel_rfl) (by kernel_rfl) (by first | (apply congrArg AI; rw [‹fidxI _ a 0 = _›]; first | exact (fidxI_end (by omega)).symm | exact (fidxI_hit (by omega) (by assumption)).symm) | (exfalso; omega)))
    · refine R.go 3 (R.ar ((i : Int) + 1) (by kernel_rfl) (by omega) (by omega) (by kernel_rfl) ?_)
      exact R.go 2 (R.stop R1 (by kernel_rfl) (N2 (i + 1) [0, 1, 7, 8] none _ (by kernel_rfl) (by kernel_rfl) ⟨(by omega), (by rw [‹fidxI _ a 0 = _›]; exact fidxI_miss (by omega) (by assumption))⟩ (by show (a.length - (i + 1)) < (a.length - i); omega)))
  · exact R.go 5 (R.retE (AI (-1)) (by kernel_rfl) (by kernel_rfl) (by first | (apply congrArg AI; rw [‹fidxI _ a 0 = _›]; first | exact (fidxI_end (by omega)).symm | exact (fidxI_hit (by omega) (by assumption)).symm) | (exfalso; omega)))

theorem subMasksG_c (n : Int) (a : List Int) (h0 : 0 ≤ n) (h8 : n ≤ 8) (ha : a = rangeL (shl64 1 n).toNat) : CallA Try.prog 34 [AI ((shl64 1 n) - 1)] (ownA eI 2 1 a) := by rw [ha]; exact subMasks_c n h0 h8

theorem AN_impl (n : Int) (xs : List Int) (lx : xs.length ≤ 1048576) : CallA Try.prog 10 [.agg [AI n, LI xs]] (.tup [ownA eI 2 1 (anR n xs), AI (poC n xs)]) := by
  refine CallA.of Try.func10 rfl (by kernel_rfl) ?_
  refine R.go 10 (R.call true (isPoset_c n xs (by first | omega | (simp <;> omega))) (by kernel_rfl) rfl (by kernel_rfl) ?_)
  refine R.go 2 (R.condM (okPo n xs) (by kernel_rfl) (fun c1 => ?_) (fun c1 => ?_))
  · refine R.go 5 (R.nil 2 2 1 (by kernel_rfl) ?_)
    exact R.retE (.tup [ownA eI 2 1 [], AI 1]) (by kernel_rfl) (by kernel_rfl) (by first | (first | exact an_bad (by assumption) | exact an_ok (by assumption) (by rw [anL, ← antTo_filter, ← haE]; exact (fidx_none hqn (Int.le_refl 0) (by assumption)).symm) | exact an_ok (by assumption) (an_cut (jj := jj) (by assumption) (by omega) (by omega) (by omega) (by omega) (by assumption) haE)) | (exfalso; omega))
  · have hR : okFr n xs = true := okPo_fr (by assumption)
    have hF := okFr_rel hR
    have hRel : RelOK n.toNat xs := hF.2.2.2
    have hb0 : 0 ≤ n ∧ n ≤ 8 ∧ (xs.length : Int) = n := ⟨hF.1, hF.2.1, hF.2.2.1⟩
    have hN8 : n.toNat ≤ 8 := by omega
    have hs8 := shl_8 hb0.1 hb0.2.1
    have hs1 := shl_rng n hb0.1 (by omega)
    obtain ⟨a, haE⟩ : ∃ a, a = rangeL (shl64 1 n).toNat := ⟨_, rfl⟩
    have hal : a.length = (shl64 1 n).toNat := by rw [haE]; exact rangeL_len _
    have haM : ∀ j : Nat, j < a.length → InM n.toNat (a.getD j 0) := fun j hj => by rw [haE, rangeL_get (by omega)]; exact nat_inM hb0.1 hb0.2.1 (by omega)
    have hqn : ∀ x, QA n xs x = !antB n xs x := fun _ => rfl
    have hst := fun h : ¬ fidxI (QA n xs) a 0 = -1 => fidx_start hqn h
    refine R.go 4 (R.call true (pAll_c n xs (by omega) (by omega)) (by kernel_rfl) rfl (by kernel_rfl) ?_)
    refine R.call true (subMasksG_c n a (by omega) (by omega) (by assumption)) (by kernel_rfl) rfl (by kernel_rfl) ?_
    refine R.go 1 (R.enter (avs := [.ref 1, .fn 36 [.ptr 0 0]]) Try.func33 rfl (by kernel_rfl) (by kernel_rfl) (by kernel_rfl) ?_)
    intro us2
    refine R.go 8 (R.call false (indexA_c a n xs (by first | omega | (simp <;> omega)) hR haM) (by kernel_rfl) rfl (by kernel_rfl) ?_)
    refine R.go 8 (R.cond ((fidxI (QA n xs) a 0) = (-1)) (by kernel_rfl) (fun c3 => ?_) (fun c3 => ?_))
    · refine R.go 5 (R.back (.ref 1) (frm 12 [(0, .agg [AI n, LI xs]), (1, .ptr 0 0), (2, .nil), (3, AI 0), (4, .agg [AI n, LI xs]), (5, .bool (okPo n xs)), (6, .bool (!(okPo n xs))), (7, .agg [AI n, LI xs]), (8, AI ((shl64 1 n) - 1)), (9, .ref 1), (10, .fn 36 [.ptr 0 0])]) (by kernel_rfl) (by kernel_rfl) (by kernel_rfl) ?_)
      exact R.go 3 (R.retE (.tup [ownA eI 2 1 a, AI 0]) (by kernel_rfl) (by kernel_rfl) (by first | (first | exact an_bad (by assumption) | exact an_ok (by assumption) (by rw [anL, ← antTo_filter, ← haE]; exact (fidx_none hqn (Int.le_refl 0) (by assumption)).symm) | exact an_ok (by assumption) (an_cut (jj := jj) (by assumption) (by omega) (by omega) (by omega) (by omega) (by assumption) haE)) | (exfalso; omega)))
    · have hs2 := hst (by assumption)
      refine R.go 5 (R.ar ((fidxI (QA n xs) a 0) + 1) (by kernel_rfl) (by omega) (by omega) (by kernel_rfl) ?_)
      refine R.go 3 (R.loop ((fun | (jj, ii, r) => (⟨(frm 42 [(0, .ref 1), (1, .fn 36 [.ptr 0 0]), (5, AI ii), (6, AI jj)]), [.box 26 [AI n, LI xs], rowA eI 2 1 r, .frame us2 (frm 12 [(0, .agg [AI n, LI xs]), (1, .ptr 0 0), (2, .nil), (3, AI 0), (4, .agg [AI n, LI xs]), (5, .bool (okPo n xs)), (6, .bool (!(okPo n xs))), (7, .agg [AI n, LI xs]), (8, AI ((shl64 1 n) - 1)), (9, .ref 1), (10, .fn 36 [.ptr 0 0])])]⟩ : St) : Int × Int × (List Int) → St)) (fun | (jj, ii, r) => (0 ≤ ii) ∧ (ii < jj) ∧ (jj ≤ a.length) ∧ (r.length = a.length) ∧ (r.take ii.toNat = (a.take jj.toNat).filter (antB n xs)) ∧ (r.drop jj.toNat = a.drop jj.toNat)) (fun | (jj, ii, r) => (a.length - jj).toNat) (((fidxI (QA n xs) a 0) + 1), (fidxI (QA n xs) a 0), a) [0, 1, 5, 6] none (by kernel_rfl) (by kernel_rfl) (by kernel_rfl) ⟨(by omega), (by omega), (by omega), (by rfl), (by exact hs2.2.2), (by rfl)⟩ ?_)
      rintro ⟨jj, ii, r⟩ ⟨h7_1, h7_2, h7_3, h7_4, h7_5, h7_6⟩ R4 N5
      have hjm : jj < a.length → InM n.toNat (r.getD jj.toNat 0) := fun hj => by
        have h2 := congrArg (fun l : List Int => l.getD 0 0) (by assumption : r.drop jj.toNat = a.drop jj.toNat)
        have h3 : r.getD jj.toNat 0 = a.getD jj.toNat 0 := by simpa [List.getD_eq_getElem?_getD, List.getElem?_drop] using h2
        rw [h3]; exact haM _ (by omega)
      have hjk := fun (hj : jj < a.length) (hq : antB n xs (r.getD jj.toNat 0) = true) => del_keep (q := antB n xs) (by assumption : r.length = a.length) (i := ii.toNat) (j := jj.toNat) (by omega) (by omega) (by assumption) (by assumption) hq
      have hjs := fun (hj : jj < a.length) (hq : antB n xs (r.getD jj.toNat 0) = false) => del_skip (q := antB n xs) (by assumption : r.length = a.length) (i := ii.toNat) (j := jj.toNat) (by omega) (by assumption) (by assumption) hq
      refine R.go 8 (R.cond (jj < (r.length : Int)) (by kernel_rfl) (fun c8 => ?_) (fun c8 => ?_))
      · refine R.go 7 (R.idxO 1 1 r.length ((jj).toNat) jj (by kernel_rfl) (by omega) (by omega) (by kernel_rfl) ?_)
        refine R.ldI r ((jj).toNat) (by kernel_rfl) (by omega) (by kernel_rfl) ?_
        have hjM := hjm (by omega)
        refine R.go 6 (R.call false (anti1_c (r.getD ((jj).toNat) 0) n xs hR (by assumption)) (by kernel_rfl) rfl (by kernel_rfl) ?_)
        refine R.go 2 (R.condM (QA n xs (r.getD ((jj).toNat) 0)) (by kernel_rfl) (fun c9 => ?_) (fun c9 => ?_))
        · refine R.go 5 (R.idxO 1 1 r.length ((ii).toNat) ii (by kernel_rfl) (by omega) (by omega) (by kernel_rfl) ?_)
          refine R.stI 1 2 r ((ii).toNat) (r.getD ((jj).toNat) 0) (by kernel_rfl) (by omega) (by kernel_rfl) ?_
          refine R.go 3 (R.ar (ii + 1) (by kernel_rfl) (by omega) (by omega) (by kernel_rfl) ?_)
          refine R.go 5 (R.ar (jj + 1) (by kernel_rfl) (by omega) (by omega) (by kernel_rfl) ?_)
          exact R.go 2 (R.stop R4 (by kernel_rfl) (N5 (jj + 1, ii + 1, r.set ((ii).toNat) (r.getD ((jj).toNat) 0)) [0, 1, 5, 6] none _ (by kernel_rfl) (by kernel_rfl) ⟨(by omega), (by omega), (by omega), (by first | assumption | exact (hjk (by omega) (by simpa [QA] using (by assumption : QA n xs (r.getD jj.toNat 0) = false))).2.2), (by first | (rw [show (ii + 1).toNat = ii.toNat + 1 by omega, show (jj + 1).toNat = jj.toNat + 1 by omega]; exact (hjk (by omega) (by simpa [QA] using (by assumption : QA n xs (r.getD jj.toNat 0) = false))).1) | (rw [show (jj + 1).toNat = jj.toNat + 1 by omega]; exact (hjs (by omega) (by simpa [QA] using (by assumption : QA n xs (r.getD jj.toNat 0) = true))).1)), (by rw [show (jj + 1).toNat = jj.toNat + 1 by omega]; first | exact (hjk (by omega) (by simpa [QA] using (by assumption : QA n xs (r.getD jj.toNat 0) = false))).2.1 | exact (hjs (by omega) (by simpa [QA] using (by assumption : QA n xs (r.getD jj.toNat 0) = true))).2)⟩ (by show ((a.length - (jj + 1)).toNat) < ((a.length - jj).toNat); omega)))
        · refine R.go 4 (R.ar (jj + 1) (by kernel_rfl) (by omega) (by omega) (by kernel_rfl) ?_)
          exact R.go 2 (R.stop R4 (by kernel_rfl) (N5 (jj + 1, ii, r) [0, 1, 5, 6] none _ (by kernel_rfl) (by kernel_rfl) ⟨(by omega), (by omega), (by omega), (by first | assumption | exact (hjk (by omega) (by simpa [QA] using (by assumption : QA n xs (r.getD jj.toNat 0) = false))).2.2), (by first | (rw [show (ii + 1).toNat = ii.toNat + 1 by omega, show (jj + 1).toNat = jj.toNat + 1 by omega]; exact (hjk (by omega) (by simpa [QA] using (by assumption : QA n xs (r.getD jj.toNat 0) = false))).1) | (rw [show (jj + 1).toNat = jj.toNat + 1 by omega]; exact (hjs (by omega) (by simpa [QA] using (by assumption : QA n xs (r.getD jj.toNat 0) = true))).1)), (by rw [show (jj + 1).toNat = jj.toNat + 1 by omega]; first | exact (hjk (by omega) (by simpa [QA] using (by assumption : QA n xs (r.getD jj.toNat 0) = false))).2.1 | exact (hjs (by omega) (by simpa [QA] using (by assumption : QA n xs (r.getD jj.toNat 0) = true))).2)⟩ (by show ((a.length - (jj + 1)).toNat) < ((a.length - jj).toNat); omega)))
      · refine R.go 5 (R.clr eI 0 r 1 2 ((ii).toNat) ii (by kernel_rfl) (by omega) (fun _ => rfl) (fun _ => rfl) (fun _ => rfl) (by omega) ?_)
        refine R.go 5 (R.cut eI (r.take ((ii).toNat) ++ List.replicate (r.length - (ii).toNat) 0) 1 2 ((ii).toNat) ii (by kernel_rfl) (by omega) eI_len (by first | omega | (simp <;> omega)) (by kernel_rfl) ?_)
        refine R.go 2 (R.back (.ref 1) (frm 12 [(0, .agg [AI n, LI xs]), (1, .ptr 0 0), (2, .nil), (3, AI 0), (4, .agg [AI n, LI xs]), (5, .bool (okPo n xs)), (6, .bool (!(okPo n xs))), (7, .agg [AI n, LI xs]), (8, AI ((shl64 1 n) - 1)), (10, .fn 36 [.ptr 0 0])]) (by kernel_rfl) (by kernel_rfl) (by kernel_rfl) ?_)
        exact R.go 3 (R.retE (.tup [ownA eI 2 1 ((r.take ((ii).toNat) ++ List.replicate (r.length - (ii).toNat) 0).take ((ii).toNat)), AI 0]) (by kernel_rfl) (by kernel_rfl) (by first | (first | exact an_bad (by assumption) | exact an_ok (by assumption) (by rw [anL, ← antTo_filter, ← haE]; exact (fidx_none hqn (Int.le_refl 0) (by assumption)).symm) | exact an_ok (by assumption) (an_cut (jj := jj) (by assumption) (by omega) (by omega) (by omega) (by omega) (by assumption) haE)) | (exfalso; omega)))

end Go.Proofs.Ytogehjciaamcfaa
