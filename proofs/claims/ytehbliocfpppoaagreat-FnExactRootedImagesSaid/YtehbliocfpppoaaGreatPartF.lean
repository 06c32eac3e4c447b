/- Texts of the proof: W02, SymX, SymZ, X01, W06, X02, Sym1, Sym2. -/
import Derived.RangeFuncNested
import Derived.Test.YtehbliocfpppoaaGreatPartE

/-! Posets: roots and upsets of both packages. -/
namespace Go.Proofs.YtehbliocfpppoaaGreat
open Go.RowKit Go.Abs
theorem shl8N : ∀ n : Fin 9, 1 ≤ shl64 1 (n.val : Int) ∧ shl64 1 (n.val : Int) ≤ 256 := by decide +kernel
theorem shl_8 {n : Int} (h0 : 0 ≤ n) (h8 : n ≤ 8) : 1 ≤ shl64 1 n ∧ shl64 1 n ≤ 256 := by
 obtain ⟨k, rfl⟩ := Int.eq_ofNat_of_zero_le h0
 exact shl8N ⟨k, by omega⟩
def fixP (n m : Int) : Bool := decide (m = (shl64 1 n) - 1)
def rootX (n : Int) (xs : List Int) : Int := fidxI (fixP n) xs 0
theorem fix_eq {n m : Int} (h : m = (shl64 1 n) - 1) : fixP n m = true := decide_eq_true h
theorem fix_ne {n m : Int} (h : ¬ m = (shl64 1 n) - 1) : fixP n m = false := decide_eq_false h
def upTo (xs : List Int) : Nat → List Int
 | 0 => []
 | k + 1 => if img xs (k : Int) xs.length = (k : Int) then upTo xs k ++ [(k : Int)] else upTo xs k
theorem upTo_len (xs : List Int) : ∀ k : Nat, (upTo xs k).length ≤ k
 | 0 => Nat.le_refl _
 | k + 1 => by
  have := upTo_len xs k
  rw [upTo]
  split
  ·simp; omega
  ·omega
theorem upTo_yes {xs : List Int} {k : Nat} (h : img xs (k : Int) xs.length = (k : Int)) : upTo xs k ++ [(k : Int)] = upTo xs (k + 1) := by rw [upTo, if_pos h]
theorem upTo_no {xs : List Int} {k : Nat} (h : ¬ img xs (k : Int) xs.length = (k : Int)) : upTo xs k = upTo xs (k + 1) := by rw [upTo, if_neg h]
def upL (n : Int) (xs : List Int) : List Int := upTo xs (shl64 1 n).toNat
def upR (n : Int) (xs : List Int) : List Int := if okPo n xs = true then upL n xs else []

def imgL (xs : List Int) (L : List Int) : Int := L.foldl (fun o j => bor o (xs.getD j.toNat 0)) 0
theorem imgL_snoc {xs L : List Int} {t : Nat} (h : t < L.length) : bor (imgL xs (L.take t)) (xs.getD (L.getD t 0).toNat 0) = imgL xs (L.take (t + 1)) := by
 rw [List.take_succ_eq_append_getElem h, imgL, imgL, List.foldl_append, List.getD_eq_getElem?_getD (l := L), List.getElem?_eq_getElem h]
 rfl
theorem imgF_ok {N : Nat} {xs : List Int} (hR : RelOK N xs) (hN : N ≤ 30) : ∀ (L : List Int) (o : Int), InM N o → (∀ j ∈ L, 0 ≤ j ∧ j < (N : Int)) → InM N (L.foldl (fun o j => bor o (xs.getD j.toNat 0)) o) ∧ ∀ k, tb (L.foldl (fun o j => bor o (xs.getD j.toNat 0)) o) k = true ↔ tb o k = true ∨ ∃ j ∈ L, tb (xs.getD j.toNat 0) k = true
 | [], o, h, _ => ⟨h, fun k => by simp⟩
 | v :: L, o, h, hL => by
  have hv := hL v (List.mem_cons_self ..)
  have hx := hR.2 v.toNat (by omega)
  have hb := inM_bor (n := N) (by omega) h hx
  obtain ⟨i1, i2⟩ := imgF_ok hR hN L _ hb fun j hj => hL j (List.mem_cons_of_mem _ hj)
  refine ⟨i1, fun k => ?_⟩
  rw [List.foldl_cons, i2, tb_bor (n := N) (by omega) h hx, Bool.or_eq_true]
  simp [or_assoc]
theorem img_eq {N : Nat} {xs : List Int} {m : Int} (hR : RelOK N xs) (hN : N ≤ 30) (hm : InM N m) : imgL xs (mem m) = img xs m xs.length := by
 have hl := hR.1
 obtain ⟨a1, a2⟩ := imgF_ok hR hN (mem m) 0 (inM_zero _) (mem_lt (by omega) hm)
 obtain ⟨b1, b2⟩ := img_ok (n := N) (by omega) hR hm xs.length (by omega)
 refine tb_ext a1.1 b1.1 fun k => ?_
 rw [Bool.eq_iff_iff, imgL, a2, b2]
 constructor
 ·rintro (a | ⟨j, hj, h⟩)
  ·rw [tb_zero] at a; cases a
  ·have h1 := mem_lt (by omega) hm j hj
   refine ⟨j.toNat, by omega, (mem_iff (by omega) hm).1 (by rw [show ((j.toNat : Nat) : Int) = j by omega]; exact hj), h⟩
 ·rintro ⟨j, _, h1, h2⟩
  exact .inr ⟨(j : Int), (mem_iff (by omega) hm).2 h1, by simpa using h2⟩
theorem nat_inM {n : Int} {k : Nat} (h0 : 0 ≤ n) (h8 : n ≤ 8) (hk : (k : Int) < shl64 1 n) : InM n.toNat (k : Int) := by
 have := shl_nat (i := n.toNat) (by omega)
 rw [show ((n.toNat : Nat) : Int) = n by omega] at this
 exact ⟨by omega, by omega⟩
theorem outR_no {n m : Int} (h0 : 0 ≤ n) (h8 : n ≤ 8) (h : 0 ≤ m ∧ m < shl64 1 n) : outR n m = false := by
 rw [outR, (inR_iff n 0 30).2 (by omega), (inR_iff m 0 _).2 (by omega)]; rfl
theorem pAll_c (n : Int) (xs : List Int) (h0 : 0 ≤ n) (h1 : n ≤ 62) : CallA Tryz.prog 82 [.agg [AI n, LI xs]] (AI ((shl64 1 n) - 1)) := by
 have hb : 1 ≤ shl64 1 n ∧ shl64 1 n ≤ 4611686018427387904 := shl_rng n h0 h1
 refine CallA.of Tryz.func82 rfl (by kernel_rfl) (R.go 9 (R.shl 1 n (by kernel_rfl) (by omega) (by kernel_rfl) (k8 ((shl64 1 n) - 1) ?_)))
 exact R.go 2 (k23 (AI ((shl64 1 n) - 1)) (by rfl))
theorem indexV_c (n : Int) (a : List Int) (hl : a.length ≤ 1000000000) : CallA Tryz.prog 91 [LI a, AI ((shl64 1 n) - 1)] (AI (fidxI (fixP n) a 0)) := by
 refine CallA.of Tryz.func91 rfl (by kernel_rfl) (R.go 12 (k21 (fun (i : Nat) => (⟨(frm 19 [(0, LI a), (1, AI ((shl64 1 n) - 1)), (7, AI a.length), (8, AI (i : Int))]), []⟩ : St)) (fun (i : Nat) => (i ≤ a.length) ∧ (fidxI (fixP n) a 0 = fidxI (fixP n) (a.drop i) i)) (fun (i : Nat) => a.length - i) 0 [0, 1, 7, 8] none ⟨(by omega), (by rfl)⟩ ?_))
 rintro i ⟨h3_1, h3_2⟩ R1 N2
 refine R.go 5 (k9 ((i : Int) < (a.length : Int)) (fun c4 => ?_) (fun c4 => ?_))
 ·refine R.go 13 (k15 eI a 0 i (i : Int) eI_len (R.go 3 (k9 (((shl64 1 n) - 1) = (a.getD i 0)) (fun c5 => ?_) (fun c5 => ?_))))
  ·exact R.go 5 (k23 (AI (i : Int)) (by first | (apply congrArg AI; rw [‹fidxI (fixP n) a 0 = _›]; first | exact (fidxI_end (by omega)).symm | exact (fidxI_hit (by omega) (fix_eq (Eq.symm (by assumption)))).symm) | (exfalso; omega)))
  refine R.go 3 (k8 ((i : Int) + 1) ?_)
  exact R.go 2 (k22 R1 (N2 (i + 1) [0, 1, 7, 8] none _ (by kernel_rfl) (by kernel_rfl) ⟨(by omega), (by rw [‹fidxI (fixP n) a 0 = _›]; exact fidxI_miss (by omega) (fix_ne (fun e => (by assumption : ¬ (shl64 1 n) - 1 = a.getD i 0) e.symm)))⟩ (by show (a.length - (i + 1)) < (a.length - i); omega)))
 exact R.go 5 (k23 (AI (-1)) (by first | (apply congrArg AI; rw [‹fidxI (fixP n) a 0 = _›]; first | exact (fidxI_end (by omega)).symm | exact (fidxI_hit (by omega) (fix_eq (Eq.symm (by assumption)))).symm) | (exfalso; omega)))
theorem imageI_c (n : Int) (xs : List Int) (m : Int) (hR : okFr n xs = true) (hm : InM n.toNat m) : CallA Tryz.prog 166 [LI xs, AI m] (AI (img xs m xs.length)) := by
 have hF := okFr_rel hR
 have hRel : RelOK n.toNat xs := hF.2.2.2
 have hb0 : 0 ≤ n ∧ n ≤ 8 ∧ (xs.length : Int) = n := ⟨hF.1, hF.2.1, hF.2.2.1⟩
 have hN8 : n.toNat ≤ 30 := by omega
 have hm61 := inM_mono (n' := 61) (by omega) hm
 refine CallA.of Tryz.func166 rfl (by kernel_rfl) (R.go 12 (k20 true (membersOf_c m (by first | assumption | exact inM61 (by omega) (by omega))).frz (R.go 4 (k21 ((fun | (t, r) => (⟨(frm 23 [(0, LI xs), (5, AI r), (9, LI (mem m)), (10, AI ((mem m).length)), (11, AI (t : Int))]), []⟩ : St) : Nat × Int → St)) (fun | (t, r) => (t ≤ (mem m).length) ∧ (r = imgL xs ((mem m).take t))) (fun | (t, r) => (mem m).length - t) (0, 0) [0, 5, 9, 10, 11] none ⟨(by omega), (by rfl)⟩ ?_))))
 rintro ⟨t, r⟩ ⟨h4_1, rfl⟩ R1 N2
 have hml := mem_le m
 have hjr := fun h : t < (mem m).length => mem_lt' (N := n.toNat) (by omega) hm h
 refine R.go 5 (k9 ((t : Int) < ((mem m).length : Int)) (fun c5 => ?_) (fun c5 => ?_))
 ·refine R.go 5 (k15 eI (mem m) 0 t (t : Int) eI_len ?_)
  have hj2 := hjr (by omega)
  refine R.go 7 (k15 eI xs 0 ((((mem m).getD t 0)).toNat) ((mem m).getD t 0) eI_len ?_ (hji := by omega))
  refine R.go 6 (k8 ((t : Int) + 1) ?_)
  exact R.go 2 (k22 R1 (N2 (t + 1, bor (imgL xs ((mem m).take t)) (xs.getD ((((mem m).getD t 0)).toNat) 0)) [0, 5, 9, 10, 11] none _ (by kernel_rfl) (by kernel_rfl) ⟨(by omega), (by exact imgL_snoc (by omega))⟩ (by show ((mem m).length - (t + 1)) < ((mem m).length - t); omega)))
 exact R.go 6 (k23 (AI (imgL xs ((mem m).take t))) (by first | (rw [← img_eq hRel hN8 hm, List.take_of_length_le (by omega)]) | (exfalso; omega)))
theorem isUpset_c (n : Int) (xs : List Int) (m : Int) (hR : okFr n xs = true) (hm : InM n.toNat m) (ho : outR n m = false) : CallA Tryz.prog 83 [.agg [AI n, LI xs], AI m] (.bool (decide (img xs m xs.length = m))) := by
 refine CallA.of Tryz.func83 rfl (by kernel_rfl) (R.go 10 (k20 true (isMask_c n m) ?_))
 iterate 4 refine R.go 1 (k12 true (bnT ho) ?_)
 refine k20 true (imageI_c n xs m hR hm) (k12 true (bnT ho) (R.go 1 (k12 true (bnT ho) (R.go 1 (k14 true (bnT ho) ?_)))))
 exact R.go 2 (k23 (.bool (decide ((img xs m xs.length) = m))) (by first | (rfl) | (exfalso; omega)))
theorem upsets_c (n : Int) (xs : List Int) (hP : okPo n xs = true) : CallA Tryz.prog 29 [.agg [AI n, LI xs]] (ownA eI 2 1 (upL n xs)) := by
 have hR := okPo_fr hP
 have hF := okFr_rel hR
 have hRel : RelOK n.toNat xs := hF.2.2.2
 have hb0 : 0 ≤ n ∧ n ≤ 8 ∧ (xs.length : Int) = n := ⟨hF.1, hF.2.1, hF.2.2.1⟩
 have hN8 : n.toNat ≤ 30 := by omega
 have hs8 := shl_8 hF.1 hF.2.1
 refine CallA.of Tryz.func29 rfl (by kernel_rfl) (R.go 13 (k20 true (pAll_c n xs (by omega) (by omega)) (k8 (((shl64 1 n) - 1) + 1) (R.go 3 (R.nil 3 2 1 (by kernel_rfl) (k21 ((fun | (k, out) => (⟨(frm 20 [(1, .ptr 0 0), (3, .ref 1), (7, AI (((shl64 1 n) - 1) + 1)), (8, AI (k : Int))]), [.box 29 [AI n, LI xs], rowA eI 2 1 out]⟩ : St) : Nat × (List Int) → St)) (fun | (k, out) => ((k : Int) ≤ shl64 1 n) ∧ (out = upTo xs k)) (fun | (k, out) => (shl64 1 n).toNat - k) (0, []) [1, 3, 7, 8] none ⟨(by omega), (by rfl)⟩ ?_))))))
 rintro ⟨k, out⟩ ⟨h4_1, rfl⟩ R1 N2
 have hul := upTo_len xs k
 refine R.go 5 (k9 ((k : Int) < (((shl64 1 n) - 1) + 1)) (fun c5 => ?_) (fun c5 => ?_))
 ·have hkm := nat_inM (k := k) hb0.1 hb0.2.1 (by omega)
  have hko := outR_no (m := (k : Int)) hb0.1 hb0.2.1 (by omega)
  refine R.go 12 (k20 true (isUpset_c n xs (k : Int) (by assumption) (by assumption) (by assumption)) (R.go 1 (k9 (img xs (k : Int) xs.length = (k : Int)) (fun c6 => ?_) (fun c6 => ?_))))
  ·refine R.go 4 (k19 eI (upTo xs k) [(k : Int)] 1 2 1 8 eI_one (R.go 4 (k8 ((k : Int) + 1) ?_)))
   exact R.go 2 (k22 R1 (N2 (k + 1, (upTo xs k) ++ [(k : Int)]) [1, 3, 7, 8] (some [0, 1]) _ (by kernel_rfl) (by kernel_rfl) ⟨(by omega), (by first | exact upTo_yes (by assumption) | exact upTo_no (by assumption))⟩ (by show ((shl64 1 n).toNat - (k + 1)) < ((shl64 1 n).toNat - k); omega)))
  refine R.go 3 (k8 ((k : Int) + 1) ?_)
  exact R.go 2 (k22 R1 (N2 (k + 1, upTo xs k) [1, 3, 7, 8] none _ (by kernel_rfl) (by kernel_rfl) ⟨(by omega), (by first | exact upTo_yes (by assumption) | exact upTo_no (by assumption))⟩ (by show ((shl64 1 n).toNat - (k + 1)) < ((shl64 1 n).toNat - k); omega)))
 exact R.go 6 (k23 (ownA eI 2 1 (upTo xs k)) (by first | (show ownA eI _ 1 (upTo xs k) = ownA eI _ 1 (upL n xs); rw [upL, show k = (shl64 1 n).toNat by omega]) | (exfalso; omega)))
theorem szPoset_c (n : Int) (xs : List Int) (k : Int) (hk : (k : Int) ≤ 1048576) (hx : (xs.length : Int) ≤ k) : CallA Tryz.prog 5 [.agg [AI n, LI xs], AI k] (AI ((k : Int) - xs.length)) := by
 refine CallA.of Tryz.func5 rfl (by kernel_rfl) (R.go 10 (k20 true (szInt64S_c xs k hk hx) (R.go 8 (k9 (((k : Int) - xs.length) < 0) (fun c1 => ?_) (fun c1 => ?_)))))
 ·exact R.go 4 (k23 (AI (-1)) (by first | (rfl) | (exfalso; omega)))
 exact R.go 6 (k23 (AI ((k : Int) - xs.length)) (by rfl))
theorem szPoset_no (n : Int) (xs : List Int) (k : Int) (hk : (0 : Int) ≤ k ∧ (k : Int) ≤ 1048576) (hx : (k : Int) < xs.length) (hl : xs.length ≤ 9223372036854775807) : CallA Tryz.prog 5 [.agg [AI n, LI xs], AI k] (AI (-1)) := by
 refine CallA.of Tryz.func5 rfl (by kernel_rfl) (R.go 10 (k20 true (szInt64S_no xs k hk hx hl) ?_))
 exact R.go 13 (k23 (AI (-1)) (by rfl))
theorem toPoset_c (n : Int) (xs : List Int) (hl : xs.length ≤ 1048576) : CallA Tryz.prog 7 [.agg [AI n, LI xs]] (.agg [AI n, ownA eI 2 1 xs]) := by
 refine CallA.of Tryz.func7 rfl (by kernel_rfl) (R.go 20 (k20 true (toInt64S_c xs hl) ?_))
 exact R.go 8 (k23 (.agg [AI n, ownA eI 2 1 xs]) (by rfl))
theorem eqPoset_c (n : Int) (xs : List Int) (la : xs.length ≤ 1000000000) : CallA Tryz.prog 10 [.agg [AI n, LI xs], .agg [AI n, LI xs]] (.bool true) := by
 refine CallA.of Tryz.func10 rfl (by kernel_rfl) (R.go 15 (k11 (nF rfl) ?_ (b := (!decide (n = n)))))
 refine R.go 8 (k20 true (eqInt64S_c xs xs la) (R.go 2 (k11 (nF rfl) ?_ (b := (!decide (xs = xs))))))
 exact R.go 5 (k23 (.bool true) (by rfl))
end Go.Proofs.YtehbliocfpppoaaGreat

/-! The machine's rules: loops over functions. -/
namespace Go.Abs
open Go.RowKit
theorem HRel.extend0 {w w' : World} {Z : Nat → Prop} {B : Nat} {μ : List Value} {hp : List AObj} {u : Value} {o : AObj} (h : HRel w Z B μ hp)
  (hb : Below w.heap.size w w') (hnew : ObjRel w' Z (μ ++ [u]) B u o) (hbl : blk u = none) (hone : u.oneCell' = true) : HRel w' Z B (μ ++ [u]) (hp ++ [o]) := by
 have hold : ∀ (i : Nat) (x : Value), μ[i]? = some x → (μ ++ [u])[i]? = some x := fun i x hx => by
  rw [List.getElem?_append_left (List.getElem?_eq_some_iff.1 hx).1]; exact hx
 have hbk : ∀ (i : Nat) oi ui g, hp[i]? = some oi → oi.alive = true → μ[i]? = some ui → blk ui = some g → g < w.heap.size := fun i oi ui g h1 h2 h3 h4 => ((h.obj i oi ui h1 h3).blk_ge h2 h4).2
 have split : ∀ (i : Nat) oi ui, (hp ++ [o])[i]? = some oi → (μ ++ [u])[i]? = some ui → (hp[i]? = some oi ∧ μ[i]? = some ui) ∨ (i = hp.length ∧ oi = o ∧ ui = u) := by
  intro i oi ui h1 h2
  rcases Nat.lt_trichotomy i hp.length with hi | hi | hi
  ·rw [List.getElem?_append_left hi] at h1
   rw [List.getElem?_append_left (by rw [h.len]; exact hi)] at h2
   exact .inl ⟨h1, h2⟩
  ·subst hi
   rw [List.getElem?_append_right (Nat.le_refl _)] at h1
   rw [List.getElem?_append_right (by rw [h.len]; exact Nat.le_refl _), h.len] at h2
   simp at h1 h2
   exact .inr ⟨rfl, h1.symm, h2.symm⟩
  ·rw [List.getElem?_eq_none (by simp; omega)] at h1
   cases h1
 refine ⟨by simp [h.len], fun i oi ui g h1 ha h2 hg => ?_, fun i x hx => ?_, fun i oi ui h1 h2 => ?_, fun i j oi oj ui uj g hne h1 h2 a1 a2 m1 m2 b1 b2 => ?_⟩
 ·rcases split i oi ui h1 h2 with ⟨e1, e2⟩ | ⟨_, rfl, rfl⟩
  ·exact h.zone i oi ui g e1 ha e2 hg
  ·rw [hbl] at hg; cases hg
 ·rcases Nat.lt_or_ge i μ.length with hi | hi
  ·rw [List.getElem?_append_left hi] at hx
   exact h.one i x hx
  ·rw [List.getElem?_append_right hi] at hx
   have : x = u := by
    rcases Nat.eq_zero_or_pos (i - μ.length) with h0 | h0
    ·rw [h0] at hx; simpa using hx.symm
    ·rw [List.getElem?_eq_none (by simp; omega)] at hx; cases hx
   subst this
   exact hone
 ·rcases split i oi ui h1 h2 with ⟨e1, e2⟩ | ⟨_, rfl, rfl⟩
  ·cases ho : oi.alive with
   | true => exact (h.obj i oi ui e1 e2).keep (fun b hb1 _ => hb.block b hb1) hold (fun g hg => hb.block g (hbk i oi ui g e1 ho e2 hg))
   | false => exact (h.obj i oi ui e1 e2).keep_dead (fun b hb1 _ => hb.block b hb1) hold ho
  ·exact hnew
 ·rcases split i oi ui h1 m1 with ⟨e1, e2⟩ | ⟨_, rfl, rfl⟩ <;> rcases split j oj uj h2 m2 with ⟨e3, e4⟩ | ⟨_, rfl, rfl⟩
  ·exact h.sep i j oi oj ui uj g hne e1 e3 a1 a2 e2 e4 b1 b2
  ·rw [hbl] at b2; cases b2
  ·rw [hbl] at b1; cases b1
  ·rw [hbl] at b1; cases b1
theorem HRel.turn {w : World} {Z : Nat → Prop} {B : Nat} {μ : List Value} {hp : List AObj} {i r : Nat} {o o' : Obj} {x' : Inert} (h : HRel w Z B μ hp) (hr : w.heap[r]? = some o) (hn : o.isCells = false)
  (hi : ∀ j x, hp[j]? = some (.inert x) → j = i) (hnew : ∀ u, μ[i]? = some u → InertRel (w.putObj r o') Z B u x') : HRel (w.putObj r o') Z B μ (hp.set i (.inert x')) := by
 have get : ∀ (j : Nat) oj, (hp.set i (.inert x'))[j]? = some oj → (j = i ∧ oj = .inert x') ∨ (hp[j]? = some oj ∧ ∀ x, oj ≠ .inert x) := by
  intro j oj hj
  by_cases hji : j = i
  ·subst hji
   rcases Nat.lt_or_ge j hp.length with hlt | hge
   ·rw [List.getElem?_set_self hlt] at hj; simp at hj; exact .inl ⟨rfl, hj.symm⟩
   ·rw [List.getElem?_eq_none (by simpa using hge)] at hj; cases hj
  ·rw [List.getElem?_set_ne (Ne.symm hji)] at hj
   exact .inr ⟨hj, fun x e => hji (hi j x (by rw [hj, e]))⟩
 refine ⟨by simpa using h.len, fun j o u g h1 ha h2 hg => ?_, h.one, fun j oj u h1 h2 => ?_, fun j k oj ok uj uk g hne h1 h2 a1 a2 m1 m2 b1 b2 => ?_⟩
 ·rcases get j o h1 with ⟨rfl, rfl⟩ | ⟨h1, _⟩
  ·have := (hnew u h2).blk
   rw [this] at hg; cases hg
  ·exact h.zone j o u g h1 ha h2 hg
 ·rcases get j oj h1 with ⟨rfl, rfl⟩ | ⟨h1, hx⟩
  ·exact hnew u h2
  ·exact (h.obj j oj u h1 h2).turn hr hn hx
 ·rcases get j oj h1 with ⟨rfl, rfl⟩ | ⟨h1, _⟩
  ·rw [(hnew uj m1).blk] at b1; cases b1
  ·rcases get k ok h2 with ⟨rfl, rfl⟩ | ⟨h2, _⟩
   ·rw [(hnew uk m2).blk] at b2; cases b2
   ·exact h.sep j k oj ok uj uk g hne h1 h2 a1 a2 m1 m2 b1 b2
theorem oneInert_at {hp : List AObj} (h : oneInert hp = true) {i : Nat} {y : Inert} (hi : hp[i]? = some (.inert y)) : ∀ j x, hp[j]? = some (.inert x) → j = i := fun j x hj => oneInert_sound h j i x y hj hi
def lstAt (i : Nat) (hp : List AObj) : Option (Nat × LSt) :=
 match hp[i]? with
 | some (.inert (.lrec D s _ _ _ _)) => if oneInert hp then some (D, s) else none
 | _ => none
theorem lstAt_parts {i D : Nat} {s : LSt} {hp : List AObj} (h : lstAt i hp = some (D, s)) : (∃ us ps asg bd, hp[i]? = some (.inert (.lrec D s us ps asg bd))) ∧ oneInert hp = true := by
 unfold lstAt at h
 split at h
 ·rename_i D' s' us ps asg bd hi
  split at h
  ·cases h
   exact ⟨⟨us, ps, asg, bd, hi⟩, by assumption⟩
  ·cases h
 ·cases h
def Inert.to (s : LSt) : Inert → Inert
 | .lrec D _ us ps asg bd => .lrec D s us ps asg bd
 | x => x
def setL (i : Nat) (s : LSt) (hp : List AObj) : List AObj :=
 match hp[i]? with
 | some (.inert x) => hp.set i (.inert (x.to s))
 | _ => hp
def Inert.over : Inert → Inert
 | .lrec D _ _ _ _ _ => .mark D
 | x => x
def setM (i : Nat) (hp : List AObj) : List AObj :=
 match hp[i]? with
 | some (.inert x) => hp.set i (.inert x.over)
 | _ => hp
theorem HRel.turnL {w : World} {Z : Nat → Prop} {B D i : Nat} {μ : List Value} {hp : List AObj} {s : LSt} {us : List Value} {ps : Array Tmp} {asg bd : Code} (h : HRel w Z B μ hp) (h1 : oneInert hp = true)
  (hi : hp[i]? = some (.inert (.lrec D s us ps asg bd))) :
  ∃ r : Loop, w.heap[D + 1]? = some (.loop r) ∧ r.state = s.state ∧ r.pending = s.pend ∧ r.tmps = us.toArray ∧ r.params = ps ∧ r.assign = asg ∧ r.body = bd ∧ B ≤ D ∧ w.heap[D]? = some (.deferred (some [])) ∧ μ[i]? = some (.func (.yield (D + 1)) #[] #[]) ∧
   (∀ s' : LSt, HRel (w.putObj (D + 1) (.loop { r with state := s'.state, pending := s'.pend })) Z B μ (setL i s' hp)) ∧
   (∀ o', HRel (w.putObj (D + 1) o') Z B μ (setM i hp)) := by
 have hil : i < μ.length := by rw [h.len]; exact (List.getElem?_eq_some_iff.1 hi).1
 obtain ⟨u, hu⟩ : ∃ u, μ[i]? = some u := ⟨_, List.getElem?_eq_getElem hil⟩
 obtain ⟨fn, rfl, ⟨⟨hB, hz⟩, hD⟩, hz2, hl⟩ := h.obj i _ u hi hu
 refine ⟨_, hl, rfl, rfl, rfl, rfl, rfl, rfl, hB, hD, hu, fun s' => ?_, fun o' => ?_⟩
 ·unfold setL
  rw [hi]
  refine h.turn hl rfl (oneInert_at h1 hi) fun u' hu' => ?_
  rw [hu] at hu'
  cases hu'
  exact ⟨fn, rfl, ⟨⟨hB, hz⟩, (World.putObj_heap_other (by omega)).trans hD⟩, hz2, World.putObj_heap_same (Array.getElem?_eq_some_iff.1 hl).1⟩
 ·unfold setM
  rw [hi]
  refine h.turn hl rfl (oneInert_at h1 hi) fun u' hu' => ?_
  rw [hu] at hu'
  cases hu'
  exact ⟨rfl, ⟨hB, hz⟩, (World.putObj_heap_other (by omega)).trans hD⟩
def setPs : List Tmp → List AV → List AV → List AV
 | p :: ps, v :: vs, fr => setPs ps vs (fr.set p v)
 | _, _, fr => fr
theorem setPs_rel {w : World} {Z : Nat → Prop} {μ : List Value} : ∀ {ps : List Tmp} {avs : List AV} {vs : List Value} {fr : List AV} {tmps : Array Value}, RelL w Z μ avs vs → RelL w Z μ fr tmps.toList → ps.length = avs.length →
  RelL w Z μ (setPs ps avs fr) ((ps.zip vs).foldl (fun t (x : Tmp × Value) => t.setIfInBounds x.1 x.2) tmps).toList
 | [], [], vs, fr, tmps, _, h, _ => by simpa [setPs] using h
 | p :: ps, c :: cs, vs, fr, tmps, hv, h, hl => by
  rw [RelL] at hv
  obtain ⟨x, xs, rfl, h1, h2⟩ := hv
  simp only [setPs, List.zip_cons_cons, List.foldl_cons]
  refine setPs_rel h2 ?_ (by simpa using hl)
  rw [Array.toList_setIfInBounds]
  exact h.set p h1
 | [], _ :: _, _, _, _, _, _, hl => by simp at hl
 | _ :: _, [], _, _, _, _, _, hl => by simp at hl

def rfAt (m : M) : Option (FuncId × List AV) :=
 match m.ks with
 | .code (.rangeFunc g _ _ _) :: _ => match ev m.st.fr g with
  | .fn f caps => if noMark m.st.hp then some (f, caps) else none
  | _ => none
 | _ => none
def recM (D : Nat) (us : List Value) (m : M) : AObj :=
 match m.ks with
 | .code (.rangeFunc _ ps asg bd) :: _ => .inert (.lrec D .ready us ps asg bd)
 | _ => .dead
def afterM (j : Option Code) (m : M) (fr : List AV) (hp : List AObj) : M :=
 match m.ks with
 | .code (.rangeFunc _ _ _ _) :: ks => match j with
  | none => ⟨ks, ⟨fr, hp⟩⟩
  | some c => ⟨.code c :: ks, ⟨fr, hp⟩⟩
 | _ => m
def rangeQ (P : Program) (fn : Func) (m : M) (n D : Nat) (us : List Value) (Q : Exit → St → Prop) : Exit → St → Prop := fun e st' =>
  (e = .normal ∨ e = .ret) ∧ ∃ res fr' s, resIn P fn st' = some res ∧ frameAt n st' = some (us, fr') ∧ lstAt (n + 1) st'.hp = some (D, s) ∧
    (match s with
     | .busy => False
     | s => Runs none P (afterM s.pend m fr' (setM (n + 1) (st'.hp.set n .dead))) Q)
section
variable {P : Program} {m : M} {Q : Exit → St → Prop}
theorem oneInert_dead : ∀ {hp : List AObj} (n : Nat), oneInert hp = true → oneInert (hp.set n .dead) = true
 | [], n, h => by simpa using h
 | o :: hp, 0, h => by
  unfold oneInert at h
  simp only [List.set_cons_zero, oneInert, isInert, Bool.false_eq_true, if_false]
  split at h
  ·rename_i ho
   clear ho
   induction hp with
   | nil => rfl
   | cons o hp ih =>
    simp only [List.all_cons, Bool.and_eq_true] at h
    simp only [oneInert]
    rw [if_neg (by simpa using h.1)]
    exact ih h.2
  ·exact h
 | o :: hp, n + 1, h => by
  unfold oneInert at h
  simp only [List.set_cons_succ, oneInert]
  split at h
  ·rename_i ho
   rw [if_pos ho, List.all_eq_true]
   intro o' ho'
   rcases List.mem_or_eq_of_mem_set ho' with h1 | rfl
   ·exact List.all_eq_true.1 h o' h1
   ·rfl
  ·rename_i ho
   rw [if_neg ho]
   exact oneInert_dead n h
theorem R.range {f : FuncId} {fn : Func} {c : Code} {caps : List AV} (hf : P.funcs[f]? = some fn) (hb : fn.body = some c) (hnm : (fn.name == "runtime.NumGoroutine") = false) (h : rfAt m = some (f, caps))
  (h' : ∀ (D : Nat) (us : List Value), Runs none P ⟨[.code c], ⟨frameOf fn.ntmps (.ref (m.st.hp.length + 1) :: caps), m.st.hp ++ [.frame us m.st.fr] ++ [recM D us m]⟩⟩ (rangeQ P fn m m.st.hp.length D us Q)) : Runs none P m Q := by
 have hen := enters_of hf hnm (by rw [hb]; rfl)
 obtain ⟨ks, ⟨fr, hp⟩⟩ := m
 unfold rfAt at h
 simp only at h
 rw [runs_iff]
 split at h
 ·rename_i g ps asg bd ks'
  split at h
  ·rename_i f' caps' hg
   split at h
   ·rename_i hnmk
    cases h
    simp only [recM] at h'
    simp only [RunsK]
    intro Z0 w0 a w hS
    obtain ⟨μ, F, hFb, hH, hF, hd, hbel⟩ := hS
    have hd0 := hd.none hnmk
    refine wpIn_rangeFunc ?_
    intro fnid _
    have hgv := hg ▸ ev_rel hF g
    simp only [Rel] at hgv
    obtain ⟨cv, hgv, hcr⟩ := hgv
    obtain ⟨rec, hrec⟩ : ∃ rec : Loop, rec = { state := .ready, pending := none, fn := fnid, tmps := a.tmps, params := ps, assign := asg, body := bd, defers := w.heap.size } := ⟨_, rfl⟩
    obtain ⟨W1, hW1⟩ : ∃ W1, (w.alloc (.deferred (some []))).alloc (.loop rec) = W1 := ⟨_, rfl⟩
    have hL1 : W1.heap[w.heap.size + 1]? = some (.loop rec) := by
     rw [← hW1]; have := World.alloc_heap_new (w.alloc (.deferred (some []))) (.loop rec); rwa [World.size_alloc] at this
    have hK1 : W1.heap[w.heap.size]? = some (.deferred (some [])) := by
     rw [← hW1]; exact (Below.heap_alloc _ _ _ (by simp)).trans (World.alloc_heap_new w _)
    have hsz : W1.heap.size = w.heap.size + 2 := by rw [← hW1]; simp
    have hb1 : Below w.heap.size w W1 := by
     rw [← hW1]; exact ((Below.refl _ w).alloc (Nat.le_refl _) _).alloc (by simp) _
    refine ⟨w.heap.size + 1, [{ target := .collected w.heap.size, args := #[] }], W1, { target := .fn (.func f) cv.toArray, args := #[.func (.yield (w.heap.size + 1)) #[] #[]] }, W1, f,
     #[.func (.yield (w.heap.size + 1)) #[] #[]] ++ cv.toArray, W1, ?_, ?_, fun _ _ => trivial, ?_, fun hd => absurd hd (by simp [Fc, Fence.wide]), ?_⟩
    ·rw [← hW1, hrec]; exact run_enterLoop_outer _ _ _ _ _
    ·simp only [resolve, hgv]
     simp [go_sem]
    ·simp [invoke, go_sem, hen _ W1]
    ·
     have hrun := h' w.heap.size a.tmps.toList
     simp only [runs_iff, RunsK] at hrun
     have hFb2 : ∀ b, (F b ∨ b = w.heap.size ∨ b = w.heap.size + 1) → w0.heap.size ≤ b ∧ b < W1.heap.size := fun b hb => by
      have hB := hbel.size
      rcases hb with hb | rfl | rfl
      ·have := hFb b hb; omega
      ·omega
      ·omega
     have hz : ∀ b, b < w.heap.size → ¬ Zone Z0 F w0.heap.size b → ¬ Zone Z0 (fun b => F b ∨ b = w.heap.size ∨ b = w.heap.size + 1) w0.heap.size b := fun b _ hb => zone_more (F' := fun b => b = w.heap.size ∨ b = w.heap.size + 1) b hb
     have hzz : ∀ b, b < w.heap.size → Zone Z0 F w0.heap.size b → Zone Z0 (fun b => F b ∨ b = w.heap.size ∨ b = w.heap.size + 1) w0.heap.size b := fun b hb h => h.elim .inl fun h2 => .inr ⟨h2.1, fun hf => hf.elim h2.2 (fun h3 => by omega)⟩
     have hnz : ∀ b, w.heap.size ≤ b → b ≤ w.heap.size + 1 → ¬ Zone Z0 (fun b => F b ∨ b = w.heap.size ∨ b = w.heap.size + 1) w0.heap.size b := fun b h1 h2 h => by
      have hB := hbel.size
      rcases h with h | h
      ·omega
      ·exact h.2 (.inr (by omega))
     have hH1 := (hH.weak hz hzz).extend0 (u := .bool false) (o := .frame a.tmps.toList fr) (Below.refl _ _) (RelL.keep (w := w) (fun _ _ _ => rfl) (fun i u hu => append_old i u hu) (hF.weak hz)) rfl rfl
     have hH2 := hH1.extend0 (u := .func (.yield (w.heap.size + 1)) #[] #[]) (o := .inert (.lrec w.heap.size .ready a.tmps.toList ps asg bd)) hb1
      ⟨fnid, rfl, ⟨⟨hbel.size, hnz _ (Nat.le_refl _) (by omega)⟩, hK1⟩, hnz _ (by omega) (Nat.le_refl _), by rw [hL1, hrec]; rfl⟩ rfl rfl
     have hlen := hcr.length
     have hkeep : ∀ {cs : List AV} {vs : List Value}, RelL w (Zone Z0 F w0.heap.size) μ cs vs → RelL W1 (Zone Z0 (fun b => F b ∨ b = w.heap.size ∨ b = w.heap.size + 1) w0.heap.size) (μ ++ [.bool false] ++ [.func (.yield (w.heap.size + 1)) #[] #[]]) cs vs := fun h =>
      RelL.keep (w := w) (fun b hb _ => hb1.block b hb) (fun i u hu => append_old i u (append_old i u hu)) (h.weak hz)
     have hS2 : Sim Z0 w0 ⟨frameOf fn.ntmps (.ref (hp.length + 1) :: caps), hp ++ [.frame a.tmps.toList fr] ++ [.inert (.lrec w.heap.size .ready a.tmps.toList ps asg bd)]⟩
       { tmps := (#[Value.func (.yield (w.heap.size + 1)) #[] #[]] ++ cv.toArray) ++ Array.replicate (fn.ntmps - (#[Value.func (.yield (w.heap.size + 1)) #[] #[]] ++ cv.toArray).size) undef, defers := [] } W1 := by
      refine ⟨_, _, hFb2, hH2, ?_, .inl rfl, hbel.trans (hb1.mono hbel.size)⟩
      have hall : RelL W1 (Zone Z0 (fun b => F b ∨ b = w.heap.size ∨ b = w.heap.size + 1) w0.heap.size) (μ ++ [.bool false] ++ [.func (.yield (w.heap.size + 1)) #[] #[]]) (.ref (hp.length + 1) :: caps) (.func (.yield (w.heap.size + 1)) #[] #[] :: cv) := by
       refine RelL.cons ?_ (hkeep hcr)
       simp only [Rel]
       rw [← hH.len]
       simp
      have e1 : (#[Value.func (.yield (w.heap.size + 1)) #[] #[]] ++ cv.toArray) = (Value.func (.yield (w.heap.size + 1)) #[] #[] :: cv).toArray := by simp
      rw [e1]
      have hl2 := hall.length
      simp only [Array.toList_append, Array.toList_replicate, List.size_toArray, hl2, frameOf]
      refine RelL.append hall ?_
      generalize fn.ntmps - (AV.ref (hp.length + 1) :: caps).length = n
      induction n with
      | zero => exact RelL.nil
      | succ n ih => exact RelL.cons (by simp [Rel]) ih
     refine callsIn_of_wp (F := Fc none) (n := 0 - 1) hf hb trivial (wpIn_mono (hrun Z0 w0 _ W1 hS2) ?_)
     have fin : ∀ (e : Exit) (st' : St) (a' : Act) (w' : World), rangeQ P fn ⟨.code (.rangeFunc g ps asg bd) :: ks', ⟨fr, hp⟩⟩ hp.length w.heap.size a.tmps.toList Q e st' → Sim Z0 w0 st' a' w' → a'.defers = [] ∧ ∃ v, (results fn a'.tmps).run P w' = .ok v w' ∧
       rangePost (Fc none) 0 P (w.heap.size + 1) (fun e a' w' => ∃ st', RunsK none P Q ks' e st' ∧ Sim Z0 w0 st' a' w') { a with defers := [{ target := .collected w.heap.size, args := #[] }] ++ a.defers } (.returned v) w' := by
      rintro e st' a' w' ⟨_, res, fr', s, hres, hfr, hls, hgo⟩ ⟨μ', F', hFb', hH', hF', hd', hbel'⟩
      obtain ⟨x, h1, h2⟩ := resIn_run hH' hF' hres
      obtain ⟨⟨us', ps', asg', bd', hi⟩, hone⟩ := lstAt_parts hls
      refine ⟨hd'.none (resIn_mark hres), x, h1, ?_⟩
      unfold frameAt at hfr
      split at hfr
      ·rename_i us2 fr2 hi2
       cases hfr
       have hil : hp.length < μ'.length := by rw [hH'.len]; exact (List.getElem?_eq_some_iff.1 hi2).1
       have hfrr : RelL w' (Zone Z0 F' w0.heap.size) μ' fr' a.tmps.toList := hH'.obj _ _ _ hi2 (List.getElem?_eq_getElem hil)
       have hi3 : (st'.hp.set hp.length .dead)[hp.length + 1]? = some (.inert (.lrec w.heap.size s us' ps' asg' bd')) := by
        rw [List.getElem?_set_ne (by omega)]; exact hi
       obtain ⟨r, hr1, hr2, hr3, _, _, _, _, hBD, hD, hμ, _, hM⟩ := (hH'.bury hp.length).turnL (oneInert_dead _ hone) hi3
       have hend := run_endLoop (P := P) hr1
       have hsim : Sim Z0 w0 ⟨fr', setM (hp.length + 1) (st'.hp.set hp.length .dead)⟩ { a with defers := [{ target := .collected w.heap.size, args := #[] }] ++ a.defers } (w'.putObj (w.heap.size + 1) (.loop { r with state := .exhausted })) := by
        refine ⟨μ', F', fun b hb => by rw [World.putObj_size]; exact hFb' b hb, hM _, hfrr.cells (putObj_cells hr1 rfl), .inr ⟨hp.length + 1, w.heap.size, _, ?_, hμ, by rw [hd0]; rfl⟩, ?_⟩
        ·unfold setM
         rw [hi3]
         simp only [Inert.over]
         rw [List.getElem?_set_self]
         have := (List.getElem?_eq_some_iff.1 hi3).1
         exact this
        ·exact hbel'.grown (grownBy_putObj' w' _ _) hbel'.size (fun k e => by cases e; omega)
       cases s with
       | ready =>
        refine ⟨none, w'.putObj (w.heap.size + 1) (.loop { r with state := .exhausted }), (hend (by rw [hr2]; simp [LSt.state])).trans (congrArg (fun x => Result.ok x _) hr3), ?_⟩
        simp only [runs_iff, afterM, LSt.pend] at hgo
        exact ⟨_, hgo, hsim⟩
       | busy => exact hgo.elim
       | done c =>
        refine ⟨some c, w'.putObj (w.heap.size + 1) (.loop { r with state := .exhausted }), (hend (by rw [hr2]; simp [LSt.state])).trans (congrArg (fun x => Result.ok x _) hr3), ?_⟩
        simp only [runs_iff, afterM, LSt.pend, RunsK] at hgo
        exact hgo Z0 w0 _ _ hsim
      ·cases hfr
     rintro e a' w' ⟨st', hq, hS'⟩
     cases e with
     | normal => exact fin _ st' a' w' hq hS'
     | ret => exact fin _ st' a' w' hq hS'
     | exit id => exact absurd hq.1 (by simp)
     | goto l => exact absurd hq.1 (by simp)
     | panic ch => exact absurd hq.1 (by simp)
     | outgrown => exact absurd hq.1 (by simp)
   ·cases h
  ·cases h
 ·cases h

def ylAt (m : M) : Option (Nat × Nat × List Value × List Value) :=
 match opM m with
 | some (.call c) => match c.callee with
  | .value f => match ev m.st.fr f with
   | .ref i => match m.st.hp[i]?, m.st.hp[i - 1]? with
    | some (.inert (.lrec D .ready us ps _ _)), some (.frame us' _) => if noMark m.st.hp && oneInert m.st.hp && decide (ps.size = c.args.size) then some (i, D, us, us') else none
    | _, _ => none
   | _ => none
  | _ => none
 | _ => none
def ylF (m : M) : List AV :=
 match opM m with
 | some (.call c) => match c.callee with
  | .value f => match ev m.st.fr f with
   | .ref i => match m.st.hp[i]?, m.st.hp[i - 1]? with
    | some (.inert (.lrec _ _ _ ps _ _)), some (.frame _ fr) => setPs ps.toList (c.args.toList.map (ev m.st.fr)) fr
    | _, _ => []
   | _ => []
  | _ => []
 | _ => []
def ylC (m : M) : Code × Code :=
 match opM m with
 | some (.call c) => match c.callee with
  | .value f => match ev m.st.fr f with
   | .ref i => match m.st.hp[i]? with
    | some (.inert (.lrec _ _ _ _ asg bd)) => (asg, bd)
    | _ => (.skip, .skip)
   | _ => (.skip, .skip)
  | _ => (.skip, .skip)
 | _ => (.skip, .skip)
def beginQ (l : Nat) (P : Program) (i D : Nat) (bd : Code) (Q : Exit → St → Prop) : Exit → St → Prop := fun e st' =>
 e = .normal ∧ lstAt i st'.hp = some (D, .ready) ∧ Runs (some l) P ⟨[.code bd], ⟨st'.fr, setL i .busy st'.hp⟩⟩ Q
def roundQ (P : Program) (m : M) (i D n : Nat) (us : List Value) (Q : Exit → St → Prop) : Exit → St → Prop := fun e st' =>
 ∃ fr', frameAt n st' = some (us, fr') ∧ lstAt i st'.hp = some (D, .busy) ∧
  match e with
  | .normal => Runs none P (backM m fr' (.bool true) (setL i .ready (st'.hp.set n .dead))) Q
  | .ret => Runs none P (backM m fr' (.bool false) (setL i (.done .ret) (st'.hp.set n .dead))) Q
  | .exit id => Runs none P (backM m fr' (.bool false) (setL i (.done (.exit id)) (st'.hp.set n .dead))) Q
  | _ => False
theorem R.yield (i D : Nat) (us : List Value) (h : ylAt m = some (i, D, us, us)) (ho : opsAt m = true)
  (h' : ∀ (l : Nat) (us' : List Value), Runs (some l) P ⟨[.code (ylC m).1], ⟨ylF m, m.st.hp ++ [.frame us' m.st.fr]⟩⟩ (beginQ l P i D (ylC m).2 (roundQ P m i D m.st.hp.length us' Q))) : Runs none P m Q := by
 obtain ⟨ks, ⟨fr, hp⟩⟩ := m
 unfold ylAt at h
 unfold ylF ylC at h'
 unfold opM headOf at h h'
 unfold opsAt at ho
 simp only at h ho h'
 rw [runs_iff]
 split at ho
 ·rename_i all o lst fl ks'
  simp only at h h'
  split at h
  ·rename_i c hop
   split at hop
   ·rename_i hw
    simp only [Option.some.injEq] at hop
    simp only [hw, if_true, hop] at h'
    split at h
    ·rename_i fo hcal
     simp only [hcal] at h'
     split at h
     ·rename_i i0 hev
      simp only [hev] at h'
      split at h
      ·rename_i D0 us0 ps asg bd us1 cfr hi0 hi1
       simp only [hi0, hi1] at h'
       split at h
       ·rename_i hc
        simp only [Bool.and_eq_true, decide_eq_true_eq] at hc
        obtain ⟨⟨hnmk, hone⟩, hps⟩ := hc
        simp only [Option.some.injEq, Prod.mk.injEq] at h
        obtain ⟨rfl, rfl, rfl, rfl⟩ := h
        simp only [RunsK]
        intro hW
        have hwant := wantH_true hw hW
        intro Z0 w0 a w hS
        obtain ⟨μ, F, hFb, hH, hF, hd, hbel⟩ := hS
        have hd0 := hd.none hnmk
        refine wpListIn_step fun K hK => ?_
        rw [wanted_rel hF hwant, if_pos rfl]
        have hE : ∀ y, Rel w (Zone Z0 F w0.heap.size) μ (ev fr y) (a.eval y) := fun y => ev_rel hF y
        have hcv := hev ▸ hE fo
        simp only [Rel] at hcv
        obtain ⟨r, hr1, hr2, hr3, hr4, hr5, hr6, hr7, hBD, hD, hμ, hL, _⟩ := hH.turnL hone hi0
        rw [hμ] at hcv
        have hcv : a.eval fo = .func (.yield (D0 + 1)) #[] #[] := (Option.some.inj hcv).symm
        have hargs' : RelL w (Zone Z0 F w0.heap.size) μ (c.args.toList.map (ev fr)) (c.args.toList.map a.eval) := by
         generalize c.args.toList = l
         induction l with
         | nil => exact RelL.nil
         | cons x l ih => exact RelL.cons (hE x) ih
        have hrun : (execOp a.eval o).run P w = .ok (.round (D0 + 1) r.fn ((ps.zip (c.args.map a.eval)).foldl (fun tmps (x : Tmp × Value) => tmps.setIfInBounds x.1 x.2) us1.toArray) asg bd) w := by
         have hy := run_yield (P := P) (args := c.args.map a.eval) hr1 (by rw [hr5, Array.size_map]; exact hps.symm)
         rw [hr4, hr5, hr6, hr7] at hy
         obtain ⟨callee, cargs, tys⟩ := c
         simp only at hcal hy
         subst hcal
         simp only [execOp, hop, resolve, Deferred.ofValue, hcv, Sem.run_bind, Sem.run_pure, Result.andThen_ok, invoke, Array.empty_append, Array.append_empty]
         exact hy
        refine wpIn_of_run (fun c' => by rw [hop]; simp) ?_
        rw [hrun, Oper.uponIn_round]
        refine ⟨fun hd => absurd hd (by simp [Fc, Fence.wide]), ?_⟩
        refine roundIn_of_wpIn (F := Fc none) trivial ?_
        have hrun2 := h' (D0 + 1) a.tmps.toList
        simp only [runs_iff, RunsK] at hrun2
        have hil : i0 - 1 < μ.length := by rw [hH.len]; exact (List.getElem?_eq_some_iff.1 hi1).1
        have hcfr : RelL w (Zone Z0 F w0.heap.size) μ cfr us1 := hH.obj _ _ _ hi1 (List.getElem?_eq_getElem hil)
        have hS2 : Sim Z0 w0 ⟨setPs ps.toList (c.args.toList.map (ev fr)) cfr, hp ++ [.frame a.tmps.toList fr]⟩ { tmps := (ps.zip (c.args.map a.eval)).foldl (fun tmps (x : Tmp × Value) => tmps.setIfInBounds x.1 x.2) us1.toArray, defers := [] } w := by
         refine ⟨μ ++ [.bool false], F, hFb, hH.extend0 (Below.refl _ _) (RelL.keep (w := w) (fun _ _ _ => rfl) (fun i u hu => append_old i u hu) hF) rfl rfl, ?_, .inl rfl, hbel⟩
         have := setPs_rel (ps := ps.toList) (tmps := us1.toArray) hargs' hcfr (by simpa using hps)
         refine RelL.keep (w := w) (fun _ _ _ => rfl) (fun i u hu => append_old i u hu) ?_
         rw [← Array.foldl_toList, Array.toList_zip, Array.toList_map]
         exact this
        refine wpIn_mono (hrun2 Z0 w0 _ w hS2) ?_
        rintro e a1 w1 ⟨st1, ⟨rfl, hls, hgo⟩, hS1⟩
        obtain ⟨⟨us2, ps2, as2, bd2, hj⟩, hone1⟩ := lstAt_parts hls
        obtain ⟨μ1, F1, hFb1, hH1, hF1, hd1, hbel1⟩ := hS1
        obtain ⟨r1, k1, k2, k3, k4, k5, k6, k7, kB, kD, kμ, kL, _⟩ := hH1.turnL hone1 hj
        refine ⟨_, run_beginRound k1 (by rw [k2]; rfl), ?_⟩
        have hbusy : ({ r1 with state := .busy } : Loop) = { r1 with state := LSt.busy.state, pending := LSt.busy.pend } := by
         rw [show LSt.busy.pend = r1.pending from k3.symm]; rfl
        have keepD : ∀ {hp' : List AObj} {μ' : List Value} {ds : List Deferred} (s : LSt), Defs μ' hp' ds → noMark hp' = true → Defs μ' (setL i0 s hp') ds := fun s h hn => .inl (h.none hn)
        have hS3 : Sim Z0 w0 ⟨st1.fr, setL i0 .busy st1.hp⟩ a1 (w1.putObj (D0 + 1) (.loop { r1 with state := .busy })) := by
         refine ⟨μ1, F1, fun b hb => by rw [World.putObj_size]; exact hFb1 b hb, by rw [hbusy]; exact kL .busy, hF1.cells (putObj_cells k1 rfl), ?_, hbel1.grown (grownBy_putObj' w1 _ _) hbel1.size (fun k e => by cases e; omega)⟩
         rcases hd1 with hd1 | ⟨i', D', u', e1, _, _⟩
         ·exact .inl hd1
         ·exfalso
          have := oneInert_at hone1 hj _ _ e1
          subst this
          rw [hj] at e1
          cases e1
        simp only [runs_iff, RunsK] at hgo
        refine wpIn_mono (hgo Z0 w0 _ _ hS3) ?_
        have fin : ∀ (s : LSt) (j : Option Code) (b : Bool) (st2 : St) (a2 : Act) (w2 : World) (fr2 : List AV), s.pend = j → s.state = (if j.isNone then LoopState.ready else LoopState.done) → b = j.isNone → frameAt hp.length st2 = some (a.tmps.toList, fr2) → lstAt i0 st2.hp = some (D0, .busy) → Sim Z0 w0 st2 a2 w2 →
          Runs none P (backM ⟨.ops all (o :: lst) fl :: ks', ⟨fr, hp⟩⟩ fr2 (.bool b) (setL i0 s (st2.hp.set hp.length .dead))) Q → ∃ v w3, (Instr.endRound (D0 + 1) j).run P w2 = .ok v w3 ∧ K (a.put o.dst v) w3 := by
         rintro s j b st2 a2 w2 fr2 rfl hst rfl hfr hls2 ⟨μ2, F2, hFb2, hH2, hF2, hd2, hbel2⟩ hgo2
         obtain ⟨⟨us3, ps3, as3, bd3, hj3⟩, hone2⟩ := lstAt_parts hls2
         unfold frameAt at hfr
         split at hfr
         ·rename_i us4 fr4 hi4
          cases hfr
          have hne : hp.length ≠ i0 := by
           intro e
           rw [e, hj3] at hi4
           cases hi4
          have hj4 : (st2.hp.set hp.length .dead)[i0]? = some (.inert (.lrec D0 .busy us3 ps3 as3 bd3)) := by
           rw [List.getElem?_set_ne hne]; exact hj3
          obtain ⟨r2, q1, q2, q3, _, _, _, _, qB, _, _, qL, _⟩ := (hH2.bury hp.length).turnL (oneInert_dead _ hone2) hj4
          refine ⟨_, _, run_endRound _ q1, hK _ _ ?_⟩
          have hil2 : hp.length < μ2.length := by rw [hH2.len]; exact (List.getElem?_eq_some_iff.1 hi4).1
          have hfrr : RelL w2 (Zone Z0 F2 w0.heap.size) μ2 fr2 a.tmps.toList := hH2.obj _ _ _ hi4 (List.getElem?_eq_getElem hil2)
          simp only [runs_iff, backM, RunsK] at hgo2
          refine hgo2 headW_false Z0 w0 _ _ ⟨μ2, F2, fun b hb => by rw [World.putObj_size]; exact hFb2 b hb, ?_, put_rel (hfrr.cells (putObj_cells q1 rfl)) _ (by simp [Rel]), by rw [put_defers']; exact .inl hd0, hbel2.grown (grownBy_putObj' w2 _ _) hbel2.size (fun k e => by cases e; omega)⟩
          rw [← hst]
          exact qL s
         ·cases hfr
        rintro e a2 w2 ⟨st2, ⟨fr2, hfr, hls2, hgo2⟩, hS4⟩
        cases e with
        | normal => exact fin .ready none true st2 a2 w2 fr2 rfl rfl rfl hfr hls2 hS4 hgo2
        | ret => exact fin (.done .ret) (some .ret) false st2 a2 w2 fr2 rfl rfl rfl hfr hls2 hS4 hgo2
        | exit id => exact fin (.done (.exit id)) (some (.exit id)) false st2 a2 w2 fr2 rfl rfl rfl hfr hls2 hS4 hgo2
        | goto l => exact hgo2.elim
        | panic ch => exact hgo2.elim
        | outgrown => exact hgo2.elim
       ·cases h
      ·cases h
     ·cases h
    ·cases h
   ·cases hop
  ·cases h
 ·cases ho
theorem R.begin {l i D : Nat} {bd : Code} (h : m.ks = []) (hl : lstAt i m.st.hp = some (D, .ready)) (h' : Runs (some l) P ⟨[.code bd], ⟨m.st.fr, setL i .busy m.st.hp⟩⟩ Q) : Runs (some l) P m (beginQ l P i D bd Q) := by
 obtain ⟨ks, st⟩ := m
 simp only at h hl h'
 subst h
 rw [runs_iff]
 exact ⟨rfl, hl, h'⟩
theorem R.round {l i D n : Nat} {m0 : M} {us : List Value} (fr' : List AV) (h : m.ks = []) (hf : frameAt n m.st = some (us, fr')) (hl : lstAt i m.st.hp = some (D, .busy))
  (h' : Runs none P (backM m0 fr' (.bool true) (setL i .ready (m.st.hp.set n .dead))) Q) : Runs (some l) P m (roundQ P m0 i D n us Q) := by
 obtain ⟨ks, st⟩ := m
 simp only at h hl h' hf
 subst h
 rw [runs_iff]
 exact ⟨fr', hf, hl, h'⟩
theorem R.over {fn : Func} {n D : Nat} {us : List Value} {m0 : M} (res : AV) (fr' : List AV) (h : (edAt m).isSome = true) (hr : resIn P fn m.st = some res) (hf : frameAt n m.st = some (us, fr')) (hl : lstAt (n + 1) m.st.hp = some (D, .ready))
  (h' : Runs none P (afterM none m0 fr' (setM (n + 1) (m.st.hp.set n .dead))) Q) : Runs none P m (rangeQ P fn m0 n D us Q) :=
 R.fin h ⟨.inl rfl, res, fr', .ready, hr, hf, hl, h'⟩ ⟨.inr rfl, res, fr', .ready, hr, hf, hl, h'⟩
theorem R.left {fn : Func} {n D : Nat} {us : List Value} {m0 : M} (c : Code) (res : AV) (fr' : List AV) (h : (edAt m).isSome = true) (hr : resIn P fn m.st = some res) (hf : frameAt n m.st = some (us, fr')) (hl : lstAt (n + 1) m.st.hp = some (D, .done c))
  (h' : Runs none P (afterM (some c) m0 fr' (setM (n + 1) (m.st.hp.set n .dead))) Q) : Runs none P m (rangeQ P fn m0 n D us Q) :=
 R.fin h ⟨.inl rfl, res, fr', .done c, hr, hf, hl, h'⟩ ⟨.inr rfl, res, fr', .done c, hr, hf, hl, h'⟩
end
end Go.Abs

/-! The machine's rules: slices without spare room; ways that meet again. -/
namespace Go.Abs
open Go.RowKit Go.ChangeShapes Go.WideShapes Go.Deep
section
variable {rd : Option Nat} {P : Program} {m : M} {Q : Exit → St → Prop} {α : Type}


def exM (i : Nat) (v : AV) (m : M) : M :=
 match m.ks with
 | .any ops listed n :: ks => match ops[i]? with
  | some o => ⟨.any ops (listed.setIfInBounds i true) (n - 1) :: ks, ⟨putF m.st.fr o.dst v, m.st.hp⟩⟩
  | none => m
 | _ => m

def meetQ (S : St) : Exit → St → Prop := fun e st => e = .normal ∧ st = S
theorem np_meet (S : St) : NoPanic (meetQ S) := fun _ _ h => by simp [meetQ] at h
def mtAt (m : M) : Bool :=
 match m.ks with
 | .code _ :: _ => true
 | _ => false
theorem R.meet (S : St) (h : mtAt m = true) (h1 : Runs rd P ⟨m.ks.take 1, m.st⟩ (meetQ S)) (h2 : Runs rd P ⟨m.ks.tail, S⟩ Q) : Runs rd P m Q := by
 obtain ⟨ks, st⟩ := m
 unfold mtAt at h
 simp only [runs_iff] at h h1 h2 ⊢
 split at h
 ·rename_i c ks'
  simp only [List.take_succ_cons, List.take_zero, List.tail_cons, RunsK] at h1 h2 ⊢
  refine h1.mono ?_
  rintro e st' ⟨rfl, rfl⟩
  exact h2
 ·cases h
theorem R.met {S : St} (h : m.ks = []) (hs : m.st = S) : Runs rd P m (meetQ S) := by
 obtain ⟨ks, st⟩ := m
 simp only at h hs
 subst h hs
 rw [runs_iff]
 exact ⟨rfl, rfl⟩
theorem k31 {S : St} (h : m.ks = [] := by kernel_rfl) (hs : m.st = S := by kernel_rfl) : Runs rd P m (meetQ S) := _root_.Go.Abs.R.met h hs
end

section
variable {H : Type} {enc : TypeId × Value → H} {P : Program} {w : World} {base : Nat} {spare : Nat → Bool} {held : Bool}
end
end Go.Abs

/-! Maps between posets: what both packages take for a p-morphism. -/
namespace Go.Proofs.YtehbliocfpppoaaGreat
open Go.RowKit Go.Abs
def eP (p : Int × List Int) : List AV := [AI p.1, LI p.2]
theorem eP_len (p : Int × List Int) : (eP p).length = 2 := rfl
theorem eP_one (p : Int × List Int) : (eP p).all AV.one = true := rfl

def imgF (ims : List Int) (L : List Int) : Int := L.foldl (fun o j => bor o (shl64 1 (ims.getD j.toNat 0))) 0
def mapM (ims : List Int) (m : Int) : Int := imgF ims (mem m)
theorem imgF_snoc {ims L : List Int} {t : Nat} (h : t < L.length) : bor (imgF ims (L.take t)) (shl64 1 (ims.getD (L.getD t 0).toNat 0)) = imgF ims (L.take (t + 1)) := by
 rw [List.take_succ_eq_append_getElem h, imgF, imgF, List.foldl_append, List.getD_eq_getElem?_getD (l := L), List.getElem?_eq_getElem h]
 rfl
def MorH (xs ys ims : List Int) : Prop := ims.length ≤ 8 ∧ ys.length ≤ 8 ∧ RelOK ims.length xs ∧ ∀ j : Nat, j < ims.length → 0 ≤ ims.getD j 0 ∧ ims.getD j 0 < (ys.length : Int)
def ImsH (ims : List Int) : Prop := ims.length ≤ 8 ∧ ∀ j : Nat, j < ims.length → 0 ≤ ims.getD j 0 ∧ ims.getD j 0 ≤ 61
theorem morH_i {xs ys ims : List Int} (h : MorH xs ys ims) : ImsH ims := ⟨h.1, fun j hj => by have := h.2.2.2 j hj; have := h.2.1; omega⟩
def MOR (xs ys ims : List Int) (x : Nat) : Prop := mapM ims (xs.getD x 0) = ys.getD (ims.getD x 0).toNat 0
instance (xs ys ims : List Int) (x : Nat) : Decidable (MOR xs ys ims x) := by unfold MOR; infer_instance
def morA (n : Int) (xs ys ims : List Int) : Bool := (List.range n.toNat).all fun x => decide (MOR xs ys ims x)
theorem morA_iff {n : Int} {xs ys ims : List Int} : morA n xs ys ims = true ↔ ∀ i : Nat, i < n.toNat → MOR xs ys ims i := by simp [morA]
theorem morA_no {n : Int} {xs ys ims : List Int} {i : Nat} (hi : i < n.toNat) (h : ¬ mapM ims (xs.getD i 0) = ys.getD (ims.getD i 0).toNat 0) : false = morA n xs ys ims := by
 cases e : morA n xs ys ims with
 | false => rfl
 | true => exact absurd (morA_iff.1 e i hi) h
theorem mapMask_c (ims : List Int) (m : Int) (hI : ImsH ims) (hm : InM ims.length m) : CallA Tryz.prog 90 [LI ims, AI m] (AI (mapM ims m)) := by
 have hi1 := hI.1
 have hm61 := inM_mono (n' := 61) (by omega) hm
 have hml := mem_le m
 have hiv := hI.2
 refine CallA.of Tryz.func90 rfl (by kernel_rfl) (R.go 12 (k20 true (membersOf_c m (by first | assumption | exact inM61 (by omega) (by omega))).frz (R.go 4 (k21 ((fun | (t, r) => (⟨(frm 24 [(0, LI ims), (5, AI r), (9, LI (mem m)), (10, AI ((mem m).length)), (11, AI (t : Int))]), []⟩ : St) : Nat × Int → St)) (fun | (t, r) => (t ≤ (mem m).length) ∧ (r = imgF ims ((mem m).take t))) (fun | (t, r) => (mem m).length - t) (0, 0) [0, 5, 9, 10, 11] none ⟨(by omega), (by rfl)⟩ ?_))))
 rintro ⟨t, r⟩ ⟨h4_1, rfl⟩ R1 N2
 have hjr := fun h : t < (mem m).length => mem_lt' (N := ims.length) (by omega) hm h
 have hiw := fun h : t < (mem m).length => hiv ((mem m).getD t 0).toNat (by have := hjr h; omega)
 refine R.go 5 (k9 ((t : Int) < ((mem m).length : Int)) (fun c5 => ?_) (fun c5 => ?_))
 ·refine R.go 5 (k15 eI (mem m) 0 t (t : Int) eI_len ?_)
  have hj2 := hjr (by omega)
  have hw2 := hiw (by omega)
  refine R.go 7 (k15 eI ims 0 ((((mem m).getD t 0)).toNat) ((mem m).getD t 0) eI_len ?_ (hji := by omega))
  refine R.go 1 (R.shl 1 (ims.getD ((((mem m).getD t 0)).toNat) 0) (by kernel_rfl) (by omega) (by kernel_rfl) (R.go 5 (k8 ((t : Int) + 1) ?_)))
  exact R.go 2 (k22 R1 (N2 (t + 1, bor (imgF ims ((mem m).take t)) (shl64 1 (ims.getD ((((mem m).getD t 0)).toNat) 0))) [0, 5, 9, 10, 11] none _ (by kernel_rfl) (by kernel_rfl) ⟨(by omega), (by exact imgF_snoc (by omega))⟩ (by show ((mem m).length - (t + 1)) < ((mem m).length - t); omega)))
 exact R.go 6 (k23 (AI (imgF ims ((mem m).take t))) (by first | (rw [mapM, List.take_of_length_le (by omega)]) | (exfalso; omega)))
theorem l21Images_c (m : Int) (ims : List Int) (hI : ImsH ims) (hm : InM ims.length m) : CallA Tryz.prog 146 [AI m, LI ims] (AI (mapM ims m)) := by
 have hi1 := hI.1
 have hm61 := inM_mono (n' := 61) (by omega) hm
 have hml := mem_le m
 have hiv := hI.2
 refine CallA.of Tryz.func146 rfl (by kernel_rfl) (R.go 7 (k20 true (l01ListM_c m (by first | assumption | exact inM61 (by omega) (by omega))).frz (R.go 9 (k21 ((fun | (t, r) => (⟨(frm 35 [(1, LI ims), (5, LI (mem m)), (6, AI r), (7, AI (t : Int))]), []⟩ : St) : Nat × Int → St)) (fun | (t, r) => (t ≤ (mem m).length) ∧ (r = imgF ims ((mem m).take t))) (fun | (t, r) => (mem m).length - t) (0, 0) [1, 5, 6, 7] none ⟨(by omega), (by rfl)⟩ ?_))))
 rintro ⟨t, r⟩ ⟨h4_1, rfl⟩ R1 N2
 have hjr := fun h : t < (mem m).length => mem_lt' (N := ims.length) (by omega) hm h
 have hiw := fun h : t < (mem m).length => hiv ((mem m).getD t 0).toNat (by have := hjr h; omega)
 refine R.go 8 (k9 ((t : Int) < ((mem m).length : Int)) (fun c5 => ?_) (fun c5 => ?_))
 ·have hj2 := hjr (by omega)
  have hw2 := hiw (by omega)
  refine R.go 8 (k15 eI (mem m) 0 t (t : Int) eI_len (R.go 1 (k15 eI ims 0 ((((mem m).getD t 0)).toNat) ((mem m).getD t 0) eI_len ?_ (hji := by omega))))
  refine R.go 3 (k9 ((ims.getD ((((mem m).getD t 0)).toNat) 0) ≥ 0) (fun c6 => ?_) (fun c6 => ?_))
  ·refine R.go 5 (k15 eI (mem m) 0 t (t : Int) eI_len (R.go 1 (k15 eI ims 0 ((((mem m).getD t 0)).toNat) ((mem m).getD t 0) eI_len ?_ (hji := by omega))))
   refine R.go 1 (k20 true (l01One_c (ims.getD ((((mem m).getD t 0)).toNat) 0) (by omega) (by omega)) (R.go 6 (k8 ((t : Int) + 1) ?_)))
   exact R.go 2 (k22 R1 (N2 (t + 1, bor (imgF ims ((mem m).take t)) (shl64 1 (ims.getD ((((mem m).getD t 0)).toNat) 0))) [1, 5, 6, 7] none _ (by kernel_rfl) (by kernel_rfl) ⟨(by omega), (by first | exact imgF_snoc (by omega) | (exfalso; omega))⟩ (by show ((mem m).length - (t + 1)) < ((mem m).length - t); omega)))
  refine R.go 4 (k8 ((t : Int) + 1) ?_)
  exact R.go 2 (k22 R1 (N2 (t + 1, imgF ims ((mem m).take t)) [1, 5, 6, 7] none _ (by kernel_rfl) (by kernel_rfl) ⟨(by omega), (by first | exact imgF_snoc (by omega) | (exfalso; omega))⟩ (by show ((mem m).length - (t + 1)) < ((mem m).length - t); omega)))
 exact R.go 6 (k23 (AI (imgF ims ((mem m).take t))) (by first | (rw [mapM, List.take_of_length_le (by omega)]) | (exfalso; omega)))
theorem isMor1_c (x : Nat) (ims : List Int) (n : Int) (xs : List Int) (m : Int) (ys : List Int) (hM : MorH xs ys ims) (hx : x < ims.length) : CallA Tryz.prog 205 [AI (x : Int), .rptr [LI ims], .rptr [AI n, LI xs], .rptr [AI m, LI ys]] (.bool (decide (mapM ims (xs.getD x 0) = ys.getD (ims.getD x 0).toNat 0))) := by
 have hM1 := hM.1
 have hM2 := hM.2.1
 have hMx := hM.2.2.1.1
 have hMv := hM.2.2.2 x hx
 refine CallA.of Tryz.func205 rfl (by kernel_rfl) (R.go 10 (k15 eI xs 0 x (x : Int) eI_len (R.go 1 (k20 true (mapMask_c ims (xs.getD x 0) (by first | assumption | exact morH_i (by assumption)) (by first | assumption | exact hM.2.2.1.2 x (by omega))) (R.go 4 (k15 eI ims 0 x (x : Int) eI_len (R.go 1 (k15 eI ys 0 (((ims.getD x 0)).toNat) (ims.getD x 0) eI_len ?_ (hji := by omega)))))))))
 exact R.go 4 (k23 (.bool (decide ((mapM ims (xs.getD x 0)) = (ys.getD (((ims.getD x 0)).toNat) 0)))) (by first | (rfl) | (exfalso; omega)))
theorem everyM_c (n : Int) (xs : List Int) (m : Int) (ys ims : List Int) (hM : MorH xs ys ims) (hn : n = (ims.length : Int)) : CallA Tryz.prog 150 [.agg [AI n, LI xs], .fn 205 [.rptr [LI ims], .rptr [AI n, LI xs], .rptr [AI m, LI ys]]] (.bool (morA n xs ys ims)) := by
 have hM1 := hM.1
 have hM2 := hM.2.1
 have hMx := hM.2.2.1.1
 refine CallA.of Tryz.func150 rfl (by kernel_rfl) (R.go 13 (k21 (fun (x : Nat) => (⟨(frm 16 [(1, .fn 205 [.rptr [LI ims], .rptr [AI n, LI xs], .rptr [AI m, LI ys]]), (7, AI n), (8, AI (x : Int))]), []⟩ : St)) (fun (x : Nat) => (x ≤ n.toNat) ∧ (∀ i : Nat, i < x → MOR xs ys ims i)) (fun (x : Nat) => n.toNat - x) 0 [1, 7, 8] (some []) ⟨(by omega), (by exact fun i hi => absurd hi (by omega))⟩ ?_))
 rintro x ⟨h3_1, h3_2⟩ R1 N2
 refine R.go 5 (k9 ((x : Int) < n) (fun c4 => ?_) (fun c4 => ?_))
 ·refine R.go 12 (k20 true (isMor1_c x ims n xs m ys hM (by first | omega | (simp <;> omega))) (R.go 2 (k10 (mapM ims (xs.getD x 0) = ys.getD (ims.getD x 0).toNat 0) (fun c5 => ?_) (fun c5 => ?_))))
  ·exact R.go 4 (k23 (.bool false) (by first | (apply congrArg AV.bool; first | exact morA_no (i := x) (by omega) (by assumption) | exact (morA_iff.2 fun i hi => (‹∀ i : Nat, i < x → MOR xs ys ims i›) i (by omega)).symm) | (exfalso; omega)))
  refine R.go 3 (k8 ((x : Int) + 1) ?_)
  exact R.go 2 (k22 R1 (N2 (x + 1) [1, 7, 8] none _ (by kernel_rfl) (by kernel_rfl) ⟨(by omega), (by exact below1 (P := MOR xs ys ims) (by assumption) (show mapM _ _ = _ by assumption))⟩ (by show (n.toNat - (x + 1)) < (n.toNat - x); omega)))
 exact R.go 5 (k23 (.bool true) (by first | (apply congrArg AV.bool; first | exact morA_no (i := x) (by omega) (by assumption) | exact (morA_iff.2 fun i hi => (‹∀ i : Nat, i < x → MOR xs ys ims i›) i (by omega)).symm) | (exfalso; omega)))
theorem isMorphism_c (n : Int) (xs : List Int) (m : Int) (ys ims : List Int) (hM : MorH xs ys ims) (hn : n = (ims.length : Int)) : CallA Tryz.prog 170 [.agg [AI n, LI xs], .agg [AI m, LI ys], LI ims] (.bool (morA n xs ys ims)) := by
 refine CallA.of Tryz.func170 rfl (by kernel_rfl) (R.go 11 (k20 false (everyM_c n xs m ys ims hM hn) ?_))
 exact R.go 2 (k23 (.bool (morA n xs ys ims)) (by rfl))
end Go.Proofs.YtehbliocfpppoaaGreat

/-! StackPosets of both packages and its law. -/
namespace Go.Proofs.YtehbliocfpppoaaGreat
open Go.RowKit Go.Abs
def stC (n : Int) (xs : List Int) (m : Int) (ys : List Int) : Int := if okPo n xs = true ∧ okPo m ys = true then (if n + m ≤ 8 then 0 else 3) else 1
def stN (n : Int) (xs : List Int) (m : Int) (ys : List Int) : Int := if stC n xs m ys = 0 then n + m else 0
theorem map_take {f : Int → Int} {xs : List Int} {i : Nat} (h : i < xs.length) : (xs.take i).map f ++ [f (xs.getD i 0)] = (xs.take (i + 1)).map f := by
 rw [List.take_succ_eq_append_getElem h, List.map_append, List.getD_eq_getElem?_getD, List.getElem?_eq_getElem h]
 rfl
theorem l16Make_c (xs : List Int) (hl : xs.length ≤ 1000000000) : CallA Tryz.prog 75 [LI xs] (.agg [AI xs.length, ownA eI 2 1 xs]) := by
 refine CallA.of Tryz.func75 rfl (by kernel_rfl) (R.go 9 (k20 true (l01Own_c xs hl) ?_))
 exact R.go 3 (k23 (.agg [AI xs.length, ownA eI 2 1 xs]) (by rfl))
end Go.Proofs.YtehbliocfpppoaaGreat

/-! QuotientPoset of both packages and its law. -/
namespace Go.Proofs.YtehbliocfpppoaaGreat
open Go.RowKit Go.Abs
def nxt (L : List Int) : Nat → Int
 | 0 => 0
 | i + 1 => if L.getD i 0 = nxt L i then nxt L i + 1 else nxt L i
def clsB (L : List Int) : Bool := (List.range L.length).all fun i => inR (L.getD i 0) 0 (nxt L i)
def parB (n : Int) (L : List Int) : Bool := clsB L && decide ((L.length : Int) = n)
theorem nxt_yes {L : List Int} {i : Nat} (h : L.getD i 0 = nxt L i) : nxt L i + 1 = nxt L (i + 1) := by rw [nxt, if_pos h]
theorem nxt_no {L : List Int} {i : Nat} (h : ¬ L.getD i 0 = nxt L i) : nxt L i = nxt L (i + 1) := by rw [nxt, if_neg h]
theorem nxt_rng (L : List Int) : ∀ i : Nat, 0 ≤ nxt L i ∧ nxt L i ≤ (i : Int)
 | 0 => by simp [nxt]
 | i + 1 => by
  have := nxt_rng L i
  rw [nxt]
  split <;> omega
theorem nxt_mono {L : List Int} {i j : Nat} (h : i ≤ j) : nxt L i ≤ nxt L j := by
 induction j with
 | zero => rw [show i = 0 by omega]; exact Int.le_refl _
 | succ j ih =>
  by_cases e : i = j + 1
  ·rw [e]; exact Int.le_refl _
  ·have := ih (by omega)
   have h2 : nxt L j ≤ nxt L (j + 1) := by
    rw [nxt]
    split <;> omega
   omega
theorem clsB_iff {L : List Int} : clsB L = true ↔ ∀ i : Nat, i < L.length → 0 ≤ L.getD i 0 ∧ L.getD i 0 ≤ nxt L i := by
 simp only [clsB, List.all_eq_true, List.mem_range, inR_iff]
theorem clsB_no {L : List Int} {i : Nat} (hi : i < L.length) (h : inR (L.getD i 0) 0 (nxt L i) = false) : false = clsB L := by
 cases e : clsB L with
 | false => rfl
 | true =>
  have := (inR_iff _ _ _).2 (clsB_iff.1 e i hi)
  rw [h] at this
  cases this
theorem clsB_mk {L : List Int} (h : ∀ i : Nat, i < L.length → inR (L.getD i 0) 0 (nxt L i) = true) : clsB L = true := clsB_iff.2 fun i hi => (inR_iff _ _ _).1 (h i hi)
theorem cls_lt {L : List Int} (h : clsB L = true) {i : Nat} (hi : i < L.length) : 0 ≤ L.getD i 0 ∧ L.getD i 0 < nxt L (i + 1) := by
 have h1 := clsB_iff.1 h i hi
 refine ⟨h1.1, ?_⟩
 rw [nxt]
 split <;> omega
theorem cls_lt' {L : List Int} (h : clsB L = true) {i : Nat} (hi : i < L.length) : 0 ≤ L.getD i 0 ∧ L.getD i 0 < nxt L L.length := by
 have h1 := cls_lt h hi
 have h2 := nxt_mono (L := L) (show i + 1 ≤ L.length by omega)
 omega
def maxT (L : List Int) : Nat → Int
 | 0 => L.getD 0 0
 | i + 1 => if L.getD i 0 > maxT L i then L.getD i 0 else maxT L i
theorem maxT_one (L : List Int) : L.getD 0 0 = maxT L 1 := by rw [maxT, maxT, if_neg (by omega)]
theorem maxT_nxt {L : List Int} (h : clsB L = true) : ∀ i : Nat, 1 ≤ i → i ≤ L.length → maxT L i + 1 = nxt L i
 | 0, h1, _ => by omega
 | 1, _, h2 => by
  have h3 := clsB_iff.1 h 0 (by omega)
  rw [nxt] at h3
  have h4 : L.getD 0 0 = 0 := by omega
  rw [← maxT_one, h4, ← nxt_yes (by rw [nxt]; exact h4)]
  rfl
 | i + 2, _, h2 => by
  have ih := maxT_nxt h (i + 1) (by omega) (by omega)
  have h3 := clsB_iff.1 h (i + 1) (by omega)
  rw [maxT, nxt]
  split <;> split <;> omega
def quoI (xs L : List Int) : Nat → List Int
 | 0 => List.replicate (nxt L L.length).toNat 0
 | i + 1 => (quoI xs L i).set (L.getD i 0).toNat (bor ((quoI xs L i).getD (L.getD i 0).toNat 0) (mapM L (xs.getD i 0)))
theorem quoI_len (xs L : List Int) : ∀ i : Nat, (quoI xs L i).length = (nxt L L.length).toNat
 | 0 => by simp [quoI]
 | i + 1 => by rw [quoI, List.length_set, quoI_len xs L i]
def quoS (xs L : List Int) : Nat → List Int
 | 0 => []
 | i + 1 => if L.getD i 0 = ((quoS xs L i).length : Int) then quoS xs L i ++ [mapM L (xs.getD i 0)] else quoS xs L i
theorem quoS_len (xs L : List Int) : ∀ i : Nat, ((quoS xs L i).length : Int) = nxt L i
 | 0 => rfl
 | i + 1 => by
  have := quoS_len xs L i
  rw [quoS, nxt, this]
  split
  ·simp; omega
  ·exact this
theorem quoS_yes {xs L : List Int} {i : Nat} (h : L.getD i 0 = ((quoS xs L i).length : Int)) : quoS xs L i ++ [mapM L (xs.getD i 0)] = quoS xs L (i + 1) := by rw [quoS, if_pos h]
theorem quoS_no {xs L : List Int} {i : Nat} (h : ¬ L.getD i 0 = ((quoS xs L i).length : Int)) : quoS xs L i = quoS xs L (i + 1) := by rw [quoS, if_neg h]
def cngB (n : Int) (xs L : List Int) : Bool := (decide ((L.length : Int) = n) && clsB L) && morA n xs (quoI xs L L.length) L
def COR (xs L : List Int) (x y : Nat) : Prop := L.getD x 0 = L.getD y 0 → mapM L (xs.getD x 0) = mapM L (xs.getD y 0)
instance (xs L : List Int) (x y : Nat) : Decidable (COR xs L x y) := by unfold COR; infer_instance
def corB (xs L : List Int) : Bool := (List.range L.length).all fun x => (List.range L.length).all fun y => decide (COR xs L x y)
theorem corB_iff {xs L : List Int} : corB xs L = true ↔ ∀ x : Nat, x < L.length → ∀ y : Nat, y < L.length → COR xs L x y := by simp [corB]
theorem corB_no {xs L : List Int} {x y : Nat} (hx : x < L.length) (hy : y < L.length) (h : L.getD x 0 = L.getD y 0) (h2 : ¬ mapM L (xs.getD x 0) = mapM L (xs.getD y 0)) : false = corB xs L := by
 cases e : corB xs L with
 | false => rfl
 | true => exact absurd (corB_iff.1 e x hx y hy h) h2
def QH (xs L : List Int) : Prop := clsB L = true ∧ L.length ≤ 8 ∧ RelOK L.length xs
theorem qh_of {n : Int} {xs L : List Int} (hP : okPo n xs = true) (h : (L.length : Int) = n) (hc : clsB L = true) : QH xs L := by
 have a := okFr_rel (okPo_fr hP)
 have e : L.length = n.toNat := by omega
 exact ⟨hc, by omega, by rw [e]; exact a.2.2.2⟩
theorem qh_i {xs L : List Int} (h : QH xs L) : ImsH L := ⟨h.2.1, fun j hj => by
 have h1 := cls_lt' h.1 hj
 have h2 := nxt_rng L L.length
 have h3 := h.2.1
 omega⟩
theorem qh_m {xs L : List Int} (h : QH xs L) : MorH xs (quoI xs L L.length) L := by
 have h2 := nxt_rng L L.length
 have h3 := h.2.1
 refine ⟨h.2.1, by rw [quoI_len]; omega, h.2.2, fun j hj => ?_⟩
 have h1 := cls_lt' h.1 hj
 rw [quoI_len]
 omega

theorem imgG_ok {ims : List Int} {K N : Nat} (hN : N ≤ 30) (hK : ims.length ≤ K) (hi : ∀ j : Nat, j < ims.length → 0 ≤ ims.getD j 0 ∧ ims.getD j 0 < (N : Int)) : ∀ (L : List Int) (o : Int), InM N o → (∀ j ∈ L, 0 ≤ j ∧ j < (ims.length : Int)) →
  InM N (L.foldl (fun o j => bor o (shl64 1 (ims.getD j.toNat 0))) o) ∧ ∀ k : Nat, tb (L.foldl (fun o j => bor o (shl64 1 (ims.getD j.toNat 0))) o) k = true ↔ tb o k = true ∨ ∃ j ∈ L, ims.getD j.toNat 0 = (k : Int)
 | [], o, h, _ => ⟨h, fun k => by simp⟩
 | v :: L, o, h, hL => by
  have hv := hL v (List.mem_cons_self ..)
  have hx := hi v.toNat (by omega)
  have h1 : ((ims.getD v.toNat 0).toNat : Int) = ims.getD v.toNat 0 := by omega
  have hI := inM_one (n := N) (i := (ims.getD v.toNat 0).toNat) (by omega) (by omega)
  have hT := tb_one (i := (ims.getD v.toNat 0).toNat) (by omega)
  rw [h1] at hI hT
  have hb := inM_bor (n := N) (by omega) h hI
  obtain ⟨i1, i2⟩ := imgG_ok hN hK hi L _ hb fun j hj => hL j (List.mem_cons_of_mem _ hj)
  refine ⟨i1, fun k => ?_⟩
  rw [List.foldl_cons, i2, tb_bor (n := N) (by omega) h hI, hT, Bool.or_eq_true, decide_eq_true_eq]
  constructor
  ·rintro ((a | a) | ⟨j, hj, e⟩)
   ·exact .inl a
   ·exact .inr ⟨v, List.mem_cons_self .., by omega⟩
   ·exact .inr ⟨j, List.mem_cons_of_mem _ hj, e⟩
  ·rintro (a | ⟨j, hj, e⟩)
   ·exact .inl (.inl a)
   ·rcases List.mem_cons.1 hj with rfl | hj
    ·exact .inl (.inr (by omega))
    ·exact .inr ⟨j, hj, e⟩
theorem mapM_ok {ims : List Int} {m : Int} {N : Nat} (hl : ims.length ≤ 8) (hN : N ≤ 30) (hi : ∀ j : Nat, j < ims.length → 0 ≤ ims.getD j 0 ∧ ims.getD j 0 < (N : Int)) (hm : InM ims.length m) :
  InM N (mapM ims m) ∧ ∀ k : Nat, tb (mapM ims m) k = true ↔ ∃ j : Nat, tb m j = true ∧ ims.getD j 0 = (k : Int) := by
 obtain ⟨h1, h2⟩ := imgG_ok (K := 8) hN hl hi (mem m) 0 (inM_zero _) (mem_lt (by omega) hm)
 refine ⟨h1, fun k => ?_⟩
 rw [mapM, imgF, h2, tb_zero]
 constructor
 ·rintro (a | ⟨j, hj, e⟩)
  ·cases a
  ·have h3 := mem_lt (N := ims.length) (by omega) hm j hj
   exact ⟨j.toNat, (mem_iff (by omega) hm).1 (by rw [show ((j.toNat : Nat) : Int) = j by omega]; exact hj), e⟩
 ·rintro ⟨j, hj, e⟩
  exact .inr ⟨(j : Int), (mem_iff (by omega) hm).2 hj, by simpa using e⟩
theorem quoI_ok {xs L : List Int} (h : QH xs L) : ∀ i : Nat, i ≤ L.length → ∀ c : Nat, (c : Int) < nxt L L.length → InM (nxt L L.length).toNat ((quoI xs L i).getD c 0) ∧ ∀ k : Nat, tb ((quoI xs L i).getD c 0) k = true ↔ ∃ j : Nat, j < i ∧ L.getD j 0 = (c : Int) ∧ tb (mapM L (xs.getD j 0)) k = true
 | 0, _, c, hc => by
  have : (quoI xs L 0).getD c 0 = 0 := by
   simp only [quoI, List.getD_eq_getElem?_getD, List.getElem?_replicate]
   split <;> rfl
  rw [this]
  exact ⟨inM_zero _, fun k => by simp [tb_zero]⟩
 | i + 1, hi, c, hc => by
  have h2 := nxt_rng L L.length
  have h3 := h.2.1
  obtain ⟨a1, a2⟩ := quoI_ok h i (by omega) c hc
  have hci := cls_lt' h.1 (i := i) (by omega)
  have hm := mapM_ok (ims := L) (m := xs.getD i 0) (N := (nxt L L.length).toNat) h.2.1 (by omega) (fun j hj => by have := cls_lt' h.1 hj; omega) (h.2.2.2 i (by omega))
  rw [quoI, getD_set_if _ _ _ _ _ (by rw [quoI_len]; omega)]
  split
  ·rename_i e
   rw [e]
   refine ⟨inM_bor (by omega) a1 hm.1, fun k => ?_⟩
   rw [tb_bor (n := (nxt L L.length).toNat) (by omega) a1 hm.1, Bool.or_eq_true, a2]
   constructor
   ·rintro (⟨j, b1, b2, b3⟩ | b)
    ·exact ⟨j, by omega, b2, b3⟩
    ·exact ⟨i, by omega, by omega, b⟩
   ·rintro ⟨j, b1, b2, b3⟩
    by_cases ej : j = i
    ·subst ej; exact .inr b3
    ·exact .inl ⟨j, by omega, b2, b3⟩
  ·rename_i e
   refine ⟨a1, fun k => ?_⟩
   rw [a2]
   constructor
   ·rintro ⟨j, b1, b2, b3⟩; exact ⟨j, by omega, b2, b3⟩
   ·rintro ⟨j, b1, b2, b3⟩
    by_cases ej : j = i
    ·subst ej; omega
    ·exact ⟨j, by omega, b2, b3⟩
theorem quo_mor {n : Int} {xs L : List Int} (h : QH xs L) (hn : (L.length : Int) = n) : morA n xs (quoI xs L L.length) L = corB xs L := by
 have h2 := nxt_rng L L.length
 have h3 := h.2.1
 have hmm := fun (j : Nat) (hj : j < L.length) => mapM_ok (ims := L) (m := xs.getD j 0) (N := (nxt L L.length).toNat) h.2.1 (by omega) (fun j hj => by have := cls_lt' h.1 hj; omega) (h.2.2.2 j hj)
 rw [Bool.eq_iff_iff, morA_iff, corB_iff]
 constructor
 ·intro a x hx y hy e
  have b1 := a x (by omega)
  have b2 := a y (by omega)
  unfold MOR at b1 b2
  rw [b1, b2, e]
 ·intro a x hx
  have hxl : x < L.length := by omega
  have hc := cls_lt' h.1 hxl
  obtain ⟨q1, q2⟩ := quoI_ok h L.length (Nat.le_refl _) (L.getD x 0).toNat (by omega)
  unfold MOR
  refine tb_ext (hmm x hxl).1.1 q1.1 fun k => ?_
  rw [Bool.eq_iff_iff, q2]
  constructor
  ·intro hk; exact ⟨x, hxl, by omega, hk⟩
  ·rintro ⟨j, hj, e, hk⟩
   rw [a x hxl j hj (by omega)]
   exact hk
theorem quoS_get {xs L : List Int} : ∀ (i c : Nat), (c : Int) < nxt L i → ∃ j : Nat, j < i ∧ L.getD j 0 = (c : Int) ∧ (quoS xs L i).getD c 0 = mapM L (xs.getD j 0)
 | 0, c, hc => by rw [nxt] at hc; omega
 | i + 1, c, hc => by
  have hl := quoS_len xs L i
  by_cases e : L.getD i 0 = nxt L i
  ·rw [← nxt_yes e] at hc
   rw [← quoS_yes (by rw [hl]; exact e)]
   by_cases ec : (c : Int) = nxt L i
   ·refine ⟨i, by omega, by omega, ?_⟩
    rw [List.getD_eq_getElem?_getD, List.getElem?_append_right (by omega), show c - (quoS xs L i).length = 0 by omega]
    rfl
   ·obtain ⟨j, b1, b2, b3⟩ := quoS_get (xs := xs) (L := L) i c (by omega)
    refine ⟨j, by omega, b2, ?_⟩
    rw [← b3, List.getD_eq_getElem?_getD, List.getElem?_append_left (by omega), List.getD_eq_getElem?_getD]
  ·rw [← nxt_no e] at hc
   rw [← quoS_no (by rw [hl]; exact e)]
   obtain ⟨j, b1, b2, b3⟩ := quoS_get (xs := xs) (L := L) i c hc
   exact ⟨j, by omega, b2, b3⟩
theorem quo_eq {xs L : List Int} (h : QH xs L) (hc : corB xs L = true) : quoI xs L L.length = quoS xs L L.length := by
 have h2 := nxt_rng L L.length
 have h3 := h.2.1
 have hmm := fun (j : Nat) (hj : j < L.length) => mapM_ok (ims := L) (m := xs.getD j 0) (N := (nxt L L.length).toNat) h.2.1 (by omega) (fun j hj => by have := cls_lt' h.1 hj; omega) (h.2.2.2 j hj)
 have hl := quoS_len xs L L.length
 refine rowN_ext (quoI_len xs L L.length) (by omega) fun c hcl => ?_
 obtain ⟨q1, q2⟩ := quoI_ok h L.length (Nat.le_refl _) c (by omega)
 obtain ⟨j, j1, j2, j3⟩ := quoS_get (xs := xs) (L := L) L.length c (by omega)
 rw [j3]
 refine tb_ext q1.1 (hmm j j1).1.1 fun k => ?_
 rw [Bool.eq_iff_iff, q2]
 constructor
 ·rintro ⟨j', j1', e, hk⟩
  rw [corB_iff.1 hc j j1 j' j1' (by omega)]
  exact hk
 ·intro hk; exact ⟨j, j1, j2, hk⟩
theorem cng_eq {n : Int} {xs L : List Int} (hP : okPo n xs = true) : cngB n xs L = (parB n L && corB xs L) := by
 cases hp : parB n L with
 | false =>
  have : (decide ((L.length : Int) = n) && clsB L) = false := by rw [Bool.and_comm]; exact hp
  rw [cngB, this]; rfl
 | true =>
  have : (decide ((L.length : Int) = n) && clsB L) = true := by rw [Bool.and_comm]; exact hp
  simp only [parB, Bool.and_eq_true, decide_eq_true_eq] at hp
  rw [cngB, this, Bool.true_and, Bool.true_and]
  exact quo_mor (qh_of hP hp.2 hp.1) hp.2
theorem par_ok {n : Int} {L : List Int} (h : parB n L = true) : (L.length : Int) = n ∧ clsB L = true := by
 simp only [parB, Bool.and_eq_true, decide_eq_true_eq] at h
 exact ⟨h.2, h.1⟩
theorem areClasses_c (L : List Int) (ll : L.length ≤ 1000000000) : CallA Tryz.prog 169 [LI L] (.bool (clsB L)) := by
 refine CallA.of Tryz.func169 rfl (by kernel_rfl) (R.go 16 (k21 ((fun | (x, nx) => (⟨(frm 22 [(3, AI nx), (6, LI L), (7, AI L.length), (8, AI (x : Int))]), []⟩ : St) : Nat × Int → St)) (fun | (x, nx) => (x ≤ L.length) ∧ (∀ i : Nat, i < x → inR (L.getD i 0) 0 (nxt L i) = true) ∧ (nx = nxt L x)) (fun | (x, nx) => L.length - x) (0, 0) [3, 6, 7, 8] none ⟨(by omega), (by exact fun i hi => absurd hi (by omega)), (by rfl)⟩ ?_))
 rintro ⟨x, nx⟩ ⟨h4_1, h4_2, rfl⟩ R1 N2
 have hnx := nxt_rng L x
 refine R.go 5 (k9 ((x : Int) < (L.length : Int)) (fun c5 => ?_) (fun c5 => ?_))
 ·refine R.go 5 (k15 eI L 0 x (x : Int) eI_len (R.go 8 (k20 true (inRange_c (L.getD x 0) 0 (nxt L x)) (R.go 2 (k25 (inR (L.getD x 0) 0 (nxt L x)) (fun c6 => ?_) (fun c6 => ?_))))))
  ·exact R.go 4 (k23 (.bool false) (by first | (apply congrArg AV.bool; first | exact clsB_no (i := x) (by omega) (by assumption) | exact (clsB_mk fun i hi => (‹∀ i : Nat, i < x → inR (L.getD i 0) 0 (nxt L i) = true›) i (by omega)).symm) | (exfalso; omega)))
  refine R.go 7 (k9 ((L.getD x 0) = (nxt L x)) (fun c7 => ?_) (fun c7 => ?_))
  ·refine R.go 2 (k8 ((nxt L x) + 1) (R.go 4 (k8 ((x : Int) + 1) ?_)))
   exact R.go 2 (k22 R1 (N2 (x + 1, (nxt L x) + 1) [3, 6, 7, 8] none _ (by kernel_rfl) (by kernel_rfl) ⟨(by omega), (by exact below1 (by assumption) (by assumption)), (by first | exact nxt_yes (by assumption) | exact nxt_no (by assumption))⟩ (by show (L.length - (x + 1)) < (L.length - x); omega)))
  refine R.go 3 (k8 ((x : Int) + 1) ?_)
  exact R.go 2 (k22 R1 (N2 (x + 1, nxt L x) [3, 6, 7, 8] none _ (by kernel_rfl) (by kernel_rfl) ⟨(by omega), (by exact below1 (by assumption) (by assumption)), (by first | exact nxt_yes (by assumption) | exact nxt_no (by assumption))⟩ (by show (L.length - (x + 1)) < (L.length - x); omega)))
 exact R.go 5 (k23 (.bool true) (by first | (apply congrArg AV.bool; first | exact clsB_no (i := x) (by omega) (by assumption) | exact (clsB_mk fun i hi => (‹∀ i : Nat, i < x → inR (L.getD i 0) 0 (nxt L i) = true›) i (by omega)).symm) | (exfalso; omega)))
theorem maxI_c (L : List Int) (h1 : 1 ≤ L.length) (ll : L.length ≤ 1000000000) : CallA Tryz.prog 171 [LI L] (AI (maxT L L.length)) := by
 refine CallA.of Tryz.func171 rfl (by kernel_rfl) (R.go 11 (k9 ((L.length : Int) < 1) (fun c1 => ?_) (fun c1 => ?_)))
 ·exfalso; omega -- op ('other', 'makeInterface')
 refine R.go 4 (k15 eI L 0 0 0 eI_len (R.go 9 (k21 ((fun | (i, r) => (⟨(frm 25 [(0, LI L), (3, AI r), (4, AI (i : Int))]), []⟩ : St) : Nat × Int → St)) (fun | (i, r) => (1 ≤ i) ∧ (i ≤ L.length) ∧ (r = maxT L i)) (fun | (i, r) => L.length - i) (1, (L.getD 0 0)) [0, 3, 4] none ⟨(by omega), (by omega), (by exact maxT_one L)⟩ ?_)))
 rintro ⟨i, r⟩ ⟨h5_1, h5_2, rfl⟩ R2 N3
 refine R.go 8 (k9 ((i : Int) < (L.length : Int)) (fun c6 => ?_) (fun c6 => ?_))
 ·refine R.go 7 (k15 eI L 0 i (i : Int) eI_len (R.go 7 (k8 ((i : Int) + 1) ?_)))
  exact R.go 2 (k22 R2 (N3 (i + 1, if (L.getD i 0) > (maxT L i) then (L.getD i 0) else (maxT L i)) [0, 3, 4] none _ (by kernel_rfl) (by kernel_rfl) ⟨(by omega), (by omega), (by rfl)⟩ (by show (L.length - (i + 1)) < (L.length - i); omega)))
 exact R.go 6 (k23 (AI (maxT L i)) (by first | (rw [show i = L.length by omega]) | (exfalso; omega)))
theorem classCount_c (L : List Int) (hc : clsB L = true) (ll : L.length ≤ 1000000000) : CallA Tryz.prog 89 [LI L] (AI (nxt L L.length)) := by
 have hmx := fun h : 1 ≤ L.length => maxT_nxt hc L.length h (Nat.le_refl _)
 have hnr := nxt_rng L L.length
 refine CallA.of Tryz.func89 rfl (by kernel_rfl) (R.go 11 (k9 ((L.length : Int) = 0) (fun c1 => ?_) (fun c1 => ?_)))
 ·exact R.go 4 (k23 (AI 0) (by first | (apply congrArg AI; first | (exact hmx (by omega)) | (rw [List.eq_nil_of_length_eq_zero (l := L) (by omega)]; rfl)) | (exfalso; omega)))
 refine R.go 4 (k20 true (maxI_c L (by first | omega | (simp <;> omega)) ll) (k8 ((maxT L L.length) + 1) ?_))
 exact R.go 2 (k23 (AI ((maxT L L.length) + 1)) (by first | (apply congrArg AI; first | (exact hmx (by omega)) | (rw [List.eq_nil_of_length_eq_zero (l := L) (by omega)]; rfl)) | (exfalso; omega)))
theorem quotientRelation_c (xs L : List Int) (hQ : QH xs L) : CallA Tryz.prog 34 [LI xs, LI L] (ownA eI 2 1 (quoI xs L L.length)) := by
 have hI := qh_i hQ
 have hq8 := hQ.2.1
 have hqx := hQ.2.2.1
 have hqn := nxt_rng L L.length
 have hcl := fun (j : Nat) (hj : j < L.length) => cls_lt' hQ.1 hj
 refine CallA.of Tryz.func34 rfl (by kernel_rfl) (R.go 7 (k20 true (classCount_c L (by first | assumption | exact hQ.1) (by first | omega | (simp <;> omega))) (R.mk eI 0 2 8 ((nxt L L.length).toNat) (nxt L L.length) (by kernel_rfl) (by omega) (by decide) (by omega) (by kernel_rfl) (R.go 10 (k21 ((fun | (x, out) => (⟨(frm 32 [(1, LI L), (5, .ref 0), (11, LI xs), (12, AI xs.length), (13, AI (x : Int))]), [rowA eI 2 1 out]⟩ : St) : Nat × (List Int) → St)) (fun | (x, out) => (x ≤ xs.length) ∧ (out = quoI xs L x)) (fun | (x, out) => xs.length - x) (0, (List.replicate ((nxt L L.length).toNat) 0)) [1, 5, 11, 12, 13] none ⟨(by omega), (by rfl)⟩ ?_)))))
 rintro ⟨x, out⟩ ⟨h4_1, rfl⟩ R1 N2
 have hol := quoI_len xs L x
 have hclx := hcl x
 refine R.go 5 (k9 ((x : Int) < (xs.length : Int)) (fun c5 => ?_) (fun c5 => ?_))
 ·refine R.go 6 (k15 eI xs 0 x (x : Int) eI_len (R.go 4 (R.any (by decide +kernel) (by kernel_rfl) (k30 0 ?_ (np := np_ret _ _ _)))))
  refine k30 1 ?_ (np := np_ret _ _ _)
  refine k30 2 ?_ (np := np_ret _ _ _)
  refine k30 7 ?_ (np := np_ret _ _ _)
  refine k30 8 ?_ (np := np_ret _ _ _)
  refine k28 3 9 ?_ ?_
  ·refine k15 eI L 0 x (x : Int) eI_len (R.go 1 (k28 4 9 ?_ ?_))
   ·refine R.go 2 (k28 5 9 ?_ ?_)
    ·refine k16 0 1 (quoI xs L x).length (((L.getD x 0)).toNat) (L.getD x 0) ?_ (hji := by omega)
     refine R.go 1 (k28 6 9 ?_ ?_)
     ·refine k17 (quoI xs L x) (((L.getD x 0)).toNat) (R.go 1 (k27 9 (k20 true (mapMask_c L (xs.getD x 0) hI (hQ.2.2.2 x (by omega))) (R.go 1 (k27 10 (R.go 2 (k27 11 (k16 0 1 (quoI xs L x).length (((L.getD x 0)).toNat) (L.getD x 0) ?_ (hji := by omega)))))))))
      refine R.go 1 (k27 12 (k18 0 2 (quoI xs L x) (((L.getD x 0)).toNat) (bor ((quoI xs L x).getD (((L.getD x 0)).toNat) 0) (mapM L (xs.getD x 0))) (R.go 1 (k26 (R.go 2 (k8 ((x : Int) + 1) ?_))))))
      exact R.go 2 (k22 R1 (N2 (x + 1, (quoI xs L x).set (((L.getD x 0)).toNat) (bor ((quoI xs L x).getD (((L.getD x 0)).toNat) 0) (mapM L (xs.getD x 0)))) [1, 5, 11, 12, 13] none _ (by kernel_rfl) (by kernel_rfl) ⟨(by omega), (by rfl)⟩ (by show (xs.length - (x + 1)) < (xs.length - x); omega)))
     refine k20 true (mapMask_c L (xs.getD x 0) hI (hQ.2.2.2 x (by omega))) (R.go 1 (k27 6 (k17 (quoI xs L x) (((L.getD x 0)).toNat) (R.go 1 (k27 10 (R.go 2 (k27 11 (k16 0 1 (quoI xs L x).length (((L.getD x 0)).toNat) (L.getD x 0) ?_ (hji := by omega)))))))))
     refine R.go 1 (k27 12 (k18 0 2 (quoI xs L x) (((L.getD x 0)).toNat) (bor ((quoI xs L x).getD (((L.getD x 0)).toNat) 0) (mapM L (xs.getD x 0))) (R.go 1 (k26 (R.go 2 (k8 ((x : Int) + 1) ?_))))))
     exact R.go 2 (k22 R1 (N2 (x + 1, (quoI xs L x).set (((L.getD x 0)).toNat) (bor ((quoI xs L x).getD (((L.getD x 0)).toNat) 0) (mapM L (xs.getD x 0)))) [1, 5, 11, 12, 13] none _ (by kernel_rfl) (by kernel_rfl) ⟨(by omega), (by rfl)⟩ (by show (xs.length - (x + 1)) < (xs.length - x); omega)))
    refine k20 true (mapMask_c L (xs.getD x 0) hI (hQ.2.2.2 x (by omega))) (R.go 1 (k27 5 (k16 0 1 (quoI xs L x).length (((L.getD x 0)).toNat) (L.getD x 0) ?_ (hji := by omega))))
    refine R.go 1 (k27 6 (k17 (quoI xs L x) (((L.getD x 0)).toNat) (R.go 1 (k27 10 (R.go 2 (k27 11 (k16 0 1 (quoI xs L x).length (((L.getD x 0)).toNat) (L.getD x 0) ?_ (hji := by omega))))))))
    refine R.go 1 (k27 12 (k18 0 2 (quoI xs L x) (((L.getD x 0)).toNat) (bor ((quoI xs L x).getD (((L.getD x 0)).toNat) 0) (mapM L (xs.getD x 0))) (R.go 1 (k26 (R.go 2 (k8 ((x : Int) + 1) ?_))))))
    exact R.go 2 (k22 R1 (N2 (x + 1, (quoI xs L x).set (((L.getD x 0)).toNat) (bor ((quoI xs L x).getD (((L.getD x 0)).toNat) 0) (mapM L (xs.getD x 0)))) [1, 5, 11, 12, 13] none _ (by kernel_rfl) (by kernel_rfl) ⟨(by omega), (by rfl)⟩ (by show (xs.length - (x + 1)) < (xs.length - x); omega)))
   refine k20 true (mapMask_c L (xs.getD x 0) hI (hQ.2.2.2 x (by omega))) (R.go 1 (k27 4 (R.go 2 (k27 5 (k16 0 1 (quoI xs L x).length (((L.getD x 0)).toNat) (L.getD x 0) ?_ (hji := by omega))))))
   refine R.go 1 (k27 6 (k17 (quoI xs L x) (((L.getD x 0)).toNat) (R.go 1 (k27 10 (R.go 2 (k27 11 (k16 0 1 (quoI xs L x).length (((L.getD x 0)).toNat) (L.getD x 0) ?_ (hji := by omega))))))))
   refine R.go 1 (k27 12 (k18 0 2 (quoI xs L x) (((L.getD x 0)).toNat) (bor ((quoI xs L x).getD (((L.getD x 0)).toNat) 0) (mapM L (xs.getD x 0))) (R.go 1 (k26 (R.go 2 (k8 ((x : Int) + 1) ?_))))))
   exact R.go 2 (k22 R1 (N2 (x + 1, (quoI xs L x).set (((L.getD x 0)).toNat) (bor ((quoI xs L x).getD (((L.getD x 0)).toNat) 0) (mapM L (xs.getD x 0)))) [1, 5, 11, 12, 13] none _ (by kernel_rfl) (by kernel_rfl) ⟨(by omega), (by rfl)⟩ (by show (xs.length - (x + 1)) < (xs.length - x); omega)))
  refine k20 true (mapMask_c L (xs.getD x 0) hI (hQ.2.2.2 x (by omega))) (R.go 1 (k27 3 (k15 eI L 0 x (x : Int) eI_len (R.go 1 (k27 4 (R.go 2 (k27 5 (k16 0 1 (quoI xs L x).length (((L.getD x 0)).toNat) (L.getD x 0) ?_ (hji := by omega)))))))))
  refine R.go 1 (k27 6 (k17 (quoI xs L x) (((L.getD x 0)).toNat) (R.go 1 (k27 10 (R.go 2 (k27 11 (k16 0 1 (quoI xs L x).length (((L.getD x 0)).toNat) (L.getD x 0) ?_ (hji := by omega))))))))
  refine R.go 1 (k27 12 (k18 0 2 (quoI xs L x) (((L.getD x 0)).toNat) (bor ((quoI xs L x).getD (((L.getD x 0)).toNat) 0) (mapM L (xs.getD x 0))) (R.go 1 (k26 (R.go 2 (k8 ((x : Int) + 1) ?_))))))
  exact R.go 2 (k22 R1 (N2 (x + 1, (quoI xs L x).set (((L.getD x 0)).toNat) (bor ((quoI xs L x).getD (((L.getD x 0)).toNat) 0) (mapM L (xs.getD x 0)))) [1, 5, 11, 12, 13] none _ (by kernel_rfl) (by kernel_rfl) ⟨(by omega), (by rfl)⟩ (by show (xs.length - (x + 1)) < (xs.length - x); omega)))
 exact R.go 6 (k23 (ownA eI 2 1 (quoI xs L x)) (by first | (rw [show x = L.length by omega]) | (exfalso; omega)))
theorem isCongruence_c (n : Int) (xs L : List Int) (hP : okPo n xs = true) (ll : L.length ≤ 1000000000) : CallA Tryz.prog 87 [.agg [AI n, LI xs], LI L] (.bool (cngB n xs L)) := by
 have hp1 := okFr_rel (okPo_fr hP)
 have hb : 0 ≤ n ∧ n ≤ 8 ∧ (xs.length : Int) = n := ⟨hp1.1, hp1.2.1, hp1.2.2.1⟩
 refine CallA.of Tryz.func87 rfl (by kernel_rfl) (R.go 9 (k20 true (size_c L) (R.go 4 ?_)))
 by_cases c1 : (L.length : Int) = n
 ·refine k12 false (nF c1) (R.go 1 (k12 false (nF c1) (k20 true (areClasses_c L ll) (k12 false (nF c1) (R.go 1 (k14 false (nF c1) (R.go 1 (k25 (clsB L) (fun c2 => ?_) (fun c2 => ?_)))))))))
  ·exact R.go 4 (k23 (.bool false) (by first | (apply congrArg AV.bool; simp [cngB, *]) | (exfalso; omega)))
  have hc : clsB L = true := by assumption
  have hln : (L.length : Int) = n := by assumption
  have hQ : QH xs L := qh_of hP hln hc
  have hM : MorH xs (quoI xs L L.length) L := qh_m hQ
  refine R.go 7 (k20 true (quotientRelation_c xs L hQ).frz (k20 true (frameOf_c (quoI xs L L.length)) (R.go 1 (k20 true (isMorphism_c n xs ((quoI xs L L.length).length) (quoI xs L L.length) L hM (by first | omega | (simp <;> omega))) ?_))))
  exact R.go 2 (k23 (.bool (morA n xs (quoI xs L L.length) L)) (by first | (apply congrArg AV.bool; simp [cngB, *]) | (exfalso; omega)))
 iterate 3 refine k13 false (nT c1) ?_
 refine k14 true (nT c1) ?_
 exact R.go 6 (k23 (.bool false) (by first | (apply congrArg AV.bool; simp [cngB, *]) | (exfalso; omega)))
theorem l21Correct_c (n : Int) (xs L : List Int) (hQ : QH xs L) : CallA Tryz.prog 142 [.agg [AI n, LI xs], LI L] (.bool (corB xs L)) := by
 have hI := qh_i hQ
 have hq8 := hQ.2.1
 have hqx := hQ.2.2.1
 have hqn := nxt_rng L L.length
 have hcl := fun (j : Nat) (hj : j < L.length) => cls_lt' hQ.1 hj
 refine CallA.of Tryz.func142 rfl (by kernel_rfl) (R.go 11 (k21 (fun (x : Nat) => (⟨(frm 45 [(1, LI L), (2, .ptr 0 0), (5, AI (x : Int))]), [.box 29 [AI n, LI xs]]⟩ : St)) (fun (x : Nat) => (x ≤ L.length) ∧ (∀ i : Nat, i < x → ∀ j : Nat, j < L.length → COR xs L i j)) (fun (x : Nat) => L.length - x) 0 [1, 2, 5] none ⟨(by omega), (by exact fun i hi => absurd hi (by omega))⟩ ?_))
 rintro x ⟨h3_1, h3_2⟩ R1 N2
 have hxx := hQ.2.2.2 x
 refine R.go 8 (k9 ((x : Int) < (L.length : Int)) (fun c4 => ?_) (fun c4 => ?_))
 ·refine R.go 8 (k21 (fun (y : Nat) => (⟨(frm 45 [(1, LI L), (2, .ptr 0 0), (5, AI (x : Int)), (6, AI (y : Int))]), [.box 29 [AI n, LI xs]]⟩ : St)) (fun (y : Nat) => (y ≤ L.length) ∧ (∀ j : Nat, j < y → COR xs L x j)) (fun (y : Nat) => L.length - y) 0 [1, 2, 5, 6] none ⟨(by omega), (by exact fun j hj => absurd hj (by omega))⟩ ?_)
  rintro y ⟨h7_1, h7_2⟩ R5 N6
  have hxy := hQ.2.2.2 y
  refine R.go 8 (k9 ((y : Int) < (L.length : Int)) (fun c8 => ?_) (fun c8 => ?_))
  ·refine R.go 7 (k15 eI L 0 x (x : Int) eI_len (R.go 3 (k15 eI L 0 y (y : Int) eI_len (R.go 3 ?_))))
   by_cases c9 : (L.getD x 0) = (L.getD y 0)
   ·refine k12 true (dT c9) ?_
    iterate 3 refine R.go 1 (k12 true (dT c9) ?_)
    refine k15 eI xs 0 x (x : Int) eI_len (k12 true (dT c9) ?_)
    iterate 2 refine R.go 1 (k12 true (dT c9) ?_)
    refine k20 true (l21Images_c (xs.getD x 0) L hI (hxx (by omega))) (k12 true (dT c9) ?_)
    iterate 3 refine R.go 1 (k12 true (dT c9) ?_)
    refine k15 eI xs 0 y (y : Int) eI_len (k12 true (dT c9) ?_)
    iterate 2 refine R.go 1 (k12 true (dT c9) ?_)
    refine k20 true (l21Images_c (xs.getD y 0) L hI (hxy (by omega))) (k12 true (dT c9) (R.go 1 (k14 true (dT c9) (R.go 1 (k10 ((mapM L (xs.getD x 0)) = (mapM L (xs.getD y 0))) (fun c10 => ?_) (fun c10 => ?_))))))
    ·exact R.go 4 (k23 (.bool false) (by first | (apply congrArg AV.bool; first | exact corB_no (x := x) (y := y) (by omega) (by omega) (by assumption) (by assumption) | exact (corB_iff.2 fun i hi => (‹∀ i : Nat, i < x → ∀ j : Nat, j < L.length → COR xs L i j›) i (by omega)).symm) | (exfalso; omega)))
    refine R.go 4 (k8 ((y : Int) + 1) ?_)
    exact R.go 2 (k22 R5 (N6 (y + 1) [1, 2, 5, 6] none _ (by kernel_rfl) (by kernel_rfl) ⟨(by omega), (by exact below1 (P := COR xs L x) (by assumption) (by unfold COR; intro e; first | assumption | exact absurd e (by assumption)))⟩ (by show (L.length - (y + 1)) < (L.length - y); omega)))
   iterate 15 refine k13 true (dF c9) ?_
   refine k14 false (dF c9) (R.go 6 (k8 ((y : Int) + 1) ?_))
   exact R.go 2 (k22 R5 (N6 (y + 1) [1, 2, 5, 6] none _ (by kernel_rfl) (by kernel_rfl) ⟨(by omega), (by exact below1 (P := COR xs L x) (by assumption) (by unfold COR; intro e; first | assumption | exact absurd e (by assumption)))⟩ (by show (L.length - (y + 1)) < (L.length - y); omega)))
  refine R.go 4 (k8 ((x : Int) + 1) ?_)
  exact R.go 2 (k22 R1 (N2 (x + 1) [1, 2, 5] none _ (by kernel_rfl) (by kernel_rfl) ⟨(by omega), (by exact below1 (P := fun i => ∀ j : Nat, j < L.length → COR xs L i j) (by assumption) (fun j hj => (‹∀ j : Nat, j < y → COR xs L x j›) j (by omega)))⟩ (by show (L.length - (x + 1)) < (L.length - x); omega)))
 exact R.go 5 (k23 (.bool true) (by first | (apply congrArg AV.bool; first | exact corB_no (x := x) (y := y) (by omega) (by omega) (by assumption) (by assumption) | exact (corB_iff.2 fun i hi => (‹∀ i : Nat, i < x → ∀ j : Nat, j < L.length → COR xs L i j›) i (by omega)).symm) | (exfalso; omega)))
theorem l21Quotient_c (n : Int) (xs L : List Int) (hQ : QH xs L) : CallA Tryz.prog 77 [.agg [AI n, LI xs], LI L] (.agg [AI (nxt L L.length), ownA eI 2 1 (quoS xs L L.length)]) := by
 have hI := qh_i hQ
 have hq8 := hQ.2.1
 have hqx := hQ.2.2.1
 have hqn := nxt_rng L L.length
 have hcl := fun (j : Nat) (hj : j < L.length) => cls_lt' hQ.1 hj
 refine CallA.of Tryz.func77 rfl (by kernel_rfl) (R.go 16 (k21 ((fun | (x, out) => (⟨(frm 33 [(1, LI L), (2, .ptr 0 0), (4, .ptr 1 0), (5, .ref 2), (6, AI (x : Int))]), [.box 29 [AI n, LI xs], .box 29 [AI 0, .nil], rowA eI 2 1 out]⟩ : St) : Nat × (List Int) → St)) (fun | (x, out) => (x ≤ L.length) ∧ (out = quoS xs L x)) (fun | (x, out) => L.length - x) (0, []) [1, 2, 4, 5, 6] none ⟨(by omega), (by rfl)⟩ ?_))
 rintro ⟨x, out⟩ ⟨h4_1, rfl⟩ R1 N2
 have hol := quoS_len xs L x
 have hnx := nxt_rng L x
 have hxx := hQ.2.2.2 x
 refine R.go 8 (k9 ((x : Int) < (L.length : Int)) (fun c5 => ?_) (fun c5 => ?_))
 ·refine R.go 7 (k15 eI L 0 x (x : Int) eI_len (R.go 5 (k9 ((L.getD x 0) = ((quoS xs L x).length : Int)) (fun c6 => ?_) (fun c6 => ?_))))
  ·refine R.go 5 (k15 eI xs 0 x (x : Int) eI_len (R.go 2 (k20 true (l21Images_c (xs.getD x 0) L hI (hxx (by omega))) (R.go 1 (k19 eI (quoS xs L x) [mapM L (xs.getD x 0)] 2 2 1 8 eI_one (R.go 5 (k8 ((x : Int) + 1) ?_)))))))
   exact R.go 2 (k22 R1 (N2 (x + 1, (quoS xs L x) ++ [mapM L (xs.getD x 0)]) [1, 2, 4, 5, 6] (some [0, 1, 2]) _ (by kernel_rfl) (by kernel_rfl) ⟨(by omega), (by first | exact quoS_yes (by assumption) | exact quoS_no (by assumption))⟩ (by show (L.length - (x + 1)) < (L.length - x); omega)))
  refine R.go 4 (k8 ((x : Int) + 1) ?_)
  exact R.go 2 (k22 R1 (N2 (x + 1, quoS xs L x) [1, 2, 4, 5, 6] none _ (by kernel_rfl) (by kernel_rfl) ⟨(by omega), (by first | exact quoS_yes (by assumption) | exact quoS_no (by assumption))⟩ (by show (L.length - (x + 1)) < (L.length - x); omega)))
 refine R.go 4 (k20 false (l16Make_c (quoS xs L x) (by first | omega | (simp <;> omega))) ?_ (hr := by simp [AV.closed, closedL, AI, ownA_closed eI_closed]))
 exact R.go 2 (k23 (.agg [AI ((quoS xs L x).length), ownA eI 2 1 (quoS xs L x)]) (by first | (rw [hol, show x = L.length by omega]) | (exfalso; omega)))
end Go.Proofs.YtehbliocfpppoaaGreat

/-! The machine's rules: the end of a row is cleared. -/
namespace Go.Abs
open Go.RowKit
theorem set_self {α : Type} {xs : List α} {i : Nat} {x : α} (h : xs[i]? = some x) : xs.set i x = xs := by
 apply List.ext_getElem?
 intro j
 by_cases e : i = j
 ·subst e
  rw [List.getElem?_set_self (List.getElem?_eq_some_iff.1 h).1, h]
 ·rw [List.getElem?_set_ne e]
section
variable {rd : Option Nat} {P : Program} {Q : Exit → St → Prop}
theorem OpsQ.clr {all : Array Oper} {o1 o2 : Oper} {rest : List Oper} {fr : List AV} {hp : List AObj} {R : Exit → St → Prop} {t d i el s n by_ l : Nat} {k : IntKind} {x lo : Operand} {cs zs : List AV}
  (g1 : o1.guard = none) (p1 : o1.op = .slice t x (some lo) none none) (d1 : o1.dst = some d) (g2 : o2.guard = none) (p2 : o2.op = .call { callee := .builtin .clear, args := #[.tmp d], argTypes := #[t] })
  (hx : ev fr x = .ref i) (hlo : ev fr lo = .int k l) (hr : rowB P t = some (el, s, zs, by_)) (hi : hp[i]? = some (.list el s n cs)) (hl : l ≤ n) (hd : d < fr.length)
  (h1 : ∀ c ∈ zerosA zs s (n - l), c.one = true) (h2 : leafyL (zerosA zs s (n - l)) = true)
  (h' : OpsQ rd P all rest ⟨putF (putF fr (some d) .top) o2.dst (.tup []), hp.set i (.list el s n (setMany cs (l * s) (zerosA zs s (n - l))))⟩ R) :
  OpsQ rd P all (o1 :: o2 :: rest) ⟨fr, hp⟩ R := by
 intro Z0 w0 a w hS
 obtain ⟨μ, F, hFb, hH, hF, hdf, hb⟩ := hS
 have hB := hb.size
 have hZn := zone_new (Z0 := Z0) hB hFb
 obtain ⟨info, z, hu, hinf, hz, rfl, rfl, hzs, hs0, rfl⟩ := row_parts hr
 have hxv := hx ▸ ev_rel hF x
 simp only [Rel] at hxv
 have hlv := rel_int (hlo ▸ ev_rel hF lo)
 have hsize : d < a.tmps.size := by
  have : a.tmps.size = fr.length := by simpa using hF.length
  omega
 have hel : elemB P t = some (el, info.size) := by
  unfold elemB
  rw [hu]
  simp [hinf]
 obtain ⟨xs, hown, hrx⟩ := hH.obj i _ _ hi hxv
 have hlen := hrx.length
 have hcl := hown.1
 -- what a state behind the clearing needs
 have main : ∀ v, (Instr.sliceAt t (a.eval x) (some (.int k l)) none none).run P w = .ok v w →
   (∃ w', (Builtin.clear_ #[t] o2.type #[v]).run P w = .ok (.tuple #[]) w' ∧ HRel w' (Zone Z0 F w0.heap.size) w0.heap.size μ (hp.set i (.list el info.size n (setMany cs (l * info.size) (zerosA (z.cells.toList.map ofConst) info.size (n - l))))) ∧
    Below w0.heap.size w w' ∧ (∀ b, b < w.heap.size → ¬ Zone Z0 F w0.heap.size b → w'.heap[b]? = w.heap[b]?) ∧ w.heap.size ≤ w'.heap.size) →
   wpListIn (Fc rd) 0 P all (fun e a' w' => ∃ st', R e st' ∧ Sim Z0 w0 st' a' w') (o1 :: o2 :: rest) a w := by
  rintro v hv ⟨w', hc, hH', hbel, hk, hsz⟩
  refine wpListIn_plain g1 fun K1 hK1 => ?_
  refine wpIn_of_run (fun c h => by rw [p1] at h; cases h) ?_
  have e1 : (execOp a.eval o1).run P w = .ok (.value v) w := by
   simp only [execOp, p1, hlv, Option.map_some, Option.map_none, Sem.run_bind, hv, Result.andThen_ok, Sem.run_pure]
  rw [e1]
  refine hK1 _ _ ?_
  refine wpListIn_plain g2 fun K2 hK2 => ?_
  refine wpIn_of_run (fun c h => by rw [p2] at h; cases h) ?_
  have ed : (a.put o1.dst v).eval (.tmp d) = v := by
   rw [d1]
   simp [Act.put, Act.eval, hsize]
  have e2 : (execOp (a.put o1.dst v).eval o2).run P w = .ok (.value (.tuple #[])) w' := by
   simp only [execOp, p2, resolve, List.map_toArray, List.map_cons, List.map_nil, ed, Sem.run_bind, Sem.run_pure, Result.andThen_ok, invoke, builtin, hc]
  rw [e2]
  refine hK2 _ _ (h' Z0 w0 _ _ ⟨μ, F, fun b h => ⟨(hFb b h).1, Nat.lt_of_lt_of_le (hFb b h).2 hsz⟩, hH', ?_, ?_, hb.trans hbel⟩)
  ·refine put_rel ?_ _ (by simp only [Rel]; exact ⟨[], rfl, RelL.nil⟩)
   rw [← d1]
   exact put_rel (hF.keep hk (fun _ _ h => h)) _ (by simp [Rel])
  ·rw [put_defers', put_defers']
   refine hdf.keep fun j y hj => ⟨?_, fun u hu => hu⟩
   rw [List.getElem?_set_ne (by rintro rfl; rw [hi] at hj; cases hj)]
   exact hj
 have hlz : (zerosA (z.cells.toList.map ofConst) info.size (n - l)).length = (n - l) * info.size := by simp [zerosA]
 have hmul : l * info.size + (n - l) * info.size = n * info.size := by rw [← Nat.add_mul]; congr 1; omega
 have hun : (underlying t).run P w = .ok (.slice el) w := run_underlying hu w
 rcases hown.2 with ⟨hv0, rfl⟩ | ⟨g, cap, cur, hv0, hB2, hg, hnc, hcm, hcs, htk⟩
 ·have hl0 : l = 0 := by omega
  subst hl0
  have hb0 := run_sliceAt (P := P) hel none 0 0 (some (.int k ((0 : Nat) : Int))) none none 0 0 0 (fun w => by
   have hbb : (Instr.sliceBound (.int k ((0 : Nat) : Int)) 0 .sliceB).run P w = .ok 0 w := run_bound (P := P) k 0 0 .sliceB (Nat.le_refl _) w
   simp [Instr.sliceBounds] at hbb ⊢; simp [hbb]) w
  rw [hv0] at *
  refine main _ hb0 ⟨w, by simp [Builtin.clear_, run_underlying hu], ?_, Below.refl _ _, fun _ _ _ => rfl, Nat.le_refl _⟩
  have ecs : cs = [] := List.eq_nil_of_length_eq_zero (by rw [← hlen, hcl]; simp)
  have hset : hp.set i (.list el info.size 0 (setMany cs (0 * info.size) (zerosA (z.cells.toList.map ofConst) info.size (0 - 0)))) = hp := by
   rw [ecs]
   have : setMany ([] : List AV) (0 * info.size) (zerosA (z.cells.toList.map ofConst) info.size (0 - 0)) = [] := by simp [setMany, zerosA]
   rw [this, ← ecs]
   exact set_self hi
  rw [hset]
  exact hH
 ·rw [hv0] at hxv
  have hb0 := run_sliceAt (P := P) hel (some ⟨g, 0, none⟩) n cap (some (.int k l)) none none l n cap (fun w => by simp [Instr.sliceBounds, run_bound (P := P) k l n _ hl]) w
  rw [← hv0] at hb0
  rcases Nat.lt_or_ge l n with hln | hln
  ·have hne : ¬ cap = l := by omega
   rw [if_neg hne] at hb0
   have hadd : (some (⟨g, 0, none⟩ : Addr)).map (·.add (l * info.size)) = some ⟨g, l * info.size, none⟩ := by simp [add_lit']
   refine main _ hb0 ?_
   have hpos : 0 < (n - l) * info.size := Nat.mul_pos (by omega) hs0
   have hval : (Builtin.zeroCells z.cells (n - l)).toList = (List.range ((n - l) * info.size)).map fun j => z.cells[j % info.size]! := by simp [Builtin.zeroCells, hzs]
   have hzr : RelL w (Zone Z0 F w0.heap.size) μ (zerosA (z.cells.toList.map ofConst) info.size (n - l)) (Builtin.zeroCells z.cells (n - l)).toList := by
    rw [hval]
    exact zeros_rel z.cells info.size (n - l) hzs hs0 _ (fun j _ => rfl)
   obtain ⟨w', hst, hH', hbel, hk, hsz⟩ := store_obj (P := P) hH hZn (o := l * info.size) hi hxv (g := g) rfl hzr (ones_rel hH.one h1 hzr) (by simp only [AObj.cells]; rw [hlz, ← hlen, hcl]; omega) (by intro h; rw [h] at hlz; simp at hlz; omega) (by simp [h2])
   refine ⟨w', ?_, hH', hbel, hk, hsz⟩
   have hnl : ∃ q, n - l = q + 1 := ⟨n - l - 1, by omega⟩
   obtain ⟨q, hq⟩ := hnl
   rw [hadd]
   rw [hq] at hst ⊢
   simp [Builtin.clear_, run_underlying hu, zeroValue, typeInfo, hinf, hz, hst]
  ·have e : n - l = 0 := by omega
   refine main _ hb0 ⟨w, ?_, ?_, Below.refl _ _, fun _ _ _ => rfl, Nat.le_refl _⟩
   ·rw [e]
    by_cases ec : cap = l <;> simp [Builtin.clear_, run_underlying hu, ec]
   ·have hset : hp.set i (.list el info.size n (setMany cs (l * info.size) (zerosA (z.cells.toList.map ofConst) info.size (n - l)))) = hp := by
     have : setMany cs (l * info.size) (zerosA (z.cells.toList.map ofConst) info.size (n - l)) = cs := by
      rw [e]
      simp [setMany, zerosA]
     rw [this]
     exact set_self hi
    rw [hset]
    exact hH
def clrAt (P : Program) (m : M) : Option (Nat × Nat × Nat × Nat × List AV × List AV × Int) :=
 match m.ks with
 | .ops _ (o1 :: o2 :: _) _ :: _ => match o1.op, o2.op with
  | .slice t x (some lo) none none, .call c => match c.callee, c.args.toList, c.argTypes.toList with
   | .builtin .clear, [.tmp d], [t'] =>
    if decide (t' = t) && o1.guard.isNone && o2.guard.isNone && decide (o1.dst = some d) && decide (d < m.st.fr.length) then
     match ev m.st.fr x, ev m.st.fr lo, rowB P t with
     | .ref i, .int _ l, some (el, s, zs, _) => match m.st.hp[i]? with
      | some (.list el' s' n cs) => if el' = el ∧ s' = s then some (i, el, s, n, cs, zs, l) else none
      | _ => none
     | _, _, _ => none
    else none
   | _, _, _ => none
  | _, _ => none
 | _ => none
def clrM (m : M) (hp : List AObj) : M :=
 match m.ks with
 | .ops all (o1 :: o2 :: l) _ :: ks => ⟨.ops all l false :: ks, ⟨putF (putF m.st.fr o1.dst .top) o2.dst (.tup []), hp⟩⟩
 | _ => m
theorem setMany_tail {α : Type} {E : α → List AV} (xs : List α) (d : α) {l : Nat} (hE : ∀ x, (E x).length = (E d).length) (h1 : l ≤ xs.length) :
  setMany (rows E xs) (l * (E d).length) (zerosA (E d) (E d).length (xs.length - l)) = rows E (xs.take l ++ List.replicate (xs.length - l) d) := by
 rw [zerosA_rows, rows_append, setMany, rows_take hE, rows_length hE, List.length_replicate]
 have e : l * (E d).length + (xs.length - l) * (E d).length = xs.length * (E d).length := by rw [← Nat.add_mul]; congr 1; omega
 rw [e, List.drop_of_length_le (by rw [rows_length hE]; exact Nat.le_refl _), List.append_nil]
theorem R.clr {α : Type} {m : M} (E : α → List AV) (d : α) (xs : List α) (i el l : Nat) (li : Int) (h : clrAt P m = some (i, el, (E d).length, xs.length, rows E xs, E d, li)) (hl : li = (l : Int)) (hE : ∀ x, (E x).length = (E d).length) (hE1 : ∀ x, (E x).all AV.one = true)
  (hE2 : ∀ x, leafyL (E x) = true) (h1 : l ≤ xs.length) (h' : Runs rd P (clrM m (m.st.hp.set i (.list el (E d).length (xs.take l ++ List.replicate (xs.length - l) d).length (rows E (xs.take l ++ List.replicate (xs.length - l) d))))) Q) : Runs rd P m Q := by
 subst hl
 obtain ⟨ks, ⟨fr, hp⟩⟩ := m
 unfold clrAt at h
 simp only at h
 split at h
 ·rename_i all o1 o2 rest f ks'
  split at h
  ·rename_i t x lo c hp1 hp2
   obtain ⟨callee, args, tys⟩ := c
   simp only at h
   split at h
   ·rename_i d0 t' ha hb
    split at h
    ·rename_i hc
     simp only [Bool.and_eq_true, decide_eq_true_eq, Option.isNone_iff_eq_none] at hc
     obtain ⟨⟨⟨⟨rfl, g1⟩, g2⟩, hd1⟩, hd⟩ := hc
     split at h
     ·rename_i i0 k0 l0 el0 s0 zs0 b0 hx hlo hr
      split at h
      ·rename_i el1 s1 n1 cs1 hi
       split at h
       ·rename_i he
        obtain ⟨rfl, rfl⟩ := he
        simp only [Option.some.injEq, Prod.mk.injEq] at h
        obtain ⟨rfl, rfl, rfl, rfl, rfl, rfl, rfl⟩ := h
        have ea : args = #[.tmp d0] := Array.toList_inj.1 ha
        have et : tys = #[t'] := Array.toList_inj.1 hb
        subst ea
        subst et
        rw [runs_iff] at h' ⊢
        simp only [clrM, RunsK] at h' ⊢
        have hlen : (xs.take l ++ List.replicate (xs.length - l) d).length = xs.length := by simp; omega
        rw [hlen, ← setMany_tail xs d hE h1] at h'
        intro _
        refine OpsQ.clr g1 hp1 hd1 g2 hp2 hx hlo hr hi h1 hd ?_ ?_ ?_
        ·rw [zerosA_rows]
         exact fun c hc => List.all_eq_true.1 (rows_all hE1 _) c hc
        ·rw [zerosA_rows]
         exact leafyL_rows hE2 _
        ·rw [← hd1]
         exact h' headW_false
       ·cases h
      ·cases h
     ·cases h
    ·cases h
   ·cases h
  ·cases h
 ·cases h
end
end Go.Abs

/-! Calls that change the caller's objects: under a further frame; with objects left out. -/
namespace Go.Abs
open Go.RowKit
theorem idx_range {n i : Nat} (h : i < n) : (List.range n).idxOf i = i := by
 have hm : i ∈ List.range n := List.mem_range.2 h
 have hlt := List.idxOf_lt_length_iff.2 hm
 have := List.getElem_idxOf hlt
 rw [List.getElem_range] at this
 exact this
mutual
theorem Rel.mix {w w' : World} {Z Z' : Nat → Prop} {μ μ1 μ2 : List Value} {n : Nat} (hA : ∀ (i : Nat) u, i < n → μ1[i]? = some u → μ2[i]? = some u) (hB : ∀ (i : Nat) u, n ≤ i → μ[i]? = some u → μ2[i]? = some u) :
  ∀ {c : AV} {v : Value}, Rel w Z μ c v → Rel w' Z' μ1 (c.ren (List.range n)) v → Rel w' Z' μ2 c v
 | .int _ _, _, _, h => by simpa [Rel, AV.ren] using h
 | .bool _, _, _, h => by simpa [Rel, AV.ren] using h
 | .str _, _, _, h => by simpa [Rel, AV.ren] using h
 | .nil, _, _, h => by simpa [Rel, AV.ren] using h
 | .top, _, _, _ => by simp [Rel]
 | .own _ _ _ _, _, h, _ => by simp [Rel] at h
 | .lst _ _ _, _, _, h => by simpa [Rel, AV.ren] using h
 | .clp _ _ _, _, _, h => by simpa [Rel, AV.ren] using h
 | .nam _ _ _ _ _, _, _, h => by simpa [Rel, AV.ren] using h
 | .rptr _, _, _, h => by simpa [Rel, AV.ren] using h
 | .ref i, v, h1, h2 => by
  simp only [Rel] at h1 ⊢
  rcases Nat.lt_or_ge i n with hi | hi
  ·have hc : (List.range n).contains i = true := by simpa using hi
   simp only [AV.ren, hc, if_true, idx_range hi, Rel] at h2
   exact hA i v hi h2
  ·exact hB i v hi h1
 | .ptr i o, v, h1, h2 => by
  simp only [Rel] at h1 ⊢
  rcases Nat.lt_or_ge i n with hi | hi
  ·have hc : (List.range n).contains i = true := by simpa using hi
   simp only [AV.ren, hc, if_true, idx_range hi, Rel] at h2
   obtain ⟨u, g, e1, e2, e3⟩ := h2
   exact ⟨u, g, hA i u hi e1, e2, e3⟩
  ·obtain ⟨u, g, e1, e2, e3⟩ := h1
   exact ⟨u, g, hB i u hi e1, e2, e3⟩
 | .agg cs, v, h1, h2 => by
  simp only [Rel, AV.ren] at h1 h2 ⊢
  obtain ⟨xs, e1, r1⟩ := h1
  obtain ⟨ys, e2, r2⟩ := h2
  rw [e1] at e2
  simp only [Value.agg.injEq] at e2
  have e3 : xs = ys := by simpa using e2
  subst e3
  exact ⟨xs, e1, RelL.mix hA hB r1 r2⟩
 | .tup cs, v, h1, h2 => by
  simp only [Rel, AV.ren] at h1 h2 ⊢
  obtain ⟨xs, e1, r1⟩ := h1
  obtain ⟨ys, e2, r2⟩ := h2
  rw [e1] at e2
  simp only [Value.tuple.injEq] at e2
  have e3 : xs = ys := by simpa using e2
  subst e3
  exact ⟨xs, e1, RelL.mix hA hB r1 r2⟩
 | .fn f cs, v, h1, h2 => by
  simp only [Rel, AV.ren] at h1 h2 ⊢
  obtain ⟨xs, e1, r1⟩ := h1
  obtain ⟨ys, e2, r2⟩ := h2
  rw [e1] at e2
  simp only [Value.func.injEq, true_and] at e2
  have e3 : xs = ys := by simpa using e2
  subst e3
  exact ⟨xs, e1, RelL.mix hA hB r1 r2⟩
theorem RelL.mix {w w' : World} {Z Z' : Nat → Prop} {μ μ1 μ2 : List Value} {n : Nat} (hA : ∀ (i : Nat) u, i < n → μ1[i]? = some u → μ2[i]? = some u) (hB : ∀ (i : Nat) u, n ≤ i → μ[i]? = some u → μ2[i]? = some u) :
  ∀ {cs : List AV} {vs : List Value}, RelL w Z μ cs vs → RelL w' Z' μ1 (renL (List.range n) cs) vs → RelL w' Z' μ2 cs vs
 | [], _, _, h => by simpa [RelL, renL] using h
 | c :: cs, _, h1, h2 => by
  simp only [RelL, renL] at h1 h2 ⊢
  obtain ⟨x, xs, e1, a1, b1⟩ := h1
  obtain ⟨y, ys, e2, a2, b2⟩ := h2
  rw [e1] at e2
  simp only [List.cons.injEq] at e2
  obtain ⟨rfl, rfl⟩ := e2
  exact ⟨x, xs, e1, Rel.mix hA hB a1 a2, RelL.mix hA hB b1 b2⟩
end
theorem HRel.addDead {w : World} {Z : Nat → Prop} {B : Nat} {μ : List Value} {hp : List AObj} (h : HRel w Z B μ hp) (u : Value) (hu : u.oneCell' = true) : HRel w Z B (μ ++ [u]) (hp ++ [.dead]) := by
 have split : ∀ (i : Nat) oi ui, (hp ++ [.dead])[i]? = some oi → (μ ++ [u])[i]? = some ui → (hp[i]? = some oi ∧ μ[i]? = some ui) ∨ oi = .dead := by
  intro i oi ui h1 h2
  rcases Nat.lt_or_ge i hp.length with hi | hi
  ·rw [List.getElem?_append_left hi] at h1
   rw [List.getElem?_append_left (by rw [h.len]; exact hi)] at h2
   exact .inl ⟨h1, h2⟩
  ·rw [List.getElem?_append_right hi] at h1
   rcases Nat.eq_zero_or_pos (i - hp.length) with h0 | h0
   ·rw [h0] at h1; simp at h1; exact .inr h1.symm
   ·rw [List.getElem?_eq_none (by simp; omega)] at h1; cases h1
 refine ⟨by simp [h.len], fun i oi ui g h1 ha h2 hg => ?_, fun i x hx => ?_, fun i oi ui h1 h2 => ?_, fun i j oi oj ui uj g hne h1 h2 a1 a2 m1 m2 b1 b2 => ?_⟩
 ·rcases split i oi ui h1 h2 with ⟨e1, e2⟩ | rfl
  ·exact h.zone i oi ui g e1 ha e2 hg
  ·cases ha
 ·rcases Nat.lt_or_ge i μ.length with hi | hi
  ·rw [List.getElem?_append_left hi] at hx
   exact h.one i x hx
  ·rw [List.getElem?_append_right hi] at hx
   rcases Nat.eq_zero_or_pos (i - μ.length) with h0 | h0
   ·rw [h0] at hx; simp at hx; rw [← hx]; exact hu
   ·rw [List.getElem?_eq_none (by simp; omega)] at hx; cases hx
 ·rcases split i oi ui h1 h2 with ⟨e1, e2⟩ | rfl
  ·exact (h.obj i oi ui e1 e2).keep (fun _ _ _ => rfl) (fun i u hu => append_old i u hu) (fun _ _ => rfl)
  ·trivial
 ·rcases split i oi ui h1 m1 with ⟨e1, e2⟩ | rfl
  ·rcases split j oj uj h2 m2 with ⟨e3, e4⟩ | rfl
   ·exact h.sep i j oi oj ui uj g hne e1 e3 a1 a2 e2 e4 b1 b2
   ·cases a2
  ·cases a1
theorem HRel.frameAt {w : World} {Z : Nat → Prop} {B n : Nat} {μ : List Value} {hp : List AObj} {us : List Value} {fr : List AV} (h : HRel w Z B μ hp) (hd : hp[n]? = some .dead) (hr : RelL w Z μ fr us) : HRel w Z B μ (hp.set n (.frame us fr)) := by
 have hn := (List.getElem?_eq_some_iff.1 hd).1
 have get : ∀ (i : Nat) oi, (hp.set n (.frame us fr))[i]? = some oi → oi = .frame us fr ∨ hp[i]? = some oi := by
  intro i oi h1
  by_cases e : n = i
  ·subst e
   rw [List.getElem?_set_self hn] at h1
   simp at h1; exact .inl h1.symm
  ·rw [List.getElem?_set_ne e] at h1; exact .inr h1
 refine ⟨by rw [List.length_set]; exact h.len, fun i oi ui g h1 ha h2 hg => ?_, h.one, fun i oi ui h1 h2 => ?_, fun i j oi oj ui uj g hne h1 h2 a1 a2 m1 m2 b1 b2 => ?_⟩
 ·rcases get i oi h1 with rfl | h1
  ·cases ha
  ·exact h.zone i oi ui g h1 ha h2 hg
 ·rcases get i oi h1 with rfl | h1
  ·exact hr
  ·exact h.obj i oi ui h1 h2
 ·rcases get i oi h1 with rfl | h1
  ·cases a1
  ·rcases get j oj h2 with rfl | h2
   ·cases a2
   ·exact h.sep i j oi oj ui uj g hne h1 h2 a1 a2 m1 m2 b1 b2
def renH (js : List Nat) (hp : List AObj) : List AObj := js.map fun i => (hp.getD i .dead).ren js
def insJ (n m : Nat) : List Nat := List.range n ++ (m :: (List.range (m - n)).map (· + n))
def insF (n : Nat) (us : List Value) (fr : List AV) (hp : List AObj) : List AObj := (renH (insJ n hp.length) (hp ++ [.dead])).set n (.frame us fr)
theorem insJ_nodup {n m : Nat} (h : n ≤ m) : (insJ n m).Nodup := by
 unfold insJ
 rw [List.nodup_append]
 refine ⟨List.nodup_range, ?_, ?_⟩
 ·rw [List.nodup_cons]
  refine ⟨?_, ?_⟩
  ·intro hm
   rw [List.mem_map] at hm
   obtain ⟨k, hk, e⟩ := hm
   rw [List.mem_range] at hk
   omega
  ·rw [List.nodup_iff_pairwise_ne, List.pairwise_map]
   exact List.nodup_range.imp fun h e => h (by omega)
 ·intro a ha b hb e
  rw [List.mem_range] at ha
  rw [List.mem_cons, List.mem_map] at hb
  rcases hb with hb | ⟨k, _, hk⟩ <;> omega
theorem CallS.frame {P : Program} {f : FuncId} {args : List AV} {hp : List AObj} {res : AV} {hp' : List AObj} (us2 : List Value) (fr2 : List AV) (hc : CallS P f args hp res hp') (h1 : renH (List.range hp.length) hp = hp)
  (h2 : renL (List.range hp.length) args = args) (h3 : hp.length ≤ hp'.length) : CallS P f args (hp ++ [.frame us2 fr2]) (res.ren (insJ hp.length hp'.length)) (insF hp.length us2 fr2 hp') := by
 obtain ⟨hen, hc⟩ := hc
 refine ⟨hen, ?_⟩
 intro Z0 F w0 w μ vs us fr hFb hH hvs hus hbel
 have hml : μ.length = hp.length + 1 := by rw [hH.len]; simp
 have hH0 := hH.ren (List.range hp.length) List.nodup_range
 have e0 : ((List.range hp.length).map fun i => ((hp ++ [AObj.frame us2 fr2]).getD i .dead).ren (List.range hp.length)) = hp := by
  refine Eq.trans (List.map_congr_left fun i hi => ?_) h1
  have hi := List.mem_range.1 hi
  simp only [List.getD_eq_getElem?_getD]
  rw [List.getElem?_append_left hi]
 rw [e0] at hH0
 have hvs0 := hvs.ren (List.range hp.length)
 rw [h2] at hvs0
 have hn2 : (hp ++ [AObj.frame us2 fr2])[hp.length]? = some (.frame us2 fr2) := by simp
 obtain ⟨u, hu⟩ : ∃ u, μ[hp.length]? = some u := ⟨_, List.getElem?_eq_getElem (by omega)⟩
 have hf2 : RelL w (Zone Z0 F w0.heap.size) μ fr2 us2 := hH.obj _ _ u hn2 hu
 have hus0 := (hus.append hf2).ren (List.range hp.length)
 refine (hc Z0 F w0 w _ vs (us ++ us2) _ hFb hH0 hvs0 hus0 hbel).mono ?_
 rintro e w' ⟨v, μ1, F1, rfl, hF1, hH1, hres, hfr1, hb1⟩
 have hm1 := hH1.len
 have hHd := hH1.addDead u (hH.one _ u hu)
 have hH2 := hHd.ren (insJ hp.length hp'.length) (insJ_nodup h3)
 obtain ⟨μ2, hμ2⟩ : ∃ μ2, μ2 = ((insJ hp.length hp'.length).map fun i => (μ1 ++ [u]).getD i (.bool false)) := ⟨_, rfl⟩
 have hA : ∀ (i : Nat) x, i < hp.length → μ1[i]? = some x → μ2[i]? = some x := by
  intro i x hi hx
  have hj : (insJ hp.length hp'.length)[i]? = some i := by
   unfold insJ
   rw [List.getElem?_append_left (by simpa using hi)]
   simp [hi]
  rw [hμ2, List.getElem?_map, hj]
  simp only [Option.map_some, List.getD_eq_getElem?_getD]
  rw [List.getElem?_append_left (by omega), hx]
  rfl
 have hB : ∀ (i : Nat) x, hp.length ≤ i → μ[i]? = some x → μ2[i]? = some x := by
  intro i x hi hx
  have hin : i = hp.length := by have := (List.getElem?_eq_some_iff.1 hx).1; omega
  subst hin
  rw [hu] at hx
  have hj : (insJ hp.length hp'.length)[hp.length]? = some hp'.length := by
   unfold insJ
   rw [List.getElem?_append_right (by simp)]
   simp
  rw [hμ2, List.getElem?_map, hj]
  simp only [Option.map_some, List.getD_eq_getElem?_getD]
  rw [List.getElem?_append_right (by omega), hm1]
  simpa using hx
 rw [← hμ2] at hH2
 have hall := RelL.mix hA hB (hus.append hf2) hfr1
 have hul := hus.length
 have hfr : RelL w' (Zone Z0 F1 w0.heap.size) μ2 fr us := by
  have := hall.take fr.length
  rwa [List.take_left, ← hul, List.take_left] at this
 have hfr2 : RelL w' (Zone Z0 F1 w0.heap.size) μ2 fr2 us2 := by
  have := hall.drop fr.length
  rwa [List.drop_left, ← hul, List.drop_left] at this
 refine ⟨v, μ2, F1, rfl, hF1, ?_, ?_, hfr, hb1⟩
 ·refine hH2.frameAt ?_ hfr2
  have hj : (insJ hp.length hp'.length)[hp.length]? = some hp'.length := by
   unfold insJ
   rw [List.getElem?_append_right (by simp)]
   simp
  rw [List.getElem?_map, hj]
  simp [AObj.ren]
 ·rw [hμ2]
  exact Rel.ren _ (Rel.keep (w := w') (fun _ _ _ => rfl) (fun i u hu => append_old i u hu) hres)
theorem CallS.drop {P : Program} {f : FuncId} {args : List AV} {hp : List AObj} {res : AV} {hp' : List AObj} (js : List Nat) (hc : CallS P f args hp res hp') (h1 : js.take hp.length = List.range hp.length) (h2 : js.Nodup) :
  CallS P f args hp (res.ren js) (renH js hp') := by
 obtain ⟨hen, hc⟩ := hc
 refine ⟨hen, ?_⟩
 intro Z0 F w0 w μ vs us fr hFb hH hvs hus hbel
 refine (hc Z0 F w0 w μ vs us fr hFb hH hvs hus hbel).mono ?_
 rintro e w' ⟨v, μ1, F1, rfl, hF1, hH1, hres, hfr1, hb1⟩
 have hm1 := hH1.len
 have hjs : ∀ i, i < hp.length → js[i]? = some i := by
  intro i hi
  have := congrArg (fun l : List Nat => l[i]?) h1
  simp only [List.getElem?_take, if_pos hi] at this
  rw [this]
  simp [hi]
 refine ⟨v, _, F1, rfl, hF1, hH1.ren js h2, Rel.ren js hres, ?_, hb1⟩
 refine RelL.mix (n := hp.length) ?_ ?_ hus (hfr1.ren (List.range hp.length))
 ·intro i x hi hx
  rw [List.getElem?_map, hjs i hi]
  rw [List.getElem?_map] at hx
  simpa [hi] using hx
 ·intro i x hi hx
  have h4 := (List.getElem?_eq_some_iff.1 hx).1
  have h5 := hH.len
  omega
end Go.Abs
