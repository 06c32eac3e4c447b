/- Texts of the proof: X01, W06, X02, Sym2, SymL, SymM, Sym4. -/
import Derived.Test.YtalfakdiinhdnaaPartF

/-! Maps between posets: what both packages take for a p-morphism. -/
namespace Go.Proofs.Ytalfakdiinhdnaa
open Go.RowKit Go.Abs

/-! The image of a mask under a map. -/
def imgF (ims : List Int) (L : List Int) : Int := L.foldl (fun o j => bor o (shl64 1 (ims.getD j.toNat 0))) 0
def mapM (ims : List Int) (m : Int) : Int := imgF ims (mem m)
theorem imgF_snoc {ims L : List Int} {t : Nat} (h : t < L.length) : bor (imgF ims (L.take t)) (shl64 1 (ims.getD (L.getD t 0).toNat 0)) = imgF ims (L.take (t + 1)) := by
  rw [List.take_succ_eq_append_getElem h, imgF, imgF, List.foldl_append, List.getD_eq_getElem?_getD (l := L), List.getElem?_eq_getElem h]
  rfl
def MorH (xs ys ims : List Int) : Prop := ims.length ≤ 8 ∧ ys.length ≤ 8 ∧ RelOK ims.length xs ∧ ∀ j : Nat, j < ims.length → 0 ≤ ims.getD j 0 ∧ ims.getD j 0 < (ys.length : Int)
def ImsH (ims : List Int) : Prop := ims.length ≤ 8 ∧ ∀ j : Nat, j < ims.length → 0 ≤ ims.getD j 0 ∧ ims.getD j 0 ≤ 61
theorem morH_i {xs ys ims : List Int} (h : MorH xs ys ims) : ImsH ims := ⟨h.1, fun j hj => by have := h.2.2.2 j hj; have := h.2.1; omega⟩
def MOR (xs ys ims : List Int) (x : Nat) : Prop := mapM ims (xs.getD x 0) = ys.getD (ims.getD x 0).toNat 0
instance (xs ys ims : List Int) (x : Nat) : Decidable (MOR xs ys ims x) := by unfold MOR; infer_instance
def morA (n : Int) (xs ys ims : List Int) : Bool := (List.range n.toNat).all fun x => decide (MOR xs ys ims x)
theorem morA_iff {n : Int} {xs ys ims : List Int} : morA n xs ys ims = true ↔ ∀ i : Nat, i < n.toNat → MOR xs ys ims i := by simp [morA]
theorem morA_no {n : Int} {xs ys ims : List Int} {i : Nat} (hi : i < n.toNat) (h : ¬ mapM ims (xs.getD i 0) = ys.getD (ims.getD i 0).toNat 0) : false = morA n xs ys ims := by
  cases e : morA n xs ys ims with
  | false => rfl
  | true => exact absurd (morA_iff.1 e i hi) h
theorem mapMask_c (ims : List Int) (m : Int) (hI : ImsH ims) (hm : InM ims.length m) : CallA Try.prog 119 [LI ims, AI m] (AI (mapM ims m)) := by
  have hi1 := hI.1
  have hm61 := inM_mono (n' := 61) (by omega) hm
  have hml := mem_le m
  have hiv := hI.2
  refine CallA.of Try.func119 rfl (by kernel_rfl) ?_
  refine R.go 12 (R.call true (membersOf_c m (by first | assumption | exact inM61 (by omega) (by omega))).frz (by kernel_rfl) rfl (by kernel_rfl) ?_)
  refine R.go 4 (R.loop ((fun | (t, r) => (⟨(frm 24 [(0, LI ims), (5, AI r), (9, LI (mem m)), (10, AI ((mem m).length)), (11, AI (t : Int))]), []⟩ : St) : Nat × Int → St)) (fun | (t, r) => (t ≤ (mem m).length) ∧ (r = imgF ims ((mem m).take t))) (fun | (t, r) => (mem m).length - t) (0, 0) [0, 5, 9, 10, 11] none (by kernel_rfl) (by kernel_rfl) (by kernel_rfl) ⟨(by omega), (by rfl)⟩ ?_)
  rintro ⟨t, r⟩ ⟨h4_1, rfl⟩ R1 N2
  have hjr := fun h : t < (mem m).length => mem_lt' (N := ims.length) (by omega) hm h
  have hiw := fun h : t < (mem m).length => hiv ((mem m).getD t 0).toNat (by have := hjr h; omega)
  refine R.go 5 (R.cond ((t : Int) < ((mem m).length : Int)) (by kernel_rfl) (fun c5 => ?_) (fun c5 => ?_))
  · refine R.go 5 (R.idx eI (mem m) 0 t (t : Int) (by kernel_rfl) rfl eI_len (by omega) (by kernel_rfl) ?_)
    have hj2 := hjr (by omega)
    have hw2 := hiw (by omega)
    refine R.go 7 (R.idx eI ims 0 ((((mem m).getD t 0)).toNat) ((mem m).getD t 0) (by kernel_rfl) (by omega) eI_len (by omega) (by kernel_rfl) ?_)
    refine R.go 1 (R.shl 1 (ims.getD ((((mem m).getD t 0)).toNat) 0) (by kernel_rfl) (by omega) (by kernel_rfl) ?_)
    refine R.go 5 (R.ar ((t : Int) + 1) (by kernel_rfl) (by omega) (by omega) (by kernel_rfl) ?_)
    exact R.go 2 (R.stop R1 (by kernel_rfl) (N2 (t + 1, bor (imgF ims ((mem m).take t)) (shl64 1 (ims.getD ((((mem m).getD t 0)).toNat) 0))) [0, 5, 9, 10, 11] none _ (by kernel_rfl) (by kernel_rfl) ⟨(by omega), (by exact imgF_snoc (by omega))⟩ (by show ((mem m).length - (t + 1)) < ((mem m).length - t); omega)))
  · exact R.go 6 (R.retE (AI (imgF ims ((mem m).take t))) (by kernel_rfl) (by kernel_rfl) (by first | (rw [mapM, List.take_of_length_le (by omega)]) | (exfalso; omega)))

theorem l21Images_c (m : Int) (ims : List Int) (hI : ImsH ims) (hm : InM ims.length m) : CallA Try.prog 98 [AI m, LI ims] (AI (mapM ims m)) := by
  have hi1 := hI.1
  have hm61 := inM_mono (n' := 61) (by omega) hm
  have hml := mem_le m
  have hiv := hI.2
  refine CallA.of Try.func98 rfl (by kernel_rfl) ?_
  refine R.go 7 (R.call true (l01ListM_c m (by first | assumption | exact inM61 (by omega) (by omega))).frz (by kernel_rfl) rfl (by kernel_rfl) ?_)
  refine R.go 9 (R.loop ((fun | (t, r) => (⟨(frm 35 [(1, LI ims), (5, LI (mem m)), (6, AI r), (7, AI (t : Int))]), []⟩ : St) : Nat × Int → St)) (fun | (t, r) => (t ≤ (mem m).length) ∧ (r = imgF ims ((mem m).take t))) (fun | (t, r) => (mem m).length - t) (0, 0) [1, 5, 6, 7] none (by kernel_rfl) (by kernel_rfl) (by kernel_rfl) ⟨(by omega), (by rfl)⟩ ?_)
  rintro ⟨t, r⟩ ⟨h4_1, rfl⟩ R1 N2
  have hjr := fun h : t < (mem m).length => mem_lt' (N := ims.length) (by omega) hm h
  have hiw := fun h : t < (mem m).length => hiv ((mem m).getD t 0).toNat (by have := hjr h; omega)
  refine R.go 8 (R.cond ((t : Int) < ((mem m).length : Int)) (by kernel_rfl) (fun c5 => ?_) (fun c5 => ?_))
  · have hj2 := hjr (by omega)
    have hw2 := hiw (by omega)
    refine R.go 8 (R.idx eI (mem m) 0 t (t : Int) (by kernel_rfl) rfl eI_len (by omega) (by kernel_rfl) ?_)
    refine R.go 1 (R.idx eI ims 0 ((((mem m).getD t 0)).toNat) ((mem m).getD t 0) (by kernel_rfl) (by omega) eI_len (by omega) (by kernel_rfl) ?_)
    refine R.go 3 (R.cond ((ims.getD ((((mem m).getD t 0)).toNat) 0) ≥ 0) (by kernel_rfl) (fun c6 => ?_) (fun c6 => ?_))
    · refine R.go 5 (R.idx eI (mem m) 0 t (t : Int) (by kernel_rfl) rfl eI_len (by omega) (by kernel_rfl) ?_)
      refine R.go 1 (R.idx eI ims 0 ((((mem m).getD t 0)).toNat) ((mem m).getD t 0) (by kernel_rfl) (by omega) eI_len (by omega) (by kernel_rfl) ?_)
      refine R.go 1 (R.call true (l01One_c (ims.getD ((((mem m).getD t 0)).toNat) 0) (by omega) (by omega)) (by kernel_rfl) rfl (by kernel_rfl) ?_)
      refine R.go 6 (R.ar ((t : Int) + 1) (by kernel_rfl) (by omega) (by omega) (by kernel_rfl) ?_)
      exact R.go 2 (R.stop R1 (by kernel_rfl) (N2 (t + 1, bor (imgF ims ((mem m).take t)) (shl64 1 (ims.getD ((((mem m).getD t 0)).toNat) 0))) [1, 5, 6, 7] none _ (by kernel_rfl) (by kernel_rfl) ⟨(by omega), (by first | exact imgF_snoc (by omega) | (exfalso; omega))⟩ (by show ((mem m).length - (t + 1)) < ((mem m).length - t); omega)))
    · refine R.go 4 (R.ar ((t : Int) + 1) (by kernel_rfl) (by omega) (by omega) (by kernel_rfl) ?_)
      exact R.go 2 (R.stop R1 (by kernel_rfl) (N2 (t + 1, imgF ims ((mem m).take t)) [1, 5, 6, 7] none _ (by kernel_rfl) (by kernel_rfl) ⟨(by omega), (by first | exact imgF_snoc (by omega) | (exfalso; omega))⟩ (by show ((mem m).length - (t + 1)) < ((mem m).length - t); omega)))
  · exact R.go 6 (R.retE (AI (imgF ims ((mem m).take t))) (by kernel_rfl) (by kernel_rfl) (by first | (rw [mapM, List.take_of_length_le (by omega)]) | (exfalso; omega)))

theorem isMor1_c (x : Nat) (ims : List Int) (n : Int) (xs : List Int) (m : Int) (ys : List Int) (hM : MorH xs ys ims) (hx : x < ims.length) : CallA Try.prog 118 [AI (x : Int), .rptr [LI ims], .rptr [AI n, LI xs], .rptr [AI m, LI ys]] (.bool (decide (mapM ims (xs.getD x 0) = ys.getD (ims.getD x 0).toNat 0))) := by
  have hM1 := hM.1
  have hM2 := hM.2.1
  have hMx := hM.2.2.1.1
  have hMv := hM.2.2.2 x hx
  refine CallA.of Try.func118 rfl (by kernel_rfl) ?_
  refine R.go 10 (R.idx eI xs 0 x (x : Int) (by kernel_rfl) rfl eI_len (by omega) (by kernel_rfl) ?_)
  refine R.go 1 (R.call true (mapMask_c ims (xs.getD x 0) (by first | assumption | exact morH_i (by assumption)) (by first | assumption | exact hM.2.2.1.2 x (by omega))) (by kernel_rfl) rfl (by kernel_rfl) ?_)
  refine R.go 4 (R.idx eI ims 0 x (x : Int) (by kernel_rfl) rfl eI_len (by omega) (by kernel_rfl) ?_)
  refine R.go 1 (R.idx eI ys 0 (((ims.getD x 0)).toNat) (ims.getD x 0) (by kernel_rfl) (by omega) eI_len (by omega) (by kernel_rfl) ?_)
  exact R.go 4 (R.retE (.bool (decide ((mapM ims (xs.getD x 0)) = (ys.getD (((ims.getD x 0)).toNat) 0)))) (by kernel_rfl) (by kernel_rfl) (by first | (rfl) | (exfalso; omega)))

theorem everyM_c (n : Int) (xs : List Int) (m : Int) (ys : List Int) (ims : List Int) (hM : MorH xs ys ims) (hn : n = (ims.length : Int)) : CallA Try.prog 80 [.agg [AI n, LI xs], .fn 118 [.rptr [LI ims], .rptr [AI n, LI xs], .rptr [AI m, LI ys]]] (.bool (morA n xs ys ims)) := by
  have hM1 := hM.1
  have hM2 := hM.2.1
  have hMx := hM.2.2.1.1
  refine CallA.of Try.func80 rfl (by kernel_rfl) ?_
  refine R.go 13 (R.loop (fun (x : Nat) => (⟨(frm 16 [(1, .fn 118 [.rptr [LI ims], .rptr [AI n, LI xs], .rptr [AI m, LI ys]]), (7, AI n), (8, AI (x : Int))]), []⟩ : St)) (fun (x : Nat) => (x ≤ n.toNat) ∧ (∀ i : Nat, i < x → MOR xs ys ims i)) (fun (x : Nat) => n.toNat - x) 0 [1, 7, 8] (some []) (by kernel_rfl) (by kernel_rfl) (by kernel_rfl) ⟨(by omega), (by exact fun i hi => absurd hi (by omega))⟩ ?_)
  rintro x ⟨h3_1, h3_2⟩ R1 N2
  refine R.go 5 (R.cond ((x : Int) < n) (by kernel_rfl) (fun c4 => ?_) (fun c4 => ?_))
  · refine R.go 12 (R.call true (isMor1_c x ims n xs m ys hM (by first | omega | (simp <;> omega))) (by kernel_rfl) rfl (by kernel_rfl) ?_)
    refine R.go 2 (R.condN (mapM ims (xs.getD x 0) = ys.getD (ims.getD x 0).toNat 0) (by kernel_rfl) (fun c5 => ?_) (fun c5 => ?_))
    · exact R.go 4 (R.retE (.bool false) (by kernel_rfl) (by kernel_rfl) (by first | (apply congrArg AV.bool; first | exact morA_no (i := x) (by omega) (by assumption) | exact (morA_iff.2 fun i hi => (‹∀ i : Nat, i < x → MOR xs ys ims i›) i (by omega)).symm) | (exfalso; omega)))
    · refine R.go 3 (R.ar ((x : Int) + 1) (by kernel_rfl) (by omega) (by omega) (by kernel_rfl) ?_)
      exact R.go 2 (R.stop R1 (by kernel_rfl) (N2 (x + 1) [1, 7, 8] none _ (by kernel_rfl) (by kernel_rfl) ⟨(by omega), (by exact below1 (P := MOR xs ys ims) (by assumption) (show mapM _ _ = _ by assumption))⟩ (by show (n.toNat - (x + 1)) < (n.toNat - x); omega)))
  · exact R.go 5 (R.retE (.bool true) (by kernel_rfl) (by kernel_rfl) (by first | (apply congrArg AV.bool; first | exact morA_no (i := x) (by omega) (by assumption) | exact (morA_iff.2 fun i hi => (‹∀ i : Nat, i < x → MOR xs ys ims i›) i (by omega)).symm) | (exfalso; omega)))

theorem isMorphism_c (n : Int) (xs : List Int) (m : Int) (ys : List Int) (ims : List Int) (hM : MorH xs ys ims) (hn : n = (ims.length : Int)) : CallA Try.prog 101 [.agg [AI n, LI xs], .agg [AI m, LI ys], LI ims] (.bool (morA n xs ys ims)) := by
  refine CallA.of Try.func101 rfl (by kernel_rfl) ?_
  refine R.go 11 (R.call false (everyM_c n xs m ys ims hM hn) (by kernel_rfl) rfl (by kernel_rfl) ?_)
  exact R.go 2 (R.retE (.bool (morA n xs ys ims)) (by kernel_rfl) (by kernel_rfl) (by rfl))

end Go.Proofs.Ytalfakdiinhdnaa


/-! StackPosets of both packages and its law. -/
namespace Go.Proofs.Ytalfakdiinhdnaa
open Go.RowKit Go.Abs

theorem map_take {f : Int → Int} {xs : List Int} {i : Nat} (h : i < xs.length) : (xs.take i).map f ++ [f (xs.getD i 0)] = (xs.take (i + 1)).map f := by
  rw [List.take_succ_eq_append_getElem h, List.map_append, List.getD_eq_getElem?_getD, List.getElem?_eq_getElem h]
  rfl
end Go.Proofs.Ytalfakdiinhdnaa


/-! QuotientPoset of both packages and its law. -/
namespace Go.Proofs.Ytalfakdiinhdnaa
open Go.RowKit Go.Abs

/-- The number of classes among the first i. -/
def nxt (L : List Int) : Nat → Int
  | 0 => 0
  | i + 1 => if L.getD i 0 = nxt L i then nxt L i + 1 else nxt L i
def clsB (L : List Int) : Bool := (List.range L.length).all fun i => inR (L.getD i 0) 0 (nxt L i)
def parB (n : Int) (L : List Int) : Bool := clsB L && decide ((L.length : Int) = n)
theorem nxt_yes {L : List Int} {i : Nat} (h : L.getD i 0 = nxt L i) : nxt L i + 1 = nxt L (i + 1) := by rw [nxt, if_pos h]
theorem nxt_no {L : List Int} {i : Nat} (h : ¬ L.getD i 0 = nxt L i) : nxt L i = nxt L (i + 1) := by rw [nxt, if_neg h]
theorem nxt_rng (L : List Int) : ∀ i : Nat, 0 ≤ nxt L i ∧ nxt L i ≤ (i : Int)
  | 0 => by simp [nxt]
  | i + 1 => by
    have := nxt_rng L i
    rw [nxt]
    split <;> omega
theorem nxt_mono {L : List Int} {i j : Nat} (h : i ≤ j) : nxt L i ≤ nxt L j := by
  induction j with
  | zero => rw [show i = 0 by omega]; exact Int.le_refl _
  | succ j ih =>
    by_cases e : i = j + 1
    · rw [e]; exact Int.le_refl _
    · have := ih (by omega)
      have h2 : nxt L j ≤ nxt L (j + 1) := by
        rw [nxt]
        split <;> omega
      omega
theorem clsB_iff {L : List Int} : clsB L = true ↔ ∀ i : Nat, i < L.length → 0 ≤ L.getD i 0 ∧ L.getD i 0 ≤ nxt L i := by
  simp only [clsB, List.all_eq_true, List.mem_range, inR_iff]
theorem clsB_no {L : List Int} {i : Nat} (hi : i < L.length) (h : inR (L.getD i 0) 0 (nxt L i) = false) : false = clsB L := by
  cases e : clsB L with
  | false => rfl
  | true =>
    have := (inR_iff _ _ _).2 (clsB_iff.1 e i hi)
    rw [h] at this
    cases this
theorem clsB_mk {L : List Int} (h : ∀ i : Nat, i < L.length → inR (L.getD i 0) 0 (nxt L i) = true) : clsB L = true := clsB_iff.2 fun i hi => (inR_iff _ _ _).1 (h i hi)
theorem cls_lt {L : List Int} (h : clsB L = true) {i : Nat} (hi : i < L.length) : 0 ≤ L.getD i 0 ∧ L.getD i 0 < nxt L (i + 1) := by
  have h1 := clsB_iff.1 h i hi
  refine ⟨h1.1, ?_⟩
  rw [nxt]
  split <;> omega
theorem cls_lt' {L : List Int} (h : clsB L = true) {i : Nat} (hi : i < L.length) : 0 ≤ L.getD i 0 ∧ L.getD i 0 < nxt L L.length := by
  have h1 := cls_lt h hi
  have h2 := nxt_mono (L := L) (show i + 1 ≤ L.length by omega)
  omega
def maxT (L : List Int) : Nat → Int
  | 0 => L.getD 0 0
  | i + 1 => if L.getD i 0 > maxT L i then L.getD i 0 else maxT L i
theorem maxT_one (L : List Int) : L.getD 0 0 = maxT L 1 := by rw [maxT, maxT, if_neg (by omega)]
theorem maxT_nxt {L : List Int} (h : clsB L = true) : ∀ i : Nat, 1 ≤ i → i ≤ L.length → maxT L i + 1 = nxt L i
  | 0, h1, _ => by omega
  | 1, _, h2 => by
    have h3 := clsB_iff.1 h 0 (by omega)
    rw [nxt] at h3
    have h4 : L.getD 0 0 = 0 := by omega
    rw [← maxT_one, h4, ← nxt_yes (by rw [nxt]; exact h4)]
    rfl
  | i + 2, _, h2 => by
    have ih := maxT_nxt h (i + 1) (by omega) (by omega)
    have h3 := clsB_iff.1 h (i + 1) (by omega)
    rw [maxT, nxt]
    split <;> split <;> omega
def quoI (xs L : List Int) : Nat → List Int
  | 0 => List.replicate (nxt L L.length).toNat 0
  | i + 1 => (quoI xs L i).set (L.getD i 0).toNat (bor ((quoI xs L i).getD (L.getD i 0).toNat 0) (mapM L (xs.getD i 0)))
theorem quoI_len (xs L : List Int) : ∀ i : Nat, (quoI xs L i).length = (nxt L L.length).toNat
  | 0 => by simp [quoI]
  | i + 1 => by rw [quoI, List.length_set, quoI_len xs L i]
def cngB (n : Int) (xs L : List Int) : Bool := (decide ((L.length : Int) = n) && clsB L) && morA n xs (quoI xs L L.length) L
def COR (xs L : List Int) (x y : Nat) : Prop := L.getD x 0 = L.getD y 0 → mapM L (xs.getD x 0) = mapM L (xs.getD y 0)
instance (xs L : List Int) (x y : Nat) : Decidable (COR xs L x y) := by unfold COR; infer_instance
def corB (xs L : List Int) : Bool := (List.range L.length).all fun x => (List.range L.length).all fun y => decide (COR xs L x y)
theorem corB_iff {xs L : List Int} : corB xs L = true ↔ ∀ x : Nat, x < L.length → ∀ y : Nat, y < L.length → COR xs L x y := by simp [corB]
theorem corB_no {xs L : List Int} {x y : Nat} (hx : x < L.length) (hy : y < L.length) (h : L.getD x 0 = L.getD y 0) (h2 : ¬ mapM L (xs.getD x 0) = mapM L (xs.getD y 0)) : false = corB xs L := by
  cases e : corB xs L with
  | false => rfl
  | true => exact absurd (corB_iff.1 e x hx y hy h) h2
def QH (xs L : List Int) : Prop := clsB L = true ∧ L.length ≤ 8 ∧ RelOK L.length xs
theorem qh_of {n : Int} {xs L : List Int} (hP : okPo n xs = true) (h : (L.length : Int) = n) (hc : clsB L = true) : QH xs L := by
  have a := okFr_rel (okPo_fr hP)
  have e : L.length = n.toNat := by omega
  exact ⟨hc, by omega, by rw [e]; exact a.2.2.2⟩
theorem qh_i {xs L : List Int} (h : QH xs L) : ImsH L := ⟨h.2.1, fun j hj => by
  have h1 := cls_lt' h.1 hj
  have h2 := nxt_rng L L.length
  have h3 := h.2.1
  omega⟩
theorem qh_m {xs L : List Int} (h : QH xs L) : MorH xs (quoI xs L L.length) L := by
  have h2 := nxt_rng L L.length
  have h3 := h.2.1
  refine ⟨h.2.1, by rw [quoI_len]; omega, h.2.2, fun j hj => ?_⟩
  have h1 := cls_lt' h.1 hj
  rw [quoI_len]
  omega
/-! The image of a mask, bit by bit. -/
theorem imgG_ok {ims : List Int} {K N : Nat} (hN : N ≤ 30) (hK : ims.length ≤ K) (hi : ∀ j : Nat, j < ims.length → 0 ≤ ims.getD j 0 ∧ ims.getD j 0 < (N : Int)) : ∀ (L : List Int) (o : Int), InM N o → (∀ j ∈ L, 0 ≤ j ∧ j < (ims.length : Int)) →
    InM N (L.foldl (fun o j => bor o (shl64 1 (ims.getD j.toNat 0))) o) ∧ ∀ k : Nat, tb (L.foldl (fun o j => bor o (shl64 1 (ims.getD j.toNat 0))) o) k = true ↔ tb o k = true ∨ ∃ j ∈ L, ims.getD j.toNat 0 = (k : Int)
  | [], o, h, _ => ⟨h, fun k => by simp⟩
  | v :: L, o, h, hL => by
    have hv := hL v (List.mem_cons_self ..)
    have hx := hi v.toNat (by omega)
    have h1 : ((ims.getD v.toNat 0).toNat : Int) = ims.getD v.toNat 0 := by omega
    have hI := inM_one (n := N) (i := (ims.getD v.toNat 0).toNat) (by omega) (by omega)
    have hT := tb_one (i := (ims.getD v.toNat 0).toNat) (by omega)
    rw [h1] at hI hT
    have hb := inM_bor (n := N) (by omega) h hI
    obtain ⟨i1, i2⟩ := imgG_ok hN hK hi L _ hb fun j hj => hL j (List.mem_cons_of_mem _ hj)
    refine ⟨i1, fun k => ?_⟩
    rw [List.foldl_cons, i2, tb_bor (n := N) (by omega) h hI, hT, Bool.or_eq_true, decide_eq_true_eq]
    constructor
    · rintro ((a | a) | ⟨j, hj, e⟩)
      · exact .inl a
      · exact .inr ⟨v, List.mem_cons_self .., by omega⟩
      · exact .inr ⟨j, List.mem_cons_of_mem _ hj, e⟩
    · rintro (a | ⟨j, hj, e⟩)
      · exact .inl (.inl a)
      · rcases List.mem_cons.1 hj with rfl | hj
        · exact .inl (.inr (by omega))
        · exact .inr ⟨j, hj, e⟩
theorem mapM_ok {ims : List Int} {m : Int} {N : Nat} (hl : ims.length ≤ 8) (hN : N ≤ 30) (hi : ∀ j : Nat, j < ims.length → 0 ≤ ims.getD j 0 ∧ ims.getD j 0 < (N : Int)) (hm : InM ims.length m) :
    InM N (mapM ims m) ∧ ∀ k : Nat, tb (mapM ims m) k = true ↔ ∃ j : Nat, tb m j = true ∧ ims.getD j 0 = (k : Int) := by
  obtain ⟨h1, h2⟩ := imgG_ok (K := 8) hN hl hi (mem m) 0 (inM_zero _) (mem_lt (by omega) hm)
  refine ⟨h1, fun k => ?_⟩
  rw [mapM, imgF, h2, tb_zero]
  constructor
  · rintro (a | ⟨j, hj, e⟩)
    · cases a
    · have h3 := mem_lt (N := ims.length) (by omega) hm j hj
      exact ⟨j.toNat, (mem_iff (by omega) hm).1 (by rw [show ((j.toNat : Nat) : Int) = j by omega]; exact hj), e⟩
  · rintro ⟨j, hj, e⟩
    exact .inr ⟨(j : Int), (mem_iff (by omega) hm).2 hj, by simpa using e⟩
theorem quoI_ok {xs L : List Int} (h : QH xs L) : ∀ i : Nat, i ≤ L.length → ∀ c : Nat, (c : Int) < nxt L L.length → InM (nxt L L.length).toNat ((quoI xs L i).getD c 0) ∧ ∀ k : Nat, tb ((quoI xs L i).getD c 0) k = true ↔ ∃ j : Nat, j < i ∧ L.getD j 0 = (c : Int) ∧ tb (mapM L (xs.getD j 0)) k = true
  | 0, _, c, hc => by
    have : (quoI xs L 0).getD c 0 = 0 := by
      simp only [quoI, List.getD_eq_getElem?_getD, List.getElem?_replicate]
      split <;> rfl
    rw [this]
    exact ⟨inM_zero _, fun k => by simp [tb_zero]⟩
  | i + 1, hi, c, hc => by
    have h2 := nxt_rng L L.length
    have h3 := h.2.1
    obtain ⟨a1, a2⟩ := quoI_ok h i (by omega) c hc
    have hci := cls_lt' h.1 (i := i) (by omega)
    have hm := mapM_ok (ims := L) (m := xs.getD i 0) (N := (nxt L L.length).toNat) h.2.1 (by omega) (fun j hj => by have := cls_lt' h.1 hj; omega) (h.2.2.2 i (by omega))
    rw [quoI, getD_set_if _ _ _ _ _ (by rw [quoI_len]; omega)]
    split
    · rename_i e
      rw [e]
      refine ⟨inM_bor (by omega) a1 hm.1, fun k => ?_⟩
      rw [tb_bor (n := (nxt L L.length).toNat) (by omega) a1 hm.1, Bool.or_eq_true, a2]
      constructor
      · rintro (⟨j, b1, b2, b3⟩ | b)
        · exact ⟨j, by omega, b2, b3⟩
        · exact ⟨i, by omega, by omega, b⟩
      · rintro ⟨j, b1, b2, b3⟩
        by_cases ej : j = i
        · subst ej; exact .inr b3
        · exact .inl ⟨j, by omega, b2, b3⟩
    · rename_i e
      refine ⟨a1, fun k => ?_⟩
      rw [a2]
      constructor
      · rintro ⟨j, b1, b2, b3⟩; exact ⟨j, by omega, b2, b3⟩
      · rintro ⟨j, b1, b2, b3⟩
        by_cases ej : j = i
        · subst ej; omega
        · exact ⟨j, by omega, b2, b3⟩
theorem quo_mor {n : Int} {xs L : List Int} (h : QH xs L) (hn : (L.length : Int) = n) : morA n xs (quoI xs L L.length) L = corB xs L := by
  have h2 := nxt_rng L L.length
  have h3 := h.2.1
  have hmm := fun (j : Nat) (hj : j < L.length) => mapM_ok (ims := L) (m := xs.getD j 0) (N := (nxt L L.length).toNat) h.2.1 (by omega) (fun j hj => by have := cls_lt' h.1 hj; omega) (h.2.2.2 j hj)
  rw [Bool.eq_iff_iff, morA_iff, corB_iff]
  constructor
  · intro a x hx y hy e
    have b1 := a x (by omega)
    have b2 := a y (by omega)
    unfold MOR at b1 b2
    rw [b1, b2, e]
  · intro a x hx
    have hxl : x < L.length := by omega
    have hc := cls_lt' h.1 hxl
    obtain ⟨q1, q2⟩ := quoI_ok h L.length (Nat.le_refl _) (L.getD x 0).toNat (by omega)
    unfold MOR
    refine tb_ext (hmm x hxl).1.1 q1.1 fun k => ?_
    rw [Bool.eq_iff_iff, q2]
    constructor
    · intro hk; exact ⟨x, hxl, by omega, hk⟩
    · rintro ⟨j, hj, e, hk⟩
      rw [a x hxl j hj (by omega)]
      exact hk
theorem cng_eq {n : Int} {xs L : List Int} (hP : okPo n xs = true) : cngB n xs L = (parB n L && corB xs L) := by
  cases hp : parB n L with
  | false =>
    have : (decide ((L.length : Int) = n) && clsB L) = false := by rw [Bool.and_comm]; exact hp
    rw [cngB, this]; rfl
  | true =>
    have : (decide ((L.length : Int) = n) && clsB L) = true := by rw [Bool.and_comm]; exact hp
    simp only [parB, Bool.and_eq_true, decide_eq_true_eq] at hp
    rw [cngB, this, Bool.true_and, Bool.true_and]
    exact quo_mor (qh_of hP hp.2 hp.1) hp.2
theorem areClasses_c (L : List Int) (ll : L.length ≤ 1000000000) : CallA Try.prog 100 [LI L] (.bool (clsB L)) := by
  refine CallA.of Try.func100 rfl (by kernel_rfl) ?_
  refine R.go 16 (R.loop ((fun | (x, nx) => (⟨(frm 22 [(3, AI nx), (6, LI L), (7, AI L.length), (8, AI (x : Int))]), []⟩ : St) : Nat × Int → St)) (fun | (x, nx) => (x ≤ L.length) ∧ (∀ i : Nat, i < x → inR (L.getD i 0) 0 (nxt L i) = true) ∧ (nx = nxt L x)) (fun | (x, nx) => L.length - x) (0, 0) [3, 6, 7, 8] none (by kernel_rfl) (by kernel_rfl) (by kernel_rfl) ⟨(by omega), (by exact fun i hi => absurd hi (by omega)), (by rfl)⟩ ?_)
  rintro ⟨x, nx⟩ ⟨h4_1, h4_2, rfl⟩ R1 N2
  have hnx := nxt_rng L x
  refine R.go 5 (R.cond ((x : Int) < (L.length : Int)) (by kernel_rfl) (fun c5 => ?_) (fun c5 => ?_))
  · refine R.go 5 (R.idx eI L 0 x (x : Int) (by kernel_rfl) rfl eI_len (by omega) (by kernel_rfl) ?_)
    refine R.go 8 (R.call true (inRange_c (L.getD x 0) 0 (nxt L x)) (by kernel_rfl) rfl (by kernel_rfl) ?_)
    refine R.go 2 (R.condM (inR (L.getD x 0) 0 (nxt L x)) (by kernel_rfl) (fun c6 => ?_) (fun c6 => ?_))
    · exact R.go 4 (R.retE (.bool false) (by kernel_rfl) (by kernel_rfl) (by first | (apply congrArg AV.bool; first | exact clsB_no (i := x) (by omega) (by assumption) | exact (clsB_mk fun i hi => (‹∀ i : Nat, i < x → inR (L.getD i 0) 0 (nxt L i) = true›) i (by omega)).symm) | (exfalso; omega)))
    · refine R.go 7 (R.cond ((L.getD x 0) = (nxt L x)) (by kernel_rfl) (fun c7 => ?_) (fun c7 => ?_))
      · refine R.go 2 (R.ar ((nxt L x) + 1) (by kernel_rfl) (by omega) (by omega) (by kernel_rfl) ?_)
        refine R.go 4 (R.ar ((x : Int) + 1) (by kernel_rfl) (by omega) (by omega) (by kernel_rfl) ?_)
        exact R.go 2 (R.stop R1 (by kernel_rfl) (N2 (x + 1, (nxt L x) + 1) [3, 6, 7, 8] none _ (by kernel_rfl) (by kernel_rfl) ⟨(by omega), (by exact below1 (by assumption) (by assumption)), (by first | exact nxt_yes (by assumption) | exact nxt_no (by assumption))⟩ (by show (L.length - (x + 1)) < (L.length - x); omega)))
      · refine R.go 3 (R.ar ((x : Int) + 1) (by kernel_rfl) (by omega) (by omega) (by kernel_rfl) ?_)
        exact R.go 2 (R.stop R1 (by kernel_rfl) (N2 (x + 1, nxt L x) [3, 6, 7, 8] none _ (by kernel_rfl) (by kernel_rfl) ⟨(by omega), (by exact below1 (by assumption) (by assumption)), (by first | exact nxt_yes (by assumption) | exact nxt_no (by assumption))⟩ (by show (L.length - (x + 1)) < (L.length - x); omega)))
  · exact R.go 5 (R.retE (.bool true) (by kernel_rfl) (by kernel_rfl) (by first | (apply congrArg AV.bool; first | exact clsB_no (i := x) (by omega) (by assumption) | exact (clsB_mk fun i hi => (‹∀ i : Nat, i < x → inR (L.getD i 0) 0 (nxt L i) = true›) i (by omega)).symm) | (exfalso; omega)))

theorem maxI_c (L : List Int) (h1 : 1 ≤ L.length) (ll : L.length ≤ 1000000000) : CallA Try.prog 127 [LI L] (AI (maxT L L.length)) := by
  refine CallA.of Try.func127 rfl (by kernel_rfl) ?_
  refine R.go 11 (R.cond ((L.length : Int) < 1) (by kernel_rfl) (fun c1 => ?_) (fun c1 => ?_))
  · exfalso; omega -- op ('other', 'makeInterface')
  · refine R.go 4 (R.idx eI L 0 0 0 (by kernel_rfl) rfl eI_len (by omega) (by kernel_rfl) ?_)
    refine R.go 9 (R.loop ((fun | (i, r) => (⟨(frm 25 [(0, LI L), (3, AI r), (4, AI (i : Int))]), []⟩ : St) : Nat × Int → St)) (fun | (i, r) => (1 ≤ i) ∧ (i ≤ L.length) ∧ (r = maxT L i)) (fun | (i, r) => L.length - i) (1, (L.getD 0 0)) [0, 3, 4] none (by kernel_rfl) (by kernel_rfl) (by kernel_rfl) ⟨(by omega), (by omega), (by exact maxT_one L)⟩ ?_)
    rintro ⟨i, r⟩ ⟨h5_1, h5_2, rfl⟩ R2 N3
    refine R.go 8 (R.cond ((i : Int) < (L.length : Int)) (by kernel_rfl) (fun c6 => ?_) (fun c6 => ?_))
    · refine R.go 7 (R.idx eI L 0 i (i : Int) (by kernel_rfl) rfl eI_len (by omega) (by kernel_rfl) ?_)
      refine R.go 7 (R.ar ((i : Int) + 1) (by kernel_rfl) (by omega) (by omega) (by kernel_rfl) ?_)
      exact R.go 2 (R.stop R2 (by kernel_rfl) (N3 (i + 1, if (L.getD i 0) > (maxT L i) then (L.getD i 0) else (maxT L i)) [0, 3, 4] none _ (by kernel_rfl) (by kernel_rfl) ⟨(by omega), (by omega), (by rfl)⟩ (by show (L.length - (i + 1)) < (L.length - i); omega)))
    · exact R.go 6 (R.retE (AI (maxT L i)) (by kernel_rfl) (by kernel_rfl) (by first | (rw [show i = L.length by omega]) | (exfalso; omega)))

theorem classCount_c (L : List Int) (hc : clsB L = true) (ll : L.length ≤ 1000000000) : CallA Try.prog 120 [LI L] (AI (nxt L L.length)) := by
  have hmx := fun h : 1 ≤ L.length => maxT_nxt hc L.length h (Nat.le_refl _)
  have hnr := nxt_rng L L.length
  refine CallA.of Try.func120 rfl (by kernel_rfl) ?_
  refine R.go 11 (R.cond ((L.length : Int) = 0) (by kernel_rfl) (fun c1 => ?_) (fun c1 => ?_))
  · exact R.go 4 (R.retE (AI 0) (by kernel_rfl) (by kernel_rfl) (by first | (apply congrArg AI; first | (exact hmx (by omega)) | (rw [List.eq_nil_of_length_eq_zero (l := L) (by omega)]; rfl)) | (exfalso; omega)))
  · refine R.go 4 (R.call true (maxI_c L (by first | omega | (simp <;> omega)) ll) (by kernel_rfl) rfl (by kernel_rfl) ?_)
    refine R.ar ((maxT L L.length) + 1) (by kernel_rfl) (by omega) (by omega) (by kernel_rfl) ?_
    exact R.go 2 (R.retE (AI ((maxT L L.length) + 1)) (by kernel_rfl) (by kernel_rfl) (by first | (apply congrArg AI; first | (exact hmx (by omega)) | (rw [List.eq_nil_of_length_eq_zero (l := L) (by omega)]; rfl)) | (exfalso; omega)))

theorem quotientRelation_c (xs : List Int) (L : List Int) (hQ : QH xs L) : CallA Try.prog 102 [LI xs, LI L] (ownA eI 2 1 (quoI xs L L.length)) := by
  have hI := qh_i hQ
  have hq8 := hQ.2.1
  have hqx := hQ.2.2.1
  have hqn := nxt_rng L L.length
  have hcl := fun (j : Nat) (hj : j < L.length) => cls_lt' hQ.1 hj
  refine CallA.of Try.func102 rfl (by kernel_rfl) ?_
  refine R.go 7 (R.call true (classCount_c L (by first | assumption | exact hQ.1) (by first | omega | (simp <;> omega))) (by kernel_rfl) rfl (by kernel_rfl) ?_)
  refine R.mk eI 0 2 8 ((nxt L L.length).toNat) (nxt L L.length) (by kernel_rfl) (by omega) (by decide) (by omega) (by kernel_rfl) ?_
  refine R.go 10 (R.loop ((fun | (x, out) => (⟨(frm 32 [(1, LI L), (5, .ref 0), (11, LI xs), (12, AI xs.length), (13, AI (x : Int))]), [rowA eI 2 1 out]⟩ : St) : Nat × (List Int) → St)) (fun | (x, out) => (x ≤ xs.length) ∧ (out = quoI xs L x)) (fun | (x, out) => xs.length - x) (0, (List.replicate ((nxt L L.length).toNat) 0)) [1, 5, 11, 12, 13] none (by kernel_rfl) (by kernel_rfl) (by kernel_rfl) ⟨(by omega), (by rfl)⟩ ?_)
  rintro ⟨x, out⟩ ⟨h4_1, rfl⟩ R1 N2
  have hol := quoI_len xs L x
  have hclx := hcl x
  refine R.go 5 (R.cond ((x : Int) < (xs.length : Int)) (by kernel_rfl) (fun c5 => ?_) (fun c5 => ?_))
  · refine R.go 6 (R.idx eI xs 0 x (x : Int) (by kernel_rfl) rfl eI_len (by omega) (by kernel_rfl) ?_)
    refine R.go 4 (R.any (by decide +kernel) (by kernel_rfl) ?_)
    refine R.anyF 0 (by kernel_rfl) (np_ret _ _ _) ?_
    refine R.anyF 1 (by kernel_rfl) (np_ret _ _ _) ?_
    refine R.anyF 2 (by kernel_rfl) (np_ret _ _ _) ?_
    refine R.anyF 7 (by kernel_rfl) (np_ret _ _ _) ?_
    refine R.anyF 8 (by kernel_rfl) (np_ret _ _ _) ?_
    refine R.any2 3 9 (by kernel_rfl) (by kernel_rfl) ?_ ?_
    · refine R.idx eI L 0 x (x : Int) (by kernel_rfl) rfl eI_len (by omega) (by kernel_rfl) ?_
      refine R.go 1 (R.any2 4 9 (by kernel_rfl) (by kernel_rfl) ?_ ?_)
      · refine R.go 2 (R.any2 5 9 (by kernel_rfl) (by kernel_rfl) ?_ ?_)
        · refine R.idxO 0 1 (quoI xs L x).length (((L.getD x 0)).toNat) (L.getD x 0) (by kernel_rfl) (by omega) (by omega) (by kernel_rfl) ?_
          refine R.go 1 (R.any2 6 9 (by kernel_rfl) (by kernel_rfl) ?_ ?_)
          · refine R.ldI (quoI xs L x) (((L.getD x 0)).toNat) (by kernel_rfl) (by omega) (by kernel_rfl) ?_
            refine R.go 1 (R.any1 9 (by kernel_rfl) (by kernel_rfl) ?_)
            refine R.call true (mapMask_c L (xs.getD x 0) hI (hQ.2.2.2 x (by omega))) (by kernel_rfl) rfl (by kernel_rfl) ?_
            refine R.go 1 (R.any1 10 (by kernel_rfl) (by kernel_rfl) ?_)
            refine R.go 2 (R.any1 11 (by kernel_rfl) (by kernel_rfl) ?_)
            refine R.idxO 0 1 (quoI xs L x).length (((L.getD x 0)).toNat) (L.getD x 0) (by kernel_rfl) (by omega) (by omega) (by kernel_rfl) ?_
            refine R.go 1 (R.any1 12 (by kernel_rfl) (by kernel_rfl) ?_)
            refine R.stI 0 2 (quoI xs L x) (((L.getD x 0)).toNat) (bor ((quoI xs L x).getD (((L.getD x 0)).toNat) 0) (mapM L (xs.getD x 0))) (by kernel_rfl) (by omega) (by kernel_rfl) ?_
            refine R.go 1 (R.any0 (by kernel_rfl) ?_)
            refine R.go 2 (R.ar ((x : Int) + 1) (by kernel_rfl) (by omega) (by omega) (by kernel_rfl) ?_)
            exact R.go 2 (R.stop R1 (by kernel_rfl) (N2 (x + 1, (quoI xs L x).set (((L.getD x 0)).toNat) (bor ((quoI xs L x).getD (((L.getD x 0)).toNat) 0) (mapM L (xs.getD x 0)))) [1, 5, 11, 12, 13] none _ (by kernel_rfl) (by kernel_rfl) ⟨(by omega), (by rfl)⟩ (by show (xs.length - (x + 1)) < (xs.length - x); omega)))
          · refine R.call true (mapMask_c L (xs.getD x 0) hI (hQ.2.2.2 x (by omega))) (by kernel_rfl) rfl (by kernel_rfl) ?_
            refine R.go 1 (R.any1 6 (by kernel_rfl) (by kernel_rfl) ?_)
            refine R.ldI (quoI xs L x) (((L.getD x 0)).toNat) (by kernel_rfl) (by omega) (by kernel_rfl) ?_
            refine R.go 1 (R.any1 10 (by kernel_rfl) (by kernel_rfl) ?_)
            refine R.go 2 (R.any1 11 (by kernel_rfl) (by kernel_rfl) ?_)
            refine R.idxO 0 1 (quoI xs L x).length (((L.getD x 0)).toNat) (L.getD x 0) (by kernel_rfl) (by omega) (by omega) (by kernel_rfl) ?_
            refine R.go 1 (R.any1 12 (by kernel_rfl) (by kernel_rfl) ?_)
            refine R.stI 0 2 (quoI xs L x) (((L.getD x 0)).toNat) (bor ((quoI xs L x).getD (((L.getD x 0)).toNat) 0) (mapM L (xs.getD x 0))) (by kernel_rfl) (by omega) (by kernel_rfl) ?_
            refine R.go 1 (R.any0 (by kernel_rfl) ?_)
            refine R.go 2 (R.ar ((x : Int) + 1) (by kernel_rfl) (by omega) (by omega) (by kernel_rfl) ?_)
            exact R.go 2 (R.stop R1 (by kernel_rfl) (N2 (x + 1, (quoI xs L x).set (((L.getD x 0)).toNat) (bor ((quoI xs L x).getD (((L.getD x 0)).toNat) 0) (mapM L (xs.getD x 0)))) [1, 5, 11, 12, 13] none _ (by kernel_rfl) (by kernel_rfl) ⟨(by omega), (by rfl)⟩ (by show (xs.length - (x + 1)) < (xs.length - x); omega)))
        · refine R.call true (mapMask_c L (xs.getD x 0) hI (hQ.2.2.2 x (by omega))) (by kernel_rfl) rfl (by kernel_rfl) ?_
          refine R.go 1 (R.any1 5 (by kernel_rfl) (by kernel_rfl) ?_)
          refine R.idxO 0 1 (quoI xs L x).length (((L.getD x 0)).toNat) (L.getD x 0) (by kernel_rfl) (by omega) (by omega) (by kernel_rfl) ?_
          refine R.go 1 (R.any1 6 (by kernel_rfl) (by kernel_rfl) ?_)
          refine R.ldI (quoI xs L x) (((L.getD x 0)).toNat) (by kernel_rfl) (by omega) (by kernel_rfl) ?_
          refine R.go 1 (R.any1 10 (by kernel_rfl) (by kernel_rfl) ?_)
          refine R.go 2 (R.any1 11 (by kernel_rfl) (by kernel_rfl) ?_)
          refine R.idxO 0 1 (quoI xs L x).length (((L.getD x 0)).toNat) (L.getD x 0) (by kernel_rfl) (by omega) (by omega) (by kernel_rfl) ?_
          refine R.go 1 (R.any1 12 (by kernel_rfl) (by kernel_rfl) ?_)
          refine R.stI 0 2 (quoI xs L x) (((L.getD x 0)).toNat) (bor ((quoI xs L x).getD (((L.getD x 0)).toNat) 0) (mapM L (xs.getD x 0))) (by kernel_rfl) (by omega) (by kernel_rfl) ?_
          refine R.go 1 (R.any0 (by kernel_rfl) ?_)
          refine R.go 2 (R.ar ((x : Int) + 1) (by kernel_rfl) (by omega) (by omega) (by kernel_rfl) ?_)
          exact R.go 2 (R.stop R1 (by kernel_rfl) (N2 (x + 1, (quoI xs L x).set (((L.getD x 0)).toNat) (bor ((quoI xs L x).getD (((L.getD x 0)).toNat) 0) (mapM L (xs.getD x 0)))) [1, 5, 11, 12, 13] none _ (by kernel_rfl) (by kernel_rfl) ⟨(by omega), (by rfl)⟩ (by show (xs.length - (x + 1)) < (xs.length - x); omega)))
      · refine R.call true (mapMask_c L (xs.getD x 0) hI (hQ.2.2.2 x (by omega))) (by kernel_rfl) rfl (by kernel_rfl) ?_
        refine R.go 1 (R.any1 4 (by kernel_rfl) (by kernel_rfl) ?_)
        refine R.go 2 (R.any1 5 (by kernel_rfl) (by kernel_rfl) ?_)
        refine R.idxO 0 1 (quoI xs L x).length (((L.getD x 0)).toNat) (L.getD x 0) (by kernel_rfl) (by omega) (by omega) (by kernel_rfl) ?_
        refine R.go 1 (R.any1 6 (by kernel_rfl) (by kernel_rfl) ?_)
        refine R.ldI (quoI xs L x) (((L.getD x 0)).toNat) (by kernel_rfl) (by omega) (by kernel_rfl) ?_
        refine R.go 1 (R.any1 10 (by kernel_rfl) (by kernel_rfl) ?_)
        refine R.go 2 (R.any1 11 (by kernel_rfl) (by kernel_rfl) ?_)
        refine R.idxO 0 1 (quoI xs L x).length (((L.getD x 0)).toNat) (L.getD x 0) (by kernel_rfl) (by omega) (by omega) (by kernel_rfl) ?_
        refine R.go 1 (R.any1 12 (by kernel_rfl) (by kernel_rfl) ?_)
        refine R.stI 0 2 (quoI xs L x) (((L.getD x 0)).toNat) (bor ((quoI xs L x).getD (((L.getD x 0)).toNat) 0) (mapM L (xs.getD x 0))) (by kernel_rfl) (by omega) (by kernel_rfl) ?_
        refine R.go 1 (R.any0 (by kernel_rfl) ?_)
        refine R.go 2 (R.ar ((x : Int) + 1) (by kernel_rfl) (by omega) (by omega) (by kernel_rfl) ?_)
        exact R.go 2 (R.stop R1 (by kernel_rfl) (N2 (x + 1, (quoI xs L x).set (((L.getD x 0)).toNat) (bor ((quoI xs L x).getD (((L.getD x 0)).toNat) 0) (mapM L (xs.getD x 0)))) [1, 5, 11, 12, 13] none _ (by kernel_rfl) (by kernel_rfl) ⟨(by omega), (by rfl)⟩ (by show (xs.length - (x + 1)) < (xs.length - x); omega)))
    · refine R.call true (mapMask_c L (xs.getD x 0) hI (hQ.2.2.2 x (by omega))) (by kernel_rfl) rfl (by kernel_rfl) ?_
      refine R.go 1 (R.any1 3 (by kernel_rfl) (by kernel_rfl) ?_)
      refine R.idx eI L 0 x (x : Int) (by kernel_rfl) rfl eI_len (by omega) (by kernel_rfl) ?_
      refine R.go 1 (R.any1 4 (by kernel_rfl) (by kernel_rfl) ?_)
      refine R.go 2 (R.any1 5 (by kernel_rfl) (by kernel_rfl) ?_)
      refine R.idxO 0 1 (quoI xs L x).length (((L.getD x 0)).toNat) (L.getD x 0) (by kernel_rfl) (by omega) (by omega) (by kernel_rfl) ?_
      refine R.go 1 (R.any1 6 (by kernel_rfl) (by kernel_rfl) ?_)
      refine R.ldI (quoI xs L x) (((L.getD x 0)).toNat) (by kernel_rfl) (by omega) (by kernel_rfl) ?_
      refine R.go 1 (R.any1 10 (by kernel_rfl) (by kernel_rfl) ?_)
      refine R.go 2 (R.any1 11 (by kernel_rfl) (by kernel_rfl) ?_)
      refine R.idxO 0 1 (quoI xs L x).length (((L.getD x 0)).toNat) (L.getD x 0) (by kernel_rfl) (by omega) (by omega) (by kernel_rfl) ?_
      refine R.go 1 (R.any1 12 (by kernel_rfl) (by kernel_rfl) ?_)
      refine R.stI 0 2 (quoI xs L x) (((L.getD x 0)).toNat) (bor ((quoI xs L x).getD (((L.getD x 0)).toNat) 0) (mapM L (xs.getD x 0))) (by kernel_rfl) (by omega) (by kernel_rfl) ?_
      refine R.go 1 (R.any0 (by kernel_rfl) ?_)
      refine R.go 2 (R.ar ((x : Int) + 1) (by kernel_rfl) (by omega) (by omega) (by kernel_rfl) ?_)
      exact R.go 2 (R.stop R1 (by kernel_rfl) (N2 (x + 1, (quoI xs L x).set (((L.getD x 0)).toNat) (bor ((quoI xs L x).getD (((L.getD x 0)).toNat) 0) (mapM L (xs.getD x 0)))) [1, 5, 11, 12, 13] none _ (by kernel_rfl) (by kernel_rfl) ⟨(by omega), (by rfl)⟩ (by show (xs.length - (x + 1)) < (xs.length - x); omega)))
  · exact R.go 6 (R.retE (ownA eI 2 1 (quoI xs L x)) (by kernel_rfl) (by kernel_rfl) (by first | (rw [show x = L.length by omega]) | (exfalso; omega)))

theorem isCongruence_c (n : Int) (xs : List Int) (L : List Int) (hP : okPo n xs = true) (ll : L.length ≤ 1000000000) : CallA Try.prog 61 [.agg [AI n, LI xs], LI L] (.bool (cngB n xs L)) := by
  have hp1 := okFr_rel (okPo_fr hP)
  have hb : 0 ≤ n ∧ n ≤ 8 ∧ (xs.length : Int) = n := ⟨hp1.1, hp1.2.1, hp1.2.2.1⟩
  refine CallA.of Try.func61 rfl (by kernel_rfl) ?_
  refine R.go 9 (R.call true (size_c L) (by kernel_rfl) rfl (by kernel_rfl) ?_)
  refine R.go 4 ?_
  by_cases c1 : (L.length : Int) = n
  · refine R.want (!decide ((L.length : Int) = n)) false (by kernel_rfl) (nF c1) ?_
    refine R.go 1 (R.want (!decide ((L.length : Int) = n)) false (by kernel_rfl) (nF c1) ?_)
    refine R.call true (areClasses_c L ll) (by kernel_rfl) rfl (by kernel_rfl) ?_
    refine R.want (!decide ((L.length : Int) = n)) false (by kernel_rfl) (nF c1) ?_
    refine R.go 1 (R.pick (!decide ((L.length : Int) = n)) false (by kernel_rfl) (nF c1) (by kernel_rfl) ?_)
    refine R.go 1 (R.condM (clsB L) (by kernel_rfl) (fun c2 => ?_) (fun c2 => ?_))
    · exact R.go 4 (R.retE (.bool false) (by kernel_rfl) (by kernel_rfl) (by first | (apply congrArg AV.bool; simp [cngB, *]) | (exfalso; omega)))
    · have hc : clsB L = true := by assumption
      have hln : (L.length : Int) = n := by assumption
      have hQ : QH xs L := qh_of hP hln hc
      have hM : MorH xs (quoI xs L L.length) L := qh_m hQ
      refine R.go 7 (R.call true (quotientRelation_c xs L hQ).frz (by kernel_rfl) rfl (by kernel_rfl) ?_)
      refine R.call true (frameOf_c (quoI xs L L.length)) (by kernel_rfl) rfl (by kernel_rfl) ?_
      refine R.go 1 (R.call true (isMorphism_c n xs ((quoI xs L L.length).length) (quoI xs L L.length) L hM (by first | omega | (simp <;> omega))) (by kernel_rfl) rfl (by kernel_rfl) ?_)
      exact R.go 2 (R.retE (.bool (morA n xs (quoI xs L L.length) L)) (by kernel_rfl) (by kernel_rfl) (by first | (apply congrArg AV.bool; simp [cngB, *]) | (exfalso; omega)))
  · refine R.skp (!decide ((L.length : Int) = n)) false (by kernel_rfl) (nT c1) (by kernel_rfl) ?_
    refine R.skp (!decide ((L.length : Int) = n)) false (by kernel_rfl) (nT c1) (by kernel_rfl) ?_
    refine R.skp (!decide ((L.length : Int) = n)) false (by kernel_rfl) (nT c1) (by kernel_rfl) ?_
    refine R.pick (!decide ((L.length : Int) = n)) true (by kernel_rfl) (nT c1) (by kernel_rfl) ?_
    exact R.go 6 (R.retE (.bool false) (by kernel_rfl) (by kernel_rfl) (by first | (apply congrArg AV.bool; simp [cngB, *]) | (exfalso; omega)))

theorem l21Correct_c (n : Int) (xs : List Int) (L : List Int) (hQ : QH xs L) : CallA Try.prog 58 [.agg [AI n, LI xs], LI L] (.bool (corB xs L)) := by
  have hI := qh_i hQ
  have hq8 := hQ.2.1
  have hqx := hQ.2.2.1
  have hqn := nxt_rng L L.length
  have hcl := fun (j : Nat) (hj : j < L.length) => cls_lt' hQ.1 hj
  refine CallA.of Try.func58 rfl (by kernel_rfl) ?_
  refine R.go 11 (R.loop (fun (x : Nat) => (⟨(frm 45 [(1, LI L), (2, .ptr 0 0), (5, AI (x : Int))]), [.box 31 [AI n, LI xs]]⟩ : St)) (fun (x : Nat) => (x ≤ L.length) ∧ (∀ i : Nat, i < x → ∀ j : Nat, j < L.length → COR xs L i j)) (fun (x : Nat) => L.length - x) 0 [1, 2, 5] none (by kernel_rfl) (by kernel_rfl) (by kernel_rfl) ⟨(by omega), (by exact fun i hi => absurd hi (by omega))⟩ ?_)
  rintro x ⟨h3_1, h3_2⟩ R1 N2
  have hxx := hQ.2.2.2 x
  refine R.go 8 (R.cond ((x : Int) < (L.length : Int)) (by kernel_rfl) (fun c4 => ?_) (fun c4 => ?_))
  · refine R.go 8 (R.loop (fun (y : Nat) => (⟨(frm 45 [(1, LI L), (2, .ptr 0 0), (5, AI (x : Int)), (6, AI (y : Int))]), [.box 31 [AI n, LI xs]]⟩ : St)) (fun (y : Nat) => (y ≤ L.length) ∧ (∀ j : Nat, j < y → COR xs L x j)) (fun (y : Nat) => L.length - y) 0 [1, 2, 5, 6] none (by kernel_rfl) (by kernel_rfl) (by kernel_rfl) ⟨(by omega), (by exact fun j hj => absurd hj (by omega))⟩ ?_)
    rintro y ⟨h7_1, h7_2⟩ R5 N6
    have hxy := hQ.2.2.2 y
    refine R.go 8 (R.cond ((y : Int) < (L.length : Int)) (by kernel_rfl) (fun c8 => ?_) (fun c8 => ?_))
    · refine R.go 7 (R.idx eI L 0 x (x : Int) (by kernel_rfl) rfl eI_len (by omega) (by kernel_rfl) ?_)
      refine R.go 3 (R.idx eI L 0 y (y : Int) (by kernel_rfl) rfl eI_len (by omega) (by kernel_rfl) ?_)
      refine R.go 3 ?_
      by_cases c9 : (L.getD x 0) = (L.getD y 0)
      · refine R.want (decide ((L.getD x 0) = (L.getD y 0))) true (by kernel_rfl) (dT c9) ?_
        refine R.go 1 (R.want (decide ((L.getD x 0) = (L.getD y 0))) true (by kernel_rfl) (dT c9) ?_)
        refine R.go 1 (R.want (decide ((L.getD x 0) = (L.getD y 0))) true (by kernel_rfl) (dT c9) ?_)
        refine R.go 1 (R.want (decide ((L.getD x 0) = (L.getD y 0))) true (by kernel_rfl) (dT c9) ?_)
        refine R.idx eI xs 0 x (x : Int) (by kernel_rfl) rfl eI_len (by omega) (by kernel_rfl) ?_
        refine R.want (decide ((L.getD x 0) = (L.getD y 0))) true (by kernel_rfl) (dT c9) ?_
        refine R.go 1 (R.want (decide ((L.getD x 0) = (L.getD y 0))) true (by kernel_rfl) (dT c9) ?_)
        refine R.go 1 (R.want (decide ((L.getD x 0) = (L.getD y 0))) true (by kernel_rfl) (dT c9) ?_)
        refine R.call true (l21Images_c (xs.getD x 0) L hI (hxx (by omega))) (by kernel_rfl) rfl (by kernel_rfl) ?_
        refine R.want (decide ((L.getD x 0) = (L.getD y 0))) true (by kernel_rfl) (dT c9) ?_
        refine R.go 1 (R.want (decide ((L.getD x 0) = (L.getD y 0))) true (by kernel_rfl) (dT c9) ?_)
        refine R.go 1 (R.want (decide ((L.getD x 0) = (L.getD y 0))) true (by kernel_rfl) (dT c9) ?_)
        refine R.go 1 (R.want (decide ((L.getD x 0) = (L.getD y 0))) true (by kernel_rfl) (dT c9) ?_)
        refine R.idx eI xs 0 y (y : Int) (by kernel_rfl) rfl eI_len (by omega) (by kernel_rfl) ?_
        refine R.want (decide ((L.getD x 0) = (L.getD y 0))) true (by kernel_rfl) (dT c9) ?_
        refine R.go 1 (R.want (decide ((L.getD x 0) = (L.getD y 0))) true (by kernel_rfl) (dT c9) ?_)
        refine R.go 1 (R.want (decide ((L.getD x 0) = (L.getD y 0))) true (by kernel_rfl) (dT c9) ?_)
        refine R.call true (l21Images_c (xs.getD y 0) L hI (hxy (by omega))) (by kernel_rfl) rfl (by kernel_rfl) ?_
        refine R.want (decide ((L.getD x 0) = (L.getD y 0))) true (by kernel_rfl) (dT c9) ?_
        refine R.go 1 (R.pick (decide ((L.getD x 0) = (L.getD y 0))) true (by kernel_rfl) (dT c9) (by kernel_rfl) ?_)
        refine R.go 1 (R.condN ((mapM L (xs.getD x 0)) = (mapM L (xs.getD y 0))) (by kernel_rfl) (fun c10 => ?_) (fun c10 => ?_))
        · exact R.go 4 (R.retE (.bool false) (by kernel_rfl) (by kernel_rfl) (by first | (apply congrArg AV.bool; first | exact corB_no (x := x) (y := y) (by omega) (by omega) (by assumption) (by assumption) | exact (corB_iff.2 fun i hi => (‹∀ i : Nat, i < x → ∀ j : Nat, j < L.length → COR xs L i j›) i (by omega)).symm) | (exfalso; omega)))
        · refine R.go 4 (R.ar ((y : Int) + 1) (by kernel_rfl) (by omega) (by omega) (by kernel_rfl) ?_)
          exact R.go 2 (R.stop R5 (by kernel_rfl) (N6 (y + 1) [1, 2, 5, 6] none _ (by kernel_rfl) (by kernel_rfl) ⟨(by omega), (by exact below1 (P := COR xs L x) (by assumption) (by unfold COR; intro e; first | assumption | exact absurd e (by assumption)))⟩ (by show (L.length - (y + 1)) < (L.length - y); omega)))
      · refine R.skp (decide ((L.getD x 0) = (L.getD y 0))) true (by kernel_rfl) (dF c9) (by kernel_rfl) ?_
        refine R.skp (decide ((L.getD x 0) = (L.getD y 0))) true (by kernel_rfl) (dF c9) (by kernel_rfl) ?_
        refine R.skp (decide ((L.getD x 0) = (L.getD y 0))) true (by kernel_rfl) (dF c9) (by kernel_rfl) ?_
        refine R.skp (decide ((L.getD x 0) = (L.getD y 0))) true (by kernel_rfl) (dF c9) (by kernel_rfl) ?_
        refine R.skp (decide ((L.getD x 0) = (L.getD y 0))) true (by kernel_rfl) (dF c9) (by kernel_rfl) ?_
        refine R.skp (decide ((L.getD x 0) = (L.getD y 0))) true (by kernel_rfl) (dF c9) (by kernel_rfl) ?_
        refine R.skp (decide ((L.getD x 0) = (L.getD y 0))) true (by kernel_rfl) (dF c9) (by kernel_rfl) ?_
        refine R.skp (decide ((L.getD x 0) = (L.getD y 0))) true (by kernel_rfl) (dF c9) (by kernel_rfl) ?_
        refine R.skp (decide ((L.getD x 0) = (L.getD y 0))) true (by kernel_rfl) (dF c9) (by kernel_rfl) ?_
        refine R.skp (decide ((L.getD x 0) = (L.getD y 0))) true (by kernel_rfl) (dF c9) (by kernel_rfl) ?_
        refine R.skp (decide ((L.getD x 0) = (L.getD y 0))) true (by kernel_rfl) (dF c9) (by kernel_rfl) ?_
        refine R.skp (decide ((L.getD x 0) = (L.getD y 0))) true (by kernel_rfl) (dF c9) (by kernel_rfl) ?_
        refine R.skp (decide ((L.getD x 0) = (L.getD y 0))) true (by kernel_rfl) (dF c9) (by kernel_rfl) ?_
        refine R.skp (decide ((L.getD x 0) = (L.getD y 0))) true (by kernel_rfl) (dF c9) (by kernel_rfl) ?_
        refine R.skp (decide ((L.getD x 0) = (L.getD y 0))) true (by kernel_rfl) (dF c9) (by kernel_rfl) ?_
        refine R.pick (decide ((L.getD x 0) = (L.getD y 0))) false (by kernel_rfl) (dF c9) (by kernel_rfl) ?_
        refine R.go 6 (R.ar ((y : Int) + 1) (by kernel_rfl) (by omega) (by omega) (by kernel_rfl) ?_)
        exact R.go 2 (R.stop R5 (by kernel_rfl) (N6 (y + 1) [1, 2, 5, 6] none _ (by kernel_rfl) (by kernel_rfl) ⟨(by omega), (by exact below1 (P := COR xs L x) (by assumption) (by unfold COR; intro e; first | assumption | exact absurd e (by assumption)))⟩ (by show (L.length - (y + 1)) < (L.length - y); omega)))
    · refine R.go 4 (R.ar ((x : Int) + 1) (by kernel_rfl) (by omega) (by omega) (by kernel_rfl) ?_)
      exact R.go 2 (R.stop R1 (by kernel_rfl) (N2 (x + 1) [1, 2, 5] none _ (by kernel_rfl) (by kernel_rfl) ⟨(by omega), (by exact below1 (P := fun i => ∀ j : Nat, j < L.length → COR xs L i j) (by assumption) (fun j hj => (‹∀ j : Nat, j < y → COR xs L x j›) j (by omega)))⟩ (by show (L.length - (x + 1)) < (L.length - x); omega)))
  · exact R.go 5 (R.retE (.bool true) (by kernel_rfl) (by kernel_rfl) (by first | (apply congrArg AV.bool; first | exact corB_no (x := x) (y := y) (by omega) (by omega) (by assumption) (by assumption) | exact (corB_iff.2 fun i hi => (‹∀ i : Nat, i < x → ∀ j : Nat, j < L.length → COR xs L i j›) i (by omega)).symm) | (exfalso; omega)))

end Go.Proofs.Ytalfakdiinhdnaa


/-! Calls that change the caller's objects: under a further frame; with objects left out. -/
namespace Go.Abs
open Go.RowKit

theorem idx_range {n i : Nat} (h : i < n) : (List.range n).idxOf i = i := by
  have hm : i ∈ List.range n := List.mem_range.2 h
  have hlt := List.idxOf_lt_length_iff.2 hm
  have := List.getElem_idxOf hlt
  rw [List.getElem_range] at this
  exact this

mutual
theorem Rel.mix {w w' : World} {Z Z' : Nat → Prop} {μ μ1 μ2 : List Value} {n : Nat} (hA : ∀ (i : Nat) u, i < n → μ1[i]? = some u → μ2[i]? = some u) (hB : ∀ (i : Nat) u, n ≤ i → μ[i]? = some u → μ2[i]? = some u) :
    ∀ {c : AV} {v : Value}, Rel w Z μ c v → Rel w' Z' μ1 (c.ren (List.range n)) v → Rel w' Z' μ2 c v
  | .int _ _, _, _, h => by simpa [Rel, AV.ren] using h
  | .bool _, _, _, h => by simpa [Rel, AV.ren] using h
  | .str _, _, _, h => by simpa [Rel, AV.ren] using h
  | .nil, _, _, h => by simpa [Rel, AV.ren] using h
  | .top, _, _, _ => by simp [Rel]
  | .own _ _ _ _, _, h, _ => by simp [Rel] at h
  | .lst _ _ _, _, _, h => by simpa [Rel, AV.ren] using h
  | .clp _ _ _, _, _, h => by simpa [Rel, AV.ren] using h
  | .nam _ _ _ _ _, _, _, h => by simpa [Rel, AV.ren] using h
  | .rptr _, _, _, h => by simpa [Rel, AV.ren] using h
  | .ref i, v, h1, h2 => by
    simp only [Rel] at h1 ⊢
    rcases Nat.lt_or_ge i n with hi | hi
    · have hc : (List.range n).contains i = true := by simpa using hi
      simp only [AV.ren, hc, if_true, idx_range hi, Rel] at h2
      exact hA i v hi h2
    · exact hB i v hi h1
  | .ptr i o, v, h1, h2 => by
    simp only [Rel] at h1 ⊢
    rcases Nat.lt_or_ge i n with hi | hi
    · have hc : (List.range n).contains i = true := by simpa using hi
      simp only [AV.ren, hc, if_true, idx_range hi, Rel] at h2
      obtain ⟨u, g, e1, e2, e3⟩ := h2
      exact ⟨u, g, hA i u hi e1, e2, e3⟩
    · obtain ⟨u, g, e1, e2, e3⟩ := h1
      exact ⟨u, g, hB i u hi e1, e2, e3⟩
  | .agg cs, v, h1, h2 => by
    simp only [Rel, AV.ren] at h1 h2 ⊢
    obtain ⟨xs, e1, r1⟩ := h1
    obtain ⟨ys, e2, r2⟩ := h2
    rw [e1] at e2
    simp only [Value.agg.injEq] at e2
    have e3 : xs = ys := by simpa using e2
    subst e3
    exact ⟨xs, e1, RelL.mix hA hB r1 r2⟩
  | .tup cs, v, h1, h2 => by
    simp only [Rel, AV.ren] at h1 h2 ⊢
    obtain ⟨xs, e1, r1⟩ := h1
    obtain ⟨ys, e2, r2⟩ := h2
    rw [e1] at e2
    simp only [Value.tuple.injEq] at e2
    have e3 : xs = ys := by simpa using e2
    subst e3
    exact ⟨xs, e1, RelL.mix hA hB r1 r2⟩
  | .fn f cs, v, h1, h2 => by
    simp only [Rel, AV.ren] at h1 h2 ⊢
    obtain ⟨xs, e1, r1⟩ := h1
    obtain ⟨ys, e2, r2⟩ := h2
    rw [e1] at e2
    simp only [Value.func.injEq, true_and] at e2
    have e3 : xs = ys := by simpa using e2
    subst e3
    exact ⟨xs, e1, RelL.mix hA hB r1 r2⟩
theorem RelL.mix {w w' : World} {Z Z' : Nat → Prop} {μ μ1 μ2 : List Value} {n : Nat} (hA : ∀ (i : Nat) u, i < n → μ1[i]? = some u → μ2[i]? = some u) (hB : ∀ (i : Nat) u, n ≤ i → μ[i]? = some u → μ2[i]? = some u) :
    ∀ {cs : List AV} {vs : List Value}, RelL w Z μ cs vs → RelL w' Z' μ1 (renL (List.range n) cs) vs → RelL w' Z' μ2 cs vs
  | [], _, _, h => by simpa [RelL, renL] using h
  | c :: cs, _, h1, h2 => by
    simp only [RelL, renL] at h1 h2 ⊢
    obtain ⟨x, xs, e1, a1, b1⟩ := h1
    obtain ⟨y, ys, e2, a2, b2⟩ := h2
    rw [e1] at e2
    simp only [List.cons.injEq] at e2
    obtain ⟨rfl, rfl⟩ := e2
    exact ⟨x, xs, e1, Rel.mix hA hB a1 a2, RelL.mix hA hB b1 b2⟩
end

/-- One object more, of which nothing is known. -/
theorem HRel.addDead {w : World} {Z : Nat → Prop} {B : Nat} {μ : List Value} {hp : List AObj} (h : HRel w Z B μ hp) (u : Value) (hu : u.oneCell' = true) : HRel w Z B (μ ++ [u]) (hp ++ [.dead]) := by
  have split : ∀ (i : Nat) oi ui, (hp ++ [.dead])[i]? = some oi → (μ ++ [u])[i]? = some ui → (hp[i]? = some oi ∧ μ[i]? = some ui) ∨ oi = .dead := by
    intro i oi ui h1 h2
    rcases Nat.lt_or_ge i hp.length with hi | hi
    · rw [List.getElem?_append_left hi] at h1
      rw [List.getElem?_append_left (by rw [h.len]; exact hi)] at h2
      exact .inl ⟨h1, h2⟩
    · rw [List.getElem?_append_right hi] at h1
      rcases Nat.eq_zero_or_pos (i - hp.length) with h0 | h0
      · rw [h0] at h1; simp at h1; exact .inr h1.symm
      · rw [List.getElem?_eq_none (by simp; omega)] at h1; cases h1
  refine ⟨by simp [h.len], fun i oi ui g h1 ha h2 hg => ?_, fun i x hx => ?_, fun i oi ui h1 h2 => ?_, fun i j oi oj ui uj g hne h1 h2 a1 a2 m1 m2 b1 b2 => ?_⟩
  · rcases split i oi ui h1 h2 with ⟨e1, e2⟩ | rfl
    · exact h.zone i oi ui g e1 ha e2 hg
    · cases ha
  · rcases Nat.lt_or_ge i μ.length with hi | hi
    · rw [List.getElem?_append_left hi] at hx
      exact h.one i x hx
    · rw [List.getElem?_append_right hi] at hx
      rcases Nat.eq_zero_or_pos (i - μ.length) with h0 | h0
      · rw [h0] at hx; simp at hx; rw [← hx]; exact hu
      · rw [List.getElem?_eq_none (by simp; omega)] at hx; cases hx
  · rcases split i oi ui h1 h2 with ⟨e1, e2⟩ | rfl
    · exact (h.obj i oi ui e1 e2).keep (fun _ _ _ => rfl) (fun i u hu => append_old i u hu) (fun _ _ => rfl)
    · trivial
  · rcases split i oi ui h1 m1 with ⟨e1, e2⟩ | rfl
    · rcases split j oj uj h2 m2 with ⟨e3, e4⟩ | rfl
      · exact h.sep i j oi oj ui uj g hne e1 e3 a1 a2 e2 e4 b1 b2
      · cases a2
    · cases a1

/-- A caller's frame where nothing is known. -/
theorem HRel.frameAt {w : World} {Z : Nat → Prop} {B n : Nat} {μ : List Value} {hp : List AObj} {us : List Value} {fr : List AV} (h : HRel w Z B μ hp) (hd : hp[n]? = some .dead) (hr : RelL w Z μ fr us) : HRel w Z B μ (hp.set n (.frame us fr)) := by
  have hn := (List.getElem?_eq_some_iff.1 hd).1
  have get : ∀ (i : Nat) oi, (hp.set n (.frame us fr))[i]? = some oi → oi = .frame us fr ∨ hp[i]? = some oi := by
    intro i oi h1
    by_cases e : n = i
    · subst e
      rw [List.getElem?_set_self hn] at h1
      simp at h1; exact .inl h1.symm
    · rw [List.getElem?_set_ne e] at h1; exact .inr h1
  refine ⟨by rw [List.length_set]; exact h.len, fun i oi ui g h1 ha h2 hg => ?_, h.one, fun i oi ui h1 h2 => ?_, fun i j oi oj ui uj g hne h1 h2 a1 a2 m1 m2 b1 b2 => ?_⟩
  · rcases get i oi h1 with rfl | h1
    · cases ha
    · exact h.zone i oi ui g h1 ha h2 hg
  · rcases get i oi h1 with rfl | h1
    · exact hr
    · exact h.obj i oi ui h1 h2
  · rcases get i oi h1 with rfl | h1
    · cases a1
    · rcases get j oj h2 with rfl | h2
      · cases a2
      · exact h.sep i j oi oj ui uj g hne h1 h2 a1 a2 m1 m2 b1 b2

def renH (js : List Nat) (hp : List AObj) : List AObj := js.map fun i => (hp.getD i .dead).ren js
/-- The caller's frame laid between the n objects of the call and those that the call has made. -/
def insJ (n m : Nat) : List Nat := List.range n ++ (m :: (List.range (m - n)).map (· + n))
def insF (n : Nat) (us : List Value) (fr : List AV) (hp : List AObj) : List AObj := (renH (insJ n hp.length) (hp ++ [.dead])).set n (.frame us fr)

theorem insJ_nodup {n m : Nat} (h : n ≤ m) : (insJ n m).Nodup := by
  unfold insJ
  rw [List.nodup_append]
  refine ⟨List.nodup_range, ?_, ?_⟩
  · rw [List.nodup_cons]
    refine ⟨?_, ?_⟩
    · intro hm
      rw [List.mem_map] at hm
      obtain ⟨k, hk, e⟩ := hm
      rw [List.mem_range] at hk
      omega
    · rw [List.nodup_iff_pairwise_ne, List.pairwise_map]
      exact List.nodup_range.imp fun h e => h (by omega)
  · intro a ha b hb e
    rw [List.mem_range] at ha
    rw [List.mem_cons, List.mem_map] at hb
    rcases hb with hb | ⟨k, _, hk⟩ <;> omega

theorem CallS.frame {P : Program} {f : FuncId} {args : List AV} {hp : List AObj} {res : AV} {hp' : List AObj} (us2 : List Value) (fr2 : List AV) (hc : CallS P f args hp res hp') (h1 : renH (List.range hp.length) hp = hp)
    (h2 : renL (List.range hp.length) args = args) (h3 : hp.length ≤ hp'.length) : CallS P f args (hp ++ [.frame us2 fr2]) (res.ren (insJ hp.length hp'.length)) (insF hp.length us2 fr2 hp') := by
  obtain ⟨hen, hc⟩ := hc
  refine ⟨hen, ?_⟩
  intro Z0 F w0 w μ vs us fr hFb hH hvs hus hbel
  have hml : μ.length = hp.length + 1 := by rw [hH.len]; simp
  have hH0 := hH.ren (List.range hp.length) List.nodup_range
  have e0 : ((List.range hp.length).map fun i => ((hp ++ [AObj.frame us2 fr2]).getD i .dead).ren (List.range hp.length)) = hp := by
    refine Eq.trans (List.map_congr_left fun i hi => ?_) h1
    have hi := List.mem_range.1 hi
    simp only [List.getD_eq_getElem?_getD]
    rw [List.getElem?_append_left hi]
  rw [e0] at hH0
  have hvs0 := hvs.ren (List.range hp.length)
  rw [h2] at hvs0
  have hn2 : (hp ++ [AObj.frame us2 fr2])[hp.length]? = some (.frame us2 fr2) := by simp
  obtain ⟨u, hu⟩ : ∃ u, μ[hp.length]? = some u := ⟨_, List.getElem?_eq_getElem (by omega)⟩
  have hf2 : RelL w (Zone Z0 F w0.heap.size) μ fr2 us2 := hH.obj _ _ u hn2 hu
  have hus0 := (hus.append hf2).ren (List.range hp.length)
  refine (hc Z0 F w0 w _ vs (us ++ us2) _ hFb hH0 hvs0 hus0 hbel).mono ?_
  rintro e w' ⟨v, μ1, F1, rfl, hF1, hH1, hres, hfr1, hb1⟩
  have hm1 := hH1.len
  have hHd := hH1.addDead u (hH.one _ u hu)
  have hH2 := hHd.ren (insJ hp.length hp'.length) (insJ_nodup h3)
  obtain ⟨μ2, hμ2⟩ : ∃ μ2, μ2 = ((insJ hp.length hp'.length).map fun i => (μ1 ++ [u]).getD i (.bool false)) := ⟨_, rfl⟩
  have hA : ∀ (i : Nat) x, i < hp.length → μ1[i]? = some x → μ2[i]? = some x := by
    intro i x hi hx
    have hj : (insJ hp.length hp'.length)[i]? = some i := by
      unfold insJ
      rw [List.getElem?_append_left (by simpa using hi)]
      simp [hi]
    rw [hμ2, List.getElem?_map, hj]
    simp only [Option.map_some, List.getD_eq_getElem?_getD]
    rw [List.getElem?_append_left (by omega), hx]
    rfl
  have hB : ∀ (i : Nat) x, hp.length ≤ i → μ[i]? = some x → μ2[i]? = some x := by
    intro i x hi hx
    have hin : i = hp.length := by have := (List.getElem?_eq_some_iff.1 hx).1; omega
    subst hin
    rw [hu] at hx
    have hj : (insJ hp.length hp'.length)[hp.length]? = some hp'.length := by
      unfold insJ
      rw [List.getElem?_append_right (by simp)]
      simp
    rw [hμ2, List.getElem?_map, hj]
    simp only [Option.map_some, List.getD_eq_getElem?_getD]
    rw [List.getElem?_append_right (by omega), hm1]
    simpa using hx
  rw [← hμ2] at hH2
  have hall := RelL.mix hA hB (hus.append hf2) hfr1
  have hul := hus.length
  have hfr : RelL w' (Zone Z0 F1 w0.heap.size) μ2 fr us := by
    have := hall.take fr.length
    rwa [List.take_left, ← hul, List.take_left] at this
  have hfr2 : RelL w' (Zone Z0 F1 w0.heap.size) μ2 fr2 us2 := by
    have := hall.drop fr.length
    rwa [List.drop_left, ← hul, List.drop_left] at this
  refine ⟨v, μ2, F1, rfl, hF1, ?_, ?_, hfr, hb1⟩
  · refine hH2.frameAt ?_ hfr2
    have hj : (insJ hp.length hp'.length)[hp.length]? = some hp'.length := by
      unfold insJ
      rw [List.getElem?_append_right (by simp)]
      simp
    rw [List.getElem?_map, hj]
    simp [AObj.ren]
  · rw [hμ2]
    exact Rel.ren _ (Rel.keep (w := w') (fun _ _ _ => rfl) (fun i u hu => append_old i u hu) hres)

/-- Objects left out that the call has made, or put in another order. -/
theorem CallS.drop {P : Program} {f : FuncId} {args : List AV} {hp : List AObj} {res : AV} {hp' : List AObj} (js : List Nat) (hc : CallS P f args hp res hp') (h1 : js.take hp.length = List.range hp.length) (h2 : js.Nodup) :
    CallS P f args hp (res.ren js) (renH js hp') := by
  obtain ⟨hen, hc⟩ := hc
  refine ⟨hen, ?_⟩
  intro Z0 F w0 w μ vs us fr hFb hH hvs hus hbel
  refine (hc Z0 F w0 w μ vs us fr hFb hH hvs hus hbel).mono ?_
  rintro e w' ⟨v, μ1, F1, rfl, hF1, hH1, hres, hfr1, hb1⟩
  have hm1 := hH1.len
  have hjs : ∀ i, i < hp.length → js[i]? = some i := by
    intro i hi
    have := congrArg (fun l : List Nat => l[i]?) h1
    simp only [List.getElem?_take, if_pos hi] at this
    rw [this]
    simp [hi]
  refine ⟨v, _, F1, rfl, hF1, hH1.ren js h2, Rel.ren js hres, ?_, hb1⟩
  refine RelL.mix (n := hp.length) ?_ ?_ hus (hfr1.ren (List.range hp.length))
  · intro i x hi hx
    rw [List.getElem?_map, hjs i hi]
    rw [List.getElem?_map] at hx
    simpa [hi] using hx
  · intro i x hi hx
    have h4 := (List.getElem?_eq_some_iff.1 hx).1
    have h5 := hH.len
    omega

end Go.Abs


/-! Calls of which only what holds behind them is told (draws). -/
namespace Go.Abs
open Go.RowKit Go.ChangeShapes Go.WideShapes Go.Deep

/-- A call by reference: behind it the objects and the result are some of those that Φ tells. -/
def CallX (P : Program) (f : FuncId) (args : List AV) (hp : List AObj) (Φ : AV → List AObj → Prop) : Prop :=
  Enters P f ∧ ∀ (Z0 F : Nat → Prop) (w0 w : World) (μ vs us : List Value) (fr : List AV), (∀ b, F b → w0.heap.size ≤ b ∧ b < w.heap.size) → HRel w (Zone Z0 F w0.heap.size) w0.heap.size μ hp → RelL w (Zone Z0 F w0.heap.size) μ args vs → RelL w (Zone Z0 F w0.heap.size) μ fr us → Below w0.heap.size w0 w →
    Calls P f vs.toArray w fun e w' => ∃ v μ' F' res hp', Φ res hp' ∧ e = .returned v ∧ (∀ b, F' b → w0.heap.size ≤ b ∧ b < w'.heap.size) ∧ HRel w' (Zone Z0 F' w0.heap.size) w0.heap.size μ' hp' ∧ Rel w' (Zone Z0 F' w0.heap.size) μ' res v ∧ RelL w' (Zone Z0 F' w0.heap.size) μ' fr us ∧ Below w0.heap.size w0 w'

section
variable {rd : Option Nat} {P : Program} {m : M} {Q : Exit → St → Prop}

theorem CallX.mono {f : FuncId} {args : List AV} {hp : List AObj} {Φ Ψ : AV → List AObj → Prop} (h : CallX P f args hp Φ) (hm : ∀ r h', Φ r h' → Ψ r h') : CallX P f args hp Ψ := by
  refine ⟨h.1, fun Z0 F w0 w μ vs us fr hFb hH hvs hus hbel => (h.2 Z0 F w0 w μ vs us fr hFb hH hvs hus hbel).mono ?_⟩
  rintro e w' ⟨v, μ', F', res, hp', hΦ, r⟩
  exact ⟨v, μ', F', res, hp', hm _ _ hΦ, r⟩

/-- How the body of such a function ends. -/
def retX (P : Program) (fn : Func) (n : Nat) (us : List Value) (fr : List AV) (Φ : AV → List AObj → Prop) : Exit → St → Prop := fun e st' => ∃ res hp', Φ res hp' ∧ Go.Abs.retS P fn n us fr res hp' e st'

theorem CallX.of {f : FuncId} {fn : Func} {c : Code} {args : List AV} {hp : List AObj} {Φ : AV → List AObj → Prop} (hf : P.funcs[f]? = some fn) (hb : fn.body = some c) (hnm : (fn.name == "runtime.NumGoroutine") = false)
    (h : ∀ us fr, Runs none P ⟨[.code c], ⟨frameOf fn.ntmps args, hp ++ [.frame us fr]⟩⟩ (retX P fn hp.length us fr Φ)) : CallX P f args hp Φ := by
  refine ⟨enters_of hf hnm (by rw [hb]; rfl), ?_⟩
  intro Z0 F w0 w μ vs us fr hFb hH hvs hus hbel
  have hlen := hvs.length
  refine calls_of_wpIn hf hb ?_
  have hS : Sim Z0 w0 ⟨frameOf fn.ntmps args, hp ++ [.frame us fr]⟩ { tmps := vs.toArray ++ Array.replicate (fn.ntmps - vs.toArray.size) undef, defers := [] } w := by
    refine ⟨μ ++ [.bool false], F, hFb, hH.extend1 (zone_new hbel.size hFb) (Below.refl _ _) ?_ (fun g hg => by simp [blk] at hg) rfl, ?_, .inl rfl, hbel⟩
    · exact RelL.keep (w := w) (fun _ _ _ => rfl) (fun i u hu => append_old i u hu) hus
    · simp only [Array.toList_append, Array.toList_replicate, List.size_toArray, hlen, frameOf]
      refine RelL.append (RelL.keep (w := w) (fun _ _ _ => rfl) (fun i u hu => append_old i u hu) hvs) ?_
      generalize fn.ntmps - args.length = n
      induction n with
      | zero => exact RelL.nil
      | succ n ih => exact RelL.cons (by simp [Rel]) ih
  have hrun2 := h us fr
  simp only [runs_iff] at hrun2
  simp only [RunsK] at hrun2
  refine wpIn_mono (hrun2 Z0 w0 _ w hS) ?_
  have fin : ∀ (e : Exit) (st' : St) (a' : Act) (w' : World), retX P fn hp.length us fr Φ e st' → Sim Z0 w0 st' a' w' → a'.defers = [] ∧ ∃ v, (results fn a'.tmps).run P w' = .ok v w' ∧ ∃ v' μ' F' res hp', Φ res hp' ∧ Ending.returned v = .returned v' ∧ (∀ b, F' b → w0.heap.size ≤ b ∧ b < w'.heap.size) ∧ HRel w' (Zone Z0 F' w0.heap.size) w0.heap.size μ' hp' ∧ Rel w' (Zone Z0 F' w0.heap.size) μ' res v' ∧ RelL w' (Zone Z0 F' w0.heap.size) μ' fr us ∧ Below w0.heap.size w0 w' := by
    rintro e st' a' w' ⟨res, hp', hΦ, _, hres, hfr, hh⟩ ⟨μ', F', hFb', hH', hF', hd', hbel'⟩
    obtain ⟨x, h1, h2⟩ := resIn_run hH' hF' hres
    unfold frameAt at hfr
    split at hfr
    · rename_i us2 fr2 hi
      cases hfr
      have hil : hp.length < μ'.length := by rw [hH'.len]; exact (List.getElem?_eq_some_iff.1 hi).1
      have hfrr : RelL w' (Zone Z0 F' w0.heap.size) μ' fr us := hH'.obj _ _ _ hi (List.getElem?_eq_getElem hil)
      exact ⟨hd'.none (resIn_mark hres), x, h1, x, μ', F', res, hp', hΦ, rfl, hFb', hh ▸ hH'.bury _, h2, hfrr, hbel'⟩
    · cases hfr
  rintro e a' w' ⟨st', hq, hS'⟩
  cases e with
  | normal => exact fin _ st' a' w' hq hS'
  | ret => exact fin _ st' a' w' hq hS'
  | exit id => (obtain ⟨_, _, _, hq, _⟩ := hq; exact absurd hq (by simp))
  | goto l => (obtain ⟨_, _, _, hq, _⟩ := hq; exact absurd hq (by simp))
  | panic ch => (obtain ⟨_, _, _, hq, _⟩ := hq; exact absurd hq (by simp))
  | outgrown => (obtain ⟨_, _, _, hq, _⟩ := hq; exact absurd hq (by simp))

theorem R.retX {fn : Func} {n : Nat} {us : List Value} {fr : List AV} {Φ : AV → List AObj → Prop} {res : AV} {hp' : List AObj} (h : (edAt m).isSome = true) (hr : resIn P fn m.st = some res) (hf : frameAt n m.st = some (us, fr)) (hh : m.st.hp.set n .dead = hp') (hΦ : Φ res hp') :
    Runs rd P m (Go.Abs.retX P fn n us fr Φ) :=
  R.fin h ⟨res, hp', hΦ, .inl rfl, hr, hf, hh⟩ ⟨res, hp', hΦ, .inr rfl, hr, hf, hh⟩

def opsHd (m : M) : Bool :=
  match m.ks with
  | .ops _ (_ :: _) _ :: _ => true
  | _ => false

/-- Under one more frame. -/
theorem CallX.frame {P : Program} {f : FuncId} {args : List AV} {hp : List AObj} {Φ : AV → List AObj → Prop} (us2 : List Value) (fr2 : List AV) (hc : CallX P f args hp Φ) (h1 : renH (List.range hp.length) hp = hp)
    (h2 : renL (List.range hp.length) args = args) (h3 : ∀ r h', Φ r h' → hp.length ≤ h'.length) : CallX P f args (hp ++ [.frame us2 fr2]) fun r h => ∃ res hp', Φ res hp' ∧ r = res.ren (insJ hp.length hp'.length) ∧ h = insF hp.length us2 fr2 hp' := by
  obtain ⟨hen, hc⟩ := hc
  refine ⟨hen, ?_⟩
  intro Z0 F w0 w μ vs us fr hFb hH hvs hus hbel
  have hml : μ.length = hp.length + 1 := by rw [hH.len]; simp
  have hH0 := hH.ren (List.range hp.length) List.nodup_range
  have e0 : ((List.range hp.length).map fun i => ((hp ++ [AObj.frame us2 fr2]).getD i .dead).ren (List.range hp.length)) = hp := by
    refine Eq.trans (List.map_congr_left fun i hi => ?_) h1
    have hi := List.mem_range.1 hi
    simp only [List.getD_eq_getElem?_getD]
    rw [List.getElem?_append_left hi]
  rw [e0] at hH0
  have hvs0 := hvs.ren (List.range hp.length)
  rw [h2] at hvs0
  have hn2 : (hp ++ [AObj.frame us2 fr2])[hp.length]? = some (.frame us2 fr2) := by simp
  obtain ⟨u, hu⟩ : ∃ u, μ[hp.length]? = some u := ⟨_, List.getElem?_eq_getElem (by omega)⟩
  have hf2 : RelL w (Zone Z0 F w0.heap.size) μ fr2 us2 := hH.obj _ _ u hn2 hu
  have hus0 := (hus.append hf2).ren (List.range hp.length)
  refine (hc Z0 F w0 w _ vs (us ++ us2) _ hFb hH0 hvs0 hus0 hbel).mono ?_
  rintro e w' ⟨v, μ1, F1, res, hp', hΦ, rfl, hF1, hH1, hres, hfr1, hb1⟩
  have h3 := h3 _ _ hΦ
  have hm1 := hH1.len
  have hHd := hH1.addDead u (hH.one _ u hu)
  have hH2 := hHd.ren (insJ hp.length hp'.length) (insJ_nodup h3)
  obtain ⟨μ2, hμ2⟩ : ∃ μ2, μ2 = ((insJ hp.length hp'.length).map fun i => (μ1 ++ [u]).getD i (.bool false)) := ⟨_, rfl⟩
  have hA : ∀ (i : Nat) x, i < hp.length → μ1[i]? = some x → μ2[i]? = some x := by
    intro i x hi hx
    have hj : (insJ hp.length hp'.length)[i]? = some i := by
      unfold insJ
      rw [List.getElem?_append_left (by simpa using hi)]
      simp [hi]
    rw [hμ2, List.getElem?_map, hj]
    simp only [Option.map_some, List.getD_eq_getElem?_getD]
    rw [List.getElem?_append_left (by omega), hx]
    rfl
  have hB : ∀ (i : Nat) x, hp.length ≤ i → μ[i]? = some x → μ2[i]? = some x := by
    intro i x hi hx
    have hin : i = hp.length := by have := (List.getElem?_eq_some_iff.1 hx).1; omega
    subst hin
    rw [hu] at hx
    have hj : (insJ hp.length hp'.length)[hp.length]? = some hp'.length := by
      unfold insJ
      rw [List.getElem?_append_right (by simp)]
      simp
    rw [hμ2, List.getElem?_map, hj]
    simp only [Option.map_some, List.getD_eq_getElem?_getD]
    rw [List.getElem?_append_right (by omega), hm1]
    simpa using hx
  rw [← hμ2] at hH2
  have hall := RelL.mix hA hB (hus.append hf2) hfr1
  have hul := hus.length
  have hfr : RelL w' (Zone Z0 F1 w0.heap.size) μ2 fr us := by
    have := hall.take fr.length
    rwa [List.take_left, ← hul, List.take_left] at this
  have hfr2 : RelL w' (Zone Z0 F1 w0.heap.size) μ2 fr2 us2 := by
    have := hall.drop fr.length
    rwa [List.drop_left, ← hul, List.drop_left] at this
  refine ⟨v, μ2, F1, _, _, ⟨res, hp', hΦ, rfl, rfl⟩, rfl, hF1, ?_, ?_, hfr, hb1⟩
  · refine hH2.frameAt ?_ hfr2
    have hj : (insJ hp.length hp'.length)[hp.length]? = some hp'.length := by
      unfold insJ
      rw [List.getElem?_append_right (by simp)]
      simp
    rw [List.getElem?_map, hj]
    simp [AObj.ren]
  · rw [hμ2]
    exact Rel.ren _ (Rel.keep (w := w') (fun _ _ _ => rfl) (fun i u hu => append_old i u hu) hres)
/-- Objects left out that the call has made. -/
theorem CallX.drop {P : Program} {f : FuncId} {args : List AV} {hp : List AObj} {Φ : AV → List AObj → Prop} (js : List Nat) (hc : CallX P f args hp Φ) (h1 : js.take hp.length = List.range hp.length) (h2 : js.Nodup) :
    CallX P f args hp fun r h => ∃ res hp', Φ res hp' ∧ r = res.ren js ∧ h = renH js hp' := by
  obtain ⟨hen, hc⟩ := hc
  refine ⟨hen, ?_⟩
  intro Z0 F w0 w μ vs us fr hFb hH hvs hus hbel
  refine (hc Z0 F w0 w μ vs us fr hFb hH hvs hus hbel).mono ?_
  rintro e w' ⟨v, μ1, F1, res, hp', hΦ, rfl, hF1, hH1, hres, hfr1, hb1⟩
  have hm1 := hH1.len
  have hjs : ∀ i, i < hp.length → js[i]? = some i := by
    intro i hi
    have := congrArg (fun l : List Nat => l[i]?) h1
    simp only [List.getElem?_take, if_pos hi] at this
    rw [this]
    simp [hi]
  refine ⟨v, _, F1, _, _, ⟨res, hp', hΦ, rfl, rfl⟩, rfl, hF1, hH1.ren js h2, Rel.ren js hres, ?_, hb1⟩
  refine RelL.mix (n := hp.length) ?_ ?_ hus (hfr1.ren (List.range hp.length))
  · intro i x hi hx
    rw [List.getElem?_map, hjs i hi]
    rw [List.getElem?_map] at hx
    simpa [hi] using hx
  · intro i x hi hx
    have h4 := (List.getElem?_eq_some_iff.1 hx).1
    have h5 := hH.len
    omega
/-- Objects left out that the call has made; which, depends on the way. -/
theorem CallX.dropE {P : Program} {f : FuncId} {args : List AV} {hp : List AObj} {Φ : AV → List AObj → Prop} (hc : CallX P f args hp fun r h => ∃ js : List Nat, js.take hp.length = List.range hp.length ∧ js.Nodup ∧ Φ (r.ren js) (renH js h)) :
    CallX P f args hp Φ := by
  obtain ⟨hen, hc⟩ := hc
  refine ⟨hen, ?_⟩
  intro Z0 F w0 w μ vs us fr hFb hH hvs hus hbel
  refine (hc Z0 F w0 w μ vs us fr hFb hH hvs hus hbel).mono ?_
  rintro e w' ⟨v, μ1, F1, res, hp', ⟨js, h1, h2, hΦ⟩, rfl, hF1, hH1, hres, hfr1, hb1⟩
  have hm1 := hH1.len
  have hjs : ∀ i, i < hp.length → js[i]? = some i := by
    intro i hi
    have := congrArg (fun l : List Nat => l[i]?) h1
    simp only [List.getElem?_take, if_pos hi] at this
    rw [this]
    simp [hi]
  refine ⟨v, _, F1, _, _, hΦ, rfl, hF1, hH1.ren js h2, Rel.ren js hres, ?_, hb1⟩
  refine RelL.mix (n := hp.length) ?_ ?_ hus (hfr1.ren (List.range hp.length))
  · intro i x hi hx
    rw [List.getElem?_map, hjs i hi]
    rw [List.getElem?_map] at hx
    simpa [hi] using hx
  · intro i x hi hx
    have h4 := (List.getElem?_eq_some_iff.1 hx).1
    have h5 := hH.len
    omega
/-- Objects left out (dead ones), the others under new numbers. -/
def opsHd0 (m : M) : Bool :=
  match m.ks with
  | .ops _ (_ :: _) false :: _ => true
  | _ => false
/-- A dead object as an empty frame, so that CallX.frame carries a contract over it. -/
theorem R.deadF (i : Nat) (h : opsHd0 m = true) (hd : m.st.hp[i]? = some .dead) (h' : Runs rd P ⟨m.ks, ⟨m.st.fr, m.st.hp.set i (.frame [] [])⟩⟩ Q) : Runs rd P m Q := by
  obtain ⟨ks, ⟨fr, hp⟩⟩ := m
  unfold opsHd0 at h
  simp only [runs_iff] at h h' hd ⊢
  split at h
  · simp only [RunsK] at h' ⊢
    intro _ Z0 w0 a w hS
    obtain ⟨μ, F, hFb, hH, hF, hdf, hb⟩ := hS
    refine h' headW_false Z0 w0 a w ⟨μ, F, hFb, hH.frameAt hd RelL.nil, hF, hdf.keep (fun j x hj => ⟨?_, fun u hu => hu⟩), hb⟩
    have hne : i ≠ j := fun e => by subst e; rw [hd] at hj; cases hj
    simp only
    rw [List.getElem?_set_ne hne]; exact hj
  · cases h
end
end Go.Abs


/-! Calls told by what holds behind them, under further frames that lie anywhere among the objects. -/
namespace Go.Abs
open Go.RowKit Go.ChangeShapes Go.WideShapes Go.Deep

mutual
theorem Rel.mixJ {w w' : World} {Z Z' : Nat → Prop} {μ μ1 μ2 : List Value} {js : List Nat} (hA : ∀ (i : Nat) u, js.contains i = true → μ1[js.idxOf i]? = some u → μ2[i]? = some u) (hB : ∀ (i : Nat) u, js.contains i = false → μ[i]? = some u → μ2[i]? = some u) :
    ∀ {c : AV} {v : Value}, Rel w Z μ c v → Rel w' Z' μ1 (c.ren js) v → Rel w' Z' μ2 c v
  | .int _ _, _, _, h => by simpa [Rel, AV.ren] using h
  | .bool _, _, _, h => by simpa [Rel, AV.ren] using h
  | .str _, _, _, h => by simpa [Rel, AV.ren] using h
  | .nil, _, _, h => by simpa [Rel, AV.ren] using h
  | .top, _, _, _ => by simp [Rel]
  | .own _ _ _ _, _, h, _ => by simp [Rel] at h
  | .lst _ _ _, _, _, h => by simpa [Rel, AV.ren] using h
  | .clp _ _ _, _, _, h => by simpa [Rel, AV.ren] using h
  | .nam _ _ _ _ _, _, _, h => by simpa [Rel, AV.ren] using h
  | .rptr _, _, _, h => by simpa [Rel, AV.ren] using h
  | .ref i, v, h1, h2 => by
    simp only [Rel] at h1 ⊢
    cases hc : js.contains i with
    | true =>
      simp only [AV.ren, hc, if_true, Rel] at h2
      exact hA i v hc h2
    | false => exact hB i v hc h1
  | .ptr i o, v, h1, h2 => by
    simp only [Rel] at h1 ⊢
    cases hc : js.contains i with
    | true =>
      simp only [AV.ren, hc, if_true, Rel] at h2
      obtain ⟨u, g, e1, e2, e3⟩ := h2
      exact ⟨u, g, hA i u hc e1, e2, e3⟩
    | false =>
      obtain ⟨u, g, e1, e2, e3⟩ := h1
      exact ⟨u, g, hB i u hc e1, e2, e3⟩
  | .agg cs, v, h1, h2 => by
    simp only [Rel, AV.ren] at h1 h2 ⊢
    obtain ⟨xs, e1, r1⟩ := h1
    obtain ⟨ys, e2, r2⟩ := h2
    rw [e1] at e2
    simp only [Value.agg.injEq] at e2
    have e3 : xs = ys := by simpa using e2
    subst e3
    exact ⟨xs, e1, RelL.mixJ hA hB r1 r2⟩
  | .tup cs, v, h1, h2 => by
    simp only [Rel, AV.ren] at h1 h2 ⊢
    obtain ⟨xs, e1, r1⟩ := h1
    obtain ⟨ys, e2, r2⟩ := h2
    rw [e1] at e2
    simp only [Value.tuple.injEq] at e2
    have e3 : xs = ys := by simpa using e2
    subst e3
    exact ⟨xs, e1, RelL.mixJ hA hB r1 r2⟩
  | .fn f cs, v, h1, h2 => by
    simp only [Rel, AV.ren] at h1 h2 ⊢
    obtain ⟨xs, e1, r1⟩ := h1
    obtain ⟨ys, e2, r2⟩ := h2
    rw [e1] at e2
    simp only [Value.func.injEq, true_and] at e2
    have e3 : xs = ys := by simpa using e2
    subst e3
    exact ⟨xs, e1, RelL.mixJ hA hB r1 r2⟩
theorem RelL.mixJ {w w' : World} {Z Z' : Nat → Prop} {μ μ1 μ2 : List Value} {js : List Nat} (hA : ∀ (i : Nat) u, js.contains i = true → μ1[js.idxOf i]? = some u → μ2[i]? = some u) (hB : ∀ (i : Nat) u, js.contains i = false → μ[i]? = some u → μ2[i]? = some u) :
    ∀ {cs : List AV} {vs : List Value}, RelL w Z μ cs vs → RelL w' Z' μ1 (renL js cs) vs → RelL w' Z' μ2 cs vs
  | [], _, _, h => by simpa [RelL, renL] using h
  | c :: cs, _, h1, h2 => by
    simp only [RelL, renL] at h1 h2 ⊢
    obtain ⟨x, xs, e1, a1, b1⟩ := h1
    obtain ⟨y, ys, e2, a2, b2⟩ := h2
    rw [e1] at e2
    simp only [List.cons.injEq] at e2
    obtain ⟨rfl, rfl⟩ := e2
    exact ⟨x, xs, e1, Rel.mixJ hA hB a1 a2, RelL.mixJ hA hB b1 b2⟩
end

/-- The numbers below n + 1 but k. -/
def insI (k n : Nat) : List Nat := List.range k ++ (List.range (n - k)).map (· + (k + 1))

theorem insI_get {k n j : Nat} (hk : k ≤ n) (hj : j < n) : (insI k n)[j]? = some (if j < k then j else j + 1) := by
  unfold insI
  rcases Nat.lt_or_ge j k with h | h
  · rw [List.getElem?_append_left (by simpa using h)]
    simp [h]
  · rw [List.getElem?_append_right (by simpa using h)]
    simp only [List.length_range, List.getElem?_map]
    rw [List.getElem?_range (by omega)]
    simp only [Option.map_some, if_neg (Nat.not_lt.2 h), Option.some.injEq]
    omega
theorem insI_length {k n : Nat} (hk : k ≤ n) : (insI k n).length = n := by
  unfold insI
  simp
  omega
theorem insI_mem {k n i : Nat} (hk : k ≤ n) (hi : i ≤ n) (hne : i ≠ k) : (insI k n).contains i = true := by
  have : i ∈ insI k n := by
    rcases Nat.lt_or_ge i k with h | h
    · exact List.mem_of_getElem? (i := i) (by rw [insI_get hk (by omega), if_pos h])
    · exact List.mem_of_getElem? (i := i - 1) (by rw [insI_get hk (by omega), if_neg (by omega)]; congr 1; omega)
  simpa using this
theorem insI_nodup {k n : Nat} (hk : k ≤ n) : (insI k n).Nodup := by
  unfold insI
  rw [List.nodup_append]
  refine ⟨List.nodup_range, ?_, ?_⟩
  · rw [List.nodup_iff_pairwise_ne, List.pairwise_map]
    exact List.nodup_range.imp fun h e => h (by omega)
  · intro a ha b hb e
    rw [List.mem_range] at ha
    rw [List.mem_map] at hb
    obtain ⟨c, _, hc⟩ := hb
    omega
theorem insI_idx {k n i : Nat} (hk : k ≤ n) (hc : (insI k n).contains i = true) : (insI k n).idxOf i < n ∧ i = (if (insI k n).idxOf i < k then (insI k n).idxOf i else (insI k n).idxOf i + 1) := by
  have hm : i ∈ insI k n := by simpa using hc
  have hlt := List.idxOf_lt_length_iff.2 hm
  have hlt' : (insI k n).idxOf i < n := by rw [insI_length hk] at hlt; exact hlt
  refine ⟨hlt', ?_⟩
  have h1 := List.getElem_idxOf hlt
  have h2 := insI_get hk hlt'
  rw [List.getElem?_eq_getElem hlt, h1] at h2
  exact Option.some.inj h2
theorem insJ_lo {k m j : Nat} (hj : j < k) : (insJ k m)[j]? = some j := by
  unfold insJ
  rw [List.getElem?_append_left (by simpa using hj)]
  simp [hj]
theorem insJ_at {k m : Nat} : (insJ k m)[k]? = some m := by
  unfold insJ
  rw [List.getElem?_append_right (by simp)]
  simp
theorem insJ_hi {k m j : Nat} (hj : k ≤ j) (hm : j < m) : (insJ k m)[j + 1]? = some j := by
  unfold insJ
  rw [List.getElem?_append_right (by simp; omega)]
  have e : j + 1 - (List.range k).length = (j - k) + 1 := by simp; omega
  rw [e, List.getElem?_cons_succ, List.getElem?_map, List.getElem?_range (by omega)]
  simp
  omega

section
variable {P : Program}

/-- Under a frame that lies at place k. -/
theorem CallX.inF {f : FuncId} {args : List AV} {hp : List AObj} {Φ : AV → List AObj → Prop} (k : Nat) (us2 : List Value) (fr2 : List AV) (hc : CallX P f args hp Φ) (hk : k ≤ hp.length)
    (h1 : renH (insI k hp.length) (insF k us2 fr2 hp) = hp) (h2 : renL (insI k hp.length) (renL (insJ k hp.length) args) = args) (h3 : ∀ r h', Φ r h' → hp.length ≤ h'.length) :
    CallX P f (renL (insJ k hp.length) args) (insF k us2 fr2 hp) fun r h => ∃ res hp', Φ res hp' ∧ r = res.ren (insJ k hp'.length) ∧ h = insF k us2 fr2 hp' := by
  obtain ⟨hen, hc⟩ := hc
  refine ⟨hen, ?_⟩
  intro Z0 F w0 w μ vs us fr hFb hH hvs hus hbel
  have hHl : (insF k us2 fr2 hp).length = hp.length + 1 := by
    unfold insF renH insJ
    simp
    omega
  have hml : μ.length = hp.length + 1 := by rw [hH.len, hHl]
  have hH0 := hH.ren (insI k hp.length) (insI_nodup hk)
  have e0 : ((insI k hp.length).map fun i => ((insF k us2 fr2 hp).getD i .dead).ren (insI k hp.length)) = hp := h1
  rw [e0] at hH0
  have hvs0 := hvs.ren (insI k hp.length)
  rw [h2] at hvs0
  have hn2 : (insF k us2 fr2 hp)[k]? = some (.frame us2 fr2) := by
    unfold insF
    rw [List.getElem?_set_self]
    have : (renH (insJ k hp.length) (hp ++ [.dead])).length = hp.length + 1 := by unfold renH insJ; simp; omega
    omega
  obtain ⟨u, hu⟩ : ∃ u, μ[k]? = some u := ⟨_, List.getElem?_eq_getElem (by omega)⟩
  have hf2 : RelL w (Zone Z0 F w0.heap.size) μ fr2 us2 := hH.obj _ _ u hn2 hu
  have hus0 := (hus.append hf2).ren (insI k hp.length)
  refine (hc Z0 F w0 w _ vs (us ++ us2) _ hFb hH0 hvs0 hus0 hbel).mono ?_
  rintro e w' ⟨v, μ1, F1, res, hp', hΦ, rfl, hF1, hH1, hres, hfr1, hb1⟩
  have h3 := h3 _ _ hΦ
  have hm1 := hH1.len
  have hHd := hH1.addDead u (hH.one _ u hu)
  have hH2 := hHd.ren (insJ k hp'.length) (insJ_nodup (by omega))
  obtain ⟨μ2, hμ2⟩ : ∃ μ2, μ2 = ((insJ k hp'.length).map fun i => (μ1 ++ [u]).getD i (.bool false)) := ⟨_, rfl⟩
  have hA : ∀ (i : Nat) x, (insI k hp.length).contains i = true → μ1[(insI k hp.length).idxOf i]? = some x → μ2[i]? = some x := by
    intro i x hi hx
    obtain ⟨g1, g2⟩ := insI_idx hk hi
    generalize (insI k hp.length).idxOf i = j at g1 g2 hx
    have hj : (insJ k hp'.length)[i]? = some j := by
      split at g2
      · rw [g2]; exact insJ_lo (by assumption)
      · rw [g2]; exact insJ_hi (by omega) (by omega)
    rw [hμ2, List.getElem?_map, hj]
    simp only [Option.map_some, List.getD_eq_getElem?_getD]
    rw [List.getElem?_append_left (List.getElem?_eq_some_iff.1 hx).1, hx]
    rfl
  have hB : ∀ (i : Nat) x, (insI k hp.length).contains i = false → μ[i]? = some x → μ2[i]? = some x := by
    intro i x hi hx
    have hlt := (List.getElem?_eq_some_iff.1 hx).1
    have hin : i = k := by
      refine Classical.byContradiction fun hne => ?_
      have := insI_mem hk (i := i) (by omega) hne
      rw [this] at hi
      cases hi
    subst hin
    rw [hu] at hx
    rw [hμ2, List.getElem?_map, insJ_at]
    simp only [Option.map_some, List.getD_eq_getElem?_getD]
    rw [List.getElem?_append_right (by omega), hm1]
    simpa using hx
  rw [← hμ2] at hH2
  have hall := RelL.mixJ hA hB (hus.append hf2) hfr1
  have hul := hus.length
  have hfr : RelL w' (Zone Z0 F1 w0.heap.size) μ2 fr us := by
    have := hall.take fr.length
    rwa [List.take_left, ← hul, List.take_left] at this
  have hfr2 : RelL w' (Zone Z0 F1 w0.heap.size) μ2 fr2 us2 := by
    have := hall.drop fr.length
    rwa [List.drop_left, ← hul, List.drop_left] at this
  refine ⟨v, μ2, F1, _, _, ⟨res, hp', hΦ, rfl, rfl⟩, rfl, hF1, ?_, ?_, hfr, hb1⟩
  · refine hH2.frameAt ?_ hfr2
    rw [List.getElem?_map, insJ_at]
    simp [AObj.ren]
  · rw [hμ2]
    exact Rel.ren _ (Rel.keep (w := w') (fun _ _ _ => rfl) (fun i u hu => append_old i u hu) hres)
end
section
variable {P : Program}
end

/-! ### A caller's frame, of which nothing is known, stays as it is -/
theorem fit_idx {n i : Nat} {js : List Nat} (hjs : js.take n = List.range n) (hi : i < n) : js.contains i = true ∧ js.idxOf i = i := by
  have e : js = List.range n ++ js.drop n := by rw [← hjs, List.take_append_drop]
  have hm : i ∈ List.range n := List.mem_range.2 hi
  refine ⟨?_, ?_⟩
  · have : i ∈ js := by rw [e]; exact List.mem_append_left _ hm
    simpa using this
  · rw [e, List.idxOf_append, if_pos hm, idx_range hi]
mutual
theorem Rel.fitR {w : World} {Z : Nat → Prop} {μ : List Value} {js : List Nat} (hjs : js.take μ.length = List.range μ.length) : ∀ {c : AV} {v : Value}, Rel w Z μ c v → c.ren js = c
  | .int _ _, _, _ => rfl
  | .bool _, _, _ => rfl
  | .str _, _, _ => rfl
  | .nil, _, _ => rfl
  | .top, _, _ => rfl
  | .own _ _ _ _, _, _ => rfl
  | .lst _ _ _, _, _ => rfl
  | .clp _ _ _, _, _ => rfl
  | .nam _ _ _ _ _, _, _ => rfl
  | .rptr _, _, _ => rfl
  | .ref i, v, h => by
    simp only [Rel] at h
    obtain ⟨h1, h2⟩ := fit_idx hjs (List.getElem?_eq_some_iff.1 h).1
    simp only [AV.ren, h1, h2, if_true]
  | .ptr i o, v, h => by
    simp only [Rel] at h
    obtain ⟨u, g, h, _⟩ := h
    obtain ⟨h1, h2⟩ := fit_idx hjs (List.getElem?_eq_some_iff.1 h).1
    simp only [AV.ren, h1, h2, if_true]
  | .agg cs, v, h => by
    simp only [Rel] at h
    obtain ⟨xs, _, h⟩ := h
    simp only [AV.ren, RelL.fitR hjs h]
  | .tup cs, v, h => by
    simp only [Rel] at h
    obtain ⟨xs, _, h⟩ := h
    simp only [AV.ren, RelL.fitR hjs h]
  | .fn f cs, v, h => by
    simp only [Rel] at h
    obtain ⟨xs, _, h⟩ := h
    simp only [AV.ren, RelL.fitR hjs h]
theorem RelL.fitR {w : World} {Z : Nat → Prop} {μ : List Value} {js : List Nat} (hjs : js.take μ.length = List.range μ.length) : ∀ {cs : List AV} {vs : List Value}, RelL w Z μ cs vs → renL js cs = cs
  | [], _, _ => rfl
  | c :: cs, _, h => by
    simp only [RelL] at h
    obtain ⟨x, xs, _, h1, h2⟩ := h
    simp only [renL, Rel.fitR hjs h1, RelL.fitR hjs h2]
end
mutual
theorem Rel.fitK {w : World} {Z : Nat → Prop} {μ : List Value} {k : Nat} (hk : μ.length ≤ k) : ∀ {c : AV} {v : Value}, Rel w Z μ c v → c.kill k = c
  | .int _ _, _, _ => rfl
  | .bool _, _, _ => rfl
  | .str _, _, _ => rfl
  | .nil, _, _ => rfl
  | .top, _, _ => rfl
  | .own _ _ _ _, _, _ => rfl
  | .lst _ _ _, _, _ => rfl
  | .clp _ _ _, _, _ => rfl
  | .nam _ _ _ _ _, _, _ => rfl
  | .rptr _, _, _ => rfl
  | .ref i, v, h => by
    simp only [Rel] at h
    have := (List.getElem?_eq_some_iff.1 h).1
    simp only [AV.kill]
    rw [if_neg (by omega)]
  | .ptr i o, v, h => by
    simp only [Rel] at h
    obtain ⟨u, g, h, _⟩ := h
    have := (List.getElem?_eq_some_iff.1 h).1
    simp only [AV.kill]
    rw [if_neg (by omega)]
  | .agg cs, v, h => by
    simp only [Rel] at h
    obtain ⟨xs, _, h⟩ := h
    simp only [AV.kill, RelL.fitK hk h]
  | .tup cs, v, h => by
    simp only [Rel] at h
    obtain ⟨xs, _, h⟩ := h
    simp only [AV.kill, RelL.fitK hk h]
  | .fn f cs, v, h => by
    simp only [Rel] at h
    obtain ⟨xs, _, h⟩ := h
    simp only [AV.kill, RelL.fitK hk h]
theorem RelL.fitK {w : World} {Z : Nat → Prop} {μ : List Value} {k : Nat} (hk : μ.length ≤ k) : ∀ {cs : List AV} {vs : List Value}, RelL w Z μ cs vs → killL k cs = cs
  | [], _, _ => rfl
  | c :: cs, _, h => by
    simp only [RelL] at h
    obtain ⟨x, xs, _, h1, h2⟩ := h
    simp only [killL, Rel.fitK hk h1, RelL.fitK hk h2]
end

mutual
theorem Rel.fitF {w : World} {Z : Nat → Prop} {μ : List Value} {k : Nat} {r : AV} (hk : μ.length ≤ k) : ∀ {c : AV} {v : Value}, Rel w Z μ c v → frzV k r c = c
  | .int _ _, _, _ => rfl
  | .bool _, _, _ => rfl
  | .str _, _, _ => rfl
  | .nil, _, _ => rfl
  | .top, _, _ => rfl
  | .own _ _ _ _, _, _ => rfl
  | .lst _ _ _, _, _ => rfl
  | .clp _ _ _, _, _ => rfl
  | .nam _ _ _ _ _, _, _ => rfl
  | .rptr _, _, _ => rfl
  | .ref i, v, h => by
    simp only [Rel] at h
    have := (List.getElem?_eq_some_iff.1 h).1
    simp only [frzV]
    rw [if_neg (by omega)]
  | .ptr i o, v, h => by
    simp only [Rel] at h
    obtain ⟨u, g, h, _⟩ := h
    have := (List.getElem?_eq_some_iff.1 h).1
    simp only [frzV]
    rw [if_neg (by omega)]
  | .agg cs, v, h => by
    simp only [Rel] at h
    obtain ⟨xs, _, h⟩ := h
    simp only [frzV, RelL.fitF hk h]
  | .tup cs, v, h => by
    simp only [Rel] at h
    obtain ⟨xs, _, h⟩ := h
    simp only [frzV, RelL.fitF hk h]
  | .fn f cs, v, h => by
    simp only [Rel] at h
    obtain ⟨xs, _, h⟩ := h
    simp only [frzV, RelL.fitF hk h]
theorem RelL.fitF {w : World} {Z : Nat → Prop} {μ : List Value} {k : Nat} {r : AV} (hk : μ.length ≤ k) : ∀ {cs : List AV} {vs : List Value}, RelL w Z μ cs vs → frzL k r cs = cs
  | [], _, _ => rfl
  | c :: cs, _, h => by
    simp only [RelL] at h
    obtain ⟨x, xs, _, h1, h2⟩ := h
    simp only [frzL, Rel.fitF hk h1, RelL.fitF hk h2]
end

/-- Nothing in fr names an object from n on. -/
structure Fits (n : Nat) (fr : List AV) : Prop where
  ren : ∀ js : List Nat, js.take n = List.range n → renL js fr = fr
  kill : ∀ i, n ≤ i → killL i fr = fr
  frz : ∀ i r, n ≤ i → frzL i r fr = fr

section
variable {rd : Option Nat} {P : Program} {m : M} {Q : Exit → St → Prop}

theorem CallX.ofF {f : FuncId} {fn : Func} {c : Code} {args : List AV} {hp : List AObj} {Φ : AV → List AObj → Prop} (hf : P.funcs[f]? = some fn) (hb : fn.body = some c) (hnm : (fn.name == "runtime.NumGoroutine") = false)
    (h : ∀ us fr, Fits hp.length fr → Runs none P ⟨[.code c], ⟨frameOf fn.ntmps args, hp ++ [.frame us fr]⟩⟩ (retX P fn hp.length us fr Φ)) : CallX P f args hp Φ := by
  refine ⟨enters_of hf hnm (by rw [hb]; rfl), ?_⟩
  intro Z0 F w0 w μ vs us fr hFb hH hvs hus hbel
  have hml := hH.len
  have hfit : Fits hp.length fr := ⟨fun js hjs => RelL.fitR (by rw [hml]; exact hjs) hus, fun i hi => RelL.fitK (by rw [hml]; exact hi) hus, fun i r hi => RelL.fitF (by rw [hml]; exact hi) hus⟩
  · have hlen := hvs.length
    refine calls_of_wpIn hf hb ?_
    have hS : Sim Z0 w0 ⟨frameOf fn.ntmps args, hp ++ [.frame us fr]⟩ { tmps := vs.toArray ++ Array.replicate (fn.ntmps - vs.toArray.size) undef, defers := [] } w := by
      refine ⟨μ ++ [.bool false], F, hFb, hH.extend1 (zone_new hbel.size hFb) (Below.refl _ _) ?_ (fun g hg => by simp [blk] at hg) rfl, ?_, .inl rfl, hbel⟩
      · exact RelL.keep (w := w) (fun _ _ _ => rfl) (fun i u hu => append_old i u hu) hus
      · simp only [Array.toList_append, Array.toList_replicate, List.size_toArray, hlen, frameOf]
        refine RelL.append (RelL.keep (w := w) (fun _ _ _ => rfl) (fun i u hu => append_old i u hu) hvs) ?_
        generalize fn.ntmps - args.length = n
        induction n with
        | zero => exact RelL.nil
        | succ n ih => exact RelL.cons (by simp [Rel]) ih
    have hrun2 := h us fr hfit
    simp only [runs_iff] at hrun2
    simp only [RunsK] at hrun2
    refine wpIn_mono (hrun2 Z0 w0 _ w hS) ?_
    have fin : ∀ (e : Exit) (st' : St) (a' : Act) (w' : World), retX P fn hp.length us fr Φ e st' → Sim Z0 w0 st' a' w' → a'.defers = [] ∧ ∃ v, (results fn a'.tmps).run P w' = .ok v w' ∧ ∃ v' μ' F' res hp', Φ res hp' ∧ Ending.returned v = .returned v' ∧ (∀ b, F' b → w0.heap.size ≤ b ∧ b < w'.heap.size) ∧ HRel w' (Zone Z0 F' w0.heap.size) w0.heap.size μ' hp' ∧ Rel w' (Zone Z0 F' w0.heap.size) μ' res v' ∧ RelL w' (Zone Z0 F' w0.heap.size) μ' fr us ∧ Below w0.heap.size w0 w' := by
      rintro e st' a' w' ⟨res, hp', hΦ, _, hres, hfr, hh⟩ ⟨μ', F', hFb', hH', hF', hd', hbel'⟩
      obtain ⟨x, h1, h2⟩ := resIn_run hH' hF' hres
      unfold frameAt at hfr
      split at hfr
      · rename_i us2 fr2 hi
        cases hfr
        have hil : hp.length < μ'.length := by rw [hH'.len]; exact (List.getElem?_eq_some_iff.1 hi).1
        have hfrr : RelL w' (Zone Z0 F' w0.heap.size) μ' fr us := hH'.obj _ _ _ hi (List.getElem?_eq_getElem hil)
        exact ⟨hd'.none (resIn_mark hres), x, h1, x, μ', F', res, hp', hΦ, rfl, hFb', hh ▸ hH'.bury _, h2, hfrr, hbel'⟩
      · cases hfr
    rintro e a' w' ⟨st', hq, hS'⟩
    cases e with
    | normal => exact fin _ st' a' w' hq hS'
    | ret => exact fin _ st' a' w' hq hS'
    | exit id => (obtain ⟨_, _, _, hq, _⟩ := hq; exact absurd hq (by simp))
    | goto l => (obtain ⟨_, _, _, hq, _⟩ := hq; exact absurd hq (by simp))
    | panic ch => (obtain ⟨_, _, _, hq, _⟩ := hq; exact absurd hq (by simp))
    | outgrown => (obtain ⟨_, _, _, hq, _⟩ := hq; exact absurd hq (by simp))

/-- A caller's frame in which an object of the call's own has been forgotten. -/
theorem R.kfix (n : Nat) {us : List Value} {fr fr2 : List AV} (h0 : m.st.hp[n]? = some (.frame us fr2)) (hk : fr2 = fr) (h' : Runs rd P ⟨m.ks, ⟨m.st.fr, m.st.hp.set n (.frame us fr)⟩⟩ Q) : Runs rd P m Q := by
  subst hk
  obtain ⟨ks, ⟨f, hp⟩⟩ := m
  have e : hp.set n (.frame us fr2) = hp := by
    refine List.ext_getElem? fun i => ?_
    rw [List.getElem?_set]
    split
    · rename_i hi
      subst hi
      simp only at h0
      have hlt := (List.getElem?_eq_some_iff.1 h0).1
      rw [if_pos hlt, h0]
    · rfl
  simp only [e] at h'
  exact h'
theorem canonF {ks : List Nat} {js : List Nat} {st s' : St} {fr : List AV} (S : List AV → St) (hfit : renL js fr = fr) (h1 : canon ks (some js) st = S (renL js fr)) (h2 : S fr = s') : canon ks (some js) st = s' := by rw [h1, hfit, h2]
end
/-! ### A box seen as a row of one element, while a call does not look at it -/
mutual
theorem Rel.mixK {w w' : World} {Z Z' : Nat → Prop} {μ μ1 μ2 : List Value} {j : Nat} (hA : ∀ (i : Nat) u, i ≠ j → μ1[i]? = some u → μ2[i]? = some u) (hB : ∀ u, μ[j]? = some u → μ2[j]? = some u) :
    ∀ {c : AV} {v : Value}, Rel w Z μ c v → Rel w' Z' μ1 (c.kill j) v → Rel w' Z' μ2 c v
  | .int _ _, _, _, h => by simpa [Rel, AV.kill] using h
  | .bool _, _, _, h => by simpa [Rel, AV.kill] using h
  | .str _, _, _, h => by simpa [Rel, AV.kill] using h
  | .nil, _, _, h => by simpa [Rel, AV.kill] using h
  | .top, _, _, _ => by simp [Rel]
  | .own _ _ _ _, _, h, _ => by simp [Rel] at h
  | .lst _ _ _, _, _, h => by simpa [Rel, AV.kill] using h
  | .clp _ _ _, _, _, h => by simpa [Rel, AV.kill] using h
  | .nam _ _ _ _ _, _, _, h => by simpa [Rel, AV.kill] using h
  | .rptr _, _, _, h => by simpa [Rel, AV.kill] using h
  | .ref i, v, h1, h2 => by
    simp only [Rel] at h1 ⊢
    by_cases hi : i = j
    · subst hi; exact hB v h1
    · simp only [AV.kill, if_neg hi, Rel] at h2
      exact hA i v hi h2
  | .ptr i o, v, h1, h2 => by
    simp only [Rel] at h1 ⊢
    by_cases hi : i = j
    · subst hi
      obtain ⟨u, g, e1, e2, e3⟩ := h1
      exact ⟨u, g, hB u e1, e2, e3⟩
    · simp only [AV.kill, if_neg hi, Rel] at h2
      obtain ⟨u, g, e1, e2, e3⟩ := h2
      exact ⟨u, g, hA i u hi e1, e2, e3⟩
  | .agg cs, v, h1, h2 => by
    simp only [Rel, AV.kill] at h1 h2 ⊢
    obtain ⟨xs, e1, r1⟩ := h1
    obtain ⟨ys, e2, r2⟩ := h2
    rw [e1] at e2
    simp only [Value.agg.injEq] at e2
    have e3 : xs = ys := by simpa using e2
    subst e3
    exact ⟨xs, e1, RelL.mixK hA hB r1 r2⟩
  | .tup cs, v, h1, h2 => by
    simp only [Rel, AV.kill] at h1 h2 ⊢
    obtain ⟨xs, e1, r1⟩ := h1
    obtain ⟨ys, e2, r2⟩ := h2
    rw [e1] at e2
    simp only [Value.tuple.injEq] at e2
    have e3 : xs = ys := by simpa using e2
    subst e3
    exact ⟨xs, e1, RelL.mixK hA hB r1 r2⟩
  | .fn f cs, v, h1, h2 => by
    simp only [Rel, AV.kill] at h1 h2 ⊢
    obtain ⟨xs, e1, r1⟩ := h1
    obtain ⟨ys, e2, r2⟩ := h2
    rw [e1] at e2
    simp only [Value.func.injEq, true_and] at e2
    have e3 : xs = ys := by simpa using e2
    subst e3
    exact ⟨xs, e1, RelL.mixK hA hB r1 r2⟩
theorem RelL.mixK {w w' : World} {Z Z' : Nat → Prop} {μ μ1 μ2 : List Value} {j : Nat} (hA : ∀ (i : Nat) u, i ≠ j → μ1[i]? = some u → μ2[i]? = some u) (hB : ∀ u, μ[j]? = some u → μ2[j]? = some u) :
    ∀ {cs : List AV} {vs : List Value}, RelL w Z μ cs vs → RelL w' Z' μ1 (killL j cs) vs → RelL w' Z' μ2 cs vs
  | [], _, _, h => by simpa [RelL, killL] using h
  | c :: cs, _, h1, h2 => by
    simp only [RelL, killL] at h1 h2 ⊢
    obtain ⟨x, xs, e1, a1, b1⟩ := h1
    obtain ⟨y, ys, e2, a2, b2⟩ := h2
    rw [e1] at e2
    simp only [List.cons.injEq] at e2
    obtain ⟨rfl, rfl⟩ := e2
    exact ⟨x, xs, e1, Rel.mixK hA hB a1 a2, RelL.mixK hA hB b1 b2⟩
end

/-- One object changes its look and its value, in the same block; the others do not name it. -/
theorem HRel.swap {w : World} {Z : Nat → Prop} {B j : Nat} {μ : List Value} {hp : List AObj} {u u' : Value} {o o' : AObj} (h : HRel w Z B μ hp) (hj : hp[j]? = some o) (hu : μ[j]? = some u) (ha : o.alive = true)
    (hblk : blk u' = blk u) (hone : u'.oneCell' = true) (hk : ∀ i oi, i ≠ j → hp[i]? = some oi → oi.kill j = oi) (hnew : ObjRel w Z (μ.set j u') B u' o') : HRel w Z B (μ.set j u') (hp.set j o') := by
  have hjl := (List.getElem?_eq_some_iff.1 hj).1
  have hul := (List.getElem?_eq_some_iff.1 hu).1
  have get : ∀ (i : Nat) oi ui, (hp.set j o')[i]? = some oi → (μ.set j u')[i]? = some ui → (i = j ∧ oi = o' ∧ ui = u') ∨ (i ≠ j ∧ hp[i]? = some oi ∧ μ[i]? = some ui) := by
    intro i oi ui h1 h2
    by_cases e : j = i
    · subst e
      rw [List.getElem?_set_self hjl] at h1
      rw [List.getElem?_set_self hul] at h2
      simp at h1 h2
      exact .inl ⟨rfl, h1.symm, h2.symm⟩
    · rw [List.getElem?_set_ne e] at h1 h2
      exact .inr ⟨fun h => e h.symm, h1, h2⟩
  refine ⟨by simp [h.len], fun i oi ui g h1 ha' h2 hg => ?_, fun i x hx => ?_, fun i oi ui h1 h2 => ?_, fun i k oi ok ui uk g hne h1 h2 a1 a2 m1 m2 b1 b2 => ?_⟩
  · rcases get i oi ui h1 h2 with ⟨rfl, rfl, rfl⟩ | ⟨_, e1, e2⟩
    · exact h.zone _ o u g hj ha hu (hblk ▸ hg)
    · exact h.zone i oi ui g e1 ha' e2 hg
  · by_cases e : j = i
    · subst e
      rw [List.getElem?_set_self hul] at hx
      simp at hx
      rw [← hx]; exact hone
    · rw [List.getElem?_set_ne e] at hx
      exact h.one i x hx
  · rcases get i oi ui h1 h2 with ⟨rfl, rfl, rfl⟩ | ⟨hne, e1, e2⟩
    · exact hnew
    · have := (h.obj i oi ui e1 e2).keep_kill (μ' := μ.set j u') j (fun _ _ _ => rfl) (fun k x hk hx => by rw [List.getElem?_set_ne (fun e => hk e.symm)]; exact hx) (fun _ _ => rfl)
      rwa [hk i oi hne e1] at this
  · rcases get i oi ui h1 m1 with ⟨rfl, rfl, rfl⟩ | ⟨hi, e1, e2⟩ <;> rcases get k ok uk h2 m2 with ⟨rfl, rfl, rfl⟩ | ⟨hk', e3, e4⟩
    · exact hne rfl
    · exact h.sep _ k o ok u uk g (fun e => hk' e.symm) hj e3 ha a2 hu e4 (hblk ▸ b1) b2
    · exact h.sep i _ oi o ui u g hi e1 hj a1 ha e2 hu b1 (hblk ▸ b2)
    · exact h.sep i k oi ok ui uk g hne e1 e3 a1 a2 e2 e4 b1 b2

theorem CallX.box {P : Program} {f : FuncId} {args : List AV} {hp : List AObj} {Φ : AV → List AObj → Prop} (j : Nat) (t : TypeId) (cs : List AV) (hc : CallX P f args hp Φ) (hj : hp[j]? = some (.list t cs.length 1 cs)) (hl : leafyL cs = true)
    (h1 : hp.map (AObj.kill j) = hp) (h2 : killL j args = args) (h3 : ∀ r h', Φ r h' → h'[j]? = some (.list t cs.length 1 cs) ∧ h'.map (AObj.kill j) = h' ∧ r.kill j = r) :
    CallX P f args (hp.set j (.box t cs)) fun r h => ∃ hp', Φ r hp' ∧ h = hp'.set j (.box t cs) := by
  obtain ⟨hen, hc⟩ := hc
  refine ⟨hen, ?_⟩
  intro Z0 F w0 w μ vs us fr hFb hH hvs hus hbel
  have hjl := (List.getElem?_eq_some_iff.1 hj).1
  have kof : ∀ {l : List AObj}, l.map (AObj.kill j) = l → ∀ (i : Nat) (oi : AObj), l[i]? = some oi → oi.kill j = oi := by
    intro l hl i oi hi
    have := congrArg (fun l : List AObj => l[i]?) hl
    simp only [List.getElem?_map, hi, Option.map_some, Option.some.injEq] at this
    exact this
  have hbj : (hp.set j (.box t cs))[j]? = some (.box t cs) := List.getElem?_set_self hjl
  obtain ⟨u, hu⟩ : ∃ u, μ[j]? = some u := ⟨_, List.getElem?_eq_getElem (by rw [hH.len, List.length_set]; exact hjl)⟩
  have hul := (List.getElem?_eq_some_iff.1 hu).1
  obtain ⟨g, xs, rfl, hBg, hg, hr⟩ := hH.obj j _ u hbj hu
  have hr0 : RelL w (Zone Z0 F w0.heap.size) [] cs xs := RelL.leafy hl hr
  have hxl := hr0.length
  obtain ⟨u', hu'⟩ : ∃ u', u' = Value.slice (some ⟨g, 0, none⟩) 1 1 := ⟨_, rfl⟩
  have hset : ((hp.set j (.box t cs)).set j (.list t cs.length 1 cs)) = hp := by
    rw [List.set_set]
    refine List.ext_getElem? fun i => ?_
    rw [List.getElem?_set]
    split
    · rename_i e
      subst e
      exact hj.symm
    · rfl
  have hH0 : HRel w (Zone Z0 F w0.heap.size) w0.heap.size (μ.set j u') hp := by
    have := hH.swap (u' := u') (o' := .list t cs.length 1 cs) hbj hu rfl (by rw [hu']; rfl) (by rw [hu']; rfl) (fun i oi hne hi => kof h1 i oi (by rw [List.getElem?_set_ne (fun e => hne e.symm)] at hi; exact hi)) ⟨xs, ⟨by rw [hxl, Nat.one_mul], .inr ⟨g, 1, xs.toArray, hu', hBg, hg, Nat.le_refl _, by decide, by simp [hxl], by simp [← hxl]⟩⟩, hr0⟩
    rwa [hset] at this
  have hm : ∀ (i : Nat) (x : Value), i ≠ j → μ[i]? = some x → (μ.set j u')[i]? = some x := fun i x hne hx => by rw [List.getElem?_set_ne (fun e => hne e.symm)]; exact hx
  have hvs0 := RelL.keep_kill (w := w) (w' := w) j (fun _ _ _ => rfl) hm hvs
  rw [h2] at hvs0
  have hus0 := RelL.keep_kill (w := w) (w' := w) j (fun _ _ _ => rfl) hm hus
  have hrefj : RelL w (Zone Z0 F w0.heap.size) (μ.set j u') [.ref j] [u'] := RelL.cons (by simp only [Rel]; rw [List.getElem?_set_self hul]) RelL.nil
  refine (hc Z0 F w0 w _ vs (us ++ [u']) _ hFb hH0 hvs0 (hus0.append hrefj) hbel).mono ?_
  rintro e w' ⟨v, μ1, F1, res, hp', hΦ, rfl, hF1, hH1, hres, hfr1, hb1⟩
  obtain ⟨k1, k2, k3⟩ := h3 _ _ hΦ
  have hlen1 := hus0.length
  have hfrA : RelL w' (Zone Z0 F1 w0.heap.size) μ1 (killL j fr) us := by
    have := hfr1.take (killL j fr).length
    rwa [List.take_left, ← hlen1, List.take_left] at this
  have hrj : RelL w' (Zone Z0 F1 w0.heap.size) μ1 [.ref j] [u'] := by
    have := hfr1.drop (killL j fr).length
    rwa [List.drop_left, ← hlen1, List.drop_left] at this
  have hm1 : μ1[j]? = some u' := by
    simp only [RelL, Rel] at hrj
    obtain ⟨x, _, e1, e2, _⟩ := hrj
    simp only [List.cons.injEq] at e1
    rw [e1.1]; exact e2
  have hjl1 := (List.getElem?_eq_some_iff.1 hm1).1
  obtain ⟨xs1, hown, hr1⟩ := hH1.obj j _ u' k1 hm1
  have hcell : w0.heap.size ≤ g ∧ w'.heap[g]? = some (.cells xs1.toArray t (0, 0)) := by
    rcases hown.2 with ⟨e1, _⟩ | ⟨g', cap, cur, e1, e2, e3, e4, e5, e6, e7⟩
    · rw [hu'] at e1; cases e1
    · rw [hu'] at e1
      simp only [Value.slice.injEq, Option.some.injEq, Addr.mk.injEq, true_and, and_true] at e1
      obtain ⟨rfl, rfl⟩ := e1
      refine ⟨e2, ?_⟩
      have : cur = xs1.toArray := by
        apply Array.toList_inj.1
        rw [← e7, List.take_of_length_le (by simp [e6])]
      rw [e3, this]
  refine ⟨v, μ1.set j (.pointer (some ⟨g, 0, none⟩)), F1, res, _, ⟨hp', hΦ, rfl⟩, rfl, hF1, ?_, ?_, ?_, hb1⟩
  · exact hH1.swap k1 hm1 rfl (by rw [hu']; rfl) rfl (fun i oi _ hi => kof k2 i oi hi) ⟨g, xs1, rfl, hcell.1, hcell.2, hr1.lift⟩
  · have := Rel.keep_kill (w := w') (w' := w') (μ' := μ1.set j (.pointer (some ⟨g, 0, none⟩))) j (fun _ _ _ => rfl) (fun i x hne hx => by rw [List.getElem?_set_ne (fun e => hne e.symm)]; exact hx) hres
    rwa [k3] at this
  · refine RelL.mixK ?_ ?_ hus hfrA
    · intro i x hne hx
      rw [List.getElem?_set_ne (fun e => hne e.symm)]; exact hx
    · intro x hx
      rw [hu] at hx
      rw [List.getElem?_set_self hjl1]
      exact hx
/-! ### The address of a field may come first -/
section
variable {P : Program} {m : M} {Q : Exit → St → Prop}
theorem np_retX (P : Program) (fn : Func) (n : Nat) (us : List Value) (fr : List AV) (Φ : AV → List AObj → Prop) : NoPanic (retX P fn n us fr Φ) := fun _ _ h => by
  obtain ⟨_, _, _, h⟩ := h
  simp [retS] at h
end
/-! ### Sums that may come first -/
section
variable {P : Program} {m : M} {Q : Exit → St → Prop}
/-! ### One element is taken out of a row: append(x[:j], x[j+1:]...) -/
end
end Go.Abs


/-! Calls that need no object of the caller's, beside any objects. -/
namespace Go.Abs
open Go.RowKit

theorem zone_two {Z0 F F1 : Nat → Prop} {B C : Nat} (hBC : B ≤ C) (hF : ∀ b, F b → B ≤ b ∧ b < C) (hF1 : ∀ b, F1 b → C ≤ b) (b : Nat) : Zone Z0 (fun b => F b ∨ F1 b) B b ↔ Zone (Zone Z0 F B) F1 C b := by
  unfold Zone
  constructor
  · rintro (⟨h1, h2⟩ | ⟨h1, h2⟩)
    · exact .inl ⟨by omega, .inl ⟨h1, h2⟩⟩
    · rcases Nat.lt_or_ge b C with h | h
      · exact .inl ⟨h, .inr ⟨h1, fun hf => h2 (.inl hf)⟩⟩
      · exact .inr ⟨h, fun hf => h2 (.inr hf)⟩
  · rintro (⟨h1, h2 | h2⟩ | ⟨h1, h2⟩)
    · exact .inl h2
    · refine .inr ⟨h2.1, ?_⟩
      rintro (hf | hf)
      · exact h2.2 hf
      · have := hF1 b hf; omega
    · refine .inr ⟨by omega, ?_⟩
      rintro (hf | hf)
      · have := hF b hf; omega
      · exact h2 hf

section
variable {rd : Option Nat} {P : Program} {m : M} {Q : Exit → St → Prop}
theorem CallX.any {f : FuncId} {args : List AV} {Φ : AV → List AObj → Prop} (hp : List AObj) (hc : CallX P f args [] Φ) (hl : leafyL args = true) (hΦ : ∀ r h, Φ r h → h = []) : CallX P f args hp fun r h => h = hp ∧ Φ r [] := by
  obtain ⟨hen, hc⟩ := hc
  refine ⟨hen, ?_⟩
  intro Z0 F w0 w μ vs us fr hFb hH hvs hus hbel
  have hBC := hbel.size
  have zn : ∀ b, b < w.heap.size → (Zone (Zone Z0 F w0.heap.size) NoF w.heap.size b ↔ Zone Z0 F w0.heap.size b) := fun b hb => by
    unfold Zone NoF
    constructor
    · rintro (h | h)
      · exact h.2
      · omega
    · exact fun h => .inl ⟨hb, h⟩
  have hvs1 : RelL w (Zone (Zone Z0 F w0.heap.size) NoF w.heap.size) [] args vs := (RelL.leafy hl hvs).weak fun b hb h1 h2 => h1 ((zn b hb).1 h2)
  have h0 : HRel w (Zone (Zone Z0 F w0.heap.size) NoF w.heap.size) w.heap.size [] [] := ⟨rfl, fun i o u g h => by simp at h, fun i u h => by simp at h, fun i o u h => by simp at h, fun i j oi oj ui uj g _ h => by simp at h⟩
  refine (hc (Zone Z0 F w0.heap.size) NoF w w [] vs [] [] (fun b h => h.elim) h0 hvs1 RelL.nil (Below.refl _ _)).mono ?_
  rintro e w' ⟨v, μ', F1, res, hp', hΦ1, rfl, hF1, hH1, hres, _, hb1⟩
  have e1 := hΦ _ _ hΦ1
  subst e1
  have hm' : μ' = [] := List.eq_nil_of_length_eq_zero (by simpa using hH1.len)
  subst hm'
  have z2 := zone_two (Z0 := Z0) hBC hFb (fun b h => (hF1 b h).1)
  have hk : ∀ b, b < w.heap.size → w'.heap[b]? = w.heap[b]? := fun b hb => hb1.block b hb
  have hold : ∀ b, b < w'.heap.size → ¬ Zone Z0 F w0.heap.size b → ¬ Zone Z0 (fun b => F b ∨ F1 b) w0.heap.size b := by
    intro b _ h1 h2
    rcases Nat.lt_or_ge b w.heap.size with h | h
    · rcases (z2 b).1 h2 with h3 | h3
      · exact h1 h3.2
      · omega
    · exact h1 (.inr ⟨by omega, fun hf => by have := hFb b hf; omega⟩)
  refine ⟨v, μ, fun b => F b ∨ F1 b, res, hp, ⟨rfl, hΦ1⟩, rfl, ?_, ?_, ?_, ?_, hbel.trans (hb1.mono hBC)⟩
  · rintro b (h | h)
    · have := hFb b h; have := hb1.size; omega
    · have := hF1 b h; omega
  · refine ⟨hH.len, fun i o u g h1 ha h2 hg => ?_, hH.one, fun i o u h1 h2 => ?_, hH.sep⟩
    · have hz := hH.zone i o u g h1 ha h2 hg
      have hlt := ((hH.obj i o u h1 h2).blk_ge ha hg).2
      exact (z2 g).2 (.inl ⟨hlt, hz⟩)
    · have h3 := hH.obj i o u h1 h2
      cases ha : o.alive with
      | true => exact (h3.keep (w' := w') (fun b hb _ => hk b hb) (fun _ _ h => h) (fun g hg => hk g (h3.blk_ge ha hg).2)).weak hold
      | false => exact (h3.keep_dead (w' := w') (B' := w0.heap.size) (u' := u) (fun b hb _ => hk b hb) (fun _ _ h => h) ha).weak hold
  · exact Rel.lift (hres.weak fun b _ h1 h2 => h1 ((z2 b).1 h2))
  · exact (hus.keep (w' := w') (fun b hb _ => hk b hb) (fun _ _ h => h)).weak hold

end
end Go.Abs
