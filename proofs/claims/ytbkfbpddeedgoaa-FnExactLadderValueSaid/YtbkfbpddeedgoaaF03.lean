/- Values on the ladder; SubstituteIndex of both packages and its law. -/
import Derived.Test.YtbkfbpddeedgoaaF02
import Derived.Test.YtbkfbpddeedgoaaS20
namespace Go.Proofs.Ytbkfbpddeedgoaa
open Go.RowKit Go.Abs

instance (nv : Nat) (a : List (Int × Int)) : Decidable (OKF nv a) := by unfold OKF; infer_instance
theorem impA_lad : impA 28 (lad 28) = impI := by funext a b; exact arrow_lad a b
theorem impB_lad : impB 28 (lad 28) = impI := by funext a b; exact imply_lad a b
theorem okf_mono {nv nv' : Nat} {a : List (Int × Int)} (h : OKF nv a) (hl : nv ≤ nv') : OKF nv' a := ⟨h.1, fun x hx => ⟨(h.2 x hx).1, (h.2 x hx).2.1, fun h0 => ⟨((h.2 x hx).2.2 h0).1, by have := ((h.2 x hx).2.2 h0).2; omega⟩⟩⟩
theorem stepF_ext (imp : Int → Int → Int) {vs vs' : List Int} {x : Int × Int} (h : x.1 = 0 → vs.getD x.2.toNat 0 = vs'.getD x.2.toNat 0) : stepF imp vs x = stepF imp vs' x := by
  funext st
  unfold stepF
  split
  · rename_i h0; rw [h h0]
  · rfl
theorem stkF_ext (imp : Int → Int → Int) {vs vs' : List Int} : ∀ {a : List (Int × Int)}, (∀ x ∈ a, x.1 = 0 → vs.getD x.2.toNat 0 = vs'.getD x.2.toNat 0) → stkF imp vs a = stkF imp vs' a
  | [], _ => rfl
  | x :: a, h => by
    have ih := stkF_ext imp (a := a) (fun y hy => h y (List.mem_cons_of_mem _ hy))
    show stepF imp vs x (stkF imp vs a) = stepF imp vs' x (stkF imp vs' a)
    rw [ih, stepF_ext imp (h x (List.mem_cons_self ..))]
theorem fv_one (imp : Int → Int → Int) {vs vs' : List Int} {a : List (Int × Int)} (h : OKF 1 a) (hv : vs.getD 0 0 = vs'.getD 0 0) : fv imp vs a = fv imp vs' a := by
  unfold fv
  rw [stkF_ext imp (vs := vs) (vs' := vs') fun x hx h0 => by
    have h1 := (h.2 x hx).2.2 h0
    rw [show x.2.toNat = 0 by omega, hv]]
theorem fv_cons {nv : Nat} (imp : Int → Int → Int) (vs : List Int) {L R : List (Int × Int)} (hL : OKF nv L) (hR : OKF nv R) (k : Int) (hk : k ≠ 0) : fv imp vs ((k, 0) :: (L ++ R)) = (stepF imp vs (k, 0) [fv imp vs L, fv imp vs R]).getD 0 0 := by
  conv => lhs; unfold fv stkF
  rw [List.foldr_cons, List.foldr_append, okf_stk imp vs hR, okf_stk imp vs hL]
def nval (imp : Int → Int → Int) (p : Int) : Nat → Int
  | 0 => 0
  | 1 => p
  | 2 => imp p 0
  | n + 3 => if (n + 3) % 2 = 1 then bor (nval imp p (n + 2)) (nval imp p (n + 1)) else imp (nval imp p (n + 1)) (nval imp p n)
theorem nishi_ok : ∀ n, n ≤ 8 → OKF 1 (nishi n) := by decide +kernel
theorem fv_nishi (imp : Int → Int → Int) (vs : List Int) : ∀ n, n ≤ 8 → fv imp vs (nishi n) = nval imp (vs.getD 0 0) n
  | 0, _ => rfl
  | 1, _ => rfl
  | 2, _ => rfl
  | n + 3, h => by
    have h2 := fv_nishi imp vs (n + 2) (by omega)
    have h1 := fv_nishi imp vs (n + 1) (by omega)
    have h0 := fv_nishi imp vs n (by omega)
    by_cases hn : (n + 3) % 2 = 1
    · rw [show nishi (n + 3) = (3, 0) :: (nishi (n + 2) ++ nishi (n + 1)) by simp only [nishi, if_pos hn], fv_cons imp vs (nishi_ok _ (by omega)) (nishi_ok _ (by omega)) 3 (by decide), h2, h1]
      simp only [nval, if_pos hn]
      rfl
    · rw [show nishi (n + 3) = (4, 0) :: (nishi (n + 1) ++ nishi n) by simp only [nishi, if_neg hn], fv_cons imp vs (nishi_ok _ (by omega)) (nishi_ok _ (by omega)) 4 (by decide), h1, h0]
      simp only [nval, if_neg hn]
      rfl
theorem sub_lits : (setsA.all fun a => (List.range 9).all fun n => setsS.contains (nval impI a n)) = true := by kernel_rfl
theorem subOk (n : Nat) (i : Int) (hn : n ≤ 8) (hi : inR i (-1) 40 = true) : okM (nval impI (setI i) n) = true := by
  have h := sub_lits
  rw [List.all_eq_true] at h
  have h1 := h _ (mem_setsA i hi)
  rw [List.all_eq_true] at h1
  have h2 := h1 n (List.mem_range.2 (by omega))
  rw [List.contains_iff_mem] at h2
  exact setsS_ok _ h2

theorem l20Value_c (a : List (Int × Int)) (p : Int) (hok : OKF 6 a) (hl : a.length ≤ 1000000000) : CallA Try.prog 64 [LN a, AI p] (AI (fv impI [p, 0, 0, 0, 0, 0] a)) := by
  refine CallA.of Try.func64 rfl (by kernel_rfl) ?_
  refine R.go 6 (R.call true (l20Ladder_c 28 (by omega)).frz (by kernel_rfl) rfl (by kernel_rfl) ?_)
  refine R.go 3 (R.call false (l17Force_c a.length 28 (lad 28) [p, 0, 0, 0, 0, 0] a (by rfl) (by first | assumption | exact okf_lef hok ((partsN_two _).2 (by omega)) | exact okf_rig hok ((partsN_two _).2 (by omega))) hl (by omega) (by omega) (by first | omega | (simp <;> omega))) (by kernel_rfl) rfl (by kernel_rfl) ?_)
  exact R.go 2 (R.retE (AI (fv (impA 28 (lad 28)) [p, 0, 0, 0, 0, 0] a)) (by kernel_rfl) (by kernel_rfl) (by first | (rw [impA_lad]) | (exfalso; omega)))

theorem onLadder_c (a : List (Int × Int)) (p : Int) (hok : OKF 1 a) (hl : a.length ≤ 1000000000) : CallA Try.prog 65 [LN a, AI p] (AI (fv impI [p] a)) := by
  refine CallA.of Try.func65 rfl (by kernel_rfl) ?_
  refine R.go 6 (R.call true (ladder_c 28 (by omega)) (by kernel_rfl) rfl (by kernel_rfl) ?_)
  refine R.go 3 (R.call false (forced_c 28 (lad 28) [p] a (by simp <;> omega) hl (by omega) (by omega) (by first | omega | (simp <;> omega))) (by kernel_rfl) rfl (by kernel_rfl) ?_)
  exact R.go 2 (R.retE (AI (fv (impB 28 (lad 28)) [p] a)) (by kernel_rfl) (by kernel_rfl) (by first | (rw [impB_lad]) | (exfalso; omega)))

theorem SI_spec_in (n : Nat) (i : Int) (hn : n ≤ 8) (h : inR (n : Int) 0 8 = true) (hi : inR i (-1) 40 = true) : CallA Try.prog 29 [AI (n : Int), AI i] (.tup [AI (idx (nval impI (setI i) n)), AI 0]) := by
  have h8 : -1 ≤ i ∧ i ≤ 40 := (inR_iff _ _ _).1 hi
  have hf : fv impI [setI i, 0, 0, 0, 0, 0] (nishi n) = nval impI (setI i) n := fv_nishi impI _ n hn
  have hm : okM (fv impI [setI i, 0, 0, 0, 0, 0] (nishi n)) = true := by rw [hf]; exact subOk n i hn hi
  have hl : (nishi n).length ≤ 1000 := nishi_len n hn
  have h1 : OKF 1 (nishi n) := nishi_ok n hn
  have h6 : OKF 6 (nishi n) := okf_mono h1 (by decide)
  refine CallA.of Try.func29 rfl (by kernel_rfl) ?_
  refine R.go 9 (R.call true (l01In_c (n : Int) 0 8) (by kernel_rfl) rfl (by kernel_rfl) ?_)
  refine R.go 2 (R.want (!(inR (n : Int) 0 8)) false (by kernel_rfl) (bnF h) ?_)
  refine R.go 1 (R.want (!(inR (n : Int) 0 8)) false (by kernel_rfl) (bnF h) ?_)
  refine R.call true (l20In_c i) (by kernel_rfl) rfl (by kernel_rfl) ?_
  refine R.want (!(inR (n : Int) 0 8)) false (by kernel_rfl) (bnF h) ?_
  refine R.go 1 (R.pick (!(inR (n : Int) 0 8)) false (by kernel_rfl) (bnF h) (by kernel_rfl) ?_)
  refine R.go 1 (R.els (!(inR i (-1) 40)) (by kernel_rfl) (bnF hi) ?_)
  refine R.go 4 (R.call true (l20Formula_c n hn).frz (by kernel_rfl) rfl (by kernel_rfl) ?_)
  refine R.go 1 (R.call true (l20Set_c i (by omega) (by omega)) (by kernel_rfl) rfl (by kernel_rfl) ?_)
  refine R.call true (l20Value_c (nishi n) (setI i) h6 (by first | omega | (simp <;> omega))) (by kernel_rfl) rfl (by kernel_rfl) ?_
  refine R.call true (l20Index_c (fv impI [(setI i), 0, 0, 0, 0, 0] (nishi n)) (by omega)) (by kernel_rfl) rfl (by kernel_rfl) ?_
  exact R.go 3 (R.retE (.tup [AI (idx (fv impI [(setI i), 0, 0, 0, 0, 0] (nishi n))), AI 0]) (by kernel_rfl) (by kernel_rfl) (by first | (rw [hf]) | (exfalso; omega)))

theorem SI_spec_n (n : Int) (i : Int) (h : inR n 0 8 = false) : CallA Try.prog 29 [AI n, AI i] (.tup [AI 0, AI 2]) := by
  refine CallA.of Try.func29 rfl (by kernel_rfl) ?_
  refine R.go 9 (R.call true (l01In_c n 0 8) (by kernel_rfl) rfl (by kernel_rfl) ?_)
  refine R.go 2 (R.skp (!(inR n 0 8)) false (by kernel_rfl) (bnT h) (by kernel_rfl) ?_)
  refine R.skp (!(inR n 0 8)) false (by kernel_rfl) (bnT h) (by kernel_rfl) ?_
  refine R.skp (!(inR n 0 8)) false (by kernel_rfl) (bnT h) (by kernel_rfl) ?_
  refine R.pick (!(inR n 0 8)) true (by kernel_rfl) (bnT h) (by kernel_rfl) ?_
  exact R.go 7 (R.retE (.tup [AI 0, AI 2]) (by kernel_rfl) (by kernel_rfl) (by rfl))

theorem SI_spec_i (n : Int) (i : Int) (h : inR n 0 8 = true) (hi : inR i (-1) 40 = false) : CallA Try.prog 29 [AI n, AI i] (.tup [AI 0, AI 2]) := by
  refine CallA.of Try.func29 rfl (by kernel_rfl) ?_
  refine R.go 9 (R.call true (l01In_c n 0 8) (by kernel_rfl) rfl (by kernel_rfl) ?_)
  refine R.go 2 (R.want (!(inR n 0 8)) false (by kernel_rfl) (bnF h) ?_)
  refine R.go 1 (R.want (!(inR n 0 8)) false (by kernel_rfl) (bnF h) ?_)
  refine R.call true (l20In_c i) (by kernel_rfl) rfl (by kernel_rfl) ?_
  refine R.want (!(inR n 0 8)) false (by kernel_rfl) (bnF h) ?_
  refine R.go 1 (R.pick (!(inR n 0 8)) false (by kernel_rfl) (bnF h) (by kernel_rfl) ?_)
  refine R.go 1 (R.thn (!(inR i (-1) 40)) (by kernel_rfl) (bnT hi) ?_)
  exact R.go 5 (R.retE (.tup [AI 0, AI 2]) (by kernel_rfl) (by kernel_rfl) (by rfl))

theorem SI_impl_in (n : Nat) (i : Int) (hn : n ≤ 8) (h : inR (n : Int) 0 8 = true) (hi : inR i (-1) 40 = true) : CallA Try.prog 30 [AI (n : Int), AI i] (.tup [AI (idx (nval impI (setI i) n)), AI 0]) := by
  have h8 : -1 ≤ i ∧ i ≤ 40 := (inR_iff _ _ _).1 hi
  have hf : fv impI [setI i] (nishi n) = nval impI (setI i) n := fv_nishi impI _ n hn
  have hm : okM (fv impI [setI i] (nishi n)) = true := by rw [hf]; exact subOk n i hn hi
  have hl : (nishi n).length ≤ 1000 := nishi_len n hn
  have h1 : OKF 1 (nishi n) := nishi_ok n hn
  have h6 : OKF 6 (nishi n) := okf_mono h1 (by decide)
  refine CallA.of Try.func30 rfl (by kernel_rfl) ?_
  refine R.go 9 (R.call true (inRange_c (n : Int) 0 8) (by kernel_rfl) rfl (by kernel_rfl) ?_)
  refine R.go 2 (R.want (!(inR (n : Int) 0 8)) false (by kernel_rfl) (bnF h) ?_)
  refine R.go 1 (R.want (!(inR (n : Int) 0 8)) false (by kernel_rfl) (bnF h) ?_)
  refine R.call true (isIndex_c i) (by kernel_rfl) rfl (by kernel_rfl) ?_
  refine R.want (!(inR (n : Int) 0 8)) false (by kernel_rfl) (bnF h) ?_
  refine R.go 1 (R.pick (!(inR (n : Int) 0 8)) false (by kernel_rfl) (bnF h) (by kernel_rfl) ?_)
  refine R.go 1 (R.els (!(inR i (-1) 40)) (by kernel_rfl) (bnF hi) ?_)
  refine R.go 4 (R.call true (nishimura_c n hn).frz (by kernel_rfl) rfl (by kernel_rfl) ?_)
  refine R.go 1 (R.call true (indexSet_c i (by omega) (by omega)) (by kernel_rfl) rfl (by kernel_rfl) ?_)
  refine R.call true (onLadder_c (nishi n) (setI i) h1 (by first | omega | (simp <;> omega))) (by kernel_rfl) rfl (by kernel_rfl) ?_
  refine R.call true (indexOf_c (fv impI [(setI i)] (nishi n)) (by omega)) (by kernel_rfl) rfl (by kernel_rfl) ?_
  exact R.go 3 (R.retE (.tup [AI (idx (fv impI [(setI i)] (nishi n))), AI 0]) (by kernel_rfl) (by kernel_rfl) (by first | (rw [hf]) | (exfalso; omega)))

theorem SI_impl_n (n : Int) (i : Int) (h : inR n 0 8 = false) : CallA Try.prog 30 [AI n, AI i] (.tup [AI 0, AI 2]) := by
  refine CallA.of Try.func30 rfl (by kernel_rfl) ?_
  refine R.go 9 (R.call true (inRange_c n 0 8) (by kernel_rfl) rfl (by kernel_rfl) ?_)
  refine R.go 2 (R.skp (!(inR n 0 8)) false (by kernel_rfl) (bnT h) (by kernel_rfl) ?_)
  refine R.skp (!(inR n 0 8)) false (by kernel_rfl) (bnT h) (by kernel_rfl) ?_
  refine R.skp (!(inR n 0 8)) false (by kernel_rfl) (bnT h) (by kernel_rfl) ?_
  refine R.pick (!(inR n 0 8)) true (by kernel_rfl) (bnT h) (by kernel_rfl) ?_
  exact R.go 7 (R.retE (.tup [AI 0, AI 2]) (by kernel_rfl) (by kernel_rfl) (by rfl))

theorem SI_impl_i (n : Int) (i : Int) (h : inR n 0 8 = true) (hi : inR i (-1) 40 = false) : CallA Try.prog 30 [AI n, AI i] (.tup [AI 0, AI 2]) := by
  refine CallA.of Try.func30 rfl (by kernel_rfl) ?_
  refine R.go 9 (R.call true (inRange_c n 0 8) (by kernel_rfl) rfl (by kernel_rfl) ?_)
  refine R.go 2 (R.want (!(inR n 0 8)) false (by kernel_rfl) (bnF h) ?_)
  refine R.go 1 (R.want (!(inR n 0 8)) false (by kernel_rfl) (bnF h) ?_)
  refine R.call true (isIndex_c i) (by kernel_rfl) rfl (by kernel_rfl) ?_
  refine R.want (!(inR n 0 8)) false (by kernel_rfl) (bnF h) ?_
  refine R.go 1 (R.pick (!(inR n 0 8)) false (by kernel_rfl) (bnF h) (by kernel_rfl) ?_)
  refine R.go 1 (R.thn (!(inR i (-1) 40)) (by kernel_rfl) (bnT hi) ?_)
  exact R.go 5 (R.retE (.tup [AI 0, AI 2]) (by kernel_rfl) (by kernel_rfl) (by rfl))

theorem lawSI_in (n : Nat) (i : Int) (hn : n ≤ 8) (h : inR (n : Int) 0 8 = true) (hi : inR i (-1) 40 = true) : CallA Try.prog 8 [AI (n : Int), AI i] (.bool true) := by
  refine CallA.of Try.func8 rfl (by kernel_rfl) ?_
  refine R.go 8 (R.call true (SI_spec_in n i hn h hi) (by kernel_rfl) rfl (by kernel_rfl) ?_)
  refine R.go 10 (R.call true (SI_impl_in n i hn h hi) (by kernel_rfl) rfl (by kernel_rfl) ?_)
  refine R.go 13 (R.want (!decide ((idx (nval impI (setI i) n)) = (idx (nval impI (setI i) n)))) false (by kernel_rfl) (nF rfl) ?_)
  refine R.go 1 (R.want (!decide ((idx (nval impI (setI i) n)) = (idx (nval impI (setI i) n)))) false (by kernel_rfl) (nF rfl) ?_)
  refine R.go 1 (R.want (!decide ((idx (nval impI (setI i) n)) = (idx (nval impI (setI i) n)))) false (by kernel_rfl) (nF rfl) ?_)
  refine R.go 1 (R.pick (!decide ((idx (nval impI (setI i) n)) = (idx (nval impI (setI i) n)))) false (by kernel_rfl) (nF rfl) (by kernel_rfl) ?_)
  exact R.go 7 (R.retE (.bool true) (by kernel_rfl) (by kernel_rfl) (by rfl))

theorem lawSI_n (n : Int) (i : Int) (h : inR n 0 8 = false) : CallA Try.prog 8 [AI n, AI i] (.bool true) := by
  refine CallA.of Try.func8 rfl (by kernel_rfl) ?_
  refine R.go 8 (R.call true (SI_spec_n n i h) (by kernel_rfl) rfl (by kernel_rfl) ?_)
  refine R.go 10 (R.call true (SI_impl_n n i h) (by kernel_rfl) rfl (by kernel_rfl) ?_)
  exact R.go 24 (R.retE (.bool true) (by kernel_rfl) (by kernel_rfl) (by rfl))

theorem lawSI_i (n : Int) (i : Int) (h : inR n 0 8 = true) (hi : inR i (-1) 40 = false) : CallA Try.prog 8 [AI n, AI i] (.bool true) := by
  refine CallA.of Try.func8 rfl (by kernel_rfl) ?_
  refine R.go 8 (R.call true (SI_spec_i n i h hi) (by kernel_rfl) rfl (by kernel_rfl) ?_)
  refine R.go 10 (R.call true (SI_impl_i n i h hi) (by kernel_rfl) rfl (by kernel_rfl) ?_)
  exact R.go 24 (R.retE (.bool true) (by kernel_rfl) (by kernel_rfl) (by rfl))

theorem lawSI (a b : Int) : CallA Try.prog 8 [AI a, AI b] (.bool true) := by
  cases h : inR a 0 8 with
  | false => exact lawSI_n a b h
  | true =>
    cases hi : inR b (-1) 40 with
    | false => exact lawSI_i a b h hi
    | true =>
      have h' := h
      simp only [inR, Bool.and_eq_true, decide_eq_true_eq] at h
      obtain ⟨n, rfl⟩ := Int.eq_ofNat_of_zero_le h.1
      exact lawSI_in n b (by omega) h' hi

end Go.Proofs.Ytbkfbpddeedgoaa
