/- Values on the ladder; SubstituteIndex of both packages and its law. -/
import Derived.Test.YtfkdkhlimdkehaaGreatF02
import Derived.Test.YtfkdkhlimdkehaaGreatS20
namespace Go.Proofs.YtfkdkhlimdkehaaGreat
open Go.RowKit Go.Abs

instance (nv : Nat) (a : List (Int × Int)) : Decidable (OKF nv a) := by unfold OKF; infer_instance
theorem impA_lad : impA 28 (lad 28) = impI := by funext a b; exact arrow_lad a b
theorem impB_lad : impB 28 (lad 28) = impI := by funext a b; exact imply_lad a b
theorem okf_mono {nv nv' : Nat} {a : List (Int × Int)} (h : OKF nv a) (hl : nv ≤ nv') : OKF nv' a := ⟨h.1, fun x hx => ⟨(h.2 x hx).1, (h.2 x hx).2.1, fun h0 => ⟨((h.2 x hx).2.2 h0).1, by have := ((h.2 x hx).2.2 h0).2; omega⟩⟩⟩
theorem stepF_ext (imp : Int → Int → Int) {vs vs' : List Int} {x : Int × Int} (h : x.1 = 0 → vs.getD x.2.toNat 0 = vs'.getD x.2.toNat 0) : stepF imp vs x = stepF imp vs' x := by
  funext st
  unfold stepF
  split
  · rename_i h0; rw [h h0]
  · rfl
theorem stkF_ext (imp : Int → Int → Int) {vs vs' : List Int} : ∀ {a : List (Int × Int)}, (∀ x ∈ a, x.1 = 0 → vs.getD x.2.toNat 0 = vs'.getD x.2.toNat 0) → stkF imp vs a = stkF imp vs' a
  | [], _ => rfl
  | x :: a, h => by
    have ih := stkF_ext imp (a := a) (fun y hy => h y (List.mem_cons_of_mem _ hy))
    show stepF imp vs x (stkF imp vs a) = stepF imp vs' x (stkF imp vs' a)
    rw [ih, stepF_ext imp (h x (List.mem_cons_self ..))]
theorem fv_one (imp : Int → Int → Int) {vs vs' : List Int} {a : List (Int × Int)} (h : OKF 1 a) (hv : vs.getD 0 0 = vs'.getD 0 0) : fv imp vs a = fv imp vs' a := by
  unfold fv
  rw [stkF_ext imp (vs := vs) (vs' := vs') fun x hx h0 => by
    have h1 := (h.2 x hx).2.2 h0
    rw [show x.2.toNat = 0 by omega, hv]]
theorem fv_cons {nv : Nat} (imp : Int → Int → Int) (vs : List Int) {L R : List (Int × Int)} (hL : OKF nv L) (hR : OKF nv R) (k : Int) (hk : k ≠ 0) : fv imp vs ((k, 0) :: (L ++ R)) = (stepF imp vs (k, 0) [fv imp vs L, fv imp vs R]).getD 0 0 := by
  conv => lhs; unfold fv stkF
  rw [List.foldr_cons, List.foldr_append, okf_stk imp vs hR, okf_stk imp vs hL]
def nval (imp : Int → Int → Int) (p : Int) : Nat → Int
  | 0 => 0
  | 1 => p
  | 2 => imp p 0
  | n + 3 => if (n + 3) % 2 = 1 then bor (nval imp p (n + 2)) (nval imp p (n + 1)) else imp (nval imp p (n + 1)) (nval imp p n)
theorem nishi_ok : ∀ n, n ≤ 8 → OKF 1 (nishi n) := by decide +kernel
theorem fv_nishi (imp : Int → Int → Int) (vs : List Int) : ∀ n, n ≤ 8 → fv imp vs (nishi n) = nval imp (vs.getD 0 0) n
  | 0, _ => rfl
  | 1, _ => rfl
  | 2, _ => rfl
  | n + 3, h => by
    have h2 := fv_nishi imp vs (n + 2) (by omega)
    have h1 := fv_nishi imp vs (n + 1) (by omega)
    have h0 := fv_nishi imp vs n (by omega)
    by_cases hn : (n + 3) % 2 = 1
    · rw [show nishi (n + 3) = (3, 0) :: (nishi (n + 2) ++ nishi (n + 1)) by simp only [nishi, if_pos hn], fv_cons imp vs (nishi_ok _ (by omega)) (nishi_ok _ (by omega)) 3 (by decide), h2, h1]
      simp only [nval, if_pos hn]
      rfl
    · rw [show nishi (n + 3) = (4, 0) :: (nishi (n + 1) ++ nishi n) by simp only [nishi, if_neg hn], fv_cons imp vs (nishi_ok _ (by omega)) (nishi_ok _ (by omega)) 4 (by decide), h1, h0]
      simp only [nval, if_neg hn]
      rfl
theorem sub_lits : (setsA.all fun a => (List.range 9).all fun n => setsS.contains (nval impI a n)) = true := by kernel_rfl
theorem subOk (n : Nat) (i : Int) (hn : n ≤ 8) (hi : inR i (-1) 40 = true) : okM (nval impI (setI i) n) = true := by
  have h := sub_lits
  rw [List.all_eq_true] at h
  have h1 := h _ (mem_setsA i hi)
  rw [List.all_eq_true] at h1
  have h2 := h1 n (List.mem_range.2 (by omega))
  rw [List.contains_iff_mem] at h2
  exact setsS_ok _ h2

theorem onLadder_c (a : List (Int × Int)) (p : Int) (hok : OKF 1 a) (hl : a.length ≤ 1000000000) : CallA Tryz.prog 93 [LN a, AI p] (AI (fv impI [p] a)) := by
  refine CallA.of Tryz.func93 rfl (by kernel_rfl) ?_
  refine R.go 6 (R.call true (ladder_c 28 (by omega)) (by kernel_rfl) rfl (by kernel_rfl) ?_)
  refine R.go 1 (R.lit (s := 1) (n := 1) (cs := rows eI [p]) (by kernel_rfl) (by kernel_rfl) ?_)
  refine R.go 1 (R.call true (forced_c 28 (lad 28) [p] a (by first | omega | (simp <;> omega)) hl (by omega) (by omega) (by first | omega | (simp <;> omega))) (by kernel_rfl) rfl (by kernel_rfl) ?_)
  exact R.go 2 (R.retE (AI (fv (impB 28 (lad 28)) [p] a)) (by kernel_rfl) (by kernel_rfl) (by first | (rw [impB_lad]) | (exfalso; omega)))

end Go.Proofs.YtfkdkhlimdkehaaGreat
