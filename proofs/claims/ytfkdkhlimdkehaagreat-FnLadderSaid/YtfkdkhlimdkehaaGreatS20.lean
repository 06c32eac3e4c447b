/- Nishimura formulas. -/
import Derived.Test.YtfkdkhlimdkehaaGreatS02
namespace Go.Proofs.YtfkdkhlimdkehaaGreat
open Go.RowKit Go.Abs

theorem nishimura_c : ∀ (n : Nat) (hn : n ≤ 8), CallA Tryz.prog 55 [AI (n : Int)] (ownA eN 90 2 (nishi n)) := by
  intro n
  induction n using Nat.strongRecOn with
  | _ n ih =>
  intro hn
  have l1 : (nishi (n - 1)).length ≤ 1000 := nishi_len _ (by omega)
  have l2 : (nishi (n - 2)).length ≤ 1000 := nishi_len _ (by omega)
  have l3 : (nishi (n - 3)).length ≤ 1000 := nishi_len _ (by omega)
  refine CallA.of Tryz.func55 rfl (by kernel_rfl) ?_
  refine R.go 15 (R.cond ((n : Int) = 0) (by kernel_rfl) (fun c1 => ?_) (fun c1 => ?_))
  · refine R.go 2 (R.call true (falsum_c) (by kernel_rfl) rfl (by kernel_rfl) ?_)
    exact R.go 2 (R.retE (ownA eN 90 2 [(1, 0)]) (by kernel_rfl) (by kernel_rfl) (by first | (first | (rw [show n = 0 by omega]; rfl) | (rw [show n = 1 by omega]; rfl) | (rw [show n = 2 by omega]; rfl) | rw [nishi_odd n (by omega) (by omega)] | rw [nishi_even n (by omega) (by omega)]) | (exfalso; omega)))
  · refine R.go 5 (R.cond ((n : Int) = 1) (by kernel_rfl) (fun c2 => ?_) (fun c2 => ?_))
    · refine R.go 2 (R.call true (variable_c 0) (by kernel_rfl) rfl (by kernel_rfl) ?_)
      exact R.go 2 (R.retE (ownA eN 90 2 [(0, 0)]) (by kernel_rfl) (by kernel_rfl) (by first | (first | (rw [show n = 0 by omega]; rfl) | (rw [show n = 1 by omega]; rfl) | (rw [show n = 2 by omega]; rfl) | rw [nishi_odd n (by omega) (by omega)] | rw [nishi_even n (by omega) (by omega)]) | (exfalso; omega)))
    · refine R.go 5 (R.cond ((n : Int) = 2) (by kernel_rfl) (fun c3 => ?_) (fun c3 => ?_))
      · refine R.go 2 (R.call true (variable_c 0) (by kernel_rfl) rfl (by kernel_rfl) ?_)
        refine R.call false (negation_c [(0, 0)] (by first | omega | (simp <;> omega))) (by kernel_rfl) (ownA_closed eN_closed 90 2 ((4, 0) :: ([(0, 0)] ++ [(1, 0)]))) (by kernel_rfl) ?_
        exact R.go 2 (R.retE (ownA eN 90 2 ((4, 0) :: ([(0, 0)] ++ [(1, 0)]))) (by kernel_rfl) (by kernel_rfl) (by first | (first | (rw [show n = 0 by omega]; rfl) | (rw [show n = 1 by omega]; rfl) | (rw [show n = 2 by omega]; rfl) | rw [nishi_odd n (by omega) (by omega)] | rw [nishi_even n (by omega) (by omega)]) | (exfalso; omega)))
      · refine R.go 6 (R.rem (n : Int) 2 (by kernel_rfl) (by omega) (by omega) (by kernel_rfl) ?_)
        refine R.go 2 (R.cond (((n : Int) % 2) = 1) (by kernel_rfl) (fun c4 => ?_) (fun c4 => ?_))
        · refine R.go 3 (R.arE ((n : Int) - 1) ((n - 1 : Nat) : Int) (by kernel_rfl) (by omega) (by omega) (by omega) (by kernel_rfl) ?_)
          refine R.call true (ih (n - 1) (by omega) (by omega)).frz (by kernel_rfl) rfl (by kernel_rfl) ?_
          refine R.go 1 (R.arE ((n : Int) - 2) ((n - 2 : Nat) : Int) (by kernel_rfl) (by omega) (by omega) (by omega) (by kernel_rfl) ?_)
          refine R.call true (ih (n - 2) (by omega) (by omega)).frz (by kernel_rfl) rfl (by kernel_rfl) ?_
          refine R.call true (join_c 3 (nishi (n - 1)) (nishi (n - 2)) (by first | omega | (simp <;> omega)) (by first | omega | (simp <;> omega))) (by kernel_rfl) rfl (by kernel_rfl) ?_
          exact R.go 2 (R.retE (ownA eN 90 2 ((3, 0) :: ((nishi (n - 1)) ++ (nishi (n - 2))))) (by kernel_rfl) (by kernel_rfl) (by first | (first | (rw [show n = 0 by omega]; rfl) | (rw [show n = 1 by omega]; rfl) | (rw [show n = 2 by omega]; rfl) | rw [nishi_odd n (by omega) (by omega)] | rw [nishi_even n (by omega) (by omega)]) | (exfalso; omega)))
        · refine R.go 4 (R.arE ((n : Int) - 2) ((n - 2 : Nat) : Int) (by kernel_rfl) (by omega) (by omega) (by omega) (by kernel_rfl) ?_)
          refine R.call true (ih (n - 2) (by omega) (by omega)).frz (by kernel_rfl) rfl (by kernel_rfl) ?_
          refine R.go 1 (R.arE ((n : Int) - 3) ((n - 3 : Nat) : Int) (by kernel_rfl) (by omega) (by omega) (by omega) (by kernel_rfl) ?_)
          refine R.call true (ih (n - 3) (by omega) (by omega)).frz (by kernel_rfl) rfl (by kernel_rfl) ?_
          refine R.call true (join_c 4 (nishi (n - 2)) (nishi (n - 3)) (by first | omega | (simp <;> omega)) (by first | omega | (simp <;> omega))) (by kernel_rfl) rfl (by kernel_rfl) ?_
          exact R.go 2 (R.retE (ownA eN 90 2 ((4, 0) :: ((nishi (n - 2)) ++ (nishi (n - 3))))) (by kernel_rfl) (by kernel_rfl) (by first | (first | (rw [show n = 0 by omega]; rfl) | (rw [show n = 1 by omega]; rfl) | (rw [show n = 2 by omega]; rfl) | rw [nishi_odd n (by omega) (by omega)] | rw [nishi_even n (by omega) (by omega)]) | (exfalso; omega)))

def inR8 (n : Int) : Bool := inR n 0 8

theorem NF_impl_in (n : Nat) (hn : n ≤ 8) (h : inR (n : Int) 0 8 = true) : CallA Tryz.prog 20 [AI (n : Int)] (.tup [ownA eN 90 2 (nishi n), AI 0]) := by
  refine CallA.of Tryz.func20 rfl (by kernel_rfl) ?_
  refine R.go 9 (R.call true (inRange_c (n : Int) 0 8) (by kernel_rfl) rfl (by kernel_rfl) ?_)
  refine R.go 2 (R.els (!(inR (n : Int) 0 8)) (by kernel_rfl) (bnF h) ?_)
  refine R.go 4 (R.call true (nishimura_c n hn) (by kernel_rfl) rfl (by kernel_rfl) ?_)
  exact R.go 3 (R.retE (.tup [ownA eN 90 2 (nishi n), AI 0]) (by kernel_rfl) (by kernel_rfl) (by rfl))

theorem NF_impl_out (n : Int) (h : inR n 0 8 = false) : CallA Tryz.prog 20 [AI n] (.tup [.nil, AI 2]) := by
  refine CallA.of Tryz.func20 rfl (by kernel_rfl) ?_
  refine R.go 9 (R.call true (inRange_c n 0 8) (by kernel_rfl) rfl (by kernel_rfl) ?_)
  refine R.go 2 (R.thn (!(inR n 0 8)) (by kernel_rfl) (bnT h) ?_)
  exact R.go 5 (R.retE (.tup [.nil, AI 2]) (by kernel_rfl) (by kernel_rfl) (by rfl))

end Go.Proofs.YtfkdkhlimdkehaaGreat
