/- The ladder: what is checked by computing. -/
import Derived.Test.YtfkdkhlimdkehaaGreatW04
import Derived.Test.YtfkdkhlimdkehaaGreatS20
namespace Go.Proofs.YtfkdkhlimdkehaaGreat
open Go.RowKit Go.Abs

set_option maxRecDepth 100000
def opJ (k a b : Int) : Int := if k = 2 then band a b else if k = 3 then bor a b else impI a b
def zJ (k : Int) (i j : Nat) : List (Int × Int) := (k, 0) :: (nishi i ++ nishi j)
theorem nishi_isF : ∀ i : Fin 9, isF (nishi i.val) = true := by decide +kernel
theorem zJ_ok : ∀ k : Fin 3, ∀ i j : Fin 9, (zJ ((k.val : Int) + 2) i.val j.val).length ≤ 40 → lcode (zJ ((k.val : Int) + 2) i.val j.val) = 0 := by decide +kernel
theorem zJ_val : ∀ k : Fin 3, ∀ i j : Fin 9, fv impI [1] (zJ ((k.val : Int) + 2) i.val j.val) = opJ ((k.val : Int) + 2) (setI (i.val : Int)) (setI (j.val : Int)) := by decide +kernel
theorem zJ_mask : ∀ k : Fin 3, ∀ i j : Fin 9, fv (impB 8 (lad 8)) [1, 0, 0, 0, 0, 0] (zJ ((k.val : Int) + 2) i.val j.val) = band (fv impI [1] (zJ ((k.val : Int) + 2) i.val j.val)) 255 := by decide +kernel
theorem imp_top : (setsA.all fun a => setsA.all fun b => decide (bnot a b = 0) == decide (idx (impI a b) = -1)) = true := by kernel_rfl
theorem lad_va : vaB 8 (lad 8) [1, 0, 0, 0, 0, 0] = true := by decide +kernel
def zI (k i j : Int) : List (Int × Int) := (k, 0) :: (nishi i.toNat ++ nishi j.toNat)

end Go.Proofs.YtfkdkhlimdkehaaGreat
