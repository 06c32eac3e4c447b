/- Texts of the proof: SH2, SH3, SH4. -/
import Derived.Test.YtogehjciaamcfaaPartI

/-! Widths, depths, parts and sums of posets: what the program computes. -/
namespace Go.Proofs.Ytogehjciaamcfaa
open Go.RowKit Go.Abs

def onA (x : Int) : Int := IntKind.u64.wrap ((bits .and .u64 (shr64 x 1) 6148914691236517205) + (bits .and .u64 x 6148914691236517205))
def onB (x : Int) : Int := IntKind.u64.wrap ((bits .and .u64 (shr64 x 2) 3689348814741910323) + (bits .and .u64 x 3689348814741910323))
def onC (x : Int) : Int := bits .and .u64 (IntKind.u64.wrap ((shr64 x 4) + x)) 1085102592571150095
def onD (x : Int) (k : Int) : Int := IntKind.u64.wrap (x + (shr64 x k))
theorem onTab : ∀ q : Fin 256, (0 ≤ onD (onD (onD (onC (onB (onA (q.val : Int)))) 8) 16) 32 ∧ onD (onD (onD (onC (onB (onA (q.val : Int)))) 8) 16) 32 ≤ 9223372036854775807) ∧ band (onD (onD (onD (onC (onB (onA (q.val : Int)))) 8) 16) 32) 127 = ((mem (q.val : Int)).length : Int) := by decide +kernel
theorem ones_rng {m : Int} (h0 : 0 ≤ m) (h1 : m ≤ 255) : 0 ≤ (IntKind.u64.wrap ((IntKind.u64.wrap ((IntKind.u64.wrap ((bits .and .u64 (IntKind.u64.wrap ((shr64 (IntKind.u64.wrap ((bits .and .u64 (shr64 (IntKind.u64.wrap ((bits .and .u64 (shr64 m 1) 6148914691236517205) + (bits .and .u64 m 6148914691236517205))) 2) 3689348814741910323) + (bits .and .u64 (IntKind.u64.wrap ((bits .and .u64 (shr64 m 1) 6148914691236517205) + (bits .and .u64 m 6148914691236517205))) 3689348814741910323))) 4) + (IntKind.u64.wrap ((bits .and .u64 (shr64 (IntKind.u64.wrap ((bits .and .u64 (shr64 m 1) 6148914691236517205) + (bits .and .u64 m 6148914691236517205))) 2) 3689348814741910323) + (bits .and .u64 (IntKind.u64.wrap ((bits .and .u64 (shr64 m 1) 6148914691236517205) + (bits .and .u64 m 6148914691236517205))) 3689348814741910323))))) 1085102592571150095) + (shr64 (bits .and .u64 (IntKind.u64.wrap ((shr64 (IntKind.u64.wrap ((bits .and .u64 (shr64 (IntKind.u64.wrap ((bits .and .u64 (shr64 m 1) 6148914691236517205) + (bits .and .u64 m 6148914691236517205))) 2) 3689348814741910323) + (bits .and .u64 (IntKind.u64.wrap ((bits .and .u64 (shr64 m 1) 6148914691236517205) + (bits .and .u64 m 6148914691236517205))) 3689348814741910323))) 4) + (IntKind.u64.wrap ((bits .and .u64 (shr64 (IntKind.u64.wrap ((bits .and .u64 (shr64 m 1) 6148914691236517205) + (bits .and .u64 m 6148914691236517205))) 2) 3689348814741910323) + (bits .and .u64 (IntKind.u64.wrap ((bits .and .u64 (shr64 m 1) 6148914691236517205) + (bits .and .u64 m 6148914691236517205))) 3689348814741910323))))) 1085102592571150095) 8))) + (shr64 (IntKind.u64.wrap ((bits .and .u64 (IntKind.u64.wrap ((shr64 (IntKind.u64.wrap ((bits .and .u64 (shr64 (IntKind.u64.wrap ((bits .and .u64 (shr64 m 1) 6148914691236517205) + (bits .and .u64 m 6148914691236517205))) 2) 3689348814741910323) + (bits .and .u64 (IntKind.u64.wrap ((bits .and .u64 (shr64 m 1) 6148914691236517205) + (bits .and .u64 m 6148914691236517205))) 3689348814741910323))) 4) + (IntKind.u64.wrap ((bits .and .u64 (shr64 (IntKind.u64.wrap ((bits .and .u64 (shr64 m 1) 6148914691236517205) + (bits .and .u64 m 6148914691236517205))) 2) 3689348814741910323) + (bits .and .u64 (IntKind.u64.wrap ((bits .and .u64 (shr64 m 1) 6148914691236517205) + (bits .and .u64 m 6148914691236517205))) 3689348814741910323))))) 1085102592571150095) + (shr64 (bits .and .u64 (IntKind.u64.wrap ((shr64 (IntKind.u64.wrap ((bits .and .u64 (shr64 (IntKind.u64.wrap ((bits .and .u64 (shr64 m 1) 6148914691236517205) + (bits .and .u64 m 6148914691236517205))) 2) 3689348814741910323) + (bits .and .u64 (IntKind.u64.wrap ((bits .and .u64 (shr64 m 1) 6148914691236517205) + (bits .and .u64 m 6148914691236517205))) 3689348814741910323))) 4) + (IntKind.u64.wrap ((bits .and .u64 (shr64 (IntKind.u64.wrap ((bits .and .u64 (shr64 m 1) 6148914691236517205) + (bits .and .u64 m 6148914691236517205))) 2) 3689348814741910323) + (bits .and .u64 (IntKind.u64.wrap ((bits .and .u64 (shr64 m 1) 6148914691236517205) + (bits .and .u64 m 6148914691236517205))) 3689348814741910323))))) 1085102592571150095) 8))) 16))) + (shr64 (IntKind.u64.wrap ((IntKind.u64.wrap ((bits .and .u64 (IntKind.u64.wrap ((shr64 (IntKind.u64.wrap ((bits .and .u64 (shr64 (IntKind.u64.wrap ((bits .and .u64 (shr64 m 1) 6148914691236517205) + (bits .and .u64 m 6148914691236517205))) 2) 3689348814741910323) + (bits .and .u64 (IntKind.u64.wrap ((bits .and .u64 (shr64 m 1) 6148914691236517205) + (bits .and .u64 m 6148914691236517205))) 3689348814741910323))) 4) + (IntKind.u64.wrap ((bits .and .u64 (shr64 (IntKind.u64.wrap ((bits .and .u64 (shr64 m 1) 6148914691236517205) + (bits .and .u64 m 6148914691236517205))) 2) 3689348814741910323) + (bits .and .u64 (IntKind.u64.wrap ((bits .and .u64 (shr64 m 1) 6148914691236517205) + (bits .and .u64 m 6148914691236517205))) 3689348814741910323))))) 1085102592571150095) + (shr64 (bits .and .u64 (IntKind.u64.wrap ((shr64 (IntKind.u64.wrap ((bits .and .u64 (shr64 (IntKind.u64.wrap ((bits .and .u64 (shr64 m 1) 6148914691236517205) + (bits .and .u64 m 6148914691236517205))) 2) 3689348814741910323) + (bits .and .u64 (IntKind.u64.wrap ((bits .and .u64 (shr64 m 1) 6148914691236517205) + (bits .and .u64 m 6148914691236517205))) 3689348814741910323))) 4) + (IntKind.u64.wrap ((bits .and .u64 (shr64 (IntKind.u64.wrap ((bits .and .u64 (shr64 m 1) 6148914691236517205) + (bits .and .u64 m 6148914691236517205))) 2) 3689348814741910323) + (bits .and .u64 (IntKind.u64.wrap ((bits .and .u64 (shr64 m 1) 6148914691236517205) + (bits .and .u64 m 6148914691236517205))) 3689348814741910323))))) 1085102592571150095) 8))) + (shr64 (IntKind.u64.wrap ((bits .and .u64 (IntKind.u64.wrap ((shr64 (IntKind.u64.wrap ((bits .and .u64 (shr64 (IntKind.u64.wrap ((bits .and .u64 (shr64 m 1) 6148914691236517205) + (bits .and .u64 m 6148914691236517205))) 2) 3689348814741910323) + (bits .and .u64 (IntKind.u64.wrap ((bits .and .u64 (shr64 m 1) 6148914691236517205) + (bits .and .u64 m 6148914691236517205))) 3689348814741910323))) 4) + (IntKind.u64.wrap ((bits .and .u64 (shr64 (IntKind.u64.wrap ((bits .and .u64 (shr64 m 1) 6148914691236517205) + (bits .and .u64 m 6148914691236517205))) 2) 3689348814741910323) + (bits .and .u64 (IntKind.u64.wrap ((bits .and .u64 (shr64 m 1) 6148914691236517205) + (bits .and .u64 m 6148914691236517205))) 3689348814741910323))))) 1085102592571150095) + (shr64 (bits .and .u64 (IntKind.u64.wrap ((shr64 (IntKind.u64.wrap ((bits .and .u64 (shr64 (IntKind.u64.wrap ((bits .and .u64 (shr64 m 1) 6148914691236517205) + (bits .and .u64 m 6148914691236517205))) 2) 3689348814741910323) + (bits .and .u64 (IntKind.u64.wrap ((bits .and .u64 (shr64 m 1) 6148914691236517205) + (bits .and .u64 m 6148914691236517205))) 3689348814741910323))) 4) + (IntKind.u64.wrap ((bits .and .u64 (shr64 (IntKind.u64.wrap ((bits .and .u64 (shr64 m 1) 6148914691236517205) + (bits .and .u64 m 6148914691236517205))) 2) 3689348814741910323) + (bits .and .u64 (IntKind.u64.wrap ((bits .and .u64 (shr64 m 1) 6148914691236517205) + (bits .and .u64 m 6148914691236517205))) 3689348814741910323))))) 1085102592571150095) 8))) 16))) 32))) ∧ (IntKind.u64.wrap ((IntKind.u64.wrap ((IntKind.u64.wrap ((bits .and .u64 (IntKind.u64.wrap ((shr64 (IntKind.u64.wrap ((bits .and .u64 (shr64 (IntKind.u64.wrap ((bits .and .u64 (shr64 m 1) 6148914691236517205) + (bits .and .u64 m 6148914691236517205))) 2) 3689348814741910323) + (bits .and .u64 (IntKind.u64.wrap ((bits .and .u64 (shr64 m 1) 6148914691236517205) + (bits .and .u64 m 6148914691236517205))) 3689348814741910323))) 4) + (IntKind.u64.wrap ((bits .and .u64 (shr64 (IntKind.u64.wrap ((bits .and .u64 (shr64 m 1) 6148914691236517205) + (bits .and .u64 m 6148914691236517205))) 2) 3689348814741910323) + (bits .and .u64 (IntKind.u64.wrap ((bits .and .u64 (shr64 m 1) 6148914691236517205) + (bits .and .u64 m 6148914691236517205))) 3689348814741910323))))) 1085102592571150095) + (shr64 (bits .and .u64 (IntKind.u64.wrap ((shr64 (IntKind.u64.wrap ((bits .and .u64 (shr64 (IntKind.u64.wrap ((bits .and .u64 (shr64 m 1) 6148914691236517205) + (bits .and .u64 m 6148914691236517205))) 2) 3689348814741910323) + (bits .and .u64 (IntKind.u64.wrap ((bits .and .u64 (shr64 m 1) 6148914691236517205) + (bits .and .u64 m 6148914691236517205))) 3689348814741910323))) 4) + (IntKind.u64.wrap ((bits .and .u64 (shr64 (IntKind.u64.wrap ((bits .and .u64 (shr64 m 1) 6148914691236517205) + (bits .and .u64 m 6148914691236517205))) 2) 3689348814741910323) + (bits .and .u64 (IntKind.u64.wrap ((bits .and .u64 (shr64 m 1) 6148914691236517205) + (bits .and .u64 m 6148914691236517205))) 3689348814741910323))))) 1085102592571150095) 8))) + (shr64 (IntKind.u64.wrap ((bits .and .u64 (IntKind.u64.wrap ((shr64 (IntKind.u64.wrap ((bits .and .u64 (shr64 (IntKind.u64.wrap ((bits .and .u64 (shr64 m 1) 6148914691236517205) + (bits .and .u64 m 6148914691236517205))) 2) 3689348814741910323) + (bits .and .u64 (IntKind.u64.wrap ((bits .and .u64 (shr64 m 1) 6148914691236517205) + (bits .and .u64 m 6148914691236517205))) 3689348814741910323))) 4) + (IntKind.u64.wrap ((bits .and .u64 (shr64 (IntKind.u64.wrap ((bits .and .u64 (shr64 m 1) 6148914691236517205) + (bits .and .u64 m 6148914691236517205))) 2) 3689348814741910323) + (bits .and .u64 (IntKind.u64.wrap ((bits .and .u64 (shr64 m 1) 6148914691236517205) + (bits .and .u64 m 6148914691236517205))) 3689348814741910323))))) 1085102592571150095) + (shr64 (bits .and .u64 (IntKind.u64.wrap ((shr64 (IntKind.u64.wrap ((bits .and .u64 (shr64 (IntKind.u64.wrap ((bits .and .u64 (shr64 m 1) 6148914691236517205) + (bits .and .u64 m 6148914691236517205))) 2) 3689348814741910323) + (bits .and .u64 (IntKind.u64.wrap ((bits .and .u64 (shr64 m 1) 6148914691236517205) + (bits .and .u64 m 6148914691236517205))) 3689348814741910323))) 4) + (IntKind.u64.wrap ((bits .and .u64 (shr64 (IntKind.u64.wrap ((bits .and .u64 (shr64 m 1) 6148914691236517205) + (bits .and .u64 m 6148914691236517205))) 2) 3689348814741910323) + (bits .and .u64 (IntKind.u64.wrap ((bits .and .u64 (shr64 m 1) 6148914691236517205) + (bits .and .u64 m 6148914691236517205))) 3689348814741910323))))) 1085102592571150095) 8))) 16))) + (shr64 (IntKind.u64.wrap ((IntKind.u64.wrap ((bits .and .u64 (IntKind.u64.wrap ((shr64 (IntKind.u64.wrap ((bits .and .u64 (shr64 (IntKind.u64.wrap ((bits .and .u64 (shr64 m 1) 6148914691236517205) + (bits .and .u64 m 6148914691236517205))) 2) 3689348814741910323) + (bits .and .u64 (IntKind.u64.wrap ((bits .and .u64 (shr64 m 1) 6148914691236517205) + (bits .and .u64 m 6148914691236517205))) 3689348814741910323))) 4) + (IntKind.u64.wrap ((bits .and .u64 (shr64 (IntKind.u64.wrap ((bits .and .u64 (shr64 m 1) 6148914691236517205) + (bits .and .u64 m 6148914691236517205))) 2) 3689348814741910323) + (bits .and .u64 (IntKind.u64.wrap ((bits .and .u64 (shr64 m 1) 6148914691236517205) + (bits .and .u64 m 6148914691236517205))) 3689348814741910323))))) 1085102592571150095) + (shr64 (bits .and .u64 (IntKind.u64.wrap ((shr64 (IntKind.u64.wrap ((bits .and .u64 (shr64 (IntKind.u64.wrap ((bits .and .u64 (shr64 m 1) 6148914691236517205) + (bits .and .u64 m 6148914691236517205))) 2) 3689348814741910323) + (bits .and .u64 (IntKind.u64.wrap ((bits .and .u64 (shr64 m 1) 6148914691236517205) + (bits .and .u64 m 6148914691236517205))) 3689348814741910323))) 4) + (IntKind.u64.wrap ((bits .and .u64 (shr64 (IntKind.u64.wrap ((bits .and .u64 (shr64 m 1) 6148914691236517205) + (bits .and .u64 m 6148914691236517205))) 2) 3689348814741910323) + (bits .and .u64 (IntKind.u64.wrap ((bits .and .u64 (shr64 m 1) 6148914691236517205) + (bits .and .u64 m 6148914691236517205))) 3689348814741910323))))) 1085102592571150095) 8))) + (shr64 (IntKind.u64.wrap ((bits .and .u64 (IntKind.u64.wrap ((shr64 (IntKind.u64.wrap ((bits .and .u64 (shr64 (IntKind.u64.wrap ((bits .and .u64 (shr64 m 1) 6148914691236517205) + (bits .and .u64 m 6148914691236517205))) 2) 3689348814741910323) + (bits .and .u64 (IntKind.u64.wrap ((bits .and .u64 (shr64 m 1) 6148914691236517205) + (bits .and .u64 m 6148914691236517205))) 3689348814741910323))) 4) + (IntKind.u64.wrap ((bits .and .u64 (shr64 (IntKind.u64.wrap ((bits .and .u64 (shr64 m 1) 6148914691236517205) + (bits .and .u64 m 6148914691236517205))) 2) 3689348814741910323) + (bits .and .u64 (IntKind.u64.wrap ((bits .and .u64 (shr64 m 1) 6148914691236517205) + (bits .and .u64 m 6148914691236517205))) 3689348814741910323))))) 1085102592571150095) + (shr64 (bits .and .u64 (IntKind.u64.wrap ((shr64 (IntKind.u64.wrap ((bits .and .u64 (shr64 (IntKind.u64.wrap ((bits .and .u64 (shr64 m 1) 6148914691236517205) + (bits .and .u64 m 6148914691236517205))) 2) 3689348814741910323) + (bits .and .u64 (IntKind.u64.wrap ((bits .and .u64 (shr64 m 1) 6148914691236517205) + (bits .and .u64 m 6148914691236517205))) 3689348814741910323))) 4) + (IntKind.u64.wrap ((bits .and .u64 (shr64 (IntKind.u64.wrap ((bits .and .u64 (shr64 m 1) 6148914691236517205) + (bits .and .u64 m 6148914691236517205))) 2) 3689348814741910323) + (bits .and .u64 (IntKind.u64.wrap ((bits .and .u64 (shr64 m 1) 6148914691236517205) + (bits .and .u64 m 6148914691236517205))) 3689348814741910323))))) 1085102592571150095) 8))) 16))) 32))) ≤ 9223372036854775807 := by
  obtain ⟨q, rfl⟩ := Int.eq_ofNat_of_zero_le h0
  exact (onTab ⟨q, by omega⟩).1
theorem ones_tab {m : Int} (h0 : 0 ≤ m) (h1 : m ≤ 255) : band (IntKind.u64.wrap ((IntKind.u64.wrap ((IntKind.u64.wrap ((bits .and .u64 (IntKind.u64.wrap ((shr64 (IntKind.u64.wrap ((bits .and .u64 (shr64 (IntKind.u64.wrap ((bits .and .u64 (shr64 m 1) 6148914691236517205) + (bits .and .u64 m 6148914691236517205))) 2) 3689348814741910323) + (bits .and .u64 (IntKind.u64.wrap ((bits .and .u64 (shr64 m 1) 6148914691236517205) + (bits .and .u64 m 6148914691236517205))) 3689348814741910323))) 4) + (IntKind.u64.wrap ((bits .and .u64 (shr64 (IntKind.u64.wrap ((bits .and .u64 (shr64 m 1) 6148914691236517205) + (bits .and .u64 m 6148914691236517205))) 2) 3689348814741910323) + (bits .and .u64 (IntKind.u64.wrap ((bits .and .u64 (shr64 m 1) 6148914691236517205) + (bits .and .u64 m 6148914691236517205))) 3689348814741910323))))) 1085102592571150095) + (shr64 (bits .and .u64 (IntKind.u64.wrap ((shr64 (IntKind.u64.wrap ((bits .and .u64 (shr64 (IntKind.u64.wrap ((bits .and .u64 (shr64 m 1) 6148914691236517205) + (bits .and .u64 m 6148914691236517205))) 2) 3689348814741910323) + (bits .and .u64 (IntKind.u64.wrap ((bits .and .u64 (shr64 m 1) 6148914691236517205) + (bits .and .u64 m 6148914691236517205))) 3689348814741910323))) 4) + (IntKind.u64.wrap ((bits .and .u64 (shr64 (IntKind.u64.wrap ((bits .and .u64 (shr64 m 1) 6148914691236517205) + (bits .and .u64 m 6148914691236517205))) 2) 3689348814741910323) + (bits .and .u64 (IntKind.u64.wrap ((bits .and .u64 (shr64 m 1) 6148914691236517205) + (bits .and .u64 m 6148914691236517205))) 3689348814741910323))))) 1085102592571150095) 8))) + (shr64 (IntKind.u64.wrap ((bits .and .u64 (IntKind.u64.wrap ((shr64 (IntKind.u64.wrap ((bits .and .u64 (shr64 (IntKind.u64.wrap ((bits .and .u64 (shr64 m 1) 6148914691236517205) + (bits .and .u64 m 6148914691236517205))) 2) 3689348814741910323) + (bits .and .u64 (IntKind.u64.wrap ((bits .and .u64 (shr64 m 1) 6148914691236517205) + (bits .and .u64 m 6148914691236517205))) 3689348814741910323))) 4) + (IntKind.u64.wrap ((bits .and .u64 (shr64 (IntKind.u64.wrap ((bits .and .u64 (shr64 m 1) 6148914691236517205) + (bits .and .u64 m 6148914691236517205))) 2) 3689348814741910323) + (bits .and .u64 (IntKind.u64.wrap ((bits .and .u64 (shr64 m 1) 6148914691236517205) + (bits .and .u64 m 6148914691236517205))) 3689348814741910323))))) 1085102592571150095) + (shr64 (bits .and .u64 (IntKind.u64.wrap ((shr64 (IntKind.u64.wrap ((bits .and .u64 (shr64 (IntKind.u64.wrap ((bits .and .u64 (shr64 m 1) 6148914691236517205) + (bits .and .u64 m 6148914691236517205))) 2) 3689348814741910323) + (bits .and .u64 (IntKind.u64.wrap ((bits .and .u64 (shr64 m 1) 6148914691236517205) + (bits .and .u64 m 6148914691236517205))) 3689348814741910323))) 4) + (IntKind.u64.wrap ((bits .and .u64 (shr64 (IntKind.u64.wrap ((bits .and .u64 (shr64 m 1) 6148914691236517205) + (bits .and .u64 m 6148914691236517205))) 2) 3689348814741910323) + (bits .and .u64 (IntKind.u64.wrap ((bits .and .u64 (shr64 m 1) 6148914691236517205) + (bits .and .u64 m 6148914691236517205))) 3689348814741910323))))) 1085102592571150095) 8))) 16))) + (shr64 (IntKind.u64.wrap ((IntKind.u64.wrap ((bits .and .u64 (IntKind.u64.wrap ((shr64 (IntKind.u64.wrap ((bits .and .u64 (shr64 (IntKind.u64.wrap ((bits .and .u64 (shr64 m 1) 6148914691236517205) + (bits .and .u64 m 6148914691236517205))) 2) 3689348814741910323) + (bits .and .u64 (IntKind.u64.wrap ((bits .and .u64 (shr64 m 1) 6148914691236517205) + (bits .and .u64 m 6148914691236517205))) 3689348814741910323))) 4) + (IntKind.u64.wrap ((bits .and .u64 (shr64 (IntKind.u64.wrap ((bits .and .u64 (shr64 m 1) 6148914691236517205) + (bits .and .u64 m 6148914691236517205))) 2) 3689348814741910323) + (bits .and .u64 (IntKind.u64.wrap ((bits .and .u64 (shr64 m 1) 6148914691236517205) + (bits .and .u64 m 6148914691236517205))) 3689348814741910323))))) 1085102592571150095) + (shr64 (bits .and .u64 (IntKind.u64.wrap ((shr64 (IntKind.u64.wrap ((bits .and .u64 (shr64 (IntKind.u64.wrap ((bits .and .u64 (shr64 m 1) 6148914691236517205) + (bits .and .u64 m 6148914691236517205))) 2) 3689348814741910323) + (bits .and .u64 (IntKind.u64.wrap ((bits .and .u64 (shr64 m 1) 6148914691236517205) + (bits .and .u64 m 6148914691236517205))) 3689348814741910323))) 4) + (IntKind.u64.wrap ((bits .and .u64 (shr64 (IntKind.u64.wrap ((bits .and .u64 (shr64 m 1) 6148914691236517205) + (bits .and .u64 m 6148914691236517205))) 2) 3689348814741910323) + (bits .and .u64 (IntKind.u64.wrap ((bits .and .u64 (shr64 m 1) 6148914691236517205) + (bits .and .u64 m 6148914691236517205))) 3689348814741910323))))) 1085102592571150095) 8))) + (shr64 (IntKind.u64.wrap ((bits .and .u64 (IntKind.u64.wrap ((shr64 (IntKind.u64.wrap ((bits .and .u64 (shr64 (IntKind.u64.wrap ((bits .and .u64 (shr64 m 1) 6148914691236517205) + (bits .and .u64 m 6148914691236517205))) 2) 3689348814741910323) + (bits .and .u64 (IntKind.u64.wrap ((bits .and .u64 (shr64 m 1) 6148914691236517205) + (bits .and .u64 m 6148914691236517205))) 3689348814741910323))) 4) + (IntKind.u64.wrap ((bits .and .u64 (shr64 (IntKind.u64.wrap ((bits .and .u64 (shr64 m 1) 6148914691236517205) + (bits .and .u64 m 6148914691236517205))) 2) 3689348814741910323) + (bits .and .u64 (IntKind.u64.wrap ((bits .and .u64 (shr64 m 1) 6148914691236517205) + (bits .and .u64 m 6148914691236517205))) 3689348814741910323))))) 1085102592571150095) + (shr64 (bits .and .u64 (IntKind.u64.wrap ((shr64 (IntKind.u64.wrap ((bits .and .u64 (shr64 (IntKind.u64.wrap ((bits .and .u64 (shr64 m 1) 6148914691236517205) + (bits .and .u64 m 6148914691236517205))) 2) 3689348814741910323) + (bits .and .u64 (IntKind.u64.wrap ((bits .and .u64 (shr64 m 1) 6148914691236517205) + (bits .and .u64 m 6148914691236517205))) 3689348814741910323))) 4) + (IntKind.u64.wrap ((bits .and .u64 (shr64 (IntKind.u64.wrap ((bits .and .u64 (shr64 m 1) 6148914691236517205) + (bits .and .u64 m 6148914691236517205))) 2) 3689348814741910323) + (bits .and .u64 (IntKind.u64.wrap ((bits .and .u64 (shr64 m 1) 6148914691236517205) + (bits .and .u64 m 6148914691236517205))) 3689348814741910323))))) 1085102592571150095) 8))) 16))) 32))) 127 = ((mem m).length : Int) := by
  obtain ⟨q, rfl⟩ := Int.eq_ofNat_of_zero_le h0
  exact (onTab ⟨q, by omega⟩).2

theorem ones_c (m : Int) (h0 : 0 ≤ m) (h1 : m ≤ 255) : CallA Try.prog 108 [.int .u64 m] (AI ((mem m).length : Int)) := by
  have hor := ones_rng h0 h1
  refine CallA.of Try.func108 rfl (by kernel_rfl) ?_
  refine R.go 60 (R.cv .i64 (IntKind.u64.wrap ((IntKind.u64.wrap ((IntKind.u64.wrap ((bits .and .u64 (IntKind.u64.wrap ((shr64 (IntKind.u64.wrap ((bits .and .u64 (shr64 (IntKind.u64.wrap ((bits .and .u64 (shr64 m 1) 6148914691236517205) + (bits .and .u64 m 6148914691236517205))) 2) 3689348814741910323) + (bits .and .u64 (IntKind.u64.wrap ((bits .and .u64 (shr64 m 1) 6148914691236517205) + (bits .and .u64 m 6148914691236517205))) 3689348814741910323))) 4) + (IntKind.u64.wrap ((bits .and .u64 (shr64 (IntKind.u64.wrap ((bits .and .u64 (shr64 m 1) 6148914691236517205) + (bits .and .u64 m 6148914691236517205))) 2) 3689348814741910323) + (bits .and .u64 (IntKind.u64.wrap ((bits .and .u64 (shr64 m 1) 6148914691236517205) + (bits .and .u64 m 6148914691236517205))) 3689348814741910323))))) 1085102592571150095) + (shr64 (bits .and .u64 (IntKind.u64.wrap ((shr64 (IntKind.u64.wrap ((bits .and .u64 (shr64 (IntKind.u64.wrap ((bits .and .u64 (shr64 m 1) 6148914691236517205) + (bits .and .u64 m 6148914691236517205))) 2) 3689348814741910323) + (bits .and .u64 (IntKind.u64.wrap ((bits .and .u64 (shr64 m 1) 6148914691236517205) + (bits .and .u64 m 6148914691236517205))) 3689348814741910323))) 4) + (IntKind.u64.wrap ((bits .and .u64 (shr64 (IntKind.u64.wrap ((bits .and .u64 (shr64 m 1) 6148914691236517205) + (bits .and .u64 m 6148914691236517205))) 2) 3689348814741910323) + (bits .and .u64 (IntKind.u64.wrap ((bits .and .u64 (shr64 m 1) 6148914691236517205) + (bits .and .u64 m 6148914691236517205))) 3689348814741910323))))) 1085102592571150095) 8))) + (shr64 (IntKind.u64.wrap ((bits .and .u64 (IntKind.u64.wrap ((shr64 (IntKind.u64.wrap ((bits .and .u64 (shr64 (IntKind.u64.wrap ((bits .and .u64 (shr64 m 1) 6148914691236517205) + (bits .and .u64 m 6148914691236517205))) 2) 3689348814741910323) + (bits .and .u64 (IntKind.u64.wrap ((bits .and .u64 (shr64 m 1) 6148914691236517205) + (bits .and .u64 m 6148914691236517205))) 3689348814741910323))) 4) + (IntKind.u64.wrap ((bits .and .u64 (shr64 (IntKind.u64.wrap ((bits .and .u64 (shr64 m 1) 6148914691236517205) + (bits .and .u64 m 6148914691236517205))) 2) 3689348814741910323) + (bits .and .u64 (IntKind.u64.wrap ((bits .and .u64 (shr64 m 1) 6148914691236517205) + (bits .and .u64 m 6148914691236517205))) 3689348814741910323))))) 1085102592571150095) + (shr64 (bits .and .u64 (IntKind.u64.wrap ((shr64 (IntKind.u64.wrap ((bits .and .u64 (shr64 (IntKind.u64.wrap ((bits .and .u64 (shr64 m 1) 6148914691236517205) + (bits .and .u64 m 6148914691236517205))) 2) 3689348814741910323) + (bits .and .u64 (IntKind.u64.wrap ((bits .and .u64 (shr64 m 1) 6148914691236517205) + (bits .and .u64 m 6148914691236517205))) 3689348814741910323))) 4) + (IntKind.u64.wrap ((bits .and .u64 (shr64 (IntKind.u64.wrap ((bits .and .u64 (shr64 m 1) 6148914691236517205) + (bits .and .u64 m 6148914691236517205))) 2) 3689348814741910323) + (bits .and .u64 (IntKind.u64.wrap ((bits .and .u64 (shr64 m 1) 6148914691236517205) + (bits .and .u64 m 6148914691236517205))) 3689348814741910323))))) 1085102592571150095) 8))) 16))) + (shr64 (IntKind.u64.wrap ((IntKind.u64.wrap ((bits .and .u64 (IntKind.u64.wrap ((shr64 (IntKind.u64.wrap ((bits .and .u64 (shr64 (IntKind.u64.wrap ((bits .and .u64 (shr64 m 1) 6148914691236517205) + (bits .and .u64 m 6148914691236517205))) 2) 3689348814741910323) + (bits .and .u64 (IntKind.u64.wrap ((bits .and .u64 (shr64 m 1) 6148914691236517205) + (bits .and .u64 m 6148914691236517205))) 3689348814741910323))) 4) + (IntKind.u64.wrap ((bits .and .u64 (shr64 (IntKind.u64.wrap ((bits .and .u64 (shr64 m 1) 6148914691236517205) + (bits .and .u64 m 6148914691236517205))) 2) 3689348814741910323) + (bits .and .u64 (IntKind.u64.wrap ((bits .and .u64 (shr64 m 1) 6148914691236517205) + (bits .and .u64 m 6148914691236517205))) 3689348814741910323))))) 1085102592571150095) + (shr64 (bits .and .u64 (IntKind.u64.wrap ((shr64 (IntKind.u64.wrap ((bits .and .u64 (shr64 (IntKind.u64.wrap ((bits .and .u64 (shr64 m 1) 6148914691236517205) + (bits .and .u64 m 6148914691236517205))) 2) 3689348814741910323) + (bits .and .u64 (IntKind.u64.wrap ((bits .and .u64 (shr64 m 1) 6148914691236517205) + (bits .and .u64 m 6148914691236517205))) 3689348814741910323))) 4) + (IntKind.u64.wrap ((bits .and .u64 (shr64 (IntKind.u64.wrap ((bits .and .u64 (shr64 m 1) 6148914691236517205) + (bits .and .u64 m 6148914691236517205))) 2) 3689348814741910323) + (bits .and .u64 (IntKind.u64.wrap ((bits .and .u64 (shr64 m 1) 6148914691236517205) + (bits .and .u64 m 6148914691236517205))) 3689348814741910323))))) 1085102592571150095) 8))) + (shr64 (IntKind.u64.wrap ((bits .and .u64 (IntKind.u64.wrap ((shr64 (IntKind.u64.wrap ((bits .and .u64 (shr64 (IntKind.u64.wrap ((bits .and .u64 (shr64 m 1) 6148914691236517205) + (bits .and .u64 m 6148914691236517205))) 2) 3689348814741910323) + (bits .and .u64 (IntKind.u64.wrap ((bits .and .u64 (shr64 m 1) 6148914691236517205) + (bits .and .u64 m 6148914691236517205))) 3689348814741910323))) 4) + (IntKind.u64.wrap ((bits .and .u64 (shr64 (IntKind.u64.wrap ((bits .and .u64 (shr64 m 1) 6148914691236517205) + (bits .and .u64 m 6148914691236517205))) 2) 3689348814741910323) + (bits .and .u64 (IntKind.u64.wrap ((bits .and .u64 (shr64 m 1) 6148914691236517205) + (bits .and .u64 m 6148914691236517205))) 3689348814741910323))))) 1085102592571150095) + (shr64 (bits .and .u64 (IntKind.u64.wrap ((shr64 (IntKind.u64.wrap ((bits .and .u64 (shr64 (IntKind.u64.wrap ((bits .and .u64 (shr64 m 1) 6148914691236517205) + (bits .and .u64 m 6148914691236517205))) 2) 3689348814741910323) + (bits .and .u64 (IntKind.u64.wrap ((bits .and .u64 (shr64 m 1) 6148914691236517205) + (bits .and .u64 m 6148914691236517205))) 3689348814741910323))) 4) + (IntKind.u64.wrap ((bits .and .u64 (shr64 (IntKind.u64.wrap ((bits .and .u64 (shr64 m 1) 6148914691236517205) + (bits .and .u64 m 6148914691236517205))) 2) 3689348814741910323) + (bits .and .u64 (IntKind.u64.wrap ((bits .and .u64 (shr64 m 1) 6148914691236517205) + (bits .and .u64 m 6148914691236517205))) 3689348814741910323))))) 1085102592571150095) 8))) 16))) 32))) (by kernel_rfl) (wrap_id (by omega) (by omega)) (by kernel_rfl) ?_)
  exact R.go 3 (R.retE (AI (band (IntKind.u64.wrap ((IntKind.u64.wrap ((IntKind.u64.wrap ((bits .and .u64 (IntKind.u64.wrap ((shr64 (IntKind.u64.wrap ((bits .and .u64 (shr64 (IntKind.u64.wrap ((bits .and .u64 (shr64 m 1) 6148914691236517205) + (bits .and .u64 m 6148914691236517205))) 2) 3689348814741910323) + (bits .and .u64 (IntKind.u64.wrap ((bits .and .u64 (shr64 m 1) 6148914691236517205) + (bits .and .u64 m 6148914691236517205))) 3689348814741910323))) 4) + (IntKind.u64.wrap ((bits .and .u64 (shr64 (IntKind.u64.wrap ((bits .and .u64 (shr64 m 1) 6148914691236517205) + (bits .and .u64 m 6148914691236517205))) 2) 3689348814741910323) + (bits .and .u64 (IntKind.u64.wrap ((bits .and .u64 (shr64 m 1) 6148914691236517205) + (bits .and .u64 m 6148914691236517205))) 3689348814741910323))))) 1085102592571150095) + (shr64 (bits .and .u64 (IntKind.u64.wrap ((shr64 (IntKind.u64.wrap ((bits .and .u64 (shr64 (IntKind.u64.wrap ((bits .and .u64 (shr64 m 1) 6148914691236517205) + (bits .and .u64 m 6148914691236517205))) 2) 3689348814741910323) + (bits .and .u64 (IntKind.u64.wrap ((bits .and .u64 (shr64 m 1) 6148914691236517205) + (bits .and .u64 m 6148914691236517205))) 3689348814741910323))) 4) + (IntKind.u64.wrap ((bits .and .u64 (shr64 (IntKind.u64.wrap ((bits .and .u64 (shr64 m 1) 6148914691236517205) + (bits .and .u64 m 6148914691236517205))) 2) 3689348814741910323) + (bits .and .u64 (IntKind.u64.wrap ((bits .and .u64 (shr64 m 1) 6148914691236517205) + (bits .and .u64 m 6148914691236517205))) 3689348814741910323))))) 1085102592571150095) 8))) + (shr64 (IntKind.u64.wrap ((bits .and .u64 (IntKind.u64.wrap ((shr64 (IntKind.u64.wrap ((bits .and .u64 (shr64 (IntKind.u64.wrap ((bits .and .u64 (shr64 m 1) 6148914691236517205) + (bits .and .u64 m 6148914691236517205))) 2) 3689348814741910323) + (bits .and .u64 (IntKind.u64.wrap ((bits .and .u64 (shr64 m 1) 6148914691236517205) + (bits .and .u64 m 6148914691236517205))) 3689348814741910323))) 4) + (IntKind.u64.wrap ((bits .and .u64 (shr64 (IntKind.u64.wrap ((bits .and .u64 (shr64 m 1) 6148914691236517205) + (bits .and .u64 m 6148914691236517205))) 2) 3689348814741910323) + (bits .and .u64 (IntKind.u64.wrap ((bits .and .u64 (shr64 m 1) 6148914691236517205) + (bits .and .u64 m 6148914691236517205))) 3689348814741910323))))) 1085102592571150095) + (shr64 (bits .and .u64 (IntKind.u64.wrap ((shr64 (IntKind.u64.wrap ((bits .and .u64 (shr64 (IntKind.u64.wrap ((bits .and .u64 (shr64 m 1) 6148914691236517205) + (bits .and .u64 m 6148914691236517205))) 2) 3689348814741910323) + (bits .and .u64 (IntKind.u64.wrap ((bits .and .u64 (shr64 m 1) 6148914691236517205) + (bits .and .u64 m 6148914691236517205))) 3689348814741910323))) 4) + (IntKind.u64.wrap ((bits .and .u64 (shr64 (IntKind.u64.wrap ((bits .and .u64 (shr64 m 1) 6148914691236517205) + (bits .and .u64 m 6148914691236517205))) 2) 3689348814741910323) + (bits .and .u64 (IntKind.u64.wrap ((bits .and .u64 (shr64 m 1) 6148914691236517205) + (bits .and .u64 m 6148914691236517205))) 3689348814741910323))))) 1085102592571150095) 8))) 16))) + (shr64 (IntKind.u64.wrap ((IntKind.u64.wrap ((bits .and .u64 (IntKind.u64.wrap ((shr64 (IntKind.u64.wrap ((bits .and .u64 (shr64 (IntKind.u64.wrap ((bits .and .u64 (shr64 m 1) 6148914691236517205) + (bits .and .u64 m 6148914691236517205))) 2) 3689348814741910323) + (bits .and .u64 (IntKind.u64.wrap ((bits .and .u64 (shr64 m 1) 6148914691236517205) + (bits .and .u64 m 6148914691236517205))) 3689348814741910323))) 4) + (IntKind.u64.wrap ((bits .and .u64 (shr64 (IntKind.u64.wrap ((bits .and .u64 (shr64 m 1) 6148914691236517205) + (bits .and .u64 m 6148914691236517205))) 2) 3689348814741910323) + (bits .and .u64 (IntKind.u64.wrap ((bits .and .u64 (shr64 m 1) 6148914691236517205) + (bits .and .u64 m 6148914691236517205))) 3689348814741910323))))) 1085102592571150095) + (shr64 (bits .and .u64 (IntKind.u64.wrap ((shr64 (IntKind.u64.wrap ((bits .and .u64 (shr64 (IntKind.u64.wrap ((bits .and .u64 (shr64 m 1) 6148914691236517205) + (bits .and .u64 m 6148914691236517205))) 2) 3689348814741910323) + (bits .and .u64 (IntKind.u64.wrap ((bits .and .u64 (shr64 m 1) 6148914691236517205) + (bits .and .u64 m 6148914691236517205))) 3689348814741910323))) 4) + (IntKind.u64.wrap ((bits .and .u64 (shr64 (IntKind.u64.wrap ((bits .and .u64 (shr64 m 1) 6148914691236517205) + (bits .and .u64 m 6148914691236517205))) 2) 3689348814741910323) + (bits .and .u64 (IntKind.u64.wrap ((bits .and .u64 (shr64 m 1) 6148914691236517205) + (bits .and .u64 m 6148914691236517205))) 3689348814741910323))))) 1085102592571150095) 8))) + (shr64 (IntKind.u64.wrap ((bits .and .u64 (IntKind.u64.wrap ((shr64 (IntKind.u64.wrap ((bits .and .u64 (shr64 (IntKind.u64.wrap ((bits .and .u64 (shr64 m 1) 6148914691236517205) + (bits .and .u64 m 6148914691236517205))) 2) 3689348814741910323) + (bits .and .u64 (IntKind.u64.wrap ((bits .and .u64 (shr64 m 1) 6148914691236517205) + (bits .and .u64 m 6148914691236517205))) 3689348814741910323))) 4) + (IntKind.u64.wrap ((bits .and .u64 (shr64 (IntKind.u64.wrap ((bits .and .u64 (shr64 m 1) 6148914691236517205) + (bits .and .u64 m 6148914691236517205))) 2) 3689348814741910323) + (bits .and .u64 (IntKind.u64.wrap ((bits .and .u64 (shr64 m 1) 6148914691236517205) + (bits .and .u64 m 6148914691236517205))) 3689348814741910323))))) 1085102592571150095) + (shr64 (bits .and .u64 (IntKind.u64.wrap ((shr64 (IntKind.u64.wrap ((bits .and .u64 (shr64 (IntKind.u64.wrap ((bits .and .u64 (shr64 m 1) 6148914691236517205) + (bits .and .u64 m 6148914691236517205))) 2) 3689348814741910323) + (bits .and .u64 (IntKind.u64.wrap ((bits .and .u64 (shr64 m 1) 6148914691236517205) + (bits .and .u64 m 6148914691236517205))) 3689348814741910323))) 4) + (IntKind.u64.wrap ((bits .and .u64 (shr64 (IntKind.u64.wrap ((bits .and .u64 (shr64 m 1) 6148914691236517205) + (bits .and .u64 m 6148914691236517205))) 2) 3689348814741910323) + (bits .and .u64 (IntKind.u64.wrap ((bits .and .u64 (shr64 m 1) 6148914691236517205) + (bits .and .u64 m 6148914691236517205))) 3689348814741910323))))) 1085102592571150095) 8))) 16))) 32))) 127)) (by kernel_rfl) (by kernel_rfl) (by first | (apply congrArg AI; exact ones_tab h0 h1) | (exfalso; omega)))

theorem countM_c (m : Int) (h0 : 0 ≤ m) (h1 : m ≤ 255) : CallA Try.prog 72 [AI m] (AI ((mem m).length : Int)) := by
  refine CallA.of Try.func72 rfl (by kernel_rfl) ?_
  refine R.go 7 (R.cv .u64 m (by kernel_rfl) (u64_id (by omega) (by omega)) (by kernel_rfl) ?_)
  refine R.call true (ones_c m h0 h1) (by kernel_rfl) rfl (by kernel_rfl) ?_
  exact R.go 2 (R.retE (AI ((mem m).length : Int)) (by kernel_rfl) (by kernel_rfl) (by rfl))

/-! All parts of a mask. -/
def nxS (x s : Int) : Int := band (s - x) x
def subF (x : Int) : Nat → Int → List Int
  | 0, _ => []
  | f + 1, s => s :: (if s = x then [] else subF x f (nxS x s))
def subL (x : Int) : List Int := subF x 257 0
def chS (x : Int) : Nat → Int → Bool
  | 0, _ => false
  | f + 1, s => decide (0 ≤ s ∧ s ≤ x) && (if s = x then true else decide (s < nxS x s) && chS x f (nxS x s))
theorem chTab : ∀ x : Fin 256, chS (x.val : Int) 257 0 = true := by decide +kernel
theorem subTab : ∀ x : Fin 256, subL (x.val : Int) = ((List.range 256).filter fun m => decide (m &&& x.val = m)).map fun m : Nat => (m : Int) := by decide +kernel
theorem ch_start {x : Int} (h0 : 0 ≤ x) (h1 : x ≤ 255) : chS x 257 0 = true := by
  obtain ⟨q, rfl⟩ := Int.eq_ofNat_of_zero_le h0
  exact chTab ⟨q, by omega⟩
theorem ch_rng {x s : Int} {f : Nat} (h : chS x (f + 1) s = true) : 0 ≤ s ∧ s ≤ x := by
  rw [chS, Bool.and_eq_true, decide_eq_true_eq] at h
  exact h.1
theorem ch_next {x s : Int} {f : Nat} (h : chS x (f + 1) s = true) (hs : ¬ s = x) : chS x f (nxS x s) = true := by
  rw [chS, Bool.and_eq_true, if_neg hs, Bool.and_eq_true] at h
  exact h.2.2
theorem ch_pos {x s : Int} {f : Nat} (h : chS x f s = true) : 1 ≤ f := by
  cases f with
  | zero => cases h
  | succ f => omega
theorem sub_step {x s : Int} {f : Nat} {out L : List Int} (h : out ++ (if s = x then [] else subF x f (nxS x s)) = L) (hs : ¬ s = x) (hf : 1 ≤ f) : (out ++ [nxS x s]) ++ (if nxS x s = x then [] else subF x (f - 1) (nxS x (nxS x s))) = L := by
  obtain ⟨g, rfl⟩ : ∃ g, f = g + 1 := ⟨f - 1, by omega⟩
  rw [if_neg hs, subF] at h
  rw [List.append_assoc]
  exact h
theorem sub_len {x : Int} (h0 : 0 ≤ x) (h1 : x ≤ 255) : (subL x).length ≤ 256 := by
  obtain ⟨q, rfl⟩ := Int.eq_ofNat_of_zero_le h0
  have := subTab ⟨q, by omega⟩
  simp only at this
  have h2 := List.length_filter_le (fun m => decide (m &&& q = m)) (List.range 256)
  rw [this, List.length_map]
  simpa using h2
theorem sub_mem {x m : Int} (hx : InM 8 x) : m ∈ subL x ↔ InM 8 m ∧ ∀ k, tb m k = true → tb x k = true := by
  obtain ⟨q, rfl, hq⟩ := inM_nat hx
  have hq : q < 256 := hq
  have ht := subTab ⟨q, hq⟩
  simp only at ht
  rw [ht, List.mem_map]
  constructor
  · rintro ⟨p, hp, rfl⟩
    rw [List.mem_filter, List.mem_range, decide_eq_true_eq] at hp
    refine ⟨⟨Int.natCast_nonneg _, by simpa using hp.1⟩, fun k hk => ?_⟩
    have hk : p.testBit k = true := hk
    show q.testBit k = true
    rw [← hp.2, Nat.testBit_and, Bool.and_eq_true] at hk
    exact hk.2
  · rintro ⟨hm, h⟩
    obtain ⟨p, rfl, hp⟩ := inM_nat hm
    refine ⟨p, ?_, rfl⟩
    rw [List.mem_filter, List.mem_range, decide_eq_true_eq]
    refine ⟨hp, Nat.eq_of_testBit_eq fun k => ?_⟩
    rw [Nat.testBit_and]
    cases e : p.testBit k with
    | false => rfl
    | true =>
      have : q.testBit k = true := h k e
      rw [this]; rfl

theorem subM_c (m : Int) (h0 : 0 ≤ m) (h1 : m ≤ 255) : CallA Try.prog 34 [AI m] (ownA eI 2 1 (subL m)) := by
  refine CallA.of Try.func34 rfl (by kernel_rfl) ?_
  refine R.go 15 (R.loop ((fun | (f, sb, out) => (⟨(frm 19 [(0, AI m), (3, .ref 0), (4, AI sb)]), [rowA eI 2 1 out]⟩ : St) : Nat × Int × (List Int) → St)) (fun | (f, sb, out) => (chS m (f + 1) sb = true) ∧ (out ++ (if sb = m then [] else subF m f (nxS m sb)) = subL m)) (fun | (f, sb, out) => f) (256, 0, [0]) [0, 3, 4] none (by kernel_rfl) (by kernel_rfl) (by kernel_rfl) ⟨(by exact ch_start h0 h1), (by rfl)⟩ ?_)
  rintro ⟨f, sb, out⟩ ⟨h4_1, h4_2⟩ R1 N2
  have hol := congrArg List.length ‹out ++ _ = subL m›
  rw [List.length_append] at hol
  have hsl := sub_len h0 h1
  have hcr := ch_rng ‹chS m (f + 1) sb = true›
  have hcn := fun h : ¬ sb = m => ch_next ‹chS m (f + 1) sb = true› h
  have hcp := fun h : ¬ sb = m => ch_pos (hcn h)
  have hst := fun h : ¬ sb = m => sub_step ‹out ++ _ = subL m› h (hcp h)
  refine R.go 7 (R.condN (sb = m) (by kernel_rfl) (fun c5 => ?_) (fun c5 => ?_))
  · refine R.go 6 (R.ar (sb - m) (by kernel_rfl) (by omega) (by omega) (by kernel_rfl) ?_)
    refine R.go 8 (R.app eI out [band (sb - m) m] 0 2 1 8 (by kernel_rfl) eI_one (by decide) (by first | omega | (simp <;> omega)) (by kernel_rfl) ?_)
    exact R.go 3 (R.stop R1 (by kernel_rfl) (N2 ((f - 1), band (sb - m) m, out ++ [band (sb - m) m]) [0, 3, 4] (some [0]) _ (by kernel_rfl) (by kernel_rfl) ⟨(by rw [show f - 1 + 1 = f by have := hcp (by assumption); omega]; exact hcn (by assumption)), (by exact hst (by assumption))⟩ (by show (f - 1) < f; omega)))
  · exact R.go 6 (R.retE (ownA eI 2 1 out) (by kernel_rfl) (by kernel_rfl) (by first | (rw [← ‹out ++ _ = subL m›, if_pos (by omega), List.append_nil]) | (exfalso; omega)))

end Go.Proofs.Ytogehjciaamcfaa


/-! Widths; contracts of shapes. -/
namespace Go.Proofs.Ytogehjciaamcfaa
open Go.RowKit Go.Abs

theorem len_le {α : Type} : ∀ {l m : List α}, l.Nodup → (∀ x ∈ l, x ∈ m) → l.length ≤ m.length
  | [], _, _, _ => Nat.zero_le _
  | x :: l, m, hn, h => by
    obtain ⟨a, b, rfl⟩ := List.append_of_mem (h x (List.mem_cons_self ..))
    rw [List.nodup_cons] at hn
    have := len_le (l := l) (m := a ++ b) hn.2 fun y hy => by
      have := h y (List.mem_cons_of_mem _ hy)
      rcases List.mem_append.1 this with h1 | h1
      · exact List.mem_append.2 (.inl h1)
      · rcases List.mem_cons.1 h1 with rfl | h1
        · exact absurd hy hn.1
        · exact List.mem_append.2 (.inr h1)
    simp only [List.length_cons, List.length_append] at this ⊢
    omega
theorem nodup_map {α β : Type} {f : α → β} : ∀ {l : List α}, l.Nodup → (∀ x ∈ l, ∀ y ∈ l, f x = f y → x = y) → (l.map f).Nodup
  | [], _, _ => List.nodup_nil
  | x :: l, hn, h => by
    rw [List.nodup_cons] at hn
    rw [List.map_cons, List.nodup_cons]
    refine ⟨fun hm => ?_, nodup_map hn.2 fun y hy z hz => h y (List.mem_cons_of_mem _ hy) z (List.mem_cons_of_mem _ hz)⟩
    obtain ⟨y, hy, e⟩ := List.mem_map.1 hm
    rw [h y (List.mem_cons_of_mem _ hy) x (List.mem_cons_self ..) e] at hy
    exact hn.1 hy
theorem len_inj {α β : Type} {f : α → β} {l : List α} {m : List β} (hn : l.Nodup) (hi : ∀ x ∈ l, ∀ y ∈ l, f x = f y → x = y) (hm : ∀ x ∈ l, f x ∈ m) : l.length ≤ m.length := by
  have := len_le (nodup_map hn hi) (m := m) fun y hy => by
    obtain ⟨x, hx, rfl⟩ := List.mem_map.1 hy
    exact hm x hx
  rwa [List.length_map] at this

/-- The mask of what has a property. -/
def mkM (p : Nat → Bool) : Nat → Int
  | 0 => 0
  | i + 1 => if p i = true then bor (mkM p i) (shl64 1 (i : Int)) else mkM p i
theorem mkM_ok {p : Nat → Bool} {N : Nat} (hN : N ≤ 61) : ∀ i, i ≤ N → InM N (mkM p i) ∧ ∀ k, tb (mkM p i) k = true ↔ k < i ∧ p k = true
  | 0, _ => ⟨inM_zero _, fun k => by simp [mkM, tb_zero]⟩
  | i + 1, h => by
    obtain ⟨h1, h2⟩ := mkM_ok (p := p) hN i (by omega)
    have ho := inM_one (n := N) (i := i) hN (by omega)
    by_cases hp : p i = true
    · rw [mkM, if_pos hp]
      refine ⟨inM_bor hN h1 ho, fun k => ?_⟩
      rw [tb_bor hN h1 ho, Bool.or_eq_true, h2, tb_one (by omega), decide_eq_true_iff]
      constructor
      · rintro (⟨a, b⟩ | rfl)
        · exact ⟨by omega, b⟩
        · exact ⟨by omega, hp⟩
      · rintro ⟨a, b⟩
        by_cases e : k = i
        · exact .inr e.symm
        · exact .inl ⟨by omega, b⟩
    · rw [mkM, if_neg hp]
      refine ⟨h1, fun k => ?_⟩
      rw [h2]
      constructor
      · rintro ⟨a, b⟩; exact ⟨by omega, b⟩
      · rintro ⟨a, b⟩
        by_cases e : k = i
        · subst e; exact absurd b hp
        · exact ⟨by omega, b⟩

def elS (xs : List Int) (j t : Nat) : Int := (subL (xs.getD j 0)).getD t 0
def wdR (xs : List Int) (i k j t : Nat) : Prop := j < i ∧ t < (subL (xs.getD j 0)).length ∨ j = i ∧ t < k
/-- The greatest of the antichains that were seen. -/
def wdS (n : Int) (xs : List Int) (i k : Nat) (w : Int) : Prop := (∀ j t, wdR xs i k j t → antB n xs (elS xs j t) = true → ((mem (elS xs j t)).length : Int) ≤ w) ∧ (w = 0 ∨ ∃ j t, wdR xs i k j t ∧ antB n xs (elS xs j t) = true ∧ ((mem (elS xs j t)).length : Int) = w) ∧ 0 ≤ w
section
variable {n : Int} {xs : List Int} {i k : Nat} {w : Int}
theorem wd_start : wdS n xs 0 0 0 := ⟨fun j t h => by unfold wdR at h; omega, .inl rfl, Int.le_refl 0⟩
theorem wd_no (h : wdS n xs i k w) (ha : antB n xs (elS xs i k) = false) : wdS n xs i (k + 1) w := by
  obtain ⟨h1, h2, h3⟩ := h
  refine ⟨fun j t hr hb => ?_, ?_, h3⟩
  · by_cases e : j = i ∧ t = k
    · rw [e.1, e.2, ha] at hb; cases hb
    · exact h1 j t (by unfold wdR at hr ⊢; omega) hb
  · rcases h2 with h | ⟨j, t, h4, h5⟩
    · exact .inl h
    · exact .inr ⟨j, t, by unfold wdR at h4 ⊢; omega, h5⟩
theorem wd_yes {w' : Int} (h : wdS n xs i k w) (ha : antB n xs (elS xs i k) = true) (hw : w' = if ((mem (elS xs i k)).length : Int) > w then ((mem (elS xs i k)).length : Int) else w) : wdS n xs i (k + 1) w' := by
  obtain ⟨h1, h2, h3⟩ := h
  have hb : w ≤ w' ∧ ((mem (elS xs i k)).length : Int) ≤ w' ∧ (w' = w ∨ w' = ((mem (elS xs i k)).length : Int)) := by
    rw [hw]; split <;> omega
  refine ⟨fun j t hr hq => ?_, ?_, by omega⟩
  · by_cases e : j = i ∧ t = k
    · rw [e.1, e.2]; exact hb.2.1
    · have := h1 j t (by unfold wdR at hr ⊢; omega) hq; omega
  · rcases hb.2.2 with e | e
    · rcases h2 with h | ⟨j, t, h4, h5, h6⟩
      · exact .inl (by omega)
      · exact .inr ⟨j, t, by unfold wdR at h4 ⊢; omega, h5, by omega⟩
    · exact .inr ⟨i, k, .inr ⟨rfl, by omega⟩, ha, e.symm⟩
theorem wd_next (h : wdS n xs i k w) (hk : k = (subL (xs.getD i 0)).length) : wdS n xs (i + 1) 0 w := by
  obtain ⟨h1, h2, h3⟩ := h
  have hr : ∀ j t, wdR xs (i + 1) 0 j t ↔ wdR xs i k j t := fun j t => by
    unfold wdR
    constructor
    · rintro (⟨a, b⟩ | ⟨a, b⟩)
      · by_cases e : j = i
        · subst e; exact .inr ⟨rfl, by omega⟩
        · exact .inl ⟨by omega, b⟩
      · omega
    · rintro (⟨a, b⟩ | ⟨a, b⟩)
      · exact .inl ⟨by omega, b⟩
      · subst a; exact .inl ⟨by omega, by omega⟩
  exact ⟨fun j t h => h1 j t ((hr j t).1 h), h2.elim .inl fun ⟨j, t, a, b⟩ => .inr ⟨j, t, (hr j t).2 a, b⟩, h3⟩
end
theorem mem_len_le {s s' : Int} {N : Nat} (hN : N ≤ 61) (hs : InM N s) (hs' : InM N s') (f : Nat → Nat) (hi : ∀ i j, tb s i = true → tb s j = true → f i = f j → i = j) (hf : ∀ i, tb s i = true → tb s' (f i) = true) : (mem s).length ≤ (mem s').length := by
  have hb : ∀ v ∈ mem s, 0 ≤ v ∧ tb s v.toNat = true := fun v hv => by
    have h1 := mem_lt (N := N) hN hs v hv
    exact ⟨h1.1, (mem_iff (N := N) hN hs).1 (by rw [show ((v.toNat : Nat) : Int) = v by omega]; exact hv)⟩
  refine len_inj (f := fun v => ((f v.toNat : Nat) : Int)) (memN_nodup s 62) (fun a ha b hb2 e => ?_) (fun a ha => ?_)
  · have h1 := hb a ha
    have h2 := hb b hb2
    have e2 : ((f a.toNat : Nat) : Int) = ((f b.toNat : Nat) : Int) := e
    have := hi _ _ h1.2 h2.2 (by omega)
    omega
  · exact (mem_iff (N := N) hN hs').2 (hf _ (hb a ha).2)
theorem an_bits {n : Int} {xs : List Int} (hP : okPo n xs = true) {m : Int} (hm : InM n.toNat m) : antB n xs m = true ↔ ∀ i j : Nat, tb m i = true → tb m j = true → tb (xs.getD i 0) j = true → i = j := by
  obtain ⟨h0, h8, hl, hr, rf, _⟩ := po_rel hP
  rw [antB_iff]
  constructor
  · intro c i j h1 h2 h3
    have hi := tb_lt hm h1
    have e := c i hi h1
    have hb := tb_band (n := n.toNat) (by omega) (hr.2 i hi) hm j
    rw [e, tb_one (by omega), h2, h3] at hb
    simpa using hb
  · intro h i hi h1
    refine bits_eq (inM_band (by omega) (hr.2 i hi) hm) (inM_one (by omega) hi) fun k hk => ?_
    rw [tb_band (by omega) (hr.2 i hi) hm, Bool.and_eq_true, tb_one (by omega), decide_eq_true_iff]
    constructor
    · rintro ⟨h2, h3⟩; exact h i k h1 h3 h2
    · rintro rfl; exact ⟨rf i hi, h1⟩
theorem inM_of_bits {N K : Nat} {s : Int} (h : InM K s) (hb : ∀ k, tb s k = true → k < N) : InM N s := by
  obtain ⟨p, rfl, hp⟩ := inM_nat h
  refine ⟨Int.natCast_nonneg _, ?_⟩
  rw [Int.toNat_natCast]
  refine Nat.lt_of_not_le fun hle => ?_
  obtain ⟨k, k1, k2⟩ := Nat.exists_ge_and_testBit_of_ge_two_pow hle
  exact absurd (hb k k2) (by omega)
theorem inM_255 {m : Int} (h : InM 8 m) : 0 ≤ m ∧ m ≤ 255 := by
  obtain ⟨p, rfl, hp⟩ := inM_nat h
  have : p < 256 := hp
  omega
theorem sub_el {x : Int} {k : Nat} (hx : InM 8 x) (hk : k < (subL x).length) : InM 8 ((subL x).getD k 0) ∧ ∀ q, tb ((subL x).getD k 0) q = true → tb x q = true := by
  refine (sub_mem hx).1 ?_
  rw [List.getD_eq_getElem?_getD, List.getElem?_eq_getElem hk]
  exact List.getElem_mem hk
/-- The width by sets. -/
theorem wd_sets {n w : Int} {xs : List Int} (hP : okPo n xs = true) (h : wdS n xs xs.length 0 w) : (∀ (j : Nat) (s : Int), j < n.toNat → InM n.toNat s → (∀ k, tb s k = true → tb (xs.getD j 0) k = true) → (∀ a b : Nat, tb s a = true → tb s b = true → tb (xs.getD a 0) b = true → a = b) → ((mem s).length : Int) ≤ w) ∧ (w = 0 ∨ ∃ (j : Nat) (s : Int), j < n.toNat ∧ InM n.toNat s ∧ (∀ k, tb s k = true → tb (xs.getD j 0) k = true) ∧ (∀ a b : Nat, tb s a = true → tb s b = true → tb (xs.getD a 0) b = true → a = b) ∧ ((mem s).length : Int) = w) ∧ 0 ≤ w := by
  obtain ⟨h0, h8, hl, hr, rf, _⟩ := po_rel hP
  have h8x : ∀ j, j < n.toNat → InM 8 (xs.getD j 0) := fun j hj => inM_mono (n' := 8) (by omega) (hr.2 j hj)
  obtain ⟨h1, h2, h3⟩ := h
  refine ⟨fun j s hj hs hsub han => ?_, ?_, h3⟩
  · obtain ⟨t, ht, e⟩ := List.getElem_of_mem ((sub_mem (h8x j hj)).2 ⟨inM_mono (n' := 8) (by omega) hs, hsub⟩)
    have ee : elS xs j t = s := by rw [elS, List.getD_eq_getElem?_getD, List.getElem?_eq_getElem ht, e]; rfl
    have := h1 j t (.inl ⟨by omega, ht⟩) (by rw [ee]; exact (an_bits hP hs).2 han)
    rwa [ee] at this
  · rcases h2 with h | ⟨j, t, hr1, hb, hc⟩
    · exact .inl h
    · unfold wdR at hr1
      have hj : j < n.toNat := by omega
      have ht : t < (subL (xs.getD j 0)).length := by omega
      obtain ⟨m1, m2⟩ := sub_el (h8x j hj) ht
      have hs : InM n.toNat (elS xs j t) := inM_of_bits m1 fun k hk => tb_lt (hr.2 j hj) (m2 k hk)
      exact .inr ⟨j, elS xs j t, hj, hs, m2, (an_bits hP hs).1 hb, hc⟩
/-- The width of two posets side by side. -/
theorem wd_sum {n m w1 w2 w3 : Int} {xs ys : List Int} (hP : okPo n xs = true) (hQ : okPo m ys = true) (h8 : n + m ≤ 8) (h1 : wdS n xs xs.length 0 w1) (h2 : wdS m ys ys.length 0 w2) (h3 : wdS (n + m) (smL n xs ys) (smL n xs ys).length 0 w3) : w3 = if w2 > w1 then w2 else w1 := by
  obtain ⟨p0, p8, _, hr, _⟩ := po_rel hP
  obtain ⟨q0, q8, _, hs, _⟩ := po_rel hQ
  have hU := sm_po hP hQ h8
  obtain ⟨a1, a2, a3⟩ := wd_sets hP h1
  obtain ⟨b1, b2, b3⟩ := wd_sets hQ h2
  obtain ⟨c1, c2, c3⟩ := wd_sets hU h3
  have g1 : w1 ≤ w3 := by
    rcases a2 with h | ⟨j, s, j1, s1, s2, s3, s4⟩
    · omega
    · rw [← s4]
      refine c1 j s (by omega) (inM_mono (n' := (n + m).toNat) (by omega) s1) (fun k hk => ((sm_bits1 hP hQ h8 j1).2 k).2 (s2 k hk)) fun a b ha hb hab => ?_
      have han := tb_lt s1 ha
      exact s3 a b ha hb (((sm_bits1 hP hQ h8 han).2 b).1 hab)
  have g2 : w2 ≤ w3 := by
    rcases b2 with h | ⟨j, s, j1, s1, s2, s3, s4⟩
    · omega
    · obtain ⟨t1, t2⟩ := sh_bits hP hQ h8 s1
      have hc := c1 (n.toNat + j) (shl64 s n) (by omega) t1 (fun k hk => ?_) fun a b ha hb hab => ?_
      · have := mem_len_le (N := (n + m).toNat) (by omega) (inM_mono (n' := (n + m).toNat) (by omega) s1) t1 (fun i => n.toNat + i) (fun i j _ _ e => by omega) (fun i hi => (t2 _).2 ⟨by omega, by rw [Nat.add_sub_cancel_left]; exact hi⟩)
        omega
      · obtain ⟨k1, k2⟩ := (t2 k).1 hk
        exact ((sm_bits2 hP hQ h8 j1).2 k).2 ⟨k1, s2 _ k2⟩
      · obtain ⟨u1, u2⟩ := (t2 a).1 ha
        obtain ⟨v1, v2⟩ := (t2 b).1 hb
        have hlt := tb_lt s1 u2
        have e : a = n.toNat + (a - n.toNat) := by omega
        rw [e] at hab
        have := s3 _ _ u2 v2 (((sm_bits2 hP hQ h8 hlt).2 b).1 hab).2
        omega
  have g3 : w3 ≤ w1 ∨ w3 ≤ w2 := by
    rcases c2 with h | ⟨j, s, j1, s1, s2, s3, s4⟩
    · omega
    · rcases nm_split hP hQ j1 with hj | ⟨j', hj, rfl⟩
      · refine .inl ?_
        rw [← s4]
        have hsub : ∀ k, tb s k = true → tb (xs.getD j 0) k = true := fun k hk => ((sm_bits1 hP hQ h8 hj).2 k).1 (s2 k hk)
        have hsn : InM n.toNat s := inM_of_bits s1 fun k hk => tb_lt (hr.2 j hj) (hsub k hk)
        refine a1 j s hj hsn hsub fun a b ha hb hab => s3 a b ha hb (((sm_bits1 hP hQ h8 (tb_lt hsn ha)).2 b).2 hab)
      · refine .inr ?_
        have hsub : ∀ k, tb s k = true → n.toNat ≤ k ∧ tb (ys.getD j' 0) (k - n.toNat) = true := fun k hk => ((sm_bits2 hP hQ h8 hj).2 k).1 (s2 k hk)
        obtain ⟨t1, t2⟩ := mkM_ok (p := fun k => tb s (n.toNat + k)) (N := m.toNat) (by omega) m.toNat (Nat.le_refl _)
        have hle := mem_len_le (N := (n + m).toNat) (by omega) s1 (inM_mono (n' := (n + m).toNat) (by omega) t1) (fun i => i - n.toNat) (fun i j hi hj e => by have := (hsub i hi).1; have := (hsub j hj).1; omega) (fun i hi => by
          have h5 := hsub i hi
          exact (t2 _).2 ⟨tb_lt (hs.2 j' hj) h5.2, by rw [show n.toNat + (i - n.toNat) = i by omega]; exact hi⟩)
        have := b1 j' _ hj t1 (fun k hk => by
          have h5 := (hsub _ ((t2 k).1 hk).2).2
          rwa [Nat.add_sub_cancel_left] at h5) fun a b ha hb hab => by
            obtain ⟨u1, u2⟩ := (t2 a).1 ha
            obtain ⟨v1, v2⟩ := (t2 b).1 hb
            have := s3 _ _ u2 v2 (((sm_bits2 hP hQ h8 u1).2 _).2 ⟨by omega, by rw [Nat.add_sub_cancel_left]; exact hab⟩)
            omega
        omega
  split <;> omega

theorem depthsP_c (n : Int) (xs : List Int) (hP : okPo n xs = true) : CallA Try.prog 47 [.agg [AI n, LI xs]] (ownA eI 2 1 (depI n xs)) := by
  have hF : okFr n xs = true := okPo_fr hP
  have hbr := okFr_rel hF
  have hb : 0 ≤ n ∧ n ≤ 8 ∧ (xs.length : Int) = n := ⟨hbr.1, hbr.2.1, hbr.2.2.1⟩
  refine CallA.of Try.func47 rfl (by kernel_rfl) ?_
  refine R.go 8 (R.call true (pFrame_c n xs (by first | assumption | exact okPo_fr (by assumption) | omega)) (by kernel_rfl) rfl (by kernel_rfl) ?_)
  refine R.call true (worldD_c n xs hF) (by kernel_rfl) rfl (by kernel_rfl) ?_
  exact R.go 2 (R.retE (ownA eI 2 1 (depI n xs)) (by kernel_rfl) (by kernel_rfl) (by rfl))

theorem DE_impl (n : Int) (xs : List Int) (hP : okPo n xs = true) : CallA Try.prog 22 [.agg [AI n, LI xs]] (.tup [ownA eI 2 1 (depI n xs), AI 0]) := by
  have hF : okFr n xs = true := okPo_fr hP
  have hbr := okFr_rel hF
  have hb : 0 ≤ n ∧ n ≤ 8 ∧ (xs.length : Int) = n := ⟨hbr.1, hbr.2.1, hbr.2.2.1⟩
  refine CallA.of Try.func22 rfl (by kernel_rfl) ?_
  refine R.go 10 (R.call true (isPoset_c n xs (by first | omega | (simp <;> omega))) (by kernel_rfl) rfl (by kernel_rfl) ?_)
  refine R.go 2 (R.els (!(okPo n xs)) (by kernel_rfl) (bnF hP) ?_)
  refine R.go 4 (R.call true (depthsP_c n xs hP) (by kernel_rfl) rfl (by kernel_rfl) ?_)
  exact R.go 3 (R.retE (.tup [ownA eI 2 1 (depI n xs), AI 0]) (by kernel_rfl) (by kernel_rfl) (by rfl))

theorem summed0_c (n : Int) (xs : List Int) (m : Int) (ys : List Int) (hP : okPo n xs = true) (hQ : okPo m ys = true) : CallA Try.prog 44 [.agg [AI n, LI xs], .agg [AI m, LI ys], AI 0] (.tup [.agg [AI (smN n m), ownA eI 2 1 (smR n xs m ys)], AI (smC n m)]) := by
  have hRp : okFr n xs = true := okPo_fr hP
  have hp1 := okFr_rel hRp
  have hq1 := okFr_rel (okPo_fr hQ)
  have hb : 0 ≤ n ∧ n ≤ 8 ∧ (xs.length : Int) = n ∧ 0 ≤ m ∧ m ≤ 8 ∧ (ys.length : Int) = m := ⟨hp1.1, hp1.2.1, hp1.2.2.1, hq1.1, hq1.2.1, hq1.2.2.1⟩
  refine CallA.of Try.func44 rfl (by kernel_rfl) ?_
  refine R.go 12 (R.call true (isPoset_c n xs (by first | omega | (simp <;> omega))) (by kernel_rfl) rfl (by kernel_rfl) ?_)
  refine R.go 2 (R.want (!(okPo n xs)) false (by kernel_rfl) (bnF hP) ?_)
  refine R.go 1 (R.want (!(okPo n xs)) false (by kernel_rfl) (bnF hP) ?_)
  refine R.call true (isPoset_c m ys (by first | omega | (simp <;> omega))) (by kernel_rfl) rfl (by kernel_rfl) ?_
  refine R.want (!(okPo n xs)) false (by kernel_rfl) (bnF hP) ?_
  refine R.go 1 (R.pick (!(okPo n xs)) false (by kernel_rfl) (bnF hP) (by kernel_rfl) ?_)
  refine R.go 2 (R.els (!(okPo m ys)) (by kernel_rfl) (bnF hQ) ?_)
  refine R.go 6 (R.ar (n + m) (by kernel_rfl) (by omega) (by omega) (by kernel_rfl) ?_)
  refine R.go 3 (R.cond ((n + m) > 8) (by kernel_rfl) (fun c1 => ?_) (fun c1 => ?_))
  · refine R.go 6 (R.nilB 2 1 2 1 (by kernel_rfl) ?_)
    exact R.retE (.tup [.agg [AI 0, ownA eI 2 1 []], AI 3]) (by kernel_rfl) (by kernel_rfl) (by first | (first | exact sm_3 (by assumption) | exact sm_0 (by assumption) (by rw [hol2]; omega) (smY_end (by omega)) | exact absurd (hP.symm.trans (by assumption : _ = false)) (by decide) | exact absurd (hQ.symm.trans (by assumption : _ = false)) (by decide)) | (exfalso; omega))
  · refine R.go 15 (R.nil 8 2 1 (by kernel_rfl) ?_)
    refine R.loop ((fun | (i, out) => (⟨(frm 65 [(2, AI 0), (3, .ptr 0 0), (4, .ptr 1 0), (6, .ptr 2 0), (8, .ref 3), (32, LI xs), (33, AI xs.length), (34, AI (i : Int))]), [.box 26 [AI n, LI xs], .box 26 [AI m, LI ys], .box 26 [AI 0, .nil], rowA eI 2 1 out]⟩ : St) : Nat × (List Int) → St)) (fun | (i, out) => (i ≤ xs.length) ∧ (out = xs.take i)) (fun | (i, out) => xs.length - i) (0, []) [2, 3, 4, 6, 8, 32, 33, 34] none (by kernel_rfl) (by kernel_rfl) (by kernel_rfl) ⟨(by omega), (by rfl)⟩ ?_
    rintro ⟨i, out⟩ ⟨h5_1, rfl⟩ R2 N3
    have hol : (xs.take i).length = i := by rw [List.length_take]; omega
    refine R.go 5 (R.cond ((i : Int) < (xs.length : Int)) (by kernel_rfl) (fun c6 => ?_) (fun c6 => ?_))
    · refine R.go 5 (R.idx eI xs 0 i (i : Int) (by kernel_rfl) rfl eI_len (by omega) (by kernel_rfl) ?_)
      refine R.go 9 (R.shl 0 n (by kernel_rfl) (by omega) (by kernel_rfl) ?_)
      refine R.go 2 (R.app eI (xs.take i) [bor (xs.getD i 0) (shl64 0 n)] 3 2 1 8 (by kernel_rfl) eI_one (by decide) (by first | omega | (simp <;> omega)) (by kernel_rfl) ?_)
      refine R.go 4 (R.ar ((i : Int) + 1) (by kernel_rfl) (by omega) (by omega) (by kernel_rfl) ?_)
      exact R.go 2 (R.stop R2 (by kernel_rfl) (N3 (i + 1, (xs.take i) ++ [bor (xs.getD i 0) (shl64 0 n)]) [2, 3, 4, 6, 8, 32, 33, 34] (some [0, 1, 2, 3]) _ (by kernel_rfl) (by kernel_rfl) ⟨(by omega), (by exact smX_step hRp (by omega))⟩ (by show (xs.length - (i + 1)) < (xs.length - i); omega)))
    · refine R.go 10 (R.loop ((fun | (j, o2) => (⟨(frm 65 [(3, .ptr 0 0), (6, .ptr 1 0), (8, .ref 2), (49, LI ys), (50, AI ys.length), (51, AI (j : Int))]), [.box 26 [AI n, LI xs], .box 26 [AI 0, .nil], rowA eI 2 1 o2]⟩ : St) : Nat × (List Int) → St)) (fun | (j, o2) => (j ≤ ys.length) ∧ (o2 = smY n xs ys j)) (fun | (j, o2) => ys.length - j) (0, (xs.take i)) [3, 6, 8, 49, 50, 51] (some [0, 2, 3]) (by kernel_rfl) (by kernel_rfl) (by kernel_rfl) ⟨(by omega), (by exact smY_zero (by omega))⟩ ?_)
      rintro ⟨j, o2⟩ ⟨h10_1, rfl⟩ R7 N8
      have hol2 := smY_len (n := n) (xs := xs) (ys := ys) (j := j) (by assumption)
      refine R.go 5 (R.cond ((j : Int) < (ys.length : Int)) (by kernel_rfl) (fun c11 => ?_) (fun c11 => ?_))
      · refine R.go 5 (R.idx eI ys 0 j (j : Int) (by kernel_rfl) rfl eI_len (by omega) (by kernel_rfl) ?_)
        refine R.go 8 (R.shl (ys.getD j 0) n (by kernel_rfl) (by omega) (by kernel_rfl) ?_)
        refine R.go 1 (R.app eI (smY n xs ys j) [shl64 (ys.getD j 0) n] 2 2 1 8 (by kernel_rfl) eI_one (by decide) (by first | omega | (simp <;> omega)) (by kernel_rfl) ?_)
        refine R.go 4 (R.ar ((j : Int) + 1) (by kernel_rfl) (by omega) (by omega) (by kernel_rfl) ?_)
        exact R.go 2 (R.stop R7 (by kernel_rfl) (N8 (j + 1, (smY n xs ys j) ++ [shl64 (ys.getD j 0) n]) [3, 6, 8, 49, 50, 51] (some [0, 1, 2]) _ (by kernel_rfl) (by kernel_rfl) ⟨(by omega), (by exact smY_step (by omega))⟩ (by show (ys.length - (j + 1)) < (ys.length - j); omega)))
      · refine R.go 4 (R.enter (avs := [.ref 2]) Try.func38 rfl (by kernel_rfl) (by kernel_rfl) (by kernel_rfl) ?_)
        intro us12
        refine R.go 7 (R.call false (size_c (smY n xs ys j)) (by kernel_rfl) rfl (by kernel_rfl) ?_)
        refine R.go 4 (R.back (.agg [AI ((smY n xs ys j).length), .ref 2]) (frm 65 [(3, .ptr 0 0), (6, .ptr 1 0), (8, .ref 2), (49, LI ys), (50, AI ys.length), (51, AI (j : Int)), (52, .bool (decide ((j : Int) < (ys.length : Int)))), (63, .ref 2)]) (by kernel_rfl) (by kernel_rfl) (by kernel_rfl) ?_)
        exact R.go 3 (R.retE (.tup [.agg [AI ((smY n xs ys j).length), ownA eI 2 1 (smY n xs ys j)], AI 0]) (by kernel_rfl) (by kernel_rfl) (by first | (first | exact sm_3 (by assumption) | exact sm_0 (by assumption) (by rw [hol2]; omega) (smY_end (by omega)) | exact absurd (hP.symm.trans (by assumption : _ = false)) (by decide) | exact absurd (hQ.symm.trans (by assumption : _ = false)) (by decide)) | (exfalso; omega)))

theorem sumP_c (n : Int) (xs : List Int) (m : Int) (ys : List Int) (hP : okPo n xs = true) (hQ : okPo m ys = true) : CallA Try.prog 23 [.agg [AI n, LI xs], .agg [AI m, LI ys]] (.tup [.agg [AI (smN n m), ownA eI 2 1 (smR n xs m ys)], AI (smC n m)]) := by
  refine CallA.of Try.func23 rfl (by kernel_rfl) ?_
  refine R.go 11 (R.call true (summed0_c n xs m ys hP hQ) (by kernel_rfl) rfl (by kernel_rfl) ?_)
  exact R.go 5 (R.retE (.tup [.agg [AI (smN n m), ownA eI 2 1 (smR n xs m ys)], AI (smC n m)]) (by kernel_rfl) (by kernel_rfl) (by rfl))

theorem squeeze_c (m : Int) (k : Int) (hk : InM 61 k) : CallA Try.prog 109 [AI m, AI k] (AI (sqz (mem k) m (mem k).length)) := by
  have hml := mem_le k
  have hjr0 := fun (t : Nat) (h : t < (mem k).length) => mem_lt' (N := 61) (by omega) hk h
  refine CallA.of Try.func109 rfl (by kernel_rfl) ?_
  refine R.go 12 (R.call true (membersOf_c k hk).frz (by kernel_rfl) rfl (by kernel_rfl) ?_)
  refine R.go 4 (R.loop ((fun | (t, r) => (⟨(frm 25 [(0, AI m), (5, AI r), (9, LI (mem k)), (10, AI ((mem k).length)), (11, AI (t : Int))]), []⟩ : St) : Nat × Int → St)) (fun | (t, r) => (t ≤ (mem k).length) ∧ (r = sqz (mem k) m t)) (fun | (t, r) => (mem k).length - t) (0, 0) [0, 5, 9, 10, 11] none (by kernel_rfl) (by kernel_rfl) (by kernel_rfl) ⟨(by omega), (by rfl)⟩ ?_)
  rintro ⟨t, r⟩ ⟨h4_1, rfl⟩ R1 N2
  have hjr := hjr0 t
  refine R.go 5 (R.cond ((t : Int) < ((mem k).length : Int)) (by kernel_rfl) (fun c5 => ?_) (fun c5 => ?_))
  · refine R.go 6 (R.idx eI (mem k) 0 t (t : Int) (by kernel_rfl) rfl eI_len (by omega) (by kernel_rfl) ?_)
    have hjw := hjr (by omega)
    refine R.go 8 (R.call true (has_c m ((mem k).getD t 0) (by omega)) (by kernel_rfl) rfl (by kernel_rfl) ?_)
    refine R.go 1 (R.cond (band (shr64 m ((mem k).getD t 0)) 1 = 1) (by kernel_rfl) (fun c6 => ?_) (fun c6 => ?_))
    · refine R.go 3 (R.shl 1 (t : Int) (by kernel_rfl) (by omega) (by kernel_rfl) ?_)
      refine R.go 5 (R.ar ((t : Int) + 1) (by kernel_rfl) (by omega) (by omega) (by kernel_rfl) ?_)
      exact R.go 2 (R.stop R1 (by kernel_rfl) (N2 (t + 1, bor (sqz (mem k) m t) (shl64 1 (t : Int))) [0, 5, 9, 10, 11] none _ (by kernel_rfl) (by kernel_rfl) ⟨(by omega), (by first | exact sqz_yes (by assumption) | exact sqz_no (by assumption))⟩ (by show ((mem k).length - (t + 1)) < ((mem k).length - t); omega)))
    · refine R.go 3 (R.ar ((t : Int) + 1) (by kernel_rfl) (by omega) (by omega) (by kernel_rfl) ?_)
      exact R.go 2 (R.stop R1 (by kernel_rfl) (N2 (t + 1, sqz (mem k) m t) [0, 5, 9, 10, 11] none _ (by kernel_rfl) (by kernel_rfl) ⟨(by omega), (by first | exact sqz_yes (by assumption) | exact sqz_no (by assumption))⟩ (by show ((mem k).length - (t + 1)) < ((mem k).length - t); omega)))
  · exact R.go 6 (R.retE (AI (sqz (mem k) m t)) (by kernel_rfl) (by kernel_rfl) (by first | (rw [show t = (mem k).length by omega]) | (exfalso; omega)))

theorem partOn_c (n : Int) (xs : List Int) (k : Int) (hP : okFr n xs = true) (hk : InM n.toNat k) : CallA Try.prog 73 [LI xs, AI k] (ownA eI 2 1 (prt xs (mem k))) := by
  have hp1 := okFr_rel hP
  have hb : 0 ≤ n ∧ n ≤ 8 ∧ (xs.length : Int) = n := ⟨hp1.1, hp1.2.1, hp1.2.2.1⟩
  have hk61 : InM 61 k := inM_mono (n' := 61) (by omega) hk
  have hml := mem_lenN (N := n.toNat) (by omega) hk
  have hjr0 := fun (t : Nat) (h : t < (mem k).length) => mem_lt' (N := 61) (by omega) hk61 h
  have hjr1 := fun (t : Nat) (h : t < (mem k).length) => mem_lt' (N := n.toNat) (by omega) hk h
  refine CallA.of Try.func73 rfl (by kernel_rfl) ?_
  refine R.go 12 (R.call true (membersOf_c k hk61).frz (by kernel_rfl) rfl (by kernel_rfl) ?_)
  refine R.go 4 (R.nil 5 2 1 (by kernel_rfl) ?_)
  refine R.loop ((fun | (t, out) => (⟨(frm 26 [(0, LI xs), (1, AI k), (5, .ref 0), (9, LI (mem k)), (10, AI ((mem k).length)), (11, AI (t : Int))]), [rowA eI 2 1 out]⟩ : St) : Nat × (List Int) → St)) (fun | (t, out) => (t ≤ (mem k).length) ∧ (out = (List.take t (mem k)).map fun v => sqz (mem k) (xs.getD v.toNat 0) (mem k).length)) (fun | (t, out) => (mem k).length - t) (0, []) [0, 1, 5, 9, 10, 11] none (by kernel_rfl) (by kernel_rfl) (by kernel_rfl) ⟨(by omega), (by rfl)⟩ ?_
  rintro ⟨t, out⟩ ⟨h4_1, rfl⟩ R1 N2
  have hol : ((List.take t (mem k)).map fun v => sqz (mem k) (xs.getD v.toNat 0) (mem k).length).length = t := by simp; omega
  have hjr := hjr1 t
  refine R.go 5 (R.cond ((t : Int) < ((mem k).length : Int)) (by kernel_rfl) (fun c5 => ?_) (fun c5 => ?_))
  · refine R.go 5 (R.idx eI (mem k) 0 t (t : Int) (by kernel_rfl) rfl eI_len (by omega) (by kernel_rfl) ?_)
    have hjw := hjr (by omega)
    refine R.go 7 (R.idx eI xs 0 ((((mem k).getD t 0)).toNat) ((mem k).getD t 0) (by kernel_rfl) (by omega) eI_len (by omega) (by kernel_rfl) ?_)
    refine R.go 2 (R.call true (squeeze_c (xs.getD ((((mem k).getD t 0)).toNat) 0) k hk61) (by kernel_rfl) rfl (by kernel_rfl) ?_)
    refine R.go 1 (R.app eI ((List.take t (mem k)).map fun v => sqz (mem k) (xs.getD v.toNat 0) (mem k).length) [sqz (mem k) (xs.getD ((((mem k).getD t 0)).toNat) 0) (mem k).length] 0 2 1 8 (by kernel_rfl) eI_one (by decide) (by first | omega | (simp <;> omega)) (by kernel_rfl) ?_)
    refine R.go 4 (R.ar ((t : Int) + 1) (by kernel_rfl) (by omega) (by omega) (by kernel_rfl) ?_)
    exact R.go 2 (R.stop R1 (by kernel_rfl) (N2 (t + 1, ((List.take t (mem k)).map fun v => sqz (mem k) (xs.getD v.toNat 0) (mem k).length) ++ [sqz (mem k) (xs.getD ((((mem k).getD t 0)).toNat) 0) (mem k).length]) [0, 1, 5, 9, 10, 11] (some [0]) _ (by kernel_rfl) (by kernel_rfl) ⟨(by omega), (by exact prt_step (by omega))⟩ (by show ((mem k).length - (t + 1)) < ((mem k).length - t); omega)))
  · exact R.go 6 (R.retE (ownA eI 2 1 ((List.take t (mem k)).map fun v => sqz (mem k) (xs.getD v.toNat 0) (mem k).length)) (by kernel_rfl) (by kernel_rfl) (by first | (rw [prt_end (by omega)]) | (exfalso; omega)))

theorem posetOfP_c (xs : List Int) : CallA Try.prog 38 [LI xs] (.agg [AI xs.length, LI xs]) := by
  refine CallA.of Try.func38 rfl (by kernel_rfl) ?_
  refine R.go 7 (R.call true (size_c xs) (by kernel_rfl) rfl (by kernel_rfl) ?_)
  exact R.go 4 (R.retE (.agg [AI xs.length, LI xs]) (by kernel_rfl) (by kernel_rfl) (by rfl))

theorem pOn_c (n : Int) (xs : List Int) (k : Int) (hP : okFr n xs = true) (hk : InM n.toNat k) : CallA Try.prog 49 [.agg [AI n, LI xs], AI k] (.agg [AI ((mem k).length), LI (prt xs (mem k))]) := by
  refine CallA.of Try.func49 rfl (by kernel_rfl) ?_
  refine R.go 10 (R.call true (partOn_c n xs k hP hk).frz (by kernel_rfl) rfl (by kernel_rfl) ?_)
  refine R.call true (posetOfP_c (prt xs (mem k))) (by kernel_rfl) rfl (by kernel_rfl) ?_
  exact R.go 2 (R.retE (.agg [AI ((prt xs (mem k)).length), LI (prt xs (mem k))]) (by kernel_rfl) (by kernel_rfl) (by first | (rw [prt_len]) | (exfalso; omega)))

theorem pCodeT_c (n : Int) (xs : List Int) (m : Int) (hP : okPo n xs = true) (ho : outR n m = false) : CallA Try.prog 40 [.agg [AI n, LI xs], AI m] (AI 0) := by
  have hF : okFr n xs = true := okPo_fr hP
  have hbr := okFr_rel hF
  have hb : 0 ≤ n ∧ n ≤ 8 ∧ (xs.length : Int) = n := ⟨hbr.1, hbr.2.1, hbr.2.2.1⟩
  refine CallA.of Try.func40 rfl (by kernel_rfl) ?_
  refine R.go 10 (R.call true (isPoset_c n xs (by first | omega | (simp <;> omega))) (by kernel_rfl) rfl (by kernel_rfl) ?_)
  refine R.go 3 (R.els (!(okPo n xs)) (by kernel_rfl) (bnF hP) ?_)
  refine R.go 5 (R.call true (isMask_c n m) (by kernel_rfl) rfl (by kernel_rfl) ?_)
  refine R.go 3 (R.condM (!(outR n m)) (by kernel_rfl) (fun c1 => ?_) (fun c1 => ?_))
  · exact R.go 4 (R.retE (AI 2) (by kernel_rfl) (by kernel_rfl) (by first | (first | rfl | exact absurd (ho.symm.trans (by assumption : _ = true)) (by decide) | exact absurd (hP.symm.trans (by assumption : _ = false)) (by decide) | (exfalso; have hq := (by assumption : (!(outR n m)) = false); rw [ho] at hq; exact absurd hq (by decide))) | (exfalso; omega)))
  · exact R.go 6 (R.retE (AI 0) (by kernel_rfl) (by kernel_rfl) (by rfl))

theorem PP_impl (n : Int) (xs : List Int) (m : Int) (hP : okPo n xs = true) (hm : InM n.toNat m) (ho : outR n m = false) : CallA Try.prog 25 [.agg [AI n, LI xs], AI m] (.tup [.agg [AI ((mem m).length : Int), LI (prt xs (mem m))], AI 0]) := by
  have hF : okFr n xs = true := okPo_fr hP
  have hbr := okFr_rel hF
  have hb : 0 ≤ n ∧ n ≤ 8 ∧ (xs.length : Int) = n := ⟨hbr.1, hbr.2.1, hbr.2.2.1⟩
  refine CallA.of Try.func25 rfl (by kernel_rfl) ?_
  refine R.go 11 (R.call true (pCodeT_c n xs m hP ho) (by kernel_rfl) rfl (by kernel_rfl) ?_)
  refine R.go 13 (R.call true (pOn_c n xs m hF hm) (by kernel_rfl) rfl (by kernel_rfl) ?_)
  exact R.go 3 (R.retE (.tup [.agg [AI ((mem m).length), LI (prt xs (mem m))], AI 0]) (by kernel_rfl) (by kernel_rfl) (by first | (rfl) | (exfalso; omega)))

theorem widthX0_c (n : Int) (h0 : 0 ≤ n) (h1 : n ≤ 60) : CallA Try.prog 16 [AI n] (AI ((shl64 1 n) - 1)) := by
  have hb : 1 ≤ shl64 1 n ∧ shl64 1 n ≤ 4611686018427387904 := shl_rng n h0 (by omega)
  refine CallA.of Try.func16 rfl (by kernel_rfl) ?_
  refine R.go 10 ?_
  by_cases c1 : n < 0
  · refine R.skp (decide (n < 0)) false (by kernel_rfl) (dT c1) (by kernel_rfl) ?_
    refine R.skp (decide (n < 0)) false (by kernel_rfl) (dT c1) (by kernel_rfl) ?_
    refine R.pick (decide (n < 0)) true (by kernel_rfl) (dT c1) (by kernel_rfl) ?_
    exact R.go 6 (R.retE (AI 0) (by kernel_rfl) (by kernel_rfl) (by first | (rfl) | (exfalso; omega)))
  · refine R.want (decide (n < 0)) false (by kernel_rfl) (dF c1) ?_
    refine R.go 1 (R.want (decide (n < 0)) false (by kernel_rfl) (dF c1) ?_)
    refine R.go 1 (R.pick (decide (n < 0)) false (by kernel_rfl) (dF c1) (by kernel_rfl) ?_)
    refine R.go 1 (R.cond (n > 60) (by kernel_rfl) (fun c2 => ?_) (fun c2 => ?_))
    · exact R.go 4 (R.retE (AI 0) (by kernel_rfl) (by kernel_rfl) (by first | (rfl) | (exfalso; omega)))
    · refine R.go 4 (R.cv .u64 n (by kernel_rfl) (u64_id (by omega) (by omega)) (by kernel_rfl) ?_)
      refine R.shl 1 n (by kernel_rfl) (by omega) (by kernel_rfl) ?_
      refine R.ar ((shl64 1 n) - 1) (by kernel_rfl) (by omega) (by omega) (by kernel_rfl) ?_
      exact R.go 2 (R.retE (AI ((shl64 1 n) - 1)) (by kernel_rfl) (by kernel_rfl) (by rfl))

theorem width_c (n : Int) (xs : List Int) (hP : okPo n xs = true) : CallX Try.prog 48 [.agg [AI n, LI xs]] [] (fun (resX : AV) (objX : List AObj) => ∃ w : Int, (wdS n xs xs.length 0 w) ∧ resX = AI w ∧ objX = []) := by
  have hF : okFr n xs = true := okPo_fr hP
  have hbr := okFr_rel hF
  have hb : 0 ≤ n ∧ n ≤ 8 ∧ (xs.length : Int) = n := ⟨hbr.1, hbr.2.1, hbr.2.2.1⟩
  have hRel : RelOK n.toNat xs := hbr.2.2.2
  refine CallX.dropE (CallX.ofF Try.func48 rfl (by kernel_rfl) ?_)
  intro usC frC hfC
  refine R.go 18 (R.loop ((fun | (i, w) => (⟨(frm 32 [(1, .ptr 1 0), (3, AI w), (9, LI xs), (10, AI xs.length), (11, AI (i : Int))]), [.frame usC frC, .box 26 [AI n, LI xs]]⟩ : St) : Nat × Int → St)) (fun | (i, w) => (i ≤ xs.length) ∧ (wdS n xs i 0 w)) (fun | (i, w) => xs.length - i) (0, 0) [1, 3, 9, 10, 11] none (by kernel_rfl) (by kernel_rfl) (by kernel_rfl) ⟨(by omega), (by exact wd_start)⟩ ?_)
  rintro ⟨i, w⟩ ⟨h4_1, h4_2⟩ R1 N2
  have hxi := fun h : i < xs.length => inM_mono (n' := 8) (by omega) (hRel.2 i (by omega))
  have hxr := fun h : i < xs.length => (inM_255 (hxi h))
  refine R.go 5 (R.cond ((i : Int) < (xs.length : Int)) (by kernel_rfl) (fun c5 => ?_) (fun c5 => ?_))
  · refine R.go 5 (R.idx eI xs 0 i (i : Int) (by kernel_rfl) rfl eI_len (by omega) (by kernel_rfl) ?_)
    have hxj := hxr (by omega)
    have hx8 := hxi (by omega)
    have hsl := sub_len hxj.1 hxj.2
    refine R.go 6 (R.call true (subM_c (xs.getD i 0) (by omega) (by omega)).frz (by kernel_rfl) rfl (by kernel_rfl) ?_)
    refine R.go 4 (R.loop ((fun | (k, v) => (⟨(frm 32 [(1, .ptr 1 0), (3, AI v), (9, LI xs), (10, AI xs.length), (11, AI (i : Int)), (16, LI (subL (xs.getD i 0))), (17, AI ((subL (xs.getD i 0)).length)), (18, AI (k : Int))]), [.frame usC frC, .box 26 [AI n, LI xs]]⟩ : St) : Nat × Int → St)) (fun | (k, v) => (k ≤ (subL (xs.getD i 0)).length) ∧ (wdS n xs i k v)) (fun | (k, v) => (subL (xs.getD i 0)).length - k) (0, w) [1, 3, 9, 10, 11, 16, 17, 18] none (by kernel_rfl) (by kernel_rfl) (by kernel_rfl) ⟨(by omega), (by assumption)⟩ ?_)
    rintro ⟨k, v⟩ ⟨h9_1, h9_2⟩ R6 N7
    refine R.go 5 (R.cond ((k : Int) < ((subL (xs.getD i 0)).length : Int)) (by kernel_rfl) (fun c10 => ?_) (fun c10 => ?_))
    · refine R.go 5 (R.idx eI (subL (xs.getD i 0)) 0 k (k : Int) (by kernel_rfl) rfl eI_len (by omega) (by kernel_rfl) ?_)
      have hem := sub_el hx8 (show k < (subL (xs.getD i 0)).length by omega)
      have hes : InM n.toNat ((subL (xs.getD i 0)).getD k 0) := inM_of_bits hem.1 fun q hq => tb_lt (hRel.2 i (by omega)) (hem.2 q hq)
      have he5 := inM_255 hem.1
      refine R.go 7 (R.call true (isAntichain_c n xs ((subL (xs.getD i 0)).getD k 0) hF hes) (by kernel_rfl) rfl (by kernel_rfl) ?_)
      refine R.go 1 (R.condB (antB n xs ((subL (xs.getD i 0)).getD k 0)) (by kernel_rfl) (fun c11 => ?_) (fun c11 => ?_))
      · refine R.go 3 (R.call true (countM_c ((subL (xs.getD i 0)).getD k 0) (by omega) (by omega)) (by kernel_rfl) rfl (by kernel_rfl) ?_)
        refine R.go 5 (R.ar ((k : Int) + 1) (by kernel_rfl) (by omega) (by omega) (by kernel_rfl) ?_)
        exact R.go 2 (R.stop R6 (by kernel_rfl) (N7 (k + 1, if ((mem ((subL (xs.getD i 0)).getD k 0)).length : Int) > v then ((mem ((subL (xs.getD i 0)).getD k 0)).length : Int) else v) [1, 3, 9, 10, 11, 16, 17, 18] none _ (by kernel_rfl) (by kernel_rfl) ⟨(by omega), (by first | exact wd_yes (by assumption) (by assumption) rfl | exact wd_no (by assumption) (by assumption))⟩ (by show ((subL (xs.getD i 0)).length - (k + 1)) < ((subL (xs.getD i 0)).length - k); omega)))
      · refine R.go 3 (R.ar ((k : Int) + 1) (by kernel_rfl) (by omega) (by omega) (by kernel_rfl) ?_)
        exact R.go 2 (R.stop R6 (by kernel_rfl) (N7 (k + 1, v) [1, 3, 9, 10, 11, 16, 17, 18] none _ (by kernel_rfl) (by kernel_rfl) ⟨(by omega), (by first | exact wd_yes (by assumption) (by assumption) rfl | exact wd_no (by assumption) (by assumption))⟩ (by show ((subL (xs.getD i 0)).length - (k + 1)) < ((subL (xs.getD i 0)).length - k); omega)))
    · refine R.go 3 (R.ar ((i : Int) + 1) (by kernel_rfl) (by omega) (by omega) (by kernel_rfl) ?_)
      exact R.go 2 (R.stop R1 (by kernel_rfl) (N2 (i + 1, v) [1, 3, 9, 10, 11] none _ (by kernel_rfl) (by kernel_rfl) ⟨(by omega), (by exact wd_next (by assumption) (by omega))⟩ (by show (xs.length - (i + 1)) < (xs.length - i); omega)))
  · exact R.go 6 (R.retX (res := AI w) (hp' := [.dead, .box 26 [AI n, LI xs]]) (by kernel_rfl) (by kernel_rfl) (by kernel_rfl) (by kernel_rfl) ⟨[], by kernel_rfl, by decide, w, by (rw [show xs.length = i by omega]; assumption), by kernel_rfl, by kernel_rfl⟩)

theorem WD_impl (n : Int) (xs : List Int) (hP : okPo n xs = true) : CallX Try.prog 24 [.agg [AI n, LI xs]] [] (fun (resX : AV) (objX : List AObj) => ∃ w : Int, (wdS n xs xs.length 0 w) ∧ resX = .tup [AI w, AI 0] ∧ objX = []) := by
  have hF : okFr n xs = true := okPo_fr hP
  have hbr := okFr_rel hF
  have hb : 0 ≤ n ∧ n ≤ 8 ∧ (xs.length : Int) = n := ⟨hbr.1, hbr.2.1, hbr.2.2.1⟩
  refine CallX.dropE (CallX.ofF Try.func24 rfl (by kernel_rfl) ?_)
  intro usC frC hfC
  refine R.go 10 (R.call true (isPoset_c n xs (by first | omega | (simp <;> omega))) (by kernel_rfl) rfl (by kernel_rfl) ?_)
  refine R.go 2 (R.els (!(okPo n xs)) (by kernel_rfl) (bnF hP) ?_)
  refine R.go 4 (R.callX0 (width_c n xs (by assumption)) (by kernel_rfl) (by rintro _ _ ⟨_, _, rfl, rfl⟩; rfl) (by kernel_rfl) (by kernel_rfl) ?_)
  rintro _ ⟨w_1, f2, rfl, _⟩
  exact R.go 3 (R.retX (res := .tup [AI w_1, AI 0]) (hp' := [.dead, .box 26 [AI n, LI xs]]) (by kernel_rfl) (by kernel_rfl) (by kernel_rfl) (by kernel_rfl) ⟨[], by kernel_rfl, by decide, w_1, by first | assumption | omega, by kernel_rfl, by kernel_rfl⟩)

theorem likeE_c (a : List Int) (b : List Int) (la : a.length ≤ 1000000000) (lb : b.length ≤ 1000000000) : CallA Try.prog 9 [LI a, LI b] (.bool (decide (a = b))) := by
  refine CallA.of Try.func9 rfl (by kernel_rfl) ?_
  refine R.go 13 (R.condN ((a.length : Int) = (b.length : Int)) (by kernel_rfl) (fun c1 => ?_) (fun c1 => ?_))
  · exact R.go 4 (R.retE (.bool false) (by kernel_rfl) (by kernel_rfl) (by first | (first | (rw [dF (fun h => by subst h; omega)]) | (rw [dT (take_all (i := i) (by omega) (by omega) (by assumption))]) | (rw [dF (fun h => by subst h; exact absurd rfl (by assumption))])) | (exfalso; omega)))
  · refine R.go 7 (R.loop (fun (i : Nat) => (⟨(frm 26 [(0, LI a), (1, LI b), (5, AI (i : Int))]), []⟩ : St)) (fun (i : Nat) => (i ≤ a.length) ∧ (a.take i = b.take i)) (fun (i : Nat) => a.length - i) 0 [0, 1, 5] none (by kernel_rfl) (by kernel_rfl) (by kernel_rfl) ⟨(by omega), (by rfl)⟩ ?_)
    rintro i ⟨h4_1, h4_2⟩ R2 N3
    refine R.go 8 (R.cond ((i : Int) < (a.length : Int)) (by kernel_rfl) (fun c5 => ?_) (fun c5 => ?_))
    · refine R.go 7 (R.idx eI a 0 i (i : Int) (by kernel_rfl) rfl eI_len (by omega) (by kernel_rfl) ?_)
      refine R.go 3 (R.idx eI b 0 i (i : Int) (by kernel_rfl) rfl eI_len (by omega) (by kernel_rfl) ?_)
      refine R.go 3 (R.condN ((a.getD i 0) = (b.getD i 0)) (by kernel_rfl) (fun c6 => ?_) (fun c6 => ?_))
      · exact R.go 4 (R.retE (.bool false) (by kernel_rfl) (by kernel_rfl) (by first | (first | (rw [dF (fun h => by subst h; omega)]) | (rw [dT (take_all (i := i) (by omega) (by omega) (by assumption))]) | (rw [dF (fun h => by subst h; exact absurd rfl (by assumption))])) | (exfalso; omega)))
      · refine R.go 4 (R.ar ((i : Int) + 1) (by kernel_rfl) (by omega) (by omega) (by kernel_rfl) ?_)
        exact R.go 2 (R.stop R2 (by kernel_rfl) (N3 (i + 1) [0, 1, 5] none _ (by kernel_rfl) (by kernel_rfl) ⟨(by omega), (by exact take_step a b 0 i (by omega) (by omega) (by assumption) (by assumption))⟩ (by show (a.length - (i + 1)) < (a.length - i); omega)))
    · exact R.go 5 (R.retE (.bool true) (by kernel_rfl) (by kernel_rfl) (by first | (first | (rw [dF (fun h => by subst h; omega)]) | (rw [dT (take_all (i := i) (by omega) (by omega) (by assumption))]) | (rw [dF (fun h => by subst h; exact absurd rfl (by assumption))])) | (exfalso; omega)))

theorem sameP_c (n : Int) (xs : List Int) (m : Int) (ys : List Int) (la : xs.length ≤ 1000000000) (lb : ys.length ≤ 1000000000) : CallA Try.prog 21 [.agg [AI n, LI xs], .agg [AI m, LI ys]] (.bool (decide (n = m ∧ xs = ys))) := by
  refine CallA.of Try.func21 rfl (by kernel_rfl) ?_
  refine R.go 14 ?_
  by_cases c1 : n = m
  · refine R.want (decide (n = m)) true (by kernel_rfl) (dT c1) ?_
    refine R.go 1 (R.want (decide (n = m)) true (by kernel_rfl) (dT c1) ?_)
    refine R.go 1 (R.want (decide (n = m)) true (by kernel_rfl) (dT c1) ?_)
    refine R.go 1 (R.want (decide (n = m)) true (by kernel_rfl) (dT c1) ?_)
    refine R.go 1 (R.want (decide (n = m)) true (by kernel_rfl) (dT c1) ?_)
    refine R.call true (likeE_c xs ys la lb) (by kernel_rfl) rfl (by kernel_rfl) ?_
    refine R.pick (decide (n = m)) true (by kernel_rfl) (dT c1) (by kernel_rfl) ?_
    exact R.go 2 (R.retE (.bool (decide (xs = ys))) (by kernel_rfl) (by kernel_rfl) (by first | (apply congrArg AV.bool; simp_all) | (exfalso; omega)))
  · refine R.skp (decide (n = m)) true (by kernel_rfl) (dF c1) (by kernel_rfl) ?_
    refine R.skp (decide (n = m)) true (by kernel_rfl) (dF c1) (by kernel_rfl) ?_
    refine R.skp (decide (n = m)) true (by kernel_rfl) (dF c1) (by kernel_rfl) ?_
    refine R.skp (decide (n = m)) true (by kernel_rfl) (dF c1) (by kernel_rfl) ?_
    refine R.skp (decide (n = m)) true (by kernel_rfl) (dF c1) (by kernel_rfl) ?_
    refine R.pick (decide (n = m)) false (by kernel_rfl) (dF c1) (by kernel_rfl) ?_
    exact R.go 2 (R.retE (.bool false) (by kernel_rfl) (by kernel_rfl) (by first | (apply congrArg AV.bool; simp_all) | (exfalso; omega)))

end Go.Proofs.Ytogehjciaamcfaa


/-! Least forms: rows compared, relations renamed, orders one by one. -/
namespace Go.Proofs.Ytogehjciaamcfaa
open Go.RowKit Go.Abs

/-! Rows compared. -/
def cmpI (x y : Int) : Int := if x < y then -1 else if x > y then 1 else 0
def cmpL : List Int → List Int → Int
  | [], [] => 0
  | [], _ :: _ => -1
  | _ :: _, [] => 1
  | x :: a, y :: b => if cmpI x y = 0 then cmpL a b else cmpI x y
def ltL (a b : List Int) : Prop := cmpL a b < 0
instance (a b : List Int) : Decidable (ltL a b) := by unfold ltL; infer_instance
theorem cmpI_eq {x y : Int} : cmpI x y = 0 ↔ x = y := by
  unfold cmpI
  split
  · constructor <;> intro h <;> omega
  · split
    · constructor <;> intro h <;> omega
    · constructor <;> intro h <;> omega
theorem cmpI_lt {x y : Int} : cmpI x y < 0 ↔ x < y := by
  unfold cmpI
  split
  · constructor <;> intro h <;> omega
  · split
    · constructor <;> intro h <;> omega
    · constructor <;> intro h <;> omega
theorem lt_irr : ∀ a : List Int, ¬ ltL a a
  | [] => by simp [ltL, cmpL]
  | x :: a => by
    have := lt_irr a
    unfold ltL at this ⊢
    rw [cmpL, if_pos (cmpI_eq.2 rfl)]
    exact this
theorem lt_trans' : ∀ {a b c : List Int}, ltL a b → ltL b c → ltL a c
  | [], [], _, h, _ => by simp [ltL, cmpL] at h
  | [], _ :: _, [], _, h => by simp [ltL, cmpL] at h
  | [], _ :: _, _ :: _, _, _ => by simp [ltL, cmpL]
  | _ :: _, [], _, h, _ => by simp [ltL, cmpL] at h
  | _ :: _, _ :: _, [], _, h => by simp [ltL, cmpL] at h
  | x :: a, y :: b, z :: c, h1, h2 => by
    unfold ltL at h1 h2 ⊢
    rw [cmpL] at h1 h2 ⊢
    by_cases e1 : cmpI x y = 0
    · rw [if_pos e1] at h1
      have := cmpI_eq.1 e1; subst this
      by_cases e2 : cmpI x z = 0
      · rw [if_pos e2] at h2 ⊢
        exact lt_trans' h1 h2
      · rw [if_neg e2] at h2 ⊢
        exact h2
    · rw [if_neg e1] at h1
      have h1' := cmpI_lt.1 h1
      by_cases e2 : cmpI y z = 0
      · have := cmpI_eq.1 e2; subst this
        rw [if_neg e1]; exact h1
      · rw [if_neg e2] at h2
        have h2' := cmpI_lt.1 h2
        have h3 : cmpI x z < 0 := cmpI_lt.2 (by omega)
        rw [if_neg (by omega)]; exact h3
theorem nlt_le {r b b' : List Int} (h : ¬ ltL r b) (hb : b' = b ∨ ltL b' b) : ¬ ltL r b' := by
  rcases hb with rfl | hb
  · exact h
  · exact fun h2 => h (lt_trans' h2 hb)
section
variable {a b : List Int} {i : Nat}
theorem dropC (h : i < a.length) : a.drop i = a.getD i 0 :: a.drop (i + 1) := by
  rw [List.drop_eq_getElem_cons h, List.getD_eq_getElem?_getD, List.getElem?_eq_getElem h]; rfl
theorem cmp_gt (h : cmpL a b = cmpL (a.drop i) (b.drop i)) (ha : i < a.length) (hb : b.length ≤ i) : 1 = cmpL a b := by
  rw [h, dropC ha, List.drop_eq_nil_of_le hb, cmpL]
theorem cmp_ne {c : Int} (h : cmpL a b = cmpL (a.drop i) (b.drop i)) (ha : i < a.length) (hb : i < b.length) (hc : c = cmpI (a.getD i 0) (b.getD i 0)) (h0 : ¬ c = 0) : c = cmpL a b := by
  rw [h, dropC ha, dropC hb, cmpL, if_neg (by rw [← hc]; exact h0), hc]
theorem cmp_eq (h : cmpL a b = cmpL (a.drop i) (b.drop i)) (ha : i < a.length) (hb : i < b.length) (hc : cmpI (a.getD i 0) (b.getD i 0) = 0) : cmpL a b = cmpL (a.drop (i + 1)) (b.drop (i + 1)) := by
  rw [h, dropC ha, dropC hb, cmpL, if_pos hc]
theorem cmp_lt (h : cmpL a b = cmpL (a.drop i) (b.drop i)) (ha : a.length = i) (hb : i < b.length) : -1 = cmpL a b := by
  rw [h, List.drop_eq_nil_of_le (by omega), dropC hb, cmpL]
theorem cmp_end (h : cmpL a b = cmpL (a.drop i) (b.drop i)) (ha : a.length = i) (hb : b.length ≤ i) : 0 = cmpL a b := by
  rw [h, List.drop_eq_nil_of_le (by omega), List.drop_eq_nil_of_le hb, cmpL]
end

theorem nan_c (x : Int) : CallA Try.prog 115 [AI x] (.bool false) := by
  refine CallA.of Try.func115 rfl (by kernel_rfl) ?_
  exact R.go 11 (R.retE (.bool (!decide (x = x))) (by kernel_rfl) (by kernel_rfl) (by first | ((apply congrArg AV.bool; simp)) | (exfalso; omega)))

theorem cmpI_c (x : Int) (y : Int) : CallA Try.prog 111 [AI x, AI y] (AI (cmpI x y)) := by
  refine CallA.of Try.func111 rfl (by kernel_rfl) ?_
  refine R.go 7 (R.call true (nan_c x) (by kernel_rfl) rfl (by kernel_rfl) ?_)
  refine R.go 5 (R.call true (nan_c y) (by kernel_rfl) rfl (by kernel_rfl) ?_)
  refine R.go 23 (R.cond (x < y) (by kernel_rfl) (fun c1 => ?_) (fun c1 => ?_))
  · exact R.go 4 (R.retE (AI (-1)) (by kernel_rfl) (by kernel_rfl) (by first | (apply congrArg AI; unfold cmpI; first | (rw [if_pos (by assumption)]) | (rw [if_neg (by assumption), if_pos (by assumption)]) | (rw [if_neg (by assumption), if_neg (by assumption)])) | (exfalso; omega)))
  · refine R.go 8 (R.cond (x > y) (by kernel_rfl) (fun c2 => ?_) (fun c2 => ?_))
    · exact R.go 4 (R.retE (AI 1) (by kernel_rfl) (by kernel_rfl) (by first | (apply congrArg AI; unfold cmpI; first | (rw [if_pos (by assumption)]) | (rw [if_neg (by assumption), if_pos (by assumption)]) | (rw [if_neg (by assumption), if_neg (by assumption)])) | (exfalso; omega)))
    · exact R.go 5 (R.retE (AI 0) (by kernel_rfl) (by kernel_rfl) (by first | (apply congrArg AI; unfold cmpI; first | (rw [if_pos (by assumption)]) | (rw [if_neg (by assumption), if_pos (by assumption)]) | (rw [if_neg (by assumption), if_neg (by assumption)])) | (exfalso; omega)))

theorem cmpL_c (a : List Int) (b : List Int) (la : a.length ≤ 1000000000) (lb : b.length ≤ 1000000000) : CallA Try.prog 78 [LI a, LI b] (AI (cmpL a b)) := by
  refine CallA.of Try.func78 rfl (by kernel_rfl) ?_
  refine R.go 12 (R.loop (fun (i : Nat) => (⟨(frm 36 [(0, LI a), (1, LI b), (9, LI a), (10, AI a.length), (11, AI (i : Int))]), []⟩ : St)) (fun (i : Nat) => (i ≤ a.length) ∧ (i ≤ b.length) ∧ (cmpL a b = cmpL (a.drop i) (b.drop i))) (fun (i : Nat) => a.length - i) 0 [0, 1, 9, 10, 11] none (by kernel_rfl) (by kernel_rfl) (by kernel_rfl) ⟨(by omega), (by omega), (by rfl)⟩ ?_)
  rintro i ⟨h3_1, h3_2, h3_3⟩ R1 N2
  refine R.go 5 (R.cond ((i : Int) < (a.length : Int)) (by kernel_rfl) (fun c4 => ?_) (fun c4 => ?_))
  · refine R.go 6 (R.idx eI a 0 i (i : Int) (by kernel_rfl) rfl eI_len (by omega) (by kernel_rfl) ?_)
    refine R.go 12 (R.cond ((i : Int) ≥ (b.length : Int)) (by kernel_rfl) (fun c5 => ?_) (fun c5 => ?_))
    · exact R.go 4 (R.retE (AI 1) (by kernel_rfl) (by kernel_rfl) (by first | (apply congrArg AI; first | exact cmp_gt (i := i) (by assumption) (by omega) (by omega) | exact cmp_ne (i := i) (by assumption) (by omega) (by omega) rfl (by assumption) | exact cmp_lt (i := i) (by assumption) (by omega) (by omega) | exact cmp_end (i := i) (by assumption) (by omega) (by omega)) | (exfalso; omega)))
    · refine R.go 5 (R.idx eI b 0 i (i : Int) (by kernel_rfl) rfl eI_len (by omega) (by kernel_rfl) ?_)
      refine R.go 7 (R.call true (cmpI_c (a.getD i 0) (b.getD i 0)) (by kernel_rfl) rfl (by kernel_rfl) ?_)
      refine R.go 7 (R.condN ((cmpI (a.getD i 0) (b.getD i 0)) = 0) (by kernel_rfl) (fun c6 => ?_) (fun c6 => ?_))
      · exact R.go 5 (R.retE (AI (cmpI (a.getD i 0) (b.getD i 0))) (by kernel_rfl) (by kernel_rfl) (by first | (apply congrArg AI; first | exact cmp_gt (i := i) (by assumption) (by omega) (by omega) | exact cmp_ne (i := i) (by assumption) (by omega) (by omega) rfl (by assumption) | exact cmp_lt (i := i) (by assumption) (by omega) (by omega) | exact cmp_end (i := i) (by assumption) (by omega) (by omega)) | (exfalso; omega)))
      · refine R.go 3 (R.ar ((i : Int) + 1) (by kernel_rfl) (by omega) (by omega) (by kernel_rfl) ?_)
        exact R.go 2 (R.stop R1 (by kernel_rfl) (N2 (i + 1) [0, 1, 9, 10, 11] none _ (by kernel_rfl) (by kernel_rfl) ⟨(by omega), (by omega), (by exact cmp_eq (by assumption) (by omega) (by omega) (by assumption))⟩ (by show (a.length - (i + 1)) < (a.length - i); omega)))
  · refine R.go 10 (R.cond ((a.length : Int) < (b.length : Int)) (by kernel_rfl) (fun c7 => ?_) (fun c7 => ?_))
    · exact R.go 4 (R.retE (AI (-1)) (by kernel_rfl) (by kernel_rfl) (by first | (apply congrArg AI; first | exact cmp_gt (i := i) (by assumption) (by omega) (by omega) | exact cmp_ne (i := i) (by assumption) (by omega) (by omega) rfl (by assumption) | exact cmp_lt (i := i) (by assumption) (by omega) (by omega) | exact cmp_end (i := i) (by assumption) (by omega) (by omega)) | (exfalso; omega)))
    · exact R.go 5 (R.retE (AI 0) (by kernel_rfl) (by kernel_rfl) (by first | (apply congrArg AI; first | exact cmp_gt (i := i) (by assumption) (by omega) (by omega) | exact cmp_ne (i := i) (by assumption) (by omega) (by omega) rfl (by assumption) | exact cmp_lt (i := i) (by assumption) (by omega) (by omega) | exact cmp_end (i := i) (by assumption) (by omega) (by omega)) | (exfalso; omega)))

/-! Relations renamed. -/
def toF (o : List Int) : Nat → List Int
  | 0 => List.replicate o.length 0
  | i + 1 => (toF o i).set (o.getD i 0).toNat (i : Int)
theorem toF_len (o : List Int) : ∀ i, (toF o i).length = o.length
  | 0 => by simp [toF]
  | i + 1 => by rw [toF, List.length_set, toF_len o i]
theorem toF_rng (o : List Int) (j : Nat) : ∀ i : Nat, 0 ≤ (toF o i).getD j 0 ∧ (toF o i).getD j 0 ≤ (i : Int)
  | 0 => by
    rw [toF, List.getD_eq_getElem?_getD, List.getElem?_replicate]
    split <;> simp
  | i + 1 => by
    have ih := toF_rng o j i
    by_cases hi : (o.getD i 0).toNat < (toF o i).length
    · rw [toF, getD_set_if _ _ _ _ _ hi]
      split <;> omega
    · rw [toF, List.set_eq_of_length_le (by omega)]; omega
def reoK (a o T' R : List Int) (i : Nat) : Nat → List Int
  | 0 => R
  | k + 1 => (reoK a o T' R i k).set i (bor ((reoK a o T' R i k).getD i 0) (shl64 1 (T'.getD ((mem (a.getD (o.getD i 0).toNat 0)).getD k 0).toNat 0)))
def reoF (a o T' : List Int) : Nat → List Int
  | 0 => List.replicate o.length 0
  | i + 1 => reoK a o T' (reoF a o T' i) i (mem (a.getD (o.getD i 0).toNat 0)).length
def reo (a o : List Int) : List Int := reoF a o (toF o o.length) o.length
theorem reoK_len (a o T' R : List Int) (i : Nat) : ∀ k, (reoK a o T' R i k).length = R.length
  | 0 => rfl
  | k + 1 => by rw [reoK, List.length_set, reoK_len]
theorem reoF_len (a o T' : List Int) : ∀ i, (reoF a o T' i).length = o.length
  | 0 => by simp [reoF]
  | i + 1 => by rw [reoF, reoK_len, reoF_len]
theorem reo_len (a o : List Int) : (reo a o).length = o.length := reoF_len _ _ _ _
/-- An order of n things. -/
def PM (n : Int) (o : List Int) : Prop := o.length = n.toNat ∧ o.Nodup ∧ ∀ v ∈ o, 0 ≤ v ∧ v < n
theorem pm_get {n : Int} {o : List Int} (h : PM n o) {i : Nat} (hi : i < n.toNat) : o.getD i 0 ∈ o ∧ 0 ≤ o.getD i 0 ∧ o.getD i 0 < n := by
  have : o.getD i 0 ∈ o := by
    rw [List.getD_eq_getElem?_getD, List.getElem?_eq_getElem (by rw [h.1]; exact hi)]
    exact List.getElem_mem _
  exact ⟨this, h.2.2 _ this⟩
theorem pm_inj {n : Int} {o : List Int} (h : PM n o) {i j : Nat} (hi : i < n.toNat) (hj : j < n.toNat) (e : o.getD i 0 = o.getD j 0) : i = j := by
  have hi' : i < o.length := by rw [h.1]; exact hi
  have hj' : j < o.length := by rw [h.1]; exact hj
  rw [List.getD_eq_getElem?_getD, List.getD_eq_getElem?_getD, List.getElem?_eq_getElem hi', List.getElem?_eq_getElem hj'] at e
  exact (List.getElem_inj h.2.1).1 e
theorem pm_onto {n : Int} {o : List Int} (h : PM n o) {y : Nat} (hy : y < n.toNat) : ∃ k, k < n.toNat ∧ o.getD k 0 = (y : Int) := by
  have hm : (y : Int) ∈ o := by
    refine Classical.byContradiction fun hn => ?_
    have h1 := len_le (l := (y : Int) :: o) (m := (List.range n.toNat).map fun i : Nat => (i : Int)) (List.nodup_cons.2 ⟨hn, h.2.1⟩) fun v hv => by
      rcases List.mem_cons.1 hv with rfl | hv
      · exact List.mem_map.2 ⟨y, List.mem_range.2 hy, rfl⟩
      · have := h.2.2 v hv
        exact List.mem_map.2 ⟨v.toNat, List.mem_range.2 (by omega), by omega⟩
    simp only [List.length_cons, List.length_map, List.length_range, h.1] at h1
    omega
  obtain ⟨k, hk, e⟩ := List.getElem_of_mem hm
  refine ⟨k, by rw [← h.1]; exact hk, ?_⟩
  rw [List.getD_eq_getElem?_getD, List.getElem?_eq_getElem hk, e]
  rfl
theorem toF_inv {n : Int} {o : List Int} (h : PM n o) : ∀ i : Nat, i ≤ n.toNat → ∀ k, k < i → (toF o i).getD (o.getD k 0).toNat 0 = (k : Int)
  | 0, _, k, hk => by omega
  | i + 1, hi, k, hk => by
    have hk2 := pm_get h (i := k) (by omega)
    have hi2 := pm_get h (i := i) (by omega)
    have hl := h.1
    rw [toF, getD_set_if _ _ _ _ _ (by rw [toF_len]; omega)]
    by_cases e : k = i
    · subst e; rw [if_pos rfl]
    · rw [if_neg (fun e2 => e (pm_inj h (by omega) (by omega) (by omega)))]
      exact toF_inv h i (by omega) k (by omega)
theorem reoK_bits {n : Int} {a o T' R : List Int} {i : Nat} (h8 : n ≤ 8) (hR : ∀ j, j < R.length → InM n.toNat (R.getD j 0)) (hi : i < R.length) (hT : ∀ t, t < (mem (a.getD (o.getD i 0).toNat 0)).length → 0 ≤ T'.getD ((mem (a.getD (o.getD i 0).toNat 0)).getD t 0).toNat 0 ∧ T'.getD ((mem (a.getD (o.getD i 0).toNat 0)).getD t 0).toNat 0 < n) : ∀ k, k ≤ (mem (a.getD (o.getD i 0).toNat 0)).length → (∀ j, j < R.length → InM n.toNat ((reoK a o T' R i k).getD j 0)) ∧ (∀ j, ¬ j = i → (reoK a o T' R i k).getD j 0 = R.getD j 0) ∧ ∀ q, tb ((reoK a o T' R i k).getD i 0) q = true ↔ tb (R.getD i 0) q = true ∨ ∃ t, t < k ∧ T'.getD ((mem (a.getD (o.getD i 0).toNat 0)).getD t 0).toNat 0 = (q : Int)
  | 0, _ => ⟨hR, fun _ _ => rfl, fun q => by simp [reoK]⟩
  | k + 1, hk => by
    obtain ⟨h1, h2, h3⟩ := reoK_bits h8 hR hi hT k (by omega)
    have ht := hT k (by omega)
    obtain ⟨v, hv⟩ := Int.eq_ofNat_of_zero_le ht.1
    have ho : InM n.toNat (shl64 1 (v : Int)) := inM_one (by omega) (by omega)
    have hl := reoK_len a o T' R i k
    have hset : ∀ j, (reoK a o T' R i (k + 1)).getD j 0 = if i = j then bor ((reoK a o T' R i k).getD i 0) (shl64 1 (v : Int)) else (reoK a o T' R i k).getD j 0 := fun j => by
      rw [reoK, hv, getD_set_if _ _ _ _ _ (by omega)]
    refine ⟨fun j hj => ?_, fun j hj => ?_, fun q => ?_⟩
    · rw [hset]
      split
      · exact inM_bor (by omega) (h1 i hi) ho
      · exact h1 j hj
    · rw [hset, if_neg (fun e => hj e.symm)]; exact h2 j hj
    · rw [hset, if_pos rfl, tb_bor (n := n.toNat) (by omega) (h1 i hi) ho, Bool.or_eq_true, h3, tb_one (by omega), decide_eq_true_iff]
      constructor
      · rintro ((h | ⟨t, t1, t2⟩) | rfl)
        · exact .inl h
        · exact .inr ⟨t, by omega, t2⟩
        · exact .inr ⟨k, by omega, hv⟩
      · rintro (h | ⟨t, t1, t2⟩)
        · exact .inl (.inl h)
        · by_cases e : t = k
          · subst e; exact .inr (by omega)
          · exact .inl (.inr ⟨t, by omega, t2⟩)
theorem reo_bits {n : Int} {a o : List Int} (hF : okFr n a = true) (h : PM n o) {i : Nat} (hi : i < n.toNat) : InM n.toNat ((reo a o).getD i 0) ∧ ∀ k, tb ((reo a o).getD i 0) k = true ↔ k < n.toNat ∧ tb (a.getD (o.getD i 0).toNat 0) (o.getD k 0).toNat = true := by
  obtain ⟨h0, h8, hl, hr⟩ := okFr_rel hF
  have hol := h.1
  have hrow : ∀ i, i < n.toNat → InM n.toNat (a.getD (o.getD i 0).toNat 0) := fun i hi => hr.2 _ (by have := pm_get h hi; omega)
  have hTr : ∀ y, y < n.toNat → ∃ k, k < n.toNat ∧ o.getD k 0 = (y : Int) ∧ (toF o o.length).getD y 0 = (k : Int) := fun y hy => by
    obtain ⟨k, hk, e⟩ := pm_onto h hy
    have := toF_inv h o.length (by omega) k (by omega)
    rw [e, Int.toNat_natCast] at this
    exact ⟨k, hk, e, this⟩
  have hT : ∀ i, i < n.toNat → ∀ t, t < (mem (a.getD (o.getD i 0).toNat 0)).length → 0 ≤ (toF o o.length).getD ((mem (a.getD (o.getD i 0).toNat 0)).getD t 0).toNat 0 ∧ (toF o o.length).getD ((mem (a.getD (o.getD i 0).toNat 0)).getD t 0).toNat 0 < n := fun i hi t ht => by
    obtain ⟨m1, m2, _⟩ := mem_in (N := n.toNat) (by omega) (hrow i hi) ht
    obtain ⟨k, hk, _, e⟩ := hTr _ m2
    rw [e]; omega
  have main : ∀ c, c ≤ n.toNat → (∀ j, j < n.toNat → InM n.toNat ((reoF a o (toF o o.length) c).getD j 0)) ∧ (∀ j, c ≤ j → (reoF a o (toF o o.length) c).getD j 0 = 0) ∧ ∀ i, i < c → ∀ q, tb ((reoF a o (toF o o.length) c).getD i 0) q = true ↔ q < n.toNat ∧ tb (a.getD (o.getD i 0).toNat 0) (o.getD q 0).toNat = true := by
    intro c
    induction c with
    | zero =>
      intro _
      have hz : ∀ j, (reoF a o (toF o o.length) 0).getD j 0 = 0 := fun j => by
        rw [reoF, List.getD_eq_getElem?_getD, List.getElem?_replicate]
        split <;> rfl
      exact ⟨fun j _ => by rw [hz]; exact inM_zero _, fun j _ => hz j, fun i hi => by omega⟩
    | succ c ih =>
      intro hc
      obtain ⟨i1, i2, i3⟩ := ih (by omega)
      have hRl := reoF_len a o (toF o o.length) c
      obtain ⟨k1, k2, k3⟩ := reoK_bits (n := n) (a := a) (o := o) (T' := toF o o.length) (R := reoF a o (toF o o.length) c) (i := c) h8 (fun j hj => i1 j (by omega)) (by omega) (hT c (by omega)) _ (Nat.le_refl _)
      rw [reoF]
      refine ⟨fun j hj => k1 j (by omega), fun j hj => ?_, fun i hi q => ?_⟩
      · rw [k2 j (by omega)]; exact i2 j (by omega)
      · by_cases e : i = c
        · subst e
          rw [k3, i2 i (Nat.le_refl _), tb_zero]
          have hmr := hrow i (by omega)
          constructor
          · rintro (h5 | ⟨t, t1, t2⟩)
            · cases h5
            · obtain ⟨m1, m2, m3⟩ := mem_in (N := n.toNat) (by omega) hmr t1
              obtain ⟨k, hk, e1, e2⟩ := hTr _ m2
              rw [e2] at t2
              have ekq : k = q := by omega
              subst ekq
              refine ⟨hk, ?_⟩
              rw [e1, Int.toNat_natCast]
              exact m3
          · rintro ⟨q1, q2⟩
            have hoq := pm_get h q1
            have hmm : o.getD q 0 ∈ mem (a.getD (o.getD i 0).toNat 0) := (by
              have := (mem_iff (j := (o.getD q 0).toNat) (N := n.toNat) (by omega) hmr).2 q2
              rwa [show (((o.getD q 0).toNat : Nat) : Int) = o.getD q 0 by omega] at this)
            obtain ⟨t, ht, et⟩ := List.getElem_of_mem hmm
            refine .inr ⟨t, ht, ?_⟩
            have et2 : (mem (a.getD (o.getD i 0).toNat 0)).getD t 0 = o.getD q 0 := by rw [List.getD_eq_getElem?_getD (l := mem _), List.getElem?_eq_getElem ht, et]; rfl
            rw [et2]
            exact toF_inv h o.length (by omega) q (by omega)
        · rw [k2 i e]; exact i3 i (by omega) q
  obtain ⟨j1, j2, j3⟩ := main n.toNat (Nat.le_refl _)
  unfold reo
  rw [hol] at j1 j3 ⊢
  exact ⟨j1 i hi, j3 i hi⟩
theorem reo_po {n : Int} {a o : List Int} (hP : okPo n a = true) (h : PM n o) : okPo n (reo a o) = true := by
  obtain ⟨h0, h8, hl, hr, rf, tr, asy⟩ := po_rel hP
  have hF := okPo_fr hP
  have hg := fun i (hi : i < n.toNat) => pm_get h hi
  refine po_mk h0 h8 (by rw [reo_len, h.1]; omega) (fun i hi => (reo_bits hF h hi).1) (fun i hi => ?_) (fun i j k hi a1 b1 => ?_) (fun i j hi a1 b1 => ?_)
  · exact ((reo_bits hF h hi).2 i).2 ⟨hi, rf _ (by have := hg i hi; omega)⟩
  · obtain ⟨u1, u2⟩ := ((reo_bits hF h hi).2 j).1 a1
    obtain ⟨v1, v2⟩ := ((reo_bits hF h u1).2 k).1 b1
    exact ((reo_bits hF h hi).2 k).2 ⟨v1, tr _ _ _ (by have := hg i hi; omega) u2 v2⟩
  · obtain ⟨u1, u2⟩ := ((reo_bits hF h hi).2 j).1 a1
    obtain ⟨v1, v2⟩ := ((reo_bits hF h u1).2 i).1 b1
    have hi2 := hg i hi
    have hj2 := hg j u1
    have := asy _ _ (by omega) u2 v2
    exact pm_inj h hi u1 (by omega)
def cmpO (o o' : List Int) : List Int := o'.map fun v => o.getD v.toNat 0
theorem cmpO_get {n : Int} {o o' : List Int} (h' : PM n o') {i : Nat} (hi : i < n.toNat) : (cmpO o o').getD i 0 = o.getD (o'.getD i 0).toNat 0 := by
  have : i < o'.length := by rw [h'.1]; exact hi
  simp only [cmpO, List.getD_eq_getElem?_getD, List.getElem?_map, List.getElem?_eq_getElem this, Option.map_some, Option.getD_some]
theorem cmpO_pm {n : Int} {o o' : List Int} (h : PM n o) (h' : PM n o') : PM n (cmpO o o') := by
  refine ⟨by rw [cmpO, List.length_map, h'.1], nodup_map h'.2.1 fun x hx y hy e => ?_, fun v hv => ?_⟩
  · have h1 := h'.2.2 x hx
    have h2 := h'.2.2 y hy
    have := pm_inj h (i := x.toNat) (j := y.toNat) (by omega) (by omega) e
    omega
  · obtain ⟨x, hx, rfl⟩ := List.mem_map.1 hv
    have h1 := h'.2.2 x hx
    exact (pm_get h (i := x.toNat) (by omega)).2
theorem reo_reo {n : Int} {a o o' : List Int} (hP : okPo n a = true) (h : PM n o) (h' : PM n o') : reo (reo a o) o' = reo a (cmpO o o') := by
  have hF := okPo_fr hP
  have hF2 := okPo_fr (reo_po hP h)
  have hc := cmpO_pm h h'
  refine List.ext_getElem (by rw [reo_len, reo_len, h'.1, hc.1]) fun i hi hi2 => ?_
  rw [reo_len, h'.1] at hi
  have e : ∀ (l : List Int) (hl : i < l.length), l[i] = l.getD i 0 := fun l hl => by rw [List.getD_eq_getElem?_getD, List.getElem?_eq_getElem hl]; rfl
  rw [e _ (by rw [reo_len, h'.1]; exact hi), e _ hi2]
  have hi3 := pm_get h' hi
  refine bits_eq (N := n.toNat) (reo_bits hF2 h' hi).1 (reo_bits hF hc hi).1 fun k hk => ?_
  have hk3 := pm_get h' hk
  rw [(reo_bits hF2 h' hi).2 k, (reo_bits hF hc hi).2 k, cmpO_get h' hi, cmpO_get h' hk, (reo_bits hF h (i := (o'.getD i 0).toNat) (by omega)).2]
  constructor
  · rintro ⟨_, _, h5⟩; exact ⟨hk, h5⟩
  · rintro ⟨_, h5⟩; exact ⟨hk, by omega, h5⟩
/-! The least of all orders. -/
def Ext (X o : List Int) : Prop := o.take X.length = X
def BST (n : Int) (xs b b' : List Int) : Prop := b' = b ∨ (∃ o, PM n o ∧ b' = reo xs o) ∧ ltL b' b
theorem bst_le {n : Int} {xs b b' : List Int} (h : BST n xs b b') : b' = b ∨ ltL b' b := h.elim .inl fun h => .inr h.2
theorem bst_trans {n : Int} {xs b b' b2 : List Int} (h : BST n xs b b') (h2 : BST n xs b' b2) : BST n xs b b2 := by
  rcases h2 with rfl | ⟨h3, h4⟩
  · exact h
  · rcases h with rfl | ⟨h5, h6⟩
    · exact .inr ⟨h3, h4⟩
    · exact .inr ⟨h3, lt_trans' h4 h6⟩
def LST (n : Int) (xs X b b' : List Int) : Prop := BST n xs b b' ∧ ∀ o, PM n o → Ext X o → ¬ ltL (reo xs o) b'
def LSI (n : Int) (xs X : List Int) (i : Nat) (b b' : List Int) : Prop := BST n xs b b' ∧ ∀ o, PM n o → Ext X o → o.getD X.length 0 < (i : Int) → ¬ ltL (reo xs o) b'
def PX (n : Int) (X : List Int) (u : Int) : Prop := X.Nodup ∧ (∀ v ∈ X, 0 ≤ v ∧ v < n) ∧ InM n.toNat u ∧ ∀ k : Nat, tb u k = true ↔ (k : Int) ∈ X
theorem px_nil (n : Int) : PX n [] 0 := ⟨List.nodup_nil, by simp, inM_zero _, fun k => by simp [tb_zero]⟩
theorem px_step {n u : Int} {X : List Int} {i : Nat} (h8 : n ≤ 8) (h : PX n X u) (hi : (i : Int) < n) (hu : ¬ band (shr64 u (i : Int)) 1 = 1) : PX n (X ++ [(i : Int)]) (bor u (shl64 1 (i : Int))) := by
  obtain ⟨h1, h2, h3, h4⟩ := h
  have ho : InM n.toNat (shl64 1 (i : Int)) := inM_one (by omega) (by omega)
  have hn : ¬ (i : Int) ∈ X := fun e => hu ((has_tb (n := n.toNat) (by omega) h3 (by omega)).2 ((h4 i).2 e))
  refine ⟨List.nodup_append.2 ⟨h1, by simp, fun a ha b hb e => ?_⟩, fun v hv => ?_, inM_bor (by omega) h3 ho, fun k => ?_⟩
  · have : b = (i : Int) := by simpa using hb
    rw [e, this] at ha
    exact hn ha
  · rcases List.mem_append.1 hv with hv | hv
    · exact h2 v hv
    · have : v = (i : Int) := by simpa using hv
      omega
  · rw [tb_bor (n := n.toNat) (by omega) h3 ho, Bool.or_eq_true, h4, tb_one (by omega), decide_eq_true_iff, List.mem_append, List.mem_singleton]
    constructor
    · rintro (h | rfl)
      · exact .inl h
      · exact .inr rfl
    · rintro (h | h)
      · exact .inl h
      · exact .inr (by omega)
theorem px_pm {n u : Int} {X : List Int} (h : PX n X u) (hl : X.length = n.toNat) : PM n X := ⟨hl, h.1, h.2.1⟩
theorem ls_0 (n : Int) (xs X b : List Int) (hX : ∀ o, PM n o → 0 ≤ o.getD X.length 0) : LSI n xs X 0 b b := ⟨.inl rfl, fun o h1 _ h3 => by have := hX o h1; omega⟩
theorem pm_nn {n : Int} {o : List Int} (h : PM n o) (k : Nat) : 0 ≤ o.getD k 0 := by
  rw [List.getD_eq_getElem?_getD]
  rcases Nat.lt_or_ge k o.length with hk | hk
  · rw [List.getElem?_eq_getElem hk]; exact (h.2.2 _ (List.getElem_mem hk)).1
  · rw [List.getElem?_eq_none hk]; exact Int.le_refl 0
theorem ext_succ {n : Int} {X o : List Int} {i : Nat} (h : PM n o) (hX : Ext X o) (hl : X.length < n.toNat) (e : o.getD X.length 0 = (i : Int)) : Ext (X ++ [(i : Int)]) o := by
  have hlt : X.length < o.length := by rw [h.1]; exact hl
  unfold Ext at hX ⊢
  rw [List.length_append, List.length_singleton, List.take_succ_eq_append_getElem hlt, hX]
  rw [List.getD_eq_getElem?_getD, List.getElem?_eq_getElem hlt] at e
  rw [show o[X.length] = (i : Int) from e]
theorem ls_skip {n u : Int} {xs X b b' : List Int} {i : Nat} (h8 : n ≤ 8) (hp : PX n X u) (h : LSI n xs X i b b') (hi : (i : Int) < n) (hl : X.length < n.toNat) (hu : band (shr64 u (i : Int)) 1 = 1) : LSI n xs X (i + 1) b b' := by
  refine ⟨h.1, fun o h1 h2 h3 => ?_⟩
  by_cases e : o.getD X.length 0 = (i : Int)
  · exfalso
    have hm := (hp.2.2.2 i).1 ((has_tb (n := n.toNat) (by omega) hp.2.2.1 (by omega)).1 hu)
    have h4 := ext_succ h1 h2 hl e
    have hnd : (X ++ [(i : Int)]).Nodup := by
      have := h1.2.1
      rw [← h4]
      exact this.sublist (List.take_sublist _ _)
    rw [List.nodup_append] at hnd
    exact hnd.2.2 _ hm _ (by simp) rfl
  · exact h.2 o h1 h2 (by omega)
theorem ls_rec {n : Int} {xs X b b1 b2 : List Int} {i : Nat} (h : LSI n xs X i b b1) (hl : X.length < n.toNat) (h2 : LST n xs (X ++ [(i : Int)]) b1 b2) : LSI n xs X (i + 1) b b2 := by
  refine ⟨bst_trans h.1 h2.1, fun o h3 h4 h5 => ?_⟩
  by_cases e : o.getD X.length 0 = (i : Int)
  · exact h2.2 o h3 (ext_succ h3 h4 hl e)
  · exact nlt_le (h.2 o h3 h4 (by omega)) (bst_le h2.1)
theorem ls_end {n : Int} {xs X b b' : List Int} {i : Nat} (h : LSI n xs X i b b') (hi : ¬ (i : Int) < n) (hl : X.length < n.toNat) : LST n xs X b b' := by
  refine ⟨h.1, fun o h1 h2 => h.2 o h1 h2 ?_⟩
  have := (pm_get h1 hl).2.2
  omega
theorem ls_one {n : Int} {xs X b b' : List Int} (hX : PM n X) (h : b' = if cmpL (reo xs X) b < 0 then reo xs X else b) : LST n xs X b b' := by
  by_cases e : cmpL (reo xs X) b < 0
  · rw [if_pos e] at h
    refine ⟨.inr ⟨⟨X, hX, h⟩, by rw [h]; exact e⟩, fun o h1 h2 => ?_⟩
    have : o = X := by rw [← h2, hX.1, ← h1.1, List.take_length]
    rw [this, h]; exact lt_irr _
  · rw [if_neg e] at h
    refine ⟨.inl h, fun o h1 h2 => ?_⟩
    have : o = X := by rw [← h2, hX.1, ← h1.1, List.take_length]
    rw [this, h]; exact e
/-- The least form of a least form is itself. -/
theorem ls_twice {n : Int} {xs r s : List Int} (hP : okPo n xs = true) (h1 : LST n xs [] xs r) (h2 : LST n r [] r s) : s = r ∧ okPo n r = true := by
  have hext : ∀ o : List Int, Ext [] o := fun o => rfl
  rcases h1.1 with rfl | ⟨⟨o, ho, e⟩, _⟩
  · refine ⟨?_, hP⟩
    rcases h2.1 with h | ⟨⟨o, ho, e⟩, h⟩
    · exact h
    · rw [e] at h; exact absurd h (h1.2 o ho (hext o))
  · refine ⟨?_, by rw [e]; exact reo_po hP ho⟩
    rcases h2.1 with h | ⟨⟨o', ho', e'⟩, h⟩
    · exact h
    · rw [e', e, reo_reo hP ho ho', ← e] at h
      exact absurd h (h1.2 _ (cmpO_pm ho ho') (hext _))
theorem ls_po {n : Int} {xs r : List Int} (hP : okPo n xs = true) (h1 : LST n xs [] xs r) : okPo n r = true := by
  rcases h1.1 with rfl | ⟨⟨o, ho, e⟩, _⟩
  · exact hP
  · rw [e]; exact reo_po hP ho

end Go.Proofs.Ytogehjciaamcfaa
