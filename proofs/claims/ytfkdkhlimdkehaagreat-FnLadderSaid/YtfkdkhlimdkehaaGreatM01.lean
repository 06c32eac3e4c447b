/- Sums of bits of masks. -/
import Derived.Test.YtfkdkhlimdkehaaGreatS01
namespace Go.Proofs.YtfkdkhlimdkehaaGreat
open Go.RowKit Go.Abs

theorem wrap_toNat (v : BitVec 64) : IntKind.i64.wrap (v.toNat : Int) = v.toInt := by
  rw [IntKind.wrap_i64, BitVec.toInt_eq_toNat_cond]
  have := v.isLt
  split <;> omega
theorem wrap_toInt (x : Int) : (BitVec.ofInt 64 x).toInt = IntKind.i64.wrap x := by
  rw [IntKind.wrap_i64, BitVec.toInt_ofInt, Int.bmod]
  simp only [Nat.reducePow]
  split <;> omega
theorem band_bv (x y : Int) : band x y = (BitVec.ofInt 64 x &&& BitVec.ofInt 64 y).toInt := wrap_toNat _
theorem bor_bv (x y : Int) : bor x y = (BitVec.ofInt 64 x ||| BitVec.ofInt 64 y).toInt := wrap_toNat _
theorem bnot_bv (x y : Int) : bnot x y = (BitVec.ofInt 64 x &&& ~~~ BitVec.ofInt 64 y).toInt := wrap_toNat _

theorem bnot_zero (x m : Int) (hx : IntKind.i64.wrap x = x) : bnot x m = 0 ↔ band x m = x := by
  rw [bnot_bv, band_bv]
  have e : x = (BitVec.ofInt 64 x).toInt := by rw [wrap_toInt, hx]
  have e0 : (0 : Int) = (0 : BitVec 64).toInt := rfl
  conv => rhs; rhs; rw [e]
  conv => lhs; rhs; rw [e0]
  rw [BitVec.toInt_inj, BitVec.toInt_inj]
  constructor
  · intro h
    apply BitVec.eq_of_getLsbD_eq
    intro i hi
    have := congrArg (fun v => v.getLsbD i) h
    simp [hi] at this ⊢
    exact this
  · intro h
    apply BitVec.eq_of_getLsbD_eq
    intro i hi
    have := congrArg (fun v => v.getLsbD i) h
    simp [hi] at this ⊢
    exact this
theorem boxAB (xs : List Int) (m : Int) (h : ∀ x ∈ xs, IntKind.i64.wrap x = x) : ∀ i, i ≤ xs.length → boxA xs m i = boxB xs m i
  | 0, _ => rfl
  | i + 1, hi => by
    have hx : IntKind.i64.wrap (xs.getD i 0) = xs.getD i 0 := h _ (by
      rw [List.getD_eq_getElem?_getD, List.getElem?_eq_getElem (by omega)]
      exact List.getElem_mem _)
    have hb := bnot_zero (xs.getD i 0) m hx
    simp only [boxA, boxB, boxAB xs m h i (by omega)]
    by_cases hc : band (xs.getD i 0) m = xs.getD i 0
    · rw [if_pos hc, if_pos (hb.2 hc)]
    · rw [if_neg hc, if_neg (fun h => hc (hb.1 h))]

end Go.Proofs.YtfkdkhlimdkehaaGreat
