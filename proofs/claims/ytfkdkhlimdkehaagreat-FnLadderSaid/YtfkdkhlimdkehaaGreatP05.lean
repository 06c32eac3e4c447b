/- Bits of meets, differences and boxes; truth sets stay within the worlds. -/
import Derived.Test.YtfkdkhlimdkehaaGreatM02
namespace Go.Proofs.YtfkdkhlimdkehaaGreat
open Go.RowKit Go.Abs

theorem tb_nat (a i : Nat) : tb (a : Int) i = a.testBit i := rfl
theorem inM_band {n : Nat} {a b : Int} (hn : n ≤ 61) (ha : InM n a) (hb : InM n b) : InM n (band a b) := by
  obtain ⟨a, rfl, ha'⟩ := inM_nat ha
  obtain ⟨b, rfl, hb'⟩ := inM_nat hb
  rw [band_nat (inM_62 hn ha') (inM_62 hn hb')]
  exact ⟨Int.natCast_nonneg _, by rw [Int.toNat_natCast]; exact Nat.and_lt_two_pow _ hb'⟩
theorem tb_band {n : Nat} {a b : Int} (hn : n ≤ 61) (ha : InM n a) (hb : InM n b) (i : Nat) : tb (band a b) i = (tb a i && tb b i) := by
  obtain ⟨a, rfl, ha'⟩ := inM_nat ha
  obtain ⟨b, rfl, hb'⟩ := inM_nat hb
  rw [band_nat (inM_62 hn ha') (inM_62 hn hb'), tb_nat, tb_nat, tb_nat, Nat.testBit_and]
theorem bnot_nat {a b : Nat} (ha : a < 2 ^ 62) (hb : b < 2 ^ 62) : ∃ c : Nat, bnot (a : Int) (b : Int) = (c : Int) ∧ c ≤ a ∧ ∀ i, c.testBit i = (a.testBit i && !b.testBit i) := by
  have hx : (BitVec.ofNat 64 a &&& ~~~ BitVec.ofNat 64 b).toNat ≤ a := by
    rw [BitVec.toNat_and, toNat_lt ha]
    exact Nat.and_le_left
  refine ⟨(BitVec.ofNat 64 a &&& ~~~ BitVec.ofNat 64 b).toNat, ?_, hx, fun i => ?_⟩
  · rw [bnot_bv, bv_nat, bv_nat, toInt_lt (Nat.lt_of_le_of_lt hx ha)]
  · rw [BitVec.testBit_toNat, BitVec.getLsbD_and, BitVec.getLsbD_not, BitVec.getLsbD_ofNat, BitVec.getLsbD_ofNat]
    by_cases hi : i < 64
    · simp [hi]
    · have h1 : a.testBit i = false := Nat.testBit_lt_two_pow (Nat.lt_of_lt_of_le ha (Nat.pow_le_pow_right (by decide) (by omega)))
      simp [hi, h1]
theorem inM_bnot {n : Nat} {a b : Int} (hn : n ≤ 61) (ha : InM n a) (hb : InM n b) : InM n (bnot a b) := by
  obtain ⟨a, rfl, ha'⟩ := inM_nat ha
  obtain ⟨b, rfl, hb'⟩ := inM_nat hb
  obtain ⟨c, h1, h2, _⟩ := bnot_nat (inM_62 hn ha') (inM_62 hn hb')
  rw [h1]
  exact ⟨Int.natCast_nonneg _, by rw [Int.toNat_natCast]; omega⟩
theorem tb_bnot {n : Nat} {a b : Int} (hn : n ≤ 61) (ha : InM n a) (hb : InM n b) (i : Nat) : tb (bnot a b) i = (tb a i && !tb b i) := by
  obtain ⟨a, rfl, ha'⟩ := inM_nat ha
  obtain ⟨b, rfl, hb'⟩ := inM_nat hb
  obtain ⟨c, h1, _, h3⟩ := bnot_nat (inM_62 hn ha') (inM_62 hn hb')
  rw [h1, tb_nat, tb_nat, tb_nat, h3]
theorem full_nat {n : Nat} (hn : n ≤ 61) : (shl64 1 (n : Int)) - 1 = ((2 ^ n - 1 : Nat) : Int) := by
  rw [shl_nat (by omega)]
  have := Nat.two_pow_pos n
  omega
theorem inM_full {n : Nat} (hn : n ≤ 61) : InM n ((shl64 1 (n : Int)) - 1) := by
  rw [full_nat hn]
  have := Nat.two_pow_pos n
  exact ⟨Int.natCast_nonneg _, by rw [Int.toNat_natCast]; omega⟩
theorem tb_full {n : Nat} (hn : n ≤ 61) (i : Nat) : tb ((shl64 1 (n : Int)) - 1) i = decide (i < n) := by
  rw [full_nat hn, tb_nat, Nat.testBit_two_pow_sub_one]
theorem inM_band_r {n : Nat} {a b : Int} (hn : n ≤ 61) (ha : InM 61 a) (hb : InM n b) : InM n (band a b) := by
  obtain ⟨a, rfl, ha'⟩ := inM_nat ha
  obtain ⟨b, rfl, hb'⟩ := inM_nat hb
  rw [band_nat (inM_62 (by decide) ha') (inM_62 hn hb')]
  exact ⟨Int.natCast_nonneg _, by rw [Int.toNat_natCast]; exact Nat.and_lt_two_pow _ hb'⟩
theorem boxB_ok {n : Nat} {xs : List Int} {m : Int} (hn : n ≤ 61) (h : RelOK n xs) (hm : InM n m) : ∀ i, i ≤ n → InM n (boxB xs m i) ∧ ∀ k, tb (boxB xs m i) k = true ↔ k < i ∧ ∀ j, tb (xs.getD k 0) j = true → tb m j = true
  | 0, _ => ⟨inM_zero n, fun k => by simp [boxB, tb_zero]⟩
  | i + 1, hi => by
    obtain ⟨h1, h2⟩ := boxB_ok hn h hm i (by omega)
    have hb := bnot_sub hn (h.2 i (by omega)) hm
    have hI := inM_one (n := n) hn (show i < n by omega)
    simp only [boxB]
    split
    · rename_i hc
      refine ⟨inM_bor hn h1 hI, fun k => ?_⟩
      rw [tb_bor hn h1 hI, Bool.or_eq_true, h2 k, tb_one (by omega), decide_eq_true_iff]
      constructor
      · rintro (⟨a, b⟩ | rfl)
        · exact ⟨by omega, b⟩
        · exact ⟨by omega, hb.1 hc⟩
      · rintro ⟨a, b⟩
        by_cases hki : i = k
        · exact .inr hki
        · exact .inl ⟨by omega, b⟩
    · rename_i hc
      refine ⟨h1, fun k => ?_⟩
      rw [h2 k]
      constructor
      · rintro ⟨a, b⟩; exact ⟨by omega, b⟩
      · rintro ⟨a, b⟩
        by_cases hki : k = i
        · subst hki; exact absurd (hb.2 b) hc
        · exact ⟨by omega, b⟩

end Go.Proofs.YtfkdkhlimdkehaaGreat
