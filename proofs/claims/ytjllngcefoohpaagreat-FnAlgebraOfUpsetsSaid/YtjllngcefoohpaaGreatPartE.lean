/- Texts of the proof: S01, M01, M02, R05, MEM, H03, H04, P05. -/
import Derived.Test.YtjllngcefoohpaaGreatProg
import Derived.Test.YtjllngcefoohpaaGreatPartD

/-! Numbers, masks, boxes. -/
namespace Go.Proofs.YtjllngcefoohpaaGreat
open Go.RowKit Go.Abs

def inR (n lo hi : Int) : Bool := decide (lo ≤ n) && decide (n ≤ hi)
theorem inR_iff (n lo hi : Int) : inR n lo hi = true ↔ lo ≤ n ∧ n ≤ hi := by simp [inR]
theorem inR_not (n lo hi : Int) : inR n lo hi = false ↔ ¬ (lo ≤ n ∧ n ≤ hi) := by
  rw [← inR_iff]; simp

theorem shl_one (n : Int) (h0 : 0 ≤ n) (h1 : n ≤ 62) : shl64 1 n = 2 ^ n.toNat := by
  obtain ⟨k, rfl⟩ := Int.eq_ofNat_of_zero_le h0
  unfold shl64
  rw [show min (k : Int).toNat 64 = k by omega, Int.one_mul, show (k : Int).toNat = k from rfl]
  have h2 : (2 : Int) ^ k ≤ 2 ^ 62 := by
    have := Nat.pow_le_pow_right (n := 2) (by decide) (show k ≤ 62 by omega)
    have h := Int.ofNat_le.2 this
    simpa using h
  have h3 : (0 : Int) ≤ 2 ^ k := Int.pow_nonneg (by decide)
  exact wrap_id (by omega) (by omega)
theorem shl_rng (n : Int) (h0 : 0 ≤ n) (h1 : n ≤ 62) : 1 ≤ shl64 1 n ∧ shl64 1 n ≤ 4611686018427387904 := by
  rw [shl_one n h0 h1]
  have h2 := Nat.pow_le_pow_right (n := 2) (by decide) (show n.toNat ≤ 62 by omega)
  have h3 : 0 < 2 ^ n.toNat := Nat.two_pow_pos _
  have e : (2 : Int) ^ n.toNat = ((2 ^ n.toNat : Nat) : Int) := by simp
  rw [e]
  generalize 2 ^ n.toNat = q at h2 h3
  omega

def boxB (xs : List Int) (m : Int) : Nat → Int
  | 0 => 0
  | i + 1 => if bnot (xs.getD i 0) m = 0 then bor (boxB xs m i) (shl64 1 i) else boxB xs m i
def boxA (xs : List Int) (m : Int) : Nat → Int
  | 0 => 0
  | i + 1 => if band (xs.getD i 0) m = xs.getD i 0 then bor (boxA xs m i) (shl64 1 i) else boxA xs m i

theorem inRange_c (n : Int) (lo : Int) (hi : Int) : CallA Tryz.prog 132 [AI n, AI lo, AI hi] (.bool (inR n lo hi)) := by
 refine CallA.of Tryz.func132 rfl (by kernel_rfl) ?_
 refine R.go 10 ?_
 by_cases c1 : lo ≤ n
 ·refine k5 (decide (lo ≤ n)) true (dT c1) ?_
  refine R.go 1 (k5 (decide (lo ≤ n)) true (dT c1) ?_)
  refine R.go 1 (k5 (decide (lo ≤ n)) true (dT c1) ?_)
  refine R.go 1 (k7 (decide (lo ≤ n)) true (dT c1) ?_)
  exact R.go 2 (k17 (.bool (decide (n ≤ hi))) (by first | (simp [inR, *]) | (exfalso; omega)))
 ·refine k6 (decide (lo ≤ n)) true (dF c1) ?_
  refine k6 (decide (lo ≤ n)) true (dF c1) ?_
  refine k6 (decide (lo ≤ n)) true (dF c1) ?_
  refine k7 (decide (lo ≤ n)) false (dF c1) ?_
  exact R.go 2 (k17 (.bool false) (by first | (simp [inR, *]) | (exfalso; omega)))

theorem l01In_c (n : Int) (lo : Int) (hi : Int) : CallA Tryz.prog 139 [AI n, AI lo, AI hi] (.bool (inR n lo hi)) := by
 refine CallA.of Tryz.func139 rfl (by kernel_rfl) ?_
 refine R.go 10 ?_
 by_cases c1 : n ≥ lo
 ·refine k5 (decide (n ≥ lo)) true (dT c1) ?_
  refine R.go 1 (k5 (decide (n ≥ lo)) true (dT c1) ?_)
  refine R.go 1 (k5 (decide (n ≥ lo)) true (dT c1) ?_)
  refine R.go 1 (k7 (decide (n ≥ lo)) true (dT c1) ?_)
  exact R.go 2 (k17 (.bool (decide (n ≤ hi))) (by first | (simp [inR, *]) | (exfalso; omega)))
 ·refine k6 (decide (n ≥ lo)) true (dF c1) ?_
  refine k6 (decide (n ≥ lo)) true (dF c1) ?_
  refine k6 (decide (n ≥ lo)) true (dF c1) ?_
  refine k7 (decide (n ≥ lo)) false (dF c1) ?_
  exact R.go 2 (k17 (.bool false) (by first | (simp [inR, *]) | (exfalso; omega)))

theorem within_c (a : Int) (b : Int) : CallA Tryz.prog 137 [AI a, AI b] (.bool (decide (bnot a b = 0))) := by
  refine CallA.of Tryz.func137 rfl (by kernel_rfl) ?_
  exact R.go 12 (R.retE (.bool (decide ((bnot a b) = 0))) (by kernel_rfl) (by kernel_rfl) (by first | (rfl) | (exfalso; omega)))

theorem size_c (xs : List Int) : CallA Tryz.prog 117 [LI xs] (AI xs.length) := by
  refine CallA.of Tryz.func117 rfl (by kernel_rfl) ?_
  exact R.go 10 (R.retE (AI xs.length) (by kernel_rfl) (by kernel_rfl) (by rfl))

theorem l01One_c (n : Int) (h0 : 0 ≤ n) (h1 : n ≤ 62) : CallA Tryz.prog 121 [AI n] (AI (shl64 1 n)) := by
 refine CallA.of Tryz.func121 rfl (by kernel_rfl) ?_
 refine R.go 7 (k2 .u64 n (u64_id (by omega) (by omega)) ?_)
 refine R.shl 1 n (by kernel_rfl) (by omega) (by kernel_rfl) ?_
 exact R.go 2 (k17 (AI (shl64 1 n)) (by rfl))

theorem l01Full_c (n : Int) (h0 : 0 ≤ n) (h1 : n ≤ 62) : CallA Tryz.prog 122 [AI n] (AI ((shl64 1 n) - 1)) := by
 have hb : 1 ≤ shl64 1 n ∧ shl64 1 n ≤ 4611686018427387904 := shl_rng n h0 h1
 refine CallA.of Tryz.func122 rfl (by kernel_rfl) ?_
 refine R.go 7 (k14 true (l01One_c n h0 h1) rfl ?_)
 refine k1 ((shl64 1 n) - 1) ?_
 exact R.go 2 (k17 (AI ((shl64 1 n) - 1)) (by rfl))

theorem l01Own_c (xs : List Int) (hl : xs.length ≤ 1000000000) : CallA Tryz.prog 271 [LI xs] (ownA eI 2 1 xs) := by
 refine CallA.of Tryz.func271 rfl (by kernel_rfl) ?_
 refine R.go 8 (k12 eI [] xs 0 2 1 8 eI_one ?_)
 exact R.go 2 (k17 (ownA eI 2 1 ([] ++ xs)) (by first | (rfl) | (exfalso; omega)))

/-- How many parts a node of a kind has. -/
def partsN (k : Int) : Nat := if k = 2 ∨ k = 3 ∨ k = 4 then 2 else if k = 5 ∨ k = 6 then 1 else 0
theorem partsN_two (k : Int) : partsN k = 2 ↔ k = 2 ∨ k = 3 ∨ k = 4 := by
  unfold partsN
  split
  · simp_all
  · split <;> simp_all
theorem partsN_le (k : Int) : partsN k ≤ 2 := by
  unfold partsN
  split
  · omega
  · split <;> omega

theorem partsOf_c (k : Int) : CallA Tryz.prog 283 [AI k] (AI (partsN k : Int)) := by
 refine CallA.of Tryz.func283 rfl (by kernel_rfl) ?_
 refine R.go 16 (k3 (k = 2) (fun c1 => ?_) (fun c1 => ?_))
 ·refine R.go 1 (R.thn (decide (k = 2)) (by kernel_rfl) (dT c1) ?_)
  exact R.go 4 (k17 (AI 2) (by first | (simp [partsN, *]) | (exfalso; omega)))
 ·refine R.go 5 (k3 (k = 3) (fun c2 => ?_) (fun c2 => ?_))
  ·refine R.go 1 (R.thn (decide (k = 3)) (by kernel_rfl) (dT c2) ?_)
   exact R.go 4 (k17 (AI 2) (by first | (simp [partsN, *]) | (exfalso; omega)))
  ·refine R.go 4 (k3 (k = 4) (fun c3 => ?_) (fun c3 => ?_))
   ·exact R.go 4 (k17 (AI 2) (by first | (simp [partsN, *]) | (exfalso; omega)))
   ·refine R.go 6 (k3 (k = 5) (fun c4 => ?_) (fun c4 => ?_))
    ·refine R.go 1 (R.thn (decide (k = 5)) (by kernel_rfl) (dT c4) ?_)
     exact R.go 4 (k17 (AI 1) (by first | (simp [partsN, *]) | (exfalso; omega)))
    ·refine R.go 4 (k3 (k = 6) (fun c5 => ?_) (fun c5 => ?_))
     ·exact R.go 4 (k17 (AI 1) (by first | (simp [partsN, *]) | (exfalso; omega)))
     ·exact R.go 6 (k17 (AI 0) (by first | (simp [partsN, *]) | (exfalso; omega)))

theorem l02Parts_c (k : Int) : CallA Tryz.prog 342 [AI k] (AI (partsN k : Int)) := by
 refine CallA.of Tryz.func342 rfl (by kernel_rfl) ?_
 refine R.go 16 (k3 (k = 2) (fun c1 => ?_) (fun c1 => ?_))
 ·refine R.go 1 (R.thn (decide (k = 2)) (by kernel_rfl) (dT c1) ?_)
  exact R.go 4 (k17 (AI 2) (by first | (simp [partsN, *]) | (exfalso; omega)))
 ·refine R.go 5 (k3 (k = 3) (fun c2 => ?_) (fun c2 => ?_))
  ·refine R.go 1 (R.thn (decide (k = 3)) (by kernel_rfl) (dT c2) ?_)
   exact R.go 4 (k17 (AI 2) (by first | (simp [partsN, *]) | (exfalso; omega)))
  ·refine R.go 4 (k3 (k = 4) (fun c3 => ?_) (fun c3 => ?_))
   ·exact R.go 4 (k17 (AI 2) (by first | (simp [partsN, *]) | (exfalso; omega)))
   ·refine R.go 6 (k3 (k = 5) (fun c4 => ?_) (fun c4 => ?_))
    ·refine R.go 1 (R.thn (decide (k = 5)) (by kernel_rfl) (dT c4) ?_)
     exact R.go 4 (k17 (AI 1) (by first | (simp [partsN, *]) | (exfalso; omega)))
    ·refine R.go 4 (k3 (k = 6) (fun c5 => ?_) (fun c5 => ?_))
     ·exact R.go 4 (k17 (AI 1) (by first | (simp [partsN, *]) | (exfalso; omega)))
     ·exact R.go 6 (k17 (AI 0) (by first | (simp [partsN, *]) | (exfalso; omega)))

theorem box_c (xs : List Int) (m : Int) (hb : xs.length ≤ 60) : CallA Tryz.prog 207 [LI xs, AI m] (AI (boxB xs m xs.length)) := by
 refine CallA.of Tryz.func207 rfl (by kernel_rfl) ?_
 refine R.go 16 (k15 ((fun | (i, r) => (⟨(frm 24 [(1, AI m), (5, AI r), (8, LI xs), (9, AI xs.length), (10, AI (i : Int))]), []⟩ : St) : Nat × Int → St)) (fun | (i, r) => (i ≤ xs.length) ∧ (r = boxB xs m i)) (fun | (i, r) => xs.length - i) (0, 0) [1, 5, 8, 9, 10] none ⟨(by omega), (by rfl)⟩ ?_)
 rintro ⟨i, r⟩ ⟨h4_1, rfl⟩ R1 N2
 refine R.go 5 (k3 ((i : Int) < (xs.length : Int)) (fun c5 => ?_) (fun c5 => ?_))
 ·refine R.go 6 (k8 eI xs 0 i (i : Int) rfl eI_len ?_)
  refine R.go 8 (k14 true (within_c (xs.getD i 0) m) rfl ?_)
  refine R.go 1 (k3 (bnot (xs.getD i 0) m = 0) (fun c6 => ?_) (fun c6 => ?_))
  ·refine R.go 3 (R.shl 1 (i : Int) (by kernel_rfl) (by omega) (by kernel_rfl) ?_)
   refine R.go 5 (k1 ((i : Int) + 1) ?_)
   exact R.go 2 (k16 R1 (N2 (i + 1, bor (boxB xs m i) (shl64 1 (i : Int))) [1, 5, 8, 9, 10] none _ (by kernel_rfl) (by kernel_rfl) ⟨(by omega), (by simp only [boxB]; split <;> first | rfl | contradiction)⟩ (by show (xs.length - (i + 1)) < (xs.length - i); omega)))
  ·refine R.go 3 (k1 ((i : Int) + 1) ?_)
   exact R.go 2 (k16 R1 (N2 (i + 1, boxB xs m i) [1, 5, 8, 9, 10] none _ (by kernel_rfl) (by kernel_rfl) ⟨(by omega), (by simp only [boxB]; split <;> first | rfl | contradiction)⟩ (by show (xs.length - (i + 1)) < (xs.length - i); omega)))
 ·exact R.go 6 (k17 (AI (boxB xs m i)) (by first | (rw [show i = xs.length by omega]) | (exfalso; omega)))

theorem l01Box_c (xs : List Int) (m : Int) (hb : xs.length ≤ 60) : CallA Tryz.prog 341 [LI xs, AI m] (AI (boxA xs m xs.length)) := by
 refine CallA.of Tryz.func341 rfl (by kernel_rfl) ?_
 refine R.go 14 (k15 ((fun | (i, r) => (⟨(frm 29 [(0, LI xs), (1, AI m), (5, AI r), (6, AI (i : Int))]), []⟩ : St) : Nat × Int → St)) (fun | (i, r) => (i ≤ xs.length) ∧ (r = boxA xs m i)) (fun | (i, r) => xs.length - i) (0, 0) [0, 1, 5, 6] none ⟨(by omega), (by rfl)⟩ ?_)
 rintro ⟨i, r⟩ ⟨h4_1, rfl⟩ R1 N2
 refine R.go 8 (k3 ((i : Int) < (xs.length : Int)) (fun c5 => ?_) (fun c5 => ?_))
 ·refine R.go 7 (k8 eI xs 0 i (i : Int) rfl eI_len ?_)
  refine R.go 5 (k8 eI xs 0 i (i : Int) rfl eI_len ?_)
  refine R.go 3 (k3 ((band (xs.getD i 0) m) = (xs.getD i 0)) (fun c6 => ?_) (fun c6 => ?_))
  ·refine R.go 3 (k14 true (l01One_c (i : Int) (by omega) (by omega)) rfl ?_)
   refine R.go 6 (k1 ((i : Int) + 1) ?_)
   exact R.go 2 (k16 R1 (N2 (i + 1, bor (boxA xs m i) (shl64 1 (i : Int))) [0, 1, 5, 6] none _ (by kernel_rfl) (by kernel_rfl) ⟨(by omega), (by simp only [boxA]; split <;> first | rfl | contradiction)⟩ (by show (xs.length - (i + 1)) < (xs.length - i); omega)))
  ·refine R.go 4 (k1 ((i : Int) + 1) ?_)
   exact R.go 2 (k16 R1 (N2 (i + 1, boxA xs m i) [0, 1, 5, 6] none _ (by kernel_rfl) (by kernel_rfl) ⟨(by omega), (by simp only [boxA]; split <;> first | rfl | contradiction)⟩ (by show (xs.length - (i + 1)) < (xs.length - i); omega)))
 ·exact R.go 6 (k17 (AI (boxA xs m i)) (by first | (rw [show i = xs.length by omega]) | (exfalso; omega)))

end Go.Proofs.YtjllngcefoohpaaGreat


/-! Sums of bits of masks. -/
namespace Go.Proofs.YtjllngcefoohpaaGreat
open Go.RowKit Go.Abs

theorem wrap_toNat (v : BitVec 64) : IntKind.i64.wrap (v.toNat : Int) = v.toInt := by
  rw [IntKind.wrap_i64, BitVec.toInt_eq_toNat_cond]
  have := v.isLt
  split <;> omega
theorem wrap_toInt (x : Int) : (BitVec.ofInt 64 x).toInt = IntKind.i64.wrap x := by
  rw [IntKind.wrap_i64, BitVec.toInt_ofInt, Int.bmod]
  simp only [Nat.reducePow]
  split <;> omega
theorem band_bv (x y : Int) : band x y = (BitVec.ofInt 64 x &&& BitVec.ofInt 64 y).toInt := wrap_toNat _
theorem bor_bv (x y : Int) : bor x y = (BitVec.ofInt 64 x ||| BitVec.ofInt 64 y).toInt := wrap_toNat _
theorem bnot_bv (x y : Int) : bnot x y = (BitVec.ofInt 64 x &&& ~~~ BitVec.ofInt 64 y).toInt := wrap_toNat _

theorem bnot_zero (x m : Int) (hx : IntKind.i64.wrap x = x) : bnot x m = 0 ↔ band x m = x := by
  rw [bnot_bv, band_bv]
  have e : x = (BitVec.ofInt 64 x).toInt := by rw [wrap_toInt, hx]
  have e0 : (0 : Int) = (0 : BitVec 64).toInt := rfl
  conv => rhs; rhs; rw [e]
  conv => lhs; rhs; rw [e0]
  rw [BitVec.toInt_inj, BitVec.toInt_inj]
  constructor
  · intro h
    apply BitVec.eq_of_getLsbD_eq
    intro i hi
    have := congrArg (fun v => v.getLsbD i) h
    simp [hi] at this ⊢
    exact this
  · intro h
    apply BitVec.eq_of_getLsbD_eq
    intro i hi
    have := congrArg (fun v => v.getLsbD i) h
    simp [hi] at this ⊢
    exact this
theorem boxAB (xs : List Int) (m : Int) (h : ∀ x ∈ xs, IntKind.i64.wrap x = x) : ∀ i, i ≤ xs.length → boxA xs m i = boxB xs m i
  | 0, _ => rfl
  | i + 1, hi => by
    have hx : IntKind.i64.wrap (xs.getD i 0) = xs.getD i 0 := h _ (by
      rw [List.getD_eq_getElem?_getD, List.getElem?_eq_getElem (by omega)]
      exact List.getElem_mem _)
    have hb := bnot_zero (xs.getD i 0) m hx
    simp only [boxA, boxB, boxAB xs m h i (by omega)]
    by_cases hc : band (xs.getD i 0) m = xs.getD i 0
    · rw [if_pos hc, if_pos (hb.2 hc)]
    · rw [if_neg hc, if_neg (fun h => hc (hb.1 h))]

end Go.Proofs.YtjllngcefoohpaaGreat


/-! Bits of masks; relations as rows of masks; closures. -/
namespace Go.Proofs.YtjllngcefoohpaaGreat
open Go.RowKit Go.Abs

theorem bv_nat (a : Nat) : BitVec.ofInt 64 (a : Int) = BitVec.ofNat 64 a := by simp
theorem toInt_lt {v : BitVec 64} (h : v.toNat < 2 ^ 62) : v.toInt = (v.toNat : Int) := by
  rw [BitVec.toInt_eq_toNat_cond, if_pos (by omega)]
theorem toNat_lt {a : Nat} (h : a < 2 ^ 62) : (BitVec.ofNat 64 a).toNat = a := by
  rw [BitVec.toNat_ofNat, Nat.mod_eq_of_lt (by omega)]
theorem bor_nat {a b : Nat} (ha : a < 2 ^ 62) (hb : b < 2 ^ 62) : bor (a : Int) (b : Int) = ((a ||| b : Nat) : Int) := by
  have h : (BitVec.ofNat 64 a ||| BitVec.ofNat 64 b).toNat = a ||| b := by rw [BitVec.toNat_or, toNat_lt ha, toNat_lt hb]
  rw [bor_bv, bv_nat, bv_nat, toInt_lt (by rw [h]; exact Nat.or_lt_two_pow ha hb), h]
theorem band_nat {a b : Nat} (ha : a < 2 ^ 62) (hb : b < 2 ^ 62) : band (a : Int) (b : Int) = ((a &&& b : Nat) : Int) := by
  have h : (BitVec.ofNat 64 a &&& BitVec.ofNat 64 b).toNat = a &&& b := by rw [BitVec.toNat_and, toNat_lt ha, toNat_lt hb]
  rw [band_bv, bv_nat, bv_nat, toInt_lt (by rw [h]; exact Nat.and_lt_two_pow _ hb), h]
theorem shl_nat {i : Nat} (h : i ≤ 62) : shl64 1 (i : Int) = ((2 ^ i : Nat) : Int) := by
  rw [shl_one _ (by omega) (by omega)]
  simp
theorem shr_nat {m i : Nat} (h : i ≤ 62) : shr64 (m : Int) (i : Int) = ((m / 2 ^ i : Nat) : Int) := by
  unfold shr64
  rw [show min (i : Int).toNat 64 = i by omega]
  rw [show ((2 : Int) ^ i) = ((2 ^ i : Nat) : Int) by simp]
  rw [Int.fdiv_eq_ediv_of_nonneg _ (Int.natCast_nonneg _)]
  rfl

/-- The bits of a mask. -/
def tb (m : Int) (i : Nat) : Bool := m.toNat.testBit i
def InM (n : Nat) (m : Int) : Prop := 0 ≤ m ∧ m.toNat < 2 ^ n
theorem inM_nat {n : Nat} {m : Int} (h : InM n m) : ∃ a : Nat, m = a ∧ a < 2 ^ n := ⟨m.toNat, by have := h.1; omega, h.2⟩
theorem inM_62 {n a : Nat} (hn : n ≤ 61) (h : a < 2 ^ n) : a < 2 ^ 62 := Nat.lt_of_lt_of_le h (Nat.pow_le_pow_right (by decide) (by omega))
theorem inM_bor {n : Nat} {a b : Int} (hn : n ≤ 61) (ha : InM n a) (hb : InM n b) : InM n (bor a b) := by
  obtain ⟨a, rfl, ha'⟩ := inM_nat ha
  obtain ⟨b, rfl, hb'⟩ := inM_nat hb
  rw [bor_nat (inM_62 hn ha') (inM_62 hn hb')]
  exact ⟨by omega, by simpa using Nat.or_lt_two_pow ha' hb'⟩
theorem tb_bor {n : Nat} {a b : Int} (hn : n ≤ 61) (ha : InM n a) (hb : InM n b) (i : Nat) : tb (bor a b) i = (tb a i || tb b i) := by
  obtain ⟨a, rfl, ha'⟩ := inM_nat ha
  obtain ⟨b, rfl, hb'⟩ := inM_nat hb
  rw [bor_nat (inM_62 hn ha') (inM_62 hn hb')]
  simp [tb, Nat.testBit_or]
theorem inM_one {n i : Nat} (hn : n ≤ 61) (hi : i < n) : InM n (shl64 1 (i : Int)) := by
  rw [shl_nat (by omega)]
  exact ⟨Int.natCast_nonneg _, by rw [Int.toNat_natCast]; exact Nat.pow_lt_pow_right (by decide) hi⟩
theorem tb_one {i : Nat} (hi : i ≤ 61) (j : Nat) : tb (shl64 1 (i : Int)) j = decide (i = j) := by
  rw [shl_nat (by omega)]
  unfold tb
  rw [Int.toNat_natCast, Nat.testBit_two_pow]
theorem inM_zero (n : Nat) : InM n 0 := ⟨Int.le_refl _, by simpa using Nat.two_pow_pos n⟩
theorem tb_zero (i : Nat) : tb 0 i = false := by simp [tb]
theorem tb_ext {a b : Int} (ha : 0 ≤ a) (hb : 0 ≤ b) (h : ∀ i, tb a i = tb b i) : a = b := by
  have := Nat.eq_of_testBit_eq (x := a.toNat) (y := b.toNat) h
  omega
theorem tb_lt {n : Nat} {m : Int} {i : Nat} (h : InM n m) (hi : tb m i = true) : i < n := by
  rcases Nat.lt_or_ge i n with h1 | h1
  · exact h1
  · have := Nat.testBit_lt_two_pow (Nat.lt_of_lt_of_le h.2 (Nat.pow_le_pow_right (by decide) h1))
    unfold tb at hi
    rw [this] at hi
    cases hi
theorem wrap_inM {n : Nat} {m : Int} (hn : n ≤ 61) (h : InM n m) : IntKind.i64.wrap m = m := by
  obtain ⟨a, rfl, ha⟩ := inM_nat h
  have := inM_62 hn ha
  exact wrap_id (by omega) (by omega)
theorem bnot_sub {n : Nat} {a b : Int} (hn : n ≤ 61) (ha : InM n a) (hb : InM n b) : bnot a b = 0 ↔ ∀ i, tb a i = true → tb b i = true := by
  rw [bnot_zero a b (wrap_inM hn ha)]
  obtain ⟨a, rfl, ha'⟩ := inM_nat ha
  obtain ⟨b, rfl, hb'⟩ := inM_nat hb
  rw [band_nat (inM_62 hn ha') (inM_62 hn hb')]
  simp only [tb, Int.toNat_natCast]
  constructor
  · intro h i hi
    have h1 : a &&& b = a := by omega
    rw [← h1, Nat.testBit_and] at hi
    simp only [Bool.and_eq_true] at hi
    exact hi.2
  · intro h
    congr 1
    apply Nat.eq_of_testBit_eq
    intro i
    rw [Nat.testBit_and]
    cases hi : a.testBit i with
    | false => rfl
    | true => rw [h i hi]; rfl
theorem has_tb {n i : Nat} {m : Int} (hn : n ≤ 61) (h : InM n m) (hi : i ≤ 61) : band (shr64 m (i : Int)) 1 = 1 ↔ tb m i = true := by
  obtain ⟨a, rfl, ha⟩ := inM_nat h
  have h1 : a / 2 ^ i < 2 ^ 62 := Nat.lt_of_le_of_lt (Nat.div_le_self _ _) (inM_62 hn ha)
  rw [shr_nat (by omega), show (1 : Int) = ((1 : Nat) : Int) from rfl, band_nat h1 (by decide), Nat.and_one_is_mod]
  simp only [tb, Int.toNat_natCast, Nat.testBit_eq_decide_div_mod_eq, decide_eq_true_eq]
  omega
theorem full_rng {n : Nat} {m : Int} (hn : n ≤ 61) : InM n m ↔ inR m 0 ((shl64 1 (n : Int)) - 1) = true := by
  rw [inR_iff, shl_nat (by omega)]
  unfold InM
  generalize 2 ^ n = q
  omega

/-- Steps along a relation. -/
def Edge (xs : List Int) (i j : Nat) : Prop := i < xs.length ∧ tb (xs.getD i 0) j = true
inductive Star (E : Nat → Nat → Prop) : Nat → Nat → Prop
  | refl (i : Nat) : Star E i i
  | tail {i j k : Nat} (h : Star E i j) (e : E j k) : Star E i k
theorem Star.trans {E : Nat → Nat → Prop} {i j k : Nat} (h : Star E i j) (h' : Star E j k) : Star E i k := by
  induction h' with
  | refl => exact h
  | tail _ e ih => exact .tail ih e
/-- Paths that pass only through points below b. -/
inductive Pth (E : Nat → Nat → Prop) (b : Nat) : Nat → Nat → Prop
  | edge {i k : Nat} (e : E i k) : Pth E b i k
  | via {i m k : Nat} (h : Pth E b i m) (hm : m < b) (h' : Pth E b m k) : Pth E b i k
theorem Pth.mono {E : Nat → Nat → Prop} {b b' i k : Nat} (hb : b ≤ b') (h : Pth E b i k) : Pth E b' i k := by
  induction h with
  | edge e => exact .edge e
  | via _ hm _ i1 i2 => exact .via i1 (by omega) i2
theorem Pth.zero {E : Nat → Nat → Prop} {i k : Nat} (h : Pth E 0 i k) : E i k := by
  cases h with
  | edge e => exact e
  | via _ hm _ => omega
theorem pth_step {E : Nat → Nat → Prop} {j i k : Nat} : Pth E (j + 1) i k ↔ Pth E j i k ∨ (Pth E j i j ∧ Pth E j j k) := by
  constructor
  · intro h
    induction h with
    | edge e => exact .inl (.edge e)
    | @via i m k _ hm _ i1 i2 =>
      by_cases hmj : m = j
      · subst hmj
        exact .inr ⟨i1.elim id (·.1), i2.elim id (·.2)⟩
      · have hlt : m < j := by omega
        rcases i1 with a | ⟨a, b⟩
        · rcases i2 with c | ⟨c, d⟩
          · exact .inl (.via a hlt c)
          · exact .inr ⟨.via a hlt c, d⟩
        · rcases i2 with c | ⟨c, d⟩
          · exact .inr ⟨a, .via b hlt c⟩
          · exact .inr ⟨a, d⟩
  · rintro (h | ⟨h, h'⟩)
    · exact h.mono (Nat.le_succ _)
    · exact .via (h.mono (Nat.le_succ _)) (Nat.lt_succ_self _) (h'.mono (Nat.le_succ _))
/-- Rows of masks of n bits. -/
def RelOK (n : Nat) (xs : List Int) : Prop := xs.length = n ∧ ∀ j, j < n → InM n (xs.getD j 0)
theorem getD_set_if {α : Type} (xs : List α) (i j : Nat) (v d : α) (hi : i < xs.length) : (xs.set i v).getD j d = if i = j then v else xs.getD j d := by
  simp only [List.getD_eq_getElem?_getD, List.getElem?_set]
  split
  · rename_i h; subst h; simp [hi]
  · rfl
def wrow (out : List Int) (j i : Nat) : List Int := if band (shr64 (out.getD i 0) (j : Int)) 1 = 1 then out.set i (bor (out.getD i 0) (out.getD j 0)) else out
def win (out : List Int) (j : Nat) : Nat → List Int
  | 0 => out
  | i + 1 => wrow (win out j i) j i
def wout (xs : List Int) : Nat → List Int
  | 0 => xs
  | j + 1 => win (wout xs j) j xs.length
theorem win_ok {n : Nat} {out : List Int} (hn : n ≤ 61) (h : RelOK n out) {j : Nat} (hj : j < n) : ∀ i, i ≤ n → RelOK n (win out j i) ∧ ∀ p, p < n → (∀ k, tb ((win out j i).getD p 0) k = true ↔ tb (out.getD p 0) k = true ∨ (p < i ∧ tb (out.getD p 0) j = true ∧ tb (out.getD j 0) k = true))
  | 0, _ => ⟨h, fun p hp k => by simp [win]⟩
  | i + 1, hi => by
    obtain ⟨h1, h2⟩ := win_ok hn h hj i (by omega)
    have hm := has_tb (i := j) hn (h1.2 i (by omega)) (by omega)
    have hjj : ∀ k, tb ((win out j i).getD j 0) k = true ↔ tb (out.getD j 0) k = true := fun k => by rw [h2 j hj k]; constructor; (rintro (h | ⟨_, _, h⟩) <;> exact h); exact .inl
    simp only [win, wrow]
    split
    · rename_i hc
      have ht := hm.1 hc
      rw [h2 i (by omega)] at ht
      have ht' : tb (out.getD i 0) j = true := by rcases ht with h | ⟨h, _⟩; exact h; omega
      have hI := inM_bor hn (h1.2 i (by omega)) (h1.2 j hj)
      refine ⟨⟨by rw [List.length_set]; exact h1.1, fun p hp => ?_⟩, fun p hp k => ?_⟩
      · rw [getD_set_if _ _ _ _ _ (by rw [h1.1]; omega)]
        split
        · exact hI
        · exact h1.2 p hp
      · rw [getD_set_if _ _ _ _ _ (by rw [h1.1]; omega)]
        split
        · rename_i hip
          subst hip
          rw [tb_bor hn (h1.2 i (by omega)) (h1.2 j hj), Bool.or_eq_true, h2 i hp k, hjj k]
          constructor
          · rintro ((h | ⟨h, _⟩) | h)
            · exact .inl h
            · omega
            · exact .inr ⟨by omega, ht', h⟩
          · rintro (h | ⟨_, _, h⟩)
            · exact .inl (.inl h)
            · exact .inr h
        · rename_i hip
          rw [h2 p hp k]
          constructor
          · rintro (h | ⟨a, b⟩)
            · exact .inl h
            · exact .inr ⟨by omega, b⟩
          · rintro (h | ⟨a, b⟩)
            · exact .inl h
            · exact .inr ⟨by omega, b⟩
    · rename_i hc
      have ht : ¬ tb ((win out j i).getD i 0) j = true := fun h => hc (hm.2 h)
      rw [h2 i (by omega)] at ht
      refine ⟨h1, fun p hp k => ?_⟩
      rw [h2 p hp k]
      constructor
      · rintro (h | ⟨a, b⟩)
        · exact .inl h
        · exact .inr ⟨by omega, b⟩
      · rintro (h | ⟨a, b, c⟩)
        · exact .inl h
        · by_cases hpi : p = i
          · subst hpi; exact absurd (.inl b) ht
          · exact .inr ⟨by omega, b, c⟩
theorem wout_ok {n : Nat} {xs : List Int} (hn : n ≤ 61) (h : RelOK n xs) : ∀ j, j ≤ n → RelOK n (wout xs j) ∧ ∀ p, p < n → ∀ k, tb ((wout xs j).getD p 0) k = true ↔ Pth (Edge xs) j p k
  | 0, _ => ⟨h, fun p hp k => ⟨fun ht => .edge ⟨by rw [h.1]; exact hp, ht⟩, fun ht => ht.zero.2⟩⟩
  | j + 1, hj => by
    obtain ⟨h1, h2⟩ := wout_ok hn h j (by omega)
    obtain ⟨h3, h4⟩ := win_ok hn h1 (j := j) (by omega) xs.length (by rw [h.1]; exact Nat.le_refl _)
    refine ⟨h3, fun p hp k => ?_⟩
    rw [wout, h4 p hp k, h2 p hp k, h2 p hp j, h2 j (by omega) k, pth_step, h.1]
    simp [hp]
/-- The image of a mask. -/
def img (xs : List Int) (m : Int) : Nat → Int
  | 0 => 0
  | i + 1 => if band (shr64 m (i : Int)) 1 = 1 then bor (img xs m i) (xs.getD i 0) else img xs m i
theorem img_ok {n : Nat} {xs : List Int} {m : Int} (hn : n ≤ 61) (h : RelOK n xs) (hm : InM n m) : ∀ i, i ≤ n → InM n (img xs m i) ∧ ∀ k, tb (img xs m i) k = true ↔ ∃ j, j < i ∧ tb m j = true ∧ tb (xs.getD j 0) k = true
  | 0, _ => ⟨inM_zero n, fun k => by simp [img, tb_zero]⟩
  | i + 1, hi => by
    obtain ⟨h1, h2⟩ := img_ok hn h hm i (by omega)
    have hb := has_tb (i := i) hn hm (by omega)
    simp only [img]
    split
    · rename_i hc
      refine ⟨inM_bor hn h1 (h.2 i (by omega)), fun k => ?_⟩
      rw [tb_bor hn h1 (h.2 i (by omega)), Bool.or_eq_true, h2 k]
      constructor
      · rintro (⟨j, a, b, c⟩ | hk)
        · exact ⟨j, by omega, b, c⟩
        · exact ⟨i, by omega, hb.1 hc, hk⟩
      · rintro ⟨j, a, b, c⟩
        by_cases hji : j = i
        · subst hji; exact .inr c
        · exact .inl ⟨j, by omega, b, c⟩
    · rename_i hc
      refine ⟨h1, fun k => ?_⟩
      rw [h2 k]
      constructor
      · rintro ⟨j, a, b, c⟩; exact ⟨j, by omega, b, c⟩
      · rintro ⟨j, a, b, c⟩
        by_cases hji : j = i
        · subst hji; exact absurd (hb.2 b) hc
        · exact ⟨j, by omega, b, c⟩
end Go.Proofs.YtjllngcefoohpaaGreat


/-! Frames: which are frames, reachability, roots. -/
namespace Go.Proofs.YtjllngcefoohpaaGreat
open Go.RowKit Go.Abs

def okFr (n : Int) (xs : List Int) : Bool := inR n 0 8 && decide ((xs.length : Int) = n) && !xs.any fun m => !inR m 0 ((shl64 1 n) - 1)
def outR (n m : Int) : Bool := !(inR n 0 30 && inR m 0 ((shl64 1 n) - 1))
/-- Where p holds first. -/
def fidxI (p : Int → Bool) : List Int → Int → Int
  | [], _ => -1
  | x :: l, i => if p x = true then i else fidxI p l (i + 1)
theorem drop_consI (a : List Int) (j : Nat) (h : j < a.length) : a.drop j = a.getD j 0 :: a.drop (j + 1) := by
  rw [List.drop_eq_getElem_cons h, List.getD_eq_getElem?_getD, List.getElem?_eq_getElem h]; rfl
theorem fidxI_hit {p : Int → Bool} {a : List Int} {i : Nat} (h : i < a.length) (hp : p (a.getD i 0) = true) : fidxI p (a.drop i) i = i := by
  rw [drop_consI a i h, fidxI, if_pos hp]
theorem fidxI_miss {p : Int → Bool} {a : List Int} {i : Nat} (h : i < a.length) (hp : p (a.getD i 0) = false) : fidxI p (a.drop i) i = fidxI p (a.drop (i + 1)) ((i + 1 : Nat) : Int) := by
  rw [drop_consI a i h, fidxI, if_neg (by rw [hp]; decide)]
  rfl
theorem fidxI_end {p : Int → Bool} {a : List Int} {i : Nat} (h : a.length ≤ i) : fidxI p (a.drop i) i = -1 := by
  rw [List.drop_eq_nil_of_le h, fidxI]
theorem fidxI_any {p : Int → Bool} : ∀ {a : List Int} {i : Int}, 0 ≤ i → (0 ≤ fidxI p a i ↔ a.any p = true)
  | [], i, h => by simp [fidxI]
  | x :: a, i, h => by
    have ih := fidxI_any (p := p) (a := a) (i := i + 1) (by omega)
    rw [fidxI, List.any_cons]
    by_cases hp : p x = true
    · simp [hp, h]
    · rw [if_neg hp, ih]; simp [hp]
theorem anyI_hit {p : Int → Bool} {a : List Int} {i : Nat} (h : i < a.length) (hp : p (a.getD i 0) = true) : (a.drop i).any p = true := by
  rw [drop_consI a i h, List.any_cons, hp, Bool.true_or]
theorem anyI_miss {p : Int → Bool} {a : List Int} {i : Nat} (h : i < a.length) (hp : p (a.getD i 0) = false) : (a.drop i).any p = (a.drop (i + 1)).any p := by
  rw [drop_consI a i h, List.any_cons, hp, Bool.false_or]
theorem anyI_end {p : Int → Bool} {a : List Int} {i : Nat} (h : a.length ≤ i) : (a.drop i).any p = false := by
  rw [List.drop_eq_nil_of_le h]; rfl
theorem okFr_no {n : Int} {xs : List Int} (h : inR n 0 8 = false) : okFr n xs = false := by simp [okFr, h]
theorem okFr_ne {n : Int} {xs : List Int} (h : ¬ (xs.length : Int) = n) : okFr n xs = false := by simp [okFr, h]
theorem okFr_yes {n : Int} {xs : List Int} (h : inR n 0 8 = true) (h1 : (xs.length : Int) = n) : okFr n xs = !xs.any fun m => !inR m 0 ((shl64 1 n) - 1) := by simp [okFr, h, h1]
theorem okFr_out {n : Int} {xs : List Int} (h : inR n 0 8 = true) (h1 : (xs.length : Int) = n) : (!xs.any (outR xs.length)) = okFr n xs := by
  rw [okFr_yes h h1]
  have h8 := (inR_iff _ _ _).1 h
  have e : outR xs.length = fun m => !inR m 0 ((shl64 1 n) - 1) := by
    funext m
    rw [outR, h1, (inR_iff n 0 30).2 (by omega), Bool.true_and]
  rw [e]
theorem okFr_rel {n : Int} {xs : List Int} (h : okFr n xs = true) : 0 ≤ n ∧ n ≤ 8 ∧ (xs.length : Int) = n ∧ RelOK n.toNat xs := by
  simp only [okFr, Bool.and_eq_true, inR_iff, decide_eq_true_eq, Bool.not_eq_true'] at h
  obtain ⟨⟨⟨h0, h1⟩, h2⟩, h3⟩ := h
  refine ⟨h0, h1, h2, by omega, fun j hj => ?_⟩
  have hg : xs.getD j 0 ∈ xs := by
    rw [List.getD_eq_getElem?_getD, List.getElem?_eq_getElem (by omega), Option.getD_some]
    exact List.getElem_mem _
  have := List.any_eq_false.1 h3 _ hg
  rw [full_rng (by omega), show ((n.toNat : Nat) : Int) = n by omega]
  simpa using this
theorem wout_len (xs : List Int) : ∀ j, (wout xs j).length = xs.length
  | 0 => rfl
  | j + 1 => by rw [wout, win_len, wout_len xs j]
where win_len (out : List Int) (j : Nat) : ∀ i, (win out j i).length = out.length
  | 0 => rfl
  | i + 1 => by
    rw [win, wrow]
    split
    · rw [List.length_set, win_len out j i]
    · exact win_len out j i
theorem win_len (out : List Int) (j i : Nat) : (win out j i).length = out.length := wout_len.win_len out j i
theorem isMask_c (n : Int) (m : Int) : CallA Tryz.prog 256 [AI n, AI m] (.bool (!(outR n m))) := by
 have hb : (0 ≤ n ∧ n ≤ 30) → 1 ≤ shl64 1 n ∧ shl64 1 n ≤ 4611686018427387904 := fun h => shl_rng n h.1 (by omega)
 refine CallA.of Tryz.func256 rfl (by kernel_rfl) ?_
 refine R.go 7 (k14 true (inRange_c n 0 30) rfl ?_)
 refine R.go 1 ?_
 refine (Bool.eq_false_or_eq_true (inR n 0 30)).elim (fun c1 => ?_) (fun c1 => ?_)
 ·refine k5 (inR n 0 30) true c1 ?_
  refine R.go 1 (k5 (inR n 0 30) true c1 ?_)
  refine R.go 1 (k5 (inR n 0 30) true c1 ?_)
  refine R.shl 1 n (by kernel_rfl) (by first | omega | (simp only [inR_iff, inR_not] at *; omega)) (by kernel_rfl) ?_
  refine k5 (inR n 0 30) true c1 ?_
  refine k1 ((shl64 1 n) - 1) ?_ (h0 := by first | omega | (simp only [inR_iff, inR_not] at *; omega)) (h1 := by first | omega | (simp only [inR_iff, inR_not] at *; omega))
  refine k5 (inR n 0 30) true c1 ?_
  refine k14 true (inRange_c m 0 ((shl64 1 n) - 1)) rfl ?_
  refine k7 (inR n 0 30) true c1 ?_
  exact R.go 2 (k17 (.bool (inR m 0 ((shl64 1 n) - 1))) (by first | (apply congrArg AV.bool; simp [outR, *]) | (exfalso; omega)))
 ·refine k6 (inR n 0 30) true c1 ?_
  refine k6 (inR n 0 30) true c1 ?_
  refine k6 (inR n 0 30) true c1 ?_
  refine k6 (inR n 0 30) true c1 ?_
  refine k6 (inR n 0 30) true c1 ?_
  refine k7 (inR n 0 30) false c1 ?_
  exact R.go 2 (k17 (.bool false) (by first | (apply congrArg AV.bool; simp [outR, *]) | (exfalso; omega)))

theorem isRel1_c (m : Int) (xs : List Int) : CallA Tryz.prog 255 [AI m, .rptr [LI xs]] (.bool (outR xs.length m)) := by
 refine CallA.of Tryz.func255 rfl (by kernel_rfl) ?_
 refine R.go 7 (k14 true (size_c xs) rfl ?_)
 refine R.go 1 (k14 true (isMask_c xs.length m) rfl ?_)
 exact R.go 3 (k17 (.bool (!(!(outR xs.length m)))) (by first | (apply congrArg AV.bool; simp) | (exfalso; omega)))

theorem indexI_c (a : List Int) (xs : List Int) (hl : a.length ≤ 1000000000) : CallA Tryz.prog 172 [LI a, .fn 255 [.rptr [LI xs]]] (AI (fidxI (outR xs.length) a 0)) := by
 refine CallA.of Tryz.func172 rfl (by kernel_rfl) ?_
 refine R.go 12 (k15 (fun (i : Nat) => (⟨(frm 19 [(0, LI a), (1, .fn 255 [.rptr [LI xs]]), (7, AI a.length), (8, AI (i : Int))]), []⟩ : St)) (fun (i : Nat) => (i ≤ a.length) ∧ (fidxI (outR xs.length) a 0 = fidxI (outR xs.length) (a.drop i) i)) (fun (i : Nat) => a.length - i) 0 [0, 1, 7, 8] none ⟨(by omega), (by rfl)⟩ ?_)
 rintro i ⟨h3_1, h3_2⟩ R1 N2
 refine R.go 5 (k3 ((i : Int) < (a.length : Int)) (fun c4 => ?_) (fun c4 => ?_))
 ·refine R.go 13 (k8 eI a 0 i (i : Int) rfl eI_len ?_)
  refine R.go 1 (k14 true (isRel1_c (a.getD i 0) xs) rfl ?_)
  refine R.go 1 (R.condB (outR xs.length (a.getD i 0)) (by kernel_rfl) (fun c5 => ?_) (fun c5 => ?_))
  ·exact R.go 5 (k17 (AI (i : Int)) (by first | (apply congrArg AI; rw [‹fidxI (outR xs.length) a 0 = _›]; first | exact (fidxI_end (by omega)).symm | exact (fidxI_hit (by omega) (by assumption)).symm) | (exfalso; omega)))
  ·refine R.go 3 (k1 ((i : Int) + 1) ?_)
   exact R.go 2 (k16 R1 (N2 (i + 1) [0, 1, 7, 8] none _ (by kernel_rfl) (by kernel_rfl) ⟨(by omega), (by rw [‹fidxI (outR xs.length) a 0 = _›]; exact fidxI_miss (by omega) (by assumption))⟩ (by show (a.length - (i + 1)) < (a.length - i); omega)))
 ·exact R.go 5 (k17 (AI (-1)) (by first | (apply congrArg AI; rw [‹fidxI (outR xs.length) a 0 = _›]; first | exact (fidxI_end (by omega)).symm | exact (fidxI_hit (by omega) (by assumption)).symm) | (exfalso; omega)))

theorem containsI_c (a : List Int) (xs : List Int) (hl : a.length ≤ 1000000000) : CallA Tryz.prog 77 [LI a, .fn 255 [.rptr [LI xs]]] (.bool (a.any (outR xs.length))) := by
 refine CallA.of Tryz.func77 rfl (by kernel_rfl) ?_
 refine R.go 8 (k14 true (indexI_c a xs hl) rfl ?_)
 exact R.go 3 (k17 (.bool (decide ((fidxI (outR xs.length) a 0) ≥ 0))) (by first | (apply congrArg AV.bool; rw [Bool.eq_iff_iff, decide_eq_true_iff]; exact fidxI_any (Int.le_refl 0)) | (exfalso; omega)))

theorem isRelation_c (xs : List Int) (hl : xs.length ≤ 1000000000) : CallA Tryz.prog 148 [LI xs] (.bool (!(xs.any (outR xs.length)))) := by
 refine CallA.of Tryz.func148 rfl (by kernel_rfl) ?_
 refine R.go 9 (k14 false (containsI_c xs xs hl) rfl ?_)
 exact R.go 3 (k17 (.bool (!(xs.any (outR xs.length)))) (by rfl))

theorem l01Masks_c (n : Int) (xs : List Int) (hl : xs.length ≤ 1000000000) (h0 : 0 ≤ n) (h1 : n ≤ 62) : CallA Tryz.prog 110 [AI n, LI xs] (.bool (!(xs.any fun m => !inR m 0 ((shl64 1 n) - 1)))) := by
 refine CallA.of Tryz.func110 rfl (by kernel_rfl) ?_
 refine R.go 10 (k15 (fun (i : Nat) => (⟨(frm 20 [(0, AI n), (1, LI xs), (5, AI (i : Int))]), []⟩ : St)) (fun (i : Nat) => (i ≤ xs.length) ∧ ((xs.any fun m => !inR m 0 ((shl64 1 n) - 1)) = (xs.drop i).any fun m => !inR m 0 ((shl64 1 n) - 1))) (fun (i : Nat) => xs.length - i) 0 [0, 1, 5] none ⟨(by omega), (by rfl)⟩ ?_)
 rintro i ⟨h3_1, h3_2⟩ R1 N2
 refine R.go 8 (k3 ((i : Int) < (xs.length : Int)) (fun c4 => ?_) (fun c4 => ?_))
 ·refine R.go 7 (k8 eI xs 0 i (i : Int) rfl eI_len ?_)
  refine R.go 2 (k14 true (l01Full_c n h0 h1) rfl ?_)
  refine k14 true (l01In_c (xs.getD i 0) 0 ((shl64 1 n) - 1)) rfl ?_
  refine R.go 2 (k19 (inR (xs.getD i 0) 0 ((shl64 1 n) - 1)) (fun c5 => ?_) (fun c5 => ?_))
  ·exact R.go 4 (k17 (.bool false) (by first | (apply congrArg AV.bool; rw [‹(xs.any fun m => !inR m 0 ((shl64 1 n) - 1)) = _›]; first | (rw [anyI_end (by omega)]; rfl) | (rw [anyI_hit (by omega) (by simpa using ‹inR _ _ _ = false›)]; rfl)) | (exfalso; omega)))
  ·refine R.go 4 (k1 ((i : Int) + 1) ?_)
   exact R.go 2 (k16 R1 (N2 (i + 1) [0, 1, 5] none _ (by kernel_rfl) (by kernel_rfl) ⟨(by omega), (by rw [‹(xs.any fun m => !inR m 0 ((shl64 1 n) - 1)) = _›]; exact anyI_miss (p := fun m => !inR m 0 ((shl64 1 n) - 1)) (by omega) (by simpa using ‹inR _ _ _ = true›))⟩ (by show (xs.length - (i + 1)) < (xs.length - i); omega)))
 ·exact R.go 5 (k17 (.bool true) (by first | (apply congrArg AV.bool; rw [‹(xs.any fun m => !inR m 0 ((shl64 1 n) - 1)) = _›]; first | (rw [anyI_end (by omega)]; rfl) | (rw [anyI_hit (by omega) (by simpa using ‹inR _ _ _ = false›)]; rfl)) | (exfalso; omega)))

theorem has_c (m : Int) (i : Int) (h0 : 0 ≤ i) : CallA Tryz.prog 208 [AI m, AI i] (.bool (decide (band (shr64 m i) 1 = 1))) := by
 refine CallA.of Tryz.func208 rfl (by kernel_rfl) ?_
 refine R.go 8 (R.shr m i (by kernel_rfl) (by omega) (by kernel_rfl) ?_)
 exact R.go 4 (k17 (.bool (decide ((band (shr64 m i) 1) = 1))) (by first | (rfl) | (exfalso; omega)))

theorem l01Bit_c (m : Int) (i : Int) (h0 : 0 ≤ i) (h1 : i ≤ 62) : CallA Tryz.prog 212 [AI m, AI i] (.bool (decide (band (shr64 m i) 1 = 1))) := by
 refine CallA.of Tryz.func212 rfl (by kernel_rfl) ?_
 refine R.go 8 (k2 .u64 i (u64_id (by omega) (by omega)) ?_)
 refine R.shr m i (by kernel_rfl) (by omega) (by kernel_rfl) ?_
 exact R.go 4 (k17 (.bool (decide ((band (shr64 m i) 1) = 1))) (by first | (rfl) | (exfalso; omega)))

theorem clone_c (xs : List Int) (hl : xs.length ≤ 1000000000) : CallA Tryz.prog 187 [LI xs] (ownA eI 2 1 xs) := by
 refine CallA.of Tryz.func187 rfl (by kernel_rfl) ?_
 refine R.go 8 (R.isNil xs.length (by kernel_rfl) (by kernel_rfl) (fun c1 => ?_) ?_)
 ·refine R.go 6 (R.nil 2 2 1 (by kernel_rfl) ?_)
  exact k17 (ownA eI 2 1 []) (by first | (first | rfl | rw [List.eq_nil_of_length_eq_zero (l := xs) (by assumption)]) | (exfalso; omega))
 ·refine R.go 7 (k12 eI [] xs 0 2 1 8 eI_one ?_)
  exact R.go 2 (k17 (ownA eI 2 1 ([] ++ xs)) (by first | (first | rfl | rw [List.eq_nil_of_length_eq_zero (l := xs) (by assumption)]) | (exfalso; omega)))

theorem l01Image_c (xs : List Int) (m : Int) (hl : xs.length ≤ 60) : CallA Tryz.prog 276 [LI xs, AI m] (AI (img xs m xs.length)) := by
 refine CallA.of Tryz.func276 rfl (by kernel_rfl) ?_
 refine R.go 14 (k15 ((fun | (i, r) => (⟨(frm 23 [(0, LI xs), (1, AI m), (5, AI r), (6, AI (i : Int))]), []⟩ : St) : Nat × Int → St)) (fun | (i, r) => (i ≤ xs.length) ∧ (r = img xs m i)) (fun | (i, r) => xs.length - i) (0, 0) [0, 1, 5, 6] none ⟨(by omega), (by rfl)⟩ ?_)
 rintro ⟨i, r⟩ ⟨h4_1, h4_2⟩ R1 N2
 refine R.go 8 (k3 ((i : Int) < (xs.length : Int)) (fun c5 => ?_) (fun c5 => ?_))
 ·refine R.go 7 (k14 true (l01Bit_c m (i : Int) (by omega) (by omega)) rfl ?_)
  refine R.go 1 (k3 (band (shr64 m (i : Int)) 1 = 1) (fun c6 => ?_) (fun c6 => ?_))
  ·refine R.go 4 (k8 eI xs 0 i (i : Int) rfl eI_len ?_)
   refine R.go 7 (k1 ((i : Int) + 1) ?_)
   exact R.go 2 (k16 R1 (N2 (i + 1, bor r (xs.getD i 0)) [0, 1, 5, 6] none _ (by kernel_rfl) (by kernel_rfl) ⟨(by omega), (by first | (rw [img, if_pos ‹band (shr64 m (i : Int)) 1 = 1›, ← ‹r = img xs m i›]) | (rw [img, if_neg ‹¬ band (shr64 m (i : Int)) 1 = 1›]; assumption))⟩ (by show (xs.length - (i + 1)) < (xs.length - i); omega)))
  ·refine R.go 4 (k1 ((i : Int) + 1) ?_)
   exact R.go 2 (k16 R1 (N2 (i + 1, r) [0, 1, 5, 6] none _ (by kernel_rfl) (by kernel_rfl) ⟨(by omega), (by first | (rw [img, if_pos ‹band (shr64 m (i : Int)) 1 = 1›, ← ‹r = img xs m i›]) | (rw [img, if_neg ‹¬ band (shr64 m (i : Int)) 1 = 1›]; assumption))⟩ (by show (xs.length - (i + 1)) < (xs.length - i); omega)))
 ·exact R.go 6 (k17 (AI r) (by first | (rw [‹r = img xs m i›, show i = xs.length by omega]) | (exfalso; omega)))

theorem transitive_c (xs : List Int) (hl : xs.length ≤ 60) : CallA Tryz.prog 261 [LI xs] (ownA eI 2 1 (wout xs xs.length)) := by
 refine CallA.of Tryz.func261 rfl (by kernel_rfl) ?_
 refine R.go 7 (k14 true (clone_c xs (by first | omega | (simp <;> omega))) rfl ?_)
 refine R.go 10 (k15 ((fun | (j, out) => (⟨(frm 37 [(3, .ref 0), (9, AI xs.length), (10, AI (j : Int))]), [rowA eI 2 1 out]⟩ : St) : Nat × (List Int) → St)) (fun | (j, out) => (j ≤ xs.length) ∧ (out = wout xs j)) (fun | (j, out) => xs.length - j) (0, xs) [3, 9, 10] none ⟨(by omega), (by rfl)⟩ ?_)
 rintro ⟨j, out⟩ ⟨h4_1, h4_2⟩ R1 N2
 have hlen : out.length = xs.length := by rw [‹out = wout xs j›]; exact wout_len xs j
 refine R.go 5 (k3 ((j : Int) < (xs.length : Int)) (fun c5 => ?_) (fun c5 => ?_))
 ·refine R.go 15 (k15 ((fun | (i, o2) => (⟨(frm 37 [(3, .ref 0), (4, AI (j : Int)), (9, AI xs.length), (10, AI (j : Int)), (14, AI out.length), (15, AI (i : Int))]), [rowA eI 2 1 o2]⟩ : St) : Nat × (List Int) → St)) (fun | (i, o2) => (i ≤ xs.length) ∧ (o2 = win out j i)) (fun | (i, o2) => xs.length - i) (0, out) [3, 4, 9, 10, 14, 15] none ⟨(by omega), (by rfl)⟩ ?_)
  rintro ⟨i, o2⟩ ⟨h9_1, h9_2⟩ R6 N7
  have hlen2 : o2.length = xs.length := by rw [‹o2 = win out j i›, win_len]; exact hlen
  refine R.go 5 (k3 ((i : Int) < (out.length : Int)) (fun c10 => ?_) (fun c10 => ?_))
  ·refine R.go 12 (k9 0 1 o2.length i (i : Int) ?_ (hji := rfl))
   refine k10 o2 i ?_
   refine R.go 1 (k14 true (has_c (o2.getD i 0) (j : Int) (by omega)) rfl ?_)
   refine R.go 1 (k3 (band (shr64 (o2.getD i 0) (j : Int)) 1 = 1) (fun c11 => ?_) (fun c11 => ?_))
   ·refine R.go 3 (k9 0 1 o2.length i (i : Int) ?_ (hji := rfl))
    refine k10 o2 i ?_
    refine R.go 2 (k9 0 1 o2.length j (j : Int) ?_ (hji := rfl))
    refine k10 o2 j ?_
    refine R.go 1 (k9 0 1 o2.length i (i : Int) ?_ (hji := rfl))
    refine k11 0 2 o2 i (bor (o2.getD i 0) (o2.getD j 0)) ?_
    refine R.go 3 (k1 ((i : Int) + 1) ?_)
    exact R.go 2 (k16 R6 (N7 (i + 1, o2.set i (bor (o2.getD i 0) (o2.getD j 0))) [3, 4, 9, 10, 14, 15] none _ (by kernel_rfl) (by kernel_rfl) ⟨(by omega), (by first | (rw [win, wrow, ← ‹o2 = win out j i›, if_pos ‹band (shr64 (o2.getD i 0) (j : Int)) 1 = 1›]) | (rw [win, wrow, ← ‹o2 = win out j i›, if_neg ‹¬ band (shr64 (o2.getD i 0) (j : Int)) 1 = 1›]))⟩ (by show (xs.length - (i + 1)) < (xs.length - i); omega)))
   ·refine R.go 3 (k1 ((i : Int) + 1) ?_)
    exact R.go 2 (k16 R6 (N7 (i + 1, o2) [3, 4, 9, 10, 14, 15] none _ (by kernel_rfl) (by kernel_rfl) ⟨(by omega), (by first | (rw [win, wrow, ← ‹o2 = win out j i›, if_pos ‹band (shr64 (o2.getD i 0) (j : Int)) 1 = 1›]) | (rw [win, wrow, ← ‹o2 = win out j i›, if_neg ‹¬ band (shr64 (o2.getD i 0) (j : Int)) 1 = 1›]))⟩ (by show (xs.length - (i + 1)) < (xs.length - i); omega)))
  ·refine R.go 3 (k1 ((j : Int) + 1) ?_)
   exact R.go 2 (k16 R1 (N2 (j + 1, o2) [3, 9, 10] none _ (by kernel_rfl) (by kernel_rfl) ⟨(by omega), (by rw [wout, ← ‹out = wout xs j›, ← show i = xs.length by omega]; assumption)⟩ (by show (xs.length - (j + 1)) < (xs.length - j); omega)))
 ·exact R.go 6 (k17 (ownA eI 2 1 out) (by first | (rw [‹out = wout xs j›, show j = xs.length by omega]) | (exfalso; omega)))

end Go.Proofs.YtjllngcefoohpaaGreat


/-! Members of masks. -/
namespace Go.Proofs.YtjllngcefoohpaaGreat
open Go.RowKit Go.Abs

/-- The members of a mask below i. -/
def memN (m : Int) : Nat → List Int
  | 0 => []
  | i + 1 => if tb m i = true then memN m i ++ [(i : Int)] else memN m i
def mem (m : Int) : List Int := memN m 62
theorem memN_yes {m : Int} {i : Nat} (h : tb m i = true) : memN m (i + 1) = memN m i ++ [(i : Int)] := by rw [memN, if_pos h]
theorem memN_no {m : Int} {i : Nat} (h : ¬ tb m i = true) : memN m (i + 1) = memN m i := by rw [memN, if_neg h]
theorem memN_mem {m : Int} {v : Int} : ∀ {i : Nat}, v ∈ memN m i ↔ ∃ j : Nat, j < i ∧ tb m j = true ∧ v = (j : Int)
  | 0 => by simp [memN]
  | i + 1 => by
    have ih := memN_mem (m := m) (v := v) (i := i)
    by_cases h : tb m i = true
    · rw [memN_yes h, List.mem_append, ih, List.mem_singleton]
      constructor
      · rintro (⟨j, a, b, c⟩ | h2)
        · exact ⟨j, by omega, b, c⟩
        · exact ⟨i, by omega, h, h2⟩
      · rintro ⟨j, a, b, c⟩
        by_cases hji : j = i
        · subst hji; exact .inr c
        · exact .inl ⟨j, by omega, b, c⟩
    · rw [memN_no h, ih]
      constructor
      · rintro ⟨j, a, b, c⟩; exact ⟨j, by omega, b, c⟩
      · rintro ⟨j, a, b, c⟩
        by_cases hji : j = i
        · subst hji; exact absurd b h
        · exact ⟨j, by omega, b, c⟩
theorem memN_len (m : Int) : ∀ i : Nat, (memN m i).length ≤ i
  | 0 => Nat.le_refl _
  | i + 1 => by
    have ih := memN_len m i
    rw [memN]
    split
    · simp; omega
    · omega
theorem memN_asc (m : Int) : ∀ i : Nat, (memN m i).Pairwise (· < ·)
  | 0 => List.Pairwise.nil
  | i + 1 => by
    have ih := memN_asc m i
    rw [memN]
    split
    · refine List.pairwise_append.2 ⟨ih, List.pairwise_singleton _ _, fun a ha b hb => ?_⟩
      rw [List.mem_singleton] at hb
      obtain ⟨j, h1, _, rfl⟩ := memN_mem.1 ha
      omega
    · exact ih
theorem memN_nodup (m : Int) (i : Nat) : (memN m i).Nodup := (memN_asc m i).imp fun h => by omega
theorem memN_stop {m : Int} {i : Nat} (h : ∀ j, i ≤ j → tb m j = false) : ∀ {k : Nat}, i ≤ k → memN m k = memN m i := by
  intro k hk
  induction k with
  | zero => rw [show i = 0 by omega]
  | succ k ih =>
    by_cases hki : i = k + 1
    · rw [hki]
    · rw [memN_no (by rw [h k (by omega)]; decide), ih (by omega)]
theorem inM61 {m : Int} (h0 : 0 ≤ m) (h1 : m ≤ 2305843009213693951) : InM 61 m := ⟨h0, by
  have : (2 : Nat) ^ 61 = 2305843009213693952 := by decide
  omega⟩
theorem inM61_le {m : Int} (h : InM 61 m) : 0 ≤ m ∧ m ≤ 2305843009213693951 := ⟨h.1, by
  have : (2 : Nat) ^ 61 = 2305843009213693952 := by decide
  have := h.2
  omega⟩
theorem inM_mono {n n' : Nat} {m : Int} (hn : n ≤ n') (h : InM n m) : InM n' m := ⟨h.1, Nat.lt_of_lt_of_le h.2 (Nat.pow_le_pow_right (by decide) hn)⟩
theorem shr_rng {m : Int} (h : InM 61 m) {i : Nat} (hi : i ≤ 62) : 0 ≤ shr64 m (i : Int) ∧ shr64 m (i : Int) ≤ m := by
  obtain ⟨a, rfl, ha⟩ := inM_nat h
  rw [shr_nat hi]
  exact ⟨Int.natCast_nonneg _, Int.ofNat_le.2 (Nat.div_le_self a (2 ^ i))⟩
theorem shr_pos {m : Int} (h : InM 61 m) {i : Nat} (hi : i ≤ 62) (hp : shr64 m (i : Int) > 0) : i < 61 := by
  obtain ⟨a, rfl, ha⟩ := inM_nat h
  rw [shr_nat hi] at hp
  have h1 : 0 < a / 2 ^ i := by
    generalize a / 2 ^ i = q at hp ⊢
    omega
  rw [Nat.div_pos_iff] at h1
  have h2 : 2 ^ i < 2 ^ 61 := by omega
  exact (Nat.pow_lt_pow_iff_right (by decide)).1 h2
theorem mem_end {m : Int} (h : InM 61 m) {i : Nat} (hi : i ≤ 61) (hp : ¬ shr64 m (i : Int) > 0) : memN m i = mem m := by
  refine (memN_stop (fun j hj => ?_) (by omega)).symm
  obtain ⟨a, rfl, ha⟩ := inM_nat h
  rw [shr_nat (by omega)] at hp
  have h1 : a < 2 ^ i := by
    have h2 : a / 2 ^ i = 0 := by
      generalize a / 2 ^ i = q at hp ⊢
      omega
    rcases Nat.div_eq_zero_iff.1 h2 with h | h
    · exact absurd h (Nat.ne_of_gt (Nat.two_pow_pos i))
    · exact h
  exact Nat.testBit_lt_two_pow (Nat.lt_of_lt_of_le h1 (Nat.pow_le_pow_right (by decide) hj))
theorem shr_half {m : Int} (h : InM 61 m) {i : Nat} (hi : i ≤ 61) : shr64 m (i : Int) / 2 = shr64 m ((i : Int) + 1) := by
  obtain ⟨a, rfl, ha⟩ := inM_nat h
  rw [shr_nat (by omega), show (i : Int) + 1 = ((i + 1 : Nat) : Int) by omega, shr_nat (by omega), Nat.pow_succ, ← Nat.div_div_eq_div_mul]
  omega
theorem shr_odd {m : Int} (h : InM 61 m) {i : Nat} (hi : i ≤ 61) : shr64 m (i : Int) % 2 = 1 ↔ tb m i = true := by
  obtain ⟨a, rfl, ha⟩ := inM_nat h
  rw [shr_nat (by omega)]
  simp only [tb, Int.toNat_natCast, Nat.testBit_eq_decide_div_mod_eq, decide_eq_true_eq]
  omega
theorem shr_0 {m : Int} (h : InM 61 m) : shr64 m ((0 : Nat) : Int) = m := by
  obtain ⟨a, rfl, ha⟩ := inM_nat h
  rw [shr_nat (by omega)]
  simp
theorem mem_le (m : Int) : (mem m).length ≤ 62 := memN_len m 62

theorem membersOf_c (m : Int) (hm : InM 61 m) : CallA Tryz.prog 136 [AI m] (ownA eI 2 1 (mem m)) := by
 refine CallA.of Tryz.func136 rfl (by kernel_rfl) ?_
 refine R.go 14 (R.nil 3 2 1 (by kernel_rfl) ?_)
 refine k15 ((fun | (i, out) => (⟨(frm 19 [(0, AI m), (3, .ref 0), (4, AI (i : Int))]), [rowA eI 2 1 out]⟩ : St) : Nat × (List Int) → St)) (fun | (i, out) => (i ≤ 61) ∧ (out = memN m i) ∧ (out.length ≤ i)) (fun | (i, out) => 61 - i) (0, []) [0, 3, 4] none ⟨(by omega), (by rfl), (by simp)⟩ ?_
 rintro ⟨i, out⟩ ⟨h4_1, h4_2, h4_3⟩ R1 N2
 refine R.go 5 (R.shr m (i : Int) (by kernel_rfl) (by omega) (by kernel_rfl) ?_)
 refine R.go 2 (k3 ((shr64 m (i : Int)) > 0) (fun c5 => ?_) (fun c5 => ?_))
 ·refine R.go 7 (k14 true (has_c m (i : Int) (by omega)) rfl ?_)
  refine R.go 1 (k3 (band (shr64 m (i : Int)) 1 = 1) (fun c6 => ?_) (fun c6 => ?_))
  ·refine R.go 4 (k12 eI out [(i : Int)] 0 2 1 8 eI_one ?_)
   refine R.go 5 (k1 ((i : Int) + 1) ?_)
   exact R.go 2 (k16 R1 (N2 (i + 1, out ++ [(i : Int)]) [0, 3, 4] (some [0]) _ (by kernel_rfl) (by kernel_rfl) ⟨(by have := shr_pos hm (by omega) ‹shr64 m (i : Int) > 0›; omega), (by first | (rw [‹out = memN m i›, memN_yes ((has_tb (by decide) hm (by omega)).1 ‹band (shr64 m (i : Int)) 1 = 1›)]) | (rw [‹out = memN m i›, memN_no (fun h => ‹¬ band (shr64 m (i : Int)) 1 = 1› ((has_tb (by decide) hm (by omega)).2 h))])), (by first | omega | (simp <;> omega))⟩ (by show (61 - (i + 1)) < (61 - i); have := shr_pos hm (by omega) ‹shr64 m (i : Int) > 0›; omega)))
  ·refine R.go 4 (k1 ((i : Int) + 1) ?_)
   exact R.go 2 (k16 R1 (N2 (i + 1, out) [0, 3, 4] none _ (by kernel_rfl) (by kernel_rfl) ⟨(by have := shr_pos hm (by omega) ‹shr64 m (i : Int) > 0›; omega), (by first | (rw [‹out = memN m i›, memN_yes ((has_tb (by decide) hm (by omega)).1 ‹band (shr64 m (i : Int)) 1 = 1›)]) | (rw [‹out = memN m i›, memN_no (fun h => ‹¬ band (shr64 m (i : Int)) 1 = 1› ((has_tb (by decide) hm (by omega)).2 h))])), (by first | omega | (simp <;> omega))⟩ (by show (61 - (i + 1)) < (61 - i); have := shr_pos hm (by omega) ‹shr64 m (i : Int) > 0›; omega)))
 ·exact R.go 6 (k17 (ownA eI 2 1 out) (by first | (rw [‹out = memN m i›, mem_end hm (by omega) (by assumption)]) | (exfalso; omega)))

theorem l01ListM_c (m : Int) (hm : InM 61 m) : CallA Tryz.prog 224 [AI m] (ownA eI 2 1 (mem m)) := by
 have hm2 := inM61_le hm
 refine CallA.of Tryz.func224 rfl (by kernel_rfl) ?_
 refine R.go 15 (k15 ((fun | (i, out, m') => (⟨(frm 20 [(0, AI m'), (3, .ref 0), (4, AI (i : Int))]), [rowA eI 2 1 out]⟩ : St) : Nat × (List Int) × Int → St)) (fun | (i, out, m') => (i ≤ 61) ∧ (out = memN m i) ∧ (out.length ≤ i) ∧ (m' = shr64 m (i : Int))) (fun | (i, out, m') => 61 - i) (0, [], m) [0, 3, 4] none ⟨(by omega), (by rfl), (by simp), (by exact (shr_0 hm).symm)⟩ ?_)
 rintro ⟨i, out, m'⟩ ⟨h4_1, h4_2, h4_3, h4_4⟩ R1 N2
 have hr := shr_rng hm (i := i) (by omega)
 have hm2 := inM61_le hm
 have hp := fun h : m' > 0 => shr_pos hm (i := i) (by omega) (by omega)
 have ho := shr_odd hm (i := i) (by omega)
 have hf := shr_half hm (i := i) (by omega)
 refine R.go 6 (k3 (m' > 0) (fun c5 => ?_) (fun c5 => ?_))
 ·refine R.go 7 (R.rem m' 2 (by kernel_rfl) (by omega) (by omega) (by kernel_rfl) ?_)
  refine R.go 2 (k3 ((m' % 2) = 1) (fun c6 => ?_) (fun c6 => ?_))
  ·refine R.go 4 (k12 eI out [(i : Int)] 0 2 1 8 eI_one ?_)
   refine R.go 4 (k1 ((i : Int) + 1) ?_)
   refine R.go 5 (R.quo m' 2 (by kernel_rfl) (by omega) (by omega) (by omega) (by kernel_rfl) ?_)
   exact R.go 2 (k16 R1 (N2 (i + 1, out ++ [(i : Int)], m' / 2) [0, 3, 4] (some [0]) _ (by kernel_rfl) (by kernel_rfl) ⟨(by have := hp (by assumption); omega), (by first | (rw [‹out = memN m i›, memN_yes (ho.1 (by omega))]) | (rw [‹out = memN m i›, memN_no (fun h => absurd (ho.2 h) (by omega))])), (by first | omega | (simp <;> omega)), (by rw [‹m' = shr64 m (i : Int)›, hf]; rfl)⟩ (by show (61 - (i + 1)) < (61 - i); have := hp (by assumption); omega)))
  ·refine R.go 3 (k1 ((i : Int) + 1) ?_)
   refine R.go 5 (R.quo m' 2 (by kernel_rfl) (by omega) (by omega) (by omega) (by kernel_rfl) ?_)
   exact R.go 2 (k16 R1 (N2 (i + 1, out, m' / 2) [0, 3, 4] none _ (by kernel_rfl) (by kernel_rfl) ⟨(by have := hp (by assumption); omega), (by first | (rw [‹out = memN m i›, memN_yes (ho.1 (by omega))]) | (rw [‹out = memN m i›, memN_no (fun h => absurd (ho.2 h) (by omega))])), (by first | omega | (simp <;> omega)), (by rw [‹m' = shr64 m (i : Int)›, hf]; rfl)⟩ (by show (61 - (i + 1)) < (61 - i); have := hp (by assumption); omega)))
 ·exact R.go 6 (k17 (ownA eI 2 1 out) (by first | (rw [‹out = memN m i›, mem_end hm (by omega) (by omega)]) | (exfalso; omega)))

end Go.Proofs.YtjllngcefoohpaaGreat


/-! The harness of the laws. -/
namespace Go.Proofs.YtjllngcefoohpaaGreat
open Go.RowKit Go.Abs

theorem take_step {α : Type} (a b : List α) (d : α) (i : Nat) (ha : i < a.length) (hb : i < b.length) (h : a.take i = b.take i) (e : a.getD i d = b.getD i d) : a.take (i + 1) = b.take (i + 1) := by
  rw [List.take_succ_eq_append_getElem ha, List.take_succ_eq_append_getElem hb, h]
  simp only [List.getD_eq_getElem?_getD, List.getElem?_eq_getElem ha, List.getElem?_eq_getElem hb, Option.getD_some] at e
  rw [e]
theorem take_all {α : Type} {a b : List α} {i : Nat} (ha : a.length ≤ i) (hl : a.length = b.length) (h : a.take i = b.take i) : a = b := by
  rwa [List.take_of_length_le ha, List.take_of_length_le (by omega)] at h
end Go.Proofs.YtjllngcefoohpaaGreat


/-! The harness: rows marked and held. -/
namespace Go.Proofs.YtjllngcefoohpaaGreat
open Go.RowKit Go.Abs

/-- k, k + 1, .. as marks. -/
def marks : Nat → Int → List (Int × Int)
  | 0, _ => []
  | n + 1, k => (k, k + 1) :: marks n (k + 2)
end Go.Proofs.YtjllngcefoohpaaGreat


/-! Bits of meets, differences and boxes; truth sets stay within the worlds. -/
namespace Go.Proofs.YtjllngcefoohpaaGreat
open Go.RowKit Go.Abs

theorem tb_nat (a i : Nat) : tb (a : Int) i = a.testBit i := rfl
theorem inM_band {n : Nat} {a b : Int} (hn : n ≤ 61) (ha : InM n a) (hb : InM n b) : InM n (band a b) := by
  obtain ⟨a, rfl, ha'⟩ := inM_nat ha
  obtain ⟨b, rfl, hb'⟩ := inM_nat hb
  rw [band_nat (inM_62 hn ha') (inM_62 hn hb')]
  exact ⟨Int.natCast_nonneg _, by rw [Int.toNat_natCast]; exact Nat.and_lt_two_pow _ hb'⟩
theorem tb_band {n : Nat} {a b : Int} (hn : n ≤ 61) (ha : InM n a) (hb : InM n b) (i : Nat) : tb (band a b) i = (tb a i && tb b i) := by
  obtain ⟨a, rfl, ha'⟩ := inM_nat ha
  obtain ⟨b, rfl, hb'⟩ := inM_nat hb
  rw [band_nat (inM_62 hn ha') (inM_62 hn hb'), tb_nat, tb_nat, tb_nat, Nat.testBit_and]
theorem bnot_nat {a b : Nat} (ha : a < 2 ^ 62) (hb : b < 2 ^ 62) : ∃ c : Nat, bnot (a : Int) (b : Int) = (c : Int) ∧ c ≤ a ∧ ∀ i, c.testBit i = (a.testBit i && !b.testBit i) := by
  have hx : (BitVec.ofNat 64 a &&& ~~~ BitVec.ofNat 64 b).toNat ≤ a := by
    rw [BitVec.toNat_and, toNat_lt ha]
    exact Nat.and_le_left
  refine ⟨(BitVec.ofNat 64 a &&& ~~~ BitVec.ofNat 64 b).toNat, ?_, hx, fun i => ?_⟩
  · rw [bnot_bv, bv_nat, bv_nat, toInt_lt (Nat.lt_of_le_of_lt hx ha)]
  · rw [BitVec.testBit_toNat, BitVec.getLsbD_and, BitVec.getLsbD_not, BitVec.getLsbD_ofNat, BitVec.getLsbD_ofNat]
    by_cases hi : i < 64
    · simp [hi]
    · have h1 : a.testBit i = false := Nat.testBit_lt_two_pow (Nat.lt_of_lt_of_le ha (Nat.pow_le_pow_right (by decide) (by omega)))
      simp [hi, h1]
theorem inM_bnot {n : Nat} {a b : Int} (hn : n ≤ 61) (ha : InM n a) (hb : InM n b) : InM n (bnot a b) := by
  obtain ⟨a, rfl, ha'⟩ := inM_nat ha
  obtain ⟨b, rfl, hb'⟩ := inM_nat hb
  obtain ⟨c, h1, h2, _⟩ := bnot_nat (inM_62 hn ha') (inM_62 hn hb')
  rw [h1]
  exact ⟨Int.natCast_nonneg _, by rw [Int.toNat_natCast]; omega⟩
theorem tb_bnot {n : Nat} {a b : Int} (hn : n ≤ 61) (ha : InM n a) (hb : InM n b) (i : Nat) : tb (bnot a b) i = (tb a i && !tb b i) := by
  obtain ⟨a, rfl, ha'⟩ := inM_nat ha
  obtain ⟨b, rfl, hb'⟩ := inM_nat hb
  obtain ⟨c, h1, _, h3⟩ := bnot_nat (inM_62 hn ha') (inM_62 hn hb')
  rw [h1, tb_nat, tb_nat, tb_nat, h3]
theorem full_nat {n : Nat} (hn : n ≤ 61) : (shl64 1 (n : Int)) - 1 = ((2 ^ n - 1 : Nat) : Int) := by
  rw [shl_nat (by omega)]
  have := Nat.two_pow_pos n
  omega
theorem inM_full {n : Nat} (hn : n ≤ 61) : InM n ((shl64 1 (n : Int)) - 1) := by
  rw [full_nat hn]
  have := Nat.two_pow_pos n
  exact ⟨Int.natCast_nonneg _, by rw [Int.toNat_natCast]; omega⟩
theorem tb_full {n : Nat} (hn : n ≤ 61) (i : Nat) : tb ((shl64 1 (n : Int)) - 1) i = decide (i < n) := by
  rw [full_nat hn, tb_nat, Nat.testBit_two_pow_sub_one]
theorem boxB_ok {n : Nat} {xs : List Int} {m : Int} (hn : n ≤ 61) (h : RelOK n xs) (hm : InM n m) : ∀ i, i ≤ n → InM n (boxB xs m i) ∧ ∀ k, tb (boxB xs m i) k = true ↔ k < i ∧ ∀ j, tb (xs.getD k 0) j = true → tb m j = true
  | 0, _ => ⟨inM_zero n, fun k => by simp [boxB, tb_zero]⟩
  | i + 1, hi => by
    obtain ⟨h1, h2⟩ := boxB_ok hn h hm i (by omega)
    have hb := bnot_sub hn (h.2 i (by omega)) hm
    have hI := inM_one (n := n) hn (show i < n by omega)
    simp only [boxB]
    split
    · rename_i hc
      refine ⟨inM_bor hn h1 hI, fun k => ?_⟩
      rw [tb_bor hn h1 hI, Bool.or_eq_true, h2 k, tb_one (by omega), decide_eq_true_iff]
      constructor
      · rintro (⟨a, b⟩ | rfl)
        · exact ⟨by omega, b⟩
        · exact ⟨by omega, hb.1 hc⟩
      · rintro ⟨a, b⟩
        by_cases hki : i = k
        · exact .inr hki
        · exact .inl ⟨by omega, b⟩
    · rename_i hc
      refine ⟨h1, fun k => ?_⟩
      rw [h2 k]
      constructor
      · rintro ⟨a, b⟩; exact ⟨by omega, b⟩
      · rintro ⟨a, b⟩
        by_cases hki : k = i
        · subst hki; exact absurd (hb.2 b) hc
        · exact ⟨by omega, b⟩

end Go.Proofs.YtjllngcefoohpaaGreat
