/- Texts of the proof: SRT, Symg, HP3, HP4. -/
import Derived.Laws.Concat
import Derived.Laws.BytesString
import Derived.Test.YtjllngcefoohpaaGreatPartO

/-! slices.Sort at rows of integers: where the library's functions lie in this program, and its contract. -/
namespace Go.Proofs.YtjllngcefoohpaaGreat
open Go.RowKit Go.Abs

def srtR : Go.Shelf.Ren := { f := fun x => match x with | 5 => 60 | 8 => 147 | 7 => 146 | 19 => 253 | 20 => 254 | 10 => 244 | 11 => 245 | 12 => 246 | 13 => 247 | 14 => 248 | 15 => 249 | 16 => 250 | 17 => 251 | 18 => 252 | 30 => 326 | 31 => 327 | 32 => 328 | 33 => 329 | 34 => 330 | 35 => 306 | 40 => 345 | n => n, t := fun x => match x with | 23 => 30 | 25 => 2 | 3 => 3 | 32 => 109 | 22 => 30 | 0 => 0 | 44 => 228 | 46 => 33 | 4 => 4 | 36 => 221 | 35 => 220 | 41 => 225 | 5 => 5 | 9 => 9 | 53 => 260 | 57 => 264 | 63 => 273 | 64 => 274 | n => n, g := fun n => n }
theorem srtLay : SlLaysM.n5 Tryz.prog srtR where
  mixed := by decide +kernel
  f5 := ⟨Tryz.f60.name, by decide, Tryz.func60.trans (congrArg some (by kernel_rfl))⟩
  f7 := ⟨Tryz.f146.name, by decide, Tryz.func146.trans (congrArg some (by kernel_rfl))⟩
  f8 := Tryz.func147.trans (congrArg some (by kernel_rfl))
  f10 := ⟨Tryz.f244.name, by decide, Tryz.func244.trans (congrArg some (by kernel_rfl))⟩
  f11 := ⟨Tryz.f245.name, by decide, Tryz.func245.trans (congrArg some (by kernel_rfl))⟩
  f12 := ⟨Tryz.f246.name, by decide, Tryz.func246.trans (congrArg some (by kernel_rfl))⟩
  f13 := ⟨Tryz.f247.name, by decide, Tryz.func247.trans (congrArg some (by kernel_rfl))⟩
  f14 := ⟨Tryz.f248.name, by decide, Tryz.func248.trans (congrArg some (by kernel_rfl))⟩
  f15 := ⟨Tryz.f249.name, by decide, Tryz.func249.trans (congrArg some (by kernel_rfl))⟩
  f16 := ⟨Tryz.f250.name, by decide, Tryz.func250.trans (congrArg some (by kernel_rfl))⟩
  f17 := ⟨Tryz.f251.name, by decide, Tryz.func251.trans (congrArg some (by kernel_rfl))⟩
  f18 := ⟨Tryz.f252.name, by decide, Tryz.func252.trans (congrArg some (by kernel_rfl))⟩
  f19 := Tryz.func253.trans (congrArg some (by kernel_rfl))
  f20 := Tryz.func254.trans (congrArg some (by kernel_rfl))
  f30 := ⟨Tryz.f326.name, by decide, Tryz.func326.trans (congrArg some (by kernel_rfl))⟩
  f31 := Tryz.func327.trans (congrArg some (by kernel_rfl))
  f32 := Tryz.func328.trans (congrArg some (by kernel_rfl))
  f33 := ⟨Tryz.f329.name, by decide, Tryz.func329.trans (congrArg some (by kernel_rfl))⟩
  f34 := ⟨Tryz.f330.name, by decide, Tryz.func330.trans (congrArg some (by kernel_rfl))⟩
  f35 := ⟨Tryz.f306.name, by decide, Tryz.func306.trans (congrArg some (by kernel_rfl))⟩
  f40 := ⟨Tryz.f345.name, by decide, Tryz.func345.trans (congrArg some (by kernel_rfl))⟩
  t0 := Tryz.underlying0
  a0 := Tryz.isAgg0
  z0 := Tryz.sizeOf0
  v0 := Tryz.zeroValue0
  t3 := Tryz.underlying3
  a3 := Tryz.isAgg3
  z3 := Tryz.sizeOf3
  v3 := Tryz.zeroValue3
  t4 := Tryz.underlying4
  a4 := Tryz.isAgg4
  z4 := Tryz.sizeOf4
  v4 := Tryz.zeroValue4
  t5 := Tryz.underlying5
  a5 := Tryz.isAgg5
  z5 := Tryz.sizeOf5
  v5 := Tryz.zeroValue5
  t9 := Tryz.underlying9
  a9 := Tryz.isAgg9
  z9 := Tryz.sizeOf9
  v9 := Tryz.zeroValue9
  t22 := Tryz.underlying30
  a22 := Tryz.isAgg30
  z22 := Tryz.sizeOf30
  v22 := Tryz.zeroValue30
  t23 := Tryz.underlying30
  a23 := Tryz.isAgg30
  z23 := Tryz.sizeOf30
  v23 := Tryz.zeroValue30
  t25 := Tryz.underlying2
  a25 := Tryz.isAgg2
  z25 := Tryz.sizeOf2
  v25 := Tryz.zeroValue2
  t32 := Tryz.underlying109
  a32 := Tryz.isAgg109
  z32 := Tryz.sizeOf109
  v32 := Tryz.zeroValue109
  t35 := Tryz.underlying220
  a35 := Tryz.isAgg220
  z35 := Tryz.sizeOf220
  v35 := Tryz.zeroValue220
  t36 := Tryz.underlying221
  a36 := Tryz.isAgg221
  z36 := Tryz.sizeOf221
  v36 := Tryz.zeroValue221
  t41 := Tryz.underlying225
  a41 := Tryz.isAgg225
  z41 := Tryz.sizeOf225
  v41 := Tryz.zeroValue225
  t44 := Tryz.underlying228
  a44 := Tryz.isAgg228
  z44 := Tryz.sizeOf228
  v44 := Tryz.zeroValue228
  t46 := Tryz.underlying33
  a46 := Tryz.isAgg33
  z46 := Tryz.sizeOf33
  v46 := Tryz.zeroValue33
  t53 := Tryz.underlying260
  a53 := Tryz.isAgg260
  z53 := Tryz.sizeOf260
  v53 := Tryz.zeroValue260
  t57 := Tryz.underlying264
  a57 := Tryz.isAgg264
  z57 := Tryz.sizeOf264
  v57 := Tryz.zeroValue264
  t63 := Tryz.underlying273
  a63 := Tryz.isAgg273
  z63 := Tryz.sizeOf273
  v63 := Tryz.zeroValue273
  t64 := Tryz.underlying274
  a64 := Tryz.isAgg274
  z64 := Tryz.sizeOf274
  v64 := Tryz.zeroValue274

end Go.Proofs.YtjllngcefoohpaaGreat


/-! The machine's rules: texts joined, compared, made of bytes. -/
namespace Go.Abs
open Go.RowKit

inductive StrOp
  | cat | eql | neq
def strAt (m : M) : Option (StrOp × ByteArray × ByteArray) :=
  match opM m with
  | some (.binOp .add _ x y _) => match ev m.st.fr x, ev m.st.fr y with
    | .str a, .str b => some (.cat, a, b)
    | _, _ => none
  | some (.binOp .eql _ x y _) => match ev m.st.fr x, ev m.st.fr y with
    | .str a, .str b => some (.eql, a, b)
    | _, _ => none
  | some (.binOp .neq _ x y _) => match ev m.st.fr x, ev m.st.fr y with
    | .str a, .str b => some (.neq, a, b)
    | _, _ => none
  | _ => none
def strV : StrOp → ByteArray → ByteArray → AV
  | .cat, a, b => .str (a ++ b)
  | .eql, a, b => .bool (a.toList == b.toList)
  | .neq, a, b => .bool !(a.toList == b.toList)

section
variable {rd : Option Nat} {P : Program} {m : M} {Q : Exit → St → Prop}
theorem R.str (k : StrOp) (a b : ByteArray) (v : AV) (h : strAt m = some (k, a, b)) (ht : quiet0 m = true) (hs : a.size + b.size ≤ 9223372036854775807) (hv : strV k a b = v) (h' : Runs rd P (putM m none v m.st.hp) Q) : Runs rd P m Q := by
  subst hv
  unfold strAt at h
  split at h
  · rename_i t x y ty hop
    split at h
    · rename_i a1 b1 hx hy
      simp only [Option.some.injEq, Prod.mk.injEq] at h
      obtain ⟨rfl, rfl, rfl⟩ := h
      exact R.eff0 hop (.inl (.catS _ _ hx hy hs)) ht h'
    · cases h
  · rename_i t x y ty hop
    split at h
    · rename_i a1 b1 hx hy
      simp only [Option.some.injEq, Prod.mk.injEq] at h
      obtain ⟨rfl, rfl, rfl⟩ := h
      exact R.eff0 hop (.inl (.eqlS _ _ hx hy)) ht h'
    · cases h
  · rename_i t x y ty hop
    split at h
    · rename_i a1 b1 hx hy
      simp only [Option.some.injEq, Prod.mk.injEq] at h
      obtain ⟨rfl, rfl, rfl⟩ := h
      exact R.eff0 hop (.inl (.neqS _ _ hx hy)) ht h'
    · cases h
  · cases h

end
end Go.Abs


/-! Oprema, filters and duals of both programs' algebras. -/
namespace Go.Proofs.YtjllngcefoohpaaGreat
open Go.RowKit Go.Abs

/-- The irreducible elements as numbers. -/
def irI (xs : List Int) : List Int := (irN xs).map fun a : Nat => (a : Int)
theorem irI_len (xs : List Int) : (irI xs).length = (irN xs).length := by simp [irI]
theorem irI_get {xs : List Int} {i : Nat} (h : i < (irN xs).length) : (irI xs).getD i 0 = ((irN xs).getD i 0 : Int) := by
  simp [irI, List.getD_eq_getElem?_getD, List.getElem?_eq_getElem h]
theorem memN_fil (m : Int) : ∀ i, memN m i = ((List.range i).filter fun j => tb m j).map fun j : Nat => (j : Int)
  | 0 => rfl
  | i + 1 => by
    rw [memN, memN_fil m i, List.range_succ, List.filter_append, List.map_append]
    by_cases h : tb m i = true
    · rw [if_pos h]; simp [h]
    · rw [if_neg h]; simp [h]
theorem fil_ext {p q : Nat → Bool} {N d : Nat} (h1 : ∀ j, p j = true → j < N) (h2 : ∀ j, j < N → p j = q j) : (List.range (N + d)).filter p = (List.range N).filter q := by
  rw [List.range_add, List.filter_append, show ((List.range d).map (N + ·)).filter p = [] from ?_, List.append_nil]
  · exact List.filter_congr fun j hj => h2 j (List.mem_range.1 hj)
  · rw [List.filter_eq_nil_iff]
    intro j hj hp
    obtain ⟨k, _, rfl⟩ := List.mem_map.1 hj
    have := h1 _ hp
    omega
theorem mem_ir {xs : List Int} {m : Int} (h30 : xs.length ≤ 30) (h : ∀ j, tb m j = true ↔ j < xs.length ∧ irB xs j = true) : mem m = irI xs := by
  rw [mem, memN_fil, irI, irN, show (62 : Nat) = xs.length + (62 - xs.length) by omega, fil_ext (q := irB xs) (fun j hj => ((h j).1 hj).1) fun j hj => ?_]
  rw [Bool.eq_iff_iff, h j]
  exact ⟨fun q => q.2, fun q => ⟨hj, q⟩⟩
/-- A join of two others, among those seen so far. -/
def jnP (xs : List Int) (y z k : Nat) : Prop := ∃ a b, ((a < y ∧ b < xs.length) ∨ (a = y ∧ b < z)) ∧ jX xs a b = k ∧ k ≠ a ∧ k ≠ b
theorem jn_0 {xs : List Int} {k : Nat} : tb 0 k = true ↔ jnP xs 0 0 k := by
  rw [tb_zero]
  constructor
  · intro h; cases h
  · rintro ⟨a, b, h | h, _⟩ <;> omega
theorem jn_row {xs : List Int} {y z k : Nat} (h : z = xs.length) : jnP xs y z k ↔ jnP xs (y + 1) 0 k := by
  subst h
  constructor
  · rintro ⟨a, b, h, r⟩
    exact ⟨a, b, .inl (by omega), r⟩
  · rintro ⟨a, b, h, r⟩
    exact ⟨a, b, by omega, r⟩
theorem jn_y {xs : List Int} {y z : Nat} {jm x : Int} (hx : x = (jX xs y z : Int)) (hl : jX xs y z < xs.length) (h30 : xs.length ≤ 30) (hm : InM xs.length jm) (h1 : ¬ x = (y : Int)) (h2 : ¬ x = (z : Int)) (h : ∀ k, tb jm k = true ↔ jnP xs y z k) : InM xs.length (bor jm (shl64 1 x)) ∧ ∀ k, tb (bor jm (shl64 1 x)) k = true ↔ jnP xs y (z + 1) k := by
  subst hx
  have h3 := inM_one (n := xs.length) (i := jX xs y z) (by omega) hl
  refine ⟨inM_bor (by omega) hm h3, fun k => ?_⟩
  rw [tb_bor (by omega) hm h3, Bool.or_eq_true, h k, tb_one (by omega), decide_eq_true_iff]
  constructor
  · rintro (⟨a, b, q, r⟩ | rfl)
    · exact ⟨a, b, by omega, r⟩
    · exact ⟨y, z, .inr ⟨rfl, by omega⟩, rfl, by omega, by omega⟩
  · rintro ⟨a, b, q, r1, r2, r3⟩
    by_cases e : a = y ∧ b = z
    · obtain ⟨rfl, rfl⟩ := e
      exact .inr r1
    · exact .inl ⟨a, b, by omega, r1, r2, r3⟩
theorem jn_n {xs : List Int} {y z : Nat} {jm x : Int} (hx : x = (jX xs y z : Int)) (h1 : x = (y : Int) ∨ x = (z : Int)) (h : ∀ k, tb jm k = true ↔ jnP xs y z k) : ∀ k, tb jm k = true ↔ jnP xs y (z + 1) k := fun k => by
  rw [h k]
  constructor
  · rintro ⟨a, b, q, r⟩
    exact ⟨a, b, by omega, r⟩
  · rintro ⟨a, b, q, r1, r2, r3⟩
    by_cases e : a = y ∧ b = z
    · obtain ⟨rfl, rfl⟩ := e
      omega
    · exact ⟨a, b, by omega, r1, r2, r3⟩
theorem jn_end {xs : List Int} (hH : HyOK xs) {y : Nat} {jm bo : Int} (hy : y = xs.length) (hbo : bo = (bX xs : Int)) (hm : InM xs.length jm) (h : ∀ k, tb jm k = true ↔ jnP xs y 0 k) : mem (bnot (bnot ((shl64 1 (xs.length : Int)) - 1) jm) (shl64 1 bo)) = irI xs ∧ InM 61 (bnot (bnot ((shl64 1 (xs.length : Int)) - 1) jm) (shl64 1 bo)) := by
  subst hy hbo
  have h30 := hH.n30
  have hb := (hx_b hH).2.1
  have h1 := inM_full (n := xs.length) (by omega)
  have h2 := inM_bnot (by omega) h1 hm
  have h3 := inM_one (n := xs.length) (i := bX xs) (by omega) hb
  refine ⟨mem_ir h30 fun j => ?_, inM_mono (by omega) (inM_bnot (by omega) h2 h3)⟩
  rw [tb_bnot (by omega) h2 h3, tb_bnot (by omega) h1 hm, tb_full (by omega), tb_one (by omega), Bool.and_eq_true, Bool.and_eq_true, decide_eq_true_iff, Bool.not_eq_true', Bool.not_eq_true', decide_eq_false_iff_not, irB_iff]
  constructor
  · rintro ⟨⟨q1, q2⟩, q3⟩
    refine ⟨q1, Ne.symm q3, fun y hy z hz e => Classical.byContradiction fun hn => ?_⟩
    rw [not_or] at hn
    have := (h j).2 ⟨y, z, .inl ⟨hy, hz⟩, e, Ne.symm hn.1, Ne.symm hn.2⟩
    rw [q2] at this; cases this
  · rintro ⟨q1, q2, q3⟩
    refine ⟨⟨q1, ?_⟩, Ne.symm q2⟩
    cases e : tb jm j with
    | false => rfl
    | true =>
      obtain ⟨a, b, r0, r1, r2, r3⟩ := (h j).1 e
      rcases r0 with r0 | r0
      · rcases q3 a r0.1 b r0.2 r1 with q | q
        · exact absurd q.symm r2
        · exact absurd q.symm r3
      · omega
section
variable {xs : List Int} {A O J : List (List Int)} {bo t : Int} (h : IsHy xs A O J bo t)
include h
theorem isHy_O {y z : Nat} (hy : y < xs.length) (hz : z < xs.length) : (O.getD y []).getD z 0 = (jX xs y z : Int) ∧ jX xs y z < xs.length := by
  have h1 := hx_J h.ok hy hz
  rw [h.eO, tabR_get hy, rowR_get hz]
  exact ⟨h1.1, h1.2.1⟩
theorem isHy_le {x y : Nat} (hx : x < xs.length) (hy : y < xs.length) : (A.getD x []).getD y 0 = (x : Int) ↔ leX xs x y := by
  rw [h.eA, tabR_get hx, rowR_get hy]
  exact hx_Mx h.ok hx hy
theorem isHy_b : bo = (bX xs : Int) ∧ 0 ≤ bo ∧ bo < (xs.length : Int) := by
  have h1 := hx_b h.ok
  have h2 : bo = (bX xs : Int) := h.eb.trans h1.1
  exact ⟨h2, by omega, by have := h1.2.1; omega⟩
theorem isHy_t : t = (tX xs : Int) ∧ 0 ≤ t ∧ t < (xs.length : Int) := by
  have h1 := hx_t h.ok
  have h2 : t = (tX xs : Int) := h.et.trans h1.1
  exact ⟨h2, by omega, by have := h1.2.1; omega⟩
end
theorem st_y {xs : List Int} {A O J : List (List Int)} {bo t x : Int} {i : Nat} (h : IsHy xs A O J bo t) (hi : i < (irI xs).length) (hx : 0 ≤ x ∧ x < (xs.length : Int)) (e : (A.getD ((irI xs).getD i 0).toNat []).getD (x).toNat 0 = (irI xs).getD i 0) : leB xs ((irN xs).getD i 0) (x).toNat = true := by
  rw [irI_len] at hi
  rw [irI_get hi, Int.toNat_natCast] at e
  exact (isHy_le h (irN_get hi).1 (by omega)).1 e
theorem st_n {xs : List Int} {A O J : List (List Int)} {bo t x : Int} {i : Nat} (h : IsHy xs A O J bo t) (hi : i < (irI xs).length) (hx : 0 ≤ x ∧ x < (xs.length : Int)) (e : ¬ (A.getD ((irI xs).getD i 0).toNat []).getD (x).toNat 0 = (irI xs).getD i 0) : leB xs ((irN xs).getD i 0) (x).toNat = false := by
  rw [irI_len] at hi
  rw [irI_get hi, Int.toNat_natCast] at e
  exact Bool.eq_false_iff.2 fun q => e ((isHy_le h (irN_get hi).1 (by omega)).2 q)
def dlR (xs : List Int) : Nat → Int := fun i => setX xs ((irN xs).getD i 0)
theorem dl_end {xs : List Int} {i : Nat} (h : i = (irN xs).length) : rowR (dlR xs) i = dualL xs := by rw [h]; rfl
def stB (xs : List Int) (x : Nat) : Nat → Bool := fun j => leB xs ((irN xs).getD j 0) x
theorem st_end {xs : List Int} {x i : Nat} (h : i = (irN xs).length) : mkB (stB xs x) i = setX xs x := by rw [h]; rfl
def opC (A O J : List (List Int)) (bo t : Int) : Int := if hyIs A O J bo t = true then (if 0 ≤ opX (ordT A) t then 0 else 4) else 1
def opV (A O J : List (List Int)) (bo t : Int) : Int := if hyIs A O J bo t = true then (if 0 ≤ opX (ordT A) t then opX (ordT A) t else 0) else 0
theorem op_bad {A O J : List (List Int)} {bo t : Int} (h : hyIs A O J bo t = false) : opC A O J bo t = 1 ∧ opV A O J bo t = 0 := by simp [opC, opV, h]
theorem op_yes {A O J : List (List Int)} {bo t : Int} (h : hyIs A O J bo t = true) (h0 : 0 ≤ opX (ordT A) t) : opC A O J bo t = 0 ∧ opV A O J bo t = opX (ordT A) t := by simp [opC, opV, h, h0]
theorem op_no {A O J : List (List Int)} {bo t : Int} (h : hyIs A O J bo t = true) (h0 : ¬ 0 ≤ opX (ordT A) t) : opC A O J bo t = 4 ∧ opV A O J bo t = 0 := by simp [opC, opV, h, h0]
def afR (A O J : List (List Int)) (bo t : Int) : List Int := if hyIs A O J bo t = true then srtI (ordT A) else []
def hyC0 (A O J : List (List Int)) (bo t : Int) : Int := if hyIs A O J bo t = true then 0 else 1
theorem af_1 {A O J : List (List Int)} {bo t : Int} (h : hyIs A O J bo t = false) : afR A O J bo t = [] ∧ hyC0 A O J bo t = 1 := by simp [afR, hyC0, h]
theorem af_0 {A O J : List (List Int)} {bo t : Int} (h : hyIs A O J bo t = true) : afR A O J bo t = srtI (ordT A) ∧ hyC0 A O J bo t = 0 := by simp [afR, hyC0, h]
def duK (A O J : List (List Int)) (bo t : Int) : Int := if hyIs A O J bo t = true then (if (irN (ordT A)).length ≤ 8 then 0 else 3) else 1
def duN (A O J : List (List Int)) (bo t : Int) : Int := if duK A O J bo t = 0 then ((irN (ordT A)).length : Int) else 0
def duL (A O J : List (List Int)) (bo t : Int) : List Int := if duK A O J bo t = 0 then dualL (ordT A) else []
theorem du_1 {A O J : List (List Int)} {bo t : Int} (h : hyIs A O J bo t = false) : duK A O J bo t = 1 ∧ duN A O J bo t = 0 ∧ duL A O J bo t = [] := by simp [duK, duN, duL, h]
theorem du_3 {A O J : List (List Int)} {bo t : Int} (h : hyIs A O J bo t = true) (h8 : ¬ (irN (ordT A)).length ≤ 8) : duK A O J bo t = 3 ∧ duN A O J bo t = 0 ∧ duL A O J bo t = [] := by simp [duK, duN, duL, h, h8]
theorem du_0 {A O J : List (List Int)} {bo t : Int} (h : hyIs A O J bo t = true) (h8 : (irN (ordT A)).length ≤ 8) : duK A O J bo t = 0 ∧ duN A O J bo t = ((irN (ordT A)).length : Int) ∧ duL A O J bo t = dualL (ordT A) := by simp [duK, duN, duL, h, h8]

theorem irred_c (A : List (List Int)) (O : List (List Int)) (J : List (List Int)) (bo : Int) (t : Int) (hIH : IsHy (ordT A) A O J bo t) : CallA Tryz.prog 61 [.agg [LLI A, LLI O, LLI J, AI bo, AI t]] (LI (irI (ordT A))) := by
 have hsz := isHy_sz hIH
 obtain ⟨hs0, hsA, hsO, hsJ⟩ := hsz
 have hT : tabB A.length A = true := (hyIs_parts.1 hIH.is.1).2.1
 have hol := ordT_len A
 have hRl : RelOK (ordT A).length (ordT A) := ordT_rel (by omega)
 have hb3 := isHy_b hIH
 have ht3 := isHy_t hIH
 have hil := irN_len (ordT A)
 have hiI := irI_len (ordT A)
 have hbn := hb3.2
 have htn := ht3.2
 have hsh : 1 ≤ shl64 1 (A.length : Int) ∧ shl64 1 (A.length : Int) ≤ 4611686018427387904 := shl_rng _ (by omega) (by omega)
 have hrlA : okRl ((ordT A).length : Int) (ordT A) := okRl_of (by omega) hRl
 refine CallA.of Tryz.func61 rfl (by kernel_rfl) ?_
 refine R.go 18 (k16 ((fun | (y, jm) => (⟨(frm 48 [(1, .ptr 0 0), (3, AI jm), (9, LLI O), (10, AI O.length), (11, AI (y : Int))]), [.box 26 [LLI A, LLI O, LLI J, AI bo, AI t]]⟩ : St) : Nat × Int → St)) (fun | (y, jm) => (y ≤ O.length) ∧ (InM (ordT A).length jm) ∧ (∀ k, tb jm k = true ↔ jnP (ordT A) y 0 k)) (fun | (y, jm) => O.length - y) (0, 0) [1, 3, 9, 10, 11] none ⟨(by omega), (by exact inM_zero _), (by exact fun k => jn_0)⟩ ?_)
 rintro ⟨y, jm⟩ ⟨h4_1, h4_2, h4_3⟩ R1 N2
 have hry := fun h : y < O.length => hsO y h
 refine R.go 5 (k3 ((y : Int) < (O.length : Int)) (fun c5 => ?_) (fun c5 => ?_))
 ·refine R.go 6 (k8 eLI O [] y (y : Int) rfl eLI_len ?_)
  refine R.go 11 (k16 ((fun | (z, jn) => (⟨(frm 48 [(1, .ptr 0 0), (3, AI jn), (4, AI (y : Int)), (9, LLI O), (10, AI O.length), (11, AI (y : Int)), (16, LI (O.getD y [])), (17, AI ((O.getD y []).length)), (18, AI (z : Int))]), [.box 26 [LLI A, LLI O, LLI J, AI bo, AI t]]⟩ : St) : Nat × Int → St)) (fun | (z, jn) => (z ≤ (ordT A).length) ∧ (InM (ordT A).length jn) ∧ (∀ k, tb jn k = true ↔ jnP (ordT A) y z k)) (fun | (z, jn) => (ordT A).length - z) (0, jm) [1, 3, 4, 9, 10, 11, 16, 17, 18] none ⟨(by omega), (by assumption), (by assumption)⟩ ?_)
  rintro ⟨z, jn⟩ ⟨h9_1, h9_2, h9_3⟩ R6 N7
  refine R.go 5 (k3 ((z : Int) < ((O.getD y []).length : Int)) (fun c10 => ?_) (fun c10 => ?_))
  ·have hjo := isHy_O hIH (y := y) (z := z) (by omega) (by omega)
   have hjx := hjo.1
   have hjl := hjo.2
   refine R.go 6 (k8 eI (O.getD y []) 0 z (z : Int) rfl eI_len ?_ (hj := by first | omega | (simp only [List.length_set]; omega) | (simp <;> omega)))
   refine R.go 10 ?_
   by_cases c11 : ((O.getD y []).getD z 0) = (y : Int)
   ·refine k6 (!decide (((O.getD y []).getD z 0) = (y : Int))) true (nF c11) ?_
    refine k6 (!decide (((O.getD y []).getD z 0) = (y : Int))) true (nF c11) ?_
    refine k6 (!decide (((O.getD y []).getD z 0) = (y : Int))) true (nF c11) ?_
    refine k7 (!decide (((O.getD y []).getD z 0) = (y : Int))) false (nF c11) ?_
    refine R.go 5 (k1 ((z : Int) + 1) ?_)
    exact R.go 2 (k17 R6 (N7 (z + 1, jn) [1, 3, 4, 9, 10, 11, 16, 17, 18] none _ (by kernel_rfl) (by kernel_rfl) ⟨(by omega), (by first | exact (jn_y hjx hjl (by omega) (by assumption) (by assumption) (by assumption) (by assumption)).1 | assumption), (by first | exact (jn_y hjx hjl (by omega) (by assumption) (by assumption) (by assumption) (by assumption)).2 | exact jn_n hjx (by omega) (by assumption))⟩ (by show ((ordT A).length - (z + 1)) < ((ordT A).length - z); omega)))
   ·refine k5 (!decide (((O.getD y []).getD z 0) = (y : Int))) true (nT c11) ?_
    refine R.go 1 (k5 (!decide (((O.getD y []).getD z 0) = (y : Int))) true (nT c11) ?_)
    refine R.go 1 (k5 (!decide (((O.getD y []).getD z 0) = (y : Int))) true (nT c11) ?_)
    refine R.go 1 (k7 (!decide (((O.getD y []).getD z 0) = (y : Int))) true (nT c11) ?_)
    refine R.go 1 (k4 (((O.getD y []).getD z 0) = (z : Int)) (fun c12 => ?_) (fun c12 => ?_))
    ·refine R.go 3 (R.shl 1 ((O.getD y []).getD z 0) (by kernel_rfl) (by omega) (by kernel_rfl) ?_)
     refine R.go 5 (k1 ((z : Int) + 1) ?_)
     exact R.go 2 (k17 R6 (N7 (z + 1, bor jn (shl64 1 ((O.getD y []).getD z 0))) [1, 3, 4, 9, 10, 11, 16, 17, 18] none _ (by kernel_rfl) (by kernel_rfl) ⟨(by omega), (by first | exact (jn_y hjx hjl (by omega) (by assumption) (by assumption) (by assumption) (by assumption)).1 | assumption), (by first | exact (jn_y hjx hjl (by omega) (by assumption) (by assumption) (by assumption) (by assumption)).2 | exact jn_n hjx (by omega) (by assumption))⟩ (by show ((ordT A).length - (z + 1)) < ((ordT A).length - z); omega)))
    ·refine R.go 3 (k1 ((z : Int) + 1) ?_)
     exact R.go 2 (k17 R6 (N7 (z + 1, jn) [1, 3, 4, 9, 10, 11, 16, 17, 18] none _ (by kernel_rfl) (by kernel_rfl) ⟨(by omega), (by first | exact (jn_y hjx hjl (by omega) (by assumption) (by assumption) (by assumption) (by assumption)).1 | assumption), (by first | exact (jn_y hjx hjl (by omega) (by assumption) (by assumption) (by assumption) (by assumption)).2 | exact jn_n hjx (by omega) (by assumption))⟩ (by show ((ordT A).length - (z + 1)) < ((ordT A).length - z); omega)))
  ·refine R.go 3 (k1 ((y : Int) + 1) ?_)
   exact R.go 2 (k17 R1 (N2 (y + 1, jn) [1, 3, 9, 10, 11] none _ (by kernel_rfl) (by kernel_rfl) ⟨(by omega), (by assumption), (by exact fun k => ((by assumption : ∀ k, tb _ k = true ↔ jnP (ordT A) y z k) k).trans (jn_row (by omega)))⟩ (by show (O.length - (y + 1)) < (O.length - y); omega)))
 ·have hje := jn_end hIH.ok (y := y) (by omega) hb3.1 ‹InM (ordT A).length jm› (by assumption)
  rw [hol] at hje
  have hje2 := hje.2
  refine R.go 4 (k15 true (hsize_c A O J bo t) rfl ?_)
  refine R.shl 1 (A.length : Int) (by kernel_rfl) (by omega) (by kernel_rfl) ?_
  refine k1 ((shl64 1 (A.length : Int)) - 1) ?_
  refine R.go 4 (R.shl 1 bo (by kernel_rfl) (by omega) (by kernel_rfl) ?_)
  refine R.go 1 (k15 true (membersOf_c (bnot (bnot ((shl64 1 (A.length : Int)) - 1) jm) (shl64 1 bo)) (by first | assumption | exact inM61 (by omega) (by omega))).frz rfl ?_)
  exact R.go 2 (k18 (LI (mem (bnot (bnot ((shl64 1 (A.length : Int)) - 1) jm) (shl64 1 bo)))) (by first | (rw [hje.1]) | (exfalso; omega)))

theorem isBelow_c (A : List (List Int)) (O : List (List Int)) (J : List (List Int)) (bo : Int) (t : Int) (x : Int) (y : Int) (hx : 0 ≤ x ∧ x < (A.length : Int)) (hy : 0 ≤ y ∧ y < ((A.getD (x).toNat []).length : Int)) : CallA Tryz.prog 227 [.agg [LLI A, LLI O, LLI J, AI bo, AI t], AI x, AI y] (.bool (decide ((A.getD (x).toNat []).getD (y).toNat 0 = x))) := by
 refine CallA.of Tryz.func227 rfl (by kernel_rfl) ?_
 refine R.go 10 (k8 eLI A [] ((x).toNat) x (by omega) eLI_len ?_)
 refine R.go 2 (k8 eI (A.getD ((x).toNat) []) 0 ((y).toNat) y (by omega) eI_len ?_ (hj := by first | omega | (simp only [List.length_set]; omega) | (simp <;> omega)))
 exact R.go 5 (k18 (.bool (decide (((A.getD ((x).toNat) []).getD ((y).toNat) 0) = x))) (by first | (rfl) | (exfalso; omega)))

theorem setOf_c (A : List (List Int)) (O : List (List Int)) (J : List (List Int)) (bo : Int) (t : Int) (x : Int) (hIH : IsHy (ordT A) A O J bo t) (hx : 0 ≤ x ∧ x < (A.length : Int)) : CallA Tryz.prog 128 [.agg [LLI A, LLI O, LLI J, AI bo, AI t], AI x] (AI (setX (ordT A) (x).toNat)) := by
 have hsz := isHy_sz hIH
 obtain ⟨hs0, hsA, hsO, hsJ⟩ := hsz
 have hT : tabB A.length A = true := (hyIs_parts.1 hIH.is.1).2.1
 have hol := ordT_len A
 have hRl : RelOK (ordT A).length (ordT A) := ordT_rel (by omega)
 have hb3 := isHy_b hIH
 have ht3 := isHy_t hIH
 have hil := irN_len (ordT A)
 have hiI := irI_len (ordT A)
 have hbn := hb3.2
 have htn := ht3.2
 have hsh : 1 ≤ shl64 1 (A.length : Int) ∧ shl64 1 (A.length : Int) ≤ 4611686018427387904 := shl_rng _ (by omega) (by omega)
 have hrlA : okRl ((ordT A).length : Int) (ordT A) := okRl_of (by omega) hRl
 refine CallA.of Tryz.func128 rfl (by kernel_rfl) ?_
 refine R.go 13 (k15 true (irred_c A O J bo t hIH) rfl ?_)
 refine R.go 4 (k16 ((fun | (i, m) => (⟨(frm 26 [(1, AI x), (2, .ptr 0 0), (5, AI m), (9, LI (irI (ordT A))), (10, AI ((irI (ordT A)).length)), (11, AI (i : Int))]), [.box 26 [LLI A, LLI O, LLI J, AI bo, AI t]]⟩ : St) : Nat × Int → St)) (fun | (i, m) => (i ≤ (irI (ordT A)).length) ∧ (m = mkB (stB (ordT A) (x).toNat) i)) (fun | (i, m) => (irI (ordT A)).length - i) (0, 0) [1, 2, 5, 9, 10, 11] none ⟨(by omega), (by rfl)⟩ ?_)
 rintro ⟨i, m⟩ ⟨h4_1, rfl⟩ R1 N2
 refine R.go 5 (k3 ((i : Int) < ((irI (ordT A)).length : Int)) (fun c5 => ?_) (fun c5 => ?_))
 ·have hgi := irI_get (xs := ordT A) (i := i) (by omega)
  have hgr := (irN_get (xs := ordT A) (i := i) (by omega)).1
  have hgr2 : 0 ≤ (irI (ordT A)).getD i 0 ∧ (irI (ordT A)).getD i 0 < (A.length : Int) := by rw [hgi]; omega
  have hgA := hsA ((irI (ordT A)).getD i 0).toNat (by omega)
  refine R.go 6 (k8 eI (irI (ordT A)) 0 i (i : Int) rfl eI_len ?_)
  refine R.go 9 (k15 true (isBelow_c A O J bo t ((irI (ordT A)).getD i 0) x (by first | omega | (simp <;> omega)) (by first | omega | (simp <;> omega))) rfl ?_)
  refine R.go 1 (k3 ((A.getD (((irI (ordT A)).getD i 0)).toNat []).getD (x).toNat 0 = ((irI (ordT A)).getD i 0)) (fun c6 => ?_) (fun c6 => ?_))
  ·refine R.go 3 (R.shl 1 (i : Int) (by kernel_rfl) (by omega) (by kernel_rfl) ?_)
   refine R.go 5 (k1 ((i : Int) + 1) ?_)
   exact R.go 2 (k17 R1 (N2 (i + 1, bor (mkB (stB (ordT A) (x).toNat) i) (shl64 1 (i : Int))) [1, 2, 5, 9, 10, 11] none _ (by kernel_rfl) (by kernel_rfl) ⟨(by omega), (by first | exact mkB_yes (P := stB (ordT A) (x).toNat) (st_y hIH (by omega) (by omega) (by assumption)) | exact mkB_no (P := stB (ordT A) (x).toNat) (st_n hIH (by omega) (by omega) (by assumption)))⟩ (by show ((irI (ordT A)).length - (i + 1)) < ((irI (ordT A)).length - i); omega)))
  ·refine R.go 3 (k1 ((i : Int) + 1) ?_)
   exact R.go 2 (k17 R1 (N2 (i + 1, mkB (stB (ordT A) (x).toNat) i) [1, 2, 5, 9, 10, 11] none _ (by kernel_rfl) (by kernel_rfl) ⟨(by omega), (by first | exact mkB_yes (P := stB (ordT A) (x).toNat) (st_y hIH (by omega) (by omega) (by assumption)) | exact mkB_no (P := stB (ordT A) (x).toNat) (st_n hIH (by omega) (by omega) (by assumption)))⟩ (by show ((irI (ordT A)).length - (i + 1)) < ((irI (ordT A)).length - i); omega)))
 ·exact R.go 6 (k18 (AI (mkB (stB (ordT A) (x).toNat) i)) (by first | (rw [st_end (by omega)]) | (exfalso; omega)))

theorem dualH_c (A : List (List Int)) (O : List (List Int)) (J : List (List Int)) (bo : Int) (t : Int) (hIH : IsHy (ordT A) A O J bo t) : CallA Tryz.prog 62 [.agg [LLI A, LLI O, LLI J, AI bo, AI t]] (.agg [AI ((irN (ordT A)).length : Int), ownA eI 2 1 (dualL (ordT A))]) := by
 have hsz := isHy_sz hIH
 obtain ⟨hs0, hsA, hsO, hsJ⟩ := hsz
 have hT : tabB A.length A = true := (hyIs_parts.1 hIH.is.1).2.1
 have hol := ordT_len A
 have hRl : RelOK (ordT A).length (ordT A) := ordT_rel (by omega)
 have hb3 := isHy_b hIH
 have ht3 := isHy_t hIH
 have hil := irN_len (ordT A)
 have hiI := irI_len (ordT A)
 have hbn := hb3.2
 have htn := ht3.2
 have hsh : 1 ≤ shl64 1 (A.length : Int) ∧ shl64 1 (A.length : Int) ≤ 4611686018427387904 := shl_rng _ (by omega) (by omega)
 have hrlA : okRl ((ordT A).length : Int) (ordT A) := okRl_of (by omega) hRl
 refine CallA.of Tryz.func62 rfl (by kernel_rfl) ?_
 refine R.go 8 (k15 true (irred_c A O J bo t hIH) rfl ?_)
 refine R.go 14 (R.nil 4 2 1 (by kernel_rfl) ?_)
 refine k16 ((fun | (i, ab) => (⟨(frm 24 [(1, .ptr 0 0), (2, .ptr 1 0), (4, .ref 2), (9, LI (irI (ordT A))), (10, AI ((irI (ordT A)).length)), (11, AI (i : Int))]), [.box 26 [LLI A, LLI O, LLI J, AI bo, AI t], .box 35 [AI 0, .nil], rowA eI 2 1 ab]⟩ : St) : Nat × (List Int) → St)) (fun | (i, ab) => (i ≤ (irI (ordT A)).length) ∧ (ab = rowR (dlR (ordT A)) i)) (fun | (i, ab) => (irI (ordT A)).length - i) (0, []) [1, 2, 4, 9, 10, 11] none ⟨(by omega), (by rfl)⟩ ?_
 rintro ⟨i, ab⟩ ⟨h4_1, rfl⟩ R1 N2
 have hrl := rowR_len (dlR (ordT A)) i
 refine R.go 5 (k3 ((i : Int) < ((irI (ordT A)).length : Int)) (fun c5 => ?_) (fun c5 => ?_))
 ·have hgi := irI_get (xs := ordT A) (i := i) (by omega)
  have hgr := (irN_get (xs := ordT A) (i := i) (by omega)).1
  have hgr2 : 0 ≤ (irI (ordT A)).getD i 0 ∧ (irI (ordT A)).getD i 0 < (A.length : Int) := by rw [hgi]; omega
  refine R.go 5 (k8 eI (irI (ordT A)) 0 i (i : Int) rfl eI_len ?_)
  refine R.go 7 (k15 true (setOf_c A O J bo t ((irI (ordT A)).getD i 0) hIH (by first | omega | (simp <;> omega))) rfl ?_)
  refine R.go 1 (k13 eI (rowR (dlR (ordT A)) i) [setX (ordT A) (((irI (ordT A)).getD i 0)).toNat] 2 2 1 8 eI_one ?_)
  refine R.go 4 (k1 ((i : Int) + 1) ?_)
  exact R.go 2 (k17 R1 (N2 (i + 1, (rowR (dlR (ordT A)) i) ++ [setX (ordT A) (((irI (ordT A)).getD i 0)).toNat]) [1, 2, 4, 9, 10, 11] (some [0, 1, 2]) _ (by kernel_rfl) (by kernel_rfl) ⟨(by omega), (by (rw [← rowR_snoc]; exact congrArg (fun q => rowR (dlR (ordT A)) i ++ [q]) (by rw [hgi, Int.toNat_natCast]; rfl)))⟩ (by show ((irI (ordT A)).length - (i + 1)) < ((irI (ordT A)).length - i); omega)))
 ·refine R.go 4 (R.enter (avs := [.ref 2]) Tryz.func89 rfl (by kernel_rfl) (by kernel_rfl) (by kernel_rfl) ?_)
  intro us6
  refine R.go 7 (k15 false (size_c (rowR (dlR (ordT A)) i)) rfl ?_)
  refine R.go 4 (R.back (.agg [AI ((rowR (dlR (ordT A)) i).length), .ref 2]) (frm 24 [(1, .ptr 0 0), (2, .ptr 1 0), (4, .ref 2), (9, LI (irI (ordT A))), (10, AI ((irI (ordT A)).length)), (11, AI (i : Int)), (12, .bool (decide ((i : Int) < ((irI (ordT A)).length : Int)))), (22, .ref 2)]) (by kernel_rfl) (by kernel_rfl) (by kernel_rfl) ?_)
  exact R.go 2 (k18 (.agg [AI ((rowR (dlR (ordT A)) i).length), ownA eI 2 1 (rowR (dlR (ordT A)) i)]) (by first | (rw [dl_end (by omega), dualL_len]) | (exfalso; omega)))

theorem dualOf_c (A : List (List Int)) (O : List (List Int)) (J : List (List Int)) (bo : Int) (t : Int) (la : A.length ≤ 1000000000 ∧ O.length ≤ 1000000000 ∧ J.length ≤ 1000000000) (mA : ∀ i0 : Nat, i0 < A.length → (A.getD i0 []).length ≤ 1000000000) (mO : ∀ i0 : Nat, i0 < O.length → (O.getD i0 []).length ≤ 1000000000) (mJ : ∀ i0 : Nat, i0 < J.length → (J.getD i0 []).length ≤ 1000000000) : CallA Tryz.prog 13 [.agg [LLI A, LLI O, LLI J, AI bo, AI t]] (.tup [.agg [AI (duN A O J bo t), ownA eI 2 1 (duL A O J bo t)], AI (duK A O J bo t)]) := by
 refine CallA.of Tryz.func13 rfl (by kernel_rfl) ?_
 refine R.go 11 (k15 true (isHeyting_c A O J bo t la mA mO mJ) rfl ?_)
 refine R.go 3 (k20 (hyIs A O J bo t) (fun c1 => ?_) (fun c1 => ?_))
 ·obtain ⟨hd1, hd2, hd3⟩ := du_1 (by assumption : hyIs A O J bo t = false)
  refine R.go 6 (R.nilB 1 1 2 1 (by kernel_rfl) ?_)
  exact k18 (.tup [.agg [AI 0, ownA eI 2 1 []], AI 1]) (by first | (rw [hd1, hd2, hd3]) | (exfalso; omega))
 ·have hIH := hyIs_hy (by assumption : hyIs A O J bo t = true)
  have hsz := isHy_sz hIH
  obtain ⟨hs0, hsA, hsO, hsJ⟩ := hsz
  have hT : tabB A.length A = true := (hyIs_parts.1 hIH.is.1).2.1
  have hol := ordT_len A
  have hRl : RelOK (ordT A).length (ordT A) := ordT_rel (by omega)
  have hb3 := isHy_b hIH
  have ht3 := isHy_t hIH
  have hil := irN_len (ordT A)
  have hiI := irI_len (ordT A)
  have hbn := hb3.2
  have htn := ht3.2
  have hsh : 1 ≤ shl64 1 (A.length : Int) ∧ shl64 1 (A.length : Int) ≤ 4611686018427387904 := shl_rng _ (by omega) (by omega)
  have hrlA : okRl ((ordT A).length : Int) (ordT A) := okRl_of (by omega) hRl
  refine R.go 3 (k15 true (irred_c A O J bo t (by assumption)) rfl ?_)
  refine R.go 4 (k3 (((irI (ordT A)).length : Int) > 8) (fun c2 => ?_) (fun c2 => ?_))
  ·obtain ⟨hd1, hd2, hd3⟩ := du_3 (by assumption : hyIs A O J bo t = true) (by omega)
   refine R.go 6 (R.nilB 1 1 2 1 (by kernel_rfl) ?_)
   exact k18 (.tup [.agg [AI 0, ownA eI 2 1 []], AI 3]) (by first | (rw [hd1, hd2, hd3]) | (exfalso; omega))
  ·obtain ⟨hd1, hd2, hd3⟩ := du_0 (by assumption : hyIs A O J bo t = true) (by omega)
   refine R.go 5 (k15 true (dualH_c A O J bo t (by assumption)) rfl ?_)
   exact R.go 3 (k18 (.tup [.agg [AI ((irN (ordT A)).length : Int), ownA eI 2 1 (dualL (ordT A))], AI 0]) (by first | (rw [hd1, hd2, hd3]) | (exfalso; omega)))

theorem sortF_c (A O J : List (List Int)) (bo t : Int) (L : List Int) (hl : L.length ≤ 1000000000) : CallX Tryz.prog 60 [.ref 1] [.box 26 [LLI A, LLI O, LLI J, AI bo, AI t], rowA eI 2 1 L] (fun (resX : AV) (objX : List AObj) => resX = .tup [] ∧ objX = [.box 26 [LLI A, LLI O, LLI J, AI bo, AI t], rowA eI 2 1 (srtI L)]) := (CallS.sortAt srtLay (enters_of Tryz.func60 (by kernel_rfl) rfl) 1 2 L [.box 26 [LLI A, LLI O, LLI J, AI bo, AI t], rowA eI 2 1 L] rfl hl).toX

theorem allFil_c (A : List (List Int)) (O : List (List Int)) (J : List (List Int)) (bo : Int) (t : Int) (la : A.length ≤ 1000000000 ∧ O.length ≤ 1000000000 ∧ J.length ≤ 1000000000) (mA : ∀ i0 : Nat, i0 < A.length → (A.getD i0 []).length ≤ 1000000000) (mO : ∀ i0 : Nat, i0 < O.length → (O.getD i0 []).length ≤ 1000000000) (mJ : ∀ i0 : Nat, i0 < J.length → (J.getD i0 []).length ≤ 1000000000) : CallA Tryz.prog 12 [.agg [LLI A, LLI O, LLI J, AI bo, AI t]] (.tup [ownA eI 2 1 (afR A O J bo t), AI (hyC0 A O J bo t)]) := by
 refine CallA.of Tryz.func12 rfl (by kernel_rfl) ?_
 refine R.go 10 (k15 true (isHeyting_c A O J bo t la mA mO mJ) rfl ?_)
 refine R.go 2 (k20 (hyIs A O J bo t) (fun c1 => ?_) (fun c1 => ?_))
 ·obtain ⟨hd1, hd2⟩ := af_1 (by assumption : hyIs A O J bo t = false)
  refine R.go 5 (R.nil 2 2 1 (by kernel_rfl) ?_)
  exact k18 (.tup [ownA eI 2 1 [], AI 1]) (by first | (rw [hd1, hd2]) | (exfalso; omega))
 ·have hIH := hyIs_hy (by assumption : hyIs A O J bo t = true)
  have hsz := isHy_sz hIH
  obtain ⟨hs0, hsA, hsO, hsJ⟩ := hsz
  have hT : tabB A.length A = true := (hyIs_parts.1 hIH.is.1).2.1
  have hol := ordT_len A
  have hRl : RelOK (ordT A).length (ordT A) := ordT_rel (by omega)
  have hb3 := isHy_b hIH
  have ht3 := isHy_t hIH
  have hil := irN_len (ordT A)
  have hiI := irI_len (ordT A)
  have hbn := hb3.2
  have htn := ht3.2
  have hsh : 1 ≤ shl64 1 (A.length : Int) ∧ shl64 1 (A.length : Int) ≤ 4611686018427387904 := shl_rng _ (by omega) (by omega)
  have hrlA : okRl ((ordT A).length : Int) (ordT A) := okRl_of (by omega) hRl
  obtain ⟨hd1, hd2⟩ := af_0 (by assumption : hyIs A O J bo t = true)
  refine R.go 4 (k15 true (order_c A O J bo t hT (by first | omega | (simp <;> omega))) rfl ?_)
  refine R.go 5 (k27 (sortF_c A O J bo t (ordT A) (by omega)) ?_)
  rintro _ _ ⟨rfl, rfl⟩
  exact R.go 7 (k18 (.tup [ownA eI 2 1 (srtI (ordT A)), AI 0]) (by first | (rw [hd1, hd2]) | (exfalso; omega)))

theorem opImpl_c (A : List (List Int)) (O : List (List Int)) (J : List (List Int)) (bo : Int) (t : Int) (la : A.length ≤ 1000000000 ∧ O.length ≤ 1000000000 ∧ J.length ≤ 1000000000) (mA : ∀ i0 : Nat, i0 < A.length → (A.getD i0 []).length ≤ 1000000000) (mO : ∀ i0 : Nat, i0 < O.length → (O.getD i0 []).length ≤ 1000000000) (mJ : ∀ i0 : Nat, i0 < J.length → (J.getD i0 []).length ≤ 1000000000) : CallA Tryz.prog 10 [.agg [LLI A, LLI O, LLI J, AI bo, AI t]] (.tup [AI (opV A O J bo t), AI (opC A O J bo t)]) := by
 refine CallA.of Tryz.func10 rfl (by kernel_rfl) ?_
 refine R.go 10 (k15 true (isHeyting_c A O J bo t la mA mO mJ) rfl ?_)
 refine R.go 2 (k20 (hyIs A O J bo t) (fun c1 => ?_) (fun c1 => ?_))
 ·exact R.go 5 (k18 (.tup [AI 0, AI 1]) (by first | (first | (rw [(op_bad (by assumption)).1, (op_bad (by assumption)).2]; done) | (rw [(op_yes (by assumption) (by rw [← hox]; first | omega | exact of_decide_eq_true (by assumption))).1, (op_yes (by assumption) (by rw [← hox]; first | omega | exact of_decide_eq_true (by assumption))).2, ← hox]; first | rfl | (rw [lowV_of (of_decide_eq_true (by assumption))])) | (rw [(op_no (by assumption) (by rw [← hox]; first | omega | exact of_decide_eq_false (by assumption))).1, (op_no (by assumption) (by rw [← hox]; first | omega | exact of_decide_eq_false (by assumption))).2])) | (exfalso; omega)))
 ·have hIH := hyIs_hy (by assumption : hyIs A O J bo t = true)
  have hsz := isHy_sz hIH
  obtain ⟨hs0, hsA, hsO, hsJ⟩ := hsz
  have hT : tabB A.length A = true := (hyIs_parts.1 hIH.is.1).2.1
  have hol := ordT_len A
  have hRl : RelOK (ordT A).length (ordT A) := ordT_rel (by omega)
  have hb3 := isHy_b hIH
  have ht3 := isHy_t hIH
  have hil := irN_len (ordT A)
  have hiI := irI_len (ordT A)
  have hbn := hb3.2
  have htn := ht3.2
  have hsh : 1 ≤ shl64 1 (A.length : Int) ∧ shl64 1 (A.length : Int) ≤ 4611686018427387904 := shl_rng _ (by omega) (by omega)
  have hrlA : okRl ((ordT A).length : Int) (ordT A) := okRl_of (by omega) hRl
  have hnv := invA_len (ordT A) (ordT A).length
  have hfm : InM (ordT A).length (bnot ((shl64 1 (A.length : Int)) - 1) (shl64 1 t)) := by rw [← hol, ht3.1]; exact (opM_bits hIH.ok).1
  have hfm2 : InM (invA (ordT A) (ordT A).length).length (bnot ((shl64 1 (A.length : Int)) - 1) (shl64 1 t)) := by rw [hnv]; exact hfm
  have hox : lowF (invA (ordT A) (ordT A).length) (bnot ((shl64 1 (A.length : Int)) - 1) (shl64 1 t)) = opX (ordT A) t := by rw [opX, fullM, hol]
  have hfm61 : InM 61 (bnot ((shl64 1 (A.length : Int)) - 1) (shl64 1 t)) := inM_mono (by omega) hfm
  refine R.go 4 (k15 true (hsize_c A O J bo t) rfl ?_)
  refine R.shl 1 (A.length : Int) (by kernel_rfl) (by omega) (by kernel_rfl) ?_
  refine k1 ((shl64 1 (A.length : Int)) - 1) ?_
  refine R.go 2 (R.shl 1 t (by kernel_rfl) (by omega) (by kernel_rfl) ?_)
  refine R.go 2 (k15 true (order_c A O J bo t hT (by first | omega | (simp <;> omega))).frz rfl ?_)
  refine k15 true (inverse2G_c ((ordT A).length : Int) (ordT A) (invA (ordT A) (ordT A).length) hrlA (by first | rfl | assumption)).frz rfl ?_
  refine k15 true (greatest_c (bnot ((shl64 1 (A.length : Int)) - 1) (shl64 1 t)) (invA (ordT A) (ordT A).length) (by first | omega | (simp <;> omega)) hfm2) rfl ?_
  refine R.go 12 (k20 (lowB (invA (ordT A) (ordT A).length) (bnot ((shl64 1 (A.length : Int)) - 1) (shl64 1 t))) (fun c2 => ?_) (fun c2 => ?_))
  ·exact R.go 5 (k18 (.tup [AI 0, AI 4]) (by first | (first | (rw [(op_bad (by assumption)).1, (op_bad (by assumption)).2]; done) | (rw [(op_yes (by assumption) (by rw [← hox]; first | omega | exact of_decide_eq_true (by assumption))).1, (op_yes (by assumption) (by rw [← hox]; first | omega | exact of_decide_eq_true (by assumption))).2, ← hox]; first | rfl | (rw [lowV_of (of_decide_eq_true (by assumption))])) | (rw [(op_no (by assumption) (by rw [← hox]; first | omega | exact of_decide_eq_false (by assumption))).1, (op_no (by assumption) (by rw [← hox]; first | omega | exact of_decide_eq_false (by assumption))).2])) | (exfalso; omega)))
  ·exact R.go 7 (k18 (.tup [AI (lowV (invA (ordT A) (ordT A).length) (bnot ((shl64 1 (A.length : Int)) - 1) (shl64 1 t))), AI 0]) (by first | (first | (rw [(op_bad (by assumption)).1, (op_bad (by assumption)).2]; done) | (rw [(op_yes (by assumption) (by rw [← hox]; first | omega | exact of_decide_eq_true (by assumption))).1, (op_yes (by assumption) (by rw [← hox]; first | omega | exact of_decide_eq_true (by assumption))).2, ← hox]; first | rfl | (rw [lowV_of (of_decide_eq_true (by assumption))])) | (rw [(op_no (by assumption) (by rw [← hox]; first | omega | exact of_decide_eq_false (by assumption))).1, (op_no (by assumption) (by rw [← hox]; first | omega | exact of_decide_eq_false (by assumption))).2])) | (exfalso; omega)))

theorem oprm_c (A : List (List Int)) (O : List (List Int)) (J : List (List Int)) (bo : Int) (t : Int) (hi : hyIs A O J bo t = true) : CallA Tryz.prog 59 [.agg [LLI A, LLI O, LLI J, AI bo, AI t]] (AI (opX (ordT A) t)) := by
 refine CallA.of Tryz.func59 rfl (by kernel_rfl) ?_
 refine R.go 6 ?_
 have hIH := hyIs_hy hi
 have hsz := isHy_sz hIH
 obtain ⟨hs0, hsA, hsO, hsJ⟩ := hsz
 have hT : tabB A.length A = true := (hyIs_parts.1 hIH.is.1).2.1
 have hol := ordT_len A
 have hRl : RelOK (ordT A).length (ordT A) := ordT_rel (by omega)
 have hb3 := isHy_b hIH
 have ht3 := isHy_t hIH
 have hil := irN_len (ordT A)
 have hiI := irI_len (ordT A)
 have hbn := hb3.2
 have htn := ht3.2
 have hsh : 1 ≤ shl64 1 (A.length : Int) ∧ shl64 1 (A.length : Int) ≤ 4611686018427387904 := shl_rng _ (by omega) (by omega)
 have hrlA : okRl ((ordT A).length : Int) (ordT A) := okRl_of (by omega) hRl
 have hnv := invA_len (ordT A) (ordT A).length
 have hfm : InM (ordT A).length (bnot ((shl64 1 (A.length : Int)) - 1) (shl64 1 t)) := by rw [← hol, ht3.1]; exact (opM_bits hIH.ok).1
 have hfm2 : InM (invA (ordT A) (ordT A).length).length (bnot ((shl64 1 (A.length : Int)) - 1) (shl64 1 t)) := by rw [hnv]; exact hfm
 have hox : lowF (invA (ordT A) (ordT A).length) (bnot ((shl64 1 (A.length : Int)) - 1) (shl64 1 t)) = opX (ordT A) t := by rw [opX, fullM, hol]
 have hfm61 : InM 61 (bnot ((shl64 1 (A.length : Int)) - 1) (shl64 1 t)) := inM_mono (by omega) hfm
 have hIH := hyIs_hy hi
 have hsz := isHy_sz hIH
 obtain ⟨hs0, hsA, hsO, hsJ⟩ := hsz
 have hT : tabB A.length A = true := (hyIs_parts.1 hIH.is.1).2.1
 have hol := ordT_len A
 have hRl : RelOK (ordT A).length (ordT A) := ordT_rel (by omega)
 have hb3 := isHy_b hIH
 have ht3 := isHy_t hIH
 have hil := irN_len (ordT A)
 have hiI := irI_len (ordT A)
 have hbn := hb3.2
 have htn := ht3.2
 have hsh : 1 ≤ shl64 1 (A.length : Int) ∧ shl64 1 (A.length : Int) ≤ 4611686018427387904 := shl_rng _ (by omega) (by omega)
 have hrlA : okRl ((ordT A).length : Int) (ordT A) := okRl_of (by omega) hRl
 have hnv := invA_len (ordT A) (ordT A).length
 have hfm : InM (ordT A).length (bnot ((shl64 1 (A.length : Int)) - 1) (shl64 1 t)) := by rw [← hol, ht3.1]; exact (opM_bits hIH.ok).1
 have hfm2 : InM (invA (ordT A) (ordT A).length).length (bnot ((shl64 1 (A.length : Int)) - 1) (shl64 1 t)) := by rw [hnv]; exact hfm
 have hox : lowF (invA (ordT A) (ordT A).length) (bnot ((shl64 1 (A.length : Int)) - 1) (shl64 1 t)) = opX (ordT A) t := by rw [opX, fullM, hol]
 have hfm61 : InM 61 (bnot ((shl64 1 (A.length : Int)) - 1) (shl64 1 t)) := inM_mono (by omega) hfm
 refine R.go 2 (k15 true (l18Size_c A O J bo t) rfl ?_)
 refine k15 true (l01Full_c A.length (by first | omega | (simp <;> omega)) (by first | omega | (simp <;> omega))) rfl ?_
 refine R.go 2 (k15 true (l01One_c t (by omega) (by omega)) rfl ?_)
 refine R.go 6 (k15 true (l18Order_c A O J bo t hT (by first | omega | (simp <;> omega))).frz rfl ?_)
 refine k15 true (l01Inverse_c (ordT A) (by first | omega | (simp <;> omega)) hRl).frz rfl ?_
 refine R.go 1 (k15 true (l18Low_c (invA (ordT A) (ordT A).length) (bnot ((shl64 1 A.length) - 1) (shl64 1 t)) (by first | omega | (simp <;> omega)) (by first | assumption | exact inM_mono (by omega) (by assumption))) rfl ?_)
 exact R.go 2 (k18 (AI (lowF (invA (ordT A) (ordT A).length) (bnot ((shl64 1 A.length) - 1) (shl64 1 t)))) (by first | (rw [hox]) | (exfalso; omega)))

theorem opSpec_c (A : List (List Int)) (O : List (List Int)) (J : List (List Int)) (bo : Int) (t : Int) (la : A.length ≤ 1000000000 ∧ O.length ≤ 1000000000 ∧ J.length ≤ 1000000000) (mA : ∀ i0 : Nat, i0 < A.length → (A.getD i0 []).length ≤ 1000000000) (mO : ∀ i0 : Nat, i0 < O.length → (O.getD i0 []).length ≤ 1000000000) (mJ : ∀ i0 : Nat, i0 < J.length → (J.getD i0 []).length ≤ 1000000000) : CallA Tryz.prog 11 [.agg [LLI A, LLI O, LLI J, AI bo, AI t]] (.tup [AI (opV A O J bo t), AI (opC A O J bo t)]) := by
 refine CallA.of Tryz.func11 rfl (by kernel_rfl) ?_
 refine R.go 10 (k15 true (l18Is_c A O J bo t la mA mO mJ) rfl ?_)
 refine R.go 2 (k20 (hyIs A O J bo t) (fun c1 => ?_) (fun c1 => ?_))
 ·exact R.go 5 (k18 (.tup [AI 0, AI 1]) (by first | (first | (rw [(op_bad (by assumption)).1, (op_bad (by assumption)).2]; done) | (rw [(op_yes (by assumption) (by omega)).1, (op_yes (by assumption) (by omega)).2]; done) | (rw [(op_no (by assumption) (by omega)).1, (op_no (by assumption) (by omega)).2])) | (exfalso; omega)))
 ·refine R.go 4 (k15 true (oprm_c A O J bo t c1) rfl ?_)
  refine R.go 8 (k3 ((opX (ordT A) t) < 0) (fun c2 => ?_) (fun c2 => ?_))
  ·exact R.go 5 (k18 (.tup [AI 0, AI 4]) (by first | (first | (rw [(op_bad (by assumption)).1, (op_bad (by assumption)).2]; done) | (rw [(op_yes (by assumption) (by omega)).1, (op_yes (by assumption) (by omega)).2]; done) | (rw [(op_no (by assumption) (by omega)).1, (op_no (by assumption) (by omega)).2])) | (exfalso; omega)))
  ·exact R.go 7 (k18 (.tup [AI (opX (ordT A) t), AI 0]) (by first | (first | (rw [(op_bad (by assumption)).1, (op_bad (by assumption)).2]; done) | (rw [(op_yes (by assumption) (by omega)).1, (op_yes (by assumption) (by omega)).2]; done) | (rw [(op_no (by assumption) (by omega)).1, (op_no (by assumption) (by omega)).2])) | (exfalso; omega)))

end Go.Proofs.YtjllngcefoohpaaGreat


/-! The law FnOpremum. -/
namespace Go.Proofs.YtjllngcefoohpaaGreat
open Go.RowKit Go.Abs

section
variable {A O J : List (List Int)} {bo t : Int} (hI : hyIs A O J bo t = true)
include hI
theorem op_pos (h0 : opC A O J bo t = 0) : 0 ≤ opX (ordT A) t := Classical.byContradiction fun h => by
  have := (op_no hI h).1
  rw [h0] at this; cases this
theorem op_dec : decide (opC A O J bo t = 0) = decide (0 ≤ opX (ordT A) t) := by
  rw [Bool.eq_iff_iff, decide_eq_true_iff, decide_eq_true_iff]
  exact ⟨op_pos hI, fun h => (op_yes hI h).1⟩
theorem ls_af : lsO (afR A O J bo t) (shl64 1 t) (afR A O J bo t).length = decide (0 ≤ opX (ordT A) t) := by
  have hIH := hyIs_hy hI
  rw [(af_0 hI).1, (isHy_t hIH).1]
  exact ls_op hIH.ok
theorem op_fin (h0 : opC A O J bo t = 0) : (0 ≤ opV A O J bo t ∧ opV A O J bo t < (O.length : Int)) ∧ (O.getD (opV A O J bo t).toNat []).length = O.length ∧ (O.getD (opV A O J bo t).toNat []).getD (opV A O J bo t).toNat 0 = opV A O J bo t ∧ ¬ opV A O J bo t = t := by
  have hIH := hyIs_hy hI
  have hp := op_pos hI h0
  have hv := (op_yes hI hp).2
  have ht := (isHy_t hIH).1
  obtain ⟨hs0, _, hsO, _⟩ := isHy_sz hIH
  have hg := op_get hIH.ok (by rw [← ht]; exact hp)
  rw [← ht] at hg
  have hj := isHy_O hIH hg.1 hg.1
  have hjj : jX (ordT A) (opX (ordT A) t).toNat (opX (ordT A) t).toNat = (opX (ordT A) t).toNat := by
    have := (hx_Jx hIH.ok hg.1 hg.1).2 (hx_refl hIH.ok hg.1)
    rw [jX, this, Int.toNat_natCast]
  rw [hv]
  refine ⟨⟨hp, by omega⟩, by rw [hsO _ (by omega)]; omega, ?_, ?_⟩
  · rw [hj.1, hjj]; omega
  · have := hg.2.1
    omega
theorem root_dec (h0 : duK A O J bo t = 0) : decide (rootC (duN A O J bo t) (duL A O J bo t) = 0) = decide (0 ≤ opX (ordT A) t) := by
  have hIH := hyIs_hy hI
  have h8 : (irN (ordT A)).length ≤ 8 := Classical.byContradiction fun h => by
    have := (du_3 hI h).1
    rw [h0] at this; cases this
  obtain ⟨_, d2, d3⟩ := du_0 hI h8
  have hpo := dual_po hIH.ok h8
  have hop := op_iff hIH.ok
  rw [← (isHy_t hIH).1] at hop
  rw [d2, d3, rootC, if_pos hpo, Bool.eq_iff_iff, decide_eq_true_iff, decide_eq_true_iff, hop, ← dual_root hIH.ok]
  have hfx : 0 ≤ rootX ((irN (ordT A)).length : Int) (dualL (ordT A)) ↔ ∃ i, i < (irN (ordT A)).length ∧ ∀ j, j < (irN (ordT A)).length → tb ((dualL (ordT A)).getD i 0) j = true := by
    rw [rootX, fidxI_any (Int.le_refl 0), List.any_eq_true]
    have hdl := dualL_len (ordT A)
    have hdr := dual_rel hIH.ok
    have hF := inM_full (n := (irN (ordT A)).length) (by omega)
    constructor
    · rintro ⟨m, hm, e⟩
      obtain ⟨i, hi, rfl⟩ := List.getElem_of_mem hm
      have e' := of_decide_eq_true e
      refine ⟨i, by omega, fun j hj => ?_⟩
      rw [List.getD_eq_getElem?_getD, List.getElem?_eq_getElem hi, Option.getD_some, e', tb_full (by omega)]
      exact decide_eq_true hj
    · rintro ⟨i, hi, hall⟩
      have hi' : i < (dualL (ordT A)).length := by omega
      refine ⟨(dualL (ordT A)).getD i 0, by rw [List.getD_eq_getElem?_getD, List.getElem?_eq_getElem hi']; exact List.getElem_mem _, decide_eq_true ?_⟩
      have h1 := hdr.2 i hi
      refine tb_ext h1.1 hF.1 fun j => ?_
      rw [tb_full (by omega), Bool.eq_iff_iff, decide_eq_true_iff]
      exact ⟨fun q => tb_lt h1 q, hall j⟩
  rw [← hfx]
  split <;> omega
theorem du_two : duK A O J bo t = 0 ∨ duK A O J bo t = 3 := by
  by_cases h8 : (irN (ordT A)).length ≤ 8
  · exact .inl (du_0 hI h8).1
  · exact .inr (du_3 hI h8).1
theorem du_len : (duL A O J bo t).length ≤ 30 := by
  unfold duL
  split
  · rw [dualL_len]
    have := irN_len (ordT A)
    have := (isHy_sz (hyIs_hy hI)).1
    omega
  · simp
theorem af_len : (afR A O J bo t).length ≤ 30 := by
  rw [(af_0 hI).1, srtI_len, ordT_len]
  exact ((isHy_sz (hyIs_hy hI)).1).2.2.1 ▸ ((isHy_sz (hyIs_hy hI)).1).2.1
end
theorem lsI_f {L : List Int} {t : Int} {i k : Nat} {b : Bool} (h : lsI L t i k = b) (hb : b = false) : lsI L t i (k + 1) = false := by rw [lsI, h, hb]; rfl
theorem lsI_t1 {L : List Int} {t : Int} {i k : Nat} {b : Bool} (h : lsI L t i k = b) (hb : b = true) (e : L.getD k 0 = t) : lsI L t i (k + 1) = true := by rw [lsI, h, hb, decide_eq_true e]; rfl
theorem lsI_t2 {L : List Int} {t : Int} {i k : Nat} {b : Bool} (h : lsI L t i k = b) (hb : b = true) (e : ¬ L.getD k 0 = t) : lsI L t i (k + 1) = decide (bnot (L.getD i 0) (L.getD k 0) = 0) := by rw [lsI, h, hb, decide_eq_false e]; rfl
theorem lsO_t {L : List Int} {t : Int} {i : Nat} {b : Bool} (h : lsO L t i = b) (hb : b = true) : lsO L t (i + 1) = true := by rw [lsO, h, hb]; rfl
theorem lsO_f {L : List Int} {t : Int} {i k : Nat} {b c : Bool} (h : lsO L t i = b) (hb : b = false) (h2 : lsI L t i k = c) (hk : k = L.length) : lsO L t (i + 1) = c := by subst hk; rw [lsO, h, hb, h2]; rfl

theorem big_c (c : List Int) : CallA Tryz.prog 8 [LB c] (.bool (decide ((c.length : Int) > 4096))) := by
  refine CallA.of Tryz.func8 rfl (by kernel_rfl) ?_
  exact R.go 11 (R.retE (.bool (decide ((c.length : Int) > 4096))) (by kernel_rfl) (by kernel_rfl) (by rfl))

set_option maxHeartbeats 4000000 in
theorem lawOp_c (c : List Int) (hcb : ∀ q : Nat, q < c.length → 0 ≤ c.getD q 0 ∧ c.getD q 0 ≤ 255) : CallA Tryz.prog 3 [LB c] (.bool true) := by
 refine CallA.of Tryz.func3 rfl (by kernel_rfl) ?_
 refine R.go 8 (k15 true (big_c c) rfl ?_)
 refine R.go 1 (k3 ((c.length : Int) > 4096) (fun c1 => ?_) (fun c1 => ?_))
 ·exact R.go 4 (k18 (.bool true) (by rfl))
 ·have hc : BY c := ⟨by omega, hcb⟩
  refine R.go 4 (k27 (drOp_c c hc) ?_)
  rintro _ _ ⟨A2_2, O2_3, J2_4, b2_5, t2_6, f7, f8, f9, rfl, rfl⟩
  have hzA : SZ A2_2 := by assumption
  have hmA : ∀ i0 : Nat, i0 < (A2_2).length → ((A2_2).getD i0 []).length ≤ 1000000000 := fun i0 h => Nat.le_trans (hzA.2 i0 h) (by decide)
  have hlA : (A2_2).length ≤ 1000000000 := Nat.le_trans hzA.1 (by decide)
  have hzO : SZ O2_3 := by assumption
  have hmO : ∀ i0 : Nat, i0 < (O2_3).length → ((O2_3).getD i0 []).length ≤ 1000000000 := fun i0 h => Nat.le_trans (hzO.2 i0 h) (by decide)
  have hlO : (O2_3).length ≤ 1000000000 := Nat.le_trans hzO.1 (by decide)
  have hzJ : SZ J2_4 := by assumption
  have hmJ : ∀ i0 : Nat, i0 < (J2_4).length → ((J2_4).getD i0 []).length ≤ 1000000000 := fun i0 h => Nat.le_trans (hzJ.2 i0 h) (by decide)
  have hlJ : (J2_4).length ≤ 1000000000 := Nat.le_trans hzJ.1 (by decide)
  have hla : (A2_2).length ≤ 1000000000 ∧ (O2_3).length ≤ 1000000000 ∧ (J2_4).length ≤ 1000000000 := ⟨hlA, hlO, hlJ⟩
  refine R.go 6 (k15 true (opImpl_c A2_2 O2_3 J2_4 b2_5 t2_6 (by first | omega | (simp <;> omega)) (by assumption) (by assumption) (by assumption)) rfl ?_)
  refine R.go 9 (k15 true (opSpec_c A2_2 O2_3 J2_4 b2_5 t2_6 (by first | omega | (simp <;> omega)) (by assumption) (by assumption) (by assumption)) rfl ?_)
  refine R.go 13 (k5 (!decide ((opC A2_2 O2_3 J2_4 b2_5 t2_6) = (opC A2_2 O2_3 J2_4 b2_5 t2_6))) false (nF rfl) ?_)
  refine R.go 1 (k5 (!decide ((opC A2_2 O2_3 J2_4 b2_5 t2_6) = (opC A2_2 O2_3 J2_4 b2_5 t2_6))) false (nF rfl) ?_)
  refine R.go 1 (k5 (!decide ((opC A2_2 O2_3 J2_4 b2_5 t2_6) = (opC A2_2 O2_3 J2_4 b2_5 t2_6))) false (nF rfl) ?_)
  refine R.go 1 (k7 (!decide ((opC A2_2 O2_3 J2_4 b2_5 t2_6) = (opC A2_2 O2_3 J2_4 b2_5 t2_6))) false (nF rfl) ?_)
  refine R.go 1 (R.els (!decide ((opV A2_2 O2_3 J2_4 b2_5 t2_6) = (opV A2_2 O2_3 J2_4 b2_5 t2_6))) (by kernel_rfl) (nF rfl) ?_)
  refine R.go 7 (k3 ((opC A2_2 O2_3 J2_4 b2_5 t2_6) = 1) (fun c10 => ?_) (fun c10 => ?_))
  ·exact R.go 4 (k18 (.bool true) (by rfl))
  ·have hI : hyIs A2_2 O2_3 J2_4 b2_5 t2_6 = true := (Bool.eq_false_or_eq_true _).elim id fun e => absurd (op_bad e).1 (by assumption)
   obtain ⟨hd1, hd2⟩ := af_0 hI
   have hIH := hyIs_hy hI
   have ht3 := isHy_t hIH
   have htn := ht3.2
   have hs0 := (isHy_sz hIH).1
   have hafl := af_len hI
   have hdu := du_two hI
   have hdl := du_len hI
   refine R.go 4 (k15 true (allFil_c A2_2 O2_3 J2_4 b2_5 t2_6 (by first | omega | (simp <;> omega)) (by assumption) (by assumption) (by assumption)).frz rfl ?_)
   refine R.go 12 (k4 ((hyC0 A2_2 O2_3 J2_4 b2_5 t2_6) = 0) (fun c11 => ?_) (fun c11 => ?_))
   ·exact R.go 4 (k18 (.bool false) (by first | (first | rfl | (exfalso; omega) | exact congrArg AV.bool (decide_eq_true (by assumption)) | exact congrArg AV.bool (by rw [decide_eq_false hnt]; rfl) | exact absurd (hbb.symm.trans (by assumption : _ = false)) (by decide) | exact absurd (hrr.symm.trans (by assumption : _ = false)) (by decide)) | (exfalso; omega)))
   ·refine R.go 11 (k16 ((fun | (i, lb) => (⟨(frm 146 [(3, .ptr 0 0), (4, AI (opV A2_2 O2_3 J2_4 b2_5 t2_6)), (5, AI (opC A2_2 O2_3 J2_4 b2_5 t2_6)), (8, LI (afR A2_2 O2_3 J2_4 b2_5 t2_6)), (10, .bool lb), (11, AI (i : Int))]), [.box 26 [LLI A2_2, LLI O2_3, LLI J2_4, AI b2_5, AI t2_6]]⟩ : St) : Nat × Bool → St)) (fun | (i, lb) => (i ≤ (afR A2_2 O2_3 J2_4 b2_5 t2_6).length) ∧ (lsO (afR A2_2 O2_3 J2_4 b2_5 t2_6) (shl64 1 t2_6) i = lb)) (fun | (i, lb) => (afR A2_2 O2_3 J2_4 b2_5 t2_6).length - i) (0, false) [3, 4, 5, 8, 10, 11] none ⟨(by omega), (by rfl)⟩ ?_)
    rintro ⟨i, lb⟩ ⟨h15_1, h15_2⟩ R12 N13
    refine R.go 8 (k3 ((i : Int) < ((afR A2_2 O2_3 J2_4 b2_5 t2_6).length : Int)) (fun c16 => ?_) (fun c16 => ?_))
    ·refine R.go 7 (k8 eI (afR A2_2 O2_3 J2_4 b2_5 t2_6) 0 i (i : Int) rfl eI_len ?_)
     refine R.go 3 (k2 .u64 t2_6 (u64_id (by omega) (by omega)) ?_)
     refine R.shl 1 t2_6 (by kernel_rfl) (by omega) (by kernel_rfl) ?_
     refine R.go 9 (k16 ((fun | (k, ib) => (⟨(frm 146 [(3, .ptr 0 0), (4, AI (opV A2_2 O2_3 J2_4 b2_5 t2_6)), (5, AI (opC A2_2 O2_3 J2_4 b2_5 t2_6)), (8, LI (afR A2_2 O2_3 J2_4 b2_5 t2_6)), (10, .bool lb), (11, AI (i : Int)), (12, .bool ib), (13, AI (k : Int))]), [.box 26 [LLI A2_2, LLI O2_3, LLI J2_4, AI b2_5, AI t2_6]]⟩ : St) : Nat × Bool → St)) (fun | (k, ib) => (k ≤ (afR A2_2 O2_3 J2_4 b2_5 t2_6).length) ∧ (lsI (afR A2_2 O2_3 J2_4 b2_5 t2_6) (shl64 1 t2_6) i k = ib)) (fun | (k, ib) => (afR A2_2 O2_3 J2_4 b2_5 t2_6).length - k) (0, (!decide (((afR A2_2 O2_3 J2_4 b2_5 t2_6).getD i 0) = (shl64 1 t2_6)))) [3, 4, 5, 8, 10, 11, 12, 13] none ⟨(by omega), (by rfl)⟩ ?_)
     rintro ⟨k, ib⟩ ⟨h20_1, h20_2⟩ R17 N18
     refine R.go 8 (k3 ((k : Int) < ((afR A2_2 O2_3 J2_4 b2_5 t2_6).length : Int)) (fun c21 => ?_) (fun c21 => ?_))
     ·refine R.go 6 ?_
      refine (Bool.eq_false_or_eq_true (ib)).elim (fun c22 => ?_) (fun c22 => ?_)
      ·refine k5 (ib) true c22 ?_
       refine R.go 1 (k5 (ib) true c22 ?_)
       refine R.go 1 (k5 (ib) true c22 ?_)
       refine k8 eI (afR A2_2 O2_3 J2_4 b2_5 t2_6) 0 k (k : Int) rfl eI_len ?_
       refine k5 (ib) true c22 ?_
       refine R.go 1 (k5 (ib) true c22 ?_)
       refine R.go 1 (k5 (ib) true c22 ?_)
       refine R.go 1 (k5 (ib) true c22 ?_)
       refine k2 .u64 t2_6 (u64_id (by omega) (by omega)) ?_
       refine k5 (ib) true c22 ?_
       refine R.shl 1 t2_6 (by kernel_rfl) (by omega) (by kernel_rfl) ?_
       refine k5 (ib) true c22 ?_
       refine R.go 1 (k5 (ib) true c22 ?_)
       refine R.go 1 ?_
       by_cases c23 : ((afR A2_2 O2_3 J2_4 b2_5 t2_6).getD k 0) = (shl64 1 t2_6)
       ·refine k6 (decide (((afR A2_2 O2_3 J2_4 b2_5 t2_6).getD k 0) = (shl64 1 t2_6))) false (dT c23) ?_
        refine k6 (decide (((afR A2_2 O2_3 J2_4 b2_5 t2_6).getD k 0) = (shl64 1 t2_6))) false (dT c23) ?_
        refine k6 (decide (((afR A2_2 O2_3 J2_4 b2_5 t2_6).getD k 0) = (shl64 1 t2_6))) false (dT c23) ?_
        refine k6 (decide (((afR A2_2 O2_3 J2_4 b2_5 t2_6).getD k 0) = (shl64 1 t2_6))) false (dT c23) ?_
        refine k6 (decide (((afR A2_2 O2_3 J2_4 b2_5 t2_6).getD k 0) = (shl64 1 t2_6))) false (dT c23) ?_
        refine k6 (decide (((afR A2_2 O2_3 J2_4 b2_5 t2_6).getD k 0) = (shl64 1 t2_6))) false (dT c23) ?_
        refine k6 (decide (((afR A2_2 O2_3 J2_4 b2_5 t2_6).getD k 0) = (shl64 1 t2_6))) false (dT c23) ?_
        refine k6 (decide (((afR A2_2 O2_3 J2_4 b2_5 t2_6).getD k 0) = (shl64 1 t2_6))) false (dT c23) ?_
        refine k6 (decide (((afR A2_2 O2_3 J2_4 b2_5 t2_6).getD k 0) = (shl64 1 t2_6))) false (dT c23) ?_
        refine k6 (decide (((afR A2_2 O2_3 J2_4 b2_5 t2_6).getD k 0) = (shl64 1 t2_6))) false (dT c23) ?_
        refine k5 (ib) true c22 ?_
        refine k7 (decide (((afR A2_2 O2_3 J2_4 b2_5 t2_6).getD k 0) = (shl64 1 t2_6))) true (dT c23) ?_
        refine k7 (ib) true c22 ?_
        refine R.go 5 (k1 ((k : Int) + 1) ?_)
        exact R.go 2 (k17 R17 (N18 (k + 1, true) [3, 4, 5, 8, 10, 11, 12, 13] none _ (by kernel_rfl) (by kernel_rfl) ⟨(by omega), (by first | exact lsI_f (by assumption) (by assumption) | exact lsI_t1 (by assumption) (by assumption) (by assumption) | exact lsI_t2 (by assumption) (by assumption) (by assumption))⟩ (by show ((afR A2_2 O2_3 J2_4 b2_5 t2_6).length - (k + 1)) < ((afR A2_2 O2_3 J2_4 b2_5 t2_6).length - k); omega)))
       ·refine k5 (decide (((afR A2_2 O2_3 J2_4 b2_5 t2_6).getD k 0) = (shl64 1 t2_6))) false (dF c23) ?_
        refine R.go 1 (k5 (decide (((afR A2_2 O2_3 J2_4 b2_5 t2_6).getD k 0) = (shl64 1 t2_6))) false (dF c23) ?_)
        refine R.go 1 (k5 (decide (((afR A2_2 O2_3 J2_4 b2_5 t2_6).getD k 0) = (shl64 1 t2_6))) false (dF c23) ?_)
        refine k8 eI (afR A2_2 O2_3 J2_4 b2_5 t2_6) 0 i (i : Int) rfl eI_len ?_
        refine k5 (decide (((afR A2_2 O2_3 J2_4 b2_5 t2_6).getD k 0) = (shl64 1 t2_6))) false (dF c23) ?_
        refine R.go 1 (k5 (decide (((afR A2_2 O2_3 J2_4 b2_5 t2_6).getD k 0) = (shl64 1 t2_6))) false (dF c23) ?_)
        refine R.go 1 (k5 (decide (((afR A2_2 O2_3 J2_4 b2_5 t2_6).getD k 0) = (shl64 1 t2_6))) false (dF c23) ?_)
        refine R.go 1 (k5 (decide (((afR A2_2 O2_3 J2_4 b2_5 t2_6).getD k 0) = (shl64 1 t2_6))) false (dF c23) ?_)
        refine k8 eI (afR A2_2 O2_3 J2_4 b2_5 t2_6) 0 k (k : Int) rfl eI_len ?_
        refine k5 (decide (((afR A2_2 O2_3 J2_4 b2_5 t2_6).getD k 0) = (shl64 1 t2_6))) false (dF c23) ?_
        refine R.go 1 (k5 (decide (((afR A2_2 O2_3 J2_4 b2_5 t2_6).getD k 0) = (shl64 1 t2_6))) false (dF c23) ?_)
        refine R.go 1 (k5 (decide (((afR A2_2 O2_3 J2_4 b2_5 t2_6).getD k 0) = (shl64 1 t2_6))) false (dF c23) ?_)
        refine R.go 1 (k5 (ib) true c22 ?_)
        refine k7 (decide (((afR A2_2 O2_3 J2_4 b2_5 t2_6).getD k 0) = (shl64 1 t2_6))) false (dF c23) ?_
        refine k7 (ib) true c22 ?_
        refine R.go 5 (k1 ((k : Int) + 1) ?_)
        exact R.go 2 (k17 R17 (N18 (k + 1, decide ((bnot ((afR A2_2 O2_3 J2_4 b2_5 t2_6).getD i 0) ((afR A2_2 O2_3 J2_4 b2_5 t2_6).getD k 0)) = 0)) [3, 4, 5, 8, 10, 11, 12, 13] none _ (by kernel_rfl) (by kernel_rfl) ⟨(by omega), (by first | exact lsI_f (by assumption) (by assumption) | exact lsI_t1 (by assumption) (by assumption) (by assumption) | exact lsI_t2 (by assumption) (by assumption) (by assumption))⟩ (by show ((afR A2_2 O2_3 J2_4 b2_5 t2_6).length - (k + 1)) < ((afR A2_2 O2_3 J2_4 b2_5 t2_6).length - k); omega)))
      ·refine k6 (ib) true c22 ?_
       refine k6 (ib) true c22 ?_
       refine k6 (ib) true c22 ?_
       refine k6 (ib) true c22 ?_
       refine k6 (ib) true c22 ?_
       refine k6 (ib) true c22 ?_
       refine k6 (ib) true c22 ?_
       refine k6 (ib) true c22 ?_
       refine k6 (ib) true c22 ?_
       refine k6 (ib) true c22 ?_
       refine R.go 10 (k6 (ib) true c22 ?_)
       refine k7 (ib) false c22 ?_
       refine R.go 5 (k1 ((k : Int) + 1) ?_)
       exact R.go 2 (k17 R17 (N18 (k + 1, false) [3, 4, 5, 8, 10, 11, 12, 13] none _ (by kernel_rfl) (by kernel_rfl) ⟨(by omega), (by first | exact lsI_f (by assumption) (by assumption) | exact lsI_t1 (by assumption) (by assumption) (by assumption) | exact lsI_t2 (by assumption) (by assumption) (by assumption))⟩ (by show ((afR A2_2 O2_3 J2_4 b2_5 t2_6).length - (k + 1)) < ((afR A2_2 O2_3 J2_4 b2_5 t2_6).length - k); omega)))
     ·refine R.go 4 ?_
      refine (Bool.eq_false_or_eq_true (lb)).elim (fun c24 => ?_) (fun c24 => ?_)
      ·refine k6 (lb) false c24 ?_
       refine k7 (lb) true c24 ?_
       refine R.go 5 (k1 ((i : Int) + 1) ?_)
       exact R.go 2 (k17 R12 (N13 (i + 1, true) [3, 4, 5, 8, 10, 11] none _ (by kernel_rfl) (by kernel_rfl) ⟨(by omega), (by first | exact lsO_t (by assumption) (by assumption) | exact lsO_f (by assumption) (by assumption) (by assumption) (by omega))⟩ (by show ((afR A2_2 O2_3 J2_4 b2_5 t2_6).length - (i + 1)) < ((afR A2_2 O2_3 J2_4 b2_5 t2_6).length - i); omega)))
      ·refine k5 (lb) false c24 ?_
       refine R.go 1 (k7 (lb) false c24 ?_)
       refine R.go 5 (k1 ((i : Int) + 1) ?_)
       exact R.go 2 (k17 R12 (N13 (i + 1, ib) [3, 4, 5, 8, 10, 11] none _ (by kernel_rfl) (by kernel_rfl) ⟨(by omega), (by first | exact lsO_t (by assumption) (by assumption) | exact lsO_f (by assumption) (by assumption) (by assumption) (by omega))⟩ (by show ((afR A2_2 O2_3 J2_4 b2_5 t2_6).length - (i + 1)) < ((afR A2_2 O2_3 J2_4 b2_5 t2_6).length - i); omega)))
    ·have hlb : lb = decide (0 ≤ opX (ordT A2_2) t2_6) := by rw [← (by assumption : lsO (afR A2_2 O2_3 J2_4 b2_5 t2_6) (shl64 1 t2_6) i = lb), show i = (afR A2_2 O2_3 J2_4 b2_5 t2_6).length by omega]; exact ls_af hI
     have hbb : (lb == (decide (opC A2_2 O2_3 J2_4 b2_5 t2_6 = 0))) = true := by rw [hlb, op_dec hI]; exact beq_self_eq_true _
     refine R.go 4 (k15 true (dualOf_c A2_2 O2_3 J2_4 b2_5 t2_6 (by first | omega | (simp <;> omega)) (by assumption) (by assumption) (by assumption)).frz rfl ?_)
     refine R.go 15 ?_
     refine (Bool.eq_false_or_eq_true ((lb == (decide ((opC A2_2 O2_3 J2_4 b2_5 t2_6) = 0))))).elim (fun c25 => ?_) (fun c25 => ?_)
     ·refine k5 (!(lb == (decide ((opC A2_2 O2_3 J2_4 b2_5 t2_6) = 0)))) false (bnF c25) ?_
      refine R.go 1 (k5 (!(lb == (decide ((opC A2_2 O2_3 J2_4 b2_5 t2_6) = 0)))) false (bnF c25) ?_)
      refine R.go 1 (k5 (!(lb == (decide ((opC A2_2 O2_3 J2_4 b2_5 t2_6) = 0)))) false (bnF c25) ?_)
      refine R.go 1 ?_
      by_cases c26 : (duK A2_2 O2_3 J2_4 b2_5 t2_6) = 0
      ·refine k6 (!decide ((duK A2_2 O2_3 J2_4 b2_5 t2_6) = 0)) true (nF c26) ?_
       refine k6 (!decide ((duK A2_2 O2_3 J2_4 b2_5 t2_6) = 0)) true (nF c26) ?_
       refine k5 (!(lb == (decide ((opC A2_2 O2_3 J2_4 b2_5 t2_6) = 0)))) false (bnF c25) ?_
       refine k7 (!decide ((duK A2_2 O2_3 J2_4 b2_5 t2_6) = 0)) false (nF c26) ?_
       refine k7 (!(lb == (decide ((opC A2_2 O2_3 J2_4 b2_5 t2_6) = 0)))) false (bnF c25) ?_
       refine R.go 9 (R.thn (decide ((duK A2_2 O2_3 J2_4 b2_5 t2_6) = 0)) (by kernel_rfl) (dT c26) ?_)
       refine R.go 3 (k15 true (RT_impl (duN A2_2 O2_3 J2_4 b2_5 t2_6) (duL A2_2 O2_3 J2_4 b2_5 t2_6) (by first | omega | (simp <;> omega))) rfl ?_)
       have hrr : ((decide (rootC (duN A2_2 O2_3 J2_4 b2_5 t2_6) (duL A2_2 O2_3 J2_4 b2_5 t2_6) = 0)) == lb) = true := by rw [hlb, root_dec hI (by assumption)]; exact beq_self_eq_true _
       refine R.go 13 (k20 (((decide ((rootC (duN A2_2 O2_3 J2_4 b2_5 t2_6) (duL A2_2 O2_3 J2_4 b2_5 t2_6)) = 0)) == lb)) (fun c27 => ?_) (fun c27 => ?_))
       ·exact R.go 4 (k18 (.bool false) (by first | (first | rfl | (exfalso; omega) | exact congrArg AV.bool (decide_eq_true (by assumption)) | exact congrArg AV.bool (by rw [decide_eq_false hnt]; rfl) | exact absurd (hbb.symm.trans (by assumption : _ = false)) (by decide) | exact absurd (hrr.symm.trans (by assumption : _ = false)) (by decide)) | (exfalso; omega)))
       ·refine R.go 3 ?_
        by_cases c28 : opC A2_2 O2_3 J2_4 b2_5 t2_6 = 0
        ·have hof := op_fin hI (by assumption)
         have hof1 := hof.1
         have hof2 := hof.2.1
         have hjj : (O2_3.getD ((opV A2_2 O2_3 J2_4 b2_5 t2_6)).toNat []).getD ((opV A2_2 O2_3 J2_4 b2_5 t2_6)).toNat 0 = (opV A2_2 O2_3 J2_4 b2_5 t2_6) := hof.2.2.1
         have hnt : ¬ (opV A2_2 O2_3 J2_4 b2_5 t2_6) = t2_6 := hof.2.2.2
         refine R.go 3 ?_
         by_cases c29 : (opC A2_2 O2_3 J2_4 b2_5 t2_6) = 0
         ·refine k5 (!decide ((opC A2_2 O2_3 J2_4 b2_5 t2_6) = 0)) false (nF c29) ?_
          refine R.go 1 (k5 (!decide ((opC A2_2 O2_3 J2_4 b2_5 t2_6) = 0)) false (nF c29) ?_)
          refine R.go 1 (k5 (!decide ((opC A2_2 O2_3 J2_4 b2_5 t2_6) = 0)) false (nF c29) ?_)
          refine R.go 1 (k5 (!decide ((opC A2_2 O2_3 J2_4 b2_5 t2_6) = 0)) false (nF c29) ?_)
          refine k8 eLI O2_3 [] ((opV A2_2 O2_3 J2_4 b2_5 t2_6).toNat) (opV A2_2 O2_3 J2_4 b2_5 t2_6) (by omega) eLI_len ?_
          refine k5 (!decide ((opC A2_2 O2_3 J2_4 b2_5 t2_6) = 0)) false (nF c29) ?_
          refine R.go 1 (k5 (!decide ((opC A2_2 O2_3 J2_4 b2_5 t2_6) = 0)) false (nF c29) ?_)
          refine R.go 1 (k5 (!decide ((opC A2_2 O2_3 J2_4 b2_5 t2_6) = 0)) false (nF c29) ?_)
          refine k8 eI (O2_3.getD ((opV A2_2 O2_3 J2_4 b2_5 t2_6).toNat) []) 0 ((opV A2_2 O2_3 J2_4 b2_5 t2_6).toNat) (opV A2_2 O2_3 J2_4 b2_5 t2_6) (by omega) eI_len ?_ (hj := by first | omega | (simp only [List.length_set]; omega) | (simp <;> omega))
          refine k5 (!decide ((opC A2_2 O2_3 J2_4 b2_5 t2_6) = 0)) false (nF c29) ?_
          refine R.go 1 (k5 (!decide ((opC A2_2 O2_3 J2_4 b2_5 t2_6) = 0)) false (nF c29) ?_)
          refine R.go 1 (k5 (!decide ((opC A2_2 O2_3 J2_4 b2_5 t2_6) = 0)) false (nF c29) ?_)
          refine R.go 1 (k5 (!decide ((opC A2_2 O2_3 J2_4 b2_5 t2_6) = 0)) false (nF c29) ?_)
          refine R.go 1 ?_
          by_cases c30 : ((O2_3.getD ((opV A2_2 O2_3 J2_4 b2_5 t2_6).toNat) []).getD ((opV A2_2 O2_3 J2_4 b2_5 t2_6).toNat) 0) = (opV A2_2 O2_3 J2_4 b2_5 t2_6)
          ·refine k5 (decide (((O2_3.getD ((opV A2_2 O2_3 J2_4 b2_5 t2_6).toNat) []).getD ((opV A2_2 O2_3 J2_4 b2_5 t2_6).toNat) 0) = (opV A2_2 O2_3 J2_4 b2_5 t2_6))) true (dT c30) ?_
           refine R.go 1 (k5 (decide (((O2_3.getD ((opV A2_2 O2_3 J2_4 b2_5 t2_6).toNat) []).getD ((opV A2_2 O2_3 J2_4 b2_5 t2_6).toNat) 0) = (opV A2_2 O2_3 J2_4 b2_5 t2_6))) true (dT c30) ?_)
           refine R.go 1 (k5 (decide (((O2_3.getD ((opV A2_2 O2_3 J2_4 b2_5 t2_6).toNat) []).getD ((opV A2_2 O2_3 J2_4 b2_5 t2_6).toNat) 0) = (opV A2_2 O2_3 J2_4 b2_5 t2_6))) true (dT c30) ?_)
           refine R.go 1 (k5 (decide (((O2_3.getD ((opV A2_2 O2_3 J2_4 b2_5 t2_6).toNat) []).getD ((opV A2_2 O2_3 J2_4 b2_5 t2_6).toNat) 0) = (opV A2_2 O2_3 J2_4 b2_5 t2_6))) true (dT c30) ?_)
           refine R.go 1 (k5 (!decide ((opC A2_2 O2_3 J2_4 b2_5 t2_6) = 0)) false (nF c29) ?_)
           refine k7 (decide (((O2_3.getD ((opV A2_2 O2_3 J2_4 b2_5 t2_6).toNat) []).getD ((opV A2_2 O2_3 J2_4 b2_5 t2_6).toNat) 0) = (opV A2_2 O2_3 J2_4 b2_5 t2_6))) true (dT c30) ?_
           refine k7 (!decide ((opC A2_2 O2_3 J2_4 b2_5 t2_6) = 0)) false (nF c29) ?_
           exact R.go 2 (k18 (.bool (!decide ((opV A2_2 O2_3 J2_4 b2_5 t2_6) = t2_6))) (by first | (first | rfl | (exfalso; omega) | exact congrArg AV.bool (decide_eq_true (by assumption)) | exact congrArg AV.bool (by rw [decide_eq_false hnt]; rfl) | exact absurd (hbb.symm.trans (by assumption : _ = false)) (by decide) | exact absurd (hrr.symm.trans (by assumption : _ = false)) (by decide)) | (exfalso; omega)))
          ·refine k6 (decide (((O2_3.getD ((opV A2_2 O2_3 J2_4 b2_5 t2_6).toNat) []).getD ((opV A2_2 O2_3 J2_4 b2_5 t2_6).toNat) 0) = (opV A2_2 O2_3 J2_4 b2_5 t2_6))) true (dF c30) ?_
           refine k6 (decide (((O2_3.getD ((opV A2_2 O2_3 J2_4 b2_5 t2_6).toNat) []).getD ((opV A2_2 O2_3 J2_4 b2_5 t2_6).toNat) 0) = (opV A2_2 O2_3 J2_4 b2_5 t2_6))) true (dF c30) ?_
           refine k6 (decide (((O2_3.getD ((opV A2_2 O2_3 J2_4 b2_5 t2_6).toNat) []).getD ((opV A2_2 O2_3 J2_4 b2_5 t2_6).toNat) 0) = (opV A2_2 O2_3 J2_4 b2_5 t2_6))) true (dF c30) ?_
           refine k6 (decide (((O2_3.getD ((opV A2_2 O2_3 J2_4 b2_5 t2_6).toNat) []).getD ((opV A2_2 O2_3 J2_4 b2_5 t2_6).toNat) 0) = (opV A2_2 O2_3 J2_4 b2_5 t2_6))) true (dF c30) ?_
           refine k5 (!decide ((opC A2_2 O2_3 J2_4 b2_5 t2_6) = 0)) false (nF c29) ?_
           refine k7 (decide (((O2_3.getD ((opV A2_2 O2_3 J2_4 b2_5 t2_6).toNat) []).getD ((opV A2_2 O2_3 J2_4 b2_5 t2_6).toNat) 0) = (opV A2_2 O2_3 J2_4 b2_5 t2_6))) false (dF c30) ?_
           refine k7 (!decide ((opC A2_2 O2_3 J2_4 b2_5 t2_6) = 0)) false (nF c29) ?_
           exact R.go 2 (k18 (.bool false) (by first | (first | rfl | (exfalso; omega) | exact congrArg AV.bool (decide_eq_true (by assumption)) | exact congrArg AV.bool (by rw [decide_eq_false hnt]; rfl) | exact absurd (hbb.symm.trans (by assumption : _ = false)) (by decide) | exact absurd (hrr.symm.trans (by assumption : _ = false)) (by decide)) | (exfalso; omega)))
         ·refine k6 (!decide ((opC A2_2 O2_3 J2_4 b2_5 t2_6) = 0)) false (nT c29) ?_
          refine k6 (!decide ((opC A2_2 O2_3 J2_4 b2_5 t2_6) = 0)) false (nT c29) ?_
          refine k6 (!decide ((opC A2_2 O2_3 J2_4 b2_5 t2_6) = 0)) false (nT c29) ?_
          refine k6 (!decide ((opC A2_2 O2_3 J2_4 b2_5 t2_6) = 0)) false (nT c29) ?_
          refine k6 (!decide ((opC A2_2 O2_3 J2_4 b2_5 t2_6) = 0)) false (nT c29) ?_
          refine k6 (!decide ((opC A2_2 O2_3 J2_4 b2_5 t2_6) = 0)) false (nT c29) ?_
          refine k6 (!decide ((opC A2_2 O2_3 J2_4 b2_5 t2_6) = 0)) false (nT c29) ?_
          refine k6 (!decide ((opC A2_2 O2_3 J2_4 b2_5 t2_6) = 0)) false (nT c29) ?_
          refine k6 (!decide ((opC A2_2 O2_3 J2_4 b2_5 t2_6) = 0)) false (nT c29) ?_
          refine k6 (!decide ((opC A2_2 O2_3 J2_4 b2_5 t2_6) = 0)) false (nT c29) ?_
          refine k6 (!decide ((opC A2_2 O2_3 J2_4 b2_5 t2_6) = 0)) false (nT c29) ?_
          refine R.go 4 (k6 (!decide ((opC A2_2 O2_3 J2_4 b2_5 t2_6) = 0)) false (nT c29) ?_)
          refine k7 (!decide ((opC A2_2 O2_3 J2_4 b2_5 t2_6) = 0)) true (nT c29) ?_
          exact R.go 2 (k18 (.bool true) (by rfl))
        ·skip
         refine R.go 3 ?_
         by_cases c31 : (opC A2_2 O2_3 J2_4 b2_5 t2_6) = 0
         ·refine k5 (!decide ((opC A2_2 O2_3 J2_4 b2_5 t2_6) = 0)) false (nF c31) ?_
          refine R.go 1 (k5 (!decide ((opC A2_2 O2_3 J2_4 b2_5 t2_6) = 0)) false (nF c31) ?_)
          refine R.go 1 (k5 (!decide ((opC A2_2 O2_3 J2_4 b2_5 t2_6) = 0)) false (nF c31) ?_)
          refine R.go 1 (k5 (!decide ((opC A2_2 O2_3 J2_4 b2_5 t2_6) = 0)) false (nF c31) ?_)
          refine k8 eLI O2_3 [] ((opV A2_2 O2_3 J2_4 b2_5 t2_6).toNat) (opV A2_2 O2_3 J2_4 b2_5 t2_6) (by omega) eLI_len ?_
          refine k5 (!decide ((opC A2_2 O2_3 J2_4 b2_5 t2_6) = 0)) false (nF c31) ?_
          refine R.go 1 (k5 (!decide ((opC A2_2 O2_3 J2_4 b2_5 t2_6) = 0)) false (nF c31) ?_)
          refine R.go 1 (k5 (!decide ((opC A2_2 O2_3 J2_4 b2_5 t2_6) = 0)) false (nF c31) ?_)
          refine k8 eI (O2_3.getD ((opV A2_2 O2_3 J2_4 b2_5 t2_6).toNat) []) 0 ((opV A2_2 O2_3 J2_4 b2_5 t2_6).toNat) (opV A2_2 O2_3 J2_4 b2_5 t2_6) (by omega) eI_len ?_ (hj := by first | omega | (simp only [List.length_set]; omega) | (simp <;> omega))
          refine k5 (!decide ((opC A2_2 O2_3 J2_4 b2_5 t2_6) = 0)) false (nF c31) ?_
          refine R.go 1 (k5 (!decide ((opC A2_2 O2_3 J2_4 b2_5 t2_6) = 0)) false (nF c31) ?_)
          refine R.go 1 (k5 (!decide ((opC A2_2 O2_3 J2_4 b2_5 t2_6) = 0)) false (nF c31) ?_)
          refine R.go 1 (k5 (!decide ((opC A2_2 O2_3 J2_4 b2_5 t2_6) = 0)) false (nF c31) ?_)
          refine R.go 1 ?_
          by_cases c32 : ((O2_3.getD ((opV A2_2 O2_3 J2_4 b2_5 t2_6).toNat) []).getD ((opV A2_2 O2_3 J2_4 b2_5 t2_6).toNat) 0) = (opV A2_2 O2_3 J2_4 b2_5 t2_6)
          ·refine k5 (decide (((O2_3.getD ((opV A2_2 O2_3 J2_4 b2_5 t2_6).toNat) []).getD ((opV A2_2 O2_3 J2_4 b2_5 t2_6).toNat) 0) = (opV A2_2 O2_3 J2_4 b2_5 t2_6))) true (dT c32) ?_
           refine R.go 1 (k5 (decide (((O2_3.getD ((opV A2_2 O2_3 J2_4 b2_5 t2_6).toNat) []).getD ((opV A2_2 O2_3 J2_4 b2_5 t2_6).toNat) 0) = (opV A2_2 O2_3 J2_4 b2_5 t2_6))) true (dT c32) ?_)
           refine R.go 1 (k5 (decide (((O2_3.getD ((opV A2_2 O2_3 J2_4 b2_5 t2_6).toNat) []).getD ((opV A2_2 O2_3 J2_4 b2_5 t2_6).toNat) 0) = (opV A2_2 O2_3 J2_4 b2_5 t2_6))) true (dT c32) ?_)
           refine R.go 1 (k5 (decide (((O2_3.getD ((opV A2_2 O2_3 J2_4 b2_5 t2_6).toNat) []).getD ((opV A2_2 O2_3 J2_4 b2_5 t2_6).toNat) 0) = (opV A2_2 O2_3 J2_4 b2_5 t2_6))) true (dT c32) ?_)
           refine R.go 1 (k5 (!decide ((opC A2_2 O2_3 J2_4 b2_5 t2_6) = 0)) false (nF c31) ?_)
           refine k7 (decide (((O2_3.getD ((opV A2_2 O2_3 J2_4 b2_5 t2_6).toNat) []).getD ((opV A2_2 O2_3 J2_4 b2_5 t2_6).toNat) 0) = (opV A2_2 O2_3 J2_4 b2_5 t2_6))) true (dT c32) ?_
           refine k7 (!decide ((opC A2_2 O2_3 J2_4 b2_5 t2_6) = 0)) false (nF c31) ?_
           exact R.go 2 (k18 (.bool (!decide ((opV A2_2 O2_3 J2_4 b2_5 t2_6) = t2_6))) (by first | (first | rfl | (exfalso; omega) | exact congrArg AV.bool (decide_eq_true (by assumption)) | exact congrArg AV.bool (by rw [decide_eq_false hnt]; rfl) | exact absurd (hbb.symm.trans (by assumption : _ = false)) (by decide) | exact absurd (hrr.symm.trans (by assumption : _ = false)) (by decide)) | (exfalso; omega)))
          ·refine k6 (decide (((O2_3.getD ((opV A2_2 O2_3 J2_4 b2_5 t2_6).toNat) []).getD ((opV A2_2 O2_3 J2_4 b2_5 t2_6).toNat) 0) = (opV A2_2 O2_3 J2_4 b2_5 t2_6))) true (dF c32) ?_
           refine k6 (decide (((O2_3.getD ((opV A2_2 O2_3 J2_4 b2_5 t2_6).toNat) []).getD ((opV A2_2 O2_3 J2_4 b2_5 t2_6).toNat) 0) = (opV A2_2 O2_3 J2_4 b2_5 t2_6))) true (dF c32) ?_
           refine k6 (decide (((O2_3.getD ((opV A2_2 O2_3 J2_4 b2_5 t2_6).toNat) []).getD ((opV A2_2 O2_3 J2_4 b2_5 t2_6).toNat) 0) = (opV A2_2 O2_3 J2_4 b2_5 t2_6))) true (dF c32) ?_
           refine k6 (decide (((O2_3.getD ((opV A2_2 O2_3 J2_4 b2_5 t2_6).toNat) []).getD ((opV A2_2 O2_3 J2_4 b2_5 t2_6).toNat) 0) = (opV A2_2 O2_3 J2_4 b2_5 t2_6))) true (dF c32) ?_
           refine k5 (!decide ((opC A2_2 O2_3 J2_4 b2_5 t2_6) = 0)) false (nF c31) ?_
           refine k7 (decide (((O2_3.getD ((opV A2_2 O2_3 J2_4 b2_5 t2_6).toNat) []).getD ((opV A2_2 O2_3 J2_4 b2_5 t2_6).toNat) 0) = (opV A2_2 O2_3 J2_4 b2_5 t2_6))) false (dF c32) ?_
           refine k7 (!decide ((opC A2_2 O2_3 J2_4 b2_5 t2_6) = 0)) false (nF c31) ?_
           exact R.go 2 (k18 (.bool false) (by first | (first | rfl | (exfalso; omega) | exact congrArg AV.bool (decide_eq_true (by assumption)) | exact congrArg AV.bool (by rw [decide_eq_false hnt]; rfl) | exact absurd (hbb.symm.trans (by assumption : _ = false)) (by decide) | exact absurd (hrr.symm.trans (by assumption : _ = false)) (by decide)) | (exfalso; omega)))
         ·refine k6 (!decide ((opC A2_2 O2_3 J2_4 b2_5 t2_6) = 0)) false (nT c31) ?_
          refine k6 (!decide ((opC A2_2 O2_3 J2_4 b2_5 t2_6) = 0)) false (nT c31) ?_
          refine k6 (!decide ((opC A2_2 O2_3 J2_4 b2_5 t2_6) = 0)) false (nT c31) ?_
          refine k6 (!decide ((opC A2_2 O2_3 J2_4 b2_5 t2_6) = 0)) false (nT c31) ?_
          refine k6 (!decide ((opC A2_2 O2_3 J2_4 b2_5 t2_6) = 0)) false (nT c31) ?_
          refine k6 (!decide ((opC A2_2 O2_3 J2_4 b2_5 t2_6) = 0)) false (nT c31) ?_
          refine k6 (!decide ((opC A2_2 O2_3 J2_4 b2_5 t2_6) = 0)) false (nT c31) ?_
          refine k6 (!decide ((opC A2_2 O2_3 J2_4 b2_5 t2_6) = 0)) false (nT c31) ?_
          refine k6 (!decide ((opC A2_2 O2_3 J2_4 b2_5 t2_6) = 0)) false (nT c31) ?_
          refine k6 (!decide ((opC A2_2 O2_3 J2_4 b2_5 t2_6) = 0)) false (nT c31) ?_
          refine k6 (!decide ((opC A2_2 O2_3 J2_4 b2_5 t2_6) = 0)) false (nT c31) ?_
          refine R.go 4 (k6 (!decide ((opC A2_2 O2_3 J2_4 b2_5 t2_6) = 0)) false (nT c31) ?_)
          refine k7 (!decide ((opC A2_2 O2_3 J2_4 b2_5 t2_6) = 0)) true (nT c31) ?_
          exact R.go 2 (k18 (.bool true) (by rfl))
      ·refine k5 (!decide ((duK A2_2 O2_3 J2_4 b2_5 t2_6) = 0)) true (nT c26) ?_
       refine R.go 1 (k5 (!decide ((duK A2_2 O2_3 J2_4 b2_5 t2_6) = 0)) true (nT c26) ?_)
       refine R.go 1 (k5 (!(lb == (decide ((opC A2_2 O2_3 J2_4 b2_5 t2_6) = 0)))) false (bnF c25) ?_)
       refine k7 (!decide ((duK A2_2 O2_3 J2_4 b2_5 t2_6) = 0)) true (nT c26) ?_
       refine k7 (!(lb == (decide ((opC A2_2 O2_3 J2_4 b2_5 t2_6) = 0)))) false (bnF c25) ?_
       refine R.go 1 (k4 ((duK A2_2 O2_3 J2_4 b2_5 t2_6) = 3) (fun c33 => ?_) (fun c33 => ?_))
       ·exact R.go 4 (k18 (.bool false) (by first | (first | rfl | (exfalso; omega) | exact congrArg AV.bool (decide_eq_true (by assumption)) | exact congrArg AV.bool (by rw [decide_eq_false hnt]; rfl) | exact absurd (hbb.symm.trans (by assumption : _ = false)) (by decide) | exact absurd (hrr.symm.trans (by assumption : _ = false)) (by decide)) | (exfalso; omega)))
       ·refine R.go 7 (R.els (decide ((duK A2_2 O2_3 J2_4 b2_5 t2_6) = 0)) (by kernel_rfl) (dF c26) ?_)
        refine R.go 3 ?_
        by_cases c34 : opC A2_2 O2_3 J2_4 b2_5 t2_6 = 0
        ·have hof := op_fin hI (by assumption)
         have hof1 := hof.1
         have hof2 := hof.2.1
         have hjj : (O2_3.getD ((opV A2_2 O2_3 J2_4 b2_5 t2_6)).toNat []).getD ((opV A2_2 O2_3 J2_4 b2_5 t2_6)).toNat 0 = (opV A2_2 O2_3 J2_4 b2_5 t2_6) := hof.2.2.1
         have hnt : ¬ (opV A2_2 O2_3 J2_4 b2_5 t2_6) = t2_6 := hof.2.2.2
         refine R.go 3 ?_
         by_cases c35 : (opC A2_2 O2_3 J2_4 b2_5 t2_6) = 0
         ·refine k5 (!decide ((opC A2_2 O2_3 J2_4 b2_5 t2_6) = 0)) false (nF c35) ?_
          refine R.go 1 (k5 (!decide ((opC A2_2 O2_3 J2_4 b2_5 t2_6) = 0)) false (nF c35) ?_)
          refine R.go 1 (k5 (!decide ((opC A2_2 O2_3 J2_4 b2_5 t2_6) = 0)) false (nF c35) ?_)
          refine R.go 1 (k5 (!decide ((opC A2_2 O2_3 J2_4 b2_5 t2_6) = 0)) false (nF c35) ?_)
          refine k8 eLI O2_3 [] ((opV A2_2 O2_3 J2_4 b2_5 t2_6).toNat) (opV A2_2 O2_3 J2_4 b2_5 t2_6) (by omega) eLI_len ?_
          refine k5 (!decide ((opC A2_2 O2_3 J2_4 b2_5 t2_6) = 0)) false (nF c35) ?_
          refine R.go 1 (k5 (!decide ((opC A2_2 O2_3 J2_4 b2_5 t2_6) = 0)) false (nF c35) ?_)
          refine R.go 1 (k5 (!decide ((opC A2_2 O2_3 J2_4 b2_5 t2_6) = 0)) false (nF c35) ?_)
          refine k8 eI (O2_3.getD ((opV A2_2 O2_3 J2_4 b2_5 t2_6).toNat) []) 0 ((opV A2_2 O2_3 J2_4 b2_5 t2_6).toNat) (opV A2_2 O2_3 J2_4 b2_5 t2_6) (by omega) eI_len ?_ (hj := by first | omega | (simp only [List.length_set]; omega) | (simp <;> omega))
          refine k5 (!decide ((opC A2_2 O2_3 J2_4 b2_5 t2_6) = 0)) false (nF c35) ?_
          refine R.go 1 (k5 (!decide ((opC A2_2 O2_3 J2_4 b2_5 t2_6) = 0)) false (nF c35) ?_)
          refine R.go 1 (k5 (!decide ((opC A2_2 O2_3 J2_4 b2_5 t2_6) = 0)) false (nF c35) ?_)
          refine R.go 1 (k5 (!decide ((opC A2_2 O2_3 J2_4 b2_5 t2_6) = 0)) false (nF c35) ?_)
          refine R.go 1 ?_
          by_cases c36 : ((O2_3.getD ((opV A2_2 O2_3 J2_4 b2_5 t2_6).toNat) []).getD ((opV A2_2 O2_3 J2_4 b2_5 t2_6).toNat) 0) = (opV A2_2 O2_3 J2_4 b2_5 t2_6)
          ·refine k5 (decide (((O2_3.getD ((opV A2_2 O2_3 J2_4 b2_5 t2_6).toNat) []).getD ((opV A2_2 O2_3 J2_4 b2_5 t2_6).toNat) 0) = (opV A2_2 O2_3 J2_4 b2_5 t2_6))) true (dT c36) ?_
           refine R.go 1 (k5 (decide (((O2_3.getD ((opV A2_2 O2_3 J2_4 b2_5 t2_6).toNat) []).getD ((opV A2_2 O2_3 J2_4 b2_5 t2_6).toNat) 0) = (opV A2_2 O2_3 J2_4 b2_5 t2_6))) true (dT c36) ?_)
           refine R.go 1 (k5 (decide (((O2_3.getD ((opV A2_2 O2_3 J2_4 b2_5 t2_6).toNat) []).getD ((opV A2_2 O2_3 J2_4 b2_5 t2_6).toNat) 0) = (opV A2_2 O2_3 J2_4 b2_5 t2_6))) true (dT c36) ?_)
           refine R.go 1 (k5 (decide (((O2_3.getD ((opV A2_2 O2_3 J2_4 b2_5 t2_6).toNat) []).getD ((opV A2_2 O2_3 J2_4 b2_5 t2_6).toNat) 0) = (opV A2_2 O2_3 J2_4 b2_5 t2_6))) true (dT c36) ?_)
           refine R.go 1 (k5 (!decide ((opC A2_2 O2_3 J2_4 b2_5 t2_6) = 0)) false (nF c35) ?_)
           refine k7 (decide (((O2_3.getD ((opV A2_2 O2_3 J2_4 b2_5 t2_6).toNat) []).getD ((opV A2_2 O2_3 J2_4 b2_5 t2_6).toNat) 0) = (opV A2_2 O2_3 J2_4 b2_5 t2_6))) true (dT c36) ?_
           refine k7 (!decide ((opC A2_2 O2_3 J2_4 b2_5 t2_6) = 0)) false (nF c35) ?_
           exact R.go 2 (k18 (.bool (!decide ((opV A2_2 O2_3 J2_4 b2_5 t2_6) = t2_6))) (by first | (first | rfl | (exfalso; omega) | exact congrArg AV.bool (decide_eq_true (by assumption)) | exact congrArg AV.bool (by rw [decide_eq_false hnt]; rfl) | exact absurd (hbb.symm.trans (by assumption : _ = false)) (by decide) | exact absurd (hrr.symm.trans (by assumption : _ = false)) (by decide)) | (exfalso; omega)))
          ·refine k6 (decide (((O2_3.getD ((opV A2_2 O2_3 J2_4 b2_5 t2_6).toNat) []).getD ((opV A2_2 O2_3 J2_4 b2_5 t2_6).toNat) 0) = (opV A2_2 O2_3 J2_4 b2_5 t2_6))) true (dF c36) ?_
           refine k6 (decide (((O2_3.getD ((opV A2_2 O2_3 J2_4 b2_5 t2_6).toNat) []).getD ((opV A2_2 O2_3 J2_4 b2_5 t2_6).toNat) 0) = (opV A2_2 O2_3 J2_4 b2_5 t2_6))) true (dF c36) ?_
           refine k6 (decide (((O2_3.getD ((opV A2_2 O2_3 J2_4 b2_5 t2_6).toNat) []).getD ((opV A2_2 O2_3 J2_4 b2_5 t2_6).toNat) 0) = (opV A2_2 O2_3 J2_4 b2_5 t2_6))) true (dF c36) ?_
           refine k6 (decide (((O2_3.getD ((opV A2_2 O2_3 J2_4 b2_5 t2_6).toNat) []).getD ((opV A2_2 O2_3 J2_4 b2_5 t2_6).toNat) 0) = (opV A2_2 O2_3 J2_4 b2_5 t2_6))) true (dF c36) ?_
           refine k5 (!decide ((opC A2_2 O2_3 J2_4 b2_5 t2_6) = 0)) false (nF c35) ?_
           refine k7 (decide (((O2_3.getD ((opV A2_2 O2_3 J2_4 b2_5 t2_6).toNat) []).getD ((opV A2_2 O2_3 J2_4 b2_5 t2_6).toNat) 0) = (opV A2_2 O2_3 J2_4 b2_5 t2_6))) false (dF c36) ?_
           refine k7 (!decide ((opC A2_2 O2_3 J2_4 b2_5 t2_6) = 0)) false (nF c35) ?_
           exact R.go 2 (k18 (.bool false) (by first | (first | rfl | (exfalso; omega) | exact congrArg AV.bool (decide_eq_true (by assumption)) | exact congrArg AV.bool (by rw [decide_eq_false hnt]; rfl) | exact absurd (hbb.symm.trans (by assumption : _ = false)) (by decide) | exact absurd (hrr.symm.trans (by assumption : _ = false)) (by decide)) | (exfalso; omega)))
         ·refine k6 (!decide ((opC A2_2 O2_3 J2_4 b2_5 t2_6) = 0)) false (nT c35) ?_
          refine k6 (!decide ((opC A2_2 O2_3 J2_4 b2_5 t2_6) = 0)) false (nT c35) ?_
          refine k6 (!decide ((opC A2_2 O2_3 J2_4 b2_5 t2_6) = 0)) false (nT c35) ?_
          refine k6 (!decide ((opC A2_2 O2_3 J2_4 b2_5 t2_6) = 0)) false (nT c35) ?_
          refine k6 (!decide ((opC A2_2 O2_3 J2_4 b2_5 t2_6) = 0)) false (nT c35) ?_
          refine k6 (!decide ((opC A2_2 O2_3 J2_4 b2_5 t2_6) = 0)) false (nT c35) ?_
          refine k6 (!decide ((opC A2_2 O2_3 J2_4 b2_5 t2_6) = 0)) false (nT c35) ?_
          refine k6 (!decide ((opC A2_2 O2_3 J2_4 b2_5 t2_6) = 0)) false (nT c35) ?_
          refine k6 (!decide ((opC A2_2 O2_3 J2_4 b2_5 t2_6) = 0)) false (nT c35) ?_
          refine k6 (!decide ((opC A2_2 O2_3 J2_4 b2_5 t2_6) = 0)) false (nT c35) ?_
          refine k6 (!decide ((opC A2_2 O2_3 J2_4 b2_5 t2_6) = 0)) false (nT c35) ?_
          refine R.go 4 (k6 (!decide ((opC A2_2 O2_3 J2_4 b2_5 t2_6) = 0)) false (nT c35) ?_)
          refine k7 (!decide ((opC A2_2 O2_3 J2_4 b2_5 t2_6) = 0)) true (nT c35) ?_
          exact R.go 2 (k18 (.bool true) (by rfl))
        ·skip
         refine R.go 3 ?_
         by_cases c37 : (opC A2_2 O2_3 J2_4 b2_5 t2_6) = 0
         ·refine k5 (!decide ((opC A2_2 O2_3 J2_4 b2_5 t2_6) = 0)) false (nF c37) ?_
          refine R.go 1 (k5 (!decide ((opC A2_2 O2_3 J2_4 b2_5 t2_6) = 0)) false (nF c37) ?_)
          refine R.go 1 (k5 (!decide ((opC A2_2 O2_3 J2_4 b2_5 t2_6) = 0)) false (nF c37) ?_)
          refine R.go 1 (k5 (!decide ((opC A2_2 O2_3 J2_4 b2_5 t2_6) = 0)) false (nF c37) ?_)
          refine k8 eLI O2_3 [] ((opV A2_2 O2_3 J2_4 b2_5 t2_6).toNat) (opV A2_2 O2_3 J2_4 b2_5 t2_6) (by omega) eLI_len ?_
          refine k5 (!decide ((opC A2_2 O2_3 J2_4 b2_5 t2_6) = 0)) false (nF c37) ?_
          refine R.go 1 (k5 (!decide ((opC A2_2 O2_3 J2_4 b2_5 t2_6) = 0)) false (nF c37) ?_)
          refine R.go 1 (k5 (!decide ((opC A2_2 O2_3 J2_4 b2_5 t2_6) = 0)) false (nF c37) ?_)
          refine k8 eI (O2_3.getD ((opV A2_2 O2_3 J2_4 b2_5 t2_6).toNat) []) 0 ((opV A2_2 O2_3 J2_4 b2_5 t2_6).toNat) (opV A2_2 O2_3 J2_4 b2_5 t2_6) (by omega) eI_len ?_ (hj := by first | omega | (simp only [List.length_set]; omega) | (simp <;> omega))
          refine k5 (!decide ((opC A2_2 O2_3 J2_4 b2_5 t2_6) = 0)) false (nF c37) ?_
          refine R.go 1 (k5 (!decide ((opC A2_2 O2_3 J2_4 b2_5 t2_6) = 0)) false (nF c37) ?_)
          refine R.go 1 (k5 (!decide ((opC A2_2 O2_3 J2_4 b2_5 t2_6) = 0)) false (nF c37) ?_)
          refine R.go 1 (k5 (!decide ((opC A2_2 O2_3 J2_4 b2_5 t2_6) = 0)) false (nF c37) ?_)
          refine R.go 1 ?_
          by_cases c38 : ((O2_3.getD ((opV A2_2 O2_3 J2_4 b2_5 t2_6).toNat) []).getD ((opV A2_2 O2_3 J2_4 b2_5 t2_6).toNat) 0) = (opV A2_2 O2_3 J2_4 b2_5 t2_6)
          ·refine k5 (decide (((O2_3.getD ((opV A2_2 O2_3 J2_4 b2_5 t2_6).toNat) []).getD ((opV A2_2 O2_3 J2_4 b2_5 t2_6).toNat) 0) = (opV A2_2 O2_3 J2_4 b2_5 t2_6))) true (dT c38) ?_
           refine R.go 1 (k5 (decide (((O2_3.getD ((opV A2_2 O2_3 J2_4 b2_5 t2_6).toNat) []).getD ((opV A2_2 O2_3 J2_4 b2_5 t2_6).toNat) 0) = (opV A2_2 O2_3 J2_4 b2_5 t2_6))) true (dT c38) ?_)
           refine R.go 1 (k5 (decide (((O2_3.getD ((opV A2_2 O2_3 J2_4 b2_5 t2_6).toNat) []).getD ((opV A2_2 O2_3 J2_4 b2_5 t2_6).toNat) 0) = (opV A2_2 O2_3 J2_4 b2_5 t2_6))) true (dT c38) ?_)
           refine R.go 1 (k5 (decide (((O2_3.getD ((opV A2_2 O2_3 J2_4 b2_5 t2_6).toNat) []).getD ((opV A2_2 O2_3 J2_4 b2_5 t2_6).toNat) 0) = (opV A2_2 O2_3 J2_4 b2_5 t2_6))) true (dT c38) ?_)
           refine R.go 1 (k5 (!decide ((opC A2_2 O2_3 J2_4 b2_5 t2_6) = 0)) false (nF c37) ?_)
           refine k7 (decide (((O2_3.getD ((opV A2_2 O2_3 J2_4 b2_5 t2_6).toNat) []).getD ((opV A2_2 O2_3 J2_4 b2_5 t2_6).toNat) 0) = (opV A2_2 O2_3 J2_4 b2_5 t2_6))) true (dT c38) ?_
           refine k7 (!decide ((opC A2_2 O2_3 J2_4 b2_5 t2_6) = 0)) false (nF c37) ?_
           exact R.go 2 (k18 (.bool (!decide ((opV A2_2 O2_3 J2_4 b2_5 t2_6) = t2_6))) (by first | (first | rfl | (exfalso; omega) | exact congrArg AV.bool (decide_eq_true (by assumption)) | exact congrArg AV.bool (by rw [decide_eq_false hnt]; rfl) | exact absurd (hbb.symm.trans (by assumption : _ = false)) (by decide) | exact absurd (hrr.symm.trans (by assumption : _ = false)) (by decide)) | (exfalso; omega)))
          ·refine k6 (decide (((O2_3.getD ((opV A2_2 O2_3 J2_4 b2_5 t2_6).toNat) []).getD ((opV A2_2 O2_3 J2_4 b2_5 t2_6).toNat) 0) = (opV A2_2 O2_3 J2_4 b2_5 t2_6))) true (dF c38) ?_
           refine k6 (decide (((O2_3.getD ((opV A2_2 O2_3 J2_4 b2_5 t2_6).toNat) []).getD ((opV A2_2 O2_3 J2_4 b2_5 t2_6).toNat) 0) = (opV A2_2 O2_3 J2_4 b2_5 t2_6))) true (dF c38) ?_
           refine k6 (decide (((O2_3.getD ((opV A2_2 O2_3 J2_4 b2_5 t2_6).toNat) []).getD ((opV A2_2 O2_3 J2_4 b2_5 t2_6).toNat) 0) = (opV A2_2 O2_3 J2_4 b2_5 t2_6))) true (dF c38) ?_
           refine k6 (decide (((O2_3.getD ((opV A2_2 O2_3 J2_4 b2_5 t2_6).toNat) []).getD ((opV A2_2 O2_3 J2_4 b2_5 t2_6).toNat) 0) = (opV A2_2 O2_3 J2_4 b2_5 t2_6))) true (dF c38) ?_
           refine k5 (!decide ((opC A2_2 O2_3 J2_4 b2_5 t2_6) = 0)) false (nF c37) ?_
           refine k7 (decide (((O2_3.getD ((opV A2_2 O2_3 J2_4 b2_5 t2_6).toNat) []).getD ((opV A2_2 O2_3 J2_4 b2_5 t2_6).toNat) 0) = (opV A2_2 O2_3 J2_4 b2_5 t2_6))) false (dF c38) ?_
           refine k7 (!decide ((opC A2_2 O2_3 J2_4 b2_5 t2_6) = 0)) false (nF c37) ?_
           exact R.go 2 (k18 (.bool false) (by first | (first | rfl | (exfalso; omega) | exact congrArg AV.bool (decide_eq_true (by assumption)) | exact congrArg AV.bool (by rw [decide_eq_false hnt]; rfl) | exact absurd (hbb.symm.trans (by assumption : _ = false)) (by decide) | exact absurd (hrr.symm.trans (by assumption : _ = false)) (by decide)) | (exfalso; omega)))
         ·refine k6 (!decide ((opC A2_2 O2_3 J2_4 b2_5 t2_6) = 0)) false (nT c37) ?_
          refine k6 (!decide ((opC A2_2 O2_3 J2_4 b2_5 t2_6) = 0)) false (nT c37) ?_
          refine k6 (!decide ((opC A2_2 O2_3 J2_4 b2_5 t2_6) = 0)) false (nT c37) ?_
          refine k6 (!decide ((opC A2_2 O2_3 J2_4 b2_5 t2_6) = 0)) false (nT c37) ?_
          refine k6 (!decide ((opC A2_2 O2_3 J2_4 b2_5 t2_6) = 0)) false (nT c37) ?_
          refine k6 (!decide ((opC A2_2 O2_3 J2_4 b2_5 t2_6) = 0)) false (nT c37) ?_
          refine k6 (!decide ((opC A2_2 O2_3 J2_4 b2_5 t2_6) = 0)) false (nT c37) ?_
          refine k6 (!decide ((opC A2_2 O2_3 J2_4 b2_5 t2_6) = 0)) false (nT c37) ?_
          refine k6 (!decide ((opC A2_2 O2_3 J2_4 b2_5 t2_6) = 0)) false (nT c37) ?_
          refine k6 (!decide ((opC A2_2 O2_3 J2_4 b2_5 t2_6) = 0)) false (nT c37) ?_
          refine k6 (!decide ((opC A2_2 O2_3 J2_4 b2_5 t2_6) = 0)) false (nT c37) ?_
          refine R.go 4 (k6 (!decide ((opC A2_2 O2_3 J2_4 b2_5 t2_6) = 0)) false (nT c37) ?_)
          refine k7 (!decide ((opC A2_2 O2_3 J2_4 b2_5 t2_6) = 0)) true (nT c37) ?_
          exact R.go 2 (k18 (.bool true) (by rfl))
     ·refine k6 (!(lb == (decide ((opC A2_2 O2_3 J2_4 b2_5 t2_6) = 0)))) false (bnT c25) ?_
      refine k6 (!(lb == (decide ((opC A2_2 O2_3 J2_4 b2_5 t2_6) = 0)))) false (bnT c25) ?_
      refine k6 (!(lb == (decide ((opC A2_2 O2_3 J2_4 b2_5 t2_6) = 0)))) false (bnT c25) ?_
      refine R.go 2 (k6 (!(lb == (decide ((opC A2_2 O2_3 J2_4 b2_5 t2_6) = 0)))) false (bnT c25) ?_)
      refine k7 (!(lb == (decide ((opC A2_2 O2_3 J2_4 b2_5 t2_6) = 0)))) true (bnT c25) ?_
      exact R.go 6 (k18 (.bool false) (by first | (first | rfl | (exfalso; omega) | exact congrArg AV.bool (decide_eq_true (by assumption)) | exact congrArg AV.bool (by rw [decide_eq_false hnt]; rfl) | exact absurd (hbb.symm.trans (by assumption : _ = false)) (by decide) | exact absurd (hrr.symm.trans (by assumption : _ = false)) (by decide)) | (exfalso; omega)))

end Go.Proofs.YtjllngcefoohpaaGreat
