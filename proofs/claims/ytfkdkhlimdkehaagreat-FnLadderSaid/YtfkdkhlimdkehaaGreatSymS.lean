/- Frames by their slots; words for the sums of bits; rows of rows. -/
import Derived.Test.YtfkdkhlimdkehaaGreatSymR
namespace Go.Abs
open Go.RowKit

/-- The slot i, by a list of slots. -/
def slotA (i : Nat) : List (Nat × AV) → AV
  | [] => .top
  | (j, v) :: l => if i = j then v else slotA i l

/-- A frame of n slots from i on. -/
def frmA : Nat → Nat → List (Nat × AV) → List AV
  | 0, _, _ => []
  | n + 1, i, l => slotA i l :: frmA n (i + 1) l

def frm (n : Nat) (l : List (Nat × AV)) : List AV := frmA n 0 l

/-- Rows of data as values, results, objects. -/
def lstA {α : Type} (E : α → List AV) (s : Nat) (xs : List α) : AV := .lst s xs.length (rows E xs)
def ownA {α : Type} (E : α → List AV) (e s : Nat) (xs : List α) : AV := .own e s xs.length (rows E xs)
def rowA {α : Type} (E : α → List AV) (e s : Nat) (xs : List α) : AObj := .list e s xs.length (rows E xs)

def band (a b : Int) : Int := bits .and .i64 a b
def bor (a b : Int) : Int := bits .or .i64 a b
def bxor (a b : Int) : Int := bits .xor .i64 a b
def bnot (a b : Int) : Int := bits .andNot .i64 a b

theorem eI_one (x : Int) : (eI x).all AV.one = true := rfl
theorem eN_one (x : Int × Int) : (eN x).all AV.one = true := rfl
theorem eLI_one (x : List Int) : (eLI x).all AV.one = true := rfl
theorem eLN_one (x : List (Int × Int)) : (eLN x).all AV.one = true := rfl

theorem eI_closed (x : Int) : closedL (eI x) = true := rfl
theorem eN_closed (x : Int × Int) : closedL (eN x) = true := rfl

/-- A result of one's own that leads nowhere else. -/
theorem own_closed {α : Type} {E : α → List AV} (h : ∀ x, closedL (E x) = true) (e s n : Nat) (xs : List α) : (AV.own e s n (rows E xs)).closed = true := by
  simp [AV.closed, closedL_rows h]

theorem ownA_closed {α : Type} {E : α → List AV} (h : ∀ x, closedL (E x) = true) (e s : Nat) (xs : List α) : (ownA E e s xs).closed = true := own_closed h e s _ xs

theorem dT {p : Prop} [Decidable p] (h : p) : decide p = true := decide_eq_true h
theorem dF {p : Prop} [Decidable p] (h : ¬ p) : decide p = false := decide_eq_false h
theorem nT {p : Prop} [Decidable p] (h : ¬ p) : (!decide p) = true := by simp [h]
theorem nF {p : Prop} [Decidable p] (h : p) : (!decide p) = false := by simp [h]
theorem bnT {b : Bool} (h : b = false) : (!b) = true := by simp [h]
theorem bnF {b : Bool} (h : b = true) : (!b) = false := by simp [h]

theorem R.condM {rd : Option Nat} {P : Program} {m : M} {Q : Exit → St → Prop} (b : Bool) (h : cdAt m = some (!b)) (ht : b = false → Runs rd P (branch true m) Q) (hf : b = true → Runs rd P (branch false m) Q) : Runs rd P m Q :=
  R.condB _ h (fun e => ht (by simpa using e)) (fun e => hf (by simpa using e))

end Go.Abs
