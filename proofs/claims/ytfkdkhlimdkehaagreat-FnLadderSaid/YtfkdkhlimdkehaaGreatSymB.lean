/- The operations that write to no old memory: what each yields on abstract values, and that the model's operation yields what stands for it. -/
import Derived.Test.YtfkdkhlimdkehaaGreatSymA
namespace Go.Abs
open Go.RowKit

/-- What a constant reads as. -/
def ofConst : Value → AV
  | .int k n => .int k n
  | .bool b => .bool b
  | .string s => .str s
  | .slice none 0 0 => .nil
  | _ => .top

def ev (fr : List AV) : Operand → AV
  | .tmp t => fr.getD t .top
  | .const v => ofConst v
  | .global _ => .top
  | .func f => .fn f []

/-- Is the type a struct or an array? -/
def aggB (P : Program) (t : TypeId) : Option Bool := (P.underlying t).map fun | .struct _ | .array _ _ => true | _ => false
def sizeB (P : Program) (t : TypeId) : Option Nat := (P.info? t).map (·.size)
/-- A slice type's element type, with its cells. -/
def elemB (P : Program) (t : TypeId) : Option (Nat × Nat) :=
  match P.underlying t with
  | some (.slice e) => (P.info? e).map fun i => (e, i.size)
  | _ => none
/-- A struct's field: where it begins, its type's size. -/
def fieldB (P : Program) (t : TypeId) (f : Nat) : Option (Nat × Nat) :=
  match P.underlying t with
  | some (.struct fs) => (fs[f]?).bind fun fd => (P.info? fd.type).map fun i => (fd.offset, i.size)
  | _ => none
/-- A struct's field: its type, too, and whether that is a struct or an array. -/
def fieldC (P : Program) (t : TypeId) (f : Nat) : Option (Nat × Nat × Bool) :=
  match P.underlying t with
  | some (.struct fs) => (fs[f]?).bind fun fd => (P.info? fd.type).bind fun i => (aggB P fd.type).map fun b => (fd.offset, i.size, b)
  | _ => none
/-- The cells of a type's zero value. -/
def zeroB (P : Program) (t : TypeId) : Option (List AV) := (P.info? t).bind fun i => i.zero.map fun z => z.cells.toList.map ofConst
def intB (P : Program) (t : TypeId) : Option IntKind :=
  match P.underlying t with
  | some (.int k) => some k
  | _ => none

def AV.one : AV → Bool
  | .agg _ | .tup _ | .top | .own .. => false
  | _ => true

def AV.full : AV → Bool
  | .tup _ | .top | .own .. => false
  | _ => true

def AV.cells : AV → List AV
  | .agg cs => cs
  | c => [c]

def AObj.cells : AObj → List AV
  | .box _ cs => cs
  | .list _ _ _ cs => cs
  | .dead => []
  | .frame _ _ => []
  | .inert _ => []

def binA (op : BinOp) (k : IntKind) (m n : Int) : Option AV :=
  match op with
  | .add => some (.int k (k.wrap (m + n)))
  | .sub => some (.int k (k.wrap (m - n)))
  | .mul => some (.int k (k.wrap (m * n)))
  | .and => some (.int k (bits .and k m n))
  | .or => some (.int k (bits .or k m n))
  | .xor => some (.int k (bits .xor k m n))
  | .andNot => some (.int k (bits .andNot k m n))
  | .eql => some (.bool (m == n))
  | .neq => some (.bool (m != n))
  | .lss => some (.bool (m < n))
  | .leq => some (.bool (m ≤ n))
  | .gtr => some (.bool (m > n))
  | .geq => some (.bool (m ≥ n))
  | _ => none

/-- Where a struct's fields begin, and their sizes. -/
def placesB (P : Program) (t : TypeId) : Option (List (Nat × Nat)) :=
  match P.underlying t with
  | some (.struct fs) => fs.toList.mapM fun f => (P.info? f.type).map fun i => (f.offset, i.size)
  | _ => none

def setMany (cells : List AV) (off : Nat) (vs : List AV) : List AV := cells.take off ++ vs ++ cells.drop (off + vs.length)

/-- The parts laid into the cells, in order. -/
def fillA (place : Nat → Option (Nat × Nat)) (cells : List AV) : List (Nat × AV) → Option (List AV)
  | [] => some cells
  | (i, v) :: rest =>
    match place i with
    | none => none
    | some (off, size) => if v.full && (v.cells.length == size) && decide (off + v.cells.length ≤ cells.length) then fillA place (setMany cells off v.cells) rest else none

/-- n elements of zero cells. -/
def zerosA (zs : List AV) (s n : Nat) : List AV := (List.range (n * s)).map fun k => zs.getD (k % s) .top

/-- The element type of a slice type: its number, cells, zero cells, bytes. -/
def rowB (P : Program) (t : TypeId) : Option (Nat × Nat × List AV × Nat) :=
  match P.underlying t with
  | some (.slice e) => (P.info? e).bind fun i => i.zero.bind fun z => if z.cells.size = i.size ∧ 0 < i.size then some (e, i.size, z.cells.toList.map ofConst, i.bytes) else none
  | _ => none

inductive EffR (P : Program) (e : Operand → AV) (hp : List AObj) : Op → AV → List AObj → Prop
  | move {x} : EffR P e hp (.move x) (e x) []
  | assign {x} : EffR P e hp (.assign x) (e x) []
  | pick {c a b} (t : Bool) (h : e c = .bool t) : EffR P e hp (.pick c a b) (if t then e a else e b) []
  | bin {op t x y ty v} (k : IntKind) (m n : Int) (hx : e x = .int k m) (hy : e y = .int k n) (hv : binA op k m n = some v) : EffR P e hp (.binOp op t x y ty) v []
  | quo {t x y ty} (k : IntKind) (m n : Int) (hx : e x = .int k m) (hy : e y = .int k n) (hn : n ≠ 0) : EffR P e hp (.binOp .quo t x y ty) (.int k (k.wrap (m.tdiv n))) []
  | rem {t x y ty} (k : IntKind) (m n : Int) (hx : e x = .int k m) (hy : e y = .int k n) (hn : n ≠ 0) : EffR P e hp (.binOp .rem t x y ty) (.int k (m.tmod n)) []
  | shl {t x y ty} (k k' : IntKind) (m n : Int) (hx : e x = .int k m) (hy : e y = .int k' n) (h0 : 0 ≤ n) : EffR P e hp (.binOp .shl t x y ty) (.int k (k.wrap (m * 2 ^ (min n.toNat k.bits)))) []
  | shr {t x y ty} (k k' : IntKind) (m n : Int) (hx : e x = .int k m) (hy : e y = .int k' n) (h0 : 0 ≤ n) : EffR P e hp (.binOp .shr t x y ty) (.int k (m.fdiv (2 ^ (min n.toNat k.bits)))) []
  | eqlB {t x y ty} (a b : Bool) (hx : e x = .bool a) (hy : e y = .bool b) (ht : P.underlying t = some .bool) : EffR P e hp (.binOp .eql t x y ty) (.bool (a == b)) []
  | neqB {t x y ty} (a b : Bool) (hx : e x = .bool a) (hy : e y = .bool b) (ht : P.underlying t = some .bool) : EffR P e hp (.binOp .neq t x y ty) (.bool (!(a == b))) []
  | not {t x} (a : Bool) (hx : e x = .bool a) : EffR P e hp (.unOp .not t x) (.bool (!a)) []
  | neg {t x} (k : IntKind) (n : Int) (hx : e x = .int k n) : EffR P e hp (.unOp .neg t x) (.int k (k.wrap (0 - n))) []
  | conv {s d x} (k k' : IntKind) (n : Int) (hx : e x = .int k n) (hs : (P.underlying s).isSome = true) (hd : intB P d = some k') : EffR P e hp (.convert s d x) (.int k' (k'.wrap n)) []
  | extract {x i v} (cs : List AV) (hx : e x = .tup cs) (hi : cs[i]? = some v) : EffR P e hp (.extract x i) v []
  | nilP {x} (i o : Nat) (hx : e x = .ptr i o) : EffR P e hp (.nilCheck x) (.ptr i o) []
  | nilR {x} (cs : List AV) (hx : e x = .rptr cs) : EffR P e hp (.nilCheck x) (.rptr cs) []
  | fieldAddr {s x f} (i o off k : Nat) (hx : e x = .ptr i o) (hf : fieldB P s f = some (off, k)) (hk : k ≠ 0) : EffR P e hp (.fieldAddr s x f) (.ptr i (o + off)) []
  | fieldAddrR {s x f} (cs : List AV) (off k : Nat) (hx : e x = .rptr cs) (hf : fieldB P s f = some (off, k)) (hk : k ≠ 0) : EffR P e hp (.fieldAddr s x f) (.rptr (cs.drop off)) []
  | field1 {s x f v} (cs : List AV) (off k : Nat) (hx : e x = .agg cs) (hf : fieldC P s f = some (off, k, false)) (hv : cs[off]? = some v) : EffR P e hp (.field s x f) v []
  | fieldN {s x f} (cs : List AV) (off k : Nat) (hx : e x = .agg cs) (hf : fieldC P s f = some (off, k, true)) : EffR P e hp (.field s x f) (.agg ((cs.drop off).take k)) []
  | indexAddr {t x y} (s n : Nat) (cs : List AV) (k : IntKind) (j : Int) (el : Nat) (hx : e x = .lst s n cs) (hy : e y = .int k j) (ht : elemB P t = some (el, s)) (hs : s ≠ 0) (h0 : 0 ≤ j) (h1 : j < n) : EffR P e hp (.indexAddr t x y) (.rptr (cs.drop (j.toNat * s))) []
  | indexAddrE {t x y} (s n : Nat) (cs : List AV) (k : IntKind) (j : Int) (el : Nat) (ds rest : List AV) (hx : e x = .lst s n cs) (hy : e y = .int k j) (ht : elemB P t = some (el, s)) (hs : s ≠ 0) (h0 : 0 ≤ j) (h1 : j < n) (hd : cs.drop (j.toNat * s) = ds ++ rest) : EffR P e hp (.indexAddr t x y) (.rptr ds) []
  | indexAddrO {t x y} (i el s n : Nat) (cs : List AV) (k : IntKind) (j : Int) (hx : e x = .ref i) (hi : hp[i]? = some (.list el s n cs)) (hy : e y = .int k j) (ht : elemB P t = some (el, s)) (hs : s ≠ 0) (h0 : 0 ≤ j) (h1 : j < n) : EffR P e hp (.indexAddr t x y) (.ptr i (j.toNat * s)) []
  | load {t x v} (i o : Nat) (ob : AObj) (hx : e x = .ptr i o) (hi : hp[i]? = some ob) (ht : aggB P t = some false) (hv : ob.cells[o]? = some v) : EffR P e hp (.load t x) v []
  | loadN {t x} (i o k : Nat) (ob : AObj) (hx : e x = .ptr i o) (hi : hp[i]? = some ob) (ht : aggB P t = some true) (hk : sizeB P t = some k) (hl : o + k ≤ ob.cells.length) : EffR P e hp (.load t x) (.agg ((ob.cells.drop o).take k)) []
  | loadR {t x v} (cs : List AV) (hx : e x = .rptr cs) (ht : aggB P t = some false) (hv : cs[0]? = some v) : EffR P e hp (.load t x) v []
  | loadRN {t x} (cs : List AV) (k : Nat) (hx : e x = .rptr cs) (ht : aggB P t = some true) (hk : sizeB P t = some k) (hl : k ≤ cs.length) : EffR P e hp (.load t x) (.agg (cs.take k)) []
  | lenR {x t} (s n : Nat) (cs : List AV) (hx : e x = .lst s n cs) (ht : (elemB P t).isSome = true) : EffR P e hp (.call { callee := .builtin .len, args := #[x], argTypes := #[t] }) (.int .i64 n) []
  | lenO {x t} (i el s n : Nat) (cs : List AV) (hx : e x = .ref i) (hi : hp[i]? = some (.list el s n cs)) (ht : (elemB P t).isSome = true) : EffR P e hp (.call { callee := .builtin .len, args := #[x], argTypes := #[t] }) (.int .i64 n) []
  | lenN {x t} (hx : e x = .nil) (ht : (elemB P t).isSome = true) : EffR P e hp (.call { callee := .builtin .len, args := #[x], argTypes := #[t] }) (.int .i64 0) []
  | capN {x t} (hx : e x = .nil) (ht : (elemB P t).isSome = true) : EffR P e hp (.call { callee := .builtin .cap, args := #[x], argTypes := #[t] }) (.int .i64 0) []
  | sliceN {t x hi} (k : IntKind) (hx : e x = .nil) (hhi : e hi = .int k 0) (ht : (elemB P t).isSome = true) : EffR P e hp (.slice t x none (some hi) none) .nil []
  | max2 {x y tys} (k : IntKind) (m n : Int) (hx : e x = .int k m) (hy : e y = .int k n) : EffR P e hp (.call { callee := .builtin .max, args := #[x, y], argTypes := tys }) (.int k (if n > m then n else m)) []
  | min2 {x y tys} (k : IntKind) (m n : Int) (hx : e x = .int k m) (hy : e y = .int k n) : EffR P e hp (.call { callee := .builtin .min, args := #[x, y], argTypes := tys }) (.int k (if n < m then n else m)) []
  | makeSliceC {t x y} (el s by_ n c : Nat) (k k' : IntKind) (zs : List AV) (ht : rowB P t = some (el, s, zs, by_)) (hx : e x = .int k n) (hy : e y = .int k' c) (hnc : n ≤ c) (hb : by_ * c ≤ 140737488355328) (hn : c ≤ maxLen) : EffR P e hp (.makeSlice t x y) (.ref hp.length) [.list el s n (zerosA zs s n)]
  | alloc {t} (cs : List AV) (hz : zeroB P t = some cs) : EffR P e hp (.alloc t) (.ptr hp.length 0) [.box t cs]
  | box {t x} (hx : (e x).full = true) : EffR P e hp (.box t x) (.ptr hp.length 0) [.box t (e x).cells]
  | makeFunc {f caps} : EffR P e hp (.makeFunc (.func f) #[] caps) (.fn f (caps.toList.map e)) []
  | build {t parts} (pl : List (Nat × Nat)) (zs cs : List AV) (hp' : placesB P t = some pl) (hz : zeroB P t = some zs) (hf : fillA (pl[·]?) zs (parts.toList.map fun x => (x.1, e x.2)) = some cs) : EffR P e hp (.build t parts) (.agg cs) []
  | buildSlice {t n parts} (el s by_ : Nat) (zs cs : List AV) (ht : rowB P t = some (el, s, zs, by_)) (hn : n * s ≤ 16777216) (hf : fillA (fun i => some (i * s, s)) (zerosA zs s n) (parts.toList.map fun x => (x.1, e x.2)) = some cs) (hlf : leafyL cs = true) : EffR P e hp (.buildSlice t n parts) (.ref hp.length) [.list el s n cs]
  | makeSlice {t x y} (el s by_ n : Nat) (k k' : IntKind) (zs : List AV) (ht : rowB P t = some (el, s, zs, by_)) (hx : e x = .int k n) (hy : e y = .int k' n) (hb : by_ * n ≤ 140737488355328) (hn : n ≤ maxLen) : EffR P e hp (.makeSlice t x y) (.ref hp.length) [.list el s n (zerosA zs s n)]
  | sliceLH {t x lo hi} (s n el : Nat) (cs : List AV) (k k' : IntKind) (l h : Nat) (hx : e x = .lst s n cs) (hlo : e lo = .int k l) (hhi : e hi = .int k' h) (ht : elemB P t = some (el, s)) (h1 : l ≤ h) (h2 : h ≤ n) : EffR P e hp (.slice t x (some lo) (some hi) none) (.lst s (h - l) ((cs.drop (l * s)).take ((h - l) * s))) []
  | sliceL {t x lo} (s n el : Nat) (cs : List AV) (k : IntKind) (l : Nat) (hx : e x = .lst s n cs) (hlo : e lo = .int k l) (ht : elemB P t = some (el, s)) (h1 : l ≤ n) : EffR P e hp (.slice t x (some lo) none none) (.lst s (n - l) (cs.drop (l * s))) []
  | sliceH {t x hi} (s n el : Nat) (cs : List AV) (k : IntKind) (h : Nat) (hx : e x = .lst s n cs) (hhi : e hi = .int k h) (ht : elemB P t = some (el, s)) (h1 : h ≤ n) : EffR P e hp (.slice t x none (some hi) none) (.lst s h (cs.take (h * s))) []
  | sliceHM {t x hi mx} (s n el : Nat) (cs : List AV) (k k' : IntKind) (hx : e x = .lst s n cs) (hhi : e hi = .int k n) (hmx : e mx = .int k' n) (ht : elemB P t = some (el, s)) : EffR P e hp (.slice t x none (some hi) (some mx)) (.clp s n cs) []
  | sliceLHM {t x lo hi mx} (s n el : Nat) (cs : List AV) (k k' k'' : IntKind) (l h m : Nat) (hx : e x = .lst s n cs) (hlo : e lo = .int k l) (hhi : e hi = .int k' h) (hmx : e mx = .int k'' m) (ht : elemB P t = some (el, s)) (h1 : l ≤ h) (h2 : h ≤ m) (h3 : m ≤ n) : EffR P e hp (.slice t x (some lo) (some hi) (some mx)) (.lst s (h - l) ((cs.drop (l * s)).take ((h - l) * s))) []

end Go.Abs
