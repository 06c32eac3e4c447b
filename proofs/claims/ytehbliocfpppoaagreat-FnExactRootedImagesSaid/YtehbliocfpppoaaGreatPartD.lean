/- Texts of the proof: SymO, SymP, SymQ, SymR, SymS, SymT, SymU, SymV, S01. -/
import Derived.Deep.SlicePairs
import Derived.Test.YtehbliocfpppoaaGreatProg
import Derived.Test.YtehbliocfpppoaaGreatPartC

/-! Rows of data as cells; the machine's rules. -/
namespace Go.Abs
open Go.RowKit

def rows {α : Type} (E : α → List AV) : List α → List AV
 | [] => []
 | x :: xs => E x ++ rows E xs
def eI (n : Int) : List AV := [AI n]
def LI (xs : List Int) : AV := .lst 1 xs.length (rows eI xs)
def eLI (xs : List Int) : List AV := [LI xs]
def LLI (xs : List (List Int)) : AV := .lst 1 xs.length (rows eLI xs)
section
variable {α : Type} {E : α → List AV}
theorem rows_append (xs ys : List α) : rows E (xs ++ ys) = rows E xs ++ rows E ys := by
 induction xs with
 | nil => rfl
 | cons x xs ih => simp [rows, ih]
theorem rows_length {s : Nat} (hE : ∀ x, (E x).length = s) (xs : List α) : (rows E xs).length = xs.length * s := by
 induction xs with
 | nil => simp [rows]
 | cons x xs ih => simp [rows, ih, hE, Nat.add_mul, Nat.add_comm]
theorem rows_drop {s : Nat} (hE : ∀ x, (E x).length = s) (xs : List α) (j : Nat) : (rows E xs).drop (j * s) = rows E (xs.drop j) := by
 induction j generalizing xs with
 | zero => simp
 | succ j ih =>
  cases xs with
  | nil => simp [rows]
  | cons x xs =>
   have e : (j + 1) * s = (E x).length + j * s := by rw [hE, Nat.add_mul]; omega
   simp only [rows, e, List.drop_succ_cons]
   rw [List.drop_append, Nat.add_sub_cancel_left, ih, List.drop_of_length_le (by omega), List.nil_append]
theorem rows_take {s : Nat} (hE : ∀ x, (E x).length = s) (xs : List α) (j : Nat) : (rows E xs).take (j * s) = rows E (xs.take j) := by
 induction j generalizing xs with
 | zero => simp [rows]
 | succ j ih =>
  cases xs with
  | nil => simp [rows]
  | cons x xs =>
   have e : (j + 1) * s = (E x).length + j * s := by rw [hE, Nat.add_mul]; omega
   simp only [rows, e, List.take_succ_cons]
   rw [List.take_length_add_append, ih]
theorem rows_at {s : Nat} (hE : ∀ x, (E x).length = s) (xs : List α) (j : Nat) (d : α) (hj : j < xs.length) : (rows E xs).drop (j * s) = E (xs.getD j d) ++ rows E (xs.drop (j + 1)) := by
 rw [rows_drop hE, List.drop_eq_getElem_cons hj, rows]
 simp [List.getD_eq_getElem?_getD, List.getElem?_eq_getElem hj]
theorem rows_all {p : AV → Bool} (h : ∀ x, (E x).all p = true) (xs : List α) : (rows E xs).all p = true := by
 induction xs with
 | nil => rfl
 | cons x xs ih => simp only [rows, List.all_append, h, ih, Bool.and_self]
theorem rows_getI (xs : List Int) (j : Nat) (hj : j < xs.length) : (rows eI xs)[j * 1]? = some (AI (xs.getD j 0)) := by
 have h := rows_at (E := eI) (s := 1) (fun _ => rfl) xs j 0 hj
 have e : (rows eI xs)[j * 1]? = ((rows eI xs).drop (j * 1))[0]? := by rw [List.getElem?_drop, Nat.add_zero]
 rw [e, h]
 rfl
theorem leafyL_append (a b : List AV) : leafyL (a ++ b) = (leafyL a && leafyL b) := by
 induction a with
 | nil => simp [leafyL]
 | cons x a ih => simp [leafyL, ih, Bool.and_assoc]
theorem leafyL_rows (h : ∀ x, leafyL (E x) = true) (xs : List α) : leafyL (rows E xs) = true := by
 induction xs with
 | nil => rfl
 | cons x xs ih => simp [rows, leafyL_append, h, ih]
theorem closedL_append (a b : List AV) : closedL (a ++ b) = (closedL a && closedL b) := by
 induction a with
 | nil => simp [closedL]
 | cons x a ih => simp [closedL, ih, Bool.and_assoc]
theorem closedL_rows (h : ∀ x, closedL (E x) = true) (xs : List α) : closedL (rows E xs) = true := by
 induction xs with
 | nil => rfl
 | cons x xs ih => simp [rows, closedL_append, h, ih]
theorem zerosA_rows (d : α) (n : Nat) : zerosA (E d) (E d).length n = rows E (List.replicate n d) := by
 have h : ∀ x, (fun _ : α => E d) x = E d := fun _ => rfl
 induction n with
 | zero => simp [zerosA, rows]
 | succ n ih =>
  rw [List.replicate_succ', rows_append, ← ih]
  apply List.ext_getElem?
  intro j
  simp only [zerosA, rows, List.append_nil, List.getElem?_append, List.length_map, List.length_range, List.getElem?_map]
  have e : (n + 1) * (E d).length = n * (E d).length + (E d).length := by rw [Nat.add_mul]; omega
  rcases Nat.lt_or_ge j (n * (E d).length) with hj | hj
  ·rw [if_pos hj, List.getElem?_range (by omega), List.getElem?_range hj]
  ·rw [if_neg (by omega)]
   rcases Nat.lt_or_ge j ((n + 1) * (E d).length) with hj2 | hj2
   ·rw [List.getElem?_range hj2]
    have h3 : j % (E d).length = j - n * (E d).length := by
     obtain ⟨i, rfl⟩ : ∃ i, j = i + (E d).length * n := ⟨j - n * (E d).length, by rw [Nat.mul_comm (E d).length n]; omega⟩
     rw [e, Nat.mul_comm n] at hj2
     rw [Nat.mul_comm n, Nat.add_mul_mod_self_left, Nat.add_sub_cancel, Nat.mod_eq_of_lt (by omega)]
    have h4 : j - n * (E d).length < (E d).length := by omega
    simp only [Option.map_some, h3, List.getD_eq_getElem?_getD, List.getElem?_eq_getElem h4, Option.getD_some]
   ·rw [List.getElem?_eq_none (by simpa using hj2), List.getElem?_eq_none (by omega)]
    rfl
end
theorem eI_len (x : Int) : (eI x).length = 1 := rfl
theorem eLI_len (x : List Int) : (eLI x).length = 1 := rfl
theorem wrap_id {n : Int} (h0 : -9223372036854775808 ≤ n) (h1 : n < 9223372036854775808) : IntKind.i64.wrap n = n := IntWalk.i64_in n ⟨h0, by omega⟩
theorem u64_id {n : Int} (h0 : 0 ≤ n) (h1 : n < 18446744073709551616) : IntKind.u64.wrap n = n := IntWalk.u64_in n ⟨h0, by omega⟩
def shl64 (m n : Int) : Int := IntKind.i64.wrap (m * 2 ^ (min n.toNat 64))
def shr64 (m n : Int) : Int := m.fdiv (2 ^ (min n.toNat 64))

def adv (P : Program) : Nat → M → M
 | 0, m => m
 | k + 1, m => adv P k (match stepM P m with | some m' => m' | none => m)
def headOf (m : M) : Option (Array Oper × Oper × Bool × Option Nat) :=
 match m.ks with
 | .ops all (o :: _) f :: _ => some (all, o, f, none)
 | .drw all (o :: _) (t :: _) f :: _ => some (all, o, f, some t)
 | _ => none
def opM (m : M) : Option Op :=
 match headOf m with
 | some (all, o, f, _) => match wantH all o f m.st.fr with
  | some true => some o.op
  | _ => none
 | none => none
def putM (m : M) (kl : Option Nat) (v : AV) (hp : List AObj) : M :=
 match m.ks with
 | .ops all (o :: l) _ :: ks => ⟨.ops all l false :: ks, ⟨putF (killF kl m.st.fr) o.dst v, hp⟩⟩
 | .drw all (o :: l) (_ :: ts) _ :: ks => ⟨.drw all l ts false :: ks, ⟨putF (killF kl m.st.fr) o.dst v, hp⟩⟩
 | _ => m
def quietOk (m : M) (news : List AObj) : Bool :=
 match headOf m with
 | some (_, _, _, some 0) => match news with
  | [] => true
  | _ => false
 | some (_, _, _, some 1) => true
 | some (_, _, _, some 2) => true
 | some (_, _, _, none) => true
 | _ => false
def quiet0 (m : M) : Bool :=
 match headOf m with
 | some (_, _, _, some (_ + 3)) => false
 | some _ => true
 | _ => false
def writeOk (m : M) : Bool :=
 match headOf m with
 | some (_, _, _, some 2) => true
 | some (_, _, _, none) => true
 | _ => false
section
variable {rd : Option Nat} {P : Program} {m : M} {Q : Exit → St → Prop}
theorem R.go (k : Nat) (h : Runs rd P (adv P k m) Q) : Runs rd P m Q := by
 induction k generalizing m with
 | zero => exact h
 | succ k ih =>
  simp only [adv] at h
  have h1 := ih h
  split at h1
  ·rename_i m' hs
   exact stepM_sound hs h1
  ·exact h1
theorem R.effM {op : Op} {v : AV} {news : List AObj} (hop : opM m = some op) (h : EffR P (ev m.st.fr) m.st.hp op v news ∨ CallR P (ev m.st.fr) m.st.hp op v news) (ht : quietOk m news = true)
  (h' : Runs rd P (putM m none v (m.st.hp ++ news)) Q) : Runs rd P m Q := by
 obtain ⟨ks, ⟨fr, hp⟩⟩ := m
 have hs : ∀ {all : Array Oper} {o : Oper}, WantedA all o fr → o.op = op → StepN P all o fr hp v news := by
  rintro all o hw rfl
  exact h.elim (.eff hw) (.call hw)
 unfold opM headOf at hop
 unfold quietOk headOf at ht
 unfold putM at h'
 simp only [runs_iff] at h' ⊢
 try simp only at hop ht h' ⊢
 split at hop
 ·rename_i all o f t heq
  split at hop
  ·rename_i hw
   simp only [Option.some.injEq] at hop
   split at heq
   ·cases heq
    intro hW
    refine OpsQ.cons (st' := ⟨putF fr o.dst v, hp ++ news⟩) ?_ (h' headW_false)
    exact (StepT.ext (hs (wantH_true hw hW) hop)).toR
   ·rename_i t' _ _ ks'
    cases heq
    intro hW
    obtain ⟨st2, h1, h2⟩ := h' headW_false
    refine ⟨st2, .cons (st1 := ⟨putF fr o.dst v, hp ++ news⟩) ?_ h1, h2⟩
    match t', ht with
    | 0, ht =>
     cases news with
     | nil => rw [List.append_nil]; exact .quiet (hs (wantH_true hw hW) hop)
     | cons n ns => simp at ht
    | 1, _ => exact .ext (hs (wantH_true hw hW) hop)
    | 2, _ => exact .write (StepT.ext (hs (wantH_true hw hW) hop)).toR
    | n + 3, ht => simp at ht
   ·cases heq
  ·cases hop
 ·cases hop
theorem R.eff0 {op : Op} {v : AV} (hop : opM m = some op) (h : EffR P (ev m.st.fr) m.st.hp op v [] ∨ CallR P (ev m.st.fr) m.st.hp op v []) (ht : quiet0 m = true) (h' : Runs rd P (putM m none v m.st.hp) Q) : Runs rd P m Q := by
 refine R.effM hop h ?_ (by rw [List.append_nil]; exact h')
 unfold quiet0 at ht
 unfold quietOk
 split at ht
 ·cases ht
 ·rename_i x h1 hx
  obtain ⟨all, o, f, t⟩ := x
  rw [hx]
  match t with
  | none => rfl
  | some 0 => rfl
  | some 1 => rfl
  | some 2 => rfl
  | some (n + 3) => exact absurd rfl (h1 all o f n)
 ·cases ht
theorem R.effW {op : Op} {v : AV} {kl : Option Nat} {hp' : List AObj} (hop : opM m = some op) (h : EffW P (ev m.st.fr) m.st.hp op v kl hp') (ht : writeOk m = true)
  (h' : Runs rd P (putM m kl v hp') Q) : Runs rd P m Q := by
 obtain ⟨ks, ⟨fr, hp⟩⟩ := m
 unfold opM headOf at hop
 unfold writeOk headOf at ht
 unfold putM at h'
 simp only [runs_iff] at h' ⊢
 try simp only at hop ht h' ⊢
 split at hop
 ·rename_i all o f t heq
  split at hop
  ·rename_i hw
   simp only [Option.some.injEq] at hop
   subst hop
   split at heq
   ·cases heq
    intro hW
    exact OpsQ.cons (st' := ⟨putF (killF kl fr) o.dst v, hp'⟩) (.write (wantH_true hw hW) h) (h' headW_false)
   ·rename_i t' _ _ ks'
    cases heq
    intro hW
    obtain ⟨st2, h1, h2⟩ := h' headW_false
    refine ⟨st2, .cons (st1 := ⟨putF (killF kl fr) o.dst v, hp'⟩) ?_ h1, h2⟩
    match t', ht with
    | 2, _ => exact .write (.write (wantH_true hw hW) h)
    | 0, ht => simp at ht
    | 1, ht => simp at ht
    | n + 3, ht => simp at ht
   ·cases heq
  ·cases hop
 ·cases hop

def arAt (m : M) : Option Int :=
 match opM m with
 | some (.binOp op _ x y _) => match ev m.st.fr x, ev m.st.fr y with
  | .int .i64 a, .int .i64 b => match op with
   | .add => some (a + b)
   | .sub => some (a - b)
   | .mul => some (a * b)
   | _ => none
  | _, _ => none
 | _ => none
theorem R.ar (c : Int) (h : arAt m = some c) (h0 : -9223372036854775808 ≤ c) (h1 : c < 9223372036854775808) (ht : quiet0 m = true) (h' : Runs rd P (putM m none (AI c) m.st.hp) Q) : Runs rd P m Q := by
 unfold arAt at h
 split at h
 ·rename_i op t x y ty hop
  split at h
  ·rename_i a b hx hy
   refine R.eff0 hop (.inl ?_) ht h'
   split at h <;> cases h
   ·exact .bin .i64 a b hx hy (by simp only [binA]; rw [wrap_id h0 h1]; rfl)
   ·exact .bin .i64 a b hx hy (by simp only [binA]; rw [wrap_id h0 h1]; rfl)
   ·exact .bin .i64 a b hx hy (by simp only [binA]; rw [wrap_id h0 h1]; rfl)
  ·cases h
 ·cases h
theorem k8 (c : Int) (h' : Runs rd P (putM m none (AI c) m.st.hp) Q) (h : arAt m = some c := by kernel_rfl) (h0 : -9223372036854775808 ≤ c := by omega) (h1 : c < 9223372036854775808 := by omega) (ht : quiet0 m = true := by kernel_rfl) : Runs rd P m Q := _root_.Go.Abs.R.ar c h h0 h1 ht h'
def quAt (m : M) : Option (Bool × Int × Int) :=
 match opM m with
 | some (.binOp op _ x y _) => match ev m.st.fr x, ev m.st.fr y with
  | .int .i64 a, .int .i64 b => match op with
   | .quo => some (true, a, b)
   | .rem => some (false, a, b)
   | _ => none
  | _, _ => none
 | _ => none
theorem R.quo (a b : Int) (h : quAt m = some (true, a, b)) (h0 : 0 ≤ a) (h1 : 0 < b) (h2 : a < 9223372036854775808) (ht : quiet0 m = true) (h' : Runs rd P (putM m none (AI (a / b)) m.st.hp) Q) : Runs rd P m Q := by
 unfold quAt at h
 split at h
 ·rename_i op t x y ty hop
  split at h
  ·rename_i a b hx hy
   refine R.eff0 hop (.inl ?_) ht h'
   split at h <;> cases h
   have h := EffR.quo (P := P) (hp := m.st.hp) (t := t) (ty := ty) .i64 a b hx hy (by omega)
   rwa [Int.tdiv_eq_ediv_of_nonneg h0, wrap_id (by have := Int.ediv_nonneg h0 (Int.le_of_lt h1); omega) (by have := Int.ediv_le_self b h0; omega)] at h
  ·cases h
 ·cases h
theorem R.rem (a b : Int) (h : quAt m = some (false, a, b)) (h0 : 0 ≤ a) (h1 : 0 < b) (ht : quiet0 m = true) (h' : Runs rd P (putM m none (AI (a % b)) m.st.hp) Q) : Runs rd P m Q := by
 unfold quAt at h
 split at h
 ·rename_i op t x y ty hop
  split at h
  ·rename_i a b hx hy
   refine R.eff0 hop (.inl ?_) ht h'
   split at h <;> cases h
   have h := EffR.rem (P := P) (hp := m.st.hp) (t := t) (ty := ty) .i64 a b hx hy (by omega)
   rwa [Int.tmod_eq_emod_of_nonneg h0] at h
  ·cases h
 ·cases h
def shAt (m : M) : Option (Bool × Int × Int) :=
 match opM m with
 | some (.binOp op _ x y _) => match ev m.st.fr x, ev m.st.fr y with
  | .int .i64 a, .int _ b => match op with
   | .shl => some (true, a, b)
   | .shr => some (false, a, b)
   | _ => none
  | _, _ => none
 | _ => none
theorem R.shl (a b : Int) (h : shAt m = some (true, a, b)) (h0 : 0 ≤ b) (ht : quiet0 m = true) (h' : Runs rd P (putM m none (AI (shl64 a b)) m.st.hp) Q) : Runs rd P m Q := by
 unfold shAt at h
 split at h
 ·rename_i op t x y ty hop
  split at h
  ·rename_i a b hx hy
   refine R.eff0 hop (.inl ?_) ht h'
   split at h <;> cases h
   exact EffR.shl .i64 _ _ _ hx hy h0
  ·cases h
 ·cases h
theorem R.shr (a b : Int) (h : shAt m = some (false, a, b)) (h0 : 0 ≤ b) (ht : quiet0 m = true) (h' : Runs rd P (putM m none (AI (shr64 a b)) m.st.hp) Q) : Runs rd P m Q := by
 unfold shAt at h
 split at h
 ·rename_i op t x y ty hop
  split at h
  ·rename_i a b hx hy
   refine R.eff0 hop (.inl ?_) ht h'
   split at h <;> cases h
   exact EffR.shr .i64 _ _ _ hx hy h0
  ·cases h
 ·cases h
def cvAt (P : Program) (m : M) : Option (IntKind × Int) :=
 match opM m with
 | some (.convert s d x) => match ev m.st.fr x, intB P d with
  | .int _ n, some k' => if (P.underlying s).isSome then some (k', n) else none
  | _, _ => none
 | _ => none
theorem R.cv (k' : IntKind) (n : Int) (h : cvAt P m = some (k', n)) (hw : k'.wrap n = n) (ht : quiet0 m = true) (h' : Runs rd P (putM m none (.int k' n) m.st.hp) Q) : Runs rd P m Q := by
 unfold cvAt at h
 split at h
 ·rename_i s d x hop
  split at h
  ·rename_i k n k' hx hd
   split at h
   ·rename_i hs
    cases h
    refine R.eff0 hop (.inl ?_) ht h'
    have := EffR.conv (P := P) (hp := m.st.hp) k k' n hx hs hd
    rwa [hw] at this
   ·cases h
  ·cases h
 ·cases h

def cdAt (m : M) : Option Bool :=
 match m.ks with
 | .code (.cond c _ _) :: _ => match ev m.st.fr c with
  | .bool b => some b
  | _ => none
 | _ => none
def branch (b : Bool) (m : M) : M :=
 match m.ks with
 | .code (.cond _ x y) :: ks => ⟨.code (if b then x else y) :: ks, m.st⟩
 | _ => m
theorem R.condB (b : Bool) (h : cdAt m = some b) (ht : b = true → Runs rd P (branch true m) Q) (hf : b = false → Runs rd P (branch false m) Q) : Runs rd P m Q := by
 obtain ⟨ks, st⟩ := m
 unfold cdAt at h
 unfold branch at ht hf
 simp only [runs_iff] at ht hf ⊢
 try simp only at h ht hf ⊢
 split at h
 ·split at h
  ·rename_i hc
   cases h
   simp only [RunsK] at ht hf ⊢
   exact RunA.cond _ hc (fun e => by simpa using ht e) (fun e => by simpa using hf e)
  ·cases h
 ·cases h
theorem R.cond (p : Prop) [Decidable p] (h : cdAt m = some (decide p)) (ht : p → Runs rd P (branch true m) Q) (hf : ¬ p → Runs rd P (branch false m) Q) : Runs rd P m Q :=
 R.condB _ h (fun e => ht (of_decide_eq_true e)) (fun e => hf (of_decide_eq_false e))
theorem k9 (p : Prop) [Decidable p] (ht : p → Runs rd P (branch true m) Q) (hf : ¬ p → Runs rd P (branch false m) Q) (h : cdAt m = some (decide p) := by kernel_rfl) : Runs rd P m Q := _root_.Go.Abs.R.cond p h ht hf
theorem R.condN (p : Prop) [Decidable p] (h : cdAt m = some (!decide p)) (ht : ¬ p → Runs rd P (branch true m) Q) (hf : p → Runs rd P (branch false m) Q) : Runs rd P m Q :=
 R.condB _ h (fun e => ht (of_decide_eq_false (by simpa using e))) (fun e => hf (of_decide_eq_true (by simpa using e)))
theorem k10 (p : Prop) [Decidable p] (ht : ¬ p → Runs rd P (branch true m) Q) (hf : p → Runs rd P (branch false m) Q) (h : cdAt m = some (!decide p) := by kernel_rfl) : Runs rd P m Q := _root_.Go.Abs.R.condN p h ht hf
theorem R.els (b : Bool) (h : cdAt m = some b) (hb : b = false) (hf : Runs rd P (branch false m) Q) : Runs rd P m Q := R.condB b h (fun e => by rw [hb] at e; cases e) (fun _ => hf)
theorem k11 {b : Bool} (hb : b = false) (hf : Runs rd P (branch false m) Q) (h : cdAt m = some b := by kernel_rfl) : Runs rd P m Q := _root_.Go.Abs.R.els b h hb hf
def gdAt (m : M) : Option (Bool × Bool) :=
 match headOf m with
 | some (all, o, false, _) => match o.guard with
  | some (j, w) => match yieldA all m.st.fr j with
   | some b => some (b, w)
   | none => none
  | none => none
 | _ => none
def wantM (m : M) : M :=
 match m.ks with
 | .ops all l _ :: ks => ⟨.ops all l true :: ks, m.st⟩
 | .drw all l ts _ :: ks => ⟨.drw all l ts true :: ks, m.st⟩
 | _ => m
theorem R.want (b w : Bool) (h : gdAt m = some (b, w)) (hb : b = w) (h' : Runs rd P (wantM m) Q) : Runs rd P m Q := by
 obtain ⟨ks, st⟩ := m
 unfold gdAt headOf at h
 unfold wantM at h'
 simp only [runs_iff] at h' ⊢
 try simp only at h h' ⊢
 split at h
 ·rename_i all o t heq
  split at h
  ·rename_i j w' hg
   split at h
   ·rename_i b' hy
    cases h
    have hw : ∀ l, HeadW all (o :: l) true st.fr := by
     rintro l _ o' rest hl
     cases hl
     exact .inr ⟨j, w, hg, by rw [hy, hb]⟩
    split at heq
    ·cases heq
     intro _
     exact h' (hw _)
    ·cases heq
     intro _
     exact h' (hw _)
    ·cases heq
   ·cases h
  ·cases h
 ·cases h
theorem k12 {b : Bool} (w : Bool) (hb : b = w) (h' : Runs rd P (wantM m) Q) (h : gdAt m = some (b, w) := by kernel_rfl) : Runs rd P m Q := _root_.Go.Abs.R.want b w h hb h'
theorem R.skp (b w : Bool) (h : gdAt m = some (b, w)) (hb : b = !w) (ht : quiet0 m = true) (h' : Runs rd P (putM m none (.tup []) m.st.hp) Q) : Runs rd P m Q := by
 obtain ⟨ks, ⟨fr, hp⟩⟩ := m
 unfold gdAt headOf at h
 unfold quiet0 headOf at ht
 unfold putM at h'
 simp only [runs_iff] at h' ⊢
 try simp only at h h' ht ⊢
 split at h
 ·rename_i all o t heq
  split at h
  ·rename_i j w' hg
   split at h
   ·rename_i b' hy
    cases h
    have hne : b ≠ w := by rw [hb]; cases w <;> simp
    have hs : StepN P all o fr hp (.tup []) [] := .skip j w hg (by
     unfold yieldA at hy
     unfold noA
     split at hy
     ·rename_i heq2; cases hy; rw [heq2]; simpa using hne
     ·cases hy)
    split at heq
    ·cases heq
     intro _
     refine OpsQ.cons (st' := ⟨putF fr o.dst (.tup []), hp⟩) ?_ (h' headW_false)
     exact (StepT.quiet hs).toR
    ·rename_i t' _ _ ks'
     cases heq
     intro hW
     obtain ⟨st2, h1, h2⟩ := h' headW_false
     refine ⟨st2, .cons (st1 := ⟨putF fr o.dst (.tup []), hp⟩) ?_ h1, h2⟩
     match t', ht with
     | 0, _ => exact .quiet hs
     | 1, _ => have := StepT.ext (P := P) (ops := all) (o := o) hs; rwa [List.append_nil] at this
     | 2, _ => exact .write (StepT.quiet hs).toR
     | n + 3, ht => simp at ht
    ·cases heq
   ·cases h
  ·cases h
 ·cases h
theorem k13 {b : Bool} (w : Bool) (hb : b = !w) (h' : Runs rd P (putM m none (.tup []) m.st.hp) Q) (h : gdAt m = some (b, w) := by kernel_rfl) (ht : quiet0 m = true := by kernel_rfl) : Runs rd P m Q := _root_.Go.Abs.R.skp b w h hb ht h'
def pkAt (m : M) : Option Bool :=
 match opM m with
 | some (.pick c _ _) => match ev m.st.fr c with
  | .bool b => some b
  | _ => none
 | _ => none
def pkV (t : Bool) (m : M) : AV :=
 match opM m with
 | some (.pick _ a b) => if t then ev m.st.fr a else ev m.st.fr b
 | _ => .top
theorem R.pick (b t : Bool) (h : pkAt m = some b) (hb : b = t) (ht : quiet0 m = true) (h' : Runs rd P (putM m none (pkV t m) m.st.hp) Q) : Runs rd P m Q := by
 unfold pkAt at h
 unfold pkV at h'
 split at h
 ·rename_i c x y hop
  split at h
  ·rename_i b' hc
   cases h
   rw [hop] at h'
   exact R.eff0 hop (.inl (.pick t (by rw [hc, hb]))) ht h'
  ·cases h
 ·cases h
theorem k14 {b : Bool} (t : Bool) (hb : b = t) (h' : Runs rd P (putM m none (pkV t m) m.st.hp) Q) (h : pkAt m = some b := by kernel_rfl) (ht : quiet0 m = true := by kernel_rfl) : Runs rd P m Q := _root_.Go.Abs.R.pick b t h hb ht h'
end
end Go.Abs

/-! The machine's rules: cells of rows, calls, loops, ends. -/
namespace Go.Abs
open Go.RowKit
section
variable {rd : Option Nat} {P : Program} {m : M} {Q : Exit → St → Prop} {α : Type}

def ixAt (P : Program) (m : M) : Option (Nat × Nat × List AV × Int) :=
 match opM m with
 | some (.indexAddr t x y) => match ev m.st.fr x, ev m.st.fr y, elemB P t with
  | .lst s n cs, .int _ j, some (_, s') => if s' = s ∧ s ≠ 0 then some (s, n, cs, j) else none
  | _, _, _ => none
 | _ => none
theorem R.idx (E : α → List AV) (xs : List α) (d : α) (j : Nat) (ji : Int) {s : Nat} (h : ixAt P m = some (s, xs.length, rows E xs, ji)) (hji : ji = (j : Int)) (hE : ∀ x, (E x).length = s) (hj : j < xs.length) (ht : quiet0 m = true)
  (h' : Runs rd P (putM m none (.rptr (E (xs.getD j d))) m.st.hp) Q) : Runs rd P m Q := by
 unfold ixAt at h
 split at h
 ·rename_i t x y hop
  split at h
  ·rename_i s0 n cs k j0 el s' hx hy hel
   split at h
   ·rename_i hc
    obtain ⟨rfl, hs0⟩ := hc
    cases h
    subst hji
    exact R.eff0 hop (.inl (.indexAddrE _ xs.length (rows E xs) k j el _ _ hx hy hel hs0 (by omega) (by omega) (rows_at hE xs j d hj))) ht h'
   ·cases h
  ·cases h
 ·cases h
theorem k15 (E : α → List AV) (xs : List α) (d : α) (j : Nat) (ji : Int) {s : Nat} (hE : ∀ x, (E x).length = s) (h' : Runs rd P (putM m none (.rptr (E (xs.getD j d))) m.st.hp) Q) (h : ixAt P m = some (s, xs.length, rows E xs, ji) := by kernel_rfl) (hji : ji = (j : Int) := by exact rfl) (hj : j < xs.length := by omega) (ht : quiet0 m = true := by kernel_rfl) : Runs rd P m Q := _root_.Go.Abs.R.idx E xs d j ji h hji hE hj ht h'
def ioAt (P : Program) (m : M) : Option (Nat × Nat × Nat × Int) :=
 match opM m with
 | some (.indexAddr t x y) => match ev m.st.fr x, ev m.st.fr y, elemB P t with
  | .ref i, .int _ j, some (el', s') => match m.st.hp[i]? with
   | some (.list el s n _) => if el' = el ∧ s' = s ∧ s ≠ 0 then some (i, s, n, j) else none
   | _ => none
  | _, _, _ => none
 | _ => none
theorem R.idxO (i s n j : Nat) (ji : Int) (h : ioAt P m = some (i, s, n, ji)) (hji : ji = (j : Int)) (hj : j < n) (ht : quiet0 m = true) (h' : Runs rd P (putM m none (.ptr i (j * s)) m.st.hp) Q) : Runs rd P m Q := by
 unfold ioAt at h
 split at h
 ·rename_i t x y hop
  split at h
  ·rename_i i0 k j0 el' s' hx hy hel
   split at h
   ·rename_i el s0 n0 cs hi
    split at h
    ·rename_i hc
     obtain ⟨rfl, rfl, hs0⟩ := hc
     cases h
     subst hji
     exact R.eff0 hop (.inl (.indexAddrO i el' _ n cs k j hx hi hy hel hs0 (by omega) (by omega))) ht h'
    ·cases h
   ·cases h
  ·cases h
 ·cases h
theorem k16 (i s n j : Nat) (ji : Int) (h' : Runs rd P (putM m none (.ptr i (j * s)) m.st.hp) Q) (h : ioAt P m = some (i, s, n, ji) := by kernel_rfl) (hji : ji = (j : Int) := by exact rfl) (hj : j < n := by omega) (ht : quiet0 m = true := by kernel_rfl) : Runs rd P m Q := _root_.Go.Abs.R.idxO i s n j ji h hji hj ht h'
def ldAt (P : Program) (m : M) : Option (List AV × Nat) :=
 match opM m with
 | some (.load t x) => match ev m.st.fr x, aggB P t with
  | .ptr i o, some false => match m.st.hp[i]? with
   | some ob => some (ob.cells, o)
   | none => none
  | _, _ => none
 | _ => none
theorem R.ld (cs : List AV) (o : Nat) (v : AV) (h : ldAt P m = some (cs, o)) (hv : cs[o]? = some v) (ht : quiet0 m = true) (h' : Runs rd P (putM m none v m.st.hp) Q) : Runs rd P m Q := by
 unfold ldAt at h
 split at h
 ·rename_i t x hop
  split at h
  ·rename_i i o0 hx hagg
   split at h
   ·rename_i ob hi
    cases h
    exact R.eff0 hop (.inl (.load i o ob hx hi hagg hv)) ht h'
   ·cases h
  ·cases h
 ·cases h
theorem R.ldI (xs : List Int) (j : Nat) (h : ldAt P m = some (rows eI xs, j * 1)) (hj : j < xs.length) (ht : quiet0 m = true) (h' : Runs rd P (putM m none (AI (xs.getD j 0)) m.st.hp) Q) : Runs rd P m Q := R.ld _ _ _ h (rows_getI xs j hj) ht h'
theorem k17 (xs : List Int) (j : Nat) (h' : Runs rd P (putM m none (AI (xs.getD j 0)) m.st.hp) Q) (h : ldAt P m = some (rows eI xs, j * 1) := by kernel_rfl) (hj : j < xs.length := by omega) (ht : quiet0 m = true := by kernel_rfl) : Runs rd P m Q := _root_.Go.Abs.R.ldI xs j h hj ht h'
theorem R.ldE (E : α → List AV) (s o : Nat) (xs : List α) (d : α) (j : Nat) (v : AV) (h : ldAt P m = some (rows E xs, j * s + o)) (hE : ∀ x, (E x).length = s) (hj : j < xs.length) (hv : (E (xs.getD j d))[o]? = some v) (ht : quiet0 m = true)
  (h' : Runs rd P (putM m none v m.st.hp) Q) : Runs rd P m Q := by
 refine R.ld _ _ _ h ?_ ht h'
 have e : (rows E xs)[j * s + o]? = ((rows E xs).drop (j * s))[o]? := by rw [List.getElem?_drop]
 rw [e, rows_at hE xs j d hj, List.getElem?_append_left (List.getElem?_eq_some_iff.1 hv).1]
 exact hv
def laAt (P : Program) (m : M) : Option (List AV × Nat × Nat) :=
 match opM m with
 | some (.load t x) => match ev m.st.fr x, aggB P t, sizeB P t with
  | .ptr i o, some true, some k => match m.st.hp[i]? with
   | some ob => some (ob.cells, o, k)
   | none => none
  | _, _, _ => none
 | _ => none
theorem R.ldA (E : α → List AV) (xs : List α) (d : α) (j s : Nat) (h : laAt P m = some (rows E xs, j * s, s)) (hE : ∀ x, (E x).length = s) (hj : j < xs.length) (ht : quiet0 m = true) (h' : Runs rd P (putM m none (.agg (E (xs.getD j d))) m.st.hp) Q) : Runs rd P m Q := by
 unfold laAt at h
 split at h
 ·rename_i t x hop
  split at h
  ·rename_i i o0 k hx hagg hk
   split at h
   ·rename_i ob hi
    simp only [Option.some.injEq, Prod.mk.injEq] at h
    obtain ⟨h1, rfl, rfl⟩ := h
    have hl : j * k + k ≤ ob.cells.length := by
     rw [h1, rows_length hE]
     have : (j + 1) * k ≤ xs.length * k := Nat.mul_le_mul_right k hj
     rw [Nat.add_mul] at this
     omega
    have h2 := EffR.loadN (P := P) (e := ev m.st.fr) (hp := m.st.hp) i (j * k) k ob hx hi hagg hk hl
    rw [h1, rows_at hE xs j d hj, List.take_left' (hE _)] at h2
    exact R.eff0 hop (.inl h2) ht h'
   ·cases h
  ·cases h
 ·cases h
def stAt (P : Program) (m : M) : Option (Nat × Nat × Nat × Nat × List AV × Nat × AV) :=
 match opM m with
 | some (.store t p x) => match ev m.st.fr p, sizeB P t with
  | .ptr i o, some 1 => match m.st.hp[i]? with
   | some (.list el s n cs) => if (ev m.st.fr x).one && (ev m.st.fr x).leafy then some (i, el, s, n, cs, o, ev m.st.fr x) else none
   | _ => none
  | _, _ => none
 | _ => none
theorem rows_set1 {E : α → List AV} {c : α → AV} (hE : ∀ x, E x = [c x]) (xs : List α) (j : Nat) (v : α) : (rows E xs).set (j * 1) (c v) = rows E (xs.set j v) := by
 induction xs generalizing j with
 | nil => rfl
 | cons x xs ih =>
  cases j with
  | zero => simp [rows, hE]
  | succ j =>
   have e : (j + 1) * 1 = j * 1 + 1 := by omega
   rw [e]
   simp only [rows, hE, List.set_cons_succ, List.cons_append, List.nil_append, ih]
theorem R.st1 (E : α → List AV) (c : α → AV) (i el : Nat) (xs : List α) (j : Nat) (v : α) (h : stAt P m = some (i, el, 1, xs.length, rows E xs, j * 1, c v)) (hE : ∀ x, E x = [c x]) (hj : j < xs.length) (ht : writeOk m = true)
  (h' : Runs rd P (putM m none .top (m.st.hp.set i (.list el 1 (xs.set j v).length (rows E (xs.set j v))))) Q) : Runs rd P m Q := by
 unfold stAt at h
 split at h
 ·rename_i t p x hop
  split at h
  ·rename_i i0 o0 hx hsz
   split at h
   ·rename_i el0 s0 n0 cs hi
    split at h
    ·rename_i hc
     simp only [Bool.and_eq_true] at hc
     simp only [Option.some.injEq, Prod.mk.injEq] at h
     obtain ⟨rfl, rfl, rfl, rfl, rfl, rfl, h1⟩ := h
     have h2 := EffW.store1 (P := P) (e := ev m.st.fr) (hp := m.st.hp) (t := t) (p := p) (x := x) i0 (j * 1) _ hx hi hsz hc.1 (by simp only [AObj.cells]; rw [rows_length (s := 1) (fun x => by rw [hE]; rfl)]; omega) (by simp [hc.2])
     simp only [AObj.cells, AObj.withCells, h1] at h2
     rw [rows_set1 hE] at h2
     rw [List.length_set] at h'
     exact R.effW hop h2 ht h'
    ·cases h
   ·cases h
  ·cases h
 ·cases h
theorem R.stI (i el : Nat) (xs : List Int) (j : Nat) (v : Int) (h : stAt P m = some (i, el, 1, xs.length, rows eI xs, j * 1, AI v)) (hj : j < xs.length) (ht : writeOk m = true)
  (h' : Runs rd P (putM m none .top (m.st.hp.set i (.list el 1 (xs.set j v).length (rows eI (xs.set j v))))) Q) : Runs rd P m Q := R.st1 eI AI i el xs j v h (fun _ => rfl) hj ht h'
theorem k18 (i el : Nat) (xs : List Int) (j : Nat) (v : Int) (h' : Runs rd P (putM m none .top (m.st.hp.set i (.list el 1 (xs.set j v).length (rows eI (xs.set j v))))) Q) (h : stAt P m = some (i, el, 1, xs.length, rows eI xs, j * 1, AI v) := by kernel_rfl) (hj : j < xs.length := by omega) (ht : writeOk m = true := by kernel_rfl) : Runs rd P m Q := _root_.Go.Abs.R.stI i el xs j v h hj ht h'
def apAt (P : Program) (m : M) : Option (Option (Nat × Nat × List AV) × Nat × Nat × Nat × Nat × List AV) :=
 match opM m with
 | some (.call c) => match c.callee, c.args.toList, c.argTypes.toList with
  | .builtin .append, [x, y], [t, t'] =>
   if t = t' then
    match rowB P t with
    | some (el, s, _, b) =>
     match (match ev m.st.fr y with
      | .lst s' k ds => if s' = s then some (k, ds) else none
      | .ref j => match m.st.hp[j]? with
       | some (.list _ s' k ds) => if s' = s then some (k, ds) else none
       | _ => none
      | .nil => some (0, [])
      | _ => none) with
     | some (k, ds) => match ev m.st.fr x with
      | .ref i => match m.st.hp[i]? with
       | some (.list el' s' n cs) => if el' = el ∧ s' = s then some (some (i, n, cs), el, s, b, k, ds) else none
       | _ => none
      | .nil => some (none, el, s, b, k, ds)
      | _ => none
     | none => none
    | none => none
   else none
  | _, _, _ => none
 | _ => none
def ApX (m : M) (x : Operand) (el s : Nat) : Option (Nat × Nat × List AV) → Prop
 | some (i, n, cs) => ev m.st.fr x = .ref i ∧ m.st.hp[i]? = some (.list el s n cs)
 | none => ev m.st.fr x = .nil
theorem apAt_parts {r : Option (Nat × Nat × List AV)} {el s b k : Nat} {ds : List AV} (h : apAt P m = some (r, el, s, b, k, ds)) : ∃ x y t zs, opM m = some (.call { callee := .builtin .append, args := #[x, y], argTypes := #[t, t] }) ∧ rowB P t = some (el, s, zs, b) ∧ SrcR m.st.hp s (ev m.st.fr y) k ds ∧ ApX m x el s r := by
 unfold apAt at h
 split at h
 ·rename_i c hop
  obtain ⟨callee, args, tys⟩ := c
  simp only at h
  split at h
  ·rename_i x y t t' h2 h3
   obtain rfl : args = #[x, y] := Array.toList_inj.1 (by simpa using h2)
   obtain rfl : tys = #[t, t'] := Array.toList_inj.1 (by simpa using h3)
   split at h
   ·rename_i htt
    subst htt
    split at h
    ·rename_i el0 s0 zs b0 hrow
     split at h
     ·rename_i k0 ds0 hsrc
      have hsrc' : SrcR m.st.hp s0 (ev m.st.fr y) k0 ds0 := by
       split at hsrc
       ·rename_i s' k' ds' hy
        split at hsrc
        ·rename_i hs; cases hsrc; subst hs; rw [hy]; exact .lst
        ·cases hsrc
       ·rename_i j hy
        split at hsrc
        ·rename_i e' s' k' ds' hj
         split at hsrc
         ·rename_i hs; cases hsrc; subst hs; rw [hy]; exact .ref hj
         ·cases hsrc
        ·cases hsrc
       ·rename_i hy; cases hsrc; rw [hy]; exact .nil
       ·cases hsrc
      split at h
      ·rename_i i hx
       split at h
       ·rename_i el' s' n cs hi
        split at h
        ·rename_i hc
         obtain ⟨rfl, rfl⟩ := hc
         cases h
         exact ⟨x, y, t, zs, hop, hrow, hsrc', hx, hi⟩
        ·cases h
       ·cases h
      ·rename_i hx
       cases h
       exact ⟨x, y, t, zs, hop, hrow, hsrc', hx⟩
      ·cases h
     ·cases h
    ·cases h
   ·cases h
  ·cases h
 ·cases h
theorem app_bound {n b : Nat} (hb : n * b ≤ 140737488355328) (h0 : 0 < b) : n ≤ maxLen := by
 have : n ≤ n * b := Nat.le_mul_of_pos_right n h0
 unfold maxLen
 omega
theorem R.app (E : α → List AV) (xs ys : List α) (i el s b : Nat) (h : apAt P m = some (some (i, xs.length, rows E xs), el, s, b, ys.length, rows E ys)) (hE : ∀ x, (E x).all AV.one = true) (h0 : 0 < b) (hb : (xs.length + ys.length) * b ≤ 140737488355328) (ht : writeOk m = true)
  (h' : Runs rd P (putM m (some i) (.ref i) ((m.st.hp.map (AObj.kill i)).set i (.list el s (xs ++ ys).length (rows E (xs ++ ys))))) Q) : Runs rd P m Q := by
 obtain ⟨x, y, t, zs, hop, hrow, hsrc, hx, hi⟩ := apAt_parts h
 rw [List.length_append, rows_append] at h'
 exact R.effW hop (.append i el s b xs.length ys.length zs (rows E xs) (rows E ys) hx hi hsrc hrow (by simpa using rows_all hE ys) hb (app_bound hb h0)) ht h'
theorem k19 (E : α → List AV) (xs ys : List α) (i el s b : Nat) (hE : ∀ x, (E x).all AV.one = true) (h' : Runs rd P (putM m (some i) (.ref i) ((m.st.hp.map (AObj.kill i)).set i (.list el s (xs ++ ys).length (rows E (xs ++ ys))))) Q) (h : apAt P m = some (some (i, xs.length, rows E xs), el, s, b, ys.length, rows E ys) := by kernel_rfl) (h0 : 0 < b := by decide) (hb : (xs.length + ys.length) * b ≤ 140737488355328 := by first | omega | (simp <;> omega)) (ht : writeOk m = true := by kernel_rfl) : Runs rd P m Q := _root_.Go.Abs.R.app E xs ys i el s b h hE h0 hb ht h'
def slAt (P : Program) (m : M) : Option (Nat × Nat × List AV × Option Int × Option Int × Option Int) :=
 match opM m with
 | some (.slice t x lo hi mx) => match ev m.st.fr x, elemB P t with
  | .lst s n cs, some (_, s') =>
   if s' = s then
    match lo.map (ev m.st.fr), hi.map (ev m.st.fr), mx.map (ev m.st.fr) with
    | some (.int _ l), some (.int _ h), some (.int _ c) => some (s, n, cs, some l, some h, some c)
    | some (.int _ l), some (.int _ h), none => some (s, n, cs, some l, some h, none)
    | some (.int _ l), none, none => some (s, n, cs, some l, none, none)
    | none, some (.int _ h), none => some (s, n, cs, none, some h, none)
    | _, _, _ => none
   else none
  | _, _ => none
 | _ => none
def SlX (m : M) : Option Int → Option Operand → Prop
 | some l, some o => ∃ k, ev m.st.fr o = .int k l
 | none, none => True
 | _, _ => False
theorem slAt_parts {s n : Nat} {cs : List AV} {lo hi mx : Option Int} (h : slAt P m = some (s, n, cs, lo, hi, mx)) : ∃ t x el olo ohi omx, opM m = some (.slice t x olo ohi omx) ∧ ev m.st.fr x = .lst s n cs ∧ elemB P t = some (el, s) ∧ SlX m lo olo ∧ SlX m hi ohi ∧ SlX m mx omx := by
 unfold slAt at h
 split at h
 ·rename_i t x olo ohi omx hop
  split at h
  ·rename_i s0 n0 cs0 el s' hx hel
   split at h
   ·rename_i hs
    subst hs
    split at h
    all_goals (try (cases h; done))
    all_goals
     cases h
     refine ⟨t, x, el, olo, ohi, omx, hop, hx, hel, ?_⟩
     cases olo <;> cases ohi <;> cases omx <;> simp_all [SlX]
   ·cases h
  ·cases h
 ·cases h
theorem R.slL (E : α → List AV) (xs : List α) {s : Nat} (l : Nat) (li : Int) (h : slAt P m = some (s, xs.length, rows E xs, some li, none, none)) (hl : li = (l : Int)) (hE : ∀ x, (E x).length = s) (h1 : l ≤ xs.length) (ht : quiet0 m = true)
  (h' : Runs rd P (putM m none (.lst s (xs.drop l).length (rows E (xs.drop l))) m.st.hp) Q) : Runs rd P m Q := by
 obtain ⟨t, x, el, olo, ohi, omx, hop, hx, hel, hlo, hhi, hmx⟩ := slAt_parts h
 cases olo <;> simp only [SlX] at hlo
 cases ohi <;> simp only [SlX] at hhi
 cases omx <;> simp only [SlX] at hmx
 obtain ⟨k, hlo⟩ := hlo
 subst hl
 rw [← rows_drop hE, List.length_drop] at h'
 exact R.eff0 hop (.inl (.sliceL s xs.length el (rows E xs) k l hx hlo hel h1)) ht h'
theorem R.slH (E : α → List AV) (xs : List α) {s : Nat} (l : Nat) (li : Int) (h : slAt P m = some (s, xs.length, rows E xs, none, some li, none)) (hl : li = (l : Int)) (hE : ∀ x, (E x).length = s) (h1 : l ≤ xs.length) (ht : quiet0 m = true)
  (h' : Runs rd P (putM m none (.lst s (xs.take l).length (rows E (xs.take l))) m.st.hp) Q) : Runs rd P m Q := by
 obtain ⟨t, x, el, olo, ohi, omx, hop, hx, hel, hlo, hhi, hmx⟩ := slAt_parts h
 cases olo <;> simp only [SlX] at hlo
 cases ohi <;> simp only [SlX] at hhi
 cases omx <;> simp only [SlX] at hmx
 obtain ⟨k, hhi⟩ := hhi
 subst hl
 rw [← rows_take hE, List.length_take, Nat.min_eq_left h1] at h'
 exact R.eff0 hop (.inl (.sliceH s xs.length el (rows E xs) k l hx hhi hel h1)) ht h'
def ctAt (P : Program) (m : M) : Option (Nat × Nat × Nat × Nat × List AV × Int) :=
 match opM m with
 | some (.slice t x none (some hi) none) => match ev m.st.fr x, elemB P t, ev m.st.fr hi with
  | .ref i, some (el', s'), .int _ h => match m.st.hp[i]? with
   | some (.list el s n cs) => if el' = el ∧ s' = s ∧ s ≠ 0 then some (i, el, s, n, cs, h) else none
   | _ => none
  | _, _, _ => none
 | _ => none
theorem R.cut (E : α → List AV) (xs : List α) (i el : Nat) {s : Nat} (h : Nat) (hi : Int) (h0 : ctAt P m = some (i, el, s, xs.length, rows E xs, hi)) (hh : hi = (h : Int)) (hE : ∀ x, (E x).length = s) (h1 : h ≤ xs.length) (ht : writeOk m = true)
  (h' : Runs rd P (putM m (some i) (.ref i) ((m.st.hp.map (AObj.kill i)).set i (.list el s (xs.take h).length (rows E (xs.take h))))) Q) : Runs rd P m Q := by
 unfold ctAt at h0
 split at h0
 ·rename_i t x hi0 hop
  split at h0
  ·rename_i i0 el' s' k h2 hx hel hhi
   split at h0
   ·rename_i el0 s0 n0 cs0 hi1
    split at h0
    ·rename_i hc
     obtain ⟨rfl, rfl, hs0⟩ := hc
     simp only [Option.some.injEq, Prod.mk.injEq] at h0
     obtain ⟨rfl, rfl, rfl, rfl, rfl, rfl⟩ := h0
     subst hh
     rw [← rows_take hE, List.length_take, Nat.min_eq_left h1] at h'
     exact R.effW hop (.cut i0 el' s' xs.length h (rows E xs) k hx hi1 hhi hel h1 hs0) ht h'
    ·cases h0
   ·cases h0
  ·cases h0
 ·cases h0
def mkAt (P : Program) (m : M) : Option (Nat × Nat × List AV × Nat × Int × Int) :=
 match opM m with
 | some (.makeSlice t x y) => match rowB P t, ev m.st.fr x, ev m.st.fr y with
  | some (el, s, zs, b), .int _ n, .int _ n' => some (el, s, zs, b, n, n')
  | _, _, _ => none
 | _ => none
theorem R.mk (E : α → List AV) (d : α) (el b n : Nat) (ni : Int) (h : mkAt P m = some (el, (E d).length, E d, b, ni, ni)) (hn : ni = (n : Int)) (h0 : 0 < b) (hb : n * b ≤ 140737488355328) (ht : quietOk m [.list el (E d).length 0 []] = true)
  (h' : Runs rd P (putM m none (.ref m.st.hp.length) (m.st.hp ++ [.list el (E d).length (List.replicate n d).length (rows E (List.replicate n d))])) Q) : Runs rd P m Q := by
 unfold mkAt at h
 split at h
 ·rename_i t x y hop
  split at h
  ·rename_i el0 s0 zs0 b0 k n0 k' n0' hrow hx hy
   simp only [Option.some.injEq, Prod.mk.injEq] at h
   obtain ⟨rfl, rfl, rfl, rfl, rfl, rfl⟩ := h
   subst hn
   rw [← zerosA_rows, List.length_replicate] at h'
   refine R.effM hop (.inl (.makeSlice el0 (E d).length b0 n k k' (E d) hrow hx hy (by rw [Nat.mul_comm]; exact hb) (app_bound hb h0))) ?_ h'
   unfold quietOk at ht ⊢
   split at ht <;> simp_all
  ·cases h
 ·cases h

mutual
def snapA (hp : List AObj) : AV → Option AV
 | .ref i => match hp[i]? with
  | some (.list _ s n cs) => some (.lst s n cs)
  | _ => none
 | .ptr i o => match hp[i]? with
  | some (.box _ cs) => match snapB hp (cs.drop o) with
   | some cs' => some (.rptr cs')
   | none => none
  | _ => none
 | .agg cs => match snapL hp cs with
  | some cs' => some (.agg cs')
  | none => none
 | .fn f cs => match snapL hp cs with
  | some cs' => some (.fn f cs')
  | none => none
 | c => if c.leafy then some c else none
def snapL (hp : List AObj) : List AV → Option (List AV)
 | [] => some []
 | c :: cs => match snapA hp c, snapL hp cs with
  | some c', some cs' => some (c' :: cs')
  | _, _ => none
def snapB (hp : List AObj) : List AV → Option (List AV)
 | [] => some []
 | c :: cs => match (match c with
   | .ref i => match hp[i]? with
    | some (.list _ s n ds) => some (.lst s n ds)
    | _ => none
   | c => if c.leafy then some c else some .top), snapB hp cs with
  | some c', some cs' => some (c' :: cs')
  | _, _ => none
end
end
end Go.Abs

/-! The machine's rules: calls, loops, ends; rows that are written no more. -/
namespace Go.Abs
open Go.RowKit
mutual
theorem snapA_sound {hp : List AObj} : ∀ {c c' : AV}, snapA hp c = some c' → Snap hp c c'
 | .ref i, c', h => by
  simp only [snapA] at h
  split at h
  ·rename_i hi; cases h; exact .ref hi
  ·cases h
 | .ptr i o, c', h => by
  simp only [snapA] at h
  split at h
  ·rename_i t cs hi
   split at h
   ·rename_i cs' hs
    cases h
    exact .ptr hi (snapB_sound hs)
   ·cases h
  ·cases h
 | .agg cs, c', h => by
  simp only [snapA] at h
  split at h
  ·rename_i hs; cases h; exact .agg (snapL_sound hs)
  ·cases h
 | .fn f cs, c', h => by
  simp only [snapA] at h
  split at h
  ·rename_i hs; cases h; exact .fn (snapL_sound hs)
  ·cases h
 | .int _ _, c', h => by simp only [snapA] at h; split at h <;> cases h; exact .leaf rfl
 | .bool _, c', h => by simp only [snapA] at h; split at h <;> cases h; exact .leaf rfl
 | .str _, c', h => by simp only [snapA] at h; split at h <;> cases h; exact .leaf rfl
 | .nil, c', h => by simp only [snapA] at h; split at h <;> cases h; exact .leaf rfl
 | .lst _ _ _, c', h => by simp only [snapA] at h; split at h <;> cases h; exact .leaf rfl
 | .clp _ _ _, c', h => by simp only [snapA] at h; split at h <;> cases h; exact .leaf rfl
 | .nam _ _ _ _ _, c', h => by simp only [snapA] at h; split at h <;> cases h; exact .leaf rfl
 | .rptr _, c', h => by simp only [snapA] at h; split at h <;> cases h; exact .leaf rfl
 | .top, c', h => by simp only [snapA] at h; split at h <;> cases h; exact .leaf rfl
 | .tup cs, c', h => by
  simp only [snapA] at h
  split at h
  ·rename_i hl; simp [AV.leafy] at hl
  ·cases h
 | .own _ _ _ _, c', h => by
  simp only [snapA] at h
  split at h
  ·rename_i hl; simp [AV.leafy] at hl
  ·cases h
theorem snapL_sound {hp : List AObj} : ∀ {cs cs' : List AV}, snapL hp cs = some cs' → SnapL hp cs cs'
 | [], cs', h => by simp only [snapL, Option.some.injEq] at h; subst h; exact .nil
 | c :: cs, cs', h => by
  simp only [snapL] at h
  split at h
  ·rename_i h1 h2; cases h; exact .cons (snapA_sound h1) (snapL_sound h2)
  ·cases h
theorem snapB_sound {hp : List AObj} : ∀ {cs cs' : List AV}, snapB hp cs = some cs' → SnapL hp cs cs'
 | [], cs', h => by simp only [snapB, Option.some.injEq] at h; subst h; exact .nil
 | c :: cs, cs', h => by
  simp only [snapB] at h
  split at h
  ·rename_i d ds h1 h2
   cases h
   refine .cons ?_ (snapB_sound h2)
   split at h1
   ·split at h1
    ·rename_i hi; cases h1; exact .ref hi
    ·cases h1
   ·split at h1
    ·rename_i hl; cases h1; exact .leaf hl
    ·cases h1; exact .top
  ·cases h
end
section
variable {rd : Option Nat} {P : Program} {m : M} {Q : Exit → St → Prop} {α : Type}

def clAt (m : M) : Option (FuncId × List AV × Bool) :=
 match opM m with
 | some (.call c) => match c.callee with
  | .value f => match ev m.st.fr f with
   | .fn g caps =>
    if leafyL (c.args.toList.map (ev m.st.fr) ++ caps) then some (g, c.args.toList.map (ev m.st.fr) ++ caps, true)
    else match snapL m.st.hp (c.args.toList.map (ev m.st.fr) ++ caps) with
     | some avs => some (g, avs, false)
     | none => none
   | _ => none
  | _ => none
 | _ => none
theorem clAt_callR {f : FuncId} {avs : List AV} {p : Bool} {res : AV} (h : clAt m = some (f, avs, p)) (hc : CallA P f avs res) (hr : (p || res.closed) = true) :
  ∃ op, opM m = some op ∧ CallR P (ev m.st.fr) m.st.hp op (imp m.st.hp.length res).1 (imp m.st.hp.length res).2 := by
 unfold clAt at h
 split at h
 ·rename_i c hop
  obtain ⟨callee, args, tys⟩ := c
  simp only at h
  split at h
  ·rename_i fo
   split at h
   ·rename_i g caps hf
    split at h
    ·rename_i hl
     cases h
     exact ⟨_, hop, .pure f caps res hf hl hc⟩
    ·split at h
     ·rename_i avs' hs
      cases h
      exact ⟨_, hop, .snap f caps avs res hf (snapL_sound hs) hc (by simpa using hr)⟩
     ·cases h
   ·cases h
  ·cases h
 ·cases h
theorem R.call (p : Bool) {f : FuncId} {avs : List AV} {res : AV} (hc : CallA P f avs res) (h : clAt m = some (f, avs, p)) (hr : (p || res.closed) = true) (ht : quietOk m (imp m.st.hp.length res).2 = true)
  (h' : Runs rd P (putM m none (imp m.st.hp.length res).1 (m.st.hp ++ (imp m.st.hp.length res).2)) Q) : Runs rd P m Q := by
 obtain ⟨op, hop, h1⟩ := clAt_callR h hc hr
 exact R.effM hop (.inr h1) ht h'
theorem k20 (p : Bool) {f : FuncId} {avs : List AV} {res : AV} (hc : CallA P f avs res) (h' : Runs rd P (putM m none (imp m.st.hp.length res).1 (m.st.hp ++ (imp m.st.hp.length res).2)) Q) (h : clAt m = some (f, avs, p) := by kernel_rfl) (hr : (p || res.closed) = true := by exact rfl) (ht : quietOk m (imp m.st.hp.length res).2 = true := by kernel_rfl) : Runs rd P m Q := _root_.Go.Abs.R.call p hc h hr ht h'
def litAt (P : Program) (m : M) : Option (Nat × Nat × List AV) :=
 match opM m with
 | some (.buildSlice t n parts) => match rowB P t with
  | some (_, s, zs, _) => match fillA (fun i => some (i * s, s)) (zerosA zs s n) (parts.toList.map fun x => (x.1, ev m.st.fr x.2)) with
   | some cs => if decide (n * s ≤ 16777216) && leafyL cs then some (s, n, cs) else none
   | none => none
  | none => none
 | _ => none
theorem R.lit {s n : Nat} {cs : List AV} (h : litAt P m = some (s, n, cs)) (ht : quietOk m [] = true) (h' : Runs rd P (putM m none (.lst s n cs) m.st.hp) Q) : Runs rd P m Q := by
 unfold litAt at h
 split at h
 ·rename_i t n' parts hop
  split at h
  ·rename_i el s' zs b hrow
   split at h
   ·rename_i cs' hfill
    split at h
    ·rename_i hc
     simp only [Bool.and_eq_true, decide_eq_true_eq] at hc
     cases h
     exact R.effM hop (.inr (.lit el _ b zs _ hrow hc.1 hfill hc.2)) ht (by rw [List.append_nil]; exact h')
    ·cases h
   ·cases h
  ·cases h
 ·cases h
def csAt (m : M) : Option (FuncId × List AV) :=
 match opM m with
 | some (.call c) => match c.callee with
  | .value f => match ev m.st.fr f with
   | .fn g caps => if noMark m.st.hp then some (g, c.args.toList.map (ev m.st.fr) ++ caps) else none
   | _ => none
  | _ => none
 | _ => none
theorem csAt_mark {f : FuncId} {avs : List AV} (h : csAt m = some (f, avs)) : noMark m.st.hp = true := by
 unfold csAt at h
 split at h
 ·split at h
  ·split at h
   ·split at h
    ·assumption
    ·cases h
   ·cases h
  ·cases h
 ·cases h
theorem csAt_parts {f : FuncId} {avs : List AV} (h : csAt m = some (f, avs)) : ∃ fo args tys caps, opM m = some (.call { callee := .value fo, args := args, argTypes := tys }) ∧ ev m.st.fr fo = .fn f caps ∧ avs = args.toList.map (ev m.st.fr) ++ caps := by
 unfold csAt at h
 split at h
 ·rename_i c hop
  obtain ⟨callee, args, tys⟩ := c
  simp only at h
  split at h
  ·rename_i fo
   split at h
   ·rename_i g caps hf
    split at h
    ·cases h
     exact ⟨fo, args, tys, caps, hop, hf, rfl⟩
    ·cases h
   ·cases h
  ·cases h
 ·cases h
theorem R.callS {f : FuncId} {avs : List AV} {hp : List AObj} {res : AV} {hp' : List AObj} (hc : CallS P f avs hp res hp') (h : csAt m = some (f, avs)) (hh : m.st.hp = hp) (ht : writeOk m = true) (h' : Runs rd P (putM m none res hp') Q) : Runs rd P m Q := by
 have hnm := csAt_mark h
 obtain ⟨fo, args, tys, caps, hop, hf, rfl⟩ := csAt_parts h
 subst hh
 obtain ⟨ks, ⟨fr, hp⟩⟩ := m
 unfold opM headOf at hop
 unfold writeOk headOf at ht
 unfold putM at h'
 simp only [runs_iff] at h' ⊢
 try simp only at hop ht h' hf hc hnm ⊢
 split at hop
 ·rename_i all o fl t heq
  split at hop
  ·rename_i hw
   simp only [Option.some.injEq] at hop
   have key : WantedA all o fr → StepR P all o ⟨fr, hp⟩ ⟨putF fr o.dst res, hp'⟩ := fun hw => .callS hnm hw f caps res hp' hop hf hc
   split at heq
   ·cases heq
    intro hW
    exact OpsQ.cons (key (wantH_true hw hW)) (h' headW_false)
   ·rename_i t' _ _ ks'
    cases heq
    intro hW
    obtain ⟨st2, h1, h2⟩ := h' headW_false
    refine ⟨st2, .cons (st1 := ⟨putF fr o.dst res, hp'⟩) ?_ h1, h2⟩
    match t', ht with
    | 2, _ => exact .write (key (wantH_true hw hW))
    | 0, ht => simp at ht
    | 1, ht => simp at ht
    | n + 3, ht => simp at ht
   ·cases heq
  ·cases hop
 ·cases hop

def canon (ks : List Nat) (js : Option (List Nat)) (st : St) : St :=
 match js with
 | some js => renS js ⟨keepF ks st.fr, st.hp⟩
 | none => ⟨keepF ks st.fr, st.hp⟩
def nodupO (js : Option (List Nat)) (hp : List AObj) : Bool :=
 match js with
 | some js => decide js.Nodup && noMark hp
 | none => true
theorem Sub.canon (ks : List Nat) (js : Option (List Nat)) (st : St) (hn : nodupO js st.hp = true) : Sub st (canon ks js st) := by
 cases js with
 | none => exact Sub.keep ks st
 | some js =>
  simp only [nodupO, Bool.and_eq_true, decide_eq_true_eq] at hn
  exact Sub.trans (Sub.keep ks st) (Sub.ren js _ hn.1 hn.2)
def lpAt (m : M) : Bool :=
 match m.ks with
 | .code (.loop _) :: _ => true
 | _ => false
def bodyM (R : St → Prop) (st : St) (m : M) : M :=
 match m.ks with
 | .code (.loop c) :: ks => ⟨.code c :: .stop R :: ks, st⟩
 | _ => m
def Next {α : Type} (S : α → St) (I : α → Prop) (μ : α → Nat) (a : α) (R : St → Prop) : Prop := ∀ (a' : α) (ks : List Nat) (js : Option (List Nat)) (st' : St), nodupO js st'.hp = true → canon ks js st' = S a' → I a' → μ a' < μ a → R st'
theorem R.loop (S : α → St) (I : α → Prop) (μ : α → Nat) (a0 : α) (ks : List Nat) (js : Option (List Nat)) (hl : lpAt m = true) (hn : nodupO js m.st.hp = true) (hs : canon ks js m.st = S a0) (h0 : I a0)
  (round : ∀ a, I a → ∀ R : St → Prop, Next S I μ a R → Runs rd P (bodyM R (S a) m) Q) : Runs rd P m Q := by
 obtain ⟨k, st⟩ := m
 unfold lpAt at hl
 simp only at hl hs
 split at hl
 ·rename_i c ks'
  rw [runs_iff]
  simp only [RunsK]
  refine RunA.sub (Sub.canon ks js st hn) ?_
  rw [hs]
  refine RunA.loop (fun n st => ∃ a, I a ∧ μ a = n ∧ st = S a) (μ a0) ⟨a0, h0, rfl, rfl⟩ ?_
  rintro n st ⟨a, hI, rfl, rfl⟩
  have h1 := round a hI (fun st' => ∃ st'', Sub st' st'' ∧ ∃ n', n' < μ a ∧ ∃ a', I a' ∧ μ a' = n' ∧ st'' = S a') (fun a' ks js st' hn he hI' hlt => ⟨_, Sub.canon ks js st' hn, _, hlt, a', hI', rfl, he⟩)
  simp only [runs_iff, bodyM] at h1
  simp only [RunsK] at h1
  refine h1.mono fun e st' hq => ?_
  cases e <;> exact hq
 ·cases hl
theorem k21 (S : α → St) (I : α → Prop) (μ : α → Nat) (a0 : α) (ks : List Nat) (js : Option (List Nat)) (h0 : I a0) (round : ∀ a, I a → ∀ R : St → Prop, Next S I μ a R → Runs rd P (bodyM R (S a) m) Q) (hl : lpAt m = true := by kernel_rfl) (hn : nodupO js m.st.hp = true := by kernel_rfl) (hs : canon ks js m.st = S a0 := by kernel_rfl) : Runs rd P m Q := _root_.Go.Abs.R.loop S I μ a0 ks js hl hn hs h0 round
def spAt (m : M) : Option (St → Prop) :=
 match m.ks with
 | .stop R :: _ => some R
 | _ => none
theorem R.stop (R : St → Prop) (h : spAt m = some R) (h' : R m.st) : Runs rd P m Q := by
 obtain ⟨ks, st⟩ := m
 unfold spAt at h
 rw [runs_iff]
 simp only at h h' ⊢
 split at h
 ·cases h; exact h'
 ·cases h
theorem k22 (R : St → Prop) (h' : R m.st) (h : spAt m = some R := by kernel_rfl) : Runs rd P m Q := _root_.Go.Abs.R.stop R h h'

theorem runsK_ret : ∀ (ks : List Kont) (st : St), Q .ret st → RunsK rd P Q ks .ret st
 | [], _, h => h
 | .code _ :: ks, st, h => runsK_ret ks st h
 | .ops _ _ _ :: ks, st, h => runsK_ret ks st h
 | .drw _ _ _ _ :: ks, st, h => runsK_ret ks st h
 | .block _ :: ks, st, h => runsK_ret ks st h
 | .stop _ :: ks, st, h => runsK_ret ks st h
 | .any _ _ _ :: ks, st, h => runsK_ret ks st h
def edAt (m : M) : Option Exit :=
 match m.ks with
 | [] => some .normal
 | .code .ret :: _ => some .ret
 | _ => none
theorem R.fin (h : (edAt m).isSome = true) (h1 : Q .normal m.st) (h2 : Q .ret m.st) : Runs rd P m Q := by
 obtain ⟨ks, st⟩ := m
 unfold edAt at h
 rw [runs_iff]
 simp only at h h1 h2 ⊢
 split at h
 ·exact h1
 ·exact RunA.ret (runsK_ret _ _ h2)
 ·cases h
def retQ (P : Program) (fn : Func) (res : AV) : Exit → St → Prop := fun e st' => match e with | .normal => Returns P fn st' res | .ret => Returns P fn st' res | _ => False
theorem R.ret {fn : Func} {res : AV} (h : (edAt m).isSome = true) (hr : resOf P fn m.st = some res) : Runs rd P m (retQ P fn res) := R.fin h hr hr
theorem R.retE {fn : Func} {res : AV} (res' : AV) (h : (edAt m).isSome = true) (hr : resOf P fn m.st = some res') (he : res' = res) : Runs rd P m (retQ P fn res) := he ▸ R.ret h hr
theorem k23 {fn : Func} {res : AV} (res' : AV) (he : res' = res) (h : (edAt m).isSome = true := by kernel_rfl) (hr : resOf P fn m.st = some res' := by kernel_rfl) : Runs rd P m (retQ P fn res) := _root_.Go.Abs.R.retE res' h hr he
def frameOf (n : Nat) (args : List AV) : List AV := args ++ List.replicate (n - args.length) .top
theorem CallA.of {f : FuncId} {fn : Func} {c : Code} {args : List AV} {res : AV} (hf : P.funcs[f]? = some fn) (hb : fn.body = some c) (hnm : (fn.name == "runtime.NumGoroutine") = false) (h : Runs none P ⟨[.code c], ⟨frameOf fn.ntmps args, []⟩⟩ (retQ P fn res)) : CallA P f args res :=
 callA_of_run hf hb hnm h.out

def subOk (m : M) : Bool :=
 match m.ks with
 | .code _ :: _ => true
 | .ops _ _ false :: _ => true
 | .any _ _ _ :: _ => true
 | _ => false
theorem R.sub (st' : St) (h : subOk m = true) (hs : Sub m.st st') (h' : Runs rd P ⟨m.ks, st'⟩ Q) : Runs rd P m Q := by
 obtain ⟨ks, st⟩ := m
 unfold subOk at h
 simp only [runs_iff] at h' ⊢
 try simp only at h hs h' ⊢
 split at h
 ·exact RunA.sub hs h'
 ·intro _ Z0 w0 a w hS
  exact h' headW_false Z0 w0 a w (hs Z0 w0 a w hS)
 ·intro Z0 w0 a w hS
  exact h' Z0 w0 a w (hs Z0 w0 a w hS)
 ·cases h
end

mutual
def frzV (i : Nat) (r : AV) : AV → AV
 | .ref j => if j = i then r else .ref j
 | .ptr j o => if j = i then .top else .ptr j o
 | .lst s n cs => .lst s n cs
 | .clp s n cs => .clp s n cs
 | .nam u o s n cs => .nam u o s n cs
 | .rptr cs => .rptr cs
 | .agg cs => .agg (frzL i r cs)
 | .tup cs => .tup (frzL i r cs)
 | .fn f cs => .fn f (frzL i r cs)
 | .int k n => .int k n
 | .bool b => .bool b
 | .str s => .str s
 | .nil => .nil
 | .own e s n cs => .own e s n cs
 | .top => .top
def frzL (i : Nat) (r : AV) : List AV → List AV
 | [] => []
 | c :: cs => frzV i r c :: frzL i r cs
end
def AObj.frz (i : Nat) (r : AV) : AObj → AObj
 | .box t cs => .box t (frzL i r cs)
 | .list e s n cs => .list e s n cs
 | .dead => .dead
 | .frame us cs => .frame us (frzL i r cs)
 | .inert x => .inert x
def frzS (i : Nat) (r : AV) (st : St) : St := ⟨frzL i r st.fr, (st.hp.map (AObj.frz i r)).set i .dead⟩
mutual
theorem Rel.frz {w : World} {Z Z' : Nat → Prop} {μ : List Value} (i : Nat) (r : AV) (u : Value) (hz : ∀ b, b < w.heap.size → ¬ Z b → ¬ Z' b) (hu : μ[i]? = some u) (hr : Rel w Z' μ r u) : ∀ {c : AV} {v : Value}, Rel w Z μ c v → Rel w Z' μ (frzV i r c) v
 | .int _ _, _, h => by simpa [Rel, frzV] using h
 | .bool _, _, h => by simpa [Rel, frzV] using h
 | .str _, _, h => by simpa [Rel, frzV] using h
 | .nil, _, h => by simpa [Rel, frzV] using h
 | .top, _, _ => by simp [Rel, frzV]
 | .own _ _ _ _, _, h => by simp [Rel] at h
 | .lst s n cs, v, h => Rel.weak (c := .lst s n cs) hz h
 | .clp s n cs, v, h => Rel.weak (c := .clp s n cs) hz h
 | .nam u' o s n cs, v, h => Rel.weak (c := .nam u' o s n cs) hz h
 | .rptr cs, v, h => Rel.weak (c := .rptr cs) hz h
 | .ref j, v, h => by
  simp only [frzV]
  split
  ·rename_i hj
   simp only [Rel] at h
   rw [hj, hu] at h
   cases h
   exact hr
  ·simpa [Rel] using h
 | .ptr j o, v, h => by
  simp only [frzV]
  split
  ·simp [Rel]
  ·simpa [Rel] using h
 | .agg cs, v, h => by
  simp only [Rel, frzV] at h ⊢
  obtain ⟨xs, h1, h2⟩ := h
  exact ⟨xs, h1, RelL.frz i r u hz hu hr h2⟩
 | .tup cs, v, h => by
  simp only [Rel, frzV] at h ⊢
  obtain ⟨xs, h1, h2⟩ := h
  exact ⟨xs, h1, RelL.frz i r u hz hu hr h2⟩
 | .fn f cs, v, h => by
  simp only [Rel, frzV] at h ⊢
  obtain ⟨xs, h1, h2⟩ := h
  exact ⟨xs, h1, RelL.frz i r u hz hu hr h2⟩
theorem RelL.frz {w : World} {Z Z' : Nat → Prop} {μ : List Value} (i : Nat) (r : AV) (u : Value) (hz : ∀ b, b < w.heap.size → ¬ Z b → ¬ Z' b) (hu : μ[i]? = some u) (hr : Rel w Z' μ r u) : ∀ {cs : List AV} {vs : List Value}, RelL w Z μ cs vs → RelL w Z' μ (frzL i r cs) vs
 | [], _, h => by simpa [RelL, frzL] using h
 | c :: cs, _, h => by
  simp only [RelL, frzL] at h ⊢
  obtain ⟨x, xs, h1, h2, h3⟩ := h
  exact ⟨x, xs, h1, Rel.frz i r u hz hu hr h2, RelL.frz i r u hz hu hr h3⟩
end
theorem AObj.frz_alive (i : Nat) (r : AV) (o : AObj) : (o.frz i r).alive = o.alive := by cases o <;> rfl
theorem Sub.frz (i e s n : Nat) (cs : List AV) (st : St) (hi : st.hp[i]? = some (.list e s n cs)) : Sub st (frzS i (.lst s n cs) st) := by
 rintro Z0 w0 a w ⟨μ, F, hFb, hH, hF, hd, hb⟩
 have hil : i < μ.length := by rw [hH.len]; exact (List.getElem?_eq_some_iff.1 hi).1
 obtain ⟨u, hu⟩ : ∃ u, μ[i]? = some u := ⟨_, List.getElem?_eq_getElem hil⟩
 obtain ⟨xs, hown, hx⟩ := hH.obj i _ u hi hu
 have hz : ∀ b, b < w.heap.size → ¬ Zone Z0 F w0.heap.size b → ¬ Zone Z0 (fun b => F b ∨ blk u = some b) w0.heap.size b := fun b _ h => zone_more b h
 have hr : Rel w (Zone Z0 (fun b => F b ∨ blk u = some b) w0.heap.size) μ (.lst s n cs) u := own_lst hown hx hz (fun g hg hzz => hzz.elim (fun h => by
  have := ((hH.obj i _ u hi hu).blk_ge rfl hg).1
  omega) (fun h => h.2 (.inr hg)))
 refine ⟨μ, fun b => F b ∨ blk u = some b, fun b h => h.elim (hFb b) (fun h => (hH.obj i _ u hi hu).blk_ge rfl h), ?_, RelL.frz i _ u hz hu hr hF, hd.keep (fun j x hj => ⟨?_, fun u hu => hu⟩), hb⟩
 rotate_left
 ·have hne : i ≠ j := by
   rintro rfl
   rw [hi] at hj
   cases hj
  show ((st.hp.map (AObj.frz i (.lst s n cs))).set i .dead)[j]? = _
  rw [List.getElem?_set_ne hne, List.getElem?_map, hj]
  rfl
 have get : ∀ (j : Nat) o, ((st.hp.map (AObj.frz i (.lst s n cs))).set i .dead)[j]? = some o → o = .dead ∨ (j ≠ i ∧ ∃ o', st.hp[j]? = some o' ∧ o = o'.frz i (.lst s n cs)) := by
  intro j o ho
  by_cases hj : j = i
  ·subst hj
   rw [List.getElem?_set_self (by simpa using (List.getElem?_eq_some_iff.1 hi).1)] at ho
   simp at ho
   exact .inl ho.symm
  ·rw [List.getElem?_set_ne (Ne.symm hj), List.getElem?_map, Option.map_eq_some_iff] at ho
   obtain ⟨o', h1, rfl⟩ := ho
   exact .inr ⟨hj, o', h1, rfl⟩
 refine ⟨by simp [frzS, hH.len], fun j o v g h1 ha h2 hg => ?_, hH.one, fun j o v h1 h2 => ?_, fun j k oj ok uj uk g hne h1 h2 a1 a2 m1 m2 b1 b2 => ?_⟩
 ·rcases get j o h1 with rfl | ⟨hj, o', ho, rfl⟩
  ·cases ha
  ·rw [AObj.frz_alive] at ha
   have h3 := hH.zone j o' v g ho ha h2 hg
   exact h3.elim .inl (fun h => .inr ⟨h.1, fun hf => hf.elim h.2 (fun h4 => hH.sep i j _ o' u v g (Ne.symm hj) hi ho rfl ha hu h2 h4 hg)⟩)
 ·rcases get j o h1 with rfl | ⟨hj, o', ho, rfl⟩
  ·trivial
  ·have hO := hH.obj j o' v ho h2
   cases o' with
   | box t ds => obtain ⟨g, ys, e1, e2, e3, e4⟩ := hO; exact ⟨g, ys, e1, e2, e3, RelL.frz i _ u hz hu hr e4⟩
   | list e s n ds => obtain ⟨ys, e1, e2⟩ := hO; exact ⟨ys, e1, e2.weak hz⟩
   | dead => trivial
   | frame us ds => exact RelL.frz i _ u hz hu hr hO
   | inert x => exact InertRel.keep (fun b h1 h2 => ⟨rfl, hz b h1 h2⟩) hO
 ·rcases get j oj h1 with rfl | ⟨hj, o1, ho1, rfl⟩
  ·cases a1
  ·rcases get k ok h2 with rfl | ⟨hk, o2, ho2, rfl⟩
   ·cases a2
   ·rw [AObj.frz_alive] at a1 a2
    exact hH.sep j k o1 o2 uj uk g hne ho1 ho2 a1 a2 m1 m2 b1 b2
def frzM (i : Nat) (m : M) : M :=
 match m.st.hp[i]? with
 | some (.list _ s n cs) => ⟨m.ks, frzS i (.lst s n cs) m.st⟩
 | _ => m
theorem R.frz {rd : Option Nat} {P : Program} {m : M} {Q : Exit → St → Prop} (i : Nat) (h : subOk m = true) (h' : Runs rd P (frzM i m) Q) : Runs rd P m Q := by
 unfold frzM at h'
 split at h'
 ·rename_i e s n cs hi
  exact R.sub _ h (Sub.frz i e s n cs m.st hi) h'
 ·exact h'
theorem k24 {rd : Option Nat} {P : Program} {m : M} {Q : Exit → St → Prop} (i : Nat) (h' : Runs rd P (frzM i m) Q) (h : subOk m = true := by kernel_rfl) : Runs rd P m Q := _root_.Go.Abs.R.frz i h h'
def nilM (t el s : Nat) (m : M) : M :=
 match m.st.fr.getD t .top with
 | .nil => ⟨m.ks, ⟨m.st.fr.set t (.ref m.st.hp.length), m.st.hp ++ [.list el s 0 []]⟩⟩
 | _ => m
theorem R.nil {rd : Option Nat} {P : Program} {m : M} {Q : Exit → St → Prop} (t el s : Nat) (h : subOk m = true) (h' : Runs rd P (nilM t el s m) Q) : Runs rd P m Q := by
 unfold nilM at h'
 split at h'
 ·rename_i hn
  exact R.sub _ h (Sub.nilRef t el s m.st hn) h'
 ·exact h'
theorem Sub.nilBox (i o el s t : Nat) (cs : List AV) (st : St) (hi : st.hp[i]? = some (.box t cs)) (hn : cs[o]? = some .nil) : Sub st ⟨st.fr, st.hp.set i (.box t (cs.set o (.ref st.hp.length))) ++ [.list el s 0 []]⟩ := by
 rintro Z0 w0 a w ⟨μ, F, hFb, hH, hF, hd, hb⟩
 have hbel : Below w.heap.size w w := Below.refl _ _
 have hil := (List.getElem?_eq_some_iff.1 hi).1
 have h1 := hH.extend1 (zone_new (Z0 := Z0) hb.size hFb) hbel (o := .list el s 0 []) (u := .slice none 0 0) ⟨[], World.ownsRow_nil _ _ _ _, RelL.nil⟩ (fun g hg => by simp [blk] at hg) rfl
 refine ⟨μ ++ [.slice none 0 0], F, hFb, ?_, hF.keep (w' := w) (fun _ _ _ => rfl) (fun i u hu => append_old (μs := [.slice none 0 0]) i u hu), hd.keep (fun j x hj => ⟨?_, fun u hu => append_old j u hu⟩), hb⟩
 rotate_left
 ·have hjl := (List.getElem?_eq_some_iff.1 hj).1
  rw [List.getElem?_append_left (by simpa using hjl), List.getElem?_set_ne (by rintro rfl; rw [hi] at hj; cases hj)]
  exact hj
 have hi1 : (st.hp ++ [AObj.list el s 0 []])[i]? = some (.box t cs) := by rw [List.getElem?_append_left hil]; exact hi
 have hil2 : i < μ.length := by rw [hH.len]; exact hil
 obtain ⟨u, hu⟩ : ∃ u, (μ ++ [Value.slice none 0 0])[i]? = some u := ⟨_, List.getElem?_eq_getElem (by simp; omega)⟩
 have hO := h1.obj i _ u hi1 hu
 obtain ⟨g, xs, rfl, e2, e3, e4⟩ := hO
 have hnew : ObjRel w (Zone Z0 F w0.heap.size) (μ ++ [.slice none 0 0]) w0.heap.size (.pointer (some ⟨g, 0, none⟩)) (.box t (cs.set o (.ref st.hp.length))) := by
  refine ⟨g, xs, rfl, e2, e3, ?_⟩
  obtain ⟨x, hx, hr⟩ := e4.get hn
  have hr2 : Rel w (Zone Z0 F w0.heap.size) (μ ++ [.slice none 0 0]) (.ref st.hp.length) x := by
   simp only [Rel] at hr ⊢
   subst hr
   rw [← hH.len]
   simp
  have := e4.set o hr2
  have e5 : xs.set o x = xs := by
   apply List.ext_getElem?
   intro j
   by_cases hj : j = o
   ·subst hj
    rw [List.getElem?_set_self (List.getElem?_eq_some_iff.1 hx).1, hx]
   ·rw [List.getElem?_set_ne (Ne.symm hj)]
  rwa [e5] at this
 have h2 := h1.update_same (w' := w) (zone_new (Z0 := Z0) hb.size hFb) hi1 hu rfl (fun _ _ _ => rfl) hnew
 rw [List.set_append_left _ _ hil] at h2
 exact h2
def nilB (i o el s : Nat) (m : M) : M :=
 match m.st.hp[i]? with
 | some (.box t cs) => match cs[o]? with
  | some .nil => ⟨m.ks, ⟨m.st.fr, m.st.hp.set i (.box t (cs.set o (.ref m.st.hp.length))) ++ [.list el s 0 []]⟩⟩
  | _ => m
 | _ => m
theorem R.nilB {rd : Option Nat} {P : Program} {m : M} {Q : Exit → St → Prop} (i o el s : Nat) (h : subOk m = true) (h' : Runs rd P (nilB i o el s m) Q) : Runs rd P m Q := by
 unfold Go.Abs.nilB at h'
 split at h'
 ·rename_i t cs hi
  split at h'
  ·rename_i hn
   exact R.sub _ h (Sub.nilBox i o el s t cs m.st hi hn) h'
  ·exact h'
 ·exact h'
end Go.Abs

/-! The machine's rules: functions walked into; functions that change their caller's rows; results that are written no more. -/
namespace Go.Abs
open Go.RowKit
theorem HRel.bury {w : World} {Z : Nat → Prop} {B : Nat} {μ : List Value} {hp : List AObj} (i : Nat) (h : HRel w Z B μ hp) : HRel w Z B μ (hp.set i .dead) := by
 have get : ∀ (j : Nat) oj, (hp.set i .dead)[j]? = some oj → oj = .dead ∨ hp[j]? = some oj := by
  intro j oj hj
  by_cases hji : j = i
  ·subst hji
   rcases Nat.lt_or_ge j hp.length with hlt | hge
   ·rw [List.getElem?_set_self hlt] at hj; simp at hj; exact .inl hj.symm
   ·rw [List.getElem?_eq_none (by simpa using hge)] at hj; cases hj
  ·rw [List.getElem?_set_ne (Ne.symm hji)] at hj
   exact .inr hj
 refine ⟨by simpa using h.len, fun j o u g h1 ha h2 hg => ?_, h.one, fun j oj u h1 h2 => ?_, fun j k oj ok uj uk g hne h1 h2 a1 a2 m1 m2 b1 b2 => ?_⟩
 ·rcases get j o h1 with rfl | h1
  ·cases ha
  ·exact h.zone j o u g h1 ha h2 hg
 ·rcases get j oj h1 with rfl | h1
  ·trivial
  ·exact h.obj j oj u h1 h2
 ·rcases get j oj h1 with rfl | h1
  ·cases a1
  ·rcases get k ok h2 with rfl | h2
   ·cases a2
   ·exact h.sep j k oj ok uj uk g hne h1 h2 a1 a2 m1 m2 b1 b2
def resIn (P : Program) (fn : Func) (st : St) : Option AV :=
 match resVs P st fn.results.toList with
 | some vs => if noMark st.hp then some (oneOf vs) else none
 | none => none
theorem resIn_mark {P : Program} {fn : Func} {st : St} {res : AV} (h : resIn P fn st = some res) : noMark st.hp = true := by
 unfold resIn at h
 split at h
 ·split at h
  ·assumption
  ·cases h
 ·cases h
theorem resIn_run {P : Program} {fn : Func} {w : World} {Z : Nat → Prop} {B : Nat} {μ : List Value} {st : St} {a : Act} {res : AV} (hH : HRel w Z B μ st.hp) (hF : RelL w Z μ st.fr a.tmps.toList) (h : resIn P fn st = some res) :
  ∃ x, (results fn a.tmps).run P w = .ok x w ∧ Rel w Z μ res x := by
 unfold resIn at h
 split at h
 ·rename_i vs hvs
  split at h
  ·cases h
   exact results_run hH hF (resVs_sound hvs)
  ·cases h
 ·cases h
def backM (m : M) (fr : List AV) (v : AV) (hp : List AObj) : M :=
 match m.ks with
 | .ops all (o :: l) _ :: ks => ⟨.ops all l false :: ks, ⟨putF fr o.dst v, hp⟩⟩
 | _ => m
def frameAt (n : Nat) (st : St) : Option (List Value × List AV) :=
 match st.hp[n]? with
 | some (.frame us fr) => some (us, fr)
 | _ => none
def backQ (rd : Option Nat) (P : Program) (fn : Func) (m : M) (n : Nat) (us : List Value) (Q : Exit → St → Prop) : Exit → St → Prop := fun e st' =>
 (e = .normal ∨ e = .ret) ∧ ∃ res fr', resIn P fn st' = some res ∧ frameAt n st' = some (us, fr') ∧ Runs rd P (backM m fr' res (st'.hp.set n .dead)) Q
def opsAt (m : M) : Bool :=
 match m.ks with
 | .ops _ (_ :: _) _ :: _ => true
 | _ => false
section
variable {rd : Option Nat} {P : Program} {m : M} {Q : Exit → St → Prop}
theorem R.enter {f : FuncId} {fn : Func} {c : Code} {avs : List AV} (hf : P.funcs[f]? = some fn) (hb : fn.body = some c) (hnm : (fn.name == "runtime.NumGoroutine") = false) (h : csAt m = some (f, avs)) (ho : opsAt m = true)
  (h' : ∀ us, Runs none P ⟨[.code c], ⟨frameOf fn.ntmps avs, m.st.hp ++ [.frame us m.st.fr]⟩⟩ (backQ rd P fn m m.st.hp.length us Q)) : Runs rd P m Q := by
 have hnmk := csAt_mark h
 obtain ⟨fo, args, tys, caps, hop, hfo, rfl⟩ := csAt_parts h
 have hen := enters_of hf hnm (by rw [hb]; rfl)
 obtain ⟨ks, ⟨fr, hp⟩⟩ := m
 unfold opM headOf at hop
 unfold opsAt at ho
 simp only at hop ho hfo h' hnmk
 rw [runs_iff]
 split at ho
 ·rename_i all o l fl ks'
  simp only at hop
  split at hop
  ·rename_i hw
   simp only [Option.some.injEq] at hop
   simp only [RunsK]
   intro hW
   have hwant := wantH_true hw hW
   intro Z0 w0 a w hS
   obtain ⟨μ, F, hFb, hH, hF, hd, hbel⟩ := hS
   refine wpListIn_step fun K hK => ?_
   rw [wanted_rel hF hwant, if_pos rfl]
   have hE : ∀ y, Rel w (Zone Z0 F w0.heap.size) μ (ev fr y) (a.eval y) := fun y => ev_rel hF y
   have hcv := hfo ▸ hE fo
   simp only [Rel] at hcv
   obtain ⟨cv, hcv, hrc⟩ := hcv
   have hargs' : RelL w (Zone Z0 F w0.heap.size) μ (args.toList.map (ev fr)) (args.toList.map a.eval) := by
    generalize args.toList = l
    induction l with
    | nil => exact RelL.nil
    | cons x l ih => exact RelL.cons (hE x) ih
   have hall := hargs'.append hrc
   have hrun : (execOp a.eval o).run P w = .ok (.enter f (args.toList.map a.eval ++ cv).toArray) w := by
    have e1 : (args.map a.eval ++ cv.toArray) = (args.toList.map a.eval ++ cv).toArray := by
     apply Array.toList_inj.1; simp
    simp only [execOp, hop, resolve, Deferred.ofValue, hcv, Sem.run_bind, Sem.run_pure, Result.andThen_ok, invoke, Array.empty_append]
    rw [e1]
    exact hen _ _
   refine wpIn_of_run (fun c' => by rw [hop]; simp) ?_
   rw [hrun]
   have hlen := hall.length
   have hS2 : Sim Z0 w0 ⟨frameOf fn.ntmps (args.toList.map (ev fr) ++ caps), hp ++ [.frame a.tmps.toList fr]⟩ { tmps := (args.toList.map a.eval ++ cv).toArray ++ Array.replicate (fn.ntmps - (args.toList.map a.eval ++ cv).toArray.size) undef, defers := [] } w := by
    refine ⟨μ ++ [.bool false], F, hFb, hH.extend1 (zone_new hbel.size hFb) (Below.refl _ _) ?_ (fun g hg => by simp [blk] at hg) rfl, ?_, .inl rfl, hbel⟩
    ·exact RelL.keep (w := w) (fun _ _ _ => rfl) (fun i u hu => append_old i u hu) hF
    ·simp only [Array.toList_append, Array.toList_replicate, List.size_toArray, hlen, frameOf]
     refine RelL.append (RelL.keep (w := w) (fun _ _ _ => rfl) (fun i u hu => append_old i u hu) hall) ?_
     generalize fn.ntmps - (args.toList.map (ev fr) ++ caps).length = n
     induction n with
     | zero => exact RelL.nil
     | succ n ih => exact RelL.cons (by simp [Rel]) ih
   have hrun2 := h' a.tmps.toList
   simp only [runs_iff] at hrun2
   simp only [RunsK] at hrun2
   have main : Calls P f (args.toList.map a.eval ++ cv).toArray w fun en w' => ∃ x, en = .returned x ∧ K (a.put o.dst x) w' := by
    refine calls_of_wpIn hf hb ?_
    refine wpIn_mono (hrun2 Z0 w0 _ w hS2) ?_
    have fin : ∀ (e : Exit) (st' : St) (a' : Act) (w' : World), backQ rd P fn ⟨.ops all (o :: l) fl :: ks', ⟨fr, hp⟩⟩ hp.length a.tmps.toList Q e st' → Sim Z0 w0 st' a' w' → a'.defers = [] ∧ ∃ v, (results fn a'.tmps).run P w' = .ok v w' ∧ ∃ x, Ending.returned v = .returned x ∧ K (a.put o.dst x) w' := by
     rintro e st' a' w' ⟨_, res, fr', hres, hfr, hgo⟩ ⟨μ', F', hFb', hH', hF', hd', hbel'⟩
     obtain ⟨x, h1, h2⟩ := resIn_run hH' hF' hres
     unfold frameAt at hfr
     split at hfr
     ·rename_i us fr2 hi
      cases hfr
      have hil : hp.length < μ'.length := by rw [hH'.len]; exact (List.getElem?_eq_some_iff.1 hi).1
      have hfrr : RelL w' (Zone Z0 F' w0.heap.size) μ' fr' a.tmps.toList := hH'.obj _ _ _ hi (List.getElem?_eq_getElem hil)
      refine ⟨hd'.none (resIn_mark hres), x, h1, x, rfl, ?_⟩
      simp only [runs_iff, backM] at hgo
      simp only [RunsK] at hgo
      exact hK _ _ (hgo headW_false Z0 w0 _ w' ⟨μ', F', hFb', hH'.bury _, put_rel hfrr _ h2, by rw [put_defers']; exact .inl (hd.none hnmk), hbel'⟩)
     ·cases hfr
    rintro e a' w' ⟨st', hq, hS'⟩
    cases e with
    | normal => exact fin _ st' a' w' hq hS'
    | ret => exact fin _ st' a' w' hq hS'
    | exit id => exact absurd hq.1 (by simp)
    | goto l => exact absurd hq.1 (by simp)
    | panic ch => exact absurd hq.1 (by simp)
    | outgrown => exact absurd hq.1 (by simp)
   refine upon_enter main ?_
   rintro en w' ⟨x, rfl, hk⟩
   exact ⟨x, rfl, hk⟩
  ·cases hop
 ·cases ho
theorem R.back {fn : Func} {m0 : M} {n : Nat} {us : List Value} (res : AV) (fr' : List AV) (h : (edAt m).isSome = true) (hr : resIn P fn m.st = some res) (hf : frameAt n m.st = some (us, fr')) (h' : Runs rd P (backM m0 fr' res (m.st.hp.set n .dead)) Q) : Runs none P m (backQ rd P fn m0 n us Q) :=
 R.fin h ⟨.inl rfl, res, fr', hr, hf, h'⟩ ⟨.inr rfl, res, fr', hr, hf, h'⟩
def retS (P : Program) (fn : Func) (n : Nat) (us : List Value) (fr : List AV) (res : AV) (hp' : List AObj) : Exit → St → Prop := fun e st' => (e = .normal ∨ e = .ret) ∧ resIn P fn st' = some res ∧ frameAt n st' = some (us, fr) ∧ st'.hp.set n .dead = hp'
theorem CallS.of {f : FuncId} {fn : Func} {c : Code} {args : List AV} {hp : List AObj} {res : AV} {hp' : List AObj} (hf : P.funcs[f]? = some fn) (hb : fn.body = some c) (hnm : (fn.name == "runtime.NumGoroutine") = false)
  (h : ∀ us fr, Runs none P ⟨[.code c], ⟨frameOf fn.ntmps args, hp ++ [.frame us fr]⟩⟩ (retS P fn hp.length us fr res hp')) : CallS P f args hp res hp' := by
 refine ⟨enters_of hf hnm (by rw [hb]; rfl), ?_⟩
 intro Z0 F w0 w μ vs us fr hFb hH hvs hus hbel
 have hlen := hvs.length
 refine calls_of_wpIn hf hb ?_
 have hS : Sim Z0 w0 ⟨frameOf fn.ntmps args, hp ++ [.frame us fr]⟩ { tmps := vs.toArray ++ Array.replicate (fn.ntmps - vs.toArray.size) undef, defers := [] } w := by
  refine ⟨μ ++ [.bool false], F, hFb, hH.extend1 (zone_new hbel.size hFb) (Below.refl _ _) ?_ (fun g hg => by simp [blk] at hg) rfl, ?_, .inl rfl, hbel⟩
  ·exact RelL.keep (w := w) (fun _ _ _ => rfl) (fun i u hu => append_old i u hu) hus
  ·simp only [Array.toList_append, Array.toList_replicate, List.size_toArray, hlen, frameOf]
   refine RelL.append (RelL.keep (w := w) (fun _ _ _ => rfl) (fun i u hu => append_old i u hu) hvs) ?_
   generalize fn.ntmps - args.length = n
   induction n with
   | zero => exact RelL.nil
   | succ n ih => exact RelL.cons (by simp [Rel]) ih
 have hrun2 := h us fr
 simp only [runs_iff] at hrun2
 simp only [RunsK] at hrun2
 refine wpIn_mono (hrun2 Z0 w0 _ w hS) ?_
 have fin : ∀ (e : Exit) (st' : St) (a' : Act) (w' : World), retS P fn hp.length us fr res hp' e st' → Sim Z0 w0 st' a' w' → a'.defers = [] ∧ ∃ v, (results fn a'.tmps).run P w' = .ok v w' ∧ ∃ v' μ' F', Ending.returned v = .returned v' ∧ (∀ b, F' b → w0.heap.size ≤ b ∧ b < w'.heap.size) ∧ HRel w' (Zone Z0 F' w0.heap.size) w0.heap.size μ' hp' ∧ Rel w' (Zone Z0 F' w0.heap.size) μ' res v' ∧ RelL w' (Zone Z0 F' w0.heap.size) μ' fr us ∧ Below w0.heap.size w0 w' := by
  rintro e st' a' w' ⟨_, hres, hfr, hh⟩ ⟨μ', F', hFb', hH', hF', hd', hbel'⟩
  obtain ⟨x, h1, h2⟩ := resIn_run hH' hF' hres
  unfold frameAt at hfr
  split at hfr
  ·rename_i us2 fr2 hi
   cases hfr
   have hil : hp.length < μ'.length := by rw [hH'.len]; exact (List.getElem?_eq_some_iff.1 hi).1
   have hfrr : RelL w' (Zone Z0 F' w0.heap.size) μ' fr us := hH'.obj _ _ _ hi (List.getElem?_eq_getElem hil)
   exact ⟨hd'.none (resIn_mark hres), x, h1, x, μ', F', rfl, hFb', hh ▸ hH'.bury _, h2, hfrr, hbel'⟩
  ·cases hfr
 rintro e a' w' ⟨st', hq, hS'⟩
 cases e with
 | normal => exact fin _ st' a' w' hq hS'
 | ret => exact fin _ st' a' w' hq hS'
 | exit id => exact absurd hq.1 (by simp)
 | goto l => exact absurd hq.1 (by simp)
 | panic ch => exact absurd hq.1 (by simp)
 | outgrown => exact absurd hq.1 (by simp)
theorem R.retS {fn : Func} {n : Nat} {us : List Value} {fr : List AV} {res : AV} {hp' : List AObj} (h : (edAt m).isSome = true) (hr : resIn P fn m.st = some res) (hf : frameAt n m.st = some (us, fr)) (hh : m.st.hp.set n .dead = hp') : Runs rd P m (retS P fn n us fr res hp') :=
 R.fin h ⟨.inl rfl, hr, hf, hh⟩ ⟨.inr rfl, hr, hf, hh⟩
end

mutual
def frzR : AV → AV
 | .own _ s n cs => .lst s n cs
 | .agg cs => .agg (frzRL cs)
 | .tup cs => .tup (frzRL cs)
 | .int k n => .int k n
 | .bool b => .bool b
 | .str s => .str s
 | .nil => .nil
 | .lst s n cs => .lst s n cs
 | .clp s n cs => .clp s n cs
 | .nam u o s n cs => .nam u o s n cs
 | .rptr cs => .rptr cs
 | .ref i => .ref i
 | .ptr i o => .ptr i o
 | .fn f cs => .fn f cs
 | .top => .top
def frzRL : List AV → List AV
 | [] => []
 | c :: cs => frzR c :: frzRL cs
end
mutual
theorem RF.frz {w : World} {Z Z' : Nat → Prop} {B : Nat} (hz : ∀ b, b < w.heap.size → ¬ Z b → ¬ Z' b) : ∀ {c : AV} {v : Value} {bs : List Nat}, (∀ g ∈ bs, ¬ Z' g) → RF w Z B c v bs → RF w Z' B (frzR c) v []
 | .own e s n cs, v, bs, hb, h => by
  simp only [RF, frzR] at h ⊢
  obtain ⟨xs, h1, h2, rfl⟩ := h
  exact ⟨own_lst h1 h2 hz (fun g hg => hb g (by simp [hg])), trivial⟩
 | .agg cs, v, bs, hb, h => by
  simp only [RF, frzR] at h ⊢
  obtain ⟨xs, h1, h2⟩ := h
  exact ⟨xs, h1, RFL.frz hz hb h2⟩
 | .tup cs, v, bs, hb, h => by
  simp only [RF, frzR] at h ⊢
  obtain ⟨xs, h1, h2⟩ := h
  exact ⟨xs, h1, RFL.frz hz hb h2⟩
 | .int _ _, v, bs, hb, h => by simp only [RF, frzR] at h ⊢; exact ⟨h.1, trivial⟩
 | .bool _, v, bs, hb, h => by simp only [RF, frzR] at h ⊢; exact ⟨h.1, trivial⟩
 | .str _, v, bs, hb, h => by simp only [RF, frzR] at h ⊢; exact ⟨h.1, trivial⟩
 | .nil, v, bs, hb, h => by simp only [RF, frzR] at h ⊢; exact ⟨h.1, trivial⟩
 | .top, v, bs, hb, h => by simp only [RF, frzR]
 | .lst s n cs, v, bs, hb, h => by simp only [RF, frzR] at h ⊢; exact ⟨Rel.weak (c := .lst s n cs) hz h.1, trivial⟩
 | .clp s n cs, v, bs, hb, h => by simp only [RF, frzR] at h ⊢; exact ⟨Rel.weak (c := .clp s n cs) hz h.1, trivial⟩
 | .nam u o s n cs, v, bs, hb, h => by simp only [RF, frzR] at h ⊢; exact ⟨Rel.weak (c := .nam u o s n cs) hz h.1, trivial⟩
 | .rptr cs, v, bs, hb, h => by simp only [RF, frzR] at h ⊢; exact ⟨Rel.weak (c := .rptr cs) hz h.1, trivial⟩
 | .ref _, v, bs, hb, h => by simp [RF] at h
 | .ptr _ _, v, bs, hb, h => by simp [RF] at h
 | .fn f cs, v, bs, hb, h => by simp only [RF, frzR] at h ⊢; exact ⟨Rel.weak (c := .fn f cs) hz h.1, trivial⟩
theorem RFL.frz {w : World} {Z Z' : Nat → Prop} {B : Nat} (hz : ∀ b, b < w.heap.size → ¬ Z b → ¬ Z' b) : ∀ {cs : List AV} {vs : List Value} {bs : List Nat}, (∀ g ∈ bs, ¬ Z' g) → RFL w Z B cs vs bs → RFL w Z' B (frzRL cs) vs []
 | [], vs, bs, hb, h => by simp only [RFL, frzRL] at h ⊢; exact ⟨h.1, trivial⟩
 | c :: cs, vs, bs, hb, h => by
  simp only [RFL, frzRL] at h ⊢
  obtain ⟨x, xs, b1, b2, rfl, h2, h3, rfl⟩ := h
  exact ⟨x, xs, [], [], rfl, RF.frz hz (fun g hg => hb g (by simp [hg])) h2, RFL.frz hz (fun g hg => hb g (by simp [hg])) h3, rfl⟩
end
mutual
theorem RF.lt {w : World} {Z : Nat → Prop} {B : Nat} : ∀ {c : AV} {v : Value} {bs : List Nat}, RF w Z B c v bs → ∀ g ∈ bs, g < w.heap.size
 | .own e s n cs, v, bs, h => by
  simp only [RF] at h
  obtain ⟨xs, h1, h2, rfl⟩ := h
  exact ownsRow_blk_lt h1
 | .agg cs, v, bs, h => by simp only [RF] at h; obtain ⟨xs, h1, h2⟩ := h; exact RFL.lt h2
 | .tup cs, v, bs, h => by simp only [RF] at h; obtain ⟨xs, h1, h2⟩ := h; exact RFL.lt h2
 | .int _ _, _, _, h => by simp only [RF] at h; obtain ⟨_, rfl⟩ := h; simp
 | .bool _, _, _, h => by simp only [RF] at h; obtain ⟨_, rfl⟩ := h; simp
 | .str _, _, _, h => by simp only [RF] at h; obtain ⟨_, rfl⟩ := h; simp
 | .nil, _, _, h => by simp only [RF] at h; obtain ⟨_, rfl⟩ := h; simp
 | .top, _, _, h => by simp only [RF] at h; subst h; simp
 | .lst _ _ _, _, _, h => by simp only [RF] at h; obtain ⟨_, rfl⟩ := h; simp
 | .clp _ _ _, _, _, h => by simp only [RF] at h; obtain ⟨_, rfl⟩ := h; simp
 | .nam _ _ _ _ _, _, _, h => by simp only [RF] at h; obtain ⟨_, rfl⟩ := h; simp
 | .rptr _, _, _, h => by simp only [RF] at h; obtain ⟨_, rfl⟩ := h; simp
 | .ref _, _, _, h => by simp [RF] at h
 | .ptr _ _, _, _, h => by simp [RF] at h
 | .fn _ _, _, _, h => by simp only [RF] at h; obtain ⟨_, rfl⟩ := h; simp
theorem RFL.lt {w : World} {Z : Nat → Prop} {B : Nat} : ∀ {cs : List AV} {vs : List Value} {bs : List Nat}, RFL w Z B cs vs bs → ∀ g ∈ bs, g < w.heap.size
 | [], _, _, h => by simp only [RFL] at h; obtain ⟨_, rfl⟩ := h; simp
 | c :: cs, _, _, h => by
  simp only [RFL] at h
  obtain ⟨x, xs, b1, b2, _, h2, h3, rfl⟩ := h
  intro g hg
  rcases List.mem_append.1 hg with hg | hg
  ·exact RF.lt h2 g hg
  ·exact RFL.lt h3 g hg
end
theorem CallA.frz {P : Program} {f : FuncId} {args : List AV} {res : AV} (h : CallA P f args res) : CallA P f args (frzR res) := by
 refine ⟨h.1, fun Z0 w vs hvs => (h.2 Z0 w vs hvs).mono ?_⟩
 rintro e w' ⟨v, bs, F', rfl, hF', hr, hnd, hbf, hbel⟩
 refine ⟨v, [], fun b => F' b ∨ b ∈ bs, rfl, fun b hb => hb.elim (hF' b) (fun h => ⟨RF.ge hr b h, RF.lt hr b h⟩), RF.frz (fun b _ => zone_more b) (fun g hg hz => ?_) hr, List.nodup_nil, by simp, hbel⟩
 have := RF.ge hr g hg
 exact hz.elim (fun h => by omega) (fun h => h.2 (.inr hg))
end Go.Abs

/-! Frames by their slots; words for the sums of bits; rows of rows. -/
namespace Go.Abs
open Go.RowKit
def slotA (i : Nat) : List (Nat × AV) → AV
 | [] => .top
 | (j, v) :: l => if i = j then v else slotA i l
def frmA : Nat → Nat → List (Nat × AV) → List AV
 | 0, _, _ => []
 | n + 1, i, l => slotA i l :: frmA n (i + 1) l
def frm (n : Nat) (l : List (Nat × AV)) : List AV := frmA n 0 l
def lstA {α : Type} (E : α → List AV) (s : Nat) (xs : List α) : AV := .lst s xs.length (rows E xs)
def ownA {α : Type} (E : α → List AV) (e s : Nat) (xs : List α) : AV := .own e s xs.length (rows E xs)
def rowA {α : Type} (E : α → List AV) (e s : Nat) (xs : List α) : AObj := .list e s xs.length (rows E xs)
def band (a b : Int) : Int := bits .and .i64 a b
def bor (a b : Int) : Int := bits .or .i64 a b
def bnot (a b : Int) : Int := bits .andNot .i64 a b
theorem eI_one (x : Int) : (eI x).all AV.one = true := rfl
theorem eLI_one (x : List Int) : (eLI x).all AV.one = true := rfl
theorem eI_closed (x : Int) : closedL (eI x) = true := rfl
theorem own_closed {α : Type} {E : α → List AV} (h : ∀ x, closedL (E x) = true) (e s n : Nat) (xs : List α) : (AV.own e s n (rows E xs)).closed = true := by
 simp [AV.closed, closedL_rows h]
theorem ownA_closed {α : Type} {E : α → List AV} (h : ∀ x, closedL (E x) = true) (e s : Nat) (xs : List α) : (ownA E e s xs).closed = true := own_closed h e s _ xs
theorem dT {p : Prop} [Decidable p] (h : p) : decide p = true := decide_eq_true h
theorem dF {p : Prop} [Decidable p] (h : ¬ p) : decide p = false := decide_eq_false h
theorem nT {p : Prop} [Decidable p] (h : ¬ p) : (!decide p) = true := by simp [h]
theorem nF {p : Prop} [Decidable p] (h : p) : (!decide p) = false := by simp [h]
theorem bnT {b : Bool} (h : b = false) : (!b) = true := by simp [h]
theorem bnF {b : Bool} (h : b = true) : (!b) = false := by simp [h]
theorem R.condM {rd : Option Nat} {P : Program} {m : M} {Q : Exit → St → Prop} (b : Bool) (h : cdAt m = some (!b)) (ht : b = false → Runs rd P (branch true m) Q) (hf : b = true → Runs rd P (branch false m) Q) : Runs rd P m Q :=
 R.condB _ h (fun e => ht (by simpa using e)) (fun e => hf (by simpa using e))
theorem k25 {rd : Option Nat} {P : Program} {m : M} {Q : Exit → St → Prop} (b : Bool) (ht : b = false → Runs rd P (branch true m) Q) (hf : b = true → Runs rd P (branch false m) Q) (h : cdAt m = some (!b) := by kernel_rfl) : Runs rd P m Q := _root_.Go.Abs.R.condM b h ht hf
end Go.Abs

/-! The machine's rules: nil slices, append of a count, cells of records. -/
namespace Go.Abs
open Go.RowKit
section
variable {rd : Option Nat} {P : Program} {m : M} {Q : Exit → St → Prop} {α : Type}
def nlAt (P : Program) (m : M) : Option Nat :=
 match opM m with
 | some (.binOp .eql t x y _) => match ev m.st.fr x, ev m.st.fr y, elemB P t with
  | .lst s n _, .nil, some (_, s') => if s' = s ∧ s ≠ 0 then some n else none
  | _, _, _ => none
 | _ => none
theorem run_eqNil {P : Program} {t el s : Nat} (h : elemB P t = some (el, s)) (A : Option Addr) (n c : Nat) (w : World) : (Op.equal t (.slice A n c) (.slice none 0 0)).run P w = .ok A.isNone w := by
 obtain ⟨hu, _⟩ := elem_parts h
 have h2 : ∀ d : Nat, (Op.equalIn (d + 1) t (.slice A n c) (.slice none 0 0)).run P w = .ok A.isNone w := fun d => by
  simp only [Op.equalIn, Sem.run_bind, run_underlying hu, Result.andThen_ok]
  cases A <;> rfl
 simp only [Op.equal, Op.maxDepth, h2 9999]
theorem R.isNil (n : Nat) (h : nlAt P m = some n) (ho : opsAt m = true) (ht : n = 0 → Runs rd P (putM m none (.bool true) m.st.hp) Q) (hf : Runs rd P (putM m none (.bool false) m.st.hp) Q) : Runs rd P m Q := by
 obtain ⟨ks, ⟨fr, hp⟩⟩ := m
 unfold nlAt opM headOf at h
 unfold opsAt at ho
 simp only [putM, runs_iff] at h ho ht hf ⊢
 split at ho
 ·rename_i all o l fl ks'
  simp only [RunsK] at ht hf ⊢
  intro hW Z0 w0 a w hS
  split at h
  ·rename_i t x y ty hop
   split at hop
   ·rename_i all' o' f' t' heq
    simp only [Option.some.injEq, Prod.mk.injEq] at heq
    obtain ⟨rfl, rfl, rfl, _⟩ := heq
    split at hop
    ·rename_i hw
     simp only [Option.some.injEq] at hop
     have hwant := wantH_true hw hW
     obtain ⟨μ, F, hFb, hH, hF, hd, hbel⟩ := hS
     refine wpListIn_step fun K hK => ?_
     rw [wanted_rel hF hwant, if_pos rfl]
     split at h
     ·rename_i s n0 cs el s' hx hy hel
      split at h
      ·rename_i hs
       obtain ⟨rfl, hs0⟩ := hs
       simp only [Option.some.injEq] at h
       subst h
       have hxv := hx ▸ ev_rel hF x
       have hyv := hy ▸ ev_rel hF y
       simp only [Rel] at hxv hyv
       obtain ⟨A, c, xs, hxv, hcl, hnc, hrd, hr⟩ := hxv
       have hlen := hr.length
       have hrun : (execOp a.eval o).run P w = .ok (.value (.bool A.isNone)) w := by
        simp only [execOp, hop, hxv, hyv, eqGuard_at_slice, binOp, Sem.run_bind, Sem.run_pure, Result.andThen_ok, run_eqNil hel]
       refine wpIn_of_run (fun c' => by rw [hop]; simp) ?_
       rw [hrun]
       have fin : ∀ b : Bool, A.isNone = b → (∀ (Z0 : Nat → Prop) (w0 : World) (a : Act) (w : World), Sim Z0 w0 ⟨putF fr o.dst (.bool b), hp⟩ a w → wpListIn (Fc rd) 0 P all (fun e a' w' => ∃ st', RunsK rd P Q ks' e st' ∧ Sim Z0 w0 st' a' w') l a w) → K (a.put o.dst (.bool A.isNone)) w := by
        intro b hb hg
        exact hK _ _ (hg Z0 w0 _ w ⟨μ, F, hFb, hH, put_rel hF _ (by simp [Rel, hb]), by rw [put_defers']; exact hd, hbel⟩)
       cases hA : A.isNone with
       | true =>
        have hn : n0 = 0 := by
         rcases Nat.eq_zero_or_pos n0 with h | h
         ·exact h
         ·exfalso
          have : 0 < n0 * s' := Nat.mul_pos h (by omega)
          have hne : xs ≠ [] := by rintro rfl; simp at hlen; omega
          obtain ⟨ad, h1, _⟩ := hrd hne
          rw [h1] at hA
          cases hA
        rw [← hA]
        exact fin true hA (ht hn headW_false)
       | false =>
        rw [← hA]
        exact fin false hA (hf headW_false)
      ·cases h
     ·cases h
    ·cases hop
   ·cases hop
  ·cases h
 ·cases ho
theorem rows_setE {E : α → List AV} {s : Nat} (hE : ∀ x, (E x).length = s) (xs : List α) (d : α) (j off : Nat) (v : AV) (y : α) (hj : j < xs.length) (ho : off < s) (hy : (E (xs.getD j d)).set off v = E y) : (rows E xs).set (j * s + off) v = rows E (xs.set j y) := by
 induction xs generalizing j with
 | nil => simp at hj
 | cons x xs ih =>
  cases j with
  | zero =>
   simp only [List.getD_cons_zero] at hy
   simp only [Nat.zero_mul, Nat.zero_add, rows, List.set_cons_zero]
   rw [List.set_append_left _ _ (by rw [hE]; exact ho), hy]
  | succ j =>
   have e : (j + 1) * s + off = (E x).length + (j * s + off) := by rw [hE, Nat.add_mul]; omega
   simp only [rows, List.set_cons_succ, e]
   rw [List.set_append_right _ _ (by omega), Nat.add_sub_cancel_left, ih j (by simpa using hj) (by simpa using hy)]
theorem R.stF (E : α → List AV) (i el s : Nat) (xs : List α) (d : α) (j off : Nat) (v : AV) (y : α) (h : stAt P m = some (i, el, s, xs.length, rows E xs, j * s + off, v)) (hE : ∀ x, (E x).length = s) (hj : j < xs.length) (ho : off < s) (hy : (E (xs.getD j d)).set off v = E y) (ht : writeOk m = true)
  (h' : Runs rd P (putM m none .top (m.st.hp.set i (.list el s (xs.set j y).length (rows E (xs.set j y))))) Q) : Runs rd P m Q := by
 unfold stAt at h
 split at h
 ·rename_i t p x hop
  split at h
  ·rename_i i0 o0 hx hsz
   split at h
   ·rename_i el0 s0 n0 cs hi
    split at h
    ·rename_i hc
     simp only [Bool.and_eq_true] at hc
     simp only [Option.some.injEq, Prod.mk.injEq] at h
     obtain ⟨rfl, rfl, rfl, rfl, rfl, rfl, h1⟩ := h
     have hlt : j * s0 + off < xs.length * s0 := by
      have : (j + 1) * s0 ≤ xs.length * s0 := Nat.mul_le_mul_right _ hj
      rw [Nat.add_mul] at this
      omega
     have h2 := EffW.store1 (P := P) (e := ev m.st.fr) (hp := m.st.hp) (t := t) (p := p) (x := x) i0 (j * s0 + off) _ hx hi hsz hc.1 (by simp only [AObj.cells]; rw [rows_length hE]; exact hlt) (by simp [hc.2])
     simp only [AObj.cells, AObj.withCells, h1] at h2
     rw [rows_setE hE xs d j off v y hj ho hy] at h2
     rw [List.length_set] at h'
     exact R.effW hop h2 ht h'
    ·cases h
   ·cases h
  ·cases h
 ·cases h
theorem R.mkC (E : α → List AV) (d : α) (el b n c : Nat) (ni ci : Int) (h : mkAt P m = some (el, (E d).length, E d, b, ni, ci)) (hn : ni = (n : Int)) (hc : ci = (c : Int)) (hnc : n ≤ c) (h0 : 0 < b) (hb : c * b ≤ 140737488355328) (ht : quietOk m [.list el (E d).length 0 []] = true)
  (h' : Runs rd P (putM m none (.ref m.st.hp.length) (m.st.hp ++ [.list el (E d).length (List.replicate n d).length (rows E (List.replicate n d))])) Q) : Runs rd P m Q := by
 unfold mkAt at h
 split at h
 ·rename_i t x y hop
  split at h
  ·rename_i el0 s0 zs0 b0 k n0 k' n0' hrow hx hy
   simp only [Option.some.injEq, Prod.mk.injEq] at h
   obtain ⟨rfl, rfl, rfl, rfl, rfl, rfl⟩ := h
   subst hn
   subst hc
   rw [← zerosA_rows, List.length_replicate] at h'
   refine R.effM hop (.inl (.makeSliceC el0 (E d).length b0 n c k k' (E d) hrow hx hy hnc (by rw [Nat.mul_comm]; exact hb) (app_bound hb h0))) ?_ h'
   unfold quietOk at ht ⊢
   split at ht <;> simp_all
  ·cases h
 ·cases h
end
theorem CallA.law {P : Program} {f : FuncId} {args : List AV} {w : World} {vs : List Value} (h : CallA P f args (.bool true)) (hr : RelL w (Zone (fun _ => False) NoF w.heap.size) [] args vs) :
  Calls P f vs.toArray w fun e w' => e = .returned (.bool true) ∧ Go.RowKit.Below w.heap.size w w' := by
 refine (h.2 (fun _ => False) w vs hr).mono ?_
 rintro e w' ⟨v, bs, F', rfl, _, hv, _, _, hb⟩
 simp only [RF] at hv
 obtain ⟨rfl, _⟩ := hv
 exact ⟨rfl, hb.toKit⟩
end Go.Abs

/-! The machine's rules: drawn regions in every order; places where ways meet again. -/
namespace Go.Abs
open Go.RowKit
theorem wpOp_of_one {F : Fence} {n : Nat} {P : Program} {ops : Array Oper} {Q1 Q2 : Exit → Act → World → Prop} {i : Nat} {o : Oper} {K : Act → World → Prop} {a : Act} {w : World} (ho : ops[i]? = some o) (h : wpListIn F n P ops Q1 [o] a w)
  (hN : ∀ a w, Q1 .normal a w → K a w) (hX : ∀ e a w, e ≠ .normal → Q1 e a w → Q2 e a w) : wpOpIn F n P ops Q2 i K a w := by
 have hL : LetsOut Q1 → LetsOut Q2 := fun ⟨a, w, h⟩ => ⟨a, w, hX _ _ _ (by simp) h⟩
 unfold wpOpIn
 simp only [ho]
 unfold wpListIn at h
 split
 ·rename_i hw
  rw [if_pos hw] at h
  unfold Oper.wpIn at *
  refine ⟨h.1, ?_⟩
  have h := h.2
  generalize (o.semAt F.round a.eval).run P w = r at *
  cases r with
  | ok x w' =>
   cases x <;> simp only [Oper.uponIn] at h ⊢
   case enter => exact ⟨h.1, CallsIn.mono h.2 (fun e w'' he => by cases e <;> first | exact hN _ _ he | exact hX _ _ _ (by simp) he | exact hL he)⟩
   case row => exact ⟨h.1, RowsIn.mono h.2 (fun _ _ he => hN _ _ he)⟩
   case round => exact ⟨h.1, RoundIn.mono h.2 (fun e w'' he => by cases e <;> first | exact hN _ _ he | exact hX _ _ _ (by simp) he | exact hL he)⟩
   all_goals exact hN _ _ h
  | halt x w' => cases x <;> simp only [Oper.uponIn] at h ⊢ <;> first | exact h | exact hX _ _ _ (by simp) h
 ·rename_i hw
  rw [if_neg hw] at h
  exact ⟨h.1, hN _ _ h.2⟩
section
variable {rd : Option Nat} {P : Program} {m : M} {Q : Exit → St → Prop}
theorem runsK_panic {c : List PanicEntry} : ∀ (ks : List Kont) (st : St), RunsK rd P Q ks (.panic c) st → Q (.panic c) st
 | [], _, h => h
 | .code _ :: ks, st, h => runsK_panic ks st h
 | .ops _ _ _ :: ks, st, h => runsK_panic ks st h
 | .drw _ _ _ _ :: ks, st, h => runsK_panic ks st h
 | .block _ :: ks, st, h => runsK_panic ks st h
 | .stop _ :: ks, st, h => runsK_panic ks st h
 | .any _ _ _ :: ks, st, h => runsK_panic ks st h
def NoPanic (Q : Exit → St → Prop) : Prop := ∀ c st, ¬ Q (.panic c) st
theorem np_ret (P : Program) (fn : Func) (res : AV) : NoPanic (retQ P fn res) := fun _ _ h => h
def anyAt (m : M) : Bool :=
 match m.ks with
 | .code (.region _ _ true) :: _ => true
 | _ => false
def anyM (m : M) : M :=
 match m.ks with
 | .code (.region _ ops true) :: ks => ⟨.any ops (Array.replicate ops.size false) ops.size :: ks, m.st⟩
 | _ => m
theorem R.any (hm : P.follows .mixedOrders = true) (h : anyAt m = true) (h' : Runs rd P (anyM m) Q) : Runs rd P m Q := by
 obtain ⟨ks, st⟩ := m
 unfold anyAt at h
 simp only [runs_iff, anyM] at h h' ⊢
 split at h
 ·simp only [RunsK] at h' ⊢
  intro Z0 w0 a w hS
  exact wpIn_region_any hm (h' Z0 w0 a _ (hS.drew _ (Nat.le_succ _)))
 ·cases h
def readyAt (m : M) : Option (List Nat) :=
 match m.ks with
 | .any ops listed _ :: _ => some (Region.ready .any ops listed)
 | _ => none
theorem R.any0 (h : readyAt m = some []) (h' : Runs rd P ⟨m.ks.tail, m.st⟩ Q) : Runs rd P m Q := by
 obtain ⟨ks, st⟩ := m
 unfold readyAt at h
 simp only [runs_iff] at h h' ⊢
 split at h
 ·simp only [Option.some.injEq] at h
  intro Z0 w0 a w hS
  exact wpAnyIn_done h ⟨st, h', hS⟩ _
 ·cases h
theorem k26 (h' : Runs rd P ⟨m.ks.tail, m.st⟩ Q) (h : readyAt m = some [] := by kernel_rfl) : Runs rd P m Q := _root_.Go.Abs.R.any0 h h'
def pickM (i : Nat) (m : M) : M :=
 match m.ks with
 | .any ops listed n :: ks => match ops[i]? with
  | some o => ⟨.ops ops [o] false :: .any ops (listed.setIfInBounds i true) (n - 1) :: ks, m.st⟩
  | none => m
 | _ => m
def roomAt (m : M) : Bool :=
 match m.ks with
 | .any _ _ (_ + 1) :: _ => true
 | _ => false
theorem R.anyB (rs : List Nat) (h : readyAt m = some rs) (hn : rs ≠ []) (hr : roomAt m = true) (h' : ∀ i ∈ rs, Runs rd P (pickM i m) Q) : Runs rd P m Q := by
 obtain ⟨ks, st⟩ := m
 unfold readyAt at h
 unfold roomAt at hr
 simp only [runs_iff] at h h' ⊢
 split at h
 ·rename_i ops listed n ks'
  simp only [Option.some.injEq] at h
  simp only at hr
  split at hr
  ·rename_i heq
   cases heq
   intro Z0 w0 a w hS
   refine wpAnyIn_all h hn fun i hi => ?_
   have h1 := h' i hi
   unfold pickM at h1
   have him : i ∈ Region.ready .any ops listed := by rw [h]; exact hi
   obtain ⟨_, o, ho, _⟩ := mem_ready.1 him
   simp only [ho, RunsK] at h1
   refine wpOp_of_one ho (h1 headW_false Z0 w0 a w hS) (fun a' w' ⟨st', hq, hs⟩ => hq Z0 w0 a' w' hs) (fun e a' w' hne ⟨st', hq, hs⟩ => ⟨st', ?_, hs⟩)
   cases e <;> first | exact absurd rfl hne | exact hq
  ·cases hr
 ·cases h
theorem R.any1 (i : Nat) (h : readyAt m = some [i]) (hr : roomAt m = true) (h' : Runs rd P (pickM i m) Q) : Runs rd P m Q :=
 R.anyB [i] h (by simp) hr fun k hk => by simp only [List.mem_cons, List.not_mem_nil, or_false] at hk; subst hk; exact h'
theorem k27 (i : Nat) (h' : Runs rd P (pickM i m) Q) (h : readyAt m = some [i] := by kernel_rfl) (hr : roomAt m = true := by kernel_rfl) : Runs rd P m Q := _root_.Go.Abs.R.any1 i h hr h'
theorem R.any2 (i j : Nat) (h : readyAt m = some [i, j]) (hr : roomAt m = true) (hi : Runs rd P (pickM i m) Q) (hj : Runs rd P (pickM j m) Q) : Runs rd P m Q :=
 R.anyB [i, j] h (by simp) hr fun k hk => by simp only [List.mem_cons, List.not_mem_nil, or_false] at hk; rcases hk with rfl | rfl <;> assumption
theorem k28 (i j : Nat) (hi : Runs rd P (pickM i m) Q) (hj : Runs rd P (pickM j m) Q) (h : readyAt m = some [i, j] := by kernel_rfl) (hr : roomAt m = true := by kernel_rfl) : Runs rd P m Q := _root_.Go.Abs.R.any2 i j h hr hi hj
theorem R.any3 (i j l : Nat) (h : readyAt m = some [i, j, l]) (hr : roomAt m = true) (hi : Runs rd P (pickM i m) Q) (hj : Runs rd P (pickM j m) Q) (hl : Runs rd P (pickM l m) Q) : Runs rd P m Q :=
 R.anyB [i, j, l] h (by simp) hr fun k hk => by simp only [List.mem_cons, List.not_mem_nil, or_false] at hk; rcases hk with rfl | rfl | rfl <;> assumption
theorem k29 (i j l : Nat) (hi : Runs rd P (pickM i m) Q) (hj : Runs rd P (pickM j m) Q) (hl : Runs rd P (pickM l m) Q) (h : readyAt m = some [i, j, l] := by kernel_rfl) (hr : roomAt m = true := by kernel_rfl) : Runs rd P m Q := _root_.Go.Abs.R.any3 i j l h hr hi hj hl
def freeAt (m : M) (i : Nat) : Option Operand :=
 match m.ks with
 | .any ops listed (_ + 1) :: _ => match ops[i]? with
  | some o => match o.op with
   | .move x => if o.guard.isNone && Region.noSelect ops && Region.free .any ops listed i && (Region.ready .any ops listed).contains i then some x else none
   | _ => none
  | none => none
 | _ => none
def moveM (i : Nat) (m : M) : M :=
 match m.ks with
 | .any ops listed n :: ks => match ops[i]? with
  | some o => match o.op with
   | .move x => ⟨.any ops (listed.setIfInBounds i true) (n - 1) :: ks, ⟨putF m.st.fr o.dst (ev m.st.fr x), m.st.hp⟩⟩
   | _ => m
  | none => m
 | _ => m
theorem R.anyF (i : Nat) (h : (freeAt m i).isSome = true) (np : NoPanic Q) (h' : Runs none P (moveM i m) Q) : Runs none P m Q := by
 obtain ⟨ks, ⟨fr, hp⟩⟩ := m
 simp only [runs_iff] at h' ⊢
 unfold freeAt at h
 simp only at h
 split at h
 ·rename_i ops listed n ks'
  split at h
  ·rename_i o ho
   split at h
   ·rename_i x hx
    split at h
    ·rename_i hc
     simp only [Bool.and_eq_true] at hc
     obtain ⟨⟨⟨hg, hs⟩, hf⟩, hr⟩ := hc
     simp only [moveM, ho, hx, RunsK] at h' ⊢
     intro Z0 w0 a w hS
     have hW : Region.wanted o (yielded ops a.tmps) = true := by
      unfold Region.wanted
      rw [Option.isNone_iff_eq_none.1 hg]
     have hrun : ∀ w, (execOp a.eval o).run P w = .ok (.value (a.eval x)) w := fun w => by
      unfold execOp
      rw [hx]
      rfl
     have he : effE P (ev fr) hp o.op = some (ev fr x, []) := by rw [hx]; rfl
     have hw' : WantedA ops o fr := wantedE_true (by unfold wantedE; rw [Option.isNone_iff_eq_none.1 hg])
     have h1 := StepR.sound (rd := none) (K := fun a' w' => Sim Z0 w0 ⟨putF fr o.dst (ev fr x), hp⟩ a' w') (Q := fun _ _ _ => True) (st' := ⟨putF fr o.dst (ev fr x), hp⟩) (by simpa using StepR.eff (st := ⟨fr, hp⟩) hw' (effE_sound he)) hS (fun _ _ h => h)
     rw [if_pos hW] at h1
     unfold Oper.wpIn at h1
     have h1 := h1.2
     rw [show (Fc none).round = none from rfl, Oper.semAt_none, hrun w] at h1
     simp only [Oper.uponIn] at h1
     exact wpAnyIn_take rfl ho hs hf hr (fun c a w ⟨st', hq, _⟩ => absurd (runsK_panic ks' st' hq) (np c st')) ⟨.inl ⟨hW, hrun⟩, fun w => by unfold Oper.about; rw [hx]⟩ (h' Z0 w0 _ w h1)
    ·cases h
   ·cases h
  ·cases h
 ·cases h
theorem k30 (i : Nat) (h' : Runs none P (moveM i m) Q) (h : (freeAt m i).isSome = true := by kernel_rfl) (np : NoPanic Q := by exact np_meet _) : Runs none P m Q := _root_.Go.Abs.R.anyF i h np h'
end
end Go.Abs

/-! Given arguments as abstract values: rows of integers, rows of pairs, structs. -/
namespace Go.Abs
open Go.RowKit Go.ChangeShapes Go.WideShapes Go.Deep

theorem rows_setN {α : Type} {E : α → List AV} {s : Nat} (hE : ∀ x, (E x).length = s) (xs : List α) (j : Nat) (y : α) (hj : j < xs.length) : setMany (rows E xs) (j * s) (E y) = rows E (xs.set j y) := by
 induction xs generalizing j with
 | nil => simp at hj
 | cons x xs ih =>
  cases j with
  | zero =>
   simp only [setMany, Nat.zero_mul, Nat.zero_add, List.take_zero, List.nil_append, rows, List.set_cons_zero]
   rw [hE y, ← hE x, List.drop_left]
  | succ j =>
   have e : (j + 1) * s = (E x).length + j * s := by rw [hE, Nat.add_mul]; omega
   have := ih j (by simpa using hj)
   simp only [setMany] at this ⊢
   simp only [rows, List.set_cons_succ]
   rw [e, List.take_length_add_append, Nat.add_assoc, List.drop_length_add_append, ← this]
   simp only [List.append_assoc]
section
variable {rd : Option Nat} {P : Program} {m : M} {Q : Exit → St → Prop} {α : Type}
def stnAt (P : Program) (m : M) : Option (Nat × Nat × Nat × Nat × List AV × Nat × List AV) :=
 match opM m with
 | some (.store t p x) => match ev m.st.fr p, ev m.st.fr x, sizeB P t with
  | .ptr i o, .agg vs, some k => match m.st.hp[i]? with
   | some (.list el s n cs) => if decide (k = vs.length) && vs.all AV.one && leafyL vs && !vs.isEmpty then some (i, el, s, n, cs, o, vs) else none
   | _ => none
  | _, _, _ => none
 | _ => none
theorem R.stN (E : α → List AV) (i el s : Nat) (xs : List α) (j : Nat) (y : α) (h : stnAt P m = some (i, el, s, xs.length, rows E xs, j * s, E y)) (hE : ∀ x, (E x).length = s) (hj : j < xs.length) (ht : writeOk m = true)
  (h' : Runs rd P (putM m none .top (m.st.hp.set i (.list el s (xs.set j y).length (rows E (xs.set j y))))) Q) : Runs rd P m Q := by
 unfold stnAt at h
 split at h
 ·rename_i t p x hop
  split at h
  ·rename_i i0 o0 vs k hx hv hsz
   split at h
   ·rename_i el0 s0 n0 cs hi
    split at h
    ·rename_i hc
     simp only [Bool.and_eq_true, decide_eq_true_eq] at hc
     obtain ⟨⟨⟨hk, hone⟩, hleaf⟩, hne⟩ := hc
     simp only [Option.some.injEq, Prod.mk.injEq] at h
     obtain ⟨rfl, rfl, rfl, rfl, rfl, rfl, rfl⟩ := h
     have hlt : j * s0 + (E y).length ≤ xs.length * s0 := by
      have : (j + 1) * s0 ≤ xs.length * s0 := Nat.mul_le_mul_right _ hj
      rw [Nat.add_mul] at this
      rw [hE]
      omega
     have h2 := EffW.storeN (P := P) (e := ev m.st.fr) (hp := m.st.hp) (t := t) (p := p) (x := x) i0 (j * s0) _ (E y) hx hv hi (by rw [hsz, hk]) (by simpa using hone) (by simp only [AObj.cells]; rw [rows_length hE]; exact hlt) (by simpa using hne) (by simp [hleaf])
     simp only [AObj.cells, AObj.withCells] at h2
     rw [rows_setN hE xs j y hj] at h2
     rw [List.length_set] at h'
     exact R.effW hop h2 ht h'
    ·cases h
   ·cases h
  ·cases h
 ·cases h
end
section
variable {H : Type} {enc : TypeId × Value → H} {P : Program} {w : World} {base : Nat} {spare : Nat → Bool} {held : Bool}
def Z0 (w : World) : Nat → Prop := Zone (fun _ => False) NoF w.heap.size
theorem not_Z0 {w : World} {ad : Addr} {u : Value} (h : w.cell? ad = some u) : ¬ Z0 w ad.block := by
 intro hz
 rcases hz with ⟨_, h1⟩ | ⟨h1, _⟩
 ·exact h1
 ·unfold World.cell? at h
  rw [Array.getElem?_eq_none_iff.2 h1] at h
  simp at h
theorem choose_list {α : Type} [Inhabited α] {n : Nat} {p : Nat → α → Prop} (h : ∀ i, i < n → ∃ x, p i x) : ∃ xs : List α, xs.length = n ∧ ∀ i, i < n → p i (xs.getD i default) := by
 induction n with
 | zero => exact ⟨[], rfl, fun i hi => by omega⟩
 | succ n ih =>
  obtain ⟨xs, h1, h2⟩ := ih fun i hi => h i (by omega)
  obtain ⟨x, hx⟩ := h n (by omega)
  refine ⟨xs ++ [x], by simp [h1], fun i hi => ?_⟩
  by_cases hin : i < n
  ·rw [List.getD_eq_getElem?_getD, List.getElem?_append_left (by omega), ← List.getD_eq_getElem?_getD]
   exact h2 i hin
  ·rw [show i = n by omega, List.getD_eq_getElem?_getD, List.getElem?_append_right (by omega), h1]
   simpa using hx
theorem RelL_ints {Z : Nat → Prop} {μ : List Value} : ∀ xs : List Int, RelL w Z μ (rows eI xs) (xs.map fun n => .int .i64 n)
 | [] => RelL.nil
 | x :: xs => RelL.cons (by simp [AI, Rel]) (RelL_ints xs)
theorem trod_ints {t e : TypeId} {fuel : Nat} {cs : List Value} {x : DataW H × List MemPlace} (ht : P.underlying t = some (.slice e)) (he : P.underlying e = some (.int .i64)) (hc : P.cellsOf e = 1)
  (h : DataW.trod enc P w base spare held fuel t cs = some x) : ∃ v, cs = [v] ∧ ∃ xs : List Int, xs.length ≤ maxLen ∧ Rel w (Z0 w) [] (LI xs) v := by
 rcases open_slice1 ht hc h with ⟨rfl, _⟩ | ⟨a, len, cap, m, n, V, D, Pl, rfl, _, hl, hm, hmm, _, hx⟩
 ·exact ⟨_, rfl, [], Nat.zero_le _, none, 0, [], rfl, rfl, Nat.le_refl _, fun h => absurd rfl h, RelL.nil⟩
 ·have hlm : len ≤ m := by rw [hmm]; split <;> omega
  obtain ⟨xs, h1, h2⟩ := choose_list (n := len) (p := fun i y => w.cell? (a.add i) = some (.int .i64 y)) fun i hi => by
   obtain ⟨g1, g2⟩ := hx i (by omega)
   obtain ⟨y, hy, _⟩ := DataW.trod_int he g2
   simp at hy
   exact ⟨y, by rw [g1, hy]⟩
  refine ⟨_, rfl, xs, by omega, ⟨some a, cap, xs.map fun n => .int .i64 n, by rw [h1], by rw [rows_length eI_len, h1], by omega, fun hne => ⟨a, rfl, ?_, fun j u hj => ?_⟩, RelL_ints xs⟩⟩
  ·have : 0 < len := by
    rw [← h1]
    cases xs with
    | nil => exact absurd rfl hne
    | cons x xs => simp
   have := not_Z0 (h2 0 this)
   simpa [Addr.add] using this
  ·rw [List.getElem?_map, Option.map_eq_some_iff] at hj
   obtain ⟨y, hy, rfl⟩ := hj
   have hj := (List.getElem?_eq_some_iff.1 hy).1
   rw [h2 j (by omega), List.getD_eq_getElem?_getD, hy]
   rfl
theorem open_int_row {r : Reach} {b0 : Nat} {t e : TypeId} {f0 f1 : Field} {v : Value} {d : DataW H} {ps : List MemPlace} (ht : P.underlying t = some (.struct #[f0, f1])) (ct : P.cellsOf t = 2)
  (o0 : f0.offset = 0) (o1 : f1.offset = 1) (c0 : P.cellsOf f0.type = 1) (c1 : P.cellsOf f1.type = 1) (u0 : P.underlying f0.type = some (.int .i64)) (u1 : P.underlying f1.type = some (.slice e)) (ue : P.underlying e = some (.int .i64)) (ce : P.cellsOf e = 1)
  (hval : Value.okWide P w r b0 t v) (hd : DataW.Trod enc P w base spare held t v d ps) : ∃ (n : Int) (xs : List Int), xs.length ≤ maxLen ∧ Rel w (Z0 w) [] (.agg [AI n, LI xs]) v := by
 obtain ⟨cs, rfl, hcs⟩ := okWide_struct ht hval
 rw [ct] at hcs
 obtain ⟨fuel, hf⟩ := hd
 simp only [Value.cells] at hf
 obtain ⟨ys, k, _, _, _, hyl, hfs⟩ := DataW.trod_struct ht hf
 obtain ⟨cl⟩ := cs
 match ys, hyl, cl, hcs with
 | [y0, y1], _, [v0, v1], _ =>
  have g0 := hfs 0 f0 rfl
  have g1 := hfs 1 f1 rfl
  simp [o0, o1, c0, c1] at g0 g1
  obtain ⟨n, hn, _⟩ := DataW.trod_int u0 g0
  simp at hn
  subst hn
  obtain ⟨v, hv, xs, hx, hr⟩ := trod_ints u1 ue ce g1
  simp at hv
  subst hv
  exact ⟨n, xs, hx, [_, _], rfl, RelL.cons (by simp [AI, Rel]) (RelL.cons hr RelL.nil)⟩
end
end Go.Abs

/-! Numbers, masks, boxes. -/
namespace Go.Proofs.YtehbliocfpppoaaGreat
open Go.RowKit Go.Abs
def inR (n lo hi : Int) : Bool := decide (lo ≤ n) && decide (n ≤ hi)
theorem inR_iff (n lo hi : Int) : inR n lo hi = true ↔ lo ≤ n ∧ n ≤ hi := by simp [inR]
theorem inR_not (n lo hi : Int) : inR n lo hi = false ↔ ¬ (lo ≤ n ∧ n ≤ hi) := by
 rw [← inR_iff]; simp
theorem shl_one (n : Int) (h0 : 0 ≤ n) (h1 : n ≤ 62) : shl64 1 n = 2 ^ n.toNat := by
 obtain ⟨k, rfl⟩ := Int.eq_ofNat_of_zero_le h0
 unfold shl64
 rw [show min (k : Int).toNat 64 = k by omega, Int.one_mul, show (k : Int).toNat = k from rfl]
 have h2 : (2 : Int) ^ k ≤ 2 ^ 62 := by
  have := Nat.pow_le_pow_right (n := 2) (by decide) (show k ≤ 62 by omega)
  have h := Int.ofNat_le.2 this
  simpa using h
 have h3 : (0 : Int) ≤ 2 ^ k := Int.pow_nonneg (by decide)
 exact wrap_id (by omega) (by omega)
theorem shl_rng (n : Int) (h0 : 0 ≤ n) (h1 : n ≤ 62) : 1 ≤ shl64 1 n ∧ shl64 1 n ≤ 4611686018427387904 := by
 rw [shl_one n h0 h1]
 have h2 := Nat.pow_le_pow_right (n := 2) (by decide) (show n.toNat ≤ 62 by omega)
 have h3 : 0 < 2 ^ n.toNat := Nat.two_pow_pos _
 have e : (2 : Int) ^ n.toNat = ((2 ^ n.toNat : Nat) : Int) := by simp
 rw [e]
 generalize 2 ^ n.toNat = q at h2 h3
 omega
theorem inRange_c (n lo hi : Int) : CallA Tryz.prog 79 [AI n, AI lo, AI hi] (.bool (inR n lo hi)) := by
 refine CallA.of Tryz.func79 rfl (by kernel_rfl) (R.go 10 ?_)
 by_cases c1 : lo ≤ n
 ·refine k12 true (dT c1) ?_
  iterate 2 refine R.go 1 (k12 true (dT c1) ?_)
  refine R.go 1 (k14 true (dT c1) ?_)
  exact R.go 2 (k23 (.bool (decide (n ≤ hi))) (by first | (simp [inR, *]) | (exfalso; omega)))
 iterate 3 refine k13 true (dF c1) ?_
 refine k14 false (dF c1) ?_
 exact R.go 2 (k23 (.bool false) (by first | (simp [inR, *]) | (exfalso; omega)))
theorem l01In_c (n lo hi : Int) : CallA Tryz.prog 71 [AI n, AI lo, AI hi] (.bool (inR n lo hi)) := by
 refine CallA.of Tryz.func71 rfl (by kernel_rfl) (R.go 10 ?_)
 by_cases c1 : n ≥ lo
 ·refine k12 true (dT c1) ?_
  iterate 2 refine R.go 1 (k12 true (dT c1) ?_)
  refine R.go 1 (k14 true (dT c1) ?_)
  exact R.go 2 (k23 (.bool (decide (n ≤ hi))) (by first | (simp [inR, *]) | (exfalso; omega)))
 iterate 3 refine k13 true (dF c1) ?_
 refine k14 false (dF c1) ?_
 exact R.go 2 (k23 (.bool false) (by first | (simp [inR, *]) | (exfalso; omega)))
theorem within_c (a : Int) (b : Int) : CallA Tryz.prog 162 [AI a, AI b] (.bool (decide (bnot a b = 0))) := by
 refine CallA.of Tryz.func162 rfl (by kernel_rfl) ?_
 exact R.go 12 (R.retE (.bool (decide ((bnot a b) = 0))) (by kernel_rfl) (by kernel_rfl) (by first | (rfl) | (exfalso; omega)))
theorem size_c (xs : List Int) : CallA Tryz.prog 64 [LI xs] (AI xs.length) := by
 refine CallA.of Tryz.func64 rfl (by kernel_rfl) ?_
 exact R.go 10 (R.retE (AI xs.length) (by kernel_rfl) (by kernel_rfl) (by rfl))
theorem l01One_c (n : Int) (h0 : 0 ≤ n) (h1 : n ≤ 62) : CallA Tryz.prog 68 [AI n] (AI (shl64 1 n)) := by
 refine CallA.of Tryz.func68 rfl (by kernel_rfl) (R.go 7 (R.cv .u64 n (by kernel_rfl) (u64_id (by omega) (by omega)) (by kernel_rfl) (R.shl 1 n (by kernel_rfl) (by omega) (by kernel_rfl) ?_)))
 exact R.go 2 (k23 (AI (shl64 1 n)) (by rfl))
theorem l01Full_c (n : Int) (h0 : 0 ≤ n) (h1 : n ≤ 62) : CallA Tryz.prog 69 [AI n] (AI ((shl64 1 n) - 1)) := by
 have hb : 1 ≤ shl64 1 n ∧ shl64 1 n ≤ 4611686018427387904 := shl_rng n h0 h1
 refine CallA.of Tryz.func69 rfl (by kernel_rfl) (R.go 7 (k20 true (l01One_c n h0 h1) (k8 ((shl64 1 n) - 1) ?_)))
 exact R.go 2 (k23 (AI ((shl64 1 n) - 1)) (by rfl))
theorem l01Own_c (xs : List Int) (hl : xs.length ≤ 1000000000) : CallA Tryz.prog 141 [LI xs] (ownA eI 2 1 xs) := by
 refine CallA.of Tryz.func141 rfl (by kernel_rfl) (R.go 8 (k19 eI [] xs 0 2 1 8 eI_one ?_))
 exact R.go 2 (k23 (ownA eI 2 1 ([] ++ xs)) (by first | (rfl) | (exfalso; omega)))
end Go.Proofs.YtehbliocfpppoaaGreat
