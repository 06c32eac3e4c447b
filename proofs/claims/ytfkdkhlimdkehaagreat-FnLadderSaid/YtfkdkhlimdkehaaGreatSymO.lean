/- Rows of data as cells; the machine's rules. -/
import Derived.Test.YtfkdkhlimdkehaaGreatSymN
namespace Go.Abs
open Go.RowKit

/-! ### Rows -/
def rows {α : Type} (E : α → List AV) : List α → List AV
  | [] => []
  | x :: xs => E x ++ rows E xs

def eI (n : Int) : List AV := [AI n]
def eN (p : Int × Int) : List AV := [AI p.1, AI p.2]
/-- A row of integers, of nodes, that is only read. -/
def LI (xs : List Int) : AV := .lst 1 xs.length (rows eI xs)
def LN (xs : List (Int × Int)) : AV := .lst 2 xs.length (rows eN xs)
def eLI (xs : List Int) : List AV := [LI xs]
def eLN (xs : List (Int × Int)) : List AV := [LN xs]
def LLI (xs : List (List Int)) : AV := .lst 1 xs.length (rows eLI xs)
def LLN (xs : List (List (Int × Int))) : AV := .lst 1 xs.length (rows eLN xs)

section
variable {α : Type} {E : α → List AV}

theorem rows_append (xs ys : List α) : rows E (xs ++ ys) = rows E xs ++ rows E ys := by
  induction xs with
  | nil => rfl
  | cons x xs ih => simp [rows, ih]

theorem rows_length {s : Nat} (hE : ∀ x, (E x).length = s) (xs : List α) : (rows E xs).length = xs.length * s := by
  induction xs with
  | nil => simp [rows]
  | cons x xs ih => simp [rows, ih, hE, Nat.add_mul, Nat.add_comm]

theorem rows_drop {s : Nat} (hE : ∀ x, (E x).length = s) (xs : List α) (j : Nat) : (rows E xs).drop (j * s) = rows E (xs.drop j) := by
  induction j generalizing xs with
  | zero => simp
  | succ j ih =>
    cases xs with
    | nil => simp [rows]
    | cons x xs =>
      have e : (j + 1) * s = (E x).length + j * s := by rw [hE, Nat.add_mul]; omega
      simp only [rows, e, List.drop_succ_cons]
      rw [List.drop_append, Nat.add_sub_cancel_left, ih, List.drop_of_length_le (by omega), List.nil_append]

theorem rows_take {s : Nat} (hE : ∀ x, (E x).length = s) (xs : List α) (j : Nat) : (rows E xs).take (j * s) = rows E (xs.take j) := by
  induction j generalizing xs with
  | zero => simp [rows]
  | succ j ih =>
    cases xs with
    | nil => simp [rows]
    | cons x xs =>
      have e : (j + 1) * s = (E x).length + j * s := by rw [hE, Nat.add_mul]; omega
      simp only [rows, e, List.take_succ_cons]
      rw [List.take_length_add_append, ih]

theorem rows_at {s : Nat} (hE : ∀ x, (E x).length = s) (xs : List α) (j : Nat) (d : α) (hj : j < xs.length) : (rows E xs).drop (j * s) = E (xs.getD j d) ++ rows E (xs.drop (j + 1)) := by
  rw [rows_drop hE, List.drop_eq_getElem_cons hj, rows]
  simp [List.getD_eq_getElem?_getD, List.getElem?_eq_getElem hj]

theorem rows_all {p : AV → Bool} (h : ∀ x, (E x).all p = true) (xs : List α) : (rows E xs).all p = true := by
  induction xs with
  | nil => rfl
  | cons x xs ih => simp only [rows, List.all_append, h, ih, Bool.and_self]

theorem rows_getI (xs : List Int) (j : Nat) (hj : j < xs.length) : (rows eI xs)[j * 1]? = some (AI (xs.getD j 0)) := by
  have h := rows_at (E := eI) (s := 1) (fun _ => rfl) xs j 0 hj
  have e : (rows eI xs)[j * 1]? = ((rows eI xs).drop (j * 1))[0]? := by rw [List.getElem?_drop, Nat.add_zero]
  rw [e, h]
  rfl

theorem rows_setI (xs : List Int) (j : Nat) (v : Int) : (rows eI xs).set (j * 1) (AI v) = rows eI (xs.set j v) := by
  induction xs generalizing j with
  | nil => rfl
  | cons x xs ih =>
    cases j with
    | zero => rfl
    | succ j =>
      have e : (j + 1) * 1 = j * 1 + 1 := by omega
      rw [e]
      simp only [rows, eI, List.set_cons_succ, List.cons_append, List.nil_append, ih]

theorem leafyL_append (a b : List AV) : leafyL (a ++ b) = (leafyL a && leafyL b) := by
  induction a with
  | nil => simp [leafyL]
  | cons x a ih => simp [leafyL, ih, Bool.and_assoc]

theorem leafyL_rows (h : ∀ x, leafyL (E x) = true) (xs : List α) : leafyL (rows E xs) = true := by
  induction xs with
  | nil => rfl
  | cons x xs ih => simp [rows, leafyL_append, h, ih]

theorem closedL_append (a b : List AV) : closedL (a ++ b) = (closedL a && closedL b) := by
  induction a with
  | nil => simp [closedL]
  | cons x a ih => simp [closedL, ih, Bool.and_assoc]

theorem closedL_rows (h : ∀ x, closedL (E x) = true) (xs : List α) : closedL (rows E xs) = true := by
  induction xs with
  | nil => rfl
  | cons x xs ih => simp [rows, closedL_append, h, ih]

theorem zerosA_rows (d : α) (n : Nat) : zerosA (E d) (E d).length n = rows E (List.replicate n d) := by
  have h : ∀ x, (fun _ : α => E d) x = E d := fun _ => rfl
  induction n with
  | zero => simp [zerosA, rows]
  | succ n ih =>
    rw [List.replicate_succ', rows_append, ← ih]
    apply List.ext_getElem?
    intro j
    simp only [zerosA, rows, List.append_nil, List.getElem?_append, List.length_map, List.length_range, List.getElem?_map]
    have e : (n + 1) * (E d).length = n * (E d).length + (E d).length := by rw [Nat.add_mul]; omega
    rcases Nat.lt_or_ge j (n * (E d).length) with hj | hj
    · rw [if_pos hj, List.getElem?_range (by omega), List.getElem?_range hj]
    · rw [if_neg (by omega)]
      rcases Nat.lt_or_ge j ((n + 1) * (E d).length) with hj2 | hj2
      · rw [List.getElem?_range hj2]
        have h3 : j % (E d).length = j - n * (E d).length := by
          obtain ⟨i, rfl⟩ : ∃ i, j = i + (E d).length * n := ⟨j - n * (E d).length, by rw [Nat.mul_comm (E d).length n]; omega⟩
          rw [e, Nat.mul_comm n] at hj2
          rw [Nat.mul_comm n, Nat.add_mul_mod_self_left, Nat.add_sub_cancel, Nat.mod_eq_of_lt (by omega)]
        have h4 : j - n * (E d).length < (E d).length := by omega
        simp only [Option.map_some, h3, List.getD_eq_getElem?_getD, List.getElem?_eq_getElem h4, Option.getD_some]
      · rw [List.getElem?_eq_none (by simpa using hj2), List.getElem?_eq_none (by omega)]
        rfl
end

theorem eI_len (x : Int) : (eI x).length = 1 := rfl
theorem eN_len (x : Int × Int) : (eN x).length = 2 := rfl
theorem eLI_len (x : List Int) : (eLI x).length = 1 := rfl
theorem eLN_len (x : List (Int × Int)) : (eLN x).length = 1 := rfl

theorem wrap_id {n : Int} (h0 : -9223372036854775808 ≤ n) (h1 : n < 9223372036854775808) : IntKind.i64.wrap n = n := IntWalk.i64_in n ⟨h0, by omega⟩
theorem u64_nn (n : Int) : 0 ≤ IntKind.u64.wrap n := by rw [IntKind.wrap_u64]; omega
theorem u64_id {n : Int} (h0 : 0 ≤ n) (h1 : n < 18446744073709551616) : IntKind.u64.wrap n = n := IntWalk.u64_in n ⟨h0, by omega⟩

def shl64 (m n : Int) : Int := IntKind.i64.wrap (m * 2 ^ (min n.toNat 64))
def shr64 (m n : Int) : Int := m.fdiv (2 ^ (min n.toNat 64))

/-! ### The machine's head -/
def adv (P : Program) : Nat → M → M
  | 0, m => m
  | k + 1, m => adv P k (match stepM P m with | some m' => m' | none => m)

def headOf (m : M) : Option (Array Oper × Oper × Bool × Option Nat) :=
  match m.ks with
  | .ops all (o :: _) f :: _ => some (all, o, f, none)
  | .drw all (o :: _) (t :: _) f :: _ => some (all, o, f, some t)
  | _ => none

/-- The head's operation, if it is wanted. -/
def opM (m : M) : Option Op :=
  match headOf m with
  | some (all, o, f, _) => match wantH all o f m.st.fr with
    | some true => some o.op
    | _ => none
  | none => none

/-- The head is done: it yielded v. -/
def putM (m : M) (kl : Option Nat) (v : AV) (hp : List AObj) : M :=
  match m.ks with
  | .ops all (o :: l) _ :: ks => ⟨.ops all l false :: ks, ⟨putF (killF kl m.st.fr) o.dst v, hp⟩⟩
  | .drw all (o :: l) (_ :: ts) _ :: ks => ⟨.drw all l ts false :: ks, ⟨putF (killF kl m.st.fr) o.dst v, hp⟩⟩
  | _ => m

def quietOk (m : M) (news : List AObj) : Bool :=
  match headOf m with
  | some (_, _, _, some 0) => match news with
    | [] => true
    | _ => false
  | some (_, _, _, some 1) => true
  | some (_, _, _, some 2) => true
  | some (_, _, _, none) => true
  | _ => false

def quiet0 (m : M) : Bool :=
  match headOf m with
  | some (_, _, _, some (_ + 3)) => false
  | some _ => true
  | _ => false

def writeOk (m : M) : Bool :=
  match headOf m with
  | some (_, _, _, some 2) => true
  | some (_, _, _, none) => true
  | _ => false

section
variable {rd : Option Nat} {P : Program} {m : M} {Q : Exit → St → Prop}

theorem R.go (k : Nat) (h : Runs rd P (adv P k m) Q) : Runs rd P m Q := by
  induction k generalizing m with
  | zero => exact h
  | succ k ih =>
    simp only [adv] at h
    have h1 := ih h
    split at h1
    · rename_i m' hs
      exact stepM_sound hs h1
    · exact h1

theorem R.effM {op : Op} {v : AV} {news : List AObj} (hop : opM m = some op) (h : EffR P (ev m.st.fr) m.st.hp op v news ∨ CallR P (ev m.st.fr) m.st.hp op v news) (ht : quietOk m news = true)
    (h' : Runs rd P (putM m none v (m.st.hp ++ news)) Q) : Runs rd P m Q := by
  obtain ⟨ks, ⟨fr, hp⟩⟩ := m
  have hs : ∀ {all : Array Oper} {o : Oper}, WantedA all o fr → o.op = op → StepN P all o fr hp v news := by
    rintro all o hw rfl
    exact h.elim (.eff hw) (.call hw)
  unfold opM headOf at hop
  unfold quietOk headOf at ht
  unfold putM at h'
  simp only [runs_iff] at h' ⊢
  try simp only at hop ht h' ⊢
  split at hop
  · rename_i all o f t heq
    split at hop
    · rename_i hw
      simp only [Option.some.injEq] at hop
      split at heq
      · cases heq
        intro hW
        refine OpsQ.cons (st' := ⟨putF fr o.dst v, hp ++ news⟩) ?_ (h' headW_false)
        exact (StepT.ext (hs (wantH_true hw hW) hop)).toR
      · rename_i t' _ _ ks'
        cases heq
        intro hW
        obtain ⟨st2, h1, h2⟩ := h' headW_false
        refine ⟨st2, .cons (st1 := ⟨putF fr o.dst v, hp ++ news⟩) ?_ h1, h2⟩
        match t', ht with
        | 0, ht =>
          cases news with
          | nil => rw [List.append_nil]; exact .quiet (hs (wantH_true hw hW) hop)
          | cons n ns => simp at ht
        | 1, _ => exact .ext (hs (wantH_true hw hW) hop)
        | 2, _ => exact .write (StepT.ext (hs (wantH_true hw hW) hop)).toR
        | n + 3, ht => simp at ht
      · cases heq
    · cases hop
  · cases hop

theorem R.eff0 {op : Op} {v : AV} (hop : opM m = some op) (h : EffR P (ev m.st.fr) m.st.hp op v [] ∨ CallR P (ev m.st.fr) m.st.hp op v []) (ht : quiet0 m = true) (h' : Runs rd P (putM m none v m.st.hp) Q) : Runs rd P m Q := by
  refine R.effM hop h ?_ (by rw [List.append_nil]; exact h')
  unfold quiet0 at ht
  unfold quietOk
  split at ht
  · cases ht
  · rename_i x h1 hx
    obtain ⟨all, o, f, t⟩ := x
    rw [hx]
    match t with
    | none => rfl
    | some 0 => rfl
    | some 1 => rfl
    | some 2 => rfl
    | some (n + 3) => exact absurd rfl (h1 all o f n)
  · cases ht

theorem R.effW {op : Op} {v : AV} {kl : Option Nat} {hp' : List AObj} (hop : opM m = some op) (h : EffW P (ev m.st.fr) m.st.hp op v kl hp') (ht : writeOk m = true)
    (h' : Runs rd P (putM m kl v hp') Q) : Runs rd P m Q := by
  obtain ⟨ks, ⟨fr, hp⟩⟩ := m
  unfold opM headOf at hop
  unfold writeOk headOf at ht
  unfold putM at h'
  simp only [runs_iff] at h' ⊢
  try simp only at hop ht h' ⊢
  split at hop
  · rename_i all o f t heq
    split at hop
    · rename_i hw
      simp only [Option.some.injEq] at hop
      subst hop
      split at heq
      · cases heq
        intro hW
        exact OpsQ.cons (st' := ⟨putF (killF kl fr) o.dst v, hp'⟩) (.write (wantH_true hw hW) h) (h' headW_false)
      · rename_i t' _ _ ks'
        cases heq
        intro hW
        obtain ⟨st2, h1, h2⟩ := h' headW_false
        refine ⟨st2, .cons (st1 := ⟨putF (killF kl fr) o.dst v, hp'⟩) ?_ h1, h2⟩
        match t', ht with
        | 2, _ => exact .write (.write (wantH_true hw hW) h)
        | 0, ht => simp at ht
        | 1, ht => simp at ht
        | n + 3, ht => simp at ht
      · cases heq
    · cases hop
  · cases hop

/-! ### Sums, quotients, shifts, conversions -/
def arAt (m : M) : Option Int :=
  match opM m with
  | some (.binOp op _ x y _) => match ev m.st.fr x, ev m.st.fr y with
    | .int .i64 a, .int .i64 b => match op with
      | .add => some (a + b)
      | .sub => some (a - b)
      | .mul => some (a * b)
      | _ => none
    | _, _ => none
  | _ => none

theorem R.ar (c : Int) (h : arAt m = some c) (h0 : -9223372036854775808 ≤ c) (h1 : c < 9223372036854775808) (ht : quiet0 m = true) (h' : Runs rd P (putM m none (AI c) m.st.hp) Q) : Runs rd P m Q := by
  unfold arAt at h
  split at h
  · rename_i op t x y ty hop
    split at h
    · rename_i a b hx hy
      refine R.eff0 hop (.inl ?_) ht h'
      split at h <;> cases h
      · exact .bin .i64 a b hx hy (by simp only [binA]; rw [wrap_id h0 h1]; rfl)
      · exact .bin .i64 a b hx hy (by simp only [binA]; rw [wrap_id h0 h1]; rfl)
      · exact .bin .i64 a b hx hy (by simp only [binA]; rw [wrap_id h0 h1]; rfl)
    · cases h
  · cases h

def quAt (m : M) : Option (Bool × Int × Int) :=
  match opM m with
  | some (.binOp op _ x y _) => match ev m.st.fr x, ev m.st.fr y with
    | .int .i64 a, .int .i64 b => match op with
      | .quo => some (true, a, b)
      | .rem => some (false, a, b)
      | _ => none
    | _, _ => none
  | _ => none

theorem R.quo (a b : Int) (h : quAt m = some (true, a, b)) (h0 : 0 ≤ a) (h1 : 0 < b) (h2 : a < 9223372036854775808) (ht : quiet0 m = true) (h' : Runs rd P (putM m none (AI (a / b)) m.st.hp) Q) : Runs rd P m Q := by
  unfold quAt at h
  split at h
  · rename_i op t x y ty hop
    split at h
    · rename_i a b hx hy
      refine R.eff0 hop (.inl ?_) ht h'
      split at h <;> cases h
      have h := EffR.quo (P := P) (hp := m.st.hp) (t := t) (ty := ty) .i64 a b hx hy (by omega)
      rwa [Int.tdiv_eq_ediv_of_nonneg h0, wrap_id (by have := Int.ediv_nonneg h0 (Int.le_of_lt h1); omega) (by have := Int.ediv_le_self b h0; omega)] at h
    · cases h
  · cases h

theorem R.rem (a b : Int) (h : quAt m = some (false, a, b)) (h0 : 0 ≤ a) (h1 : 0 < b) (ht : quiet0 m = true) (h' : Runs rd P (putM m none (AI (a % b)) m.st.hp) Q) : Runs rd P m Q := by
  unfold quAt at h
  split at h
  · rename_i op t x y ty hop
    split at h
    · rename_i a b hx hy
      refine R.eff0 hop (.inl ?_) ht h'
      split at h <;> cases h
      have h := EffR.rem (P := P) (hp := m.st.hp) (t := t) (ty := ty) .i64 a b hx hy (by omega)
      rwa [Int.tmod_eq_emod_of_nonneg h0] at h
    · cases h
  · cases h

def shAt (m : M) : Option (Bool × Int × Int) :=
  match opM m with
  | some (.binOp op _ x y _) => match ev m.st.fr x, ev m.st.fr y with
    | .int .i64 a, .int _ b => match op with
      | .shl => some (true, a, b)
      | .shr => some (false, a, b)
      | _ => none
    | _, _ => none
  | _ => none

theorem R.shl (a b : Int) (h : shAt m = some (true, a, b)) (h0 : 0 ≤ b) (ht : quiet0 m = true) (h' : Runs rd P (putM m none (AI (shl64 a b)) m.st.hp) Q) : Runs rd P m Q := by
  unfold shAt at h
  split at h
  · rename_i op t x y ty hop
    split at h
    · rename_i a b hx hy
      refine R.eff0 hop (.inl ?_) ht h'
      split at h <;> cases h
      exact EffR.shl .i64 _ _ _ hx hy h0
    · cases h
  · cases h

theorem R.shr (a b : Int) (h : shAt m = some (false, a, b)) (h0 : 0 ≤ b) (ht : quiet0 m = true) (h' : Runs rd P (putM m none (AI (shr64 a b)) m.st.hp) Q) : Runs rd P m Q := by
  unfold shAt at h
  split at h
  · rename_i op t x y ty hop
    split at h
    · rename_i a b hx hy
      refine R.eff0 hop (.inl ?_) ht h'
      split at h <;> cases h
      exact EffR.shr .i64 _ _ _ hx hy h0
    · cases h
  · cases h

def cvAt (P : Program) (m : M) : Option (IntKind × Int) :=
  match opM m with
  | some (.convert s d x) => match ev m.st.fr x, intB P d with
    | .int _ n, some k' => if (P.underlying s).isSome then some (k', n) else none
    | _, _ => none
  | _ => none

theorem R.cv (k' : IntKind) (n : Int) (h : cvAt P m = some (k', n)) (hw : k'.wrap n = n) (ht : quiet0 m = true) (h' : Runs rd P (putM m none (.int k' n) m.st.hp) Q) : Runs rd P m Q := by
  unfold cvAt at h
  split at h
  · rename_i s d x hop
    split at h
    · rename_i k n k' hx hd
      split at h
      · rename_i hs
        cases h
        refine R.eff0 hop (.inl ?_) ht h'
        have := EffR.conv (P := P) (hp := m.st.hp) k k' n hx hs hd
        rwa [hw] at this
      · cases h
    · cases h
  · cases h

/-! ### Tests -/
def cdAt (m : M) : Option Bool :=
  match m.ks with
  | .code (.cond c _ _) :: _ => match ev m.st.fr c with
    | .bool b => some b
    | _ => none
  | _ => none

def branch (b : Bool) (m : M) : M :=
  match m.ks with
  | .code (.cond _ x y) :: ks => ⟨.code (if b then x else y) :: ks, m.st⟩
  | _ => m

theorem R.condB (b : Bool) (h : cdAt m = some b) (ht : b = true → Runs rd P (branch true m) Q) (hf : b = false → Runs rd P (branch false m) Q) : Runs rd P m Q := by
  obtain ⟨ks, st⟩ := m
  unfold cdAt at h
  unfold branch at ht hf
  simp only [runs_iff] at ht hf ⊢
  try simp only at h ht hf ⊢
  split at h
  · split at h
    · rename_i hc
      cases h
      simp only [RunsK] at ht hf ⊢
      exact RunA.cond _ hc (fun e => by simpa using ht e) (fun e => by simpa using hf e)
    · cases h
  · cases h

theorem R.cond (p : Prop) [Decidable p] (h : cdAt m = some (decide p)) (ht : p → Runs rd P (branch true m) Q) (hf : ¬ p → Runs rd P (branch false m) Q) : Runs rd P m Q :=
  R.condB _ h (fun e => ht (of_decide_eq_true e)) (fun e => hf (of_decide_eq_false e))
theorem R.condN (p : Prop) [Decidable p] (h : cdAt m = some (!decide p)) (ht : ¬ p → Runs rd P (branch true m) Q) (hf : p → Runs rd P (branch false m) Q) : Runs rd P m Q :=
  R.condB _ h (fun e => ht (of_decide_eq_false (by simpa using e))) (fun e => hf (of_decide_eq_true (by simpa using e)))
theorem R.thn (b : Bool) (h : cdAt m = some b) (hb : b = true) (ht : Runs rd P (branch true m) Q) : Runs rd P m Q := R.condB b h (fun _ => ht) (fun e => by rw [hb] at e; cases e)
theorem R.els (b : Bool) (h : cdAt m = some b) (hb : b = false) (hf : Runs rd P (branch false m) Q) : Runs rd P m Q := R.condB b h (fun e => by rw [hb] at e; cases e) (fun _ => hf)

/-- A guard that is not known. -/
def gdAt (m : M) : Option (Bool × Bool) :=
  match headOf m with
  | some (all, o, false, _) => match o.guard with
    | some (j, w) => match yieldA all m.st.fr j with
      | some b => some (b, w)
      | none => none
    | none => none
  | _ => none

def wantM (m : M) : M :=
  match m.ks with
  | .ops all l _ :: ks => ⟨.ops all l true :: ks, m.st⟩
  | .drw all l ts _ :: ks => ⟨.drw all l ts true :: ks, m.st⟩
  | _ => m

theorem R.want (b w : Bool) (h : gdAt m = some (b, w)) (hb : b = w) (h' : Runs rd P (wantM m) Q) : Runs rd P m Q := by
  obtain ⟨ks, st⟩ := m
  unfold gdAt headOf at h
  unfold wantM at h'
  simp only [runs_iff] at h' ⊢
  try simp only at h h' ⊢
  split at h
  · rename_i all o t heq
    split at h
    · rename_i j w' hg
      split at h
      · rename_i b' hy
        cases h
        have hw : ∀ l, HeadW all (o :: l) true st.fr := by
          rintro l _ o' rest hl
          cases hl
          exact .inr ⟨j, w, hg, by rw [hy, hb]⟩
        split at heq
        · cases heq
          intro _
          exact h' (hw _)
        · cases heq
          intro _
          exact h' (hw _)
        · cases heq
      · cases h
    · cases h
  · cases h

theorem R.skp (b w : Bool) (h : gdAt m = some (b, w)) (hb : b = !w) (ht : quiet0 m = true) (h' : Runs rd P (putM m none (.tup []) m.st.hp) Q) : Runs rd P m Q := by
  obtain ⟨ks, ⟨fr, hp⟩⟩ := m
  unfold gdAt headOf at h
  unfold quiet0 headOf at ht
  unfold putM at h'
  simp only [runs_iff] at h' ⊢
  try simp only at h h' ht ⊢
  split at h
  · rename_i all o t heq
    split at h
    · rename_i j w' hg
      split at h
      · rename_i b' hy
        cases h
        have hne : b ≠ w := by rw [hb]; cases w <;> simp
        have hs : StepN P all o fr hp (.tup []) [] := .skip j w hg (by
          unfold yieldA at hy
          unfold noA
          split at hy
          · rename_i heq2; cases hy; rw [heq2]; simpa using hne
          · cases hy)
        split at heq
        · cases heq
          intro _
          refine OpsQ.cons (st' := ⟨putF fr o.dst (.tup []), hp⟩) ?_ (h' headW_false)
          exact (StepT.quiet hs).toR
        · rename_i t' _ _ ks'
          cases heq
          intro hW
          obtain ⟨st2, h1, h2⟩ := h' headW_false
          refine ⟨st2, .cons (st1 := ⟨putF fr o.dst (.tup []), hp⟩) ?_ h1, h2⟩
          match t', ht with
          | 0, _ => exact .quiet hs
          | 1, _ => have := StepT.ext (P := P) (ops := all) (o := o) hs; rwa [List.append_nil] at this
          | 2, _ => exact .write (StepT.quiet hs).toR
          | n + 3, ht => simp at ht
        · cases heq
      · cases h
    · cases h
  · cases h

def pkAt (m : M) : Option Bool :=
  match opM m with
  | some (.pick c _ _) => match ev m.st.fr c with
    | .bool b => some b
    | _ => none
  | _ => none

def pkV (t : Bool) (m : M) : AV :=
  match opM m with
  | some (.pick _ a b) => if t then ev m.st.fr a else ev m.st.fr b
  | _ => .top

theorem R.pick (b t : Bool) (h : pkAt m = some b) (hb : b = t) (ht : quiet0 m = true) (h' : Runs rd P (putM m none (pkV t m) m.st.hp) Q) : Runs rd P m Q := by
  unfold pkAt at h
  unfold pkV at h'
  split at h
  · rename_i c x y hop
    split at h
    · rename_i b' hc
      cases h
      rw [hop] at h'
      exact R.eff0 hop (.inl (.pick t (by rw [hc, hb]))) ht h'
    · cases h
  · cases h

end

end Go.Abs
