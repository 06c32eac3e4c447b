/- The machine's rules: cells of rows, calls, loops, ends. -/
import Derived.Test.YtfkdkhlimdkehaaGreatSymO
namespace Go.Abs
open Go.RowKit

section
variable {rd : Option Nat} {P : Program} {m : M} {Q : Exit → St → Prop} {α : Type}

/-! ### Cells of rows -/
def ixAt (P : Program) (m : M) : Option (Nat × Nat × List AV × Int) :=
  match opM m with
  | some (.indexAddr t x y) => match ev m.st.fr x, ev m.st.fr y, elemB P t with
    | .lst s n cs, .int _ j, some (_, s') => if s' = s ∧ s ≠ 0 then some (s, n, cs, j) else none
    | _, _, _ => none
  | _ => none

theorem R.idx (E : α → List AV) (xs : List α) (d : α) (j : Nat) (ji : Int) {s : Nat} (h : ixAt P m = some (s, xs.length, rows E xs, ji)) (hji : ji = (j : Int)) (hE : ∀ x, (E x).length = s) (hj : j < xs.length) (ht : quiet0 m = true)
    (h' : Runs rd P (putM m none (.rptr (E (xs.getD j d))) m.st.hp) Q) : Runs rd P m Q := by
  unfold ixAt at h
  split at h
  · rename_i t x y hop
    split at h
    · rename_i s0 n cs k j0 el s' hx hy hel
      split at h
      · rename_i hc
        obtain ⟨rfl, hs0⟩ := hc
        cases h
        subst hji
        exact R.eff0 hop (.inl (.indexAddrE _ xs.length (rows E xs) k j el _ _ hx hy hel hs0 (by omega) (by omega) (rows_at hE xs j d hj))) ht h'
      · cases h
    · cases h
  · cases h

def ioAt (P : Program) (m : M) : Option (Nat × Nat × Nat × Int) :=
  match opM m with
  | some (.indexAddr t x y) => match ev m.st.fr x, ev m.st.fr y, elemB P t with
    | .ref i, .int _ j, some (el', s') => match m.st.hp[i]? with
      | some (.list el s n _) => if el' = el ∧ s' = s ∧ s ≠ 0 then some (i, s, n, j) else none
      | _ => none
    | _, _, _ => none
  | _ => none

theorem R.idxO (i s n j : Nat) (ji : Int) (h : ioAt P m = some (i, s, n, ji)) (hji : ji = (j : Int)) (hj : j < n) (ht : quiet0 m = true) (h' : Runs rd P (putM m none (.ptr i (j * s)) m.st.hp) Q) : Runs rd P m Q := by
  unfold ioAt at h
  split at h
  · rename_i t x y hop
    split at h
    · rename_i i0 k j0 el' s' hx hy hel
      split at h
      · rename_i el s0 n0 cs hi
        split at h
        · rename_i hc
          obtain ⟨rfl, rfl, hs0⟩ := hc
          cases h
          subst hji
          exact R.eff0 hop (.inl (.indexAddrO i el' _ n cs k j hx hi hy hel hs0 (by omega) (by omega))) ht h'
        · cases h
      · cases h
    · cases h
  · cases h

def ldAt (P : Program) (m : M) : Option (List AV × Nat) :=
  match opM m with
  | some (.load t x) => match ev m.st.fr x, aggB P t with
    | .ptr i o, some false => match m.st.hp[i]? with
      | some ob => some (ob.cells, o)
      | none => none
    | _, _ => none
  | _ => none

theorem R.ld (cs : List AV) (o : Nat) (v : AV) (h : ldAt P m = some (cs, o)) (hv : cs[o]? = some v) (ht : quiet0 m = true) (h' : Runs rd P (putM m none v m.st.hp) Q) : Runs rd P m Q := by
  unfold ldAt at h
  split at h
  · rename_i t x hop
    split at h
    · rename_i i o0 hx hagg
      split at h
      · rename_i ob hi
        cases h
        exact R.eff0 hop (.inl (.load i o ob hx hi hagg hv)) ht h'
      · cases h
    · cases h
  · cases h

theorem R.ldI (xs : List Int) (j : Nat) (h : ldAt P m = some (rows eI xs, j * 1)) (hj : j < xs.length) (ht : quiet0 m = true) (h' : Runs rd P (putM m none (AI (xs.getD j 0)) m.st.hp) Q) : Runs rd P m Q := R.ld _ _ _ h (rows_getI xs j hj) ht h'

theorem R.ldE (E : α → List AV) (s o : Nat) (xs : List α) (d : α) (j : Nat) (v : AV) (h : ldAt P m = some (rows E xs, j * s + o)) (hE : ∀ x, (E x).length = s) (hj : j < xs.length) (hv : (E (xs.getD j d))[o]? = some v) (ht : quiet0 m = true)
    (h' : Runs rd P (putM m none v m.st.hp) Q) : Runs rd P m Q := by
  refine R.ld _ _ _ h ?_ ht h'
  have e : (rows E xs)[j * s + o]? = ((rows E xs).drop (j * s))[o]? := by rw [List.getElem?_drop]
  rw [e, rows_at hE xs j d hj, List.getElem?_append_left (List.getElem?_eq_some_iff.1 hv).1]
  exact hv

def laAt (P : Program) (m : M) : Option (List AV × Nat × Nat) :=
  match opM m with
  | some (.load t x) => match ev m.st.fr x, aggB P t, sizeB P t with
    | .ptr i o, some true, some k => match m.st.hp[i]? with
      | some ob => some (ob.cells, o, k)
      | none => none
    | _, _, _ => none
  | _ => none

theorem R.ldA (E : α → List AV) (xs : List α) (d : α) (j s : Nat) (h : laAt P m = some (rows E xs, j * s, s)) (hE : ∀ x, (E x).length = s) (hj : j < xs.length) (ht : quiet0 m = true) (h' : Runs rd P (putM m none (.agg (E (xs.getD j d))) m.st.hp) Q) : Runs rd P m Q := by
  unfold laAt at h
  split at h
  · rename_i t x hop
    split at h
    · rename_i i o0 k hx hagg hk
      split at h
      · rename_i ob hi
        simp only [Option.some.injEq, Prod.mk.injEq] at h
        obtain ⟨h1, rfl, rfl⟩ := h
        have hl : j * k + k ≤ ob.cells.length := by
          rw [h1, rows_length hE]
          have : (j + 1) * k ≤ xs.length * k := Nat.mul_le_mul_right k hj
          rw [Nat.add_mul] at this
          omega
        have h2 := EffR.loadN (P := P) (e := ev m.st.fr) (hp := m.st.hp) i (j * k) k ob hx hi hagg hk hl
        rw [h1, rows_at hE xs j d hj, List.take_left' (hE _)] at h2
        exact R.eff0 hop (.inl h2) ht h'
      · cases h
    · cases h
  · cases h

def stAt (P : Program) (m : M) : Option (Nat × Nat × Nat × Nat × List AV × Nat × AV) :=
  match opM m with
  | some (.store t p x) => match ev m.st.fr p, sizeB P t with
    | .ptr i o, some 1 => match m.st.hp[i]? with
      | some (.list el s n cs) => if (ev m.st.fr x).one && (ev m.st.fr x).leafy then some (i, el, s, n, cs, o, ev m.st.fr x) else none
      | _ => none
    | _, _ => none
  | _ => none

theorem rows_set1 {E : α → List AV} {c : α → AV} (hE : ∀ x, E x = [c x]) (xs : List α) (j : Nat) (v : α) : (rows E xs).set (j * 1) (c v) = rows E (xs.set j v) := by
  induction xs generalizing j with
  | nil => rfl
  | cons x xs ih =>
    cases j with
    | zero => simp [rows, hE]
    | succ j =>
      have e : (j + 1) * 1 = j * 1 + 1 := by omega
      rw [e]
      simp only [rows, hE, List.set_cons_succ, List.cons_append, List.nil_append, ih]

theorem R.st1 (E : α → List AV) (c : α → AV) (i el : Nat) (xs : List α) (j : Nat) (v : α) (h : stAt P m = some (i, el, 1, xs.length, rows E xs, j * 1, c v)) (hE : ∀ x, E x = [c x]) (hj : j < xs.length) (ht : writeOk m = true)
    (h' : Runs rd P (putM m none .top (m.st.hp.set i (.list el 1 (xs.set j v).length (rows E (xs.set j v))))) Q) : Runs rd P m Q := by
  unfold stAt at h
  split at h
  · rename_i t p x hop
    split at h
    · rename_i i0 o0 hx hsz
      split at h
      · rename_i el0 s0 n0 cs hi
        split at h
        · rename_i hc
          simp only [Bool.and_eq_true] at hc
          simp only [Option.some.injEq, Prod.mk.injEq] at h
          obtain ⟨rfl, rfl, rfl, rfl, rfl, rfl, h1⟩ := h
          have h2 := EffW.store1 (P := P) (e := ev m.st.fr) (hp := m.st.hp) (t := t) (p := p) (x := x) i0 (j * 1) _ hx hi hsz hc.1 (by simp only [AObj.cells]; rw [rows_length (s := 1) (fun x => by rw [hE]; rfl)]; omega) (by simp [hc.2])
          simp only [AObj.cells, AObj.withCells, h1] at h2
          rw [rows_set1 hE] at h2
          rw [List.length_set] at h'
          exact R.effW hop h2 ht h'
        · cases h
      · cases h
    · cases h
  · cases h

theorem R.stI (i el : Nat) (xs : List Int) (j : Nat) (v : Int) (h : stAt P m = some (i, el, 1, xs.length, rows eI xs, j * 1, AI v)) (hj : j < xs.length) (ht : writeOk m = true)
    (h' : Runs rd P (putM m none .top (m.st.hp.set i (.list el 1 (xs.set j v).length (rows eI (xs.set j v))))) Q) : Runs rd P m Q := R.st1 eI AI i el xs j v h (fun _ => rfl) hj ht h'

/-- An append: the object (none: nil), element type, cells and bytes; the source. -/
def apAt (P : Program) (m : M) : Option (Option (Nat × Nat × List AV) × Nat × Nat × Nat × Nat × List AV) :=
  match opM m with
  | some (.call c) => match c.callee, c.args.toList, c.argTypes.toList with
    | .builtin .append, [x, y], [t, t'] =>
      if t = t' then
        match rowB P t with
        | some (el, s, _, b) =>
          match (match ev m.st.fr y with
            | .lst s' k ds => if s' = s then some (k, ds) else none
            | .ref j => match m.st.hp[j]? with
              | some (.list _ s' k ds) => if s' = s then some (k, ds) else none
              | _ => none
            | .nil => some (0, [])
            | _ => none) with
          | some (k, ds) => match ev m.st.fr x with
            | .ref i => match m.st.hp[i]? with
              | some (.list el' s' n cs) => if el' = el ∧ s' = s then some (some (i, n, cs), el, s, b, k, ds) else none
              | _ => none
            | .nil => some (none, el, s, b, k, ds)
            | _ => none
          | none => none
        | none => none
      else none
    | _, _, _ => none
  | _ => none

def ApX (m : M) (x : Operand) (el s : Nat) : Option (Nat × Nat × List AV) → Prop
  | some (i, n, cs) => ev m.st.fr x = .ref i ∧ m.st.hp[i]? = some (.list el s n cs)
  | none => ev m.st.fr x = .nil

theorem apAt_parts {r : Option (Nat × Nat × List AV)} {el s b k : Nat} {ds : List AV} (h : apAt P m = some (r, el, s, b, k, ds)) : ∃ x y t zs, opM m = some (.call { callee := .builtin .append, args := #[x, y], argTypes := #[t, t] }) ∧ rowB P t = some (el, s, zs, b) ∧ SrcR m.st.hp s (ev m.st.fr y) k ds ∧ ApX m x el s r := by
  unfold apAt at h
  split at h
  · rename_i c hop
    obtain ⟨callee, args, tys⟩ := c
    simp only at h
    split at h
    · rename_i x y t t' h2 h3
      obtain rfl : args = #[x, y] := Array.toList_inj.1 (by simpa using h2)
      obtain rfl : tys = #[t, t'] := Array.toList_inj.1 (by simpa using h3)
      split at h
      · rename_i htt
        subst htt
        split at h
        · rename_i el0 s0 zs b0 hrow
          split at h
          · rename_i k0 ds0 hsrc
            have hsrc' : SrcR m.st.hp s0 (ev m.st.fr y) k0 ds0 := by
              split at hsrc
              · rename_i s' k' ds' hy
                split at hsrc
                · rename_i hs; cases hsrc; subst hs; rw [hy]; exact .lst
                · cases hsrc
              · rename_i j hy
                split at hsrc
                · rename_i e' s' k' ds' hj
                  split at hsrc
                  · rename_i hs; cases hsrc; subst hs; rw [hy]; exact .ref hj
                  · cases hsrc
                · cases hsrc
              · rename_i hy; cases hsrc; rw [hy]; exact .nil
              · cases hsrc
            split at h
            · rename_i i hx
              split at h
              · rename_i el' s' n cs hi
                split at h
                · rename_i hc
                  obtain ⟨rfl, rfl⟩ := hc
                  cases h
                  exact ⟨x, y, t, zs, hop, hrow, hsrc', hx, hi⟩
                · cases h
              · cases h
            · rename_i hx
              cases h
              exact ⟨x, y, t, zs, hop, hrow, hsrc', hx⟩
            · cases h
          · cases h
        · cases h
      · cases h
    · cases h
  · cases h

theorem app_bound {n b : Nat} (hb : n * b ≤ 140737488355328) (h0 : 0 < b) : n ≤ maxLen := by
  have : n ≤ n * b := Nat.le_mul_of_pos_right n h0
  unfold maxLen
  omega

theorem R.app (E : α → List AV) (xs ys : List α) (i el s b : Nat) (h : apAt P m = some (some (i, xs.length, rows E xs), el, s, b, ys.length, rows E ys)) (hE : ∀ x, (E x).all AV.one = true) (h0 : 0 < b) (hb : (xs.length + ys.length) * b ≤ 140737488355328) (ht : writeOk m = true)
    (h' : Runs rd P (putM m (some i) (.ref i) ((m.st.hp.map (AObj.kill i)).set i (.list el s (xs ++ ys).length (rows E (xs ++ ys))))) Q) : Runs rd P m Q := by
  obtain ⟨x, y, t, zs, hop, hrow, hsrc, hx, hi⟩ := apAt_parts h
  rw [List.length_append, rows_append] at h'
  exact R.effW hop (.append i el s b xs.length ys.length zs (rows E xs) (rows E ys) hx hi hsrc hrow (by simpa using rows_all hE ys) hb (app_bound hb h0)) ht h'

theorem R.appN (E : α → List AV) (ys : List α) (el s b : Nat) (h : apAt P m = some (none, el, s, b, ys.length, rows E ys)) (hE : ∀ x, (E x).all AV.one = true) (h0 : 0 < b) (hb : ys.length * b ≤ 140737488355328) (ht : writeOk m = true)
    (h' : Runs rd P (putM m none (.ref m.st.hp.length) (m.st.hp ++ [.list el s ys.length (rows E ys)])) Q) : Runs rd P m Q := by
  obtain ⟨x, y, t, zs, hop, hrow, hsrc, hx⟩ := apAt_parts h
  exact R.effW hop (.appendN el s b ys.length zs (rows E ys) hx hsrc hrow (by simpa using rows_all hE ys) hb (app_bound hb h0)) ht h'

/-- A slice of a slice: the row, the bounds. -/
def slAt (P : Program) (m : M) : Option (Nat × Nat × List AV × Option Int × Option Int × Option Int) :=
  match opM m with
  | some (.slice t x lo hi mx) => match ev m.st.fr x, elemB P t with
    | .lst s n cs, some (_, s') =>
      if s' = s then
        match lo.map (ev m.st.fr), hi.map (ev m.st.fr), mx.map (ev m.st.fr) with
        | some (.int _ l), some (.int _ h), some (.int _ c) => some (s, n, cs, some l, some h, some c)
        | some (.int _ l), some (.int _ h), none => some (s, n, cs, some l, some h, none)
        | some (.int _ l), none, none => some (s, n, cs, some l, none, none)
        | none, some (.int _ h), none => some (s, n, cs, none, some h, none)
        | _, _, _ => none
      else none
    | _, _ => none
  | _ => none

def SlX (m : M) : Option Int → Option Operand → Prop
  | some l, some o => ∃ k, ev m.st.fr o = .int k l
  | none, none => True
  | _, _ => False

theorem slAt_parts {s n : Nat} {cs : List AV} {lo hi mx : Option Int} (h : slAt P m = some (s, n, cs, lo, hi, mx)) : ∃ t x el olo ohi omx, opM m = some (.slice t x olo ohi omx) ∧ ev m.st.fr x = .lst s n cs ∧ elemB P t = some (el, s) ∧ SlX m lo olo ∧ SlX m hi ohi ∧ SlX m mx omx := by
  unfold slAt at h
  split at h
  · rename_i t x olo ohi omx hop
    split at h
    · rename_i s0 n0 cs0 el s' hx hel
      split at h
      · rename_i hs
        subst hs
        split at h
        all_goals (try (cases h; done))
        all_goals
          cases h
          refine ⟨t, x, el, olo, ohi, omx, hop, hx, hel, ?_⟩
          cases olo <;> cases ohi <;> cases omx <;> simp_all [SlX]
      · cases h
    · cases h
  · cases h

theorem R.slL (E : α → List AV) (xs : List α) {s : Nat} (l : Nat) (li : Int) (h : slAt P m = some (s, xs.length, rows E xs, some li, none, none)) (hl : li = (l : Int)) (hE : ∀ x, (E x).length = s) (h1 : l ≤ xs.length) (ht : quiet0 m = true)
    (h' : Runs rd P (putM m none (.lst s (xs.drop l).length (rows E (xs.drop l))) m.st.hp) Q) : Runs rd P m Q := by
  obtain ⟨t, x, el, olo, ohi, omx, hop, hx, hel, hlo, hhi, hmx⟩ := slAt_parts h
  cases olo <;> simp only [SlX] at hlo
  cases ohi <;> simp only [SlX] at hhi
  cases omx <;> simp only [SlX] at hmx
  obtain ⟨k, hlo⟩ := hlo
  subst hl
  rw [← rows_drop hE, List.length_drop] at h'
  exact R.eff0 hop (.inl (.sliceL s xs.length el (rows E xs) k l hx hlo hel h1)) ht h'

theorem R.slH (E : α → List AV) (xs : List α) {s : Nat} (l : Nat) (li : Int) (h : slAt P m = some (s, xs.length, rows E xs, none, some li, none)) (hl : li = (l : Int)) (hE : ∀ x, (E x).length = s) (h1 : l ≤ xs.length) (ht : quiet0 m = true)
    (h' : Runs rd P (putM m none (.lst s (xs.take l).length (rows E (xs.take l))) m.st.hp) Q) : Runs rd P m Q := by
  obtain ⟨t, x, el, olo, ohi, omx, hop, hx, hel, hlo, hhi, hmx⟩ := slAt_parts h
  cases olo <;> simp only [SlX] at hlo
  cases ohi <;> simp only [SlX] at hhi
  cases omx <;> simp only [SlX] at hmx
  obtain ⟨k, hhi⟩ := hhi
  subst hl
  rw [← rows_take hE, List.length_take, Nat.min_eq_left h1] at h'
  exact R.eff0 hop (.inl (.sliceH s xs.length el (rows E xs) k l hx hhi hel h1)) ht h'

theorem cut_rows {E : α → List AV} {s : Nat} (hE : ∀ x, (E x).length = s) (xs : List α) (l h : Nat) (h1 : l ≤ h) (h2 : h ≤ xs.length) : ((rows E xs).drop (l * s)).take ((h - l) * s) = rows E ((xs.take h).drop l) ∧ h - l = ((xs.take h).drop l).length := by
  rw [rows_drop hE, rows_take hE, List.drop_take]
  exact ⟨rfl, by simp; omega⟩

theorem R.slLH (E : α → List AV) (xs : List α) {s : Nat} (l h : Nat) (li hi : Int) (h0 : slAt P m = some (s, xs.length, rows E xs, some li, some hi, none)) (hl : li = (l : Int)) (hh : hi = (h : Int)) (hE : ∀ x, (E x).length = s) (h1 : l ≤ h) (h2 : h ≤ xs.length) (ht : quiet0 m = true)
    (h' : Runs rd P (putM m none (.lst s ((xs.take h).drop l).length (rows E ((xs.take h).drop l))) m.st.hp) Q) : Runs rd P m Q := by
  obtain ⟨t, x, el, olo, ohi, omx, hop, hx, hel, hlo, hhi, hmx⟩ := slAt_parts h0
  cases olo <;> simp only [SlX] at hlo
  cases ohi <;> simp only [SlX] at hhi
  cases omx <;> simp only [SlX] at hmx
  obtain ⟨k, hlo⟩ := hlo
  obtain ⟨k', hhi⟩ := hhi
  subst hl
  subst hh
  have hc := cut_rows hE xs l h h1 h2
  rw [← hc.1, ← hc.2] at h'
  exact R.eff0 hop (.inl (.sliceLH s xs.length el (rows E xs) k k' l h hx hlo hhi hel h1 h2)) ht h'

theorem R.slM (E : α → List AV) (xs : List α) {s : Nat} (l h c : Nat) (li hi ci : Int) (h0 : slAt P m = some (s, xs.length, rows E xs, some li, some hi, some ci)) (hl : li = (l : Int)) (hh : hi = (h : Int)) (hc : ci = (c : Int)) (hE : ∀ x, (E x).length = s) (h1 : l ≤ h) (h2 : h ≤ c) (h3 : c ≤ xs.length)
    (ht : quiet0 m = true) (h' : Runs rd P (putM m none (.lst s ((xs.take h).drop l).length (rows E ((xs.take h).drop l))) m.st.hp) Q) : Runs rd P m Q := by
  obtain ⟨t, x, el, olo, ohi, omx, hop, hx, hel, hlo, hhi, hmx⟩ := slAt_parts h0
  cases olo <;> simp only [SlX] at hlo
  cases ohi <;> simp only [SlX] at hhi
  cases omx <;> simp only [SlX] at hmx
  obtain ⟨k, hlo⟩ := hlo
  obtain ⟨k', hhi⟩ := hhi
  obtain ⟨k'', hmx⟩ := hmx
  subst hl
  subst hh
  subst hc
  have hc := cut_rows hE xs l h h1 (by omega)
  rw [← hc.1, ← hc.2] at h'
  exact R.eff0 hop (.inl (.sliceLHM s xs.length el (rows E xs) k k' k'' l h c hx hlo hhi hmx hel h1 h2 h3)) ht h'

def ctAt (P : Program) (m : M) : Option (Nat × Nat × Nat × Nat × List AV × Int) :=
  match opM m with
  | some (.slice t x none (some hi) none) => match ev m.st.fr x, elemB P t, ev m.st.fr hi with
    | .ref i, some (el', s'), .int _ h => match m.st.hp[i]? with
      | some (.list el s n cs) => if el' = el ∧ s' = s ∧ s ≠ 0 then some (i, el, s, n, cs, h) else none
      | _ => none
    | _, _, _ => none
  | _ => none

/-- A row of one's own, cut at its end. -/
theorem R.cut (E : α → List AV) (xs : List α) (i el : Nat) {s : Nat} (h : Nat) (hi : Int) (h0 : ctAt P m = some (i, el, s, xs.length, rows E xs, hi)) (hh : hi = (h : Int)) (hE : ∀ x, (E x).length = s) (h1 : h ≤ xs.length) (ht : writeOk m = true)
    (h' : Runs rd P (putM m (some i) (.ref i) ((m.st.hp.map (AObj.kill i)).set i (.list el s (xs.take h).length (rows E (xs.take h))))) Q) : Runs rd P m Q := by
  unfold ctAt at h0
  split at h0
  · rename_i t x hi0 hop
    split at h0
    · rename_i i0 el' s' k h2 hx hel hhi
      split at h0
      · rename_i el0 s0 n0 cs0 hi1
        split at h0
        · rename_i hc
          obtain ⟨rfl, rfl, hs0⟩ := hc
          simp only [Option.some.injEq, Prod.mk.injEq] at h0
          obtain ⟨rfl, rfl, rfl, rfl, rfl, rfl⟩ := h0
          subst hh
          rw [← rows_take hE, List.length_take, Nat.min_eq_left h1] at h'
          exact R.effW hop (.cut i0 el' s' xs.length h (rows E xs) k hx hi1 hhi hel h1 hs0) ht h'
        · cases h0
      · cases h0
    · cases h0
  · cases h0

def mkAt (P : Program) (m : M) : Option (Nat × Nat × List AV × Nat × Int × Int) :=
  match opM m with
  | some (.makeSlice t x y) => match rowB P t, ev m.st.fr x, ev m.st.fr y with
    | some (el, s, zs, b), .int _ n, .int _ n' => some (el, s, zs, b, n, n')
    | _, _, _ => none
  | _ => none

theorem R.mk (E : α → List AV) (d : α) (el b n : Nat) (ni : Int) (h : mkAt P m = some (el, (E d).length, E d, b, ni, ni)) (hn : ni = (n : Int)) (h0 : 0 < b) (hb : n * b ≤ 140737488355328) (ht : quietOk m [.list el (E d).length 0 []] = true)
    (h' : Runs rd P (putM m none (.ref m.st.hp.length) (m.st.hp ++ [.list el (E d).length (List.replicate n d).length (rows E (List.replicate n d))])) Q) : Runs rd P m Q := by
  unfold mkAt at h
  split at h
  · rename_i t x y hop
    split at h
    · rename_i el0 s0 zs0 b0 k n0 k' n0' hrow hx hy
      simp only [Option.some.injEq, Prod.mk.injEq] at h
      obtain ⟨rfl, rfl, rfl, rfl, rfl, rfl⟩ := h
      subst hn
      rw [← zerosA_rows, List.length_replicate] at h'
      refine R.effM hop (.inl (.makeSlice el0 (E d).length b0 n k k' (E d) hrow hx hy (by rw [Nat.mul_comm]; exact hb) (app_bound hb h0))) ?_ h'
      unfold quietOk at ht ⊢
      split at ht <;> simp_all
    · cases h
  · cases h

/-! ### Calls -/
mutual
/-- An argument as it reads now. -/
def snapA (hp : List AObj) : AV → Option AV
  | .ref i => match hp[i]? with
    | some (.list _ s n cs) => some (.lst s n cs)
    | _ => none
  | .ptr i o => match hp[i]? with
    | some (.box _ cs) => match snapB hp (cs.drop o) with
      | some cs' => some (.rptr cs')
      | none => none
    | _ => none
  | .agg cs => match snapL hp cs with
    | some cs' => some (.agg cs')
    | none => none
  | .fn f cs => match snapL hp cs with
    | some cs' => some (.fn f cs')
    | none => none
  | c => if c.leafy then some c else none
def snapL (hp : List AObj) : List AV → Option (List AV)
  | [] => some []
  | c :: cs => match snapA hp c, snapL hp cs with
    | some c', some cs' => some (c' :: cs')
    | _, _ => none
/-- A box's cells. -/
def snapB (hp : List AObj) : List AV → Option (List AV)
  | [] => some []
  | c :: cs => match (match c with
      | .ref i => match hp[i]? with
        | some (.list _ s n ds) => some (.lst s n ds)
        | _ => none
      | c => if c.leafy then some c else some .top), snapB hp cs with
    | some c', some cs' => some (c' :: cs')
    | _, _ => none
end

theorem Snap.refl_lists (hp : List AObj) : ∀ {cs : List AV}, leafyL cs = true → SnapL hp cs cs
  | [], _ => .nil
  | c :: cs, h => by
    simp only [leafyL, Bool.and_eq_true] at h
    exact .cons (.leaf h.1) (Snap.refl_lists hp h.2)

end

end Go.Abs
