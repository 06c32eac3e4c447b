/- The machine's rules: nil slices, append of a count, cells of records. -/
import Derived.Test.YtfkdkhlimdkehaaGreatSymS
namespace Go.Abs
open Go.RowKit

section
variable {rd : Option Nat} {P : Program} {m : M} {Q : Exit → St → Prop} {α : Type}

theorem R.arE (c c' : Int) (h : arAt m = some c) (hc : c = c') (h0 : -9223372036854775808 ≤ c) (h1 : c < 9223372036854775808) (ht : quiet0 m = true) (h' : Runs rd P (putM m none (AI c') m.st.hp) Q) : Runs rd P m Q := by
  subst hc
  exact R.ar c h h0 h1 ht h'

/-- A comparison of a slice with nil. -/
def nlAt (P : Program) (m : M) : Option Nat :=
  match opM m with
  | some (.binOp .eql t x y _) => match ev m.st.fr x, ev m.st.fr y, elemB P t with
    | .lst s n _, .nil, some (_, s') => if s' = s ∧ s ≠ 0 then some n else none
    | _, _, _ => none
  | _ => none

theorem run_eqNil {P : Program} {t el s : Nat} (h : elemB P t = some (el, s)) (A : Option Addr) (n c : Nat) (w : World) : (Op.equal t (.slice A n c) (.slice none 0 0)).run P w = .ok A.isNone w := by
  obtain ⟨hu, _⟩ := elem_parts h
  have h2 : ∀ d : Nat, (Op.equalIn (d + 1) t (.slice A n c) (.slice none 0 0)).run P w = .ok A.isNone w := fun d => by
    simp only [Op.equalIn, Sem.run_bind, run_underlying hu, Result.andThen_ok]
    cases A <;> rfl
  simp only [Op.equal, Op.maxDepth, h2 9999]

theorem R.isNil (n : Nat) (h : nlAt P m = some n) (ho : opsAt m = true) (ht : n = 0 → Runs rd P (putM m none (.bool true) m.st.hp) Q) (hf : Runs rd P (putM m none (.bool false) m.st.hp) Q) : Runs rd P m Q := by
  obtain ⟨ks, ⟨fr, hp⟩⟩ := m
  unfold nlAt opM headOf at h
  unfold opsAt at ho
  simp only [putM, runs_iff] at h ho ht hf ⊢
  split at ho
  · rename_i all o l fl ks'
    simp only [RunsK] at ht hf ⊢
    intro hW Z0 w0 a w hS
    split at h
    · rename_i t x y ty hop
      split at hop
      · rename_i all' o' f' t' heq
        simp only [Option.some.injEq, Prod.mk.injEq] at heq
        obtain ⟨rfl, rfl, rfl, _⟩ := heq
        split at hop
        · rename_i hw
          simp only [Option.some.injEq] at hop
          have hwant := wantH_true hw hW
          obtain ⟨μ, F, hFb, hH, hF, hd, hbel⟩ := hS
          refine wpListIn_step fun K hK => ?_
          rw [wanted_rel hF hwant, if_pos rfl]
          split at h
          · rename_i s n0 cs el s' hx hy hel
            split at h
            · rename_i hs
              obtain ⟨rfl, hs0⟩ := hs
              simp only [Option.some.injEq] at h
              subst h
              have hxv := hx ▸ ev_rel hF x
              have hyv := hy ▸ ev_rel hF y
              simp only [Rel] at hxv hyv
              obtain ⟨A, c, xs, hxv, hcl, hnc, hrd, hr⟩ := hxv
              have hlen := hr.length
              have hrun : (execOp a.eval o).run P w = .ok (.value (.bool A.isNone)) w := by
                simp only [execOp, hop, hxv, hyv, eqGuard_at_slice, binOp, Sem.run_bind, Sem.run_pure, Result.andThen_ok, run_eqNil hel]
              refine wpIn_of_run (fun c' => by rw [hop]; simp) ?_
              rw [hrun]
              have fin : ∀ b : Bool, A.isNone = b → (∀ (Z0 : Nat → Prop) (w0 : World) (a : Act) (w : World), Sim Z0 w0 ⟨putF fr o.dst (.bool b), hp⟩ a w → wpListIn (Fc rd) 0 P all (fun e a' w' => ∃ st', RunsK rd P Q ks' e st' ∧ Sim Z0 w0 st' a' w') l a w) → K (a.put o.dst (.bool A.isNone)) w := by
                intro b hb hg
                exact hK _ _ (hg Z0 w0 _ w ⟨μ, F, hFb, hH, put_rel hF _ (by simp [Rel, hb]), by rw [put_defers']; exact hd, hbel⟩)
              cases hA : A.isNone with
              | true =>
                have hn : n0 = 0 := by
                  rcases Nat.eq_zero_or_pos n0 with h | h
                  · exact h
                  · exfalso
                    have : 0 < n0 * s' := Nat.mul_pos h (by omega)
                    have hne : xs ≠ [] := by rintro rfl; simp at hlen; omega
                    obtain ⟨ad, h1, _⟩ := hrd hne
                    rw [h1] at hA
                    cases hA
                rw [← hA]
                exact fin true hA (ht hn headW_false)
              | false =>
                rw [← hA]
                exact fin false hA (hf headW_false)
            · cases h
          · cases h
        · cases hop
      · cases hop
    · cases h
  · cases ho

/-- An append of a count of zero elements to nil. -/
def azAt (P : Program) (m : M) : Option (Nat × Nat × List AV × Nat × Int) :=
  match opM m with
  | some (.call c) => match c.callee, c.args.toList, c.argTypes.toList with
    | .builtin .append, [x, y], [t, tn] => match ev m.st.fr x, ev m.st.fr y, rowB P t with
      | .nil, .int _ n, some (el, s, zs, b) => if (intB P tn).isSome then some (el, s, zs, b, n) else none
      | _, _, _ => none
    | _, _, _ => none
  | _ => none

theorem R.appZ (E : α → List AV) (d : α) (el b n : Nat) (ni : Int) (h : azAt P m = some (el, (E d).length, E d, b, ni)) (hn : ni = (n : Int)) (h1 : 0 < n) (h0 : 0 < b) (hb : n * b ≤ 140737488355328) (ht : writeOk m = true)
    (h' : Runs rd P (putM m none (.ref m.st.hp.length) (m.st.hp ++ [.list el (E d).length (List.replicate n d).length (rows E (List.replicate n d))])) Q) : Runs rd P m Q := by
  unfold azAt at h
  split at h
  · rename_i c hop
    obtain ⟨callee, args, tys⟩ := c
    simp only at h
    split at h
    · rename_i x y t tn h2 h3
      obtain rfl : args = #[x, y] := Array.toList_inj.1 (by simpa using h2)
      obtain rfl : tys = #[t, tn] := Array.toList_inj.1 (by simpa using h3)
      split at h
      · rename_i k n0 el0 s0 zs0 b0 hx hy hrow
        split at h
        · rename_i htn
          simp only [Option.some.injEq, Prod.mk.injEq] at h
          obtain ⟨rfl, rfl, rfl, rfl, rfl⟩ := h
          subst hn
          rw [← zerosA_rows, List.length_replicate] at h'
          exact R.effW hop (.appendZ el0 (E d).length b0 n k (E d) hx hy hrow htn h1 hb (app_bound hb h0)) ht h'
        · cases h
      · cases h
    · cases h
  · cases h

/-- One cell of an element is written. -/
theorem rows_setE {E : α → List AV} {s : Nat} (hE : ∀ x, (E x).length = s) (xs : List α) (d : α) (j off : Nat) (v : AV) (y : α) (hj : j < xs.length) (ho : off < s) (hy : (E (xs.getD j d)).set off v = E y) : (rows E xs).set (j * s + off) v = rows E (xs.set j y) := by
  induction xs generalizing j with
  | nil => simp at hj
  | cons x xs ih =>
    cases j with
    | zero =>
      simp only [List.getD_cons_zero] at hy
      simp only [Nat.zero_mul, Nat.zero_add, rows, List.set_cons_zero]
      rw [List.set_append_left _ _ (by rw [hE]; exact ho), hy]
    | succ j =>
      have e : (j + 1) * s + off = (E x).length + (j * s + off) := by rw [hE, Nat.add_mul]; omega
      simp only [rows, List.set_cons_succ, e]
      rw [List.set_append_right _ _ (by omega), Nat.add_sub_cancel_left, ih j (by simpa using hj) (by simpa using hy)]

theorem R.stF (E : α → List AV) (i el s : Nat) (xs : List α) (d : α) (j off : Nat) (v : AV) (y : α) (h : stAt P m = some (i, el, s, xs.length, rows E xs, j * s + off, v)) (hE : ∀ x, (E x).length = s) (hj : j < xs.length) (ho : off < s) (hy : (E (xs.getD j d)).set off v = E y) (ht : writeOk m = true)
    (h' : Runs rd P (putM m none .top (m.st.hp.set i (.list el s (xs.set j y).length (rows E (xs.set j y))))) Q) : Runs rd P m Q := by
  unfold stAt at h
  split at h
  · rename_i t p x hop
    split at h
    · rename_i i0 o0 hx hsz
      split at h
      · rename_i el0 s0 n0 cs hi
        split at h
        · rename_i hc
          simp only [Bool.and_eq_true] at hc
          simp only [Option.some.injEq, Prod.mk.injEq] at h
          obtain ⟨rfl, rfl, rfl, rfl, rfl, rfl, h1⟩ := h
          have hlt : j * s0 + off < xs.length * s0 := by
            have : (j + 1) * s0 ≤ xs.length * s0 := Nat.mul_le_mul_right _ hj
            rw [Nat.add_mul] at this
            omega
          have h2 := EffW.store1 (P := P) (e := ev m.st.fr) (hp := m.st.hp) (t := t) (p := p) (x := x) i0 (j * s0 + off) _ hx hi hsz hc.1 (by simp only [AObj.cells]; rw [rows_length hE]; exact hlt) (by simp [hc.2])
          simp only [AObj.cells, AObj.withCells, h1] at h2
          rw [rows_setE hE xs d j off v y hj ho hy] at h2
          rw [List.length_set] at h'
          exact R.effW hop h2 ht h'
        · cases h
      · cases h
    · cases h
  · cases h

/-- make with a capacity. -/
theorem R.mkC (E : α → List AV) (d : α) (el b n c : Nat) (ni ci : Int) (h : mkAt P m = some (el, (E d).length, E d, b, ni, ci)) (hn : ni = (n : Int)) (hc : ci = (c : Int)) (hnc : n ≤ c) (h0 : 0 < b) (hb : c * b ≤ 140737488355328) (ht : quietOk m [.list el (E d).length 0 []] = true)
    (h' : Runs rd P (putM m none (.ref m.st.hp.length) (m.st.hp ++ [.list el (E d).length (List.replicate n d).length (rows E (List.replicate n d))])) Q) : Runs rd P m Q := by
  unfold mkAt at h
  split at h
  · rename_i t x y hop
    split at h
    · rename_i el0 s0 zs0 b0 k n0 k' n0' hrow hx hy
      simp only [Option.some.injEq, Prod.mk.injEq] at h
      obtain ⟨rfl, rfl, rfl, rfl, rfl, rfl⟩ := h
      subst hn
      subst hc
      rw [← zerosA_rows, List.length_replicate] at h'
      refine R.effM hop (.inl (.makeSliceC el0 (E d).length b0 n c k k' (E d) hrow hx hy hnc (by rw [Nat.mul_comm]; exact hb) (app_bound hb h0))) ?_ h'
      unfold quietOk at ht ⊢
      split at ht <;> simp_all
    · cases h
  · cases h

end

/-- A law that returns true, as the rows ask it. -/
theorem CallA.law {P : Program} {f : FuncId} {args : List AV} {w : World} {vs : List Value} (h : CallA P f args (.bool true)) (hr : RelL w (Zone (fun _ => False) NoF w.heap.size) [] args vs) :
    Calls P f vs.toArray w fun e w' => e = .returned (.bool true) ∧ Below w.heap.size w w' := by
  refine (h.2 (fun _ => False) w vs hr).mono ?_
  rintro e w' ⟨v, bs, F', rfl, _, hv, _, _, hb⟩
  simp only [RF] at hv
  obtain ⟨rfl, _⟩ := hv
  exact ⟨rfl, hb⟩

end Go.Abs
