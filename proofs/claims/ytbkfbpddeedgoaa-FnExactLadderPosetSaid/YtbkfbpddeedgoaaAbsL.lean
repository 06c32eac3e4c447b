/- Rules for loops with data of their own. -/
import Derived.Test.YtbkfbpddeedgoaaAbsJ
import Derived.IntWalk
namespace Go.Abs
open Go.RowKit

theorem Sub.keepTo (ks : List Nat) {st : St} (fr1 : List AV) (h : keepF ks st.fr = fr1) : Sub st ⟨fr1, st.hp⟩ := h ▸ Sub.keep ks st

theorem RunA.loopA {α : Type} {P : Program} {c : Code} {st : St} {Q : Exit → St → Prop} (S : α → St) (I : α → Prop) (m : α → Nat) (a0 : α) (hs : Sub st (S a0)) (h0 : I a0)
    (round : ∀ a, I a → RunA P c (S a) fun e st' => match e with | .normal => ∃ a', Sub st' (S a') ∧ I a' ∧ m a' < m a | e => Q e st') : RunA P (.loop c) st Q := by
  refine RunA.sub hs (RunA.loop (fun n st => ∃ a, I a ∧ m a = n ∧ st = S a) (m a0) ⟨a0, h0, rfl, rfl⟩ ?_)
  rintro n st ⟨a, hI, rfl, rfl⟩
  refine (round a hI).mono ?_
  rintro e st' h
  cases e with
  | normal =>
    obtain ⟨a', h1, h2, h3⟩ := h
    exact ⟨S a', h1, m a', h3, a', h2, rfl, rfl⟩
  | exit id => exact h
  | goto l => exact h
  | ret => exact h
  | panic ch => exact h
  | outgrown => exact h

theorem RunA.keep {P : Program} {c : Code} {st : St} {Q : Exit → St → Prop} (ks : List Nat) (fr1 : List AV) (h : keepF ks st.fr = fr1) (h' : RunA P c ⟨fr1, st.hp⟩ Q) : RunA P c st Q := RunA.sub (Sub.keepTo ks fr1 h) h'

theorem get_intsN {xs : List Int} {j : Nat} (h : j < xs.length) : ((xs.map AI).drop (j * 1))[0]? = some (.int .i64 (xs.getD j 0)) := by
  have hlt := h
  rw [Nat.mul_one, List.getElem?_drop, Nat.add_zero, List.getElem?_map, List.getElem?_eq_getElem hlt]
  simp [AI, List.getD_eq_getElem?_getD, List.getElem?_eq_getElem hlt]

theorem RunA.condP {P : Program} {c : Operand} {x y : Code} {st : St} {Q : Exit → St → Prop} (p : Prop) [Decidable p] (hc : ev st.fr c = .bool (decide p)) (ht : p → RunA P x st Q) (hf : ¬ p → RunA P y st Q) : RunA P (.cond c x y) st Q :=
  RunA.cond (decide p) hc (fun h => ht (of_decide_eq_true h)) (fun h => hf (of_decide_eq_false h))

theorem RunA.condN {P : Program} {c : Operand} {x y : Code} {st : St} {Q : Exit → St → Prop} (p : Prop) [Decidable p] (hc : ev st.fr c = .bool (!decide p)) (ht : ¬ p → RunA P x st Q) (hf : p → RunA P y st Q) : RunA P (.cond c x y) st Q :=
  RunA.cond (!decide p) hc (fun h => ht (of_decide_eq_false (by simpa using h))) (fun h => hf (of_decide_eq_true (by simpa using h)))

theorem wrap_id {n : Int} (h0 : -9223372036854775808 ≤ n) (h1 : n < 9223372036854775808) : IntKind.i64.wrap n = n := by
  exact IntWalk.i64_in n ⟨h0, by omega⟩

theorem EffR.addN {P : Program} {e : Operand → AV} {hp : List AObj} {t x y ty} (m n : Int) (hx : e x = .int .i64 m) (hy : e y = .int .i64 n) (h0 : -9223372036854775808 ≤ m + n) (h1 : m + n < 9223372036854775808) : EffR P e hp (.binOp .add t x y ty) (.int .i64 (m + n)) [] :=
  .bin .i64 m n hx hy (by simp only [binA]; rw [wrap_id h0 h1])
theorem EffR.subN {P : Program} {e : Operand → AV} {hp : List AObj} {t x y ty} (m n : Int) (hx : e x = .int .i64 m) (hy : e y = .int .i64 n) (h0 : -9223372036854775808 ≤ m - n) (h1 : m - n < 9223372036854775808) : EffR P e hp (.binOp .sub t x y ty) (.int .i64 (m - n)) [] :=
  .bin .i64 m n hx hy (by simp only [binA]; rw [wrap_id h0 h1])

end Go.Abs
