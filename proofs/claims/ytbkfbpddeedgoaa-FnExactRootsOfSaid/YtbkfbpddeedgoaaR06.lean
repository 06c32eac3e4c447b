/- The harness on frames; the law of RootsOf. -/
import Derived.Test.YtbkfbpddeedgoaaR05
import Derived.Test.YtbkfbpddeedgoaaS02
import Derived.Test.YtbkfbpddeedgoaaSymV
namespace Go.Proofs.Ytbkfbpddeedgoaa
open Go.RowKit Go.Abs

theorem szInt64S_c (a : List Int) (n : Nat) (hn : n ≤ 1048576) (hx : a.length ≤ n) : CallA Try.prog 55 [LI a, AI (n : Int)] (AI ((n : Int) - a.length)) := by
  refine CallA.of Try.func55 rfl (by kernel_rfl) ?_
  refine R.go 9 (R.ar ((n : Int) - (a.length : Int)) (by kernel_rfl) (by omega) (by omega) (by kernel_rfl) ?_)
  refine R.go 8 (R.cond (((n : Int) - (a.length : Int)) < 0) (by kernel_rfl) (fun c1 => ?_) (fun c1 => ?_))
  · exact R.go 4 (R.retE (AI (-1)) (by kernel_rfl) (by kernel_rfl) (by first | (rfl) | (exfalso; omega)))
  · exact R.go 6 (R.retE (AI ((n : Int) - (a.length : Int))) (by kernel_rfl) (by kernel_rfl) (by first | (rfl) | (exfalso; omega)))

theorem szInt64S_no (a : List Int) (n : Nat) (hn : n ≤ 1048576) (hx : n < a.length) (hl : a.length ≤ 9223372036854775807) : CallA Try.prog 55 [LI a, AI (n : Int)] (AI (-1)) := by
  refine CallA.of Try.func55 rfl (by kernel_rfl) ?_
  refine R.go 9 (R.ar ((n : Int) - (a.length : Int)) (by kernel_rfl) (by omega) (by omega) (by kernel_rfl) ?_)
  refine R.go 8 (R.cond (((n : Int) - (a.length : Int)) < 0) (by kernel_rfl) (fun c1 => ?_) (fun c1 => ?_))
  · exact R.go 4 (R.retE (AI (-1)) (by kernel_rfl) (by kernel_rfl) (by rfl))
  · exact R.go 6 (R.retE (AI ((n : Int) - (a.length : Int))) (by kernel_rfl) (by kernel_rfl) (by first | (rfl) | (exfalso; omega)))

theorem szFrame_c (n : Int) (xs : List Int) (k : Nat) (hn : k ≤ 1048576) (hx : xs.length ≤ k) : CallA Try.prog 24 [.agg [AI n, LI xs], AI (k : Int)] (AI ((k : Int) - xs.length)) := by
  refine CallA.of Try.func24 rfl (by kernel_rfl) ?_
  refine R.go 10 (R.call true (szInt64S_c xs k hn hx) (by kernel_rfl) rfl (by kernel_rfl) ?_)
  refine R.go 8 (R.cond (((k : Int) - xs.length) < 0) (by kernel_rfl) (fun c1 => ?_) (fun c1 => ?_))
  · exact R.go 4 (R.retE (AI (-1)) (by kernel_rfl) (by kernel_rfl) (by first | (rfl) | (exfalso; omega)))
  · exact R.go 6 (R.retE (AI ((k : Int) - xs.length)) (by kernel_rfl) (by kernel_rfl) (by rfl))

theorem szFrame_no (n : Int) (xs : List Int) (k : Nat) (hn : k ≤ 1048576) (hx : k < xs.length) (hl : xs.length ≤ 9223372036854775807) : CallA Try.prog 24 [.agg [AI n, LI xs], AI (k : Int)] (AI (-1)) := by
  refine CallA.of Try.func24 rfl (by kernel_rfl) ?_
  refine R.go 10 (R.call true (szInt64S_no xs k hn hx hl) (by kernel_rfl) rfl (by kernel_rfl) ?_)
  exact R.go 13 (R.retE (AI (-1)) (by kernel_rfl) (by kernel_rfl) (by rfl))

theorem toInt64S_c (a : List Int) (hl : a.length ≤ 1048576) : CallA Try.prog 60 [LI a] (ownA eI 2 1 a) := by
  refine CallA.of Try.func60 rfl (by kernel_rfl) ?_
  refine R.go 8 (R.mk eI 0 2 8 a.length a.length (by kernel_rfl) rfl (by decide) (by omega) (by kernel_rfl) ?_)
  refine R.go 8 (R.loop ((fun | (i, out) => (⟨(frm 22 [(0, LI a), (3, .ref 0), (4, AI (i : Int))]), [rowA eI 2 1 out]⟩ : St) : Nat × (List Int) → St)) (fun | (i, out) => (i ≤ a.length) ∧ (out.length = a.length) ∧ (out.take i = a.take i)) (fun | (i, out) => a.length - i) (0, (List.replicate a.length 0)) [0, 3, 4] none (by kernel_rfl) (by kernel_rfl) (by kernel_rfl) ⟨(by omega), (by simp), (by rfl)⟩ ?_)
  rintro ⟨i, out⟩ ⟨h4_1, h4_2, h4_3⟩ R1 N2
  refine R.go 8 (R.cond ((i : Int) < (a.length : Int)) (by kernel_rfl) (fun c5 => ?_) (fun c5 => ?_))
  · refine R.go 8 (R.idx eI a 0 i (i : Int) (by kernel_rfl) rfl eI_len (by omega) (by kernel_rfl) ?_)
    refine R.go 1 (R.idxO 0 1 out.length i (i : Int) (by kernel_rfl) rfl (by omega) (by kernel_rfl) ?_)
    refine R.stI 0 2 out i (a.getD i 0) (by kernel_rfl) (by omega) (by kernel_rfl) ?_
    refine R.go 4 (R.ar ((i : Int) + 1) (by kernel_rfl) (by omega) (by omega) (by kernel_rfl) ?_)
    exact R.go 2 (R.stop R1 (by kernel_rfl) (N2 (i + 1, out.set i (a.getD i 0)) [0, 3, 4] none _ (by kernel_rfl) (by kernel_rfl) ⟨(by omega), (by simp <;> omega), (by exact take_step _ _ 0 _ (by simp <;> omega) (by omega) (by rw [List.take_set_of_le (by omega)]; assumption) (by rw [getD_set_eq _ _ _ _ (by omega)]))⟩ (by show (a.length - (i + 1)) < (a.length - i); omega)))
  · exact R.go 6 (R.retE (ownA eI 2 1 out) (by kernel_rfl) (by kernel_rfl) (by first | (rw [show out = a from take_all (i := i) (by omega) (by omega) (by assumption)]) | (exfalso; omega)))

theorem toFrame_c (n : Int) (xs : List Int) (hl : xs.length ≤ 1048576) : CallA Try.prog 26 [.agg [AI n, LI xs]] (.agg [AI n, ownA eI 2 1 xs]) := by
  refine CallA.of Try.func26 rfl (by kernel_rfl) ?_
  refine R.go 20 (R.call true (toInt64S_c xs hl) (by kernel_rfl) rfl (by kernel_rfl) ?_)
  exact R.go 8 (R.retE (.agg [AI n, ownA eI 2 1 xs]) (by kernel_rfl) (by kernel_rfl) (by rfl))

theorem eqInt64S_c (a : List Int) (b : List Int) (la : a.length ≤ 1000000000) : CallA Try.prog 44 [LI a, LI b] (.bool (decide (a = b))) := by
  refine CallA.of Try.func44 rfl (by kernel_rfl) ?_
  refine R.go 13 (R.condN ((a.length : Int) = (b.length : Int)) (by kernel_rfl) (fun c1 => ?_) (fun c1 => ?_))
  · exact R.go 4 (R.retE (.bool false) (by kernel_rfl) (by kernel_rfl) (by first | (first | (rw [dF (fun h => by subst h; omega)]) | (rw [dT (take_all (i := i) (by omega) (by omega) (by assumption))])) | (exfalso; omega)))
  · refine R.go 7 (R.loop (fun (i : Nat) => (⟨(frm 26 [(0, LI a), (1, LI b), (5, AI (i : Int))]), []⟩ : St)) (fun (i : Nat) => (i ≤ a.length) ∧ (a.take i = b.take i)) (fun (i : Nat) => a.length - i) 0 [0, 1, 5] none (by kernel_rfl) (by kernel_rfl) (by kernel_rfl) ⟨(by omega), (by rfl)⟩ ?_)
    rintro i ⟨h4_1, h4_2⟩ R2 N3
    refine R.go 8 (R.cond ((i : Int) < (a.length : Int)) (by kernel_rfl) (fun c5 => ?_) (fun c5 => ?_))
    · refine R.go 7 (R.idx eI a 0 i (i : Int) (by kernel_rfl) rfl eI_len (by omega) (by kernel_rfl) ?_)
      refine R.go 3 (R.idx eI b 0 i (i : Int) (by kernel_rfl) rfl eI_len (by omega) (by kernel_rfl) ?_)
      refine R.go 3 (R.condN ((a.getD i 0) = (b.getD i 0)) (by kernel_rfl) (fun c6 => ?_) (fun c6 => ?_))
      · exact R.go 4 (R.retE (.bool false) (by kernel_rfl) (by kernel_rfl) (by first | (first | (rw [dF (fun h => by subst h; omega)]) | (rw [dT (take_all (i := i) (by omega) (by omega) (by assumption))])) | (exfalso; omega)))
      · refine R.go 4 (R.ar ((i : Int) + 1) (by kernel_rfl) (by omega) (by omega) (by kernel_rfl) ?_)
        exact R.go 2 (R.stop R2 (by kernel_rfl) (N3 (i + 1) [0, 1, 5] none _ (by kernel_rfl) (by kernel_rfl) ⟨(by omega), (by exact take_step a b 0 i (by omega) (by omega) (by assumption) (by assumption))⟩ (by show (a.length - (i + 1)) < (a.length - i); omega)))
    · exact R.go 5 (R.retE (.bool true) (by kernel_rfl) (by kernel_rfl) (by first | (first | (rw [dF (fun h => by subst h; omega)]) | (rw [dT (take_all (i := i) (by omega) (by omega) (by assumption))])) | (exfalso; omega)))

theorem eqFrame_c (n : Int) (xs : List Int) (la : xs.length ≤ 1000000000) : CallA Try.prog 28 [.agg [AI n, LI xs], .agg [AI n, LI xs]] (.bool true) := by
  refine CallA.of Try.func28 rfl (by kernel_rfl) ?_
  refine R.go 15 (R.els (!decide (n = n)) (by kernel_rfl) (nF rfl) ?_)
  refine R.go 8 (R.call true (eqInt64S_c xs xs la) (by kernel_rfl) rfl (by kernel_rfl) ?_)
  refine R.go 2 (R.els (!decide (xs = xs)) (by kernel_rfl) (nF rfl) ?_)
  exact R.go 5 (R.retE (.bool true) (by kernel_rfl) (by kernel_rfl) (by rfl))

theorem lawRO_in (n : Int) (xs : List Int) (hl : xs.length ≤ 1048576) : CallA Try.prog 7 [.agg [AI n, LI xs]] (.bool true) := by
  refine CallA.of Try.func7 rfl (by kernel_rfl) ?_
  refine R.go 13 (R.call true (szFrame_c n xs 1048576 (by omega) hl) (by kernel_rfl) rfl (by kernel_rfl) ?_)
  refine R.go 8 (R.cond (((1048576 : Int) - xs.length) < 0) (by kernel_rfl) (fun c1 => ?_) (fun c1 => ?_))
  · exact R.go 4 (R.retE (.bool true) (by kernel_rfl) (by kernel_rfl) (by rfl))
  · refine R.go 4 (R.call true (toFrame_c n xs hl).frz (by kernel_rfl) rfl (by kernel_rfl) ?_)
    refine R.call true (RO_spec n xs (by first | omega | (simp <;> omega))) (by kernel_rfl) rfl (by kernel_rfl) ?_
    refine R.go 9 (R.call true (toFrame_c n xs hl).frz (by kernel_rfl) rfl (by kernel_rfl) ?_)
    refine R.go 6 (R.call true (RO_impl n xs (by first | omega | (simp <;> omega))) (by kernel_rfl) rfl (by kernel_rfl) ?_)
    refine R.go 13 (R.want (!decide ((rootsI n xs) = (rootsI n xs))) false (by kernel_rfl) (nF rfl) ?_)
    refine R.go 1 (R.want (!decide ((rootsI n xs) = (rootsI n xs))) false (by kernel_rfl) (nF rfl) ?_)
    refine R.go 1 (R.want (!decide ((rootsI n xs) = (rootsI n xs))) false (by kernel_rfl) (nF rfl) ?_)
    refine R.go 1 (R.pick (!decide ((rootsI n xs) = (rootsI n xs))) false (by kernel_rfl) (nF rfl) (by kernel_rfl) ?_)
    refine R.go 1 (R.els (!decide ((rootsC n xs) = (rootsC n xs))) (by kernel_rfl) (nF rfl) ?_)
    refine R.go 6 (R.call true (toFrame_c n xs hl).frz (by kernel_rfl) rfl (by kernel_rfl) ?_)
    refine R.call true (eqFrame_c n xs (by first | omega | (simp <;> omega))) (by kernel_rfl) rfl (by kernel_rfl) ?_
    exact R.go 8 (R.retE (.bool true) (by kernel_rfl) (by kernel_rfl) (by rfl))

theorem lawRO_out (n : Int) (xs : List Int) (hx : 1048576 < xs.length) (hl : xs.length ≤ 9223372036854775807) : CallA Try.prog 7 [.agg [AI n, LI xs]] (.bool true) := by
  refine CallA.of Try.func7 rfl (by kernel_rfl) ?_
  refine R.go 13 (R.call true (szFrame_no n xs 1048576 (by omega) hx hl) (by kernel_rfl) rfl (by kernel_rfl) ?_)
  exact R.go 13 (R.retE (.bool true) (by kernel_rfl) (by kernel_rfl) (by rfl))

theorem lawRO (n : Int) (xs : List Int) (hl : xs.length ≤ maxLen) : CallA Try.prog 7 [.agg [AI n, LI xs]] (.bool true) := by
  have hm : maxLen ≤ 9223372036854775807 := by decide
  rcases Nat.lt_or_ge 1048576 xs.length with h | h
  · exact lawRO_out n xs h (by omega)
  · exact lawRO_in n xs h

end Go.Proofs.Ytbkfbpddeedgoaa
