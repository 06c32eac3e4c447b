/- The law of NishimuraFormula. -/
import Derived.Test.YtbkfbpddeedgoaaH02
namespace Go.Proofs.Ytbkfbpddeedgoaa
open Go.RowKit Go.Abs

theorem lawNF_out (n : Int) (h : inR n 0 8 = false) : CallA Try.prog 5 [AI n] (.bool true) := by
  refine CallA.of Try.func5 rfl (by kernel_rfl) ?_
  refine R.go 7 (R.call true (NF_spec_out n h) (by kernel_rfl) rfl (by kernel_rfl) ?_)
  refine R.go 9 (R.call true (NF_impl_out n h) (by kernel_rfl) rfl (by kernel_rfl) ?_)
  refine R.go 11 (R.call true (eqNodeS_nil) (by kernel_rfl) rfl (by kernel_rfl) ?_)
  refine R.go 17 (R.call true (markNodeS_nil 1) (by kernel_rfl) rfl (by kernel_rfl) ?_)
  refine R.go 10 (R.call true (heldNodeS_nil 1) (by kernel_rfl) rfl (by kernel_rfl) ?_)
  refine R.go 22 (R.call true (NF_impl_out n h) (by kernel_rfl) rfl (by kernel_rfl) ?_)
  refine R.go 11 (R.call true (eqNodeS_nil) (by kernel_rfl) rfl (by kernel_rfl) ?_)
  refine R.go 17 (R.call true (heldNodeS_nil 1) (by kernel_rfl) rfl (by kernel_rfl) ?_)
  exact R.go 23 (R.retE (.bool true) (by kernel_rfl) (by kernel_rfl) (by rfl))

theorem lawNF_in (n : Nat) (hn : n ≤ 8) : CallA Try.prog 5 [AI (n : Int)] (.bool true) := by
  have hr : inR (n : Int) 0 8 = true := by simp [inR]; omega
  have ll : (nishi n).length ≤ 1000 := nishi_len n hn
  refine CallA.of Try.func5 rfl (by kernel_rfl) ?_
  refine R.go 7 (R.call true (NF_spec_in n hn hr).frz (by kernel_rfl) rfl (by kernel_rfl) ?_)
  refine R.go 9 (R.call true (NF_impl_in n hn hr) (by kernel_rfl) rfl (by kernel_rfl) ?_)
  refine R.go 11 (R.call false (eqNodeS_c (nishi n) (nishi n) (by first | omega | (simp <;> omega))) (by kernel_rfl) rfl (by kernel_rfl) ?_)
  refine R.go 2 (R.want (!decide ((nishi n) = (nishi n))) false (by kernel_rfl) (nF rfl) ?_)
  refine R.go 1 (R.want (!decide ((nishi n) = (nishi n))) false (by kernel_rfl) (nF rfl) ?_)
  refine R.go 1 (R.want (!decide ((nishi n) = (nishi n))) false (by kernel_rfl) (nF rfl) ?_)
  refine R.go 1 (R.pick (!decide ((nishi n) = (nishi n))) false (by kernel_rfl) (nF rfl) (by kernel_rfl) ?_)
  refine R.go 11 (R.enter (avs := [.ref 0, AI 1]) Try.func20 rfl (by kernel_rfl) (by kernel_rfl) (by kernel_rfl) ?_)
  intro us1
  refine R.go 10 (R.loop ((fun | (i, ys, q) => (⟨(frm 27 [(0, .ref 0), (1, AI q), (5, AI (i : Int))]), [rowA eN 62 2 ys, .frame us1 (frm 63 [(0, AI (n : Int)), (2, .bool false), (3, LN (nishi n)), (4, AI 0), (5, .ref 0), (6, AI 0), (7, AI 1), (11, .tup [LN (nishi n), AI 0]), (12, AI (n : Int)), (13, .tup [LN (nishi n), AI 0]), (14, LN (nishi n)), (15, AI 0), (16, .tup [.ref 0, AI 0]), (17, AI (n : Int)), (18, .tup [.ref 0, AI 0]), (19, .ref 0), (20, AI 0), (21, .ref 0), (22, LN (nishi n)), (23, .bool (decide ((nishi n) = (nishi n)))), (24, .bool (!decide ((nishi n) = (nishi n)))), (25, .bool (!decide ((nishi n) = (nishi n)))), (26, AI 0), (27, AI 0), (28, .bool false), (29, .bool false), (30, .ref 0), (31, AI 1)])]⟩ : St) : Nat × (List (Int × Int)) × Int → St)) (fun | (i, ys, q) => (i ≤ (nishi n).length) ∧ (ys = markTo (nishi n) 1 i) ∧ (q = 1 + 2 * (i : Int))) (fun | (i, ys, q) => (nishi n).length - i) (0, (nishi n), 1) [0, 1, 5] none (by kernel_rfl) (by kernel_rfl) (by kernel_rfl) ⟨(by omega), (by exact markTo_zero _ _), (by simp)⟩ ?_)
  rintro ⟨i, ys, q⟩ ⟨h5_1, rfl, rfl⟩ R2 N3
  have hl : (markTo (nishi n) 1 i).length = (nishi n).length := markTo_length _ _ _ (by assumption)
  refine R.go 8 (R.cond ((i : Int) < ((markTo (nishi n) 1 i).length : Int)) (by kernel_rfl) (fun c6 => ?_) (fun c6 => ?_))
  · refine R.go 8 (R.idxO 0 2 (markTo (nishi n) 1 i).length i (i : Int) (by kernel_rfl) rfl (by omega) (by kernel_rfl) ?_)
    refine R.go 1 (R.stF eN 0 62 2 (markTo (nishi n) 1 i) (0, 0) i 0 (AI (1 + 2 * (i : Int))) (1 + 2 * (i : Int), ((markTo (nishi n) 1 i).getD i (0, 0)).2) (by kernel_rfl) eN_len (by omega) (by decide) rfl (by kernel_rfl) ?_)
    refine R.go 4 (R.ar ((1 + 2 * (i : Int)) + 1) (by kernel_rfl) (by omega) (by omega) (by kernel_rfl) ?_)
    refine R.go 7 (R.idxO 0 2 ((markTo (nishi n) 1 i).set i (1 + 2 * (i : Int), ((markTo (nishi n) 1 i).getD i (0, 0)).2)).length i (i : Int) (by kernel_rfl) rfl (by first | omega | (simp <;> omega)) (by kernel_rfl) ?_)
    refine R.go 1 (R.stF eN 0 62 2 ((markTo (nishi n) 1 i).set i (1 + 2 * (i : Int), ((markTo (nishi n) 1 i).getD i (0, 0)).2)) (0, 0) i 1 (AI ((1 + 2 * (i : Int)) + 1)) ((((markTo (nishi n) 1 i).set i (1 + 2 * (i : Int), ((markTo (nishi n) 1 i).getD i (0, 0)).2)).getD i (0, 0)).1, (1 + 2 * (i : Int)) + 1) (by kernel_rfl) eN_len (by first | omega | (simp <;> omega)) (by decide) rfl (by kernel_rfl) ?_)
    refine R.go 3 (R.ar (((1 + 2 * (i : Int)) + 1) + 1) (by kernel_rfl) (by omega) (by omega) (by kernel_rfl) ?_)
    refine R.go 5 (R.ar ((i : Int) + 1) (by kernel_rfl) (by omega) (by omega) (by kernel_rfl) ?_)
    exact R.go 2 (R.stop R2 (by kernel_rfl) (N3 (i + 1, ((markTo (nishi n) 1 i).set i (1 + 2 * (i : Int), ((markTo (nishi n) 1 i).getD i (0, 0)).2)).set i ((((markTo (nishi n) 1 i).set i (1 + 2 * (i : Int), ((markTo (nishi n) 1 i).getD i (0, 0)).2)).getD i (0, 0)).1, (1 + 2 * (i : Int)) + 1), ((1 + 2 * (i : Int)) + 1) + 1) [0, 1, 5] none _ (by kernel_rfl) (by kernel_rfl) ⟨(by omega), (by exact markTo_set _ _ _ (by omega) _ _ (by rw [getD_set_eq _ _ _ _ (by omega)])), (by omega)⟩ (by show ((nishi n).length - (i + 1)) < ((nishi n).length - i); omega)))
  · have hi : i = (nishi n).length := by omega
    have hx : markTo (nishi n) 1 i = marks (markTo (nishi n) 1 i).length 1 := by rw [hl, hi]; exact markTo_all _ _ _ rfl
    refine R.go 6 (R.back (AI (1 + 2 * (i : Int))) (frm 63 [(0, AI (n : Int)), (2, .bool false), (3, LN (nishi n)), (4, AI 0), (5, .ref 0), (6, AI 0), (7, AI 1), (11, .tup [LN (nishi n), AI 0]), (12, AI (n : Int)), (13, .tup [LN (nishi n), AI 0]), (14, LN (nishi n)), (15, AI 0), (16, .tup [.ref 0, AI 0]), (17, AI (n : Int)), (18, .tup [.ref 0, AI 0]), (19, .ref 0), (20, AI 0), (21, .ref 0), (22, LN (nishi n)), (23, .bool (decide ((nishi n) = (nishi n)))), (24, .bool (!decide ((nishi n) = (nishi n)))), (25, .bool (!decide ((nishi n) = (nishi n)))), (26, AI 0), (27, AI 0), (28, .bool false), (29, .bool false), (30, .ref 0), (31, AI 1)]) (by kernel_rfl) (by kernel_rfl) (by kernel_rfl) ?_)
    have hi : i = (nishi n).length := by omega
    have hx : markTo (nishi n) 1 i = marks (markTo (nishi n) 1 i).length 1 := by rw [hl, hi]; exact markTo_all _ _ _ rfl
    refine R.go 10 (R.call false (heldNodeS_c (markTo (nishi n) 1 i) 1 (by first | omega | (simp <;> omega)) (by omega) (by first | omega | (simp <;> omega))) (by kernel_rfl) rfl (by kernel_rfl) ?_)
    refine R.go 8 (R.cond ((1 + 2 * ((markTo (nishi n) 1 i).length : Int)) < 0) (by kernel_rfl) (fun c7 => ?_) (fun c7 => ?_))
    · exact R.go 4 (R.retE (.bool false) (by kernel_rfl) (by kernel_rfl) (by first | (rfl) | (exfalso; omega)))
    · refine R.go 8 (R.condN ((1 + 2 * ((markTo (nishi n) 1 i).length : Int)) = (1 + 2 * (i : Int))) (by kernel_rfl) (fun c8 => ?_) (fun c8 => ?_))
      · exact R.go 4 (R.retE (.bool false) (by kernel_rfl) (by kernel_rfl) (by first | (rfl) | (exfalso; omega)))
      · refine R.go 4 (R.call true (NF_impl_in n hn hr) (by kernel_rfl) rfl (by kernel_rfl) ?_)
        refine R.go 11 (R.call false (eqNodeS_c (nishi n) (nishi n) (by first | omega | (simp <;> omega))) (by kernel_rfl) rfl (by kernel_rfl) ?_)
        refine R.go 2 (R.want (!decide ((nishi n) = (nishi n))) false (by kernel_rfl) (nF rfl) ?_)
        refine R.go 1 (R.want (!decide ((nishi n) = (nishi n))) false (by kernel_rfl) (nF rfl) ?_)
        refine R.go 1 (R.want (!decide ((nishi n) = (nishi n))) false (by kernel_rfl) (nF rfl) ?_)
        refine R.go 1 (R.pick (!decide ((nishi n) = (nishi n))) false (by kernel_rfl) (nF rfl) (by kernel_rfl) ?_)
        refine R.go 11 (R.call false (heldNodeS_c (markTo (nishi n) 1 i) 1 (by first | omega | (simp <;> omega)) (by omega) (by first | omega | (simp <;> omega))) (by kernel_rfl) rfl (by kernel_rfl) ?_)
        refine R.go 8 (R.els (decide ((1 + 2 * ((markTo (nishi n) 1 i).length : Int)) < 0)) (by kernel_rfl) (dF c7) ?_)
        refine R.go 8 (R.els (!decide ((1 + 2 * ((markTo (nishi n) 1 i).length : Int)) = (1 + 2 * (i : Int)))) (by kernel_rfl) (nF c8) ?_)
        exact R.go 5 (R.retE (.bool true) (by kernel_rfl) (by kernel_rfl) (by rfl))

theorem lawNF (a : Int) : CallA Try.prog 5 [AI a] (.bool true) := by
  cases h : inR a 0 8 with
  | false => exact lawNF_out a h
  | true =>
    simp only [inR, Bool.and_eq_true, decide_eq_true_eq] at h
    obtain ⟨n, rfl⟩ := Int.eq_ofNat_of_zero_le h.1
    exact lawNF_in n (by omega)

end Go.Proofs.Ytbkfbpddeedgoaa
