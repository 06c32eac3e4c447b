/- Comparing, marking and looking at rows of integers and posets. -/
import Derived.Test.YtbkfbpddeedgoaaRows
import Derived.Test.YtbkfbpddeedgoaaAbsM
namespace Go.Proofs.Ytbkfbpddeedgoaa
open Go.RowKit Go.Abs

theorem ext_getD {xs ys : List Int} (hl : xs.length = ys.length) (h : ∀ k, k < xs.length → xs.getD k 0 = ys.getD k 0) : xs = ys := by
  apply List.ext_getElem hl
  intro i h1 h2
  have := h i h1
  simpa [List.getD_eq_getElem?_getD, List.getElem?_eq_getElem h1, List.getElem?_eq_getElem h2] using this

theorem eqInts_c (xs ys : List Int) (hn : xs.length < 2^62) : CallA Try.prog 44 [.lst 1 xs.length (xs.map AI), .lst 1 ys.length (ys.map AI)] (.bool (decide (xs = ys))) := by
  refine callA_of_run Try.func44 rfl ?_
  refine RunA.seq (RunA.goes ?_)
  refine Goes.take 1 (St.mk [AV.lst (1 : Nat) (List.length xs) (List.map AI xs), AV.lst (1 : Nat) (List.length ys) (List.map AI ys), AV.top, AV.top, AV.bool false, AV.top, AV.top, AV.top, AV.top, AV.top, AV.top, AV.top, AV.top, AV.top, AV.top, AV.top, AV.top, AV.top, AV.top, AV.top, AV.top, AV.top, AV.top, AV.top, AV.top, AV.top] []) (by kernel_rfl) ?_
  refine Goes.nil ?_
  refine RunA.seq ?_
  refine RunA.seq (RunA.goes ?_)
  refine Goes.take 5 (St.mk [AV.lst (1 : Nat) (List.length xs) (List.map AI xs), AV.lst (1 : Nat) (List.length ys) (List.map AI ys), AV.top, AV.top, AV.bool false, AV.top, AV.lst (1 : Nat) (List.length xs) (List.map AI xs), AV.int IntKind.i64 (↑(List.length xs) : Int), AV.lst (1 : Nat) (List.length ys) (List.map AI ys), AV.int IntKind.i64 (↑(List.length ys) : Int), AV.bool ((↑(List.length xs) : Int) != (↑(List.length ys) : Int)), AV.top, AV.top, AV.top, AV.top, AV.top, AV.top, AV.top, AV.top, AV.top, AV.top, AV.top, AV.top, AV.top, AV.top, AV.top] []) (by kernel_rfl) ?_
  refine Goes.nil ?_
  refine RunA.condN ((↑(List.length xs) : Int) = (↑(List.length ys) : Int)) (by kernel_rfl) (fun hc1 => ?_) (fun hc1 => ?_)
  · refine RunA.seq (RunA.goes ?_)
    refine Goes.take 1 (St.mk [AV.lst (1 : Nat) (List.length xs) (List.map AI xs), AV.lst (1 : Nat) (List.length ys) (List.map AI ys), AV.top, AV.top, AV.bool false, AV.top, AV.lst (1 : Nat) (List.length xs) (List.map AI xs), AV.int IntKind.i64 (↑(List.length xs) : Int), AV.lst (1 : Nat) (List.length ys) (List.map AI ys), AV.int IntKind.i64 (↑(List.length ys) : Int), AV.bool ((↑(List.length xs) : Int) != (↑(List.length ys) : Int)), AV.top, AV.top, AV.top, AV.top, AV.top, AV.top, AV.top, AV.top, AV.top, AV.top, AV.top, AV.top, AV.top, AV.top, AV.top] []) (by kernel_rfl) ?_
    refine Goes.nil ?_
    refine RunA.ret ?_
    refine Returns.of ([AV.bool false]) [] (.cons .tmp .nil) _ (.leaf (c := AV.bool false) rfl (by intros; simp) (by intros; simp)) (by decide) ?_
    have : xs ≠ ys := by rintro rfl; omega
    simp [this]
  · refine RunA.skip ?_
    refine RunA.seq ?_
    refine RunA.seq (RunA.goes ?_)
    refine Goes.take 1 (St.mk [AV.lst (1 : Nat) (List.length xs) (List.map AI xs), AV.lst (1 : Nat) (List.length ys) (List.map AI ys), AV.top, AV.top, AV.bool false, AV.int IntKind.i64 (0 : Int), AV.lst (1 : Nat) (List.length xs) (List.map AI xs), AV.int IntKind.i64 (↑(List.length xs) : Int), AV.lst (1 : Nat) (List.length ys) (List.map AI ys), AV.int IntKind.i64 (↑(List.length ys) : Int), AV.bool ((↑(List.length xs) : Int) != (↑(List.length ys) : Int)), AV.top, AV.top, AV.top, AV.top, AV.top, AV.top, AV.top, AV.top, AV.top, AV.top, AV.top, AV.top, AV.top, AV.top, AV.top] []) (by kernel_rfl) ?_
    refine Goes.nil ?_
    refine RunA.block ?_
    refine RunA.loopA (α := Nat) (fun i => St.mk [AV.lst (1 : Nat) (List.length xs) (List.map AI xs), AV.lst (1 : Nat) (List.length ys) (List.map AI ys), .top, .top, AV.bool false, (AI (i : Int)), .top, .top, .top, .top, .top, .top, .top, .top, .top, .top, .top, .top, .top, .top, .top, .top, .top, .top, .top, .top] []) (fun i => (i ≤ xs.length ∧ ∀ k, k < i → xs.getD k 0 = ys.getD k 0)) (fun i => (xs.length - i)) (0) (Sub.keepTo [0, 1, 4, 5] _ (by kernel_rfl)) ?_ ?_
    · exact ⟨Nat.zero_le _, fun k hk => by omega⟩
    · rintro i ⟨hi, hk⟩
      refine RunA.seq ?_
      refine RunA.seq (RunA.goes ?_)
      refine Goes.take 4 (St.mk [AV.lst (1 : Nat) (List.length xs) (List.map AI xs), AV.lst (1 : Nat) (List.length ys) (List.map AI ys), AV.top, AV.top, AV.bool false, AV.int IntKind.i64 (↑i : Int), AV.top, AV.top, AV.top, AV.top, AV.top, AV.int IntKind.i64 (↑i : Int), AV.lst (1 : Nat) (List.length xs) (List.map AI xs), AV.int IntKind.i64 (↑(List.length xs) : Int), AV.bool (decide ((↑i : Int) < (↑(List.length xs) : Int))), AV.top, AV.top, AV.top, AV.top, AV.top, AV.top, AV.top, AV.top, AV.top, AV.top, AV.top] []) (by kernel_rfl) ?_
      refine Goes.nil ?_
      refine RunA.condP ((↑i : Int) < (↑(List.length xs) : Int)) (by kernel_rfl) (fun hc2 => ?_) (fun hc2 => ?_)
      · refine RunA.skip ?_
        refine RunA.seq ?_
        refine RunA.block ?_
        refine RunA.seq (RunA.goesD (by kernel_rfl) [0, 0, 0, 0, 0, 0, 0, 0, 0] (by kernel_rfl) ?_)
        refine GoesD.take 2 (St.mk [AV.lst (1 : Nat) (List.length xs) (List.map AI xs), AV.lst (1 : Nat) (List.length ys) (List.map AI ys), AV.top, AV.top, AV.bool false, AV.int IntKind.i64 (↑i : Int), AV.top, AV.top, AV.top, AV.top, AV.top, AV.int IntKind.i64 (↑i : Int), AV.lst (1 : Nat) (List.length xs) (List.map AI xs), AV.int IntKind.i64 (↑(List.length xs) : Int), AV.bool (decide ((↑i : Int) < (↑(List.length xs) : Int))), AV.top, AV.top, AV.lst (1 : Nat) (List.length xs) (List.map AI xs), AV.int IntKind.i64 (↑i : Int), AV.top, AV.top, AV.top, AV.top, AV.top, AV.top, AV.top] []) (by kernel_rfl) (by rfl) ?_
        refine GoesD.eff (by kernel_rfl) (EffR.indexAddr ((1 : Nat)) (List.length xs) (List.map AI xs) .i64 ((↑i : Int)) 2 (by kernel_rfl) (by kernel_rfl) (by kernel_rfl) (by decide) (by first | omega | (simp; omega)) (by first | omega | (simp; omega))) ?_
        refine GoesD.eff (v := .int .i64 (List.getD xs (i) 0)) (by kernel_rfl) (EffR.loadR (List.drop (Int.toNat (↑i : Int) * (1 : Nat)) (List.map AI xs)) (by kernel_rfl) (by kernel_rfl) (get_intsN (by first | omega | (simp; omega)))) ?_
        refine GoesD.take 2 (St.mk [AV.lst (1 : Nat) (List.length xs) (List.map AI xs), AV.lst (1 : Nat) (List.length ys) (List.map AI ys), AV.top, AV.top, AV.bool false, AV.int IntKind.i64 (↑i : Int), AV.top, AV.top, AV.top, AV.top, AV.top, AV.int IntKind.i64 (↑i : Int), AV.lst (1 : Nat) (List.length xs) (List.map AI xs), AV.int IntKind.i64 (↑(List.length xs) : Int), AV.bool (decide ((↑i : Int) < (↑(List.length xs) : Int))), AV.top, AV.top, AV.lst (1 : Nat) (List.length xs) (List.map AI xs), AV.int IntKind.i64 (↑i : Int), AV.rptr (List.drop (Int.toNat (↑i : Int) * (1 : Nat)) (List.map AI xs)), AV.int IntKind.i64 (List.getD xs i (0 : Int)), AV.lst (1 : Nat) (List.length ys) (List.map AI ys), AV.int IntKind.i64 (↑i : Int), AV.top, AV.top, AV.top] []) (by kernel_rfl) (by rfl) ?_
        refine GoesD.eff (by kernel_rfl) (EffR.indexAddr ((1 : Nat)) (List.length ys) (List.map AI ys) .i64 ((↑i : Int)) 2 (by kernel_rfl) (by kernel_rfl) (by kernel_rfl) (by decide) (by first | omega | (simp; omega)) (by first | omega | (simp; omega))) ?_
        refine GoesD.eff (v := .int .i64 (List.getD ys (i) 0)) (by kernel_rfl) (EffR.loadR (List.drop (Int.toNat (↑i : Int) * (1 : Nat)) (List.map AI ys)) (by kernel_rfl) (by kernel_rfl) (get_intsN (by first | omega | (simp; omega)))) ?_
        refine GoesD.take 1 (St.mk [AV.lst (1 : Nat) (List.length xs) (List.map AI xs), AV.lst (1 : Nat) (List.length ys) (List.map AI ys), AV.top, AV.top, AV.bool false, AV.int IntKind.i64 (↑i : Int), AV.top, AV.top, AV.top, AV.top, AV.top, AV.int IntKind.i64 (↑i : Int), AV.lst (1 : Nat) (List.length xs) (List.map AI xs), AV.int IntKind.i64 (↑(List.length xs) : Int), AV.bool (decide ((↑i : Int) < (↑(List.length xs) : Int))), AV.top, AV.top, AV.lst (1 : Nat) (List.length xs) (List.map AI xs), AV.int IntKind.i64 (↑i : Int), AV.rptr (List.drop (Int.toNat (↑i : Int) * (1 : Nat)) (List.map AI xs)), AV.int IntKind.i64 (List.getD xs i (0 : Int)), AV.lst (1 : Nat) (List.length ys) (List.map AI ys), AV.int IntKind.i64 (↑i : Int), AV.rptr (List.drop (Int.toNat (↑i : Int) * (1 : Nat)) (List.map AI ys)), AV.int IntKind.i64 (List.getD ys i (0 : Int)), AV.bool (List.getD xs i (0 : Int) != List.getD ys i (0 : Int))] []) (by kernel_rfl) (by rfl) ?_
        refine GoesD.nil ?_
        refine RunA.condN (List.getD xs i (0 : Int) = List.getD ys i (0 : Int)) (by kernel_rfl) (fun hc3 => ?_) (fun hc3 => ?_)
        · refine RunA.seq (RunA.goes ?_)
          refine Goes.take 1 (St.mk [AV.lst (1 : Nat) (List.length xs) (List.map AI xs), AV.lst (1 : Nat) (List.length ys) (List.map AI ys), AV.top, AV.top, AV.bool false, AV.int IntKind.i64 (↑i : Int), AV.top, AV.top, AV.top, AV.top, AV.top, AV.int IntKind.i64 (↑i : Int), AV.lst (1 : Nat) (List.length xs) (List.map AI xs), AV.int IntKind.i64 (↑(List.length xs) : Int), AV.bool (decide ((↑i : Int) < (↑(List.length xs) : Int))), AV.top, AV.top, AV.lst (1 : Nat) (List.length xs) (List.map AI xs), AV.int IntKind.i64 (↑i : Int), AV.rptr (List.drop (Int.toNat (↑i : Int) * (1 : Nat)) (List.map AI xs)), AV.int IntKind.i64 (List.getD xs i (0 : Int)), AV.lst (1 : Nat) (List.length ys) (List.map AI ys), AV.int IntKind.i64 (↑i : Int), AV.rptr (List.drop (Int.toNat (↑i : Int) * (1 : Nat)) (List.map AI ys)), AV.int IntKind.i64 (List.getD ys i (0 : Int)), AV.bool (List.getD xs i (0 : Int) != List.getD ys i (0 : Int))] []) (by kernel_rfl) ?_
          refine Goes.nil ?_
          refine RunA.ret ?_
          refine Returns.of ([AV.bool false]) [] (.cons .tmp .nil) _ (.leaf (c := AV.bool false) rfl (by intros; simp) (by intros; simp)) (by decide) ?_
          have : xs ≠ ys := by rintro rfl; omega
          simp [this]
        · refine RunA.skip ?_
          refine RunA.goes ?_
          refine Goes.take 1 (St.mk [AV.lst (1 : Nat) (List.length xs) (List.map AI xs), AV.lst (1 : Nat) (List.length ys) (List.map AI ys), AV.top, AV.top, AV.bool false, AV.int IntKind.i64 (↑i : Int), AV.top, AV.top, AV.top, AV.top, AV.top, AV.int IntKind.i64 (↑i : Int), AV.lst (1 : Nat) (List.length xs) (List.map AI xs), AV.int IntKind.i64 (↑(List.length xs) : Int), AV.bool (decide ((↑i : Int) < (↑(List.length xs) : Int))), AV.int IntKind.i64 (↑i : Int), AV.top, AV.lst (1 : Nat) (List.length xs) (List.map AI xs), AV.int IntKind.i64 (↑i : Int), AV.rptr (List.drop (Int.toNat (↑i : Int) * (1 : Nat)) (List.map AI xs)), AV.int IntKind.i64 (List.getD xs i (0 : Int)), AV.lst (1 : Nat) (List.length ys) (List.map AI ys), AV.int IntKind.i64 (↑i : Int), AV.rptr (List.drop (Int.toNat (↑i : Int) * (1 : Nat)) (List.map AI ys)), AV.int IntKind.i64 (List.getD ys i (0 : Int)), AV.bool (List.getD xs i (0 : Int) != List.getD ys i (0 : Int))] []) (by kernel_rfl) ?_
          refine Goes.eff (by kernel_rfl) (EffR.addN ((↑i : Int)) ((1 : Int)) (by kernel_rfl) (by kernel_rfl) (by omega) (by omega)) ?_
          refine Goes.take 1 (St.mk [AV.lst (1 : Nat) (List.length xs) (List.map AI xs), AV.lst (1 : Nat) (List.length ys) (List.map AI ys), AV.top, AV.top, AV.bool false, AV.int IntKind.i64 ((↑i : Int) + (1 : Int)), AV.top, AV.top, AV.top, AV.top, AV.top, AV.int IntKind.i64 (↑i : Int), AV.lst (1 : Nat) (List.length xs) (List.map AI xs), AV.int IntKind.i64 (↑(List.length xs) : Int), AV.bool (decide ((↑i : Int) < (↑(List.length xs) : Int))), AV.int IntKind.i64 (↑i : Int), AV.int IntKind.i64 ((↑i : Int) + (1 : Int)), AV.lst (1 : Nat) (List.length xs) (List.map AI xs), AV.int IntKind.i64 (↑i : Int), AV.rptr (List.drop (Int.toNat (↑i : Int) * (1 : Nat)) (List.map AI xs)), AV.int IntKind.i64 (List.getD xs i (0 : Int)), AV.lst (1 : Nat) (List.length ys) (List.map AI ys), AV.int IntKind.i64 (↑i : Int), AV.rptr (List.drop (Int.toNat (↑i : Int) * (1 : Nat)) (List.map AI ys)), AV.int IntKind.i64 (List.getD ys i (0 : Int)), AV.bool (List.getD xs i (0 : Int) != List.getD ys i (0 : Int))] []) (by kernel_rfl) ?_
          refine Goes.nil ?_
          try dsimp only
          refine Exists.intro ((i + 1)) ?_
          refine And.intro (Sub.trans (Sub.keepTo [0, 1, 4, 5] ([AV.lst (1 : Nat) (List.length xs) (List.map AI xs), AV.lst (1 : Nat) (List.length ys) (List.map AI ys), AV.top, AV.top, AV.bool false, AV.int IntKind.i64 ((↑i : Int) + (1 : Int)), AV.top, AV.top, AV.top, AV.top, AV.top, AV.top, AV.top, AV.top, AV.top, AV.top, AV.top, AV.top, AV.top, AV.top, AV.top, AV.top, AV.top, AV.top, AV.top, AV.top]) (by kernel_rfl)) (Sub.trans (Sub.renI [] ([AV.lst (1 : Nat) (List.length xs) (List.map AI xs), AV.lst (1 : Nat) (List.length ys) (List.map AI ys), AV.top, AV.top, AV.bool false, AV.int IntKind.i64 ((↑i : Int) + (1 : Int)), AV.top, AV.top, AV.top, AV.top, AV.top, AV.top, AV.top, AV.top, AV.top, AV.top, AV.top, AV.top, AV.top, AV.top, AV.top, AV.top, AV.top, AV.top, AV.top, AV.top]) [] (by decide) (by kernel_rfl) renNil) (Sub.of_eq ?_))) (And.intro ?_ ?_)
          · rfl
          · refine ⟨by omega, fun k hk' => ?_⟩
            rcases Nat.lt_or_ge k i with h1 | h1
            · exact hk k h1
            · obtain rfl : k = i := by omega
              omega
          · omega
      · refine RunA.exit ?_
        refine RunA.seq (RunA.goes ?_)
        refine Goes.take 1 (St.mk [AV.lst (1 : Nat) (List.length xs) (List.map AI xs), AV.lst (1 : Nat) (List.length ys) (List.map AI ys), AV.top, AV.top, AV.bool true, AV.int IntKind.i64 (↑i : Int), AV.top, AV.top, AV.top, AV.top, AV.top, AV.int IntKind.i64 (↑i : Int), AV.lst (1 : Nat) (List.length xs) (List.map AI xs), AV.int IntKind.i64 (↑(List.length xs) : Int), AV.bool (decide ((↑i : Int) < (↑(List.length xs) : Int))), AV.top, AV.top, AV.top, AV.top, AV.top, AV.top, AV.top, AV.top, AV.top, AV.top, AV.top] []) (by kernel_rfl) ?_
        refine Goes.nil ?_
        refine RunA.ret ?_
        refine Returns.of ([AV.bool true]) [] (.cons .tmp .nil) _ (.leaf (c := AV.bool true) rfl (by intros; simp) (by intros; simp)) (by decide) ?_
        have : xs = ys := ext_getD (by omega) fun k h => hk k (by omega)
        simp [this]

theorem eqNils_c : CallA Try.prog 44 [.nil, .nil] (.bool true) := by
  refine callA_of_run Try.func44 rfl ?_
  refine RunA.seq (RunA.goes ?_)
  refine Goes.take 1 (St.mk [AV.nil, AV.nil, AV.top, AV.top, AV.bool false, AV.top, AV.top, AV.top, AV.top, AV.top, AV.top, AV.top, AV.top, AV.top, AV.top, AV.top, AV.top, AV.top, AV.top, AV.top, AV.top, AV.top, AV.top, AV.top, AV.top, AV.top] []) (by kernel_rfl) ?_
  refine Goes.nil ?_
  refine RunA.seq ?_
  refine RunA.seq (RunA.goes ?_)
  refine Goes.take 5 (St.mk [AV.nil, AV.nil, AV.top, AV.top, AV.bool false, AV.top, AV.nil, AV.int IntKind.i64 (0 : Int), AV.nil, AV.int IntKind.i64 (0 : Int), AV.bool false, AV.top, AV.top, AV.top, AV.top, AV.top, AV.top, AV.top, AV.top, AV.top, AV.top, AV.top, AV.top, AV.top, AV.top, AV.top] []) (by kernel_rfl) ?_
  refine Goes.nil ?_
  refine RunA.cond false (by kernel_rfl) (fun h => Bool.noConfusion h) (fun _ => ?_)
  refine RunA.skip ?_
  refine RunA.seq ?_
  refine RunA.seq (RunA.goes ?_)
  refine Goes.take 1 (St.mk [AV.nil, AV.nil, AV.top, AV.top, AV.bool false, AV.int IntKind.i64 (0 : Int), AV.nil, AV.int IntKind.i64 (0 : Int), AV.nil, AV.int IntKind.i64 (0 : Int), AV.bool false, AV.top, AV.top, AV.top, AV.top, AV.top, AV.top, AV.top, AV.top, AV.top, AV.top, AV.top, AV.top, AV.top, AV.top, AV.top] []) (by kernel_rfl) ?_
  refine Goes.nil ?_
  refine RunA.block ?_
  refine RunA.loopA (α := Unit) (fun i => St.mk [AV.nil, AV.nil, .top, .top, AV.bool false, (AI 0), .top, .top, .top, .top, .top, .top, .top, .top, .top, .top, .top, .top, .top, .top, .top, .top, .top, .top, .top, .top] []) (fun i => True) (fun i => 0) (()) (Sub.keepTo [0, 1, 4, 5] _ (by kernel_rfl)) ?_ ?_
  · trivial
  · rintro i -
    refine RunA.seq ?_
    refine RunA.seq (RunA.goes ?_)
    refine Goes.take 4 (St.mk [AV.nil, AV.nil, AV.top, AV.top, AV.bool false, AV.int IntKind.i64 (0 : Int), AV.top, AV.top, AV.top, AV.top, AV.top, AV.int IntKind.i64 (0 : Int), AV.nil, AV.int IntKind.i64 (0 : Int), AV.bool false, AV.top, AV.top, AV.top, AV.top, AV.top, AV.top, AV.top, AV.top, AV.top, AV.top, AV.top] []) (by kernel_rfl) ?_
    refine Goes.nil ?_
    refine RunA.cond false (by kernel_rfl) (fun h => Bool.noConfusion h) (fun _ => ?_)
    refine RunA.exit ?_
    refine RunA.seq (RunA.goes ?_)
    refine Goes.take 1 (St.mk [AV.nil, AV.nil, AV.top, AV.top, AV.bool true, AV.int IntKind.i64 (0 : Int), AV.top, AV.top, AV.top, AV.top, AV.top, AV.int IntKind.i64 (0 : Int), AV.nil, AV.int IntKind.i64 (0 : Int), AV.bool false, AV.top, AV.top, AV.top, AV.top, AV.top, AV.top, AV.top, AV.top, AV.top, AV.top, AV.top] []) (by kernel_rfl) ?_
    refine Goes.nil ?_
    refine RunA.ret ?_
    refine Returns.of ([AV.bool true]) [] (.cons .tmp .nil) _ (.leaf (c := AV.bool true) rfl (by intros; simp) (by intros; simp)) (by decide) ?_
    rfl

theorem eqPoset_c (n m : Int) (xs ys : List Int) (hn : xs.length < 2^62) : CallA Try.prog 14 [.agg [AI n, .lst 1 xs.length (xs.map AI)], .agg [AI m, .lst 1 ys.length (ys.map AI)]] (.bool (decide (n = m) && decide (xs = ys))) := by
  refine callA_of_run Try.func14 rfl ?_
  refine RunA.seq (RunA.goes ?_)
  refine Goes.take 3 (St.mk [AV.agg [AV.int IntKind.i64 n, AV.lst (1 : Nat) (List.length xs) (List.map AI xs)], AV.agg [AV.int IntKind.i64 m, AV.lst (1 : Nat) (List.length ys) (List.map AI ys)], AV.ptr (0 : Nat) (0 : Nat), AV.ptr (1 : Nat) (0 : Nat), AV.bool false, AV.top, AV.top, AV.top, AV.top, AV.top, AV.top, AV.top, AV.top, AV.top, AV.top, AV.top] [AObj.box (27 : Nat) [AV.int IntKind.i64 n, AV.lst (1 : Nat) (List.length xs) (List.map AI xs)], AObj.box (27 : Nat) [AV.int IntKind.i64 m, AV.lst (1 : Nat) (List.length ys) (List.map AI ys)]]) (by kernel_rfl) ?_
  refine Goes.nil ?_
  refine RunA.seq ?_
  refine RunA.seq (RunA.goes ?_)
  refine Goes.take 5 (St.mk [AV.agg [AV.int IntKind.i64 n, AV.lst (1 : Nat) (List.length xs) (List.map AI xs)], AV.agg [AV.int IntKind.i64 m, AV.lst (1 : Nat) (List.length ys) (List.map AI ys)], AV.ptr (0 : Nat) (0 : Nat), AV.ptr (1 : Nat) (0 : Nat), AV.bool false, AV.ptr (0 : Nat) (0 : Nat), AV.int IntKind.i64 n, AV.ptr (1 : Nat) (0 : Nat), AV.int IntKind.i64 m, AV.bool (n != m), AV.top, AV.top, AV.top, AV.top, AV.top, AV.top] [AObj.box (27 : Nat) [AV.int IntKind.i64 n, AV.lst (1 : Nat) (List.length xs) (List.map AI xs)], AObj.box (27 : Nat) [AV.int IntKind.i64 m, AV.lst (1 : Nat) (List.length ys) (List.map AI ys)]]) (by kernel_rfl) ?_
  refine Goes.nil ?_
  refine RunA.condN (n = m) (by kernel_rfl) (fun hc4 => ?_) (fun hc4 => ?_)
  · refine RunA.seq (RunA.goes ?_)
    refine Goes.take 1 (St.mk [AV.agg [AV.int IntKind.i64 n, AV.lst (1 : Nat) (List.length xs) (List.map AI xs)], AV.agg [AV.int IntKind.i64 m, AV.lst (1 : Nat) (List.length ys) (List.map AI ys)], AV.ptr (0 : Nat) (0 : Nat), AV.ptr (1 : Nat) (0 : Nat), AV.bool false, AV.ptr (0 : Nat) (0 : Nat), AV.int IntKind.i64 n, AV.ptr (1 : Nat) (0 : Nat), AV.int IntKind.i64 m, AV.bool (n != m), AV.top, AV.top, AV.top, AV.top, AV.top, AV.top] [AObj.box (27 : Nat) [AV.int IntKind.i64 n, AV.lst (1 : Nat) (List.length xs) (List.map AI xs)], AObj.box (27 : Nat) [AV.int IntKind.i64 m, AV.lst (1 : Nat) (List.length ys) (List.map AI ys)]]) (by kernel_rfl) ?_
    refine Goes.nil ?_
    refine RunA.ret ?_
    refine Returns.of ([AV.bool false]) [] (.cons .tmp .nil) _ (.leaf (c := AV.bool false) rfl (by intros; simp) (by intros; simp)) (by decide) ?_
    have : n ≠ m := by assumption
    simp [this]
  · refine RunA.skip ?_
    refine RunA.seq ?_
    refine RunA.seq (RunA.goes ?_)
    refine Goes.take 4 (St.mk [AV.agg [AV.int IntKind.i64 n, AV.lst (1 : Nat) (List.length xs) (List.map AI xs)], AV.agg [AV.int IntKind.i64 m, AV.lst (1 : Nat) (List.length ys) (List.map AI ys)], AV.ptr (0 : Nat) (0 : Nat), AV.ptr (1 : Nat) (0 : Nat), AV.bool false, AV.ptr (0 : Nat) (0 : Nat), AV.int IntKind.i64 n, AV.ptr (1 : Nat) (0 : Nat), AV.int IntKind.i64 m, AV.bool (n != m), AV.ptr (0 : Nat) (1 : Nat), AV.lst (1 : Nat) (List.length xs) (List.map AI xs), AV.ptr (1 : Nat) (1 : Nat), AV.lst (1 : Nat) (List.length ys) (List.map AI ys), AV.top, AV.top] [AObj.box (27 : Nat) [AV.int IntKind.i64 n, AV.lst (1 : Nat) (List.length xs) (List.map AI xs)], AObj.box (27 : Nat) [AV.int IntKind.i64 m, AV.lst (1 : Nat) (List.length ys) (List.map AI ys)]]) (by kernel_rfl) ?_
    refine Goes.call (by kernel_rfl) (CallR.pure 44 [] _ (by kernel_rfl) (enters_of Try.func44 rfl rfl) (by kernel_rfl) (eqInts_c xs ys hn)) ?_
    refine Goes.take 1 (St.mk [AV.agg [AV.int IntKind.i64 n, AV.lst (1 : Nat) (List.length xs) (List.map AI xs)], AV.agg [AV.int IntKind.i64 m, AV.lst (1 : Nat) (List.length ys) (List.map AI ys)], AV.ptr (0 : Nat) (0 : Nat), AV.ptr (1 : Nat) (0 : Nat), AV.bool false, AV.ptr (0 : Nat) (0 : Nat), AV.int IntKind.i64 n, AV.ptr (1 : Nat) (0 : Nat), AV.int IntKind.i64 m, AV.bool (n != m), AV.ptr (0 : Nat) (1 : Nat), AV.lst (1 : Nat) (List.length xs) (List.map AI xs), AV.ptr (1 : Nat) (1 : Nat), AV.lst (1 : Nat) (List.length ys) (List.map AI ys), AV.bool (decide (xs = ys)), AV.bool !decide (xs = ys)] [AObj.box (27 : Nat) [AV.int IntKind.i64 n, AV.lst (1 : Nat) (List.length xs) (List.map AI xs)], AObj.box (27 : Nat) [AV.int IntKind.i64 m, AV.lst (1 : Nat) (List.length ys) (List.map AI ys)]]) (by kernel_rfl) ?_
    refine Goes.nil ?_
    refine RunA.condN (xs = ys) (by kernel_rfl) (fun hc5 => ?_) (fun hc5 => ?_)
    · refine RunA.seq (RunA.goes ?_)
      refine Goes.take 1 (St.mk [AV.agg [AV.int IntKind.i64 n, AV.lst (1 : Nat) (List.length xs) (List.map AI xs)], AV.agg [AV.int IntKind.i64 m, AV.lst (1 : Nat) (List.length ys) (List.map AI ys)], AV.ptr (0 : Nat) (0 : Nat), AV.ptr (1 : Nat) (0 : Nat), AV.bool false, AV.ptr (0 : Nat) (0 : Nat), AV.int IntKind.i64 n, AV.ptr (1 : Nat) (0 : Nat), AV.int IntKind.i64 m, AV.bool (n != m), AV.ptr (0 : Nat) (1 : Nat), AV.lst (1 : Nat) (List.length xs) (List.map AI xs), AV.ptr (1 : Nat) (1 : Nat), AV.lst (1 : Nat) (List.length ys) (List.map AI ys), AV.bool (decide (xs = ys)), AV.bool !decide (xs = ys)] [AObj.box (27 : Nat) [AV.int IntKind.i64 n, AV.lst (1 : Nat) (List.length xs) (List.map AI xs)], AObj.box (27 : Nat) [AV.int IntKind.i64 m, AV.lst (1 : Nat) (List.length ys) (List.map AI ys)]]) (by kernel_rfl) ?_
      refine Goes.nil ?_
      refine RunA.ret ?_
      refine Returns.of ([AV.bool false]) [] (.cons .tmp .nil) _ (.leaf (c := AV.bool false) rfl (by intros; simp) (by intros; simp)) (by decide) ?_
      have h1 : n = m := by assumption
      have h2 : xs ≠ ys := by assumption
      simp [h1, h2]
    · refine RunA.skip ?_
      refine RunA.seq (RunA.goes ?_)
      refine Goes.take 1 (St.mk [AV.agg [AV.int IntKind.i64 n, AV.lst (1 : Nat) (List.length xs) (List.map AI xs)], AV.agg [AV.int IntKind.i64 m, AV.lst (1 : Nat) (List.length ys) (List.map AI ys)], AV.ptr (0 : Nat) (0 : Nat), AV.ptr (1 : Nat) (0 : Nat), AV.bool true, AV.ptr (0 : Nat) (0 : Nat), AV.int IntKind.i64 n, AV.ptr (1 : Nat) (0 : Nat), AV.int IntKind.i64 m, AV.bool (n != m), AV.ptr (0 : Nat) (1 : Nat), AV.lst (1 : Nat) (List.length xs) (List.map AI xs), AV.ptr (1 : Nat) (1 : Nat), AV.lst (1 : Nat) (List.length ys) (List.map AI ys), AV.bool (decide (xs = ys)), AV.bool !decide (xs = ys)] [AObj.box (27 : Nat) [AV.int IntKind.i64 n, AV.lst (1 : Nat) (List.length xs) (List.map AI xs)], AObj.box (27 : Nat) [AV.int IntKind.i64 m, AV.lst (1 : Nat) (List.length ys) (List.map AI ys)]]) (by kernel_rfl) ?_
      refine Goes.nil ?_
      refine RunA.ret ?_
      refine Returns.of ([AV.bool true]) [] (.cons .tmp .nil) _ (.leaf (c := AV.bool true) rfl (by intros; simp) (by intros; simp)) (by decide) ?_
      have h1 : n = m := by assumption
      have h2 : xs = ys := by assumption
      simp [h1, h2]

theorem eqPosetN_c (n : Int) : CallA Try.prog 14 [.agg [AI n, .nil], .agg [AI n, .nil]] (.bool true) := by
  refine callA_of_run Try.func14 rfl ?_
  refine RunA.seq (RunA.goes ?_)
  refine Goes.take 3 (St.mk [AV.agg [AV.int IntKind.i64 n, AV.nil], AV.agg [AV.int IntKind.i64 n, AV.nil], AV.ptr (0 : Nat) (0 : Nat), AV.ptr (1 : Nat) (0 : Nat), AV.bool false, AV.top, AV.top, AV.top, AV.top, AV.top, AV.top, AV.top, AV.top, AV.top, AV.top, AV.top] [AObj.box (27 : Nat) [AV.int IntKind.i64 n, AV.nil], AObj.box (27 : Nat) [AV.int IntKind.i64 n, AV.nil]]) (by kernel_rfl) ?_
  refine Goes.nil ?_
  refine RunA.seq ?_
  refine RunA.seq (RunA.goes ?_)
  refine Goes.take 5 (St.mk [AV.agg [AV.int IntKind.i64 n, AV.nil], AV.agg [AV.int IntKind.i64 n, AV.nil], AV.ptr (0 : Nat) (0 : Nat), AV.ptr (1 : Nat) (0 : Nat), AV.bool false, AV.ptr (0 : Nat) (0 : Nat), AV.int IntKind.i64 n, AV.ptr (1 : Nat) (0 : Nat), AV.int IntKind.i64 n, AV.bool (n != n), AV.top, AV.top, AV.top, AV.top, AV.top, AV.top] [AObj.box (27 : Nat) [AV.int IntKind.i64 n, AV.nil], AObj.box (27 : Nat) [AV.int IntKind.i64 n, AV.nil]]) (by kernel_rfl) ?_
  refine Goes.nil ?_
  refine RunA.condN (n = n) (by kernel_rfl) (fun hc6 => ?_) (fun hc6 => ?_)
  · exfalso; omega
  · refine RunA.skip ?_
    refine RunA.seq ?_
    refine RunA.seq (RunA.goes ?_)
    refine Goes.take 4 (St.mk [AV.agg [AV.int IntKind.i64 n, AV.nil], AV.agg [AV.int IntKind.i64 n, AV.nil], AV.ptr (0 : Nat) (0 : Nat), AV.ptr (1 : Nat) (0 : Nat), AV.bool false, AV.ptr (0 : Nat) (0 : Nat), AV.int IntKind.i64 n, AV.ptr (1 : Nat) (0 : Nat), AV.int IntKind.i64 n, AV.bool (n != n), AV.ptr (0 : Nat) (1 : Nat), AV.nil, AV.ptr (1 : Nat) (1 : Nat), AV.nil, AV.top, AV.top] [AObj.box (27 : Nat) [AV.int IntKind.i64 n, AV.nil], AObj.box (27 : Nat) [AV.int IntKind.i64 n, AV.nil]]) (by kernel_rfl) ?_
    refine Goes.call (by kernel_rfl) (CallR.pure 44 [] _ (by kernel_rfl) (enters_of Try.func44 rfl rfl) (by kernel_rfl) (eqNils_c)) ?_
    refine Goes.take 1 (St.mk [AV.agg [AV.int IntKind.i64 n, AV.nil], AV.agg [AV.int IntKind.i64 n, AV.nil], AV.ptr (0 : Nat) (0 : Nat), AV.ptr (1 : Nat) (0 : Nat), AV.bool false, AV.ptr (0 : Nat) (0 : Nat), AV.int IntKind.i64 n, AV.ptr (1 : Nat) (0 : Nat), AV.int IntKind.i64 n, AV.bool (n != n), AV.ptr (0 : Nat) (1 : Nat), AV.nil, AV.ptr (1 : Nat) (1 : Nat), AV.nil, AV.bool true, AV.bool false] [AObj.box (27 : Nat) [AV.int IntKind.i64 n, AV.nil], AObj.box (27 : Nat) [AV.int IntKind.i64 n, AV.nil]]) (by kernel_rfl) ?_
    refine Goes.nil ?_
    refine RunA.cond false (by kernel_rfl) (fun h => Bool.noConfusion h) (fun _ => ?_)
    refine RunA.skip ?_
    refine RunA.seq (RunA.goes ?_)
    refine Goes.take 1 (St.mk [AV.agg [AV.int IntKind.i64 n, AV.nil], AV.agg [AV.int IntKind.i64 n, AV.nil], AV.ptr (0 : Nat) (0 : Nat), AV.ptr (1 : Nat) (0 : Nat), AV.bool true, AV.ptr (0 : Nat) (0 : Nat), AV.int IntKind.i64 n, AV.ptr (1 : Nat) (0 : Nat), AV.int IntKind.i64 n, AV.bool (n != n), AV.ptr (0 : Nat) (1 : Nat), AV.nil, AV.ptr (1 : Nat) (1 : Nat), AV.nil, AV.bool true, AV.bool false] [AObj.box (27 : Nat) [AV.int IntKind.i64 n, AV.nil], AObj.box (27 : Nat) [AV.int IntKind.i64 n, AV.nil]]) (by kernel_rfl) ?_
    refine Goes.nil ?_
    refine RunA.ret ?_
    refine Returns.of ([AV.bool true]) [] (.cons .tmp .nil) _ (.leaf (c := AV.bool true) rfl (by intros; simp) (by intros; simp)) (by decide) ?_
    rfl

/-- A row after i marks. -/
def ms (xs : List Int) (k : Int) : Nat → List Int
  | 0 => xs
  | i + 1 => (ms xs k i).set i (k + i)

@[simp] theorem ms_length (xs : List Int) (k : Int) : ∀ i, (ms xs k i).length = xs.length
  | 0 => rfl
  | i + 1 => by simp [ms, ms_length xs k i]

theorem ms_get (xs : List Int) (k : Int) : ∀ i, i ≤ xs.length → ∀ j, j < i → (ms xs k i).getD j 0 = k + j
  | 0, _, j, h => by omega
  | i + 1, hi, j, h => by
    simp only [ms, List.getD_eq_getElem?_getD]
    by_cases hj : j = i
    · subst hj
      rw [List.getElem?_set_self (by rw [ms_length]; omega)]
      rfl
    · rw [List.getElem?_set_ne (Ne.symm hj)]
      have := ms_get xs k i (by omega) j (by omega)
      rwa [List.getD_eq_getElem?_getD] at this

theorem mark_s (o0 o1 o3 o4 o5 : AObj) (xs : List Int) (n : Nat) (k : Int) (hn : xs.length = n) (hb : n < 2^32) (hk : 0 ≤ k) (hk' : k < 2^32) :
    CallS Try.prog 45 [.ref 2, AI k] [o0, o1, .list 2 1 n (xs.map AI), o3, o4, o5] (AI (k + n)) ([o0, o1, .list 2 1 n ((ms xs k n).map AI), o3, o4, o5] ++ .dead :: []) := by
  refine callS_of_run Try.func45 rfl ?_
  intro us fr
  refine RunA.seq (RunA.goes ?_)
  refine Goes.take 1 (St.mk [AV.ref (2 : Nat), AV.int IntKind.i64 k, AV.top, AV.top, AV.int IntKind.i64 (0 : Int), AV.top, AV.top, AV.top, AV.top, AV.top, AV.top, AV.top, AV.top, AV.top, AV.top, AV.top, AV.top, AV.top, AV.top] [o0, o1, AObj.list (2 : Nat) (1 : Nat) n (List.map AI xs), o3, o4, o5, AObj.frame us fr]) (by kernel_rfl) ?_
  refine Goes.nil ?_
  refine RunA.seq ?_
  refine RunA.seq (RunA.goes ?_)
  refine Goes.take 1 (St.mk [AV.ref (2 : Nat), AV.int IntKind.i64 k, AV.top, AV.top, AV.int IntKind.i64 (0 : Int), AV.int IntKind.i64 (0 : Int), AV.top, AV.top, AV.top, AV.top, AV.top, AV.top, AV.top, AV.top, AV.top, AV.top, AV.top, AV.top, AV.top] [o0, o1, AObj.list (2 : Nat) (1 : Nat) n (List.map AI xs), o3, o4, o5, AObj.frame us fr]) (by kernel_rfl) ?_
  refine Goes.nil ?_
  refine RunA.block ?_
  refine RunA.loopA (α := Nat × Int) (fun p => St.mk [AV.ref (2 : Nat), (AI p.2), .top, .top, AV.int IntKind.i64 (0 : Int), (AI (p.1 : Int)), .top, .top, .top, .top, .top, .top, .top, .top, .top, .top, .top, .top, .top] [o0, o1, AObj.list 2 1 n ((ms xs k p.1).map AI), o3, o4, o5, AObj.frame us fr]) (fun p => (p.1 ≤ n ∧ p.2 = k + p.1)) (fun p => (n - p.1)) ((0, k)) (Sub.keepTo [0, 1, 4, 5] _ (by kernel_rfl)) ?_ ?_
  · exact ⟨Nat.zero_le _, by simp⟩
  · rintro ⟨i, c⟩ ⟨hi, hc⟩
    simp only at hi hc ⊢
    refine RunA.seq ?_
    refine RunA.seq (RunA.goes ?_)
    refine Goes.take 4 (St.mk [AV.ref (2 : Nat), AV.int IntKind.i64 c, AV.top, AV.top, AV.int IntKind.i64 (0 : Int), AV.int IntKind.i64 (↑i : Int), AV.int IntKind.i64 (↑i : Int), AV.ref (2 : Nat), AV.int IntKind.i64 (↑n : Int), AV.bool (decide ((↑i : Int) < (↑n : Int))), AV.top, AV.top, AV.top, AV.top, AV.top, AV.top, AV.top, AV.top, AV.top] [o0, o1, AObj.list (2 : Nat) (1 : Nat) n (List.map AI (ms xs k i)), o3, o4, o5, AObj.frame us fr]) (by kernel_rfl) ?_
    refine Goes.nil ?_
    refine RunA.condP ((↑i : Int) < (↑n : Int)) (by kernel_rfl) (fun hc7 => ?_) (fun hc7 => ?_)
    · refine RunA.skip ?_
      refine RunA.seq ?_
      refine RunA.block ?_
      refine RunA.seq (RunA.goes ?_)
      refine Goes.take 3 (St.mk [AV.ref (2 : Nat), AV.int IntKind.i64 c, AV.top, AV.top, AV.int IntKind.i64 (0 : Int), AV.int IntKind.i64 (↑i : Int), AV.int IntKind.i64 (↑i : Int), AV.ref (2 : Nat), AV.int IntKind.i64 (↑n : Int), AV.bool (decide ((↑i : Int) < (↑n : Int))), AV.top, AV.top, AV.ref (2 : Nat), AV.int IntKind.i64 (↑i : Int), AV.int IntKind.i64 c, AV.top, AV.top, AV.top, AV.top] [o0, o1, AObj.list (2 : Nat) (1 : Nat) n (List.map AI (ms xs k i)), o3, o4, o5, AObj.frame us fr]) (by kernel_rfl) ?_
      refine Goes.eff (by kernel_rfl) (EffR.indexAddrO 2 ((2 : Nat)) ((1 : Nat)) (n) (List.map AI (ms xs k i)) .i64 ((↑i : Int)) (by kernel_rfl) (by kernel_rfl) (by kernel_rfl) (by kernel_rfl) (by decide) (by first | omega | (simp; omega)) (by first | omega | (simp; omega))) ?_
      refine Goes.storeI (by kernel_rfl) 2 ((2 : Nat)) (n) (ms xs k i) (i) (c) rfl (by kernel_rfl) (by kernel_rfl) (by kernel_rfl) (by kernel_rfl) (by first | omega | (simp; omega)) ?_
      refine Goes.nil ?_
      refine RunA.goes ?_
      refine Goes.take 1 (St.mk [AV.ref (2 : Nat), AV.int IntKind.i64 c, AV.top, AV.top, AV.int IntKind.i64 (0 : Int), AV.int IntKind.i64 (↑i : Int), AV.int IntKind.i64 (↑i : Int), AV.ref (2 : Nat), AV.int IntKind.i64 (↑n : Int), AV.bool (decide ((↑i : Int) < (↑n : Int))), AV.top, AV.top, AV.ref (2 : Nat), AV.int IntKind.i64 (↑i : Int), AV.int IntKind.i64 c, AV.ptr (2 : Nat) (Int.toNat (↑i : Int) * (1 : Nat)), AV.int IntKind.i64 c, AV.top, AV.top] [o0, o1, AObj.list (2 : Nat) (1 : Nat) n (List.map AI (List.set (ms xs k i) i c)), o3, o4, o5, AObj.frame us fr]) (by kernel_rfl) ?_
      refine Goes.eff (by kernel_rfl) (EffR.addN (c) ((1 : Int)) (by kernel_rfl) (by kernel_rfl) (by omega) (by omega)) ?_
      refine Goes.take 1 (St.mk [AV.ref (2 : Nat), AV.int IntKind.i64 (c + (1 : Int)), AV.top, AV.top, AV.int IntKind.i64 (0 : Int), AV.int IntKind.i64 (↑i : Int), AV.int IntKind.i64 (↑i : Int), AV.ref (2 : Nat), AV.int IntKind.i64 (↑n : Int), AV.bool (decide ((↑i : Int) < (↑n : Int))), AV.top, AV.top, AV.ref (2 : Nat), AV.int IntKind.i64 (↑i : Int), AV.int IntKind.i64 c, AV.ptr (2 : Nat) (Int.toNat (↑i : Int) * (1 : Nat)), AV.int IntKind.i64 c, AV.int IntKind.i64 (c + (1 : Int)), AV.top] [o0, o1, AObj.list (2 : Nat) (1 : Nat) n (List.map AI (List.set (ms xs k i) i c)), o3, o4, o5, AObj.frame us fr]) (by kernel_rfl) ?_
      refine Goes.nil ?_
      refine RunA.goes ?_
      refine Goes.take 1 (St.mk [AV.ref (2 : Nat), AV.int IntKind.i64 (c + (1 : Int)), AV.top, AV.top, AV.int IntKind.i64 (0 : Int), AV.int IntKind.i64 (↑i : Int), AV.int IntKind.i64 (↑i : Int), AV.ref (2 : Nat), AV.int IntKind.i64 (↑n : Int), AV.bool (decide ((↑i : Int) < (↑n : Int))), AV.int IntKind.i64 (↑i : Int), AV.top, AV.ref (2 : Nat), AV.int IntKind.i64 (↑i : Int), AV.int IntKind.i64 c, AV.ptr (2 : Nat) (Int.toNat (↑i : Int) * (1 : Nat)), AV.int IntKind.i64 c, AV.int IntKind.i64 (c + (1 : Int)), AV.top] [o0, o1, AObj.list (2 : Nat) (1 : Nat) n (List.map AI (List.set (ms xs k i) i c)), o3, o4, o5, AObj.frame us fr]) (by kernel_rfl) ?_
      refine Goes.eff (by kernel_rfl) (EffR.addN ((↑i : Int)) ((1 : Int)) (by kernel_rfl) (by kernel_rfl) (by omega) (by omega)) ?_
      refine Goes.take 1 (St.mk [AV.ref (2 : Nat), AV.int IntKind.i64 (c + (1 : Int)), AV.top, AV.top, AV.int IntKind.i64 (0 : Int), AV.int IntKind.i64 ((↑i : Int) + (1 : Int)), AV.int IntKind.i64 (↑i : Int), AV.ref (2 : Nat), AV.int IntKind.i64 (↑n : Int), AV.bool (decide ((↑i : Int) < (↑n : Int))), AV.int IntKind.i64 (↑i : Int), AV.int IntKind.i64 ((↑i : Int) + (1 : Int)), AV.ref (2 : Nat), AV.int IntKind.i64 (↑i : Int), AV.int IntKind.i64 c, AV.ptr (2 : Nat) (Int.toNat (↑i : Int) * (1 : Nat)), AV.int IntKind.i64 c, AV.int IntKind.i64 (c + (1 : Int)), AV.top] [o0, o1, AObj.list (2 : Nat) (1 : Nat) n (List.map AI (List.set (ms xs k i) i c)), o3, o4, o5, AObj.frame us fr]) (by kernel_rfl) ?_
      refine Goes.nil ?_
      try dsimp only
      refine Exists.intro ((i + 1, c + 1)) ?_
      refine And.intro (Sub.trans (Sub.keepTo [0, 1, 4, 5] ([AV.ref (2 : Nat), AV.int IntKind.i64 (c + (1 : Int)), AV.top, AV.top, AV.int IntKind.i64 (0 : Int), AV.int IntKind.i64 ((↑i : Int) + (1 : Int)), AV.top, AV.top, AV.top, AV.top, AV.top, AV.top, AV.top, AV.top, AV.top, AV.top, AV.top, AV.top, AV.top]) (by kernel_rfl)) (Sub.of_eq ?_)) (And.intro ?_ ?_)
      · subst hc
        rfl
      · refine ⟨?_, ?_⟩ <;> simp only <;> omega
      · simp only; omega
    · obtain rfl : i = n := by omega
      refine RunA.exit ?_
      refine RunA.seq (RunA.goes ?_)
      refine Goes.take 2 (St.mk [AV.ref (2 : Nat), AV.int IntKind.i64 c, AV.top, AV.top, AV.int IntKind.i64 c, AV.int IntKind.i64 (↑i : Int), AV.int IntKind.i64 (↑i : Int), AV.ref (2 : Nat), AV.int IntKind.i64 (↑i : Int), AV.bool (decide ((↑i : Int) < (↑i : Int))), AV.top, AV.top, AV.top, AV.top, AV.top, AV.top, AV.top, AV.top, AV.int IntKind.i64 c] [o0, o1, AObj.list (2 : Nat) (1 : Nat) i (List.map AI (ms xs k i)), o3, o4, o5, AObj.frame us fr]) (by kernel_rfl) ?_
      refine Goes.nil ?_
      refine RunA.ret ?_
      refine ReturnsS.of ([AV.int IntKind.i64 c]) _ _ (.cons .tmp .nil) ?_ ?_
      · rw [hc]; rfl
      · rfl

theorem held_c (ys : List Int) (n : Nat) (k : Int) (hn : ys.length = n) (hb : n < 2^32) (hk : 0 ≤ k) (hk' : k < 2^32) (h : ∀ j, j < n → ys.getD j 0 = k + j) :
    CallA Try.prog 46 [.lst 1 n (ys.map AI), AI k] (AI (k + n)) := by
  refine callA_of_run Try.func46 rfl ?_
  refine RunA.seq (RunA.goes ?_)
  refine Goes.take 1 (St.mk [AV.lst (1 : Nat) n (List.map AI ys), AV.int IntKind.i64 k, AV.top, AV.top, AV.int IntKind.i64 (0 : Int), AV.top, AV.top, AV.top, AV.top, AV.top, AV.top, AV.top, AV.top, AV.top, AV.top, AV.top, AV.top, AV.top, AV.top, AV.top, AV.top] []) (by kernel_rfl) ?_
  refine Goes.nil ?_
  refine RunA.seq ?_
  refine RunA.seq (RunA.goes ?_)
  refine Goes.take 1 (St.mk [AV.lst (1 : Nat) n (List.map AI ys), AV.int IntKind.i64 k, AV.top, AV.top, AV.int IntKind.i64 (0 : Int), AV.int IntKind.i64 (0 : Int), AV.top, AV.top, AV.top, AV.top, AV.top, AV.top, AV.top, AV.top, AV.top, AV.top, AV.top, AV.top, AV.top, AV.top, AV.top] []) (by kernel_rfl) ?_
  refine Goes.nil ?_
  refine RunA.block ?_
  refine RunA.loopA (α := Nat × Int) (fun p => St.mk [AV.lst (1 : Nat) n (List.map AI ys), (AI p.2), .top, .top, AV.int IntKind.i64 (0 : Int), (AI (p.1 : Int)), .top, .top, .top, .top, .top, .top, .top, .top, .top, .top, .top, .top, .top, .top, .top] []) (fun p => (p.1 ≤ n ∧ p.2 = k + p.1)) (fun p => (n - p.1)) ((0, k)) (Sub.keepTo [0, 1, 4, 5] _ (by kernel_rfl)) ?_ ?_
  · exact ⟨Nat.zero_le _, by simp⟩
  · rintro ⟨i, c⟩ ⟨hi, hc⟩
    simp only at hi hc ⊢
    refine RunA.seq ?_
    refine RunA.seq (RunA.goes ?_)
    refine Goes.take 4 (St.mk [AV.lst (1 : Nat) n (List.map AI ys), AV.int IntKind.i64 c, AV.top, AV.top, AV.int IntKind.i64 (0 : Int), AV.int IntKind.i64 (↑i : Int), AV.int IntKind.i64 (↑i : Int), AV.lst (1 : Nat) n (List.map AI ys), AV.int IntKind.i64 (↑n : Int), AV.bool (decide ((↑i : Int) < (↑n : Int))), AV.top, AV.top, AV.top, AV.top, AV.top, AV.top, AV.top, AV.top, AV.top, AV.top, AV.top] []) (by kernel_rfl) ?_
    refine Goes.nil ?_
    refine RunA.condP ((↑i : Int) < (↑n : Int)) (by kernel_rfl) (fun hc8 => ?_) (fun hc8 => ?_)
    · refine RunA.skip ?_
      refine RunA.seq ?_
      refine RunA.block ?_
      refine RunA.seq ?_
      refine RunA.seq (RunA.goes ?_)
      refine Goes.take 2 (St.mk [AV.lst (1 : Nat) n (List.map AI ys), AV.int IntKind.i64 c, AV.top, AV.top, AV.int IntKind.i64 (0 : Int), AV.int IntKind.i64 (↑i : Int), AV.int IntKind.i64 (↑i : Int), AV.lst (1 : Nat) n (List.map AI ys), AV.int IntKind.i64 (↑n : Int), AV.bool (decide ((↑i : Int) < (↑n : Int))), AV.top, AV.top, AV.lst (1 : Nat) n (List.map AI ys), AV.int IntKind.i64 (↑i : Int), AV.top, AV.top, AV.top, AV.top, AV.top, AV.top, AV.top] []) (by kernel_rfl) ?_
      refine Goes.eff (by kernel_rfl) (EffR.indexAddr ((1 : Nat)) (n) (List.map AI ys) .i64 ((↑i : Int)) 2 (by kernel_rfl) (by kernel_rfl) (by kernel_rfl) (by decide) (by first | omega | (simp; omega)) (by first | omega | (simp; omega))) ?_
      refine Goes.eff (v := .int .i64 (List.getD ys (i) 0)) (news := []) (by kernel_rfl) (EffR.loadR (List.drop (Int.toNat (↑i : Int) * (1 : Nat)) (List.map AI ys)) (by kernel_rfl) (by kernel_rfl) (get_intsN (by first | omega | (simp; omega)))) ?_
      refine Goes.take 2 (St.mk [AV.lst (1 : Nat) n (List.map AI ys), AV.int IntKind.i64 c, AV.top, AV.top, AV.int IntKind.i64 (0 : Int), AV.int IntKind.i64 (↑i : Int), AV.int IntKind.i64 (↑i : Int), AV.lst (1 : Nat) n (List.map AI ys), AV.int IntKind.i64 (↑n : Int), AV.bool (decide ((↑i : Int) < (↑n : Int))), AV.top, AV.top, AV.lst (1 : Nat) n (List.map AI ys), AV.int IntKind.i64 (↑i : Int), AV.rptr (List.drop (Int.toNat (↑i : Int) * (1 : Nat)) (List.map AI ys)), AV.int IntKind.i64 (List.getD ys i (0 : Int)), AV.int IntKind.i64 c, AV.bool (List.getD ys i (0 : Int) != c), AV.top, AV.top, AV.top] []) (by kernel_rfl) ?_
      refine Goes.nil ?_
      refine RunA.condN (List.getD ys i (0 : Int) = c) (by kernel_rfl) (fun hc9 => ?_) (fun hc9 => ?_)
      · have := h i (by omega)
        exfalso; omega
      · refine RunA.skip ?_
        refine RunA.goes ?_
        refine Goes.take 1 (St.mk [AV.lst (1 : Nat) n (List.map AI ys), AV.int IntKind.i64 c, AV.top, AV.top, AV.int IntKind.i64 (0 : Int), AV.int IntKind.i64 (↑i : Int), AV.int IntKind.i64 (↑i : Int), AV.lst (1 : Nat) n (List.map AI ys), AV.int IntKind.i64 (↑n : Int), AV.bool (decide ((↑i : Int) < (↑n : Int))), AV.top, AV.top, AV.lst (1 : Nat) n (List.map AI ys), AV.int IntKind.i64 (↑i : Int), AV.rptr (List.drop (Int.toNat (↑i : Int) * (1 : Nat)) (List.map AI ys)), AV.int IntKind.i64 (List.getD ys i (0 : Int)), AV.int IntKind.i64 c, AV.bool (List.getD ys i (0 : Int) != c), AV.int IntKind.i64 c, AV.top, AV.top] []) (by kernel_rfl) ?_
        refine Goes.eff (by kernel_rfl) (EffR.addN (c) ((1 : Int)) (by kernel_rfl) (by kernel_rfl) (by omega) (by omega)) ?_
        refine Goes.take 1 (St.mk [AV.lst (1 : Nat) n (List.map AI ys), AV.int IntKind.i64 (c + (1 : Int)), AV.top, AV.top, AV.int IntKind.i64 (0 : Int), AV.int IntKind.i64 (↑i : Int), AV.int IntKind.i64 (↑i : Int), AV.lst (1 : Nat) n (List.map AI ys), AV.int IntKind.i64 (↑n : Int), AV.bool (decide ((↑i : Int) < (↑n : Int))), AV.top, AV.top, AV.lst (1 : Nat) n (List.map AI ys), AV.int IntKind.i64 (↑i : Int), AV.rptr (List.drop (Int.toNat (↑i : Int) * (1 : Nat)) (List.map AI ys)), AV.int IntKind.i64 (List.getD ys i (0 : Int)), AV.int IntKind.i64 c, AV.bool (List.getD ys i (0 : Int) != c), AV.int IntKind.i64 c, AV.int IntKind.i64 (c + (1 : Int)), AV.top] []) (by kernel_rfl) ?_
        refine Goes.nil ?_
        refine RunA.goes ?_
        refine Goes.take 1 (St.mk [AV.lst (1 : Nat) n (List.map AI ys), AV.int IntKind.i64 (c + (1 : Int)), AV.top, AV.top, AV.int IntKind.i64 (0 : Int), AV.int IntKind.i64 (↑i : Int), AV.int IntKind.i64 (↑i : Int), AV.lst (1 : Nat) n (List.map AI ys), AV.int IntKind.i64 (↑n : Int), AV.bool (decide ((↑i : Int) < (↑n : Int))), AV.int IntKind.i64 (↑i : Int), AV.top, AV.lst (1 : Nat) n (List.map AI ys), AV.int IntKind.i64 (↑i : Int), AV.rptr (List.drop (Int.toNat (↑i : Int) * (1 : Nat)) (List.map AI ys)), AV.int IntKind.i64 (List.getD ys i (0 : Int)), AV.int IntKind.i64 c, AV.bool (List.getD ys i (0 : Int) != c), AV.int IntKind.i64 c, AV.int IntKind.i64 (c + (1 : Int)), AV.top] []) (by kernel_rfl) ?_
        refine Goes.eff (by kernel_rfl) (EffR.addN ((↑i : Int)) ((1 : Int)) (by kernel_rfl) (by kernel_rfl) (by omega) (by omega)) ?_
        refine Goes.take 1 (St.mk [AV.lst (1 : Nat) n (List.map AI ys), AV.int IntKind.i64 (c + (1 : Int)), AV.top, AV.top, AV.int IntKind.i64 (0 : Int), AV.int IntKind.i64 ((↑i : Int) + (1 : Int)), AV.int IntKind.i64 (↑i : Int), AV.lst (1 : Nat) n (List.map AI ys), AV.int IntKind.i64 (↑n : Int), AV.bool (decide ((↑i : Int) < (↑n : Int))), AV.int IntKind.i64 (↑i : Int), AV.int IntKind.i64 ((↑i : Int) + (1 : Int)), AV.lst (1 : Nat) n (List.map AI ys), AV.int IntKind.i64 (↑i : Int), AV.rptr (List.drop (Int.toNat (↑i : Int) * (1 : Nat)) (List.map AI ys)), AV.int IntKind.i64 (List.getD ys i (0 : Int)), AV.int IntKind.i64 c, AV.bool (List.getD ys i (0 : Int) != c), AV.int IntKind.i64 c, AV.int IntKind.i64 (c + (1 : Int)), AV.top] []) (by kernel_rfl) ?_
        refine Goes.nil ?_
        try dsimp only
        refine Exists.intro ((i + 1, c + 1)) ?_
        refine And.intro (Sub.trans (Sub.keepTo [0, 1, 4, 5] ([AV.lst (1 : Nat) n (List.map AI ys), AV.int IntKind.i64 (c + (1 : Int)), AV.top, AV.top, AV.int IntKind.i64 (0 : Int), AV.int IntKind.i64 ((↑i : Int) + (1 : Int)), AV.top, AV.top, AV.top, AV.top, AV.top, AV.top, AV.top, AV.top, AV.top, AV.top, AV.top, AV.top, AV.top, AV.top, AV.top]) (by kernel_rfl)) (Sub.trans (Sub.renI [] ([AV.lst (1 : Nat) n (List.map AI ys), AV.int IntKind.i64 (c + (1 : Int)), AV.top, AV.top, AV.int IntKind.i64 (0 : Int), AV.int IntKind.i64 ((↑i : Int) + (1 : Int)), AV.top, AV.top, AV.top, AV.top, AV.top, AV.top, AV.top, AV.top, AV.top, AV.top, AV.top, AV.top, AV.top, AV.top, AV.top]) [] (by decide) (by kernel_rfl) renNil) (Sub.of_eq ?_))) (And.intro ?_ ?_)
        · rfl
        · refine ⟨?_, ?_⟩ <;> simp only <;> omega
        · simp only; omega
    · obtain rfl : i = n := by omega
      refine RunA.exit ?_
      refine RunA.seq (RunA.goes ?_)
      refine Goes.take 2 (St.mk [AV.lst (1 : Nat) i (List.map AI ys), AV.int IntKind.i64 c, AV.top, AV.top, AV.int IntKind.i64 c, AV.int IntKind.i64 (↑i : Int), AV.int IntKind.i64 (↑i : Int), AV.lst (1 : Nat) i (List.map AI ys), AV.int IntKind.i64 (↑i : Int), AV.bool (decide ((↑i : Int) < (↑i : Int))), AV.top, AV.top, AV.top, AV.top, AV.top, AV.top, AV.top, AV.top, AV.top, AV.top, AV.int IntKind.i64 c] []) (by kernel_rfl) ?_
      refine Goes.nil ?_
      refine RunA.ret ?_
      refine Returns.of ([AV.int IntKind.i64 c]) [] (.cons .tmp .nil) _ (.leaf (c := AV.int IntKind.i64 c) rfl (by intros; simp) (by intros; simp)) (by decide) ?_
      rw [hc]; rfl

theorem markNil_c (k : Int) : CallA Try.prog 45 [.nil, AI k] (AI k) := by
  refine callA_of_run Try.func45 rfl ?_
  refine RunA.seq (RunA.goes ?_)
  refine Goes.take 1 (St.mk [AV.nil, AV.int IntKind.i64 k, AV.top, AV.top, AV.int IntKind.i64 (0 : Int), AV.top, AV.top, AV.top, AV.top, AV.top, AV.top, AV.top, AV.top, AV.top, AV.top, AV.top, AV.top, AV.top, AV.top] []) (by kernel_rfl) ?_
  refine Goes.nil ?_
  refine RunA.seq ?_
  refine RunA.seq (RunA.goes ?_)
  refine Goes.take 1 (St.mk [AV.nil, AV.int IntKind.i64 k, AV.top, AV.top, AV.int IntKind.i64 (0 : Int), AV.int IntKind.i64 (0 : Int), AV.top, AV.top, AV.top, AV.top, AV.top, AV.top, AV.top, AV.top, AV.top, AV.top, AV.top, AV.top, AV.top] []) (by kernel_rfl) ?_
  refine Goes.nil ?_
  refine RunA.block ?_
  refine RunA.loopA (α := Unit) (fun i => St.mk [AV.nil, AV.int IntKind.i64 k, .top, .top, AV.int IntKind.i64 (0 : Int), (AI 0), .top, .top, .top, .top, .top, .top, .top, .top, .top, .top, .top, .top, .top] []) (fun i => True) (fun i => 0) (()) (Sub.keepTo [0, 1, 4, 5] _ (by kernel_rfl)) ?_ ?_
  · trivial
  · rintro i -
    refine RunA.seq ?_
    refine RunA.seq (RunA.goes ?_)
    refine Goes.take 4 (St.mk [AV.nil, AV.int IntKind.i64 k, AV.top, AV.top, AV.int IntKind.i64 (0 : Int), AV.int IntKind.i64 (0 : Int), AV.int IntKind.i64 (0 : Int), AV.nil, AV.int IntKind.i64 (0 : Int), AV.bool false, AV.top, AV.top, AV.top, AV.top, AV.top, AV.top, AV.top, AV.top, AV.top] []) (by kernel_rfl) ?_
    refine Goes.nil ?_
    refine RunA.cond false (by kernel_rfl) (fun h => Bool.noConfusion h) (fun _ => ?_)
    refine RunA.exit ?_
    refine RunA.seq (RunA.goes ?_)
    refine Goes.take 2 (St.mk [AV.nil, AV.int IntKind.i64 k, AV.top, AV.top, AV.int IntKind.i64 k, AV.int IntKind.i64 (0 : Int), AV.int IntKind.i64 (0 : Int), AV.nil, AV.int IntKind.i64 (0 : Int), AV.bool false, AV.top, AV.top, AV.top, AV.top, AV.top, AV.top, AV.top, AV.top, AV.int IntKind.i64 k] []) (by kernel_rfl) ?_
    refine Goes.nil ?_
    refine RunA.ret ?_
    refine Returns.of ([AV.int IntKind.i64 k]) [] (.cons .tmp .nil) _ (.leaf (c := AV.int IntKind.i64 k) rfl (by intros; simp) (by intros; simp)) (by decide) ?_
    rfl

theorem heldNil_c (k : Int) : CallA Try.prog 46 [.nil, AI k] (AI k) := by
  refine callA_of_run Try.func46 rfl ?_
  refine RunA.seq (RunA.goes ?_)
  refine Goes.take 1 (St.mk [AV.nil, AV.int IntKind.i64 k, AV.top, AV.top, AV.int IntKind.i64 (0 : Int), AV.top, AV.top, AV.top, AV.top, AV.top, AV.top, AV.top, AV.top, AV.top, AV.top, AV.top, AV.top, AV.top, AV.top, AV.top, AV.top] []) (by kernel_rfl) ?_
  refine Goes.nil ?_
  refine RunA.seq ?_
  refine RunA.seq (RunA.goes ?_)
  refine Goes.take 1 (St.mk [AV.nil, AV.int IntKind.i64 k, AV.top, AV.top, AV.int IntKind.i64 (0 : Int), AV.int IntKind.i64 (0 : Int), AV.top, AV.top, AV.top, AV.top, AV.top, AV.top, AV.top, AV.top, AV.top, AV.top, AV.top, AV.top, AV.top, AV.top, AV.top] []) (by kernel_rfl) ?_
  refine Goes.nil ?_
  refine RunA.block ?_
  refine RunA.loopA (α := Unit) (fun i => St.mk [AV.nil, AV.int IntKind.i64 k, .top, .top, AV.int IntKind.i64 (0 : Int), (AI 0), .top, .top, .top, .top, .top, .top, .top, .top, .top, .top, .top, .top, .top, .top, .top] []) (fun i => True) (fun i => 0) (()) (Sub.keepTo [0, 1, 4, 5] _ (by kernel_rfl)) ?_ ?_
  · trivial
  · rintro i -
    refine RunA.seq ?_
    refine RunA.seq (RunA.goes ?_)
    refine Goes.take 4 (St.mk [AV.nil, AV.int IntKind.i64 k, AV.top, AV.top, AV.int IntKind.i64 (0 : Int), AV.int IntKind.i64 (0 : Int), AV.int IntKind.i64 (0 : Int), AV.nil, AV.int IntKind.i64 (0 : Int), AV.bool false, AV.top, AV.top, AV.top, AV.top, AV.top, AV.top, AV.top, AV.top, AV.top, AV.top, AV.top] []) (by kernel_rfl) ?_
    refine Goes.nil ?_
    refine RunA.cond false (by kernel_rfl) (fun h => Bool.noConfusion h) (fun _ => ?_)
    refine RunA.exit ?_
    refine RunA.seq (RunA.goes ?_)
    refine Goes.take 2 (St.mk [AV.nil, AV.int IntKind.i64 k, AV.top, AV.top, AV.int IntKind.i64 k, AV.int IntKind.i64 (0 : Int), AV.int IntKind.i64 (0 : Int), AV.nil, AV.int IntKind.i64 (0 : Int), AV.bool false, AV.top, AV.top, AV.top, AV.top, AV.top, AV.top, AV.top, AV.top, AV.top, AV.top, AV.int IntKind.i64 k] []) (by kernel_rfl) ?_
    refine Goes.nil ?_
    refine RunA.ret ?_
    refine Returns.of ([AV.int IntKind.i64 k]) [] (.cons .tmp .nil) _ (.leaf (c := AV.int IntKind.i64 k) rfl (by intros; simp) (by intros; simp)) (by decide) ?_
    rfl

theorem markPosetNil_c (x : Int) (k : Int) : CallA Try.prog 15 [.agg [AI x, .nil], AI k] (AI k) := by
  refine callA_of_run Try.func15 rfl ?_
  refine RunA.seq (RunA.goes ?_)
  refine Goes.take 2 (St.mk [AV.agg [AV.int IntKind.i64 x, AV.nil], AV.int IntKind.i64 k, AV.ptr (0 : Nat) (0 : Nat), AV.top, AV.int IntKind.i64 (0 : Int), AV.top, AV.top, AV.top, AV.top, AV.top] [AObj.box (27 : Nat) [AV.int IntKind.i64 x, AV.nil]]) (by kernel_rfl) ?_
  refine Goes.nil ?_
  refine RunA.seq (RunA.goes ?_)
  refine Goes.take 3 (St.mk [AV.agg [AV.int IntKind.i64 x, AV.nil], AV.int IntKind.i64 k, AV.ptr (0 : Nat) (0 : Nat), AV.top, AV.int IntKind.i64 (0 : Int), AV.ptr (0 : Nat) (1 : Nat), AV.nil, AV.int IntKind.i64 k, AV.top, AV.top] [AObj.box (27 : Nat) [AV.int IntKind.i64 x, AV.nil]]) (by kernel_rfl) ?_
  refine Goes.call (by kernel_rfl) (CallR.pure 45 [] _ (by kernel_rfl) (enters_of Try.func45 rfl rfl) (by kernel_rfl) (markNil_c k)) ?_
  refine Goes.take 1 (St.mk [AV.agg [AV.int IntKind.i64 x, AV.nil], AV.int IntKind.i64 k, AV.ptr (0 : Nat) (0 : Nat), AV.top, AV.int IntKind.i64 (0 : Int), AV.ptr (0 : Nat) (1 : Nat), AV.nil, AV.int IntKind.i64 k, AV.int IntKind.i64 k, AV.top] [AObj.box (27 : Nat) [AV.int IntKind.i64 x, AV.nil]]) (by kernel_rfl) ?_
  refine Goes.nil ?_
  refine RunA.seq (RunA.goes ?_)
  refine Goes.take 2 (St.mk [AV.agg [AV.int IntKind.i64 x, AV.nil], AV.int IntKind.i64 k, AV.ptr (0 : Nat) (0 : Nat), AV.top, AV.int IntKind.i64 k, AV.ptr (0 : Nat) (1 : Nat), AV.nil, AV.int IntKind.i64 k, AV.int IntKind.i64 k, AV.int IntKind.i64 k] [AObj.box (27 : Nat) [AV.int IntKind.i64 x, AV.nil]]) (by kernel_rfl) ?_
  refine Goes.nil ?_
  refine RunA.ret ?_
  refine Returns.of ([AV.int IntKind.i64 k]) [] (.cons .tmp .nil) _ (.leaf (c := AV.int IntKind.i64 k) rfl (by intros; simp) (by intros; simp)) (by decide) ?_
  rfl

theorem heldPosetNil_c (x : Int) (k : Int) (hk : 0 ≤ k) : CallA Try.prog 16 [.agg [AI x, .nil], AI k] (AI k) := by
  refine callA_of_run Try.func16 rfl ?_
  refine RunA.seq (RunA.goes ?_)
  refine Goes.take 2 (St.mk [AV.agg [AV.int IntKind.i64 x, AV.nil], AV.int IntKind.i64 k, AV.ptr (0 : Nat) (0 : Nat), AV.top, AV.int IntKind.i64 (0 : Int), AV.top, AV.top, AV.top, AV.top, AV.top, AV.top, AV.top] [AObj.box (27 : Nat) [AV.int IntKind.i64 x, AV.nil]]) (by kernel_rfl) ?_
  refine Goes.nil ?_
  refine RunA.seq (RunA.goes ?_)
  refine Goes.take 3 (St.mk [AV.agg [AV.int IntKind.i64 x, AV.nil], AV.int IntKind.i64 k, AV.ptr (0 : Nat) (0 : Nat), AV.top, AV.int IntKind.i64 (0 : Int), AV.ptr (0 : Nat) (1 : Nat), AV.nil, AV.int IntKind.i64 k, AV.top, AV.top, AV.top, AV.top] [AObj.box (27 : Nat) [AV.int IntKind.i64 x, AV.nil]]) (by kernel_rfl) ?_
  refine Goes.call (by kernel_rfl) (CallR.pure 46 [] _ (by kernel_rfl) (enters_of Try.func46 rfl rfl) (by kernel_rfl) (heldNil_c k)) ?_
  refine Goes.take 1 (St.mk [AV.agg [AV.int IntKind.i64 x, AV.nil], AV.int IntKind.i64 k, AV.ptr (0 : Nat) (0 : Nat), AV.top, AV.int IntKind.i64 (0 : Int), AV.ptr (0 : Nat) (1 : Nat), AV.nil, AV.int IntKind.i64 k, AV.int IntKind.i64 k, AV.top, AV.top, AV.top] [AObj.box (27 : Nat) [AV.int IntKind.i64 x, AV.nil]]) (by kernel_rfl) ?_
  refine Goes.nil ?_
  refine RunA.seq ?_
  refine RunA.seq (RunA.goes ?_)
  refine Goes.take 2 (St.mk [AV.agg [AV.int IntKind.i64 x, AV.nil], AV.int IntKind.i64 k, AV.ptr (0 : Nat) (0 : Nat), AV.top, AV.int IntKind.i64 (0 : Int), AV.ptr (0 : Nat) (1 : Nat), AV.nil, AV.int IntKind.i64 k, AV.int IntKind.i64 k, AV.int IntKind.i64 k, AV.bool (decide (k < (0 : Int))), AV.top] [AObj.box (27 : Nat) [AV.int IntKind.i64 x, AV.nil]]) (by kernel_rfl) ?_
  refine Goes.nil ?_
  refine RunA.condP (k < (0 : Int)) (by kernel_rfl) (fun hc10 => ?_) (fun hc10 => ?_)
  · exfalso; omega
  · refine RunA.skip ?_
    refine RunA.seq (RunA.goes ?_)
    refine Goes.take 2 (St.mk [AV.agg [AV.int IntKind.i64 x, AV.nil], AV.int IntKind.i64 k, AV.ptr (0 : Nat) (0 : Nat), AV.top, AV.int IntKind.i64 k, AV.ptr (0 : Nat) (1 : Nat), AV.nil, AV.int IntKind.i64 k, AV.int IntKind.i64 k, AV.int IntKind.i64 k, AV.bool (decide (k < (0 : Int))), AV.int IntKind.i64 k] [AObj.box (27 : Nat) [AV.int IntKind.i64 x, AV.nil]]) (by kernel_rfl) ?_
    refine Goes.nil ?_
    refine RunA.ret ?_
    refine Returns.of ([AV.int IntKind.i64 k]) [] (.cons .tmp .nil) _ (.leaf (c := AV.int IntKind.i64 k) rfl (by intros; simp) (by intros; simp)) (by decide) ?_
    rfl

theorem heldPoset_c (x : Int) (ys : List Int) (n : Nat) (k : Int) (hn : ys.length = n) (hb : n < 2^32) (hk : 0 ≤ k) (hk' : k < 2^32) (h : ∀ j, j < n → ys.getD j 0 = k + j) :
    CallA Try.prog 16 [.agg [AI x, .lst 1 n (ys.map AI)], AI k] (AI (k + n)) := by
  refine callA_of_run Try.func16 rfl ?_
  refine RunA.seq (RunA.goes ?_)
  refine Goes.take 2 (St.mk [AV.agg [AV.int IntKind.i64 x, AV.lst (1 : Nat) n (List.map AI ys)], AV.int IntKind.i64 k, AV.ptr (0 : Nat) (0 : Nat), AV.top, AV.int IntKind.i64 (0 : Int), AV.top, AV.top, AV.top, AV.top, AV.top, AV.top, AV.top] [AObj.box (27 : Nat) [AV.int IntKind.i64 x, AV.lst (1 : Nat) n (List.map AI ys)]]) (by kernel_rfl) ?_
  refine Goes.nil ?_
  refine RunA.seq (RunA.goes ?_)
  refine Goes.take 3 (St.mk [AV.agg [AV.int IntKind.i64 x, AV.lst (1 : Nat) n (List.map AI ys)], AV.int IntKind.i64 k, AV.ptr (0 : Nat) (0 : Nat), AV.top, AV.int IntKind.i64 (0 : Int), AV.ptr (0 : Nat) (1 : Nat), AV.lst (1 : Nat) n (List.map AI ys), AV.int IntKind.i64 k, AV.top, AV.top, AV.top, AV.top] [AObj.box (27 : Nat) [AV.int IntKind.i64 x, AV.lst (1 : Nat) n (List.map AI ys)]]) (by kernel_rfl) ?_
  refine Goes.call (by kernel_rfl) (CallR.pure 46 [] _ (by kernel_rfl) (enters_of Try.func46 rfl rfl) (by kernel_rfl) (held_c ys n k hn hb hk hk' h)) ?_
  refine Goes.take 1 (St.mk [AV.agg [AV.int IntKind.i64 x, AV.lst (1 : Nat) n (List.map AI ys)], AV.int IntKind.i64 (k + (↑n : Int)), AV.ptr (0 : Nat) (0 : Nat), AV.top, AV.int IntKind.i64 (0 : Int), AV.ptr (0 : Nat) (1 : Nat), AV.lst (1 : Nat) n (List.map AI ys), AV.int IntKind.i64 k, AV.int IntKind.i64 (k + (↑n : Int)), AV.top, AV.top, AV.top] [AObj.box (27 : Nat) [AV.int IntKind.i64 x, AV.lst (1 : Nat) n (List.map AI ys)]]) (by kernel_rfl) ?_
  refine Goes.nil ?_
  refine RunA.seq ?_
  refine RunA.seq (RunA.goes ?_)
  refine Goes.take 2 (St.mk [AV.agg [AV.int IntKind.i64 x, AV.lst (1 : Nat) n (List.map AI ys)], AV.int IntKind.i64 (k + (↑n : Int)), AV.ptr (0 : Nat) (0 : Nat), AV.top, AV.int IntKind.i64 (0 : Int), AV.ptr (0 : Nat) (1 : Nat), AV.lst (1 : Nat) n (List.map AI ys), AV.int IntKind.i64 k, AV.int IntKind.i64 (k + (↑n : Int)), AV.int IntKind.i64 (k + (↑n : Int)), AV.bool (decide (k + (↑n : Int) < (0 : Int))), AV.top] [AObj.box (27 : Nat) [AV.int IntKind.i64 x, AV.lst (1 : Nat) n (List.map AI ys)]]) (by kernel_rfl) ?_
  refine Goes.nil ?_
  refine RunA.condP (k + (↑n : Int) < (0 : Int)) (by kernel_rfl) (fun hc11 => ?_) (fun hc11 => ?_)
  · exfalso; omega
  · refine RunA.skip ?_
    refine RunA.seq (RunA.goes ?_)
    refine Goes.take 2 (St.mk [AV.agg [AV.int IntKind.i64 x, AV.lst (1 : Nat) n (List.map AI ys)], AV.int IntKind.i64 (k + (↑n : Int)), AV.ptr (0 : Nat) (0 : Nat), AV.top, AV.int IntKind.i64 (k + (↑n : Int)), AV.ptr (0 : Nat) (1 : Nat), AV.lst (1 : Nat) n (List.map AI ys), AV.int IntKind.i64 k, AV.int IntKind.i64 (k + (↑n : Int)), AV.int IntKind.i64 (k + (↑n : Int)), AV.bool (decide (k + (↑n : Int) < (0 : Int))), AV.int IntKind.i64 (k + (↑n : Int))] [AObj.box (27 : Nat) [AV.int IntKind.i64 x, AV.lst (1 : Nat) n (List.map AI ys)]]) (by kernel_rfl) ?_
    refine Goes.nil ?_
    refine RunA.ret ?_
    refine Returns.of ([AV.int IntKind.i64 (k + (↑n : Int))]) [] (.cons .tmp .nil) _ (.leaf (c := AV.int IntKind.i64 (k + (↑n : Int))) rfl (by intros; simp) (by intros; simp)) (by decide) ?_
    rfl

theorem markPoset_s (o0 o1 o3 : AObj) (x : Int) (xs : List Int) (n : Nat) (k : Int) (hn : xs.length = n) (hb : n < 2^32) (hk : 0 ≤ k) (hk' : k < 2^32) :
    CallS Try.prog 15 [.agg [AI x, .ref 2], AI k] [o0, o1, .list 2 1 n (xs.map AI), o3] (AI (k + n)) ([o0, o1, .list 2 1 n ((ms xs k n).map AI), o3] ++ .dead :: [.box 27 [AI x, .ref 2], .dead]) := by
  refine callS_of_run Try.func15 rfl ?_
  intro us fr
  refine RunA.seq (RunA.goes ?_)
  refine Goes.take 2 (St.mk [AV.agg [AV.int IntKind.i64 x, AV.ref (2 : Nat)], AV.int IntKind.i64 k, AV.ptr (5 : Nat) (0 : Nat), AV.top, AV.int IntKind.i64 (0 : Int), AV.top, AV.top, AV.top, AV.top, AV.top] [o0, o1, AObj.list (2 : Nat) (1 : Nat) n (List.map AI xs), o3, AObj.frame us fr, AObj.box (27 : Nat) [AV.int IntKind.i64 x, AV.ref (2 : Nat)]]) (by kernel_rfl) ?_
  refine Goes.nil ?_
  refine RunA.seq (RunA.goes ?_)
  refine Goes.take 3 (St.mk [AV.agg [AV.int IntKind.i64 x, AV.ref (2 : Nat)], AV.int IntKind.i64 k, AV.ptr (5 : Nat) (0 : Nat), AV.top, AV.int IntKind.i64 (0 : Int), AV.ptr (5 : Nat) (1 : Nat), AV.ref (2 : Nat), AV.int IntKind.i64 k, AV.top, AV.top] [o0, o1, AObj.list (2 : Nat) (1 : Nat) n (List.map AI xs), o3, AObj.frame us fr, AObj.box (27 : Nat) [AV.int IntKind.i64 x, AV.ref (2 : Nat)]]) (by kernel_rfl) ?_
  refine Goes.callS (by kernel_rfl) 45 [] _ _ rfl (by kernel_rfl) (enters_of Try.func45 rfl rfl) (mark_s _ _ _ _ _ xs n k hn hb hk hk') ?_
  refine Goes.take 1 (St.mk [AV.agg [AV.int IntKind.i64 x, AV.ref (2 : Nat)], AV.int IntKind.i64 (k + (↑n : Int)), AV.ptr (5 : Nat) (0 : Nat), AV.top, AV.int IntKind.i64 (0 : Int), AV.ptr (5 : Nat) (1 : Nat), AV.ref (2 : Nat), AV.int IntKind.i64 k, AV.int IntKind.i64 (k + (↑n : Int)), AV.top] [o0, o1, AObj.list (2 : Nat) (1 : Nat) n (List.map AI (ms xs k n)), o3, AObj.frame us fr, AObj.box (27 : Nat) [AV.int IntKind.i64 x, AV.ref (2 : Nat)], AObj.dead]) (by kernel_rfl) ?_
  refine Goes.nil ?_
  refine RunA.seq (RunA.goes ?_)
  refine Goes.take 2 (St.mk [AV.agg [AV.int IntKind.i64 x, AV.ref (2 : Nat)], AV.int IntKind.i64 (k + (↑n : Int)), AV.ptr (5 : Nat) (0 : Nat), AV.top, AV.int IntKind.i64 (k + (↑n : Int)), AV.ptr (5 : Nat) (1 : Nat), AV.ref (2 : Nat), AV.int IntKind.i64 k, AV.int IntKind.i64 (k + (↑n : Int)), AV.int IntKind.i64 (k + (↑n : Int))] [o0, o1, AObj.list (2 : Nat) (1 : Nat) n (List.map AI (ms xs k n)), o3, AObj.frame us fr, AObj.box (27 : Nat) [AV.int IntKind.i64 x, AV.ref (2 : Nat)], AObj.dead]) (by kernel_rfl) ?_
  refine Goes.nil ?_
  refine RunA.ret ?_
  refine ReturnsS.of ([AV.int IntKind.i64 (k + (↑n : Int))]) _ _ (.cons .tmp .nil) ?_ ?_
  · rfl
  · rfl

end Go.Proofs.Ytbkfbpddeedgoaa
