/- The premises of the Jankov formulas. -/
import Derived.Test.YtkanjgmocmhlkaaGreatJ02
import Derived.Test.YtkanjgmocmhlkaaGreatZ04
namespace Go.Proofs.YtkanjgmocmhlkaaGreat
open Go.RowKit Go.Abs

/-- A drawn region's entry, with tags of one's own: 0 for a literal that is only read. -/
def drwOk (P : Program) (ts : List Nat) (m : M) : Bool :=
  match m.ks with
  | .code (.region _ ops true) :: _ => P.follows .mixedOrders && okDraw ops ts
  | _ => false
def drwM (ts : List Nat) (m : M) : M :=
  match m.ks with
  | .code (.region _ ops true) :: ks => ⟨.drw ops ops.toList ts false :: ks, m.st⟩
  | _ => m
theorem R.drwT {rd : Option Nat} {P : Program} {m : M} {Q : Exit → St → Prop} (ts : List Nat) (h : drwOk P ts m = true) (h' : Runs rd P (drwM ts m) Q) : Runs rd P m Q := by
  obtain ⟨ks, st⟩ := m
  unfold drwOk at h
  simp only at h
  split at h
  · rename_i id ops ks
    simp only [Bool.and_eq_true] at h
    simp only [drwM, runs_iff] at h' ⊢
    simp only [RunsK] at h' ⊢
    exact RunA.drawK ts h.1 h.2 (h' headW_false)
  · cases h
def bothL (a b : List (Int × Int)) : List (List (Int × Int)) := [(4, 0) :: (a ++ b), (4, 0) :: (b ++ a)]
def jA (n : Int) (xs : List Int) (a b : Int) : Int := pxB xs (bor (bnot ((shl64 1 n) - 1) a) b)
def conL (x y : Nat) : List (Int × Int) := (2, 0) :: ([(0, (x : Int))] ++ [(0, (y : Int))])
def impL (x : Nat) (a : List (Int × Int)) : List (Int × Int) := (4, 0) :: ([(0, (x : Int))] ++ a)
def p1y (n : Int) (xs : List Int) (x : Nat) : Nat → List (List (Int × Int))
  | 0 => []
  | y + 1 => if x < y then p1y n xs x y ++ bothL (conL x y) (jnd n xs (band (xs.getD x 0) (xs.getD y 0))) else p1y n xs x y
def p1 (n : Int) (xs : List Int) : Nat → List (List (Int × Int))
  | 0 => [[(0, rootX n xs)]]
  | x + 1 => p1 n xs x ++ p1y n xs x n.toNat
def p2y (n : Int) (xs U : List Int) (x : Nat) : Nat → List (List (Int × Int))
  | 0 => []
  | k + 1 => p2y n xs U x k ++ bothL (impL x (jnd n xs (U.getD k 0))) (jnd n xs (jA n xs (xs.getD x 0) (U.getD k 0)))
def p2 (n : Int) (xs U : List Int) : Nat → List (List (Int × Int))
  | 0 => p1 n xs n.toNat
  | x + 1 => p2 n xs U x ++ p2y n xs U x U.length
def jpL (n : Int) (xs : List Int) : List (List (Int × Int)) := p2 n xs (upL n xs) n.toNat
theorem p1y_low (n : Int) (xs : List Int) (x : Nat) : ∀ y : Nat, y ≤ x + 1 → p1y n xs x y = []
  | 0, _ => rfl
  | y + 1, h => by rw [p1y, if_neg (by omega), p1y_low n xs x y (by omega)]
theorem p1_in {n : Int} {xs : List Int} {x : Nat} : p1 n xs x = p1 n xs x ++ p1y n xs x (x + 1) := by rw [p1y_low n xs x _ (Nat.le_refl _), List.append_nil]
theorem p1_step {n : Int} {xs : List Int} {x y : Nat} (h : x + 1 ≤ y) : (p1 n xs x ++ p1y n xs x y) ++ bothL (conL x y) (jnd n xs (band (xs.getD x 0) (xs.getD y 0))) = p1 n xs x ++ p1y n xs x (y + 1) := by
  rw [p1y, if_pos (by omega), List.append_assoc]
theorem p1_out {n : Int} {xs : List Int} {x y : Nat} (h : y = n.toNat) : p1 n xs x ++ p1y n xs x y = p1 n xs (x + 1) := by rw [h]; rfl
theorem p1_low {n : Int} {xs : List Int} {x y : Nat} (h : y = x + 1) : p1 n xs x = p1 n xs x ++ p1y n xs x y := by rw [h]; exact p1_in
theorem p2_in {n : Int} {xs U : List Int} {x : Nat} : p2 n xs U x = p2 n xs U x ++ p2y n xs U x 0 := (List.append_nil _).symm
theorem p2_step {n : Int} {xs U : List Int} {x k : Nat} : (p2 n xs U x ++ p2y n xs U x k) ++ bothL (impL x (jnd n xs (U.getD k 0))) (jnd n xs (jA n xs (xs.getD x 0) (U.getD k 0))) = p2 n xs U x ++ p2y n xs U x (k + 1) := List.append_assoc _ _ _
theorem p2_out {n : Int} {xs U : List Int} {x k : Nat} (h : k = U.length) : p2 n xs U x ++ p2y n xs U x k = p2 n xs U (x + 1) := by rw [h]; rfl
theorem p2_start {n : Int} {xs U : List Int} {x : Nat} (h : x = n.toNat) : p1 n xs x = p2 n xs U 0 := by rw [h]; rfl
theorem p1y_len (n : Int) (xs : List Int) (x : Nat) : ∀ y : Nat, (p1y n xs x y).length ≤ 2 * y
  | 0 => Nat.le_refl _
  | y + 1 => by
    have := p1y_len n xs x y
    rw [p1y]
    split
    · simp [bothL]; omega
    · omega
theorem p1_len {n : Int} {xs : List Int} (h8 : n ≤ 8) : ∀ x : Nat, (p1 n xs x).length ≤ 1 + 16 * x
  | 0 => by simp [p1]
  | x + 1 => by
    have := p1_len (xs := xs) h8 x
    have := p1y_len n xs x n.toNat
    rw [p1, List.length_append]
    omega
theorem p2y_len (n : Int) (xs U : List Int) (x : Nat) : ∀ y : Nat, (p2y n xs U x y).length = 2 * y
  | 0 => rfl
  | y + 1 => by
    have := p2y_len n xs U x y
    rw [p2y, List.length_append, this]
    simp [bothL]; omega
theorem p2_len {n : Int} {xs U : List Int} (h8 : n ≤ 8) (hU : U.length ≤ 256) : ∀ x : Nat, (p2 n xs U x).length ≤ 1 + 16 * n.toNat + 512 * x
  | 0 => p1_len h8 _
  | x + 1 => by
    have := p2_len (xs := xs) h8 hU x
    have := p2y_len n xs U x U.length
    rw [p2, List.length_append]
    omega
theorem jA_in {n : Int} {xs : List Int} (hR : okFr n xs = true) {a b : Int} (ha : InM n.toNat a) (hb : InM n.toNat b) : InM n.toNat (jA n xs a b) := by
  have := pT_in (k := 4) hR ha hb
  simpa [pT, jA] using this
theorem row_in {n : Int} {xs : List Int} (hR : okFr n xs = true) {x : Nat} (hx : x < xs.length) : InM n.toNat (xs.getD x 0) := (okFr_rel hR).2.2.2.2 x (by have := okFr_rel hR; omega)
theorem bothL_len (a b : List (Int × Int)) : (bothL a b).length = 2 := rfl
theorem arr_step {a b o : List (Int × Int)} {i : Int} (h : (i = 0 ∧ o = b) ∨ (i = -1 ∧ o = (4, 0) :: (a ++ b))) (h0 : 0 ≤ i) : (i - 1 = 0 ∧ (4, 0) :: ([a, b].getD i.toNat [] ++ o) = b) ∨ (i - 1 = -1 ∧ (4, 0) :: ([a, b].getD i.toNat [] ++ o) = (4, 0) :: (a ++ b)) := by
  rcases h with ⟨rfl, rfl⟩ | ⟨rfl, _⟩
  · exact .inr ⟨rfl, rfl⟩
  · omega
theorem arr_end {a b o : List (Int × Int)} {i : Int} (h : (i = 0 ∧ o = b) ∨ (i = -1 ∧ o = (4, 0) :: (a ++ b))) (h0 : ¬ 0 ≤ i) : o = (4, 0) :: (a ++ b) := by
  rcases h with ⟨rfl, _⟩ | ⟨_, h⟩
  · omega
  · exact h
theorem arr_bnd {a b o : List (Int × Int)} {i : Int} (h : (i = 0 ∧ o = b) ∨ (i = -1 ∧ o = (4, 0) :: (a ++ b))) (ha : a.length ≤ 1000000) (hb : b.length ≤ 1000000) : -1 ≤ i ∧ i ≤ 0 ∧ (0 ≤ i → o.length ≤ 1000000 ∧ ([a, b].getD i.toNat []).length ≤ 1000000) := by
  rcases h with ⟨rfl, rfl⟩ | ⟨rfl, rfl⟩
  · exact ⟨by omega, by omega, fun _ => ⟨hb, ha⟩⟩
  · exact ⟨by omega, by omega, fun h => by omega⟩
theorem arrow3_c (n : Int) (xs : List Int) (a b : Int) (hR : okFr n xs = true) : CallA Tryz.prog 81 [.agg [AI n, LI xs], AI a, AI b] (AI (jA n xs a b)) := by
  have hF := okFr_rel hR
  have h1 := arrow2_c n xs a b (by omega) (by omega) (by omega)
  rw [pxAB hR] at h1
  exact h1

theorem imply3_c (n : Int) (xs : List Int) (a : Int) (b : Int) (h0 : 0 ≤ n) (h1 : n ≤ 62) (hl : xs.length ≤ 60) : CallA Tryz.prog 86 [.agg [AI n, LI xs], AI a, AI b] (AI (jA n xs a b)) := by
  refine CallA.of Tryz.func86 rfl (by kernel_rfl) ?_
  refine R.go 10 (R.call true (pAll_c n xs h0 h1) (by kernel_rfl) rfl (by kernel_rfl) ?_)
  refine R.go 4 (R.call true (box_c xs (bor (bnot ((shl64 1 n) - 1) a) b) hl) (by kernel_rfl) rfl (by kernel_rfl) ?_)
  exact R.go 2 (R.retE (AI (boxB xs (bor (bnot ((shl64 1 n) - 1) a) b) xs.length)) (by kernel_rfl) (by kernel_rfl) (by first | (rfl) | (exfalso; omega)))

theorem arrowL_c (a : List (Int × Int)) (b : List (Int × Int)) (ha : a.length ≤ 1000000) (hb : b.length ≤ 1000000) : CallA Tryz.prog 105 [LLN [a, b]] (LN ((4, 0) :: (a ++ b))) := by
  refine CallA.of Tryz.func105 rfl (by kernel_rfl) ?_
  refine R.go 23 (R.loop ((fun | (i, o) => (⟨(frm 25 [(0, LLN [a, b]), (3, LN o), (4, AI i)]), []⟩ : St) : Int × (List (Int × Int)) → St)) (fun | (i, o) => (i = 0 ∧ o = b) ∨ (i = -1 ∧ o = (4, 0) :: (a ++ b))) (fun | (i, o) => (i + 1).toNat) (0, b) [0, 3, 4] none (by kernel_rfl) (by kernel_rfl) (by kernel_rfl) (by exact .inl ⟨rfl, rfl⟩) ?_)
  rintro ⟨i, o⟩ h4_1 R1 N2
  have ha2 := arr_bnd (by assumption) ha hb
  refine R.go 6 (R.cond (i ≥ 0) (by kernel_rfl) (fun c5 => ?_) (fun c5 => ?_))
  · refine R.go 6 (R.idx eLN [a, b] [] ((i).toNat) i (by kernel_rfl) (by omega) eLN_len (by first | omega | (simp <;> omega)) (by kernel_rfl) ?_)
    refine R.go 2 (R.call true (join_c 4 ([a, b].getD ((i).toNat) []) o (by first | omega | (simp <;> omega)) (by first | omega | (simp <;> omega))) (by kernel_rfl) rfl (by kernel_rfl) ?_)
    refine R.frz 0 (by kernel_rfl) ?_
    refine R.go 5 (R.ar (i - 1) (by kernel_rfl) (by omega) (by omega) (by kernel_rfl) ?_)
    exact R.go 2 (R.stop R1 (by kernel_rfl) (N2 (i - 1, (4, 0) :: (([a, b].getD ((i).toNat) []) ++ o)) [0, 3, 4] (some []) _ (by kernel_rfl) (by kernel_rfl) (by exact arr_step (by assumption) (by omega)) (by show (((i - 1) + 1).toNat) < ((i + 1).toNat); omega)))
  · exact R.go 6 (R.retE (LN o) (by kernel_rfl) (by kernel_rfl) (by first | (apply congrArg LN; exact arr_end (by assumption) (by omega)) | (exfalso; omega)))

theorem l21Both_c (a : List (Int × Int)) (b : List (Int × Int)) (ha : a.length ≤ 1000000) (hb : b.length ≤ 1000000) : CallA Tryz.prog 119 [LN a, LN b] (ownA eLN 32 1 (bothL a b)) := by
  refine CallA.of Tryz.func119 rfl (by kernel_rfl) ?_
  refine R.go 8 (R.call true (l02Pair_c 4 a b ha hb) (by kernel_rfl) rfl (by kernel_rfl) ?_)
  refine R.go 2 (R.call true (l02Pair_c 4 b a hb ha) (by kernel_rfl) rfl (by kernel_rfl) ?_)
  refine R.frz 0 (by kernel_rfl) ?_
  refine R.frz 1 (by kernel_rfl) ?_
  exact R.go 3 (R.retE (ownA eLN 32 1 [(4, 0) :: (a ++ b), (4, 0) :: (b ++ a)]) (by kernel_rfl) (by kernel_rfl) (by first | (rfl) | (exfalso; omega)))

theorem jankovPremises_c (n : Int) (xs : List Int) (hP : okPo n xs = true) (hr0 : 0 ≤ rootX n xs) : CallA Tryz.prog 67 [.agg [AI n, LI xs]] (ownA eLN 32 1 (jpL n xs)) := by
  have hR := okPo_fr hP
  have hF := okFr_rel hR
  have hb0 : 0 ≤ n ∧ n ≤ 8 ∧ (xs.length : Int) = n := ⟨hF.1, hF.2.1, hF.2.2.1⟩
  have hrl := rootX_lt hF.2.2.1
  have hjl := fun m => jnd_len n xs m hF.2.1
  have hul := upL_len hP
  have hrw := fun (x : Nat) (h : x < xs.length) => row_in hR h
  have hban := fun (x y : Nat) (h : x < xs.length) (h2 : y < xs.length) => inM_band (by omega) (row_in hR h) (row_in hR h2)
  have hul2 := upL_in hP
  have hjj := fun (x k : Nat) (h : x < xs.length) => jA_in hR (row_in hR h) (hul2 k)
  refine CallA.of Tryz.func67 rfl (by kernel_rfl) ?_
  refine R.go 8 (R.call true (root_c n xs hP) (by kernel_rfl) rfl (by kernel_rfl) ?_)
  refine R.call true (variable_c (rootX n xs)) (by kernel_rfl) rfl (by kernel_rfl) ?_
  refine R.frz 1 (by kernel_rfl) ?_
  refine R.go 11 (R.loop ((fun | (x, P) => (⟨(frm 103 [(1, .ptr 0 0), (3, .ref 1), (18, AI n), (19, AI (x : Int))]), [.box 30 [AI n, LI xs], rowA eLN 32 1 P]⟩ : St) : Nat × (List (List (Int × Int))) → St)) (fun | (x, P) => (x ≤ n.toNat) ∧ (P = p1 n xs x)) (fun | (x, P) => n.toNat - x) (0, [[(0, (rootX n xs))]]) [1, 3, 18, 19] (some [0, 2]) (by kernel_rfl) (by kernel_rfl) (by kernel_rfl) ⟨(by omega), (by rfl)⟩ ?_)
  rintro ⟨x, P⟩ ⟨h4_1, rfl⟩ R1 N2
  have h1l := p1_len (xs := xs) hb0.2.1 x
  refine R.go 5 (R.cond ((x : Int) < n) (by kernel_rfl) (fun c5 => ?_) (fun c5 => ?_))
  · refine R.go 11 (R.ar ((x : Int) + 1) (by kernel_rfl) (by omega) (by omega) (by kernel_rfl) ?_)
    refine R.go 3 (R.loop ((fun | (y, Q) => (⟨(frm 103 [(1, .ptr 0 0), (3, .ref 1), (4, AI (x : Int)), (5, AI (y : Int)), (18, AI n), (19, AI (x : Int))]), [.box 30 [AI n, LI xs], rowA eLN 32 1 Q]⟩ : St) : Nat × (List (List (Int × Int))) → St)) (fun | (y, Q) => (x + 1 ≤ y) ∧ (y ≤ n.toNat) ∧ (Q = p1 n xs x ++ p1y n xs x y)) (fun | (y, Q) => n.toNat - y) ((x + 1), (p1 n xs x)) [1, 3, 4, 5, 18, 19] none (by kernel_rfl) (by kernel_rfl) (by kernel_rfl) ⟨(by omega), (by omega), (by exact p1_in)⟩ ?_)
    rintro ⟨y, Q⟩ ⟨h9_1, h9_2, rfl⟩ R6 N7
    have h1y := p1y_len n xs x y
    refine R.go 8 (R.cond ((y : Int) < n) (by kernel_rfl) (fun c10 => ?_) (fun c10 => ?_))
    · have hb1 := hban x y (by omega) (by omega)
      have hj1 := hjl (band (xs.getD x 0) (xs.getD y 0))
      refine R.go 6 (R.call true (variable_c (x : Int)).frz (by kernel_rfl) rfl (by kernel_rfl) ?_)
      refine R.go 1 (R.call true (variable_c (y : Int)).frz (by kernel_rfl) rfl (by kernel_rfl) ?_)
      refine R.call true (join_c 2 [(0, (x : Int))] [(0, (y : Int))] (by first | omega | (simp only [List.length_cons, List.length_append, List.length_nil]; omega)) (by first | omega | (simp only [List.length_cons, List.length_append, List.length_nil]; omega))).frz (by kernel_rfl) rfl (by kernel_rfl) ?_
      refine R.go 4 (R.idx eI xs 0 x (x : Int) (by kernel_rfl) rfl eI_len (by omega) (by kernel_rfl) ?_)
      refine R.go 4 (R.idx eI xs 0 y (y : Int) (by kernel_rfl) rfl eI_len (by omega) (by kernel_rfl) ?_)
      refine R.go 2 (R.call true (joined_c n xs (band (xs.getD x 0) (xs.getD y 0)) hP (by first | assumption | exact jcM_in (by assumption) (by omega))).frz (by kernel_rfl) rfl (by kernel_rfl) ?_)
      refine R.go 7 (R.lit (s := 1) (n := 2) (cs := rows eLN [(2, 0) :: ([(0, (x : Int))] ++ [(0, (y : Int))]), jnd n xs (band (xs.getD x 0) (xs.getD y 0))]) (by kernel_rfl) (by kernel_rfl) ?_)
      refine R.call true (arrowL_c ((2, 0) :: ([(0, (x : Int))] ++ [(0, (y : Int))])) (jnd n xs (band (xs.getD x 0) (xs.getD y 0))) (by first | omega | (simp only [List.length_cons, List.length_append, List.length_nil]; omega)) (by first | omega | (simp only [List.length_cons, List.length_append, List.length_nil]; omega))) (by kernel_rfl) rfl (by kernel_rfl) ?_
      refine R.go 2 (R.lit (s := 1) (n := 2) (cs := rows eLN [jnd n xs (band (xs.getD x 0) (xs.getD y 0)), (2, 0) :: ([(0, (x : Int))] ++ [(0, (y : Int))])]) (by kernel_rfl) (by kernel_rfl) ?_)
      refine R.call true (arrowL_c (jnd n xs (band (xs.getD x 0) (xs.getD y 0))) ((2, 0) :: ([(0, (x : Int))] ++ [(0, (y : Int))])) (by first | omega | (simp only [List.length_cons, List.length_append, List.length_nil]; omega)) (by first | omega | (simp only [List.length_cons, List.length_append, List.length_nil]; omega))) (by kernel_rfl) rfl (by kernel_rfl) ?_
      refine R.go 1 (R.app eLN (p1 n xs x ++ p1y n xs x y) [(4, 0) :: (((2, 0) :: ([(0, (x : Int))] ++ [(0, (y : Int))])) ++ (jnd n xs (band (xs.getD x 0) (xs.getD y 0)))), (4, 0) :: ((jnd n xs (band (xs.getD x 0) (xs.getD y 0))) ++ ((2, 0) :: ([(0, (x : Int))] ++ [(0, (y : Int))])))] 1 32 1 24 (by kernel_rfl) eLN_one (by decide) (by first | omega | (simp only [List.length_cons, List.length_append, List.length_nil, bothL_len]; omega)) (by kernel_rfl) ?_)
      refine R.go 5 (R.ar ((y : Int) + 1) (by kernel_rfl) (by omega) (by omega) (by kernel_rfl) ?_)
      exact R.go 2 (R.stop R6 (by kernel_rfl) (N7 (y + 1, p1 n xs x ++ p1y n xs x y ++ [(4, 0) :: (((2, 0) :: ([(0, (x : Int))] ++ [(0, (y : Int))])) ++ (jnd n xs (band (xs.getD x 0) (xs.getD y 0)))), (4, 0) :: ((jnd n xs (band (xs.getD x 0) (xs.getD y 0))) ++ ((2, 0) :: ([(0, (x : Int))] ++ [(0, (y : Int))])))]) [1, 3, 4, 5, 18, 19] (some [0, 1]) _ (by kernel_rfl) (by kernel_rfl) ⟨(by omega), (by omega), (by exact p1_step (by omega))⟩ (by show (n.toNat - (y + 1)) < (n.toNat - y); omega)))
    · refine R.go 3 (R.ar ((x : Int) + 1) (by kernel_rfl) (by omega) (by omega) (by kernel_rfl) ?_)
      exact R.go 2 (R.stop R1 (by kernel_rfl) (N2 (x + 1, p1 n xs x ++ p1y n xs x y) [1, 3, 18, 19] none _ (by kernel_rfl) (by kernel_rfl) ⟨(by omega), (by exact p1_out (by omega))⟩ (by show (n.toNat - (x + 1)) < (n.toNat - x); omega)))
  · refine R.go 9 (R.loop ((fun | (z, P) => (⟨(frm 103 [(1, .ptr 0 0), (3, .ref 1), (61, AI n), (62, AI (z : Int))]), [.box 30 [AI n, LI xs], rowA eLN 32 1 P]⟩ : St) : Nat × (List (List (Int × Int))) → St)) (fun | (z, P) => (z ≤ n.toNat) ∧ (P = p2 n xs (upL n xs) z)) (fun | (z, P) => n.toNat - z) (0, (p1 n xs x)) [1, 3, 61, 62] none (by kernel_rfl) (by kernel_rfl) (by kernel_rfl) ⟨(by omega), (by exact p2_start (by omega))⟩ ?_)
    rintro ⟨z, P⟩ ⟨h14_1, rfl⟩ R11 N12
    have h2l := p2_len (xs := xs) hb0.2.1 hul z
    refine R.go 5 (R.cond ((z : Int) < n) (by kernel_rfl) (fun c15 => ?_) (fun c15 => ?_))
    · refine R.go 11 (R.call true (upsets_c n xs hP).frz (by kernel_rfl) rfl (by kernel_rfl) ?_)
      refine R.go 4 (R.loop ((fun | (k, Q) => (⟨(frm 103 [(1, .ptr 0 0), (3, .ref 1), (8, AI (z : Int)), (61, AI n), (62, AI (z : Int)), (66, LI (upL n xs)), (67, AI ((upL n xs).length)), (68, AI (k : Int))]), [.box 30 [AI n, LI xs], rowA eLN 32 1 Q]⟩ : St) : Nat × (List (List (Int × Int))) → St)) (fun | (k, Q) => (k ≤ (upL n xs).length) ∧ (Q = p2 n xs (upL n xs) z ++ p2y n xs (upL n xs) z k)) (fun | (k, Q) => (upL n xs).length - k) (0, (p2 n xs (upL n xs) z)) [1, 3, 8, 61, 62, 66, 67, 68] none (by kernel_rfl) (by kernel_rfl) (by kernel_rfl) ⟨(by omega), (by exact p2_in)⟩ ?_)
      rintro ⟨k, Q⟩ ⟨h19_1, rfl⟩ R16 N17
      have h2y := p2y_len n xs (upL n xs) z k
      refine R.go 5 (R.cond ((k : Int) < ((upL n xs).length : Int)) (by kernel_rfl) (fun c20 => ?_) (fun c20 => ?_))
      · have hb2 := hul2 k
        have hj2 := hjl ((upL n xs).getD k 0)
        have hb3 := hjj z k (by omega)
        have hj3 := hjl (jA n xs (xs.getD z 0) ((upL n xs).getD k 0))
        refine R.go 5 (R.idx eI (upL n xs) 0 k (k : Int) (by kernel_rfl) rfl eI_len (by omega) (by kernel_rfl) ?_)
        refine R.go 4 (R.drwT [0, 0, 0, 0, 0, 0, 0, 0, 0, 0, 0, 0, 0, 0, 0, 0, 0, 0, 0] (by kernel_rfl) ?_)
        refine R.go 1 (R.call true (variable_c (z : Int)).frz (by kernel_rfl) rfl (by kernel_rfl) ?_)
        refine R.go 2 (R.call true (joined_c n xs ((upL n xs).getD k 0) hP (by first | assumption | exact jcM_in (by assumption) (by omega))).frz (by kernel_rfl) rfl (by kernel_rfl) ?_)
        refine R.lit (s := 1) (n := 2) (cs := rows eLN [[(0, (z : Int))], jnd n xs ((upL n xs).getD k 0)]) (by kernel_rfl) (by kernel_rfl) ?_
        refine R.call true (arrowL_c [(0, (z : Int))] (jnd n xs ((upL n xs).getD k 0)) (by first | omega | (simp only [List.length_cons, List.length_append, List.length_nil]; omega)) (by first | omega | (simp only [List.length_cons, List.length_append, List.length_nil]; omega))) (by kernel_rfl) rfl (by kernel_rfl) ?_
        refine R.go 5 (R.idx eI xs 0 z (z : Int) (by kernel_rfl) rfl eI_len (by omega) (by kernel_rfl) ?_)
        refine R.go 2 (R.call true (imply3_c n xs (xs.getD z 0) ((upL n xs).getD k 0) (by first | omega | (simp only [List.length_cons, List.length_append, List.length_nil]; omega)) (by first | omega | (simp only [List.length_cons, List.length_append, List.length_nil]; omega)) (by first | omega | (simp only [List.length_cons, List.length_append, List.length_nil]; omega))) (by kernel_rfl) rfl (by kernel_rfl) ?_)
        refine R.call true (joined_c n xs (jA n xs (xs.getD z 0) ((upL n xs).getD k 0)) hP (by first | assumption | exact jcM_in (by assumption) (by omega))).frz (by kernel_rfl) rfl (by kernel_rfl) ?_
        refine R.go 7 (R.lit (s := 1) (n := 2) (cs := rows eLN [(4, 0) :: ([(0, (z : Int))] ++ (jnd n xs ((upL n xs).getD k 0))), jnd n xs (jA n xs (xs.getD z 0) ((upL n xs).getD k 0))]) (by kernel_rfl) (by kernel_rfl) ?_)
        refine R.call true (arrowL_c ((4, 0) :: ([(0, (z : Int))] ++ (jnd n xs ((upL n xs).getD k 0)))) (jnd n xs (jA n xs (xs.getD z 0) ((upL n xs).getD k 0))) (by first | omega | (simp only [List.length_cons, List.length_append, List.length_nil]; omega)) (by first | omega | (simp only [List.length_cons, List.length_append, List.length_nil]; omega))) (by kernel_rfl) rfl (by kernel_rfl) ?_
        refine R.go 2 (R.lit (s := 1) (n := 2) (cs := rows eLN [jnd n xs (jA n xs (xs.getD z 0) ((upL n xs).getD k 0)), (4, 0) :: ([(0, (z : Int))] ++ (jnd n xs ((upL n xs).getD k 0)))]) (by kernel_rfl) (by kernel_rfl) ?_)
        refine R.call true (arrowL_c (jnd n xs (jA n xs (xs.getD z 0) ((upL n xs).getD k 0))) ((4, 0) :: ([(0, (z : Int))] ++ (jnd n xs ((upL n xs).getD k 0)))) (by first | omega | (simp only [List.length_cons, List.length_append, List.length_nil]; omega)) (by first | omega | (simp only [List.length_cons, List.length_append, List.length_nil]; omega))) (by kernel_rfl) rfl (by kernel_rfl) ?_
        refine R.go 1 (R.app eLN (p2 n xs (upL n xs) z ++ p2y n xs (upL n xs) z k) [(4, 0) :: (((4, 0) :: ([(0, (z : Int))] ++ (jnd n xs ((upL n xs).getD k 0)))) ++ (jnd n xs (jA n xs (xs.getD z 0) ((upL n xs).getD k 0)))), (4, 0) :: ((jnd n xs (jA n xs (xs.getD z 0) ((upL n xs).getD k 0))) ++ ((4, 0) :: ([(0, (z : Int))] ++ (jnd n xs ((upL n xs).getD k 0)))))] 1 32 1 24 (by kernel_rfl) eLN_one (by decide) (by first | omega | (simp only [List.length_cons, List.length_append, List.length_nil, bothL_len]; omega)) (by kernel_rfl) ?_)
        refine R.go 4 (R.ar ((k : Int) + 1) (by kernel_rfl) (by omega) (by omega) (by kernel_rfl) ?_)
        exact R.go 2 (R.stop R16 (by kernel_rfl) (N17 (k + 1, p2 n xs (upL n xs) z ++ p2y n xs (upL n xs) z k ++ [(4, 0) :: (((4, 0) :: ([(0, (z : Int))] ++ (jnd n xs ((upL n xs).getD k 0)))) ++ (jnd n xs (jA n xs (xs.getD z 0) ((upL n xs).getD k 0)))), (4, 0) :: ((jnd n xs (jA n xs (xs.getD z 0) ((upL n xs).getD k 0))) ++ ((4, 0) :: ([(0, (z : Int))] ++ (jnd n xs ((upL n xs).getD k 0)))))]) [1, 3, 8, 61, 62, 66, 67, 68] (some [0, 1]) _ (by kernel_rfl) (by kernel_rfl) ⟨(by omega), (by exact p2_step)⟩ (by show ((upL n xs).length - (k + 1)) < ((upL n xs).length - k); omega)))
      · refine R.go 3 (R.ar ((z : Int) + 1) (by kernel_rfl) (by omega) (by omega) (by kernel_rfl) ?_)
        exact R.go 2 (R.stop R11 (by kernel_rfl) (N12 (z + 1, p2 n xs (upL n xs) z ++ p2y n xs (upL n xs) z k) [1, 3, 61, 62] none _ (by kernel_rfl) (by kernel_rfl) ⟨(by omega), (by exact p2_out (by omega))⟩ (by show (n.toNat - (z + 1)) < (n.toNat - z); omega)))
    · exact R.go 6 (R.retE (ownA eLN 32 1 (p2 n xs (upL n xs) z)) (by kernel_rfl) (by kernel_rfl) (by first | (apply congrArg (ownA eLN _ 1); rw [show z = n.toNat by omega]; rfl) | (exfalso; omega)))

theorem l21Premises_c (n : Int) (xs : List Int) (hP : okPo n xs = true) (hr0 : 0 ≤ rootX n xs) : CallA Tryz.prog 91 [.agg [AI n, LI xs]] (ownA eLN 32 1 (jpL n xs)) := by
  have hR := okPo_fr hP
  have hF := okFr_rel hR
  have hb0 : 0 ≤ n ∧ n ≤ 8 ∧ (xs.length : Int) = n := ⟨hF.1, hF.2.1, hF.2.2.1⟩
  have hrl := rootX_lt hF.2.2.1
  have hjl := fun m => jnd_len n xs m hF.2.1
  have hul := upL_len hP
  have hrw := fun (x : Nat) (h : x < xs.length) => row_in hR h
  have hban := fun (x y : Nat) (h : x < xs.length) (h2 : y < xs.length) => inM_band (by omega) (row_in hR h) (row_in hR h2)
  have hul2 := upL_in hP
  have hjj := fun (x k : Nat) (h : x < xs.length) => jA_in hR (row_in hR h) (hul2 k)
  refine CallA.of Tryz.func91 rfl (by kernel_rfl) ?_
  refine R.go 8 (R.call true (l16Root_c n xs hP) (by kernel_rfl) rfl (by kernel_rfl) ?_)
  refine R.call true (l02Var_c (rootX n xs)) (by kernel_rfl) rfl (by kernel_rfl) ?_
  refine R.frz 1 (by kernel_rfl) ?_
  refine R.go 9 (R.loop ((fun | (x, P) => (⟨(frm 90 [(1, .ptr 0 0), (3, .ref 1), (4, AI (x : Int))]), [.box 30 [AI n, LI xs], rowA eLN 32 1 P]⟩ : St) : Nat × (List (List (Int × Int))) → St)) (fun | (x, P) => (x ≤ n.toNat) ∧ (P = p1 n xs x)) (fun | (x, P) => n.toNat - x) (0, [[(0, (rootX n xs))]]) [1, 3, 4] (some [0, 2]) (by kernel_rfl) (by kernel_rfl) (by kernel_rfl) ⟨(by omega), (by rfl)⟩ ?_)
  rintro ⟨x, P⟩ ⟨h4_1, rfl⟩ R1 N2
  have h1l := p1_len (xs := xs) hb0.2.1 x
  refine R.go 8 (R.cond ((x : Int) < n) (by kernel_rfl) (fun c5 => ?_) (fun c5 => ?_))
  · refine R.go 6 (R.ar ((x : Int) + 1) (by kernel_rfl) (by omega) (by omega) (by kernel_rfl) ?_)
    refine R.go 3 (R.loop ((fun | (y, Q) => (⟨(frm 90 [(1, .ptr 0 0), (3, .ref 1), (4, AI (x : Int)), (5, AI (y : Int))]), [.box 30 [AI n, LI xs], rowA eLN 32 1 Q]⟩ : St) : Nat × (List (List (Int × Int))) → St)) (fun | (y, Q) => (x + 1 ≤ y) ∧ (y ≤ n.toNat) ∧ (Q = p1 n xs x ++ p1y n xs x y)) (fun | (y, Q) => n.toNat - y) ((x + 1), (p1 n xs x)) [1, 3, 4, 5] none (by kernel_rfl) (by kernel_rfl) (by kernel_rfl) ⟨(by omega), (by omega), (by exact p1_in)⟩ ?_)
    rintro ⟨y, Q⟩ ⟨h9_1, h9_2, rfl⟩ R6 N7
    have h1y := p1y_len n xs x y
    refine R.go 8 (R.cond ((y : Int) < n) (by kernel_rfl) (fun c10 => ?_) (fun c10 => ?_))
    · have hb1 := hban x y (by omega) (by omega)
      have hj1 := hjl (band (xs.getD x 0) (xs.getD y 0))
      refine R.go 6 (R.call true (l02Var_c (x : Int)).frz (by kernel_rfl) rfl (by kernel_rfl) ?_)
      refine R.go 1 (R.call true (l02Var_c (y : Int)).frz (by kernel_rfl) rfl (by kernel_rfl) ?_)
      refine R.call true (l02Pair_c 2 [(0, (x : Int))] [(0, (y : Int))] (by first | omega | (simp only [List.length_cons, List.length_append, List.length_nil]; omega)) (by first | omega | (simp only [List.length_cons, List.length_append, List.length_nil]; omega))).frz (by kernel_rfl) rfl (by kernel_rfl) ?_
      refine R.go 4 (R.idx eI xs 0 x (x : Int) (by kernel_rfl) rfl eI_len (by omega) (by kernel_rfl) ?_)
      refine R.go 4 (R.idx eI xs 0 y (y : Int) (by kernel_rfl) rfl eI_len (by omega) (by kernel_rfl) ?_)
      refine R.go 2 (R.call true (l21Join_c n xs (band (xs.getD x 0) (xs.getD y 0)) hP (by first | assumption | exact jcM_in (by assumption) (by omega))).frz (by kernel_rfl) rfl (by kernel_rfl) ?_)
      refine R.call true (l21Both_c ((2, 0) :: ([(0, (x : Int))] ++ [(0, (y : Int))])) (jnd n xs (band (xs.getD x 0) (xs.getD y 0))) (by first | omega | (simp only [List.length_cons, List.length_append, List.length_nil]; omega)) (by first | omega | (simp only [List.length_cons, List.length_append, List.length_nil]; omega))).frz (by kernel_rfl) rfl (by kernel_rfl) ?_
      refine R.app eLN (p1 n xs x ++ p1y n xs x y) (bothL ((2, 0) :: ([(0, (x : Int))] ++ [(0, (y : Int))])) (jnd n xs (band (xs.getD x 0) (xs.getD y 0)))) 1 32 1 24 (by kernel_rfl) eLN_one (by decide) (by first | omega | (simp only [List.length_cons, List.length_append, List.length_nil, bothL_len]; omega)) (by kernel_rfl) ?_
      refine R.go 5 (R.ar ((y : Int) + 1) (by kernel_rfl) (by omega) (by omega) (by kernel_rfl) ?_)
      exact R.go 2 (R.stop R6 (by kernel_rfl) (N7 (y + 1, p1 n xs x ++ p1y n xs x y ++ (bothL ((2, 0) :: ([(0, (x : Int))] ++ [(0, (y : Int))])) (jnd n xs (band (xs.getD x 0) (xs.getD y 0))))) [1, 3, 4, 5] none _ (by kernel_rfl) (by kernel_rfl) ⟨(by omega), (by omega), (by exact p1_step (by omega))⟩ (by show (n.toNat - (y + 1)) < (n.toNat - y); omega)))
    · refine R.go 4 (R.ar ((x : Int) + 1) (by kernel_rfl) (by omega) (by omega) (by kernel_rfl) ?_)
      exact R.go 2 (R.stop R1 (by kernel_rfl) (N2 (x + 1, p1 n xs x ++ p1y n xs x y) [1, 3, 4] none _ (by kernel_rfl) (by kernel_rfl) ⟨(by omega), (by exact p1_out (by omega))⟩ (by show (n.toNat - (x + 1)) < (n.toNat - x); omega)))
  · refine R.go 4 (R.call true (l16Upsets_c n xs hP).frz (by kernel_rfl) rfl (by kernel_rfl) ?_)
    refine R.go 8 (R.loop ((fun | (z, P) => (⟨(frm 90 [(1, .ptr 0 0), (3, .ref 1), (6, LI (upL n xs)), (7, AI (z : Int))]), [.box 30 [AI n, LI xs], rowA eLN 32 1 P]⟩ : St) : Nat × (List (List (Int × Int))) → St)) (fun | (z, P) => (z ≤ n.toNat) ∧ (P = p2 n xs (upL n xs) z)) (fun | (z, P) => n.toNat - z) (0, (p1 n xs x)) [1, 3, 6, 7] none (by kernel_rfl) (by kernel_rfl) (by kernel_rfl) ⟨(by omega), (by exact p2_start (by omega))⟩ ?_)
    rintro ⟨z, P⟩ ⟨h14_1, rfl⟩ R11 N12
    have h2l := p2_len (xs := xs) hb0.2.1 hul z
    refine R.go 8 (R.cond ((z : Int) < n) (by kernel_rfl) (fun c15 => ?_) (fun c15 => ?_))
    · refine R.go 8 (R.loop ((fun | (k, Q) => (⟨(frm 90 [(1, .ptr 0 0), (3, .ref 1), (6, LI (upL n xs)), (7, AI (z : Int)), (8, AI (k : Int))]), [.box 30 [AI n, LI xs], rowA eLN 32 1 Q]⟩ : St) : Nat × (List (List (Int × Int))) → St)) (fun | (k, Q) => (k ≤ (upL n xs).length) ∧ (Q = p2 n xs (upL n xs) z ++ p2y n xs (upL n xs) z k)) (fun | (k, Q) => (upL n xs).length - k) (0, (p2 n xs (upL n xs) z)) [1, 3, 6, 7, 8] none (by kernel_rfl) (by kernel_rfl) (by kernel_rfl) ⟨(by omega), (by exact p2_in)⟩ ?_)
      rintro ⟨k, Q⟩ ⟨h19_1, rfl⟩ R16 N17
      have h2y := p2y_len n xs (upL n xs) z k
      refine R.go 8 (R.cond ((k : Int) < ((upL n xs).length : Int)) (by kernel_rfl) (fun c20 => ?_) (fun c20 => ?_))
      · have hb2 := hul2 k
        have hj2 := hjl ((upL n xs).getD k 0)
        have hb3 := hjj z k (by omega)
        have hj3 := hjl (jA n xs (xs.getD z 0) ((upL n xs).getD k 0))
        refine R.go 6 (R.call true (l02Var_c (z : Int)).frz (by kernel_rfl) rfl (by kernel_rfl) ?_)
        refine R.go 3 (R.idx eI (upL n xs) 0 k (k : Int) (by kernel_rfl) rfl eI_len (by omega) (by kernel_rfl) ?_)
        refine R.go 1 (R.call true (l21Join_c n xs ((upL n xs).getD k 0) hP (by first | assumption | exact jcM_in (by assumption) (by omega))).frz (by kernel_rfl) rfl (by kernel_rfl) ?_)
        refine R.call true (l02Pair_c 4 [(0, (z : Int))] (jnd n xs ((upL n xs).getD k 0)) (by first | omega | (simp only [List.length_cons, List.length_append, List.length_nil]; omega)) (by first | omega | (simp only [List.length_cons, List.length_append, List.length_nil]; omega))).frz (by kernel_rfl) rfl (by kernel_rfl) ?_
        refine R.go 10 (R.idx eI xs 0 z (z : Int) (by kernel_rfl) rfl eI_len (by omega) (by kernel_rfl) ?_)
        refine R.go 3 (R.idx eI (upL n xs) 0 k (k : Int) (by kernel_rfl) rfl eI_len (by omega) (by kernel_rfl) ?_)
        refine R.go 1 (R.call true (arrow3_c n xs (xs.getD z 0) ((upL n xs).getD k 0) (by assumption)) (by kernel_rfl) rfl (by kernel_rfl) ?_)
        refine R.call true (l21Join_c n xs (jA n xs (xs.getD z 0) ((upL n xs).getD k 0)) hP (by first | assumption | exact jcM_in (by assumption) (by omega))).frz (by kernel_rfl) rfl (by kernel_rfl) ?_
        refine R.call true (l21Both_c ((4, 0) :: ([(0, (z : Int))] ++ (jnd n xs ((upL n xs).getD k 0)))) (jnd n xs (jA n xs (xs.getD z 0) ((upL n xs).getD k 0))) (by first | omega | (simp only [List.length_cons, List.length_append, List.length_nil]; omega)) (by first | omega | (simp only [List.length_cons, List.length_append, List.length_nil]; omega))).frz (by kernel_rfl) rfl (by kernel_rfl) ?_
        refine R.app eLN (p2 n xs (upL n xs) z ++ p2y n xs (upL n xs) z k) (bothL ((4, 0) :: ([(0, (z : Int))] ++ (jnd n xs ((upL n xs).getD k 0)))) (jnd n xs (jA n xs (xs.getD z 0) ((upL n xs).getD k 0)))) 1 32 1 24 (by kernel_rfl) eLN_one (by decide) (by first | omega | (simp only [List.length_cons, List.length_append, List.length_nil, bothL_len]; omega)) (by kernel_rfl) ?_
        refine R.go 5 (R.ar ((k : Int) + 1) (by kernel_rfl) (by omega) (by omega) (by kernel_rfl) ?_)
        exact R.go 2 (R.stop R16 (by kernel_rfl) (N17 (k + 1, p2 n xs (upL n xs) z ++ p2y n xs (upL n xs) z k ++ (bothL ((4, 0) :: ([(0, (z : Int))] ++ (jnd n xs ((upL n xs).getD k 0)))) (jnd n xs (jA n xs (xs.getD z 0) ((upL n xs).getD k 0))))) [1, 3, 6, 7, 8] none _ (by kernel_rfl) (by kernel_rfl) ⟨(by omega), (by exact p2_step)⟩ (by show ((upL n xs).length - (k + 1)) < ((upL n xs).length - k); omega)))
      · refine R.go 4 (R.ar ((z : Int) + 1) (by kernel_rfl) (by omega) (by omega) (by kernel_rfl) ?_)
        exact R.go 2 (R.stop R11 (by kernel_rfl) (N12 (z + 1, p2 n xs (upL n xs) z ++ p2y n xs (upL n xs) z k) [1, 3, 6, 7] none _ (by kernel_rfl) (by kernel_rfl) ⟨(by omega), (by exact p2_out (by omega))⟩ (by show (n.toNat - (z + 1)) < (n.toNat - z); omega)))
    · exact R.go 6 (R.retE (ownA eLN 32 1 (p2 n xs (upL n xs) z)) (by kernel_rfl) (by kernel_rfl) (by first | (apply congrArg (ownA eLN _ 1); rw [show z = n.toNat by omega]; rfl) | (exfalso; omega)))

end Go.Proofs.YtkanjgmocmhlkaaGreat
