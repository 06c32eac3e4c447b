/- Texts of the proof: CP1, CP2, CP3, CP4. -/
import Derived.Test.YtalfakdiinhdnaaPartH

/-! All congruences of a poset, by a closure that calls itself and visits. -/
namespace Go.Proofs.Ytalfakdiinhdnaa
open Go.RowKit Go.Abs

theorem nxt_app (X Y : List Int) : ∀ i : Nat, i ≤ X.length → nxt (X ++ Y) i = nxt X i
  | 0, _ => rfl
  | i + 1, h => by
    have e : (X ++ Y).getD i 0 = X.getD i 0 := by rw [List.getD_eq_getElem?_getD, List.getD_eq_getElem?_getD, List.getElem?_append_left (by omega)]
    simp only [nxt, e, nxt_app X Y i (by omega)]
theorem snoc_at (X : List Int) (c : Int) : (X ++ [c]).getD X.length 0 = c := by rw [List.getD_eq_getElem?_getD, List.getElem?_append_right (Nat.le_refl _)]; simp
/-- A division of the first elements into u classes. -/
structure CX (X : List Int) (u : Int) : Prop where
  cls : clsB X = true
  cnt : u = nxt X X.length
  rng : 0 ≤ u ∧ u ≤ X.length
theorem cx_nil : CX [] 0 := ⟨rfl, rfl, by simp⟩
theorem nxt_snoc {X : List Int} {c : Int} (h : c ≤ nxt X X.length) : nxt (X ++ [c]) (X ++ [c]).length = max (nxt X X.length) (c + 1) := by
  rw [List.length_append, List.length_singleton, nxt, snoc_at, nxt_app X [c] X.length (Nat.le_refl _)]
  split <;> omega
theorem cls_snoc {X : List Int} {c : Int} (hX : clsB X = true) (h0 : 0 ≤ c) (h : c ≤ nxt X X.length) : clsB (X ++ [c]) = true := by
  refine clsB_iff.2 fun i hi => ?_
  simp only [List.length_append, List.length_singleton] at hi
  rw [nxt_app X [c] i (by omega)]
  by_cases e : i = X.length
  · subst e; rw [snoc_at]; exact ⟨h0, h⟩
  · rw [List.getD_eq_getElem?_getD, List.getElem?_append_left (by omega), ← List.getD_eq_getElem?_getD]
    exact clsB_iff.1 hX i (by omega)
abbrev mx (u c : Int) : Int := if c + 1 > u then c + 1 else u
theorem mx_eq (u c : Int) : mx u c = max u (c + 1) := by unfold mx; split <;> omega
theorem cx_snoc {X : List Int} {u c : Int} (h : CX X u) (h0 : 0 ≤ c) (hc : c ≤ u) : CX (X ++ [c]) (mx u c) := by
  rw [mx_eq]
  have e := h.cnt
  have r := h.rng
  refine ⟨cls_snoc h.cls h0 (by omega), by rw [nxt_snoc (by omega), ← e], by simp; omega⟩
/-- The divisions that extend X by d elements, in ascending order. -/
def dfs : Nat → List Int → Int → List (List Int)
  | 0, X, _ => [X]
  | d + 1, X, u => (List.range (u.toNat + 1)).flatMap fun (c : Nat) => dfs d (X ++ [(c : Int)]) (mx u (c : Int))
def cgs (xs : List Int) (d : Nat) (X : List Int) (u : Int) : List (List Int) := (dfs d X u).filter (corB xs)
def cgsI (xs : List Int) (d : Nat) (X : List Int) (u : Int) (i : Nat) : List (List Int) := (List.range i).flatMap fun (c : Nat) => cgs xs d (X ++ [(c : Int)]) (mx u (c : Int))
theorem cgs_s (xs : List Int) (d : Nat) (X : List Int) (u : Int) : cgs xs (d + 1) X u = cgsI xs d X u (u.toNat + 1) := by
  unfold cgs cgsI
  rw [dfs, List.filter_flatMap]; rfl
theorem cgsI_s (xs : List Int) (d : Nat) (X : List Int) (u : Int) (i : Nat) : cgsI xs d X u (i + 1) = cgsI xs d X u i ++ cgs xs d (X ++ [(i : Int)]) (mx u (i : Int)) := by
  unfold cgsI
  rw [List.range_succ, List.flatMap_append, List.flatMap_singleton]
def pw8 : Nat → Nat
  | 0 => 1
  | d + 1 => 8 * pw8 d
theorem pw8_le {d e : Nat} (h : d ≤ e) : pw8 d ≤ pw8 e := by
  induction h with
  | refl => exact Nat.le_refl _
  | step _ ih => rw [pw8]; omega
theorem pw8_8 {d : Nat} (h : d ≤ 8) : pw8 d ≤ 16777216 := Nat.le_trans (pw8_le h) (by decide)
theorem flat_len {α : Type} (f : Nat → List α) (k : Nat) : ∀ i : Nat, (∀ c, c < i → (f c).length ≤ k) → ((List.range i).flatMap f).length ≤ i * k
  | 0, _ => by simp
  | i + 1, h => by
    rw [List.range_succ, List.flatMap_append, List.flatMap_singleton, List.length_append]
    have := flat_len f k i fun c hc => h c (by omega)
    have := h i (by omega)
    rw [Nat.succ_mul]; omega
theorem cgs_len (xs : List Int) : ∀ (d : Nat) (X : List Int) (u : Int), u.toNat + d ≤ 8 → (cgs xs d X u).length ≤ pw8 d
  | 0, X, u, _ => by
    unfold cgs dfs
    exact Nat.le_trans (List.length_filter_le _ _) (Nat.le_refl 1)
  | d + 1, X, u, h => by
    rw [cgs_s, cgsI, pw8]
    refine Nat.le_trans (flat_len _ (pw8 d) (u.toNat + 1) fun c hc => cgs_len xs d _ _ (by rw [mx_eq]; omega)) ?_
    exact Nat.mul_le_mul_right _ (by omega)
/-- What the visits have found. -/
def CG (xs : List Int) (d : Nat) (X : List Int) (u : Int) (b : Nat) (L L2 : List (Value × List Int)) : Prop := NL b L2 ∧ L2.map Prod.snd = L.map Prod.snd ++ cgs xs d X u
def CGI (xs : List Int) (d : Nat) (X : List Int) (u : Int) (i : Nat) (b : Nat) (L L2 : List (Value × List Int)) : Prop := NL b L2 ∧ L2.map Prod.snd = L.map Prod.snd ++ cgsI xs d X u i
theorem map_len {α : Type} {L2 : List (Value × α)} {M : List α} (h : L2.map Prod.snd = M) : L2.length = M.length := by rw [← h, List.length_map]
theorem cg_one {n : Int} {xs X : List Int} {u : Int} {b : Nat} {L L2 : List (Value × List Int)} (hP : okPo n xs = true) (hX : CX X u) (hn : (X.length : Int) = n) (h : NL b L2 ∧ L2.map Prod.snd = if cngB n xs X = true then L.map Prod.snd ++ [X] else L.map Prod.snd) : CG xs 0 X u b L L2 := by
  refine ⟨h.1, ?_⟩
  have hp : parB n X = true := by simp [parB, hX.cls, hn]
  rw [h.2, cng_eq hP, hp, Bool.true_and]
  unfold cgs dfs
  cases hc : corB xs X <;> simp [hc]
theorem cgi_0 (xs : List Int) (d : Nat) (X : List Int) (u : Int) {b : Nat} {L : List (Value × List Int)} (h : NL b L) : CGI xs d X u 0 b L L := ⟨h, by simp [cgsI]⟩
theorem cgi_s {xs : List Int} {d : Nat} {X : List Int} {u : Int} {i b : Nat} {L L2 L3 : List (Value × List Int)} (h : CGI xs d X u i b L L2) (h2 : CG xs d (X ++ [(i : Int)]) (mx u (i : Int)) b L2 L3) : CGI xs d X u (i + 1) b L L3 :=
  ⟨h2.1, by rw [h2.2, h.2, cgsI_s, List.append_assoc]⟩
theorem cg_end {xs : List Int} {d : Nat} {X : List Int} {u : Int} {i b : Nat} {L L2 : List (Value × List Int)} (h : CGI xs d X u i b L L2) (hi : i = u.toNat + 1) : CG xs (d + 1) X u b L L2 := ⟨h.1, by rw [h.2, cgs_s, hi]⟩
theorem cgi_l7 {xs : List Int} {d : Nat} {X : List Int} {u : Int} {i b : Nat} {L L2 : List (Value × List Int)} (h : CGI xs d X u i b L L2) (hu : u.toNat + d + 1 ≤ 8) (hi : (i : Int) < u + 1) : L2.length ≤ L.length + 7 * pw8 d := by
  rw [map_len h.2, List.length_append, List.length_map]
  have := flat_len (fun (c : Nat) => cgs xs d (X ++ [(c : Int)]) (mx u (c : Int))) (pw8 d) i fun c hc => cgs_len xs d _ _ (by rw [mx_eq]; omega)
  have h2 : i * pw8 d ≤ 7 * pw8 d := Nat.mul_le_mul_right _ (by omega)
  unfold cgsI
  omega
theorem cgi_nl {xs : List Int} {d : Nat} {X : List Int} {u : Int} {i b : Nat} {L L2 : List (Value × List Int)} (h : CGI xs d X u i b L L2) : NL b L2 := h.1
theorem cut_snoc (X : List Int) (v : Int) {k : Nat} (hk : k = X.length) : (X ++ [v]).take k = X := by rw [hk, List.take_left]

end Go.Proofs.Ytalfakdiinhdnaa


/-! All congruences of a poset: contracts. -/
namespace Go.Proofs.Ytalfakdiinhdnaa
open Go.RowKit Go.Abs

theorem congVisit_c (n : Int) (xs : List Int) (X : List Int) (b : Nat) (L : List (Value × List Int)) (hP : okPo n xs = true) (hL : NL b L) (hl : L.length ≤ 100000000) (hx : X.length ≤ 8) : CallQ Try.prog [3] 60 [.ref 6, .ptr 1 0, .ptr 2 0] [.inert (.base b), .box 55 [AI n, LI xs], .box 26 [.ref 3], rowA (eV eI 2 1) 22 1 L, .box 2 [AI n], .box 64 [.fn 60 [.ptr 1 0, .ptr 2 0]], rowA eI 2 1 X, .box 22 [.ref 6], .box 62 [.fn 99 [.ptr 7 0, .ptr 4 0, .ptr 5 0, .ptr 8 0]]] (fun (resX : AV) (objX : List AObj) => ∃ L2 : List (Value × List Int), (NL b L2 ∧ L2.map Prod.snd = if cngB n xs X = true then L.map Prod.snd ++ [X] else L.map Prod.snd) ∧ resX = .tup [] ∧ objX = [.inert (.base b), .box 55 [AI n, LI xs], .box 26 [.ref 3], rowA (eV eI 2 1) 22 1 L2, .box 2 [AI n], .box 64 [.fn 60 [.ptr 1 0, .ptr 2 0]], rowA eI 2 1 X, .box 22 [.ref 6], .box 62 [.fn 99 [.ptr 7 0, .ptr 4 0, .ptr 5 0, .ptr 8 0]]]) := by
  refine CallQ.dropE (CallQ.ofF Try.func60 rfl (by kernel_rfl) ?_)
  intro usC frC hfC hkC
  refine R.go 4 (R.call false (isCongruence_c n xs X hP (by first | omega | (simp <;> omega))) (by kernel_rfl) rfl (by kernel_rfl) ?_)
  refine R.go 1 (R.condB (cngB n xs X) (by kernel_rfl) (fun c1 => ?_) (fun c1 => ?_))
  · refine R.any (by decide +kernel) (by kernel_rfl) ?_
    refine R.anyF 1 (by kernel_rfl) (np_retX _ _ _ _ _ _) ?_
    refine R.any2 0 2 (by kernel_rfl) (by kernel_rfl) ?_ ?_
    · refine R.go 2 (R.any1 2 (by kernel_rfl) (by kernel_rfl) ?_)
      refine R.call false (clone_c X (by first | omega | (simp <;> omega))) (by kernel_rfl) (ownA_closed eI_closed 2 1 X) (by kernel_rfl) ?_
      refine R.go 1 (R.any1 3 (by kernel_rfl) (by kernel_rfl) ?_)
      refine R.pin 10 2 1 X.length (rows eI X) (by kernel_rfl) (by kernel_rfl) ?_
      intro v2 hn3
      have hb4 : ∀ g, blk v2 = some g → b ≤ g := newN_base hn3 0 (by kernel_rfl)
      have hr5 : ∀ u ∈ L, ∀ g, blk v2 = some g → blk u.1 ≠ some g := newN_row (E := eI) (el := 2) (s := 1) (e := 22) (n := L.length) hn3 3 L (by kernel_rfl)
      clear hn3
      refine R.kfix 9 (us := usC) (by kernel_rfl) (hfC.frz 10 (.nam v2 (some 2) 1 X.length (rows eI X)) (Nat.le_of_ble_eq_true (by kernel_rfl))) ?_
      refine R.go 2 (R.any1 4 (by kernel_rfl) (by kernel_rfl) ?_)
      refine R.app (eV eI 2 1) L [(v2, X)] 3 22 1 24 (by kernel_rfl) eV_one (by decide) (by first | omega | (simp <;> omega)) (by kernel_rfl) ?_
      refine R.kfix 9 (us := usC) (by kernel_rfl) hkC.1 ?_
      refine R.go 1 (R.any1 5 (by kernel_rfl) (by kernel_rfl) ?_)
      refine R.go 2 (R.any0 (by kernel_rfl) ?_)
      exact R.retX (res := .tup []) (hp' := [.inert (.base b), .box 55 [AI n, LI xs], .box 26 [.ref 3], rowA (eV eI 2 1) 22 1 (L ++ [(v2, X)]), .box 2 [AI n], .box 64 [.fn 60 [.ptr 1 0, .ptr 2 0]], rowA eI 2 1 X, .box 22 [.ref 6], .box 62 [.fn 99 [.ptr 7 0, .ptr 4 0, .ptr 5 0, .ptr 8 0]], .dead, .dead, rowA (eV eI 2 1) 22 1 [(v2, X)]]) (by kernel_rfl) (by kernel_rfl) (by kernel_rfl) (by kernel_rfl) ⟨[0, 1, 2, 3, 4, 5, 6, 7, 8], by kernel_rfl, by decide, L ++ [(v2, X)], by first | (rw [if_pos (by assumption)]; exact ⟨NL.snoc hL (by assumption) (by assumption), by simp⟩) | (rw [if_neg (by simp [*])]; exact ⟨hL, rfl⟩), by kernel_rfl, by kernel_rfl⟩
    · refine R.call false (clone_c X (by first | omega | (simp <;> omega))) (by kernel_rfl) (ownA_closed eI_closed 2 1 X) (by kernel_rfl) ?_
      refine R.go 1 (R.any2 0 3 (by kernel_rfl) (by kernel_rfl) ?_ ?_)
      · refine R.go 2 (R.any1 3 (by kernel_rfl) (by kernel_rfl) ?_)
        refine R.pin 10 2 1 X.length (rows eI X) (by kernel_rfl) (by kernel_rfl) ?_
        intro v6 hn7
        have hb8 : ∀ g, blk v6 = some g → b ≤ g := newN_base hn7 0 (by kernel_rfl)
        have hr9 : ∀ u ∈ L, ∀ g, blk v6 = some g → blk u.1 ≠ some g := newN_row (E := eI) (el := 2) (s := 1) (e := 22) (n := L.length) hn7 3 L (by kernel_rfl)
        clear hn7
        refine R.kfix 9 (us := usC) (by kernel_rfl) (hfC.frz 10 (.nam v6 (some 2) 1 X.length (rows eI X)) (Nat.le_of_ble_eq_true (by kernel_rfl))) ?_
        refine R.go 2 (R.any1 4 (by kernel_rfl) (by kernel_rfl) ?_)
        refine R.app (eV eI 2 1) L [(v6, X)] 3 22 1 24 (by kernel_rfl) eV_one (by decide) (by first | omega | (simp <;> omega)) (by kernel_rfl) ?_
        refine R.kfix 9 (us := usC) (by kernel_rfl) hkC.1 ?_
        refine R.go 1 (R.any1 5 (by kernel_rfl) (by kernel_rfl) ?_)
        refine R.go 2 (R.any0 (by kernel_rfl) ?_)
        exact R.retX (res := .tup []) (hp' := [.inert (.base b), .box 55 [AI n, LI xs], .box 26 [.ref 3], rowA (eV eI 2 1) 22 1 (L ++ [(v6, X)]), .box 2 [AI n], .box 64 [.fn 60 [.ptr 1 0, .ptr 2 0]], rowA eI 2 1 X, .box 22 [.ref 6], .box 62 [.fn 99 [.ptr 7 0, .ptr 4 0, .ptr 5 0, .ptr 8 0]], .dead, .dead, rowA (eV eI 2 1) 22 1 [(v6, X)]]) (by kernel_rfl) (by kernel_rfl) (by kernel_rfl) (by kernel_rfl) ⟨[0, 1, 2, 3, 4, 5, 6, 7, 8], by kernel_rfl, by decide, L ++ [(v6, X)], by first | (rw [if_pos (by assumption)]; exact ⟨NL.snoc hL (by assumption) (by assumption), by simp⟩) | (rw [if_neg (by simp [*])]; exact ⟨hL, rfl⟩), by kernel_rfl, by kernel_rfl⟩
      · refine R.pin 10 2 1 X.length (rows eI X) (by kernel_rfl) (by kernel_rfl) ?_
        intro v10 hn11
        have hb12 : ∀ g, blk v10 = some g → b ≤ g := newN_base hn11 0 (by kernel_rfl)
        have hr13 : ∀ u ∈ L, ∀ g, blk v10 = some g → blk u.1 ≠ some g := newN_row (E := eI) (el := 2) (s := 1) (e := 22) (n := L.length) hn11 3 L (by kernel_rfl)
        clear hn11
        refine R.kfix 9 (us := usC) (by kernel_rfl) (hfC.frz 10 (.nam v10 (some 2) 1 X.length (rows eI X)) (Nat.le_of_ble_eq_true (by kernel_rfl))) ?_
        refine R.go 2 (R.any1 0 (by kernel_rfl) (by kernel_rfl) ?_)
        refine R.go 2 (R.any1 4 (by kernel_rfl) (by kernel_rfl) ?_)
        refine R.app (eV eI 2 1) L [(v10, X)] 3 22 1 24 (by kernel_rfl) eV_one (by decide) (by first | omega | (simp <;> omega)) (by kernel_rfl) ?_
        refine R.kfix 9 (us := usC) (by kernel_rfl) hkC.1 ?_
        refine R.go 1 (R.any1 5 (by kernel_rfl) (by kernel_rfl) ?_)
        refine R.go 2 (R.any0 (by kernel_rfl) ?_)
        exact R.retX (res := .tup []) (hp' := [.inert (.base b), .box 55 [AI n, LI xs], .box 26 [.ref 3], rowA (eV eI 2 1) 22 1 (L ++ [(v10, X)]), .box 2 [AI n], .box 64 [.fn 60 [.ptr 1 0, .ptr 2 0]], rowA eI 2 1 X, .box 22 [.ref 6], .box 62 [.fn 99 [.ptr 7 0, .ptr 4 0, .ptr 5 0, .ptr 8 0]], .dead, .dead, rowA (eV eI 2 1) 22 1 [(v10, X)]]) (by kernel_rfl) (by kernel_rfl) (by kernel_rfl) (by kernel_rfl) ⟨[0, 1, 2, 3, 4, 5, 6, 7, 8], by kernel_rfl, by decide, L ++ [(v10, X)], by first | (rw [if_pos (by assumption)]; exact ⟨NL.snoc hL (by assumption) (by assumption), by simp⟩) | (rw [if_neg (by simp [*])]; exact ⟨hL, rfl⟩), by kernel_rfl, by kernel_rfl⟩
  · exact R.go 1 (R.retX (res := .tup []) (hp' := [.inert (.base b), .box 55 [AI n, LI xs], .box 26 [.ref 3], rowA (eV eI 2 1) 22 1 L, .box 2 [AI n], .box 64 [.fn 60 [.ptr 1 0, .ptr 2 0]], rowA eI 2 1 X, .box 22 [.ref 6], .box 62 [.fn 99 [.ptr 7 0, .ptr 4 0, .ptr 5 0, .ptr 8 0]], .dead]) (by kernel_rfl) (by kernel_rfl) (by kernel_rfl) (by kernel_rfl) ⟨[0, 1, 2, 3, 4, 5, 6, 7, 8], by kernel_rfl, by decide, L, by first | (rw [if_pos (by assumption)]; exact ⟨NL.snoc hL (by assumption) (by assumption), by simp⟩) | (rw [if_neg (by simp [*])]; exact ⟨hL, rfl⟩), by kernel_rfl, by kernel_rfl⟩)

theorem growC_c : ∀ (d : Nat) (n : Int) (xs : List Int) (X : List Int) (u : Int) (b : Nat) (L : List (Value × List Int)) (hd : X.length + d = n.toNat) (hP : okPo n xs = true) (hX : CX X u) (hL : NL b L) (hl : L.length + pw8 d ≤ 80000000), CallQ Try.prog [3, 6] 99 [AI u, .ptr 7 0, .ptr 4 0, .ptr 5 0, .ptr 8 0] [.inert (.base b), .box 55 [AI n, LI xs], .box 26 [.ref 3], rowA (eV eI 2 1) 22 1 L, .box 2 [AI n], .box 64 [.fn 60 [.ptr 1 0, .ptr 2 0]], rowA eI 2 1 X, .box 22 [.ref 6], .box 62 [.fn 99 [.ptr 7 0, .ptr 4 0, .ptr 5 0, .ptr 8 0]]] (fun (resX : AV) (objX : List AObj) => ∃ L2 : List (Value × List Int), (CG xs d X u b L L2) ∧ resX = .tup [] ∧ objX = [.inert (.base b), .box 55 [AI n, LI xs], .box 26 [.ref 3], rowA (eV eI 2 1) 22 1 L2, .box 2 [AI n], .box 64 [.fn 60 [.ptr 1 0, .ptr 2 0]], rowA eI 2 1 X, .box 22 [.ref 6], .box 62 [.fn 99 [.ptr 7 0, .ptr 4 0, .ptr 5 0, .ptr 8 0]]]) := by
  intro d
  induction d using Nat.strongRecOn with
  | _ d ih =>
  intro n xs X u b L hd hP hX hL hl
  have hFr := okFr_rel (okPo_fr hP)
  have hb0 : 0 ≤ n ∧ n ≤ 8 := ⟨hFr.1, hFr.2.1⟩
  have hxr := hX.rng
  refine CallQ.dropE (CallQ.ofF Try.func99 rfl (by kernel_rfl) ?_)
  intro usC frC hfC hkC
  refine R.go 2 (R.meet (⟨(frm 35 [(0, AI u), (1, .ptr 7 0), (2, .ptr 4 0), (3, .ptr 5 0), (4, .ptr 8 0), (7, .ref 6), (8, AI X.length), (9, AI n), (10, .bool (decide ((X.length : Int) = n)))]), [.inert (.base b), .box 55 [AI n, LI xs], .box 26 [.ref 3], rowA (eV eI 2 1) 22 1 L, .box 2 [AI n], .box 64 [.fn 60 [.ptr 1 0, .ptr 2 0]], rowA eI 2 1 X, .box 22 [.ref 6], .box 62 [.fn 99 [.ptr 7 0, .ptr 4 0, .ptr 5 0, .ptr 8 0]], .frame usC frC]⟩ : St) (by kernel_rfl) ?_ ?_)
  · refine R.any (by decide +kernel) (by kernel_rfl) ?_
    refine R.any2 0 2 (by kernel_rfl) (by kernel_rfl) ?_ ?_
    · refine R.go 2 (R.any2 1 2 (by kernel_rfl) (by kernel_rfl) ?_ ?_)
      · refine R.call false (size_c X) (by kernel_rfl) rfl (by kernel_rfl) ?_
        refine R.go 1 (R.any1 2 (by kernel_rfl) (by kernel_rfl) ?_)
        refine R.go 2 (R.any1 3 (by kernel_rfl) (by kernel_rfl) ?_)
        refine R.go 2 (R.any0 (by kernel_rfl) ?_)
        exact R.met (by kernel_rfl) (by kernel_rfl)
      · refine R.go 2 (R.any1 1 (by kernel_rfl) (by kernel_rfl) ?_)
        refine R.call false (size_c X) (by kernel_rfl) rfl (by kernel_rfl) ?_
        refine R.go 1 (R.any1 3 (by kernel_rfl) (by kernel_rfl) ?_)
        refine R.go 2 (R.any0 (by kernel_rfl) ?_)
        exact R.met (by kernel_rfl) (by kernel_rfl)
    · refine R.go 2 (R.any1 0 (by kernel_rfl) (by kernel_rfl) ?_)
      refine R.go 2 (R.any1 1 (by kernel_rfl) (by kernel_rfl) ?_)
      refine R.call false (size_c X) (by kernel_rfl) rfl (by kernel_rfl) ?_
      refine R.go 1 (R.any1 3 (by kernel_rfl) (by kernel_rfl) ?_)
      refine R.go 2 (R.any0 (by kernel_rfl) ?_)
      exact R.met (by kernel_rfl) (by kernel_rfl)
  · refine R.cond ((X.length : Int) = n) (by kernel_rfl) (fun c1 => ?_) (fun c1 => ?_)
    · refine R.go 4 (R.callQ (CallQ.inF 9 usC frC (congVisit_c n xs X b L (by assumption) hL (by first | omega | simp) (by omega)) (Nat.le_of_ble_eq_true (by kernel_rfl)) (by kernel_rfl) (by kernel_rfl) (by rintro _ _ ⟨_, _, rfl, rfl⟩; exact Nat.le_of_ble_eq_true (by kernel_rfl)) ⟨hkC.1, trivial⟩) (by kernel_rfl) (by kernel_rfl) (by kernel_rfl) ?_)
      rintro _ _ ⟨_, _, ⟨L2_2, f3, rfl, rfl⟩, rfl, rfl⟩
      exact R.go 1 (R.retX (res := .tup []) (hp' := [.inert (.base b), .box 55 [AI n, LI xs], .box 26 [.ref 3], rowA (eV eI 2 1) 22 1 L2_2, .box 2 [AI n], .box 64 [.fn 60 [.ptr 1 0, .ptr 2 0]], rowA eI 2 1 X, .box 22 [.ref 6], .box 62 [.fn 99 [.ptr 7 0, .ptr 4 0, .ptr 5 0, .ptr 8 0]], .dead]) (by kernel_rfl) (by kernel_rfl) (by kernel_rfl) (by kernel_rfl) ⟨[0, 1, 2, 3, 4, 5, 6, 7, 8], by kernel_rfl, by decide, L2_2, by first | (rw [he]; exact cg_end (by assumption) (by omega)) | (obtain rfl : d = 0 := (by omega); exact cg_one hP hX (by omega) (by assumption)), by kernel_rfl, by kernel_rfl⟩)
    · obtain ⟨e, he⟩ : ∃ e, d = e + 1 := ⟨d - 1, by omega⟩
      have hpw : pw8 d = 8 * pw8 e := by rw [he]; rfl
      have hu8 : u.toNat + e + 1 ≤ 8 := by omega
      refine R.go 4 (R.ar (u + 1) (by kernel_rfl) (by omega) (by omega) (by kernel_rfl) ?_)
      refine R.go 3 (R.loop ((fun | (i, LI_, Z) => (⟨(frm 35 [(0, AI u), (1, .ptr 7 0), (4, .ptr 8 0), (15, AI (u + 1)), (16, AI (i : Int))]), [.inert (.base b), .box 55 [AI n, LI xs], .box 26 [.ref 3], rowA (eV eI 2 1) 22 1 LI_, .box 2 [AI n], .box 64 [.fn 60 [.ptr 1 0, .ptr 2 0]], rowA eI 2 1 Z, .box 22 [.ref 6], .box 62 [.fn 99 [.ptr 7 0, .ptr 4 0, .ptr 5 0, .ptr 8 0]], .frame usC frC]⟩ : St) : Nat × (List (Value × List Int)) × (List Int) → St)) (fun | (i, LI_, Z) => ((i : Int) ≤ u + 1) ∧ (CGI xs e X u i b L LI_) ∧ (X = Z)) (fun | (i, LI_, Z) => u.toNat + 1 - i) (0, L, X) [0, 1, 4, 15, 16] none (by kernel_rfl) (by kernel_rfl) (by kernel_rfl) ⟨(by omega), (by exact cgi_0 xs _ X u hL), (by rfl)⟩ ?_)
      rintro ⟨i, LI_, Z⟩ ⟨h7_1, h7_2, rfl⟩ R4 N5
      have hsn : (X ++ [(i : Int)]).length = X.length + 1 := by simp
      refine R.go 5 (R.cond ((i : Int) < (u + 1)) (by kernel_rfl) (fun c8 => ?_) (fun c8 => ?_))
      · have hll := cgi_l7 (by assumption : CGI xs e X u i b L LI_) hu8 (by omega)
        refine R.go 13 (R.app eI X [(i : Int)] 6 2 1 8 (by kernel_rfl) eI_one (by decide) (by first | omega | (simp <;> omega)) (by kernel_rfl) ?_)
        refine R.kfix 9 (us := usC) (by kernel_rfl) hkC.2.1 ?_
        refine R.go 7 (R.ar ((i : Int) + 1) (by kernel_rfl) (by omega) (by omega) (by kernel_rfl) ?_)
        refine R.go 1 (R.frz 10 (by kernel_rfl) ?_)
        refine R.kfix 9 (us := usC) (by kernel_rfl) (hfC.frz 10 (LI [(i : Int)]) (Nat.le_of_ble_eq_true (by kernel_rfl))) ?_
        refine R.deadF 10 (by kernel_rfl) (by kernel_rfl) ?_
        refine R.callQ (CallQ.inF 9 usC frC (CallQ.inF 9 [] [] (ih e (by omega) n xs (X ++ [(i : Int)]) (if ((i : Int) + 1) > u then ((i : Int) + 1) else u) b LI_ (by first | omega | (simp; done) | (simp; omega)) (by assumption) (by first | assumption | exact cx_nil | exact cx_snoc hX (by omega) (by omega)) (by first | assumption | exact cgi_nl (by assumption)) (by omega)) (Nat.le_of_ble_eq_true (by kernel_rfl)) (by kernel_rfl) (by kernel_rfl) (by rintro _ _ ⟨_, _, rfl, rfl⟩; exact Nat.le_of_ble_eq_true (by kernel_rfl)) ⟨by kernel_rfl, by kernel_rfl, trivial⟩) (Nat.le_of_ble_eq_true (by kernel_rfl)) (by kernel_rfl) (by kernel_rfl) (by rintro _ _ ⟨_, _, ⟨_, _, rfl, rfl⟩, rfl, rfl⟩; exact Nat.le_of_ble_eq_true (by kernel_rfl)) ⟨hkC.1, hkC.2.1, trivial⟩) (by kernel_rfl) (by kernel_rfl) (by kernel_rfl) ?_
        rintro _ _ ⟨_, _, ⟨_, _, ⟨L2_9, f10, rfl, rfl⟩, rfl, rfl⟩, rfl, rfl⟩
        refine R.go 5 (R.ar (((X ++ [(i : Int)]).length : Int) - 1) (by kernel_rfl) (by omega) (by omega) (by kernel_rfl) ?_)
        refine R.cut eI (X ++ [(i : Int)]) 6 2 ((((X ++ [(i : Int)]).length : Int) - 1).toNat) (((X ++ [(i : Int)]).length : Int) - 1) (by kernel_rfl) (by omega) eI_len (by first | omega | (simp only [List.length_set]; omega) | (simp <;> omega)) (by kernel_rfl) ?_
        refine R.kfix 9 (us := usC) (by kernel_rfl) hkC.2.1 ?_
        refine R.go 4 (R.ar ((i : Int) + 1) (by kernel_rfl) (by omega) (by omega) (by kernel_rfl) ?_)
        exact R.go 2 (R.stop R4 (by kernel_rfl) (N5 (i + 1, L2_9, (X ++ [(i : Int)]).take ((((X ++ [(i : Int)]).length : Int) - 1).toNat)) [0, 1, 4, 15, 16] (some [0, 1, 2, 3, 4, 5, 6, 7, 8, 9]) _ (by kernel_rfl) (canonF (fr := frC) (fun (frX : List AV) => (⟨(frm 35 [(0, AI u), (1, .ptr 7 0), (4, .ptr 8 0), (15, AI (u + 1)), (16, AI ((i : Int) + 1))]), [.inert (.base b), .box 55 [AI n, LI xs], .box 26 [.ref 3], rowA (eV eI 2 1) 22 1 L2_9, .box 2 [AI n], .box 64 [.fn 60 [.ptr 1 0, .ptr 2 0]], rowA eI 2 1 ((X ++ [(i : Int)]).take ((((X ++ [(i : Int)]).length : Int) - 1).toNat)), .box 22 [.ref 6], .box 62 [.fn 99 [.ptr 7 0, .ptr 4 0, .ptr 5 0, .ptr 8 0]], .frame usC frX]⟩ : St)) (hfC.ren _ (by kernel_rfl)) (by kernel_rfl) (by kernel_rfl)) ⟨(by omega), (by exact cgi_s (by assumption) (by assumption)), (by first | rfl | exact (cut_snoc _ _ (by simp)).symm)⟩ (by show (u.toNat + 1 - (i + 1)) < (u.toNat + 1 - i); omega)))
      · exact R.go 1 (R.retX (res := .tup []) (hp' := [.inert (.base b), .box 55 [AI n, LI xs], .box 26 [.ref 3], rowA (eV eI 2 1) 22 1 LI_, .box 2 [AI n], .box 64 [.fn 60 [.ptr 1 0, .ptr 2 0]], rowA eI 2 1 X, .box 22 [.ref 6], .box 62 [.fn 99 [.ptr 7 0, .ptr 4 0, .ptr 5 0, .ptr 8 0]], .dead]) (by kernel_rfl) (by kernel_rfl) (by kernel_rfl) (by kernel_rfl) ⟨[0, 1, 2, 3, 4, 5, 6, 7, 8], by kernel_rfl, by decide, LI_, by first | (rw [he]; exact cg_end (by assumption) (by omega)) | (obtain rfl : d = 0 := (by omega); exact cg_one hP hX (by omega) (by assumption)), by kernel_rfl, by kernel_rfl⟩)

theorem allClasses_c (n : Int) (xs : List Int) (b : Nat) (L : List (Value × List Int)) (hP : okPo n xs = true) (hL : NL b L) (hl : L.length ≤ 50000000) : CallQ Try.prog [3] 59 [AI n, .fn 60 [.ptr 1 0, .ptr 2 0]] [.inert (.base b), .box 55 [AI n, LI xs], .box 26 [.ref 3], rowA (eV eI 2 1) 22 1 L] (fun (resX : AV) (objX : List AObj) => ∃ L2 : List (Value × List Int), (CG xs n.toNat [] 0 b L L2) ∧ resX = .tup [] ∧ objX = [.inert (.base b), .box 55 [AI n, LI xs], .box 26 [.ref 3], rowA (eV eI 2 1) 22 1 L2]) := by
  have hFr := okFr_rel (okPo_fr hP)
  have hb0 : 0 ≤ n ∧ n ≤ 8 := ⟨hFr.1, hFr.2.1⟩
  have hpw := pw8_8 (d := n.toNat) (by omega)
  refine CallQ.dropE (CallQ.ofF Try.func59 rfl (by kernel_rfl) ?_)
  intro usC frC hfC hkC
  refine R.go 8 (R.mkC eI 0 2 8 0 ((n).toNat) 0 n (by kernel_rfl) rfl (by omega) (by omega) (by decide) (by omega) (by kernel_rfl) ?_)
  refine R.go 14 (R.callQ (CallQ.inF 4 usC frC (growC_c n.toNat n xs [] 0 b L (by first | omega | (simp; done) | (simp; omega)) (by assumption) (by first | assumption | exact cx_nil | exact cx_snoc hX (by omega) (by omega)) hL (by omega)) (Nat.le_of_ble_eq_true (by kernel_rfl)) (by kernel_rfl) (by kernel_rfl) (by rintro _ _ ⟨_, _, rfl, rfl⟩; exact Nat.le_of_ble_eq_true (by kernel_rfl)) ⟨hkC.1, hfC.kill 7 (Nat.le_of_ble_eq_true (by kernel_rfl)), trivial⟩) (by kernel_rfl) (by kernel_rfl) (by kernel_rfl) ?_)
  rintro _ _ ⟨_, _, ⟨L2_1, f2, rfl, rfl⟩, rfl, rfl⟩
  exact R.go 1 (R.retX (res := .tup []) (hp' := [.inert (.base b), .box 55 [AI n, LI xs], .box 26 [.ref 3], rowA (eV eI 2 1) 22 1 L2_1, .dead, .box 2 [AI n], .box 64 [.fn 60 [.ptr 1 0, .ptr 2 0]], rowA eI 2 1 [], .box 22 [.ref 7], .box 62 [.fn 99 [.ptr 8 0, .ptr 5 0, .ptr 6 0, .ptr 9 0]]]) (by kernel_rfl) (by kernel_rfl) (by kernel_rfl) (by kernel_rfl) ⟨[0, 1, 2, 3], by kernel_rfl, by decide, L2_1, by assumption, by kernel_rfl, by kernel_rfl⟩)

theorem congruences_c (n : Int) (xs : List Int) (hP : okPo n xs = true) : CallE Try.prog 34 [.agg [AI n, LI xs]] (fun (b : Nat) (r : AV) => ∃ L2 : List (Value × List Int), r = ownA (eV eI 2 1) 22 1 L2 ∧ (NL b L2) ∧ (L2.map Prod.snd = cgs xs n.toNat [] 0)) := by
  refine CallE.of Try.func34 rfl (by kernel_rfl) (fun b => ?_)
  refine R.go 11 (R.nilB 2 0 22 1 (by kernel_rfl) ?_)
  refine R.go 3 (R.callQ (allClasses_c n xs b [] (by assumption) (by first | assumption | exact NL.nil | exact cgi_nl (by assumption)) (by first | omega | simp)) (by kernel_rfl) (by kernel_rfl) (by kernel_rfl) ?_)
  rintro _ _ ⟨L2_1, f2, rfl, rfl⟩
  exact R.go 6 (R.retB (ownA (eV eI 2 1) 22 1 L2_1) (by kernel_rfl) (by kernel_rfl) ⟨L2_1, rfl, by first | (exact (by assumption : CG xs n.toNat [] 0 b _ _).1) | (exfalso; omega), by first | (exact (by assumption : CG xs n.toNat [] 0 b _ _).2) | (exfalso; omega)⟩)
theorem congruences_c_cl (n : Int) (xs : List Int) : ∀ (b : Nat) (r : AV), (fun (b : Nat) (r : AV) => ∃ L2 : List (Value × List Int), r = ownA (eV eI 2 1) 22 1 L2 ∧ (NL b L2) ∧ (L2.map Prod.snd = cgs xs n.toNat [] 0)) b r → ClosedN b r := by
 rintro b r ⟨L2, rfl, e0, e1⟩
 exact (closedN_own _ e0 eI_closed)

end Go.Proofs.Ytalfakdiinhdnaa


/-! All correct partitions: the reference. -/
namespace Go.Proofs.Ytalfakdiinhdnaa
open Go.RowKit Go.Abs

theorem take_succ_getD {α : Type} (l : List α) (d : α) {i : Nat} (h : i < l.length) : l.take (i + 1) = l.take i ++ [l.getD i d] := by
  rw [List.take_add_one, List.getD_eq_getElem?_getD, List.getElem?_eq_getElem h]; rfl
def topT (X : List Int) : Nat → Int
  | 0 => 0
  | k + 1 => mx (topT X k) (X.getD k 0)
def kidsI (X : List Int) (v : Nat) : List (List Int) := (List.range v).map fun (c : Nat) => X ++ [(c : Int)]
def kids (X : List Int) : List (List Int) := kidsI X (topT X X.length + 1).toNat
def lvl : Nat → List (List Int)
  | 0 => [[]]
  | x + 1 => (lvl x).flatMap kids
def lvlI (x i : Nat) : List (List Int) := ((lvl x).take i).flatMap kids
def lvF : Nat → List (List Int) → List (List Int)
  | 0, l => l
  | d + 1, l => lvF d (l.flatMap kids)
theorem lvF_s : ∀ (d : Nat) (l : List (List Int)), (lvF d l).flatMap kids = lvF (d + 1) l
  | 0, _ => rfl
  | d + 1, l => lvF_s d (l.flatMap kids)
theorem lvl_F : ∀ x : Nat, lvl x = lvF x [[]]
  | 0 => rfl
  | x + 1 => by rw [lvl, lvl_F x, lvF_s]
theorem lvF_flat {α : Type} (f : α → List (List Int)) : ∀ (d : Nat) (l : List α), lvF d (l.flatMap f) = l.flatMap fun x => lvF d (f x)
  | 0, _ => rfl
  | d + 1, l => by rw [lvF, List.flatMap_assoc, lvF_flat (fun x => (f x).flatMap kids) d l]; rfl
theorem top_nxt {X : List Int} (h : clsB X = true) : ∀ k : Nat, k ≤ X.length → topT X k = nxt X k
  | 0, _ => rfl
  | k + 1, hk => by
    have h1 := clsB_iff.1 h k (by omega)
    rw [topT, top_nxt h k (by omega), mx_eq, nxt]
    split <;> omega
theorem kids_flat (X : List Int) (v : Nat) : kidsI X v = (List.range v).flatMap fun (c : Nat) => [X ++ [(c : Int)]] := by
  unfold kidsI
  induction List.range v with
  | nil => rfl
  | cons a l ih => simp only [List.map_cons, List.flatMap_cons, ih]; rfl
theorem dfs_lvF : ∀ (d : Nat) (X : List Int) (u : Int), CX X u → dfs d X u = lvF d [X]
  | 0, _, _, _ => rfl
  | d + 1, X, u, h => by
    have hr := h.rng
    have e : topT X X.length = u := by rw [top_nxt h.cls _ (Nat.le_refl _), h.cnt]
    rw [dfs, lvF, List.flatMap_singleton, kids, e, show (u + 1).toNat = u.toNat + 1 by omega, kids_flat, lvF_flat]
    rw [List.flatMap_def, List.flatMap_def]
    congr 1
    refine List.map_congr_left fun c hc => ?_
    have hc := List.mem_range.1 hc
    exact dfs_lvF d _ _ (cx_snoc h (by omega) (by omega))
theorem lvl_dfs (x : Nat) : lvl x = dfs x [] 0 := by rw [lvl_F, dfs_lvF x [] 0 cx_nil]
theorem dfs_len : ∀ (d : Nat) (X : List Int) (u : Int), u.toNat + d ≤ 8 → (dfs d X u).length ≤ pw8 d
  | 0, X, u, _ => Nat.le_refl 1
  | d + 1, X, u, h => by
    rw [dfs, pw8]
    refine Nat.le_trans (flat_len _ (pw8 d) (u.toNat + 1) fun c hc => dfs_len d _ _ (by rw [mx_eq]; omega)) ?_
    exact Nat.mul_le_mul_right _ (by omega)
theorem lvl_len {x : Nat} (h : x ≤ 8) : (lvl x).length ≤ 16777216 := by
  rw [lvl_dfs]
  exact Nat.le_trans (dfs_len x [] 0 (by simpa using h)) (pw8_8 h)
theorem lvlI_len {x i : Nat} (h : x < 8) : (lvlI x i).length ≤ 16777216 := by
  refine Nat.le_trans ?_ (lvl_len (x := x + 1) (by omega))
  rw [lvl, lvlI]
  have e : (lvl x).flatMap kids = ((lvl x).take i).flatMap kids ++ ((lvl x).drop i).flatMap kids := by rw [← List.flatMap_append, List.take_append_drop]
  rw [e, List.length_append]; omega
theorem lvl_mem : ∀ (x : Nat) (X : List Int), X ∈ lvl x → X.length = x ∧ clsB X = true
  | 0, X, h => by
    have : X = [] := by simpa [lvl] using h
    subst this; exact ⟨rfl, rfl⟩
  | x + 1, X, h => by
    rw [lvl, List.mem_flatMap] at h
    obtain ⟨Y, hY, hX⟩ := h
    obtain ⟨h1, h2⟩ := lvl_mem x Y hY
    have e := top_nxt h2 _ (Nat.le_refl _)
    have hr := nxt_rng Y Y.length
    simp only [kids, kidsI, List.mem_map, List.mem_range] at hX
    obtain ⟨c, hc, rfl⟩ := hX
    exact ⟨by simp [h1], cls_snoc h2 (by omega) (by omega)⟩
theorem lvl_at {x i : Nat} (hi : i < (lvl x).length) : ((lvl x).getD i []).length = x ∧ clsB ((lvl x).getD i []) = true := by
  refine lvl_mem x _ ?_
  rw [List.getD_eq_getElem?_getD, List.getElem?_eq_getElem hi]
  exact List.getElem_mem hi
theorem top_at {x i k : Nat} (hi : i < (lvl x).length) (hk : k ≤ x) : 0 ≤ topT ((lvl x).getD i []) k ∧ topT ((lvl x).getD i []) k ≤ k := by
  obtain ⟨h1, h2⟩ := lvl_at hi
  rw [top_nxt h2 k (by omega)]
  exact nxt_rng _ k
theorem val_at {x i k : Nat} (hi : i < (lvl x).length) (hk : k < x) : 0 ≤ ((lvl x).getD i []).getD k 0 ∧ ((lvl x).getD i []).getD k 0 ≤ k := by
  obtain ⟨h1, h2⟩ := lvl_at hi
  have := clsB_iff.1 h2 k (by omega)
  have := nxt_rng ((lvl x).getD i []) k
  omega
theorem kidsI_len (X : List Int) (v : Nat) : (kidsI X v).length = v := by simp [kidsI]
theorem kidsI_s (X : List Int) (v : Nat) : kidsI X v ++ [X ++ [(v : Int)]] = kidsI X (v + 1) := by simp [kidsI, List.range_succ]
theorem lvlI_s {x i v : Nat} (hi : i < (lvl x).length) (hv : (v : Int) = topT ((lvl x).getD i []) ((lvl x).getD i []).length + 1) : lvlI x i ++ kidsI ((lvl x).getD i []) v = lvlI x (i + 1) := by
  unfold lvlI
  rw [take_succ_getD _ [] hi, List.flatMap_append, List.flatMap_singleton, kids, ← hv]
  rfl
theorem lvlI_e {x i : Nat} (hi : i = (lvl x).length) : lvlI x i = lvl (x + 1) := by rw [lvlI, hi, List.take_length, lvl]
def corI (xs : List Int) (n j : Nat) : List (List Int) := ((lvl n).take j).filter (corB xs)
theorem corI_y {xs : List Int} {n j : Nat} (hj : j < (lvl n).length) (h : corB xs ((lvl n).getD j []) = true) : corI xs n j ++ [(lvl n).getD j []] = corI xs n (j + 1) := by
  unfold corI
  rw [take_succ_getD _ [] hj, List.filter_append, List.filter_cons_of_pos h]; rfl
theorem corI_n {xs : List Int} {n j : Nat} (hj : j < (lvl n).length) (h : corB xs ((lvl n).getD j []) = false) : corI xs n j = corI xs n (j + 1) := by
  unfold corI
  rw [take_succ_getD _ [] hj, List.filter_append, List.filter_cons_of_neg (by rw [h]; exact Bool.false_ne_true)]; simp
theorem top_end {X : List Int} {x k : Nat} {v : Nat} (h : X.length = x) (hk : k = x) (hv : (v : Int) = topT X k + 1) : (v : Int) = topT X X.length + 1 := by rw [h, ← hk]; exact hv
theorem corI_e {xs : List Int} {n j : Nat} (hj : j = (lvl n).length) : corI xs n j = cgs xs n [] 0 := by rw [corI, hj, List.take_length, cgs, lvl_dfs]
theorem corI_len {xs : List Int} {n j : Nat} (h8 : n ≤ 8) : (corI xs n j).length ≤ 16777216 := by
  refine Nat.le_trans (List.length_filter_le _ _) (Nat.le_trans ?_ (lvl_len h8))
  rw [List.length_take]; omega

theorem l21Partitions_c (n : Int) (xs : List Int) (hP : okPo n xs = true) : CallA Try.prog 33 [.agg [AI n, LI xs]] (ownA eLI 22 1 (cgs xs n.toNat [] 0)) := by
  have hFr := okFr_rel (okPo_fr hP)
  have hb0 : 0 ≤ n ∧ n ≤ 8 := ⟨hFr.1, hFr.2.1⟩
  refine CallA.of Try.func33 rfl (by kernel_rfl) ?_
  refine R.go 8 (R.frz 1 (by kernel_rfl) ?_)
  refine R.go 6 (R.frz 2 (by kernel_rfl) ?_)
  refine R.go 3 (R.loop ((fun | (x, LL) => (⟨(frm 84 [(1, .ptr 0 0), (3, LLI LL), (4, AI (x : Int))]), [.box 31 [AI n, LI xs]]⟩ : St) : Nat × (List (List Int)) → St)) (fun | (x, LL) => ((x : Int) ≤ n) ∧ (LL = lvl x)) (fun | (x, LL) => n.toNat - x) (0, [[]]) [1, 3, 4] (some [0]) (by kernel_rfl) (by kernel_rfl) (by kernel_rfl) ⟨(by omega), (by rfl)⟩ ?_)
  rintro ⟨x, LL⟩ ⟨h4_1, rfl⟩ R1 N2
  have hll : (lvl x).length ≤ 16777216 := lvl_len (by omega)
  refine R.go 8 (R.cond ((x : Int) < n) (by kernel_rfl) (fun c5 => ?_) (fun c5 => ?_))
  · refine R.go 14 (R.loop ((fun | (i, N) => (⟨(frm 84 [(1, .ptr 0 0), (3, LLI (lvl x)), (4, AI (x : Int)), (5, .ref 1), (6, AI (i : Int))]), [.box 31 [AI n, LI xs], rowA eLI 22 1 N]⟩ : St) : Nat × (List (List Int)) → St)) (fun | (i, N) => (i ≤ (lvl x).length) ∧ (N = lvlI x i)) (fun | (i, N) => (lvl x).length - i) (0, []) [1, 3, 4, 5, 6] none (by kernel_rfl) (by kernel_rfl) (by kernel_rfl) ⟨(by omega), (by rfl)⟩ ?_)
    rintro ⟨i, N⟩ ⟨h9_1, rfl⟩ R6 N7
    have hnl := lvlI_len (x := x) (i := i) (by omega)
    refine R.go 8 (R.cond ((i : Int) < ((lvl x).length : Int)) (by kernel_rfl) (fun c10 => ?_) (fun c10 => ?_))
    · have hla := lvl_at (x := x) (i := i) (by omega)
      have hla1 := hla.1
      refine R.go 13 (R.loop ((fun | (k, top) => (⟨(frm 84 [(1, .ptr 0 0), (3, LLI (lvl x)), (4, AI (x : Int)), (5, .ref 1), (6, AI (i : Int)), (7, AI top), (8, AI (k : Int))]), [.box 31 [AI n, LI xs], rowA eLI 22 1 (lvlI x i)]⟩ : St) : Nat × Int → St)) (fun | (k, top) => (k ≤ x) ∧ (top = topT ((lvl x).getD i []) k)) (fun | (k, top) => x - k) (0, 0) [1, 3, 4, 5, 6, 7, 8] none (by kernel_rfl) (by kernel_rfl) (by kernel_rfl) ⟨(by omega), (by rfl)⟩ ?_)
      rintro ⟨k, top⟩ ⟨h14_1, rfl⟩ R11 N12
      have htp := top_at (x := x) (i := i) (k := k) (by omega) (by omega)
      refine R.go 6 (R.idx eLI (lvl x) [] i (i : Int) (by kernel_rfl) rfl eLI_len (by omega) (by kernel_rfl) ?_)
      refine R.go 4 (R.cond ((k : Int) < (((lvl x).getD i []).length : Int)) (by kernel_rfl) (fun c15 => ?_) (fun c15 => ?_))
      · have hva := val_at (x := x) (i := i) (k := k) (by omega) (by omega)
        refine R.go 7 (R.idx eLI (lvl x) [] i (i : Int) (by kernel_rfl) rfl eLI_len (by omega) (by kernel_rfl) ?_)
        refine R.go 2 (R.idx eI ((lvl x).getD i []) 0 k (k : Int) (by kernel_rfl) rfl eI_len (by first | omega | (simp only [List.length_set]; omega) | (simp <;> omega)) (by kernel_rfl) ?_)
        refine R.go 1 (R.ar ((((lvl x).getD i []).getD k 0) + 1) (by kernel_rfl) (by omega) (by omega) (by kernel_rfl) ?_)
        refine R.go 6 (R.ar ((k : Int) + 1) (by kernel_rfl) (by omega) (by omega) (by kernel_rfl) ?_)
        exact R.go 2 (R.stop R11 (by kernel_rfl) (N12 (k + 1, if ((((lvl x).getD i []).getD k 0) + 1) > (topT ((lvl x).getD i []) k) then ((((lvl x).getD i []).getD k 0) + 1) else (topT ((lvl x).getD i []) k)) [1, 3, 4, 5, 6, 7, 8] none _ (by kernel_rfl) (by kernel_rfl) ⟨(by omega), (by rfl)⟩ (by show (x - (k + 1)) < (x - k); omega)))
      · refine R.go 6 (R.loop ((fun | (v, Q) => (⟨(frm 84 [(1, .ptr 0 0), (3, LLI (lvl x)), (4, AI (x : Int)), (5, .ref 1), (6, AI (i : Int)), (7, AI (topT ((lvl x).getD i []) k)), (9, AI (v : Int))]), [.box 31 [AI n, LI xs], rowA eLI 22 1 Q]⟩ : St) : Nat × (List (List Int)) → St)) (fun | (v, Q) => ((v : Int) ≤ topT ((lvl x).getD i []) k + 1) ∧ (Q = lvlI x i ++ kidsI ((lvl x).getD i []) v)) (fun | (v, Q) => k + 1 - v) (0, (lvlI x i)) [1, 3, 4, 5, 6, 7, 9] none (by kernel_rfl) (by kernel_rfl) (by kernel_rfl) ⟨(by omega), (by simp [kidsI])⟩ ?_)
        rintro ⟨v, Q⟩ ⟨h19_1, rfl⟩ R16 N17
        have hql : (lvlI x i ++ kidsI ((lvl x).getD i []) v).length = (lvlI x i).length + v := by rw [List.length_append, kidsI_len]
        refine R.go 7 (R.cond ((v : Int) ≤ (topT ((lvl x).getD i []) k)) (by kernel_rfl) (fun c20 => ?_) (fun c20 => ?_))
        · refine R.go 7 (R.idx eLI (lvl x) [] i (i : Int) (by kernel_rfl) rfl eLI_len (by omega) (by kernel_rfl) ?_)
          refine R.go 1 (R.call true (l01Own_c ((lvl x).getD i []) (by first | omega | (simp only [List.length_append, List.length_cons, List.length_nil]; omega))) (by kernel_rfl) rfl (by kernel_rfl) ?_)
          refine R.go 2 (R.app eI ((lvl x).getD i []) [(v : Int)] 2 2 1 8 (by kernel_rfl) eI_one (by decide) (by simp only [List.length_cons, List.length_nil]; omega) (by kernel_rfl) ?_)
          refine R.frz 2 (by kernel_rfl) ?_
          refine R.go 1 (R.app eLI (lvlI x i ++ kidsI ((lvl x).getD i []) v) [((lvl x).getD i []) ++ [(v : Int)]] 1 22 1 24 (by kernel_rfl) eLI_one (by decide) (by simp only [List.length_cons, List.length_nil]; omega) (by kernel_rfl) ?_)
          refine R.go 5 (R.ar ((v : Int) + 1) (by kernel_rfl) (by omega) (by omega) (by kernel_rfl) ?_)
          exact R.go 2 (R.stop R16 (by kernel_rfl) (N17 (v + 1, lvlI x i ++ kidsI ((lvl x).getD i []) v ++ [((lvl x).getD i []) ++ [(v : Int)]]) [1, 3, 4, 5, 6, 7, 9] (some [0, 1]) _ (by kernel_rfl) (by kernel_rfl) ⟨(by omega), (by rw [List.append_assoc, kidsI_s])⟩ (by show (k + 1 - (v + 1)) < (k + 1 - v); omega)))
        · refine R.go 4 (R.ar ((i : Int) + 1) (by kernel_rfl) (by omega) (by omega) (by kernel_rfl) ?_)
          exact R.go 2 (R.stop R6 (by kernel_rfl) (N7 (i + 1, lvlI x i ++ kidsI ((lvl x).getD i []) v) [1, 3, 4, 5, 6] none _ (by kernel_rfl) (by kernel_rfl) ⟨(by omega), (by exact lvlI_s (by omega) (top_end (k := k) hla.1 (by omega) (by omega)))⟩ (by show ((lvl x).length - (i + 1)) < ((lvl x).length - i); omega)))
    · refine R.go 2 (R.frz 1 (by kernel_rfl) ?_)
      refine R.go 6 (R.ar ((x : Int) + 1) (by kernel_rfl) (by omega) (by omega) (by kernel_rfl) ?_)
      exact R.go 2 (R.stop R1 (by kernel_rfl) (N2 (x + 1, lvlI x i) [1, 3, 4] (some [0]) _ (by kernel_rfl) (by kernel_rfl) ⟨(by omega), (by exact lvlI_e (by omega))⟩ (by show (n.toNat - (x + 1)) < (n.toNat - x); omega)))
  · refine R.go 12 (R.loop ((fun | (j, O) => (⟨(frm 84 [(1, .ptr 0 0), (3, LLI (lvl x)), (10, .ref 1), (11, AI (j : Int))]), [.box 31 [AI n, LI xs], rowA eLI 22 1 O]⟩ : St) : Nat × (List (List Int)) → St)) (fun | (j, O) => (j ≤ (lvl x).length) ∧ (O = corI xs x j)) (fun | (j, O) => (lvl x).length - j) (0, []) [1, 3, 10, 11] none (by kernel_rfl) (by kernel_rfl) (by kernel_rfl) ⟨(by omega), (by rfl)⟩ ?_)
    rintro ⟨j, O⟩ ⟨h24_1, rfl⟩ R21 N22
    have hol := corI_len (xs := xs) (n := x) (j := j) (by omega)
    refine R.go 8 (R.cond ((j : Int) < ((lvl x).length : Int)) (by kernel_rfl) (fun c25 => ?_) (fun c25 => ?_))
    · refine R.go 4 ?_
      have hla := lvl_at (x := x) (i := j) (by omega)
      have hQ : QH xs ((lvl x).getD j []) := qh_of hP (by omega) hla.2
      refine R.go 4 (R.idx eLI (lvl x) [] j (j : Int) (by kernel_rfl) rfl eLI_len (by omega) (by kernel_rfl) ?_)
      refine R.go 1 (R.call true (l21Correct_c n xs ((lvl x).getD j []) hQ) (by kernel_rfl) rfl (by kernel_rfl) ?_)
      refine R.go 1 (R.condB (corB xs ((lvl x).getD j [])) (by kernel_rfl) (fun c26 => ?_) (fun c26 => ?_))
      · refine R.go 4 (R.idx eLI (lvl x) [] j (j : Int) (by kernel_rfl) rfl eLI_len (by omega) (by kernel_rfl) ?_)
        refine R.go 2 (R.app eLI (corI xs x j) [((lvl x).getD j [])] 1 22 1 24 (by kernel_rfl) eLI_one (by decide) (by simp only [List.length_cons, List.length_nil]; omega) (by kernel_rfl) ?_)
        refine R.go 5 (R.ar ((j : Int) + 1) (by kernel_rfl) (by omega) (by omega) (by kernel_rfl) ?_)
        exact R.go 2 (R.stop R21 (by kernel_rfl) (N22 (j + 1, (corI xs x j) ++ [((lvl x).getD j [])]) [1, 3, 10, 11] (some [0, 1]) _ (by kernel_rfl) (by kernel_rfl) ⟨(by omega), (by first | exact corI_y (by omega) (by assumption) | exact corI_n (by omega) (by assumption))⟩ (by show ((lvl x).length - (j + 1)) < ((lvl x).length - j); omega)))
      · refine R.go 4 (R.ar ((j : Int) + 1) (by kernel_rfl) (by omega) (by omega) (by kernel_rfl) ?_)
        exact R.go 2 (R.stop R21 (by kernel_rfl) (N22 (j + 1, corI xs x j) [1, 3, 10, 11] none _ (by kernel_rfl) (by kernel_rfl) ⟨(by omega), (by first | exact corI_y (by omega) (by assumption) | exact corI_n (by omega) (by assumption))⟩ (by show ((lvl x).length - (j + 1)) < ((lvl x).length - j); omega)))
    · exact R.go 6 (R.retE (ownA eLI 22 1 (corI xs x j)) (by kernel_rfl) (by kernel_rfl) (by first | (rw [corI_e (by omega), show x = n.toNat by omega]) | (exfalso; omega)))

end Go.Proofs.Ytalfakdiinhdnaa


/-! The law of CorrectPartitions. -/
namespace Go.Proofs.Ytalfakdiinhdnaa
open Go.RowKit Go.Abs

/-- What CorrectPartitions answers. -/
def cpC (n : Int) (xs : List Int) : Int := if okPo n xs = true then (if n > 6 then 3 else 0) else 1
def cpR (n : Int) (xs : List Int) : List (List Int) := if cpC n xs = 0 then cgs xs n.toNat [] 0 else []
theorem cp_bad {n : Int} {xs : List Int} (h : okPo n xs = false) : cpC n xs = 1 ∧ cpR n xs = [] := by
  have : cpC n xs = 1 := by rw [cpC, h]; rfl
  exact ⟨this, by rw [cpR, if_neg (by rw [this]; decide)]⟩
theorem cp_lim {n : Int} {xs : List Int} (h : okPo n xs = true) (h6 : n > 6) : cpC n xs = 3 ∧ cpR n xs = [] := by
  have : cpC n xs = 3 := by rw [cpC, if_pos h, if_pos h6]
  exact ⟨this, by rw [cpR, if_neg (by rw [this]; decide)]⟩
theorem cp_ok {n : Int} {xs : List Int} (h : okPo n xs = true) (h6 : ¬ n > 6) : cpC n xs = 0 ∧ cpR n xs = cgs xs n.toNat [] 0 := by
  have : cpC n xs = 0 := by rw [cpC, if_pos h, if_neg h6]
  exact ⟨this, by rw [cpR, if_pos this]⟩
theorem cp_0 {n : Int} {xs : List Int} (h : cpC n xs = 0) : 0 ≤ n ∧ n ≤ 6 := by
  unfold cpC at h
  split at h
  · rename_i hp
    have := okFr_rel (okPo_fr hp)
    split at h
    · cases h
    · omega
  · cases h
theorem lvl_203 : ∀ n : Nat, n ≤ 6 → (lvl n).length ≤ 203 := by
  have h : (List.range 7).all (fun n => Nat.ble (lvl n).length 203) = true := by decide +kernel
  intro n hn
  exact Nat.le_of_ble_eq_true (List.all_eq_true.1 h n (List.mem_range.2 (by omega)))
theorem mkI_row {X Y : List Int} {k : Int} {i : Nat} (hX : X = Y) (hi : i = X.length) : markI X k i = markC Y.length k := by subst hX hi; exact markI_all _ _ _ rfl
theorem lenG_le {α : Type} {l : List (List α)} {c : Nat} (h : ∀ j, j < l.length → (l.getD j []).length ≤ c) : ∀ i, i ≤ l.length → lenG l i ≤ c * i
  | 0, _ => by simp [lenG]
  | i + 1, hi => by
    have h1 := lenG_le h i (by omega)
    have h2 := h i (by omega)
    rw [lenG, Nat.mul_add]; omega
theorem cpR_len {n : Int} {xs : List Int} : (cpR n xs).length ≤ 203 ∧ (∀ j : Nat, j < (cpR n xs).length → ((cpR n xs).getD j []).length ≤ 6) ∧ lenG (cpR n xs) (cpR n xs).length ≤ 2000 := by
  have h : (cpR n xs).length ≤ 203 ∧ (∀ j : Nat, j < (cpR n xs).length → ((cpR n xs).getD j []).length ≤ 6) := by
    by_cases h : cpC n xs = 0
    · rw [cpR, if_pos h, cgs, ← lvl_dfs]
      have h0 := cp_0 h
      refine ⟨Nat.le_trans (List.length_filter_le _ _) (lvl_203 _ (by omega)), fun j hj => ?_⟩
      have hm : ((lvl n.toNat).filter (corB xs)).getD j [] ∈ (lvl n.toNat).filter (corB xs) := by
        rw [List.getD_eq_getElem?_getD, List.getElem?_eq_getElem hj]
        exact List.getElem_mem hj
      have := (lvl_mem _ _ (List.mem_filter.1 hm).1).1
      omega
    · rw [cpR, if_neg h]
      exact ⟨by simp, fun j hj => by simp at hj⟩
  refine ⟨h.1, h.2, ?_⟩
  have := lenG_le h.2 _ (Nat.le_refl _)
  have := h.1
  omega
theorem cpF {n : Int} {xs : List Int} {L : List (Value × List Int)} (h : L.map Prod.snd = cpR n xs) : L.length = (cpR n xs).length ∧ (L.map Prod.snd).length ≤ 1000000000 ∧ (∀ j : Nat, j < (L.map Prod.snd).length → ((L.map Prod.snd).getD j []).length ≤ 1000000000) := by
  have h1 := cpR_len (n := n) (xs := xs)
  refine ⟨lenV h, by rw [h]; omega, fun j hj => ?_⟩
  rw [h] at hj ⊢
  have := h1.2.1 j hj
  omega

theorem CorrectPartitions_c (n : Int) (xs : List Int) (lx : xs.length ≤ 1048576) : CallE Try.prog 16 [.agg [AI n, LI xs]] (fun (b : Nat) (r : AV) => ∃ L : List (Value × List Int), r = .tup [ownA (eV eI 2 1) 22 1 L, AI (cpC n xs)] ∧ (NL b L) ∧ (L.map Prod.snd = cpR n xs)) := by
  refine CallE.of Try.func16 rfl (by kernel_rfl) (fun b => ?_)
  refine R.go 11 (R.call true (isPoset_c n xs (by first | omega | (simp <;> omega))) (by kernel_rfl) rfl (by kernel_rfl) ?_)
  refine R.go 3 (R.condM (okPo n xs) (by kernel_rfl) (fun c1 => ?_) (fun c1 => ?_))
  · have hP : okPo n xs = false := by assumption
    obtain ⟨hc1, hc2⟩ := cp_bad hP
    refine R.go 5 (R.nil 2 22 1 (by kernel_rfl) ?_)
    exact R.retB (.tup [ownA (eV eI 2 1) 22 1 [], AI 1]) (by kernel_rfl) (by kernel_rfl) ⟨[], by first | rfl | (rw [hc1]) | (exfalso; omega), by first | (first | exact NL.nil | exact NL.mono (by assumption) (by assumption) | assumption) | (exfalso; omega), by first | (rw [hc2]; first | rfl | assumption) | (exfalso; omega)⟩
  · refine R.go 7 (R.cond (n > 6) (by kernel_rfl) (fun c2 => ?_) (fun c2 => ?_))
    · have hP : okPo n xs = true := by assumption
      obtain ⟨hc1, hc2⟩ := cp_lim hP (by omega)
      refine R.go 5 (R.nil 2 22 1 (by kernel_rfl) ?_)
      exact R.retB (.tup [ownA (eV eI 2 1) 22 1 [], AI 3]) (by kernel_rfl) (by kernel_rfl) ⟨[], by first | rfl | (rw [hc1]) | (exfalso; omega), by first | (first | exact NL.nil | exact NL.mono (by assumption) (by assumption) | assumption) | (exfalso; omega), by first | (rw [hc2]; first | rfl | assumption) | (exfalso; omega)⟩
    · have hP : okPo n xs = true := by assumption
      obtain ⟨hc1, hc2⟩ := cp_ok hP (by omega)
      have hFr := okFr_rel (okPo_fr hP)
      have hn : (xs.length : Int) = n := hFr.2.2.1
      refine R.go 5 (R.call true (pFrame_c n xs hn) (by kernel_rfl) rfl (by kernel_rfl) ?_)
      refine R.callE (avs0 := [.agg [AI n, LI xs]]) (congruences_c n xs hP) (by kernel_rfl) (.cons (.agg (.cons (.leaf rfl) (.cons (.leaf rfl) (.nil)))) (.nil)) (congruences_c_cl n xs) (by kernel_rfl) ?_
      intro bE1 hbn3 hsn4 rn5 hrn6
      obtain ⟨L2E1, rfl, heE1_1, heE1_2⟩ := hrn6
      have hbb7 : b ≤ bE1 := hbn3 0 b (by kernel_rfl)
      clear hbn3 hsn4
      exact R.go 3 (R.retB (.tup [ownA (eV eI 2 1) 22 1 L2E1, AI 0]) (by kernel_rfl) (by kernel_rfl) ⟨L2E1, by first | rfl | (rw [hc1]) | (exfalso; omega), by first | (first | exact NL.nil | exact NL.mono (by assumption) (by assumption) | assumption) | (exfalso; omega), by first | (rw [hc2]; first | rfl | assumption) | (exfalso; omega)⟩)
theorem CorrectPartitions_c_cl (n : Int) (xs : List Int) : ∀ (b : Nat) (r : AV), (fun (b : Nat) (r : AV) => ∃ L : List (Value × List Int), r = .tup [ownA (eV eI 2 1) 22 1 L, AI (cpC n xs)] ∧ (NL b L) ∧ (L.map Prod.snd = cpR n xs)) b r → ClosedN b r := by
 rintro b r ⟨L, rfl, e0, e1⟩
 exact (closedN_tup (closedNL_cons (closedN_own _ e0 eI_closed) (closedNL_cons closedN_int closedNL_nil)))

theorem CorrectPartitions_s (n : Int) (xs : List Int) (lx : xs.length ≤ 1048576) : CallA Try.prog 15 [.agg [AI n, LI xs]] (.tup [ownA eLI 22 1 (cpR n xs), AI (cpC n xs)]) := by
  refine CallA.of Try.func15 rfl (by kernel_rfl) ?_
  refine R.go 11 (R.call true (l16Is_c n xs (by first | omega | (simp <;> omega))) (by kernel_rfl) rfl (by kernel_rfl) ?_)
  refine R.go 3 (R.condM (okPo n xs) (by kernel_rfl) (fun c1 => ?_) (fun c1 => ?_))
  · have hP : okPo n xs = false := by assumption
    obtain ⟨hc1, hc2⟩ := cp_bad hP
    refine R.go 5 (R.nil 2 22 1 (by kernel_rfl) ?_)
    exact R.retE (.tup [ownA eLI 22 1 [], AI 1]) (by kernel_rfl) (by kernel_rfl) (by first | (rw [hc1, hc2]) | (exfalso; omega))
  · refine R.go 7 (R.cond (n > 6) (by kernel_rfl) (fun c2 => ?_) (fun c2 => ?_))
    · have hP : okPo n xs = true := by assumption
      obtain ⟨hc1, hc2⟩ := cp_lim hP (by omega)
      refine R.go 5 (R.nil 2 22 1 (by kernel_rfl) ?_)
      exact R.retE (.tup [ownA eLI 22 1 [], AI 3]) (by kernel_rfl) (by kernel_rfl) (by first | (rw [hc1, hc2]) | (exfalso; omega))
    · have hP : okPo n xs = true := by assumption
      obtain ⟨hc1, hc2⟩ := cp_ok hP (by omega)
      have hFr := okFr_rel (okPo_fr hP)
      have hn : (xs.length : Int) = n := hFr.2.2.1
      refine R.go 5 (R.call true (l21Partitions_c n xs hP) (by kernel_rfl) rfl (by kernel_rfl) ?_)
      exact R.go 3 (R.retE (.tup [ownA eLI 22 1 (cgs xs n.toNat [] 0), AI 0]) (by kernel_rfl) (by kernel_rfl) (by first | (rw [hc1, hc2]) | (exfalso; omega)))

theorem eqInt64SS_c (a : List (List Int)) (b : List (List Int)) (la : a.length ≤ 1000000000) (lb : ∀ j : Nat, j < a.length → (a.getD j []).length ≤ 1000000000) : CallA Try.prog 17 [LLI a, LLI b] (.bool (decide (a = b))) := by
  refine CallA.of Try.func17 rfl (by kernel_rfl) ?_
  refine R.go 13 (R.condN ((a.length : Int) = (b.length : Int)) (by kernel_rfl) (fun c1 => ?_) (fun c1 => ?_))
  · exact R.go 4 (R.retE (.bool false) (by kernel_rfl) (by kernel_rfl) (by first | (first | (rw [dF (fun h => by subst h; omega)]) | (rw [dT (take_all (i := i) (by omega) (by omega) (by assumption))]) | (rw [dF (fun h => by subst h; exact absurd rfl (by assumption))])) | (exfalso; omega)))
  · refine R.go 7 (R.loop (fun (i : Nat) => (⟨(frm 27 [(0, LLI a), (1, LLI b), (5, AI (i : Int))]), []⟩ : St)) (fun (i : Nat) => (i ≤ a.length) ∧ (a.take i = b.take i)) (fun (i : Nat) => a.length - i) 0 [0, 1, 5] none (by kernel_rfl) (by kernel_rfl) (by kernel_rfl) ⟨(by omega), (by rfl)⟩ ?_)
    rintro i ⟨h4_1, h4_2⟩ R2 N3
    refine R.go 8 (R.cond ((i : Int) < (a.length : Int)) (by kernel_rfl) (fun c5 => ?_) (fun c5 => ?_))
    · have hgl := lb i (by omega)
      refine R.go 7 (R.idx eLI a [] i (i : Int) (by kernel_rfl) rfl eLI_len (by omega) (by kernel_rfl) ?_)
      refine R.go 3 (R.idx eLI b [] i (i : Int) (by kernel_rfl) rfl eLI_len (by omega) (by kernel_rfl) ?_)
      refine R.go 1 (R.call true (eqInt64S_c (a.getD i []) (b.getD i []) (by first | omega | (simp <;> omega))) (by kernel_rfl) rfl (by kernel_rfl) ?_)
      refine R.go 2 (R.condN ((a.getD i []) = (b.getD i [])) (by kernel_rfl) (fun c6 => ?_) (fun c6 => ?_))
      · exact R.go 4 (R.retE (.bool false) (by kernel_rfl) (by kernel_rfl) (by first | (first | (rw [dF (fun h => by subst h; omega)]) | (rw [dT (take_all (i := i) (by omega) (by omega) (by assumption))]) | (rw [dF (fun h => by subst h; exact absurd rfl (by assumption))])) | (exfalso; omega)))
      · refine R.go 4 (R.ar ((i : Int) + 1) (by kernel_rfl) (by omega) (by omega) (by kernel_rfl) ?_)
        exact R.go 2 (R.stop R2 (by kernel_rfl) (N3 (i + 1) [0, 1, 5] none _ (by kernel_rfl) (by kernel_rfl) ⟨(by omega), (by exact take_step a b [] i (by omega) (by omega) (by assumption) (by assumption))⟩ (by show (a.length - (i + 1)) < (a.length - i); omega)))
    · exact R.go 5 (R.retE (.bool true) (by kernel_rfl) (by kernel_rfl) (by first | (first | (rw [dF (fun h => by subst h; omega)]) | (rw [dT (take_all (i := i) (by omega) (by omega) (by assumption))]) | (rw [dF (fun h => by subst h; exact absurd rfl (by assumption))])) | (exfalso; omega)))

set_option maxHeartbeats 4000000 in
theorem lawCorrectPartitions_inE (n : Int) (xs : List Int) (uo : Value) (co : List AV) (hco : ByN (.nam uo none 1 xs.length co) (LI xs)) (hl : xs.length ≤ 1048576) : CallE Try.prog 4 [.agg [AI n, .nam uo none 1 xs.length co]] (fun (b : Nat) (r : AV) => r = .bool true) := by
  have hrl := cpR_len (n := n) (xs := xs)
  have hrl1 := hrl.1
  have hrl3 := hrl.2.2
  refine CallE.of Try.func4 rfl (by kernel_rfl) (fun b => ?_)
  refine R.go 13 (R.callW (avs0 := [.agg [AI n, .nam uo none 1 xs.length co], AI 1048576]) (szPoset_c n xs 1048576 (by omega) (by first | omega | (simp <;> omega))) (by kernel_rfl) (.cons (.agg (.cons (.leaf rfl) (.cons (.wk (.leaf hco.leafy) hco.fgt) (.nil)))) (.cons (.leaf rfl) (.nil))) rfl (by kernel_rfl) ?_)
  refine R.go 8 (R.cond (((1048576 : Int) - xs.length) < 0) (by kernel_rfl) (fun c1 => ?_) (fun c1 => ?_))
  · exact R.go 4 (R.retB (.bool true) (by kernel_rfl) (by kernel_rfl) (rfl))
  · refine R.go 4 (R.callW (avs0 := [.agg [AI n, .nam uo none 1 xs.length co]]) (toPoset_c n xs hl) (by kernel_rfl) (.cons (.agg (.cons (.leaf rfl) (.cons (.wk (.leaf hco.leafy) hco.fgt) (.nil)))) (.nil)) (by simp [AV.closed, closedL, AI, ownA_closed eI_closed]) (by kernel_rfl) ?_)
    refine R.frz 2 (by kernel_rfl) ?_
    refine R.call true (CorrectPartitions_s n xs hl) (by kernel_rfl) rfl (by kernel_rfl) ?_
    refine R.go 3 (R.frz 3 (by kernel_rfl) ?_)
    refine R.go 5 (R.nameS 4 1 (cpR n xs).length (rows eLI (cpR n xs)) (by kernel_rfl) (by kernel_rfl) (nameable_LLI _) ?_)
    intro uo2 co3 ho4
    refine R.go 1 (R.callW (avs0 := [.agg [AI n, .nam uo none 1 xs.length co]]) (toPoset_c n xs hl) (by kernel_rfl) (.cons (.agg (.cons (.leaf rfl) (.cons (.wk (.leaf hco.leafy) hco.fgt) (.nil)))) (.nil)) (by simp [AV.closed, closedL, AI, ownA_closed eI_closed]) (by kernel_rfl) ?_)
    refine R.go 6 (R.callE (avs0 := [.agg [AI n, .ref 4]]) (CorrectPartitions_c n xs hl) (by kernel_rfl) (.cons (.agg (.cons (.leaf rfl) (.cons (.ref (e := 2) (s := 1) (n := xs.length) (cs := rows eI xs) (by kernel_rfl)) (.nil)))) (.nil)) (CorrectPartitions_c_cl n xs) (by kernel_rfl) ?_)
    intro bE1 hbn5 hsn6 rn7 hrn8
    obtain ⟨LE1, rfl, heE1_1, heE1_2⟩ := hrn8
    have hbb9 : b ≤ bE1 := hbn5 0 b (by kernel_rfl)
    have hsf10 : ∀ v, (∀ g, blk v = some g → bE1 ≤ g) → Go.Abs.Safe v (.nam uo none 1 xs.length co) := fun v hv => safe_old hco (fun u hu => hsn6 u (inS_slot 0 (c := .agg [AI n, .nam uo none 1 xs.length co]) (by kernel_rfl) (by simp [InN, InNL] at hu ⊢; simp [hu]))) hv
    have hsf11 : ∀ v, (∀ g, blk v = some g → bE1 ≤ g) → Go.Abs.Safe v (.nam uo2 none 1 (cpR n xs).length co3) := fun v hv => safe_old ho4 (fun u hu => hsn6 u (inS_slot 4 (c := .nam uo2 none 1 (cpR n xs).length co3) (by kernel_rfl) hu)) hv
    clear hbn5 hsn6
    have hq1 : (LE1.map Prod.snd) = (cpR n xs) := heE1_2
    have hv1 := cpF heE1_2
    have hv1a := hv1.2.1
    have hv1b : ∀ j : Nat, j < (List.map Prod.snd LE1).length → ((List.map Prod.snd LE1).getD j []).length ≤ 1000000000 := hv1.2.2
    refine R.go 11 (R.callW (avs0 := [.ref 6, .nam uo2 none 1 (cpR n xs).length co3]) (eqInt64SS_c (LE1.map Prod.snd) (cpR n xs) (by first | omega | (simp <;> omega)) (by assumption)) (by kernel_rfl) (.cons (.wk (.ref (e := 22) (s := 1) (n := LE1.length) (cs := rows (eV eI 2 1) LE1) (by kernel_rfl)) (fgtV (fun _ => rfl) _)) (.cons (.wk (.leaf ho4.leafy) ho4.fgt) (.nil))) rfl (by kernel_rfl) ?_)
    refine R.go 2 (R.want (!decide ((LE1.map Prod.snd) = (cpR n xs))) false (by kernel_rfl) (nF hq1) ?_)
    refine R.go 1 (R.want (!decide ((LE1.map Prod.snd) = (cpR n xs))) false (by kernel_rfl) (nF hq1) ?_)
    refine R.go 1 (R.want (!decide ((LE1.map Prod.snd) = (cpR n xs))) false (by kernel_rfl) (nF hq1) ?_)
    refine R.go 1 (R.pick (!decide ((LE1.map Prod.snd) = (cpR n xs))) false (by kernel_rfl) (nF hq1) (by kernel_rfl) ?_)
    refine R.go 1 (R.els (!decide ((cpC n xs) = (cpC n xs))) (by kernel_rfl) (nF rfl) ?_)
    refine R.go 3 (R.meet (⟨(frm 96 [(0, .agg [AI n, .nam uo none 1 xs.length co]), (1, .ptr 1 0), (2, .bool false), (3, AI ((1048576 : Int) - xs.length)), (4, .nam uo2 none 1 (cpR n xs).length co3), (5, AI (cpC n xs)), (6, .ptr 5 0), (7, .ref 6), (8, AI (cpC n xs)), (14, .agg [AI n, .nam uo none 1 xs.length co]), (15, AI 1048576), (16, AI ((1048576 : Int) - xs.length)), (17, AI ((1048576 : Int) - xs.length)), (18, .bool (decide (((1048576 : Int) - xs.length) < 0))), (19, .tup [LLI (cpR n xs), AI (cpC n xs)]), (20, .agg [AI n, .nam uo none 1 xs.length co]), (21, .agg [AI n, LI xs]), (22, .tup [LLI (cpR n xs), AI (cpC n xs)]), (23, LLI (cpR n xs)), (24, AI (cpC n xs)), (25, .agg [AI n, .nam uo none 1 xs.length co]), (26, .agg [AI n, .ref 4]), (27, .tup [.ref 6, AI (cpC n xs)]), (28, .agg [AI n, .ref 4]), (29, .tup [.ref 6, AI (cpC n xs)]), (30, .ref 6), (31, AI (cpC n xs)), (32, .ref 6), (33, .nam uo2 none 1 (cpR n xs).length co3), (34, .bool (decide ((LE1.map Prod.snd) = (cpR n xs)))), (35, .bool (!decide ((LE1.map Prod.snd) = (cpR n xs)))), (36, .bool (!decide ((LE1.map Prod.snd) = (cpR n xs)))), (37, AI (cpC n xs)), (38, AI (cpC n xs)), (39, .bool (!decide ((cpC n xs) = (cpC n xs)))), (40, .bool (!decide ((cpC n xs) = (cpC n xs)))), (41, .agg [AI n, .ref 4]), (42, .agg [AI n, .nam uo none 1 xs.length co]), (43, .agg [AI n, .ref 7]), (44, .bool true), (45, .bool false)]), [.inert (.base b), .box 24 [AI n, .nam uo none 1 xs.length co], .dead, .dead, rowA eI 2 1 xs, .box 31 [AI n, .ref 4], rowA (eV eI 2 1) 22 1 LE1, rowA eI 2 1 xs]⟩ : St) (by kernel_rfl) ?_ ?_)
    · refine R.any (by decide +kernel) (by kernel_rfl) ?_
      refine R.any2 0 1 (by kernel_rfl) (by kernel_rfl) ?_ ?_
      · refine R.go 2 (R.any1 1 (by kernel_rfl) (by kernel_rfl) ?_)
        refine R.go 2 (R.any1 2 (by kernel_rfl) (by kernel_rfl) ?_)
        refine R.callW (avs0 := [.agg [AI n, .nam uo none 1 xs.length co]]) (toPoset_c n xs hl) (by kernel_rfl) (.cons (.agg (.cons (.leaf rfl) (.cons (.wk (.leaf hco.leafy) hco.fgt) (.nil)))) (.nil)) (by simp [AV.closed, closedL, AI, ownA_closed eI_closed]) (by kernel_rfl) ?_
        refine R.go 1 (R.any1 3 (by kernel_rfl) (by kernel_rfl) ?_)
        refine R.call false (eqPoset_c n xs (by first | omega | (simp <;> omega))) (by kernel_rfl) rfl (by kernel_rfl) ?_
        refine R.go 1 (R.any1 4 (by kernel_rfl) (by kernel_rfl) ?_)
        refine R.go 2 (R.any0 (by kernel_rfl) ?_)
        exact R.met (by kernel_rfl) (by kernel_rfl)
      · refine R.go 2 (R.any2 0 2 (by kernel_rfl) (by kernel_rfl) ?_ ?_)
        · refine R.go 2 (R.any1 2 (by kernel_rfl) (by kernel_rfl) ?_)
          refine R.callW (avs0 := [.agg [AI n, .nam uo none 1 xs.length co]]) (toPoset_c n xs hl) (by kernel_rfl) (.cons (.agg (.cons (.leaf rfl) (.cons (.wk (.leaf hco.leafy) hco.fgt) (.nil)))) (.nil)) (by simp [AV.closed, closedL, AI, ownA_closed eI_closed]) (by kernel_rfl) ?_
          refine R.go 1 (R.any1 3 (by kernel_rfl) (by kernel_rfl) ?_)
          refine R.call false (eqPoset_c n xs (by first | omega | (simp <;> omega))) (by kernel_rfl) rfl (by kernel_rfl) ?_
          refine R.go 1 (R.any1 4 (by kernel_rfl) (by kernel_rfl) ?_)
          refine R.go 2 (R.any0 (by kernel_rfl) ?_)
          exact R.met (by kernel_rfl) (by kernel_rfl)
        · refine R.callW (avs0 := [.agg [AI n, .nam uo none 1 xs.length co]]) (toPoset_c n xs hl) (by kernel_rfl) (.cons (.agg (.cons (.leaf rfl) (.cons (.wk (.leaf hco.leafy) hco.fgt) (.nil)))) (.nil)) (by simp [AV.closed, closedL, AI, ownA_closed eI_closed]) (by kernel_rfl) ?_
          refine R.go 1 (R.any1 0 (by kernel_rfl) (by kernel_rfl) ?_)
          refine R.go 2 (R.any1 3 (by kernel_rfl) (by kernel_rfl) ?_)
          refine R.call false (eqPoset_c n xs (by first | omega | (simp <;> omega))) (by kernel_rfl) rfl (by kernel_rfl) ?_
          refine R.go 1 (R.any1 4 (by kernel_rfl) (by kernel_rfl) ?_)
          refine R.go 2 (R.any0 (by kernel_rfl) ?_)
          exact R.met (by kernel_rfl) (by kernel_rfl)
    · refine R.go 10 (R.enter (avs := [.agg [AI n, .ref 4], AI 1]) Try.func12 rfl (by kernel_rfl) (by kernel_rfl) (by kernel_rfl) ?_)
      intro us12
      refine R.go 10 (R.enter (avs := [.ref 4, AI 1]) Try.func24 rfl (by kernel_rfl) (by kernel_rfl) (by kernel_rfl) ?_)
      intro us13
      refine R.go 10 (R.loop ((fun | (i1, ys1, q1) => (⟨(frm 19 [(0, .ref 4), (1, AI q1), (5, AI (i1 : Int))]), [.inert (.base b), .box 24 [AI n, .nam uo none 1 xs.length co], .dead, .dead, rowA eI 2 1 ys1, .box 31 [AI n, .ref 4], rowA (eV eI 2 1) 22 1 LE1, rowA eI 2 1 xs, .frame us12 (frm 96 [(0, .agg [AI n, .nam uo none 1 xs.length co]), (1, .ptr 1 0), (2, .bool false), (3, AI ((1048576 : Int) - xs.length)), (4, .nam uo2 none 1 (cpR n xs).length co3), (5, AI (cpC n xs)), (6, .ptr 5 0), (7, .ref 6), (8, AI (cpC n xs)), (9, AI 1), (14, .agg [AI n, .nam uo none 1 xs.length co]), (15, AI 1048576), (16, AI ((1048576 : Int) - xs.length)), (17, AI ((1048576 : Int) - xs.length)), (18, .bool (decide (((1048576 : Int) - xs.length) < 0))), (19, .tup [LLI (cpR n xs), AI (cpC n xs)]), (20, .agg [AI n, .nam uo none 1 xs.length co]), (21, .agg [AI n, LI xs]), (22, .tup [LLI (cpR n xs), AI (cpC n xs)]), (23, LLI (cpR n xs)), (24, AI (cpC n xs)), (25, .agg [AI n, .nam uo none 1 xs.length co]), (26, .agg [AI n, .ref 4]), (27, .tup [.ref 6, AI (cpC n xs)]), (28, .agg [AI n, .ref 4]), (29, .tup [.ref 6, AI (cpC n xs)]), (30, .ref 6), (31, AI (cpC n xs)), (32, .ref 6), (33, .nam uo2 none 1 (cpR n xs).length co3), (34, .bool (decide ((LE1.map Prod.snd) = (cpR n xs)))), (35, .bool (!decide ((LE1.map Prod.snd) = (cpR n xs)))), (36, .bool (!decide ((LE1.map Prod.snd) = (cpR n xs)))), (37, AI (cpC n xs)), (38, AI (cpC n xs)), (39, .bool (!decide ((cpC n xs) = (cpC n xs)))), (40, .bool (!decide ((cpC n xs) = (cpC n xs)))), (41, .agg [AI n, .ref 4]), (42, .agg [AI n, .nam uo none 1 xs.length co]), (43, .agg [AI n, .ref 7]), (44, .bool true), (45, .bool false), (46, .agg [AI n, .ref 4]), (47, AI 1)]), .box 31 [AI n, .ref 4], .frame us13 (frm 10 [(0, .agg [AI n, .ref 4]), (1, AI 1), (2, .ptr 9 0), (4, AI 0), (5, .ptr 9 1), (6, .ref 4), (7, AI 1)])]⟩ : St) : Nat × (List Int) × Int → St)) (fun | (i1, ys1, q1) => (i1 ≤ xs.length) ∧ (ys1 = markI xs 1 i1) ∧ (q1 = 1 + (i1 : Int))) (fun | (i1, ys1, q1) => xs.length - i1) (0, xs, 1) [0, 1, 5] none (by kernel_rfl) (by kernel_rfl) (by kernel_rfl) ⟨(by omega), (by exact markI_zero _ _), (by simp)⟩ ?_)
      rintro ⟨i1, ys1, q1⟩ ⟨h17_1, rfl, rfl⟩ R14 N15
      have hl1 : (markI xs 1 i1).length = xs.length := markI_length _ _ _ (by assumption)
      refine R.go 8 (R.cond ((i1 : Int) < ((markI xs 1 i1).length : Int)) (by kernel_rfl) (fun c18 => ?_) (fun c18 => ?_))
      · refine R.go 8 (R.idxO 4 1 (markI xs 1 i1).length i1 (i1 : Int) (by kernel_rfl) rfl (by omega) (by kernel_rfl) ?_)
        refine R.stI 4 2 (markI xs 1 i1) i1 (1 + (i1 : Int)) (by kernel_rfl) (by omega) (by kernel_rfl) ?_
        refine R.go 3 (R.ar ((1 + (i1 : Int)) + 1) (by kernel_rfl) (by omega) (by omega) (by kernel_rfl) ?_)
        refine R.go 5 (R.ar ((i1 : Int) + 1) (by kernel_rfl) (by omega) (by omega) (by kernel_rfl) ?_)
        exact R.go 2 (R.stop R14 (by kernel_rfl) (N15 (i1 + 1, (markI xs 1 i1).set i1 (1 + (i1 : Int)), (1 + (i1 : Int)) + 1) [0, 1, 5] none _ (by kernel_rfl) (by kernel_rfl) ⟨(by omega), (by exact markI_set _ _ _ (by omega) _ (by omega)), (by omega)⟩ (by show (xs.length - (i1 + 1)) < (xs.length - i1); omega)))
      · refine R.go 6 (R.back (AI (1 + (i1 : Int))) (frm 10 [(0, .agg [AI n, .ref 4]), (1, AI 1), (2, .ptr 9 0), (4, AI 0), (5, .ptr 9 1), (6, .ref 4), (7, AI 1)]) (by kernel_rfl) (by kernel_rfl) (by kernel_rfl) ?_)
        refine R.go 7 (R.back (AI (1 + (i1 : Int))) (frm 96 [(0, .agg [AI n, .nam uo none 1 xs.length co]), (1, .ptr 1 0), (2, .bool false), (3, AI ((1048576 : Int) - xs.length)), (4, .nam uo2 none 1 (cpR n xs).length co3), (5, AI (cpC n xs)), (6, .ptr 5 0), (7, .ref 6), (8, AI (cpC n xs)), (9, AI 1), (14, .agg [AI n, .nam uo none 1 xs.length co]), (15, AI 1048576), (16, AI ((1048576 : Int) - xs.length)), (17, AI ((1048576 : Int) - xs.length)), (18, .bool (decide (((1048576 : Int) - xs.length) < 0))), (19, .tup [LLI (cpR n xs), AI (cpC n xs)]), (20, .agg [AI n, .nam uo none 1 xs.length co]), (21, .agg [AI n, LI xs]), (22, .tup [LLI (cpR n xs), AI (cpC n xs)]), (23, LLI (cpR n xs)), (24, AI (cpC n xs)), (25, .agg [AI n, .nam uo none 1 xs.length co]), (26, .agg [AI n, .ref 4]), (27, .tup [.ref 6, AI (cpC n xs)]), (28, .agg [AI n, .ref 4]), (29, .tup [.ref 6, AI (cpC n xs)]), (30, .ref 6), (31, AI (cpC n xs)), (32, .ref 6), (33, .nam uo2 none 1 (cpR n xs).length co3), (34, .bool (decide ((LE1.map Prod.snd) = (cpR n xs)))), (35, .bool (!decide ((LE1.map Prod.snd) = (cpR n xs)))), (36, .bool (!decide ((LE1.map Prod.snd) = (cpR n xs)))), (37, AI (cpC n xs)), (38, AI (cpC n xs)), (39, .bool (!decide ((cpC n xs) = (cpC n xs)))), (40, .bool (!decide ((cpC n xs) = (cpC n xs)))), (41, .agg [AI n, .ref 4]), (42, .agg [AI n, .nam uo none 1 xs.length co]), (43, .agg [AI n, .ref 7]), (44, .bool true), (45, .bool false), (46, .agg [AI n, .ref 4]), (47, AI 1)]) (by kernel_rfl) (by kernel_rfl) (by kernel_rfl) ?_)
        refine R.go 8 ?_
        by_cases c19 : (1 + (i1 : Int)) < 0
        · refine R.skp (decide ((1 + (i1 : Int)) < 0)) false (by kernel_rfl) (dT c19) (by kernel_rfl) ?_
          refine R.skp (decide ((1 + (i1 : Int)) < 0)) false (by kernel_rfl) (dT c19) (by kernel_rfl) ?_
          refine R.skp (decide ((1 + (i1 : Int)) < 0)) false (by kernel_rfl) (dT c19) (by kernel_rfl) ?_
          refine R.skp (decide ((1 + (i1 : Int)) < 0)) false (by kernel_rfl) (dT c19) (by kernel_rfl) ?_
          refine R.pick (decide ((1 + (i1 : Int)) < 0)) true (by kernel_rfl) (dT c19) (by kernel_rfl) ?_
          exact R.go 11 (R.retB (.bool false) (by kernel_rfl) (by kernel_rfl) (by first | rfl | (rfl) | (exfalso; omega)))
        · refine R.want (decide ((1 + (i1 : Int)) < 0)) false (by kernel_rfl) (dF c19) ?_
          refine R.go 1 (R.want (decide ((1 + (i1 : Int)) < 0)) false (by kernel_rfl) (dF c19) ?_)
          refine R.go 1 (R.want (decide ((1 + (i1 : Int)) < 0)) false (by kernel_rfl) (dF c19) ?_)
          refine R.callW (avs0 := [.ref 6, .nam uo2 none 1 (cpR n xs).length co3]) (eqInt64SS_c (LE1.map Prod.snd) (cpR n xs) (by first | omega | (simp <;> omega)) (by assumption)) (by kernel_rfl) (.cons (.wk (.ref (e := 22) (s := 1) (n := LE1.length) (cs := rows (eV eI 2 1) LE1) (by kernel_rfl)) (fgtV (fun _ => rfl) _)) (.cons (.wk (.leaf ho4.leafy) ho4.fgt) (.nil))) rfl (by kernel_rfl) ?_
          refine R.want (decide ((1 + (i1 : Int)) < 0)) false (by kernel_rfl) (dF c19) ?_
          refine R.go 1 (R.pick (decide ((1 + (i1 : Int)) < 0)) false (by kernel_rfl) (dF c19) (by kernel_rfl) ?_)
          refine R.go 1 (R.want (!decide ((LE1.map Prod.snd) = (cpR n xs))) false (by kernel_rfl) (nF hq1) ?_)
          refine R.go 1 (R.want (!decide ((LE1.map Prod.snd) = (cpR n xs))) false (by kernel_rfl) (nF hq1) ?_)
          refine R.go 1 (R.want (!decide ((LE1.map Prod.snd) = (cpR n xs))) false (by kernel_rfl) (nF hq1) ?_)
          refine R.go 1 (R.pick (!decide ((LE1.map Prod.snd) = (cpR n xs))) false (by kernel_rfl) (nF hq1) (by kernel_rfl) ?_)
          refine R.go 1 (R.els (!decide ((cpC n xs) = (cpC n xs))) (by kernel_rfl) (nF rfl) ?_)
          refine R.go 9 (R.keepS [1, 4, 5, 7, 10, 62, 63] (by kernel_rfl) ?_)
          refine R.enter (avs := [.ref 6, AI 1]) Try.func18 rfl (by kernel_rfl) (by kernel_rfl) (by kernel_rfl) ?_
          intro us20
          refine R.go 10 (R.loop ((fun | (iv, LM, qv2) => (⟨(frm 19 [(0, .ref 6), (1, AI qv2), (5, AI (iv : Int))]), [.inert (.base b), .box 24 [AI n, .nam uo none 1 xs.length co], .dead, .dead, rowA eI 2 1 (markI xs 1 i1), .box 31 [AI n, .ref 4], rowA (eV eI 2 1) 22 1 LM, rowA eI 2 1 xs, .dead, .box 31 [AI n, .ref 4], .dead, .frame us20 (frm 96 [(1, .ptr 1 0), (4, .nam uo2 none 1 (cpR n xs).length co3), (5, AI (cpC n xs)), (7, .ref 6), (10, AI 1), (62, .ref 6), (63, AI 1)])]⟩ : St) : Nat × (List (Value × List Int)) × Int → St)) (fun | (iv, LM, qv2) => (iv ≤ (cpR n xs).length) ∧ (NL bE1 LM) ∧ (MkG markC 1 1 (cpR n xs) LM iv) ∧ (qv2 = 1 + 1 * (lenG (cpR n xs) iv : Int))) (fun | (iv, LM, qv2) => (cpR n xs).length - iv) (0, LE1, 1) [0, 1, 5] none (by kernel_rfl) (by kernel_rfl) (by kernel_rfl) ⟨(by omega), (by assumption), (by exact MkG.zero (by assumption)), (by simp [lenG])⟩ ?_)
          rintro ⟨iv, LM, qv2⟩ ⟨h24_1, h24_2, h24_3, h24_4⟩ R21 N22
          have hml2 : LM.length = (cpR n xs).length := (‹MkG markC 1 1 (cpR n xs) LM iv›).1
          refine R.go 8 (R.cond ((iv : Int) < (LM.length : Int)) (by kernel_rfl) (fun c25 => ?_) (fun c25 => ?_))
          · have hnow2 := (‹MkG markC 1 1 (cpR n xs) LM iv›).now (by omega)
            have hxl2 : (LM.getD iv (.bool false, [])).2.length = ((cpR n xs).getD iv []).length := by rw [hnow2]
            have hst2 := lenG_step (cpR n xs) iv (by omega)
            refine R.go 6 (R.idxO 6 1 LM.length iv (iv : Int) (by kernel_rfl) rfl (by omega) (by kernel_rfl) ?_)
            refine R.ldE (eV eI 2 1) 1 0 LM (.bool false, []) iv (.nam ((LM.getD iv (.bool false, [])).1) (some 2) 1 ((LM.getD iv (.bool false, [])).2).length (rows eI ((LM.getD iv (.bool false, [])).2))) (by kernel_rfl) eV_len (by omega) rfl (by kernel_rfl) ?_
            refine R.go 1 (R.keepS [0, 1, 5, 15, 16] (by kernel_rfl) ?_)
            have hg26 := h24_2.at (.bool false, []) (i := iv) (by omega)
            refine R.thawV eI 2 1 22 LM iv (.bool false, []) 6 15 0 b (frm 19 [(0, .ref 6), (1, AI qv2), (5, AI (iv : Int)), (16, AI qv2)]) [.inert (.base b), .box 24 [AI n, .nam uo none 1 xs.length co], .dead, .dead, rowA eI 2 1 (markI xs 1 i1), .box 31 [AI n, .ref 4], .dead, rowA eI 2 1 xs, .dead, .box 31 [AI n, .ref 4], .dead, .frame us20 (frm 96 [(1, .ptr 1 0), (4, .nam uo2 none 1 (cpR n xs).length co3), (5, AI (cpC n xs)), (7, .ref 6), (10, AI 1), (62, .ref 6), (63, AI 1)])] (by kernel_rfl) (by kernel_rfl) (by omega) (h24_2.mono hbb9) eI_closed (by kernel_rfl) (by kernel_rfl) (by kernel_rfl) (by kernel_rfl) (safe_frm (List.forall_mem_cons.2 ⟨safe_ref, (List.forall_mem_cons.2 ⟨safe_int, (List.forall_mem_cons.2 ⟨safe_int, (List.forall_mem_cons.2 ⟨safe_int, (fun x h => absurd h (List.not_mem_nil))⟩)⟩)⟩)⟩)) (List.forall_mem_cons.2 ⟨trivial, (List.forall_mem_cons.2 ⟨(safeL_cons.2 ⟨safe_int, (safeL_cons.2 ⟨(hsf10 _ hg26), safeL_nil⟩)⟩), (List.forall_mem_cons.2 ⟨trivial, (List.forall_mem_cons.2 ⟨trivial, (List.forall_mem_cons.2 ⟨(safe_rows eI_closed _), (List.forall_mem_cons.2 ⟨(safeL_cons.2 ⟨safe_int, (safeL_cons.2 ⟨safe_ref, safeL_nil⟩)⟩), (List.forall_mem_cons.2 ⟨trivial, (List.forall_mem_cons.2 ⟨(safe_rows eI_closed _), (List.forall_mem_cons.2 ⟨trivial, (List.forall_mem_cons.2 ⟨(safeL_cons.2 ⟨safe_int, (safeL_cons.2 ⟨safe_ref, safeL_nil⟩)⟩), (List.forall_mem_cons.2 ⟨trivial, (List.forall_mem_cons.2 ⟨(safe_frm (List.forall_mem_cons.2 ⟨safe_ptr, (List.forall_mem_cons.2 ⟨(hsf11 _ hg26), (List.forall_mem_cons.2 ⟨safe_int, (List.forall_mem_cons.2 ⟨safe_ref, (List.forall_mem_cons.2 ⟨safe_int, (List.forall_mem_cons.2 ⟨safe_ref, (List.forall_mem_cons.2 ⟨safe_int, (fun x h => absurd h (List.not_mem_nil))⟩)⟩)⟩)⟩)⟩)⟩)⟩)), (fun x h => absurd h (List.not_mem_nil))⟩)⟩)⟩)⟩)⟩)⟩)⟩)⟩)⟩)⟩)⟩)⟩) ?_
            refine R.enter (avs := [.ref 12, AI qv2]) Try.func24 rfl (by kernel_rfl) (by kernel_rfl) (by kernel_rfl) ?_
            intro us27
            refine R.go 10 (R.loop ((fun | (i2, ys2, q2) => (⟨(frm 19 [(0, .ref 12), (1, AI q2), (5, AI (i2 : Int))]), [.inert (.base b), .box 24 [AI n, .nam uo none 1 xs.length co], .dead, .dead, rowA eI 2 1 (markI xs 1 i1), .box 31 [AI n, .ref 4], weakRow eI 2 1 22 LM iv (.bool false, []), rowA eI 2 1 xs, .dead, .box 31 [AI n, .ref 4], .dead, .frame us20 (frm 96 [(1, .ptr 1 0), (4, .nam uo2 none 1 (cpR n xs).length co3), (5, AI (cpC n xs)), (7, .ref 6), (10, AI 1), (62, .ref 6), (63, AI 1)]), rowA eI 2 1 ys2, .frame [(LM.getD iv (.bool false, [])).1] [.ref 12], .frame us27 (frm 19 [(0, .ref 6), (1, AI qv2), (5, AI (iv : Int)), (15, .ref 12), (16, AI qv2)])]⟩ : St) : Nat × (List Int) × Int → St)) (fun | (i2, ys2, q2) => (i2 ≤ ((LM.getD iv (.bool false, [])).2).length) ∧ (ys2 = markI ((LM.getD iv (.bool false, [])).2) qv2 i2) ∧ (q2 = qv2 + (i2 : Int))) (fun | (i2, ys2, q2) => ((LM.getD iv (.bool false, [])).2).length - i2) (0, ((LM.getD iv (.bool false, [])).2), qv2) [0, 1, 5] none (by kernel_rfl) (by kernel_rfl) (by kernel_rfl) ⟨(by omega), (by exact markI_zero _ _), (by simp)⟩ ?_)
            rintro ⟨i2, ys2, q2⟩ ⟨h31_1, rfl, rfl⟩ R28 N29
            have hl2 : (markI ((LM.getD iv (.bool false, [])).2) qv2 i2).length = ((LM.getD iv (.bool false, [])).2).length := markI_length _ _ _ (by assumption)
            refine R.go 8 (R.cond ((i2 : Int) < ((markI ((LM.getD iv (.bool false, [])).2) qv2 i2).length : Int)) (by kernel_rfl) (fun c32 => ?_) (fun c32 => ?_))
            · refine R.go 8 (R.idxO 12 1 (markI ((LM.getD iv (.bool false, [])).2) qv2 i2).length i2 (i2 : Int) (by kernel_rfl) rfl (by first | omega | (simp only [List.length_set]; omega) | (simp <;> omega)) (by kernel_rfl) ?_)
              refine R.stI 12 2 (markI ((LM.getD iv (.bool false, [])).2) qv2 i2) i2 (qv2 + (i2 : Int)) (by kernel_rfl) (by first | omega | (simp only [List.length_set]; omega) | (simp <;> omega)) (by kernel_rfl) ?_
              refine R.go 3 (R.ar ((qv2 + (i2 : Int)) + 1) (by kernel_rfl) (by omega) (by omega) (by kernel_rfl) ?_)
              refine R.go 5 (R.ar ((i2 : Int) + 1) (by kernel_rfl) (by omega) (by omega) (by kernel_rfl) ?_)
              exact R.go 2 (R.stop R28 (by kernel_rfl) (N29 (i2 + 1, (markI ((LM.getD iv (.bool false, [])).2) qv2 i2).set i2 (qv2 + (i2 : Int)), (qv2 + (i2 : Int)) + 1) [0, 1, 5] none _ (by kernel_rfl) (by kernel_rfl) ⟨(by omega), (by exact markI_set _ _ _ (by omega) _ (by omega)), (by omega)⟩ (by show (((LM.getD iv (.bool false, [])).2).length - (i2 + 1)) < (((LM.getD iv (.bool false, [])).2).length - i2); omega)))
            · refine R.go 6 (R.back (AI (qv2 + (i2 : Int))) (frm 19 [(0, .ref 6), (1, AI qv2), (5, AI (iv : Int)), (15, .ref 12), (16, AI qv2)]) (by kernel_rfl) (by kernel_rfl) (by kernel_rfl) ?_)
              refine R.repinV eI 2 1 22 LM iv (.bool false, []) 6 12 (markI ((LM.getD iv (.bool false, [])).2) qv2 i2) (by kernel_rfl) (by kernel_rfl) (by omega) (by kernel_rfl) (by kernel_rfl) rfl ?_
              refine R.go 5 (R.ar ((iv : Int) + 1) (by kernel_rfl) (by omega) (by omega) (by kernel_rfl) ?_)
              exact R.go 2 (R.stop R21 (by kernel_rfl) (N22 (iv + 1, LM.set iv ((LM.getD iv (.bool false, [])).1, markI ((LM.getD iv (.bool false, [])).2) qv2 i2), qv2 + (i2 : Int)) [0, 1, 5] (some [0, 1, 2, 3, 4, 5, 6, 7, 8, 9, 10, 11]) _ (by kernel_rfl) (by kernel_rfl) ⟨(by omega), (by exact NL.set (by assumption) _ _ _ (by omega)), (by exact MkG.set (by assumption) (by omega) ((mkI_row hnow2 (by omega)).trans (by rw [‹qv2 = 1 + 1 * (lenG (cpR n xs) iv : Int)›]))), (by rw [lenG]; omega)⟩ (by show ((cpR n xs).length - (iv + 1)) < ((cpR n xs).length - iv); omega)))
          · refine R.go 6 (R.back (AI qv2) (frm 96 [(1, .ptr 1 0), (4, .nam uo2 none 1 (cpR n xs).length co3), (5, AI (cpC n xs)), (7, .ref 6), (10, AI 1), (62, .ref 6), (63, AI 1)]) (by kernel_rfl) (by kernel_rfl) (by kernel_rfl) ?_)
            have hie : iv = (cpR n xs).length := by omega
            have hall := MkG.all markC_length (‹MkG markC 1 1 (cpR n xs) LM iv›) (by omega)
            have hx1 : HdG markC 1 1 (List.map Prod.snd LM) := hall.1
            have hx2 := hall.2.1
            have hx3 := hall.2.2
            have hq3 : lenG (cpR n xs) iv = lenG (cpR n xs) (cpR n xs).length := by rw [hie]
            refine R.go 10 (R.callW (avs0 := [.ref 6, AI 1]) (heldInt64SS_c (LM.map Prod.snd) 1 (by first | omega | (simp <;> omega)) (by first | omega | (simp <;> omega)) (by assumption)) (by kernel_rfl) (.cons (.wk (.ref (e := 22) (s := 1) (n := LM.length) (cs := rows (eV eI 2 1) LM) (by kernel_rfl)) (fgtV (fun _ => rfl) _)) (.cons (.leaf rfl) (.nil))) rfl (by kernel_rfl) ?_)
            refine R.go 8 (R.cond ((1 + 1 * (lenG (LM.map Prod.snd) (LM.map Prod.snd).length : Int)) < 0) (by kernel_rfl) (fun c33 => ?_) (fun c33 => ?_))
            · exact R.go 4 (R.retB (.bool false) (by kernel_rfl) (by kernel_rfl) (by first | rfl | (rfl) | (exfalso; omega)))
            · refine R.go 8 (R.condN ((1 + 1 * (lenG (LM.map Prod.snd) (LM.map Prod.snd).length : Int)) = qv2) (by kernel_rfl) (fun c34 => ?_) (fun c34 => ?_))
              · exact R.go 4 (R.retB (.bool false) (by kernel_rfl) (by kernel_rfl) (by first | rfl | (rfl) | (exfalso; omega)))
              · refine R.go 4 (R.callW (avs0 := [.agg [AI n, .nam uo none 1 xs.length co]]) (toPoset_c n xs hl) (by kernel_rfl) (.cons (.agg (.cons (.leaf rfl) (.cons (.wk (.leaf hco.leafy) hco.fgt) (.nil)))) (.nil)) (by simp [AV.closed, closedL, AI, ownA_closed eI_closed]) (by kernel_rfl) ?_)
                refine R.callE (avs0 := [.agg [AI n, .ref 12]]) (CorrectPartitions_c n xs hl) (by kernel_rfl) (.cons (.agg (.cons (.leaf rfl) (.cons (.ref (e := 2) (s := 1) (n := xs.length) (cs := rows eI xs) (by kernel_rfl)) (.nil)))) (.nil)) (CorrectPartitions_c_cl n xs) (by kernel_rfl) ?_
                intro bE2 hbn35 hsn36 rn37 hrn38
                obtain ⟨LE2, rfl, heE2_1, heE2_2⟩ := hrn38
                have hbb39 : b ≤ bE2 := hbn35 0 b (by kernel_rfl)
                clear hbn35 hsn36
                have hq2 : (LE2.map Prod.snd) = (cpR n xs) := heE2_2
                have hv2 := cpF heE2_2
                have hv2a := hv2.2.1
                have hv2b : ∀ j : Nat, j < (List.map Prod.snd LE2).length → ((List.map Prod.snd LE2).getD j []).length ≤ 1000000000 := hv2.2.2
                refine R.go 11 (R.callW (avs0 := [.ref 13, .nam uo2 none 1 (cpR n xs).length co3]) (eqInt64SS_c (LE2.map Prod.snd) (cpR n xs) (by first | omega | (simp <;> omega)) (by assumption)) (by kernel_rfl) (.cons (.wk (.ref (e := 22) (s := 1) (n := LE2.length) (cs := rows (eV eI 2 1) LE2) (by kernel_rfl)) (fgtV (fun _ => rfl) _)) (.cons (.wk (.leaf ho4.leafy) ho4.fgt) (.nil))) rfl (by kernel_rfl) ?_)
                refine R.go 2 (R.want (!decide ((LE2.map Prod.snd) = (cpR n xs))) false (by kernel_rfl) (nF hq2) ?_)
                refine R.go 1 (R.want (!decide ((LE2.map Prod.snd) = (cpR n xs))) false (by kernel_rfl) (nF hq2) ?_)
                refine R.go 1 (R.want (!decide ((LE2.map Prod.snd) = (cpR n xs))) false (by kernel_rfl) (nF hq2) ?_)
                refine R.go 1 (R.pick (!decide ((LE2.map Prod.snd) = (cpR n xs))) false (by kernel_rfl) (nF hq2) (by kernel_rfl) ?_)
                refine R.go 1 (R.els (!decide ((cpC n xs) = (cpC n xs))) (by kernel_rfl) (nF rfl) ?_)
                refine R.go 9 (R.callW (avs0 := [.ref 6, AI 1]) (heldInt64SS_c (LM.map Prod.snd) 1 (by first | omega | (simp <;> omega)) (by first | omega | (simp <;> omega)) (by assumption)) (by kernel_rfl) (.cons (.wk (.ref (e := 22) (s := 1) (n := LM.length) (cs := rows (eV eI 2 1) LM) (by kernel_rfl)) (fgtV (fun _ => rfl) _)) (.cons (.leaf rfl) (.nil))) rfl (by kernel_rfl) ?_)
                refine R.go 8 (R.els (decide ((1 + 1 * (lenG (LM.map Prod.snd) (LM.map Prod.snd).length : Int)) < 0)) (by kernel_rfl) (dF c33) ?_)
                refine R.go 8 (R.els (!decide ((1 + 1 * (lenG (LM.map Prod.snd) (LM.map Prod.snd).length : Int)) = qv2)) (by kernel_rfl) (nF c34) ?_)
                exact R.go 5 (R.retB (.bool true) (by kernel_rfl) (by kernel_rfl) (rfl))
theorem lawCorrectPartitions_in (n : Int) (xs : List Int) (hl : xs.length ≤ 1048576) : CallA Try.prog 4 [.agg [AI n, LI xs]] (.bool true) :=
  CallA.nameP (enters_of Try.func4 (by kernel_rfl) rfl) (nameable_LI xs) fun uo co hco => CallE.toA (lawCorrectPartitions_inE n xs uo co hco hl)

theorem lawCorrectPartitions_1 (n : Int) (xs : List Int) (hx : 1048576 < xs.length) (hb : xs.length ≤ 9223372036854775807) : CallA Try.prog 4 [.agg [AI n, LI xs]] (.bool true) := by
  refine CallA.of Try.func4 rfl (by kernel_rfl) ?_
  refine R.go 13 (R.call true (szPoset_no n xs 1048576 (by omega) (by first | omega | (simp <;> omega)) hb) (by kernel_rfl) rfl (by kernel_rfl) ?_)
  exact R.go 13 (R.retE (.bool true) (by kernel_rfl) (by kernel_rfl) (by rfl))

theorem lawCorrectPartitions (n : Int) (xs : List Int) (m0 : xs.length ≤ maxLen) : CallA Try.prog 4 [.agg [AI n, LI xs]] (.bool true) := by
  have hm : maxLen ≤ 9223372036854775807 := by decide
  rcases Nat.lt_or_ge 1048576 (xs.length) with h0 | h0
  · exact lawCorrectPartitions_1 n xs h0 (by omega)
  exact lawCorrectPartitions_in n xs h0

end Go.Proofs.Ytalfakdiinhdnaa
