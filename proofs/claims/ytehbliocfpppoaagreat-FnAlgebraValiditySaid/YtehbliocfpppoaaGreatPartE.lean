/- Texts of the proof: P01, P02, M01, M02, R05. -/
import Derived.Test.YtehbliocfpppoaaGreatPartD

/-! Formulas as trees: where parts end; values by a stack (any words). -/
namespace Go.Proofs.YtehbliocfpppoaaGreat
open Go.RowKit Go.Abs
def pe : Nat → List (Int × Int) → Option Nat
 | 0, _ => some 0
 | _ + 1, [] => none
 | o + 1, x :: l => (pe (o + partsN x.1) l).map (· + 1)
theorem pe_zero (l : List (Int × Int)) : pe 0 l = some 0 := by cases l <;> rfl
theorem pe_succ (o : Nat) (x : Int × Int) (l : List (Int × Int)) : pe (o + 1) (x :: l) = (pe (o + partsN x.1) l).map (· + 1) := rfl
theorem pe_cons {o n : Nat} {x : Int × Int} {l : List (Int × Int)} (h : pe (o + 1) (x :: l) = some n) : ∃ k, n = k + 1 ∧ pe (o + partsN x.1) l = some k := by
 rw [pe_succ, Option.map_eq_some_iff] at h
 obtain ⟨k, h1, rfl⟩ := h
 exact ⟨k, rfl, h1⟩
theorem pe_le : ∀ {l : List (Int × Int)} {o n : Nat}, pe o l = some n → n ≤ l.length
 | l, 0, n, h => by rw [pe_zero] at h; cases h; exact Nat.zero_le _
 | [], o + 1, n, h => by cases h
 | x :: l, o + 1, n, h => by
  obtain ⟨k, rfl, h1⟩ := pe_cons h
  exact Nat.succ_le_succ (pe_le h1)
theorem pe_take : ∀ {l : List (Int × Int)} {o n : Nat}, pe o l = some n → pe o (l.take n) = some n
 | l, 0, n, h => by rw [pe_zero] at h ⊢; exact h
 | [], o + 1, n, h => by cases h
 | x :: l, o + 1, n, h => by
  obtain ⟨k, rfl, h1⟩ := pe_cons h
  rw [List.take_succ_cons, pe_succ, pe_take h1]
  rfl
theorem pe_add : ∀ {l : List (Int × Int)} {o p n : Nat}, pe (o + p) l = some n → ∃ k, pe o l = some k ∧ k ≤ n ∧ pe p (l.drop k) = some (n - k)
 | l, 0, p, n, h => ⟨0, pe_zero l, Nat.zero_le _, by simpa using h⟩
 | [], o + 1, p, n, h => by rw [show o + 1 + p = (o + p) + 1 by omega] at h; cases h
 | x :: l, o + 1, p, n, h => by
  rw [show o + 1 + p = (o + p) + 1 by omega] at h
  obtain ⟨k, rfl, h0⟩ := pe_cons h
  rw [show o + p + partsN x.1 = o + partsN x.1 + p by omega] at h0
  obtain ⟨j, h1, h2, h3⟩ := pe_add h0
  exact ⟨j + 1, by rw [pe_succ, h1]; rfl, by omega, by rw [List.drop_succ_cons, h3]; congr 1; omega⟩
theorem pe_suffix : ∀ {l : List (Int × Int)} {o : Nat}, pe o l = some l.length → ∀ j, ∃ o', pe o' (l.drop j) = some (l.drop j).length
 | l, o, h, 0 => ⟨o, h⟩
 | [], o, h, j + 1 => ⟨0, rfl⟩
 | x :: l, 0, h, j + 1 => by rw [pe_zero] at h; cases h
 | x :: l, o + 1, h, j + 1 => by
  obtain ⟨k, hk, h⟩ := pe_cons h
  rw [List.drop_succ_cons]
  exact pe_suffix (by rw [h]; congr 1; simpa using hk.symm) j
def peX (o : Nat) (a : List (Int × Int)) (j : Nat) : Int := match pe o (a.drop j) with | some n => (j : Int) + n | none => -1
theorem peX_zero (a : List (Int × Int)) (j : Nat) : peX 0 a j = j := by simp [peX, pe_zero]
theorem peX_end (o : Nat) (a : List (Int × Int)) (j : Nat) (h : a.length ≤ j) : peX (o + 1) a j = -1 := by simp [peX, List.drop_eq_nil_of_le h, pe]
theorem drop_cons (a : List (Int × Int)) (j : Nat) (h : j < a.length) : a.drop j = a.getD j (0, 0) :: a.drop (j + 1) := by
 rw [List.drop_eq_getElem_cons h, List.getD_eq_getElem?_getD, List.getElem?_eq_getElem h]; rfl
theorem peX_step (o : Nat) (a : List (Int × Int)) (j : Nat) (h : j < a.length) : peX (o + 1) a j = peX (o + partsN (a.getD j (0, 0)).1) a (j + 1) := by
 unfold peX
 rw [drop_cons a j h, pe_succ]
 cases pe (o + partsN (a.getD j (0, 0)).1) (a.drop (j + 1)) with
 | none => rfl
 | some n => simp only [Option.map_some]; omega
theorem peX_stepI (o : Int) (a : List (Int × Int)) (j : Nat) (c : Int) (ho : 0 < o) (h : j < a.length) (hc : c = o - 1 + partsN (a.getD j (0, 0)).1) : peX o.toNat a j = peX c.toNat a (j + 1) := by
 rw [show o.toNat = (o.toNat - 1) + 1 by omega, peX_step _ a j h]
 congr 1
 omega
theorem peX_endI (o : Int) (a : List (Int × Int)) (j : Nat) (ho : 0 < o) (h : a.length ≤ j) : peX o.toNat a j = -1 := by
 rw [show o.toNat = (o.toNat - 1) + 1 by omega, peX_end _ a j h]
def OKM (nv : Nat) (a : List (Int × Int)) : Prop := pe 1 a = some a.length ∧ ∀ x ∈ a, 0 ≤ x.1 ∧ x.1 ≤ 6 ∧ (x.1 = 0 → 0 ≤ x.2 ∧ x.2 < nv)
def lef (a : List (Int × Int)) : List (Int × Int) := (a.take (peX 1 a 1).toNat).drop 1
def rig (a : List (Int × Int)) : List (Int × Int) := a.drop (peX 1 a 1).toNat
theorem okm_cons {nv : Nat} {a : List (Int × Int)} (h : OKM nv a) : ∃ x r, a = x :: r ∧ pe (partsN x.1) r = some r.length := by
 obtain ⟨h, _⟩ := h
 cases a with
 | nil => cases h
 | cons x r =>
  obtain ⟨k, hk, h⟩ := pe_cons (o := 0) h
  exact ⟨x, r, rfl, by rw [Nat.zero_add] at h; rw [h]; congr 1; simpa using hk.symm⟩
theorem okm_pos {nv : Nat} {a : List (Int × Int)} (h : OKM nv a) : 1 ≤ a.length := by
 obtain ⟨x, r, rfl, _⟩ := okm_cons h
 simp
theorem okm_get {nv : Nat} {a : List (Int × Int)} (h : OKM nv a) (j : Nat) (hj : j < a.length) : 0 ≤ (a.getD j (0, 0)).1 ∧ (a.getD j (0, 0)).1 ≤ 6 ∧ ((a.getD j (0, 0)).1 = 0 → 0 ≤ (a.getD j (0, 0)).2 ∧ (a.getD j (0, 0)).2 < nv) := by
 have : a.getD j (0, 0) ∈ a := by
  rw [List.getD_eq_getElem?_getD, List.getElem?_eq_getElem hj, Option.getD_some]
  exact List.getElem_mem hj
 exact h.2 _ this
theorem okm_two {nv : Nat} {a : List (Int × Int)} (h : OKM nv a) (hp : partsN (a.getD 0 (0, 0)).1 = 2) :
  ∃ x L R, a = x :: (L ++ R) ∧ OKM nv L ∧ OKM nv R ∧ peX 1 a 1 = 1 + L.length ∧ lef a = L ∧ rig a = R := by
 obtain ⟨x, r, rfl, hr⟩ := okm_cons h
 simp only [List.getD_cons_zero] at hp
 rw [hp] at hr
 obtain ⟨k, h1, h2, h3⟩ := pe_add (o := 1) (p := 1) hr
 have hk := pe_le h1
 have hX : peX 1 (x :: r) 1 = 1 + k := by simp [peX, h1]
 have hL : lef (x :: r) = r.take k := by
  unfold lef
  rw [hX, show (1 + (k : Int)).toNat = k + 1 by omega, List.take_succ_cons, List.drop_succ_cons, List.drop_zero]
 have hR : rig (x :: r) = r.drop k := by
  unfold rig
  rw [hX, show (1 + (k : Int)).toNat = k + 1 by omega, List.drop_succ_cons]
 have hl : (r.take k).length = k := by simp; omega
 refine ⟨x, r.take k, r.drop k, by rw [List.take_append_drop], ⟨?_, ?_⟩, ⟨?_, ?_⟩, by rw [hX, hl], hL, hR⟩
 ·rw [pe_take h1, hl]
 ·exact fun y hy => h.2 y (List.mem_cons_of_mem _ (List.mem_of_mem_take hy))
 ·rw [h3]; simp
 ·exact fun y hy => h.2 y (List.mem_cons_of_mem _ (List.mem_of_mem_drop hy))
theorem partsN_1 {k : Int} (h : k = 5 ∨ k = 6) : partsN k = 1 := by
 unfold partsN
 rw [if_neg (by omega), if_pos h]
theorem okm_one {nv : Nat} {a : List (Int × Int)} (h : OKM nv a) (hp : partsN (a.getD 0 (0, 0)).1 = 1) : ∃ x r, a = x :: r ∧ OKM nv r ∧ a.drop 1 = r := by
 obtain ⟨x, r, rfl, hr⟩ := okm_cons h
 simp only [List.getD_cons_zero] at hp
 rw [hp] at hr
 exact ⟨x, r, rfl, ⟨hr, fun y hy => h.2 y (List.mem_cons_of_mem _ hy)⟩, rfl⟩
theorem okm_lef {nv : Nat} {a : List (Int × Int)} (h : OKM nv a) (hp : partsN (a.getD 0 (0, 0)).1 = 2) : OKM nv (lef a) := by
 obtain ⟨x, L, R, _, hL, _, _, e, _⟩ := okm_two h hp
 rw [e]; exact hL
theorem okm_rig {nv : Nat} {a : List (Int × Int)} (h : OKM nv a) (hp : partsN (a.getD 0 (0, 0)).1 = 2) : OKM nv (rig a) := by
 obtain ⟨x, L, R, _, _, hR, _, _, e⟩ := okm_two h hp
 rw [e]; exact hR
theorem okm_tail {nv : Nat} {a : List (Int × Int)} (h : OKM nv a) (hp : partsN (a.getD 0 (0, 0)).1 = 1) : OKM nv (a.drop 1) := by
 obtain ⟨x, r, _, hr, e⟩ := okm_one h hp
 rw [e]; exact hr
theorem lenm_lef {nv : Nat} {a : List (Int × Int)} (h : OKM nv a) (hp : partsN (a.getD 0 (0, 0)).1 = 2) : (lef a).length < a.length ∧ (rig a).length < a.length ∧ 1 ≤ peX 1 a 1 ∧ peX 1 a 1 ≤ a.length := by
 obtain ⟨x, L, R, rfl, hL, _, e0, e1, e2⟩ := okm_two h hp
 rw [e1, e2, e0]
 simp
 omega
def stepG (b : Int → Int → Int → Int) (u : Int → Int → Int) (vs : List Int) (x : Int × Int) (st : List Int) : List Int :=
 if x.1 = 0 then vs.getD x.2.toNat 0 :: st
 else if x.1 = 2 ∨ x.1 = 3 ∨ x.1 = 4 then b x.1 (st.getD 0 0) (st.getD 1 0) :: st.drop 2
 else if x.1 = 5 ∨ x.1 = 6 then u x.1 (st.getD 0 0) :: st.drop 1
 else 0 :: st
section
variable (b : Int → Int → Int → Int) (u : Int → Int → Int) (vs : List Int)
theorem stepG_var {x : Int × Int} (h : x.1 = 0) (st : List Int) : stepG b u vs x st = vs.getD x.2.toNat 0 :: st := by rw [stepG, if_pos h]
theorem stepG_two {x : Int × Int} (h : x.1 = 2 ∨ x.1 = 3 ∨ x.1 = 4) (p q : Int) (st : List Int) : stepG b u vs x (p :: q :: st) = b x.1 p q :: st := by rw [stepG, if_neg (by omega), if_pos h]; rfl
theorem stepG_one {x : Int × Int} (h : x.1 = 5 ∨ x.1 = 6) (p : Int) (st : List Int) : stepG b u vs x (p :: st) = u x.1 p :: st := by rw [stepG, if_neg (by omega), if_neg (by omega), if_pos h]; rfl
theorem stepG_bot {x : Int × Int} (h : x.1 = 1) (st : List Int) : stepG b u vs x st = 0 :: st := by rw [stepG, if_neg (by omega), if_neg (by omega), if_neg (by omega)]
def stkG (a : List (Int × Int)) : List Int := a.foldr (stepG b u vs) []
def gv (a : List (Int × Int)) : Int := (stkG b u vs a).getD 0 0
theorem stkg_parts : ∀ {l : List (Int × Int)} {o : Nat}, (∀ x ∈ l, 0 ≤ x.1 ∧ x.1 ≤ 6) → pe o l = some l.length → ∃ ws : List Int, ws.length = o ∧ ∀ st, l.foldr (stepG b u vs) st = ws ++ st
 | [], 0, _, _ => ⟨[], rfl, fun _ => rfl⟩
 | [], o + 1, _, h => by cases h
 | x :: l, 0, _, h => by rw [pe_zero] at h; cases h
 | x :: l, o + 1, hx, h => by
  obtain ⟨k, hk, h⟩ := pe_cons h
  obtain ⟨ws, h1, h2⟩ := stkg_parts (fun y hy => hx y (List.mem_cons_of_mem _ hy)) (show pe (o + partsN x.1) l = some l.length by rw [h]; congr 1; simpa using hk.symm)
  have hx0 := hx x (List.mem_cons_self ..)
  have hc : x.1 = 0 ∨ x.1 = 1 ∨ (x.1 = 2 ∨ x.1 = 3 ∨ x.1 = 4) ∨ (x.1 = 5 ∨ x.1 = 6) := by omega
  rcases hc with hc | hc | hc | hc
  ·exact ⟨vs.getD x.2.toNat 0 :: ws, by simp [partsN, hc] at h1; simp [h1], fun st => by rw [List.foldr_cons, h2, stepG_var _ _ _ hc]; rfl⟩
  ·exact ⟨0 :: ws, by simp [partsN, hc] at h1; simp [h1], fun st => by rw [List.foldr_cons, h2, stepG_bot _ _ _ hc]; rfl⟩
  ·rw [(partsN_two _).2 hc] at h1
   match ws, h1 with
   | p :: q :: ws, h1 =>
    have h1' : ws.length = o := by simp at h1; omega
    exact ⟨b x.1 p q :: ws, by simp [h1'], fun st => by rw [List.foldr_cons, h2, List.cons_append, List.cons_append, stepG_two _ _ _ hc]; rfl⟩
  ·rw [partsN_1 hc] at h1
   match ws, h1 with
   | p :: ws, h1 =>
    have h1' : ws.length = o := by simp at h1; omega
    exact ⟨u x.1 p :: ws, by simp [h1'], fun st => by rw [List.foldr_cons, h2, List.cons_append, stepG_one _ _ _ hc]; rfl⟩
theorem okm_stk {nv : Nat} {a : List (Int × Int)} (h : OKM nv a) : ∀ st, a.foldr (stepG b u vs) st = gv b u vs a :: st := by
 obtain ⟨ws, h1, h2⟩ := stkg_parts b u vs (fun x hx => ⟨(h.2 x hx).1, (h.2 x hx).2.1⟩) h.1
 match ws, h1 with
 | [v], _ =>
  have : gv b u vs a = v := by simp [gv, stkG, h2]
  intro st
  rw [h2, this]
  rfl
theorem gv_two {nv : Nat} {a : List (Int × Int)} (h : OKM nv a) {k : Int} (hk : (a.getD 0 (0, 0)).1 = k) (hc : k = 2 ∨ k = 3 ∨ k = 4) : b k (gv b u vs (lef a)) (gv b u vs (rig a)) = gv b u vs a := by
 obtain ⟨x, L, R, rfl, hL, hR, _, e1, e2⟩ := okm_two h ((partsN_two _).2 (by rw [hk]; exact hc))
 rw [e1, e2]
 simp only [List.getD_cons_zero] at hk
 subst hk
 conv => rhs; unfold gv stkG
 rw [List.foldr_cons, List.foldr_append, okm_stk b u vs hR, okm_stk b u vs hL, stepG_two _ _ _ hc]
 rfl
theorem gv_one {nv : Nat} {a : List (Int × Int)} (h : OKM nv a) {k : Int} (hk : (a.getD 0 (0, 0)).1 = k) (hc : k = 5 ∨ k = 6) : u k (gv b u vs (a.drop 1)) = gv b u vs a := by
 obtain ⟨x, r, rfl, hr, e⟩ := okm_one h (partsN_1 (by rw [hk]; exact hc))
 rw [e]
 simp only [List.getD_cons_zero] at hk
 subst hk
 conv => rhs; unfold gv stkG
 rw [List.foldr_cons, okm_stk b u vs hr, stepG_one _ _ _ hc]
 rfl
theorem gv_var {nv : Nat} {a : List (Int × Int)} (h : OKM nv a) (hk : (a.getD 0 (0, 0)).1 = 0) : vs.getD (a.getD 0 (0, 0)).2.toNat 0 = gv b u vs a := by
 obtain ⟨x, r, rfl, hr⟩ := okm_cons h
 simp only [List.getD_cons_zero] at hk ⊢
 simp [gv, stkG, stepG, hk]
theorem gv_bot {nv : Nat} {a : List (Int × Int)} (h : OKM nv a) (hk : (a.getD 0 (0, 0)).1 = 1) : 0 = gv b u vs a := by
 obtain ⟨x, r, rfl, hr⟩ := okm_cons h
 simp only [List.getD_cons_zero] at hk ⊢
 simp [gv, stkG, stepG, hk]

theorem stkg_step (a : List (Int × Int)) (i : Int) (h0 : 0 ≤ i) (h1 : i < a.length) : stkG b u vs (a.drop (i - 1 + 1).toNat) = stepG b u vs (a.getD i.toNat (0, 0)) (stkG b u vs (a.drop (i + 1).toNat)) := by
 rw [show (i - 1 + 1).toNat = i.toNat by omega, show (i + 1).toNat = i.toNat + 1 by omega, drop_cons a i.toNat (by omega)]
 rfl
theorem stkg_len {nv : Nat} {a : List (Int × Int)} (h : OKM nv a) (i : Int) (h0 : 0 ≤ i) (h1 : i < a.length) : partsN (a.getD i.toNat (0, 0)).1 ≤ (stkG b u vs (a.drop (i + 1).toNat)).length := by
 obtain ⟨o, ho⟩ := pe_suffix h.1 i.toNat
 rw [drop_cons a i.toNat (by omega), show i.toNat + 1 = (i + 1).toNat by omega] at ho
 cases o with
 | zero => rw [pe_zero] at ho; cases ho
 | succ o =>
  obtain ⟨k, hk, ho⟩ := pe_cons ho
  obtain ⟨ws, h2, h3⟩ := stkg_parts b u vs (fun x hx => ⟨(h.2 x (List.mem_of_mem_drop hx)).1, (h.2 x (List.mem_of_mem_drop hx)).2.1⟩) (show pe (o + partsN (a.getD i.toNat (0, 0)).1) (a.drop (i + 1).toNat) = some (a.drop (i + 1).toNat).length by rw [ho]; congr 1; simpa using hk.symm)
  unfold stkG
  rw [h3, List.append_nil, h2]
  omega
variable {b u vs}
theorem stkg_push {a : List (Int × Int)} {S : List Int} {i : Int} (hS : S = (stkG b u vs (a.drop (i + 1).toNat)).reverse) (h0 : 0 ≤ i) (h1 : i < a.length) (hk : (a.getD i.toNat (0, 0)).1 = 0) : S ++ [vs.getD (a.getD i.toNat (0, 0)).2.toNat 0] = (stkG b u vs (a.drop (i - 1 + 1).toNat)).reverse := by
 rw [stkg_step b u vs a i h0 h1, hS, stepG_var _ _ _ hk, List.reverse_cons]
theorem stkg_bot {a : List (Int × Int)} {S : List Int} {i : Int} (hS : S = (stkG b u vs (a.drop (i + 1).toNat)).reverse) (h0 : 0 ≤ i) (h1 : i < a.length) (hk : (a.getD i.toNat (0, 0)).1 = 1) : S ++ [0] = (stkG b u vs (a.drop (i - 1 + 1).toNat)).reverse := by
 rw [stkg_step b u vs a i h0 h1, hS, stepG_bot _ _ _ hk, List.reverse_cons]
theorem rev_top (p : Int) (r : List Int) : ((p :: r).reverse).getD (((p :: r).reverse).length - 1) 0 = p := by simp [List.getD_eq_getElem?_getD]
theorem rev_pop (p : Int) (r : List Int) : ((p :: r).reverse).take (((p :: r).reverse).length - 1) = r.reverse := by simp
theorem stkg_two {nv : Nat} {a : List (Int × Int)} {S S1 : List Int} {i p q v k : Int} (hok : OKM nv a) (hS : S = (stkG b u vs (a.drop (i + 1).toNat)).reverse) (h0 : 0 ≤ i) (h1 : i < a.length)
  (hk : (a.getD i.toNat (0, 0)).1 = k) (hc : k = 2 ∨ k = 3 ∨ k = 4) (hp : S.getD (S.length - 1) 0 = p) (h2 : S.take (S.length - 1) = S1) (hq : S1.getD (S1.length - 1) 0 = q) (hv : v = b k p q) :
  S1.take (S1.length - 1) ++ [v] = (stkG b u vs (a.drop (i - 1 + 1).toNat)).reverse := by
 subst hk
 have hl := stkg_len b u vs hok i h0 h1
 rw [(partsN_two _).2 hc] at hl
 rw [stkg_step b u vs a i h0 h1]
 generalize stkG b u vs (a.drop (i + 1).toNat) = T at hS hl
 match T, hl with
 | p' :: q' :: r, _ =>
  subst hS
  rw [rev_top] at hp
  rw [rev_pop] at h2
  subst h2
  rw [rev_top] at hq
  subst hp
  subst hq
  rw [rev_pop, stepG_two _ _ _ hc, List.reverse_cons, hv]
theorem stkg_one {nv : Nat} {a : List (Int × Int)} {S : List Int} {i p v k : Int} (hok : OKM nv a) (hS : S = (stkG b u vs (a.drop (i + 1).toNat)).reverse) (h0 : 0 ≤ i) (h1 : i < a.length)
  (hk : (a.getD i.toNat (0, 0)).1 = k) (hc : k = 5 ∨ k = 6) (hp : S.getD (S.length - 1) 0 = p) (hv : v = u k p) :
  S.take (S.length - 1) ++ [v] = (stkG b u vs (a.drop (i - 1 + 1).toNat)).reverse := by
 subst hk
 have hl := stkg_len b u vs hok i h0 h1
 rw [partsN_1 hc] at hl
 rw [stkg_step b u vs a i h0 h1]
 generalize stkG b u vs (a.drop (i + 1).toNat) = T at hS hl
 match T, hl with
 | p' :: r, _ =>
  subst hS
  rw [rev_top] at hp
  subst hp
  rw [rev_pop, stepG_one _ _ _ hc, List.reverse_cons, hv]
theorem stkg_room {nv : Nat} {a : List (Int × Int)} {S : List Int} {i : Int} (hok : OKM nv a) (hS : S = (stkG b u vs (a.drop (i + 1).toNat)).reverse) (h0 : 0 ≤ i) (h1 : i < a.length) : partsN (a.getD i.toNat (0, 0)).1 ≤ S.length := by
 rw [hS, List.length_reverse]
 exact stkg_len b u vs hok i h0 h1
theorem stkg_fin {nv : Nat} {a : List (Int × Int)} {S : List Int} {i : Int} (hok : OKM nv a) (hS : S = (stkG b u vs (a.drop (i + 1).toNat)).reverse) (h0 : i = -1) : S = [gv b u vs a] := by
 subst h0
 have := okm_stk b u vs hok []
 rw [hS]
 simp [stkG, this]
end
theorem partEnd_c (a : List (Int × Int)) (i : Nat) (hi : i ≤ a.length) (hl : a.length ≤ 1000000000) : CallA Tryz.prog 111 [LN a, AI (i : Int)] (AI (peX 1 a i)) := by
 refine CallA.of Tryz.func111 rfl (by kernel_rfl) (R.go 10 (k16 ((fun | (o, j) => (⟨(frm 24 [(0, LN a), (1, AI (j : Int)), (5, AI o)]), []⟩ : St) : Int × Nat → St)) (fun | (o, j) => (0 ≤ o) ∧ (o ≤ j + 1) ∧ (j ≤ a.length) ∧ (peX 1 a i = peX o.toNat a j)) (fun | (o, j) => a.length - j) (1, i) [0, 1, 5] none ⟨(by omega), (by omega), (by omega), (by rfl)⟩ ?_))
 rintro ⟨o, j⟩ ⟨h4_1, h4_2, h4_3, h4_4⟩ R1 N2
 have hp := partsN_le (a.getD j (0, 0)).1
 refine R.go 6 (k4 (o > 0) (fun c5 => ?_) (fun c5 => ?_))
 ·refine R.go 11 (k4 ((j : Int) ≥ (a.length : Int)) (fun c6 => ?_) (fun c6 => ?_))
  ·exact R.go 4 (k18 (AI (-1)) (by first | (apply congrArg AI; rw [‹peX 1 a i = _›]; first | exact (peX_endI _ _ _ (by omega) (by omega)).symm | (rw [show o = 0 by omega]; exact (peX_zero _ _).symm)) | (exfalso; omega)))
  refine R.go 5 (k10 eN a (0, 0) j (j : Int) eN_len (R.go 2 (k15 true (partsOf_c ((a.getD j (0, 0)).1)) (k1 ((partsN ((a.getD j (0, 0)).1) : Int) - 1) (k1 (o + ((partsN ((a.getD j (0, 0)).1) : Int) - 1)) (R.go 5 (k1 ((j : Int) + 1) ?_)))))))
  exact R.go 2 (k17 R1 (N2 (o + ((partsN ((a.getD j (0, 0)).1) : Int) - 1), j + 1) [0, 1, 5] none _ (by kernel_rfl) (by kernel_rfl) ⟨(by omega), (by omega), (by omega), (by rw [‹peX 1 a i = _›]; exact peX_stepI _ _ _ _ (by omega) (by omega) (by omega))⟩ (by show (a.length - (j + 1)) < (a.length - j); omega)))
 exact R.go 6 (k18 (AI (j : Int)) (by first | (apply congrArg AI; rw [‹peX 1 a i = _›]; first | exact (peX_endI _ _ _ (by omega) (by omega)).symm | (rw [show o = 0 by omega]; exact (peX_zero _ _).symm)) | (exfalso; omega)))
theorem l02Part_c (a : List (Int × Int)) (i : Nat) (hi : i ≤ a.length) (hl : a.length ≤ 1000000000) : CallA Tryz.prog 194 [LN a, AI (i : Int)] (AI (peX 1 a i)) := by
 refine CallA.of Tryz.func194 rfl (by kernel_rfl) (R.go 10 (k16 ((fun | (o, j) => (⟨(frm 24 [(0, LN a), (1, AI (j : Int)), (5, AI o)]), []⟩ : St) : Int × Nat → St)) (fun | (o, j) => (0 ≤ o) ∧ (o ≤ j + 1) ∧ (j ≤ a.length) ∧ (peX 1 a i = peX o.toNat a j)) (fun | (o, j) => a.length - j) (1, i) [0, 1, 5] none ⟨(by omega), (by omega), (by omega), (by rfl)⟩ ?_))
 rintro ⟨o, j⟩ ⟨h4_1, h4_2, h4_3, h4_4⟩ R1 N2
 have hp := partsN_le (a.getD j (0, 0)).1
 refine R.go 6 (k4 (o > 0) (fun c5 => ?_) (fun c5 => ?_))
 ·refine R.go 10 (k4 ((j : Int) ≥ (a.length : Int)) (fun c6 => ?_) (fun c6 => ?_))
  ·exact R.go 4 (k18 (AI (-1)) (by first | (apply congrArg AI; rw [‹peX 1 a i = _›]; first | exact (peX_endI _ _ _ (by omega) (by omega)).symm | (rw [show o = 0 by omega]; exact (peX_zero _ _).symm)) | (exfalso; omega)))
  refine R.go 4 (k1 (o - 1) (R.go 2 (k10 eN a (0, 0) j (j : Int) eN_len (R.go 2 (k15 true (l02Parts_c ((a.getD j (0, 0)).1)) (k1 ((o - 1) + (partsN ((a.getD j (0, 0)).1) : Int)) (R.go 4 (k1 ((j : Int) + 1) ?_))))))))
  exact R.go 3 (k17 R1 (N2 ((o - 1) + (partsN ((a.getD j (0, 0)).1) : Int), j + 1) [0, 1, 5] none _ (by kernel_rfl) (by kernel_rfl) ⟨(by omega), (by omega), (by omega), (by rw [‹peX 1 a i = _›]; exact peX_stepI _ _ _ _ (by omega) (by omega) (by omega))⟩ (by show (a.length - (j + 1)) < (a.length - j); omega)))
 exact R.go 6 (k18 (AI (j : Int)) (by first | (apply congrArg AI; rw [‹peX 1 a i = _›]; first | exact (peX_endI _ _ _ (by omega) (by omega)).symm | (rw [show o = 0 by omega]; exact (peX_zero _ _).symm)) | (exfalso; omega)))
theorem l02Left_c (nv : Nat) (a : List (Int × Int)) (hok : OKM nv a) (h2 : partsN (a.getD 0 (0, 0)).1 = 2) (hl : a.length ≤ 1000000000) : CallA Tryz.prog 118 [LN a] (LN (lef a)) := by
 have h1 := okm_pos hok
 have hb := lenm_lef hok h2
 refine CallA.of Tryz.func118 rfl (by kernel_rfl) (R.go 8 (k15 true (l02Part_c a 1 (by first | omega | (simp <;> omega)) hl) (R.slLH eN a 1 ((peX 1 a 1).toNat) 1 (peX 1 a 1) (by kernel_rfl) rfl (by omega) eN_len (by omega) (by omega) (by kernel_rfl) ?_)))
 exact R.go 2 (k18 (LN ((a.take ((peX 1 a 1).toNat)).drop 1)) (by first | (rfl) | (exfalso; omega)))
theorem l02Right_c (nv : Nat) (a : List (Int × Int)) (hok : OKM nv a) (h2 : partsN (a.getD 0 (0, 0)).1 = 2) (hl : a.length ≤ 1000000000) : CallA Tryz.prog 119 [LN a] (LN (rig a)) := by
 have h1 := okm_pos hok
 have hb := lenm_lef hok h2
 refine CallA.of Tryz.func119 rfl (by kernel_rfl) (R.go 8 (k15 true (l02Part_c a 1 (by first | omega | (simp <;> omega)) hl) (R.slL eN a ((peX 1 a 1).toNat) (peX 1 a 1) (by kernel_rfl) (by omega) eN_len (by omega) (by kernel_rfl) ?_)))
 exact R.go 2 (k18 (LN (a.drop ((peX 1 a 1).toNat))) (by first | (rfl) | (exfalso; omega)))
end Go.Proofs.YtehbliocfpppoaaGreat

/-! Which lists are formulas; their variables. -/
namespace Go.Proofs.YtehbliocfpppoaaGreat
open Go.RowKit Go.Abs
def okN (x : Int × Int) : Bool := decide ((x.1 = 0 ∧ 0 ≤ x.2 ∧ x.2 ≤ 5) ∨ (1 ≤ x.1 ∧ x.1 ≤ 6 ∧ x.2 = 0))
def badN (x : Int × Int) : Bool := !okN x
def modN (x : Int × Int) : Bool := decide (x.1 = 5 ∨ x.1 = 6)
def treeB (a : List (Int × Int)) : Bool := decide (0 < a.length) && a.all okN && decide (peX 1 a 0 = a.length)
def isF (a : List (Int × Int)) : Bool := decide (a.length ≤ 40) && treeB a
theorem okN_no (x : Int × Int) : okN x = false ↔ ¬ ((x.1 = 0 ∧ 0 ≤ x.2 ∧ x.2 ≤ 5) ∨ (1 ≤ x.1 ∧ x.1 ≤ 6 ∧ x.2 = 0)) := by unfold okN; exact decide_eq_false_iff_not
theorem okN_yes (x : Int × Int) : okN x = true ↔ ((x.1 = 0 ∧ 0 ≤ x.2 ∧ x.2 ≤ 5) ∨ (1 ≤ x.1 ∧ x.1 ≤ 6 ∧ x.2 = 0)) := by unfold okN; exact decide_eq_true_iff
theorem bad_no (x : Int × Int) : badN x = false ↔ ((x.1 = 0 ∧ 0 ≤ x.2 ∧ x.2 ≤ 5) ∨ (1 ≤ x.1 ∧ x.1 ≤ 6 ∧ x.2 = 0)) := by unfold badN; rw [Bool.not_eq_false', okN_yes]
theorem bad_yes (x : Int × Int) : badN x = true ↔ ¬ ((x.1 = 0 ∧ 0 ≤ x.2 ∧ x.2 ≤ 5) ∨ (1 ≤ x.1 ∧ x.1 ≤ 6 ∧ x.2 = 0)) := by unfold badN; rw [Bool.not_eq_true', okN_no]
theorem all_any (a : List (Int × Int)) : a.all okN = !a.any badN := by
 induction a with
 | nil => rfl
 | cons x a ih => simp [List.all_cons, List.any_cons, ih, badN]
def fidx (p : Int × Int → Bool) : List (Int × Int) → Int → Int
 | [], _ => -1
 | x :: l, i => if p x = true then i else fidx p l (i + 1)
theorem fidx_hit {p : Int × Int → Bool} {a : List (Int × Int)} {i : Nat} (h : i < a.length) (hp : p (a.getD i (0, 0)) = true) : fidx p (a.drop i) i = i := by
 rw [drop_cons a i h, fidx, if_pos hp]
theorem fidx_miss {p : Int × Int → Bool} {a : List (Int × Int)} {i : Nat} (h : i < a.length) (hp : p (a.getD i (0, 0)) = false) : fidx p (a.drop i) i = fidx p (a.drop (i + 1)) ((i + 1 : Nat) : Int) := by
 rw [drop_cons a i h, fidx, if_neg (by rw [hp]; decide)]
 rfl
theorem fidx_end {p : Int × Int → Bool} {a : List (Int × Int)} {i : Nat} (h : a.length ≤ i) : fidx p (a.drop i) i = -1 := by
 rw [List.drop_eq_nil_of_le h, fidx]
theorem fidx_any {p : Int × Int → Bool} : ∀ {a : List (Int × Int)} {i : Int}, 0 ≤ i → (0 ≤ fidx p a i ↔ a.any p = true)
 | [], i, h => by simp [fidx]
 | x :: a, i, h => by
  have ih := fidx_any (p := p) (a := a) (i := i + 1) (by omega)
  rw [fidx, List.any_cons]
  by_cases hp : p x = true
  ·simp [hp, h]
  ·rw [if_neg hp, ih]; simp [hp]
theorem any_hit {p : Int × Int → Bool} {a : List (Int × Int)} {i : Nat} (h : i < a.length) (hp : p (a.getD i (0, 0)) = true) : (a.drop i).any p = true := by
 rw [drop_cons a i h, List.any_cons, hp, Bool.true_or]
theorem any_miss {p : Int × Int → Bool} {a : List (Int × Int)} {i : Nat} (h : i < a.length) (hp : p (a.getD i (0, 0)) = false) : (a.drop i).any p = (a.drop (i + 1)).any p := by
 rw [drop_cons a i h, List.any_cons, hp, Bool.false_or]
theorem any_end {p : Int × Int → Bool} {a : List (Int × Int)} {i : Nat} (h : a.length ≤ i) : (a.drop i).any p = false := by
 rw [List.drop_eq_nil_of_le h]; rfl
theorem tree_no {a : List (Int × Int)} (h : a.any badN = true) : treeB a = false := by simp [treeB, all_any, h]
theorem tree_yes {a : List (Int × Int)} (h : a.any badN = false) : treeB a = (decide (0 < a.length) && decide (peX 1 a 0 = a.length)) := by simp [treeB, all_any, h]
def vmTo (a : List (Int × Int)) : Nat → Int
 | 0 => 0
 | i + 1 => if (a.getD i (0, 0)).1 = 0 then bor (vmTo a i) (shl64 1 (a.getD i (0, 0)).2) else vmTo a i
theorem bor63 : ∀ m s : Fin 64, 0 ≤ bor (m.val : Int) (s.val : Int) ∧ bor (m.val : Int) (s.val : Int) ≤ 63 ∧ (m.val : Int) ≤ bor (m.val : Int) (s.val : Int) ∧ (s.val : Int) ≤ bor (m.val : Int) (s.val : Int) := by decide +kernel
theorem bor_63 {m s : Int} (h0 : 0 ≤ m) (h1 : m ≤ 63) (h2 : 0 ≤ s) (h3 : s ≤ 63) : 0 ≤ bor m s ∧ bor m s ≤ 63 ∧ m ≤ bor m s ∧ s ≤ bor m s := by
 obtain ⟨m, rfl⟩ := Int.eq_ofNat_of_zero_le h0
 obtain ⟨s, rfl⟩ := Int.eq_ofNat_of_zero_le h2
 exact bor63 ⟨m, by omega⟩ ⟨s, by omega⟩
theorem shl6 : ∀ v : Fin 6, 1 ≤ shl64 1 (v.val : Int) ∧ shl64 1 (v.val : Int) ≤ 63 ∧ (shl64 1 (v.val : Int) ≤ 1 → v.val = 0) := by decide +kernel
theorem shl_6 {v : Int} (h0 : 0 ≤ v) (h1 : v ≤ 5) : 1 ≤ shl64 1 v ∧ shl64 1 v ≤ 63 ∧ (shl64 1 v ≤ 1 → v = 0) := by
 obtain ⟨v, rfl⟩ := Int.eq_ofNat_of_zero_le h0
 obtain ⟨a, b, c⟩ := shl6 ⟨v, by omega⟩
 exact ⟨a, b, fun h => by have := c h; simp at this; omega⟩
theorem okN_get {a : List (Int × Int)} (h : a.any badN = false) {j : Nat} (hj : j < a.length) : okN (a.getD j (0, 0)) = true := by
 have h1 : a.getD j (0, 0) ∈ a := by
  rw [List.getD_eq_getElem?_getD, List.getElem?_eq_getElem hj, Option.getD_some]
  exact List.getElem_mem hj
 have h2 : a.all okN = true := by rw [all_any, h]; rfl
 exact List.all_eq_true.1 h2 _ h1
theorem vm_rng {a : List (Int × Int)} (h : a.any badN = false) : ∀ i, i ≤ a.length → 0 ≤ vmTo a i ∧ vmTo a i ≤ 63
 | 0, _ => ⟨Int.le_refl _, by simp [vmTo]⟩
 | i + 1, hi => by
  have ih := vm_rng h i (by omega)
  have hn := (okN_yes _).1 (okN_get h (j := i) (by omega))
  rw [vmTo]
  split
  ·have hs := shl_6 (v := (a.getD i (0, 0)).2) (by omega) (by omega)
   have hb := bor_63 ih.1 ih.2 (by omega) hs.2.1
   exact ⟨hb.1, hb.2.1⟩
  ·exact ih
def bitsL : Nat → Int → Int → List Int
 | 0, _, _ => []
 | f + 1, m, i => if 0 < m then (if m % 2 = 1 then i :: bitsL f (m / 2) (i + 1) else bitsL f (m / 2) (i + 1)) else []
theorem bits_one (f : Nat) (m i : Int) (h : 0 < m) (h1 : m % 2 = 1) : bitsL (f + 1) m i = i :: bitsL f (m / 2) (i + 1) := by rw [bitsL, if_pos h, if_pos h1]
theorem bits_no (f : Nat) (m i : Int) (h : 0 < m) (h1 : ¬ m % 2 = 1) : bitsL (f + 1) m i = bitsL f (m / 2) (i + 1) := by rw [bitsL, if_pos h, if_neg h1]
theorem bits_end (f : Nat) (m i : Int) (h : ¬ 0 < m) : bitsL f m i = [] := by cases f with | zero => rfl | succ f => rw [bitsL, if_neg h]
theorem half_lt {m : Int} {f : Nat} (h : m < 2 ^ (f + 1)) : m / 2 < 2 ^ f := by rw [Int.pow_succ] at h; omega
theorem isF_parts {a : List (Int × Int)} (h : isF a = true) : a.length ≤ 40 ∧ 0 < a.length ∧ a.any badN = false ∧ peX 1 a 0 = a.length := by
 simp only [isF, treeB, all_any, Bool.and_eq_true, decide_eq_true_eq, Bool.not_eq_true'] at h
 exact ⟨h.1, h.2.1.1, h.2.1.2, h.2.2⟩
theorem pe_of_peX {a : List (Int × Int)} (h : peX 1 a 0 = a.length) : pe 1 a = some a.length := by
 unfold peX at h
 rw [List.drop_zero] at h
 cases hp : pe 1 a with
 | none => rw [hp] at h; simp only at h; omega
 | some n => rw [hp] at h; simp only at h; congr 1; omega
theorem isF_okm {a : List (Int × Int)} (h : isF a = true) : OKM 6 a ∧ a.length ≤ 40 := by
 obtain ⟨h1, h2, h3, h4⟩ := isF_parts h
 refine ⟨⟨pe_of_peX h4, fun x hx => ?_⟩, h1⟩
 obtain ⟨j, hj, rfl⟩ := List.getElem_of_mem hx
 have hg : a[j] = a.getD j (0, 0) := by rw [List.getD_eq_getElem?_getD, List.getElem?_eq_getElem hj]; rfl
 have hn := (okN_yes _).1 (okN_get h3 hj)
 rw [hg]
 refine ⟨by omega, by omega, fun h0 => by omega⟩
theorem isVariable_c (v : Int) : CallA Tryz.prog 192 [AI v] (.bool (inR v 0 5)) := by
 refine CallA.of Tryz.func192 rfl (by kernel_rfl) (R.go 7 (k15 true (inRange_c v 0 5) ?_))
 exact R.go 2 (k18 (.bool (inR v 0 5)) (by rfl))
theorem isNode_c (k v : Int) : CallA Tryz.prog 110 [.agg [AI k, AI v]] (.bool (okN (k, v))) := by
 refine CallA.of Tryz.func110 rfl (by kernel_rfl) (R.go 12 (k4 (k = 0) (fun c1 => ?_) (fun c1 => ?_)))
 ·refine R.go 4 (k15 true (isVariable_c v) ?_)
  exact R.go 2 (k18 (.bool (inR v 0 5)) (by first | (apply congrArg AV.bool; rw [Bool.eq_iff_iff]; simp only [okN, badN, modN, inR, decide_eq_true_eq, Bool.and_eq_true, Bool.not_eq_true', decide_eq_false_iff_not, Bool.and_eq_false_iff, true_iff, false_iff, iff_true, iff_false, reduceCtorEq] at *; omega) | (exfalso; omega)))
 refine R.go 5 (k15 true (inRange_c k 1 6) (R.go 1 ((Bool.eq_false_or_eq_true (inR k 1 6)).elim (fun c2 => ?_) (fun c2 => ?_))))
 ·refine k7 true c2 ?_
  iterate 2 refine R.go 1 (k7 true c2 ?_)
  refine R.go 1 (k9 true c2 ?_)
  exact R.go 2 (k18 (.bool (decide (v = 0))) (by first | (apply congrArg AV.bool; rw [Bool.eq_iff_iff]; simp only [okN, badN, modN, inR, decide_eq_true_eq, Bool.and_eq_true, Bool.not_eq_true', decide_eq_false_iff_not, Bool.and_eq_false_iff, true_iff, false_iff, iff_true, iff_false, reduceCtorEq] at *; omega) | (exfalso; omega)))
 iterate 3 refine k8 true c2 ?_
 refine k9 false c2 ?_
 exact R.go 2 (k18 (.bool false) (by first | (apply congrArg AV.bool; rw [Bool.eq_iff_iff]; simp only [okN, badN, modN, inR, decide_eq_true_eq, Bool.and_eq_true, Bool.not_eq_true', decide_eq_false_iff_not, Bool.and_eq_false_iff, true_iff, false_iff, iff_true, iff_false, reduceCtorEq] at *; omega) | (exfalso; omega)))
theorem isFormula1_c (k v : Int) : CallA Tryz.prog 109 [.agg [AI k, AI v]] (.bool (badN (k, v))) := by
 refine CallA.of Tryz.func109 rfl (by kernel_rfl) (R.go 8 (k15 true (isNode_c k v) ?_))
 exact R.go 3 (k18 (.bool (!(okN (k, v)))) (by first | (rfl) | (exfalso; omega)))
theorem index_badN_c (a : List (Int × Int)) (hl : a.length ≤ 1000000000) : CallA Tryz.prog 191 [LN a, .fn 109 []] (AI (fidx badN a 0)) := by
 refine CallA.of Tryz.func191 rfl (by kernel_rfl) (R.go 12 (k16 (fun (i : Nat) => (⟨(frm 19 [(0, LN a), (1, .fn 109 []), (7, AI a.length), (8, AI (i : Int))]), []⟩ : St)) (fun (i : Nat) => (i ≤ a.length) ∧ (fidx badN a 0 = fidx badN (a.drop i) i)) (fun (i : Nat) => a.length - i) 0 [0, 1, 7, 8] none ⟨(by omega), (by rfl)⟩ ?_))
 rintro i ⟨h3_1, h3_2⟩ R1 N2
 refine R.go 5 (k4 ((i : Int) < (a.length : Int)) (fun c4 => ?_) (fun c4 => ?_))
 ·refine R.go 13 (k10 eN a (0, 0) i (i : Int) eN_len (R.go 1 (k15 true (isFormula1_c ((a.getD i (0, 0)).1) ((a.getD i (0, 0)).2)) (R.go 1 (k3 (badN (((a.getD i (0, 0)).1), ((a.getD i (0, 0)).2))) (fun c5 => ?_) (fun c5 => ?_))))))
  ·exact R.go 5 (k18 (AI (i : Int)) (by first | (apply congrArg AI; rw [‹fidx badN a 0 = _›]; first | exact (fidx_end (by omega)).symm | exact (fidx_hit (by omega) (by assumption)).symm) | (exfalso; omega)))
  refine R.go 3 (k1 ((i : Int) + 1) ?_)
  exact R.go 2 (k17 R1 (N2 (i + 1) [0, 1, 7, 8] none _ (by kernel_rfl) (by kernel_rfl) ⟨(by omega), (by rw [‹fidx badN a 0 = _›]; exact fidx_miss (by omega) (by assumption))⟩ (by show (a.length - (i + 1)) < (a.length - i); omega)))
 exact R.go 5 (k18 (AI (-1)) (by first | (apply congrArg AI; rw [‹fidx badN a 0 = _›]; first | exact (fidx_end (by omega)).symm | exact (fidx_hit (by omega) (by assumption)).symm) | (exfalso; omega)))
theorem contains_badN_c (a : List (Int × Int)) (hl : a.length ≤ 1000000000) : CallA Tryz.prog 108 [LN a, .fn 109 []] (.bool (a.any badN)) := by
 refine CallA.of Tryz.func108 rfl (by kernel_rfl) (R.go 8 (k15 true (index_badN_c a hl) ?_))
 exact R.go 3 (k18 (.bool (decide ((fidx badN a 0) ≥ 0))) (by first | (apply congrArg AV.bool; rw [Bool.eq_iff_iff, decide_eq_true_iff]; exact fidx_any (Int.le_refl 0)) | (exfalso; omega)))
theorem isFormula_c (a : List (Int × Int)) (hl : a.length ≤ 1000000000) : CallA Tryz.prog 51 [LN a] (.bool (isF a)) := by
 refine CallA.of Tryz.func51 rfl (by kernel_rfl) (R.go 10 ?_)
 by_cases c1 : (a.length : Int) ≥ 1
 ·refine k7 true (dT c1) ?_
  iterate 2 refine R.go 1 (k7 true (dT c1) ?_)
  refine R.go 1 (k9 true (dT c1) (R.go 1 ?_))
  by_cases c2 : (a.length : Int) ≤ 40
  ·refine k7 true (dT c2) (R.go 1 (k7 true (dT c2) (k15 true (contains_badN_c a hl) (k7 true (dT c2) (R.go 1 (k9 true (dT c2) (R.go 1 ((Bool.eq_false_or_eq_true (a.any badN)).elim (fun c3 => ?_) (fun c3 => ?_)))))))))
   ·refine k8 true (bnF c3) ?_
    iterate 4 refine k8 true (bnF c3) ?_
    refine k9 false (bnF c3) ?_
    exact R.go 2 (k18 (.bool false) (by first | (apply congrArg AV.bool; simp only [isF, treeB, all_any]; first | (rw [decide_eq_true (show a.length ≤ 40 by omega), decide_eq_true (show 0 < a.length by omega)]; simp [*]; done) | (rw [decide_eq_false (show ¬ a.length ≤ 40 by omega)]; rfl) | (rw [decide_eq_false (show ¬ 0 < a.length by omega)]; simp)) | (exfalso; omega)))
   refine k7 true (bnT c3) (R.go 1 (k7 true (bnT c3) (k15 true (partEnd_c a 0 (by first | omega | (simp <;> omega)) hl) (k7 true (bnT c3) ?_))))
   iterate 2 refine R.go 1 (k7 true (bnT c3) ?_)
   refine R.go 1 (k9 true (bnT c3) ?_)
   exact R.go 2 (k18 (.bool (decide ((peX 1 a 0) = (a.length : Int)))) (by first | (apply congrArg AV.bool; simp only [isF, treeB, all_any]; first | (rw [decide_eq_true (show a.length ≤ 40 by omega), decide_eq_true (show 0 < a.length by omega)]; simp [*]; done) | (rw [decide_eq_false (show ¬ a.length ≤ 40 by omega)]; rfl) | (rw [decide_eq_false (show ¬ 0 < a.length by omega)]; simp)) | (exfalso; omega)))
  iterate 3 refine k8 true (dF c2) ?_
  refine k9 false (dF c2) ?_
  exact R.go 9 (k18 (.bool false) (by first | (apply congrArg AV.bool; simp only [isF, treeB, all_any]; first | (rw [decide_eq_true (show a.length ≤ 40 by omega), decide_eq_true (show 0 < a.length by omega)]; simp [*]; done) | (rw [decide_eq_false (show ¬ a.length ≤ 40 by omega)]; rfl) | (rw [decide_eq_false (show ¬ 0 < a.length by omega)]; simp)) | (exfalso; omega)))
 iterate 3 refine k8 true (dF c1) ?_
 refine k9 false (dF c1) ?_
 exact R.go 14 (k18 (.bool false) (by first | (apply congrArg AV.bool; simp only [isF, treeB, all_any]; first | (rw [decide_eq_true (show a.length ≤ 40 by omega), decide_eq_true (show 0 < a.length by omega)]; simp [*]; done) | (rw [decide_eq_false (show ¬ a.length ≤ 40 by omega)]; rfl) | (rw [decide_eq_false (show ¬ 0 < a.length by omega)]; simp)) | (exfalso; omega)))
theorem l02Tree_c (a : List (Int × Int)) (hl : a.length ≤ 1000000000) : CallA Tryz.prog 117 [LN a] (.bool (treeB a)) := by
 refine CallA.of Tryz.func117 rfl (by kernel_rfl) (R.go 10 (k16 (fun (i : Nat) => (⟨(frm 52 [(0, LN a), (3, AI (i : Int))]), []⟩ : St)) (fun (i : Nat) => (i ≤ a.length) ∧ (a.any badN = (a.drop i).any badN)) (fun (i : Nat) => a.length - i) 0 [0, 3] none ⟨(by omega), (by rfl)⟩ ?_))
 rintro i ⟨h3_1, h3_2⟩ R1 N2
 refine R.go 8 (k4 ((i : Int) < (a.length : Int)) (fun c4 => ?_) (fun c4 => ?_))
 ·refine R.go 7 (k10 eN a (0, 0) i (i : Int) eN_len (R.go 2 (k15 true (l01In_c ((a.getD i (0, 0)).1) 0 6) (R.go 2 ((Bool.eq_false_or_eq_true (inR ((a.getD i (0, 0)).1) 0 6)).elim (fun c5 => ?_) (fun c5 => ?_))))))
  ·refine k7 false (bnF c5) ?_
   iterate 2 refine R.go 1 (k7 false (bnF c5) ?_)
   refine k10 eN a (0, 0) i (i : Int) eN_len (k7 false (bnF c5) ?_)
   iterate 2 refine R.go 1 (k7 false (bnF c5) ?_)
   refine k15 true (l01In_c ((a.getD i (0, 0)).2) 0 5) (k7 false (bnF c5) (R.go 1 (k9 false (bnF c5) (R.go 1 ((Bool.eq_false_or_eq_true (inR ((a.getD i (0, 0)).2) 0 5)).elim (fun c6 => ?_) (fun c6 => ?_))))))
   ·refine k7 false (bnF c6) ?_
    iterate 2 refine R.go 1 (k7 false (bnF c6) ?_)
    refine k10 eN a (0, 0) i (i : Int) eN_len (k7 false (bnF c6) ?_)
    iterate 3 refine R.go 1 (k7 false (bnF c6) ?_)
    refine R.go 1 ?_
    by_cases c7 : ((a.getD i (0, 0)).1) = 0
    ·refine k8 true (nF c7) ?_
     iterate 5 refine k8 true (nF c7) ?_
     refine k7 false (bnF c6) (k9 false (nF c7) (k9 false (bnF c6) (R.go 6 (k1 ((i : Int) + 1) ?_))))
     exact R.go 2 (k17 R1 (N2 (i + 1) [0, 3] none _ (by kernel_rfl) (by kernel_rfl) ⟨(by omega), (by rw [‹a.any badN = _›]; exact any_miss (by omega) ((bad_no _).2 (by simp only [inR_iff, inR_not] at *; omega)))⟩ (by show (a.length - (i + 1)) < (a.length - i); omega)))
    refine k7 true (nT c7) ?_
    iterate 2 refine R.go 1 (k7 true (nT c7) ?_)
    refine k10 eN a (0, 0) i (i : Int) eN_len (k7 true (nT c7) ?_)
    iterate 2 refine R.go 1 (k7 true (nT c7) ?_)
    refine R.go 1 (k7 false (bnF c6) (k9 true (nT c7) (k9 false (bnF c6) (R.go 1 (k5 (((a.getD i (0, 0)).2) = 0) (fun c8 => ?_) (fun c8 => ?_))))))
    ·exact R.go 4 (k18 (.bool false) (by first | (apply congrArg AV.bool; first | (rw [tree_yes (by rw [‹a.any badN = _›]; exact any_end (by omega))]; simp [*]; try omega) | (rw [tree_no (by rw [‹a.any badN = _›]; exact any_hit (by omega) ((bad_yes _).2 (by simp only [inR_iff, inR_not] at *; omega)))])) | (exfalso; omega)))
    refine R.go 4 (k1 ((i : Int) + 1) ?_)
    exact R.go 2 (k17 R1 (N2 (i + 1) [0, 3] none _ (by kernel_rfl) (by kernel_rfl) ⟨(by omega), (by rw [‹a.any badN = _›]; exact any_miss (by omega) ((bad_no _).2 (by simp only [inR_iff, inR_not] at *; omega)))⟩ (by show (a.length - (i + 1)) < (a.length - i); omega)))
   iterate 7 refine k8 false (bnT c6) ?_
   refine R.go 6 (k8 false (bnT c6) (k9 true (bnT c6) ?_))
   exact R.go 6 (k18 (.bool false) (by first | (apply congrArg AV.bool; first | (rw [tree_yes (by rw [‹a.any badN = _›]; exact any_end (by omega))]; simp [*]; try omega) | (rw [tree_no (by rw [‹a.any badN = _›]; exact any_hit (by omega) ((bad_yes _).2 (by simp only [inR_iff, inR_not] at *; omega)))])) | (exfalso; omega)))
  iterate 7 refine k8 false (bnT c5) ?_
  refine k9 true (bnT c5) ?_
  exact R.go 22 (k18 (.bool false) (by first | (apply congrArg AV.bool; first | (rw [tree_yes (by rw [‹a.any badN = _›]; exact any_end (by omega))]; simp [*]; try omega) | (rw [tree_no (by rw [‹a.any badN = _›]; exact any_hit (by omega) ((bad_yes _).2 (by simp only [inR_iff, inR_not] at *; omega)))])) | (exfalso; omega)))
 refine R.go 7 ?_
 by_cases c9 : (a.length : Int) > 0
 ·refine k7 true (dT c9) (R.go 1 (k7 true (dT c9) (k15 true (l02Part_c a 0 (by first | omega | (simp <;> omega)) hl) (k7 true (dT c9) ?_))))
  iterate 2 refine R.go 1 (k7 true (dT c9) ?_)
  refine R.go 1 (k9 true (dT c9) ?_)
  exact R.go 2 (k18 (.bool (decide ((peX 1 a 0) = (a.length : Int)))) (by first | (apply congrArg AV.bool; first | (rw [tree_yes (by rw [‹a.any badN = _›]; exact any_end (by omega))]; simp [*]; try omega) | (rw [tree_no (by rw [‹a.any badN = _›]; exact any_hit (by omega) ((bad_yes _).2 (by simp only [inR_iff, inR_not] at *; omega)))])) | (exfalso; omega)))
 iterate 5 refine k8 true (dF c9) ?_
 refine k9 false (dF c9) ?_
 exact R.go 2 (k18 (.bool false) (by first | (apply congrArg AV.bool; first | (rw [tree_yes (by rw [‹a.any badN = _›]; exact any_end (by omega))]; simp [*]; try omega) | (rw [tree_no (by rw [‹a.any badN = _›]; exact any_hit (by omega) ((bad_yes _).2 (by simp only [inR_iff, inR_not] at *; omega)))])) | (exfalso; omega)))
theorem l02Is_c (a : List (Int × Int)) (hl : a.length ≤ 1000000000) : CallA Tryz.prog 56 [LN a] (.bool (isF a)) := by
 refine CallA.of Tryz.func56 rfl (by kernel_rfl) (R.go 10 ?_)
 by_cases c1 : (a.length : Int) ≤ 40
 ·refine k7 true (dT c1) (R.go 1 (k7 true (dT c1) (k15 true (l02Tree_c a hl) (k9 true (dT c1) ?_))))
  exact R.go 2 (k18 (.bool (treeB a)) (by first | (apply congrArg AV.bool; simp [isF, *]; try omega) | (exfalso; omega)))
 iterate 2 refine k8 true (dF c1) ?_
 refine k9 false (dF c1) ?_
 exact R.go 2 (k18 (.bool false) (by first | (apply congrArg AV.bool; simp [isF, *]; try omega) | (exfalso; omega)))
theorem l02Variables_list_c (m : Int) (h0 : 0 ≤ m) (h1 : m ≤ 63) : CallA Tryz.prog 133 [AI m] (ownA eI 2 1 (bitsL 6 m 0)) := by
 refine CallA.of Tryz.func133 rfl (by kernel_rfl) (R.go 15 (k16 ((fun | (out, f, m', i) => (⟨(frm 20 [(0, AI m'), (3, .ref 0), (4, AI i)]), [rowA eI 2 1 out]⟩ : St) : (List Int) × Nat × Int × Int → St)) (fun | (out, f, m', i) => (0 ≤ m' ∧ m' ≤ 63) ∧ (m' < 2 ^ f) ∧ (i = 6 - f) ∧ (f ≤ 6) ∧ (out.length ≤ i) ∧ (out ++ bitsL f m' i = bitsL 6 m 0)) (fun | (out, f, m', i) => f) ([], 6, m, 0) [0, 3, 4] none ⟨(by omega), (by omega), (by omega), (by omega), (by simp), (by rfl)⟩ ?_))
 rintro ⟨out, f, m', i⟩ ⟨h4_1, h4_2, h4_3, h4_4, h4_5, h4_6⟩ R1 N2
 have hf : 0 < m' → f = f - 1 + 1 := fun h => by
  cases f with
  | zero => simp at *; omega
  | succ f => rfl
 have hh : 0 < m' → m' / 2 < 2 ^ (f - 1) := fun h => half_lt (by rw [← hf h]; assumption)
 have b1 : 0 < m' → m' % 2 = 1 → bitsL f m' i = i :: bitsL (f - 1) (m' / 2) (i + 1) := fun h h1 => by rw [hf h]; exact bits_one _ _ _ h h1
 have b0 : 0 < m' → ¬ m' % 2 = 1 → bitsL f m' i = bitsL (f - 1) (m' / 2) (i + 1) := fun h h1 => by rw [hf h]; exact bits_no _ _ _ h h1
 refine R.go 6 (k4 (m' > 0) (fun c5 => ?_) (fun c5 => ?_))
 ·refine R.go 7 (R.rem m' 2 (by kernel_rfl) (by omega) (by omega) (by kernel_rfl) (R.go 2 (k4 ((m' % 2) = 1) (fun c6 => ?_) (fun c6 => ?_))))
  ·refine R.go 4 (k14 eI out [i] 0 2 1 8 eI_one (R.go 4 (k1 (i + 1) (R.go 5 (R.quo m' 2 (by kernel_rfl) (by omega) (by omega) (by omega) (by kernel_rfl) ?_)))))
   exact R.go 2 (k17 R1 (N2 (out ++ [i], (f - 1), m' / 2, i + 1) [0, 3, 4] (some [0]) _ (by kernel_rfl) (by kernel_rfl) ⟨(by omega), (by exact hh (by omega)), (by have := hf (by omega); omega), (by omega), (by first | omega | (simp <;> omega)), (by first | (rw [List.append_assoc, List.singleton_append, ← b1 (by omega) (by omega)]; assumption) | (rw [← b0 (by omega) (by omega)]; assumption))⟩ (by show (f - 1) < f; have := hf (by omega); omega)))
  refine R.go 3 (k1 (i + 1) (R.go 5 (R.quo m' 2 (by kernel_rfl) (by omega) (by omega) (by omega) (by kernel_rfl) ?_)))
  exact R.go 2 (k17 R1 (N2 (out, (f - 1), m' / 2, i + 1) [0, 3, 4] none _ (by kernel_rfl) (by kernel_rfl) ⟨(by omega), (by exact hh (by omega)), (by have := hf (by omega); omega), (by omega), (by first | omega | (simp <;> omega)), (by first | (rw [List.append_assoc, List.singleton_append, ← b1 (by omega) (by omega)]; assumption) | (rw [← b0 (by omega) (by omega)]; assumption))⟩ (by show (f - 1) < f; have := hf (by omega); omega)))
 exact R.go 6 (k18 (ownA eI 2 1 out) (by first | (rw [show out = bitsL 6 m 0 by rw [← ‹out ++ bitsL f m' i = bitsL 6 m 0›, bits_end f m' i (by omega), List.append_nil]]) | (exfalso; omega)))
theorem l02Variables_c (a : List (Int × Int)) (hb : a.any badN = false) (hl : a.length ≤ 40) : CallA Tryz.prog 67 [LN a] (ownA eI 2 1 (bitsL 6 (vmTo a a.length) 0)) := by
 refine CallA.of Tryz.func67 rfl (by kernel_rfl) (R.go 14 (k16 ((fun | (i, m) => (⟨(frm 27 [(0, LN a), (3, AI m), (4, AI (i : Int))]), []⟩ : St) : Nat × Int → St)) (fun | (i, m) => (i ≤ a.length) ∧ (m = vmTo a i)) (fun | (i, m) => a.length - i) (0, 0) [0, 3, 4] none ⟨(by omega), (by rfl)⟩ ?_))
 rintro ⟨i, m⟩ ⟨h4_1, h4_2⟩ R1 N2
 have hk : i < a.length → (a.getD i (0, 0)).1 = 0 → 0 ≤ (a.getD i (0, 0)).2 ∧ (a.getD i (0, 0)).2 ≤ 5 := fun h h0 => by
  have hn := (okN_yes _).1 (okN_get hb h)
  omega
 have hr := vm_rng hb i (by omega)
 refine R.go 8 (k4 ((i : Int) < (a.length : Int)) (fun c5 => ?_) (fun c5 => ?_))
 ·refine R.go 7 (k10 eN a (0, 0) i (i : Int) eN_len (R.go 4 (k4 (((a.getD i (0, 0)).1) = 0) (fun c6 => ?_) (fun c6 => ?_))))
  ·refine R.go 4 (k10 eN a (0, 0) i (i : Int) eN_len (R.go 2 (k15 true (l01One_c ((a.getD i (0, 0)).2) (by omega) (by omega)) (R.go 6 (k1 ((i : Int) + 1) ?_)))))
   exact R.go 2 (k17 R1 (N2 (i + 1, bor m (shl64 1 ((a.getD i (0, 0)).2))) [0, 3, 4] none _ (by kernel_rfl) (by kernel_rfl) ⟨(by omega), (by first | (rw [vmTo, if_pos ‹(a.getD i (0, 0)).1 = 0›, ← ‹m = vmTo a i›]) | (rw [vmTo, if_neg ‹¬ (a.getD i (0, 0)).1 = 0›]; assumption))⟩ (by show (a.length - (i + 1)) < (a.length - i); omega)))
  refine R.go 4 (k1 ((i : Int) + 1) ?_)
  exact R.go 2 (k17 R1 (N2 (i + 1, m) [0, 3, 4] none _ (by kernel_rfl) (by kernel_rfl) ⟨(by omega), (by first | (rw [vmTo, if_pos ‹(a.getD i (0, 0)).1 = 0›, ← ‹m = vmTo a i›]) | (rw [vmTo, if_neg ‹¬ (a.getD i (0, 0)).1 = 0›]; assumption))⟩ (by show (a.length - (i + 1)) < (a.length - i); omega)))
 refine R.go 4 (k15 true (l02Variables_list_c m (by omega) (by omega)) ?_)
 exact R.go 2 (k18 (ownA eI 2 1 (bitsL 6 m 0)) (by first | (rw [‹m = _›, show i = a.length by omega]) | (exfalso; omega)))
theorem variableMask_c (a : List (Int × Int)) (hb : a.any badN = false) (hl : a.length ≤ 40) : CallA Tryz.prog 130 [LN a] (AI (vmTo a a.length)) := by
 refine CallA.of Tryz.func130 rfl (by kernel_rfl) (R.go 16 (k16 ((fun | (i, m) => (⟨(frm 22 [(3, AI m), (6, LN a), (7, AI a.length), (8, AI (i : Int))]), []⟩ : St) : Nat × Int → St)) (fun | (i, m) => (i ≤ a.length) ∧ (m = vmTo a i)) (fun | (i, m) => a.length - i) (0, 0) [3, 6, 7, 8] none ⟨(by omega), (by rfl)⟩ ?_))
 rintro ⟨i, m⟩ ⟨h4_1, h4_2⟩ R1 N2
 have hk : i < a.length → (a.getD i (0, 0)).1 = 0 → 0 ≤ (a.getD i (0, 0)).2 ∧ (a.getD i (0, 0)).2 ≤ 5 := fun h h0 => by
  have hn := (okN_yes _).1 (okN_get hb h)
  omega
 refine R.go 5 (k4 ((i : Int) < (a.length : Int)) (fun c5 => ?_) (fun c5 => ?_))
 ·refine R.go 5 (k10 eN a (0, 0) i (i : Int) eN_len (R.go 10 (k4 (((a.getD i (0, 0)).1) = 0) (fun c6 => ?_) (fun c6 => ?_))))
  ·refine R.go 4 (R.shl 1 ((a.getD i (0, 0)).2) (by kernel_rfl) (by omega) (by kernel_rfl) (R.go 5 (k1 ((i : Int) + 1) ?_)))
   exact R.go 2 (k17 R1 (N2 (i + 1, bor m (shl64 1 ((a.getD i (0, 0)).2))) [3, 6, 7, 8] (some []) _ (by kernel_rfl) (by kernel_rfl) ⟨(by omega), (by first | (rw [vmTo, if_pos ‹(a.getD i (0, 0)).1 = 0›, ← ‹m = vmTo a i›]) | (rw [vmTo, if_neg ‹¬ (a.getD i (0, 0)).1 = 0›]; assumption))⟩ (by show (a.length - (i + 1)) < (a.length - i); omega)))
  refine R.go 3 (k1 ((i : Int) + 1) ?_)
  exact R.go 2 (k17 R1 (N2 (i + 1, m) [3, 6, 7, 8] (some []) _ (by kernel_rfl) (by kernel_rfl) ⟨(by omega), (by first | (rw [vmTo, if_pos ‹(a.getD i (0, 0)).1 = 0›, ← ‹m = vmTo a i›]) | (rw [vmTo, if_neg ‹¬ (a.getD i (0, 0)).1 = 0›]; assumption))⟩ (by show (a.length - (i + 1)) < (a.length - i); omega)))
 exact R.go 6 (k18 (AI m) (by first | (rw [‹m = _›, show i = a.length by omega]) | (exfalso; omega)))
end Go.Proofs.YtehbliocfpppoaaGreat

/-! Sums of bits of masks. -/
namespace Go.Proofs.YtehbliocfpppoaaGreat
open Go.RowKit Go.Abs
theorem wrap_toNat (v : BitVec 64) : IntKind.i64.wrap (v.toNat : Int) = v.toInt := by
 rw [IntKind.wrap_i64, BitVec.toInt_eq_toNat_cond]
 have := v.isLt
 split <;> omega
theorem wrap_toInt (x : Int) : (BitVec.ofInt 64 x).toInt = IntKind.i64.wrap x := by
 rw [IntKind.wrap_i64, BitVec.toInt_ofInt, Int.bmod]
 simp only [Nat.reducePow]
 split <;> omega
theorem band_bv (x y : Int) : band x y = (BitVec.ofInt 64 x &&& BitVec.ofInt 64 y).toInt := wrap_toNat _
theorem bor_bv (x y : Int) : bor x y = (BitVec.ofInt 64 x ||| BitVec.ofInt 64 y).toInt := wrap_toNat _
theorem bnot_bv (x y : Int) : bnot x y = (BitVec.ofInt 64 x &&& ~~~ BitVec.ofInt 64 y).toInt := wrap_toNat _
theorem bnot_zero (x m : Int) (hx : IntKind.i64.wrap x = x) : bnot x m = 0 ↔ band x m = x := by
 rw [bnot_bv, band_bv]
 have e : x = (BitVec.ofInt 64 x).toInt := by rw [wrap_toInt, hx]
 have e0 : (0 : Int) = (0 : BitVec 64).toInt := rfl
 conv => rhs; rhs; rw [e]
 conv => lhs; rhs; rw [e0]
 rw [BitVec.toInt_inj, BitVec.toInt_inj]
 constructor
 ·intro h
  apply BitVec.eq_of_getLsbD_eq
  intro i hi
  have := congrArg (fun v => v.getLsbD i) h
  simp [hi] at this ⊢
  exact this
 ·intro h
  apply BitVec.eq_of_getLsbD_eq
  intro i hi
  have := congrArg (fun v => v.getLsbD i) h
  simp [hi] at this ⊢
  exact this
end Go.Proofs.YtehbliocfpppoaaGreat

/-! Bits of masks; relations as rows of masks; closures. -/
namespace Go.Proofs.YtehbliocfpppoaaGreat
open Go.RowKit Go.Abs
theorem bv_nat (a : Nat) : BitVec.ofInt 64 (a : Int) = BitVec.ofNat 64 a := by simp
theorem toInt_lt {v : BitVec 64} (h : v.toNat < 2 ^ 62) : v.toInt = (v.toNat : Int) := by
 rw [BitVec.toInt_eq_toNat_cond, if_pos (by omega)]
theorem toNat_lt {a : Nat} (h : a < 2 ^ 62) : (BitVec.ofNat 64 a).toNat = a := by
 rw [BitVec.toNat_ofNat, Nat.mod_eq_of_lt (by omega)]
theorem bor_nat {a b : Nat} (ha : a < 2 ^ 62) (hb : b < 2 ^ 62) : bor (a : Int) (b : Int) = ((a ||| b : Nat) : Int) := by
 have h : (BitVec.ofNat 64 a ||| BitVec.ofNat 64 b).toNat = a ||| b := by rw [BitVec.toNat_or, toNat_lt ha, toNat_lt hb]
 rw [bor_bv, bv_nat, bv_nat, toInt_lt (by rw [h]; exact Nat.or_lt_two_pow ha hb), h]
theorem band_nat {a b : Nat} (ha : a < 2 ^ 62) (hb : b < 2 ^ 62) : band (a : Int) (b : Int) = ((a &&& b : Nat) : Int) := by
 have h : (BitVec.ofNat 64 a &&& BitVec.ofNat 64 b).toNat = a &&& b := by rw [BitVec.toNat_and, toNat_lt ha, toNat_lt hb]
 rw [band_bv, bv_nat, bv_nat, toInt_lt (by rw [h]; exact Nat.and_lt_two_pow _ hb), h]
theorem shl_nat {i : Nat} (h : i ≤ 62) : shl64 1 (i : Int) = ((2 ^ i : Nat) : Int) := by
 rw [shl_one _ (by omega) (by omega)]
 simp
theorem shr_nat {m i : Nat} (h : i ≤ 62) : shr64 (m : Int) (i : Int) = ((m / 2 ^ i : Nat) : Int) := by
 unfold shr64
 rw [show min (i : Int).toNat 64 = i by omega]
 rw [show ((2 : Int) ^ i) = ((2 ^ i : Nat) : Int) by simp]
 rw [Int.fdiv_eq_ediv_of_nonneg _ (Int.natCast_nonneg _)]
 rfl
def tb (m : Int) (i : Nat) : Bool := m.toNat.testBit i
def InM (n : Nat) (m : Int) : Prop := 0 ≤ m ∧ m.toNat < 2 ^ n
theorem inM_nat {n : Nat} {m : Int} (h : InM n m) : ∃ a : Nat, m = a ∧ a < 2 ^ n := ⟨m.toNat, by have := h.1; omega, h.2⟩
theorem inM_62 {n a : Nat} (hn : n ≤ 61) (h : a < 2 ^ n) : a < 2 ^ 62 := Nat.lt_of_lt_of_le h (Nat.pow_le_pow_right (by decide) (by omega))
theorem inM_bor {n : Nat} {a b : Int} (hn : n ≤ 61) (ha : InM n a) (hb : InM n b) : InM n (bor a b) := by
 obtain ⟨a, rfl, ha'⟩ := inM_nat ha
 obtain ⟨b, rfl, hb'⟩ := inM_nat hb
 rw [bor_nat (inM_62 hn ha') (inM_62 hn hb')]
 exact ⟨by omega, by simpa using Nat.or_lt_two_pow ha' hb'⟩
theorem tb_bor {n : Nat} {a b : Int} (hn : n ≤ 61) (ha : InM n a) (hb : InM n b) (i : Nat) : tb (bor a b) i = (tb a i || tb b i) := by
 obtain ⟨a, rfl, ha'⟩ := inM_nat ha
 obtain ⟨b, rfl, hb'⟩ := inM_nat hb
 rw [bor_nat (inM_62 hn ha') (inM_62 hn hb')]
 simp [tb, Nat.testBit_or]
theorem inM_one {n i : Nat} (hn : n ≤ 61) (hi : i < n) : InM n (shl64 1 (i : Int)) := by
 rw [shl_nat (by omega)]
 exact ⟨Int.natCast_nonneg _, by rw [Int.toNat_natCast]; exact Nat.pow_lt_pow_right (by decide) hi⟩
theorem tb_one {i : Nat} (hi : i ≤ 61) (j : Nat) : tb (shl64 1 (i : Int)) j = decide (i = j) := by
 rw [shl_nat (by omega)]
 unfold tb
 rw [Int.toNat_natCast, Nat.testBit_two_pow]
theorem inM_zero (n : Nat) : InM n 0 := ⟨Int.le_refl _, by simpa using Nat.two_pow_pos n⟩
theorem tb_zero (i : Nat) : tb 0 i = false := by simp [tb]
theorem tb_ext {a b : Int} (ha : 0 ≤ a) (hb : 0 ≤ b) (h : ∀ i, tb a i = tb b i) : a = b := by
 have := Nat.eq_of_testBit_eq (x := a.toNat) (y := b.toNat) h
 omega
theorem tb_lt {n : Nat} {m : Int} {i : Nat} (h : InM n m) (hi : tb m i = true) : i < n := by
 rcases Nat.lt_or_ge i n with h1 | h1
 ·exact h1
 ·have := Nat.testBit_lt_two_pow (Nat.lt_of_lt_of_le h.2 (Nat.pow_le_pow_right (by decide) h1))
  unfold tb at hi
  rw [this] at hi
  cases hi
theorem wrap_inM {n : Nat} {m : Int} (hn : n ≤ 61) (h : InM n m) : IntKind.i64.wrap m = m := by
 obtain ⟨a, rfl, ha⟩ := inM_nat h
 have := inM_62 hn ha
 exact wrap_id (by omega) (by omega)
theorem bnot_sub {n : Nat} {a b : Int} (hn : n ≤ 61) (ha : InM n a) (hb : InM n b) : bnot a b = 0 ↔ ∀ i, tb a i = true → tb b i = true := by
 rw [bnot_zero a b (wrap_inM hn ha)]
 obtain ⟨a, rfl, ha'⟩ := inM_nat ha
 obtain ⟨b, rfl, hb'⟩ := inM_nat hb
 rw [band_nat (inM_62 hn ha') (inM_62 hn hb')]
 simp only [tb, Int.toNat_natCast]
 constructor
 ·intro h i hi
  have h1 : a &&& b = a := by omega
  rw [← h1, Nat.testBit_and] at hi
  simp only [Bool.and_eq_true] at hi
  exact hi.2
 ·intro h
  congr 1
  apply Nat.eq_of_testBit_eq
  intro i
  rw [Nat.testBit_and]
  cases hi : a.testBit i with
  | false => rfl
  | true => rw [h i hi]; rfl
theorem has_tb {n i : Nat} {m : Int} (hn : n ≤ 61) (h : InM n m) (hi : i ≤ 61) : band (shr64 m (i : Int)) 1 = 1 ↔ tb m i = true := by
 obtain ⟨a, rfl, ha⟩ := inM_nat h
 have h1 : a / 2 ^ i < 2 ^ 62 := Nat.lt_of_le_of_lt (Nat.div_le_self _ _) (inM_62 hn ha)
 rw [shr_nat (by omega), show (1 : Int) = ((1 : Nat) : Int) from rfl, band_nat h1 (by decide), Nat.and_one_is_mod]
 simp only [tb, Int.toNat_natCast, Nat.testBit_eq_decide_div_mod_eq, decide_eq_true_eq]
 omega
theorem full_rng {n : Nat} {m : Int} (hn : n ≤ 61) : InM n m ↔ inR m 0 ((shl64 1 (n : Int)) - 1) = true := by
 rw [inR_iff, shl_nat (by omega)]
 unfold InM
 generalize 2 ^ n = q
 omega
def Edge (xs : List Int) (i j : Nat) : Prop := i < xs.length ∧ tb (xs.getD i 0) j = true
inductive Star (E : Nat → Nat → Prop) : Nat → Nat → Prop
 | refl (i : Nat) : Star E i i
 | tail {i j k : Nat} (h : Star E i j) (e : E j k) : Star E i k
theorem Star.trans {E : Nat → Nat → Prop} {i j k : Nat} (h : Star E i j) (h' : Star E j k) : Star E i k := by
 induction h' with
 | refl => exact h
 | tail _ e ih => exact .tail ih e
inductive Pth (E : Nat → Nat → Prop) (b : Nat) : Nat → Nat → Prop
 | edge {i k : Nat} (e : E i k) : Pth E b i k
 | via {i m k : Nat} (h : Pth E b i m) (hm : m < b) (h' : Pth E b m k) : Pth E b i k
theorem Pth.mono {E : Nat → Nat → Prop} {b b' i k : Nat} (hb : b ≤ b') (h : Pth E b i k) : Pth E b' i k := by
 induction h with
 | edge e => exact .edge e
 | via _ hm _ i1 i2 => exact .via i1 (by omega) i2
theorem Pth.zero {E : Nat → Nat → Prop} {i k : Nat} (h : Pth E 0 i k) : E i k := by
 cases h with
 | edge e => exact e
 | via _ hm _ => omega
def RelOK (n : Nat) (xs : List Int) : Prop := xs.length = n ∧ ∀ j, j < n → InM n (xs.getD j 0)
theorem getD_set_if {α : Type} (xs : List α) (i j : Nat) (v d : α) (hi : i < xs.length) : (xs.set i v).getD j d = if i = j then v else xs.getD j d := by
 simp only [List.getD_eq_getElem?_getD, List.getElem?_set]
 split
 ·rename_i h; subst h; simp [hi]
 ·rfl
def wrow (out : List Int) (j i : Nat) : List Int := if band (shr64 (out.getD i 0) (j : Int)) 1 = 1 then out.set i (bor (out.getD i 0) (out.getD j 0)) else out
def win (out : List Int) (j : Nat) : Nat → List Int
 | 0 => out
 | i + 1 => wrow (win out j i) j i
def wout (xs : List Int) : Nat → List Int
 | 0 => xs
 | j + 1 => win (wout xs j) j xs.length
end Go.Proofs.YtehbliocfpppoaaGreat

/-! Frames: which are frames, reachability, roots. -/
namespace Go.Proofs.YtehbliocfpppoaaGreat
open Go.RowKit Go.Abs
def okFr (n : Int) (xs : List Int) : Bool := inR n 0 8 && decide ((xs.length : Int) = n) && !xs.any fun m => !inR m 0 ((shl64 1 n) - 1)
def outR (n m : Int) : Bool := !(inR n 0 30 && inR m 0 ((shl64 1 n) - 1))
def fidxI (p : Int → Bool) : List Int → Int → Int
 | [], _ => -1
 | x :: l, i => if p x = true then i else fidxI p l (i + 1)
theorem drop_consI (a : List Int) (j : Nat) (h : j < a.length) : a.drop j = a.getD j 0 :: a.drop (j + 1) := by
 rw [List.drop_eq_getElem_cons h, List.getD_eq_getElem?_getD, List.getElem?_eq_getElem h]; rfl
theorem fidxI_hit {p : Int → Bool} {a : List Int} {i : Nat} (h : i < a.length) (hp : p (a.getD i 0) = true) : fidxI p (a.drop i) i = i := by
 rw [drop_consI a i h, fidxI, if_pos hp]
theorem fidxI_miss {p : Int → Bool} {a : List Int} {i : Nat} (h : i < a.length) (hp : p (a.getD i 0) = false) : fidxI p (a.drop i) i = fidxI p (a.drop (i + 1)) ((i + 1 : Nat) : Int) := by
 rw [drop_consI a i h, fidxI, if_neg (by rw [hp]; decide)]
 rfl
theorem fidxI_end {p : Int → Bool} {a : List Int} {i : Nat} (h : a.length ≤ i) : fidxI p (a.drop i) i = -1 := by
 rw [List.drop_eq_nil_of_le h, fidxI]
theorem fidxI_any {p : Int → Bool} : ∀ {a : List Int} {i : Int}, 0 ≤ i → (0 ≤ fidxI p a i ↔ a.any p = true)
 | [], i, h => by simp [fidxI]
 | x :: a, i, h => by
  have ih := fidxI_any (p := p) (a := a) (i := i + 1) (by omega)
  rw [fidxI, List.any_cons]
  by_cases hp : p x = true
  ·simp [hp, h]
  ·rw [if_neg hp, ih]; simp [hp]
theorem anyI_hit {p : Int → Bool} {a : List Int} {i : Nat} (h : i < a.length) (hp : p (a.getD i 0) = true) : (a.drop i).any p = true := by
 rw [drop_consI a i h, List.any_cons, hp, Bool.true_or]
theorem anyI_miss {p : Int → Bool} {a : List Int} {i : Nat} (h : i < a.length) (hp : p (a.getD i 0) = false) : (a.drop i).any p = (a.drop (i + 1)).any p := by
 rw [drop_consI a i h, List.any_cons, hp, Bool.false_or]
theorem anyI_end {p : Int → Bool} {a : List Int} {i : Nat} (h : a.length ≤ i) : (a.drop i).any p = false := by
 rw [List.drop_eq_nil_of_le h]; rfl
theorem okFr_no {n : Int} {xs : List Int} (h : inR n 0 8 = false) : okFr n xs = false := by simp [okFr, h]
theorem okFr_ne {n : Int} {xs : List Int} (h : ¬ (xs.length : Int) = n) : okFr n xs = false := by simp [okFr, h]
theorem okFr_yes {n : Int} {xs : List Int} (h : inR n 0 8 = true) (h1 : (xs.length : Int) = n) : okFr n xs = !xs.any fun m => !inR m 0 ((shl64 1 n) - 1) := by simp [okFr, h, h1]
theorem okFr_out {n : Int} {xs : List Int} (h : inR n 0 8 = true) (h1 : (xs.length : Int) = n) : (!xs.any (outR xs.length)) = okFr n xs := by
 rw [okFr_yes h h1]
 have h8 := (inR_iff _ _ _).1 h
 have e : outR xs.length = fun m => !inR m 0 ((shl64 1 n) - 1) := by
  funext m
  rw [outR, h1, (inR_iff n 0 30).2 (by omega), Bool.true_and]
 rw [e]
theorem okFr_rel {n : Int} {xs : List Int} (h : okFr n xs = true) : 0 ≤ n ∧ n ≤ 8 ∧ (xs.length : Int) = n ∧ RelOK n.toNat xs := by
 simp only [okFr, Bool.and_eq_true, inR_iff, decide_eq_true_eq, Bool.not_eq_true'] at h
 obtain ⟨⟨⟨h0, h1⟩, h2⟩, h3⟩ := h
 refine ⟨h0, h1, h2, by omega, fun j hj => ?_⟩
 have hg : xs.getD j 0 ∈ xs := by
  rw [List.getD_eq_getElem?_getD, List.getElem?_eq_getElem (by omega), Option.getD_some]
  exact List.getElem_mem _
 have := List.any_eq_false.1 h3 _ hg
 rw [full_rng (by omega), show ((n.toNat : Nat) : Int) = n by omega]
 simpa using this
theorem wout_len (xs : List Int) : ∀ j, (wout xs j).length = xs.length
 | 0 => rfl
 | j + 1 => by rw [wout, win_len, wout_len xs j]
where win_len (out : List Int) (j : Nat) : ∀ i, (win out j i).length = out.length
 | 0 => rfl
 | i + 1 => by
  rw [win, wrow]
  split
  ·rw [List.length_set, win_len out j i]
  ·exact win_len out j i
theorem win_len (out : List Int) (j i : Nat) : (win out j i).length = out.length := wout_len.win_len out j i
theorem isMask_c (n m : Int) : CallA Tryz.prog 148 [AI n, AI m] (.bool (!(outR n m))) := by
 have hb : (0 ≤ n ∧ n ≤ 30) → 1 ≤ shl64 1 n ∧ shl64 1 n ≤ 4611686018427387904 := fun h => shl_rng n h.1 (by omega)
 refine CallA.of Tryz.func148 rfl (by kernel_rfl) (R.go 7 (k15 true (inRange_c n 0 30) (R.go 1 ((Bool.eq_false_or_eq_true (inR n 0 30)).elim (fun c1 => ?_) (fun c1 => ?_)))))
 ·refine k7 true c1 ?_
  iterate 2 refine R.go 1 (k7 true c1 ?_)
  refine R.shl 1 n (by kernel_rfl) (by first | omega | (simp only [inR_iff, inR_not] at *; omega)) (by kernel_rfl) (k7 true c1 (k1 ((shl64 1 n) - 1) ?_ (h0 := by first | omega | (simp only [inR_iff, inR_not] at *; omega)) (h1 := by first | omega | (simp only [inR_iff, inR_not] at *; omega))))
  refine k7 true c1 (k15 true (inRange_c m 0 ((shl64 1 n) - 1)) (k9 true c1 ?_))
  exact R.go 2 (k18 (.bool (inR m 0 ((shl64 1 n) - 1))) (by first | (apply congrArg AV.bool; simp [outR, *]) | (exfalso; omega)))
 iterate 5 refine k8 true c1 ?_
 refine k9 false c1 ?_
 exact R.go 2 (k18 (.bool false) (by first | (apply congrArg AV.bool; simp [outR, *]) | (exfalso; omega)))
theorem frameAll_c (n : Int) (xs : List Int) (h0 : 0 ≤ n) (h1 : n ≤ 62) : CallA Tryz.prog 113 [.agg [AI n, LI xs]] (AI ((shl64 1 n) - 1)) := by
 have hb : 1 ≤ shl64 1 n ∧ shl64 1 n ≤ 4611686018427387904 := shl_rng n h0 h1
 refine CallA.of Tryz.func113 rfl (by kernel_rfl) (R.go 9 (R.shl 1 n (by kernel_rfl) (by omega) (by kernel_rfl) (k1 ((shl64 1 n) - 1) ?_)))
 exact R.go 2 (k18 (AI ((shl64 1 n) - 1)) (by rfl))
theorem isRel1_c (m : Int) (xs : List Int) : CallA Tryz.prog 147 [AI m, .rptr [LI xs]] (.bool (outR xs.length m)) := by
 refine CallA.of Tryz.func147 rfl (by kernel_rfl) (R.go 7 (k15 true (size_c xs) (R.go 1 (k15 true (isMask_c xs.length m) ?_))))
 exact R.go 3 (k18 (.bool (!(!(outR xs.length m)))) (by first | (apply congrArg AV.bool; simp) | (exfalso; omega)))
theorem indexI_c (a xs : List Int) (hl : a.length ≤ 1000000000) : CallA Tryz.prog 190 [LI a, .fn 147 [.rptr [LI xs]]] (AI (fidxI (outR xs.length) a 0)) := by
 refine CallA.of Tryz.func190 rfl (by kernel_rfl) (R.go 12 (k16 (fun (i : Nat) => (⟨(frm 19 [(0, LI a), (1, .fn 147 [.rptr [LI xs]]), (7, AI a.length), (8, AI (i : Int))]), []⟩ : St)) (fun (i : Nat) => (i ≤ a.length) ∧ (fidxI (outR xs.length) a 0 = fidxI (outR xs.length) (a.drop i) i)) (fun (i : Nat) => a.length - i) 0 [0, 1, 7, 8] none ⟨(by omega), (by rfl)⟩ ?_))
 rintro i ⟨h3_1, h3_2⟩ R1 N2
 refine R.go 5 (k4 ((i : Int) < (a.length : Int)) (fun c4 => ?_) (fun c4 => ?_))
 ·refine R.go 13 (k10 eI a 0 i (i : Int) eI_len (R.go 1 (k15 true (isRel1_c (a.getD i 0) xs) (R.go 1 (k3 (outR xs.length (a.getD i 0)) (fun c5 => ?_) (fun c5 => ?_))))))
  ·exact R.go 5 (k18 (AI (i : Int)) (by first | (apply congrArg AI; rw [‹fidxI (outR xs.length) a 0 = _›]; first | exact (fidxI_end (by omega)).symm | exact (fidxI_hit (by omega) (by assumption)).symm) | (exfalso; omega)))
  refine R.go 3 (k1 ((i : Int) + 1) ?_)
  exact R.go 2 (k17 R1 (N2 (i + 1) [0, 1, 7, 8] none _ (by kernel_rfl) (by kernel_rfl) ⟨(by omega), (by rw [‹fidxI (outR xs.length) a 0 = _›]; exact fidxI_miss (by omega) (by assumption))⟩ (by show (a.length - (i + 1)) < (a.length - i); omega)))
 exact R.go 5 (k18 (AI (-1)) (by first | (apply congrArg AI; rw [‹fidxI (outR xs.length) a 0 = _›]; first | exact (fidxI_end (by omega)).symm | exact (fidxI_hit (by omega) (by assumption)).symm) | (exfalso; omega)))
theorem containsI_c (a xs : List Int) (hl : a.length ≤ 1000000000) : CallA Tryz.prog 105 [LI a, .fn 147 [.rptr [LI xs]]] (.bool (a.any (outR xs.length))) := by
 refine CallA.of Tryz.func105 rfl (by kernel_rfl) (R.go 8 (k15 true (indexI_c a xs hl) ?_))
 exact R.go 3 (k18 (.bool (decide ((fidxI (outR xs.length) a 0) ≥ 0))) (by first | (apply congrArg AV.bool; rw [Bool.eq_iff_iff, decide_eq_true_iff]; exact fidxI_any (Int.le_refl 0)) | (exfalso; omega)))
theorem isRelation_c (xs : List Int) (hl : xs.length ≤ 1000000000) : CallA Tryz.prog 80 [LI xs] (.bool (!(xs.any (outR xs.length)))) := by
 refine CallA.of Tryz.func80 rfl (by kernel_rfl) (R.go 9 (k15 false (containsI_c xs xs hl) ?_))
 exact R.go 3 (k18 (.bool (!(xs.any (outR xs.length)))) (by rfl))
theorem l01Masks_c (n : Int) (xs : List Int) (hl : xs.length ≤ 1000000000) (h0 : 0 ≤ n) (h1 : n ≤ 62) : CallA Tryz.prog 57 [AI n, LI xs] (.bool (!(xs.any fun m => !inR m 0 ((shl64 1 n) - 1)))) := by
 refine CallA.of Tryz.func57 rfl (by kernel_rfl) (R.go 10 (k16 (fun (i : Nat) => (⟨(frm 20 [(0, AI n), (1, LI xs), (5, AI (i : Int))]), []⟩ : St)) (fun (i : Nat) => (i ≤ xs.length) ∧ ((xs.any fun m => !inR m 0 ((shl64 1 n) - 1)) = (xs.drop i).any fun m => !inR m 0 ((shl64 1 n) - 1))) (fun (i : Nat) => xs.length - i) 0 [0, 1, 5] none ⟨(by omega), (by rfl)⟩ ?_))
 rintro i ⟨h3_1, h3_2⟩ R1 N2
 refine R.go 8 (k4 ((i : Int) < (xs.length : Int)) (fun c4 => ?_) (fun c4 => ?_))
 ·refine R.go 7 (k10 eI xs 0 i (i : Int) eI_len (R.go 2 (k15 true (l01Full_c n h0 h1) (k15 true (l01In_c (xs.getD i 0) 0 ((shl64 1 n) - 1)) (R.go 2 (k20 (inR (xs.getD i 0) 0 ((shl64 1 n) - 1)) (fun c5 => ?_) (fun c5 => ?_)))))))
  ·exact R.go 4 (k18 (.bool false) (by first | (apply congrArg AV.bool; rw [‹(xs.any fun m => !inR m 0 ((shl64 1 n) - 1)) = _›]; first | (rw [anyI_end (by omega)]; rfl) | (rw [anyI_hit (by omega) (by simpa using ‹inR _ _ _ = false›)]; rfl)) | (exfalso; omega)))
  refine R.go 4 (k1 ((i : Int) + 1) ?_)
  exact R.go 2 (k17 R1 (N2 (i + 1) [0, 1, 5] none _ (by kernel_rfl) (by kernel_rfl) ⟨(by omega), (by rw [‹(xs.any fun m => !inR m 0 ((shl64 1 n) - 1)) = _›]; exact anyI_miss (p := fun m => !inR m 0 ((shl64 1 n) - 1)) (by omega) (by simpa using ‹inR _ _ _ = true›))⟩ (by show (xs.length - (i + 1)) < (xs.length - i); omega)))
 exact R.go 5 (k18 (.bool true) (by first | (apply congrArg AV.bool; rw [‹(xs.any fun m => !inR m 0 ((shl64 1 n) - 1)) = _›]; first | (rw [anyI_end (by omega)]; rfl) | (rw [anyI_hit (by omega) (by simpa using ‹inR _ _ _ = false›)]; rfl)) | (exfalso; omega)))
theorem isFrame_c (n : Int) (xs : List Int) (hl : xs.length ≤ 1000000000) : CallA Tryz.prog 134 [.agg [AI n, LI xs]] (.bool (okFr n xs)) := by
 have hn := fun h : inR n 0 8 = true => (inR_iff _ _ _).1 h
 refine CallA.of Tryz.func134 rfl (by kernel_rfl) (R.go 9 (k15 true (inRange_c n 0 8) (R.go 1 ((Bool.eq_false_or_eq_true (inR n 0 8)).elim (fun c1 => ?_) (fun c1 => ?_)))))
 ·refine k7 true c1 ?_
  iterate 2 refine R.go 1 (k7 true c1 ?_)
  refine k15 true (size_c xs) (k7 true c1 ?_)
  iterate 2 refine R.go 1 (k7 true c1 ?_)
  refine R.go 1 (k9 true c1 (R.go 1 ?_))
  by_cases c2 : (xs.length : Int) = n
  ·refine k7 true (dT c2) ?_
   iterate 2 refine R.go 1 (k7 true (dT c2) ?_)
   refine k15 true (isRelation_c xs hl) (k9 true (dT c2) ?_)
   exact R.go 2 (k18 (.bool (!(xs.any (outR xs.length)))) (by first | (apply congrArg AV.bool; first | exact (okFr_no (by assumption)).symm | exact (okFr_ne (by assumption)).symm | exact okFr_out (by assumption) (by assumption)) | (exfalso; omega)))
  iterate 3 refine k8 true (dF c2) ?_
  refine k9 false (dF c2) ?_
  exact R.go 2 (k18 (.bool false) (by first | (apply congrArg AV.bool; first | exact (okFr_no (by assumption)).symm | exact (okFr_ne (by assumption)).symm | exact okFr_out (by assumption) (by assumption)) | (exfalso; omega)))
 iterate 6 refine k8 true c1 ?_
 refine k9 false c1 ?_
 exact R.go 7 (k18 (.bool false) (by first | (apply congrArg AV.bool; first | exact (okFr_no (by assumption)).symm | exact (okFr_ne (by assumption)).symm | exact okFr_out (by assumption) (by assumption)) | (exfalso; omega)))
theorem has_c (m i : Int) (h0 : 0 ≤ i) : CallA Tryz.prog 116 [AI m, AI i] (.bool (decide (band (shr64 m i) 1 = 1))) := by
 refine CallA.of Tryz.func116 rfl (by kernel_rfl) (R.go 8 (R.shr m i (by kernel_rfl) (by omega) (by kernel_rfl) ?_))
 exact R.go 4 (k18 (.bool (decide ((band (shr64 m i) 1) = 1))) (by first | (rfl) | (exfalso; omega)))
theorem l01Bit_c (m i : Int) (h0 : 0 ≤ i) (h1 : i ≤ 62) : CallA Tryz.prog 120 [AI m, AI i] (.bool (decide (band (shr64 m i) 1 = 1))) := by
 refine CallA.of Tryz.func120 rfl (by kernel_rfl) (R.go 8 (k2 .u64 i (u64_id (by omega) (by omega)) (R.shr m i (by kernel_rfl) (by omega) (by kernel_rfl) ?_)))
 exact R.go 4 (k18 (.bool (decide ((band (shr64 m i) 1) = 1))) (by first | (rfl) | (exfalso; omega)))
end Go.Proofs.YtehbliocfpppoaaGreat
