/- Formulas as trees: where parts end, values on a poset. -/
import Derived.Test.YtfkdkhlimdkehaaGreatS20d
namespace Go.Proofs.YtfkdkhlimdkehaaGreat
open Go.RowKit Go.Abs

/-- How many nodes the first o parts take. -/
def pe : Nat → List (Int × Int) → Option Nat
  | 0, _ => some 0
  | _ + 1, [] => none
  | o + 1, x :: l => (pe (o + partsN x.1) l).map (· + 1)
theorem pe_zero (l : List (Int × Int)) : pe 0 l = some 0 := by cases l <;> rfl
theorem pe_succ (o : Nat) (x : Int × Int) (l : List (Int × Int)) : pe (o + 1) (x :: l) = (pe (o + partsN x.1) l).map (· + 1) := rfl
theorem pe_cons {o n : Nat} {x : Int × Int} {l : List (Int × Int)} (h : pe (o + 1) (x :: l) = some n) : ∃ k, n = k + 1 ∧ pe (o + partsN x.1) l = some k := by
  rw [pe_succ, Option.map_eq_some_iff] at h
  obtain ⟨k, h1, rfl⟩ := h
  exact ⟨k, rfl, h1⟩
theorem pe_le : ∀ {l : List (Int × Int)} {o n : Nat}, pe o l = some n → n ≤ l.length
  | l, 0, n, h => by rw [pe_zero] at h; cases h; exact Nat.zero_le _
  | [], o + 1, n, h => by cases h
  | x :: l, o + 1, n, h => by
    obtain ⟨k, rfl, h1⟩ := pe_cons h
    exact Nat.succ_le_succ (pe_le h1)
theorem pe_take : ∀ {l : List (Int × Int)} {o n : Nat}, pe o l = some n → pe o (l.take n) = some n
  | l, 0, n, h => by rw [pe_zero] at h ⊢; exact h
  | [], o + 1, n, h => by cases h
  | x :: l, o + 1, n, h => by
    obtain ⟨k, rfl, h1⟩ := pe_cons h
    rw [List.take_succ_cons, pe_succ, pe_take h1]
    rfl
theorem pe_add : ∀ {l : List (Int × Int)} {o p n : Nat}, pe (o + p) l = some n → ∃ k, pe o l = some k ∧ k ≤ n ∧ pe p (l.drop k) = some (n - k)
  | l, 0, p, n, h => ⟨0, pe_zero l, Nat.zero_le _, by simpa using h⟩
  | [], o + 1, p, n, h => by rw [show o + 1 + p = (o + p) + 1 by omega] at h; cases h
  | x :: l, o + 1, p, n, h => by
    rw [show o + 1 + p = (o + p) + 1 by omega] at h
    obtain ⟨k, rfl, h0⟩ := pe_cons h
    rw [show o + p + partsN x.1 = o + partsN x.1 + p by omega] at h0
    obtain ⟨j, h1, h2, h3⟩ := pe_add h0
    exact ⟨j + 1, by rw [pe_succ, h1]; rfl, by omega, by rw [List.drop_succ_cons, h3]; congr 1; omega⟩
theorem pe_suffix : ∀ {l : List (Int × Int)} {o : Nat}, pe o l = some l.length → ∀ j, ∃ o', pe o' (l.drop j) = some (l.drop j).length
  | l, o, h, 0 => ⟨o, h⟩
  | [], o, h, j + 1 => ⟨0, rfl⟩
  | x :: l, 0, h, j + 1 => by rw [pe_zero] at h; cases h
  | x :: l, o + 1, h, j + 1 => by
    obtain ⟨k, hk, h⟩ := pe_cons h
    rw [List.drop_succ_cons]
    exact pe_suffix (by rw [h]; congr 1; simpa using hk.symm) j

/-- Where o parts end that begin at j. -/
def peX (o : Nat) (a : List (Int × Int)) (j : Nat) : Int := match pe o (a.drop j) with | some n => (j : Int) + n | none => -1
theorem peX_zero (a : List (Int × Int)) (j : Nat) : peX 0 a j = j := by simp [peX, pe_zero]
theorem peX_end (o : Nat) (a : List (Int × Int)) (j : Nat) (h : a.length ≤ j) : peX (o + 1) a j = -1 := by simp [peX, List.drop_eq_nil_of_le h, pe]
theorem drop_cons (a : List (Int × Int)) (j : Nat) (h : j < a.length) : a.drop j = a.getD j (0, 0) :: a.drop (j + 1) := by
  rw [List.drop_eq_getElem_cons h, List.getD_eq_getElem?_getD, List.getElem?_eq_getElem h]; rfl
theorem peX_step (o : Nat) (a : List (Int × Int)) (j : Nat) (h : j < a.length) : peX (o + 1) a j = peX (o + partsN (a.getD j (0, 0)).1) a (j + 1) := by
  unfold peX
  rw [drop_cons a j h, pe_succ]
  cases pe (o + partsN (a.getD j (0, 0)).1) (a.drop (j + 1)) with
  | none => rfl
  | some n => simp only [Option.map_some]; omega
theorem peX_stepI (o : Int) (a : List (Int × Int)) (j : Nat) (c : Int) (ho : 0 < o) (h : j < a.length) (hc : c = o - 1 + partsN (a.getD j (0, 0)).1) : peX o.toNat a j = peX c.toNat a (j + 1) := by
  rw [show o.toNat = (o.toNat - 1) + 1 by omega, peX_step _ a j h]
  congr 1
  omega
theorem peX_endI (o : Int) (a : List (Int × Int)) (j : Nat) (ho : 0 < o) (h : a.length ≤ j) : peX o.toNat a j = -1 := by
  rw [show o.toNat = (o.toNat - 1) + 1 by omega, peX_end _ a j h]

/-- A formula without boxes and diamonds, with variables below nv. -/
def OKF (nv : Nat) (a : List (Int × Int)) : Prop := pe 1 a = some a.length ∧ ∀ x ∈ a, 0 ≤ x.1 ∧ x.1 ≤ 4 ∧ (x.1 = 0 → 0 ≤ x.2 ∧ x.2 < nv)
def lef (a : List (Int × Int)) : List (Int × Int) := (a.take (peX 1 a 1).toNat).drop 1
def rig (a : List (Int × Int)) : List (Int × Int) := a.drop (peX 1 a 1).toNat
theorem okf_cons {nv : Nat} {a : List (Int × Int)} (h : OKF nv a) : ∃ x r, a = x :: r ∧ pe (partsN x.1) r = some r.length := by
  obtain ⟨h, _⟩ := h
  cases a with
  | nil => cases h
  | cons x r =>
    obtain ⟨k, hk, h⟩ := pe_cons (o := 0) h
    exact ⟨x, r, rfl, by rw [Nat.zero_add] at h; rw [h]; congr 1; simpa using hk.symm⟩
theorem okf_pos {nv : Nat} {a : List (Int × Int)} (h : OKF nv a) : 1 ≤ a.length := by
  obtain ⟨x, r, rfl, _⟩ := okf_cons h
  simp
theorem okf_get {nv : Nat} {a : List (Int × Int)} (h : OKF nv a) (j : Nat) (hj : j < a.length) : 0 ≤ (a.getD j (0, 0)).1 ∧ (a.getD j (0, 0)).1 ≤ 4 ∧ ((a.getD j (0, 0)).1 = 0 → 0 ≤ (a.getD j (0, 0)).2 ∧ (a.getD j (0, 0)).2 < nv) := by
  have : a.getD j (0, 0) ∈ a := by
    rw [List.getD_eq_getElem?_getD, List.getElem?_eq_getElem hj, Option.getD_some]
    exact List.getElem_mem hj
  exact h.2 _ this
theorem okf_two {nv : Nat} {a : List (Int × Int)} (h : OKF nv a) (hp : partsN (a.getD 0 (0, 0)).1 = 2) :
    ∃ x L R, a = x :: (L ++ R) ∧ OKF nv L ∧ OKF nv R ∧ peX 1 a 1 = 1 + L.length ∧ lef a = L ∧ rig a = R := by
  obtain ⟨x, r, rfl, hr⟩ := okf_cons h
  simp only [List.getD_cons_zero] at hp
  rw [hp] at hr
  obtain ⟨k, h1, h2, h3⟩ := pe_add (o := 1) (p := 1) hr
  have hk := pe_le h1
  have hX : peX 1 (x :: r) 1 = 1 + k := by simp [peX, h1]
  have hL : lef (x :: r) = r.take k := by
    unfold lef
    rw [hX, show (1 + (k : Int)).toNat = k + 1 by omega, List.take_succ_cons, List.drop_succ_cons, List.drop_zero]
  have hR : rig (x :: r) = r.drop k := by
    unfold rig
    rw [hX, show (1 + (k : Int)).toNat = k + 1 by omega, List.drop_succ_cons]
  have hl : (r.take k).length = k := by simp; omega
  refine ⟨x, r.take k, r.drop k, by rw [List.take_append_drop], ⟨?_, ?_⟩, ⟨?_, ?_⟩, by rw [hX, hl], hL, hR⟩
  · rw [pe_take h1, hl]
  · exact fun y hy => h.2 y (List.mem_cons_of_mem _ (List.mem_of_mem_take hy))
  · rw [h3]; simp
  · exact fun y hy => h.2 y (List.mem_cons_of_mem _ (List.mem_of_mem_drop hy))
theorem okf_lef {nv : Nat} {a : List (Int × Int)} (h : OKF nv a) (hp : partsN (a.getD 0 (0, 0)).1 = 2) : OKF nv (lef a) := by
  obtain ⟨x, L, R, _, hL, _, _, e, _⟩ := okf_two h hp
  rw [e]; exact hL
theorem okf_rig {nv : Nat} {a : List (Int × Int)} (h : OKF nv a) (hp : partsN (a.getD 0 (0, 0)).1 = 2) : OKF nv (rig a) := by
  obtain ⟨x, L, R, _, _, hR, _, _, e⟩ := okf_two h hp
  rw [e]; exact hR
theorem len_lef {nv : Nat} {a : List (Int × Int)} (h : OKF nv a) (hp : partsN (a.getD 0 (0, 0)).1 = 2) : (lef a).length < a.length ∧ (rig a).length < a.length ∧ 1 ≤ peX 1 a 1 ∧ peX 1 a 1 ≤ a.length := by
  obtain ⟨x, L, R, rfl, hL, _, e0, e1, e2⟩ := okf_two h hp
  rw [e1, e2, e0]
  simp
  omega

/-- Values by a stack. -/
def stepF (imp : Int → Int → Int) (vs : List Int) (x : Int × Int) (st : List Int) : List Int :=
  if x.1 = 0 then vs.getD x.2.toNat 0 :: st
  else if x.1 = 2 then band (st.getD 0 0) (st.getD 1 0) :: st.drop 2
  else if x.1 = 3 then bor (st.getD 0 0) (st.getD 1 0) :: st.drop 2
  else if x.1 = 4 then imp (st.getD 0 0) (st.getD 1 0) :: st.drop 2
  else 0 :: st
def stkF (imp : Int → Int → Int) (vs : List Int) (a : List (Int × Int)) : List Int := a.foldr (stepF imp vs) []
def fv (imp : Int → Int → Int) (vs : List Int) (a : List (Int × Int)) : Int := (stkF imp vs a).getD 0 0
theorem stk_parts (imp : Int → Int → Int) (vs : List Int) : ∀ {l : List (Int × Int)} {o : Nat}, (∀ x ∈ l, 0 ≤ x.1 ∧ x.1 ≤ 4) → pe o l = some l.length → ∃ ws : List Int, ws.length = o ∧ ∀ st, l.foldr (stepF imp vs) st = ws ++ st
  | [], 0, _, _ => ⟨[], rfl, fun _ => rfl⟩
  | [], o + 1, _, h => by cases h
  | x :: l, 0, _, h => by rw [pe_zero] at h; cases h
  | x :: l, o + 1, hx, h => by
    obtain ⟨k, hk, h⟩ := pe_cons h
    obtain ⟨ws, h1, h2⟩ := stk_parts imp vs (fun y hy => hx y (List.mem_cons_of_mem _ hy)) (show pe (o + partsN x.1) l = some l.length by rw [h]; congr 1; simpa using hk.symm)
    have hx0 := hx x (List.mem_cons_self ..)
    have hc : x.1 = 0 ∨ x.1 = 1 ∨ (x.1 = 2 ∨ x.1 = 3 ∨ x.1 = 4) := by omega
    rcases hc with hc | hc | hc
    · exact ⟨vs.getD x.2.toNat 0 :: ws, by simp [partsN, hc] at h1; simp [h1], fun st => by rw [List.foldr_cons, h2, stepF, if_pos hc]; rfl⟩
    · exact ⟨0 :: ws, by simp [partsN, hc] at h1; simp [h1], fun st => by rw [List.foldr_cons, h2, stepF]; simp [hc]⟩
    · rw [(partsN_two _).2 hc] at h1
      match ws, h1 with
      | p :: q :: ws, h1 =>
        have h1' : ws.length = o := by simp at h1; omega
        rcases hc with hc | hc | hc
        · exact ⟨band p q :: ws, by simp [h1'], fun st => by rw [List.foldr_cons, h2, stepF]; simp [hc]⟩
        · exact ⟨bor p q :: ws, by simp [h1'], fun st => by rw [List.foldr_cons, h2, stepF]; simp [hc]⟩
        · exact ⟨imp p q :: ws, by simp [h1'], fun st => by rw [List.foldr_cons, h2, stepF]; simp [hc]⟩
theorem okf_stk {nv : Nat} {a : List (Int × Int)} (imp : Int → Int → Int) (vs : List Int) (h : OKF nv a) : ∀ st, a.foldr (stepF imp vs) st = fv imp vs a :: st := by
  obtain ⟨ws, h1, h2⟩ := stk_parts imp vs (fun x hx => ⟨(h.2 x hx).1, (h.2 x hx).2.1⟩) h.1
  match ws, h1 with
  | [v], _ =>
    have : fv imp vs a = v := by simp [fv, stkF, h2]
    intro st
    rw [h2, this]
    rfl
theorem fv_two {nv : Nat} {a : List (Int × Int)} (imp : Int → Int → Int) (vs : List Int) (h : OKF nv a) (hp : partsN (a.getD 0 (0, 0)).1 = 2) : ∃ k, k = (a.getD 0 (0, 0)).1 ∧ fv imp vs a = (stepF imp vs (k, 0) [fv imp vs (lef a), fv imp vs (rig a)]).getD 0 0 := by
  obtain ⟨x, L, R, rfl, hL, hR, _, e1, e2⟩ := okf_two h hp
  refine ⟨_, rfl, ?_⟩
  rw [e1, e2]
  simp only [List.getD_cons_zero] at hp ⊢
  have hx : x.1 ≠ 0 := by intro h; simp [partsN, h] at hp
  conv => lhs; unfold fv stkF
  rw [List.foldr_cons, List.foldr_append, okf_stk imp vs hR, okf_stk imp vs hL]
  simp [stepF, hx]
theorem fv_and {nv : Nat} {a : List (Int × Int)} (imp : Int → Int → Int) (vs : List Int) (h : OKF nv a) (hk : (a.getD 0 (0, 0)).1 = 2) : band (fv imp vs (lef a)) (fv imp vs (rig a)) = fv imp vs a := by
  obtain ⟨k, h1, h2⟩ := fv_two imp vs h ((partsN_two _).2 (.inl hk))
  rw [h2, h1, hk]; rfl
theorem fv_or {nv : Nat} {a : List (Int × Int)} (imp : Int → Int → Int) (vs : List Int) (h : OKF nv a) (hk : (a.getD 0 (0, 0)).1 = 3) : bor (fv imp vs (lef a)) (fv imp vs (rig a)) = fv imp vs a := by
  obtain ⟨k, h1, h2⟩ := fv_two imp vs h ((partsN_two _).2 (.inr (.inl hk)))
  rw [h2, h1, hk]; rfl
theorem fv_imp {nv : Nat} {a : List (Int × Int)} (imp : Int → Int → Int) (vs : List Int) (h : OKF nv a) (hk : (a.getD 0 (0, 0)).1 = 4) : imp (fv imp vs (lef a)) (fv imp vs (rig a)) = fv imp vs a := by
  obtain ⟨k, h1, h2⟩ := fv_two imp vs h ((partsN_two _).2 (.inr (.inr hk)))
  rw [h2, h1, hk]; rfl
theorem fv_var {nv : Nat} {a : List (Int × Int)} (imp : Int → Int → Int) (vs : List Int) (h : OKF nv a) (hk : (a.getD 0 (0, 0)).1 = 0) : vs.getD (a.getD 0 (0, 0)).2.toNat 0 = fv imp vs a := by
  obtain ⟨x, r, rfl, hr⟩ := okf_cons h
  simp only [List.getD_cons_zero] at hk ⊢
  simp [fv, stkF, stepF, hk]
theorem fv_bot {nv : Nat} {a : List (Int × Int)} (imp : Int → Int → Int) (vs : List Int) (h : OKF nv a) (hk : (a.getD 0 (0, 0)).1 = 1) : 0 = fv imp vs a := by
  obtain ⟨x, r, rfl, hr⟩ := okf_cons h
  simp only [List.getD_cons_zero] at hk ⊢
  simp [fv, stkF, stepF, hk]

/-- The stack from behind. -/
theorem stk_step (imp : Int → Int → Int) (vs : List Int) (a : List (Int × Int)) (i : Int) (h0 : 0 ≤ i) (h1 : i < a.length) : stkF imp vs (a.drop (i - 1 + 1).toNat) = stepF imp vs (a.getD i.toNat (0, 0)) (stkF imp vs (a.drop (i + 1).toNat)) := by
  rw [show (i - 1 + 1).toNat = i.toNat by omega, show (i + 1).toNat = i.toNat + 1 by omega, drop_cons a i.toNat (by omega)]
  rfl
theorem stk_len {nv : Nat} {a : List (Int × Int)} (imp : Int → Int → Int) (vs : List Int) (h : OKF nv a) (i : Int) (h0 : 0 ≤ i) (h1 : i < a.length) : partsN (a.getD i.toNat (0, 0)).1 ≤ (stkF imp vs (a.drop (i + 1).toNat)).length := by
  obtain ⟨o, ho⟩ := pe_suffix h.1 i.toNat
  rw [drop_cons a i.toNat (by omega), show i.toNat + 1 = (i + 1).toNat by omega] at ho
  cases o with
  | zero => rw [pe_zero] at ho; cases ho
  | succ o =>
    obtain ⟨k, hk, ho⟩ := pe_cons ho
    obtain ⟨ws, h2, h3⟩ := stk_parts imp vs (fun x hx => ⟨(h.2 x (List.mem_of_mem_drop hx)).1, (h.2 x (List.mem_of_mem_drop hx)).2.1⟩) (show pe (o + partsN (a.getD i.toNat (0, 0)).1) (a.drop (i + 1).toNat) = some (a.drop (i + 1).toNat).length by rw [ho]; congr 1; simpa using hk.symm)
    unfold stkF
    rw [h3, List.append_nil, h2]
    omega
theorem rev_top (p : Int) (r : List Int) : ((p :: r).reverse).getD (((p :: r).reverse).length - 1) 0 = p := by simp [List.getD_eq_getElem?_getD]
theorem rev_pop (p : Int) (r : List Int) : ((p :: r).reverse).take (((p :: r).reverse).length - 1) = r.reverse := by simp
theorem stk_push {imp : Int → Int → Int} {vs : List Int} {a : List (Int × Int)} {S : List Int} {i : Int} (hS : S = (stkF imp vs (a.drop (i + 1).toNat)).reverse) (h0 : 0 ≤ i) (h1 : i < a.length) (hk : (a.getD i.toNat (0, 0)).1 = 0) : S ++ [vs.getD (a.getD i.toNat (0, 0)).2.toNat 0] = (stkF imp vs (a.drop (i - 1 + 1).toNat)).reverse := by
  rw [stk_step imp vs a i h0 h1, hS, stepF, if_pos hk, List.reverse_cons]
theorem stk_bot {imp : Int → Int → Int} {vs : List Int} {a : List (Int × Int)} {S : List Int} {i : Int} (hS : S = (stkF imp vs (a.drop (i + 1).toNat)).reverse) (h0 : 0 ≤ i) (h1 : i < a.length) (hk : (a.getD i.toNat (0, 0)).1 = 1) : S ++ [0] = (stkF imp vs (a.drop (i - 1 + 1).toNat)).reverse := by
  rw [stk_step imp vs a i h0 h1, hS, stepF, if_neg (by omega), if_neg (by omega), if_neg (by omega), if_neg (by omega), List.reverse_cons]
theorem stk_bin {nv : Nat} {imp : Int → Int → Int} {vs : List Int} {a : List (Int × Int)} {S S1 : List Int} {i p q v : Int} (hok : OKF nv a) (hS : S = (stkF imp vs (a.drop (i + 1).toNat)).reverse) (h0 : 0 ≤ i) (h1 : i < a.length)
    (hk : (a.getD i.toNat (0, 0)).1 = 2 ∨ (a.getD i.toNat (0, 0)).1 = 3 ∨ (a.getD i.toNat (0, 0)).1 = 4) (hp : S.getD (S.length - 1) 0 = p) (h2 : S.take (S.length - 1) = S1) (hq : S1.getD (S1.length - 1) 0 = q) (hv : ∀ k, k = (a.getD i.toNat (0, 0)).1 → [v] = stepF imp vs (k, 0) [p, q]) :
    S1.take (S1.length - 1) ++ [v] = (stkF imp vs (a.drop (i - 1 + 1).toNat)).reverse := by
  have hl := stk_len imp vs hok i h0 h1
  rw [(partsN_two _).2 hk] at hl
  rw [stk_step imp vs a i h0 h1]
  generalize stkF imp vs (a.drop (i + 1).toNat) = T at hS hl
  match T, hl with
  | p' :: q' :: r, _ =>
    subst hS
    rw [rev_top] at hp
    rw [rev_pop] at h2
    subst h2
    rw [rev_top] at hq
    subst hp
    subst hq
    rw [rev_pop]
    have h3 : stepF imp vs (a.getD i.toNat (0, 0)) (p' :: q' :: r) = v :: r := by
      have := hv _ rfl
      rcases hk with hk | hk | hk <;> (rw [hk] at this; simp [stepF] at this; simp only [stepF, hk]; simp [this])
    rw [h3, List.reverse_cons]
theorem stk_two {nv : Nat} {imp : Int → Int → Int} {vs : List Int} {a : List (Int × Int)} {S : List Int} {i : Int} (hok : OKF nv a) (hS : S = (stkF imp vs (a.drop (i + 1).toNat)).reverse) (h0 : 0 ≤ i) (h1 : i < a.length) (hk : (a.getD i.toNat (0, 0)).1 = 2 ∨ (a.getD i.toNat (0, 0)).1 = 3 ∨ (a.getD i.toNat (0, 0)).1 = 4) : 2 ≤ S.length := by
  have hl := stk_len imp vs hok i h0 h1
  rw [(partsN_two _).2 hk] at hl
  rw [hS]
  simpa using hl
theorem stk_fin {nv : Nat} {imp : Int → Int → Int} {vs : List Int} {a : List (Int × Int)} {S : List Int} {i : Int} (hok : OKF nv a) (hS : S = (stkF imp vs (a.drop (i + 1).toNat)).reverse) (h0 : i = -1) : S = [fv imp vs a] := by
  subst h0
  have := okf_stk imp vs hok []
  rw [hS]
  simp [stkF, this]

/-- Arrows on a poset. -/
def impA (m : Int) (xs : List Int) (p q : Int) : Int := boxA xs (bor (bnot ((shl64 1 m) - 1) p) q) xs.length
def impB (m : Int) (xs : List Int) (p q : Int) : Int := boxB xs (bor (bnot ((shl64 1 m) - 1) p) q) xs.length

theorem partEnd_c (a : List (Int × Int)) (i : Nat) (hi : i ≤ a.length) (hl : a.length ≤ 1000000000) : CallA Tryz.prog 115 [LN a, AI (i : Int)] (AI (peX 1 a i)) := by
  refine CallA.of Tryz.func115 rfl (by kernel_rfl) ?_
  refine R.go 10 (R.loop ((fun | (o, j) => (⟨(frm 24 [(0, LN a), (1, AI (j : Int)), (5, AI o)]), []⟩ : St) : Int × Nat → St)) (fun | (o, j) => (0 ≤ o) ∧ (o ≤ j + 1) ∧ (j ≤ a.length) ∧ (peX 1 a i = peX o.toNat a j)) (fun | (o, j) => a.length - j) (1, i) [0, 1, 5] none (by kernel_rfl) (by kernel_rfl) (by kernel_rfl) ⟨(by omega), (by omega), (by omega), (by rfl)⟩ ?_)
  rintro ⟨o, j⟩ ⟨h4_1, h4_2, h4_3, h4_4⟩ R1 N2
  have hp := partsN_le (a.getD j (0, 0)).1
  refine R.go 6 (R.cond (o > 0) (by kernel_rfl) (fun c5 => ?_) (fun c5 => ?_))
  · refine R.go 11 (R.cond ((j : Int) ≥ (a.length : Int)) (by kernel_rfl) (fun c6 => ?_) (fun c6 => ?_))
    · exact R.go 4 (R.retE (AI (-1)) (by kernel_rfl) (by kernel_rfl) (by first | (apply congrArg AI; rw [‹peX 1 a i = _›]; first | exact (peX_endI _ _ _ (by omega) (by omega)).symm | (rw [show o = 0 by omega]; exact (peX_zero _ _).symm)) | (exfalso; omega)))
    · refine R.go 5 (R.idx eN a (0, 0) j (j : Int) (by kernel_rfl) rfl eN_len (by omega) (by kernel_rfl) ?_)
      refine R.go 2 (R.call true (partsOf_c ((a.getD j (0, 0)).1)) (by kernel_rfl) rfl (by kernel_rfl) ?_)
      refine R.ar ((partsN ((a.getD j (0, 0)).1) : Int) - 1) (by kernel_rfl) (by omega) (by omega) (by kernel_rfl) ?_
      refine R.ar (o + ((partsN ((a.getD j (0, 0)).1) : Int) - 1)) (by kernel_rfl) (by omega) (by omega) (by kernel_rfl) ?_
      refine R.go 5 (R.ar ((j : Int) + 1) (by kernel_rfl) (by omega) (by omega) (by kernel_rfl) ?_)
      exact R.go 2 (R.stop R1 (by kernel_rfl) (N2 (o + ((partsN ((a.getD j (0, 0)).1) : Int) - 1), j + 1) [0, 1, 5] none _ (by kernel_rfl) (by kernel_rfl) ⟨(by omega), (by omega), (by omega), (by rw [‹peX 1 a i = _›]; exact peX_stepI _ _ _ _ (by omega) (by omega) (by omega))⟩ (by show (a.length - (j + 1)) < (a.length - j); omega)))
  · exact R.go 6 (R.retE (AI (j : Int)) (by kernel_rfl) (by kernel_rfl) (by first | (apply congrArg AI; rw [‹peX 1 a i = _›]; first | exact (peX_endI _ _ _ (by omega) (by omega)).symm | (rw [show o = 0 by omega]; exact (peX_zero _ _).symm)) | (exfalso; omega)))

end Go.Proofs.YtfkdkhlimdkehaaGreat
