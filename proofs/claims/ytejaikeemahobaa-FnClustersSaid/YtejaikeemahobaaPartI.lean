/- Texts of the proof: B04, B05, B06. -/
import Derived.Test.YtejaikeemahobaaPartH

/-! Clusters are classes; depths are lengths of chains. -/
namespace Go.Proofs.Ytejaikeemahobaa
open Go.RowKit Go.Abs

section
variable {n : Int} {xs : List Int}
theorem fr_ys (hP : okFr n xs = true) : n.toNat ≤ 8 ∧ RelOK n.toNat (clo xs) ∧ (∀ p, p < n.toNat → ∀ k, tb ((clo xs).getD p 0) k = true ↔ Star (Edge xs) p k) := by
  have h := okFr_rel hP
  have hc := clo_ok (n := n.toNat) (by omega) h.2.2.2
  exact ⟨by omega, hc.1, hc.2⟩
theorem mut_iff (hP : okFr n xs = true) {i j : Nat} (hi : i < n.toNat) (hj : j < n.toNat) : mutB (clo xs) i j = true ↔ Star (Edge xs) i j ∧ Star (Edge xs) j i := by
  obtain ⟨h8, hR, hS⟩ := fr_ys hP
  rw [mutB, Bool.and_eq_true, decide_eq_true_iff, decide_eq_true_iff, has_tb (n := n.toNat) (by omega) (hR.2 i hi) (by omega), has_tb (n := n.toNat) (by omega) (hR.2 j hj) (by omega), hS i hi, hS j hj]
theorem mut_refl (hP : okFr n xs = true) {i : Nat} (hi : i < n.toNat) : mutB (clo xs) i i = true := (mut_iff hP hi hi).2 ⟨.refl i, .refl i⟩
theorem mut_symm (hP : okFr n xs = true) {i j : Nat} (hi : i < n.toNat) (hj : j < n.toNat) (h : mutB (clo xs) i j = true) : mutB (clo xs) j i = true := (mut_iff hP hj hi).2 ((mut_iff hP hi hj).1 h).symm
theorem mut_trans (hP : okFr n xs = true) {i j k : Nat} (hi : i < n.toNat) (hj : j < n.toNat) (hk : k < n.toNat) (h : mutB (clo xs) i j = true) (h' : mutB (clo xs) j k = true) : mutB (clo xs) i k = true := by
  have a := (mut_iff hP hi hj).1 h
  have b := (mut_iff hP hj hk).1 h'
  exact (mut_iff hP hi hk).2 ⟨a.1.trans b.1, b.2.trans a.2⟩
theorem clW_cases {ys : List Int} {i : Nat} {L : List Int} (h0 : ∀ v, 0 ≤ L.getD v 0) : ∀ j, (clW ys i L j = -1 ∧ ∀ v, v < j → mutB ys i v = false) ∨ ∃ v, v < j ∧ mutB ys i v = true ∧ clW ys i L j = L.getD v 0
  | 0 => .inl ⟨rfl, fun v hv => by omega⟩
  | j + 1 => by
    rcases clW_cases (ys := ys) (i := i) h0 j with ⟨h1, h2⟩ | ⟨v, h1, h2, h3⟩
    · rw [clW, h1]
      cases hm : mutB ys i j with
      | true => exact .inr ⟨j, by omega, hm, by rw [if_pos ⟨by decide, rfl⟩]⟩
      | false => exact .inl ⟨by rw [if_neg (by simp)], below_m h2 hm⟩
    · refine .inr ⟨v, by omega, h2, ?_⟩
      have := h0 v
      rw [clW, if_neg (by rw [h3]; omega), h3]
theorem getD_snoc {L : List Int} {v : Int} {a : Nat} : (L ++ [v]).getD a 0 = if a < L.length then L.getD a 0 else if a = L.length then v else 0 := by
  rw [List.getD_eq_getElem?_getD, List.getElem?_append]
  split
  · rw [List.getD_eq_getElem?_getD]
  · split
    · rename_i e; rw [e]; simp
    · rw [List.getElem?_eq_none (by simp; omega)]; rfl
/-- Two worlds lie in one cluster if each reaches the other. -/
theorem cls_ok (hP : okFr n xs = true) : ∀ i, i ≤ n.toNat → (∀ a b, a < i → b < i → ((clS (clo xs) i).1.getD a 0 = (clS (clo xs) i).1.getD b 0 ↔ mutB (clo xs) a b = true)) ∧ ∀ a, a < i → (clS (clo xs) i).1.getD a 0 < (clS (clo xs) i).2
  | 0, _ => ⟨fun a b ha => by omega, fun a ha => by omega⟩
  | i + 1, hi => by
    obtain ⟨h1, h2⟩ := cls_ok hP i (by omega)
    have hnn := (clS_nn (clo xs) i).1
    have hl := clS_len (clo xs) i
    have hv : ∀ v c, (∀ a, a < i → ((clS (clo xs) i).1.getD a 0 = v ↔ mutB (clo xs) a i = true)) → v < c → (clS (clo xs) i).2 ≤ c → (∀ a b, a < i + 1 → b < i + 1 → (((clS (clo xs) i).1 ++ [v]).getD a 0 = ((clS (clo xs) i).1 ++ [v]).getD b 0 ↔ mutB (clo xs) a b = true)) ∧ ∀ a, a < i + 1 → ((clS (clo xs) i).1 ++ [v]).getD a 0 < c := fun v c hvm hvc hc => by
      refine ⟨fun a b ha hb => ?_, fun a ha => ?_⟩
      · rw [getD_snoc, getD_snoc, hl]
        by_cases ea : a < i
        · rw [if_pos ea]
          by_cases eb : b < i
          · rw [if_pos eb]; exact h1 a b ea eb
          · rw [if_neg eb, if_pos (by omega), show b = i by omega]; exact hvm a ea
        · rw [if_neg ea, if_pos (by omega), show a = i by omega]
          by_cases eb : b < i
          · rw [if_pos eb, eq_comm, hvm b eb]
            exact ⟨mut_symm hP (by omega) (by omega), mut_symm hP (by omega) (by omega)⟩
          · rw [if_neg eb, if_pos (by omega), show b = i by omega]
            simp [mut_refl hP (show i < n.toNat by omega)]
      · rw [getD_snoc, hl]
        split
        · rename_i ea
          have := h2 a ea
          omega
        · rw [if_pos (by omega)]; exact hvc
    rcases clW_cases (ys := clo xs) (i := i) hnn i with ⟨e1, e2⟩ | ⟨v, e1, e2, e3⟩
    · simp only [clS]
      rw [e1, if_pos (by decide), if_pos (by decide)]
      refine hv _ _ (fun a ha => ?_) (by omega) (by omega)
      have := h2 a ha
      constructor
      · intro h; omega
      · intro h
        have := mut_symm hP (by omega) (by omega) h
        rw [e2 a ha] at this
        cases this
    · have h0 := hnn v
      simp only [clS]
      rw [e3, if_neg (by omega), if_neg (by omega)]
      refine hv _ _ (fun a ha => ?_) (h2 v e1) (Int.le_refl _)
      rw [h1 a v ha e1]
      exact ⟨fun h => mut_trans hP (by omega) (by omega) (by omega) h (mut_symm hP (by omega) (by omega) e2), fun h => mut_trans hP (by omega) (by omega) (by omega) h e2⟩
theorem cls_mut (hP : okFr n xs = true) {i j : Nat} (hi : i < n.toNat) (hj : j < n.toNat) : (clS (clo xs) n.toNat).1.getD i 0 = (clS (clo xs) n.toNat).1.getD j 0 ↔ mutB (clo xs) i j = true := (cls_ok hP _ (Nat.le_refl _)).1 i j hi hj

/-! Depths. -/
def mxs (st : Nat → Bool) (f : Nat → Int) : Nat → Int
  | 0 => 1
  | y + 1 => if st y = true then max (mxs st f y) (f y + 1) else mxs st f y
theorem mxs_ge1 (st : Nat → Bool) (f : Nat → Int) : ∀ N, 1 ≤ mxs st f N
  | 0 => by simp [mxs]
  | y + 1 => by have := mxs_ge1 st f y; rw [mxs]; split <;> omega
theorem mxs_ge {st : Nat → Bool} {f : Nat → Int} {y : Nat} (hs : st y = true) : ∀ {N}, y < N → f y + 1 ≤ mxs st f N
  | N + 1, h => by
    rw [mxs]
    by_cases e : y = N
    · subst e; rw [if_pos hs]; omega
    · have := mxs_ge hs (f := f) (show y < N by omega)
      split <;> omega
theorem mxs_att (st : Nat → Bool) (f : Nat → Int) : ∀ N, mxs st f N = 1 ∨ ∃ y, y < N ∧ st y = true ∧ mxs st f N = f y + 1
  | 0 => .inl rfl
  | N + 1 => by
    rw [mxs]
    have ih := mxs_att st f N
    split
    · rename_i hs
      by_cases h : f N + 1 ≤ mxs st f N
      · rw [Int.max_eq_left h]
        rcases ih with h | ⟨y, h1, h2, h3⟩
        · exact .inl h
        · exact .inr ⟨y, by omega, h2, h3⟩
      · exact .inr ⟨N, by omega, hs, by omega⟩
    · rcases ih with h | ⟨y, h1, h2, h3⟩
      · exact .inl h
      · exact .inr ⟨y, by omega, h2, h3⟩
theorem mxs_congr {st st' : Nat → Bool} {f g : Nat → Int} : ∀ {N}, (∀ y, y < N → st y = st' y) → (∀ y, y < N → st y = true → f y = g y) → mxs st f N = mxs st' g N
  | 0, _, _ => rfl
  | N + 1, h1, h2 => by
    have ih := mxs_congr (fun y hy => h1 y (Nat.lt_succ_of_lt hy)) (fun y hy => h2 y (Nat.lt_succ_of_lt hy))
    rw [mxs, mxs, ← h1 N (by omega), ih]
    split
    · rename_i hs; rw [h2 N (by omega) hs]
    · rfl
def stB (ys : List Int) (x y : Nat) : Bool := tb (ys.getD x 0) y && !mutB ys x y
def DD (ys : List Int) (N : Nat) : Nat → Nat → Int
  | 0, _ => 1
  | k + 1, x => mxs (stB ys x) (DD ys N k) N
def cntB (ys : List Int) (N x : Nat) : Nat := ((List.range N).filter (stB ys x)).length
theorem filter_lt {p q : Nat → Bool} {y : Nat} (hpq : ∀ z, p z = true → q z = true) (hy : q y = true) (hn : p y = false) : ∀ {l : List Nat}, y ∈ l → (l.filter p).length < (l.filter q).length
  | z :: l, h => by
    have hle : (l.filter p).length ≤ (l.filter q).length := by
      clear h
      induction l with
      | nil => simp
      | cons z l ih =>
        rw [List.filter_cons, List.filter_cons]
        cases e : p z with
        | true => rw [hpq z e]; simpa using ih
        | false =>
          cases q z
          · simpa using ih
          · simp only [if_true, List.length_cons]; exact Nat.le_succ_of_le (by simpa using ih)
    rw [List.filter_cons, List.filter_cons]
    rcases List.mem_cons.1 h with rfl | h
    · rw [hy, hn]
      simpa using Nat.lt_succ_of_le hle
    · have ih := filter_lt hpq hy hn h
      cases e : p z with
      | true => rw [hpq z e]; simpa using ih
      | false =>
        cases q z
        · simpa using ih
        · simp only [if_true, List.length_cons]
          have : (if False then z :: List.filter p l else List.filter p l).length = (List.filter p l).length := by simp
          simp only [Bool.false_eq_true, if_false]
          omega
theorem st_iff (hP : okFr n xs = true) {x y : Nat} (hx : x < n.toNat) (hy : y < n.toNat) : stB (clo xs) x y = true ↔ Star (Edge xs) x y ∧ ¬ Star (Edge xs) y x := by
  obtain ⟨h8, hR, hS⟩ := fr_ys hP
  rw [stB, Bool.and_eq_true, hS x hx, Bool.not_eq_true', ← Bool.not_eq_true, mut_iff hP hx hy]
  constructor
  · rintro ⟨h1, h2⟩; exact ⟨h1, fun h => h2 ⟨h1, h⟩⟩
  · rintro ⟨h1, h2⟩; exact ⟨h1, fun h => h2 h.2⟩
theorem st_lt (hP : okFr n xs = true) {x y : Nat} (hx : x < n.toNat) (h : stB (clo xs) x y = true) : y < n.toNat := by
  obtain ⟨h8, hR, hS⟩ := fr_ys hP
  rw [stB, Bool.and_eq_true] at h
  exact tb_lt (hR.2 x hx) h.1
theorem cnt_lt (hP : okFr n xs = true) {x y : Nat} (hx : x < n.toNat) (h : stB (clo xs) x y = true) : cntB (clo xs) n.toNat y < cntB (clo xs) n.toNat x := by
  have hy := st_lt hP hx h
  have h1 := (st_iff hP hx hy).1 h
  refine filter_lt (y := y) (fun z hz => ?_) h ?_ (List.mem_range.2 hy)
  · have hzl := st_lt hP hy hz
    have h2 := (st_iff hP hy hzl).1 hz
    exact (st_iff hP hx hzl).2 ⟨h1.1.trans h2.1, fun h => h2.2 (h.trans h1.1)⟩
  · rw [← Bool.not_eq_true, st_iff hP hy hy]
    exact fun h => h.2 (.refl y)
theorem DD_stab (hP : okFr n xs = true) : ∀ k x, x < n.toNat → cntB (clo xs) n.toNat x ≤ k → DD (clo xs) n.toNat (k + 1) x = DD (clo xs) n.toNat k x
  | 0, x, hx, hc => by
    rw [DD, DD]
    rcases mxs_att (stB (clo xs) x) (DD (clo xs) n.toNat 0) n.toNat with h | ⟨y, _, h2, _⟩
    · exact h
    · have := cnt_lt hP hx h2
      omega
  | k + 1, x, hx, hc => by
    rw [DD, DD]
    refine mxs_congr (fun _ _ => rfl) fun y hy hs => ?_
    have := cnt_lt hP hx hs
    exact DD_stab hP k y hy (by omega)
theorem DD_le (ys : List Int) (N : Nat) : ∀ k x, DD ys N k x ≤ (k : Int) + 1
  | 0, x => by simp [DD]
  | k + 1, x => by
    rw [DD]
    rcases mxs_att (stB ys x) (DD ys N k) N with h | ⟨y, _, _, h⟩
    · rw [h]; omega
    · have := DD_le ys N k y
      rw [h]; omega
def hgt (n : Int) (xs : List Int) (x : Nat) : Int := DD (clo xs) n.toNat n.toNat x
theorem hgt_eq (hP : okFr n xs = true) {x : Nat} (hx : x < n.toNat) : hgt n xs x = mxs (stB (clo xs) x) (hgt n xs) n.toNat := by
  have hc : cntB (clo xs) n.toNat x ≤ n.toNat := by
    have := List.length_filter_le (stB (clo xs) x) (List.range n.toNat)
    rw [List.length_range] at this
    exact this
  rw [hgt, ← DD_stab hP _ x hx hc, DD]
  rfl
theorem hgt_ge (hP : okFr n xs = true) {x y : Nat} (hx : x < n.toNat) (hs : stB (clo xs) x y = true) : hgt n xs y + 1 ≤ hgt n xs x := by
  rw [hgt_eq hP hx]
  exact mxs_ge hs (st_lt hP hx hs)
theorem hgt_ge1 (hP : okFr n xs = true) {x : Nat} (hx : x < n.toNat) : 1 ≤ hgt n xs x := by rw [hgt_eq hP hx]; exact mxs_ge1 _ _ _
theorem hgt_att (hP : okFr n xs = true) {x : Nat} (hx : x < n.toNat) : hgt n xs x = 1 ∨ ∃ y, y < n.toNat ∧ stB (clo xs) x y = true ∧ hgt n xs x = hgt n xs y + 1 := by
  rw [hgt_eq hP hx]
  exact mxs_att _ _ _
theorem hgt_mut (hP : okFr n xs = true) {x x' : Nat} (hx : x < n.toNat) (hx' : x' < n.toNat) (h : mutB (clo xs) x x' = true) : hgt n xs x = hgt n xs x' := by
  have hm := (mut_iff hP hx hx').1 h
  rw [hgt_eq hP hx, hgt_eq hP hx']
  refine mxs_congr (fun y hy => ?_) fun _ _ _ => rfl
  rw [Bool.eq_iff_iff, st_iff hP hx hy, st_iff hP hx' hy]
  exact ⟨fun h => ⟨hm.2.trans h.1, fun h' => h.2 (h'.trans hm.2)⟩, fun h => ⟨hm.1.trans h.1, fun h' => h.2 (h'.trans hm.1)⟩⟩

/-! What the rounds compute. -/
theorem dpI_mono (ys cl : List Int) (x : Nat) (X : List Int) (v : Nat) : ∀ k, (dpI ys cl x X k).getD v 0 ≤ (dpI ys cl x X (k + 1)).getD v 0 := fun k => by
  rw [dpI]
  split
  · exact Int.le_refl _
  · by_cases e : v = x
    · subst e
      by_cases hl : v < (dpI ys cl v X k).length
      · rw [getDs_eq hl]; split <;> omega
      · rw [List.set_eq_of_length_le (by omega)]; exact Int.le_refl _
    · rw [getDs_ne e]; exact Int.le_refl _
theorem dpI_mono2 (ys cl : List Int) (x : Nat) (X : List Int) (v k : Nat) : ∀ d, (dpI ys cl x X k).getD v 0 ≤ (dpI ys cl x X (k + d)).getD v 0
  | 0 => Int.le_refl _
  | d + 1 => Int.le_trans (dpI_mono2 ys cl x X v k d) (dpI_mono ys cl x X v (k + d))
theorem dpI_up (hP : okFr n xs = true) {x : Nat} {X : List Int} (hx : x < n.toNat) (hX : ∀ v, v < n.toNat → X.getD v 0 ≤ hgt n xs v) : ∀ k, k ≤ (mem ((clo xs).getD x 0)).length → ∀ v, v < n.toNat → (dpI (clo xs) (clS (clo xs) n.toNat).1 x X k).getD v 0 ≤ hgt n xs v
  | 0, _, v, hv => hX v hv
  | k + 1, hk, v, hv => by
    have ih := dpI_up hP hx hX k (by omega)
    obtain ⟨h8, hR, hS⟩ := fr_ys hP
    obtain ⟨e1, e2, e3⟩ := mem_in (N := n.toNat) (by omega) (hR.2 x hx) (show k < (mem ((clo xs).getD x 0)).length by omega)
    rw [dpI]
    split
    · exact ih v hv
    · rename_i hc
      rw [cls_mut hP hx e2] at hc
      have hs : stB (clo xs) x ((mem ((clo xs).getD x 0)).getD k 0).toNat = true := by rw [stB, e3]; simpa using hc
      by_cases e : v = x
      · subst e
        have := hgt_ge hP hx hs
        have i1 := ih v hv
        have i2 := ih _ e2
        by_cases hl : v < (dpI (clo xs) (clS (clo xs) n.toNat).1 v X k).length
        · rw [getDs_eq hl]; split <;> omega
        · rw [List.set_eq_of_length_le (by omega)]; exact i1
      · rw [getDs_ne e]; exact ih v hv
theorem dpI_low (hP : okFr n xs = true) {x y : Nat} {X : List Int} (hl : X.length = n.toNat) (hx : x < n.toNat) (hs : stB (clo xs) x y = true) : X.getD y 0 + 1 ≤ (dpI (clo xs) (clS (clo xs) n.toNat).1 x X (mem ((clo xs).getD x 0)).length).getD x 0 := by
  obtain ⟨h8, hR, hS⟩ := fr_ys hP
  have hy := st_lt hP hx hs
  have hs2 := hs
  rw [stB, Bool.and_eq_true, Bool.not_eq_true'] at hs2
  have hm : ((y : Nat) : Int) ∈ mem ((clo xs).getD x 0) := memN_mem.2 ⟨y, by omega, hs2.1, rfl⟩
  obtain ⟨k, hk, e⟩ := List.getElem_of_mem hm
  have hg : (mem ((clo xs).getD x 0)).getD k 0 = (y : Int) := by rw [List.getD_eq_getElem?_getD, List.getElem?_eq_getElem hk, e]; rfl
  have h1 := dpI_mono2 (clo xs) (clS (clo xs) n.toNat).1 x X y 0 k
  rw [Nat.zero_add] at h1
  have h2 : (dpI (clo xs) (clS (clo xs) n.toNat).1 x X k).getD y 0 + 1 ≤ (dpI (clo xs) (clS (clo xs) n.toNat).1 x X (k + 1)).getD x 0 := by
    rw [dpI, hg, Int.toNat_natCast, if_neg (fun h => by rw [(cls_mut hP hx hy).1 h] at hs2; cases hs2.2), getDs_eq (by rw [dpI_len]; omega)]
    split <;> omega
  have h3 := dpI_mono2 (clo xs) (clS (clo xs) n.toNat).1 x X x (k + 1) ((mem ((clo xs).getD x 0)).length - (k + 1))
  rw [show k + 1 + ((mem ((clo xs).getD x 0)).length - (k + 1)) = (mem ((clo xs).getD x 0)).length by omega] at h3
  have h4 : X.getD y 0 = (dpI (clo xs) (clS (clo xs) n.toNat).1 x X 0).getD y 0 := rfl
  omega
theorem dpX_ok (hP : okFr n xs = true) {X : List Int} {r : Nat} (hl : X.length = n.toNat) (hu : ∀ v, v < n.toNat → X.getD v 0 ≤ hgt n xs v) (hw : ∀ v, v < n.toNat → hgt n xs v ≤ (r : Int) + 1 → hgt n xs v ≤ X.getD v 0) : ∀ x, x ≤ n.toNat →
    (∀ v, v < n.toNat → (dpX (clo xs) (clS (clo xs) n.toNat).1 X x).getD v 0 ≤ hgt n xs v) ∧ (∀ v, v < n.toNat → hgt n xs v ≤ (r : Int) + 1 → hgt n xs v ≤ (dpX (clo xs) (clS (clo xs) n.toNat).1 X x).getD v 0) ∧ (∀ v, v < x → hgt n xs v ≤ (r : Int) + 2 → hgt n xs v ≤ (dpX (clo xs) (clS (clo xs) n.toNat).1 X x).getD v 0)
  | 0, _ => ⟨hu, hw, fun v hv => by omega⟩
  | x + 1, hx => by
    obtain ⟨i1, i2, i3⟩ := dpX_ok hP hl hu hw x (by omega)
    have hml := fun v => dpI_mono2 (clo xs) (clS (clo xs) n.toNat).1 x (dpX (clo xs) (clS (clo xs) n.toNat).1 X x) v 0 (mem ((clo xs).getD x 0)).length
    simp only [Nat.zero_add] at hml
    have h00 : ∀ v, (dpI (clo xs) (clS (clo xs) n.toNat).1 x (dpX (clo xs) (clS (clo xs) n.toNat).1 X x) 0).getD v 0 = (dpX (clo xs) (clS (clo xs) n.toNat).1 X x).getD v 0 := fun v => rfl
    rw [dpX]
    refine ⟨dpI_up hP (by omega) i1 _ (Nat.le_refl _), fun v hv hr => ?_, fun v hv hr => ?_⟩
    · have := i2 v hv hr
      have := hml v
      rw [h00] at this
      omega
    · by_cases e : v = x
      · subst e
        rcases hgt_att hP (show v < n.toNat by omega) with h | ⟨y, hy, hs, h⟩
        · have := i2 v (by omega) (by omega)
          have := hml v
          rw [h00] at this
          omega
        · have := dpI_low hP (X := dpX (clo xs) (clS (clo xs) n.toNat).1 X v) (by rw [dpX_len]; exact hl) (show v < n.toNat by omega) hs
          have := i2 y hy (by omega)
          omega
      · have := i3 v (by omega) hr
        have := hml v
        rw [h00] at this
        omega
theorem dpR_ok (hP : okFr n xs = true) : ∀ r, (∀ v, v < n.toNat → (dpR (clo xs) (clS (clo xs) n.toNat).1 n.toNat r).getD v 0 ≤ hgt n xs v) ∧ ∀ v, v < n.toNat → hgt n xs v ≤ (r : Int) + 1 → hgt n xs v ≤ (dpR (clo xs) (clS (clo xs) n.toNat).1 n.toNat r).getD v 0
  | 0 => by
    have h1 : ∀ v, v < n.toNat → (dpR (clo xs) (clS (clo xs) n.toNat).1 n.toNat 0).getD v 0 = 1 := fun v hv => by
      rw [dpR, List.getD_eq_getElem?_getD, List.getElem?_replicate, if_pos hv]; rfl
    refine ⟨fun v hv => ?_, fun v hv h => ?_⟩
    · rw [h1 v hv]; exact hgt_ge1 hP hv
    · rw [h1 v hv]; omega
  | r + 1 => by
    obtain ⟨i1, i2⟩ := dpR_ok hP r
    obtain ⟨j1, j2, j3⟩ := dpX_ok hP (dpR_len _ _ _ _) i1 i2 n.toNat (Nat.le_refl _)
    rw [dpR]
    exact ⟨j1, fun v hv h => j3 v hv (by omega)⟩
theorem dep_hgt (hP : okFr n xs = true) {v : Nat} (hv : v < n.toNat) : (depI n xs).getD v 0 = hgt n xs v := by
  obtain ⟨h1, h2⟩ := dpR_ok hP n.toNat
  have := h1 v hv
  have := h2 v hv (DD_le _ _ _ _)
  unfold depI
  omega
end

end Go.Proofs.Ytejaikeemahobaa


/-! The law FnClusters. -/
namespace Go.Proofs.Ytejaikeemahobaa
open Go.RowKit Go.Abs

theorem mem_one {p : Nat} (hp : p < 61) : mem (shl64 1 (p : Int)) = [(p : Int)] := by
  have h : ∀ v : Int, v ∈ mem (shl64 1 (p : Int)) ↔ v = (p : Int) := fun v => by
    rw [mem, memN_mem]
    constructor
    · rintro ⟨j, _, hj, rfl⟩
      rw [tb_one (by omega), decide_eq_true_iff] at hj
      rw [hj]
    · rintro rfl
      exact ⟨p, by omega, by rw [tb_one (by omega)]; simp, rfl⟩
  have hn := memN_nodup (shl64 1 (p : Int)) 62
  change (mem (shl64 1 (p : Int))).Nodup at hn
  generalize mem (shl64 1 (p : Int)) = l at h hn
  match l, h, hn with
  | [], h, _ => exact absurd ((h p).2 rfl) (by simp)
  | [a], h, _ => rw [(h a).1 (by simp)]
  | a :: b :: l, h, hn =>
    have e1 := (h a).1 (by simp)
    have e2 := (h b).1 (by simp)
    rw [e1, e2] at hn
    simp at hn
section
variable {n : Int} {xs : List Int}
theorem gw_one (hP : okFr n xs = true) {i : Nat} (hi : i < n.toNat) : gwI xs (shl64 1 (i : Int)) = (clo xs).getD i 0 := by
  obtain ⟨h8, hR, hS⟩ := fr_ys hP
  have hg := (gw_ok hP (inM_one (n := n.toNat) (by omega) hi)).1
  unfold gwI at hg ⊢
  rw [mem_one (by omega)] at hg ⊢
  refine tb_ext hg.1 (hR.2 i hi).1 fun j => ?_
  simp only [List.length_cons, List.length_nil, Nat.zero_add, imT, List.getD_cons_zero, Int.toNat_natCast]
  rw [tb_bor (n := n.toNat) (by omega) (inM_zero _) (hR.2 i hi), tb_zero, Bool.false_or]
theorem out_one (hP : okFr n xs = true) {i : Nat} (hi : i < n.toNat) : outR n (shl64 1 (i : Int)) = false := by
  have hb := okFr_rel hP
  have h2 := (full_rng (n := n.toNat) (by omega)).1 (inM_one (n := n.toNat) (by omega) hi)
  rw [nn_eq hb.1] at h2
  rw [outR, (inR_iff n 0 30).2 (by omega), h2]
  rfl
theorem roots_ok (hP : okFr n xs = true) : ∀ i, i ≤ n.toNat → InM n.toNat (rootsTo (clo xs) n i) ∧ ∀ j, tb (rootsTo (clo xs) n i) j = true ↔ j < i ∧ (clo xs).getD j 0 = (shl64 1 n) - 1
  | 0, _ => ⟨inM_zero _, fun j => by simp [rootsTo, tb_zero]⟩
  | i + 1, hi => by
    obtain ⟨h1, h2⟩ := roots_ok hP i (by omega)
    obtain ⟨h8, hR, hS⟩ := fr_ys hP
    have ho := inM_one (n := n.toNat) (i := i) (by omega) (by omega)
    rw [rootsTo]
    split
    · rename_i hc
      refine ⟨inM_bor (by omega) h1 ho, fun j => ?_⟩
      rw [tb_bor (n := n.toNat) (by omega) h1 ho, Bool.or_eq_true, h2, tb_one (by omega), decide_eq_true_iff]
      constructor
      · rintro (⟨h3, h4⟩ | rfl)
        · exact ⟨by omega, h4⟩
        · exact ⟨by omega, hc⟩
      · rintro ⟨h3, h4⟩
        by_cases e : i = j
        · exact .inr e
        · exact .inl ⟨by omega, h4⟩
    · rename_i hc
      refine ⟨h1, fun j => ?_⟩
      rw [h2]
      constructor
      · rintro ⟨h3, h4⟩; exact ⟨by omega, h4⟩
      · rintro ⟨h3, h4⟩
        by_cases e : j = i
        · subst e; exact absurd h4 hc
        · exact ⟨by omega, h4⟩
theorem law_root (hP : okFr n xs = true) {i : Nat} (hi : i < n.toNat) : ((decide (gwI xs (shl64 1 (i : Int)) = (shl64 1 n) - 1)) == (decide (band (shr64 (rootsI n xs) (i : Int)) 1 = 1))) = true := by
  obtain ⟨h8, hR, hS⟩ := fr_ys hP
  have hb := okFr_rel hP
  obtain ⟨h1, h2⟩ := roots_ok hP n.toNat (Nat.le_refl _)
  have hl : xs.length = n.toNat := by omega
  rw [beq_iff_eq, Bool.eq_iff_iff, decide_eq_true_iff, decide_eq_true_iff, gw_one hP hi, rootsI, if_pos hP, hl, has_tb (n := n.toNat) (by omega) h1 (by omega), h2]
  exact ⟨fun h => ⟨hi, h⟩, fun h => h.2⟩
theorem law_gx (hP : okFr n xs = true) {i : Nat} {X : List Int} (hi : i < n.toNat) (hX : X = (clo xs).take i) : X ++ [gwI xs (shl64 1 (i : Int))] = (clo xs).take (i + 1) := by
  obtain ⟨h8, hR, hS⟩ := fr_ys hP
  have hl := hR.1
  rw [List.take_succ_eq_append_getElem (by omega), hX, gw_one hP hi, List.getD_eq_getElem?_getD, List.getElem?_eq_getElem (by omega)]
  rfl
theorem law_ge (hP : okFr n xs = true) {i : Nat} {X : List Int} (hi : i = n.toNat) (hX : X = (clo xs).take i) : X = clo xs := by
  obtain ⟨h8, hR, hS⟩ := fr_ys hP
  rw [hX, hi, ← hR.1, List.take_length]
/-- Two worlds of the pair lie in one cluster. -/
theorem law_c1 {X : List Int} (hP : okFr n xs = true) (hX : X = clo xs) {i j : Nat} (hi : i < n.toNat) (hj : j < n.toNat) (h1 : band (shr64 (X.getD i 0) (j : Int)) 1 = 1) (h2 : band (shr64 (X.getD j 0) (i : Int)) 1 = 1) :
    (clS (clo xs) n.toNat).1.getD i 0 = (clS (clo xs) n.toNat).1.getD j 0 ∧ (depI n xs).getD i 0 = (depI n xs).getD j 0 := by
  subst hX
  have hm := mutB_yes h1 h2
  refine ⟨(cls_mut hP hi hj).2 hm, ?_⟩
  rw [dep_hgt hP hi, dep_hgt hP hj, hgt_mut hP hi hj hm]
theorem law_c2 {X : List Int} (hP : okFr n xs = true) (hX : X = clo xs) {i j : Nat} (hi : i < n.toNat) (hj : j < n.toNat) (h1 : ¬ band (shr64 (X.getD i 0) (j : Int)) 1 = 1) : ¬ (clS (clo xs) n.toNat).1.getD i 0 = (clS (clo xs) n.toNat).1.getD j 0 := by
  subst hX
  rw [cls_mut hP hi hj, mutB_no1 h1]; simp
theorem law_c3 {X : List Int} (hP : okFr n xs = true) (hX : X = clo xs) {i j : Nat} (hi : i < n.toNat) (hj : j < n.toNat) (h1 : band (shr64 (X.getD i 0) (j : Int)) 1 = 1) (h2 : ¬ band (shr64 (X.getD j 0) (i : Int)) 1 = 1) :
    ¬ (clS (clo xs) n.toNat).1.getD i 0 = (clS (clo xs) n.toNat).1.getD j 0 ∧ ¬ (depI n xs).getD i 0 ≤ (depI n xs).getD j 0 := by
  subst hX
  obtain ⟨h8, hR, hS⟩ := fr_ys hP
  refine ⟨by rw [cls_mut hP hi hj, mutB_no2 h2]; simp, ?_⟩
  have hs : stB (clo xs) i j = true := by
    rw [stB, mutB_no2 h2, (has_tb (n := n.toNat) (by omega) (hR.2 i hi) (by omega)).1 h1]; rfl
  have := hgt_ge hP hi hs
  rw [dep_hgt hP hi, dep_hgt hP hj]
  omega
end

theorem big_c (c : List Int) : CallA Try.prog 8 [LB c] (.bool (decide ((c.length : Int) > 4096))) := by
  refine CallA.of Try.func8 rfl (by kernel_rfl) ?_
  exact R.go 11 (R.retE (.bool (decide ((c.length : Int) > 4096))) (by kernel_rfl) (by kernel_rfl) (by rfl))

theorem COok_impl (n : Int) (xs : List Int) (hP : okFr n xs = true) : CallA Try.prog 36 [.agg [AI n, LI xs]] (.tup [ownA eI 2 1 ((clS (clo xs) n.toNat).1), AI 0]) := by
  have hF := okFr_rel hP
  have h0 : 0 ≤ n ∧ n ≤ 8 ∧ (xs.length : Int) = n := ⟨hF.1, hF.2.1, hF.2.2.1⟩
  refine CallA.of Try.func36 rfl (by kernel_rfl) ?_
  refine R.go 10 (R.call true (isFrame_c n xs (by first | omega | (simp <;> omega))) (by kernel_rfl) rfl (by kernel_rfl) ?_)
  refine R.go 2 (R.els (!(okFr n xs)) (by kernel_rfl) (bnF hP) ?_)
  refine R.go 4 (R.call true (clusters_c n xs hP) (by kernel_rfl) rfl (by kernel_rfl) ?_)
  exact R.go 3 (R.retE (.tup [ownA eI 2 1 ((clS (clo xs) n.toNat).1), AI 0]) (by kernel_rfl) (by kernel_rfl) (by rfl))

theorem COok_spec (n : Int) (xs : List Int) (hP : okFr n xs = true) : CallA Try.prog 37 [.agg [AI n, LI xs]] (.tup [ownA eI 2 1 ((clS (clo xs) n.toNat).1), AI 0]) := by
  have hF := okFr_rel hP
  have h0 : 0 ≤ n ∧ n ≤ 8 ∧ (xs.length : Int) = n := ⟨hF.1, hF.2.1, hF.2.2.1⟩
  refine CallA.of Try.func37 rfl (by kernel_rfl) ?_
  refine R.go 10 (R.call true (l05Is_c n xs (by first | omega | (simp <;> omega))) (by kernel_rfl) rfl (by kernel_rfl) ?_)
  refine R.go 2 (R.els (!(okFr n xs)) (by kernel_rfl) (bnF hP) ?_)
  refine R.go 4 (R.call true (l05Cl_c n xs hP) (by kernel_rfl) rfl (by kernel_rfl) ?_)
  exact R.go 3 (R.retE (.tup [ownA eI 2 1 ((clS (clo xs) n.toNat).1), AI 0]) (by kernel_rfl) (by kernel_rfl) (by rfl))

theorem CObad_impl (n : Int) (xs : List Int) (hB : okFr n xs = false) (hl : xs.length ≤ 1000000000) : CallA Try.prog 36 [.agg [AI n, LI xs]] (.tup [.nil, AI 1]) := by
  refine CallA.of Try.func36 rfl (by kernel_rfl) ?_
  refine R.go 10 (R.call true (isFrame_c n xs hl) (by kernel_rfl) rfl (by kernel_rfl) ?_)
  refine R.go 2 (R.thn (!(okFr n xs)) (by kernel_rfl) (bnT hB) ?_)
  exact R.go 5 (R.retE (.tup [.nil, AI 1]) (by kernel_rfl) (by kernel_rfl) (by rfl))

theorem CObad_spec (n : Int) (xs : List Int) (hB : okFr n xs = false) (hl : xs.length ≤ 1000000000) : CallA Try.prog 37 [.agg [AI n, LI xs]] (.tup [.nil, AI 1]) := by
  refine CallA.of Try.func37 rfl (by kernel_rfl) ?_
  refine R.go 10 (R.call true (l05Is_c n xs hl) (by kernel_rfl) rfl (by kernel_rfl) ?_)
  refine R.go 2 (R.thn (!(okFr n xs)) (by kernel_rfl) (bnT hB) ?_)
  exact R.go 5 (R.retE (.tup [.nil, AI 1]) (by kernel_rfl) (by kernel_rfl) (by rfl))

theorem DWok_impl (n : Int) (xs : List Int) (hP : okFr n xs = true) : CallA Try.prog 38 [.agg [AI n, LI xs]] (.tup [ownA eI 2 1 (depI n xs), AI 0]) := by
  have hF := okFr_rel hP
  have h0 : 0 ≤ n ∧ n ≤ 8 ∧ (xs.length : Int) = n := ⟨hF.1, hF.2.1, hF.2.2.1⟩
  refine CallA.of Try.func38 rfl (by kernel_rfl) ?_
  refine R.go 10 (R.call true (isFrame_c n xs (by first | omega | (simp <;> omega))) (by kernel_rfl) rfl (by kernel_rfl) ?_)
  refine R.go 2 (R.els (!(okFr n xs)) (by kernel_rfl) (bnF hP) ?_)
  refine R.go 4 (R.call true (worldD_c n xs hP) (by kernel_rfl) rfl (by kernel_rfl) ?_)
  exact R.go 3 (R.retE (.tup [ownA eI 2 1 (depI n xs), AI 0]) (by kernel_rfl) (by kernel_rfl) (by rfl))

end Go.Proofs.Ytejaikeemahobaa


/-! The law FnClusters, walked. -/
namespace Go.Proofs.Ytejaikeemahobaa
open Go.RowKit Go.Abs

theorem lawCl_c (c : List Int) (hcb : ∀ q : Nat, q < c.length → 0 ≤ c.getD q 0 ∧ c.getD q 0 ≤ 255) : CallA Try.prog 7 [LB c] (.bool true) := by
  refine CallA.of Try.func7 rfl (by kernel_rfl) ?_
  refine R.go 8 (R.call true (big_c c) (by kernel_rfl) rfl (by kernel_rfl) ?_)
  refine R.go 1 (R.cond ((c.length : Int) > 4096) (by kernel_rfl) (fun c1 => ?_) (fun c1 => ?_))
  · exact R.go 4 (R.retE (.bool true) (by kernel_rfl) (by kernel_rfl) (by rfl))
  · have hc : BY c := ⟨by omega, hcb⟩
    refine R.go 4 (R.callX (drClusters_c c hc) (by kernel_rfl) (by kernel_rfl) (by kernel_rfl) ?_)
    rintro _ _ ⟨n_2, xs_3, f4, rfl, rfl⟩
    refine R.go 5 ?_
    refine (Bool.eq_false_or_eq_true (okFr n_2 xs_3)).elim (fun c5 => ?_) (fun c5 => ?_)
    · refine R.go 1 (R.call true (COok_impl n_2 xs_3 c5).frz (by kernel_rfl) rfl (by kernel_rfl) ?_)
      refine R.go 9 (R.call true (COok_spec n_2 xs_3 c5).frz (by kernel_rfl) rfl (by kernel_rfl) ?_)
      first | (have hF0 := okFr_rel (by assumption : okFr n_2 xs_3 = true); have hcl0 := clS_len (clo xs_3) (n_2).toNat; have hb0 : 0 ≤ n_2 ∧ n_2 ≤ 8 := ⟨hF0.1, hF0.2.1⟩) | skip
      refine R.go 15 (R.call true (likeInts_c ((clS (clo xs_3) n_2.toNat).1) (by first | omega | (simp <;> omega))) (by kernel_rfl) rfl (by kernel_rfl) ?_)
      have hP : okFr n_2 xs_3 = true := by assumption
      have hF := okFr_rel hP
      have h0 : 0 ≤ n_2 ∧ n_2 ≤ 8 ∧ ((xs_3).length : Int) = n_2 := ⟨hF.1, hF.2.1, hF.2.2.1⟩
      have hcl := clS_len (clo xs_3) (n_2).toNat
      have hdl : (depI n_2 xs_3).length = (n_2).toNat := dpR_len _ _ _ _
      have hyl := clo_len xs_3
      have hrc : rootsC n_2 xs_3 = 0 := if_pos hP
      refine R.go 16 (R.call true (DWok_impl n_2 xs_3 hP).frz (by kernel_rfl) rfl (by kernel_rfl) ?_)
      refine R.go 9 (R.call true (RO_impl n_2 xs_3 (by first | omega | (simp <;> omega))) (by kernel_rfl) rfl (by kernel_rfl) ?_)
      refine R.go 11 (R.ar (0 + (rootsC n_2 xs_3)) (by kernel_rfl) (by omega) (by omega) (by kernel_rfl) ?_)
      refine R.go 2 ?_
      by_cases c6 : (0 + (rootsC n_2 xs_3)) = 0
      · refine R.want (!decide ((0 + (rootsC n_2 xs_3)) = 0)) false (by kernel_rfl) (nF c6) ?_
        refine R.go 1 (R.want (!decide ((0 + (rootsC n_2 xs_3)) = 0)) false (by kernel_rfl) (nF c6) ?_)
        refine R.go 1 (R.want (!decide ((0 + (rootsC n_2 xs_3)) = 0)) false (by kernel_rfl) (nF c6) ?_)
        refine R.go 1 (R.want (!decide ((0 + (rootsC n_2 xs_3)) = 0)) false (by kernel_rfl) (nF c6) ?_)
        refine R.go 1 (R.want (!decide ((0 + (rootsC n_2 xs_3)) = 0)) false (by kernel_rfl) (nF c6) ?_)
        refine R.go 1 (R.pick (!decide ((0 + (rootsC n_2 xs_3)) = 0)) false (by kernel_rfl) (nF c6) (by kernel_rfl) ?_)
        refine R.go 1 (R.condN (((depI n_2 xs_3).length : Int) = n_2) (by kernel_rfl) (fun c7 => ?_) (fun c7 => ?_))
        · exact R.go 4 (R.retE (.bool false) (by kernel_rfl) (by kernel_rfl) (by first | (first | rfl | exact absurd (hE.symm.trans (by assumption : _ = false)) (by decide) | exact absurd hz.2 (by assumption) | exact absurd (by assumption) hz.2 | exact absurd (hrt.symm.trans (by assumption : _ = false)) (by decide)) | (exfalso; omega)))
        · refine R.go 12 (R.loop ((fun | (i, X) => (⟨(frm 169 [(3, .ptr 0 0), (4, LI ((clS (clo xs_3) n_2.toNat).1)), (8, LI (depI n_2 xs_3)), (10, AI (rootsI n_2 xs_3)), (12, .ref 1), (13, AI (i : Int))]), [.box 26 [AI n_2, LI xs_3], rowA eI 2 1 X]⟩ : St) : Nat × (List Int) → St)) (fun | (i, X) => (i ≤ (n_2).toNat) ∧ (X.length = i) ∧ (X = (clo xs_3).take i)) (fun | (i, X) => (n_2).toNat - i) (0, []) [3, 4, 8, 10, 12, 13] none (by kernel_rfl) (by kernel_rfl) (by kernel_rfl) ⟨(by omega), (by rfl), (by rfl)⟩ ?_)
          rintro ⟨i, X⟩ ⟨h11_1, h11_2, h11_3⟩ R8 N9
          refine R.go 8 (R.cond ((i : Int) < n_2) (by kernel_rfl) (fun c12 => ?_) (fun c12 => ?_))
          · have hO : outR n_2 (shl64 1 (i : Int)) = false := out_one hP (by omega)
            have hrt := law_root hP (show i < (n_2).toNat by omega)
            refine R.go 7 (R.cv .u64 (i : Int) (by kernel_rfl) (u64_id (by omega) (by omega)) (by kernel_rfl) ?_)
            refine R.shl 1 (i : Int) (by kernel_rfl) (by omega) (by kernel_rfl) ?_
            refine R.call true (GW_impl n_2 xs_3 (shl64 1 (i : Int)) hP hO) (by kernel_rfl) rfl (by kernel_rfl) ?_
            refine R.go 19 (R.app eI X [gwI xs_3 (shl64 1 (i : Int))] 1 2 1 8 (by kernel_rfl) eI_one (by decide) (by first | omega | (simp <;> omega)) (by kernel_rfl) ?_)
            refine R.go 7 (R.call true (full9_c n_2 (by omega) (by omega)) (by kernel_rfl) rfl (by kernel_rfl) ?_)
            refine R.go 3 (R.call true (bit9_c (rootsI n_2 xs_3) (i : Int) (by omega) (by omega)) (by kernel_rfl) rfl (by kernel_rfl) ?_)
            refine R.go 2 (R.condM (((decide ((gwI xs_3 (shl64 1 (i : Int))) = ((shl64 1 n_2) - 1))) == (decide (band (shr64 (rootsI n_2 xs_3) (i : Int)) 1 = 1)))) (by kernel_rfl) (fun c13 => ?_) (fun c13 => ?_))
            · exact R.go 4 (R.retE (.bool false) (by kernel_rfl) (by kernel_rfl) (by first | (first | rfl | exact absurd (hE.symm.trans (by assumption : _ = false)) (by decide) | exact absurd hz.2 (by assumption) | exact absurd (by assumption) hz.2 | exact absurd (hrt.symm.trans (by assumption : _ = false)) (by decide)) | (exfalso; omega)))
            · refine R.go 4 (R.ar ((i : Int) + 1) (by kernel_rfl) (by omega) (by omega) (by kernel_rfl) ?_)
              exact R.go 2 (R.stop R8 (by kernel_rfl) (N9 (i + 1, X ++ [gwI xs_3 (shl64 1 (i : Int))]) [3, 4, 8, 10, 12, 13] (some [0, 1]) _ (by kernel_rfl) (by kernel_rfl) ⟨(by omega), (by (simp <;> omega)), (by exact law_gx hP (by omega) (by assumption))⟩ (by show ((n_2).toNat - (i + 1)) < ((n_2).toNat - i); omega)))
          · have hXe := law_ge hP (show i = (n_2).toNat by omega) ‹X = (clo xs_3).take i›
            refine R.go 7 (R.loop (fun (p : Nat) => (⟨(frm 169 [(3, .ptr 0 0), (4, LI ((clS (clo xs_3) n_2.toNat).1)), (8, LI (depI n_2 xs_3)), (12, .ref 1), (16, AI (p : Int))]), [.box 26 [AI n_2, LI xs_3], rowA eI 2 1 X]⟩ : St)) (fun (p : Nat) => p ≤ (n_2).toNat) (fun (p : Nat) => (n_2).toNat - p) 0 [3, 4, 8, 12, 16] none (by kernel_rfl) (by kernel_rfl) (by kernel_rfl) (by omega) ?_)
            rintro p h16_1 R14 N15
            refine R.go 8 (R.cond ((p : Int) < n_2) (by kernel_rfl) (fun c17 => ?_) (fun c17 => ?_))
            · refine R.go 8 (R.loop (fun (q : Nat) => (⟨(frm 169 [(3, .ptr 0 0), (4, LI ((clS (clo xs_3) n_2.toNat).1)), (8, LI (depI n_2 xs_3)), (12, .ref 1), (16, AI (p : Int)), (17, AI (q : Int))]), [.box 26 [AI n_2, LI xs_3], rowA eI 2 1 X]⟩ : St)) (fun (q : Nat) => q ≤ (n_2).toNat) (fun (q : Nat) => (n_2).toNat - q) 0 [3, 4, 8, 12, 16, 17] none (by kernel_rfl) (by kernel_rfl) (by kernel_rfl) (by omega) ?_)
              rintro q h20_1 R18 N19
              have hm1 := law_c1 hP hXe (i := p) (j := q)
              have hm2 := law_c2 hP hXe (i := p) (j := q)
              have hm3 := law_c3 hP hXe (i := p) (j := q)
              refine R.go 8 (R.cond ((q : Int) < n_2) (by kernel_rfl) (fun c21 => ?_) (fun c21 => ?_))
              · refine R.go 5 ?_
                by_cases c22 : band (shr64 (X.getD q 0) (p : Int)) 1 = 1
                · refine R.go 2 (R.idxO 1 1 X.length p (p : Int) (by kernel_rfl) rfl (by omega) (by kernel_rfl) ?_)
                  refine R.ldI X p (by kernel_rfl) (by omega) (by kernel_rfl) ?_
                  refine R.go 1 (R.call true (bit9_c (X.getD p 0) (q : Int) (by omega) (by omega)) (by kernel_rfl) rfl (by kernel_rfl) ?_)
                  refine R.go 1 ?_
                  by_cases c23 : band (shr64 (X.getD p 0) (q : Int)) 1 = 1
                  · refine R.want (decide (band (shr64 (X.getD p 0) (q : Int)) 1 = 1)) true (by kernel_rfl) (dT c23) ?_
                    refine R.go 1 (R.want (decide (band (shr64 (X.getD p 0) (q : Int)) 1 = 1)) true (by kernel_rfl) (dT c23) ?_)
                    refine R.go 1 (R.want (decide (band (shr64 (X.getD p 0) (q : Int)) 1 = 1)) true (by kernel_rfl) (dT c23) ?_)
                    refine R.idxO 1 1 X.length q (q : Int) (by kernel_rfl) rfl (by omega) (by kernel_rfl) ?_
                    refine R.want (decide (band (shr64 (X.getD p 0) (q : Int)) 1 = 1)) true (by kernel_rfl) (dT c23) ?_
                    refine R.ldI X q (by kernel_rfl) (by omega) (by kernel_rfl) ?_
                    refine R.want (decide (band (shr64 (X.getD p 0) (q : Int)) 1 = 1)) true (by kernel_rfl) (dT c23) ?_
                    refine R.go 1 (R.want (decide (band (shr64 (X.getD p 0) (q : Int)) 1 = 1)) true (by kernel_rfl) (dT c23) ?_)
                    refine R.call true (bit9_c (X.getD q 0) (p : Int) (by omega) (by omega)) (by kernel_rfl) rfl (by kernel_rfl) ?_
                    refine R.pick (decide (band (shr64 (X.getD p 0) (q : Int)) 1 = 1)) true (by kernel_rfl) (dT c23) (by kernel_rfl) ?_
                    first | (have hz := hm1 (by omega) (by omega) (by assumption) (by assumption); have hE : ((decide (band (shr64 (X.getD q 0) (p : Int)) 1 = 1)) == (decide ((clS (clo xs_3) (n_2).toNat).1.getD p 0 = (clS (clo xs_3) (n_2).toNat).1.getD q 0))) = true := by rw [decide_eq_true hz.1, decide_eq_true (by assumption)]; rfl) | (have hz := hm3 (by omega) (by omega) (by assumption) (by assumption); have hE : ((decide (band (shr64 (X.getD q 0) (p : Int)) 1 = 1)) == (decide ((clS (clo xs_3) (n_2).toNat).1.getD p 0 = (clS (clo xs_3) (n_2).toNat).1.getD q 0))) = true := by rw [decide_eq_false hz.1, decide_eq_false (by assumption)]; rfl) | (have hz := hm2 (by omega) (by omega) (by assumption); have hE : (false == (decide ((clS (clo xs_3) (n_2).toNat).1.getD p 0 = (clS (clo xs_3) (n_2).toNat).1.getD q 0))) = true := by rw [decide_eq_false hz]; rfl)
                    refine R.go 7 (R.idx eI ((clS (clo xs_3) n_2.toNat).1) 0 p (p : Int) (by kernel_rfl) rfl eI_len (by omega) (by kernel_rfl) ?_)
                    refine R.go 3 (R.idx eI ((clS (clo xs_3) n_2.toNat).1) 0 q (q : Int) (by kernel_rfl) rfl eI_len (by omega) (by kernel_rfl) ?_)
                    refine R.go 4 ?_
                    refine (Bool.eq_false_or_eq_true (((decide (band (shr64 (X.getD q 0) (p : Int)) 1 = 1)) == (decide ((((clS (clo xs_3) n_2.toNat).1).getD p 0) = (((clS (clo xs_3) n_2.toNat).1).getD q 0)))))).elim (fun c24 => ?_) (fun c24 => ?_)
                    · refine R.want (!((decide (band (shr64 (X.getD q 0) (p : Int)) 1 = 1)) == (decide ((((clS (clo xs_3) n_2.toNat).1).getD p 0) = (((clS (clo xs_3) n_2.toNat).1).getD q 0))))) false (by kernel_rfl) (bnF c24) ?_
                      refine R.go 1 (R.want (!((decide (band (shr64 (X.getD q 0) (p : Int)) 1 = 1)) == (decide ((((clS (clo xs_3) n_2.toNat).1).getD p 0) = (((clS (clo xs_3) n_2.toNat).1).getD q 0))))) false (by kernel_rfl) (bnF c24) ?_)
                      refine R.go 1 (R.want (!((decide (band (shr64 (X.getD q 0) (p : Int)) 1 = 1)) == (decide ((((clS (clo xs_3) n_2.toNat).1).getD p 0) = (((clS (clo xs_3) n_2.toNat).1).getD q 0))))) false (by kernel_rfl) (bnF c24) ?_)
                      refine R.idxO 1 1 X.length p (p : Int) (by kernel_rfl) rfl (by omega) (by kernel_rfl) ?_
                      refine R.want (!((decide (band (shr64 (X.getD q 0) (p : Int)) 1 = 1)) == (decide ((((clS (clo xs_3) n_2.toNat).1).getD p 0) = (((clS (clo xs_3) n_2.toNat).1).getD q 0))))) false (by kernel_rfl) (bnF c24) ?_
                      refine R.ldI X p (by kernel_rfl) (by omega) (by kernel_rfl) ?_
                      refine R.want (!((decide (band (shr64 (X.getD q 0) (p : Int)) 1 = 1)) == (decide ((((clS (clo xs_3) n_2.toNat).1).getD p 0) = (((clS (clo xs_3) n_2.toNat).1).getD q 0))))) false (by kernel_rfl) (bnF c24) ?_
                      refine R.go 1 (R.want (!((decide (band (shr64 (X.getD q 0) (p : Int)) 1 = 1)) == (decide ((((clS (clo xs_3) n_2.toNat).1).getD p 0) = (((clS (clo xs_3) n_2.toNat).1).getD q 0))))) false (by kernel_rfl) (bnF c24) ?_)
                      refine R.call true (bit9_c (X.getD p 0) (q : Int) (by omega) (by omega)) (by kernel_rfl) rfl (by kernel_rfl) ?_
                      refine R.want (!((decide (band (shr64 (X.getD q 0) (p : Int)) 1 = 1)) == (decide ((((clS (clo xs_3) n_2.toNat).1).getD p 0) = (((clS (clo xs_3) n_2.toNat).1).getD q 0))))) false (by kernel_rfl) (bnF c24) ?_
                      refine R.go 1 (R.want (decide (band (shr64 (X.getD p 0) (q : Int)) 1 = 1)) true (by kernel_rfl) (dT c23) ?_)
                      refine R.go 1 (R.want (decide (band (shr64 (X.getD p 0) (q : Int)) 1 = 1)) true (by kernel_rfl) (dT c23) ?_)
                      refine R.go 1 (R.want (!((decide (band (shr64 (X.getD q 0) (p : Int)) 1 = 1)) == (decide ((((clS (clo xs_3) n_2.toNat).1).getD p 0) = (((clS (clo xs_3) n_2.toNat).1).getD q 0))))) false (by kernel_rfl) (bnF c24) ?_)
                      refine R.pick (decide (band (shr64 (X.getD p 0) (q : Int)) 1 = 1)) true (by kernel_rfl) (dT c23) (by kernel_rfl) ?_
                      refine R.want (!((decide (band (shr64 (X.getD q 0) (p : Int)) 1 = 1)) == (decide ((((clS (clo xs_3) n_2.toNat).1).getD p 0) = (((clS (clo xs_3) n_2.toNat).1).getD q 0))))) false (by kernel_rfl) (bnF c24) ?_
                      refine R.go 1 (R.skp (!decide (band (shr64 (X.getD q 0) (p : Int)) 1 = 1)) true (by kernel_rfl) (nF c22) (by kernel_rfl) ?_)
                      refine R.skp (!decide (band (shr64 (X.getD q 0) (p : Int)) 1 = 1)) true (by kernel_rfl) (nF c22) (by kernel_rfl) ?_
                      refine R.skp (!decide (band (shr64 (X.getD q 0) (p : Int)) 1 = 1)) true (by kernel_rfl) (nF c22) (by kernel_rfl) ?_
                      refine R.skp (!decide (band (shr64 (X.getD q 0) (p : Int)) 1 = 1)) true (by kernel_rfl) (nF c22) (by kernel_rfl) ?_
                      refine R.skp (!decide (band (shr64 (X.getD q 0) (p : Int)) 1 = 1)) true (by kernel_rfl) (nF c22) (by kernel_rfl) ?_
                      refine R.skp (!decide (band (shr64 (X.getD q 0) (p : Int)) 1 = 1)) true (by kernel_rfl) (nF c22) (by kernel_rfl) ?_
                      refine R.skp (!decide (band (shr64 (X.getD q 0) (p : Int)) 1 = 1)) true (by kernel_rfl) (nF c22) (by kernel_rfl) ?_
                      refine R.skp (!decide (band (shr64 (X.getD q 0) (p : Int)) 1 = 1)) true (by kernel_rfl) (nF c22) (by kernel_rfl) ?_
                      refine R.skp (!decide (band (shr64 (X.getD q 0) (p : Int)) 1 = 1)) true (by kernel_rfl) (nF c22) (by kernel_rfl) ?_
                      refine R.want (!((decide (band (shr64 (X.getD q 0) (p : Int)) 1 = 1)) == (decide ((((clS (clo xs_3) n_2.toNat).1).getD p 0) = (((clS (clo xs_3) n_2.toNat).1).getD q 0))))) false (by kernel_rfl) (bnF c24) ?_
                      refine R.pick (!decide (band (shr64 (X.getD q 0) (p : Int)) 1 = 1)) false (by kernel_rfl) (nF c22) (by kernel_rfl) ?_
                      refine R.pick (!((decide (band (shr64 (X.getD q 0) (p : Int)) 1 = 1)) == (decide ((((clS (clo xs_3) n_2.toNat).1).getD p 0) = (((clS (clo xs_3) n_2.toNat).1).getD q 0))))) false (by kernel_rfl) (bnF c24) (by kernel_rfl) ?_
                      refine R.go 3 (R.want (decide (band (shr64 (X.getD q 0) (p : Int)) 1 = 1)) true (by kernel_rfl) (dT c22) ?_)
                      refine R.go 1 (R.want (decide (band (shr64 (X.getD q 0) (p : Int)) 1 = 1)) true (by kernel_rfl) (dT c22) ?_)
                      refine R.go 1 (R.want (decide (band (shr64 (X.getD q 0) (p : Int)) 1 = 1)) true (by kernel_rfl) (dT c22) ?_)
                      refine R.idx eI (depI n_2 xs_3) 0 p (p : Int) (by kernel_rfl) rfl eI_len (by omega) (by kernel_rfl) ?_
                      refine R.want (decide (band (shr64 (X.getD q 0) (p : Int)) 1 = 1)) true (by kernel_rfl) (dT c22) ?_
                      refine R.go 1 (R.want (decide (band (shr64 (X.getD q 0) (p : Int)) 1 = 1)) true (by kernel_rfl) (dT c22) ?_)
                      refine R.go 1 (R.want (decide (band (shr64 (X.getD q 0) (p : Int)) 1 = 1)) true (by kernel_rfl) (dT c22) ?_)
                      refine R.go 1 (R.want (decide (band (shr64 (X.getD q 0) (p : Int)) 1 = 1)) true (by kernel_rfl) (dT c22) ?_)
                      refine R.idx eI (depI n_2 xs_3) 0 q (q : Int) (by kernel_rfl) rfl eI_len (by omega) (by kernel_rfl) ?_
                      refine R.want (decide (band (shr64 (X.getD q 0) (p : Int)) 1 = 1)) true (by kernel_rfl) (dT c22) ?_
                      refine R.go 1 (R.want (decide (band (shr64 (X.getD q 0) (p : Int)) 1 = 1)) true (by kernel_rfl) (dT c22) ?_)
                      refine R.go 1 (R.pick (decide (band (shr64 (X.getD q 0) (p : Int)) 1 = 1)) true (by kernel_rfl) (dT c22) (by kernel_rfl) ?_)
                      refine R.go 2 (R.condN (((depI n_2 xs_3).getD p 0) = ((depI n_2 xs_3).getD q 0)) (by kernel_rfl) (fun c25 => ?_) (fun c25 => ?_))
                      · exact R.go 4 (R.retE (.bool false) (by kernel_rfl) (by kernel_rfl) (by first | (first | rfl | exact absurd (hE.symm.trans (by assumption : _ = false)) (by decide) | exact absurd hz.2 (by assumption) | exact absurd (by assumption) hz.2 | exact absurd (hrt.symm.trans (by assumption : _ = false)) (by decide)) | (exfalso; omega)))
                      · refine R.go 4 (R.ar ((q : Int) + 1) (by kernel_rfl) (by omega) (by omega) (by kernel_rfl) ?_)
                        exact R.go 2 (R.stop R18 (by kernel_rfl) (N19 (q + 1) [3, 4, 8, 12, 16, 17] none _ (by kernel_rfl) (by kernel_rfl) (by omega) (by show ((n_2).toNat - (q + 1)) < ((n_2).toNat - q); omega)))
                    · refine R.skp (!((decide (band (shr64 (X.getD q 0) (p : Int)) 1 = 1)) == (decide ((((clS (clo xs_3) n_2.toNat).1).getD p 0) = (((clS (clo xs_3) n_2.toNat).1).getD q 0))))) false (by kernel_rfl) (bnT c24) (by kernel_rfl) ?_
                      refine R.skp (!((decide (band (shr64 (X.getD q 0) (p : Int)) 1 = 1)) == (decide ((((clS (clo xs_3) n_2.toNat).1).getD p 0) = (((clS (clo xs_3) n_2.toNat).1).getD q 0))))) false (by kernel_rfl) (bnT c24) (by kernel_rfl) ?_
                      refine R.skp (!((decide (band (shr64 (X.getD q 0) (p : Int)) 1 = 1)) == (decide ((((clS (clo xs_3) n_2.toNat).1).getD p 0) = (((clS (clo xs_3) n_2.toNat).1).getD q 0))))) false (by kernel_rfl) (bnT c24) (by kernel_rfl) ?_
                      refine R.skp (!((decide (band (shr64 (X.getD q 0) (p : Int)) 1 = 1)) == (decide ((((clS (clo xs_3) n_2.toNat).1).getD p 0) = (((clS (clo xs_3) n_2.toNat).1).getD q 0))))) false (by kernel_rfl) (bnT c24) (by kernel_rfl) ?_
                      refine R.skp (!((decide (band (shr64 (X.getD q 0) (p : Int)) 1 = 1)) == (decide ((((clS (clo xs_3) n_2.toNat).1).getD p 0) = (((clS (clo xs_3) n_2.toNat).1).getD q 0))))) false (by kernel_rfl) (bnT c24) (by kernel_rfl) ?_
                      refine R.skp (!((decide (band (shr64 (X.getD q 0) (p : Int)) 1 = 1)) == (decide ((((clS (clo xs_3) n_2.toNat).1).getD p 0) = (((clS (clo xs_3) n_2.toNat).1).getD q 0))))) false (by kernel_rfl) (bnT c24) (by kernel_rfl) ?_
                      refine R.skp (!((decide (band (shr64 (X.getD q 0) (p : Int)) 1 = 1)) == (decide ((((clS (clo xs_3) n_2.toNat).1).getD p 0) = (((clS (clo xs_3) n_2.toNat).1).getD q 0))))) false (by kernel_rfl) (bnT c24) (by kernel_rfl) ?_
                      refine R.go 2 (R.skp (!((decide (band (shr64 (X.getD q 0) (p : Int)) 1 = 1)) == (decide ((((clS (clo xs_3) n_2.toNat).1).getD p 0) = (((clS (clo xs_3) n_2.toNat).1).getD q 0))))) false (by kernel_rfl) (bnT c24) (by kernel_rfl) ?_)
                      refine R.skp (!((decide (band (shr64 (X.getD q 0) (p : Int)) 1 = 1)) == (decide ((((clS (clo xs_3) n_2.toNat).1).getD p 0) = (((clS (clo xs_3) n_2.toNat).1).getD q 0))))) false (by kernel_rfl) (bnT c24) (by kernel_rfl) ?_
                      refine R.go 9 (R.skp (!((decide (band (shr64 (X.getD q 0) (p : Int)) 1 = 1)) == (decide ((((clS (clo xs_3) n_2.toNat).1).getD p 0) = (((clS (clo xs_3) n_2.toNat).1).getD q 0))))) false (by kernel_rfl) (bnT c24) (by kernel_rfl) ?_)
                      refine R.pick (!((decide (band (shr64 (X.getD q 0) (p : Int)) 1 = 1)) == (decide ((((clS (clo xs_3) n_2.toNat).1).getD p 0) = (((clS (clo xs_3) n_2.toNat).1).getD q 0))))) true (by kernel_rfl) (bnT c24) (by kernel_rfl) ?_
                      exact R.go 20 (R.retE (.bool false) (by kernel_rfl) (by kernel_rfl) (by first | (first | rfl | exact absurd (hE.symm.trans (by assumption : _ = false)) (by decide) | exact absurd hz.2 (by assumption) | exact absurd (by assumption) hz.2 | exact absurd (hrt.symm.trans (by assumption : _ = false)) (by decide)) | (exfalso; omega)))
                  · refine R.skp (decide (band (shr64 (X.getD p 0) (q : Int)) 1 = 1)) true (by kernel_rfl) (dF c23) (by kernel_rfl) ?_
                    refine R.skp (decide (band (shr64 (X.getD p 0) (q : Int)) 1 = 1)) true (by kernel_rfl) (dF c23) (by kernel_rfl) ?_
                    refine R.skp (decide (band (shr64 (X.getD p 0) (q : Int)) 1 = 1)) true (by kernel_rfl) (dF c23) (by kernel_rfl) ?_
                    refine R.skp (decide (band (shr64 (X.getD p 0) (q : Int)) 1 = 1)) true (by kernel_rfl) (dF c23) (by kernel_rfl) ?_
                    refine R.skp (decide (band (shr64 (X.getD p 0) (q : Int)) 1 = 1)) true (by kernel_rfl) (dF c23) (by kernel_rfl) ?_
                    refine R.skp (decide (band (shr64 (X.getD p 0) (q : Int)) 1 = 1)) true (by kernel_rfl) (dF c23) (by kernel_rfl) ?_
                    refine R.pick (decide (band (shr64 (X.getD p 0) (q : Int)) 1 = 1)) false (by kernel_rfl) (dF c23) (by kernel_rfl) ?_
                    first | (have hz := hm1 (by omega) (by omega) (by assumption) (by assumption); have hE : ((decide (band (shr64 (X.getD q 0) (p : Int)) 1 = 1)) == (decide ((clS (clo xs_3) (n_2).toNat).1.getD p 0 = (clS (clo xs_3) (n_2).toNat).1.getD q 0))) = true := by rw [decide_eq_true hz.1, decide_eq_true (by assumption)]; rfl) | (have hz := hm3 (by omega) (by omega) (by assumption) (by assumption); have hE : ((decide (band (shr64 (X.getD q 0) (p : Int)) 1 = 1)) == (decide ((clS (clo xs_3) (n_2).toNat).1.getD p 0 = (clS (clo xs_3) (n_2).toNat).1.getD q 0))) = true := by rw [decide_eq_false hz.1, decide_eq_false (by assumption)]; rfl) | (have hz := hm2 (by omega) (by omega) (by assumption); have hE : (false == (decide ((clS (clo xs_3) (n_2).toNat).1.getD p 0 = (clS (clo xs_3) (n_2).toNat).1.getD q 0))) = true := by rw [decide_eq_false hz]; rfl)
                    refine R.go 7 (R.idx eI ((clS (clo xs_3) n_2.toNat).1) 0 p (p : Int) (by kernel_rfl) rfl eI_len (by omega) (by kernel_rfl) ?_)
                    refine R.go 3 (R.idx eI ((clS (clo xs_3) n_2.toNat).1) 0 q (q : Int) (by kernel_rfl) rfl eI_len (by omega) (by kernel_rfl) ?_)
                    refine R.go 4 ?_
                    refine (Bool.eq_false_or_eq_true ((false == (decide ((((clS (clo xs_3) n_2.toNat).1).getD p 0) = (((clS (clo xs_3) n_2.toNat).1).getD q 0)))))).elim (fun c26 => ?_) (fun c26 => ?_)
                    · refine R.want (!(false == (decide ((((clS (clo xs_3) n_2.toNat).1).getD p 0) = (((clS (clo xs_3) n_2.toNat).1).getD q 0))))) false (by kernel_rfl) (bnF c26) ?_
                      refine R.go 1 (R.want (!(false == (decide ((((clS (clo xs_3) n_2.toNat).1).getD p 0) = (((clS (clo xs_3) n_2.toNat).1).getD q 0))))) false (by kernel_rfl) (bnF c26) ?_)
                      refine R.go 1 (R.want (!(false == (decide ((((clS (clo xs_3) n_2.toNat).1).getD p 0) = (((clS (clo xs_3) n_2.toNat).1).getD q 0))))) false (by kernel_rfl) (bnF c26) ?_)
                      refine R.idxO 1 1 X.length p (p : Int) (by kernel_rfl) rfl (by omega) (by kernel_rfl) ?_
                      refine R.want (!(false == (decide ((((clS (clo xs_3) n_2.toNat).1).getD p 0) = (((clS (clo xs_3) n_2.toNat).1).getD q 0))))) false (by kernel_rfl) (bnF c26) ?_
                      refine R.ldI X p (by kernel_rfl) (by omega) (by kernel_rfl) ?_
                      refine R.want (!(false == (decide ((((clS (clo xs_3) n_2.toNat).1).getD p 0) = (((clS (clo xs_3) n_2.toNat).1).getD q 0))))) false (by kernel_rfl) (bnF c26) ?_
                      refine R.go 1 (R.want (!(false == (decide ((((clS (clo xs_3) n_2.toNat).1).getD p 0) = (((clS (clo xs_3) n_2.toNat).1).getD q 0))))) false (by kernel_rfl) (bnF c26) ?_)
                      refine R.call true (bit9_c (X.getD p 0) (q : Int) (by omega) (by omega)) (by kernel_rfl) rfl (by kernel_rfl) ?_
                      refine R.want (!(false == (decide ((((clS (clo xs_3) n_2.toNat).1).getD p 0) = (((clS (clo xs_3) n_2.toNat).1).getD q 0))))) false (by kernel_rfl) (bnF c26) ?_
                      refine R.go 1 (R.skp (decide (band (shr64 (X.getD p 0) (q : Int)) 1 = 1)) true (by kernel_rfl) (dF c23) (by kernel_rfl) ?_)
                      refine R.skp (decide (band (shr64 (X.getD p 0) (q : Int)) 1 = 1)) true (by kernel_rfl) (dF c23) (by kernel_rfl) ?_
                      refine R.want (!(false == (decide ((((clS (clo xs_3) n_2.toNat).1).getD p 0) = (((clS (clo xs_3) n_2.toNat).1).getD q 0))))) false (by kernel_rfl) (bnF c26) ?_
                      refine R.pick (decide (band (shr64 (X.getD p 0) (q : Int)) 1 = 1)) false (by kernel_rfl) (dF c23) (by kernel_rfl) ?_
                      refine R.want (!(false == (decide ((((clS (clo xs_3) n_2.toNat).1).getD p 0) = (((clS (clo xs_3) n_2.toNat).1).getD q 0))))) false (by kernel_rfl) (bnF c26) ?_
                      refine R.go 10 (R.want (!(false == (decide ((((clS (clo xs_3) n_2.toNat).1).getD p 0) = (((clS (clo xs_3) n_2.toNat).1).getD q 0))))) false (by kernel_rfl) (bnF c26) ?_)
                      refine R.go 1 (R.pick (!(false == (decide ((((clS (clo xs_3) n_2.toNat).1).getD p 0) = (((clS (clo xs_3) n_2.toNat).1).getD q 0))))) false (by kernel_rfl) (bnF c26) (by kernel_rfl) ?_)
                      refine R.go 20 (R.ar ((q : Int) + 1) (by kernel_rfl) (by omega) (by omega) (by kernel_rfl) ?_)
                      exact R.go 2 (R.stop R18 (by kernel_rfl) (N19 (q + 1) [3, 4, 8, 12, 16, 17] none _ (by kernel_rfl) (by kernel_rfl) (by omega) (by show ((n_2).toNat - (q + 1)) < ((n_2).toNat - q); omega)))
                    · refine R.skp (!(false == (decide ((((clS (clo xs_3) n_2.toNat).1).getD p 0) = (((clS (clo xs_3) n_2.toNat).1).getD q 0))))) false (by kernel_rfl) (bnT c26) (by kernel_rfl) ?_
                      refine R.skp (!(false == (decide ((((clS (clo xs_3) n_2.toNat).1).getD p 0) = (((clS (clo xs_3) n_2.toNat).1).getD q 0))))) false (by kernel_rfl) (bnT c26) (by kernel_rfl) ?_
                      refine R.skp (!(false == (decide ((((clS (clo xs_3) n_2.toNat).1).getD p 0) = (((clS (clo xs_3) n_2.toNat).1).getD q 0))))) false (by kernel_rfl) (bnT c26) (by kernel_rfl) ?_
                      refine R.skp (!(false == (decide ((((clS (clo xs_3) n_2.toNat).1).getD p 0) = (((clS (clo xs_3) n_2.toNat).1).getD q 0))))) false (by kernel_rfl) (bnT c26) (by kernel_rfl) ?_
                      refine R.skp (!(false == (decide ((((clS (clo xs_3) n_2.toNat).1).getD p 0) = (((clS (clo xs_3) n_2.toNat).1).getD q 0))))) false (by kernel_rfl) (bnT c26) (by kernel_rfl) ?_
                      refine R.skp (!(false == (decide ((((clS (clo xs_3) n_2.toNat).1).getD p 0) = (((clS (clo xs_3) n_2.toNat).1).getD q 0))))) false (by kernel_rfl) (bnT c26) (by kernel_rfl) ?_
                      refine R.skp (!(false == (decide ((((clS (clo xs_3) n_2.toNat).1).getD p 0) = (((clS (clo xs_3) n_2.toNat).1).getD q 0))))) false (by kernel_rfl) (bnT c26) (by kernel_rfl) ?_
                      refine R.go 2 (R.skp (!(false == (decide ((((clS (clo xs_3) n_2.toNat).1).getD p 0) = (((clS (clo xs_3) n_2.toNat).1).getD q 0))))) false (by kernel_rfl) (bnT c26) (by kernel_rfl) ?_)
                      refine R.skp (!(false == (decide ((((clS (clo xs_3) n_2.toNat).1).getD p 0) = (((clS (clo xs_3) n_2.toNat).1).getD q 0))))) false (by kernel_rfl) (bnT c26) (by kernel_rfl) ?_
                      refine R.go 9 (R.skp (!(false == (decide ((((clS (clo xs_3) n_2.toNat).1).getD p 0) = (((clS (clo xs_3) n_2.toNat).1).getD q 0))))) false (by kernel_rfl) (bnT c26) (by kernel_rfl) ?_)
                      refine R.pick (!(false == (decide ((((clS (clo xs_3) n_2.toNat).1).getD p 0) = (((clS (clo xs_3) n_2.toNat).1).getD q 0))))) true (by kernel_rfl) (bnT c26) (by kernel_rfl) ?_
                      exact R.go 20 (R.retE (.bool false) (by kernel_rfl) (by kernel_rfl) (by first | (first | rfl | exact absurd (hE.symm.trans (by assumption : _ = false)) (by decide) | exact absurd hz.2 (by assumption) | exact absurd (by assumption) hz.2 | exact absurd (hrt.symm.trans (by assumption : _ = false)) (by decide)) | (exfalso; omega)))
                · refine R.go 2 (R.idxO 1 1 X.length p (p : Int) (by kernel_rfl) rfl (by omega) (by kernel_rfl) ?_)
                  refine R.ldI X p (by kernel_rfl) (by omega) (by kernel_rfl) ?_
                  refine R.go 1 (R.call true (bit9_c (X.getD p 0) (q : Int) (by omega) (by omega)) (by kernel_rfl) rfl (by kernel_rfl) ?_)
                  refine R.go 1 ?_
                  by_cases c27 : band (shr64 (X.getD p 0) (q : Int)) 1 = 1
                  · refine R.want (decide (band (shr64 (X.getD p 0) (q : Int)) 1 = 1)) true (by kernel_rfl) (dT c27) ?_
                    refine R.go 1 (R.want (decide (band (shr64 (X.getD p 0) (q : Int)) 1 = 1)) true (by kernel_rfl) (dT c27) ?_)
                    refine R.go 1 (R.want (decide (band (shr64 (X.getD p 0) (q : Int)) 1 = 1)) true (by kernel_rfl) (dT c27) ?_)
                    refine R.idxO 1 1 X.length q (q : Int) (by kernel_rfl) rfl (by omega) (by kernel_rfl) ?_
                    refine R.want (decide (band (shr64 (X.getD p 0) (q : Int)) 1 = 1)) true (by kernel_rfl) (dT c27) ?_
                    refine R.ldI X q (by kernel_rfl) (by omega) (by kernel_rfl) ?_
                    refine R.want (decide (band (shr64 (X.getD p 0) (q : Int)) 1 = 1)) true (by kernel_rfl) (dT c27) ?_
                    refine R.go 1 (R.want (decide (band (shr64 (X.getD p 0) (q : Int)) 1 = 1)) true (by kernel_rfl) (dT c27) ?_)
                    refine R.call true (bit9_c (X.getD q 0) (p : Int) (by omega) (by omega)) (by kernel_rfl) rfl (by kernel_rfl) ?_
                    refine R.pick (decide (band (shr64 (X.getD p 0) (q : Int)) 1 = 1)) true (by kernel_rfl) (dT c27) (by kernel_rfl) ?_
                    first | (have hz := hm1 (by omega) (by omega) (by assumption) (by assumption); have hE : ((decide (band (shr64 (X.getD q 0) (p : Int)) 1 = 1)) == (decide ((clS (clo xs_3) (n_2).toNat).1.getD p 0 = (clS (clo xs_3) (n_2).toNat).1.getD q 0))) = true := by rw [decide_eq_true hz.1, decide_eq_true (by assumption)]; rfl) | (have hz := hm3 (by omega) (by omega) (by assumption) (by assumption); have hE : ((decide (band (shr64 (X.getD q 0) (p : Int)) 1 = 1)) == (decide ((clS (clo xs_3) (n_2).toNat).1.getD p 0 = (clS (clo xs_3) (n_2).toNat).1.getD q 0))) = true := by rw [decide_eq_false hz.1, decide_eq_false (by assumption)]; rfl) | (have hz := hm2 (by omega) (by omega) (by assumption); have hE : (false == (decide ((clS (clo xs_3) (n_2).toNat).1.getD p 0 = (clS (clo xs_3) (n_2).toNat).1.getD q 0))) = true := by rw [decide_eq_false hz]; rfl)
                    refine R.go 7 (R.idx eI ((clS (clo xs_3) n_2.toNat).1) 0 p (p : Int) (by kernel_rfl) rfl eI_len (by omega) (by kernel_rfl) ?_)
                    refine R.go 3 (R.idx eI ((clS (clo xs_3) n_2.toNat).1) 0 q (q : Int) (by kernel_rfl) rfl eI_len (by omega) (by kernel_rfl) ?_)
                    refine R.go 4 ?_
                    refine (Bool.eq_false_or_eq_true (((decide (band (shr64 (X.getD q 0) (p : Int)) 1 = 1)) == (decide ((((clS (clo xs_3) n_2.toNat).1).getD p 0) = (((clS (clo xs_3) n_2.toNat).1).getD q 0)))))).elim (fun c28 => ?_) (fun c28 => ?_)
                    · refine R.want (!((decide (band (shr64 (X.getD q 0) (p : Int)) 1 = 1)) == (decide ((((clS (clo xs_3) n_2.toNat).1).getD p 0) = (((clS (clo xs_3) n_2.toNat).1).getD q 0))))) false (by kernel_rfl) (bnF c28) ?_
                      refine R.go 1 (R.want (!((decide (band (shr64 (X.getD q 0) (p : Int)) 1 = 1)) == (decide ((((clS (clo xs_3) n_2.toNat).1).getD p 0) = (((clS (clo xs_3) n_2.toNat).1).getD q 0))))) false (by kernel_rfl) (bnF c28) ?_)
                      refine R.go 1 (R.want (!((decide (band (shr64 (X.getD q 0) (p : Int)) 1 = 1)) == (decide ((((clS (clo xs_3) n_2.toNat).1).getD p 0) = (((clS (clo xs_3) n_2.toNat).1).getD q 0))))) false (by kernel_rfl) (bnF c28) ?_)
                      refine R.idxO 1 1 X.length p (p : Int) (by kernel_rfl) rfl (by omega) (by kernel_rfl) ?_
                      refine R.want (!((decide (band (shr64 (X.getD q 0) (p : Int)) 1 = 1)) == (decide ((((clS (clo xs_3) n_2.toNat).1).getD p 0) = (((clS (clo xs_3) n_2.toNat).1).getD q 0))))) false (by kernel_rfl) (bnF c28) ?_
                      refine R.ldI X p (by kernel_rfl) (by omega) (by kernel_rfl) ?_
                      refine R.want (!((decide (band (shr64 (X.getD q 0) (p : Int)) 1 = 1)) == (decide ((((clS (clo xs_3) n_2.toNat).1).getD p 0) = (((clS (clo xs_3) n_2.toNat).1).getD q 0))))) false (by kernel_rfl) (bnF c28) ?_
                      refine R.go 1 (R.want (!((decide (band (shr64 (X.getD q 0) (p : Int)) 1 = 1)) == (decide ((((clS (clo xs_3) n_2.toNat).1).getD p 0) = (((clS (clo xs_3) n_2.toNat).1).getD q 0))))) false (by kernel_rfl) (bnF c28) ?_)
                      refine R.call true (bit9_c (X.getD p 0) (q : Int) (by omega) (by omega)) (by kernel_rfl) rfl (by kernel_rfl) ?_
                      refine R.want (!((decide (band (shr64 (X.getD q 0) (p : Int)) 1 = 1)) == (decide ((((clS (clo xs_3) n_2.toNat).1).getD p 0) = (((clS (clo xs_3) n_2.toNat).1).getD q 0))))) false (by kernel_rfl) (bnF c28) ?_
                      refine R.go 1 (R.want (decide (band (shr64 (X.getD p 0) (q : Int)) 1 = 1)) true (by kernel_rfl) (dT c27) ?_)
                      refine R.go 1 (R.want (decide (band (shr64 (X.getD p 0) (q : Int)) 1 = 1)) true (by kernel_rfl) (dT c27) ?_)
                      refine R.go 1 (R.want (!((decide (band (shr64 (X.getD q 0) (p : Int)) 1 = 1)) == (decide ((((clS (clo xs_3) n_2.toNat).1).getD p 0) = (((clS (clo xs_3) n_2.toNat).1).getD q 0))))) false (by kernel_rfl) (bnF c28) ?_)
                      refine R.pick (decide (band (shr64 (X.getD p 0) (q : Int)) 1 = 1)) true (by kernel_rfl) (dT c27) (by kernel_rfl) ?_
                      refine R.want (!((decide (band (shr64 (X.getD q 0) (p : Int)) 1 = 1)) == (decide ((((clS (clo xs_3) n_2.toNat).1).getD p 0) = (((clS (clo xs_3) n_2.toNat).1).getD q 0))))) false (by kernel_rfl) (bnF c28) ?_
                      refine R.go 1 (R.want (!decide (band (shr64 (X.getD q 0) (p : Int)) 1 = 1)) true (by kernel_rfl) (nT c22) ?_)
                      refine R.go 1 (R.want (!decide (band (shr64 (X.getD q 0) (p : Int)) 1 = 1)) true (by kernel_rfl) (nT c22) ?_)
                      refine R.go 1 (R.want (!decide (band (shr64 (X.getD q 0) (p : Int)) 1 = 1)) true (by kernel_rfl) (nT c22) ?_)
                      refine R.idx eI (depI n_2 xs_3) 0 p (p : Int) (by kernel_rfl) rfl eI_len (by omega) (by kernel_rfl) ?_
                      refine R.want (!decide (band (shr64 (X.getD q 0) (p : Int)) 1 = 1)) true (by kernel_rfl) (nT c22) ?_
                      refine R.go 1 (R.want (!decide (band (shr64 (X.getD q 0) (p : Int)) 1 = 1)) true (by kernel_rfl) (nT c22) ?_)
                      refine R.go 1 (R.want (!decide (band (shr64 (X.getD q 0) (p : Int)) 1 = 1)) true (by kernel_rfl) (nT c22) ?_)
                      refine R.go 1 (R.want (!decide (band (shr64 (X.getD q 0) (p : Int)) 1 = 1)) true (by kernel_rfl) (nT c22) ?_)
                      refine R.idx eI (depI n_2 xs_3) 0 q (q : Int) (by kernel_rfl) rfl eI_len (by omega) (by kernel_rfl) ?_
                      refine R.want (!decide (band (shr64 (X.getD q 0) (p : Int)) 1 = 1)) true (by kernel_rfl) (nT c22) ?_
                      refine R.go 1 (R.want (!decide (band (shr64 (X.getD q 0) (p : Int)) 1 = 1)) true (by kernel_rfl) (nT c22) ?_)
                      refine R.go 1 (R.want (!((decide (band (shr64 (X.getD q 0) (p : Int)) 1 = 1)) == (decide ((((clS (clo xs_3) n_2.toNat).1).getD p 0) = (((clS (clo xs_3) n_2.toNat).1).getD q 0))))) false (by kernel_rfl) (bnF c28) ?_)
                      refine R.pick (!decide (band (shr64 (X.getD q 0) (p : Int)) 1 = 1)) true (by kernel_rfl) (nT c22) (by kernel_rfl) ?_
                      refine R.pick (!((decide (band (shr64 (X.getD q 0) (p : Int)) 1 = 1)) == (decide ((((clS (clo xs_3) n_2.toNat).1).getD p 0) = (((clS (clo xs_3) n_2.toNat).1).getD q 0))))) false (by kernel_rfl) (bnF c28) (by kernel_rfl) ?_
                      refine R.go 1 ?_
                      by_cases c29 : ((depI n_2 xs_3).getD p 0) ≤ ((depI n_2 xs_3).getD q 0)
                      · refine R.skp (decide (((depI n_2 xs_3).getD p 0) ≤ ((depI n_2 xs_3).getD q 0))) false (by kernel_rfl) (dT c29) (by kernel_rfl) ?_
                        refine R.skp (decide (((depI n_2 xs_3).getD p 0) ≤ ((depI n_2 xs_3).getD q 0))) false (by kernel_rfl) (dT c29) (by kernel_rfl) ?_
                        refine R.go 9 (R.skp (decide (((depI n_2 xs_3).getD p 0) ≤ ((depI n_2 xs_3).getD q 0))) false (by kernel_rfl) (dT c29) (by kernel_rfl) ?_)
                        refine R.pick (decide (((depI n_2 xs_3).getD p 0) ≤ ((depI n_2 xs_3).getD q 0))) true (by kernel_rfl) (dT c29) (by kernel_rfl) ?_
                        exact R.go 6 (R.retE (.bool false) (by kernel_rfl) (by kernel_rfl) (by first | (first | rfl | exact absurd (hE.symm.trans (by assumption : _ = false)) (by decide) | exact absurd hz.2 (by assumption) | exact absurd (by assumption) hz.2 | exact absurd (hrt.symm.trans (by assumption : _ = false)) (by decide)) | (exfalso; omega)))
                      · refine R.want (decide (((depI n_2 xs_3).getD p 0) ≤ ((depI n_2 xs_3).getD q 0))) false (by kernel_rfl) (dF c29) ?_
                        refine R.go 1 (R.want (decide (((depI n_2 xs_3).getD p 0) ≤ ((depI n_2 xs_3).getD q 0))) false (by kernel_rfl) (dF c29) ?_)
                        refine R.go 1 (R.skp (decide (band (shr64 (X.getD q 0) (p : Int)) 1 = 1)) true (by kernel_rfl) (dF c22) (by kernel_rfl) ?_)
                        refine R.skp (decide (band (shr64 (X.getD q 0) (p : Int)) 1 = 1)) true (by kernel_rfl) (dF c22) (by kernel_rfl) ?_
                        refine R.skp (decide (band (shr64 (X.getD q 0) (p : Int)) 1 = 1)) true (by kernel_rfl) (dF c22) (by kernel_rfl) ?_
                        refine R.skp (decide (band (shr64 (X.getD q 0) (p : Int)) 1 = 1)) true (by kernel_rfl) (dF c22) (by kernel_rfl) ?_
                        refine R.skp (decide (band (shr64 (X.getD q 0) (p : Int)) 1 = 1)) true (by kernel_rfl) (dF c22) (by kernel_rfl) ?_
                        refine R.skp (decide (band (shr64 (X.getD q 0) (p : Int)) 1 = 1)) true (by kernel_rfl) (dF c22) (by kernel_rfl) ?_
                        refine R.skp (decide (band (shr64 (X.getD q 0) (p : Int)) 1 = 1)) true (by kernel_rfl) (dF c22) (by kernel_rfl) ?_
                        refine R.skp (decide (band (shr64 (X.getD q 0) (p : Int)) 1 = 1)) true (by kernel_rfl) (dF c22) (by kernel_rfl) ?_
                        refine R.skp (decide (band (shr64 (X.getD q 0) (p : Int)) 1 = 1)) true (by kernel_rfl) (dF c22) (by kernel_rfl) ?_
                        refine R.want (decide (((depI n_2 xs_3).getD p 0) ≤ ((depI n_2 xs_3).getD q 0))) false (by kernel_rfl) (dF c29) ?_
                        refine R.pick (decide (band (shr64 (X.getD q 0) (p : Int)) 1 = 1)) false (by kernel_rfl) (dF c22) (by kernel_rfl) ?_
                        refine R.pick (decide (((depI n_2 xs_3).getD p 0) ≤ ((depI n_2 xs_3).getD q 0))) false (by kernel_rfl) (dF c29) (by kernel_rfl) ?_
                        refine R.go 6 (R.ar ((q : Int) + 1) (by kernel_rfl) (by omega) (by omega) (by kernel_rfl) ?_)
                        exact R.go 2 (R.stop R18 (by kernel_rfl) (N19 (q + 1) [3, 4, 8, 12, 16, 17] none _ (by kernel_rfl) (by kernel_rfl) (by omega) (by show ((n_2).toNat - (q + 1)) < ((n_2).toNat - q); omega)))
                    · refine R.skp (!((decide (band (shr64 (X.getD q 0) (p : Int)) 1 = 1)) == (decide ((((clS (clo xs_3) n_2.toNat).1).getD p 0) = (((clS (clo xs_3) n_2.toNat).1).getD q 0))))) false (by kernel_rfl) (bnT c28) (by kernel_rfl) ?_
                      refine R.skp (!((decide (band (shr64 (X.getD q 0) (p : Int)) 1 = 1)) == (decide ((((clS (clo xs_3) n_2.toNat).1).getD p 0) = (((clS (clo xs_3) n_2.toNat).1).getD q 0))))) false (by kernel_rfl) (bnT c28) (by kernel_rfl) ?_
                      refine R.skp (!((decide (band (shr64 (X.getD q 0) (p : Int)) 1 = 1)) == (decide ((((clS (clo xs_3) n_2.toNat).1).getD p 0) = (((clS (clo xs_3) n_2.toNat).1).getD q 0))))) false (by kernel_rfl) (bnT c28) (by kernel_rfl) ?_
                      refine R.skp (!((decide (band (shr64 (X.getD q 0) (p : Int)) 1 = 1)) == (decide ((((clS (clo xs_3) n_2.toNat).1).getD p 0) = (((clS (clo xs_3) n_2.toNat).1).getD q 0))))) false (by kernel_rfl) (bnT c28) (by kernel_rfl) ?_
                      refine R.skp (!((decide (band (shr64 (X.getD q 0) (p : Int)) 1 = 1)) == (decide ((((clS (clo xs_3) n_2.toNat).1).getD p 0) = (((clS (clo xs_3) n_2.toNat).1).getD q 0))))) false (by kernel_rfl) (bnT c28) (by kernel_rfl) ?_
                      refine R.skp (!((decide (band (shr64 (X.getD q 0) (p : Int)) 1 = 1)) == (decide ((((clS (clo xs_3) n_2.toNat).1).getD p 0) = (((clS (clo xs_3) n_2.toNat).1).getD q 0))))) false (by kernel_rfl) (bnT c28) (by kernel_rfl) ?_
                      refine R.skp (!((decide (band (shr64 (X.getD q 0) (p : Int)) 1 = 1)) == (decide ((((clS (clo xs_3) n_2.toNat).1).getD p 0) = (((clS (clo xs_3) n_2.toNat).1).getD q 0))))) false (by kernel_rfl) (bnT c28) (by kernel_rfl) ?_
                      refine R.go 2 (R.skp (!((decide (band (shr64 (X.getD q 0) (p : Int)) 1 = 1)) == (decide ((((clS (clo xs_3) n_2.toNat).1).getD p 0) = (((clS (clo xs_3) n_2.toNat).1).getD q 0))))) false (by kernel_rfl) (bnT c28) (by kernel_rfl) ?_)
                      refine R.skp (!((decide (band (shr64 (X.getD q 0) (p : Int)) 1 = 1)) == (decide ((((clS (clo xs_3) n_2.toNat).1).getD p 0) = (((clS (clo xs_3) n_2.toNat).1).getD q 0))))) false (by kernel_rfl) (bnT c28) (by kernel_rfl) ?_
                      refine R.go 9 (R.skp (!((decide (band (shr64 (X.getD q 0) (p : Int)) 1 = 1)) == (decide ((((clS (clo xs_3) n_2.toNat).1).getD p 0) = (((clS (clo xs_3) n_2.toNat).1).getD q 0))))) false (by kernel_rfl) (bnT c28) (by kernel_rfl) ?_)
                      refine R.pick (!((decide (band (shr64 (X.getD q 0) (p : Int)) 1 = 1)) == (decide ((((clS (clo xs_3) n_2.toNat).1).getD p 0) = (((clS (clo xs_3) n_2.toNat).1).getD q 0))))) true (by kernel_rfl) (bnT c28) (by kernel_rfl) ?_
                      exact R.go 20 (R.retE (.bool false) (by kernel_rfl) (by kernel_rfl) (by first | (first | rfl | exact absurd (hE.symm.trans (by assumption : _ = false)) (by decide) | exact absurd hz.2 (by assumption) | exact absurd (by assumption) hz.2 | exact absurd (hrt.symm.trans (by assumption : _ = false)) (by decide)) | (exfalso; omega)))
                  · refine R.skp (decide (band (shr64 (X.getD p 0) (q : Int)) 1 = 1)) true (by kernel_rfl) (dF c27) (by kernel_rfl) ?_
                    refine R.skp (decide (band (shr64 (X.getD p 0) (q : Int)) 1 = 1)) true (by kernel_rfl) (dF c27) (by kernel_rfl) ?_
                    refine R.skp (decide (band (shr64 (X.getD p 0) (q : Int)) 1 = 1)) true (by kernel_rfl) (dF c27) (by kernel_rfl) ?_
                    refine R.skp (decide (band (shr64 (X.getD p 0) (q : Int)) 1 = 1)) true (by kernel_rfl) (dF c27) (by kernel_rfl) ?_
                    refine R.skp (decide (band (shr64 (X.getD p 0) (q : Int)) 1 = 1)) true (by kernel_rfl) (dF c27) (by kernel_rfl) ?_
                    refine R.skp (decide (band (shr64 (X.getD p 0) (q : Int)) 1 = 1)) true (by kernel_rfl) (dF c27) (by kernel_rfl) ?_
                    refine R.pick (decide (band (shr64 (X.getD p 0) (q : Int)) 1 = 1)) false (by kernel_rfl) (dF c27) (by kernel_rfl) ?_
                    first | (have hz := hm1 (by omega) (by omega) (by assumption) (by assumption); have hE : ((decide (band (shr64 (X.getD q 0) (p : Int)) 1 = 1)) == (decide ((clS (clo xs_3) (n_2).toNat).1.getD p 0 = (clS (clo xs_3) (n_2).toNat).1.getD q 0))) = true := by rw [decide_eq_true hz.1, decide_eq_true (by assumption)]; rfl) | (have hz := hm3 (by omega) (by omega) (by assumption) (by assumption); have hE : ((decide (band (shr64 (X.getD q 0) (p : Int)) 1 = 1)) == (decide ((clS (clo xs_3) (n_2).toNat).1.getD p 0 = (clS (clo xs_3) (n_2).toNat).1.getD q 0))) = true := by rw [decide_eq_false hz.1, decide_eq_false (by assumption)]; rfl) | (have hz := hm2 (by omega) (by omega) (by assumption); have hE : (false == (decide ((clS (clo xs_3) (n_2).toNat).1.getD p 0 = (clS (clo xs_3) (n_2).toNat).1.getD q 0))) = true := by rw [decide_eq_false hz]; rfl)
                    refine R.go 7 (R.idx eI ((clS (clo xs_3) n_2.toNat).1) 0 p (p : Int) (by kernel_rfl) rfl eI_len (by omega) (by kernel_rfl) ?_)
                    refine R.go 3 (R.idx eI ((clS (clo xs_3) n_2.toNat).1) 0 q (q : Int) (by kernel_rfl) rfl eI_len (by omega) (by kernel_rfl) ?_)
                    refine R.go 4 ?_
                    refine (Bool.eq_false_or_eq_true ((false == (decide ((((clS (clo xs_3) n_2.toNat).1).getD p 0) = (((clS (clo xs_3) n_2.toNat).1).getD q 0)))))).elim (fun c30 => ?_) (fun c30 => ?_)
                    · refine R.want (!(false == (decide ((((clS (clo xs_3) n_2.toNat).1).getD p 0) = (((clS (clo xs_3) n_2.toNat).1).getD q 0))))) false (by kernel_rfl) (bnF c30) ?_
                      refine R.go 1 (R.want (!(false == (decide ((((clS (clo xs_3) n_2.toNat).1).getD p 0) = (((clS (clo xs_3) n_2.toNat).1).getD q 0))))) false (by kernel_rfl) (bnF c30) ?_)
                      refine R.go 1 (R.want (!(false == (decide ((((clS (clo xs_3) n_2.toNat).1).getD p 0) = (((clS (clo xs_3) n_2.toNat).1).getD q 0))))) false (by kernel_rfl) (bnF c30) ?_)
                      refine R.idxO 1 1 X.length p (p : Int) (by kernel_rfl) rfl (by omega) (by kernel_rfl) ?_
                      refine R.want (!(false == (decide ((((clS (clo xs_3) n_2.toNat).1).getD p 0) = (((clS (clo xs_3) n_2.toNat).1).getD q 0))))) false (by kernel_rfl) (bnF c30) ?_
                      refine R.ldI X p (by kernel_rfl) (by omega) (by kernel_rfl) ?_
                      refine R.want (!(false == (decide ((((clS (clo xs_3) n_2.toNat).1).getD p 0) = (((clS (clo xs_3) n_2.toNat).1).getD q 0))))) false (by kernel_rfl) (bnF c30) ?_
                      refine R.go 1 (R.want (!(false == (decide ((((clS (clo xs_3) n_2.toNat).1).getD p 0) = (((clS (clo xs_3) n_2.toNat).1).getD q 0))))) false (by kernel_rfl) (bnF c30) ?_)
                      refine R.call true (bit9_c (X.getD p 0) (q : Int) (by omega) (by omega)) (by kernel_rfl) rfl (by kernel_rfl) ?_
                      refine R.want (!(false == (decide ((((clS (clo xs_3) n_2.toNat).1).getD p 0) = (((clS (clo xs_3) n_2.toNat).1).getD q 0))))) false (by kernel_rfl) (bnF c30) ?_
                      refine R.go 1 (R.skp (decide (band (shr64 (X.getD p 0) (q : Int)) 1 = 1)) true (by kernel_rfl) (dF c27) (by kernel_rfl) ?_)
                      refine R.skp (decide (band (shr64 (X.getD p 0) (q : Int)) 1 = 1)) true (by kernel_rfl) (dF c27) (by kernel_rfl) ?_
                      refine R.want (!(false == (decide ((((clS (clo xs_3) n_2.toNat).1).getD p 0) = (((clS (clo xs_3) n_2.toNat).1).getD q 0))))) false (by kernel_rfl) (bnF c30) ?_
                      refine R.pick (decide (band (shr64 (X.getD p 0) (q : Int)) 1 = 1)) false (by kernel_rfl) (dF c27) (by kernel_rfl) ?_
                      refine R.want (!(false == (decide ((((clS (clo xs_3) n_2.toNat).1).getD p 0) = (((clS (clo xs_3) n_2.toNat).1).getD q 0))))) false (by kernel_rfl) (bnF c30) ?_
                      refine R.go 10 (R.want (!(false == (decide ((((clS (clo xs_3) n_2.toNat).1).getD p 0) = (((clS (clo xs_3) n_2.toNat).1).getD q 0))))) false (by kernel_rfl) (bnF c30) ?_)
                      refine R.go 1 (R.pick (!(false == (decide ((((clS (clo xs_3) n_2.toNat).1).getD p 0) = (((clS (clo xs_3) n_2.toNat).1).getD q 0))))) false (by kernel_rfl) (bnF c30) (by kernel_rfl) ?_)
                      refine R.go 20 (R.ar ((q : Int) + 1) (by kernel_rfl) (by omega) (by omega) (by kernel_rfl) ?_)
                      exact R.go 2 (R.stop R18 (by kernel_rfl) (N19 (q + 1) [3, 4, 8, 12, 16, 17] none _ (by kernel_rfl) (by kernel_rfl) (by omega) (by show ((n_2).toNat - (q + 1)) < ((n_2).toNat - q); omega)))
                    · refine R.skp (!(false == (decide ((((clS (clo xs_3) n_2.toNat).1).getD p 0) = (((clS (clo xs_3) n_2.toNat).1).getD q 0))))) false (by kernel_rfl) (bnT c30) (by kernel_rfl) ?_
                      refine R.skp (!(false == (decide ((((clS (clo xs_3) n_2.toNat).1).getD p 0) = (((clS (clo xs_3) n_2.toNat).1).getD q 0))))) false (by kernel_rfl) (bnT c30) (by kernel_rfl) ?_
                      refine R.skp (!(false == (decide ((((clS (clo xs_3) n_2.toNat).1).getD p 0) = (((clS (clo xs_3) n_2.toNat).1).getD q 0))))) false (by kernel_rfl) (bnT c30) (by kernel_rfl) ?_
                      refine R.skp (!(false == (decide ((((clS (clo xs_3) n_2.toNat).1).getD p 0) = (((clS (clo xs_3) n_2.toNat).1).getD q 0))))) false (by kernel_rfl) (bnT c30) (by kernel_rfl) ?_
                      refine R.skp (!(false == (decide ((((clS (clo xs_3) n_2.toNat).1).getD p 0) = (((clS (clo xs_3) n_2.toNat).1).getD q 0))))) false (by kernel_rfl) (bnT c30) (by kernel_rfl) ?_
                      refine R.skp (!(false == (decide ((((clS (clo xs_3) n_2.toNat).1).getD p 0) = (((clS (clo xs_3) n_2.toNat).1).getD q 0))))) false (by kernel_rfl) (bnT c30) (by kernel_rfl) ?_
                      refine R.skp (!(false == (decide ((((clS (clo xs_3) n_2.toNat).1).getD p 0) = (((clS (clo xs_3) n_2.toNat).1).getD q 0))))) false (by kernel_rfl) (bnT c30) (by kernel_rfl) ?_
                      refine R.go 2 (R.skp (!(false == (decide ((((clS (clo xs_3) n_2.toNat).1).getD p 0) = (((clS (clo xs_3) n_2.toNat).1).getD q 0))))) false (by kernel_rfl) (bnT c30) (by kernel_rfl) ?_)
                      refine R.skp (!(false == (decide ((((clS (clo xs_3) n_2.toNat).1).getD p 0) = (((clS (clo xs_3) n_2.toNat).1).getD q 0))))) false (by kernel_rfl) (bnT c30) (by kernel_rfl) ?_
                      refine R.go 9 (R.skp (!(false == (decide ((((clS (clo xs_3) n_2.toNat).1).getD p 0) = (((clS (clo xs_3) n_2.toNat).1).getD q 0))))) false (by kernel_rfl) (bnT c30) (by kernel_rfl) ?_)
                      refine R.pick (!(false == (decide ((((clS (clo xs_3) n_2.toNat).1).getD p 0) = (((clS (clo xs_3) n_2.toNat).1).getD q 0))))) true (by kernel_rfl) (bnT c30) (by kernel_rfl) ?_
                      exact R.go 20 (R.retE (.bool false) (by kernel_rfl) (by kernel_rfl) (by first | (first | rfl | exact absurd (hE.symm.trans (by assumption : _ = false)) (by decide) | exact absurd hz.2 (by assumption) | exact absurd (by assumption) hz.2 | exact absurd (hrt.symm.trans (by assumption : _ = false)) (by decide)) | (exfalso; omega)))
              · refine R.go 4 (R.ar ((p : Int) + 1) (by kernel_rfl) (by omega) (by omega) (by kernel_rfl) ?_)
                exact R.go 2 (R.stop R14 (by kernel_rfl) (N15 (p + 1) [3, 4, 8, 12, 16] none _ (by kernel_rfl) (by kernel_rfl) (by omega) (by show ((n_2).toNat - (p + 1)) < ((n_2).toNat - p); omega)))
            · exact R.go 5 (R.retE (.bool true) (by kernel_rfl) (by kernel_rfl) (by rfl))
      · refine R.skp (!decide ((0 + (rootsC n_2 xs_3)) = 0)) false (by kernel_rfl) (nT c6) (by kernel_rfl) ?_
        refine R.skp (!decide ((0 + (rootsC n_2 xs_3)) = 0)) false (by kernel_rfl) (nT c6) (by kernel_rfl) ?_
        refine R.skp (!decide ((0 + (rootsC n_2 xs_3)) = 0)) false (by kernel_rfl) (nT c6) (by kernel_rfl) ?_
        refine R.skp (!decide ((0 + (rootsC n_2 xs_3)) = 0)) false (by kernel_rfl) (nT c6) (by kernel_rfl) ?_
        refine R.skp (!decide ((0 + (rootsC n_2 xs_3)) = 0)) false (by kernel_rfl) (nT c6) (by kernel_rfl) ?_
        refine R.pick (!decide ((0 + (rootsC n_2 xs_3)) = 0)) true (by kernel_rfl) (nT c6) (by kernel_rfl) ?_
        exact R.go 6 (R.retE (.bool false) (by kernel_rfl) (by kernel_rfl) (by first | (first | rfl | exact absurd (hE.symm.trans (by assumption : _ = false)) (by decide) | exact absurd hz.2 (by assumption) | exact absurd (by assumption) hz.2 | exact absurd (hrt.symm.trans (by assumption : _ = false)) (by decide)) | (exfalso; omega)))
    · refine R.go 1 (R.call true (CObad_impl n_2 xs_3 c5 (by first | omega | (simp <;> omega))) (by kernel_rfl) rfl (by kernel_rfl) ?_)
      refine R.go 9 (R.call true (CObad_spec n_2 xs_3 c5 (by first | omega | (simp <;> omega))) (by kernel_rfl) rfl (by kernel_rfl) ?_)
      first | (have hF0 := okFr_rel (by assumption : okFr n_2 xs_3 = true); have hcl0 := clS_len (clo xs_3) (n_2).toNat; have hb0 : 0 ≤ n_2 ∧ n_2 ≤ 8 := ⟨hF0.1, hF0.2.1⟩) | skip
      refine R.go 15 (R.call true (likeInts_nil) (by kernel_rfl) rfl (by kernel_rfl) ?_)
      exact R.go 16 (R.retE (.bool true) (by kernel_rfl) (by kernel_rfl) (by rfl))

end Go.Proofs.Ytejaikeemahobaa
