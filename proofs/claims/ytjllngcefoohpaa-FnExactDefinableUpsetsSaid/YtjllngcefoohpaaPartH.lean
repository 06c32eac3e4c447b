/- Texts of the proof: DU1, SRT, DU2. -/
import Derived.Test.YtjllngcefoohpaaPartG

/-! Definable upsets: lists closed under what pairs yield (no program). -/
namespace Go.Proofs.Ytjllngcefoohpaa
open Go.RowKit Go.Abs

theorem asc_eq : ∀ {l k : List Int}, l.Pairwise (· < ·) → k.Pairwise (· < ·) → (∀ x, x ∈ l ↔ x ∈ k) → l = k
  | [], [], _, _, _ => rfl
  | [], y :: k, _, _, h => absurd ((h y).2 (List.mem_cons_self ..)) (List.not_mem_nil)
  | x :: l, [], _, _, h => absurd ((h x).1 (List.mem_cons_self ..)) (List.not_mem_nil)
  | x :: l, y :: k, hl, hk, h => by
    rw [List.pairwise_cons] at hl hk
    have hx := (h x).1 (List.mem_cons_self ..)
    have hy := (h y).2 (List.mem_cons_self ..)
    have e : x = y := by
      rcases List.mem_cons.1 hx with e | hx
      · exact e
      · rcases List.mem_cons.1 hy with e | hy
        · exact e.symm
        · have := hl.1 y hy
          have := hk.1 x hx
          omega
    subst e
    rw [asc_eq hl.2 hk.2 fun z => ?_]
    constructor
    · intro hz
      rcases List.mem_cons.1 ((h z).1 (List.mem_cons_of_mem _ hz)) with e | e
      · have := hl.1 z hz; omega
      · exact e
    · intro hz
      rcases List.mem_cons.1 ((h z).2 (List.mem_cons_of_mem _ hz)) with e | e
      · have := hk.1 z hz; omega
      · exact e
theorem srt_asc {l : List Int} (h : l.Nodup) : (srtI l).Pairwise (· < ·) := by
  have h1 : (srtI l).Pairwise fun a b => decide (a ≤ b) = true := List.pairwise_mergeSort (fun a b c h1 h2 => by simp only [decide_eq_true_eq] at *; omega) (fun a b => by simp only [Bool.or_eq_true, decide_eq_true_eq]; omega) l
  have h2 : (srtI l).Nodup := (List.mergeSort_perm l _).nodup_iff.2 h
  have h3 := List.pairwise_and_iff.2 ⟨h1, h2⟩
  exact h3.imp fun h => by
    have h4 := h.1
    have h5 := h.2
    simp only [decide_eq_true_eq] at h4
    omega
theorem srt_mem {l : List Int} {x : Int} : x ∈ srtI l ↔ x ∈ l := List.mem_mergeSort

def numF (p : Nat → Bool) : Nat → List Int
  | 0 => []
  | q + 1 => numF p q ++ (if p q = true then [(q : Int)] else [])
theorem numF_mem (p : Nat → Bool) : ∀ (q : Nat) (x : Int), x ∈ numF p q ↔ 0 ≤ x ∧ x < q ∧ p x.toNat = true
  | 0, x => by simp [numF]; omega
  | q + 1, x => by
    rw [numF, List.mem_append, numF_mem p q x]
    by_cases h : p q = true
    · rw [if_pos h, List.mem_singleton]
      constructor
      · rintro (h1 | h1)
        · exact ⟨h1.1, by omega, h1.2.2⟩
        · subst h1; exact ⟨by omega, by omega, by simpa using h⟩
      · rintro ⟨h1, h2, h3⟩
        by_cases e : x = q
        · exact .inr e
        · exact .inl ⟨h1, by omega, h3⟩
    · rw [if_neg h]
      constructor
      · rintro (h1 | h1)
        · exact ⟨h1.1, by omega, h1.2.2⟩
        · exact absurd h1 (List.not_mem_nil)
      · rintro ⟨h1, h2, h3⟩
        refine .inl ⟨h1, ?_, h3⟩
        have : x ≠ q := fun e => h (by rw [e] at h3; simpa using h3)
        omega
theorem numF_asc (p : Nat → Bool) : ∀ q : Nat, (numF p q).Pairwise (· < ·)
  | 0 => List.Pairwise.nil
  | q + 1 => by
    rw [numF]
    refine List.pairwise_append.2 ⟨numF_asc p q, ?_, fun x hx y hy => ?_⟩
    · split
      · exact List.pairwise_singleton _ _
      · exact List.Pairwise.nil
    · have := ((numF_mem p q x).1 hx).2.1
      split at hy
      · have := List.mem_singleton.1 hy; omega
      · exact absurd hy (List.not_mem_nil)

theorem nodup_lt : ∀ (n : Nat) (l : List Nat), l.Nodup → (∀ x ∈ l, x < n) → l.length ≤ n
  | 0, [], _, _ => Nat.le_refl _
  | 0, x :: _, _, h => absurd (h x (List.mem_cons_self ..)) (by omega)
  | n + 1, l, hd, h => by
    have ih := nodup_lt n (l.erase n) (hd.erase n) fun x hx => by
      have h1 := (List.Nodup.mem_erase_iff hd).1 hx
      have := h x h1.2
      have := h1.1
      omega
    have := List.length_erase (a := n) (l := l)
    split at this <;> omega
theorem take_succ_getD {α : Type} (l : List α) (d : α) {i : Nat} (h : i < l.length) : l.take (i + 1) = l.take i ++ [l.getD i d] := by
  rw [List.take_add_one, List.getD_eq_getElem?_getD, List.getElem?_eq_getElem h]; rfl

theorem numF_y {p : Nat → Bool} {q : Nat} (h : p q = true) : numF p q ++ [(q : Int)] = numF p (q + 1) := by rw [numF, if_pos h]
theorem numF_n {p : Nat → Bool} {q : Nat} (h : p q = false) : numF p q = numF p (q + 1) := by rw [numF, if_neg (by rw [h]; exact Bool.false_ne_true), List.append_nil]
theorem numF_len (p : Nat → Bool) : ∀ q : Nat, (numF p q).length ≤ q
  | 0 => Nat.le_refl _
  | q + 1 => by
    rw [numF, List.length_append]
    have := numF_len p q
    split <;> simp <;> omega

def outU (n : Int) (xs : List Int) (m : Int) : Bool := !(inR m 0 ((shl64 1 n) - 1) && decide (img xs m xs.length = m))
def vsB (n : Int) (xs vs : List Int) : Bool := decide (vs.length = 6) && !vs.any (outU n xs)
def vaB (n : Int) (xs vs : List Int) : Bool := okPo n xs && vsB n xs vs
theorem vaB_po {n : Int} {xs vs : List Int} (h : vaB n xs vs = true) : okPo n xs = true ∧ vs.length = 6 := by
  simp only [vaB, vsB, Bool.and_eq_true, decide_eq_true_eq] at h
  exact ⟨h.1, h.2.1⟩
theorem outR_in {n m : Int} (h0 : 0 ≤ n) (h8 : n ≤ 8) (h : outR n m = false) : InM n.toNat m := by
  have h1 : inR m 0 ((shl64 1 n) - 1) = true := by
    rw [outR, (inR_iff n 0 30).2 (by omega)] at h
    simpa using h
  have h2 := (full_rng (n := n.toNat) (by omega) (m := m)).2
  rw [show ((n.toNat : Nat) : Int) = n by omega] at h2
  exact h2 h1
theorem outU_1 {n m : Int} {xs : List Int} (h0 : 0 ≤ n) (h8 : n ≤ 8) (h : outR n m = true) : outU n xs m = true := by
  rw [outR, (inR_iff n 0 30).2 (by omega)] at h
  have : inR m 0 ((shl64 1 n) - 1) = false := by simpa using h
  rw [outU, this]; rfl
theorem outU_2 {n m : Int} {xs : List Int} (h0 : 0 ≤ n) (h8 : n ≤ 8) (h : outR n m = false) : outU n xs m = !decide (img xs m xs.length = m) := by
  rw [outR, (inR_iff n 0 30).2 (by omega)] at h
  have : inR m 0 ((shl64 1 n) - 1) = true := by simpa using h
  rw [outU, this, Bool.true_and]
theorem vs_no1 {n : Int} {xs vs : List Int} (h : ¬ (vs.length : Int) = 6) : vsB n xs vs = false := by rw [vsB, decide_eq_false (by omega)]; rfl
theorem vs_yes {n : Int} {xs vs : List Int} (h : (vs.length : Int) = 6) : vsB n xs vs = !vs.any (outU n xs) := by rw [vsB, decide_eq_true (by omega)]; rfl
theorem vs_no2 {n : Int} {xs vs : List Int} (h : (vs.any fun m => !inR m 0 ((shl64 1 n) - 1)) = true) : vsB n xs vs = false := by
  rw [List.any_eq_true] at h
  obtain ⟨m, hm, h⟩ := h
  have : vs.any (outU n xs) = true := List.any_eq_true.2 ⟨m, hm, by rw [Bool.not_eq_true'] at h; rw [outU, h]; rfl⟩
  rw [vsB, this]; simp
theorem vs_no3 {n : Int} {xs vs : List Int} {v : Nat} (hv : v < vs.length) (h : ¬ img xs (vs.getD v 0) xs.length = vs.getD v 0) : vsB n xs vs = false := by
  have : vs.any (outU n xs) = true := List.any_eq_true.2 ⟨vs.getD v 0, by rw [List.getD_eq_getElem?_getD, List.getElem?_eq_getElem hv]; exact List.getElem_mem _, by rw [outU, decide_eq_false h, Bool.and_false]; rfl⟩
  rw [vsB, this]; simp
theorem vs_ok {n : Int} {xs vs : List Int} (h6 : (vs.length : Int) = 6) (h : (vs.any fun m => !inR m 0 ((shl64 1 n) - 1)) = false) (hi : ∀ v : Nat, v < vs.length → img xs (vs.getD v 0) xs.length = vs.getD v 0) : vsB n xs vs = true := by
  have : vs.any (outU n xs) = false := by
    rw [List.any_eq_false] at h ⊢
    intro m hm
    have h1 := h m hm
    obtain ⟨j, hj, rfl⟩ := List.getElem_of_mem hm
    have h2 := hi j hj
    rw [List.getD_eq_getElem?_getD, List.getElem?_eq_getElem hj] at h2
    have h2 : img xs vs[j] xs.length = vs[j] := h2
    have h3 : inR vs[j] 0 ((shl64 1 n) - 1) = true := by simpa using h1
    rw [outU, h3, decide_eq_true h2]
    decide
  rw [vs_yes h6, this]; rfl
theorem va_0 {n : Int} {xs vs : List Int} (h : okPo n xs = false) : false = vaB n xs vs := by simp [vaB, h]
theorem va_1 {n : Int} {xs vs : List Int} {b : Bool} (h : okPo n xs = true) (h2 : vsB n xs vs = b) : b = vaB n xs vs := by rw [vaB, h, h2]; rfl

def pxB (xs : List Int) (m : Int) : Int := boxB xs m xs.length
def pxA (xs : List Int) (m : Int) : Int := boxA xs m xs.length
theorem pxAB {n : Int} {xs : List Int} (h : okFr n xs = true) : pxA xs = pxB xs := by
  obtain ⟨h0, h8, hl, hr⟩ := okFr_rel h
  funext m
  refine boxAB xs m (fun x hx => ?_) _ (Nat.le_refl _)
  obtain ⟨j, hj, rfl⟩ := List.getElem_of_mem hx
  have hg : xs[j] = xs.getD j 0 := by rw [List.getD_eq_getElem?_getD, List.getElem?_eq_getElem hj]; rfl
  rw [hg]
  exact wrap_inM (by omega) (hr.2 j (by omega))
/-- The list with the number at its end, if it lacks it. -/
def adR (L : List Int) (x : Int) : List Int := if x ∈ L then L else L ++ [x]
def adL (L : List Int) (xs : List Int) : List Int := xs.foldl adR L
theorem adR_y {L : List Int} {x : Int} (h : x ∈ L) : L = adR L x := by rw [adR, if_pos h]
theorem adR_n {L : List Int} {x : Int} (h : ¬ x ∈ L) : L ++ [x] = adR L x := by rw [adR, if_neg h]
theorem adL_s {L xs : List Int} {i : Nat} (h : i < xs.length) : adR (adL L (xs.take i)) (xs.getD i 0) = adL L (xs.take (i + 1)) := by
  rw [take_succ_getD xs 0 h, adL, adL, List.foldl_append]; rfl
theorem adL_e {L xs : List Int} {i : Nat} (h : i = xs.length) : adL L (xs.take i) = adL L xs := by rw [h, List.take_length]
theorem adR_len (L : List Int) (x : Int) : L.length ≤ (adR L x).length := by
  unfold adR; split
  · exact Nat.le_refl _
  · simp
theorem adL_len : ∀ (xs L : List Int), L.length ≤ (adL L xs).length
  | [], _ => Nat.le_refl _
  | x :: xs, L => Nat.le_trans (adR_len L x) (adL_len xs (adR L x))
/-- Different sets of k elements. -/
structure OKL (k : Nat) (L : List Int) : Prop where
  nd : L.Nodup
  rg : ∀ x ∈ L, InM k x
theorem inM_rng {k : Nat} {x : Int} (hk : k ≤ 8) (h : InM k x) : 0 ≤ x ∧ x ≤ 255 := by
  have h2 := h.2
  have : 2 ^ k ≤ 2 ^ 8 := Nat.pow_le_pow_right (by decide) hk
  have := h.1
  omega
theorem adR_ok {k : Nat} {L : List Int} {x : Int} (h : OKL k L) (hx : InM k x) : OKL k (adR L x) := by
  unfold adR; split
  · exact h
  · rename_i hn
    refine ⟨List.pairwise_append.2 ⟨h.nd, List.pairwise_singleton _ _, fun a ha b hb e => ?_⟩, fun y hy => ?_⟩
    · rw [List.mem_singleton.1 hb] at e; subst e; exact hn ha
    · rcases List.mem_append.1 hy with hy | hy
      · exact h.rg y hy
      · rw [List.mem_singleton.1 hy]; exact hx
theorem adL_ok {k : Nat} : ∀ {xs L : List Int}, OKL k L → (∀ x ∈ xs, InM k x) → OKL k (adL L xs)
  | [], _, h, _ => h
  | x :: xs, L, h, hx => adL_ok (xs := xs) (adR_ok h (hx x (List.mem_cons_self ..))) fun y hy => hx y (List.mem_cons_of_mem _ hy)
theorem OKL.le {k : Nat} {L : List Int} (h : OKL k L) : L.length ≤ 2 ^ k := by
  have h1 : (L.map Int.toNat).Nodup := List.pairwise_map.2 (List.Pairwise.imp_of_mem (fun {a b} ha hb hne e => hne (by
    have := (h.rg a ha).1
    have := (h.rg b hb).1
    omega)) h.nd)
  have h2 := nodup_lt (2 ^ k) (L.map Int.toNat) h1 fun x hx => by
    obtain ⟨y, hy, rfl⟩ := List.mem_map.1 hx
    exact (h.rg y hy).2
  rwa [List.length_map] at h2
theorem OKL.l8 {k : Nat} {L : List Int} (h : OKL k L) (hk : k ≤ 8) : L.length ≤ 256 := Nat.le_trans h.le (Nat.pow_le_pow_right (by decide) hk)
theorem OKL.at {k : Nat} {L : List Int} (h : OKL k L) (i : Nat) : InM k (L.getD i 0) := by
  rcases Nat.lt_or_ge i L.length with hi | hi
  · refine h.rg _ ?_
    rw [List.getD_eq_getElem?_getD, List.getElem?_eq_getElem hi]; exact List.getElem_mem _
  · rw [List.getD_eq_getElem?_getD, List.getElem?_eq_none hi]; exact inM_zero k
theorem okl_0 (k : Nat) : OKL k [0] := ⟨List.pairwise_singleton _ _, fun x hx => by rw [List.mem_singleton.1 hx]; exact inM_zero k⟩
theorem all_at {k : Nat} {l : List Int} (h : ∀ x ∈ l, InM k x) (i : Nat) : InM k (l.getD i 0) := by
  rcases Nat.lt_or_ge i l.length with hi | hi
  · refine h _ ?_
    rw [List.getD_eq_getElem?_getD, List.getElem?_eq_getElem hi]; exact List.getElem_mem _
  · rw [List.getD_eq_getElem?_getD, List.getElem?_eq_none hi]; exact inM_zero k
/-- What a pair yields. -/
def imX (n : Int) (xs : List Int) (a b : Int) : Int := pxB xs (bor (bnot ((shl64 1 n) - 1) a) b)
def prs (n : Int) (xs : List Int) (a b : Int) : List Int := [band a b, bor a b, imX n xs a b, imX n xs b a]
def duI (n : Int) (xs L : List Int) (i : Nat) : Nat → List Int
  | 0 => L
  | j + 1 => adL (duI n xs L i j) (prs n xs ((duI n xs L i j).getD i 0) ((duI n xs L i j).getD j 0))
def duO (n : Int) (xs L : List Int) : Nat → List Int
  | 0 => L
  | i + 1 => if i < (duO n xs L i).length then duI n xs (duO n xs L i) i (i + 1) else duO n xs L i
theorem imX_in {n : Int} {xs : List Int} {a b : Int} (hR : okFr n xs = true) (ha : InM n.toNat a) (hb : InM n.toNat b) : InM n.toNat (imX n xs a b) := by
  have hr := okFr_rel hR
  have hf : InM n.toNat ((shl64 1 n) - 1) := by
    have := inM_full (n := n.toNat) (by omega)
    rwa [Int.toNat_of_nonneg hr.1] at this
  have hm := inM_bor (by omega) (inM_bnot (by omega) hf ha) hb
  exact (boxB_ok (by omega) (show RelOK n.toNat xs from by have h := hr.2.2.2; exact h) hm xs.length (by omega)).1
theorem prs_in {n : Int} {xs : List Int} {a b : Int} (hR : okFr n xs = true) (ha : InM n.toNat a) (hb : InM n.toNat b) : ∀ x ∈ prs n xs a b, InM n.toNat x := by
  have hr := okFr_rel hR
  intro x hx
  simp only [prs, List.mem_cons, List.not_mem_nil, or_false] at hx
  rcases hx with rfl | rfl | rfl | rfl
  · exact inM_band (by omega) ha hb
  · exact inM_bor (by omega) ha hb
  · exact imX_in hR ha hb
  · exact imX_in hR hb ha
theorem duI_ok {n : Int} {xs L : List Int} (hR : okFr n xs = true) (h : OKL n.toNat L) (i : Nat) : ∀ j, OKL n.toNat (duI n xs L i j)
  | 0 => h
  | j + 1 => adL_ok (duI_ok hR h i j) (prs_in hR ((duI_ok hR h i j).at i) ((duI_ok hR h i j).at j))
theorem duI_len (n : Int) (xs L : List Int) (i : Nat) : ∀ j, L.length ≤ (duI n xs L i j).length
  | 0 => Nat.le_refl _
  | j + 1 => Nat.le_trans (duI_len n xs L i j) (adL_len _ _)
theorem duO_ok {n : Int} {xs L : List Int} (hR : okFr n xs = true) (h : OKL n.toNat L) : ∀ i, OKL n.toNat (duO n xs L i)
  | 0 => h
  | i + 1 => by
    rw [duO]; split
    · exact duI_ok hR (duO_ok hR h i) i _
    · exact duO_ok hR h i
theorem duO_s {n : Int} {xs L : List Int} {i j : Nat} (h : i < (duO n xs L i).length) (hj : j = i + 1) : duI n xs (duO n xs L i) i j = duO n xs L (i + 1) := by
  subst hj
  rw [duO, if_pos h]
theorem duO_stay {n : Int} {xs L : List Int} {i : Nat} (h : i = (duO n xs L i).length) : ∀ d, duO n xs L (i + d) = duO n xs L i
  | 0 => rfl
  | d + 1 => by
    have ih := duO_stay h d
    rw [show i + (d + 1) = (i + d) + 1 by omega, duO, ih, if_neg (by omega)]
/-- All definable upsets, in the order in which they are found. -/
def duF (n : Int) (xs vs : List Int) : List Int := duO n xs (adL [0] vs) 256
theorem duF_eq {n : Int} {xs vs : List Int} {i : Nat} (h : i = (duO n xs (adL [0] vs) i).length) (h2 : i ≤ 256) : duO n xs (adL [0] vs) i = duF n xs vs := by
  have := duO_stay h (256 - i)
  rw [show i + (256 - i) = 256 by omega] at this
  exact this.symm
def duC (n : Int) (xs vs : List Int) : Int := if vaB n xs vs = true then 0 else 1
def duR (n : Int) (xs vs : List Int) : List Int := if vaB n xs vs = true then numF (fun q => decide ((q : Int) ∈ duF n xs vs)) (2 ^ n.toNat) else []
theorem du_bad {n : Int} {xs vs : List Int} (h : vaB n xs vs = false) : duC n xs vs = 1 ∧ duR n xs vs = [] := by simp [duC, duR, h]
theorem du_good {n : Int} {xs vs : List Int} (h : vaB n xs vs = true) : duC n xs vs = 0 ∧ duR n xs vs = numF (fun q => decide ((q : Int) ∈ duF n xs vs)) (2 ^ n.toNat) := by simp [duC, duR, h]
theorem vaB_in {n : Int} {xs vs : List Int} (h : vaB n xs vs = true) : okFr n xs = true ∧ vs.length = 6 ∧ ∀ x ∈ vs, InM n.toNat x := by
  have h1 := vaB_po h
  have hR := okPo_fr h1.1
  have hr := okFr_rel hR
  refine ⟨hR, h1.2, fun x hx => ?_⟩
  simp only [vaB, vsB, Bool.and_eq_true, Bool.not_eq_true'] at h
  have h2 := List.any_eq_false.1 h.2.2 x hx
  simp only [outU, Bool.not_eq_true', Bool.not_eq_false', Bool.and_eq_true, Bool.not_eq_false] at h2
  have h3 := (full_rng (n := n.toNat) (by omega) (m := x)).2
  rw [Int.toNat_of_nonneg hr.1] at h3
  exact h3 h2.1
theorem du_len {n : Int} {xs vs : List Int} : (duR n xs vs).length ≤ 256 := by
  unfold duR
  split
  · rename_i h
    refine Nat.le_trans (numF_len _ _) ?_
    have h8 := (okFr_rel (vaB_in h).1).2.1
    exact Nat.le_trans (Nat.pow_le_pow_right (by decide) (show n.toNat ≤ 8 by omega)) (by decide)
  · simp
theorem du_srt {k : Nat} {L : List Int} (h : OKL k L) : srtI L = numF (fun q => decide ((q : Int) ∈ L)) (2 ^ k) := by
  refine asc_eq (srt_asc h.nd) (numF_asc _ _) fun x => ?_
  rw [srt_mem, numF_mem]
  constructor
  · intro hx
    obtain ⟨q1, q2⟩ := h.rg x hx
    refine ⟨q1, ?_, ?_⟩
    · have : ((x.toNat : Nat) : Int) < ((2 ^ k : Nat) : Int) := by exact_mod_cast q2
      omega
    · rw [Int.toNat_of_nonneg q1]; exact decide_eq_true hx
  · rintro ⟨h0, _, h2⟩
    rw [Int.toNat_of_nonneg h0] at h2
    exact of_decide_eq_true h2
/-- The truth values of a list's membership. -/
def inB (N : Nat) (L : List Int) : List Bool := (List.range N).map fun x : Nat => decide (((x : Nat) : Int) ∈ L)
theorem inB_len (N : Nat) (L : List Int) : (inB N L).length = N := by simp [inB]
theorem inB_get {N : Nat} {L : List Int} {y : Int} (h0 : 0 ≤ y) (h1 : y.toNat < N) : (inB N L).getD y.toNat false = decide (y ∈ L) := by
  rw [List.getD_eq_getElem?_getD, inB, List.getElem?_map, List.getElem?_range h1]
  simp only [Option.map_some, Option.getD_some]
  rw [Int.toNat_of_nonneg h0]
theorem inB_nat {N : Nat} {L : List Int} {y : Nat} (h1 : y < N) : (inB N L).getD y false = decide ((y : Int) ∈ L) := by
  have := inB_get (L := L) (y := (y : Int)) (by omega) (by simpa using h1)
  simpa using this
theorem inB_nil (N : Nat) : List.replicate N false = inB N [] := by
  apply List.ext_getElem (by simp [inB])
  intro j h1 h2
  simp [inB]
theorem inB_set {N : Nat} {L : List Int} {y : Int} (h0 : 0 ≤ y) (h1 : y.toNat < N) : (inB N L).set y.toNat true = inB N (L ++ [y]) := by
  apply List.ext_getElem (by simp [inB])
  intro j h2 h3
  rw [List.getElem_set]
  simp only [inB, List.getElem_map, List.getElem_range, List.mem_append, List.mem_singleton]
  split
  · rename_i e
    rw [eq_comm, decide_eq_true_eq]
    exact .inr (by omega)
  · rename_i e
    have : ¬ ((j : Int) = y) := by omega
    simp [this]
theorem fourL {k : Nat} {L : List Int} {p1 p2 p3 p4 : Int} (hk : k ≤ 8) (hL : OKL k L) (h1 : InM k p1) (h2 : InM k p2) (h3 : InM k p3) (h4 : InM k p4) :
    L.length ≤ 256 ∧ (adR L p1).length ≤ 256 ∧ (adR (adR L p1) p2).length ≤ 256 ∧ (adR (adR (adR L p1) p2) p3).length ≤ 256 ∧ (0 ≤ p1 ∧ p1 ≤ 255) ∧ (0 ≤ p2 ∧ p2 ≤ 255) ∧ (0 ≤ p3 ∧ p3 ≤ 255) ∧ (0 ≤ p4 ∧ p4 ≤ 255) :=
  ⟨hL.l8 hk, (adR_ok hL h1).l8 hk, (adR_ok (adR_ok hL h1) h2).l8 hk, (adR_ok (adR_ok (adR_ok hL h1) h2) h3).l8 hk, inM_rng hk h1, inM_rng hk h2, inM_rng hk h3, inM_rng hk h4⟩

end Go.Proofs.Ytjllngcefoohpaa


/-! slices.Sort at rows of integers: where the library's functions lie in this program, and its contract. -/
namespace Go.Proofs.Ytjllngcefoohpaa
open Go.RowKit Go.Abs

def srtR : Go.Shelf.Ren := { f := fun x => match x with | 5 => 21 | 8 => 33 | 7 => 32 | 19 => 56 | 20 => 57 | 10 => 47 | 11 => 48 | 12 => 49 | 13 => 50 | 14 => 51 | 15 => 52 | 16 => 53 | 17 => 54 | 18 => 55 | 30 => 82 | 31 => 83 | 32 => 84 | 33 => 85 | 34 => 86 | 35 => 87 | 40 => 91 | n => n, t := fun x => match x with | 23 => 22 | 25 => 2 | 3 => 3 | 32 => 51 | 22 => 22 | 0 => 0 | 44 => 72 | 46 => 57 | 4 => 4 | 36 => 65 | 35 => 64 | 41 => 69 | 5 => 5 | 9 => 9 | 53 => 78 | 57 => 82 | 63 => 84 | 64 => 85 | n => n, g := fun n => n }
theorem srtLay : SlLaysM.n5 Try.prog srtR where
  mixed := by decide +kernel
  f5 := ⟨Try.f21.name, by decide, Try.func21.trans (congrArg some (by kernel_rfl))⟩
  f7 := ⟨Try.f32.name, by decide, Try.func32.trans (congrArg some (by kernel_rfl))⟩
  f8 := Try.func33.trans (congrArg some (by kernel_rfl))
  f10 := ⟨Try.f47.name, by decide, Try.func47.trans (congrArg some (by kernel_rfl))⟩
  f11 := ⟨Try.f48.name, by decide, Try.func48.trans (congrArg some (by kernel_rfl))⟩
  f12 := ⟨Try.f49.name, by decide, Try.func49.trans (congrArg some (by kernel_rfl))⟩
  f13 := ⟨Try.f50.name, by decide, Try.func50.trans (congrArg some (by kernel_rfl))⟩
  f14 := ⟨Try.f51.name, by decide, Try.func51.trans (congrArg some (by kernel_rfl))⟩
  f15 := ⟨Try.f52.name, by decide, Try.func52.trans (congrArg some (by kernel_rfl))⟩
  f16 := ⟨Try.f53.name, by decide, Try.func53.trans (congrArg some (by kernel_rfl))⟩
  f17 := ⟨Try.f54.name, by decide, Try.func54.trans (congrArg some (by kernel_rfl))⟩
  f18 := ⟨Try.f55.name, by decide, Try.func55.trans (congrArg some (by kernel_rfl))⟩
  f19 := Try.func56.trans (congrArg some (by kernel_rfl))
  f20 := Try.func57.trans (congrArg some (by kernel_rfl))
  f30 := ⟨Try.f82.name, by decide, Try.func82.trans (congrArg some (by kernel_rfl))⟩
  f31 := Try.func83.trans (congrArg some (by kernel_rfl))
  f32 := Try.func84.trans (congrArg some (by kernel_rfl))
  f33 := ⟨Try.f85.name, by decide, Try.func85.trans (congrArg some (by kernel_rfl))⟩
  f34 := ⟨Try.f86.name, by decide, Try.func86.trans (congrArg some (by kernel_rfl))⟩
  f35 := ⟨Try.f87.name, by decide, Try.func87.trans (congrArg some (by kernel_rfl))⟩
  f40 := ⟨Try.f91.name, by decide, Try.func91.trans (congrArg some (by kernel_rfl))⟩
  t0 := Try.underlying0
  a0 := Try.isAgg0
  z0 := Try.sizeOf0
  v0 := Try.zeroValue0
  t3 := Try.underlying3
  a3 := Try.isAgg3
  z3 := Try.sizeOf3
  v3 := Try.zeroValue3
  t4 := Try.underlying4
  a4 := Try.isAgg4
  z4 := Try.sizeOf4
  v4 := Try.zeroValue4
  t5 := Try.underlying5
  a5 := Try.isAgg5
  z5 := Try.sizeOf5
  v5 := Try.zeroValue5
  t9 := Try.underlying9
  a9 := Try.isAgg9
  z9 := Try.sizeOf9
  v9 := Try.zeroValue9
  t22 := Try.underlying22
  a22 := Try.isAgg22
  z22 := Try.sizeOf22
  v22 := Try.zeroValue22
  t23 := Try.underlying22
  a23 := Try.isAgg22
  z23 := Try.sizeOf22
  v23 := Try.zeroValue22
  t25 := Try.underlying2
  a25 := Try.isAgg2
  z25 := Try.sizeOf2
  v25 := Try.zeroValue2
  t32 := Try.underlying51
  a32 := Try.isAgg51
  z32 := Try.sizeOf51
  v32 := Try.zeroValue51
  t35 := Try.underlying64
  a35 := Try.isAgg64
  z35 := Try.sizeOf64
  v35 := Try.zeroValue64
  t36 := Try.underlying65
  a36 := Try.isAgg65
  z36 := Try.sizeOf65
  v36 := Try.zeroValue65
  t41 := Try.underlying69
  a41 := Try.isAgg69
  z41 := Try.sizeOf69
  v41 := Try.zeroValue69
  t44 := Try.underlying72
  a44 := Try.isAgg72
  z44 := Try.sizeOf72
  v44 := Try.zeroValue72
  t46 := Try.underlying57
  a46 := Try.isAgg57
  z46 := Try.sizeOf57
  v46 := Try.zeroValue57
  t53 := Try.underlying78
  a53 := Try.isAgg78
  z53 := Try.sizeOf78
  v53 := Try.zeroValue78
  t57 := Try.underlying82
  a57 := Try.isAgg82
  z57 := Try.sizeOf82
  v57 := Try.zeroValue82
  t63 := Try.underlying84
  a63 := Try.isAgg84
  z63 := Try.sizeOf84
  v63 := Try.zeroValue84
  t64 := Try.underlying85
  a64 := Try.isAgg85
  z64 := Try.sizeOf85
  v64 := Try.zeroValue85

end Go.Proofs.Ytjllngcefoohpaa


/-! Definable upsets: the program. -/
namespace Go.Proofs.Ytjllngcefoohpaa
open Go.RowKit Go.Abs

theorem isUpsetG_c (n : Int) (xs : List Int) (m : Int) (hR : okFr n xs = true) : CallA Try.prog 29 [.agg [AI n, LI xs], AI m] (.bool (!(outU n xs m))) := by
  have hF := okFr_rel hR
  have hRel : RelOK n.toNat xs := hF.2.2.2
  have hb0 : 0 ≤ n ∧ n ≤ 8 ∧ (xs.length : Int) = n := ⟨hF.1, hF.2.1, hF.2.2.1⟩
  have hN8 : n.toNat ≤ 30 := by omega
  refine CallA.of Try.func29 rfl (by kernel_rfl) ?_
  refine R.go 10 (R.call true (isMask_c n m) (by kernel_rfl) rfl (by kernel_rfl) ?_)
  refine R.go 1 ?_
  refine (Bool.eq_false_or_eq_true (outR n m)).elim (fun c1 => ?_) (fun c1 => ?_)
  · refine R.skp (!(outR n m)) true (by kernel_rfl) (bnF c1) (by kernel_rfl) ?_
    skip
    refine R.skp (!(outR n m)) true (by kernel_rfl) (bnF c1) (by kernel_rfl) ?_
    refine R.skp (!(outR n m)) true (by kernel_rfl) (bnF c1) (by kernel_rfl) ?_
    refine R.skp (!(outR n m)) true (by kernel_rfl) (bnF c1) (by kernel_rfl) ?_
    refine R.skp (!(outR n m)) true (by kernel_rfl) (bnF c1) (by kernel_rfl) ?_
    refine R.skp (!(outR n m)) true (by kernel_rfl) (bnF c1) (by kernel_rfl) ?_
    refine R.pick (!(outR n m)) false (by kernel_rfl) (bnF c1) (by kernel_rfl) ?_
    exact R.go 2 (R.retE (.bool false) (by kernel_rfl) (by kernel_rfl) (by first | (apply congrArg AV.bool; first | (rw [outU_1 hb0.1 hb0.2.1 (by assumption)]; rfl) | (rw [outU_2 hb0.1 hb0.2.1 (by assumption), Bool.not_not])) | (exfalso; omega)))
  · refine R.want (!(outR n m)) true (by kernel_rfl) (bnT c1) ?_
    skip
    refine R.go 1 (R.want (!(outR n m)) true (by kernel_rfl) (bnT c1) ?_)
    refine R.go 1 (R.want (!(outR n m)) true (by kernel_rfl) (bnT c1) ?_)
    refine R.go 1 (R.want (!(outR n m)) true (by kernel_rfl) (bnT c1) ?_)
    refine R.call true (imageI_c n xs m hR (by first | assumption | exact outR_in hb0.1 hb0.2.1 (by assumption))) (by kernel_rfl) rfl (by kernel_rfl) ?_
    refine R.want (!(outR n m)) true (by kernel_rfl) (bnT c1) ?_
    refine R.go 1 (R.want (!(outR n m)) true (by kernel_rfl) (bnT c1) ?_)
    refine R.go 1 (R.pick (!(outR n m)) true (by kernel_rfl) (bnT c1) (by kernel_rfl) ?_)
    exact R.go 2 (R.retE (.bool (decide ((img xs m xs.length) = m))) (by kernel_rfl) (by kernel_rfl) (by first | (apply congrArg AV.bool; first | (rw [outU_1 hb0.1 hb0.2.1 (by assumption)]; rfl) | (rw [outU_2 hb0.1 hb0.2.1 (by assumption), Bool.not_not])) | (exfalso; omega)))

theorem isVal1_c (m : Int) (n : Int) (xs : List Int) (hR : okFr n xs = true) : CallA Try.prog 28 [AI m, .rptr [AI n, LI xs]] (.bool (outU n xs m)) := by
  refine CallA.of Try.func28 rfl (by kernel_rfl) ?_
  refine R.go 8 (R.call true (isUpsetG_c n xs m hR) (by kernel_rfl) rfl (by kernel_rfl) ?_)
  exact R.go 3 (R.retE (.bool (!(!(outU n xs m)))) (by kernel_rfl) (by kernel_rfl) (by first | (apply congrArg AV.bool; simp) | (exfalso; omega)))

theorem indexVal_c (a : List Int) (n : Int) (xs : List Int) (hR : okFr n xs = true) (hl : a.length ≤ 1000000000) : CallA Try.prog 43 [LI a, .fn 28 [.rptr [AI n, LI xs]]] (AI (fidxI (outU n xs) a 0)) := by
  refine CallA.of Try.func43 rfl (by kernel_rfl) ?_
  refine R.go 12 (R.loop (fun (i : Nat) => (⟨(frm 19 [(0, LI a), (1, .fn 28 [.rptr [AI n, LI xs]]), (7, AI a.length), (8, AI (i : Int))]), []⟩ : St)) (fun (i : Nat) => (i ≤ a.length) ∧ (fidxI (outU n xs) a 0 = fidxI (outU n xs) (a.drop i) i)) (fun (i : Nat) => a.length - i) 0 [0, 1, 7, 8] none (by kernel_rfl) (by kernel_rfl) (by kernel_rfl) ⟨(by omega), (by rfl)⟩ ?_)
  rintro i ⟨h3_1, h3_2⟩ R1 N2
  refine R.go 5 (R.cond ((i : Int) < (a.length : Int)) (by kernel_rfl) (fun c4 => ?_) (fun c4 => ?_))
  · refine R.go 13 (R.idx eI a 0 i (i : Int) (by kernel_rfl) rfl eI_len (by omega) (by kernel_rfl) ?_)
    refine R.go 1 (R.call true (isVal1_c (a.getD i 0) n xs hR) (by kernel_rfl) rfl (by kernel_rfl) ?_)
    refine R.go 1 (R.condB (outU n xs (a.getD i 0)) (by kernel_rfl) (fun c5 => ?_) (fun c5 => ?_))
    · exact R.go 5 (R.retE (AI (i : Int)) (by kernel_rfl) (by kernel_rfl) (by first | (apply congrArg AI; rw [‹fidxI (outU n xs) a 0 = _›]; first | exact (fidxI_end (by omega)).symm | exact (fidxI_hit (by omega) (by assumption)).symm) | (exfalso; omega)))
    · refine R.go 3 (R.ar ((i : Int) + 1) (by kernel_rfl) (by omega) (by omega) (by kernel_rfl) ?_)
      exact R.go 2 (R.stop R1 (by kernel_rfl) (N2 (i + 1) [0, 1, 7, 8] none _ (by kernel_rfl) (by kernel_rfl) ⟨(by omega), (by rw [‹fidxI (outU n xs) a 0 = _›]; exact fidxI_miss (by omega) (by assumption))⟩ (by show (a.length - (i + 1)) < (a.length - i); omega)))
  · exact R.go 5 (R.retE (AI (-1)) (by kernel_rfl) (by kernel_rfl) (by first | (apply congrArg AI; rw [‹fidxI (outU n xs) a 0 = _›]; first | exact (fidxI_end (by omega)).symm | exact (fidxI_hit (by omega) (by assumption)).symm) | (exfalso; omega)))

theorem containsVal_c (a : List Int) (n : Int) (xs : List Int) (hR : okFr n xs = true) (hl : a.length ≤ 1000000000) : CallA Try.prog 27 [LI a, .fn 28 [.rptr [AI n, LI xs]]] (.bool (a.any (outU n xs))) := by
  refine CallA.of Try.func27 rfl (by kernel_rfl) ?_
  refine R.go 8 (R.call true (indexVal_c a n xs hR hl) (by kernel_rfl) rfl (by kernel_rfl) ?_)
  exact R.go 3 (R.retE (.bool (decide ((fidxI (outU n xs) a 0) ≥ 0))) (by kernel_rfl) (by kernel_rfl) (by first | (apply congrArg AV.bool; rw [Bool.eq_iff_iff, decide_eq_true_iff]; exact fidxI_any (Int.le_refl 0)) | (exfalso; omega)))

theorem isValuation_c (n : Int) (xs : List Int) (vs : List Int) (lx : xs.length ≤ 1048576) (lv : vs.length ≤ 1048576) : CallA Try.prog 18 [.agg [AI n, LI xs], LI vs] (.bool (vaB n xs vs)) := by
  refine CallA.of Try.func18 rfl (by kernel_rfl) ?_
  refine R.go 8 (R.call true (isPoset_c n xs (by first | omega | assumption | exact okPo_fr (by assumption))) (by kernel_rfl) rfl (by kernel_rfl) ?_)
  refine R.go 1 ?_
  refine (Bool.eq_false_or_eq_true (okPo n xs)).elim (fun c1 => ?_) (fun c1 => ?_)
  · refine R.want (okPo n xs) true (by kernel_rfl) c1 ?_
    refine R.go 1 (R.want (okPo n xs) true (by kernel_rfl) c1 ?_)
    refine R.go 1 (R.want (okPo n xs) true (by kernel_rfl) c1 ?_)
    refine R.go 1 (R.pick (okPo n xs) true (by kernel_rfl) c1 (by kernel_rfl) ?_)
    refine R.go 1 ?_
    by_cases c2 : (vs.length : Int) = 6
    · refine R.want (decide ((vs.length : Int) = 6)) true (by kernel_rfl) (dT c2) ?_
      refine R.go 1 (R.want (decide ((vs.length : Int) = 6)) true (by kernel_rfl) (dT c2) ?_)
      refine R.go 1 (R.want (decide ((vs.length : Int) = 6)) true (by kernel_rfl) (dT c2) ?_)
      refine R.call false (containsVal_c vs n xs (by first | assumption | exact okPo_fr (by assumption)) (by first | omega | assumption | exact okPo_fr (by assumption))) (by kernel_rfl) rfl (by kernel_rfl) ?_
      refine R.want (decide ((vs.length : Int) = 6)) true (by kernel_rfl) (dT c2) ?_
      refine R.go 1 (R.pick (decide ((vs.length : Int) = 6)) true (by kernel_rfl) (dT c2) (by kernel_rfl) ?_)
      exact R.go 2 (R.retE (.bool (!(vs.any (outU n xs)))) (by kernel_rfl) (by kernel_rfl) (by first | (apply congrArg AV.bool; first | exact va_0 (by assumption) | exact va_1 (by assumption) (vs_no1 (by assumption)) | exact va_1 (by assumption) (vs_yes (by assumption))) | (exfalso; omega)))
    · refine R.skp (decide ((vs.length : Int) = 6)) true (by kernel_rfl) (dF c2) (by kernel_rfl) ?_
      refine R.skp (decide ((vs.length : Int) = 6)) true (by kernel_rfl) (dF c2) (by kernel_rfl) ?_
      refine R.skp (decide ((vs.length : Int) = 6)) true (by kernel_rfl) (dF c2) (by kernel_rfl) ?_
      refine R.skp (decide ((vs.length : Int) = 6)) true (by kernel_rfl) (dF c2) (by kernel_rfl) ?_
      refine R.pick (decide ((vs.length : Int) = 6)) false (by kernel_rfl) (dF c2) (by kernel_rfl) ?_
      exact R.go 2 (R.retE (.bool false) (by kernel_rfl) (by kernel_rfl) (by first | (apply congrArg AV.bool; first | exact va_0 (by assumption) | exact va_1 (by assumption) (vs_no1 (by assumption)) | exact va_1 (by assumption) (vs_yes (by assumption))) | (exfalso; omega)))
  · refine R.skp (okPo n xs) true (by kernel_rfl) c1 (by kernel_rfl) ?_
    refine R.skp (okPo n xs) true (by kernel_rfl) c1 (by kernel_rfl) ?_
    refine R.skp (okPo n xs) true (by kernel_rfl) c1 (by kernel_rfl) ?_
    refine R.pick (okPo n xs) false (by kernel_rfl) c1 (by kernel_rfl) ?_
    exact R.go 8 (R.retE (.bool false) (by kernel_rfl) (by kernel_rfl) (by first | (apply congrArg AV.bool; first | exact va_0 (by assumption) | exact va_1 (by assumption) (vs_no1 (by assumption)) | exact va_1 (by assumption) (vs_yes (by assumption))) | (exfalso; omega)))

theorem imply2_c (n : Int) (xs : List Int) (a : Int) (b : Int) (h0 : 0 ≤ n) (h1 : n ≤ 62) (hl : xs.length ≤ 60) : CallA Try.prog 20 [.agg [AI n, LI xs], AI a, AI b] (AI (imX n xs a b)) := by
  refine CallA.of Try.func20 rfl (by kernel_rfl) ?_
  refine R.go 10 (R.call true (pAll_c n xs h0 h1) (by kernel_rfl) rfl (by kernel_rfl) ?_)
  refine R.go 4 (R.call true (box_c xs (bor (bnot ((shl64 1 n) - 1) a) b) hl) (by kernel_rfl) rfl (by kernel_rfl) ?_)
  exact R.go 2 (R.retE (AI (boxB xs (bor (bnot ((shl64 1 n) - 1) a) b) xs.length)) (by kernel_rfl) (by kernel_rfl) (by first | (rfl) | (exfalso; omega)))

theorem add1_c (n : Int) (xs : List Int) (x : Int) (L : List Int) (hL : L.length ≤ 256) (hx : 0 ≤ x ∧ x ≤ 255) : CallY Try.prog 4 19 [AI x, .ptr 2 0, .ptr 3 0] [.box 28 [AI n, LI xs], .inert (.map Try.prog 2 4 L), .box 40 [.ref 1], .box 22 [.ref 4], rowA eI 2 1 L] (fun (resX : AV) (objX : List AObj) => ∃ Y : List Int, (Y = adR L x) ∧ resX = .tup [] ∧ objX = [.box 28 [AI n, LI xs], .inert (.map Try.prog 2 4 Y), .box 40 [.ref 1], .box 22 [.ref 4], rowA eI 2 1 Y]) := by
  refine CallY.dropE (CallY.ofF Try.func19 rfl (by kernel_rfl) ?_)
  intro usC frC hfC hkC
  refine R.go 4 (R.look 2 4 1 x L (by kernel_rfl) (by kernel_rfl) (by kernel_rfl) (by omega) (by omega) ?_)
  refine R.go 2 (R.condN (x ∈ L) (by kernel_rfl) (fun c1 => ?_) (fun c1 => ?_))
  · refine R.go 4 (R.mapSet 2 4 1 x L (by kernel_rfl) (by kernel_rfl) (by kernel_rfl) (by kernel_rfl) (by omega) (by omega) (by omega) ?_)
    refine R.go 5 (R.app eI L [x] 4 2 1 8 (by kernel_rfl) eI_one (by decide) (by first | omega | (simp <;> omega)) (by kernel_rfl) ?_)
    refine R.kfix 5 (us := usC) (by kernel_rfl) hkC ?_
    exact R.go 2 (R.retX (res := .tup []) (hp' := [.box 28 [AI n, LI xs], .inert (.map Try.prog 2 4 (L ++ [x])), .box 40 [.ref 1], .box 22 [.ref 4], rowA eI 2 1 (L ++ [x]), .dead, rowA eI 2 1 [x]]) (by kernel_rfl) (by kernel_rfl) (by kernel_rfl) (by kernel_rfl) ⟨[0, 1, 2, 3, 4], by kernel_rfl, by decide, L ++ [x], by first | exact adR_y (by assumption) | exact adR_n (by assumption), by kernel_rfl, by kernel_rfl⟩)
  · exact R.go 1 (R.retX (res := .tup []) (hp' := [.box 28 [AI n, LI xs], .inert (.map Try.prog 2 4 L), .box 40 [.ref 1], .box 22 [.ref 4], rowA eI 2 1 L, .dead]) (by kernel_rfl) (by kernel_rfl) (by kernel_rfl) (by kernel_rfl) ⟨[0, 1, 2, 3, 4], by kernel_rfl, by decide, L, by first | exact adR_y (by assumption) | exact adR_n (by assumption), by kernel_rfl, by kernel_rfl⟩)

theorem add2_c (n : Int) (xs : List Int) (x : Int) (L : List Int) (hL : L.length ≤ 256) (hx : 0 ≤ x ∧ x ≤ 255) : CallY Try.prog 2 19 [AI x, .ptr 3 0, .ptr 1 0] [.box 28 [AI n, LI xs], .box 22 [.ref 2], rowA eI 2 1 L, .box 40 [.ref 4], .inert (.map Try.prog 2 4 L)] (fun (resX : AV) (objX : List AObj) => ∃ Y : List Int, (Y = adR L x) ∧ resX = .tup [] ∧ objX = [.box 28 [AI n, LI xs], .box 22 [.ref 2], rowA eI 2 1 Y, .box 40 [.ref 4], .inert (.map Try.prog 2 4 Y)]) := by
  refine CallY.dropE (CallY.ofF Try.func19 rfl (by kernel_rfl) ?_)
  intro usC frC hfC hkC
  refine R.go 4 (R.look 2 4 4 x L (by kernel_rfl) (by kernel_rfl) (by kernel_rfl) (by omega) (by omega) ?_)
  refine R.go 2 (R.condN (x ∈ L) (by kernel_rfl) (fun c1 => ?_) (fun c1 => ?_))
  · refine R.go 4 (R.mapSet 2 4 4 x L (by kernel_rfl) (by kernel_rfl) (by kernel_rfl) (by kernel_rfl) (by omega) (by omega) (by omega) ?_)
    refine R.go 5 (R.app eI L [x] 2 2 1 8 (by kernel_rfl) eI_one (by decide) (by first | omega | (simp <;> omega)) (by kernel_rfl) ?_)
    refine R.kfix 5 (us := usC) (by kernel_rfl) hkC ?_
    exact R.go 2 (R.retX (res := .tup []) (hp' := [.box 28 [AI n, LI xs], .box 22 [.ref 2], rowA eI 2 1 (L ++ [x]), .box 40 [.ref 4], .inert (.map Try.prog 2 4 (L ++ [x])), .dead, rowA eI 2 1 [x]]) (by kernel_rfl) (by kernel_rfl) (by kernel_rfl) (by kernel_rfl) ⟨[0, 1, 2, 3, 4], by kernel_rfl, by decide, L ++ [x], by first | exact adR_y (by assumption) | exact adR_n (by assumption), by kernel_rfl, by kernel_rfl⟩)
  · exact R.go 1 (R.retX (res := .tup []) (hp' := [.box 28 [AI n, LI xs], .box 22 [.ref 2], rowA eI 2 1 L, .box 40 [.ref 4], .inert (.map Try.prog 2 4 L), .dead]) (by kernel_rfl) (by kernel_rfl) (by kernel_rfl) (by kernel_rfl) ⟨[0, 1, 2, 3, 4], by kernel_rfl, by decide, L, by first | exact adR_y (by assumption) | exact adR_n (by assumption), by kernel_rfl, by kernel_rfl⟩)

theorem sort5_c (n : Int) (xs L : List Int) (hl : L.length ≤ 1000000000) : CallX Try.prog 21 [.ref 2] [.box 28 [AI n, LI xs], .box 22 [.ref 2], rowA eI 2 1 L, .box 40 [.ref 4], .inert (.map Try.prog 2 4 L)] (fun (resX : AV) (objX : List AObj) => resX = .tup [] ∧ objX = [.box 28 [AI n, LI xs], .box 22 [.ref 2], rowA eI 2 1 (srtI L), .box 40 [.ref 4], .inert (.map Try.prog 2 4 L)]) := (CallS.sortAt srtLay (enters_of Try.func21 (by kernel_rfl) rfl) 2 2 L [.box 28 [AI n, LI xs], .box 22 [.ref 2], rowA eI 2 1 L, .box 40 [.ref 4], .inert (.map Try.prog 2 4 L)] rfl hl).toX

set_option maxHeartbeats 2000000 in
theorem DU_impl (n : Int) (xs : List Int) (vs : List Int) (lx : xs.length ≤ 1048576) (lv : vs.length ≤ 1048576) : CallA Try.prog 8 [.agg [AI n, LI xs], LI vs] (.tup [ownA eI 2 1 (duR n xs vs), AI (duC n xs vs)]) := by
  refine CallA.of Try.func8 rfl (by kernel_rfl) ?_
  refine R.go 11 (R.call true (isValuation_c n xs vs lx lv) (by kernel_rfl) rfl (by kernel_rfl) ?_)
  refine R.go 2 (R.condM (vaB n xs vs) (by kernel_rfl) (fun c1 => ?_) (fun c1 => ?_))
  · obtain ⟨hc1, hc2⟩ := du_bad (n := n) (xs := xs) (vs := vs) (by assumption)
    refine R.go 5 (R.nil 4 2 1 (by kernel_rfl) ?_)
    exact R.retE (.tup [ownA eI 2 1 [], AI 1]) (by kernel_rfl) (by kernel_rfl) (by first | (first | (rw [hc1, hc2]; done) | (rw [hc1, hc2, du_srt (duO_ok hR hL0 i), duF_eq hie (by omega)])) | (exfalso; omega))
  · have hV : vaB n xs vs = true := by assumption
    obtain ⟨hR, hv6, hvin⟩ := vaB_in hV
    have hr := okFr_rel hR
    have hb : 0 ≤ n ∧ n ≤ 8 ∧ (xs.length : Int) = n := ⟨hr.1, hr.2.1, hr.2.2.1⟩
    have hk8 : n.toNat ≤ 8 := by omega
    have hL0 : OKL n.toNat (adL [0] vs) := adL_ok (okl_0 _) hvin
    obtain ⟨hc1, hc2⟩ := du_good hV
    refine R.go 3 (R.mkMap 2 4 (by kernel_rfl) (by kernel_rfl) ?_)
    refine R.go 14 (R.nilB 3 0 2 1 (by kernel_rfl) ?_)
    refine R.go 1 (R.callY (add1_c n xs 0 [] (by first | assumption | simp) (by first | assumption | decide)) (by kernel_rfl) (by kernel_rfl) (by kernel_rfl) (by kernel_rfl) ?_)
    rintro _ _ ⟨Y_2, f3, rfl, rfl⟩
    refine R.go 9 (R.loop ((fun | (v, L, M) => (⟨(frm 78 [(2, .ptr 0 0), (7, .ptr 1 0), (8, .fn 19 [.ptr 3 0, .ptr 1 0]), (23, LI vs), (24, AI vs.length), (25, AI (v : Int))]), [.box 28 [AI n, LI xs], .box 22 [.ref 2], rowA eI 2 1 L, .box 40 [.ref 4], .inert (.map Try.prog 2 4 M)]⟩ : St) : Nat × (List Int) × (List Int) → St)) (fun | (v, L, M) => (v ≤ vs.length) ∧ (L = adL [0] (vs.take v)) ∧ (M = adL [0] (vs.take v))) (fun | (v, L, M) => vs.length - v) (0, Y_2, Y_2) [2, 7, 8, 23, 24, 25] (some [0, 3, 4, 2, 1]) (by kernel_rfl) (by kernel_rfl) (by kernel_rfl) ⟨(by omega), (by subst_vars; rfl), (by subst_vars; rfl)⟩ ?_)
    rintro ⟨v, L, M⟩ ⟨h7_1, rfl, rfl⟩ R4 N5
    have hq1 := adL_ok (okl_0 n.toNat) (xs := vs.take v) fun x hx => hvin x (List.mem_of_mem_take hx)
    have hl1 := hq1.l8 hk8
    have hx1 := inM_rng hk8 (all_at hvin v)
    refine R.go 5 (R.cond ((v : Int) < (vs.length : Int)) (by kernel_rfl) (fun c8 => ?_) (fun c8 => ?_))
    · refine R.go 5 (R.idx eI vs 0 v (v : Int) (by kernel_rfl) rfl eI_len (by omega) (by kernel_rfl) ?_)
      refine R.go 6 (R.callY (add2_c n xs (vs.getD v 0) (adL [0] (vs.take v)) (by first | assumption | simp) (by first | assumption | decide)) (by kernel_rfl) (by kernel_rfl) (by kernel_rfl) (by kernel_rfl) ?_)
      rintro _ _ ⟨Y_11, f12, rfl, rfl⟩
      refine R.go 3 (R.ar ((v : Int) + 1) (by kernel_rfl) (by omega) (by omega) (by kernel_rfl) ?_)
      exact R.go 2 (R.stop R4 (by kernel_rfl) (N5 (v + 1, Y_11, Y_11) [2, 7, 8, 23, 24, 25] none _ (by kernel_rfl) (by kernel_rfl) ⟨(by omega), (by subst_vars; exact adL_s (by omega)), (by subst_vars; exact adL_s (by omega))⟩ (by show (vs.length - (v + 1)) < (vs.length - v); omega)))
    · refine R.go 7 (R.loop ((fun | (i, L, M) => (⟨(frm 78 [(2, .ptr 0 0), (7, .ptr 1 0), (8, .fn 19 [.ptr 3 0, .ptr 1 0]), (11, AI (i : Int))]), [.box 28 [AI n, LI xs], .box 22 [.ref 2], rowA eI 2 1 L, .box 40 [.ref 4], .inert (.map Try.prog 2 4 M)]⟩ : St) : Nat × (List Int) × (List Int) → St)) (fun | (i, L, M) => (i ≤ (duO n xs (adL [0] vs) i).length) ∧ (L = duO n xs (adL [0] vs) i) ∧ (M = duO n xs (adL [0] vs) i)) (fun | (i, L, M) => 256 - i) (0, (adL [0] (vs.take v)), (adL [0] (vs.take v))) [2, 7, 8, 11] none (by kernel_rfl) (by kernel_rfl) (by kernel_rfl) ⟨(by omega), (by exact adL_e (by omega)), (by exact adL_e (by omega))⟩ ?_)
      rintro ⟨i, L, M⟩ ⟨h16_1, rfl, rfl⟩ R13 N14
      have ho := duO_ok hR hL0 i
      have hlo := ho.l8 hk8
      refine R.go 8 (R.cond ((i : Int) < ((duO n xs (adL [0] vs) i).length : Int)) (by kernel_rfl) (fun c17 => ?_) (fun c17 => ?_))
      · refine R.go 6 (R.ar ((i : Int) + 1) (by kernel_rfl) (by omega) (by omega) (by kernel_rfl) ?_)
        refine R.go 3 (R.loop ((fun | (j, L, M) => (⟨(frm 78 [(2, .ptr 0 0), (7, .ptr 1 0), (8, .fn 19 [.ptr 3 0, .ptr 1 0]), (11, AI (i : Int)), (40, AI ((i : Int) + 1)), (41, AI (j : Int))]), [.box 28 [AI n, LI xs], .box 22 [.ref 2], rowA eI 2 1 L, .box 40 [.ref 4], .inert (.map Try.prog 2 4 M)]⟩ : St) : Nat × (List Int) × (List Int) → St)) (fun | (j, L, M) => (j ≤ i + 1) ∧ (L = duI n xs (duO n xs (adL [0] vs) i) i j) ∧ (M = duI n xs (duO n xs (adL [0] vs) i) i j)) (fun | (j, L, M) => i + 1 - j) (0, (duO n xs (adL [0] vs) i), (duO n xs (adL [0] vs) i)) [2, 7, 8, 11, 40, 41] none (by kernel_rfl) (by kernel_rfl) (by kernel_rfl) ⟨(by omega), (by rfl), (by rfl)⟩ ?_)
        rintro ⟨j, L, M⟩ ⟨h21_1, rfl, rfl⟩ R18 N19
        have ho2 := duI_ok hR ho i j
        have hl2 := ho2.l8 hk8
        have hdl := duI_len n xs (duO n xs (adL [0] vs) i) i j
        have hpr := prs_in hR (ho2.at i) (ho2.at j)
        simp only [prs, List.forall_mem_cons] at hpr
        obtain ⟨hp1, hp2, hp3, hp4, _⟩ := hpr
        obtain ⟨hf1, hf2, hf3, hf4, hf5, hf6, hf7, hf8⟩ := fourL hk8 ho2 hp1 hp2 hp3 hp4
        refine R.go 5 (R.cond ((j : Int) < ((i : Int) + 1)) (by kernel_rfl) (fun c22 => ?_) (fun c22 => ?_))
        · refine R.go 9 (R.meet (⟨(frm 78 [(2, .ptr 0 0), (7, .ptr 1 0), (8, .fn 19 [.ptr 3 0, .ptr 1 0]), (11, AI (i : Int)), (12, AI (j : Int)), (13, AI ((duI n xs (duO n xs (adL [0] vs) i) i j).getD i 0)), (14, AI ((duI n xs (duO n xs (adL [0] vs) i) i j).getD j 0)), (40, AI ((i : Int) + 1)), (41, AI (j : Int)), (42, .bool (decide ((j : Int) < ((i : Int) + 1)))), (43, AI (j : Int)), (44, .ref 2), (45, AI (i : Int)), (46, .ptr 2 (i * 1)), (47, AI ((duI n xs (duO n xs (adL [0] vs) i) i j).getD i 0)), (48, .ref 2), (49, AI (j : Int)), (50, .ptr 2 (j * 1)), (51, AI ((duI n xs (duO n xs (adL [0] vs) i) i j).getD j 0))]), [.box 28 [AI n, LI xs], .box 22 [.ref 2], rowA eI 2 1 (duI n xs (duO n xs (adL [0] vs) i) i j), .box 40 [.ref 4], .inert (.map Try.prog 2 4 (duI n xs (duO n xs (adL [0] vs) i) i j))]⟩ : St) (by kernel_rfl) ?_ ?_)
          · refine R.any (by decide +kernel) (by kernel_rfl) ?_
            refine R.anyF 1 (by kernel_rfl) (np_meet _) ?_
            refine R.anyF 5 (by kernel_rfl) (np_meet _) ?_
            refine R.any2 0 4 (by kernel_rfl) (by kernel_rfl) ?_ ?_
            · refine R.go 2 (R.any2 2 4 (by kernel_rfl) (by kernel_rfl) ?_ ?_)
              · refine R.idxO 2 1 (duI n xs (duO n xs (adL [0] vs) i) i j).length i (i : Int) (by kernel_rfl) rfl (by first | omega | (simp only [List.length_set]; omega) | (simp <;> omega)) (by kernel_rfl) ?_
                refine R.go 1 (R.any2 3 4 (by kernel_rfl) (by kernel_rfl) ?_ ?_)
                · refine R.ldI (duI n xs (duO n xs (adL [0] vs) i) i j) i (by kernel_rfl) (by first | omega | (simp only [List.length_set]; omega) | (simp <;> omega)) (by kernel_rfl) ?_
                  refine R.go 1 (R.any2 4 8 (by kernel_rfl) (by kernel_rfl) ?_ ?_)
                  · refine R.go 2 (R.any2 6 8 (by kernel_rfl) (by kernel_rfl) ?_ ?_)
                    · refine R.idxO 2 1 (duI n xs (duO n xs (adL [0] vs) i) i j).length j (j : Int) (by kernel_rfl) rfl (by first | omega | (simp only [List.length_set]; omega) | (simp <;> omega)) (by kernel_rfl) ?_
                      refine R.go 1 (R.any2 7 8 (by kernel_rfl) (by kernel_rfl) ?_ ?_)
                      · refine R.ldI (duI n xs (duO n xs (adL [0] vs) i) i j) j (by kernel_rfl) (by first | omega | (simp only [List.length_set]; omega) | (simp <;> omega)) (by kernel_rfl) ?_
                        refine R.go 1 (R.any1 8 (by kernel_rfl) (by kernel_rfl) ?_)
                        refine R.go 2 (R.any1 9 (by kernel_rfl) (by kernel_rfl) ?_)
                        refine R.go 2 (R.any0 (by kernel_rfl) ?_)
                        exact R.met (by kernel_rfl) (by kernel_rfl)
                      · refine R.go 2 (R.any1 7 (by kernel_rfl) (by kernel_rfl) ?_)
                        refine R.ldI (duI n xs (duO n xs (adL [0] vs) i) i j) j (by kernel_rfl) (by first | omega | (simp only [List.length_set]; omega) | (simp <;> omega)) (by kernel_rfl) ?_
                        refine R.go 1 (R.any1 9 (by kernel_rfl) (by kernel_rfl) ?_)
                        refine R.go 2 (R.any0 (by kernel_rfl) ?_)
                        exact R.met (by kernel_rfl) (by kernel_rfl)
                    · refine R.go 2 (R.any1 6 (by kernel_rfl) (by kernel_rfl) ?_)
                      refine R.idxO 2 1 (duI n xs (duO n xs (adL [0] vs) i) i j).length j (j : Int) (by kernel_rfl) rfl (by first | omega | (simp only [List.length_set]; omega) | (simp <;> omega)) (by kernel_rfl) ?_
                      refine R.go 1 (R.any1 7 (by kernel_rfl) (by kernel_rfl) ?_)
                      refine R.ldI (duI n xs (duO n xs (adL [0] vs) i) i j) j (by kernel_rfl) (by first | omega | (simp only [List.length_set]; omega) | (simp <;> omega)) (by kernel_rfl) ?_
                      refine R.go 1 (R.any1 9 (by kernel_rfl) (by kernel_rfl) ?_)
                      refine R.go 2 (R.any0 (by kernel_rfl) ?_)
                      exact R.met (by kernel_rfl) (by kernel_rfl)
                  · refine R.go 2 (R.any1 4 (by kernel_rfl) (by kernel_rfl) ?_)
                    refine R.go 2 (R.any1 6 (by kernel_rfl) (by kernel_rfl) ?_)
                    refine R.idxO 2 1 (duI n xs (duO n xs (adL [0] vs) i) i j).length j (j : Int) (by kernel_rfl) rfl (by first | omega | (simp only [List.length_set]; omega) | (simp <;> omega)) (by kernel_rfl) ?_
                    refine R.go 1 (R.any1 7 (by kernel_rfl) (by kernel_rfl) ?_)
                    refine R.ldI (duI n xs (duO n xs (adL [0] vs) i) i j) j (by kernel_rfl) (by first | omega | (simp only [List.length_set]; omega) | (simp <;> omega)) (by kernel_rfl) ?_
                    refine R.go 1 (R.any1 9 (by kernel_rfl) (by kernel_rfl) ?_)
                    refine R.go 2 (R.any0 (by kernel_rfl) ?_)
                    exact R.met (by kernel_rfl) (by kernel_rfl)
                · refine R.go 2 (R.any2 3 6 (by kernel_rfl) (by kernel_rfl) ?_ ?_)
                  · refine R.ldI (duI n xs (duO n xs (adL [0] vs) i) i j) i (by kernel_rfl) (by first | omega | (simp only [List.length_set]; omega) | (simp <;> omega)) (by kernel_rfl) ?_
                    refine R.go 1 (R.any2 6 8 (by kernel_rfl) (by kernel_rfl) ?_ ?_)
                    · refine R.idxO 2 1 (duI n xs (duO n xs (adL [0] vs) i) i j).length j (j : Int) (by kernel_rfl) rfl (by first | omega | (simp only [List.length_set]; omega) | (simp <;> omega)) (by kernel_rfl) ?_
                      refine R.go 1 (R.any2 7 8 (by kernel_rfl) (by kernel_rfl) ?_ ?_)
                      · refine R.ldI (duI n xs (duO n xs (adL [0] vs) i) i j) j (by kernel_rfl) (by first | omega | (simp only [List.length_set]; omega) | (simp <;> omega)) (by kernel_rfl) ?_
                        refine R.go 1 (R.any1 8 (by kernel_rfl) (by kernel_rfl) ?_)
                        refine R.go 2 (R.any1 9 (by kernel_rfl) (by kernel_rfl) ?_)
                        refine R.go 2 (R.any0 (by kernel_rfl) ?_)
                        exact R.met (by kernel_rfl) (by kernel_rfl)
                      · refine R.go 2 (R.any1 7 (by kernel_rfl) (by kernel_rfl) ?_)
                        refine R.ldI (duI n xs (duO n xs (adL [0] vs) i) i j) j (by kernel_rfl) (by first | omega | (simp only [List.length_set]; omega) | (simp <;> omega)) (by kernel_rfl) ?_
                        refine R.go 1 (R.any1 9 (by kernel_rfl) (by kernel_rfl) ?_)
                        refine R.go 2 (R.any0 (by kernel_rfl) ?_)
                        exact R.met (by kernel_rfl) (by kernel_rfl)
                    · refine R.go 2 (R.any1 6 (by kernel_rfl) (by kernel_rfl) ?_)
                      refine R.idxO 2 1 (duI n xs (duO n xs (adL [0] vs) i) i j).length j (j : Int) (by kernel_rfl) rfl (by first | omega | (simp only [List.length_set]; omega) | (simp <;> omega)) (by kernel_rfl) ?_
                      refine R.go 1 (R.any1 7 (by kernel_rfl) (by kernel_rfl) ?_)
                      refine R.ldI (duI n xs (duO n xs (adL [0] vs) i) i j) j (by kernel_rfl) (by first | omega | (simp only [List.length_set]; omega) | (simp <;> omega)) (by kernel_rfl) ?_
                      refine R.go 1 (R.any1 9 (by kernel_rfl) (by kernel_rfl) ?_)
                      refine R.go 2 (R.any0 (by kernel_rfl) ?_)
                      exact R.met (by kernel_rfl) (by kernel_rfl)
                  · refine R.idxO 2 1 (duI n xs (duO n xs (adL [0] vs) i) i j).length j (j : Int) (by kernel_rfl) rfl (by first | omega | (simp only [List.length_set]; omega) | (simp <;> omega)) (by kernel_rfl) ?_
                    refine R.go 1 (R.any2 3 7 (by kernel_rfl) (by kernel_rfl) ?_ ?_)
                    · refine R.ldI (duI n xs (duO n xs (adL [0] vs) i) i j) i (by kernel_rfl) (by first | omega | (simp only [List.length_set]; omega) | (simp <;> omega)) (by kernel_rfl) ?_
                      refine R.go 1 (R.any2 7 8 (by kernel_rfl) (by kernel_rfl) ?_ ?_)
                      · refine R.ldI (duI n xs (duO n xs (adL [0] vs) i) i j) j (by kernel_rfl) (by first | omega | (simp only [List.length_set]; omega) | (simp <;> omega)) (by kernel_rfl) ?_
                        refine R.go 1 (R.any1 8 (by kernel_rfl) (by kernel_rfl) ?_)
                        refine R.go 2 (R.any1 9 (by kernel_rfl) (by kernel_rfl) ?_)
                        refine R.go 2 (R.any0 (by kernel_rfl) ?_)
                        exact R.met (by kernel_rfl) (by kernel_rfl)
                      · refine R.go 2 (R.any1 7 (by kernel_rfl) (by kernel_rfl) ?_)
                        refine R.ldI (duI n xs (duO n xs (adL [0] vs) i) i j) j (by kernel_rfl) (by first | omega | (simp only [List.length_set]; omega) | (simp <;> omega)) (by kernel_rfl) ?_
                        refine R.go 1 (R.any1 9 (by kernel_rfl) (by kernel_rfl) ?_)
                        refine R.go 2 (R.any0 (by kernel_rfl) ?_)
                        exact R.met (by kernel_rfl) (by kernel_rfl)
                    · refine R.ldI (duI n xs (duO n xs (adL [0] vs) i) i j) j (by kernel_rfl) (by first | omega | (simp only [List.length_set]; omega) | (simp <;> omega)) (by kernel_rfl) ?_
                      refine R.go 1 (R.any1 3 (by kernel_rfl) (by kernel_rfl) ?_)
                      refine R.ldI (duI n xs (duO n xs (adL [0] vs) i) i j) i (by kernel_rfl) (by first | omega | (simp only [List.length_set]; omega) | (simp <;> omega)) (by kernel_rfl) ?_
                      refine R.go 1 (R.any1 8 (by kernel_rfl) (by kernel_rfl) ?_)
                      refine R.go 2 (R.any1 9 (by kernel_rfl) (by kernel_rfl) ?_)
                      refine R.go 2 (R.any0 (by kernel_rfl) ?_)
                      exact R.met (by kernel_rfl) (by kernel_rfl)
              · refine R.go 2 (R.any2 2 6 (by kernel_rfl) (by kernel_rfl) ?_ ?_)
                · refine R.idxO 2 1 (duI n xs (duO n xs (adL [0] vs) i) i j).length i (i : Int) (by kernel_rfl) rfl (by first | omega | (simp only [List.length_set]; omega) | (simp <;> omega)) (by kernel_rfl) ?_
                  refine R.go 1 (R.any2 3 6 (by kernel_rfl) (by kernel_rfl) ?_ ?_)
                  · refine R.ldI (duI n xs (duO n xs (adL [0] vs) i) i j) i (by kernel_rfl) (by first | omega | (simp only [List.length_set]; omega) | (simp <;> omega)) (by kernel_rfl) ?_
                    refine R.go 1 (R.any2 6 8 (by kernel_rfl) (by kernel_rfl) ?_ ?_)
                    · refine R.idxO 2 1 (duI n xs (duO n xs (adL [0] vs) i) i j).length j (j : Int) (by kernel_rfl) rfl (by first | omega | (simp only [List.length_set]; omega) | (simp <;> omega)) (by kernel_rfl) ?_
                      refine R.go 1 (R.any2 7 8 (by kernel_rfl) (by kernel_rfl) ?_ ?_)
                      · refine R.ldI (duI n xs (duO n xs (adL [0] vs) i) i j) j (by kernel_rfl) (by first | omega | (simp only [List.length_set]; omega) | (simp <;> omega)) (by kernel_rfl) ?_
                        refine R.go 1 (R.any1 8 (by kernel_rfl) (by kernel_rfl) ?_)
                        refine R.go 2 (R.any1 9 (by kernel_rfl) (by kernel_rfl) ?_)
                        refine R.go 2 (R.any0 (by kernel_rfl) ?_)
                        exact R.met (by kernel_rfl) (by kernel_rfl)
                      · refine R.go 2 (R.any1 7 (by kernel_rfl) (by kernel_rfl) ?_)
                        refine R.ldI (duI n xs (duO n xs (adL [0] vs) i) i j) j (by kernel_rfl) (by first | omega | (simp only [List.length_set]; omega) | (simp <;> omega)) (by kernel_rfl) ?_
                        refine R.go 1 (R.any1 9 (by kernel_rfl) (by kernel_rfl) ?_)
                        refine R.go 2 (R.any0 (by kernel_rfl) ?_)
                        exact R.met (by kernel_rfl) (by kernel_rfl)
                    · refine R.go 2 (R.any1 6 (by kernel_rfl) (by kernel_rfl) ?_)
                      refine R.idxO 2 1 (duI n xs (duO n xs (adL [0] vs) i) i j).length j (j : Int) (by kernel_rfl) rfl (by first | omega | (simp only [List.length_set]; omega) | (simp <;> omega)) (by kernel_rfl) ?_
                      refine R.go 1 (R.any1 7 (by kernel_rfl) (by kernel_rfl) ?_)
                      refine R.ldI (duI n xs (duO n xs (adL [0] vs) i) i j) j (by kernel_rfl) (by first | omega | (simp only [List.length_set]; omega) | (simp <;> omega)) (by kernel_rfl) ?_
                      refine R.go 1 (R.any1 9 (by kernel_rfl) (by kernel_rfl) ?_)
                      refine R.go 2 (R.any0 (by kernel_rfl) ?_)
                      exact R.met (by kernel_rfl) (by kernel_rfl)
                  · refine R.idxO 2 1 (duI n xs (duO n xs (adL [0] vs) i) i j).length j (j : Int) (by kernel_rfl) rfl (by first | omega | (simp only [List.length_set]; omega) | (simp <;> omega)) (by kernel_rfl) ?_
                    refine R.go 1 (R.any2 3 7 (by kernel_rfl) (by kernel_rfl) ?_ ?_)
                    · refine R.ldI (duI n xs (duO n xs (adL [0] vs) i) i j) i (by kernel_rfl) (by first | omega | (simp only [List.length_set]; omega) | (simp <;> omega)) (by kernel_rfl) ?_
                      refine R.go 1 (R.any2 7 8 (by kernel_rfl) (by kernel_rfl) ?_ ?_)
                      · refine R.ldI (duI n xs (duO n xs (adL [0] vs) i) i j) j (by kernel_rfl) (by first | omega | (simp only [List.length_set]; omega) | (simp <;> omega)) (by kernel_rfl) ?_
                        refine R.go 1 (R.any1 8 (by kernel_rfl) (by kernel_rfl) ?_)
                        refine R.go 2 (R.any1 9 (by kernel_rfl) (by kernel_rfl) ?_)
                        refine R.go 2 (R.any0 (by kernel_rfl) ?_)
                        exact R.met (by kernel_rfl) (by kernel_rfl)
                      · refine R.go 2 (R.any1 7 (by kernel_rfl) (by kernel_rfl) ?_)
                        refine R.ldI (duI n xs (duO n xs (adL [0] vs) i) i j) j (by kernel_rfl) (by first | omega | (simp only [List.length_set]; omega) | (simp <;> omega)) (by kernel_rfl) ?_
                        refine R.go 1 (R.any1 9 (by kernel_rfl) (by kernel_rfl) ?_)
                        refine R.go 2 (R.any0 (by kernel_rfl) ?_)
                        exact R.met (by kernel_rfl) (by kernel_rfl)
                    · refine R.ldI (duI n xs (duO n xs (adL [0] vs) i) i j) j (by kernel_rfl) (by first | omega | (simp only [List.length_set]; omega) | (simp <;> omega)) (by kernel_rfl) ?_
                      refine R.go 1 (R.any1 3 (by kernel_rfl) (by kernel_rfl) ?_)
                      refine R.ldI (duI n xs (duO n xs (adL [0] vs) i) i j) i (by kernel_rfl) (by first | omega | (simp only [List.length_set]; omega) | (simp <;> omega)) (by kernel_rfl) ?_
                      refine R.go 1 (R.any1 8 (by kernel_rfl) (by kernel_rfl) ?_)
                      refine R.go 2 (R.any1 9 (by kernel_rfl) (by kernel_rfl) ?_)
                      refine R.go 2 (R.any0 (by kernel_rfl) ?_)
                      exact R.met (by kernel_rfl) (by kernel_rfl)
                · refine R.idxO 2 1 (duI n xs (duO n xs (adL [0] vs) i) i j).length j (j : Int) (by kernel_rfl) rfl (by first | omega | (simp only [List.length_set]; omega) | (simp <;> omega)) (by kernel_rfl) ?_
                  refine R.go 1 (R.any2 2 7 (by kernel_rfl) (by kernel_rfl) ?_ ?_)
                  · refine R.idxO 2 1 (duI n xs (duO n xs (adL [0] vs) i) i j).length i (i : Int) (by kernel_rfl) rfl (by first | omega | (simp only [List.length_set]; omega) | (simp <;> omega)) (by kernel_rfl) ?_
                    refine R.go 1 (R.any2 3 7 (by kernel_rfl) (by kernel_rfl) ?_ ?_)
                    · refine R.ldI (duI n xs (duO n xs (adL [0] vs) i) i j) i (by kernel_rfl) (by first | omega | (simp only [List.length_set]; omega) | (simp <;> omega)) (by kernel_rfl) ?_
                      refine R.go 1 (R.any2 7 8 (by kernel_rfl) (by kernel_rfl) ?_ ?_)
                      · refine R.ldI (duI n xs (duO n xs (adL [0] vs) i) i j) j (by kernel_rfl) (by first | omega | (simp only [List.length_set]; omega) | (simp <;> omega)) (by kernel_rfl) ?_
                        refine R.go 1 (R.any1 8 (by kernel_rfl) (by kernel_rfl) ?_)
                        refine R.go 2 (R.any1 9 (by kernel_rfl) (by kernel_rfl) ?_)
                        refine R.go 2 (R.any0 (by kernel_rfl) ?_)
                        exact R.met (by kernel_rfl) (by kernel_rfl)
                      · refine R.go 2 (R.any1 7 (by kernel_rfl) (by kernel_rfl) ?_)
                        refine R.ldI (duI n xs (duO n xs (adL [0] vs) i) i j) j (by kernel_rfl) (by first | omega | (simp only [List.length_set]; omega) | (simp <;> omega)) (by kernel_rfl) ?_
                        refine R.go 1 (R.any1 9 (by kernel_rfl) (by kernel_rfl) ?_)
                        refine R.go 2 (R.any0 (by kernel_rfl) ?_)
                        exact R.met (by kernel_rfl) (by kernel_rfl)
                    · refine R.ldI (duI n xs (duO n xs (adL [0] vs) i) i j) j (by kernel_rfl) (by first | omega | (simp only [List.length_set]; omega) | (simp <;> omega)) (by kernel_rfl) ?_
                      refine R.go 1 (R.any1 3 (by kernel_rfl) (by kernel_rfl) ?_)
                      refine R.ldI (duI n xs (duO n xs (adL [0] vs) i) i j) i (by kernel_rfl) (by first | omega | (simp only [List.length_set]; omega) | (simp <;> omega)) (by kernel_rfl) ?_
                      refine R.go 1 (R.any1 8 (by kernel_rfl) (by kernel_rfl) ?_)
                      refine R.go 2 (R.any1 9 (by kernel_rfl) (by kernel_rfl) ?_)
                      refine R.go 2 (R.any0 (by kernel_rfl) ?_)
                      exact R.met (by kernel_rfl) (by kernel_rfl)
                  · refine R.ldI (duI n xs (duO n xs (adL [0] vs) i) i j) j (by kernel_rfl) (by first | omega | (simp only [List.length_set]; omega) | (simp <;> omega)) (by kernel_rfl) ?_
                    refine R.go 1 (R.any1 2 (by kernel_rfl) (by kernel_rfl) ?_)
                    refine R.idxO 2 1 (duI n xs (duO n xs (adL [0] vs) i) i j).length i (i : Int) (by kernel_rfl) rfl (by first | omega | (simp only [List.length_set]; omega) | (simp <;> omega)) (by kernel_rfl) ?_
                    refine R.go 1 (R.any1 3 (by kernel_rfl) (by kernel_rfl) ?_)
                    refine R.ldI (duI n xs (duO n xs (adL [0] vs) i) i j) i (by kernel_rfl) (by first | omega | (simp only [List.length_set]; omega) | (simp <;> omega)) (by kernel_rfl) ?_
                    refine R.go 1 (R.any1 8 (by kernel_rfl) (by kernel_rfl) ?_)
                    refine R.go 2 (R.any1 9 (by kernel_rfl) (by kernel_rfl) ?_)
                    refine R.go 2 (R.any0 (by kernel_rfl) ?_)
                    exact R.met (by kernel_rfl) (by kernel_rfl)
            · refine R.go 2 (R.any2 0 6 (by kernel_rfl) (by kernel_rfl) ?_ ?_)
              · refine R.go 2 (R.any2 2 6 (by kernel_rfl) (by kernel_rfl) ?_ ?_)
                · refine R.idxO 2 1 (duI n xs (duO n xs (adL [0] vs) i) i j).length i (i : Int) (by kernel_rfl) rfl (by first | omega | (simp only [List.length_set]; omega) | (simp <;> omega)) (by kernel_rfl) ?_
                  refine R.go 1 (R.any2 3 6 (by kernel_rfl) (by kernel_rfl) ?_ ?_)
                  · refine R.ldI (duI n xs (duO n xs (adL [0] vs) i) i j) i (by kernel_rfl) (by first | omega | (simp only [List.length_set]; omega) | (simp <;> omega)) (by kernel_rfl) ?_
                    refine R.go 1 (R.any2 6 8 (by kernel_rfl) (by kernel_rfl) ?_ ?_)
                    · refine R.idxO 2 1 (duI n xs (duO n xs (adL [0] vs) i) i j).length j (j : Int) (by kernel_rfl) rfl (by first | omega | (simp only [List.length_set]; omega) | (simp <;> omega)) (by kernel_rfl) ?_
                      refine R.go 1 (R.any2 7 8 (by kernel_rfl) (by kernel_rfl) ?_ ?_)
                      · refine R.ldI (duI n xs (duO n xs (adL [0] vs) i) i j) j (by kernel_rfl) (by first | omega | (simp only [List.length_set]; omega) | (simp <;> omega)) (by kernel_rfl) ?_
                        refine R.go 1 (R.any1 8 (by kernel_rfl) (by kernel_rfl) ?_)
                        refine R.go 2 (R.any1 9 (by kernel_rfl) (by kernel_rfl) ?_)
                        refine R.go 2 (R.any0 (by kernel_rfl) ?_)
                        exact R.met (by kernel_rfl) (by kernel_rfl)
                      · refine R.go 2 (R.any1 7 (by kernel_rfl) (by kernel_rfl) ?_)
                        refine R.ldI (duI n xs (duO n xs (adL [0] vs) i) i j) j (by kernel_rfl) (by first | omega | (simp only [List.length_set]; omega) | (simp <;> omega)) (by kernel_rfl) ?_
                        refine R.go 1 (R.any1 9 (by kernel_rfl) (by kernel_rfl) ?_)
                        refine R.go 2 (R.any0 (by kernel_rfl) ?_)
                        exact R.met (by kernel_rfl) (by kernel_rfl)
                    · refine R.go 2 (R.any1 6 (by kernel_rfl) (by kernel_rfl) ?_)
                      refine R.idxO 2 1 (duI n xs (duO n xs (adL [0] vs) i) i j).length j (j : Int) (by kernel_rfl) rfl (by first | omega | (simp only [List.length_set]; omega) | (simp <;> omega)) (by kernel_rfl) ?_
                      refine R.go 1 (R.any1 7 (by kernel_rfl) (by kernel_rfl) ?_)
                      refine R.ldI (duI n xs (duO n xs (adL [0] vs) i) i j) j (by kernel_rfl) (by first | omega | (simp only [List.length_set]; omega) | (simp <;> omega)) (by kernel_rfl) ?_
                      refine R.go 1 (R.any1 9 (by kernel_rfl) (by kernel_rfl) ?_)
                      refine R.go 2 (R.any0 (by kernel_rfl) ?_)
                      exact R.met (by kernel_rfl) (by kernel_rfl)
                  · refine R.idxO 2 1 (duI n xs (duO n xs (adL [0] vs) i) i j).length j (j : Int) (by kernel_rfl) rfl (by first | omega | (simp only [List.length_set]; omega) | (simp <;> omega)) (by kernel_rfl) ?_
                    refine R.go 1 (R.any2 3 7 (by kernel_rfl) (by kernel_rfl) ?_ ?_)
                    · refine R.ldI (duI n xs (duO n xs (adL [0] vs) i) i j) i (by kernel_rfl) (by first | omega | (simp only [List.length_set]; omega) | (simp <;> omega)) (by kernel_rfl) ?_
                      refine R.go 1 (R.any2 7 8 (by kernel_rfl) (by kernel_rfl) ?_ ?_)
                      · refine R.ldI (duI n xs (duO n xs (adL [0] vs) i) i j) j (by kernel_rfl) (by first | omega | (simp only [List.length_set]; omega) | (simp <;> omega)) (by kernel_rfl) ?_
                        refine R.go 1 (R.any1 8 (by kernel_rfl) (by kernel_rfl) ?_)
                        refine R.go 2 (R.any1 9 (by kernel_rfl) (by kernel_rfl) ?_)
                        refine R.go 2 (R.any0 (by kernel_rfl) ?_)
                        exact R.met (by kernel_rfl) (by kernel_rfl)
                      · refine R.go 2 (R.any1 7 (by kernel_rfl) (by kernel_rfl) ?_)
                        refine R.ldI (duI n xs (duO n xs (adL [0] vs) i) i j) j (by kernel_rfl) (by first | omega | (simp only [List.length_set]; omega) | (simp <;> omega)) (by kernel_rfl) ?_
                        refine R.go 1 (R.any1 9 (by kernel_rfl) (by kernel_rfl) ?_)
                        refine R.go 2 (R.any0 (by kernel_rfl) ?_)
                        exact R.met (by kernel_rfl) (by kernel_rfl)
                    · refine R.ldI (duI n xs (duO n xs (adL [0] vs) i) i j) j (by kernel_rfl) (by first | omega | (simp only [List.length_set]; omega) | (simp <;> omega)) (by kernel_rfl) ?_
                      refine R.go 1 (R.any1 3 (by kernel_rfl) (by kernel_rfl) ?_)
                      refine R.ldI (duI n xs (duO n xs (adL [0] vs) i) i j) i (by kernel_rfl) (by first | omega | (simp only [List.length_set]; omega) | (simp <;> omega)) (by kernel_rfl) ?_
                      refine R.go 1 (R.any1 8 (by kernel_rfl) (by kernel_rfl) ?_)
                      refine R.go 2 (R.any1 9 (by kernel_rfl) (by kernel_rfl) ?_)
                      refine R.go 2 (R.any0 (by kernel_rfl) ?_)
                      exact R.met (by kernel_rfl) (by kernel_rfl)
                · refine R.idxO 2 1 (duI n xs (duO n xs (adL [0] vs) i) i j).length j (j : Int) (by kernel_rfl) rfl (by first | omega | (simp only [List.length_set]; omega) | (simp <;> omega)) (by kernel_rfl) ?_
                  refine R.go 1 (R.any2 2 7 (by kernel_rfl) (by kernel_rfl) ?_ ?_)
                  · refine R.idxO 2 1 (duI n xs (duO n xs (adL [0] vs) i) i j).length i (i : Int) (by kernel_rfl) rfl (by first | omega | (simp only [List.length_set]; omega) | (simp <;> omega)) (by kernel_rfl) ?_
                    refine R.go 1 (R.any2 3 7 (by kernel_rfl) (by kernel_rfl) ?_ ?_)
                    · refine R.ldI (duI n xs (duO n xs (adL [0] vs) i) i j) i (by kernel_rfl) (by first | omega | (simp only [List.length_set]; omega) | (simp <;> omega)) (by kernel_rfl) ?_
                      refine R.go 1 (R.any2 7 8 (by kernel_rfl) (by kernel_rfl) ?_ ?_)
                      · refine R.ldI (duI n xs (duO n xs (adL [0] vs) i) i j) j (by kernel_rfl) (by first | omega | (simp only [List.length_set]; omega) | (simp <;> omega)) (by kernel_rfl) ?_
                        refine R.go 1 (R.any1 8 (by kernel_rfl) (by kernel_rfl) ?_)
                        refine R.go 2 (R.any1 9 (by kernel_rfl) (by kernel_rfl) ?_)
                        refine R.go 2 (R.any0 (by kernel_rfl) ?_)
                        exact R.met (by kernel_rfl) (by kernel_rfl)
                      · refine R.go 2 (R.any1 7 (by kernel_rfl) (by kernel_rfl) ?_)
                        refine R.ldI (duI n xs (duO n xs (adL [0] vs) i) i j) j (by kernel_rfl) (by first | omega | (simp only [List.length_set]; omega) | (simp <;> omega)) (by kernel_rfl) ?_
                        refine R.go 1 (R.any1 9 (by kernel_rfl) (by kernel_rfl) ?_)
                        refine R.go 2 (R.any0 (by kernel_rfl) ?_)
                        exact R.met (by kernel_rfl) (by kernel_rfl)
                    · refine R.ldI (duI n xs (duO n xs (adL [0] vs) i) i j) j (by kernel_rfl) (by first | omega | (simp only [List.length_set]; omega) | (simp <;> omega)) (by kernel_rfl) ?_
                      refine R.go 1 (R.any1 3 (by kernel_rfl) (by kernel_rfl) ?_)
                      refine R.ldI (duI n xs (duO n xs (adL [0] vs) i) i j) i (by kernel_rfl) (by first | omega | (simp only [List.length_set]; omega) | (simp <;> omega)) (by kernel_rfl) ?_
                      refine R.go 1 (R.any1 8 (by kernel_rfl) (by kernel_rfl) ?_)
                      refine R.go 2 (R.any1 9 (by kernel_rfl) (by kernel_rfl) ?_)
                      refine R.go 2 (R.any0 (by kernel_rfl) ?_)
                      exact R.met (by kernel_rfl) (by kernel_rfl)
                  · refine R.ldI (duI n xs (duO n xs (adL [0] vs) i) i j) j (by kernel_rfl) (by first | omega | (simp only [List.length_set]; omega) | (simp <;> omega)) (by kernel_rfl) ?_
                    refine R.go 1 (R.any1 2 (by kernel_rfl) (by kernel_rfl) ?_)
                    refine R.idxO 2 1 (duI n xs (duO n xs (adL [0] vs) i) i j).length i (i : Int) (by kernel_rfl) rfl (by first | omega | (simp only [List.length_set]; omega) | (simp <;> omega)) (by kernel_rfl) ?_
                    refine R.go 1 (R.any1 3 (by kernel_rfl) (by kernel_rfl) ?_)
                    refine R.ldI (duI n xs (duO n xs (adL [0] vs) i) i j) i (by kernel_rfl) (by first | omega | (simp only [List.length_set]; omega) | (simp <;> omega)) (by kernel_rfl) ?_
                    refine R.go 1 (R.any1 8 (by kernel_rfl) (by kernel_rfl) ?_)
                    refine R.go 2 (R.any1 9 (by kernel_rfl) (by kernel_rfl) ?_)
                    refine R.go 2 (R.any0 (by kernel_rfl) ?_)
                    exact R.met (by kernel_rfl) (by kernel_rfl)
              · refine R.idxO 2 1 (duI n xs (duO n xs (adL [0] vs) i) i j).length j (j : Int) (by kernel_rfl) rfl (by first | omega | (simp only [List.length_set]; omega) | (simp <;> omega)) (by kernel_rfl) ?_
                refine R.go 1 (R.any2 0 7 (by kernel_rfl) (by kernel_rfl) ?_ ?_)
                · refine R.go 2 (R.any2 2 7 (by kernel_rfl) (by kernel_rfl) ?_ ?_)
                  · refine R.idxO 2 1 (duI n xs (duO n xs (adL [0] vs) i) i j).length i (i : Int) (by kernel_rfl) rfl (by first | omega | (simp only [List.length_set]; omega) | (simp <;> omega)) (by kernel_rfl) ?_
                    refine R.go 1 (R.any2 3 7 (by kernel_rfl) (by kernel_rfl) ?_ ?_)
                    · refine R.ldI (duI n xs (duO n xs (adL [0] vs) i) i j) i (by kernel_rfl) (by first | omega | (simp only [List.length_set]; omega) | (simp <;> omega)) (by kernel_rfl) ?_
                      refine R.go 1 (R.any2 7 8 (by kernel_rfl) (by kernel_rfl) ?_ ?_)
                      · refine R.ldI (duI n xs (duO n xs (adL [0] vs) i) i j) j (by kernel_rfl) (by first | omega | (simp only [List.length_set]; omega) | (simp <;> omega)) (by kernel_rfl) ?_
                        refine R.go 1 (R.any1 8 (by kernel_rfl) (by kernel_rfl) ?_)
                        refine R.go 2 (R.any1 9 (by kernel_rfl) (by kernel_rfl) ?_)
                        refine R.go 2 (R.any0 (by kernel_rfl) ?_)
                        exact R.met (by kernel_rfl) (by kernel_rfl)
                      · refine R.go 2 (R.any1 7 (by kernel_rfl) (by kernel_rfl) ?_)
                        refine R.ldI (duI n xs (duO n xs (adL [0] vs) i) i j) j (by kernel_rfl) (by first | omega | (simp only [List.length_set]; omega) | (simp <;> omega)) (by kernel_rfl) ?_
                        refine R.go 1 (R.any1 9 (by kernel_rfl) (by kernel_rfl) ?_)
                        refine R.go 2 (R.any0 (by kernel_rfl) ?_)
                        exact R.met (by kernel_rfl) (by kernel_rfl)
                    · refine R.ldI (duI n xs (duO n xs (adL [0] vs) i) i j) j (by kernel_rfl) (by first | omega | (simp only [List.length_set]; omega) | (simp <;> omega)) (by kernel_rfl) ?_
                      refine R.go 1 (R.any1 3 (by kernel_rfl) (by kernel_rfl) ?_)
                      refine R.ldI (duI n xs (duO n xs (adL [0] vs) i) i j) i (by kernel_rfl) (by first | omega | (simp only [List.length_set]; omega) | (simp <;> omega)) (by kernel_rfl) ?_
                      refine R.go 1 (R.any1 8 (by kernel_rfl) (by kernel_rfl) ?_)
                      refine R.go 2 (R.any1 9 (by kernel_rfl) (by kernel_rfl) ?_)
                      refine R.go 2 (R.any0 (by kernel_rfl) ?_)
                      exact R.met (by kernel_rfl) (by kernel_rfl)
                  · refine R.ldI (duI n xs (duO n xs (adL [0] vs) i) i j) j (by kernel_rfl) (by first | omega | (simp only [List.length_set]; omega) | (simp <;> omega)) (by kernel_rfl) ?_
                    refine R.go 1 (R.any1 2 (by kernel_rfl) (by kernel_rfl) ?_)
                    refine R.idxO 2 1 (duI n xs (duO n xs (adL [0] vs) i) i j).length i (i : Int) (by kernel_rfl) rfl (by first | omega | (simp only [List.length_set]; omega) | (simp <;> omega)) (by kernel_rfl) ?_
                    refine R.go 1 (R.any1 3 (by kernel_rfl) (by kernel_rfl) ?_)
                    refine R.ldI (duI n xs (duO n xs (adL [0] vs) i) i j) i (by kernel_rfl) (by first | omega | (simp only [List.length_set]; omega) | (simp <;> omega)) (by kernel_rfl) ?_
                    refine R.go 1 (R.any1 8 (by kernel_rfl) (by kernel_rfl) ?_)
                    refine R.go 2 (R.any1 9 (by kernel_rfl) (by kernel_rfl) ?_)
                    refine R.go 2 (R.any0 (by kernel_rfl) ?_)
                    exact R.met (by kernel_rfl) (by kernel_rfl)
                · refine R.ldI (duI n xs (duO n xs (adL [0] vs) i) i j) j (by kernel_rfl) (by first | omega | (simp only [List.length_set]; omega) | (simp <;> omega)) (by kernel_rfl) ?_
                  refine R.go 1 (R.any1 0 (by kernel_rfl) (by kernel_rfl) ?_)
                  refine R.go 2 (R.any1 2 (by kernel_rfl) (by kernel_rfl) ?_)
                  refine R.idxO 2 1 (duI n xs (duO n xs (adL [0] vs) i) i j).length i (i : Int) (by kernel_rfl) rfl (by first | omega | (simp only [List.length_set]; omega) | (simp <;> omega)) (by kernel_rfl) ?_
                  refine R.go 1 (R.any1 3 (by kernel_rfl) (by kernel_rfl) ?_)
                  refine R.ldI (duI n xs (duO n xs (adL [0] vs) i) i j) i (by kernel_rfl) (by first | omega | (simp only [List.length_set]; omega) | (simp <;> omega)) (by kernel_rfl) ?_
                  refine R.go 1 (R.any1 8 (by kernel_rfl) (by kernel_rfl) ?_)
                  refine R.go 2 (R.any1 9 (by kernel_rfl) (by kernel_rfl) ?_)
                  refine R.go 2 (R.any0 (by kernel_rfl) ?_)
                  exact R.met (by kernel_rfl) (by kernel_rfl)
          · refine R.go 6 (R.callZ (add2_c n xs (band ((duI n xs (duO n xs (adL [0] vs) i) i j).getD i 0) ((duI n xs (duO n xs (adL [0] vs) i) i j).getD j 0)) (duI n xs (duO n xs (adL [0] vs) i) i j) (by first | assumption | simp) (by first | assumption | decide)) (by kernel_rfl) (by kernel_rfl) (by kernel_rfl) ?_)
            rintro _ _ ⟨Y_25, f26, rfl, rfl⟩
            have hla2 : Y_25.length ≤ 256 := by subst_vars; assumption
            refine R.go 7 (R.callY (add2_c n xs (bor ((duI n xs (duO n xs (adL [0] vs) i) i j).getD i 0) ((duI n xs (duO n xs (adL [0] vs) i) i j).getD j 0)) Y_25 hla2 (by first | assumption | decide)) (by kernel_rfl) (by kernel_rfl) (by kernel_rfl) (by kernel_rfl) ?_)
            rintro _ _ ⟨Y_29, f30, rfl, rfl⟩
            have hla3 : Y_29.length ≤ 256 := by subst_vars; assumption
            refine R.go 7 (R.call true (imply2_c n xs ((duI n xs (duO n xs (adL [0] vs) i) i j).getD i 0) ((duI n xs (duO n xs (adL [0] vs) i) i j).getD j 0) (by omega) (by omega) (by first | omega | (simp <;> omega))) (by kernel_rfl) rfl (by kernel_rfl) ?_)
            refine R.callY (add2_c n xs (imX n xs ((duI n xs (duO n xs (adL [0] vs) i) i j).getD i 0) ((duI n xs (duO n xs (adL [0] vs) i) i j).getD j 0)) Y_29 hla3 (by first | assumption | decide)) (by kernel_rfl) (by kernel_rfl) (by kernel_rfl) (by kernel_rfl) ?_
            rintro _ _ ⟨Y_33, f34, rfl, rfl⟩
            have hla4 : Y_33.length ≤ 256 := by subst_vars; assumption
            refine R.go 6 (R.call true (imply2_c n xs ((duI n xs (duO n xs (adL [0] vs) i) i j).getD j 0) ((duI n xs (duO n xs (adL [0] vs) i) i j).getD i 0) (by omega) (by omega) (by first | omega | (simp <;> omega))) (by kernel_rfl) rfl (by kernel_rfl) ?_)
            refine R.callY (add2_c n xs (imX n xs ((duI n xs (duO n xs (adL [0] vs) i) i j).getD j 0) ((duI n xs (duO n xs (adL [0] vs) i) i j).getD i 0)) Y_33 hla4 (by first | assumption | decide)) (by kernel_rfl) (by kernel_rfl) (by kernel_rfl) (by kernel_rfl) ?_
            rintro _ _ ⟨Y_37, f38, rfl, rfl⟩
            refine R.go 3 (R.ar ((j : Int) + 1) (by kernel_rfl) (by omega) (by omega) (by kernel_rfl) ?_)
            exact R.go 2 (R.stop R18 (by kernel_rfl) (N19 (j + 1, Y_37, Y_37) [2, 7, 8, 11, 40, 41] none _ (by kernel_rfl) (by kernel_rfl) ⟨(by omega), (by subst_vars; rfl), (by subst_vars; rfl)⟩ (by show (i + 1 - (j + 1)) < (i + 1 - j); omega)))
        · refine R.go 4 (R.ar ((i : Int) + 1) (by kernel_rfl) (by omega) (by omega) (by kernel_rfl) ?_)
          exact R.go 2 (R.stop R13 (by kernel_rfl) (N14 (i + 1, duI n xs (duO n xs (adL [0] vs) i) i j, duI n xs (duO n xs (adL [0] vs) i) i j) [2, 7, 8, 11] none _ (by kernel_rfl) (by kernel_rfl) ⟨(by have hdl := duI_len n xs (duO n xs (adL [0] vs) i) i j; rw [← duO_s (by omega) (show j = i + 1 by omega)]; omega), (by exact duO_s (by omega) (by omega)), (by exact duO_s (by omega) (by omega))⟩ (by show (256 - (i + 1)) < (256 - i); omega)))
      · have hie : i = (duO n xs (adL [0] vs) i).length := by omega
        refine R.go 4 (R.callX (sort5_c n xs (duO n xs (adL [0] vs) i) (by omega)) (by kernel_rfl) (by kernel_rfl) (by kernel_rfl) ?_)
        rintro _ _ ⟨rfl, rfl⟩
        exact R.go 7 (R.retE (.tup [ownA eI 2 1 (srtI (duO n xs (adL [0] vs) i)), AI 0]) (by kernel_rfl) (by kernel_rfl) (by first | (first | (rw [hc1, hc2]; done) | (rw [hc1, hc2, du_srt (duO_ok hR hL0 i), duF_eq hie (by omega)])) | (exfalso; omega)))

end Go.Proofs.Ytjllngcefoohpaa
