/- Shows of both packages. -/
import Derived.Test.YtkanjgmocmhlkaaGreatJ03
import Derived.Test.YtkanjgmocmhlkaaGreatSymZ
import Derived.Test.YtkanjgmocmhlkaaGreatH04
namespace Go.Proofs.YtkanjgmocmhlkaaGreat
open Go.RowKit Go.Abs

def outU (n : Int) (xs : List Int) (m : Int) : Bool := !(inR m 0 ((shl64 1 n) - 1) && decide (img xs m xs.length = m))
def vsB (n : Int) (xs vs : List Int) : Bool := decide (vs.length = 6) && !vs.any (outU n xs)
def vaB (n : Int) (xs vs : List Int) : Bool := okPo n xs && vsB n xs vs
theorem vaB_po {n : Int} {xs vs : List Int} (h : vaB n xs vs = true) : okPo n xs = true ∧ vs.length = 6 := by
  simp only [vaB, vsB, Bool.and_eq_true, decide_eq_true_eq] at h
  exact ⟨h.1, h.2.1⟩
theorem outR_in {n m : Int} (h0 : 0 ≤ n) (h8 : n ≤ 8) (h : outR n m = false) : InM n.toNat m := by
  have h1 : inR m 0 ((shl64 1 n) - 1) = true := by
    rw [outR, (inR_iff n 0 30).2 (by omega)] at h
    simpa using h
  have h2 := (full_rng (n := n.toNat) (by omega) (m := m)).2
  rw [show ((n.toNat : Nat) : Int) = n by omega] at h2
  exact h2 h1
theorem outU_1 {n m : Int} {xs : List Int} (h0 : 0 ≤ n) (h8 : n ≤ 8) (h : outR n m = true) : outU n xs m = true := by
  rw [outR, (inR_iff n 0 30).2 (by omega)] at h
  have : inR m 0 ((shl64 1 n) - 1) = false := by simpa using h
  rw [outU, this]; rfl
theorem outU_2 {n m : Int} {xs : List Int} (h0 : 0 ≤ n) (h8 : n ≤ 8) (h : outR n m = false) : outU n xs m = !decide (img xs m xs.length = m) := by
  rw [outR, (inR_iff n 0 30).2 (by omega)] at h
  have : inR m 0 ((shl64 1 n) - 1) = true := by simpa using h
  rw [outU, this, Bool.true_and]
theorem vs_no1 {n : Int} {xs vs : List Int} (h : ¬ (vs.length : Int) = 6) : vsB n xs vs = false := by rw [vsB, decide_eq_false (by omega)]; rfl
theorem vs_yes {n : Int} {xs vs : List Int} (h : (vs.length : Int) = 6) : vsB n xs vs = !vs.any (outU n xs) := by rw [vsB, decide_eq_true (by omega)]; rfl
theorem vs_no2 {n : Int} {xs vs : List Int} (h : (vs.any fun m => !inR m 0 ((shl64 1 n) - 1)) = true) : vsB n xs vs = false := by
  rw [List.any_eq_true] at h
  obtain ⟨m, hm, h⟩ := h
  have : vs.any (outU n xs) = true := List.any_eq_true.2 ⟨m, hm, by rw [Bool.not_eq_true'] at h; rw [outU, h]; rfl⟩
  rw [vsB, this]; simp
theorem vs_no3 {n : Int} {xs vs : List Int} {v : Nat} (hv : v < vs.length) (h : ¬ img xs (vs.getD v 0) xs.length = vs.getD v 0) : vsB n xs vs = false := by
  have : vs.any (outU n xs) = true := List.any_eq_true.2 ⟨vs.getD v 0, by rw [List.getD_eq_getElem?_getD, List.getElem?_eq_getElem hv]; exact List.getElem_mem _, by rw [outU, decide_eq_false h, Bool.and_false]; rfl⟩
  rw [vsB, this]; simp
theorem vs_ok {n : Int} {xs vs : List Int} (h6 : (vs.length : Int) = 6) (h : (vs.any fun m => !inR m 0 ((shl64 1 n) - 1)) = false) (hi : ∀ v : Nat, v < vs.length → img xs (vs.getD v 0) xs.length = vs.getD v 0) : vsB n xs vs = true := by
  have : vs.any (outU n xs) = false := by
    rw [List.any_eq_false] at h ⊢
    intro m hm
    have h1 := h m hm
    obtain ⟨j, hj, rfl⟩ := List.getElem_of_mem hm
    have h2 := hi j hj
    rw [List.getD_eq_getElem?_getD, List.getElem?_eq_getElem hj] at h2
    have h2 : img xs vs[j] xs.length = vs[j] := h2
    have h3 : inR vs[j] 0 ((shl64 1 n) - 1) = true := by simpa using h1
    rw [outU, h3, decide_eq_true h2]
    decide
  rw [vs_yes h6, this]; rfl
theorem vs_in {n : Int} {xs vs : List Int} {v : Nat} (h0 : 0 ≤ n) (h8 : n ≤ 8) (hv : v < vs.length) (h : (vs.any fun m => !inR m 0 ((shl64 1 n) - 1)) = false) : InM n.toNat (vs.getD v 0) := by
  have h1 := List.any_eq_false.1 h (vs.getD v 0) (by rw [List.getD_eq_getElem?_getD, List.getElem?_eq_getElem hv]; exact List.getElem_mem _)
  have h2 := (full_rng (n := n.toNat) (by omega) (m := vs.getD v 0)).2
  rw [show ((n.toNat : Nat) : Int) = n by omega] at h2
  exact h2 (by simpa using h1)
theorem va_0 {n : Int} {xs vs : List Int} (h : okPo n xs = false) : false = vaB n xs vs := by simp [vaB, h]
theorem va_1 {n : Int} {xs vs : List Int} {b : Bool} (h : okPo n xs = true) (h2 : vsB n xs vs = b) : b = vaB n xs vs := by rw [vaB, h, h2]; rfl

theorem pe_app : ∀ {a l : List (Int × Int)} {k o : Nat}, pe k a = some a.length → pe (o + k) (a ++ l) = (pe o l).map (· + a.length)
  | [], l, k, o, h => by
    cases k with
    | zero => simp
    | succ k => cases h
  | x :: a, l, k, o, h => by
    cases k with
    | zero => rw [pe_zero] at h; simp at h
    | succ k =>
      rw [pe_succ] at h
      obtain ⟨n, h1, h2⟩ := Option.map_eq_some_iff.1 h
      have h3 : n = a.length := by simp at h2; omega
      subst h3
      have e1 : pe (o + (k + 1)) (x :: a ++ l) = (pe ((o + k) + partsN x.1) (a ++ l)).map (· + 1) := pe_succ (o + k) x (a ++ l)
      rw [e1, show o + k + partsN x.1 = o + (k + partsN x.1) by omega, pe_app h1, Option.map_map]
      congr 1
/-- A plain formula in the first six variables, with a bound of its length. -/
def GF (b : Nat) (a : List (Int × Int)) : Prop := pe 1 a = some a.length ∧ (∀ x ∈ a, 0 ≤ x.1 ∧ x.1 ≤ 4 ∧ (x.1 = 0 → 0 ≤ x.2 ∧ x.2 < 6)) ∧ a.length ≤ b
theorem gf_mono {b c : Nat} {a : List (Int × Int)} (h : GF b a) (hb : b ≤ c) : GF c a := ⟨h.1, h.2.1, by have := h.2.2; omega⟩
theorem gf_okm {b : Nat} {a : List (Int × Int)} (h : GF b a) : OKM 6 a := ⟨h.1, fun x hx => ⟨(h.2.1 x hx).1, by have := (h.2.1 x hx).2.1; omega, (h.2.1 x hx).2.2⟩⟩
theorem gf_plain {b : Nat} {a : List (Int × Int)} (h : GF b a) : a.any modN = false := List.any_eq_false.2 fun x hx => by
  have := (h.2.1 x hx).2.1
  simp [modN]; omega
theorem gf_node {b c d : Nat} {k : Int} {p q : List (Int × Int)} (hk : k = 2 ∨ k = 3 ∨ k = 4) (hp : GF b p) (hq : GF c q) (hd : 1 + b + c ≤ d) : GF d ((k, 0) :: (p ++ q)) := by
  refine ⟨?_, fun x hx => ?_, by have := hp.2.2; have := hq.2.2; simp; omega⟩
  · have e : pe (0 + 1) ((k, 0) :: (p ++ q)) = (pe (0 + partsN k) (p ++ q)).map (· + 1) := pe_succ 0 _ _
    have e2 : pe (1 + 1) (p ++ q) = (pe 1 q).map (· + p.length) := pe_app hp.1
    rw [(partsN_two k).2 hk, show 0 + 2 = 1 + 1 by rfl, e2, hq.1] at e
    rw [show 1 = 0 + 1 by rfl, e]
    simp; omega
  · rcases List.mem_cons.1 hx with rfl | hx
    · exact ⟨by simp; omega, by simp; omega, fun h => by simp at h; omega⟩
    · rcases List.mem_append.1 hx with hx | hx
      · exact hp.2.1 x hx
      · exact hq.2.1 x hx
theorem gf_var {v : Int} (h0 : 0 ≤ v) (h5 : v < 6) : GF 1 [(0, v)] := ⟨rfl, fun x hx => by rw [List.mem_singleton] at hx; subst hx; exact ⟨Int.le_refl 0, (by decide : (0 : Int) ≤ 4), fun _ => ⟨h0, h5⟩⟩, Nat.le_refl _⟩
theorem gf_bot : GF 1 [(1, 0)] := ⟨rfl, fun x hx => by rw [List.mem_singleton] at hx; subst hx; exact ⟨by decide, by decide, fun h => by cases h⟩, Nat.le_refl _⟩
theorem gf_or {l : List (List (Int × Int))} (h : ∀ j : Nat, j < l.length → GF 1 (l.getD j [])) : ∀ i : Nat, 1 ≤ i → i ≤ l.length → GF (2 * i) (orT l i)
  | 0, h1, _ => absurd h1 (by omega)
  | 1, _, h2 => gf_mono (by rw [← orT_one]; exact h 0 (by omega)) (by omega)
  | i + 2, _, h2 => by
    rw [← orT_step (by omega)]
    exact gf_node (.inr (.inl rfl)) (gf_or h (i + 1) (by omega) (by omega)) (h (i + 1) (by omega)) (by omega)
theorem gf_jnd {n : Int} {xs : List Int} {m : Int} (h5 : n ≤ 5) : GF 12 (jnd n xs m) := by
  have hl := mnS_len xs m n.toNat n.toNat
  have hr := mnS_rng xs m n.toNat n.toNat
  unfold jnd
  by_cases h0 : (varL (mnS xs m n.toNat n.toNat)).length = 0
  · rw [← orAll_nil h0]; exact gf_mono gf_bot (by omega)
  · rw [← orAll_some h0 rfl]
    rw [varL_len] at h0 ⊢
    refine gf_mono (gf_or (fun j hj => ?_) _ (by omega) (by rw [varL_len]; omega)) (c := 12) (by omega)
    rw [varL_len] at hj
    rw [varL_get hj]
    have h1 := hr ((mnS xs m n.toNat n.toNat).getD j 0) (by rw [List.getD_eq_getElem?_getD, List.getElem?_eq_getElem hj]; exact List.getElem_mem _)
    exact gf_var h1.1 (by omega)
theorem gf_jc {m : Int} {ys : List Int} (h5 : m ≤ 5) : GF 12 (jcL m ys) := gf_jnd h5
theorem gf_both {b c d : Nat} {p q : List (Int × Int)} (hp : GF b p) (hq : GF c q) (hd : 1 + b + c ≤ d) : ∀ a ∈ bothL p q, GF d a := by
  intro a ha
  simp only [bothL, List.mem_cons, List.not_mem_nil, or_false] at ha
  rcases ha with rfl | rfl
  · exact gf_node (.inr (.inr rfl)) hp hq hd
  · exact gf_node (.inr (.inr rfl)) hq hp (by omega)
theorem gf_con {x y : Nat} (hx : x < 6) (hy : y < 6) : GF 3 (conL x y) := gf_node (.inl rfl) (gf_var (by omega) (by omega)) (gf_var (by omega) (by omega)) (by omega)
theorem gf_imp {x b : Nat} {a : List (Int × Int)} (hx : x < 6) (ha : GF b a) : GF (b + 2) (impL x a) := gf_node (.inr (.inr rfl)) (gf_var (by omega) (by omega)) ha (by omega)
theorem gf_p1y {n : Int} {xs : List Int} {x : Nat} (h5 : n ≤ 5) (hx : x < n.toNat) : ∀ y : Nat, y ≤ n.toNat → ∀ a ∈ p1y n xs x y, GF 60 a
  | 0, _, a, ha => by simp [p1y] at ha
  | y + 1, hy, a, ha => by
    rw [p1y] at ha
    split at ha
    · rcases List.mem_append.1 ha with ha | ha
      · exact gf_p1y h5 hx y (by omega) a ha
      · exact gf_both (gf_con (by omega) (by omega)) (gf_jnd h5) (by omega) a ha
    · exact gf_p1y h5 hx y (by omega) a ha
theorem gf_p1 {n : Int} {xs : List Int} (h5 : n ≤ 5) (h0 : 0 ≤ rootX n xs) (hr : rootX n xs < n) : ∀ x : Nat, x ≤ n.toNat → ∀ a ∈ p1 n xs x, GF 60 a
  | 0, _, a, ha => by
    rw [p1, List.mem_singleton] at ha
    rw [ha]
    exact gf_mono (gf_var h0 (by omega)) (by omega)
  | x + 1, hx, a, ha => by
    rw [p1] at ha
    rcases List.mem_append.1 ha with ha | ha
    · exact gf_p1 h5 h0 hr x (by omega) a ha
    · exact gf_p1y h5 (by omega) _ (Nat.le_refl _) a ha
theorem gf_p2y {n : Int} {xs U : List Int} {x : Nat} (h5 : n ≤ 5) (hx : x < n.toNat) : ∀ y : Nat, ∀ a ∈ p2y n xs U x y, GF 60 a
  | 0, a, ha => by simp [p2y] at ha
  | y + 1, a, ha => by
    rw [p2y] at ha
    rcases List.mem_append.1 ha with ha | ha
    · exact gf_p2y h5 hx y a ha
    · exact gf_both (gf_imp (by omega) (gf_jnd h5)) (gf_jnd h5) (by omega) a ha
theorem gf_p2 {n : Int} {xs U : List Int} (h5 : n ≤ 5) (h0 : 0 ≤ rootX n xs) (hr : rootX n xs < n) : ∀ x : Nat, x ≤ n.toNat → ∀ a ∈ p2 n xs U x, GF 60 a
  | 0, _, a, ha => gf_p1 h5 h0 hr _ (Nat.le_refl _) a ha
  | x + 1, hx, a, ha => by
    rw [p2] at ha
    rcases List.mem_append.1 ha with ha | ha
    · exact gf_p2 h5 h0 hr x (by omega) a ha
    · exact gf_p2y h5 (by omega) _ a ha
theorem jk_len {n : Int} {xs : List Int} (h : okPo n xs = true) : (xs.length : Int) = n ∧ n ≤ 8 := by
  have := okFr_rel (okPo_fr h)
  exact ⟨this.2.2.1, this.2.1⟩
theorem jp_get {m : Int} {ys : List Int} (hP : okPo m ys = true) (h0 : 0 ≤ rootX m ys) (h5 : m ≤ 5) (i : Nat) (hi : i < (jpL m ys).length) : GF 60 ((jpL m ys).getD i []) := by
  rw [List.getD_eq_getElem?_getD, List.getElem?_eq_getElem hi]
  exact gf_p2 h5 h0 (rootX_lt (jk_len hP).1) _ (Nat.le_refl _) _ (List.getElem_mem _)
theorem jp_len {m : Int} {ys : List Int} (hP : okPo m ys = true) : (jpL m ys).length ≤ 5000 := by
  have h1 := jk_len hP
  have h2 := p2_len (xs := ys) h1.2 (upL_len hP) m.toNat
  unfold jpL
  omega
theorem fm_ok {vs : List Int} {b : Nat} {a : List (Int × Int)} (h : GF b a) (hv : vs.length = 6) : OKM vs.length a ∧ a.any modN = false ∧ a.length ≤ b := by
  rw [hv]; exact ⟨gf_okm h, gf_plain h, h.2.2⟩
/-- What Shows answers. -/
def shM (n : Int) (xs vs : List Int) (m : Int) (ys : List Int) : Nat → Int
  | 0 => bnot ((shl64 1 n) - 1) (fcd n xs vs (jcL m ys))
  | i + 1 => band (shM n xs vs m ys i) (fcd n xs vs ((jpL m ys).getD i []))
def shB (n : Int) (xs vs : List Int) (w m : Int) (ys : List Int) : Bool := decide (band (shr64 (shM n xs vs m ys (jpL m ys).length) w) 1 = 1)
def shC (n : Int) (xs vs : List Int) (w m : Int) (ys : List Int) : Int := if vaB n xs vs = true ∧ okPo m ys = true then (if inR w 0 (n - 1) = true then jkC m ys else 2) else 1
def shV (n : Int) (xs vs : List Int) (w m : Int) (ys : List Int) : Bool := decide (shC n xs vs w m ys = 0) && shB n xs vs w m ys
theorem sh_1 {n w m : Int} {xs vs ys : List Int} (h : ¬ (vaB n xs vs = true ∧ okPo m ys = true)) : AV.tup [.bool false, AI 1] = AV.tup [.bool (shV n xs vs w m ys), AI (shC n xs vs w m ys)] := by
  have e : shC n xs vs w m ys = 1 := if_neg h
  rw [shV, e]; rfl
theorem sh_2 {n w m : Int} {xs vs ys : List Int} (h : vaB n xs vs = true) (h2 : okPo m ys = true) (h3 : inR w 0 (n - 1) = false) : AV.tup [.bool false, AI 2] = AV.tup [.bool (shV n xs vs w m ys), AI (shC n xs vs w m ys)] := by
  have e : shC n xs vs w m ys = 2 := by rw [shC, if_pos ⟨h, h2⟩, if_neg (by rw [h3]; decide)]
  rw [shV, e]; rfl
theorem sh_c {n w m : Int} {xs vs ys : List Int} (h : vaB n xs vs = true) (h2 : okPo m ys = true) (h3 : inR w 0 (n - 1) = true) : shC n xs vs w m ys = jkC m ys := by rw [shC, if_pos ⟨h, h2⟩, if_pos h3]
theorem sh_k {n w m : Int} {xs vs ys : List Int} (h : vaB n xs vs = true) (h2 : okPo m ys = true) (h3 : inR w 0 (n - 1) = true) (h4 : ¬ jkC m ys = 0) : AV.tup [.bool false, AI (jkC m ys)] = AV.tup [.bool (shV n xs vs w m ys), AI (shC n xs vs w m ys)] := by
  rw [shV, sh_c h h2 h3, decide_eq_false h4]; rfl
theorem sh_0 {n w m : Int} {xs vs ys : List Int} {b : Bool} (h : vaB n xs vs = true) (h2 : okPo m ys = true) (h3 : inR w 0 (n - 1) = true) (h4 : jkC m ys = 0) (hb : b = shB n xs vs w m ys) : AV.tup [.bool b, AI 0] = AV.tup [.bool (shV n xs vs w m ys), AI (shC n xs vs w m ys)] := by
  rw [shV, sh_c h h2 h3, decide_eq_true h4, Bool.true_and, h4, hb]
theorem va_in {n : Int} {xs vs : List Int} (h : vaB n xs vs = true) (j : Nat) (hj : j < 6) : InM n.toNat (vs.getD j 0) := by
  have h0 := h
  simp only [vaB, vsB, Bool.and_eq_true, decide_eq_true_eq] at h0
  have hF := okFr_rel (okPo_fr h0.1)
  have h1 : vs.any (outU n xs) = false := by simpa using h0.2.2
  have h2 := List.any_eq_false.1 h1 (vs.getD j 0) (by rw [List.getD_eq_getElem?_getD, List.getElem?_eq_getElem (by omega)]; exact List.getElem_mem _)
  simp only [outU, Bool.not_eq_true, Bool.not_eq_false', Bool.and_eq_true] at h2
  have h3 := (full_rng (n := n.toNat) (by omega) (m := vs.getD j 0)).2
  rw [show ((n.toNat : Nat) : Int) = n by omega] at h3
  exact h3 h2.1
theorem shM_ok {n m : Int} {xs vs ys : List Int} (hv : vaB n xs vs = true) (hP : okPo m ys = true) (h0 : 0 ≤ rootX m ys) (h5 : m ≤ 5) : ∀ i : Nat, i ≤ (jpL m ys).length → InM n.toNat (shM n xs vs m ys i) ∧ ∀ t : Nat, t < n.toNat → (tb (shM n xs vs m ys i) t = true ↔ tb (fcd n xs vs (jcL m ys)) t = false ∧ ∀ k : Nat, k < i → tb (fcd n xs vs ((jpL m ys).getD k [])) t = true)
  | 0, _ => by
    have hR := okPo_fr (vaB_po hv).1
    have hF := okFr_rel hR
    have hf := inM_full (n := n.toNat) (by omega)
    have e : ((n.toNat : Nat) : Int) = n := by omega
    have hc := fcd_in (X := vs) hR (gf_okm (gf_jc (ys := ys) h5)) (va_in hv)
    have hb := fun t => tb_full (n := n.toNat) (by omega) t
    rw [e] at hf hb
    refine ⟨inM_bnot (by omega) hf hc, fun t ht => ?_⟩
    rw [shM, tb_bnot (n := n.toNat) (by omega) hf hc, hb, decide_eq_true ht, Bool.true_and, Bool.not_eq_true']
    exact ⟨fun h => ⟨h, fun k hk => absurd hk (by omega)⟩, fun h => h.1⟩
  | i + 1, hi => by
    have hR := okPo_fr (vaB_po hv).1
    have hF := okFr_rel hR
    obtain ⟨h1, h2⟩ := shM_ok hv hP h0 h5 i (by omega)
    have hc := fcd_in (X := vs) hR (gf_okm (jp_get hP h0 h5 i (by omega))) (va_in hv)
    refine ⟨inM_band (by omega) h1 hc, fun t ht => ?_⟩
    rw [shM, tb_band (n := n.toNat) (by omega) h1 hc, Bool.and_eq_true, h2 t ht]
    constructor
    · rintro ⟨⟨a, b⟩, c⟩
      refine ⟨a, fun k hk => ?_⟩
      by_cases e : k = i
      · rw [e]; exact c
      · exact b k (by omega)
    · rintro ⟨a, b⟩
      exact ⟨⟨a, fun k hk => b k (by omega)⟩, b i (by omega)⟩
theorem fc_tb {n w : Int} {xs vs : List Int} {b : Nat} {a : List (Int × Int)} (hv : vaB n xs vs = true) (ha : GF b a) (hw : 0 ≤ w ∧ w < n) : band (shr64 (fcd n xs vs a) w) 1 = 1 ↔ tb (fcd n xs vs a) w.toNat = true := by
  have hR := okPo_fr (vaB_po hv).1
  have hF := okFr_rel hR
  have := has_tb (n := n.toNat) (i := w.toNat) (by omega) (fcd_in (X := vs) hR (gf_okm ha) (va_in hv)) (by omega)
  rwa [show ((w.toNat : Nat) : Int) = w by omega] at this
theorem sh_iff {n w m : Int} {xs vs ys : List Int} (hv : vaB n xs vs = true) (hP : okPo m ys = true) (h0 : 0 ≤ rootX m ys) (h5 : m ≤ 5) (hw : 0 ≤ w ∧ w < n) : shB n xs vs w m ys = true ↔ ¬ band (shr64 (fcd n xs vs (jcL m ys)) w) 1 = 1 ∧ ∀ k : Nat, k < (jpL m ys).length → band (shr64 (fcd n xs vs ((jpL m ys).getD k [])) w) 1 = 1 := by
  have hF := okFr_rel (okPo_fr (vaB_po hv).1)
  obtain ⟨h1, h2⟩ := shM_ok (xs := xs) hv hP h0 h5 _ (Nat.le_refl _)
  have h3 := has_tb (n := n.toNat) (i := w.toNat) (by omega) h1 (by omega)
  rw [show ((w.toNat : Nat) : Int) = w by omega] at h3
  rw [shB, decide_eq_true_eq, h3, h2 _ (by omega), fc_tb hv (gf_jc (ys := ys) h5) hw, Bool.not_eq_true]
  constructor
  · rintro ⟨a, b⟩
    exact ⟨a, fun k hk => (fc_tb hv (jp_get hP h0 h5 k hk) hw).2 (b k hk)⟩
  · rintro ⟨a, b⟩
    exact ⟨a, fun k hk => (fc_tb hv (jp_get hP h0 h5 k hk) hw).1 (b k hk)⟩
theorem sh_no {n w m : Int} {xs vs ys : List Int} (hv : vaB n xs vs = true) (hP : okPo m ys = true) (h0 : 0 ≤ rootX m ys) (h5 : m ≤ 5) (hw : 0 ≤ w ∧ w < n) {k : Nat} (hk : k < (jpL m ys).length) (h : ¬ band (shr64 (fcd n xs vs ((jpL m ys).getD k [])) w) 1 = 1) : false = shB n xs vs w m ys := by
  cases e : shB n xs vs w m ys with
  | false => rfl
  | true => exact absurd (((sh_iff hv hP h0 h5 hw).1 e).2 k hk) h
theorem sh_end {n w m : Int} {xs vs ys : List Int} (hv : vaB n xs vs = true) (hP : okPo m ys = true) (h0 : 0 ≤ rootX m ys) (h5 : m ≤ 5) (hw : 0 ≤ w ∧ w < n) {k : Nat} (hk : (jpL m ys).length ≤ k) (h : ∀ j : Nat, j < k → band (shr64 (fcd n xs vs ((jpL m ys).getD j [])) w) 1 = 1) : (!decide (band (shr64 (fcd n xs vs (jcL m ys)) w) 1 = 1)) = shB n xs vs w m ys := by
  rw [Bool.eq_iff_iff, sh_iff hv hP h0 h5 hw, Bool.not_eq_true', decide_eq_false_iff_not]
  exact ⟨fun a => ⟨a, fun j hj => h j (by omega)⟩, fun a => a.1⟩

theorem isUpsetG_c (n : Int) (xs : List Int) (m : Int) (hR : okFr n xs = true) : CallA Tryz.prog 95 [.agg [AI n, LI xs], AI m] (.bool (!(outU n xs m))) := by
  have hF := okFr_rel hR
  have hRel : RelOK n.toNat xs := hF.2.2.2
  have hb0 : 0 ≤ n ∧ n ≤ 8 ∧ (xs.length : Int) = n := ⟨hF.1, hF.2.1, hF.2.2.1⟩
  have hN8 : n.toNat ≤ 8 := by omega
  refine CallA.of Tryz.func95 rfl (by kernel_rfl) ?_
  refine R.go 10 (R.call true (isMask_c n m) (by kernel_rfl) rfl (by kernel_rfl) ?_)
  refine R.go 1 ?_
  refine (Bool.eq_false_or_eq_true (outR n m)).elim (fun c1 => ?_) (fun c1 => ?_)
  · refine R.skp (!(outR n m)) true (by kernel_rfl) (bnF c1) (by kernel_rfl) ?_
    skip
    refine R.skp (!(outR n m)) true (by kernel_rfl) (bnF c1) (by kernel_rfl) ?_
    refine R.skp (!(outR n m)) true (by kernel_rfl) (bnF c1) (by kernel_rfl) ?_
    refine R.skp (!(outR n m)) true (by kernel_rfl) (bnF c1) (by kernel_rfl) ?_
    refine R.skp (!(outR n m)) true (by kernel_rfl) (bnF c1) (by kernel_rfl) ?_
    refine R.skp (!(outR n m)) true (by kernel_rfl) (bnF c1) (by kernel_rfl) ?_
    refine R.pick (!(outR n m)) false (by kernel_rfl) (bnF c1) (by kernel_rfl) ?_
    exact R.go 2 (R.retE (.bool false) (by kernel_rfl) (by kernel_rfl) (by first | (apply congrArg AV.bool; first | (rw [outU_1 hb0.1 hb0.2.1 (by assumption)]; rfl) | (rw [outU_2 hb0.1 hb0.2.1 (by assumption), Bool.not_not])) | (exfalso; omega)))
  · refine R.want (!(outR n m)) true (by kernel_rfl) (bnT c1) ?_
    skip
    refine R.go 1 (R.want (!(outR n m)) true (by kernel_rfl) (bnT c1) ?_)
    refine R.go 1 (R.want (!(outR n m)) true (by kernel_rfl) (bnT c1) ?_)
    refine R.go 1 (R.want (!(outR n m)) true (by kernel_rfl) (bnT c1) ?_)
    refine R.call true (imageI_c n xs m hR (by first | assumption | exact outR_in hb0.1 hb0.2.1 (by assumption))) (by kernel_rfl) rfl (by kernel_rfl) ?_
    refine R.want (!(outR n m)) true (by kernel_rfl) (bnT c1) ?_
    refine R.go 1 (R.want (!(outR n m)) true (by kernel_rfl) (bnT c1) ?_)
    refine R.go 1 (R.pick (!(outR n m)) true (by kernel_rfl) (bnT c1) (by kernel_rfl) ?_)
    exact R.go 2 (R.retE (.bool (decide ((img xs m xs.length) = m))) (by kernel_rfl) (by kernel_rfl) (by first | (apply congrArg AV.bool; first | (rw [outU_1 hb0.1 hb0.2.1 (by assumption)]; rfl) | (rw [outU_2 hb0.1 hb0.2.1 (by assumption), Bool.not_not])) | (exfalso; omega)))

theorem isVal1_c (m : Int) (n : Int) (xs : List Int) (hR : okFr n xs = true) : CallA Tryz.prog 94 [AI m, .rptr [AI n, LI xs]] (.bool (outU n xs m)) := by
  refine CallA.of Tryz.func94 rfl (by kernel_rfl) ?_
  refine R.go 8 (R.call true (isUpsetG_c n xs m hR) (by kernel_rfl) rfl (by kernel_rfl) ?_)
  exact R.go 3 (R.retE (.bool (!(!(outU n xs m)))) (by kernel_rfl) (by kernel_rfl) (by first | (apply congrArg AV.bool; simp) | (exfalso; omega)))

theorem indexVal_c (a : List Int) (n : Int) (xs : List Int) (hR : okFr n xs = true) (hl : a.length ≤ 1000000000) : CallA Tryz.prog 122 [LI a, .fn 94 [.rptr [AI n, LI xs]]] (AI (fidxI (outU n xs) a 0)) := by
  refine CallA.of Tryz.func122 rfl (by kernel_rfl) ?_
  refine R.go 12 (R.loop (fun (i : Nat) => (⟨(frm 19 [(0, LI a), (1, .fn 94 [.rptr [AI n, LI xs]]), (7, AI a.length), (8, AI (i : Int))]), []⟩ : St)) (fun (i : Nat) => (i ≤ a.length) ∧ (fidxI (outU n xs) a 0 = fidxI (outU n xs) (a.drop i) i)) (fun (i : Nat) => a.length - i) 0 [0, 1, 7, 8] none (by kernel_rfl) (by kernel_rfl) (by kernel_rfl) ⟨(by omega), (by rfl)⟩ ?_)
  rintro i ⟨h3_1, h3_2⟩ R1 N2
  refine R.go 5 (R.cond ((i : Int) < (a.length : Int)) (by kernel_rfl) (fun c4 => ?_) (fun c4 => ?_))
  · refine R.go 13 (R.idx eI a 0 i (i : Int) (by kernel_rfl) rfl eI_len (by omega) (by kernel_rfl) ?_)
    refine R.go 1 (R.call true (isVal1_c (a.getD i 0) n xs hR) (by kernel_rfl) rfl (by kernel_rfl) ?_)
    refine R.go 1 (R.condB (outU n xs (a.getD i 0)) (by kernel_rfl) (fun c5 => ?_) (fun c5 => ?_))
    · exact R.go 5 (R.retE (AI (i : Int)) (by kernel_rfl) (by kernel_rfl) (by first | (apply congrArg AI; rw [‹fidxI (outU n xs) a 0 = _›]; first | exact (fidxI_end (by omega)).symm | exact (fidxI_hit (by omega) (by assumption)).symm) | (exfalso; omega)))
    · refine R.go 3 (R.ar ((i : Int) + 1) (by kernel_rfl) (by omega) (by omega) (by kernel_rfl) ?_)
      exact R.go 2 (R.stop R1 (by kernel_rfl) (N2 (i + 1) [0, 1, 7, 8] none _ (by kernel_rfl) (by kernel_rfl) ⟨(by omega), (by rw [‹fidxI (outU n xs) a 0 = _›]; exact fidxI_miss (by omega) (by assumption))⟩ (by show (a.length - (i + 1)) < (a.length - i); omega)))
  · exact R.go 5 (R.retE (AI (-1)) (by kernel_rfl) (by kernel_rfl) (by first | (apply congrArg AI; rw [‹fidxI (outU n xs) a 0 = _›]; first | exact (fidxI_end (by omega)).symm | exact (fidxI_hit (by omega) (by assumption)).symm) | (exfalso; omega)))

theorem containsVal_c (a : List Int) (n : Int) (xs : List Int) (hR : okFr n xs = true) (hl : a.length ≤ 1000000000) : CallA Tryz.prog 93 [LI a, .fn 94 [.rptr [AI n, LI xs]]] (.bool (a.any (outU n xs))) := by
  refine CallA.of Tryz.func93 rfl (by kernel_rfl) ?_
  refine R.go 8 (R.call true (indexVal_c a n xs hR hl) (by kernel_rfl) rfl (by kernel_rfl) ?_)
  exact R.go 3 (R.retE (.bool (decide ((fidxI (outU n xs) a 0) ≥ 0))) (by kernel_rfl) (by kernel_rfl) (by first | (apply congrArg AV.bool; rw [Bool.eq_iff_iff, decide_eq_true_iff]; exact fidxI_any (Int.le_refl 0)) | (exfalso; omega)))

theorem isValuation_c (n : Int) (xs : List Int) (vs : List Int) (lx : xs.length ≤ 1048576) (lv : vs.length ≤ 1048576) : CallA Tryz.prog 63 [.agg [AI n, LI xs], LI vs] (.bool (vaB n xs vs)) := by
  refine CallA.of Tryz.func63 rfl (by kernel_rfl) ?_
  refine R.go 8 (R.call true (isPoset_c n xs (by first | omega | assumption | exact okPo_fr (by assumption))) (by kernel_rfl) rfl (by kernel_rfl) ?_)
  refine R.go 1 ?_
  refine (Bool.eq_false_or_eq_true (okPo n xs)).elim (fun c1 => ?_) (fun c1 => ?_)
  · refine R.want (okPo n xs) true (by kernel_rfl) c1 ?_
    refine R.go 1 (R.want (okPo n xs) true (by kernel_rfl) c1 ?_)
    refine R.go 1 (R.want (okPo n xs) true (by kernel_rfl) c1 ?_)
    refine R.go 1 (R.pick (okPo n xs) true (by kernel_rfl) c1 (by kernel_rfl) ?_)
    refine R.go 1 ?_
    by_cases c2 : (vs.length : Int) = 6
    · refine R.want (decide ((vs.length : Int) = 6)) true (by kernel_rfl) (dT c2) ?_
      refine R.go 1 (R.want (decide ((vs.length : Int) = 6)) true (by kernel_rfl) (dT c2) ?_)
      refine R.go 1 (R.want (decide ((vs.length : Int) = 6)) true (by kernel_rfl) (dT c2) ?_)
      refine R.call false (containsVal_c vs n xs (by first | assumption | exact okPo_fr (by assumption)) (by first | omega | assumption | exact okPo_fr (by assumption))) (by kernel_rfl) rfl (by kernel_rfl) ?_
      refine R.want (decide ((vs.length : Int) = 6)) true (by kernel_rfl) (dT c2) ?_
      refine R.go 1 (R.pick (decide ((vs.length : Int) = 6)) true (by kernel_rfl) (dT c2) (by kernel_rfl) ?_)
      exact R.go 2 (R.retE (.bool (!(vs.any (outU n xs)))) (by kernel_rfl) (by kernel_rfl) (by first | (apply congrArg AV.bool; first | exact va_0 (by assumption) | exact va_1 (by assumption) (vs_no1 (by assumption)) | exact va_1 (by assumption) (vs_yes (by assumption))) | (exfalso; omega)))
    · refine R.skp (decide ((vs.length : Int) = 6)) true (by kernel_rfl) (dF c2) (by kernel_rfl) ?_
      refine R.skp (decide ((vs.length : Int) = 6)) true (by kernel_rfl) (dF c2) (by kernel_rfl) ?_
      refine R.skp (decide ((vs.length : Int) = 6)) true (by kernel_rfl) (dF c2) (by kernel_rfl) ?_
      refine R.skp (decide ((vs.length : Int) = 6)) true (by kernel_rfl) (dF c2) (by kernel_rfl) ?_
      refine R.pick (decide ((vs.length : Int) = 6)) false (by kernel_rfl) (dF c2) (by kernel_rfl) ?_
      exact R.go 2 (R.retE (.bool false) (by kernel_rfl) (by kernel_rfl) (by first | (apply congrArg AV.bool; first | exact va_0 (by assumption) | exact va_1 (by assumption) (vs_no1 (by assumption)) | exact va_1 (by assumption) (vs_yes (by assumption))) | (exfalso; omega)))
  · refine R.skp (okPo n xs) true (by kernel_rfl) c1 (by kernel_rfl) ?_
    refine R.skp (okPo n xs) true (by kernel_rfl) c1 (by kernel_rfl) ?_
    refine R.skp (okPo n xs) true (by kernel_rfl) c1 (by kernel_rfl) ?_
    refine R.pick (okPo n xs) false (by kernel_rfl) c1 (by kernel_rfl) ?_
    exact R.go 8 (R.retE (.bool false) (by kernel_rfl) (by kernel_rfl) (by first | (apply congrArg AV.bool; first | exact va_0 (by assumption) | exact va_1 (by assumption) (vs_no1 (by assumption)) | exact va_1 (by assumption) (vs_yes (by assumption))) | (exfalso; omega)))

theorem l17Is_c (n : Int) (xs : List Int) (vs : List Int) (hP : okPo n xs = true) (lv : vs.length ≤ 1048576) : CallA Tryz.prog 87 [.agg [AI n, LI xs], LI vs] (.bool (vsB n xs vs)) := by
  have hR := okPo_fr hP
  have hF := okFr_rel hR
  have hRel : RelOK n.toNat xs := hF.2.2.2
  have hb0 : 0 ≤ n ∧ n ≤ 8 ∧ (xs.length : Int) = n := ⟨hF.1, hF.2.1, hF.2.2.1⟩
  have hN8 : n.toNat ≤ 8 := by omega
  refine CallA.of Tryz.func87 rfl (by kernel_rfl) ?_
  refine R.go 12 ?_
  by_cases c1 : (vs.length : Int) = 6
  · refine R.want (!decide ((vs.length : Int) = 6)) false (by kernel_rfl) (nF c1) ?_
    refine R.go 1 (R.want (!decide ((vs.length : Int) = 6)) false (by kernel_rfl) (nF c1) ?_)
    refine R.go 1 (R.want (!decide ((vs.length : Int) = 6)) false (by kernel_rfl) (nF c1) ?_)
    refine R.go 1 (R.want (!decide ((vs.length : Int) = 6)) false (by kernel_rfl) (nF c1) ?_)
    refine R.call true (l01Masks_c n vs (by first | omega | (simp <;> omega)) (by omega) (by omega)) (by kernel_rfl) rfl (by kernel_rfl) ?_
    refine R.want (!decide ((vs.length : Int) = 6)) false (by kernel_rfl) (nF c1) ?_
    refine R.go 1 (R.pick (!decide ((vs.length : Int) = 6)) false (by kernel_rfl) (nF c1) (by kernel_rfl) ?_)
    refine R.go 1 (R.condM (!(vs.any fun m => !inR m 0 ((shl64 1 n) - 1))) (by kernel_rfl) (fun c2 => ?_) (fun c2 => ?_))
    · exact R.go 4 (R.retE (.bool false) (by kernel_rfl) (by kernel_rfl) (by first | (apply congrArg AV.bool; first | exact (vs_no1 (by assumption)).symm | exact (vs_no2 (by simpa using (by assumption : (!vs.any fun m => !inR m 0 ((shl64 1 n) - 1)) = false))).symm | exact (vs_no3 (v := v) (by omega) (by assumption)).symm | exact (vs_ok (by assumption) (by simpa using (by assumption : (!vs.any fun m => !inR m 0 ((shl64 1 n) - 1)) = true)) fun j hj => (‹∀ j : Nat, j < v → img xs (vs.getD j 0) xs.length = vs.getD j 0›) j (by omega)).symm) | (exfalso; omega)))
    · refine R.go 7 (R.loop (fun (v : Nat) => (⟨(frm 34 [(1, LI vs), (2, .ptr 0 0), (5, AI (v : Int))]), [.box 30 [AI n, LI xs]]⟩ : St)) (fun (v : Nat) => (v ≤ vs.length) ∧ (∀ j : Nat, j < v → img xs (vs.getD j 0) xs.length = vs.getD j 0)) (fun (v : Nat) => vs.length - v) 0 [1, 2, 5] none (by kernel_rfl) (by kernel_rfl) (by kernel_rfl) ⟨(by omega), (by exact fun j hj => absurd hj (by omega))⟩ ?_)
      rintro v ⟨h5_1, h5_2⟩ R3 N4
      refine R.go 8 (R.cond ((v : Int) < (vs.length : Int)) (by kernel_rfl) (fun c6 => ?_) (fun c6 => ?_))
      · refine R.go 9 (R.idx eI vs 0 v (v : Int) (by kernel_rfl) rfl eI_len (by omega) (by kernel_rfl) ?_)
        refine R.go 1 (R.call true (l01Image_c xs (vs.getD v 0) (by first | omega | (simp <;> omega))) (by kernel_rfl) rfl (by kernel_rfl) ?_)
        refine R.go 2 (R.idx eI vs 0 v (v : Int) (by kernel_rfl) rfl eI_len (by omega) (by kernel_rfl) ?_)
        refine R.go 3 (R.condN ((img xs (vs.getD v 0) xs.length) = (vs.getD v 0)) (by kernel_rfl) (fun c7 => ?_) (fun c7 => ?_))
        · exact R.go 4 (R.retE (.bool false) (by kernel_rfl) (by kernel_rfl) (by first | (apply congrArg AV.bool; first | exact (vs_no1 (by assumption)).symm | exact (vs_no2 (by simpa using (by assumption : (!vs.any fun m => !inR m 0 ((shl64 1 n) - 1)) = false))).symm | exact (vs_no3 (v := v) (by omega) (by assumption)).symm | exact (vs_ok (by assumption) (by simpa using (by assumption : (!vs.any fun m => !inR m 0 ((shl64 1 n) - 1)) = true)) fun j hj => (‹∀ j : Nat, j < v → img xs (vs.getD j 0) xs.length = vs.getD j 0›) j (by omega)).symm) | (exfalso; omega)))
        · refine R.go 4 (R.ar ((v : Int) + 1) (by kernel_rfl) (by omega) (by omega) (by kernel_rfl) ?_)
          exact R.go 2 (R.stop R3 (by kernel_rfl) (N4 (v + 1) [1, 2, 5] none _ (by kernel_rfl) (by kernel_rfl) ⟨(by omega), (by exact fun j hj => by (by_cases e : j = v); (subst e; assumption); exact (‹∀ j : Nat, j < v → img xs (vs.getD j 0) xs.length = vs.getD j 0›) j (by omega))⟩ (by show (vs.length - (v + 1)) < (vs.length - v); omega)))
      · exact R.go 5 (R.retE (.bool true) (by kernel_rfl) (by kernel_rfl) (by first | (apply congrArg AV.bool; first | exact (vs_no1 (by assumption)).symm | exact (vs_no2 (by simpa using (by assumption : (!vs.any fun m => !inR m 0 ((shl64 1 n) - 1)) = false))).symm | exact (vs_no3 (v := v) (by omega) (by assumption)).symm | exact (vs_ok (by assumption) (by simpa using (by assumption : (!vs.any fun m => !inR m 0 ((shl64 1 n) - 1)) = true)) fun j hj => (‹∀ j : Nat, j < v → img xs (vs.getD j 0) xs.length = vs.getD j 0›) j (by omega)).symm) | (exfalso; omega)))
  · refine R.skp (!decide ((vs.length : Int) = 6)) false (by kernel_rfl) (nT c1) (by kernel_rfl) ?_
    refine R.skp (!decide ((vs.length : Int) = 6)) false (by kernel_rfl) (nT c1) (by kernel_rfl) ?_
    refine R.skp (!decide ((vs.length : Int) = 6)) false (by kernel_rfl) (nT c1) (by kernel_rfl) ?_
    refine R.skp (!decide ((vs.length : Int) = 6)) false (by kernel_rfl) (nT c1) (by kernel_rfl) ?_
    refine R.skp (!decide ((vs.length : Int) = 6)) false (by kernel_rfl) (nT c1) (by kernel_rfl) ?_
    refine R.pick (!decide ((vs.length : Int) = 6)) true (by kernel_rfl) (nT c1) (by kernel_rfl) ?_
    exact R.go 6 (R.retE (.bool false) (by kernel_rfl) (by kernel_rfl) (by first | (apply congrArg AV.bool; first | exact (vs_no1 (by assumption)).symm | exact (vs_no2 (by simpa using (by assumption : (!vs.any fun m => !inR m 0 ((shl64 1 n) - 1)) = false))).symm | exact (vs_no3 (v := v) (by omega) (by assumption)).symm | exact (vs_ok (by assumption) (by simpa using (by assumption : (!vs.any fun m => !inR m 0 ((shl64 1 n) - 1)) = true)) fun j hj => (‹∀ j : Nat, j < v → img xs (vs.getD j 0) xs.length = vs.getD j 0›) j (by omega)).symm) | (exfalso; omega)))

theorem IsVal_spec (n : Int) (xs : List Int) (vs : List Int) (lx : xs.length ≤ 1048576) (lv : vs.length ≤ 1048576) : CallA Tryz.prog 57 [.agg [AI n, LI xs], LI vs] (.bool (vaB n xs vs)) := by
  refine CallA.of Tryz.func57 rfl (by kernel_rfl) ?_
  refine R.go 8 (R.call true (l16Is_c n xs (by first | omega | (simp <;> omega))) (by kernel_rfl) rfl (by kernel_rfl) ?_)
  refine R.go 1 ?_
  refine (Bool.eq_false_or_eq_true (okPo n xs)).elim (fun c1 => ?_) (fun c1 => ?_)
  · refine R.want (okPo n xs) true (by kernel_rfl) c1 ?_
    refine R.go 1 (R.want (okPo n xs) true (by kernel_rfl) c1 ?_)
    refine R.go 1 (R.want (okPo n xs) true (by kernel_rfl) c1 ?_)
    refine R.call true (l17Is_c n xs vs c1 lv) (by kernel_rfl) rfl (by kernel_rfl) ?_
    refine R.pick (okPo n xs) true (by kernel_rfl) c1 (by kernel_rfl) ?_
    exact R.go 2 (R.retE (.bool (vsB n xs vs)) (by kernel_rfl) (by kernel_rfl) (by first | (apply congrArg AV.bool; first | exact va_0 (by assumption) | exact va_1 (by assumption) rfl) | (exfalso; omega)))
  · refine R.skp (okPo n xs) true (by kernel_rfl) c1 (by kernel_rfl) ?_
    refine R.skp (okPo n xs) true (by kernel_rfl) c1 (by kernel_rfl) ?_
    refine R.skp (okPo n xs) true (by kernel_rfl) c1 (by kernel_rfl) ?_
    refine R.pick (okPo n xs) false (by kernel_rfl) c1 (by kernel_rfl) ?_
    exact R.go 2 (R.retE (.bool false) (by kernel_rfl) (by kernel_rfl) (by first | (apply congrArg AV.bool; first | exact va_0 (by assumption) | exact va_1 (by assumption) rfl) | (exfalso; omega)))

theorem hasElement_c (n : Int) (xs : List Int) (x : Int) (h0 : 0 ≤ n) (h1 : n ≤ 8) : CallA Tryz.prog 65 [.agg [AI n, LI xs], AI x] (.bool (inR x 0 (n - 1))) := by
  refine CallA.of Tryz.func65 rfl (by kernel_rfl) ?_
  refine R.go 10 (R.ar (n - 1) (by kernel_rfl) (by omega) (by omega) (by kernel_rfl) ?_)
  refine R.call true (inRange_c x 0 (n - 1)) (by kernel_rfl) rfl (by kernel_rfl) ?_
  exact R.go 2 (R.retE (.bool (inR x 0 (n - 1))) (by kernel_rfl) (by kernel_rfl) (by rfl))

theorem l21Shows_c (n : Int) (xs : List Int) (vs : List Int) (m : Int) (ys : List Int) (hv : vaB n xs vs = true) (hP : okPo m ys = true) (h0 : 0 ≤ rootX m ys) (h5 : m ≤ 5) : CallA Tryz.prog 62 [.agg [AI n, LI xs], LI vs, .agg [AI m, LI ys]] (AI (shM n xs vs m ys (jpL m ys).length)) := by
  have hv6 := vaB_po hv
  have hvl := hv6.2
  have hR := okPo_fr hv6.1
  have hF := okFr_rel hR
  have hb0 : 0 ≤ n ∧ n ≤ 8 ∧ (xs.length : Int) = n := ⟨hF.1, hF.2.1, hF.2.2.1⟩
  have hpl := jp_len hP
  have hjg := fun (i : Nat) (hi : i < (jpL m ys).length) => fm_ok (jp_get hP h0 h5 i hi) hvl
  have hjc : OKM vs.length (jcL m ys) ∧ (jcL m ys).any modN = false ∧ (jcL m ys).length ≤ 12 := fm_ok (gf_jc (ys := ys) h5) hvl
  have hj1 := hjc.1
  have hj2 := hjc.2.1
  refine CallA.of Tryz.func62 rfl (by kernel_rfl) ?_
  refine R.go 9 (R.call true (l21Premises_c m ys hP h0).frz (by kernel_rfl) rfl (by kernel_rfl) ?_)
  refine R.go 2 (R.call true (l01Full_c n (by omega) (by omega)) (by kernel_rfl) rfl (by kernel_rfl) ?_)
  refine R.go 3 (R.call true (l21Conclusion_c m ys hP h0) (by kernel_rfl) rfl (by kernel_rfl) ?_)
  refine R.call true (l17ForceF_c n xs vs (jcL m ys) (by assumption) (by assumption) (by assumption) (by first | omega | (simp <;> omega))) (by kernel_rfl) rfl (by kernel_rfl) ?_
  refine R.go 10 (R.loop ((fun | (i, o) => (⟨(frm 37 [(1, LI vs), (3, .ptr 0 0), (7, LLN (jpL m ys)), (8, AI o), (9, AI (i : Int))]), [.box 30 [AI n, LI xs]]⟩ : St) : Nat × Int → St)) (fun | (i, o) => (i ≤ (jpL m ys).length) ∧ (o = shM n xs vs m ys i)) (fun | (i, o) => (jpL m ys).length - i) (0, (bnot ((shl64 1 n) - 1) (fcd n xs vs (jcL m ys)))) [1, 3, 7, 8, 9] (some [0]) (by kernel_rfl) (by kernel_rfl) (by kernel_rfl) ⟨(by omega), (by rfl)⟩ ?_)
  rintro ⟨i, o⟩ ⟨h4_1, rfl⟩ R1 N2
  refine R.go 8 (R.cond ((i : Int) < ((jpL m ys).length : Int)) (by kernel_rfl) (fun c5 => ?_) (fun c5 => ?_))
  · have hgi := hjg i (by omega)
    have hg1 := hgi.1
    have hg2 := hgi.2.1
    refine R.go 9 (R.idx eLN (jpL m ys) [] i (i : Int) (by kernel_rfl) rfl eLN_len (by omega) (by kernel_rfl) ?_)
    refine R.go 1 (R.call true (l17ForceF_c n xs vs ((jpL m ys).getD i []) (by assumption) (by assumption) (by assumption) (by first | omega | (simp <;> omega))) (by kernel_rfl) rfl (by kernel_rfl) ?_)
    refine R.go 6 (R.ar ((i : Int) + 1) (by kernel_rfl) (by omega) (by omega) (by kernel_rfl) ?_)
    exact R.go 2 (R.stop R1 (by kernel_rfl) (N2 (i + 1, band (shM n xs vs m ys i) (fcd n xs vs ((jpL m ys).getD i []))) [1, 3, 7, 8, 9] none _ (by kernel_rfl) (by kernel_rfl) ⟨(by omega), (by rfl)⟩ (by show ((jpL m ys).length - (i + 1)) < ((jpL m ys).length - i); omega)))
  · exact R.go 6 (R.retE (AI (shM n xs vs m ys i)) (by kernel_rfl) (by kernel_rfl) (by first | (rw [show i = (jpL m ys).length by omega]) | (exfalso; omega)))

theorem va_bnd {n : Int} {xs vs : List Int} (h : vaB n xs vs = true) : 0 ≤ n ∧ n ≤ 8 := by
  have := okFr_rel (okPo_fr (vaB_po h).1)
  exact ⟨this.1, this.2.1⟩

theorem SH_spec (n : Int) (xs : List Int) (vs : List Int) (w : Int) (m : Int) (ys : List Int) (lx : xs.length ≤ 1048576) (lv : vs.length ≤ 1048576) (ly : ys.length ≤ 1048576) : CallA Tryz.prog 30 [.agg [AI n, LI xs], LI vs, AI w, .agg [AI m, LI ys]] (.tup [.bool (shV n xs vs w m ys), AI (shC n xs vs w m ys)]) := by
  refine CallA.of Tryz.func30 rfl (by kernel_rfl) ?_
  refine R.go 12 (R.call true (IsVal_spec n xs vs lx lv) (by kernel_rfl) rfl (by kernel_rfl) ?_)
  refine R.go 2 ?_
  refine (Bool.eq_false_or_eq_true (vaB n xs vs)).elim (fun c1 => ?_) (fun c1 => ?_)
  · refine R.want (!(vaB n xs vs)) false (by kernel_rfl) (bnF c1) ?_
    refine R.go 1 (R.want (!(vaB n xs vs)) false (by kernel_rfl) (bnF c1) ?_)
    refine R.call true (l16Is_c m ys (by first | omega | (have hb9 := va_bnd (n := n) (xs := xs) (vs := vs) (by assumption); omega))) (by kernel_rfl) rfl (by kernel_rfl) ?_
    refine R.want (!(vaB n xs vs)) false (by kernel_rfl) (bnF c1) ?_
    refine R.go 1 (R.pick (!(vaB n xs vs)) false (by kernel_rfl) (bnF c1) (by kernel_rfl) ?_)
    refine R.go 1 (R.condM (okPo m ys) (by kernel_rfl) (fun c2 => ?_) (fun c2 => ?_))
    · exact R.go 5 (R.retE (.tup [.bool false, AI 1]) (by kernel_rfl) (by kernel_rfl) (by first | (first | exact sh_1 (by rintro ⟨b1, b2⟩; simp_all) | exact sh_2 (by assumption) (by assumption) (by assumption) | exact sh_k (by assumption) (by assumption) (by assumption) (by assumption) | exact sh_0 hva hpo hiw hc0 rfl) | (exfalso; omega)))
    · refine R.go 7 (R.ar (n - 1) (by kernel_rfl) (by first | omega | (have hb9 := va_bnd (n := n) (xs := xs) (vs := vs) (by assumption); omega)) (by first | omega | (have hb9 := va_bnd (n := n) (xs := xs) (vs := vs) (by assumption); omega)) (by kernel_rfl) ?_)
      refine R.call true (l01In_c w 0 (n - 1)) (by kernel_rfl) rfl (by kernel_rfl) ?_
      refine R.go 2 (R.condM (inR w 0 (n - 1)) (by kernel_rfl) (fun c3 => ?_) (fun c3 => ?_))
      · exact R.go 5 (R.retE (.tup [.bool false, AI 2]) (by kernel_rfl) (by kernel_rfl) (by first | (first | exact sh_1 (by rintro ⟨b1, b2⟩; simp_all) | exact sh_2 (by assumption) (by assumption) (by assumption) | exact sh_k (by assumption) (by assumption) (by assumption) (by assumption) | exact sh_0 hva hpo hiw hc0 rfl) | (exfalso; omega)))
      · refine R.go 4 (R.call true (l21Code_c m ys ly) (by kernel_rfl) rfl (by kernel_rfl) ?_)
        refine R.go 8 (R.condN ((jkC m ys) = 0) (by kernel_rfl) (fun c4 => ?_) (fun c4 => ?_))
        · exact R.go 6 (R.retE (.tup [.bool false, AI (jkC m ys)]) (by kernel_rfl) (by kernel_rfl) (by first | (first | exact sh_1 (by rintro ⟨b1, b2⟩; simp_all) | exact sh_2 (by assumption) (by assumption) (by assumption) | exact sh_k (by assumption) (by assumption) (by assumption) (by assumption) | exact sh_0 hva hpo hiw hc0 rfl) | (exfalso; omega)))
        · have hva : vaB n xs vs = true := by assumption
          have hpo : okPo m ys = true := by assumption
          have hiw : inR w 0 (n - 1) = true := by assumption
          have hc0 : jkC m ys = 0 := by first | assumption | omega
          have hjk := jk_ok hc0
          have hwr := (inR_iff w 0 (n - 1)).1 hiw
          have hb9 := va_bnd hva
          refine R.go 6 (R.call true (l21Shows_c n xs vs m ys hva hpo (by first | omega | (have hb9 := va_bnd (n := n) (xs := xs) (vs := vs) (by assumption); omega)) (by first | omega | (have hb9 := va_bnd (n := n) (xs := xs) (vs := vs) (by assumption); omega))) (by kernel_rfl) rfl (by kernel_rfl) ?_)
          refine R.go 1 (R.call true (l01Bit_c (shM n xs vs m ys (jpL m ys).length) w (by first | omega | (have hb9 := va_bnd (n := n) (xs := xs) (vs := vs) (by assumption); omega)) (by first | omega | (have hb9 := va_bnd (n := n) (xs := xs) (vs := vs) (by assumption); omega))) (by kernel_rfl) rfl (by kernel_rfl) ?_)
          exact R.go 3 (R.retE (.tup [.bool (decide (band (shr64 (shM n xs vs m ys (jpL m ys).length) w) 1 = 1)), AI 0]) (by kernel_rfl) (by kernel_rfl) (by first | (first | exact sh_1 (by rintro ⟨b1, b2⟩; simp_all) | exact sh_2 (by assumption) (by assumption) (by assumption) | exact sh_k (by assumption) (by assumption) (by assumption) (by assumption) | exact sh_0 hva hpo hiw hc0 rfl) | (exfalso; omega)))
  · refine R.skp (!(vaB n xs vs)) false (by kernel_rfl) (bnT c1) (by kernel_rfl) ?_
    refine R.skp (!(vaB n xs vs)) false (by kernel_rfl) (bnT c1) (by kernel_rfl) ?_
    refine R.skp (!(vaB n xs vs)) false (by kernel_rfl) (bnT c1) (by kernel_rfl) ?_
    refine R.pick (!(vaB n xs vs)) true (by kernel_rfl) (bnT c1) (by kernel_rfl) ?_
    exact R.go 7 (R.retE (.tup [.bool false, AI 1]) (by kernel_rfl) (by kernel_rfl) (by first | (first | exact sh_1 (by rintro ⟨b1, b2⟩; simp_all) | exact sh_2 (by assumption) (by assumption) (by assumption) | exact sh_k (by assumption) (by assumption) (by assumption) (by assumption) | exact sh_0 hva hpo hiw hc0 rfl) | (exfalso; omega)))

theorem SH_impl (n : Int) (xs : List Int) (vs : List Int) (w : Int) (m : Int) (ys : List Int) (lx : xs.length ≤ 1048576) (lv : vs.length ≤ 1048576) (ly : ys.length ≤ 1048576) : CallA Tryz.prog 32 [.agg [AI n, LI xs], LI vs, AI w, .agg [AI m, LI ys]] (.tup [.bool (shV n xs vs w m ys), AI (shC n xs vs w m ys)]) := by
  refine CallA.of Tryz.func32 rfl (by kernel_rfl) ?_
  refine R.go 13 (R.call true (isValuation_c n xs vs lx lv) (by kernel_rfl) rfl (by kernel_rfl) ?_)
  refine R.go 2 ?_
  refine (Bool.eq_false_or_eq_true (vaB n xs vs)).elim (fun c1 => ?_) (fun c1 => ?_)
  · refine R.want (!(vaB n xs vs)) false (by kernel_rfl) (bnF c1) ?_
    refine R.go 1 (R.want (!(vaB n xs vs)) false (by kernel_rfl) (bnF c1) ?_)
    refine R.call true (isPoset_c m ys (by first | assumption | omega | (have hb9 := va_bnd (n := n) (xs := xs) (vs := vs) (by assumption); omega))) (by kernel_rfl) rfl (by kernel_rfl) ?_
    refine R.want (!(vaB n xs vs)) false (by kernel_rfl) (bnF c1) ?_
    refine R.go 1 (R.pick (!(vaB n xs vs)) false (by kernel_rfl) (bnF c1) (by kernel_rfl) ?_)
    refine R.go 2 (R.condM (okPo m ys) (by kernel_rfl) (fun c2 => ?_) (fun c2 => ?_))
    · exact R.go 5 (R.retE (.tup [.bool false, AI 1]) (by kernel_rfl) (by kernel_rfl) (by first | (first | exact sh_1 (by rintro ⟨b1, b2⟩; simp_all) | exact sh_2 (by assumption) (by assumption) (by assumption) | exact sh_k (by assumption) (by assumption) (by assumption) (by assumption) | exact sh_0 hva hpo hiw hc0 (sh_no hva hpo hjk.2.1 hjk.2.2 (by omega) (k := i) (by omega) (by assumption)) | exact sh_0 hva hpo hiw hc0 (sh_end hva hpo hjk.2.1 hjk.2.2 (by omega) (k := i) (by omega) (by assumption))) | (exfalso; omega)))
    · refine R.go 4 (R.call true (hasElement_c n xs w (by first | assumption | omega | (have hb9 := va_bnd (n := n) (xs := xs) (vs := vs) (by assumption); omega)) (by first | assumption | omega | (have hb9 := va_bnd (n := n) (xs := xs) (vs := vs) (by assumption); omega))) (by kernel_rfl) rfl (by kernel_rfl) ?_)
      refine R.go 3 (R.condM (inR w 0 (n - 1)) (by kernel_rfl) (fun c3 => ?_) (fun c3 => ?_))
      · exact R.go 5 (R.retE (.tup [.bool false, AI 2]) (by kernel_rfl) (by kernel_rfl) (by first | (first | exact sh_1 (by rintro ⟨b1, b2⟩; simp_all) | exact sh_2 (by assumption) (by assumption) (by assumption) | exact sh_k (by assumption) (by assumption) (by assumption) (by assumption) | exact sh_0 hva hpo hiw hc0 (sh_no hva hpo hjk.2.1 hjk.2.2 (by omega) (k := i) (by omega) (by assumption)) | exact sh_0 hva hpo hiw hc0 (sh_end hva hpo hjk.2.1 hjk.2.2 (by omega) (k := i) (by omega) (by assumption))) | (exfalso; omega)))
      · refine R.go 6 (R.call true (jankovCode_c m ys ly) (by kernel_rfl) rfl (by kernel_rfl) ?_)
        refine R.go 7 (R.condN ((jkC m ys) = 0) (by kernel_rfl) (fun c4 => ?_) (fun c4 => ?_))
        · exact R.go 6 (R.retE (.tup [.bool false, AI (jkC m ys)]) (by kernel_rfl) (by kernel_rfl) (by first | (first | exact sh_1 (by rintro ⟨b1, b2⟩; simp_all) | exact sh_2 (by assumption) (by assumption) (by assumption) | exact sh_k (by assumption) (by assumption) (by assumption) (by assumption) | exact sh_0 hva hpo hiw hc0 (sh_no hva hpo hjk.2.1 hjk.2.2 (by omega) (k := i) (by omega) (by assumption)) | exact sh_0 hva hpo hiw hc0 (sh_end hva hpo hjk.2.1 hjk.2.2 (by omega) (k := i) (by omega) (by assumption))) | (exfalso; omega)))
        · have hva : vaB n xs vs = true := by assumption
          have hpo : okPo m ys = true := by assumption
          have hiw : inR w 0 (n - 1) = true := by assumption
          have hc0 : jkC m ys = 0 := by first | assumption | omega
          have hjk := jk_ok hc0
          have hwr := (inR_iff w 0 (n - 1)).1 hiw
          have hb9 := va_bnd hva
          have hv6 := vaB_po hva
          have hvl := hv6.2
          have hR := okPo_fr hv6.1
          have hF := okFr_rel hR
          have hb0 : 0 ≤ n ∧ n ≤ 8 ∧ (xs.length : Int) = n := ⟨hF.1, hF.2.1, hF.2.2.1⟩
          have hpl := jp_len hpo
          have hjg := fun (i : Nat) (hi : i < (jpL m ys).length) => fm_ok (jp_get hpo hjk.2.1 hjk.2.2 i hi) hvl
          have hjc : OKM vs.length (jcL m ys) ∧ (jcL m ys).any modN = false ∧ (jcL m ys).length ≤ 12 := fm_ok (gf_jc (ys := ys) hjk.2.2) hvl
          have hj1 := hjc.1
          have hj2 := hjc.2.1
          refine R.go 5 (R.call true (jankovPremises_c m ys hpo (by first | assumption | omega | (have hb9 := va_bnd (n := n) (xs := xs) (vs := vs) (by assumption); omega))).frz (by kernel_rfl) rfl (by kernel_rfl) ?_)
          refine R.go 4 (R.loop (fun (i : Nat) => (⟨(frm 56 [(1, LI vs), (2, AI w), (4, .ptr 0 0), (7, .ptr 1 0), (34, LLN (jpL m ys)), (35, AI ((jpL m ys).length)), (36, AI (i : Int))]), [.box 30 [AI n, LI xs], .box 30 [AI m, LI ys]]⟩ : St)) (fun (i : Nat) => (i ≤ (jpL m ys).length) ∧ (∀ j : Nat, j < i → band (shr64 (fcd n xs vs ((jpL m ys).getD j [])) w) 1 = 1)) (fun (i : Nat) => (jpL m ys).length - i) 0 [1, 2, 4, 7, 34, 35, 36] none (by kernel_rfl) (by kernel_rfl) (by kernel_rfl) ⟨(by omega), (by exact fun j hj => absurd hj (by omega))⟩ ?_)
          rintro i ⟨h7_1, h7_2⟩ R5 N6
          refine R.go 5 (R.cond ((i : Int) < ((jpL m ys).length : Int)) (by kernel_rfl) (fun c8 => ?_) (fun c8 => ?_))
          · have hgi := hjg i (by omega)
            have hg1 := hgi.1
            have hg2 := hgi.2.1
            refine R.go 5 (R.idx eLN (jpL m ys) [] i (i : Int) (by kernel_rfl) rfl eLN_len (by first | omega | (have hb9 := va_bnd (n := n) (xs := xs) (vs := vs) (by assumption); omega)) (by kernel_rfl) ?_)
            refine R.go 8 (R.call true (forced2_c n xs vs ((jpL m ys).getD i []) (by first | assumption | omega | (have hb9 := va_bnd (n := n) (xs := xs) (vs := vs) (by assumption); omega)) (by assumption) (by first | assumption | omega | (have hb9 := va_bnd (n := n) (xs := xs) (vs := vs) (by assumption); omega)) (by first | assumption | omega | (have hb9 := va_bnd (n := n) (xs := xs) (vs := vs) (by assumption); omega)) (by first | assumption | omega | (have hb9 := va_bnd (n := n) (xs := xs) (vs := vs) (by assumption); omega)) (by first | assumption | omega | (have hb9 := va_bnd (n := n) (xs := xs) (vs := vs) (by assumption); omega))) (by kernel_rfl) rfl (by kernel_rfl) ?_)
            refine R.go 1 (R.call true (has_c (fcd n xs vs ((jpL m ys).getD i [])) w (by first | assumption | omega | (have hb9 := va_bnd (n := n) (xs := xs) (vs := vs) (by assumption); omega))) (by kernel_rfl) rfl (by kernel_rfl) ?_)
            refine R.go 2 (R.condN (band (shr64 (fcd n xs vs ((jpL m ys).getD i [])) w) 1 = 1) (by kernel_rfl) (fun c9 => ?_) (fun c9 => ?_))
            · exact R.go 5 (R.retE (.tup [.bool false, AI 0]) (by kernel_rfl) (by kernel_rfl) (by first | (first | exact sh_1 (by rintro ⟨b1, b2⟩; simp_all) | exact sh_2 (by assumption) (by assumption) (by assumption) | exact sh_k (by assumption) (by assumption) (by assumption) (by assumption) | exact sh_0 hva hpo hiw hc0 (sh_no hva hpo hjk.2.1 hjk.2.2 (by omega) (k := i) (by omega) (by assumption)) | exact sh_0 hva hpo hiw hc0 (sh_end hva hpo hjk.2.1 hjk.2.2 (by omega) (k := i) (by omega) (by assumption))) | (exfalso; omega)))
            · refine R.go 3 (R.ar ((i : Int) + 1) (by kernel_rfl) (by first | omega | (have hb9 := va_bnd (n := n) (xs := xs) (vs := vs) (by assumption); omega)) (by first | omega | (have hb9 := va_bnd (n := n) (xs := xs) (vs := vs) (by assumption); omega)) (by kernel_rfl) ?_)
              exact R.go 2 (R.stop R5 (by kernel_rfl) (N6 (i + 1) [1, 2, 4, 7, 34, 35, 36] none _ (by kernel_rfl) (by kernel_rfl) ⟨(by omega), (by exact below1 (P := fun j => band (shr64 (fcd n xs vs ((jpL m ys).getD j [])) w) 1 = 1) (by assumption) (by assumption))⟩ (by show ((jpL m ys).length - (i + 1)) < ((jpL m ys).length - i); omega)))
          · refine R.go 6 (R.call true (jankovConclusion_c m ys hpo (by first | assumption | omega | (have hb9 := va_bnd (n := n) (xs := xs) (vs := vs) (by assumption); omega))) (by kernel_rfl) rfl (by kernel_rfl) ?_)
            refine R.call true (forced2_c n xs vs (jcL m ys) (by first | assumption | omega | (have hb9 := va_bnd (n := n) (xs := xs) (vs := vs) (by assumption); omega)) (by assumption) (by first | assumption | omega | (have hb9 := va_bnd (n := n) (xs := xs) (vs := vs) (by assumption); omega)) (by first | assumption | omega | (have hb9 := va_bnd (n := n) (xs := xs) (vs := vs) (by assumption); omega)) (by first | assumption | omega | (have hb9 := va_bnd (n := n) (xs := xs) (vs := vs) (by assumption); omega)) (by first | assumption | omega | (have hb9 := va_bnd (n := n) (xs := xs) (vs := vs) (by assumption); omega))) (by kernel_rfl) rfl (by kernel_rfl) ?_
            refine R.go 1 (R.call true (has_c (fcd n xs vs (jcL m ys)) w (by first | assumption | omega | (have hb9 := va_bnd (n := n) (xs := xs) (vs := vs) (by assumption); omega))) (by kernel_rfl) rfl (by kernel_rfl) ?_)
            exact R.go 4 (R.retE (.tup [.bool (!decide (band (shr64 (fcd n xs vs (jcL m ys)) w) 1 = 1)), AI 0]) (by kernel_rfl) (by kernel_rfl) (by first | (first | exact sh_1 (by rintro ⟨b1, b2⟩; simp_all) | exact sh_2 (by assumption) (by assumption) (by assumption) | exact sh_k (by assumption) (by assumption) (by assumption) (by assumption) | exact sh_0 hva hpo hiw hc0 (sh_no hva hpo hjk.2.1 hjk.2.2 (by omega) (k := i) (by omega) (by assumption)) | exact sh_0 hva hpo hiw hc0 (sh_end hva hpo hjk.2.1 hjk.2.2 (by omega) (k := i) (by omega) (by assumption))) | (exfalso; omega)))
  · refine R.skp (!(vaB n xs vs)) false (by kernel_rfl) (bnT c1) (by kernel_rfl) ?_
    refine R.skp (!(vaB n xs vs)) false (by kernel_rfl) (bnT c1) (by kernel_rfl) ?_
    refine R.skp (!(vaB n xs vs)) false (by kernel_rfl) (bnT c1) (by kernel_rfl) ?_
    refine R.pick (!(vaB n xs vs)) true (by kernel_rfl) (bnT c1) (by kernel_rfl) ?_
    exact R.go 8 (R.retE (.tup [.bool false, AI 1]) (by kernel_rfl) (by kernel_rfl) (by first | (first | exact sh_1 (by rintro ⟨b1, b2⟩; simp_all) | exact sh_2 (by assumption) (by assumption) (by assumption) | exact sh_k (by assumption) (by assumption) (by assumption) (by assumption) | exact sh_0 hva hpo hiw hc0 (sh_no hva hpo hjk.2.1 hjk.2.2 (by omega) (k := i) (by omega) (by assumption)) | exact sh_0 hva hpo hiw hc0 (sh_end hva hpo hjk.2.1 hjk.2.2 (by omega) (k := i) (by omega) (by assumption))) | (exfalso; omega)))

theorem lawShows_in (n : Int) (xs : List Int) (vs : List Int) (w : Int) (m : Int) (ys : List Int) (hl : xs.length + ys.length ≤ 1048576) (h0vs : vs.length ≤ 1048576) : CallA Tryz.prog 7 [.agg [AI n, LI xs], LI vs, AI w, .agg [AI m, LI ys]] (.bool true) := by
  refine CallA.of Tryz.func7 rfl (by kernel_rfl) ?_
  refine R.go 13 (R.cond ((vs.length : Int) > 1048576) (by kernel_rfl) (fun c1 => ?_) (fun c1 => ?_))
  · exact R.go 4 (R.retE (.bool true) (by kernel_rfl) (by kernel_rfl) (by rfl))
  · refine R.go 9 (R.call true (szPoset_c n xs 1048576 (by omega) (by first | omega | (simp <;> omega))) (by kernel_rfl) rfl (by kernel_rfl) ?_)
    refine R.go 8 (R.cond (((1048576 : Int) - xs.length) < 0) (by kernel_rfl) (fun c2 => ?_) (fun c2 => ?_))
    · exact R.go 4 (R.retE (.bool true) (by kernel_rfl) (by kernel_rfl) (by rfl))
    · refine R.go 5 (R.call true (szPoset_c m ys ((1048576 : Int) - xs.length) (by first | omega | (simp <;> omega)) (by first | omega | (simp <;> omega))) (by kernel_rfl) rfl (by kernel_rfl) ?_)
      refine R.go 8 (R.cond (((((1048576 : Int) - xs.length) : Int) - ys.length) < 0) (by kernel_rfl) (fun c3 => ?_) (fun c3 => ?_))
      · exact R.go 4 (R.retE (.bool true) (by kernel_rfl) (by kernel_rfl) (by rfl))
      · refine R.go 4 (R.call true (toPoset_c n xs (by first | omega | (simp <;> omega))).frz (by kernel_rfl) rfl (by kernel_rfl) ?_)
        refine R.go 1 (R.call true (toInt64S_c vs h0vs).frz (by kernel_rfl) rfl (by kernel_rfl) ?_)
        refine R.go 2 (R.call true (toPoset_c m ys (by first | omega | (simp <;> omega))).frz (by kernel_rfl) rfl (by kernel_rfl) ?_)
        refine R.call true (SH_spec n xs vs w m ys (by first | omega | (simp <;> omega)) h0vs (by first | omega | (simp <;> omega))) (by kernel_rfl) rfl (by kernel_rfl) ?_
        refine R.go 9 (R.call true (toPoset_c n xs (by first | omega | (simp <;> omega))).frz (by kernel_rfl) rfl (by kernel_rfl) ?_)
        refine R.go 6 (R.call true (toInt64S_c vs h0vs).frz (by kernel_rfl) rfl (by kernel_rfl) ?_)
        refine R.go 5 (R.call true (toPoset_c m ys (by first | omega | (simp <;> omega))).frz (by kernel_rfl) rfl (by kernel_rfl) ?_)
        refine R.go 9 (R.call true (SH_impl n xs vs w m ys (by first | omega | (simp <;> omega)) h0vs (by first | omega | (simp <;> omega))) (by kernel_rfl) rfl (by kernel_rfl) ?_)
        refine R.go 13 (R.want (!((shV n xs vs w m ys) == (shV n xs vs w m ys))) false (by kernel_rfl) (bnF (beq_self_eq_true _)) ?_)
        refine R.go 1 (R.want (!((shV n xs vs w m ys) == (shV n xs vs w m ys))) false (by kernel_rfl) (bnF (beq_self_eq_true _)) ?_)
        refine R.go 1 (R.want (!((shV n xs vs w m ys) == (shV n xs vs w m ys))) false (by kernel_rfl) (bnF (beq_self_eq_true _)) ?_)
        refine R.go 1 (R.pick (!((shV n xs vs w m ys) == (shV n xs vs w m ys))) false (by kernel_rfl) (bnF (beq_self_eq_true _)) (by kernel_rfl) ?_)
        refine R.go 1 (R.els (!decide ((shC n xs vs w m ys) = (shC n xs vs w m ys))) (by kernel_rfl) (nF rfl) ?_)
        refine R.go 6 (R.call true (toPoset_c n xs (by first | omega | (simp <;> omega))).frz (by kernel_rfl) rfl (by kernel_rfl) ?_)
        refine R.call true (eqPoset_c n xs (by first | omega | (simp <;> omega))) (by kernel_rfl) rfl (by kernel_rfl) ?_
        refine R.go 9 (R.call true (toInt64S_c vs h0vs).frz (by kernel_rfl) rfl (by kernel_rfl) ?_)
        refine R.call true (eqInt64S_c vs vs (by first | omega | (simp <;> omega))) (by kernel_rfl) rfl (by kernel_rfl) ?_
        refine R.go 2 (R.els (!decide (vs = vs)) (by kernel_rfl) (nF rfl) ?_)
        refine R.go 6 (R.call true (toPoset_c m ys (by first | omega | (simp <;> omega))).frz (by kernel_rfl) rfl (by kernel_rfl) ?_)
        refine R.call true (eqPoset_c m ys (by first | omega | (simp <;> omega))) (by kernel_rfl) rfl (by kernel_rfl) ?_
        exact R.go 8 (R.retE (.bool true) (by kernel_rfl) (by kernel_rfl) (by rfl))

theorem lawShows_0vs (n : Int) (xs : List Int) (vs : List Int) (w : Int) (m : Int) (ys : List Int) (hx : 1048576 < vs.length) : CallA Tryz.prog 7 [.agg [AI n, LI xs], LI vs, AI w, .agg [AI m, LI ys]] (.bool true) := by
  refine CallA.of Tryz.func7 rfl (by kernel_rfl) ?_
  refine R.go 13 (R.cond ((vs.length : Int) > 1048576) (by kernel_rfl) (fun c1 => ?_) (fun c1 => ?_))
  · exact R.go 4 (R.retE (.bool true) (by kernel_rfl) (by kernel_rfl) (by rfl))
  · refine R.go 9 (R.call true (szPoset_c n xs 1048576 (by omega) (by first | omega | (simp <;> omega))) (by kernel_rfl) rfl (by kernel_rfl) ?_)
    refine R.go 8 (R.cond (((1048576 : Int) - xs.length) < 0) (by kernel_rfl) (fun c2 => ?_) (fun c2 => ?_))
    · exact R.go 4 (R.retE (.bool true) (by kernel_rfl) (by kernel_rfl) (by rfl))
    · refine R.go 5 (R.call true (szPoset_c m ys ((1048576 : Int) - xs.length) (by first | omega | (simp <;> omega)) (by first | omega | (simp <;> omega))) (by kernel_rfl) rfl (by kernel_rfl) ?_)
      refine R.go 8 (R.cond (((((1048576 : Int) - xs.length) : Int) - ys.length) < 0) (by kernel_rfl) (fun c3 => ?_) (fun c3 => ?_))
      · exact R.go 4 (R.retE (.bool true) (by kernel_rfl) (by kernel_rfl) (by rfl))
      · refine R.go 4 (R.call true (toPoset_c n xs (by first | omega | (simp <;> omega))).frz (by kernel_rfl) rfl (by kernel_rfl) ?_)
        refine R.go 1 (R.call true (toInt64S_c vs (by first | omega | (simp <;> omega))).frz (by kernel_rfl) rfl (by kernel_rfl) ?_)
        refine R.go 2 (R.call true (toPoset_c m ys (by first | omega | (simp <;> omega))).frz (by kernel_rfl) rfl (by kernel_rfl) ?_)
        refine R.call true (SH_spec n xs vs w m ys (by first | omega | (simp <;> omega)) (by first | omega | (simp <;> omega)) (by first | omega | (simp <;> omega))) (by kernel_rfl) rfl (by kernel_rfl) ?_
        refine R.go 9 (R.call true (toPoset_c n xs (by first | omega | (simp <;> omega))).frz (by kernel_rfl) rfl (by kernel_rfl) ?_)
        refine R.go 6 (R.call true (toInt64S_c vs (by first | omega | (simp <;> omega))).frz (by kernel_rfl) rfl (by kernel_rfl) ?_)
        refine R.go 5 (R.call true (toPoset_c m ys (by first | omega | (simp <;> omega))).frz (by kernel_rfl) rfl (by kernel_rfl) ?_)
        refine R.go 9 (R.call true (SH_impl n xs vs w m ys (by first | omega | (simp <;> omega)) (by first | omega | (simp <;> omega)) (by first | omega | (simp <;> omega))) (by kernel_rfl) rfl (by kernel_rfl) ?_)
        refine R.go 13 (R.want (!((shV n xs vs w m ys) == (shV n xs vs w m ys))) false (by kernel_rfl) (bnF (beq_self_eq_true _)) ?_)
        refine R.go 1 (R.want (!((shV n xs vs w m ys) == (shV n xs vs w m ys))) false (by kernel_rfl) (bnF (beq_self_eq_true _)) ?_)
        refine R.go 1 (R.want (!((shV n xs vs w m ys) == (shV n xs vs w m ys))) false (by kernel_rfl) (bnF (beq_self_eq_true _)) ?_)
        refine R.go 1 (R.pick (!((shV n xs vs w m ys) == (shV n xs vs w m ys))) false (by kernel_rfl) (bnF (beq_self_eq_true _)) (by kernel_rfl) ?_)
        refine R.go 1 (R.els (!decide ((shC n xs vs w m ys) = (shC n xs vs w m ys))) (by kernel_rfl) (nF rfl) ?_)
        refine R.go 6 (R.call true (toPoset_c n xs (by first | omega | (simp <;> omega))).frz (by kernel_rfl) rfl (by kernel_rfl) ?_)
        refine R.call true (eqPoset_c n xs (by first | omega | (simp <;> omega))) (by kernel_rfl) rfl (by kernel_rfl) ?_
        refine R.go 9 (R.call true (toInt64S_c vs (by first | omega | (simp <;> omega))).frz (by kernel_rfl) rfl (by kernel_rfl) ?_)
        refine R.call true (eqInt64S_c vs vs (by first | omega | (simp <;> omega))) (by kernel_rfl) rfl (by kernel_rfl) ?_
        refine R.go 2 (R.els (!decide (vs = vs)) (by kernel_rfl) (nF rfl) ?_)
        refine R.go 6 (R.call true (toPoset_c m ys (by first | omega | (simp <;> omega))).frz (by kernel_rfl) rfl (by kernel_rfl) ?_)
        refine R.call true (eqPoset_c m ys (by first | omega | (simp <;> omega))) (by kernel_rfl) rfl (by kernel_rfl) ?_
        exact R.go 8 (R.retE (.bool true) (by kernel_rfl) (by kernel_rfl) (by rfl))

theorem lawShows_1 (n : Int) (xs : List Int) (vs : List Int) (w : Int) (m : Int) (ys : List Int) (hx : 1048576 < xs.length) (hb : xs.length ≤ 9223372036854775807) : CallA Tryz.prog 7 [.agg [AI n, LI xs], LI vs, AI w, .agg [AI m, LI ys]] (.bool true) := by
  refine CallA.of Tryz.func7 rfl (by kernel_rfl) ?_
  refine R.go 13 (R.cond ((vs.length : Int) > 1048576) (by kernel_rfl) (fun c1 => ?_) (fun c1 => ?_))
  · exact R.go 4 (R.retE (.bool true) (by kernel_rfl) (by kernel_rfl) (by rfl))
  · refine R.go 9 (R.call true (szPoset_no n xs 1048576 (by omega) (by first | omega | (simp <;> omega)) hb) (by kernel_rfl) rfl (by kernel_rfl) ?_)
    exact R.go 13 (R.retE (.bool true) (by kernel_rfl) (by kernel_rfl) (by rfl))

theorem lawShows_2 (n : Int) (xs : List Int) (vs : List Int) (w : Int) (m : Int) (ys : List Int) (hy : xs.length ≤ 1048576) (hx : 1048576 < xs.length + ys.length) (hb : ys.length ≤ 9223372036854775807) : CallA Tryz.prog 7 [.agg [AI n, LI xs], LI vs, AI w, .agg [AI m, LI ys]] (.bool true) := by
  refine CallA.of Tryz.func7 rfl (by kernel_rfl) ?_
  refine R.go 13 (R.cond ((vs.length : Int) > 1048576) (by kernel_rfl) (fun c1 => ?_) (fun c1 => ?_))
  · exact R.go 4 (R.retE (.bool true) (by kernel_rfl) (by kernel_rfl) (by rfl))
  · refine R.go 9 (R.call true (szPoset_c n xs 1048576 (by omega) (by first | omega | (simp <;> omega))) (by kernel_rfl) rfl (by kernel_rfl) ?_)
    refine R.go 8 (R.cond (((1048576 : Int) - xs.length) < 0) (by kernel_rfl) (fun c2 => ?_) (fun c2 => ?_))
    · exact R.go 4 (R.retE (.bool true) (by kernel_rfl) (by kernel_rfl) (by rfl))
    · refine R.go 5 (R.call true (szPoset_no m ys ((1048576 : Int) - xs.length) (by first | omega | (simp <;> omega)) (by first | omega | (simp <;> omega)) hb) (by kernel_rfl) rfl (by kernel_rfl) ?_)
      exact R.go 13 (R.retE (.bool true) (by kernel_rfl) (by kernel_rfl) (by rfl))

theorem lawShows (n : Int) (xs : List Int) (m0 : xs.length ≤ maxLen) (vs : List Int) (m0vs : vs.length ≤ maxLen) (w : Int) (m : Int) (ys : List Int) (m1 : ys.length ≤ maxLen) : CallA Tryz.prog 7 [.agg [AI n, LI xs], LI vs, AI w, .agg [AI m, LI ys]] (.bool true) := by
  have hm : maxLen ≤ 9223372036854775807 := by decide
  rcases Nat.lt_or_ge 1048576 vs.length with h0vs | h0vs
  · exact lawShows_0vs n xs vs w m ys h0vs
  rcases Nat.lt_or_ge 1048576 (xs.length) with h0 | h0
  · exact lawShows_1 n xs vs w m ys h0 (by omega)
  rcases Nat.lt_or_ge 1048576 (xs.length + ys.length) with h1 | h1
  · exact lawShows_2 n xs vs w m ys h0 h1 (by omega)
  exact lawShows_in n xs vs w m ys h1 h0vs

end Go.Proofs.YtkanjgmocmhlkaaGreat
