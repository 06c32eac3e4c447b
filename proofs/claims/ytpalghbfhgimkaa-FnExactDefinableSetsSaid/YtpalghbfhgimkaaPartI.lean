/- Texts of the proof: DS2, DS3, H05, H04, HN, Symh, DS4. -/
import Derived.Test.YtpalghbfhgimkaaPartH

/-! Definable sets: contracts of both packages. -/
namespace Go.Proofs.Ytpalghbfhgimkaa
open Go.RowKit Go.Abs

/-- The truth set of a formula of the list. -/
def dsf (n : Int) (xs vs : List Int) (l : List (List (Int × Int))) (i : Nat) : Int := tset n xs vs (l.getD i [])
theorem nodup_lt : ∀ (n : Nat) (l : List Nat), l.Nodup → (∀ x ∈ l, x < n) → l.length ≤ n
  | 0, [], _, _ => Nat.le_refl _
  | 0, x :: _, _, h => absurd (h x (List.mem_cons_self ..)) (by omega)
  | n + 1, l, hd, h => by
    have ih := nodup_lt n (l.erase n) (hd.erase n) fun x hx => by
      have h1 := (List.Nodup.mem_erase_iff hd).1 hx
      have := h x h1.2
      have := h1.1
      omega
    have := List.length_erase (a := n) (l := l)
    split at this <;> omega
theorem atm_wit {n : Nat} : ∀ {al : List Int}, (∀ a ∈ al, InM n a ∧ ∃ w, tb a w = true) → al.Pairwise (fun a b => ∀ w, tb a w = true → tb b w = true → False) → ∃ ws : List Nat, ws.length = al.length ∧ ws.Nodup ∧ ∀ w ∈ ws, w < n ∧ ∃ a ∈ al, tb a w = true
  | [], _, _ => ⟨[], rfl, List.Pairwise.nil, fun w h => absurd h (List.not_mem_nil)⟩
  | a :: al, hr, hd => by
    rw [List.pairwise_cons] at hd
    obtain ⟨ws, h1, h2, h3⟩ := atm_wit (fun b hb => hr b (List.mem_cons_of_mem _ hb)) hd.2
    obtain ⟨ha, w, hw⟩ := hr a (List.mem_cons_self ..)
    refine ⟨w :: ws, by simp [h1], List.pairwise_cons.2 ⟨fun v hv e => ?_, h2⟩, fun v hv => ?_⟩
    · subst e
      obtain ⟨_, b, hb, hbw⟩ := h3 w hv
      exact hd.1 b hb w hw hbw
    · rcases List.mem_cons.1 hv with e | e
      · subst e; exact ⟨tb_lt ha hw, a, List.mem_cons_self .., hw⟩
      · obtain ⟨q1, b, hb, q2⟩ := h3 v e
        exact ⟨q1, b, List.mem_cons_of_mem _ hb, q2⟩
theorem atm_len {n : Nat} {f : Nat → Int} {i : Nat} (hn : n ≤ 61) (hf : ∀ j, j < i → InM n (f j)) : (atmF n f i).length ≤ n := by
  have hA := atm_ok hn i hf
  obtain ⟨ws, h1, h2, h3⟩ := atm_wit hA.rng hA.dis
  rw [← h1]
  exact nodup_lt n ws h2 fun x hx => (h3 x hx).1
theorem uni_len (al : List Int) : ∀ k : Nat, (uniF al k).length = 2 ^ k
  | 0 => rfl
  | k + 1 => by rw [uniF, List.length_append, List.length_map, uni_len al k, Nat.pow_succ]; omega
theorem uni_le (al : List Int) {k : Nat} (h : k ≤ 8) : (uniF al k).length ≤ 256 := by
  rw [uni_len]
  exact Nat.le_trans (Nat.pow_le_pow_right (by decide) h) (by decide)
/-- The unions with the first j unions joined to the atom. -/
def uniI (al : List Int) (k j : Nat) : List Int := uniF al k ++ ((uniF al k).take j).map fun x => bor x (al.getD k 0)
theorem uniI_0 (al : List Int) (k : Nat) : uniF al k = uniI al k 0 := by simp [uniI]
theorem take_succ_getD {α : Type} (l : List α) (d : α) {i : Nat} (h : i < l.length) : l.take (i + 1) = l.take i ++ [l.getD i d] := by
  rw [List.take_add_one, List.getD_eq_getElem?_getD, List.getElem?_eq_getElem h]; rfl
theorem uniI_s {al : List Int} {k j : Nat} (h : j < (uniF al k).length) : uniI al k j ++ [bor ((uniF al k).getD j 0) (al.getD k 0)] = uniI al k (j + 1) := by
  rw [uniI, uniI, take_succ_getD _ 0 h, List.map_append, List.append_assoc]; rfl
theorem uniI_e {al : List Int} {k j : Nat} (h : j = (uniF al k).length) : uniI al k j = uniF al (k + 1) := by rw [uniI, h, List.take_length, uniF]
theorem uniI_len (al : List Int) {k j : Nat} (h : k ≤ 8) : (uniI al k j).length ≤ 512 := by
  have := uni_le al h
  rw [uniI, List.length_append, List.length_map, List.length_take]; omega
/-- The pieces of the first j atoms. -/
def splI (t : Int) (al : List Int) (j : Nat) : List Int := splt t (al.take j)
theorem splI_s {t : Int} {al : List Int} {j : Nat} (h : j < al.length) : splI t al (j + 1) = splI t al j ++ pcs t (al.getD j 0) := by
  rw [splI, splI, take_succ_getD _ 0 h, splt, List.flatMap_append, List.flatMap_singleton]; rfl
theorem splI_e {t : Int} {al : List Int} {j : Nat} (h : j = al.length) : splI t al j = splt t al := by rw [splI, h, List.take_length]
theorem pcs_len (t a : Int) : (pcs t a).length ≤ 2 := by
  unfold pcs
  rw [List.length_append]
  split <;> split <;> simp
theorem splI_len (t : Int) (al : List Int) : ∀ j : Nat, j ≤ al.length → (splI t al j).length ≤ 2 * j
  | 0, _ => by simp [splI, splt]
  | j + 1, h => by
    rw [splI_s (by omega), List.length_append]
    have := splI_len t al j (by omega)
    have := pcs_len t (al.getD j 0)
    omega
theorem dsf_in {n : Int} {xs vs : List Int} {l : List (List (Int × Int))} (hM : okMo n xs vs = true) (hv : ∀ j : Nat, j < 6 → InM n.toNat (vs.getD j 0)) {i : Nat} (hl : ∀ j : Nat, j < i → isF (l.getD j []) = true) : ∀ j, j < i → InM n.toNat (dsf n xs vs l j) := fun j hj => tset_in (okMo_fr hM).1 (isF_okm (hl j hj)).1 hv
theorem okMo_in {n : Int} {xs vs : List Int} (h : okMo n xs vs = true) : ∀ j : Nat, j < 6 → InM n.toNat (vs.getD j 0) := by
  intro j hj
  have hf := okMo_fr h
  have hR := okFr_rel hf.1
  simp only [okMo, Bool.and_eq_true, Bool.not_eq_true'] at h
  have h2 := h.2
  rw [List.any_eq_false] at h2
  have := h2 (vs.getD j 0) (getD_mem (by omega))
  rw [Bool.not_eq_true', Bool.not_eq_false] at this
  rw [full_rng (by omega), Int.toNat_of_nonneg hR.1]
  exact this

theorem unionsOf_c (al : List Int) (hl : al.length ≤ 8) : CallA Try.prog 42 [LI al] (ownA eI 2 1 (srtI (uniF al al.length))) := by
  refine CallA.of Try.func42 rfl (by kernel_rfl) ?_
  refine R.go 17 (R.loop ((fun | (k, U) => (⟨(frm 33 [(3, .ref 0), (9, LI al), (10, AI al.length), (11, AI (k : Int))]), [rowA eI 2 1 U]⟩ : St) : Nat × (List Int) → St)) (fun | (k, U) => (k ≤ al.length) ∧ (U = uniF al k)) (fun | (k, U) => al.length - k) (0, [0]) [3, 9, 10, 11] none (by kernel_rfl) (by kernel_rfl) (by kernel_rfl) ⟨(by omega), (by rfl)⟩ ?_)
  rintro ⟨k, U⟩ ⟨h4_1, rfl⟩ R1 N2
  have hul := uni_le al (k := k) (by omega)
  refine R.go 5 (R.cond ((k : Int) < (al.length : Int)) (by kernel_rfl) (fun c5 => ?_) (fun c5 => ?_))
  · refine R.go 5 (R.idx eI al 0 k (k : Int) (by kernel_rfl) rfl eI_len (by omega) (by kernel_rfl) ?_)
    refine R.go 6 (R.call false (clone_c (uniF al k) (by first | omega | (simp <;> omega))) (by kernel_rfl) (ownA_closed eI_closed 2 1 (uniF al k)) (by kernel_rfl) ?_)
    refine R.go 4 (R.loop ((fun | (j, V) => (⟨(frm 33 [(3, .ref 0), (5, AI (al.getD k 0)), (9, LI al), (10, AI al.length), (11, AI (k : Int)), (16, .ref 1), (17, AI ((uniF al k).length)), (18, AI (j : Int))]), [rowA eI 2 1 V, rowA eI 2 1 (uniF al k)]⟩ : St) : Nat × (List Int) → St)) (fun | (j, V) => (j ≤ (uniF al k).length) ∧ (V = uniI al k j)) (fun | (j, V) => (uniF al k).length - j) (0, (uniF al k)) [3, 5, 9, 10, 11, 16, 17, 18] none (by kernel_rfl) (by kernel_rfl) (by kernel_rfl) ⟨(by omega), (by exact uniI_0 al k)⟩ ?_)
    rintro ⟨j, V⟩ ⟨h9_1, rfl⟩ R6 N7
    have hvl := uniI_len al (k := k) (j := j) (by omega)
    refine R.go 5 (R.cond ((j : Int) < ((uniF al k).length : Int)) (by kernel_rfl) (fun c10 => ?_) (fun c10 => ?_))
    · refine R.go 5 (R.idxO 1 1 (uniF al k).length j (j : Int) (by kernel_rfl) rfl (by omega) (by kernel_rfl) ?_)
      refine R.ldI (uniF al k) j (by kernel_rfl) (by omega) (by kernel_rfl) ?_
      refine R.go 8 (R.app eI (uniI al k j) [bor ((uniF al k).getD j 0) (al.getD k 0)] 0 2 1 8 (by kernel_rfl) eI_one (by decide) (by first | omega | (simp <;> omega)) (by kernel_rfl) ?_)
      refine R.go 4 (R.ar ((j : Int) + 1) (by kernel_rfl) (by omega) (by omega) (by kernel_rfl) ?_)
      exact R.go 2 (R.stop R6 (by kernel_rfl) (N7 (j + 1, (uniI al k j) ++ [bor ((uniF al k).getD j 0) (al.getD k 0)]) [3, 5, 9, 10, 11, 16, 17, 18] (some [0, 1]) _ (by kernel_rfl) (by kernel_rfl) ⟨(by omega), (by exact uniI_s (by omega))⟩ (by show ((uniF al k).length - (j + 1)) < ((uniF al k).length - j); omega)))
    · refine R.go 3 (R.ar ((k : Int) + 1) (by kernel_rfl) (by omega) (by omega) (by kernel_rfl) ?_)
      exact R.go 2 (R.stop R1 (by kernel_rfl) (N2 (k + 1, uniI al k j) [3, 9, 10, 11] (some [0]) _ (by kernel_rfl) (by kernel_rfl) ⟨(by omega), (by exact uniI_e (by omega))⟩ (by show (al.length - (k + 1)) < (al.length - k); omega)))
  · refine R.go 4 (R.callX (sort_c (uniF al k) (by omega)) (by kernel_rfl) (by kernel_rfl) (by kernel_rfl) ?_)
    rintro _ _ ⟨rfl, rfl⟩
    exact R.go 6 (R.retE (ownA eI 2 1 (srtI (uniF al k))) (by kernel_rfl) (by kernel_rfl) (by first | (rw [show k = al.length by omega]) | (exfalso; omega)))

/-- What DefinableSets answers. -/
def dsC (n : Int) (xs vs : List Int) (l : List (List (Int × Int))) : Int := if okMo n xs vs = true ∧ allF l = true then 0 else 1
def dsR (n : Int) (xs vs : List Int) (l : List (List (Int × Int))) : List Int := if dsC n xs vs l = 0 then numF (fitB n.toNat (dsf n xs vs l) l.length) (2 ^ n.toNat) else []
theorem ds_1 {n : Int} {xs vs : List Int} {l : List (List (Int × Int))} (h : ¬ (okMo n xs vs = true ∧ allF l = true)) : dsC n xs vs l = 1 ∧ dsR n xs vs l = [] := by
  have : dsC n xs vs l = 1 := if_neg h
  exact ⟨this, by rw [dsR, this]; rfl⟩
theorem ds_0 {n : Int} {xs vs : List Int} {l : List (List (Int × Int))} (h1 : okMo n xs vs = true) (h2 : allF l = true) : dsC n xs vs l = 0 ∧ dsR n xs vs l = numF (fitB n.toNat (dsf n xs vs l) l.length) (2 ^ n.toNat) := by
  have : dsC n xs vs l = 0 := if_pos ⟨h1, h2⟩
  exact ⟨this, by rw [dsR, this]; rfl⟩
theorem DS_impl (n : Int) (xs : List Int) (vs : List Int) (l : List (List (Int × Int))) (l1 : xs.length ≤ 1048576) (l2 : vs.length ≤ 1048576) (hl : l.length ≤ 1048576 ∧ ∀ i0 : Nat, i0 < l.length → (l.getD i0 []).length ≤ 1048576) : CallA Try.prog 10 [.agg [AI n, LI xs, LI vs], LLN l] (.tup [ownA eI 2 1 (dsR n xs vs l), AI (dsC n xs vs l)]) := by
  have hs : shortL l := ⟨by omega, fun i h => by have := hl.2 i h; omega⟩
  refine CallA.of Try.func10 rfl (by kernel_rfl) ?_
  refine R.go 10 (R.call true (isModel_c n xs vs (by first | omega | (simp <;> omega)) (by first | omega | (simp <;> omega))) (by kernel_rfl) rfl (by kernel_rfl) ?_)
  refine R.go 2 ?_
  refine (Bool.eq_false_or_eq_true (okMo n xs vs)).elim (fun c1 => ?_) (fun c1 => ?_)
  · refine R.want (!(okMo n xs vs)) false (by kernel_rfl) (bnF c1) ?_
    refine R.go 1 (R.want (!(okMo n xs vs)) false (by kernel_rfl) (bnF c1) ?_)
    refine R.call true (areFormulas_c l hs) (by kernel_rfl) rfl (by kernel_rfl) ?_
    refine R.want (!(okMo n xs vs)) false (by kernel_rfl) (bnF c1) ?_
    refine R.go 1 (R.pick (!(okMo n xs vs)) false (by kernel_rfl) (bnF c1) (by kernel_rfl) ?_)
    refine R.go 1 (R.condM (allF l) (by kernel_rfl) (fun c2 => ?_) (fun c2 => ?_))
    · obtain ⟨hc1, hc2⟩ := ds_1 (n := n) (xs := xs) (vs := vs) (l := l) (by simp [*])
      refine R.go 5 (R.nil 4 2 1 (by kernel_rfl) ?_)
      exact R.retE (.tup [ownA eI 2 1 [], AI 1]) (by kernel_rfl) (by kernel_rfl) (by first | (first | (rw [hc1, hc2]; done) | (rw [hc1, hc2, show i = l.length by omega, ds_eq (by omega) (hdi l.length (Nat.le_refl _))])) | (exfalso; omega))
    · have hM : okMo n xs vs = true := by assumption
      have hA : allF l = true := by assumption
      obtain ⟨hc1, hc2⟩ := ds_0 hM hA
      have hr0 := okMo_fr hM
      have hr1 := okFr_rel hr0.1
      have hb : 0 ≤ n ∧ n ≤ 8 ∧ (xs.length : Int) = n := ⟨hr1.1, hr1.2.1, hr1.2.2.1⟩
      have hvin := okMo_in hM
      have hF := hr0.1
      have hv6 := hr0.2
      have hff := fun (i : Nat) (h : i < l.length) => (allF_get hA i h : isF (l.getD i []) = true)
      have hdi := fun (i : Nat) (h : i ≤ l.length) => dsf_in hM hvin (i := i) (fun j hj => hff j (by omega))
      have hal := fun (i : Nat) (h : i ≤ l.length) => atm_len (n := n.toNat) (by omega) (hdi i h)
      refine R.go 13 (R.cond (n > 0) (by kernel_rfl) (fun c3 => ?_) (fun c3 => ?_))
      · refine R.go 4 (R.call true (frameAll_c n xs (by omega) (by omega)) (by kernel_rfl) rfl (by kernel_rfl) ?_)
        refine R.go 1 (R.appN eI [(shl64 1 n) - 1] 2 1 8 (by kernel_rfl) eI_one (by decide) (by first | omega | (simp only [List.length_set]; omega) | (simp <;> omega)) (by kernel_rfl) ?_)
        refine R.go 10 (R.loop ((fun | (i, A) => (⟨(frm 72 [(2, .ptr 0 0), (6, .ref 1), (33, LLN l), (34, AI l.length), (35, AI (i : Int))]), [.box 34 [AI n, LI xs, LI vs], rowA eI 2 1 A]⟩ : St) : Nat × (List Int) → St)) (fun | (i, A) => (i ≤ l.length) ∧ (A = atmF n.toNat (dsf n xs vs l) i)) (fun | (i, A) => l.length - i) (0, [(shl64 1 n) - 1]) [2, 6, 33, 34, 35] (some [0, 2]) (by kernel_rfl) (by kernel_rfl) (by kernel_rfl) ⟨(by omega), (by first | (rw [atmF, if_pos (by omega), Int.toNat_of_nonneg hb.1]) | (rw [atmF, if_neg (by omega)]))⟩ ?_)
        rintro ⟨i, A⟩ ⟨h7_1, rfl⟩ R4 N5
        have hali := hal i (by omega)
        refine R.go 5 (R.cond ((i : Int) < (l.length : Int)) (by kernel_rfl) (fun c8 => ?_) (fun c8 => ?_))
        · refine R.go 5 (R.idx eLN l [] i (i : Int) (by kernel_rfl) rfl eLN_len (by omega) (by kernel_rfl) ?_)
          have hok0 := hff i (by omega)
          have hokm := isF_okm hok0
          have hok : OKM vs.length (l.getD i []) := by rw [hv6]; exact hokm.1
          have hlq := hl.2 i (by omega)
          refine R.go 7 (R.call true (truthIn_c n xs vs (l.getD i []) hok (by omega) (by omega) (by first | omega | (simp <;> omega)) (by first | omega | (simp <;> omega))) (by kernel_rfl) rfl (by kernel_rfl) ?_)
          refine R.go 14 (R.nil 10 2 1 (by kernel_rfl) ?_)
          refine R.loop ((fun | (j, N) => (⟨(frm 72 [(2, .ptr 0 0), (9, AI (tset n xs vs (l.getD i []))), (10, .ref 1), (33, LLN l), (34, AI l.length), (35, AI (i : Int)), (42, .ref 2), (43, AI ((atmF n.toNat (dsf n xs vs l) i).length)), (44, AI (j : Int))]), [.box 34 [AI n, LI xs, LI vs], rowA eI 2 1 N, rowA eI 2 1 (atmF n.toNat (dsf n xs vs l) i)]⟩ : St) : Nat × (List Int) → St)) (fun | (j, N) => (j ≤ (atmF n.toNat (dsf n xs vs l) i).length) ∧ (N = splI (dsf n xs vs l i) (atmF n.toNat (dsf n xs vs l) i) j)) (fun | (j, N) => (atmF n.toNat (dsf n xs vs l) i).length - j) (0, []) [2, 9, 10, 33, 34, 35, 42, 43, 44] (some [0, 2, 1]) (by kernel_rfl) (by kernel_rfl) (by kernel_rfl) ⟨(by omega), (by simp [splI, splt])⟩ ?_
          rintro ⟨j, N⟩ ⟨h12_1, rfl⟩ R9 N10
          have hspj := splI_len (dsf n xs vs l i) (atmF n.toNat (dsf n xs vs l) i) j (by omega)
          have hspl := splI_len (dsf n xs vs l i) (atmF n.toNat (dsf n xs vs l) i)
          refine R.go 5 (R.cond ((j : Int) < ((atmF n.toNat (dsf n xs vs l) i).length : Int)) (by kernel_rfl) (fun c13 => ?_) (fun c13 => ?_))
          · refine R.go 5 (R.idxO 2 1 (atmF n.toNat (dsf n xs vs l) i).length j (j : Int) (by kernel_rfl) rfl (by omega) (by kernel_rfl) ?_)
            refine R.ldI (atmF n.toNat (dsf n xs vs l) i) j (by kernel_rfl) (by omega) (by kernel_rfl) ?_
            refine R.go 10 (R.lit (s := 1) (n := 2) (cs := rows eI [band ((atmF n.toNat (dsf n xs vs l) i).getD j 0) (tset n xs vs (l.getD i [])), bnot ((atmF n.toNat (dsf n xs vs l) i).getD j 0) (tset n xs vs (l.getD i []))]) (by kernel_rfl) (by kernel_rfl) ?_)
            refine R.go 4 (R.rounds 2 (by kernel_rfl) ?_)
            intro R14 hA15
            refine R.go 20 (R.condN ((band ((atmF n.toNat (dsf n xs vs l) i).getD j 0) (tset n xs vs (l.getD i []))) = 0) (by kernel_rfl) (fun c16 => ?_) (fun c16 => ?_))
            · refine R.go 4 (R.app eI (splI (dsf n xs vs l i) (atmF n.toNat (dsf n xs vs l) i) j) [band ((atmF n.toNat (dsf n xs vs l) i).getD j 0) (tset n xs vs (l.getD i []))] 1 2 1 8 (by kernel_rfl) eI_one (by decide) (by first | omega | (simp <;> omega)) (by kernel_rfl) ?_)
              refine R.go 7 (R.stopA R14 (by kernel_rfl) hA15 ?_)
              intro R17 hA18
              refine R.go 20 (R.condN ((bnot ((atmF n.toNat (dsf n xs vs l) i).getD j 0) (tset n xs vs (l.getD i []))) = 0) (by kernel_rfl) (fun c19 => ?_) (fun c19 => ?_))
              · refine R.go 4 (R.app eI ((splI (dsf n xs vs l i) (atmF n.toNat (dsf n xs vs l) i) j) ++ [band ((atmF n.toNat (dsf n xs vs l) i).getD j 0) (tset n xs vs (l.getD i []))]) [bnot ((atmF n.toNat (dsf n xs vs l) i).getD j 0) (tset n xs vs (l.getD i []))] 1 2 1 8 (by kernel_rfl) eI_one (by decide) (by first | omega | (simp <;> omega)) (by kernel_rfl) ?_)
                refine R.go 7 (R.stopA R17 (by kernel_rfl) hA18 ?_)
                intro R20 hA21
                refine R.go 9 (R.ar ((j : Int) + 1) (by kernel_rfl) (by omega) (by omega) (by kernel_rfl) ?_)
                exact R.go 2 (R.stop R9 (by kernel_rfl) (N10 (j + 1, (splI (dsf n xs vs l i) (atmF n.toNat (dsf n xs vs l) i) j) ++ [band ((atmF n.toNat (dsf n xs vs l) i).getD j 0) (tset n xs vs (l.getD i []))] ++ [bnot ((atmF n.toNat (dsf n xs vs l) i).getD j 0) (tset n xs vs (l.getD i []))]) [2, 9, 10, 33, 34, 35, 42, 43, 44] (some [0, 1, 2]) _ (by kernel_rfl) (by kernel_rfl) ⟨(by omega), (by rw [splI_s (by omega), pcs]; simp only [dsf, *, if_true, if_false]; simp)⟩ (by show ((atmF n.toNat (dsf n xs vs l) i).length - (j + 1)) < ((atmF n.toNat (dsf n xs vs l) i).length - j); omega)))
              · refine R.go 6 (R.stopA R17 (by kernel_rfl) hA18 ?_)
                intro R22 hA23
                refine R.go 9 (R.ar ((j : Int) + 1) (by kernel_rfl) (by omega) (by omega) (by kernel_rfl) ?_)
                exact R.go 2 (R.stop R9 (by kernel_rfl) (N10 (j + 1, (splI (dsf n xs vs l i) (atmF n.toNat (dsf n xs vs l) i) j) ++ [band ((atmF n.toNat (dsf n xs vs l) i).getD j 0) (tset n xs vs (l.getD i []))]) [2, 9, 10, 33, 34, 35, 42, 43, 44] (some [0, 1, 2]) _ (by kernel_rfl) (by kernel_rfl) ⟨(by omega), (by rw [splI_s (by omega), pcs]; simp only [dsf, *, if_true, if_false]; simp)⟩ (by show ((atmF n.toNat (dsf n xs vs l) i).length - (j + 1)) < ((atmF n.toNat (dsf n xs vs l) i).length - j); omega)))
            · refine R.go 6 (R.stopA R14 (by kernel_rfl) hA15 ?_)
              intro R24 hA25
              refine R.go 20 (R.condN ((bnot ((atmF n.toNat (dsf n xs vs l) i).getD j 0) (tset n xs vs (l.getD i []))) = 0) (by kernel_rfl) (fun c26 => ?_) (fun c26 => ?_))
              · refine R.go 4 (R.app eI (splI (dsf n xs vs l i) (atmF n.toNat (dsf n xs vs l) i) j) [bnot ((atmF n.toNat (dsf n xs vs l) i).getD j 0) (tset n xs vs (l.getD i []))] 1 2 1 8 (by kernel_rfl) eI_one (by decide) (by first | omega | (simp <;> omega)) (by kernel_rfl) ?_)
                refine R.go 7 (R.stopA R24 (by kernel_rfl) hA25 ?_)
                intro R27 hA28
                refine R.go 9 (R.ar ((j : Int) + 1) (by kernel_rfl) (by omega) (by omega) (by kernel_rfl) ?_)
                exact R.go 2 (R.stop R9 (by kernel_rfl) (N10 (j + 1, (splI (dsf n xs vs l i) (atmF n.toNat (dsf n xs vs l) i) j) ++ [bnot ((atmF n.toNat (dsf n xs vs l) i).getD j 0) (tset n xs vs (l.getD i []))]) [2, 9, 10, 33, 34, 35, 42, 43, 44] (some [0, 1, 2]) _ (by kernel_rfl) (by kernel_rfl) ⟨(by omega), (by rw [splI_s (by omega), pcs]; simp only [dsf, *, if_true, if_false]; simp)⟩ (by show ((atmF n.toNat (dsf n xs vs l) i).length - (j + 1)) < ((atmF n.toNat (dsf n xs vs l) i).length - j); omega)))
              · refine R.go 6 (R.stopA R24 (by kernel_rfl) hA25 ?_)
                intro R29 hA30
                refine R.go 9 (R.ar ((j : Int) + 1) (by kernel_rfl) (by omega) (by omega) (by kernel_rfl) ?_)
                exact R.go 2 (R.stop R9 (by kernel_rfl) (N10 (j + 1, splI (dsf n xs vs l i) (atmF n.toNat (dsf n xs vs l) i) j) [2, 9, 10, 33, 34, 35, 42, 43, 44] none _ (by kernel_rfl) (by kernel_rfl) ⟨(by omega), (by rw [splI_s (by omega), pcs]; simp only [dsf, *, if_true, if_false]; simp)⟩ (by show ((atmF n.toNat (dsf n xs vs l) i).length - (j + 1)) < ((atmF n.toNat (dsf n xs vs l) i).length - j); omega)))
          · refine R.go 7 (R.ar ((i : Int) + 1) (by kernel_rfl) (by omega) (by omega) (by kernel_rfl) ?_)
            exact R.go 2 (R.stop R4 (by kernel_rfl) (N5 (i + 1, splI (dsf n xs vs l i) (atmF n.toNat (dsf n xs vs l) i) j) [2, 6, 33, 34, 35] (some [0, 1]) _ (by kernel_rfl) (by kernel_rfl) ⟨(by omega), (by exact splI_e (by omega))⟩ (by show (l.length - (i + 1)) < (l.length - i); omega)))
        · refine R.go 4 (R.call false (unionsOf_c (atmF n.toNat (dsf n xs vs l) i) (by first | omega | (simp <;> omega))) (by kernel_rfl) (ownA_closed eI_closed 2 1 (srtI (uniF (atmF n.toNat (dsf n xs vs l) i) (atmF n.toNat (dsf n xs vs l) i).length))) (by kernel_rfl) ?_)
          exact R.go 3 (R.retE (.tup [ownA eI 2 1 (srtI (uniF (atmF n.toNat (dsf n xs vs l) i) (atmF n.toNat (dsf n xs vs l) i).length)), AI 0]) (by kernel_rfl) (by kernel_rfl) (by first | (first | (rw [hc1, hc2]; done) | (rw [hc1, hc2, show i = l.length by omega, ds_eq (by omega) (hdi l.length (Nat.le_refl _))])) | (exfalso; omega)))
      · refine R.go 9 (R.nil 6 2 1 (by kernel_rfl) ?_)
        refine R.loop ((fun | (i, A) => (⟨(frm 72 [(2, .ptr 0 0), (6, .ref 1), (33, LLN l), (34, AI l.length), (35, AI (i : Int))]), [.box 34 [AI n, LI xs, LI vs], rowA eI 2 1 A]⟩ : St) : Nat × (List Int) → St)) (fun | (i, A) => (i ≤ l.length) ∧ (A = atmF n.toNat (dsf n xs vs l) i)) (fun | (i, A) => l.length - i) (0, []) [2, 6, 33, 34, 35] none (by kernel_rfl) (by kernel_rfl) (by kernel_rfl) ⟨(by omega), (by first | (rw [atmF, if_pos (by omega), Int.toNat_of_nonneg hb.1]) | (rw [atmF, if_neg (by omega)]))⟩ ?_
        rintro ⟨i, A⟩ ⟨h34_1, rfl⟩ R31 N32
        have hali := hal i (by omega)
        refine R.go 5 (R.cond ((i : Int) < (l.length : Int)) (by kernel_rfl) (fun c35 => ?_) (fun c35 => ?_))
        · refine R.go 5 (R.idx eLN l [] i (i : Int) (by kernel_rfl) rfl eLN_len (by omega) (by kernel_rfl) ?_)
          have hok0 := hff i (by omega)
          have hokm := isF_okm hok0
          have hok : OKM vs.length (l.getD i []) := by rw [hv6]; exact hokm.1
          have hlq := hl.2 i (by omega)
          refine R.go 7 (R.call true (truthIn_c n xs vs (l.getD i []) hok (by omega) (by omega) (by first | omega | (simp <;> omega)) (by first | omega | (simp <;> omega))) (by kernel_rfl) rfl (by kernel_rfl) ?_)
          refine R.go 14 (R.nil 10 2 1 (by kernel_rfl) ?_)
          refine R.loop ((fun | (j, N) => (⟨(frm 72 [(2, .ptr 0 0), (9, AI (tset n xs vs (l.getD i []))), (10, .ref 1), (33, LLN l), (34, AI l.length), (35, AI (i : Int)), (42, .ref 2), (43, AI ((atmF n.toNat (dsf n xs vs l) i).length)), (44, AI (j : Int))]), [.box 34 [AI n, LI xs, LI vs], rowA eI 2 1 N, rowA eI 2 1 (atmF n.toNat (dsf n xs vs l) i)]⟩ : St) : Nat × (List Int) → St)) (fun | (j, N) => (j ≤ (atmF n.toNat (dsf n xs vs l) i).length) ∧ (N = splI (dsf n xs vs l i) (atmF n.toNat (dsf n xs vs l) i) j)) (fun | (j, N) => (atmF n.toNat (dsf n xs vs l) i).length - j) (0, []) [2, 9, 10, 33, 34, 35, 42, 43, 44] (some [0, 2, 1]) (by kernel_rfl) (by kernel_rfl) (by kernel_rfl) ⟨(by omega), (by simp [splI, splt])⟩ ?_
          rintro ⟨j, N⟩ ⟨h39_1, rfl⟩ R36 N37
          have hspj := splI_len (dsf n xs vs l i) (atmF n.toNat (dsf n xs vs l) i) j (by omega)
          have hspl := splI_len (dsf n xs vs l i) (atmF n.toNat (dsf n xs vs l) i)
          refine R.go 5 (R.cond ((j : Int) < ((atmF n.toNat (dsf n xs vs l) i).length : Int)) (by kernel_rfl) (fun c40 => ?_) (fun c40 => ?_))
          · refine R.go 5 (R.idxO 2 1 (atmF n.toNat (dsf n xs vs l) i).length j (j : Int) (by kernel_rfl) rfl (by omega) (by kernel_rfl) ?_)
            refine R.ldI (atmF n.toNat (dsf n xs vs l) i) j (by kernel_rfl) (by omega) (by kernel_rfl) ?_
            refine R.go 10 (R.lit (s := 1) (n := 2) (cs := rows eI [band ((atmF n.toNat (dsf n xs vs l) i).getD j 0) (tset n xs vs (l.getD i [])), bnot ((atmF n.toNat (dsf n xs vs l) i).getD j 0) (tset n xs vs (l.getD i []))]) (by kernel_rfl) (by kernel_rfl) ?_)
            refine R.go 4 (R.rounds 2 (by kernel_rfl) ?_)
            intro R41 hA42
            refine R.go 20 (R.condN ((band ((atmF n.toNat (dsf n xs vs l) i).getD j 0) (tset n xs vs (l.getD i []))) = 0) (by kernel_rfl) (fun c43 => ?_) (fun c43 => ?_))
            · refine R.go 4 (R.app eI (splI (dsf n xs vs l i) (atmF n.toNat (dsf n xs vs l) i) j) [band ((atmF n.toNat (dsf n xs vs l) i).getD j 0) (tset n xs vs (l.getD i []))] 1 2 1 8 (by kernel_rfl) eI_one (by decide) (by first | omega | (simp <;> omega)) (by kernel_rfl) ?_)
              refine R.go 7 (R.stopA R41 (by kernel_rfl) hA42 ?_)
              intro R44 hA45
              refine R.go 20 (R.condN ((bnot ((atmF n.toNat (dsf n xs vs l) i).getD j 0) (tset n xs vs (l.getD i []))) = 0) (by kernel_rfl) (fun c46 => ?_) (fun c46 => ?_))
              · refine R.go 4 (R.app eI ((splI (dsf n xs vs l i) (atmF n.toNat (dsf n xs vs l) i) j) ++ [band ((atmF n.toNat (dsf n xs vs l) i).getD j 0) (tset n xs vs (l.getD i []))]) [bnot ((atmF n.toNat (dsf n xs vs l) i).getD j 0) (tset n xs vs (l.getD i []))] 1 2 1 8 (by kernel_rfl) eI_one (by decide) (by first | omega | (simp <;> omega)) (by kernel_rfl) ?_)
                refine R.go 7 (R.stopA R44 (by kernel_rfl) hA45 ?_)
                intro R47 hA48
                refine R.go 9 (R.ar ((j : Int) + 1) (by kernel_rfl) (by omega) (by omega) (by kernel_rfl) ?_)
                exact R.go 2 (R.stop R36 (by kernel_rfl) (N37 (j + 1, (splI (dsf n xs vs l i) (atmF n.toNat (dsf n xs vs l) i) j) ++ [band ((atmF n.toNat (dsf n xs vs l) i).getD j 0) (tset n xs vs (l.getD i []))] ++ [bnot ((atmF n.toNat (dsf n xs vs l) i).getD j 0) (tset n xs vs (l.getD i []))]) [2, 9, 10, 33, 34, 35, 42, 43, 44] (some [0, 1, 2]) _ (by kernel_rfl) (by kernel_rfl) ⟨(by omega), (by rw [splI_s (by omega), pcs]; simp only [dsf, *, if_true, if_false]; simp)⟩ (by show ((atmF n.toNat (dsf n xs vs l) i).length - (j + 1)) < ((atmF n.toNat (dsf n xs vs l) i).length - j); omega)))
              · refine R.go 6 (R.stopA R44 (by kernel_rfl) hA45 ?_)
                intro R49 hA50
                refine R.go 9 (R.ar ((j : Int) + 1) (by kernel_rfl) (by omega) (by omega) (by kernel_rfl) ?_)
                exact R.go 2 (R.stop R36 (by kernel_rfl) (N37 (j + 1, (splI (dsf n xs vs l i) (atmF n.toNat (dsf n xs vs l) i) j) ++ [band ((atmF n.toNat (dsf n xs vs l) i).getD j 0) (tset n xs vs (l.getD i []))]) [2, 9, 10, 33, 34, 35, 42, 43, 44] (some [0, 1, 2]) _ (by kernel_rfl) (by kernel_rfl) ⟨(by omega), (by rw [splI_s (by omega), pcs]; simp only [dsf, *, if_true, if_false]; simp)⟩ (by show ((atmF n.toNat (dsf n xs vs l) i).length - (j + 1)) < ((atmF n.toNat (dsf n xs vs l) i).length - j); omega)))
            · refine R.go 6 (R.stopA R41 (by kernel_rfl) hA42 ?_)
              intro R51 hA52
              refine R.go 20 (R.condN ((bnot ((atmF n.toNat (dsf n xs vs l) i).getD j 0) (tset n xs vs (l.getD i []))) = 0) (by kernel_rfl) (fun c53 => ?_) (fun c53 => ?_))
              · refine R.go 4 (R.app eI (splI (dsf n xs vs l i) (atmF n.toNat (dsf n xs vs l) i) j) [bnot ((atmF n.toNat (dsf n xs vs l) i).getD j 0) (tset n xs vs (l.getD i []))] 1 2 1 8 (by kernel_rfl) eI_one (by decide) (by first | omega | (simp <;> omega)) (by kernel_rfl) ?_)
                refine R.go 7 (R.stopA R51 (by kernel_rfl) hA52 ?_)
                intro R54 hA55
                refine R.go 9 (R.ar ((j : Int) + 1) (by kernel_rfl) (by omega) (by omega) (by kernel_rfl) ?_)
                exact R.go 2 (R.stop R36 (by kernel_rfl) (N37 (j + 1, (splI (dsf n xs vs l i) (atmF n.toNat (dsf n xs vs l) i) j) ++ [bnot ((atmF n.toNat (dsf n xs vs l) i).getD j 0) (tset n xs vs (l.getD i []))]) [2, 9, 10, 33, 34, 35, 42, 43, 44] (some [0, 1, 2]) _ (by kernel_rfl) (by kernel_rfl) ⟨(by omega), (by rw [splI_s (by omega), pcs]; simp only [dsf, *, if_true, if_false]; simp)⟩ (by show ((atmF n.toNat (dsf n xs vs l) i).length - (j + 1)) < ((atmF n.toNat (dsf n xs vs l) i).length - j); omega)))
              · refine R.go 6 (R.stopA R51 (by kernel_rfl) hA52 ?_)
                intro R56 hA57
                refine R.go 9 (R.ar ((j : Int) + 1) (by kernel_rfl) (by omega) (by omega) (by kernel_rfl) ?_)
                exact R.go 2 (R.stop R36 (by kernel_rfl) (N37 (j + 1, splI (dsf n xs vs l i) (atmF n.toNat (dsf n xs vs l) i) j) [2, 9, 10, 33, 34, 35, 42, 43, 44] none _ (by kernel_rfl) (by kernel_rfl) ⟨(by omega), (by rw [splI_s (by omega), pcs]; simp only [dsf, *, if_true, if_false]; simp)⟩ (by show ((atmF n.toNat (dsf n xs vs l) i).length - (j + 1)) < ((atmF n.toNat (dsf n xs vs l) i).length - j); omega)))
          · refine R.go 7 (R.ar ((i : Int) + 1) (by kernel_rfl) (by omega) (by omega) (by kernel_rfl) ?_)
            exact R.go 2 (R.stop R31 (by kernel_rfl) (N32 (i + 1, splI (dsf n xs vs l i) (atmF n.toNat (dsf n xs vs l) i) j) [2, 6, 33, 34, 35] (some [0, 1]) _ (by kernel_rfl) (by kernel_rfl) ⟨(by omega), (by exact splI_e (by omega))⟩ (by show (l.length - (i + 1)) < (l.length - i); omega)))
        · refine R.go 4 (R.call false (unionsOf_c (atmF n.toNat (dsf n xs vs l) i) (by first | omega | (simp <;> omega))) (by kernel_rfl) (ownA_closed eI_closed 2 1 (srtI (uniF (atmF n.toNat (dsf n xs vs l) i) (atmF n.toNat (dsf n xs vs l) i).length))) (by kernel_rfl) ?_)
          exact R.go 3 (R.retE (.tup [ownA eI 2 1 (srtI (uniF (atmF n.toNat (dsf n xs vs l) i) (atmF n.toNat (dsf n xs vs l) i).length)), AI 0]) (by kernel_rfl) (by kernel_rfl) (by first | (first | (rw [hc1, hc2]; done) | (rw [hc1, hc2, show i = l.length by omega, ds_eq (by omega) (hdi l.length (Nat.le_refl _))])) | (exfalso; omega)))
  · refine R.skp (!(okMo n xs vs)) false (by kernel_rfl) (bnT c1) (by kernel_rfl) ?_
    refine R.skp (!(okMo n xs vs)) false (by kernel_rfl) (bnT c1) (by kernel_rfl) ?_
    refine R.skp (!(okMo n xs vs)) false (by kernel_rfl) (bnT c1) (by kernel_rfl) ?_
    refine R.pick (!(okMo n xs vs)) true (by kernel_rfl) (bnT c1) (by kernel_rfl) ?_
    obtain ⟨hc1, hc2⟩ := ds_1 (n := n) (xs := xs) (vs := vs) (l := l) (by simp [*])
    refine R.go 7 (R.nil 4 2 1 (by kernel_rfl) ?_)
    exact R.retE (.tup [ownA eI 2 1 [], AI 1]) (by kernel_rfl) (by kernel_rfl) (by first | (first | (rw [hc1, hc2]; done) | (rw [hc1, hc2, show i = l.length by omega, ds_eq (by omega) (hdi l.length (Nat.le_refl _))])) | (exfalso; omega))

end Go.Proofs.Ytpalghbfhgimkaa


/-! Definable sets: the reference. -/
namespace Go.Proofs.Ytpalghbfhgimkaa
open Go.RowKit Go.Abs

theorem dec_bit {n w : Nat} {m : Int} (hn : n ≤ 61) (h : InM n m) (hw : w ≤ 61) : band (shr64 m (w : Int)) 1 = if tb m w = true then 1 else 0 := by
  by_cases hb : tb m w = true
  · rw [if_pos hb]; exact (has_tb hn h hw).2 hb
  · rw [if_neg hb]
    obtain ⟨a, rfl, ha⟩ := inM_nat h
    have h62 : a < 2 ^ 62 := inM_62 hn ha
    have h1 : ¬ band (shr64 (a : Int) (w : Int)) 1 = 1 := fun e => hb ((has_tb hn h hw).1 e)
    rw [shr_nat (by omega)] at h1 ⊢
    have hd : a / 2 ^ w < 2 ^ 62 := Nat.lt_of_le_of_lt (Nat.div_le_self _ _) h62
    have e := band_nat (a := a / 2 ^ w) (b := 1) hd (by decide)
    rw [Nat.and_one_is_mod] at e
    have e' : band ((a / 2 ^ w : Nat) : Int) 1 = ((a / 2 ^ w % 2 : Nat) : Int) := e
    rw [e'] at h1 ⊢
    have := Nat.mod_lt (a / 2 ^ w) (show 2 > 0 by decide)
    omega
/-- The texts of the worlds. -/
def keyR (f : Nat → Int) (n i : Nat) : List (List Bool) := (List.range n).map fun w => kyF f w i
def keyW (f : Nat → Int) (n i k : Nat) : List (List Bool) := (List.range n).map fun w => kyF f w (if w < k then i + 1 else i)
theorem keyR_len (f : Nat → Int) (n i : Nat) : (keyR f n i).length = n := by simp [keyR]
theorem keyW_len (f : Nat → Int) (n i k : Nat) : (keyW f n i k).length = n := by simp [keyW]
theorem keyR_0 (f : Nat → Int) (n : Nat) : List.replicate n [] = keyR f n 0 := by
  apply List.ext_getElem (by simp [keyR])
  intro j h1 h2
  simp [keyR, kyF]
theorem keyW_0 (f : Nat → Int) (n i : Nat) : keyR f n i = keyW f n i 0 := by simp [keyR, keyW]
theorem keyW_e (f : Nat → Int) (n i : Nat) {k : Nat} (h : k = n) : keyW f n i k = keyR f n (i + 1) := by
  subst h
  refine List.map_congr_left fun w hw => ?_
  rw [if_pos (List.mem_range.1 hw)]
theorem keyR_get {f : Nat → Int} {n i w : Nat} (hw : w < n) : (keyR f n i).getD w [] = kyF f w i := by
  rw [List.getD_eq_getElem?_getD, keyR, List.getElem?_map, List.getElem?_range hw]; rfl
theorem keyW_get {f : Nat → Int} {n i k w : Nat} (hw : w < n) : (keyW f n i k).getD w [] = kyF f w (if w < k then i + 1 else i) := by
  rw [List.getD_eq_getElem?_getD, keyW, List.getElem?_map, List.getElem?_range hw]; rfl
theorem ky_len (f : Nat → Int) (w : Nat) : ∀ i : Nat, (kyF f w i).length = i
  | 0 => rfl
  | i + 1 => by simp [kyF, ky_len f w i]
theorem keyW_s {f : Nat → Int} {n i k : Nat} (hk : k < n) : (keyW f n i k).set k ((keyW f n i k).getD k [] ++ [tb (f i) k]) = keyW f n i (k + 1) := by
  rw [keyW_get hk, if_neg (by omega)]
  apply List.ext_getElem (by simp [keyW])
  intro j h1 h2
  rw [List.getElem_set]
  split
  · rename_i e; subst e; simp [keyW, kyF]
  · rename_i e
    simp only [keyW, List.getElem_map, List.getElem_range]
    by_cases hj : j < k
    · rw [if_pos hj, if_pos (by omega)]
    · rw [if_neg hj, if_neg (by omega)]
def fitV (f : Nat → Int) (i : Nat) (q : Int) (w : Nat) : Nat → Bool
  | 0 => true
  | v + 1 => fitV f i q w v && decide (kyF f w i ≠ kyF f v i ∨ tb q w = tb q v)
def fitW (f : Nat → Int) (i : Nat) (q : Int) : Nat → Bool
  | 0 => true
  | w + 1 => fitW f i q w && fitV f i q w w
theorem fitV_all (f : Nat → Int) (i : Nat) (q : Int) (w : Nat) : ∀ v : Nat, fitV f i q w v = (List.range v).all fun v => decide (kyF f w i ≠ kyF f v i ∨ tb q w = tb q v)
  | 0 => rfl
  | v + 1 => by rw [fitV, fitV_all f i q w v, List.range_succ, List.all_append]; simp
theorem fitW_all (f : Nat → Int) (i : Nat) (q : Nat) : ∀ n : Nat, fitW f i (q : Int) n = fitB n f i q
  | 0 => rfl
  | n + 1 => by
    rw [fitW, fitW_all f i q n, fitV_all, fitB, fitB, List.range_succ, List.all_append]; simp
theorem fit_step {f : Nat → Int} {i w v : Nat} {q : Int} {a b : Bool} (h : (fitW f i q w && fitV f i q w v) = a) (h2 : b = (a && decide (kyF f w i ≠ kyF f v i ∨ tb q w = tb q v))) : (fitW f i q w && fitV f i q w (v + 1)) = b := by
  rw [h2, ← h, fitV, Bool.and_assoc]
theorem fs_1 {f : Nat → Int} {i w v : Nat} {q : Int} {a bw bv : Bool} (ha : a = true) (hk : kyF f w i = kyF f v i) (h1 : bw = tb q w) (h2 : bv = tb q v) : (bw == bv) = (a && decide (kyF f w i ≠ kyF f v i ∨ tb q w = tb q v)) := by
  subst ha h1 h2
  cases tb q w <;> cases tb q v <;> simp [hk]
theorem fs_2 {f : Nat → Int} {i w v : Nat} {q : Int} {a : Bool} (ha : a = true) (hk : ¬ kyF f w i = kyF f v i) : true = (a && decide (kyF f w i ≠ kyF f v i ∨ tb q w = tb q v)) := by
  subst ha
  simp [hk]
theorem fs_3 {a b : Bool} (ha : a = false) : false = (a && b) := by subst ha; rfl
theorem below1' {P : Nat → Prop} {i : Nat} (h : ∀ j : Nat, j < i → P j) (hi : P i) : ∀ j : Nat, j < i + 1 → P j := fun j hj => by
  by_cases e : j = i
  · subst e; exact hi
  · exact h j (by omega)
theorem allF_mk {l : List (List (Int × Int))} (h : ∀ j : Nat, j < l.length → isF (l.getD j []) = true) : allF l = true := by
  simp only [allF, Bool.not_eq_true', List.any_eq_false, Bool.not_eq_true]
  intro a ha
  obtain ⟨j, hj, rfl⟩ := List.getElem_of_mem ha
  have := h j hj
  rw [List.getD_eq_getElem?_getD, List.getElem?_eq_getElem hj] at this
  rw [Bool.not_eq_false]
  exact this
theorem allF_noJ {l : List (List (Int × Int))} {j : Nat} (hj : j < l.length) (h : isF (l.getD j []) = false) : allF l = false := by
  cases hA : allF l with
  | false => rfl
  | true => rw [allF_get hA j hj] at h; cases h
theorem numF_y {p : Nat → Bool} {q : Nat} (h : p q = true) : numF p q ++ [(q : Int)] = numF p (q + 1) := by rw [numF, if_pos h]
theorem numF_n {p : Nat → Bool} {q : Nat} (h : p q = false) : numF p q = numF p (q + 1) := by rw [numF, if_neg (by rw [h]; exact Bool.false_ne_true), List.append_nil]
theorem numF_len (p : Nat → Bool) : ∀ q : Nat, (numF p q).length ≤ q
  | 0 => Nat.le_refl _
  | q + 1 => by
    rw [numF, List.length_append]
    have := numF_len p q
    split <;> simp <;> omega
theorem bit_dec {n q w : Nat} (hn : n ≤ 61) (hq : q < 2 ^ n) (hw : w ≤ 61) : decide (band (shr64 (q : Int) (w : Int)) 1 = 1) = tb (q : Int) w := by
  rw [Bool.eq_iff_iff, decide_eq_true_iff]
  exact has_tb hn ⟨by omega, by simpa using hq⟩ hw
theorem dsR_len (n : Int) (xs vs : List Int) (l : List (List (Int × Int))) : (dsR n xs vs l).length ≤ 256 := by
  unfold dsR
  split
  · rename_i h
    refine Nat.le_trans (numF_len _ _) ?_
    have hM : okMo n xs vs = true := by
      unfold dsC at h
      split at h
      · rename_i q; exact q.1
      · cases h
    have h8 := (okFr_rel (okMo_fr hM).1).2.1
    exact Nat.le_trans (Nat.pow_le_pow_right (by decide) (show n.toNat ≤ 8 by omega)) (by decide)
  · simp

theorem l01Dec_c (v : Int) (t : Bool) (hv : v = if t = true then 1 else 0) : CallA Try.prog 32 [AI v] (.str (bkey [t])) := by
  have hv2 : 0 ≤ v ∧ v ≤ 1 := by subst hv; split <;> omega
  refine CallA.of Try.func32 rfl (by kernel_rfl) ?_
  refine R.go 10 (R.cond (v < 10) (by kernel_rfl) (fun c1 => ?_) (fun c1 => ?_))
  · refine R.go 3 (R.ar (48 + v) (by kernel_rfl) (by omega) (by omega) (by kernel_rfl) ?_)
    refine R.go 2 (R.frz 0 (by kernel_rfl) ?_)
    refine R.strB [IntKind.u8.wrap (48 + v)] (by kernel_rfl) (by kernel_rfl) (by simp) (bkey [t]) (by subst hv; cases t <;> rfl) ?_
    exact R.go 2 (R.retE (.str (bkey [t])) (by kernel_rfl) (by kernel_rfl) (by rfl))
  · exfalso; omega -- no contract for f32 loop.example/g01089/spec.l01Dec (AI (v / 10))

set_option maxHeartbeats 2000000 in
theorem DS_spec (n : Int) (xs : List Int) (vs : List Int) (l : List (List (Int × Int))) (l1 : xs.length ≤ 1048576) (l2 : vs.length ≤ 1048576) (hl : l.length ≤ 1048576 ∧ ∀ i0 : Nat, i0 < l.length → (l.getD i0 []).length ≤ 1048576) : CallA Try.prog 7 [.agg [AI n, LI xs, LI vs], LLN l] (.tup [ownA eI 2 1 (dsR n xs vs l), AI (dsC n xs vs l)]) := by
  have hs : shortL l := ⟨by omega, fun i h => by have := hl.2 i h; omega⟩
  refine CallA.of Try.func7 rfl (by kernel_rfl) ?_
  refine R.go 10 (R.call true (l06Is_c n xs vs (by first | omega | (simp <;> omega)) (by first | omega | (simp <;> omega))) (by kernel_rfl) rfl (by kernel_rfl) ?_)
  refine R.go 2 (R.condM (okMo n xs vs) (by kernel_rfl) (fun c1 => ?_) (fun c1 => ?_))
  · obtain ⟨hc1, hc2⟩ := ds_1 (n := n) (xs := xs) (vs := vs) (l := l) (by simp [*])
    refine R.go 5 (R.nil 4 2 1 (by kernel_rfl) ?_)
    exact R.retE (.tup [ownA eI 2 1 [], AI 1]) (by kernel_rfl) (by kernel_rfl) (by first | (first | (rw [hc1, hc2]; done) | (rw [hc1, hc2, show q = 2 ^ n.toNat by omega])) | (exfalso; omega))
  · have hM : okMo n xs vs = true := by assumption
    have hr0 := okMo_fr hM
    have hr1 := okFr_rel hr0.1
    have hb : 0 ≤ n ∧ n ≤ 8 ∧ (xs.length : Int) = n := ⟨hr1.1, hr1.2.1, hr1.2.2.1⟩
    have hvin := okMo_in hM
    have hF := hr0.1
    have hv6 := hr0.2
    obtain ⟨N, hN⟩ : ∃ N : Nat, N = 2 ^ n.toNat := ⟨_, rfl⟩
    have hsh : shl64 1 n = (N : Int) := by rw [hN, ← shl_nat (by omega), Int.toNat_of_nonneg hb.1]
    have hN256 : N ≤ 256 := by rw [hN]; exact Nat.le_trans (Nat.pow_le_pow_right (by decide) (show n.toNat ≤ 8 by omega)) (by decide)
    refine R.go 6 (R.mk eK [] 9 16 ((n).toNat) n (by kernel_rfl) (by omega) (by decide) (by omega) (by kernel_rfl) ?_)
    refine R.go 8 (R.loop ((fun | (i, K) => (⟨(frm 107 [(1, LLN l), (2, .ptr 0 0), (6, .ref 1), (7, AI (i : Int))]), [.box 34 [AI n, LI xs, LI vs], rowA eK 9 1 K]⟩ : St) : Nat × (List (List Bool)) → St)) (fun | (i, K) => (i ≤ l.length) ∧ (∀ j : Nat, j < i → isF (l.getD j []) = true) ∧ (K = keyR (dsf n xs vs l) n.toNat i)) (fun | (i, K) => l.length - i) (0, (List.replicate ((n).toNat) [])) [1, 2, 6, 7] none (by kernel_rfl) (by kernel_rfl) (by kernel_rfl) ⟨(by omega), (by exact fun j hj => absurd hj (by omega)), (by exact keyR_0 _ _)⟩ ?_)
    rintro ⟨i, K⟩ ⟨h5_1, h5_2, rfl⟩ R2 N3
    have hkl := keyR_len (dsf n xs vs l) n.toNat i
    refine R.go 8 (R.cond ((i : Int) < (l.length : Int)) (by kernel_rfl) (fun c6 => ?_) (fun c6 => ?_))
    · have hlq := hl.2 i (by omega)
      refine R.go 8 (R.idx eLN l [] i (i : Int) (by kernel_rfl) rfl eLN_len (by omega) (by kernel_rfl) ?_)
      refine R.go 1 (R.call true (l02Is_c (l.getD i []) (by first | omega | (simp <;> omega))) (by kernel_rfl) rfl (by kernel_rfl) ?_)
      refine R.go 2 (R.condM (isF (l.getD i [])) (by kernel_rfl) (fun c7 => ?_) (fun c7 => ?_))
      · have hA : allF l = false := allF_noJ (j := i) (by omega) (by assumption)
        obtain ⟨hc1, hc2⟩ := ds_1 (n := n) (xs := xs) (vs := vs) (l := l) (by simp [*])
        refine R.go 5 (R.nil 4 2 1 (by kernel_rfl) ?_)
        exact R.retE (.tup [ownA eI 2 1 [], AI 1]) (by kernel_rfl) (by kernel_rfl) (by first | (first | (rw [hc1, hc2]; done) | (rw [hc1, hc2, show q = 2 ^ n.toNat by omega])) | (exfalso; omega))
      · refine R.go 2 ?_
        have hok0 : isF (l.getD i []) = true := by assumption
        have hokm := isF_okm hok0
        have hok : OKM vs.length (l.getD i []) := by rw [hv6]; exact hokm.1
        have hti : InM n.toNat (tset n xs vs (l.getD i [])) := tset_in hF hokm.1 hvin
        refine R.go 4 (R.idx eLN l [] i (i : Int) (by kernel_rfl) rfl eLN_len (by omega) (by kernel_rfl) ?_)
        refine R.go 1 (R.call true (l06TruthT_c n xs vs (l.getD i []) (by omega) hok (by first | omega | (simp <;> omega))) (by kernel_rfl) rfl (by kernel_rfl) ?_)
        refine R.go 7 (R.loop ((fun | (w, K2) => (⟨(frm 107 [(1, LLN l), (2, .ptr 0 0), (6, .ref 1), (7, AI (i : Int)), (8, AI (tset n xs vs (l.getD i []))), (9, AI (w : Int))]), [.box 34 [AI n, LI xs, LI vs], rowA eK 9 1 K2]⟩ : St) : Nat × (List (List Bool)) → St)) (fun | (w, K2) => (w ≤ n.toNat) ∧ (K2 = keyW (dsf n xs vs l) n.toNat i w)) (fun | (w, K2) => n.toNat - w) (0, (keyR (dsf n xs vs l) n.toNat i)) [1, 2, 6, 7, 8, 9] none (by kernel_rfl) (by kernel_rfl) (by kernel_rfl) ⟨(by omega), (by exact keyW_0 _ _ _)⟩ ?_)
        rintro ⟨w, K2⟩ ⟨h11_1, rfl⟩ R8 N9
        have hkwl := keyW_len (dsf n xs vs l) n.toNat i w
        refine R.go 8 (R.cond ((w : Int) < ((keyW (dsf n xs vs l) n.toNat i w).length : Int)) (by kernel_rfl) (fun c12 => ?_) (fun c12 => ?_))
        · refine R.go 3 ?_
          have hv : band (shr64 (tset n xs vs (l.getD i [])) (w : Int)) 1 = if tb (dsf n xs vs l i) w = true then 1 else 0 := dec_bit (by omega) hti (by omega)
          have hkw : ((keyW (dsf n xs vs l) n.toNat i w).getD w []).length ≤ i + 1 := by rw [keyW_get (by omega), ky_len]; split <;> omega
          refine R.go 5 (R.idxO 1 1 (keyW (dsf n xs vs l) n.toNat i w).length w (w : Int) (by kernel_rfl) rfl (by omega) (by kernel_rfl) ?_)
          refine R.ldE eK 1 0 (keyW (dsf n xs vs l) n.toNat i w) [] w (.str (bkey ((keyW (dsf n xs vs l) n.toNat i w).getD w []))) (by kernel_rfl) eK_len (by omega) rfl (by kernel_rfl) ?_
          refine R.go 2 (R.cv .u64 (w : Int) (by kernel_rfl) (u64_id (by omega) (by omega)) (by kernel_rfl) ?_)
          refine R.shr (tset n xs vs (l.getD i [])) (w : Int) (by kernel_rfl) (by omega) (by kernel_rfl) ?_
          refine R.go 1 (R.call true (l01Dec_c (band (shr64 (tset n xs vs (l.getD i [])) (w : Int)) 1) (tb (dsf n xs vs l i) w) (by assumption)) (by kernel_rfl) rfl (by kernel_rfl) ?_)
          refine R.str .cat (bkey ((keyW (dsf n xs vs l) n.toNat i w).getD w [])) (bkey [(tb (dsf n xs vs l i) w)]) (.str (bkey (((keyW (dsf n xs vs l) n.toNat i w).getD w []) ++ [(tb (dsf n xs vs l i) w)]))) (by kernel_rfl) (by kernel_rfl) (by rw [bkey_size, bkey_size]; first | omega | (simp only [List.length_cons, List.length_nil]; omega)) (congrArg AV.str (bkey_app _ _)) ?_
          refine R.idxO 1 1 (keyW (dsf n xs vs l) n.toNat i w).length w (w : Int) (by kernel_rfl) rfl (by omega) (by kernel_rfl) ?_
          refine R.st1 eK (fun l => AV.str (bkey l)) 1 9 (keyW (dsf n xs vs l) n.toNat i w) w (((keyW (dsf n xs vs l) n.toNat i w).getD w []) ++ [(tb (dsf n xs vs l i) w)]) (by kernel_rfl) (fun _ => rfl) (by omega) (by kernel_rfl) ?_
          refine R.go 4 (R.ar ((w : Int) + 1) (by kernel_rfl) (by omega) (by omega) (by kernel_rfl) ?_)
          exact R.go 2 (R.stop R8 (by kernel_rfl) (N9 (w + 1, (keyW (dsf n xs vs l) n.toNat i w).set w (((keyW (dsf n xs vs l) n.toNat i w).getD w []) ++ [(tb (dsf n xs vs l i) w)])) [1, 2, 6, 7, 8, 9] none _ (by kernel_rfl) (by kernel_rfl) ⟨(by omega), (by exact keyW_s (by omega))⟩ (by show (n.toNat - (w + 1)) < (n.toNat - w); omega)))
        · refine R.go 4 (R.ar ((i : Int) + 1) (by kernel_rfl) (by omega) (by omega) (by kernel_rfl) ?_)
          exact R.go 2 (R.stop R2 (by kernel_rfl) (N3 (i + 1, keyW (dsf n xs vs l) n.toNat i w) [1, 2, 6, 7] none _ (by kernel_rfl) (by kernel_rfl) ⟨(by omega), (by exact below1' (P := fun j => isF (l.getD j []) = true) (by assumption) (by assumption)), (by exact keyW_e _ _ _ (by omega))⟩ (by show (l.length - (i + 1)) < (l.length - i); omega)))
    · have hA : allF l = true := allF_mk fun j hj => (‹∀ j : Nat, j < i → isF (l.getD j []) = true›) j (by omega)
      obtain ⟨hc1, hc2⟩ := ds_0 hM hA
      refine R.go 3 ?_
      have hsub_i : i = l.length := (by omega)
      subst hsub_i
      refine R.go 9 (R.loop ((fun | (q, O) => (⟨(frm 107 [(2, .ptr 0 0), (6, .ref 1), (10, .ref 2), (11, AI (q : Int))]), [.box 34 [AI n, LI xs, LI vs], rowA eK 9 1 (keyR (dsf n xs vs l) n.toNat l.length), rowA eI 2 1 O]⟩ : St) : Nat × (List Int) → St)) (fun | (q, O) => (q ≤ N) ∧ (O = numF (fitB n.toNat (dsf n xs vs l) l.length) q)) (fun | (q, O) => N - q) (0, []) [2, 6, 10, 11] none (by kernel_rfl) (by kernel_rfl) (by kernel_rfl) ⟨(by omega), (by rfl)⟩ ?_)
      rintro ⟨q, O⟩ ⟨h16_1, rfl⟩ R13 N14
      have hol := numF_len (fitB n.toNat (dsf n xs vs l) l.length) q
      refine R.go 7 (R.call true (l01Full_c n (by omega) (by omega)) (by kernel_rfl) rfl (by kernel_rfl) ?_)
      refine R.go 2 (R.cond ((q : Int) ≤ ((shl64 1 n) - 1)) (by kernel_rfl) (fun c17 => ?_) (fun c17 => ?_))
      · refine R.go 13 (R.loop ((fun | (w, fb) => (⟨(frm 107 [(2, .ptr 0 0), (6, .ref 1), (10, .ref 2), (11, AI (q : Int)), (12, .bool fb), (13, AI (w : Int))]), [.box 34 [AI n, LI xs, LI vs], rowA eK 9 1 (keyR (dsf n xs vs l) n.toNat l.length), rowA eI 2 1 (numF (fitB n.toNat (dsf n xs vs l) l.length) q)]⟩ : St) : Nat × Bool → St)) (fun | (w, fb) => (w ≤ n.toNat) ∧ (fitW (dsf n xs vs l) l.length (q : Int) w = fb)) (fun | (w, fb) => n.toNat - w) (0, true) [2, 6, 10, 11, 12, 13] none (by kernel_rfl) (by kernel_rfl) (by kernel_rfl) ⟨(by omega), (by rfl)⟩ ?_)
        rintro ⟨w, fb⟩ ⟨h21_1, h21_2⟩ R18 N19
        refine R.go 8 (R.cond ((w : Int) < ((keyR (dsf n xs vs l) n.toNat l.length).length : Int)) (by kernel_rfl) (fun c22 => ?_) (fun c22 => ?_))
        · refine R.go 8 (R.loop ((fun | (v, fc) => (⟨(frm 107 [(2, .ptr 0 0), (6, .ref 1), (10, .ref 2), (11, AI (q : Int)), (12, .bool fc), (13, AI (w : Int)), (14, AI (v : Int))]), [.box 34 [AI n, LI xs, LI vs], rowA eK 9 1 (keyR (dsf n xs vs l) n.toNat l.length), rowA eI 2 1 (numF (fitB n.toNat (dsf n xs vs l) l.length) q)]⟩ : St) : Nat × Bool → St)) (fun | (v, fc) => (v ≤ w) ∧ ((fitW (dsf n xs vs l) l.length (q : Int) w && fitV (dsf n xs vs l) l.length (q : Int) w v) = fc)) (fun | (v, fc) => w - v) (0, fb) [2, 6, 10, 11, 12, 13, 14] none (by kernel_rfl) (by kernel_rfl) (by kernel_rfl) ⟨(by omega), (by (rw [fitV, Bool.and_true]; assumption))⟩ ?_)
          rintro ⟨v, fc⟩ ⟨h26_1, h26_2⟩ R23 N24
          refine R.go 7 (R.cond ((v : Int) < (w : Int)) (by kernel_rfl) (fun c27 => ?_) (fun c27 => ?_))
          · refine R.go 3 ?_
            have hkw := keyR_get (f := dsf n xs vs l) (n := n.toNat) (i := l.length) (w := w) (by omega)
            have hkv := keyR_get (f := dsf n xs vs l) (n := n.toNat) (i := l.length) (w := v) (by omega)
            have hkwl : ((keyR (dsf n xs vs l) n.toNat l.length).getD w []).length = l.length := by rw [hkw, ky_len]
            have hkvl : ((keyR (dsf n xs vs l) n.toNat l.length).getD v []).length = l.length := by rw [hkv, ky_len]
            have hbw := bit_dec (n := n.toNat) (q := q) (w := w) (by omega) (by omega) (by omega)
            have hbv := bit_dec (n := n.toNat) (q := q) (w := v) (by omega) (by omega) (by omega)
            refine R.go 3 ?_
            refine (Bool.eq_false_or_eq_true (fc)).elim (fun c28 => ?_) (fun c28 => ?_)
            · refine R.want (fc) true (by kernel_rfl) c28 ?_
              refine R.go 1 (R.want (fc) true (by kernel_rfl) c28 ?_)
              refine R.go 1 (R.want (fc) true (by kernel_rfl) c28 ?_)
              refine R.idxO 1 1 (keyR (dsf n xs vs l) n.toNat l.length).length w (w : Int) (by kernel_rfl) rfl (by omega) (by kernel_rfl) ?_
              refine R.want (fc) true (by kernel_rfl) c28 ?_
              refine R.ldE eK 1 0 (keyR (dsf n xs vs l) n.toNat l.length) [] w (.str (bkey ((keyR (dsf n xs vs l) n.toNat l.length).getD w []))) (by kernel_rfl) eK_len (by omega) rfl (by kernel_rfl) ?_
              refine R.want (fc) true (by kernel_rfl) c28 ?_
              refine R.go 1 (R.want (fc) true (by kernel_rfl) c28 ?_)
              refine R.go 1 (R.want (fc) true (by kernel_rfl) c28 ?_)
              refine R.idxO 1 1 (keyR (dsf n xs vs l) n.toNat l.length).length v (v : Int) (by kernel_rfl) rfl (by omega) (by kernel_rfl) ?_
              refine R.want (fc) true (by kernel_rfl) c28 ?_
              refine R.ldE eK 1 0 (keyR (dsf n xs vs l) n.toNat l.length) [] v (.str (bkey ((keyR (dsf n xs vs l) n.toNat l.length).getD v []))) (by kernel_rfl) eK_len (by omega) rfl (by kernel_rfl) ?_
              refine R.want (fc) true (by kernel_rfl) c28 ?_
              refine R.str .neq (bkey ((keyR (dsf n xs vs l) n.toNat l.length).getD w [])) (bkey ((keyR (dsf n xs vs l) n.toNat l.length).getD v [])) (.bool (!decide (((keyR (dsf n xs vs l) n.toNat l.length).getD w []) = ((keyR (dsf n xs vs l) n.toNat l.length).getD v [])))) (by kernel_rfl) (by kernel_rfl) (by rw [bkey_size, bkey_size]; first | omega | (simp only [List.length_cons, List.length_nil]; omega)) (by simp only [strV, bkey_eq]) ?_
              refine R.want (fc) true (by kernel_rfl) c28 ?_
              refine R.go 1 ?_
              by_cases c29 : ((keyR (dsf n xs vs l) n.toNat l.length).getD w []) = ((keyR (dsf n xs vs l) n.toNat l.length).getD v [])
              · refine R.want (!decide (((keyR (dsf n xs vs l) n.toNat l.length).getD w []) = ((keyR (dsf n xs vs l) n.toNat l.length).getD v []))) false (by kernel_rfl) (nF c29) ?_
                refine R.go 1 (R.want (!decide (((keyR (dsf n xs vs l) n.toNat l.length).getD w []) = ((keyR (dsf n xs vs l) n.toNat l.length).getD v []))) false (by kernel_rfl) (nF c29) ?_)
                refine R.go 1 (R.want (!decide (((keyR (dsf n xs vs l) n.toNat l.length).getD w []) = ((keyR (dsf n xs vs l) n.toNat l.length).getD v []))) false (by kernel_rfl) (nF c29) ?_)
                refine R.call true (l01Bit_c (q : Int) (w : Int) (by omega) (by omega)) (by kernel_rfl) rfl (by kernel_rfl) ?_
                refine R.want (!decide (((keyR (dsf n xs vs l) n.toNat l.length).getD w []) = ((keyR (dsf n xs vs l) n.toNat l.length).getD v []))) false (by kernel_rfl) (nF c29) ?_
                refine R.go 1 (R.want (!decide (((keyR (dsf n xs vs l) n.toNat l.length).getD w []) = ((keyR (dsf n xs vs l) n.toNat l.length).getD v []))) false (by kernel_rfl) (nF c29) ?_)
                refine R.go 1 (R.want (!decide (((keyR (dsf n xs vs l) n.toNat l.length).getD w []) = ((keyR (dsf n xs vs l) n.toNat l.length).getD v []))) false (by kernel_rfl) (nF c29) ?_)
                refine R.call true (l01Bit_c (q : Int) (v : Int) (by omega) (by omega)) (by kernel_rfl) rfl (by kernel_rfl) ?_
                refine R.want (!decide (((keyR (dsf n xs vs l) n.toNat l.length).getD w []) = ((keyR (dsf n xs vs l) n.toNat l.length).getD v []))) false (by kernel_rfl) (nF c29) ?_
                refine R.go 1 (R.want (fc) true (by kernel_rfl) c28 ?_)
                refine R.pick (!decide (((keyR (dsf n xs vs l) n.toNat l.length).getD w []) = ((keyR (dsf n xs vs l) n.toNat l.length).getD v []))) false (by kernel_rfl) (nF c29) (by kernel_rfl) ?_
                refine R.pick (fc) true (by kernel_rfl) c28 (by kernel_rfl) ?_
                refine R.go 5 (R.ar ((v : Int) + 1) (by kernel_rfl) (by omega) (by omega) (by kernel_rfl) ?_)
                exact R.go 2 (R.stop R23 (by kernel_rfl) (N24 (v + 1, (decide (band (shr64 (q : Int) (w : Int)) 1 = 1)) == (decide (band (shr64 (q : Int) (v : Int)) 1 = 1))) [2, 6, 10, 11, 12, 13, 14] none _ (by kernel_rfl) (by kernel_rfl) ⟨(by omega), (by (refine fit_step (by assumption) ?_; first | exact fs_1 (by assumption) (by rw [← hkw, ← hkv]; assumption) hbw hbv | exact fs_2 (by assumption) (by rw [← hkw, ← hkv]; assumption) | exact fs_3 (by assumption)))⟩ (by show (w - (v + 1)) < (w - v); omega)))
              · refine R.skp (!decide (((keyR (dsf n xs vs l) n.toNat l.length).getD w []) = ((keyR (dsf n xs vs l) n.toNat l.length).getD v []))) false (by kernel_rfl) (nT c29) (by kernel_rfl) ?_
                refine R.skp (!decide (((keyR (dsf n xs vs l) n.toNat l.length).getD w []) = ((keyR (dsf n xs vs l) n.toNat l.length).getD v []))) false (by kernel_rfl) (nT c29) (by kernel_rfl) ?_
                refine R.skp (!decide (((keyR (dsf n xs vs l) n.toNat l.length).getD w []) = ((keyR (dsf n xs vs l) n.toNat l.length).getD v []))) false (by kernel_rfl) (nT c29) (by kernel_rfl) ?_
                refine R.skp (!decide (((keyR (dsf n xs vs l) n.toNat l.length).getD w []) = ((keyR (dsf n xs vs l) n.toNat l.length).getD v []))) false (by kernel_rfl) (nT c29) (by kernel_rfl) ?_
                refine R.skp (!decide (((keyR (dsf n xs vs l) n.toNat l.length).getD w []) = ((keyR (dsf n xs vs l) n.toNat l.length).getD v []))) false (by kernel_rfl) (nT c29) (by kernel_rfl) ?_
                refine R.skp (!decide (((keyR (dsf n xs vs l) n.toNat l.length).getD w []) = ((keyR (dsf n xs vs l) n.toNat l.length).getD v []))) false (by kernel_rfl) (nT c29) (by kernel_rfl) ?_
                refine R.skp (!decide (((keyR (dsf n xs vs l) n.toNat l.length).getD w []) = ((keyR (dsf n xs vs l) n.toNat l.length).getD v []))) false (by kernel_rfl) (nT c29) (by kernel_rfl) ?_
                refine R.want (fc) true (by kernel_rfl) c28 ?_
                refine R.pick (!decide (((keyR (dsf n xs vs l) n.toNat l.length).getD w []) = ((keyR (dsf n xs vs l) n.toNat l.length).getD v []))) true (by kernel_rfl) (nT c29) (by kernel_rfl) ?_
                refine R.pick (fc) true (by kernel_rfl) c28 (by kernel_rfl) ?_
                refine R.go 5 (R.ar ((v : Int) + 1) (by kernel_rfl) (by omega) (by omega) (by kernel_rfl) ?_)
                exact R.go 2 (R.stop R23 (by kernel_rfl) (N24 (v + 1, true) [2, 6, 10, 11, 12, 13, 14] none _ (by kernel_rfl) (by kernel_rfl) ⟨(by omega), (by (refine fit_step (by assumption) ?_; first | exact fs_1 (by assumption) (by rw [← hkw, ← hkv]; assumption) hbw hbv | exact fs_2 (by assumption) (by rw [← hkw, ← hkv]; assumption) | exact fs_3 (by assumption)))⟩ (by show (w - (v + 1)) < (w - v); omega)))
            · refine R.skp (fc) true (by kernel_rfl) c28 (by kernel_rfl) ?_
              refine R.skp (fc) true (by kernel_rfl) c28 (by kernel_rfl) ?_
              refine R.skp (fc) true (by kernel_rfl) c28 (by kernel_rfl) ?_
              refine R.skp (fc) true (by kernel_rfl) c28 (by kernel_rfl) ?_
              refine R.skp (fc) true (by kernel_rfl) c28 (by kernel_rfl) ?_
              refine R.skp (fc) true (by kernel_rfl) c28 (by kernel_rfl) ?_
              refine R.skp (fc) true (by kernel_rfl) c28 (by kernel_rfl) ?_
              refine R.skp (fc) true (by kernel_rfl) c28 (by kernel_rfl) ?_
              refine R.skp (fc) true (by kernel_rfl) c28 (by kernel_rfl) ?_
              refine R.skp (fc) true (by kernel_rfl) c28 (by kernel_rfl) ?_
              refine R.go 7 (R.skp (fc) true (by kernel_rfl) c28 (by kernel_rfl) ?_)
              refine R.pick (fc) false (by kernel_rfl) c28 (by kernel_rfl) ?_
              refine R.go 5 (R.ar ((v : Int) + 1) (by kernel_rfl) (by omega) (by omega) (by kernel_rfl) ?_)
              exact R.go 2 (R.stop R23 (by kernel_rfl) (N24 (v + 1, false) [2, 6, 10, 11, 12, 13, 14] none _ (by kernel_rfl) (by kernel_rfl) ⟨(by omega), (by (refine fit_step (by assumption) ?_; first | exact fs_1 (by assumption) (by rw [← hkw, ← hkv]; assumption) hbw hbv | exact fs_2 (by assumption) (by rw [← hkw, ← hkv]; assumption) | exact fs_3 (by assumption)))⟩ (by show (w - (v + 1)) < (w - v); omega)))
          · refine R.go 4 (R.ar ((w : Int) + 1) (by kernel_rfl) (by omega) (by omega) (by kernel_rfl) ?_)
            exact R.go 2 (R.stop R18 (by kernel_rfl) (N19 (w + 1, fc) [2, 6, 10, 11, 12, 13] none _ (by kernel_rfl) (by kernel_rfl) ⟨(by omega), (by (obtain rfl : v = w := (by omega); rw [fitW]; assumption))⟩ (by show (n.toNat - (w + 1)) < (n.toNat - w); omega)))
        · have hfb : fitB n.toNat (dsf n xs vs l) l.length q = fb := by rw [← fitW_all, ← show w = n.toNat by omega]; assumption
          refine R.go 5 (R.condB (fb) (by kernel_rfl) (fun c30 => ?_) (fun c30 => ?_))
          · refine R.go 4 (R.app eI (numF (fitB n.toNat (dsf n xs vs l) l.length) q) [(q : Int)] 2 2 1 8 (by kernel_rfl) eI_one (by decide) (by first | omega | (simp <;> omega)) (by kernel_rfl) ?_)
            refine R.go 5 (R.ar ((q : Int) + 1) (by kernel_rfl) (by omega) (by omega) (by kernel_rfl) ?_)
            exact R.go 2 (R.stop R13 (by kernel_rfl) (N14 (q + 1, (numF (fitB n.toNat (dsf n xs vs l) l.length) q) ++ [(q : Int)]) [2, 6, 10, 11] (some [0, 1, 2]) _ (by kernel_rfl) (by kernel_rfl) ⟨(by omega), (by first | exact numF_y (by rw [hfb]; assumption) | exact numF_n (by rw [hfb]; assumption))⟩ (by show (N - (q + 1)) < (N - q); omega)))
          · refine R.go 4 (R.ar ((q : Int) + 1) (by kernel_rfl) (by omega) (by omega) (by kernel_rfl) ?_)
            exact R.go 2 (R.stop R13 (by kernel_rfl) (N14 (q + 1, numF (fitB n.toNat (dsf n xs vs l) l.length) q) [2, 6, 10, 11] none _ (by kernel_rfl) (by kernel_rfl) ⟨(by omega), (by first | exact numF_y (by rw [hfb]; assumption) | exact numF_n (by rw [hfb]; assumption))⟩ (by show (N - (q + 1)) < (N - q); omega)))
      · exact R.go 7 (R.retE (.tup [ownA eI 2 1 (numF (fitB n.toNat (dsf n xs vs l) l.length) q), AI 0]) (by kernel_rfl) (by kernel_rfl) (by first | (first | (rw [hc1, hc2]; done) | (rw [hc1, hc2, show q = 2 ^ n.toNat by omega])) | (exfalso; omega)))

end Go.Proofs.Ytpalghbfhgimkaa


/-! The harness: rows of formulas. -/
namespace Go.Proofs.Ytpalghbfhgimkaa
open Go.RowKit Go.Abs

def sumL : List (List (Int × Int)) → Nat
  | [] => 0
  | a :: l => a.length + sumL l
theorem sumL_app (l m : List (List (Int × Int))) : sumL (l ++ m) = sumL l + sumL m := by
  induction l with
  | nil => simp [sumL]
  | cons a l ih => simp [sumL, ih]; omega
theorem sumL_take (l : List (List (Int × Int))) (i : Nat) (h : i < l.length) : sumL (l.take (i + 1)) = sumL (l.take i) + (l.getD i []).length := by
  rw [List.take_succ_eq_append_getElem h, sumL_app, List.getD_eq_getElem?_getD, List.getElem?_eq_getElem h]
  simp [sumL]
theorem sumL_split (l : List (List (Int × Int))) (i : Nat) : sumL l = sumL (l.take i) + sumL (l.drop i) := by
  rw [← sumL_app, List.take_append_drop]
theorem sumL_mono (l : List (List (Int × Int))) (i : Nat) : sumL (l.take i) ≤ sumL l := by
  have := sumL_split l i; omega
theorem sumL_all (l : List (List (Int × Int))) (i : Nat) (h : l.length ≤ i) : sumL (l.take i) = sumL l := by rw [List.take_of_length_le h]
theorem sumL_get (l : List (List (Int × Int))) (j : Nat) (h : j < l.length) : (l.getD j []).length ≤ sumL l := by
  have := sumL_take l j h; have := sumL_mono l (j + 1); omega

def szz (k : Int) (n : Nat) : Int := if (n : Int) ≤ k then k - n else -1
theorem szNodeS_g (a : List (Int × Int)) (k : Int) (hk : (0 : Int) ≤ k ∧ k ≤ 1048576) (hl : a.length ≤ 9223372036854775807) : CallA Try.prog 28 [LN a, AI k] (AI (szz k a.length)) := by
  unfold szz
  by_cases h : (a.length : Int) ≤ k
  · rw [if_pos h]; exact szNodeS_c a k hk.2 h
  · rw [if_neg h]; exact szNodeS_no a k hk (by omega) hl
theorem szz_pos {k : Int} {n : Nat} (h : ¬ szz k n < 0) : (n : Int) ≤ k ∧ szz k n = k - n := by
  unfold szz at h ⊢
  split at h
  · rename_i h1; exact ⟨h1, by rw [if_pos h1]⟩
  · omega

theorem szNodeSS_c (l : List (List (Int × Int))) (k : Int) (hk : (k : Int) ≤ 1048576) (hx : (l.length : Int) + sumL l ≤ k) : CallA Try.prog 6 [LLN l, AI k] (AI ((k : Int) - l.length - sumL l)) := by
  refine CallA.of Try.func6 rfl (by kernel_rfl) ?_
  refine R.go 9 (R.ar (k - (l.length : Int)) (by kernel_rfl) (by omega) (by omega) (by kernel_rfl) ?_)
  refine R.go 8 (R.cond ((k - (l.length : Int)) < 0) (by kernel_rfl) (fun c1 => ?_) (fun c1 => ?_))
  · exact R.go 4 (R.retE (AI (-1)) (by kernel_rfl) (by kernel_rfl) (by first | (first | (rw [‹q = _›, sumL_all l i (by omega)]) | (exfalso; have h2 := sumL_take l i (by omega); have h3 := sumL_mono l (i + 1); have h4 : szz q (l.getD i []).length = q - (l.getD i []).length := (by unfold szz; rw [if_pos (by omega)]); omega)) | (exfalso; omega)))
  · refine R.go 7 (R.loop ((fun | (i, q) => (⟨(frm 27 [(0, LLN l), (1, AI q), (5, AI (i : Int))]), []⟩ : St) : Nat × Int → St)) (fun | (i, q) => (i ≤ l.length) ∧ (0 ≤ q ∧ q ≤ 1048576) ∧ (q = (k : Int) - l.length - sumL (l.take i))) (fun | (i, q) => l.length - i) (0, (k - (l.length : Int))) [0, 1, 5] none (by kernel_rfl) (by kernel_rfl) (by kernel_rfl) ⟨(by omega), (by simp [sumL]; omega), (by simp [sumL])⟩ ?_)
    rintro ⟨i, q⟩ ⟨h5_1, h5_2, h5_3⟩ R2 N3
    refine R.go 8 (R.cond ((i : Int) < (l.length : Int)) (by kernel_rfl) (fun c6 => ?_) (fun c6 => ?_))
    · have hgl := sumL_get l i (by omega)
      refine R.go 7 (R.idx eLN l [] i (i : Int) (by kernel_rfl) rfl eLN_len (by omega) (by kernel_rfl) ?_)
      refine R.go 2 (R.call true (szNodeS_g (l.getD i []) q (by omega) (by first | assumption | omega)) (by kernel_rfl) rfl (by kernel_rfl) ?_)
      refine R.go 7 (R.cond ((szz q (l.getD i []).length) < 0) (by kernel_rfl) (fun c7 => ?_) (fun c7 => ?_))
      · exact R.go 4 (R.retE (AI (-1)) (by kernel_rfl) (by kernel_rfl) (by first | (first | (rw [‹q = _›, sumL_all l i (by omega)]) | (exfalso; have h2 := sumL_take l i (by omega); have h3 := sumL_mono l (i + 1); have h4 : szz q (l.getD i []).length = q - (l.getD i []).length := (by unfold szz; rw [if_pos (by omega)]); omega)) | (exfalso; omega)))
      · refine R.go 4 (R.ar ((i : Int) + 1) (by kernel_rfl) (by omega) (by omega) (by kernel_rfl) ?_)
        exact R.go 2 (R.stop R2 (by kernel_rfl) (N3 (i + 1, szz q (l.getD i []).length) [0, 1, 5] none _ (by kernel_rfl) (by kernel_rfl) ⟨(by omega), (by (have h1 := szz_pos (by assumption : ¬ szz q (l.getD i []).length < 0); have h2 := sumL_take l i (by omega); omega)), (by (have h1 := szz_pos (by assumption : ¬ szz q (l.getD i []).length < 0); have h2 := sumL_take l i (by omega); omega))⟩ (by show (l.length - (i + 1)) < (l.length - i); omega)))
    · exact R.go 6 (R.retE (AI q) (by kernel_rfl) (by kernel_rfl) (by first | (first | (rw [‹q = _›, sumL_all l i (by omega)]) | (exfalso; have h2 := sumL_take l i (by omega); have h3 := sumL_mono l (i + 1); have h4 : szz q (l.getD i []).length = q - (l.getD i []).length := (by unfold szz; rw [if_pos (by omega)]); omega)) | (exfalso; omega)))

theorem szNodeSS_no (l : List (List (Int × Int))) (k : Int) (hk : (0 : Int) ≤ k ∧ (k : Int) ≤ 1048576) (hx : (k : Int) < (l.length : Int) + sumL l) (hl : l.length ≤ 9223372036854775807) (hl2 : ∀ j : Nat, j < l.length → (l.getD j []).length ≤ 9223372036854775807) : CallA Try.prog 6 [LLN l, AI k] (AI (-1)) := by
  refine CallA.of Try.func6 rfl (by kernel_rfl) ?_
  refine R.go 9 (R.ar (k - (l.length : Int)) (by kernel_rfl) (by omega) (by omega) (by kernel_rfl) ?_)
  refine R.go 8 (R.cond ((k - (l.length : Int)) < 0) (by kernel_rfl) (fun c1 => ?_) (fun c1 => ?_))
  · exact R.go 4 (R.retE (AI (-1)) (by kernel_rfl) (by kernel_rfl) (by rfl))
  · refine R.go 7 (R.loop ((fun | (i, q) => (⟨(frm 27 [(0, LLN l), (1, AI q), (5, AI (i : Int))]), []⟩ : St) : Nat × Int → St)) (fun | (i, q) => (i ≤ l.length) ∧ (0 ≤ q ∧ q ≤ 1048576) ∧ (q = (k : Int) - l.length - sumL (l.take i))) (fun | (i, q) => l.length - i) (0, (k - (l.length : Int))) [0, 1, 5] none (by kernel_rfl) (by kernel_rfl) (by kernel_rfl) ⟨(by omega), (by simp [sumL]; omega), (by simp [sumL])⟩ ?_)
    rintro ⟨i, q⟩ ⟨h5_1, h5_2, h5_3⟩ R2 N3
    refine R.go 8 (R.cond ((i : Int) < (l.length : Int)) (by kernel_rfl) (fun c6 => ?_) (fun c6 => ?_))
    · have hgl := hl2 i (by omega)
      refine R.go 7 (R.idx eLN l [] i (i : Int) (by kernel_rfl) rfl eLN_len (by omega) (by kernel_rfl) ?_)
      refine R.go 2 (R.call true (szNodeS_g (l.getD i []) q (by omega) (by first | assumption | omega)) (by kernel_rfl) rfl (by kernel_rfl) ?_)
      refine R.go 7 (R.cond ((szz q (l.getD i []).length) < 0) (by kernel_rfl) (fun c7 => ?_) (fun c7 => ?_))
      · exact R.go 4 (R.retE (AI (-1)) (by kernel_rfl) (by kernel_rfl) (by rfl))
      · refine R.go 4 (R.ar ((i : Int) + 1) (by kernel_rfl) (by omega) (by omega) (by kernel_rfl) ?_)
        exact R.go 2 (R.stop R2 (by kernel_rfl) (N3 (i + 1, szz q (l.getD i []).length) [0, 1, 5] none _ (by kernel_rfl) (by kernel_rfl) ⟨(by omega), (by (have h1 := szz_pos (by assumption : ¬ szz q (l.getD i []).length < 0); have h2 := sumL_take l i (by omega); omega)), (by (have h1 := szz_pos (by assumption : ¬ szz q (l.getD i []).length < 0); have h2 := sumL_take l i (by omega); omega))⟩ (by show (l.length - (i + 1)) < (l.length - i); omega)))
    · exact R.go 6 (R.retE (AI q) (by kernel_rfl) (by kernel_rfl) (by first | (first | rfl | (exfalso; have h1 := sumL_all l i (by omega); omega)) | (exfalso; omega)))

theorem eqNodeSS_c (a : List (List (Int × Int))) (b : List (List (Int × Int))) (la : a.length ≤ 1000000000) (lb : ∀ j : Nat, j < a.length → (a.getD j []).length ≤ 1000000000) : CallA Try.prog 13 [LLN a, LLN b] (.bool (decide (a = b))) := by
  refine CallA.of Try.func13 rfl (by kernel_rfl) ?_
  refine R.go 13 (R.condN ((a.length : Int) = (b.length : Int)) (by kernel_rfl) (fun c1 => ?_) (fun c1 => ?_))
  · exact R.go 4 (R.retE (.bool false) (by kernel_rfl) (by kernel_rfl) (by first | (first | (rw [dF (fun h => by subst h; omega)]) | (rw [dT (take_all (i := i) (by omega) (by omega) (by assumption))]) | (rw [dF (fun h => by subst h; exact absurd rfl (by assumption))])) | (exfalso; omega)))
  · refine R.go 7 (R.loop (fun (i : Nat) => (⟨(frm 27 [(0, LLN a), (1, LLN b), (5, AI (i : Int))]), []⟩ : St)) (fun (i : Nat) => (i ≤ a.length) ∧ (a.take i = b.take i)) (fun (i : Nat) => a.length - i) 0 [0, 1, 5] none (by kernel_rfl) (by kernel_rfl) (by kernel_rfl) ⟨(by omega), (by rfl)⟩ ?_)
    rintro i ⟨h4_1, h4_2⟩ R2 N3
    refine R.go 8 (R.cond ((i : Int) < (a.length : Int)) (by kernel_rfl) (fun c5 => ?_) (fun c5 => ?_))
    · have hgl := lb i (by omega)
      refine R.go 7 (R.idx eLN a [] i (i : Int) (by kernel_rfl) rfl eLN_len (by omega) (by kernel_rfl) ?_)
      refine R.go 3 (R.idx eLN b [] i (i : Int) (by kernel_rfl) rfl eLN_len (by omega) (by kernel_rfl) ?_)
      refine R.go 1 (R.call true (eqNodeS_c (a.getD i []) (b.getD i []) (by first | omega | (simp <;> omega))) (by kernel_rfl) rfl (by kernel_rfl) ?_)
      refine R.go 2 (R.condN ((a.getD i []) = (b.getD i [])) (by kernel_rfl) (fun c6 => ?_) (fun c6 => ?_))
      · exact R.go 4 (R.retE (.bool false) (by kernel_rfl) (by kernel_rfl) (by first | (first | (rw [dF (fun h => by subst h; omega)]) | (rw [dT (take_all (i := i) (by omega) (by omega) (by assumption))]) | (rw [dF (fun h => by subst h; exact absurd rfl (by assumption))])) | (exfalso; omega)))
      · refine R.go 4 (R.ar ((i : Int) + 1) (by kernel_rfl) (by omega) (by omega) (by kernel_rfl) ?_)
        exact R.go 2 (R.stop R2 (by kernel_rfl) (N3 (i + 1) [0, 1, 5] none _ (by kernel_rfl) (by kernel_rfl) ⟨(by omega), (by exact take_step a b [] i (by omega) (by omega) (by assumption) (by assumption))⟩ (by show (a.length - (i + 1)) < (a.length - i); omega)))
    · exact R.go 5 (R.retE (.bool true) (by kernel_rfl) (by kernel_rfl) (by first | (first | (rw [dF (fun h => by subst h; omega)]) | (rw [dT (take_all (i := i) (by omega) (by omega) (by assumption))]) | (rw [dF (fun h => by subst h; exact absurd rfl (by assumption))])) | (exfalso; omega)))

end Go.Proofs.Ytpalghbfhgimkaa


/-! The harness: rows marked and held. -/
namespace Go.Proofs.Ytpalghbfhgimkaa
open Go.RowKit Go.Abs

/-- k, k + 1, .. as marks. -/
def marks : Nat → Int → List (Int × Int)
  | 0, _ => []
  | n + 1, k => (k, k + 1) :: marks n (k + 2)
theorem marks_length (n : Nat) (k : Int) : (marks n k).length = n := by
  induction n generalizing k with
  | zero => rfl
  | succ n ih => simp [marks, ih]
theorem marks_snoc (n : Nat) (k : Int) : marks (n + 1) k = marks n k ++ [(k + 2 * n, k + 2 * n + 1)] := by
  induction n generalizing k with
  | zero => simp [marks]
  | succ n ih =>
    rw [marks, ih (k + 2), marks]
    simp only [List.cons_append]
    congr 3
    ext <;> simp <;> omega
/-- The first i of xs marked. -/
def markTo (xs : List (Int × Int)) (k : Int) (i : Nat) : List (Int × Int) := marks i k ++ xs.drop i
theorem markTo_length (xs : List (Int × Int)) (k : Int) (i : Nat) (h : i ≤ xs.length) : (markTo xs k i).length = xs.length := by
  simp [markTo, marks_length]; omega
theorem markTo_set (xs : List (Int × Int)) (k : Int) (i : Nat) (h : i < xs.length) (y : Int × Int) (v : Int × Int) (hv : v = (k + 2 * i, k + 2 * i + 1)) : ((markTo xs k i).set i y).set i v = markTo xs k (i + 1) := by
  subst hv
  rw [List.set_set, markTo, List.set_append_right _ _ (by rw [marks_length]; omega), marks_length, Nat.sub_self, List.drop_eq_getElem_cons h, List.set_cons_zero, markTo, marks_snoc]
  simp
theorem markTo_all (xs : List (Int × Int)) (k : Int) (n : Nat) (h : xs.length = n) : markTo xs k n = marks n k := by
  subst h
  simp [markTo]
theorem markTo_zero (xs : List (Int × Int)) (k : Int) : xs = markTo xs k 0 := by simp [markTo, marks]

/-- k, k + 1, .. as a row of numbers; the first i of a row so marked. -/
def markC (n : Nat) (k : Int) : List Int := (List.range n).map fun j : Nat => k + (j : Int)
theorem markC_length (n : Nat) (k : Int) : (markC n k).length = n := by simp [markC]
def markI (xs : List Int) (k : Int) (i : Nat) : List Int := markC i k ++ xs.drop i
theorem markI_length (xs : List Int) (k : Int) (i : Nat) (h : i ≤ xs.length) : (markI xs k i).length = xs.length := by simp [markI, markC_length]; omega
theorem markI_set (xs : List Int) (k : Int) (i : Nat) (h : i < xs.length) (v : Int) (hv : v = k + i) : (markI xs k i).set i v = markI xs k (i + 1) := by
  subst hv
  rw [markI, List.set_append_right _ _ (by rw [markC_length]; omega), markC_length, Nat.sub_self, List.drop_eq_getElem_cons h, List.set_cons_zero, markI, markC, markC, List.range_succ, List.map_append]
  simp
theorem markI_all (xs : List Int) (k : Int) (n : Nat) (h : xs.length = n) : markI xs k n = markC n k := by
  subst h
  simp [markI]
theorem markI_zero (xs : List Int) (k : Int) : xs = markI xs k 0 := by simp [markI, markC]
theorem markC_get (n : Nat) (k : Int) (i : Nat) (h : i < n) : (markC n k).getD i 0 = k + i := by
  simp [markC, List.getD_eq_getElem?_getD, List.getElem?_range h]
theorem markC_ne (xs : List Int) (k : Int) (i : Nat) (hi : i < xs.length) (hx : xs = markC xs.length k) : xs.getD i 0 = k + i := by
  have := markC_get xs.length k i hi
  rw [← hx] at this
  exact this

theorem heldInt64S_c (xs : List Int) (k : Int) (lx : xs.length ≤ 1000000000) (hk : 0 ≤ k ∧ k ≤ 1000000) (hx : xs = markC xs.length k) : CallA Try.prog 17 [LI xs, AI k] (AI (k + (xs.length : Int))) := by
  refine CallA.of Try.func17 rfl (by kernel_rfl) ?_
  refine R.go 10 (R.loop ((fun | (i, q) => (⟨(frm 21 [(0, LI xs), (1, AI q), (5, AI (i : Int))]), []⟩ : St) : Nat × Int → St)) (fun | (i, q) => (i ≤ xs.length) ∧ (q = k + (i : Int))) (fun | (i, q) => xs.length - i) (0, k) [0, 1, 5] none (by kernel_rfl) (by kernel_rfl) (by kernel_rfl) ⟨(by omega), (by simp)⟩ ?_)
  rintro ⟨i, q⟩ ⟨h4_1, rfl⟩ R1 N2
  refine R.go 8 (R.cond ((i : Int) < (xs.length : Int)) (by kernel_rfl) (fun c5 => ?_) (fun c5 => ?_))
  · have he : xs.getD i 0 = k + (i : Int) := markC_ne xs k i (by omega) hx
    refine R.go 8 (R.idx eI xs 0 i (i : Int) (by kernel_rfl) rfl eI_len (by omega) (by kernel_rfl) ?_)
    refine R.go 4 (R.condN ((xs.getD i 0) = (k + (i : Int))) (by kernel_rfl) (fun c6 => ?_) (fun c6 => ?_))
    · exact R.go 4 (R.retE (AI (-1)) (by kernel_rfl) (by kernel_rfl) (by first | (rw [show i = xs.length by omega]) | (exfalso; omega)))
    · refine R.go 3 (R.ar ((k + (i : Int)) + 1) (by kernel_rfl) (by omega) (by omega) (by kernel_rfl) ?_)
      refine R.go 5 (R.ar ((i : Int) + 1) (by kernel_rfl) (by omega) (by omega) (by kernel_rfl) ?_)
      exact R.go 2 (R.stop R1 (by kernel_rfl) (N2 (i + 1, (k + (i : Int)) + 1) [0, 1, 5] none _ (by kernel_rfl) (by kernel_rfl) ⟨(by omega), (by omega)⟩ (by show (xs.length - (i + 1)) < (xs.length - i); omega)))
  · exact R.go 6 (R.retE (AI (k + (i : Int))) (by kernel_rfl) (by kernel_rfl) (by first | (rw [show i = xs.length by omega]) | (exfalso; omega)))

end Go.Proofs.Ytpalghbfhgimkaa


/-! The harness: rows of rows marked and held. -/
namespace Go.Proofs.Ytpalghbfhgimkaa
open Go.RowKit Go.Abs

theorem lenV {α : Type} {L : List (Value × List α)} {R : List (List α)} (h : L.map Prod.snd = R) : L.length = R.length := by rw [← h, List.length_map]
theorem getV {α : Type} {L : List (Value × List α)} (i : Nat) (hi : i < L.length) : (L.getD i (.bool false, [])).2 = (L.map Prod.snd).getD i [] := by
  simp [List.getD_eq_getElem?_getD, List.getElem?_eq_getElem hi]
/-- The cells of the first rows, all told. -/
def lenG {α : Type} (l : List (List α)) : Nat → Nat
  | 0 => 0
  | i + 1 => lenG l i + (l.getD i []).length
theorem lenG_mono {α : Type} (l : List (List α)) {i j : Nat} (h : i ≤ j) : lenG l i ≤ lenG l j := by
  induction j with
  | zero => rw [Nat.le_zero.1 h]; exact Nat.le_refl _
  | succ j ih =>
    rcases Nat.lt_or_ge i (j + 1) with h1 | h1
    · exact Nat.le_trans (ih (by omega)) (Nat.le_add_right _ _)
    · rw [show i = j + 1 by omega]; exact Nat.le_refl _
theorem lenG_step {α : Type} (l : List (List α)) (i : Nat) (h : i < l.length) : lenG l i + (l.getD i []).length ≤ lenG l l.length := lenG_mono l (i := i + 1) h
theorem lenG_eq {α : Type} {l m : List (List α)} (h : ∀ j, (l.getD j []).length = (m.getD j []).length) : ∀ i, lenG l i = lenG m i
  | 0 => rfl
  | i + 1 => by rw [lenG, lenG, lenG_eq h i, h i]
/-- The first i rows of l marked from k on, c numbers a cell; mk tells a row's marks. -/
def MkG {α : Type} (mk : Nat → Int → List α) (c k : Int) (l : List (List α)) (LM : List (Value × List α)) (i : Nat) : Prop :=
  LM.length = l.length ∧ ∀ j, j < l.length → (LM.getD j (.bool false, [])).2 = if j < i then mk (l.getD j []).length (k + c * (lenG l j : Int)) else l.getD j []
theorem MkG.zero {α : Type} {mk : Nat → Int → List α} {c k : Int} {l : List (List α)} {L : List (Value × List α)} (h : L.map Prod.snd = l) : MkG mk c k l L 0 := by
  have hl := lenV h
  refine ⟨hl, fun j hj => ?_⟩
  rw [if_neg (by omega), getV j (by omega), h]
theorem MkG.now {α : Type} {mk : Nat → Int → List α} {c k : Int} {l : List (List α)} {LM : List (Value × List α)} {i : Nat} (h : MkG mk c k l LM i) (hi : i < l.length) : (LM.getD i (.bool false, [])).2 = l.getD i [] := by
  rw [h.2 i hi, if_neg (by omega)]
theorem MkG.set {α : Type} {mk : Nat → Int → List α} {c k : Int} {l : List (List α)} {LM : List (Value × List α)} {i : Nat} {v : Value} {ys : List α} (h : MkG mk c k l LM i) (hi : i < l.length) (hy : ys = mk (l.getD i []).length (k + c * (lenG l i : Int))) : MkG mk c k l (LM.set i (v, ys)) (i + 1) := by
  refine ⟨by rw [List.length_set]; exact h.1, fun j hj => ?_⟩
  by_cases hji : j = i
  · subst hji
    rw [if_pos (by omega)]
    simp [List.getD_eq_getElem?_getD, h.1, hi, hy]
  · have h2 := h.2 j hj
    have e : (LM.set i (v, ys)).getD j (.bool false, []) = LM.getD j (.bool false, []) := by
      simp [List.getD_eq_getElem?_getD, List.getElem?_set_ne (Ne.symm hji)]
    rw [e, h2]
    by_cases h3 : j < i
    · rw [if_pos h3, if_pos (by omega)]
    · rw [if_neg h3, if_neg (by omega)]
/-- Each row holds its marks. -/
def HdG {α : Type} (mk : Nat → Int → List α) (c k : Int) (l : List (List α)) : Prop := ∀ j, j < l.length → l.getD j [] = mk (l.getD j []).length (k + c * (lenG l j : Int))
theorem MkG.all {α : Type} {mk : Nat → Int → List α} {c k : Int} {l : List (List α)} {LM : List (Value × List α)} {i : Nat} (hm : ∀ n k, (mk n k).length = n) (h : MkG mk c k l LM i) (hi : l.length ≤ i) : HdG mk c k (LM.map Prod.snd) ∧ lenG (LM.map Prod.snd) (LM.map Prod.snd).length = lenG l l.length ∧ (LM.map Prod.snd).length = l.length := by
  have hl : (LM.map Prod.snd).length = l.length := by rw [List.length_map]; exact h.1
  have hg : ∀ j, j < l.length → (LM.map Prod.snd).getD j [] = mk (l.getD j []).length (k + c * (lenG l j : Int)) := fun j hj => by
    rw [← getV j (by rw [h.1]; exact hj), h.2 j hj, if_pos (by omega)]
  have hlen : ∀ j, ((LM.map Prod.snd).getD j []).length = (l.getD j []).length := fun j => by
    rcases Nat.lt_or_ge j l.length with hj | hj
    · rw [hg j hj, hm]
    · rw [List.getD_eq_getElem?_getD, List.getD_eq_getElem?_getD, List.getElem?_eq_none (by omega), List.getElem?_eq_none hj]
  have he := lenG_eq hlen
  refine ⟨fun j hj => ?_, by rw [hl, he], hl⟩
  rw [hl] at hj
  rw [hlen j, he j]
  exact hg j hj
theorem HdG.now {α : Type} {mk : Nat → Int → List α} {c k : Int} {l : List (List α)} (h : HdG mk c k l) {j : Nat} (hj : j < l.length) {q : Int} (hq : q = k + c * (lenG l j : Int)) : l.getD j [] = mk (l.getD j []).length q := by rw [hq]; exact h j hj

end Go.Proofs.Ytpalghbfhgimkaa


/-! Made rows of rows as rows of named rows. -/
namespace Go.Abs
open Go.RowKit Go.ChangeShapes Go.WideShapes Go.Deep

section
variable {α : Type} {E : α → List AV} {el s b : Nat} {L : List (Value × List α)} {v : Value}
theorem rel_nilN {w : World} {Z : Nat → Prop} {x : Value} (h : Rel w Z [] .nil x) : Rel w Z [] (.nam (.slice none 0 0) (some el) s 0 []) x := by
  simp only [Rel] at h
  subst h
  unfold Rel
  refine ⟨⟨rfl, fun e he => ⟨[], ⟨by simp, .inl ⟨rfl, rfl⟩⟩, fun g hg => by simp [blk] at hg⟩⟩, none, 0, [], rfl, by simp, Nat.le_refl _, fun h => absurd rfl h, rfl⟩
theorem RelL.nilsV {w : World} {Z : Nat → Prop} : ∀ (n : Nat) (xs : List Value), RelL w Z [] (rows (fun _ : Value × List α => [AV.nil]) (List.replicate n (Value.slice none 0 0, ([] : List α)))) xs → RelL w Z [] (rows (eV E el s) (List.replicate n (Value.slice none 0 0, ([] : List α)))) xs := by
  intro n
  induction n with
  | zero => intro xs h; exact h
  | succ n ih =>
    intro xs h
    rw [List.replicate_succ] at h ⊢
    simp only [rows, eV, List.cons_append, List.nil_append] at h ⊢
    obtain ⟨x, ys, rfl, h1, h2⟩ := h
    exact .cons (rel_nilN h1) (ih _ h2)
theorem NL.nils (n : Nat) : NL b (List.replicate n (Value.slice none 0 0, ([] : List α))) := by
  refine ⟨?_, fun x hx g hg => ?_⟩
  · have : (List.replicate n (Value.slice none 0 0, ([] : List α))).filterMap (fun x => blk x.1) = [] := by
      rw [List.filterMap_eq_nil_iff]
      intro a ha
      rw [(List.mem_replicate.1 ha).2]; rfl
    rw [this]
    exact List.nodup_nil
  · rw [(List.mem_replicate.1 hx).2] at hg
    simp [blk] at hg
theorem NL.put {x : List α} (h : NL b L) (i : Nat) (hi : i < L.length) (hv : ∀ u ∈ L, ∀ g, blk v = some g → blk u.1 ≠ some g) (hb : ∀ g, blk v = some g → b ≤ g) : NL b (L.set i (v, x)) := by
  have hsub : (L.take i ++ L.drop (i + 1)).Sublist L := by
    have e : L = L.take i ++ L.drop i := (List.take_append_drop i L).symm
    conv => rhs; rw [e]
    exact List.Sublist.append (List.Sublist.refl _) (by rw [← List.drop_drop]; exact List.drop_sublist _ _)
  have hnd : ((L.take i ++ L.drop (i + 1)).filterMap fun x => blk x.1).Nodup := List.Nodup.sublist (hsub.filterMap _) h.nd
  refine ⟨?_, fun y hy g hg => ?_⟩
  · rw [List.set_eq_take_append_cons_drop, if_pos hi, List.filterMap_append, List.filterMap_cons]
    rw [List.filterMap_append] at hnd
    cases hbv : blk v with
    | none => simpa [hbv] using hnd
    | some g =>
      simp only
      refine (List.perm_middle.nodup_iff).2 (List.nodup_cons.2 ⟨fun hg => ?_, hnd⟩)
      rw [← List.filterMap_append] at hg
      obtain ⟨u, hu, e⟩ := List.mem_filterMap.1 hg
      exact hv u (hsub.subset hu) g hbv e
  · rcases List.mem_or_eq_of_mem_set hy with hy | rfl
    · exact h.ge y hy g hg
    · exact hb g hg
theorem map2_set {x : List α} {M : List (List α)} (h : L.map Prod.snd = M) (i : Nat) : (L.set i (v, x)).map Prod.snd = M.set i x := by rw [List.map_set, h]
end
section
variable {rd : Option Nat} {P : Program} {m : M} {Q : Exit → St → Prop}
theorem R.mkV {α : Type} (E : α → List AV) (e s el b n : Nat) (ni : Int) (h : mkAt P m = some (el, 1, [.nil], b, ni, ni)) (ho : opsAt m = true) (hn : ni = (n : Int)) (h0 : 0 < b) (hb : n * b ≤ 140737488355328) (ht : quietOk m [.list el 1 0 []] = true)
    (h' : Runs rd P (putM m none (.ref m.st.hp.length) (m.st.hp ++ [.list el 1 (List.replicate n (Value.slice none 0 0, ([] : List α))).length (rows (eV E e s) (List.replicate n (Value.slice none 0 0, ([] : List α))))])) Q) : Runs rd P m Q := by
  refine R.mk (fun _ : Value × List α => [AV.nil]) (Value.slice none 0 0, []) el b n ni h hn h0 hb ht ?_
  rw [List.length_replicate] at h' ⊢
  obtain ⟨ks, st⟩ := m
  unfold opsAt at ho
  simp only at ho
  split at ho
  · rename_i all o l g ks'
    simp only [putM] at h' ⊢
    refine R.sub _ rfl (Sub.rowW st.hp.length el 1 n _ (rows (eV E e s) (List.replicate n (Value.slice none 0 0, []))) _ (by simp) fun w Z xs h => RelL.nilsV n xs h) ?_
    simpa using h'
  · cases ho
end
theorem CallA.nameM {P : Program} {f : FuncId} {x res : AV} {s n s2 n2 s3 n3 : Nat} {cs cs2 cs3 : List AV} (hen : Enters P f) (hn : nameable (.lst s n cs) = true) (hn2 : nameable (.lst s2 n2 cs2) = true) (hn3 : nameable (.lst s3 n3 cs3) = true)
    (h : ∀ u c u2 c2 u3 c3, ByN (.nam u none s n c) (.lst s n cs) → ByN (.nam u2 none s2 n2 c2) (.lst s2 n2 cs2) → ByN (.nam u3 none s3 n3 c3) (.lst s3 n3 cs3) → CallA P f [.agg [x, .nam u none s n c, .nam u2 none s2 n2 c2], .nam u3 none s3 n3 c3] res) : CallA P f [.agg [x, .lst s n cs, .lst s2 n2 cs2], .lst s3 n3 cs3] res := by
  refine ⟨hen, fun Z0 w vs hvs => ?_⟩
  obtain ⟨va, vs', rfl, ha, hvs⟩ := hvs
  obtain ⟨vb, vs', rfl, hb, hvs⟩ := hvs
  have hvs : vs' = [] := hvs
  subst hvs
  simp only [Rel] at ha
  obtain ⟨xs, rfl, x1, ys, rfl, h1, x2, zs, rfl, h2, x3, ws, rfl, h3, rfl⟩ := ha
  obtain ⟨u, c, e1, e2⟩ := nameLst_of (w := w) (Z := Zone Z0 NoF w.heap.size) (v := x2) hn (by simp only [Rel]; exact h2)
  obtain ⟨u2, c2, e3, e4⟩ := nameLst_of (w := w) (Z := Zone Z0 NoF w.heap.size) (v := x3) hn2 (by simp only [Rel]; exact h3)
  obtain ⟨u3, c3, e5, e6⟩ := nameLst_of (w := w) (Z := Zone Z0 NoF w.heap.size) (v := vb) hn3 hb
  exact (h u c u2 c2 u3 c3 e1 e3 e5).2 Z0 w _ (RelL.cons (by simp only [Rel]; exact ⟨_, rfl, RelL.cons h1 (RelL.cons e2 (RelL.cons e4 RelL.nil))⟩) (RelL.cons e6 RelL.nil))
end Go.Abs


/-! The law of DefinableSets: the harness with named rows. -/
namespace Go.Proofs.Ytpalghbfhgimkaa
open Go.RowKit Go.Abs

theorem toNodeSSE_c (a : List (List (Int × Int))) (hl : a.length ≤ 1048576) (hl2 : ∀ j : Nat, j < a.length → (a.getD j []).length ≤ 1048576) : CallE Try.prog 9 [LLN a] (fun (b : Nat) (r : AV) => ∃ L : List (Value × List (Int × Int)), r = ownA (eV eN 86 2) 51 1 L ∧ (NL b L) ∧ (L.map Prod.snd = a)) := by
  refine CallE.of Try.func9 rfl (by kernel_rfl) (fun b => ?_)
  refine R.go 8 (R.mkV eN 86 2 51 24 a.length a.length (by kernel_rfl) (by kernel_rfl) rfl (by decide) (by omega) (by kernel_rfl) ?_)
  refine R.go 8 (R.loop ((fun | (i, out) => (⟨(frm 23 [(0, LLN a), (3, .ref 1), (4, AI (i : Int))]), [.inert (.base b), rowA (eV eN 86 2) 51 1 out]⟩ : St) : Nat × (List (Value × List (Int × Int))) → St)) (fun | (i, out) => (i ≤ a.length) ∧ (out.length = a.length) ∧ (NL b out) ∧ ((out.map Prod.snd).take i = a.take i)) (fun | (i, out) => a.length - i) (0, (List.replicate a.length (Value.slice none 0 0, []))) [0, 3, 4] none (by kernel_rfl) (by kernel_rfl) (by kernel_rfl) ⟨(by omega), (by simp), (by exact NL.nils _), (by rfl)⟩ ?_)
  rintro ⟨i, out⟩ ⟨h4_1, h4_2, h4_3, h4_4⟩ R1 N2
  refine R.go 8 (R.cond ((i : Int) < (a.length : Int)) (by kernel_rfl) (fun c5 => ?_) (fun c5 => ?_))
  · have hgl := hl2 i (by omega)
    refine R.go 8 (R.idx eLN a [] i (i : Int) (by kernel_rfl) rfl eLN_len (by omega) (by kernel_rfl) ?_)
    refine R.go 1 (R.call true (toNodeS_c (a.getD i []) (by first | omega | (simp <;> omega))) (by kernel_rfl) rfl (by kernel_rfl) ?_)
    refine R.pin 2 86 2 (a.getD i []).length (rows eN (a.getD i [])) (by kernel_rfl) (by kernel_rfl) ?_
    intro v6 hn7
    have hb8 : ∀ g, blk v6 = some g → b ≤ g := newN_base hn7 0 (by kernel_rfl)
    have hr9 : ∀ u ∈ out, ∀ g, blk v6 = some g → blk u.1 ≠ some g := newN_row (E := eN) (el := 86) (s := 2) (e := 51) (n := out.length) hn7 1 out (by kernel_rfl)
    clear hn7
    refine R.idxO 1 1 out.length i (i : Int) (by kernel_rfl) rfl (by omega) (by kernel_rfl) ?_
    refine R.st1 (eV eN 86 2) (fun p => AV.nam p.1 (some 86) 2 p.2.length (rows eN p.2)) 1 51 out i (v6, a.getD i []) (by kernel_rfl) (fun _ => rfl) (by omega) (by kernel_rfl) ?_
    refine R.go 4 (R.ar ((i : Int) + 1) (by kernel_rfl) (by omega) (by omega) (by kernel_rfl) ?_)
    exact R.go 2 (R.stop R1 (by kernel_rfl) (N2 (i + 1, out.set i (v6, a.getD i [])) [0, 3, 4] (some [0, 1]) _ (by kernel_rfl) (by kernel_rfl) ⟨(by omega), (by (simp <;> omega)), (by exact NL.put (by assumption) _ (by omega) (by assumption) (by assumption)), (by (rw [map2_set rfl]; exact take_step _ _ [] _ (by simp <;> omega) (by omega) (by rw [List.take_set_of_le (by omega)]; assumption) (by rw [getD_set_eq _ _ _ _ (by simp <;> omega)])))⟩ (by show (a.length - (i + 1)) < (a.length - i); omega)))
  · exact R.go 6 (R.retB (ownA (eV eN 86 2) 51 1 out) (by kernel_rfl) (by kernel_rfl) ⟨out, rfl, by first | (assumption) | (exfalso; omega), by first | (exact take_all (i := i) (by simp <;> omega) (by simp <;> omega) (by assumption)) | (exfalso; omega)⟩)
theorem toNodeSSE_c_cl (a : List (List (Int × Int))) : ∀ (b : Nat) (r : AV), (fun (b : Nat) (r : AV) => ∃ L : List (Value × List (Int × Int)), r = ownA (eV eN 86 2) 51 1 L ∧ (NL b L) ∧ (L.map Prod.snd = a)) b r → ClosedN b r := by
 rintro b r ⟨L, rfl, e0, e1⟩
 exact (closedN_own _ e0 eN_closed)

end Go.Proofs.Ytpalghbfhgimkaa
