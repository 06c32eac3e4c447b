/- Texts of the proof: DS3, DF1, DF2, DICE. -/
import Derived.Test.YtpalghbfhgimkaaPartL

/-! Definable sets: the reference. -/
namespace Go.Proofs.Ytpalghbfhgimkaa
open Go.RowKit Go.Abs

theorem dec_bit {n w : Nat} {m : Int} (hn : n ≤ 61) (h : InM n m) (hw : w ≤ 61) : band (shr64 m (w : Int)) 1 = if tb m w = true then 1 else 0 := by
  by_cases hb : tb m w = true
  · rw [if_pos hb]; exact (has_tb hn h hw).2 hb
  · rw [if_neg hb]
    obtain ⟨a, rfl, ha⟩ := inM_nat h
    have h62 : a < 2 ^ 62 := inM_62 hn ha
    have h1 : ¬ band (shr64 (a : Int) (w : Int)) 1 = 1 := fun e => hb ((has_tb hn h hw).1 e)
    rw [shr_nat (by omega)] at h1 ⊢
    have hd : a / 2 ^ w < 2 ^ 62 := Nat.lt_of_le_of_lt (Nat.div_le_self _ _) h62
    have e := band_nat (a := a / 2 ^ w) (b := 1) hd (by decide)
    rw [Nat.and_one_is_mod] at e
    have e' : band ((a / 2 ^ w : Nat) : Int) 1 = ((a / 2 ^ w % 2 : Nat) : Int) := e
    rw [e'] at h1 ⊢
    have := Nat.mod_lt (a / 2 ^ w) (show 2 > 0 by decide)
    omega
/-- The texts of the worlds. -/
def keyR (f : Nat → Int) (n i : Nat) : List (List Bool) := (List.range n).map fun w => kyF f w i
def keyW (f : Nat → Int) (n i k : Nat) : List (List Bool) := (List.range n).map fun w => kyF f w (if w < k then i + 1 else i)
theorem keyR_len (f : Nat → Int) (n i : Nat) : (keyR f n i).length = n := by simp [keyR]
theorem keyW_len (f : Nat → Int) (n i k : Nat) : (keyW f n i k).length = n := by simp [keyW]
theorem keyR_0 (f : Nat → Int) (n : Nat) : List.replicate n [] = keyR f n 0 := by
  apply List.ext_getElem (by simp [keyR])
  intro j h1 h2
  simp [keyR, kyF]
theorem keyW_0 (f : Nat → Int) (n i : Nat) : keyR f n i = keyW f n i 0 := by simp [keyR, keyW]
theorem keyW_e (f : Nat → Int) (n i : Nat) {k : Nat} (h : k = n) : keyW f n i k = keyR f n (i + 1) := by
  subst h
  refine List.map_congr_left fun w hw => ?_
  rw [if_pos (List.mem_range.1 hw)]
theorem keyR_get {f : Nat → Int} {n i w : Nat} (hw : w < n) : (keyR f n i).getD w [] = kyF f w i := by
  rw [List.getD_eq_getElem?_getD, keyR, List.getElem?_map, List.getElem?_range hw]; rfl
theorem keyW_get {f : Nat → Int} {n i k w : Nat} (hw : w < n) : (keyW f n i k).getD w [] = kyF f w (if w < k then i + 1 else i) := by
  rw [List.getD_eq_getElem?_getD, keyW, List.getElem?_map, List.getElem?_range hw]; rfl
theorem ky_len (f : Nat → Int) (w : Nat) : ∀ i : Nat, (kyF f w i).length = i
  | 0 => rfl
  | i + 1 => by simp [kyF, ky_len f w i]
theorem keyW_s {f : Nat → Int} {n i k : Nat} (hk : k < n) : (keyW f n i k).set k ((keyW f n i k).getD k [] ++ [tb (f i) k]) = keyW f n i (k + 1) := by
  rw [keyW_get hk, if_neg (by omega)]
  apply List.ext_getElem (by simp [keyW])
  intro j h1 h2
  rw [List.getElem_set]
  split
  · rename_i e; subst e; simp [keyW, kyF]
  · rename_i e
    simp only [keyW, List.getElem_map, List.getElem_range]
    by_cases hj : j < k
    · rw [if_pos hj, if_pos (by omega)]
    · rw [if_neg hj, if_neg (by omega)]
def fitV (f : Nat → Int) (i : Nat) (q : Int) (w : Nat) : Nat → Bool
  | 0 => true
  | v + 1 => fitV f i q w v && decide (kyF f w i ≠ kyF f v i ∨ tb q w = tb q v)
def fitW (f : Nat → Int) (i : Nat) (q : Int) : Nat → Bool
  | 0 => true
  | w + 1 => fitW f i q w && fitV f i q w w
theorem fitV_all (f : Nat → Int) (i : Nat) (q : Int) (w : Nat) : ∀ v : Nat, fitV f i q w v = (List.range v).all fun v => decide (kyF f w i ≠ kyF f v i ∨ tb q w = tb q v)
  | 0 => rfl
  | v + 1 => by rw [fitV, fitV_all f i q w v, List.range_succ, List.all_append]; simp
theorem fitW_all (f : Nat → Int) (i : Nat) (q : Nat) : ∀ n : Nat, fitW f i (q : Int) n = fitB n f i q
  | 0 => rfl
  | n + 1 => by
    rw [fitW, fitW_all f i q n, fitV_all, fitB, fitB, List.range_succ, List.all_append]; simp
theorem fit_step {f : Nat → Int} {i w v : Nat} {q : Int} {a b : Bool} (h : (fitW f i q w && fitV f i q w v) = a) (h2 : b = (a && decide (kyF f w i ≠ kyF f v i ∨ tb q w = tb q v))) : (fitW f i q w && fitV f i q w (v + 1)) = b := by
  rw [h2, ← h, fitV, Bool.and_assoc]
theorem fs_1 {f : Nat → Int} {i w v : Nat} {q : Int} {a bw bv : Bool} (ha : a = true) (hk : kyF f w i = kyF f v i) (h1 : bw = tb q w) (h2 : bv = tb q v) : (bw == bv) = (a && decide (kyF f w i ≠ kyF f v i ∨ tb q w = tb q v)) := by
  subst ha h1 h2
  cases tb q w <;> cases tb q v <;> simp [hk]
theorem fs_2 {f : Nat → Int} {i w v : Nat} {q : Int} {a : Bool} (ha : a = true) (hk : ¬ kyF f w i = kyF f v i) : true = (a && decide (kyF f w i ≠ kyF f v i ∨ tb q w = tb q v)) := by
  subst ha
  simp [hk]
theorem fs_3 {a b : Bool} (ha : a = false) : false = (a && b) := by subst ha; rfl
theorem below1' {P : Nat → Prop} {i : Nat} (h : ∀ j : Nat, j < i → P j) (hi : P i) : ∀ j : Nat, j < i + 1 → P j := fun j hj => by
  by_cases e : j = i
  · subst e; exact hi
  · exact h j (by omega)
theorem allF_mk {l : List (List (Int × Int))} (h : ∀ j : Nat, j < l.length → isF (l.getD j []) = true) : allF l = true := by
  simp only [allF, Bool.not_eq_true', List.any_eq_false, Bool.not_eq_true]
  intro a ha
  obtain ⟨j, hj, rfl⟩ := List.getElem_of_mem ha
  have := h j hj
  rw [List.getD_eq_getElem?_getD, List.getElem?_eq_getElem hj] at this
  rw [Bool.not_eq_false]
  exact this
theorem allF_noJ {l : List (List (Int × Int))} {j : Nat} (hj : j < l.length) (h : isF (l.getD j []) = false) : allF l = false := by
  cases hA : allF l with
  | false => rfl
  | true => rw [allF_get hA j hj] at h; cases h
theorem numF_y {p : Nat → Bool} {q : Nat} (h : p q = true) : numF p q ++ [(q : Int)] = numF p (q + 1) := by rw [numF, if_pos h]
theorem numF_n {p : Nat → Bool} {q : Nat} (h : p q = false) : numF p q = numF p (q + 1) := by rw [numF, if_neg (by rw [h]; exact Bool.false_ne_true), List.append_nil]
theorem numF_len (p : Nat → Bool) : ∀ q : Nat, (numF p q).length ≤ q
  | 0 => Nat.le_refl _
  | q + 1 => by
    rw [numF, List.length_append]
    have := numF_len p q
    split <;> simp <;> omega
theorem bit_dec {n q w : Nat} (hn : n ≤ 61) (hq : q < 2 ^ n) (hw : w ≤ 61) : decide (band (shr64 (q : Int) (w : Int)) 1 = 1) = tb (q : Int) w := by
  rw [Bool.eq_iff_iff, decide_eq_true_iff]
  exact has_tb hn ⟨by omega, by simpa using hq⟩ hw
theorem dsR_len (n : Int) (xs vs : List Int) (l : List (List (Int × Int))) : (dsR n xs vs l).length ≤ 256 := by
  unfold dsR
  split
  · rename_i h
    refine Nat.le_trans (numF_len _ _) ?_
    have hM : okMo n xs vs = true := by
      unfold dsC at h
      split at h
      · rename_i q; exact q.1
      · cases h
    have h8 := (okFr_rel (okMo_fr hM).1).2.1
    exact Nat.le_trans (Nat.pow_le_pow_right (by decide) (show n.toNat ≤ 8 by omega)) (by decide)
  · simp

theorem l01Dec_c (v : Int) (t : Bool) (hv : v = if t = true then 1 else 0) : CallA Try.prog 32 [AI v] (.str (bkey [t])) := by
  have hv2 : 0 ≤ v ∧ v ≤ 1 := by subst hv; split <;> omega
  refine CallA.of Try.func32 rfl (by kernel_rfl) ?_
  refine R.go 10 (R.cond (v < 10) (by kernel_rfl) (fun c1 => ?_) (fun c1 => ?_))
  · refine R.go 3 (R.ar (48 + v) (by kernel_rfl) (by omega) (by omega) (by kernel_rfl) ?_)
    refine R.go 2 (R.frz 0 (by kernel_rfl) ?_)
    refine R.strB [IntKind.u8.wrap (48 + v)] (by kernel_rfl) (by kernel_rfl) (by simp) (bkey [t]) (by subst hv; cases t <;> rfl) ?_
    exact R.go 2 (R.retE (.str (bkey [t])) (by kernel_rfl) (by kernel_rfl) (by rfl))
  · exfalso; omega -- no contract for f32 loop.example/g01089/spec.l01Dec (AI (v / 10))

set_option maxHeartbeats 2000000 in
theorem DS_spec (n : Int) (xs : List Int) (vs : List Int) (l : List (List (Int × Int))) (l1 : xs.length ≤ 1048576) (l2 : vs.length ≤ 1048576) (hl : l.length ≤ 1048576 ∧ ∀ i0 : Nat, i0 < l.length → (l.getD i0 []).length ≤ 1048576) : CallA Try.prog 7 [.agg [AI n, LI xs, LI vs], LLN l] (.tup [ownA eI 2 1 (dsR n xs vs l), AI (dsC n xs vs l)]) := by
  have hs : shortL l := ⟨by omega, fun i h => by have := hl.2 i h; omega⟩
  refine CallA.of Try.func7 rfl (by kernel_rfl) ?_
  refine R.go 10 (R.call true (l06Is_c n xs vs (by first | omega | (simp <;> omega)) (by first | omega | (simp <;> omega))) (by kernel_rfl) rfl (by kernel_rfl) ?_)
  refine R.go 2 (R.condM (okMo n xs vs) (by kernel_rfl) (fun c1 => ?_) (fun c1 => ?_))
  · obtain ⟨hc1, hc2⟩ := ds_1 (n := n) (xs := xs) (vs := vs) (l := l) (by simp [*])
    refine R.go 5 (R.nil 4 2 1 (by kernel_rfl) ?_)
    exact R.retE (.tup [ownA eI 2 1 [], AI 1]) (by kernel_rfl) (by kernel_rfl) (by first | (first | (rw [hc1, hc2]; done) | (rw [hc1, hc2, show q = 2 ^ n.toNat by omega])) | (exfalso; omega))
  · have hM : okMo n xs vs = true := by assumption
    have hr0 := okMo_fr hM
    have hr1 := okFr_rel hr0.1
    have hb : 0 ≤ n ∧ n ≤ 8 ∧ (xs.length : Int) = n := ⟨hr1.1, hr1.2.1, hr1.2.2.1⟩
    have hvin := okMo_in hM
    have hF := hr0.1
    have hv6 := hr0.2
    obtain ⟨N, hN⟩ : ∃ N : Nat, N = 2 ^ n.toNat := ⟨_, rfl⟩
    have hsh : shl64 1 n = (N : Int) := by rw [hN, ← shl_nat (by omega), Int.toNat_of_nonneg hb.1]
    have hN256 : N ≤ 256 := by rw [hN]; exact Nat.le_trans (Nat.pow_le_pow_right (by decide) (show n.toNat ≤ 8 by omega)) (by decide)
    refine R.go 6 (R.mk eK [] 9 16 ((n).toNat) n (by kernel_rfl) (by omega) (by decide) (by omega) (by kernel_rfl) ?_)
    refine R.go 8 (R.loop ((fun | (i, K) => (⟨(frm 107 [(1, LLN l), (2, .ptr 0 0), (6, .ref 1), (7, AI (i : Int))]), [.box 34 [AI n, LI xs, LI vs], rowA eK 9 1 K]⟩ : St) : Nat × (List (List Bool)) → St)) (fun | (i, K) => (i ≤ l.length) ∧ (∀ j : Nat, j < i → isF (l.getD j []) = true) ∧ (K = keyR (dsf n xs vs l) n.toNat i)) (fun | (i, K) => l.length - i) (0, (List.replicate ((n).toNat) [])) [1, 2, 6, 7] none (by kernel_rfl) (by kernel_rfl) (by kernel_rfl) ⟨(by omega), (by exact fun j hj => absurd hj (by omega)), (by exact keyR_0 _ _)⟩ ?_)
    rintro ⟨i, K⟩ ⟨h5_1, h5_2, rfl⟩ R2 N3
    have hkl := keyR_len (dsf n xs vs l) n.toNat i
    refine R.go 8 (R.cond ((i : Int) < (l.length : Int)) (by kernel_rfl) (fun c6 => ?_) (fun c6 => ?_))
    · have hlq := hl.2 i (by omega)
      refine R.go 8 (R.idx eLN l [] i (i : Int) (by kernel_rfl) rfl eLN_len (by omega) (by kernel_rfl) ?_)
      refine R.go 1 (R.call true (l02Is_c (l.getD i []) (by first | omega | (simp <;> omega))) (by kernel_rfl) rfl (by kernel_rfl) ?_)
      refine R.go 2 (R.condM (isF (l.getD i [])) (by kernel_rfl) (fun c7 => ?_) (fun c7 => ?_))
      · have hA : allF l = false := allF_noJ (j := i) (by omega) (by assumption)
        obtain ⟨hc1, hc2⟩ := ds_1 (n := n) (xs := xs) (vs := vs) (l := l) (by simp [*])
        refine R.go 5 (R.nil 4 2 1 (by kernel_rfl) ?_)
        exact R.retE (.tup [ownA eI 2 1 [], AI 1]) (by kernel_rfl) (by kernel_rfl) (by first | (first | (rw [hc1, hc2]; done) | (rw [hc1, hc2, show q = 2 ^ n.toNat by omega])) | (exfalso; omega))
      · refine R.go 2 ?_
        have hok0 : isF (l.getD i []) = true := by assumption
        have hokm := isF_okm hok0
        have hok : OKM vs.length (l.getD i []) := by rw [hv6]; exact hokm.1
        have hti : InM n.toNat (tset n xs vs (l.getD i [])) := tset_in hF hokm.1 hvin
        refine R.go 4 (R.idx eLN l [] i (i : Int) (by kernel_rfl) rfl eLN_len (by omega) (by kernel_rfl) ?_)
        refine R.go 1 (R.call true (l06TruthT_c n xs vs (l.getD i []) (by omega) hok (by first | omega | (simp <;> omega))) (by kernel_rfl) rfl (by kernel_rfl) ?_)
        refine R.go 7 (R.loop ((fun | (w, K2) => (⟨(frm 107 [(1, LLN l), (2, .ptr 0 0), (6, .ref 1), (7, AI (i : Int)), (8, AI (tset n xs vs (l.getD i []))), (9, AI (w : Int))]), [.box 34 [AI n, LI xs, LI vs], rowA eK 9 1 K2]⟩ : St) : Nat × (List (List Bool)) → St)) (fun | (w, K2) => (w ≤ n.toNat) ∧ (K2 = keyW (dsf n xs vs l) n.toNat i w)) (fun | (w, K2) => n.toNat - w) (0, (keyR (dsf n xs vs l) n.toNat i)) [1, 2, 6, 7, 8, 9] none (by kernel_rfl) (by kernel_rfl) (by kernel_rfl) ⟨(by omega), (by exact keyW_0 _ _ _)⟩ ?_)
        rintro ⟨w, K2⟩ ⟨h11_1, rfl⟩ R8 N9
        have hkwl := keyW_len (dsf n xs vs l) n.toNat i w
        refine R.go 8 (R.cond ((w : Int) < ((keyW (dsf n xs vs l) n.toNat i w).length : Int)) (by kernel_rfl) (fun c12 => ?_) (fun c12 => ?_))
        · refine R.go 3 ?_
          have hv : band (shr64 (tset n xs vs (l.getD i [])) (w : Int)) 1 = if tb (dsf n xs vs l i) w = true then 1 else 0 := dec_bit (by omega) hti (by omega)
          have hkw : ((keyW (dsf n xs vs l) n.toNat i w).getD w []).length ≤ i + 1 := by rw [keyW_get (by omega), ky_len]; split <;> omega
          refine R.go 5 (R.idxO 1 1 (keyW (dsf n xs vs l) n.toNat i w).length w (w : Int) (by kernel_rfl) rfl (by omega) (by kernel_rfl) ?_)
          refine R.ldE eK 1 0 (keyW (dsf n xs vs l) n.toNat i w) [] w (.str (bkey ((keyW (dsf n xs vs l) n.toNat i w).getD w []))) (by kernel_rfl) eK_len (by omega) rfl (by kernel_rfl) ?_
          refine R.go 2 (R.cv .u64 (w : Int) (by kernel_rfl) (u64_id (by omega) (by omega)) (by kernel_rfl) ?_)
          refine R.shr (tset n xs vs (l.getD i [])) (w : Int) (by kernel_rfl) (by omega) (by kernel_rfl) ?_
          refine R.go 1 (R.call true (l01Dec_c (band (shr64 (tset n xs vs (l.getD i [])) (w : Int)) 1) (tb (dsf n xs vs l i) w) (by assumption)) (by kernel_rfl) rfl (by kernel_rfl) ?_)
          refine R.str .cat (bkey ((keyW (dsf n xs vs l) n.toNat i w).getD w [])) (bkey [(tb (dsf n xs vs l i) w)]) (.str (bkey (((keyW (dsf n xs vs l) n.toNat i w).getD w []) ++ [(tb (dsf n xs vs l i) w)]))) (by kernel_rfl) (by kernel_rfl) (by rw [bkey_size, bkey_size]; first | omega | (simp only [List.length_cons, List.length_nil]; omega)) (congrArg AV.str (bkey_app _ _)) ?_
          refine R.idxO 1 1 (keyW (dsf n xs vs l) n.toNat i w).length w (w : Int) (by kernel_rfl) rfl (by omega) (by kernel_rfl) ?_
          refine R.st1 eK (fun l => AV.str (bkey l)) 1 9 (keyW (dsf n xs vs l) n.toNat i w) w (((keyW (dsf n xs vs l) n.toNat i w).getD w []) ++ [(tb (dsf n xs vs l i) w)]) (by kernel_rfl) (fun _ => rfl) (by omega) (by kernel_rfl) ?_
          refine R.go 4 (R.ar ((w : Int) + 1) (by kernel_rfl) (by omega) (by omega) (by kernel_rfl) ?_)
          exact R.go 2 (R.stop R8 (by kernel_rfl) (N9 (w + 1, (keyW (dsf n xs vs l) n.toNat i w).set w (((keyW (dsf n xs vs l) n.toNat i w).getD w []) ++ [(tb (dsf n xs vs l i) w)])) [1, 2, 6, 7, 8, 9] none _ (by kernel_rfl) (by kernel_rfl) ⟨(by omega), (by exact keyW_s (by omega))⟩ (by show (n.toNat - (w + 1)) < (n.toNat - w); omega)))
        · refine R.go 4 (R.ar ((i : Int) + 1) (by kernel_rfl) (by omega) (by omega) (by kernel_rfl) ?_)
          exact R.go 2 (R.stop R2 (by kernel_rfl) (N3 (i + 1, keyW (dsf n xs vs l) n.toNat i w) [1, 2, 6, 7] none _ (by kernel_rfl) (by kernel_rfl) ⟨(by omega), (by exact below1' (P := fun j => isF (l.getD j []) = true) (by assumption) (by assumption)), (by exact keyW_e _ _ _ (by omega))⟩ (by show (l.length - (i + 1)) < (l.length - i); omega)))
    · have hA : allF l = true := allF_mk fun j hj => (‹∀ j : Nat, j < i → isF (l.getD j []) = true›) j (by omega)
      obtain ⟨hc1, hc2⟩ := ds_0 hM hA
      refine R.go 3 ?_
      have hsub_i : i = l.length := (by omega)
      subst hsub_i
      refine R.go 9 (R.loop ((fun | (q, O) => (⟨(frm 107 [(2, .ptr 0 0), (6, .ref 1), (10, .ref 2), (11, AI (q : Int))]), [.box 34 [AI n, LI xs, LI vs], rowA eK 9 1 (keyR (dsf n xs vs l) n.toNat l.length), rowA eI 2 1 O]⟩ : St) : Nat × (List Int) → St)) (fun | (q, O) => (q ≤ N) ∧ (O = numF (fitB n.toNat (dsf n xs vs l) l.length) q)) (fun | (q, O) => N - q) (0, []) [2, 6, 10, 11] none (by kernel_rfl) (by kernel_rfl) (by kernel_rfl) ⟨(by omega), (by rfl)⟩ ?_)
      rintro ⟨q, O⟩ ⟨h16_1, rfl⟩ R13 N14
      have hol := numF_len (fitB n.toNat (dsf n xs vs l) l.length) q
      refine R.go 7 (R.call true (l01Full_c n (by omega) (by omega)) (by kernel_rfl) rfl (by kernel_rfl) ?_)
      refine R.go 2 (R.cond ((q : Int) ≤ ((shl64 1 n) - 1)) (by kernel_rfl) (fun c17 => ?_) (fun c17 => ?_))
      · refine R.go 13 (R.loop ((fun | (w, fb) => (⟨(frm 107 [(2, .ptr 0 0), (6, .ref 1), (10, .ref 2), (11, AI (q : Int)), (12, .bool fb), (13, AI (w : Int))]), [.box 34 [AI n, LI xs, LI vs], rowA eK 9 1 (keyR (dsf n xs vs l) n.toNat l.length), rowA eI 2 1 (numF (fitB n.toNat (dsf n xs vs l) l.length) q)]⟩ : St) : Nat × Bool → St)) (fun | (w, fb) => (w ≤ n.toNat) ∧ (fitW (dsf n xs vs l) l.length (q : Int) w = fb)) (fun | (w, fb) => n.toNat - w) (0, true) [2, 6, 10, 11, 12, 13] none (by kernel_rfl) (by kernel_rfl) (by kernel_rfl) ⟨(by omega), (by rfl)⟩ ?_)
        rintro ⟨w, fb⟩ ⟨h21_1, h21_2⟩ R18 N19
        refine R.go 8 (R.cond ((w : Int) < ((keyR (dsf n xs vs l) n.toNat l.length).length : Int)) (by kernel_rfl) (fun c22 => ?_) (fun c22 => ?_))
        · refine R.go 8 (R.loop ((fun | (v, fc) => (⟨(frm 107 [(2, .ptr 0 0), (6, .ref 1), (10, .ref 2), (11, AI (q : Int)), (12, .bool fc), (13, AI (w : Int)), (14, AI (v : Int))]), [.box 34 [AI n, LI xs, LI vs], rowA eK 9 1 (keyR (dsf n xs vs l) n.toNat l.length), rowA eI 2 1 (numF (fitB n.toNat (dsf n xs vs l) l.length) q)]⟩ : St) : Nat × Bool → St)) (fun | (v, fc) => (v ≤ w) ∧ ((fitW (dsf n xs vs l) l.length (q : Int) w && fitV (dsf n xs vs l) l.length (q : Int) w v) = fc)) (fun | (v, fc) => w - v) (0, fb) [2, 6, 10, 11, 12, 13, 14] none (by kernel_rfl) (by kernel_rfl) (by kernel_rfl) ⟨(by omega), (by (rw [fitV, Bool.and_true]; assumption))⟩ ?_)
          rintro ⟨v, fc⟩ ⟨h26_1, h26_2⟩ R23 N24
          refine R.go 7 (R.cond ((v : Int) < (w : Int)) (by kernel_rfl) (fun c27 => ?_) (fun c27 => ?_))
          · refine R.go 3 ?_
            have hkw := keyR_get (f := dsf n xs vs l) (n := n.toNat) (i := l.length) (w := w) (by omega)
            have hkv := keyR_get (f := dsf n xs vs l) (n := n.toNat) (i := l.length) (w := v) (by omega)
            have hkwl : ((keyR (dsf n xs vs l) n.toNat l.length).getD w []).length = l.length := by rw [hkw, ky_len]
            have hkvl : ((keyR (dsf n xs vs l) n.toNat l.length).getD v []).length = l.length := by rw [hkv, ky_len]
            have hbw := bit_dec (n := n.toNat) (q := q) (w := w) (by omega) (by omega) (by omega)
            have hbv := bit_dec (n := n.toNat) (q := q) (w := v) (by omega) (by omega) (by omega)
            refine R.go 3 ?_
            refine (Bool.eq_false_or_eq_true (fc)).elim (fun c28 => ?_) (fun c28 => ?_)
            · refine R.want (fc) true (by kernel_rfl) c28 ?_
              refine R.go 1 (R.want (fc) true (by kernel_rfl) c28 ?_)
              refine R.go 1 (R.want (fc) true (by kernel_rfl) c28 ?_)
              refine R.idxO 1 1 (keyR (dsf n xs vs l) n.toNat l.length).length w (w : Int) (by kernel_rfl) rfl (by omega) (by kernel_rfl) ?_
              refine R.want (fc) true (by kernel_rfl) c28 ?_
              refine R.ldE eK 1 0 (keyR (dsf n xs vs l) n.toNat l.length) [] w (.str (bkey ((keyR (dsf n xs vs l) n.toNat l.length).getD w []))) (by kernel_rfl) eK_len (by omega) rfl (by kernel_rfl) ?_
              refine R.want (fc) true (by kernel_rfl) c28 ?_
              refine R.go 1 (R.want (fc) true (by kernel_rfl) c28 ?_)
              refine R.go 1 (R.want (fc) true (by kernel_rfl) c28 ?_)
              refine R.idxO 1 1 (keyR (dsf n xs vs l) n.toNat l.length).length v (v : Int) (by kernel_rfl) rfl (by omega) (by kernel_rfl) ?_
              refine R.want (fc) true (by kernel_rfl) c28 ?_
              refine R.ldE eK 1 0 (keyR (dsf n xs vs l) n.toNat l.length) [] v (.str (bkey ((keyR (dsf n xs vs l) n.toNat l.length).getD v []))) (by kernel_rfl) eK_len (by omega) rfl (by kernel_rfl) ?_
              refine R.want (fc) true (by kernel_rfl) c28 ?_
              refine R.str .neq (bkey ((keyR (dsf n xs vs l) n.toNat l.length).getD w [])) (bkey ((keyR (dsf n xs vs l) n.toNat l.length).getD v [])) (.bool (!decide (((keyR (dsf n xs vs l) n.toNat l.length).getD w []) = ((keyR (dsf n xs vs l) n.toNat l.length).getD v [])))) (by kernel_rfl) (by kernel_rfl) (by rw [bkey_size, bkey_size]; first | omega | (simp only [List.length_cons, List.length_nil]; omega)) (by simp only [strV, bkey_eq]) ?_
              refine R.want (fc) true (by kernel_rfl) c28 ?_
              refine R.go 1 ?_
              by_cases c29 : ((keyR (dsf n xs vs l) n.toNat l.length).getD w []) = ((keyR (dsf n xs vs l) n.toNat l.length).getD v [])
              · refine R.want (!decide (((keyR (dsf n xs vs l) n.toNat l.length).getD w []) = ((keyR (dsf n xs vs l) n.toNat l.length).getD v []))) false (by kernel_rfl) (nF c29) ?_
                refine R.go 1 (R.want (!decide (((keyR (dsf n xs vs l) n.toNat l.length).getD w []) = ((keyR (dsf n xs vs l) n.toNat l.length).getD v []))) false (by kernel_rfl) (nF c29) ?_)
                refine R.go 1 (R.want (!decide (((keyR (dsf n xs vs l) n.toNat l.length).getD w []) = ((keyR (dsf n xs vs l) n.toNat l.length).getD v []))) false (by kernel_rfl) (nF c29) ?_)
                refine R.call true (l01Bit_c (q : Int) (w : Int) (by omega) (by omega)) (by kernel_rfl) rfl (by kernel_rfl) ?_
                refine R.want (!decide (((keyR (dsf n xs vs l) n.toNat l.length).getD w []) = ((keyR (dsf n xs vs l) n.toNat l.length).getD v []))) false (by kernel_rfl) (nF c29) ?_
                refine R.go 1 (R.want (!decide (((keyR (dsf n xs vs l) n.toNat l.length).getD w []) = ((keyR (dsf n xs vs l) n.toNat l.length).getD v []))) false (by kernel_rfl) (nF c29) ?_)
                refine R.go 1 (R.want (!decide (((keyR (dsf n xs vs l) n.toNat l.length).getD w []) = ((keyR (dsf n xs vs l) n.toNat l.length).getD v []))) false (by kernel_rfl) (nF c29) ?_)
                refine R.call true (l01Bit_c (q : Int) (v : Int) (by omega) (by omega)) (by kernel_rfl) rfl (by kernel_rfl) ?_
                refine R.want (!decide (((keyR (dsf n xs vs l) n.toNat l.length).getD w []) = ((keyR (dsf n xs vs l) n.toNat l.length).getD v []))) false (by kernel_rfl) (nF c29) ?_
                refine R.go 1 (R.want (fc) true (by kernel_rfl) c28 ?_)
                refine R.pick (!decide (((keyR (dsf n xs vs l) n.toNat l.length).getD w []) = ((keyR (dsf n xs vs l) n.toNat l.length).getD v []))) false (by kernel_rfl) (nF c29) (by kernel_rfl) ?_
                refine R.pick (fc) true (by kernel_rfl) c28 (by kernel_rfl) ?_
                refine R.go 5 (R.ar ((v : Int) + 1) (by kernel_rfl) (by omega) (by omega) (by kernel_rfl) ?_)
                exact R.go 2 (R.stop R23 (by kernel_rfl) (N24 (v + 1, (decide (band (shr64 (q : Int) (w : Int)) 1 = 1)) == (decide (band (shr64 (q : Int) (v : Int)) 1 = 1))) [2, 6, 10, 11, 12, 13, 14] none _ (by kernel_rfl) (by kernel_rfl) ⟨(by omega), (by (refine fit_step (by assumption) ?_; first | exact fs_1 (by assumption) (by rw [← hkw, ← hkv]; assumption) hbw hbv | exact fs_2 (by assumption) (by rw [← hkw, ← hkv]; assumption) | exact fs_3 (by assumption)))⟩ (by show (w - (v + 1)) < (w - v); omega)))
              · refine R.skp (!decide (((keyR (dsf n xs vs l) n.toNat l.length).getD w []) = ((keyR (dsf n xs vs l) n.toNat l.length).getD v []))) false (by kernel_rfl) (nT c29) (by kernel_rfl) ?_
                refine R.skp (!decide (((keyR (dsf n xs vs l) n.toNat l.length).getD w []) = ((keyR (dsf n xs vs l) n.toNat l.length).getD v []))) false (by kernel_rfl) (nT c29) (by kernel_rfl) ?_
                refine R.skp (!decide (((keyR (dsf n xs vs l) n.toNat l.length).getD w []) = ((keyR (dsf n xs vs l) n.toNat l.length).getD v []))) false (by kernel_rfl) (nT c29) (by kernel_rfl) ?_
                refine R.skp (!decide (((keyR (dsf n xs vs l) n.toNat l.length).getD w []) = ((keyR (dsf n xs vs l) n.toNat l.length).getD v []))) false (by kernel_rfl) (nT c29) (by kernel_rfl) ?_
                refine R.skp (!decide (((keyR (dsf n xs vs l) n.toNat l.length).getD w []) = ((keyR (dsf n xs vs l) n.toNat l.length).getD v []))) false (by kernel_rfl) (nT c29) (by kernel_rfl) ?_
                refine R.skp (!decide (((keyR (dsf n xs vs l) n.toNat l.length).getD w []) = ((keyR (dsf n xs vs l) n.toNat l.length).getD v []))) false (by kernel_rfl) (nT c29) (by kernel_rfl) ?_
                refine R.skp (!decide (((keyR (dsf n xs vs l) n.toNat l.length).getD w []) = ((keyR (dsf n xs vs l) n.toNat l.length).getD v []))) false (by kernel_rfl) (nT c29) (by kernel_rfl) ?_
                refine R.want (fc) true (by kernel_rfl) c28 ?_
                refine R.pick (!decide (((keyR (dsf n xs vs l) n.toNat l.length).getD w []) = ((keyR (dsf n xs vs l) n.toNat l.length).getD v []))) true (by kernel_rfl) (nT c29) (by kernel_rfl) ?_
                refine R.pick (fc) true (by kernel_rfl) c28 (by kernel_rfl) ?_
                refine R.go 5 (R.ar ((v : Int) + 1) (by kernel_rfl) (by omega) (by omega) (by kernel_rfl) ?_)
                exact R.go 2 (R.stop R23 (by kernel_rfl) (N24 (v + 1, true) [2, 6, 10, 11, 12, 13, 14] none _ (by kernel_rfl) (by kernel_rfl) ⟨(by omega), (by (refine fit_step (by assumption) ?_; first | exact fs_1 (by assumption) (by rw [← hkw, ← hkv]; assumption) hbw hbv | exact fs_2 (by assumption) (by rw [← hkw, ← hkv]; assumption) | exact fs_3 (by assumption)))⟩ (by show (w - (v + 1)) < (w - v); omega)))
            · refine R.skp (fc) true (by kernel_rfl) c28 (by kernel_rfl) ?_
              refine R.skp (fc) true (by kernel_rfl) c28 (by kernel_rfl) ?_
              refine R.skp (fc) true (by kernel_rfl) c28 (by kernel_rfl) ?_
              refine R.skp (fc) true (by kernel_rfl) c28 (by kernel_rfl) ?_
              refine R.skp (fc) true (by kernel_rfl) c28 (by kernel_rfl) ?_
              refine R.skp (fc) true (by kernel_rfl) c28 (by kernel_rfl) ?_
              refine R.skp (fc) true (by kernel_rfl) c28 (by kernel_rfl) ?_
              refine R.skp (fc) true (by kernel_rfl) c28 (by kernel_rfl) ?_
              refine R.skp (fc) true (by kernel_rfl) c28 (by kernel_rfl) ?_
              refine R.skp (fc) true (by kernel_rfl) c28 (by kernel_rfl) ?_
              refine R.go 7 (R.skp (fc) true (by kernel_rfl) c28 (by kernel_rfl) ?_)
              refine R.pick (fc) false (by kernel_rfl) c28 (by kernel_rfl) ?_
              refine R.go 5 (R.ar ((v : Int) + 1) (by kernel_rfl) (by omega) (by omega) (by kernel_rfl) ?_)
              exact R.go 2 (R.stop R23 (by kernel_rfl) (N24 (v + 1, false) [2, 6, 10, 11, 12, 13, 14] none _ (by kernel_rfl) (by kernel_rfl) ⟨(by omega), (by (refine fit_step (by assumption) ?_; first | exact fs_1 (by assumption) (by rw [← hkw, ← hkv]; assumption) hbw hbv | exact fs_2 (by assumption) (by rw [← hkw, ← hkv]; assumption) | exact fs_3 (by assumption)))⟩ (by show (w - (v + 1)) < (w - v); omega)))
          · refine R.go 4 (R.ar ((w : Int) + 1) (by kernel_rfl) (by omega) (by omega) (by kernel_rfl) ?_)
            exact R.go 2 (R.stop R18 (by kernel_rfl) (N19 (w + 1, fc) [2, 6, 10, 11, 12, 13] none _ (by kernel_rfl) (by kernel_rfl) ⟨(by omega), (by (obtain rfl : v = w := (by omega); rw [fitW]; assumption))⟩ (by show (n.toNat - (w + 1)) < (n.toNat - w); omega)))
        · have hfb : fitB n.toNat (dsf n xs vs l) l.length q = fb := by rw [← fitW_all, ← show w = n.toNat by omega]; assumption
          refine R.go 5 (R.condB (fb) (by kernel_rfl) (fun c30 => ?_) (fun c30 => ?_))
          · refine R.go 4 (R.app eI (numF (fitB n.toNat (dsf n xs vs l) l.length) q) [(q : Int)] 2 2 1 8 (by kernel_rfl) eI_one (by decide) (by first | omega | (simp <;> omega)) (by kernel_rfl) ?_)
            refine R.go 5 (R.ar ((q : Int) + 1) (by kernel_rfl) (by omega) (by omega) (by kernel_rfl) ?_)
            exact R.go 2 (R.stop R13 (by kernel_rfl) (N14 (q + 1, (numF (fitB n.toNat (dsf n xs vs l) l.length) q) ++ [(q : Int)]) [2, 6, 10, 11] (some [0, 1, 2]) _ (by kernel_rfl) (by kernel_rfl) ⟨(by omega), (by first | exact numF_y (by rw [hfb]; assumption) | exact numF_n (by rw [hfb]; assumption))⟩ (by show (N - (q + 1)) < (N - q); omega)))
          · refine R.go 4 (R.ar ((q : Int) + 1) (by kernel_rfl) (by omega) (by omega) (by kernel_rfl) ?_)
            exact R.go 2 (R.stop R13 (by kernel_rfl) (N14 (q + 1, numF (fitB n.toNat (dsf n xs vs l) l.length) q) [2, 6, 10, 11] none _ (by kernel_rfl) (by kernel_rfl) ⟨(by omega), (by first | exact numF_y (by rw [hfb]; assumption) | exact numF_n (by rw [hfb]; assumption))⟩ (by show (N - (q + 1)) < (N - q); omega)))
      · exact R.go 7 (R.retE (.tup [ownA eI 2 1 (numF (fitB n.toNat (dsf n xs vs l) l.length) q), AI 0]) (by kernel_rfl) (by kernel_rfl) (by first | (first | (rw [hc1, hc2]; done) | (rw [hc1, hc2, show q = 2 ^ n.toNat by omega])) | (exfalso; omega)))

end Go.Proofs.Ytpalghbfhgimkaa


/-! The draw of definable sets; lists of numbers compared and searched. -/
namespace Go.Proofs.Ytpalghbfhgimkaa
open Go.RowKit Go.Abs

theorem drDef_c (c : List Int) (hc : BY c) : CallX Try.prog 19 [LB c] [] (fun (resX : AV) (objX : List AObj) => ∃ n : Int, ∃ xs : List Int, ∃ vs : List Int, ∃ l : List (List (Int × Int)), (xs.length ≤ 1000) ∧ (vs.length ≤ 6) ∧ (l.length ≤ 1000 ∧ ∀ j : Nat, (l.getD j []).length ≤ 1000) ∧ resX = .tup [.agg [AI n, LI xs, LI vs], LLN l] ∧ objX = []) := by
  have hcl : c.length ≤ 4096 := hc.1
  have hcb := hc.2
  refine CallX.dropE (CallX.ofF Try.func19 rfl (by kernel_rfl) ?_)
  intro usC frC hfC
  refine R.go 8 (R.enter (avs := [LB c]) Try.func47 rfl (by kernel_rfl) (by kernel_rfl) (by kernel_rfl) ?_)
  intro us1
  refine R.go 9 (R.cv .u64 (c.length : Int) (by kernel_rfl) (u64_id (by omega) (by omega)) (by kernel_rfl) ?_)
  refine R.go 11 (R.loop ((fun | (i, hh) => (⟨(frm 38 [(0, LB c), (3, .ptr 3 0), (4, AI (i : Int))]), [.frame usC frC, .box 34 [AI 0, .nil, .nil], .frame us1 (frm 26 [(0, LB c), (2, .ptr 1 0), (3, .nil), (8, LB c)]), .box 98 [LB c, AI 0, .int .u64 hh]]⟩ : St) : Nat × Int → St)) (fun | (i, hh) => i ≤ c.length) (fun | (i, hh) => c.length - i) (0, (IntKind.u64.wrap (7129 + (c.length : Int)))) [0, 3, 4] none (by kernel_rfl) (by kernel_rfl) (by kernel_rfl) (by omega) ?_)
  rintro ⟨i, hh⟩ h5_1 R2 N3
  refine R.go 8 ?_
  by_cases c6 : (i : Int) < (c.length : Int)
  · refine R.want (decide ((i : Int) < (c.length : Int))) true (by kernel_rfl) (dT c6) ?_
    refine R.go 1 (R.want (decide ((i : Int) < (c.length : Int))) true (by kernel_rfl) (dT c6) ?_)
    refine R.go 1 (R.pick (decide ((i : Int) < (c.length : Int))) true (by kernel_rfl) (dT c6) (by kernel_rfl) ?_)
    refine R.go 1 (R.cond ((i : Int) < 4096) (by kernel_rfl) (fun c7 => ?_) (fun c7 => ?_))
    · have hbi := hcb i (by omega)
      refine R.go 12 (R.idx eB c 0 i (i : Int) (by kernel_rfl) rfl eB_len (by omega) (by kernel_rfl) ?_)
      refine R.go 1 (R.cv .u64 (c.getD i 0) (by kernel_rfl) (u64_id (by omega) (by omega)) (by kernel_rfl) ?_)
      refine R.go 9 (R.ar ((i : Int) + 1) (by kernel_rfl) (by omega) (by omega) (by kernel_rfl) ?_)
      exact R.go 2 (R.stop R2 (by kernel_rfl) (N3 (i + 1, IntKind.u64.wrap ((IntKind.u64.wrap ((IntKind.u64.wrap (hh * 1099511628211)) + (c.getD i 0))) + 11)) [0, 3, 4] none _ (by kernel_rfl) (by kernel_rfl) (by omega) (by show (c.length - (i + 1)) < (c.length - i); omega)))
    · refine R.go 6 (R.back (.ptr 3 0) (frm 26 [(0, LB c), (2, .ptr 1 0), (3, .nil), (8, LB c)]) (by kernel_rfl) (by kernel_rfl) (by kernel_rfl) ?_)
      refine R.go 5 (R.deadF 2 (by kernel_rfl) (by kernel_rfl) ?_)
      refine R.callX (CallX.inF 0 usC frC (CallX.inF 1 [] [] (CallX.perm [1, 0] [1, 0] (CallX.box 1 34 [AI 0, .nil, .nil] (modelX_c_r1 c 0 hh 6 34 3 1 [AI 0, .nil, .nil] hc (by omega)) (by kernel_rfl) (by kernel_rfl) (by kernel_rfl) (by kernel_rfl) (by rintro _ _ ⟨_, _, _, _, _, _, _, rfl, rfl⟩; exact ⟨by kernel_rfl, by kernel_rfl, by kernel_rfl⟩)) (by kernel_rfl) (by kernel_rfl) (by kernel_rfl) (by rintro _ _ ⟨_, ⟨_, _, _, _, _, _, _, rfl, rfl⟩, rfl⟩; exact Nat.le_of_ble_eq_true (by kernel_rfl))) (Nat.le_of_ble_eq_true (by kernel_rfl)) (by kernel_rfl) (by kernel_rfl) (by rintro _ _ ⟨_, _, ⟨_, ⟨_, _, _, _, _, _, _, rfl, rfl⟩, rfl⟩, rfl, rfl⟩; exact Nat.le_of_ble_eq_true (by kernel_rfl))) (Nat.le_of_ble_eq_true (by kernel_rfl)) (by kernel_rfl) (by kernel_rfl) (by rintro _ _ ⟨_, _, ⟨_, _, ⟨_, ⟨_, _, _, _, _, _, _, rfl, rfl⟩, rfl⟩, rfl, rfl⟩, rfl, rfl⟩; exact Nat.le_of_ble_eq_true (by kernel_rfl))) (by kernel_rfl) (by kernel_rfl) (by kernel_rfl) ?_
      rintro _ _ ⟨_, _, ⟨_, _, ⟨_, _, ⟨_, ⟨n_8, xs_9, vs_10, p1_11, h1_12, f13, f14, rfl, rfl⟩, rfl⟩, rfl, rfl⟩, rfl, rfl⟩, rfl, rfl⟩
      refine R.go 12 (R.callX (CallX.inF 0 usC frC (CallX.inF 1 [] [] (CallX.perm [1, 0, 2, 3] [1, 0, 2, 3] (CallX.box 2 34 [AI n_8, LI xs_9, LI vs_10] (CallX.box 1 34 [AI 0, .nil, .nil] (nextX_c_r3 c p1_11 h1_12 4 34 3 1 [AI 0, .nil, .nil] 34 3 1 [AI n_8, LI xs_9, LI vs_10] 51 1 0 (rows eLN []) hc) (by kernel_rfl) (by kernel_rfl) (by kernel_rfl) (by kernel_rfl) (by rintro _ _ ⟨_, _, _, _, rfl, rfl⟩; exact ⟨by kernel_rfl, by kernel_rfl, by kernel_rfl⟩)) (by kernel_rfl) (by kernel_rfl) (by kernel_rfl) (by kernel_rfl) (by rintro _ _ ⟨_, ⟨_, _, _, _, rfl, rfl⟩, rfl⟩; exact ⟨by kernel_rfl, by kernel_rfl, by kernel_rfl⟩)) (by kernel_rfl) (by kernel_rfl) (by kernel_rfl) (by rintro _ _ ⟨_, ⟨_, ⟨_, _, _, _, rfl, rfl⟩, rfl⟩, rfl⟩; exact Nat.le_of_ble_eq_true (by kernel_rfl))) (Nat.le_of_ble_eq_true (by kernel_rfl)) (by kernel_rfl) (by kernel_rfl) (by rintro _ _ ⟨_, _, ⟨_, ⟨_, ⟨_, _, _, _, rfl, rfl⟩, rfl⟩, rfl⟩, rfl, rfl⟩; exact Nat.le_of_ble_eq_true (by kernel_rfl))) (Nat.le_of_ble_eq_true (by kernel_rfl)) (by kernel_rfl) (by kernel_rfl) (by rintro _ _ ⟨_, _, ⟨_, _, ⟨_, ⟨_, ⟨_, _, _, _, rfl, rfl⟩, rfl⟩, rfl⟩, rfl, rfl⟩, rfl, rfl⟩; exact Nat.le_of_ble_eq_true (by kernel_rfl))) (by kernel_rfl) (by kernel_rfl) (by kernel_rfl) ?_)
      rintro _ _ ⟨_, _, ⟨_, _, ⟨_, _, ⟨_, ⟨_, ⟨v_15, p1_16, h1_17, f18, rfl, rfl⟩, rfl⟩, rfl⟩, rfl, rfl⟩, rfl, rfl⟩, rfl, rfl⟩
      refine R.go 3 (R.loop ((fun | (k, l, q, hs) => (⟨(frm 26 [(2, .ptr 1 0), (4, .ptr 2 0), (5, .ptr 3 0), (6, .ref 4), (7, AI k)]), [.frame usC frC, .box 34 [AI 0, .nil, .nil], .box 98 [LB c, AI (q : Int), .int .u64 hs], .box 34 [AI n_8, LI xs_9, LI vs_10], rowA eLN 51 1 l]⟩ : St) : Int × (List (List (Int × Int))) × Nat × Int → St)) (fun | (k, l, q, hs) => (0 ≤ k) ∧ (k ≤ 4) ∧ ((l.length : Int) ≤ 4 - k) ∧ (∀ j : Nat, (l.getD j []).length ≤ 1000)) (fun | (k, l, q, hs) => k.toNat) (v_15, [], p1_16, h1_17) [2, 4, 5, 6, 7] (some [0, 1, 3, 4, 5]) (by kernel_rfl) (by kernel_rfl) (canonF (fr := frC) (fun (frX : List AV) => (⟨(frm 26 [(2, .ptr 1 0), (4, .ptr 2 0), (5, .ptr 3 0), (6, .ref 4), (7, AI v_15)]), [.frame usC frX, .box 34 [AI 0, .nil, .nil], .box 98 [LB c, AI (p1_16 : Int), .int .u64 h1_17], .box 34 [AI n_8, LI xs_9, LI vs_10], rowA eLN 51 1 []]⟩ : St)) (hfC.ren _ (by kernel_rfl)) (by kernel_rfl) (by kernel_rfl)) ⟨(by omega), (by omega), (by (simp; omega)), (by (intro j; simp))⟩ ?_)
      rintro ⟨k, l, q, hs⟩ ⟨h22_1, h22_2, h22_3, h22_4⟩ R19 N20
      refine R.go 6 (R.cond (k > 0) (by kernel_rfl) (fun c23 => ?_) (fun c23 => ?_))
      · refine R.go 6 (R.callX (CallX.inF 0 usC frC (CallX.perm [1, 0, 2, 3] [1, 0, 2, 3] (CallX.box 2 34 [AI n_8, LI xs_9, LI vs_10] (CallX.box 1 34 [AI 0, .nil, .nil] (anyX_c_r3 c q hs 6 2 true 34 3 1 [AI 0, .nil, .nil] 34 3 1 [AI n_8, LI xs_9, LI vs_10] 51 1 l.length (rows eLN l) hc (by omega)) (by kernel_rfl) (by kernel_rfl) (by kernel_rfl) (by kernel_rfl) (by rintro _ _ ⟨_, _, _, _, rfl, rfl⟩; exact ⟨by kernel_rfl, by kernel_rfl, by kernel_rfl⟩)) (by kernel_rfl) (by kernel_rfl) (by kernel_rfl) (by kernel_rfl) (by rintro _ _ ⟨_, ⟨_, _, _, _, rfl, rfl⟩, rfl⟩; exact ⟨by kernel_rfl, by kernel_rfl, by kernel_rfl⟩)) (by kernel_rfl) (by kernel_rfl) (by kernel_rfl) (by rintro _ _ ⟨_, ⟨_, ⟨_, _, _, _, rfl, rfl⟩, rfl⟩, rfl⟩; exact Nat.le_of_ble_eq_true (by kernel_rfl))) (Nat.le_of_ble_eq_true (by kernel_rfl)) (by kernel_rfl) (by kernel_rfl) (by rintro _ _ ⟨_, _, ⟨_, ⟨_, ⟨_, _, _, _, rfl, rfl⟩, rfl⟩, rfl⟩, rfl, rfl⟩; exact Nat.le_of_ble_eq_true (by kernel_rfl))) (by kernel_rfl) (by kernel_rfl) (by kernel_rfl) ?_)
        rintro _ _ ⟨_, _, ⟨_, _, ⟨_, ⟨_, ⟨r_24, p1_25, h1_26, f27, rfl, rfl⟩, rfl⟩, rfl⟩, rfl, rfl⟩, rfl, rfl⟩
        refine R.go 1 (R.app eLN l [r_24] 4 51 1 24 (by kernel_rfl) eLN_one (by decide) (by first | omega | (simp <;> omega)) (by kernel_rfl) ?_)
        refine R.kfix 0 (us := usC) (by kernel_rfl) (hfC.kill 4 (Nat.le_of_ble_eq_true (by kernel_rfl))) ?_
        refine R.go 5 (R.ar (k - 1) (by kernel_rfl) (by omega) (by omega) (by kernel_rfl) ?_)
        exact R.go 2 (R.stop R19 (by kernel_rfl) (N20 (k - 1, l ++ [r_24], p1_25, h1_26) [2, 4, 5, 6, 7] (some [0, 1, 2, 3, 4]) _ (by kernel_rfl) (canonF (fr := frC) (fun (frX : List AV) => (⟨(frm 26 [(2, .ptr 1 0), (4, .ptr 2 0), (5, .ptr 3 0), (6, .ref 4), (7, AI (k - 1))]), [.frame usC frX, .box 34 [AI 0, .nil, .nil], .box 98 [LB c, AI (p1_25 : Int), .int .u64 h1_26], .box 34 [AI n_8, LI xs_9, LI vs_10], rowA eLN 51 1 (l ++ [r_24])]⟩ : St)) (hfC.ren _ (by kernel_rfl)) (by kernel_rfl) (by kernel_rfl)) ⟨(by omega), (by omega), (by (simp only [List.length_append, List.length_cons, List.length_nil]; omega)), (by exact getL_app ‹∀ j : Nat, (l.getD j []).length ≤ 1000› (by assumption))⟩ (by show ((k - 1).toNat) < k.toNat; omega)))
      · refine R.go 8 (R.frz 4 (by kernel_rfl) ?_)
        refine R.kfix 0 (us := usC) (by kernel_rfl) (hfC.frz 4 (LLN l) (Nat.le_of_ble_eq_true (by kernel_rfl))) ?_
        exact R.retX (res := .tup [.agg [AI n_8, LI xs_9, LI vs_10], LLN l]) (hp' := [.dead, .box 34 [AI n_8, LI xs_9, LI vs_10], .box 98 [LB c, AI (q : Int), .int .u64 hs], .box 34 [AI n_8, LI xs_9, LI vs_10], .dead]) (by kernel_rfl) (by kernel_rfl) (by kernel_rfl) (by kernel_rfl) ⟨[], by kernel_rfl, by decide, n_8, xs_9, vs_10, l, by first | assumption | exact ⟨by omega, by assumption⟩ | omega, by first | assumption | exact ⟨by omega, by assumption⟩ | omega, by first | assumption | exact ⟨by omega, by assumption⟩ | omega, by kernel_rfl, by kernel_rfl⟩
  · refine R.skp (decide ((i : Int) < (c.length : Int))) true (by kernel_rfl) (dF c6) (by kernel_rfl) ?_
    refine R.skp (decide ((i : Int) < (c.length : Int))) true (by kernel_rfl) (dF c6) (by kernel_rfl) ?_
    refine R.pick (decide ((i : Int) < (c.length : Int))) false (by kernel_rfl) (dF c6) (by kernel_rfl) ?_
    refine R.go 8 (R.back (.ptr 3 0) (frm 26 [(0, LB c), (2, .ptr 1 0), (3, .nil), (8, LB c)]) (by kernel_rfl) (by kernel_rfl) (by kernel_rfl) ?_)
    refine R.go 5 (R.deadF 2 (by kernel_rfl) (by kernel_rfl) ?_)
    refine R.callX (CallX.inF 0 usC frC (CallX.inF 1 [] [] (CallX.perm [1, 0] [1, 0] (CallX.box 1 34 [AI 0, .nil, .nil] (modelX_c_r1 c 0 hh 6 34 3 1 [AI 0, .nil, .nil] hc (by omega)) (by kernel_rfl) (by kernel_rfl) (by kernel_rfl) (by kernel_rfl) (by rintro _ _ ⟨_, _, _, _, _, _, _, rfl, rfl⟩; exact ⟨by kernel_rfl, by kernel_rfl, by kernel_rfl⟩)) (by kernel_rfl) (by kernel_rfl) (by kernel_rfl) (by rintro _ _ ⟨_, ⟨_, _, _, _, _, _, _, rfl, rfl⟩, rfl⟩; exact Nat.le_of_ble_eq_true (by kernel_rfl))) (Nat.le_of_ble_eq_true (by kernel_rfl)) (by kernel_rfl) (by kernel_rfl) (by rintro _ _ ⟨_, _, ⟨_, ⟨_, _, _, _, _, _, _, rfl, rfl⟩, rfl⟩, rfl, rfl⟩; exact Nat.le_of_ble_eq_true (by kernel_rfl))) (Nat.le_of_ble_eq_true (by kernel_rfl)) (by kernel_rfl) (by kernel_rfl) (by rintro _ _ ⟨_, _, ⟨_, _, ⟨_, ⟨_, _, _, _, _, _, _, rfl, rfl⟩, rfl⟩, rfl, rfl⟩, rfl, rfl⟩; exact Nat.le_of_ble_eq_true (by kernel_rfl))) (by kernel_rfl) (by kernel_rfl) (by kernel_rfl) ?_
    rintro _ _ ⟨_, _, ⟨_, _, ⟨_, _, ⟨_, ⟨n_28, xs_29, vs_30, p1_31, h1_32, f33, f34, rfl, rfl⟩, rfl⟩, rfl, rfl⟩, rfl, rfl⟩, rfl, rfl⟩
    refine R.go 12 (R.callX (CallX.inF 0 usC frC (CallX.inF 1 [] [] (CallX.perm [1, 0, 2, 3] [1, 0, 2, 3] (CallX.box 2 34 [AI n_28, LI xs_29, LI vs_30] (CallX.box 1 34 [AI 0, .nil, .nil] (nextX_c_r3 c p1_31 h1_32 4 34 3 1 [AI 0, .nil, .nil] 34 3 1 [AI n_28, LI xs_29, LI vs_30] 51 1 0 (rows eLN []) hc) (by kernel_rfl) (by kernel_rfl) (by kernel_rfl) (by kernel_rfl) (by rintro _ _ ⟨_, _, _, _, rfl, rfl⟩; exact ⟨by kernel_rfl, by kernel_rfl, by kernel_rfl⟩)) (by kernel_rfl) (by kernel_rfl) (by kernel_rfl) (by kernel_rfl) (by rintro _ _ ⟨_, ⟨_, _, _, _, rfl, rfl⟩, rfl⟩; exact ⟨by kernel_rfl, by kernel_rfl, by kernel_rfl⟩)) (by kernel_rfl) (by kernel_rfl) (by kernel_rfl) (by rintro _ _ ⟨_, ⟨_, ⟨_, _, _, _, rfl, rfl⟩, rfl⟩, rfl⟩; exact Nat.le_of_ble_eq_true (by kernel_rfl))) (Nat.le_of_ble_eq_true (by kernel_rfl)) (by kernel_rfl) (by kernel_rfl) (by rintro _ _ ⟨_, _, ⟨_, ⟨_, ⟨_, _, _, _, rfl, rfl⟩, rfl⟩, rfl⟩, rfl, rfl⟩; exact Nat.le_of_ble_eq_true (by kernel_rfl))) (Nat.le_of_ble_eq_true (by kernel_rfl)) (by kernel_rfl) (by kernel_rfl) (by rintro _ _ ⟨_, _, ⟨_, _, ⟨_, ⟨_, ⟨_, _, _, _, rfl, rfl⟩, rfl⟩, rfl⟩, rfl, rfl⟩, rfl, rfl⟩; exact Nat.le_of_ble_eq_true (by kernel_rfl))) (by kernel_rfl) (by kernel_rfl) (by kernel_rfl) ?_)
    rintro _ _ ⟨_, _, ⟨_, _, ⟨_, _, ⟨_, ⟨_, ⟨v_35, p1_36, h1_37, f38, rfl, rfl⟩, rfl⟩, rfl⟩, rfl, rfl⟩, rfl, rfl⟩, rfl, rfl⟩
    refine R.go 3 (R.loop ((fun | (k, l, q, hs) => (⟨(frm 26 [(2, .ptr 1 0), (4, .ptr 2 0), (5, .ptr 3 0), (6, .ref 4), (7, AI k)]), [.frame usC frC, .box 34 [AI 0, .nil, .nil], .box 98 [LB c, AI (q : Int), .int .u64 hs], .box 34 [AI n_28, LI xs_29, LI vs_30], rowA eLN 51 1 l]⟩ : St) : Int × (List (List (Int × Int))) × Nat × Int → St)) (fun | (k, l, q, hs) => (0 ≤ k) ∧ (k ≤ 4) ∧ ((l.length : Int) ≤ 4 - k) ∧ (∀ j : Nat, (l.getD j []).length ≤ 1000)) (fun | (k, l, q, hs) => k.toNat) (v_35, [], p1_36, h1_37) [2, 4, 5, 6, 7] (some [0, 1, 3, 4, 5]) (by kernel_rfl) (by kernel_rfl) (canonF (fr := frC) (fun (frX : List AV) => (⟨(frm 26 [(2, .ptr 1 0), (4, .ptr 2 0), (5, .ptr 3 0), (6, .ref 4), (7, AI v_35)]), [.frame usC frX, .box 34 [AI 0, .nil, .nil], .box 98 [LB c, AI (p1_36 : Int), .int .u64 h1_37], .box 34 [AI n_28, LI xs_29, LI vs_30], rowA eLN 51 1 []]⟩ : St)) (hfC.ren _ (by kernel_rfl)) (by kernel_rfl) (by kernel_rfl)) ⟨(by omega), (by omega), (by (simp; omega)), (by (intro j; simp))⟩ ?_)
    rintro ⟨k, l, q, hs⟩ ⟨h42_1, h42_2, h42_3, h42_4⟩ R39 N40
    refine R.go 6 (R.cond (k > 0) (by kernel_rfl) (fun c43 => ?_) (fun c43 => ?_))
    · refine R.go 6 (R.callX (CallX.inF 0 usC frC (CallX.perm [1, 0, 2, 3] [1, 0, 2, 3] (CallX.box 2 34 [AI n_28, LI xs_29, LI vs_30] (CallX.box 1 34 [AI 0, .nil, .nil] (anyX_c_r3 c q hs 6 2 true 34 3 1 [AI 0, .nil, .nil] 34 3 1 [AI n_28, LI xs_29, LI vs_30] 51 1 l.length (rows eLN l) hc (by omega)) (by kernel_rfl) (by kernel_rfl) (by kernel_rfl) (by kernel_rfl) (by rintro _ _ ⟨_, _, _, _, rfl, rfl⟩; exact ⟨by kernel_rfl, by kernel_rfl, by kernel_rfl⟩)) (by kernel_rfl) (by kernel_rfl) (by kernel_rfl) (by kernel_rfl) (by rintro _ _ ⟨_, ⟨_, _, _, _, rfl, rfl⟩, rfl⟩; exact ⟨by kernel_rfl, by kernel_rfl, by kernel_rfl⟩)) (by kernel_rfl) (by kernel_rfl) (by kernel_rfl) (by rintro _ _ ⟨_, ⟨_, ⟨_, _, _, _, rfl, rfl⟩, rfl⟩, rfl⟩; exact Nat.le_of_ble_eq_true (by kernel_rfl))) (Nat.le_of_ble_eq_true (by kernel_rfl)) (by kernel_rfl) (by kernel_rfl) (by rintro _ _ ⟨_, _, ⟨_, ⟨_, ⟨_, _, _, _, rfl, rfl⟩, rfl⟩, rfl⟩, rfl, rfl⟩; exact Nat.le_of_ble_eq_true (by kernel_rfl))) (by kernel_rfl) (by kernel_rfl) (by kernel_rfl) ?_)
      rintro _ _ ⟨_, _, ⟨_, _, ⟨_, ⟨_, ⟨r_44, p1_45, h1_46, f47, rfl, rfl⟩, rfl⟩, rfl⟩, rfl, rfl⟩, rfl, rfl⟩
      refine R.go 1 (R.app eLN l [r_44] 4 51 1 24 (by kernel_rfl) eLN_one (by decide) (by first | omega | (simp <;> omega)) (by kernel_rfl) ?_)
      refine R.kfix 0 (us := usC) (by kernel_rfl) (hfC.kill 4 (Nat.le_of_ble_eq_true (by kernel_rfl))) ?_
      refine R.go 5 (R.ar (k - 1) (by kernel_rfl) (by omega) (by omega) (by kernel_rfl) ?_)
      exact R.go 2 (R.stop R39 (by kernel_rfl) (N40 (k - 1, l ++ [r_44], p1_45, h1_46) [2, 4, 5, 6, 7] (some [0, 1, 2, 3, 4]) _ (by kernel_rfl) (canonF (fr := frC) (fun (frX : List AV) => (⟨(frm 26 [(2, .ptr 1 0), (4, .ptr 2 0), (5, .ptr 3 0), (6, .ref 4), (7, AI (k - 1))]), [.frame usC frX, .box 34 [AI 0, .nil, .nil], .box 98 [LB c, AI (p1_45 : Int), .int .u64 h1_46], .box 34 [AI n_28, LI xs_29, LI vs_30], rowA eLN 51 1 (l ++ [r_44])]⟩ : St)) (hfC.ren _ (by kernel_rfl)) (by kernel_rfl) (by kernel_rfl)) ⟨(by omega), (by omega), (by (simp only [List.length_append, List.length_cons, List.length_nil]; omega)), (by exact getL_app ‹∀ j : Nat, (l.getD j []).length ≤ 1000› (by assumption))⟩ (by show ((k - 1).toNat) < k.toNat; omega)))
    · refine R.go 8 (R.frz 4 (by kernel_rfl) ?_)
      refine R.kfix 0 (us := usC) (by kernel_rfl) (hfC.frz 4 (LLN l) (Nat.le_of_ble_eq_true (by kernel_rfl))) ?_
      exact R.retX (res := .tup [.agg [AI n_28, LI xs_29, LI vs_30], LLN l]) (hp' := [.dead, .box 34 [AI n_28, LI xs_29, LI vs_30], .box 98 [LB c, AI (q : Int), .int .u64 hs], .box 34 [AI n_28, LI xs_29, LI vs_30], .dead]) (by kernel_rfl) (by kernel_rfl) (by kernel_rfl) (by kernel_rfl) ⟨[], by kernel_rfl, by decide, n_28, xs_29, vs_30, l, by first | assumption | exact ⟨by omega, by assumption⟩ | omega, by first | assumption | exact ⟨by omega, by assumption⟩ | omega, by first | assumption | exact ⟨by omega, by assumption⟩ | omega, by kernel_rfl, by kernel_rfl⟩

theorem take_stepI (a b : List Int) (i : Nat) (ha : i < a.length) (hb : i < b.length) (h : a.take i = b.take i) (e : a.getD i 0 = b.getD i 0) : a.take (i + 1) = b.take (i + 1) := take_step a b 0 i ha hb h e
theorem mem_none {l : List Int} {x : Int} {i : Nat} (hi : i = l.length) (h : ∀ j : Nat, j < i → ¬ l.getD j 0 = x) : ¬ x ∈ l := fun hx => by
  obtain ⟨j, hj, e⟩ := List.getElem_of_mem hx
  refine h j (by omega) ?_
  rw [List.getD_eq_getElem?_getD, List.getElem?_eq_getElem hj]
  exact e
theorem belowN {P : Nat → Prop} {i : Nat} (h : ∀ j : Nat, j < i → P j) (hi : P i) : ∀ j : Nat, j < i + 1 → P j := fun j hj => by
  by_cases e : j = i
  · subst e; exact hi
  · exact h j (by omega)

theorem likeInts_c (a : List Int) (b : List Int) (la : a.length ≤ 1000000000) : CallA Try.prog 20 [LI a, LI b] (.bool (decide (a = b))) := by
  refine CallA.of Try.func20 rfl (by kernel_rfl) ?_
  refine R.go 13 (R.condN ((a.length : Int) = (b.length : Int)) (by kernel_rfl) (fun c1 => ?_) (fun c1 => ?_))
  · exact R.go 4 (R.retE (.bool false) (by kernel_rfl) (by kernel_rfl) (by first | (first | (rw [dF (fun h => by subst h; omega)]) | (rw [dT (take_all (i := i) (by omega) (by omega) (by assumption))]) | (rw [dF (fun h => by subst h; exact absurd rfl (by assumption))])) | (exfalso; omega)))
  · refine R.go 7 (R.loop (fun (i : Nat) => (⟨(frm 26 [(0, LI a), (1, LI b), (5, AI (i : Int))]), []⟩ : St)) (fun (i : Nat) => (i ≤ a.length) ∧ (a.take i = b.take i)) (fun (i : Nat) => a.length - i) 0 [0, 1, 5] none (by kernel_rfl) (by kernel_rfl) (by kernel_rfl) ⟨(by omega), (by rfl)⟩ ?_)
    rintro i ⟨h4_1, h4_2⟩ R2 N3
    refine R.go 8 (R.cond ((i : Int) < (a.length : Int)) (by kernel_rfl) (fun c5 => ?_) (fun c5 => ?_))
    · refine R.go 7 (R.idx eI a 0 i (i : Int) (by kernel_rfl) rfl eI_len (by omega) (by kernel_rfl) ?_)
      refine R.go 3 (R.idx eI b 0 i (i : Int) (by kernel_rfl) rfl eI_len (by omega) (by kernel_rfl) ?_)
      refine R.go 3 (R.condN ((a.getD i 0) = (b.getD i 0)) (by kernel_rfl) (fun c6 => ?_) (fun c6 => ?_))
      · exact R.go 4 (R.retE (.bool false) (by kernel_rfl) (by kernel_rfl) (by first | (first | (rw [dF (fun h => by subst h; omega)]) | (rw [dT (take_all (i := i) (by omega) (by omega) (by assumption))]) | (rw [dF (fun h => by subst h; exact absurd rfl (by assumption))])) | (exfalso; omega)))
      · refine R.go 4 (R.ar ((i : Int) + 1) (by kernel_rfl) (by omega) (by omega) (by kernel_rfl) ?_)
        exact R.go 2 (R.stop R2 (by kernel_rfl) (N3 (i + 1) [0, 1, 5] none _ (by kernel_rfl) (by kernel_rfl) ⟨(by omega), (by exact take_stepI a b i (by omega) (by omega) (by assumption) (by assumption))⟩ (by show (a.length - (i + 1)) < (a.length - i); omega)))
    · exact R.go 5 (R.retE (.bool true) (by kernel_rfl) (by kernel_rfl) (by first | (first | (rw [dF (fun h => by subst h; omega)]) | (rw [dT (take_all (i := i) (by omega) (by omega) (by assumption))]) | (rw [dF (fun h => by subst h; exact absurd rfl (by assumption))])) | (exfalso; omega)))

theorem hasInt_c (l : List Int) (x : Int) (ll : l.length ≤ 1000000000) : CallA Try.prog 22 [LI l, AI x] (.bool (decide (x ∈ l))) := by
  refine CallA.of Try.func22 rfl (by kernel_rfl) ?_
  refine R.go 10 (R.loop (fun (i : Nat) => (⟨(frm 18 [(0, LI l), (1, AI x), (5, AI (i : Int))]), []⟩ : St)) (fun (i : Nat) => (i ≤ l.length) ∧ (∀ j : Nat, j < i → ¬ l.getD j 0 = x)) (fun (i : Nat) => l.length - i) 0 [0, 1, 5] none (by kernel_rfl) (by kernel_rfl) (by kernel_rfl) ⟨(by omega), (by exact fun j hj => absurd hj (by omega))⟩ ?_)
  rintro i ⟨h3_1, h3_2⟩ R1 N2
  refine R.go 8 (R.cond ((i : Int) < (l.length : Int)) (by kernel_rfl) (fun c4 => ?_) (fun c4 => ?_))
  · refine R.go 7 (R.idx eI l 0 i (i : Int) (by kernel_rfl) rfl eI_len (by omega) (by kernel_rfl) ?_)
    refine R.go 4 (R.cond ((l.getD i 0) = x) (by kernel_rfl) (fun c5 => ?_) (fun c5 => ?_))
    · exact R.go 4 (R.retE (.bool true) (by kernel_rfl) (by kernel_rfl) (by first | (first | (rw [dF (mem_none (i := i) (by omega) (by assumption))]) | (rw [dT (by rw [← ‹l.getD i 0 = x›]; exact getD_mem (by omega))])) | (exfalso; omega)))
    · refine R.go 4 (R.ar ((i : Int) + 1) (by kernel_rfl) (by omega) (by omega) (by kernel_rfl) ?_)
      exact R.go 2 (R.stop R1 (by kernel_rfl) (N2 (i + 1) [0, 1, 5] none _ (by kernel_rfl) (by kernel_rfl) ⟨(by omega), (by exact belowN (P := fun j => ¬ l.getD j 0 = x) (by assumption) (by assumption))⟩ (by show (l.length - (i + 1)) < (l.length - i); omega)))
  · exact R.go 5 (R.retE (.bool false) (by kernel_rfl) (by kernel_rfl) (by first | (first | (rw [dF (mem_none (i := i) (by omega) (by assumption))]) | (rw [dT (by rw [← ‹l.getD i 0 = x›]; exact getD_mem (by omega))])) | (exfalso; omega)))

end Go.Proofs.Ytpalghbfhgimkaa


/-! Definable sets: what the law needs (no program). -/
namespace Go.Proofs.Ytpalghbfhgimkaa
open Go.RowKit Go.Abs

theorem ky_at {f : Nat → Int} {w v : Nat} : ∀ {k : Nat}, kyF f w k = kyF f v k → ∀ i : Nat, i < k → tb (f i) w = tb (f i) v
  | 0, _, i, hi => absurd hi (by omega)
  | k + 1, h, i, hi => by
    simp only [kyF] at h
    obtain ⟨h1, h2⟩ := List.append_inj' h rfl
    by_cases e : i = k
    · subst e; simpa using h2
    · exact ky_at h1 i (by omega)
theorem dsR_mem {n : Int} {xs vs : List Int} {l : List (List (Int × Int))} (h0 : dsC n xs vs l = 0) {x : Int} : x ∈ dsR n xs vs l ↔ InM n.toNat x ∧ ∀ w, w < n.toNat → ∀ v, v < n.toNat → kyF (dsf n xs vs l) w l.length = kyF (dsf n xs vs l) v l.length → tb x w = tb x v := by
  rw [dsR, if_pos h0, numF_mem, fitB_iff]
  unfold InM
  constructor
  · rintro ⟨h1, h2, h3⟩
    rw [Int.toNat_of_nonneg h1] at h3
    exact ⟨⟨h1, by omega⟩, h3⟩
  · rintro ⟨⟨h1, h2⟩, h3⟩
    refine ⟨h1, by omega, ?_⟩
    rw [Int.toNat_of_nonneg h1]
    exact h3
theorem dsC_ok {n : Int} {xs vs : List Int} {l : List (List (Int × Int))} (h0 : dsC n xs vs l = 0) : okMo n xs vs = true ∧ allF l = true := by
  unfold dsC at h0
  split at h0
  · assumption
  · cases h0
theorem ds_zero {n : Int} {xs vs : List Int} {l : List (List (Int × Int))} (h0 : dsC n xs vs l = 0) : 0 ∈ dsR n xs vs l := (dsR_mem h0).2 ⟨inM_zero _, fun w _ v _ _ => by rw [tb_zero, tb_zero]⟩
theorem ds_formula {n : Int} {xs vs : List Int} {l : List (List (Int × Int))} (h0 : dsC n xs vs l = 0) {i : Nat} (hi : i < l.length) : tset n xs vs (l.getD i []) ∈ dsR n xs vs l := by
  obtain ⟨hM, hA⟩ := dsC_ok h0
  refine (dsR_mem h0).2 ⟨dsf_in hM (okMo_in hM) (i := l.length) (fun j hj => allF_get hA j hj) i hi, fun w _ v _ e => ky_at e i hi⟩
theorem ds_n {n : Int} {xs vs : List Int} {l : List (List (Int × Int))} (h0 : dsC n xs vs l = 0) : 0 ≤ n ∧ n ≤ 8 := by
  have := okFr_rel (okMo_fr (dsC_ok h0).1).1
  exact ⟨this.1, this.2.1⟩
theorem ds_or {n : Int} {xs vs : List Int} {l : List (List (Int × Int))} (h0 : dsC n xs vs l = 0) {x y : Int} (hx : x ∈ dsR n xs vs l) (hy : y ∈ dsR n xs vs l) : bor x y ∈ dsR n xs vs l := by
  have h8 := ds_n h0
  obtain ⟨x1, x2⟩ := (dsR_mem h0).1 hx
  obtain ⟨y1, y2⟩ := (dsR_mem h0).1 hy
  refine (dsR_mem h0).2 ⟨inM_bor (by omega) x1 y1, fun w hw v hv e => ?_⟩
  rw [tb_bor (by omega) x1 y1, tb_bor (by omega) x1 y1, x2 w hw v hv e, y2 w hw v hv e]
theorem ds_not {n : Int} {xs vs : List Int} {l : List (List (Int × Int))} (h0 : dsC n xs vs l = 0) {x : Int} (hx : x ∈ dsR n xs vs l) : bnot ((shl64 1 n) - 1) x ∈ dsR n xs vs l := by
  have h8 := ds_n h0
  obtain ⟨x1, x2⟩ := (dsR_mem h0).1 hx
  have hf : InM n.toNat ((shl64 1 n) - 1) := by
    have := inM_full (n := n.toNat) (by omega)
    rwa [Int.toNat_of_nonneg h8.1] at this
  have hft : ∀ w, w < n.toNat → tb ((shl64 1 n) - 1) w = true := fun w hw => by
    have := tb_full (n := n.toNat) (by omega) w
    rw [Int.toNat_of_nonneg h8.1] at this
    rw [this]; simpa using hw
  refine (dsR_mem h0).2 ⟨inM_bnot (by omega) hf x1, fun w hw v hv e => ?_⟩
  rw [tb_bnot (by omega) hf x1, tb_bnot (by omega) hf x1, hft w hw, hft v hv, x2 w hw v hv e]

end Go.Proofs.Ytpalghbfhgimkaa


/-! Dice of the laws: a roll, and a number below another one. -/
namespace Go.Proofs.Ytpalghbfhgimkaa
open Go.RowKit Go.Abs

theorem belowX_c_r1 (c : List Int) (p : Nat) (h : Int) (n : Int) (eo1 : Nat) (so1 : Nat) (no1 : Nat) (co1 : List AV) (hc : BY c) : CallX Try.prog 24 [.ptr 0 0, AI n] [.box 81 [LB c, AI (p : Int), .int .u64 h], .list eo1 so1 no1 co1] (fun (resX : AV) (objX : List AObj) => ∃ v : Int, ∃ p1 : Nat, ∃ h1 : Int, ((n < 1 → v = 0) ∧ (1 ≤ n → 0 ≤ v ∧ v < n)) ∧ resX = AI v ∧ objX = [.box 81 [LB c, AI (p1 : Int), .int .u64 h1], .list eo1 so1 no1 co1]) := by
  have hcl : c.length ≤ 4096 := hc.1
  have hcb := hc.2
  have hxr := fun h => u64and (shr64 (IntKind.u64.wrap (IntKind.u64.wrap (h * 6364136223846793005) + 1442695040888963407)) 33)
  have hxh := hxr h
  refine CallX.dropE (CallX.ofF Try.func24 rfl (by kernel_rfl) ?_)
  intro usC frC hfC
  refine R.go 10 (R.cond (n < 1) (by kernel_rfl) (fun c1 => ?_) (fun c1 => ?_))
  · exact R.go 4 (R.retX (res := AI 0) (hp' := [.box 81 [LB c, AI (p : Int), .int .u64 h], .list eo1 so1 no1 co1, .dead]) (by kernel_rfl) (by kernel_rfl) (by kernel_rfl) (by kernel_rfl) ⟨[0, 1], by kernel_rfl, by decide, 0, p, h, by first | exact mod_rng (by assumption) | exact ⟨fun _ => rfl, fun h1 => by omega⟩, by kernel_rfl, by kernel_rfl⟩)
  · refine R.go 22 (R.cv .i64 (bits .and .u64 (shr64 (IntKind.u64.wrap ((IntKind.u64.wrap (h * 6364136223846793005)) + 1442695040888963407)) 33) 16777215) (by kernel_rfl) (wrap_id (by omega) (by omega)) (by kernel_rfl) ?_)
    refine R.go 16 (R.cond ((p : Int) < (c.length : Int)) (by kernel_rfl) (fun c2 => ?_) (fun c2 => ?_))
    · have hbp := hcb p (by omega)
      refine R.go 11 (R.idx eB c 0 p (p : Int) (by kernel_rfl) rfl eB_len (by omega) (by kernel_rfl) ?_)
      refine R.go 1 (R.cv .i64 (c.getD p 0) (by kernel_rfl) (wrap_id (by omega) (by omega)) (by kernel_rfl) ?_)
      refine R.ar ((bits .and .u64 (shr64 (IntKind.u64.wrap ((IntKind.u64.wrap (h * 6364136223846793005)) + 1442695040888963407)) 33) 16777215) + (c.getD p 0)) (by kernel_rfl) (by omega) (by omega) (by kernel_rfl) ?_
      refine R.go 8 (R.ar ((p : Int) + 1) (by kernel_rfl) (by omega) (by omega) (by kernel_rfl) ?_)
      refine R.go 8 (R.rem ((bits .and .u64 (shr64 (IntKind.u64.wrap ((IntKind.u64.wrap (h * 6364136223846793005)) + 1442695040888963407)) 33) 16777215) + (c.getD p 0)) n (by kernel_rfl) (by omega) (by omega) (by kernel_rfl) ?_)
      exact R.go 2 (R.retX (res := AI (((bits .and .u64 (shr64 (IntKind.u64.wrap ((IntKind.u64.wrap (h * 6364136223846793005)) + 1442695040888963407)) 33) 16777215) + (c.getD p 0)) % n)) (hp' := [.box 81 [LB c, AI ((p : Int) + 1), .int .u64 (IntKind.u64.wrap ((IntKind.u64.wrap (h * 6364136223846793005)) + 1442695040888963407))], .list eo1 so1 no1 co1, .dead]) (by kernel_rfl) (by kernel_rfl) (by kernel_rfl) (by kernel_rfl) ⟨[0, 1], by kernel_rfl, by decide, ((bits .and .u64 (shr64 (IntKind.u64.wrap ((IntKind.u64.wrap (h * 6364136223846793005)) + 1442695040888963407)) 33) 16777215) + (c.getD p 0)) % n, p + 1, IntKind.u64.wrap ((IntKind.u64.wrap (h * 6364136223846793005)) + 1442695040888963407), by first | exact mod_rng (by assumption) | exact ⟨fun _ => rfl, fun h1 => by omega⟩, by kernel_rfl, by kernel_rfl⟩)
    · refine R.go 5 (R.rem (bits .and .u64 (shr64 (IntKind.u64.wrap ((IntKind.u64.wrap (h * 6364136223846793005)) + 1442695040888963407)) 33) 16777215) n (by kernel_rfl) (by omega) (by omega) (by kernel_rfl) ?_)
      exact R.go 2 (R.retX (res := AI ((bits .and .u64 (shr64 (IntKind.u64.wrap ((IntKind.u64.wrap (h * 6364136223846793005)) + 1442695040888963407)) 33) 16777215) % n)) (hp' := [.box 81 [LB c, AI (p : Int), .int .u64 (IntKind.u64.wrap ((IntKind.u64.wrap (h * 6364136223846793005)) + 1442695040888963407))], .list eo1 so1 no1 co1, .dead]) (by kernel_rfl) (by kernel_rfl) (by kernel_rfl) (by kernel_rfl) ⟨[0, 1], by kernel_rfl, by decide, (bits .and .u64 (shr64 (IntKind.u64.wrap ((IntKind.u64.wrap (h * 6364136223846793005)) + 1442695040888963407)) 33) 16777215) % n, p, IntKind.u64.wrap ((IntKind.u64.wrap (h * 6364136223846793005)) + 1442695040888963407), by first | exact mod_rng (by assumption) | exact ⟨fun _ => rfl, fun h1 => by omega⟩, by kernel_rfl, by kernel_rfl⟩)

theorem rollX_c_r1 (c : List Int) (sd : Int) (eo1 : Nat) (so1 : Nat) (no1 : Nat) (co1 : List AV) (hc : BY c) : CallX Try.prog 23 [LB c, .int .u64 sd] [.list eo1 so1 no1 co1] (fun (resX : AV) (objX : List AObj) => ∃ h : Int, resX = .ptr 1 0 ∧ objX = [.list eo1 so1 no1 co1, .box 81 [LB c, AI 0, .int .u64 h]]) := by
  have hcl : c.length ≤ 4096 := hc.1
  have hcb := hc.2
  refine CallX.dropE (CallX.ofF Try.func23 rfl (by kernel_rfl) ?_)
  intro usC frC hfC
  refine R.go 11 (R.cv .u64 (c.length : Int) (by kernel_rfl) (u64_id (by omega) (by omega)) (by kernel_rfl) ?_)
  refine R.go 11 (R.loop ((fun | (i, hh) => (⟨(frm 38 [(0, LB c), (5, .ptr 2 0), (6, AI (i : Int))]), [.list eo1 so1 no1 co1, .frame usC frC, .box 81 [LB c, AI 0, .int .u64 hh]]⟩ : St) : Nat × Int → St)) (fun | (i, hh) => i ≤ c.length) (fun | (i, hh) => c.length - i) (0, (IntKind.u64.wrap ((IntKind.u64.wrap (sd * 7681)) + (c.length : Int)))) [0, 5, 6] none (by kernel_rfl) (by kernel_rfl) (by kernel_rfl) (by omega) ?_)
  rintro ⟨i, hh⟩ h4_1 R1 N2
  refine R.go 8 (R.cond ((i : Int) < (c.length : Int)) (by kernel_rfl) (fun c5 => ?_) (fun c5 => ?_))
  · have hbi := hcb i (by omega)
    refine R.go 12 (R.idx eB c 0 i (i : Int) (by kernel_rfl) rfl eB_len (by omega) (by kernel_rfl) ?_)
    refine R.go 1 (R.cv .u64 (c.getD i 0) (by kernel_rfl) (u64_id (by omega) (by omega)) (by kernel_rfl) ?_)
    refine R.go 9 (R.ar ((i : Int) + 1) (by kernel_rfl) (by omega) (by omega) (by kernel_rfl) ?_)
    exact R.go 2 (R.stop R1 (by kernel_rfl) (N2 (i + 1, IntKind.u64.wrap ((IntKind.u64.wrap ((IntKind.u64.wrap (hh * 1099511628211)) + (c.getD i 0))) + 5)) [0, 5, 6] none _ (by kernel_rfl) (by kernel_rfl) (by omega) (by show (c.length - (i + 1)) < (c.length - i); omega)))
  · exact R.go 6 (R.retX (res := .ptr 2 0) (hp' := [.list eo1 so1 no1 co1, .dead, .box 81 [LB c, AI 0, .int .u64 hh]]) (by kernel_rfl) (by kernel_rfl) (by kernel_rfl) (by kernel_rfl) ⟨[0, 2], by kernel_rfl, by decide, hh, by kernel_rfl, by kernel_rfl⟩)

end Go.Proofs.Ytpalghbfhgimkaa
