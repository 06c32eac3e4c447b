/- Texts of the proof: HD1, Symi. -/
import Derived.Test.YtjllngcefoohpaaGreatPartN

/-! Draws of posets: what is drawn is a poset. -/
namespace Go.Proofs.YtjllngcefoohpaaGreat
open Go.RowKit Go.Abs
theorem tri_fin {n : Int} {ys : List Int} (h0 : 0 ≤ n) (h8 : n ≤ 8) (hl : (ys.length : Int) = n) (hr : ∀ j : Nat, j < ys.length → InM n.toNat (ys.getD j 0)) (hs : Rising ys) : okPo ((wout (refI ys ys.length) (refI ys ys.length).length).length : Int) (wout (refI ys ys.length) (refI ys ys.length).length) = true := by
 have h := tri_po h0 h8 ⟨by omega, fun j hj => hr j (by omega)⟩ hs
 rw [refI_len, wout_len, refI_len]
 rwa [show ys.length = n.toNat by omega, show ((n.toNat : Nat) : Int) = n by omega]
theorem tri_fin2 {n : Int} {ys : List Int} (h0 : 0 ≤ n) (h8 : n ≤ 8) (hl : (ys.length : Int) = n) (hr : ∀ j : Nat, j < ys.length → InM n.toNat (ys.getD j 0)) (hs : Rising ys) : okPo n (wout (refI ys ys.length) (refI ys ys.length).length) = true := by
 have h := tri_fin h0 h8 hl hr hs
 have hl2 : ((wout (refI ys ys.length) (refI ys ys.length).length).length : Int) = n := by rw [wout_len, refI_len, hl]
 rw [hl2] at h
 exact h
theorem gprt_step {xs L : List Int} {t : Nat} (h : t < L.length) : ((L.take t).map fun v => sqz L (xs.getD v.toNat 0) L.length) ++ [sqz L (xs.getD (L.getD t 0).toNat 0) L.length] = (L.take (t + 1)).map fun v => sqz L (xs.getD v.toNat 0) L.length := by
 have e : L.getD t 0 = L[t] := by rw [List.getD_eq_getElem?_getD, List.getElem?_eq_getElem h]; rfl
 rw [List.take_succ_eq_append_getElem h, List.map_append, e]; rfl
theorem gprt_end {xs L : List Int} {t : Nat} (h : t = L.length) : ((L.take t).map fun v => sqz L (xs.getD v.toNat 0) L.length) = prt xs L := by rw [h, List.take_length]; rfl
theorem gprt_take {xs L : List Int} {i : Nat} (h : i ≤ L.length) : ((L.take i).map fun v => sqz L (xs.getD v.toNat 0) L.length).length = i := by rw [List.length_map, List.length_take]; omega
theorem prt_fin {n : Int} {xs L : List Int} (hP : okPo n xs = true) (hL : PMX n L) : okPo ((prt xs L).length : Int) (prt xs L) = true := by
 rw [prt_len, hL.1]; exact prt_po hP hL
theorem stL_fin {m : Int} {ys : List Int} (hQ : okPo m ys = true) (h8 : m ≤ 7) : okPo ((stL 1 [1] m ys).length : Int) (stL 1 [1] m ys) = true := by
 have hq := hq_po_rel hQ
 rw [stL_len, show (([1] : List Int).length + ys.length : Nat) = (ys.length + 1 : Nat) by simp [Nat.add_comm], show ((ys.length + 1 : Nat) : Int) = 1 + m by have := hq.2.2.1; omega]
 exact gst_po (n := 1) (xs := [1]) (by decide +kernel) hQ (by omega)
theorem po_len {n : Int} {xs : List Int} (h : okPo n xs = true) : (xs.length : Int) = n ∧ 0 ≤ n ∧ n ≤ 8 ∧ RelOK n.toNat xs := by
 obtain ⟨a, b, c, d, _⟩ := hq_po_rel h
 exact ⟨c, a, b, d⟩
theorem up_cutI {n : Int} {x : Nat} {v : Int} (h0 : 0 ≤ n) (hn : n ≤ 60) (hx : (x : Int) < n) (hv : (shl64 1 n - 1 + 1 < 1 → v = 0) ∧ (1 ≤ shl64 1 n - 1 + 1 → 0 ≤ v ∧ v < shl64 1 n - 1 + 1)) : Up n.toNat (x + 1) (bnot v ((shl64 1 ((x : Int) + 1)) - 1)) := by
 have hs := (shl_rng n h0 (by omega)).1
 have := hv.2 (by omega)
 have h := up_cut (n := n.toNat) (x := x) (by omega) (by omega) (in_next h0 (by omega) ⟨this.1, by omega⟩)
 rwa [show ((x + 1 : Nat) : Int) = (x : Int) + 1 by omega] at h
theorem up_andI {n : Int} {x : Nat} {m v : Int} (h0 : 0 ≤ n) (hn : n ≤ 60) (hm : Up n.toNat x m) (hv : (shl64 1 n - 1 + 1 < 1 → v = 0) ∧ (1 ≤ shl64 1 n - 1 + 1 → 0 ≤ v ∧ v < shl64 1 n - 1 + 1)) : Up n.toNat x (band m v) := by
 have hs := (shl_rng n h0 (by omega)).1
 have := hv.2 (by omega)
 exact up_and (by omega) hm (inM_mono (by omega) (in_next h0 (by omega) ⟨this.1, by omega⟩))
theorem up_snoc {n : Int} {ys : List Int} {x : Nat} {m : Int} (hl : ys.length = x) (hm : Up n.toNat (x + 1) m) (hr : ∀ j : Nat, j < ys.length → InM n.toNat (ys.getD j 0)) (hs : Rising ys) : (∀ j : Nat, j < (ys ++ [m]).length → InM n.toNat ((ys ++ [m]).getD j 0)) ∧ Rising (ys ++ [m]) :=
 ⟨rel_snoc hr hm.1, ris_snoc hs fun k hk => by have := hm.2 k hk; omega⟩
theorem renP_c (xs L : List Int) (hL : PMX (xs.length : Int) L) (hx : RelOK xs.length xs) (hn : xs.length ≤ 60) : CallA Tryz.prog 289 [LI xs, LI L] (ownA eI 2 1 (prt xs L)) := by
 have hLr := hL.2.1
 have hLl := hL.1
 have hL61 : ∀ j : Nat, j < L.length → 0 ≤ L.getD j 0 ∧ L.getD j 0 < 61 := fun j hj => by have := hLr j hj; omega
 refine CallA.of Tryz.func289 rfl (by kernel_rfl) (R.go 15 (k17 ((fun | (i, o) => (⟨(frm 27 [(0, LI xs), (1, LI L), (5, .ref 0), (6, AI (i : Int))]), [rowA eI 2 1 o]⟩ : St) : Nat × (List Int) → St)) (fun | (i, o) => (i ≤ L.length) ∧ (o = (L.take i).map fun v => sqz L (xs.getD v.toNat 0) L.length)) (fun | (i, o) => L.length - i) (0, []) [0, 1, 5, 6] none ⟨(by omega), (by rfl)⟩ ?_))
 rintro ⟨i, o⟩ ⟨h4_1, rfl⟩ R1 N2
 have hol : ((L.take i).map fun v => sqz L (xs.getD v.toNat 0) L.length).length = i := gprt_take (by assumption)
 refine R.go 8 (k3 ((i : Int) < (L.length : Int)) (fun c5 => ?_) (fun c5 => ?_))
 ·have hjr := hLr i (by omega)
  refine R.go 9 (k9 eI L 0 i (i : Int) eI_len (R.go 1 (k9 eI xs 0 (((L.getD i 0)).toNat) (L.getD i 0) eI_len ?_ (hji := by omega))))
  refine R.go 1 (k16 true (l05SquD_c L (xs.getD (((L.getD i 0)).toNat) 0) hL61 (by first | omega | (simp <;> omega))) (R.go 1 (k14 eI ((L.take i).map fun v => sqz L (xs.getD v.toNat 0) L.length) [sqz L (xs.getD (((L.getD i 0)).toNat) 0) L.length] 0 2 1 8 eI_one (R.go 5 (k1 ((i : Int) + 1) ?_)))))
  exact R.go 2 (k18 R1 (N2 (i + 1, ((L.take i).map fun v => sqz L (xs.getD v.toNat 0) L.length) ++ [sqz L (xs.getD (((L.getD i 0)).toNat) 0) L.length]) [0, 1, 5, 6] (some [0]) _ (by kernel_rfl) (by kernel_rfl) ⟨(by omega), (by exact gprt_step (by omega))⟩ (by show (L.length - (i + 1)) < (L.length - i); omega)))
 exact R.go 6 (k19 (ownA eI 2 1 ((L.take i).map fun v => sqz L (xs.getD v.toNat 0) L.length)) (by first | (rw [gprt_end (by omega)]) | (exfalso; omega)))
theorem nextX_c_r7 (c : List Int) (p : Nat) (h n : Int) (eo1 so1 no1 : Nat) (co1 : List AV) (eo2 so2 no2 : Nat) (co2 : List AV) (eo3 so3 no3 : Nat) (co3 : List AV) (eo4 so4 no4 : Nat) (co4 : List AV) (eo5 so5 no5 : Nat) (co5 : List AV) (eo6 so6 no6 : Nat) (co6 : List AV) (eo7 so7 no7 : Nat) (co7 : List AV) (hc : BY c) : CallX Tryz.prog 101 [.ptr 0 0, AI n] [.box 157 [LB c, AI (p : Int), .int .u64 h], .list eo1 so1 no1 co1, .list eo2 so2 no2 co2, .list eo3 so3 no3 co3, .list eo4 so4 no4 co4, .list eo5 so5 no5 co5, .list eo6 so6 no6 co6, .list eo7 so7 no7 co7] (fun (resX : AV) (objX : List AObj) => ∃ v : Int, ∃ p1 : Nat, ∃ h1 : Int, ((n < 1 → v = 0) ∧ (1 ≤ n → 0 ≤ v ∧ v < n)) ∧ resX = AI v ∧ objX = [.box 157 [LB c, AI (p1 : Int), .int .u64 h1], .list eo1 so1 no1 co1, .list eo2 so2 no2 co2, .list eo3 so3 no3 co3, .list eo4 so4 no4 co4, .list eo5 so5 no5 co5, .list eo6 so6 no6 co6, .list eo7 so7 no7 co7]) := by
 have hcl : c.length ≤ 4096 := hc.1
 have hcb := hc.2
 have hxr := fun h => u64and (shr64 (IntKind.u64.wrap (IntKind.u64.wrap (h * 6364136223846793005) + 1442695040888963407)) 33)
 have hxh := hxr h
 refine CallX.dropE (CallX.ofF Tryz.func101 rfl (by kernel_rfl) ?_)
 intro usC frC hfC
 refine R.go 10 (k3 (n < 1) (fun c1 => ?_) (fun c1 => ?_))
 ·exact R.go 4 (R.retX (res := AI 0) (hp' := [.box 157 [LB c, AI (p : Int), .int .u64 h], .list eo1 so1 no1 co1, .list eo2 so2 no2 co2, .list eo3 so3 no3 co3, .list eo4 so4 no4 co4, .list eo5 so5 no5 co5, .list eo6 so6 no6 co6, .list eo7 so7 no7 co7, .dead]) (by kernel_rfl) (by kernel_rfl) (by kernel_rfl) (by kernel_rfl) ⟨[0, 1, 2, 3, 4, 5, 6, 7], by kernel_rfl, by decide, 0, p, h, by first | exact mod_rng (by assumption) | exact ⟨fun _ => rfl, fun h1 => by omega⟩, by kernel_rfl, by kernel_rfl⟩)
 refine R.go 22 (k2 .i64 (bits .and .u64 (shr64 (IntKind.u64.wrap ((IntKind.u64.wrap (h * 6364136223846793005)) + 1442695040888963407)) 33) 16777215) (wrap_id (by omega) (by omega)) (R.go 16 (k3 ((p : Int) < (c.length : Int)) (fun c2 => ?_) (fun c2 => ?_))))
 ·have hbp := hcb p (by omega)
  refine R.go 11 (k9 eB c 0 p (p : Int) eB_len (R.go 1 (k2 .i64 (c.getD p 0) (wrap_id (by omega) (by omega)) (k1 ((bits .and .u64 (shr64 (IntKind.u64.wrap ((IntKind.u64.wrap (h * 6364136223846793005)) + 1442695040888963407)) 33) 16777215) + (c.getD p 0)) (R.go 8 (k1 ((p : Int) + 1) (R.go 8 (R.rem ((bits .and .u64 (shr64 (IntKind.u64.wrap ((IntKind.u64.wrap (h * 6364136223846793005)) + 1442695040888963407)) 33) 16777215) + (c.getD p 0)) n (by kernel_rfl) (by omega) (by omega) (by kernel_rfl) ?_))))))))
  exact R.go 2 (R.retX (res := AI (((bits .and .u64 (shr64 (IntKind.u64.wrap ((IntKind.u64.wrap (h * 6364136223846793005)) + 1442695040888963407)) 33) 16777215) + (c.getD p 0)) % n)) (hp' := [.box 157 [LB c, AI ((p : Int) + 1), .int .u64 (IntKind.u64.wrap ((IntKind.u64.wrap (h * 6364136223846793005)) + 1442695040888963407))], .list eo1 so1 no1 co1, .list eo2 so2 no2 co2, .list eo3 so3 no3 co3, .list eo4 so4 no4 co4, .list eo5 so5 no5 co5, .list eo6 so6 no6 co6, .list eo7 so7 no7 co7, .dead]) (by kernel_rfl) (by kernel_rfl) (by kernel_rfl) (by kernel_rfl) ⟨[0, 1, 2, 3, 4, 5, 6, 7], by kernel_rfl, by decide, ((bits .and .u64 (shr64 (IntKind.u64.wrap ((IntKind.u64.wrap (h * 6364136223846793005)) + 1442695040888963407)) 33) 16777215) + (c.getD p 0)) % n, p + 1, IntKind.u64.wrap ((IntKind.u64.wrap (h * 6364136223846793005)) + 1442695040888963407), by first | exact mod_rng (by assumption) | exact ⟨fun _ => rfl, fun h1 => by omega⟩, by kernel_rfl, by kernel_rfl⟩)
 refine R.go 5 (R.rem (bits .and .u64 (shr64 (IntKind.u64.wrap ((IntKind.u64.wrap (h * 6364136223846793005)) + 1442695040888963407)) 33) 16777215) n (by kernel_rfl) (by omega) (by omega) (by kernel_rfl) ?_)
 exact R.go 2 (R.retX (res := AI ((bits .and .u64 (shr64 (IntKind.u64.wrap ((IntKind.u64.wrap (h * 6364136223846793005)) + 1442695040888963407)) 33) 16777215) % n)) (hp' := [.box 157 [LB c, AI (p : Int), .int .u64 (IntKind.u64.wrap ((IntKind.u64.wrap (h * 6364136223846793005)) + 1442695040888963407))], .list eo1 so1 no1 co1, .list eo2 so2 no2 co2, .list eo3 so3 no3 co3, .list eo4 so4 no4 co4, .list eo5 so5 no5 co5, .list eo6 so6 no6 co6, .list eo7 so7 no7 co7, .dead]) (by kernel_rfl) (by kernel_rfl) (by kernel_rfl) (by kernel_rfl) ⟨[0, 1, 2, 3, 4, 5, 6, 7], by kernel_rfl, by decide, (bits .and .u64 (shr64 (IntKind.u64.wrap ((IntKind.u64.wrap (h * 6364136223846793005)) + 1442695040888963407)) 33) 16777215) % n, p, IntKind.u64.wrap ((IntKind.u64.wrap (h * 6364136223846793005)) + 1442695040888963407), by first | exact mod_rng (by assumption) | exact ⟨fun _ => rfl, fun h1 => by omega⟩, by kernel_rfl, by kernel_rfl⟩)
theorem nextX_c_r8 (c : List Int) (p : Nat) (h n : Int) (eo1 so1 no1 : Nat) (co1 : List AV) (eo2 so2 no2 : Nat) (co2 : List AV) (eo3 so3 no3 : Nat) (co3 : List AV) (eo4 so4 no4 : Nat) (co4 : List AV) (eo5 so5 no5 : Nat) (co5 : List AV) (eo6 so6 no6 : Nat) (co6 : List AV) (eo7 so7 no7 : Nat) (co7 : List AV) (eo8 so8 no8 : Nat) (co8 : List AV) (hc : BY c) : CallX Tryz.prog 101 [.ptr 0 0, AI n] [.box 157 [LB c, AI (p : Int), .int .u64 h], .list eo1 so1 no1 co1, .list eo2 so2 no2 co2, .list eo3 so3 no3 co3, .list eo4 so4 no4 co4, .list eo5 so5 no5 co5, .list eo6 so6 no6 co6, .list eo7 so7 no7 co7, .list eo8 so8 no8 co8] (fun (resX : AV) (objX : List AObj) => ∃ v : Int, ∃ p1 : Nat, ∃ h1 : Int, ((n < 1 → v = 0) ∧ (1 ≤ n → 0 ≤ v ∧ v < n)) ∧ resX = AI v ∧ objX = [.box 157 [LB c, AI (p1 : Int), .int .u64 h1], .list eo1 so1 no1 co1, .list eo2 so2 no2 co2, .list eo3 so3 no3 co3, .list eo4 so4 no4 co4, .list eo5 so5 no5 co5, .list eo6 so6 no6 co6, .list eo7 so7 no7 co7, .list eo8 so8 no8 co8]) := by
 have hcl : c.length ≤ 4096 := hc.1
 have hcb := hc.2
 have hxr := fun h => u64and (shr64 (IntKind.u64.wrap (IntKind.u64.wrap (h * 6364136223846793005) + 1442695040888963407)) 33)
 have hxh := hxr h
 refine CallX.dropE (CallX.ofF Tryz.func101 rfl (by kernel_rfl) ?_)
 intro usC frC hfC
 refine R.go 10 (k3 (n < 1) (fun c1 => ?_) (fun c1 => ?_))
 ·exact R.go 4 (R.retX (res := AI 0) (hp' := [.box 157 [LB c, AI (p : Int), .int .u64 h], .list eo1 so1 no1 co1, .list eo2 so2 no2 co2, .list eo3 so3 no3 co3, .list eo4 so4 no4 co4, .list eo5 so5 no5 co5, .list eo6 so6 no6 co6, .list eo7 so7 no7 co7, .list eo8 so8 no8 co8, .dead]) (by kernel_rfl) (by kernel_rfl) (by kernel_rfl) (by kernel_rfl) ⟨[0, 1, 2, 3, 4, 5, 6, 7, 8], by kernel_rfl, by decide, 0, p, h, by first | exact mod_rng (by assumption) | exact ⟨fun _ => rfl, fun h1 => by omega⟩, by kernel_rfl, by kernel_rfl⟩)
 refine R.go 22 (k2 .i64 (bits .and .u64 (shr64 (IntKind.u64.wrap ((IntKind.u64.wrap (h * 6364136223846793005)) + 1442695040888963407)) 33) 16777215) (wrap_id (by omega) (by omega)) (R.go 16 (k3 ((p : Int) < (c.length : Int)) (fun c2 => ?_) (fun c2 => ?_))))
 ·have hbp := hcb p (by omega)
  refine R.go 11 (k9 eB c 0 p (p : Int) eB_len (R.go 1 (k2 .i64 (c.getD p 0) (wrap_id (by omega) (by omega)) (k1 ((bits .and .u64 (shr64 (IntKind.u64.wrap ((IntKind.u64.wrap (h * 6364136223846793005)) + 1442695040888963407)) 33) 16777215) + (c.getD p 0)) (R.go 8 (k1 ((p : Int) + 1) (R.go 8 (R.rem ((bits .and .u64 (shr64 (IntKind.u64.wrap ((IntKind.u64.wrap (h * 6364136223846793005)) + 1442695040888963407)) 33) 16777215) + (c.getD p 0)) n (by kernel_rfl) (by omega) (by omega) (by kernel_rfl) ?_))))))))
  exact R.go 2 (R.retX (res := AI (((bits .and .u64 (shr64 (IntKind.u64.wrap ((IntKind.u64.wrap (h * 6364136223846793005)) + 1442695040888963407)) 33) 16777215) + (c.getD p 0)) % n)) (hp' := [.box 157 [LB c, AI ((p : Int) + 1), .int .u64 (IntKind.u64.wrap ((IntKind.u64.wrap (h * 6364136223846793005)) + 1442695040888963407))], .list eo1 so1 no1 co1, .list eo2 so2 no2 co2, .list eo3 so3 no3 co3, .list eo4 so4 no4 co4, .list eo5 so5 no5 co5, .list eo6 so6 no6 co6, .list eo7 so7 no7 co7, .list eo8 so8 no8 co8, .dead]) (by kernel_rfl) (by kernel_rfl) (by kernel_rfl) (by kernel_rfl) ⟨[0, 1, 2, 3, 4, 5, 6, 7, 8], by kernel_rfl, by decide, ((bits .and .u64 (shr64 (IntKind.u64.wrap ((IntKind.u64.wrap (h * 6364136223846793005)) + 1442695040888963407)) 33) 16777215) + (c.getD p 0)) % n, p + 1, IntKind.u64.wrap ((IntKind.u64.wrap (h * 6364136223846793005)) + 1442695040888963407), by first | exact mod_rng (by assumption) | exact ⟨fun _ => rfl, fun h1 => by omega⟩, by kernel_rfl, by kernel_rfl⟩)
 refine R.go 5 (R.rem (bits .and .u64 (shr64 (IntKind.u64.wrap ((IntKind.u64.wrap (h * 6364136223846793005)) + 1442695040888963407)) 33) 16777215) n (by kernel_rfl) (by omega) (by omega) (by kernel_rfl) ?_)
 exact R.go 2 (R.retX (res := AI ((bits .and .u64 (shr64 (IntKind.u64.wrap ((IntKind.u64.wrap (h * 6364136223846793005)) + 1442695040888963407)) 33) 16777215) % n)) (hp' := [.box 157 [LB c, AI (p : Int), .int .u64 (IntKind.u64.wrap ((IntKind.u64.wrap (h * 6364136223846793005)) + 1442695040888963407))], .list eo1 so1 no1 co1, .list eo2 so2 no2 co2, .list eo3 so3 no3 co3, .list eo4 so4 no4 co4, .list eo5 so5 no5 co5, .list eo6 so6 no6 co6, .list eo7 so7 no7 co7, .list eo8 so8 no8 co8, .dead]) (by kernel_rfl) (by kernel_rfl) (by kernel_rfl) (by kernel_rfl) ⟨[0, 1, 2, 3, 4, 5, 6, 7, 8], by kernel_rfl, by decide, (bits .and .u64 (shr64 (IntKind.u64.wrap ((IntKind.u64.wrap (h * 6364136223846793005)) + 1442695040888963407)) 33) 16777215) % n, p, IntKind.u64.wrap ((IntKind.u64.wrap (h * 6364136223846793005)) + 1442695040888963407), by first | exact mod_rng (by assumption) | exact ⟨fun _ => rfl, fun h1 => by omega⟩, by kernel_rfl, by kernel_rfl⟩)
theorem nextX_c_r9 (c : List Int) (p : Nat) (h n : Int) (eo1 so1 no1 : Nat) (co1 : List AV) (eo2 so2 no2 : Nat) (co2 : List AV) (eo3 so3 no3 : Nat) (co3 : List AV) (eo4 so4 no4 : Nat) (co4 : List AV) (eo5 so5 no5 : Nat) (co5 : List AV) (eo6 so6 no6 : Nat) (co6 : List AV) (eo7 so7 no7 : Nat) (co7 : List AV) (eo8 so8 no8 : Nat) (co8 : List AV) (eo9 so9 no9 : Nat) (co9 : List AV) (hc : BY c) : CallX Tryz.prog 101 [.ptr 0 0, AI n] [.box 157 [LB c, AI (p : Int), .int .u64 h], .list eo1 so1 no1 co1, .list eo2 so2 no2 co2, .list eo3 so3 no3 co3, .list eo4 so4 no4 co4, .list eo5 so5 no5 co5, .list eo6 so6 no6 co6, .list eo7 so7 no7 co7, .list eo8 so8 no8 co8, .list eo9 so9 no9 co9] (fun (resX : AV) (objX : List AObj) => ∃ v : Int, ∃ p1 : Nat, ∃ h1 : Int, ((n < 1 → v = 0) ∧ (1 ≤ n → 0 ≤ v ∧ v < n)) ∧ resX = AI v ∧ objX = [.box 157 [LB c, AI (p1 : Int), .int .u64 h1], .list eo1 so1 no1 co1, .list eo2 so2 no2 co2, .list eo3 so3 no3 co3, .list eo4 so4 no4 co4, .list eo5 so5 no5 co5, .list eo6 so6 no6 co6, .list eo7 so7 no7 co7, .list eo8 so8 no8 co8, .list eo9 so9 no9 co9]) := by
 have hcl : c.length ≤ 4096 := hc.1
 have hcb := hc.2
 have hxr := fun h => u64and (shr64 (IntKind.u64.wrap (IntKind.u64.wrap (h * 6364136223846793005) + 1442695040888963407)) 33)
 have hxh := hxr h
 refine CallX.dropE (CallX.ofF Tryz.func101 rfl (by kernel_rfl) ?_)
 intro usC frC hfC
 refine R.go 10 (k3 (n < 1) (fun c1 => ?_) (fun c1 => ?_))
 ·exact R.go 4 (R.retX (res := AI 0) (hp' := [.box 157 [LB c, AI (p : Int), .int .u64 h], .list eo1 so1 no1 co1, .list eo2 so2 no2 co2, .list eo3 so3 no3 co3, .list eo4 so4 no4 co4, .list eo5 so5 no5 co5, .list eo6 so6 no6 co6, .list eo7 so7 no7 co7, .list eo8 so8 no8 co8, .list eo9 so9 no9 co9, .dead]) (by kernel_rfl) (by kernel_rfl) (by kernel_rfl) (by kernel_rfl) ⟨[0, 1, 2, 3, 4, 5, 6, 7, 8, 9], by kernel_rfl, by decide, 0, p, h, by first | exact mod_rng (by assumption) | exact ⟨fun _ => rfl, fun h1 => by omega⟩, by kernel_rfl, by kernel_rfl⟩)
 refine R.go 22 (k2 .i64 (bits .and .u64 (shr64 (IntKind.u64.wrap ((IntKind.u64.wrap (h * 6364136223846793005)) + 1442695040888963407)) 33) 16777215) (wrap_id (by omega) (by omega)) (R.go 16 (k3 ((p : Int) < (c.length : Int)) (fun c2 => ?_) (fun c2 => ?_))))
 ·have hbp := hcb p (by omega)
  refine R.go 11 (k9 eB c 0 p (p : Int) eB_len (R.go 1 (k2 .i64 (c.getD p 0) (wrap_id (by omega) (by omega)) (k1 ((bits .and .u64 (shr64 (IntKind.u64.wrap ((IntKind.u64.wrap (h * 6364136223846793005)) + 1442695040888963407)) 33) 16777215) + (c.getD p 0)) (R.go 8 (k1 ((p : Int) + 1) (R.go 8 (R.rem ((bits .and .u64 (shr64 (IntKind.u64.wrap ((IntKind.u64.wrap (h * 6364136223846793005)) + 1442695040888963407)) 33) 16777215) + (c.getD p 0)) n (by kernel_rfl) (by omega) (by omega) (by kernel_rfl) ?_))))))))
  exact R.go 2 (R.retX (res := AI (((bits .and .u64 (shr64 (IntKind.u64.wrap ((IntKind.u64.wrap (h * 6364136223846793005)) + 1442695040888963407)) 33) 16777215) + (c.getD p 0)) % n)) (hp' := [.box 157 [LB c, AI ((p : Int) + 1), .int .u64 (IntKind.u64.wrap ((IntKind.u64.wrap (h * 6364136223846793005)) + 1442695040888963407))], .list eo1 so1 no1 co1, .list eo2 so2 no2 co2, .list eo3 so3 no3 co3, .list eo4 so4 no4 co4, .list eo5 so5 no5 co5, .list eo6 so6 no6 co6, .list eo7 so7 no7 co7, .list eo8 so8 no8 co8, .list eo9 so9 no9 co9, .dead]) (by kernel_rfl) (by kernel_rfl) (by kernel_rfl) (by kernel_rfl) ⟨[0, 1, 2, 3, 4, 5, 6, 7, 8, 9], by kernel_rfl, by decide, ((bits .and .u64 (shr64 (IntKind.u64.wrap ((IntKind.u64.wrap (h * 6364136223846793005)) + 1442695040888963407)) 33) 16777215) + (c.getD p 0)) % n, p + 1, IntKind.u64.wrap ((IntKind.u64.wrap (h * 6364136223846793005)) + 1442695040888963407), by first | exact mod_rng (by assumption) | exact ⟨fun _ => rfl, fun h1 => by omega⟩, by kernel_rfl, by kernel_rfl⟩)
 refine R.go 5 (R.rem (bits .and .u64 (shr64 (IntKind.u64.wrap ((IntKind.u64.wrap (h * 6364136223846793005)) + 1442695040888963407)) 33) 16777215) n (by kernel_rfl) (by omega) (by omega) (by kernel_rfl) ?_)
 exact R.go 2 (R.retX (res := AI ((bits .and .u64 (shr64 (IntKind.u64.wrap ((IntKind.u64.wrap (h * 6364136223846793005)) + 1442695040888963407)) 33) 16777215) % n)) (hp' := [.box 157 [LB c, AI (p : Int), .int .u64 (IntKind.u64.wrap ((IntKind.u64.wrap (h * 6364136223846793005)) + 1442695040888963407))], .list eo1 so1 no1 co1, .list eo2 so2 no2 co2, .list eo3 so3 no3 co3, .list eo4 so4 no4 co4, .list eo5 so5 no5 co5, .list eo6 so6 no6 co6, .list eo7 so7 no7 co7, .list eo8 so8 no8 co8, .list eo9 so9 no9 co9, .dead]) (by kernel_rfl) (by kernel_rfl) (by kernel_rfl) (by kernel_rfl) ⟨[0, 1, 2, 3, 4, 5, 6, 7, 8, 9], by kernel_rfl, by decide, (bits .and .u64 (shr64 (IntKind.u64.wrap ((IntKind.u64.wrap (h * 6364136223846793005)) + 1442695040888963407)) 33) 16777215) % n, p, IntKind.u64.wrap ((IntKind.u64.wrap (h * 6364136223846793005)) + 1442695040888963407), by first | exact mod_rng (by assumption) | exact ⟨fun _ => rfl, fun h1 => by omega⟩, by kernel_rfl, by kernel_rfl⟩)
theorem shufP_c_r4 (c : List Int) (p : Nat) (h n : Int) (eo1 so1 no1 : Nat) (co1 : List AV) (eo2 so2 no2 : Nat) (co2 : List AV) (eo3 so3 no3 : Nat) (co3 : List AV) (eo4 so4 no4 : Nat) (co4 : List AV) (hc : BY c) (hn : 0 ≤ n ∧ n ≤ 60) : CallX Tryz.prog 322 [.ptr 0 0, AI n] [.box 157 [LB c, AI (p : Int), .int .u64 h], .list eo1 so1 no1 co1, .list eo2 so2 no2 co2, .list eo3 so3 no3 co3, .list eo4 so4 no4 co4] (fun (resX : AV) (objX : List AObj) => ∃ r : List Int, ∃ p1 : Nat, ∃ h1 : Int, (PMX n r) ∧ resX = LI r ∧ objX = [.box 157 [LB c, AI (p1 : Int), .int .u64 h1], .list eo1 so1 no1 co1, .list eo2 so2 no2 co2, .list eo3 so3 no3 co3, .list eo4 so4 no4 co4]) := by
 have hcl : c.length ≤ 4096 := hc.1
 have hcb := hc.2
 refine CallX.dropE (CallX.ofF Tryz.func322 rfl (by kernel_rfl) ?_)
 intro usC frC hfC
 refine R.go 15 (k17 ((fun | (i, o) => (⟨(frm 46 [(0, .ptr 0 0), (1, AI n), (5, .ref 6), (6, AI (i : Int))]), [.box 157 [LB c, AI (p : Int), .int .u64 h], .list eo1 so1 no1 co1, .list eo2 so2 no2 co2, .list eo3 so3 no3 co3, .list eo4 so4 no4 co4, .frame usC frC, rowA eI 2 1 o]⟩ : St) : Nat × (List Int) → St)) (fun | (i, o) => ((i : Int) ≤ n) ∧ (o.length = i) ∧ (∀ j : Nat, j < i → o.getD j 0 = (j : Int))) (fun | (i, o) => (n - i).toNat) (0, []) [0, 1, 5, 6] none ⟨(by omega), (by rfl), (by exact fun j hj => absurd hj (by simp))⟩ ?_)
 rintro ⟨i, o⟩ ⟨h4_1, h4_2, h4_3⟩ R1 N2
 refine R.go 7 (k3 ((i : Int) < n) (fun c5 => ?_) (fun c5 => ?_))
 ·refine R.go 7 (k14 eI o [(i : Int)] 6 2 1 8 eI_one (R.kfix 5 (us := usC) (by kernel_rfl) (hfC.kill 6 (Nat.le_of_ble_eq_true (by kernel_rfl))) (R.go 5 (k1 ((i : Int) + 1) ?_))))
  exact R.go 2 (k18 R1 (N2 (i + 1, o ++ [(i : Int)]) [0, 1, 5, 6] (some [0, 1, 2, 3, 4, 5, 6]) _ (by kernel_rfl) (canonF (fr := frC) (fun (frX : List AV) => (⟨(frm 46 [(0, .ptr 0 0), (1, AI n), (5, .ref 6), (6, AI ((i : Int) + 1))]), [.box 157 [LB c, AI (p : Int), .int .u64 h], .list eo1 so1 no1 co1, .list eo2 so2 no2 co2, .list eo3 so3 no3 co3, .list eo4 so4 no4 co4, .frame usC frX, rowA eI 2 1 (o ++ [(i : Int)])]⟩ : St)) (hfC.ren _ (by kernel_rfl)) (by kernel_rfl) (by kernel_rfl)) ⟨(by omega), (by (simp <;> omega)), (by exact idr_snoc (by omega) (by assumption))⟩ (by show ((n - (i + 1)).toNat) < ((n - i).toNat); omega)))
 refine R.go 5 (k1 (n - 1) ?_)
 refine R.go 3 (k17 ((fun | (k, o, q, hq) => (⟨(frm 46 [(0, .ptr 0 0), (5, .ref 6), (7, AI k)]), [.box 157 [LB c, AI (q : Int), .int .u64 hq], .list eo1 so1 no1 co1, .list eo2 so2 no2 co2, .list eo3 so3 no3 co3, .list eo4 so4 no4 co4, .frame usC frC, rowA eI 2 1 o]⟩ : St) : Int × (List Int) × Nat × Int → St)) (fun | (k, o, q, hq) => (-1 ≤ k ∧ k < n) ∧ (PMX n o)) (fun | (k, o, q, hq) => (k + 1).toNat) ((n - 1), o, p, h) [0, 5, 7] none ⟨(by omega), (by exact pmx_id (by omega) (fun j hj => (‹∀ j : Nat, j < i → o.getD j 0 = (j : Int)›) j (by omega)))⟩ ?_)
 rintro ⟨k, o, q, hq⟩ ⟨h9_1, h9_2⟩ R6 N7
 have hPM := (by assumption : PMX n o)
 have hRG := hPM.2.1
 have hgl := hPM.1
 have hgk := fun h : 0 < k => hRG k.toNat (by omega)
 refine R.go 6 (k3 (k > 0) (fun c10 => ?_) (fun c10 => ?_))
 ·refine R.go 7 (k1 (k + 1) (k29 (k31f 5 usC frC (nextX_c_r5 c q hq (k + 1) eo1 so1 no1 co1 eo2 so2 no2 co2 eo3 so3 no3 co3 eo4 so4 no4 co4 2 1 o.length (rows eI o) hc)) ?_))
  rintro _ _ ⟨_, _, ⟨v_11, p1_12, h1_13, f14, rfl, rfl⟩, rfl, rfl⟩
  refine R.go 6 (k10 6 1 o.length ((k).toNat) k ?_ (hji := by omega))
  refine k12 o ((k).toNat) ?_
  have hg7 := hgk (by omega)
  have hg8 := hRG (v_11).toNat (by omega)
  refine R.go 8 (k10 6 1 o.length ((v_11).toNat) v_11 ?_ (hji := by omega))
  refine k12 o ((v_11).toNat) (k10 6 1 o.length ((k).toNat) k ?_ (hji := by omega))
  refine k13 6 2 o ((k).toNat) (o.getD ((v_11).toNat) 0) (R.go 5 (k10 6 1 (o.set ((k).toNat) (o.getD ((v_11).toNat) 0)).length ((v_11).toNat) v_11 ?_ (hji := by omega) (hj := by first | omega | (simp only [List.length_set]; omega) | (simp <;> omega))))
  refine k13 6 2 (o.set ((k).toNat) (o.getD ((v_11).toNat) 0)) ((v_11).toNat) (o.getD ((k).toNat) 0) ?_ (hj := by first | omega | (simp only [List.length_set]; omega) | (simp <;> omega))
  refine R.go 4 (k1 (k - 1) ?_)
  exact R.go 2 (k18 R6 (N7 (k - 1, (o.set ((k).toNat) (o.getD ((v_11).toNat) 0)).set ((v_11).toNat) (o.getD ((k).toNat) 0), p1_12, h1_13) [0, 5, 7] none _ (by kernel_rfl) (by kernel_rfl) ⟨(by omega), (by exact pmx_swap (by assumption) (by omega) (by omega))⟩ (by show (((k - 1) + 1).toNat) < ((k + 1).toNat); omega)))
 refine R.go 6 (k20 6 (R.kfix 5 (us := usC) (by kernel_rfl) (hfC.frz 6 (LI o) (Nat.le_of_ble_eq_true (by kernel_rfl))) ?_))
 exact R.retX (res := LI o) (hp' := [.box 157 [LB c, AI (q : Int), .int .u64 hq], .list eo1 so1 no1 co1, .list eo2 so2 no2 co2, .list eo3 so3 no3 co3, .list eo4 so4 no4 co4, .dead, .dead]) (by kernel_rfl) (by kernel_rfl) (by kernel_rfl) (by kernel_rfl) ⟨[0, 1, 2, 3, 4], by kernel_rfl, by decide, o, q, hq, by assumption, by kernel_rfl, by kernel_rfl⟩
theorem shufP_c_r6 (c : List Int) (p : Nat) (h n : Int) (eo1 so1 no1 : Nat) (co1 : List AV) (eo2 so2 no2 : Nat) (co2 : List AV) (eo3 so3 no3 : Nat) (co3 : List AV) (eo4 so4 no4 : Nat) (co4 : List AV) (eo5 so5 no5 : Nat) (co5 : List AV) (eo6 so6 no6 : Nat) (co6 : List AV) (hc : BY c) (hn : 0 ≤ n ∧ n ≤ 60) : CallX Tryz.prog 322 [.ptr 0 0, AI n] [.box 157 [LB c, AI (p : Int), .int .u64 h], .list eo1 so1 no1 co1, .list eo2 so2 no2 co2, .list eo3 so3 no3 co3, .list eo4 so4 no4 co4, .list eo5 so5 no5 co5, .list eo6 so6 no6 co6] (fun (resX : AV) (objX : List AObj) => ∃ r : List Int, ∃ p1 : Nat, ∃ h1 : Int, (PMX n r) ∧ resX = LI r ∧ objX = [.box 157 [LB c, AI (p1 : Int), .int .u64 h1], .list eo1 so1 no1 co1, .list eo2 so2 no2 co2, .list eo3 so3 no3 co3, .list eo4 so4 no4 co4, .list eo5 so5 no5 co5, .list eo6 so6 no6 co6]) := by
 have hcl : c.length ≤ 4096 := hc.1
 have hcb := hc.2
 refine CallX.dropE (CallX.ofF Tryz.func322 rfl (by kernel_rfl) ?_)
 intro usC frC hfC
 refine R.go 15 (k17 ((fun | (i, o) => (⟨(frm 46 [(0, .ptr 0 0), (1, AI n), (5, .ref 8), (6, AI (i : Int))]), [.box 157 [LB c, AI (p : Int), .int .u64 h], .list eo1 so1 no1 co1, .list eo2 so2 no2 co2, .list eo3 so3 no3 co3, .list eo4 so4 no4 co4, .list eo5 so5 no5 co5, .list eo6 so6 no6 co6, .frame usC frC, rowA eI 2 1 o]⟩ : St) : Nat × (List Int) → St)) (fun | (i, o) => ((i : Int) ≤ n) ∧ (o.length = i) ∧ (∀ j : Nat, j < i → o.getD j 0 = (j : Int))) (fun | (i, o) => (n - i).toNat) (0, []) [0, 1, 5, 6] none ⟨(by omega), (by rfl), (by exact fun j hj => absurd hj (by simp))⟩ ?_)
 rintro ⟨i, o⟩ ⟨h4_1, h4_2, h4_3⟩ R1 N2
 refine R.go 7 (k3 ((i : Int) < n) (fun c5 => ?_) (fun c5 => ?_))
 ·refine R.go 7 (k14 eI o [(i : Int)] 8 2 1 8 eI_one (R.kfix 7 (us := usC) (by kernel_rfl) (hfC.kill 8 (Nat.le_of_ble_eq_true (by kernel_rfl))) (R.go 5 (k1 ((i : Int) + 1) ?_))))
  exact R.go 2 (k18 R1 (N2 (i + 1, o ++ [(i : Int)]) [0, 1, 5, 6] (some [0, 1, 2, 3, 4, 5, 6, 7, 8]) _ (by kernel_rfl) (canonF (fr := frC) (fun (frX : List AV) => (⟨(frm 46 [(0, .ptr 0 0), (1, AI n), (5, .ref 8), (6, AI ((i : Int) + 1))]), [.box 157 [LB c, AI (p : Int), .int .u64 h], .list eo1 so1 no1 co1, .list eo2 so2 no2 co2, .list eo3 so3 no3 co3, .list eo4 so4 no4 co4, .list eo5 so5 no5 co5, .list eo6 so6 no6 co6, .frame usC frX, rowA eI 2 1 (o ++ [(i : Int)])]⟩ : St)) (hfC.ren _ (by kernel_rfl)) (by kernel_rfl) (by kernel_rfl)) ⟨(by omega), (by (simp <;> omega)), (by exact idr_snoc (by omega) (by assumption))⟩ (by show ((n - (i + 1)).toNat) < ((n - i).toNat); omega)))
 refine R.go 5 (k1 (n - 1) ?_)
 refine R.go 3 (k17 ((fun | (k, o, q, hq) => (⟨(frm 46 [(0, .ptr 0 0), (5, .ref 8), (7, AI k)]), [.box 157 [LB c, AI (q : Int), .int .u64 hq], .list eo1 so1 no1 co1, .list eo2 so2 no2 co2, .list eo3 so3 no3 co3, .list eo4 so4 no4 co4, .list eo5 so5 no5 co5, .list eo6 so6 no6 co6, .frame usC frC, rowA eI 2 1 o]⟩ : St) : Int × (List Int) × Nat × Int → St)) (fun | (k, o, q, hq) => (-1 ≤ k ∧ k < n) ∧ (PMX n o)) (fun | (k, o, q, hq) => (k + 1).toNat) ((n - 1), o, p, h) [0, 5, 7] none ⟨(by omega), (by exact pmx_id (by omega) (fun j hj => (‹∀ j : Nat, j < i → o.getD j 0 = (j : Int)›) j (by omega)))⟩ ?_)
 rintro ⟨k, o, q, hq⟩ ⟨h9_1, h9_2⟩ R6 N7
 have hPM := (by assumption : PMX n o)
 have hRG := hPM.2.1
 have hgl := hPM.1
 have hgk := fun h : 0 < k => hRG k.toNat (by omega)
 refine R.go 6 (k3 (k > 0) (fun c10 => ?_) (fun c10 => ?_))
 ·refine R.go 7 (k1 (k + 1) (k29 (k31f 7 usC frC (nextX_c_r7 c q hq (k + 1) eo1 so1 no1 co1 eo2 so2 no2 co2 eo3 so3 no3 co3 eo4 so4 no4 co4 eo5 so5 no5 co5 eo6 so6 no6 co6 2 1 o.length (rows eI o) hc)) ?_))
  rintro _ _ ⟨_, _, ⟨v_11, p1_12, h1_13, f14, rfl, rfl⟩, rfl, rfl⟩
  refine R.go 6 (k10 8 1 o.length ((k).toNat) k ?_ (hji := by omega))
  refine k12 o ((k).toNat) ?_
  have hg7 := hgk (by omega)
  have hg8 := hRG (v_11).toNat (by omega)
  refine R.go 8 (k10 8 1 o.length ((v_11).toNat) v_11 ?_ (hji := by omega))
  refine k12 o ((v_11).toNat) (k10 8 1 o.length ((k).toNat) k ?_ (hji := by omega))
  refine k13 8 2 o ((k).toNat) (o.getD ((v_11).toNat) 0) (R.go 5 (k10 8 1 (o.set ((k).toNat) (o.getD ((v_11).toNat) 0)).length ((v_11).toNat) v_11 ?_ (hji := by omega) (hj := by first | omega | (simp only [List.length_set]; omega) | (simp <;> omega))))
  refine k13 8 2 (o.set ((k).toNat) (o.getD ((v_11).toNat) 0)) ((v_11).toNat) (o.getD ((k).toNat) 0) ?_ (hj := by first | omega | (simp only [List.length_set]; omega) | (simp <;> omega))
  refine R.go 4 (k1 (k - 1) ?_)
  exact R.go 2 (k18 R6 (N7 (k - 1, (o.set ((k).toNat) (o.getD ((v_11).toNat) 0)).set ((v_11).toNat) (o.getD ((k).toNat) 0), p1_12, h1_13) [0, 5, 7] none _ (by kernel_rfl) (by kernel_rfl) ⟨(by omega), (by exact pmx_swap (by assumption) (by omega) (by omega))⟩ (by show (((k - 1) + 1).toNat) < ((k + 1).toNat); omega)))
 refine R.go 6 (k20 8 (R.kfix 7 (us := usC) (by kernel_rfl) (hfC.frz 8 (LI o) (Nat.le_of_ble_eq_true (by kernel_rfl))) ?_))
 exact R.retX (res := LI o) (hp' := [.box 157 [LB c, AI (q : Int), .int .u64 hq], .list eo1 so1 no1 co1, .list eo2 so2 no2 co2, .list eo3 so3 no3 co3, .list eo4 so4 no4 co4, .list eo5 so5 no5 co5, .list eo6 so6 no6 co6, .dead, .dead]) (by kernel_rfl) (by kernel_rfl) (by kernel_rfl) (by kernel_rfl) ⟨[0, 1, 2, 3, 4, 5, 6], by kernel_rfl, by decide, o, q, hq, by assumption, by kernel_rfl, by kernel_rfl⟩
theorem shufP_c_r7 (c : List Int) (p : Nat) (h n : Int) (eo1 so1 no1 : Nat) (co1 : List AV) (eo2 so2 no2 : Nat) (co2 : List AV) (eo3 so3 no3 : Nat) (co3 : List AV) (eo4 so4 no4 : Nat) (co4 : List AV) (eo5 so5 no5 : Nat) (co5 : List AV) (eo6 so6 no6 : Nat) (co6 : List AV) (eo7 so7 no7 : Nat) (co7 : List AV) (hc : BY c) (hn : 0 ≤ n ∧ n ≤ 60) : CallX Tryz.prog 322 [.ptr 0 0, AI n] [.box 157 [LB c, AI (p : Int), .int .u64 h], .list eo1 so1 no1 co1, .list eo2 so2 no2 co2, .list eo3 so3 no3 co3, .list eo4 so4 no4 co4, .list eo5 so5 no5 co5, .list eo6 so6 no6 co6, .list eo7 so7 no7 co7] (fun (resX : AV) (objX : List AObj) => ∃ r : List Int, ∃ p1 : Nat, ∃ h1 : Int, (PMX n r) ∧ resX = LI r ∧ objX = [.box 157 [LB c, AI (p1 : Int), .int .u64 h1], .list eo1 so1 no1 co1, .list eo2 so2 no2 co2, .list eo3 so3 no3 co3, .list eo4 so4 no4 co4, .list eo5 so5 no5 co5, .list eo6 so6 no6 co6, .list eo7 so7 no7 co7]) := by
 have hcl : c.length ≤ 4096 := hc.1
 have hcb := hc.2
 refine CallX.dropE (CallX.ofF Tryz.func322 rfl (by kernel_rfl) ?_)
 intro usC frC hfC
 refine R.go 15 (k17 ((fun | (i, o) => (⟨(frm 46 [(0, .ptr 0 0), (1, AI n), (5, .ref 9), (6, AI (i : Int))]), [.box 157 [LB c, AI (p : Int), .int .u64 h], .list eo1 so1 no1 co1, .list eo2 so2 no2 co2, .list eo3 so3 no3 co3, .list eo4 so4 no4 co4, .list eo5 so5 no5 co5, .list eo6 so6 no6 co6, .list eo7 so7 no7 co7, .frame usC frC, rowA eI 2 1 o]⟩ : St) : Nat × (List Int) → St)) (fun | (i, o) => ((i : Int) ≤ n) ∧ (o.length = i) ∧ (∀ j : Nat, j < i → o.getD j 0 = (j : Int))) (fun | (i, o) => (n - i).toNat) (0, []) [0, 1, 5, 6] none ⟨(by omega), (by rfl), (by exact fun j hj => absurd hj (by simp))⟩ ?_)
 rintro ⟨i, o⟩ ⟨h4_1, h4_2, h4_3⟩ R1 N2
 refine R.go 7 (k3 ((i : Int) < n) (fun c5 => ?_) (fun c5 => ?_))
 ·refine R.go 7 (k14 eI o [(i : Int)] 9 2 1 8 eI_one (R.kfix 8 (us := usC) (by kernel_rfl) (hfC.kill 9 (Nat.le_of_ble_eq_true (by kernel_rfl))) (R.go 5 (k1 ((i : Int) + 1) ?_))))
  exact R.go 2 (k18 R1 (N2 (i + 1, o ++ [(i : Int)]) [0, 1, 5, 6] (some [0, 1, 2, 3, 4, 5, 6, 7, 8, 9]) _ (by kernel_rfl) (canonF (fr := frC) (fun (frX : List AV) => (⟨(frm 46 [(0, .ptr 0 0), (1, AI n), (5, .ref 9), (6, AI ((i : Int) + 1))]), [.box 157 [LB c, AI (p : Int), .int .u64 h], .list eo1 so1 no1 co1, .list eo2 so2 no2 co2, .list eo3 so3 no3 co3, .list eo4 so4 no4 co4, .list eo5 so5 no5 co5, .list eo6 so6 no6 co6, .list eo7 so7 no7 co7, .frame usC frX, rowA eI 2 1 (o ++ [(i : Int)])]⟩ : St)) (hfC.ren _ (by kernel_rfl)) (by kernel_rfl) (by kernel_rfl)) ⟨(by omega), (by (simp <;> omega)), (by exact idr_snoc (by omega) (by assumption))⟩ (by show ((n - (i + 1)).toNat) < ((n - i).toNat); omega)))
 refine R.go 5 (k1 (n - 1) ?_)
 refine R.go 3 (k17 ((fun | (k, o, q, hq) => (⟨(frm 46 [(0, .ptr 0 0), (5, .ref 9), (7, AI k)]), [.box 157 [LB c, AI (q : Int), .int .u64 hq], .list eo1 so1 no1 co1, .list eo2 so2 no2 co2, .list eo3 so3 no3 co3, .list eo4 so4 no4 co4, .list eo5 so5 no5 co5, .list eo6 so6 no6 co6, .list eo7 so7 no7 co7, .frame usC frC, rowA eI 2 1 o]⟩ : St) : Int × (List Int) × Nat × Int → St)) (fun | (k, o, q, hq) => (-1 ≤ k ∧ k < n) ∧ (PMX n o)) (fun | (k, o, q, hq) => (k + 1).toNat) ((n - 1), o, p, h) [0, 5, 7] none ⟨(by omega), (by exact pmx_id (by omega) (fun j hj => (‹∀ j : Nat, j < i → o.getD j 0 = (j : Int)›) j (by omega)))⟩ ?_)
 rintro ⟨k, o, q, hq⟩ ⟨h9_1, h9_2⟩ R6 N7
 have hPM := (by assumption : PMX n o)
 have hRG := hPM.2.1
 have hgl := hPM.1
 have hgk := fun h : 0 < k => hRG k.toNat (by omega)
 refine R.go 6 (k3 (k > 0) (fun c10 => ?_) (fun c10 => ?_))
 ·refine R.go 7 (k1 (k + 1) (k29 (k31f 8 usC frC (nextX_c_r8 c q hq (k + 1) eo1 so1 no1 co1 eo2 so2 no2 co2 eo3 so3 no3 co3 eo4 so4 no4 co4 eo5 so5 no5 co5 eo6 so6 no6 co6 eo7 so7 no7 co7 2 1 o.length (rows eI o) hc)) ?_))
  rintro _ _ ⟨_, _, ⟨v_11, p1_12, h1_13, f14, rfl, rfl⟩, rfl, rfl⟩
  refine R.go 6 (k10 9 1 o.length ((k).toNat) k ?_ (hji := by omega))
  refine k12 o ((k).toNat) ?_
  have hg7 := hgk (by omega)
  have hg8 := hRG (v_11).toNat (by omega)
  refine R.go 8 (k10 9 1 o.length ((v_11).toNat) v_11 ?_ (hji := by omega))
  refine k12 o ((v_11).toNat) (k10 9 1 o.length ((k).toNat) k ?_ (hji := by omega))
  refine k13 9 2 o ((k).toNat) (o.getD ((v_11).toNat) 0) (R.go 5 (k10 9 1 (o.set ((k).toNat) (o.getD ((v_11).toNat) 0)).length ((v_11).toNat) v_11 ?_ (hji := by omega) (hj := by first | omega | (simp only [List.length_set]; omega) | (simp <;> omega))))
  refine k13 9 2 (o.set ((k).toNat) (o.getD ((v_11).toNat) 0)) ((v_11).toNat) (o.getD ((k).toNat) 0) ?_ (hj := by first | omega | (simp only [List.length_set]; omega) | (simp <;> omega))
  refine R.go 4 (k1 (k - 1) ?_)
  exact R.go 2 (k18 R6 (N7 (k - 1, (o.set ((k).toNat) (o.getD ((v_11).toNat) 0)).set ((v_11).toNat) (o.getD ((k).toNat) 0), p1_12, h1_13) [0, 5, 7] none _ (by kernel_rfl) (by kernel_rfl) ⟨(by omega), (by exact pmx_swap (by assumption) (by omega) (by omega))⟩ (by show (((k - 1) + 1).toNat) < ((k + 1).toNat); omega)))
 refine R.go 6 (k20 9 (R.kfix 8 (us := usC) (by kernel_rfl) (hfC.frz 9 (LI o) (Nat.le_of_ble_eq_true (by kernel_rfl))) ?_))
 exact R.retX (res := LI o) (hp' := [.box 157 [LB c, AI (q : Int), .int .u64 hq], .list eo1 so1 no1 co1, .list eo2 so2 no2 co2, .list eo3 so3 no3 co3, .list eo4 so4 no4 co4, .list eo5 so5 no5 co5, .list eo6 so6 no6 co6, .list eo7 so7 no7 co7, .dead, .dead]) (by kernel_rfl) (by kernel_rfl) (by kernel_rfl) (by kernel_rfl) ⟨[0, 1, 2, 3, 4, 5, 6, 7], by kernel_rfl, by decide, o, q, hq, by assumption, by kernel_rfl, by kernel_rfl⟩
set_option maxHeartbeats 2000000 in
theorem somePo_c_r3 (c : List Int) (p : Nat) (h size : Int) (eo1 so1 no1 : Nat) (co1 : List AV) (eo2 so2 no2 : Nat) (co2 : List AV) (eo3 so3 no3 : Nat) (co3 : List AV) (hc : BY c) (hs : 0 ≤ size ∧ size ≤ 8) : CallX Tryz.prog 230 [.ptr 0 0, AI size] [.box 157 [LB c, AI (p : Int), .int .u64 h], .list eo1 so1 no1 co1, .list eo2 so2 no2 co2, .list eo3 so3 no3 co3] (fun (resX : AV) (objX : List AObj) => ∃ n : Int, ∃ xs : List Int, ∃ p1 : Nat, ∃ h1 : Int, (n ≤ size) ∧ (okPo n xs = true) ∧ resX = .agg [AI n, .ref 4] ∧ objX = [.box 157 [LB c, AI (p1 : Int), .int .u64 h1], .list eo1 so1 no1 co1, .list eo2 so2 no2 co2, .list eo3 so3 no3 co3, rowA eI 2 1 xs]) := by
 have hcl : c.length ≤ 4096 := hc.1
 have hcb := hc.2
 refine CallX.dropE (CallX.ofF Tryz.func230 rfl (by kernel_rfl) ?_)
 intro usC frC hfC
 refine R.go 8 (k1 (size + 1) (k29 (k31c 4 usC frC (k32a 4 35 [AI 0, .nil] (nextX_c_r4 c p h (size + 1) eo1 so1 no1 co1 eo2 so2 no2 co2 eo3 so3 no3 co3 35 2 1 [AI 0, .nil] hc))) ?_))
 rintro _ _ ⟨_, _, ⟨_, ⟨v_1, p1_2, h1_3, f4, rfl, rfl⟩, rfl⟩, rfl, rfl⟩
 have hb : 1 ≤ shl64 1 v_1 ∧ shl64 1 v_1 ≤ 4611686018427387904 := shl_rng v_1 (by omega) (by omega)
 refine R.go 10 (k29 (k31c 4 usC frC (k32a 4 35 [AI 0, .nil] (nextX_c_r5 c p1_2 h1_3 3 eo1 so1 no1 co1 eo2 so2 no2 co2 eo3 so3 no3 co3 35 2 1 [AI 0, .nil] 2 1 0 (rows eI []) hc))) ?_)
 rintro _ _ ⟨_, _, ⟨_, ⟨v_5, p1_6, h1_7, f8, rfl, rfl⟩, rfl⟩, rfl, rfl⟩
 refine R.go 8 (k17 ((fun | (x, ys, q, k) => (⟨(frm 63 [(0, .ptr 0 0), (4, .ptr 5 0), (5, AI v_1), (6, .ref 6), (7, AI v_5), (8, AI (x : Int))]), [.box 157 [LB c, AI (q : Int), .int .u64 k], .list eo1 so1 no1 co1, .list eo2 so2 no2 co2, .list eo3 so3 no3 co3, .frame usC frC, .box 35 [AI 0, .nil], rowA eI 2 1 ys]⟩ : St) : Nat × (List Int) × Nat × Int → St)) (fun | (x, ys, q, k) => ((x : Int) ≤ v_1) ∧ (ys.length = x) ∧ (∀ j : Nat, j < ys.length → InM (v_1).toNat (ys.getD j 0)) ∧ (Rising ys)) (fun | (x, ys, q, k) => (v_1 - x).toNat) (0, [], p1_6, h1_7) [0, 4, 5, 6, 7, 8] none ⟨(by omega), (by rfl), (by exact fun j hj => absurd hj (by simp)), (by exact ris_nil)⟩ ?_)
 rintro ⟨x, ys, q, k⟩ ⟨h12_1, h12_2, h12_3, h12_4⟩ R9 N10
 refine R.go 7 (k3 ((x : Int) < v_1) (fun c13 => ?_) (fun c13 => ?_))
 ·refine R.go 7 (k16 true (l01Full_c v_1 (by first | omega | (rw [prt_len]; have hq8 := hsf.1; omega) | (simp only [refI_len, wout_len]; omega) | (simp <;> omega)) (by first | omega | (rw [prt_len]; have hq8 := hsf.1; omega) | (simp only [refI_len, wout_len]; omega) | (simp <;> omega))) (k1 (((shl64 1 v_1) - 1) + 1) (k29 (k31c 4 usC frC (k32a 4 35 [AI 0, .nil] (nextX_c_r5 c q k (((shl64 1 v_1) - 1) + 1) eo1 so1 no1 co1 eo2 so2 no2 co2 eo3 so3 no3 co3 35 2 1 [AI 0, .nil] 2 1 ys.length (rows eI ys) hc))) ?_)))
  rintro _ _ ⟨_, _, ⟨_, ⟨v_14, p1_15, h1_16, f17, rfl, rfl⟩, rfl⟩, rfl, rfl⟩
  refine R.go 1 (k1 ((x : Int) + 1) (k16 true (l01Full_c ((x : Int) + 1) (by first | omega | (rw [prt_len]; have hq8 := hsf.1; omega) | (simp only [refI_len, wout_len]; omega) | (simp <;> omega)) (by first | omega | (rw [prt_len]; have hq8 := hsf.1; omega) | (simp only [refI_len, wout_len]; omega) | (simp <;> omega))) (R.go 9 (k17 ((fun | (j, m, q2, k2) => (⟨(frm 63 [(0, .ptr 0 0), (4, .ptr 5 0), (5, AI v_1), (6, .ref 6), (7, AI v_5), (8, AI (x : Int)), (9, AI m), (10, AI (j : Int))]), [.box 157 [LB c, AI (q2 : Int), .int .u64 k2], .list eo1 so1 no1 co1, .list eo2 so2 no2 co2, .list eo3 so3 no3 co3, .frame usC frC, .box 35 [AI 0, .nil], rowA eI 2 1 ys]⟩ : St) : Nat × Int × Nat × Int → St)) (fun | (j, m, q2, k2) => Up (v_1).toNat (x + 1) m) (fun | (j, m, q2, k2) => (v_5 - j).toNat) (0, (bnot v_14 ((shl64 1 ((x : Int) + 1)) - 1)), p1_15, h1_16) [0, 4, 5, 6, 7, 8, 9, 10] none (by exact up_cutI (by omega) (by omega) (by omega) (by assumption)) ?_))))
  rintro ⟨j, m, q2, k2⟩ h21_1 R18 N19
  refine R.go 7 (k3 ((j : Int) < v_5) (fun c22 => ?_) (fun c22 => ?_))
  ·refine R.go 7 (k16 true (l01Full_c v_1 (by first | omega | (rw [prt_len]; have hq8 := hsf.1; omega) | (simp only [refI_len, wout_len]; omega) | (simp <;> omega)) (by first | omega | (rw [prt_len]; have hq8 := hsf.1; omega) | (simp only [refI_len, wout_len]; omega) | (simp <;> omega))) (k1 (((shl64 1 v_1) - 1) + 1) (k29 (k31c 4 usC frC (k32a 4 35 [AI 0, .nil] (nextX_c_r5 c q2 k2 (((shl64 1 v_1) - 1) + 1) eo1 so1 no1 co1 eo2 so2 no2 co2 eo3 so3 no3 co3 35 2 1 [AI 0, .nil] 2 1 ys.length (rows eI ys) hc))) ?_)))
   rintro _ _ ⟨_, _, ⟨_, ⟨v_23, p1_24, h1_25, f26, rfl, rfl⟩, rfl⟩, rfl, rfl⟩
   refine R.go 6 (k1 ((j : Int) + 1) ?_)
   exact R.go 2 (k18 R18 (N19 (j + 1, band m v_23, p1_24, h1_25) [0, 4, 5, 6, 7, 8, 9, 10] none _ (by kernel_rfl) (by kernel_rfl) (by exact up_andI (by omega) (by omega) (by assumption) (by assumption)) (by show ((v_5 - (j + 1)).toNat) < ((v_5 - j).toNat); omega)))
  refine R.go 5 (k14 eI ys [m] 6 2 1 8 eI_one (R.kfix 4 (us := usC) (by kernel_rfl) (hfC.kill 6 (Nat.le_of_ble_eq_true (by kernel_rfl))) (R.go 5 (k1 ((x : Int) + 1) ?_))))
  exact R.go 2 (k18 R9 (N10 (x + 1, ys ++ [m], q2, k2) [0, 4, 5, 6, 7, 8] (some [0, 1, 2, 3, 4, 5, 6]) _ (by kernel_rfl) (canonF (fr := frC) (fun (frX : List AV) => (⟨(frm 63 [(0, .ptr 0 0), (4, .ptr 5 0), (5, AI v_1), (6, .ref 6), (7, AI v_5), (8, AI ((x : Int) + 1))]), [.box 157 [LB c, AI (q2 : Int), .int .u64 k2], .list eo1 so1 no1 co1, .list eo2 so2 no2 co2, .list eo3 so3 no3 co3, .frame usC frX, .box 35 [AI 0, .nil], rowA eI 2 1 (ys ++ [m])]⟩ : St)) (hfC.ren _ (by kernel_rfl)) (by kernel_rfl) (by kernel_rfl)) ⟨(by omega), (by (simp <;> omega)), (by exact (up_snoc (by omega) (by assumption) (by assumption) (by assumption)).1), (by exact (up_snoc (by omega) (by assumption) (by assumption) (by assumption)).2)⟩ (by show ((v_1 - (x + 1)).toNat) < ((v_1 - x).toNat); omega)))
 refine R.go 4 (k20 6 (R.kfix 4 (us := usC) (by kernel_rfl) (hfC.frz 6 (LI ys) (Nat.le_of_ble_eq_true (by kernel_rfl))) (k16 true (l01Refl_c ys (by first | omega | (rw [prt_len]; have hq8 := hsf.1; omega) | (simp only [refI_len, wout_len]; omega) | (simp <;> omega))).frz (k16 true (l01Clos_c (refI ys ys.length) (by first | omega | (rw [prt_len]; have hq8 := hsf.1; omega) | (simp only [refI_len, wout_len]; omega) | (simp <;> omega))).frz (R.go 6 (R.deadF 6 (by kernel_rfl) (by kernel_rfl) (k29 (k31e 4 usC frC (k31c 5 [] [] (k32a 4 35 [AI 0, .nil] (nextX_c_r4 c q k 2 eo1 so1 no1 co1 eo2 so2 no2 co2 eo3 so3 no3 co3 35 2 1 [AI 0, .nil] hc)))) ?_)))))))
 rintro _ _ ⟨_, _, ⟨_, _, ⟨_, ⟨v_27, p1_28, h1_29, f30, rfl, rfl⟩, rfl⟩, rfl, rfl⟩, rfl, rfl⟩
 refine R.go 2 (k3 (v_27 = 0) (fun c31 => ?_) (fun c31 => ?_))
 ·have hto : okPo ((((wout (refI ys ys.length) (refI ys ys.length).length)).length : Nat) : Int) (wout (refI ys ys.length) (refI ys ys.length).length) := tri_fin (n := v_1) (by omega) (by omega) (by omega) (by assumption) (by assumption)
  refine R.go 3 (k16 true (l16Make_c (wout (refI ys ys.length) (refI ys ys.length).length) (by first | omega | (rw [prt_len]; have hq8 := hsf.1; omega) | (simp only [refI_len, wout_len]; omega) | (simp <;> omega))) ?_)
  exact R.go 2 (R.retX (res := .agg [AI ((wout (refI ys ys.length) (refI ys ys.length).length).length), .ref 7]) (hp' := [.box 157 [LB c, AI (p1_28 : Int), .int .u64 h1_29], .list eo1 so1 no1 co1, .list eo2 so2 no2 co2, .list eo3 so3 no3 co3, .dead, .box 35 [AI ((wout (refI ys ys.length) (refI ys ys.length).length).length), .ref 7], .frame [] [], rowA eI 2 1 (wout (refI ys ys.length) (refI ys ys.length).length)]) (by kernel_rfl) (by kernel_rfl) (by kernel_rfl) (by kernel_rfl) ⟨[0, 1, 2, 3, 7], by kernel_rfl, by decide, (wout (refI ys ys.length) (refI ys ys.length).length).length, wout (refI ys ys.length) (refI ys ys.length).length, p1_28, h1_29, by first | omega | assumption | exact prt_fin hwo hsf | (rw [prt_len]; have hq8 := hsf.1; omega) | (simp only [refI_len, wout_len]; omega), by first | omega | assumption | exact prt_fin hwo hsf | (rw [prt_len]; have hq8 := hsf.1; omega) | (simp only [refI_len, wout_len]; omega), by kernel_rfl, by kernel_rfl⟩)
 refine R.go 6 (k29 (k31e 4 usC frC (k31c 5 [] [] (k32a 4 35 [AI 0, .nil] (shufP_c_r4 c p1_28 h1_29 v_1 eo1 so1 no1 co1 eo2 so2 no2 co2 eo3 so3 no3 co3 35 2 1 [AI 0, .nil] hc (by first | omega | (rw [prt_len]; have hq8 := hsf.1; omega) | (simp only [refI_len, wout_len]; omega) | (simp <;> omega)))))) ?_)
 rintro _ _ ⟨_, _, ⟨_, _, ⟨_, ⟨r_32, p1_33, h1_34, f35, rfl, rfl⟩, rfl⟩, rfl, rfl⟩, rfl, rfl⟩
 have hsf : PMX v_1 r_32 := by assumption
 have hwo : okPo v_1 (wout (refI ys ys.length) (refI ys ys.length).length) = true := tri_fin2 (by omega) (by omega) (by omega) (by assumption) (by assumption)
 have hwl := (po_len hwo).1
 have hwr : RelOK ((wout (refI ys ys.length) (refI ys ys.length).length)).length (wout (refI ys ys.length) (refI ys ys.length).length) := by have h9 := (po_len hwo).2.2.2; rwa [show (v_1).toNat = ((wout (refI ys ys.length) (refI ys ys.length).length)).length by omega] at h9
 have hsf2 : PMX (((wout (refI ys ys.length) (refI ys ys.length).length)).length : Int) r_32 := by rw [hwl]; exact hsf
 refine k16 true (renP_c (wout (refI ys ys.length) (refI ys ys.length).length) r_32 (by assumption) (by assumption) (by first | omega | (rw [prt_len]; have hq8 := hsf.1; omega) | (simp only [refI_len, wout_len]; omega) | (simp <;> omega))).frz (k16 true (l16Make_c (prt (wout (refI ys ys.length) (refI ys ys.length).length) r_32) (by first | omega | (rw [prt_len]; have hq8 := hsf.1; omega) | (simp only [refI_len, wout_len]; omega) | (simp <;> omega))) ?_)
 exact R.go 2 (R.retX (res := .agg [AI ((prt (wout (refI ys ys.length) (refI ys ys.length).length) r_32).length), .ref 7]) (hp' := [.box 157 [LB c, AI (p1_33 : Int), .int .u64 h1_34], .list eo1 so1 no1 co1, .list eo2 so2 no2 co2, .list eo3 so3 no3 co3, .dead, .box 35 [AI ((prt (wout (refI ys ys.length) (refI ys ys.length).length) r_32).length), .ref 7], .frame [] [], rowA eI 2 1 (prt (wout (refI ys ys.length) (refI ys ys.length).length) r_32)]) (by kernel_rfl) (by kernel_rfl) (by kernel_rfl) (by kernel_rfl) ⟨[0, 1, 2, 3, 7], by kernel_rfl, by decide, (prt (wout (refI ys ys.length) (refI ys ys.length).length) r_32).length, prt (wout (refI ys ys.length) (refI ys ys.length).length) r_32, p1_33, h1_34, by first | omega | assumption | exact prt_fin hwo hsf | (rw [prt_len]; have hq8 := hsf.1; omega) | (simp only [refI_len, wout_len]; omega), by first | omega | assumption | exact prt_fin hwo hsf | (rw [prt_len]; have hq8 := hsf.1; omega) | (simp only [refI_len, wout_len]; omega), by kernel_rfl, by kernel_rfl⟩)
set_option maxHeartbeats 2000000 in
theorem somePo_c_r5 (c : List Int) (p : Nat) (h size : Int) (eo1 so1 no1 : Nat) (co1 : List AV) (eo2 so2 no2 : Nat) (co2 : List AV) (eo3 so3 no3 : Nat) (co3 : List AV) (eo4 so4 no4 : Nat) (co4 : List AV) (eo5 so5 no5 : Nat) (co5 : List AV) (hc : BY c) (hs : 0 ≤ size ∧ size ≤ 8) : CallX Tryz.prog 230 [.ptr 0 0, AI size] [.box 157 [LB c, AI (p : Int), .int .u64 h], .list eo1 so1 no1 co1, .list eo2 so2 no2 co2, .list eo3 so3 no3 co3, .list eo4 so4 no4 co4, .list eo5 so5 no5 co5] (fun (resX : AV) (objX : List AObj) => ∃ n : Int, ∃ xs : List Int, ∃ p1 : Nat, ∃ h1 : Int, (n ≤ size) ∧ (okPo n xs = true) ∧ resX = .agg [AI n, .ref 6] ∧ objX = [.box 157 [LB c, AI (p1 : Int), .int .u64 h1], .list eo1 so1 no1 co1, .list eo2 so2 no2 co2, .list eo3 so3 no3 co3, .list eo4 so4 no4 co4, .list eo5 so5 no5 co5, rowA eI 2 1 xs]) := by
 have hcl : c.length ≤ 4096 := hc.1
 have hcb := hc.2
 refine CallX.dropE (CallX.ofF Tryz.func230 rfl (by kernel_rfl) ?_)
 intro usC frC hfC
 refine R.go 8 (k1 (size + 1) (k29 (k31c 6 usC frC (k32a 6 35 [AI 0, .nil] (nextX_c_r6 c p h (size + 1) eo1 so1 no1 co1 eo2 so2 no2 co2 eo3 so3 no3 co3 eo4 so4 no4 co4 eo5 so5 no5 co5 35 2 1 [AI 0, .nil] hc))) ?_))
 rintro _ _ ⟨_, _, ⟨_, ⟨v_1, p1_2, h1_3, f4, rfl, rfl⟩, rfl⟩, rfl, rfl⟩
 have hb : 1 ≤ shl64 1 v_1 ∧ shl64 1 v_1 ≤ 4611686018427387904 := shl_rng v_1 (by omega) (by omega)
 refine R.go 10 (k29 (k31c 6 usC frC (k32a 6 35 [AI 0, .nil] (nextX_c_r7 c p1_2 h1_3 3 eo1 so1 no1 co1 eo2 so2 no2 co2 eo3 so3 no3 co3 eo4 so4 no4 co4 eo5 so5 no5 co5 35 2 1 [AI 0, .nil] 2 1 0 (rows eI []) hc))) ?_)
 rintro _ _ ⟨_, _, ⟨_, ⟨v_5, p1_6, h1_7, f8, rfl, rfl⟩, rfl⟩, rfl, rfl⟩
 refine R.go 8 (k17 ((fun | (x, ys, q, k) => (⟨(frm 63 [(0, .ptr 0 0), (4, .ptr 7 0), (5, AI v_1), (6, .ref 8), (7, AI v_5), (8, AI (x : Int))]), [.box 157 [LB c, AI (q : Int), .int .u64 k], .list eo1 so1 no1 co1, .list eo2 so2 no2 co2, .list eo3 so3 no3 co3, .list eo4 so4 no4 co4, .list eo5 so5 no5 co5, .frame usC frC, .box 35 [AI 0, .nil], rowA eI 2 1 ys]⟩ : St) : Nat × (List Int) × Nat × Int → St)) (fun | (x, ys, q, k) => ((x : Int) ≤ v_1) ∧ (ys.length = x) ∧ (∀ j : Nat, j < ys.length → InM (v_1).toNat (ys.getD j 0)) ∧ (Rising ys)) (fun | (x, ys, q, k) => (v_1 - x).toNat) (0, [], p1_6, h1_7) [0, 4, 5, 6, 7, 8] none ⟨(by omega), (by rfl), (by exact fun j hj => absurd hj (by simp)), (by exact ris_nil)⟩ ?_)
 rintro ⟨x, ys, q, k⟩ ⟨h12_1, h12_2, h12_3, h12_4⟩ R9 N10
 refine R.go 7 (k3 ((x : Int) < v_1) (fun c13 => ?_) (fun c13 => ?_))
 ·refine R.go 7 (k16 true (l01Full_c v_1 (by first | omega | (rw [prt_len]; have hq8 := hsf.1; omega) | (simp only [refI_len, wout_len]; omega) | (simp <;> omega)) (by first | omega | (rw [prt_len]; have hq8 := hsf.1; omega) | (simp only [refI_len, wout_len]; omega) | (simp <;> omega))) (k1 (((shl64 1 v_1) - 1) + 1) (k29 (k31c 6 usC frC (k32a 6 35 [AI 0, .nil] (nextX_c_r7 c q k (((shl64 1 v_1) - 1) + 1) eo1 so1 no1 co1 eo2 so2 no2 co2 eo3 so3 no3 co3 eo4 so4 no4 co4 eo5 so5 no5 co5 35 2 1 [AI 0, .nil] 2 1 ys.length (rows eI ys) hc))) ?_)))
  rintro _ _ ⟨_, _, ⟨_, ⟨v_14, p1_15, h1_16, f17, rfl, rfl⟩, rfl⟩, rfl, rfl⟩
  refine R.go 1 (k1 ((x : Int) + 1) (k16 true (l01Full_c ((x : Int) + 1) (by first | omega | (rw [prt_len]; have hq8 := hsf.1; omega) | (simp only [refI_len, wout_len]; omega) | (simp <;> omega)) (by first | omega | (rw [prt_len]; have hq8 := hsf.1; omega) | (simp only [refI_len, wout_len]; omega) | (simp <;> omega))) (R.go 9 (k17 ((fun | (j, m, q2, k2) => (⟨(frm 63 [(0, .ptr 0 0), (4, .ptr 7 0), (5, AI v_1), (6, .ref 8), (7, AI v_5), (8, AI (x : Int)), (9, AI m), (10, AI (j : Int))]), [.box 157 [LB c, AI (q2 : Int), .int .u64 k2], .list eo1 so1 no1 co1, .list eo2 so2 no2 co2, .list eo3 so3 no3 co3, .list eo4 so4 no4 co4, .list eo5 so5 no5 co5, .frame usC frC, .box 35 [AI 0, .nil], rowA eI 2 1 ys]⟩ : St) : Nat × Int × Nat × Int → St)) (fun | (j, m, q2, k2) => Up (v_1).toNat (x + 1) m) (fun | (j, m, q2, k2) => (v_5 - j).toNat) (0, (bnot v_14 ((shl64 1 ((x : Int) + 1)) - 1)), p1_15, h1_16) [0, 4, 5, 6, 7, 8, 9, 10] none (by exact up_cutI (by omega) (by omega) (by omega) (by assumption)) ?_))))
  rintro ⟨j, m, q2, k2⟩ h21_1 R18 N19
  refine R.go 7 (k3 ((j : Int) < v_5) (fun c22 => ?_) (fun c22 => ?_))
  ·refine R.go 7 (k16 true (l01Full_c v_1 (by first | omega | (rw [prt_len]; have hq8 := hsf.1; omega) | (simp only [refI_len, wout_len]; omega) | (simp <;> omega)) (by first | omega | (rw [prt_len]; have hq8 := hsf.1; omega) | (simp only [refI_len, wout_len]; omega) | (simp <;> omega))) (k1 (((shl64 1 v_1) - 1) + 1) (k29 (k31c 6 usC frC (k32a 6 35 [AI 0, .nil] (nextX_c_r7 c q2 k2 (((shl64 1 v_1) - 1) + 1) eo1 so1 no1 co1 eo2 so2 no2 co2 eo3 so3 no3 co3 eo4 so4 no4 co4 eo5 so5 no5 co5 35 2 1 [AI 0, .nil] 2 1 ys.length (rows eI ys) hc))) ?_)))
   rintro _ _ ⟨_, _, ⟨_, ⟨v_23, p1_24, h1_25, f26, rfl, rfl⟩, rfl⟩, rfl, rfl⟩
   refine R.go 6 (k1 ((j : Int) + 1) ?_)
   exact R.go 2 (k18 R18 (N19 (j + 1, band m v_23, p1_24, h1_25) [0, 4, 5, 6, 7, 8, 9, 10] none _ (by kernel_rfl) (by kernel_rfl) (by exact up_andI (by omega) (by omega) (by assumption) (by assumption)) (by show ((v_5 - (j + 1)).toNat) < ((v_5 - j).toNat); omega)))
  refine R.go 5 (k14 eI ys [m] 8 2 1 8 eI_one (R.kfix 6 (us := usC) (by kernel_rfl) (hfC.kill 8 (Nat.le_of_ble_eq_true (by kernel_rfl))) (R.go 5 (k1 ((x : Int) + 1) ?_))))
  exact R.go 2 (k18 R9 (N10 (x + 1, ys ++ [m], q2, k2) [0, 4, 5, 6, 7, 8] (some [0, 1, 2, 3, 4, 5, 6, 7, 8]) _ (by kernel_rfl) (canonF (fr := frC) (fun (frX : List AV) => (⟨(frm 63 [(0, .ptr 0 0), (4, .ptr 7 0), (5, AI v_1), (6, .ref 8), (7, AI v_5), (8, AI ((x : Int) + 1))]), [.box 157 [LB c, AI (q2 : Int), .int .u64 k2], .list eo1 so1 no1 co1, .list eo2 so2 no2 co2, .list eo3 so3 no3 co3, .list eo4 so4 no4 co4, .list eo5 so5 no5 co5, .frame usC frX, .box 35 [AI 0, .nil], rowA eI 2 1 (ys ++ [m])]⟩ : St)) (hfC.ren _ (by kernel_rfl)) (by kernel_rfl) (by kernel_rfl)) ⟨(by omega), (by (simp <;> omega)), (by exact (up_snoc (by omega) (by assumption) (by assumption) (by assumption)).1), (by exact (up_snoc (by omega) (by assumption) (by assumption) (by assumption)).2)⟩ (by show ((v_1 - (x + 1)).toNat) < ((v_1 - x).toNat); omega)))
 refine R.go 4 (k20 8 (R.kfix 6 (us := usC) (by kernel_rfl) (hfC.frz 8 (LI ys) (Nat.le_of_ble_eq_true (by kernel_rfl))) (k16 true (l01Refl_c ys (by first | omega | (rw [prt_len]; have hq8 := hsf.1; omega) | (simp only [refI_len, wout_len]; omega) | (simp <;> omega))).frz (k16 true (l01Clos_c (refI ys ys.length) (by first | omega | (rw [prt_len]; have hq8 := hsf.1; omega) | (simp only [refI_len, wout_len]; omega) | (simp <;> omega))).frz (R.go 6 (R.deadF 8 (by kernel_rfl) (by kernel_rfl) (k29 (k31e 6 usC frC (k31c 7 [] [] (k32a 6 35 [AI 0, .nil] (nextX_c_r6 c q k 2 eo1 so1 no1 co1 eo2 so2 no2 co2 eo3 so3 no3 co3 eo4 so4 no4 co4 eo5 so5 no5 co5 35 2 1 [AI 0, .nil] hc)))) ?_)))))))
 rintro _ _ ⟨_, _, ⟨_, _, ⟨_, ⟨v_27, p1_28, h1_29, f30, rfl, rfl⟩, rfl⟩, rfl, rfl⟩, rfl, rfl⟩
 refine R.go 2 (k3 (v_27 = 0) (fun c31 => ?_) (fun c31 => ?_))
 ·have hto : okPo ((((wout (refI ys ys.length) (refI ys ys.length).length)).length : Nat) : Int) (wout (refI ys ys.length) (refI ys ys.length).length) := tri_fin (n := v_1) (by omega) (by omega) (by omega) (by assumption) (by assumption)
  refine R.go 3 (k16 true (l16Make_c (wout (refI ys ys.length) (refI ys ys.length).length) (by first | omega | (rw [prt_len]; have hq8 := hsf.1; omega) | (simp only [refI_len, wout_len]; omega) | (simp <;> omega))) ?_)
  exact R.go 2 (R.retX (res := .agg [AI ((wout (refI ys ys.length) (refI ys ys.length).length).length), .ref 9]) (hp' := [.box 157 [LB c, AI (p1_28 : Int), .int .u64 h1_29], .list eo1 so1 no1 co1, .list eo2 so2 no2 co2, .list eo3 so3 no3 co3, .list eo4 so4 no4 co4, .list eo5 so5 no5 co5, .dead, .box 35 [AI ((wout (refI ys ys.length) (refI ys ys.length).length).length), .ref 9], .frame [] [], rowA eI 2 1 (wout (refI ys ys.length) (refI ys ys.length).length)]) (by kernel_rfl) (by kernel_rfl) (by kernel_rfl) (by kernel_rfl) ⟨[0, 1, 2, 3, 4, 5, 9], by kernel_rfl, by decide, (wout (refI ys ys.length) (refI ys ys.length).length).length, wout (refI ys ys.length) (refI ys ys.length).length, p1_28, h1_29, by first | omega | assumption | exact prt_fin hwo hsf | (rw [prt_len]; have hq8 := hsf.1; omega) | (simp only [refI_len, wout_len]; omega), by first | omega | assumption | exact prt_fin hwo hsf | (rw [prt_len]; have hq8 := hsf.1; omega) | (simp only [refI_len, wout_len]; omega), by kernel_rfl, by kernel_rfl⟩)
 refine R.go 6 (k29 (k31e 6 usC frC (k31c 7 [] [] (k32a 6 35 [AI 0, .nil] (shufP_c_r6 c p1_28 h1_29 v_1 eo1 so1 no1 co1 eo2 so2 no2 co2 eo3 so3 no3 co3 eo4 so4 no4 co4 eo5 so5 no5 co5 35 2 1 [AI 0, .nil] hc (by first | omega | (rw [prt_len]; have hq8 := hsf.1; omega) | (simp only [refI_len, wout_len]; omega) | (simp <;> omega)))))) ?_)
 rintro _ _ ⟨_, _, ⟨_, _, ⟨_, ⟨r_32, p1_33, h1_34, f35, rfl, rfl⟩, rfl⟩, rfl, rfl⟩, rfl, rfl⟩
 have hsf : PMX v_1 r_32 := by assumption
 have hwo : okPo v_1 (wout (refI ys ys.length) (refI ys ys.length).length) = true := tri_fin2 (by omega) (by omega) (by omega) (by assumption) (by assumption)
 have hwl := (po_len hwo).1
 have hwr : RelOK ((wout (refI ys ys.length) (refI ys ys.length).length)).length (wout (refI ys ys.length) (refI ys ys.length).length) := by have h9 := (po_len hwo).2.2.2; rwa [show (v_1).toNat = ((wout (refI ys ys.length) (refI ys ys.length).length)).length by omega] at h9
 have hsf2 : PMX (((wout (refI ys ys.length) (refI ys ys.length).length)).length : Int) r_32 := by rw [hwl]; exact hsf
 refine k16 true (renP_c (wout (refI ys ys.length) (refI ys ys.length).length) r_32 (by assumption) (by assumption) (by first | omega | (rw [prt_len]; have hq8 := hsf.1; omega) | (simp only [refI_len, wout_len]; omega) | (simp <;> omega))).frz (k16 true (l16Make_c (prt (wout (refI ys ys.length) (refI ys ys.length).length) r_32) (by first | omega | (rw [prt_len]; have hq8 := hsf.1; omega) | (simp only [refI_len, wout_len]; omega) | (simp <;> omega))) ?_)
 exact R.go 2 (R.retX (res := .agg [AI ((prt (wout (refI ys ys.length) (refI ys ys.length).length) r_32).length), .ref 9]) (hp' := [.box 157 [LB c, AI (p1_33 : Int), .int .u64 h1_34], .list eo1 so1 no1 co1, .list eo2 so2 no2 co2, .list eo3 so3 no3 co3, .list eo4 so4 no4 co4, .list eo5 so5 no5 co5, .dead, .box 35 [AI ((prt (wout (refI ys ys.length) (refI ys ys.length).length) r_32).length), .ref 9], .frame [] [], rowA eI 2 1 (prt (wout (refI ys ys.length) (refI ys ys.length).length) r_32)]) (by kernel_rfl) (by kernel_rfl) (by kernel_rfl) (by kernel_rfl) ⟨[0, 1, 2, 3, 4, 5, 9], by kernel_rfl, by decide, (prt (wout (refI ys ys.length) (refI ys ys.length).length) r_32).length, prt (wout (refI ys ys.length) (refI ys ys.length).length) r_32, p1_33, h1_34, by first | omega | assumption | exact prt_fin hwo hsf | (rw [prt_len]; have hq8 := hsf.1; omega) | (simp only [refI_len, wout_len]; omega), by first | omega | assumption | exact prt_fin hwo hsf | (rw [prt_len]; have hq8 := hsf.1; omega) | (simp only [refI_len, wout_len]; omega), by kernel_rfl, by kernel_rfl⟩)
theorem rootPo_c_r4 (c : List Int) (p : Nat) (h size : Int) (eo1 so1 no1 : Nat) (co1 : List AV) (eo2 so2 no2 : Nat) (co2 : List AV) (eo3 so3 no3 : Nat) (co3 : List AV) (eo4 so4 no4 : Nat) (co4 : List AV) (hc : BY c) (hs : 1 ≤ size ∧ size ≤ 8) : CallX Tryz.prog 231 [.ptr 0 0, AI size] [.box 157 [LB c, AI (p : Int), .int .u64 h], .list eo1 so1 no1 co1, .list eo2 so2 no2 co2, .list eo3 so3 no3 co3, .list eo4 so4 no4 co4] (fun (resX : AV) (objX : List AObj) => ∃ n : Int, ∃ xs : List Int, ∃ p1 : Nat, ∃ h1 : Int, (n ≤ size) ∧ (okPo n xs = true) ∧ resX = .agg [AI n, .ref 5] ∧ objX = [.box 157 [LB c, AI (p1 : Int), .int .u64 h1], .list eo1 so1 no1 co1, .list eo2 so2 no2 co2, .list eo3 so3 no3 co3, .list eo4 so4 no4 co4, rowA eI 2 1 xs]) := by
 have hcl : c.length ≤ 4096 := hc.1
 have hcb := hc.2
 refine CallX.dropE (CallX.ofF Tryz.func231 rfl (by kernel_rfl) ?_)
 intro usC frC hfC
 refine R.go 6 (R.lit (s := 1) (n := 1) (cs := rows eI [1]) (by kernel_rfl) (by kernel_rfl) (k16 true (l16Make_c [1] (by first | omega | (have hq9 := po_len (by assumption); omega) | (have hq9 := po_len (by assumption); simp; omega) | (simp <;> omega))).frz (R.go 2 (k1 (size - 1) (k29 (k31j 5 usC frC (k32d 5 35 [AI 0, .nil] (somePo_c_r5 c p h (size - 1) eo1 so1 no1 co1 eo2 so2 no2 co2 eo3 so3 no3 co3 eo4 so4 no4 co4 35 2 1 [AI 0, .nil] hc (by first | omega | (have hq9 := po_len (by assumption); omega) | (have hq9 := po_len (by assumption); simp; omega) | (simp <;> omega))))) ?_)))))
 rintro _ _ ⟨_, _, ⟨_, ⟨n_1, xs_2, p1_3, h1_4, f5, f6, rfl, rfl⟩, rfl⟩, rfl, rfl⟩
 have hpo : okPo n_1 xs_2 = true := by assumption
 have hq9 := po_len hpo
 have hq9a := hq9.1
 have hq9b := hq9.2.1
 have hq9c := hq9.2.2.1
 refine k16 false (joinD_c ([1].length) [1] n_1 xs_2 (by first | omega | (simp; omega))) ?_ (hr := by simp [AV.closed, closedL, AI, ownA_closed eI_closed])
 exact R.go 2 (R.retX (res := .agg [AI ((stL ([1].length) [1] n_1 xs_2).length), .ref 8]) (hp' := [.box 157 [LB c, AI (p1_3 : Int), .int .u64 h1_4], .list eo1 so1 no1 co1, .list eo2 so2 no2 co2, .list eo3 so3 no3 co3, .list eo4 so4 no4 co4, .dead, .box 35 [AI ((stL ([1].length) [1] n_1 xs_2).length), .ref 8], rowA eI 2 1 xs_2, rowA eI 2 1 (stL ([1].length) [1] n_1 xs_2)]) (by kernel_rfl) (by kernel_rfl) (by kernel_rfl) (by kernel_rfl) ⟨[0, 1, 2, 3, 4, 8], by kernel_rfl, by decide, (stL ([1].length) [1] n_1 xs_2).length, stL ([1].length) [1] n_1 xs_2, p1_3, h1_4, by first | omega | (rw [stL_len]; simp; have hq9 := po_len (by assumption); omega) | exact stL_fin (by assumption) (by omega), by first | omega | (rw [stL_len]; simp; have hq9 := po_len (by assumption); omega) | exact stL_fin (by assumption) (by omega), by kernel_rfl, by kernel_rfl⟩)
end Go.Proofs.YtjllngcefoohpaaGreat

/-! Rows of named rows become rows of rows. -/
namespace Go.Abs
open Go.RowKit
theorem HRel.less {w : World} {Z : Nat → Prop} {B : Nat} {μ : List Value} {hp : List AObj} {i e s n : Nat} {cs ds : List AV} (h : HRel w Z B μ hp) (hi : hp[i]? = some (.list e s n cs)) (hl : LessL cs ds) : HRel w Z B μ (hp.set i (.list e s n ds)) := by
 have hlt : i < hp.length := (List.getElem?_eq_some_iff.1 hi).1
 have key : ∀ (j : Nat) (o : AObj), (hp.set i (.list e s n ds))[j]? = some o → ∃ o', hp[j]? = some o' ∧ o'.alive = o.alive ∧ ∀ u, ObjRel w Z μ B u o' → ObjRel w Z μ B u o := by
  intro j o ho
  by_cases q : i = j
  ·subst q
   rw [List.getElem?_set_self hlt] at ho
   cases ho
   refine ⟨_, hi, rfl, fun u hu => ?_⟩
   obtain ⟨xs, h1, h2⟩ := hu
   exact ⟨xs, h1, RelL.lessV hl h2⟩
  ·rw [List.getElem?_set_ne q] at ho
   exact ⟨o, ho, rfl, fun u hu => hu⟩
 refine ⟨by rw [List.length_set]; exact h.len, fun j o u g h1 ha h2 hg => ?_, h.one, fun j o u h1 h2 => ?_, fun a b oa ob ua ub g hne h1 h2 ha hb h3 h4 hg1 hg2 => ?_⟩
 ·obtain ⟨o', k1, k2, _⟩ := key j o h1
  exact h.zone j o' u g k1 (by rw [k2]; exact ha) h2 hg
 ·obtain ⟨o', k1, _, k3⟩ := key j o h1
  exact k3 u (h.obj j o' u k1 h2)
 ·obtain ⟨oa', k1, k2, _⟩ := key a oa h1
  obtain ⟨ob', k3, k4, _⟩ := key b ob h2
  exact h.sep a b oa' ob' ua ub g hne k1 k3 (by rw [k2]; exact ha) (by rw [k4]; exact hb) h3 h4 hg1 hg2
theorem Sub.less (i e s n : Nat) (cs ds : List AV) (st : St) (hi : st.hp[i]? = some (.list e s n cs)) (hl : LessL cs ds) : Sub st ⟨st.fr, st.hp.set i (.list e s n ds)⟩ := by
 intro Z0 w0 a w hS
 obtain ⟨μ, F, hFb, hH, hF, hdf, hb⟩ := hS
 refine ⟨μ, F, hFb, hH.less hi hl, hF, hdf.keep (fun j x hj => ⟨?_, fun u hu => hu⟩), hb⟩
 have hne : i ≠ j := fun q => by subst q; rw [hi] at hj; cases hj
 simp only
 rw [List.getElem?_set_ne hne]; exact hj
theorem R.unV {rd : Option Nat} {P : Program} {m : M} {Q : Exit → St → Prop} (i e el : Nat) (L : List (Value × List Int)) (h : subOk m = true) (hi : m.st.hp[i]? = some (rowA (eV eI el 1) e 1 L)) (h' : Runs rd P ⟨m.ks, ⟨m.st.fr, m.st.hp.set i (rowA eLI e 1 (L.map Prod.snd))⟩⟩ Q) : Runs rd P m Q := by
 have hl := rowsV_less (E := eI) (el := el) (s := 1) (F := eLI) (fun r => rfl) L
 refine R.sub _ h (Sub.less i e 1 L.length _ _ m.st hi hl) ?_
 have e1 : rowA eLI e 1 (L.map Prod.snd) = .list e 1 L.length (rows eLI (L.map Prod.snd)) := by unfold rowA; rw [List.length_map]
 rwa [e1] at h'
theorem R.base {rd : Option Nat} {P : Program} {m : M} {Q : Exit → St → Prop} (h : subOk m = true) (h' : ∀ b, Runs rd P ⟨m.ks, ⟨m.st.fr, m.st.hp ++ [.inert (.base b)]⟩⟩ Q) : Runs rd P m Q := by
 obtain ⟨ks, st⟩ := m
 unfold subOk at h
 simp only [runs_iff] at h' ⊢
 try simp only at h h' ⊢
 have hs : ∀ Z0 w0 a w, Sim Z0 w0 st a w → Sim Z0 w0 ⟨st.fr, st.hp ++ [.inert (.base w0.heap.size)]⟩ a w := by
  intro Z0 w0 a w hS
  obtain ⟨μ, F, hFb, hH, hF, hdf, hb⟩ := hS
  have hlen := hH.len
  have mono : ∀ (i : Nat) (u : Value), μ[i]? = some u → (μ ++ [Value.bool false])[i]? = some u := fun i u hu => by
   rw [List.getElem?_append_left (List.getElem?_eq_some_iff.1 hu).1]; exact hu
  have old : ∀ {i : Nat} {o : AObj} {u : Value}, (st.hp ++ [.inert (.base w0.heap.size)])[i]? = some o → (μ ++ [Value.bool false])[i]? = some u → (st.hp[i]? = some o ∧ μ[i]? = some u) ∨ (o = .inert (.base w0.heap.size) ∧ u = .bool false) := by
   intro i o u h1 h2
   rcases Nat.lt_or_ge i st.hp.length with hi | hi
   ·rw [List.getElem?_append_left hi] at h1
    rw [List.getElem?_append_left (by omega)] at h2
    exact .inl ⟨h1, h2⟩
   ·rw [List.getElem?_append_right hi] at h1
    rw [List.getElem?_append_right (by omega)] at h2
    have e : i - st.hp.length = 0 := by
     have := (List.getElem?_eq_some_iff.1 h1).1
     simp at this; omega
    rw [e] at h1
    rw [show i - μ.length = 0 by omega] at h2
    simp at h1 h2
    exact .inr ⟨h1.symm, h2.symm⟩
  refine ⟨μ ++ [Value.bool false], F, hFb, ⟨by simp [hlen], fun i o u g h1 ha h2 hg => ?_, fun i u h2 => ?_, fun i o u h1 h2 => ?_, fun i j oi oj ui uj g hne h1 h2 ha hb' h3 h4 hg1 hg2 => ?_⟩, RelL.keep (fun _ _ _ => rfl) mono hF, hdf.keep (fun j x hj => ⟨?_, fun u hu => mono j u hu⟩), hb⟩
  ·rcases old h1 h2 with ⟨k1, k2⟩ | ⟨_, rfl⟩
   ·exact hH.zone i o u g k1 ha k2 hg
   ·cases hg
  ·rcases Nat.lt_or_ge i μ.length with hi | hi
   ·rw [List.getElem?_append_left hi] at h2; exact hH.one i u h2
   ·rw [List.getElem?_append_right hi] at h2
    have e : i - μ.length = 0 := by
     have := (List.getElem?_eq_some_iff.1 h2).1
     simp at this; omega
    rw [e] at h2
    simp at h2
    rw [← h2]; rfl
  ·rcases old h1 h2 with ⟨k1, k2⟩ | ⟨rfl, rfl⟩
   ·exact ObjRel.keep (fun _ _ _ => rfl) mono (fun _ _ => rfl) (hH.obj i o u k1 k2)
   ·exact ⟨rfl, rfl⟩
  ·rcases old h1 h3 with ⟨k1, k2⟩ | ⟨_, rfl⟩
   ·rcases old h2 h4 with ⟨k3, k4⟩ | ⟨_, rfl⟩
    ·exact hH.sep i j oi oj ui uj g hne k1 k3 ha hb' k2 k4 hg1 hg2
    ·cases hg2
   ·cases hg1
  ·rw [List.getElem?_append_left (List.getElem?_eq_some_iff.1 hj).1]; exact hj
 split at h
 ·intro Z0 w0 a w hS
  exact h' w0.heap.size Z0 w0 a w (hs Z0 w0 a w hS)
 ·intro hw Z0 w0 a w hS
  exact h' w0.heap.size headW_false Z0 w0 a w (hs Z0 w0 a w hS)
 ·intro Z0 w0 a w hS
  exact h' w0.heap.size Z0 w0 a w (hs Z0 w0 a w hS)
 ·cases h
end Go.Abs
