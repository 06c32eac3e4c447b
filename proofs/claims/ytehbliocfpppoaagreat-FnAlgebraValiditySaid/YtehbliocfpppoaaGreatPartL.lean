/- Texts of the proof: AV4B. -/
import Derived.Test.YtehbliocfpppoaaGreatPartK

/-! Known sequents, drawn: the draw. -/
namespace Go.Proofs.YtehbliocfpppoaaGreat
open Go.RowKit Go.Abs
set_option maxHeartbeats 40000000 in
theorem known_c_r2 (c : List Int) (p : Nat) (h : Int) (eo1 so1 no1 : Nat) (co1 : List AV) (eo2 so2 no2 : Nat) (co2 : List AV) (hc : BY c) : CallX Tryz.prog 62 [.ptr 0 0] [.box 123 [LB c, AI (p : Int), .int .u64 h], .list eo1 so1 no1 co1, .list eo2 so2 no2 co2] (fun (resX : AV) (objX : List AObj) => ∃ nm : ByteArray, ∃ L W : List ByteArray, ∃ p1 : Nat, ∃ h1 : Int, (L.length ≤ 100 ∧ W.length ≤ 100) ∧ (∀ j : Nat, (L.getD j (⟨#[]⟩ : ByteArray)).size ≤ 1000) ∧ (∀ j : Nat, (W.getD j (⟨#[]⟩ : ByteArray)).size ≤ 1000) ∧ resX = .tup [.str nm, .agg [lstA eY 1 L, lstA eY 1 W]] ∧ objX = [.box 123 [LB c, AI (p1 : Int), .int .u64 h1], .list eo1 so1 no1 co1, .list eo2 so2 no2 co2]) := by
 have hcl : c.length ≤ 4096 := hc.1
 have hcb := hc.2
 refine CallX.dropE (CallX.ofF Tryz.func62 rfl (by kernel_rfl) ?_)
 intro usC frC hfC
 refine R.go 8 (k25 (k26a 3 usC frC (k27d 3 92 [.nil, .nil] (drawM_c_r3 ((3 : Int).toNat) c p h 3 2 true eo1 so1 no1 co1 eo2 so2 no2 co2 92 2 1 [.nil, .nil] (by rfl) hc (by omega) (by omega))) (h3 := by rintro _ _ ⟨_, ⟨_, _, _, _, _, rfl, rfl⟩, rfl⟩; exact Nat.le_of_ble_eq_true (by kernel_rfl))) ?_)
 rintro _ _ ⟨_, _, ⟨_, ⟨r_1, p1_2, h1_3, f4, f5, rfl, rfl⟩, rfl⟩, rfl, rfl⟩
 refine R.go 1 (k25 (k26a 3 usC frC (k27d 3 92 [.nil, .nil] (drawM_c_r3 ((3 : Int).toNat) c p1_2 h1_3 3 2 true eo1 so1 no1 co1 eo2 so2 no2 co2 92 2 1 [.nil, .nil] (by rfl) hc (by omega) (by omega))) (h3 := by rintro _ _ ⟨_, ⟨_, _, _, _, _, rfl, rfl⟩, rfl⟩; exact Nat.le_of_ble_eq_true (by kernel_rfl))) ?_)
 rintro _ _ ⟨_, _, ⟨_, ⟨r_6, p1_7, h1_8, f9, f10, rfl, rfl⟩, rfl⟩, rfl, rfl⟩
 refine R.go 7 (k15 true (l02Pair_c 4 r_1 r_6 (by first | omega | (simp <;> omega)) (by first | omega | (simp <;> omega))).frz (R.go 5 (k15 true (l02Pre_c 5 r_1 (by first | omega | (simp <;> omega))).frz (R.go 5 (R.nilB 4 0 9 1 (by kernel_rfl) (R.nilB 4 1 9 1 (by kernel_rfl) (R.go 1 (k19 5 (R.kfix 3 (us := usC) (by kernel_rfl) (hfC.frz 5 (lstA eY 1 []) (Nat.le_of_ble_eq_true (by kernel_rfl))) (k19 6 (R.kfix 3 (us := usC) (by kernel_rfl) (hfC.frz 6 (lstA eY 1 []) (Nat.le_of_ble_eq_true (by kernel_rfl))) (R.deadF 5 (by kernel_rfl) (by kernel_rfl) (R.deadF 6 (by kernel_rfl) (by kernel_rfl) ?_)))))))))))))
 refine k25 (k26k 3 usC frC (k26l 4 [] [] (k26d 4 [] [] (k27a 3 92 [lstA eY 1 [], lstA eY 1 []] (nextX_c_r3 c p1_7 h1_8 7 eo1 so1 no1 co1 eo2 so2 no2 co2 92 2 1 [lstA eY 1 [], lstA eY 1 []] hc))))) ?_
 rintro _ _ ⟨_, _, ⟨_, _, ⟨_, _, ⟨_, ⟨v_11, p1_12, h1_13, f14, rfl, rfl⟩, rfl⟩, rfl, rfl⟩, rfl, rfl⟩, rfl, rfl⟩
 refine R.go 7 (k4 (v_11 = 0) (fun c15 => ?_) (fun c15 => ?_))
 ·refine R.go 1 (R.anyInv (fun (y : Nat → AV) (x : Nat × Int × (List ByteArray) × (List ByteArray)) => match x with | (p_16, h_17, L_18, W_19) => (⟨(frm 125 [(0, .ptr 0 0), (2, (y 17)), (3, .ptr 4 0), (4, LN r_1), (5, LN r_6), (6, LN ((4, 0) :: (r_1 ++ r_6))), (7, LN ((5, 0) :: r_1)), (8, .ptr 0 0), (9, LN r_1), (10, .ptr 0 0), (11, LN r_6), (12, LN r_1), (13, LN r_6), (14, LN ((4, 0) :: (r_1 ++ r_6))), (15, LN r_1), (16, LN ((5, 0) :: r_1)), (17, .ptr 0 0), (18, AI v_11), (19, .bool (decide (v_11 = 0))), (20, .bool (decide (v_11 = 0))), (21, (y 0)), (22, (y 1)), (23, (y 2)), (24, (y 3)), (25, (y 4)), (26, (y 5)), (27, (y 6)), (28, (y 7)), (29, (y 8)), (30, (y 9)), (31, (y 10)), (32, (y 11)), (33, (y 12)), (34, (y 13)), (35, (y 14)), (36, (y 15)), (37, (y 16))]), [.box 123 [LB c, AI (p_16 : Int), .int .u64 h_17], .list eo1 so1 no1 co1, .list eo2 so2 no2 co2, .frame usC frC, .box 92 [lstA eY 1 L_18, lstA eY 1 W_19], .frame [] [], .frame [] []]⟩ : St)) (fun (k : Nat) (u : AV) (x : Nat × Int × (List ByteArray) × (List ByteArray)) => match x with | (p_16, h_17, L_18, W_19) => if k = 18 then ((L_18.length ≤ 10 ∧ W_19.length ≤ 10) ∧ (∀ j : Nat, (L_18.getD j (⟨#[]⟩ : ByteArray)).size ≤ 1000) ∧ (∀ j : Nat, (W_19.getD j (⟨#[]⟩ : ByteArray)).size ≤ 1000)) else ([fun u => ∃ L0 : List ByteArray, u = (lstA eY 1 L0 : AV) ∧ (L0.length = 7) ∧ (∀ j : Nat, (L0.getD j (⟨#[]⟩ : ByteArray)).size ≤ 1000), fun u => u = (.ptr 0 0 : AV), fun u => ∃ v2 : Int, u = (AI v2 : AV) ∧ (0 ≤ v2 ∧ v2 < 7), fun u => ∃ s3 : ByteArray, u = (.rptr [.str s3] : AV) ∧ (s3.size ≤ 1000 ), fun u => ∃ s4 : ByteArray, u = (.str s4 : AV) ∧ (s4.size ≤ 1000), fun u => u = (LN ((4, 0) :: (r_1 ++ r_6)) : AV), fun u => ∃ r6 : List (Int × Int), u = (LN r6 : AV) ∧ (OKM 6 r6) ∧ (r6.length ≤ 8), fun u => ∃ s7 : ByteArray, u = (.str s7 : AV) ∧ (s7.size ≤ 1000), fun u => ∃ L8 : List ByteArray, u = (lstA eY 1 L8 : AV) ∧ (L8.length ≤ 1) ∧ (∀ j : Nat, (L8.getD j (⟨#[]⟩ : ByteArray)).size ≤ 1000), fun u => u = (LN ((5, 0) :: r_1) : AV), fun u => ∃ s10 : ByteArray, u = (.str s10 : AV) ∧ (s10.size ≤ 1000), fun u => ∃ L11 : List ByteArray, u = (lstA eY 1 L11 : AV) ∧ (L11.length ≤ 2) ∧ (∀ j : Nat, (L11.getD j (⟨#[]⟩ : ByteArray)).size ≤ 1000), fun u => u = (LN r_6 : AV), fun u => ∃ r13 : List (Int × Int), u = (LN r13 : AV) ∧ (OKM 6 r13) ∧ (r13.length ≤ 4), fun u => ∃ s14 : ByteArray, u = (.str s14 : AV) ∧ (s14.size ≤ 1000), fun u => ∃ L15 : List ByteArray, u = (lstA eY 1 L15 : AV) ∧ (L15.length ≤ 1) ∧ (∀ j : Nat, (L15.getD j (⟨#[]⟩ : ByteArray)).size ≤ 1000), fun u => ∃ L16 : List ByteArray, ∃ W16 : List ByteArray, u = (.agg [lstA eY 1 L16, lstA eY 1 W16] : AV) ∧ (L16.length ≤ 10 ∧ W16.length ≤ 10) ∧ (∀ j : Nat, (L16.getD j (⟨#[]⟩ : ByteArray)).size ≤ 1000) ∧ (∀ j : Nat, (W16.getD j (⟨#[]⟩ : ByteArray)).size ≤ 1000), fun u => ∃ s17 : ByteArray, u = (.str s17 : AV) ∧ (s17.size ≤ 1000), fun u => True] : List (AV → Prop)).getD k (fun _ => True) u) (fun k => ([.top, .top, .top, .top, .top, .top, .top, .top, .top, .top, .top, .top, .top, .top, .top, .top, .top, .str (⟨#[]⟩ : ByteArray), .top] : List AV).getD k .top) (p1_12, h1_13, [], []) 19 (by decide +kernel) (by kernel_rfl) (by kernel_rfl) (by kernel_rfl) (by kernel_rfl) (allK_c ?_ (allK_c ?_ (allK_c ?_ (allK_c ?_ (allK_c ?_ (allK_c ?_ (allK_c ?_ (allK_c ?_ (allK_c ?_ (allK_c ?_ (allK_c ?_ (allK_c ?_ (allK_c ?_ (allK_c ?_ (allK_c ?_ (allK_c ?_ (allK_c ?_ (allK_c ?_ (allK_c ?_ allK_0))))))))))))))))))) ?_)
  ·rintro y ⟨p_20, h_21, L_22, W_23⟩ hd
   clear hd
   refine R.lit (s := 1) (n := 7) (cs := rows eY [(⟨#[75]⟩ : ByteArray), (⟨#[68]⟩ : ByteArray), (⟨#[84]⟩ : ByteArray), (⟨#[75, 52]⟩ : ByteArray), (⟨#[83, 52]⟩ : ByteArray), (⟨#[71, 76]⟩ : ByteArray), (⟨#[83, 53]⟩ : ByteArray)]) (by kernel_rfl) (by kernel_rfl) ?_
   exact R.go 1 (R.one (lstA eY 1 [(⟨#[75]⟩ : ByteArray), (⟨#[68]⟩ : ByteArray), (⟨#[84]⟩ : ByteArray), (⟨#[75, 52]⟩ : ByteArray), (⟨#[83, 52]⟩ : ByteArray), (⟨#[71, 76]⟩ : ByteArray), (⟨#[83, 53]⟩ : ByteArray)]) (p_20, h_21, L_22, W_23) (by kernel_rfl) (by kernel_rfl) (show ∃ L0 : List ByteArray, (lstA eY 1 [(⟨#[75]⟩ : ByteArray), (⟨#[68]⟩ : ByteArray), (⟨#[84]⟩ : ByteArray), (⟨#[75, 52]⟩ : ByteArray), (⟨#[83, 52]⟩ : ByteArray), (⟨#[71, 76]⟩ : ByteArray), (⟨#[83, 53]⟩ : ByteArray)] : AV) = (lstA eY 1 L0 : AV) ∧ (L0.length = 7) ∧ (∀ j : Nat, (L0.getD j (⟨#[]⟩ : ByteArray)).size ≤ 1000) from ⟨[(⟨#[75]⟩ : ByteArray), (⟨#[68]⟩ : ByteArray), (⟨#[84]⟩ : ByteArray), (⟨#[75, 52]⟩ : ByteArray), (⟨#[83, 52]⟩ : ByteArray), (⟨#[71, 76]⟩ : ByteArray), (⟨#[83, 53]⟩ : ByteArray)], rfl, by first | assumption | omega | rfl | (simp only [List.length_cons, List.length_append, List.length_nil]; omega), by first | assumption | exact yz_one (by omega) | exact yz_nil | exact yz7 (by decide)⟩) (fun _ _ _ hq => hq))
  ·rintro y ⟨p_24, h_25, L_26, W_27⟩ hd
   clear hd
   exact R.go 2 (R.one (.ptr 0 0) (p_24, h_25, L_26, W_27) (by kernel_rfl) (by kernel_rfl) (show (.ptr 0 0 : AV) = (.ptr 0 0 : AV) from rfl) (fun _ _ _ hq => hq))
  ·rintro y ⟨p_28, h_29, L_30, W_31⟩ hd
   have hy32 : y 1 = (.ptr 0 0 : AV) := hd 1 (by kernel_rfl)
   clear hd
   obtain ⟨y, rfl⟩ : ∃ y', y = updY y' 1 (.ptr 0 0) := ⟨y, updY_eq (by exact hy32)⟩
   refine k25 (k26k 3 usC frC (k26l 4 [] [] (k26d 4 [] [] (k27a 3 92 [lstA eY 1 L_30, lstA eY 1 W_31] (nextX_c_r3 c p_28 h_29 7 eo1 so1 no1 co1 eo2 so2 no2 co2 92 2 1 [lstA eY 1 L_30, lstA eY 1 W_31] hc))))) ?_
   rintro _ _ ⟨_, _, ⟨_, _, ⟨_, _, ⟨_, ⟨v_33, p1_34, h1_35, f36, rfl, rfl⟩, rfl⟩, rfl, rfl⟩, rfl, rfl⟩, rfl, rfl⟩
   exact R.go 1 (R.one (AI v_33) (p1_34, h1_35, L_30, W_31) (by kernel_rfl) (by kernel_rfl) (show ∃ v2 : Int, (AI v_33 : AV) = (AI v2 : AV) ∧ (0 ≤ v2 ∧ v2 < 7) from ⟨v_33, rfl, by first | assumption | omega | rfl | (simp only [List.length_cons, List.length_append, List.length_nil]; omega)⟩) (fun _ _ _ hq => hq))
  ·rintro y ⟨p_37, h_38, L_39, W_40⟩ hd
   obtain ⟨L0_41, hy42, hq0_0, hq0_1⟩ : ∃ L0 : List ByteArray, y 0 = (lstA eY 1 L0 : AV) ∧ (L0.length = 7) ∧ (∀ j : Nat, (L0.getD j (⟨#[]⟩ : ByteArray)).size ≤ 1000) := hd 0 (by kernel_rfl)
   obtain ⟨v2_43, hy44, hq2_0⟩ : ∃ v2 : Int, y 2 = (AI v2 : AV) ∧ (0 ≤ v2 ∧ v2 < 7) := hd 2 (by kernel_rfl)
   clear hd
   obtain ⟨y, rfl⟩ : ∃ y', y = updY y' 0 (lstA eY 1 L0_41) := ⟨y, updY_eq (by exact hy42)⟩
   obtain ⟨y, rfl⟩ : ∃ y', y = updY y' 2 (AI v2_43) := ⟨y, updY_eq (by exact hy44)⟩
   refine k10 eY L0_41 (⟨#[]⟩ : ByteArray) ((v2_43).toNat) v2_43 eY_len ?_ (hji := by omega)
   exact R.go 1 (R.one (.rptr [.str (L0_41.getD ((v2_43).toNat) (⟨#[]⟩ : ByteArray))]) (p_37, h_38, L_39, W_40) (by kernel_rfl) (by kernel_rfl) (show ∃ s3 : ByteArray, (.rptr [.str (L0_41.getD ((v2_43).toNat) (⟨#[]⟩ : ByteArray))] : AV) = (.rptr [.str s3] : AV) ∧ (s3.size ≤ 1000 ) from ⟨(L0_41.getD ((v2_43).toNat) (⟨#[]⟩ : ByteArray)), rfl, by exact hq0_1 _⟩) (fun _ _ _ hq => hq))
  ·rintro y ⟨p_45, h_46, L_47, W_48⟩ hd
   obtain ⟨s3_49, hy50, hq3_0⟩ : ∃ s3 : ByteArray, y 3 = (.rptr [.str s3] : AV) ∧ (s3.size ≤ 1000 ) := hd 3 (by kernel_rfl)
   clear hd
   obtain ⟨y, rfl⟩ : ∃ y', y = updY y' 3 (.rptr [.str s3_49]) := ⟨y, updY_eq (by exact hy50)⟩
   exact R.go 2 (R.one (.str s3_49) (p_45, h_46, L_47, W_48) (by kernel_rfl) (by kernel_rfl) (show ∃ s4 : ByteArray, (.str s3_49 : AV) = (.str s4 : AV) ∧ (s4.size ≤ 1000) from ⟨s3_49, rfl, by first | assumption | omega | (simp only [List.length_cons, List.length_append, List.length_nil] at *; omega)⟩) (fun _ _ _ hq => hq))
  ·rintro y ⟨p_51, h_52, L_53, W_54⟩ hd
   clear hd
   exact R.go 2 (R.one (LN ((4, 0) :: (r_1 ++ r_6))) (p_51, h_52, L_53, W_54) (by kernel_rfl) (by kernel_rfl) (show (LN ((4, 0) :: (r_1 ++ r_6)) : AV) = (LN ((4, 0) :: (r_1 ++ r_6)) : AV) from rfl) (fun _ _ _ hq => hq))
  ·rintro y ⟨p_55, h_56, L_57, W_58⟩ hd
   have hy59 : y 5 = (LN ((4, 0) :: (r_1 ++ r_6)) : AV) := hd 5 (by kernel_rfl)
   clear hd
   obtain ⟨y, rfl⟩ : ∃ y', y = updY y' 5 (LN ((4, 0) :: (r_1 ++ r_6))) := ⟨y, updY_eq (by exact hy59)⟩
   refine k15 true (l02Pre_c 5 ((4, 0) :: (r_1 ++ r_6)) (by first | omega | (simp <;> omega))).frz ?_
   exact R.go 1 (R.one (LN ((5, 0) :: ((4, 0) :: (r_1 ++ r_6)))) (p_55, h_56, L_57, W_58) (by kernel_rfl) (by kernel_rfl) (show ∃ r6 : List (Int × Int), (LN ((5, 0) :: ((4, 0) :: (r_1 ++ r_6))) : AV) = (LN r6 : AV) ∧ (OKM 6 r6) ∧ (r6.length ≤ 8) from ⟨(5, 0) :: ((4, 0) :: (r_1 ++ r_6)), rfl, by first | assumption | exact okm_mk1 (by omega) (by first | assumption | exact okm_mk1 (by omega) (by assumption) | exact okm_mk2 (by omega) (by assumption) (by assumption)) | exact okm_mk2 (by omega) (by first | assumption | exact okm_mk2 (by omega) (by assumption) (by assumption) | exact okm_mk1 (by omega) (by assumption)) (by first | assumption | exact okm_mk1 (by omega) (by assumption)), by first | assumption | omega | rfl | (simp only [List.length_cons, List.length_append, List.length_nil]; omega)⟩) (fun _ _ _ hq => hq))
  ·rintro y ⟨p_60, h_61, L_62, W_63⟩ hd
   obtain ⟨r6_64, hy65, hq6_0, hq6_1⟩ : ∃ r6 : List (Int × Int), y 6 = (LN r6 : AV) ∧ (OKM 6 r6) ∧ (r6.length ≤ 8) := hd 6 (by kernel_rfl)
   clear hd
   obtain ⟨y, rfl⟩ : ∃ y', y = updY y' 6 (LN r6_64) := ⟨y, updY_eq (by exact hy65)⟩
   refine k29 (textX_c r6_64 hq6_0 (by first | omega | (simp only [List.length_cons, List.length_append, List.length_nil]; omega))) (by rintro _ _ ⟨_, _, rfl, rfl⟩; rfl) ?_
   rintro _ ⟨s_66, f67, rfl, _⟩
   exact R.go 1 (R.one (.str s_66) (p_60, h_61, L_62, W_63) (by kernel_rfl) (by kernel_rfl) (show ∃ s7 : ByteArray, (.str s_66 : AV) = (.str s7 : AV) ∧ (s7.size ≤ 1000) from ⟨s_66, rfl, by first | assumption | omega | (simp only [List.length_cons, List.length_append, List.length_nil] at *; omega)⟩) (fun _ _ _ hq => hq))
  ·rintro y ⟨p_68, h_69, L_70, W_71⟩ hd
   obtain ⟨s7_72, hy73, hq7_0⟩ : ∃ s7 : ByteArray, y 7 = (.str s7 : AV) ∧ (s7.size ≤ 1000) := hd 7 (by kernel_rfl)
   clear hd
   obtain ⟨y, rfl⟩ : ∃ y', y = updY y' 7 (.str s7_72) := ⟨y, updY_eq (by exact hy73)⟩
   refine R.lit (s := 1) (n := 1) (cs := rows eY [s7_72]) (by kernel_rfl) (by kernel_rfl) ?_
   exact R.go 1 (R.one (lstA eY 1 [s7_72]) (p_68, h_69, L_70, W_71) (by kernel_rfl) (by kernel_rfl) (show ∃ L8 : List ByteArray, (lstA eY 1 [s7_72] : AV) = (lstA eY 1 L8 : AV) ∧ (L8.length ≤ 1) ∧ (∀ j : Nat, (L8.getD j (⟨#[]⟩ : ByteArray)).size ≤ 1000) from ⟨[s7_72], rfl, by first | assumption | omega | rfl | (simp only [List.length_cons, List.length_append, List.length_nil]; omega), by first | assumption | exact yz_one (by omega) | exact yz_nil | exact yz7 (by decide)⟩) (fun _ _ _ hq => hq))
  ·rintro y ⟨p_74, h_75, L_76, W_77⟩ hd
   clear hd
   exact R.go 2 (R.one (LN ((5, 0) :: r_1)) (p_74, h_75, L_76, W_77) (by kernel_rfl) (by kernel_rfl) (show (LN ((5, 0) :: r_1) : AV) = (LN ((5, 0) :: r_1) : AV) from rfl) (fun _ _ _ hq => hq))
  ·rintro y ⟨p_78, h_79, L_80, W_81⟩ hd
   have hy82 : y 9 = (LN ((5, 0) :: r_1) : AV) := hd 9 (by kernel_rfl)
   clear hd
   obtain ⟨y, rfl⟩ : ∃ y', y = updY y' 9 (LN ((5, 0) :: r_1)) := ⟨y, updY_eq (by exact hy82)⟩
   refine k29 (textX_c ((5, 0) :: r_1) (by first | assumption | exact hok9 (by assumption) | (repeat' first | assumption | refine okm_mk1 (by omega) ?_ | refine okm_mk2 (by omega) ?_ ?_)) (by first | omega | (simp only [List.length_cons, List.length_append, List.length_nil]; omega))) (by rintro _ _ ⟨_, _, rfl, rfl⟩; rfl) ?_
   rintro _ ⟨s_83, f84, rfl, _⟩
   exact R.go 1 (R.one (.str s_83) (p_78, h_79, L_80, W_81) (by kernel_rfl) (by kernel_rfl) (show ∃ s10 : ByteArray, (.str s_83 : AV) = (.str s10 : AV) ∧ (s10.size ≤ 1000) from ⟨s_83, rfl, by first | assumption | omega | (simp only [List.length_cons, List.length_append, List.length_nil] at *; omega)⟩) (fun _ _ _ hq => hq))
  ·rintro y ⟨p_85, h_86, L_87, W_88⟩ hd
   obtain ⟨L8_89, hy90, hq8_0, hq8_1⟩ : ∃ L8 : List ByteArray, y 8 = (lstA eY 1 L8 : AV) ∧ (L8.length ≤ 1) ∧ (∀ j : Nat, (L8.getD j (⟨#[]⟩ : ByteArray)).size ≤ 1000) := hd 8 (by kernel_rfl)
   obtain ⟨s10_91, hy92, hq10_0⟩ : ∃ s10 : ByteArray, y 10 = (.str s10 : AV) ∧ (s10.size ≤ 1000) := hd 10 (by kernel_rfl)
   clear hd
   obtain ⟨y, rfl⟩ : ∃ y', y = updY y' 8 (lstA eY 1 L8_89) := ⟨y, updY_eq (by exact hy90)⟩
   obtain ⟨y, rfl⟩ : ∃ y', y = updY y' 10 (.str s10_91) := ⟨y, updY_eq (by exact hy92)⟩
   refine k29 (insert_c L8_89 s10_91 (by omega) hq8_1 hq10_0) (by rintro _ _ ⟨_, _, _, rfl, rfl⟩; rfl) ?_
   rintro _ ⟨r_93, f94, f95, rfl, _⟩
   exact R.go 1 (R.one (lstA eY 1 r_93) (p_85, h_86, L_87, W_88) (by kernel_rfl) (by kernel_rfl) (show ∃ L11 : List ByteArray, (lstA eY 1 r_93 : AV) = (lstA eY 1 L11 : AV) ∧ (L11.length ≤ 2) ∧ (∀ j : Nat, (L11.getD j (⟨#[]⟩ : ByteArray)).size ≤ 1000) from ⟨r_93, rfl, by first | assumption | omega | rfl | (simp only [List.length_cons, List.length_append, List.length_nil]; omega), by first | assumption | exact yz_one (by omega) | exact yz_nil | exact yz7 (by decide)⟩) (fun _ _ _ hq => hq))
  ·rintro y ⟨p_96, h_97, L_98, W_99⟩ hd
   clear hd
   exact R.go 2 (R.one (LN r_6) (p_96, h_97, L_98, W_99) (by kernel_rfl) (by kernel_rfl) (show (LN r_6 : AV) = (LN r_6 : AV) from rfl) (fun _ _ _ hq => hq))
  ·rintro y ⟨p_100, h_101, L_102, W_103⟩ hd
   have hy104 : y 12 = (LN r_6 : AV) := hd 12 (by kernel_rfl)
   clear hd
   obtain ⟨y, rfl⟩ : ∃ y', y = updY y' 12 (LN r_6) := ⟨y, updY_eq (by exact hy104)⟩
   refine k15 true (l02Pre_c 5 r_6 (by first | omega | (simp <;> omega))).frz ?_
   exact R.go 1 (R.one (LN ((5, 0) :: r_6)) (p_100, h_101, L_102, W_103) (by kernel_rfl) (by kernel_rfl) (show ∃ r13 : List (Int × Int), (LN ((5, 0) :: r_6) : AV) = (LN r13 : AV) ∧ (OKM 6 r13) ∧ (r13.length ≤ 4) from ⟨(5, 0) :: r_6, rfl, by first | assumption | exact okm_mk1 (by omega) (by first | assumption | exact okm_mk1 (by omega) (by assumption) | exact okm_mk2 (by omega) (by assumption) (by assumption)) | exact okm_mk2 (by omega) (by first | assumption | exact okm_mk2 (by omega) (by assumption) (by assumption) | exact okm_mk1 (by omega) (by assumption)) (by first | assumption | exact okm_mk1 (by omega) (by assumption)), by first | assumption | omega | rfl | (simp only [List.length_cons, List.length_append, List.length_nil]; omega)⟩) (fun _ _ _ hq => hq))
  ·rintro y ⟨p_105, h_106, L_107, W_108⟩ hd
   obtain ⟨r13_109, hy110, hq13_0, hq13_1⟩ : ∃ r13 : List (Int × Int), y 13 = (LN r13 : AV) ∧ (OKM 6 r13) ∧ (r13.length ≤ 4) := hd 13 (by kernel_rfl)
   clear hd
   obtain ⟨y, rfl⟩ : ∃ y', y = updY y' 13 (LN r13_109) := ⟨y, updY_eq (by exact hy110)⟩
   refine k29 (textX_c r13_109 hq13_0 (by first | omega | (simp only [List.length_cons, List.length_append, List.length_nil]; omega))) (by rintro _ _ ⟨_, _, rfl, rfl⟩; rfl) ?_
   rintro _ ⟨s_111, f112, rfl, _⟩
   exact R.go 1 (R.one (.str s_111) (p_105, h_106, L_107, W_108) (by kernel_rfl) (by kernel_rfl) (show ∃ s14 : ByteArray, (.str s_111 : AV) = (.str s14 : AV) ∧ (s14.size ≤ 1000) from ⟨s_111, rfl, by first | assumption | omega | (simp only [List.length_cons, List.length_append, List.length_nil] at *; omega)⟩) (fun _ _ _ hq => hq))
  ·rintro y ⟨p_113, h_114, L_115, W_116⟩ hd
   obtain ⟨s14_117, hy118, hq14_0⟩ : ∃ s14 : ByteArray, y 14 = (.str s14 : AV) ∧ (s14.size ≤ 1000) := hd 14 (by kernel_rfl)
   clear hd
   obtain ⟨y, rfl⟩ : ∃ y', y = updY y' 14 (.str s14_117) := ⟨y, updY_eq (by exact hy118)⟩
   refine R.lit (s := 1) (n := 1) (cs := rows eY [s14_117]) (by kernel_rfl) (by kernel_rfl) ?_
   exact R.go 1 (R.one (lstA eY 1 [s14_117]) (p_113, h_114, L_115, W_116) (by kernel_rfl) (by kernel_rfl) (show ∃ L15 : List ByteArray, (lstA eY 1 [s14_117] : AV) = (lstA eY 1 L15 : AV) ∧ (L15.length ≤ 1) ∧ (∀ j : Nat, (L15.getD j (⟨#[]⟩ : ByteArray)).size ≤ 1000) from ⟨[s14_117], rfl, by first | assumption | omega | rfl | (simp only [List.length_cons, List.length_append, List.length_nil]; omega), by first | assumption | exact yz_one (by omega) | exact yz_nil | exact yz7 (by decide)⟩) (fun _ _ _ hq => hq))
  ·rintro y ⟨p_119, h_120, L_121, W_122⟩ hd
   obtain ⟨L11_123, hy124, hq11_0, hq11_1⟩ : ∃ L11 : List ByteArray, y 11 = (lstA eY 1 L11 : AV) ∧ (L11.length ≤ 2) ∧ (∀ j : Nat, (L11.getD j (⟨#[]⟩ : ByteArray)).size ≤ 1000) := hd 11 (by kernel_rfl)
   obtain ⟨L15_125, hy126, hq15_0, hq15_1⟩ : ∃ L15 : List ByteArray, y 15 = (lstA eY 1 L15 : AV) ∧ (L15.length ≤ 1) ∧ (∀ j : Nat, (L15.getD j (⟨#[]⟩ : ByteArray)).size ≤ 1000) := hd 15 (by kernel_rfl)
   clear hd
   obtain ⟨y, rfl⟩ : ∃ y', y = updY y' 11 (lstA eY 1 L11_123) := ⟨y, updY_eq (by exact hy124)⟩
   obtain ⟨y, rfl⟩ : ∃ y', y = updY y' 15 (lstA eY 1 L15_125) := ⟨y, updY_eq (by exact hy126)⟩
   exact R.go 2 (R.one (.agg [lstA eY 1 L11_123, lstA eY 1 L15_125]) (p_119, h_120, L_121, W_122) (by kernel_rfl) (by kernel_rfl) (show ∃ L16 : List ByteArray, ∃ W16 : List ByteArray, (.agg [lstA eY 1 L11_123, lstA eY 1 L15_125] : AV) = (.agg [lstA eY 1 L16, lstA eY 1 W16] : AV) ∧ (L16.length ≤ 10 ∧ W16.length ≤ 10) ∧ (∀ j : Nat, (L16.getD j (⟨#[]⟩ : ByteArray)).size ≤ 1000) ∧ (∀ j : Nat, (W16.getD j (⟨#[]⟩ : ByteArray)).size ≤ 1000) from ⟨L11_123, L15_125, rfl, by first | assumption | omega | rfl | (simp only [List.length_cons, List.length_append, List.length_nil]; omega), by first | assumption | exact yz_one (by omega) | exact yz_nil | exact yz7 (by decide), by first | assumption | exact yz_one (by omega) | exact yz_nil | exact yz7 (by decide)⟩) (fun _ _ _ hq => hq))
  ·rintro y ⟨p_127, h_128, L_129, W_130⟩ hd
   obtain ⟨s4_131, hy132, hq4_0⟩ : ∃ s4 : ByteArray, y 4 = (.str s4 : AV) ∧ (s4.size ≤ 1000) := hd 4 (by kernel_rfl)
   clear hd
   obtain ⟨y, rfl⟩ : ∃ y', y = updY y' 4 (.str s4_131) := ⟨y, updY_eq (by exact hy132)⟩
   exact R.go 2 (R.one (.str s4_131) (p_127, h_128, L_129, W_130) (by kernel_rfl) (by kernel_rfl) (show ∃ s17 : ByteArray, (.str s4_131 : AV) = (.str s17 : AV) ∧ (s17.size ≤ 1000) from ⟨s4_131, rfl, by first | assumption | omega | (simp only [List.length_cons, List.length_append, List.length_nil] at *; omega)⟩) (fun _ _ _ hq => hq))
  ·rintro y ⟨p_133, h_134, L_135, W_136⟩ hd
   obtain ⟨L16_137, W16_138, hy139, hq16_0, hq16_1, hq16_2⟩ : ∃ L16 : List ByteArray, ∃ W16 : List ByteArray, y 16 = (.agg [lstA eY 1 L16, lstA eY 1 W16] : AV) ∧ (L16.length ≤ 10 ∧ W16.length ≤ 10) ∧ (∀ j : Nat, (L16.getD j (⟨#[]⟩ : ByteArray)).size ≤ 1000) ∧ (∀ j : Nat, (W16.getD j (⟨#[]⟩ : ByteArray)).size ≤ 1000) := hd 16 (by kernel_rfl)
   clear hd
   obtain ⟨y, rfl⟩ : ∃ y', y = updY y' 16 (.agg [lstA eY 1 L16_137, lstA eY 1 W16_138]) := ⟨y, updY_eq (by exact hy139)⟩
   exact R.go 2 (R.one (.top) (p_133, h_134, L16_137, W16_138) (by kernel_rfl) (by kernel_rfl) (show (L16_137.length ≤ 10 ∧ W16_138.length ≤ 10) ∧ (∀ j : Nat, (L16_137.getD j (⟨#[]⟩ : ByteArray)).size ≤ 1000) ∧ (∀ j : Nat, (W16_138.getD j (⟨#[]⟩ : ByteArray)).size ≤ 1000) from ⟨by first | assumption | omega | rfl | (simp only [List.length_cons, List.length_append, List.length_nil]; omega), by first | assumption | exact yz_one (by omega) | exact yz_nil | exact yz7 (by decide), by first | assumption | exact yz_one (by omega) | exact yz_nil | exact yz7 (by decide)⟩) (fun j u hj hq => by simp only [if_neg hj] at hq ⊢; exact hq))
  rintro y ⟨p_140, h_141, L_142, W_143⟩ ⟨hk144, hk145, hk146, hk147, hk148, hk149, hk150, hk151, hk152, hk153, hk154, hk155, hk156, hk157, hk158, hk159, hk160, hk161, hk162, _⟩
  obtain ⟨s17_163, hy164, hq17_0⟩ : ∃ s17 : ByteArray, y 17 = (.str s17 : AV) ∧ (s17.size ≤ 1000) := hk161
  obtain ⟨y, rfl⟩ : ∃ y', y = updY y' 17 (.str s17_163) := ⟨y, updY_eq (by exact hy164)⟩
  obtain ⟨hs165, hs166, hs167⟩ : (L_142.length ≤ 10 ∧ W_143.length ≤ 10) ∧ (∀ j : Nat, (L_142.getD j (⟨#[]⟩ : ByteArray)).size ≤ 1000) ∧ (∀ j : Nat, (W_143.getD j (⟨#[]⟩ : ByteArray)).size ≤ 1000) := hk162
  exact R.retX (res := .tup [.str s17_163, .agg [lstA eY 1 L_142, lstA eY 1 W_143]]) (hp' := [.box 123 [LB c, AI (p_140 : Int), .int .u64 h_141], .list eo1 so1 no1 co1, .list eo2 so2 no2 co2, .dead, .box 92 [lstA eY 1 L_142, lstA eY 1 W_143], .frame [] [], .frame [] []]) (by kernel_rfl) (by kernel_rfl) (by kernel_rfl) (by kernel_rfl) ⟨[0, 1, 2], by kernel_rfl, by decide, s17_163, L_142, W_143, p_140, h_141, by first | omega | assumption | (simp; done) | (simp; omega) | exact yz_nil | exact yz_one (by first | assumption | omega | (simp only [List.length_cons, List.length_append, List.length_nil] at *; omega)), by first | omega | assumption | (simp; done) | (simp; omega) | exact yz_nil | exact yz_one (by first | assumption | omega | (simp only [List.length_cons, List.length_append, List.length_nil] at *; omega)), by first | omega | assumption | (simp; done) | (simp; omega) | exact yz_nil | exact yz_one (by first | assumption | omega | (simp only [List.length_cons, List.length_append, List.length_nil] at *; omega)), by kernel_rfl, by kernel_rfl⟩
 refine R.go 5 (k4 (v_11 = 1) (fun c168 => ?_) (fun c168 => ?_))
 ·refine R.go 1 (R.anyInv (fun (y : Nat → AV) (x : Nat × Int × (List ByteArray) × (List ByteArray)) => match x with | (p_169, h_170, L_171, W_172) => (⟨(frm 125 [(0, .ptr 0 0), (2, (y 12)), (3, .ptr 4 0), (4, LN r_1), (5, LN r_6), (6, LN ((4, 0) :: (r_1 ++ r_6))), (7, LN ((5, 0) :: r_1)), (8, .ptr 0 0), (9, LN r_1), (10, .ptr 0 0), (11, LN r_6), (12, LN r_1), (13, LN r_6), (14, LN ((4, 0) :: (r_1 ++ r_6))), (15, LN r_1), (16, LN ((5, 0) :: r_1)), (17, .ptr 0 0), (18, AI v_11), (19, .bool (decide (v_11 = 0))), (20, .bool (decide (v_11 = 0))), (38, .bool (decide (v_11 = 1))), (39, .bool (decide (v_11 = 1))), (40, (y 0)), (41, (y 1)), (42, (y 2)), (43, (y 3)), (44, (y 4)), (45, (y 5)), (46, (y 6)), (47, (y 7)), (48, (y 8)), (49, (y 9)), (50, (y 10)), (51, (y 11))]), [.box 123 [LB c, AI (p_169 : Int), .int .u64 h_170], .list eo1 so1 no1 co1, .list eo2 so2 no2 co2, .frame usC frC, .box 92 [lstA eY 1 L_171, lstA eY 1 W_172], .frame [] [], .frame [] []]⟩ : St)) (fun (k : Nat) (u : AV) (x : Nat × Int × (List ByteArray) × (List ByteArray)) => match x with | (p_169, h_170, L_171, W_172) => if k = 13 then ((L_171.length ≤ 10 ∧ W_172.length ≤ 10) ∧ (∀ j : Nat, (L_171.getD j (⟨#[]⟩ : ByteArray)).size ≤ 1000) ∧ (∀ j : Nat, (W_172.getD j (⟨#[]⟩ : ByteArray)).size ≤ 1000)) else ([fun u => ∃ L0 : List ByteArray, u = (lstA eY 1 L0 : AV) ∧ (L0.length = 3) ∧ (∀ j : Nat, (L0.getD j (⟨#[]⟩ : ByteArray)).size ≤ 1000), fun u => u = (.ptr 0 0 : AV), fun u => ∃ v2 : Int, u = (AI v2 : AV) ∧ (0 ≤ v2 ∧ v2 < 3), fun u => ∃ s3 : ByteArray, u = (.rptr [.str s3] : AV) ∧ (s3.size ≤ 1000 ), fun u => ∃ s4 : ByteArray, u = (.str s4 : AV) ∧ (s4.size ≤ 1000), fun u => u = (LN ((5, 0) :: r_1) : AV), fun u => ∃ s6 : ByteArray, u = (.str s6 : AV) ∧ (s6.size ≤ 1000), fun u => ∃ L7 : List ByteArray, u = (lstA eY 1 L7 : AV) ∧ (L7.length ≤ 1) ∧ (∀ j : Nat, (L7.getD j (⟨#[]⟩ : ByteArray)).size ≤ 1000), fun u => u = (LN r_1 : AV), fun u => ∃ s9 : ByteArray, u = (.str s9 : AV) ∧ (s9.size ≤ 1000), fun u => ∃ L10 : List ByteArray, u = (lstA eY 1 L10 : AV) ∧ (L10.length ≤ 1) ∧ (∀ j : Nat, (L10.getD j (⟨#[]⟩ : ByteArray)).size ≤ 1000), fun u => ∃ L11 : List ByteArray, ∃ W11 : List ByteArray, u = (.agg [lstA eY 1 L11, lstA eY 1 W11] : AV) ∧ (L11.length ≤ 10 ∧ W11.length ≤ 10) ∧ (∀ j : Nat, (L11.getD j (⟨#[]⟩ : ByteArray)).size ≤ 1000) ∧ (∀ j : Nat, (W11.getD j (⟨#[]⟩ : ByteArray)).size ≤ 1000), fun u => ∃ s12 : ByteArray, u = (.str s12 : AV) ∧ (s12.size ≤ 1000), fun u => True] : List (AV → Prop)).getD k (fun _ => True) u) (fun k => ([.top, .top, .top, .top, .top, .top, .top, .top, .top, .top, .top, .top, .str (⟨#[]⟩ : ByteArray), .top] : List AV).getD k .top) (p1_12, h1_13, [], []) 14 (by decide +kernel) (by kernel_rfl) (by kernel_rfl) (by kernel_rfl) (by kernel_rfl) (allK_c ?_ (allK_c ?_ (allK_c ?_ (allK_c ?_ (allK_c ?_ (allK_c ?_ (allK_c ?_ (allK_c ?_ (allK_c ?_ (allK_c ?_ (allK_c ?_ (allK_c ?_ (allK_c ?_ (allK_c ?_ allK_0)))))))))))))) ?_)
  ·rintro y ⟨p_173, h_174, L_175, W_176⟩ hd
   clear hd
   refine R.lit (s := 1) (n := 3) (cs := rows eY [(⟨#[84]⟩ : ByteArray), (⟨#[83, 52]⟩ : ByteArray), (⟨#[83, 53]⟩ : ByteArray)]) (by kernel_rfl) (by kernel_rfl) ?_
   exact R.go 1 (R.one (lstA eY 1 [(⟨#[84]⟩ : ByteArray), (⟨#[83, 52]⟩ : ByteArray), (⟨#[83, 53]⟩ : ByteArray)]) (p_173, h_174, L_175, W_176) (by kernel_rfl) (by kernel_rfl) (show ∃ L0 : List ByteArray, (lstA eY 1 [(⟨#[84]⟩ : ByteArray), (⟨#[83, 52]⟩ : ByteArray), (⟨#[83, 53]⟩ : ByteArray)] : AV) = (lstA eY 1 L0 : AV) ∧ (L0.length = 3) ∧ (∀ j : Nat, (L0.getD j (⟨#[]⟩ : ByteArray)).size ≤ 1000) from ⟨[(⟨#[84]⟩ : ByteArray), (⟨#[83, 52]⟩ : ByteArray), (⟨#[83, 53]⟩ : ByteArray)], rfl, by first | assumption | omega | rfl | (simp only [List.length_cons, List.length_append, List.length_nil]; omega), by first | assumption | exact yz_one (by omega) | exact yz_nil | exact yz7 (by decide)⟩) (fun _ _ _ hq => hq))
  ·rintro y ⟨p_177, h_178, L_179, W_180⟩ hd
   clear hd
   exact R.go 2 (R.one (.ptr 0 0) (p_177, h_178, L_179, W_180) (by kernel_rfl) (by kernel_rfl) (show (.ptr 0 0 : AV) = (.ptr 0 0 : AV) from rfl) (fun _ _ _ hq => hq))
  ·rintro y ⟨p_181, h_182, L_183, W_184⟩ hd
   have hy185 : y 1 = (.ptr 0 0 : AV) := hd 1 (by kernel_rfl)
   clear hd
   obtain ⟨y, rfl⟩ : ∃ y', y = updY y' 1 (.ptr 0 0) := ⟨y, updY_eq (by exact hy185)⟩
   refine k25 (k26k 3 usC frC (k26l 4 [] [] (k26d 4 [] [] (k27a 3 92 [lstA eY 1 L_183, lstA eY 1 W_184] (nextX_c_r3 c p_181 h_182 3 eo1 so1 no1 co1 eo2 so2 no2 co2 92 2 1 [lstA eY 1 L_183, lstA eY 1 W_184] hc))))) ?_
   rintro _ _ ⟨_, _, ⟨_, _, ⟨_, _, ⟨_, ⟨v_186, p1_187, h1_188, f189, rfl, rfl⟩, rfl⟩, rfl, rfl⟩, rfl, rfl⟩, rfl, rfl⟩
   exact R.go 1 (R.one (AI v_186) (p1_187, h1_188, L_183, W_184) (by kernel_rfl) (by kernel_rfl) (show ∃ v2 : Int, (AI v_186 : AV) = (AI v2 : AV) ∧ (0 ≤ v2 ∧ v2 < 3) from ⟨v_186, rfl, by first | assumption | omega | rfl | (simp only [List.length_cons, List.length_append, List.length_nil]; omega)⟩) (fun _ _ _ hq => hq))
  ·rintro y ⟨p_190, h_191, L_192, W_193⟩ hd
   obtain ⟨L0_194, hy195, hq0_0, hq0_1⟩ : ∃ L0 : List ByteArray, y 0 = (lstA eY 1 L0 : AV) ∧ (L0.length = 3) ∧ (∀ j : Nat, (L0.getD j (⟨#[]⟩ : ByteArray)).size ≤ 1000) := hd 0 (by kernel_rfl)
   obtain ⟨v2_196, hy197, hq2_0⟩ : ∃ v2 : Int, y 2 = (AI v2 : AV) ∧ (0 ≤ v2 ∧ v2 < 3) := hd 2 (by kernel_rfl)
   clear hd
   obtain ⟨y, rfl⟩ : ∃ y', y = updY y' 0 (lstA eY 1 L0_194) := ⟨y, updY_eq (by exact hy195)⟩
   obtain ⟨y, rfl⟩ : ∃ y', y = updY y' 2 (AI v2_196) := ⟨y, updY_eq (by exact hy197)⟩
   refine k10 eY L0_194 (⟨#[]⟩ : ByteArray) ((v2_196).toNat) v2_196 eY_len ?_ (hji := by omega)
   exact R.go 1 (R.one (.rptr [.str (L0_194.getD ((v2_196).toNat) (⟨#[]⟩ : ByteArray))]) (p_190, h_191, L_192, W_193) (by kernel_rfl) (by kernel_rfl) (show ∃ s3 : ByteArray, (.rptr [.str (L0_194.getD ((v2_196).toNat) (⟨#[]⟩ : ByteArray))] : AV) = (.rptr [.str s3] : AV) ∧ (s3.size ≤ 1000 ) from ⟨(L0_194.getD ((v2_196).toNat) (⟨#[]⟩ : ByteArray)), rfl, by exact hq0_1 _⟩) (fun _ _ _ hq => hq))
  ·rintro y ⟨p_198, h_199, L_200, W_201⟩ hd
   obtain ⟨s3_202, hy203, hq3_0⟩ : ∃ s3 : ByteArray, y 3 = (.rptr [.str s3] : AV) ∧ (s3.size ≤ 1000 ) := hd 3 (by kernel_rfl)
   clear hd
   obtain ⟨y, rfl⟩ : ∃ y', y = updY y' 3 (.rptr [.str s3_202]) := ⟨y, updY_eq (by exact hy203)⟩
   exact R.go 2 (R.one (.str s3_202) (p_198, h_199, L_200, W_201) (by kernel_rfl) (by kernel_rfl) (show ∃ s4 : ByteArray, (.str s3_202 : AV) = (.str s4 : AV) ∧ (s4.size ≤ 1000) from ⟨s3_202, rfl, by first | assumption | omega | (simp only [List.length_cons, List.length_append, List.length_nil] at *; omega)⟩) (fun _ _ _ hq => hq))
  ·rintro y ⟨p_204, h_205, L_206, W_207⟩ hd
   clear hd
   exact R.go 2 (R.one (LN ((5, 0) :: r_1)) (p_204, h_205, L_206, W_207) (by kernel_rfl) (by kernel_rfl) (show (LN ((5, 0) :: r_1) : AV) = (LN ((5, 0) :: r_1) : AV) from rfl) (fun _ _ _ hq => hq))
  ·rintro y ⟨p_208, h_209, L_210, W_211⟩ hd
   have hy212 : y 5 = (LN ((5, 0) :: r_1) : AV) := hd 5 (by kernel_rfl)
   clear hd
   obtain ⟨y, rfl⟩ : ∃ y', y = updY y' 5 (LN ((5, 0) :: r_1)) := ⟨y, updY_eq (by exact hy212)⟩
   refine k29 (textX_c ((5, 0) :: r_1) (by first | assumption | exact hok9 (by assumption) | (repeat' first | assumption | refine okm_mk1 (by omega) ?_ | refine okm_mk2 (by omega) ?_ ?_)) (by first | omega | (simp only [List.length_cons, List.length_append, List.length_nil]; omega))) (by rintro _ _ ⟨_, _, rfl, rfl⟩; rfl) ?_
   rintro _ ⟨s_213, f214, rfl, _⟩
   exact R.go 1 (R.one (.str s_213) (p_208, h_209, L_210, W_211) (by kernel_rfl) (by kernel_rfl) (show ∃ s6 : ByteArray, (.str s_213 : AV) = (.str s6 : AV) ∧ (s6.size ≤ 1000) from ⟨s_213, rfl, by first | assumption | omega | (simp only [List.length_cons, List.length_append, List.length_nil] at *; omega)⟩) (fun _ _ _ hq => hq))
  ·rintro y ⟨p_215, h_216, L_217, W_218⟩ hd
   obtain ⟨s6_219, hy220, hq6_0⟩ : ∃ s6 : ByteArray, y 6 = (.str s6 : AV) ∧ (s6.size ≤ 1000) := hd 6 (by kernel_rfl)
   clear hd
   obtain ⟨y, rfl⟩ : ∃ y', y = updY y' 6 (.str s6_219) := ⟨y, updY_eq (by exact hy220)⟩
   refine R.lit (s := 1) (n := 1) (cs := rows eY [s6_219]) (by kernel_rfl) (by kernel_rfl) ?_
   exact R.go 1 (R.one (lstA eY 1 [s6_219]) (p_215, h_216, L_217, W_218) (by kernel_rfl) (by kernel_rfl) (show ∃ L7 : List ByteArray, (lstA eY 1 [s6_219] : AV) = (lstA eY 1 L7 : AV) ∧ (L7.length ≤ 1) ∧ (∀ j : Nat, (L7.getD j (⟨#[]⟩ : ByteArray)).size ≤ 1000) from ⟨[s6_219], rfl, by first | assumption | omega | rfl | (simp only [List.length_cons, List.length_append, List.length_nil]; omega), by first | assumption | exact yz_one (by omega) | exact yz_nil | exact yz7 (by decide)⟩) (fun _ _ _ hq => hq))
  ·rintro y ⟨p_221, h_222, L_223, W_224⟩ hd
   clear hd
   exact R.go 2 (R.one (LN r_1) (p_221, h_222, L_223, W_224) (by kernel_rfl) (by kernel_rfl) (show (LN r_1 : AV) = (LN r_1 : AV) from rfl) (fun _ _ _ hq => hq))
  ·rintro y ⟨p_225, h_226, L_227, W_228⟩ hd
   have hy229 : y 8 = (LN r_1 : AV) := hd 8 (by kernel_rfl)
   clear hd
   obtain ⟨y, rfl⟩ : ∃ y', y = updY y' 8 (LN r_1) := ⟨y, updY_eq (by exact hy229)⟩
   refine k29 (textX_c r_1 f5 (by first | omega | (simp only [List.length_cons, List.length_append, List.length_nil]; omega))) (by rintro _ _ ⟨_, _, rfl, rfl⟩; rfl) ?_
   rintro _ ⟨s_230, f231, rfl, _⟩
   exact R.go 1 (R.one (.str s_230) (p_225, h_226, L_227, W_228) (by kernel_rfl) (by kernel_rfl) (show ∃ s9 : ByteArray, (.str s_230 : AV) = (.str s9 : AV) ∧ (s9.size ≤ 1000) from ⟨s_230, rfl, by first | assumption | omega | (simp only [List.length_cons, List.length_append, List.length_nil] at *; omega)⟩) (fun _ _ _ hq => hq))
  ·rintro y ⟨p_232, h_233, L_234, W_235⟩ hd
   obtain ⟨s9_236, hy237, hq9_0⟩ : ∃ s9 : ByteArray, y 9 = (.str s9 : AV) ∧ (s9.size ≤ 1000) := hd 9 (by kernel_rfl)
   clear hd
   obtain ⟨y, rfl⟩ : ∃ y', y = updY y' 9 (.str s9_236) := ⟨y, updY_eq (by exact hy237)⟩
   refine R.lit (s := 1) (n := 1) (cs := rows eY [s9_236]) (by kernel_rfl) (by kernel_rfl) ?_
   exact R.go 1 (R.one (lstA eY 1 [s9_236]) (p_232, h_233, L_234, W_235) (by kernel_rfl) (by kernel_rfl) (show ∃ L10 : List ByteArray, (lstA eY 1 [s9_236] : AV) = (lstA eY 1 L10 : AV) ∧ (L10.length ≤ 1) ∧ (∀ j : Nat, (L10.getD j (⟨#[]⟩ : ByteArray)).size ≤ 1000) from ⟨[s9_236], rfl, by first | assumption | omega | rfl | (simp only [List.length_cons, List.length_append, List.length_nil]; omega), by first | assumption | exact yz_one (by omega) | exact yz_nil | exact yz7 (by decide)⟩) (fun _ _ _ hq => hq))
  ·rintro y ⟨p_238, h_239, L_240, W_241⟩ hd
   obtain ⟨L7_242, hy243, hq7_0, hq7_1⟩ : ∃ L7 : List ByteArray, y 7 = (lstA eY 1 L7 : AV) ∧ (L7.length ≤ 1) ∧ (∀ j : Nat, (L7.getD j (⟨#[]⟩ : ByteArray)).size ≤ 1000) := hd 7 (by kernel_rfl)
   obtain ⟨L10_244, hy245, hq10_0, hq10_1⟩ : ∃ L10 : List ByteArray, y 10 = (lstA eY 1 L10 : AV) ∧ (L10.length ≤ 1) ∧ (∀ j : Nat, (L10.getD j (⟨#[]⟩ : ByteArray)).size ≤ 1000) := hd 10 (by kernel_rfl)
   clear hd
   obtain ⟨y, rfl⟩ : ∃ y', y = updY y' 7 (lstA eY 1 L7_242) := ⟨y, updY_eq (by exact hy243)⟩
   obtain ⟨y, rfl⟩ : ∃ y', y = updY y' 10 (lstA eY 1 L10_244) := ⟨y, updY_eq (by exact hy245)⟩
   exact R.go 2 (R.one (.agg [lstA eY 1 L7_242, lstA eY 1 L10_244]) (p_238, h_239, L_240, W_241) (by kernel_rfl) (by kernel_rfl) (show ∃ L11 : List ByteArray, ∃ W11 : List ByteArray, (.agg [lstA eY 1 L7_242, lstA eY 1 L10_244] : AV) = (.agg [lstA eY 1 L11, lstA eY 1 W11] : AV) ∧ (L11.length ≤ 10 ∧ W11.length ≤ 10) ∧ (∀ j : Nat, (L11.getD j (⟨#[]⟩ : ByteArray)).size ≤ 1000) ∧ (∀ j : Nat, (W11.getD j (⟨#[]⟩ : ByteArray)).size ≤ 1000) from ⟨L7_242, L10_244, rfl, by first | assumption | omega | rfl | (simp only [List.length_cons, List.length_append, List.length_nil]; omega), by first | assumption | exact yz_one (by omega) | exact yz_nil | exact yz7 (by decide), by first | assumption | exact yz_one (by omega) | exact yz_nil | exact yz7 (by decide)⟩) (fun _ _ _ hq => hq))
  ·rintro y ⟨p_246, h_247, L_248, W_249⟩ hd
   obtain ⟨s4_250, hy251, hq4_0⟩ : ∃ s4 : ByteArray, y 4 = (.str s4 : AV) ∧ (s4.size ≤ 1000) := hd 4 (by kernel_rfl)
   clear hd
   obtain ⟨y, rfl⟩ : ∃ y', y = updY y' 4 (.str s4_250) := ⟨y, updY_eq (by exact hy251)⟩
   exact R.go 2 (R.one (.str s4_250) (p_246, h_247, L_248, W_249) (by kernel_rfl) (by kernel_rfl) (show ∃ s12 : ByteArray, (.str s4_250 : AV) = (.str s12 : AV) ∧ (s12.size ≤ 1000) from ⟨s4_250, rfl, by first | assumption | omega | (simp only [List.length_cons, List.length_append, List.length_nil] at *; omega)⟩) (fun _ _ _ hq => hq))
  ·rintro y ⟨p_252, h_253, L_254, W_255⟩ hd
   obtain ⟨L11_256, W11_257, hy258, hq11_0, hq11_1, hq11_2⟩ : ∃ L11 : List ByteArray, ∃ W11 : List ByteArray, y 11 = (.agg [lstA eY 1 L11, lstA eY 1 W11] : AV) ∧ (L11.length ≤ 10 ∧ W11.length ≤ 10) ∧ (∀ j : Nat, (L11.getD j (⟨#[]⟩ : ByteArray)).size ≤ 1000) ∧ (∀ j : Nat, (W11.getD j (⟨#[]⟩ : ByteArray)).size ≤ 1000) := hd 11 (by kernel_rfl)
   clear hd
   obtain ⟨y, rfl⟩ : ∃ y', y = updY y' 11 (.agg [lstA eY 1 L11_256, lstA eY 1 W11_257]) := ⟨y, updY_eq (by exact hy258)⟩
   exact R.go 2 (R.one (.top) (p_252, h_253, L11_256, W11_257) (by kernel_rfl) (by kernel_rfl) (show (L11_256.length ≤ 10 ∧ W11_257.length ≤ 10) ∧ (∀ j : Nat, (L11_256.getD j (⟨#[]⟩ : ByteArray)).size ≤ 1000) ∧ (∀ j : Nat, (W11_257.getD j (⟨#[]⟩ : ByteArray)).size ≤ 1000) from ⟨by first | assumption | omega | rfl | (simp only [List.length_cons, List.length_append, List.length_nil]; omega), by first | assumption | exact yz_one (by omega) | exact yz_nil | exact yz7 (by decide), by first | assumption | exact yz_one (by omega) | exact yz_nil | exact yz7 (by decide)⟩) (fun j u hj hq => by simp only [if_neg hj] at hq ⊢; exact hq))
  rintro y ⟨p_259, h_260, L_261, W_262⟩ ⟨hk263, hk264, hk265, hk266, hk267, hk268, hk269, hk270, hk271, hk272, hk273, hk274, hk275, hk276, _⟩
  obtain ⟨s12_277, hy278, hq12_0⟩ : ∃ s12 : ByteArray, y 12 = (.str s12 : AV) ∧ (s12.size ≤ 1000) := hk275
  obtain ⟨y, rfl⟩ : ∃ y', y = updY y' 12 (.str s12_277) := ⟨y, updY_eq (by exact hy278)⟩
  obtain ⟨hs279, hs280, hs281⟩ : (L_261.length ≤ 10 ∧ W_262.length ≤ 10) ∧ (∀ j : Nat, (L_261.getD j (⟨#[]⟩ : ByteArray)).size ≤ 1000) ∧ (∀ j : Nat, (W_262.getD j (⟨#[]⟩ : ByteArray)).size ≤ 1000) := hk276
  exact R.retX (res := .tup [.str s12_277, .agg [lstA eY 1 L_261, lstA eY 1 W_262]]) (hp' := [.box 123 [LB c, AI (p_259 : Int), .int .u64 h_260], .list eo1 so1 no1 co1, .list eo2 so2 no2 co2, .dead, .box 92 [lstA eY 1 L_261, lstA eY 1 W_262], .frame [] [], .frame [] []]) (by kernel_rfl) (by kernel_rfl) (by kernel_rfl) (by kernel_rfl) ⟨[0, 1, 2], by kernel_rfl, by decide, s12_277, L_261, W_262, p_259, h_260, by first | omega | assumption | (simp; done) | (simp; omega) | exact yz_nil | exact yz_one (by first | assumption | omega | (simp only [List.length_cons, List.length_append, List.length_nil] at *; omega)), by first | omega | assumption | (simp; done) | (simp; omega) | exact yz_nil | exact yz_one (by first | assumption | omega | (simp only [List.length_cons, List.length_append, List.length_nil] at *; omega)), by first | omega | assumption | (simp; done) | (simp; omega) | exact yz_nil | exact yz_one (by first | assumption | omega | (simp only [List.length_cons, List.length_append, List.length_nil] at *; omega)), by kernel_rfl, by kernel_rfl⟩
 refine R.go 5 (k4 (v_11 = 2) (fun c282 => ?_) (fun c282 => ?_))
 ·refine R.go 1 (R.anyInv (fun (y : Nat → AV) (x : Nat × Int × (List ByteArray) × (List ByteArray)) => match x with | (p_283, h_284, L_285, W_286) => (⟨(frm 125 [(0, .ptr 0 0), (2, (y 13)), (3, .ptr 4 0), (4, LN r_1), (5, LN r_6), (6, LN ((4, 0) :: (r_1 ++ r_6))), (7, LN ((5, 0) :: r_1)), (8, .ptr 0 0), (9, LN r_1), (10, .ptr 0 0), (11, LN r_6), (12, LN r_1), (13, LN r_6), (14, LN ((4, 0) :: (r_1 ++ r_6))), (15, LN r_1), (16, LN ((5, 0) :: r_1)), (17, .ptr 0 0), (18, AI v_11), (19, .bool (decide (v_11 = 0))), (20, .bool (decide (v_11 = 0))), (38, .bool (decide (v_11 = 1))), (39, .bool (decide (v_11 = 1))), (52, .bool (decide (v_11 = 2))), (53, .bool (decide (v_11 = 2))), (54, (y 0)), (55, (y 1)), (56, (y 2)), (57, (y 3)), (58, (y 4)), (59, (y 5)), (60, (y 6)), (61, (y 7)), (62, (y 8)), (63, (y 9)), (64, (y 10)), (65, (y 11)), (66, (y 12))]), [.box 123 [LB c, AI (p_283 : Int), .int .u64 h_284], .list eo1 so1 no1 co1, .list eo2 so2 no2 co2, .frame usC frC, .box 92 [lstA eY 1 L_285, lstA eY 1 W_286], .frame [] [], .frame [] []]⟩ : St)) (fun (k : Nat) (u : AV) (x : Nat × Int × (List ByteArray) × (List ByteArray)) => match x with | (p_283, h_284, L_285, W_286) => if k = 14 then ((L_285.length ≤ 10 ∧ W_286.length ≤ 10) ∧ (∀ j : Nat, (L_285.getD j (⟨#[]⟩ : ByteArray)).size ≤ 1000) ∧ (∀ j : Nat, (W_286.getD j (⟨#[]⟩ : ByteArray)).size ≤ 1000)) else ([fun u => ∃ L0 : List ByteArray, u = (lstA eY 1 L0 : AV) ∧ (L0.length = 4) ∧ (∀ j : Nat, (L0.getD j (⟨#[]⟩ : ByteArray)).size ≤ 1000), fun u => u = (.ptr 0 0 : AV), fun u => ∃ v2 : Int, u = (AI v2 : AV) ∧ (0 ≤ v2 ∧ v2 < 4), fun u => ∃ s3 : ByteArray, u = (.rptr [.str s3] : AV) ∧ (s3.size ≤ 1000 ), fun u => ∃ s4 : ByteArray, u = (.str s4 : AV) ∧ (s4.size ≤ 1000), fun u => u = (LN ((5, 0) :: r_1) : AV), fun u => ∃ s6 : ByteArray, u = (.str s6 : AV) ∧ (s6.size ≤ 1000), fun u => ∃ L7 : List ByteArray, u = (lstA eY 1 L7 : AV) ∧ (L7.length ≤ 1) ∧ (∀ j : Nat, (L7.getD j (⟨#[]⟩ : ByteArray)).size ≤ 1000), fun u => u = (LN ((5, 0) :: r_1) : AV), fun u => ∃ r9 : List (Int × Int), u = (LN r9 : AV) ∧ (OKM 6 r9) ∧ (r9.length ≤ 5), fun u => ∃ s10 : ByteArray, u = (.str s10 : AV) ∧ (s10.size ≤ 1000), fun u => ∃ L11 : List ByteArray, u = (lstA eY 1 L11 : AV) ∧ (L11.length ≤ 1) ∧ (∀ j : Nat, (L11.getD j (⟨#[]⟩ : ByteArray)).size ≤ 1000), fun u => ∃ L12 : List ByteArray, ∃ W12 : List ByteArray, u = (.agg [lstA eY 1 L12, lstA eY 1 W12] : AV) ∧ (L12.length ≤ 10 ∧ W12.length ≤ 10) ∧ (∀ j : Nat, (L12.getD j (⟨#[]⟩ : ByteArray)).size ≤ 1000) ∧ (∀ j : Nat, (W12.getD j (⟨#[]⟩ : ByteArray)).size ≤ 1000), fun u => ∃ s13 : ByteArray, u = (.str s13 : AV) ∧ (s13.size ≤ 1000), fun u => True] : List (AV → Prop)).getD k (fun _ => True) u) (fun k => ([.top, .top, .top, .top, .top, .top, .top, .top, .top, .top, .top, .top, .top, .str (⟨#[]⟩ : ByteArray), .top] : List AV).getD k .top) (p1_12, h1_13, [], []) 15 (by decide +kernel) (by kernel_rfl) (by kernel_rfl) (by kernel_rfl) (by kernel_rfl) (allK_c ?_ (allK_c ?_ (allK_c ?_ (allK_c ?_ (allK_c ?_ (allK_c ?_ (allK_c ?_ (allK_c ?_ (allK_c ?_ (allK_c ?_ (allK_c ?_ (allK_c ?_ (allK_c ?_ (allK_c ?_ (allK_c ?_ allK_0))))))))))))))) ?_)
  ·rintro y ⟨p_287, h_288, L_289, W_290⟩ hd
   clear hd
   refine R.lit (s := 1) (n := 4) (cs := rows eY [(⟨#[75, 52]⟩ : ByteArray), (⟨#[83, 52]⟩ : ByteArray), (⟨#[71, 76]⟩ : ByteArray), (⟨#[83, 53]⟩ : ByteArray)]) (by kernel_rfl) (by kernel_rfl) ?_
   exact R.go 1 (R.one (lstA eY 1 [(⟨#[75, 52]⟩ : ByteArray), (⟨#[83, 52]⟩ : ByteArray), (⟨#[71, 76]⟩ : ByteArray), (⟨#[83, 53]⟩ : ByteArray)]) (p_287, h_288, L_289, W_290) (by kernel_rfl) (by kernel_rfl) (show ∃ L0 : List ByteArray, (lstA eY 1 [(⟨#[75, 52]⟩ : ByteArray), (⟨#[83, 52]⟩ : ByteArray), (⟨#[71, 76]⟩ : ByteArray), (⟨#[83, 53]⟩ : ByteArray)] : AV) = (lstA eY 1 L0 : AV) ∧ (L0.length = 4) ∧ (∀ j : Nat, (L0.getD j (⟨#[]⟩ : ByteArray)).size ≤ 1000) from ⟨[(⟨#[75, 52]⟩ : ByteArray), (⟨#[83, 52]⟩ : ByteArray), (⟨#[71, 76]⟩ : ByteArray), (⟨#[83, 53]⟩ : ByteArray)], rfl, by first | assumption | omega | rfl | (simp only [List.length_cons, List.length_append, List.length_nil]; omega), by first | assumption | exact yz_one (by omega) | exact yz_nil | exact yz7 (by decide)⟩) (fun _ _ _ hq => hq))
  ·rintro y ⟨p_291, h_292, L_293, W_294⟩ hd
   clear hd
   exact R.go 2 (R.one (.ptr 0 0) (p_291, h_292, L_293, W_294) (by kernel_rfl) (by kernel_rfl) (show (.ptr 0 0 : AV) = (.ptr 0 0 : AV) from rfl) (fun _ _ _ hq => hq))
  ·rintro y ⟨p_295, h_296, L_297, W_298⟩ hd
   have hy299 : y 1 = (.ptr 0 0 : AV) := hd 1 (by kernel_rfl)
   clear hd
   obtain ⟨y, rfl⟩ : ∃ y', y = updY y' 1 (.ptr 0 0) := ⟨y, updY_eq (by exact hy299)⟩
   refine k25 (k26k 3 usC frC (k26l 4 [] [] (k26d 4 [] [] (k27a 3 92 [lstA eY 1 L_297, lstA eY 1 W_298] (nextX_c_r3 c p_295 h_296 4 eo1 so1 no1 co1 eo2 so2 no2 co2 92 2 1 [lstA eY 1 L_297, lstA eY 1 W_298] hc))))) ?_
   rintro _ _ ⟨_, _, ⟨_, _, ⟨_, _, ⟨_, ⟨v_300, p1_301, h1_302, f303, rfl, rfl⟩, rfl⟩, rfl, rfl⟩, rfl, rfl⟩, rfl, rfl⟩
   exact R.go 1 (R.one (AI v_300) (p1_301, h1_302, L_297, W_298) (by kernel_rfl) (by kernel_rfl) (show ∃ v2 : Int, (AI v_300 : AV) = (AI v2 : AV) ∧ (0 ≤ v2 ∧ v2 < 4) from ⟨v_300, rfl, by first | assumption | omega | rfl | (simp only [List.length_cons, List.length_append, List.length_nil]; omega)⟩) (fun _ _ _ hq => hq))
  ·rintro y ⟨p_304, h_305, L_306, W_307⟩ hd
   obtain ⟨L0_308, hy309, hq0_0, hq0_1⟩ : ∃ L0 : List ByteArray, y 0 = (lstA eY 1 L0 : AV) ∧ (L0.length = 4) ∧ (∀ j : Nat, (L0.getD j (⟨#[]⟩ : ByteArray)).size ≤ 1000) := hd 0 (by kernel_rfl)
   obtain ⟨v2_310, hy311, hq2_0⟩ : ∃ v2 : Int, y 2 = (AI v2 : AV) ∧ (0 ≤ v2 ∧ v2 < 4) := hd 2 (by kernel_rfl)
   clear hd
   obtain ⟨y, rfl⟩ : ∃ y', y = updY y' 0 (lstA eY 1 L0_308) := ⟨y, updY_eq (by exact hy309)⟩
   obtain ⟨y, rfl⟩ : ∃ y', y = updY y' 2 (AI v2_310) := ⟨y, updY_eq (by exact hy311)⟩
   refine k10 eY L0_308 (⟨#[]⟩ : ByteArray) ((v2_310).toNat) v2_310 eY_len ?_ (hji := by omega)
   exact R.go 1 (R.one (.rptr [.str (L0_308.getD ((v2_310).toNat) (⟨#[]⟩ : ByteArray))]) (p_304, h_305, L_306, W_307) (by kernel_rfl) (by kernel_rfl) (show ∃ s3 : ByteArray, (.rptr [.str (L0_308.getD ((v2_310).toNat) (⟨#[]⟩ : ByteArray))] : AV) = (.rptr [.str s3] : AV) ∧ (s3.size ≤ 1000 ) from ⟨(L0_308.getD ((v2_310).toNat) (⟨#[]⟩ : ByteArray)), rfl, by exact hq0_1 _⟩) (fun _ _ _ hq => hq))
  ·rintro y ⟨p_312, h_313, L_314, W_315⟩ hd
   obtain ⟨s3_316, hy317, hq3_0⟩ : ∃ s3 : ByteArray, y 3 = (.rptr [.str s3] : AV) ∧ (s3.size ≤ 1000 ) := hd 3 (by kernel_rfl)
   clear hd
   obtain ⟨y, rfl⟩ : ∃ y', y = updY y' 3 (.rptr [.str s3_316]) := ⟨y, updY_eq (by exact hy317)⟩
   exact R.go 2 (R.one (.str s3_316) (p_312, h_313, L_314, W_315) (by kernel_rfl) (by kernel_rfl) (show ∃ s4 : ByteArray, (.str s3_316 : AV) = (.str s4 : AV) ∧ (s4.size ≤ 1000) from ⟨s3_316, rfl, by first | assumption | omega | (simp only [List.length_cons, List.length_append, List.length_nil] at *; omega)⟩) (fun _ _ _ hq => hq))
  ·rintro y ⟨p_318, h_319, L_320, W_321⟩ hd
   clear hd
   exact R.go 2 (R.one (LN ((5, 0) :: r_1)) (p_318, h_319, L_320, W_321) (by kernel_rfl) (by kernel_rfl) (show (LN ((5, 0) :: r_1) : AV) = (LN ((5, 0) :: r_1) : AV) from rfl) (fun _ _ _ hq => hq))
  ·rintro y ⟨p_322, h_323, L_324, W_325⟩ hd
   have hy326 : y 5 = (LN ((5, 0) :: r_1) : AV) := hd 5 (by kernel_rfl)
   clear hd
   obtain ⟨y, rfl⟩ : ∃ y', y = updY y' 5 (LN ((5, 0) :: r_1)) := ⟨y, updY_eq (by exact hy326)⟩
   refine k29 (textX_c ((5, 0) :: r_1) (by first | assumption | exact hok9 (by assumption) | (repeat' first | assumption | refine okm_mk1 (by omega) ?_ | refine okm_mk2 (by omega) ?_ ?_)) (by first | omega | (simp only [List.length_cons, List.length_append, List.length_nil]; omega))) (by rintro _ _ ⟨_, _, rfl, rfl⟩; rfl) ?_
   rintro _ ⟨s_327, f328, rfl, _⟩
   exact R.go 1 (R.one (.str s_327) (p_322, h_323, L_324, W_325) (by kernel_rfl) (by kernel_rfl) (show ∃ s6 : ByteArray, (.str s_327 : AV) = (.str s6 : AV) ∧ (s6.size ≤ 1000) from ⟨s_327, rfl, by first | assumption | omega | (simp only [List.length_cons, List.length_append, List.length_nil] at *; omega)⟩) (fun _ _ _ hq => hq))
  ·rintro y ⟨p_329, h_330, L_331, W_332⟩ hd
   obtain ⟨s6_333, hy334, hq6_0⟩ : ∃ s6 : ByteArray, y 6 = (.str s6 : AV) ∧ (s6.size ≤ 1000) := hd 6 (by kernel_rfl)
   clear hd
   obtain ⟨y, rfl⟩ : ∃ y', y = updY y' 6 (.str s6_333) := ⟨y, updY_eq (by exact hy334)⟩
   refine R.lit (s := 1) (n := 1) (cs := rows eY [s6_333]) (by kernel_rfl) (by kernel_rfl) ?_
   exact R.go 1 (R.one (lstA eY 1 [s6_333]) (p_329, h_330, L_331, W_332) (by kernel_rfl) (by kernel_rfl) (show ∃ L7 : List ByteArray, (lstA eY 1 [s6_333] : AV) = (lstA eY 1 L7 : AV) ∧ (L7.length ≤ 1) ∧ (∀ j : Nat, (L7.getD j (⟨#[]⟩ : ByteArray)).size ≤ 1000) from ⟨[s6_333], rfl, by first | assumption | omega | rfl | (simp only [List.length_cons, List.length_append, List.length_nil]; omega), by first | assumption | exact yz_one (by omega) | exact yz_nil | exact yz7 (by decide)⟩) (fun _ _ _ hq => hq))
  ·rintro y ⟨p_335, h_336, L_337, W_338⟩ hd
   clear hd
   exact R.go 2 (R.one (LN ((5, 0) :: r_1)) (p_335, h_336, L_337, W_338) (by kernel_rfl) (by kernel_rfl) (show (LN ((5, 0) :: r_1) : AV) = (LN ((5, 0) :: r_1) : AV) from rfl) (fun _ _ _ hq => hq))
  ·rintro y ⟨p_339, h_340, L_341, W_342⟩ hd
   have hy343 : y 8 = (LN ((5, 0) :: r_1) : AV) := hd 8 (by kernel_rfl)
   clear hd
   obtain ⟨y, rfl⟩ : ∃ y', y = updY y' 8 (LN ((5, 0) :: r_1)) := ⟨y, updY_eq (by exact hy343)⟩
   refine k15 true (l02Pre_c 5 ((5, 0) :: r_1) (by first | omega | (simp <;> omega))).frz ?_
   exact R.go 1 (R.one (LN ((5, 0) :: ((5, 0) :: r_1))) (p_339, h_340, L_341, W_342) (by kernel_rfl) (by kernel_rfl) (show ∃ r9 : List (Int × Int), (LN ((5, 0) :: ((5, 0) :: r_1)) : AV) = (LN r9 : AV) ∧ (OKM 6 r9) ∧ (r9.length ≤ 5) from ⟨(5, 0) :: ((5, 0) :: r_1), rfl, by first | assumption | exact okm_mk1 (by omega) (by first | assumption | exact okm_mk1 (by omega) (by assumption) | exact okm_mk2 (by omega) (by assumption) (by assumption)) | exact okm_mk2 (by omega) (by first | assumption | exact okm_mk2 (by omega) (by assumption) (by assumption) | exact okm_mk1 (by omega) (by assumption)) (by first | assumption | exact okm_mk1 (by omega) (by assumption)), by first | assumption | omega | rfl | (simp only [List.length_cons, List.length_append, List.length_nil]; omega)⟩) (fun _ _ _ hq => hq))
  ·rintro y ⟨p_344, h_345, L_346, W_347⟩ hd
   obtain ⟨r9_348, hy349, hq9_0, hq9_1⟩ : ∃ r9 : List (Int × Int), y 9 = (LN r9 : AV) ∧ (OKM 6 r9) ∧ (r9.length ≤ 5) := hd 9 (by kernel_rfl)
   clear hd
   obtain ⟨y, rfl⟩ : ∃ y', y = updY y' 9 (LN r9_348) := ⟨y, updY_eq (by exact hy349)⟩
   refine k29 (textX_c r9_348 hq9_0 (by first | omega | (simp only [List.length_cons, List.length_append, List.length_nil]; omega))) (by rintro _ _ ⟨_, _, rfl, rfl⟩; rfl) ?_
   rintro _ ⟨s_350, f351, rfl, _⟩
   exact R.go 1 (R.one (.str s_350) (p_344, h_345, L_346, W_347) (by kernel_rfl) (by kernel_rfl) (show ∃ s10 : ByteArray, (.str s_350 : AV) = (.str s10 : AV) ∧ (s10.size ≤ 1000) from ⟨s_350, rfl, by first | assumption | omega | (simp only [List.length_cons, List.length_append, List.length_nil] at *; omega)⟩) (fun _ _ _ hq => hq))
  ·rintro y ⟨p_352, h_353, L_354, W_355⟩ hd
   obtain ⟨s10_356, hy357, hq10_0⟩ : ∃ s10 : ByteArray, y 10 = (.str s10 : AV) ∧ (s10.size ≤ 1000) := hd 10 (by kernel_rfl)
   clear hd
   obtain ⟨y, rfl⟩ : ∃ y', y = updY y' 10 (.str s10_356) := ⟨y, updY_eq (by exact hy357)⟩
   refine R.lit (s := 1) (n := 1) (cs := rows eY [s10_356]) (by kernel_rfl) (by kernel_rfl) ?_
   exact R.go 1 (R.one (lstA eY 1 [s10_356]) (p_352, h_353, L_354, W_355) (by kernel_rfl) (by kernel_rfl) (show ∃ L11 : List ByteArray, (lstA eY 1 [s10_356] : AV) = (lstA eY 1 L11 : AV) ∧ (L11.length ≤ 1) ∧ (∀ j : Nat, (L11.getD j (⟨#[]⟩ : ByteArray)).size ≤ 1000) from ⟨[s10_356], rfl, by first | assumption | omega | rfl | (simp only [List.length_cons, List.length_append, List.length_nil]; omega), by first | assumption | exact yz_one (by omega) | exact yz_nil | exact yz7 (by decide)⟩) (fun _ _ _ hq => hq))
  ·rintro y ⟨p_358, h_359, L_360, W_361⟩ hd
   obtain ⟨L7_362, hy363, hq7_0, hq7_1⟩ : ∃ L7 : List ByteArray, y 7 = (lstA eY 1 L7 : AV) ∧ (L7.length ≤ 1) ∧ (∀ j : Nat, (L7.getD j (⟨#[]⟩ : ByteArray)).size ≤ 1000) := hd 7 (by kernel_rfl)
   obtain ⟨L11_364, hy365, hq11_0, hq11_1⟩ : ∃ L11 : List ByteArray, y 11 = (lstA eY 1 L11 : AV) ∧ (L11.length ≤ 1) ∧ (∀ j : Nat, (L11.getD j (⟨#[]⟩ : ByteArray)).size ≤ 1000) := hd 11 (by kernel_rfl)
   clear hd
   obtain ⟨y, rfl⟩ : ∃ y', y = updY y' 7 (lstA eY 1 L7_362) := ⟨y, updY_eq (by exact hy363)⟩
   obtain ⟨y, rfl⟩ : ∃ y', y = updY y' 11 (lstA eY 1 L11_364) := ⟨y, updY_eq (by exact hy365)⟩
   exact R.go 2 (R.one (.agg [lstA eY 1 L7_362, lstA eY 1 L11_364]) (p_358, h_359, L_360, W_361) (by kernel_rfl) (by kernel_rfl) (show ∃ L12 : List ByteArray, ∃ W12 : List ByteArray, (.agg [lstA eY 1 L7_362, lstA eY 1 L11_364] : AV) = (.agg [lstA eY 1 L12, lstA eY 1 W12] : AV) ∧ (L12.length ≤ 10 ∧ W12.length ≤ 10) ∧ (∀ j : Nat, (L12.getD j (⟨#[]⟩ : ByteArray)).size ≤ 1000) ∧ (∀ j : Nat, (W12.getD j (⟨#[]⟩ : ByteArray)).size ≤ 1000) from ⟨L7_362, L11_364, rfl, by first | assumption | omega | rfl | (simp only [List.length_cons, List.length_append, List.length_nil]; omega), by first | assumption | exact yz_one (by omega) | exact yz_nil | exact yz7 (by decide), by first | assumption | exact yz_one (by omega) | exact yz_nil | exact yz7 (by decide)⟩) (fun _ _ _ hq => hq))
  ·rintro y ⟨p_366, h_367, L_368, W_369⟩ hd
   obtain ⟨s4_370, hy371, hq4_0⟩ : ∃ s4 : ByteArray, y 4 = (.str s4 : AV) ∧ (s4.size ≤ 1000) := hd 4 (by kernel_rfl)
   clear hd
   obtain ⟨y, rfl⟩ : ∃ y', y = updY y' 4 (.str s4_370) := ⟨y, updY_eq (by exact hy371)⟩
   exact R.go 2 (R.one (.str s4_370) (p_366, h_367, L_368, W_369) (by kernel_rfl) (by kernel_rfl) (show ∃ s13 : ByteArray, (.str s4_370 : AV) = (.str s13 : AV) ∧ (s13.size ≤ 1000) from ⟨s4_370, rfl, by first | assumption | omega | (simp only [List.length_cons, List.length_append, List.length_nil] at *; omega)⟩) (fun _ _ _ hq => hq))
  ·rintro y ⟨p_372, h_373, L_374, W_375⟩ hd
   obtain ⟨L12_376, W12_377, hy378, hq12_0, hq12_1, hq12_2⟩ : ∃ L12 : List ByteArray, ∃ W12 : List ByteArray, y 12 = (.agg [lstA eY 1 L12, lstA eY 1 W12] : AV) ∧ (L12.length ≤ 10 ∧ W12.length ≤ 10) ∧ (∀ j : Nat, (L12.getD j (⟨#[]⟩ : ByteArray)).size ≤ 1000) ∧ (∀ j : Nat, (W12.getD j (⟨#[]⟩ : ByteArray)).size ≤ 1000) := hd 12 (by kernel_rfl)
   clear hd
   obtain ⟨y, rfl⟩ : ∃ y', y = updY y' 12 (.agg [lstA eY 1 L12_376, lstA eY 1 W12_377]) := ⟨y, updY_eq (by exact hy378)⟩
   exact R.go 2 (R.one (.top) (p_372, h_373, L12_376, W12_377) (by kernel_rfl) (by kernel_rfl) (show (L12_376.length ≤ 10 ∧ W12_377.length ≤ 10) ∧ (∀ j : Nat, (L12_376.getD j (⟨#[]⟩ : ByteArray)).size ≤ 1000) ∧ (∀ j : Nat, (W12_377.getD j (⟨#[]⟩ : ByteArray)).size ≤ 1000) from ⟨by first | assumption | omega | rfl | (simp only [List.length_cons, List.length_append, List.length_nil]; omega), by first | assumption | exact yz_one (by omega) | exact yz_nil | exact yz7 (by decide), by first | assumption | exact yz_one (by omega) | exact yz_nil | exact yz7 (by decide)⟩) (fun j u hj hq => by simp only [if_neg hj] at hq ⊢; exact hq))
  rintro y ⟨p_379, h_380, L_381, W_382⟩ ⟨hk383, hk384, hk385, hk386, hk387, hk388, hk389, hk390, hk391, hk392, hk393, hk394, hk395, hk396, hk397, _⟩
  obtain ⟨s13_398, hy399, hq13_0⟩ : ∃ s13 : ByteArray, y 13 = (.str s13 : AV) ∧ (s13.size ≤ 1000) := hk396
  obtain ⟨y, rfl⟩ : ∃ y', y = updY y' 13 (.str s13_398) := ⟨y, updY_eq (by exact hy399)⟩
  obtain ⟨hs400, hs401, hs402⟩ : (L_381.length ≤ 10 ∧ W_382.length ≤ 10) ∧ (∀ j : Nat, (L_381.getD j (⟨#[]⟩ : ByteArray)).size ≤ 1000) ∧ (∀ j : Nat, (W_382.getD j (⟨#[]⟩ : ByteArray)).size ≤ 1000) := hk397
  exact R.retX (res := .tup [.str s13_398, .agg [lstA eY 1 L_381, lstA eY 1 W_382]]) (hp' := [.box 123 [LB c, AI (p_379 : Int), .int .u64 h_380], .list eo1 so1 no1 co1, .list eo2 so2 no2 co2, .dead, .box 92 [lstA eY 1 L_381, lstA eY 1 W_382], .frame [] [], .frame [] []]) (by kernel_rfl) (by kernel_rfl) (by kernel_rfl) (by kernel_rfl) ⟨[0, 1, 2], by kernel_rfl, by decide, s13_398, L_381, W_382, p_379, h_380, by first | omega | assumption | (simp; done) | (simp; omega) | exact yz_nil | exact yz_one (by first | assumption | omega | (simp only [List.length_cons, List.length_append, List.length_nil] at *; omega)), by first | omega | assumption | (simp; done) | (simp; omega) | exact yz_nil | exact yz_one (by first | assumption | omega | (simp only [List.length_cons, List.length_append, List.length_nil] at *; omega)), by first | omega | assumption | (simp; done) | (simp; omega) | exact yz_nil | exact yz_one (by first | assumption | omega | (simp only [List.length_cons, List.length_append, List.length_nil] at *; omega)), by kernel_rfl, by kernel_rfl⟩
 refine R.go 5 (k4 (v_11 = 3) (fun c403 => ?_) (fun c403 => ?_))
 ·refine R.go 4 (k15 true (l02Pair_c 4 ((5, 0) :: r_1) r_1 (by first | omega | (simp <;> omega)) (by first | omega | (simp <;> omega))).frz (k15 true (l02Pre_c 5 ((4, 0) :: (((5, 0) :: r_1) ++ r_1)) (by first | omega | (simp <;> omega))).frz (k29 (textX_c ((5, 0) :: ((4, 0) :: (((5, 0) :: r_1) ++ r_1))) (by first | assumption | exact hok9 (by assumption) | (repeat' first | assumption | refine okm_mk1 (by omega) ?_ | refine okm_mk2 (by omega) ?_ ?_)) (by first | omega | (simp only [List.length_cons, List.length_append, List.length_nil]; omega))) (by rintro _ _ ⟨_, _, rfl, rfl⟩; rfl) ?_)))
  rintro _ ⟨s_404, f405, rfl, _⟩
  refine R.lit (s := 1) (n := 1) (cs := rows eY [s_404]) (by kernel_rfl) (by kernel_rfl) (R.go 1 (k29 (textX_c ((5, 0) :: r_1) (by first | assumption | exact hok9 (by assumption) | (repeat' first | assumption | refine okm_mk1 (by omega) ?_ | refine okm_mk2 (by omega) ?_ ?_)) (by first | omega | (simp only [List.length_cons, List.length_append, List.length_nil]; omega))) (by rintro _ _ ⟨_, _, rfl, rfl⟩; rfl) ?_))
  rintro _ ⟨s_406, f407, rfl, _⟩
  refine R.lit (s := 1) (n := 1) (cs := rows eY [s_406]) (by kernel_rfl) (by kernel_rfl) ?_
  exact R.go 4 (R.retX (res := .tup [.str (⟨#[71, 76]⟩ : ByteArray), .agg [lstA eY 1 [s_404], lstA eY 1 [s_406]]]) (hp' := [.box 123 [LB c, AI (p1_12 : Int), .int .u64 h1_13], .list eo1 so1 no1 co1, .list eo2 so2 no2 co2, .dead, .box 92 [lstA eY 1 [s_404], lstA eY 1 [s_406]], .frame [] [], .frame [] []]) (by kernel_rfl) (by kernel_rfl) (by kernel_rfl) (by kernel_rfl) ⟨[0, 1, 2], by kernel_rfl, by decide, (⟨#[71, 76]⟩ : ByteArray), [s_404], [s_406], p1_12, h1_13, by first | omega | assumption | (simp; done) | (simp; omega) | exact yz_nil | exact yz_one (by first | assumption | omega | (simp only [List.length_cons, List.length_append, List.length_nil] at *; omega)), by first | omega | assumption | (simp; done) | (simp; omega) | exact yz_nil | exact yz_one (by first | assumption | omega | (simp only [List.length_cons, List.length_append, List.length_nil] at *; omega)), by first | omega | assumption | (simp; done) | (simp; omega) | exact yz_nil | exact yz_one (by first | assumption | omega | (simp only [List.length_cons, List.length_append, List.length_nil] at *; omega)), by kernel_rfl, by kernel_rfl⟩)
 refine R.go 5 (k4 (v_11 = 4) (fun c408 => ?_) (fun c408 => ?_))
 ·refine R.go 3 (k29 (textX_c ((5, 0) :: r_1) (by first | assumption | exact hok9 (by assumption) | (repeat' first | assumption | refine okm_mk1 (by omega) ?_ | refine okm_mk2 (by omega) ?_ ?_)) (by first | omega | (simp only [List.length_cons, List.length_append, List.length_nil]; omega))) (by rintro _ _ ⟨_, _, rfl, rfl⟩; rfl) ?_)
  rintro _ ⟨s_409, f410, rfl, _⟩
  refine R.lit (s := 1) (n := 1) (cs := rows eY [s_409]) (by kernel_rfl) (by kernel_rfl) (R.go 1 (k15 true (l02Pre_c 6 r_1 (by first | omega | (simp <;> omega))).frz (k29 (textX_c ((6, 0) :: r_1) (by first | assumption | exact hok9 (by assumption) | (repeat' first | assumption | refine okm_mk1 (by omega) ?_ | refine okm_mk2 (by omega) ?_ ?_)) (by first | omega | (simp only [List.length_cons, List.length_append, List.length_nil]; omega))) (by rintro _ _ ⟨_, _, rfl, rfl⟩; rfl) ?_)))
  rintro _ ⟨s_411, f412, rfl, _⟩
  refine R.lit (s := 1) (n := 1) (cs := rows eY [s_411]) (by kernel_rfl) (by kernel_rfl) ?_
  exact R.go 4 (R.retX (res := .tup [.str (⟨#[68]⟩ : ByteArray), .agg [lstA eY 1 [s_409], lstA eY 1 [s_411]]]) (hp' := [.box 123 [LB c, AI (p1_12 : Int), .int .u64 h1_13], .list eo1 so1 no1 co1, .list eo2 so2 no2 co2, .dead, .box 92 [lstA eY 1 [s_409], lstA eY 1 [s_411]], .frame [] [], .frame [] []]) (by kernel_rfl) (by kernel_rfl) (by kernel_rfl) (by kernel_rfl) ⟨[0, 1, 2], by kernel_rfl, by decide, (⟨#[68]⟩ : ByteArray), [s_409], [s_411], p1_12, h1_13, by first | omega | assumption | (simp; done) | (simp; omega) | exact yz_nil | exact yz_one (by first | assumption | omega | (simp only [List.length_cons, List.length_append, List.length_nil] at *; omega)), by first | omega | assumption | (simp; done) | (simp; omega) | exact yz_nil | exact yz_one (by first | assumption | omega | (simp only [List.length_cons, List.length_append, List.length_nil] at *; omega)), by first | omega | assumption | (simp; done) | (simp; omega) | exact yz_nil | exact yz_one (by first | assumption | omega | (simp only [List.length_cons, List.length_append, List.length_nil] at *; omega)), by kernel_rfl, by kernel_rfl⟩)
 refine R.go 5 (k4 (v_11 = 5) (fun c413 => ?_) (fun c413 => ?_))
 ·refine R.go 1 (R.anyInv (fun (y : Nat → AV) (x : Nat × Int × (List ByteArray) × (List ByteArray)) => match x with | (p_414, h_415, L_416, W_417) => (⟨(frm 125 [(0, .ptr 0 0), (2, (y 20)), (3, .ptr 4 0), (4, LN r_1), (5, LN r_6), (6, LN ((4, 0) :: (r_1 ++ r_6))), (7, LN ((5, 0) :: r_1)), (8, .ptr 0 0), (9, LN r_1), (10, .ptr 0 0), (11, LN r_6), (12, LN r_1), (13, LN r_6), (14, LN ((4, 0) :: (r_1 ++ r_6))), (15, LN r_1), (16, LN ((5, 0) :: r_1)), (17, .ptr 0 0), (18, AI v_11), (19, .bool (decide (v_11 = 0))), (20, .bool (decide (v_11 = 0))), (38, .bool (decide (v_11 = 1))), (39, .bool (decide (v_11 = 1))), (52, .bool (decide (v_11 = 2))), (53, .bool (decide (v_11 = 2))), (67, .bool (decide (v_11 = 3))), (68, .bool (decide (v_11 = 3))), (79, .bool (decide (v_11 = 4))), (80, .bool (decide (v_11 = 4))), (89, .bool (decide (v_11 = 5))), (90, .bool (decide (v_11 = 5))), (91, (y 0)), (92, (y 1)), (93, (y 2)), (94, (y 3)), (95, (y 4)), (96, (y 5)), (97, (y 6)), (98, (y 7)), (99, (y 8)), (100, (y 9)), (101, (y 10)), (102, (y 11)), (103, (y 12)), (104, (y 13)), (105, (y 14)), (106, (y 15)), (107, (y 16)), (108, (y 17)), (109, (y 18)), (110, (y 19))]), [.box 123 [LB c, AI (p_414 : Int), .int .u64 h_415], .list eo1 so1 no1 co1, .list eo2 so2 no2 co2, .frame usC frC, .box 92 [lstA eY 1 L_416, lstA eY 1 W_417], .frame [] [], .frame [] []]⟩ : St)) (fun (k : Nat) (u : AV) (x : Nat × Int × (List ByteArray) × (List ByteArray)) => match x with | (p_414, h_415, L_416, W_417) => if k = 21 then ((L_416.length ≤ 10 ∧ W_417.length ≤ 10) ∧ (∀ j : Nat, (L_416.getD j (⟨#[]⟩ : ByteArray)).size ≤ 1000) ∧ (∀ j : Nat, (W_417.getD j (⟨#[]⟩ : ByteArray)).size ≤ 1000)) else ([fun u => ∃ L0 : List ByteArray, u = (lstA eY 1 L0 : AV) ∧ (L0.length = 3) ∧ (∀ j : Nat, (L0.getD j (⟨#[]⟩ : ByteArray)).size ≤ 1000), fun u => u = (.ptr 0 0 : AV), fun u => ∃ v2 : Int, u = (AI v2 : AV) ∧ (0 ≤ v2 ∧ v2 < 3), fun u => ∃ s3 : ByteArray, u = (.rptr [.str s3] : AV) ∧ (s3.size ≤ 1000 ), fun u => ∃ s4 : ByteArray, u = (.str s4 : AV) ∧ (s4.size ≤ 1000), fun u => u = (LN r_1 : AV), fun u => u = (LN r_6 : AV), fun u => ∃ r7 : List (Int × Int), u = (LN r7 : AV) ∧ (OKM 6 r7) ∧ (r7.length ≤ 7), fun u => ∃ r8 : List (Int × Int), u = (LN r8 : AV) ∧ (OKM 6 r8) ∧ (r8.length ≤ 8), fun u => ∃ s9 : ByteArray, u = (.str s9 : AV) ∧ (s9.size ≤ 1000), fun u => ∃ L10 : List ByteArray, u = (lstA eY 1 L10 : AV) ∧ (L10.length ≤ 1) ∧ (∀ j : Nat, (L10.getD j (⟨#[]⟩ : ByteArray)).size ≤ 1000), fun u => u = (LN r_1 : AV), fun u => ∃ r12 : List (Int × Int), u = (LN r12 : AV) ∧ (OKM 6 r12) ∧ (r12.length ≤ 4), fun u => ∃ s13 : ByteArray, u = (.str s13 : AV) ∧ (s13.size ≤ 1000), fun u => ∃ L14 : List ByteArray, u = (lstA eY 1 L14 : AV) ∧ (L14.length ≤ 1) ∧ (∀ j : Nat, (L14.getD j (⟨#[]⟩ : ByteArray)).size ≤ 1000), fun u => u = (LN r_6 : AV), fun u => ∃ r16 : List (Int × Int), u = (LN r16 : AV) ∧ (OKM 6 r16) ∧ (r16.length ≤ 4), fun u => ∃ s17 : ByteArray, u = (.str s17 : AV) ∧ (s17.size ≤ 1000), fun u => ∃ L18 : List ByteArray, u = (lstA eY 1 L18 : AV) ∧ (L18.length ≤ 2) ∧ (∀ j : Nat, (L18.getD j (⟨#[]⟩ : ByteArray)).size ≤ 1000), fun u => ∃ L19 : List ByteArray, ∃ W19 : List ByteArray, u = (.agg [lstA eY 1 L19, lstA eY 1 W19] : AV) ∧ (L19.length ≤ 10 ∧ W19.length ≤ 10) ∧ (∀ j : Nat, (L19.getD j (⟨#[]⟩ : ByteArray)).size ≤ 1000) ∧ (∀ j : Nat, (W19.getD j (⟨#[]⟩ : ByteArray)).size ≤ 1000), fun u => ∃ s20 : ByteArray, u = (.str s20 : AV) ∧ (s20.size ≤ 1000), fun u => True] : List (AV → Prop)).getD k (fun _ => True) u) (fun k => ([.top, .top, .top, .top, .top, .top, .top, .top, .top, .top, .top, .top, .top, .top, .top, .top, .top, .top, .top, .top, .str (⟨#[]⟩ : ByteArray), .top] : List AV).getD k .top) (p1_12, h1_13, [], []) 22 (by decide +kernel) (by kernel_rfl) (by kernel_rfl) (by kernel_rfl) (by kernel_rfl) (allK_c ?_ (allK_c ?_ (allK_c ?_ (allK_c ?_ (allK_c ?_ (allK_c ?_ (allK_c ?_ (allK_c ?_ (allK_c ?_ (allK_c ?_ (allK_c ?_ (allK_c ?_ (allK_c ?_ (allK_c ?_ (allK_c ?_ (allK_c ?_ (allK_c ?_ (allK_c ?_ (allK_c ?_ (allK_c ?_ (allK_c ?_ (allK_c ?_ allK_0)))))))))))))))))))))) ?_)
  ·rintro y ⟨p_418, h_419, L_420, W_421⟩ hd
   clear hd
   refine R.lit (s := 1) (n := 3) (cs := rows eY [(⟨#[75]⟩ : ByteArray), (⟨#[84]⟩ : ByteArray), (⟨#[83, 52]⟩ : ByteArray)]) (by kernel_rfl) (by kernel_rfl) ?_
   exact R.go 1 (R.one (lstA eY 1 [(⟨#[75]⟩ : ByteArray), (⟨#[84]⟩ : ByteArray), (⟨#[83, 52]⟩ : ByteArray)]) (p_418, h_419, L_420, W_421) (by kernel_rfl) (by kernel_rfl) (show ∃ L0 : List ByteArray, (lstA eY 1 [(⟨#[75]⟩ : ByteArray), (⟨#[84]⟩ : ByteArray), (⟨#[83, 52]⟩ : ByteArray)] : AV) = (lstA eY 1 L0 : AV) ∧ (L0.length = 3) ∧ (∀ j : Nat, (L0.getD j (⟨#[]⟩ : ByteArray)).size ≤ 1000) from ⟨[(⟨#[75]⟩ : ByteArray), (⟨#[84]⟩ : ByteArray), (⟨#[83, 52]⟩ : ByteArray)], rfl, by first | assumption | omega | rfl | (simp only [List.length_cons, List.length_append, List.length_nil]; omega), by first | assumption | exact yz_one (by omega) | exact yz_nil | exact yz7 (by decide)⟩) (fun _ _ _ hq => hq))
  ·rintro y ⟨p_422, h_423, L_424, W_425⟩ hd
   clear hd
   exact R.go 2 (R.one (.ptr 0 0) (p_422, h_423, L_424, W_425) (by kernel_rfl) (by kernel_rfl) (show (.ptr 0 0 : AV) = (.ptr 0 0 : AV) from rfl) (fun _ _ _ hq => hq))
  ·rintro y ⟨p_426, h_427, L_428, W_429⟩ hd
   have hy430 : y 1 = (.ptr 0 0 : AV) := hd 1 (by kernel_rfl)
   clear hd
   obtain ⟨y, rfl⟩ : ∃ y', y = updY y' 1 (.ptr 0 0) := ⟨y, updY_eq (by exact hy430)⟩
   refine k25 (k26k 3 usC frC (k26l 4 [] [] (k26d 4 [] [] (k27a 3 92 [lstA eY 1 L_428, lstA eY 1 W_429] (nextX_c_r3 c p_426 h_427 3 eo1 so1 no1 co1 eo2 so2 no2 co2 92 2 1 [lstA eY 1 L_428, lstA eY 1 W_429] hc))))) ?_
   rintro _ _ ⟨_, _, ⟨_, _, ⟨_, _, ⟨_, ⟨v_431, p1_432, h1_433, f434, rfl, rfl⟩, rfl⟩, rfl, rfl⟩, rfl, rfl⟩, rfl, rfl⟩
   exact R.go 1 (R.one (AI v_431) (p1_432, h1_433, L_428, W_429) (by kernel_rfl) (by kernel_rfl) (show ∃ v2 : Int, (AI v_431 : AV) = (AI v2 : AV) ∧ (0 ≤ v2 ∧ v2 < 3) from ⟨v_431, rfl, by first | assumption | omega | rfl | (simp only [List.length_cons, List.length_append, List.length_nil]; omega)⟩) (fun _ _ _ hq => hq))
  ·rintro y ⟨p_435, h_436, L_437, W_438⟩ hd
   obtain ⟨L0_439, hy440, hq0_0, hq0_1⟩ : ∃ L0 : List ByteArray, y 0 = (lstA eY 1 L0 : AV) ∧ (L0.length = 3) ∧ (∀ j : Nat, (L0.getD j (⟨#[]⟩ : ByteArray)).size ≤ 1000) := hd 0 (by kernel_rfl)
   obtain ⟨v2_441, hy442, hq2_0⟩ : ∃ v2 : Int, y 2 = (AI v2 : AV) ∧ (0 ≤ v2 ∧ v2 < 3) := hd 2 (by kernel_rfl)
   clear hd
   obtain ⟨y, rfl⟩ : ∃ y', y = updY y' 0 (lstA eY 1 L0_439) := ⟨y, updY_eq (by exact hy440)⟩
   obtain ⟨y, rfl⟩ : ∃ y', y = updY y' 2 (AI v2_441) := ⟨y, updY_eq (by exact hy442)⟩
   refine k10 eY L0_439 (⟨#[]⟩ : ByteArray) ((v2_441).toNat) v2_441 eY_len ?_ (hji := by omega)
   exact R.go 1 (R.one (.rptr [.str (L0_439.getD ((v2_441).toNat) (⟨#[]⟩ : ByteArray))]) (p_435, h_436, L_437, W_438) (by kernel_rfl) (by kernel_rfl) (show ∃ s3 : ByteArray, (.rptr [.str (L0_439.getD ((v2_441).toNat) (⟨#[]⟩ : ByteArray))] : AV) = (.rptr [.str s3] : AV) ∧ (s3.size ≤ 1000 ) from ⟨(L0_439.getD ((v2_441).toNat) (⟨#[]⟩ : ByteArray)), rfl, by exact hq0_1 _⟩) (fun _ _ _ hq => hq))
  ·rintro y ⟨p_443, h_444, L_445, W_446⟩ hd
   obtain ⟨s3_447, hy448, hq3_0⟩ : ∃ s3 : ByteArray, y 3 = (.rptr [.str s3] : AV) ∧ (s3.size ≤ 1000 ) := hd 3 (by kernel_rfl)
   clear hd
   obtain ⟨y, rfl⟩ : ∃ y', y = updY y' 3 (.rptr [.str s3_447]) := ⟨y, updY_eq (by exact hy448)⟩
   exact R.go 2 (R.one (.str s3_447) (p_443, h_444, L_445, W_446) (by kernel_rfl) (by kernel_rfl) (show ∃ s4 : ByteArray, (.str s3_447 : AV) = (.str s4 : AV) ∧ (s4.size ≤ 1000) from ⟨s3_447, rfl, by first | assumption | omega | (simp only [List.length_cons, List.length_append, List.length_nil] at *; omega)⟩) (fun _ _ _ hq => hq))
  ·rintro y ⟨p_449, h_450, L_451, W_452⟩ hd
   clear hd
   exact R.go 2 (R.one (LN r_1) (p_449, h_450, L_451, W_452) (by kernel_rfl) (by kernel_rfl) (show (LN r_1 : AV) = (LN r_1 : AV) from rfl) (fun _ _ _ hq => hq))
  ·rintro y ⟨p_453, h_454, L_455, W_456⟩ hd
   clear hd
   exact R.go 2 (R.one (LN r_6) (p_453, h_454, L_455, W_456) (by kernel_rfl) (by kernel_rfl) (show (LN r_6 : AV) = (LN r_6 : AV) from rfl) (fun _ _ _ hq => hq))
  ·rintro y ⟨p_457, h_458, L_459, W_460⟩ hd
   have hy461 : y 5 = (LN r_1 : AV) := hd 5 (by kernel_rfl)
   have hy462 : y 6 = (LN r_6 : AV) := hd 6 (by kernel_rfl)
   clear hd
   obtain ⟨y, rfl⟩ : ∃ y', y = updY y' 5 (LN r_1) := ⟨y, updY_eq (by exact hy461)⟩
   obtain ⟨y, rfl⟩ : ∃ y', y = updY y' 6 (LN r_6) := ⟨y, updY_eq (by exact hy462)⟩
   refine k15 true (l02Pair_c 3 r_1 r_6 (by first | omega | (simp <;> omega)) (by first | omega | (simp <;> omega))).frz ?_
   exact R.go 1 (R.one (LN ((3, 0) :: (r_1 ++ r_6))) (p_457, h_458, L_459, W_460) (by kernel_rfl) (by kernel_rfl) (show ∃ r7 : List (Int × Int), (LN ((3, 0) :: (r_1 ++ r_6)) : AV) = (LN r7 : AV) ∧ (OKM 6 r7) ∧ (r7.length ≤ 7) from ⟨(3, 0) :: (r_1 ++ r_6), rfl, by first | assumption | exact okm_mk1 (by omega) (by first | assumption | exact okm_mk1 (by omega) (by assumption) | exact okm_mk2 (by omega) (by assumption) (by assumption)) | exact okm_mk2 (by omega) (by first | assumption | exact okm_mk2 (by omega) (by assumption) (by assumption) | exact okm_mk1 (by omega) (by assumption)) (by first | assumption | exact okm_mk1 (by omega) (by assumption)), by first | assumption | omega | rfl | (simp only [List.length_cons, List.length_append, List.length_nil]; omega)⟩) (fun _ _ _ hq => hq))
  ·rintro y ⟨p_463, h_464, L_465, W_466⟩ hd
   obtain ⟨r7_467, hy468, hq7_0, hq7_1⟩ : ∃ r7 : List (Int × Int), y 7 = (LN r7 : AV) ∧ (OKM 6 r7) ∧ (r7.length ≤ 7) := hd 7 (by kernel_rfl)
   clear hd
   obtain ⟨y, rfl⟩ : ∃ y', y = updY y' 7 (LN r7_467) := ⟨y, updY_eq (by exact hy468)⟩
   refine k15 true (l02Pre_c 6 r7_467 (by first | omega | (simp <;> omega))).frz ?_
   exact R.go 1 (R.one (LN ((6, 0) :: r7_467)) (p_463, h_464, L_465, W_466) (by kernel_rfl) (by kernel_rfl) (show ∃ r8 : List (Int × Int), (LN ((6, 0) :: r7_467) : AV) = (LN r8 : AV) ∧ (OKM 6 r8) ∧ (r8.length ≤ 8) from ⟨(6, 0) :: r7_467, rfl, by first | assumption | exact okm_mk1 (by omega) (by first | assumption | exact okm_mk1 (by omega) (by assumption) | exact okm_mk2 (by omega) (by assumption) (by assumption)) | exact okm_mk2 (by omega) (by first | assumption | exact okm_mk2 (by omega) (by assumption) (by assumption) | exact okm_mk1 (by omega) (by assumption)) (by first | assumption | exact okm_mk1 (by omega) (by assumption)), by first | assumption | omega | rfl | (simp only [List.length_cons, List.length_append, List.length_nil]; omega)⟩) (fun _ _ _ hq => hq))
  ·rintro y ⟨p_469, h_470, L_471, W_472⟩ hd
   obtain ⟨r8_473, hy474, hq8_0, hq8_1⟩ : ∃ r8 : List (Int × Int), y 8 = (LN r8 : AV) ∧ (OKM 6 r8) ∧ (r8.length ≤ 8) := hd 8 (by kernel_rfl)
   clear hd
   obtain ⟨y, rfl⟩ : ∃ y', y = updY y' 8 (LN r8_473) := ⟨y, updY_eq (by exact hy474)⟩
   refine k29 (textX_c r8_473 hq8_0 (by first | omega | (simp only [List.length_cons, List.length_append, List.length_nil]; omega))) (by rintro _ _ ⟨_, _, rfl, rfl⟩; rfl) ?_
   rintro _ ⟨s_475, f476, rfl, _⟩
   exact R.go 1 (R.one (.str s_475) (p_469, h_470, L_471, W_472) (by kernel_rfl) (by kernel_rfl) (show ∃ s9 : ByteArray, (.str s_475 : AV) = (.str s9 : AV) ∧ (s9.size ≤ 1000) from ⟨s_475, rfl, by first | assumption | omega | (simp only [List.length_cons, List.length_append, List.length_nil] at *; omega)⟩) (fun _ _ _ hq => hq))
  ·rintro y ⟨p_477, h_478, L_479, W_480⟩ hd
   obtain ⟨s9_481, hy482, hq9_0⟩ : ∃ s9 : ByteArray, y 9 = (.str s9 : AV) ∧ (s9.size ≤ 1000) := hd 9 (by kernel_rfl)
   clear hd
   obtain ⟨y, rfl⟩ : ∃ y', y = updY y' 9 (.str s9_481) := ⟨y, updY_eq (by exact hy482)⟩
   refine R.lit (s := 1) (n := 1) (cs := rows eY [s9_481]) (by kernel_rfl) (by kernel_rfl) ?_
   exact R.go 1 (R.one (lstA eY 1 [s9_481]) (p_477, h_478, L_479, W_480) (by kernel_rfl) (by kernel_rfl) (show ∃ L10 : List ByteArray, (lstA eY 1 [s9_481] : AV) = (lstA eY 1 L10 : AV) ∧ (L10.length ≤ 1) ∧ (∀ j : Nat, (L10.getD j (⟨#[]⟩ : ByteArray)).size ≤ 1000) from ⟨[s9_481], rfl, by first | assumption | omega | rfl | (simp only [List.length_cons, List.length_append, List.length_nil]; omega), by first | assumption | exact yz_one (by omega) | exact yz_nil | exact yz7 (by decide)⟩) (fun _ _ _ hq => hq))
  ·rintro y ⟨p_483, h_484, L_485, W_486⟩ hd
   clear hd
   exact R.go 2 (R.one (LN r_1) (p_483, h_484, L_485, W_486) (by kernel_rfl) (by kernel_rfl) (show (LN r_1 : AV) = (LN r_1 : AV) from rfl) (fun _ _ _ hq => hq))
  ·rintro y ⟨p_487, h_488, L_489, W_490⟩ hd
   have hy491 : y 11 = (LN r_1 : AV) := hd 11 (by kernel_rfl)
   clear hd
   obtain ⟨y, rfl⟩ : ∃ y', y = updY y' 11 (LN r_1) := ⟨y, updY_eq (by exact hy491)⟩
   refine k15 true (l02Pre_c 6 r_1 (by first | omega | (simp <;> omega))).frz ?_
   exact R.go 1 (R.one (LN ((6, 0) :: r_1)) (p_487, h_488, L_489, W_490) (by kernel_rfl) (by kernel_rfl) (show ∃ r12 : List (Int × Int), (LN ((6, 0) :: r_1) : AV) = (LN r12 : AV) ∧ (OKM 6 r12) ∧ (r12.length ≤ 4) from ⟨(6, 0) :: r_1, rfl, by first | assumption | exact okm_mk1 (by omega) (by first | assumption | exact okm_mk1 (by omega) (by assumption) | exact okm_mk2 (by omega) (by assumption) (by assumption)) | exact okm_mk2 (by omega) (by first | assumption | exact okm_mk2 (by omega) (by assumption) (by assumption) | exact okm_mk1 (by omega) (by assumption)) (by first | assumption | exact okm_mk1 (by omega) (by assumption)), by first | assumption | omega | rfl | (simp only [List.length_cons, List.length_append, List.length_nil]; omega)⟩) (fun _ _ _ hq => hq))
  ·rintro y ⟨p_492, h_493, L_494, W_495⟩ hd
   obtain ⟨r12_496, hy497, hq12_0, hq12_1⟩ : ∃ r12 : List (Int × Int), y 12 = (LN r12 : AV) ∧ (OKM 6 r12) ∧ (r12.length ≤ 4) := hd 12 (by kernel_rfl)
   clear hd
   obtain ⟨y, rfl⟩ : ∃ y', y = updY y' 12 (LN r12_496) := ⟨y, updY_eq (by exact hy497)⟩
   refine k29 (textX_c r12_496 hq12_0 (by first | omega | (simp only [List.length_cons, List.length_append, List.length_nil]; omega))) (by rintro _ _ ⟨_, _, rfl, rfl⟩; rfl) ?_
   rintro _ ⟨s_498, f499, rfl, _⟩
   exact R.go 1 (R.one (.str s_498) (p_492, h_493, L_494, W_495) (by kernel_rfl) (by kernel_rfl) (show ∃ s13 : ByteArray, (.str s_498 : AV) = (.str s13 : AV) ∧ (s13.size ≤ 1000) from ⟨s_498, rfl, by first | assumption | omega | (simp only [List.length_cons, List.length_append, List.length_nil] at *; omega)⟩) (fun _ _ _ hq => hq))
  ·rintro y ⟨p_500, h_501, L_502, W_503⟩ hd
   obtain ⟨s13_504, hy505, hq13_0⟩ : ∃ s13 : ByteArray, y 13 = (.str s13 : AV) ∧ (s13.size ≤ 1000) := hd 13 (by kernel_rfl)
   clear hd
   obtain ⟨y, rfl⟩ : ∃ y', y = updY y' 13 (.str s13_504) := ⟨y, updY_eq (by exact hy505)⟩
   refine R.lit (s := 1) (n := 1) (cs := rows eY [s13_504]) (by kernel_rfl) (by kernel_rfl) ?_
   exact R.go 1 (R.one (lstA eY 1 [s13_504]) (p_500, h_501, L_502, W_503) (by kernel_rfl) (by kernel_rfl) (show ∃ L14 : List ByteArray, (lstA eY 1 [s13_504] : AV) = (lstA eY 1 L14 : AV) ∧ (L14.length ≤ 1) ∧ (∀ j : Nat, (L14.getD j (⟨#[]⟩ : ByteArray)).size ≤ 1000) from ⟨[s13_504], rfl, by first | assumption | omega | rfl | (simp only [List.length_cons, List.length_append, List.length_nil]; omega), by first | assumption | exact yz_one (by omega) | exact yz_nil | exact yz7 (by decide)⟩) (fun _ _ _ hq => hq))
  ·rintro y ⟨p_506, h_507, L_508, W_509⟩ hd
   clear hd
   exact R.go 2 (R.one (LN r_6) (p_506, h_507, L_508, W_509) (by kernel_rfl) (by kernel_rfl) (show (LN r_6 : AV) = (LN r_6 : AV) from rfl) (fun _ _ _ hq => hq))
  ·rintro y ⟨p_510, h_511, L_512, W_513⟩ hd
   have hy514 : y 15 = (LN r_6 : AV) := hd 15 (by kernel_rfl)
   clear hd
   obtain ⟨y, rfl⟩ : ∃ y', y = updY y' 15 (LN r_6) := ⟨y, updY_eq (by exact hy514)⟩
   refine k15 true (l02Pre_c 6 r_6 (by first | omega | (simp <;> omega))).frz ?_
   exact R.go 1 (R.one (LN ((6, 0) :: r_6)) (p_510, h_511, L_512, W_513) (by kernel_rfl) (by kernel_rfl) (show ∃ r16 : List (Int × Int), (LN ((6, 0) :: r_6) : AV) = (LN r16 : AV) ∧ (OKM 6 r16) ∧ (r16.length ≤ 4) from ⟨(6, 0) :: r_6, rfl, by first | assumption | exact okm_mk1 (by omega) (by first | assumption | exact okm_mk1 (by omega) (by assumption) | exact okm_mk2 (by omega) (by assumption) (by assumption)) | exact okm_mk2 (by omega) (by first | assumption | exact okm_mk2 (by omega) (by assumption) (by assumption) | exact okm_mk1 (by omega) (by assumption)) (by first | assumption | exact okm_mk1 (by omega) (by assumption)), by first | assumption | omega | rfl | (simp only [List.length_cons, List.length_append, List.length_nil]; omega)⟩) (fun _ _ _ hq => hq))
  ·rintro y ⟨p_515, h_516, L_517, W_518⟩ hd
   obtain ⟨r16_519, hy520, hq16_0, hq16_1⟩ : ∃ r16 : List (Int × Int), y 16 = (LN r16 : AV) ∧ (OKM 6 r16) ∧ (r16.length ≤ 4) := hd 16 (by kernel_rfl)
   clear hd
   obtain ⟨y, rfl⟩ : ∃ y', y = updY y' 16 (LN r16_519) := ⟨y, updY_eq (by exact hy520)⟩
   refine k29 (textX_c r16_519 hq16_0 (by first | omega | (simp only [List.length_cons, List.length_append, List.length_nil]; omega))) (by rintro _ _ ⟨_, _, rfl, rfl⟩; rfl) ?_
   rintro _ ⟨s_521, f522, rfl, _⟩
   exact R.go 1 (R.one (.str s_521) (p_515, h_516, L_517, W_518) (by kernel_rfl) (by kernel_rfl) (show ∃ s17 : ByteArray, (.str s_521 : AV) = (.str s17 : AV) ∧ (s17.size ≤ 1000) from ⟨s_521, rfl, by first | assumption | omega | (simp only [List.length_cons, List.length_append, List.length_nil] at *; omega)⟩) (fun _ _ _ hq => hq))
  ·rintro y ⟨p_523, h_524, L_525, W_526⟩ hd
   obtain ⟨L14_527, hy528, hq14_0, hq14_1⟩ : ∃ L14 : List ByteArray, y 14 = (lstA eY 1 L14 : AV) ∧ (L14.length ≤ 1) ∧ (∀ j : Nat, (L14.getD j (⟨#[]⟩ : ByteArray)).size ≤ 1000) := hd 14 (by kernel_rfl)
   obtain ⟨s17_529, hy530, hq17_0⟩ : ∃ s17 : ByteArray, y 17 = (.str s17 : AV) ∧ (s17.size ≤ 1000) := hd 17 (by kernel_rfl)
   clear hd
   obtain ⟨y, rfl⟩ : ∃ y', y = updY y' 14 (lstA eY 1 L14_527) := ⟨y, updY_eq (by exact hy528)⟩
   obtain ⟨y, rfl⟩ : ∃ y', y = updY y' 17 (.str s17_529) := ⟨y, updY_eq (by exact hy530)⟩
   refine k29 (insert_c L14_527 s17_529 (by omega) hq14_1 hq17_0) (by rintro _ _ ⟨_, _, _, rfl, rfl⟩; rfl) ?_
   rintro _ ⟨r_531, f532, f533, rfl, _⟩
   exact R.go 1 (R.one (lstA eY 1 r_531) (p_523, h_524, L_525, W_526) (by kernel_rfl) (by kernel_rfl) (show ∃ L18 : List ByteArray, (lstA eY 1 r_531 : AV) = (lstA eY 1 L18 : AV) ∧ (L18.length ≤ 2) ∧ (∀ j : Nat, (L18.getD j (⟨#[]⟩ : ByteArray)).size ≤ 1000) from ⟨r_531, rfl, by first | assumption | omega | rfl | (simp only [List.length_cons, List.length_append, List.length_nil]; omega), by first | assumption | exact yz_one (by omega) | exact yz_nil | exact yz7 (by decide)⟩) (fun _ _ _ hq => hq))
  ·rintro y ⟨p_534, h_535, L_536, W_537⟩ hd
   obtain ⟨L10_538, hy539, hq10_0, hq10_1⟩ : ∃ L10 : List ByteArray, y 10 = (lstA eY 1 L10 : AV) ∧ (L10.length ≤ 1) ∧ (∀ j : Nat, (L10.getD j (⟨#[]⟩ : ByteArray)).size ≤ 1000) := hd 10 (by kernel_rfl)
   obtain ⟨L18_540, hy541, hq18_0, hq18_1⟩ : ∃ L18 : List ByteArray, y 18 = (lstA eY 1 L18 : AV) ∧ (L18.length ≤ 2) ∧ (∀ j : Nat, (L18.getD j (⟨#[]⟩ : ByteArray)).size ≤ 1000) := hd 18 (by kernel_rfl)
   clear hd
   obtain ⟨y, rfl⟩ : ∃ y', y = updY y' 10 (lstA eY 1 L10_538) := ⟨y, updY_eq (by exact hy539)⟩
   obtain ⟨y, rfl⟩ : ∃ y', y = updY y' 18 (lstA eY 1 L18_540) := ⟨y, updY_eq (by exact hy541)⟩
   exact R.go 2 (R.one (.agg [lstA eY 1 L10_538, lstA eY 1 L18_540]) (p_534, h_535, L_536, W_537) (by kernel_rfl) (by kernel_rfl) (show ∃ L19 : List ByteArray, ∃ W19 : List ByteArray, (.agg [lstA eY 1 L10_538, lstA eY 1 L18_540] : AV) = (.agg [lstA eY 1 L19, lstA eY 1 W19] : AV) ∧ (L19.length ≤ 10 ∧ W19.length ≤ 10) ∧ (∀ j : Nat, (L19.getD j (⟨#[]⟩ : ByteArray)).size ≤ 1000) ∧ (∀ j : Nat, (W19.getD j (⟨#[]⟩ : ByteArray)).size ≤ 1000) from ⟨L10_538, L18_540, rfl, by first | assumption | omega | rfl | (simp only [List.length_cons, List.length_append, List.length_nil]; omega), by first | assumption | exact yz_one (by omega) | exact yz_nil | exact yz7 (by decide), by first | assumption | exact yz_one (by omega) | exact yz_nil | exact yz7 (by decide)⟩) (fun _ _ _ hq => hq))
  ·rintro y ⟨p_542, h_543, L_544, W_545⟩ hd
   obtain ⟨s4_546, hy547, hq4_0⟩ : ∃ s4 : ByteArray, y 4 = (.str s4 : AV) ∧ (s4.size ≤ 1000) := hd 4 (by kernel_rfl)
   clear hd
   obtain ⟨y, rfl⟩ : ∃ y', y = updY y' 4 (.str s4_546) := ⟨y, updY_eq (by exact hy547)⟩
   exact R.go 2 (R.one (.str s4_546) (p_542, h_543, L_544, W_545) (by kernel_rfl) (by kernel_rfl) (show ∃ s20 : ByteArray, (.str s4_546 : AV) = (.str s20 : AV) ∧ (s20.size ≤ 1000) from ⟨s4_546, rfl, by first | assumption | omega | (simp only [List.length_cons, List.length_append, List.length_nil] at *; omega)⟩) (fun _ _ _ hq => hq))
  ·rintro y ⟨p_548, h_549, L_550, W_551⟩ hd
   obtain ⟨L19_552, W19_553, hy554, hq19_0, hq19_1, hq19_2⟩ : ∃ L19 : List ByteArray, ∃ W19 : List ByteArray, y 19 = (.agg [lstA eY 1 L19, lstA eY 1 W19] : AV) ∧ (L19.length ≤ 10 ∧ W19.length ≤ 10) ∧ (∀ j : Nat, (L19.getD j (⟨#[]⟩ : ByteArray)).size ≤ 1000) ∧ (∀ j : Nat, (W19.getD j (⟨#[]⟩ : ByteArray)).size ≤ 1000) := hd 19 (by kernel_rfl)
   clear hd
   obtain ⟨y, rfl⟩ : ∃ y', y = updY y' 19 (.agg [lstA eY 1 L19_552, lstA eY 1 W19_553]) := ⟨y, updY_eq (by exact hy554)⟩
   exact R.go 2 (R.one (.top) (p_548, h_549, L19_552, W19_553) (by kernel_rfl) (by kernel_rfl) (show (L19_552.length ≤ 10 ∧ W19_553.length ≤ 10) ∧ (∀ j : Nat, (L19_552.getD j (⟨#[]⟩ : ByteArray)).size ≤ 1000) ∧ (∀ j : Nat, (W19_553.getD j (⟨#[]⟩ : ByteArray)).size ≤ 1000) from ⟨by first | assumption | omega | rfl | (simp only [List.length_cons, List.length_append, List.length_nil]; omega), by first | assumption | exact yz_one (by omega) | exact yz_nil | exact yz7 (by decide), by first | assumption | exact yz_one (by omega) | exact yz_nil | exact yz7 (by decide)⟩) (fun j u hj hq => by simp only [if_neg hj] at hq ⊢; exact hq))
  rintro y ⟨p_555, h_556, L_557, W_558⟩ ⟨hk559, hk560, hk561, hk562, hk563, hk564, hk565, hk566, hk567, hk568, hk569, hk570, hk571, hk572, hk573, hk574, hk575, hk576, hk577, hk578, hk579, hk580, _⟩
  obtain ⟨s20_581, hy582, hq20_0⟩ : ∃ s20 : ByteArray, y 20 = (.str s20 : AV) ∧ (s20.size ≤ 1000) := hk579
  obtain ⟨y, rfl⟩ : ∃ y', y = updY y' 20 (.str s20_581) := ⟨y, updY_eq (by exact hy582)⟩
  obtain ⟨hs583, hs584, hs585⟩ : (L_557.length ≤ 10 ∧ W_558.length ≤ 10) ∧ (∀ j : Nat, (L_557.getD j (⟨#[]⟩ : ByteArray)).size ≤ 1000) ∧ (∀ j : Nat, (W_558.getD j (⟨#[]⟩ : ByteArray)).size ≤ 1000) := hk580
  exact R.retX (res := .tup [.str s20_581, .agg [lstA eY 1 L_557, lstA eY 1 W_558]]) (hp' := [.box 123 [LB c, AI (p_555 : Int), .int .u64 h_556], .list eo1 so1 no1 co1, .list eo2 so2 no2 co2, .dead, .box 92 [lstA eY 1 L_557, lstA eY 1 W_558], .frame [] [], .frame [] []]) (by kernel_rfl) (by kernel_rfl) (by kernel_rfl) (by kernel_rfl) ⟨[0, 1, 2], by kernel_rfl, by decide, s20_581, L_557, W_558, p_555, h_556, by first | omega | assumption | (simp; done) | (simp; omega) | exact yz_nil | exact yz_one (by first | assumption | omega | (simp only [List.length_cons, List.length_append, List.length_nil] at *; omega)), by first | omega | assumption | (simp; done) | (simp; omega) | exact yz_nil | exact yz_one (by first | assumption | omega | (simp only [List.length_cons, List.length_append, List.length_nil] at *; omega)), by first | omega | assumption | (simp; done) | (simp; omega) | exact yz_nil | exact yz_one (by first | assumption | omega | (simp only [List.length_cons, List.length_append, List.length_nil] at *; omega)), by kernel_rfl, by kernel_rfl⟩
 refine R.go 3 (R.anyInv (fun (y : Nat → AV) (x : Nat × Int × (List ByteArray) × (List ByteArray)) => match x with | (p_586, h_587, L_588, W_589) => (⟨(frm 125 [(0, .ptr 0 0), (2, (y 14)), (3, .ptr 4 0), (4, LN r_1), (5, LN r_6), (6, LN ((4, 0) :: (r_1 ++ r_6))), (7, LN ((5, 0) :: r_1)), (8, .ptr 0 0), (9, LN r_1), (10, .ptr 0 0), (11, LN r_6), (12, LN r_1), (13, LN r_6), (14, LN ((4, 0) :: (r_1 ++ r_6))), (15, LN r_1), (16, LN ((5, 0) :: r_1)), (17, .ptr 0 0), (18, AI v_11), (19, .bool (decide (v_11 = 0))), (20, .bool (decide (v_11 = 0))), (38, .bool (decide (v_11 = 1))), (39, .bool (decide (v_11 = 1))), (52, .bool (decide (v_11 = 2))), (53, .bool (decide (v_11 = 2))), (67, .bool (decide (v_11 = 3))), (68, .bool (decide (v_11 = 3))), (79, .bool (decide (v_11 = 4))), (80, .bool (decide (v_11 = 4))), (89, .bool (decide (v_11 = 5))), (90, .bool (decide (v_11 = 5))), (111, (y 0)), (112, (y 1)), (113, (y 2)), (114, (y 3)), (115, (y 4)), (116, (y 5)), (117, (y 6)), (118, (y 7)), (119, (y 8)), (120, (y 9)), (121, (y 10)), (122, (y 11)), (123, (y 12)), (124, (y 13))]), [.box 123 [LB c, AI (p_586 : Int), .int .u64 h_587], .list eo1 so1 no1 co1, .list eo2 so2 no2 co2, .frame usC frC, .box 92 [lstA eY 1 L_588, lstA eY 1 W_589], .frame [] [], .frame [] []]⟩ : St)) (fun (k : Nat) (u : AV) (x : Nat × Int × (List ByteArray) × (List ByteArray)) => match x with | (p_586, h_587, L_588, W_589) => if k = 15 then ((L_588.length ≤ 10 ∧ W_589.length ≤ 10) ∧ (∀ j : Nat, (L_588.getD j (⟨#[]⟩ : ByteArray)).size ≤ 1000) ∧ (∀ j : Nat, (W_589.getD j (⟨#[]⟩ : ByteArray)).size ≤ 1000)) else ([fun u => ∃ L0 : List ByteArray, u = (lstA eY 1 L0 : AV) ∧ (L0.length = 3) ∧ (∀ j : Nat, (L0.getD j (⟨#[]⟩ : ByteArray)).size ≤ 1000), fun u => u = (.ptr 0 0 : AV), fun u => ∃ v2 : Int, u = (AI v2 : AV) ∧ (0 ≤ v2 ∧ v2 < 3), fun u => ∃ s3 : ByteArray, u = (.rptr [.str s3] : AV) ∧ (s3.size ≤ 1000 ), fun u => ∃ s4 : ByteArray, u = (.str s4 : AV) ∧ (s4.size ≤ 1000), fun u => ∃ L5 : List ByteArray, u = (lstA eY 1 L5 : AV) ∧ (L5.length ≤ 1) ∧ (∀ j : Nat, (L5.getD j (⟨#[]⟩ : ByteArray)).size ≤ 1000), fun u => u = (LN r_1 : AV), fun u => u = (LN r_6 : AV), fun u => ∃ r8 : List (Int × Int), u = (LN r8 : AV) ∧ (OKM 6 r8) ∧ (r8.length ≤ 7), fun u => u = (LN r_1 : AV), fun u => ∃ r10 : List (Int × Int), u = (LN r10 : AV) ∧ (OKM 6 r10) ∧ (r10.length ≤ 11), fun u => ∃ s11 : ByteArray, u = (.str s11 : AV) ∧ (s11.size ≤ 1000), fun u => ∃ L12 : List ByteArray, u = (lstA eY 1 L12 : AV) ∧ (L12.length ≤ 1) ∧ (∀ j : Nat, (L12.getD j (⟨#[]⟩ : ByteArray)).size ≤ 1000), fun u => ∃ L13 : List ByteArray, ∃ W13 : List ByteArray, u = (.agg [lstA eY 1 L13, lstA eY 1 W13] : AV) ∧ (L13.length ≤ 10 ∧ W13.length ≤ 10) ∧ (∀ j : Nat, (L13.getD j (⟨#[]⟩ : ByteArray)).size ≤ 1000) ∧ (∀ j : Nat, (W13.getD j (⟨#[]⟩ : ByteArray)).size ≤ 1000), fun u => ∃ s14 : ByteArray, u = (.str s14 : AV) ∧ (s14.size ≤ 1000), fun u => True] : List (AV → Prop)).getD k (fun _ => True) u) (fun k => ([.top, .top, .top, .top, .top, .top, .top, .top, .top, .top, .top, .top, .top, .top, .str (⟨#[]⟩ : ByteArray), .top] : List AV).getD k .top) (p1_12, h1_13, [], []) 16 (by decide +kernel) (by kernel_rfl) (by kernel_rfl) (by kernel_rfl) (by kernel_rfl) (allK_c ?_ (allK_c ?_ (allK_c ?_ (allK_c ?_ (allK_c ?_ (allK_c ?_ (allK_c ?_ (allK_c ?_ (allK_c ?_ (allK_c ?_ (allK_c ?_ (allK_c ?_ (allK_c ?_ (allK_c ?_ (allK_c ?_ (allK_c ?_ allK_0)))))))))))))))) ?_)
 ·rintro y ⟨p_590, h_591, L_592, W_593⟩ hd
  clear hd
  refine R.lit (s := 1) (n := 3) (cs := rows eY [(⟨#[75]⟩ : ByteArray), (⟨#[84]⟩ : ByteArray), (⟨#[71, 76]⟩ : ByteArray)]) (by kernel_rfl) (by kernel_rfl) ?_
  exact R.go 1 (R.one (lstA eY 1 [(⟨#[75]⟩ : ByteArray), (⟨#[84]⟩ : ByteArray), (⟨#[71, 76]⟩ : ByteArray)]) (p_590, h_591, L_592, W_593) (by kernel_rfl) (by kernel_rfl) (show ∃ L0 : List ByteArray, (lstA eY 1 [(⟨#[75]⟩ : ByteArray), (⟨#[84]⟩ : ByteArray), (⟨#[71, 76]⟩ : ByteArray)] : AV) = (lstA eY 1 L0 : AV) ∧ (L0.length = 3) ∧ (∀ j : Nat, (L0.getD j (⟨#[]⟩ : ByteArray)).size ≤ 1000) from ⟨[(⟨#[75]⟩ : ByteArray), (⟨#[84]⟩ : ByteArray), (⟨#[71, 76]⟩ : ByteArray)], rfl, by first | assumption | omega | rfl | (simp only [List.length_cons, List.length_append, List.length_nil]; omega), by first | assumption | exact yz_one (by omega) | exact yz_nil | exact yz7 (by decide)⟩) (fun _ _ _ hq => hq))
 ·rintro y ⟨p_594, h_595, L_596, W_597⟩ hd
  clear hd
  exact R.go 2 (R.one (.ptr 0 0) (p_594, h_595, L_596, W_597) (by kernel_rfl) (by kernel_rfl) (show (.ptr 0 0 : AV) = (.ptr 0 0 : AV) from rfl) (fun _ _ _ hq => hq))
 ·rintro y ⟨p_598, h_599, L_600, W_601⟩ hd
  have hy602 : y 1 = (.ptr 0 0 : AV) := hd 1 (by kernel_rfl)
  clear hd
  obtain ⟨y, rfl⟩ : ∃ y', y = updY y' 1 (.ptr 0 0) := ⟨y, updY_eq (by exact hy602)⟩
  refine k25 (k26k 3 usC frC (k26l 4 [] [] (k26d 4 [] [] (k27a 3 92 [lstA eY 1 L_600, lstA eY 1 W_601] (nextX_c_r3 c p_598 h_599 3 eo1 so1 no1 co1 eo2 so2 no2 co2 92 2 1 [lstA eY 1 L_600, lstA eY 1 W_601] hc))))) ?_
  rintro _ _ ⟨_, _, ⟨_, _, ⟨_, _, ⟨_, ⟨v_603, p1_604, h1_605, f606, rfl, rfl⟩, rfl⟩, rfl, rfl⟩, rfl, rfl⟩, rfl, rfl⟩
  exact R.go 1 (R.one (AI v_603) (p1_604, h1_605, L_600, W_601) (by kernel_rfl) (by kernel_rfl) (show ∃ v2 : Int, (AI v_603 : AV) = (AI v2 : AV) ∧ (0 ≤ v2 ∧ v2 < 3) from ⟨v_603, rfl, by first | assumption | omega | rfl | (simp only [List.length_cons, List.length_append, List.length_nil]; omega)⟩) (fun _ _ _ hq => hq))
 ·rintro y ⟨p_607, h_608, L_609, W_610⟩ hd
  obtain ⟨L0_611, hy612, hq0_0, hq0_1⟩ : ∃ L0 : List ByteArray, y 0 = (lstA eY 1 L0 : AV) ∧ (L0.length = 3) ∧ (∀ j : Nat, (L0.getD j (⟨#[]⟩ : ByteArray)).size ≤ 1000) := hd 0 (by kernel_rfl)
  obtain ⟨v2_613, hy614, hq2_0⟩ : ∃ v2 : Int, y 2 = (AI v2 : AV) ∧ (0 ≤ v2 ∧ v2 < 3) := hd 2 (by kernel_rfl)
  clear hd
  obtain ⟨y, rfl⟩ : ∃ y', y = updY y' 0 (lstA eY 1 L0_611) := ⟨y, updY_eq (by exact hy612)⟩
  obtain ⟨y, rfl⟩ : ∃ y', y = updY y' 2 (AI v2_613) := ⟨y, updY_eq (by exact hy614)⟩
  refine k10 eY L0_611 (⟨#[]⟩ : ByteArray) ((v2_613).toNat) v2_613 eY_len ?_ (hji := by omega)
  exact R.go 1 (R.one (.rptr [.str (L0_611.getD ((v2_613).toNat) (⟨#[]⟩ : ByteArray))]) (p_607, h_608, L_609, W_610) (by kernel_rfl) (by kernel_rfl) (show ∃ s3 : ByteArray, (.rptr [.str (L0_611.getD ((v2_613).toNat) (⟨#[]⟩ : ByteArray))] : AV) = (.rptr [.str s3] : AV) ∧ (s3.size ≤ 1000 ) from ⟨(L0_611.getD ((v2_613).toNat) (⟨#[]⟩ : ByteArray)), rfl, by exact hq0_1 _⟩) (fun _ _ _ hq => hq))
 ·rintro y ⟨p_615, h_616, L_617, W_618⟩ hd
  obtain ⟨s3_619, hy620, hq3_0⟩ : ∃ s3 : ByteArray, y 3 = (.rptr [.str s3] : AV) ∧ (s3.size ≤ 1000 ) := hd 3 (by kernel_rfl)
  clear hd
  obtain ⟨y, rfl⟩ : ∃ y', y = updY y' 3 (.rptr [.str s3_619]) := ⟨y, updY_eq (by exact hy620)⟩
  exact R.go 2 (R.one (.str s3_619) (p_615, h_616, L_617, W_618) (by kernel_rfl) (by kernel_rfl) (show ∃ s4 : ByteArray, (.str s3_619 : AV) = (.str s4 : AV) ∧ (s4.size ≤ 1000) from ⟨s3_619, rfl, by first | assumption | omega | (simp only [List.length_cons, List.length_append, List.length_nil] at *; omega)⟩) (fun _ _ _ hq => hq))
 ·rintro y ⟨p_621, h_622, L_623, W_624⟩ hd
  clear hd
  refine R.lit (s := 1) (n := 0) (cs := rows eY []) (by kernel_rfl) (by kernel_rfl) ?_
  exact R.go 1 (R.one (lstA eY 1 []) (p_621, h_622, L_623, W_624) (by kernel_rfl) (by kernel_rfl) (show ∃ L5 : List ByteArray, (lstA eY 1 [] : AV) = (lstA eY 1 L5 : AV) ∧ (L5.length ≤ 1) ∧ (∀ j : Nat, (L5.getD j (⟨#[]⟩ : ByteArray)).size ≤ 1000) from ⟨[], rfl, by first | assumption | omega | rfl | (simp only [List.length_cons, List.length_append, List.length_nil]; omega), by first | assumption | exact yz_one (by omega) | exact yz_nil | exact yz7 (by decide)⟩) (fun _ _ _ hq => hq))
 ·rintro y ⟨p_625, h_626, L_627, W_628⟩ hd
  clear hd
  exact R.go 2 (R.one (LN r_1) (p_625, h_626, L_627, W_628) (by kernel_rfl) (by kernel_rfl) (show (LN r_1 : AV) = (LN r_1 : AV) from rfl) (fun _ _ _ hq => hq))
 ·rintro y ⟨p_629, h_630, L_631, W_632⟩ hd
  clear hd
  exact R.go 2 (R.one (LN r_6) (p_629, h_630, L_631, W_632) (by kernel_rfl) (by kernel_rfl) (show (LN r_6 : AV) = (LN r_6 : AV) from rfl) (fun _ _ _ hq => hq))
 ·rintro y ⟨p_633, h_634, L_635, W_636⟩ hd
  have hy637 : y 6 = (LN r_1 : AV) := hd 6 (by kernel_rfl)
  have hy638 : y 7 = (LN r_6 : AV) := hd 7 (by kernel_rfl)
  clear hd
  obtain ⟨y, rfl⟩ : ∃ y', y = updY y' 6 (LN r_1) := ⟨y, updY_eq (by exact hy637)⟩
  obtain ⟨y, rfl⟩ : ∃ y', y = updY y' 7 (LN r_6) := ⟨y, updY_eq (by exact hy638)⟩
  refine k15 true (l02Pair_c 2 r_1 r_6 (by first | omega | (simp <;> omega)) (by first | omega | (simp <;> omega))).frz ?_
  exact R.go 1 (R.one (LN ((2, 0) :: (r_1 ++ r_6))) (p_633, h_634, L_635, W_636) (by kernel_rfl) (by kernel_rfl) (show ∃ r8 : List (Int × Int), (LN ((2, 0) :: (r_1 ++ r_6)) : AV) = (LN r8 : AV) ∧ (OKM 6 r8) ∧ (r8.length ≤ 7) from ⟨(2, 0) :: (r_1 ++ r_6), rfl, by first | assumption | exact okm_mk1 (by omega) (by first | assumption | exact okm_mk1 (by omega) (by assumption) | exact okm_mk2 (by omega) (by assumption) (by assumption)) | exact okm_mk2 (by omega) (by first | assumption | exact okm_mk2 (by omega) (by assumption) (by assumption) | exact okm_mk1 (by omega) (by assumption)) (by first | assumption | exact okm_mk1 (by omega) (by assumption)), by first | assumption | omega | rfl | (simp only [List.length_cons, List.length_append, List.length_nil]; omega)⟩) (fun _ _ _ hq => hq))
 ·rintro y ⟨p_639, h_640, L_641, W_642⟩ hd
  clear hd
  exact R.go 2 (R.one (LN r_1) (p_639, h_640, L_641, W_642) (by kernel_rfl) (by kernel_rfl) (show (LN r_1 : AV) = (LN r_1 : AV) from rfl) (fun _ _ _ hq => hq))
 ·rintro y ⟨p_643, h_644, L_645, W_646⟩ hd
  obtain ⟨r8_647, hy648, hq8_0, hq8_1⟩ : ∃ r8 : List (Int × Int), y 8 = (LN r8 : AV) ∧ (OKM 6 r8) ∧ (r8.length ≤ 7) := hd 8 (by kernel_rfl)
  have hy649 : y 9 = (LN r_1 : AV) := hd 9 (by kernel_rfl)
  clear hd
  obtain ⟨y, rfl⟩ : ∃ y', y = updY y' 8 (LN r8_647) := ⟨y, updY_eq (by exact hy648)⟩
  obtain ⟨y, rfl⟩ : ∃ y', y = updY y' 9 (LN r_1) := ⟨y, updY_eq (by exact hy649)⟩
  refine k15 true (l02Pair_c 4 r8_647 r_1 (by first | omega | (simp <;> omega)) (by first | omega | (simp <;> omega))).frz ?_
  exact R.go 1 (R.one (LN ((4, 0) :: (r8_647 ++ r_1))) (p_643, h_644, L_645, W_646) (by kernel_rfl) (by kernel_rfl) (show ∃ r10 : List (Int × Int), (LN ((4, 0) :: (r8_647 ++ r_1)) : AV) = (LN r10 : AV) ∧ (OKM 6 r10) ∧ (r10.length ≤ 11) from ⟨(4, 0) :: (r8_647 ++ r_1), rfl, by first | assumption | exact okm_mk1 (by omega) (by first | assumption | exact okm_mk1 (by omega) (by assumption) | exact okm_mk2 (by omega) (by assumption) (by assumption)) | exact okm_mk2 (by omega) (by first | assumption | exact okm_mk2 (by omega) (by assumption) (by assumption) | exact okm_mk1 (by omega) (by assumption)) (by first | assumption | exact okm_mk1 (by omega) (by assumption)), by first | assumption | omega | rfl | (simp only [List.length_cons, List.length_append, List.length_nil]; omega)⟩) (fun _ _ _ hq => hq))
 ·rintro y ⟨p_650, h_651, L_652, W_653⟩ hd
  obtain ⟨r10_654, hy655, hq10_0, hq10_1⟩ : ∃ r10 : List (Int × Int), y 10 = (LN r10 : AV) ∧ (OKM 6 r10) ∧ (r10.length ≤ 11) := hd 10 (by kernel_rfl)
  clear hd
  obtain ⟨y, rfl⟩ : ∃ y', y = updY y' 10 (LN r10_654) := ⟨y, updY_eq (by exact hy655)⟩
  refine k29 (textX_c r10_654 hq10_0 (by first | omega | (simp only [List.length_cons, List.length_append, List.length_nil]; omega))) (by rintro _ _ ⟨_, _, rfl, rfl⟩; rfl) ?_
  rintro _ ⟨s_656, f657, rfl, _⟩
  exact R.go 1 (R.one (.str s_656) (p_650, h_651, L_652, W_653) (by kernel_rfl) (by kernel_rfl) (show ∃ s11 : ByteArray, (.str s_656 : AV) = (.str s11 : AV) ∧ (s11.size ≤ 1000) from ⟨s_656, rfl, by first | assumption | omega | (simp only [List.length_cons, List.length_append, List.length_nil] at *; omega)⟩) (fun _ _ _ hq => hq))
 ·rintro y ⟨p_658, h_659, L_660, W_661⟩ hd
  obtain ⟨s11_662, hy663, hq11_0⟩ : ∃ s11 : ByteArray, y 11 = (.str s11 : AV) ∧ (s11.size ≤ 1000) := hd 11 (by kernel_rfl)
  clear hd
  obtain ⟨y, rfl⟩ : ∃ y', y = updY y' 11 (.str s11_662) := ⟨y, updY_eq (by exact hy663)⟩
  refine R.lit (s := 1) (n := 1) (cs := rows eY [s11_662]) (by kernel_rfl) (by kernel_rfl) ?_
  exact R.go 1 (R.one (lstA eY 1 [s11_662]) (p_658, h_659, L_660, W_661) (by kernel_rfl) (by kernel_rfl) (show ∃ L12 : List ByteArray, (lstA eY 1 [s11_662] : AV) = (lstA eY 1 L12 : AV) ∧ (L12.length ≤ 1) ∧ (∀ j : Nat, (L12.getD j (⟨#[]⟩ : ByteArray)).size ≤ 1000) from ⟨[s11_662], rfl, by first | assumption | omega | rfl | (simp only [List.length_cons, List.length_append, List.length_nil]; omega), by first | assumption | exact yz_one (by omega) | exact yz_nil | exact yz7 (by decide)⟩) (fun _ _ _ hq => hq))
 ·rintro y ⟨p_664, h_665, L_666, W_667⟩ hd
  obtain ⟨L5_668, hy669, hq5_0, hq5_1⟩ : ∃ L5 : List ByteArray, y 5 = (lstA eY 1 L5 : AV) ∧ (L5.length ≤ 1) ∧ (∀ j : Nat, (L5.getD j (⟨#[]⟩ : ByteArray)).size ≤ 1000) := hd 5 (by kernel_rfl)
  obtain ⟨L12_670, hy671, hq12_0, hq12_1⟩ : ∃ L12 : List ByteArray, y 12 = (lstA eY 1 L12 : AV) ∧ (L12.length ≤ 1) ∧ (∀ j : Nat, (L12.getD j (⟨#[]⟩ : ByteArray)).size ≤ 1000) := hd 12 (by kernel_rfl)
  clear hd
  obtain ⟨y, rfl⟩ : ∃ y', y = updY y' 5 (lstA eY 1 L5_668) := ⟨y, updY_eq (by exact hy669)⟩
  obtain ⟨y, rfl⟩ : ∃ y', y = updY y' 12 (lstA eY 1 L12_670) := ⟨y, updY_eq (by exact hy671)⟩
  exact R.go 2 (R.one (.agg [lstA eY 1 L5_668, lstA eY 1 L12_670]) (p_664, h_665, L_666, W_667) (by kernel_rfl) (by kernel_rfl) (show ∃ L13 : List ByteArray, ∃ W13 : List ByteArray, (.agg [lstA eY 1 L5_668, lstA eY 1 L12_670] : AV) = (.agg [lstA eY 1 L13, lstA eY 1 W13] : AV) ∧ (L13.length ≤ 10 ∧ W13.length ≤ 10) ∧ (∀ j : Nat, (L13.getD j (⟨#[]⟩ : ByteArray)).size ≤ 1000) ∧ (∀ j : Nat, (W13.getD j (⟨#[]⟩ : ByteArray)).size ≤ 1000) from ⟨L5_668, L12_670, rfl, by first | assumption | omega | rfl | (simp only [List.length_cons, List.length_append, List.length_nil]; omega), by first | assumption | exact yz_one (by omega) | exact yz_nil | exact yz7 (by decide), by first | assumption | exact yz_one (by omega) | exact yz_nil | exact yz7 (by decide)⟩) (fun _ _ _ hq => hq))
 ·rintro y ⟨p_672, h_673, L_674, W_675⟩ hd
  obtain ⟨s4_676, hy677, hq4_0⟩ : ∃ s4 : ByteArray, y 4 = (.str s4 : AV) ∧ (s4.size ≤ 1000) := hd 4 (by kernel_rfl)
  clear hd
  obtain ⟨y, rfl⟩ : ∃ y', y = updY y' 4 (.str s4_676) := ⟨y, updY_eq (by exact hy677)⟩
  exact R.go 2 (R.one (.str s4_676) (p_672, h_673, L_674, W_675) (by kernel_rfl) (by kernel_rfl) (show ∃ s14 : ByteArray, (.str s4_676 : AV) = (.str s14 : AV) ∧ (s14.size ≤ 1000) from ⟨s4_676, rfl, by first | assumption | omega | (simp only [List.length_cons, List.length_append, List.length_nil] at *; omega)⟩) (fun _ _ _ hq => hq))
 ·rintro y ⟨p_678, h_679, L_680, W_681⟩ hd
  obtain ⟨L13_682, W13_683, hy684, hq13_0, hq13_1, hq13_2⟩ : ∃ L13 : List ByteArray, ∃ W13 : List ByteArray, y 13 = (.agg [lstA eY 1 L13, lstA eY 1 W13] : AV) ∧ (L13.length ≤ 10 ∧ W13.length ≤ 10) ∧ (∀ j : Nat, (L13.getD j (⟨#[]⟩ : ByteArray)).size ≤ 1000) ∧ (∀ j : Nat, (W13.getD j (⟨#[]⟩ : ByteArray)).size ≤ 1000) := hd 13 (by kernel_rfl)
  clear hd
  obtain ⟨y, rfl⟩ : ∃ y', y = updY y' 13 (.agg [lstA eY 1 L13_682, lstA eY 1 W13_683]) := ⟨y, updY_eq (by exact hy684)⟩
  exact R.go 2 (R.one (.top) (p_678, h_679, L13_682, W13_683) (by kernel_rfl) (by kernel_rfl) (show (L13_682.length ≤ 10 ∧ W13_683.length ≤ 10) ∧ (∀ j : Nat, (L13_682.getD j (⟨#[]⟩ : ByteArray)).size ≤ 1000) ∧ (∀ j : Nat, (W13_683.getD j (⟨#[]⟩ : ByteArray)).size ≤ 1000) from ⟨by first | assumption | omega | rfl | (simp only [List.length_cons, List.length_append, List.length_nil]; omega), by first | assumption | exact yz_one (by omega) | exact yz_nil | exact yz7 (by decide), by first | assumption | exact yz_one (by omega) | exact yz_nil | exact yz7 (by decide)⟩) (fun j u hj hq => by simp only [if_neg hj] at hq ⊢; exact hq))
 rintro y ⟨p_685, h_686, L_687, W_688⟩ ⟨hk689, hk690, hk691, hk692, hk693, hk694, hk695, hk696, hk697, hk698, hk699, hk700, hk701, hk702, hk703, hk704, _⟩
 obtain ⟨s14_705, hy706, hq14_0⟩ : ∃ s14 : ByteArray, y 14 = (.str s14 : AV) ∧ (s14.size ≤ 1000) := hk703
 obtain ⟨y, rfl⟩ : ∃ y', y = updY y' 14 (.str s14_705) := ⟨y, updY_eq (by exact hy706)⟩
 obtain ⟨hs707, hs708, hs709⟩ : (L_687.length ≤ 10 ∧ W_688.length ≤ 10) ∧ (∀ j : Nat, (L_687.getD j (⟨#[]⟩ : ByteArray)).size ≤ 1000) ∧ (∀ j : Nat, (W_688.getD j (⟨#[]⟩ : ByteArray)).size ≤ 1000) := hk704
 exact R.retX (res := .tup [.str s14_705, .agg [lstA eY 1 L_687, lstA eY 1 W_688]]) (hp' := [.box 123 [LB c, AI (p_685 : Int), .int .u64 h_686], .list eo1 so1 no1 co1, .list eo2 so2 no2 co2, .dead, .box 92 [lstA eY 1 L_687, lstA eY 1 W_688], .frame [] [], .frame [] []]) (by kernel_rfl) (by kernel_rfl) (by kernel_rfl) (by kernel_rfl) ⟨[0, 1, 2], by kernel_rfl, by decide, s14_705, L_687, W_688, p_685, h_686, by first | omega | assumption | (simp; done) | (simp; omega) | exact yz_nil | exact yz_one (by first | assumption | omega | (simp only [List.length_cons, List.length_append, List.length_nil] at *; omega)), by first | omega | assumption | (simp; done) | (simp; omega) | exact yz_nil | exact yz_one (by first | assumption | omega | (simp only [List.length_cons, List.length_append, List.length_nil] at *; omega)), by first | omega | assumption | (simp; done) | (simp; omega) | exact yz_nil | exact yz_one (by first | assumption | omega | (simp only [List.length_cons, List.length_append, List.length_nil] at *; omega)), by kernel_rfl, by kernel_rfl⟩
end Go.Proofs.YtehbliocfpppoaaGreat
