/- Texts of the proof: AV2, AV3, Symo, AV4. -/
import Derived.Test.YtehbliocfpppoaaGreatPartJ

/-! Texts read as formulas: the reader, by a bound on what is left to read. -/
namespace Go.Proofs.YtehbliocfpppoaaGreat
open Go.RowKit Go.Abs
theorem take_c (T : ByteArray) (at_ : Int) (bad : Bool) (b : Int) (h0 : 0 ≤ at_ ∧ at_ ≤ (T.size : Int) ∧ T.size ≤ 100000) : CallX Tryz.prog 221 [.ptr 0 0, .int .u8 b] [.box 199 [.str T, AI at_, .bool bad]] (fun (resX : AV) (objX : List AObj) => ∃ p2 : Int, (at_ ≤ p2 ∧ p2 ≤ at_ + 1 ∧ p2 ≤ (T.size : Int)) ∧ resX = .bool (decide (at_ < p2)) ∧ objX = [.box 199 [.str T, AI p2, .bool bad]]) := by
 refine CallX.dropE (CallX.ofF Tryz.func221 rfl (by kernel_rfl) ?_)
 intro usC frC hfC
 refine R.go 13 ((Bool.eq_false_or_eq_true (bad)).elim (fun c1 => ?_) (fun c1 => ?_))
 ·refine k8 true (bnF c1) ?_
  iterate 9 refine k8 true (bnF c1) ?_
  refine k9 false (bnF c1) ?_
  exact R.go 20 (R.retX (res := .bool false) (hp' := [.box 199 [.str T, AI at_, .bool bad], .dead]) (by kernel_rfl) (by kernel_rfl) (by kernel_rfl) (by kernel_rfl) ⟨[0], by kernel_rfl, by decide, at_, by omega, by first | exact congrArg AV.bool (decide_eq_true (by omega)).symm | exact congrArg AV.bool (decide_eq_false (by omega)).symm, by kernel_rfl⟩)
 refine k7 true (bnT c1) ?_
 iterate 8 refine R.go 1 (k7 true (bnT c1) ?_)
 refine R.sLen T (by kernel_rfl) (by kernel_rfl) (k7 true (bnT c1) (R.go 1 (k9 true (bnT c1) (R.go 1 ?_))))
 by_cases c2 : at_ < (T.size : Int)
 ·refine k7 true (dT c2) ?_
  iterate 8 refine R.go 1 (k7 true (dT c2) ?_)
  refine R.sIdx T at_ (by kernel_rfl) (by kernel_rfl) (by omega) (by first | omega | (omega) | (simp only [ByteArray.size_append, ByteArray.size_extract]; omega)) (k7 true (dT c2) (R.go 1 (k7 true (dT c2) (R.go 1 (k9 true (dT c2) (R.go 1 (k4 ((byt T (at_).toNat) = b) (fun c3 => ?_) (fun c3 => ?_))))))))
  ·refine R.go 7 (k1 (at_ + 1) ?_)
   exact R.go 8 (R.retX (res := .bool true) (hp' := [.box 199 [.str T, AI (at_ + 1), .bool bad], .dead]) (by kernel_rfl) (by kernel_rfl) (by kernel_rfl) (by kernel_rfl) ⟨[0], by kernel_rfl, by decide, at_ + 1, by omega, by first | exact congrArg AV.bool (decide_eq_true (by omega)).symm | exact congrArg AV.bool (decide_eq_false (by omega)).symm, by kernel_rfl⟩)
  exact R.go 5 (R.retX (res := .bool false) (hp' := [.box 199 [.str T, AI at_, .bool bad], .dead]) (by kernel_rfl) (by kernel_rfl) (by kernel_rfl) (by kernel_rfl) ⟨[0], by kernel_rfl, by decide, at_, by omega, by first | exact congrArg AV.bool (decide_eq_true (by omega)).symm | exact congrArg AV.bool (decide_eq_false (by omega)).symm, by kernel_rfl⟩)
 iterate 11 refine k8 true (dF c2) ?_
 refine k9 false (dF c2) ?_
 exact R.go 7 (R.retX (res := .bool false) (hp' := [.box 199 [.str T, AI at_, .bool bad], .dead]) (by kernel_rfl) (by kernel_rfl) (by kernel_rfl) (by kernel_rfl) ⟨[0], by kernel_rfl, by decide, at_, by omega, by first | exact congrArg AV.bool (decide_eq_true (by omega)).symm | exact congrArg AV.bool (decide_eq_false (by omega)).symm, by kernel_rfl⟩)
theorem need_c (T : ByteArray) (at_ : Int) (bad : Bool) (b : Int) (h0 : 0 ≤ at_ ∧ at_ ≤ (T.size : Int) ∧ T.size ≤ 100000) : CallX Tryz.prog 224 [.ptr 0 0, .int .u8 b] [.box 199 [.str T, AI at_, .bool bad]] (fun (resX : AV) (objX : List AObj) => ∃ p2 : Int, ∃ bad2 : Bool, (at_ ≤ p2 ∧ p2 ≤ at_ + 1 ∧ p2 ≤ (T.size : Int)) ∧ resX = .tup [] ∧ objX = [.box 199 [.str T, AI p2, .bool bad2]]) := by
 refine CallX.dropE (CallX.ofF Tryz.func224 rfl (by kernel_rfl) ?_)
 intro usC frC hfC
 refine R.go 4 (k25 (k26c 1 usC frC (take_c T at_ bad b h0)) ?_)
 rintro _ _ ⟨_, _, ⟨p2_1, f2, rfl, rfl⟩, rfl, rfl⟩
 refine R.go 2 (k5 (at_ < p2_1) (fun c3 => ?_) (fun c3 => ?_))
 ·exact R.go 6 (R.retX (res := .tup []) (hp' := [.box 199 [.str T, AI p2_1, .bool true], .dead]) (by kernel_rfl) (by kernel_rfl) (by kernel_rfl) (by kernel_rfl) ⟨[0], by kernel_rfl, by decide, p2_1, true, by omega, by kernel_rfl, by kernel_rfl⟩)
 exact R.go 1 (R.retX (res := .tup []) (hp' := [.box 199 [.str T, AI p2_1, .bool bad], .dead]) (by kernel_rfl) (by kernel_rfl) (by kernel_rfl) (by kernel_rfl) ⟨[0], by kernel_rfl, by decide, p2_1, bad, by omega, by kernel_rfl, by kernel_rfl⟩)
theorem prefix_s (e : Int) (hPre : ∀ (T : ByteArray) (at_ : Int) (bad : Bool) (h0 : 0 ≤ at_ ∧ at_ ≤ (T.size : Int) ∧ T.size ≤ 100000) (hd : (T.size : Int) - at_ ≤ e), CallX Tryz.prog 223 [.ptr 0 0] [.box 199 [.str T, AI at_, .bool bad]] (fun (resX : AV) (objX : List AObj) => ∃ r : List (Int × Int), ∃ p2 : Int, ∃ bad2 : Bool, (OKM 6 r) ∧ ((r.length : Int) ≤ 3 * (p2 - at_) + 1 ∧ 1 ≤ r.length ∧ at_ ≤ p2 ∧ p2 ≤ (T.size : Int)) ∧ resX = LN r ∧ objX = [.box 199 [.str T, AI p2, .bool bad2]])) (hImp : ∀ (T : ByteArray) (at_ : Int) (bad : Bool) (h0 : 0 ≤ at_ ∧ at_ ≤ (T.size : Int) ∧ T.size ≤ 100000) (hd : (T.size : Int) - at_ ≤ e), CallX Tryz.prog 219 [.ptr 0 0] [.box 199 [.str T, AI at_, .bool bad]] (fun (resX : AV) (objX : List AObj) => ∃ r : List (Int × Int), ∃ p2 : Int, ∃ bad2 : Bool, (OKM 6 r) ∧ ((r.length : Int) ≤ 3 * (p2 - at_) + 1 ∧ 1 ≤ r.length ∧ at_ ≤ p2 ∧ p2 ≤ (T.size : Int)) ∧ resX = LN r ∧ objX = [.box 199 [.str T, AI p2, .bool bad2]])) (T : ByteArray) (at_ : Int) (bad : Bool) (h0 : 0 ≤ at_ ∧ at_ ≤ (T.size : Int) ∧ T.size ≤ 100000) (hd : (T.size : Int) - at_ ≤ e + 1) : CallX Tryz.prog 223 [.ptr 0 0] [.box 199 [.str T, AI at_, .bool bad]] (fun (resX : AV) (objX : List AObj) => ∃ r : List (Int × Int), ∃ p2 : Int, ∃ bad2 : Bool, (OKM 6 r) ∧ ((r.length : Int) ≤ 3 * (p2 - at_) + 1 ∧ 1 ≤ r.length ∧ at_ ≤ p2 ∧ p2 ≤ (T.size : Int)) ∧ resX = LN r ∧ objX = [.box 199 [.str T, AI p2, .bool bad2]]) := by
 have hz6 : (⟨#[112, 113, 114, 115, 116, 117]⟩ : ByteArray).size = 6 := rfl
 refine CallX.dropE (CallX.ofF Tryz.func223 rfl (by kernel_rfl) ?_)
 intro usC frC hfC
 refine R.go 14 (k16 ((fun | (v, q) => (⟨(frm 61 [(0, .ptr 0 0), (3, .str (⟨#[112, 113, 114, 115, 116, 117]⟩ : ByteArray)), (4, AI (v : Int))]), [.box 199 [.str T, AI q, .bool bad], .frame usC frC]⟩ : St) : Nat × Int → St)) (fun | (v, q) => (v ≤ 6) ∧ (q = at_)) (fun | (v, q) => 6 - v) (0, at_) [0, 3, 4] none ⟨(by omega), (by omega)⟩ ?_)
 rintro ⟨v, q⟩ ⟨h4_1, h4_2⟩ R1 N2
 refine R.go 5 (R.sLen (⟨#[112, 113, 114, 115, 116, 117]⟩ : ByteArray) (by kernel_rfl) (by kernel_rfl) (R.go 2 (k4 ((v : Int) < ((⟨#[112, 113, 114, 115, 116, 117]⟩ : ByteArray).size : Int)) (fun c5 => ?_) (fun c5 => ?_))))
 ·refine R.go 8 (R.sIdx (⟨#[112, 113, 114, 115, 116, 117]⟩ : ByteArray) (v : Int) (by kernel_rfl) (by kernel_rfl) (by omega) (by first | omega | (have q0 : (⟨#[112, 113, 114, 115, 116, 117]⟩ : ByteArray).size = 6 := rfl; omega) | (simp only [ByteArray.size_append, ByteArray.size_extract]; have q0 : (⟨#[112, 113, 114, 115, 116, 117]⟩ : ByteArray).size = 6 := rfl; omega)) (k25 (k26c 1 usC frC (take_c T q bad (byt (⟨#[112, 113, 114, 115, 116, 117]⟩ : ByteArray) ((v : Int)).toNat) (by omega))) ?_))
  rintro _ _ ⟨_, _, ⟨p2_6, f7, rfl, rfl⟩, rfl, rfl⟩
  refine R.go 1 (k4 (q < p2_6) (fun c8 => ?_) (fun c8 => ?_))
  ·refine R.go 3 (k15 true (l02Var_c (v : Int)).frz ?_)
   exact R.go 2 (R.retX (res := LN [(0, (v : Int))]) (hp' := [.box 199 [.str T, AI p2_6, .bool bad], .dead]) (by kernel_rfl) (by kernel_rfl) (by kernel_rfl) (by kernel_rfl) ⟨[0], by kernel_rfl, by decide, [(0, (v : Int))], p2_6, bad, by first | omega | (first | (simp; done) | (simp only [List.length_cons, List.length_append, List.length_nil]; omega)) | (first | assumption | exact okm_true | exact okm_bot _ | exact okm_var (by omega) (by omega) | exact okm_not rfl (by assumption) | exact okm_mk2 (by omega) (by assumption) (by assumption) | exact okm_mk1 (by omega) (by assumption)), by first | omega | (first | (simp; done) | (simp only [List.length_cons, List.length_append, List.length_nil]; omega)) | (first | assumption | exact okm_true | exact okm_bot _ | exact okm_var (by omega) (by omega) | exact okm_not rfl (by assumption) | exact okm_mk2 (by omega) (by assumption) (by assumption) | exact okm_mk1 (by omega) (by assumption)), by kernel_rfl, by kernel_rfl⟩)
  refine R.go 4 (k1 ((v : Int) + 1) ?_)
  exact R.go 2 (k17 R1 (N2 (v + 1, p2_6) [0, 3, 4] none _ (by kernel_rfl) (by kernel_rfl) ⟨(by omega), (by omega)⟩ (by show (6 - (v + 1)) < (6 - v); omega)))
 refine R.go 6 (k25 (k26c 1 usC frC (take_c T q bad 70 (by omega))) ?_)
 rintro _ _ ⟨_, _, ⟨p2_9, f10, rfl, rfl⟩, rfl, rfl⟩
 refine R.go 2 (k4 (q < p2_9) (fun c11 => ?_) (fun c11 => ?_))
 ·refine R.go 2 (k15 true (l02False_c).frz ?_)
  exact R.go 2 (R.retX (res := LN [(1, 0)]) (hp' := [.box 199 [.str T, AI p2_9, .bool bad], .dead]) (by kernel_rfl) (by kernel_rfl) (by kernel_rfl) (by kernel_rfl) ⟨[0], by kernel_rfl, by decide, [(1, 0)], p2_9, bad, by first | omega | (first | (simp; done) | (simp only [List.length_cons, List.length_append, List.length_nil]; omega)) | (first | assumption | exact okm_true | exact okm_bot _ | exact okm_var (by omega) (by omega) | exact okm_not rfl (by assumption) | exact okm_mk2 (by omega) (by assumption) (by assumption) | exact okm_mk1 (by omega) (by assumption)), by first | omega | (first | (simp; done) | (simp only [List.length_cons, List.length_append, List.length_nil]; omega)) | (first | assumption | exact okm_true | exact okm_bot _ | exact okm_var (by omega) (by omega) | exact okm_not rfl (by assumption) | exact okm_mk2 (by omega) (by assumption) (by assumption) | exact okm_mk1 (by omega) (by assumption)), by kernel_rfl, by kernel_rfl⟩)
 refine R.go 3 (k25 (k26c 1 usC frC (take_c T p2_9 bad 84 (by omega))) ?_)
 rintro _ _ ⟨_, _, ⟨p2_12, f13, rfl, rfl⟩, rfl, rfl⟩
 refine R.go 2 (k4 (p2_9 < p2_12) (fun c14 => ?_) (fun c14 => ?_))
 ·refine R.go 2 (k15 true (l02True_c).frz ?_)
  exact R.go 2 (R.retX (res := LN [(4, 0), (1, 0), (1, 0)]) (hp' := [.box 199 [.str T, AI p2_12, .bool bad], .dead]) (by kernel_rfl) (by kernel_rfl) (by kernel_rfl) (by kernel_rfl) ⟨[0], by kernel_rfl, by decide, [(4, 0), (1, 0), (1, 0)], p2_12, bad, by first | omega | (first | (simp; done) | (simp only [List.length_cons, List.length_append, List.length_nil]; omega)) | (first | assumption | exact okm_true | exact okm_bot _ | exact okm_var (by omega) (by omega) | exact okm_not rfl (by assumption) | exact okm_mk2 (by omega) (by assumption) (by assumption) | exact okm_mk1 (by omega) (by assumption)), by first | omega | (first | (simp; done) | (simp only [List.length_cons, List.length_append, List.length_nil]; omega)) | (first | assumption | exact okm_true | exact okm_bot _ | exact okm_var (by omega) (by omega) | exact okm_not rfl (by assumption) | exact okm_mk2 (by omega) (by assumption) (by assumption) | exact okm_mk1 (by omega) (by assumption)), by kernel_rfl, by kernel_rfl⟩)
 refine R.go 3 (k25 (k26c 1 usC frC (take_c T p2_12 bad 126 (by omega))) ?_)
 rintro _ _ ⟨_, _, ⟨p2_15, f16, rfl, rfl⟩, rfl, rfl⟩
 refine R.go 2 (k4 (p2_12 < p2_15) (fun c17 => ?_) (fun c17 => ?_))
 ·refine R.go 3 (k25 (k26e 1 usC frC (hPre T p2_15 bad (by omega) (by omega))) ?_)
  rintro _ _ ⟨_, _, ⟨r_18, p2_19, bad2_20, f21, f22, rfl, rfl⟩, rfl, rfl⟩
  refine k15 true (l02Not_c r_18 (by first | omega | (simp <;> omega))).frz ?_
  exact R.go 2 (R.retX (res := LN ((4, 0) :: (r_18 ++ [(1, 0)]))) (hp' := [.box 199 [.str T, AI p2_19, .bool bad2_20], .dead]) (by kernel_rfl) (by kernel_rfl) (by kernel_rfl) (by kernel_rfl) ⟨[0], by kernel_rfl, by decide, (4, 0) :: (r_18 ++ [(1, 0)]), p2_19, bad2_20, by first | omega | (first | (simp; done) | (simp only [List.length_cons, List.length_append, List.length_nil]; omega)) | (first | assumption | exact okm_true | exact okm_bot _ | exact okm_var (by omega) (by omega) | exact okm_not rfl (by assumption) | exact okm_mk2 (by omega) (by assumption) (by assumption) | exact okm_mk1 (by omega) (by assumption)), by first | omega | (first | (simp; done) | (simp only [List.length_cons, List.length_append, List.length_nil]; omega)) | (first | assumption | exact okm_true | exact okm_bot _ | exact okm_var (by omega) (by omega) | exact okm_not rfl (by assumption) | exact okm_mk2 (by omega) (by assumption) (by assumption) | exact okm_mk1 (by omega) (by assumption)), by kernel_rfl, by kernel_rfl⟩)
 refine R.go 3 (k25 (k26c 1 usC frC (take_c T p2_15 bad 91 (by omega))) ?_)
 rintro _ _ ⟨_, _, ⟨p2_23, f24, rfl, rfl⟩, rfl, rfl⟩
 refine R.go 2 (k4 (p2_15 < p2_23) (fun c25 => ?_) (fun c25 => ?_))
 ·refine R.go 3 (k25 (k26a 1 usC frC (need_c T p2_23 bad 93 (by omega)) (h3 := by rintro _ _ ⟨_, _, _, rfl, rfl⟩; exact Nat.le_of_ble_eq_true (by kernel_rfl))) ?_)
  rintro _ _ ⟨_, _, ⟨p2_26, bad2_27, f28, rfl, rfl⟩, rfl, rfl⟩
  refine R.go 4 (k25 (k26e 1 usC frC (hPre T p2_26 bad2_27 (by omega) (by omega))) ?_)
  rintro _ _ ⟨_, _, ⟨r_29, p2_30, bad2_31, f32, f33, rfl, rfl⟩, rfl, rfl⟩
  refine k15 true (l02Pre_c 5 r_29 (by first | omega | (simp <;> omega))).frz ?_
  exact R.go 2 (R.retX (res := LN ((5, 0) :: r_29)) (hp' := [.box 199 [.str T, AI p2_30, .bool bad2_31], .dead]) (by kernel_rfl) (by kernel_rfl) (by kernel_rfl) (by kernel_rfl) ⟨[0], by kernel_rfl, by decide, (5, 0) :: r_29, p2_30, bad2_31, by first | omega | (first | (simp; done) | (simp only [List.length_cons, List.length_append, List.length_nil]; omega)) | (first | assumption | exact okm_true | exact okm_bot _ | exact okm_var (by omega) (by omega) | exact okm_not rfl (by assumption) | exact okm_mk2 (by omega) (by assumption) (by assumption) | exact okm_mk1 (by omega) (by assumption)), by first | omega | (first | (simp; done) | (simp only [List.length_cons, List.length_append, List.length_nil]; omega)) | (first | assumption | exact okm_true | exact okm_bot _ | exact okm_var (by omega) (by omega) | exact okm_not rfl (by assumption) | exact okm_mk2 (by omega) (by assumption) (by assumption) | exact okm_mk1 (by omega) (by assumption)), by kernel_rfl, by kernel_rfl⟩)
 refine R.go 3 (k25 (k26c 1 usC frC (take_c T p2_23 bad 60 (by omega))) ?_)
 rintro _ _ ⟨_, _, ⟨p2_34, f35, rfl, rfl⟩, rfl, rfl⟩
 refine R.go 2 (k4 (p2_23 < p2_34) (fun c36 => ?_) (fun c36 => ?_))
 ·refine R.go 3 (k25 (k26a 1 usC frC (need_c T p2_34 bad 62 (by omega)) (h3 := by rintro _ _ ⟨_, _, _, rfl, rfl⟩; exact Nat.le_of_ble_eq_true (by kernel_rfl))) ?_)
  rintro _ _ ⟨_, _, ⟨p2_37, bad2_38, f39, rfl, rfl⟩, rfl, rfl⟩
  refine R.go 4 (k25 (k26e 1 usC frC (hPre T p2_37 bad2_38 (by omega) (by omega))) ?_)
  rintro _ _ ⟨_, _, ⟨r_40, p2_41, bad2_42, f43, f44, rfl, rfl⟩, rfl, rfl⟩
  refine k15 true (l02Pre_c 6 r_40 (by first | omega | (simp <;> omega))).frz ?_
  exact R.go 2 (R.retX (res := LN ((6, 0) :: r_40)) (hp' := [.box 199 [.str T, AI p2_41, .bool bad2_42], .dead]) (by kernel_rfl) (by kernel_rfl) (by kernel_rfl) (by kernel_rfl) ⟨[0], by kernel_rfl, by decide, (6, 0) :: r_40, p2_41, bad2_42, by first | omega | (first | (simp; done) | (simp only [List.length_cons, List.length_append, List.length_nil]; omega)) | (first | assumption | exact okm_true | exact okm_bot _ | exact okm_var (by omega) (by omega) | exact okm_not rfl (by assumption) | exact okm_mk2 (by omega) (by assumption) (by assumption) | exact okm_mk1 (by omega) (by assumption)), by first | omega | (first | (simp; done) | (simp only [List.length_cons, List.length_append, List.length_nil]; omega)) | (first | assumption | exact okm_true | exact okm_bot _ | exact okm_var (by omega) (by omega) | exact okm_not rfl (by assumption) | exact okm_mk2 (by omega) (by assumption) (by assumption) | exact okm_mk1 (by omega) (by assumption)), by kernel_rfl, by kernel_rfl⟩)
 refine R.go 3 (k25 (k26c 1 usC frC (take_c T p2_34 bad 40 (by omega))) ?_)
 rintro _ _ ⟨_, _, ⟨p2_45, f46, rfl, rfl⟩, rfl, rfl⟩
 refine R.go 2 (k4 (p2_34 < p2_45) (fun c47 => ?_) (fun c47 => ?_))
 ·refine R.go 3 (k25 (k26e 1 usC frC (hImp T p2_45 bad (by omega) (by omega))) ?_)
  rintro _ _ ⟨_, _, ⟨r_48, p2_49, bad2_50, f51, f52, rfl, rfl⟩, rfl, rfl⟩
  refine R.go 5 (k25 (k26a 1 usC frC (need_c T p2_49 bad2_50 41 (by omega)) (h3 := by rintro _ _ ⟨_, _, _, rfl, rfl⟩; exact Nat.le_of_ble_eq_true (by kernel_rfl))) ?_)
  rintro _ _ ⟨_, _, ⟨p2_53, bad2_54, f55, rfl, rfl⟩, rfl, rfl⟩
  exact R.go 6 (R.retX (res := LN r_48) (hp' := [.box 199 [.str T, AI p2_53, .bool bad2_54], .dead]) (by kernel_rfl) (by kernel_rfl) (by kernel_rfl) (by kernel_rfl) ⟨[0], by kernel_rfl, by decide, r_48, p2_53, bad2_54, by first | omega | (first | (simp; done) | (simp only [List.length_cons, List.length_append, List.length_nil]; omega)) | (first | assumption | exact okm_true | exact okm_bot _ | exact okm_var (by omega) (by omega) | exact okm_not rfl (by assumption) | exact okm_mk2 (by omega) (by assumption) (by assumption) | exact okm_mk1 (by omega) (by assumption)), by first | omega | (first | (simp; done) | (simp only [List.length_cons, List.length_append, List.length_nil]; omega)) | (first | assumption | exact okm_true | exact okm_bot _ | exact okm_var (by omega) (by omega) | exact okm_not rfl (by assumption) | exact okm_mk2 (by omega) (by assumption) (by assumption) | exact okm_mk1 (by omega) (by assumption)), by kernel_rfl, by kernel_rfl⟩)
 refine R.go 11 (k15 true (l02False_c).frz ?_)
 exact R.go 2 (R.retX (res := LN [(1, 0)]) (hp' := [.box 199 [.str T, AI p2_45, .bool true], .dead]) (by kernel_rfl) (by kernel_rfl) (by kernel_rfl) (by kernel_rfl) ⟨[0], by kernel_rfl, by decide, [(1, 0)], p2_45, true, by first | omega | (first | (simp; done) | (simp only [List.length_cons, List.length_append, List.length_nil]; omega)) | (first | assumption | exact okm_true | exact okm_bot _ | exact okm_var (by omega) (by omega) | exact okm_not rfl (by assumption) | exact okm_mk2 (by omega) (by assumption) (by assumption) | exact okm_mk1 (by omega) (by assumption)), by first | omega | (first | (simp; done) | (simp only [List.length_cons, List.length_append, List.length_nil]; omega)) | (first | assumption | exact okm_true | exact okm_bot _ | exact okm_var (by omega) (by omega) | exact okm_not rfl (by assumption) | exact okm_mk2 (by omega) (by assumption) (by assumption) | exact okm_mk1 (by omega) (by assumption)), by kernel_rfl, by kernel_rfl⟩)
theorem and_s (e : Int) (hPr1 : ∀ (T : ByteArray) (at_ : Int) (bad : Bool) (h0 : 0 ≤ at_ ∧ at_ ≤ (T.size : Int) ∧ T.size ≤ 100000) (hd : (T.size : Int) - at_ ≤ e + 1), CallX Tryz.prog 223 [.ptr 0 0] [.box 199 [.str T, AI at_, .bool bad]] (fun (resX : AV) (objX : List AObj) => ∃ r : List (Int × Int), ∃ p2 : Int, ∃ bad2 : Bool, (OKM 6 r) ∧ ((r.length : Int) ≤ 3 * (p2 - at_) + 1 ∧ 1 ≤ r.length ∧ at_ ≤ p2 ∧ p2 ≤ (T.size : Int)) ∧ resX = LN r ∧ objX = [.box 199 [.str T, AI p2, .bool bad2]])) (T : ByteArray) (at_ : Int) (bad : Bool) (h0 : 0 ≤ at_ ∧ at_ ≤ (T.size : Int) ∧ T.size ≤ 100000) (hd : (T.size : Int) - at_ ≤ e + 1) : CallX Tryz.prog 222 [.ptr 0 0] [.box 199 [.str T, AI at_, .bool bad]] (fun (resX : AV) (objX : List AObj) => ∃ r : List (Int × Int), ∃ p2 : Int, ∃ bad2 : Bool, (OKM 6 r) ∧ ((r.length : Int) ≤ 3 * (p2 - at_) + 1 ∧ 1 ≤ r.length ∧ at_ ≤ p2 ∧ p2 ≤ (T.size : Int)) ∧ resX = LN r ∧ objX = [.box 199 [.str T, AI p2, .bool bad2]]) := by
 refine CallX.dropE (CallX.ofF Tryz.func222 rfl (by kernel_rfl) ?_)
 intro usC frC hfC
 refine R.go 7 (k25 (k26e 1 usC frC (hPr1 T at_ bad h0 hd)) ?_)
 rintro _ _ ⟨_, _, ⟨r_1, p2_2, bad2_3, f4, f5, rfl, rfl⟩, rfl, rfl⟩
 refine R.go 4 (k16 ((fun | (a, q, bq) => (⟨(frm 13 [(0, .ptr 0 0), (3, LN a)]), [.box 199 [.str T, AI q, .bool bq], .frame usC frC]⟩ : St) : (List (Int × Int)) × Int × Bool → St)) (fun | (a, q, bq) => (OKM 6 a) ∧ ((a.length : Int) ≤ 3 * (q - at_) + 1 ∧ 1 ≤ a.length ∧ at_ ≤ q ∧ q ≤ (T.size : Int))) (fun | (a, q, bq) => (T.size - q).toNat) (r_1, p2_2, bad2_3) [0, 3] none ⟨(by assumption), (by omega)⟩ ?_)
 rintro ⟨a, q, bq⟩ ⟨h9_1, h9_2⟩ R6 N7
 refine R.go 4 (k25 (k26c 1 usC frC (take_c T q bq 38 (by omega))) ?_)
 rintro _ _ ⟨_, _, ⟨p2_10, f11, rfl, rfl⟩, rfl, rfl⟩
 refine R.go 1 (k4 (q < p2_10) (fun c12 => ?_) (fun c12 => ?_))
 ·refine R.go 5 (k25 (k26e 1 usC frC (hPr1 T p2_10 bq (by omega) (by omega))) ?_)
  rintro _ _ ⟨_, _, ⟨r_13, p2_14, bad2_15, f16, f17, rfl, rfl⟩, rfl, rfl⟩
  refine k15 true (l02Pair_c 2 a r_13 (by first | omega | (simp <;> omega)) (by first | omega | (simp <;> omega))).frz ?_
  exact R.go 3 (k17 R6 (N7 ((2, 0) :: (a ++ r_13), p2_14, bad2_15) [0, 3] none _ (by kernel_rfl) (by kernel_rfl) ⟨(by first | assumption | exact okm_true | exact okm_bot _ | exact okm_var (by omega) (by omega) | exact okm_not rfl (by assumption) | exact okm_mk2 (by omega) (by assumption) (by assumption) | exact okm_mk1 (by omega) (by assumption)), (by first | omega | (first | (simp; done) | (simp only [List.length_cons, List.length_append, List.length_nil]; omega)) | (first | assumption | exact okm_true | exact okm_bot _ | exact okm_var (by omega) (by omega) | exact okm_not rfl (by assumption) | exact okm_mk2 (by omega) (by assumption) (by assumption) | exact okm_mk1 (by omega) (by assumption)))⟩ (by show ((T.size - p2_14).toNat) < ((T.size - q).toNat); omega)))
 exact R.go 6 (R.retX (res := LN a) (hp' := [.box 199 [.str T, AI p2_10, .bool bq], .dead]) (by kernel_rfl) (by kernel_rfl) (by kernel_rfl) (by kernel_rfl) ⟨[0], by kernel_rfl, by decide, a, p2_10, bq, by first | omega | (first | (simp; done) | (simp only [List.length_cons, List.length_append, List.length_nil]; omega)) | (first | assumption | exact okm_true | exact okm_bot _ | exact okm_var (by omega) (by omega) | exact okm_not rfl (by assumption) | exact okm_mk2 (by omega) (by assumption) (by assumption) | exact okm_mk1 (by omega) (by assumption)), by first | omega | (first | (simp; done) | (simp only [List.length_cons, List.length_append, List.length_nil]; omega)) | (first | assumption | exact okm_true | exact okm_bot _ | exact okm_var (by omega) (by omega) | exact okm_not rfl (by assumption) | exact okm_mk2 (by omega) (by assumption) (by assumption) | exact okm_mk1 (by omega) (by assumption)), by kernel_rfl, by kernel_rfl⟩)
theorem or_s (e : Int) (hAn1 : ∀ (T : ByteArray) (at_ : Int) (bad : Bool) (h0 : 0 ≤ at_ ∧ at_ ≤ (T.size : Int) ∧ T.size ≤ 100000) (hd : (T.size : Int) - at_ ≤ e + 1), CallX Tryz.prog 222 [.ptr 0 0] [.box 199 [.str T, AI at_, .bool bad]] (fun (resX : AV) (objX : List AObj) => ∃ r : List (Int × Int), ∃ p2 : Int, ∃ bad2 : Bool, (OKM 6 r) ∧ ((r.length : Int) ≤ 3 * (p2 - at_) + 1 ∧ 1 ≤ r.length ∧ at_ ≤ p2 ∧ p2 ≤ (T.size : Int)) ∧ resX = LN r ∧ objX = [.box 199 [.str T, AI p2, .bool bad2]])) (T : ByteArray) (at_ : Int) (bad : Bool) (h0 : 0 ≤ at_ ∧ at_ ≤ (T.size : Int) ∧ T.size ≤ 100000) (hd : (T.size : Int) - at_ ≤ e + 1) : CallX Tryz.prog 220 [.ptr 0 0] [.box 199 [.str T, AI at_, .bool bad]] (fun (resX : AV) (objX : List AObj) => ∃ r : List (Int × Int), ∃ p2 : Int, ∃ bad2 : Bool, (OKM 6 r) ∧ ((r.length : Int) ≤ 3 * (p2 - at_) + 1 ∧ 1 ≤ r.length ∧ at_ ≤ p2 ∧ p2 ≤ (T.size : Int)) ∧ resX = LN r ∧ objX = [.box 199 [.str T, AI p2, .bool bad2]]) := by
 refine CallX.dropE (CallX.ofF Tryz.func220 rfl (by kernel_rfl) ?_)
 intro usC frC hfC
 refine R.go 7 (k25 (k26e 1 usC frC (hAn1 T at_ bad h0 hd)) ?_)
 rintro _ _ ⟨_, _, ⟨r_1, p2_2, bad2_3, f4, f5, rfl, rfl⟩, rfl, rfl⟩
 refine R.go 4 (k16 ((fun | (a, q, bq) => (⟨(frm 13 [(0, .ptr 0 0), (3, LN a)]), [.box 199 [.str T, AI q, .bool bq], .frame usC frC]⟩ : St) : (List (Int × Int)) × Int × Bool → St)) (fun | (a, q, bq) => (OKM 6 a) ∧ ((a.length : Int) ≤ 3 * (q - at_) + 1 ∧ 1 ≤ a.length ∧ at_ ≤ q ∧ q ≤ (T.size : Int))) (fun | (a, q, bq) => (T.size - q).toNat) (r_1, p2_2, bad2_3) [0, 3] none ⟨(by assumption), (by omega)⟩ ?_)
 rintro ⟨a, q, bq⟩ ⟨h9_1, h9_2⟩ R6 N7
 refine R.go 4 (k25 (k26c 1 usC frC (take_c T q bq 124 (by omega))) ?_)
 rintro _ _ ⟨_, _, ⟨p2_10, f11, rfl, rfl⟩, rfl, rfl⟩
 refine R.go 1 (k4 (q < p2_10) (fun c12 => ?_) (fun c12 => ?_))
 ·refine R.go 5 (k25 (k26e 1 usC frC (hAn1 T p2_10 bq (by omega) (by omega))) ?_)
  rintro _ _ ⟨_, _, ⟨r_13, p2_14, bad2_15, f16, f17, rfl, rfl⟩, rfl, rfl⟩
  refine k15 true (l02Pair_c 3 a r_13 (by first | omega | (simp <;> omega)) (by first | omega | (simp <;> omega))).frz ?_
  exact R.go 3 (k17 R6 (N7 ((3, 0) :: (a ++ r_13), p2_14, bad2_15) [0, 3] none _ (by kernel_rfl) (by kernel_rfl) ⟨(by first | assumption | exact okm_true | exact okm_bot _ | exact okm_var (by omega) (by omega) | exact okm_not rfl (by assumption) | exact okm_mk2 (by omega) (by assumption) (by assumption) | exact okm_mk1 (by omega) (by assumption)), (by first | omega | (first | (simp; done) | (simp only [List.length_cons, List.length_append, List.length_nil]; omega)) | (first | assumption | exact okm_true | exact okm_bot _ | exact okm_var (by omega) (by omega) | exact okm_not rfl (by assumption) | exact okm_mk2 (by omega) (by assumption) (by assumption) | exact okm_mk1 (by omega) (by assumption)))⟩ (by show ((T.size - p2_14).toNat) < ((T.size - q).toNat); omega)))
 exact R.go 6 (R.retX (res := LN a) (hp' := [.box 199 [.str T, AI p2_10, .bool bq], .dead]) (by kernel_rfl) (by kernel_rfl) (by kernel_rfl) (by kernel_rfl) ⟨[0], by kernel_rfl, by decide, a, p2_10, bq, by first | omega | (first | (simp; done) | (simp only [List.length_cons, List.length_append, List.length_nil]; omega)) | (first | assumption | exact okm_true | exact okm_bot _ | exact okm_var (by omega) (by omega) | exact okm_not rfl (by assumption) | exact okm_mk2 (by omega) (by assumption) (by assumption) | exact okm_mk1 (by omega) (by assumption)), by first | omega | (first | (simp; done) | (simp only [List.length_cons, List.length_append, List.length_nil]; omega)) | (first | assumption | exact okm_true | exact okm_bot _ | exact okm_var (by omega) (by omega) | exact okm_not rfl (by assumption) | exact okm_mk2 (by omega) (by assumption) (by assumption) | exact okm_mk1 (by omega) (by assumption)), by kernel_rfl, by kernel_rfl⟩)
theorem imp_s (e : Int) (hImp : ∀ (T : ByteArray) (at_ : Int) (bad : Bool) (h0 : 0 ≤ at_ ∧ at_ ≤ (T.size : Int) ∧ T.size ≤ 100000) (hd : (T.size : Int) - at_ ≤ e), CallX Tryz.prog 219 [.ptr 0 0] [.box 199 [.str T, AI at_, .bool bad]] (fun (resX : AV) (objX : List AObj) => ∃ r : List (Int × Int), ∃ p2 : Int, ∃ bad2 : Bool, (OKM 6 r) ∧ ((r.length : Int) ≤ 3 * (p2 - at_) + 1 ∧ 1 ≤ r.length ∧ at_ ≤ p2 ∧ p2 ≤ (T.size : Int)) ∧ resX = LN r ∧ objX = [.box 199 [.str T, AI p2, .bool bad2]])) (hOr1 : ∀ (T : ByteArray) (at_ : Int) (bad : Bool) (h0 : 0 ≤ at_ ∧ at_ ≤ (T.size : Int) ∧ T.size ≤ 100000) (hd : (T.size : Int) - at_ ≤ e + 1), CallX Tryz.prog 220 [.ptr 0 0] [.box 199 [.str T, AI at_, .bool bad]] (fun (resX : AV) (objX : List AObj) => ∃ r : List (Int × Int), ∃ p2 : Int, ∃ bad2 : Bool, (OKM 6 r) ∧ ((r.length : Int) ≤ 3 * (p2 - at_) + 1 ∧ 1 ≤ r.length ∧ at_ ≤ p2 ∧ p2 ≤ (T.size : Int)) ∧ resX = LN r ∧ objX = [.box 199 [.str T, AI p2, .bool bad2]])) (T : ByteArray) (at_ : Int) (bad : Bool) (h0 : 0 ≤ at_ ∧ at_ ≤ (T.size : Int) ∧ T.size ≤ 100000) (hd : (T.size : Int) - at_ ≤ e + 1) : CallX Tryz.prog 219 [.ptr 0 0] [.box 199 [.str T, AI at_, .bool bad]] (fun (resX : AV) (objX : List AObj) => ∃ r : List (Int × Int), ∃ p2 : Int, ∃ bad2 : Bool, (OKM 6 r) ∧ ((r.length : Int) ≤ 3 * (p2 - at_) + 1 ∧ 1 ≤ r.length ∧ at_ ≤ p2 ∧ p2 ≤ (T.size : Int)) ∧ resX = LN r ∧ objX = [.box 199 [.str T, AI p2, .bool bad2]]) := by
 refine CallX.dropE (CallX.ofF Tryz.func219 rfl (by kernel_rfl) ?_)
 intro usC frC hfC
 refine R.go 7 (k25 (k26e 1 usC frC (hOr1 T at_ bad h0 hd)) ?_)
 rintro _ _ ⟨_, _, ⟨r_1, p2_2, bad2_3, f4, f5, rfl, rfl⟩, rfl, rfl⟩
 refine R.go 6 (k25 (k26c 1 usC frC (take_c T p2_2 bad2_3 62 (by omega))) ?_)
 rintro _ _ ⟨_, _, ⟨p2_6, f7, rfl, rfl⟩, rfl, rfl⟩
 refine R.go 1 (k4 (p2_2 < p2_6) (fun c8 => ?_) (fun c8 => ?_))
 ·refine R.go 4 (k25 (k26e 1 usC frC (hImp T p2_6 bad2_3 (by omega) (by omega))) ?_)
  rintro _ _ ⟨_, _, ⟨r_9, p2_10, bad2_11, f12, f13, rfl, rfl⟩, rfl, rfl⟩
  refine k15 true (l02Pair_c 4 r_1 r_9 (by first | omega | (simp <;> omega)) (by first | omega | (simp <;> omega))).frz ?_
  exact R.go 2 (R.retX (res := LN ((4, 0) :: (r_1 ++ r_9))) (hp' := [.box 199 [.str T, AI p2_10, .bool bad2_11], .dead]) (by kernel_rfl) (by kernel_rfl) (by kernel_rfl) (by kernel_rfl) ⟨[0], by kernel_rfl, by decide, (4, 0) :: (r_1 ++ r_9), p2_10, bad2_11, by first | omega | (first | (simp; done) | (simp only [List.length_cons, List.length_append, List.length_nil]; omega)) | (first | assumption | exact okm_true | exact okm_bot _ | exact okm_var (by omega) (by omega) | exact okm_not rfl (by assumption) | exact okm_mk2 (by omega) (by assumption) (by assumption) | exact okm_mk1 (by omega) (by assumption)), by first | omega | (first | (simp; done) | (simp only [List.length_cons, List.length_append, List.length_nil]; omega)) | (first | assumption | exact okm_true | exact okm_bot _ | exact okm_var (by omega) (by omega) | exact okm_not rfl (by assumption) | exact okm_mk2 (by omega) (by assumption) (by assumption) | exact okm_mk1 (by omega) (by assumption)), by kernel_rfl, by kernel_rfl⟩)
 exact R.go 6 (R.retX (res := LN r_1) (hp' := [.box 199 [.str T, AI p2_6, .bool bad2_3], .dead]) (by kernel_rfl) (by kernel_rfl) (by kernel_rfl) (by kernel_rfl) ⟨[0], by kernel_rfl, by decide, r_1, p2_6, bad2_3, by first | omega | (first | (simp; done) | (simp only [List.length_cons, List.length_append, List.length_nil]; omega)) | (first | assumption | exact okm_true | exact okm_bot _ | exact okm_var (by omega) (by omega) | exact okm_not rfl (by assumption) | exact okm_mk2 (by omega) (by assumption) (by assumption) | exact okm_mk1 (by omega) (by assumption)), by first | omega | (first | (simp; done) | (simp only [List.length_cons, List.length_append, List.length_nil]; omega)) | (first | assumption | exact okm_true | exact okm_bot _ | exact okm_var (by omega) (by omega) | exact okm_not rfl (by assumption) | exact okm_mk2 (by omega) (by assumption) (by assumption) | exact okm_mk1 (by omega) (by assumption)), by kernel_rfl, by kernel_rfl⟩)
theorem parse_all : ∀ k : Nat, (∀ (T : ByteArray) (at_ : Int) (bad : Bool) (h0 : 0 ≤ at_ ∧ at_ ≤ (T.size : Int) ∧ T.size ≤ 100000) (hd : (T.size : Int) - at_ ≤ (k : Int) - 1), CallX Tryz.prog 223 [.ptr 0 0] [.box 199 [.str T, AI at_, .bool bad]] (fun (resX : AV) (objX : List AObj) => ∃ r : List (Int × Int), ∃ p2 : Int, ∃ bad2 : Bool, (OKM 6 r) ∧ ((r.length : Int) ≤ 3 * (p2 - at_) + 1 ∧ 1 ≤ r.length ∧ at_ ≤ p2 ∧ p2 ≤ (T.size : Int)) ∧ resX = LN r ∧ objX = [.box 199 [.str T, AI p2, .bool bad2]])) ∧ (∀ (T : ByteArray) (at_ : Int) (bad : Bool) (h0 : 0 ≤ at_ ∧ at_ ≤ (T.size : Int) ∧ T.size ≤ 100000) (hd : (T.size : Int) - at_ ≤ (k : Int) - 1), CallX Tryz.prog 219 [.ptr 0 0] [.box 199 [.str T, AI at_, .bool bad]] (fun (resX : AV) (objX : List AObj) => ∃ r : List (Int × Int), ∃ p2 : Int, ∃ bad2 : Bool, (OKM 6 r) ∧ ((r.length : Int) ≤ 3 * (p2 - at_) + 1 ∧ 1 ≤ r.length ∧ at_ ≤ p2 ∧ p2 ≤ (T.size : Int)) ∧ resX = LN r ∧ objX = [.box 199 [.str T, AI p2, .bool bad2]]))
 | 0 => ⟨fun T at_ bad h0 hd => absurd hd (by omega), fun T at_ bad h0 hd => absurd hd (by omega)⟩
 | k + 1 => by
  obtain ⟨h1, h2⟩ := parse_all k
  have hp := prefix_s ((k : Int) - 1) h1 h2
  have ha := and_s ((k : Int) - 1) hp
  have ho := or_s ((k : Int) - 1) ha
  have hi := imp_s ((k : Int) - 1) h2 ho
  refine ⟨fun T at_ bad h0 hd => hp T at_ bad h0 (by omega), fun T at_ bad h0 hd => hi T at_ bad h0 (by omega)⟩
theorem imply_c (T : ByteArray) (at_ : Int) (bad : Bool) (h0 : 0 ≤ at_ ∧ at_ ≤ (T.size : Int) ∧ T.size ≤ 100000) : CallX Tryz.prog 219 [.ptr 0 0] [.box 199 [.str T, AI at_, .bool bad]] (fun (resX : AV) (objX : List AObj) => ∃ r : List (Int × Int), ∃ p2 : Int, ∃ bad2 : Bool, (OKM 6 r) ∧ ((r.length : Int) ≤ 3 * (p2 - at_) + 1 ∧ 1 ≤ r.length ∧ at_ ≤ p2 ∧ p2 ≤ (T.size : Int)) ∧ resX = LN r ∧ objX = [.box 199 [.str T, AI p2, .bool bad2]]) := (parse_all ((T.size : Int) - at_ + 1).toNat).2 T at_ bad h0 (by omega)
end Go.Proofs.YtehbliocfpppoaaGreat

/-! Sequents of texts as formulas. -/
namespace Go.Proofs.YtehbliocfpppoaaGreat
open Go.RowKit Go.Abs
theorem gl_app {l : List (List (Int × Int))} {a : List (Int × Int)} (h : ∀ j : Nat, (l.getD j []).length ≤ 40) (ha : a.length ≤ 40) : ∀ j : Nat, ((l ++ [a]).getD j []).length ≤ 40 := fun j => by
 rw [List.getD_eq_getElem?_getD, List.getElem?_append]
 split
 ·rw [← List.getD_eq_getElem?_getD]; exact h j
 ·rw [List.getElem?_singleton]
  split
  ·exact ha
  ·simp
theorem read_c (T : ByteArray) (hT : T.size ≤ 200) : CallX Tryz.prog 218 [.str T] [] (fun (resX : AV) (objX : List AObj) => ∃ r : List (Int × Int), ∃ k : Int, (OKM 6 r ∨ 0 ≤ k) ∧ (r.length ≤ 1000 ∧ -1 ≤ k) ∧ resX = .tup [LN r, AI k] ∧ objX = []) := by
 refine CallX.dropE (CallX.ofF Tryz.func218 rfl (by kernel_rfl) ?_)
 intro usC frC hfC
 refine R.go 15 (k25 (k26e 0 usC frC (imply_c T 0 false (by omega))) ?_)
 rintro _ _ ⟨_, _, ⟨r_1, p2_2, bad2_3, f4, f5, rfl, rfl⟩, rfl, rfl⟩
 refine R.go 10 ((Bool.eq_false_or_eq_true (bad2_3)).elim (fun c6 => ?_) (fun c6 => ?_))
 ·refine k8 false c6 ?_
  iterate 6 refine k8 false c6 ?_
  refine k9 true c6 (R.go 11 (R.nil 2 129 2 (by kernel_rfl) (k19 2 (R.kfix 0 (us := usC) (by kernel_rfl) (hfC.frz 2 (LN []) (Nat.le_of_ble_eq_true (by kernel_rfl))) ?_))))
  exact R.retX (res := .tup [LN [], AI p2_2]) (hp' := [.dead, .box 199 [.str T, AI p2_2, .bool bad2_3], .dead]) (by kernel_rfl) (by kernel_rfl) (by kernel_rfl) (by kernel_rfl) ⟨[], by kernel_rfl, by decide, [], p2_2, by first | omega | exact .inl (by assumption) | exact .inr (by omega) | (simp; omega), by first | omega | exact .inl (by assumption) | exact .inr (by omega) | (simp; omega), by kernel_rfl, by kernel_rfl⟩
 refine k7 false c6 ?_
 iterate 5 refine R.go 1 (k7 false c6 ?_)
 refine R.sLen T (by kernel_rfl) (by kernel_rfl) (k7 false c6 (R.go 1 (k9 false c6 (R.go 1 (k4 (p2_2 < (T.size : Int)) (fun c7 => ?_) (fun c7 => ?_))))))
 ·refine R.go 9 (R.nil 2 129 2 (by kernel_rfl) (k19 2 (R.kfix 0 (us := usC) (by kernel_rfl) (hfC.frz 2 (LN []) (Nat.le_of_ble_eq_true (by kernel_rfl))) ?_)))
  exact R.retX (res := .tup [LN [], AI p2_2]) (hp' := [.dead, .box 199 [.str T, AI p2_2, .bool bad2_3], .dead]) (by kernel_rfl) (by kernel_rfl) (by kernel_rfl) (by kernel_rfl) ⟨[], by kernel_rfl, by decide, [], p2_2, by first | omega | exact .inl (by assumption) | exact .inr (by omega) | (simp; omega), by first | omega | exact .inl (by assumption) | exact .inr (by omega) | (simp; omega), by kernel_rfl, by kernel_rfl⟩
 exact R.go 7 (R.retX (res := .tup [LN r_1, AI (-1)]) (hp' := [.dead, .box 199 [.str T, AI p2_2, .bool bad2_3]]) (by kernel_rfl) (by kernel_rfl) (by kernel_rfl) (by kernel_rfl) ⟨[], by kernel_rfl, by decide, r_1, (-1), by first | omega | exact .inl (by assumption) | exact .inr (by omega) | (simp; omega), by first | omega | exact .inl (by assumption) | exact .inr (by omega) | (simp; omega), by kernel_rfl, by kernel_rfl⟩)
theorem parse_c (T : ByteArray) (hT : T.size ≤ 1000000000) : CallX Tryz.prog 215 [.str T] [] (fun (resX : AV) (objX : List AObj) => ∃ r : List (Int × Int), ∃ k kd : Int, (¬ kd = 0 ∨ OKM 6 r) ∧ (r.length ≤ 40) ∧ resX = .tup [LN r, AI k, AI kd] ∧ objX = []) := by
 refine CallX.dropE (CallX.ofF Tryz.func215 rfl (by kernel_rfl) ?_)
 intro usC frC hfC
 refine R.go 10 (R.sLen T (by kernel_rfl) (by kernel_rfl) (R.go 2 (k4 ((T.size : Int) > 200) (fun c1 => ?_) (fun c1 => ?_))))
 ·refine R.go 6 (R.nil 2 129 2 (by kernel_rfl) (k19 1 (R.kfix 0 (us := usC) (by kernel_rfl) (hfC.frz 1 (LN []) (Nat.le_of_ble_eq_true (by kernel_rfl))) ?_)))
  exact R.retX (res := .tup [LN [], AI 0, AI 3]) (hp' := [.dead, .dead]) (by kernel_rfl) (by kernel_rfl) (by kernel_rfl) (by kernel_rfl) ⟨[], by kernel_rfl, by decide, [], 0, 3, by first | omega | exact .inl (by decide) | exact .inr ((by assumption : OKM 6 _ ∨ _).resolve_right (by omega)) | (simp; done), by first | omega | exact .inl (by decide) | exact .inr ((by assumption : OKM 6 _ ∨ _).resolve_right (by omega)) | (simp; done), by kernel_rfl, by kernel_rfl⟩
 refine R.go 4 (k25 (k26a 0 usC frC (read_c T (by omega))) ?_)
 rintro _ _ ⟨_, _, ⟨r_2, k_3, f4, f5, rfl, rfl⟩, rfl, rfl⟩
 refine R.go 14 (k4 (k_3 ≥ 0) (fun c6 => ?_) (fun c6 => ?_))
 ·refine R.go 7 (R.nil 2 129 2 (by kernel_rfl) (k19 1 (R.kfix 0 (us := usC) (by kernel_rfl) (hfC.frz 1 (LN []) (Nat.le_of_ble_eq_true (by kernel_rfl))) ?_)))
  exact R.retX (res := .tup [LN [], AI k_3, AI 6]) (hp' := [.dead, .dead]) (by kernel_rfl) (by kernel_rfl) (by kernel_rfl) (by kernel_rfl) ⟨[], by kernel_rfl, by decide, [], k_3, 6, by first | omega | exact .inl (by decide) | exact .inr ((by assumption : OKM 6 _ ∨ _).resolve_right (by omega)) | (simp; done), by first | omega | exact .inl (by decide) | exact .inr ((by assumption : OKM 6 _ ∨ _).resolve_right (by omega)) | (simp; done), by kernel_rfl, by kernel_rfl⟩
 refine R.go 7 (k4 ((r_2.length : Int) > 40) (fun c7 => ?_) (fun c7 => ?_))
 ·refine R.go 6 (R.nil 2 129 2 (by kernel_rfl) (k19 1 (R.kfix 0 (us := usC) (by kernel_rfl) (hfC.frz 1 (LN []) (Nat.le_of_ble_eq_true (by kernel_rfl))) ?_)))
  exact R.retX (res := .tup [LN [], AI 0, AI 3]) (hp' := [.dead, .dead]) (by kernel_rfl) (by kernel_rfl) (by kernel_rfl) (by kernel_rfl) ⟨[], by kernel_rfl, by decide, [], 0, 3, by first | omega | exact .inl (by decide) | exact .inr ((by assumption : OKM 6 _ ∨ _).resolve_right (by omega)) | (simp; done), by first | omega | exact .inl (by decide) | exact .inr ((by assumption : OKM 6 _ ∨ _).resolve_right (by omega)) | (simp; done), by kernel_rfl, by kernel_rfl⟩
 exact R.go 9 (R.retX (res := .tup [LN r_2, AI 0, AI 0]) (hp' := [.dead]) (by kernel_rfl) (by kernel_rfl) (by kernel_rfl) (by kernel_rfl) ⟨[], by kernel_rfl, by decide, r_2, 0, 0, by first | omega | exact .inl (by decide) | exact .inr ((by assumption : OKM 6 _ ∨ _).resolve_right (by omega)) | (simp; done), by first | omega | exact .inl (by decide) | exact .inr ((by assumption : OKM 6 _ ∨ _).resolve_right (by omega)) | (simp; done), by kernel_rfl, by kernel_rfl⟩)
theorem good_c (T : ByteArray) (hT : T.size ≤ 1000000000) : CallX Tryz.prog 199 [.str T] [] (fun (resX : AV) (objX : List AObj) => ∃ r : List (Int × Int), ∃ b : Bool, (r.length ≤ 40) ∧ resX = .tup [LN r, .bool b] ∧ objX = []) := by
 refine CallX.dropE (CallX.ofF Tryz.func199 rfl (by kernel_rfl) ?_)
 intro usC frC hfC
 refine R.go 8 (k25 (k26e 0 usC frC (parse_c T hT)) ?_)
 rintro _ _ ⟨_, _, ⟨r_1, k_2, kd_3, f4, f5, rfl, rfl⟩, rfl, rfl⟩
 have hok9 := fun h : kd_3 = 0 => (by assumption : ¬ kd_3 = 0 ∨ OKM 6 r_1).resolve_left (fun q => q h)
 refine R.go 14 ?_
 by_cases c6 : kd_3 = 0
 ·refine k7 true (dT c6) (R.go 1 (k7 true (dT c6) (k25 (k26c 0 usC frC (textX_c r_1 (by first | assumption | exact hok9 (by assumption) | (repeat' first | assumption | refine okm_mk1 (by omega) ?_ | refine okm_mk2 (by omega) ?_ ?_)) (by first | omega | (simp only [List.length_cons, List.length_append, List.length_nil]; omega)))) ?_)))
  rintro _ _ ⟨_, _, ⟨s_7, f8, rfl, rfl⟩, rfl, rfl⟩
  refine k7 true (dT c6) (R.go 1 (k7 true (dT c6) (R.str .eql s_7 T (.bool (s_7.toList == T.toList)) (by kernel_rfl) (by kernel_rfl) (by first | omega | (simp; omega)) rfl (k9 true (dT c6) ?_))))
  exact R.go 3 (R.retX (res := .tup [LN r_1, .bool (s_7.toList == T.toList)]) (hp' := [.dead]) (by kernel_rfl) (by kernel_rfl) (by kernel_rfl) (by kernel_rfl) ⟨[], by kernel_rfl, by decide, r_1, s_7.toList == T.toList, by assumption, by kernel_rfl, by kernel_rfl⟩)
 iterate 4 refine k8 true (dF c6) ?_
 refine k9 false (dF c6) ?_
 exact R.go 3 (R.retX (res := .tup [LN r_1, .bool false]) (hp' := [.dead]) (by kernel_rfl) (by kernel_rfl) (by kernel_rfl) (by kernel_rfl) ⟨[], by kernel_rfl, by decide, r_1, false, by assumption, by kernel_rfl, by kernel_rfl⟩)
theorem side_c (L : List ByteArray) (hL : L.length ≤ 100) (hs : ∀ j : Nat, (L.getD j (⟨#[]⟩ : ByteArray)).size ≤ 1000) : CallX Tryz.prog 197 [lstA eY 1 L] [] (fun (resX : AV) (objX : List AObj) => ∃ b : Bool, resX = .bool b ∧ objX = []) := by
 refine CallX.dropE (CallX.ofF Tryz.func197 rfl (by kernel_rfl) ?_)
 intro usC frC hfC
 refine R.go 11 (k4 ((L.length : Int) > 16) (fun c1 => ?_) (fun c1 => ?_))
 ·exact R.go 4 (R.retX (res := .bool false) (hp' := [.dead]) (by kernel_rfl) (by kernel_rfl) (by kernel_rfl) (by kernel_rfl) ⟨[], by kernel_rfl, by decide, false, by kernel_rfl, by kernel_rfl⟩)
 refine R.go 7 (k16 (fun (i : Nat) => (⟨(frm 41 [(0, lstA eY 1 L), (3, AI (i : Int))]), [.frame usC frC]⟩ : St)) (fun (i : Nat) => i ≤ L.length) (fun (i : Nat) => L.length - i) 0 [0, 3] none (by omega) ?_)
 rintro i h4_1 R2 N3
 have hsi := hs i
 refine R.go 8 (k4 ((i : Int) < (L.length : Int)) (fun c5 => ?_) (fun c5 => ?_))
 ·refine R.go 7 (k10 eY L (⟨#[]⟩ : ByteArray) i (i : Int) eY_len (R.go 1 (k25 (k26a 0 usC frC (good_c (L.getD i (⟨#[]⟩ : ByteArray)) (by omega)) (h3 := by rintro _ _ ⟨_, _, _, rfl, rfl⟩; exact Nat.le_of_ble_eq_true (by kernel_rfl))) ?_)))
  rintro _ _ ⟨_, _, ⟨r_6, b_7, f8, rfl, rfl⟩, rfl, rfl⟩
  refine R.go 11 ((Bool.eq_false_or_eq_true (b_7)).elim (fun c9 => ?_) (fun c9 => ?_))
  ·refine k7 false (bnF c9) ?_
   iterate 2 refine R.go 1 (k7 false (bnF c9) ?_)
   refine R.go 1 ?_
   by_cases c10 : (i : Int) > 0
   ·refine k7 true (dT c10) ?_
    iterate 2 refine R.go 1 (k7 true (dT c10) ?_)
    refine k10 eY L (⟨#[]⟩ : ByteArray) i (i : Int) eY_len (k7 true (dT c10) ?_)
    iterate 3 refine R.go 1 (k7 true (dT c10) ?_)
    refine k1 ((i : Int) - 1) (k7 true (dT c10) (k10 eY L (⟨#[]⟩ : ByteArray) (((i : Int) - 1).toNat) ((i : Int) - 1) eY_len ?_ (hji := by omega)))
    refine k7 true (dT c10) (R.go 1 (k7 true (dT c10) (R.sLt true (L.getD i (⟨#[]⟩ : ByteArray)) (L.getD (((i : Int) - 1).toNat) (⟨#[]⟩ : ByteArray)) (by kernel_rfl) (by kernel_rfl) (k7 false (bnF c9) (k9 true (dT c10) (k9 false (bnF c9) (R.go 1 (k3 (ltY true (L.getD i (⟨#[]⟩ : ByteArray)) (L.getD (((i : Int) - 1).toNat) (⟨#[]⟩ : ByteArray))) (fun c11 => ?_) (fun c11 => ?_)))))))))
    ·exact R.go 4 (R.retX (res := .bool false) (hp' := [.dead]) (by kernel_rfl) (by kernel_rfl) (by kernel_rfl) (by kernel_rfl) ⟨[], by kernel_rfl, by decide, false, by kernel_rfl, by kernel_rfl⟩)
    refine R.go 4 (k1 ((i : Int) + 1) ?_)
    exact R.go 2 (k17 R2 (N3 (i + 1) [0, 3] none _ (by kernel_rfl) (by kernel_rfl) (by omega) (by show (L.length - (i + 1)) < (L.length - i); omega)))
   iterate 10 refine k8 true (dF c10) ?_
   refine k7 false (bnF c9) (k9 false (dF c10) (k9 false (bnF c9) (R.go 6 (k1 ((i : Int) + 1) ?_))))
   exact R.go 2 (k17 R2 (N3 (i + 1) [0, 3] none _ (by kernel_rfl) (by kernel_rfl) (by omega) (by show (L.length - (i + 1)) < (L.length - i); omega)))
  iterate 3 refine k8 false (bnT c9) ?_
  refine R.go 10 (k8 false (bnT c9) (k9 true (bnT c9) ?_))
  exact R.go 6 (R.retX (res := .bool false) (hp' := [.dead]) (by kernel_rfl) (by kernel_rfl) (by kernel_rfl) (by kernel_rfl) ⟨[], by kernel_rfl, by decide, false, by kernel_rfl, by kernel_rfl⟩)
 exact R.go 5 (R.retX (res := .bool true) (hp' := [.dead]) (by kernel_rfl) (by kernel_rfl) (by kernel_rfl) (by kernel_rfl) ⟨[], by kernel_rfl, by decide, true, by kernel_rfl, by kernel_rfl⟩)
theorem l11Is_c (L W : List ByteArray) (hL : L.length ≤ 100) (hs : ∀ j : Nat, (L.getD j (⟨#[]⟩ : ByteArray)).size ≤ 1000) (hW : W.length ≤ 100) (hs2 : ∀ j : Nat, (W.getD j (⟨#[]⟩ : ByteArray)).size ≤ 1000) : CallX Tryz.prog 126 [.agg [lstA eY 1 L, lstA eY 1 W]] [] (fun (resX : AV) (objX : List AObj) => ∃ b : Bool, resX = .bool b ∧ objX = []) := by
 refine CallX.dropE (CallX.ofF Tryz.func126 rfl (by kernel_rfl) ?_)
 intro usC frC hfC
 refine R.go 9 (k29 (side_c L hL hs) (by rintro _ _ ⟨_, rfl, rfl⟩; rfl) ?_)
 rintro _ ⟨b_1, rfl, _⟩
 refine R.go 1 ((Bool.eq_false_or_eq_true (b_1)).elim (fun c2 => ?_) (fun c2 => ?_))
 ·refine k7 true c2 ?_
  iterate 2 refine R.go 1 (k7 true c2 ?_)
  refine k29 (side_c W hW hs2) (by rintro _ _ ⟨_, rfl, rfl⟩; rfl) ?_
  rintro _ ⟨b_3, rfl, _⟩
  refine k9 true c2 ?_
  exact R.go 2 (R.retX (res := .bool b_3) (hp' := [.dead, .box 92 [lstA eY 1 L, lstA eY 1 W]]) (by kernel_rfl) (by kernel_rfl) (by kernel_rfl) (by kernel_rfl) ⟨[], by kernel_rfl, by decide, b_3, by kernel_rfl, by kernel_rfl⟩)
 iterate 3 refine k8 true c2 ?_
 refine k9 false c2 ?_
 exact R.go 2 (R.retX (res := .bool false) (hp' := [.dead, .box 92 [lstA eY 1 L, lstA eY 1 W]]) (by kernel_rfl) (by kernel_rfl) (by kernel_rfl) (by kernel_rfl) ⟨[], by kernel_rfl, by decide, false, by kernel_rfl, by kernel_rfl⟩)
theorem read11_c (L : List ByteArray) (hL : L.length ≤ 100) (hs : ∀ j : Nat, (L.getD j (⟨#[]⟩ : ByteArray)).size ≤ 1000) : CallX Tryz.prog 129 [lstA eY 1 L] [] (fun (resX : AV) (objX : List AObj) => ∃ l : List (List (Int × Int)), (l.length = L.length) ∧ (∀ j : Nat, (l.getD j []).length ≤ 40) ∧ resX = LLN l ∧ objX = []) := by
 refine CallX.dropE (CallX.ofF Tryz.func129 rfl (by kernel_rfl) ?_)
 intro usC frC hfC
 refine R.go 15 (k16 ((fun | (i, l) => (⟨(frm 27 [(0, lstA eY 1 L), (3, .ref 1), (4, AI (i : Int))]), [.frame usC frC, rowA eLN 40 1 l]⟩ : St) : Nat × (List (List (Int × Int))) → St)) (fun | (i, l) => (i ≤ L.length) ∧ (l.length = i) ∧ (∀ j : Nat, (l.getD j []).length ≤ 40)) (fun | (i, l) => L.length - i) (0, []) [0, 3, 4] none ⟨(by omega), (by rfl), (by (intro j; simp))⟩ ?_)
 rintro ⟨i, l⟩ ⟨h4_1, h4_2, h4_3⟩ R1 N2
 have hsi := hs i
 refine R.go 8 (k4 ((i : Int) < (L.length : Int)) (fun c5 => ?_) (fun c5 => ?_))
 ·refine R.go 7 (k10 eY L (⟨#[]⟩ : ByteArray) i (i : Int) eY_len (R.go 1 (k29 (good_c (L.getD i (⟨#[]⟩ : ByteArray)) (by omega)) (by rintro _ _ ⟨_, _, _, rfl, rfl⟩; rfl) ?_)))
  rintro _ ⟨r_6, b_7, f8, rfl, _⟩
  refine R.go 10 (k14 eLN l [r_6] 1 40 1 24 eLN_one (R.kfix 0 (us := usC) (by kernel_rfl) (hfC.kill 1 (Nat.le_of_ble_eq_true (by kernel_rfl))) (R.go 5 (k1 ((i : Int) + 1) ?_))))
  exact R.go 2 (k17 R1 (N2 (i + 1, l ++ [r_6]) [0, 3, 4] (some [0, 1]) _ (by kernel_rfl) (canonF (fr := frC) (fun (frX : List AV) => (⟨(frm 27 [(0, lstA eY 1 L), (3, .ref 1), (4, AI ((i : Int) + 1))]), [.frame usC frX, rowA eLN 40 1 (l ++ [r_6])]⟩ : St)) (hfC.ren _ (by kernel_rfl)) (by kernel_rfl) (by kernel_rfl)) ⟨(by omega), (by (simp <;> omega)), (by exact gl_app (by assumption) (by assumption))⟩ (by show (L.length - (i + 1)) < (L.length - i); omega)))
 refine R.go 6 (k19 1 (R.kfix 0 (us := usC) (by kernel_rfl) (hfC.frz 1 (LLN l) (Nat.le_of_ble_eq_true (by kernel_rfl))) ?_))
 exact R.retX (res := LLN l) (hp' := [.dead, .dead]) (by kernel_rfl) (by kernel_rfl) (by kernel_rfl) (by kernel_rfl) ⟨[], by kernel_rfl, by decide, l, by first | omega | assumption, by first | omega | assumption, by kernel_rfl, by kernel_rfl⟩
theorem allY_c (k : Int) (l : List (List (Int × Int))) (hl : l.length ≤ 100) (h40 : ∀ j : Nat, (l.getD j []).length ≤ 40) : CallX Tryz.prog 128 [AI k, LLN l] [] (fun (resX : AV) (objX : List AObj) => ∃ r : List (Int × Int), (r.length ≤ 10000) ∧ resX = LN r ∧ objX = []) := by
 refine CallX.dropE (CallX.ofF Tryz.func128 rfl (by kernel_rfl) ?_)
 intro usC frC hfC
 refine R.go 11 (k4 ((l.length : Int) = 0) (fun c1 => ?_) (fun c1 => ?_))
 ·refine R.go 6 (k4 (k = 2) (fun c2 => ?_) (fun c2 => ?_))
  ·refine R.go 2 (k15 true (l02True_c).frz ?_)
   exact R.go 2 (R.retX (res := LN [(4, 0), (1, 0), (1, 0)]) (hp' := [.dead]) (by kernel_rfl) (by kernel_rfl) (by kernel_rfl) (by kernel_rfl) ⟨[], by kernel_rfl, by decide, [(4, 0), (1, 0), (1, 0)], by first | omega | (simp; done), by kernel_rfl, by kernel_rfl⟩)
  refine R.go 3 (k15 true (l02False_c).frz ?_)
  exact R.go 2 (R.retX (res := LN [(1, 0)]) (hp' := [.dead]) (by kernel_rfl) (by kernel_rfl) (by kernel_rfl) (by kernel_rfl) ⟨[], by kernel_rfl, by decide, [(1, 0)], by first | omega | (simp; done), by kernel_rfl, by kernel_rfl⟩)
 have hg0 := h40 0
 refine R.go 4 (k10 eLN l [] 0 0 eLN_len (R.go 1 (k15 true (l02Own_c (l.getD 0 []) (by first | omega | (simp <;> omega))) (R.go 8 (k16 ((fun | (i, r) => (⟨(frm 32 [(0, AI k), (1, LLN l), (5, .ref 1), (6, AI (i : Int))]), [.frame usC frC, rowA eN 129 2 r]⟩ : St) : Nat × (List (Int × Int)) → St)) (fun | (i, r) => (1 ≤ i) ∧ (i ≤ l.length) ∧ (r.length ≤ 41 * i)) (fun | (i, r) => l.length - i) (1, (l.getD 0 [])) [0, 1, 5, 6] none ⟨(by omega), (by omega), (by omega)⟩ ?_)))))
 rintro ⟨i, r⟩ ⟨h6_1, h6_2, h6_3⟩ R3 N4
 have hgi := h40 i
 refine R.go 8 (k4 ((i : Int) < (l.length : Int)) (fun c7 => ?_) (fun c7 => ?_))
 ·refine R.go 8 (k10 eLN l [] i (i : Int) eLN_len (R.go 1 (k15 false (l02Pair_c k r (l.getD i []) (by first | omega | (simp <;> omega)) (by first | omega | (simp <;> omega))) ?_ (hr := ownA_closed eN_closed 129 2 ((k, 0) :: (r ++ (l.getD i [])))))))
  refine R.go 5 (k1 ((i : Int) + 1) ?_)
  exact R.go 2 (k17 R3 (N4 (i + 1, (k, 0) :: (r ++ (l.getD i []))) [0, 1, 5, 6] (some [0, 2]) _ (by kernel_rfl) (canonF (fr := frC) (fun (frX : List AV) => (⟨(frm 32 [(0, AI k), (1, LLN l), (5, .ref 1), (6, AI ((i : Int) + 1))]), [.frame usC frX, rowA eN 129 2 ((k, 0) :: (r ++ (l.getD i [])))]⟩ : St)) (hfC.ren _ (by kernel_rfl)) (by kernel_rfl) (by kernel_rfl)) ⟨(by omega), (by omega), (by (simp only [List.length_cons, List.length_append]; omega))⟩ (by show (l.length - (i + 1)) < (l.length - i); omega)))
 refine R.go 6 (k19 1 (R.kfix 0 (us := usC) (by kernel_rfl) (hfC.frz 1 (LN r) (Nat.le_of_ble_eq_true (by kernel_rfl))) ?_))
 exact R.retX (res := LN r) (hp' := [.dead, .dead]) (by kernel_rfl) (by kernel_rfl) (by kernel_rfl) (by kernel_rfl) ⟨[], by kernel_rfl, by decide, r, by first | omega | (simp; done), by kernel_rfl, by kernel_rfl⟩
theorem made_c (a : List (Int × Int)) (hl : a.length ≤ 1000000) : CallX Tryz.prog 127 [LN a] [] (fun (resX : AV) (objX : List AObj) => ∃ r : List (Int × Int), ∃ k : Int, (r.length ≤ 40) ∧ resX = .tup [LN r, AI k] ∧ objX = []) := by
 refine CallX.dropE (CallX.ofF Tryz.func127 rfl (by kernel_rfl) ?_)
 intro usC frC hfC
 refine R.go 12 (k4 ((a.length : Int) > 40) (fun c1 => ?_) (fun c1 => ?_))
 ·refine R.go 5 (R.nil 2 129 2 (by kernel_rfl) (k19 1 (R.kfix 0 (us := usC) (by kernel_rfl) (hfC.frz 1 (LN []) (Nat.le_of_ble_eq_true (by kernel_rfl))) ?_)))
  exact R.retX (res := .tup [LN [], AI 3]) (hp' := [.dead, .dead]) (by kernel_rfl) (by kernel_rfl) (by kernel_rfl) (by kernel_rfl) ⟨[], by kernel_rfl, by decide, [], 3, by first | omega | (simp; done), by kernel_rfl, by kernel_rfl⟩
 exact R.go 7 (R.retX (res := .tup [LN a, AI 0]) (hp' := [.dead]) (by kernel_rfl) (by kernel_rfl) (by kernel_rfl) (by kernel_rfl) ⟨[], by kernel_rfl, by decide, a, 0, by first | omega | (simp; done), by kernel_rfl, by kernel_rfl⟩)
theorem seq_c (L W : List ByteArray) (hL : L.length ≤ 100) (hs : ∀ j : Nat, (L.getD j (⟨#[]⟩ : ByteArray)).size ≤ 1000) (hW : W.length ≤ 100) (hs2 : ∀ j : Nat, (W.getD j (⟨#[]⟩ : ByteArray)).size ≤ 1000) : CallX Tryz.prog 63 [.agg [lstA eY 1 L, lstA eY 1 W]] [] (fun (resX : AV) (objX : List AObj) => ∃ r : List (Int × Int), ∃ k : Int, (r.length ≤ 40) ∧ resX = .tup [LN r, AI k] ∧ objX = []) := by
 refine CallX.dropE (CallX.ofF Tryz.func63 rfl (by kernel_rfl) ?_)
 intro usC frC hfC
 refine R.go 10 (k29 (l11Is_c L W hL hs hW hs2) (by rintro _ _ ⟨_, rfl, rfl⟩; rfl) ?_)
 rintro _ ⟨b_1, rfl, _⟩
 refine R.go 2 (k20 (b_1) (fun c2 => ?_) (fun c2 => ?_))
 ·refine R.go 5 (R.nil 2 129 2 (by kernel_rfl) (k19 2 (R.kfix 0 (us := usC) (by kernel_rfl) (hfC.frz 2 (LN []) (Nat.le_of_ble_eq_true (by kernel_rfl))) ?_)))
  exact R.retX (res := .tup [LN [], AI 1]) (hp' := [.dead, .box 92 [lstA eY 1 L, lstA eY 1 W], .dead]) (by kernel_rfl) (by kernel_rfl) (by kernel_rfl) (by kernel_rfl) ⟨[], by kernel_rfl, by decide, [], 1, by first | omega | (simp; done), by kernel_rfl, by kernel_rfl⟩
 refine R.go 2 (R.any (by decide +kernel) (by kernel_rfl) (R.anyA 0 (.ptr 1 0) (by kernel_rfl) (np_retX _ _ _ _ _ _) (R.anyA 4 (.ptr 1 1) (by kernel_rfl) (np_retX _ _ _ _ _ _) (k23 1 5 ?_ ?_))))
 ·refine R.go 2 (k23 2 5 ?_ ?_)
  ·refine k29 (read11_c L hL hs) (by rintro _ _ ⟨_, _, _, rfl, rfl⟩; rfl) ?_
   rintro _ ⟨l_3, f4, f5, rfl, _⟩
   refine R.go 1 (k23 3 5 ?_ ?_)
   ·refine k29 (allY_c 2 l_3 (by omega) f5) (by rintro _ _ ⟨_, _, rfl, rfl⟩; rfl) ?_
    rintro _ ⟨r_6, f7, rfl, _⟩
    refine R.go 1 (k22 5 (R.go 2 (k22 6 (k29 (read11_c W hW hs2) (by rintro _ _ ⟨_, _, _, rfl, rfl⟩; rfl) ?_))))
    rintro _ ⟨l_8, f9, f10, rfl, _⟩
    refine R.go 1 (k22 7 (k29 (allY_c 3 l_8 (by omega) f10) (by rintro _ _ ⟨_, _, rfl, rfl⟩; rfl) ?_))
    rintro _ ⟨r_11, f12, rfl, _⟩
    refine R.go 1 (k22 8 (k15 true (l02Pair_c 4 r_6 r_11 (by first | omega | (simp <;> omega)) (by first | omega | (simp <;> omega))).frz (R.go 1 (k22 9 (k29 (made_c ((4, 0) :: (r_6 ++ r_11)) (by first | omega | (simp only [List.length_cons, List.length_append]; omega))) (by rintro _ _ ⟨_, _, _, rfl, rfl⟩; rfl) ?_)))))
    rintro _ ⟨r_13, k_14, f15, rfl, _⟩
    refine R.go 1 (R.anyX 10 (LN r_13) (by kernel_rfl) (np_retX _ _ _ _ _ _) (R.anyX 11 (AI k_14) (by kernel_rfl) (np_retX _ _ _ _ _ _) (k22 12 (R.go 2 (k22 13 (R.go 2 (k21 ?_)))))))
    exact R.retX (res := .tup [LN r_13, AI k_14]) (hp' := [.dead, .box 92 [lstA eY 1 L, lstA eY 1 W]]) (by kernel_rfl) (by kernel_rfl) (by kernel_rfl) (by kernel_rfl) ⟨[], by kernel_rfl, by decide, r_13, k_14, by first | omega | (simp; done), by kernel_rfl, by kernel_rfl⟩
   refine R.go 2 (k22 3 (k29 (allY_c 2 l_3 (by omega) f5) (by rintro _ _ ⟨_, _, rfl, rfl⟩; rfl) ?_))
   rintro _ ⟨r_16, f17, rfl, _⟩
   refine R.go 1 (k22 6 (k29 (read11_c W hW hs2) (by rintro _ _ ⟨_, _, _, rfl, rfl⟩; rfl) ?_))
   rintro _ ⟨l_18, f19, f20, rfl, _⟩
   refine R.go 1 (k22 7 (k29 (allY_c 3 l_18 (by omega) f20) (by rintro _ _ ⟨_, _, rfl, rfl⟩; rfl) ?_))
   rintro _ ⟨r_21, f22, rfl, _⟩
   refine R.go 1 (k22 8 (k15 true (l02Pair_c 4 r_16 r_21 (by first | omega | (simp <;> omega)) (by first | omega | (simp <;> omega))).frz (R.go 1 (k22 9 (k29 (made_c ((4, 0) :: (r_16 ++ r_21)) (by first | omega | (simp only [List.length_cons, List.length_append]; omega))) (by rintro _ _ ⟨_, _, _, rfl, rfl⟩; rfl) ?_)))))
   rintro _ ⟨r_23, k_24, f25, rfl, _⟩
   refine R.go 1 (R.anyX 10 (LN r_23) (by kernel_rfl) (np_retX _ _ _ _ _ _) (R.anyX 11 (AI k_24) (by kernel_rfl) (np_retX _ _ _ _ _ _) (k22 12 (R.go 2 (k22 13 (R.go 2 (k21 ?_)))))))
   exact R.retX (res := .tup [LN r_23, AI k_24]) (hp' := [.dead, .box 92 [lstA eY 1 L, lstA eY 1 W]]) (by kernel_rfl) (by kernel_rfl) (by kernel_rfl) (by kernel_rfl) ⟨[], by kernel_rfl, by decide, r_23, k_24, by first | omega | (simp; done), by kernel_rfl, by kernel_rfl⟩
  refine R.go 2 (k22 2 (k29 (read11_c L hL hs) (by rintro _ _ ⟨_, _, _, rfl, rfl⟩; rfl) ?_))
  rintro _ ⟨l_26, f27, f28, rfl, _⟩
  refine R.go 1 (k22 3 (k29 (allY_c 2 l_26 (by omega) f28) (by rintro _ _ ⟨_, _, rfl, rfl⟩; rfl) ?_))
  rintro _ ⟨r_29, f30, rfl, _⟩
  refine R.go 1 (k22 6 (k29 (read11_c W hW hs2) (by rintro _ _ ⟨_, _, _, rfl, rfl⟩; rfl) ?_))
  rintro _ ⟨l_31, f32, f33, rfl, _⟩
  refine R.go 1 (k22 7 (k29 (allY_c 3 l_31 (by omega) f33) (by rintro _ _ ⟨_, _, rfl, rfl⟩; rfl) ?_))
  rintro _ ⟨r_34, f35, rfl, _⟩
  refine R.go 1 (k22 8 (k15 true (l02Pair_c 4 r_29 r_34 (by first | omega | (simp <;> omega)) (by first | omega | (simp <;> omega))).frz (R.go 1 (k22 9 (k29 (made_c ((4, 0) :: (r_29 ++ r_34)) (by first | omega | (simp only [List.length_cons, List.length_append]; omega))) (by rintro _ _ ⟨_, _, _, rfl, rfl⟩; rfl) ?_)))))
  rintro _ ⟨r_36, k_37, f38, rfl, _⟩
  refine R.go 1 (R.anyX 10 (LN r_36) (by kernel_rfl) (np_retX _ _ _ _ _ _) (R.anyX 11 (AI k_37) (by kernel_rfl) (np_retX _ _ _ _ _ _) (k22 12 (R.go 2 (k22 13 (R.go 2 (k21 ?_)))))))
  exact R.retX (res := .tup [LN r_36, AI k_37]) (hp' := [.dead, .box 92 [lstA eY 1 L, lstA eY 1 W]]) (by kernel_rfl) (by kernel_rfl) (by kernel_rfl) (by kernel_rfl) ⟨[], by kernel_rfl, by decide, r_36, k_37, by first | omega | (simp; done), by kernel_rfl, by kernel_rfl⟩
 refine R.go 2 (k22 1 (R.go 2 (k22 2 (k29 (read11_c L hL hs) (by rintro _ _ ⟨_, _, _, rfl, rfl⟩; rfl) ?_))))
 rintro _ ⟨l_39, f40, f41, rfl, _⟩
 refine R.go 1 (k22 3 (k29 (allY_c 2 l_39 (by omega) f41) (by rintro _ _ ⟨_, _, rfl, rfl⟩; rfl) ?_))
 rintro _ ⟨r_42, f43, rfl, _⟩
 refine R.go 1 (k22 6 (k29 (read11_c W hW hs2) (by rintro _ _ ⟨_, _, _, rfl, rfl⟩; rfl) ?_))
 rintro _ ⟨l_44, f45, f46, rfl, _⟩
 refine R.go 1 (k22 7 (k29 (allY_c 3 l_44 (by omega) f46) (by rintro _ _ ⟨_, _, rfl, rfl⟩; rfl) ?_))
 rintro _ ⟨r_47, f48, rfl, _⟩
 refine R.go 1 (k22 8 (k15 true (l02Pair_c 4 r_42 r_47 (by first | omega | (simp <;> omega)) (by first | omega | (simp <;> omega))).frz (R.go 1 (k22 9 (k29 (made_c ((4, 0) :: (r_42 ++ r_47)) (by first | omega | (simp only [List.length_cons, List.length_append]; omega))) (by rintro _ _ ⟨_, _, _, rfl, rfl⟩; rfl) ?_)))))
 rintro _ ⟨r_49, k_50, f51, rfl, _⟩
 refine R.go 1 (R.anyX 10 (LN r_49) (by kernel_rfl) (np_retX _ _ _ _ _ _) (R.anyX 11 (AI k_50) (by kernel_rfl) (np_retX _ _ _ _ _ _) (k22 12 (R.go 2 (k22 13 (R.go 2 (k21 ?_)))))))
 exact R.retX (res := .tup [LN r_49, AI k_50]) (hp' := [.dead, .box 92 [lstA eY 1 L, lstA eY 1 W]]) (by kernel_rfl) (by kernel_rfl) (by kernel_rfl) (by kernel_rfl) ⟨[], by kernel_rfl, by decide, r_49, k_50, by first | omega | (simp; done), by kernel_rfl, by kernel_rfl⟩
end Go.Proofs.YtehbliocfpppoaaGreat

/-! Drawn regions by what each operation yields, in whatever order. -/
namespace Go.Abs
open Go.RowKit
def backB (ops : Array Oper) : Bool := (List.range ops.size).all fun i => match ops[i]? with
 | some o => o.after.toList.all fun e => !Region.binds .any e || decide (e.on < i)
 | none => true
def depsB (ops : Array Oper) (i j : Nat) : Bool := match ops[i]? with
 | some o => o.after.toList.any fun e => Region.binds .any e && e.on == j
 | none => false
def updY (y : Nat → AV) (k : Nat) (v : AV) : Nat → AV := fun j => if j = k then v else y j
theorem updY_eq {y : Nat → AV} {k : Nat} {v : AV} (h : y k = v) : y = updY y k v := funext fun j => by
 unfold updY
 split
 ·rename_i e; rw [e, h]
 ·rfl
section
variable {rd : Option Nat} {P : Program} {m : M} {Q : Exit → St → Prop} {H : Type}
def oneQ (S : (Nat → AV) → H → St) (Pk : Nat → AV → H → Prop) (k : Nat) (y : Nat → AV) (x : H) : Exit → St → Prop := fun e st' => e = .normal ∧ ∃ v x', Pk k v x' ∧ (∀ j u, j ≠ k → Pk j u x → Pk j u x') ∧ st' = S (updY y k v) x'
theorem all_listed {ops : Array Oper} (hb : backB ops = true) {listed : Array Bool} (hl : listed.size = ops.size) (hr : Region.ready .any ops listed = []) : ∀ k, k < ops.size → listed.getD k false = true := by
 intro k
 induction k using Nat.strongRecOn with
 | _ k ih =>
  intro hk
  refine Classical.byContradiction fun hn => ?_
  have hm : k ∈ Region.ready .any ops listed := by
   refine mem_ready.2 ⟨?_, ops[k], Array.getElem?_eq_getElem hk, fun e he hbd => ?_⟩
   ·cases hq : listed.getD k true with
    | false => rfl
    | true =>
     refine absurd ?_ hn
     have hk' : k < listed.size := by omega
     simpa [Array.getD, hk'] using hq
   ·have h1 := hb
    unfold backB at h1
    rw [List.all_eq_true] at h1
    have h2 := h1 k (List.mem_range.2 hk)
    rw [Array.getElem?_eq_getElem hk] at h2
    simp only [List.all_eq_true] at h2
    have h3 := h2 e (by simpa using he)
    rw [hbd] at h3
    have h4 : e.on < k := by simpa using h3
    exact ih e.on h4 (by omega)
  rw [hr] at hm
  cases hm
theorem filt_set : ∀ {l : List Bool} {i : Nat} (hi : i < l.length), l[i] = false → ((l.set i true).filter (! ·)).length + 1 = (l.filter (! ·)).length
 | x :: l, 0, _, h => by
  have h : x = false := h
  subst h
  simp [List.set]
 | x :: l, i + 1, hi, h => by
  have ih := filt_set (l := l) (i := i) (by simpa using hi) (by simpa using h)
  cases x <;> simp [List.set] at ih ⊢ <;> omega
theorem getD_ne {a : Array Bool} {i k : Nat} (h : ¬ k = i) : (a.setIfInBounds i true).getD k false = a.getD k false := by
 rw [Array.getD_eq_getD_getElem?, Array.getD_eq_getD_getElem?, Array.getElem?_setIfInBounds_ne (fun q => h q.symm)]
theorem AnyQ.inv {ops : Array Oper} {S : (Nat → AV) → H → St} {Pk : Nat → AV → H → Prop} {R : Exit → St → Prop} (hb : backB ops = true)
  (hstep : ∀ k o, ops[k]? = some o → ∀ y x, (∀ j, depsB ops k j = true → Pk j (y j) x) → OpsQ rd P ops [o] (S y x) (oneQ S Pk k y x))
  (hend : ∀ y x, (∀ k, k < ops.size → Pk k (y k) x) → R .normal (S y x)) :
  ∀ (n : Nat) (listed : Array Bool), listed.size = ops.size → (listed.toList.filter (! ·)).length ≤ n → ∀ y x, (∀ k, listed.getD k false = true → Pk k (y k) x) → AnyQ rd P ops listed n (S y x) R := by
 intro n
 induction n with
 | zero =>
  intro listed hl hn y x hp Z0 w0 a w hS
  have hall : ∀ k, k < ops.size → listed.getD k false = true := fun k hk => by
   refine Classical.byContradiction fun hq => ?_
   have hk' : k < listed.size := by omega
   have h1 : listed[k] ∈ listed.toList.filter (! ·) := List.mem_filter.2 ⟨by simp, by simpa [Array.getD, hk'] using hq⟩
   have h2 := List.length_pos_of_mem h1
   omega
  refine wpAnyIn_done ?_ ⟨_, hend y x fun k hk => hp k (hall k hk), hS⟩ 0
  refine List.eq_nil_iff_forall_not_mem.2 fun i hi => ?_
  obtain ⟨h1, o, ho, _⟩ := mem_ready.1 hi
  have hlt := (Array.getElem?_eq_some_iff.1 ho).1
  have h2 := hall i hlt
  have hk' : i < listed.size := by omega
  simp [Array.getD, hk'] at h1 h2
  rw [h1] at h2; cases h2
 | succ n ih =>
  intro listed hl hn y x hp Z0 w0 a w hS
  by_cases hr : Region.ready .any ops listed = []
  ·exact wpAnyIn_done hr ⟨_, hend y x fun k hk => hp k (all_listed hb hl hr k hk), hS⟩ _
  ·refine wpAnyIn_all rfl hr fun i hi => ?_
   obtain ⟨h1, o, ho, he⟩ := mem_ready.1 hi
   have hlt := (Array.getElem?_eq_some_iff.1 ho).1
   have hk' : i < listed.size := by omega
   have hd : ∀ j, depsB ops i j = true → Pk j (y j) x := fun j hj => by
    unfold depsB at hj
    rw [ho] at hj
    simp only [List.any_eq_true, Bool.and_eq_true, beq_iff_eq] at hj
    obtain ⟨e, h2, h3, rfl⟩ := hj
    exact hp _ (he e (by simpa using h2) h3)
   refine wpOp_of_one ho (hstep i o ho y x hd Z0 w0 a w hS) (fun a' w' ⟨st', ⟨_, v, x', hv, hpr, hst⟩, hs⟩ => ?_) (fun e a' w' hne ⟨st', ⟨h3, _⟩, hs⟩ => absurd h3 hne)
   subst hst
   refine ih (listed.setIfInBounds i true) (by rw [Array.size_setIfInBounds]; exact hl) ?_ (updY y i v) x' (fun k hk => ?_) Z0 w0 a' w' hs
   ·have h4 : listed[i] = false := by simpa [Array.getD, hk'] using h1
    have h5 := filt_set (l := listed.toList) (i := i) (by simpa using hk') (by simpa using h4)
    simp only [Array.toList_setIfInBounds]
    omega
   ·by_cases e : k = i
    ·subst e; simp only [updY, if_pos]; exact hv
    ·simp only [updY, if_neg e]
     refine hpr k _ e (hp k ?_)
     rwa [getD_ne e] at hk
def AllK (p : Nat → Prop) : Nat → Nat → Prop
 | 0, _ => True
 | n + 1, k => p k ∧ AllK p n (k + 1)
theorem allK_0 {p : Nat → Prop} {k : Nat} : AllK p 0 k := trivial
theorem allK_c {p : Nat → Prop} {n k : Nat} (h : p k) (h' : AllK p n (k + 1)) : AllK p (n + 1) k := ⟨h, h'⟩
theorem allK_at {p : Nat → Prop} : ∀ {n k : Nat}, AllK p n k → ∀ j, k ≤ j → j < k + n → p j
 | 0, k, _, j, h1, h2 => absurd h1 (by omega)
 | n + 1, k, h, j, h1, h2 => by
  by_cases e : j = k
  ·subst e; exact h.1
  ·exact allK_at h.2 j (by omega) (by omega)
theorem allK_of {p : Nat → Prop} : ∀ {n k : Nat}, (∀ j, k ≤ j → j < k + n → p j) → AllK p n k
 | 0, _, _ => trivial
 | n + 1, k, h => ⟨h k (Nat.le_refl k) (by omega), allK_of fun j h1 h2 => h j (by omega) (by omega)⟩
def rOps (m : M) : Array Oper := match m.ks with
 | .code (.region _ ops true) :: _ => ops
 | _ => #[]
def oneM (m : M) (k : Nat) (st : St) : M := match (rOps m)[k]? with
 | some o => ⟨[.ops (rOps m) [o] false], st⟩
 | none => ⟨[], st⟩
theorem R.anyInv (S : (Nat → AV) → H → St) (Pk : Nat → AV → H → Prop) (y0 : Nat → AV) (x0 : H) (n : Nat) (hm : P.follows .mixedOrders = true) (h : anyAt m = true) (hz : (rOps m).size = n) (hb : backB (rOps m) = true) (hs : m.st = S y0 x0)
  (hstep : AllK (fun k => ∀ y x, (∀ j, depsB (rOps m) k j = true → Pk j (y j) x) → Runs rd P (oneM m k (S y x)) (oneQ S Pk k y x)) n 0)
  (hend : ∀ y x, AllK (fun k => Pk k (y k) x) n 0 → Runs rd P ⟨m.ks.tail, S y x⟩ Q) : Runs rd P m Q := by
 obtain ⟨ks, st⟩ := m
 unfold anyAt at h
 simp only at h hs hstep hend
 split at h
 ·rename_i id ops ks'
  simp only [rOps] at hz hb
  subst hz hs
  have key := AnyQ.inv (rd := rd) (P := P) (S := S) (Pk := Pk) (R := RunsK rd P Q ks') hb
   (fun k o ho y x hd => by
    have hlt := (Array.getElem?_eq_some_iff.1 ho).1
    have h1 := allK_at hstep k (Nat.zero_le k) (by omega) y x hd
    simp only [oneM, rOps, ho, runs_iff, RunsK] at h1
    exact h1 headW_false)
   (fun y x hy => by
    have h1 := hend y x (allK_of fun j _ hj => hy j (by omega))
    rw [runs_iff] at h1
    exact h1)
   ops.size (Array.replicate ops.size false) (by simp) (by simp) y0 x0 (fun k hk => by
    rw [Array.getD_eq_getD_getElem?, Array.getElem?_replicate] at hk
    split at hk <;> cases hk)
  rw [runs_iff]
  intro Z0 w0 a w hS
  exact wpIn_region_any hm (key Z0 w0 a _ (hS.drew _))
 ·cases h
theorem R.one {S : (Nat → AV) → H → St} {Pk : Nat → AV → H → Prop} {k : Nat} {y : Nat → AV} {x : H} (v : AV) (x' : H) (h : m.ks = []) (hs : m.st = S (updY y k v) x') (hp : Pk k v x') (hpr : ∀ j u, j ≠ k → Pk j u x → Pk j u x') : Runs rd P m (oneQ S Pk k y x) := by
 obtain ⟨ks, st⟩ := m
 simp only at h hs
 subst h hs
 rw [runs_iff]
 exact ⟨rfl, v, x', hp, hpr, rfl⟩
end
end Go.Abs

/-! Known sequents, drawn. -/
namespace Go.Proofs.YtehbliocfpppoaaGreat
open Go.RowKit Go.Abs
theorem yz_app {l : List ByteArray} {a : ByteArray} {k : Nat} (h : ∀ j : Nat, (l.getD j (⟨#[]⟩ : ByteArray)).size ≤ k) (ha : a.size ≤ k) : ∀ j : Nat, ((l ++ [a]).getD j (⟨#[]⟩ : ByteArray)).size ≤ k := fun j => by
 rw [List.getD_eq_getElem?_getD, List.getElem?_append]
 split
 ·rw [← List.getD_eq_getElem?_getD]; exact h j
 ·rw [List.getElem?_singleton]
  split
  ·exact ha
  ·exact Nat.zero_le _
theorem yz_cat {l m : List ByteArray} {k : Nat} (h : ∀ j : Nat, (l.getD j (⟨#[]⟩ : ByteArray)).size ≤ k) (h2 : ∀ j : Nat, (m.getD j (⟨#[]⟩ : ByteArray)).size ≤ k) : ∀ j : Nat, ((l ++ m).getD j (⟨#[]⟩ : ByteArray)).size ≤ k := fun j => by
 rw [List.getD_eq_getElem?_getD, List.getElem?_append]
 split
 ·rw [← List.getD_eq_getElem?_getD]; exact h j
 ·rw [← List.getD_eq_getElem?_getD]; exact h2 _
theorem yz_take {l : List ByteArray} {k n : Nat} (h : ∀ j : Nat, (l.getD j (⟨#[]⟩ : ByteArray)).size ≤ k) : ∀ j : Nat, ((l.take n).getD j (⟨#[]⟩ : ByteArray)).size ≤ k := fun j => by
 rw [List.getD_eq_getElem?_getD, List.getElem?_take]
 split
 ·rw [← List.getD_eq_getElem?_getD]; exact h j
 ·exact Nat.zero_le _
theorem yz_drop {l : List ByteArray} {k n : Nat} (h : ∀ j : Nat, (l.getD j (⟨#[]⟩ : ByteArray)).size ≤ k) : ∀ j : Nat, ((l.drop n).getD j (⟨#[]⟩ : ByteArray)).size ≤ k := fun j => by
 rw [List.getD_eq_getElem?_getD, List.getElem?_drop, ← List.getD_eq_getElem?_getD]; exact h _
theorem yz7 {l : List ByteArray} (h : (l.all fun a => decide (a.size ≤ 1000)) = true) : ∀ j : Nat, (l.getD j (⟨#[]⟩ : ByteArray)).size ≤ 1000 := fun j => by
 rw [List.getD_eq_getElem?_getD]
 rcases Nat.lt_or_ge j l.length with hj | hj
 ·rw [List.getElem?_eq_getElem hj]
  exact of_decide_eq_true (List.all_eq_true.1 h _ (List.getElem_mem hj))
 ·rw [List.getElem?_eq_none hj]; exact Nat.zero_le _
theorem yz_nil {k : Nat} : ∀ j : Nat, (([] : List ByteArray).getD j (⟨#[]⟩ : ByteArray)).size ≤ k := fun j => Nat.zero_le _
theorem yz_one {a : ByteArray} {k : Nat} (ha : a.size ≤ k) : ∀ j : Nat, (([a] : List ByteArray).getD j (⟨#[]⟩ : ByteArray)).size ≤ k := yz_app (l := []) yz_nil ha
theorem insert_c (L : List ByteArray) (t : ByteArray) (hL : L.length ≤ 100) (hs : ∀ j : Nat, (L.getD j (⟨#[]⟩ : ByteArray)).size ≤ 1000) (ht : t.size ≤ 1000) : CallX Tryz.prog 124 [lstA eY 1 L, .str t] [] (fun (resX : AV) (objX : List AObj) => ∃ r : List ByteArray, (r.length ≤ L.length + 1) ∧ (∀ j : Nat, (r.getD j (⟨#[]⟩ : ByteArray)).size ≤ 1000) ∧ resX = lstA eY 1 r ∧ objX = []) := by
 refine CallX.dropE (CallX.ofF Tryz.func124 rfl (by kernel_rfl) ?_)
 intro usC frC hfC
 refine R.go 10 (k16 (fun (i : Nat) => (⟨(frm 48 [(0, lstA eY 1 L), (1, .str t), (5, AI (i : Int))]), [.frame usC frC]⟩ : St)) (fun (i : Nat) => i ≤ L.length) (fun (i : Nat) => L.length - i) 0 [0, 1, 5] none (by omega) ?_)
 rintro i h3_1 R1 N2
 have hsi := hs i
 refine R.go 8 ?_
 by_cases c4 : (i : Int) < (L.length : Int)
 ·refine k7 true (dT c4) ?_
  iterate 2 refine R.go 1 (k7 true (dT c4) ?_)
  refine k10 eY L (⟨#[]⟩ : ByteArray) i (i : Int) eY_len (k7 true (dT c4) ?_)
  iterate 2 refine R.go 1 (k7 true (dT c4) ?_)
  refine R.sLt false (L.getD i (⟨#[]⟩ : ByteArray)) t (by kernel_rfl) (by kernel_rfl) (k9 true (dT c4) (R.go 1 (k3 (ltY false (L.getD i (⟨#[]⟩ : ByteArray)) t) (fun c5 => ?_) (fun c5 => ?_))))
  ·refine R.go 4 (k1 ((i : Int) + 1) ?_)
   exact R.go 3 (k17 R1 (N2 (i + 1) [0, 1, 5] none _ (by kernel_rfl) (by kernel_rfl) (by omega) (by show (L.length - (i + 1)) < (L.length - i); omega)))
  have hsj := hs i
  refine R.go 9 (k7 true (dT c4) ?_)
  iterate 2 refine R.go 1 (k7 true (dT c4) ?_)
  refine k10 eY L (⟨#[]⟩ : ByteArray) i (i : Int) eY_len (k7 true (dT c4) ?_)
  iterate 2 refine R.go 1 (k7 true (dT c4) ?_)
  refine R.str .eql (L.getD i (⟨#[]⟩ : ByteArray)) t (.bool ((L.getD i (⟨#[]⟩ : ByteArray)).toList == t.toList)) (by kernel_rfl) (by kernel_rfl) (by first | omega | (have q0 : (⟨#[]⟩ : ByteArray).size = 0 := rfl; omega) | (simp only [ByteArray.size_append, ByteArray.size_extract]; have q0 : (⟨#[]⟩ : ByteArray).size = 0 := rfl; omega)) rfl (k9 true (dT c4) (R.go 1 (k3 ((L.getD i (⟨#[]⟩ : ByteArray)).toList == t.toList) (fun c6 => ?_) (fun c6 => ?_))))
  ·exact R.go 5 (R.retX (res := lstA eY 1 L) (hp' := [.dead]) (by kernel_rfl) (by kernel_rfl) (by kernel_rfl) (by kernel_rfl) ⟨[], by kernel_rfl, by decide, L, by first | omega | (simp; omega) | (first | assumption | exact yz_nil | exact yz_one (by omega) | exact yz_cat (yz_cat (yz_take hs) (yz_one (by omega))) (yz_drop hs) | exact yz_cat (yz_cat (yz_cat yz_nil (yz_take hs)) (yz_one (by omega))) (yz_drop hs)), by first | omega | (simp; omega) | (first | assumption | exact yz_nil | exact yz_one (by omega) | exact yz_cat (yz_cat (yz_take hs) (yz_one (by omega))) (yz_drop hs) | exact yz_cat (yz_cat (yz_cat yz_nil (yz_take hs)) (yz_one (by omega))) (yz_drop hs)), by kernel_rfl, by kernel_rfl⟩)
  refine R.go 6 (R.slH eY L i (i : Int) (by kernel_rfl) rfl eY_len (by omega) (by kernel_rfl) (k14 eY [] (L.take i) 1 9 1 16 eY_one (R.kfix 0 (us := usC) (by kernel_rfl) (hfC.kill 1 (Nat.le_of_ble_eq_true (by kernel_rfl))) (R.go 7 (k14 eY ([] ++ (L.take i)) [t] 1 9 1 16 eY_one (R.kfix 0 (us := usC) (by kernel_rfl) (hfC.kill 1 (Nat.le_of_ble_eq_true (by kernel_rfl))) (R.go 7 (R.slL eY L i (i : Int) (by kernel_rfl) rfl eY_len (by omega) (by kernel_rfl) (k14 eY ([] ++ (L.take i) ++ [t]) (L.drop i) 1 9 1 16 eY_one (R.kfix 0 (us := usC) (by kernel_rfl) (hfC.kill 1 (Nat.le_of_ble_eq_true (by kernel_rfl))) (R.go 2 (k19 1 (R.kfix 0 (us := usC) (by kernel_rfl) (hfC.frz 1 (lstA eY 1 ([] ++ (L.take i) ++ [t] ++ (L.drop i))) (Nat.le_of_ble_eq_true (by kernel_rfl))) ?_)))))))))))))
  exact R.retX (res := lstA eY 1 ([] ++ (L.take i) ++ [t] ++ (L.drop i))) (hp' := [.dead, .dead, rowA eY 9 1 [t]]) (by kernel_rfl) (by kernel_rfl) (by kernel_rfl) (by kernel_rfl) ⟨[], by kernel_rfl, by decide, [] ++ (L.take i) ++ [t] ++ (L.drop i), by first | omega | (simp; omega) | (first | assumption | exact yz_nil | exact yz_one (by omega) | exact yz_cat (yz_cat (yz_take hs) (yz_one (by omega))) (yz_drop hs) | exact yz_cat (yz_cat (yz_cat yz_nil (yz_take hs)) (yz_one (by omega))) (yz_drop hs)), by first | omega | (simp; omega) | (first | assumption | exact yz_nil | exact yz_one (by omega) | exact yz_cat (yz_cat (yz_take hs) (yz_one (by omega))) (yz_drop hs) | exact yz_cat (yz_cat (yz_cat yz_nil (yz_take hs)) (yz_one (by omega))) (yz_drop hs)), by kernel_rfl, by kernel_rfl⟩
 iterate 6 refine k8 true (dF c4) ?_
 refine k9 false (dF c4) ?_
 have hsj := hs i
 refine R.go 11 (k8 true (dF c4) ?_)
 iterate 5 refine k8 true (dF c4) ?_
 refine k9 false (dF c4) (R.go 8 (R.slH eY L i (i : Int) (by kernel_rfl) rfl eY_len (by omega) (by kernel_rfl) (k14 eY [] (L.take i) 1 9 1 16 eY_one (R.kfix 0 (us := usC) (by kernel_rfl) (hfC.kill 1 (Nat.le_of_ble_eq_true (by kernel_rfl))) (R.go 7 (k14 eY ([] ++ (L.take i)) [t] 1 9 1 16 eY_one (R.kfix 0 (us := usC) (by kernel_rfl) (hfC.kill 1 (Nat.le_of_ble_eq_true (by kernel_rfl))) (R.go 7 (R.slL eY L i (i : Int) (by kernel_rfl) rfl eY_len (by omega) (by kernel_rfl) (k14 eY ([] ++ (L.take i) ++ [t]) (L.drop i) 1 9 1 16 eY_one (R.kfix 0 (us := usC) (by kernel_rfl) (hfC.kill 1 (Nat.le_of_ble_eq_true (by kernel_rfl))) (R.go 2 (k19 1 ?_)))))))))))))
 refine R.kfix 0 (us := usC) (by kernel_rfl) (hfC.frz 1 (lstA eY 1 ([] ++ (L.take i) ++ [t] ++ (L.drop i))) (Nat.le_of_ble_eq_true (by kernel_rfl))) ?_
 exact R.retX (res := lstA eY 1 ([] ++ (L.take i) ++ [t] ++ (L.drop i))) (hp' := [.dead, .dead, rowA eY 9 1 [t]]) (by kernel_rfl) (by kernel_rfl) (by kernel_rfl) (by kernel_rfl) ⟨[], by kernel_rfl, by decide, [] ++ (L.take i) ++ [t] ++ (L.drop i), by first | omega | (simp; omega) | (first | assumption | exact yz_nil | exact yz_one (by omega) | exact yz_cat (yz_cat (yz_take hs) (yz_one (by omega))) (yz_drop hs) | exact yz_cat (yz_cat (yz_cat yz_nil (yz_take hs)) (yz_one (by omega))) (yz_drop hs)), by first | omega | (simp; omega) | (first | assumption | exact yz_nil | exact yz_one (by omega) | exact yz_cat (yz_cat (yz_take hs) (yz_one (by omega))) (yz_drop hs) | exact yz_cat (yz_cat (yz_cat yz_nil (yz_take hs)) (yz_one (by omega))) (yz_drop hs)), by kernel_rfl, by kernel_rfl⟩
end Go.Proofs.YtehbliocfpppoaaGreat
