/- The program's values of formulas in modal algebras are the truth sets in their frames, and validity in an algebra is validity on its frame, for every drawn input. -/
import Derived.Test.YtehbliocfpppoaaGreatRows
import Derived.WalkKit
import Derived.ProofKit
import Derived.Test.YtehbliocfpppoaaGreatPartO
namespace Go.Proofs.YtehbliocfpppoaaGreat.fnAlgebraValidity
open Go.ChangeShapes Go.WideShapes Go.ChangeAt Go.RowKit Go.Abs
theorem own : ownKnob Tryz.prog.godebug = none := by kernel_rfl
theorem laidOut : laidOutB Tryz.prog = true := by kernel_rfl
theorem readable36 : Tryz.prog.readableRec 36 = true := by kernel_rfl
set_option maxRecDepth 100000 in
theorem lifted (os : Os) (started : os.Started) (H : Type) (enc : TypeId × Value → H) :
  ReturnsInHanded {} Tryz.checked os 4 .any (Rows.fnAlgebraValiditySpec.pre6 enc Tryz.prog Tryz.f4 Rows.fnAlgebraValidityRow.domain false) (Rows.fnAlgebraValiditySpec.post enc Tryz.prog Tryz.f4 false true false false) := by
 refine returnsInHanded_of_change (C := Tryz.checked) own started (by kernel_rfl) Tryz.func4
  (ChangeSpec.witness6 (enc := enc) (C := Tryz.checked) false ⟨#[], #[.slice none 0 0], []⟩ 8 (by kernel_rfl) (by kernel_rfl) (by kernel_rfl) (by kernel_rfl)) ?_
 intro W base args ds gs before hval0 hW hcnd _
 have hval : ∀ (j : Nat) t v, Tryz.f4.params[j]? = some t → args[j]? = some v → Value.okWide Tryz.prog W .any base t v := hval0
 have hW' : DataW.Whole enc Tryz.prog Tryz.f4.params.toList Rows.fnAlgebraValiditySpec.vars false W args.toList ds gs before := hW
 obtain ⟨p, q, hA0, hV, rfl, hfz, hnd⟩ := hW
 have hA : DataW.TrodAll enc Tryz.prog W 0 (fun _ => true) true Tryz.f4.params.toList args.toList ds p := hA0
 rw [Tryz.params4] at hA hval
 obtain ⟨v0, d0, rfl, rfl, h0⟩ := trodAll_one hA
 obtain ⟨rfl, rfl⟩ := trodVars_none hV
 obtain ⟨a0, l0, b0, r0⟩ := open_bytes Tryz.underlying36 Tryz.underlying5 (by kernel_rfl) (hval 0 36 v0 rfl rfl) h0
 refine (CallA.law (vs := [v0]) (lawAV_c a0 b0) (RelL.cons r0 RelL.nil)).mono fun e W' ⟨he, hb⟩ => ?_
 exact ⟨_, he, law_post laidOut (by rw [Tryz.params4]; simp; exact ⟨readable36, of_decide_eq_true (by kernel_rfl)⟩) rfl Tryz.underlying4 rfl hW' rfl rfl rfl hb⟩
theorem proved : Rows.FnAlgebraValiditySaid :=
 OpenClaim.holds_of_wide 4 Tryz.f4 rfl rfl rfl rfl rfl rfl rfl ⟨rfl, rfl, rfl, rfl, rfl⟩ rfl rfl rfl rfl rfl (by kernel_rfl) Tryz.func4 (by kernel_rfl)
  (of_decide_eq_true (by kernel_rfl)) (by unfold Func.isWrapper; first | (rw [if_pos (by decide +kernel)]; kernel_rfl) | (rw [if_neg (by decide +kernel)]; exact ⟨rfl, rfl⟩))
  (fun os started H enc _ => lifted os started H enc)
#print axioms proved
end Go.Proofs.YtehbliocfpppoaaGreat.fnAlgebraValidity
