/- The program's UnforcedElements returns what the reference's returns, for all arguments. -/
import Derived.Test.YtkanjgmocmhlkaaGreatRows
import Derived.WalkKit
import Derived.ProofKit
import Derived.Test.YtkanjgmocmhlkaaGreatPost
import Derived.Test.YtkanjgmocmhlkaaGreatZ06
import Derived.Test.YtkanjgmocmhlkaaGreatSymW
namespace Go.Proofs.YtkanjgmocmhlkaaGreat.fnExactUnforcedElements
open Go.ChangeShapes Go.WideShapes Go.ChangeAt Go.RowKit Go.Abs

theorem own : ownKnob Tryz.prog.godebug = none := by kernel_rfl
theorem laidOut : laidOutB Tryz.prog = true := by kernel_rfl
theorem readable24 : Tryz.prog.readableRec 24 = true := by kernel_rfl
theorem readable25 : Tryz.prog.readableRec 25 = true := by kernel_rfl

set_option maxRecDepth 100000 in
theorem lifted (os : Os) (started : os.Started) (H : Type) (enc : TypeId × Value → H) :
    ReturnsInHanded {} Tryz.checked os 5 .any (Rows.fnExactUnforcedElementsSpec.pre6 enc Tryz.prog Tryz.f5 Rows.fnExactUnforcedElementsRow.domain false) (Rows.fnExactUnforcedElementsSpec.post enc Tryz.prog Tryz.f5 false true false false) := by
  refine returnsInHanded_of_change (C := Tryz.checked) own started (by kernel_rfl) Tryz.func5
    (ChangeSpec.witness6 (enc := enc) (C := Tryz.checked) false ⟨#[], #[.agg #[.int .i64 0, .slice none 0 0], .slice none 0 0], []⟩ 8 (by kernel_rfl) (by kernel_rfl) (by kernel_rfl) (by kernel_rfl)) ?_
  intro W base args ds gs before hval0 hW hcnd _
  have hval : ∀ (j : Nat) t v, Tryz.f5.params[j]? = some t → args[j]? = some v → Value.okWide Tryz.prog W .any base t v := hval0
  have hW' : DataW.Whole enc Tryz.prog Tryz.f5.params.toList Rows.fnExactUnforcedElementsSpec.vars false W args.toList ds gs before := hW
  obtain ⟨p, q, hA0, hV, rfl, hfz, hnd⟩ := hW
  have hA : DataW.TrodAll enc Tryz.prog W 0 (fun _ => true) true Tryz.f5.params.toList args.toList ds p := hA0
  rw [Tryz.params5] at hA hval
  obtain ⟨v0, v1, d0, d1, p0, p1, rfl, rfl, rfl, h0, h1⟩ := trodAll_two hA
  obtain ⟨rfl, rfl⟩ := trodVars_none hV
  obtain ⟨n0, a0, l0, r0⟩ := open_int_row Tryz.underlying24 (by kernel_rfl) rfl rfl (by kernel_rfl) (by kernel_rfl) Tryz.underlying2 Tryz.underlying22 Tryz.underlying2 (by kernel_rfl) (hval 0 24 v0 rfl rfl) h0
  obtain ⟨a1, l1, r1⟩ := open_pairs Tryz.underlying25 Tryz.underlying60 (by kernel_rfl) rfl rfl (by kernel_rfl) (by kernel_rfl) Tryz.underlying2 Tryz.underlying2 (hval 1 25 v1 rfl rfl) h1
  refine (CallA.law (vs := [v0, v1]) (lawUnforcedElements n0 a0 l0 a1 l1) (RelL.cons r0 (RelL.cons r1 RelL.nil))).mono fun e W' ⟨he, hb⟩ => ?_
  exact ⟨_, he, law_post laidOut (by rw [Tryz.params5]; simp; exact ⟨⟨readable24, of_decide_eq_true (by kernel_rfl)⟩, ⟨readable25, of_decide_eq_true (by kernel_rfl)⟩⟩) rfl Tryz.underlying4 rfl hW' rfl rfl rfl hb⟩

theorem proved : Rows.FnExactUnforcedElementsSaid :=
  OpenClaim.holds_of_wide 5 Tryz.f5 rfl rfl rfl rfl rfl rfl rfl ⟨rfl, rfl, rfl, rfl, rfl⟩ rfl rfl rfl rfl rfl (by kernel_rfl) Tryz.func5 (by kernel_rfl)
    (of_decide_eq_true (by kernel_rfl)) (by unfold Func.isWrapper; first | (rw [if_pos (by decide +kernel)]; kernel_rfl) | (rw [if_neg (by decide +kernel)]; exact ⟨rfl, rfl⟩))
    (fun os started H enc _ => lifted os started H enc)
#print axioms proved
end Go.Proofs.YtkanjgmocmhlkaaGreat.fnExactUnforcedElements
