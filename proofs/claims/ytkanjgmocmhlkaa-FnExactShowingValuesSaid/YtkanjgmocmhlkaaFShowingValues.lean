/- The program's ShowingValues returns what the reference's returns, for all arguments. -/
import Derived.Test.YtkanjgmocmhlkaaRows
import Derived.WalkKit
import Derived.ProofKit
import Derived.Test.YtkanjgmocmhlkaaPost
import Derived.Test.YtkanjgmocmhlkaaX04
namespace Go.Proofs.Ytkanjgmocmhlkaa.fnExactShowingValues
open Go.ChangeShapes Go.WideShapes Go.ChangeAt Go.RowKit Go.Abs

theorem own : ownKnob Try.prog.godebug = none := by kernel_rfl
theorem laidOut : laidOutB Try.prog = true := by kernel_rfl
theorem readable2 : Try.prog.readableRec 2 = true := by kernel_rfl
theorem readable22 : Try.prog.readableRec 22 = true := by kernel_rfl
theorem readable24 : Try.prog.readableRec 24 = true := by kernel_rfl

set_option maxRecDepth 100000 in
theorem lifted (os : Os) (started : os.Started) (H : Type) (enc : TypeId × Value → H) :
    ReturnsInHanded {} Try.checked os 9 .any (Rows.fnExactShowingValuesSpec.pre6 enc Try.prog Try.f9 Rows.fnExactShowingValuesRow.domain false) (Rows.fnExactShowingValuesSpec.post enc Try.prog Try.f9 false true false false) := by
  refine returnsInHanded_of_change (C := Try.checked) own started (by kernel_rfl) Try.func9
    (ChangeSpec.witness6 (enc := enc) (C := Try.checked) false ⟨#[], #[.agg #[.int .i64 0, .slice none 0 0], .int .i64 0, .slice none 0 0, .agg #[.int .i64 0, .slice none 0 0]], []⟩ 8 (by kernel_rfl) (by kernel_rfl) (by kernel_rfl) (by kernel_rfl)) ?_
  intro W base args ds gs before hval0 hW hcnd _
  have hval : ∀ (j : Nat) t v, Try.f9.params[j]? = some t → args[j]? = some v → Value.okWide Try.prog W .any base t v := hval0
  have hW' : DataW.Whole enc Try.prog Try.f9.params.toList Rows.fnExactShowingValuesSpec.vars false W args.toList ds gs before := hW
  obtain ⟨p, q, hA0, hV, rfl, hfz, hnd⟩ := hW
  have hA : DataW.TrodAll enc Try.prog W 0 (fun _ => true) true Try.f9.params.toList args.toList ds p := hA0
  rw [Try.params9] at hA hval
  obtain ⟨v0, v1, v2, v3, d0, d1, d2, d3, p0, p1, p2, p3, rfl, rfl, rfl, h0, h1, h2, h3⟩ := trodAll_four hA
  obtain ⟨rfl, rfl⟩ := trodVars_none hV
  obtain ⟨n0, a0, l0, r0⟩ := open_int_row Try.underlying24 (by kernel_rfl) rfl rfl (by kernel_rfl) (by kernel_rfl) Try.underlying2 Try.underlying22 Try.underlying2 (by kernel_rfl) (hval 0 24 v0 rfl rfl) h0
  obtain ⟨a1, rfl, rfl, rfl, w1⟩ := open_int Try.underlying2 (hval 1 2 v1 rfl rfl) h1
  obtain ⟨a2, l2, r2⟩ := open_ints Try.underlying22 Try.underlying2 (by kernel_rfl) (hval 2 22 v2 rfl rfl) h2
  obtain ⟨n3, a3, l3, r3⟩ := open_int_row Try.underlying24 (by kernel_rfl) rfl rfl (by kernel_rfl) (by kernel_rfl) Try.underlying2 Try.underlying22 Try.underlying2 (by kernel_rfl) (hval 3 24 v3 rfl rfl) h3
  refine (CallA.law (vs := [v0, (.int .i64 a1), v2, v3]) (lawShowingValues n0 a0 l0 a1 a2 l2 n3 a3 l3) (RelL.cons r0 (RelL.cons (by simp [AI, Rel]) (RelL.cons r2 (RelL.cons r3 RelL.nil))))).mono fun e W' ⟨he, hb⟩ => ?_
  exact ⟨_, he, law_post laidOut (by rw [Try.params9]; simp; exact ⟨⟨readable24, of_decide_eq_true (by kernel_rfl)⟩, ⟨readable2, of_decide_eq_true (by kernel_rfl)⟩, ⟨readable22, of_decide_eq_true (by kernel_rfl)⟩, ⟨readable24, of_decide_eq_true (by kernel_rfl)⟩⟩) rfl Try.underlying4 rfl hW' rfl rfl rfl hb⟩

theorem proved : Rows.FnExactShowingValuesSaid :=
  OpenClaim.holds_of_wide 9 Try.f9 rfl rfl rfl rfl rfl rfl rfl ⟨rfl, rfl, rfl, rfl, rfl⟩ rfl rfl rfl rfl rfl (by kernel_rfl) Try.func9 (by kernel_rfl)
    (of_decide_eq_true (by kernel_rfl)) (by unfold Func.isWrapper; first | (rw [if_pos (by decide +kernel)]; kernel_rfl) | (rw [if_neg (by decide +kernel)]; exact ⟨rfl, rfl⟩))
    (fun os started H enc _ => lifted os started H enc)
#print axioms proved
end Go.Proofs.Ytkanjgmocmhlkaa.fnExactShowingValues
