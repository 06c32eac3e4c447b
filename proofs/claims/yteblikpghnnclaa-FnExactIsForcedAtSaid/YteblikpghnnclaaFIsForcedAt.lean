/- The program's IsForcedAt answers as the reference's. -/
import Derived.Test.YteblikpghnnclaaRows
import Derived.WalkKit
import Derived.ProofKit
import Derived.Test.YteblikpghnnclaaPost
import Derived.Test.YteblikpghnnclaaW05
import Derived.Test.YteblikpghnnclaaSymW
namespace Go.Proofs.Yteblikpghnnclaa.fnExactIsForcedAt
open Go.ChangeShapes Go.WideShapes Go.ChangeAt Go.RowKit Go.Abs

theorem own : ownKnob Try.prog.godebug = none := by kernel_rfl
theorem laidOut : laidOutB Try.prog = true := by kernel_rfl
theorem readable2 : Try.prog.readableRec 2 = true := by kernel_rfl
theorem readable22 : Try.prog.readableRec 22 = true := by kernel_rfl
theorem readable33 : Try.prog.readableRec 33 = true := by kernel_rfl
theorem readable35 : Try.prog.readableRec 35 = true := by kernel_rfl

set_option maxRecDepth 100000 in
theorem lifted (os : Os) (started : os.Started) (H : Type) (enc : TypeId × Value → H) :
    ReturnsInHanded {} Try.checked os 11 .any (Rows.fnExactIsForcedAtSpec.pre6 enc Try.prog Try.f11 Rows.fnExactIsForcedAtRow.domain false) (Rows.fnExactIsForcedAtSpec.post enc Try.prog Try.f11 false true false false) := by
  refine returnsInHanded_of_change (C := Try.checked) own started (by kernel_rfl) Try.func11
    (ChangeSpec.witness6 (enc := enc) (C := Try.checked) false ⟨#[], #[.agg #[.int .i64 0, .slice none 0 0], .slice none 0 0, .int .i64 0, .slice none 0 0], []⟩ 8 (by kernel_rfl) (by kernel_rfl) (by kernel_rfl) (by kernel_rfl)) ?_
  intro W base args ds gs before hval0 hW hcnd _
  have hval : ∀ (j : Nat) t v, Try.f11.params[j]? = some t → args[j]? = some v → Value.okWide Try.prog W .any base t v := hval0
  have hW' : DataW.Whole enc Try.prog Try.f11.params.toList Rows.fnExactIsForcedAtSpec.vars false W args.toList ds gs before := hW
  obtain ⟨p, q, hA0, hV, rfl, hfz, hnd⟩ := hW
  have hA : DataW.TrodAll enc Try.prog W 0 (fun _ => true) true Try.f11.params.toList args.toList ds p := hA0
  rw [Try.params11] at hA hval
  obtain ⟨v0, v1, v2, v3, d0, d1, d2, d3, p0, p1, p2, p3, rfl, rfl, rfl, h0, h1, h2, h3⟩ := trodAll_four hA
  obtain ⟨rfl, rfl⟩ := trodVars_none hV
  obtain ⟨n0, a0, l0, r0⟩ := open_int_row Try.underlying35 (by kernel_rfl) rfl rfl (by kernel_rfl) (by kernel_rfl) Try.underlying2 Try.underlying33 Try.underlying2 (by kernel_rfl) (hval 0 35 v0 rfl rfl) h0
  obtain ⟨a1, l1, r1⟩ := open_ints Try.underlying33 Try.underlying2 (by kernel_rfl) (hval 1 33 v1 rfl rfl) h1
  obtain ⟨a2, rfl, rfl, rfl, w2⟩ := open_int Try.underlying2 (hval 2 2 v2 rfl rfl) h2
  obtain ⟨a3, l3, r3⟩ := open_pairs Try.underlying22 Try.underlying73 (by kernel_rfl) rfl rfl (by kernel_rfl) (by kernel_rfl) Try.underlying2 Try.underlying2 (hval 3 22 v3 rfl rfl) h3
  refine (CallA.law (vs := [v0, v1, (.int .i64 a2), v3]) (lawIsForcedAt n0 a0 l0 a1 l1 a2 a3 l3) (RelL.cons r0 (RelL.cons r1 (RelL.cons (by simp [AI, Rel]) (RelL.cons r3 RelL.nil))))).mono fun e W' ⟨he, hb⟩ => ?_
  exact ⟨_, he, law_post laidOut (by rw [Try.params11]; simp; exact ⟨⟨readable35, of_decide_eq_true (by kernel_rfl)⟩, ⟨readable33, of_decide_eq_true (by kernel_rfl)⟩, ⟨readable2, of_decide_eq_true (by kernel_rfl)⟩, ⟨readable22, of_decide_eq_true (by kernel_rfl)⟩⟩) rfl Try.underlying4 rfl hW' rfl rfl rfl hb⟩

theorem proved : Rows.FnExactIsForcedAtSaid :=
  OpenClaim.holds_of_wide 11 Try.f11 rfl rfl rfl rfl rfl rfl rfl ⟨rfl, rfl, rfl, rfl, rfl⟩ rfl rfl rfl rfl rfl (by kernel_rfl) Try.func11 (by kernel_rfl)
    (of_decide_eq_true (by kernel_rfl)) (by unfold Func.isWrapper; first | (rw [if_pos (by decide +kernel)]; kernel_rfl) | (rw [if_neg (by decide +kernel)]; exact ⟨rfl, rfl⟩))
    (fun os started H enc _ => lifted os started H enc)
#print axioms proved
end Go.Proofs.Yteblikpghnnclaa.fnExactIsForcedAt
