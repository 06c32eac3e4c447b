/- Shows of both packages. -/
import Derived.Test.YtkanjgmocmhlkaaGreatRows
import Derived.WalkKit
import Derived.ProofKit
import Derived.Test.YtkanjgmocmhlkaaGreatPost
import Derived.Test.YtkanjgmocmhlkaaGreatJ04
import Derived.Test.YtkanjgmocmhlkaaGreatSymW
namespace Go.Proofs.YtkanjgmocmhlkaaGreat.fnExactShows
open Go.ChangeShapes Go.WideShapes Go.ChangeAt Go.RowKit Go.Abs

theorem own : ownKnob Tryz.prog.godebug = none := by kernel_rfl
theorem laidOut : laidOutB Tryz.prog = true := by kernel_rfl
theorem readable2 : Tryz.prog.readableRec 2 = true := by kernel_rfl
theorem readable22 : Tryz.prog.readableRec 22 = true := by kernel_rfl
theorem readable24 : Tryz.prog.readableRec 24 = true := by kernel_rfl

set_option maxRecDepth 100000 in
theorem lifted (os : Os) (started : os.Started) (H : Type) (enc : TypeId × Value → H) :
    ReturnsInHanded {} Tryz.checked os 7 .any (Rows.fnExactShowsSpec.pre6 enc Tryz.prog Tryz.f7 Rows.fnExactShowsRow.domain false) (Rows.fnExactShowsSpec.post enc Tryz.prog Tryz.f7 false true false false) := by
  refine returnsInHanded_of_change (C := Tryz.checked) own started (by kernel_rfl) Tryz.func7
    (ChangeSpec.witness6 (enc := enc) (C := Tryz.checked) false ⟨#[], #[.agg #[.int .i64 0, .slice none 0 0], .slice none 0 0, .int .i64 0, .agg #[.int .i64 0, .slice none 0 0]], []⟩ 8 (by kernel_rfl) (by kernel_rfl) (by kernel_rfl) (by kernel_rfl)) ?_
  intro W base args ds gs before hval0 hW hcnd _
  have hval : ∀ (j : Nat) t v, Tryz.f7.params[j]? = some t → args[j]? = some v → Value.okWide Tryz.prog W .any base t v := hval0
  have hW' : DataW.Whole enc Tryz.prog Tryz.f7.params.toList Rows.fnExactShowsSpec.vars false W args.toList ds gs before := hW
  obtain ⟨p, q, hA0, hV, rfl, hfz, hnd⟩ := hW
  have hA : DataW.TrodAll enc Tryz.prog W 0 (fun _ => true) true Tryz.f7.params.toList args.toList ds p := hA0
  rw [Tryz.params7] at hA hval
  obtain ⟨v0, v1, v2, v3, d0, d1, d2, d3, p0, p1, p2, p3, rfl, rfl, rfl, h0, h1, h2, h3⟩ := trodAll_four hA
  obtain ⟨rfl, rfl⟩ := trodVars_none hV
  obtain ⟨n0, a0, l0, r0⟩ := open_int_row Tryz.underlying24 (by kernel_rfl) rfl rfl (by kernel_rfl) (by kernel_rfl) Tryz.underlying2 Tryz.underlying22 Tryz.underlying2 (by kernel_rfl) (hval 0 24 v0 rfl rfl) h0
  obtain ⟨a1, l1, r1⟩ := open_ints Tryz.underlying22 Tryz.underlying2 (by kernel_rfl) (hval 1 22 v1 rfl rfl) h1
  obtain ⟨a2, rfl, rfl, rfl, w2⟩ := open_int Tryz.underlying2 (hval 2 2 v2 rfl rfl) h2
  obtain ⟨n3, a3, l3, r3⟩ := open_int_row Tryz.underlying24 (by kernel_rfl) rfl rfl (by kernel_rfl) (by kernel_rfl) Tryz.underlying2 Tryz.underlying22 Tryz.underlying2 (by kernel_rfl) (hval 3 24 v3 rfl rfl) h3
  refine (CallA.law (vs := [v0, v1, (.int .i64 a2), v3]) (lawShows n0 a0 l0 a1 l1 a2 n3 a3 l3) (RelL.cons r0 (RelL.cons r1 (RelL.cons (by simp [AI, Rel]) (RelL.cons r3 RelL.nil))))).mono fun e W' ⟨he, hb⟩ => ?_
  exact ⟨_, he, law_post laidOut (by rw [Tryz.params7]; simp; exact ⟨⟨readable24, of_decide_eq_true (by kernel_rfl)⟩, ⟨readable22, of_decide_eq_true (by kernel_rfl)⟩, ⟨readable2, of_decide_eq_true (by kernel_rfl)⟩, ⟨readable24, of_decide_eq_true (by kernel_rfl)⟩⟩) rfl Tryz.underlying4 rfl hW' rfl rfl rfl hb⟩

theorem proved : Rows.FnExactShowsSaid :=
  OpenClaim.holds_of_wide 7 Tryz.f7 rfl rfl rfl rfl rfl rfl rfl ⟨rfl, rfl, rfl, rfl, rfl⟩ rfl rfl rfl rfl rfl (by kernel_rfl) Tryz.func7 (by kernel_rfl)
    (of_decide_eq_true (by kernel_rfl)) (by unfold Func.isWrapper; first | (rw [if_pos (by decide +kernel)]; kernel_rfl) | (rw [if_neg (by decide +kernel)]; exact ⟨rfl, rfl⟩))
    (fun os started H enc _ => lifted os started H enc)
#print axioms proved
end Go.Proofs.YtkanjgmocmhlkaaGreat.fnExactShows
