/- DrawJoinIndices. -/
import Derived.Test.YtfkdkhlimdkehaaGreatD01
namespace Go.Proofs.YtfkdkhlimdkehaaGreat
open Go.RowKit Go.Abs

def dj1 (c : List Int) : Nat × Int := (nxA c 0 3, nxS (h0 c) 3)
def dj2 (c : List Int) : Nat × Int := (nxA c (dj1 c).1 30, nxS (dj1 c).2 30)
def djP (c : List Int) : Nat × Int := if nxV c (dj1 c).1 (dj1 c).2 30 = 0 then (nxA c (dj2 c).1 3, nxS (dj2 c).2 3) else dj2 c
def djK (c : List Int) : Int := if nxV c (dj1 c).1 (dj1 c).2 30 = 0 then ([-1, 1, 5] : List Int).getD (nxV c (dj2 c).1 (dj2 c).2 3).toNat 0 else 2 + nxV c 0 (h0 c) 3
def djI (c : List Int) : Int := nuV c (djP c).1 (djP c).2
def djJ (c : List Int) : Int := nuV c (nuA c (djP c).1 (djP c).2) (nuS c (djP c).1 (djP c).2)
theorem dj_0 {c : List Int} (h : nxV c (dj1 c).1 (dj1 c).2 30 = 0) : AV.tup [AI (([-1, 1, 5] : List Int).getD (nxV c (dj2 c).1 (dj2 c).2 3).toNat 0), AI (nuV c (nxA c (dj2 c).1 3) (nxS (dj2 c).2 3)), AI (nuV c (nuA c (nxA c (dj2 c).1 3) (nxS (dj2 c).2 3)) (nuS c (nxA c (dj2 c).1 3) (nxS (dj2 c).2 3)))] = AV.tup [AI (djK c), AI (djI c), AI (djJ c)] := by
  have e : djP c = (nxA c (dj2 c).1 3, nxS (dj2 c).2 3) := if_pos h
  rw [djK, djI, djJ, e, if_pos h]
theorem dj_1 {c : List Int} (h : ¬ nxV c (dj1 c).1 (dj1 c).2 30 = 0) : AV.tup [AI (2 + nxV c 0 (h0 c) 3), AI (nuV c (dj2 c).1 (dj2 c).2), AI (nuV c (nuA c (dj2 c).1 (dj2 c).2) (nuS c (dj2 c).1 (dj2 c).2))] = AV.tup [AI (djK c), AI (djI c), AI (djJ c)] := by
  have e : djP c = dj2 c := if_neg h
  rw [djK, djI, djJ, e, if_neg h]

theorem djoin_c (c : List Int) (hc : BY c) : CallA Tryz.prog 15 [LB c] (.tup [AI (djK c), AI (djI c), AI (djJ c)]) := by
  have hcl : c.length ≤ 4096 := hc.1
  have hcb := hc.2
  have hn1 := nxV_rng hc (p := 0) (h := hTo c c.length) (n := 3) (by omega)
  refine CallA.of Tryz.func15 rfl (by kernel_rfl) ?_
  refine R.go 9 (R.enter (avs := [LB c]) Tryz.func38 rfl (by kernel_rfl) (by kernel_rfl) (by kernel_rfl) ?_)
  intro us1
  refine R.go 9 (R.cv .u64 (c.length : Int) (by kernel_rfl) (u64_id (by omega) (by omega)) (by kernel_rfl) ?_)
  refine R.go 11 (R.loop ((fun | (i, h) => (⟨(frm 38 [(0, LB c), (3, .ptr 1 0), (4, AI (i : Int))]), [.frame us1 (frm 25 [(0, LB c), (2, AI 0), (3, AI 0), (4, AI 0), (8, LB c)]), .box 92 [LB c, AI 0, .int .u64 h]]⟩ : St) : Nat × Int → St)) (fun | (i, h) => (i ≤ c.length) ∧ (h = hTo c i)) (fun | (i, h) => c.length - i) (0, (IntKind.u64.wrap (7129 + (c.length : Int)))) [0, 3, 4] none (by kernel_rfl) (by kernel_rfl) (by kernel_rfl) ⟨(by omega), (by rfl)⟩ ?_)
  rintro ⟨i, h⟩ ⟨h5_1, rfl⟩ R2 N3
  refine R.go 8 ?_
  by_cases c6 : (i : Int) < (c.length : Int)
  · refine R.want (decide ((i : Int) < (c.length : Int))) true (by kernel_rfl) (dT c6) ?_
    refine R.go 1 (R.want (decide ((i : Int) < (c.length : Int))) true (by kernel_rfl) (dT c6) ?_)
    refine R.go 1 (R.pick (decide ((i : Int) < (c.length : Int))) true (by kernel_rfl) (dT c6) (by kernel_rfl) ?_)
    refine R.go 1 (R.cond ((i : Int) < 4096) (by kernel_rfl) (fun c7 => ?_) (fun c7 => ?_))
    · have hbi := hcb i (by omega)
      refine R.go 12 (R.idx eB c 0 i (i : Int) (by kernel_rfl) rfl eB_len (by omega) (by kernel_rfl) ?_)
      refine R.go 1 (R.cv .u64 (c.getD i 0) (by kernel_rfl) (u64_id (by omega) (by omega)) (by kernel_rfl) ?_)
      refine R.go 9 (R.ar ((i : Int) + 1) (by kernel_rfl) (by omega) (by omega) (by kernel_rfl) ?_)
      exact R.go 2 (R.stop R2 (by kernel_rfl) (N3 (i + 1, IntKind.u64.wrap ((IntKind.u64.wrap ((IntKind.u64.wrap ((hTo c i) * 1099511628211)) + (c.getD i 0))) + 11)) [0, 3, 4] none _ (by kernel_rfl) (by kernel_rfl) ⟨(by omega), (by rfl)⟩ (by show (c.length - (i + 1)) < (c.length - i); omega)))
    · refine R.go 3 ?_
      have hsub_i : i = c.length := (by omega)
      subst hsub_i
      refine R.go 3 (R.back (.ptr 1 0) (frm 25 [(0, LB c), (2, AI 0), (3, AI 0), (4, AI 0), (8, LB c)]) (by kernel_rfl) (by kernel_rfl) (by kernel_rfl) ?_)
      refine R.go 5 (R.callS (l01Next_c c 0 (hTo c c.length) 3 hc) (by kernel_rfl) (by kernel_rfl) (by kernel_rfl) ?_)
      refine R.ar (2 + (nxV c 0 (hTo c c.length) 3)) (by kernel_rfl) (by omega) (by omega) (by kernel_rfl) ?_
      refine R.go 6 (R.callS (l01Next_c c (nxA c 0 3) (nxS (hTo c c.length) 3) 30 hc) (by kernel_rfl) (by kernel_rfl) (by kernel_rfl) ?_)
      refine R.go 2 (R.cond ((nxV c (nxA c 0 3) (nxS (hTo c c.length) 3) 30) = 0) (by kernel_rfl) (fun c8 => ?_) (fun c8 => ?_))
      · refine R.go 2 (R.lit (s := 1) (n := 3) (cs := rows eI [(-1), 1, 5]) (by kernel_rfl) (by kernel_rfl) ?_)
        refine R.callS (l01Pick_c c (nxA c (nxA c 0 3) 30) (nxS (nxS (hTo c c.length) 3) 30) [(-1), 1, 5] hc (by simp)) (by kernel_rfl) (by kernel_rfl) (by kernel_rfl) ?_
        refine R.go 5 (R.callS (l20Number_c c (nxA c (nxA c (nxA c 0 3) 30) [(-1), 1, 5].length) (nxS (nxS (nxS (hTo c c.length) 3) 30) [(-1), 1, 5].length) hc) (by kernel_rfl) (by kernel_rfl) (by kernel_rfl) ?_)
        refine R.go 7 (R.callS (l20Number_c c (nuA c (nxA c (nxA c (nxA c 0 3) 30) [(-1), 1, 5].length) (nxS (nxS (nxS (hTo c c.length) 3) 30) [(-1), 1, 5].length)) (nuS c (nxA c (nxA c (nxA c 0 3) 30) [(-1), 1, 5].length) (nxS (nxS (nxS (hTo c c.length) 3) 30) [(-1), 1, 5].length)) hc) (by kernel_rfl) (by kernel_rfl) (by kernel_rfl) ?_)
        exact R.go 4 (R.retE (.tup [AI ([(-1), 1, 5].getD (nxV c (nxA c (nxA c 0 3) 30) (nxS (nxS (hTo c c.length) 3) 30) [(-1), 1, 5].length).toNat 0), AI (nuV c (nxA c (nxA c (nxA c 0 3) 30) [(-1), 1, 5].length) (nxS (nxS (nxS (hTo c c.length) 3) 30) [(-1), 1, 5].length)), AI (nuV c (nuA c (nxA c (nxA c (nxA c 0 3) 30) [(-1), 1, 5].length) (nxS (nxS (nxS (hTo c c.length) 3) 30) [(-1), 1, 5].length)) (nuS c (nxA c (nxA c (nxA c 0 3) 30) [(-1), 1, 5].length) (nxS (nxS (nxS (hTo c c.length) 3) 30) [(-1), 1, 5].length)))]) (by kernel_rfl) (by kernel_rfl) (by first | (first | exact dj_0 (by assumption) | exact dj_1 (by assumption)) | (exfalso; omega)))
      · refine R.go 4 (R.callS (l20Number_c c (nxA c (nxA c 0 3) 30) (nxS (nxS (hTo c c.length) 3) 30) hc) (by kernel_rfl) (by kernel_rfl) (by kernel_rfl) ?_)
        refine R.go 7 (R.callS (l20Number_c c (nuA c (nxA c (nxA c 0 3) 30) (nxS (nxS (hTo c c.length) 3) 30)) (nuS c (nxA c (nxA c 0 3) 30) (nxS (nxS (hTo c c.length) 3) 30)) hc) (by kernel_rfl) (by kernel_rfl) (by kernel_rfl) ?_)
        exact R.go 4 (R.retE (.tup [AI (2 + (nxV c 0 (hTo c c.length) 3)), AI (nuV c (nxA c (nxA c 0 3) 30) (nxS (nxS (hTo c c.length) 3) 30)), AI (nuV c (nuA c (nxA c (nxA c 0 3) 30) (nxS (nxS (hTo c c.length) 3) 30)) (nuS c (nxA c (nxA c 0 3) 30) (nxS (nxS (hTo c c.length) 3) 30)))]) (by kernel_rfl) (by kernel_rfl) (by first | (first | exact dj_0 (by assumption) | exact dj_1 (by assumption)) | (exfalso; omega)))
  · refine R.skp (decide ((i : Int) < (c.length : Int))) true (by kernel_rfl) (dF c6) (by kernel_rfl) ?_
    refine R.skp (decide ((i : Int) < (c.length : Int))) true (by kernel_rfl) (dF c6) (by kernel_rfl) ?_
    refine R.pick (decide ((i : Int) < (c.length : Int))) false (by kernel_rfl) (dF c6) (by kernel_rfl) ?_
    refine R.go 5 ?_
    have hsub_i : i = c.length := (by omega)
    subst hsub_i
    refine R.go 3 (R.back (.ptr 1 0) (frm 25 [(0, LB c), (2, AI 0), (3, AI 0), (4, AI 0), (8, LB c)]) (by kernel_rfl) (by kernel_rfl) (by kernel_rfl) ?_)
    refine R.go 5 (R.callS (l01Next_c c 0 (hTo c c.length) 3 hc) (by kernel_rfl) (by kernel_rfl) (by kernel_rfl) ?_)
    refine R.ar (2 + (nxV c 0 (hTo c c.length) 3)) (by kernel_rfl) (by omega) (by omega) (by kernel_rfl) ?_
    refine R.go 6 (R.callS (l01Next_c c (nxA c 0 3) (nxS (hTo c c.length) 3) 30 hc) (by kernel_rfl) (by kernel_rfl) (by kernel_rfl) ?_)
    refine R.go 2 (R.cond ((nxV c (nxA c 0 3) (nxS (hTo c c.length) 3) 30) = 0) (by kernel_rfl) (fun c9 => ?_) (fun c9 => ?_))
    · refine R.go 2 (R.lit (s := 1) (n := 3) (cs := rows eI [(-1), 1, 5]) (by kernel_rfl) (by kernel_rfl) ?_)
      refine R.callS (l01Pick_c c (nxA c (nxA c 0 3) 30) (nxS (nxS (hTo c c.length) 3) 30) [(-1), 1, 5] hc (by simp)) (by kernel_rfl) (by kernel_rfl) (by kernel_rfl) ?_
      refine R.go 5 (R.callS (l20Number_c c (nxA c (nxA c (nxA c 0 3) 30) [(-1), 1, 5].length) (nxS (nxS (nxS (hTo c c.length) 3) 30) [(-1), 1, 5].length) hc) (by kernel_rfl) (by kernel_rfl) (by kernel_rfl) ?_)
      refine R.go 7 (R.callS (l20Number_c c (nuA c (nxA c (nxA c (nxA c 0 3) 30) [(-1), 1, 5].length) (nxS (nxS (nxS (hTo c c.length) 3) 30) [(-1), 1, 5].length)) (nuS c (nxA c (nxA c (nxA c 0 3) 30) [(-1), 1, 5].length) (nxS (nxS (nxS (hTo c c.length) 3) 30) [(-1), 1, 5].length)) hc) (by kernel_rfl) (by kernel_rfl) (by kernel_rfl) ?_)
      exact R.go 4 (R.retE (.tup [AI ([(-1), 1, 5].getD (nxV c (nxA c (nxA c 0 3) 30) (nxS (nxS (hTo c c.length) 3) 30) [(-1), 1, 5].length).toNat 0), AI (nuV c (nxA c (nxA c (nxA c 0 3) 30) [(-1), 1, 5].length) (nxS (nxS (nxS (hTo c c.length) 3) 30) [(-1), 1, 5].length)), AI (nuV c (nuA c (nxA c (nxA c (nxA c 0 3) 30) [(-1), 1, 5].length) (nxS (nxS (nxS (hTo c c.length) 3) 30) [(-1), 1, 5].length)) (nuS c (nxA c (nxA c (nxA c 0 3) 30) [(-1), 1, 5].length) (nxS (nxS (nxS (hTo c c.length) 3) 30) [(-1), 1, 5].length)))]) (by kernel_rfl) (by kernel_rfl) (by first | (first | exact dj_0 (by assumption) | exact dj_1 (by assumption)) | (exfalso; omega)))
    · refine R.go 4 (R.callS (l20Number_c c (nxA c (nxA c 0 3) 30) (nxS (nxS (hTo c c.length) 3) 30) hc) (by kernel_rfl) (by kernel_rfl) (by kernel_rfl) ?_)
      refine R.go 7 (R.callS (l20Number_c c (nuA c (nxA c (nxA c 0 3) 30) (nxS (nxS (hTo c c.length) 3) 30)) (nuS c (nxA c (nxA c 0 3) 30) (nxS (nxS (hTo c c.length) 3) 30)) hc) (by kernel_rfl) (by kernel_rfl) (by kernel_rfl) ?_)
      exact R.go 4 (R.retE (.tup [AI (2 + (nxV c 0 (hTo c c.length) 3)), AI (nuV c (nxA c (nxA c 0 3) 30) (nxS (nxS (hTo c c.length) 3) 30)), AI (nuV c (nuA c (nxA c (nxA c 0 3) 30) (nxS (nxS (hTo c c.length) 3) 30)) (nuS c (nxA c (nxA c 0 3) 30) (nxS (nxS (hTo c c.length) 3) 30)))]) (by kernel_rfl) (by kernel_rfl) (by first | (first | exact dj_0 (by assumption) | exact dj_1 (by assumption)) | (exfalso; omega)))

end Go.Proofs.YtfkdkhlimdkehaaGreat
