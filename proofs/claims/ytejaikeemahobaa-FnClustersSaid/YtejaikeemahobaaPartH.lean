/- Texts of the proof: V03, Sym4, Sym5, B01, B02, B03. -/
import Derived.Test.YtejaikeemahobaaPartG

/-! Generated sets, members, sums; marks of the law on parts. -/
namespace Go.Proofs.Ytejaikeemahobaa
open Go.RowKit Go.Abs

section
variable {n m : Int} {xs ys vs us : List Int}
end

theorem image_c (rs : List Int) (k : Int) (hk : InM 61 k) (hr : ∀ t : Nat, t < (mem k).length → ((mem k).getD t 0) < (rs.length : Int)) : CallA Try.prog 79 [LI rs, AI k] (AI (imT rs (mem k) (mem k).length)) := by
  have hml := mem_le k
  have hjr0 := fun (t : Nat) (h : t < (mem k).length) => mem_lt' (N := 61) (by omega) hk h
  refine CallA.of Try.func79 rfl (by kernel_rfl) ?_
  refine R.go 12 (R.call true (membersOf_c k hk).frz (by kernel_rfl) rfl (by kernel_rfl) ?_)
  refine R.go 4 (R.loop ((fun | (t, r) => (⟨(frm 23 [(0, LI rs), (5, AI r), (9, LI (mem k)), (10, AI ((mem k).length)), (11, AI (t : Int))]), []⟩ : St) : Nat × Int → St)) (fun | (t, r) => (t ≤ (mem k).length) ∧ (r = imT rs (mem k) t)) (fun | (t, r) => (mem k).length - t) (0, 0) [0, 5, 9, 10, 11] none (by kernel_rfl) (by kernel_rfl) (by kernel_rfl) ⟨(by omega), (by rfl)⟩ ?_)
  rintro ⟨t, r⟩ ⟨h4_1, rfl⟩ R1 N2
  have hjr := hjr0 t
  have hjw := hr t
  refine R.go 5 (R.cond ((t : Int) < ((mem k).length : Int)) (by kernel_rfl) (fun c5 => ?_) (fun c5 => ?_))
  · refine R.go 5 (R.idx eI (mem k) 0 t (t : Int) (by kernel_rfl) rfl eI_len (by omega) (by kernel_rfl) ?_)
    refine R.go 7 (R.idx eI rs 0 ((((mem k).getD t 0)).toNat) ((mem k).getD t 0) (by kernel_rfl) (by omega) eI_len (by omega) (by kernel_rfl) ?_)
    refine R.go 6 (R.ar ((t : Int) + 1) (by kernel_rfl) (by omega) (by omega) (by kernel_rfl) ?_)
    exact R.go 2 (R.stop R1 (by kernel_rfl) (N2 (t + 1, bor (imT rs (mem k) t) (rs.getD ((((mem k).getD t 0)).toNat) 0)) [0, 5, 9, 10, 11] none _ (by kernel_rfl) (by kernel_rfl) ⟨(by omega), (by rfl)⟩ (by show ((mem k).length - (t + 1)) < ((mem k).length - t); omega)))
  · exact R.go 6 (R.retE (AI (imT rs (mem k) t)) (by kernel_rfl) (by kernel_rfl) (by first | (rw [show t = (mem k).length by omega]) | (exfalso; omega)))

theorem wCode_c (n : Int) (xs : List Int) (k : Int) (hP : okFr n xs = true) (hO : outR n k = false) : CallA Try.prog 78 [.agg [AI n, LI xs], AI k] (AI 0) := by
  have hp1 := okFr_rel hP
  have hb : 0 ≤ n ∧ n ≤ 8 ∧ (xs.length : Int) = n := ⟨hp1.1, hp1.2.1, hp1.2.2.1⟩
  have hO2 : (!(outR n k)) = true := by rw [hO]; rfl
  have hkN : InM n.toNat k := inM_out hb.1 hb.2.1 hO
  have hk61 : InM 61 k := inM_mono (n' := 61) (by omega) hkN
  have hcl := clo_len xs
  have hri : ∀ t : Nat, t < (mem k).length → ((mem k).getD t 0) < ((clo xs).length : Int) := fun t ht => by have := mem_lt' (N := n.toNat) (by omega) hkN ht; omega
  refine CallA.of Try.func78 rfl (by kernel_rfl) ?_
  refine R.go 10 (R.call true (isFrame_c n xs (by first | omega | (simp <;> omega))) (by kernel_rfl) rfl (by kernel_rfl) ?_)
  refine R.go 3 (R.els (!(okFr n xs)) (by kernel_rfl) (bnF hP) ?_)
  refine R.go 5 (R.call true (isMask_c n k) (by kernel_rfl) rfl (by kernel_rfl) ?_)
  refine R.go 3 (R.els (!(!(outR n k))) (by kernel_rfl) (bnF hO2) ?_)
  exact R.go 6 (R.retE (AI 0) (by kernel_rfl) (by kernel_rfl) (by rfl))

theorem GW_impl (n : Int) (xs : List Int) (k : Int) (hP : okFr n xs = true) (hO : outR n k = false) : CallA Try.prog 31 [.agg [AI n, LI xs], AI k] (.tup [AI (gwI xs k), AI 0]) := by
  have hp1 := okFr_rel hP
  have hb : 0 ≤ n ∧ n ≤ 8 ∧ (xs.length : Int) = n := ⟨hp1.1, hp1.2.1, hp1.2.2.1⟩
  have hO2 : (!(outR n k)) = true := by rw [hO]; rfl
  have hkN : InM n.toNat k := inM_out hb.1 hb.2.1 hO
  have hk61 : InM 61 k := inM_mono (n' := 61) (by omega) hkN
  have hcl := clo_len xs
  have hri : ∀ t : Nat, t < (mem k).length → ((mem k).getD t 0) < ((clo xs).length : Int) := fun t ht => by have := mem_lt' (N := n.toNat) (by omega) hkN ht; omega
  refine CallA.of Try.func31 rfl (by kernel_rfl) ?_
  refine R.go 11 (R.call true (wCode_c n xs k hP hO) (by kernel_rfl) rfl (by kernel_rfl) ?_)
  refine R.go 12 (R.call true (reachable_c n xs (by first | omega | (simp <;> omega))).frz (by kernel_rfl) rfl (by kernel_rfl) ?_)
  refine R.go 1 (R.call true (image_c (clo xs) k hk61 hri) (by kernel_rfl) rfl (by kernel_rfl) ?_)
  exact R.go 3 (R.retE (.tup [AI (imT (clo xs) (mem k) (mem k).length), AI 0]) (by kernel_rfl) (by kernel_rfl) (by first | (rfl) | (exfalso; omega)))

theorem bit9_c (k : Int) (i : Int) (h0 : 0 ≤ i) (h1 : i < 62) : CallA Try.prog 33 [AI k, AI i] (.bool (decide (band (shr64 k i) 1 = 1))) := by
  refine CallA.of Try.func33 rfl (by kernel_rfl) ?_
  refine R.go 9 ?_
  by_cases c1 : i ≥ 0
  · refine R.want (decide (i ≥ 0)) true (by kernel_rfl) (dT c1) ?_
    refine R.go 1 (R.want (decide (i ≥ 0)) true (by kernel_rfl) (dT c1) ?_)
    refine R.go 1 (R.pick (decide (i ≥ 0)) true (by kernel_rfl) (dT c1) (by kernel_rfl) ?_)
    refine R.go 1 (R.want (decide (i < 62)) true (by kernel_rfl) (dT h1) ?_)
    refine R.go 1 (R.want (decide (i < 62)) true (by kernel_rfl) (dT h1) ?_)
    refine R.go 1 (R.want (decide (i < 62)) true (by kernel_rfl) (dT h1) ?_)
    refine R.cv .u64 i (by kernel_rfl) (u64_id (by omega) (by omega)) (by kernel_rfl) ?_
    refine R.want (decide (i < 62)) true (by kernel_rfl) (dT h1) ?_
    refine R.shr k i (by kernel_rfl) (by omega) (by kernel_rfl) ?_
    refine R.want (decide (i < 62)) true (by kernel_rfl) (dT h1) ?_
    refine R.go 1 (R.want (decide (i < 62)) true (by kernel_rfl) (dT h1) ?_)
    refine R.go 1 (R.pick (decide (i < 62)) true (by kernel_rfl) (dT h1) (by kernel_rfl) ?_)
    exact R.go 2 (R.retE (.bool (decide ((band (shr64 k i) 1) = 1))) (by kernel_rfl) (by kernel_rfl) (by first | (rfl) | (exfalso; omega)))
  · refine R.skp (decide (i ≥ 0)) true (by kernel_rfl) (dF c1) (by kernel_rfl) ?_
    refine R.skp (decide (i ≥ 0)) true (by kernel_rfl) (dF c1) (by kernel_rfl) ?_
    refine R.pick (decide (i ≥ 0)) false (by kernel_rfl) (dF c1) (by kernel_rfl) ?_
    exact R.go 10 (R.retE (.bool false) (by kernel_rfl) (by kernel_rfl) (by first | (rfl) | (exfalso; omega)))

theorem likeInts_c (a : List Int) (hl : a.length ≤ 1000000000) : CallA Try.prog 30 [LI a, LI a] (.bool true) := by
  refine CallA.of Try.func30 rfl (by kernel_rfl) ?_
  refine R.go 13 (R.els (!decide ((a.length : Int) = (a.length : Int))) (by kernel_rfl) (nF rfl) ?_)
  refine R.go 7 (R.loop (fun (i : Nat) => (⟨(frm 26 [(0, LI a), (1, LI a), (5, AI (i : Int))]), []⟩ : St)) (fun (i : Nat) => i ≤ a.length) (fun (i : Nat) => a.length - i) 0 [0, 1, 5] none (by kernel_rfl) (by kernel_rfl) (by kernel_rfl) (by omega) ?_)
  rintro i h3_1 R1 N2
  refine R.go 8 (R.cond ((i : Int) < (a.length : Int)) (by kernel_rfl) (fun c4 => ?_) (fun c4 => ?_))
  · refine R.go 7 (R.idx eI a 0 i (i : Int) (by kernel_rfl) rfl eI_len (by omega) (by kernel_rfl) ?_)
    refine R.go 3 (R.idx eI a 0 i (i : Int) (by kernel_rfl) rfl eI_len (by omega) (by kernel_rfl) ?_)
    refine R.go 3 (R.els (!decide ((a.getD i 0) = (a.getD i 0))) (by kernel_rfl) (nF rfl) ?_)
    refine R.go 4 (R.ar ((i : Int) + 1) (by kernel_rfl) (by omega) (by omega) (by kernel_rfl) ?_)
    exact R.go 2 (R.stop R1 (by kernel_rfl) (N2 (i + 1) [0, 1, 5] none _ (by kernel_rfl) (by kernel_rfl) (by omega) (by show (a.length - (i + 1)) < (a.length - i); omega)))
  · exact R.go 5 (R.retE (.bool true) (by kernel_rfl) (by kernel_rfl) (by rfl))

theorem likeInts_nil : CallA Try.prog 30 [.nil, .nil] (.bool true) := by
  refine CallA.of Try.func30 rfl (by kernel_rfl) ?_
  refine R.go 21 (R.loop (fun (i : Nat) => (⟨(frm 26 [(0, .nil), (1, .nil), (5, AI (i : Int))]), []⟩ : St)) (fun (i : Nat) => i ≤ 0) (fun (i : Nat) => 0) 0 [0, 1, 5] none (by kernel_rfl) (by kernel_rfl) (by kernel_rfl) (by omega) ?_)
  rintro i h3_1 R1 N2
  refine R.go 8 (R.cond ((i : Int) < 0) (by kernel_rfl) (fun c4 => ?_) (fun c4 => ?_))
  · exfalso; omega -- indexAddr .nil AI (i : Int)
  · exact R.go 5 (R.retE (.bool true) (by kernel_rfl) (by kernel_rfl) (by rfl))

end Go.Proofs.Ytejaikeemahobaa


/-! Calls that need no object of the caller's, beside any objects. -/
namespace Go.Abs
open Go.RowKit

theorem zone_two {Z0 F F1 : Nat → Prop} {B C : Nat} (hBC : B ≤ C) (hF : ∀ b, F b → B ≤ b ∧ b < C) (hF1 : ∀ b, F1 b → C ≤ b) (b : Nat) : Zone Z0 (fun b => F b ∨ F1 b) B b ↔ Zone (Zone Z0 F B) F1 C b := by
  unfold Zone
  constructor
  · rintro (⟨h1, h2⟩ | ⟨h1, h2⟩)
    · exact .inl ⟨by omega, .inl ⟨h1, h2⟩⟩
    · rcases Nat.lt_or_ge b C with h | h
      · exact .inl ⟨h, .inr ⟨h1, fun hf => h2 (.inl hf)⟩⟩
      · exact .inr ⟨h, fun hf => h2 (.inr hf)⟩
  · rintro (⟨h1, h2 | h2⟩ | ⟨h1, h2⟩)
    · exact .inl h2
    · refine .inr ⟨h2.1, ?_⟩
      rintro (hf | hf)
      · exact h2.2 hf
      · have := hF1 b hf; omega
    · refine .inr ⟨by omega, ?_⟩
      rintro (hf | hf)
      · have := hF b hf; omega
      · exact h2 hf

section
variable {rd : Option Nat} {P : Program} {m : M} {Q : Exit → St → Prop}
theorem CallX.any {f : FuncId} {args : List AV} {Φ : AV → List AObj → Prop} (hp : List AObj) (hc : CallX P f args [] Φ) (hl : leafyL args = true) (hΦ : ∀ r h, Φ r h → h = []) : CallX P f args hp fun r h => h = hp ∧ Φ r [] := by
  obtain ⟨hen, hc⟩ := hc
  refine ⟨hen, ?_⟩
  intro Z0 F w0 w μ vs us fr hFb hH hvs hus hbel
  have hBC := hbel.size
  have zn : ∀ b, b < w.heap.size → (Zone (Zone Z0 F w0.heap.size) NoF w.heap.size b ↔ Zone Z0 F w0.heap.size b) := fun b hb => by
    unfold Zone NoF
    constructor
    · rintro (h | h)
      · exact h.2
      · omega
    · exact fun h => .inl ⟨hb, h⟩
  have hvs1 : RelL w (Zone (Zone Z0 F w0.heap.size) NoF w.heap.size) [] args vs := (RelL.leafy hl hvs).weak fun b hb h1 h2 => h1 ((zn b hb).1 h2)
  have h0 : HRel w (Zone (Zone Z0 F w0.heap.size) NoF w.heap.size) w.heap.size [] [] := ⟨rfl, fun i o u g h => by simp at h, fun i u h => by simp at h, fun i o u h => by simp at h, fun i j oi oj ui uj g _ h => by simp at h⟩
  refine (hc (Zone Z0 F w0.heap.size) NoF w w [] vs [] [] (fun b h => h.elim) h0 hvs1 RelL.nil (Below.refl _ _)).mono ?_
  rintro e w' ⟨v, μ', F1, res, hp', hΦ1, rfl, hF1, hH1, hres, _, hb1⟩
  have e1 := hΦ _ _ hΦ1
  subst e1
  have hm' : μ' = [] := List.eq_nil_of_length_eq_zero (by simpa using hH1.len)
  subst hm'
  have z2 := zone_two (Z0 := Z0) hBC hFb (fun b h => (hF1 b h).1)
  have hk : ∀ b, b < w.heap.size → w'.heap[b]? = w.heap[b]? := fun b hb => hb1.block b hb
  have hold : ∀ b, b < w'.heap.size → ¬ Zone Z0 F w0.heap.size b → ¬ Zone Z0 (fun b => F b ∨ F1 b) w0.heap.size b := by
    intro b _ h1 h2
    rcases Nat.lt_or_ge b w.heap.size with h | h
    · rcases (z2 b).1 h2 with h3 | h3
      · exact h1 h3.2
      · omega
    · exact h1 (.inr ⟨by omega, fun hf => by have := hFb b hf; omega⟩)
  refine ⟨v, μ, fun b => F b ∨ F1 b, res, hp, ⟨rfl, hΦ1⟩, rfl, ?_, ?_, ?_, ?_, hbel.trans (hb1.mono hBC)⟩
  · rintro b (h | h)
    · have := hFb b h; have := hb1.size; omega
    · have := hF1 b h; omega
  · refine ⟨hH.len, fun i o u g h1 ha h2 hg => ?_, hH.one, fun i o u h1 h2 => ?_, hH.sep⟩
    · have hz := hH.zone i o u g h1 ha h2 hg
      have hlt := ((hH.obj i o u h1 h2).blk_ge ha hg).2
      exact (z2 g).2 (.inl ⟨hlt, hz⟩)
    · have h3 := hH.obj i o u h1 h2
      cases ha : o.alive with
      | true => exact (h3.keep (w' := w') (fun b hb _ => hk b hb) (fun _ _ h => h) (fun g hg => hk g (h3.blk_ge ha hg).2)).weak hold
      | false => exact (h3.keep_dead (w' := w') (B' := w0.heap.size) (u' := u) (fun b hb _ => hk b hb) (fun _ _ h => h) ha).weak hold
  · exact Rel.lift (hres.weak fun b _ h1 h2 => h1 ((z2 b).1 h2))
  · exact (hus.keep (w' := w') (fun b hb _ => hk b hb) (fun _ _ h => h)).weak hold

end
end Go.Abs


/-! The machine's rules: copy into a row of one's own. -/
namespace Go.Abs
open Go.RowKit

theorem run_cpy {P : Program} {w w' : World} {t ty el s by_ n c m cp : Nat} {zs : List AV} {ad0 : Addr} {A : Option Addr} {ys : List Value} (ht : rowB P t = some (el, s, zs, by_)) (hl : ys.length = m * s)
    (hc : ys ≠ [] → ∃ ad, A = some ad ∧ ∀ (j : Nat) u, ys[j]? = some u → w.cell? (ad.add j) = some u) (hst : (storeCells ad0 (ys.take (Nat.min m n * s))).run P w = .ok () w') :
    (Builtin.copy_ #[t, t] ty #[.slice (some ad0) n c, .slice A m cp]).run P w = .ok (goInt (Nat.min m n : Nat)) w' := by
  obtain ⟨i, z, hu, hi, hz, rfl, rfl, hzs, hs0, _⟩ := row_parts ht
  have hk : (ys.take (Nat.min m n * i.size)).length = Nat.min m n * i.size := by
    have : Nat.min m n * i.size ≤ m * i.size := Nat.mul_le_mul_right _ (Nat.min_le_left _ _)
    rw [List.length_take, hl]; omega
  cases A with
  | none =>
    have hy : ys = [] := by
      cases ys with
      | nil => rfl
      | cons y ys => obtain ⟨ad, h, _⟩ := hc (by simp); cases h
    subst hy
    simp only [List.take_nil] at hst
    simp [Builtin.copy_, run_underlying hu, Builtin.lenOf, Builtin.firstCells, sizeOf, typeInfo, hi, hst]
  | some a =>
    have hl2 := run_loadCells_list (P := P) w a (ys.take (Nat.min m n * i.size)) (fun j u hj => by
      rw [List.getElem?_take] at hj
      split at hj
      · obtain ⟨ad', he, h⟩ := hc (by rintro rfl; simp at hj)
        cases he
        exact h j u hj
      · cases hj)
    rw [hk] at hl2
    simp [Builtin.copy_, run_underlying hu, Builtin.lenOf, Builtin.firstCells, sizeOf, typeInfo, hi, hl2, hst]

theorem take_rel {w : World} {Z : Nat → Prop} {μ : List Value} : ∀ {cs : List AV} {vs : List Value} (k : Nat), RelL w Z μ cs vs → RelL w Z μ (cs.take k) (vs.take k) := fun k h => h.take k

section
variable {rd : Option Nat} {P : Program} {Q : Exit → St → Prop}

theorem OpsQ.cpy {all : Array Oper} {o1 : Oper} {rest : List Oper} {fr : List AV} {hp : List AObj} {R : Exit → St → Prop} {t i el s n m by_ : Nat} {x y : Operand} {cs zs ds : List AV}
    (g1 : o1.guard = none) (p1 : o1.op = .call { callee := .builtin .copy, args := #[x, y], argTypes := #[t, t] })
    (hx : ev fr x = .ref i) (hy : ev fr y = .lst s m ds) (hr : rowB P t = some (el, s, zs, by_)) (hi : hp[i]? = some (.list el s n cs))
    (h1 : ∀ c ∈ ds, c.one = true) (h2 : leafyL (ds.take (Nat.min m n * s)) = true)
    (h' : OpsQ rd P all rest ⟨putF fr o1.dst (.int .i64 (Nat.min m n : Nat)), hp.set i (.list el s n (setMany cs 0 (ds.take (Nat.min m n * s))))⟩ R) :
    OpsQ rd P all (o1 :: rest) ⟨fr, hp⟩ R := by
  intro Z0 w0 a w hS
  obtain ⟨μ, F, hFb, hH, hF, hdf, hb⟩ := hS
  have hB := hb.size
  have hZn := zone_new (Z0 := Z0) hB hFb
  have hr0 := hr
  obtain ⟨info, z, hu, hinf, hz, rfl, rfl, hzs, hs0, rfl⟩ := row_parts hr
  have hxv := hx ▸ ev_rel hF x
  simp only [Rel] at hxv
  have hyv := hy ▸ ev_rel hF y
  simp only [Rel] at hyv
  obtain ⟨A, cp, ys, hye, hl, hc, hrd, hrx⟩ := hyv
  obtain ⟨xs, hown, hox⟩ := hH.obj i _ _ hi hxv
  have hlen := hox.length
  have hcl := hown.1
  have hyl : ys.length = m * info.size := by rw [hrx.length]; exact hl
  have hsrc : ys ≠ [] → ∃ ad, A = some ad ∧ ∀ (j : Nat) u, ys[j]? = some u → w.cell? (ad.add j) = some u := fun hne => by
    obtain ⟨ad, h1, _, h3⟩ := hrd hne
    exact ⟨ad, h1, h3⟩
  have main : (∃ w', (Builtin.copy_ #[t, t] o1.type #[a.eval x, a.eval y]).run P w = .ok (goInt (Nat.min m n : Nat)) w' ∧ HRel w' (Zone Z0 F w0.heap.size) w0.heap.size μ (hp.set i (.list el info.size n (setMany cs 0 (ds.take (Nat.min m n * info.size))))) ∧
        Below w0.heap.size w w' ∧ (∀ b, b < w.heap.size → ¬ Zone Z0 F w0.heap.size b → w'.heap[b]? = w.heap[b]?) ∧ w.heap.size ≤ w'.heap.size) →
      wpListIn (Fc rd) 0 P all (fun e a' w' => ∃ st', R e st' ∧ Sim Z0 w0 st' a' w') (o1 :: rest) a w := by
    rintro ⟨w', hc, hH', hbel, hk, hsz⟩
    refine wpListIn_plain g1 fun K1 hK1 => ?_
    refine wpIn_of_run (fun c h => by rw [p1] at h; cases h) ?_
    have e1 : (execOp a.eval o1).run P w = .ok (.value (goInt (Nat.min m n : Nat))) w' := by
      simp only [execOp, p1, resolve, List.map_toArray, List.map_cons, List.map_nil, Sem.run_bind, Sem.run_pure, Result.andThen_ok, invoke, builtin, hc]
    rw [e1]
    refine hK1 _ _ (h' Z0 w0 _ _ ⟨μ, F, fun b h => ⟨(hFb b h).1, Nat.lt_of_lt_of_le (hFb b h).2 hsz⟩, hH', ?_, ?_, hb.trans hbel⟩)
    · exact put_rel (hF.keep hk (fun _ _ h => h)) _ (by simp [Rel, goInt])
    · rw [put_defers']
      refine hdf.keep fun j y hj => ⟨?_, fun u hu => hu⟩
      rw [List.getElem?_set_ne (by rintro rfl; rw [hi] at hj; cases hj)]
      exact hj
  refine main ?_
  have hk2 : Nat.min m n * info.size ≤ m * info.size := Nat.mul_le_mul_right _ (Nat.min_le_left _ _)
  have hk3 : Nat.min m n * info.size ≤ n * info.size := Nat.mul_le_mul_right _ (Nat.min_le_right _ _)
  rcases Nat.eq_zero_or_pos (Nat.min m n) with hz0 | hpos
  · have hset : hp.set i (.list el info.size n (setMany cs 0 (ds.take (Nat.min m n * info.size)))) = hp := by
      have : setMany cs 0 (ds.take (Nat.min m n * info.size)) = cs := by rw [hz0]; simp [setMany]
      rw [this]
      exact set_self hi
    rw [hset]
    refine ⟨w, ?_, hH, Below.refl _ _, fun _ _ _ => rfl, Nat.le_refl _⟩
    rw [hye]
    rcases hown.2 with ⟨hv0, rfl⟩ | ⟨g, cap, cur, hv0, hB2, hg, hnc, hcm, hcs, htk⟩
    · rw [hv0]
      have hl0 : ∀ (x : Addr), (loadCells x 0).run P w = .ok #[] w := fun x => by simpa using run_loadCells_list (P := P) w x [] (by simp)
      cases A <;> simp [Builtin.copy_, run_underlying hu, Builtin.lenOf, Builtin.firstCells, sizeOf, typeInfo, hinf, hz0, hl0]
    · rw [hv0]
      exact run_cpy hr0 hyl hsrc (by rw [hz0]; simp [storeCells])
  · rcases hown.2 with ⟨hv0, rfl⟩ | ⟨g, cap, cur, hv0, hB2, hg, hnc, hcm, hcs, htk⟩
    · have h5 : Nat.min m 0 ≤ 0 := Nat.min_le_right m 0
      omega
    have hzr : RelL w (Zone Z0 F w0.heap.size) μ (ds.take (Nat.min m n * info.size)) (ys.take (Nat.min m n * info.size)) := take_rel _ (hrx.keep (fun _ _ _ => rfl) (fun _ _ h => by simp at h))
    have hpos2 : 0 < Nat.min m n * info.size := Nat.mul_pos hpos hs0
    have hdl := hrx.length
    obtain ⟨w', hst, hH', hbel, hk, hsz⟩ := store_obj (P := P) hH hZn (o := 0) hi hxv (g := g) (by rw [hv0]; rfl) hzr (ones_rel hH.one (fun c hc => h1 c (List.mem_of_mem_take hc)) hzr) (by simp only [AObj.cells, List.length_take]; omega) (by intro h; have h5 := congrArg List.length h; rw [List.length_take, List.length_nil] at h5; omega) (by simp only [AObj.flat]; exact h2)
    refine ⟨w', ?_, hH', hbel, hk, hsz⟩
    rw [hye, hv0]
    exact run_cpy hr0 hyl hsrc hst

/-- Copying a part of a row of one's own into another part of it. -/
theorem AnyQ.cpy {ops : Array Oper} {listed : Array Bool} {n : Nat} {fr : List AV} {hp : List AObj} {R : Exit → St → Prop} {i1 i2 i3 : Nat} {o1 o2 o3 : Oper} {t d1 d2 i el s by_ N l h : Nat} {k1 k2 : IntKind} {x y hi lo : Operand} {cs zs : List AV}
    (np : ∀ c st, ¬ R (.panic c) st) (hs : Region.noSelect ops = true)
    (ho1 : ops[i1]? = some o1) (ho2 : ops[i2]? = some o2) (ho3 : ops[i3]? = some o3) (g1 : o1.guard = none) (g2 : o2.guard = none) (g3 : o3.guard = none)
    (p1 : o1.op = .slice t x (some lo) none none) (p2 : o2.op = .slice t y none (some hi) none) (p3 : o3.op = .call { callee := .builtin .copy, args := #[.tmp d1, .tmp d2], argTypes := #[t, t] })
    (e1 : o1.dst = some d1) (e2 : o2.dst = some d2) (hne : d1 ≠ d2) (hd1 : d1 < fr.length) (hd2 : d2 < fr.length) (hy1 : y ≠ .tmp d1) (hl1 : hi ≠ .tmp d1)
    (hf1 : Region.free .any ops listed i1 = true) (hr1 : (Region.ready .any ops listed).contains i1 = true)
    (hf2 : Region.free .any ops (listed.setIfInBounds i1 true) i2 = true) (hr2 : (Region.ready .any ops (listed.setIfInBounds i1 true)).contains i2 = true)
    (hr3 : Region.ready .any ops ((listed.setIfInBounds i1 true).setIfInBounds i2 true) = [i3])
    (hx : ev fr x = .ref i) (hy : ev fr y = .ref i) (hhi : ev fr hi = .int k1 h) (hlo : ev fr lo = .int k2 l) (hr : rowB P t = some (el, s, zs, by_)) (hi' : hp[i]? = some (.list el s N cs)) (hl : l < N) (hh : h ≤ N) (hh0 : 0 < h)
    (h1 : ∀ c ∈ cs, c.one = true) (h2 : leafyL (cs.take (Nat.min h (N - l) * s)) = true)
    (h' : AnyQ none P ops (((listed.setIfInBounds i1 true).setIfInBounds i2 true).setIfInBounds i3 true) n ⟨putF (putF (putF fr (some d1) .top) (some d2) .top) o3.dst (.int .i64 (Nat.min h (N - l) : Nat)), hp.set i (.list el s N (setMany cs (l * s) (cs.take (Nat.min h (N - l) * s))))⟩ R) :
    AnyQ none P ops listed (n + 3) ⟨fr, hp⟩ R := by
  intro Z0 w0 a w hS
  obtain ⟨μ, F, hFb, hH, hF, hdf, hbl⟩ := hS
  have hB := hbl.size
  have hZn := zone_new (Z0 := Z0) hB hFb
  have hr0 := hr
  obtain ⟨info, z, hu, hinf, hz, rfl, rfl, hzs, hs0, _⟩ := row_parts hr
  have hxv := hx ▸ ev_rel hF x
  have hyv := hy ▸ ev_rel hF y
  simp only [Rel] at hxv hyv
  have hhv := rel_int (hhi ▸ ev_rel hF hi)
  have hlv := rel_int (hlo ▸ ev_rel hF lo)
  have hts : a.tmps.size = fr.length := by simpa using hF.length
  have hel : elemB P t = some (el, info.size) := by
    unfold elemB
    rw [hu]
    simp [hinf]
  obtain ⟨xs, hown, hrx⟩ := hH.obj i _ _ hi' hxv
  have hlen := hrx.length
  have hcl := hown.1
  rcases hown.2 with ⟨_, h0⟩ | ⟨g, cap, cur, hv0, hB2, hg, hnc, hcm, hcs, htk⟩
  · omega
  have hyx : a.eval y = a.eval x := by rw [hxv] at hyv; exact (Option.some.inj hyv).symm
  have hc0 : ¬ cap = 0 := by omega
  have r1 : ∀ w, (Instr.sliceAt t (a.eval x) (some (.int k2 l)) none none).run P w = .ok (.slice (some ⟨g, l * info.size, none⟩) (N - l) (cap - l)) w := fun w => by
    have := run_sliceAt (P := P) hel (some ⟨g, 0, none⟩) N cap (some (.int k2 l)) none none l N cap (fun w => by
      have hbb := run_bound (P := P) k2 l N .sliceB (by omega) w
      simp [Instr.sliceBounds] at hbb ⊢; simp [hbb]) w
    rw [← hv0] at this
    simpa [if_neg (show ¬ cap = l by omega), add_lit'] using this
  have r2 : ∀ w, (Instr.sliceAt t (a.eval y) none (some (.int k1 h)) none).run P w = .ok (.slice (some ⟨g, 0, none⟩) h cap) w := fun w => by
    have := run_sliceAt (P := P) hel (some ⟨g, 0, none⟩) N cap none (some (.int k1 h)) none 0 h cap (fun w => by simp [Instr.sliceBounds, run_bound (P := P) k1 h cap _ (by omega)]) w
    rw [hyx, hv0]
    simpa [if_neg hc0, add_lit'] using this
  have w1 : Region.wanted o1 (yielded ops a.tmps) = true := by unfold Region.wanted; rw [g1]
  refine wpAnyIn_take (v := .slice (some ⟨g, l * info.size, none⟩) (N - l) (cap - l)) rfl ho1 hs hf1 hr1 (fun c a w ⟨st', hq, _⟩ => absurd hq (np c st')) ⟨.inl ⟨w1, fun w => by simp only [execOp, p1, hlv, Option.map_some, Option.map_none, Sem.run_bind, r1, Result.andThen_ok, Sem.run_pure]⟩, fun w => by unfold Oper.about; rw [p1]⟩ ?_
  rw [e1]
  obtain ⟨v1, hv1⟩ : ∃ v1 : Value, v1 = .slice (some ⟨g, l * info.size, none⟩) (N - l) (cap - l) := ⟨_, rfl⟩
  obtain ⟨v2, hv2⟩ : ∃ v2 : Value, v2 = .slice (some ⟨g, 0, none⟩) h cap := ⟨_, rfl⟩
  rw [← hv2] at r2
  rw [← hv1]
  have q2 : (a.put (some d1) v1).eval y = a.eval y := Act.eval_put fun d hd => by cases hd; exact hy1
  have q3 : (a.put (some d1) v1).eval hi = a.eval hi := Act.eval_put fun d hd => by cases hd; exact hl1
  have w2 : Region.wanted o2 (yielded ops (a.put (some d1) v1).tmps) = true := by unfold Region.wanted; rw [g2]
  refine wpAnyIn_take (v := v2) rfl ho2 hs hf2 hr2 (fun c a w ⟨st', hq, _⟩ => absurd hq (np c st')) ⟨.inl ⟨w2, fun w => by simp only [execOp, p2, q2, q3, hhv, Option.map_some, Option.map_none, Sem.run_bind, r2, Result.andThen_ok, Sem.run_pure]⟩, fun w => by unfold Oper.about; rw [p2]⟩ ?_
  rw [e2]
  refine wpAnyIn_all hr3 (by simp) fun k hk => ?_
  simp only [List.mem_cons, List.not_mem_nil, or_false] at hk
  subst hk
  refine wpOp_of_one (Q1 := fun e a' w' => e = .normal ∧ wpAnyIn (Fc none) 0 P .any ops (fun e a' w' => ∃ st', R e st' ∧ Sim Z0 w0 st' a' w') n (((listed.setIfInBounds i1 true).setIfInBounds i2 true).setIfInBounds k true) a' w') ho3 ?_ (fun a w h => h.2) (fun e a w hne h => absurd h.1 hne)
  refine wpListIn_plain g3 fun K hK => ?_
  refine wpIn_of_run (fun c h => by rw [p3] at h; cases h) ?_
  -- the copy
  have hk1 : Nat.min h (N - l) ≤ h := Nat.min_le_left _ _
  have hk2 : Nat.min h (N - l) ≤ N - l := Nat.min_le_right _ _
  have hkp : 0 < Nat.min h (N - l) := by
    show 0 < min h (N - l)
    omega
  have hks : Nat.min h (N - l) * info.size ≤ h * info.size := Nat.mul_le_mul_right _ hk1
  have hhs : h * info.size ≤ N * info.size := Nat.mul_le_mul_right _ hh
  have hls : l * info.size + Nat.min h (N - l) * info.size ≤ N * info.size := by rw [← Nat.add_mul]; exact Nat.mul_le_mul_right _ (by omega)
  have hkp2 : 0 < Nat.min h (N - l) * info.size := Nat.mul_pos hkp hs0
  have hyl : (xs.take (h * info.size)).length = h * info.size := by rw [List.length_take, hcl]; omega
  have hsrc : xs.take (h * info.size) ≠ [] → ∃ ad, some (⟨g, 0, none⟩ : Addr) = some ad ∧ ∀ (q : Nat) u, (xs.take (h * info.size))[q]? = some u → w.cell? (ad.add q) = some u := fun _ => by
    refine ⟨⟨g, 0, none⟩, rfl, fun q u hq => ?_⟩
    rw [List.getElem?_take] at hq
    split at hq
    · exact hown.cells (g := g) (by rw [hv0]; rfl) _ u hq
    · cases hq
  have hzr : RelL w (Zone Z0 F w0.heap.size) μ (cs.take (Nat.min h (N - l) * info.size)) (xs.take (Nat.min h (N - l) * info.size)) := take_rel _ (hrx.keep (fun _ _ _ => rfl) (fun _ _ h => by simp at h))
  have htt : (xs.take (h * info.size)).take (Nat.min h (N - l) * info.size) = xs.take (Nat.min h (N - l) * info.size) := by rw [List.take_take, Nat.min_eq_left hks]
  obtain ⟨w', hst, hH', hbel, hk, hsz⟩ := store_obj (P := P) hH hZn (o := l * info.size) hi' hxv (g := g) (by rw [hv0]; rfl) hzr (ones_rel hH.one (fun c hc => h1 c (List.mem_of_mem_take hc)) hzr) (by simp only [AObj.cells, List.length_take]; omega) (by intro h5; have h5 := congrArg List.length h5; rw [List.length_take, List.length_nil] at h5; omega) (by simp only [AObj.flat]; exact h2)
  have hrun := run_cpy (P := P) (ty := o3.type) (c := cap - l) (cp := cap) (n := N - l) hr0 hyl hsrc (by rw [htt]; exact hst)
  rw [← hv1, ← hv2] at hrun
  have ed1 : ((a.put (some d1) v1).put (some d2) v2).eval (.tmp d1) = v1 := by
    simp [Act.put, Act.eval, hts, hd1, Ne.symm hne]
  have ed2 : ((a.put (some d1) v1).put (some d2) v2).eval (.tmp d2) = v2 := by
    simp [Act.put, Act.eval, hts, hd2]
  have er : (execOp ((a.put (some d1) v1).put (some d2) v2).eval o3).run P w = .ok (.value (goInt (Nat.min h (N - l) : Nat))) w' := by
    simp only [execOp, p3, resolve, List.map_toArray, List.map_cons, List.map_nil, ed1, ed2, Sem.run_bind, Sem.run_pure, Result.andThen_ok, invoke, builtin, hrun]
  rw [er]
  refine hK _ _ (wpListIn_nil ⟨rfl, ?_⟩)
  refine h' Z0 w0 _ w' ⟨μ, F, fun b h => ⟨(hFb b h).1, Nat.lt_of_lt_of_le (hFb b h).2 hsz⟩, hH', ?_, ?_, hbl.trans hbel⟩
  · refine put_rel (RelL.keep hk (fun _ _ h => h) (put_rel (put_rel hF (some d1) (v := .top) (by simp [Rel])) (some d2) (v := .top) (by simp [Rel]))) _ (by simp [Rel, goInt])
  · rw [put_defers', put_defers', put_defers']
    refine hdf.keep fun q y hq => ⟨?_, fun u hu => hu⟩
    rw [List.getElem?_set_ne (by rintro rfl; rw [hi'] at hq; cases hq)]
    exact hq

def cpyAt (P : Program) (m : M) : Option (Nat × Nat × Nat × Nat × List AV × Nat × List AV) :=
  match m.ks with
  | .ops _ (o1 :: _) _ :: _ => match o1.op with
    | .call c => match c.callee, c.args.toList, c.argTypes.toList with
      | .builtin .copy, [x, y], [t, t'] =>
        if decide (t' = t) && o1.guard.isNone then
          match ev m.st.fr x, ev m.st.fr y, rowB P t with
          | .ref i, .lst s0 m0 ds, some (el, s, _, _) => match m.st.hp[i]? with
            | some (.list el' s' n cs) => if el' = el ∧ s' = s ∧ s0 = s then some (i, el, s, n, cs, m0, ds) else none
            | _ => none
          | _, _, _ => none
        else none
      | _, _, _ => none
    | _ => none
  | _ => none
def cpyM (m : M) (k : Int) (i : Nat) (ob : AObj) : M :=
  match m.ks with
  | .ops all (o1 :: l) _ :: ks => ⟨.ops all l false :: ks, ⟨putF m.st.fr o1.dst (.int .i64 k), m.st.hp.set i ob⟩⟩
  | _ => m
theorem setMany_mid {α : Type} {E : α → List AV} (xs ys : List α) {s l : Nat} (hE : ∀ x, (E x).length = s) : setMany (rows E xs) (l * s) (rows E ys) = rows E (xs.take l ++ ys ++ xs.drop (l + ys.length)) := by
  rw [rows_append, rows_append, setMany, rows_take hE, rows_length hE]
  rw [← Nat.add_mul, rows_drop hE]
theorem R.cpy {α : Type} {m : M} (E : α → List AV) (xs ys : List α) (i el : Nat) {s : Nat} (h : cpyAt P m = some (i, el, s, xs.length, rows E xs, ys.length, rows E ys)) (hE : ∀ x, (E x).length = s) (hE1 : ∀ x, (E x).all AV.one = true) (hE2 : ∀ x, leafyL (E x) = true)
    (h' : Runs rd P (cpyM m ((min ys.length xs.length : Nat) : Int) i (.list el s (ys.take (min ys.length xs.length) ++ xs.drop (min ys.length xs.length)).length (rows E (ys.take (min ys.length xs.length) ++ xs.drop (min ys.length xs.length))))) Q) : Runs rd P m Q := by
  obtain ⟨ks, ⟨fr, hp⟩⟩ := m
  unfold cpyAt at h
  simp only at h
  split at h
  · rename_i all o1 rest f ks'
    split at h
    · rename_i c hp1
      obtain ⟨callee, args, tys⟩ := c
      simp only at h
      split at h
      · rename_i x y t t' ha hb
        split at h
        · rename_i hc
          simp only [Bool.and_eq_true, decide_eq_true_eq, Option.isNone_iff_eq_none] at hc
          obtain ⟨rfl, g1⟩ := hc
          split at h
          · rename_i i0 s0 m0 ds0 el0 s1 z0 b0 hx hy hr
            split at h
            · rename_i el1 s2 n1 cs1 hi
              split at h
              · rename_i he
                obtain ⟨rfl, rfl, rfl⟩ := he
                simp only [Option.some.injEq, Prod.mk.injEq] at h
                obtain ⟨rfl, rfl, rfl, rfl, rfl, rfl, rfl⟩ := h
                have ea : args = #[x, y] := Array.toList_inj.1 ha
                have et : tys = #[_, _] := Array.toList_inj.1 hb
                subst ea
                subst et
                rw [runs_iff] at h' ⊢
                simp only [cpyM, RunsK] at h' ⊢
                have hk : (ys.take (min ys.length xs.length)).length = min ys.length xs.length := by rw [List.length_take]; omega
                have hlen : (ys.take (min ys.length xs.length) ++ xs.drop (min ys.length xs.length)).length = xs.length := by rw [List.length_append, hk, List.length_drop]; omega
                have hsm := setMany_mid xs (ys.take (min ys.length xs.length)) (l := 0) hE
                rw [hk, List.take_zero, List.nil_append, Nat.zero_add, Nat.zero_mul] at hsm
                rw [hlen, ← hsm, ← rows_take hE] at h'
                intro _
                refine OpsQ.cpy g1 hp1 hx hy hr hi (fun c hc => List.all_eq_true.1 (rows_all hE1 _) c hc) ?_ ?_
                · rw [rows_take hE]
                  exact leafyL_rows hE2 _
                · exact h' headW_false
              · cases h
            · cases h
          · cases h
        · cases h
      · cases h
    · cases h
  · cases h

def cpyAt3 (P : Program) (m : M) (i1 i2 i3 : Nat) : Option (Nat × Nat × Nat × Nat × List AV × Int × Int) :=
  match m.ks with
  | .any ops listed (_ + 3) :: _ => match ops[i1]?, ops[i2]?, ops[i3]? with
    | some o1, some o2, some o3 => match o1.op, o2.op, o3.op with
      | .slice t x (some lo) none none, .slice t' y none (some hi) none, .call c => match c.callee, c.args.toList, c.argTypes.toList, o1.dst, o2.dst with
        | .builtin .copy, [.tmp d1, .tmp d2], [ta, tb], some e1, some e2 =>
          if decide (t' = t ∧ ta = t ∧ tb = t ∧ e1 = d1 ∧ e2 = d2 ∧ d1 ≠ d2 ∧ d1 < m.st.fr.length ∧ d2 < m.st.fr.length) && !(isTmp d1 y) && !(isTmp d1 hi) && o1.guard.isNone && o2.guard.isNone && o3.guard.isNone && Region.noSelect ops && Region.free .any ops listed i1 && (Region.ready .any ops listed).contains i1 && Region.free .any ops (listed.setIfInBounds i1 true) i2 && (Region.ready .any ops (listed.setIfInBounds i1 true)).contains i2 && decide (Region.ready .any ops ((listed.setIfInBounds i1 true).setIfInBounds i2 true) = [i3]) then
            match ev m.st.fr x, ev m.st.fr y, ev m.st.fr lo, ev m.st.fr hi, rowB P t with
            | .ref i, .ref i', .int _ a, .int _ b, some (el, s, _, _) => match m.st.hp[i]? with
              | some (.list el' s' n cs) => if i' = i ∧ el' = el ∧ s' = s then some (i, el, s, n, cs, a, b) else none
              | _ => none
            | _, _, _, _, _ => none
          else none
        | _, _, _, _, _ => none
      | _, _, _ => none
    | _, _, _ => none
  | _ => none
def cpyM3 (i1 i2 i3 i : Nat) (k : Int) (ob : AObj) (m : M) : M :=
  match m.ks with
  | .any ops listed n :: ks => match ops[i1]?, ops[i2]?, ops[i3]? with
    | some o1, some o2, some o3 => ⟨.any ops (((listed.setIfInBounds i1 true).setIfInBounds i2 true).setIfInBounds i3 true) (n - 3) :: ks, ⟨putF (putF (putF m.st.fr o1.dst .top) o2.dst .top) o3.dst (.int .i64 k), m.st.hp.set i ob⟩⟩
    | _, _, _ => m
  | _ => m
theorem R.cpy3 {α : Type} {m : M} {Q : Exit → St → Prop} (E : α → List AV) (xs : List α) (i1 i2 i3 i el l b : Nat) {s : Nat} (lo hi : Int) (h : cpyAt3 P m i1 i2 i3 = some (i, el, s, xs.length, rows E xs, lo, hi)) (hlo : lo = (l : Int)) (hhi : hi = (b : Int))
    (hE : ∀ x, (E x).length = s) (hE1 : ∀ x, (E x).all AV.one = true) (hE2 : ∀ x, leafyL (E x) = true) (hl : l < xs.length) (hb : b ≤ xs.length) (hb0 : 0 < b) (np : NoPanic Q)
    (h' : Runs none P (cpyM3 i1 i2 i3 i ((min b (xs.length - l) : Nat) : Int) (.list el s (xs.take l ++ xs.take (min b (xs.length - l)) ++ xs.drop (l + min b (xs.length - l))).length (rows E (xs.take l ++ xs.take (min b (xs.length - l)) ++ xs.drop (l + min b (xs.length - l))))) m) Q) : Runs none P m Q := by
  subst hhi
  subst hlo
  obtain ⟨ks, ⟨fr, hp⟩⟩ := m
  unfold cpyAt3 at h
  simp only at h
  split at h
  · rename_i ops listed n ks'
    split at h
    · rename_i o1 o2 o3 ho1 ho2 ho3
      split at h
      · rename_i t x lo0 t' y hi0 c p1 p2 p3
        obtain ⟨callee, args, tys⟩ := c
        simp only at h
        split at h
        · rename_i d1 d2 ta tb e1 e2 ha hb' he1 he2
          split at h
          · rename_i hc
            simp only [Bool.and_eq_true, decide_eq_true_eq, Option.isNone_iff_eq_none] at hc
            obtain ⟨⟨⟨⟨⟨⟨⟨⟨⟨⟨⟨⟨rfl, rfl, rfl, rfl, rfl, hne, hd1, hd2⟩, hy1⟩, hl1⟩, g1⟩, g2⟩, g3⟩, hs⟩, hf1⟩, hr1⟩, hf2⟩, hr2⟩, hr3⟩ := hc
            split at h
            · rename_i i0 i0' k1 a k2 b2 el0 s0 z0 by0 hx hy hlo hhi hr
              split at h
              · rename_i el1 s1 n1 cs1 hi1
                split at h
                · rename_i he
                  obtain ⟨rfl, rfl, rfl⟩ := he
                  simp only [Option.some.injEq, Prod.mk.injEq] at h
                  obtain ⟨rfl, rfl, rfl, rfl, rfl, rfl, rfl⟩ := h
                  have ea : args = #[.tmp e1, .tmp e2] := Array.toList_inj.1 ha
                  have et : tys = #[_, _] := Array.toList_inj.1 hb'
                  subst ea
                  subst et
                  simp only [runs_iff, cpyM3, ho1, ho2, ho3, RunsK] at h' ⊢
                  have hk : (xs.take (min b (xs.length - l))).length = min b (xs.length - l) := by rw [List.length_take]; omega
                  have hlen : (xs.take l ++ xs.take (min b (xs.length - l)) ++ xs.drop (l + min b (xs.length - l))).length = xs.length := by rw [List.length_append, List.length_append, hk, List.length_drop, List.length_take]; omega
                  have hsm := setMany_mid xs (xs.take (min b (xs.length - l))) (l := l) hE
                  rw [hk] at hsm
                  rw [hlen, ← hsm, ← rows_take hE] at h'
                  refine AnyQ.cpy (fun c st hq => np c st (runsK_panic ks' st hq)) hs ho1 ho2 ho3 g1 g2 g3 p1 p2 p3 he1 he2 hne hd1 hd2 (tmp_ne hy1) (tmp_ne hl1) hf1 hr1 hf2 hr2 hr3 hx hy hhi hlo hr hi1 hl hb hb0 (fun c hc => List.all_eq_true.1 (rows_all hE1 _) c hc) ?_ ?_
                  · rw [show Nat.min b (xs.length - l) = min b (xs.length - l) from rfl, rows_take hE]
                    exact leafyL_rows hE2 _
                  · rw [← he1, ← he2]
                    exact h'
                · cases h
              · cases h
            · cases h
          · cases h
        · cases h
      · cases h
    · cases h
  · cases h
end
end Go.Abs


/-! Repetition of a row; clusters and depths of worlds. -/
namespace Go.Proofs.Ytejaikeemahobaa
open Go.RowKit Go.Abs

def repL (n j : Nat) : List Int := List.replicate j 1 ++ List.replicate (n - j) 0
theorem repL_end {n j : Nat} (h : j = n) : repL n j = List.replicate n 1 := by
  subst h; simp [repL]
theorem rep_0 (n : Nat) : [(1 : Int)].take (min [(1 : Int)].length (List.replicate n (0 : Int)).length) ++ (List.replicate n (0 : Int)).drop (min [(1 : Int)].length (List.replicate n (0 : Int)).length) = repL n (min [(1 : Int)].length (List.replicate n (0 : Int)).length) := by
  cases n with
  | zero => simp [repL]
  | succ n => simp [repL, show min 1 (n + 1) = 1 by omega]
theorem rep_s {X : List Int} {n j : Nat} (h : X = repL n j) (hl : X.length = n) (hj : j < n) : X.take j ++ X.take (min j (X.length - j)) ++ X.drop (j + min j (X.length - j)) = repL n (j + min j (X.length - j)) := by
  have hk : min j (X.length - j) ≤ j := Nat.min_le_left _ _
  have hk2 : min j (X.length - j) ≤ n - j := by omega
  generalize min j (X.length - j) = k at hk hk2
  have t : ∀ q, q ≤ j → X.take q = List.replicate q 1 := fun q hq => by
    rw [h, repL, List.take_append_of_le_length (by simp; omega), List.take_replicate, Nat.min_eq_left hq]
  have d : X.drop (j + k) = List.replicate (n - (j + k)) 0 := by
    rw [h, repL, List.drop_append, List.drop_eq_nil_of_le (by simp), List.nil_append, List.drop_replicate, List.length_replicate]
    congr 1; omega
  rw [t j (Nat.le_refl _), t k hk, d, repL, List.replicate_append_replicate]

theorem mul64_c (n : Int) (h0 : 0 ≤ n) (h8 : n ≤ 8) : CallA Try.prog 179 [.int .u64 1, .int .u64 n] (.tup [.int .u64 0, .int .u64 n]) := by
  have hn9 : n = 0 ∨ n = 1 ∨ n = 2 ∨ n = 3 ∨ n = 4 ∨ n = 5 ∨ n = 6 ∨ n = 7 ∨ n = 8 := by omega
  refine CallA.of Try.func179 rfl (by kernel_rfl) ?_
  exact R.go 86 (R.retE (.tup [.int .u64 (IntKind.u64.wrap ((IntKind.u64.wrap ((IntKind.u64.wrap ((shr64 1 32) * (shr64 n 32))) + (shr64 (IntKind.u64.wrap ((IntKind.u64.wrap ((shr64 1 32) * (bits .and .u64 n 4294967295))) + (shr64 (IntKind.u64.wrap ((bits .and .u64 1 4294967295) * (bits .and .u64 n 4294967295))) 32))) 32))) + (shr64 (IntKind.u64.wrap ((bits .and .u64 (IntKind.u64.wrap ((IntKind.u64.wrap ((shr64 1 32) * (bits .and .u64 n 4294967295))) + (shr64 (IntKind.u64.wrap ((bits .and .u64 1 4294967295) * (bits .and .u64 n 4294967295))) 32))) 4294967295) + (IntKind.u64.wrap ((bits .and .u64 1 4294967295) * (shr64 n 32))))) 32))), .int .u64 (IntKind.u64.wrap (1 * n))]) (by kernel_rfl) (by kernel_rfl) (by first | (rcases hn9 with rfl | rfl | rfl | rfl | rfl | rfl | rfl | rfl | rfl <;> rfl) | (exfalso; omega)))

theorem mul_c (n : Int) (h0 : 0 ≤ n) (h8 : n ≤ 8) : CallA Try.prog 175 [.int .u64 1, .int .u64 n] (.tup [.int .u64 0, .int .u64 n]) := by
  refine CallA.of Try.func175 rfl (by kernel_rfl) ?_
  refine R.go 12 (R.call true (mul64_c n h0 h8) (by kernel_rfl) rfl (by kernel_rfl) ?_)
  exact R.go 13 (R.retE (.tup [.int .u64 0, .int .u64 n]) (by kernel_rfl) (by kernel_rfl) (by rfl))

theorem repeat_c (n : Int) (h0 : 0 ≤ n) (h8 : n ≤ 8) : CallA Try.prog 150 [LI [1], AI n] (ownA eI 2 1 (List.replicate n.toNat 1)) := by
  refine CallA.of Try.func150 rfl (by kernel_rfl) ?_
  refine R.go 10 (R.cond (n < 0) (by kernel_rfl) (fun c1 => ?_) (fun c1 => ?_))
  · exfalso; omega -- op ('other', 'makeInterface')
  · refine R.go 7 (R.cv .u64 n (by kernel_rfl) (u64_id (by omega) (by omega)) (by kernel_rfl) ?_)
    refine R.call true (mul_c n h0 h8) (by kernel_rfl) rfl (by kernel_rfl) ?_
    refine R.go 16 (R.cond (n > 9223372036854775807) (by kernel_rfl) (fun c2 => ?_) (fun c2 => ?_))
    · exfalso; omega -- op ('other', 'makeInterface')
    · refine R.go 4 (R.cv .i64 n (by kernel_rfl) (wrap_id (by omega) (by omega)) (by kernel_rfl) ?_)
      refine R.mk eI 0 2 8 ((n).toNat) n (by kernel_rfl) (by omega) (by decide) (by omega) (by kernel_rfl) ?_
      refine R.go 6 (R.cpy eI (List.replicate ((n).toNat) 0) [1] 0 2 (by kernel_rfl) (fun _ => rfl) (fun _ => rfl) (fun _ => rfl) ?_)
      refine R.go 4 (R.loop ((fun | (j, X) => (⟨(frm 48 [(7, .ref 0), (8, AI (j : Int))]), [rowA eI 2 1 X]⟩ : St) : Nat × (List Int) → St)) (fun | (j, X) => (X = repL n.toNat j) ∧ (n.toNat = 0 ∨ 1 ≤ j) ∧ (j ≤ n.toNat) ∧ (X.length = n.toNat)) (fun | (j, X) => n.toNat - j) ((min ([1] : List Int).length (List.replicate ((n).toNat) 0 : List Int).length), ([1].take (min ([1] : List Int).length (List.replicate ((n).toNat) 0 : List Int).length) ++ (List.replicate ((n).toNat) 0).drop (min ([1] : List Int).length (List.replicate ((n).toNat) 0 : List Int).length))) [7, 8] none (by kernel_rfl) (by kernel_rfl) (by kernel_rfl) ⟨(by exact rep_0 _), (by (simp <;> omega)), (by (simp <;> omega)), (by (simp <;> omega))⟩ ?_)
      rintro ⟨j, X⟩ ⟨h6_1, h6_2, h6_3, h6_4⟩ R3 N4
      refine R.go 8 (R.cond ((j : Int) < (X.length : Int)) (by kernel_rfl) (fun c7 => ?_) (fun c7 => ?_))
      · refine R.go 2 (R.any (by decide +kernel) (by kernel_rfl) ?_)
        refine R.anyF 0 (by kernel_rfl) (np_ret _ _ _) ?_
        refine R.anyF 1 (by kernel_rfl) (np_ret _ _ _) ?_
        refine R.anyF 2 (by kernel_rfl) (np_ret _ _ _) ?_
        refine R.anyF 4 (by kernel_rfl) (np_ret _ _ _) ?_
        refine R.anyF 5 (by kernel_rfl) (np_ret _ _ _) ?_
        refine R.cpy3 eI X 3 6 7 0 2 j j (j : Int) (j : Int) (by kernel_rfl) (by omega) (by omega) (fun _ => rfl) (fun _ => rfl) (fun _ => rfl) (by omega) (by omega) (by omega) (np_ret _ _ _) ?_
        refine R.any1 8 (by kernel_rfl) (by kernel_rfl) ?_
        refine R.ar ((j : Int) + ((min j (X.length - j) : Nat) : Int)) (by kernel_rfl) (by omega) (by omega) (by kernel_rfl) ?_
        refine R.go 1 (R.any1 9 (by kernel_rfl) (by kernel_rfl) ?_)
        refine R.go 2 (R.any0 (by kernel_rfl) ?_)
        exact R.go 1 (R.stop R3 (by kernel_rfl) (N4 (j + (min j (X.length - j)), X.take j ++ X.take (min j (X.length - j)) ++ X.drop (j + min j (X.length - j))) [7, 8] none _ (by kernel_rfl) (by kernel_rfl) ⟨(by exact rep_s (by assumption) (by assumption) (by omega)), (by omega), (by omega), (by (simp <;> omega))⟩ (by show (n.toNat - (j + (min j (X.length - j)))) < (n.toNat - j); omega)))
      · exact R.go 6 (R.retE (ownA eI 2 1 X) (by kernel_rfl) (by kernel_rfl) (by first | (rw [‹X = repL n.toNat j›, repL_end (show j = n.toNat by omega)]) | (exfalso; omega)))

end Go.Proofs.Ytejaikeemahobaa


/-! Clusters and depths of worlds, of both packages. -/
namespace Go.Proofs.Ytejaikeemahobaa
open Go.RowKit Go.Abs

def mutB (ys : List Int) (i j : Nat) : Bool := decide (band (shr64 (ys.getD i 0) (j : Int)) 1 = 1) && decide (band (shr64 (ys.getD j 0) (i : Int)) 1 = 1)
theorem mutB_yes {ys : List Int} {i j : Nat} (h1 : band (shr64 (ys.getD i 0) (j : Int)) 1 = 1) (h2 : band (shr64 (ys.getD j 0) (i : Int)) 1 = 1) : mutB ys i j = true := by rw [mutB, decide_eq_true h1, decide_eq_true h2]; rfl
theorem mutB_no1 {ys : List Int} {i j : Nat} (h1 : ¬ band (shr64 (ys.getD i 0) (j : Int)) 1 = 1) : mutB ys i j = false := by rw [mutB, decide_eq_false h1]; rfl
theorem mutB_no2 {ys : List Int} {i j : Nat} (h1 : ¬ band (shr64 (ys.getD j 0) (i : Int)) 1 = 1) : mutB ys i j = false := by rw [mutB, decide_eq_false h1, Bool.and_false]
/-- The number of the first cluster below j that i belongs to, or -1. -/
def clW (ys : List Int) (i : Nat) (L : List Int) : Nat → Int
  | 0 => -1
  | j + 1 => if clW ys i L j < 0 ∧ mutB ys i j = true then L.getD j 0 else clW ys i L j
def clS (ys : List Int) : Nat → List Int × Int
  | 0 => ([], 0)
  | i + 1 => ((clS ys i).1 ++ [if clW ys i (clS ys i).1 i < 0 then (clS ys i).2 else clW ys i (clS ys i).1 i], if clW ys i (clS ys i).1 i < 0 then (clS ys i).2 + 1 else (clS ys i).2)
theorem clS_len (ys : List Int) : ∀ i, (clS ys i).1.length = i
  | 0 => rfl
  | i + 1 => by simp [clS, clS_len ys i]
theorem clW_none {ys : List Int} {i : Nat} {L : List Int} : ∀ {j : Nat}, (∀ v, v < j → mutB ys i v = false) → clW ys i L j = -1
  | 0, _ => rfl
  | j + 1, h => by rw [clW, if_neg (by rw [h j (by omega)]; simp), clW_none fun v hv => h v (by omega)]
theorem clW_hit {ys : List Int} {i j : Nat} {L : List Int} (h : ∀ v, v < j → mutB ys i v = false) (hj : mutB ys i j = true) (h0 : 0 ≤ L.getD j 0) : ∀ d, clW ys i L (j + 1 + d) = L.getD j 0
  | 0 => by rw [Nat.add_zero, clW, if_pos ⟨by rw [clW_none h]; decide, hj⟩]
  | d + 1 => by rw [← Nat.add_assoc, clW, if_neg (by rw [clW_hit h hj h0 d]; omega), clW_hit h hj h0 d]
theorem clS_nn (ys : List Int) : ∀ i, (∀ v, 0 ≤ (clS ys i).1.getD v 0) ∧ 0 ≤ (clS ys i).2 ∧ (clS ys i).2 ≤ i
  | 0 => by simp [clS]
  | i + 1 => by
    obtain ⟨h1, h2, h3⟩ := clS_nn ys i
    refine ⟨fun v => ?_, ?_, ?_⟩
    · simp only [clS]
      rw [List.getD_eq_getElem?_getD, List.getElem?_append]
      split
      · have := h1 v
        rwa [List.getD_eq_getElem?_getD] at this
      · generalize v - _ = q
        cases q with
        | zero =>
          simp only [List.getElem?_cons_zero, Option.getD_some]
          split <;> omega
        | succ q => simp
    · simp only [clS]; split <;> omega
    · simp only [clS]; split <;> omega
theorem getD_take {X L : List Int} {i j : Nat} (h : X.take i = L) (hj : j < i) : X.getD j 0 = L.getD j 0 := by
  rw [← h, List.getD_eq_getElem?_getD, List.getD_eq_getElem?_getD, List.getElem?_take, if_pos hj]
theorem getDs_eq {X : List Int} {i : Nat} {a : Int} (h : i < X.length) : (X.set i a).getD i 0 = a := by
  rw [List.getD_eq_getElem?_getD, List.getElem?_set_self h]; rfl
theorem getDs_ne {X : List Int} {i j : Nat} {a : Int} (h : ¬ j = i) : (X.set i a).getD j 0 = X.getD j 0 := by
  rw [List.getD_eq_getElem?_getD, List.getElem?_set_ne (Ne.symm h), ← List.getD_eq_getElem?_getD]
theorem take_set_succ {X : List Int} {i : Nat} {a b : Int} (h : i < X.length) : ((X.set i a).set i b).take (i + 1) = X.take i ++ [b] := by
  rw [List.set_set, List.take_succ_eq_append_getElem (by simpa using h)]
  simp only [List.getElem_set_self]
  congr 1
  apply List.ext_getElem?
  intro q
  rw [List.getElem?_take, List.getElem?_take]
  split
  · rw [List.getElem?_set_ne (by omega)]
  · rfl
theorem clA_g {ys X : List Int} {i j : Nat} (ht : X.take i = (clS ys i).1) (hi : i < X.length) (hj : j < i) : 0 ≤ ((X.set i (-1)).set i ((X.set i (-1)).getD j 0)).getD i 0 := by
  rw [getDs_eq (by simpa using hi), getDs_ne (by omega), getD_take ht hj]
  exact (clS_nn ys i).1 j
theorem clB_g {X : List Int} {i : Nat} (hi : i < X.length) : (X.set i (-1)).getD i 0 = -1 := getDs_eq hi
theorem clA_o {ys X : List Int} {i j : Nat} (ht : X.take i = (clS ys i).1) (hj : j < i) (hn : ∀ v, v < j → mutB ys i v = false) (hm : mutB ys i j = true) : clW ys i (clS ys i).1 i = (clS ys i).1.getD j 0 := by
  have := clW_hit hn hm ((clS_nn ys i).1 j) (i - (j + 1))
  rwa [show j + 1 + (i - (j + 1)) = i by omega] at this
theorem clA_t {ys X : List Int} {i j : Nat} (ht : X.take i = (clS ys i).1) (hi : i < X.length) (hj : j < i) (hn : ∀ v, v < j → mutB ys i v = false) (hm : mutB ys i j = true) : ((X.set i (-1)).set i ((X.set i (-1)).getD j 0)).take (i + 1) = (clS ys (i + 1)).1 := by
  have h0 := (clS_nn ys i).1 j
  rw [take_set_succ hi, ht, getDs_ne (by omega), getD_take ht hj]
  simp only [clS]
  rw [clA_o ht hj hn hm, if_neg (by omega)]
theorem clA_c {ys X : List Int} {i j : Nat} {k : Int} (ht : X.take i = (clS ys i).1) (hk : k = (clS ys i).2) (hj : j < i) (hn : ∀ v, v < j → mutB ys i v = false) (hm : mutB ys i j = true) : k = (clS ys (i + 1)).2 := by
  have h0 := (clS_nn ys i).1 j
  rw [hk]
  simp only [clS]
  rw [clA_o ht hj hn hm, if_neg (by omega)]
theorem clB_t {ys X : List Int} {i j : Nat} {k : Int} (ht : X.take i = (clS ys i).1) (hk : k = (clS ys i).2) (hi : i < X.length) (hj : j = i) (hn : ∀ v, v < j → mutB ys i v = false) : ((X.set i (-1)).set i k).take (i + 1) = (clS ys (i + 1)).1 := by
  subst hj
  rw [take_set_succ hi, ht, hk]
  simp only [clS]
  rw [clW_none hn, if_pos (by decide)]
theorem clB_c {ys : List Int} {i j : Nat} {k : Int} (hk : k = (clS ys i).2) (hj : j = i) (hn : ∀ v, v < j → mutB ys i v = false) : k + 1 = (clS ys (i + 1)).2 := by
  subst hj
  rw [hk]
  simp only [clS]
  rw [clW_none hn, if_pos (by decide)]
theorem below_m {ys : List Int} {i j : Nat} (hn : ∀ v, v < j → mutB ys i v = false) (hj : mutB ys i j = false) : ∀ v, v < j + 1 → mutB ys i v = false := fun v hv => by
  by_cases e : v = j
  · rw [e]; exact hj
  · exact hn v (by omega)
theorem cl_end {ys X : List Int} {i n : Nat} (ht : X.take i = (clS ys i).1) (hi : i = n) (hl : X.length = n) : X = (clS ys n).1 := by
  subst hi
  rw [← ht, ← hl, List.take_length]
theorem clA_s {ys X : List Int} {i j : Nat} {o : Int} (ho : o = clW ys i X j) (h : o < 0) (hm : mutB ys i j = true) : X.getD j 0 = clW ys i X (j + 1) := by rw [clW, ← ho, if_pos ⟨h, hm⟩]
theorem clB_s {ys X : List Int} {i j : Nat} {o : Int} (ho : o = clW ys i X j) (h : ¬ o < 0 ∨ mutB ys i j = false) : o = clW ys i X (j + 1) := by
  rw [clW, ← ho, if_neg]
  rintro ⟨h1, h2⟩
  rcases h with h | h
  · exact h h1
  · rw [h] at h2; cases h2
theorem clC_t {ys X : List Int} {i j : Nat} {k o : Int} (ht : X = (clS ys i).1) (hk : k = (clS ys i).2) (hj : j = i) (ho : o = clW ys i X j) (h : o < 0) : X ++ [k] = (clS ys (i + 1)).1 ∧ k + 1 = (clS ys (i + 1)).2 := by
  subst hj ht hk ho
  simp only [clS]
  rw [if_pos h, if_pos h]
  exact ⟨rfl, rfl⟩
theorem clD_t {ys X : List Int} {i j : Nat} {k o : Int} (ht : X = (clS ys i).1) (hk : k = (clS ys i).2) (hj : j = i) (ho : o = clW ys i X j) (h : ¬ o < 0) : X ++ [o] = (clS ys (i + 1)).1 ∧ k = (clS ys (i + 1)).2 := by
  subst hj ht hk ho
  simp only [clS]
  rw [if_neg h, if_neg h]
  exact ⟨rfl, rfl⟩

theorem clusters_c (n : Int) (xs : List Int) (hP : okFr n xs = true) : CallA Try.prog 86 [.agg [AI n, LI xs]] (ownA eI 2 1 ((clS (clo xs) n.toNat).1)) := by
  have hF := okFr_rel hP
  have hR : RelOK n.toNat xs := hF.2.2.2
  have h0 : 0 ≤ n ∧ n ≤ 8 ∧ (xs.length : Int) = n := ⟨hF.1, hF.2.1, hF.2.2.1⟩
  have hcl := clo_len xs
  refine CallA.of Try.func86 rfl (by kernel_rfl) ?_
  refine R.go 8 (R.call true (reachable_c n xs (by first | omega | (simp <;> omega))) (by kernel_rfl) rfl (by kernel_rfl) ?_)
  refine R.go 6 (R.mk eI 0 2 8 ((n).toNat) n (by kernel_rfl) (by omega) (by decide) (by omega) (by kernel_rfl) ?_)
  refine R.go 14 (R.loop ((fun | (i, X, k) => (⟨(frm 60 [(3, .ref 0), (4, .ref 1), (5, AI k), (14, AI n), (15, AI (i : Int))]), [rowA eI 2 1 (clo xs), rowA eI 2 1 X]⟩ : St) : Nat × (List Int) × Int → St)) (fun | (i, X, k) => (i ≤ n.toNat) ∧ (X.length = n.toNat) ∧ (X.take i = (clS (clo xs) i).1) ∧ (k = (clS (clo xs) i).2)) (fun | (i, X, k) => n.toNat - i) (0, (List.replicate ((n).toNat) 0), 0) [3, 4, 5, 14, 15] (some [1, 2]) (by kernel_rfl) (by kernel_rfl) (by kernel_rfl) ⟨(by omega), (by (simp <;> omega)), (by simp [clS]), (by rfl)⟩ ?_)
  rintro ⟨i, X, k⟩ ⟨h4_1, h4_2, h4_3, h4_4⟩ R1 N2
  have hk0 := (clS_nn (clo xs) i).2
  refine R.go 5 (R.cond ((i : Int) < n) (by kernel_rfl) (fun c5 => ?_) (fun c5 => ?_))
  · refine R.go 12 (R.idxO 1 1 X.length i (i : Int) (by kernel_rfl) rfl (by omega) (by kernel_rfl) ?_)
    refine R.stI 1 2 X i (-1) (by kernel_rfl) (by omega) (by kernel_rfl) ?_
    refine R.go 8 (R.loop (fun (j : Nat) => (⟨(frm 60 [(3, .ref 0), (4, .ref 1), (5, AI k), (6, AI (i : Int)), (14, AI n), (15, AI (i : Int)), (21, AI (i : Int)), (22, AI (j : Int))]), [rowA eI 2 1 (clo xs), rowA eI 2 1 (X.set i (-1))]⟩ : St)) (fun (j : Nat) => (j ≤ i) ∧ (∀ v, v < j → mutB (clo xs) i v = false)) (fun (j : Nat) => i - j) 0 [3, 4, 5, 6, 14, 15, 21, 22] none (by kernel_rfl) (by kernel_rfl) (by kernel_rfl) ⟨(by omega), (by intro v hv; omega)⟩ ?_)
    rintro j ⟨h8_1, h8_2⟩ R6 N7
    have hyn := mutB_yes (ys := clo xs) (i := i) (j := j)
    have hno1 := mutB_no1 (ys := clo xs) (i := i) (j := j)
    have hno2 := mutB_no2 (ys := clo xs) (i := i) (j := j)
    refine R.go 5 (R.cond ((j : Int) < (i : Int)) (by kernel_rfl) (fun c9 => ?_) (fun c9 => ?_))
    · refine R.go 12 (R.idxO 0 1 (clo xs).length i (i : Int) (by kernel_rfl) rfl (by omega) (by kernel_rfl) ?_)
      refine R.ldI (clo xs) i (by kernel_rfl) (by omega) (by kernel_rfl) ?_
      refine R.go 1 (R.call true (has_c ((clo xs).getD i 0) (j : Int) (by omega)) (by kernel_rfl) rfl (by kernel_rfl) ?_)
      refine R.go 1 ?_
      by_cases c10 : band (shr64 ((clo xs).getD i 0) (j : Int)) 1 = 1
      · refine R.want (decide (band (shr64 ((clo xs).getD i 0) (j : Int)) 1 = 1)) true (by kernel_rfl) (dT c10) ?_
        refine R.go 1 (R.want (decide (band (shr64 ((clo xs).getD i 0) (j : Int)) 1 = 1)) true (by kernel_rfl) (dT c10) ?_)
        refine R.go 1 (R.want (decide (band (shr64 ((clo xs).getD i 0) (j : Int)) 1 = 1)) true (by kernel_rfl) (dT c10) ?_)
        refine R.idxO 0 1 (clo xs).length j (j : Int) (by kernel_rfl) rfl (by omega) (by kernel_rfl) ?_
        refine R.want (decide (band (shr64 ((clo xs).getD i 0) (j : Int)) 1 = 1)) true (by kernel_rfl) (dT c10) ?_
        refine R.ldI (clo xs) j (by kernel_rfl) (by omega) (by kernel_rfl) ?_
        refine R.want (decide (band (shr64 ((clo xs).getD i 0) (j : Int)) 1 = 1)) true (by kernel_rfl) (dT c10) ?_
        refine R.go 1 (R.want (decide (band (shr64 ((clo xs).getD i 0) (j : Int)) 1 = 1)) true (by kernel_rfl) (dT c10) ?_)
        refine R.call true (has_c ((clo xs).getD j 0) (i : Int) (by omega)) (by kernel_rfl) rfl (by kernel_rfl) ?_
        refine R.pick (decide (band (shr64 ((clo xs).getD i 0) (j : Int)) 1 = 1)) true (by kernel_rfl) (dT c10) (by kernel_rfl) ?_
        refine R.go 1 (R.cond (band (shr64 ((clo xs).getD j 0) (i : Int)) 1 = 1) (by kernel_rfl) (fun c11 => ?_) (fun c11 => ?_))
        · refine R.go 6 (R.idxO 1 1 (X.set i (-1)).length j (j : Int) (by kernel_rfl) rfl (by first | omega | (simp <;> omega)) (by kernel_rfl) ?_)
          refine R.ldI (X.set i (-1)) j (by kernel_rfl) (by first | omega | (simp <;> omega)) (by kernel_rfl) ?_
          refine R.idxO 1 1 (X.set i (-1)).length i (i : Int) (by kernel_rfl) rfl (by first | omega | (simp <;> omega)) (by kernel_rfl) ?_
          refine R.stI 1 2 (X.set i (-1)) i ((X.set i (-1)).getD j 0) (by kernel_rfl) (by first | omega | (simp <;> omega)) (by kernel_rfl) ?_
          first | (have hg := clA_g (j := j) ‹X.take i = (clS (clo xs) i).1› (by omega) (by omega)) | skip
          have hg2 := clB_g (X := X) (i := i) (by omega)
          refine R.go 6 (R.idxO 1 1 ((X.set i (-1)).set i ((X.set i (-1)).getD j 0)).length i (i : Int) (by kernel_rfl) rfl (by first | omega | (simp <;> omega)) (by kernel_rfl) ?_)
          refine R.ldI ((X.set i (-1)).set i ((X.set i (-1)).getD j 0)) i (by kernel_rfl) (by first | omega | (simp <;> omega)) (by kernel_rfl) ?_
          refine R.go 2 (R.cond ((((X.set i (-1)).set i ((X.set i (-1)).getD j 0)).getD i 0) < 0) (by kernel_rfl) (fun c12 => ?_) (fun c12 => ?_))
          · refine R.go 5 (R.idxO 1 1 ((X.set i (-1)).set i ((X.set i (-1)).getD j 0)).length i (i : Int) (by kernel_rfl) rfl (by first | omega | (simp <;> omega)) (by kernel_rfl) ?_)
            refine R.stI 1 2 ((X.set i (-1)).set i ((X.set i (-1)).getD j 0)) i k (by kernel_rfl) (by first | omega | (simp <;> omega)) (by kernel_rfl) ?_
            refine R.go 3 (R.ar (k + 1) (by kernel_rfl) (by omega) (by omega) (by kernel_rfl) ?_)
            refine R.go 4 (R.ar ((i : Int) + 1) (by kernel_rfl) (by omega) (by omega) (by kernel_rfl) ?_)
            exact R.go 2 (R.stop R1 (by kernel_rfl) (N2 (i + 1, ((X.set i (-1)).set i ((X.set i (-1)).getD j 0)).set i k, k + 1) [3, 4, 5, 14, 15] none _ (by kernel_rfl) (by kernel_rfl) ⟨(by omega), (by (simp <;> omega)), (by first | exact clA_t ‹X.take i = (clS (clo xs) i).1› (by omega) (by omega) (by assumption) (hyn (by assumption) (by assumption)) | exact clB_t ‹X.take i = (clS (clo xs) i).1› (by assumption) (by omega) (show j = i by omega) (by assumption) | (exfalso; omega)), (by first | exact clA_c ‹X.take i = (clS (clo xs) i).1› (by assumption) (by omega) (by assumption) (hyn (by assumption) (by assumption)) | exact clB_c (by assumption) (show j = i by omega) (by assumption) | (exfalso; omega))⟩ (by show (n.toNat - (i + 1)) < (n.toNat - i); omega)))
          · refine R.go 3 (R.ar ((i : Int) + 1) (by kernel_rfl) (by omega) (by omega) (by kernel_rfl) ?_)
            exact R.go 2 (R.stop R1 (by kernel_rfl) (N2 (i + 1, (X.set i (-1)).set i ((X.set i (-1)).getD j 0), k) [3, 4, 5, 14, 15] none _ (by kernel_rfl) (by kernel_rfl) ⟨(by omega), (by (simp <;> omega)), (by first | exact clA_t ‹X.take i = (clS (clo xs) i).1› (by omega) (by omega) (by assumption) (hyn (by assumption) (by assumption)) | exact clB_t ‹X.take i = (clS (clo xs) i).1› (by assumption) (by omega) (show j = i by omega) (by assumption) | (exfalso; omega)), (by first | exact clA_c ‹X.take i = (clS (clo xs) i).1› (by assumption) (by omega) (by assumption) (hyn (by assumption) (by assumption)) | exact clB_c (by assumption) (show j = i by omega) (by assumption) | (exfalso; omega))⟩ (by show (n.toNat - (i + 1)) < (n.toNat - i); omega)))
        · refine R.go 3 (R.ar ((j : Int) + 1) (by kernel_rfl) (by omega) (by omega) (by kernel_rfl) ?_)
          exact R.go 2 (R.stop R6 (by kernel_rfl) (N7 (j + 1) [3, 4, 5, 6, 14, 15, 21, 22] none _ (by kernel_rfl) (by kernel_rfl) ⟨(by omega), (by first | exact below_m (by assumption) (hno1 (by assumption)) | exact below_m (by assumption) (hno2 (by assumption)))⟩ (by show (i - (j + 1)) < (i - j); omega)))
      · refine R.skp (decide (band (shr64 ((clo xs).getD i 0) (j : Int)) 1 = 1)) true (by kernel_rfl) (dF c10) (by kernel_rfl) ?_
        refine R.skp (decide (band (shr64 ((clo xs).getD i 0) (j : Int)) 1 = 1)) true (by kernel_rfl) (dF c10) (by kernel_rfl) ?_
        refine R.skp (decide (band (shr64 ((clo xs).getD i 0) (j : Int)) 1 = 1)) true (by kernel_rfl) (dF c10) (by kernel_rfl) ?_
        refine R.skp (decide (band (shr64 ((clo xs).getD i 0) (j : Int)) 1 = 1)) true (by kernel_rfl) (dF c10) (by kernel_rfl) ?_
        refine R.skp (decide (band (shr64 ((clo xs).getD i 0) (j : Int)) 1 = 1)) true (by kernel_rfl) (dF c10) (by kernel_rfl) ?_
        refine R.skp (decide (band (shr64 ((clo xs).getD i 0) (j : Int)) 1 = 1)) true (by kernel_rfl) (dF c10) (by kernel_rfl) ?_
        refine R.pick (decide (band (shr64 ((clo xs).getD i 0) (j : Int)) 1 = 1)) false (by kernel_rfl) (dF c10) (by kernel_rfl) ?_
        refine R.go 5 (R.ar ((j : Int) + 1) (by kernel_rfl) (by omega) (by omega) (by kernel_rfl) ?_)
        exact R.go 2 (R.stop R6 (by kernel_rfl) (N7 (j + 1) [3, 4, 5, 6, 14, 15, 21, 22] none _ (by kernel_rfl) (by kernel_rfl) ⟨(by omega), (by first | exact below_m (by assumption) (hno1 (by assumption)) | exact below_m (by assumption) (hno2 (by assumption)))⟩ (by show (i - (j + 1)) < (i - j); omega)))
    · first | (have hg := clA_g (j := j) ‹X.take i = (clS (clo xs) i).1› (by omega) (by omega)) | skip
      have hg2 := clB_g (X := X) (i := i) (by omega)
      refine R.go 5 (R.idxO 1 1 (X.set i (-1)).length i (i : Int) (by kernel_rfl) rfl (by first | omega | (simp <;> omega)) (by kernel_rfl) ?_)
      refine R.ldI (X.set i (-1)) i (by kernel_rfl) (by first | omega | (simp <;> omega)) (by kernel_rfl) ?_
      refine R.go 2 (R.cond (((X.set i (-1)).getD i 0) < 0) (by kernel_rfl) (fun c13 => ?_) (fun c13 => ?_))
      · refine R.go 5 (R.idxO 1 1 (X.set i (-1)).length i (i : Int) (by kernel_rfl) rfl (by first | omega | (simp <;> omega)) (by kernel_rfl) ?_)
        refine R.stI 1 2 (X.set i (-1)) i k (by kernel_rfl) (by first | omega | (simp <;> omega)) (by kernel_rfl) ?_
        refine R.go 3 (R.ar (k + 1) (by kernel_rfl) (by omega) (by omega) (by kernel_rfl) ?_)
        refine R.go 4 (R.ar ((i : Int) + 1) (by kernel_rfl) (by omega) (by omega) (by kernel_rfl) ?_)
        exact R.go 2 (R.stop R1 (by kernel_rfl) (N2 (i + 1, (X.set i (-1)).set i k, k + 1) [3, 4, 5, 14, 15] none _ (by kernel_rfl) (by kernel_rfl) ⟨(by omega), (by (simp <;> omega)), (by first | exact clA_t ‹X.take i = (clS (clo xs) i).1› (by omega) (by omega) (by assumption) (hyn (by assumption) (by assumption)) | exact clB_t ‹X.take i = (clS (clo xs) i).1› (by assumption) (by omega) (show j = i by omega) (by assumption) | (exfalso; omega)), (by first | exact clA_c ‹X.take i = (clS (clo xs) i).1› (by assumption) (by omega) (by assumption) (hyn (by assumption) (by assumption)) | exact clB_c (by assumption) (show j = i by omega) (by assumption) | (exfalso; omega))⟩ (by show (n.toNat - (i + 1)) < (n.toNat - i); omega)))
      · refine R.go 3 (R.ar ((i : Int) + 1) (by kernel_rfl) (by omega) (by omega) (by kernel_rfl) ?_)
        exact R.go 2 (R.stop R1 (by kernel_rfl) (N2 (i + 1, X.set i (-1), k) [3, 4, 5, 14, 15] none _ (by kernel_rfl) (by kernel_rfl) ⟨(by omega), (by (simp <;> omega)), (by first | exact clA_t ‹X.take i = (clS (clo xs) i).1› (by omega) (by omega) (by assumption) (hyn (by assumption) (by assumption)) | exact clB_t ‹X.take i = (clS (clo xs) i).1› (by assumption) (by omega) (show j = i by omega) (by assumption) | (exfalso; omega)), (by first | exact clA_c ‹X.take i = (clS (clo xs) i).1› (by assumption) (by omega) (by assumption) (hyn (by assumption) (by assumption)) | exact clB_c (by assumption) (show j = i by omega) (by assumption) | (exfalso; omega))⟩ (by show (n.toNat - (i + 1)) < (n.toNat - i); omega)))
  · exact R.go 6 (R.retE (ownA eI 2 1 X) (by kernel_rfl) (by kernel_rfl) (by first | (rw [cl_end ‹X.take i = (clS (clo xs) i).1› (show i = n.toNat by omega) (by assumption)]) | (exfalso; omega)))

theorem reach1_c (n : Int) (xs : List Int) (p : Nat) (hr : RelOK n.toNat xs) (h8 : n ≤ 8) (hp : (p : Int) < n) : CallA Try.prog 149 [.agg [AI n, LI xs], AI (shl64 1 (p : Int))] (AI ((clo xs).getD p 0)) := l05Reach_c n xs _ _ hr h8 (inM_one (by omega) (by omega)) (isClos_one (by omega) hr (by omega))

theorem l05Cl_c (n : Int) (xs : List Int) (hP : okFr n xs = true) : CallA Try.prog 88 [.agg [AI n, LI xs]] (ownA eI 2 1 ((clS (clo xs) n.toNat).1)) := by
  have hF := okFr_rel hP
  have hR : RelOK n.toNat xs := hF.2.2.2
  have h0 : 0 ≤ n ∧ n ≤ 8 ∧ (xs.length : Int) = n := ⟨hF.1, hF.2.1, hF.2.2.1⟩
  have hcl := clo_len xs
  refine CallA.of Try.func88 rfl (by kernel_rfl) ?_
  refine R.go 17 (R.loop ((fun | (i, X, k) => (⟨(frm 52 [(1, .ptr 0 0), (3, .ref 1), (4, AI k), (5, AI (i : Int))]), [.box 26 [AI n, LI xs], rowA eI 2 1 X]⟩ : St) : Nat × (List Int) × Int → St)) (fun | (i, X, k) => (i ≤ n.toNat) ∧ (X.length = i) ∧ (X = (clS (clo xs) i).1) ∧ (k = (clS (clo xs) i).2)) (fun | (i, X, k) => n.toNat - i) (0, [], 0) [1, 3, 4, 5] none (by kernel_rfl) (by kernel_rfl) (by kernel_rfl) ⟨(by omega), (by rfl), (by rfl), (by rfl)⟩ ?_)
  rintro ⟨i, X, k⟩ ⟨h4_1, h4_2, h4_3, h4_4⟩ R1 N2
  have hk0 := (clS_nn (clo xs) i).2
  refine R.go 8 (R.cond ((i : Int) < n) (by kernel_rfl) (fun c5 => ?_) (fun c5 => ?_))
  · refine R.go 13 (R.loop ((fun | (j, o) => (⟨(frm 52 [(1, .ptr 0 0), (3, .ref 1), (4, AI k), (5, AI (i : Int)), (6, AI o), (7, AI (j : Int))]), [.box 26 [AI n, LI xs], rowA eI 2 1 X]⟩ : St) : Nat × Int → St)) (fun | (j, o) => (j ≤ i) ∧ (o = clW (clo xs) i X j)) (fun | (j, o) => i - j) (0, (-1)) [1, 3, 4, 5, 6, 7] none (by kernel_rfl) (by kernel_rfl) (by kernel_rfl) ⟨(by omega), (by rfl)⟩ ?_)
    rintro ⟨j, o⟩ ⟨h9_1, h9_2⟩ R6 N7
    have hyn := mutB_yes (ys := clo xs) (i := i) (j := j)
    have hno1 := mutB_no1 (ys := clo xs) (i := i) (j := j)
    have hno2 := mutB_no2 (ys := clo xs) (i := i) (j := j)
    refine R.go 7 (R.cond ((j : Int) < (i : Int)) (by kernel_rfl) (fun c10 => ?_) (fun c10 => ?_))
    · refine R.go 8 ?_
      by_cases c11 : o < 0
      · refine R.want (decide (o < 0)) true (by kernel_rfl) (dT c11) ?_
        refine R.go 1 (R.want (decide (o < 0)) true (by kernel_rfl) (dT c11) ?_)
        refine R.go 1 (R.want (decide (o < 0)) true (by kernel_rfl) (dT c11) ?_)
        refine R.call true (l01One_c (i : Int) (by omega) (by omega)) (by kernel_rfl) rfl (by kernel_rfl) ?_
        refine R.want (decide (o < 0)) true (by kernel_rfl) (dT c11) ?_
        refine R.call true (reach1_c n xs i hR (by omega) c5) (by kernel_rfl) rfl (by kernel_rfl) ?_
        refine R.want (decide (o < 0)) true (by kernel_rfl) (dT c11) ?_
        refine R.go 1 (R.want (decide (o < 0)) true (by kernel_rfl) (dT c11) ?_)
        refine R.call true (l01Bit_c ((clo xs).getD i 0) (j : Int) (by omega) (by omega)) (by kernel_rfl) rfl (by kernel_rfl) ?_
        refine R.pick (decide (o < 0)) true (by kernel_rfl) (dT c11) (by kernel_rfl) ?_
        refine R.go 1 ?_
        by_cases c12 : band (shr64 ((clo xs).getD i 0) (j : Int)) 1 = 1
        · refine R.want (decide (band (shr64 ((clo xs).getD i 0) (j : Int)) 1 = 1)) true (by kernel_rfl) (dT c12) ?_
          refine R.go 1 (R.want (decide (band (shr64 ((clo xs).getD i 0) (j : Int)) 1 = 1)) true (by kernel_rfl) (dT c12) ?_)
          refine R.go 1 (R.want (decide (band (shr64 ((clo xs).getD i 0) (j : Int)) 1 = 1)) true (by kernel_rfl) (dT c12) ?_)
          refine R.call true (l01One_c (j : Int) (by omega) (by omega)) (by kernel_rfl) rfl (by kernel_rfl) ?_
          refine R.want (decide (band (shr64 ((clo xs).getD i 0) (j : Int)) 1 = 1)) true (by kernel_rfl) (dT c12) ?_
          refine R.call true (reach1_c n xs j hR (by omega) (by omega)) (by kernel_rfl) rfl (by kernel_rfl) ?_
          refine R.want (decide (band (shr64 ((clo xs).getD i 0) (j : Int)) 1 = 1)) true (by kernel_rfl) (dT c12) ?_
          refine R.go 1 (R.want (decide (band (shr64 ((clo xs).getD i 0) (j : Int)) 1 = 1)) true (by kernel_rfl) (dT c12) ?_)
          refine R.call true (l01Bit_c ((clo xs).getD j 0) (i : Int) (by omega) (by omega)) (by kernel_rfl) rfl (by kernel_rfl) ?_
          refine R.pick (decide (band (shr64 ((clo xs).getD i 0) (j : Int)) 1 = 1)) true (by kernel_rfl) (dT c12) (by kernel_rfl) ?_
          refine R.go 1 (R.cond (band (shr64 ((clo xs).getD j 0) (i : Int)) 1 = 1) (by kernel_rfl) (fun c13 => ?_) (fun c13 => ?_))
          · refine R.go 3 (R.idxO 1 1 X.length j (j : Int) (by kernel_rfl) rfl (by omega) (by kernel_rfl) ?_)
            refine R.ldI X j (by kernel_rfl) (by omega) (by kernel_rfl) ?_
            refine R.go 5 (R.ar ((j : Int) + 1) (by kernel_rfl) (by omega) (by omega) (by kernel_rfl) ?_)
            exact R.go 2 (R.stop R6 (by kernel_rfl) (N7 (j + 1, X.getD j 0) [1, 3, 4, 5, 6, 7] none _ (by kernel_rfl) (by kernel_rfl) ⟨(by omega), (by first | exact clA_s (by assumption) (by assumption) (hyn (by assumption) (by assumption)) | exact clB_s (by assumption) (.inl (by assumption)) | exact clB_s (by assumption) (.inr (hno1 (by assumption))) | exact clB_s (by assumption) (.inr (hno2 (by assumption))))⟩ (by show (i - (j + 1)) < (i - j); omega)))
          · refine R.go 4 (R.ar ((j : Int) + 1) (by kernel_rfl) (by omega) (by omega) (by kernel_rfl) ?_)
            exact R.go 2 (R.stop R6 (by kernel_rfl) (N7 (j + 1, o) [1, 3, 4, 5, 6, 7] none _ (by kernel_rfl) (by kernel_rfl) ⟨(by omega), (by first | exact clA_s (by assumption) (by assumption) (hyn (by assumption) (by assumption)) | exact clB_s (by assumption) (.inl (by assumption)) | exact clB_s (by assumption) (.inr (hno1 (by assumption))) | exact clB_s (by assumption) (.inr (hno2 (by assumption))))⟩ (by show (i - (j + 1)) < (i - j); omega)))
        · refine R.skp (decide (band (shr64 ((clo xs).getD i 0) (j : Int)) 1 = 1)) true (by kernel_rfl) (dF c12) (by kernel_rfl) ?_
          refine R.skp (decide (band (shr64 ((clo xs).getD i 0) (j : Int)) 1 = 1)) true (by kernel_rfl) (dF c12) (by kernel_rfl) ?_
          refine R.skp (decide (band (shr64 ((clo xs).getD i 0) (j : Int)) 1 = 1)) true (by kernel_rfl) (dF c12) (by kernel_rfl) ?_
          refine R.skp (decide (band (shr64 ((clo xs).getD i 0) (j : Int)) 1 = 1)) true (by kernel_rfl) (dF c12) (by kernel_rfl) ?_
          refine R.skp (decide (band (shr64 ((clo xs).getD i 0) (j : Int)) 1 = 1)) true (by kernel_rfl) (dF c12) (by kernel_rfl) ?_
          refine R.skp (decide (band (shr64 ((clo xs).getD i 0) (j : Int)) 1 = 1)) true (by kernel_rfl) (dF c12) (by kernel_rfl) ?_
          refine R.pick (decide (band (shr64 ((clo xs).getD i 0) (j : Int)) 1 = 1)) false (by kernel_rfl) (dF c12) (by kernel_rfl) ?_
          refine R.go 6 (R.ar ((j : Int) + 1) (by kernel_rfl) (by omega) (by omega) (by kernel_rfl) ?_)
          exact R.go 2 (R.stop R6 (by kernel_rfl) (N7 (j + 1, o) [1, 3, 4, 5, 6, 7] none _ (by kernel_rfl) (by kernel_rfl) ⟨(by omega), (by first | exact clA_s (by assumption) (by assumption) (hyn (by assumption) (by assumption)) | exact clB_s (by assumption) (.inl (by assumption)) | exact clB_s (by assumption) (.inr (hno1 (by assumption))) | exact clB_s (by assumption) (.inr (hno2 (by assumption))))⟩ (by show (i - (j + 1)) < (i - j); omega)))
      · refine R.skp (decide (o < 0)) true (by kernel_rfl) (dF c11) (by kernel_rfl) ?_
        refine R.skp (decide (o < 0)) true (by kernel_rfl) (dF c11) (by kernel_rfl) ?_
        refine R.skp (decide (o < 0)) true (by kernel_rfl) (dF c11) (by kernel_rfl) ?_
        refine R.skp (decide (o < 0)) true (by kernel_rfl) (dF c11) (by kernel_rfl) ?_
        refine R.skp (decide (o < 0)) true (by kernel_rfl) (dF c11) (by kernel_rfl) ?_
        refine R.skp (decide (o < 0)) true (by kernel_rfl) (dF c11) (by kernel_rfl) ?_
        refine R.pick (decide (o < 0)) false (by kernel_rfl) (dF c11) (by kernel_rfl) ?_
        refine R.go 14 (R.ar ((j : Int) + 1) (by kernel_rfl) (by omega) (by omega) (by kernel_rfl) ?_)
        exact R.go 2 (R.stop R6 (by kernel_rfl) (N7 (j + 1, o) [1, 3, 4, 5, 6, 7] none _ (by kernel_rfl) (by kernel_rfl) ⟨(by omega), (by first | exact clA_s (by assumption) (by assumption) (hyn (by assumption) (by assumption)) | exact clB_s (by assumption) (.inl (by assumption)) | exact clB_s (by assumption) (.inr (hno1 (by assumption))) | exact clB_s (by assumption) (.inr (hno2 (by assumption))))⟩ (by show (i - (j + 1)) < (i - j); omega)))
    · refine R.go 7 (R.cond (o < 0) (by kernel_rfl) (fun c14 => ?_) (fun c14 => ?_))
      · refine R.go 7 (R.ar (k + 1) (by kernel_rfl) (by omega) (by omega) (by kernel_rfl) ?_)
        refine R.go 6 (R.app eI X [k] 1 2 1 8 (by kernel_rfl) eI_one (by decide) (by first | omega | (simp <;> omega)) (by kernel_rfl) ?_)
        refine R.go 5 (R.ar ((i : Int) + 1) (by kernel_rfl) (by omega) (by omega) (by kernel_rfl) ?_)
        exact R.go 2 (R.stop R1 (by kernel_rfl) (N2 (i + 1, X ++ [k], k + 1) [1, 3, 4, 5] (some [0, 1]) _ (by kernel_rfl) (by kernel_rfl) ⟨(by omega), (by (simp <;> omega)), (by first | exact (clC_t (by assumption) (by assumption) (show j = i by omega) (by assumption) (by assumption)).1 | exact (clD_t (by assumption) (by assumption) (show j = i by omega) (by assumption) (by assumption)).1), (by first | exact (clC_t (by assumption) (by assumption) (show j = i by omega) (by assumption) (by assumption)).2 | exact (clD_t (by assumption) (by assumption) (show j = i by omega) (by assumption) (by assumption)).2)⟩ (by show (n.toNat - (i + 1)) < (n.toNat - i); omega)))
      · refine R.go 5 (R.app eI X [o] 1 2 1 8 (by kernel_rfl) eI_one (by decide) (by first | omega | (simp <;> omega)) (by kernel_rfl) ?_)
        refine R.go 5 (R.ar ((i : Int) + 1) (by kernel_rfl) (by omega) (by omega) (by kernel_rfl) ?_)
        exact R.go 2 (R.stop R1 (by kernel_rfl) (N2 (i + 1, X ++ [o], k) [1, 3, 4, 5] (some [0, 1]) _ (by kernel_rfl) (by kernel_rfl) ⟨(by omega), (by (simp <;> omega)), (by first | exact (clC_t (by assumption) (by assumption) (show j = i by omega) (by assumption) (by assumption)).1 | exact (clD_t (by assumption) (by assumption) (show j = i by omega) (by assumption) (by assumption)).1), (by first | exact (clC_t (by assumption) (by assumption) (show j = i by omega) (by assumption) (by assumption)).2 | exact (clD_t (by assumption) (by assumption) (show j = i by omega) (by assumption) (by assumption)).2)⟩ (by show (n.toNat - (i + 1)) < (n.toNat - i); omega)))
  · exact R.go 6 (R.retE (ownA eI 2 1 X) (by kernel_rfl) (by kernel_rfl) (by first | (rw [‹X = (clS (clo xs) i).1›, show i = n.toNat by omega]) | (exfalso; omega)))

end Go.Proofs.Ytejaikeemahobaa


/-! Depths of worlds. -/
namespace Go.Proofs.Ytejaikeemahobaa
open Go.RowKit Go.Abs

def dpI (ys cl : List Int) (x : Nat) (X : List Int) : Nat → List Int
  | 0 => X
  | k + 1 => if cl.getD x 0 = cl.getD ((mem (ys.getD x 0)).getD k 0).toNat 0 then dpI ys cl x X k else (dpI ys cl x X k).set x (if (dpI ys cl x X k).getD ((mem (ys.getD x 0)).getD k 0).toNat 0 + 1 > (dpI ys cl x X k).getD x 0 then (dpI ys cl x X k).getD ((mem (ys.getD x 0)).getD k 0).toNat 0 + 1 else (dpI ys cl x X k).getD x 0)
def dpX (ys cl : List Int) (X : List Int) : Nat → List Int
  | 0 => X
  | x + 1 => dpI ys cl x (dpX ys cl X x) (mem (ys.getD x 0)).length
def dpR (ys cl : List Int) (n : Nat) : Nat → List Int
  | 0 => List.replicate n 1
  | r + 1 => dpX ys cl (dpR ys cl n r) n
theorem dpI_len (ys cl : List Int) (x : Nat) (X : List Int) : ∀ k, (dpI ys cl x X k).length = X.length
  | 0 => rfl
  | k + 1 => by
    rw [dpI]
    split
    · exact dpI_len ys cl x X k
    · rw [List.length_set]; exact dpI_len ys cl x X k
theorem dpX_len (ys cl X : List Int) : ∀ x, (dpX ys cl X x).length = X.length
  | 0 => rfl
  | x + 1 => by rw [dpX, dpI_len, dpX_len ys cl X x]
theorem dpR_len (ys cl : List Int) (n : Nat) : ∀ r, (dpR ys cl n r).length = n
  | 0 => by simp [dpR]
  | r + 1 => by rw [dpR, dpX_len, dpR_len ys cl n r]
def bnd (X : List Int) (b : Int) : Prop := ∀ v, 0 ≤ X.getD v 0 ∧ X.getD v 0 ≤ b
theorem bnd_set {X : List Int} {b a : Int} {x : Nat} (h : bnd X b) (ha : 0 ≤ a ∧ a ≤ b) : bnd (X.set x a) b := fun v => by
  by_cases e : v = x
  · subst e
    by_cases hl : v < X.length
    · rw [getDs_eq hl]; exact ha
    · rw [List.set_eq_of_length_le (by omega)]; exact h v
  · rw [getDs_ne e]; exact h v
theorem dpI_b (ys cl : List Int) (x : Nat) {X : List Int} {b : Int} (h : bnd X b) : ∀ k : Nat, bnd (dpI ys cl x X k) (b + k)
  | 0 => by simpa [dpI] using h
  | k + 1 => by
    have ih := dpI_b ys cl x h k
    have ih2 : bnd (dpI ys cl x X k) (b + ((k + 1 : Nat) : Int)) := fun v => by have := ih v; omega
    rw [dpI]
    split
    · exact ih2
    · refine bnd_set ih2 ?_
      have h1 := ih x
      have h2 := ih ((mem (ys.getD x 0)).getD k 0).toNat
      omega
theorem dpX_b (ys cl : List Int) {X : List Int} {b : Int} (h : bnd X b) : ∀ x : Nat, bnd (dpX ys cl X x) (b + 62 * x)
  | 0 => by simpa [dpX] using h
  | x + 1 => by
    have ih := dpI_b ys cl x (dpX_b ys cl h x) (mem (ys.getD x 0)).length
    have := mem_le (ys.getD x 0)
    rw [dpX]
    exact fun v => by have := ih v; omega
theorem dpR_b (ys cl : List Int) {n : Nat} (hn : n ≤ 8) : ∀ r : Nat, bnd (dpR ys cl n r) (1 + 496 * r)
  | 0 => fun v => by
    rw [dpR, List.getD_eq_getElem?_getD, List.getElem?_replicate]
    split <;> simp
  | r + 1 => by
    have ih := dpX_b ys cl (dpR_b ys cl hn r) n
    rw [dpR]
    exact fun v => by have := ih v; omega
theorem dp_b (ys cl : List Int) {n r x k : Nat} (hn : n ≤ 8) (hr : r ≤ n) (hx : x ≤ n) (hk : k ≤ 62) : bnd (dpI ys cl x (dpX ys cl (dpR ys cl n r) x) k) 5000 := fun v => by
  have := dpI_b ys cl x (dpX_b ys cl (dpR_b ys cl hn r) x) k v
  omega
theorem dpI_y {ys cl X Y : List Int} {x k : Nat} (h : Y = dpI ys cl x X k) (hc : cl.getD x 0 = cl.getD ((mem (ys.getD x 0)).getD k 0).toNat 0) : Y = dpI ys cl x X (k + 1) := by rw [dpI, if_pos hc, h]
theorem dpI_n {ys cl X Y : List Int} {x k : Nat} (h : Y = dpI ys cl x X k) (hc : ¬ cl.getD x 0 = cl.getD ((mem (ys.getD x 0)).getD k 0).toNat 0) : Y.set x (if Y.getD ((mem (ys.getD x 0)).getD k 0).toNat 0 + 1 > Y.getD x 0 then Y.getD ((mem (ys.getD x 0)).getD k 0).toNat 0 + 1 else Y.getD x 0) = dpI ys cl x X (k + 1) := by rw [dpI, if_neg hc, h]
theorem dpX_e {ys cl X Y : List Int} {x k : Nat} (h : Y = dpI ys cl x (dpX ys cl X x) k) (hk : k = (mem (ys.getD x 0)).length) : Y = dpX ys cl X (x + 1) := by rw [dpX, h, hk]
theorem dpX_e2 {ys cl X Y Z : List Int} {x k : Nat} (h : Z = dpI ys cl x Y k) (hY : Y = dpX ys cl X x) (hk : k = (mem (ys.getD x 0)).length) : Z = dpX ys cl X (x + 1) := dpX_e (by rw [← hY]; exact h) hk
theorem dpR_e {ys cl Y : List Int} {n r x : Nat} (h : Y = dpX ys cl (dpR ys cl n r) x) (hx : x = n) : Y = dpR ys cl n (r + 1) := by rw [dpR, h, hx]
def depI (n : Int) (xs : List Int) : List Int := dpR (clo xs) (clS (clo xs) n.toNat).1 n.toNat n.toNat
theorem memAt8 {N : Nat} {ys : List Int} (hN : N ≤ 8) (hR : RelOK N ys) {x k : Nat} (hx : x < N) (hk : k < (mem (ys.getD x 0)).length) : 0 ≤ (mem (ys.getD x 0)).getD k 0 ∧ (mem (ys.getD x 0)).getD k 0 < N := by
  obtain ⟨h1, h2, _⟩ := mem_in (by omega) (hR.2 x hx) hk
  omega

theorem worldD_c (n : Int) (xs : List Int) (hP : okFr n xs = true) : CallA Try.prog 89 [.agg [AI n, LI xs]] (ownA eI 2 1 (depI n xs)) := by
  have hF := okFr_rel hP
  have hR : RelOK n.toNat xs := hF.2.2.2
  have h0 : 0 ≤ n ∧ n ≤ 8 ∧ (xs.length : Int) = n := ⟨hF.1, hF.2.1, hF.2.2.1⟩
  have hcl := clo_len xs
  have hRc := (clo_ok (n := n.toNat) (by omega) hR).1
  have hcs := clS_len (clo xs) n.toNat
  refine CallA.of Try.func89 rfl (by kernel_rfl) ?_
  refine R.go 6 (R.any (by decide +kernel) (by kernel_rfl) ?_)
  refine R.any2 0 2 (by kernel_rfl) (by kernel_rfl) ?_ ?_
  · refine R.go 2 (R.any2 1 2 (by kernel_rfl) (by kernel_rfl) ?_ ?_)
    · refine R.call true (reachable_c n xs (by first | omega | (simp <;> omega))) (by kernel_rfl) rfl (by kernel_rfl) ?_
      refine R.go 1 (R.any1 2 (by kernel_rfl) (by kernel_rfl) ?_)
      refine R.go 2 (R.any1 3 (by kernel_rfl) (by kernel_rfl) ?_)
      refine R.call true (clusters_c n xs hP) (by kernel_rfl) rfl (by kernel_rfl) ?_
      refine R.go 1 (R.any1 4 (by kernel_rfl) (by kernel_rfl) ?_)
      refine R.go 2 (R.any1 5 (by kernel_rfl) (by kernel_rfl) ?_)
      refine R.go 2 (R.any0 (by kernel_rfl) ?_)
      refine R.go 2 (R.lit (s := 1) (n := 1) (cs := rows eI [1]) (by kernel_rfl) (by kernel_rfl) ?_)
      refine R.go 2 (R.call true (repeat_c n (by omega) (by omega)) (by kernel_rfl) rfl (by kernel_rfl) ?_)
      refine R.go 10 (R.loop ((fun | (r, X) => (⟨(frm 62 [(1, .ptr 0 0), (3, .ref 1), (4, .ref 2), (5, .ref 3), (18, AI n), (19, AI (r : Int))]), [.box 26 [AI n, LI xs], rowA eI 2 1 (clo xs), rowA eI 2 1 ((clS (clo xs) n.toNat).1), rowA eI 2 1 X]⟩ : St) : Nat × (List Int) → St)) (fun | (r, X) => (r ≤ n.toNat) ∧ (X.length = n.toNat) ∧ (X = dpR (clo xs) (clS (clo xs) n.toNat).1 n.toNat r)) (fun | (r, X) => n.toNat - r) (0, (List.replicate n.toNat 1)) [1, 3, 4, 5, 18, 19] none (by kernel_rfl) (by kernel_rfl) (by kernel_rfl) ⟨(by omega), (by (simp <;> omega)), (by rfl)⟩ ?_)
      rintro ⟨r, X⟩ ⟨h4_1, h4_2, h4_3⟩ R1 N2
      refine R.go 5 (R.cond ((r : Int) < n) (by kernel_rfl) (fun c5 => ?_) (fun c5 => ?_))
      · refine R.go 10 (R.loop ((fun | (x, Y) => (⟨(frm 62 [(1, .ptr 0 0), (3, .ref 1), (4, .ref 2), (5, .ref 3), (18, AI n), (19, AI (r : Int)), (22, AI n), (23, AI (x : Int))]), [.box 26 [AI n, LI xs], rowA eI 2 1 (clo xs), rowA eI 2 1 ((clS (clo xs) n.toNat).1), rowA eI 2 1 Y]⟩ : St) : Nat × (List Int) → St)) (fun | (x, Y) => (x ≤ n.toNat) ∧ (Y.length = n.toNat) ∧ (Y = dpX (clo xs) (clS (clo xs) n.toNat).1 (dpR (clo xs) (clS (clo xs) n.toNat).1 n.toNat r) x)) (fun | (x, Y) => n.toNat - x) (0, X) [1, 3, 4, 5, 18, 19, 22, 23] none (by kernel_rfl) (by kernel_rfl) (by kernel_rfl) ⟨(by omega), (by omega), (by assumption)⟩ ?_)
        rintro ⟨x, Y⟩ ⟨h9_1, h9_2, h9_3⟩ R6 N7
        have hmk : x < n.toNat → InM 61 ((clo xs).getD x 0) := fun hx => inM_mono (by omega) (hRc.2 x hx)
        refine R.go 5 (R.cond ((x : Int) < n) (by kernel_rfl) (fun c10 => ?_) (fun c10 => ?_))
        · have hmx := hmk (by omega)
          refine R.go 12 (R.idxO 1 1 (clo xs).length x (x : Int) (by kernel_rfl) rfl (by omega) (by kernel_rfl) ?_)
          refine R.ldI (clo xs) x (by kernel_rfl) (by omega) (by kernel_rfl) ?_
          refine R.call true (membersOf_c ((clo xs).getD x 0) (by first | assumption | exact inM61 (by omega) (by omega))) (by kernel_rfl) rfl (by kernel_rfl) ?_
          refine R.go 4 (R.loop ((fun | (k, Z) => (⟨(frm 62 [(1, .ptr 0 0), (3, .ref 1), (4, .ref 2), (5, .ref 3), (6, AI (x : Int)), (18, AI n), (19, AI (r : Int)), (22, AI n), (23, AI (x : Int)), (30, .ref 4), (31, AI ((mem ((clo xs).getD x 0)).length)), (32, AI (k : Int))]), [.box 26 [AI n, LI xs], rowA eI 2 1 (clo xs), rowA eI 2 1 ((clS (clo xs) n.toNat).1), rowA eI 2 1 Z, rowA eI 2 1 (mem ((clo xs).getD x 0))]⟩ : St) : Nat × (List Int) → St)) (fun | (k, Z) => (k ≤ (mem ((clo xs).getD x 0)).length) ∧ (Z.length = n.toNat) ∧ (Z = dpI (clo xs) (clS (clo xs) n.toNat).1 x Y k)) (fun | (k, Z) => (mem ((clo xs).getD x 0)).length - k) (0, Y) [1, 3, 4, 5, 6, 18, 19, 22, 23, 30, 31, 32] none (by kernel_rfl) (by kernel_rfl) (by kernel_rfl) ⟨(by omega), (by omega), (by rfl)⟩ ?_)
          rintro ⟨k, Z⟩ ⟨h14_1, h14_2, h14_3⟩ R11 N12
          have hat := fun hx hk => memAt8 (N := n.toNat) (by omega) hRc (x := x) (k := k) hx hk
          have hml := mem_le ((clo xs).getD x 0)
          refine R.go 5 (R.cond ((k : Int) < ((mem ((clo xs).getD x 0)).length : Int)) (by kernel_rfl) (fun c15 => ?_) (fun c15 => ?_))
          · refine R.go 5 (R.idxO 4 1 (mem ((clo xs).getD x 0)).length k (k : Int) (by kernel_rfl) rfl (by omega) (by kernel_rfl) ?_)
            refine R.ldI (mem ((clo xs).getD x 0)) k (by kernel_rfl) (by omega) (by kernel_rfl) ?_
            have hat1 := hat (by omega) (by omega)
            refine R.go 6 (R.idxO 2 1 ((clS (clo xs) n.toNat).1).length x (x : Int) (by kernel_rfl) rfl (by omega) (by kernel_rfl) ?_)
            refine R.ldI ((clS (clo xs) n.toNat).1) x (by kernel_rfl) (by omega) (by kernel_rfl) ?_
            refine R.go 2 (R.idxO 2 1 ((clS (clo xs) n.toNat).1).length (((mem ((clo xs).getD x 0)).getD k 0).toNat) ((mem ((clo xs).getD x 0)).getD k 0) (by kernel_rfl) (by omega) (by omega) (by kernel_rfl) ?_)
            refine R.ldI ((clS (clo xs) n.toNat).1) (((mem ((clo xs).getD x 0)).getD k 0).toNat) (by kernel_rfl) (by omega) (by kernel_rfl) ?_
            refine R.go 2 (R.condN ((((clS (clo xs) n.toNat).1).getD x 0) = (((clS (clo xs) n.toNat).1).getD (((mem ((clo xs).getD x 0)).getD k 0).toNat) 0)) (by kernel_rfl) (fun c16 => ?_) (fun c16 => ?_))
            · have hbz := dp_b (clo xs) (clS (clo xs) n.toNat).1 (n := n.toNat) (r := r) (x := x) (k := k) (by omega) (by omega) (by omega) (by omega)
              rw [← ‹Y = dpX (clo xs) (clS (clo xs) n.toNat).1 (dpR (clo xs) (clS (clo xs) n.toNat).1 n.toNat r) x›, ← ‹Z = dpI (clo xs) (clS (clo xs) n.toNat).1 x Y k›] at hbz
              have hb1 := hbz x
              have hb2 := hbz ((mem ((clo xs).getD x 0)).getD k 0).toNat
              refine R.go 5 (R.idxO 3 1 Z.length x (x : Int) (by kernel_rfl) rfl (by omega) (by kernel_rfl) ?_)
              refine R.ldI Z x (by kernel_rfl) (by omega) (by kernel_rfl) ?_
              refine R.go 2 (R.idxO 3 1 Z.length (((mem ((clo xs).getD x 0)).getD k 0).toNat) ((mem ((clo xs).getD x 0)).getD k 0) (by kernel_rfl) (by omega) (by omega) (by kernel_rfl) ?_)
              refine R.ldI Z (((mem ((clo xs).getD x 0)).getD k 0).toNat) (by kernel_rfl) (by omega) (by kernel_rfl) ?_
              refine R.ar ((Z.getD (((mem ((clo xs).getD x 0)).getD k 0).toNat) 0) + 1) (by kernel_rfl) (by omega) (by omega) (by kernel_rfl) ?_
              refine R.go 1 (R.idxO 3 1 Z.length x (x : Int) (by kernel_rfl) rfl (by omega) (by kernel_rfl) ?_)
              refine R.stI 3 2 Z x (if ((Z.getD (((mem ((clo xs).getD x 0)).getD k 0).toNat) 0) + 1) > (Z.getD x 0) then ((Z.getD (((mem ((clo xs).getD x 0)).getD k 0).toNat) 0) + 1) else (Z.getD x 0)) (by kernel_rfl) (by omega) (by kernel_rfl) ?_
              refine R.go 3 (R.ar ((k : Int) + 1) (by kernel_rfl) (by omega) (by omega) (by kernel_rfl) ?_)
              exact R.go 2 (R.stop R11 (by kernel_rfl) (N12 (k + 1, Z.set x (if ((Z.getD (((mem ((clo xs).getD x 0)).getD k 0).toNat) 0) + 1) > (Z.getD x 0) then ((Z.getD (((mem ((clo xs).getD x 0)).getD k 0).toNat) 0) + 1) else (Z.getD x 0))) [1, 3, 4, 5, 6, 18, 19, 22, 23, 30, 31, 32] none _ (by kernel_rfl) (by kernel_rfl) ⟨(by omega), (by first | omega | (simp <;> omega)), (by first | exact dpI_y (by assumption) (by assumption) | exact dpI_n (by assumption) (by assumption))⟩ (by show ((mem ((clo xs).getD x 0)).length - (k + 1)) < ((mem ((clo xs).getD x 0)).length - k); omega)))
            · refine R.go 3 (R.ar ((k : Int) + 1) (by kernel_rfl) (by omega) (by omega) (by kernel_rfl) ?_)
              exact R.go 2 (R.stop R11 (by kernel_rfl) (N12 (k + 1, Z) [1, 3, 4, 5, 6, 18, 19, 22, 23, 30, 31, 32] none _ (by kernel_rfl) (by kernel_rfl) ⟨(by omega), (by first | omega | (simp <;> omega)), (by first | exact dpI_y (by assumption) (by assumption) | exact dpI_n (by assumption) (by assumption))⟩ (by show ((mem ((clo xs).getD x 0)).length - (k + 1)) < ((mem ((clo xs).getD x 0)).length - k); omega)))
          · refine R.go 3 (R.ar ((x : Int) + 1) (by kernel_rfl) (by omega) (by omega) (by kernel_rfl) ?_)
            exact R.go 2 (R.stop R6 (by kernel_rfl) (N7 (x + 1, Z) [1, 3, 4, 5, 18, 19, 22, 23] (some [0, 1, 2, 3]) _ (by kernel_rfl) (by kernel_rfl) ⟨(by omega), (by first | omega | (simp <;> omega)), (by exact dpX_e2 (by assumption) (by assumption) (show k = (mem ((clo xs).getD x 0)).length by omega))⟩ (by show (n.toNat - (x + 1)) < (n.toNat - x); omega)))
        · refine R.go 3 (R.ar ((r : Int) + 1) (by kernel_rfl) (by omega) (by omega) (by kernel_rfl) ?_)
          exact R.go 2 (R.stop R1 (by kernel_rfl) (N2 (r + 1, Y) [1, 3, 4, 5, 18, 19] none _ (by kernel_rfl) (by kernel_rfl) ⟨(by omega), (by omega), (by exact dpR_e (by assumption) (show x = n.toNat by omega))⟩ (by show (n.toNat - (r + 1)) < (n.toNat - r); omega)))
      · exact R.go 6 (R.retE (ownA eI 2 1 X) (by kernel_rfl) (by kernel_rfl) (by first | (rw [‹X = dpR (clo xs) (clS (clo xs) n.toNat).1 n.toNat r›, show r = n.toNat by omega]; rfl) | (exfalso; omega)))
    · refine R.go 2 (R.any1 1 (by kernel_rfl) (by kernel_rfl) ?_)
      refine R.call true (reachable_c n xs (by first | omega | (simp <;> omega))) (by kernel_rfl) rfl (by kernel_rfl) ?_
      refine R.go 1 (R.any1 3 (by kernel_rfl) (by kernel_rfl) ?_)
      refine R.call true (clusters_c n xs hP) (by kernel_rfl) rfl (by kernel_rfl) ?_
      refine R.go 1 (R.any1 4 (by kernel_rfl) (by kernel_rfl) ?_)
      refine R.go 2 (R.any1 5 (by kernel_rfl) (by kernel_rfl) ?_)
      refine R.go 2 (R.any0 (by kernel_rfl) ?_)
      refine R.go 2 (R.lit (s := 1) (n := 1) (cs := rows eI [1]) (by kernel_rfl) (by kernel_rfl) ?_)
      refine R.go 2 (R.call true (repeat_c n (by omega) (by omega)) (by kernel_rfl) rfl (by kernel_rfl) ?_)
      refine R.go 10 (R.loop ((fun | (r, X) => (⟨(frm 62 [(1, .ptr 0 0), (3, .ref 1), (4, .ref 2), (5, .ref 3), (18, AI n), (19, AI (r : Int))]), [.box 26 [AI n, LI xs], rowA eI 2 1 (clo xs), rowA eI 2 1 ((clS (clo xs) n.toNat).1), rowA eI 2 1 X]⟩ : St) : Nat × (List Int) → St)) (fun | (r, X) => (r ≤ n.toNat) ∧ (X.length = n.toNat) ∧ (X = dpR (clo xs) (clS (clo xs) n.toNat).1 n.toNat r)) (fun | (r, X) => n.toNat - r) (0, (List.replicate n.toNat 1)) [1, 3, 4, 5, 18, 19] none (by kernel_rfl) (by kernel_rfl) (by kernel_rfl) ⟨(by omega), (by (simp <;> omega)), (by rfl)⟩ ?_)
      rintro ⟨r, X⟩ ⟨h20_1, h20_2, h20_3⟩ R17 N18
      refine R.go 5 (R.cond ((r : Int) < n) (by kernel_rfl) (fun c21 => ?_) (fun c21 => ?_))
      · refine R.go 10 (R.loop ((fun | (x, Y) => (⟨(frm 62 [(1, .ptr 0 0), (3, .ref 1), (4, .ref 2), (5, .ref 3), (18, AI n), (19, AI (r : Int)), (22, AI n), (23, AI (x : Int))]), [.box 26 [AI n, LI xs], rowA eI 2 1 (clo xs), rowA eI 2 1 ((clS (clo xs) n.toNat).1), rowA eI 2 1 Y]⟩ : St) : Nat × (List Int) → St)) (fun | (x, Y) => (x ≤ n.toNat) ∧ (Y.length = n.toNat) ∧ (Y = dpX (clo xs) (clS (clo xs) n.toNat).1 (dpR (clo xs) (clS (clo xs) n.toNat).1 n.toNat r) x)) (fun | (x, Y) => n.toNat - x) (0, X) [1, 3, 4, 5, 18, 19, 22, 23] none (by kernel_rfl) (by kernel_rfl) (by kernel_rfl) ⟨(by omega), (by omega), (by assumption)⟩ ?_)
        rintro ⟨x, Y⟩ ⟨h25_1, h25_2, h25_3⟩ R22 N23
        have hmk : x < n.toNat → InM 61 ((clo xs).getD x 0) := fun hx => inM_mono (by omega) (hRc.2 x hx)
        refine R.go 5 (R.cond ((x : Int) < n) (by kernel_rfl) (fun c26 => ?_) (fun c26 => ?_))
        · have hmx := hmk (by omega)
          refine R.go 12 (R.idxO 1 1 (clo xs).length x (x : Int) (by kernel_rfl) rfl (by omega) (by kernel_rfl) ?_)
          refine R.ldI (clo xs) x (by kernel_rfl) (by omega) (by kernel_rfl) ?_
          refine R.call true (membersOf_c ((clo xs).getD x 0) (by first | assumption | exact inM61 (by omega) (by omega))) (by kernel_rfl) rfl (by kernel_rfl) ?_
          refine R.go 4 (R.loop ((fun | (k, Z) => (⟨(frm 62 [(1, .ptr 0 0), (3, .ref 1), (4, .ref 2), (5, .ref 3), (6, AI (x : Int)), (18, AI n), (19, AI (r : Int)), (22, AI n), (23, AI (x : Int)), (30, .ref 4), (31, AI ((mem ((clo xs).getD x 0)).length)), (32, AI (k : Int))]), [.box 26 [AI n, LI xs], rowA eI 2 1 (clo xs), rowA eI 2 1 ((clS (clo xs) n.toNat).1), rowA eI 2 1 Z, rowA eI 2 1 (mem ((clo xs).getD x 0))]⟩ : St) : Nat × (List Int) → St)) (fun | (k, Z) => (k ≤ (mem ((clo xs).getD x 0)).length) ∧ (Z.length = n.toNat) ∧ (Z = dpI (clo xs) (clS (clo xs) n.toNat).1 x Y k)) (fun | (k, Z) => (mem ((clo xs).getD x 0)).length - k) (0, Y) [1, 3, 4, 5, 6, 18, 19, 22, 23, 30, 31, 32] none (by kernel_rfl) (by kernel_rfl) (by kernel_rfl) ⟨(by omega), (by omega), (by rfl)⟩ ?_)
          rintro ⟨k, Z⟩ ⟨h30_1, h30_2, h30_3⟩ R27 N28
          have hat := fun hx hk => memAt8 (N := n.toNat) (by omega) hRc (x := x) (k := k) hx hk
          have hml := mem_le ((clo xs).getD x 0)
          refine R.go 5 (R.cond ((k : Int) < ((mem ((clo xs).getD x 0)).length : Int)) (by kernel_rfl) (fun c31 => ?_) (fun c31 => ?_))
          · refine R.go 5 (R.idxO 4 1 (mem ((clo xs).getD x 0)).length k (k : Int) (by kernel_rfl) rfl (by omega) (by kernel_rfl) ?_)
            refine R.ldI (mem ((clo xs).getD x 0)) k (by kernel_rfl) (by omega) (by kernel_rfl) ?_
            have hat1 := hat (by omega) (by omega)
            refine R.go 6 (R.idxO 2 1 ((clS (clo xs) n.toNat).1).length x (x : Int) (by kernel_rfl) rfl (by omega) (by kernel_rfl) ?_)
            refine R.ldI ((clS (clo xs) n.toNat).1) x (by kernel_rfl) (by omega) (by kernel_rfl) ?_
            refine R.go 2 (R.idxO 2 1 ((clS (clo xs) n.toNat).1).length (((mem ((clo xs).getD x 0)).getD k 0).toNat) ((mem ((clo xs).getD x 0)).getD k 0) (by kernel_rfl) (by omega) (by omega) (by kernel_rfl) ?_)
            refine R.ldI ((clS (clo xs) n.toNat).1) (((mem ((clo xs).getD x 0)).getD k 0).toNat) (by kernel_rfl) (by omega) (by kernel_rfl) ?_
            refine R.go 2 (R.condN ((((clS (clo xs) n.toNat).1).getD x 0) = (((clS (clo xs) n.toNat).1).getD (((mem ((clo xs).getD x 0)).getD k 0).toNat) 0)) (by kernel_rfl) (fun c32 => ?_) (fun c32 => ?_))
            · have hbz := dp_b (clo xs) (clS (clo xs) n.toNat).1 (n := n.toNat) (r := r) (x := x) (k := k) (by omega) (by omega) (by omega) (by omega)
              rw [← ‹Y = dpX (clo xs) (clS (clo xs) n.toNat).1 (dpR (clo xs) (clS (clo xs) n.toNat).1 n.toNat r) x›, ← ‹Z = dpI (clo xs) (clS (clo xs) n.toNat).1 x Y k›] at hbz
              have hb1 := hbz x
              have hb2 := hbz ((mem ((clo xs).getD x 0)).getD k 0).toNat
              refine R.go 5 (R.idxO 3 1 Z.length x (x : Int) (by kernel_rfl) rfl (by omega) (by kernel_rfl) ?_)
              refine R.ldI Z x (by kernel_rfl) (by omega) (by kernel_rfl) ?_
              refine R.go 2 (R.idxO 3 1 Z.length (((mem ((clo xs).getD x 0)).getD k 0).toNat) ((mem ((clo xs).getD x 0)).getD k 0) (by kernel_rfl) (by omega) (by omega) (by kernel_rfl) ?_)
              refine R.ldI Z (((mem ((clo xs).getD x 0)).getD k 0).toNat) (by kernel_rfl) (by omega) (by kernel_rfl) ?_
              refine R.ar ((Z.getD (((mem ((clo xs).getD x 0)).getD k 0).toNat) 0) + 1) (by kernel_rfl) (by omega) (by omega) (by kernel_rfl) ?_
              refine R.go 1 (R.idxO 3 1 Z.length x (x : Int) (by kernel_rfl) rfl (by omega) (by kernel_rfl) ?_)
              refine R.stI 3 2 Z x (if ((Z.getD (((mem ((clo xs).getD x 0)).getD k 0).toNat) 0) + 1) > (Z.getD x 0) then ((Z.getD (((mem ((clo xs).getD x 0)).getD k 0).toNat) 0) + 1) else (Z.getD x 0)) (by kernel_rfl) (by omega) (by kernel_rfl) ?_
              refine R.go 3 (R.ar ((k : Int) + 1) (by kernel_rfl) (by omega) (by omega) (by kernel_rfl) ?_)
              exact R.go 2 (R.stop R27 (by kernel_rfl) (N28 (k + 1, Z.set x (if ((Z.getD (((mem ((clo xs).getD x 0)).getD k 0).toNat) 0) + 1) > (Z.getD x 0) then ((Z.getD (((mem ((clo xs).getD x 0)).getD k 0).toNat) 0) + 1) else (Z.getD x 0))) [1, 3, 4, 5, 6, 18, 19, 22, 23, 30, 31, 32] none _ (by kernel_rfl) (by kernel_rfl) ⟨(by omega), (by first | omega | (simp <;> omega)), (by first | exact dpI_y (by assumption) (by assumption) | exact dpI_n (by assumption) (by assumption))⟩ (by show ((mem ((clo xs).getD x 0)).length - (k + 1)) < ((mem ((clo xs).getD x 0)).length - k); omega)))
            · refine R.go 3 (R.ar ((k : Int) + 1) (by kernel_rfl) (by omega) (by omega) (by kernel_rfl) ?_)
              exact R.go 2 (R.stop R27 (by kernel_rfl) (N28 (k + 1, Z) [1, 3, 4, 5, 6, 18, 19, 22, 23, 30, 31, 32] none _ (by kernel_rfl) (by kernel_rfl) ⟨(by omega), (by first | omega | (simp <;> omega)), (by first | exact dpI_y (by assumption) (by assumption) | exact dpI_n (by assumption) (by assumption))⟩ (by show ((mem ((clo xs).getD x 0)).length - (k + 1)) < ((mem ((clo xs).getD x 0)).length - k); omega)))
          · refine R.go 3 (R.ar ((x : Int) + 1) (by kernel_rfl) (by omega) (by omega) (by kernel_rfl) ?_)
            exact R.go 2 (R.stop R22 (by kernel_rfl) (N23 (x + 1, Z) [1, 3, 4, 5, 18, 19, 22, 23] (some [0, 1, 2, 3]) _ (by kernel_rfl) (by kernel_rfl) ⟨(by omega), (by first | omega | (simp <;> omega)), (by exact dpX_e2 (by assumption) (by assumption) (show k = (mem ((clo xs).getD x 0)).length by omega))⟩ (by show (n.toNat - (x + 1)) < (n.toNat - x); omega)))
        · refine R.go 3 (R.ar ((r : Int) + 1) (by kernel_rfl) (by omega) (by omega) (by kernel_rfl) ?_)
          exact R.go 2 (R.stop R17 (by kernel_rfl) (N18 (r + 1, Y) [1, 3, 4, 5, 18, 19] none _ (by kernel_rfl) (by kernel_rfl) ⟨(by omega), (by omega), (by exact dpR_e (by assumption) (show x = n.toNat by omega))⟩ (by show (n.toNat - (r + 1)) < (n.toNat - r); omega)))
      · exact R.go 6 (R.retE (ownA eI 2 1 X) (by kernel_rfl) (by kernel_rfl) (by first | (rw [‹X = dpR (clo xs) (clS (clo xs) n.toNat).1 n.toNat r›, show r = n.toNat by omega]; rfl) | (exfalso; omega)))
  · refine R.go 2 (R.any1 0 (by kernel_rfl) (by kernel_rfl) ?_)
    refine R.go 2 (R.any1 1 (by kernel_rfl) (by kernel_rfl) ?_)
    refine R.call true (reachable_c n xs (by first | omega | (simp <;> omega))) (by kernel_rfl) rfl (by kernel_rfl) ?_
    refine R.go 1 (R.any1 3 (by kernel_rfl) (by kernel_rfl) ?_)
    refine R.call true (clusters_c n xs hP) (by kernel_rfl) rfl (by kernel_rfl) ?_
    refine R.go 1 (R.any1 4 (by kernel_rfl) (by kernel_rfl) ?_)
    refine R.go 2 (R.any1 5 (by kernel_rfl) (by kernel_rfl) ?_)
    refine R.go 2 (R.any0 (by kernel_rfl) ?_)
    refine R.go 2 (R.lit (s := 1) (n := 1) (cs := rows eI [1]) (by kernel_rfl) (by kernel_rfl) ?_)
    refine R.go 2 (R.call true (repeat_c n (by omega) (by omega)) (by kernel_rfl) rfl (by kernel_rfl) ?_)
    refine R.go 10 (R.loop ((fun | (r, X) => (⟨(frm 62 [(1, .ptr 0 0), (3, .ref 1), (4, .ref 2), (5, .ref 3), (18, AI n), (19, AI (r : Int))]), [.box 26 [AI n, LI xs], rowA eI 2 1 (clo xs), rowA eI 2 1 ((clS (clo xs) n.toNat).1), rowA eI 2 1 X]⟩ : St) : Nat × (List Int) → St)) (fun | (r, X) => (r ≤ n.toNat) ∧ (X.length = n.toNat) ∧ (X = dpR (clo xs) (clS (clo xs) n.toNat).1 n.toNat r)) (fun | (r, X) => n.toNat - r) (0, (List.replicate n.toNat 1)) [1, 3, 4, 5, 18, 19] none (by kernel_rfl) (by kernel_rfl) (by kernel_rfl) ⟨(by omega), (by (simp <;> omega)), (by rfl)⟩ ?_)
    rintro ⟨r, X⟩ ⟨h36_1, h36_2, h36_3⟩ R33 N34
    refine R.go 5 (R.cond ((r : Int) < n) (by kernel_rfl) (fun c37 => ?_) (fun c37 => ?_))
    · refine R.go 10 (R.loop ((fun | (x, Y) => (⟨(frm 62 [(1, .ptr 0 0), (3, .ref 1), (4, .ref 2), (5, .ref 3), (18, AI n), (19, AI (r : Int)), (22, AI n), (23, AI (x : Int))]), [.box 26 [AI n, LI xs], rowA eI 2 1 (clo xs), rowA eI 2 1 ((clS (clo xs) n.toNat).1), rowA eI 2 1 Y]⟩ : St) : Nat × (List Int) → St)) (fun | (x, Y) => (x ≤ n.toNat) ∧ (Y.length = n.toNat) ∧ (Y = dpX (clo xs) (clS (clo xs) n.toNat).1 (dpR (clo xs) (clS (clo xs) n.toNat).1 n.toNat r) x)) (fun | (x, Y) => n.toNat - x) (0, X) [1, 3, 4, 5, 18, 19, 22, 23] none (by kernel_rfl) (by kernel_rfl) (by kernel_rfl) ⟨(by omega), (by omega), (by assumption)⟩ ?_)
      rintro ⟨x, Y⟩ ⟨h41_1, h41_2, h41_3⟩ R38 N39
      have hmk : x < n.toNat → InM 61 ((clo xs).getD x 0) := fun hx => inM_mono (by omega) (hRc.2 x hx)
      refine R.go 5 (R.cond ((x : Int) < n) (by kernel_rfl) (fun c42 => ?_) (fun c42 => ?_))
      · have hmx := hmk (by omega)
        refine R.go 12 (R.idxO 1 1 (clo xs).length x (x : Int) (by kernel_rfl) rfl (by omega) (by kernel_rfl) ?_)
        refine R.ldI (clo xs) x (by kernel_rfl) (by omega) (by kernel_rfl) ?_
        refine R.call true (membersOf_c ((clo xs).getD x 0) (by first | assumption | exact inM61 (by omega) (by omega))) (by kernel_rfl) rfl (by kernel_rfl) ?_
        refine R.go 4 (R.loop ((fun | (k, Z) => (⟨(frm 62 [(1, .ptr 0 0), (3, .ref 1), (4, .ref 2), (5, .ref 3), (6, AI (x : Int)), (18, AI n), (19, AI (r : Int)), (22, AI n), (23, AI (x : Int)), (30, .ref 4), (31, AI ((mem ((clo xs).getD x 0)).length)), (32, AI (k : Int))]), [.box 26 [AI n, LI xs], rowA eI 2 1 (clo xs), rowA eI 2 1 ((clS (clo xs) n.toNat).1), rowA eI 2 1 Z, rowA eI 2 1 (mem ((clo xs).getD x 0))]⟩ : St) : Nat × (List Int) → St)) (fun | (k, Z) => (k ≤ (mem ((clo xs).getD x 0)).length) ∧ (Z.length = n.toNat) ∧ (Z = dpI (clo xs) (clS (clo xs) n.toNat).1 x Y k)) (fun | (k, Z) => (mem ((clo xs).getD x 0)).length - k) (0, Y) [1, 3, 4, 5, 6, 18, 19, 22, 23, 30, 31, 32] none (by kernel_rfl) (by kernel_rfl) (by kernel_rfl) ⟨(by omega), (by omega), (by rfl)⟩ ?_)
        rintro ⟨k, Z⟩ ⟨h46_1, h46_2, h46_3⟩ R43 N44
        have hat := fun hx hk => memAt8 (N := n.toNat) (by omega) hRc (x := x) (k := k) hx hk
        have hml := mem_le ((clo xs).getD x 0)
        refine R.go 5 (R.cond ((k : Int) < ((mem ((clo xs).getD x 0)).length : Int)) (by kernel_rfl) (fun c47 => ?_) (fun c47 => ?_))
        · refine R.go 5 (R.idxO 4 1 (mem ((clo xs).getD x 0)).length k (k : Int) (by kernel_rfl) rfl (by omega) (by kernel_rfl) ?_)
          refine R.ldI (mem ((clo xs).getD x 0)) k (by kernel_rfl) (by omega) (by kernel_rfl) ?_
          have hat1 := hat (by omega) (by omega)
          refine R.go 6 (R.idxO 2 1 ((clS (clo xs) n.toNat).1).length x (x : Int) (by kernel_rfl) rfl (by omega) (by kernel_rfl) ?_)
          refine R.ldI ((clS (clo xs) n.toNat).1) x (by kernel_rfl) (by omega) (by kernel_rfl) ?_
          refine R.go 2 (R.idxO 2 1 ((clS (clo xs) n.toNat).1).length (((mem ((clo xs).getD x 0)).getD k 0).toNat) ((mem ((clo xs).getD x 0)).getD k 0) (by kernel_rfl) (by omega) (by omega) (by kernel_rfl) ?_)
          refine R.ldI ((clS (clo xs) n.toNat).1) (((mem ((clo xs).getD x 0)).getD k 0).toNat) (by kernel_rfl) (by omega) (by kernel_rfl) ?_
          refine R.go 2 (R.condN ((((clS (clo xs) n.toNat).1).getD x 0) = (((clS (clo xs) n.toNat).1).getD (((mem ((clo xs).getD x 0)).getD k 0).toNat) 0)) (by kernel_rfl) (fun c48 => ?_) (fun c48 => ?_))
          · have hbz := dp_b (clo xs) (clS (clo xs) n.toNat).1 (n := n.toNat) (r := r) (x := x) (k := k) (by omega) (by omega) (by omega) (by omega)
            rw [← ‹Y = dpX (clo xs) (clS (clo xs) n.toNat).1 (dpR (clo xs) (clS (clo xs) n.toNat).1 n.toNat r) x›, ← ‹Z = dpI (clo xs) (clS (clo xs) n.toNat).1 x Y k›] at hbz
            have hb1 := hbz x
            have hb2 := hbz ((mem ((clo xs).getD x 0)).getD k 0).toNat
            refine R.go 5 (R.idxO 3 1 Z.length x (x : Int) (by kernel_rfl) rfl (by omega) (by kernel_rfl) ?_)
            refine R.ldI Z x (by kernel_rfl) (by omega) (by kernel_rfl) ?_
            refine R.go 2 (R.idxO 3 1 Z.length (((mem ((clo xs).getD x 0)).getD k 0).toNat) ((mem ((clo xs).getD x 0)).getD k 0) (by kernel_rfl) (by omega) (by omega) (by kernel_rfl) ?_)
            refine R.ldI Z (((mem ((clo xs).getD x 0)).getD k 0).toNat) (by kernel_rfl) (by omega) (by kernel_rfl) ?_
            refine R.ar ((Z.getD (((mem ((clo xs).getD x 0)).getD k 0).toNat) 0) + 1) (by kernel_rfl) (by omega) (by omega) (by kernel_rfl) ?_
            refine R.go 1 (R.idxO 3 1 Z.length x (x : Int) (by kernel_rfl) rfl (by omega) (by kernel_rfl) ?_)
            refine R.stI 3 2 Z x (if ((Z.getD (((mem ((clo xs).getD x 0)).getD k 0).toNat) 0) + 1) > (Z.getD x 0) then ((Z.getD (((mem ((clo xs).getD x 0)).getD k 0).toNat) 0) + 1) else (Z.getD x 0)) (by kernel_rfl) (by omega) (by kernel_rfl) ?_
            refine R.go 3 (R.ar ((k : Int) + 1) (by kernel_rfl) (by omega) (by omega) (by kernel_rfl) ?_)
            exact R.go 2 (R.stop R43 (by kernel_rfl) (N44 (k + 1, Z.set x (if ((Z.getD (((mem ((clo xs).getD x 0)).getD k 0).toNat) 0) + 1) > (Z.getD x 0) then ((Z.getD (((mem ((clo xs).getD x 0)).getD k 0).toNat) 0) + 1) else (Z.getD x 0))) [1, 3, 4, 5, 6, 18, 19, 22, 23, 30, 31, 32] none _ (by kernel_rfl) (by kernel_rfl) ⟨(by omega), (by first | omega | (simp <;> omega)), (by first | exact dpI_y (by assumption) (by assumption) | exact dpI_n (by assumption) (by assumption))⟩ (by show ((mem ((clo xs).getD x 0)).length - (k + 1)) < ((mem ((clo xs).getD x 0)).length - k); omega)))
          · refine R.go 3 (R.ar ((k : Int) + 1) (by kernel_rfl) (by omega) (by omega) (by kernel_rfl) ?_)
            exact R.go 2 (R.stop R43 (by kernel_rfl) (N44 (k + 1, Z) [1, 3, 4, 5, 6, 18, 19, 22, 23, 30, 31, 32] none _ (by kernel_rfl) (by kernel_rfl) ⟨(by omega), (by first | omega | (simp <;> omega)), (by first | exact dpI_y (by assumption) (by assumption) | exact dpI_n (by assumption) (by assumption))⟩ (by show ((mem ((clo xs).getD x 0)).length - (k + 1)) < ((mem ((clo xs).getD x 0)).length - k); omega)))
        · refine R.go 3 (R.ar ((x : Int) + 1) (by kernel_rfl) (by omega) (by omega) (by kernel_rfl) ?_)
          exact R.go 2 (R.stop R38 (by kernel_rfl) (N39 (x + 1, Z) [1, 3, 4, 5, 18, 19, 22, 23] (some [0, 1, 2, 3]) _ (by kernel_rfl) (by kernel_rfl) ⟨(by omega), (by first | omega | (simp <;> omega)), (by exact dpX_e2 (by assumption) (by assumption) (show k = (mem ((clo xs).getD x 0)).length by omega))⟩ (by show (n.toNat - (x + 1)) < (n.toNat - x); omega)))
      · refine R.go 3 (R.ar ((r : Int) + 1) (by kernel_rfl) (by omega) (by omega) (by kernel_rfl) ?_)
        exact R.go 2 (R.stop R33 (by kernel_rfl) (N34 (r + 1, Y) [1, 3, 4, 5, 18, 19] none _ (by kernel_rfl) (by kernel_rfl) ⟨(by omega), (by omega), (by exact dpR_e (by assumption) (show x = n.toNat by omega))⟩ (by show (n.toNat - (r + 1)) < (n.toNat - r); omega)))
    · exact R.go 6 (R.retE (ownA eI 2 1 X) (by kernel_rfl) (by kernel_rfl) (by first | (rw [‹X = dpR (clo xs) (clS (clo xs) n.toNat).1 n.toNat r›, show r = n.toNat by omega]; rfl) | (exfalso; omega)))

end Go.Proofs.Ytejaikeemahobaa
