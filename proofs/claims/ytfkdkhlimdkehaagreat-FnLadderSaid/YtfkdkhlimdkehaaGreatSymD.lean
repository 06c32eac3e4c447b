/- Soundness of the operations that write to no old memory: the theorem. -/
import Derived.Test.YtfkdkhlimdkehaaGreatSymC
import Derived.Laws.MakeOwn
namespace Go.Abs
open Go.RowKit

theorem Good.int {w Z B μ hp k n} {r : Result Next} (hH : HRel w Z B μ hp) (hr : r = .ok (.value (.int k n)) w) : Good w Z B μ hp (.int k n) [] r := Good.pure hH hr (by simp [Rel])
theorem Good.bool {w Z B μ hp b} {r : Result Next} (hH : HRel w Z B μ hp) (hr : r = .ok (.value (.bool b)) w) : Good w Z B μ hp (.bool b) [] r := Good.pure hH hr (by simp [Rel])

theorem field_parts {P : Program} {s f off k : Nat} (h : fieldB P s f = some (off, k)) : ∃ (fs : Array Field) (fd : Field) (i : TypeInfo), P.underlying s = some (.struct fs) ∧ fs[f]? = some fd ∧ P.info? fd.type = some i ∧ fd.offset = off ∧ i.size = k := by
  unfold fieldB at h
  split at h
  · rename_i fs hu
    simp only [Option.bind_eq_some_iff, Option.map_eq_some_iff, Prod.mk.injEq] at h
    obtain ⟨fd, hfd, i, hi, h1, h2⟩ := h
    exact ⟨fs, fd, i, hu, hfd, hi, h1, h2⟩
  · cases h

theorem fieldC_parts {P : Program} {s f off k : Nat} {b : Bool} (h : fieldC P s f = some (off, k, b)) : ∃ (fs : Array Field) (fd : Field), P.underlying s = some (.struct fs) ∧ fs[f]? = some fd ∧ sizeB P fd.type = some k ∧ fd.offset = off ∧ aggB P fd.type = some b := by
  unfold fieldC at h
  split at h
  · rename_i fs hu
    simp only [Option.bind_eq_some_iff, Option.map_eq_some_iff, Prod.mk.injEq] at h
    obtain ⟨fd, hfd, i, hi, b', hb, h1, h2, h3⟩ := h
    subst h3
    exact ⟨fs, fd, hu, hfd, by simp [sizeB, hi, h2], h1, hb⟩
  · cases h

theorem elem_parts {P : Program} {t e s : Nat} (h : elemB P t = some (e, s)) : P.underlying t = some (.slice e) ∧ ∃ i, P.info? e = some i ∧ i.size = s := by
  unfold elemB at h
  split at h
  · rename_i e' hu
    simp only [Option.map_eq_some_iff, Prod.mk.injEq] at h
    obtain ⟨i, hi, h1, h2⟩ := h
    subst h1
    exact ⟨hu, i, hi, h2⟩
  · cases h

theorem run_fieldAt {P : Program} {s f off k : Nat} {a : Addr} (h : fieldB P s f = some (off, k)) (hk : k ≠ 0) (w : World) :
    (Instr.fieldAt s (.pointer (some a)) f).run P w = .ok (.pointer (some (a.add off))) w := by
  obtain ⟨fs, fd, i, hu, hfd, hi, rfl, rfl⟩ := field_parts h
  simp [Instr.fieldAt, run_underlying hu, hfd, Instr.sureAddr, fieldPlace, sizeOf, typeInfo, hi, hk]

theorem run_indexAt {P : Program} {t el s : Nat} {a : Addr} {n c : Nat} {k : IntKind} {j : Int} (h : elemB P t = some (el, s)) (h0 : 0 ≤ j) (h1 : j < n) (w : World) :
    (Instr.indexAt t (.slice (some a) n c) (.int k j)).run P w = .ok (.pointer (some (a.add (j.toNat * s)))) w := by
  obtain ⟨hu, i, hi, rfl⟩ := elem_parts h
  simp [Instr.indexAt, run_underlying hu, asIntOf, h0, h1, sizeOf, typeInfo, hi]

theorem run_part1 {P : Program} {t off : Nat} {cs : Array Value} {x : Value} (ht : aggB P t = some false) (hx : cs[off]? = some x) (w : World) : (part t cs off).run P w = .ok x w := by
  simp [part, run_isAgg ht, hx]

theorem run_partN {P : Program} {t off k : Nat} {cs : Array Value} (ht : aggB P t = some true) (hk : sizeB P t = some k) (w : World) : (part t cs off).run P w = .ok (.agg (cs.extract off (off + k))) w := by
  simp [part, run_isAgg ht, run_size hk]

theorem zero_parts {P : Program} {t : Nat} {cs : List AV} (h : zeroB P t = some cs) : ∃ i z, P.info? t = some i ∧ i.zero = some z ∧ cs = z.cells.toList.map ofConst := by
  unfold zeroB at h
  simp only [Option.bind_eq_some_iff, Option.map_eq_some_iff] at h
  obtain ⟨i, hi, z, hz, h⟩ := h
  exact ⟨i, z, hi, hz, h.symm⟩

theorem ofConst_relL (w : World) (Z : Nat → Prop) (μ : List Value) : ∀ vs : List Value, RelL w Z μ (vs.map ofConst) vs
  | [] => RelL.nil
  | v :: vs => RelL.cons (ofConst_rel w Z μ v) (ofConst_relL w Z μ vs)

theorem run_equalB {P : Program} {t : TypeId} (ht : P.underlying t = some .bool) (a b : Bool) (w : World) : (Op.equal t (.bool a) (.bool b)).run P w = .ok (a == b) w := by
  have h : ∀ d : Nat, (Op.equalIn (d + 1) t (.bool a) (.bool b)).run P w = .ok (a == b) w := fun d => by
    simp only [Op.equalIn, Sem.run_bind, run_underlying ht, Result.andThen_ok]
    rfl
  simp only [Op.equal, Op.maxDepth, h 9999]

theorem drop_nonempty {xs : List Value} {k : Nat} (h : k < xs.length) : xs ≠ [] := by rintro rfl; simp at h

theorem relL_of_get {w : World} {Z : Nat → Prop} {μ : List Value} : ∀ {cs : List AV} {vs : List Value}, vs.length = cs.length → (∀ (j : Nat) c x, cs[j]? = some c → vs[j]? = some x → Rel w Z μ c x) → RelL w Z μ cs vs
  | [], vs, hl, _ => by simp at hl; subst hl; exact RelL.nil
  | c :: cs, [], hl, _ => by simp at hl
  | c :: cs, v :: vs, hl, h => RelL.cons (h 0 c v rfl rfl) (relL_of_get (by simpa using hl) fun j c' x hc hx => h (j + 1) c' x (by simpa using hc) (by simpa using hx))

theorem foldl_set (off : Nat) : ∀ (vs : List Value) (k : Nat) (cells : Array Value), off + k + vs.length ≤ cells.size →
    ((vs.zipIdx k).foldl (fun (cs : Array Value) (x : Value × Nat) => cs.setIfInBounds (off + x.2) x.1) cells).toList = cells.toList.take (off + k) ++ vs ++ cells.toList.drop (off + k + vs.length)
  | [], k, cells, _ => by simp
  | v :: vs, k, cells, h => by
    simp only [List.zipIdx_cons, List.foldl_cons, List.length_cons] at h ⊢
    rw [foldl_set off vs (k + 1) (cells.setIfInBounds (off + k) v) (by simp; omega)]
    rw [Array.toList_setIfInBounds]
    have hlt : off + k < cells.toList.length := by simp; omega
    have e1 : off + (k + 1) = off + k + 1 := by omega
    have a1 : (cells.toList.set (off + k) v).take (off + k + 1) = cells.toList.take (off + k) ++ [v] := by
      rw [List.take_add_one, List.take_set, List.set_eq_of_length_le (by rw [List.length_take]; omega)]
      rw [List.getElem?_set_self hlt]
      rfl
    have e2 : off + k + 1 + vs.length = off + k + (vs.length + 1) := by omega
    rw [e1, a1, List.drop_set_of_lt (by omega), e2]
    simp

theorem fill_rel {w : World} {Z : Nat → Prop} {μ : List Value} (hone : ∀ (i : Nat) u, μ[i]? = some u → u.oneCell' = true) {place : Nat → Option (Nat × Nat)} {e : Operand → AV} {ρ : Operand → Value} (hE : ∀ x, Rel w Z μ (e x) (ρ x)) :
    ∀ (parts : List (Nat × Operand)) (cells : List AV) (xs : Array Value) (cs : List AV), RelL w Z μ cells xs.toList → fillA place cells (parts.map fun x => (x.1, e x.2)) = some cs →
      ∃ ys, Instr.fill place xs (parts.map fun x => (x.1, ρ x.2)) = some ys ∧ RelL w Z μ cs ys.toList
  | [], cells, xs, cs, h, hf => by
    simp only [List.map_nil, fillA, Option.some.injEq] at hf
    subst hf
    exact ⟨xs, rfl, h⟩
  | (i, x) :: parts, cells, xs, cs, h, hf => by
    simp only [List.map_cons, fillA] at hf
    split at hf
    · cases hf
    · rename_i off size hpl
      split at hf
      · rename_i hc
        simp only [Bool.and_eq_true, beq_iff_eq, decide_eq_true_eq] at hc
        obtain ⟨⟨hfull, hsize⟩, hle⟩ := hc
        have hr := cells_rel hone (hE x) (by rintro b hb; rw [hb] at hfull; simp [AV.full] at hfull) (.inl (by rintro hb; rw [hb] at hfull; simp [AV.full] at hfull))
        have hl1 := hr.length
        have hl2 := h.length
        simp only [Array.length_toList] at hl1 hl2
        obtain ⟨ys, hy, hry⟩ := fill_rel hone hE parts (setMany cells off (e x).cells) ((ρ x).cells.zipIdx.foldl (fun cs (c, j) => cs.setIfInBounds (off + j) c) xs) cs (by
          have h1 := foldl_set off (ρ x).cells.toList 0 xs (by simp; omega)
          have e1 : ((ρ x).cells.zipIdx.foldl (fun cs (c, j) => cs.setIfInBounds (off + j) c) xs).toList = (((ρ x).cells.toList.zipIdx 0).foldl (fun (cs : Array Value) (x : Value × Nat) => cs.setIfInBounds (off + x.2) x.1) xs).toList := by
            rw [← Array.foldl_toList]; simp
          rw [e1, h1]
          simp only [Nat.add_zero, setMany, Array.length_toList, hl1]
          exact ((h.take off).append hr).append (h.drop _)) hf
        refine ⟨ys, ?_, hry⟩
        simp only [List.map_cons, Instr.fill, hpl]
        rw [if_neg (by simp; omega)]
        exact hy
      · cases hf

theorem fillA_length (place : Nat → Option (Nat × Nat)) : ∀ (parts : List (Nat × AV)) (cells cs : List AV), fillA place cells parts = some cs → cs.length = cells.length
  | [], cells, cs, h => by simp only [fillA, Option.some.injEq] at h; rw [h]
  | (i, v) :: parts, cells, cs, h => by
    simp only [fillA] at h
    split at h
    · cases h
    · split at h
      · rename_i hc
        simp only [Bool.and_eq_true, beq_iff_eq, decide_eq_true_eq] at hc
        rw [fillA_length place parts _ cs h]
        simp only [setMany, List.length_append, List.length_take, List.length_drop]
        omega
      · cases h

theorem run_mapM {P : Program} {α β : Type} (f : α → Sem β) (g : α → Option β) (w : World) (h : ∀ a b, g a = some b → (f a).run P w = .ok b w) : ∀ (l : List α) (bs : List β), l.mapM g = some bs → (l.mapM f).run P w = .ok bs w
  | [], bs, hb => by simp at hb; subst hb; rfl
  | a :: l, bs, hb => by
    simp only [List.mapM_cons, Option.bind_eq_bind, Option.bind_eq_some_iff, Option.pure_def, Option.some.injEq] at hb
    obtain ⟨b, hb1, bs', hb2, rfl⟩ := hb
    simp [List.mapM_cons, h a b hb1, run_mapM f g w h l bs' hb2]

theorem row_parts {P : Program} {t el s b : Nat} {zs : List AV} (h : rowB P t = some (el, s, zs, b)) : ∃ i z, P.underlying t = some (.slice el) ∧ P.info? el = some i ∧ i.zero = some z ∧ i.size = s ∧ i.bytes = b ∧ z.cells.size = s ∧ 0 < s ∧ zs = z.cells.toList.map ofConst := by
  unfold rowB at h
  split at h
  · rename_i e' hu
    simp only [Option.bind_eq_some_iff] at h
    obtain ⟨i, hi, z, hz, h⟩ := h
    split at h
    · rename_i hc
      simp only [Option.some.injEq, Prod.mk.injEq] at h
      obtain ⟨rfl, rfl, rfl, rfl⟩ := h
      exact ⟨i, z, hu, hi, hz, rfl, rfl, hc.1, hc.2, rfl⟩
    · cases h
  · cases h

theorem zeros_rel {w : World} {Z : Nat → Prop} {μ : List Value} (z : Array Value) (s n : Nat) (hs : z.size = s) (h0 : 0 < s) (f : Nat → Value) (hf : ∀ j, j < n * s → f j = z[j % s]!) :
    RelL w Z μ (zerosA (z.toList.map ofConst) s n) ((List.range (n * s)).map f) := by
  refine relL_of_get (by simp [zerosA]) fun j c x hc hx => ?_
  simp only [zerosA, List.getElem?_map, Option.map_eq_some_iff] at hc hx
  obtain ⟨k, hk, rfl⟩ := hc
  obtain ⟨k', hk', rfl⟩ := hx
  have hj := (List.getElem?_eq_some_iff.1 hk).1
  simp only [List.length_range] at hj
  simp only [List.getElem?_range hj, Option.some.injEq] at hk hk'
  subst hk; subst hk'
  have hlt : j % s < z.size := by rw [hs]; exact Nat.mod_lt _ h0
  rw [hf j hj]
  have e1 : (z.toList.map ofConst).getD (j % s) .top = ofConst z[j % s]! := by
    simp [List.getD_eq_getElem?_getD, hlt]
  rw [e1]
  exact ofConst_rel _ _ _ _

theorem run_bound {P : Program} (k : IntKind) (l y : Nat) (code : BoundsCode) (h : l ≤ y) (w : World) : (Instr.sliceBound (.int k l) y code).run P w = .ok l w := by
  have h1 : (0 : Int) ≤ (l : Int) ∧ (l : Int) ≤ (y : Int) := ⟨by omega, by omega⟩
  simp [Instr.sliceBound, asIntOf]
  omega

theorem run_sliceAt {P : Program} {t el s : Nat} (h : elemB P t = some (el, s)) (a : Option Addr) (n c : Nat) (lo hi mx : Option Value) (l h' m : Nat) (hb : ∀ w, (Instr.sliceBounds true n c lo hi mx).run P w = .ok (l, h', m) w) (w : World) :
    (Instr.sliceAt t (.slice a n c) lo hi mx).run P w = .ok (.slice (if m = l then a else a.map (·.add (l * s))) (h' - l) (m - l)) w := by
  obtain ⟨hu, i, hi, rfl⟩ := elem_parts h
  simp [Instr.sliceAt, Instr.slice, run_underlying hu, hb, sizeOf, typeInfo, hi]

theorem lst_cut {w : World} {Z : Nat → Prop} {μ : List Value} {s n l h m : Nat} {cs : List AV} {A : Option Addr} {xs : List Value} (hl : cs.length = n * s) (hrd : Rd w Z A xs) (hr : RelL w Z [] cs xs) (h1 : l ≤ h) (h2 : h ≤ n) (h3 : h ≤ m) :
    Rel w Z μ (.lst s (h - l) ((cs.drop (l * s)).take ((h - l) * s))) (.slice (if m = l then A else A.map (·.add (l * s))) (h - l) (m - l)) := by
  simp only [Rel]
  have hlen : ((cs.drop (l * s)).take ((h - l) * s)).length = (h - l) * s := by
    have e1 : h * s = (h - l) * s + l * s := by rw [← Nat.add_mul]; congr 1; omega
    have e2 : h * s ≤ n * s := Nat.mul_le_mul_right s h2
    simp only [List.length_take, List.length_drop, hl]
    omega
  refine ⟨_, _, (xs.drop (l * s)).take ((h - l) * s), rfl, hlen, by omega, ?_, (hr.drop _).take _⟩
  by_cases hm : m = l
  · have : h - l = 0 := by omega
    simp [this, Rd]
  · rw [if_neg hm]
    exact (hrd.drop _).take _

set_option maxHeartbeats 1000000 in
theorem EffR.sound {P : Program} {w : World} {Z : Nat → Prop} {B : Nat} {μ : List Value} {hp : List AObj} {e : Operand → AV} {ρ : Operand → Value} {o : Oper} {v : AV} {news : List AObj}
    (hH : HRel w Z B μ hp) (hZ : ∀ b, w.heap.size ≤ b → Z b) (hE : ∀ x, Rel w Z μ (e x) (ρ x)) (hB : B ≤ w.heap.size) (h : EffR P e hp o.op v news) : Good w Z B μ hp v news ((execOp ρ o).run P w) := by
  obtain ⟨dst, op, ty, pos, after, guard⟩ := o
  simp only at h
  cases h with
  | move => exact Good.pure hH rfl (hE _)
  | assign => exact Good.pure hH rfl (hE _)
  | pick t h =>
    rename_i c x y
    have hc := rel_bool (h ▸ hE c)
    refine Good.pure (x := if t then ρ x else ρ y) hH (by simp [execOp, hc, asBool]) ?_
    cases t
    · exact hE y
    · exact hE x
  | bin k m n hx hy hv =>
    rename_i op t x y ty
    have h1 := rel_int (hx ▸ hE x)
    have h2 := rel_int (hy ▸ hE y)
    cases op <;> simp only [binA, Option.some.injEq, reduceCtorEq] at hv <;> subst hv <;>
      first
        | exact Good.int hH (by simp [execOp, h1, h2, eqGuard_at_int, binOp_add, binOp_sub, binOp_mul, binOp_and, binOp_or, binOp_xor, binOp_andNot, Op.intArith, intBits_and, intBits_or, intBits_xor, intBits_andNot])
        | exact Good.bool hH (by simp [execOp, h1, h2, eqGuard_at_int, binOp_eql, binOp_neq, binOp_lss, binOp_leq, binOp_gtr, binOp_geq])
  | quo k m n hx hy hn =>
    rename_i t x y ty
    have h1 := rel_int (hx ▸ hE x)
    have h2 := rel_int (hy ▸ hE y)
    exact Good.int hH (by simp [execOp, h1, h2, binOp_quo, eqGuard_quo, Op.intDiv, hn])
  | rem k m n hx hy hn =>
    rename_i t x y ty
    have h1 := rel_int (hx ▸ hE x)
    have h2 := rel_int (hy ▸ hE y)
    exact Good.int hH (by simp [execOp, h1, h2, binOp_rem, eqGuard_rem, Op.intDiv, hn])
  | shl k k' m n hx hy h0 =>
    rename_i t x y ty
    have h1 := rel_int (hx ▸ hE x)
    have h2 := rel_int (hy ▸ hE y)
    have h0' : ¬ n < 0 := by omega
    exact Good.int hH (by simp [execOp, h1, h2, binOp_shl, eqGuard_shl, Op.shift, h0'])
  | shr k k' m n hx hy h0 =>
    rename_i t x y ty
    have h1 := rel_int (hx ▸ hE x)
    have h2 := rel_int (hy ▸ hE y)
    have h0' : ¬ n < 0 := by omega
    exact Good.int hH (by simp [execOp, h1, h2, binOp_shr, eqGuard_shr, Op.shift, h0'])
  | eqlB b c hx hy ht =>
    rename_i t x y ty
    have h1 := rel_bool (hx ▸ hE x)
    have h2 := rel_bool (hy ▸ hE y)
    exact Good.bool hH (by simp only [execOp, h1, h2, eqGuard_at_bool, binOp, Sem.run_bind, Sem.run_pure, Result.andThen_ok, run_equalB ht])
  | neqB b c hx hy ht =>
    rename_i t x y ty
    have h1 := rel_bool (hx ▸ hE x)
    have h2 := rel_bool (hy ▸ hE y)
    exact Good.bool hH (by simp only [execOp, h1, h2, eqGuard_at_bool, binOp, Sem.run_bind, Sem.run_pure, Result.andThen_ok, run_equalB ht])
  | not b hx =>
    rename_i t x
    have h1 := rel_bool (hx ▸ hE x)
    exact Good.bool hH (by simp [execOp, h1, Op.unary])
  | neg k n hx =>
    rename_i t x
    have h1 := rel_int (hx ▸ hE x)
    exact Good.int hH (by simp [execOp, h1, Op.unary, Op.intArith])
  | conv k k' n hx hs hd =>
    rename_i s d x
    have h1 := rel_int (hx ▸ hE x)
    obtain ⟨d1, hd1⟩ := Option.isSome_iff_exists.mp hs
    have hd2 : P.underlying d = some (.int k') := by
      unfold intB at hd
      split at hd
      · rename_i k2 hu; simp only [Option.some.injEq] at hd; subst hd; exact hu
      · cases hd
    exact Good.int hH (by simp [execOp, h1, convert, run_underlying hd1, run_underlying hd2, Conv.intToInt])
  | extract cs hx hi =>
    rename_i x i
    have h1 := hx ▸ hE x
    simp only [Rel] at h1
    obtain ⟨xs, h2, hr⟩ := h1
    obtain ⟨u, hu, hru⟩ := hr.get hi
    exact Good.pure hH (by simp [execOp, h2, Instr.extract, hu] <;> rfl) hru
  | nilP i o hx =>
    rename_i x
    have h1 := hx ▸ hE x
    simp only [Rel] at h1
    obtain ⟨u, g, hu, hg, h2⟩ := h1
    exact Good.pure hH (by simp [execOp, h2] <;> rfl) (by simp only [Rel]; exact ⟨u, g, hu, hg, rfl⟩)
  | nilR cs hx =>
    rename_i x
    have h1 := hx ▸ hE x
    simp only [Rel] at h1
    obtain ⟨ad, xs, h2, hrd, hr⟩ := h1
    exact Good.pure hH (by simp [execOp, h2] <;> rfl) (by simp only [Rel]; exact ⟨ad, xs, rfl, hrd, hr⟩)
  | fieldAddr i o off k hx hf hk =>
    rename_i s x f
    have h1 := hx ▸ hE x
    simp only [Rel] at h1
    obtain ⟨u, g, hu, hg, h2⟩ := h1
    exact Good.pure hH (by simp [execOp, h2, run_fieldAt hf hk] <;> rfl) (by
      simp only [Rel]; exact ⟨u, g, hu, hg, by rw [add_lit']⟩)
  | fieldAddrR cs off k hx hf hk =>
    rename_i s x f
    have h1 := hx ▸ hE x
    simp only [Rel] at h1
    obtain ⟨ad, xs, h2, hrd, hr⟩ := h1
    exact Good.pure hH (by simp [execOp, h2, run_fieldAt hf hk] <;> rfl) (by
      simp only [Rel]; exact ⟨ad.add off, xs.drop off, rfl, hrd.drop off, hr.drop off⟩)
  | field1 cs off k hx hf hv =>
    rename_i s x f
    have h1 := hx ▸ hE x
    simp only [Rel] at h1
    obtain ⟨xs, h2, hr⟩ := h1
    obtain ⟨fs, fd, hu, hfd, _, rfl, hb⟩ := fieldC_parts hf
    obtain ⟨u, hu2, hru⟩ := hr.get hv
    exact Good.pure hH (by simp [execOp, h2, Instr.field, run_underlying hu, hfd, asAgg, run_part1 hb (show xs.toArray[fd.offset]? = some u by simpa using hu2)] <;> rfl) hru
  | fieldN cs off k hx hf =>
    rename_i s x f
    have h1 := hx ▸ hE x
    simp only [Rel] at h1
    obtain ⟨xs, h2, hr⟩ := h1
    obtain ⟨fs, fd, hu, hfd, hk, rfl, hb⟩ := fieldC_parts hf
    exact Good.pure hH (by simp [execOp, h2, Instr.field, run_underlying hu, hfd, asAgg, run_partN hb hk] <;> rfl) (by
      simp only [Rel]; exact ⟨(xs.drop fd.offset).take k, by simp [List.take_drop, Nat.add_comm], (hr.drop _).take _⟩)
  | indexAddr s n cs k j el hx hy ht hs h0 h1 =>
    rename_i t x y
    have hx1 := hx ▸ hE x
    have hy1 := rel_int (hy ▸ hE y)
    simp only [Rel] at hx1
    obtain ⟨A, c, xs, h2, hl, hnc, hrd, hr⟩ := hx1
    have hne : xs ≠ [] := by
      have := hr.length
      have hp : 0 < n * s := Nat.mul_pos (by omega) (by omega)
      intro h0
      rw [h0] at this
      simp at this
      omega
    obtain ⟨ad, rfl, hz, hc⟩ := hrd hne
    refine Good.pure (x := .pointer (some (ad.add (j.toNat * s)))) hH (by simp [execOp, h2, hy1, run_indexAt ht h0 h1]) ?_
    simp only [Rel]
    exact ⟨ad.add (j.toNat * s), xs.drop (j.toNat * s), rfl, Rd.drop (A := some ad) (fun _ => ⟨ad, rfl, hz, hc⟩) _, hr.drop _⟩
  | indexAddrE s n cs k j el ds rest hx hy ht hs h0 h1 hd =>
    rename_i t x y
    have hx1 := hx ▸ hE x
    have hy1 := rel_int (hy ▸ hE y)
    simp only [Rel] at hx1
    obtain ⟨A, c, xs, h2, hl, hnc, hrd, hr⟩ := hx1
    have hne : xs ≠ [] := by
      have := hr.length
      have hp : 0 < n * s := Nat.mul_pos (by omega) (by omega)
      intro h0
      rw [h0] at this
      simp at this
      omega
    obtain ⟨ad, rfl, hz, hc⟩ := hrd hne
    refine Good.pure (x := .pointer (some (ad.add (j.toNat * s)))) hH (by simp [execOp, h2, hy1, run_indexAt ht h0 h1]) ?_
    simp only [Rel]
    have h5 := (hr.drop (j.toNat * s)).take ds.length
    rw [hd, List.take_left' rfl] at h5
    exact ⟨ad.add (j.toNat * s), (xs.drop (j.toNat * s)).take ds.length, rfl, Rd.take (A := some (ad.add (j.toNat * s))) (Rd.drop (A := some ad) (fun _ => ⟨ad, rfl, hz, hc⟩) _) _, h5⟩
  | indexAddrO i el s n cs k j hx hi hy ht hs h0 h1 =>
    rename_i t x y
    have hx1 := hx ▸ hE x
    have hy1 := rel_int (hy ▸ hE y)
    simp only [Rel] at hx1
    obtain ⟨xs, hown, _⟩ := hH.obj i _ _ hi hx1
    rcases hown.2 with ⟨_, h3⟩ | ⟨g, cap, cur, h2, _⟩
    · omega
    · refine Good.pure (x := .pointer (some ((⟨g, 0, none⟩ : Addr).add (j.toNat * s)))) hH (by simp [execOp, h2, hy1, run_indexAt ht h0 h1]) ?_
      simp only [Rel]
      exact ⟨ρ x, g, hx1, by rw [h2]; rfl, by rw [add_lit']; simp⟩
  | load i o ob hx hi ht hv =>
    rename_i t x
    have h1 := hx ▸ hE x
    simp only [Rel] at h1
    obtain ⟨u, g, hu, hg, h2⟩ := h1
    obtain ⟨y, hy, hry⟩ := obj_cell (hH.obj i ob u hi hu) hg hv
    exact Good.pure hH (by simp [execOp, h2, Instr.loadAt, Instr.sureAddr, run_loadVar1 ht hy] <;> rfl) hry
  | loadN i o k ob hx hi ht hk hl =>
    rename_i t x
    have h1 := hx ▸ hE x
    simp only [Rel] at h1
    obtain ⟨u, g, hu, hg, h2⟩ := h1
    obtain ⟨xs, hr, hc⟩ := obj_cells (hH.obj i ob u hi hu)
    have hlen := hr.length
    have hrun := run_loadVarN (P := P) (w := w) (a := ⟨g, o, none⟩) (xs := (xs.drop o).take k) ht hk (by simp; omega) (fun j v hv => by
      rw [add_lit']
      refine hc g hg (o + j) v ?_
      rw [List.getElem?_take] at hv
      split at hv
      · rwa [List.getElem?_drop] at hv
      · cases hv)
    exact Good.pure hH (by simp [execOp, h2, Instr.loadAt, Instr.sureAddr, hrun] <;> rfl) (by
      simp only [Rel]; exact ⟨_, rfl, (hr.drop _).take _⟩)
  | loadR cs hx ht hv =>
    rename_i t x
    have h1 := hx ▸ hE x
    simp only [Rel] at h1
    obtain ⟨ad, xs, h2, hrd, hr⟩ := h1
    obtain ⟨y, hy, hry⟩ := hr.get hv
    obtain ⟨ad', he, _, hc⟩ := hrd (by rintro rfl; simp at hy)
    simp only [Option.some.injEq] at he
    subst he
    have hcell := hc 0 y hy
    rw [Addr.add_zero'] at hcell
    exact Good.pure hH (by simp [execOp, h2, Instr.loadAt, Instr.sureAddr, run_loadVar1 ht hcell] <;> rfl) hry.lift
  | loadRN cs k hx ht hk hl =>
    rename_i t x
    have h1 := hx ▸ hE x
    simp only [Rel] at h1
    obtain ⟨ad, xs, h2, hrd, hr⟩ := h1
    have hlen := hr.length
    have hrun := run_loadVarN (P := P) (w := w) (a := ad) (xs := xs.take k) ht hk (by simp; omega) (fun j v hv => by
      rw [List.getElem?_take] at hv
      split at hv
      · obtain ⟨ad', he, _, hc⟩ := hrd (by rintro rfl; simp at hv)
        simp only [Option.some.injEq] at he
        subst he
        exact hc j v hv
      · cases hv)
    exact Good.pure hH (by simp [execOp, h2, Instr.loadAt, Instr.sureAddr, hrun] <;> rfl) (by
      simp only [Rel]; exact ⟨_, rfl, (hr.take _).lift⟩)
  | lenR s n cs hx ht =>
    rename_i x t
    have h1 := hx ▸ hE x
    simp only [Rel] at h1
    obtain ⟨A, c, xs, h2, _⟩ := h1
    obtain ⟨⟨e1, e2⟩, he⟩ := Option.isSome_iff_exists.mp ht
    obtain ⟨hu, _⟩ := elem_parts he
    exact Good.int hH (by simp [execOp, resolve, invoke, builtin, h2, Builtin.len_, run_underlying hu, goInt])
  | lenO i el s n cs hx hi ht =>
    rename_i x t
    have h1 := hx ▸ hE x
    simp only [Rel] at h1
    obtain ⟨⟨e1, e2⟩, he⟩ := Option.isSome_iff_exists.mp ht
    obtain ⟨hu, _⟩ := elem_parts he
    obtain ⟨xs, hown, _⟩ := hH.obj i _ _ hi h1
    rcases hown.2 with ⟨h2, h3⟩ | ⟨g, cap, cur, h2, _⟩
    · subst h3
      exact Good.int hH (by simp [execOp, resolve, invoke, builtin, h2, Builtin.len_, run_underlying hu, goInt])
    · exact Good.int hH (by simp [execOp, resolve, invoke, builtin, h2, Builtin.len_, run_underlying hu, goInt])
  | lenN hx ht =>
    rename_i x t
    have h1 := hx ▸ hE x
    simp only [Rel] at h1
    obtain ⟨⟨e1, e2⟩, he⟩ := Option.isSome_iff_exists.mp ht
    obtain ⟨hu, _⟩ := elem_parts he
    exact Good.int hH (by simp [execOp, resolve, invoke, builtin, h1, Builtin.len_, run_underlying hu, goInt])
  | capN hx ht =>
    rename_i x t
    have h1 := hx ▸ hE x
    simp only [Rel] at h1
    obtain ⟨⟨e1, e2⟩, he⟩ := Option.isSome_iff_exists.mp ht
    obtain ⟨hu, _⟩ := elem_parts he
    exact Good.int hH (by simp [execOp, resolve, invoke, builtin, h1, Builtin.cap_, run_underlying hu, goInt])
  | sliceN k hx hhi ht =>
    rename_i t x hi
    have h1 := hx ▸ hE x
    simp only [Rel] at h1
    have hh1 := rel_int (hhi ▸ hE hi)
    obtain ⟨⟨e1, e2⟩, he⟩ := Option.isSome_iff_exists.mp ht
    have hb0 : ∀ w, (Instr.sliceBound (.int k 0) 0 .sliceAcap).run P w = .ok 0 w := fun w => by simpa using run_bound (P := P) k 0 0 .sliceAcap (Nat.le_refl _) w
    have hb := run_sliceAt (P := P) he none 0 0 none (some (.int k 0)) none 0 0 0 (fun w => by simp [Instr.sliceBounds, hb0 w]) w
    exact Good.pure (x := .slice none 0 0) hH (by simp only [execOp, h1, hh1, Option.map_some, Option.map_none, Sem.run_bind, hb, Result.andThen_ok, Sem.run_pure]; simp) (by simp [Rel])
  | max2 k m n hx hy =>
    rename_i x y tys
    have h1 := rel_int (hx ▸ hE x)
    have h2 := rel_int (hy ▸ hE y)
    exact Good.int hH (by simp [execOp, resolve, invoke, builtin, h1, h2, Builtin.max_, Builtin.max2])
  | min2 k m n hx hy =>
    rename_i x y tys
    have h1 := rel_int (hx ▸ hE x)
    have h2 := rel_int (hy ▸ hE y)
    exact Good.int hH (by simp [execOp, resolve, invoke, builtin, h1, h2, Builtin.min_, Builtin.min2])
  | makeSliceC el s by_ n c k k' zs ht hx hy hnc hb hn =>
    rename_i t x y
    have hx1 := rel_int (hx ▸ hE x)
    have hy1 := rel_int (hy ▸ hE y)
    obtain ⟨i, z, hu, hi, hz, rfl, rfl, hzs, h0, rfl⟩ := row_parts ht
    have h63 : (c : Int) ≤ 9223372036854775807 := by
      have h := hn
      simp [maxLen] at h
      omega
    have hbi : (i.bytes : Int) * (c : Int) ≤ 281474976710656 := by
      have h : ((i.bytes * c : Nat) : Int) ≤ 281474976710656 := by omega
      rwa [Int.natCast_mul] at h
    have hrun := run_make (P := P) w t el i z hu hi hz k k' n c (by omega) (by omega) hbi h63
    simp only [Int.toNat_natCast] at hrun
    have hbel : Below w.heap.size w (w.alloc (.cells (madeCells z.cells (c * i.size)) el)) := (Below.refl _ _).alloc (Nat.le_refl _) _
    have hle : n * i.size ≤ c * i.size := Nat.mul_le_mul_right _ hnc
    have hml : (madeCells z.cells (c * i.size)).toList = (List.range (c * i.size)).map (fun j => z.cells[j % i.size]!) := by simp [madeCells, hzs]
    have htk : ((List.range (c * i.size)).map (fun j => z.cells[j % i.size]!)).take (n * i.size) = (List.range (n * i.size)).map (fun j => z.cells[j % i.size]!) := by
      rw [← List.map_take]
      congr 1
      apply List.ext_getElem?
      intro j
      rw [List.getElem?_take]
      split
      · rename_i hj
        rw [List.getElem?_range (by omega), List.getElem?_range hj]
      · rename_i hj
        rw [List.getElem?_eq_none (by simpa using hj)]
    refine ⟨_, _, [.slice (some ⟨w.heap.size, 0, none⟩) n c], by simp only [execOp, hx1, hy1, Sem.run_bind, hrun, Result.andThen_ok, Sem.run_pure]; rfl, hbel, hH.extend1 hZ hbel ⟨(List.range (n * i.size)).map (fun j => z.cells[j % i.size]!), ?_, ?_⟩ (by simp [blk]) rfl, ?_⟩
    · refine ⟨by simp, .inr ⟨w.heap.size, c, _, rfl, hB, heap_alloc_new w _, hnc, hn, ?_, ?_⟩⟩
      · rw [← Array.length_toList, hml]; simp
      · rw [hml, htk]
    · exact zeros_rel z.cells i.size n hzs h0 _ (fun j _ => rfl)
    · simp only [Rel]
      rw [← hH.len]; simp
  | alloc cs hz =>
    rename_i t
    obtain ⟨i, z, hi, hzz, rfl⟩ := zero_parts hz
    refine Good.new (u := .pointer (some ⟨w.heap.size, 0, none⟩)) (ob := .cells z.cells t) hH hZ (by simp [execOp, Instr.alloc, zeroValue, typeInfo, hi, hzz, newVar, newRow, newObj] <;> rfl)
      ⟨w.heap.size, z.cells.toList, rfl, hB, by simpa using heap_alloc_new w _, ofConst_relL _ _ _ _⟩ (by simp [blk]) rfl ?_
    simp only [Rel]
    exact ⟨.pointer (some ⟨w.heap.size, 0, none⟩), w.heap.size, by rw [← hH.len]; simp, rfl, rfl⟩
  | box hx =>
    rename_i t x
    have h1 := hE x
    have hc := cells_rel hH.one h1 (by rintro b hb; rw [hb] at hx; simp [AV.full] at hx) (.inl (by rintro hb; rw [hb] at hx; simp [AV.full] at hx))
    refine Good.new (u := .pointer (some ⟨w.heap.size, 0, none⟩)) (ob := .cells (ρ x).cells t) hH hZ (by simp [execOp, Instr.box, newVar, newRow, newObj] <;> rfl)
      ⟨w.heap.size, (ρ x).cells.toList, rfl, hB, by simpa using heap_alloc_new w _, hc.keep (fun b hb _ => Below.heap_alloc w _ b hb) (fun i u hu => by rw [List.getElem?_append_left (List.getElem?_eq_some_iff.1 hu).1]; exact hu)⟩ (by simp [blk]) rfl ?_
    simp only [Rel]
    exact ⟨.pointer (some ⟨w.heap.size, 0, none⟩), w.heap.size, by rw [← hH.len]; simp, rfl, rfl⟩
  | makeFunc =>
    rename_i f caps
    refine Good.pure (x := .func (.func f) #[] (caps.map ρ)) hH (by simp [execOp, Instr.makeFunc]) ?_
    simp only [Rel]
    refine ⟨caps.toList.map ρ, by rw [← Array.toList_map], ?_⟩
    generalize caps.toList = l
    induction l with
    | nil => exact RelL.nil
    | cons x l ih => exact RelL.cons (hE x) ih
  | build pl zs cs hpl hz hf =>
    rename_i t parts
    obtain ⟨i, z, hi, hzz, rfl⟩ := zero_parts hz
    obtain ⟨ys, hy, hry⟩ := fill_rel hH.one hE parts.toList _ z.cells cs (ofConst_relL w Z μ _) hf
    unfold placesB at hpl
    split at hpl
    · rename_i fs hu
      have hm := run_mapM (P := P) (fun f : Field => do pure (f.offset, ← sizeOf f.type)) (fun f => (P.info? f.type).map fun i => (f.offset, i.size)) w (fun f b hb => by
        simp only [Option.map_eq_some_iff] at hb
        obtain ⟨i, hi, rfl⟩ := hb
        simp [sizeOf, typeInfo, hi]) fs.toList pl hpl
      have hm' : (fs.mapM (fun f : Field => do pure (f.offset, ← sizeOf f.type))).run P w = .ok pl.toArray w := by
        rw [Array.mapM_eq_mapM_toList, Sem.run_map, hm]
        rfl
      have hy' : Instr.fill (fun x => pl.toArray[x]?) z.cells (parts.map fun (i, x) => (i, ρ x)).toList = some ys := by
        simpa using hy
      have hb : (Instr.build t (parts.map fun (i, x) => (i, ρ x))).run P w = .ok (.agg ys) w := by
        simp only [Instr.build, Sem.run_bind, run_cells_box t i z hi hzz, Result.andThen_ok, run_underlying hu, hm', hy']
        rfl
      refine Good.pure (x := .agg ys) hH (by simp only [execOp, Sem.run_bind, hb, Result.andThen_ok, Sem.run_pure]) ?_
      simp only [Rel]
      exact ⟨ys.toList, by simp, hry⟩
    · cases hpl
  | buildSlice el s by_ zs cs ht hn hf hlf =>
    rename_i t n parts
    obtain ⟨i, z, hu, hi, hz, rfl, hby, hzs, h0, rfl⟩ := row_parts ht
    obtain ⟨arr, harr⟩ : ∃ arr : Array Value, arr = (Array.range (n * i.size)).map (z.cells[· % z.cells.size]!) := ⟨_, rfl⟩
    obtain ⟨ys, hy, hry⟩ := fill_rel hH.one hE parts.toList _ arr cs (by
      have e1 : arr.toList = (List.range (n * i.size)).map (fun j => z.cells[j % i.size]!) := by rw [harr]; simp [hzs]
      rw [e1]; exact zeros_rel z.cells i.size n hzs h0 _ (fun j _ => rfl)) hf
    have hlen : ys.size = n * i.size := by
      have h1 := hry.length
      rw [fillA_length _ _ _ _ hf, zerosA] at h1
      simpa using h1
    have hb : (Instr.buildSlice t n (parts.map fun (i, x) => (i, ρ x))).run P w = .ok (.slice (some ⟨w.heap.size, 0, none⟩) n n) (w.alloc (.cells ys el)) := by
      have hy' : Instr.fill (fun k => some (k * i.size, i.size)) arr (parts.map fun (i, x) => (i, ρ x)).toList = some ys := by simpa using hy
      have hng : ¬ (n * i.size > 2 ^ 24) := by omega
      by_cases hz0 : n * i.size = 0
      · have ha : arr = #[] := by rw [harr, hz0]; simp
        rw [ha] at hy'
        simp only [Instr.buildSlice, Sem.run_bind, run_underlying hu, Result.andThen_ok, run_size (show sizeB P el = some i.size by simp [sizeB, hi]), hz0, if_true, Array.range_zero', Array.map_empty, hy']
        rfl
      · rw [harr] at hy'
        simp only [Instr.buildSlice, Sem.run_bind, run_underlying hu, Result.andThen_ok, run_size (show sizeB P el = some i.size by simp [sizeB, hi]), if_neg hng, Sem.run_pure, if_neg hz0, run_cells_box el i z hi hz, hy']
        rfl
    refine Good.new (u := .slice (some ⟨w.heap.size, 0, none⟩) n n) (ob := .cells ys el) (x := .slice (some ⟨w.heap.size, 0, none⟩) n n) hH hZ (by simp only [execOp, Sem.run_bind, hb, Result.andThen_ok, Sem.run_pure]) ⟨ys.toList, World.ownsRow_lit w ys n hB ?_ hlen, ?_⟩ (by simp [blk]) rfl ?_
    · have : n ≤ n * i.size := Nat.le_mul_of_pos_right n h0
      unfold maxLen; omega
    · exact (RelL.leafy hlf hry).keep (fun b hb _ => Below.heap_alloc w _ b hb) (fun i u hu => hu)
    · simp only [Rel]
      rw [← hH.len]; simp
  | makeSlice el s by_ n k k' zs ht hx hy hb hn =>
    rename_i t x y
    have hx1 := rel_int (hx ▸ hE x)
    have hy1 := rel_int (hy ▸ hE y)
    obtain ⟨i, z, hu, hi, hz, rfl, rfl, hzs, h0, rfl⟩ := row_parts ht
    obtain ⟨w', hrun, hown, hg⟩ := run_make_full (P := P) w B t el i z i.size hu hi hz rfl k k' n (by omega) hn hB
    have hbel : Below w.heap.size w w' := ⟨hg.os, hg.tape, hg.output, hg.size, fun j hj => hg.block j hj (by simp)⟩
    refine ⟨_, w', [.slice (some ⟨w.heap.size, 0, none⟩) n n], by simp only [execOp, hx1, hy1, Sem.run_bind, hrun, Result.andThen_ok, Sem.run_pure]; rfl, hbel, hH.extend1 hZ hbel ⟨_, hown, ?_⟩ (by simp [blk]) rfl, ?_⟩
    · have e1 : (madeCells z.cells (n * i.size)).toList = (List.range (n * i.size)).map (fun j => z.cells[j % i.size]!) := by simp [madeCells, hzs]
      rw [e1]
      exact zeros_rel z.cells i.size n hzs h0 _ (fun j _ => rfl)
    · simp only [Rel]
      rw [← hH.len]; simp
  | sliceLH s n el cs k k' l h hx hlo hhi ht h1 h2 =>
    rename_i t x lo hi
    have hx1 := hx ▸ hE x
    have hl1 := rel_int (hlo ▸ hE lo)
    have hh1 := rel_int (hhi ▸ hE hi)
    simp only [Rel] at hx1
    obtain ⟨A, c, xs, h3, hl, hnc, hrd, hr⟩ := hx1
    have hb := run_sliceAt (P := P) ht A n c (some (.int k l)) (some (.int k' h)) none l h c (fun w => by simp [Instr.sliceBounds, run_bound (P := P) k' h c _ (by omega), run_bound (P := P) k l h _ h1]) w
    refine Good.pure hH ?_ (lst_cut (m := c) hl hrd hr h1 h2 (by omega))
    simp only [execOp, h3, hl1, hh1, Option.map_some, Option.map_none, Sem.run_bind, hb, Result.andThen_ok, Sem.run_pure]
  | sliceL s n el cs k l hx hlo ht h1 =>
    rename_i t x lo
    have hx1 := hx ▸ hE x
    have hl1 := rel_int (hlo ▸ hE lo)
    simp only [Rel] at hx1
    obtain ⟨A, c, xs, h3, hl, hnc, hrd, hr⟩ := hx1
    have hb := run_sliceAt (P := P) ht A n c (some (.int k l)) none none l n c (fun w => by simp [Instr.sliceBounds, run_bound (P := P) k l n _ h1]) w
    have h5 := lst_cut (μ := μ) (m := c) hl hrd hr h1 (Nat.le_refl n) hnc
    have e1 : (cs.drop (l * s)).take ((n - l) * s) = cs.drop (l * s) := List.take_of_length_le (by rw [List.length_drop, hl, Nat.sub_mul]; exact Nat.le_refl _)
    rw [e1] at h5
    refine Good.pure hH ?_ h5
    simp only [execOp, h3, hl1, Option.map_some, Option.map_none, Sem.run_bind, hb, Result.andThen_ok, Sem.run_pure]
  | sliceH s n el cs k h hx hhi ht h1 =>
    rename_i t x hi
    have hx1 := hx ▸ hE x
    have hh1 := rel_int (hhi ▸ hE hi)
    simp only [Rel] at hx1
    obtain ⟨A, c, xs, h3, hl, hnc, hrd, hr⟩ := hx1
    have hb := run_sliceAt (P := P) ht A n c none (some (.int k h)) none 0 h c (fun w => by simp [Instr.sliceBounds, run_bound (P := P) k h c _ (by omega)]) w
    have h5 := lst_cut (μ := μ) (l := 0) (m := c) hl hrd hr (Nat.zero_le h) h1 (by omega)
    simp only [Nat.zero_mul, List.drop_zero, Nat.sub_zero] at h5 hb
    refine Good.pure hH ?_ h5
    simp only [execOp, h3, hh1, Option.map_some, Option.map_none, Sem.run_bind, hb, Result.andThen_ok, Sem.run_pure]
  | sliceHM s n el cs k k' hx hhi hmx ht =>
    rename_i t x hi mx
    have hx1 := hx ▸ hE x
    have hh1 := rel_int (hhi ▸ hE hi)
    have hm1 := rel_int (hmx ▸ hE mx)
    simp only [Rel] at hx1
    obtain ⟨A, c, xs, h4, hl, hnc, hrd, hr⟩ := hx1
    have hb := run_sliceAt (P := P) ht A n c none (some (.int k n)) (some (.int k' n)) 0 n n (fun w => by simp [Instr.sliceBounds, run_bound (P := P) k' n c _ (by omega), run_bound (P := P) k n n _ (Nat.le_refl _)]) w
    simp only [Nat.zero_mul, Nat.sub_zero] at hb
    refine Good.pure hH (x := .slice (if n = 0 then A else A.map (·.add 0)) n n) ?_ ?_
    · simp only [execOp, h4, hh1, hm1, Option.map_some, Option.map_none, Sem.run_bind, hb, Result.andThen_ok, Sem.run_pure]
    · simp only [Rel]
      refine ⟨_, n, xs, rfl, hl, rfl, ?_, hr⟩
      have hlen := hr.length
      by_cases hn : n = 0
      · subst hn
        intro hne
        exact absurd (List.eq_nil_of_length_eq_zero (by rw [hlen, hl]; simp)) hne
      · rw [if_neg hn]
        have e : A.map (·.add 0) = A := by cases A <;> simp [Addr.add_zero']
        rw [e]
        exact hrd
  | sliceLHM s n el cs k k' k'' l h m hx hlo hhi hmx ht h1 h2 h3 =>
    rename_i t x lo hi mx
    have hx1 := hx ▸ hE x
    have hl1 := rel_int (hlo ▸ hE lo)
    have hh1 := rel_int (hhi ▸ hE hi)
    have hm1 := rel_int (hmx ▸ hE mx)
    simp only [Rel] at hx1
    obtain ⟨A, c, xs, h4, hl, hnc, hrd, hr⟩ := hx1
    have hb := run_sliceAt (P := P) ht A n c (some (.int k l)) (some (.int k' h)) (some (.int k'' m)) l h m (fun w => by simp [Instr.sliceBounds, run_bound (P := P) k'' m c _ (by omega), run_bound (P := P) k' h m _ h2, run_bound (P := P) k l h _ h1]) w
    refine Good.pure hH ?_ (lst_cut (m := m) hl hrd hr h1 (by omega) h2)
    simp only [execOp, h4, hl1, hh1, hm1, Option.map_some, Sem.run_bind, hb, Result.andThen_ok, Sem.run_pure]

end Go.Abs
