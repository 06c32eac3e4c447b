/- Texts of the proof: HY5, Symj, HZ1, Syml, Symm, DM2. -/
import Derived.Test.YtjllngcefoohpaaGreatPartM

/-! The law of UpsetAlgebra. -/
namespace Go.Proofs.YtjllngcefoohpaaGreat
open Go.RowKit Go.Abs
def uaC (n : Int) (xs : List Int) : Int := if okPo n xs = true then (if (upL n xs).length > 30 then 3 else 0) else 1
def uaT (f : List Int → Nat → Nat → Int) (n : Int) (xs : List Int) : List (List Int) := if uaC n xs = 0 then tabR (f (ordU (upL n xs))) (ordU (upL n xs)).length (ordU (upL n xs)).length else []
def uaA (n : Int) (xs : List Int) : List (List Int) := uaT hyM n xs
def uaO (n : Int) (xs : List Int) : List (List Int) := uaT hyJ n xs
def uaI (n : Int) (xs : List Int) : List (List Int) := uaT hyI n xs
def uaB (n : Int) (xs : List Int) : Int := if uaC n xs = 0 then lowF (ordU (upL n xs)) (fullM (ordU (upL n xs)).length) else 0
def uaP (n : Int) (xs : List Int) : Int := if uaC n xs = 0 then lowF (invA (ordU (upL n xs)) (ordU (upL n xs)).length) (fullM (ordU (upL n xs)).length) else 0
theorem ua_bad {n : Int} {xs : List Int} (h : okPo n xs = false) : uaC n xs = 1 ∧ uaA n xs = [] ∧ uaO n xs = [] ∧ uaI n xs = [] ∧ uaB n xs = 0 ∧ uaP n xs = 0 := by
 have e : uaC n xs = 1 := by simp [uaC, h]
 simp [uaA, uaO, uaI, uaT, uaB, uaP, e]
theorem ua_lim {n : Int} {xs : List Int} (h : okPo n xs = true) (h2 : (upL n xs).length > 30) : uaC n xs = 3 ∧ uaA n xs = [] ∧ uaO n xs = [] ∧ uaI n xs = [] ∧ uaB n xs = 0 ∧ uaP n xs = 0 := by
 have e : uaC n xs = 3 := by simp [uaC, h, h2]
 simp [uaA, uaO, uaI, uaT, uaB, uaP, e]
theorem ua_ok {n : Int} {xs : List Int} (h : okPo n xs = true) (h2 : (upL n xs).length ≤ 30) : uaC n xs = 0 ∧ uaA n xs = tabR (hyM (ordU (upL n xs))) (ordU (upL n xs)).length (ordU (upL n xs)).length ∧ uaO n xs = tabR (hyJ (ordU (upL n xs))) (ordU (upL n xs)).length (ordU (upL n xs)).length ∧ uaI n xs = tabR (hyI (ordU (upL n xs))) (ordU (upL n xs)).length (ordU (upL n xs)).length ∧ uaB n xs = lowF (ordU (upL n xs)) (fullM (ordU (upL n xs)).length) ∧ uaP n xs = lowF (invA (ordU (upL n xs)) (ordU (upL n xs)).length) (fullM (ordU (upL n xs)).length) := by
 have e : uaC n xs = 0 := by simp [uaC, h]; omega
 simp [uaA, uaO, uaI, uaT, uaB, uaP, e]
theorem ua_cases (n : Int) (xs : List Int) : okPo n xs = false ∨ (okPo n xs = true ∧ (upL n xs).length > 30) ∨ (okPo n xs = true ∧ (upL n xs).length ≤ 30) := by
  cases h : okPo n xs with
  | false => exact .inl rfl
  | true => rcases Nat.lt_or_ge 30 (upL n xs).length with h2 | h2
            · exact .inr (.inl ⟨rfl, h2⟩)
            · exact .inr (.inr ⟨rfl, h2⟩)
theorem uaT_len (f : List Int → Nat → Nat → Int) (n : Int) (xs : List Int) : (uaT f n xs).length ≤ 30 ∧ ∀ j : Nat, j < (uaT f n xs).length → ((uaT f n xs).getD j []).length ≤ 30 := by
 rcases ua_cases n xs with h | ⟨h, h2⟩ | ⟨h, h2⟩
 ·have e : uaC n xs = 1 := by simp [uaC, h]
  simp [uaT, e]
 ·have e : uaC n xs = 3 := by simp [uaC, h, h2]
  simp [uaT, e]
 ·have e : uaC n xs = 0 := by simp [uaC, h]; omega
  rw [uaT, if_pos e, tabR_len, ordU_len]
  exact ⟨h2, fun j hj => by rw [tabR_get hj, rowR_len]; exact h2⟩
theorem NX.at {α β : Type} {L : List (Value × List α)} {K : List (Value × List β)} (h : NX L K) (d : Value × List α) {i : Nat} (hi : i < L.length) : ∀ x ∈ K, ∀ g, blk (L.getD i d).1 = some g → blk x.1 ≠ some g :=
 fun x hx g a => h _ (List.mem_of_getElem? (i := i) (by simp [List.getD_eq_getElem?_getD, List.getElem?_eq_getElem hi])) x hx g a
theorem set_names {α : Type} {L : List (Value × List α)} {i : Nat} {d : Value × List α} {ys : List α} (hi : i < L.length) {x : Value × List α} (hx : x ∈ L.set i ((L.getD i d).1, ys)) : ∃ y ∈ L, y.1 = x.1 := by
 rcases List.mem_or_eq_of_mem_set hx with h | h
 ·exact ⟨x, h, rfl⟩
 ·exact ⟨L.getD i d, List.mem_of_getElem? (i := i) (by simp [List.getD_eq_getElem?_getD, List.getElem?_eq_getElem hi]), by rw [h]⟩
theorem NX.setL {α β : Type} {L : List (Value × List α)} {K : List (Value × List β)} (h : NX L K) (i : Nat) (d : Value × List α) (ys : List α) (hi : i < L.length) : NX (L.set i ((L.getD i d).1, ys)) K := by
 intro u hu w hw g a b
 obtain ⟨y, hy, e⟩ := set_names hi hu
 exact h y hy w hw g (by rw [e]; exact a) b
theorem UpsetAlgebra_c (n : Int) (xs : List Int) (lx : xs.length ≤ 1048576) : CallE Tryz.prog 18 [.agg [AI n, LI xs]] (fun (b : Nat) (r : AV) => ∃ LA LO LJ : List (Value × List Int), r = .tup [.agg [ownA (eV eI 2 1) 30 1 LA, ownA (eV eI 2 1) 30 1 LO, ownA (eV eI 2 1) 30 1 LJ, AI (uaB n xs), AI (uaP n xs)], AI (uaC n xs)] ∧ (NL b LA) ∧ (NL b LO) ∧ (NL b LJ) ∧ (NX LA LO) ∧ (NX LA LJ) ∧ (NX LO LJ) ∧ (LA.map Prod.snd = uaA n xs) ∧ (LO.map Prod.snd = uaO n xs) ∧ (LJ.map Prod.snd = uaI n xs)) := by
 refine CallE.of Tryz.func18 rfl (by kernel_rfl) (fun b => (R.go 11 (k16 true (isPoset_c n xs (by first | omega | (simp <;> omega))) (R.go 3 (k22 (okPo n xs) (fun c1 => ?_) (fun c1 => ?_))))))
 ·have hP : okPo n xs = false := by assumption
  obtain ⟨hu1, hu2, hu3, hu4, hu5, hu6⟩ := ua_bad hP
  refine R.go 6 (k21 2 0 30 1 (k21 2 1 30 1 (k21 2 2 30 1 ?_)))
  exact k30 (.tup [.agg [ownA (eV eI 2 1) 30 1 [], ownA (eV eI 2 1) 30 1 [], ownA (eV eI 2 1) 30 1 [], AI 0, AI 0], AI 1]) ⟨[], [], [], by first | rfl | (rw [hu1, hu5, hu6]) | (exfalso; omega), by first | (first | exact NL.nil | exact NL.mono ‹NL bE1 LAE1› ‹b ≤ bE1›) | (exfalso; omega), by first | (first | exact NL.nil | exact NL.mono ‹NL bE1 LOE1› ‹b ≤ bE1›) | (exfalso; omega), by first | (first | exact NL.nil | exact NL.mono ‹NL bE1 LJE1› ‹b ≤ bE1›) | (exfalso; omega), by first | (first | exact NX.nil | assumption) | (exfalso; omega), by first | (first | exact NX.nil | assumption) | (exfalso; omega), by first | (first | exact NX.nil | assumption) | (exfalso; omega), by first | (rw [hu2]; first | rfl | assumption) | (exfalso; omega), by first | (rw [hu3]; first | rfl | assumption) | (exfalso; omega), by first | (rw [hu4]; first | rfl | assumption) | (exfalso; omega)⟩
 refine R.go 3 (k16 true (upsets_c n xs c1).frz (R.go 4 (k3 (((upL n xs).length : Int) > 30) (fun c2 => ?_) (fun c2 => ?_))))
 ·have hP : okPo n xs = true := by assumption
  have h30 : (upL n xs).length > 30 := by omega
  obtain ⟨hu1, hu2, hu3, hu4, hu5, hu6⟩ := ua_lim hP h30
  refine R.go 6 (k21 2 0 30 1 (k21 2 1 30 1 (k21 2 2 30 1 ?_)))
  exact k30 (.tup [.agg [ownA (eV eI 2 1) 30 1 [], ownA (eV eI 2 1) 30 1 [], ownA (eV eI 2 1) 30 1 [], AI 0, AI 0], AI 3]) ⟨[], [], [], by first | rfl | (rw [hu1, hu5, hu6]) | (exfalso; omega), by first | (first | exact NL.nil | exact NL.mono ‹NL bE1 LAE1› ‹b ≤ bE1›) | (exfalso; omega), by first | (first | exact NL.nil | exact NL.mono ‹NL bE1 LOE1› ‹b ≤ bE1›) | (exfalso; omega), by first | (first | exact NL.nil | exact NL.mono ‹NL bE1 LJE1› ‹b ≤ bE1›) | (exfalso; omega), by first | (first | exact NX.nil | assumption) | (exfalso; omega), by first | (first | exact NX.nil | assumption) | (exfalso; omega), by first | (first | exact NX.nil | assumption) | (exfalso; omega), by first | (rw [hu2]; first | rfl | assumption) | (exfalso; omega), by first | (rw [hu3]; first | rfl | assumption) | (exfalso; omega), by first | (rw [hu4]; first | rfl | assumption) | (exfalso; omega)⟩
 have hP : okPo n xs = true := by assumption
 have h30 : (upL n xs).length ≤ 30 := by omega
 obtain ⟨hu1, hu2, hu3, hu4, hu5, hu6⟩ := ua_ok hP h30
 refine R.go 5 (R.callE (avs0 := [.agg [AI n, LI xs]]) (upsetAlgebra_c n xs hP h30) (by kernel_rfl) (.cons (.agg (.cons (.leaf rfl) (.cons (.leaf rfl) (.nil)))) (.nil)) (upsetAlgebra_c_cl n xs) (by kernel_rfl) ?_)
 intro bE1 hbn3 hsn4 rn5 hrn6
 obtain ⟨LAE1, LOE1, LJE1, rfl, heE1_1, heE1_2, heE1_3, heE1_4, heE1_5, heE1_6, heE1_7, heE1_8, heE1_9⟩ := hrn6
 have hbb7 : b ≤ bE1 := hbn3 0 b (by kernel_rfl)
 clear hbn3 hsn4
 exact R.go 3 (k30 (.tup [.agg [ownA (eV eI 2 1) 30 1 LAE1, ownA (eV eI 2 1) 30 1 LOE1, ownA (eV eI 2 1) 30 1 LJE1, AI (lowF (ordU (upL n xs)) (fullM (ordU (upL n xs)).length)), AI (lowF (invA (ordU (upL n xs)) (ordU (upL n xs)).length) (fullM (ordU (upL n xs)).length))], AI 0]) ⟨LAE1, LOE1, LJE1, by first | rfl | (rw [hu1, hu5, hu6]) | (exfalso; omega), by first | (first | exact NL.nil | exact NL.mono ‹NL bE1 LAE1› ‹b ≤ bE1›) | (exfalso; omega), by first | (first | exact NL.nil | exact NL.mono ‹NL bE1 LOE1› ‹b ≤ bE1›) | (exfalso; omega), by first | (first | exact NL.nil | exact NL.mono ‹NL bE1 LJE1› ‹b ≤ bE1›) | (exfalso; omega), by first | (first | exact NX.nil | assumption) | (exfalso; omega), by first | (first | exact NX.nil | assumption) | (exfalso; omega), by first | (first | exact NX.nil | assumption) | (exfalso; omega), by first | (rw [hu2]; first | rfl | assumption) | (exfalso; omega), by first | (rw [hu3]; first | rfl | assumption) | (exfalso; omega), by first | (rw [hu4]; first | rfl | assumption) | (exfalso; omega)⟩)
end Go.Proofs.YtjllngcefoohpaaGreat

/-! Results with names handed back to be read only: the names are forgotten. -/
namespace Go.Abs
open Go.RowKit
theorem Rel.unnam {w : World} {Z : Nat → Prop} {μ : List Value} {u v : Value} {o : Option Nat} {s n : Nat} {cs : List AV} (h : Rel w Z μ (.nam u o s n cs) v) : Rel w Z μ (.lst s n cs) v := by
 simp only [Rel] at h ⊢
 exact h.2
def LessV (c d : AV) : Prop := ∀ (w : World) (Z : Nat → Prop) (μ : List Value) (v : Value), Rel w Z μ c v → Rel w Z μ d v
inductive LessL : List AV → List AV → Prop
 | nil : LessL [] []
 | cons {c d : AV} {cs ds : List AV} (h : LessV c d) (t : LessL cs ds) : LessL (c :: cs) (d :: ds)
theorem RelL.lessV {w : World} {Z : Nat → Prop} {μ : List Value} : ∀ {cs ds : List AV} {vs : List Value}, LessL cs ds → RelL w Z μ cs vs → RelL w Z μ ds vs
 | [], [], vs, _, h => h
 | c :: cs, d :: ds, vs, hl, h => by
  simp only [RelL] at h ⊢
  obtain ⟨x, xs, e, h1, h2⟩ := h
  cases hl with
  | cons a b => exact ⟨x, xs, e, a w Z μ x h1, RelL.lessV b h2⟩
 | [], _ :: _, _, hl, _ => by cases hl
 | _ :: _, [], _, hl, _ => by cases hl
theorem lessV_nam {el : Nat} {s : Nat} {α : Type} {E : α → List AV} {x : Value × List α} {F : List α → List AV} (hF : F x.2 = [.lst s x.2.length (rows E x.2)]) : LessL (eV E el s x) (F x.2) := by
 rw [hF, eV]
 exact .cons (fun w Z μ v h => Rel.unnam h) .nil
theorem rowsV_less {α : Type} {E : α → List AV} {el s : Nat} {F : List α → List AV} (hF : ∀ r, F r = [.lst s r.length (rows E r)]) : ∀ L : List (Value × List α), LessL (rows (eV E el s) L) (rows F (L.map Prod.snd))
 | [] => .nil
 | x :: L => by
  have ih := rowsV_less (el := el) hF L
  have h1 := lessV_nam (el := el) (x := x) (F := F) (hF x.2)
  show LessL (eV E el s x ++ rows (eV E el s) L) (F x.2 ++ rows F (L.map Prod.snd))
  rw [hF] at h1 ⊢
  cases h1 with
  | cons a b => cases b; exact .cons a ih
def FrzTo (r r' : AV) : Prop := ∀ (w : World) (Z Z' : Nat → Prop) (B : Nat) (v : Value) (bs : List Nat), (∀ b, b < w.heap.size → ¬ Z b → ¬ Z' b) → (∀ g ∈ bs, ¬ Z' g) → RF w Z B r v bs → RF w Z' B r' v []
def FrzToL (r r' : List AV) : Prop := ∀ (w : World) (Z Z' : Nat → Prop) (B : Nat) (v : List Value) (bs : List Nat), (∀ b, b < w.heap.size → ¬ Z b → ¬ Z' b) → (∀ g ∈ bs, ¬ Z' g) → RFL w Z B r v bs → RFL w Z' B r' v []
theorem FrzTo.id (r : AV) : FrzTo r (frzR r) := fun _ _ _ _ _ _ hz hb h => RF.frz hz hb h
theorem FrzToL.nil : FrzToL [] [] := fun w Z Z' B v bs hz hb h => by
 simp only [RFL] at h ⊢; exact ⟨h.1, trivial⟩
theorem FrzToL.cons {r r' : AV} {l l' : List AV} (h1 : FrzTo r r') (h2 : FrzToL l l') : FrzToL (r :: l) (r' :: l') := fun w Z Z' B v bs hz hb h => by
 simp only [RFL] at h ⊢
 obtain ⟨x, xs, b1, b2, rfl, k1, k2, rfl⟩ := h
 exact ⟨x, xs, [], [], rfl, h1 w Z Z' B x b1 hz (fun g hg => hb g (by simp [hg])) k1, h2 w Z Z' B xs b2 hz (fun g hg => hb g (by simp [hg])) k2, rfl⟩
theorem FrzTo.agg {l l' : List AV} (h : FrzToL l l') : FrzTo (.agg l) (.agg l') := fun w Z Z' B v bs hz hb hr => by
 simp only [RF] at hr ⊢
 obtain ⟨xs, h1, h2⟩ := hr
 exact ⟨xs, h1, h w Z Z' B xs bs hz hb h2⟩
theorem FrzTo.tup {l l' : List AV} (h : FrzToL l l') : FrzTo (.tup l) (.tup l') := fun w Z Z' B v bs hz hb hr => by
 simp only [RF] at hr ⊢
 obtain ⟨xs, h1, h2⟩ := hr
 exact ⟨xs, h1, h w Z Z' B xs bs hz hb h2⟩
theorem FrzTo.less {r : AV} {s n : Nat} {cs ds : List AV} (h : FrzTo r (.lst s n cs)) (hl : LessL cs ds) (hn : ds.length = cs.length) : FrzTo r (.lst s n ds) := fun w Z Z' B v bs hz hb hr => by
 have h1 := h w Z Z' B v bs hz hb hr
 simp only [RF] at h1 ⊢
 refine ⟨?_, trivial⟩
 have h2 := h1.1
 simp only [Rel] at h2 ⊢
 obtain ⟨A, c, xs, e1, e2, e3, e4, e5⟩ := h2
 exact ⟨A, c, xs, e1, by rw [hn]; exact e2, e3, e4, RelL.lessV hl e5⟩
theorem forall2_len {l k : List AV} (h : LessL l k) : k.length = l.length := by
 induction h with
 | nil => rfl
 | cons _ _ ih => simp [ih]
theorem FrzTo.ownV (e el : Nat) (L : List (Value × List Int)) : FrzTo (ownA (eV eI el 1) e 1 L) (LLI (L.map Prod.snd)) := by
 have hl := rowsV_less (E := eI) (el := el) (s := 1) (F := eLI) (fun r => rfl) L
 have h1 : FrzTo (ownA (eV eI el 1) e 1 L) (.lst 1 L.length (rows (eV eI el 1) L)) := FrzTo.id _
 have h2 := FrzTo.less h1 hl (forall2_len hl)
 rwa [LLI, List.length_map]
theorem FrzTo.ownV_eq {e el : Nat} {L : List (Value × List Int)} {X : List (List Int)} (h : L.map Prod.snd = X) : FrzTo (ownA (eV eI el 1) e 1 L) (LLI X) := h ▸ FrzTo.ownV e el L
theorem CallE.frzA {P : Program} {f : FuncId} {args : List AV} {Φ : Nat → AV → Prop} {res : AV} (h : CallE P f args Φ) (hΦ : ∀ b r, Φ b r → FrzTo r res) : CallA P f args res := by
 refine ⟨h.1, fun Z0 w vs hvs => (h.2 Z0 w vs hvs).mono ?_⟩
 rintro e w' ⟨r, v, bs, F', hr, rfl, hF', hr2, hnd, hbf, hbel⟩
 refine ⟨v, [], fun b => F' b ∨ b ∈ bs, rfl, fun b hb => hb.elim (hF' b) (fun h => ⟨RF.ge hr2 b h, RF.lt hr2 b h⟩), hΦ _ _ hr w' _ _ _ v bs (fun b _ => zone_more b) (fun g hg hz => ?_) hr2, List.nodup_nil, by simp, hbel⟩
 have := RF.ge hr2 g hg
 exact hz.elim (fun h => by omega) (fun h => h.2 (.inr hg))
end Go.Abs

/-! The algebra of a poset's upsets, to be read only. -/
namespace Go.Proofs.YtjllngcefoohpaaGreat
open Go.RowKit Go.Abs
theorem UpsetAlgebraF_c (n : Int) (xs : List Int) (lx : xs.length ≤ 1048576) : CallA Tryz.prog 18 [.agg [AI n, LI xs]] (.tup [.agg [LLI (uaA n xs), LLI (uaO n xs), LLI (uaI n xs), AI (uaB n xs), AI (uaP n xs)], AI (uaC n xs)]) := by
 refine CallE.frzA (UpsetAlgebra_c n xs lx) ?_
 rintro b r ⟨LA, LO, LJ, rfl, _, _, _, _, _, _, h7, h8, h9⟩
 exact FrzTo.tup (.cons (FrzTo.agg (.cons (FrzTo.ownV_eq h7) (.cons (FrzTo.ownV_eq h8) (.cons (FrzTo.ownV_eq h9) (.cons (FrzTo.id _) (.cons (FrzTo.id _) .nil)))))) (.cons (FrzTo.id _) .nil))
end Go.Proofs.YtjllngcefoohpaaGreat

/-! The machine's rules: a call that hands back a row of named rows, one of which stays one's own to be written; the name told is that row. -/
namespace Go.Abs
open Go.RowKit
section
variable {α : Type} {E : α → List AV} {el s el1 i : Nat} {d : Value × List α} {L : List (Value × List α)}
theorem OpsQ.callT {rd : Option Nat} {P : Program} {all : Array Oper} {o : Oper} {l : List Oper} {fr : List AV} {hp : List AObj} {R : Exit → St → Prop} {c : Operand} {args : Array Operand} {tys : Array TypeId} {f : FuncId} {caps avs : List AV} {Ψ : List (Value × List α) → Prop} (hw : WantedA all o fr)
  (hop : o.op = .call { callee := .value c, args := args, argTypes := tys }) (hc : ev fr c = .fn f caps) (hs : SnapL hp (args.toList.map (ev fr) ++ caps) avs)
  (hcall : CallE P f avs fun b r => ∃ L : List (Value × List α), r = ownA (eV E el s) el1 1 L ∧ NL b L ∧ Ψ L) (hE : ∀ x, closedL (E x) = true) (hi : ∀ L, Ψ L → i < L.length) (hnm : noMark hp = true)
  (h' : ∀ L, Ψ L → OpsQ rd P all l ⟨putF fr o.dst (.ref hp.length), hp ++ [weakRow E el s el1 L i d, rowA E el s (L.getD i d).2, .frame [(L.getD i d).1] [.ref (hp.length + 1)]]⟩ R) : OpsQ rd P all (o :: l) ⟨fr, hp⟩ R := by
 intro Z0 w0 a w hS
 refine wpListIn_step fun K hK => ?_
 obtain ⟨μ, F, hFb, hH, hF, hd, hb⟩ := hS
 rw [wanted_rel hF hw, if_pos rfl]
 have hB : w0.heap.size ≤ w.heap.size := hb.size
 have hEv : ∀ y, Rel w (Zone Z0 F w0.heap.size) μ (ev fr y) (a.eval y) := fun y => ev_rel hF y
 have hcv := hc ▸ hEv c
 simp only [Rel] at hcv
 obtain ⟨cv, hcv, hrc⟩ := hcv
 have hargs' : RelL w (Zone Z0 F w0.heap.size) μ (args.toList.map (ev fr)) (args.toList.map a.eval) := by
  generalize args.toList = l
  induction l with
  | nil => exact RelL.nil
  | cons x l ih => exact RelL.cons (hEv x) ih
 have hall : RelL w (Zone (fun _ => False) NoF w.heap.size) [] avs (args.toList.map a.eval ++ cv) := RelL.weak (fun b hb hz hz2 => hz2.elim (fun h => h.2) (fun h => hz h.1)) (SnapL.sound hH hs (hargs'.append hrc))
 obtain ⟨hen, hcall⟩ := hcall
 have hC := hcall (fun _ => False) w _ hall
 have hrun : (execOp a.eval o).run P w = .ok (.enter f (args.toList.map a.eval ++ cv).toArray) w := by
  have e1 : (args.map a.eval ++ cv.toArray) = (args.toList.map a.eval ++ cv).toArray := by
   apply Array.toList_inj.1; simp
  simp only [execOp, hop, resolve, Deferred.ofValue, hcv, Sem.run_bind, Sem.run_pure, Result.andThen_ok, invoke, Array.empty_append]
  rw [e1]
  exact hen _ _
 refine wpIn_of_run (fun c' => by rw [hop]; simp) ?_
 rw [hrun]
 refine upon_enter hC ?_
 rintro en w' ⟨res, x, bs, F', ⟨L, rfl, hL, hΨ⟩, rfl, hF', hrf, hnd, hbf, hbel⟩
 have hil := hi L hΨ
 have hcl : ClosedN w.heap.size (ownA (eV E el s) el1 1 L) := closedN_own _ hL hE
 have hge0 := RF.ge hrf
 have hrf2 : RF w' (Zone Z0 (fun b => F b ∨ F' b) w0.heap.size) w0.heap.size (ownA (eV E el s) el1 1 L) x bs := RF.shutN hB (fun g hg hz hzz => hzz.elim (fun h => by omega) (fun h => h.2 (.inr (Classical.byContradiction fun hf => hz (.inr ⟨hg, hf⟩))))) hcl hrf
 simp only [ownA, RF] at hrf2
 obtain ⟨xs, hown, hrel, rfl⟩ := hrf2
 obtain ⟨u, hu⟩ : ∃ u, u = (L.getD i d).1 := ⟨_, rfl⟩
 obtain ⟨y, hy, hry⟩ := hrel.get (rowsV_get L i d hil)
 rw [← hu] at hry
 simp only [Rel] at hry
 obtain ⟨⟨rfl, h00⟩, A, cp, zs, q1, q2, q3, q4, q5⟩ := hry
 obtain ⟨ys, hown2, hyz⟩ := h00 el rfl
 have hxy : zs = ys := own_read hown2 q1 (by rw [q5.length, q2]) q4
 subst hxy
 have hmem : L.getD i d ∈ L := List.mem_of_getElem? (i := i) (by simp [List.getD_eq_getElem?_getD, List.getElem?_eq_getElem hil])
 have hgu : ∀ g, blk y = some g → w.heap.size ≤ g := fun g hg => hL.ge _ hmem g (by rw [← hu]; exact hg)
 have hfu : ∀ g, blk y = some g → F' g := fun g hg => by
  have h1 := hgu g hg
  refine Classical.byContradiction fun hf => hyz g hg (.inr ⟨by omega, fun h => h.elim (fun h2 => ?_) hf⟩)
  have := (hFb g h2).2
  omega
 have hlt : ∀ g, blk y = some g → g < w'.heap.size := fun g hg => (hF' g (hfu g hg)).2
 have hzo : ∀ b, b < w.heap.size → ¬ Zone Z0 F w0.heap.size b → ¬ Zone Z0 (fun b => F b ∨ (F' b ∧ blk y ≠ some b)) w0.heap.size b := fun b _ hz => zone_more (F' := fun b => F' b ∧ blk y ≠ some b) b hz
 have hz : ∀ b, ¬ Zone Z0 (fun b => F b ∨ F' b) w0.heap.size b → blk y ≠ some b → ¬ Zone Z0 (fun b => F b ∨ (F' b ∧ blk y ≠ some b)) w0.heap.size b := fun b h1 h2 hzz => h1 (hzz.elim .inl (fun h => .inr ⟨h.1, fun hf => h.2 (hf.imp id fun q => ⟨q, h2⟩)⟩))
 have hcells : RelL w' (Zone Z0 (fun b => F b ∨ (F' b ∧ blk y ≠ some b)) w0.heap.size) [] ((rows (eV E el s) L).set i (weakN (L.getD i d).1 (L.getD i d).2.length)) xs := by
  refine relL_of_get (by rw [hrel.length]; simp) fun q c v hq hv => ?_
  by_cases hqi : i = q
  ·subst hqi
   rw [List.getElem?_set_self (by rw [rowsV_length]; exact hil)] at hq
   simp only [Option.some.injEq] at hq
   subst hq
   obtain ⟨v', hv', hr⟩ := hrel.get (rowsV_get L i d hil)
   rw [hv] at hv'
   cases hv'
   exact weakN_of hr
  ·rw [List.getElem?_set_ne hqi] at hq
   have hql : q < L.length := by
    have := (List.getElem?_eq_some_iff.1 hq).1
    rwa [rowsV_length] at this
   obtain ⟨v', hv', hr⟩ := hrel.get hq
   rw [hv] at hv'
   cases hv'
   rw [rowsV_get L q d hql] at hq
   cases hq
   have hsf : Safe y (.nam (L.getD q d).1 (some el) s (L.getD q d).2.length (rows E (L.getD q d).2)) := safe_nam (safe_rows hE _) (by rw [hu]; exact hL.ne d hil hql (Ne.symm hqi))
   exact Rel.thaw (g := blk y) hz (fun _ _ h => h) hsf.1 hsf.2 hr
 have ht : Taken w' (Zone Z0 (fun b => F b ∨ (F' b ∧ blk y ≠ some b)) w0.heap.size) w0.heap.size μ [x, y, .bool false] [weakRow E el s el1 L i d, rowA E el s (L.getD i d).2, .frame [(L.getD i d).1] [.ref (hp.length + 1)]] ((blk x).toList ++ (blk y).toList) := by
  refine ⟨rfl, fun j ob v h1 h2 => ?_, ?_, fun v hv => ?_⟩
  ·rcases j with _ | _ | _ | j
   ·cases h1; cases h2
    exact ⟨xs, hown, hcells⟩
   ·cases h1; cases h2
    exact ⟨zs, ownsRow_from hown2 (fun g hg => by have := hgu g hg; omega), RelL.shut (closedL_rows hE _) q5⟩
   ·cases h1; cases h2
    rw [← hu]
    show RelL _ _ _ _ _
    refine RelL.cons ?_ RelL.nil
    simp only [Rel]
    rw [← hH.len, List.getElem?_append_right (by omega)]
    simp
   ·cases h1
  ·have h3 : blk (.bool false) = none := rfl
   cases hbx : blk x <;> cases hby : blk y <;> simp [hbx, hby, h3]
  ·simp only [List.mem_cons, List.not_mem_nil, or_false] at hv
   rcases hv with rfl | rfl | rfl
   ·rcases hown.2 with ⟨rfl, _⟩ | ⟨g', cap, cur, rfl, _⟩ <;> rfl
   ·rw [q1]; rfl
   ·rfl
 have hne : ∀ g, blk x = some g → blk y ≠ some g := fun g hg hg2 => hbf g (by simp [hg]) (hfu g hg2)
 refine ⟨x, rfl, hK _ _ (h' L hΨ Z0 w0 _ _ ⟨μ ++ [x, y, .bool false], fun b => F b ∨ (F' b ∧ blk y ≠ some b), fun b hb => hb.elim (fun h => ⟨(hFb b h).1, Nat.lt_of_lt_of_le (hFb b h).2 hbel.size⟩) (fun h => ⟨Nat.le_trans hB (hF' b h.1).1, (hF' b h.1).2⟩), ?_, ?_, ?_, ?_⟩)⟩
 ·refine HRel.extend (bs := (blk x).toList ++ (blk y).toList) (hH.weak hzo (fun b hb hz => ?_)) hbel ht (fun g hg => ?_) (fun g hg => ?_) ?_
  ·exact hz.elim .inl (fun h2 => .inr ⟨h2.1, fun hf => hf.elim h2.2 (fun h3 => absurd (hF' b h3.1).1 (by omega))⟩)
  ·rcases List.mem_append.1 hg with hg | hg
   ·exact hge0 g hg
   ·exact hgu g (by simpa using hg)
  ·rcases List.mem_append.1 hg with hg | hg
   ·have := hge0 g hg
    exact .inr ⟨by omega, fun hf => hf.elim (fun h3 => absurd (hFb g h3).2 (by omega)) (fun h3 => hbf g hg h3.1)⟩
   ·have hg' : blk y = some g := by simpa using hg
    have := hgu g hg'
    exact .inr ⟨by omega, fun hf => hf.elim (fun h3 => absurd (hFb g h3).2 (by omega)) (fun h3 => h3.2 hg')⟩
  ·cases hbx : blk x with
   | none => cases hby : blk y <;> simp
   | some g1 =>
    cases hby : blk y with
    | none => simp
    | some g2 =>
     have := hne g1 hbx
     simp only [Option.toList, List.singleton_append, List.nodup_cons, List.mem_singleton, List.not_mem_nil, not_false_eq_true, List.nodup_nil, and_true]
     rintro rfl
     exact this hby
 ·refine put_rel (RelL.keep (fun b h1 h2 => hbel.block b h1) (fun i u h => append_old i u h) (RelL.weak hzo hF)) _ ?_
  simp only [Rel]
  rw [← hH.len]
  simp
 ·rw [put_defers']
  exact .inl (hd.none hnm)
 ·exact hb.trans (hbel.mono hB)
variable {rd : Option Nat} {P : Program} {m : M} {Q : Exit → St → Prop}
theorem R.callT {f : FuncId} {avs0 avs : List AV} {Ψ : List (Value × List α) → Prop} (i el s el1 : Nat) (d : Value × List α) (hc : CallE P f avs fun b r => ∃ L : List (Value × List α), r = ownA (eV E el s) el1 1 L ∧ NL b L ∧ Ψ L) (h : csAt m = some (f, avs0)) (hs : SnapL m.st.hp avs0 avs) (hE : ∀ x, closedL (E x) = true) (hi : ∀ L, Ψ L → i < L.length) (ht : opsHd m = true)
  (h' : ∀ L, Ψ L → Runs rd P (putM m none (.ref m.st.hp.length) (m.st.hp ++ [weakRow E el s el1 L i d, rowA E el s (L.getD i d).2, .frame [(L.getD i d).1] [.ref (m.st.hp.length + 1)]])) Q) : Runs rd P m Q := by
 have hnm := csAt_mark h
 obtain ⟨fo, args, tys, caps, hop, hf, rfl⟩ := csAt_parts h
 obtain ⟨ks, ⟨fr, hp⟩⟩ := m
 unfold opM headOf at hop
 unfold opsHd at ht
 unfold putM at h'
 simp only [runs_iff] at h' ⊢
 try simp only at hop ht h' hf hs hnm ⊢
 split at hop
 ·rename_i all o fl t heq
  split at hop
  ·rename_i hw
   simp only [Option.some.injEq] at hop
   split at heq
   ·cases heq
    intro hW
    exact OpsQ.callT (wantH_true hw hW) hop hf hs hc hE hi hnm fun L hΨ => h' L hΨ headW_false
   ·simp at ht
   ·cases heq
  ·cases hop
 ·cases hop
theorem Sub.untag (t q k s n : Nat) (v : Value) (cs : List AV) (st : St) (ht : st.fr[t]? = some (.nam v none s n cs)) (hq : st.hp[q]? = some (.frame [v] [.ref k])) : Sub st ⟨st.fr.set t (.ref k), st.hp⟩ := by
 intro Z0 w0 a w hS
 obtain ⟨μ, F, hFb, hH, hF, hdf, hb⟩ := hS
 refine ⟨μ, F, hFb, hH, ?_, hdf, hb⟩
 obtain ⟨x, hx, hr⟩ := hF.get ht
 simp only [Rel] at hr
 obtain ⟨⟨rfl, _⟩, _⟩ := hr
 have hql : q < μ.length := by rw [hH.len]; exact (List.getElem?_eq_some_iff.1 hq).1
 have h1 : RelL w (Zone Z0 F w0.heap.size) μ [.ref k] [x] := hH.obj q _ _ hq (List.getElem?_eq_getElem hql)
 simp only [RelL, Rel] at h1
 obtain ⟨y, ys, e1, e2, e3⟩ := h1
 cases e1
 refine relL_of_get (by rw [hF.length]; simp) fun j c v hj hv => ?_
 by_cases hjt : t = j
 ·subst hjt
  rw [List.getElem?_set_self (List.getElem?_eq_some_iff.1 ht).1] at hj
  simp only [Option.some.injEq] at hj
  subst hj
  rw [hx] at hv
  cases hv
  simpa only [Rel] using e2
 ·rw [List.getElem?_set_ne hjt] at hj
  obtain ⟨v', hv', hr'⟩ := hF.get hj
  rw [hv] at hv'
  cases hv'
  exact hr'
theorem R.untag (t q k s n : Nat) (v : Value) (cs : List AV) (h : subOk m = true) (ht : m.st.fr[t]? = some (.nam v none s n cs)) (hq : m.st.hp[q]? = some (.frame [v] [.ref k])) (h' : Runs rd P ⟨m.ks, ⟨m.st.fr.set t (.ref k), m.st.hp⟩⟩ Q) : Runs rd P m Q :=
 R.sub _ h (Sub.untag t q k s n v cs m.st ht hq) h'
theorem weak_at {α : Type} {E : α → List AV} {el s i j : Nat} {L : List (Value × List α)} {d : Value × List α} (hi : i < L.length) (hj : j = i) : ((rows (eV E el s) L).set i (weakN (L.getD i d).1 (L.getD i d).2.length))[j * 1]? = some (weakN (L.getD i d).1 (L.getD i d).2.length) := by
 subst hj
 rw [Nat.mul_one, List.getElem?_set_self (by rw [rowsV_length]; exact hi)]
end
end Go.Abs

/-! Arrays: made, indexed, an element's address. -/
namespace Go.Abs
open Go.RowKit
section
variable {rd : Option Nat} {P : Program} {m : M} {Q : Exit → St → Prop}
def arrOp (P : Program) (m : M) : Option AV :=
 match opM m with
 | some (.index t x y) => match ev m.st.fr x, ev m.st.fr y, arrB P t with
  | .agg cs, .int _ j, some (n, _) => if 0 ≤ j ∧ j < n then cs[j.toNat]? else none
  | _, _, _ => none
 | some (.indexAddr t x y) => match ev m.st.fr x, ev m.st.fr y, arrB P t with
  | .ptr i o, .int _ j, some (n, _) => if 0 ≤ j ∧ j < n then some (.ptr i (o + j.toNat)) else none
  | _, _, _ => none
 | some (.build t parts) => match arrB P t, zeroB P t with
  | some _, some zs => (fillA (fun i => some (i * 1, 1)) zs (parts.toList.map fun x => (x.1, ev m.st.fr x.2))).map .agg
  | _, _ => none
 | _ => none
theorem R.arr (v : AV) (h : arrOp P m = some v) (ht : quiet0 m = true) (h' : Runs rd P (putM m none v m.st.hp) Q) : Runs rd P m Q := by
 unfold arrOp at h
 split at h
 ·rename_i t x y hop
  split at h
  ·rename_i cs k j n el hx hy ha
   split at h
   ·rename_i hc
    exact R.eff0 hop (.inl (.indexA cs k j n el hx hy ha hc.1 hc.2 h)) ht h'
   ·cases h
  ·cases h
 ·rename_i t x y hop
  split at h
  ·rename_i i o k j n el hx hy ha
   split at h
   ·rename_i hc
    cases h
    exact R.eff0 hop (.inl (.indexAddrA i o k j n el hx hy ha hc.1 hc.2)) ht h'
   ·cases h
  ·cases h
 ·rename_i t parts hop
  split at h
  ·rename_i p zs ha hz
   obtain ⟨n, el⟩ := p
   rw [Option.map_eq_some_iff] at h
   obtain ⟨cs, hf, rfl⟩ := h
   exact R.eff0 hop (.inl (.buildA n el zs cs ha hz hf)) ht h'
  ·cases h
 ·cases h
theorem k38 (v : AV) (h' : Runs rd P (putM m none v m.st.hp) Q) (h : arrOp P m = some v := by kernel_rfl) (ht : quiet0 m = true := by kernel_rfl) : Runs rd P m Q := _root_.Go.Abs.R.arr v h ht h'
end
end Go.Abs

/-! Duals by the reference; sets of elements; maps of algebras: what the programs compute. -/
namespace Go.Proofs.YtjllngcefoohpaaGreat
open Go.RowKit Go.Abs
theorem memT {l : List Int} {x : Int} {i : Nat} (h : i < l.length) (e : l.getD i 0 = x) : true = decide (x ∈ l) := by
 refine (decide_eq_true ?_).symm
 rw [← e, List.getD_eq_getElem?_getD, List.getElem?_eq_getElem h]
 exact List.getElem_mem h
theorem memF {l : List Int} {x : Int} {i : Nat} (h : ∀ j, j < i → ¬ l.getD j 0 = x) (hi : l.length ≤ i) : false = decide (x ∈ l) := by
 refine (decide_eq_false fun hm => ?_).symm
 obtain ⟨j, hj, e⟩ := List.getElem_of_mem hm
 refine h j (by omega) ?_
 rw [List.getD_eq_getElem?_getD, List.getElem?_eq_getElem hj]
 exact e

def inY (xs : List Int) (x y : Nat) : Bool := decide (x ≠ bX xs) && (List.range y).all fun y => (List.range xs.length).all fun z => decide (jX xs y z = x → y = x ∨ z = x)
def inZ (xs : List Int) (x y z : Nat) : Bool := inY xs x y && (List.range z).all fun z => decide (jX xs y z = x → y = x ∨ z = x)
def irT (xs : List Int) (x : Nat) : List Int := ((List.range x).filter (irB xs)).map fun a : Nat => (a : Int)
section
variable {xs : List Int} {x y z : Nat} {b c : Bool}
theorem inY_0 {bo : Int} (hb : bo = (bX xs : Int)) : inY xs x 0 = !decide ((x : Int) = bo) := by
 subst hb
 rw [Bool.eq_iff_iff]
 simp only [inY, List.range_zero, List.all_nil, Bool.and_true, decide_eq_true_iff, Bool.not_eq_true', decide_eq_false_iff_not]
 omega
theorem inZ_0 (h : inY xs x y = b) : inZ xs x y 0 = b := by simp [inZ, h]
theorem inZ_s : inZ xs x y (z + 1) = (inZ xs x y z && decide (jX xs y z = x → y = x ∨ z = x)) := by simp [inZ, List.range_succ, Bool.and_assoc]
theorem inY_s (h : inZ xs x y z = b) (hz : z = xs.length) : inY xs x (y + 1) = b := by subst hz; rw [← h]; simp [inY, inZ, List.range_succ, Bool.and_assoc]
theorem inZ_f (h : inZ xs x y z = c) (hc : c = false) : inZ xs x y (z + 1) = false := by rw [inZ_s, h, hc]; rfl
theorem inZ_t1 {v : Int} (hj : v = (jX xs y z : Int)) (h : inZ xs x y z = c) (hc : c = true) (e : ¬ v = (x : Int)) : inZ xs x y (z + 1) = true := by
 rw [inZ_s, h, hc, Bool.true_and]; exact decide_eq_true fun q => absurd q (by omega)
theorem inZ_t2 (h : inZ xs x y z = c) (hc : c = true) (e : (y : Int) = (x : Int)) : inZ xs x y (z + 1) = true := by
 rw [inZ_s, h, hc, Bool.true_and]; exact decide_eq_true fun q => .inl (by omega)
theorem inZ_t3 {v : Int} (hj : v = (jX xs y z : Int)) (h : inZ xs x y z = c) (hc : c = true) (e : v = (x : Int)) (hy : ¬ (y : Int) = (x : Int)) : inZ xs x y (z + 1) = decide ((z : Int) = (x : Int)) := by
 rw [inZ_s, h, hc, Bool.true_and, Bool.eq_iff_iff, decide_eq_true_iff, decide_eq_true_iff]
 exact ⟨fun q => (q (by omega)).elim (fun a => absurd a (by omega)) (fun a => by omega), fun q _ => .inr (by omega)⟩
theorem inY_mono (hy : y ≤ xs.length) (h : inY xs x y = false) : inY xs x xs.length = false := by
 refine Bool.eq_false_iff.2 fun q => Bool.eq_false_iff.1 h ?_
 simp only [inY, Bool.and_eq_true, List.all_eq_true, List.mem_range] at q ⊢
 exact ⟨q.1, fun a ha => q.2 a (by omega)⟩
theorem ir_fin (h : inY xs x y = b) (hy : y ≤ xs.length) (e : b = false ∨ y = xs.length) : irB xs x = b := by
 show inY xs x xs.length = b
 rcases e with e | e
 ·rw [e] at h ⊢; exact inY_mono hy h
 ·rw [← e]; exact h
theorem irT_y (h : irB xs x = true) : irT xs x ++ [(x : Int)] = irT xs (x + 1) := by simp [irT, List.range_succ, List.filter_append, h]
theorem irT_n (h : irB xs x = false) : irT xs x = irT xs (x + 1) := by simp [irT, List.range_succ, List.filter_append, h]
theorem irT_len (xs : List Int) (x : Nat) : (irT xs x).length ≤ x := by
 have := List.length_filter_le (irB xs) (List.range x)
 rw [List.length_range] at this
 simpa [irT] using this
end
theorem irT_end {xs : List Int} {x : Nat} (h : x = xs.length) : irT xs x = irI xs := by rw [h]; rfl
theorem eos_hit {xs : List Int} {m ex : Int} {k : Nat} (h : HyOK xs) (hk : k < xs.length) (hx : 0 ≤ ex ∧ ex < (xs.length : Int)) (hm : m = setX xs (ex).toNat) (e : setX xs ((k : Int)).toNat = m) : (k : Int) = ex := by
 have := setX_inj h (x := ((k : Int)).toNat) (y := ex.toNat) (by omega) (by omega) (e.trans hm)
 omega

def KP (xs ys im : List Int) : Prop := im.length = xs.length ∧ Iso xs ys (fun x => (im.getD x 0).toNat) ∧ ∀ x : Nat, x < im.length → 0 ≤ im.getD x 0 ∧ im.getD x 0 < (ys.length : Int)
def KQ (Q Q2 : List (List Int)) (im : List Int) (x y : Nat) : Prop := (0 ≤ (Q.getD x []).getD y 0 ∧ (Q.getD x []).getD y 0 < (im.length : Int)) ∧ (x < Q.length ∧ y < (Q.getD x []).length) ∧ (0 ≤ im.getD x 0 ∧ im.getD x 0 < (Q2.length : Int)) ∧ (0 ≤ im.getD y 0 ∧ im.getD y 0 < ((Q2.getD (im.getD x 0).toNat []).length : Int)) ∧ im.getD ((Q.getD x []).getD y 0).toNat 0 = (Q2.getD (im.getD x 0).toNat []).getD (im.getD y 0).toNat 0
section
variable {A A2 : List (List Int)} {im : List Int} (hK : KP (ordT A) (ordT A2) im)
include hK
theorem kp_tab {f : List Int → Nat → Nat → Int} {g : Nat → Nat → Nat} {Q Q2 : List (List Int)} (hQ : Q = tabR (f (ordT A)) (ordT A).length (ordT A).length) (hQ2 : Q2 = tabR (f (ordT A2)) (ordT A2).length (ordT A2).length)
  (hg : ∀ x y, x < (ordT A).length → y < (ordT A).length → f (ordT A) x y = (g x y : Int) ∧ g x y < (ordT A).length ∧ f (ordT A2) (im.getD x 0).toNat (im.getD y 0).toNat = ((im.getD (g x y) 0).toNat : Int)) {x y : Nat} (hx : x < im.length) (hy : y < im.length) :
  KQ Q Q2 im x y := by
 obtain ⟨k1, k2, k3⟩ := hK
 have hx3 := k3 x hx
 have hy3 := k3 y hy
 have hll := k2.len
 obtain ⟨g1, g2, g3⟩ := hg x y (by omega) (by omega)
 have hz3 := k3 (g x y) (by omega)
 subst hQ hQ2
 unfold KQ
 rw [tabR_get (show x < (ordT A).length by omega), rowR_get (show y < (ordT A).length by omega), tabR_get (show (im.getD x 0).toNat < (ordT A2).length by omega), rowR_get (show (im.getD y 0).toNat < (ordT A2).length by omega), tabR_len, tabR_len, rowR_len, rowR_len, g1, g3, Int.toNat_natCast]
 exact ⟨by omega, by omega, by omega, by omega, by omega⟩
theorem kp_no : im.any (outN A2.length) = false := by
 rw [List.any_eq_false]
 intro v hv
 obtain ⟨i, hi, rfl⟩ := List.getElem_of_mem hv
 have h5 := hK.2.2 i hi
 rw [ordT_len, List.getD_eq_getElem?_getD, List.getElem?_eq_getElem hi, Option.getD_some] at h5
 rw [outN_no.2 h5]; decide
end
section
variable {A O J A2 O2 J2 : List (List Int)} {bo t b2 t2 : Int} {im : List Int} (h : IsHy (ordT A) A O J bo t) (h2 : IsHy (ordT A2) A2 O2 J2 b2 t2) (hK : KP (ordT A) (ordT A2) im)
include h h2 hK
theorem kp_bt : (0 ≤ bo ∧ bo < (im.length : Int) ∧ im.getD bo.toNat 0 = b2) ∧ 0 ≤ t ∧ t < (im.length : Int) ∧ im.getD t.toNat 0 = t2 := by
 obtain ⟨k1, k2, k3⟩ := hK
 have hb := isHy_b h
 have ht := isHy_t h
 have h3 := (iso_b k2 h.ok h2.ok.ord).symm.trans h2.eb.symm
 have h4 := (iso_t k2 h.ok h2.ok.ord).symm.trans h2.et.symm
 have h5 := k3 (bX (ordT A)) (by have := (hx_b h.ok).2.1; omega)
 have h6 := k3 (tX (ordT A)) (by have := (hx_t h.ok).2.1; omega)
 refine ⟨⟨hb.2.1, by omega, ?_⟩, ht.2.1, by omega, ?_⟩
 ·rw [hb.1, Int.toNat_natCast]
  have h3' : ((im.getD (bX (ordT A)) 0).toNat : Int) = b2 := h3
  omega
 ·rw [ht.1, Int.toNat_natCast]
  have h4' : ((im.getD (tX (ordT A)) 0).toNat : Int) = t2 := h4
  omega
theorem kp_A {x y : Nat} (hx : x < im.length) (hy : y < im.length) : KQ A A2 im x y := kp_tab hK (f := hyM) (g := mX (ordT A)) h.eA h2.eA (fun _ _ hx hy => ⟨(hx_M h.ok hx hy).1, (hx_M h.ok hx hy).2.1, iso_M hK.2.1 h.ok h2.ok.ord hx hy⟩) hx hy
theorem kp_O {x y : Nat} (hx : x < im.length) (hy : y < im.length) : KQ O O2 im x y := kp_tab hK (f := hyJ) (g := jX (ordT A)) h.eO h2.eO (fun _ _ hx hy => ⟨(hx_J h.ok hx hy).1, (hx_J h.ok hx hy).2.1, iso_J hK.2.1 h.ok h2.ok.ord hx hy⟩) hx hy
theorem kp_J {x y : Nat} (hx : x < im.length) (hy : y < im.length) : KQ J J2 im x y := kp_tab hK (f := hyI) (g := iX (ordT A)) h.eJ h2.eJ (fun _ _ hx hy => ⟨(hx_I h.ok hx hy).1, (hx_I h.ok hx hy).2.1, iso_I hK.2.1 h.ok h2.ok.ord hx hy⟩) hx hy
end
theorem inR_el {x : Int} {N : Nat} (h : 0 ≤ x ∧ x < (N : Int)) : inR x 0 ((N : Int) - 1) = true := (inR_iff _ _ _).2 (by omega)
theorem eos_miss {xs : List Int} {m ex : Int} {k : Nat} (hm : m = setX xs (ex).toNat) (e : ¬ setX xs ((k : Int)).toNat = m) (h : (k : Int) ≤ ex) : ((k + 1 : Nat) : Int) ≤ ex := by
 have : ¬ (k : Int) = ex := fun q => e (by rw [hm, ← q])
 omega
theorem q6_of {A O J : List (List Int)} {bo t : Int} (h : IsHy (ordT A) A O J bo t) : (A.length ≤ 1000000000 ∧ O.length ≤ 1000000000 ∧ J.length ≤ 1000000000) ∧ (∀ i0 : Nat, i0 < A.length → (A.getD i0 []).length ≤ 1000000000) ∧ (∀ i0 : Nat, i0 < O.length → (O.getD i0 []).length ≤ 1000000000) ∧ ∀ i0 : Nat, i0 < J.length → (J.getD i0 []).length ≤ 1000000000 := by
 obtain ⟨h0, hA, hO, hJ⟩ := isHy_sz h
 exact ⟨by omega, fun i hi => by have := hA i hi; omega, fun i hi => by have := hO i hi; omega, fun i hi => by have := hJ i hi; omega⟩
theorem l18Irr_c (A O J : List (List Int)) (bo t : Int) (hIH : IsHy (ordT A) A O J bo t) : CallA Tryz.prog 125 [.agg [LLI A, LLI O, LLI J, AI bo, AI t]] (ownA eI 2 1 (irI (ordT A))) := by
 have hsz := isHy_sz hIH
 obtain ⟨hs0, hsA, hsO, hsJ⟩ := hsz
 have hT : tabB A.length A = true := (hyIs_parts.1 hIH.is.1).2.1
 have hol := ordT_len A
 have hRl : RelOK (ordT A).length (ordT A) := ordT_rel (by omega)
 have hb3 := isHy_b hIH
 have ht3 := isHy_t hIH
 have hil := irN_len (ordT A)
 have hiI := irI_len (ordT A)
 have hbn := hb3.2
 have htn := ht3.2
 have hsh : 1 ≤ shl64 1 (A.length : Int) ∧ shl64 1 (A.length : Int) ≤ 4611686018427387904 := shl_rng _ (by omega) (by omega)
 have hrlA : okRl ((ordT A).length : Int) (ordT A) := okRl_of (by omega) hRl
 refine CallA.of Tryz.func125 rfl (by kernel_rfl) (R.go 16 (k17 ((fun | (x, L) => (⟨(frm 63 [(1, .ptr 0 0), (3, .ref 1), (4, AI (x : Int))]), [.box 26 [LLI A, LLI O, LLI J, AI bo, AI t], rowA eI 2 1 L]⟩ : St) : Nat × (List Int) → St)) (fun | (x, L) => (x ≤ A.length) ∧ (L = irT (ordT A) x)) (fun | (x, L) => A.length - x) (0, []) [1, 3, 4] none ⟨(by omega), (by rfl)⟩ ?_))
 rintro ⟨x, L⟩ ⟨h4_1, rfl⟩ R1 N2
 have hil2 := irT_len (ordT A) x
 refine R.go 5 (k16 true (l18Size_c A O J bo t) (R.go 2 (k3 ((x : Int) < (A.length : Int)) (fun c5 => ?_) (fun c5 => ?_))))
 ·refine R.go 17 (k17 ((fun | (y, ib) => (⟨(frm 63 [(1, .ptr 0 0), (3, .ref 1), (4, AI (x : Int)), (5, .bool ib), (6, AI (y : Int))]), [.box 26 [LLI A, LLI O, LLI J, AI bo, AI t], rowA eI 2 1 (irT (ordT A) x)]⟩ : St) : Nat × Bool → St)) (fun | (y, ib) => (y ≤ A.length) ∧ (inY (ordT A) x y = ib)) (fun | (y, ib) => A.length - y) (0, (!decide ((x : Int) = bo))) [1, 3, 4, 5, 6] none ⟨(by omega), (by exact inY_0 hb3.1)⟩ ?_)
  rintro ⟨y, ib⟩ ⟨h9_1, h9_2⟩ R6 N7
  refine R.go 5 ((Bool.eq_false_or_eq_true (ib)).elim (fun c10 => ?_) (fun c10 => ?_))
  ·refine k6 true c10 ?_
   iterate 2 refine R.go 1 (k6 true c10 ?_)
   refine k16 true (l18Size_c A O J bo t) (k6 true c10 (R.go 1 (k8 true c10 (R.go 1 (k3 ((y : Int) < (A.length : Int)) (fun c11 => ?_) (fun c11 => ?_))))))
   ·refine R.go 8 (k17 ((fun | (z, ic) => (⟨(frm 63 [(1, .ptr 0 0), (3, .ref 1), (4, AI (x : Int)), (5, .bool ic), (6, AI (y : Int)), (7, AI (z : Int))]), [.box 26 [LLI A, LLI O, LLI J, AI bo, AI t], rowA eI 2 1 (irT (ordT A) x)]⟩ : St) : Nat × Bool → St)) (fun | (z, ic) => (z ≤ A.length) ∧ (inZ (ordT A) x y z = ic)) (fun | (z, ic) => A.length - z) (0, ib) [1, 3, 4, 5, 6, 7] none ⟨(by omega), (by exact inZ_0 (by assumption))⟩ ?_)
    rintro ⟨z, ic⟩ ⟨h15_1, h15_2⟩ R12 N13
    refine R.go 5 (k16 true (l18Size_c A O J bo t) (R.go 2 (k3 ((z : Int) < (A.length : Int)) (fun c16 => ?_) (fun c16 => ?_))))
    ·have hjo := isHy_O hIH (y := y) (z := z) (by omega) (by omega)
     have hjx := hjo.1
     have hjl := hjo.2
     have hOy := hsO y (by omega)
     refine R.go 6 ((Bool.eq_false_or_eq_true (ic)).elim (fun c17 => ?_) (fun c17 => ?_))
     ·refine k6 true c17 ?_
      iterate 3 refine R.go 1 (k6 true c17 ?_)
      refine k9 eLI O [] y (y : Int) eLI_len (k6 true c17 ?_)
      iterate 2 refine R.go 1 (k6 true c17 ?_)
      refine k9 eI (O.getD y []) 0 z (z : Int) eI_len ?_ (hj := by first | omega | (simp only [List.length_set]; omega) | (simp <;> omega))
      refine k6 true c17 ?_
      iterate 3 refine R.go 1 (k6 true c17 ?_)
      refine R.go 1 ?_
      by_cases c18 : ((O.getD y []).getD z 0) = (x : Int)
      ·refine k6 false (nF c18) ?_
       iterate 2 refine R.go 1 (k6 false (nF c18) ?_)
       refine R.go 1 (k6 true c17 (k8 false (nF c18) (k6 true c17 (R.go 1 ?_))))
       by_cases c19 : (y : Int) = (x : Int)
       ·refine k7 false (dT c19) ?_
        iterate 2 refine k7 false (dT c19) ?_
        refine k6 true c17 (k8 true (dT c19) (k8 true c17 (R.go 5 (k1 ((z : Int) + 1) ?_))))
        exact R.go 2 (k18 R12 (N13 (z + 1, true) [1, 3, 4, 5, 6, 7] none _ (by kernel_rfl) (by kernel_rfl) ⟨(by omega), (by first | exact inZ_f (by assumption) (by assumption) | exact inZ_t1 hjx (by assumption) (by assumption) (by assumption) | exact inZ_t2 (by assumption) (by assumption) (by assumption) | exact inZ_t3 hjx (by assumption) (by assumption) (by assumption) (by assumption))⟩ (by show (A.length - (z + 1)) < (A.length - z); omega)))
       refine k6 false (dF c19) ?_
       iterate 2 refine R.go 1 (k6 false (dF c19) ?_)
       refine R.go 1 (k6 true c17 (k8 false (dF c19) (k8 true c17 (R.go 5 (k1 ((z : Int) + 1) ?_)))))
       exact R.go 2 (k18 R12 (N13 (z + 1, decide ((z : Int) = (x : Int))) [1, 3, 4, 5, 6, 7] none _ (by kernel_rfl) (by kernel_rfl) ⟨(by omega), (by first | exact inZ_f (by assumption) (by assumption) | exact inZ_t1 hjx (by assumption) (by assumption) (by assumption) | exact inZ_t2 (by assumption) (by assumption) (by assumption) | exact inZ_t3 hjx (by assumption) (by assumption) (by assumption) (by assumption))⟩ (by show (A.length - (z + 1)) < (A.length - z); omega)))
      iterate 3 refine k7 false (nT c18) ?_
      refine k6 true c17 (k8 true (nT c18) (k6 true c17 (R.go 4 (k6 true c17 (R.go 1 (k8 true c17 (R.go 5 (k1 ((z : Int) + 1) ?_))))))))
      exact R.go 2 (k18 R12 (N13 (z + 1, true) [1, 3, 4, 5, 6, 7] none _ (by kernel_rfl) (by kernel_rfl) ⟨(by omega), (by first | exact inZ_f (by assumption) (by assumption) | exact inZ_t1 hjx (by assumption) (by assumption) (by assumption) | exact inZ_t2 (by assumption) (by assumption) (by assumption) | exact inZ_t3 hjx (by assumption) (by assumption) (by assumption) (by assumption))⟩ (by show (A.length - (z + 1)) < (A.length - z); omega)))
     iterate 11 refine k7 true c17 ?_
     refine R.go 3 (k7 true c17 (k7 true c17 (R.go 3 (k7 true c17 (k8 false c17 (R.go 5 (k1 ((z : Int) + 1) ?_)))))))
     exact R.go 2 (k18 R12 (N13 (z + 1, false) [1, 3, 4, 5, 6, 7] none _ (by kernel_rfl) (by kernel_rfl) ⟨(by omega), (by first | exact inZ_f (by assumption) (by assumption) | exact inZ_t1 hjx (by assumption) (by assumption) (by assumption) | exact inZ_t2 (by assumption) (by assumption) (by assumption) | exact inZ_t3 hjx (by assumption) (by assumption) (by assumption) (by assumption))⟩ (by show (A.length - (z + 1)) < (A.length - z); omega)))
    refine R.go 4 (k1 ((y : Int) + 1) ?_)
    exact R.go 2 (k18 R6 (N7 (y + 1, ic) [1, 3, 4, 5, 6] none _ (by kernel_rfl) (by kernel_rfl) ⟨(by omega), (by exact inY_s (by assumption) (by omega))⟩ (by show (A.length - (y + 1)) < (A.length - y); omega)))
   refine R.go 5 (R.thn (ib) (by kernel_rfl) c10 (R.go 4 (k14 eI (irT (ordT A) x) [(x : Int)] 1 2 1 8 eI_one (R.go 5 (k1 ((x : Int) + 1) ?_)))))
   exact R.go 2 (k18 R1 (N2 (x + 1, (irT (ordT A) x) ++ [(x : Int)]) [1, 3, 4] (some [0, 1]) _ (by kernel_rfl) (by kernel_rfl) ⟨(by omega), (by first | exact irT_y ((ir_fin (by assumption) (by omega) (by first | exact .inr (by omega) | exact .inl (by assumption))).trans (by assumption)) | exact irT_n ((ir_fin (by assumption) (by omega) (by first | exact .inr (by omega) | exact .inl (by assumption))).trans (by assumption)))⟩ (by show (A.length - (x + 1)) < (A.length - x); omega)))
  iterate 4 refine k7 true c10 ?_
  refine k8 false c10 (R.go 7 (k5 c10 (R.go 4 (k1 ((x : Int) + 1) ?_))))
  exact R.go 2 (k18 R1 (N2 (x + 1, irT (ordT A) x) [1, 3, 4] none _ (by kernel_rfl) (by kernel_rfl) ⟨(by omega), (by first | exact irT_y ((ir_fin (by assumption) (by omega) (by first | exact .inr (by omega) | exact .inl (by assumption))).trans (by assumption)) | exact irT_n ((ir_fin (by assumption) (by omega) (by first | exact .inr (by omega) | exact .inl (by assumption))).trans (by assumption)))⟩ (by show (A.length - (x + 1)) < (A.length - x); omega)))
 exact R.go 6 (k19 (ownA eI 2 1 (irT (ordT A) x)) (by first | (rw [irT_end (by omega)]) | (exfalso; omega)))
theorem l18LeqI_c (A O J : List (List Int)) (bo t : Int) (x y : Int) (hx : 0 ≤ x ∧ x < (A.length : Int)) (hy : 0 ≤ y ∧ y < ((A.getD (x).toNat []).length : Int)) : CallA Tryz.prog 226 [.agg [LLI A, LLI O, LLI J, AI bo, AI t], AI x, AI y] (.bool (decide ((A.getD (x).toNat []).getD (y).toNat 0 = x))) := by
 refine CallA.of Tryz.func226 rfl (by kernel_rfl) (R.go 10 (k9 eLI A [] ((x).toNat) x eLI_len ?_ (hji := by omega)))
 refine R.go 2 (k9 eI (A.getD ((x).toNat) []) 0 ((y).toNat) y eI_len ?_ (hji := by omega) (hj := by first | omega | (simp only [List.length_set]; omega) | (simp <;> omega)))
 exact R.go 5 (k19 (.bool (decide (((A.getD ((x).toNat) []).getD ((y).toNat) 0) = x))) (by first | (rfl) | (exfalso; omega)))
theorem l18Dual_c (A O J : List (List Int)) (bo t : Int) (hIH : IsHy (ordT A) A O J bo t) : CallA Tryz.prog 126 [.agg [LLI A, LLI O, LLI J, AI bo, AI t]] (.agg [AI ((irN (ordT A)).length : Int), ownA eI 2 1 (dualL (ordT A))]) := by
 have hsz := isHy_sz hIH
 obtain ⟨hs0, hsA, hsO, hsJ⟩ := hsz
 have hT : tabB A.length A = true := (hyIs_parts.1 hIH.is.1).2.1
 have hol := ordT_len A
 have hRl : RelOK (ordT A).length (ordT A) := ordT_rel (by omega)
 have hb3 := isHy_b hIH
 have ht3 := isHy_t hIH
 have hil := irN_len (ordT A)
 have hiI := irI_len (ordT A)
 have hbn := hb3.2
 have htn := ht3.2
 have hsh : 1 ≤ shl64 1 (A.length : Int) ∧ shl64 1 (A.length : Int) ≤ 4611686018427387904 := shl_rng _ (by omega) (by omega)
 have hrlA : okRl ((ordT A).length : Int) (ordT A) := okRl_of (by omega) hRl
 refine CallA.of Tryz.func126 rfl (by kernel_rfl) (R.go 8 (k16 true (l18Irr_c A O J bo t hIH) (R.go 10 (k17 ((fun | (i, ab) => (⟨(frm 43 [(1, .ptr 0 0), (2, .ptr 1 0), (3, .ref 2), (4, .ref 3), (5, AI (i : Int))]), [.box 26 [LLI A, LLI O, LLI J, AI bo, AI t], .box 35 [AI 0, .nil], rowA eI 2 1 (irI (ordT A)), rowA eI 2 1 ab]⟩ : St) : Nat × (List Int) → St)) (fun | (i, ab) => (i ≤ (irI (ordT A)).length) ∧ (ab = rowR (dlR (ordT A)) i)) (fun | (i, ab) => (irI (ordT A)).length - i) (0, []) [1, 2, 3, 4, 5] none ⟨(by omega), (by rfl)⟩ ?_))))
 rintro ⟨i, ab⟩ ⟨h4_1, rfl⟩ R1 N2
 have hrl := rowR_len (dlR (ordT A)) i
 refine R.go 8 (k3 ((i : Int) < ((irI (ordT A)).length : Int)) (fun c5 => ?_) (fun c5 => ?_))
 ·have hgi := irI_get (xs := ordT A) (i := i) (by omega)
  have hgr := (irN_get (xs := ordT A) (i := i) (by omega)).1
  have hgr2 : 0 ≤ (irI (ordT A)).getD i 0 ∧ (irI (ordT A)).getD i 0 < (A.length : Int) := by rw [hgi]; omega
  refine R.go 13 (k17 ((fun | (j, m) => (⟨(frm 43 [(1, .ptr 0 0), (2, .ptr 1 0), (3, .ref 2), (4, .ref 3), (5, AI (i : Int)), (6, AI m), (7, AI (j : Int))]), [.box 26 [LLI A, LLI O, LLI J, AI bo, AI t], .box 35 [AI 0, .nil], rowA eI 2 1 (irI (ordT A)), rowA eI 2 1 (rowR (dlR (ordT A)) i)]⟩ : St) : Nat × Int → St)) (fun | (j, m) => (j ≤ (irI (ordT A)).length) ∧ (m = mkB (stB (ordT A) ((irI (ordT A)).getD i 0).toNat) j)) (fun | (j, m) => (irI (ordT A)).length - j) (0, 0) [1, 2, 3, 4, 5, 6, 7] none ⟨(by omega), (by rfl)⟩ ?_)
  rintro ⟨j, m⟩ ⟨h9_1, rfl⟩ R6 N7
  refine R.go 8 (k3 ((j : Int) < ((irI (ordT A)).length : Int)) (fun c10 => ?_) (fun c10 => ?_))
  ·have hgj := irI_get (xs := ordT A) (i := j) (by omega)
   have hgk := (irN_get (xs := ordT A) (i := j) (by omega)).1
   have hgk2 : 0 ≤ (irI (ordT A)).getD j 0 ∧ (irI (ordT A)).getD j 0 < (A.length : Int) := by rw [hgj]; omega
   have hgA := hsA ((irI (ordT A)).getD j 0).toNat (by omega)
   refine R.go 8 (k10 2 1 (irI (ordT A)).length j (j : Int) (k12 (irI (ordT A)) j (R.go 2 (k10 2 1 (irI (ordT A)).length i (i : Int) (k12 (irI (ordT A)) i (k16 true (l18LeqI_c A O J bo t ((irI (ordT A)).getD j 0) ((irI (ordT A)).getD i 0) (by first | omega | (simp <;> omega)) (by first | omega | (simp <;> omega))) (R.go 1 (k3 ((A.getD (((irI (ordT A)).getD j 0)).toNat []).getD (((irI (ordT A)).getD i 0)).toNat 0 = ((irI (ordT A)).getD j 0)) (fun c11 => ?_) (fun c11 => ?_)))))))))
   ·refine R.go 3 (k16 true (l01One_c (j : Int) (by omega) (by omega)) (R.go 6 (k1 ((j : Int) + 1) ?_)))
    exact R.go 2 (k18 R6 (N7 (j + 1, bor (mkB (stB (ordT A) ((irI (ordT A)).getD i 0).toNat) j) (shl64 1 (j : Int))) [1, 2, 3, 4, 5, 6, 7] none _ (by kernel_rfl) (by kernel_rfl) ⟨(by omega), (by first | exact mkB_yes (P := stB (ordT A) ((irI (ordT A)).getD i 0).toNat) (st_y hIH (by omega) (by omega) (by assumption)) | exact mkB_no (P := stB (ordT A) ((irI (ordT A)).getD i 0).toNat) (st_n hIH (by omega) (by omega) (by assumption)))⟩ (by show ((irI (ordT A)).length - (j + 1)) < ((irI (ordT A)).length - j); omega)))
   refine R.go 4 (k1 ((j : Int) + 1) ?_)
   exact R.go 2 (k18 R6 (N7 (j + 1, mkB (stB (ordT A) ((irI (ordT A)).getD i 0).toNat) j) [1, 2, 3, 4, 5, 6, 7] none _ (by kernel_rfl) (by kernel_rfl) ⟨(by omega), (by first | exact mkB_yes (P := stB (ordT A) ((irI (ordT A)).getD i 0).toNat) (st_y hIH (by omega) (by omega) (by assumption)) | exact mkB_no (P := stB (ordT A) ((irI (ordT A)).getD i 0).toNat) (st_n hIH (by omega) (by omega) (by assumption)))⟩ (by show ((irI (ordT A)).length - (j + 1)) < ((irI (ordT A)).length - j); omega)))
  refine R.go 5 (k14 eI (rowR (dlR (ordT A)) i) [mkB (stB (ordT A) ((irI (ordT A)).getD i 0).toNat) j] 3 2 1 8 eI_one (R.go 5 (k1 ((i : Int) + 1) ?_)))
  exact R.go 2 (k18 R1 (N2 (i + 1, (rowR (dlR (ordT A)) i) ++ [mkB (stB (ordT A) ((irI (ordT A)).getD i 0).toNat) j]) [1, 2, 3, 4, 5] (some [0, 1, 2, 3]) _ (by kernel_rfl) (by kernel_rfl) ⟨(by omega), (by (rw [← rowR_snoc]; exact congrArg (fun q => rowR (dlR (ordT A)) i ++ [q]) (by rw [st_end (by omega), hgi, Int.toNat_natCast]; rfl)))⟩ (by show ((irI (ordT A)).length - (i + 1)) < ((irI (ordT A)).length - i); omega)))
 refine R.go 4 (k16 false (l16Make_c (rowR (dlR (ordT A)) i) (by first | omega | (simp <;> omega))) ?_ (hr := by simp [AV.closed, closedL, AI, ownA_closed eI_closed]))
 exact R.go 2 (k19 (.agg [AI ((rowR (dlR (ordT A)) i).length), ownA eI 2 1 (rowR (dlR (ordT A)) i)]) (by first | (rw [dl_end (by omega), dualL_len]) | (exfalso; omega)))
theorem dualOfS_c (A O J : List (List Int)) (bo t : Int) (la : A.length ≤ 1000000000 ∧ O.length ≤ 1000000000 ∧ J.length ≤ 1000000000) (mA : ∀ i0 : Nat, i0 < A.length → (A.getD i0 []).length ≤ 1000000000) (mO : ∀ i0 : Nat, i0 < O.length → (O.getD i0 []).length ≤ 1000000000) (mJ : ∀ i0 : Nat, i0 < J.length → (J.getD i0 []).length ≤ 1000000000) : CallA Tryz.prog 44 [.agg [LLI A, LLI O, LLI J, AI bo, AI t]] (.tup [.agg [AI (duN A O J bo t), ownA eI 2 1 (duL A O J bo t)], AI (duK A O J bo t)]) := by
 refine CallA.of Tryz.func44 rfl (by kernel_rfl) (R.go 11 (k16 true (l18Is_c A O J bo t la mA mO mJ) (R.go 3 (k22 (hyIs A O J bo t) (fun c1 => ?_) (fun c1 => ?_)))))
 ·obtain ⟨hd1, hd2, hd3⟩ := du_1 (by assumption : hyIs A O J bo t = false)
  refine R.go 6 (k21 1 1 2 1 ?_)
  exact k19 (.tup [.agg [AI 0, ownA eI 2 1 []], AI 1]) (by first | (rw [hd1, hd2, hd3]) | (exfalso; omega))
 have hIH := hyIs_hy (by assumption : hyIs A O J bo t = true)
 have hsz := isHy_sz hIH
 obtain ⟨hs0, hsA, hsO, hsJ⟩ := hsz
 have hT : tabB A.length A = true := (hyIs_parts.1 hIH.is.1).2.1
 have hol := ordT_len A
 have hRl : RelOK (ordT A).length (ordT A) := ordT_rel (by omega)
 have hb3 := isHy_b hIH
 have ht3 := isHy_t hIH
 have hil := irN_len (ordT A)
 have hiI := irI_len (ordT A)
 have hbn := hb3.2
 have htn := ht3.2
 have hsh : 1 ≤ shl64 1 (A.length : Int) ∧ shl64 1 (A.length : Int) ≤ 4611686018427387904 := shl_rng _ (by omega) (by omega)
 have hrlA : okRl ((ordT A).length : Int) (ordT A) := okRl_of (by omega) hRl
 refine R.go 3 (k16 true (l18Irr_c A O J bo t (by assumption)) (R.go 4 (k3 (((irI (ordT A)).length : Int) > 8) (fun c2 => ?_) (fun c2 => ?_))))
 ·obtain ⟨hd1, hd2, hd3⟩ := du_3 (by assumption : hyIs A O J bo t = true) (by omega)
  refine R.go 6 (k21 1 1 2 1 ?_)
  exact k19 (.tup [.agg [AI 0, ownA eI 2 1 []], AI 3]) (by first | (rw [hd1, hd2, hd3]) | (exfalso; omega))
 obtain ⟨hd1, hd2, hd3⟩ := du_0 (by assumption : hyIs A O J bo t = true) (by omega)
 refine R.go 5 (k16 true (l18Dual_c A O J bo t (by assumption)) ?_)
 exact R.go 3 (k19 (.tup [.agg [AI ((irN (ordT A)).length : Int), ownA eI 2 1 (dualL (ordT A))], AI 0]) (by first | (rw [hd1, hd2, hd3]) | (exfalso; omega)))
theorem SOE_c (A O J : List (List Int)) (bo t x : Int) (hi : hyIs A O J bo t = true) (hx : 0 ≤ x ∧ x < (A.length : Int)) : CallA Tryz.prog 46 [.agg [LLI A, LLI O, LLI J, AI bo, AI t], AI x] (.tup [AI (setX (ordT A) (x).toNat), AI 0]) := by
 have hIH := hyIs_hy hi
 have hsz := isHy_sz hIH
 obtain ⟨hs0, hsA, hsO, hsJ⟩ := hsz
 have hT : tabB A.length A = true := (hyIs_parts.1 hIH.is.1).2.1
 have hol := ordT_len A
 have hRl : RelOK (ordT A).length (ordT A) := ordT_rel (by omega)
 have hb3 := isHy_b hIH
 have ht3 := isHy_t hIH
 have hil := irN_len (ordT A)
 have hiI := irI_len (ordT A)
 have hbn := hb3.2
 have htn := ht3.2
 have hsh : 1 ≤ shl64 1 (A.length : Int) ∧ shl64 1 (A.length : Int) ≤ 4611686018427387904 := shl_rng _ (by omega) (by omega)
 have hrlA : okRl ((ordT A).length : Int) (ordT A) := okRl_of (by omega) hRl
 obtain ⟨hq1, hq2, hq3, hq4⟩ := q6_of hIH
 refine CallA.of Tryz.func46 rfl (by kernel_rfl) (R.go 11 (k16 true (isHeyting_c A O J bo t (by first | omega | (simp <;> omega)) (by assumption) (by assumption) (by assumption)) (R.go 3 (k5 (bnF hi) ?_))))
 have hxr : inR x 0 ((A.length : Int) - 1) = true := inR_el hx
 refine R.go 4 (k16 true (hasElH_c A O J bo t x (by first | omega | (simp <;> omega))) (R.go 3 (k5 (bnF hxr) (R.go 6 (k16 true (setOf_c A O J bo t x (by assumption) hx) ?_)))))
 exact R.go 3 (k19 (.tup [AI (setX (ordT A) (x).toNat), AI 0]) (by rfl))
theorem EOS_c (A O J : List (List Int)) (bo t : Int) (ex m : Int) (hi : hyIs A O J bo t = true) (hx : 0 ≤ ex ∧ ex < (A.length : Int)) (hm : m = setX (ordT A) (ex).toNat) : CallA Tryz.prog 47 [.agg [LLI A, LLI O, LLI J, AI bo, AI t], AI m] (.tup [AI ex, AI 0]) := by
 have hIH := hyIs_hy hi
 have hsz := isHy_sz hIH
 obtain ⟨hs0, hsA, hsO, hsJ⟩ := hsz
 have hT : tabB A.length A = true := (hyIs_parts.1 hIH.is.1).2.1
 have hol := ordT_len A
 have hRl : RelOK (ordT A).length (ordT A) := ordT_rel (by omega)
 have hb3 := isHy_b hIH
 have ht3 := isHy_t hIH
 have hil := irN_len (ordT A)
 have hiI := irI_len (ordT A)
 have hbn := hb3.2
 have htn := ht3.2
 have hsh : 1 ≤ shl64 1 (A.length : Int) ∧ shl64 1 (A.length : Int) ≤ 4611686018427387904 := shl_rng _ (by omega) (by omega)
 have hrlA : okRl ((ordT A).length : Int) (ordT A) := okRl_of (by omega) hRl
 obtain ⟨hq1, hq2, hq3, hq4⟩ := q6_of hIH
 refine CallA.of Tryz.func47 rfl (by kernel_rfl) (R.go 10 (k16 true (isHeyting_c A O J bo t (by first | omega | (simp <;> omega)) (by assumption) (by assumption) (by assumption)) (R.go 2 (k5 (bnF hi) (R.go 5 (k16 true (hsize_c A O J bo t) (R.go 3 (k17 (fun (k : Nat) => (⟨(frm 22 [(1, AI m), (2, .ptr 0 0), (11, AI A.length), (12, AI (k : Int))]), [.box 26 [LLI A, LLI O, LLI J, AI bo, AI t]]⟩ : St)) (fun (k : Nat) => (k : Int) ≤ ex) (fun (k : Nat) => A.length - k) 0 [1, 2, 11, 12] none (by omega) ?_))))))))
 rintro k h3_1 R1 N2
 refine R.go 5 (k3 ((k : Int) < (A.length : Int)) (fun c4 => ?_) (fun c4 => ?_))
 ·refine R.go 12 (k16 true (setOf_c A O J bo t (k : Int) (by assumption) (by first | omega | (simp <;> omega))) (R.go 3 (k3 ((setX (ordT A) ((k : Int)).toNat) = m) (fun c5 => ?_) (fun c5 => ?_))))
  ·exact R.go 6 (k19 (.tup [AI (k : Int), AI 0]) (by first | (first | rfl | exact absurd (hi.symm.trans (by assumption : _ = false)) (by decide) | (rw [eos_hit hIH.ok (k := k) (by omega) (by omega) hm (by assumption)]; done) | (exfalso; omega)) | (exfalso; omega)))
  refine R.go 3 (k1 ((k : Int) + 1) ?_)
  exact R.go 2 (k18 R1 (N2 (k + 1) [1, 2, 11, 12] none _ (by kernel_rfl) (by kernel_rfl) (by exact eos_miss hm (by assumption) (by assumption)) (by show (A.length - (k + 1)) < (A.length - k); omega)))
 exact R.go 6 (k19 (.tup [AI 0, AI 4]) (by first | (first | rfl | exact absurd (hi.symm.trans (by assumption : _ = false)) (by decide) | (rw [eos_hit hIH.ok (k := k) (by omega) (by omega) hm (by assumption)]; done) | (exfalso; omega)) | (exfalso; omega)))
theorem hasInt_c (l : List Int) (x : Int) (hl : l.length ≤ 1000000000) : CallA Tryz.prog 48 [LI l, AI x] (.bool (decide (x ∈ l))) := by
 refine CallA.of Tryz.func48 rfl (by kernel_rfl) (R.go 10 (k17 (fun (i : Nat) => (⟨(frm 18 [(0, LI l), (1, AI x), (5, AI (i : Int))]), []⟩ : St)) (fun (i : Nat) => (i ≤ l.length) ∧ (∀ j, j < i → ¬ l.getD j 0 = x)) (fun (i : Nat) => l.length - i) 0 [0, 1, 5] none ⟨(by omega), (by exact fun j hj => absurd hj (by omega))⟩ ?_))
 rintro i ⟨h3_1, h3_2⟩ R1 N2
 refine R.go 8 (k3 ((i : Int) < (l.length : Int)) (fun c4 => ?_) (fun c4 => ?_))
 ·refine R.go 7 (k9 eI l 0 i (i : Int) eI_len (R.go 4 (k3 ((l.getD i 0) = x) (fun c5 => ?_) (fun c5 => ?_))))
  ·exact R.go 4 (k19 (.bool true) (by first | (apply congrArg AV.bool; first | exact memT (i := i) (by omega) (by assumption) | exact memF (i := i) (by assumption) (by omega)) | (exfalso; omega)))
  refine R.go 4 (k1 ((i : Int) + 1) ?_)
  exact R.go 2 (k18 R1 (N2 (i + 1) [0, 1, 5] none _ (by kernel_rfl) (by kernel_rfl) ⟨(by omega), (by exact below1 (P := fun j => ¬ l.getD j 0 = x) (by assumption) (by assumption))⟩ (by show (l.length - (i + 1)) < (l.length - i); omega)))
 exact R.go 5 (k19 (.bool false) (by first | (apply congrArg AV.bool; first | exact memT (i := i) (by omega) (by assumption) | exact memF (i := i) (by assumption) (by omega)) | (exfalso; omega)))
theorem likeE_c (a b : List Int) (la : a.length ≤ 1000000000) (lb : b.length ≤ 1000000000) : CallA Tryz.prog 127 [LI a, LI b] (.bool (decide (a = b))) := by
 refine CallA.of Tryz.func127 rfl (by kernel_rfl) (R.go 13 (k4 ((a.length : Int) = (b.length : Int)) (fun c1 => ?_) (fun c1 => ?_)))
 ·exact R.go 4 (k19 (.bool false) (by first | (first | (rw [dF (fun h => by subst h; omega)]) | (rw [dT (take_all (i := i) (by omega) (by omega) (by assumption))]) | (rw [dF (fun h => by subst h; exact absurd rfl (by assumption))])) | (exfalso; omega)))
 refine R.go 7 (k17 (fun (i : Nat) => (⟨(frm 26 [(0, LI a), (1, LI b), (5, AI (i : Int))]), []⟩ : St)) (fun (i : Nat) => (i ≤ a.length) ∧ (a.take i = b.take i)) (fun (i : Nat) => a.length - i) 0 [0, 1, 5] none ⟨(by omega), (by rfl)⟩ ?_)
 rintro i ⟨h4_1, h4_2⟩ R2 N3
 refine R.go 8 (k3 ((i : Int) < (a.length : Int)) (fun c5 => ?_) (fun c5 => ?_))
 ·refine R.go 7 (k9 eI a 0 i (i : Int) eI_len (R.go 3 (k9 eI b 0 i (i : Int) eI_len (R.go 3 (k4 ((a.getD i 0) = (b.getD i 0)) (fun c6 => ?_) (fun c6 => ?_))))))
  ·exact R.go 4 (k19 (.bool false) (by first | (first | (rw [dF (fun h => by subst h; omega)]) | (rw [dT (take_all (i := i) (by omega) (by omega) (by assumption))]) | (rw [dF (fun h => by subst h; exact absurd rfl (by assumption))])) | (exfalso; omega)))
  refine R.go 4 (k1 ((i : Int) + 1) ?_)
  exact R.go 2 (k18 R2 (N3 (i + 1) [0, 1, 5] none _ (by kernel_rfl) (by kernel_rfl) ⟨(by omega), (by exact take_step a b 0 i (by omega) (by omega) (by assumption) (by assumption))⟩ (by show (a.length - (i + 1)) < (a.length - i); omega)))
 exact R.go 5 (k19 (.bool true) (by first | (first | (rw [dF (fun h => by subst h; omega)]) | (rw [dT (take_all (i := i) (by omega) (by omega) (by assumption))]) | (rw [dF (fun h => by subst h; exact absurd rfl (by assumption))])) | (exfalso; omega)))
theorem sameP_c (n : Int) (xs : List Int) (m : Int) (ys : List Int) (la : xs.length ≤ 1000000000) (lb : ys.length ≤ 1000000000) : CallA Tryz.prog 45 [.agg [AI n, LI xs], .agg [AI m, LI ys]] (.bool (decide ((n : Int) = m ∧ (xs : List Int) = ys))) := by
 refine CallA.of Tryz.func45 rfl (by kernel_rfl) (R.go 14 ?_)
 by_cases c1 : n = m
 ·refine k6 true (dT c1) ?_
  iterate 4 refine R.go 1 (k6 true (dT c1) ?_)
  refine k16 true (likeE_c xs ys la lb) (k8 true (dT c1) ?_)
  exact R.go 2 (k19 (.bool (decide (xs = ys))) (by first | (apply congrArg AV.bool; simp_all) | (exfalso; omega)))
 iterate 5 refine k7 true (dF c1) ?_
 refine k8 false (dF c1) ?_
 exact R.go 2 (k19 (.bool false) (by first | (apply congrArg AV.bool; simp_all) | (exfalso; omega)))
theorem tables_c (A O J : List (List Int)) (bo t : Int) : CallA Tryz.prog 320 [.agg [LLI A, LLI O, LLI J, AI bo, AI t]] (.agg [LLI A, LLI O, LLI J]) := by
 refine CallA.of Tryz.func320 rfl (by kernel_rfl) (R.go 13 (k38 (.agg [LLI A, LLI O, LLI J]) ?_))
 exact R.go 2 (k19 (.agg [LLI A, LLI O, LLI J]) (by rfl))
set_option maxHeartbeats 2000000 in
theorem keeps_c (A O : List (List Int)) (J A2 : List (List Int)) (O2 J2 : List (List Int)) (bo t : Int) (b2 t2 : Int) (im : List Int) (hIH : IsHy (ordT A) A O J bo t) (hI2 : IsHy (ordT A2) A2 O2 J2 b2 t2) (hK : KP (ordT A) (ordT A2) im) : CallA Tryz.prog 229 [.agg [LLI A, LLI O, LLI J, AI bo, AI t], .agg [LLI A2, LLI O2, LLI J2, AI b2, AI t2], LI im] (.bool true) := by
 have hl := hK.1.trans (ordT_len A)
 have hsz := (isHy_sz hIH).1
 have hal := ordT_len A
 obtain ⟨hkb1, hkt1⟩ := kp_bt hIH hI2 hK
 obtain ⟨hkb2, hkb3, hkb4⟩ := hkb1
 obtain ⟨hkt2, hkt3, hkt4⟩ := hkt1
 refine CallA.of Tryz.func229 rfl (by kernel_rfl) ?_
 have hc1 : bo < (im.length : Int) := by omega
 have hc2 : (im.getD ((bo).toNat) 0) = b2 := hkb4
 have hc3 : t < (im.length : Int) := by omega
 have hc4 : (im.getD ((t).toNat) 0) = t2 := hkt4
 refine R.go 20 (k6 true (dT hc1) ?_)
 iterate 3 refine R.go 1 (k6 true (dT hc1) ?_)
 refine k9 eI im 0 ((bo).toNat) bo eI_len ?_ (hji := by omega)
 refine k6 true (dT hc1) ?_
 iterate 3 refine R.go 1 (k6 true (dT hc1) ?_)
 refine R.go 1 (k8 true (dT hc1) ?_)
 iterate 5 refine R.go 1 (k6 false (nF hc2) ?_)
 iterate 4 refine R.go 1 (k6 true (dT hc3) ?_)
 refine k9 eI im 0 ((t).toNat) t eI_len ?_ (hji := by omega)
 refine k6 true (dT hc3) ?_
 iterate 3 refine R.go 1 (k6 true (dT hc3) ?_)
 refine R.go 1 (k6 false (nF hc2) (k8 true (dT hc3) (k8 false (nF hc2) (R.go 1 (k5 (nF hc4) (R.go 4 (k16 true (tables_c A2 O2 J2 b2 t2) (R.go 7 (k16 true (tables_c A O J bo t) (R.go 3 (R.rounds 3 (by kernel_rfl) ?_)))))))))))
 intro R1 hA2
 refine R.go 12 (k38 (LLI A) (R.go 9 (k17 (fun (x : Nat) => (⟨(frm 97 [(2, LI im), (7, AI im.length), (8, .ptr 0 0), (9, AI 0), (10, LLI A), (49, .agg [LLI A, LLI O, LLI J]), (50, AI 0), (54, AI im.length), (55, AI (x : Int))]), [.box 255 [LLI A2, LLI O2, LLI J2]]⟩ : St)) (fun (x : Nat) => x ≤ im.length) (fun (x : Nat) => im.length - x) 0 [2, 7, 8, 9, 10, 49, 50, 54, 55] (some [2]) (by omega) ?_)))
 rintro x h5_1 R3 N4
 refine R.go 5 (k3 ((x : Int) < (im.length : Int)) (fun c6 => ?_) (fun c6 => ?_))
 ·refine R.go 14 (k17 (fun (y : Nat) => (⟨(frm 97 [(2, LI im), (7, AI im.length), (8, .ptr 0 0), (9, AI 0), (10, LLI A), (11, AI (x : Int)), (49, .agg [LLI A, LLI O, LLI J]), (50, AI 0), (54, AI im.length), (55, AI (x : Int)), (58, AI im.length), (59, AI (y : Int))]), [.box 255 [LLI A2, LLI O2, LLI J2]]⟩ : St)) (fun (y : Nat) => y ≤ im.length) (fun (y : Nat) => im.length - y) 0 [2, 7, 8, 9, 10, 11, 49, 50, 54, 55, 58, 59] none (by omega) ?_)
  rintro y h9_1 R7 N8
  refine R.go 5 (k3 ((y : Int) < (im.length : Int)) (fun c10 => ?_) (fun c10 => ?_))
  ·have hk5 := kp_A hIH hI2 hK (x := x) (y := y) (by omega) (by omega)
   obtain ⟨hkz, hkx, hka, hkb, hke⟩ := hk5
   have hc1 : ((A.getD x []).getD y 0) < (im.length : Int) := hkz.2
   have hc2 : (im.getD ((((A.getD x []).getD y 0)).toNat) 0) = ((A2.getD (((im.getD x 0)).toNat) []).getD (((im.getD y 0)).toNat) 0) := hke
   refine R.go 12 (k9 eLI A [] x (x : Int) eLI_len (R.go 2 (k9 eI (A.getD x []) 0 y (y : Int) eI_len ?_ (hj := by first | omega | (simp only [List.length_set]; omega) | (simp <;> omega)))))
   refine R.go 9 (k6 true (dT hc1) ?_)
   iterate 2 refine R.go 1 (k6 true (dT hc1) ?_)
   refine k9 eI im 0 ((((A.getD x []).getD y 0)).toNat) ((A.getD x []).getD y 0) eI_len ?_ (hji := by omega)
   refine k6 true (dT hc1) ?_
   iterate 2 refine R.go 1 (k6 true (dT hc1) ?_)
   refine k38 (.ptr 0 0) (k6 true (dT hc1) ?_)
   iterate 3 refine R.go 1 (k6 true (dT hc1) ?_)
   refine k9 eI im 0 x (x : Int) eI_len (k6 true (dT hc1) (R.go 1 (k6 true (dT hc1) (k9 eLI A2 [] (((im.getD x 0)).toNat) (im.getD x 0) eLI_len ?_ (hji := by omega)))))
   refine k6 true (dT hc1) ?_
   iterate 3 refine R.go 1 (k6 true (dT hc1) ?_)
   refine k9 eI im 0 y (y : Int) eI_len (k6 true (dT hc1) (R.go 1 (k6 true (dT hc1) (k9 eI (A2.getD (((im.getD x 0)).toNat) []) 0 (((im.getD y 0)).toNat) (im.getD y 0) eI_len ?_ (hji := by omega) (hj := by first | omega | (simp only [List.length_set]; omega) | (simp <;> omega))))))
   refine k6 true (dT hc1) (R.go 1 (k6 true (dT hc1) (R.go 1 (k8 true (dT hc1) (R.go 1 (k5 (nF hc2) (R.go 3 (k1 ((y : Int) + 1) ?_))))))))
   exact R.go 2 (k18 R7 (N8 (y + 1) [2, 7, 8, 9, 10, 11, 49, 50, 54, 55, 58, 59] none _ (by kernel_rfl) (by kernel_rfl) (by omega) (by show (im.length - (y + 1)) < (im.length - y); omega)))
  refine R.go 3 (k1 ((x : Int) + 1) ?_)
  exact R.go 2 (k18 R3 (N4 (x + 1) [2, 7, 8, 9, 10, 49, 50, 54, 55] none _ (by kernel_rfl) (by kernel_rfl) (by omega) (by show (im.length - (x + 1)) < (im.length - x); omega)))
 refine R.go 6 (R.stopA R1 (by kernel_rfl) hA2 ?_)
 intro R11 hA12
 refine R.go 12 (k38 (LLI O) (R.go 9 (k17 (fun (x : Nat) => (⟨(frm 97 [(2, LI im), (7, AI im.length), (8, .ptr 0 0), (9, AI 1), (10, LLI O), (49, .agg [LLI A, LLI O, LLI J]), (50, AI 1), (54, AI im.length), (55, AI (x : Int))]), [.box 255 [LLI A2, LLI O2, LLI J2]]⟩ : St)) (fun (x : Nat) => x ≤ im.length) (fun (x : Nat) => im.length - x) 0 [2, 7, 8, 9, 10, 49, 50, 54, 55] none (by omega) ?_)))
 rintro x h15_1 R13 N14
 refine R.go 5 (k3 ((x : Int) < (im.length : Int)) (fun c16 => ?_) (fun c16 => ?_))
 ·refine R.go 14 (k17 (fun (y : Nat) => (⟨(frm 97 [(2, LI im), (7, AI im.length), (8, .ptr 0 0), (9, AI 1), (10, LLI O), (11, AI (x : Int)), (49, .agg [LLI A, LLI O, LLI J]), (50, AI 1), (54, AI im.length), (55, AI (x : Int)), (58, AI im.length), (59, AI (y : Int))]), [.box 255 [LLI A2, LLI O2, LLI J2]]⟩ : St)) (fun (y : Nat) => y ≤ im.length) (fun (y : Nat) => im.length - y) 0 [2, 7, 8, 9, 10, 11, 49, 50, 54, 55, 58, 59] none (by omega) ?_)
  rintro y h19_1 R17 N18
  refine R.go 5 (k3 ((y : Int) < (im.length : Int)) (fun c20 => ?_) (fun c20 => ?_))
  ·have hk5 := kp_O hIH hI2 hK (x := x) (y := y) (by omega) (by omega)
   obtain ⟨hkz, hkx, hka, hkb, hke⟩ := hk5
   have hc1 : ((O.getD x []).getD y 0) < (im.length : Int) := hkz.2
   have hc2 : (im.getD ((((O.getD x []).getD y 0)).toNat) 0) = ((O2.getD (((im.getD x 0)).toNat) []).getD (((im.getD y 0)).toNat) 0) := hke
   refine R.go 12 (k9 eLI O [] x (x : Int) eLI_len (R.go 2 (k9 eI (O.getD x []) 0 y (y : Int) eI_len ?_ (hj := by first | omega | (simp only [List.length_set]; omega) | (simp <;> omega)))))
   refine R.go 9 (k6 true (dT hc1) ?_)
   iterate 2 refine R.go 1 (k6 true (dT hc1) ?_)
   refine k9 eI im 0 ((((O.getD x []).getD y 0)).toNat) ((O.getD x []).getD y 0) eI_len ?_ (hji := by omega)
   refine k6 true (dT hc1) ?_
   iterate 2 refine R.go 1 (k6 true (dT hc1) ?_)
   refine k38 (.ptr 0 1) (k6 true (dT hc1) ?_)
   iterate 3 refine R.go 1 (k6 true (dT hc1) ?_)
   refine k9 eI im 0 x (x : Int) eI_len (k6 true (dT hc1) (R.go 1 (k6 true (dT hc1) (k9 eLI O2 [] (((im.getD x 0)).toNat) (im.getD x 0) eLI_len ?_ (hji := by omega)))))
   refine k6 true (dT hc1) ?_
   iterate 3 refine R.go 1 (k6 true (dT hc1) ?_)
   refine k9 eI im 0 y (y : Int) eI_len (k6 true (dT hc1) (R.go 1 (k6 true (dT hc1) (k9 eI (O2.getD (((im.getD x 0)).toNat) []) 0 (((im.getD y 0)).toNat) (im.getD y 0) eI_len ?_ (hji := by omega) (hj := by first | omega | (simp only [List.length_set]; omega) | (simp <;> omega))))))
   refine k6 true (dT hc1) (R.go 1 (k6 true (dT hc1) (R.go 1 (k8 true (dT hc1) (R.go 1 (k5 (nF hc2) (R.go 3 (k1 ((y : Int) + 1) ?_))))))))
   exact R.go 2 (k18 R17 (N18 (y + 1) [2, 7, 8, 9, 10, 11, 49, 50, 54, 55, 58, 59] none _ (by kernel_rfl) (by kernel_rfl) (by omega) (by show (im.length - (y + 1)) < (im.length - y); omega)))
  refine R.go 3 (k1 ((x : Int) + 1) ?_)
  exact R.go 2 (k18 R13 (N14 (x + 1) [2, 7, 8, 9, 10, 49, 50, 54, 55] none _ (by kernel_rfl) (by kernel_rfl) (by omega) (by show (im.length - (x + 1)) < (im.length - x); omega)))
 refine R.go 6 (R.stopA R11 (by kernel_rfl) hA12 ?_)
 intro R21 hA22
 refine R.go 12 (k38 (LLI J) (R.go 9 (k17 (fun (x : Nat) => (⟨(frm 97 [(2, LI im), (7, AI im.length), (8, .ptr 0 0), (9, AI 2), (10, LLI J), (49, .agg [LLI A, LLI O, LLI J]), (50, AI 2), (54, AI im.length), (55, AI (x : Int))]), [.box 255 [LLI A2, LLI O2, LLI J2]]⟩ : St)) (fun (x : Nat) => x ≤ im.length) (fun (x : Nat) => im.length - x) 0 [2, 7, 8, 9, 10, 49, 50, 54, 55] none (by omega) ?_)))
 rintro x h25_1 R23 N24
 refine R.go 5 (k3 ((x : Int) < (im.length : Int)) (fun c26 => ?_) (fun c26 => ?_))
 ·refine R.go 14 (k17 (fun (y : Nat) => (⟨(frm 97 [(2, LI im), (7, AI im.length), (8, .ptr 0 0), (9, AI 2), (10, LLI J), (11, AI (x : Int)), (49, .agg [LLI A, LLI O, LLI J]), (50, AI 2), (54, AI im.length), (55, AI (x : Int)), (58, AI im.length), (59, AI (y : Int))]), [.box 255 [LLI A2, LLI O2, LLI J2]]⟩ : St)) (fun (y : Nat) => y ≤ im.length) (fun (y : Nat) => im.length - y) 0 [2, 7, 8, 9, 10, 11, 49, 50, 54, 55, 58, 59] none (by omega) ?_)
  rintro y h29_1 R27 N28
  refine R.go 5 (k3 ((y : Int) < (im.length : Int)) (fun c30 => ?_) (fun c30 => ?_))
  ·have hk5 := kp_J hIH hI2 hK (x := x) (y := y) (by omega) (by omega)
   obtain ⟨hkz, hkx, hka, hkb, hke⟩ := hk5
   have hc1 : ((J.getD x []).getD y 0) < (im.length : Int) := hkz.2
   have hc2 : (im.getD ((((J.getD x []).getD y 0)).toNat) 0) = ((J2.getD (((im.getD x 0)).toNat) []).getD (((im.getD y 0)).toNat) 0) := hke
   refine R.go 12 (k9 eLI J [] x (x : Int) eLI_len (R.go 2 (k9 eI (J.getD x []) 0 y (y : Int) eI_len ?_ (hj := by first | omega | (simp only [List.length_set]; omega) | (simp <;> omega)))))
   refine R.go 9 (k6 true (dT hc1) ?_)
   iterate 2 refine R.go 1 (k6 true (dT hc1) ?_)
   refine k9 eI im 0 ((((J.getD x []).getD y 0)).toNat) ((J.getD x []).getD y 0) eI_len ?_ (hji := by omega)
   refine k6 true (dT hc1) ?_
   iterate 2 refine R.go 1 (k6 true (dT hc1) ?_)
   refine k38 (.ptr 0 2) (k6 true (dT hc1) ?_)
   iterate 3 refine R.go 1 (k6 true (dT hc1) ?_)
   refine k9 eI im 0 x (x : Int) eI_len (k6 true (dT hc1) (R.go 1 (k6 true (dT hc1) (k9 eLI J2 [] (((im.getD x 0)).toNat) (im.getD x 0) eLI_len ?_ (hji := by omega)))))
   refine k6 true (dT hc1) ?_
   iterate 3 refine R.go 1 (k6 true (dT hc1) ?_)
   refine k9 eI im 0 y (y : Int) eI_len (k6 true (dT hc1) (R.go 1 (k6 true (dT hc1) (k9 eI (J2.getD (((im.getD x 0)).toNat) []) 0 (((im.getD y 0)).toNat) (im.getD y 0) eI_len ?_ (hji := by omega) (hj := by first | omega | (simp only [List.length_set]; omega) | (simp <;> omega))))))
   refine k6 true (dT hc1) (R.go 1 (k6 true (dT hc1) (R.go 1 (k8 true (dT hc1) (R.go 1 (k5 (nF hc2) (R.go 3 (k1 ((y : Int) + 1) ?_))))))))
   exact R.go 2 (k18 R27 (N28 (y + 1) [2, 7, 8, 9, 10, 11, 49, 50, 54, 55, 58, 59] none _ (by kernel_rfl) (by kernel_rfl) (by omega) (by show (im.length - (y + 1)) < (im.length - y); omega)))
  refine R.go 3 (k1 ((x : Int) + 1) ?_)
  exact R.go 2 (k18 R23 (N24 (x + 1) [2, 7, 8, 9, 10, 49, 50, 54, 55] none _ (by kernel_rfl) (by kernel_rfl) (by omega) (by show (im.length - (x + 1)) < (im.length - x); omega)))
 refine R.go 6 (R.stopA R21 (by kernel_rfl) hA22 ?_)
 intro R31 hA32
 exact R.go 11 (k19 (.bool true) (by rfl))
theorem isHM1_c (A O J : List (List Int)) (bo t x : Int) (la : A.length ≤ 1000000000) : CallA Tryz.prog 228 [AI x, .rptr [LLI A, LLI O, LLI J, AI bo, AI t]] (.bool (outN A.length x)) := by
 refine CallA.of Tryz.func228 rfl (by kernel_rfl) (R.go 8 (k16 true (hasElH_c A O J bo t x la) ?_))
 exact R.go 3 (k19 (.bool (!(inR x 0 ((A.length : Int) - 1)))) (by first | (rfl) | (exfalso; omega)))
theorem indexHm_c (r : List Int) (A O J : List (List Int)) (bo t : Int) (hl : r.length ≤ 1000000000) (la : A.length ≤ 1000000000) : CallA Tryz.prog 172 [LI r, .fn 228 [.rptr [LLI A, LLI O, LLI J, AI bo, AI t]]] (AI (fidxI (outN A.length) r 0)) := by
 refine CallA.of Tryz.func172 rfl (by kernel_rfl) (R.go 12 (k17 (fun (i : Nat) => (⟨(frm 19 [(0, LI r), (1, .fn 228 [.rptr [LLI A, LLI O, LLI J, AI bo, AI t]]), (7, AI r.length), (8, AI (i : Int))]), []⟩ : St)) (fun (i : Nat) => (i ≤ r.length) ∧ (fidxI (outN A.length) r 0 = fidxI (outN A.length) (r.drop i) i)) (fun (i : Nat) => r.length - i) 0 [0, 1, 7, 8] none ⟨(by omega), (by rfl)⟩ ?_))
 rintro i ⟨h3_1, h3_2⟩ R1 N2
 refine R.go 5 (k3 ((i : Int) < (r.length : Int)) (fun c4 => ?_) (fun c4 => ?_))
 ·refine R.go 13 (k9 eI r 0 i (i : Int) eI_len (R.go 1 (k16 true (isHM1_c A O J bo t (r.getD i 0) la) (R.go 1 (R.condB (outN A.length (r.getD i 0)) (by kernel_rfl) (fun c5 => ?_) (fun c5 => ?_))))))
  ·exact R.go 5 (k19 (AI (i : Int)) (by first | (apply congrArg AI; rw [‹fidxI (outN A.length) r 0 = _›]; first | exact (fidxI_end (by omega)).symm | exact (fidxI_hit (by omega) (by assumption)).symm) | (exfalso; omega)))
  refine R.go 3 (k1 ((i : Int) + 1) ?_)
  exact R.go 2 (k18 R1 (N2 (i + 1) [0, 1, 7, 8] none _ (by kernel_rfl) (by kernel_rfl) ⟨(by omega), (by rw [‹fidxI (outN A.length) r 0 = _›]; exact fidxI_miss (by omega) (by assumption))⟩ (by show (r.length - (i + 1)) < (r.length - i); omega)))
 exact R.go 5 (k19 (AI (-1)) (by first | (apply congrArg AI; rw [‹fidxI (outN A.length) r 0 = _›]; first | exact (fidxI_end (by omega)).symm | exact (fidxI_hit (by omega) (by assumption)).symm) | (exfalso; omega)))
theorem containsHm_c (r : List Int) (A O J : List (List Int)) (bo t : Int) (hl : r.length ≤ 1000000000) (la : A.length ≤ 1000000000) : CallA Tryz.prog 77 [LI r, .fn 228 [.rptr [LLI A, LLI O, LLI J, AI bo, AI t]]] (.bool (r.any (outN A.length))) := by
 refine CallA.of Tryz.func77 rfl (by kernel_rfl) (R.go 8 (k16 true (indexHm_c r A O J bo t hl la) ?_))
 exact R.go 3 (k19 (.bool (decide ((fidxI (outN A.length) r 0) ≥ 0))) (by first | (apply congrArg AV.bool; rw [Bool.eq_iff_iff, decide_eq_true_iff]; exact fidxI_any (Int.le_refl 0)) | (exfalso; omega)))
theorem isHM_c (A O : List (List Int)) (J A2 : List (List Int)) (O2 J2 : List (List Int)) (bo t : Int) (b2 t2 : Int) (im : List Int) (hIH : IsHy (ordT A) A O J bo t) (hI2 : IsHy (ordT A2) A2 O2 J2 b2 t2) (hK : KP (ordT A) (ordT A2) im) : CallA Tryz.prog 129 [.agg [LLI A, LLI O, LLI J, AI bo, AI t], .agg [LLI A2, LLI O2, LLI J2, AI b2, AI t2], LI im] (.bool true) := by
 have hl := hK.1.trans (ordT_len A)
 have hsz := (isHy_sz hIH).1
 have hsz2 := (isHy_sz hI2).1
 refine CallA.of Tryz.func129 rfl (by kernel_rfl) ?_
 have hlA : (im.length : Int) = (A.length : Int) := by omega
 have hno : im.any (outN A2.length) = false := kp_no hK
 refine R.go 9 (k16 true (size_c im) (R.go 1 (k16 true (hsize_c A O J bo t) (R.go 2 (k6 true (dT hlA) ?_)))))
 iterate 2 refine R.go 1 (k6 true (dT hlA) ?_)
 refine k16 false (containsHm_c im A2 O2 J2 b2 t2 (by first | omega | (simp <;> omega)) (by first | omega | (simp <;> omega))) (k6 true (dT hlA) (R.go 1 (k8 true (dT hlA) ?_)))
 iterate 4 refine R.go 1 (k6 true (bnT hno) ?_)
 refine k16 true (keeps_c A O J A2 O2 J2 bo t b2 t2 im hIH hI2 hK) (k8 true (bnT hno) ?_)
 exact R.go 2 (k19 (.bool true) (by rfl))
theorem IsHM_c (A O : List (List Int)) (J A2 : List (List Int)) (O2 J2 : List (List Int)) (bo t : Int) (b2 t2 : Int) (im : List Int) (hi : hyIs A O J bo t = true) (hj : hyIs A2 O2 J2 b2 t2 = true) (hK : KP (ordT A) (ordT A2) im) : CallA Tryz.prog 49 [.agg [LLI A, LLI O, LLI J, AI bo, AI t], .agg [LLI A2, LLI O2, LLI J2, AI b2, AI t2], LI im] (.tup [.bool true, AI 0]) := by
 have hIH := hyIs_hy hi
 have hI2 := hyIs_hy hj
 obtain ⟨hq1, hq2, hq3, hq4⟩ := q6_of hIH
 obtain ⟨hr1, hr2, hr3, hr4⟩ := q6_of hI2
 refine CallA.of Tryz.func49 rfl (by kernel_rfl) (R.go 11 (k16 true (isHeyting_c A O J bo t (by first | omega | (simp <;> omega)) (by assumption) (by assumption) (by assumption)) (R.go 2 (k6 false (bnF hi) (R.go 1 (k6 false (bnF hi) (k16 true (isHeyting_c A2 O2 J2 b2 t2 (by first | omega | (simp <;> omega)) (by assumption) (by assumption) (by assumption)) (k6 false (bnF hi) (R.go 1 (k8 false (bnF hi) (R.go 1 (k5 (bnF hj) (R.go 6 (k16 true (isHM_c A O J A2 O2 J2 bo t b2 t2 im (by assumption) (by assumption) hK) ?_))))))))))))))
 exact R.go 3 (k19 (.tup [.bool true, AI 0]) (by rfl))
end Go.Proofs.YtjllngcefoohpaaGreat
