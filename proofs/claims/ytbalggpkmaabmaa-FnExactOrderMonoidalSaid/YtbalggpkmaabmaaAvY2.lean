/-
  Own copies of the reference as objects: lists, lists of lists, categories.
-/
import Derived.Test.YtbalggpkmaabmaaAvY0
namespace Go.Av
open Classical
set_option linter.unusedSimpArgs false
set_option linter.unusedVariables false
variable {P : Program} {ν : Nat → FuncId}
section
variable {C : Ct} {Φ : AV → Hp → Nat → Prop} {n : Nat} {vars : Nat → AV} {H : Hp} {nx : Nat} {Is : Nat → Inv} {r : Vc}
theorem den_own (how : Has P ν 259 1 V_spec_l01Own) {x : Opd} (l : List Int) (hx : ev vars x = islice l) (hl : l.length ≤ 1099511627776)
    (hk : ∀ v s H2 nx2, Gr s l v H2 → (∀ o, s = some o → nx ≤ o ∧ o < nx2) → nx ≤ nx2 → (∀ o, o < nx → H2 o = H o) → den (OkM P ν) Φ r (n + 1) (put vars n v) H2 nx2 Is) :
    den (OkM P ν) Φ (.op true (.callo (.f 259) [x]) r) n vars H nx Is := by
  refine den_callo (fc := (259, [])) (ys := [islice l]) rfl (by simp only [List.map_cons, List.map_nil, hx, List.append_nil]; rfl) (l01Own_ok how l hl hempty nx) (IsI.some _ _ _) fun u H' nx' hu => ?_
  obtain ⟨q1, q2, q3, own⟩ := hu.own H
  refine ⟨q1, q2, ?_⟩
  rcases own with ⟨e, rfl⟩ | ⟨o, o1, o2, rfl, e⟩
  · exact hk _ none _ _ ⟨e, rfl⟩ (fun o h => by cases h) q3 fun o ho => hmerge_lo ho
  · exact hk _ (some o) _ _ ⟨rfl, e⟩ (fun o' h => by cases h; exact ⟨o1, o2⟩) q3 fun o ho => hmerge_lo ho
end
def IsD (R : List (List Int)) (nx : Nat) (r : AV) (H' : Hp) (nx' : Nat) : Prop := nx ≤ nx' ∧ OwnD R r H' nx nx' ∧ clnH nx H'
theorem IsD.some (R : List (List Int)) (nx : Nat) : ∃ u H' nx', IsD R nx u H' nx' := by
  obtain ⟨v, H', nx', h1, h2, _⟩ := OwnD.some R hempty nx
  exact ⟨v, keepH nx H', nx', h1, h2.keep, keepH_cln _ _⟩
theorem IsD.own {R : List (List Int)} {nx : Nat} {r : AV} {H' : Hp} {nx' : Nat} (h : IsD R nx r H' nx') (H : Hp) : cln nx fuel r = true ∧ clnH nx H' ∧ nx ≤ nx' ∧ OwnD R r (hmerge nx H H') nx nx' := by
  obtain ⟨h0, hO, hc⟩ := h
  refine ⟨hO.cln _, hc, h0, hO.mono (Nat.le_refl _) fun o h1 h2 => ?_⟩
  simp only [hmerge]; rw [if_neg (by omega)]
def V_spec_l01Own2_o : Vc :=
  .op true (.p (.msl 0 [] []) []) <|
  .loop 0 [.t 1, .c (int 0)] <|
  .op true (.p .len [.t 0]) <|
  .op true (.p (.bin .lss) [.t 3, .t 4]) <|
  .br 5
   (.op true (.p (.iad 1) [.t 0, .t 3]) <|
   .op true (.p (.ld none) [.t 6]) <|
   .op true (.callo (.f 259) [.t 7]) <|
   .op true (.mslm 1 1 [.nil] [(0, 1)] [.t 8]) <|
   .op true (.app 1 (.t 2) (.t 9)) <|
   .op true (.p (.bin .add) [.t 3, .c (int 1)]) <|
   .again 0 [.t 10, .t 11])
   (.ret [(.t 2, none)])
theorem l01Own2_own (how : Has P ν 259 1 V_spec_l01Own) (h : Has P ν 360 1 V_spec_l01Own2_o) (R : List (List Int)) (hl : R.length ≤ 1048576) (hr : ∀ i, i < R.length → (R.getD i []).length ≤ 1048576) (nx : Nat) : OkM P ν 360 [.sl (rows R) R.length] hempty nx (IsD R nx) := by
  refine h _ _ _ _ rfl fun hwf => ?_
  unfold V_spec_l01Own2_o
  try simp (disch := (first | rfl | with_reducible assumption | with_reducible solve_by_elim (maxDepth := 8) [Shape.inT, Shape.inI, Shape.inC, Shape.inK, Shape.obF, Shape.obT, Shape.arI, Arr.inF] | omega)) only [S2, Nat.reduceEqDiff, Nat.reduceAdd, iput, puts]
  refine den_loop (α := Nat × AV) (fun a => [a.2, int a.1]) (fun a H' nx' => a.1 ≤ R.length ∧ nx ≤ nx' ∧ OwnD (R.take a.1) a.2 H' nx nx') (fun a => R.length - a.1) (0, .nil) rfl ⟨Nat.zero_le _, Nat.le_refl _, OwnD.nil⟩ ?_
  rintro ⟨i, v⟩ H1 n1 ⟨hi, h0, hI⟩
  simp only at hi h0 hI
  by_cases hlt : i < R.length
  · have iR : InR R (i : Int) := InR.nat hlt
    have bi := hr i hlt
    have tk : R.take (i + 1) = R.take i ++ [gR R i] := by
      rw [List.take_succ_eq_append_getElem hlt]
      congr 2
      show R[i] = R.getD i []
      simp [List.getD, hlt]
    try simp (disch := (first | rfl | with_reducible assumption | with_reducible solve_by_elim (maxDepth := 8) [Shape.inT, Shape.inI, Shape.inC, Shape.inK, Shape.obF, Shape.obT, Shape.arI, Arr.inF] | omega)) only [S2, Nat.reduceEqDiff, Nat.reduceAdd, iput, puts, hlt]
    refine den_own how (gR R i) rfl (by show (R.getD i []).length ≤ _; omega) fun w s H2 n2 g2 r2 l2 k2 => ?_
    have hI2 := hI.mono (H' := H2) (Nat.le_refl _) fun t _ ht => k2 t ht
    refine den_rowF (l := gR R i) hI2 l2 (fun _ => rfl) h0 (by rw [List.length_take]; omega) (g2.own r2) fun v3 H4 n4 hI4 l4 _ _ _ => ?_
    try simp (disch := (first | rfl | with_reducible assumption | with_reducible solve_by_elim (maxDepth := 8) [Shape.inT, Shape.inI, Shape.inC, Shape.inK, Shape.obF, Shape.obT, Shape.arI, Arr.inF] | omega)) only [S2, Nat.reduceEqDiff, Nat.reduceAdd, iput, puts]
    refine ⟨(i + 1, v3), rfl, ⟨hlt, by omega, ?_⟩, by simp only; omega⟩
    simp only
    rw [tk]
    exact hI4
  · try simp (disch := (first | rfl | with_reducible assumption | with_reducible solve_by_elim (maxDepth := 8) [Shape.inT, Shape.inI, Shape.inC, Shape.inK, Shape.obF, Shape.obT, Shape.arI, Arr.inF] | omega)) only [S2, Nat.reduceEqDiff, Nat.reduceAdd, iput, puts, hlt]
    have : i = R.length := by omega
    subst this
    rw [List.take_length] at hI
    exact ⟨_, rfl, keepH nx H1, keepH_sub _ _, h0, hI.keep, keepH_cln _ _⟩
end Go.Av
