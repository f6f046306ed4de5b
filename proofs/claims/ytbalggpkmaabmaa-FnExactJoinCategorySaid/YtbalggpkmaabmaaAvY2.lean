/-
  Own copies of the reference as objects: lists, lists of lists, categories.
-/
import Derived.Test.YtbalggpkmaabmaaAvY0
namespace Go.Av
open Classical
set_option linter.unusedSimpArgs false
set_option linter.unusedVariables false
variable {P : Program} {ν : Nat → FuncId}
section
variable {C : Ct} {Φ : AV → Hp → Nat → Prop} {n : Nat} {vars : Nat → AV} {H : Hp} {nx : Nat} {Is : Nat → Inv} {r : Vc}
theorem den_own (how : Has P ν 259 1 V_spec_l01Own) {x : Opd} (l : List Int) (hx : ev vars x = islice l) (hl : l.length ≤ 1099511627776)
    (hk : ∀ v s H2 nx2, Gr s l v H2 → (∀ o, s = some o → nx ≤ o ∧ o < nx2) → nx ≤ nx2 → (∀ o, o < nx → H2 o = H o) → den (OkM P ν) Φ r (n + 1) (put vars n v) H2 nx2 Is) :
    den (OkM P ν) Φ (.op true (.callo (.f 259) [x]) r) n vars H nx Is := by
  refine den_callo (fc := (259, [])) (ys := [islice l]) rfl (by simp only [List.map_cons, List.map_nil, hx, List.append_nil]; rfl) (l01Own_ok how l hl hempty nx) (IsI.some _ _ _) fun u H' nx' hu => ?_
  obtain ⟨q1, q2, q3, own⟩ := hu.own H
  refine ⟨q1, q2, ?_⟩
  rcases own with ⟨e, rfl⟩ | ⟨o, o1, o2, rfl, e⟩
  · exact hk _ none _ _ ⟨e, rfl⟩ (fun o h => by cases h) q3 fun o ho => hmerge_lo ho
  · exact hk _ (some o) _ _ ⟨rfl, e⟩ (fun o' h => by cases h; exact ⟨o1, o2⟩) q3 fun o ho => hmerge_lo ho
end
def IsD (R : List (List Int)) (nx : Nat) (r : AV) (H' : Hp) (nx' : Nat) : Prop := nx ≤ nx' ∧ OwnD R r H' nx nx' ∧ clnH nx H'
theorem IsD.some (R : List (List Int)) (nx : Nat) : ∃ u H' nx', IsD R nx u H' nx' := by
  obtain ⟨v, H', nx', h1, h2, _⟩ := OwnD.some R hempty nx
  exact ⟨v, keepH nx H', nx', h1, h2.keep, keepH_cln _ _⟩
theorem IsD.own {R : List (List Int)} {nx : Nat} {r : AV} {H' : Hp} {nx' : Nat} (h : IsD R nx r H' nx') (H : Hp) : cln nx fuel r = true ∧ clnH nx H' ∧ nx ≤ nx' ∧ OwnD R r (hmerge nx H H') nx nx' := by
  obtain ⟨h0, hO, hc⟩ := h
  refine ⟨hO.cln _, hc, h0, hO.mono (Nat.le_refl _) fun o h1 h2 => ?_⟩
  simp only [hmerge]; rw [if_neg (by omega)]
def V_spec_l01Own2_o : Vc :=
  .op true (.p (.msl 0 [] []) []) <|
  .loop 0 [.t 1, .c (int 0)] <|
  .op true (.p .len [.t 0]) <|
  .op true (.p (.bin .lss) [.t 3, .t 4]) <|
  .br 5
   (.op true (.p (.iad 1) [.t 0, .t 3]) <|
   .op true (.p (.ld none) [.t 6]) <|
   .op true (.callo (.f 259) [.t 7]) <|
   .op true (.mslm 1 1 [.nil] [(0, 1)] [.t 8]) <|
   .op true (.app 1 (.t 2) (.t 9)) <|
   .op true (.p (.bin .add) [.t 3, .c (int 1)]) <|
   .again 0 [.t 10, .t 11])
   (.ret [(.t 2, none)])
theorem l01Own2_own (how : Has P ν 259 1 V_spec_l01Own) (h : Has P ν 360 1 V_spec_l01Own2_o) (R : List (List Int)) (hl : R.length ≤ 1048576) (hr : ∀ i, i < R.length → (R.getD i []).length ≤ 1048576) (nx : Nat) : OkM P ν 360 [.sl (rows R) R.length] hempty nx (IsD R nx) := by
  refine h _ _ _ _ rfl fun hwf => ?_
  unfold V_spec_l01Own2_o
  try simp (disch := (first | rfl | with_reducible assumption | with_reducible solve_by_elim (maxDepth := 8) [Shape.inT, Shape.inI, Shape.inC, Shape.inK, Shape.obF, Shape.obT, Shape.arI, Arr.inF] | omega)) only [S2, Nat.reduceEqDiff, Nat.reduceAdd, iput, puts]
  refine den_loop (α := Nat × AV) (fun a => [a.2, int a.1]) (fun a H' nx' => a.1 ≤ R.length ∧ nx ≤ nx' ∧ OwnD (R.take a.1) a.2 H' nx nx') (fun a => R.length - a.1) (0, .nil) rfl ⟨Nat.zero_le _, Nat.le_refl _, OwnD.nil⟩ ?_
  rintro ⟨i, v⟩ H1 n1 ⟨hi, h0, hI⟩
  simp only at hi h0 hI
  by_cases hlt : i < R.length
  · have iR : InR R (i : Int) := InR.nat hlt
    have bi := hr i hlt
    have tk : R.take (i + 1) = R.take i ++ [gR R i] := by
      rw [List.take_succ_eq_append_getElem hlt]
      congr 2
      show R[i] = R.getD i []
      simp [List.getD, hlt]
    try simp (disch := (first | rfl | with_reducible assumption | with_reducible solve_by_elim (maxDepth := 8) [Shape.inT, Shape.inI, Shape.inC, Shape.inK, Shape.obF, Shape.obT, Shape.arI, Arr.inF] | omega)) only [S2, Nat.reduceEqDiff, Nat.reduceAdd, iput, puts, hlt]
    refine den_own how (gR R i) rfl (by show (R.getD i []).length ≤ _; omega) fun w s H2 n2 g2 r2 l2 k2 => ?_
    have hI2 := hI.mono (H' := H2) (Nat.le_refl _) fun t _ ht => k2 t ht
    refine den_rowF (l := gR R i) hI2 l2 (fun _ => rfl) h0 (by rw [List.length_take]; omega) (g2.own r2) fun v3 H4 n4 hI4 l4 _ _ _ => ?_
    try simp (disch := (first | rfl | with_reducible assumption | with_reducible solve_by_elim (maxDepth := 8) [Shape.inT, Shape.inI, Shape.inC, Shape.inK, Shape.obF, Shape.obT, Shape.arI, Arr.inF] | omega)) only [S2, Nat.reduceEqDiff, Nat.reduceAdd, iput, puts]
    refine ⟨(i + 1, v3), rfl, ⟨hlt, by omega, ?_⟩, by simp only; omega⟩
    simp only
    rw [tk]
    exact hI4
  · try simp (disch := (first | rfl | with_reducible assumption | with_reducible solve_by_elim (maxDepth := 8) [Shape.inT, Shape.inI, Shape.inC, Shape.inK, Shape.obF, Shape.obT, Shape.arI, Arr.inF] | omega)) only [S2, Nat.reduceEqDiff, Nat.reduceAdd, iput, puts, hlt]
    have : i = R.length := by omega
    subst this
    rw [List.take_length] at hI
    exact ⟨_, rfl, keepH nx H1, keepH_sub _ _, h0, hI.keep, keepH_cln _ _⟩
theorem p_mkaR {H : Hp} {k : Int} {a b d e : AV} (h1 : a.one = true) (h2 : b.one = true) (h3 : d.one = true) (h6 : e.one = true) :
    pvf H (.mka [int 0, .nil, .nil, .nil, .nil] [(0, 1), (1, 1), (2, 1), (3, 1), (4, 1)]) [int k, a, b, d, e] = some (.agg [int k, a, b, d, e]) := by
  have h0 : (int k).cells = [int k] := rfl
  have h4 : (int k).one = true := rfl
  simp [pvf, pMka, lay, h0, h1, h2, h3, h4, h6, AV.one_cells h1, AV.one_cells h2, AV.one_cells h3, AV.one_cells h6]
theorem ones5' {k : Int} {a b d e : AV} (h1 : a.one = true) (h2 : b.one = true) (h3 : d.one = true) (h4 : e.one = true) : [int k, a, b, d, e].all AV.one = true := by simp only [List.all_cons, List.all_nil, h1, h2, h3, h4, Bool.and_true]; rfl
theorem OwnK.co {x : Cat} {v : AV} {H : Hp} {nx lo nx' : Nat} (h : OwnK x v H lo nx') (h1 : nx ≤ lo) (h2 : nx ≤ nx') : ∃ H', Sub H' H ∧ IsCO x nx v H' nx' := ⟨keepH nx H, keepH_sub _ _, h2, (h.weak h1).keep, keepH_cln _ _⟩
def V_spec_l02Own : Vc :=
  .op true (.p .box [.t 0]) <|
  .op true (.new [int 0, .nil, .nil, .nil, .nil]) <|
  .op false (.p (.fad 0) [.t 1]) <|
  .op false (.p (.ld none) [.t 3]) <|
  .op true (.p (.fad 1) [.t 1]) <|
  .op true (.p (.ld none) [.t 5]) <|
  .op true (.callo (.f 259) [.t 6]) <|
  .op false (.p (.fad 2) [.t 1]) <|
  .op false (.p (.ld none) [.t 8]) <|
  .op true (.callo (.f 259) [.t 9]) <|
  .op false (.p (.fad 3) [.t 1]) <|
  .op false (.p (.ld none) [.t 11]) <|
  .op true (.callo (.f 259) [.t 12]) <|
  .op false (.p (.fad 4) [.t 1]) <|
  .op false (.p (.ld none) [.t 14]) <|
  .op true (.callo (.f 360) [.t 15]) <|
  .op true (.p (.mka [int 0, .nil, .nil, .nil, .nil] [(0, 1), (1, 1), (2, 1), (3, 1), (4, 1)]) [.t 4, .t 7, .t 10, .t 13, .t 16]) <|
  .op true (.st 5 (.t 2) (.t 17)) <|
  .ret [(.t 2, some (some 5))]
set_option maxHeartbeats 2000000 in
theorem l02Own_own (how : Has P ν 259 1 V_spec_l01Own) (how2 : Has P ν 360 1 V_spec_l01Own2_o) (h : Has P ν 409 1 V_spec_l02Own) (c : Cat) (s : Shape c) (nx : Nat) : OkM P ν 409 [.agg c.cells] hempty nx (IsCO c nx) := by
  refine h _ _ _ _ rfl fun hwf => ?_
  unfold V_spec_l02Own
  have n40 := s.n40
  have tl := s.tl
  have il := s.il
  have o8 := s.o8
  have cl := s.cl
  try simp (disch := (first | rfl | with_reducible assumption | with_reducible solve_by_elim (maxDepth := 8) [Shape.inT, Shape.inI, Shape.inC, Shape.inK, Shape.obF, Shape.obT, Shape.arI, Arr.inF] | omega)) only [S2, Nat.reduceEqDiff, Nat.reduceAdd, iput, puts]
  refine den_newR fun H0 y0 e0 => ?_
  try simp (disch := (first | rfl | with_reducible assumption | with_reducible solve_by_elim (maxDepth := 8) [Shape.inT, Shape.inI, Shape.inC, Shape.inK, Shape.obF, Shape.obT, Shape.arI, Arr.inF] | omega)) only [S2, Nat.reduceEqDiff, Nat.reduceAdd, iput, puts]
  refine den_own how c.f rfl (by omega) fun va s1 H1 n1 g1 r1 l1 k1 => ?_
  try simp (disch := (first | rfl | with_reducible assumption | with_reducible solve_by_elim (maxDepth := 8) [Shape.inT, Shape.inI, Shape.inC, Shape.inK, Shape.obF, Shape.obT, Shape.arI, Arr.inF] | omega)) only [S2, Nat.reduceEqDiff, Nat.reduceAdd, iput, puts]
  refine den_own how c.t rfl (by omega) fun vb s2 H2 n2 g2 r2 l2 k2 => ?_
  try simp (disch := (first | rfl | with_reducible assumption | with_reducible solve_by_elim (maxDepth := 8) [Shape.inT, Shape.inI, Shape.inC, Shape.inK, Shape.obF, Shape.obT, Shape.arI, Arr.inF] | omega)) only [S2, Nat.reduceEqDiff, Nat.reduceAdd, iput, puts]
  refine den_own how c.i rfl (by omega) fun vd s3 H3 n3 g3 r3 l3 k3 => ?_
  try simp (disch := (first | rfl | with_reducible assumption | with_reducible solve_by_elim (maxDepth := 8) [Shape.inT, Shape.inI, Shape.inC, Shape.inK, Shape.obF, Shape.obT, Shape.arI, Arr.inF] | omega)) only [S2, Nat.reduceEqDiff, Nat.reduceAdd, iput, puts]
  refine den_callo (fc := (360, [])) (ys := [.sl (rows c.c) c.c.length]) rfl (by simp only [SS, Nat.reduceEqDiff, Nat.reduceAdd, iput, puts, FF, frzL_cat]; try rfl) (l01Own2_own how how2 c.c (by omega) (fun i hi => by have := (s.row i (by omega)).1; omega) n3) (IsD.some _ _) fun u H' n4 hu => ?_
  obtain ⟨q1, q2, l4, own⟩ := hu.own H3
  refine ⟨q1, q2, ?_⟩
  have k4 : ∀ o, o < n3 → hmerge n3 H3 H' o = H3 o := fun o ho => hmerge_lo ho
  generalize hmerge n3 H3 H' = H4 at own k4
  try simp (disch := (first | rfl | with_reducible assumption | with_reducible solve_by_elim (maxDepth := 8) [Shape.inT, Shape.inI, Shape.inC, Shape.inK, Shape.obF, Shape.obT, Shape.arI, Arr.inF] | omega)) only [S2, Nat.reduceEqDiff, Nat.reduceAdd, iput, puts, p_mkaR g1.one g2.one g3.one own.one]
  refine den_stR (o := nx) (m := 5) (d := [int c.o, va, vb, vd, u]) rfl rfl ((k4 _ (by omega)).trans ((k3 _ (by omega)).trans ((k2 _ (by omega)).trans ((k1 _ (by omega)).trans y0)))) rfl rfl (ones5' g1.one g2.one g3.one own.one) fun H5 y5 e5 => ?_
  have G1 : Gr s1 c.f va H5 := g1.kept fun o ho => by have := r1 o ho; rw [e5 _ (by omega), k4 _ (by omega), k3 _ (by omega), k2 _ (by omega)]
  have G2 : Gr s2 c.t vb H5 := g2.kept fun o ho => by have := r2 o ho; rw [e5 _ (by omega), k4 _ (by omega), k3 _ (by omega)]
  have G3 : Gr s3 c.i vd H5 := g3.kept fun o ho => by have := r3 o ho; rw [e5 _ (by omega), k4 _ (by omega)]
  have D := own.mono (H' := H5) (Nat.le_refl _) fun t h1 _ => e5 t (by omega)
  have oK : OwnK c (.agg [int c.o, va, vb, vd, u]) H5 (nx + 1) n4 := by
    refine ⟨va, vb, vd, u, rfl, G1.own fun o ho => ?_, G2.own fun o ho => ?_, G3.own fun o ho => ?_, ?_, fun o a1 a2 => ?_, fun o a1 a2 => ?_, fun o a1 a2 => ?_, fun o a1 a2 => ?_, fun o a1 a2 => ?_, fun o a1 a2 => ?_⟩
    · have := r1 o ho; omega
    · have := r2 o ho; omega
    · have := r3 o ho; omega
    · exact D.weak' (by omega)
    · have := r1 o (G1.ft a1); have := r2 o (G2.ft a2); omega
    · have := r1 o (G1.ft a1); have := r3 o (G3.ft a2); omega
    · have := r2 o (G2.ft a1); have := r3 o (G3.ft a2); omega
    · have := r1 o (G1.ft a1); have := D.foot a2; omega
    · have := r2 o (G2.ft a1); have := D.foot a2; omega
    · have := r3 o (G3.ft a1); have := D.foot a2; omega
  obtain ⟨H6, q4, q5⟩ := oK.co (nx := nx) (by omega) (by omega)
  refine ⟨.agg [int c.o, va, vb, vd, u], ?_, H6, q4, q5⟩
  simp only [retOf, rets, SS, Nat.reduceEqDiff, Nat.reduceAdd, iput, puts, pLd, y5]
  rfl
end Go.Av
