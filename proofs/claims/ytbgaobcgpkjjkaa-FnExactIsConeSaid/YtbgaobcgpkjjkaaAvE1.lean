/-
  Cones over functors: sizes, copies, comparisons; IsCone.
-/
import Derived.Test.YtbgaobcgpkjjkaaAvD4
import Derived.Test.YtbgaobcgpkjjkaaAvM2
import Derived.Test.YtbgaobcgpkjjkaaAvC3
namespace Go.Av
open Classical
set_option linter.unusedSimpArgs false
set_option linter.unusedVariables false
variable {P : Program} {ν : Nat → FuncId}

structure Co where
  x : Int
  l : List Int
def Co.cells (p : Co) : List AV := [int p.x, islice p.l]
theorem SCo (p : Co) : p.cells[0]? = some (int p.x) ∧ p.cells[1]? = some (islice p.l) ∧ (∀ H : Hp, pvf H .box [.agg p.cells] = some (.ptr p.cells 0)) ∧ (∀ H : Hp, pvf H (.ld (some 2)) [.ptr p.cells 0] = some (.agg p.cells)) :=
  ⟨rfl, rfl, fun _ => rfl, fun _ => rfl⟩
theorem frzL_co {H : Hp} {l : List AV} (p : Co) : frzL H (.agg p.cells :: l) = (frzL H l).map (.agg p.cells :: ·) := frzL_agg rfl
def coTy : Ty := .pair .int (.pair (.sl .int) .unit)
theorem ShpV.co {x : AV} (h : ShpV coTy x) : ∃ p : Co, x = .agg p.cells ∧ p.l.length ≤ 9223372036854775807 := by
  cases h with
  | agg h =>
    cases h with | pair h1 h =>
    cases h with | pair h2 h =>
    cases h
    cases h1 with | int n _ _ =>
    obtain ⟨a, rfl, a1, _⟩ := h2.ints
    exact ⟨⟨n, a⟩, rfl, a1⟩
  | one h => have := h.len; simp [coTy, Ty.size] at this

def V_laws_szCone : Vc :=
  .op true (.p .box [.t 0]) <|
  .op true (.p (.fad 1) [.t 2]) <|
  .op true (.p (.ld none) [.t 3]) <|
  .op true (.call (.f 12) [.t 4, .t 1]) <|
  .op true (.p (.bin .lss) [.t 5, .c (int 0)]) <|
  .br 6
   (.ret [(.c (int (-1)), none)])
   (.ret [(.t 5, none)])
def V_laws_toCone : Vc :=
  .op true (.p .box [.t 0]) <|
  .op true (.new [int 0, .nil]) <|
  .op true (.new [int 0, .nil]) <|
  .op true (.p (.fad 0) [.t 1]) <|
  .op true (.p (.ld none) [.t 4]) <|
  .op true (.p (.fad 0) [.t 3]) <|
  .op true (.st 1 (.t 6) (.t 5)) <|
  .op true (.p (.fad 1) [.t 1]) <|
  .op true (.p (.ld none) [.t 8]) <|
  .op true (.callm (.f 16) [.t 9]) <|
  .op true (.p (.fad 1) [.t 3]) <|
  .op true (.st 1 (.t 11) (.t 10)) <|
  .op true (.p (.ld (some 2)) [.t 3]) <|
  .op true (.st 2 (.t 2) (.t 13)) <|
  .ret [(.t 2, some (some 2))]
def V_laws_eqCone : Vc :=
  .op true (.p .box [.t 0]) <|
  .op true (.p .box [.t 1]) <|
  .op true (.p (.fad 0) [.t 2]) <|
  .op true (.p (.ld none) [.t 4]) <|
  .op true (.p (.fad 0) [.t 3]) <|
  .op true (.p (.ld none) [.t 6]) <|
  .op true (.p (.bin .neq) [.t 5, .t 7]) <|
  .br 8
   (.ret [(.c (bool false), none)])
   (.op true (.p (.fad 1) [.t 2]) <|
   .op true (.p (.ld none) [.t 9]) <|
   .op true (.p (.fad 1) [.t 3]) <|
   .op true (.p (.ld none) [.t 11]) <|
   .op true (.call (.f 7) [.t 10, .t 12]) <|
   .op true (.p .bnot [.t 13]) <|
   .br 14
    (.ret [(.c (bool false), none)])
    (.ret [(.c (bool true), none)]))
structure HLawCo (P : Program) (ν : Nat → FuncId) : Prop where
  sz : Has P ν 181 2 V_laws_szCone
  to : Has P ν 183 1 V_laws_toCone
  eq : Has P ν 185 2 V_laws_eqCone
theorem szCo_fz (L : HLaw P ν) (h : Has P ν 181 2 V_laws_szCone) (p : Co) (left : Int) (l0 : 0 ≤ left) (l1 : left ≤ 1048576) (rd : p.l.length ≤ 9223372036854775807) : Fz (OkM P ν) 181 [.agg p.cells, int left] (int (szS p.l left)) := by
  refine Fn.fzi fun H nx => h _ _ _ _ rfl fun hwf => ?_
  unfold V_laws_szCone
  repeat (first | simp (disch := (first | rfl | with_reducible assumption | with_reducible solve_by_elim (maxDepth := 8) [Shape.inT, Shape.inI, Shape.inC, Shape.inK, Shape.obF, Shape.obT, Shape.arI, Arr.inF] | omega)) only [S2, Nat.reduceEqDiff, Nat.reduceAdd, iput, puts, SCo p] | (refine den_call rfl (by first | (simp only [SS, Nat.reduceEqDiff, Nat.reduceAdd, iput, puts, FF, frzL_cat, frzL_fu, frzL_co]; done) | (simp only [SS, Nat.reduceEqDiff, Nat.reduceAdd, iput, puts, FF, frzL_cat, frzL_fu, frzL_co]; rfl)) (by first | exact (szI_ok L.szI p.l left l0 l1 rd).fzi) ?_))
  refine ⟨fun h1 => ⟨_, rfl, H, fun _ _ h => h, ?_, rfl, Nat.le_refl _⟩, fun h1 => ⟨_, rfl, H, fun _ _ h => h, rfl, rfl, Nat.le_refl _⟩⟩
  have : szS p.l left = -1 := by unfold szS at h1 ⊢; split at h1 <;> simp_all
  rw [this]; rfl
theorem eqCo_same (L : HLaw P ν) (h : Has P ν 185 2 V_laws_eqCone) (p : Co) (b : p.l.length ≤ 1048576) : Fz (OkM P ν) 185 [.agg p.cells, .agg p.cells] (bool true) := by
  refine Fn.fzb fun H nx => h _ _ _ _ rfl fun hwf => ?_
  unfold V_laws_eqCone
  repeat (first | simp (disch := (first | rfl | with_reducible assumption | with_reducible solve_by_elim (maxDepth := 8) [Shape.inT, Shape.inI, Shape.inC, Shape.inK, Shape.obF, Shape.obT, Shape.arI, Arr.inF] | omega)) only [S2, Nat.reduceEqDiff, Nat.reduceAdd, iput, puts, SCo p, neSelf] | (refine den_call rfl (by first | (simp only [SS, Nat.reduceEqDiff, Nat.reduceAdd, iput, puts, FF, frzL_cat, frzL_fu, frzL_co]; done) | (simp only [SS, Nat.reduceEqDiff, Nat.reduceAdd, iput, puts, FF, frzL_cat, frzL_fu, frzL_co]; rfl)) (by first | exact eqI_same L.eqI p.l (by omega)) ?_))
  exact ⟨_, rfl, H, fun _ _ h => h, rfl, rfl, Nat.le_refl _⟩
theorem toCo_fz (L : HLaw P ν) (h : Has P ν 183 1 V_laws_toCone) (p : Co) (b : p.l.length ≤ 1048576) : Fz (OkM P ν) 183 [.agg p.cells] (.agg p.cells) := by
  refine OkM.fz (Ψ := fun H nx r H' nx' => frzN H' fuel r = some (.agg p.cells)) (fun H nx => h _ _ _ _ rfl fun hwf => ?_) fun _ _ _ hh => hh
  unfold V_laws_toCone
  try simp (disch := (first | rfl | with_reducible assumption | with_reducible solve_by_elim (maxDepth := 8) [Shape.inT, Shape.inI, Shape.inC, Shape.inK, Shape.obF, Shape.obT, Shape.arI, Arr.inF] | omega)) only [S2, Nat.reduceEqDiff, Nat.reduceAdd, iput, puts, SCo p]
  refine den_newG fun H1 z1 e1 => den_newG fun H2 z2 e2 => ?_
  have z1 := (e2 nx (by omega)).trans z1
  try simp (disch := (first | rfl | with_reducible assumption | with_reducible solve_by_elim (maxDepth := 8) [Shape.inT, Shape.inI, Shape.inC, Shape.inK, Shape.obF, Shape.obT, Shape.arI, Arr.inF] | omega)) only [S2, Nat.reduceEqDiff, Nat.reduceAdd, iput, puts, SCo p, p_fadm (l := 2) z2 rfl]
  refine den_stG (p := 0) (k := 1) (m := 2) (c' := [int p.x, .nil]) (by rfl) (by rfl) z2 (by rfl) (by rfl) (show 0 + 1 ≤ 2 by omega) (by rfl) (by rfl) fun H4 z4 e4 => ?_
  try simp (disch := (first | rfl | with_reducible assumption | with_reducible solve_by_elim (maxDepth := 8) [Shape.inT, Shape.inI, Shape.inC, Shape.inK, Shape.obF, Shape.obT, Shape.arI, Arr.inF] | omega)) only [S2, Nat.reduceEqDiff, Nat.reduceAdd, iput, puts, SCo p]
  refine den_callm (fc := (16, [])) rfl (toI_okG L p.l b _ _) (toI_someG _ _ _) fun u H7 n7 hu => ?_
  obtain ⟨rfl, rfl, oA, e7⟩ := hu
  have z6 := (e7 (nx + 1) (by omega)).trans z4
  try simp (disch := (first | rfl | with_reducible assumption | with_reducible solve_by_elim (maxDepth := 8) [Shape.inT, Shape.inI, Shape.inC, Shape.inK, Shape.obF, Shape.obT, Shape.arI, Arr.inF] | omega)) only [S2, Nat.reduceEqDiff, Nat.reduceAdd, iput, puts, p_fadm (l := 2) z6 rfl]
  refine den_stG (p := 1) (k := 1) (m := 2) (c' := [int p.x, .ms (nx + 1 + 1) 0 p.l.length 1]) (by rfl) (by rfl) z6 (by rfl) (by rfl) (show 1 + 1 ≤ 2 by omega) (by rfl) (by rfl) fun H8 z8 e8 => ?_
  try simp (disch := (first | rfl | with_reducible assumption | with_reducible solve_by_elim (maxDepth := 8) [Shape.inT, Shape.inI, Shape.inC, Shape.inK, Shape.obF, Shape.obT, Shape.arI, Arr.inF] | omega)) only [S2, Nat.reduceEqDiff, Nat.reduceAdd, iput, puts, p_ldsm (l := 2) z8 rfl]
  have k1 : H8 nx = H2 nx := by rw [e8 _ (by omega), e7 _ (by omega), e4 _ (by omega)]
  refine den_stG (p := 0) (k := 2) (m := 2) (o := nx) (c' := [int p.x, .ms (nx + 1 + 1) 0 p.l.length 1]) (by rfl) (by rfl) (k1.trans z1) (by rfl) (by rfl) (show 0 + 2 ≤ 2 by omega) (by rfl) (by rfl) fun H11 z11 e11 => ?_
  refine ⟨.agg [int p.x, .ms (nx + 1 + 1) 0 p.l.length 1], ?_, H11, fun _ _ h => h, ?_⟩
  · simp only [retOf, rets, SS, Nat.reduceEqDiff, Nat.reduceAdd, iput, puts, pLd, z11]
    rfl
  · have o : H11 (nx + 1 + 1) = some (ints p.l) := by rw [e11 _ (by omega), e8 _ (by omega)]; exact oA
    show (List.mapM (frzN H11 5) [int p.x, .ms (nx + 1 + 1) 0 p.l.length 1]).map AV.agg = _
    simp only [List.mapM_cons, List.mapM_nil, frzN_int, frzN_ms o 4]
    rfl

theorem szU_le (f : Fu) (h : 0 ≤ szU f 1048576) : szU f 1048576 ≤ 1048576 := by
  obtain ⟨h1, h⟩ := sz2_inv h
  obtain ⟨h2, h⟩ := sz2_inv h
  obtain ⟨h3, h⟩ := sz2_inv h
  obtain ⟨h4, h⟩ := sz2_inv h
  have l1 := szCat_le (c := f.s) (left := 1048576) (by omega) (by omega)
  have l2 := szCat_le (c := f.t) (left := szCat f.s 1048576) (by omega) (by omega)
  have b1 := szS_pos (l := f.ob) (left := szCat f.t (szCat f.s 1048576)) (by omega)
  have b2 := szS_pos (l := f.ar) (left := szS f.ob (szCat f.t (szCat f.s 1048576))) (by omega)
  have e : szU f 1048576 = _ := (sz2_pos h1).trans ((sz2_pos h2).trans ((sz2_pos h3).trans (sz2_pos h4)))
  rw [e]
  show szS f.ar _ ≤ _
  omega

structure ConeOf (f : Fu) (p : Co) : Prop where
  ob : Ob f.t p.x
  len : p.l.length = f.ob.length
  wn : Wn p.l f.t.f.length
  leg : ∀ j : Nat, j < p.l.length → f.t.F (gI p.l j) = p.x ∧ f.t.T (gI p.l j) = f.O j
  fit : ∀ a : Nat, a < f.ar.length → f.t.K (gI p.l (f.s.F a)) (f.A a) = gI p.l (f.s.T a)

def V_isCone : Vc :=
  .op true (.p .box [.t 1]) <|
  .op true (.p .nck [.t 0]) <|
  .op true (.p (.fad 5) [.t 3]) <|
  .op true (.p (.fad 0) [.t 2]) <|
  .op true (.p (.ld none) [.t 5]) <|
  .op true (.p .nck [.t 4]) <|
  .op true (.p (.fad 0) [.t 7]) <|
  .op true (.p (.ld none) [.t 8]) <|
  .op true (.p (.bin .sub) [.t 9, .c (int 1)]) <|
  .op true (.call (.f 32) [.t 6, .c (int 0), .t 10]) <|
  .op true (.p .bnot [.t 11]) <|
  .br 12
   (.ret [(.c (bool false), none)])
   (.op true (.p (.fad 1) [.t 2]) <|
   .op true (.p (.ld none) [.t 13]) <|
   .op true (.p .len [.t 14]) <|
   .op true (.p .nck [.t 0]) <|
   .op true (.p (.fad 10) [.t 16]) <|
   .op true (.p (.ld none) [.t 17]) <|
   .op true (.p .len [.t 18]) <|
   .op true (.p (.bin .neq) [.t 15, .t 19]) <|
   .br 20
    (.ret [(.c (bool false), none)])
    (.op true (.p (.fad 1) [.t 2]) <|
    .op true (.p (.ld none) [.t 21]) <|
    .op true (.call (.f 26) [.t 4]) <|
    .op true (.call (.f 25) [.t 22, .t 23]) <|
    .op true (.p .bnot [.t 24]) <|
    .br 25
     (.ret [(.c (bool false), none)])
     (.op true (.p (.fad 1) [.t 2]) <|
     .op true (.p (.ld none) [.t 26]) <|
     .op true (.p .len [.t 27]) <|
     .loop 0 [.c (int 0)] <|
     .op true (.p (.bin .lss) [.t 29, .t 28]) <|
     .br 30
      (.op true (.p (.iad 1) [.t 27, .t 29]) <|
      .op true (.p (.ld none) [.t 31]) <|
      .op true (.call (.f 38) [.t 4, .t 32]) <|
      .op true (.p (.fad 0) [.t 2]) <|
      .op true (.p (.ld none) [.t 34]) <|
      .op true (.p .nck [.t 0]) <|
      .op true (.p (.fad 10) [.t 36]) <|
      .op true (.p (.ld none) [.t 37]) <|
      .op true (.p (.iad 1) [.t 38, .t 29]) <|
      .op true (.p (.ld none) [.t 39]) <|
      .op true (.p (.mka [int 0, int 0] [(0, 1), (1, 1)]) [.t 35, .t 40]) <|
      .op true (.p (.eqs true 2) [.t 33, .t 41]) <|
      .br 42
       (.ret [(.c (bool false), none)])
       (.op true (.p (.bin .add) [.t 29, .c (int 1)]) <|
       .again 0 [.t 43]))
      (.op true (.p .nck [.t 0]) <|
      .op true (.p (.fad 11) [.t 31]) <|
      .op true (.p (.ld none) [.t 32]) <|
      .op true (.p .len [.t 33]) <|
      .loop 0 [.c (int 0)] <|
      .op true (.p (.bin .lss) [.t 35, .t 34]) <|
      .br 36
       (.op true (.p (.iad 1) [.t 33, .t 35]) <|
       .op true (.p (.ld none) [.t 37]) <|
       .op true (.p (.fad 1) [.t 2]) <|
       .op true (.p (.ld none) [.t 39]) <|
       .op true (.p .nck [.t 0]) <|
       .op true (.p (.fad 0) [.t 41]) <|
       .op true (.p (.fad 1) [.t 42]) <|
       .op true (.p (.ld none) [.t 43]) <|
       .op true (.p (.iad 1) [.t 44, .t 35]) <|
       .op true (.p (.ld none) [.t 45]) <|
       .op true (.p (.iad 1) [.t 40, .t 46]) <|
       .op true (.p (.ld none) [.t 47]) <|
       .op true (.call (.f 34) [.t 4, .t 48, .t 38]) <|
       .op true (.p (.fad 1) [.t 2]) <|
       .op true (.p (.ld none) [.t 50]) <|
       .op true (.p .nck [.t 0]) <|
       .op true (.p (.fad 0) [.t 52]) <|
       .op true (.p (.fad 2) [.t 53]) <|
       .op true (.p (.ld none) [.t 54]) <|
       .op true (.p (.iad 1) [.t 55, .t 35]) <|
       .op true (.p (.ld none) [.t 56]) <|
       .op true (.p (.iad 1) [.t 51, .t 57]) <|
       .op true (.p (.ld none) [.t 58]) <|
       .op true (.p (.bin .neq) [.t 49, .t 59]) <|
       .br 60
        (.ret [(.c (bool false), none)])
        (.op true (.p (.bin .add) [.t 35, .c (int 1)]) <|
        .again 0 [.t 61]))
       (.ret [(.c (bool true), none)])))))
set_option maxHeartbeats 2000000 in
theorem isCone_fz (K : HCat P ν) (h : Has P ν 328 2 V_isCone) (f : Fu) (u : IsFu f) (b : SmallU f) (p : Co) (bp : p.l.length ≤ 1048576) : Fz (OkM P ν) 328 [.ptr f.cells 0, .agg p.cells] (bool (decide (ConeOf f p))) := by
  refine Fn.fzb fun H nx => h _ _ _ _ rfl fun hwf => ?_
  unfold V_isCone
  have s := u.s.1
  have t := u.t.1
  have m := u.m
  have o0 := t.o0
  have o8 := t.o8
  have t40 := t.n40
  have ba := b.ar
  have ol := m.ol
  have al := m.al
  have hw : IntKind.i64.wrap (f.t.o - 1) = f.t.o - 1 := wrap_id (by omega) (by omega)
  repeat (first | simp (disch := (first | rfl | with_reducible assumption | with_reducible solve_by_elim (maxDepth := 8) [Shape.inT, Shape.inI, Shape.inC, Shape.inK, Shape.obF, Shape.obT, Shape.arI, Arr.inF] | omega)) only [S2, Nat.reduceEqDiff, Nat.reduceAdd, iput, puts, SU f, SCo p, hw] | (refine den_call rfl (by first | (simp only [SS, Nat.reduceEqDiff, Nat.reduceAdd, iput, puts, FF, frzL_cat, frzL_fu, frzL_co]; done) | (simp only [SS, Nat.reduceEqDiff, Nat.reduceAdd, iput, puts, FF, frzL_cat, frzL_fu, frzL_co]; rfl)) (by first | exact (inRange_ok K.inRange p.x 0 (f.t.o - 1)).fzb) ?_))
  refine ⟨fun h1 => ?_, fun h1 => ?_⟩
  · exact ⟨_, rfl, H, fun _ _ h => h, ret_false (fun q => h1 ⟨q.ob.1, by have := q.ob.2; omega⟩), rfl, Nat.le_refl _⟩
  have oy : Ob f.t p.x := ⟨h1.1, by omega⟩
  try simp (disch := (first | rfl | with_reducible assumption | with_reducible solve_by_elim (maxDepth := 8) [Shape.inT, Shape.inI, Shape.inC, Shape.inK, Shape.obF, Shape.obT, Shape.arI, Arr.inF] | omega)) only [S2, Nat.reduceEqDiff, Nat.reduceAdd, iput, puts, SU f, SCo p]
  refine ⟨fun h2 => ?_, fun h2 => ?_⟩
  · exact ⟨_, rfl, H, fun _ _ h => h, ret_false (fun q => h2 (by rw [q.len])), rfl, Nat.le_refl _⟩
  have h2' : p.l.length = f.ob.length := by omega
  repeat (first | simp (disch := (first | rfl | with_reducible assumption | with_reducible solve_by_elim (maxDepth := 8) [Shape.inT, Shape.inI, Shape.inC, Shape.inK, Shape.obF, Shape.obT, Shape.arI, Arr.inF] | omega)) only [S2, Nat.reduceEqDiff, Nat.reduceAdd, iput, puts, SU f, SCo p] | (refine den_call rfl (by first | (simp only [SS, Nat.reduceEqDiff, Nat.reduceAdd, iput, puts, FF, frzL_cat, frzL_fu, frzL_co]; done) | (simp only [SS, Nat.reduceEqDiff, Nat.reduceAdd, iput, puts, FF, frzL_cat, frzL_fu, frzL_co]; rfl)) (by first | exact Fu.winT (arrows_ok K.arrows f.t).fzi | exact (within_ok K.inRange K.within p.l f.t.f.length (by omega) (by omega) (by omega)).fzb) ?_))
  refine ⟨fun h3 => ?_, fun h3 => ?_⟩
  · exact ⟨_, rfl, H, fun _ _ h => h, ret_false (fun q => h3 q.wn), rfl, Nat.le_refl _⟩
  try simp (disch := (first | rfl | with_reducible assumption | with_reducible solve_by_elim (maxDepth := 8) [Shape.inT, Shape.inI, Shape.inC, Shape.inK, Shape.obF, Shape.obT, Shape.arI, Arr.inF] | omega)) only [S2, Nat.reduceEqDiff, Nat.reduceAdd, iput, puts, SU f, SCo p]
  have iL : ∀ x, Ob f.s x → In p.l x := fun x hx => ⟨hx.1, by have := hx.2; omega⟩
  refine den_for p.l.length (fun i => ∀ j : Nat, j < i → f.t.F (gI p.l j) = p.x ∧ f.t.T (gI p.l j) = f.O j) (fun j hj => by omega) fun i hi hp => ?_
  by_cases hlt : i < p.l.length
  · have i1 : In p.l (i : Int) := In.nat hlt
    have i2 : In f.ob (i : Int) := In.nat (by omega)
    have a : Arr f.t (gI p.l i) := h3.at i1
    repeat (first | simp (disch := (first | rfl | with_reducible assumption | with_reducible solve_by_elim (maxDepth := 8) [Shape.inT, Shape.inI, Shape.inC, Shape.inK, Shape.obF, Shape.obT, Shape.arI, Arr.inF] | omega)) only [S2, Nat.reduceEqDiff, Nat.reduceAdd, iput, puts, SU f, SCo p, hlt] | (refine den_call rfl (by first | (simp only [SS, Nat.reduceEqDiff, Nat.reduceAdd, iput, puts, FF, frzL_cat, frzL_fu, frzL_co]; done) | (simp only [SS, Nat.reduceEqDiff, Nat.reduceAdd, iput, puts, FF, frzL_cat, frzL_fu, frzL_co]; rfl)) (by first | exact Fu.winT (t.fzEnds K.ends a)) ?_))
    refine ⟨fun h4 => ?_, fun h4 => up rfl hlt fun k hk => ?_⟩
    · exact ⟨_, rfl, H, fun _ _ h => h, ret_false (fun q => by have := q.leg i hlt; rw [this.1, this.2] at h4; simp at h4), rfl, Nat.le_refl _⟩
    · by_cases e : k = i
      · subst e; simpa using h4
      · exact hp k (by omega)
  have hp1 := fun (a : Nat) (ha : a < p.l.length) => hp a (show a < i by omega)
  try simp (disch := (first | rfl | with_reducible assumption | with_reducible solve_by_elim (maxDepth := 8) [Shape.inT, Shape.inI, Shape.inC, Shape.inK, Shape.obF, Shape.obT, Shape.arI, Arr.inF] | omega)) only [S2, Nat.reduceEqDiff, Nat.reduceAdd, iput, puts, SU f, SCo p, hlt]
  clear hp hlt hi
  refine den_for f.ar.length (fun i => ∀ a : Nat, a < i → f.t.K (gI p.l (f.s.F a)) (f.A a) = gI p.l (f.s.T a)) (fun j hj => by omega) fun i hi hp => ?_
  by_cases hlt : i < f.ar.length
  · have ia : Arr f.s i := ⟨by omega, by omega⟩
    have ii := m.inA ia
    have iF := s.inT ia
    have iF2 := ia.inF
    have l1 := iL _ (s.obF ia)
    have l2 := iL _ (s.obT ia)
    have a1 : Arr f.t (gI p.l (f.s.F i)) := h3.at l1
    have a2 := m.arA ia
    repeat (first | simp (disch := (first | rfl | with_reducible assumption | with_reducible solve_by_elim (maxDepth := 8) [Shape.inT, Shape.inI, Shape.inC, Shape.inK, Shape.obF, Shape.obT, Shape.arI, Arr.inF] | omega)) only [S2, Nat.reduceEqDiff, Nat.reduceAdd, iput, puts, SU f, SCo p, hlt] | (refine den_call rfl (by first | (simp only [SS, Nat.reduceEqDiff, Nat.reduceAdd, iput, puts, FF, frzL_cat, frzL_fu, frzL_co]; done) | (simp only [SS, Nat.reduceEqDiff, Nat.reduceAdd, iput, puts, FF, frzL_cat, frzL_fu, frzL_co]; rfl)) (by first | exact Fu.winT (t.fzThen K.thn a1 a2)) ?_))
    refine ⟨fun h4 => ?_, fun h4 => up rfl hlt fun k hk => ?_⟩
    · exact ⟨_, rfl, H, fun _ _ h => h, ret_false (fun q => h4 (q.fit i hlt)), rfl, Nat.le_refl _⟩
    · by_cases e : k = i
      · subst e; exact h4
      · exact hp k (by omega)
  · try simp (disch := (first | rfl | with_reducible assumption | with_reducible solve_by_elim (maxDepth := 8) [Shape.inT, Shape.inI, Shape.inC, Shape.inK, Shape.obF, Shape.obT, Shape.arI, Arr.inF] | omega)) only [S2, Nat.reduceEqDiff, Nat.reduceAdd, iput, puts, SU f, SCo p, hlt]
    exact ⟨_, rfl, H, fun _ _ h => h, ret_true (⟨oy, h2', h3, hp1, fun a ha => hp a (by omega)⟩), rfl, Nat.le_refl _⟩
def V_IsCone : Vc :=
  .op true (.p .box [.t 0]) <|
  .op true (.p .box [.t 1]) <|
  .op true (.call (.f 257) [.t 2]) <|
  .op true (.p .bnot [.t 4]) <|
  .br 5
   (.ret [(.c (bool false), none), (.c (int 1), none)])
   (.op true (.p (.ld (some 2)) [.t 3]) <|
   .op true (.call (.f 328) [.t 2, .t 6]) <|
   .ret [(.t 7, none), (.c (int 0), none)])
noncomputable def coneV (f : Fu) (p : Co) : AV := .tup [bool (decide (IsFu f ∧ ConeOf f p)), int (if IsFu f then 0 else 1)]
theorem cone_no {f : Fu} {p : Co} (h : ¬ IsFu f) : .tup [bool false, int 1] = coneV f p := by rw [coneV, if_neg h, decide_eq_false fun hh => h hh.1]
theorem cone_q {f : Fu} {p : Co} (h : IsFu f) : .tup [bool (decide (ConeOf f p)), int 0] = coneV f p := by
  rw [coneV, if_pos h]
  congr 3
  exact decide_eq_decide.2 ⟨fun q => ⟨h, q⟩, fun q => q.2⟩
theorem IsCone_fz (K : HFun P ν) (hc : Has P ν 328 2 V_isCone) (h : Has P ν 184 2 V_IsCone) (f : Fu) (b : SmallU f) (p : Co) (bp : p.l.length ≤ 1048576) : Fz (OkM P ν) 184 [.agg f.cells, .agg p.cells] (coneV f p) := by
  refine Fn.fz (fun H nx => h _ _ _ _ rfl fun hwf => ?_) fun _ => rfl
  unfold V_IsCone
  repeat (first | simp (disch := (first | rfl | with_reducible assumption | with_reducible solve_by_elim (maxDepth := 8) [Shape.inT, Shape.inI, Shape.inC, Shape.inK, Shape.obF, Shape.obT, Shape.arI, Arr.inF] | omega)) only [S2, Nat.reduceEqDiff, Nat.reduceAdd, iput, puts, SU f, SCo p] | (refine den_call rfl (by first | (simp only [SS, Nat.reduceEqDiff, Nat.reduceAdd, iput, puts, FF, frzL_cat, frzL_fu, frzL_co]; done) | (simp only [SS, Nat.reduceEqDiff, Nat.reduceAdd, iput, puts, FF, frzL_cat, frzL_fu, frzL_co]; rfl)) (by first | exact isFunctor_fz K f b) ?_))
  refine ⟨fun h1 => ⟨_, rfl, H, fun _ _ h => h, cone_no h1, rfl, Nat.le_refl _⟩, fun u => ?_⟩
  repeat (first | simp (disch := (first | rfl | with_reducible assumption | with_reducible solve_by_elim (maxDepth := 8) [Shape.inT, Shape.inI, Shape.inC, Shape.inK, Shape.obF, Shape.obT, Shape.arI, Arr.inF] | omega)) only [S2, Nat.reduceEqDiff, Nat.reduceAdd, iput, puts, SU f, SCo p] | (refine den_call rfl (by first | (simp only [SS, Nat.reduceEqDiff, Nat.reduceAdd, iput, puts, FF, frzL_cat, frzL_fu, frzL_co]; done) | (simp only [SS, Nat.reduceEqDiff, Nat.reduceAdd, iput, puts, FF, frzL_cat, frzL_fu, frzL_co]; rfl)) (by first | exact isCone_fz K.toHCat hc f u b p bp) ?_))
  exact ⟨_, rfl, H, fun _ _ h => h, cone_q u, rfl, Nat.le_refl _⟩

def V_spec_l12Cone : Vc :=
  .op true (.p .box [.t 0]) <|
  .op true (.p .box [.t 1]) <|
  .op true (.p (.fad 5) [.t 2]) <|
  .op true (.p (.ld (some 5)) [.t 4]) <|
  .op true (.new [int 0, .nil, .nil, .nil, .nil]) <|
  .op true (.st 5 (.t 6) (.t 5)) <|
  .op true (.p (.ld (some 5)) [.t 6]) <|
  .op true (.p (.fad 0) [.t 3]) <|
  .op true (.p (.ld none) [.t 9]) <|
  .op true (.call (.f 284) [.t 8, .t 10]) <|
  .op true (.p .bnot [.t 11]) <|
  .br 12
   (.ret [(.c (bool false), none)])
   (.op true (.p (.fad 1) [.t 3]) <|
   .op true (.p (.ld none) [.t 13]) <|
   .op true (.p .len [.t 14]) <|
   .op true (.p (.fad 10) [.t 2]) <|
   .op true (.p (.ld none) [.t 16]) <|
   .op true (.p .len [.t 17]) <|
   .op true (.p (.bin .neq) [.t 15, .t 18]) <|
   .br 19
    (.ret [(.c (bool false), none)])
    (.op true (.p (.fad 1) [.t 6]) <|
    .op true (.p (.ld none) [.t 20]) <|
    .op true (.p .len [.t 21]) <|
    .op true (.p (.fad 1) [.t 3]) <|
    .op true (.p (.ld none) [.t 23]) <|
    .op true (.call (.f 37) [.t 22, .t 24]) <|
    .op true (.p .bnot [.t 25]) <|
    .br 26
     (.ret [(.c (bool false), none)])
     (.loop 0 [.c (int 0)] <|
     .op true (.p (.fad 1) [.t 3]) <|
     .op true (.p (.ld none) [.t 28]) <|
     .op true (.p .len [.t 29]) <|
     .op true (.p (.bin .lss) [.t 27, .t 30]) <|
     .br 31
      (.op true (.p (.fad 1) [.t 6]) <|
      .op true (.p (.ld none) [.t 32]) <|
      .op true (.p (.fad 1) [.t 3]) <|
      .op true (.p (.ld none) [.t 34]) <|
      .op true (.p (.iad 1) [.t 35, .t 27]) <|
      .op true (.p (.ld none) [.t 36]) <|
      .op true (.p (.iad 1) [.t 33, .t 37]) <|
      .op true (.p (.ld none) [.t 38]) <|
      .op true (.p (.fad 0) [.t 3]) <|
      .op true (.p (.ld none) [.t 40]) <|
      .op true (.p (.bin .neq) [.t 39, .t 41]) <|
      .br 42
       (.ret [(.c (bool false), none)])
       (.op true (.p (.fad 2) [.t 6]) <|
       .op true (.p (.ld none) [.t 43]) <|
       .op true (.p (.fad 1) [.t 3]) <|
       .op true (.p (.ld none) [.t 45]) <|
       .op true (.p (.iad 1) [.t 46, .t 27]) <|
       .op true (.p (.ld none) [.t 47]) <|
       .op true (.p (.iad 1) [.t 44, .t 48]) <|
       .op true (.p (.ld none) [.t 49]) <|
       .op true (.p (.fad 10) [.t 2]) <|
       .op true (.p (.ld none) [.t 51]) <|
       .op true (.p (.iad 1) [.t 52, .t 27]) <|
       .op true (.p (.ld none) [.t 53]) <|
       .op true (.p (.bin .neq) [.t 50, .t 54]) <|
       .br 55
        (.ret [(.c (bool false), none)])
        (.op true (.p (.bin .add) [.t 27, .c (int 1)]) <|
        .again 0 [.t 56])))
      (.loop 0 [.c (int 0)] <|
      .op true (.p (.fad 11) [.t 2]) <|
      .op true (.p (.ld none) [.t 33]) <|
      .op true (.p .len [.t 34]) <|
      .op true (.p (.bin .lss) [.t 32, .t 35]) <|
      .br 36
       (.op true (.p (.ld (some 5)) [.t 6]) <|
       .op true (.p (.fad 1) [.t 3]) <|
       .op true (.p (.ld none) [.t 38]) <|
       .op true (.p (.fad 0) [.t 2]) <|
       .op true (.p (.fad 1) [.t 40]) <|
       .op true (.p (.ld none) [.t 41]) <|
       .op true (.p (.iad 1) [.t 42, .t 32]) <|
       .op true (.p (.ld none) [.t 43]) <|
       .op true (.p (.iad 1) [.t 39, .t 44]) <|
       .op true (.p (.ld none) [.t 45]) <|
       .op true (.p (.fad 11) [.t 2]) <|
       .op true (.p (.ld none) [.t 47]) <|
       .op true (.p (.iad 1) [.t 48, .t 32]) <|
       .op true (.p (.ld none) [.t 49]) <|
       .op true (.call (.f 253) [.t 37, .t 46, .t 50]) <|
       .op true (.p (.fad 1) [.t 3]) <|
       .op true (.p (.ld none) [.t 52]) <|
       .op true (.p (.fad 0) [.t 2]) <|
       .op true (.p (.fad 2) [.t 54]) <|
       .op true (.p (.ld none) [.t 55]) <|
       .op true (.p (.iad 1) [.t 56, .t 32]) <|
       .op true (.p (.ld none) [.t 57]) <|
       .op true (.p (.iad 1) [.t 53, .t 58]) <|
       .op true (.p (.ld none) [.t 59]) <|
       .op true (.p (.bin .neq) [.t 51, .t 60]) <|
       .br 61
        (.ret [(.c (bool false), none)])
        (.op true (.p (.bin .add) [.t 32, .c (int 1)]) <|
        .again 0 [.t 62]))
       (.ret [(.c (bool true), none)])))))
set_option maxHeartbeats 4000000 in
theorem l12Cone_fz (hob : Has P ν 284 2 V_spec_l02Object) (hm : Has P ν 37 2 V_spec_l01Map) (ht : Has P ν 253 3 V_spec_l02Then) (h : Has P ν 327 2 V_spec_l12Cone) (f : Fu) (u : IsFu f) (b : SmallU f) (p : Co) (bp : p.l.length ≤ 1048576) : Fz (OkM P ν) 327 [.agg f.cells, .agg p.cells] (bool (decide (ConeOf f p))) := by
  refine Fn.fzb fun H nx => h _ _ _ _ rfl fun hwf => ?_
  unfold V_spec_l12Cone
  have s := u.s.1
  have t := u.t.1
  have m := u.m
  have o0 := t.o0
  have o8 := t.o8
  have t40 := t.n40
  have ba := b.ar
  have ol := m.ol
  have al := m.al
  try simp (disch := (first | rfl | with_reducible assumption | with_reducible solve_by_elim (maxDepth := 8) [Shape.inT, Shape.inI, Shape.inC, Shape.inK, Shape.obF, Shape.obT, Shape.arI, Arr.inF] | omega)) only [S2, Nat.reduceEqDiff, Nat.reduceAdd, iput, puts, SU f, SCo p]
  refine den_newG fun H2 z2 e2 => ?_
  refine den_stG (p := 0) (k := 5) (m := 5) (c' := f.t.cells) (by rfl) (by rfl) z2 (by rfl) (by rfl) (show 0 + 5 ≤ 5 by omega) (by rfl) (by rfl) fun H4 xd e4 => ?_
  have sub : Sub H H4 := by
    intro o c ho
    have q1 : o ≠ nx := fun e => by rw [e, hwf nx (Nat.le_refl _)] at ho; cases ho
    rw [e4 _ (by omega), e2 _ (by omega)]; exact ho
  clear z2 e2 e4
  repeat (first | simp (disch := (first | rfl | with_reducible assumption | with_reducible solve_by_elim (maxDepth := 8) [Shape.inT, Shape.inI, Shape.inC, Shape.inK, Shape.obF, Shape.obT, Shape.arI, Arr.inF] | omega)) only [S2, Nat.reduceEqDiff, Nat.reduceAdd, iput, puts, SU f, SCo p, p_ldsm (l := 5) xd rfl] | (refine den_call rfl (by first | (simp only [SS, Nat.reduceEqDiff, Nat.reduceAdd, iput, puts, FF, frzL_cat, frzL_fu, frzL_co]; done) | (simp only [SS, Nat.reduceEqDiff, Nat.reduceAdd, iput, puts, FF, frzL_cat, frzL_fu, frzL_co]; rfl)) (by first | exact l02Object_fz hob f.t p.x) ?_))
  refine ⟨fun h1 => ?_, fun h1 => ?_⟩
  · exact ⟨_, rfl, H, sub, ret_false (fun q => h1 q.ob), rfl, by omega⟩
  have oy : Ob f.t p.x := h1
  try simp (disch := (first | rfl | with_reducible assumption | with_reducible solve_by_elim (maxDepth := 8) [Shape.inT, Shape.inI, Shape.inC, Shape.inK, Shape.obF, Shape.obT, Shape.arI, Arr.inF] | omega)) only [S2, Nat.reduceEqDiff, Nat.reduceAdd, iput, puts, SU f, SCo p]
  refine ⟨fun h2 => ?_, fun h2 => ?_⟩
  · exact ⟨_, rfl, H, sub, ret_false (fun q => h2 (by rw [q.len])), rfl, by omega⟩
  have h2' : p.l.length = f.ob.length := by omega
  repeat (first | simp (disch := (first | rfl | with_reducible assumption | with_reducible solve_by_elim (maxDepth := 8) [Shape.inT, Shape.inI, Shape.inC, Shape.inK, Shape.obF, Shape.obT, Shape.arI, Arr.inF] | omega)) only [S2, Nat.reduceEqDiff, Nat.reduceAdd, iput, puts, SU f, SCo p, p_fadm (l := 5) xd rfl, p_ldm (n := 5) xd rfl] | (refine den_call rfl (by first | (simp only [SS, Nat.reduceEqDiff, Nat.reduceAdd, iput, puts, FF, frzL_cat, frzL_fu, frzL_co]; done) | (simp only [SS, Nat.reduceEqDiff, Nat.reduceAdd, iput, puts, FF, frzL_cat, frzL_fu, frzL_co]; rfl)) (by first | exact (l01Map_ok hm p.l f.t.f.length (by omega)).fzb) ?_))
  refine ⟨fun h3 => ?_, fun h3 => ?_⟩
  · exact ⟨_, rfl, H, sub, ret_false (fun q => h3 q.wn), rfl, by omega⟩
  have iL : ∀ x, Ob f.s x → In p.l x := fun x hx => ⟨hx.1, by have := hx.2; omega⟩
  refine den_for p.l.length (fun i => ∀ j : Nat, j < i → f.t.F (gI p.l j) = p.x ∧ f.t.T (gI p.l j) = f.O j) (fun j hj => by omega) fun i hi hp => ?_
  by_cases hlt : i < p.l.length
  · have i1 : In p.l (i : Int) := In.nat hlt
    have i2 : In f.ob (i : Int) := In.nat (by omega)
    have a : Arr f.t (gI p.l i) := h3.at i1
    try simp (disch := (first | rfl | with_reducible assumption | with_reducible solve_by_elim (maxDepth := 8) [Shape.inT, Shape.inI, Shape.inC, Shape.inK, Shape.obF, Shape.obT, Shape.arI, Arr.inF] | omega)) only [S2, Nat.reduceEqDiff, Nat.reduceAdd, iput, puts, SU f, SCo p, hlt, p_fadm (l := 5) xd rfl, p_ldm (n := 5) xd rfl]
    refine ⟨fun h4 => ?_, fun h4 => ⟨fun h5 => ?_, fun h5 => up rfl hlt fun k hk => ?_⟩⟩
    · exact ⟨_, rfl, H, sub, ret_false (fun q => h4 (q.leg i hlt).1), rfl, by omega⟩
    · exact ⟨_, rfl, H, sub, ret_false (fun q => h5 (q.leg i hlt).2), rfl, by omega⟩
    · by_cases e : k = i
      · subst e; exact ⟨h4, h5⟩
      · exact hp k (by omega)
  have hp1 := fun (a : Nat) (ha : a < p.l.length) => hp a (show a < i by omega)
  try simp (disch := (first | rfl | with_reducible assumption | with_reducible solve_by_elim (maxDepth := 8) [Shape.inT, Shape.inI, Shape.inC, Shape.inK, Shape.obF, Shape.obT, Shape.arI, Arr.inF] | omega)) only [S2, Nat.reduceEqDiff, Nat.reduceAdd, iput, puts, SU f, SCo p, hlt, p_fadm (l := 5) xd rfl, p_ldm (n := 5) xd rfl]
  clear hp hlt hi
  refine den_for f.ar.length (fun i => ∀ a : Nat, a < i → f.t.K (gI p.l (f.s.F a)) (f.A a) = gI p.l (f.s.T a)) (fun j hj => by omega) fun i hi hp => ?_
  by_cases hlt : i < f.ar.length
  · have ia : Arr f.s i := ⟨by omega, by omega⟩
    have ii := m.inA ia
    have iF := s.inT ia
    have iF2 := ia.inF
    have l1 := iL _ (s.obF ia)
    have l2 := iL _ (s.obT ia)
    have a1 : Arr f.t (gI p.l (f.s.F i)) := h3.at l1
    have a2 := m.arA ia
    repeat (first | simp (disch := (first | rfl | with_reducible assumption | with_reducible solve_by_elim (maxDepth := 8) [Shape.inT, Shape.inI, Shape.inC, Shape.inK, Shape.obF, Shape.obT, Shape.arI, Arr.inF] | omega)) only [S2, Nat.reduceEqDiff, Nat.reduceAdd, iput, puts, SU f, SCo p, hlt, p_ldsm (l := 5) xd rfl] | (refine den_call rfl (by first | (simp only [SS, Nat.reduceEqDiff, Nat.reduceAdd, iput, puts, FF, frzL_cat, frzL_fu, frzL_co]; done) | (simp only [SS, Nat.reduceEqDiff, Nat.reduceAdd, iput, puts, FF, frzL_cat, frzL_fu, frzL_co]; rfl)) (by first | exact t.sThenFz ht a1 a2) ?_))
    refine ⟨fun h4 => ?_, fun h4 => up rfl hlt fun k hk => ?_⟩
    · exact ⟨_, rfl, H, sub, ret_false (fun q => h4 (q.fit i hlt)), rfl, by omega⟩
    · by_cases e : k = i
      · subst e; exact h4
      · exact hp k (by omega)
  · try simp (disch := (first | rfl | with_reducible assumption | with_reducible solve_by_elim (maxDepth := 8) [Shape.inT, Shape.inI, Shape.inC, Shape.inK, Shape.obF, Shape.obT, Shape.arI, Arr.inF] | omega)) only [S2, Nat.reduceEqDiff, Nat.reduceAdd, iput, puts, SU f, SCo p, hlt]
    exact ⟨_, rfl, H, sub, ret_true (⟨oy, h2', h3, hp1, fun a ha => hp a (by omega)⟩), rfl, by omega⟩
def V_spec_IsCone : Vc :=
  .op true (.p .box [.t 0]) <|
  .op true (.p .box [.t 1]) <|
  .op true (.p (.ld (some 12)) [.t 2]) <|
  .op true (.call (.f 256) [.t 4]) <|
  .op true (.p .bnot [.t 5]) <|
  .br 6
   (.ret [(.c (bool false), none), (.c (int 1), none)])
   (.op true (.p (.ld (some 12)) [.t 2]) <|
   .op true (.p (.ld (some 2)) [.t 3]) <|
   .op true (.call (.f 327) [.t 7, .t 8]) <|
   .ret [(.t 9, none), (.c (int 0), none)])
theorem sIsCone_fz (K : HSpecU P ν) (hob : Has P ν 284 2 V_spec_l02Object) (ht : Has P ν 253 3 V_spec_l02Then) (hc : Has P ν 327 2 V_spec_l12Cone) (h : Has P ν 182 2 V_spec_IsCone) (f : Fu) (b : SmallU f) (p : Co) (bp : p.l.length ≤ 1048576) : Fz (OkM P ν) 182 [.agg f.cells, .agg p.cells] (coneV f p) := by
  refine Fn.fz (fun H nx => h _ _ _ _ rfl fun hwf => ?_) fun _ => rfl
  unfold V_spec_IsCone
  repeat (first | simp (disch := (first | rfl | with_reducible assumption | with_reducible solve_by_elim (maxDepth := 8) [Shape.inT, Shape.inI, Shape.inC, Shape.inK, Shape.obF, Shape.obT, Shape.arI, Arr.inF] | omega)) only [S2, Nat.reduceEqDiff, Nat.reduceAdd, iput, puts, SU f, SCo p] | (refine den_call rfl (by first | (simp only [SS, Nat.reduceEqDiff, Nat.reduceAdd, iput, puts, FF, frzL_cat, frzL_fu, frzL_co]; done) | (simp only [SS, Nat.reduceEqDiff, Nat.reduceAdd, iput, puts, FF, frzL_cat, frzL_fu, frzL_co]; rfl)) (by first | exact l06Is_fz K f b) ?_))
  refine ⟨fun h1 => ⟨_, rfl, H, fun _ _ h => h, cone_no h1, rfl, Nat.le_refl _⟩, fun u => ?_⟩
  repeat (first | simp (disch := (first | rfl | with_reducible assumption | with_reducible solve_by_elim (maxDepth := 8) [Shape.inT, Shape.inI, Shape.inC, Shape.inK, Shape.obF, Shape.obT, Shape.arI, Arr.inF] | omega)) only [S2, Nat.reduceEqDiff, Nat.reduceAdd, iput, puts, SU f, SCo p] | (refine den_call rfl (by first | (simp only [SS, Nat.reduceEqDiff, Nat.reduceAdd, iput, puts, FF, frzL_cat, frzL_fu, frzL_co]; done) | (simp only [SS, Nat.reduceEqDiff, Nat.reduceAdd, iput, puts, FF, frzL_cat, frzL_fu, frzL_co]; rfl)) (by first | exact l12Cone_fz hob K.l01Map ht hc f u b p bp) ?_))
  exact ⟨_, rfl, H, fun _ _ h => h, cone_q u, rfl, Nat.le_refl _⟩
theorem IsCone_both (K : HFun P ν) (hc : Has P ν 328 2 V_isCone) (h : Has P ν 184 2 V_IsCone) (KS : HSpecU P ν) (hob : Has P ν 284 2 V_spec_l02Object) (ht : Has P ν 253 3 V_spec_l02Then) (hc' : Has P ν 327 2 V_spec_l12Cone) (h' : Has P ν 182 2 V_spec_IsCone) (f : Fu) (b : SmallU f) (p : Co) (bp : p.l.length ≤ 1048576) :
    ∃ (a : Bool) (k : Int), Fz (OkM P ν) 184 [.agg f.cells, .agg p.cells] (.tup [bool a, int k]) ∧ Fz (OkM P ν) 182 [.agg f.cells, .agg p.cells] (.tup [bool a, int k]) :=
  ⟨_, _, IsCone_fz K hc h f b p bp, sIsCone_fz KS hob ht hc' h' f b p bp⟩
end Go.Av
