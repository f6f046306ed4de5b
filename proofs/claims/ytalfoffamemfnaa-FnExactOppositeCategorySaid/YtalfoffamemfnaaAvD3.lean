/-
  Functors among a statement's arguments: sizes, copies, comparisons.
-/
import Derived.Test.YtalfoffamemfnaaAvD1
import Derived.Test.YtalfoffamemfnaaAvC5
import Derived.Test.YtalfoffamemfnaaAvK0
namespace Go.Av
open Classical
set_option linter.unusedSimpArgs false
set_option linter.unusedVariables false
variable {P : Program} {ν : Nat → FuncId}

structure ReadU (f : Fu) : Prop where
  s : Read f.s
  t : Read f.t
  ob : f.ob.length ≤ 9223372036854775807
  ar : f.ar.length ≤ 9223372036854775807
def fuTy : Ty := .pair catTy (.pair catTy (.pair (.sl .int) (.pair (.sl .int) .unit)))
theorem ShpV.fu {x : AV} (h : ShpV fuTy x) : ∃ f : Fu, x = .agg f.cells ∧ ReadU f := by
  cases h with
  | agg h =>
    cases h with | pair h1 h =>
    cases h with | pair h2 h =>
    cases h with | pair h3 h =>
    cases h with | pair h4 h =>
    cases h
    obtain ⟨c, rfl, rc, _⟩ := Shp.cat h1
    obtain ⟨d, rfl, rd, _⟩ := Shp.cat h2
    obtain ⟨z, rfl, z1, _⟩ := h3.ints
    obtain ⟨a, rfl, a1, _⟩ := h4.ints
    exact ⟨⟨c, d, z, a⟩, rfl, rc, rd, z1, a1⟩
  | one h => have := h.len; simp [fuTy, catTy, Ty.size] at this

/-- One step after the other, until the room is spent. -/
def sz2 (a : Int) (f : Int → Int) : Int := if a < 0 then -1 else f a
def szU (f : Fu) (left : Int) : Int := sz2 (szCat f.s left) fun l => sz2 (szCat f.t l) fun l => sz2 (szS f.ob l) fun l => sz2 (szS f.ar l) id
theorem sz2_neg {a : Int} {f : Int → Int} (h : a < 0) : sz2 a f = -1 := if_pos h
theorem sz2_pos {a : Int} {f : Int → Int} (h : ¬ a < 0) : sz2 a f = f a := if_neg h
theorem sz2_inv {a : Int} {f : Int → Int} (h : 0 ≤ sz2 a f) : ¬ a < 0 ∧ 0 ≤ f a := by
  unfold sz2 at h
  split at h
  · omega
  · exact ⟨by assumption, h⟩
theorem szU_small {f : Fu} (h : 0 ≤ szU f 1048576) : SmallU f := by
  obtain ⟨h1, h⟩ := sz2_inv h
  obtain ⟨h2, h⟩ := sz2_inv h
  obtain ⟨h3, h⟩ := sz2_inv h
  obtain ⟨h4, h⟩ := sz2_inv h
  have l1 := szCat_le (c := f.s) (left := 1048576) (by omega) (by omega)
  have l2 := szCat_le (c := f.t) (left := szCat f.s 1048576) (by omega) (by omega)
  have b1 := szS_pos (l := f.ob) (left := szCat f.t (szCat f.s 1048576)) (by omega)
  have b2 := szS_pos (l := f.ar) (left := szS f.ob (szCat f.t (szCat f.s 1048576))) (by omega)
  exact ⟨szCat_small (left := 1048576) (by omega) (by omega) (by omega), szCat_small (left := szCat f.s 1048576) (by omega) (by omega) (by omega), by omega, by omega⟩

def V_laws_szFunctor : Vc :=
  .op true (.p .box [.t 0]) <|
  .op true (.p (.fad 0) [.t 2]) <|
  .op true (.p (.ld (some 5)) [.t 3]) <|
  .op true (.call (.f 3) [.t 4, .t 1]) <|
  .op true (.p (.bin .lss) [.t 5, .c (int 0)]) <|
  .br 6
   (.ret [(.c (int (-1)), none)])
   (.op true (.p (.fad 5) [.t 2]) <|
   .op true (.p (.ld (some 5)) [.t 7]) <|
   .op true (.call (.f 3) [.t 8, .t 5]) <|
   .op true (.p (.bin .lss) [.t 9, .c (int 0)]) <|
   .br 10
    (.ret [(.c (int (-1)), none)])
    (.op true (.p (.fad 10) [.t 2]) <|
    .op true (.p (.ld none) [.t 11]) <|
    .op true (.call (.f 12) [.t 12, .t 9]) <|
    .op true (.p (.bin .lss) [.t 13, .c (int 0)]) <|
    .br 14
     (.ret [(.c (int (-1)), none)])
     (.op true (.p (.fad 11) [.t 2]) <|
     .op true (.p (.ld none) [.t 15]) <|
     .op true (.call (.f 12) [.t 16, .t 13]) <|
     .op true (.p (.bin .lss) [.t 17, .c (int 0)]) <|
     .br 18
      (.ret [(.c (int (-1)), none)])
      (.ret [(.t 17, none)]))))
def V_laws_toFunctor : Vc :=
  .op true (.p .box [.t 0]) <|
  .op true (.new [int 0, .nil, .nil, .nil, .nil, int 0, .nil, .nil, .nil, .nil, .nil, .nil]) <|
  .op true (.new [int 0, .nil, .nil, .nil, .nil, int 0, .nil, .nil, .nil, .nil, .nil, .nil]) <|
  .op true (.p (.fad 0) [.t 1]) <|
  .op true (.p (.ld (some 5)) [.t 4]) <|
  .op true (.callm (.f 5) [.t 5]) <|
  .op true (.p (.fad 0) [.t 3]) <|
  .op true (.st 5 (.t 7) (.t 6)) <|
  .op true (.p (.fad 5) [.t 1]) <|
  .op true (.p (.ld (some 5)) [.t 9]) <|
  .op true (.callm (.f 5) [.t 10]) <|
  .op true (.p (.fad 5) [.t 3]) <|
  .op true (.st 5 (.t 12) (.t 11)) <|
  .op true (.p (.fad 10) [.t 1]) <|
  .op true (.p (.ld none) [.t 14]) <|
  .op true (.callm (.f 16) [.t 15]) <|
  .op true (.p (.fad 10) [.t 3]) <|
  .op true (.st 1 (.t 17) (.t 16)) <|
  .op true (.p (.fad 11) [.t 1]) <|
  .op true (.p (.ld none) [.t 19]) <|
  .op true (.callm (.f 16) [.t 20]) <|
  .op true (.p (.fad 11) [.t 3]) <|
  .op true (.st 1 (.t 22) (.t 21)) <|
  .op true (.p (.ld (some 12)) [.t 3]) <|
  .op true (.st 12 (.t 2) (.t 24)) <|
  .ret [(.t 2, some (some 12))]
def V_laws_eqFunctor : Vc :=
  .op true (.p .box [.t 0]) <|
  .op true (.p .box [.t 1]) <|
  .op true (.p (.fad 0) [.t 2]) <|
  .op true (.p (.ld (some 5)) [.t 4]) <|
  .op true (.p (.fad 0) [.t 3]) <|
  .op true (.p (.ld (some 5)) [.t 6]) <|
  .op true (.call (.f 8) [.t 5, .t 7]) <|
  .op true (.p .bnot [.t 8]) <|
  .br 9
   (.ret [(.c (bool false), none)])
   (.op true (.p (.fad 5) [.t 2]) <|
   .op true (.p (.ld (some 5)) [.t 10]) <|
   .op true (.p (.fad 5) [.t 3]) <|
   .op true (.p (.ld (some 5)) [.t 12]) <|
   .op true (.call (.f 8) [.t 11, .t 13]) <|
   .op true (.p .bnot [.t 14]) <|
   .br 15
    (.ret [(.c (bool false), none)])
    (.op true (.p (.fad 10) [.t 2]) <|
    .op true (.p (.ld none) [.t 16]) <|
    .op true (.p (.fad 10) [.t 3]) <|
    .op true (.p (.ld none) [.t 18]) <|
    .op true (.call (.f 7) [.t 17, .t 19]) <|
    .op true (.p .bnot [.t 20]) <|
    .br 21
     (.ret [(.c (bool false), none)])
     (.op true (.p (.fad 11) [.t 2]) <|
     .op true (.p (.ld none) [.t 22]) <|
     .op true (.p (.fad 11) [.t 3]) <|
     .op true (.p (.ld none) [.t 24]) <|
     .op true (.call (.f 7) [.t 23, .t 25]) <|
     .op true (.p .bnot [.t 26]) <|
     .br 27
      (.ret [(.c (bool false), none)])
      (.ret [(.c (bool true), none)]))))
structure HLawU (P : Program) (ν : Nat → FuncId) : Prop where
  sz : Has P ν 116 2 V_laws_szFunctor
  to : Has P ν 118 1 V_laws_toFunctor
  eq : Has P ν 120 2 V_laws_eqFunctor

theorem szU_fz (L : HLaw P ν) (h : Has P ν 116 2 V_laws_szFunctor) (f : Fu) (rd : ReadU f) : Fz (OkM P ν) 116 [.agg f.cells, int 1048576] (int (szU f 1048576)) := by
  refine Fn.fzi fun H nx => h _ _ _ _ rfl fun hwf => ?_
  unfold V_laws_szFunctor
  have no : ∀ {a : Int}, a = -1 → int (-1) = int a := fun e => by rw [e]
  repeat (first | simp (disch := (first | rfl | with_reducible assumption | with_reducible solve_by_elim (maxDepth := 8) [Shape.inT, Shape.inI, Shape.inC, Shape.inK, Shape.obF, Shape.obT, Shape.arI, Arr.inF] | omega)) only [S2, Nat.reduceEqDiff, Nat.reduceAdd, iput, puts, SU f] | (refine den_call rfl (by first | (simp only [SS, Nat.reduceEqDiff, Nat.reduceAdd, iput, puts, FF, frzL_cat, frzL_fu]; done) | (simp only [SS, Nat.reduceEqDiff, Nat.reduceAdd, iput, puts, FF, frzL_cat, frzL_fu]; rfl)) (by first | exact (szCat_ok L.szI L.szII L.szC f.s rd.s 1048576 (by omega) (by omega)).fzi) ?_) | (refine den_calli rfl (by first | (simp only [SS, Nat.reduceEqDiff, Nat.reduceAdd, iput, puts, FF, frzL_cat, frzL_fu]; done) | (simp only [SS, Nat.reduceEqDiff, Nat.reduceAdd, iput, puts, FF, frzL_cat, frzL_fu]; rfl)) (by first | exact (szCat_ok L.szI L.szII L.szC f.s rd.s 1048576 (by omega) (by omega)).fzi) ?_))
  refine ⟨fun h1 => ?_, fun h1 => ?_⟩
  · exact ⟨_, rfl, H, fun _ _ h => h, no (sz2_neg h1), rfl, Nat.le_refl _⟩
  have l1 := szCat_le (c := f.s) (left := 1048576) (by omega) (by omega)
  repeat (first | simp (disch := (first | rfl | with_reducible assumption | with_reducible solve_by_elim (maxDepth := 8) [Shape.inT, Shape.inI, Shape.inC, Shape.inK, Shape.obF, Shape.obT, Shape.arI, Arr.inF] | omega)) only [S2, Nat.reduceEqDiff, Nat.reduceAdd, iput, puts, SU f] | (refine den_call rfl (by first | (simp only [SS, Nat.reduceEqDiff, Nat.reduceAdd, iput, puts, FF, frzL_cat, frzL_fu]; done) | (simp only [SS, Nat.reduceEqDiff, Nat.reduceAdd, iput, puts, FF, frzL_cat, frzL_fu]; rfl)) (by first | exact (szCat_ok L.szI L.szII L.szC f.t rd.t (szCat f.s 1048576) (by omega) (by omega)).fzi) ?_) | (refine den_calli rfl (by first | (simp only [SS, Nat.reduceEqDiff, Nat.reduceAdd, iput, puts, FF, frzL_cat, frzL_fu]; done) | (simp only [SS, Nat.reduceEqDiff, Nat.reduceAdd, iput, puts, FF, frzL_cat, frzL_fu]; rfl)) (by first | exact (szCat_ok L.szI L.szII L.szC f.t rd.t (szCat f.s 1048576) (by omega) (by omega)).fzi) ?_))
  refine ⟨fun h2 => ?_, fun h2 => ?_⟩
  · exact ⟨_, rfl, H, fun _ _ h => h, no ((sz2_pos h1).trans (sz2_neg h2)), rfl, Nat.le_refl _⟩
  have l2 := szCat_le (c := f.t) (left := szCat f.s 1048576) (by omega) (by omega)
  repeat (first | simp (disch := (first | rfl | with_reducible assumption | with_reducible solve_by_elim (maxDepth := 8) [Shape.inT, Shape.inI, Shape.inC, Shape.inK, Shape.obF, Shape.obT, Shape.arI, Arr.inF] | omega)) only [S2, Nat.reduceEqDiff, Nat.reduceAdd, iput, puts, SU f] | (refine den_call rfl (by first | (simp only [SS, Nat.reduceEqDiff, Nat.reduceAdd, iput, puts, FF, frzL_cat, frzL_fu]; done) | (simp only [SS, Nat.reduceEqDiff, Nat.reduceAdd, iput, puts, FF, frzL_cat, frzL_fu]; rfl)) (by first | exact (szI_ok L.szI f.ob (szCat f.t (szCat f.s 1048576)) (by omega) (by omega) rd.ob).fzi) ?_) | (refine den_calli rfl (by first | (simp only [SS, Nat.reduceEqDiff, Nat.reduceAdd, iput, puts, FF, frzL_cat, frzL_fu]; done) | (simp only [SS, Nat.reduceEqDiff, Nat.reduceAdd, iput, puts, FF, frzL_cat, frzL_fu]; rfl)) (by first | exact (szI_ok L.szI f.ob (szCat f.t (szCat f.s 1048576)) (by omega) (by omega) rd.ob).fzi) ?_))
  refine ⟨fun h3 => ?_, fun h3 => ?_⟩
  · exact ⟨_, rfl, H, fun _ _ h => h, no ((sz2_pos h1).trans ((sz2_pos h2).trans (sz2_neg h3))), rfl, Nat.le_refl _⟩
  have l3 := szS_pos (l := f.ob) (left := szCat f.t (szCat f.s 1048576)) (by omega)
  repeat (first | simp (disch := (first | rfl | with_reducible assumption | with_reducible solve_by_elim (maxDepth := 8) [Shape.inT, Shape.inI, Shape.inC, Shape.inK, Shape.obF, Shape.obT, Shape.arI, Arr.inF] | omega)) only [S2, Nat.reduceEqDiff, Nat.reduceAdd, iput, puts, SU f] | (refine den_call rfl (by first | (simp only [SS, Nat.reduceEqDiff, Nat.reduceAdd, iput, puts, FF, frzL_cat, frzL_fu]; done) | (simp only [SS, Nat.reduceEqDiff, Nat.reduceAdd, iput, puts, FF, frzL_cat, frzL_fu]; rfl)) (by first | exact (szI_ok L.szI f.ar (szS f.ob (szCat f.t (szCat f.s 1048576))) (by omega) (by omega) rd.ar).fzi) ?_) | (refine den_calli rfl (by first | (simp only [SS, Nat.reduceEqDiff, Nat.reduceAdd, iput, puts, FF, frzL_cat, frzL_fu]; done) | (simp only [SS, Nat.reduceEqDiff, Nat.reduceAdd, iput, puts, FF, frzL_cat, frzL_fu]; rfl)) (by first | exact (szI_ok L.szI f.ar (szS f.ob (szCat f.t (szCat f.s 1048576))) (by omega) (by omega) rd.ar).fzi) ?_))
  refine ⟨fun h4 => ?_, fun h4 => ?_⟩
  · exact ⟨_, rfl, H, fun _ _ h => h, no ((sz2_pos h1).trans ((sz2_pos h2).trans ((sz2_pos h3).trans (sz2_neg h4)))), rfl, Nat.le_refl _⟩
  · refine ⟨_, rfl, H, fun _ _ h => h, ?_, rfl, Nat.le_refl _⟩
    rw [show szU f 1048576 = _ from (sz2_pos h1).trans ((sz2_pos h2).trans ((sz2_pos h3).trans (sz2_pos h4)))]
    rfl

theorem eqU_same (L : HLaw P ν) (h : Has P ν 120 2 V_laws_eqFunctor) (f : Fu) (b : SmallU f) : Fz (OkM P ν) 120 [.agg f.cells, .agg f.cells] (bool true) := by
  refine Fn.fzb fun H nx => h _ _ _ _ rfl fun hwf => ?_
  unfold V_laws_eqFunctor
  have bo := b.ob
  have ba := b.ar
  repeat (first | simp (disch := (first | rfl | with_reducible assumption | with_reducible solve_by_elim (maxDepth := 8) [Shape.inT, Shape.inI, Shape.inC, Shape.inK, Shape.obF, Shape.obT, Shape.arI, Arr.inF] | omega)) only [S2, Nat.reduceEqDiff, Nat.reduceAdd, iput, puts, SU f] | (refine den_call rfl (by first | (simp only [SS, Nat.reduceEqDiff, Nat.reduceAdd, iput, puts, FF, frzL_cat, frzL_fu]; done) | (simp only [SS, Nat.reduceEqDiff, Nat.reduceAdd, iput, puts, FF, frzL_cat, frzL_fu]; rfl)) (by first | exact eqCat_same L f.s b.s | exact eqCat_same L f.t b.t | exact eqI_same L.eqI f.ob (by omega) | exact eqI_same L.eqI f.ar (by omega)) ?_) | (refine den_calli rfl (by first | (simp only [SS, Nat.reduceEqDiff, Nat.reduceAdd, iput, puts, FF, frzL_cat, frzL_fu]; done) | (simp only [SS, Nat.reduceEqDiff, Nat.reduceAdd, iput, puts, FF, frzL_cat, frzL_fu]; rfl)) (by first | exact eqCat_same L f.s b.s | exact eqCat_same L f.t b.t | exact eqI_same L.eqI f.ob (by omega) | exact eqI_same L.eqI f.ar (by omega)) ?_))
  exact ⟨_, rfl, H, fun _ _ h => h, rfl, rfl, Nat.le_refl _⟩

section
variable {C : Ct} {Φ : AV → Hp → Nat → Prop} {n : Nat} {vars : Nat → AV} {H : Hp} {nx : Nat} {Is : Nat → Inv} {r : Vc}
theorem p_fadH {H : Hp} {o p l k : Nat} {c : List AV} (hl : c.length = l) : pvf (hput H o (some c)) (.fad k) [.mp o p l] = some (.mp o (p + k) l) := p_fadm (hput_eq _ _ _) hl
theorem p_ldsH {H : Hp} {o l : Nat} {c : List AV} (hl : c.length = l) : pvf (hput H o (some c)) (.ld (some l)) [.mp o 0 l] = some (.agg c) := p_ldsm (hput_eq _ _ _) hl
theorem p_ldH {H : Hp} {o p l : Nat} {c : List AV} (hl : c.length = l) : pvf (hput H o (some c)) (.ld none) [.mp o p l] = c[p]? := p_ldm (hput_eq _ _ _) hl
/-- A store into the last object. -/
theorem den_stH {x y : Opd} {o p m k : Nat} {c c' d : List AV} (hx : ev vars x = .mp o p m) (hy : (ev vars y).cells = d) (hl : c.length = m) (hd : d.length = k) (hp : p + k ≤ m) (h1 : d.all AV.one = true) (he : c.take p ++ d ++ c.drop (p + k) = c')
    (hr : den C Φ r (n + 1) (put vars n (.v undef)) (hput H o (some c')) nx Is) : den C Φ (.op true (.st k x y) r) n vars (hput H o (some c)) nx Is := by
  refine den_st (h := hput H o (some c')) ?_ hr
  rw [hx]
  simp only [stTo, hput_eq, hy, hl, hd, h1]
  rw [if_pos ⟨trivial, trivial, hp, trivial⟩, he, hput_hput]
end

/-- The cells of a functor in memory of the call's own. -/
def fuM (f : Fu) (a b p q : Nat) : List AV := [int f.s.o, .ms a 0 f.s.f.length 1, .ms (a + 1) 0 f.s.t.length 1, .ms (a + 2) 0 f.s.i.length 1, .ms (a + 3) 0 f.s.c.length 1, int f.t.o, .ms b 0 f.t.f.length 1, .ms (b + 1) 0 f.t.t.length 1, .ms (b + 2) 0 f.t.i.length 1, .ms (b + 3) 0 f.t.c.length 1, .ms p 0 f.ob.length 1, .ms q 0 f.ar.length 1]
structure FuAt (H : Hp) (a b p q : Nat) (f : Fu) : Prop where
  s : CatAt H a f.s
  t : CatAt H b f.t
  ob : H p = some (ints f.ob)
  ar : H q = some (ints f.ar)
structure FuIn (f : Fu) (a b p q lo hi : Nat) : Prop where
  ia : lo ≤ a
  ib : a + 4 + f.s.c.length ≤ b
  ip : b + 4 + f.t.c.length ≤ p
  iq : p < q
  ih : q < hi
def IsMkU (f : Fu) (H : Hp) (nx : Nat) (r : AV) (H' : Hp) (nx' : Nat) : Prop := ∃ a b p q, r = .agg (fuM f a b p q) ∧ FuIn f a b p q nx nx' ∧ FuAt H' a b p q f ∧ ∀ o, o < nx → H' o = H o
theorem FuAt.mono {H H' : Hp} {a b p q lo hi : Nat} {f : Fu} (h : FuAt H a b p q f) (i : FuIn f a b p q lo hi) (hh : ∀ o, lo ≤ o → o < hi → H' o = H o) : FuAt H' a b p q f := by
  have i1 := i.ia; have i2 := i.ib; have i3 := i.ip; have i4 := i.iq; have i5 := i.ih
  exact ⟨h.s.mono fun o _ _ => hh o (by omega) (by omega), h.t.mono fun o _ _ => hh o (by omega) (by omega), (hh p (by omega) (by omega)).trans h.ob, (hh q (by omega) (by omega)).trans h.ar⟩
theorem CatAt.ms {H : Hp} {n0 : Nat} {x : Cat} (h : CatAt H n0 x) (k : Nat) : Av.frzN H (k + 1 + 1) (.ms n0 0 x.f.length 1) = some (islice x.f) ∧ Av.frzN H (k + 1 + 1) (.ms (n0 + 1) 0 x.t.length 1) = some (islice x.t) ∧ Av.frzN H (k + 1 + 1) (.ms (n0 + 2) 0 x.i.length 1) = some (islice x.i) ∧ Av.frzN H (k + 1 + 1) (.ms (n0 + 3) 0 x.c.length 1) = some (.sl (rows x.c) x.c.length) :=
  ⟨frzN_ms h.f _, frzN_ms h.t _, frzN_ms h.i _, frzN_rows h.c h.row _⟩
theorem FuAt.frzN {H : Hp} {a b p q : Nat} {f : Fu} (h : FuAt H a b p q f) : Av.frzN H fuel (.agg (fuM f a b p q)) = some (.agg f.cells) := by
  show ((fuM f a b p q).mapM (Av.frzN H 5)).map AV.agg = _
  have h1 := h.s.ms 3
  have h2 := h.t.ms 3
  simp only [fuM, List.mapM_cons, List.mapM_nil, frzN_int, h1, h2, frzN_ms h.ob 4, frzN_ms h.ar 4]
  rfl
theorem frzL_of {H : Hp} {v u : AV} {l : List AV} (h : frzN H fuel v = some u) : frzL H (v :: l) = (frzL H l).map (u :: ·) := by
  simp only [Av.frzL, List.mapM_cons, frzN_frz _ _ _ h]; cases List.mapM (Av.frz H fuel) l <;> rfl

section
variable {C : Ct} {Φ : AV → Hp → Nat → Prop} {n : Nat} {vars : Nat → AV} {H : Hp} {nx : Nat} {Is : Nat → Inv} {r : Vc}
/-- A store; of the objects nothing but what they hold is kept. -/
theorem den_stG {x y : Opd} {o p m k : Nat} {c c' d : List AV} (hx : ev vars x = .mp o p m) (hy : (ev vars y).cells = d) (ho : H o = some c) (hl : c.length = m) (hd : d.length = k) (hp : p + k ≤ m) (h1 : d.all AV.one = true) (he : c.take p ++ d ++ c.drop (p + k) = c')
    (hr : ∀ H2 : Hp, H2 o = some c' → (∀ j, j ≠ o → H2 j = H j) → den C Φ r (n + 1) (put vars n (.v undef)) H2 nx Is) : den C Φ (.op true (.st k x y) r) n vars H nx Is := by
  refine den_st (h := hput H o (some c')) ?_ (hr _ (hput_eq _ _ _) fun j hj => hput_ne _ _ _ _ hj)
  rw [hx]
  simp only [stTo, ho, hy, hl, hd, h1]
  rw [if_pos ⟨trivial, trivial, hp, trivial⟩, he]
theorem den_newG {z : List AV} (hk : ∀ H2 : Hp, H2 nx = some z → (∀ j, j ≠ nx → H2 j = H j) → den C Φ r (n + 1) (put vars n (.mp nx 0 z.length)) H2 (nx + 1) Is) : den C Φ (.op true (.new z) r) n vars H nx Is :=
  den_new (hk _ (hput_eq _ _ _) fun j hj => hput_ne _ _ _ _ hj)
end
theorem toCat_okG (L : HLaw P ν) (c : Cat) (b : Small2 c) (H : Hp) (nx : Nat) : OkM P ν 5 [.agg c.cells] H nx (fun r H' nx' => ∃ n0, r = catM c n0 ∧ nx ≤ n0 ∧ nx' = n0 + 4 + c.c.length ∧ CatAt H' n0 c ∧ ∀ o, o < nx → H' o = H o) :=
  (toCat_ok L.toI L.toII L.toC c b H nx).mono fun r H' nx' hh => by
    obtain ⟨n0, h1, rfl, rfl, rfl⟩ := hh
    exact ⟨n0, rfl, h1, rfl, catH_at _ _ _, fun o ho => catH_lo _ _ _ _ (by omega)⟩
theorem toCat_someG (c : Cat) (H : Hp) (nx : Nat) : ∃ r H' nx', (∃ n0, r = catM c n0 ∧ nx ≤ n0 ∧ nx' = n0 + 4 + c.c.length ∧ CatAt H' n0 c ∧ ∀ o, o < nx → H' o = H o) :=
  ⟨_, catH H nx c, _, nx, rfl, Nat.le_refl _, rfl, catH_at _ _ _, fun o ho => catH_lo _ _ _ _ ho⟩
theorem toI_okG (L : HLaw P ν) (l : List Int) (b : l.length ≤ 1048576) (H : Hp) (nx : Nat) : OkM P ν 16 [islice l] H nx (fun r H' nx' => r = .ms nx 0 l.length 1 ∧ nx' = nx + 1 ∧ H' nx = some (ints l) ∧ ∀ o, o ≠ nx → H' o = H o) :=
  (toI_ok L.toI l b H nx).mono fun r H' nx' hh => by
    obtain ⟨rfl, rfl, rfl⟩ := hh
    exact ⟨rfl, rfl, hput_eq _ _ _, fun o ho => hput_ne _ _ _ _ ho⟩
theorem toI_someG (l : List Int) (H : Hp) (nx : Nat) : ∃ (r : AV) (H' : Hp) (nx' : Nat), r = .ms nx 0 l.length 1 ∧ nx' = nx + 1 ∧ H' nx = some (ints l) ∧ ∀ o, o ≠ nx → H' o = H o :=
  ⟨_, hput H nx (some (ints l)), _, rfl, rfl, hput_eq _ _ _, fun o ho => hput_ne _ _ _ _ ho⟩

set_option maxHeartbeats 1000000 in
theorem toU_ok (L : HLaw P ν) (h : Has P ν 118 1 V_laws_toFunctor) (f : Fu) (b : SmallU f) (H : Hp) (nx : Nat) : OkM P ν 118 [.agg f.cells] H nx (IsMkU f H nx) := by
  refine h _ _ _ _ rfl fun hwf => ?_
  unfold V_laws_toFunctor
  have bo := b.ob
  have ba := b.ar
  try simp (disch := (first | rfl | with_reducible assumption | with_reducible solve_by_elim (maxDepth := 8) [Shape.inT, Shape.inI, Shape.inC, Shape.inK, Shape.obF, Shape.obT, Shape.arI, Arr.inF] | omega)) only [S2, Nat.reduceEqDiff, Nat.reduceAdd, iput, puts, SU f]
  refine den_newG fun H1 z1 e1 => den_newG fun H2 z2 e2 => ?_
  have z1 := (e2 nx (by omega)).trans z1
  try simp (disch := (first | rfl | with_reducible assumption | with_reducible solve_by_elim (maxDepth := 8) [Shape.inT, Shape.inI, Shape.inC, Shape.inK, Shape.obF, Shape.obT, Shape.arI, Arr.inF] | omega)) only [S2, Nat.reduceEqDiff, Nat.reduceAdd, iput, puts, SU f]
  refine den_callm (fc := (5, [])) rfl (toCat_okG L f.s b.s _ _) (toCat_someG _ _ _) fun u H3 n3 hu => ?_
  obtain ⟨a, rfl, ha, rfl, cA, e3⟩ := hu
  have z2 := (e3 (nx + 1) (by omega)).trans z2
  try simp (disch := (first | rfl | with_reducible assumption | with_reducible solve_by_elim (maxDepth := 8) [Shape.inT, Shape.inI, Shape.inC, Shape.inK, Shape.obF, Shape.obT, Shape.arI, Arr.inF] | omega)) only [S2, Nat.reduceEqDiff, Nat.reduceAdd, iput, puts, p_fadm (l := 12) z2 rfl]
  refine den_stG (p := 0) (k := 5) (m := 12) (c' := [int f.s.o, .ms a 0 f.s.f.length 1, .ms (a + 1) 0 f.s.t.length 1, .ms (a + 2) 0 f.s.i.length 1, .ms (a + 3) 0 f.s.c.length 1, int 0, .nil, .nil, .nil, .nil, .nil, .nil]) (by rfl) (by rfl) z2 (by rfl) (by rfl) (show 0 + 5 ≤ 12 by omega) (by rfl) (by rfl) fun H4 z4 e4 => ?_
  try simp (disch := (first | rfl | with_reducible assumption | with_reducible solve_by_elim (maxDepth := 8) [Shape.inT, Shape.inI, Shape.inC, Shape.inK, Shape.obF, Shape.obT, Shape.arI, Arr.inF] | omega)) only [S2, Nat.reduceEqDiff, Nat.reduceAdd, iput, puts, SU f]
  refine den_callm (fc := (5, [])) rfl (toCat_okG L f.t b.t _ _) (toCat_someG _ _ _) fun u H5 n5 hu => ?_
  obtain ⟨a2, rfl, ha2, rfl, cB, e5⟩ := hu
  have z4 := (e5 (nx + 1) (by omega)).trans z4
  try simp (disch := (first | rfl | with_reducible assumption | with_reducible solve_by_elim (maxDepth := 8) [Shape.inT, Shape.inI, Shape.inC, Shape.inK, Shape.obF, Shape.obT, Shape.arI, Arr.inF] | omega)) only [S2, Nat.reduceEqDiff, Nat.reduceAdd, iput, puts, p_fadm (l := 12) z4 rfl]
  refine den_stG (p := 5) (k := 5) (m := 12) (c' := [int f.s.o, .ms a 0 f.s.f.length 1, .ms (a + 1) 0 f.s.t.length 1, .ms (a + 2) 0 f.s.i.length 1, .ms (a + 3) 0 f.s.c.length 1, int f.t.o, .ms a2 0 f.t.f.length 1, .ms (a2 + 1) 0 f.t.t.length 1, .ms (a2 + 2) 0 f.t.i.length 1, .ms (a2 + 3) 0 f.t.c.length 1, .nil, .nil]) (by rfl) (by rfl) z4 (by rfl) (by rfl) (show 5 + 5 ≤ 12 by omega) (by rfl) (by rfl) fun H6 z6 e6 => ?_
  try simp (disch := (first | rfl | with_reducible assumption | with_reducible solve_by_elim (maxDepth := 8) [Shape.inT, Shape.inI, Shape.inC, Shape.inK, Shape.obF, Shape.obT, Shape.arI, Arr.inF] | omega)) only [S2, Nat.reduceEqDiff, Nat.reduceAdd, iput, puts, SU f]
  refine den_callm (fc := (16, [])) rfl (toI_okG L f.ob bo _ _) (toI_someG _ _ _) fun u H7 n7 hu => ?_
  obtain ⟨rfl, rfl, oA, e7⟩ := hu
  have z6 := (e7 (nx + 1) (by omega)).trans z6
  try simp (disch := (first | rfl | with_reducible assumption | with_reducible solve_by_elim (maxDepth := 8) [Shape.inT, Shape.inI, Shape.inC, Shape.inK, Shape.obF, Shape.obT, Shape.arI, Arr.inF] | omega)) only [S2, Nat.reduceEqDiff, Nat.reduceAdd, iput, puts, p_fadm (l := 12) z6 rfl]
  refine den_stG (p := 10) (k := 1) (m := 12) (c' := [int f.s.o, .ms a 0 f.s.f.length 1, .ms (a + 1) 0 f.s.t.length 1, .ms (a + 2) 0 f.s.i.length 1, .ms (a + 3) 0 f.s.c.length 1, int f.t.o, .ms a2 0 f.t.f.length 1, .ms (a2 + 1) 0 f.t.t.length 1, .ms (a2 + 2) 0 f.t.i.length 1, .ms (a2 + 3) 0 f.t.c.length 1, .ms (a2 + 4 + f.t.c.length) 0 f.ob.length 1, .nil]) (by rfl) (by rfl) z6 (by rfl) (by rfl) (show 10 + 1 ≤ 12 by omega) (by rfl) (by rfl) fun H8 z8 e8 => ?_
  try simp (disch := (first | rfl | with_reducible assumption | with_reducible solve_by_elim (maxDepth := 8) [Shape.inT, Shape.inI, Shape.inC, Shape.inK, Shape.obF, Shape.obT, Shape.arI, Arr.inF] | omega)) only [S2, Nat.reduceEqDiff, Nat.reduceAdd, iput, puts, SU f]
  refine den_callm (fc := (16, [])) rfl (toI_okG L f.ar ba _ _) (toI_someG _ _ _) fun u H9 n9 hu => ?_
  obtain ⟨rfl, rfl, pA, e9⟩ := hu
  have z8 := (e9 (nx + 1) (by omega)).trans z8
  try simp (disch := (first | rfl | with_reducible assumption | with_reducible solve_by_elim (maxDepth := 8) [Shape.inT, Shape.inI, Shape.inC, Shape.inK, Shape.obF, Shape.obT, Shape.arI, Arr.inF] | omega)) only [S2, Nat.reduceEqDiff, Nat.reduceAdd, iput, puts, p_fadm (l := 12) z8 rfl]
  refine den_stG (p := 11) (k := 1) (m := 12) (c' := fuM f a a2 (a2 + 4 + f.t.c.length) (a2 + 4 + f.t.c.length + 1)) (by rfl) (by rfl) z8 (by rfl) (by rfl) (show 11 + 1 ≤ 12 by omega) (by rfl) (by rfl) fun H10 z10 e10 => ?_
  try simp (disch := (first | rfl | with_reducible assumption | with_reducible solve_by_elim (maxDepth := 8) [Shape.inT, Shape.inI, Shape.inC, Shape.inK, Shape.obF, Shape.obT, Shape.arI, Arr.inF] | omega)) only [S2, Nat.reduceEqDiff, Nat.reduceAdd, iput, puts, p_ldsm (l := 12) z10 rfl]
  have k1 : H10 nx = H2 nx := by rw [e10 _ (by omega), e9 _ (by omega), e8 _ (by omega), e7 _ (by omega), e6 _ (by omega), e5 _ (by omega), e4 _ (by omega), e3 _ (by omega)]
  refine den_stG (p := 0) (k := 12) (m := 12) (o := nx) (c' := fuM f a a2 (a2 + 4 + f.t.c.length) (a2 + 4 + f.t.c.length + 1)) (by rfl) (by rfl) (k1.trans z1) (by rfl) (by rfl) (show 0 + 12 ≤ 12 by omega) (by rfl) (by rfl) fun H11 z11 e11 => ?_
  refine ⟨.agg (fuM f a a2 (a2 + 4 + f.t.c.length) (a2 + 4 + f.t.c.length + 1)), ?_, H11, fun _ _ h => h, a, a2, _, _, rfl, ⟨by omega, by omega, by omega, by omega, by omega⟩, ⟨?_, ?_, ?_, ?_⟩, fun o ho => ?_⟩
  · simp only [retOf, rets, SS, Nat.reduceEqDiff, Nat.reduceAdd, iput, puts, pLd, z11]
    rfl
  · exact cA.mono fun o h1 h2 => by rw [e11 _ (by omega), e10 _ (by omega), e9 _ (by omega), e8 _ (by omega), e7 _ (by omega), e6 _ (by omega), e5 _ (by omega), e4 _ (by omega)]
  · exact cB.mono fun o h1 h2 => by rw [e11 _ (by omega), e10 _ (by omega), e9 _ (by omega), e8 _ (by omega), e7 _ (by omega), e6 _ (by omega)]
  · rw [e11 _ (by omega), e10 _ (by omega), e9 _ (by omega), e8 _ (by omega)]; exact oA
  · rw [e11 _ (by omega), e10 _ (by omega)]; exact pA
  · rw [e11 _ (by omega), e10 _ (by omega), e9 _ (by omega), e8 _ (by omega), e7 _ (by omega), e6 _ (by omega), e5 _ (by omega), e4 _ (by omega), e3 _ (by omega), e2 _ (by omega), e1 _ (by omega)]
theorem toU_fz (L : HLaw P ν) (h : Has P ν 118 1 V_laws_toFunctor) (f : Fu) (b : SmallU f) : Fz (OkM P ν) 118 [.agg f.cells] (.agg f.cells) :=
  OkM.fz (fun H nx => toU_ok L h f b H nx) fun r H' nx' hh => by
    obtain ⟨a, b, p, q, rfl, _, h, _⟩ := hh
    exact h.frzN
end Go.Av
