/-
  Set functors among a statement's arguments: sizes, copies, comparisons.
-/
import Derived.Test.YtomlmcfcjlfhjaaBvC1
import Derived.Test.YtomlmcfcjlfhjaaBvL0
import Derived.Test.YtomlmcfcjlfhjaaBvO1
namespace Go.Av
set_option linter.unusedSectionVars false
set_option linter.unusedSimpArgs false
set_option linter.unusedVariables false
variable [md : Md]
open Classical
set_option linter.unusedSimpArgs false
set_option linter.unusedVariables false
variable {P : Program} {ν : Nat → FuncId}

structure ReadF (f : SF) : Prop where
  c : Read f.c
  z : f.z.length ≤ 9223372036854775807
  a : f.a.length ≤ 9223372036854775807
  row : ∀ k, k < f.a.length → (f.a.getD k []).length ≤ 9223372036854775807
def sfTy : Ty := .pair catTy (.pair (.sl .int) (.pair (.sl (.sl .int)) .unit))
theorem ShpV.sf {x : AV} (h : ShpV sfTy x) : ∃ f : SF, x = .agg f.cells ∧ ReadF f := by
  cases h with
  | agg h =>
    cases h with | pair h1 h =>
    cases h with | pair h2 h =>
    cases h with | pair h3 h =>
    cases h
    obtain ⟨c, rfl, rc, _⟩ := Shp.cat h1
    obtain ⟨z, rfl, z1, _⟩ := h2.ints
    obtain ⟨a, rfl, a1, a2⟩ := h3.intRows
    exact ⟨⟨c, z, a⟩, rfl, rc, z1, a1, a2⟩
  | one h => have := h.len; simp [sfTy, catTy, Ty.size] at this

def szF (f : SF) (left : Int) : Int := if szCat f.c left < 0 then -1 else if szS f.z (szCat f.c left) < 0 then -1 else if szSS f.a (szS f.z (szCat f.c left)) < 0 then -1 else szSS f.a (szS f.z (szCat f.c left))
theorem szF_small {f : SF} (h : 0 ≤ szF f 1048576) : SmallF f := by
  unfold szF at h
  split at h
  · omega
  split at h
  · omega
  split at h
  · omega
  rename_i a1 a2 a3
  have l1 := szCat_le (c := f.c) (left := 1048576) (by omega) (by omega)
  have b1 := szS_pos (l := f.z) (left := szCat f.c 1048576) (by omega)
  have b2 := szSS_pos (m := f.a) (left := szS f.z (szCat f.c 1048576)) (by omega) (by omega)
  exact ⟨szCat_small (left := 1048576) (by omega) (by omega) (by omega), by omega, by omega, fun k hk => by have := b2.2.2 k hk; omega⟩

def V_laws_szSetFunctor : Vc :=
  .op true (.p .box [.t 0]) <|
  .op true (.p (.fad 0) [.t 2]) <|
  .op true (.p (.ld (some 5)) [.t 3]) <|
  .op true (.call (.f 3) [.t 4, .t 1]) <|
  .op true (.p (.bin .lss) [.t 5, .c (int 0)]) <|
  .br 6
   (.ret [(.c (int (-1)), none)])
   (.op true (.p (.fad 5) [.t 2]) <|
   .op true (.p (.ld none) [.t 7]) <|
   .op true (.call (.f 12) [.t 8, .t 5]) <|
   .op true (.p (.bin .lss) [.t 9, .c (int 0)]) <|
   .br 10
    (.ret [(.c (int (-1)), none)])
    (.op true (.p (.fad 6) [.t 2]) <|
    .op true (.p (.ld none) [.t 11]) <|
    .op true (.call (.f 13) [.t 12, .t 9]) <|
    .op true (.p (.bin .lss) [.t 13, .c (int 0)]) <|
    .br 14
     (.ret [(.c (int (-1)), none)])
     (.ret [(.t 13, none)])))
def V_laws_toSetFunctor : Vc :=
  .op true (.p .box [.t 0]) <|
  .op true (.new [int 0, .nil, .nil, .nil, .nil, .nil, .nil]) <|
  .op true (.new [int 0, .nil, .nil, .nil, .nil, .nil, .nil]) <|
  .op true (.p (.fad 0) [.t 1]) <|
  .op true (.p (.ld (some 5)) [.t 4]) <|
  .op true (.callm (.f 5) [.t 5]) <|
  .op true (.p (.fad 0) [.t 3]) <|
  .op true (.st 5 (.t 7) (.t 6)) <|
  .op true (.p (.fad 5) [.t 1]) <|
  .op true (.p (.ld none) [.t 9]) <|
  .op true (.callm (.f 16) [.t 10]) <|
  .op true (.p (.fad 5) [.t 3]) <|
  .op true (.st 1 (.t 12) (.t 11)) <|
  .op true (.p (.fad 6) [.t 1]) <|
  .op true (.p (.ld none) [.t 14]) <|
  .op true (.callm (.f 17) [.t 15]) <|
  .op true (.p (.fad 6) [.t 3]) <|
  .op true (.st 1 (.t 17) (.t 16)) <|
  .op true (.p (.ld (some 7)) [.t 3]) <|
  .op true (.st 7 (.t 2) (.t 19)) <|
  .ret [(.t 2, some (some 7))]
def V_laws_eqSetFunctor : Vc :=
  .op true (.p .box [.t 0]) <|
  .op true (.p .box [.t 1]) <|
  .op true (.p (.fad 0) [.t 2]) <|
  .op true (.p (.ld (some 5)) [.t 4]) <|
  .op true (.p (.fad 0) [.t 3]) <|
  .op true (.p (.ld (some 5)) [.t 6]) <|
  .op true (.call (.f 8) [.t 5, .t 7]) <|
  .op true (.p .bnot [.t 8]) <|
  .br 9
   (.ret [(.c (bool false), none)])
   (.op true (.p (.fad 5) [.t 2]) <|
   .op true (.p (.ld none) [.t 10]) <|
   .op true (.p (.fad 5) [.t 3]) <|
   .op true (.p (.ld none) [.t 12]) <|
   .op true (.call (.f 7) [.t 11, .t 13]) <|
   .op true (.p .bnot [.t 14]) <|
   .br 15
    (.ret [(.c (bool false), none)])
    (.op true (.p (.fad 6) [.t 2]) <|
    .op true (.p (.ld none) [.t 16]) <|
    .op true (.p (.fad 6) [.t 3]) <|
    .op true (.p (.ld none) [.t 18]) <|
    .op true (.call (.f 20) [.t 17, .t 19]) <|
    .op true (.p .bnot [.t 20]) <|
    .br 21
     (.ret [(.c (bool false), none)])
     (.ret [(.c (bool true), none)])))
structure HLawF (P : Program) (ν : Nat → FuncId) : Prop where
  sz : Has P ν 140 2 V_laws_szSetFunctor
  to : Has P ν 142 1 V_laws_toSetFunctor
  eq : Has P ν 144 2 V_laws_eqSetFunctor

theorem szF_fz (L : HLaw P ν) (h : Has P ν 140 2 V_laws_szSetFunctor) (f : SF) (rd : ReadF f) : Fz (OkM P ν) 140 [.agg f.cells, int 1048576] (int (szF f 1048576)) := by
  refine Fn.fzi fun H nx => h _ _ _ _ rfl fun hwf => ?_
  unfold V_laws_szSetFunctor
  simp only [SS, Nat.reduceEqDiff, Nat.reduceAdd, iput, puts, p_boxs, p_lds5]
  refine den_call (fc := (3, [])) rfl (by first | (simp only [SS, Nat.reduceEqDiff, Nat.reduceAdd, iput, puts, FF, frzL_cat]; done) | (simp only [SS, Nat.reduceEqDiff, Nat.reduceAdd, iput, puts, FF, frzL_cat]; rfl)) ((szCat_ok L.szI L.szII L.szC f.c rd.c 1048576 (by omega) (by omega)).fzi) ?_
  simp only [SS, Nat.reduceEqDiff, Nat.reduceAdd, iput, puts, sf5]
  refine ⟨fun h1 => ?_, fun h1 => ?_⟩
  · exact ⟨_, rfl, H, fun _ _ h => h, by unfold szF; rw [if_pos h1]; rfl, rfl, Nat.le_refl _⟩
  have l1 := szCat_le (c := f.c) (left := 1048576) (by omega) (by omega)
  refine den_call (fc := (12, [])) rfl (by first | (simp only [SS, Nat.reduceEqDiff, Nat.reduceAdd, iput, puts, FF, frzL_cat]; done) | (simp only [SS, Nat.reduceEqDiff, Nat.reduceAdd, iput, puts, FF, frzL_cat]; rfl)) ((szI_ok L.szI f.z (szCat f.c 1048576) (by omega) (by omega) rd.z).fzi) ?_
  simp only [SS, Nat.reduceEqDiff, Nat.reduceAdd, iput, puts, sf6]
  refine ⟨fun h2 => ?_, fun h2 => ?_⟩
  · exact ⟨_, rfl, H, fun _ _ h => h, by unfold szF; rw [if_neg h1, if_pos h2]; rfl, rfl, Nat.le_refl _⟩
  have l2 := szS_pos (l := f.z) (left := szCat f.c 1048576) (by omega)
  refine den_call (fc := (13, [])) rfl (by first | (simp only [SS, Nat.reduceEqDiff, Nat.reduceAdd, iput, puts, FF, frzL_cat]; done) | (simp only [SS, Nat.reduceEqDiff, Nat.reduceAdd, iput, puts, FF, frzL_cat]; rfl)) ((szII_ok L.szI L.szII f.a (szS f.z (szCat f.c 1048576)) (by omega) (by omega) rd.a rd.row).fzi) ?_
  simp only [SS, Nat.reduceEqDiff, Nat.reduceAdd, iput, puts]
  refine ⟨fun h3 => ?_, fun h3 => ?_⟩
  · exact ⟨_, rfl, H, fun _ _ h => h, by unfold szF; rw [if_neg h1, if_neg h2, if_pos h3]; rfl, rfl, Nat.le_refl _⟩
  · exact ⟨_, rfl, H, fun _ _ h => h, by unfold szF; rw [if_neg h1, if_neg h2, if_neg h3]; rfl, rfl, Nat.le_refl _⟩

theorem eqF_same (L : HLaw P ν) (h : Has P ν 144 2 V_laws_eqSetFunctor) (f : SF) (b : SmallF f) : Fz (OkM P ν) 144 [.agg f.cells, .agg f.cells] (bool true) := by
  refine Fn.fzb fun H nx => h _ _ _ _ rfl fun hwf => ?_
  unfold V_laws_eqSetFunctor
  have bz := b.z
  have ba := b.a
  simp only [SS, Nat.reduceEqDiff, Nat.reduceAdd, iput, puts, p_boxs, p_lds5]
  refine den_call (fc := (8, [])) rfl (by first | (simp only [SS, Nat.reduceEqDiff, Nat.reduceAdd, iput, puts, FF, frzL_cat]; done) | (simp only [SS, Nat.reduceEqDiff, Nat.reduceAdd, iput, puts, FF, frzL_cat]; rfl)) (eqCat_same L f.c b.c) ?_
  simp only [SS, Nat.reduceEqDiff, Nat.reduceAdd, iput, puts, sf5]
  refine den_call (fc := (7, [])) rfl (by first | (simp only [SS, Nat.reduceEqDiff, Nat.reduceAdd, iput, puts, FF, frzL_cat]; done) | (simp only [SS, Nat.reduceEqDiff, Nat.reduceAdd, iput, puts, FF, frzL_cat]; rfl)) (eqI_same L.eqI f.z (by omega)) ?_
  simp only [SS, Nat.reduceEqDiff, Nat.reduceAdd, iput, puts, sf6]
  have := (eqII_ok L.eqI L.eqII f.a f.a (by omega) (fun k hk => by have := b.row k hk; omega)).fzb
  rw [decide_eq_true rfl] at this
  refine den_call (fc := (20, [])) rfl (by first | (simp only [SS, Nat.reduceEqDiff, Nat.reduceAdd, iput, puts, FF, frzL_cat]; done) | (simp only [SS, Nat.reduceEqDiff, Nat.reduceAdd, iput, puts, FF, frzL_cat]; rfl)) (this) ?_
  simp only [SS, Nat.reduceEqDiff, Nat.reduceAdd, iput, puts]
  exact ⟨_, rfl, H, fun _ _ h => h, rfl, rfl, Nat.le_refl _⟩
end Go.Av
