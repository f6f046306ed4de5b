/-
  Set functors: their shape and their faults, the program's and the reference's.
-/
import Derived.Test.YtomlmcfcjlfhjaaBvB6
import Derived.Test.YtomlmcfcjlfhjaaBvAA
import Derived.Test.YtomlmcfcjlfhjaaBvZ
namespace Go.Av
set_option linter.unusedSectionVars false
set_option linter.unusedSimpArgs false
set_option linter.unusedVariables false
variable [md : Md]
open Classical
set_option linter.unusedSimpArgs false
set_option linter.unusedVariables false
variable {P : Program} {ν : Nat → FuncId}

structure SF where
  c : Cat
  z : List Int
  a : List (List Int)
def SF.cells (f : SF) : List AV := [int f.c.o, islice f.c.f, islice f.c.t, islice f.c.i, .sl (rows f.c.c) f.c.c.length, islice f.z, .sl (rows f.a) f.a.length]
theorem sf0 (f : SF) : f.cells[0]? = some (int f.c.o) := rfl
theorem sf1 (f : SF) : f.cells[1]? = some (islice f.c.f) := rfl
theorem sf2 (f : SF) : f.cells[2]? = some (islice f.c.t) := rfl
theorem sf3 (f : SF) : f.cells[3]? = some (islice f.c.i) := rfl
theorem sf4 (f : SF) : f.cells[4]? = some (.sl (rows f.c.c) f.c.c.length) := rfl
theorem sf5 (f : SF) : f.cells[5]? = some (islice f.z) := rfl
theorem sf6 (f : SF) : f.cells[6]? = some (.sl (rows f.a) f.a.length) := rfl
theorem p_boxs {H : Hp} (f : SF) : pvf H .box [.agg f.cells] = some (.ptr f.cells 0) := rfl
theorem p_lds7 {H : Hp} (f : SF) : pvf H (.ld (some 7)) [.ptr f.cells 0] = some (.agg f.cells) := rfl
theorem p_lds5 {H : Hp} (f : SF) : pvf H (.ld (some 5)) [.ptr f.cells 0] = some (.agg f.c.cells) := rfl
theorem frzL_sf {H : Hp} {l : List AV} (f : SF) : frzL H (.agg f.cells :: l) = (frzL H l).map (.agg f.cells :: ·) := frzL_agg rfl

def SF.A (f : SF) (k : Int) : List Int := f.a.getD k.toNat []
def SF.Z (f : SF) (x : Int) : Int := f.z.getD x.toNat 0
def MapOf (l : List Int) (m n : Int) : Prop := (l.length : Int) = m ∧ Wn l n
structure SmallF (f : SF) : Prop where
  c : Small2 f.c
  z : f.z.length ≤ 1048576
  a : f.a.length ≤ 1048576
  row : ∀ k, k < f.a.length → (f.a.getD k []).length ≤ 1048576
/-- The shape of a set functor. -/
structure SShape (f : SF) : Prop where
  cat : IsCat f.c
  zl : (f.z.length : Int) = f.c.o
  zw : Wn f.z 17
  al : f.a.length = f.c.f.length
  map : ∀ k : Nat, k < f.a.length → MapOf (f.a.getD k []) (f.z.getD (f.c.f.getD k 0).toNat 0) (f.z.getD (f.c.t.getD k 0).toNat 0)

def V_isMapOf : Vc :=
  .op true (.p .len [.t 0]) <|
  .op true (.p (.bin .eql) [.t 3, .t 1]) <|
  .br 4
   (.op true (.call (.f 25) [.t 0, .t 2]) <|
   .ret [(.t 5, none)])
   (.ret [(.c (bool false), none)])
theorem isMapOf_fz (hi : Has P ν 32 3 V_inRange) (hw : Has P ν 25 2 V_within) (h : Has P ν 391 3 V_isMapOf) (l : List Int) (m n : Int) (hl : l.length ≤ 1048576) (h1 : 0 ≤ n) (h2 : n ≤ 17) : Fz (OkM P ν) 391 [islice l, int m, int n] (bool (decide (MapOf l m n))) := by
  refine Fn.fzb fun H nx => h _ _ _ _ rfl fun hwf => ?_
  unfold V_isMapOf
  simp only [SS, Nat.reduceEqDiff, Nat.reduceAdd, iput, puts]
  refine ⟨fun h3 => ?_, fun h3 => ?_⟩
  · refine den_call (fc := (25, [])) rfl (by first | (simp only [SS, Nat.reduceEqDiff, Nat.reduceAdd, iput, puts, FF, frzL_cat]; done) | (simp only [SS, Nat.reduceEqDiff, Nat.reduceAdd, iput, puts, FF, frzL_cat]; rfl)) ((within_ok hi hw l n (by omega) (by omega) (by omega)).fzb) ?_
    refine ⟨_, rfl, H, fun _ _ h => h, ?_, rfl, Nat.le_refl _⟩
    simp only [SS, Nat.reduceEqDiff, Nat.reduceAdd, iput, puts, MapOf, h3]
  · exact ⟨_, rfl, H, fun _ _ h => h, ret_false (fun hM => h3 hM.1), rfl, Nat.le_refl _⟩

def V_SetFunctor_isShape : Vc :=
  .op true (.p .nck [.t 0]) <|
  .op true (.p (.fad 0) [.t 1]) <|
  .op true (.call (.f 24) [.t 2]) <|
  .op true (.p .bnot [.t 3]) <|
  .br 4
   (.ret [(.c (bool false), none)])
   (.op true (.p .nck [.t 0]) <|
   .op true (.p (.fad 5) [.t 5]) <|
   .op true (.p (.ld none) [.t 6]) <|
   .op true (.p .len [.t 7]) <|
   .op true (.p .nck [.t 2]) <|
   .op true (.p (.fad 0) [.t 9]) <|
   .op true (.p (.ld none) [.t 10]) <|
   .op true (.p (.bin .neq) [.t 8, .t 11]) <|
   .br 12
    (.ret [(.c (bool false), none)])
    (.op true (.p .nck [.t 0]) <|
    .op true (.p (.fad 5) [.t 13]) <|
    .op true (.p (.ld none) [.t 14]) <|
    .op true (.call (.f 25) [.t 15, .c (int 17)]) <|
    .op true (.p .bnot [.t 16]) <|
    .br 17
     (.ret [(.c (bool false), none)])
     (.op true (.p .nck [.t 0]) <|
     .op true (.p (.fad 6) [.t 18]) <|
     .op true (.p (.ld none) [.t 19]) <|
     .op true (.p .len [.t 20]) <|
     .op true (.call (.f 26) [.t 2]) <|
     .op true (.p (.bin .neq) [.t 21, .t 22]) <|
     .br 23
      (.ret [(.c (bool false), none)])
      (.op true (.p .nck [.t 0]) <|
      .op true (.p (.fad 6) [.t 24]) <|
      .op true (.p (.ld none) [.t 25]) <|
      .op true (.p .len [.t 26]) <|
      .loop 0 [.c (int 0)] <|
      .op true (.p (.bin .lss) [.t 28, .t 27]) <|
      .br 29
       (.op true (.p (.iad 1) [.t 26, .t 28]) <|
       .op true (.p (.ld none) [.t 30]) <|
       .op true (.p .nck [.t 0]) <|
       .op true (.p (.fad 5) [.t 32]) <|
       .op true (.p (.ld none) [.t 33]) <|
       .op true (.p .nck [.t 2]) <|
       .op true (.p (.fad 1) [.t 35]) <|
       .op true (.p (.ld none) [.t 36]) <|
       .op true (.p (.iad 1) [.t 37, .t 28]) <|
       .op true (.p (.ld none) [.t 38]) <|
       .op true (.p (.iad 1) [.t 34, .t 39]) <|
       .op true (.p (.ld none) [.t 40]) <|
       .op true (.p .nck [.t 0]) <|
       .op true (.p (.fad 5) [.t 42]) <|
       .op true (.p (.ld none) [.t 43]) <|
       .op true (.p .nck [.t 2]) <|
       .op true (.p (.fad 2) [.t 45]) <|
       .op true (.p (.ld none) [.t 46]) <|
       .op true (.p (.iad 1) [.t 47, .t 28]) <|
       .op true (.p (.ld none) [.t 48]) <|
       .op true (.p (.iad 1) [.t 44, .t 49]) <|
       .op true (.p (.ld none) [.t 50]) <|
       .op true (.call (.f 391) [.t 31, .t 41, .t 51]) <|
       .op true (.p .bnot [.t 52]) <|
       .br 53
        (.ret [(.c (bool false), none)])
        (.op true (.p (.bin .add) [.t 28, .c (int 1)]) <|
        .again 0 [.t 54]))
       (.ret [(.c (bool true), none)])))))
set_option maxHeartbeats 1000000 in
theorem sfIsShape_fz (K : HCat P ν) (hm : Has P ν 391 3 V_isMapOf) (h : Has P ν 280 1 V_SetFunctor_isShape) (f : SF) (b : SmallF f) : Fz (OkM P ν) 280 [.ptr f.cells 0] (bool (decide (SShape f))) := by
  refine Fn.fzb fun H nx => h _ _ _ _ rfl fun hwf => ?_
  unfold V_SetFunctor_isShape
  have b1 := b.c.f
  have b2 := b.z
  have b3 := b.a
  simp only [SS, Nat.reduceEqDiff, Nat.reduceAdd, iput, puts]
  refine den_call (fc := (24, [])) (ys := [.ptr f.cells 0]) rfl (by simp only [SS, Nat.reduceEqDiff, Nat.reduceAdd, iput, puts, FF, frzL_cat]) (Fz.win (n := 5) ((isCategory_ok K f.c b.c.toSmall).fzb)) ?_
  simp only [SS, Nat.reduceEqDiff, Nat.reduceAdd, iput, puts, sf0, sf5]
  refine ⟨fun h1 => ?_, fun h1 => ⟨fun h2 => ?_, fun h2 => ?_⟩⟩
  · exact ⟨_, rfl, H, fun _ _ h => h, ret_false (fun s => h1 s.cat), rfl, Nat.le_refl _⟩
  · exact ⟨_, rfl, H, fun _ _ h => h, ret_false (fun s => h2 s.zl), rfl, Nat.le_refl _⟩
  refine den_call (fc := (25, [])) rfl (by first | (simp only [SS, Nat.reduceEqDiff, Nat.reduceAdd, iput, puts, FF, frzL_cat]; done) | (simp only [SS, Nat.reduceEqDiff, Nat.reduceAdd, iput, puts, FF, frzL_cat]; rfl)) ((within_ok K.inRange K.within f.z 17 (by omega) (by omega) (by omega)).fzb) ?_
  simp only [SS, Nat.reduceEqDiff, Nat.reduceAdd, iput, puts, sf6]
  refine ⟨fun h3 => ?_, fun h3 => ?_⟩
  · exact ⟨_, rfl, H, fun _ _ h => h, ret_false (fun s => h3 s.zw), rfl, Nat.le_refl _⟩
  refine den_call (fc := (26, [])) (ys := [.ptr f.cells 0]) rfl (by simp only [SS, Nat.reduceEqDiff, Nat.reduceAdd, iput, puts, FF, frzL_cat]) (Fz.win (n := 5) ((arrows_ok K.arrows f.c).fzi)) ?_
  simp only [SS, Nat.reduceEqDiff, Nat.reduceAdd, iput, puts, sf6]
  refine ⟨fun h4 => ?_, fun h4 => ?_⟩
  · exact ⟨_, rfl, H, fun _ _ h => h, ret_false (fun s => h4 (by rw [s.al])), rfl, Nat.le_refl _⟩
  have s := h1.1
  have tl := s.tl
  have il := s.il
  have h4' : f.a.length = f.c.f.length := by omega
  refine den_for f.a.length (fun i => ∀ k : Nat, k < i → MapOf (f.a.getD k []) (f.z.getD (f.c.f.getD k 0).toNat 0) (f.z.getD (f.c.t.getD k 0).toNat 0)) (fun k hk => by omega) fun i hi pi => ?_
  by_cases hlt : i < f.a.length
  · have i1 : i < f.c.f.length := by omega
    have a := s.fLt i1
    have t := s.tLt i1
    simp only [Cat.F, Cat.T, Int.toNat_natCast] at a t
    obtain ⟨a0, a1⟩ := a
    obtain ⟨t0, t1⟩ := t
    have a2 : (f.c.f.getD i 0).toNat < f.z.length := by omega
    have a3 : f.c.f.getD i 0 < (f.z.length : Int) := by omega
    have t2 : (f.c.t.getD i 0).toNat < f.z.length := by omega
    have t3 : f.c.t.getD i 0 < (f.z.length : Int) := by omega
    have zt := h3 _ t2
    simp only [SS, Nat.reduceEqDiff, Nat.reduceAdd, iput, puts, hlt, sf1, sf2, sf5, tl, i1, a0, a2, a3, t0, t2, t3]
    refine den_call (fc := (391, [])) rfl (by first | (simp only [SS, Nat.reduceEqDiff, Nat.reduceAdd, iput, puts, FF, frzL_cat]; done) | (simp only [SS, Nat.reduceEqDiff, Nat.reduceAdd, iput, puts, FF, frzL_cat]; rfl)) (isMapOf_fz K.inRange K.within hm (f.a.getD i []) (f.z.getD (f.c.f.getD i 0).toNat 0) (f.z.getD (f.c.t.getD i 0).toNat 0) (b.row i hlt) zt.1 (by omega)) ?_
    simp only [SS, Nat.reduceEqDiff, Nat.reduceAdd, iput, puts, wrap_succ (show i < 9223372036854775807 by omega)]
    refine ⟨fun h5 => ?_, fun h5 => up rfl hlt (nextP pi h5)⟩
    exact ⟨_, rfl, H, fun _ _ h => h, ret_false (fun s => h5 (s.map i hlt)), rfl, Nat.le_refl _⟩
  · simp only [SS, Nat.reduceEqDiff, Nat.reduceAdd, iput, puts, hlt]
    exact ⟨_, rfl, H, fun _ _ h => h, ret_true (⟨h1, h2, h3, h4', fun k hk => pi k (by omega)⟩), rfl, Nat.le_refl _⟩

def V_spec_l19Shape : Vc :=
  .op true (.p .box [.t 0]) <|
  .op true (.p (.fad 0) [.t 1]) <|
  .op true (.p (.ld (some 5)) [.t 2]) <|
  .op true (.call (.f 22) [.t 3]) <|
  .op true (.p .bnot [.t 4]) <|
  .br 5
   (.ret [(.c (bool false), none)])
   (.op true (.p (.fad 5) [.t 1]) <|
   .op true (.p (.ld none) [.t 6]) <|
   .op true (.p .len [.t 7]) <|
   .op true (.p (.fad 0) [.t 1]) <|
   .op true (.p (.fad 0) [.t 9]) <|
   .op true (.p (.ld none) [.t 10]) <|
   .op true (.p (.bin .neq) [.t 8, .t 11]) <|
   .br 12
    (.ret [(.c (bool false), none)])
    (.op true (.p (.fad 6) [.t 1]) <|
    .op true (.p (.ld none) [.t 13]) <|
    .op true (.p .len [.t 14]) <|
    .op true (.p (.fad 0) [.t 1]) <|
    .op true (.p (.fad 1) [.t 16]) <|
    .op true (.p (.ld none) [.t 17]) <|
    .op true (.p .len [.t 18]) <|
    .op true (.p (.bin .neq) [.t 15, .t 19]) <|
    .br 20
     (.ret [(.c (bool false), none)])
     (.loop 0 [.c (int 0)] <|
     .op true (.p (.fad 5) [.t 1]) <|
     .op true (.p (.ld none) [.t 22]) <|
     .op true (.p .len [.t 23]) <|
     .op true (.p (.bin .lss) [.t 21, .t 24]) <|
     .br 25
      (.op true (.p (.fad 5) [.t 1]) <|
      .op true (.p (.ld none) [.t 26]) <|
      .op true (.p (.iad 1) [.t 27, .t 21]) <|
      .op true (.p (.ld none) [.t 28]) <|
      .op true (.call (.f 35) [.t 29, .c (int 0), .c (int 16)]) <|
      .op true (.p .bnot [.t 30]) <|
      .br 31
       (.ret [(.c (bool false), none)])
       (.op true (.p (.bin .add) [.t 21, .c (int 1)]) <|
       .again 0 [.t 32]))
      (.loop 0 [.c (int 0)] <|
      .op true (.p (.fad 6) [.t 1]) <|
      .op true (.p (.ld none) [.t 27]) <|
      .op true (.p .len [.t 28]) <|
      .op true (.p (.bin .lss) [.t 26, .t 29]) <|
      .br 30
       (.op true (.p (.fad 6) [.t 1]) <|
       .op true (.p (.ld none) [.t 31]) <|
       .op true (.p (.iad 1) [.t 32, .t 26]) <|
       .op true (.p (.ld none) [.t 33]) <|
       .op true (.p .len [.t 34]) <|
       .op true (.p (.fad 5) [.t 1]) <|
       .op true (.p (.ld none) [.t 36]) <|
       .op true (.p (.fad 0) [.t 1]) <|
       .op true (.p (.fad 1) [.t 38]) <|
       .op true (.p (.ld none) [.t 39]) <|
       .op true (.p (.iad 1) [.t 40, .t 26]) <|
       .op true (.p (.ld none) [.t 41]) <|
       .op true (.p (.iad 1) [.t 37, .t 42]) <|
       .op true (.p (.ld none) [.t 43]) <|
       .op true (.p (.bin .neq) [.t 35, .t 44]) <|
       .br 45
        (.ret [(.c (bool false), none)])
        (.op true (.p (.fad 5) [.t 1]) <|
        .op true (.p (.ld none) [.t 46]) <|
        .op true (.p (.fad 0) [.t 1]) <|
        .op true (.p (.fad 2) [.t 48]) <|
        .op true (.p (.ld none) [.t 49]) <|
        .op true (.p (.iad 1) [.t 50, .t 26]) <|
        .op true (.p (.ld none) [.t 51]) <|
        .op true (.p (.iad 1) [.t 47, .t 52]) <|
        .op true (.p (.ld none) [.t 53]) <|
        .op true (.p (.fad 6) [.t 1]) <|
        .op true (.p (.ld none) [.t 55]) <|
        .op true (.p (.iad 1) [.t 56, .t 26]) <|
        .op true (.p (.ld none) [.t 57]) <|
        .op true (.call (.f 37) [.t 54, .t 58]) <|
        .op true (.p .bnot [.t 59]) <|
        .br 60
         (.ret [(.c (bool false), none)])
         (.op true (.p (.bin .add) [.t 26, .c (int 1)]) <|
         .again 0 [.t 61])))
       (.ret [(.c (bool true), none)])))))
set_option maxHeartbeats 1000000 in
theorem l19Shape_fz (K : HSpec P ν) (h : Has P ν 278 1 V_spec_l19Shape) (f : SF) (b : SmallF f) : Fz (OkM P ν) 278 [.agg f.cells] (bool (decide (SShape f))) := by
  refine Fn.fzb fun H nx => h _ _ _ _ rfl fun hwf => ?_
  unfold V_spec_l19Shape
  have b1 := b.c.f
  have b2 := b.z
  have b3 := b.a
  simp only [SS, Nat.reduceEqDiff, Nat.reduceAdd, iput, puts, p_boxs, p_lds5]
  refine den_call (fc := (22, [])) rfl (by first | (simp only [SS, Nat.reduceEqDiff, Nat.reduceAdd, iput, puts, FF, frzL_cat]; done) | (simp only [SS, Nat.reduceEqDiff, Nat.reduceAdd, iput, puts, FF, frzL_cat]; rfl)) ((l02Is_ok K f.c b.c.toSmall).fzb) ?_
  simp only [SS, Nat.reduceEqDiff, Nat.reduceAdd, iput, puts, sf0, sf1, sf5, sf6]
  refine ⟨fun h1 => ?_, fun h1 => ⟨fun h2 => ?_, fun h2 => ⟨fun h4 => ?_, fun h4 => ?_⟩⟩⟩
  · exact ⟨_, rfl, H, fun _ _ h => h, ret_false (fun s => h1 s.cat), rfl, Nat.le_refl _⟩
  · exact ⟨_, rfl, H, fun _ _ h => h, ret_false (fun s => h2 s.zl), rfl, Nat.le_refl _⟩
  · exact ⟨_, rfl, H, fun _ _ h => h, ret_false (fun s => h4 (by rw [s.al])), rfl, Nat.le_refl _⟩
  have s := h1.1
  have tl := s.tl
  have il := s.il
  have h4' : f.a.length = f.c.f.length := by omega
  refine den_for f.z.length (fun i => ∀ k : Nat, k < i → 0 ≤ f.z.getD k 0 ∧ f.z.getD k 0 < 17) (fun k hk => by omega) fun i hi pi => ?_
  by_cases hlt : i < f.z.length
  · simp only [SS, Nat.reduceEqDiff, Nat.reduceAdd, iput, puts, sf5, hlt]
    refine den_call (fc := (35, [])) rfl (by first | (simp only [SS, Nat.reduceEqDiff, Nat.reduceAdd, iput, puts, FF, frzL_cat]; done) | (simp only [SS, Nat.reduceEqDiff, Nat.reduceAdd, iput, puts, FF, frzL_cat]; rfl)) ((l01In_ok K.l01In (f.z.getD i 0) 0 16).fzb) ?_
    simp only [SS, Nat.reduceEqDiff, Nat.reduceAdd, iput, puts, wrap_succ (show i < 9223372036854775807 by omega)]
    refine ⟨fun h5 => ?_, fun h5 => up rfl hlt (nextP pi ⟨h5.1, by omega⟩)⟩
    exact ⟨_, rfl, H, fun _ _ h => h, ret_false (fun s => h5 (by have := s.zw i hlt; omega)), rfl, Nat.le_refl _⟩
  · simp only [SS, Nat.reduceEqDiff, Nat.reduceAdd, iput, puts, sf5, hlt]
    have h3 : Wn f.z 17 := fun k hk => pi k (by omega)
    refine den_for f.a.length (fun i => ∀ k : Nat, k < i → MapOf (f.a.getD k []) (f.z.getD (f.c.f.getD k 0).toNat 0) (f.z.getD (f.c.t.getD k 0).toNat 0)) (fun k hk => by omega) fun j hj pj => ?_
    by_cases hlj : j < f.a.length
    · have i1 : j < f.c.f.length := by omega
      have a := s.fLt i1
      have t := s.tLt i1
      simp only [Cat.F, Cat.T, Int.toNat_natCast] at a t
      obtain ⟨a0, a1⟩ := a
      obtain ⟨t0, t1⟩ := t
      have a2 : (f.c.f.getD j 0).toNat < f.z.length := by omega
      have a3 : f.c.f.getD j 0 < (f.z.length : Int) := by omega
      have t2 : (f.c.t.getD j 0).toNat < f.z.length := by omega
      have t3 : f.c.t.getD j 0 < (f.z.length : Int) := by omega
      have br := b.row j hlj
      simp only [SS, Nat.reduceEqDiff, Nat.reduceAdd, iput, puts, hlj, sf1, sf2, sf5, sf6, tl, i1, a0, a2, a3, t0, t2, t3]
      refine ⟨fun h5 => ?_, fun h5 => ?_⟩
      · exact ⟨_, rfl, H, fun _ _ h => h, ret_false (fun s => h5 (s.map j hlj).1), rfl, Nat.le_refl _⟩
      refine den_call (fc := (37, [])) rfl (by first | (simp only [SS, Nat.reduceEqDiff, Nat.reduceAdd, iput, puts, FF, frzL_cat]; done) | (simp only [SS, Nat.reduceEqDiff, Nat.reduceAdd, iput, puts, FF, frzL_cat]; rfl)) ((l01Map_ok K.l01Map (f.a.getD j []) (f.z.getD (f.c.t.getD j 0).toNat 0) (by omega)).fzb) ?_
      simp only [SS, Nat.reduceEqDiff, Nat.reduceAdd, iput, puts, wrap_succ (show j < 9223372036854775807 by omega)]
      refine ⟨fun h6 => ?_, fun h6 => up rfl hlj (nextP pj ⟨h5, h6⟩)⟩
      exact ⟨_, rfl, H, fun _ _ h => h, ret_false (fun s => h6 (s.map j hlj).2), rfl, Nat.le_refl _⟩
    · simp only [SS, Nat.reduceEqDiff, Nat.reduceAdd, iput, puts, sf6, hlj]
      exact ⟨_, rfl, H, fun _ _ h => h, ret_true (⟨h1, h2, h3, h4', fun k hk => pj k (by omega)⟩), rfl, Nat.le_refl _⟩
end Go.Av
