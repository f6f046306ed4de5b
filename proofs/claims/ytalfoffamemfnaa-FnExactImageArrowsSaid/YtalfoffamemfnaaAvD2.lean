/-
  When two maps fit together to a functor: the program's test.
-/
import Derived.Test.YtalfoffamemfnaaAvD1
namespace Go.Av
open Classical
set_option linter.unusedSimpArgs false
set_option linter.unusedVariables false
variable {P : Program} {ν : Nat → FuncId}

def V_Functor_fits : Vc :=
  .op true (.p .nck [.t 0]) <|
  .op true (.p (.fad 0) [.t 1]) <|
  .op true (.p .nck [.t 0]) <|
  .op true (.p (.fad 5) [.t 3]) <|
  .op true (.p .nck [.t 0]) <|
  .op true (.p (.fad 10) [.t 5]) <|
  .op true (.p (.ld none) [.t 6]) <|
  .op true (.p .len [.t 7]) <|
  .op true (.p .nck [.t 2]) <|
  .op true (.p (.fad 0) [.t 9]) <|
  .op true (.p (.ld none) [.t 10]) <|
  .op true (.p (.bin .neq) [.t 8, .t 11]) <|
  .br 12
   (.ret [(.c (bool false), none)])
   (.op true (.p .nck [.t 0]) <|
   .op true (.p (.fad 11) [.t 13]) <|
   .op true (.p (.ld none) [.t 14]) <|
   .op true (.p .len [.t 15]) <|
   .op true (.call (.f 26) [.t 2]) <|
   .op true (.p (.bin .neq) [.t 16, .t 17]) <|
   .br 18
    (.ret [(.c (bool false), none)])
    (.op true (.p .nck [.t 0]) <|
    .op true (.p (.fad 10) [.t 19]) <|
    .op true (.p (.ld none) [.t 20]) <|
    .op true (.p .nck [.t 4]) <|
    .op true (.p (.fad 0) [.t 22]) <|
    .op true (.p (.ld none) [.t 23]) <|
    .op true (.call (.f 25) [.t 21, .t 24]) <|
    .op true (.p .bnot [.t 25]) <|
    .br 26
     (.ret [(.c (bool false), none)])
     (.op true (.p .nck [.t 0]) <|
     .op true (.p (.fad 11) [.t 27]) <|
     .op true (.p (.ld none) [.t 28]) <|
     .op true (.call (.f 26) [.t 4]) <|
     .op true (.call (.f 25) [.t 29, .t 30]) <|
     .op true (.p .bnot [.t 31]) <|
     .br 32
      (.ret [(.c (bool false), none)])
      (.op true (.p .nck [.t 0]) <|
      .op true (.p (.fad 11) [.t 33]) <|
      .op true (.p (.ld none) [.t 34]) <|
      .op true (.p .len [.t 35]) <|
      .loop 0 [.c (int 0)] <|
      .op true (.p (.bin .lss) [.t 37, .t 36]) <|
      .br 38
       (.op true (.p (.iad 1) [.t 35, .t 37]) <|
       .op true (.p (.ld none) [.t 39]) <|
       .op true (.p .nck [.t 4]) <|
       .op true (.p (.fad 1) [.t 41]) <|
       .op true (.p (.ld none) [.t 42]) <|
       .op true (.p (.iad 1) [.t 43, .t 40]) <|
       .op true (.p (.ld none) [.t 44]) <|
       .op true (.p .nck [.t 0]) <|
       .op true (.p (.fad 10) [.t 46]) <|
       .op true (.p (.ld none) [.t 47]) <|
       .op true (.p .nck [.t 2]) <|
       .op true (.p (.fad 1) [.t 49]) <|
       .op true (.p (.ld none) [.t 50]) <|
       .op true (.p (.iad 1) [.t 51, .t 37]) <|
       .op true (.p (.ld none) [.t 52]) <|
       .op true (.p (.iad 1) [.t 48, .t 53]) <|
       .op true (.p (.ld none) [.t 54]) <|
       .op true (.p (.bin .neq) [.t 45, .t 55]) <|
       .br 56
        (.ret [(.c (bool false), none)])
        (.op true (.p .nck [.t 4]) <|
        .op true (.p (.fad 2) [.t 57]) <|
        .op true (.p (.ld none) [.t 58]) <|
        .op true (.p (.iad 1) [.t 59, .t 40]) <|
        .op true (.p (.ld none) [.t 60]) <|
        .op true (.p .nck [.t 0]) <|
        .op true (.p (.fad 10) [.t 62]) <|
        .op true (.p (.ld none) [.t 63]) <|
        .op true (.p .nck [.t 2]) <|
        .op true (.p (.fad 2) [.t 65]) <|
        .op true (.p (.ld none) [.t 66]) <|
        .op true (.p (.iad 1) [.t 67, .t 37]) <|
        .op true (.p (.ld none) [.t 68]) <|
        .op true (.p (.iad 1) [.t 64, .t 69]) <|
        .op true (.p (.ld none) [.t 70]) <|
        .op true (.p (.bin .neq) [.t 61, .t 71]) <|
        .br 72
         (.ret [(.c (bool false), none)])
         (.op true (.p (.bin .add) [.t 37, .c (int 1)]) <|
         .again 0 [.t 73])))
       (.op true (.p .nck [.t 2]) <|
       .op true (.p (.fad 3) [.t 39]) <|
       .op true (.p (.ld none) [.t 40]) <|
       .op true (.p .len [.t 41]) <|
       .loop 0 [.c (int 0)] <|
       .op true (.p (.bin .lss) [.t 43, .t 42]) <|
       .br 44
        (.op true (.p (.iad 1) [.t 41, .t 43]) <|
        .op true (.p (.ld none) [.t 45]) <|
        .op true (.p .nck [.t 0]) <|
        .op true (.p (.fad 11) [.t 47]) <|
        .op true (.p (.ld none) [.t 48]) <|
        .op true (.p (.iad 1) [.t 49, .t 46]) <|
        .op true (.p (.ld none) [.t 50]) <|
        .op true (.p .nck [.t 4]) <|
        .op true (.p (.fad 3) [.t 52]) <|
        .op true (.p (.ld none) [.t 53]) <|
        .op true (.p .nck [.t 0]) <|
        .op true (.p (.fad 10) [.t 55]) <|
        .op true (.p (.ld none) [.t 56]) <|
        .op true (.p (.iad 1) [.t 57, .t 43]) <|
        .op true (.p (.ld none) [.t 58]) <|
        .op true (.p (.iad 1) [.t 54, .t 59]) <|
        .op true (.p (.ld none) [.t 60]) <|
        .op true (.p (.bin .neq) [.t 51, .t 61]) <|
        .br 62
         (.ret [(.c (bool false), none)])
         (.op true (.p (.bin .add) [.t 43, .c (int 1)]) <|
         .again 0 [.t 63]))
        (.op true (.p .nck [.t 2]) <|
        .op true (.p (.fad 4) [.t 45]) <|
        .op true (.p (.ld none) [.t 46]) <|
        .op true (.p .len [.t 47]) <|
        .loop 0 [.c (int 0)] <|
        .op true (.p (.bin .lss) [.t 49, .t 48]) <|
        .br 50
         (.op true (.p (.iad 1) [.t 47, .t 49]) <|
         .op true (.p (.ld none) [.t 51]) <|
         .op true (.p .len [.t 52]) <|
         .loop 1 [.c (int 0)] <|
         .op true (.p (.bin .lss) [.t 54, .t 53]) <|
         .br 55
          (.op true (.p (.iad 1) [.t 52, .t 54]) <|
          .op true (.p (.ld none) [.t 56]) <|
          .op true (.p (.bin .geq) [.t 57, .c (int 0)]) <|
          .br 58
           (.op true (.p .nck [.t 0]) <|
           .op true (.p (.fad 11) [.t 59]) <|
           .op true (.p (.ld none) [.t 60]) <|
           .op true (.p (.iad 1) [.t 61, .t 57]) <|
           .op true (.p (.ld none) [.t 62]) <|
           .op true (.p .nck [.t 0]) <|
           .op true (.p (.fad 11) [.t 64]) <|
           .op true (.p (.ld none) [.t 65]) <|
           .op true (.p (.iad 1) [.t 66, .t 49]) <|
           .op true (.p (.ld none) [.t 67]) <|
           .op true (.p .nck [.t 0]) <|
           .op true (.p (.fad 11) [.t 69]) <|
           .op true (.p (.ld none) [.t 70]) <|
           .op true (.p (.iad 1) [.t 71, .t 54]) <|
           .op true (.p (.ld none) [.t 72]) <|
           .op true (.call (.f 34) [.t 4, .t 68, .t 73]) <|
           .op true (.p (.bin .neq) [.t 63, .t 74]) <|
           .br 75
            (.ret [(.c (bool false), none)])
            (.op true (.p (.bin .add) [.t 54, .c (int 1)]) <|
            .again 1 [.t 76]))
           (.op true (.p (.bin .add) [.t 54, .c (int 1)]) <|
           .again 1 [.t 59]))
          (.op true (.p (.bin .add) [.t 49, .c (int 1)]) <|
          .again 0 [.t 56]))
         (.ret [(.c (bool true), none)])))))))
set_option maxHeartbeats 2000000 in
theorem fits_fz (K : HCat P ν) (h : Has P ν 378 1 V_Functor_fits) (f : Fu) (s : Shape f.s) (t : Shape f.t) (b : SmallU f) : Fz (OkM P ν) 378 [.ptr f.cells 0] (bool (decide (Fits f))) := by
  refine Fn.fzb fun H nx => h _ _ _ _ rfl fun hwf => ?_
  unfold V_Functor_fits
  have bo := b.ob
  have ba := b.ar
  have n1 := s.n40
  have n2 := t.n40
  have n3 := t.o8
  have n4 := t.o0
  have n5 := s.il
  have n6 := s.o8
  try simp (disch := (first | rfl | with_reducible assumption | with_reducible solve_by_elim (maxDepth := 8) [Shape.inT, Shape.inI, Shape.inC, Shape.inK, Shape.obF, Shape.obT, Shape.arI, Arr.inF] | omega)) only [S2, Nat.reduceEqDiff, Nat.reduceAdd, iput, puts, SU f]
  refine ⟨fun h1 => ?_, fun h1 => ?_⟩
  · exact ⟨_, rfl, H, fun _ _ h => h, ret_false (fun m => h1 m.ol), rfl, Nat.le_refl _⟩
  repeat (first | simp (disch := (first | rfl | with_reducible assumption | with_reducible solve_by_elim (maxDepth := 8) [Shape.inT, Shape.inI, Shape.inC, Shape.inK, Shape.obF, Shape.obT, Shape.arI, Arr.inF] | omega)) only [S2, Nat.reduceEqDiff, Nat.reduceAdd, iput, puts, SU f] | (refine den_call rfl (by first | (simp only [SS, Nat.reduceEqDiff, Nat.reduceAdd, iput, puts, FF, frzL_cat]; done) | (simp only [SS, Nat.reduceEqDiff, Nat.reduceAdd, iput, puts, FF, frzL_cat]; rfl)) (by first | exact Fu.winS (arrows_ok K.arrows f.s).fzi) ?_) | (refine den_calli rfl (by first | (simp only [SS, Nat.reduceEqDiff, Nat.reduceAdd, iput, puts, FF, frzL_cat]; done) | (simp only [SS, Nat.reduceEqDiff, Nat.reduceAdd, iput, puts, FF, frzL_cat]; rfl)) (by first | exact Fu.winS (arrows_ok K.arrows f.s).fzi) ?_))
  refine ⟨fun h2 => ?_, fun h2 => ?_⟩
  · exact ⟨_, rfl, H, fun _ _ h => h, ret_false (fun m => h2 (by rw [m.al])), rfl, Nat.le_refl _⟩
  repeat (first | simp (disch := (first | rfl | with_reducible assumption | with_reducible solve_by_elim (maxDepth := 8) [Shape.inT, Shape.inI, Shape.inC, Shape.inK, Shape.obF, Shape.obT, Shape.arI, Arr.inF] | omega)) only [S2, Nat.reduceEqDiff, Nat.reduceAdd, iput, puts, SU f] | (refine den_call rfl (by first | (simp only [SS, Nat.reduceEqDiff, Nat.reduceAdd, iput, puts, FF, frzL_cat]; done) | (simp only [SS, Nat.reduceEqDiff, Nat.reduceAdd, iput, puts, FF, frzL_cat]; rfl)) (by first | exact (within_ok K.inRange K.within f.ob f.t.o (by omega) (by omega) (by omega)).fzb) ?_) | (refine den_calli rfl (by first | (simp only [SS, Nat.reduceEqDiff, Nat.reduceAdd, iput, puts, FF, frzL_cat]; done) | (simp only [SS, Nat.reduceEqDiff, Nat.reduceAdd, iput, puts, FF, frzL_cat]; rfl)) (by first | exact (within_ok K.inRange K.within f.ob f.t.o (by omega) (by omega) (by omega)).fzb) ?_))
  refine ⟨fun h3 => ?_, fun h3 => ?_⟩
  · exact ⟨_, rfl, H, fun _ _ h => h, ret_false (fun m => h3 m.ow), rfl, Nat.le_refl _⟩
  repeat (first | simp (disch := (first | rfl | with_reducible assumption | with_reducible solve_by_elim (maxDepth := 8) [Shape.inT, Shape.inI, Shape.inC, Shape.inK, Shape.obF, Shape.obT, Shape.arI, Arr.inF] | omega)) only [S2, Nat.reduceEqDiff, Nat.reduceAdd, iput, puts, SU f] | (refine den_call rfl (by first | (simp only [SS, Nat.reduceEqDiff, Nat.reduceAdd, iput, puts, FF, frzL_cat]; done) | (simp only [SS, Nat.reduceEqDiff, Nat.reduceAdd, iput, puts, FF, frzL_cat]; rfl)) (by first | exact Fu.winT (arrows_ok K.arrows f.t).fzi | exact (within_ok K.inRange K.within f.ar f.t.f.length (by omega) (by omega) (by omega)).fzb) ?_) | (refine den_calli rfl (by first | (simp only [SS, Nat.reduceEqDiff, Nat.reduceAdd, iput, puts, FF, frzL_cat]; done) | (simp only [SS, Nat.reduceEqDiff, Nat.reduceAdd, iput, puts, FF, frzL_cat]; rfl)) (by first | exact Fu.winT (arrows_ok K.arrows f.t).fzi | exact (within_ok K.inRange K.within f.ar f.t.f.length (by omega) (by omega) (by omega)).fzb) ?_))
  refine ⟨fun h4 => ?_, fun h4 => ?_⟩
  · exact ⟨_, rfl, H, fun _ _ h => h, ret_false (fun m => h4 m.aw), rfl, Nat.le_refl _⟩
  have iO : ∀ x, Ob f.s x → In f.ob x := fun x hx => ⟨hx.1, by have := hx.2; omega⟩
  have iA : ∀ x, Arr f.s x → In f.ar x := fun x hx => ⟨hx.1, by have := hx.2; omega⟩
  have oO : ∀ x, Ob f.s x → Ob f.t (f.O x) := fun x hx => h3.at (iO x hx)
  have aA : ∀ x, Arr f.s x → Arr f.t (f.A x) := fun x hx => h4.at (iA x hx)
  try simp (disch := (first | rfl | with_reducible assumption | with_reducible solve_by_elim (maxDepth := 8) [Shape.inT, Shape.inI, Shape.inC, Shape.inK, Shape.obF, Shape.obT, Shape.arI, Arr.inF] | omega)) only [S2, Nat.reduceEqDiff, Nat.reduceAdd, iput, puts, SU f]
  refine den_for f.ar.length (fun i => ∀ a : Nat, a < i → f.t.F (f.A a) = f.O (f.s.F a) ∧ f.t.T (f.A a) = f.O (f.s.T a)) (fun x hx => by omega) fun i hi hp => ?_
  by_cases hlt : i < f.ar.length
  · have ia := In.nat hlt
    have ia' : Arr f.s i := ⟨by omega, by omega⟩
    try simp (disch := (first | rfl | with_reducible assumption | with_reducible solve_by_elim (maxDepth := 8) [Shape.inT, Shape.inI, Shape.inC, Shape.inK, Shape.obF, Shape.obT, Shape.arI, Arr.inF] | omega)) only [S2, Nat.reduceEqDiff, Nat.reduceAdd, iput, puts, SU f, hlt]
    refine ⟨fun h5 => ?_, fun h5 => ⟨fun h6 => ?_, fun h6 => up rfl hlt fun k hk => ?_⟩⟩
    · exact ⟨_, rfl, H, fun _ _ h => h, ret_false (fun m => h5 (m.ends i hlt).1), rfl, Nat.le_refl _⟩
    · exact ⟨_, rfl, H, fun _ _ h => h, ret_false (fun m => h6 (m.ends i hlt).2), rfl, Nat.le_refl _⟩
    · by_cases e : k = i
      · subst e; exact ⟨h5, h6⟩
      · exact hp k (by omega)
  have hp1 := fun (a : Nat) (ha : a < f.ar.length) => hp a (show a < i by omega)
  try simp (disch := (first | rfl | with_reducible assumption | with_reducible solve_by_elim (maxDepth := 8) [Shape.inT, Shape.inI, Shape.inC, Shape.inK, Shape.obF, Shape.obT, Shape.arI, Arr.inF] | omega)) only [S2, Nat.reduceEqDiff, Nat.reduceAdd, iput, puts, SU f, hlt]
  clear hp hlt hi
  refine den_for f.s.i.length (fun i => ∀ x : Nat, x < i → f.A (f.s.I x) = f.t.I (f.O x)) (fun x hx => by omega) fun i hi hp => ?_
  by_cases hlt : i < f.s.i.length
  · have ia := In.nat hlt
    have io := s.obI hlt
    try simp (disch := (first | rfl | with_reducible assumption | with_reducible solve_by_elim (maxDepth := 8) [Shape.inT, Shape.inI, Shape.inC, Shape.inK, Shape.obF, Shape.obT, Shape.arI, Arr.inF] | omega)) only [S2, Nat.reduceEqDiff, Nat.reduceAdd, iput, puts, SU f, hlt]
    refine ⟨fun h5 => ?_, fun h5 => up rfl hlt fun k hk => ?_⟩
    · exact ⟨_, rfl, H, fun _ _ h => h, ret_false (fun m => h5 (m.ids i hlt)), rfl, Nat.le_refl _⟩
    · by_cases e : k = i
      · subst e; exact h5
      · exact hp k (by omega)
  have hp2 := fun (a : Nat) (ha : a < f.s.i.length) => hp a (show a < i by omega)
  try simp (disch := (first | rfl | with_reducible assumption | with_reducible solve_by_elim (maxDepth := 8) [Shape.inT, Shape.inI, Shape.inC, Shape.inK, Shape.obF, Shape.obT, Shape.arI, Arr.inF] | omega)) only [S2, Nat.reduceEqDiff, Nat.reduceAdd, iput, puts, SU f, hlt]
  clear hp hlt hi
  have cl := s.cl
  refine den_for f.s.c.length (fun i => ∀ a b : Nat, a < i → b < f.s.f.length → 0 ≤ f.s.K a b → f.A (f.s.K a b) = f.t.K (f.A a) (f.A b)) (fun x _ hx => by omega) fun i hi hp => ?_
  by_cases hlt : i < f.s.c.length
  · have ia := s.arC hlt
    have rl := s.lenR ia
    have ir := InR.nat hlt
    try simp (disch := (first | rfl | with_reducible assumption | with_reducible solve_by_elim (maxDepth := 8) [Shape.inT, Shape.inI, Shape.inC, Shape.inK, Shape.obF, Shape.obT, Shape.arI, Arr.inF] | omega)) only [S2, Nat.reduceEqDiff, Nat.reduceAdd, iput, puts, SU f, hlt, rl]
    refine den_for f.s.f.length (fun j => ∀ b : Nat, b < j → 0 ≤ f.s.K i b → f.A (f.s.K i b) = f.t.K (f.A i) (f.A b)) (fun x hx => by omega) fun j hj hq => ?_
    by_cases hlt2 : j < f.s.f.length
    · have ja := Arr.of (c := f.s) hlt2
      try simp (disch := (first | rfl | with_reducible assumption | with_reducible solve_by_elim (maxDepth := 8) [Shape.inT, Shape.inI, Shape.inC, Shape.inK, Shape.obF, Shape.obT, Shape.arI, Arr.inF] | omega)) only [S2, Nat.reduceEqDiff, Nat.reduceAdd, iput, puts, SU f, hlt2]
      refine ⟨fun h5 => ?_, fun h5 => up rfl hlt2 fun k hk hk2 => ?_⟩
      · have ka : Arr f.s (f.s.K i j) := s.arK ia ja ((s.kI ia ja).1 h5)
        repeat (first | simp (disch := (first | rfl | with_reducible assumption | with_reducible solve_by_elim (maxDepth := 8) [Shape.inT, Shape.inI, Shape.inC, Shape.inK, Shape.obF, Shape.obT, Shape.arI, Arr.inF] | omega)) only [S2, Nat.reduceEqDiff, Nat.reduceAdd, iput, puts, SU f] | (refine den_call rfl (by first | (simp only [SS, Nat.reduceEqDiff, Nat.reduceAdd, iput, puts, FF, frzL_cat]; done) | (simp only [SS, Nat.reduceEqDiff, Nat.reduceAdd, iput, puts, FF, frzL_cat]; rfl)) (by first | exact Fu.winT (t.fzThen K.thn (aA _ ia) (aA _ ja))) ?_) | (refine den_calli rfl (by first | (simp only [SS, Nat.reduceEqDiff, Nat.reduceAdd, iput, puts, FF, frzL_cat]; done) | (simp only [SS, Nat.reduceEqDiff, Nat.reduceAdd, iput, puts, FF, frzL_cat]; rfl)) (by first | exact Fu.winT (t.fzThen K.thn (aA _ ia) (aA _ ja))) ?_))
        refine ⟨fun h6 => ?_, fun h6 => up rfl hlt2 fun k hk hk2 => ?_⟩
        · exact ⟨_, rfl, H, fun _ _ h => h, ret_false (fun m => h6 (m.comp i j (by omega) hlt2 h5)), rfl, Nat.le_refl _⟩
        · by_cases e : k = j
          · subst e; exact h6
          · exact hq k (by omega) hk2
      · by_cases e : k = j
        · subst e; omega
        · exact hq k (by omega) hk2
    · try simp (disch := (first | rfl | with_reducible assumption | with_reducible solve_by_elim (maxDepth := 8) [Shape.inT, Shape.inI, Shape.inC, Shape.inK, Shape.obF, Shape.obT, Shape.arI, Arr.inF] | omega)) only [S2, Nat.reduceEqDiff, Nat.reduceAdd, iput, puts, hlt2]
      refine up rfl hlt fun k b hk hb hk2 => ?_
      by_cases e : k = i
      · subst e; exact hq b (by omega) hk2
      · exact hp k b (by omega) hb hk2
  · try simp (disch := (first | rfl | with_reducible assumption | with_reducible solve_by_elim (maxDepth := 8) [Shape.inT, Shape.inI, Shape.inC, Shape.inK, Shape.obF, Shape.obT, Shape.arI, Arr.inF] | omega)) only [S2, Nat.reduceEqDiff, Nat.reduceAdd, iput, puts, hlt]
    exact ⟨_, rfl, H, fun _ _ h => h, ret_true (⟨h1, by omega, h3, h4, hp1, hp2, fun a b' ha hb hk => hp a b' (by omega) hb hk⟩), rfl, Nat.le_refl _⟩
end Go.Av
