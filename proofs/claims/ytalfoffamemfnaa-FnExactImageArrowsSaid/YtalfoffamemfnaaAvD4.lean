/-
  Functors: both tests, and IsFunctor.
-/
import Derived.Test.YtalfoffamemfnaaAvD2
import Derived.Test.YtalfoffamemfnaaAvD3
namespace Go.Av
open Classical
set_option linter.unusedSimpArgs false
set_option linter.unusedVariables false
variable {P : Program} {ν : Nat → FuncId}

def V_areCategories : Vc :=
  .op true (.p .len [.t 0]) <|
  .loop 0 [.c (int 0)] <|
  .op true (.p (.bin .lss) [.t 2, .t 1]) <|
  .br 3
   (.op true (.p (.iad 1) [.t 0, .t 2]) <|
   .op true (.p (.ld none) [.t 4]) <|
   .op true (.call (.f 24) [.t 5]) <|
   .op true (.p .bnot [.t 6]) <|
   .br 7
    (.ret [(.c (bool false), none)])
    (.op true (.p (.bin .add) [.t 2, .c (int 1)]) <|
    .again 0 [.t 8]))
   (.ret [(.c (bool true), none)])
theorem areCats_fz (h : Has P ν 315 1 V_areCategories) (L : List (AV × Bool)) (hl : L.length ≤ 1048576) (hL : ∀ p ∈ L, Fz (OkM P ν) 24 [p.1] (bool p.2)) (hst : ∀ p ∈ L, p.1.still = true) : Fz (OkM P ν) 315 [.sl (L.map (·.1)) L.length] (bool (L.all (·.2))) := by
  refine Fn.fzb fun H nx => h _ _ _ _ rfl fun hwf => ?_
  unfold V_areCategories
  simp only [SS, Nat.reduceEqDiff, Nat.reduceAdd, iput, puts]
  refine den_for L.length (fun i => ∀ k (hk : k < L.length), k < i → L[k].2 = true) (fun k hk hi => by omega) fun i hi hp => ?_
  by_cases hlt : i < L.length
  · have hm := List.getElem_mem hlt
    have hg : (L.map (·.1))[i]? = some L[i].1 := by simp [hlt]
    simp only [SS, Nat.reduceEqDiff, Nat.reduceAdd, iput, puts, hlt, not_true_eq_false, hg]
    refine den_call (fc := (24, [])) (ys := [L[i].1]) rfl (by simp only [SS, Nat.reduceEqDiff, Nat.reduceAdd, iput, puts, FF, frzL_cat, frzL_fu, frzL, List.mapM_cons, List.mapM_nil, frz_still (hst _ hm)]; rfl) (hL _ hm) ?_
    simp only [SS, Nat.reduceEqDiff, Nat.reduceAdd, iput, puts, wrap_succ (show i < 9223372036854775807 by omega)]
    refine ⟨fun h1 => ?_, fun h1 => up rfl hlt fun k hk hk2 => ?_⟩
    · refine ⟨_, rfl, H, fun _ _ h => h, ?_, rfl, Nat.le_refl _⟩
      have : L.all (·.2) = false := by
        rw [Bool.eq_false_iff]; intro ha
        have := List.all_eq_true.1 ha _ hm
        rw [h1] at this; cases this
      rw [this]; rfl
    · by_cases e : k = i
      · subst e; exact h1
      · exact hp k hk (by omega)
  · simp only [SS, Nat.reduceEqDiff, Nat.reduceAdd, iput, puts, hlt, not_false_eq_true]
    refine ⟨_, rfl, H, fun _ _ h => h, ?_, rfl, Nat.le_refl _⟩
    have : L.all (·.2) = true := List.all_eq_true.2 fun p hp' => by
      obtain ⟨k, hk, rfl⟩ := List.getElem_of_mem hp'
      exact hp k hk (by omega)
    rw [this]; rfl
theorem p_mslP2 {H : Hp} {a b : List AV} {i j : Nat} : pvf H (.msl 2 [.v (.pointer none), .v (.pointer none)] [(0, 1), (1, 1)]) [.ptr a i, .ptr b j] = some (.sl [.ptr a i, .ptr b j] 2) := rfl

def V_Functor_isFunctor : Vc :=
  .op true (.p .nck [.t 0]) <|
  .op true (.p (.fad 0) [.t 1]) <|
  .op true (.p .nck [.t 0]) <|
  .op true (.p (.fad 5) [.t 3]) <|
  .op true (.p (.msl 2 [.v (.pointer none), .v (.pointer none)] [(0, 1), (1, 1)]) [.t 2, .t 4]) <|
  .op true (.call (.f 315) [.t 5]) <|
  .br 6
   (.op true (.call (.f 378) [.t 0]) <|
   .ret [(.t 7, none)])
   (.ret [(.c (bool false), none)])
structure HFun (P : Program) (ν : Nat → FuncId) : Prop extends HCat P ν where
  fits : Has P ν 378 1 V_Functor_fits
  areC : Has P ν 315 1 V_areCategories
  isFunctor : Has P ν 257 1 V_Functor_isFunctor
theorem isFunctor_fz (K : HFun P ν) (f : Fu) (b : SmallU f) : Fz (OkM P ν) 257 [.ptr f.cells 0] (bool (decide (IsFu f))) := by
  refine Fn.fzb fun H nx => K.isFunctor _ _ _ _ rfl fun hwf => ?_
  unfold V_Functor_isFunctor
  have hc := areCats_fz K.areC [(.ptr f.cells 0, decide (IsCat f.s)), (.ptr f.cells 5, decide (IsCat f.t))] (by simp) (by
    intro p hp
    simp only [List.mem_cons, List.not_mem_nil, or_false] at hp
    rcases hp with rfl | rfl
    · exact Fu.winS (isCategory_ok K.toHCat f.s b.s.toSmall).fzb
    · exact Fu.winT (isCategory_ok K.toHCat f.t b.t.toSmall).fzb) (by
    intro p hp
    simp only [List.mem_cons, List.not_mem_nil, or_false] at hp
    rcases hp with rfl | rfl <;> rfl)
  simp only [List.map_cons, List.map_nil, List.length_cons, List.length_nil, Nat.reduceAdd, List.all_cons, List.all_nil, Bool.and_true] at hc
  repeat (first | simp (disch := (first | rfl | with_reducible assumption | with_reducible solve_by_elim (maxDepth := 8) [Shape.inT, Shape.inI, Shape.inC, Shape.inK, Shape.obF, Shape.obT, Shape.arI, Arr.inF] | omega)) only [S2, Nat.reduceEqDiff, Nat.reduceAdd, iput, puts, SU f, p_mslP2] | (refine den_call rfl (by first | (simp only [SS, Nat.reduceEqDiff, Nat.reduceAdd, iput, puts, FF, frzL_cat, frzL_fu]; done) | (simp only [SS, Nat.reduceEqDiff, Nat.reduceAdd, iput, puts, FF, frzL_cat, frzL_fu]; rfl)) (by first | exact hc) ?_) | (refine den_calli rfl (by first | (simp only [SS, Nat.reduceEqDiff, Nat.reduceAdd, iput, puts, FF, frzL_cat, frzL_fu]; done) | (simp only [SS, Nat.reduceEqDiff, Nat.reduceAdd, iput, puts, FF, frzL_cat, frzL_fu]; rfl)) (by first | exact hc) ?_))
  refine ⟨fun h1 => ?_, fun h1 => ?_⟩
  · repeat (first | simp (disch := (first | rfl | with_reducible assumption | with_reducible solve_by_elim (maxDepth := 8) [Shape.inT, Shape.inI, Shape.inC, Shape.inK, Shape.obF, Shape.obT, Shape.arI, Arr.inF] | omega)) only [S2, Nat.reduceEqDiff, Nat.reduceAdd, iput, puts] | (refine den_call rfl (by first | (simp only [SS, Nat.reduceEqDiff, Nat.reduceAdd, iput, puts, FF, frzL_cat, frzL_fu]; done) | (simp only [SS, Nat.reduceEqDiff, Nat.reduceAdd, iput, puts, FF, frzL_cat, frzL_fu]; rfl)) (by first | exact fits_fz K.toHCat K.fits f h1.1.1 h1.2.1 b) ?_) | (refine den_calli rfl (by first | (simp only [SS, Nat.reduceEqDiff, Nat.reduceAdd, iput, puts, FF, frzL_cat, frzL_fu]; done) | (simp only [SS, Nat.reduceEqDiff, Nat.reduceAdd, iput, puts, FF, frzL_cat, frzL_fu]; rfl)) (by first | exact fits_fz K.toHCat K.fits f h1.1.1 h1.2.1 b) ?_))
    refine ⟨_, rfl, H, fun _ _ h => h, ?_, rfl, Nat.le_refl _⟩
    show bool (decide (Fits f)) = _
    congr 1
    exact decide_eq_decide.2 ⟨fun m => ⟨h1.1, h1.2, m⟩, fun m => m.m⟩
  · exact ⟨_, rfl, H, fun _ _ h => h, ret_false (fun m => by simp [m.s, m.t] at h1), rfl, Nat.le_refl _⟩
def V_IsFunctor : Vc :=
  .op true (.p .box [.t 0]) <|
  .op true (.call (.f 257) [.t 1]) <|
  .ret [(.t 2, none)]
theorem IsFunctor_fz (K : HFun P ν) (h : Has P ν 119 1 V_IsFunctor) (f : Fu) (b : SmallU f) : Fz (OkM P ν) 119 [.agg f.cells] (bool (decide (IsFu f))) := by
  refine Fn.fzb fun H nx => h _ _ _ _ rfl fun hwf => ?_
  unfold V_IsFunctor
  repeat (first | simp (disch := (first | rfl | with_reducible assumption | with_reducible solve_by_elim (maxDepth := 8) [Shape.inT, Shape.inI, Shape.inC, Shape.inK, Shape.obF, Shape.obT, Shape.arI, Arr.inF] | omega)) only [S2, Nat.reduceEqDiff, Nat.reduceAdd, iput, puts, SU f] | (refine den_call rfl (by first | (simp only [SS, Nat.reduceEqDiff, Nat.reduceAdd, iput, puts, FF, frzL_cat, frzL_fu]; done) | (simp only [SS, Nat.reduceEqDiff, Nat.reduceAdd, iput, puts, FF, frzL_cat, frzL_fu]; rfl)) (by first | exact isFunctor_fz K f b) ?_) | (refine den_calli rfl (by first | (simp only [SS, Nat.reduceEqDiff, Nat.reduceAdd, iput, puts, FF, frzL_cat, frzL_fu]; done) | (simp only [SS, Nat.reduceEqDiff, Nat.reduceAdd, iput, puts, FF, frzL_cat, frzL_fu]; rfl)) (by first | exact isFunctor_fz K f b) ?_))
  exact ⟨_, rfl, H, fun _ _ h => h, rfl, rfl, Nat.le_refl _⟩

def V_spec_l06Is : Vc :=
  .op true (.p .box [.t 0]) <|
  .both
   (.op true (.p (.fad 0) [.t 1]) <|
   .op true (.p (.ld (some 5)) [.t 2]) <|
   .op false (.p (.fad 5) [.t 1]) <|
   .op false (.p (.ld (some 5)) [.t 4]) <|
   .op true (.new [int 0, .nil, .nil, .nil, .nil]) <|
   .op true (.new [int 0, .nil, .nil, .nil, .nil]) <|
   .op true (.st 5 (.t 6) (.t 3)) <|
   .op true (.st 5 (.t 7) (.t 5)) <|
   .op true (.p (.ld (some 5)) [.t 6]) <|
   .op true (.call (.f 22) [.t 10]) <|
   .op true (.p .bnot [.t 11]) <|
   .br 12
    (.ret [(.c (bool false), none)])
    (.op true (.p (.ld (some 5)) [.t 7]) <|
    .op true (.call (.f 22) [.t 13]) <|
    .op true (.p .bnot [.t 14]) <|
    .br 15
     (.ret [(.c (bool false), none)])
     (.op true (.p (.fad 10) [.t 1]) <|
     .op true (.p (.ld none) [.t 16]) <|
     .op true (.p .len [.t 17]) <|
     .op true (.p (.fad 0) [.t 6]) <|
     .op true (.p (.ld none) [.t 19]) <|
     .op true (.p (.bin .neq) [.t 18, .t 20]) <|
     .br 21
      (.ret [(.c (bool false), none)])
      (.op true (.p (.fad 11) [.t 1]) <|
      .op true (.p (.ld none) [.t 22]) <|
      .op true (.p .len [.t 23]) <|
      .op true (.p (.fad 1) [.t 6]) <|
      .op true (.p (.ld none) [.t 25]) <|
      .op true (.p .len [.t 26]) <|
      .op true (.p (.bin .neq) [.t 24, .t 27]) <|
      .br 28
       (.ret [(.c (bool false), none)])
       (.op true (.p (.fad 0) [.t 7]) <|
       .op true (.p (.ld none) [.t 29]) <|
       .op true (.p (.fad 10) [.t 1]) <|
       .op true (.p (.ld none) [.t 31]) <|
       .op true (.call (.f 37) [.t 30, .t 32]) <|
       .op true (.p .bnot [.t 33]) <|
       .br 34
        (.ret [(.c (bool false), none)])
        (.op true (.p (.fad 1) [.t 7]) <|
        .op true (.p (.ld none) [.t 35]) <|
        .op true (.p .len [.t 36]) <|
        .op true (.p (.fad 11) [.t 1]) <|
        .op true (.p (.ld none) [.t 38]) <|
        .op true (.call (.f 37) [.t 37, .t 39]) <|
        .op true (.p .bnot [.t 40]) <|
        .br 41
         (.ret [(.c (bool false), none)])
         (.loop 0 [.c (int 0)] <|
         .op true (.p (.fad 1) [.t 6]) <|
         .op true (.p (.ld none) [.t 43]) <|
         .op true (.p .len [.t 44]) <|
         .op true (.p (.bin .lss) [.t 42, .t 45]) <|
         .br 46
          (.op true (.p (.fad 1) [.t 7]) <|
          .op true (.p (.ld none) [.t 47]) <|
          .op true (.p (.fad 11) [.t 1]) <|
          .op true (.p (.ld none) [.t 49]) <|
          .op true (.p (.iad 1) [.t 50, .t 42]) <|
          .op true (.p (.ld none) [.t 51]) <|
          .op true (.p (.iad 1) [.t 48, .t 52]) <|
          .op true (.p (.ld none) [.t 53]) <|
          .op true (.p (.fad 10) [.t 1]) <|
          .op true (.p (.ld none) [.t 55]) <|
          .op true (.p (.fad 1) [.t 6]) <|
          .op true (.p (.ld none) [.t 57]) <|
          .op true (.p (.iad 1) [.t 58, .t 42]) <|
          .op true (.p (.ld none) [.t 59]) <|
          .op true (.p (.iad 1) [.t 56, .t 60]) <|
          .op true (.p (.ld none) [.t 61]) <|
          .op true (.p (.bin .neq) [.t 54, .t 62]) <|
          .br 63
           (.ret [(.c (bool false), none)])
           (.op true (.p (.fad 2) [.t 7]) <|
           .op true (.p (.ld none) [.t 64]) <|
           .op true (.p (.fad 11) [.t 1]) <|
           .op true (.p (.ld none) [.t 66]) <|
           .op true (.p (.iad 1) [.t 67, .t 42]) <|
           .op true (.p (.ld none) [.t 68]) <|
           .op true (.p (.iad 1) [.t 65, .t 69]) <|
           .op true (.p (.ld none) [.t 70]) <|
           .op true (.p (.fad 10) [.t 1]) <|
           .op true (.p (.ld none) [.t 72]) <|
           .op true (.p (.fad 2) [.t 6]) <|
           .op true (.p (.ld none) [.t 74]) <|
           .op true (.p (.iad 1) [.t 75, .t 42]) <|
           .op true (.p (.ld none) [.t 76]) <|
           .op true (.p (.iad 1) [.t 73, .t 77]) <|
           .op true (.p (.ld none) [.t 78]) <|
           .op true (.p (.bin .neq) [.t 71, .t 79]) <|
           .br 80
            (.ret [(.c (bool false), none)])
            (.op true (.p (.bin .add) [.t 42, .c (int 1)]) <|
            .again 0 [.t 81])))
          (.loop 0 [.c (int 0)] <|
          .op true (.p (.fad 0) [.t 6]) <|
          .op true (.p (.ld none) [.t 48]) <|
          .op true (.p (.bin .lss) [.t 47, .t 49]) <|
          .br 50
           (.op true (.p (.fad 11) [.t 1]) <|
           .op true (.p (.ld none) [.t 51]) <|
           .op true (.p (.fad 3) [.t 6]) <|
           .op true (.p (.ld none) [.t 53]) <|
           .op true (.p (.iad 1) [.t 54, .t 47]) <|
           .op true (.p (.ld none) [.t 55]) <|
           .op true (.p (.iad 1) [.t 52, .t 56]) <|
           .op true (.p (.ld none) [.t 57]) <|
           .op true (.p (.fad 3) [.t 7]) <|
           .op true (.p (.ld none) [.t 59]) <|
           .op true (.p (.fad 10) [.t 1]) <|
           .op true (.p (.ld none) [.t 61]) <|
           .op true (.p (.iad 1) [.t 62, .t 47]) <|
           .op true (.p (.ld none) [.t 63]) <|
           .op true (.p (.iad 1) [.t 60, .t 64]) <|
           .op true (.p (.ld none) [.t 65]) <|
           .op true (.p (.bin .neq) [.t 58, .t 66]) <|
           .br 67
            (.ret [(.c (bool false), none)])
            (.op true (.p (.bin .add) [.t 47, .c (int 1)]) <|
            .again 0 [.t 68]))
           (.loop 0 [.c (int 0)] <|
           .op true (.p (.fad 1) [.t 6]) <|
           .op true (.p (.ld none) [.t 52]) <|
           .op true (.p .len [.t 53]) <|
           .op true (.p (.bin .lss) [.t 51, .t 54]) <|
           .br 55
            (.loop 1 [.c (int 0)] <|
            .op true (.p (.fad 1) [.t 6]) <|
            .op true (.p (.ld none) [.t 57]) <|
            .op true (.p .len [.t 58]) <|
            .op true (.p (.bin .lss) [.t 56, .t 59]) <|
            .br 60
             (.op true (.p (.fad 2) [.t 6]) <|
             .op true (.p (.ld none) [.t 61]) <|
             .op true (.p (.iad 1) [.t 62, .t 51]) <|
             .op true (.p (.ld none) [.t 63]) <|
             .op true (.p (.fad 1) [.t 6]) <|
             .op true (.p (.ld none) [.t 65]) <|
             .op true (.p (.iad 1) [.t 66, .t 56]) <|
             .op true (.p (.ld none) [.t 67]) <|
             .op true (.p (.bin .eql) [.t 64, .t 68]) <|
             .br 69
              (.op true (.p (.fad 11) [.t 1]) <|
              .op true (.p (.ld none) [.t 70]) <|
              .op true (.p (.fad 4) [.t 6]) <|
              .op true (.p (.ld none) [.t 72]) <|
              .op true (.p (.iad 1) [.t 73, .t 51]) <|
              .op true (.p (.ld none) [.t 74]) <|
              .op true (.p (.iad 1) [.t 75, .t 56]) <|
              .op true (.p (.ld none) [.t 76]) <|
              .op true (.p (.iad 1) [.t 71, .t 77]) <|
              .op true (.p (.ld none) [.t 78]) <|
              .op true (.p (.fad 4) [.t 7]) <|
              .op true (.p (.ld none) [.t 80]) <|
              .op true (.p (.fad 11) [.t 1]) <|
              .op true (.p (.ld none) [.t 82]) <|
              .op true (.p (.iad 1) [.t 83, .t 51]) <|
              .op true (.p (.ld none) [.t 84]) <|
              .op true (.p (.iad 1) [.t 81, .t 85]) <|
              .op true (.p (.ld none) [.t 86]) <|
              .op true (.p (.fad 11) [.t 1]) <|
              .op true (.p (.ld none) [.t 88]) <|
              .op true (.p (.iad 1) [.t 89, .t 56]) <|
              .op true (.p (.ld none) [.t 90]) <|
              .op true (.p (.iad 1) [.t 87, .t 91]) <|
              .op true (.p (.ld none) [.t 92]) <|
              .op true (.p (.bin .neq) [.t 79, .t 93]) <|
              .br 94
               (.ret [(.c (bool false), none)])
               (.op true (.p (.bin .add) [.t 56, .c (int 1)]) <|
               .again 1 [.t 95]))
              (.op true (.p (.bin .add) [.t 56, .c (int 1)]) <|
              .again 1 [.t 70]))
             (.op true (.p (.bin .add) [.t 51, .c (int 1)]) <|
             .again 0 [.t 61]))
            (.ret [(.c (bool true), none)]))))))))))
   (.op true (.p (.fad 0) [.t 1]) <|
   .op true (.p (.ld (some 5)) [.t 2]) <|
   .op false (.p (.fad 5) [.t 1]) <|
   .op false (.p (.ld (some 5)) [.t 4]) <|
   .op true (.new [int 0, .nil, .nil, .nil, .nil]) <|
   .op true (.new [int 0, .nil, .nil, .nil, .nil]) <|
   .op true (.st 5 (.t 7) (.t 3)) <|
   .op true (.st 5 (.t 6) (.t 5)) <|
   .op true (.p (.ld (some 5)) [.t 7]) <|
   .op true (.call (.f 22) [.t 10]) <|
   .op true (.p .bnot [.t 11]) <|
   .br 12
    (.ret [(.c (bool false), none)])
    (.op true (.p (.ld (some 5)) [.t 6]) <|
    .op true (.call (.f 22) [.t 13]) <|
    .op true (.p .bnot [.t 14]) <|
    .br 15
     (.ret [(.c (bool false), none)])
     (.op true (.p (.fad 10) [.t 1]) <|
     .op true (.p (.ld none) [.t 16]) <|
     .op true (.p .len [.t 17]) <|
     .op true (.p (.fad 0) [.t 7]) <|
     .op true (.p (.ld none) [.t 19]) <|
     .op true (.p (.bin .neq) [.t 18, .t 20]) <|
     .br 21
      (.ret [(.c (bool false), none)])
      (.op true (.p (.fad 11) [.t 1]) <|
      .op true (.p (.ld none) [.t 22]) <|
      .op true (.p .len [.t 23]) <|
      .op true (.p (.fad 1) [.t 7]) <|
      .op true (.p (.ld none) [.t 25]) <|
      .op true (.p .len [.t 26]) <|
      .op true (.p (.bin .neq) [.t 24, .t 27]) <|
      .br 28
       (.ret [(.c (bool false), none)])
       (.op true (.p (.fad 0) [.t 6]) <|
       .op true (.p (.ld none) [.t 29]) <|
       .op true (.p (.fad 10) [.t 1]) <|
       .op true (.p (.ld none) [.t 31]) <|
       .op true (.call (.f 37) [.t 30, .t 32]) <|
       .op true (.p .bnot [.t 33]) <|
       .br 34
        (.ret [(.c (bool false), none)])
        (.op true (.p (.fad 1) [.t 6]) <|
        .op true (.p (.ld none) [.t 35]) <|
        .op true (.p .len [.t 36]) <|
        .op true (.p (.fad 11) [.t 1]) <|
        .op true (.p (.ld none) [.t 38]) <|
        .op true (.call (.f 37) [.t 37, .t 39]) <|
        .op true (.p .bnot [.t 40]) <|
        .br 41
         (.ret [(.c (bool false), none)])
         (.loop 0 [.c (int 0)] <|
         .op true (.p (.fad 1) [.t 7]) <|
         .op true (.p (.ld none) [.t 43]) <|
         .op true (.p .len [.t 44]) <|
         .op true (.p (.bin .lss) [.t 42, .t 45]) <|
         .br 46
          (.op true (.p (.fad 1) [.t 6]) <|
          .op true (.p (.ld none) [.t 47]) <|
          .op true (.p (.fad 11) [.t 1]) <|
          .op true (.p (.ld none) [.t 49]) <|
          .op true (.p (.iad 1) [.t 50, .t 42]) <|
          .op true (.p (.ld none) [.t 51]) <|
          .op true (.p (.iad 1) [.t 48, .t 52]) <|
          .op true (.p (.ld none) [.t 53]) <|
          .op true (.p (.fad 10) [.t 1]) <|
          .op true (.p (.ld none) [.t 55]) <|
          .op true (.p (.fad 1) [.t 7]) <|
          .op true (.p (.ld none) [.t 57]) <|
          .op true (.p (.iad 1) [.t 58, .t 42]) <|
          .op true (.p (.ld none) [.t 59]) <|
          .op true (.p (.iad 1) [.t 56, .t 60]) <|
          .op true (.p (.ld none) [.t 61]) <|
          .op true (.p (.bin .neq) [.t 54, .t 62]) <|
          .br 63
           (.ret [(.c (bool false), none)])
           (.op true (.p (.fad 2) [.t 6]) <|
           .op true (.p (.ld none) [.t 64]) <|
           .op true (.p (.fad 11) [.t 1]) <|
           .op true (.p (.ld none) [.t 66]) <|
           .op true (.p (.iad 1) [.t 67, .t 42]) <|
           .op true (.p (.ld none) [.t 68]) <|
           .op true (.p (.iad 1) [.t 65, .t 69]) <|
           .op true (.p (.ld none) [.t 70]) <|
           .op true (.p (.fad 10) [.t 1]) <|
           .op true (.p (.ld none) [.t 72]) <|
           .op true (.p (.fad 2) [.t 7]) <|
           .op true (.p (.ld none) [.t 74]) <|
           .op true (.p (.iad 1) [.t 75, .t 42]) <|
           .op true (.p (.ld none) [.t 76]) <|
           .op true (.p (.iad 1) [.t 73, .t 77]) <|
           .op true (.p (.ld none) [.t 78]) <|
           .op true (.p (.bin .neq) [.t 71, .t 79]) <|
           .br 80
            (.ret [(.c (bool false), none)])
            (.op true (.p (.bin .add) [.t 42, .c (int 1)]) <|
            .again 0 [.t 81])))
          (.loop 0 [.c (int 0)] <|
          .op true (.p (.fad 0) [.t 7]) <|
          .op true (.p (.ld none) [.t 48]) <|
          .op true (.p (.bin .lss) [.t 47, .t 49]) <|
          .br 50
           (.op true (.p (.fad 11) [.t 1]) <|
           .op true (.p (.ld none) [.t 51]) <|
           .op true (.p (.fad 3) [.t 7]) <|
           .op true (.p (.ld none) [.t 53]) <|
           .op true (.p (.iad 1) [.t 54, .t 47]) <|
           .op true (.p (.ld none) [.t 55]) <|
           .op true (.p (.iad 1) [.t 52, .t 56]) <|
           .op true (.p (.ld none) [.t 57]) <|
           .op true (.p (.fad 3) [.t 6]) <|
           .op true (.p (.ld none) [.t 59]) <|
           .op true (.p (.fad 10) [.t 1]) <|
           .op true (.p (.ld none) [.t 61]) <|
           .op true (.p (.iad 1) [.t 62, .t 47]) <|
           .op true (.p (.ld none) [.t 63]) <|
           .op true (.p (.iad 1) [.t 60, .t 64]) <|
           .op true (.p (.ld none) [.t 65]) <|
           .op true (.p (.bin .neq) [.t 58, .t 66]) <|
           .br 67
            (.ret [(.c (bool false), none)])
            (.op true (.p (.bin .add) [.t 47, .c (int 1)]) <|
            .again 0 [.t 68]))
           (.loop 0 [.c (int 0)] <|
           .op true (.p (.fad 1) [.t 7]) <|
           .op true (.p (.ld none) [.t 52]) <|
           .op true (.p .len [.t 53]) <|
           .op true (.p (.bin .lss) [.t 51, .t 54]) <|
           .br 55
            (.loop 1 [.c (int 0)] <|
            .op true (.p (.fad 1) [.t 7]) <|
            .op true (.p (.ld none) [.t 57]) <|
            .op true (.p .len [.t 58]) <|
            .op true (.p (.bin .lss) [.t 56, .t 59]) <|
            .br 60
             (.op true (.p (.fad 2) [.t 7]) <|
             .op true (.p (.ld none) [.t 61]) <|
             .op true (.p (.iad 1) [.t 62, .t 51]) <|
             .op true (.p (.ld none) [.t 63]) <|
             .op true (.p (.fad 1) [.t 7]) <|
             .op true (.p (.ld none) [.t 65]) <|
             .op true (.p (.iad 1) [.t 66, .t 56]) <|
             .op true (.p (.ld none) [.t 67]) <|
             .op true (.p (.bin .eql) [.t 64, .t 68]) <|
             .br 69
              (.op true (.p (.fad 11) [.t 1]) <|
              .op true (.p (.ld none) [.t 70]) <|
              .op true (.p (.fad 4) [.t 7]) <|
              .op true (.p (.ld none) [.t 72]) <|
              .op true (.p (.iad 1) [.t 73, .t 51]) <|
              .op true (.p (.ld none) [.t 74]) <|
              .op true (.p (.iad 1) [.t 75, .t 56]) <|
              .op true (.p (.ld none) [.t 76]) <|
              .op true (.p (.iad 1) [.t 71, .t 77]) <|
              .op true (.p (.ld none) [.t 78]) <|
              .op true (.p (.fad 4) [.t 6]) <|
              .op true (.p (.ld none) [.t 80]) <|
              .op true (.p (.fad 11) [.t 1]) <|
              .op true (.p (.ld none) [.t 82]) <|
              .op true (.p (.iad 1) [.t 83, .t 51]) <|
              .op true (.p (.ld none) [.t 84]) <|
              .op true (.p (.iad 1) [.t 81, .t 85]) <|
              .op true (.p (.ld none) [.t 86]) <|
              .op true (.p (.fad 11) [.t 1]) <|
              .op true (.p (.ld none) [.t 88]) <|
              .op true (.p (.iad 1) [.t 89, .t 56]) <|
              .op true (.p (.ld none) [.t 90]) <|
              .op true (.p (.iad 1) [.t 87, .t 91]) <|
              .op true (.p (.ld none) [.t 92]) <|
              .op true (.p (.bin .neq) [.t 79, .t 93]) <|
              .br 94
               (.ret [(.c (bool false), none)])
               (.op true (.p (.bin .add) [.t 56, .c (int 1)]) <|
               .again 1 [.t 95]))
              (.op true (.p (.bin .add) [.t 56, .c (int 1)]) <|
              .again 1 [.t 70]))
             (.op true (.p (.bin .add) [.t 51, .c (int 1)]) <|
             .again 0 [.t 61]))
            (.ret [(.c (bool true), none)]))))))))))
structure HSpecU (P : Program) (ν : Nat → FuncId) : Prop extends HSpec P ν where
  l06Is : Has P ν 256 1 V_spec_l06Is
set_option maxHeartbeats 8000000 in
theorem l06Is_fz (K : HSpecU P ν) (f : Fu) (b : SmallU f) : Fz (OkM P ν) 256 [.agg f.cells] (bool (decide (IsFu f))) := by
  refine Fn.fzb fun H nx => K.l06Is _ _ _ _ rfl fun hwf => ?_
  unfold V_spec_l06Is
  have bo := b.ob
  have ba := b.ar
  try simp (disch := (first | rfl | with_reducible assumption | with_reducible solve_by_elim (maxDepth := 8) [Shape.inT, Shape.inI, Shape.inC, Shape.inK, Shape.obF, Shape.obT, Shape.arI, Arr.inF] | omega)) only [S2, Nat.reduceEqDiff, Nat.reduceAdd, iput, puts, SU f]
  refine ⟨?_, ?_⟩
  all_goals
    try simp (disch := (first | rfl | with_reducible assumption | with_reducible solve_by_elim (maxDepth := 8) [Shape.inT, Shape.inI, Shape.inC, Shape.inK, Shape.obF, Shape.obT, Shape.arI, Arr.inF] | omega)) only [S2, Nat.reduceEqDiff, Nat.reduceAdd, iput, puts, SU f]
    refine den_newG fun H1 z1 e1 => den_newG fun H2 z2 e2 => ?_
    have z1 := (e2 nx (by omega)).trans z1
    first
    | refine den_stG (o := nx) (p := 0) (k := 5) (m := 5) (c' := f.s.cells) (by rfl) (by rfl) z1 (by rfl) (by rfl) (show 0 + 5 ≤ 5 by omega) (by rfl) (by rfl) fun H3 xc e3 => ?_
    | refine den_stG (o := nx + 1) (p := 0) (k := 5) (m := 5) (c' := f.s.cells) (by rfl) (by rfl) z2 (by rfl) (by rfl) (show 0 + 5 ≤ 5 by omega) (by rfl) (by rfl) fun H3 xc e3 => ?_
    first
    | refine den_stG (o := nx + 1) (p := 0) (k := 5) (m := 5) (c' := f.t.cells) (by rfl) (by rfl) ((e3 _ (by omega)).trans z2) (by rfl) (by rfl) (show 0 + 5 ≤ 5 by omega) (by rfl) (by rfl) fun H4 xd e4 => ?_
    | refine den_stG (o := nx) (p := 0) (k := 5) (m := 5) (c' := f.t.cells) (by rfl) (by rfl) ((e3 _ (by omega)).trans z1) (by rfl) (by rfl) (show 0 + 5 ≤ 5 by omega) (by rfl) (by rfl) fun H4 xd e4 => ?_
    have xc := (e4 _ (by omega)).trans xc
    have sub : Sub H H4 := by
      intro o c ho
      have q1 : o ≠ nx := fun e => by rw [e, hwf nx (Nat.le_refl _)] at ho; cases ho
      have q2 : o ≠ nx + 1 := fun e => by rw [e, hwf (nx + 1) (by omega)] at ho; cases ho
      rw [e4 _ (by omega), e3 _ (by omega), e2 _ (by omega), e1 _ (by omega)]; exact ho
    clear z1 z2 e1 e2 e3 e4
    repeat (first | simp (disch := (first | rfl | with_reducible assumption | with_reducible solve_by_elim (maxDepth := 8) [Shape.inT, Shape.inI, Shape.inC, Shape.inK, Shape.obF, Shape.obT, Shape.arI, Arr.inF] | omega)) only [S2, Nat.reduceEqDiff, Nat.reduceAdd, iput, puts, SU f, p_ldsm (l := 5) xc rfl] | (refine den_call rfl (by first | (simp only [SS, Nat.reduceEqDiff, Nat.reduceAdd, iput, puts, FF, frzL_cat, frzL_fu]; done) | (simp only [SS, Nat.reduceEqDiff, Nat.reduceAdd, iput, puts, FF, frzL_cat, frzL_fu]; rfl)) (by first | exact (l02Is_ok K.toHSpec f.s b.s.toSmall).fzb) ?_) | (refine den_calli rfl (by first | (simp only [SS, Nat.reduceEqDiff, Nat.reduceAdd, iput, puts, FF, frzL_cat, frzL_fu]; done) | (simp only [SS, Nat.reduceEqDiff, Nat.reduceAdd, iput, puts, FF, frzL_cat, frzL_fu]; rfl)) (by first | exact (l02Is_ok K.toHSpec f.s b.s.toSmall).fzb) ?_))
    refine ⟨fun h1 => ?_, fun h1 => ?_⟩
    · exact ⟨_, rfl, H, sub, ret_false (fun m => h1 m.s), rfl, by omega⟩
    repeat (first | simp (disch := (first | rfl | with_reducible assumption | with_reducible solve_by_elim (maxDepth := 8) [Shape.inT, Shape.inI, Shape.inC, Shape.inK, Shape.obF, Shape.obT, Shape.arI, Arr.inF] | omega)) only [S2, Nat.reduceEqDiff, Nat.reduceAdd, iput, puts, SU f, p_ldsm (l := 5) xd rfl] | (refine den_call rfl (by first | (simp only [SS, Nat.reduceEqDiff, Nat.reduceAdd, iput, puts, FF, frzL_cat, frzL_fu]; done) | (simp only [SS, Nat.reduceEqDiff, Nat.reduceAdd, iput, puts, FF, frzL_cat, frzL_fu]; rfl)) (by first | exact (l02Is_ok K.toHSpec f.t b.t.toSmall).fzb) ?_) | (refine den_calli rfl (by first | (simp only [SS, Nat.reduceEqDiff, Nat.reduceAdd, iput, puts, FF, frzL_cat, frzL_fu]; done) | (simp only [SS, Nat.reduceEqDiff, Nat.reduceAdd, iput, puts, FF, frzL_cat, frzL_fu]; rfl)) (by first | exact (l02Is_ok K.toHSpec f.t b.t.toSmall).fzb) ?_))
    refine ⟨fun h2 => ?_, fun h2 => ?_⟩
    · exact ⟨_, rfl, H, sub, ret_false (fun m => h2 m.t), rfl, by omega⟩
    have s := h1.1
    have t := h2.1
    have n1 := s.n40
    have n2 := t.n40
    have n3 := t.o8
    have n4 := t.o0
    have n5 := s.il
    have n6 := s.o8
    have n7 := s.o0
    try simp (disch := (first | rfl | with_reducible assumption | with_reducible solve_by_elim (maxDepth := 8) [Shape.inT, Shape.inI, Shape.inC, Shape.inK, Shape.obF, Shape.obT, Shape.arI, Arr.inF] | omega)) only [S2, Nat.reduceEqDiff, Nat.reduceAdd, iput, puts, SU f, p_fadm (l := 5) xc rfl, p_ldm (n := 5) xc rfl]
    refine ⟨fun h3 => ?_, fun h3 => ?_⟩
    · exact ⟨_, rfl, H, sub, ret_false (fun m => h3 m.m.ol), rfl, by omega⟩
    try simp (disch := (first | rfl | with_reducible assumption | with_reducible solve_by_elim (maxDepth := 8) [Shape.inT, Shape.inI, Shape.inC, Shape.inK, Shape.obF, Shape.obT, Shape.arI, Arr.inF] | omega)) only [S2, Nat.reduceEqDiff, Nat.reduceAdd, iput, puts, SU f, p_fadm (l := 5) xc rfl, p_ldm (n := 5) xc rfl]
    refine ⟨fun h4 => ?_, fun h4 => ?_⟩
    · exact ⟨_, rfl, H, sub, ret_false (fun m => h4 (by rw [m.m.al])), rfl, by omega⟩
    repeat (first | simp (disch := (first | rfl | with_reducible assumption | with_reducible solve_by_elim (maxDepth := 8) [Shape.inT, Shape.inI, Shape.inC, Shape.inK, Shape.obF, Shape.obT, Shape.arI, Arr.inF] | omega)) only [S2, Nat.reduceEqDiff, Nat.reduceAdd, iput, puts, SU f, p_fadm (l := 5) xd rfl, p_ldm (n := 5) xd rfl] | (refine den_call rfl (by first | (simp only [SS, Nat.reduceEqDiff, Nat.reduceAdd, iput, puts, FF, frzL_cat, frzL_fu]; done) | (simp only [SS, Nat.reduceEqDiff, Nat.reduceAdd, iput, puts, FF, frzL_cat, frzL_fu]; rfl)) (by first | exact (l01Map_ok K.l01Map f.ob f.t.o (by omega)).fzb) ?_) | (refine den_calli rfl (by first | (simp only [SS, Nat.reduceEqDiff, Nat.reduceAdd, iput, puts, FF, frzL_cat, frzL_fu]; done) | (simp only [SS, Nat.reduceEqDiff, Nat.reduceAdd, iput, puts, FF, frzL_cat, frzL_fu]; rfl)) (by first | exact (l01Map_ok K.l01Map f.ob f.t.o (by omega)).fzb) ?_))
    refine ⟨fun h5 => ?_, fun h5 => ?_⟩
    · exact ⟨_, rfl, H, sub, ret_false (fun m => h5 m.m.ow), rfl, by omega⟩
    repeat (first | simp (disch := (first | rfl | with_reducible assumption | with_reducible solve_by_elim (maxDepth := 8) [Shape.inT, Shape.inI, Shape.inC, Shape.inK, Shape.obF, Shape.obT, Shape.arI, Arr.inF] | omega)) only [S2, Nat.reduceEqDiff, Nat.reduceAdd, iput, puts, SU f, p_fadm (l := 5) xd rfl, p_ldm (n := 5) xd rfl] | (refine den_call rfl (by first | (simp only [SS, Nat.reduceEqDiff, Nat.reduceAdd, iput, puts, FF, frzL_cat, frzL_fu]; done) | (simp only [SS, Nat.reduceEqDiff, Nat.reduceAdd, iput, puts, FF, frzL_cat, frzL_fu]; rfl)) (by first | exact (l01Map_ok K.l01Map f.ar f.t.f.length (by omega)).fzb) ?_) | (refine den_calli rfl (by first | (simp only [SS, Nat.reduceEqDiff, Nat.reduceAdd, iput, puts, FF, frzL_cat, frzL_fu]; done) | (simp only [SS, Nat.reduceEqDiff, Nat.reduceAdd, iput, puts, FF, frzL_cat, frzL_fu]; rfl)) (by first | exact (l01Map_ok K.l01Map f.ar f.t.f.length (by omega)).fzb) ?_))
    refine ⟨fun h6 => ?_, fun h6 => ?_⟩
    · exact ⟨_, rfl, H, sub, ret_false (fun m => h6 m.m.aw), rfl, by omega⟩
    have iO : ∀ x, Ob f.s x → In f.ob x := fun x hx => ⟨hx.1, by have := hx.2; omega⟩
    have iA : ∀ x, Arr f.s x → In f.ar x := fun x hx => ⟨hx.1, by have := hx.2; omega⟩
    have oO : ∀ x, Ob f.s x → Ob f.t (f.O x) := fun x hx => h5.at (iO x hx)
    have aA : ∀ x, Arr f.s x → Arr f.t (f.A x) := fun x hx => h6.at (iA x hx)
    refine den_for f.s.f.length (fun i => ∀ a : Nat, a < i → f.t.F (f.A a) = f.O (f.s.F a) ∧ f.t.T (f.A a) = f.O (f.s.T a)) (fun x hx => by omega) fun i hi hp => ?_
    by_cases hlt : i < f.s.f.length
    · have ia := Arr.of (c := f.s) hlt
      try simp (disch := (first | rfl | with_reducible assumption | with_reducible solve_by_elim (maxDepth := 8) [Shape.inT, Shape.inI, Shape.inC, Shape.inK, Shape.obF, Shape.obT, Shape.arI, Arr.inF] | omega)) only [S2, Nat.reduceEqDiff, Nat.reduceAdd, iput, puts, SU f, hlt, p_fadm (l := 5) xc rfl, p_ldm (n := 5) xc rfl, p_fadm (l := 5) xd rfl, p_ldm (n := 5) xd rfl]
      refine ⟨fun h7 => ?_, fun h7 => ⟨fun h8 => ?_, fun h8 => up rfl hlt fun k hk => ?_⟩⟩
      · exact ⟨_, rfl, H, sub, ret_false (fun m => h7 (m.m.ends i (by omega)).1), rfl, by omega⟩
      · exact ⟨_, rfl, H, sub, ret_false (fun m => h8 (m.m.ends i (by omega)).2), rfl, by omega⟩
      · by_cases e : k = i
        · subst e; exact ⟨h7, h8⟩
        · exact hp k (by omega)
    have hp1 := fun (a : Nat) (ha : a < f.ar.length) => hp a (show a < i by omega)
    try simp (disch := (first | rfl | with_reducible assumption | with_reducible solve_by_elim (maxDepth := 8) [Shape.inT, Shape.inI, Shape.inC, Shape.inK, Shape.obF, Shape.obT, Shape.arI, Arr.inF] | omega)) only [S2, Nat.reduceEqDiff, Nat.reduceAdd, iput, puts, SU f, hlt, p_fadm (l := 5) xc rfl, p_ldm (n := 5) xc rfl, p_fadm (l := 5) xd rfl, p_ldm (n := 5) xd rfl]
    clear hp hlt hi
    refine den_for f.s.i.length (fun i => ∀ x : Nat, x < i → f.A (f.s.I x) = f.t.I (f.O x)) (fun x hx => by omega) fun i hi hp => ?_
    by_cases hlt : i < f.s.i.length
    · have io := s.obI hlt
      have io2 : (i : Int) < f.s.o := io.2
      try simp (disch := (first | rfl | with_reducible assumption | with_reducible solve_by_elim (maxDepth := 8) [Shape.inT, Shape.inI, Shape.inC, Shape.inK, Shape.obF, Shape.obT, Shape.arI, Arr.inF] | omega)) only [S2, Nat.reduceEqDiff, Nat.reduceAdd, iput, puts, SU f, io2, p_fadm (l := 5) xc rfl, p_ldm (n := 5) xc rfl, p_fadm (l := 5) xd rfl, p_ldm (n := 5) xd rfl]
      refine ⟨fun h7 => ?_, fun h7 => up rfl hlt fun k hk => ?_⟩
      · exact ⟨_, rfl, H, sub, ret_false (fun m => h7 (m.m.ids i hlt)), rfl, by omega⟩
      · by_cases e : k = i
        · subst e; exact h7
        · exact hp k (by omega)
    have hp2 := fun (a : Nat) (ha : a < f.s.i.length) => hp a (show a < i by omega)
    have io2 : ¬ (i : Int) < f.s.o := by omega
    try simp (disch := (first | rfl | with_reducible assumption | with_reducible solve_by_elim (maxDepth := 8) [Shape.inT, Shape.inI, Shape.inC, Shape.inK, Shape.obF, Shape.obT, Shape.arI, Arr.inF] | omega)) only [S2, Nat.reduceEqDiff, Nat.reduceAdd, iput, puts, SU f, io2, p_fadm (l := 5) xc rfl, p_ldm (n := 5) xc rfl, p_fadm (l := 5) xd rfl, p_ldm (n := 5) xd rfl]
    clear hp hlt hi io2
    refine den_for f.s.f.length (fun i => ∀ a b : Nat, a < i → b < f.s.f.length → f.s.T a = f.s.F b → f.A (f.s.K a b) = f.t.K (f.A a) (f.A b)) (fun x _ hx => by omega) fun i hi hp => ?_
    by_cases hlt : i < f.s.f.length
    · have ia := Arr.of (c := f.s) hlt
      try simp (disch := (first | rfl | with_reducible assumption | with_reducible solve_by_elim (maxDepth := 8) [Shape.inT, Shape.inI, Shape.inC, Shape.inK, Shape.obF, Shape.obT, Shape.arI, Arr.inF] | omega)) only [S2, Nat.reduceEqDiff, Nat.reduceAdd, iput, puts, SU f, hlt, p_fadm (l := 5) xc rfl, p_ldm (n := 5) xc rfl, p_fadm (l := 5) xd rfl, p_ldm (n := 5) xd rfl]
      refine den_for f.s.f.length (fun j => ∀ b : Nat, b < j → f.s.T i = f.s.F b → f.A (f.s.K i b) = f.t.K (f.A i) (f.A b)) (fun x hx => by omega) fun j hj hq => ?_
      by_cases hlt2 : j < f.s.f.length
      · have ja := Arr.of (c := f.s) hlt2
        try simp (disch := (first | rfl | with_reducible assumption | with_reducible solve_by_elim (maxDepth := 8) [Shape.inT, Shape.inI, Shape.inC, Shape.inK, Shape.obF, Shape.obT, Shape.arI, Arr.inF] | omega)) only [S2, Nat.reduceEqDiff, Nat.reduceAdd, iput, puts, SU f, hlt2, p_fadm (l := 5) xc rfl, p_ldm (n := 5) xc rfl, p_fadm (l := 5) xd rfl, p_ldm (n := 5) xd rfl]
        refine ⟨fun h7 => ?_, fun h7 => up rfl hlt2 fun k hk hk2 => ?_⟩
        · have ka : Arr f.s (f.s.K i j) := s.arK ia ja h7
          try simp (disch := (first | rfl | with_reducible assumption | with_reducible solve_by_elim (maxDepth := 8) [Shape.inT, Shape.inI, Shape.inC, Shape.inK, Shape.obF, Shape.obT, Shape.arI, Arr.inF] | omega)) only [S2, Nat.reduceEqDiff, Nat.reduceAdd, iput, puts, SU f, p_fadm (l := 5) xc rfl, p_ldm (n := 5) xc rfl, p_fadm (l := 5) xd rfl, p_ldm (n := 5) xd rfl]
          refine ⟨fun h8 => ?_, fun h8 => up rfl hlt2 fun k hk hk2 => ?_⟩
          · exact ⟨_, rfl, H, sub, ret_false (fun m => h8 (m.m.comp i j hlt hlt2 ((s.kI ia ja).2 h7))), rfl, by omega⟩
          · by_cases e : k = j
            · subst e; exact h8
            · exact hq k (by omega) hk2
        · by_cases e : k = j
          · subst e; exact absurd hk2 h7
          · exact hq k (by omega) hk2
      · try simp (disch := (first | rfl | with_reducible assumption | with_reducible solve_by_elim (maxDepth := 8) [Shape.inT, Shape.inI, Shape.inC, Shape.inK, Shape.obF, Shape.obT, Shape.arI, Arr.inF] | omega)) only [S2, Nat.reduceEqDiff, Nat.reduceAdd, iput, puts, hlt2, p_fadm (l := 5) xc rfl, p_ldm (n := 5) xc rfl]
        refine up rfl hlt fun k b hk hb hk2 => ?_
        by_cases e : k = i
        · subst e; exact hq b (by omega) hk2
        · exact hp k b (by omega) hb hk2
    · try simp (disch := (first | rfl | with_reducible assumption | with_reducible solve_by_elim (maxDepth := 8) [Shape.inT, Shape.inI, Shape.inC, Shape.inK, Shape.obF, Shape.obT, Shape.arI, Arr.inF] | omega)) only [S2, Nat.reduceEqDiff, Nat.reduceAdd, iput, puts, hlt, p_fadm (l := 5) xc rfl, p_ldm (n := 5) xc rfl]
      exact ⟨_, rfl, H, sub, ret_true (⟨h1, h2, h3, by omega, h5, h6, hp1, hp2, fun a b' ha hb hk => hp a b' (by omega) hb ((s.kI (Arr.of ha) (Arr.of hb)).1 hk)⟩), rfl, by omega⟩
def V_spec_IsFunctor : Vc :=
  .op true (.p .box [.t 0]) <|
  .op true (.p (.ld (some 12)) [.t 1]) <|
  .op true (.call (.f 256) [.t 2]) <|
  .ret [(.t 3, none)]
theorem sIsFunctor_fz (K : HSpecU P ν) (h : Has P ν 117 1 V_spec_IsFunctor) (f : Fu) (b : SmallU f) : Fz (OkM P ν) 117 [.agg f.cells] (bool (decide (IsFu f))) := by
  refine Fn.fzb fun H nx => h _ _ _ _ rfl fun hwf => ?_
  unfold V_spec_IsFunctor
  repeat (first | simp (disch := (first | rfl | with_reducible assumption | with_reducible solve_by_elim (maxDepth := 8) [Shape.inT, Shape.inI, Shape.inC, Shape.inK, Shape.obF, Shape.obT, Shape.arI, Arr.inF] | omega)) only [S2, Nat.reduceEqDiff, Nat.reduceAdd, iput, puts, SU f] | (refine den_call rfl (by first | (simp only [SS, Nat.reduceEqDiff, Nat.reduceAdd, iput, puts, FF, frzL_cat, frzL_fu]; done) | (simp only [SS, Nat.reduceEqDiff, Nat.reduceAdd, iput, puts, FF, frzL_cat, frzL_fu]; rfl)) (by first | exact l06Is_fz K f b) ?_) | (refine den_calli rfl (by first | (simp only [SS, Nat.reduceEqDiff, Nat.reduceAdd, iput, puts, FF, frzL_cat, frzL_fu]; done) | (simp only [SS, Nat.reduceEqDiff, Nat.reduceAdd, iput, puts, FF, frzL_cat, frzL_fu]; rfl)) (by first | exact l06Is_fz K f b) ?_))
  exact ⟨_, rfl, H, fun _ _ h => h, rfl, rfl, Nat.le_refl _⟩
end Go.Av
