/-
  The reference's check of a monoid.
-/
import Derived.Test.YtbalggpkmaabmaaAvW2
namespace Go.Av
open Classical
set_option linter.unusedSimpArgs false
set_option linter.unusedVariables false
variable {P : Program} {ν : Nat → FuncId}

structure WhP (R : List (List Int)) : Prop where
  un : ∀ i, i < R.length → E R 0 i = i ∧ E R i 0 = i
  as : ∀ i j k : Nat, i < R.length → j < R.length → k < R.length → gI (gR R (E R i j)) k = gI (gR R i) (E R j k)
def V_spec_l35Whole : Vc :=
  .loop 0 [.c (int 0)] <|
  .op true (.p .len [.t 0]) <|
  .op true (.p (.bin .lss) [.t 2, .t 3]) <|
  .br 4
   (.op true (.p (.iad 1) [.t 0, .t 1]) <|
   .op true (.p (.ld none) [.t 5]) <|
   .op true (.p (.iad 1) [.t 6, .t 2]) <|
   .op true (.p (.ld none) [.t 7]) <|
   .op true (.p (.bin .neq) [.t 8, .t 2]) <|
   .br 9
    (.ret [(.c (bool false), none)])
    (.op true (.p (.iad 1) [.t 0, .t 2]) <|
    .op true (.p (.ld none) [.t 10]) <|
    .op true (.p (.iad 1) [.t 11, .t 1]) <|
    .op true (.p (.ld none) [.t 12]) <|
    .op true (.p (.bin .neq) [.t 13, .t 2]) <|
    .br 14
     (.ret [(.c (bool false), none)])
     (.loop 1 [.c (int 0)] <|
     .op true (.p .len [.t 0]) <|
     .op true (.p (.bin .lss) [.t 15, .t 16]) <|
     .br 17
      (.loop 2 [.c (int 0)] <|
      .op true (.p .len [.t 0]) <|
      .op true (.p (.bin .lss) [.t 18, .t 19]) <|
      .br 20
       (.op true (.p (.iad 1) [.t 0, .t 2]) <|
       .op true (.p (.ld none) [.t 21]) <|
       .op true (.p (.iad 1) [.t 22, .t 15]) <|
       .op true (.p (.ld none) [.t 23]) <|
       .op true (.p (.iad 1) [.t 0, .t 24]) <|
       .op true (.p (.ld none) [.t 25]) <|
       .op true (.p (.iad 1) [.t 26, .t 18]) <|
       .op true (.p (.ld none) [.t 27]) <|
       .op true (.p (.iad 1) [.t 0, .t 2]) <|
       .op true (.p (.ld none) [.t 29]) <|
       .op true (.p (.iad 1) [.t 0, .t 15]) <|
       .op true (.p (.ld none) [.t 31]) <|
       .op true (.p (.iad 1) [.t 32, .t 18]) <|
       .op true (.p (.ld none) [.t 33]) <|
       .op true (.p (.iad 1) [.t 30, .t 34]) <|
       .op true (.p (.ld none) [.t 35]) <|
       .op true (.p (.bin .neq) [.t 28, .t 36]) <|
       .br 37
        (.ret [(.c (bool false), none)])
        (.op true (.p (.bin .add) [.t 18, .c (int 1)]) <|
        .again 2 [.t 38]))
       (.op true (.p (.bin .add) [.t 15, .c (int 1)]) <|
       .again 1 [.t 21]))
      (.op true (.p (.bin .add) [.t 2, .c (int 1)]) <|
      .again 0 [.t 18]))))
   (.ret [(.c (bool true), none)])
set_option maxHeartbeats 4000000 in
theorem l35Whole_fz (h : Has P ν 419 2 V_spec_l35Whole) (R : List (List Int)) (hl : R.length ≤ 1048576) (pos : 0 < R.length) (g1 : SqP R R.length) :
    Fz (OkM P ν) 419 [.sl (rows R) R.length, int 0] (bool (decide (WhP R))) := by
  refine Fn.fzb fun H nx => h _ _ _ _ rfl fun hwf => ?_
  unfold V_spec_l35Whole
  have len : ∀ i' : Nat, i' < R.length → (gR R (i' : Int)).length = R.length := fun i' h' => (g1 i' h').1
  have rg : ∀ i' j', i' < R.length → j' < R.length → 0 ≤ E R i' j' ∧ E R i' j' < R.length := fun i' j' h' hj => (g1 i' h').2 j' (by rw [len i' h']; exact hj)
  try simp (disch := (first | rfl | with_reducible assumption | with_reducible solve_by_elim (maxDepth := 8) [Shape.inT, Shape.inI, Shape.inC, Shape.inK, Shape.obF, Shape.obT, Shape.arI, Arr.inF] | omega)) only [S2, Nat.reduceEqDiff, Nat.reduceAdd, iput, puts]
  refine den_for R.length (fun i => ∀ i', i' < i → (E R 0 i' = i' ∧ E R i' 0 = i') ∧ ∀ j k : Nat, j < R.length → k < R.length → gI (gR R (E R i' j)) k = gI (gR R i') (E R j k)) (fun k hk => by omega) fun i hi3 pi3 => ?_
  by_cases hlb : i < R.length
  · have iR : InR R (i : Int) := InR.nat hlb
    have zR : InR R 0 := ⟨by omega, by omega⟩
    have gl := len i hlb
    have g0 : (gR R 0).length = R.length := len 0 (by omega)
    have i0 : In (gR R (i : Int)) 0 := ⟨by omega, by omega⟩
    have i1 : In (gR R 0) (i : Int) := ⟨by omega, by omega⟩
    have f0 : gI (gR R (i : Int)) 0 = E R i 0 := rfl
    have f1 : gI (gR R 0) (i : Int) = E R 0 i := rfl
    try simp (disch := (first | rfl | with_reducible assumption | with_reducible solve_by_elim (maxDepth := 8) [Shape.inT, Shape.inI, Shape.inC, Shape.inK, Shape.obF, Shape.obT, Shape.arI, Arr.inF] | omega)) only [S2, Nat.reduceEqDiff, Nat.reduceAdd, iput, puts, hlb, f0, f1]
    refine ⟨fun g2 => ?_, fun g2 => ?_⟩
    · refine ⟨_, rfl, H, fun _ _ h => h, ret_false (fun m => ?_), rfl, Nat.le_refl _⟩
      exact absurd (m.un i hlb).1 (by simpa using g2)
    have g2 : E R 0 i = i := by simpa using g2
    try simp (disch := (first | rfl | with_reducible assumption | with_reducible solve_by_elim (maxDepth := 8) [Shape.inT, Shape.inI, Shape.inC, Shape.inK, Shape.obF, Shape.obT, Shape.arI, Arr.inF] | omega)) only [S2, Nat.reduceEqDiff, Nat.reduceAdd, iput, puts, hlb, f0, f1]
    refine ⟨fun g3 => ?_, fun g3 => ?_⟩
    · refine ⟨_, rfl, H, fun _ _ h => h, ret_false (fun m => ?_), rfl, Nat.le_refl _⟩
      exact absurd (m.un i hlb).2 (by simpa using g3)
    have g3 : E R i 0 = i := by simpa using g3
    try simp (disch := (first | rfl | with_reducible assumption | with_reducible solve_by_elim (maxDepth := 8) [Shape.inT, Shape.inI, Shape.inC, Shape.inK, Shape.obF, Shape.obT, Shape.arI, Arr.inF] | omega)) only [S2, Nat.reduceEqDiff, Nat.reduceAdd, iput, puts]
    refine den_for R.length (fun j => ∀ j' : Nat, j' < j → ∀ k : Nat, k < R.length → gI (gR R (E R i j')) k = gI (gR R i) (E R j' k)) (fun k hk => by omega) fun j hj pj => ?_
    by_cases hlj : j < R.length
    · have jR : InR R (j : Int) := InR.nat hlj
      have gl' := len j hlj
      have iI : In (gR R (i : Int)) (j : Int) := ⟨by omega, by omega⟩
      have fold : gI (gR R (i : Int)) (j : Int) = E R i j := rfl
      have eij := rg i j hlb hlj
      have eR : InR R (E R i j) := ⟨eij.1, eij.2⟩
      have ge : (gR R (E R i j)).length = R.length := by
        have := len (E R i j).toNat (by omega)
        rwa [Int.toNat_of_nonneg eij.1] at this
      try simp (disch := (first | rfl | with_reducible assumption | with_reducible solve_by_elim (maxDepth := 8) [Shape.inT, Shape.inI, Shape.inC, Shape.inK, Shape.obF, Shape.obT, Shape.arI, Arr.inF] | omega)) only [S2, Nat.reduceEqDiff, Nat.reduceAdd, iput, puts, hlj]
      refine den_for R.length (fun k => ∀ k' : Nat, k' < k → gI (gR R (E R i j)) k' = gI (gR R i) (E R j k')) (fun k hk => by omega) fun k hk pk => ?_
      by_cases hlk : k < R.length
      · have jK : In (gR R (j : Int)) (k : Int) := ⟨by omega, by omega⟩
        have eK : In (gR R (E R i j)) (k : Int) := ⟨by omega, by omega⟩
        have ejk := rg j k hlj hlk
        have f2 : gI (gR R (j : Int)) (k : Int) = E R j k := rfl
        have iE : In (gR R (i : Int)) (E R j k) := ⟨ejk.1, by omega⟩
        try simp (disch := (first | rfl | with_reducible assumption | with_reducible solve_by_elim (maxDepth := 8) [Shape.inT, Shape.inI, Shape.inC, Shape.inK, Shape.obF, Shape.obT, Shape.arI, Arr.inF] | omega)) only [S2, Nat.reduceEqDiff, Nat.reduceAdd, iput, puts, hlk, fold, f2]
        refine ⟨fun g3 => ?_, fun g3 => ?_⟩
        · refine ⟨_, rfl, H, fun _ _ h => h, ret_false (fun m => ?_), rfl, Nat.le_refl _⟩
          exact absurd (m.as i j k hlb hlj hlk) (by simpa using g3)
        · have g3 : gI (gR R (E R i j)) k = gI (gR R i) (E R j k) := by simpa using g3
          try simp (disch := (first | rfl | with_reducible assumption | with_reducible solve_by_elim (maxDepth := 8) [Shape.inT, Shape.inI, Shape.inC, Shape.inK, Shape.obF, Shape.obT, Shape.arI, Arr.inF] | omega)) only [S2, Nat.reduceEqDiff, Nat.reduceAdd, iput, puts]
          refine up rfl hlk fun k' hk' => ?_
          by_cases ee : k' = k
          · subst ee; exact g3
          · exact pk k' (by omega)
      · try simp (disch := (first | rfl | with_reducible assumption | with_reducible solve_by_elim (maxDepth := 8) [Shape.inT, Shape.inI, Shape.inC, Shape.inK, Shape.obF, Shape.obT, Shape.arI, Arr.inF] | omega)) only [S2, Nat.reduceEqDiff, Nat.reduceAdd, iput, puts, hlk]
        refine up rfl hlj fun j' hj' k' hk' => ?_
        by_cases ee : j' = j
        · subst ee; exact pk k' (by omega)
        · exact pj j' (by omega) k' hk'
    · try simp (disch := (first | rfl | with_reducible assumption | with_reducible solve_by_elim (maxDepth := 8) [Shape.inT, Shape.inI, Shape.inC, Shape.inK, Shape.obF, Shape.obT, Shape.arI, Arr.inF] | omega)) only [S2, Nat.reduceEqDiff, Nat.reduceAdd, iput, puts, hlj]
      refine up rfl hlb fun i' hi' => ?_
      by_cases ee : i' = i
      · subst ee; exact ⟨⟨g2, g3⟩, fun j' k' hj' hk' => pj j' (by omega) k' hk'⟩
      · exact pi3 i' (by omega)
  · try simp (disch := (first | rfl | with_reducible assumption | with_reducible solve_by_elim (maxDepth := 8) [Shape.inT, Shape.inI, Shape.inC, Shape.inK, Shape.obF, Shape.obT, Shape.arI, Arr.inF] | omega)) only [S2, Nat.reduceEqDiff, Nat.reduceAdd, iput, puts, hlb]
    exact ⟨_, rfl, H, fun _ _ h => h, ret_true ⟨fun i hi => (pi3 i (by omega)).1, fun i j k hi hj hk => (pi3 i (by omega)).2 j k hj hk⟩, rfl, Nat.le_refl _⟩
def V_spec_l35Monoid : Vc :=
  .op true (.p .len [.t 0]) <|
  .op true (.p (.bin .gtr) [.t 1, .c (int 0)]) <|
  .br 2
   (.op true (.p .len [.t 0]) <|
   .op true (.call (.f 418) [.t 0, .t 3]) <|
   .br 4
    (.op true (.call (.f 419) [.t 0, .c (int 0)]) <|
    .ret [(.t 5, none)])
    (.ret [(.c (bool false), none)]))
   (.ret [(.c (bool false), none)])
theorem l35Monoid_fz (hm : Has P ν 37 2 V_spec_l01Map) (hq : Has P ν 418 2 V_spec_l03Square) (hw : Has P ν 419 2 V_spec_l35Whole) (h : Has P ν 357 1 V_spec_l35Monoid) (R : List (List Int)) (hl : R.length ≤ 1048576) (hr : ∀ i, i < R.length → (R.getD i []).length ≤ 1048576) :
    Fz (OkM P ν) 357 [.sl (rows R) R.length] (bool (decide (IsMon R))) := by
  refine Fn.fzb fun H nx => h _ _ _ _ rfl fun hwf => ?_
  unfold V_spec_l35Monoid
  have sq := l03Square_fz (P := P) (ν := ν) hm hq R R.length hl hr
  try simp (disch := (first | rfl | with_reducible assumption | with_reducible solve_by_elim (maxDepth := 8) [Shape.inT, Shape.inI, Shape.inC, Shape.inK, Shape.obF, Shape.obT, Shape.arI, Arr.inF] | omega)) only [S2, Nat.reduceEqDiff, Nat.reduceAdd, iput, puts]
  refine ⟨fun p => ?_, fun p => ?_⟩
  · have p : 0 < R.length := by omega
    repeat (first | simp (disch := (first | rfl | with_reducible assumption | with_reducible solve_by_elim (maxDepth := 8) [Shape.inT, Shape.inI, Shape.inC, Shape.inK, Shape.obF, Shape.obT, Shape.arI, Arr.inF] | omega)) only [S2, Nat.reduceEqDiff, Nat.reduceAdd, iput, puts] | (refine den_call rfl (by first | (simp only [SS, Nat.reduceEqDiff, Nat.reduceAdd, iput, puts, FF, frzL_cat]; done) | (simp only [SS, Nat.reduceEqDiff, Nat.reduceAdd, iput, puts, FF, frzL_cat]; rfl)) (by first | exact sq) ?_) | (refine den_calli rfl (by first | (simp only [SS, Nat.reduceEqDiff, Nat.reduceAdd, iput, puts, FF, frzL_cat]; done) | (simp only [SS, Nat.reduceEqDiff, Nat.reduceAdd, iput, puts, FF, frzL_cat]; rfl)) (by first | exact sq) ?_))
    refine ⟨fun g1 => ?_, fun g1 => ?_⟩
    · have g1 : SqP R R.length := by simpa using g1
      have wh := l35Whole_fz (P := P) (ν := ν) hw R hl p g1
      repeat (first | simp (disch := (first | rfl | with_reducible assumption | with_reducible solve_by_elim (maxDepth := 8) [Shape.inT, Shape.inI, Shape.inC, Shape.inK, Shape.obF, Shape.obT, Shape.arI, Arr.inF] | omega)) only [S2, Nat.reduceEqDiff, Nat.reduceAdd, iput, puts] | (refine den_call rfl (by first | (simp only [SS, Nat.reduceEqDiff, Nat.reduceAdd, iput, puts, FF, frzL_cat]; done) | (simp only [SS, Nat.reduceEqDiff, Nat.reduceAdd, iput, puts, FF, frzL_cat]; rfl)) (by first | exact wh) ?_) | (refine den_calli rfl (by first | (simp only [SS, Nat.reduceEqDiff, Nat.reduceAdd, iput, puts, FF, frzL_cat]; done) | (simp only [SS, Nat.reduceEqDiff, Nat.reduceAdd, iput, puts, FF, frzL_cat]; rfl)) (by first | exact wh) ?_))
      refine ⟨_, rfl, H, fun _ _ h => h, ?_, rfl, Nat.le_refl _⟩
      show bool (decide _) = _
      congr 1
      refine decide_eq_decide.2 ⟨fun w => ⟨p, fun i hi => (g1 i hi).1, fun i j hi hj => (g1 i hi).2 j (by rw [(g1 i hi).1]; exact hj), w.un, w.as⟩, fun m => ⟨m.un, m.as⟩⟩
    · refine ⟨_, rfl, H, fun _ _ h => h, ret_false (fun m => ?_), rfl, Nat.le_refl _⟩
      refine absurd ?_ (show ¬ SqP R R.length by simpa using g1)
      exact fun i hi => ⟨m.len i hi, fun k hk => m.rg i k hi (by have := m.len i hi; omega)⟩
  · refine ⟨_, rfl, H, fun _ _ h => h, ret_false (fun m => ?_), rfl, Nat.le_refl _⟩
    have := m.pos
    omega
end Go.Av
