/-
  Monoids, and the reference's checks.
-/
import Derived.Test.YtbalggpkmaabmaaAvW1
namespace Go.Av
open Classical
set_option linter.unusedSimpArgs false
set_option linter.unusedVariables false
variable {P : Program} {ν : Nat → FuncId}

def V_isMonoid : Vc :=
  .op true (.p .len [.t 0]) <|
  .op true (.p .len [.t 0]) <|
  .loop 0 [.c (int 0)] <|
  .op true (.p (.bin .lss) [.t 3, .t 2]) <|
  .br 4
   (.op true (.p (.iad 1) [.t 0, .t 3]) <|
   .op true (.p (.ld none) [.t 5]) <|
   .op true (.p .len [.t 6]) <|
   .op true (.p (.bin .neq) [.t 7, .t 1]) <|
   .br 8
    (.ret [(.c (bool false), none)])
    (.op true (.call (.f 25) [.t 6, .t 1]) <|
    .op true (.p .bnot [.t 9]) <|
    .br 10
     (.ret [(.c (bool false), none)])
     (.op true (.p (.bin .add) [.t 3, .c (int 1)]) <|
     .again 0 [.t 11])))
   (.op true (.p .len [.t 0]) <|
   .loop 0 [.c (int 0)] <|
   .op true (.p (.bin .lss) [.t 6, .t 5]) <|
   .br 7
    (.op true (.p (.iad 1) [.t 0, .t 6]) <|
    .op true (.p (.ld none) [.t 8]) <|
    .op true (.p (.iad 1) [.t 9, .c (int 0)]) <|
    .op true (.p (.ld none) [.t 10]) <|
    .op true (.p (.bin .neq) [.t 11, .t 6]) <|
    .br 12
     (.ret [(.c (bool false), none)])
     (.op true (.p (.iad 1) [.t 0, .c (int 0)]) <|
     .op true (.p (.ld none) [.t 13]) <|
     .op true (.p (.iad 1) [.t 14, .t 6]) <|
     .op true (.p (.ld none) [.t 15]) <|
     .op true (.p (.bin .neq) [.t 16, .t 6]) <|
     .br 17
      (.ret [(.c (bool false), none)])
      (.op true (.p (.bin .add) [.t 6, .c (int 1)]) <|
      .again 0 [.t 18])))
    (.op true (.p .len [.t 0]) <|
    .loop 0 [.c (int 0)] <|
    .op true (.p (.bin .lss) [.t 9, .t 8]) <|
    .br 10
     (.op true (.p .len [.t 0]) <|
     .loop 1 [.c (int 0)] <|
     .op true (.p (.bin .lss) [.t 12, .t 11]) <|
     .br 13
      (.op true (.p .len [.t 0]) <|
      .loop 2 [.c (int 0)] <|
      .op true (.p (.bin .lss) [.t 15, .t 14]) <|
      .br 16
       (.op true (.p (.iad 1) [.t 0, .t 9]) <|
       .op true (.p (.ld none) [.t 17]) <|
       .op true (.p (.iad 1) [.t 18, .t 12]) <|
       .op true (.p (.ld none) [.t 19]) <|
       .op true (.p (.iad 1) [.t 0, .t 20]) <|
       .op true (.p (.ld none) [.t 21]) <|
       .op true (.p (.iad 1) [.t 22, .t 15]) <|
       .op true (.p (.ld none) [.t 23]) <|
       .op true (.p (.iad 1) [.t 0, .t 9]) <|
       .op true (.p (.ld none) [.t 25]) <|
       .op true (.p (.iad 1) [.t 0, .t 12]) <|
       .op true (.p (.ld none) [.t 27]) <|
       .op true (.p (.iad 1) [.t 28, .t 15]) <|
       .op true (.p (.ld none) [.t 29]) <|
       .op true (.p (.iad 1) [.t 26, .t 30]) <|
       .op true (.p (.ld none) [.t 31]) <|
       .op true (.p (.bin .neq) [.t 24, .t 32]) <|
       .br 33
        (.ret [(.c (bool false), none)])
        (.op true (.p (.bin .add) [.t 15, .c (int 1)]) <|
        .again 2 [.t 34]))
       (.op true (.p (.bin .add) [.t 12, .c (int 1)]) <|
       .again 1 [.t 17]))
      (.op true (.p (.bin .add) [.t 9, .c (int 1)]) <|
      .again 0 [.t 14]))
     (.op true (.p (.bin .gtr) [.t 1, .c (int 0)]) <|
     .ret [(.t 11, none)])))
set_option maxHeartbeats 4000000 in
theorem isMonoid_fz (hin : Has P ν 32 3 V_inRange) (hw : Has P ν 25 2 V_within) (h : Has P ν 362 1 V_isMonoid) (R : List (List Int)) (hl : R.length ≤ 1048576) (hr : ∀ i, i < R.length → (R.getD i []).length ≤ 1048576) :
    Fz (OkM P ν) 362 [.sl (rows R) R.length] (bool (decide (IsMon R))) := by
  refine Fn.fzb fun H nx => h _ _ _ _ rfl fun hwf => ?_
  unfold V_isMonoid
  try simp (disch := (first | rfl | with_reducible assumption | with_reducible solve_by_elim (maxDepth := 8) [Shape.inT, Shape.inI, Shape.inC, Shape.inK, Shape.obF, Shape.obT, Shape.arI, Arr.inF] | omega)) only [S2, Nat.reduceEqDiff, Nat.reduceAdd, iput, puts]
  refine den_for R.length (fun i => ∀ i', i' < i → (gR R (i' : Int)).length = R.length ∧ Wn (gR R (i' : Int)) R.length) (fun k hk => by omega) fun i hi pi => ?_
  by_cases hli : i < R.length
  · have iR : InR R (i : Int) := InR.nat hli
    have bl : (gR R (i : Int)).length ≤ 1048576 := hr i hli
    try simp (disch := (first | rfl | with_reducible assumption | with_reducible solve_by_elim (maxDepth := 8) [Shape.inT, Shape.inI, Shape.inC, Shape.inK, Shape.obF, Shape.obT, Shape.arI, Arr.inF] | omega)) only [S2, Nat.reduceEqDiff, Nat.reduceAdd, iput, puts, hli]
    refine ⟨fun g1 => ?_, fun g1 => ?_⟩
    · refine ⟨_, rfl, H, fun _ _ h => h, ret_false (fun m => ?_), rfl, Nat.le_refl _⟩
      have := m.len i hli
      omega
    have g1 : (gR R (i : Int)).length = R.length := by omega
    repeat (first | simp (disch := (first | rfl | with_reducible assumption | with_reducible solve_by_elim (maxDepth := 8) [Shape.inT, Shape.inI, Shape.inC, Shape.inK, Shape.obF, Shape.obT, Shape.arI, Arr.inF] | omega)) only [S2, Nat.reduceEqDiff, Nat.reduceAdd, iput, puts, g1] | (refine den_call rfl (by first | (simp only [SS, Nat.reduceEqDiff, Nat.reduceAdd, iput, puts, FF, frzL_cat]; done) | (simp only [SS, Nat.reduceEqDiff, Nat.reduceAdd, iput, puts, FF, frzL_cat]; rfl)) (by first | exact (within_ok hin hw (gR R (i : Int)) R.length (by omega) (by omega) (by omega)).fzb) ?_) | (refine den_calli rfl (by first | (simp only [SS, Nat.reduceEqDiff, Nat.reduceAdd, iput, puts, FF, frzL_cat]; done) | (simp only [SS, Nat.reduceEqDiff, Nat.reduceAdd, iput, puts, FF, frzL_cat]; rfl)) (by first | exact (within_ok hin hw (gR R (i : Int)) R.length (by omega) (by omega) (by omega)).fzb) ?_))
    refine ⟨fun g2 => ?_, fun g2 => ?_⟩
    · refine ⟨_, rfl, H, fun _ _ h => h, ret_false (fun m => ?_), rfl, Nat.le_refl _⟩
      refine absurd ?_ (show ¬ Wn (gR R (i : Int)) R.length by simpa using g2)
      exact fun k hk => m.rg i k hli (by omega)
    · have g2 : Wn (gR R (i : Int)) R.length := by simpa using g2
      try simp (disch := (first | rfl | with_reducible assumption | with_reducible solve_by_elim (maxDepth := 8) [Shape.inT, Shape.inI, Shape.inC, Shape.inK, Shape.obF, Shape.obT, Shape.arI, Arr.inF] | omega)) only [S2, Nat.reduceEqDiff, Nat.reduceAdd, iput, puts]
      refine up rfl hli fun i' hi' => ?_
      by_cases ee : i' = i
      · subst ee; exact ⟨g1, g2⟩
      · exact pi i' (by omega)
  · have len : ∀ i' : Nat, i' < R.length → (gR R (i' : Int)).length = R.length := fun i' h' => (pi i' (by omega)).1
    have rg : ∀ i' j', i' < R.length → j' < R.length → 0 ≤ E R i' j' ∧ E R i' j' < R.length := fun i' j' h' hj => (pi i' (by omega)).2 j' (by rw [len i' h']; exact hj)
    try simp (disch := (first | rfl | with_reducible assumption | with_reducible solve_by_elim (maxDepth := 8) [Shape.inT, Shape.inI, Shape.inC, Shape.inK, Shape.obF, Shape.obT, Shape.arI, Arr.inF] | omega)) only [S2, Nat.reduceEqDiff, Nat.reduceAdd, iput, puts, hli]
    refine den_for R.length (fun i => ∀ i', i' < i → E R 0 i' = i' ∧ E R i' 0 = i') (fun k hk => by omega) fun i hi2 pi2 => ?_
    by_cases hla : i < R.length
    · have iR : InR R (i : Int) := InR.nat hla
      have zR : InR R 0 := ⟨by omega, by omega⟩
      have g1 := len i hla
      have g0 : (gR R 0).length = R.length := len 0 (by omega)
      have i0 : In (gR R (i : Int)) 0 := ⟨by omega, by omega⟩
      have i1 : In (gR R 0) (i : Int) := ⟨by omega, by omega⟩
      have f0 : gI (gR R (i : Int)) 0 = E R i 0 := rfl
      have f1 : gI (gR R 0) (i : Int) = E R 0 i := rfl
      try simp (disch := (first | rfl | with_reducible assumption | with_reducible solve_by_elim (maxDepth := 8) [Shape.inT, Shape.inI, Shape.inC, Shape.inK, Shape.obF, Shape.obT, Shape.arI, Arr.inF] | omega)) only [S2, Nat.reduceEqDiff, Nat.reduceAdd, iput, puts, hla, f0, f1]
      refine ⟨fun g2 => ?_, fun g2 => ?_⟩
      · refine ⟨_, rfl, H, fun _ _ h => h, ret_false (fun m => ?_), rfl, Nat.le_refl _⟩
        exact absurd (m.un i hla).2 (by simpa using g2)
      have g2 : E R i 0 = i := by simpa using g2
      try simp (disch := (first | rfl | with_reducible assumption | with_reducible solve_by_elim (maxDepth := 8) [Shape.inT, Shape.inI, Shape.inC, Shape.inK, Shape.obF, Shape.obT, Shape.arI, Arr.inF] | omega)) only [S2, Nat.reduceEqDiff, Nat.reduceAdd, iput, puts, hla, f0, f1]
      refine ⟨fun g3 => ?_, fun g3 => ?_⟩
      · refine ⟨_, rfl, H, fun _ _ h => h, ret_false (fun m => ?_), rfl, Nat.le_refl _⟩
        exact absurd (m.un i hla).1 (by simpa using g3)
      have g3 : E R 0 i = i := by simpa using g3
      try simp (disch := (first | rfl | with_reducible assumption | with_reducible solve_by_elim (maxDepth := 8) [Shape.inT, Shape.inI, Shape.inC, Shape.inK, Shape.obF, Shape.obT, Shape.arI, Arr.inF] | omega)) only [S2, Nat.reduceEqDiff, Nat.reduceAdd, iput, puts]
      refine up rfl hla fun i' hi' => ?_
      by_cases ee : i' = i
      · subst ee; exact ⟨g3, g2⟩
      · exact pi2 i' (by omega)
    · have un : ∀ i', i' < R.length → E R 0 i' = i' ∧ E R i' 0 = i' := fun i' h' => pi2 i' (by omega)
      try simp (disch := (first | rfl | with_reducible assumption | with_reducible solve_by_elim (maxDepth := 8) [Shape.inT, Shape.inI, Shape.inC, Shape.inK, Shape.obF, Shape.obT, Shape.arI, Arr.inF] | omega)) only [S2, Nat.reduceEqDiff, Nat.reduceAdd, iput, puts, hla]
      refine den_for R.length (fun i => ∀ i', i' < i → ∀ j k : Nat, j < R.length → k < R.length → gI (gR R (E R i' j)) k = gI (gR R i') (E R j k)) (fun k hk => by omega) fun i hi3 pi3 => ?_
      by_cases hlb : i < R.length
      · have iR : InR R (i : Int) := InR.nat hlb
        have g1 := len i hlb
        try simp (disch := (first | rfl | with_reducible assumption | with_reducible solve_by_elim (maxDepth := 8) [Shape.inT, Shape.inI, Shape.inC, Shape.inK, Shape.obF, Shape.obT, Shape.arI, Arr.inF] | omega)) only [S2, Nat.reduceEqDiff, Nat.reduceAdd, iput, puts, hlb]
        refine den_for R.length (fun j => ∀ j' : Nat, j' < j → ∀ k : Nat, k < R.length → gI (gR R (E R i j')) k = gI (gR R i) (E R j' k)) (fun k hk => by omega) fun j hj pj => ?_
        by_cases hlj : j < R.length
        · have jR : InR R (j : Int) := InR.nat hlj
          have g1' := len j hlj
          have iI : In (gR R (i : Int)) (j : Int) := ⟨by omega, by omega⟩
          have fold : gI (gR R (i : Int)) (j : Int) = E R i j := rfl
          have eij := rg i j hlb hlj
          have eR : InR R (E R i j) := ⟨eij.1, eij.2⟩
          have ge : (gR R (E R i j)).length = R.length := by
            have := len (E R i j).toNat (by omega)
            rwa [Int.toNat_of_nonneg eij.1] at this
          try simp (disch := (first | rfl | with_reducible assumption | with_reducible solve_by_elim (maxDepth := 8) [Shape.inT, Shape.inI, Shape.inC, Shape.inK, Shape.obF, Shape.obT, Shape.arI, Arr.inF] | omega)) only [S2, Nat.reduceEqDiff, Nat.reduceAdd, iput, puts, hlj]
          refine den_for R.length (fun k => ∀ k' : Nat, k' < k → gI (gR R (E R i j)) k' = gI (gR R i) (E R j k')) (fun k hk => by omega) fun k hk pk => ?_
          by_cases hlk : k < R.length
          · have jK : In (gR R (j : Int)) (k : Int) := ⟨by omega, by omega⟩
            have eK : In (gR R (E R i j)) (k : Int) := ⟨by omega, by omega⟩
            have ejk := rg j k hlj hlk
            have f2 : gI (gR R (j : Int)) (k : Int) = E R j k := rfl
            have iE : In (gR R (i : Int)) (E R j k) := ⟨ejk.1, by omega⟩
            try simp (disch := (first | rfl | with_reducible assumption | with_reducible solve_by_elim (maxDepth := 8) [Shape.inT, Shape.inI, Shape.inC, Shape.inK, Shape.obF, Shape.obT, Shape.arI, Arr.inF] | omega)) only [S2, Nat.reduceEqDiff, Nat.reduceAdd, iput, puts, hlk, fold, f2]
            refine ⟨fun g3 => ?_, fun g3 => ?_⟩
            · refine ⟨_, rfl, H, fun _ _ h => h, ret_false (fun m => ?_), rfl, Nat.le_refl _⟩
              exact absurd (m.as i j k hlb hlj hlk) (by simpa using g3)
            · have g3 : gI (gR R (E R i j)) k = gI (gR R i) (E R j k) := by simpa using g3
              try simp (disch := (first | rfl | with_reducible assumption | with_reducible solve_by_elim (maxDepth := 8) [Shape.inT, Shape.inI, Shape.inC, Shape.inK, Shape.obF, Shape.obT, Shape.arI, Arr.inF] | omega)) only [S2, Nat.reduceEqDiff, Nat.reduceAdd, iput, puts]
              refine up rfl hlk fun k' hk' => ?_
              by_cases ee : k' = k
              · subst ee; exact g3
              · exact pk k' (by omega)
          · try simp (disch := (first | rfl | with_reducible assumption | with_reducible solve_by_elim (maxDepth := 8) [Shape.inT, Shape.inI, Shape.inC, Shape.inK, Shape.obF, Shape.obT, Shape.arI, Arr.inF] | omega)) only [S2, Nat.reduceEqDiff, Nat.reduceAdd, iput, puts, hlk]
            refine up rfl hlj fun j' hj' k' hk' => ?_
            by_cases ee : j' = j
            · subst ee; exact pk k' (by omega)
            · exact pj j' (by omega) k' hk'
        · try simp (disch := (first | rfl | with_reducible assumption | with_reducible solve_by_elim (maxDepth := 8) [Shape.inT, Shape.inI, Shape.inC, Shape.inK, Shape.obF, Shape.obT, Shape.arI, Arr.inF] | omega)) only [S2, Nat.reduceEqDiff, Nat.reduceAdd, iput, puts, hlj]
          refine up rfl hlb fun i' hi' j' k' hj' hk' => ?_
          by_cases ee : i' = i
          · subst ee; exact pj j' (by omega) k' hk'
          · exact pi3 i' (by omega) j' k' hj' hk'
      · try simp (disch := (first | rfl | with_reducible assumption | with_reducible solve_by_elim (maxDepth := 8) [Shape.inT, Shape.inI, Shape.inC, Shape.inK, Shape.obF, Shape.obT, Shape.arI, Arr.inF] | omega)) only [S2, Nat.reduceEqDiff, Nat.reduceAdd, iput, puts, hlb]
        refine ⟨_, rfl, H, fun _ _ h => h, ?_, rfl, Nat.le_refl _⟩
        by_cases pos : 0 < R.length
        · have m : IsMon R := ⟨pos, len, rg, un, fun i j k hi hj hk => pi3 i (by omega) j k hj hk⟩
          rw [decide_eq_true m]
          show bool (decide _) = _
          congr 1
          exact decide_eq_true (by omega)
        · have e : decide (IsMon R) = false := decide_eq_false fun m => pos m.pos
          rw [e]
          show bool (decide _) = _
          congr 1
          exact decide_eq_false (by omega)
def SqP (R : List (List Int)) (b : Int) : Prop := ∀ i : Nat, i < R.length → (gR R i).length = R.length ∧ Wn (gR R i) b
def V_spec_l03Square : Vc :=
  .loop 0 [.c (int 0)] <|
  .op true (.p .len [.t 0]) <|
  .op true (.p (.bin .lss) [.t 2, .t 3]) <|
  .br 4
   (.op true (.p (.iad 1) [.t 0, .t 2]) <|
   .op true (.p (.ld none) [.t 5]) <|
   .op true (.p .len [.t 6]) <|
   .op true (.p .len [.t 0]) <|
   .op true (.p (.bin .neq) [.t 7, .t 8]) <|
   .br 9
    (.ret [(.c (bool false), none)])
    (.op true (.p (.iad 1) [.t 0, .t 2]) <|
    .op true (.p (.ld none) [.t 10]) <|
    .op true (.call (.f 37) [.t 1, .t 11]) <|
    .op true (.p .bnot [.t 12]) <|
    .br 13
     (.ret [(.c (bool false), none)])
     (.op true (.p (.bin .add) [.t 2, .c (int 1)]) <|
     .again 0 [.t 14])))
   (.ret [(.c (bool true), none)])
set_option maxHeartbeats 1000000 in
theorem l03Square_fz (hm : Has P ν 37 2 V_spec_l01Map) (h : Has P ν 418 2 V_spec_l03Square) (R : List (List Int)) (b : Int) (hl : R.length ≤ 1048576) (hr : ∀ i, i < R.length → (R.getD i []).length ≤ 1048576) :
    Fz (OkM P ν) 418 [.sl (rows R) R.length, int b] (bool (decide (SqP R b))) := by
  refine Fn.fzb fun H nx => h _ _ _ _ rfl fun hwf => ?_
  unfold V_spec_l03Square
  try simp (disch := (first | rfl | with_reducible assumption | with_reducible solve_by_elim (maxDepth := 8) [Shape.inT, Shape.inI, Shape.inC, Shape.inK, Shape.obF, Shape.obT, Shape.arI, Arr.inF] | omega)) only [S2, Nat.reduceEqDiff, Nat.reduceAdd, iput, puts]
  refine den_for R.length (fun i => ∀ i' : Nat, i' < i → (gR R (i' : Int)).length = R.length ∧ Wn (gR R (i' : Int)) b) (fun k hk => by omega) fun i hi pi => ?_
  by_cases hli : i < R.length
  · have iR : InR R (i : Int) := InR.nat hli
    have bl : (gR R (i : Int)).length ≤ 1048576 := hr i hli
    try simp (disch := (first | rfl | with_reducible assumption | with_reducible solve_by_elim (maxDepth := 8) [Shape.inT, Shape.inI, Shape.inC, Shape.inK, Shape.obF, Shape.obT, Shape.arI, Arr.inF] | omega)) only [S2, Nat.reduceEqDiff, Nat.reduceAdd, iput, puts, hli]
    refine ⟨fun g1 => ?_, fun g1 => ?_⟩
    · refine ⟨_, rfl, H, fun _ _ h => h, ret_false (fun m => ?_), rfl, Nat.le_refl _⟩
      have := (m i hli).1
      omega
    have g1 : (gR R (i : Int)).length = R.length := by omega
    repeat (first | simp (disch := (first | rfl | with_reducible assumption | with_reducible solve_by_elim (maxDepth := 8) [Shape.inT, Shape.inI, Shape.inC, Shape.inK, Shape.obF, Shape.obT, Shape.arI, Arr.inF] | omega)) only [S2, Nat.reduceEqDiff, Nat.reduceAdd, iput, puts, g1] | (refine den_call rfl (by first | (simp only [SS, Nat.reduceEqDiff, Nat.reduceAdd, iput, puts, FF, frzL_cat]; done) | (simp only [SS, Nat.reduceEqDiff, Nat.reduceAdd, iput, puts, FF, frzL_cat]; rfl)) (by first | exact (l01Map_ok hm (gR R (i : Int)) b (by omega)).fzb) ?_) | (refine den_calli rfl (by first | (simp only [SS, Nat.reduceEqDiff, Nat.reduceAdd, iput, puts, FF, frzL_cat]; done) | (simp only [SS, Nat.reduceEqDiff, Nat.reduceAdd, iput, puts, FF, frzL_cat]; rfl)) (by first | exact (l01Map_ok hm (gR R (i : Int)) b (by omega)).fzb) ?_))
    refine ⟨fun g2 => ?_, fun g2 => ?_⟩
    · refine ⟨_, rfl, H, fun _ _ h => h, ret_false (fun m => ?_), rfl, Nat.le_refl _⟩
      exact absurd (m i hli).2 (by simpa using g2)
    · have g2 : Wn (gR R (i : Int)) b := by simpa using g2
      try simp (disch := (first | rfl | with_reducible assumption | with_reducible solve_by_elim (maxDepth := 8) [Shape.inT, Shape.inI, Shape.inC, Shape.inK, Shape.obF, Shape.obT, Shape.arI, Arr.inF] | omega)) only [S2, Nat.reduceEqDiff, Nat.reduceAdd, iput, puts]
      refine up rfl hli fun i' hi' => ?_
      by_cases ee : i' = i
      · subst ee; exact ⟨g1, g2⟩
      · exact pi i' (by omega)
  · try simp (disch := (first | rfl | with_reducible assumption | with_reducible solve_by_elim (maxDepth := 8) [Shape.inT, Shape.inI, Shape.inC, Shape.inK, Shape.obF, Shape.obT, Shape.arI, Arr.inF] | omega)) only [S2, Nat.reduceEqDiff, Nat.reduceAdd, iput, puts, hli]
    exact ⟨_, rfl, H, fun _ _ h => h, ret_true (fun i hi => pi i (by omega)), rfl, Nat.le_refl _⟩
def V_spec_l03Preorder : Vc :=
  .op true (.call (.f 418) [.t 0, .c (int 2)]) <|
  .op true (.p .bnot [.t 1]) <|
  .br 2
   (.ret [(.c (bool false), none)])
   (.loop 0 [.c (int 0)] <|
   .op true (.p .len [.t 0]) <|
   .op true (.p (.bin .lss) [.t 3, .t 4]) <|
   .br 5
    (.op true (.p (.iad 1) [.t 0, .t 3]) <|
    .op true (.p (.ld none) [.t 6]) <|
    .op true (.p (.iad 1) [.t 7, .t 3]) <|
    .op true (.p (.ld none) [.t 8]) <|
    .op true (.p (.bin .neq) [.t 9, .c (int 1)]) <|
    .br 10
     (.ret [(.c (bool false), none)])
     (.loop 1 [.c (int 0)] <|
     .op true (.p .len [.t 0]) <|
     .op true (.p (.bin .lss) [.t 11, .t 12]) <|
     .br 13
      (.loop 2 [.c (int 0)] <|
      .op true (.p .len [.t 0]) <|
      .op true (.p (.bin .lss) [.t 14, .t 15]) <|
      .br 16
       (.op true (.p (.iad 1) [.t 0, .t 3]) <|
       .op true (.p (.ld none) [.t 17]) <|
       .op true (.p (.iad 1) [.t 18, .t 11]) <|
       .op true (.p (.ld none) [.t 19]) <|
       .op true (.p (.bin .eql) [.t 20, .c (int 1)]) <|
       .br 21
        (.op true (.p (.iad 1) [.t 0, .t 11]) <|
        .op true (.p (.ld none) [.t 22]) <|
        .op true (.p (.iad 1) [.t 23, .t 14]) <|
        .op true (.p (.ld none) [.t 24]) <|
        .op true (.p (.bin .eql) [.t 25, .c (int 1)]) <|
        .br 26
         (.op true (.p (.iad 1) [.t 0, .t 3]) <|
         .op true (.p (.ld none) [.t 27]) <|
         .op true (.p (.iad 1) [.t 28, .t 14]) <|
         .op true (.p (.ld none) [.t 29]) <|
         .op true (.p (.bin .neq) [.t 30, .c (int 1)]) <|
         .br 31
          (.ret [(.c (bool false), none)])
          (.op true (.p (.bin .add) [.t 14, .c (int 1)]) <|
          .again 2 [.t 32]))
         (.op true (.p (.bin .add) [.t 14, .c (int 1)]) <|
         .again 2 [.t 27]))
        (.op true (.p (.bin .add) [.t 14, .c (int 1)]) <|
        .again 2 [.t 22]))
       (.op true (.p (.bin .add) [.t 11, .c (int 1)]) <|
       .again 1 [.t 17]))
      (.op true (.p (.bin .add) [.t 3, .c (int 1)]) <|
      .again 0 [.t 14])))
    (.ret [(.c (bool true), none)]))
set_option maxHeartbeats 4000000 in
theorem l03Preorder_fz (hm : Has P ν 37 2 V_spec_l01Map) (hq : Has P ν 418 2 V_spec_l03Square) (h : Has P ν 356 1 V_spec_l03Preorder) (R : List (List Int)) (hl : R.length ≤ 1048576) (hr : ∀ i, i < R.length → (R.getD i []).length ≤ 1048576) :
    Fz (OkM P ν) 356 [.sl (rows R) R.length] (bool (decide (IsPre R))) := by
  refine Fn.fzb fun H nx => h _ _ _ _ rfl fun hwf => ?_
  unfold V_spec_l03Preorder
  have sq := l03Square_fz (P := P) (ν := ν) hm hq R 2 hl hr
  repeat (first | simp (disch := (first | rfl | with_reducible assumption | with_reducible solve_by_elim (maxDepth := 8) [Shape.inT, Shape.inI, Shape.inC, Shape.inK, Shape.obF, Shape.obT, Shape.arI, Arr.inF] | omega)) only [S2, Nat.reduceEqDiff, Nat.reduceAdd, iput, puts] | (refine den_call rfl (by first | (simp only [SS, Nat.reduceEqDiff, Nat.reduceAdd, iput, puts, FF, frzL_cat]; done) | (simp only [SS, Nat.reduceEqDiff, Nat.reduceAdd, iput, puts, FF, frzL_cat]; rfl)) (by first | exact sq) ?_) | (refine den_calli rfl (by first | (simp only [SS, Nat.reduceEqDiff, Nat.reduceAdd, iput, puts, FF, frzL_cat]; done) | (simp only [SS, Nat.reduceEqDiff, Nat.reduceAdd, iput, puts, FF, frzL_cat]; rfl)) (by first | exact sq) ?_))
  refine ⟨fun g1 => ?_, fun g1 => ?_⟩
  · refine ⟨_, rfl, H, fun _ _ h => h, ret_false (fun m => ?_), rfl, Nat.le_refl _⟩
    refine absurd ?_ (show ¬ SqP R 2 by simpa using g1)
    intro i hi
    refine ⟨m.len i hi, fun k hk => ?_⟩
    have := m.bit i k hi (by have := m.len i hi; omega)
    have e : (gR R (i : Int)).getD k 0 = E R i k := rfl
    rw [e]; omega
  have g1 : SqP R 2 := by simpa using g1
  have len : ∀ i' : Nat, i' < R.length → (gR R (i' : Int)).length = R.length := fun i' h' => (g1 i' h').1
  have bit : ∀ i' j', i' < R.length → j' < R.length → E R i' j' = 0 ∨ E R i' j' = 1 := fun i' j' h' hj => by
    have := (g1 i' h').2 j' (by rw [len i' h']; exact hj)
    have e : (gR R (i' : Int)).getD j' 0 = E R i' j' := rfl
    rw [e] at this; omega
  try simp (disch := (first | rfl | with_reducible assumption | with_reducible solve_by_elim (maxDepth := 8) [Shape.inT, Shape.inI, Shape.inC, Shape.inK, Shape.obF, Shape.obT, Shape.arI, Arr.inF] | omega)) only [S2, Nat.reduceEqDiff, Nat.reduceAdd, iput, puts]
  refine den_for R.length (fun i => ∀ i', i' < i → E R i' i' = 1 ∧ ∀ j k, j < R.length → k < R.length → E R i' j = 1 → E R j k = 1 → E R i' k = 1) (fun k hk => by omega) fun i hi2 pi2 => ?_
  by_cases hla : i < R.length
  · have iR : InR R (i : Int) := InR.nat hla
    have gl := len i hla
    have iI : In (gR R (i : Int)) (i : Int) := ⟨by omega, by omega⟩
    have fold : gI (gR R (i : Int)) (i : Int) = E R i i := rfl
    try simp (disch := (first | rfl | with_reducible assumption | with_reducible solve_by_elim (maxDepth := 8) [Shape.inT, Shape.inI, Shape.inC, Shape.inK, Shape.obF, Shape.obT, Shape.arI, Arr.inF] | omega)) only [S2, Nat.reduceEqDiff, Nat.reduceAdd, iput, puts, hla, fold]
    refine ⟨fun g2 => ?_, fun g2 => ?_⟩
    · refine ⟨_, rfl, H, fun _ _ h => h, ret_false (fun m => ?_), rfl, Nat.le_refl _⟩
      exact absurd (m.rf i hla) (by simpa using g2)
    have rf : E R i i = 1 := by simpa using g2
    try simp (disch := (first | rfl | with_reducible assumption | with_reducible solve_by_elim (maxDepth := 8) [Shape.inT, Shape.inI, Shape.inC, Shape.inK, Shape.obF, Shape.obT, Shape.arI, Arr.inF] | omega)) only [S2, Nat.reduceEqDiff, Nat.reduceAdd, iput, puts]
    refine den_for R.length (fun j => ∀ j', j' < j → ∀ k, k < R.length → E R i j' = 1 → E R j' k = 1 → E R i k = 1) (fun k hk => by omega) fun j hj pj => ?_
    by_cases hlj : j < R.length
    · have jR : InR R (j : Int) := InR.nat hlj
      have gl' := len j hlj
      have iJ : In (gR R (i : Int)) (j : Int) := ⟨by omega, by omega⟩
      have f0 : gI (gR R (i : Int)) (j : Int) = E R i j := rfl
      try simp (disch := (first | rfl | with_reducible assumption | with_reducible solve_by_elim (maxDepth := 8) [Shape.inT, Shape.inI, Shape.inC, Shape.inK, Shape.obF, Shape.obT, Shape.arI, Arr.inF] | omega)) only [S2, Nat.reduceEqDiff, Nat.reduceAdd, iput, puts, hlj]
      refine den_for R.length (fun k => ∀ k', k' < k → E R i j = 1 → E R j k' = 1 → E R i k' = 1) (fun k hk => by omega) fun k hk pk => ?_
      by_cases hlk : k < R.length
      · have iK : In (gR R (i : Int)) (k : Int) := ⟨by omega, by omega⟩
        have jK : In (gR R (j : Int)) (k : Int) := ⟨by omega, by omega⟩
        have f1 : gI (gR R (i : Int)) (k : Int) = E R i k := rfl
        have f2 : gI (gR R (j : Int)) (k : Int) = E R j k := rfl
        have b1 := bit i k hla hlk
        have nxt : (E R i j = 1 → E R j k = 1 → E R i k = 1) → ∀ k', k' < k + 1 → E R i j = 1 → E R j k' = 1 → E R i k' = 1 := fun q k' hk' q1 q2 => by
          by_cases ee : k' = k
          · subst ee; exact q q1 q2
          · exact pk k' (by omega) q1 q2
        try simp (disch := (first | rfl | with_reducible assumption | with_reducible solve_by_elim (maxDepth := 8) [Shape.inT, Shape.inI, Shape.inC, Shape.inK, Shape.obF, Shape.obT, Shape.arI, Arr.inF] | omega)) only [S2, Nat.reduceEqDiff, Nat.reduceAdd, iput, puts, hlk, f0]
        refine ⟨fun g3 => ?_, fun g3 => ?_⟩
        · have g3 : E R i j = 1 := by simpa using g3
          try simp (disch := (first | rfl | with_reducible assumption | with_reducible solve_by_elim (maxDepth := 8) [Shape.inT, Shape.inI, Shape.inC, Shape.inK, Shape.obF, Shape.obT, Shape.arI, Arr.inF] | omega)) only [S2, Nat.reduceEqDiff, Nat.reduceAdd, iput, puts, f2]
          refine ⟨fun g4 => ?_, fun g4 => ?_⟩
          · have g4 : E R j k = 1 := by simpa using g4
            try simp (disch := (first | rfl | with_reducible assumption | with_reducible solve_by_elim (maxDepth := 8) [Shape.inT, Shape.inI, Shape.inC, Shape.inK, Shape.obF, Shape.obT, Shape.arI, Arr.inF] | omega)) only [S2, Nat.reduceEqDiff, Nat.reduceAdd, iput, puts, f1]
            refine ⟨fun g5 => ?_, fun g5 => ?_⟩
            · refine ⟨_, rfl, H, fun _ _ h => h, ret_false (fun m => ?_), rfl, Nat.le_refl _⟩
              exact absurd (m.tr i j k hla hlj hlk g3 g4) (by simpa using g5)
            · try simp (disch := (first | rfl | with_reducible assumption | with_reducible solve_by_elim (maxDepth := 8) [Shape.inT, Shape.inI, Shape.inC, Shape.inK, Shape.obF, Shape.obT, Shape.arI, Arr.inF] | omega)) only [S2, Nat.reduceEqDiff, Nat.reduceAdd, iput, puts]
              exact up rfl hlk (nxt fun _ _ => by simpa using g5)
          · try simp (disch := (first | rfl | with_reducible assumption | with_reducible solve_by_elim (maxDepth := 8) [Shape.inT, Shape.inI, Shape.inC, Shape.inK, Shape.obF, Shape.obT, Shape.arI, Arr.inF] | omega)) only [S2, Nat.reduceEqDiff, Nat.reduceAdd, iput, puts]
            exact up rfl hlk (nxt fun _ q => absurd q (by simpa using g4))
        · try simp (disch := (first | rfl | with_reducible assumption | with_reducible solve_by_elim (maxDepth := 8) [Shape.inT, Shape.inI, Shape.inC, Shape.inK, Shape.obF, Shape.obT, Shape.arI, Arr.inF] | omega)) only [S2, Nat.reduceEqDiff, Nat.reduceAdd, iput, puts]
          exact up rfl hlk (nxt fun q _ => absurd q (by simpa using g3))
      · try simp (disch := (first | rfl | with_reducible assumption | with_reducible solve_by_elim (maxDepth := 8) [Shape.inT, Shape.inI, Shape.inC, Shape.inK, Shape.obF, Shape.obT, Shape.arI, Arr.inF] | omega)) only [S2, Nat.reduceEqDiff, Nat.reduceAdd, iput, puts, hlk]
        refine up rfl hlj fun j' hj' k' hk' q1 q2 => ?_
        by_cases ee : j' = j
        · subst ee; exact pk k' (by omega) q1 q2
        · exact pj j' (by omega) k' hk' q1 q2
    · try simp (disch := (first | rfl | with_reducible assumption | with_reducible solve_by_elim (maxDepth := 8) [Shape.inT, Shape.inI, Shape.inC, Shape.inK, Shape.obF, Shape.obT, Shape.arI, Arr.inF] | omega)) only [S2, Nat.reduceEqDiff, Nat.reduceAdd, iput, puts, hlj]
      refine up rfl hla fun i' hi' => ?_
      by_cases ee : i' = i
      · subst ee; exact ⟨rf, fun j' k' hj' hk' q1 q2 => pj j' (by omega) k' hk' q1 q2⟩
      · exact pi2 i' (by omega)
  · try simp (disch := (first | rfl | with_reducible assumption | with_reducible solve_by_elim (maxDepth := 8) [Shape.inT, Shape.inI, Shape.inC, Shape.inK, Shape.obF, Shape.obT, Shape.arI, Arr.inF] | omega)) only [S2, Nat.reduceEqDiff, Nat.reduceAdd, iput, puts, hla]
    exact ⟨_, rfl, H, fun _ _ h => h, ret_true ⟨len, bit, fun i hi => (pi2 i (by omega)).1, fun i j k hi hj hk => (pi2 i (by omega)).2 j k hj hk⟩, rfl, Nat.le_refl _⟩
end Go.Av
