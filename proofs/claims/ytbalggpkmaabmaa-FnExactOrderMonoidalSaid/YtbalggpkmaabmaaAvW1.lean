/-
  Preorders and monoids: the checks of both sides.
-/
import Derived.Test.YtbalggpkmaabmaaAvR3
import Derived.Test.YtbalggpkmaabmaaAvD0
namespace Go.Av
open Classical
set_option linter.unusedSimpArgs false
set_option linter.unusedVariables false
variable {P : Program} {ν : Nat → FuncId}

def in64 (n : Int) : Prop := -9223372036854775808 ≤ n ∧ n ≤ 9223372036854775807
def aN (x : Int) : Int := IntKind.i64.wrap ((BitVec.ofInt 64 x &&& ~~~(BitVec.ofInt 64 1)).toNat : Int)
theorem p_aN {H : Hp} {x : Int} : pvf H (.bin .andNot) [int x, int 1] = some (int (aN x)) := rfl
theorem wrap_nat0 {n : Nat} (h : n < 18446744073709551616) : IntKind.i64.wrap (n : Int) = 0 ↔ n = 0 := by
  by_cases e : n ≤ 9223372036854775807
  · rw [wrap_id (by omega) (by omega)]; omega
  · have : IntKind.i64.wrap (n : Int) = (n : Int) - 18446744073709551616 := by
      simp [IntKind.wrap, IntKind.bits, IntKind.signed]
      omega
    omega
theorem aN_zero {x : Int} (h : in64 x) : aN x = 0 ↔ x = 0 ∨ x = 1 := by
  constructor
  · intro e
    unfold aN at e
    rw [wrap_nat0 (BitVec.isLt _)] at e
    generalize hy : BitVec.ofInt 64 x = y at e
    have e2 : y &&& ~~~(1#64) = 0#64 := BitVec.eq_of_toNat_eq e
    have e3 : y = (y &&& 1#64) ||| (y &&& ~~~(1#64)) := by
      ext i hi
      simp only [BitVec.getElem_or, BitVec.getElem_and, BitVec.getElem_not]
      cases y[i] <;> cases (1#64)[i] <;> rfl
    rw [e2, BitVec.or_zero] at e3
    have e4 : y.toNat < 2 := by
      have := congrArg BitVec.toNat e3
      rw [BitVec.toNat_and] at this
      have h1 : (1#64).toNat = 1 := rfl
      rw [h1, Nat.and_one_is_mod] at this
      omega
    have e5 : y.toNat = (x % 18446744073709551616).toNat := by rw [← hy, BitVec.toNat_ofInt]; rfl
    obtain ⟨l1, l2⟩ := h
    omega
  · rintro (rfl | rfl) <;> decide
def E (R : List (List Int)) (i j : Nat) : Int := gI (gR R i) j
structure IsPre (R : List (List Int)) : Prop where
  len : ∀ i : Nat, i < R.length → (gR R i).length = R.length
  bit : ∀ i j, i < R.length → j < R.length → E R i j = 0 ∨ E R i j = 1
  rf : ∀ i, i < R.length → E R i i = 1
  tr : ∀ i j k, i < R.length → j < R.length → k < R.length → E R i j = 1 → E R j k = 1 → E R i k = 1
structure IsMon (T : List (List Int)) : Prop where
  pos : 0 < T.length
  len : ∀ i : Nat, i < T.length → (gR T i).length = T.length
  rg : ∀ i j, i < T.length → j < T.length → 0 ≤ E T i j ∧ E T i j < T.length
  un : ∀ i, i < T.length → E T 0 i = i ∧ E T i 0 = i
  as : ∀ i j k, i < T.length → j < T.length → k < T.length → gI (gR T (E T i j)) k = gI (gR T i) (E T j k)
def V_isPreorder : Vc :=
  .op true (.p .len [.t 0]) <|
  .op true (.p .len [.t 0]) <|
  .loop 0 [.c (int 0)] <|
  .op true (.p (.bin .lss) [.t 3, .t 2]) <|
  .br 4
   (.op true (.p (.iad 1) [.t 0, .t 3]) <|
   .op true (.p (.ld none) [.t 5]) <|
   .op true (.p .len [.t 6]) <|
   .op true (.p (.bin .neq) [.t 7, .t 1]) <|
   .br 8
    (.ret [(.c (bool false), none)])
    (.op true (.p .len [.t 6]) <|
    .loop 1 [.c (int 0)] <|
    .op true (.p (.bin .lss) [.t 10, .t 9]) <|
    .br 11
     (.op true (.p (.iad 1) [.t 6, .t 10]) <|
     .op true (.p (.ld none) [.t 12]) <|
     .op true (.p (.bin .andNot) [.t 13, .c (int 1)]) <|
     .op true (.p (.bin .neq) [.t 14, .c (int 0)]) <|
     .br 15
      (.ret [(.c (bool false), none)])
      (.op true (.p (.bin .add) [.t 10, .c (int 1)]) <|
      .again 1 [.t 16]))
     (.op true (.p (.iad 1) [.t 6, .t 3]) <|
     .op true (.p (.ld none) [.t 12]) <|
     .op true (.p (.bin .neq) [.t 13, .c (int 1)]) <|
     .br 14
      (.ret [(.c (bool false), none)])
      (.op true (.p (.bin .add) [.t 3, .c (int 1)]) <|
      .again 0 [.t 15]))))
   (.op true (.p .len [.t 0]) <|
   .loop 0 [.c (int 0)] <|
   .op true (.p (.bin .lss) [.t 6, .t 5]) <|
   .br 7
    (.op true (.p .len [.t 0]) <|
    .loop 1 [.c (int 0)] <|
    .op true (.p (.bin .lss) [.t 9, .t 8]) <|
    .br 10
     (.op true (.p (.iad 1) [.t 0, .t 6]) <|
     .op true (.p (.ld none) [.t 11]) <|
     .op true (.p (.iad 1) [.t 12, .t 9]) <|
     .op true (.p (.ld none) [.t 13]) <|
     .op true (.p (.bin .eql) [.t 14, .c (int 0)]) <|
     .br 15
      (.op true (.p (.bin .add) [.t 9, .c (int 1)]) <|
      .again 1 [.t 16])
      (.op true (.p .len [.t 0]) <|
      .loop 2 [.c (int 0)] <|
      .op true (.p (.bin .lss) [.t 17, .t 16]) <|
      .br 18
       (.op true (.p (.iad 1) [.t 0, .t 9]) <|
       .op true (.p (.ld none) [.t 19]) <|
       .op true (.p (.iad 1) [.t 20, .t 17]) <|
       .op true (.p (.ld none) [.t 21]) <|
       .op true (.p (.iad 1) [.t 0, .t 6]) <|
       .op true (.p (.ld none) [.t 23]) <|
       .op true (.p (.iad 1) [.t 24, .t 17]) <|
       .op true (.p (.ld none) [.t 25]) <|
       .op true (.p (.bin .gtr) [.t 22, .t 26]) <|
       .br 27
        (.ret [(.c (bool false), none)])
        (.op true (.p (.bin .add) [.t 17, .c (int 1)]) <|
        .again 2 [.t 28]))
       (.op true (.p (.bin .add) [.t 9, .c (int 1)]) <|
       .again 1 [.t 19])))
     (.op true (.p (.bin .add) [.t 6, .c (int 1)]) <|
     .again 0 [.t 11]))
    (.ret [(.c (bool true), none)]))
set_option maxHeartbeats 4000000 in
theorem isPreorder_fz (h : Has P ν 361 1 V_isPreorder) (R : List (List Int)) (hl : R.length ≤ 1048576) (hr : ∀ i, i < R.length → (R.getD i []).length ≤ 1048576) (rg : ∀ i j, i < R.length → j < (R.getD i []).length → in64 ((R.getD i []).getD j 0)) :
    Fz (OkM P ν) 361 [.sl (rows R) R.length] (bool (decide (IsPre R))) := by
  refine Fn.fzb fun H nx => h _ _ _ _ rfl fun hwf => ?_
  unfold V_isPreorder
  try simp (disch := (first | rfl | with_reducible assumption | with_reducible solve_by_elim (maxDepth := 8) [Shape.inT, Shape.inI, Shape.inC, Shape.inK, Shape.obF, Shape.obT, Shape.arI, Arr.inF] | omega)) only [S2, Nat.reduceEqDiff, Nat.reduceAdd, iput, puts]
  refine den_for R.length (fun i => ∀ i', i' < i → (gR R (i' : Int)).length = R.length ∧ (∀ j, j < R.length → E R i' j = 0 ∨ E R i' j = 1) ∧ E R i' i' = 1) (fun k hk => by omega) fun i hi pi => ?_
  by_cases hli : i < R.length
  · have iR : InR R (i : Int) := InR.nat hli
    have bl : (gR R (i : Int)).length ≤ 1048576 := hr i hli
    try simp (disch := (first | rfl | with_reducible assumption | with_reducible solve_by_elim (maxDepth := 8) [Shape.inT, Shape.inI, Shape.inC, Shape.inK, Shape.obF, Shape.obT, Shape.arI, Arr.inF] | omega)) only [S2, Nat.reduceEqDiff, Nat.reduceAdd, iput, puts, hli]
    refine ⟨fun g1 => ?_, fun g1 => ?_⟩
    · refine ⟨_, rfl, H, fun _ _ h => h, ret_false (fun m => ?_), rfl, Nat.le_refl _⟩
      have := m.len i hli
      omega
    have g1 : (gR R (i : Int)).length = R.length := by omega
    try simp (disch := (first | rfl | with_reducible assumption | with_reducible solve_by_elim (maxDepth := 8) [Shape.inT, Shape.inI, Shape.inC, Shape.inK, Shape.obF, Shape.obT, Shape.arI, Arr.inF] | omega)) only [S2, Nat.reduceEqDiff, Nat.reduceAdd, iput, puts, g1]
    refine den_for R.length (fun j => ∀ j', j' < j → E R i j' = 0 ∨ E R i j' = 1) (fun k hk => by omega) fun j hj pj => ?_
    by_cases hlj : j < R.length
    · have iI : In (gR R (i : Int)) (j : Int) := ⟨by omega, by omega⟩
      have az := aN_zero (x := E R i j) (rg i j hli (by show j < (gR R (i : Int)).length; omega))
      have fold : gI (gR R (i : Int)) (j : Int) = E R i j := rfl
      try simp (disch := (first | rfl | with_reducible assumption | with_reducible solve_by_elim (maxDepth := 8) [Shape.inT, Shape.inI, Shape.inC, Shape.inK, Shape.obF, Shape.obT, Shape.arI, Arr.inF] | omega)) only [S2, Nat.reduceEqDiff, Nat.reduceAdd, iput, puts, hlj, p_aN, fold]
      refine ⟨fun g2 => ?_, fun g2 => ?_⟩
      · refine ⟨_, rfl, H, fun _ _ h => h, ret_false (fun m => ?_), rfl, Nat.le_refl _⟩
        exact absurd (az.2 (m.bit i j hli hlj)) (by simpa using g2)
      · have g2 : aN (E R i j) = 0 := by simpa using g2
        try simp (disch := (first | rfl | with_reducible assumption | with_reducible solve_by_elim (maxDepth := 8) [Shape.inT, Shape.inI, Shape.inC, Shape.inK, Shape.obF, Shape.obT, Shape.arI, Arr.inF] | omega)) only [S2, Nat.reduceEqDiff, Nat.reduceAdd, iput, puts]
        refine up rfl hlj fun j' hj' => ?_
        by_cases ee : j' = j
        · subst ee; exact az.1 g2
        · exact pj j' (by omega)
    · have iI : In (gR R (i : Int)) (i : Int) := ⟨by omega, by omega⟩
      have fold : gI (gR R (i : Int)) (i : Int) = E R i i := rfl
      try simp (disch := (first | rfl | with_reducible assumption | with_reducible solve_by_elim (maxDepth := 8) [Shape.inT, Shape.inI, Shape.inC, Shape.inK, Shape.obF, Shape.obT, Shape.arI, Arr.inF] | omega)) only [S2, Nat.reduceEqDiff, Nat.reduceAdd, iput, puts, hlj, fold]
      refine ⟨fun g2 => ?_, fun g2 => ?_⟩
      · refine ⟨_, rfl, H, fun _ _ h => h, ret_false (fun m => ?_), rfl, Nat.le_refl _⟩
        exact absurd (m.rf i hli) (by simpa using g2)
      · have g2 : E R i i = 1 := by simpa using g2
        try simp (disch := (first | rfl | with_reducible assumption | with_reducible solve_by_elim (maxDepth := 8) [Shape.inT, Shape.inI, Shape.inC, Shape.inK, Shape.obF, Shape.obT, Shape.arI, Arr.inF] | omega)) only [S2, Nat.reduceEqDiff, Nat.reduceAdd, iput, puts]
        refine up rfl hli fun i' hi' => ?_
        by_cases ee : i' = i
        · subst ee; exact ⟨g1, fun j' hj' => pj j' (by omega), g2⟩
        · exact pi i' (by omega)
  · have all : ∀ i', i' < R.length → (gR R (i' : Int)).length = R.length ∧ (∀ j, j < R.length → E R i' j = 0 ∨ E R i' j = 1) ∧ E R i' i' = 1 := fun i' h' => pi i' (by omega)
    try simp (disch := (first | rfl | with_reducible assumption | with_reducible solve_by_elim (maxDepth := 8) [Shape.inT, Shape.inI, Shape.inC, Shape.inK, Shape.obF, Shape.obT, Shape.arI, Arr.inF] | omega)) only [S2, Nat.reduceEqDiff, Nat.reduceAdd, iput, puts, hli]
    refine den_for R.length (fun i => ∀ i', i' < i → ∀ j k, j < R.length → k < R.length → E R i' j = 1 → E R j k = 1 → E R i' k = 1) (fun k hk => by omega) fun i hi2 pi2 => ?_
    by_cases hla : i < R.length
    · have iR : InR R (i : Int) := InR.nat hla
      have g1 := (all i hla).1
      try simp (disch := (first | rfl | with_reducible assumption | with_reducible solve_by_elim (maxDepth := 8) [Shape.inT, Shape.inI, Shape.inC, Shape.inK, Shape.obF, Shape.obT, Shape.arI, Arr.inF] | omega)) only [S2, Nat.reduceEqDiff, Nat.reduceAdd, iput, puts, hla]
      refine den_for R.length (fun j => ∀ j', j' < j → ∀ k, k < R.length → E R i j' = 1 → E R j' k = 1 → E R i k = 1) (fun k hk => by omega) fun j hj pj => ?_
      by_cases hlj : j < R.length
      · have jR : InR R (j : Int) := InR.nat hlj
        have g1' := (all j hlj).1
        have iI : In (gR R (i : Int)) (j : Int) := ⟨by omega, by omega⟩
        have fold : gI (gR R (i : Int)) (j : Int) = E R i j := rfl
        try simp (disch := (first | rfl | with_reducible assumption | with_reducible solve_by_elim (maxDepth := 8) [Shape.inT, Shape.inI, Shape.inC, Shape.inK, Shape.obF, Shape.obT, Shape.arI, Arr.inF] | omega)) only [S2, Nat.reduceEqDiff, Nat.reduceAdd, iput, puts, hlj, fold]
        refine ⟨fun g2 => ?_, fun g2 => ?_⟩
        · have g2 : E R i j = 0 := by simpa using g2
          try simp (disch := (first | rfl | with_reducible assumption | with_reducible solve_by_elim (maxDepth := 8) [Shape.inT, Shape.inI, Shape.inC, Shape.inK, Shape.obF, Shape.obT, Shape.arI, Arr.inF] | omega)) only [S2, Nat.reduceEqDiff, Nat.reduceAdd, iput, puts]
          refine up rfl hlj fun j' hj' k hk q1 => ?_
          by_cases ee : j' = j
          · subst ee; omega
          · exact pj j' (by omega) k hk q1
        · have g2 : E R i j = 1 := by
            have : ¬ E R i j = 0 := by simpa using g2
            rcases (all i hla).2.1 j hlj with q | q
            · exact absurd q this
            · exact q
          try simp (disch := (first | rfl | with_reducible assumption | with_reducible solve_by_elim (maxDepth := 8) [Shape.inT, Shape.inI, Shape.inC, Shape.inK, Shape.obF, Shape.obT, Shape.arI, Arr.inF] | omega)) only [S2, Nat.reduceEqDiff, Nat.reduceAdd, iput, puts]
          refine den_for R.length (fun k => ∀ k', k' < k → E R j k' = 1 → E R i k' = 1) (fun k hk => by omega) fun k hk pk => ?_
          by_cases hlk : k < R.length
          · have iK : In (gR R (i : Int)) (k : Int) := ⟨by omega, by omega⟩
            have jK : In (gR R (j : Int)) (k : Int) := ⟨by omega, by omega⟩
            have f1 : gI (gR R (i : Int)) (k : Int) = E R i k := rfl
            have f2 : gI (gR R (j : Int)) (k : Int) = E R j k := rfl
            have b1 := (all i hla).2.1 k hlk
            have b2 := (all j hlj).2.1 k hlk
            try simp (disch := (first | rfl | with_reducible assumption | with_reducible solve_by_elim (maxDepth := 8) [Shape.inT, Shape.inI, Shape.inC, Shape.inK, Shape.obF, Shape.obT, Shape.arI, Arr.inF] | omega)) only [S2, Nat.reduceEqDiff, Nat.reduceAdd, iput, puts, hlk, f1, f2]
            refine ⟨fun g3 => ?_, fun g3 => ?_⟩
            · refine ⟨_, rfl, H, fun _ _ h => h, ret_false (fun m => ?_), rfl, Nat.le_refl _⟩
              have g3 : E R i k < E R j k := by simpa using g3
              have := m.tr i j k hla hlj hlk g2
              omega
            · have g3 : ¬ E R i k < E R j k := by simpa using g3
              try simp (disch := (first | rfl | with_reducible assumption | with_reducible solve_by_elim (maxDepth := 8) [Shape.inT, Shape.inI, Shape.inC, Shape.inK, Shape.obF, Shape.obT, Shape.arI, Arr.inF] | omega)) only [S2, Nat.reduceEqDiff, Nat.reduceAdd, iput, puts]
              refine up rfl hlk fun k' hk' q => ?_
              by_cases ee : k' = k
              · subst ee; omega
              · exact pk k' (by omega) q
          · try simp (disch := (first | rfl | with_reducible assumption | with_reducible solve_by_elim (maxDepth := 8) [Shape.inT, Shape.inI, Shape.inC, Shape.inK, Shape.obF, Shape.obT, Shape.arI, Arr.inF] | omega)) only [S2, Nat.reduceEqDiff, Nat.reduceAdd, iput, puts, hlk]
            refine up rfl hlj fun j' hj' k' hk' q1 q2 => ?_
            by_cases ee : j' = j
            · subst ee; exact pk k' (by omega) q2
            · exact pj j' (by omega) k' hk' q1 q2
      · try simp (disch := (first | rfl | with_reducible assumption | with_reducible solve_by_elim (maxDepth := 8) [Shape.inT, Shape.inI, Shape.inC, Shape.inK, Shape.obF, Shape.obT, Shape.arI, Arr.inF] | omega)) only [S2, Nat.reduceEqDiff, Nat.reduceAdd, iput, puts, hlj]
        refine up rfl hla fun i' hi' j' k' hj' hk' q1 q2 => ?_
        by_cases ee : i' = i
        · subst ee; exact pj j' (by omega) k' hk' q1 q2
        · exact pi2 i' (by omega) j' k' hj' hk' q1 q2
    · try simp (disch := (first | rfl | with_reducible assumption | with_reducible solve_by_elim (maxDepth := 8) [Shape.inT, Shape.inI, Shape.inC, Shape.inK, Shape.obF, Shape.obT, Shape.arI, Arr.inF] | omega)) only [S2, Nat.reduceEqDiff, Nat.reduceAdd, iput, puts, hla]
      exact ⟨_, rfl, H, fun _ _ h => h, ret_true ⟨fun i hi => (all i hi).1, fun i j hi hj => (all i hi).2.1 j hj, fun i hi => (all i hi).2.2, fun i j k hi hj hk => pi2 i (by omega) j k hj hk⟩, rfl, Nat.le_refl _⟩
end Go.Av
