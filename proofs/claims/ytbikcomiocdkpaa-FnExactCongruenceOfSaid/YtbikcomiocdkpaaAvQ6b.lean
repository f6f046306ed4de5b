/-
  CongruenceOf: the program's and the reference's.
-/
import Derived.Test.YtbikcomiocdkpaaAvQ6
import Derived.Test.YtbikcomiocdkpaaAvN0
import Derived.Test.YtbikcomiocdkpaaAvQ0
namespace Go.Av
open Classical
set_option linter.unusedSimpArgs false
set_option linter.unusedVariables false
variable {P : Program} {ν : Nat → FuncId}

/-- A row is a pair of parallel arrows. -/
def PairOk (c : Cat) (r : List Int) : Prop := r.length = 2 ∧ c.F (gI r 0) = c.F (gI r 1) ∧ c.T (gI r 0) = c.T (gI r 1)
noncomputable def conC (c : Cat) (R : List (List Int)) : Int := if IsCat c then if ∀ i : Nat, i < R.length → Wn (gR R i) c.f.length then if ∀ i : Nat, i < R.length → PairOk c (gR R i) then 0 else 5 else 2 else 1
def toP (R : List (List Int)) : List (Nat × Nat) := R.map fun r => ((gI r 0).toNat, (gI r 1).toNat)
noncomputable def conL (c : Cat) (R : List (List Int)) : List Int := if conC c R = 0 then nrm (lab (sprP c (toP R))) c.f.length else []
theorem conC_zero {c : Cat} {R : List (List Int)} (h : conC c R = 0) : IsCat c ∧ prM (toP R) = R ∧ (∀ p ∈ toP R, Par c p.1 p.2) := by
  unfold conC at h
  by_cases h1 : IsCat c
  · rw [if_pos h1] at h
    by_cases h2 : ∀ i : Nat, i < R.length → Wn (gR R i) c.f.length
    · rw [if_pos h2] at h
      by_cases h3 : ∀ i : Nat, i < R.length → PairOk c (gR R i)
      · have two : ∀ r ∈ R, ∃ x y : Nat, r = [(x : Int), (y : Int)] ∧ Par c x y := fun r hr => by
          obtain ⟨i, hi, rfl⟩ := List.getElem_of_mem hr
          have e : gR R (i : Int) = R[i] := by simp [gR, List.getD, hi]
          have w := h2 i hi
          obtain ⟨l2, f2, t2⟩ := h3 i hi
          rw [e] at w l2 f2 t2
          match hq : R[i], l2 with
          | [a, b], _ =>
            rw [hq] at w f2 t2
            obtain ⟨wa, wb⟩ := (Wn2 c a b).1 w
            obtain ⟨a1, a2⟩ := wa.nat
            obtain ⟨b1, b2⟩ := wb.nat
            refine ⟨a.toNat, b.toNat, by rw [a2, b2], a1, b1, ?_, ?_⟩
            · rw [a2, b2]; exact f2
            · rw [a2, b2]; exact t2
        refine ⟨h1, ?_, fun p hp => ?_⟩
        · unfold prM toP
          rw [List.map_map]
          refine map_same fun r hr => ?_
          obtain ⟨x, y, rfl, _⟩ := two r hr
          rfl
        · obtain ⟨r, hr, rfl⟩ := List.mem_map.1 hp
          obtain ⟨x, y, rfl, pp⟩ := two r hr
          exact pp
      · rw [if_neg h3] at h; omega
    · rw [if_neg h2] at h; omega
  · rw [if_neg h1] at h; omega
theorem toP_len (R : List (List Int)) : (toP R).length = R.length := by simp [toP]

def V_CongruenceOf : Vc :=
  .op true (.p .box [.t 0]) <|
  .op true (.call (.f 24) [.t 2]) <|
  .op true (.p .bnot [.t 3]) <|
  .br 4
   (.ret [(.c (.nil), none), (.c (int 1), none)])
   (.op true (.p .len [.t 1]) <|
   .loop 0 [.c (int 0)] <|
   .op true (.p (.bin .lss) [.t 6, .t 5]) <|
   .br 7
    (.op true (.p (.iad 1) [.t 1, .t 6]) <|
    .op true (.p (.ld none) [.t 8]) <|
    .op true (.call (.f 26) [.t 2]) <|
    .op true (.call (.f 25) [.t 9, .t 10]) <|
    .op true (.p .bnot [.t 11]) <|
    .br 12
     (.ret [(.c (.nil), none), (.c (int 2), none)])
     (.op true (.p (.bin .add) [.t 6, .c (int 1)]) <|
     .again 0 [.t 13]))
    (.op true (.p .len [.t 1]) <|
    .loop 0 [.c (int 0)] <|
    .op true (.p (.bin .lss) [.t 9, .t 8]) <|
    .br 10
     (.op true (.p (.iad 1) [.t 1, .t 9]) <|
     .op true (.p (.ld none) [.t 11]) <|
     .op true (.p .len [.t 12]) <|
     .op true (.p (.bin .neq) [.t 13, .c (int 2)]) <|
     .br 14
      (.ret [(.c (.nil), none), (.c (int 5), none)])
      (.op true (.p (.iad 1) [.t 12, .c (int 0)]) <|
      .op true (.p (.ld none) [.t 15]) <|
      .op true (.call (.f 38) [.t 2, .t 16]) <|
      .op true (.p (.iad 1) [.t 12, .c (int 1)]) <|
      .op true (.p (.ld none) [.t 18]) <|
      .op true (.call (.f 38) [.t 2, .t 19]) <|
      .op true (.p (.eqs true 2) [.t 17, .t 20]) <|
      .br 21
       (.ret [(.c (.nil), none), (.c (int 5), none)])
       (.op true (.p (.bin .add) [.t 9, .c (int 1)]) <|
       .again 0 [.t 22])))
     (.op true (.callo (.f 342) [.t 2, .t 1]) <|
     .ret [(.t 11, none), (.c (int 0), none)])))
set_option maxHeartbeats 4000000 in
theorem CongruenceOf_ok (K : HCat P ν) (J : HJoin P ν) (hco : Has P ν 342 2 V_Category_congruence) (h : Has P ν 199 2 V_CongruenceOf) (c : Cat) (b : Small c) (R : List (List Int)) (bR : SmallII R) (nx : Nat) :
    OkM P ν 199 [.agg c.cells, .sl (rows R) R.length] hempty nx (IsP (conL c R) (conC c R) hempty nx) := by
  refine h _ _ _ _ rfl fun hwf => ?_
  unfold V_CongruenceOf
  have bl := bR.len
  have bad : ∀ k : Int, conC c R = k → k ≠ 0 → ∃ H', Sub H' hempty ∧ IsP (conL c R) (conC c R) hempty nx (.tup [.nil, int k]) H' nx := fun k e hk => by
    rw [conL, e, if_neg hk]
    exact ⟨hempty, fun _ _ h => h, .nil, rfl, IsI.nil _ _⟩
  repeat (first | simp (disch := (first | rfl | with_reducible assumption | with_reducible solve_by_elim (maxDepth := 8) [Shape.inT, Shape.inI, Shape.inC, Shape.inK, Shape.obF, Shape.obT, Shape.arI, Arr.inF] | omega)) only [S2, Nat.reduceEqDiff, Nat.reduceAdd, iput, puts] | (refine den_call rfl (by first | (simp only [SS, Nat.reduceEqDiff, Nat.reduceAdd, iput, puts, FF, frzL_cat]; done) | (simp only [SS, Nat.reduceEqDiff, Nat.reduceAdd, iput, puts, FF, frzL_cat]; rfl)) (by first | exact (isCategory_ok K c b).fzb) ?_) | (refine den_calli rfl (by first | (simp only [SS, Nat.reduceEqDiff, Nat.reduceAdd, iput, puts, FF, frzL_cat]; done) | (simp only [SS, Nat.reduceEqDiff, Nat.reduceAdd, iput, puts, FF, frzL_cat]; rfl)) (by first | exact (isCategory_ok K c b).fzb) ?_))
  refine ⟨fun h1 => ?_, fun h1 => ?_⟩
  · obtain ⟨H', q1, q2⟩ := bad 1 (by unfold conC; rw [if_neg h1]) (by decide)
    exact ⟨_, rfl, H', q1, q2⟩
  have s := h1.1
  have n40 := s.n40
  try simp (disch := (first | rfl | with_reducible assumption | with_reducible solve_by_elim (maxDepth := 8) [Shape.inT, Shape.inI, Shape.inC, Shape.inK, Shape.obF, Shape.obT, Shape.arI, Arr.inF] | omega)) only [S2, Nat.reduceEqDiff, Nat.reduceAdd, iput, puts]
  refine den_for R.length (fun i => ∀ j : Nat, j < i → Wn (gR R j) c.f.length) (fun j hj => by omega) fun i hi hp => ?_
  by_cases hlt : i < R.length
  · have iR : InR R (i : Int) := InR.nat hlt
    have bi := bR.row i hlt
    have bi : (gR R i).length ≤ 1048576 := bi
    repeat (first | simp (disch := (first | rfl | with_reducible assumption | with_reducible solve_by_elim (maxDepth := 8) [Shape.inT, Shape.inI, Shape.inC, Shape.inK, Shape.obF, Shape.obT, Shape.arI, Arr.inF] | omega)) only [S2, Nat.reduceEqDiff, Nat.reduceAdd, iput, puts, hlt] | (refine den_call rfl (by first | (simp only [SS, Nat.reduceEqDiff, Nat.reduceAdd, iput, puts, FF, frzL_cat]; done) | (simp only [SS, Nat.reduceEqDiff, Nat.reduceAdd, iput, puts, FF, frzL_cat]; rfl)) (by first | exact (arrows_ok K.arrows c).fzi | exact (within_ok K.inRange K.within (gR R i) c.f.length (by omega) (by omega) (by omega)).fzb) ?_) | (refine den_calli rfl (by first | (simp only [SS, Nat.reduceEqDiff, Nat.reduceAdd, iput, puts, FF, frzL_cat]; done) | (simp only [SS, Nat.reduceEqDiff, Nat.reduceAdd, iput, puts, FF, frzL_cat]; rfl)) (by first | exact (arrows_ok K.arrows c).fzi | exact (within_ok K.inRange K.within (gR R i) c.f.length (by omega) (by omega) (by omega)).fzb) ?_))
    refine ⟨fun e => ?_, fun e => ?_⟩
    · obtain ⟨H', q1, q2⟩ := bad 2 (by unfold conC; rw [if_pos h1, if_neg (fun q => e (q i hlt))]) (by decide)
      exact ⟨_, rfl, H', q1, q2⟩
    · try simp (disch := (first | rfl | with_reducible assumption | with_reducible solve_by_elim (maxDepth := 8) [Shape.inT, Shape.inI, Shape.inC, Shape.inK, Shape.obF, Shape.obT, Shape.arI, Arr.inF] | omega)) only [S2, Nat.reduceEqDiff, Nat.reduceAdd, iput, puts]
      refine up rfl hlt fun j hj => ?_
      by_cases ej : j = i
      · rw [ej]; exact e
      · exact hp j (by omega)
  · have hW : ∀ j : Nat, j < R.length → Wn (gR R j) c.f.length := fun j hj => hp j (by omega)
    try simp (disch := (first | rfl | with_reducible assumption | with_reducible solve_by_elim (maxDepth := 8) [Shape.inT, Shape.inI, Shape.inC, Shape.inK, Shape.obF, Shape.obT, Shape.arI, Arr.inF] | omega)) only [S2, Nat.reduceEqDiff, Nat.reduceAdd, iput, puts, hlt]
    refine den_for R.length (fun i => ∀ j : Nat, j < i → PairOk c (gR R j)) (fun j hj => by omega) fun i hi hq => ?_
    by_cases hlt : i < R.length
    · have iR : InR R (i : Int) := InR.nat hlt
      have wi := hW i hlt
      have no : ¬ PairOk c (gR R i) → conC c R = 5 := fun q => by unfold conC; rw [if_pos h1, if_pos hW, if_neg (fun q' => q (q' i hlt))]
      have lenI : pvf hempty (.bin .neq) [int ((gR R i).length : Int), int 2] = some (bool (decide ((gR R i).length ≠ 2))) := by
        rw [p_neq]
        congr 2
        rw [Bool.eq_iff_iff]
        simp
        omega
      try simp (disch := (first | rfl | with_reducible assumption | with_reducible solve_by_elim (maxDepth := 8) [Shape.inT, Shape.inI, Shape.inC, Shape.inK, Shape.obF, Shape.obT, Shape.arI, Arr.inF] | omega)) only [S2, Nat.reduceEqDiff, Nat.reduceAdd, iput, puts, hlt, lenI]
      refine ⟨fun e => ?_, fun e => ?_⟩
      · have e : (gR R i).length ≠ 2 := by first | exact e | simpa using e
        obtain ⟨H', q1, q2⟩ := bad 5 (no fun q => e q.1) (by decide)
        exact ⟨_, rfl, H', q1, q2⟩
      have e : (gR R i).length = 2 := by first | exact e | simpa using e
      have i0 : In (gR R i) 0 := ⟨by omega, by omega⟩
      have i1 : In (gR R i) 1 := ⟨by omega, by omega⟩
      have a0 : Arr c (gI (gR R i) 0) := wi.at i0
      have a1 : Arr c (gI (gR R i) 1) := wi.at i1
      repeat (first | simp (disch := (first | rfl | with_reducible assumption | with_reducible solve_by_elim (maxDepth := 8) [Shape.inT, Shape.inI, Shape.inC, Shape.inK, Shape.obF, Shape.obT, Shape.arI, Arr.inF] | omega)) only [S2, Nat.reduceEqDiff, Nat.reduceAdd, iput, puts] | (refine den_call rfl (by first | (simp only [SS, Nat.reduceEqDiff, Nat.reduceAdd, iput, puts, FF, frzL_cat]; done) | (simp only [SS, Nat.reduceEqDiff, Nat.reduceAdd, iput, puts, FF, frzL_cat]; rfl)) (by first | exact s.fzEnds K.ends a0 | exact s.fzEnds K.ends a1) ?_) | (refine den_calli rfl (by first | (simp only [SS, Nat.reduceEqDiff, Nat.reduceAdd, iput, puts, FF, frzL_cat]; done) | (simp only [SS, Nat.reduceEqDiff, Nat.reduceAdd, iput, puts, FF, frzL_cat]; rfl)) (by first | exact s.fzEnds K.ends a0 | exact s.fzEnds K.ends a1) ?_))
      refine ⟨fun e2 => ?_, fun e2 => ?_⟩
      · obtain ⟨H', q1, q2⟩ := bad 5 (no fun q => by simp [q.2.1, q.2.2] at e2) (by decide)
        exact ⟨_, rfl, H', q1, q2⟩
      · try simp (disch := (first | rfl | with_reducible assumption | with_reducible solve_by_elim (maxDepth := 8) [Shape.inT, Shape.inI, Shape.inC, Shape.inK, Shape.obF, Shape.obT, Shape.arI, Arr.inF] | omega)) only [S2, Nat.reduceEqDiff, Nat.reduceAdd, iput, puts]
        refine up rfl hlt fun j hj => ?_
        by_cases ej : j = i
        · rw [ej]; exact ⟨e, by simpa using e2⟩
        · exact hq j (by omega)
    · have hP : ∀ j : Nat, j < R.length → PairOk c (gR R j) := fun j hj => hq j (by omega)
      have e0 : conC c R = 0 := by unfold conC; rw [if_pos h1, if_pos hW, if_pos hP]
      obtain ⟨_, eR, hL⟩ := conC_zero e0
      have co := congruence_ok J K.arrows K.thn hco c h1 (toP R) (by rw [toP_len]; exact bl) hL nx
      rw [eR] at co
      try simp (disch := (first | rfl | with_reducible assumption | with_reducible solve_by_elim (maxDepth := 8) [Shape.inT, Shape.inI, Shape.inC, Shape.inK, Shape.obF, Shape.obT, Shape.arI, Arr.inF] | omega)) only [S2, Nat.reduceEqDiff, Nat.reduceAdd, iput, puts, hlt]
      refine den_callo (fc := (342, [])) (ys := [.ptr c.cells 0, .sl (rows R) R.length]) rfl (by simp only [SS, Nat.reduceEqDiff, Nat.reduceAdd, iput, puts, FF, frzL_cat]) co (IsI.some _ _ _) fun u H' nx' hu => ?_
      obtain ⟨q1, q2, q3, _⟩ := hu.own hempty
      obtain ⟨H4, s4, i4⟩ := hu.back (H1 := hempty) hwf (Nat.le_refl _) fun j hj => rfl
      refine ⟨q1, q2, ?_⟩
      refine ⟨_, rfl, H4, s4, u, ?_, ?_⟩
      · rw [e0]; rfl
      · rw [conL, if_pos e0]; exact i4

def V_spec_CongruenceOf : Vc :=
  .op true (.p .box [.t 0]) <|
  .loop 0 [.c (int 0)] <|
  .op true (.p .len [.t 1]) <|
  .op true (.p (.bin .lss) [.t 3, .t 4]) <|
  .br 5
   (.op true (.p (.ld (some 5)) [.t 2]) <|
   .op true (.p (.iad 1) [.t 1, .t 3]) <|
   .op true (.p (.ld none) [.t 7]) <|
   .op true (.call (.f 245) [.t 6, .t 8]) <|
   .op true (.p (.bin .neq) [.t 9, .c (int 0)]) <|
   .br 10
    (.ret [(.c (.nil), none), (.t 9, none)])
    (.op true (.p (.bin .add) [.t 3, .c (int 1)]) <|
    .again 0 [.t 11]))
   (.op true (.p (.ld (some 5)) [.t 2]) <|
   .op true (.call (.f 22) [.t 6]) <|
   .op true (.p .bnot [.t 7]) <|
   .br 8
    (.ret [(.c (.nil), none), (.c (int 1), none)])
    (.loop 0 [.c (int 0)] <|
    .op true (.p .len [.t 1]) <|
    .op true (.p (.bin .lss) [.t 9, .t 10]) <|
    .br 11
     (.op true (.p (.iad 1) [.t 1, .t 9]) <|
     .op true (.p (.ld none) [.t 12]) <|
     .op true (.p .len [.t 13]) <|
     .op true (.p (.bin .neq) [.t 14, .c (int 2)]) <|
     .br 15
      (.ret [(.c (.nil), none), (.c (int 5), none)])
      (.op true (.p (.ld (some 5)) [.t 2]) <|
      .op true (.p (.iad 1) [.t 1, .t 9]) <|
      .op true (.p (.ld none) [.t 17]) <|
      .op true (.p (.iad 1) [.t 18, .c (int 0)]) <|
      .op true (.p (.ld none) [.t 19]) <|
      .op true (.p (.iad 1) [.t 1, .t 9]) <|
      .op true (.p (.ld none) [.t 21]) <|
      .op true (.p (.iad 1) [.t 22, .c (int 1)]) <|
      .op true (.p (.ld none) [.t 23]) <|
      .op true (.call (.f 340) [.t 16, .t 20, .t 24]) <|
      .op true (.p .bnot [.t 25]) <|
      .br 26
       (.ret [(.c (.nil), none), (.c (int 5), none)])
       (.op true (.p (.bin .add) [.t 9, .c (int 1)]) <|
       .again 0 [.t 27])))
     (.op true (.p (.ld (some 5)) [.t 2]) <|
     .op true (.call (.f 341) [.t 12, .t 1]) <|
     .ret [(.t 13, none), (.c (int 0), none)])))
set_option maxHeartbeats 4000000 in
theorem sCongruenceOf_fi (KS : HSpec P ν) (ha : Has P ν 245 2 V_spec_l02Arrows) (hpa : Has P ν 340 3 V_spec_l03Parallel) (J : HLab P ν) (how : Has P ν 259 1 V_spec_l01Own) (how2 : Has P ν 360 1 V_spec_l01Own2) (ht : Has P ν 253 3 V_spec_l02Then) (hsp : Has P ν 341 2 V_spec_l03Spread) (h : Has P ν 198 2 V_spec_CongruenceOf) (c : Cat) (b : Small c) (R : List (List Int)) (bR : SmallII R) :
    Fi (OkM P ν) 198 [.agg c.cells, .sl (rows R) R.length] (.tup [islice (conL c R), int (conC c R)]) := by
  refine OkM.mono (Φ := fun r _ _ => r = .tup [islice (conL c R), int (conC c R)] ∨ (conC c R ≠ 0 ∧ r = .tup [.nil, int (conC c R)])) (h [.agg c.cells, .sl (rows R) R.length] hempty 0 _ rfl fun hwf => ?_) ?_
  · unfold V_spec_CongruenceOf
    have bl := bR.len
    have bad : ∀ k : Int, conC c R = k → k ≠ 0 → (AV.tup [.nil, int k] = .tup [islice (conL c R), int (conC c R)] ∨ (conC c R ≠ 0 ∧ AV.tup [.nil, int k] = .tup [.nil, int (conC c R)])) := fun k e hk => .inr ⟨by rw [e]; exact hk, by rw [e]⟩
    try simp (disch := (first | rfl | with_reducible assumption | with_reducible solve_by_elim (maxDepth := 8) [Shape.inT, Shape.inI, Shape.inC, Shape.inK, Shape.obF, Shape.obT, Shape.arI, Arr.inF] | omega)) only [S2, Nat.reduceEqDiff, Nat.reduceAdd, iput, puts]
    refine den_for R.length (fun i => (∀ j : Nat, j < i → Wn (gR R j) c.f.length) ∧ (0 < i → IsCat c)) ⟨fun j hj => by omega, fun h => by omega⟩ fun i hi ⟨hp, hc0⟩ => ?_
    by_cases hlt : i < R.length
    · have iR : InR R (i : Int) := InR.nat hlt
      have bi : (gR R i).length ≤ 1048576 := bR.row i hlt
      repeat (first | simp (disch := (first | rfl | with_reducible assumption | with_reducible solve_by_elim (maxDepth := 8) [Shape.inT, Shape.inI, Shape.inC, Shape.inK, Shape.obF, Shape.obT, Shape.arI, Arr.inF] | omega)) only [S2, Nat.reduceEqDiff, Nat.reduceAdd, iput, puts, hlt] | (refine den_call rfl (by first | (simp only [SS, Nat.reduceEqDiff, Nat.reduceAdd, iput, puts, FF, frzL_cat]; done) | (simp only [SS, Nat.reduceEqDiff, Nat.reduceAdd, iput, puts, FF, frzL_cat]; rfl)) (by first | exact l02Arrows_fz KS ha c b (gR R i) bi Iff.rfl) ?_) | (refine den_calli rfl (by first | (simp only [SS, Nat.reduceEqDiff, Nat.reduceAdd, iput, puts, FF, frzL_cat]; done) | (simp only [SS, Nat.reduceEqDiff, Nat.reduceAdd, iput, puts, FF, frzL_cat]; rfl)) (by first | exact l02Arrows_fz KS ha c b (gR R i) bi Iff.rfl) ?_))
      refine ⟨fun e => ?_, fun e => ?_⟩
      · refine ⟨_, rfl, hempty, fun _ _ h => h, bad _ ?_ e⟩
        unfold conC code at *
        by_cases h1 : IsCat c
        · rw [if_pos h1, if_pos h1] at *
          by_cases h2 : Wn (gR R i) c.f.length
          · rw [if_pos h2] at e; exact absurd rfl e
          · rw [if_neg h2, if_neg (fun q => h2 (q i hlt))]
        · rw [if_neg h1, if_neg h1]
      · have e : code (IsCat c) (Wn (gR R i) c.f.length) = 0 := by first | exact e | simpa using e
        obtain ⟨hc, hw⟩ := code_zero.1 e
        try simp (disch := (first | rfl | with_reducible assumption | with_reducible solve_by_elim (maxDepth := 8) [Shape.inT, Shape.inI, Shape.inC, Shape.inK, Shape.obF, Shape.obT, Shape.arI, Arr.inF] | omega)) only [S2, Nat.reduceEqDiff, Nat.reduceAdd, iput, puts]
        refine up rfl hlt ⟨fun j hj => ?_, fun _ => hc⟩
        by_cases ej : j = i
        · rw [ej]; exact hw
        · exact hp j (by omega)
    · have hW : ∀ j : Nat, j < R.length → Wn (gR R j) c.f.length := fun j hj => hp j (by omega)
      repeat (first | simp (disch := (first | rfl | with_reducible assumption | with_reducible solve_by_elim (maxDepth := 8) [Shape.inT, Shape.inI, Shape.inC, Shape.inK, Shape.obF, Shape.obT, Shape.arI, Arr.inF] | omega)) only [S2, Nat.reduceEqDiff, Nat.reduceAdd, iput, puts, hlt] | (refine den_call rfl (by first | (simp only [SS, Nat.reduceEqDiff, Nat.reduceAdd, iput, puts, FF, frzL_cat]; done) | (simp only [SS, Nat.reduceEqDiff, Nat.reduceAdd, iput, puts, FF, frzL_cat]; rfl)) (by first | exact (l02Is_ok KS c b).fzb) ?_) | (refine den_calli rfl (by first | (simp only [SS, Nat.reduceEqDiff, Nat.reduceAdd, iput, puts, FF, frzL_cat]; done) | (simp only [SS, Nat.reduceEqDiff, Nat.reduceAdd, iput, puts, FF, frzL_cat]; rfl)) (by first | exact (l02Is_ok KS c b).fzb) ?_))
      refine ⟨fun h1 => ?_, fun h1 => ?_⟩
      · exact ⟨_, rfl, hempty, fun _ _ h => h, bad 1 (by unfold conC; rw [if_neg h1]) (by decide)⟩
      have s := h1.1
      have n40 := s.n40
      try simp (disch := (first | rfl | with_reducible assumption | with_reducible solve_by_elim (maxDepth := 8) [Shape.inT, Shape.inI, Shape.inC, Shape.inK, Shape.obF, Shape.obT, Shape.arI, Arr.inF] | omega)) only [S2, Nat.reduceEqDiff, Nat.reduceAdd, iput, puts]
      refine den_for R.length (fun i => ∀ j : Nat, j < i → PairOk c (gR R j)) (fun j hj => by omega) fun i hi hq => ?_
      by_cases hlt : i < R.length
      · have iR : InR R (i : Int) := InR.nat hlt
        have wi := hW i hlt
        have no : ¬ PairOk c (gR R i) → conC c R = 5 := fun q => by unfold conC; rw [if_pos h1, if_pos hW, if_neg (fun q' => q (q' i hlt))]
        have lenI : pvf hempty (.bin .neq) [int ((gR R i).length : Int), int 2] = some (bool (decide ((gR R i).length ≠ 2))) := by
          rw [p_neq]
          congr 2
          rw [Bool.eq_iff_iff]
          simp
          omega
        try simp (disch := (first | rfl | with_reducible assumption | with_reducible solve_by_elim (maxDepth := 8) [Shape.inT, Shape.inI, Shape.inC, Shape.inK, Shape.obF, Shape.obT, Shape.arI, Arr.inF] | omega)) only [S2, Nat.reduceEqDiff, Nat.reduceAdd, iput, puts, hlt, lenI]
        refine ⟨fun e => ?_, fun e => ?_⟩
        · have e : (gR R i).length ≠ 2 := by first | exact e | simpa using e
          exact ⟨_, rfl, hempty, fun _ _ h => h, bad 5 (no fun q => e q.1) (by decide)⟩
        have e : (gR R i).length = 2 := by first | exact e | simpa using e
        have i0 : In (gR R i) 0 := ⟨by omega, by omega⟩
        have i1 : In (gR R i) 1 := ⟨by omega, by omega⟩
        have a0 : Arr c (gI (gR R i) 0) := wi.at i0
        have a1 : Arr c (gI (gR R i) 1) := wi.at i1
        repeat (first | simp (disch := (first | rfl | with_reducible assumption | with_reducible solve_by_elim (maxDepth := 8) [Shape.inT, Shape.inI, Shape.inC, Shape.inK, Shape.obF, Shape.obT, Shape.arI, Arr.inF] | omega)) only [S2, Nat.reduceEqDiff, Nat.reduceAdd, iput, puts] | (refine den_call rfl (by first | (simp only [SS, Nat.reduceEqDiff, Nat.reduceAdd, iput, puts, FF, frzL_cat]; done) | (simp only [SS, Nat.reduceEqDiff, Nat.reduceAdd, iput, puts, FF, frzL_cat]; rfl)) (by first | exact s.fzParallel hpa a0 a1) ?_) | (refine den_calli rfl (by first | (simp only [SS, Nat.reduceEqDiff, Nat.reduceAdd, iput, puts, FF, frzL_cat]; done) | (simp only [SS, Nat.reduceEqDiff, Nat.reduceAdd, iput, puts, FF, frzL_cat]; rfl)) (by first | exact s.fzParallel hpa a0 a1) ?_))
        refine ⟨fun e2 => ?_, fun e2 => ?_⟩
        · exact ⟨_, rfl, hempty, fun _ _ h => h, bad 5 (no fun q => e2 q.2) (by decide)⟩
        · try simp (disch := (first | rfl | with_reducible assumption | with_reducible solve_by_elim (maxDepth := 8) [Shape.inT, Shape.inI, Shape.inC, Shape.inK, Shape.obF, Shape.obT, Shape.arI, Arr.inF] | omega)) only [S2, Nat.reduceEqDiff, Nat.reduceAdd, iput, puts]
          refine up rfl hlt fun j hj => ?_
          by_cases ej : j = i
          · rw [ej]; exact ⟨e, e2⟩
          · exact hq j (by omega)
      · have hP : ∀ j : Nat, j < R.length → PairOk c (gR R j) := fun j hj => hq j (by omega)
        have e0 : conC c R = 0 := by unfold conC; rw [if_pos h1, if_pos hW, if_pos hP]
        obtain ⟨_, eR, hL⟩ := conC_zero e0
        have co := l03Spread_fi J how how2 ht hsp c h1 (toP R) (by rw [toP_len]; exact bl) hL
        rw [eR] at co
        repeat (first | simp (disch := (first | rfl | with_reducible assumption | with_reducible solve_by_elim (maxDepth := 8) [Shape.inT, Shape.inI, Shape.inC, Shape.inK, Shape.obF, Shape.obT, Shape.arI, Arr.inF] | omega)) only [S2, Nat.reduceEqDiff, Nat.reduceAdd, iput, puts, hlt] | (refine den_call rfl (by first | (simp only [SS, Nat.reduceEqDiff, Nat.reduceAdd, iput, puts, FF, frzL_cat]; done) | (simp only [SS, Nat.reduceEqDiff, Nat.reduceAdd, iput, puts, FF, frzL_cat]; rfl)) (by first | exact co) ?_) | (refine den_calli rfl (by first | (simp only [SS, Nat.reduceEqDiff, Nat.reduceAdd, iput, puts, FF, frzL_cat]; done) | (simp only [SS, Nat.reduceEqDiff, Nat.reduceAdd, iput, puts, FF, frzL_cat]; rfl)) (by first | exact co) ?_))
        exact ⟨_, rfl, hempty, fun _ _ h => h, .inl (by rw [conL, if_pos e0, e0]; rfl)⟩
  · rintro r H' nx' (rfl | ⟨h0, rfl⟩)
    · show ([islice _, int _].mapM (frz H' 5)).map AV.tup = _
      simp only [List.mapM_cons, List.mapM_nil, frz_islice, frz_int]; rfl
    · rw [conL, if_neg h0]
      show ([AV.nil, int _].mapM (frz H' 5)).map AV.tup = _
      simp only [List.mapM_cons, List.mapM_nil, frz_nil, frz_int]; rfl
theorem CongruenceOf_both (K : HCat P ν) (J : HJoin P ν) (hco : Has P ν 342 2 V_Category_congruence) (h : Has P ν 199 2 V_CongruenceOf) (KS : HSpec P ν) (ha : Has P ν 245 2 V_spec_l02Arrows) (hpa : Has P ν 340 3 V_spec_l03Parallel) (JL : HLab P ν) (how : Has P ν 259 1 V_spec_l01Own) (how2 : Has P ν 360 1 V_spec_l01Own2) (ht : Has P ν 253 3 V_spec_l02Then) (hsp : Has P ν 341 2 V_spec_l03Spread) (h' : Has P ν 198 2 V_spec_CongruenceOf) (c : Cat) (b : Small c) (R : List (List Int)) (bR : SmallII R) :
    BothL P ν 199 198 [.agg c.cells, .sl (rows R) R.length] := by
  refine ⟨conL c R, conC c R, ?_, fun nx => CongruenceOf_ok K J hco h c b R bR nx, sCongruenceOf_fi KS ha hpa JL how how2 ht hsp h' c b R bR⟩
  unfold conL
  split
  · rename_i e
    have := (conC_zero e).1.1.n40
    rw [nrm_len]; omega
  · simp
end Go.Av
