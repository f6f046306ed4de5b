/-
  Factorizations: the program's and the reference's.
-/
import Derived.Test.YtbikcomiocdkpaaAvR2
import Derived.Test.YtbikcomiocdkpaaAvD0
import Derived.Test.YtbikcomiocdkpaaAvB4
namespace Go.Av
open Classical
set_option linter.unusedSimpArgs false
set_option linter.unusedVariables false
variable {P : Program} {ν : Nat → FuncId}

section
variable {C : Ct} {Φ : AV → Hp → Nat → Prop} {n : Nat} {vars : Nat → AV} {H : Hp} {nx : Nat} {Is : Nat → Inv} {r : Vc}
theorem den_lit1 {x : Opd} {a : Int} (hx : ev vars x = int a) (hk : ∀ H2 : Hp, H2 nx = some (ints [a]) → (∀ j, j < nx → H2 j = H j) → den C Φ r (n + 1) (put vars n (.ms nx 0 1 1)) H2 (nx + 1) Is) :
    den C Φ (.op true (.mslm 1 1 [int 0] [(0, 1)] [x]) r) n vars H nx Is := by
  refine den_mslm (q := (.ms nx 0 1 1, hput H nx (some (ints [a])), nx + 1)) ?_ (hk _ (hput_eq _ _ _) fun j hj => hput_ne _ _ _ _ (by omega))
  simp only [List.map_cons, List.map_nil, hx]; rfl
theorem den_lit2 {x y : Opd} {a b : Int} (hx : ev vars x = int a) (hy : ev vars y = int b) (hk : ∀ H2 : Hp, H2 nx = some (ints [a, b]) → (∀ j, j < nx → H2 j = H j) → den C Φ r (n + 1) (put vars n (.ms nx 0 2 1)) H2 (nx + 1) Is) :
    den C Φ (.op true (.mslm 1 2 [int 0, int 0] [(0, 1), (1, 1)] [x, y]) r) n vars H nx Is := by
  refine den_mslm (q := (.ms nx 0 2 1, hput H nx (some (ints [a, b])), nx + 1)) ?_ (hk _ (hput_eq _ _ _) fun j hj => hput_ne _ _ _ _ (by omega))
  simp only [List.map_cons, List.map_nil, hx, hy]; rfl
theorem den_lit3 {x y z : Opd} {a b c : Int} (hx : ev vars x = int a) (hy : ev vars y = int b) (hz : ev vars z = int c) (hk : ∀ H2 : Hp, H2 nx = some (ints [a, b, c]) → (∀ j, j < nx → H2 j = H j) → den C Φ r (n + 1) (put vars n (.ms nx 0 3 1)) H2 (nx + 1) Is) :
    den C Φ (.op true (.mslm 1 3 [int 0, int 0, int 0] [(0, 1), (1, 1), (2, 1)] [x, y, z]) r) n vars H nx Is := by
  refine den_mslm (q := (.ms nx 0 3 1, hput H nx (some (ints [a, b, c])), nx + 1)) ?_ (hk _ (hput_eq _ _ _) fun j hj => hput_ne _ _ _ _ (by omega))
  simp only [List.map_cons, List.map_nil, hx, hy, hz]; rfl
end

/-- The error of an arrow and classes of arrows. -/
noncomputable def clsCode (c : Cat) (R : List (List Int)) : Int := if IsCat c then if ∀ i : Nat, i < R.length → Wn (gR R i) c.f.length then if ∀ i : Nat, i < R.length → Rising (gR R i) then 0 else 5 else 2 else 1
def V_classCode : Vc :=
  .op true (.call (.f 24) [.t 0]) <|
  .op true (.p .bnot [.t 2]) <|
  .br 3
   (.ret [(.c (int 1), none)])
   (.op true (.p .len [.t 1]) <|
   .loop 0 [.c (int 0)] <|
   .op true (.p (.bin .lss) [.t 5, .t 4]) <|
   .br 6
    (.op true (.p (.iad 1) [.t 1, .t 5]) <|
    .op true (.p (.ld none) [.t 7]) <|
    .op true (.call (.f 26) [.t 0]) <|
    .op true (.call (.f 25) [.t 8, .t 9]) <|
    .op true (.p .bnot [.t 10]) <|
    .br 11
     (.ret [(.c (int 2), none)])
     (.op true (.p (.bin .add) [.t 5, .c (int 1)]) <|
     .again 0 [.t 12]))
    (.op true (.p .len [.t 1]) <|
    .loop 0 [.c (int 0)] <|
    .op true (.p (.bin .lss) [.t 8, .t 7]) <|
    .br 9
     (.op true (.p (.iad 1) [.t 1, .t 8]) <|
     .op true (.p (.ld none) [.t 10]) <|
     .op true (.call (.f 368) [.t 11]) <|
     .op true (.p .bnot [.t 12]) <|
     .br 13
      (.ret [(.c (int 5), none)])
      (.op true (.p (.bin .add) [.t 8, .c (int 1)]) <|
      .again 0 [.t 14]))
     (.ret [(.c (int 0), none)])))
set_option maxHeartbeats 1000000 in
theorem classCode_fz (K : HCat P ν) (hr : Has P ν 368 1 V_rising) (h : Has P ν 295 2 V_classCode) (c : Cat) (b : Small c) (R : List (List Int)) (hl : R.length ≤ 1048576) (hb : ∀ i : Nat, i < R.length → (gR R i).length ≤ 1048576) :
    Fz (OkM P ν) 295 [.ptr c.cells 0, .sl (rows R) R.length] (int (clsCode c R)) := by
  refine Fn.fzi fun H nx => h _ _ _ _ rfl fun hwf => ?_
  unfold V_classCode clsCode
  repeat (first | simp (disch := (first | rfl | with_reducible assumption | with_reducible solve_by_elim (maxDepth := 8) [Shape.inT, Shape.inI, Shape.inC, Shape.inK, Shape.obF, Shape.obT, Shape.arI, Arr.inF] | omega)) only [S2, Nat.reduceEqDiff, Nat.reduceAdd, iput, puts] | (refine den_call rfl (by first | (simp only [SS, Nat.reduceEqDiff, Nat.reduceAdd, iput, puts, FF, frzL_cat]; done) | (simp only [SS, Nat.reduceEqDiff, Nat.reduceAdd, iput, puts, FF, frzL_cat]; rfl)) (by first | exact (isCategory_ok K c b).fzb) ?_) | (refine den_calli rfl (by first | (simp only [SS, Nat.reduceEqDiff, Nat.reduceAdd, iput, puts, FF, frzL_cat]; done) | (simp only [SS, Nat.reduceEqDiff, Nat.reduceAdd, iput, puts, FF, frzL_cat]; rfl)) (by first | exact (isCategory_ok K c b).fzb) ?_))
  refine ⟨fun h1 => ?_, fun h1 => ?_⟩
  · exact ⟨_, rfl, H, fun _ _ h => h, by rw [if_neg h1]; rfl, rfl, Nat.le_refl _⟩
  have n40 := h1.1.n40
  rw [if_pos h1]
  try simp (disch := (first | rfl | with_reducible assumption | with_reducible solve_by_elim (maxDepth := 8) [Shape.inT, Shape.inI, Shape.inC, Shape.inK, Shape.obF, Shape.obT, Shape.arI, Arr.inF] | omega)) only [S2, Nat.reduceEqDiff, Nat.reduceAdd, iput, puts]
  refine den_for R.length (fun i => ∀ j : Nat, j < i → Wn (gR R j) c.f.length) (fun j hj => by omega) fun i hi hp => ?_
  by_cases hlt : i < R.length
  · have iR : InR R (i : Int) := InR.nat hlt
    have bi := hb i hlt
    repeat (first | simp (disch := (first | rfl | with_reducible assumption | with_reducible solve_by_elim (maxDepth := 8) [Shape.inT, Shape.inI, Shape.inC, Shape.inK, Shape.obF, Shape.obT, Shape.arI, Arr.inF] | omega)) only [S2, Nat.reduceEqDiff, Nat.reduceAdd, iput, puts, hlt] | (refine den_call rfl (by first | (simp only [SS, Nat.reduceEqDiff, Nat.reduceAdd, iput, puts, FF, frzL_cat]; done) | (simp only [SS, Nat.reduceEqDiff, Nat.reduceAdd, iput, puts, FF, frzL_cat]; rfl)) (by first | exact (arrows_ok K.arrows c).fzi | exact (within_ok K.inRange K.within (gR R i) c.f.length (by omega) (by omega) (by omega)).fzb) ?_) | (refine den_calli rfl (by first | (simp only [SS, Nat.reduceEqDiff, Nat.reduceAdd, iput, puts, FF, frzL_cat]; done) | (simp only [SS, Nat.reduceEqDiff, Nat.reduceAdd, iput, puts, FF, frzL_cat]; rfl)) (by first | exact (arrows_ok K.arrows c).fzi | exact (within_ok K.inRange K.within (gR R i) c.f.length (by omega) (by omega) (by omega)).fzb) ?_))
    refine ⟨fun e => ?_, fun e => ?_⟩
    · exact ⟨_, rfl, H, fun _ _ h => h, by rw [if_neg (fun q => e (q i hlt))]; rfl, rfl, Nat.le_refl _⟩
    · try simp (disch := (first | rfl | with_reducible assumption | with_reducible solve_by_elim (maxDepth := 8) [Shape.inT, Shape.inI, Shape.inC, Shape.inK, Shape.obF, Shape.obT, Shape.arI, Arr.inF] | omega)) only [S2, Nat.reduceEqDiff, Nat.reduceAdd, iput, puts]
      refine up rfl hlt fun j hj => ?_
      by_cases ej : j = i
      · rw [ej]; exact e
      · exact hp j (by omega)
  · have hW : ∀ j : Nat, j < R.length → Wn (gR R j) c.f.length := fun j hj => hp j (by omega)
    rw [if_pos hW]
    try simp (disch := (first | rfl | with_reducible assumption | with_reducible solve_by_elim (maxDepth := 8) [Shape.inT, Shape.inI, Shape.inC, Shape.inK, Shape.obF, Shape.obT, Shape.arI, Arr.inF] | omega)) only [S2, Nat.reduceEqDiff, Nat.reduceAdd, iput, puts, hlt]
    refine den_for R.length (fun i => ∀ j : Nat, j < i → Rising (gR R j)) (fun j hj => by omega) fun i hi hq => ?_
    by_cases hlt : i < R.length
    · have iR : InR R (i : Int) := InR.nat hlt
      have bi := hb i hlt
      repeat (first | simp (disch := (first | rfl | with_reducible assumption | with_reducible solve_by_elim (maxDepth := 8) [Shape.inT, Shape.inI, Shape.inC, Shape.inK, Shape.obF, Shape.obT, Shape.arI, Arr.inF] | omega)) only [S2, Nat.reduceEqDiff, Nat.reduceAdd, iput, puts, hlt] | (refine den_call rfl (by first | (simp only [SS, Nat.reduceEqDiff, Nat.reduceAdd, iput, puts, FF, frzL_cat]; done) | (simp only [SS, Nat.reduceEqDiff, Nat.reduceAdd, iput, puts, FF, frzL_cat]; rfl)) (by first | exact (rising_ok hr (gR R i) bi).fzb) ?_) | (refine den_calli rfl (by first | (simp only [SS, Nat.reduceEqDiff, Nat.reduceAdd, iput, puts, FF, frzL_cat]; done) | (simp only [SS, Nat.reduceEqDiff, Nat.reduceAdd, iput, puts, FF, frzL_cat]; rfl)) (by first | exact (rising_ok hr (gR R i) bi).fzb) ?_))
      refine ⟨fun e => ?_, fun e => ?_⟩
      · exact ⟨_, rfl, H, fun _ _ h => h, by rw [if_neg (fun q => e (q i hlt))]; rfl, rfl, Nat.le_refl _⟩
      · try simp (disch := (first | rfl | with_reducible assumption | with_reducible solve_by_elim (maxDepth := 8) [Shape.inT, Shape.inI, Shape.inC, Shape.inK, Shape.obF, Shape.obT, Shape.arI, Arr.inF] | omega)) only [S2, Nat.reduceEqDiff, Nat.reduceAdd, iput, puts]
        refine up rfl hlt fun j hj => ?_
        by_cases ej : j = i
        · rw [ej]; exact e
        · exact hq j (by omega)
    · try simp (disch := (first | rfl | with_reducible assumption | with_reducible solve_by_elim (maxDepth := 8) [Shape.inT, Shape.inI, Shape.inC, Shape.inK, Shape.obF, Shape.obT, Shape.arI, Arr.inF] | omega)) only [S2, Nat.reduceEqDiff, Nat.reduceAdd, iput, puts, hlt]
      exact ⟨_, rfl, H, fun _ _ h => h, by rw [if_pos (fun j hj => hq j (by omega))]; rfl, rfl, Nat.le_refl _⟩

/-- The error of a factorization's arguments. -/
noncomputable def fcode (c : Cat) (es ms : List Int) (f : Int) : Int := if IsCat c then if Arr c f ∧ Wn es c.f.length ∧ Wn ms c.f.length then if Rising es ∧ Rising ms then 0 else 5 else 2 else 1
theorem clsCode_two (c : Cat) (es ms : List Int) : clsCode c [es, ms] = if IsCat c then if Wn es c.f.length ∧ Wn ms c.f.length then if Rising es ∧ Rising ms then 0 else 5 else 2 else 1 := by
  have two : ∀ p : List Int → Prop, (∀ i : Nat, i < [es, ms].length → p (gR [es, ms] i)) ↔ p es ∧ p ms := fun p =>
    ⟨fun h => ⟨h 0 (by simp), h 1 (by simp)⟩, fun h i hi => by
      match i, hi with
      | 0, _ => exact h.1
      | 1, _ => exact h.2⟩
  unfold clsCode
  simp only [two (fun l => Wn l c.f.length), two Rising]

def facR (c : Cat) (ms : List Int) (f z g : Int) : List (List Int) := (ms.filter fun h => c.T g == z && c.K g h == f).map fun h => [z, g, h]
def facE (c : Cat) (es ms : List Int) (f z : Int) : List (List Int) := es.flatMap (facR c ms f z)
def facL (c : Cat) (es ms : List Int) (f : Int) : List (List Int) := (List.range c.o.toNat).flatMap fun (z : Nat) => facE c es ms f z
theorem facR_len (c : Cat) (ms : List Int) (f z g : Int) : (facR c ms f z g).length ≤ ms.length := by simp [facR, List.length_filter_le]
theorem facE_len (c : Cat) (es ms : List Int) (f z : Int) : (facE c es ms f z).length ≤ es.length * ms.length := flat_len_le _ _ _ fun g _ => facR_len c ms f z g
theorem p_mslE {H : Hp} {a b : List Int} : pvf H (.msl 2 [.nil, .nil] [(0, 1), (1, 1)]) [islice a, islice b] = some (.sl (rows [a, b]) [a, b].length) := rfl

def V_FactorizationsOf : Vc :=
  .op true (.p .box [.t 0]) <|
  .op true (.call (.f 24) [.t 4]) <|
  .op true (.p .bnot [.t 5]) <|
  .br 6
   (.ret [(.c (.nil), none), (.c (int 1), none)])
   (.op true (.call (.f 26) [.t 4]) <|
   .op true (.p (.bin .sub) [.t 7, .c (int 1)]) <|
   .op true (.call (.f 32) [.t 3, .c (int 0), .t 8]) <|
   .op true (.p .bnot [.t 9]) <|
   .br 10
    (.ret [(.c (.nil), none), (.c (int 2), none)])
    (.op true (.p (.msl 2 [.nil, .nil] [(0, 1), (1, 1)]) [.t 1, .t 2]) <|
    .op true (.call (.f 295) [.t 4, .t 11]) <|
    .op true (.p (.bin .neq) [.t 12, .c (int 0)]) <|
    .br 13
     (.ret [(.c (.nil), none), (.t 12, none)])
     (.op true (.p (.msl 0 [] []) []) <|
     .loop 0 [.t 14, .c (int 0)] <|
     .op true (.p (.fad 0) [.t 4]) <|
     .op true (.p (.ld none) [.t 17]) <|
     .op true (.p (.bin .lss) [.t 16, .t 18]) <|
     .br 19
      (.op true (.p .len [.t 1]) <|
      .loop 1 [.t 15, .c (int 0)] <|
      .op true (.p (.bin .lss) [.t 22, .t 20]) <|
      .br 23
       (.op true (.p (.iad 1) [.t 1, .t 22]) <|
       .op true (.p (.ld none) [.t 24]) <|
       .op true (.p .len [.t 2]) <|
       .loop 2 [.t 21, .c (int 0)] <|
       .op true (.p (.bin .lss) [.t 28, .t 26]) <|
       .br 29
        (.op true (.p (.iad 1) [.t 2, .t 28]) <|
        .op true (.p (.ld none) [.t 30]) <|
        .op true (.p (.fad 2) [.t 4]) <|
        .op true (.p (.ld none) [.t 32]) <|
        .op true (.p (.iad 1) [.t 33, .t 25]) <|
        .op true (.p (.ld none) [.t 34]) <|
        .op true (.p (.bin .eql) [.t 35, .t 16]) <|
        .br 36
         (.op true (.call (.f 34) [.t 4, .t 25, .t 31]) <|
         .op true (.p (.bin .eql) [.t 37, .t 3]) <|
         .br 38
          (.op true (.mslm 1 3 [int 0, int 0, int 0] [(0, 1), (1, 1), (2, 1)] [.t 16, .t 25, .t 31]) <|
          .op true (.mslm 1 1 [.nil] [(0, 1)] [.t 39]) <|
          .op true (.app 1 (.t 27) (.t 40)) <|
          .op true (.p (.bin .add) [.t 28, .c (int 1)]) <|
          .again 2 [.t 41, .t 42])
          (.op true (.p (.bin .add) [.t 28, .c (int 1)]) <|
          .again 2 [.t 27, .t 39]))
         (.op true (.p (.bin .add) [.t 28, .c (int 1)]) <|
         .again 2 [.t 27, .t 37]))
        (.op true (.p (.bin .add) [.t 22, .c (int 1)]) <|
        .again 1 [.t 27, .t 30]))
       (.op true (.p (.bin .add) [.t 16, .c (int 1)]) <|
       .again 0 [.t 21, .t 24]))
      (.ret [(.t 15, none), (.c (int 0), none)]))))
set_option maxHeartbeats 4000000 in
theorem FactorizationsOf_ok (K : HCat P ν) (hr : Has P ν 368 1 V_rising) (hcc : Has P ν 295 2 V_classCode) (h : Has P ν 156 4 V_FactorizationsOf) (c : Cat) (b : Small c) (es ms : List Int) (f : Int) (be : es.length ≤ 1048576) (bm : ms.length ≤ 1048576) (nx : Nat) :
    OkM P ν 156 [.agg c.cells, islice es, islice ms, int f] hempty nx (IsQ (if fcode c es ms f = 0 then facL c es ms f else []) (fcode c es ms f) nx) := by
  refine h _ _ _ _ rfl fun hwf => ?_
  unfold V_FactorizationsOf
  have bad : ∀ k : Int, fcode c es ms f = k → k ≠ 0 → ∃ H', Sub H' hempty ∧ IsQ (if fcode c es ms f = 0 then facL c es ms f else []) (fcode c es ms f) nx (.tup [.nil, int k]) H' nx := fun k e hk => by
    rw [e, if_neg hk]
    exact ⟨hempty, fun _ _ h => h, .nil, rfl, Nat.le_refl _, OwnD.nil, fun o c hc => by cases hc⟩
  repeat (first | simp (disch := (first | rfl | with_reducible assumption | with_reducible solve_by_elim (maxDepth := 8) [Shape.inT, Shape.inI, Shape.inC, Shape.inK, Shape.obF, Shape.obT, Shape.arI, Arr.inF] | omega)) only [S2, Nat.reduceEqDiff, Nat.reduceAdd, iput, puts] | (refine den_call rfl (by first | (simp only [SS, Nat.reduceEqDiff, Nat.reduceAdd, iput, puts, FF, frzL_cat]; done) | (simp only [SS, Nat.reduceEqDiff, Nat.reduceAdd, iput, puts, FF, frzL_cat]; rfl)) (by first | exact (isCategory_ok K c b).fzb) ?_) | (refine den_calli rfl (by first | (simp only [SS, Nat.reduceEqDiff, Nat.reduceAdd, iput, puts, FF, frzL_cat]; done) | (simp only [SS, Nat.reduceEqDiff, Nat.reduceAdd, iput, puts, FF, frzL_cat]; rfl)) (by first | exact (isCategory_ok K c b).fzb) ?_))
  refine ⟨fun h1 => ?_, fun h1 => ?_⟩
  · obtain ⟨H', q1, q2⟩ := bad 1 (by unfold fcode; rw [if_neg h1]) (by decide)
    exact ⟨_, rfl, H', q1, q2⟩
  have sh := h1.1
  have n40 := sh.n40
  have o8 := sh.o8
  have o0 := sh.o0
  repeat (first | simp (disch := (first | rfl | with_reducible assumption | with_reducible solve_by_elim (maxDepth := 8) [Shape.inT, Shape.inI, Shape.inC, Shape.inK, Shape.obF, Shape.obT, Shape.arI, Arr.inF] | omega)) only [S2, Nat.reduceEqDiff, Nat.reduceAdd, iput, puts] | (refine den_call rfl (by first | (simp only [SS, Nat.reduceEqDiff, Nat.reduceAdd, iput, puts, FF, frzL_cat]; done) | (simp only [SS, Nat.reduceEqDiff, Nat.reduceAdd, iput, puts, FF, frzL_cat]; rfl)) (by first | exact (arrows_ok K.arrows c).fzi) ?_) | (refine den_calli rfl (by first | (simp only [SS, Nat.reduceEqDiff, Nat.reduceAdd, iput, puts, FF, frzL_cat]; done) | (simp only [SS, Nat.reduceEqDiff, Nat.reduceAdd, iput, puts, FF, frzL_cat]; rfl)) (by first | exact (arrows_ok K.arrows c).fzi) ?_))
  have w1 : IntKind.i64.wrap ((c.f.length : Int) - 1) = (c.f.length : Int) - 1 := wrap_id (by omega) (by omega)
  repeat (first | simp (disch := (first | rfl | with_reducible assumption | with_reducible solve_by_elim (maxDepth := 8) [Shape.inT, Shape.inI, Shape.inC, Shape.inK, Shape.obF, Shape.obT, Shape.arI, Arr.inF] | omega)) only [S2, Nat.reduceEqDiff, Nat.reduceAdd, iput, puts, w1] | (refine den_call rfl (by first | (simp only [SS, Nat.reduceEqDiff, Nat.reduceAdd, iput, puts, FF, frzL_cat]; done) | (simp only [SS, Nat.reduceEqDiff, Nat.reduceAdd, iput, puts, FF, frzL_cat]; rfl)) (by first | exact (inRange_ok K.inRange f 0 ((c.f.length : Int) - 1)).fzb) ?_) | (refine den_calli rfl (by first | (simp only [SS, Nat.reduceEqDiff, Nat.reduceAdd, iput, puts, FF, frzL_cat]; done) | (simp only [SS, Nat.reduceEqDiff, Nat.reduceAdd, iput, puts, FF, frzL_cat]; rfl)) (by first | exact (inRange_ok K.inRange f 0 ((c.f.length : Int) - 1)).fzb) ?_))
  refine ⟨fun h2 => ?_, fun h2 => ?_⟩
  · obtain ⟨H', q1, q2⟩ := bad 2 (by unfold fcode; rw [if_pos h1, if_neg (fun q => h2 ⟨q.1.1, by have := q.1.2; omega⟩)]) (by decide)
    exact ⟨_, rfl, H', q1, q2⟩
  have af : Arr c f := ⟨h2.1, by have := h2.2; omega⟩
  have ecls : clsCode c [es, ms] = fcode c es ms f := by
    rw [clsCode_two]; unfold fcode
    simp only [af, true_and]
  have hcls := classCode_fz K hr hcc c b [es, ms] (by simp) (fun i hi => by
    match i, hi with
    | 0, _ => exact be
    | 1, _ => exact bm)
  rw [ecls] at hcls
  repeat (first | simp (disch := (first | rfl | with_reducible assumption | with_reducible solve_by_elim (maxDepth := 8) [Shape.inT, Shape.inI, Shape.inC, Shape.inK, Shape.obF, Shape.obT, Shape.arI, Arr.inF] | omega)) only [S2, Nat.reduceEqDiff, Nat.reduceAdd, iput, puts, p_mslE] | (refine den_call rfl (by first | (simp only [SS, Nat.reduceEqDiff, Nat.reduceAdd, iput, puts, FF, frzL_cat]; done) | (simp only [SS, Nat.reduceEqDiff, Nat.reduceAdd, iput, puts, FF, frzL_cat]; rfl)) (by first | exact hcls) ?_) | (refine den_calli rfl (by first | (simp only [SS, Nat.reduceEqDiff, Nat.reduceAdd, iput, puts, FF, frzL_cat]; done) | (simp only [SS, Nat.reduceEqDiff, Nat.reduceAdd, iput, puts, FF, frzL_cat]; rfl)) (by first | exact hcls) ?_))
  refine ⟨fun h3 => ?_, fun h3 => ?_⟩
  · obtain ⟨H', q1, q2⟩ := bad _ rfl h3
    exact ⟨_, rfl, H', q1, q2⟩
  have h3' := h3
  unfold fcode at h3'
  rw [if_pos h1] at h3'
  have hw : Wn es c.f.length ∧ Wn ms c.f.length := by
    by_cases e : Arr c f ∧ Wn es c.f.length ∧ Wn ms c.f.length
    · exact e.2
    · rw [if_neg e] at h3'; omega
  have hri : Rising es ∧ Rising ms := by
    by_cases e : Rising es ∧ Rising ms
    · exact e
    · rw [if_pos ⟨af, hw⟩, if_neg e] at h3'; omega
  have le : es.length ≤ 40 := by
    rcases hri.1.le hw.1 with e | e
    · omega
    · simp [e]
  have lm : ms.length ≤ 40 := by
    rcases hri.2.le hw.2 with e | e
    · omega
    · simp [e]
  have lz : ∀ z : Nat, z ≤ 8 → ((List.range z).flatMap fun (z : Nat) => facE c es ms f z).length ≤ 8 * 1600 := fun z hz => by
    have := flat_len_le (List.range z) (fun (z : Nat) => facE c es ms f z) 1600 fun a _ => Nat.le_trans (facE_len c es ms f a) (Nat.mul_le_mul le lm)
    simp only [List.length_range] at this
    exact Nat.le_trans this (Nat.mul_le_mul_right _ hz)
  rw [h3, if_pos rfl]
  try simp (disch := (first | rfl | with_reducible assumption | with_reducible solve_by_elim (maxDepth := 8) [Shape.inT, Shape.inI, Shape.inC, Shape.inK, Shape.obF, Shape.obT, Shape.arI, Arr.inF] | omega)) only [S2, Nat.reduceEqDiff, Nat.reduceAdd, iput, puts]
  refine den_loop (α := Nat × AV) (fun a => [a.2, int a.1]) (fun a H' nx' => a.1 ≤ c.o.toNat ∧ OwnD ((List.range a.1).flatMap fun (z : Nat) => facE c es ms f z) a.2 H' nx nx' ∧ nx ≤ nx') (fun a => c.o.toNat - a.1) (0, .nil) rfl ⟨Nat.zero_le _, OwnD.nil, Nat.le_refl _⟩ ?_
  rintro ⟨z, v⟩ H1 n1 ⟨hz, hI, hn1⟩
  simp only at hz hI
  by_cases hlt : (z : Int) < c.o
  · have tz := range_flat (fun (z : Nat) => facE c es ms f z) z
    have lA := lz z (by omega)
    generalize hA : ((List.range z).flatMap fun (z : Nat) => facE c es ms f z) = A at hI tz lA
    try simp (disch := (first | rfl | with_reducible assumption | with_reducible solve_by_elim (maxDepth := 8) [Shape.inT, Shape.inI, Shape.inC, Shape.inK, Shape.obF, Shape.obT, Shape.arI, Arr.inF] | omega)) only [S2, Nat.reduceEqDiff, Nat.reduceAdd, iput, puts, hlt]
    refine den_loop (α := Nat × AV) (fun a => [a.2, int a.1]) (fun a H' nx' => a.1 ≤ es.length ∧ OwnD (A ++ (es.take a.1).flatMap (facR c ms f z)) a.2 H' nx nx' ∧ nx ≤ nx') (fun a => es.length - a.1) (0, v) rfl ⟨Nat.zero_le _, by simpa using hI, hn1⟩ ?_
    rintro ⟨i, v1⟩ H2 n2 ⟨hi, hJ, hn2⟩
    simp only at hi hJ
    by_cases hli : i < es.length
    · have i1 : In es (i : Int) := In.nat hli
      have ag : Arr c (gI es i) := hw.1 i hli
      have ti : ((es.take (i + 1)).flatMap (facR c ms f z)) = ((es.take i).flatMap (facR c ms f z)) ++ facR c ms f z (gI es i) := by rw [take_succ_at hli, List.flatMap_append]; simp [gI]
      have lB : ((es.take i).flatMap (facR c ms f z)).length ≤ 1600 := by
        have := flat_len_le (es.take i) (facR c ms f z) 40 fun g _ => Nat.le_trans (facR_len c ms f z g) lm
        have h4 : (es.take i).length * 40 ≤ 40 * 40 := Nat.mul_le_mul_right _ (by simp; omega)
        omega
      generalize hB : A ++ (es.take i).flatMap (facR c ms f z) = B at hJ
      have lB2 : B.length ≤ 8 * 1600 + 1600 := by rw [← hB, List.length_append]; omega
      generalize hg : gI es i = g at ag ti
      try simp (disch := (first | rfl | with_reducible assumption | with_reducible solve_by_elim (maxDepth := 8) [Shape.inT, Shape.inI, Shape.inC, Shape.inK, Shape.obF, Shape.obT, Shape.arI, Arr.inF] | omega)) only [S2, Nat.reduceEqDiff, Nat.reduceAdd, iput, puts, hli, hg]
      refine den_loop (α := Nat × AV) (fun a => [a.2, int a.1]) (fun a H' nx' => a.1 ≤ ms.length ∧ OwnD (B ++ ((ms.take a.1).filter fun h => c.T g == z && c.K g h == f).map fun h => [(z : Int), g, h]) a.2 H' nx nx' ∧ nx ≤ nx') (fun a => ms.length - a.1) (0, v1) rfl ⟨Nat.zero_le _, by simpa using hJ, hn2⟩ ?_
      rintro ⟨j, v2⟩ H3 n3 ⟨hj, hK, hn3⟩
      simp only at hj hK
      by_cases hlj : j < ms.length
      · have i2 : In ms (j : Int) := In.nat hlj
        have ah : Arr c (gI ms j) := hw.2 j hlj
        have tj := take_filter (q := fun h => c.T g == z && c.K g h == f) hlj
        rw [show ms.getD j 0 = gI ms j from rfl] at tj
        have lj := take_filter_len ms (fun h => c.T g == z && c.K g h == f) j
        generalize hh : gI ms j = hh' at ah tj
        have it : In c.t g := sh.inT ag
        have eT : gI c.t g = c.T g := rfl
        generalize hD : B ++ ((ms.take j).filter fun h => c.T g == z && c.K g h == f).map (fun h => [(z : Int), g, h]) = D at hK
        have lD : D.length ≤ 1048576 := by rw [← hD, List.length_append, List.length_map]; omega
        try simp (disch := (first | rfl | with_reducible assumption | with_reducible solve_by_elim (maxDepth := 8) [Shape.inT, Shape.inI, Shape.inC, Shape.inK, Shape.obF, Shape.obT, Shape.arI, Arr.inF] | omega)) only [S2, Nat.reduceEqDiff, Nat.reduceAdd, iput, puts, hlj, hh, eT]
        refine ⟨fun e1 => ?_, fun e1 => ?_⟩
        · repeat (first | simp (disch := (first | rfl | with_reducible assumption | with_reducible solve_by_elim (maxDepth := 8) [Shape.inT, Shape.inI, Shape.inC, Shape.inK, Shape.obF, Shape.obT, Shape.arI, Arr.inF] | omega)) only [S2, Nat.reduceEqDiff, Nat.reduceAdd, iput, puts] | (refine den_call rfl (by first | (simp only [SS, Nat.reduceEqDiff, Nat.reduceAdd, iput, puts, FF, frzL_cat]; done) | (simp only [SS, Nat.reduceEqDiff, Nat.reduceAdd, iput, puts, FF, frzL_cat]; rfl)) (by first | exact sh.fzThen K.thn ag ah) ?_) | (refine den_calli rfl (by first | (simp only [SS, Nat.reduceEqDiff, Nat.reduceAdd, iput, puts, FF, frzL_cat]; done) | (simp only [SS, Nat.reduceEqDiff, Nat.reduceAdd, iput, puts, FF, frzL_cat]; rfl)) (by first | exact sh.fzThen K.thn ag ah) ?_))
          refine ⟨fun e2 => ?_, fun e2 => ?_⟩
          · refine den_lit3 (a := z) (b := g) (c := hh') rfl rfl rfl fun H4 y4 e4 => ?_
            refine den_rowD (R := D) (l := [(z : Int), g, hh']) (lo := nx) (mid := n3) (hK.mono (Nat.le_refl _) fun k q1 q2 => e4 k q2) (by omega) (fun _ => rfl) hn3 lD (.inr ⟨n3, Nat.le_refl _, by omega, rfl, y4⟩) fun v3 H5 n5 hO hn5 _ _ => ?_
            try simp (disch := (first | rfl | with_reducible assumption | with_reducible solve_by_elim (maxDepth := 8) [Shape.inT, Shape.inI, Shape.inC, Shape.inK, Shape.obF, Shape.obT, Shape.arI, Arr.inF] | omega)) only [S2, Nat.reduceEqDiff, Nat.reduceAdd, iput, puts]
            refine ⟨(j + 1, v3), rfl, ⟨hlj, ?_, by omega⟩, by simp only; omega⟩
            simp only
            rw [tj, if_pos (by simp [e1, e2]), List.map_append, ← List.append_assoc, hD]
            exact hO
          · try simp (disch := (first | rfl | with_reducible assumption | with_reducible solve_by_elim (maxDepth := 8) [Shape.inT, Shape.inI, Shape.inC, Shape.inK, Shape.obF, Shape.obT, Shape.arI, Arr.inF] | omega)) only [S2, Nat.reduceEqDiff, Nat.reduceAdd, iput, puts]
            refine ⟨(j + 1, v2), rfl, ⟨hlj, ?_, by omega⟩, by simp only; omega⟩
            simp only
            rw [tj, if_neg (by simp [e2]), List.append_nil, hD]
            exact hK
        · try simp (disch := (first | rfl | with_reducible assumption | with_reducible solve_by_elim (maxDepth := 8) [Shape.inT, Shape.inI, Shape.inC, Shape.inK, Shape.obF, Shape.obT, Shape.arI, Arr.inF] | omega)) only [S2, Nat.reduceEqDiff, Nat.reduceAdd, iput, puts]
          refine ⟨(j + 1, v2), rfl, ⟨hlj, ?_, by omega⟩, by simp only; omega⟩
          simp only
          rw [tj, if_neg (by simp [e1]), List.append_nil, hD]
          exact hK
      · try simp (disch := (first | rfl | with_reducible assumption | with_reducible solve_by_elim (maxDepth := 8) [Shape.inT, Shape.inI, Shape.inC, Shape.inK, Shape.obF, Shape.obT, Shape.arI, Arr.inF] | omega)) only [S2, Nat.reduceEqDiff, Nat.reduceAdd, iput, puts, hlj]
        refine ⟨(i + 1, v2), rfl, ⟨hli, ?_, by omega⟩, by simp only; omega⟩
        have hje : j = ms.length := by omega
        subst hje
        rw [List.take_length] at hK
        simp only
        rw [ti, ← List.append_assoc, hB]
        exact hK
    · try simp (disch := (first | rfl | with_reducible assumption | with_reducible solve_by_elim (maxDepth := 8) [Shape.inT, Shape.inI, Shape.inC, Shape.inK, Shape.obF, Shape.obT, Shape.arI, Arr.inF] | omega)) only [S2, Nat.reduceEqDiff, Nat.reduceAdd, iput, puts, hli]
      refine ⟨(z + 1, v1), rfl, ⟨by omega, ?_, by omega⟩, by simp only; omega⟩
      have hie : i = es.length := by omega
      subst hie
      rw [List.take_length] at hJ
      simp only
      rw [tz]
      exact hJ
  · try simp (disch := (first | rfl | with_reducible assumption | with_reducible solve_by_elim (maxDepth := 8) [Shape.inT, Shape.inI, Shape.inC, Shape.inK, Shape.obF, Shape.obT, Shape.arI, Arr.inF] | omega)) only [S2, Nat.reduceEqDiff, Nat.reduceAdd, iput, puts, hlt]
    have hze : z = c.o.toNat := by omega
    subst hze
    exact ⟨_, rfl, keepH nx H1, keepH_sub _ _, v, rfl, hn1, hI.keep, keepH_cln _ _⟩

def V_spec_l18Code : Vc :=
  .op true (.p .box [.t 0]) <|
  .op true (.p (.ld (some 5)) [.t 3]) <|
  .op true (.call (.f 245) [.t 4, .t 1]) <|
  .op true (.p (.bin .eql) [.t 5, .c (int 0)]) <|
  .br 6
   (.op true (.p (.ld (some 5)) [.t 3]) <|
   .op true (.call (.f 245) [.t 7, .t 2]) <|
   .op true (.p (.bin .eql) [.t 8, .c (int 0)]) <|
   .br 9
    (.op true (.call (.f 366) [.t 1]) <|
    .op true (.p .bnot [.t 10]) <|
    .br 11
     (.ret [(.c (int 5), none)])
     (.op true (.call (.f 366) [.t 2]) <|
     .op true (.p .bnot [.t 12]) <|
     .br 13
      (.ret [(.c (int 5), none)])
      (.ret [(.t 8, none)])))
    (.ret [(.t 8, none)]))
   (.op true (.p (.bin .eql) [.t 5, .c (int 0)]) <|
   .br 7
    (.op true (.call (.f 366) [.t 1]) <|
    .op true (.p .bnot [.t 8]) <|
    .br 9
     (.ret [(.c (int 5), none)])
     (.op true (.call (.f 366) [.t 2]) <|
     .op true (.p .bnot [.t 10]) <|
     .br 11
      (.ret [(.c (int 5), none)])
      (.ret [(.t 5, none)])))
    (.ret [(.t 5, none)]))
theorem l18Code_fz (KS : HSpec P ν) (ha : Has P ν 245 2 V_spec_l02Arrows) (hri : Has P ν 366 1 V_spec_l02Rises) (h : Has P ν 293 3 V_spec_l18Code) (c : Cat) (b : Small c) (es ms : List Int) (be : es.length ≤ 1048576) (bm : ms.length ≤ 1048576) :
    Fz (OkM P ν) 293 [.agg c.cells, islice es, islice ms] (int (clsCode c [es, ms])) := by
  refine Fn.fzi fun H nx => h _ _ _ _ rfl fun hwf => ?_
  unfold V_spec_l18Code
  rw [clsCode_two]
  by_cases h1 : IsCat c
  · rw [if_pos h1]
    by_cases h2 : Wn es c.f.length
    · have e1 : code (IsCat c) (Wn es c.f.length) = 0 := by rw [code, if_pos h1, if_pos h2]
      have f1 := l02Arrows_fz KS ha c b es be Iff.rfl
      rw [e1] at f1
      by_cases h3 : Wn ms c.f.length
      · have e2 : code (IsCat c) (Wn ms c.f.length) = 0 := by rw [code, if_pos h1, if_pos h3]
        have f2 := l02Arrows_fz KS ha c b ms bm Iff.rfl
        rw [e2] at f2
        rw [if_pos ⟨h2, h3⟩]
        repeat (first | simp (disch := (first | rfl | with_reducible assumption | with_reducible solve_by_elim (maxDepth := 8) [Shape.inT, Shape.inI, Shape.inC, Shape.inK, Shape.obF, Shape.obT, Shape.arI, Arr.inF] | omega)) only [S2, Nat.reduceEqDiff, Nat.reduceAdd, iput, puts] | (refine den_call rfl (by first | (simp only [SS, Nat.reduceEqDiff, Nat.reduceAdd, iput, puts, FF, frzL_cat]; done) | (simp only [SS, Nat.reduceEqDiff, Nat.reduceAdd, iput, puts, FF, frzL_cat]; rfl)) (by first | exact f1 | exact f2) ?_) | (refine den_calli rfl (by first | (simp only [SS, Nat.reduceEqDiff, Nat.reduceAdd, iput, puts, FF, frzL_cat]; done) | (simp only [SS, Nat.reduceEqDiff, Nat.reduceAdd, iput, puts, FF, frzL_cat]; rfl)) (by first | exact f1 | exact f2) ?_))
        repeat (first | simp (disch := (first | rfl | with_reducible assumption | with_reducible solve_by_elim (maxDepth := 8) [Shape.inT, Shape.inI, Shape.inC, Shape.inK, Shape.obF, Shape.obT, Shape.arI, Arr.inF] | omega)) only [S2, Nat.reduceEqDiff, Nat.reduceAdd, iput, puts] | (refine den_call rfl (by first | (simp only [SS, Nat.reduceEqDiff, Nat.reduceAdd, iput, puts, FF, frzL_cat]; done) | (simp only [SS, Nat.reduceEqDiff, Nat.reduceAdd, iput, puts, FF, frzL_cat]; rfl)) (by first | exact f1 | exact f2 | exact (l02Rises_ok hri es be).fzb) ?_) | (refine den_calli rfl (by first | (simp only [SS, Nat.reduceEqDiff, Nat.reduceAdd, iput, puts, FF, frzL_cat]; done) | (simp only [SS, Nat.reduceEqDiff, Nat.reduceAdd, iput, puts, FF, frzL_cat]; rfl)) (by first | exact f1 | exact f2 | exact (l02Rises_ok hri es be).fzb) ?_))
        refine ⟨fun h4 => ?_, fun h4 => ?_⟩
        · exact ⟨_, rfl, H, fun _ _ h => h, by rw [if_neg (fun q => h4 q.1)]; rfl, rfl, Nat.le_refl _⟩
        repeat (first | simp (disch := (first | rfl | with_reducible assumption | with_reducible solve_by_elim (maxDepth := 8) [Shape.inT, Shape.inI, Shape.inC, Shape.inK, Shape.obF, Shape.obT, Shape.arI, Arr.inF] | omega)) only [S2, Nat.reduceEqDiff, Nat.reduceAdd, iput, puts] | (refine den_call rfl (by first | (simp only [SS, Nat.reduceEqDiff, Nat.reduceAdd, iput, puts, FF, frzL_cat]; done) | (simp only [SS, Nat.reduceEqDiff, Nat.reduceAdd, iput, puts, FF, frzL_cat]; rfl)) (by first | exact (l02Rises_ok hri ms bm).fzb) ?_) | (refine den_calli rfl (by first | (simp only [SS, Nat.reduceEqDiff, Nat.reduceAdd, iput, puts, FF, frzL_cat]; done) | (simp only [SS, Nat.reduceEqDiff, Nat.reduceAdd, iput, puts, FF, frzL_cat]; rfl)) (by first | exact (l02Rises_ok hri ms bm).fzb) ?_))
        refine ⟨fun h5 => ?_, fun h5 => ?_⟩
        · exact ⟨_, rfl, H, fun _ _ h => h, by rw [if_neg (fun q => h5 q.2)]; rfl, rfl, Nat.le_refl _⟩
        · exact ⟨_, rfl, H, fun _ _ h => h, by rw [if_pos ⟨h4, h5⟩]; rfl, rfl, Nat.le_refl _⟩
      · have e2 : code (IsCat c) (Wn ms c.f.length) = 2 := by rw [code, if_pos h1, if_neg h3]
        have f2 := l02Arrows_fz KS ha c b ms bm Iff.rfl
        rw [e2] at f2
        rw [if_neg (fun q => h3 q.2)]
        have z2 : ((2 : Int) == 0) = false := by decide
        repeat (first | simp (disch := (first | rfl | with_reducible assumption | with_reducible solve_by_elim (maxDepth := 8) [Shape.inT, Shape.inI, Shape.inC, Shape.inK, Shape.obF, Shape.obT, Shape.arI, Arr.inF] | omega)) only [S2, Nat.reduceEqDiff, Nat.reduceAdd, iput, puts, z2] | (refine den_call rfl (by first | (simp only [SS, Nat.reduceEqDiff, Nat.reduceAdd, iput, puts, FF, frzL_cat]; done) | (simp only [SS, Nat.reduceEqDiff, Nat.reduceAdd, iput, puts, FF, frzL_cat]; rfl)) (by first | exact f1 | exact f2) ?_) | (refine den_calli rfl (by first | (simp only [SS, Nat.reduceEqDiff, Nat.reduceAdd, iput, puts, FF, frzL_cat]; done) | (simp only [SS, Nat.reduceEqDiff, Nat.reduceAdd, iput, puts, FF, frzL_cat]; rfl)) (by first | exact f1 | exact f2) ?_))
        exact ⟨_, rfl, H, fun _ _ h => h, rfl, rfl, Nat.le_refl _⟩
    · have e1 : code (IsCat c) (Wn es c.f.length) = 2 := by rw [code, if_pos h1, if_neg h2]
      have f1 := l02Arrows_fz KS ha c b es be Iff.rfl
      rw [e1] at f1
      rw [if_neg (fun q => h2 q.1)]
      have z2 : ((2 : Int) == 0) = false := by decide
      repeat (first | simp (disch := (first | rfl | with_reducible assumption | with_reducible solve_by_elim (maxDepth := 8) [Shape.inT, Shape.inI, Shape.inC, Shape.inK, Shape.obF, Shape.obT, Shape.arI, Arr.inF] | omega)) only [S2, Nat.reduceEqDiff, Nat.reduceAdd, iput, puts, z2] | (refine den_call rfl (by first | (simp only [SS, Nat.reduceEqDiff, Nat.reduceAdd, iput, puts, FF, frzL_cat]; done) | (simp only [SS, Nat.reduceEqDiff, Nat.reduceAdd, iput, puts, FF, frzL_cat]; rfl)) (by first | exact f1) ?_) | (refine den_calli rfl (by first | (simp only [SS, Nat.reduceEqDiff, Nat.reduceAdd, iput, puts, FF, frzL_cat]; done) | (simp only [SS, Nat.reduceEqDiff, Nat.reduceAdd, iput, puts, FF, frzL_cat]; rfl)) (by first | exact f1) ?_))
      exact ⟨_, rfl, H, fun _ _ h => h, rfl, rfl, Nat.le_refl _⟩
  · rw [if_neg h1]
    have e1 : code (IsCat c) (Wn es c.f.length) = 1 := by rw [code, if_neg h1]
    have f1 := l02Arrows_fz KS ha c b es be Iff.rfl
    rw [e1] at f1
    have z2 : ((1 : Int) == 0) = false := by decide
    repeat (first | simp (disch := (first | rfl | with_reducible assumption | with_reducible solve_by_elim (maxDepth := 8) [Shape.inT, Shape.inI, Shape.inC, Shape.inK, Shape.obF, Shape.obT, Shape.arI, Arr.inF] | omega)) only [S2, Nat.reduceEqDiff, Nat.reduceAdd, iput, puts, z2] | (refine den_call rfl (by first | (simp only [SS, Nat.reduceEqDiff, Nat.reduceAdd, iput, puts, FF, frzL_cat]; done) | (simp only [SS, Nat.reduceEqDiff, Nat.reduceAdd, iput, puts, FF, frzL_cat]; rfl)) (by first | exact f1) ?_) | (refine den_calli rfl (by first | (simp only [SS, Nat.reduceEqDiff, Nat.reduceAdd, iput, puts, FF, frzL_cat]; done) | (simp only [SS, Nat.reduceEqDiff, Nat.reduceAdd, iput, puts, FF, frzL_cat]; rfl)) (by first | exact f1) ?_))
    exact ⟨_, rfl, H, fun _ _ h => h, rfl, rfl, Nat.le_refl _⟩

def V_spec_l18Factor : Vc :=
  .op true (.p .box [.t 0]) <|
  .op true (.p (.msl 0 [] []) []) <|
  .loop 0 [.t 5, .c (int 0)] <|
  .op true (.p (.fad 0) [.t 4]) <|
  .op true (.p (.ld none) [.t 8]) <|
  .op true (.p (.bin .lss) [.t 7, .t 9]) <|
  .br 10
   (.loop 1 [.t 6, .c (int 0)] <|
   .op true (.p .len [.t 1]) <|
   .op true (.p (.bin .lss) [.t 12, .t 13]) <|
   .br 14
    (.loop 2 [.t 11, .c (int 0)] <|
    .op true (.p .len [.t 2]) <|
    .op true (.p (.bin .lss) [.t 16, .t 17]) <|
    .br 18
     (.op true (.p (.fad 1) [.t 4]) <|
     .op true (.p (.ld none) [.t 19]) <|
     .op true (.p (.iad 1) [.t 1, .t 12]) <|
     .op true (.p (.ld none) [.t 21]) <|
     .op true (.p (.iad 1) [.t 20, .t 22]) <|
     .op true (.p (.ld none) [.t 23]) <|
     .op true (.p (.fad 1) [.t 4]) <|
     .op true (.p (.ld none) [.t 25]) <|
     .op true (.p (.iad 1) [.t 26, .t 3]) <|
     .op true (.p (.ld none) [.t 27]) <|
     .op true (.p (.bin .eql) [.t 24, .t 28]) <|
     .br 29
      (.op true (.p (.fad 2) [.t 4]) <|
      .op true (.p (.ld none) [.t 30]) <|
      .op true (.p (.iad 1) [.t 1, .t 12]) <|
      .op true (.p (.ld none) [.t 32]) <|
      .op true (.p (.iad 1) [.t 31, .t 33]) <|
      .op true (.p (.ld none) [.t 34]) <|
      .op true (.p (.bin .eql) [.t 35, .t 7]) <|
      .br 36
       (.op true (.p (.fad 1) [.t 4]) <|
       .op true (.p (.ld none) [.t 37]) <|
       .op true (.p (.iad 1) [.t 2, .t 16]) <|
       .op true (.p (.ld none) [.t 39]) <|
       .op true (.p (.iad 1) [.t 38, .t 40]) <|
       .op true (.p (.ld none) [.t 41]) <|
       .op true (.p (.bin .eql) [.t 42, .t 7]) <|
       .br 43
        (.op true (.p (.fad 2) [.t 4]) <|
        .op true (.p (.ld none) [.t 44]) <|
        .op true (.p (.iad 1) [.t 2, .t 16]) <|
        .op true (.p (.ld none) [.t 46]) <|
        .op true (.p (.iad 1) [.t 45, .t 47]) <|
        .op true (.p (.ld none) [.t 48]) <|
        .op true (.p (.fad 2) [.t 4]) <|
        .op true (.p (.ld none) [.t 50]) <|
        .op true (.p (.iad 1) [.t 51, .t 3]) <|
        .op true (.p (.ld none) [.t 52]) <|
        .op true (.p (.bin .eql) [.t 49, .t 53]) <|
        .br 54
         (.op true (.p (.ld (some 5)) [.t 4]) <|
         .op true (.p (.iad 1) [.t 1, .t 12]) <|
         .op true (.p (.ld none) [.t 56]) <|
         .op true (.p (.iad 1) [.t 2, .t 16]) <|
         .op true (.p (.ld none) [.t 58]) <|
         .op true (.call (.f 253) [.t 55, .t 57, .t 59]) <|
         .op true (.p (.bin .eql) [.t 60, .t 3]) <|
         .br 61
          (.op true (.p (.iad 1) [.t 1, .t 12]) <|
          .op true (.p (.ld none) [.t 62]) <|
          .op true (.p (.iad 1) [.t 2, .t 16]) <|
          .op true (.p (.ld none) [.t 64]) <|
          .op true (.p (.msl 3 [int 0, int 0, int 0] [(0, 1), (1, 1), (2, 1)]) [.t 7, .t 63, .t 65]) <|
          .op true (.p (.msl 1 [.nil] [(0, 1)]) [.t 66]) <|
          .op true (.app 1 (.t 15) (.t 67)) <|
          .op true (.p (.bin .add) [.t 16, .c (int 1)]) <|
          .again 2 [.t 68, .t 69])
          (.op true (.p (.bin .add) [.t 16, .c (int 1)]) <|
          .again 2 [.t 15, .t 62]))
         (.op true (.p (.bin .add) [.t 16, .c (int 1)]) <|
         .again 2 [.t 15, .t 55]))
        (.op true (.p (.bin .add) [.t 16, .c (int 1)]) <|
        .again 2 [.t 15, .t 44]))
       (.op true (.p (.bin .add) [.t 16, .c (int 1)]) <|
       .again 2 [.t 15, .t 37]))
      (.op true (.p (.bin .add) [.t 16, .c (int 1)]) <|
      .again 2 [.t 15, .t 30]))
     (.op true (.p (.bin .add) [.t 12, .c (int 1)]) <|
     .again 1 [.t 15, .t 19]))
    (.op true (.p (.bin .add) [.t 7, .c (int 1)]) <|
    .again 0 [.t 11, .t 15]))
   (.ret [(.t 6, none)])
set_option maxHeartbeats 4000000 in
theorem l18Factor_fi (ht : Has P ν 253 3 V_spec_l02Then) (h : Has P ν 294 4 V_spec_l18Factor) (c : Cat) (sh : Shape c) (es ms : List Int) (f : Int) (af : Arr c f) (hw : Wn es c.f.length ∧ Wn ms c.f.length) (le : es.length ≤ 40) (lm : ms.length ≤ 40) :
    Fi (OkM P ν) 294 [.agg c.cells, islice es, islice ms, int f] (.sl (rows (facL c es ms f)) (facL c es ms f).length) := by
  refine OkM.fi (Ψ := fun H nx => IsC (rows (facL c es ms f)) (facL c es ms f).length 1 H nx) (fun H nx => h _ _ _ _ rfl fun hwf => ?_) fun _ _ _ hh => hh.rows
  unfold V_spec_l18Factor
  have n40 := sh.n40
  have o8 := sh.o8
  have o0 := sh.o0
  have lz : ∀ z : Nat, z ≤ 8 → ((List.range z).flatMap fun (z : Nat) => facE c es ms f z).length ≤ 8 * 1600 := fun z hz => by
    have := flat_len_le (List.range z) (fun (z : Nat) => facE c es ms f z) 1600 fun a _ => Nat.le_trans (facE_len c es ms f a) (Nat.mul_le_mul le lm)
    simp only [List.length_range] at this
    exact Nat.le_trans this (Nat.mul_le_mul_right _ hz)
  try simp (disch := (first | rfl | with_reducible assumption | with_reducible solve_by_elim (maxDepth := 8) [Shape.inT, Shape.inI, Shape.inC, Shape.inK, Shape.obF, Shape.obT, Shape.arI, Arr.inF] | omega)) only [S2, Nat.reduceEqDiff, Nat.reduceAdd, iput, puts]
  refine den_loop (α := Nat × AV) (fun a => [a.2, int a.1]) (fun a H' nx' => a.1 ≤ c.o.toNat ∧ IsC (rows ((List.range a.1).flatMap fun (z : Nat) => facE c es ms f z)) ((List.range a.1).flatMap fun (z : Nat) => facE c es ms f z).length 1 H nx a.2 H' nx') (fun a => c.o.toNat - a.1) (0, .nil) rfl ⟨Nat.zero_le _, IsC.nil⟩ ?_
  rintro ⟨z, v⟩ H1 n1 ⟨hz, hI⟩
  simp only at hz hI
  by_cases hlt : (z : Int) < c.o
  · have tz := range_flat (fun (z : Nat) => facE c es ms f z) z
    have lA := lz z (by omega)
    generalize hA : ((List.range z).flatMap fun (z : Nat) => facE c es ms f z) = A at hI tz lA
    try simp (disch := (first | rfl | with_reducible assumption | with_reducible solve_by_elim (maxDepth := 8) [Shape.inT, Shape.inI, Shape.inC, Shape.inK, Shape.obF, Shape.obT, Shape.arI, Arr.inF] | omega)) only [S2, Nat.reduceEqDiff, Nat.reduceAdd, iput, puts, hlt]
    refine den_loop (α := Nat × AV) (fun a => [a.2, int a.1]) (fun a H' nx' => a.1 ≤ es.length ∧ IsC (rows (A ++ (es.take a.1).flatMap (facR c ms f z))) (A ++ (es.take a.1).flatMap (facR c ms f z)).length 1 H nx a.2 H' nx') (fun a => es.length - a.1) (0, v) rfl ⟨Nat.zero_le _, by simpa using hI⟩ ?_
    rintro ⟨i, v1⟩ H2 n2 ⟨hi, hJ⟩
    simp only at hi hJ
    by_cases hli : i < es.length
    · have i1 : In es (i : Int) := In.nat hli
      have ag : Arr c (gI es i) := hw.1 i hli
      have ti : ((es.take (i + 1)).flatMap (facR c ms f z)) = ((es.take i).flatMap (facR c ms f z)) ++ facR c ms f z (gI es i) := by rw [take_succ_at hli, List.flatMap_append]; simp [gI]
      have lB : ((es.take i).flatMap (facR c ms f z)).length ≤ 1600 := by
        have := flat_len_le (es.take i) (facR c ms f z) 40 fun g _ => Nat.le_trans (facR_len c ms f z g) lm
        have h4 : (es.take i).length * 40 ≤ 40 * 40 := Nat.mul_le_mul_right _ (by simp; omega)
        omega
      generalize hB : A ++ (es.take i).flatMap (facR c ms f z) = B at hJ
      have lB2 : B.length ≤ 8 * 1600 + 1600 := by rw [← hB, List.length_append]; omega
      generalize hg : gI es i = g at ag ti
      try simp (disch := (first | rfl | with_reducible assumption | with_reducible solve_by_elim (maxDepth := 8) [Shape.inT, Shape.inI, Shape.inC, Shape.inK, Shape.obF, Shape.obT, Shape.arI, Arr.inF] | omega)) only [S2, Nat.reduceEqDiff, Nat.reduceAdd, iput, puts, hli, hg]
      refine den_loop (α := Nat × AV) (fun a => [a.2, int a.1]) (fun a H' nx' => a.1 ≤ ms.length ∧ IsC (rows (B ++ ((ms.take a.1).filter fun h => c.T g == z && c.K g h == f).map fun h => [(z : Int), g, h])) (B ++ ((ms.take a.1).filter fun h => c.T g == z && c.K g h == f).map fun h => [(z : Int), g, h]).length 1 H nx a.2 H' nx') (fun a => ms.length - a.1) (0, v1) rfl ⟨Nat.zero_le _, by simpa using hJ⟩ ?_
      rintro ⟨j, v2⟩ H3 n3 ⟨hj, hK⟩
      simp only at hj hK
      by_cases hlj : j < ms.length
      · have i2 : In ms (j : Int) := In.nat hlj
        have ah : Arr c (gI ms j) := hw.2 j hlj
        have tj := take_filter (q := fun h => c.T g == z && c.K g h == f) hlj
        rw [show ms.getD j 0 = gI ms j from rfl] at tj
        have lj := take_filter_len ms (fun h => c.T g == z && c.K g h == f) j
        generalize hh : gI ms j = hh' at ah tj
        have it : In c.t g := sh.inT ag
        have iff1 : In c.f g := ag.inF
        have if2 : In c.f f := af.inF
        have if3 : In c.f hh' := ah.inF
        have it3 : In c.t hh' := sh.inT ah
        have it2 : In c.t f := sh.inT af
        generalize hD : B ++ ((ms.take j).filter fun h => c.T g == z && c.K g h == f).map (fun h => [(z : Int), g, h]) = D at hK
        have lD : D.length ≤ 1048576 := by rw [← hD, List.length_append, List.length_map]; omega
        -- the four looks at ends say no more than the composite does
        have iffK : c.K g hh' = f → c.F g = c.F f ∧ c.T g = c.F hh' ∧ c.T hh' = c.T f := fun e => by
          have e1 : c.T g = c.F hh' := (sh.kI ag ah).1 (by rw [e]; exact af.1)
          have := sh.kF ag ah e1
          have := sh.kT ag ah e1
          rw [e] at *
          exact ⟨by omega, e1, by omega⟩
        have skip : ¬ (c.T g = z ∧ c.K g hh' = f) → ∃ a' : Nat × AV, [v2, int ((j + 1 : Nat) : Int)] = [a'.2, int a'.1] ∧ (a'.1 ≤ ms.length ∧ IsC (rows (B ++ ((ms.take a'.1).filter fun h => c.T g == z && c.K g h == f).map fun h => [(z : Int), g, h])) (B ++ ((ms.take a'.1).filter fun h => c.T g == z && c.K g h == f).map fun h => [(z : Int), g, h]).length 1 H nx a'.2 H3 n3) ∧ ms.length - a'.1 < ms.length - j := fun hne => by
          refine ⟨(j + 1, v2), rfl, ⟨hlj, ?_⟩, by simp only; omega⟩
          simp only
          rw [tj, if_neg (by simpa using hne), List.append_nil, hD]
          exact hK
        try simp (disch := (first | rfl | with_reducible assumption | with_reducible solve_by_elim (maxDepth := 8) [Shape.inT, Shape.inI, Shape.inC, Shape.inK, Shape.obF, Shape.obT, Shape.arI, Arr.inF] | omega)) only [S2, Nat.reduceEqDiff, Nat.reduceAdd, iput, puts, hlj, hh, hg]
        refine ⟨fun e1 => ?_, fun e1 => ?_⟩
        · try simp (disch := (first | rfl | with_reducible assumption | with_reducible solve_by_elim (maxDepth := 8) [Shape.inT, Shape.inI, Shape.inC, Shape.inK, Shape.obF, Shape.obT, Shape.arI, Arr.inF] | omega)) only [S2, Nat.reduceEqDiff, Nat.reduceAdd, iput, puts, hh, hg]
          refine ⟨fun e2 => ?_, fun e2 => ?_⟩
          · try simp (disch := (first | rfl | with_reducible assumption | with_reducible solve_by_elim (maxDepth := 8) [Shape.inT, Shape.inI, Shape.inC, Shape.inK, Shape.obF, Shape.obT, Shape.arI, Arr.inF] | omega)) only [S2, Nat.reduceEqDiff, Nat.reduceAdd, iput, puts, hh, hg]
            refine ⟨fun e3 => ?_, fun e3 => ?_⟩
            · try simp (disch := (first | rfl | with_reducible assumption | with_reducible solve_by_elim (maxDepth := 8) [Shape.inT, Shape.inI, Shape.inC, Shape.inK, Shape.obF, Shape.obT, Shape.arI, Arr.inF] | omega)) only [S2, Nat.reduceEqDiff, Nat.reduceAdd, iput, puts, hh, hg]
              refine ⟨fun e4 => ?_, fun e4 => ?_⟩
              · repeat (first | simp (disch := (first | rfl | with_reducible assumption | with_reducible solve_by_elim (maxDepth := 8) [Shape.inT, Shape.inI, Shape.inC, Shape.inK, Shape.obF, Shape.obT, Shape.arI, Arr.inF] | omega)) only [S2, Nat.reduceEqDiff, Nat.reduceAdd, iput, puts, hh, hg] | (refine den_call rfl (by first | (simp only [SS, Nat.reduceEqDiff, Nat.reduceAdd, iput, puts, FF, frzL_cat]; done) | (simp only [SS, Nat.reduceEqDiff, Nat.reduceAdd, iput, puts, FF, frzL_cat]; rfl)) (by first | exact sh.l02Then_fz ht g hh' ag.1 ag.2 ah.1 ah.2) ?_) | (refine den_calli rfl (by first | (simp only [SS, Nat.reduceEqDiff, Nat.reduceAdd, iput, puts, FF, frzL_cat]; done) | (simp only [SS, Nat.reduceEqDiff, Nat.reduceAdd, iput, puts, FF, frzL_cat]; rfl)) (by first | exact sh.l02Then_fz ht g hh' ag.1 ag.2 ah.1 ah.2) ?_))
                refine ⟨fun e5 => ?_, fun e5 => ?_⟩
                · try simp (disch := (first | rfl | with_reducible assumption | with_reducible solve_by_elim (maxDepth := 8) [Shape.inT, Shape.inI, Shape.inC, Shape.inK, Shape.obF, Shape.obT, Shape.arI, Arr.inF] | omega)) only [S2, Nat.reduceEqDiff, Nat.reduceAdd, iput, puts, hh, hg, p_msl1R]
                  refine den_appC (m := 1) (ds := [islice [(z : Int), g, hh']]) hK rfl (by simp) rfl rfl (by omega) fun v3 H4 n4 hI2 => ?_
                  try simp (disch := (first | rfl | with_reducible assumption | with_reducible solve_by_elim (maxDepth := 8) [Shape.inT, Shape.inI, Shape.inC, Shape.inK, Shape.obF, Shape.obT, Shape.arI, Arr.inF] | omega)) only [S2, Nat.reduceEqDiff, Nat.reduceAdd, iput, puts]
                  refine ⟨(j + 1, v3), rfl, ⟨hlj, ?_⟩, by simp only; omega⟩
                  simp only
                  rw [tj, if_pos (by simp [e2, e5]), List.map_append, ← List.append_assoc, hD, rows_append, List.length_append]
                  exact hI2
                · try simp (disch := (first | rfl | with_reducible assumption | with_reducible solve_by_elim (maxDepth := 8) [Shape.inT, Shape.inI, Shape.inC, Shape.inK, Shape.obF, Shape.obT, Shape.arI, Arr.inF] | omega)) only [S2, Nat.reduceEqDiff, Nat.reduceAdd, iput, puts]
                  exact skip fun q => e5 q.2
              · try simp (disch := (first | rfl | with_reducible assumption | with_reducible solve_by_elim (maxDepth := 8) [Shape.inT, Shape.inI, Shape.inC, Shape.inK, Shape.obF, Shape.obT, Shape.arI, Arr.inF] | omega)) only [S2, Nat.reduceEqDiff, Nat.reduceAdd, iput, puts]
                exact skip fun q => e4 (iffK q.2).2.2
            · try simp (disch := (first | rfl | with_reducible assumption | with_reducible solve_by_elim (maxDepth := 8) [Shape.inT, Shape.inI, Shape.inC, Shape.inK, Shape.obF, Shape.obT, Shape.arI, Arr.inF] | omega)) only [S2, Nat.reduceEqDiff, Nat.reduceAdd, iput, puts]
              exact skip fun q => e3 (by have := (iffK q.2).2.1; omega)
          · try simp (disch := (first | rfl | with_reducible assumption | with_reducible solve_by_elim (maxDepth := 8) [Shape.inT, Shape.inI, Shape.inC, Shape.inK, Shape.obF, Shape.obT, Shape.arI, Arr.inF] | omega)) only [S2, Nat.reduceEqDiff, Nat.reduceAdd, iput, puts]
            exact skip fun q => e2 q.1
        · try simp (disch := (first | rfl | with_reducible assumption | with_reducible solve_by_elim (maxDepth := 8) [Shape.inT, Shape.inI, Shape.inC, Shape.inK, Shape.obF, Shape.obT, Shape.arI, Arr.inF] | omega)) only [S2, Nat.reduceEqDiff, Nat.reduceAdd, iput, puts]
          exact skip fun q => e1 (iffK q.2).1
      · try simp (disch := (first | rfl | with_reducible assumption | with_reducible solve_by_elim (maxDepth := 8) [Shape.inT, Shape.inI, Shape.inC, Shape.inK, Shape.obF, Shape.obT, Shape.arI, Arr.inF] | omega)) only [S2, Nat.reduceEqDiff, Nat.reduceAdd, iput, puts, hlj]
        refine ⟨(i + 1, v2), rfl, ⟨hli, ?_⟩, by simp only; omega⟩
        have hje : j = ms.length := by omega
        subst hje
        rw [List.take_length] at hK
        simp only
        rw [ti, ← List.append_assoc, hB]
        exact hK
    · try simp (disch := (first | rfl | with_reducible assumption | with_reducible solve_by_elim (maxDepth := 8) [Shape.inT, Shape.inI, Shape.inC, Shape.inK, Shape.obF, Shape.obT, Shape.arI, Arr.inF] | omega)) only [S2, Nat.reduceEqDiff, Nat.reduceAdd, iput, puts, hli]
      refine ⟨(z + 1, v1), rfl, ⟨by omega, ?_⟩, by simp only; omega⟩
      have hie : i = es.length := by omega
      subst hie
      rw [List.take_length] at hJ
      simp only
      rw [tz]
      exact hJ
  · try simp (disch := (first | rfl | with_reducible assumption | with_reducible solve_by_elim (maxDepth := 8) [Shape.inT, Shape.inI, Shape.inC, Shape.inK, Shape.obF, Shape.obT, Shape.arI, Arr.inF] | omega)) only [S2, Nat.reduceEqDiff, Nat.reduceAdd, iput, puts, hlt]
    have hze : z = c.o.toNat := by omega
    subst hze
    exact ⟨_, rfl, _, fun _ _ h => h, hI⟩
end Go.Av
