/-
  TwistedCategory: the reference's.
-/
import Derived.Test.YtbalggpkmaabmaaAvX5
namespace Go.Av
open Classical
set_option linter.unusedSimpArgs false
set_option linter.unusedVariables false
variable {P : Program} {ν : Nat → FuncId}

/-- A list of lists that is no longer written, in an object below b. -/
def GrL (v : AV) (M : List (List Int)) (H : Hp) (b : Nat) : Prop := (v = .nil ∧ M = []) ∨ ∃ o, (0 < o ∧ o < b) ∧ v = .ms o 0 M.length 1 ∧ H o = some (rows M)
section
variable {v : AV} {M : List (List Int)} {H H' : Hp} {b b' : Nat}
theorem GrL.kept (h : GrL v M H b) (hh : ∀ t, t < b → H' t = H t) : GrL v M H' b := by
  rcases h with h | ⟨o, h1, h2, h3⟩
  · exact .inl h
  · exact .inr ⟨o, h1, h2, (hh o h1.2).trans h3⟩
theorem GrL.kept0 (h : GrL v M H b) (hh : ∀ t, t ≠ 0 → H' t = H t) : GrL v M H' b := by
  rcases h with h | ⟨o, h1, h2, h3⟩
  · exact .inl h
  · exact .inr ⟨o, h1, h2, (hh o (by omega)).trans h3⟩
theorem rows_len' (M : List (List Int)) : (rows M).length = M.length := by simp [rows]
theorem GrL.len (h : GrL v M H b) : pvf H .len [v] = some (int M.length) := by
  rcases h with ⟨rfl, rfl⟩ | ⟨o, h1, rfl, h3⟩
  · rfl
  · exact p_lenm h3 (rows_len' M)
theorem GrL.rd (h : GrL v M H b) {i : Nat} (hi : i < M.length) : ∃ p, pvf H (.iad 1) [v, int (i : Int)] = some p ∧ pvf H (.ld none) [p] = some (islice (M.getD i [])) := by
  rcases h with ⟨rfl, rfl⟩ | ⟨o, h1, rfl, h3⟩
  · simp at hi
  · refine ⟨.mp o i M.length, ?_, ?_⟩
    · rw [p_iadm h3 (rows_len' M), if_pos ⟨by omega, by omega⟩]; simp
    · rw [p_ldm h3 (rows_len' M), rows_get, if_pos hi]
theorem GrL.frz (h : GrL v M H b) (k : Nat) : Av.frz H (k + 1) v = some (.sl (rows M) M.length) := by
  rcases h with ⟨rfl, rfl⟩ | ⟨o, h1, rfl, h3⟩
  · rfl
  · simp only [Av.frz, h3, rows_frz, rows_len', Nat.zero_add, Nat.mul_one, if_true, Option.map_some, List.drop_zero]
end
theorem lit4 {H : Hp} {a b d e : Int} : pvf H (.msl 4 [int 0, int 0, int 0, int 0] [(0, 1), (1, 1), (2, 1), (3, 1)]) [int a, int b, int d, int e] = some (islice (r4 (a, b, d, e))) := rfl
theorem twL_len {c : Cat} (n40 : c.f.length ≤ 40) : (twL c).length ≤ 2560000 := by have := t1_len n40 c.f.length; unfold twL; omega
theorem getD_r4 {L : List Tw} {i : Nat} (h : i < L.length) : (L.map r4).getD i [] = r4 (L.getD i tw0) := by simp [List.getD, h]
theorem r4_in (t : Tw) : In (r4 t) 0 ∧ In (r4 t) 1 ∧ In (r4 t) 2 ∧ In (r4 t) 3 := by
  refine ⟨⟨?_, ?_⟩, ⟨?_, ?_⟩, ⟨?_, ?_⟩, ⟨?_, ?_⟩⟩ <;> simp [r4]
def V_spec_l03Twisted : Vc :=
  .op true (.p .box [.t 0]) <|
  .op true (.new [int 0, .nil, .nil, .nil, .nil]) <|
  .op true (.p (.fad 1) [.t 1]) <|
  .op true (.p (.ld none) [.t 3]) <|
  .op true (.p .len [.t 4]) <|
  .op true (.p (.msl 0 [] []) []) <|
  .loop 0 [.t 6, .c (int 0)] <|
  .op true (.p (.bin .lss) [.t 8, .t 5]) <|
  .br 9
   (.loop 1 [.t 7, .c (int 0)] <|
   .op true (.p (.bin .lss) [.t 11, .t 5]) <|
   .br 12
    (.op true (.p (.ld (some 5)) [.t 1]) <|
    .op true (.p (.fad 1) [.t 1]) <|
    .op true (.p (.ld none) [.t 14]) <|
    .op true (.p (.iad 1) [.t 15, .t 11]) <|
    .op true (.p (.ld none) [.t 16]) <|
    .op true (.p (.fad 1) [.t 1]) <|
    .op true (.p (.ld none) [.t 18]) <|
    .op true (.p (.iad 1) [.t 19, .t 8]) <|
    .op true (.p (.ld none) [.t 20]) <|
    .op true (.call (.f 309) [.t 13, .t 17, .t 21]) <|
    .op true (.p (.ld (some 5)) [.t 1]) <|
    .op true (.p (.fad 2) [.t 1]) <|
    .op true (.p (.ld none) [.t 24]) <|
    .op true (.p (.iad 1) [.t 25, .t 8]) <|
    .op true (.p (.ld none) [.t 26]) <|
    .op true (.p (.fad 2) [.t 1]) <|
    .op true (.p (.ld none) [.t 28]) <|
    .op true (.p (.iad 1) [.t 29, .t 11]) <|
    .op true (.p (.ld none) [.t 30]) <|
    .op true (.call (.f 309) [.t 23, .t 27, .t 31]) <|
    .loop 2 [.t 10, .c (int 0)] <|
    .op true (.p .len [.t 22]) <|
    .op true (.p (.bin .lss) [.t 34, .t 35]) <|
    .br 36
     (.loop 3 [.t 33, .c (int 0)] <|
     .op true (.p .len [.t 32]) <|
     .op true (.p (.bin .lss) [.t 38, .t 39]) <|
     .br 40
      (.op true (.p (.ld (some 5)) [.t 1]) <|
      .op true (.p (.ld (some 5)) [.t 1]) <|
      .op true (.p (.iad 1) [.t 22, .t 34]) <|
      .op true (.p (.ld none) [.t 43]) <|
      .op true (.call (.f 253) [.t 42, .t 44, .t 8]) <|
      .op true (.p (.iad 1) [.t 32, .t 38]) <|
      .op true (.p (.ld none) [.t 46]) <|
      .op true (.call (.f 253) [.t 41, .t 45, .t 47]) <|
      .op true (.p (.bin .eql) [.t 48, .t 11]) <|
      .br 49
       (.op true (.p (.iad 1) [.t 22, .t 34]) <|
       .op true (.p (.ld none) [.t 50]) <|
       .op true (.p (.iad 1) [.t 32, .t 38]) <|
       .op true (.p (.ld none) [.t 52]) <|
       .op true (.p (.msl 4 [int 0, int 0, int 0, int 0] [(0, 1), (1, 1), (2, 1), (3, 1)]) [.t 8, .t 11, .t 51, .t 53]) <|
       .op true (.p (.msl 1 [.nil] [(0, 1)]) [.t 54]) <|
       .op true (.app 1 (.t 37) (.t 55)) <|
       .op true (.p (.bin .add) [.t 38, .c (int 1)]) <|
       .again 3 [.t 56, .t 57])
       (.op true (.p (.bin .add) [.t 38, .c (int 1)]) <|
       .again 3 [.t 37, .t 50]))
      (.op true (.p (.bin .add) [.t 34, .c (int 1)]) <|
      .again 2 [.t 37, .t 41]))
     (.op true (.p (.bin .add) [.t 11, .c (int 1)]) <|
     .again 1 [.t 33, .t 37]))
    (.op true (.p (.bin .add) [.t 8, .c (int 1)]) <|
    .again 0 [.t 10, .t 13]))
   (.op true (.p (.msl 0 [] []) []) <|
   .op true (.p (.msl 0 [] []) []) <|
   .op true (.mks [int 0] (.t 5) (.t 5)) <|
   .op true (.p (.msl 0 [] []) []) <|
   .op true (.p (.mka [int 0, .nil, .nil, .nil, .nil] [(0, 1), (1, 1), (2, 1), (3, 1), (4, 1)]) [.t 5, .t 10, .t 11, .t 12, .t 13]) <|
   .op true (.new [int 0, .nil, .nil, .nil, .nil]) <|
   .op true (.st 5 (.t 15) (.t 14)) <|
   .loop 0 [.c (int 0)] <|
   .op true (.p .len [.t 7]) <|
   .op true (.p (.bin .lss) [.t 17, .t 18]) <|
   .br 19
    (.op true (.p (.iad 1) [.t 7, .t 17]) <|
    .op true (.p (.ld none) [.t 20]) <|
    .op true (.p (.fad 1) [.t 15]) <|
    .op true (.p (.ld none) [.t 22]) <|
    .op true (.p (.iad 1) [.t 21, .c (int 0)]) <|
    .op true (.p (.ld none) [.t 24]) <|
    .op true (.p (.msl 1 [int 0] [(0, 1)]) [.t 25]) <|
    .op true (.app 1 (.t 23) (.t 26)) <|
    .op true (.p (.fad 1) [.t 15]) <|
    .op true (.st 1 (.t 28) (.t 27)) <|
    .op true (.p (.fad 2) [.t 15]) <|
    .op true (.p (.ld none) [.t 30]) <|
    .op true (.p (.iad 1) [.t 21, .c (int 1)]) <|
    .op true (.p (.ld none) [.t 32]) <|
    .op true (.p (.msl 1 [int 0] [(0, 1)]) [.t 33]) <|
    .op true (.app 1 (.t 31) (.t 34)) <|
    .op true (.p (.fad 2) [.t 15]) <|
    .op true (.st 1 (.t 36) (.t 35)) <|
    .op true (.p (.iad 1) [.t 21, .c (int 0)]) <|
    .op true (.p (.ld none) [.t 38]) <|
    .op true (.p (.iad 1) [.t 21, .c (int 1)]) <|
    .op true (.p (.ld none) [.t 40]) <|
    .op true (.p (.bin .eql) [.t 39, .t 41]) <|
    .br 42
     (.op true (.p (.ld (some 5)) [.t 1]) <|
     .op true (.p (.iad 1) [.t 21, .c (int 2)]) <|
     .op true (.p (.ld none) [.t 44]) <|
     .op true (.call (.f 380) [.t 43, .t 45]) <|
     .br 46
      (.op true (.p (.ld (some 5)) [.t 1]) <|
      .op true (.p (.iad 1) [.t 21, .c (int 3)]) <|
      .op true (.p (.ld none) [.t 48]) <|
      .op true (.call (.f 380) [.t 47, .t 49]) <|
      .br 50
       (.op true (.p (.fad 3) [.t 15]) <|
       .op true (.p (.ld none) [.t 51]) <|
       .op true (.p (.iad 1) [.t 21, .c (int 0)]) <|
       .op true (.p (.ld none) [.t 53]) <|
       .op true (.p (.iad 1) [.t 52, .t 54]) <|
       .op true (.st 1 (.t 55) (.t 17)) <|
       .op true (.p (.bin .add) [.t 17, .c (int 1)]) <|
       .again 0 [.t 57])
       (.op true (.p (.bin .add) [.t 17, .c (int 1)]) <|
       .again 0 [.t 51]))
      (.op true (.p (.bin .add) [.t 17, .c (int 1)]) <|
      .again 0 [.t 47]))
     (.op true (.p (.bin .add) [.t 17, .c (int 1)]) <|
     .again 0 [.t 43]))
    (.loop 0 [.c (int 0)] <|
    .op true (.p .len [.t 7]) <|
    .op true (.p (.bin .lss) [.t 20, .t 21]) <|
    .br 22
     (.op true (.p .len [.t 7]) <|
     .op true (.p (.bin .leq) [.t 23, .c (int 40)]) <|
     .br 24
      (.op true (.p (.msl 0 [] []) []) <|
      .loop 1 [.t 25, .c (int 0)] <|
      .op true (.p .len [.t 7]) <|
      .op true (.p (.bin .lss) [.t 27, .t 28]) <|
      .br 29
       (.op true (.p (.iad 1) [.t 7, .t 20]) <|
       .op true (.p (.ld none) [.t 30]) <|
       .op true (.p (.iad 1) [.t 7, .t 27]) <|
       .op true (.p (.ld none) [.t 32]) <|
       .op true (.p (.iad 1) [.t 31, .c (int 1)]) <|
       .op true (.p (.ld none) [.t 34]) <|
       .op true (.p (.iad 1) [.t 33, .c (int 0)]) <|
       .op true (.p (.ld none) [.t 36]) <|
       .op true (.p (.bin .eql) [.t 35, .t 37]) <|
       .br 38
        (.op true (.p (.iad 1) [.t 31, .c (int 0)]) <|
        .op true (.p (.ld none) [.t 39]) <|
        .op true (.p (.iad 1) [.t 33, .c (int 1)]) <|
        .op true (.p (.ld none) [.t 41]) <|
        .op true (.p (.ld (some 5)) [.t 1]) <|
        .op true (.p (.iad 1) [.t 33, .c (int 2)]) <|
        .op true (.p (.ld none) [.t 44]) <|
        .op true (.p (.iad 1) [.t 31, .c (int 2)]) <|
        .op true (.p (.ld none) [.t 46]) <|
        .op true (.call (.f 253) [.t 43, .t 45, .t 47]) <|
        .op true (.p (.ld (some 5)) [.t 1]) <|
        .op true (.p (.iad 1) [.t 31, .c (int 3)]) <|
        .op true (.p (.ld none) [.t 50]) <|
        .op true (.p (.iad 1) [.t 33, .c (int 3)]) <|
        .op true (.p (.ld none) [.t 52]) <|
        .op true (.call (.f 253) [.t 49, .t 51, .t 53]) <|
        .op true (.p (.msl 4 [int 0, int 0, int 0, int 0] [(0, 1), (1, 1), (2, 1), (3, 1)]) [.t 40, .t 42, .t 48, .t 54]) <|
        .loop 2 [.c (int (-1)), .c (int 0)] <|
        .op true (.p .len [.t 7]) <|
        .op true (.p (.bin .lss) [.t 57, .t 58]) <|
        .br 59
         (.op true (.p (.iad 1) [.t 7, .t 57]) <|
         .op true (.p (.ld none) [.t 60]) <|
         .op true (.call (.f 246) [.t 61, .t 55]) <|
         .br 62
          (.op true (.p (.bin .add) [.t 57, .c (int 1)]) <|
          .again 2 [.t 57, .t 63])
          (.op true (.p (.bin .add) [.t 57, .c (int 1)]) <|
          .again 2 [.t 56, .t 63]))
         (.op true (.p (.msl 1 [int 0] [(0, 1)]) [.t 56]) <|
         .op true (.app 1 (.t 26) (.t 60)) <|
         .op true (.p (.bin .add) [.t 27, .c (int 1)]) <|
         .again 1 [.t 61, .t 62]))
        (.op true (.p (.msl 1 [int 0] [(0, 1)]) [.c (int (-1))]) <|
        .op true (.app 1 (.t 26) (.t 39)) <|
        .op true (.p (.bin .add) [.t 27, .c (int 1)]) <|
        .again 1 [.t 40, .t 41]))
       (.op true (.p (.fad 4) [.t 15]) <|
       .op true (.p (.ld none) [.t 30]) <|
       .op true (.mslm 1 1 [.nil] [(0, 1)] [.t 26]) <|
       .op true (.app 1 (.t 31) (.t 32)) <|
       .op true (.p (.fad 4) [.t 15]) <|
       .op true (.st 1 (.t 34) (.t 33)) <|
       .op true (.p (.bin .add) [.t 20, .c (int 1)]) <|
       .again 0 [.t 36]))
      (.op true (.p (.ld (some 5)) [.t 15]) <|
      .op true (.st 5 (.t 2) (.t 25)) <|
      .ret [(.t 2, some (some 5)), (.t 7, none)]))
     (.op true (.p (.ld (some 5)) [.t 15]) <|
     .op true (.st 5 (.t 2) (.t 23)) <|
     .ret [(.t 2, some (some 5)), (.t 7, none)])))
set_option maxHeartbeats 16000000 in
theorem l03Twisted_fi (hho : Has P ν 309 3 V_spec_l02Hom) (hth : Has P ν 253 3 V_spec_l02Then) (hun : Has P ν 380 2 V_spec_l02Unit) (hsa : Has P ν 246 2 V_spec_l01Same) (h : Has P ν 351 1 V_spec_l03Twisted) (c : Cat) (s : Shape c) :
    Fi (OkM P ν) 351 [.agg c.cells] (.tup [.agg (twX c).cells, .sl (rows ((twL c).map r4)) ((twL c).map r4).length]) := by
  refine OkM.mono (Φ := fun r H' nx' => ∃ r0 v lo hi b, r = .tup [r0, v] ∧ OwnK (twX c) r0 H' lo hi ∧ GrL v ((twL c).map r4) H' b) (h [.agg c.cells] hempty 0 _ rfl fun hwf => ?_) (by
    rintro r H' nx' ⟨r0, v, lo, hi, b, rfl, hO, hG⟩
    have a1 := hO.frz 2
    have a2 := hG.frz 4
    show ([r0, v].mapM (Av.frz H' 5)).map AV.tup = _
    simp only [List.mapM_cons, List.mapM_nil, a1, a2]
    rfl)
  unfold V_spec_l03Twisted
  have n40 := s.n40
  have tl := s.tl
  have il := s.il
  try simp (disch := (first | rfl | with_reducible assumption | with_reducible solve_by_elim (maxDepth := 8) [Shape.inT, Shape.inI, Shape.inC, Shape.inK, Shape.obF, Shape.obT, Shape.arI, Arr.inF] | omega)) only [S2, Nat.reduceEqDiff, Nat.reduceAdd, iput, puts]
  refine den_newG fun H0 y0 e0 => ?_
  try simp (disch := (first | rfl | with_reducible assumption | with_reducible solve_by_elim (maxDepth := 8) [Shape.inT, Shape.inI, Shape.inC, Shape.inK, Shape.obF, Shape.obT, Shape.arI, Arr.inF] | omega)) only [S2, Nat.reduceEqDiff, Nat.reduceAdd, iput, puts]
  -- the list
  refine den_loop (α := Nat × AV) (fun a => [a.2, int a.1]) (fun a H' nx' => a.1 ≤ c.f.length ∧ IsC (rows ((t1 c a.1).map r4)) ((t1 c a.1).map r4).length 1 H0 1 a.2 H' nx') (fun a => c.f.length - a.1) (0, .nil) rfl ⟨Nat.zero_le _, IsC.nil⟩ ?_
  rintro ⟨a, v⟩ H1 n1 ⟨ha, hC⟩
  simp only at ha hC
  have la := t1_len n40 a
  by_cases hla : a < c.f.length
  · have aa : Arr c (a : Int) := ⟨by omega, by omega⟩
    try simp (disch := (first | rfl | with_reducible assumption | with_reducible solve_by_elim (maxDepth := 8) [Shape.inT, Shape.inI, Shape.inC, Shape.inK, Shape.obF, Shape.obT, Shape.arI, Arr.inF] | omega)) only [S2, Nat.reduceEqDiff, Nat.reduceAdd, iput, puts, hla]
    refine den_loop (α := Nat × AV) (fun b => [b.2, int b.1]) (fun b H' nx' => b.1 ≤ c.f.length ∧ IsC (rows ((t1 c a ++ t2 c a b.1).map r4)) ((t1 c a ++ t2 c a b.1).map r4).length 1 H0 1 b.2 H' nx') (fun b => c.f.length - b.1) (0, v) rfl ⟨Nat.zero_le _, by simpa [t2] using hC⟩ ?_
    clear hC H1
    rintro ⟨b, v⟩ H1 n1 ⟨hb, hC⟩
    simp only at hb hC
    have lb := t2_len (f := (a : Int)) n40 b
    by_cases hlb : b < c.f.length
    · have ab : Arr c (b : Int) := ⟨by omega, by omega⟩
      have i1 : In c.f (a : Int) := In.nat hla
      have i2 : In c.f (b : Int) := In.nat hlb
      have i3 : In c.t (a : Int) := In.nat (by omega)
      have i4 : In c.t (b : Int) := In.nat (by omega)
      have g1 : gI c.f (a : Int) = c.F a := rfl
      have g2 : gI c.f (b : Int) = c.F b := rfl
      have g3 : gI c.t (a : Int) = c.T a := rfl
      have g4 : gI c.t (b : Int) = c.T b := rfl
      have ul : (homL c (c.F b) (c.F a)).length ≤ c.f.length := selL_len _ _
      have vl : (homL c (c.T a) (c.T b)).length ≤ c.f.length := selL_len _ _
      repeat (first | simp (disch := (first | rfl | with_reducible assumption | with_reducible solve_by_elim (maxDepth := 8) [Shape.inT, Shape.inI, Shape.inC, Shape.inK, Shape.obF, Shape.obT, Shape.arI, Arr.inF] | omega)) only [S2, Nat.reduceEqDiff, Nat.reduceAdd, iput, puts, hlb, g1, g2, g3, g4] | (refine den_call rfl (by first | (simp only [SS, Nat.reduceEqDiff, Nat.reduceAdd, iput, puts, FF, frzL_cat]; done) | (simp only [SS, Nat.reduceEqDiff, Nat.reduceAdd, iput, puts, FF, frzL_cat]; rfl)) (by first | exact l02Hom_fz hho c (c.F b) (c.F a) (by omega) (by omega) | exact l02Hom_fz hho c (c.T a) (c.T b) (by omega) (by omega)) ?_) | (refine den_calli rfl (by first | (simp only [SS, Nat.reduceEqDiff, Nat.reduceAdd, iput, puts, FF, frzL_cat]; done) | (simp only [SS, Nat.reduceEqDiff, Nat.reduceAdd, iput, puts, FF, frzL_cat]; rfl)) (by first | exact l02Hom_fz hho c (c.F b) (c.F a) (by omega) (by omega) | exact l02Hom_fz hho c (c.T a) (c.T b) (by omega) (by omega)) ?_))
      refine den_loop (α := Nat × AV) (fun i => [i.2, int i.1]) (fun i H' nx' => i.1 ≤ (homL c (c.F b) (c.F a)).length ∧ IsC (rows ((t1 c a ++ t2 c a b ++ t3 c a b ((homL c (c.F b) (c.F a)).take i.1)).map r4)) ((t1 c a ++ t2 c a b ++ t3 c a b ((homL c (c.F b) (c.F a)).take i.1)).map r4).length 1 H0 1 i.2 H' nx') (fun i => (homL c (c.F b) (c.F a)).length - i.1) (0, v) rfl ⟨Nat.zero_le _, by simpa [t3] using hC⟩ ?_
      clear hC H1
      rintro ⟨i, v⟩ H1 n1 ⟨hi, hC⟩
      simp only at hi hC
      have li := t3_len (f := (a : Int)) (g := (b : Int)) n40 ((homL c (c.F b) (c.F a)).take i)
      have lt := List.length_take (i := i) (l := homL c (c.F b) (c.F a))
      by_cases hli : i < (homL c (c.F b) (c.F a)).length
      · have j1 : In (homL c (c.F b) (c.F a)) (i : Int) := In.nat hli
        obtain ⟨au, fu, tu⟩ := hom_arrI hli
        have tk := take_succ_at hli
        rw [show (homL c (c.F b) (c.F a)).getD i 0 = gI (homL c (c.F b) (c.F a)) i from rfl] at tk
        generalize hu : gI (homL c (c.F b) (c.F a)) (i : Int) = u at au fu tu tk
        have auf : Arr c (c.K u a) := s.arK au aa tu
        try simp (disch := (first | rfl | with_reducible assumption | with_reducible solve_by_elim (maxDepth := 8) [Shape.inT, Shape.inI, Shape.inC, Shape.inK, Shape.obF, Shape.obT, Shape.arI, Arr.inF] | omega)) only [S2, Nat.reduceEqDiff, Nat.reduceAdd, iput, puts, hli]
        refine den_loop (α := Nat × AV) (fun j => [j.2, int j.1]) (fun j H' nx' => j.1 ≤ (homL c (c.T a) (c.T b)).length ∧ IsC (rows ((t1 c a ++ t2 c a b ++ t3 c a b ((homL c (c.F b) (c.F a)).take i) ++ t4 c a b u ((homL c (c.T a) (c.T b)).take j.1)).map r4)) ((t1 c a ++ t2 c a b ++ t3 c a b ((homL c (c.F b) (c.F a)).take i) ++ t4 c a b u ((homL c (c.T a) (c.T b)).take j.1)).map r4).length 1 H0 1 j.2 H' nx') (fun j => (homL c (c.T a) (c.T b)).length - j.1) (0, v) rfl ⟨Nat.zero_le _, by simpa [t4] using hC⟩ ?_
        clear hC H1
        rintro ⟨j, v⟩ H1 n1 ⟨hj, hC⟩
        simp only at hj hC
        by_cases hlj : j < (homL c (c.T a) (c.T b)).length
        · have j2 : In (homL c (c.T a) (c.T b)) (j : Int) := In.nat hlj
          obtain ⟨av, fv, tv⟩ := hom_arrI hlj
          have tkj := take_succ_at hlj
          rw [show (homL c (c.T a) (c.T b)).getD j 0 = gI (homL c (c.T a) (c.T b)) j from rfl] at tkj
          generalize hw : gI (homL c (c.T a) (c.T b)) (j : Int) = w at av fv tv tkj
          have lj := t4_len (c := c) (f := (a : Int)) (g := (b : Int)) (u := u) ((homL c (c.T a) (c.T b)).take j)
          have ltj := List.length_take (i := j) (l := homL c (c.T a) (c.T b))
          have sn := t4_snoc (c := c) (f := (a : Int)) (g := (b : Int)) (u := u) (vs := (homL c (c.T a) (c.T b)).take j) (v := w)
          rw [← tkj] at sn
          have ll : (t1 c a ++ t2 c a b ++ t3 c a b ((homL c (c.F b) (c.F a)).take i) ++ t4 c a b u ((homL c (c.T a) (c.T b)).take j)).length ≤ 40 * 64000 + 40 * 1600 + 40 * 40 + 40 := by
            simp only [List.length_append]
            omega
          have cut : ∀ x : List Tw, t1 c a ++ t2 c a b ++ t3 c a b ((homL c (c.F b) (c.F a)).take i) ++ (t4 c a b u ((homL c (c.T a) (c.T b)).take j) ++ x) = (t1 c a ++ t2 c a b ++ t3 c a b ((homL c (c.F b) (c.F a)).take i) ++ t4 c a b u ((homL c (c.T a) (c.T b)).take j)) ++ x := fun x => (List.append_assoc _ _ _).symm
          have goal : ∀ v H hi, IsC (rows (((t1 c a ++ t2 c a b ++ t3 c a b ((homL c (c.F b) (c.F a)).take i) ++ t4 c a b u ((homL c (c.T a) (c.T b)).take j)) ++ (if c.K (c.K u a) w = b then [((a : Int), (b : Int), u, w)] else [])).map r4)) (((t1 c a ++ t2 c a b ++ t3 c a b ((homL c (c.F b) (c.F a)).take i) ++ t4 c a b u ((homL c (c.T a) (c.T b)).take j)) ++ (if c.K (c.K u a) w = b then [((a : Int), (b : Int), u, w)] else [])).map r4).length 1 H0 1 v H hi → IsC (rows ((t1 c a ++ t2 c a b ++ t3 c a b ((homL c (c.F b) (c.F a)).take i) ++ t4 c a b u ((homL c (c.T a) (c.T b)).take (j + 1))).map r4)) ((t1 c a ++ t2 c a b ++ t3 c a b ((homL c (c.F b) (c.F a)).take i) ++ t4 c a b u ((homL c (c.T a) (c.T b)).take (j + 1))).map r4).length 1 H0 1 v H hi := fun v H hi q => by rw [sn, cut]; exact q
          clear sn cut tkj lj ltj
          generalize t1 c a ++ t2 c a b ++ t3 c a b ((homL c (c.F b) (c.F a)).take i) ++ t4 c a b u ((homL c (c.T a) (c.T b)).take j) = L at hC ll goal
          have lm : (L.map r4).length = L.length := by simp
          repeat (first | simp (disch := (first | rfl | with_reducible assumption | with_reducible solve_by_elim (maxDepth := 8) [Shape.inT, Shape.inI, Shape.inC, Shape.inK, Shape.obF, Shape.obT, Shape.arI, Arr.inF] | omega)) only [S2, Nat.reduceEqDiff, Nat.reduceAdd, iput, puts, hlj, hu, hw] | (refine den_call rfl (by first | (simp only [SS, Nat.reduceEqDiff, Nat.reduceAdd, iput, puts, FF, frzL_cat]; done) | (simp only [SS, Nat.reduceEqDiff, Nat.reduceAdd, iput, puts, FF, frzL_cat]; rfl)) (by first | exact s.sThenFz hth au aa | exact s.sThenFz hth auf av) ?_) | (refine den_calli rfl (by first | (simp only [SS, Nat.reduceEqDiff, Nat.reduceAdd, iput, puts, FF, frzL_cat]; done) | (simp only [SS, Nat.reduceEqDiff, Nat.reduceAdd, iput, puts, FF, frzL_cat]; rfl)) (by first | exact s.sThenFz hth au aa | exact s.sThenFz hth auf av) ?_))
          refine ⟨fun k1 => ?_, fun k1 => ?_⟩
          · rw [if_pos (by first | exact k1 | simpa using k1)] at goal
            try simp (disch := (first | rfl | with_reducible assumption | with_reducible solve_by_elim (maxDepth := 8) [Shape.inT, Shape.inI, Shape.inC, Shape.inK, Shape.obF, Shape.obT, Shape.arI, Arr.inF] | omega)) only [S2, Nat.reduceEqDiff, Nat.reduceAdd, iput, puts, hu, hw, lit4, p_msl1R]
            refine den_appC (ds := [islice (r4 ((a : Int), (b : Int), u, w))]) (m := 1) hC rfl (by decide) rfl rfl (by omega) fun v9 H9 n9 hC9 => ?_
            try simp (disch := (first | rfl | with_reducible assumption | with_reducible solve_by_elim (maxDepth := 8) [Shape.inT, Shape.inI, Shape.inC, Shape.inK, Shape.obF, Shape.obT, Shape.arI, Arr.inF] | omega)) only [S2, Nat.reduceEqDiff, Nat.reduceAdd, iput, puts]
            refine ⟨(j + 1, v9), rfl, ⟨hlj, goal _ _ _ ?_⟩, by simp only; omega⟩
            rw [List.map_append, rows_append, List.length_append]
            exact hC9
          · rw [if_neg (by first | exact k1 | simpa using k1), List.append_nil] at goal
            try simp (disch := (first | rfl | with_reducible assumption | with_reducible solve_by_elim (maxDepth := 8) [Shape.inT, Shape.inI, Shape.inC, Shape.inK, Shape.obF, Shape.obT, Shape.arI, Arr.inF] | omega)) only [S2, Nat.reduceEqDiff, Nat.reduceAdd, iput, puts]
            exact ⟨(j + 1, v), rfl, ⟨hlj, goal _ _ _ hC⟩, by simp only; omega⟩
        · have hje : j = (homL c (c.T a) (c.T b)).length := by omega
          subst hje
          rw [List.take_length] at hC
          try simp (disch := (first | rfl | with_reducible assumption | with_reducible solve_by_elim (maxDepth := 8) [Shape.inT, Shape.inI, Shape.inC, Shape.inK, Shape.obF, Shape.obT, Shape.arI, Arr.inF] | omega)) only [S2, Nat.reduceEqDiff, Nat.reduceAdd, iput, puts, hlj]
          refine ⟨(i + 1, v), rfl, ⟨hli, ?_⟩, by simp only; omega⟩
          simp only
          rw [tk, t3_snoc, ← List.append_assoc]
          exact hC
      · have hie : i = (homL c (c.F b) (c.F a)).length := by omega
        subst hie
        rw [List.take_length] at hC
        try simp (disch := (first | rfl | with_reducible assumption | with_reducible solve_by_elim (maxDepth := 8) [Shape.inT, Shape.inI, Shape.inC, Shape.inK, Shape.obF, Shape.obT, Shape.arI, Arr.inF] | omega)) only [S2, Nat.reduceEqDiff, Nat.reduceAdd, iput, puts, hli]
        refine ⟨(b + 1, v), rfl, ⟨hlb, ?_⟩, by simp only; omega⟩
        simp only
        rw [t2_succ, ← List.append_assoc]
        exact hC
    · have hbe : b = c.f.length := by omega
      subst hbe
      try simp (disch := (first | rfl | with_reducible assumption | with_reducible solve_by_elim (maxDepth := 8) [Shape.inT, Shape.inI, Shape.inC, Shape.inK, Shape.obF, Shape.obT, Shape.arI, Arr.inF] | omega)) only [S2, Nat.reduceEqDiff, Nat.reduceAdd, iput, puts, hlb]
      refine ⟨(a + 1, v), rfl, ⟨hla, ?_⟩, by simp only; omega⟩
      simp only
      rw [t1_succ]
      exact hC
  · have hae : a = c.f.length := by omega
    subst hae
    have hC : IsC (rows ((twL c).map r4)) ((twL c).map r4).length 1 H0 1 v H1 n1 := hC
    have y1 := (hC.old (show 0 < 1 by omega)).trans y0
    have hn1 := hC.1
    have hG : GrL v ((twL c).map r4) H1 n1 := by
      obtain ⟨_, _, ⟨q1, q2, _⟩ | ⟨o, q1, q2, q3, q4⟩⟩ := hC
      · exact .inl ⟨q2, List.eq_nil_of_length_eq_zero q1⟩
      · exact .inr ⟨o, ⟨q1, q2⟩, q3, by rw [q4]; exact hput_eq _ _ _⟩
    have lL := twL_len n40
    have mem : ∀ t ∈ twL c, TwIn c t := fun t ht => t1_mem (Nat.le_refl _) ht
    have nd : (twL c).Nodup := t1_nd
    clear hC
    unfold twX
    generalize twL c = L at hG lL mem nd la
    have lm : (L.map r4).length = L.length := by simp
    have atL : ∀ i, i < L.length → TwIn c (L.getD i tw0) := fun i hi => mem _ (by rw [show L.getD i tw0 = L[i] by simp [List.getD, hi]]; exact List.getElem_mem hi)
    try simp (disch := (first | rfl | with_reducible assumption | with_reducible solve_by_elim (maxDepth := 8) [Shape.inT, Shape.inI, Shape.inC, Shape.inK, Shape.obF, Shape.obT, Shape.arI, Arr.inF] | omega)) only [S2, Nat.reduceEqDiff, Nat.reduceAdd, iput, puts, hla]
    refine den_mksG (m := c.f.length) (z := int 0) rfl rfl (by omega) fun H2 z2 e2 => ?_
    rw [rep_int] at z2
    have mk : ∀ (H : Hp), pvf H (.mka [int 0, .nil, .nil, .nil, .nil] [(0, 1), (1, 1), (2, 1), (3, 1), (4, 1)]) [int (c.f.length : Int), .nil, .nil, .ms n1 0 c.f.length 1, .nil] = some (.agg [int (c.f.length : Int), .nil, .nil, .ms n1 0 c.f.length 1, .nil]) := fun _ => rfl
    try simp (disch := (first | rfl | with_reducible assumption | with_reducible solve_by_elim (maxDepth := 8) [Shape.inT, Shape.inI, Shape.inC, Shape.inK, Shape.obF, Shape.obT, Shape.arI, Arr.inF] | omega)) only [S2, Nat.reduceEqDiff, Nat.reduceAdd, iput, puts, mk]
    refine den_newG fun H3 x3 e3 => ?_
    refine den_stR (o := n1 + 1) (m := 5) (d := [int (c.f.length : Int), .nil, .nil, .ms n1 0 c.f.length 1, .nil]) rfl rfl x3 rfl rfl rfl fun H4 x4 e4 => ?_
    have kp : ∀ t, t < n1 + 1 → H4 t = H2 t := fun t ht => (e4 t (by omega)).trans (e3 t (by omega))
    have kp' : ∀ t, t < n1 → H4 t = H1 t := fun t ht => (kp t (by omega)).trans (e2 t (by omega))
    have hG := hG.kept kp'
    have y1 := (kp' 0 (by omega)).trans y1
    have out : Out3 (n1 + 1) c.f.length (twF []) (twT []) (idAll c c.f.length []) [] .nil .nil (.ms n1 0 c.f.length 1) .nil none none (some n1) H4 n1 (n1 + 1 + 1) := by
      have o1 : H4 (n1 + 1) = some [int (c.f.length : Int), .nil, .nil, .ms n1 0 (idAll c c.f.length []).length 1, .nil] := by rw [idAll_len]; exact x4
      have o2 : H4 n1 = some (ints (idAll c c.f.length [])) := (kp _ (by omega)).trans z2
      have o := Out3.start3 (lo := n1) o1 o2 (Nat.le_refl _) (by omega)
      rw [idAll_len] at o
      exact o
    try simp (disch := (first | rfl | with_reducible assumption | with_reducible solve_by_elim (maxDepth := 8) [Shape.inT, Shape.inI, Shape.inC, Shape.inK, Shape.obF, Shape.obT, Shape.arI, Arr.inF] | omega)) only [S2, Nat.reduceEqDiff, Nat.reduceAdd, iput, puts]
    -- arrows
    refine den_loop (α := Nat × (AV × AV) × (Option Nat × Option Nat)) (fun a => [int a.1]) (fun a H' nx' => a.1 ≤ L.length ∧ Out3 (n1 + 1) c.f.length (twF (L.take a.1)) (twT (L.take a.1)) (idAll c c.f.length (L.take a.1)) [] a.2.1.1 a.2.1.2 (.ms n1 0 c.f.length 1) .nil a.2.2.1 a.2.2.2 (some n1) H' n1 nx' ∧ GrL v (L.map r4) H' n1 ∧ H' 0 = some [int 0, .nil, .nil, .nil, .nil]) (fun a => L.length - a.1) (0, (.nil, .nil), none, none) rfl ⟨Nat.zero_le _, by simpa using out, hG, y1⟩ ?_
    clear out hG y1 kp kp' e4 x4 e3 x3 H4 H3
    rintro ⟨i, ⟨va, vb⟩, s1, s2⟩ H3 n3 ⟨hi, out, hG, y1⟩
    simp only at hi out
    by_cases hli : i < L.length
    · obtain ⟨p, p1, p2⟩ := hG.rd (show i < (L.map r4).length by omega)
      have tk : L.take (i + 1) = L.take i ++ [L.getD i tw0] := by rw [List.take_add_one]; simp [List.getD, hli]
      have ti := atL i hli
      rw [getD_r4 hli] at p2
      generalize L.getD i tw0 = t at p2 tk ti
      obtain ⟨q0, q1, q2, q3⟩ := r4_in t
      have h0 : gI (r4 t) 0 = t.1 := rfl
      have h1 : gI (r4 t) 1 = t.2.1 := rfl
      have h2 : gI (r4 t) 2 = t.2.2.1 := rfl
      have h3 : gI (r4 t) 3 = t.2.2.2 := rfl
      have lt : (L.take i).length = i := by rw [List.length_take]; omega
      have qh := out.qh
      have ids := idAll_snoc c c.f.length (L.take i) t
      rw [← tk, lt] at ids
      have eF : twF (L.take (i + 1)) = twF (L.take i) ++ [t.1] := by rw [tk]; simp [twF]
      have eT : twT (L.take (i + 1)) = twT (L.take i) ++ [t.2.1] := by rw [tk]; simp [twT]
      try simp (disch := (first | rfl | with_reducible assumption | with_reducible solve_by_elim (maxDepth := 8) [Shape.inT, Shape.inI, Shape.inC, Shape.inK, Shape.obF, Shape.obT, Shape.arI, Arr.inF] | omega)) only [S2, Nat.reduceEqDiff, Nat.reduceAdd, iput, puts, hG.len, lm, hli, p1, p2, h0, p_fadm (l := 5) out.obj rfl, p_ldm (n := 5) out.obj rfl]
      refine den_out1 (m := [t.1]) out (Nat.le_refl _) rfl rfl rfl (by omega) rfl rfl (by simp) (by simp only [twF, List.length_cons, List.length_nil, List.length_map]; omega) fun a6 H6 n6 out6 hn6 keep6 => ?_
      have low6 : ∀ t, t < n1 → H6 t = H3 t := fun t ht => keep6 t (by omega) (by omega) fun ee => by have := out.r1 t ee; omega
      have qh6 := out6.qh
      try simp (disch := (first | rfl | with_reducible assumption | with_reducible solve_by_elim (maxDepth := 8) [Shape.inT, Shape.inI, Shape.inC, Shape.inK, Shape.obF, Shape.obT, Shape.arI, Arr.inF] | omega)) only [S2, Nat.reduceEqDiff, Nat.reduceAdd, iput, puts, h0, h1, p_fadm (l := 5) out6.obj rfl, p_ldm (n := 5) out6.obj rfl]
      refine den_out2 (m := [t.2.1]) out6 (Nat.le_refl _) rfl rfl rfl (by omega) rfl rfl (by simp) (by simp only [twT, List.length_cons, List.length_nil, List.length_map]; omega) fun b7 H7 n7 out7 hn7 keep7 => ?_
      have low7 : ∀ t, t < n1 → H7 t = H3 t := fun t ht => (keep7 t (by omega) (by omega) fun ee => by have := out6.r2 t ee; omega).trans (low6 t ht)
      rw [← eF, ← eT] at out7
      have hG7 := hG.kept low7
      have y7 := (low7 0 (by omega)).trans y1
      have fin : idAll c c.f.length (L.take (i + 1)) = idAll c c.f.length (L.take i) → Out3 (n1 + 1) c.f.length (twF (L.take (i + 1))) (twT (L.take (i + 1))) (idAll c c.f.length (L.take (i + 1))) [] a6 b7 (.ms n1 0 c.f.length 1) .nil (some (s1.getD n3)) (some (s2.getD n6)) (some n1) H7 n1 n7 := fun e => by rw [e]; exact out7
      try simp (disch := (first | rfl | with_reducible assumption | with_reducible solve_by_elim (maxDepth := 8) [Shape.inT, Shape.inI, Shape.inC, Shape.inK, Shape.obF, Shape.obT, Shape.arI, Arr.inF] | omega)) only [S2, Nat.reduceEqDiff, Nat.reduceAdd, iput, puts, h0, h1]
      refine ⟨fun k2 => ?_, fun k2 => ?_⟩
      · have k2 : t.1 = t.2.1 := by first | exact k2 | simpa using k2
        repeat (first | simp (disch := (first | rfl | with_reducible assumption | with_reducible solve_by_elim (maxDepth := 8) [Shape.inT, Shape.inI, Shape.inC, Shape.inK, Shape.obF, Shape.obT, Shape.arI, Arr.inF] | omega)) only [S2, Nat.reduceEqDiff, Nat.reduceAdd, iput, puts, h2] | (refine den_call rfl (by first | (simp only [SS, Nat.reduceEqDiff, Nat.reduceAdd, iput, puts, FF, frzL_cat]; done) | (simp only [SS, Nat.reduceEqDiff, Nat.reduceAdd, iput, puts, FF, frzL_cat]; rfl)) (by first | exact s.unit_fz hun t.2.2.1 ti.2.2.1.1 ti.2.2.1.2) ?_) | (refine den_calli rfl (by first | (simp only [SS, Nat.reduceEqDiff, Nat.reduceAdd, iput, puts, FF, frzL_cat]; done) | (simp only [SS, Nat.reduceEqDiff, Nat.reduceAdd, iput, puts, FF, frzL_cat]; rfl)) (by first | exact s.unit_fz hun t.2.2.1 ti.2.2.1.1 ti.2.2.1.2) ?_))
        refine ⟨fun k3 => ?_, fun k3 => ?_⟩
        · have k3 : isU c t.2.2.1 := by first | exact k3 | simpa [isU] using k3
          repeat (first | simp (disch := (first | rfl | with_reducible assumption | with_reducible solve_by_elim (maxDepth := 8) [Shape.inT, Shape.inI, Shape.inC, Shape.inK, Shape.obF, Shape.obT, Shape.arI, Arr.inF] | omega)) only [S2, Nat.reduceEqDiff, Nat.reduceAdd, iput, puts, h3] | (refine den_call rfl (by first | (simp only [SS, Nat.reduceEqDiff, Nat.reduceAdd, iput, puts, FF, frzL_cat]; done) | (simp only [SS, Nat.reduceEqDiff, Nat.reduceAdd, iput, puts, FF, frzL_cat]; rfl)) (by first | exact s.unit_fz hun t.2.2.2 ti.2.2.2.1 ti.2.2.2.2) ?_) | (refine den_calli rfl (by first | (simp only [SS, Nat.reduceEqDiff, Nat.reduceAdd, iput, puts, FF, frzL_cat]; done) | (simp only [SS, Nat.reduceEqDiff, Nat.reduceAdd, iput, puts, FF, frzL_cat]; rfl)) (by first | exact s.unit_fz hun t.2.2.2 ti.2.2.2.1 ti.2.2.2.2) ?_))
          refine ⟨fun k4 => ?_, fun k4 => ?_⟩
          · have k4 : isU c t.2.2.2 := by first | exact k4 | simpa [isU] using k4
            rw [if_pos ⟨k2, k3, k4⟩] at ids
            have il := idAll_len c c.f.length (L.take i)
            have g3' := out7.g3.2
            obtain ⟨z, ez⟩ : ∃ z : Nat, t.1 = z := ⟨t.1.toNat, by have := ti.1.1; omega⟩
            have hz : z < c.f.length := by have := ti.1.2; omega
            rw [ez] at ids h0
            try simp (disch := (first | rfl | with_reducible assumption | with_reducible solve_by_elim (maxDepth := 8) [Shape.inT, Shape.inI, Shape.inC, Shape.inK, Shape.obF, Shape.obT, Shape.arI, Arr.inF] | omega)) only [S2, Nat.reduceEqDiff, Nat.reduceAdd, iput, puts, h0, p_fadm (l := 5) out7.obj rfl, p_ldm (n := 5) out7.obj rfl, p_iadN g3' il hz]
            refine den_st1G (o := n1) (p := z) (m := c.f.length) (u := int (i : Int)) rfl rfl g3' (by rw [ints_length]; exact il) hz rfl fun H9 z9 e9 => ?_
            rw [ints_set] at z9
            have out9 := out7.setI z9 e9
            try simp (disch := (first | rfl | with_reducible assumption | with_reducible solve_by_elim (maxDepth := 8) [Shape.inT, Shape.inI, Shape.inC, Shape.inK, Shape.obF, Shape.obT, Shape.arI, Arr.inF] | omega)) only [S2, Nat.reduceEqDiff, Nat.reduceAdd, iput, puts]
            refine ⟨(i + 1, (a6, b7), some (s1.getD n3), some (s2.getD n6)), rfl, ⟨hli, ?_, hG7.kept fun t ht => e9 t (by omega), (e9 0 (by omega)).trans y7⟩, by simp only; omega⟩
            simp only
            rw [ids]
            exact out9
          · have k4 : ¬ isU c t.2.2.2 := by first | exact k4 | simpa [isU] using k4
            try simp (disch := (first | rfl | with_reducible assumption | with_reducible solve_by_elim (maxDepth := 8) [Shape.inT, Shape.inI, Shape.inC, Shape.inK, Shape.obF, Shape.obT, Shape.arI, Arr.inF] | omega)) only [S2, Nat.reduceEqDiff, Nat.reduceAdd, iput, puts]
            exact ⟨(i + 1, (a6, b7), some (s1.getD n3), some (s2.getD n6)), rfl, ⟨hli, fin (by rw [ids, if_neg fun e => k4 e.2.2]), hG7, y7⟩, by simp only; omega⟩
        · have k3 : ¬ isU c t.2.2.1 := by first | exact k3 | simpa [isU] using k3
          try simp (disch := (first | rfl | with_reducible assumption | with_reducible solve_by_elim (maxDepth := 8) [Shape.inT, Shape.inI, Shape.inC, Shape.inK, Shape.obF, Shape.obT, Shape.arI, Arr.inF] | omega)) only [S2, Nat.reduceEqDiff, Nat.reduceAdd, iput, puts]
          exact ⟨(i + 1, (a6, b7), some (s1.getD n3), some (s2.getD n6)), rfl, ⟨hli, fin (by rw [ids, if_neg fun e => k3 e.2.1]), hG7, y7⟩, by simp only; omega⟩
      · have k2 : ¬ t.1 = t.2.1 := by first | exact k2 | simpa using k2
        try simp (disch := (first | rfl | with_reducible assumption | with_reducible solve_by_elim (maxDepth := 8) [Shape.inT, Shape.inI, Shape.inC, Shape.inK, Shape.obF, Shape.obT, Shape.arI, Arr.inF] | omega)) only [S2, Nat.reduceEqDiff, Nat.reduceAdd, iput, puts]
        exact ⟨(i + 1, (a6, b7), some (s1.getD n3), some (s2.getD n6)), rfl, ⟨hli, fin (by rw [ids, if_neg fun e => k2 e.1]), hG7, y7⟩, by simp only; omega⟩
    · have hie : i = L.length := by omega
      subst hie
      rw [List.take_length] at out
      try simp (disch := (first | rfl | with_reducible assumption | with_reducible solve_by_elim (maxDepth := 8) [Shape.inT, Shape.inI, Shape.inC, Shape.inK, Shape.obF, Shape.obT, Shape.arI, Arr.inF] | omega)) only [S2, Nat.reduceEqDiff, Nat.reduceAdd, iput, puts, hG.len, lm, hli]
      have fl : (twF L).length = L.length := by simp [twF]
      -- the table
      refine den_loop (α := Nat × AV) (fun a => [int a.1]) (fun a H' nx' => a.1 ≤ L.length ∧ (a.1 = 0 ∨ L.length ≤ 40) ∧ Out3 (n1 + 1) c.f.length (twF L) (twT L) (idAll c c.f.length L) ((List.range a.1).map (tblRow (twC c L) (twF L) (twT L))) va vb (.ms n1 0 c.f.length 1) a.2 s1 s2 (some n1) H' n1 nx' ∧ GrL v (L.map r4) H' n1 ∧ H' 0 = some [int 0, .nil, .nil, .nil, .nil]) (fun a => L.length - a.1) (0, .nil) rfl ⟨Nat.zero_le _, .inl rfl, by simpa using out, hG, y1⟩ ?_
      clear out hG y1 hli
      rintro ⟨i, ve⟩ H4 n4 ⟨hi, h40, out, hG, y1⟩
      simp only at hi h40 out
      have qh := out.qh
      by_cases hli : i < L.length
      · try simp (disch := (first | rfl | with_reducible assumption | with_reducible solve_by_elim (maxDepth := 8) [Shape.inT, Shape.inI, Shape.inC, Shape.inK, Shape.obF, Shape.obT, Shape.arI, Arr.inF] | omega)) only [S2, Nat.reduceEqDiff, Nat.reduceAdd, iput, puts, hG.len, lm, hli]
        refine ⟨fun k40 => ?_, fun k40 => ?_⟩
        · have k40 : L.length ≤ 40 := by omega
          have ti := atL i hli
          obtain ⟨t, ht⟩ : ∃ t, L.getD i tw0 = t := ⟨_, rfl⟩
          rw [ht] at ti
          obtain ⟨q0, q1, q2, q3⟩ := r4_in t
          have h0 : gI (r4 t) 0 = t.1 := rfl
          have h1 : gI (r4 t) 1 = t.2.1 := rfl
          have h2 : gI (r4 t) 2 = t.2.2.1 := rfl
          have h3 : gI (r4 t) 3 = t.2.2.2 := rfl
          try simp (disch := (first | rfl | with_reducible assumption | with_reducible solve_by_elim (maxDepth := 8) [Shape.inT, Shape.inI, Shape.inC, Shape.inK, Shape.obF, Shape.obT, Shape.arI, Arr.inF] | omega)) only [S2, Nat.reduceEqDiff, Nat.reduceAdd, iput, puts]
          refine den_loop (α := Nat × AV) (fun a => [a.2, int a.1]) (fun a H' nx' => a.1 ≤ L.length ∧ IsI ((List.range a.1).map (tblAt (twC c L) (twF L) (twT L) i)) H4 n4 a.2 H' nx') (fun a => L.length - a.1) (0, .nil) rfl ⟨Nat.zero_le _, IsI.nil _ _⟩ ?_
          rintro ⟨j, v8⟩ H5 n5 ⟨hj, hI⟩
          simp only at hj hI
          have hG5 := hG.kept (H' := H5) fun t ht => hI.old (by omega)
          by_cases hlj : j < L.length
          · have tj := atL j hlj
            obtain ⟨w, hw⟩ : ∃ w, L.getD j tw0 = w := ⟨_, rfl⟩
            rw [hw] at tj
            obtain ⟨w0, w1, w2, w3⟩ := r4_in w
            have u0 : gI (r4 w) 0 = w.1 := rfl
            have u1 : gI (r4 w) 1 = w.2.1 := rfl
            have u2 : gI (r4 w) 2 = w.2.2.1 := rfl
            have u3 : gI (r4 w) 3 = w.2.2.2 := rfl
            obtain ⟨p, p1, p2⟩ := hG5.rd (show i < (L.map r4).length by omega)
            rw [getD_r4 hli, ht] at p2
            obtain ⟨r, r1, r2⟩ := hG5.rd (show j < (L.map r4).length by omega)
            rw [getD_r4 hlj, hw] at r2
            have eT : (twT L).getD i 0 = t.2.1 := by rw [← ht]; simp [twT, List.getD, hli]
            have eF : (twF L).getD j 0 = w.1 := by rw [← hw]; simp [twF, List.getD, hlj]
            have row : ∀ v9 H9 n9, IsI ((List.range j).map (tblAt (twC c L) (twF L) (twT L) i) ++ [tblAt (twC c L) (twF L) (twT L) i j]) H4 n4 v9 H9 n9 → IsI ((List.range (j + 1)).map (tblAt (twC c L) (twF L) (twT L) i)) H4 n4 v9 H9 n9 := fun v9 H9 n9 q => by rw [List.range_succ, List.map_append]; exact q
            have ta : tblAt (twC c L) (twF L) (twT L) i j = if t.2.1 = w.1 then idxT L (t.1, w.2.1, c.K w.2.2.1 t.2.2.1, c.K t.2.2.2 w.2.2.2) else -1 := by unfold tblAt twC; rw [eT, eF, ht, hw]
            try simp (disch := (first | rfl | with_reducible assumption | with_reducible solve_by_elim (maxDepth := 8) [Shape.inT, Shape.inI, Shape.inC, Shape.inK, Shape.obF, Shape.obT, Shape.arI, Arr.inF] | omega)) only [S2, Nat.reduceEqDiff, Nat.reduceAdd, iput, puts, hG5.len, lm, hlj, p1, p2, r1, r2, h1, u0]
            refine ⟨fun k1 => ?_, fun k1 => ?_⟩
            · have k1 : t.2.1 = w.1 := by first | exact k1 | simpa using k1
              rw [if_pos k1] at ta
              have c1 := s.sThenFz hth tj.2.2.1 ti.2.2.1
              have c2 := s.sThenFz hth ti.2.2.2 tj.2.2.2
              repeat (first | simp (disch := (first | rfl | with_reducible assumption | with_reducible solve_by_elim (maxDepth := 8) [Shape.inT, Shape.inI, Shape.inC, Shape.inK, Shape.obF, Shape.obT, Shape.arI, Arr.inF] | omega)) only [S2, Nat.reduceEqDiff, Nat.reduceAdd, iput, puts, h0, h2, h3, u1, u2, u3, lit4] | (refine den_call rfl (by first | (simp only [SS, Nat.reduceEqDiff, Nat.reduceAdd, iput, puts, FF, frzL_cat]; done) | (simp only [SS, Nat.reduceEqDiff, Nat.reduceAdd, iput, puts, FF, frzL_cat]; rfl)) (by first | exact c1 | exact c2) ?_) | (refine den_calli rfl (by first | (simp only [SS, Nat.reduceEqDiff, Nat.reduceAdd, iput, puts, FF, frzL_cat]; done) | (simp only [SS, Nat.reduceEqDiff, Nat.reduceAdd, iput, puts, FF, frzL_cat]; rfl)) (by first | exact c1 | exact c2) ?_))
              generalize hd : ((t.1, w.2.1, c.K w.2.2.1 t.2.2.1, c.K t.2.2.2 w.2.2.2) : Tw) = due at ta ⊢
              refine den_loop (α := Nat) (fun k => [int (idxT (L.take k) due), int k]) (fun k H' nx' => k ≤ L.length ∧ H' = H5 ∧ nx' = n5) (fun k => L.length - k) 0 rfl ⟨Nat.zero_le _, rfl, rfl⟩ ?_
              rintro k H6 n6 ⟨hk, rfl, rfl⟩
              by_cases hlk : k < L.length
              · obtain ⟨z, z1, z2⟩ := hG5.rd (show k < (L.map r4).length by omega)
                rw [getD_r4 hlk] at z2
                have tk : L.take (k + 1) = L.take k ++ [L.getD k tw0] := by rw [List.take_add_one]; simp [List.getD, hlk]
                have nk : (L.take k ++ [L.getD k tw0]).Nodup := by rw [← tk]; exact nd.sublist (List.take_sublist _ _)
                have lk : (L.take k).length = k := by rw [List.length_take]; omega
                have sn := idxT_snoc (x := due) nk
                rw [← tk, lk] at sn
                have sm := (l01Same_ok (P := P) (ν := ν) hsa (r4 (L.getD k tw0)) (r4 due) (by simp [r4])).fzb
                have er : r4 due = [t.1, w.2.1, c.K w.2.2.1 t.2.2.1, c.K t.2.2.2 w.2.2.2] := by rw [← hd]; rfl
                have sm2 : Fz (OkM P ν) 246 [islice (r4 (L.getD k tw0)), islice [t.1, w.2.1, c.K w.2.2.1 t.2.2.1, c.K t.2.2.2 w.2.2.2]] (bool (decide (r4 (L.getD k tw0) = r4 due))) := by rw [← er]; exact sm
                repeat (first | simp (disch := (first | rfl | with_reducible assumption | with_reducible solve_by_elim (maxDepth := 8) [Shape.inT, Shape.inI, Shape.inC, Shape.inK, Shape.obF, Shape.obT, Shape.arI, Arr.inF] | omega)) only [S2, Nat.reduceEqDiff, Nat.reduceAdd, iput, puts, hG5.len, lm, hlk, z1, z2] | (refine den_call rfl (by first | (simp only [SS, Nat.reduceEqDiff, Nat.reduceAdd, iput, puts, FF, frzL_cat]; done) | (simp only [SS, Nat.reduceEqDiff, Nat.reduceAdd, iput, puts, FF, frzL_cat]; rfl)) (by first | exact sm2) ?_) | (refine den_calli rfl (by first | (simp only [SS, Nat.reduceEqDiff, Nat.reduceAdd, iput, puts, FF, frzL_cat]; done) | (simp only [SS, Nat.reduceEqDiff, Nat.reduceAdd, iput, puts, FF, frzL_cat]; rfl)) (by first | exact sm2) ?_))
                refine ⟨fun e => ?_, fun e => ?_⟩
                · have e : L.getD k tw0 = due := r4_inj.1 (by first | exact e | simpa using e)
                  rw [if_pos e] at sn
                  try simp (disch := (first | rfl | with_reducible assumption | with_reducible solve_by_elim (maxDepth := 8) [Shape.inT, Shape.inI, Shape.inC, Shape.inK, Shape.obF, Shape.obT, Shape.arI, Arr.inF] | omega)) only [S2, Nat.reduceEqDiff, Nat.reduceAdd, iput, puts]
                  refine ⟨k + 1, by rw [sn], ?_, by omega⟩
                  first | exact ⟨by omega, rfl, rfl⟩ | omega
                · have e : ¬ L.getD k tw0 = due := fun q => (by first | exact e | simpa using e : ¬ r4 (L.getD k tw0) = r4 due) (r4_inj.2 q)
                  rw [if_neg e] at sn
                  try simp (disch := (first | rfl | with_reducible assumption | with_reducible solve_by_elim (maxDepth := 8) [Shape.inT, Shape.inI, Shape.inC, Shape.inK, Shape.obF, Shape.obT, Shape.arI, Arr.inF] | omega)) only [S2, Nat.reduceEqDiff, Nat.reduceAdd, iput, puts]
                  refine ⟨k + 1, by rw [sn], ?_, by omega⟩
                  first | exact ⟨by omega, rfl, rfl⟩ | omega
              · have hke : k = L.length := by omega
                subst hke
                rw [List.take_length]
                try simp (disch := (first | rfl | with_reducible assumption | with_reducible solve_by_elim (maxDepth := 8) [Shape.inT, Shape.inI, Shape.inC, Shape.inK, Shape.obF, Shape.obT, Shape.arI, Arr.inF] | omega)) only [S2, Nat.reduceEqDiff, Nat.reduceAdd, iput, puts, hG5.len, lm, hlk]
                refine den_appI (m := [idxT L due]) hI rfl (by simp) (by simp only [List.length_cons, List.length_nil, List.length_map, List.length_range]; omega) fun v9 H9 n9 hI9 => ?_
                rw [← ta] at hI9
                try simp (disch := (first | rfl | with_reducible assumption | with_reducible solve_by_elim (maxDepth := 8) [Shape.inT, Shape.inI, Shape.inC, Shape.inK, Shape.obF, Shape.obT, Shape.arI, Arr.inF] | omega)) only [S2, Nat.reduceEqDiff, Nat.reduceAdd, iput, puts]
                exact ⟨(j + 1, v9), rfl, ⟨hlj, row _ _ _ hI9⟩, by simp only; omega⟩
            · rw [if_neg (by first | exact k1 | simpa using k1)] at ta
              try simp (disch := (first | rfl | with_reducible assumption | with_reducible solve_by_elim (maxDepth := 8) [Shape.inT, Shape.inI, Shape.inC, Shape.inK, Shape.obF, Shape.obT, Shape.arI, Arr.inF] | omega)) only [S2, Nat.reduceEqDiff, Nat.reduceAdd, iput, puts]
              refine den_appI (m := [-1]) hI rfl (by simp) (by simp only [List.length_cons, List.length_nil, List.length_map, List.length_range]; omega) fun v9 H9 n9 hI9 => ?_
              rw [← ta] at hI9
              try simp (disch := (first | rfl | with_reducible assumption | with_reducible solve_by_elim (maxDepth := 8) [Shape.inT, Shape.inI, Shape.inC, Shape.inK, Shape.obF, Shape.obT, Shape.arI, Arr.inF] | omega)) only [S2, Nat.reduceEqDiff, Nat.reduceAdd, iput, puts]
              exact ⟨(j + 1, v9), rfl, ⟨hlj, row _ _ _ hI9⟩, by simp only; omega⟩
          · have hje : j = L.length := by omega
            subst hje
            have hn5 := hI.1
            have out5 := out.mono (H' := H5) (Nat.le_refl _) fun t _ h2 => hI.old h2
            have y5 := (hI.old (show 0 < n4 by omega)).trans y1
            have ow : Own1 ((List.range L.length).map (tblAt (twC c L) (twF L) (twT L) i)) v8 H5 n4 n5 := by
              obtain ⟨_, ⟨q1, q2, _⟩ | ⟨o, q1, q2, q3, q4⟩⟩ := hI
              · exact .inl ⟨q1, q2⟩
              · exact .inr ⟨o, q1, q2, q3, by rw [q4]; exact hput_eq _ _ _⟩
            try simp (disch := (first | rfl | with_reducible assumption | with_reducible solve_by_elim (maxDepth := 8) [Shape.inT, Shape.inI, Shape.inC, Shape.inK, Shape.obF, Shape.obT, Shape.arI, Arr.inF] | omega)) only [S2, Nat.reduceEqDiff, Nat.reduceAdd, iput, puts, hG5.len, lm, hlj, p_fadm (l := 5) out5.obj rfl, p_ldm (n := 5) out5.obj rfl]
            refine den_outR (l := (List.range L.length).map (tblAt (twC c L) (twF L) (twT L) i)) out5 rfl (fun _ => rfl) rfl (by omega) rfl rfl (by rw [List.length_map, List.length_range]; omega) hn5 ow fun e9 H9 n9 out9 hn9 low9 => ?_
            try simp (disch := (first | rfl | with_reducible assumption | with_reducible solve_by_elim (maxDepth := 8) [Shape.inT, Shape.inI, Shape.inC, Shape.inK, Shape.obF, Shape.obT, Shape.arI, Arr.inF] | omega)) only [S2, Nat.reduceEqDiff, Nat.reduceAdd, iput, puts]
            refine ⟨(i + 1, e9), rfl, ⟨hli, .inr k40, ?_, hG5.kept fun t ht => low9 t (by omega), ?_⟩, by simp only; omega⟩
            · simp only
              rw [List.range_succ, List.map_append]
              have er : tblRow (twC c L) (twF L) (twT L) i = (List.range L.length).map (tblAt (twC c L) (twF L) (twT L) i) := by unfold tblRow; rw [fl]
              rw [List.map_cons, List.map_nil, er]
              exact out9
            · rw [low9 _ (by omega)]; exact y5
        · have i0 : i = 0 := by rcases h40 with q | q <;> omega
          subst i0
          try simp (disch := (first | rfl | with_reducible assumption | with_reducible solve_by_elim (maxDepth := 8) [Shape.inT, Shape.inI, Shape.inC, Shape.inK, Shape.obF, Shape.obT, Shape.arI, Arr.inF] | omega)) only [S2, Nat.reduceEqDiff, Nat.reduceAdd, iput, puts, p_ldsm (l := 5) out.obj rfl]
          refine den_stR (o := 0) (m := 5) (d := [int (c.f.length : Int), va, vb, .ms n1 0 c.f.length 1, ve]) rfl rfl y1 rfl rfl out.ones fun H9 y9 e9 => ?_
          have out9 := out.mono (H' := H9) (Nat.le_refl _) fun t h1 _ => e9 t (by omega)
          have own := out9.own
          have hG9 := hG.kept0 (H' := H9) e9
          rw [if_neg (show ¬ L.length ≤ 40 by omega)]
          refine ⟨.tup [.agg [int (c.f.length : Int), va, vb, .ms n1 0 c.f.length 1, ve], v], ?_, H9, fun _ _ h => h, _, v, n1, n4, n1, rfl, own, hG9⟩
          simp only [retOf, rets, SS, Nat.reduceEqDiff, Nat.reduceAdd, iput, puts, pLd, y9]
          rfl
      · have hie : i = L.length := by omega
        subst hie
        try simp (disch := (first | rfl | with_reducible assumption | with_reducible solve_by_elim (maxDepth := 8) [Shape.inT, Shape.inI, Shape.inC, Shape.inK, Shape.obF, Shape.obT, Shape.arI, Arr.inF] | omega)) only [S2, Nat.reduceEqDiff, Nat.reduceAdd, iput, puts, hG.len, lm, hli, p_ldsm (l := 5) out.obj rfl]
        refine den_stR (o := 0) (m := 5) (d := [int (c.f.length : Int), va, vb, .ms n1 0 c.f.length 1, ve]) rfl rfl y1 rfl rfl out.ones fun H9 y9 e9 => ?_
        have out9 := out.mono (H' := H9) (Nat.le_refl _) fun t h1 _ => e9 t (by omega)
        have own := out9.own
        have hG9 := hG.kept0 (H' := H9) e9
        have et : (if L.length ≤ 40 then tbl (twC c L) (twF L) (twT L) else []) = (List.range L.length).map (tblRow (twC c L) (twF L) (twT L)) := by
          rcases h40 with q | q
          · rw [q, if_pos (by omega)]; unfold tbl; rw [fl, q]
          · rw [if_pos q]; unfold tbl; rw [fl]
        rw [et]
        refine ⟨.tup [.agg [int (c.f.length : Int), va, vb, .ms n1 0 c.f.length 1, ve], v], ?_, H9, fun _ _ h => h, _, v, n1, n4, n1, rfl, own, hG9⟩
        simp only [retOf, rets, SS, Nat.reduceEqDiff, Nat.reduceAdd, iput, puts, pLd, y9]
        rfl
end Go.Av
