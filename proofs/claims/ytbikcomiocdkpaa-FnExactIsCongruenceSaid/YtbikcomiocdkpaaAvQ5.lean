/-
  Congruences: the program's closure.
-/
import Derived.Test.YtbikcomiocdkpaaAvQ4
import Derived.Test.YtbikcomiocdkpaaAvJ1
import Derived.Test.YtbikcomiocdkpaaAvR2
namespace Go.Av
open Classical
set_option linter.unusedSimpArgs false
set_option linter.unusedVariables false
variable {P : Program} {ν : Nat → FuncId}

theorem JAt.le {H : Hp} {o n : Nat} {R : Nat → Nat} (h : JAt H o n R) : ∀ i, i < n → R i ≤ i := fun i hi => by
  obtain ⟨J, _, hl, F⟩ := h.ex
  exact (F.root i (by omega)).1
theorem JAt.idem {H : Hp} {o n : Nat} {R : Nat → Nat} (h : JAt H o n R) : ∀ i, i < n → R (R i) = R i := fun i hi => by
  obtain ⟨J, _, hl, F⟩ := h.ex
  exact F.idem (by omega)
/-- A round under way: R0 at its start, R' when this arrow's turn came, R1 now. -/
structure Sw (c : Cat) (L : List (Nat × Nat)) (R0 : Nat → Nat) (a0 : Bool) (R' R1 : Nat → Nat) (b : Bool) (φ : Prop) : Prop where
  base : a0 = false → R' = R0
  inv : Inv4 c L L R1
  no : b = false → a0 = false ∧ R1 = R' ∧ φ
  yes : b = true → cl c.f.length R1 < cl c.f.length R0
section
variable {c : Cat} {L : List (Nat × Nat)} {R0 R' R1 : Nat → Nat} {a0 b : Bool} {φ ψ : Prop}
theorem Sw.to (h : Sw c L R0 a0 R' R1 b φ) (hh : φ → ψ) : Sw c L R0 a0 R' R1 b ψ := ⟨h.base, h.inv, fun e => ⟨(h.no e).1, (h.no e).2.1, hh (h.no e).2.2⟩, h.yes⟩
theorem Sw.joinT (h : Sw c L R0 a0 R' R1 b φ) (hle : ∀ i, i < c.f.length → R1 i ≤ i) (hid : ∀ i, i < c.f.length → R1 (R1 i) = R1 i) {x y : Nat} (hx : x < c.f.length) (hy : y < c.f.length) (g : Gen (inP (sprP c L)) x y) (e : R1 x ≠ R1 y) : Sw c L R0 a0 R' (joinR R1 x y) true ψ := by
  refine ⟨h.base, h.inv.join g, (fun e => by cases e), fun _ => ?_⟩
  have lt := cl_lt hle hid hx hy e
  cases b with
  | true => have := h.yes rfl; omega
  | false =>
    obtain ⟨q1, q2, _⟩ := h.no rfl
    rw [q2, h.base q1] at lt ⊢
    exact lt
theorem Sw.joinF (h : Sw c L R0 a0 R' R1 b φ) {x y : Nat} (g : Gen (inP (sprP c L)) x y) (e : R1 x = R1 y) : Sw c L R0 a0 R' (joinR R1 x y) b (φ ∧ R' x = R' y) := by
  rw [joinR_same e]
  refine ⟨h.base, h.inv, fun q => ?_, h.yes⟩
  obtain ⟨q1, q2, q3⟩ := h.no q
  exact ⟨q1, q2, q3, by rw [← q2]; exact e⟩
end

def V_Category_congruence : Vc :=
  .op true (.call (.f 26) [.t 0]) <|
  .op true (.callm (.f 394) [.t 2]) <|
  .op true (.p .len [.t 1]) <|
  .loop 0 [.c (int 0)] <|
  .op true (.p (.bin .lss) [.t 5, .t 4]) <|
  .br 6
   (.op true (.p (.iad 1) [.t 1, .t 5]) <|
   .op true (.p (.ld none) [.t 7]) <|
   .op true (.p (.iad 1) [.t 8, .c (int 0)]) <|
   .op true (.p (.ld none) [.t 9]) <|
   .op true (.p (.iad 1) [.t 8, .c (int 1)]) <|
   .op true (.p (.ld none) [.t 11]) <|
   .op true (.callm (.f 395) [.t 3, .t 10, .t 12]) <|
   .op true (.p (.bin .add) [.t 5, .c (int 1)]) <|
   .again 0 [.t 14])
   (.loop 0 [.c (bool true)] <|
   .br 7
    (.loop 1 [.c (bool false), .c (int 0)] <|
    .op true (.p (.bin .lss) [.t 9, .t 2]) <|
    .br 10
     (.op true (.callm (.f 414) [.t 3, .t 9]) <|
     .loop 2 [.t 8, .c (int 0)] <|
     .op true (.p (.bin .lss) [.t 13, .t 2]) <|
     .br 14
      (.op true (.p (.bin .neq) [.t 11, .t 9]) <|
      .br 15
       (.op true (.call (.f 34) [.t 0, .t 9, .t 13]) <|
       .op true (.p (.bin .geq) [.t 16, .c (int 0)]) <|
       .br 17
        (.op true (.call (.f 34) [.t 0, .t 11, .t 13]) <|
        .op true (.callm (.f 395) [.t 3, .t 16, .t 18]) <|
        .br 19
         (.op true (.call (.f 34) [.t 0, .t 13, .t 9]) <|
         .op true (.p (.bin .geq) [.t 20, .c (int 0)]) <|
         .br 21
          (.op true (.call (.f 34) [.t 0, .t 13, .t 11]) <|
          .op true (.callm (.f 395) [.t 3, .t 20, .t 22]) <|
          .br 23
           (.op true (.p (.bin .add) [.t 13, .c (int 1)]) <|
           .again 2 [.c (bool true), .t 24])
           (.op true (.p (.bin .add) [.t 13, .c (int 1)]) <|
           .again 2 [.c (bool true), .t 24]))
          (.op true (.p (.bin .add) [.t 13, .c (int 1)]) <|
          .again 2 [.c (bool true), .t 22]))
         (.op true (.call (.f 34) [.t 0, .t 13, .t 9]) <|
         .op true (.p (.bin .geq) [.t 20, .c (int 0)]) <|
         .br 21
          (.op true (.call (.f 34) [.t 0, .t 13, .t 11]) <|
          .op true (.callm (.f 395) [.t 3, .t 20, .t 22]) <|
          .br 23
           (.op true (.p (.bin .add) [.t 13, .c (int 1)]) <|
           .again 2 [.c (bool true), .t 24])
           (.op true (.p (.bin .add) [.t 13, .c (int 1)]) <|
           .again 2 [.t 12, .t 24]))
          (.op true (.p (.bin .add) [.t 13, .c (int 1)]) <|
          .again 2 [.t 12, .t 22])))
        (.op true (.call (.f 34) [.t 0, .t 13, .t 9]) <|
        .op true (.p (.bin .geq) [.t 18, .c (int 0)]) <|
        .br 19
         (.op true (.call (.f 34) [.t 0, .t 13, .t 11]) <|
         .op true (.callm (.f 395) [.t 3, .t 18, .t 20]) <|
         .br 21
          (.op true (.p (.bin .add) [.t 13, .c (int 1)]) <|
          .again 2 [.c (bool true), .t 22])
          (.op true (.p (.bin .add) [.t 13, .c (int 1)]) <|
          .again 2 [.t 12, .t 22]))
         (.op true (.p (.bin .add) [.t 13, .c (int 1)]) <|
         .again 2 [.t 12, .t 20])))
       (.op true (.p (.bin .add) [.t 9, .c (int 1)]) <|
       .again 1 [.t 12, .t 16]))
      (.op true (.p (.bin .add) [.t 9, .c (int 1)]) <|
      .again 1 [.t 12, .t 15]))
     (.again 0 [.t 8]))
    (.op true (.callm (.f 396) [.t 3]) <|
    .ret [(.t 8, none)]))
set_option maxHeartbeats 8000000 in
theorem congruence_ok (K : HJoin P ν) (har : Has P ν 26 1 V_Category_arrows) (hth : Has P ν 34 3 V_Category_then) (h : Has P ν 342 2 V_Category_congruence) (c : Cat) (k : IsCat c) (L : List (Nat × Nat)) (hl : L.length ≤ 1048576) (hL : ∀ p ∈ L, Par c p.1 p.2) (nx : Nat) :
    OkM P ν 342 [.ptr c.cells 0, .sl (rows (prM L)) (prM L).length] hempty nx (IsI (nrm (lab (sprP c L)) c.f.length) hempty nx) := by
  refine h _ _ _ _ rfl fun hwf => ?_
  unfold V_Category_congruence
  have s := k.1
  have n40 := s.n40
  have pl := prM_len (l := L)
  repeat (first | simp (disch := (first | rfl | with_reducible assumption | with_reducible solve_by_elim (maxDepth := 8) [Shape.inT, Shape.inI, Shape.inC, Shape.inK, Shape.obF, Shape.obT, Shape.arI, Arr.inF] | omega)) only [S2, Nat.reduceEqDiff, Nat.reduceAdd, iput, puts] | (refine den_call rfl (by first | (simp only [SS, Nat.reduceEqDiff, Nat.reduceAdd, iput, puts, FF, frzL_cat]; done) | (simp only [SS, Nat.reduceEqDiff, Nat.reduceAdd, iput, puts, FF, frzL_cat]; rfl)) (by first | exact (arrows_ok har c).fzi) ?_) | (refine den_calli rfl (by first | (simp only [SS, Nat.reduceEqDiff, Nat.reduceAdd, iput, puts, FF, frzL_cat]; done) | (simp only [SS, Nat.reduceEqDiff, Nat.reduceAdd, iput, puts, FF, frzL_cat]; rfl)) (by first | exact (arrows_ok har c).fzi) ?_))
  refine den_callm (fc := (394, [])) rfl (joinerOf_ok K.numbers K.joinerOf c.f.length (by omega) hempty nx) (NewL.some _ _ _) fun u H1 n1 hu => ?_
  obtain ⟨rfl, rfl, hJ, low⟩ := hu.joiner
  try simp (disch := (first | rfl | with_reducible assumption | with_reducible solve_by_elim (maxDepth := 8) [Shape.inT, Shape.inI, Shape.inC, Shape.inK, Shape.obF, Shape.obT, Shape.arI, Arr.inF] | omega)) only [S2, Nat.reduceEqDiff, Nat.reduceAdd, iput, puts]
  refine den_loop (α := Nat × (Nat → Nat)) (fun a => [int a.1]) (fun a H' nx' => a.1 ≤ L.length ∧ Inv4 c L (L.take a.1) a.2 ∧ JAt H' nx c.f.length a.2 ∧ (∀ j, j ≠ nx → H' j = hempty j) ∧ nx' = nx + 1) (fun a => L.length - a.1) (0, id) rfl ⟨Nat.zero_le _, Inv4.start, hJ, low, rfl⟩ ?_
  clear hJ low hu H1
  rintro ⟨i, R⟩ H1 n1 ⟨hi, hR, hJ, low, rfl⟩
  simp only at hi hR hJ
  by_cases hlt : i < L.length
  · have kR : InR (prM L) (i : Int) := InR.nat (by rw [pl]; exact hlt)
    obtain ⟨x, y, hxy⟩ : ∃ x y, L[i] = (x, y) := ⟨_, _, rfl⟩
    have row : gR (prM L) (i : Int) = [(x : Int), (y : Int)] := by show (prM L).getD i [] = _; rw [prM_at hlt, hxy]
    have mem := List.getElem_mem hlt
    rw [hxy] at mem
    have pp := hL _ mem
    have hx := pp.a
    have hy := pp.b
    simp only at hx hy
    have r0 : In [(x : Int), (y : Int)] 0 := ⟨by omega, by simp⟩
    have r1 : In [(x : Int), (y : Int)] 1 := ⟨by omega, by simp⟩
    have g0 : gI [(x : Int), (y : Int)] 0 = x := rfl
    have g1 : gI [(x : Int), (y : Int)] 1 = y := rfl
    have hlt' : i < (prM L).length := by rw [pl]; exact hlt
    try simp (disch := (first | rfl | with_reducible assumption | with_reducible solve_by_elim (maxDepth := 8) [Shape.inT, Shape.inI, Shape.inC, Shape.inK, Shape.obF, Shape.obT, Shape.arI, Arr.inF] | omega)) only [S2, Nat.reduceEqDiff, Nat.reduceAdd, iput, puts, hlt', row, g0, g1]
    refine den_callm (fc := (395, [])) rfl (join_ok K.root K.join nx c.f.length R H1 (nx + 1) hJ _ _ x y rfl rfl hx hy) (hJ.joinSome hx hy) fun u H2 n2 hu => ?_
    obtain ⟨rfl, rfl, hJ2, low2⟩ := hu
    try simp (disch := (first | rfl | with_reducible assumption | with_reducible solve_by_elim (maxDepth := 8) [Shape.inT, Shape.inI, Shape.inC, Shape.inK, Shape.obF, Shape.obT, Shape.arI, Arr.inF] | omega)) only [S2, Nat.reduceEqDiff, Nat.reduceAdd, iput, puts]
    refine ⟨(i + 1, joinR R x y), rfl, ⟨by simp only; omega, ?_, hJ2, fun j hj => by rw [low2 j hj]; exact low j hj⟩, by simp only; omega⟩
    simp only
    rw [List.take_succ_eq_append_getElem hlt, hxy]
    exact hR.pair (p := (x, y)) mem
  · have hlt' : ¬ i < (prM L).length := by rw [pl]; exact hlt
    have hie : i = L.length := by omega
    subst hie
    rw [List.take_length] at hR
    try simp (disch := (first | rfl | with_reducible assumption | with_reducible solve_by_elim (maxDepth := 8) [Shape.inT, Shape.inI, Shape.inC, Shape.inK, Shape.obF, Shape.obT, Shape.arI, Arr.inF] | omega)) only [S2, Nat.reduceEqDiff, Nat.reduceAdd, iput, puts, hlt']
    refine den_loop (α := (Nat → Nat) × Bool) (fun a => [bool a.2]) (fun a H' nx' => Inv4 c L L a.1 ∧ JAt H' nx c.f.length a.1 ∧ (∀ j, j ≠ nx → H' j = hempty j) ∧ nx' = nx + 1 ∧ (a.2 = false → ∀ f, f < c.f.length → CgF c a.1 f)) (fun a => if a.2 then 1 + cl c.f.length a.1 else 0) (R, true) rfl ⟨hR, hJ, low, rfl, fun e => by cases e⟩ ?_
    clear hJ low hR hlt hi hlt' H1 R
    rintro ⟨R0, again⟩ H1 n1 ⟨hR, hJ, low, rfl, hcg⟩
    simp only at hR hJ hcg
    cases again with
    | false =>
      try simp (disch := (first | rfl | with_reducible assumption | with_reducible solve_by_elim (maxDepth := 8) [Shape.inT, Shape.inI, Shape.inC, Shape.inK, Shape.obF, Shape.obT, Shape.arI, Arr.inF] | omega)) only [S2, Nat.reduceEqDiff, Nat.reduceAdd, iput, puts]
      refine den_callm (fc := (396, [])) rfl (partition_ok K.root K.normal K.partition nx c.f.length (by omega) R0 H1 (nx + 1) hJ (by omega)) PartP.some fun u H2 n2 hu => ?_
      obtain ⟨h1, own, low2⟩ := hu
      rw [cong_end k hL hR (fun f hf => hcg rfl f hf) fun f hf => Nat.lt_of_le_of_lt (hJ.le f hf) hf] at own
      have own2 : Own1 (nrm (lab (sprP c L)) c.f.length) u H2 nx n2 := by
        rcases own with ⟨e, rfl⟩ | ⟨o, o1, o2, rfl, e⟩
        · exact .inl ⟨e, rfl⟩
        · exact .inr ⟨o, by omega, o2, rfl, e⟩
      obtain ⟨H3, s3, i3⟩ := own2.back (by omega) hwf fun j hj => by rw [low2 j (by omega) (by omega)]; exact low j (by omega)
      exact ⟨_, rfl, H3, s3, i3⟩
    | true =>
      clear hcg
      try simp (disch := (first | rfl | with_reducible assumption | with_reducible solve_by_elim (maxDepth := 8) [Shape.inT, Shape.inI, Shape.inC, Shape.inK, Shape.obF, Shape.obT, Shape.arI, Arr.inF] | omega)) only [S2, Nat.reduceEqDiff, Nat.reduceAdd, iput, puts]
      refine den_loop (α := (Nat → Nat) × Bool × Nat) (fun a => [bool a.2.1, int a.2.2]) (fun a H' nx' => a.2.2 ≤ c.f.length ∧ Sw c L R0 a.2.1 a.1 a.1 a.2.1 (∀ f, f < a.2.2 → CgF c a.1 f) ∧ JAt H' nx c.f.length a.1 ∧ (∀ j, j ≠ nx → H' j = hempty j) ∧ nx' = nx + 1) (fun a => c.f.length - a.2.2) (R0, false, 0) rfl ⟨Nat.zero_le _, ⟨fun _ => rfl, hR, fun _ => ⟨rfl, rfl, fun f hf => absurd hf (Nat.not_lt_zero _)⟩, fun e => by cases e⟩, hJ, low, rfl⟩ ?_
      clear hJ low hR H1
      rintro ⟨R', a0, f⟩ H1 n1 ⟨hf, sw, hJ, low, rfl⟩
      simp only at hf sw hJ
      by_cases hlf : f < c.f.length
      · have af : Arr c (f : Int) := Arr.of hlf
        try simp (disch := (first | rfl | with_reducible assumption | with_reducible solve_by_elim (maxDepth := 8) [Shape.inT, Shape.inI, Shape.inC, Shape.inK, Shape.obF, Shape.obT, Shape.arI, Arr.inF] | omega)) only [S2, Nat.reduceEqDiff, Nat.reduceAdd, iput, puts, hlf]
        refine den_callm (fc := (414, [])) rfl (root_ok K.root nx c.f.length R' H1 _ hJ f f rfl hlf) hJ.some fun u H2 n2 hu => ?_
        obtain ⟨rfl, rfl, hJ2, low2⟩ := hu
        have low3 : ∀ j, j ≠ nx → H2 j = hempty j := fun j hj => by rw [low2 j hj]; exact low j hj
        clear low low2 hJ H1
        have hrl := hJ2.le f hlf
        have hrn : R' f < c.f.length := by omega
        have ar : Arr c (R' f : Int) := Arr.of hrn
        have groot := sw.inv.root (hJ2.idem f hlf)
        have gp := gen_par k hL groot
        -- on to the next arrow
        have next : ∀ (R1 : Nat → Nat) (b : Bool) (H' : Hp), Sw c L R0 a0 R' R1 b (CgF c R' f) → JAt H' nx c.f.length R1 → (∀ j, j ≠ nx → H' j = hempty j) → ∃ a' : (Nat → Nat) × Bool × Nat, [bool b, int ((f + 1 : Nat) : Int)] = [bool a'.2.1, int a'.2.2] ∧ (a'.2.2 ≤ c.f.length ∧ Sw c L R0 a'.2.1 a'.1 a'.1 a'.2.1 (∀ f, f < a'.2.2 → CgF c a'.1 f) ∧ JAt H' nx c.f.length a'.1 ∧ ∀ j, j ≠ nx → H' j = hempty j) ∧ c.f.length - a'.2.2 < c.f.length - f := fun R1 b H' q1 q2 q3 => by
          refine ⟨(R1, b, f + 1), rfl, ⟨hlf, ⟨fun e => ?_, q1.inv, fun e => ⟨e, rfl, fun f' hf' => ?_⟩, q1.yes⟩, q2, q3⟩, by simp only; omega⟩
          · simp only at e
            obtain ⟨p1, p2, _⟩ := q1.no e
            rw [p2]; exact q1.base p1
          · simp only at e hf'
            obtain ⟨p1, p2, p3⟩ := q1.no e
            show CgF c R1 f'
            rw [p2]
            by_cases ef : f' = f
            · rw [ef]; exact p3
            · exact (sw.no p1).2.2 f' (by omega)
        try simp (disch := (first | rfl | with_reducible assumption | with_reducible solve_by_elim (maxDepth := 8) [Shape.inT, Shape.inI, Shape.inC, Shape.inK, Shape.obF, Shape.obT, Shape.arI, Arr.inF] | omega)) only [S2, Nat.reduceEqDiff, Nat.reduceAdd, iput, puts]
        refine den_loop (α := (Nat → Nat) × Bool × Nat) (fun a => [bool a.2.1, int a.2.2]) (fun a H' nx' => a.2.2 ≤ c.f.length ∧ Sw c L R0 a0 R' a.1 a.2.1 (∀ g, g < a.2.2 → CgFG c R' f g) ∧ JAt H' nx c.f.length a.1 ∧ (∀ j, j ≠ nx → H' j = hempty j) ∧ nx' = nx + 1) (fun a => c.f.length - a.2.2) (R', a0, 0) rfl ⟨Nat.zero_le _, ⟨sw.base, sw.inv, fun e => ⟨e, rfl, fun g hg => absurd hg (Nat.not_lt_zero _)⟩, sw.yes⟩, hJ2, low3, rfl⟩ ?_
        clear hJ2 low3 H2
        rintro ⟨R1, b1, g⟩ H1 n1 ⟨hg, sw1, hJ, low, rfl⟩
        simp only at hg sw1 hJ
        by_cases hlg : g < c.f.length
        · have ag : Arr c (g : Int) := Arr.of hlg
          have fin : ∀ (R3 : Nat → Nat) (b : Bool) (H' : Hp), Sw c L R0 a0 R' R3 b ((∀ g', g' < g → CgFG c R' f g') ∧ CgFG c R' f g) → JAt H' nx c.f.length R3 → (∀ j, j ≠ nx → H' j = hempty j) → ∃ a' : (Nat → Nat) × Bool × Nat, [bool b, int ((g + 1 : Nat) : Int)] = [bool a'.2.1, int a'.2.2] ∧ (a'.2.2 ≤ c.f.length ∧ Sw c L R0 a0 R' a'.1 a'.2.1 (∀ g, g < a'.2.2 → CgFG c R' f g) ∧ JAt H' nx c.f.length a'.1 ∧ ∀ j, j ≠ nx → H' j = hempty j) ∧ c.f.length - a'.2.2 < c.f.length - g := fun R3 b H' q1 q2 q3 =>
            ⟨(R3, b, g + 1), rfl, ⟨hlg, q1.to fun q g' hg' => by
              by_cases eg : g' = g
              · rw [eg]; exact q.2
              · exact q.1 g' (by simp only at hg'; omega), q2, q3⟩, by simp only; omega⟩
          have k1 := s.kI af ag
          have k2 := s.kI ag af
          try simp (disch := (first | rfl | with_reducible assumption | with_reducible solve_by_elim (maxDepth := 8) [Shape.inT, Shape.inI, Shape.inC, Shape.inK, Shape.obF, Shape.obT, Shape.arI, Arr.inF] | omega)) only [S2, Nat.reduceEqDiff, Nat.reduceAdd, iput, puts, hlg]
          refine ⟨fun hne => ?_, fun heq => ?_⟩
          · have hne : R' f ≠ f := fun e => by rw [e] at hne; exact hne rfl
            repeat (first | simp (disch := (first | rfl | with_reducible assumption | with_reducible solve_by_elim (maxDepth := 8) [Shape.inT, Shape.inI, Shape.inC, Shape.inK, Shape.obF, Shape.obT, Shape.arI, Arr.inF] | omega)) only [S2, Nat.reduceEqDiff, Nat.reduceAdd, iput, puts] | (refine den_call rfl (by first | (simp only [SS, Nat.reduceEqDiff, Nat.reduceAdd, iput, puts, FF, frzL_cat]; done) | (simp only [SS, Nat.reduceEqDiff, Nat.reduceAdd, iput, puts, FF, frzL_cat]; rfl)) (by first | exact s.fzThen hth af ag) ?_) | (refine den_calli rfl (by first | (simp only [SS, Nat.reduceEqDiff, Nat.reduceAdd, iput, puts, FF, frzL_cat]; done) | (simp only [SS, Nat.reduceEqDiff, Nat.reduceAdd, iput, puts, FF, frzL_cat]; rfl)) (by first | exact s.fzThen hth af ag) ?_))
            refine ⟨fun p1 => ?_, fun p1 => ?_⟩
            · have e1 := k1.1 p1
              have er : c.T (R' f : Int) = c.F g := by rw [← gp.2.2]; exact e1
              obtain ⟨u1, u2, _, _⟩ := kN_ok k hlf hlg e1
              obtain ⟨v1, v2, _, _⟩ := kN_ok k hrn hlg er
              have gn := gen_mulR k hL groot hlf hlg e1
              repeat (first | simp (disch := (first | rfl | with_reducible assumption | with_reducible solve_by_elim (maxDepth := 8) [Shape.inT, Shape.inI, Shape.inC, Shape.inK, Shape.obF, Shape.obT, Shape.arI, Arr.inF] | omega)) only [S2, Nat.reduceEqDiff, Nat.reduceAdd, iput, puts] | (refine den_call rfl (by first | (simp only [SS, Nat.reduceEqDiff, Nat.reduceAdd, iput, puts, FF, frzL_cat]; done) | (simp only [SS, Nat.reduceEqDiff, Nat.reduceAdd, iput, puts, FF, frzL_cat]; rfl)) (by first | exact s.fzThen hth ar ag) ?_) | (refine den_calli rfl (by first | (simp only [SS, Nat.reduceEqDiff, Nat.reduceAdd, iput, puts, FF, frzL_cat]; done) | (simp only [SS, Nat.reduceEqDiff, Nat.reduceAdd, iput, puts, FF, frzL_cat]; rfl)) (by first | exact s.fzThen hth ar ag) ?_))
              refine den_callm (fc := (395, [])) rfl (join_ok K.root K.join nx c.f.length R1 H1 _ hJ _ _ _ _ u2.symm v2.symm u1 v1) (hJ.joinSome u1 v1) fun u H2 n2 hu => ?_
              obtain ⟨rfl, rfl, hJ2, q2⟩ := hu
              have low2 : ∀ j, j ≠ nx → H2 j = hempty j := fun j hj => by rw [q2 j hj]; exact low j hj
              try simp (disch := (first | rfl | with_reducible assumption | with_reducible solve_by_elim (maxDepth := 8) [Shape.inT, Shape.inI, Shape.inC, Shape.inK, Shape.obF, Shape.obT, Shape.arI, Arr.inF] | omega)) only [S2, Nat.reduceEqDiff, Nat.reduceAdd, iput, puts]
              refine ⟨fun d1 => ?_, fun d1 => ?_⟩
              · have d1 : R1 (kN c f g) ≠ R1 (kN c (R' f) g) := fun e => d1 (by rw [e])
                have sw2 := sw1.joinT (ψ := (∀ g', g' < g → CgFG c R' f g') ∧ (c.T f = c.F g → R' (kN c f g) = R' (kN c (R' f) g))) hJ.le hJ.idem u1 v1 gn d1
                repeat (first | simp (disch := (first | rfl | with_reducible assumption | with_reducible solve_by_elim (maxDepth := 8) [Shape.inT, Shape.inI, Shape.inC, Shape.inK, Shape.obF, Shape.obT, Shape.arI, Arr.inF] | omega)) only [S2, Nat.reduceEqDiff, Nat.reduceAdd, iput, puts] | (refine den_call rfl (by first | (simp only [SS, Nat.reduceEqDiff, Nat.reduceAdd, iput, puts, FF, frzL_cat]; done) | (simp only [SS, Nat.reduceEqDiff, Nat.reduceAdd, iput, puts, FF, frzL_cat]; rfl)) (by first | exact s.fzThen hth ag af) ?_) | (refine den_calli rfl (by first | (simp only [SS, Nat.reduceEqDiff, Nat.reduceAdd, iput, puts, FF, frzL_cat]; done) | (simp only [SS, Nat.reduceEqDiff, Nat.reduceAdd, iput, puts, FF, frzL_cat]; rfl)) (by first | exact s.fzThen hth ag af) ?_))
                refine ⟨fun p2 => ?_, fun p2 => ?_⟩
                · have e2 := k2.1 p2
                  have er2 : c.T g = c.F (R' f : Int) := by rw [← gp.2.1]; exact e2
                  obtain ⟨u1, u2, _, _⟩ := kN_ok k hlg hlf e2
                  obtain ⟨v1, v2, _, _⟩ := kN_ok k hlg hrn er2
                  have gn := gen_mulL k hL groot hlf hlg e2
                  repeat (first | simp (disch := (first | rfl | with_reducible assumption | with_reducible solve_by_elim (maxDepth := 8) [Shape.inT, Shape.inI, Shape.inC, Shape.inK, Shape.obF, Shape.obT, Shape.arI, Arr.inF] | omega)) only [S2, Nat.reduceEqDiff, Nat.reduceAdd, iput, puts] | (refine den_call rfl (by first | (simp only [SS, Nat.reduceEqDiff, Nat.reduceAdd, iput, puts, FF, frzL_cat]; done) | (simp only [SS, Nat.reduceEqDiff, Nat.reduceAdd, iput, puts, FF, frzL_cat]; rfl)) (by first | exact s.fzThen hth ag ar) ?_) | (refine den_calli rfl (by first | (simp only [SS, Nat.reduceEqDiff, Nat.reduceAdd, iput, puts, FF, frzL_cat]; done) | (simp only [SS, Nat.reduceEqDiff, Nat.reduceAdd, iput, puts, FF, frzL_cat]; rfl)) (by first | exact s.fzThen hth ag ar) ?_))
                  refine den_callm (fc := (395, [])) rfl (join_ok K.root K.join nx c.f.length (joinR R1 (kN c f g) (kN c (R' f) g)) H2 _ hJ2 _ _ _ _ u2.symm v2.symm u1 v1) (hJ2.joinSome u1 v1) fun u H3 n3 hu => ?_
                  obtain ⟨rfl, rfl, hJ3, q3⟩ := hu
                  have low3 : ∀ j, j ≠ nx → H3 j = hempty j := fun j hj => by rw [q3 j hj]; exact low2 j hj
                  try simp (disch := (first | rfl | with_reducible assumption | with_reducible solve_by_elim (maxDepth := 8) [Shape.inT, Shape.inI, Shape.inC, Shape.inK, Shape.obF, Shape.obT, Shape.arI, Arr.inF] | omega)) only [S2, Nat.reduceEqDiff, Nat.reduceAdd, iput, puts]
                  refine ⟨fun d2 => ?_, fun d2 => ?_⟩
                  · have d2 : (joinR R1 (kN c f g) (kN c (R' f) g)) (kN c g f) ≠ (joinR R1 (kN c f g) (kN c (R' f) g)) (kN c g (R' f)) := fun e => d2 (by rw [e])
                    have sw3 := sw2.joinT (ψ := (∀ g', g' < g → CgFG c R' f g') ∧ CgFG c R' f g) hJ2.le hJ2.idem u1 v1 gn d2
                    try simp (disch := (first | rfl | with_reducible assumption | with_reducible solve_by_elim (maxDepth := 8) [Shape.inT, Shape.inI, Shape.inC, Shape.inK, Shape.obF, Shape.obT, Shape.arI, Arr.inF] | omega)) only [S2, Nat.reduceEqDiff, Nat.reduceAdd, iput, puts]
                    exact fin (joinR (joinR R1 (kN c f g) (kN c (R' f) g)) (kN c g f) (kN c g (R' f))) true H3 sw3 hJ3 low3
                  · have d2 : (joinR R1 (kN c f g) (kN c (R' f) g)) (kN c g f) = (joinR R1 (kN c f g) (kN c (R' f) g)) (kN c g (R' f)) := by simpa using d2
                    have sw3 := (sw2.joinF gn d2).to (ψ := (∀ g', g' < g → CgFG c R' f g') ∧ CgFG c R' f g) fun q => ⟨q.1.1, q.1.2, fun _ => q.2⟩
                    try simp (disch := (first | rfl | with_reducible assumption | with_reducible solve_by_elim (maxDepth := 8) [Shape.inT, Shape.inI, Shape.inC, Shape.inK, Shape.obF, Shape.obT, Shape.arI, Arr.inF] | omega)) only [S2, Nat.reduceEqDiff, Nat.reduceAdd, iput, puts]
                    exact fin (joinR (joinR R1 (kN c f g) (kN c (R' f) g)) (kN c g f) (kN c g (R' f))) true H3 sw3 hJ3 low3
                · have e2 : ¬ c.T g = c.F f := fun e => p2 (k2.2 e)
                  have sw3 := sw2.to (ψ := (∀ g', g' < g → CgFG c R' f g') ∧ CgFG c R' f g) fun q => ⟨q.1, q.2, fun e => absurd e e2⟩
                  try simp (disch := (first | rfl | with_reducible assumption | with_reducible solve_by_elim (maxDepth := 8) [Shape.inT, Shape.inI, Shape.inC, Shape.inK, Shape.obF, Shape.obT, Shape.arI, Arr.inF] | omega)) only [S2, Nat.reduceEqDiff, Nat.reduceAdd, iput, puts]
                  exact fin (joinR R1 (kN c f g) (kN c (R' f) g)) true H2 sw3 hJ2 low2
              · have d1 : R1 (kN c f g) = R1 (kN c (R' f) g) := by simpa using d1
                have sw2 := (sw1.joinF gn d1).to (ψ := (∀ g', g' < g → CgFG c R' f g') ∧ (c.T f = c.F g → R' (kN c f g) = R' (kN c (R' f) g))) fun q => ⟨q.1, fun _ => q.2⟩
                repeat (first | simp (disch := (first | rfl | with_reducible assumption | with_reducible solve_by_elim (maxDepth := 8) [Shape.inT, Shape.inI, Shape.inC, Shape.inK, Shape.obF, Shape.obT, Shape.arI, Arr.inF] | omega)) only [S2, Nat.reduceEqDiff, Nat.reduceAdd, iput, puts] | (refine den_call rfl (by first | (simp only [SS, Nat.reduceEqDiff, Nat.reduceAdd, iput, puts, FF, frzL_cat]; done) | (simp only [SS, Nat.reduceEqDiff, Nat.reduceAdd, iput, puts, FF, frzL_cat]; rfl)) (by first | exact s.fzThen hth ag af) ?_) | (refine den_calli rfl (by first | (simp only [SS, Nat.reduceEqDiff, Nat.reduceAdd, iput, puts, FF, frzL_cat]; done) | (simp only [SS, Nat.reduceEqDiff, Nat.reduceAdd, iput, puts, FF, frzL_cat]; rfl)) (by first | exact s.fzThen hth ag af) ?_))
                refine ⟨fun p2 => ?_, fun p2 => ?_⟩
                · have e2 := k2.1 p2
                  have er2 : c.T g = c.F (R' f : Int) := by rw [← gp.2.1]; exact e2
                  obtain ⟨u1, u2, _, _⟩ := kN_ok k hlg hlf e2
                  obtain ⟨v1, v2, _, _⟩ := kN_ok k hlg hrn er2
                  have gn := gen_mulL k hL groot hlf hlg e2
                  repeat (first | simp (disch := (first | rfl | with_reducible assumption | with_reducible solve_by_elim (maxDepth := 8) [Shape.inT, Shape.inI, Shape.inC, Shape.inK, Shape.obF, Shape.obT, Shape.arI, Arr.inF] | omega)) only [S2, Nat.reduceEqDiff, Nat.reduceAdd, iput, puts] | (refine den_call rfl (by first | (simp only [SS, Nat.reduceEqDiff, Nat.reduceAdd, iput, puts, FF, frzL_cat]; done) | (simp only [SS, Nat.reduceEqDiff, Nat.reduceAdd, iput, puts, FF, frzL_cat]; rfl)) (by first | exact s.fzThen hth ag ar) ?_) | (refine den_calli rfl (by first | (simp only [SS, Nat.reduceEqDiff, Nat.reduceAdd, iput, puts, FF, frzL_cat]; done) | (simp only [SS, Nat.reduceEqDiff, Nat.reduceAdd, iput, puts, FF, frzL_cat]; rfl)) (by first | exact s.fzThen hth ag ar) ?_))
                  refine den_callm (fc := (395, [])) rfl (join_ok K.root K.join nx c.f.length (joinR R1 (kN c f g) (kN c (R' f) g)) H2 _ hJ2 _ _ _ _ u2.symm v2.symm u1 v1) (hJ2.joinSome u1 v1) fun u H3 n3 hu => ?_
                  obtain ⟨rfl, rfl, hJ3, q3⟩ := hu
                  have low3 : ∀ j, j ≠ nx → H3 j = hempty j := fun j hj => by rw [q3 j hj]; exact low2 j hj
                  try simp (disch := (first | rfl | with_reducible assumption | with_reducible solve_by_elim (maxDepth := 8) [Shape.inT, Shape.inI, Shape.inC, Shape.inK, Shape.obF, Shape.obT, Shape.arI, Arr.inF] | omega)) only [S2, Nat.reduceEqDiff, Nat.reduceAdd, iput, puts]
                  refine ⟨fun d2 => ?_, fun d2 => ?_⟩
                  · have d2 : (joinR R1 (kN c f g) (kN c (R' f) g)) (kN c g f) ≠ (joinR R1 (kN c f g) (kN c (R' f) g)) (kN c g (R' f)) := fun e => d2 (by rw [e])
                    have sw3 := sw2.joinT (ψ := (∀ g', g' < g → CgFG c R' f g') ∧ CgFG c R' f g) hJ2.le hJ2.idem u1 v1 gn d2
                    try simp (disch := (first | rfl | with_reducible assumption | with_reducible solve_by_elim (maxDepth := 8) [Shape.inT, Shape.inI, Shape.inC, Shape.inK, Shape.obF, Shape.obT, Shape.arI, Arr.inF] | omega)) only [S2, Nat.reduceEqDiff, Nat.reduceAdd, iput, puts]
                    exact fin (joinR (joinR R1 (kN c f g) (kN c (R' f) g)) (kN c g f) (kN c g (R' f))) true H3 sw3 hJ3 low3
                  · have d2 : (joinR R1 (kN c f g) (kN c (R' f) g)) (kN c g f) = (joinR R1 (kN c f g) (kN c (R' f) g)) (kN c g (R' f)) := by simpa using d2
                    have sw3 := (sw2.joinF gn d2).to (ψ := (∀ g', g' < g → CgFG c R' f g') ∧ CgFG c R' f g) fun q => ⟨q.1.1, q.1.2, fun _ => q.2⟩
                    try simp (disch := (first | rfl | with_reducible assumption | with_reducible solve_by_elim (maxDepth := 8) [Shape.inT, Shape.inI, Shape.inC, Shape.inK, Shape.obF, Shape.obT, Shape.arI, Arr.inF] | omega)) only [S2, Nat.reduceEqDiff, Nat.reduceAdd, iput, puts]
                    exact fin (joinR (joinR R1 (kN c f g) (kN c (R' f) g)) (kN c g f) (kN c g (R' f))) b1 H3 sw3 hJ3 low3
                · have e2 : ¬ c.T g = c.F f := fun e => p2 (k2.2 e)
                  have sw3 := sw2.to (ψ := (∀ g', g' < g → CgFG c R' f g') ∧ CgFG c R' f g) fun q => ⟨q.1, q.2, fun e => absurd e e2⟩
                  try simp (disch := (first | rfl | with_reducible assumption | with_reducible solve_by_elim (maxDepth := 8) [Shape.inT, Shape.inI, Shape.inC, Shape.inK, Shape.obF, Shape.obT, Shape.arI, Arr.inF] | omega)) only [S2, Nat.reduceEqDiff, Nat.reduceAdd, iput, puts]
                  exact fin (joinR R1 (kN c f g) (kN c (R' f) g)) b1 H2 sw3 hJ2 low2
            · have e1 : ¬ c.T f = c.F g := fun e => p1 (k1.2 e)
              have sw2 := sw1.to (ψ := (∀ g', g' < g → CgFG c R' f g') ∧ (c.T f = c.F g → R' (kN c f g) = R' (kN c (R' f) g))) fun q => ⟨q, fun e => absurd e e1⟩
              repeat (first | simp (disch := (first | rfl | with_reducible assumption | with_reducible solve_by_elim (maxDepth := 8) [Shape.inT, Shape.inI, Shape.inC, Shape.inK, Shape.obF, Shape.obT, Shape.arI, Arr.inF] | omega)) only [S2, Nat.reduceEqDiff, Nat.reduceAdd, iput, puts] | (refine den_call rfl (by first | (simp only [SS, Nat.reduceEqDiff, Nat.reduceAdd, iput, puts, FF, frzL_cat]; done) | (simp only [SS, Nat.reduceEqDiff, Nat.reduceAdd, iput, puts, FF, frzL_cat]; rfl)) (by first | exact s.fzThen hth ag af) ?_) | (refine den_calli rfl (by first | (simp only [SS, Nat.reduceEqDiff, Nat.reduceAdd, iput, puts, FF, frzL_cat]; done) | (simp only [SS, Nat.reduceEqDiff, Nat.reduceAdd, iput, puts, FF, frzL_cat]; rfl)) (by first | exact s.fzThen hth ag af) ?_))
              refine ⟨fun p2 => ?_, fun p2 => ?_⟩
              · have e2 := k2.1 p2
                have er2 : c.T g = c.F (R' f : Int) := by rw [← gp.2.1]; exact e2
                obtain ⟨u1, u2, _, _⟩ := kN_ok k hlg hlf e2
                obtain ⟨v1, v2, _, _⟩ := kN_ok k hlg hrn er2
                have gn := gen_mulL k hL groot hlf hlg e2
                repeat (first | simp (disch := (first | rfl | with_reducible assumption | with_reducible solve_by_elim (maxDepth := 8) [Shape.inT, Shape.inI, Shape.inC, Shape.inK, Shape.obF, Shape.obT, Shape.arI, Arr.inF] | omega)) only [S2, Nat.reduceEqDiff, Nat.reduceAdd, iput, puts] | (refine den_call rfl (by first | (simp only [SS, Nat.reduceEqDiff, Nat.reduceAdd, iput, puts, FF, frzL_cat]; done) | (simp only [SS, Nat.reduceEqDiff, Nat.reduceAdd, iput, puts, FF, frzL_cat]; rfl)) (by first | exact s.fzThen hth ag ar) ?_) | (refine den_calli rfl (by first | (simp only [SS, Nat.reduceEqDiff, Nat.reduceAdd, iput, puts, FF, frzL_cat]; done) | (simp only [SS, Nat.reduceEqDiff, Nat.reduceAdd, iput, puts, FF, frzL_cat]; rfl)) (by first | exact s.fzThen hth ag ar) ?_))
                refine den_callm (fc := (395, [])) rfl (join_ok K.root K.join nx c.f.length R1 H1 _ hJ _ _ _ _ u2.symm v2.symm u1 v1) (hJ.joinSome u1 v1) fun u H3 n3 hu => ?_
                obtain ⟨rfl, rfl, hJ3, q3⟩ := hu
                have low3 : ∀ j, j ≠ nx → H3 j = hempty j := fun j hj => by rw [q3 j hj]; exact low j hj
                try simp (disch := (first | rfl | with_reducible assumption | with_reducible solve_by_elim (maxDepth := 8) [Shape.inT, Shape.inI, Shape.inC, Shape.inK, Shape.obF, Shape.obT, Shape.arI, Arr.inF] | omega)) only [S2, Nat.reduceEqDiff, Nat.reduceAdd, iput, puts]
                refine ⟨fun d2 => ?_, fun d2 => ?_⟩
                · have d2 : R1 (kN c g f) ≠ R1 (kN c g (R' f)) := fun e => d2 (by rw [e])
                  have sw3 := sw2.joinT (ψ := (∀ g', g' < g → CgFG c R' f g') ∧ CgFG c R' f g) hJ.le hJ.idem u1 v1 gn d2
                  try simp (disch := (first | rfl | with_reducible assumption | with_reducible solve_by_elim (maxDepth := 8) [Shape.inT, Shape.inI, Shape.inC, Shape.inK, Shape.obF, Shape.obT, Shape.arI, Arr.inF] | omega)) only [S2, Nat.reduceEqDiff, Nat.reduceAdd, iput, puts]
                  exact fin (joinR R1 (kN c g f) (kN c g (R' f))) true H3 sw3 hJ3 low3
                · have d2 : R1 (kN c g f) = R1 (kN c g (R' f)) := by simpa using d2
                  have sw3 := (sw2.joinF gn d2).to (ψ := (∀ g', g' < g → CgFG c R' f g') ∧ CgFG c R' f g) fun q => ⟨q.1.1, q.1.2, fun _ => q.2⟩
                  try simp (disch := (first | rfl | with_reducible assumption | with_reducible solve_by_elim (maxDepth := 8) [Shape.inT, Shape.inI, Shape.inC, Shape.inK, Shape.obF, Shape.obT, Shape.arI, Arr.inF] | omega)) only [S2, Nat.reduceEqDiff, Nat.reduceAdd, iput, puts]
                  exact fin (joinR R1 (kN c g f) (kN c g (R' f))) b1 H3 sw3 hJ3 low3
              · have e2 : ¬ c.T g = c.F f := fun e => p2 (k2.2 e)
                have sw3 := sw2.to (ψ := (∀ g', g' < g → CgFG c R' f g') ∧ CgFG c R' f g) fun q => ⟨q.1, q.2, fun e => absurd e e2⟩
                try simp (disch := (first | rfl | with_reducible assumption | with_reducible solve_by_elim (maxDepth := 8) [Shape.inT, Shape.inI, Shape.inC, Shape.inK, Shape.obF, Shape.obT, Shape.arI, Arr.inF] | omega)) only [S2, Nat.reduceEqDiff, Nat.reduceAdd, iput, puts]
                exact fin R1 b1 H1 sw3 hJ low
          · have heq : R' f = f := by
              have h0 : ((R' f : Nat) : Int) = (f : Int) := by simpa using heq
              omega
            try simp (disch := (first | rfl | with_reducible assumption | with_reducible solve_by_elim (maxDepth := 8) [Shape.inT, Shape.inI, Shape.inC, Shape.inK, Shape.obF, Shape.obT, Shape.arI, Arr.inF] | omega)) only [S2, Nat.reduceEqDiff, Nat.reduceAdd, iput, puts]
            exact next R1 b1 H1 (sw1.to fun _ => CgF.root heq) hJ low
        · try simp (disch := (first | rfl | with_reducible assumption | with_reducible solve_by_elim (maxDepth := 8) [Shape.inT, Shape.inI, Shape.inC, Shape.inK, Shape.obF, Shape.obT, Shape.arI, Arr.inF] | omega)) only [S2, Nat.reduceEqDiff, Nat.reduceAdd, iput, puts, hlg]
          exact next R1 b1 H1 (sw1.to fun q g' hg' => q g' (by omega)) hJ low
      · try simp (disch := (first | rfl | with_reducible assumption | with_reducible solve_by_elim (maxDepth := 8) [Shape.inT, Shape.inI, Shape.inC, Shape.inK, Shape.obF, Shape.obT, Shape.arI, Arr.inF] | omega)) only [S2, Nat.reduceEqDiff, Nat.reduceAdd, iput, puts, hlf]
        have hfe : f = c.f.length := by omega
        subst hfe
        refine ⟨(R', a0), rfl, ⟨sw.inv, hJ, low, fun e => (sw.no e).2.2⟩, ?_⟩
        simp only
        cases a0 with
        | false => simp; omega
        | true => have := sw.yes rfl; simp; omega
end Go.Av
