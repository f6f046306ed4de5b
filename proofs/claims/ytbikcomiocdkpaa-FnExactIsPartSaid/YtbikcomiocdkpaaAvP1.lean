/-
  Parts of a set functor: both sides.
-/
import Derived.Test.YtbikcomiocdkpaaAvC3
import Derived.Test.YtbikcomiocdkpaaAvB10
import Derived.Test.YtbikcomiocdkpaaAvM1
import Derived.Test.YtbikcomiocdkpaaAvK0
namespace Go.Av
open Classical
set_option linter.unusedSimpArgs false
set_option linter.unusedVariables false
variable {P : Program} {ν : Nat → FuncId}

structure PartOk (f : SF) (M : List (List Int)) : Prop where
  len : M.length = f.z.length
  row : ∀ x : Nat, x < M.length → Rising (gR M x) ∧ Wn (gR M x) (gI f.z x)
  act : ∀ a : Nat, a < f.a.length → ∀ e : Nat, e < (gR M (f.c.F a)).length → gI (gR f.a a) (gI (gR M (f.c.F a)) e) ∈ gR M (f.c.T a)
structure SmallP (M : List (List Int)) : Prop where
  len : M.length ≤ 1048576
  row : ∀ x : Nat, x < M.length → (gR M x).length ≤ 1048576
theorem SmallP.at {M : List (List Int)} (b : SmallP M) (x : Int) : (gR M x).length ≤ 1048576 := by
  by_cases h : x.toNat < M.length
  · have := b.row x.toNat h
    exact this
  · unfold gR
    simp [List.getD, List.getElem?_eq_none (show M.length ≤ x.toNat by omega)]
theorem SSF (f : SF) : f.cells[0]? = some (int f.c.o) ∧ f.cells[1]? = some (islice f.c.f) ∧ f.cells[2]? = some (islice f.c.t) ∧ f.cells[3]? = some (islice f.c.i) ∧ f.cells[4]? = some (.sl (rows f.c.c) f.c.c.length) ∧ f.cells[5]? = some (islice f.z) ∧ f.cells[6]? = some (.sl (rows f.a) f.a.length) := ⟨rfl, rfl, rfl, rfl, rfl, rfl, rfl⟩
theorem p_boxPt {H : Hp} {c : List AV} {n : Nat} : pvf H .box [.agg [.sl c n]] = some (.ptr [.sl c n] 0) := rfl
theorem p_ldPt {v : AV} : ([v] : List AV)[0]? = some v := rfl
section
variable {f : SF} {M : List (List Int)} (s : SShape f) (hl : M.length = f.z.length)
include s hl
theorem inMF {a : Nat} (h : a < f.a.length) : InR M (f.c.F a) := by
  have sh := s.cat.1
  have ar : Arr f.c a := ⟨by omega, by have := s.al; omega⟩
  obtain ⟨f0, f1⟩ := sh.obF ar
  exact ⟨f0, by have := s.zl; omega⟩
theorem inMT {a : Nat} (h : a < f.a.length) : InR M (f.c.T a) := by
  have sh := s.cat.1
  have ar : Arr f.c a := ⟨by omega, by have := s.al; omega⟩
  obtain ⟨f0, f1⟩ := sh.obT ar
  exact ⟨f0, by have := s.zl; omega⟩
theorem inAct (hr : ∀ x : Nat, x < M.length → Rising (gR M x) ∧ Wn (gR M x) (gI f.z x)) {a e : Nat} (h : a < f.a.length) (he : e < (gR M (f.c.F a)).length) : In (gR f.a a) (gI (gR M (f.c.F a)) e) := by
  have i := inMF s hl h
  have i0 := i.lo
  have i1 := i.hi
  have w := (hr (f.c.F a).toNat (by omega)).2
  have ef : (((f.c.F a).toNat : Nat) : Int) = f.c.F a := by omega
  rw [ef] at w
  have w2 := w e he
  have al := s.al
  have ll := s.len (k := a) (by omega)
  have g1 : gR f.a (a : Int) = f.a.getD a [] := rfl
  have g2 : gI f.z (f.c.F a) = f.z.getD (f.c.f.getD a 0).toNat 0 := rfl
  have g3 : gI (gR M (f.c.F a)) (e : Int) = (gR M (f.c.F a)).getD e 0 := rfl
  rw [g2] at w2
  exact ⟨by rw [g3]; exact w2.1, by rw [g1, g3, ll]; exact w2.2⟩
end
def V_SetFunctor_isPart : Vc :=
  .op true (.p .box [.t 1]) <|
  .op true (.p (.fad 0) [.t 2]) <|
  .op true (.p (.ld none) [.t 3]) <|
  .op true (.p .len [.t 4]) <|
  .op true (.p .nck [.t 0]) <|
  .op true (.p (.fad 5) [.t 6]) <|
  .op true (.p (.ld none) [.t 7]) <|
  .op true (.p .len [.t 8]) <|
  .op true (.p (.bin .neq) [.t 5, .t 9]) <|
  .br 10
   (.ret [(.c (bool false), none)])
   (.op true (.p (.fad 0) [.t 2]) <|
   .op true (.p (.ld none) [.t 11]) <|
   .op true (.p .len [.t 12]) <|
   .loop 0 [.c (int 0)] <|
   .op true (.p (.bin .lss) [.t 14, .t 13]) <|
   .br 15
    (.op true (.p (.iad 1) [.t 12, .t 14]) <|
    .op true (.p (.ld none) [.t 16]) <|
    .op true (.call (.f 368) [.t 17]) <|
    .op true (.p .bnot [.t 18]) <|
    .br 19
     (.ret [(.c (bool false), none)])
     (.op true (.p .nck [.t 0]) <|
     .op true (.p (.fad 5) [.t 20]) <|
     .op true (.p (.ld none) [.t 21]) <|
     .op true (.p (.iad 1) [.t 22, .t 14]) <|
     .op true (.p (.ld none) [.t 23]) <|
     .op true (.call (.f 25) [.t 17, .t 24]) <|
     .op true (.p .bnot [.t 25]) <|
     .br 26
      (.ret [(.c (bool false), none)])
      (.op true (.p (.bin .add) [.t 14, .c (int 1)]) <|
      .again 0 [.t 27])))
    (.op true (.p .nck [.t 0]) <|
    .op true (.p (.fad 6) [.t 16]) <|
    .op true (.p (.ld none) [.t 17]) <|
    .op true (.p .len [.t 18]) <|
    .loop 0 [.c (int 0)] <|
    .op true (.p (.bin .lss) [.t 20, .t 19]) <|
    .br 21
     (.op true (.p (.iad 1) [.t 18, .t 20]) <|
     .op true (.p (.ld none) [.t 22]) <|
     .op true (.p (.fad 0) [.t 2]) <|
     .op true (.p (.ld none) [.t 24]) <|
     .op true (.p .nck [.t 0]) <|
     .op true (.p (.fad 0) [.t 26]) <|
     .op true (.p (.fad 1) [.t 27]) <|
     .op true (.p (.ld none) [.t 28]) <|
     .op true (.p (.iad 1) [.t 29, .t 20]) <|
     .op true (.p (.ld none) [.t 30]) <|
     .op true (.p (.iad 1) [.t 25, .t 31]) <|
     .op true (.p (.ld none) [.t 32]) <|
     .op true (.p .len [.t 33]) <|
     .loop 1 [.c (int 0)] <|
     .op true (.p (.bin .lss) [.t 35, .t 34]) <|
     .br 36
      (.op true (.p (.iad 1) [.t 33, .t 35]) <|
      .op true (.p (.ld none) [.t 37]) <|
      .op true (.p (.fad 0) [.t 2]) <|
      .op true (.p (.ld none) [.t 39]) <|
      .op true (.p .nck [.t 0]) <|
      .op true (.p (.fad 0) [.t 41]) <|
      .op true (.p (.fad 2) [.t 42]) <|
      .op true (.p (.ld none) [.t 43]) <|
      .op true (.p (.iad 1) [.t 44, .t 20]) <|
      .op true (.p (.ld none) [.t 45]) <|
      .op true (.p (.iad 1) [.t 40, .t 46]) <|
      .op true (.p (.ld none) [.t 47]) <|
      .op true (.p (.iad 1) [.t 23, .t 38]) <|
      .op true (.p (.ld none) [.t 49]) <|
      .op true (.call (.f 413) [.t 48, .t 50]) <|
      .op true (.p .bnot [.t 51]) <|
      .br 52
       (.ret [(.c (bool false), none)])
       (.op true (.p (.bin .add) [.t 35, .c (int 1)]) <|
       .again 1 [.t 53]))
      (.op true (.p (.bin .add) [.t 20, .c (int 1)]) <|
      .again 0 [.t 37]))
     (.ret [(.c (bool true), none)])))
set_option maxHeartbeats 2000000 in
theorem isPart_fz (hin : Has P ν 32 3 V_inRange) (hw : Has P ν 25 2 V_within) (hri : Has P ν 368 1 V_rising) (hha : Has P ν 413 2 V_has) (h : Has P ν 422 2 V_SetFunctor_isPart) (f : SF) (s : SShape f) (M : List (List Int)) (b : SmallP M) : Fz (OkM P ν) 422 [.ptr f.cells 0, .agg [.sl (rows M) M.length]] (bool (decide (PartOk f M))) := by
  refine Fn.fzb fun H nx => h _ _ _ _ rfl fun hwf => ?_
  unfold V_SetFunctor_isPart
  have bl := b.len
  have sh := s.cat.1
  have al := s.al
  have n40 := sh.n40
  have tl := sh.tl
  try simp (disch := (first | rfl | with_reducible assumption | with_reducible solve_by_elim (maxDepth := 8) [Shape.inT, Shape.inI, Shape.inC, Shape.inK, Shape.obF, Shape.obT, Shape.arI, Arr.inF] | omega)) only [S2, Nat.reduceEqDiff, Nat.reduceAdd, iput, puts, p_boxPt, p_ldPt, SSF f]
  refine ⟨fun e => ?_, fun e => ?_⟩
  · exact ⟨_, rfl, H, fun _ _ h => h, ret_false (fun q => e (by have := q.len; omega)), rfl, Nat.le_refl _⟩
  have hl : M.length = f.z.length := by omega
  try simp (disch := (first | rfl | with_reducible assumption | with_reducible solve_by_elim (maxDepth := 8) [Shape.inT, Shape.inI, Shape.inC, Shape.inK, Shape.obF, Shape.obT, Shape.arI, Arr.inF] | omega)) only [S2, Nat.reduceEqDiff, Nat.reduceAdd, iput, puts, p_boxPt, p_ldPt, SSF f]
  refine den_for M.length (fun i => ∀ x : Nat, x < i → Rising (gR M x) ∧ Wn (gR M x) (gI f.z x)) (fun x hx => by omega) fun i hi hp => ?_
  by_cases hlt : i < M.length
  · have iR : InR M (i : Int) := InR.nat hlt
    have iz : In f.z (i : Int) := In.nat (by omega)
    have zw := s.zw i (by omega)
    have gz : gI f.z (i : Int) = f.z.getD i 0 := rfl
    repeat (first | simp (disch := (first | rfl | with_reducible assumption | with_reducible solve_by_elim (maxDepth := 8) [Shape.inT, Shape.inI, Shape.inC, Shape.inK, Shape.obF, Shape.obT, Shape.arI, Arr.inF] | omega)) only [S2, Nat.reduceEqDiff, Nat.reduceAdd, iput, puts, SSF f, hlt] | (refine den_call rfl (by first | (simp only [SS, Nat.reduceEqDiff, Nat.reduceAdd, iput, puts, FF, frzL_cat]; done) | (simp only [SS, Nat.reduceEqDiff, Nat.reduceAdd, iput, puts, FF, frzL_cat]; rfl)) (by first | exact (rising_ok hri (gR M i) (b.at _)).fzb) ?_) | (refine den_calli rfl (by first | (simp only [SS, Nat.reduceEqDiff, Nat.reduceAdd, iput, puts, FF, frzL_cat]; done) | (simp only [SS, Nat.reduceEqDiff, Nat.reduceAdd, iput, puts, FF, frzL_cat]; rfl)) (by first | exact (rising_ok hri (gR M i) (b.at _)).fzb) ?_))
    refine ⟨fun e1 => ?_, fun e1 => ?_⟩
    · exact ⟨_, rfl, H, fun _ _ h => h, ret_false (fun q => e1 (q.row i hlt).1), rfl, Nat.le_refl _⟩
    have bi := b.at i
    repeat (first | simp (disch := (first | rfl | with_reducible assumption | with_reducible solve_by_elim (maxDepth := 8) [Shape.inT, Shape.inI, Shape.inC, Shape.inK, Shape.obF, Shape.obT, Shape.arI, Arr.inF] | omega)) only [S2, Nat.reduceEqDiff, Nat.reduceAdd, iput, puts, SSF f] | (refine den_call rfl (by first | (simp only [SS, Nat.reduceEqDiff, Nat.reduceAdd, iput, puts, FF, frzL_cat]; done) | (simp only [SS, Nat.reduceEqDiff, Nat.reduceAdd, iput, puts, FF, frzL_cat]; rfl)) (by first | exact (within_ok hin hw (gR M i) (gI f.z i) (by omega) (by omega) (by omega)).fzb) ?_) | (refine den_calli rfl (by first | (simp only [SS, Nat.reduceEqDiff, Nat.reduceAdd, iput, puts, FF, frzL_cat]; done) | (simp only [SS, Nat.reduceEqDiff, Nat.reduceAdd, iput, puts, FF, frzL_cat]; rfl)) (by first | exact (within_ok hin hw (gR M i) (gI f.z i) (by omega) (by omega) (by omega)).fzb) ?_))
    refine ⟨fun e2 => ?_, fun e2 => ?_⟩
    · exact ⟨_, rfl, H, fun _ _ h => h, ret_false (fun q => e2 (q.row i hlt).2), rfl, Nat.le_refl _⟩
    · try simp (disch := (first | rfl | with_reducible assumption | with_reducible solve_by_elim (maxDepth := 8) [Shape.inT, Shape.inI, Shape.inC, Shape.inK, Shape.obF, Shape.obT, Shape.arI, Arr.inF] | omega)) only [S2, Nat.reduceEqDiff, Nat.reduceAdd, iput, puts]
      refine up rfl hlt fun x hx => ?_
      by_cases ex : x = i
      · rw [ex]; exact ⟨e1, e2⟩
      · exact hp x (by omega)
  · have hr : ∀ x : Nat, x < M.length → Rising (gR M x) ∧ Wn (gR M x) (gI f.z x) := fun x hx => hp x (by omega)
    try simp (disch := (first | rfl | with_reducible assumption | with_reducible solve_by_elim (maxDepth := 8) [Shape.inT, Shape.inI, Shape.inC, Shape.inK, Shape.obF, Shape.obT, Shape.arI, Arr.inF] | omega)) only [S2, Nat.reduceEqDiff, Nat.reduceAdd, iput, puts, hlt, SSF f]
    refine den_for f.a.length (fun i => ∀ a : Nat, a < i → ∀ e : Nat, e < (gR M (f.c.F a)).length → gI (gR f.a a) (gI (gR M (f.c.F a)) e) ∈ gR M (f.c.T a)) (fun x hx => by omega) fun a ha hq => ?_
    by_cases hla : a < f.a.length
    · have i1 : InR f.a (a : Int) := InR.nat hla
      have i2 : In f.c.f (a : Int) := In.nat (by omega)
      have i3 : In f.c.t (a : Int) := In.nat (by omega)
      have m1 := inMF s hl hla
      have m2 := inMT s hl hla
      have gF : gI f.c.f (a : Int) = f.c.F a := rfl
      have gT : gI f.c.t (a : Int) = f.c.T a := rfl
      have bF := b.at (f.c.F a)
      have bT := b.at (f.c.T a)
      try simp (disch := (first | rfl | with_reducible assumption | with_reducible solve_by_elim (maxDepth := 8) [Shape.inT, Shape.inI, Shape.inC, Shape.inK, Shape.obF, Shape.obT, Shape.arI, Arr.inF] | omega)) only [S2, Nat.reduceEqDiff, Nat.reduceAdd, iput, puts, SSF f, hla, p_ldPt, gF]
      refine den_loop (α := Nat) (fun q => [int q]) (fun q H' nx' => q ≤ (gR M (f.c.F a)).length ∧ (∀ e : Nat, e < q → gI (gR f.a a) (gI (gR M (f.c.F a)) e) ∈ gR M (f.c.T a)) ∧ H' = H ∧ nx' = nx) (fun q => (gR M (f.c.F a)).length - q) 0 rfl ⟨Nat.zero_le _, (fun e he => by omega), rfl, rfl⟩ ?_
      rintro e H2 n2 ⟨he, hall, rfl, rfl⟩
      by_cases hle : e < (gR M (f.c.F a)).length
      · have j1 : In (gR M (f.c.F a)) (e : Int) := In.nat hle
        have j2 := inAct s hl hr hla hle
        repeat (first | simp (disch := (first | rfl | with_reducible assumption | with_reducible solve_by_elim (maxDepth := 8) [Shape.inT, Shape.inI, Shape.inC, Shape.inK, Shape.obF, Shape.obT, Shape.arI, Arr.inF] | omega)) only [S2, Nat.reduceEqDiff, Nat.reduceAdd, iput, puts, SSF f, hle, p_ldPt, gT] | (refine den_call rfl (by first | (simp only [SS, Nat.reduceEqDiff, Nat.reduceAdd, iput, puts, FF, frzL_cat]; done) | (simp only [SS, Nat.reduceEqDiff, Nat.reduceAdd, iput, puts, FF, frzL_cat]; rfl)) (by first | exact has_fz hha (gR M (f.c.T a)) (gI (gR f.a a) (gI (gR M (f.c.F a)) e)) (by omega)) ?_) | (refine den_calli rfl (by first | (simp only [SS, Nat.reduceEqDiff, Nat.reduceAdd, iput, puts, FF, frzL_cat]; done) | (simp only [SS, Nat.reduceEqDiff, Nat.reduceAdd, iput, puts, FF, frzL_cat]; rfl)) (by first | exact has_fz hha (gR M (f.c.T a)) (gI (gR f.a a) (gI (gR M (f.c.F a)) e)) (by omega)) ?_))
        refine ⟨fun e1 => ?_, fun e1 => ?_⟩
        · exact ⟨_, rfl, H2, fun _ _ h => h, ret_false (fun q => e1 (q.act a hla e hle)), rfl, Nat.le_refl _⟩
        · try simp (disch := (first | rfl | with_reducible assumption | with_reducible solve_by_elim (maxDepth := 8) [Shape.inT, Shape.inI, Shape.inC, Shape.inK, Shape.obF, Shape.obT, Shape.arI, Arr.inF] | omega)) only [S2, Nat.reduceEqDiff, Nat.reduceAdd, iput, puts]
          refine ⟨e + 1, rfl, ⟨by omega, fun x hx => ?_⟩, by omega⟩
          by_cases ex : x = e
          · rw [ex]; exact e1
          · exact hall x (by omega)
      · try simp (disch := (first | rfl | with_reducible assumption | with_reducible solve_by_elim (maxDepth := 8) [Shape.inT, Shape.inI, Shape.inC, Shape.inK, Shape.obF, Shape.obT, Shape.arI, Arr.inF] | omega)) only [S2, Nat.reduceEqDiff, Nat.reduceAdd, iput, puts, hle]
        refine up rfl hla fun x hx => ?_
        by_cases ex : x = a
        · rw [ex]; exact fun e2 h2 => hall e2 (by omega)
        · exact hq x (by omega)
    · try simp (disch := (first | rfl | with_reducible assumption | with_reducible solve_by_elim (maxDepth := 8) [Shape.inT, Shape.inI, Shape.inC, Shape.inK, Shape.obF, Shape.obT, Shape.arI, Arr.inF] | omega)) only [S2, Nat.reduceEqDiff, Nat.reduceAdd, iput, puts, hla]
      exact ⟨_, rfl, H, fun _ _ h => h, ret_true ⟨hl, hr, fun x hx => hq x (by omega)⟩, rfl, Nat.le_refl _⟩
end Go.Av
