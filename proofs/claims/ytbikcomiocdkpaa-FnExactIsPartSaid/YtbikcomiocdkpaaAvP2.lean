/-
  Parts of a set functor: the answers of both sides.
-/
import Derived.Test.YtbikcomiocdkpaaAvP1
import Derived.Test.YtbikcomiocdkpaaAvM3
import Derived.Test.YtbikcomiocdkpaaAvD3
namespace Go.Av
open Classical
set_option linter.unusedSimpArgs false
set_option linter.unusedVariables false
variable {P : Program} {ν : Nat → FuncId}

def V_spec_l02Rises : Vc :=
  .loop 0 [.c (int 1)] <|
  .op true (.p .len [.t 0]) <|
  .op true (.p (.bin .lss) [.t 1, .t 2]) <|
  .br 3
   (.op true (.p (.iad 1) [.t 0, .t 1]) <|
   .op true (.p (.ld none) [.t 4]) <|
   .op true (.p (.bin .sub) [.t 1, .c (int 1)]) <|
   .op true (.p (.iad 1) [.t 0, .t 6]) <|
   .op true (.p (.ld none) [.t 7]) <|
   .op true (.p (.bin .leq) [.t 5, .t 8]) <|
   .br 9
    (.ret [(.c (bool false), none)])
    (.op true (.p (.bin .add) [.t 1, .c (int 1)]) <|
    .again 0 [.t 10]))
   (.ret [(.c (bool true), none)])
theorem l02Rises_ok (h : Has P ν 366 1 V_spec_l02Rises) (l : List Int) (hl : l.length ≤ 1048576) : Fn P ν 366 [islice l] (bool (decide (Rising l))) := by
  intro H nx
  refine h _ _ _ _ rfl fun hwf => ?_
  unfold V_spec_l02Rises
  refine den_forS (l.length + 1) 1 (by omega) rfl (fun i => ∀ k, k + 1 < i → k + 1 < l.length → l.getD k 0 < l.getD (k + 1) 0) (fun k hk => by omega) fun i hi1 hi pi => ?_
  by_cases hli : i < l.length
  · have i2 : i - 1 < l.length := by omega
    simp only [SS, Nat.reduceEqDiff, Nat.reduceAdd, iput, puts, hli, i2, wrap_pred hi1 (by omega), wrap_succ (show i < 9223372036854775807 by omega)]
    refine ⟨fun h1 => ?_, fun h1 => up rfl (by omega) ⟨by omega, fun k hk hk' => ?_⟩⟩
    · exact ⟨_, rfl, H, fun _ _ h => h, ret_false (fun hC => by have := hC (i - 1) (by omega); rw [show i - 1 + 1 = i by omega] at this; omega), rfl, Nat.le_refl _⟩
    · by_cases e : k + 1 = i
      · subst e; simp only [Nat.add_sub_cancel] at h1; omega
      · exact pi k (by omega) hk'
  · simp only [SS, Nat.reduceEqDiff, Nat.reduceAdd, iput, puts, hli]
    exact ⟨_, rfl, H, fun _ _ h => h, ret_true (fun k hk => pi k (by omega) hk), rfl, Nat.le_refl _⟩
def V_spec_l25Part : Vc :=
  .op true (.p .box [.t 0]) <|
  .op true (.p .len [.t 1]) <|
  .op true (.p (.fad 5) [.t 2]) <|
  .op true (.p (.ld none) [.t 4]) <|
  .op true (.p .len [.t 5]) <|
  .op true (.p (.bin .neq) [.t 3, .t 6]) <|
  .br 7
   (.ret [(.c (bool false), none)])
   (.loop 0 [.c (int 0)] <|
   .op true (.p .len [.t 1]) <|
   .op true (.p (.bin .lss) [.t 8, .t 9]) <|
   .br 10
    (.op true (.p (.iad 1) [.t 1, .t 8]) <|
    .op true (.p (.ld none) [.t 11]) <|
    .op true (.call (.f 366) [.t 12]) <|
    .op true (.p .bnot [.t 13]) <|
    .br 14
     (.ret [(.c (bool false), none)])
     (.op true (.p (.fad 5) [.t 2]) <|
     .op true (.p (.ld none) [.t 15]) <|
     .op true (.p (.iad 1) [.t 16, .t 8]) <|
     .op true (.p (.ld none) [.t 17]) <|
     .op true (.p (.iad 1) [.t 1, .t 8]) <|
     .op true (.p (.ld none) [.t 19]) <|
     .op true (.call (.f 37) [.t 18, .t 20]) <|
     .op true (.p .bnot [.t 21]) <|
     .br 22
      (.ret [(.c (bool false), none)])
      (.op true (.p (.bin .add) [.t 8, .c (int 1)]) <|
      .again 0 [.t 23])))
    (.loop 0 [.c (int 0)] <|
    .op true (.p (.fad 6) [.t 2]) <|
    .op true (.p (.ld none) [.t 12]) <|
    .op true (.p .len [.t 13]) <|
    .op true (.p (.bin .lss) [.t 11, .t 14]) <|
    .br 15
     (.op true (.p (.fad 0) [.t 2]) <|
     .op true (.p (.fad 1) [.t 16]) <|
     .op true (.p (.ld none) [.t 17]) <|
     .op true (.p (.iad 1) [.t 18, .t 11]) <|
     .op true (.p (.ld none) [.t 19]) <|
     .op true (.p (.fad 0) [.t 2]) <|
     .op true (.p (.fad 2) [.t 21]) <|
     .op true (.p (.ld none) [.t 22]) <|
     .op true (.p (.iad 1) [.t 23, .t 11]) <|
     .op true (.p (.ld none) [.t 24]) <|
     .loop 1 [.c (int 0)] <|
     .op true (.p (.iad 1) [.t 1, .t 20]) <|
     .op true (.p (.ld none) [.t 27]) <|
     .op true (.p .len [.t 28]) <|
     .op true (.p (.bin .lss) [.t 26, .t 29]) <|
     .br 30
      (.op true (.p (.iad 1) [.t 1, .t 25]) <|
      .op true (.p (.ld none) [.t 31]) <|
      .op true (.p (.fad 6) [.t 2]) <|
      .op true (.p (.ld none) [.t 33]) <|
      .op true (.p (.iad 1) [.t 34, .t 11]) <|
      .op true (.p (.ld none) [.t 35]) <|
      .op true (.p (.iad 1) [.t 1, .t 20]) <|
      .op true (.p (.ld none) [.t 37]) <|
      .op true (.p (.iad 1) [.t 38, .t 26]) <|
      .op true (.p (.ld none) [.t 39]) <|
      .op true (.p (.iad 1) [.t 36, .t 40]) <|
      .op true (.p (.ld none) [.t 41]) <|
      .op true (.call (.f 262) [.t 32, .t 42]) <|
      .op true (.p .bnot [.t 43]) <|
      .br 44
       (.ret [(.c (bool false), none)])
       (.op true (.p (.bin .add) [.t 26, .c (int 1)]) <|
       .again 1 [.t 45]))
      (.op true (.p (.bin .add) [.t 11, .c (int 1)]) <|
      .again 0 [.t 31]))
     (.ret [(.c (bool true), none)])))
set_option maxHeartbeats 2000000 in
theorem l25Part_fz (hw : Has P ν 37 2 V_spec_l01Map) (hri : Has P ν 366 1 V_spec_l02Rises) (hha : Has P ν 262 2 V_spec_l01Has) (h : Has P ν 371 2 V_spec_l25Part) (f : SF) (s : SShape f) (M : List (List Int)) (b : SmallP M) : Fz (OkM P ν) 371 [.agg f.cells, .sl (rows M) M.length] (bool (decide (PartOk f M))) := by
  refine Fn.fzb fun H nx => h _ _ _ _ rfl fun hwf => ?_
  unfold V_spec_l25Part
  have bl := b.len
  have sh := s.cat.1
  have al := s.al
  have n40 := sh.n40
  have tl := sh.tl
  try simp (disch := (first | rfl | with_reducible assumption | with_reducible solve_by_elim (maxDepth := 8) [Shape.inT, Shape.inI, Shape.inC, Shape.inK, Shape.obF, Shape.obT, Shape.arI, Arr.inF] | omega)) only [S2, Nat.reduceEqDiff, Nat.reduceAdd, iput, puts, SSF f, p_boxs]
  refine ⟨fun e => ?_, fun e => ?_⟩
  · exact ⟨_, rfl, H, fun _ _ h => h, ret_false (fun q => e (by have := q.len; omega)), rfl, Nat.le_refl _⟩
  have hl : M.length = f.z.length := by omega
  try simp (disch := (first | rfl | with_reducible assumption | with_reducible solve_by_elim (maxDepth := 8) [Shape.inT, Shape.inI, Shape.inC, Shape.inK, Shape.obF, Shape.obT, Shape.arI, Arr.inF] | omega)) only [S2, Nat.reduceEqDiff, Nat.reduceAdd, iput, puts, SSF f]
  refine den_for M.length (fun i => ∀ x : Nat, x < i → Rising (gR M x) ∧ Wn (gR M x) (gI f.z x)) (fun x hx => by omega) fun i hi hp => ?_
  by_cases hlt : i < M.length
  · have iR : InR M (i : Int) := InR.nat hlt
    have iz : In f.z (i : Int) := In.nat (by omega)
    have bi := b.at i
    repeat (first | simp (disch := (first | rfl | with_reducible assumption | with_reducible solve_by_elim (maxDepth := 8) [Shape.inT, Shape.inI, Shape.inC, Shape.inK, Shape.obF, Shape.obT, Shape.arI, Arr.inF] | omega)) only [S2, Nat.reduceEqDiff, Nat.reduceAdd, iput, puts, SSF f, hlt] | (refine den_call rfl (by first | (simp only [SS, Nat.reduceEqDiff, Nat.reduceAdd, iput, puts, FF, frzL_cat]; done) | (simp only [SS, Nat.reduceEqDiff, Nat.reduceAdd, iput, puts, FF, frzL_cat]; rfl)) (by first | exact (l02Rises_ok hri (gR M i) (b.at _)).fzb) ?_) | (refine den_calli rfl (by first | (simp only [SS, Nat.reduceEqDiff, Nat.reduceAdd, iput, puts, FF, frzL_cat]; done) | (simp only [SS, Nat.reduceEqDiff, Nat.reduceAdd, iput, puts, FF, frzL_cat]; rfl)) (by first | exact (l02Rises_ok hri (gR M i) (b.at _)).fzb) ?_))
    refine ⟨fun e1 => ?_, fun e1 => ?_⟩
    · exact ⟨_, rfl, H, fun _ _ h => h, ret_false (fun q => e1 (q.row i hlt).1), rfl, Nat.le_refl _⟩
    repeat (first | simp (disch := (first | rfl | with_reducible assumption | with_reducible solve_by_elim (maxDepth := 8) [Shape.inT, Shape.inI, Shape.inC, Shape.inK, Shape.obF, Shape.obT, Shape.arI, Arr.inF] | omega)) only [S2, Nat.reduceEqDiff, Nat.reduceAdd, iput, puts, SSF f] | (refine den_call rfl (by first | (simp only [SS, Nat.reduceEqDiff, Nat.reduceAdd, iput, puts, FF, frzL_cat]; done) | (simp only [SS, Nat.reduceEqDiff, Nat.reduceAdd, iput, puts, FF, frzL_cat]; rfl)) (by first | exact (l01Map_ok hw (gR M i) (gI f.z i) (by omega)).fzb) ?_) | (refine den_calli rfl (by first | (simp only [SS, Nat.reduceEqDiff, Nat.reduceAdd, iput, puts, FF, frzL_cat]; done) | (simp only [SS, Nat.reduceEqDiff, Nat.reduceAdd, iput, puts, FF, frzL_cat]; rfl)) (by first | exact (l01Map_ok hw (gR M i) (gI f.z i) (by omega)).fzb) ?_))
    refine ⟨fun e2 => ?_, fun e2 => ?_⟩
    · exact ⟨_, rfl, H, fun _ _ h => h, ret_false (fun q => e2 (q.row i hlt).2), rfl, Nat.le_refl _⟩
    · try simp (disch := (first | rfl | with_reducible assumption | with_reducible solve_by_elim (maxDepth := 8) [Shape.inT, Shape.inI, Shape.inC, Shape.inK, Shape.obF, Shape.obT, Shape.arI, Arr.inF] | omega)) only [S2, Nat.reduceEqDiff, Nat.reduceAdd, iput, puts]
      refine up rfl hlt fun x hx => ?_
      by_cases ex : x = i
      · rw [ex]; exact ⟨e1, e2⟩
      · exact hp x (by omega)
  · have hr : ∀ x : Nat, x < M.length → Rising (gR M x) ∧ Wn (gR M x) (gI f.z x) := fun x hx => hp x (by omega)
    try simp (disch := (first | rfl | with_reducible assumption | with_reducible solve_by_elim (maxDepth := 8) [Shape.inT, Shape.inI, Shape.inC, Shape.inK, Shape.obF, Shape.obT, Shape.arI, Arr.inF] | omega)) only [S2, Nat.reduceEqDiff, Nat.reduceAdd, iput, puts, hlt, SSF f]
    refine den_for f.a.length (fun i => ∀ a : Nat, a < i → ∀ e : Nat, e < (gR M (f.c.F a)).length → gI (gR f.a a) (gI (gR M (f.c.F a)) e) ∈ gR M (f.c.T a)) (fun x hx => by omega) fun a ha hq => ?_
    by_cases hla : a < f.a.length
    · have i1 : InR f.a (a : Int) := InR.nat hla
      have i2 : In f.c.f (a : Int) := In.nat (by omega)
      have i3 : In f.c.t (a : Int) := In.nat (by omega)
      have m1 := inMF s hl hla
      have m2 := inMT s hl hla
      have gF : gI f.c.f (a : Int) = f.c.F a := rfl
      have gT : gI f.c.t (a : Int) = f.c.T a := rfl
      have bF := b.at (f.c.F a)
      have bT := b.at (f.c.T a)
      try simp (disch := (first | rfl | with_reducible assumption | with_reducible solve_by_elim (maxDepth := 8) [Shape.inT, Shape.inI, Shape.inC, Shape.inK, Shape.obF, Shape.obT, Shape.arI, Arr.inF] | omega)) only [S2, Nat.reduceEqDiff, Nat.reduceAdd, iput, puts, SSF f, hla, gF, gT]
      refine den_loop (α := Nat) (fun q => [int q]) (fun q H' nx' => q ≤ (gR M (f.c.F a)).length ∧ (∀ e : Nat, e < q → gI (gR f.a a) (gI (gR M (f.c.F a)) e) ∈ gR M (f.c.T a)) ∧ H' = H ∧ nx' = nx) (fun q => (gR M (f.c.F a)).length - q) 0 rfl ⟨Nat.zero_le _, (fun e he => by omega), rfl, rfl⟩ ?_
      rintro e H2 n2 ⟨he, hall, rfl, rfl⟩
      by_cases hle : e < (gR M (f.c.F a)).length
      · have j1 : In (gR M (f.c.F a)) (e : Int) := In.nat hle
        have j2 := inAct s hl hr hla hle
        repeat (first | simp (disch := (first | rfl | with_reducible assumption | with_reducible solve_by_elim (maxDepth := 8) [Shape.inT, Shape.inI, Shape.inC, Shape.inK, Shape.obF, Shape.obT, Shape.arI, Arr.inF] | omega)) only [S2, Nat.reduceEqDiff, Nat.reduceAdd, iput, puts, SSF f, hle] | (refine den_call rfl (by first | (simp only [SS, Nat.reduceEqDiff, Nat.reduceAdd, iput, puts, FF, frzL_cat]; done) | (simp only [SS, Nat.reduceEqDiff, Nat.reduceAdd, iput, puts, FF, frzL_cat]; rfl)) (by first | exact (l01Has_ok hha (gR M (f.c.T a)) (gI (gR f.a a) (gI (gR M (f.c.F a)) e)) (by omega)).fzb) ?_) | (refine den_calli rfl (by first | (simp only [SS, Nat.reduceEqDiff, Nat.reduceAdd, iput, puts, FF, frzL_cat]; done) | (simp only [SS, Nat.reduceEqDiff, Nat.reduceAdd, iput, puts, FF, frzL_cat]; rfl)) (by first | exact (l01Has_ok hha (gR M (f.c.T a)) (gI (gR f.a a) (gI (gR M (f.c.F a)) e)) (by omega)).fzb) ?_))
        refine ⟨fun e1 => ?_, fun e1 => ?_⟩
        · exact ⟨_, rfl, H2, fun _ _ h => h, ret_false (fun q => e1 (q.act a hla e hle)), rfl, Nat.le_refl _⟩
        · try simp (disch := (first | rfl | with_reducible assumption | with_reducible solve_by_elim (maxDepth := 8) [Shape.inT, Shape.inI, Shape.inC, Shape.inK, Shape.obF, Shape.obT, Shape.arI, Arr.inF] | omega)) only [S2, Nat.reduceEqDiff, Nat.reduceAdd, iput, puts]
          refine ⟨e + 1, rfl, ⟨by omega, fun x hx => ?_⟩, by omega⟩
          by_cases ex : x = e
          · rw [ex]; exact e1
          · exact hall x (by omega)
      · try simp (disch := (first | rfl | with_reducible assumption | with_reducible solve_by_elim (maxDepth := 8) [Shape.inT, Shape.inI, Shape.inC, Shape.inK, Shape.obF, Shape.obT, Shape.arI, Arr.inF] | omega)) only [S2, Nat.reduceEqDiff, Nat.reduceAdd, iput, puts, hle]
        refine up rfl hla fun x hx => ?_
        by_cases ex : x = a
        · rw [ex]; exact fun e2 h2 => hall e2 (by omega)
        · exact hq x (by omega)
    · try simp (disch := (first | rfl | with_reducible assumption | with_reducible solve_by_elim (maxDepth := 8) [Shape.inT, Shape.inI, Shape.inC, Shape.inK, Shape.obF, Shape.obT, Shape.arI, Arr.inF] | omega)) only [S2, Nat.reduceEqDiff, Nat.reduceAdd, iput, puts, SSF f, hla]
      exact ⟨_, rfl, H, fun _ _ h => h, ret_true ⟨hl, hr, fun x hx => hq x (by omega)⟩, rfl, Nat.le_refl _⟩
theorem p_mslPt {H : Hp} {c : List AV} {n : Nat} : pvf H (.msl 1 [.nil] [(0, 1)]) [.agg [.sl c n]] = some (.sl [.sl c n] 1) := rfl
theorem p_iadPt {H : Hp} {v : AV} : pvf H (.iad 1) [.sl [v] 1, int 0] = some (.ptr [v] 0) := rfl
theorem p_ldPt1 {H : Hp} {v : AV} : pvf H (.ld (some 1)) [.ptr [v] 0] = some (.agg [v]) := rfl
def V_areParts : Vc :=
  .op true (.call (.f 283) [.t 0]) <|
  .op true (.p .bnot [.t 2]) <|
  .br 3
   (.ret [(.c (bool false), none)])
   (.op true (.p .len [.t 1]) <|
   .loop 0 [.c (int 0)] <|
   .op true (.p (.bin .lss) [.t 5, .t 4]) <|
   .br 6
    (.op true (.p (.iad 1) [.t 1, .t 5]) <|
    .op true (.p (.ld (some 1)) [.t 7]) <|
    .op true (.new [.nil]) <|
    .op true (.st 1 (.t 9) (.t 8)) <|
    .op true (.p (.ld (some 1)) [.t 9]) <|
    .op true (.call (.f 422) [.t 0, .t 11]) <|
    .op true (.p .bnot [.t 12]) <|
    .br 13
     (.ret [(.c (bool false), none)])
     (.op true (.p (.bin .add) [.t 5, .c (int 1)]) <|
     .again 0 [.t 14]))
    (.ret [(.c (bool true), none)]))
def V_IsPart : Vc :=
  .op true (.p .box [.t 0]) <|
  .op true (.p .box [.t 1]) <|
  .op true (.p (.ld (some 1)) [.t 3]) <|
  .op true (.p (.msl 1 [.nil] [(0, 1)]) [.t 4]) <|
  .op true (.call (.f 372) [.t 2, .t 5]) <|
  .ret [(.t 6, none)]
def V_spec_IsPart : Vc :=
  .op true (.p .box [.t 0]) <|
  .op true (.p .box [.t 1]) <|
  .op true (.p (.ld (some 7)) [.t 2]) <|
  .op true (.call (.f 282) [.t 4]) <|
  .br 5
   (.op true (.p (.ld (some 7)) [.t 2]) <|
   .op true (.p (.fad 0) [.t 3]) <|
   .op true (.p (.ld none) [.t 7]) <|
   .op true (.call (.f 371) [.t 6, .t 8]) <|
   .ret [(.t 9, none)])
   (.ret [(.c (bool false), none)])
set_option maxHeartbeats 1000000 in
theorem areParts_fz (K : HCat P ν) (L : HSF P ν) (hri : Has P ν 368 1 V_rising) (hha : Has P ν 413 2 V_has) (hp : Has P ν 422 2 V_SetFunctor_isPart) (h : Has P ν 372 2 V_areParts) (f : SF) (bf : SmallF f) (M : List (List Int)) (b : SmallP M) : Fz (OkM P ν) 372 [.ptr f.cells 0, .sl [.sl (rows M) M.length] 1] (bool (decide (SFun f ∧ PartOk f M))) := by
  refine OkM.fz (Ψ := fun H nx r H' nx' => r = bool (decide (SFun f ∧ PartOk f M))) (fun H nx => h _ _ _ _ rfl fun hwf => ?_) fun r H' nx' hh => by subst hh; rfl
  unfold V_areParts
  repeat (first | simp (disch := (first | rfl | with_reducible assumption | with_reducible solve_by_elim (maxDepth := 8) [Shape.inT, Shape.inI, Shape.inC, Shape.inK, Shape.obF, Shape.obT, Shape.arI, Arr.inF] | omega)) only [S2, Nat.reduceEqDiff, Nat.reduceAdd, iput, puts, SSF f] | (refine den_call rfl (by first | (simp only [SS, Nat.reduceEqDiff, Nat.reduceAdd, iput, puts, FF, frzL_cat]; done) | (simp only [SS, Nat.reduceEqDiff, Nat.reduceAdd, iput, puts, FF, frzL_cat]; rfl)) (by first | exact isSetFunctor_fz K L f bf) ?_) | (refine den_calli rfl (by first | (simp only [SS, Nat.reduceEqDiff, Nat.reduceAdd, iput, puts, FF, frzL_cat]; done) | (simp only [SS, Nat.reduceEqDiff, Nat.reduceAdd, iput, puts, FF, frzL_cat]; rfl)) (by first | exact isSetFunctor_fz K L f bf) ?_))
  refine ⟨fun e => ?_, fun e => ?_⟩
  · exact ⟨_, rfl, H, fun _ _ h => h, ret_false (fun q => e q.1)⟩
  have s := e.1
  have l1 : pvf H .len [.sl [.sl (rows M) M.length] 1] = some (int ((1 : Nat) : Int)) := rfl
  try simp (disch := (first | rfl | with_reducible assumption | with_reducible solve_by_elim (maxDepth := 8) [Shape.inT, Shape.inI, Shape.inC, Shape.inK, Shape.obF, Shape.obT, Shape.arI, Arr.inF] | omega)) only [S2, Nat.reduceEqDiff, Nat.reduceAdd, iput, puts, l1]
  refine den_forG 1 (fun i => i = 1 → PartOk f M) H nx (Low.refl _ _) (fun h => by cases h) fun i H1 n1 hi hpi lo => ?_
  by_cases hlt : i < 1
  · have : i = 0 := by omega
    subst this
    have z0 : ((0 : Nat) : Int) = 0 := rfl
    have z1 : ((0 : Nat) : Int) < ((1 : Nat) : Int) := by decide
    have z2 : (0 : Int) < ((1 : Nat) : Int) := by decide
    try simp (disch := (first | rfl | with_reducible assumption | with_reducible solve_by_elim (maxDepth := 8) [Shape.inT, Shape.inI, Shape.inC, Shape.inK, Shape.obF, Shape.obT, Shape.arI, Arr.inF] | omega)) only [S2, Nat.reduceEqDiff, Nat.reduceAdd, iput, puts, z0, z1, z2, hlt, p_iadPt, p_ldPt1]
    refine den_newG fun H2 y2 e2 => ?_
    refine den_stG (o := n1) (p := 0) (k := 1) (m := 1) (c' := [.sl (rows M) M.length]) (by rfl) (by rfl) y2 (by rfl) (by rfl) (show 0 + 1 ≤ 1 by omega) (by rfl) (by rfl) fun H3 y3 e3 => ?_
    have lo3 : Low H nx H3 (n1 + 1) := ⟨by have := lo.le; omega, fun o ho => by have := lo.le; rw [e3 o (by omega), e2 o (by omega)]; exact lo.eq o ho⟩
    repeat (first | simp (disch := (first | rfl | with_reducible assumption | with_reducible solve_by_elim (maxDepth := 8) [Shape.inT, Shape.inI, Shape.inC, Shape.inK, Shape.obF, Shape.obT, Shape.arI, Arr.inF] | omega)) only [S2, Nat.reduceEqDiff, Nat.reduceAdd, iput, puts, p_ldsm (l := 1) y3 rfl] | (refine den_call rfl (by first | (simp only [SS, Nat.reduceEqDiff, Nat.reduceAdd, iput, puts, FF, frzL_cat]; done) | (simp only [SS, Nat.reduceEqDiff, Nat.reduceAdd, iput, puts, FF, frzL_cat]; rfl)) (by first | exact isPart_fz K.inRange K.within hri hha hp f s M b) ?_) | (refine den_calli rfl (by first | (simp only [SS, Nat.reduceEqDiff, Nat.reduceAdd, iput, puts, FF, frzL_cat]; done) | (simp only [SS, Nat.reduceEqDiff, Nat.reduceAdd, iput, puts, FF, frzL_cat]; rfl)) (by first | exact isPart_fz K.inRange K.within hri hha hp f s M b) ?_))
    refine ⟨fun e4 => ?_, fun e4 => ?_⟩
    · exact ⟨_, rfl, H3, fun _ _ h => h, ret_false (fun q => e4 q.2)⟩
    · try simp (disch := (first | rfl | with_reducible assumption | with_reducible solve_by_elim (maxDepth := 8) [Shape.inT, Shape.inI, Shape.inC, Shape.inK, Shape.obF, Shape.obT, Shape.arI, Arr.inF] | omega)) only [S2, Nat.reduceEqDiff, Nat.reduceAdd, iput, puts]
      exact upG rfl (by omega) (fun _ => e4) lo3
  · have i1 : i = 1 := by omega
    have z2 : ¬ (i : Int) < ((1 : Nat) : Int) := by omega
    try simp (disch := (first | rfl | with_reducible assumption | with_reducible solve_by_elim (maxDepth := 8) [Shape.inT, Shape.inI, Shape.inC, Shape.inK, Shape.obF, Shape.obT, Shape.arI, Arr.inF] | omega)) only [S2, Nat.reduceEqDiff, Nat.reduceAdd, iput, puts, z2, hlt]
    exact ⟨_, rfl, H1, fun _ _ h => h, ret_true ⟨e, hpi i1⟩⟩
theorem IsPart_both (K : HCat P ν) (L : HSF P ν) (hri : Has P ν 368 1 V_rising) (hha : Has P ν 413 2 V_has) (hp : Has P ν 422 2 V_SetFunctor_isPart) (har : Has P ν 372 2 V_areParts) (h : Has P ν 233 2 V_IsPart) (KS : HSpec P ν) (LS : HSFS P ν) (hri2 : Has P ν 366 1 V_spec_l02Rises) (hh2 : Has P ν 262 2 V_spec_l01Has) (hlp : Has P ν 371 2 V_spec_l25Part) (hs : Has P ν 231 2 V_spec_IsPart) (f : SF) (bf : SmallF f) (M : List (List Int)) (b : SmallP M) :
    ∃ x : Bool, BothZ P ν 233 231 [.agg f.cells, .agg [.sl (rows M) M.length]] (bool x) := by
  refine ⟨decide (SFun f ∧ PartOk f M), Fn.fzb fun H nx => h _ _ _ _ rfl fun hwf => ?_, Fn.fzb fun H nx => hs _ _ _ _ rfl fun hwf => ?_⟩
  · unfold V_IsPart
    repeat (first | simp (disch := (first | rfl | with_reducible assumption | with_reducible solve_by_elim (maxDepth := 8) [Shape.inT, Shape.inI, Shape.inC, Shape.inK, Shape.obF, Shape.obT, Shape.arI, Arr.inF] | omega)) only [S2, Nat.reduceEqDiff, Nat.reduceAdd, iput, puts, p_boxs, p_boxPt, p_ldPt1, p_mslPt] | (refine den_call rfl (by first | (simp only [SS, Nat.reduceEqDiff, Nat.reduceAdd, iput, puts, FF, frzL_cat]; done) | (simp only [SS, Nat.reduceEqDiff, Nat.reduceAdd, iput, puts, FF, frzL_cat]; rfl)) (by first | exact areParts_fz K L hri hha hp har f bf M b) ?_) | (refine den_calli rfl (by first | (simp only [SS, Nat.reduceEqDiff, Nat.reduceAdd, iput, puts, FF, frzL_cat]; done) | (simp only [SS, Nat.reduceEqDiff, Nat.reduceAdd, iput, puts, FF, frzL_cat]; rfl)) (by first | exact areParts_fz K L hri hha hp har f bf M b) ?_))
    exact ⟨_, rfl, H, fun _ _ h => h, rfl, rfl, Nat.le_refl _⟩
  · unfold V_spec_IsPart
    repeat (first | simp (disch := (first | rfl | with_reducible assumption | with_reducible solve_by_elim (maxDepth := 8) [Shape.inT, Shape.inI, Shape.inC, Shape.inK, Shape.obF, Shape.obT, Shape.arI, Arr.inF] | omega)) only [S2, Nat.reduceEqDiff, Nat.reduceAdd, iput, puts, p_boxs, p_lds7, p_boxPt, p_ldPt] | (refine den_call rfl (by first | (simp only [SS, Nat.reduceEqDiff, Nat.reduceAdd, iput, puts, FF, frzL_cat]; done) | (simp only [SS, Nat.reduceEqDiff, Nat.reduceAdd, iput, puts, FF, frzL_cat]; rfl)) (by first | exact l19Is_fz KS LS f bf) ?_) | (refine den_calli rfl (by first | (simp only [SS, Nat.reduceEqDiff, Nat.reduceAdd, iput, puts, FF, frzL_cat]; done) | (simp only [SS, Nat.reduceEqDiff, Nat.reduceAdd, iput, puts, FF, frzL_cat]; rfl)) (by first | exact l19Is_fz KS LS f bf) ?_))
    refine ⟨fun e => ?_, fun e => ?_⟩
    · repeat (first | simp (disch := (first | rfl | with_reducible assumption | with_reducible solve_by_elim (maxDepth := 8) [Shape.inT, Shape.inI, Shape.inC, Shape.inK, Shape.obF, Shape.obT, Shape.arI, Arr.inF] | omega)) only [S2, Nat.reduceEqDiff, Nat.reduceAdd, iput, puts, p_lds7, p_boxPt, p_ldPt] | (refine den_call rfl (by first | (simp only [SS, Nat.reduceEqDiff, Nat.reduceAdd, iput, puts, FF, frzL_cat]; done) | (simp only [SS, Nat.reduceEqDiff, Nat.reduceAdd, iput, puts, FF, frzL_cat]; rfl)) (by first | exact l25Part_fz KS.l01Map hri2 hh2 hlp f e.1 M b) ?_) | (refine den_calli rfl (by first | (simp only [SS, Nat.reduceEqDiff, Nat.reduceAdd, iput, puts, FF, frzL_cat]; done) | (simp only [SS, Nat.reduceEqDiff, Nat.reduceAdd, iput, puts, FF, frzL_cat]; rfl)) (by first | exact l25Part_fz KS.l01Map hri2 hh2 hlp f e.1 M b) ?_))
      refine ⟨_, rfl, H, fun _ _ h => h, ?_, rfl, Nat.le_refl _⟩
      show bool _ = bool _
      congr 1
      rw [Bool.eq_iff_iff]
      simp [e]
    · try simp (disch := (first | rfl | with_reducible assumption | with_reducible solve_by_elim (maxDepth := 8) [Shape.inT, Shape.inI, Shape.inC, Shape.inK, Shape.obF, Shape.obT, Shape.arI, Arr.inF] | omega)) only [S2, Nat.reduceEqDiff, Nat.reduceAdd, iput, puts]
      exact ⟨_, rfl, H, fun _ _ h => h, ret_false (fun q => e q.1), rfl, Nat.le_refl _⟩
end Go.Av
