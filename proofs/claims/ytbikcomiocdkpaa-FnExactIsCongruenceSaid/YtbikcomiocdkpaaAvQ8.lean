/-
  IsCongruence: the program's and the reference's.
-/
import Derived.Test.YtbikcomiocdkpaaAvQ7
import Derived.Test.YtbikcomiocdkpaaAvB10
namespace Go.Av
open Classical
set_option linter.unusedSimpArgs false
set_option linter.unusedVariables false
variable {P : Program} {ν : Nat → FuncId}

theorem fsts_all {f : Nat → Nat} : ∀ {i v : Nat}, v < (fsts f i).length → ∃ j, j < i ∧ isFst f j = true ∧ (fsts f j).length = v := by
  intro i
  induction i with
  | zero => intro v h; simp [fsts] at h
  | succ i ih =>
    intro v h
    rw [fsts_succ, List.length_append] at h
    by_cases e : v < (fsts f i).length
    · obtain ⟨j, h1, h2, h3⟩ := ih e
      exact ⟨j, by omega, h2, h3⟩
    · by_cases q : isFst f i = true
      · rw [if_pos q] at h
        exact ⟨i, by omega, q, by simp at h; omega⟩
      · rw [if_neg q] at h; simp at h; omega
theorem fsts_mono {f : Nat → Nat} {i j : Nat} (h : i ≤ j) : (fsts f i).length ≤ (fsts f j).length := by
  induction j with
  | zero => have : i = 0 := by omega
            rw [this]; exact Nat.le_refl _
  | succ j ih =>
    by_cases e : i = j + 1
    · rw [e]; exact Nat.le_refl _
    · rw [fsts_succ, List.length_append]; have := ih (by omega); omega
/-- One more entry of a list in normal form. -/
theorem nrm_step {p : List Int} {i : Nat} (hp : ∀ j, j < i → p.getD j 0 = numOf (encP p) j) : (p.getD i 0 = numOf (encP p) i ↔ 0 ≤ p.getD i 0 ∧ p.getD i 0 ≤ (fsts (encP p) i).length) ∧ (0 ≤ p.getD i 0 ∧ p.getD i 0 ≤ (fsts (encP p) i).length → (p.getD i 0 = (fsts (encP p) i).length ↔ isFst (encP p) i = true)) := by
  obtain ⟨f1, f2, f3⟩ := fb_ok (encP p) i
  have up : numOf (encP p) i ≤ (fsts (encP p) i).length := fsts_mono f1
  have new : p.getD i 0 = (fsts (encP p) i).length → isFst (encP p) i = true := fun e => by
    by_cases q : fb (encP p) i = i
    · rw [q] at f2; exact f2
    · have lt : fb (encP p) i < i := by omega
      have e1 : p.getD (fb (encP p) i) 0 = p.getD i 0 := encP_eq.1 f3
      rw [hp _ lt, numOf_new f2, e] at e1
      obtain ⟨t, ht⟩ := fsts_split f2 lt
      rw [ht] at e1
      simp at e1
      omega
  have main : 0 ≤ p.getD i 0 ∧ p.getD i 0 ≤ (fsts (encP p) i).length → p.getD i 0 = numOf (encP p) i ∧ (p.getD i 0 = (fsts (encP p) i).length ↔ isFst (encP p) i = true) := fun h => by
    by_cases e : p.getD i 0 = (fsts (encP p) i).length
    · have q := new e
      exact ⟨by rw [e, numOf_new q], fun _ => q, fun _ => e⟩
    · obtain ⟨v, hv⟩ : ∃ v : Nat, p.getD i 0 = v := ⟨(p.getD i 0).toNat, by omega⟩
      obtain ⟨j, j1, j2, j3⟩ := fsts_all (f := encP p) (i := i) (v := v) (by omega)
      have ej : p.getD j 0 = p.getD i 0 := by rw [hp j j1, numOf_new j2, j3, hv]
      have eF : encP p j = encP p i := encP_eq.2 ej
      refine ⟨by rw [← ej, hp j j1, numOf_eq eF], fun q => absurd q e, fun q => ?_⟩
      exact absurd eF (of_decide_eq_true q j j1)
  exact ⟨⟨fun e => by rw [e]; omega, fun h => (main h).1⟩, fun h => (main h).2⟩

def V_partition_isNormal : Vc :=
  .op true (.p .len [.t 0]) <|
  .loop 0 [.c (int 0), .c (int 0)] <|
  .op true (.p (.bin .lss) [.t 3, .t 1]) <|
  .br 4
   (.op true (.p (.iad 1) [.t 0, .t 3]) <|
   .op true (.p (.ld none) [.t 5]) <|
   .op true (.call (.f 32) [.t 6, .c (int 0), .t 2]) <|
   .op true (.p .bnot [.t 7]) <|
   .br 8
    (.ret [(.c (bool false), none)])
    (.op true (.p (.bin .eql) [.t 6, .t 2]) <|
    .br 9
     (.op true (.p (.bin .add) [.t 2, .c (int 1)]) <|
     .op true (.p (.bin .add) [.t 3, .c (int 1)]) <|
     .again 0 [.t 10, .t 11])
     (.op true (.p (.bin .add) [.t 3, .c (int 1)]) <|
     .again 0 [.t 2, .t 10])))
   (.ret [(.c (bool true), none)])
theorem isNormal_fz (hin : Has P ν 32 3 V_inRange) (h : Has P ν 399 1 V_partition_isNormal) (p : List Int) (hl : p.length ≤ 1048576) : Fz (OkM P ν) 399 [islice p] (bool (decide (Nrm p))) := by
  refine Fn.fzb fun H nx => h _ _ _ _ rfl fun hwf => ?_
  unfold V_partition_isNormal
  try simp (disch := (first | rfl | with_reducible assumption | with_reducible solve_by_elim (maxDepth := 8) [Shape.inT, Shape.inI, Shape.inC, Shape.inK, Shape.obF, Shape.obT, Shape.arI, Arr.inF] | omega)) only [S2, Nat.reduceEqDiff, Nat.reduceAdd, iput, puts]
  refine den_loop (α := Nat) (fun a => [int ((fsts (encP p) a).length : Int), int a]) (fun a H' nx' => (a ≤ p.length ∧ ∀ j, j < a → p.getD j 0 = numOf (encP p) j) ∧ H' = H ∧ nx' = nx) (fun a => p.length - a) 0 rfl ⟨⟨Nat.zero_le _, fun j hj => by omega⟩, rfl, rfl⟩ ?_
  rintro i H1 n1 ⟨⟨hi, hp⟩, rfl, rfl⟩
  have fl := fsts_len (encP p) i
  by_cases hlt : i < p.length
  · have i1 : In p (i : Int) := In.nat hlt
    obtain ⟨s1, s2⟩ := nrm_step hp
    rw [show p.getD i 0 = gI p i from rfl] at s1 s2
    repeat (first | simp (disch := (first | rfl | with_reducible assumption | with_reducible solve_by_elim (maxDepth := 8) [Shape.inT, Shape.inI, Shape.inC, Shape.inK, Shape.obF, Shape.obT, Shape.arI, Arr.inF] | omega)) only [S2, Nat.reduceEqDiff, Nat.reduceAdd, iput, puts, hlt] | (refine den_call rfl (by first | (simp only [SS, Nat.reduceEqDiff, Nat.reduceAdd, iput, puts, FF, frzL_cat]; done) | (simp only [SS, Nat.reduceEqDiff, Nat.reduceAdd, iput, puts, FF, frzL_cat]; rfl)) (by first | exact (inRange_ok hin (gI p i) 0 ((fsts (encP p) i).length : Int)).fzb) ?_) | (refine den_calli rfl (by first | (simp only [SS, Nat.reduceEqDiff, Nat.reduceAdd, iput, puts, FF, frzL_cat]; done) | (simp only [SS, Nat.reduceEqDiff, Nat.reduceAdd, iput, puts, FF, frzL_cat]; rfl)) (by first | exact (inRange_ok hin (gI p i) 0 ((fsts (encP p) i).length : Int)).fzb) ?_))
    refine ⟨fun e => ?_, fun e => ?_⟩
    · exact ⟨_, rfl, H1, fun _ _ h => h, ret_false (fun q => e (s1.1 ((Nrm_iff p).1 q i hlt))), rfl, Nat.le_refl _⟩
    have nxt : ∀ j, j < i + 1 → p.getD j 0 = numOf (encP p) j := fun j hj => by
      by_cases ej : j = i
      · rw [ej]; exact s1.2 e
      · exact hp j (by omega)
    try simp (disch := (first | rfl | with_reducible assumption | with_reducible solve_by_elim (maxDepth := 8) [Shape.inT, Shape.inI, Shape.inC, Shape.inK, Shape.obF, Shape.obT, Shape.arI, Arr.inF] | omega)) only [S2, Nat.reduceEqDiff, Nat.reduceAdd, iput, puts]
    refine ⟨fun e2 => ?_, fun e2 => ?_⟩
    · try simp (disch := (first | rfl | with_reducible assumption | with_reducible solve_by_elim (maxDepth := 8) [Shape.inT, Shape.inI, Shape.inC, Shape.inK, Shape.obF, Shape.obT, Shape.arI, Arr.inF] | omega)) only [S2, Nat.reduceEqDiff, Nat.reduceAdd, iput, puts]
      refine ⟨i + 1, ?_, ⟨hlt, nxt⟩, by omega⟩
      rw [fsts_succ, if_pos ((s2 e).1 e2)]
      simp
    · try simp (disch := (first | rfl | with_reducible assumption | with_reducible solve_by_elim (maxDepth := 8) [Shape.inT, Shape.inI, Shape.inC, Shape.inK, Shape.obF, Shape.obT, Shape.arI, Arr.inF] | omega)) only [S2, Nat.reduceEqDiff, Nat.reduceAdd, iput, puts]
      refine ⟨i + 1, ?_, ⟨hlt, nxt⟩, by omega⟩
      rw [fsts_succ, if_neg (fun q => e2 ((s2 e).2 q))]
      simp
  · try simp (disch := (first | rfl | with_reducible assumption | with_reducible solve_by_elim (maxDepth := 8) [Shape.inT, Shape.inI, Shape.inC, Shape.inK, Shape.obF, Shape.obT, Shape.arI, Arr.inF] | omega)) only [S2, Nat.reduceEqDiff, Nat.reduceAdd, iput, puts, hlt]
    exact ⟨_, rfl, H1, fun _ _ h => h, ret_true ((Nrm_iff p).2 fun j hj => hp j (by omega)), rfl, Nat.le_refl _⟩

/-- What is asked of a congruence. -/
def Cong (c : Cat) (p : List Int) : Prop := p.length = c.f.length ∧ Nrm p ∧ ParP c p ∧ ClP c p
def fstL (p : List Int) : Nat → List (List Int × AV)
  | 0 => []
  | i + 1 => fstL p i ++ if isFst (encP p) i then [([p.getD i 0], int (i : Int))] else []
theorem fstL_none {p : List Int} {k : Int} : ∀ {i : Nat}, (∀ j, j < i → p.getD j 0 ≠ k) → mfind (fstL p i) [k] = none := by
  intro i
  induction i with
  | zero => intro _; rfl
  | succ i ih =>
    intro h
    rw [fstL, mfind_append, ih fun j hj => h j (by omega)]
    have hk := h i (by omega)
    split
    · simp only [mfind, Option.none_or, Option.map_eq_none_iff, List.find?_eq_none]
      intro x hx
      simp only [List.mem_singleton] at hx
      subst hx
      simpa using hk
    · rfl
theorem fstL_some {p : List Int} {j : Nat} (hj : isFst (encP p) j = true) : ∀ {i : Nat}, j < i → mfind (fstL p i) [p.getD j 0] = some (int (j : Int)) := by
  intro i
  induction i with
  | zero => intro h; omega
  | succ i ih =>
    intro h
    rw [fstL, mfind_append]
    by_cases e : j = i
    · subst e
      rw [fstL_none fun k hk e => of_decide_eq_true hj k hk (encP_eq.2 e), if_pos hj]
      simp [mfind]
    · rw [ih (by omega)]
      rfl

def V_Category_isCongruence : Vc :=
  .op true (.p .len [.t 1]) <|
  .op true (.call (.f 26) [.t 0]) <|
  .op true (.p (.bin .neq) [.t 2, .t 3]) <|
  .br 4
   (.ret [(.c (bool false), none)])
   (.op true (.call (.f 399) [.t 1]) <|
   .op true (.p .bnot [.t 5]) <|
   .br 6
    (.ret [(.c (bool false), none)])
    (.op true .mkm <|
    .op true (.p .len [.t 1]) <|
    .loop 0 [.c (int 0)] <|
    .op true (.p (.bin .lss) [.t 9, .t 8]) <|
    .br 10
     (.op true (.p (.iad 1) [.t 1, .t 9]) <|
     .op true (.p (.ld none) [.t 11]) <|
     .op true (.p (.mget none true (int 0)) [.t 7, .t 12]) <|
     .op true (.p (.ext 0) [.t 13]) <|
     .op true (.p (.ext 1) [.t 13]) <|
     .op true (.p .bnot [.t 15]) <|
     .br 16
      (.op true (.mset none (.t 7) (.t 12) (.t 9)) <|
      .op true (.call (.f 38) [.t 0, .t 9]) <|
      .op true (.p (.mget none false (int 0)) [.t 7, .t 12]) <|
      .op true (.call (.f 38) [.t 0, .t 19]) <|
      .op true (.p (.eqs true 2) [.t 18, .t 20]) <|
      .br 21
       (.ret [(.c (bool false), none)])
       (.op true (.p (.bin .add) [.t 9, .c (int 1)]) <|
       .again 0 [.t 22]))
      (.op true (.call (.f 38) [.t 0, .t 9]) <|
      .op true (.p (.mget none false (int 0)) [.t 7, .t 12]) <|
      .op true (.call (.f 38) [.t 0, .t 18]) <|
      .op true (.p (.eqs true 2) [.t 17, .t 19]) <|
      .br 20
       (.ret [(.c (bool false), none)])
       (.op true (.p (.bin .add) [.t 9, .c (int 1)]) <|
       .again 0 [.t 21])))
     (.op true (.p .nck [.t 0]) <|
     .op true (.p (.fad 4) [.t 11]) <|
     .op true (.p (.ld none) [.t 12]) <|
     .op true (.p .len [.t 13]) <|
     .loop 0 [.c (int 0)] <|
     .op true (.p (.bin .lss) [.t 15, .t 14]) <|
     .br 16
      (.op true (.p (.iad 1) [.t 13, .t 15]) <|
      .op true (.p (.ld none) [.t 17]) <|
      .op true (.p .len [.t 18]) <|
      .loop 1 [.c (int 0)] <|
      .op true (.p (.bin .lss) [.t 20, .t 19]) <|
      .br 21
       (.op true (.p (.iad 1) [.t 18, .t 20]) <|
       .op true (.p (.ld none) [.t 22]) <|
       .op true (.p (.bin .geq) [.t 23, .c (int 0)]) <|
       .br 24
        (.op true (.p (.iad 1) [.t 1, .t 23]) <|
        .op true (.p (.ld none) [.t 25]) <|
        .op true (.p (.iad 1) [.t 1, .t 15]) <|
        .op true (.p (.ld none) [.t 27]) <|
        .op true (.p (.mget none false (int 0)) [.t 7, .t 28]) <|
        .op true (.p (.iad 1) [.t 1, .t 20]) <|
        .op true (.p (.ld none) [.t 30]) <|
        .op true (.p (.mget none false (int 0)) [.t 7, .t 31]) <|
        .op true (.call (.f 34) [.t 0, .t 29, .t 32]) <|
        .op true (.p (.iad 1) [.t 1, .t 33]) <|
        .op true (.p (.ld none) [.t 34]) <|
        .op true (.p (.bin .neq) [.t 26, .t 35]) <|
        .br 36
         (.ret [(.c (bool false), none)])
         (.op true (.p (.bin .add) [.t 20, .c (int 1)]) <|
         .again 1 [.t 37]))
        (.op true (.p (.bin .add) [.t 20, .c (int 1)]) <|
        .again 1 [.t 25]))
       (.op true (.p (.bin .add) [.t 15, .c (int 1)]) <|
       .again 0 [.t 22]))
      (.ret [(.c (bool true), none)]))))
set_option maxHeartbeats 4000000 in
theorem isCongruence_fz (K : HCat P ν) (hno : Has P ν 399 1 V_partition_isNormal) (h : Has P ν 300 2 V_Category_isCongruence) (c : Cat) (s : Shape c) (p : List Int) (hl : p.length ≤ 1048576) : Fz (OkM P ν) 300 [.ptr c.cells 0, islice p] (bool (decide (Cong c p))) := by
  refine OkM.mono (Φ := fun r _ _ => r = bool (decide (Cong c p))) (h [.ptr c.cells 0, islice p] hempty 0 _ rfl fun hwf => ?_) (by rintro r H' nx' rfl; rfl)
  unfold V_Category_isCongruence
  have n40 := s.n40
  have cl := s.cl
  repeat (first | simp (disch := (first | rfl | with_reducible assumption | with_reducible solve_by_elim (maxDepth := 8) [Shape.inT, Shape.inI, Shape.inC, Shape.inK, Shape.obF, Shape.obT, Shape.arI, Arr.inF] | omega)) only [S2, Nat.reduceEqDiff, Nat.reduceAdd, iput, puts] | (refine den_call rfl (by first | (simp only [SS, Nat.reduceEqDiff, Nat.reduceAdd, iput, puts, FF, frzL_cat]; done) | (simp only [SS, Nat.reduceEqDiff, Nat.reduceAdd, iput, puts, FF, frzL_cat]; rfl)) (by first | exact (arrows_ok K.arrows c).fzi) ?_) | (refine den_calli rfl (by first | (simp only [SS, Nat.reduceEqDiff, Nat.reduceAdd, iput, puts, FF, frzL_cat]; done) | (simp only [SS, Nat.reduceEqDiff, Nat.reduceAdd, iput, puts, FF, frzL_cat]; rfl)) (by first | exact (arrows_ok K.arrows c).fzi) ?_))
  refine ⟨fun e => ?_, fun e => ?_⟩
  · exact ⟨_, rfl, hempty, fun _ _ h => h, ret_false (fun q => e (by have := q.1; omega))⟩
  have ln : p.length = c.f.length := by omega
  repeat (first | simp (disch := (first | rfl | with_reducible assumption | with_reducible solve_by_elim (maxDepth := 8) [Shape.inT, Shape.inI, Shape.inC, Shape.inK, Shape.obF, Shape.obT, Shape.arI, Arr.inF] | omega)) only [S2, Nat.reduceEqDiff, Nat.reduceAdd, iput, puts] | (refine den_call rfl (by first | (simp only [SS, Nat.reduceEqDiff, Nat.reduceAdd, iput, puts, FF, frzL_cat]; done) | (simp only [SS, Nat.reduceEqDiff, Nat.reduceAdd, iput, puts, FF, frzL_cat]; rfl)) (by first | exact isNormal_fz K.inRange hno p hl) ?_) | (refine den_calli rfl (by first | (simp only [SS, Nat.reduceEqDiff, Nat.reduceAdd, iput, puts, FF, frzL_cat]; done) | (simp only [SS, Nat.reduceEqDiff, Nat.reduceAdd, iput, puts, FF, frzL_cat]; rfl)) (by first | exact isNormal_fz K.inRange hno p hl) ?_))
  refine ⟨fun e1 => ?_, fun e1 => ?_⟩
  · exact ⟨_, rfl, hempty, fun _ _ h => h, ret_false (fun q => e1 q.2.1)⟩
  have lt : ∀ i, i < c.f.length → fb (encP p) i < c.f.length := fun i hi => by have := (fb_ok (encP p) i).1; omega
  have pfb : ∀ i, p.getD (fb (encP p) i) 0 = p.getD i 0 := fun i => encP_eq.1 (fb_ok (encP p) i).2.2
  refine den_mkm (kd := none) fun H1 m1 x0 => ?_
  try simp (disch := (first | rfl | with_reducible assumption | with_reducible solve_by_elim (maxDepth := 8) [Shape.inT, Shape.inI, Shape.inC, Shape.inK, Shape.obF, Shape.obT, Shape.arI, Arr.inF] | omega)) only [S2, Nat.reduceEqDiff, Nat.reduceAdd, iput, puts]
  refine den_loop (α := Nat) (fun a => [int a]) (fun a H' nx' => a ≤ p.length ∧ MapAt H' 0 none (fstL p a) ∧ ∀ j, j < a → c.F (fb (encP p) j) = c.F j ∧ c.T (fb (encP p) j) = c.T j) (fun a => p.length - a) 0 rfl ⟨Nat.zero_le _, m1, fun j hj => by omega⟩ ?_
  clear m1 x0 H1
  rintro i H1 n1 ⟨hi, m1, hP⟩
  by_cases hlt : i < p.length
  · have i1 : In p (i : Int) := In.nat hlt
    have g1 : gI p (i : Int) = p.getD i 0 := gI_nat p i
    have ai : Arr c (i : Int) := Arr.of (by omega)
    cases hf : isFst (encP p) i with
    | true =>
      have nf : mfind (fstL p i) [p.getD i 0] = none := fstL_none fun j hj e => of_decide_eq_true hf j hj (encP_eq.2 e)
      have g2 : pvf H1 (.mget none true (int 0)) [.mm 0, int (p.getD i 0)] = some (.tup [int 0, bool false]) := by
        have := (m1.get (mkey_int (p.getD i 0)) (int 0)).1
        rw [nf] at this
        exact this
      have efb : fb (encP p) i = i := fst_uniq (fb_ok (encP p) i).2.1 hf (fb_ok (encP p) i).2.2
      try simp (disch := (first | rfl | with_reducible assumption | with_reducible solve_by_elim (maxDepth := 8) [Shape.inT, Shape.inI, Shape.inC, Shape.inK, Shape.obF, Shape.obT, Shape.arI, Arr.inF] | omega)) only [S2, Nat.reduceEqDiff, Nat.reduceAdd, iput, puts, hlt, g1, g2]
      refine den_mset (o := 0) (kl := [p.getD i 0]) (x := int (i : Int)) rfl m1 rfl rfl rfl fun H4 m4 e4 => ?_
      rw [mput_new nf] at m4
      have m4 : MapAt H4 0 none (fstL p (i + 1)) := by rw [fstL, if_pos hf]; exact m4
      have g3 : pvf H4 (.mget none false (int 0)) [.mm 0, int (p.getD i 0)] = some (int (i : Int)) := by
        have := (m4.get (mkey_int (p.getD i 0)) (int 0)).2
        rw [fstL_some hf (Nat.lt_succ_self _)] at this
        exact this
      repeat (first | simp (disch := (first | rfl | with_reducible assumption | with_reducible solve_by_elim (maxDepth := 8) [Shape.inT, Shape.inI, Shape.inC, Shape.inK, Shape.obF, Shape.obT, Shape.arI, Arr.inF] | omega)) only [S2, Nat.reduceEqDiff, Nat.reduceAdd, iput, puts, g3] | (refine den_call rfl (by first | (simp only [SS, Nat.reduceEqDiff, Nat.reduceAdd, iput, puts, FF, frzL_cat]; done) | (simp only [SS, Nat.reduceEqDiff, Nat.reduceAdd, iput, puts, FF, frzL_cat]; rfl)) (by first | exact s.fzEnds K.ends ai) ?_) | (refine den_calli rfl (by first | (simp only [SS, Nat.reduceEqDiff, Nat.reduceAdd, iput, puts, FF, frzL_cat]; done) | (simp only [SS, Nat.reduceEqDiff, Nat.reduceAdd, iput, puts, FF, frzL_cat]; rfl)) (by first | exact s.fzEnds K.ends ai) ?_))
      refine ⟨fun e2 => absurd e2 (by simp), ?_⟩
      refine ⟨i + 1, rfl, ⟨hlt, m4, fun j hj => ?_⟩, by omega⟩
      by_cases ej : j = i
      · rw [ej, efb]; exact ⟨rfl, rfl⟩
      · exact hP j (by omega)
    | false =>
      obtain ⟨f1, f2, f3⟩ := fb_ok (encP p) i
      have flt : fb (encP p) i < i := by
        have : fb (encP p) i ≠ i := fun e => by rw [e, hf] at f2; cases f2
        omega
      have nf := fstL_some f2 flt
      rw [pfb] at nf
      have g2 : pvf H1 (.mget none true (int 0)) [.mm 0, int (p.getD i 0)] = some (.tup [int (fb (encP p) i : Int), bool true]) := by
        have := (m1.get (mkey_int (p.getD i 0)) (int 0)).1
        rw [nf] at this
        exact this
      have g3 : pvf H1 (.mget none false (int 0)) [.mm 0, int (p.getD i 0)] = some (int (fb (encP p) i : Int)) := by
        have := (m1.get (mkey_int (p.getD i 0)) (int 0)).2
        rw [nf] at this
        exact this
      have af : Arr c (fb (encP p) i : Int) := Arr.of (by omega)
      have m4 : MapAt H1 0 none (fstL p (i + 1)) := by rw [fstL, if_neg (by rw [hf]; decide), List.append_nil]; exact m1
      repeat (first | simp (disch := (first | rfl | with_reducible assumption | with_reducible solve_by_elim (maxDepth := 8) [Shape.inT, Shape.inI, Shape.inC, Shape.inK, Shape.obF, Shape.obT, Shape.arI, Arr.inF] | omega)) only [S2, Nat.reduceEqDiff, Nat.reduceAdd, iput, puts, hlt, g1, g2, g3] | (refine den_call rfl (by first | (simp only [SS, Nat.reduceEqDiff, Nat.reduceAdd, iput, puts, FF, frzL_cat]; done) | (simp only [SS, Nat.reduceEqDiff, Nat.reduceAdd, iput, puts, FF, frzL_cat]; rfl)) (by first | exact s.fzEnds K.ends ai | exact s.fzEnds K.ends af) ?_) | (refine den_calli rfl (by first | (simp only [SS, Nat.reduceEqDiff, Nat.reduceAdd, iput, puts, FF, frzL_cat]; done) | (simp only [SS, Nat.reduceEqDiff, Nat.reduceAdd, iput, puts, FF, frzL_cat]; rfl)) (by first | exact s.fzEnds K.ends ai | exact s.fzEnds K.ends af) ?_))
      refine ⟨fun e2 => ?_, fun e2 => ?_⟩
      · exact ⟨_, rfl, hempty, (fun _ _ h => by cases h), ret_false (fun q => by have := q.2.2.1 i hlt; rw [this.1, this.2] at e2; simp at e2)⟩
      · try simp (disch := (first | rfl | with_reducible assumption | with_reducible solve_by_elim (maxDepth := 8) [Shape.inT, Shape.inI, Shape.inC, Shape.inK, Shape.obF, Shape.obT, Shape.arI, Arr.inF] | omega)) only [S2, Nat.reduceEqDiff, Nat.reduceAdd, iput, puts]
        refine ⟨i + 1, rfl, ⟨hlt, m4, fun j hj => ?_⟩, by omega⟩
        by_cases ej : j = i
        · rw [ej]
          have e2 : c.F i = c.F (fb (encP p) i) ∧ c.T i = c.T (fb (encP p) i) := by simpa using e2
          exact ⟨e2.1.symm, e2.2.symm⟩
        · exact hP j (by omega)
  · have hPP : ParP c p := fun j hj => hP j (by omega)
    have hie : i = p.length := by omega
    subst hie
    have look : ∀ f : Nat, f < p.length → pvf H1 (.mget none false (int 0)) [.mm 0, int (p.getD f 0)] = some (int (fb (encP p) f : Int)) := fun f hf => by
      obtain ⟨f1, f2, f3⟩ := fb_ok (encP p) f
      have nf := fstL_some f2 (show fb (encP p) f < p.length by omega)
      rw [pfb] at nf
      have := (m1.get (mkey_int (p.getD f 0)) (int 0)).2
      rw [nf] at this
      exact this
    try simp (disch := (first | rfl | with_reducible assumption | with_reducible solve_by_elim (maxDepth := 8) [Shape.inT, Shape.inI, Shape.inC, Shape.inK, Shape.obF, Shape.obT, Shape.arI, Arr.inF] | omega)) only [S2, Nat.reduceEqDiff, Nat.reduceAdd, iput, puts, hlt]
    refine den_for c.c.length (fun i => ∀ f, f < i → ∀ g, g < c.f.length → c.T f = c.F g → p.getD (kN c f g) 0 = p.getD (kN c (fb (encP p) f) (fb (encP p) g)) 0) (fun f hf => by omega) fun f hf hq => ?_
    by_cases hlf : f < c.c.length
    · have af : Arr c (f : Int) := Arr.of (by omega)
      have iR : InR c.c (f : Int) := s.inC af
      have rl := s.lenR af
      have ip : In p (f : Int) := In.nat (by omega)
      have gp : gI p (f : Int) = p.getD f 0 := gI_nat p f
      try simp (disch := (first | rfl | with_reducible assumption | with_reducible solve_by_elim (maxDepth := 8) [Shape.inT, Shape.inI, Shape.inC, Shape.inK, Shape.obF, Shape.obT, Shape.arI, Arr.inF] | omega)) only [S2, Nat.reduceEqDiff, Nat.reduceAdd, iput, puts, hlf, rl]
      refine den_loop (α := Nat) (fun q => [int q]) (fun q H' nx' => (q ≤ c.f.length ∧ ∀ g, g < q → c.T f = c.F g → p.getD (kN c f g) 0 = p.getD (kN c (fb (encP p) f) (fb (encP p) g)) 0) ∧ H' = H1 ∧ nx' = n1) (fun q => c.f.length - q) 0 rfl ⟨⟨Nat.zero_le _, fun g hg => by omega⟩, rfl, rfl⟩ ?_
      rintro g H2 n2 ⟨⟨hg, hr⟩, rfl, rfl⟩
      by_cases hlg : g < c.f.length
      · have ag : Arr c (g : Int) := Arr.of hlg
        have ig : In p (g : Int) := In.nat (by omega)
        have gg : gI p (g : Int) = p.getD g 0 := gI_nat p g
        have iK := s.inK af ag
        have kI := s.kI af ag
        have next : (c.T f = c.F g → p.getD (kN c f g) 0 = p.getD (kN c (fb (encP p) f) (fb (encP p) g)) 0) → ∃ a' : Nat, [int ((g + 1 : Nat) : Int)] = [int (a' : Int)] ∧ (a' ≤ c.f.length ∧ ∀ g, g < a' → c.T f = c.F g → p.getD (kN c f g) 0 = p.getD (kN c (fb (encP p) f) (fb (encP p) g)) 0) ∧ c.f.length - a' < c.f.length - g := fun q =>
          ⟨g + 1, rfl, ⟨hlg, fun g' hg' => by
            by_cases eg : g' = g
            · rw [eg]; exact q
            · exact hr g' (by omega)⟩, by omega⟩
        try simp (disch := (first | rfl | with_reducible assumption | with_reducible solve_by_elim (maxDepth := 8) [Shape.inT, Shape.inI, Shape.inC, Shape.inK, Shape.obF, Shape.obT, Shape.arI, Arr.inF] | omega)) only [S2, Nat.reduceEqDiff, Nat.reduceAdd, iput, puts, hlg]
        refine ⟨fun e3 => ?_, fun e3 => ?_⟩
        · have e4 := kI.1 e3
          have aK := s.arK af ag e4
          have a1 : Arr c (fb (encP p) f : Int) := Arr.of (lt f (by omega))
          have a2 : Arr c (fb (encP p) g : Int) := Arr.of (lt g hlg)
          have e5 : c.T (fb (encP p) f : Int) = c.F (fb (encP p) g : Int) := by rw [(hPP f (by omega)).2, (hPP g (by omega)).1, e4]
          have aK2 := s.arK a1 a2 e5
          have j1 : In p (c.K f g) := ⟨aK.1, by have := aK.2; omega⟩
          have j2 : In p (c.K (fb (encP p) f) (fb (encP p) g)) := ⟨aK2.1, by have := aK2.2; omega⟩
          have v1 : gI p (c.K f g) = p.getD (kN c f g) 0 := rfl
          have v2 : gI p (c.K (fb (encP p) f) (fb (encP p) g)) = p.getD (kN c (fb (encP p) f) (fb (encP p) g)) 0 := rfl
          repeat (first | simp (disch := (first | rfl | with_reducible assumption | with_reducible solve_by_elim (maxDepth := 8) [Shape.inT, Shape.inI, Shape.inC, Shape.inK, Shape.obF, Shape.obT, Shape.arI, Arr.inF] | omega)) only [S2, Nat.reduceEqDiff, Nat.reduceAdd, iput, puts, gp, gg, look f (by omega), look g (by omega), v1] | (refine den_call rfl (by first | (simp only [SS, Nat.reduceEqDiff, Nat.reduceAdd, iput, puts, FF, frzL_cat]; done) | (simp only [SS, Nat.reduceEqDiff, Nat.reduceAdd, iput, puts, FF, frzL_cat]; rfl)) (by first | exact s.fzThen K.thn a1 a2) ?_) | (refine den_calli rfl (by first | (simp only [SS, Nat.reduceEqDiff, Nat.reduceAdd, iput, puts, FF, frzL_cat]; done) | (simp only [SS, Nat.reduceEqDiff, Nat.reduceAdd, iput, puts, FF, frzL_cat]; rfl)) (by first | exact s.fzThen K.thn a1 a2) ?_))
          try simp (disch := (first | rfl | with_reducible assumption | with_reducible solve_by_elim (maxDepth := 8) [Shape.inT, Shape.inI, Shape.inC, Shape.inK, Shape.obF, Shape.obT, Shape.arI, Arr.inF] | omega)) only [S2, Nat.reduceEqDiff, Nat.reduceAdd, iput, puts, v2]
          refine ⟨fun e6 => ?_, fun e6 => ?_⟩
          · exact ⟨_, rfl, hempty, (fun _ _ h => by cases h), ret_false (fun q => e6 (q.2.2.2 f (by omega) g hlg e4))⟩
          · try simp (disch := (first | rfl | with_reducible assumption | with_reducible solve_by_elim (maxDepth := 8) [Shape.inT, Shape.inI, Shape.inC, Shape.inK, Shape.obF, Shape.obT, Shape.arI, Arr.inF] | omega)) only [S2, Nat.reduceEqDiff, Nat.reduceAdd, iput, puts]
            exact next fun _ => by first | exact e6 | simpa using e6
        · try simp (disch := (first | rfl | with_reducible assumption | with_reducible solve_by_elim (maxDepth := 8) [Shape.inT, Shape.inI, Shape.inC, Shape.inK, Shape.obF, Shape.obT, Shape.arI, Arr.inF] | omega)) only [S2, Nat.reduceEqDiff, Nat.reduceAdd, iput, puts]
          exact next fun e => absurd (kI.2 e) e3
      · try simp (disch := (first | rfl | with_reducible assumption | with_reducible solve_by_elim (maxDepth := 8) [Shape.inT, Shape.inI, Shape.inC, Shape.inK, Shape.obF, Shape.obT, Shape.arI, Arr.inF] | omega)) only [S2, Nat.reduceEqDiff, Nat.reduceAdd, iput, puts, hlg]
        refine up rfl hlf fun f' hf' => ?_
        by_cases ef : f' = f
        · rw [ef]; exact fun g' hg' => hr g' (by omega)
        · exact hq f' (by omega)
    · try simp (disch := (first | rfl | with_reducible assumption | with_reducible solve_by_elim (maxDepth := 8) [Shape.inT, Shape.inI, Shape.inC, Shape.inK, Shape.obF, Shape.obT, Shape.arI, Arr.inF] | omega)) only [S2, Nat.reduceEqDiff, Nat.reduceAdd, iput, puts, hlf]
      exact ⟨_, rfl, hempty, (fun _ _ h => by cases h), ret_true ⟨ln, e1, hPP, fun f hf => hq f (by omega)⟩⟩

def V_spec_IsPartition : Vc :=
  .op true (.p .len [.t 0]) <|
  .op true (.p (.bin .leq) [.t 1, .c (int 256)]) <|
  .br 2
   (.op true (.call (.f 393) [.t 0]) <|
   .op true (.call (.f 246) [.t 0, .t 3]) <|
   .ret [(.t 4, none)])
   (.ret [(.c (bool false), none)])
theorem IsPartition_fz (hi : Has P ν 376 2 V_spec_l01Index) (hcl : Has P ν 393 1 V_spec_l01Classes) (hsa : Has P ν 246 2 V_spec_l01Same) (h : Has P ν 397 1 V_spec_IsPartition) (p : List Int) (hl : p.length ≤ 256) : Fz (OkM P ν) 397 [islice p] (bool (decide (Nrm p))) := by
  refine Fn.fzb fun H nx => h _ _ _ _ rfl fun hwf => ?_
  unfold V_spec_IsPartition
  have cz : Fz (OkM P ν) 393 [islice p] (islice (nrm (encP p) p.length)) := OkM.fz (fun H nx => l01ClassesG_ok hi hcl p (encP p) (encP_pat p) p.length rfl (by omega) H nx) fun _ _ _ hh => hh.frz _
  have l2 : (p.length : Int) ≤ 256 := by omega
  repeat (first | simp (disch := (first | rfl | with_reducible assumption | with_reducible solve_by_elim (maxDepth := 8) [Shape.inT, Shape.inI, Shape.inC, Shape.inK, Shape.obF, Shape.obT, Shape.arI, Arr.inF] | omega)) only [S2, Nat.reduceEqDiff, Nat.reduceAdd, iput, puts, l2] | (refine den_call rfl (by first | (simp only [SS, Nat.reduceEqDiff, Nat.reduceAdd, iput, puts, FF, frzL_cat]; done) | (simp only [SS, Nat.reduceEqDiff, Nat.reduceAdd, iput, puts, FF, frzL_cat]; rfl)) (by first | exact cz | exact (l01Same_ok hsa p (nrm (encP p) p.length) (by omega)).fzb) ?_) | (refine den_calli rfl (by first | (simp only [SS, Nat.reduceEqDiff, Nat.reduceAdd, iput, puts, FF, frzL_cat]; done) | (simp only [SS, Nat.reduceEqDiff, Nat.reduceAdd, iput, puts, FF, frzL_cat]; rfl)) (by first | exact cz | exact (l01Same_ok hsa p (nrm (encP p) p.length) (by omega)).fzb) ?_))
  refine ⟨_, rfl, H, fun _ _ h => h, ?_, rfl, Nat.le_refl _⟩
  show bool _ = bool _
  congr 1
  exact decide_eq_decide.2 Iff.rfl

def V_spec_l01Pairs : Vc :=
  .op true (.p (.msl 0 [] []) []) <|
  .loop 0 [.t 1, .c (int 0)] <|
  .op true (.p .len [.t 0]) <|
  .op true (.p (.bin .lss) [.t 3, .t 4]) <|
  .br 5
   (.op true (.p (.iad 1) [.t 0, .t 3]) <|
   .op true (.p (.ld none) [.t 6]) <|
   .op true (.call (.f 376) [.t 0, .t 7]) <|
   .op true (.p (.msl 2 [int 0, int 0] [(0, 1), (1, 1)]) [.t 8, .t 3]) <|
   .op true (.p (.msl 1 [.nil] [(0, 1)]) [.t 9]) <|
   .op true (.app 1 (.t 2) (.t 10)) <|
   .op true (.p (.bin .add) [.t 3, .c (int 1)]) <|
   .again 0 [.t 11, .t 12])
   (.ret [(.t 2, none)])
theorem l01Pairs_fi (hi : Has P ν 376 2 V_spec_l01Index) (h : Has P ν 398 1 V_spec_l01Pairs) (p : List Int) (hl : p.length ≤ 256) : Fi (OkM P ν) 398 [islice p] (.sl (rows (prM (prP p))) (prM (prP p)).length) := by
  refine OkM.fi (Ψ := fun H nx => IsC (rows (prM (prP p))) (prM (prP p)).length 1 H nx) (fun H nx => h _ _ _ _ rfl fun hwf => ?_) fun _ _ _ hh => hh.rows
  unfold V_spec_l01Pairs
  have pl : (prM (prP p)).length = p.length := by simp [prM, prP]
  try simp (disch := (first | rfl | with_reducible assumption | with_reducible solve_by_elim (maxDepth := 8) [Shape.inT, Shape.inI, Shape.inC, Shape.inK, Shape.obF, Shape.obT, Shape.arI, Arr.inF] | omega)) only [S2, Nat.reduceEqDiff, Nat.reduceAdd, iput, puts]
  refine den_loop (α := Nat × AV) (fun a => [a.2, int a.1]) (fun a H' nx' => a.1 ≤ p.length ∧ IsC (rows ((prM (prP p)).take a.1)) ((prM (prP p)).take a.1).length 1 H nx a.2 H' nx') (fun a => p.length - a.1) (0, .nil) rfl ⟨Nat.zero_le _, IsC.nil⟩ ?_
  rintro ⟨i, v⟩ H1 n1 ⟨hi', hI⟩
  simp only at hi' hI
  by_cases hlt : i < p.length
  · have i1 : In p (i : Int) := In.nat hlt
    have g1 : gI p (i : Int) = p.getD i 0 := gI_nat p i
    obtain ⟨f1, f2, f3⟩ := fb_ok (encP p) i
    have ix : idxI p (p.getD i 0) = fb (encP p) i := idxI_at (by omega) (encP_eq.1 f3) fun j hj e => of_decide_eq_true f2 j hj (encP_eq.2 (e.trans (encP_eq.1 f3).symm))
    have iz := l01Index_fz hi p (p.getD i 0) (by omega)
    rw [ix] at iz
    have tk : (prM (prP p)).take (i + 1) = (prM (prP p)).take i ++ [[(fb (encP p) i : Int), (i : Int)]] := by
      rw [take_succ_rows (by omega)]
      congr 1
      simp [prM, prP, List.getD, hlt]
    repeat (first | simp (disch := (first | rfl | with_reducible assumption | with_reducible solve_by_elim (maxDepth := 8) [Shape.inT, Shape.inI, Shape.inC, Shape.inK, Shape.obF, Shape.obT, Shape.arI, Arr.inF] | omega)) only [S2, Nat.reduceEqDiff, Nat.reduceAdd, iput, puts, hlt, g1] | (refine den_call rfl (by first | (simp only [SS, Nat.reduceEqDiff, Nat.reduceAdd, iput, puts, FF, frzL_cat]; done) | (simp only [SS, Nat.reduceEqDiff, Nat.reduceAdd, iput, puts, FF, frzL_cat]; rfl)) (by first | exact iz) ?_) | (refine den_calli rfl (by first | (simp only [SS, Nat.reduceEqDiff, Nat.reduceAdd, iput, puts, FF, frzL_cat]; done) | (simp only [SS, Nat.reduceEqDiff, Nat.reduceAdd, iput, puts, FF, frzL_cat]; rfl)) (by first | exact iz) ?_))
    try simp (disch := (first | rfl | with_reducible assumption | with_reducible solve_by_elim (maxDepth := 8) [Shape.inT, Shape.inI, Shape.inC, Shape.inK, Shape.obF, Shape.obT, Shape.arI, Arr.inF] | omega)) only [S2, Nat.reduceEqDiff, Nat.reduceAdd, iput, puts, p_msl1R]
    refine den_appC (m := 1) (ds := [islice [(fb (encP p) i : Int), (i : Int)]]) hI rfl (by simp) rfl rfl (by rw [List.length_take]; omega) fun v3 H4 n4 hI2 => ?_
    try simp (disch := (first | rfl | with_reducible assumption | with_reducible solve_by_elim (maxDepth := 8) [Shape.inT, Shape.inI, Shape.inC, Shape.inK, Shape.obF, Shape.obT, Shape.arI, Arr.inF] | omega)) only [S2, Nat.reduceEqDiff, Nat.reduceAdd, iput, puts]
    refine ⟨(i + 1, v3), rfl, ⟨hlt, ?_⟩, by simp only; omega⟩
    simp only
    rw [tk, rows_append, List.length_append]
    exact hI2
  · try simp (disch := (first | rfl | with_reducible assumption | with_reducible solve_by_elim (maxDepth := 8) [Shape.inT, Shape.inI, Shape.inC, Shape.inK, Shape.obF, Shape.obT, Shape.arI, Arr.inF] | omega)) only [S2, Nat.reduceEqDiff, Nat.reduceAdd, iput, puts, hlt]
    have hie : i = (prM (prP p)).length := by omega
    subst hie
    rw [List.take_length] at hI
    exact ⟨_, rfl, _, fun _ _ h => h, hI⟩

def V_spec_l03Congruence : Vc :=
  .op true (.p .box [.t 0]) <|
  .op true (.p .len [.t 1]) <|
  .op true (.p (.fad 1) [.t 2]) <|
  .op true (.p (.ld none) [.t 4]) <|
  .op true (.p .len [.t 5]) <|
  .op true (.p (.bin .neq) [.t 3, .t 6]) <|
  .br 7
   (.ret [(.c (bool false), none)])
   (.op true (.call (.f 397) [.t 1]) <|
   .op true (.p .bnot [.t 8]) <|
   .br 9
    (.ret [(.c (bool false), none)])
    (.op true (.call (.f 398) [.t 1]) <|
    .loop 0 [.c (int 0)] <|
    .op true (.p .len [.t 10]) <|
    .op true (.p (.bin .lss) [.t 11, .t 12]) <|
    .br 13
     (.op true (.p (.ld (some 5)) [.t 2]) <|
     .op true (.p (.iad 1) [.t 10, .t 11]) <|
     .op true (.p (.ld none) [.t 15]) <|
     .op true (.p (.iad 1) [.t 16, .c (int 0)]) <|
     .op true (.p (.ld none) [.t 17]) <|
     .op true (.p (.iad 1) [.t 10, .t 11]) <|
     .op true (.p (.ld none) [.t 19]) <|
     .op true (.p (.iad 1) [.t 20, .c (int 1)]) <|
     .op true (.p (.ld none) [.t 21]) <|
     .op true (.call (.f 340) [.t 14, .t 18, .t 22]) <|
     .op true (.p .bnot [.t 23]) <|
     .br 24
      (.ret [(.c (bool false), none)])
      (.op true (.p (.bin .add) [.t 11, .c (int 1)]) <|
      .again 0 [.t 25]))
     (.op true (.p (.ld (some 5)) [.t 2]) <|
     .op true (.call (.f 341) [.t 14, .t 10]) <|
     .op true (.call (.f 246) [.t 1, .t 15]) <|
     .ret [(.t 16, none)])))
set_option maxHeartbeats 2000000 in
theorem l03Congruence_fz (J : HLab P ν) (hsa : Has P ν 246 2 V_spec_l01Same) (hip : Has P ν 397 1 V_spec_IsPartition) (hpr : Has P ν 398 1 V_spec_l01Pairs) (hpa : Has P ν 340 3 V_spec_l03Parallel) (how : Has P ν 259 1 V_spec_l01Own) (how2 : Has P ν 360 1 V_spec_l01Own2) (ht : Has P ν 253 3 V_spec_l02Then) (hsp : Has P ν 341 2 V_spec_l03Spread) (h : Has P ν 299 2 V_spec_l03Congruence) (c : Cat) (k : IsCat c) (p : List Int) (hl : p.length ≤ 1048576) :
    Fz (OkM P ν) 299 [.agg c.cells, islice p] (bool (decide (Cong c p))) := by
  refine Fn.fzb fun H nx => h _ _ _ _ rfl fun hwf => ?_
  unfold V_spec_l03Congruence
  have s := k.1
  have n40 := s.n40
  try simp (disch := (first | rfl | with_reducible assumption | with_reducible solve_by_elim (maxDepth := 8) [Shape.inT, Shape.inI, Shape.inC, Shape.inK, Shape.obF, Shape.obT, Shape.arI, Arr.inF] | omega)) only [S2, Nat.reduceEqDiff, Nat.reduceAdd, iput, puts]
  refine ⟨fun e => ?_, fun e => ?_⟩
  · exact ⟨_, rfl, H, fun _ _ h => h, ret_false (fun q => e (by have := q.1; omega)), rfl, Nat.le_refl _⟩
  have ln : p.length = c.f.length := by omega
  repeat (first | simp (disch := (first | rfl | with_reducible assumption | with_reducible solve_by_elim (maxDepth := 8) [Shape.inT, Shape.inI, Shape.inC, Shape.inK, Shape.obF, Shape.obT, Shape.arI, Arr.inF] | omega)) only [S2, Nat.reduceEqDiff, Nat.reduceAdd, iput, puts] | (refine den_call rfl (by first | (simp only [SS, Nat.reduceEqDiff, Nat.reduceAdd, iput, puts, FF, frzL_cat]; done) | (simp only [SS, Nat.reduceEqDiff, Nat.reduceAdd, iput, puts, FF, frzL_cat]; rfl)) (by first | exact IsPartition_fz J.index J.classes hsa hip p (by omega)) ?_) | (refine den_calli rfl (by first | (simp only [SS, Nat.reduceEqDiff, Nat.reduceAdd, iput, puts, FF, frzL_cat]; done) | (simp only [SS, Nat.reduceEqDiff, Nat.reduceAdd, iput, puts, FF, frzL_cat]; rfl)) (by first | exact IsPartition_fz J.index J.classes hsa hip p (by omega)) ?_))
  refine ⟨fun e1 => ?_, fun e1 => ?_⟩
  · exact ⟨_, rfl, H, fun _ _ h => h, ret_false (fun q => e1 q.2.1), rfl, Nat.le_refl _⟩
  have pl : (prM (prP p)).length = p.length := by simp [prM, prP]
  repeat (first | simp (disch := (first | rfl | with_reducible assumption | with_reducible solve_by_elim (maxDepth := 8) [Shape.inT, Shape.inI, Shape.inC, Shape.inK, Shape.obF, Shape.obT, Shape.arI, Arr.inF] | omega)) only [S2, Nat.reduceEqDiff, Nat.reduceAdd, iput, puts] | (refine den_call rfl (by first | (simp only [SS, Nat.reduceEqDiff, Nat.reduceAdd, iput, puts, FF, frzL_cat]; done) | (simp only [SS, Nat.reduceEqDiff, Nat.reduceAdd, iput, puts, FF, frzL_cat]; rfl)) (by first | exact l01Pairs_fi J.index hpr p (by omega)) ?_) | (refine den_calli rfl (by first | (simp only [SS, Nat.reduceEqDiff, Nat.reduceAdd, iput, puts, FF, frzL_cat]; done) | (simp only [SS, Nat.reduceEqDiff, Nat.reduceAdd, iput, puts, FF, frzL_cat]; rfl)) (by first | exact l01Pairs_fi J.index hpr p (by omega)) ?_))
  refine den_for p.length (fun i => ∀ j, j < i → c.F (fb (encP p) j) = c.F j ∧ c.T (fb (encP p) j) = c.T j) (fun j hj => by omega) fun i hi hp => ?_
  by_cases hlt : i < p.length
  · have iR : InR (prM (prP p)) (i : Int) := InR.nat (by omega)
    have f1 := (fb_ok (encP p) i).1
    have row : gR (prM (prP p)) (i : Int) = [(fb (encP p) i : Int), (i : Int)] := by show (prM (prP p)).getD i [] = _; simp [prM, prP, List.getD, hlt]
    have r0 : In [(fb (encP p) i : Int), (i : Int)] 0 := ⟨by omega, by simp⟩
    have r1 : In [(fb (encP p) i : Int), (i : Int)] 1 := ⟨by omega, by simp⟩
    have g0 : gI [(fb (encP p) i : Int), (i : Int)] 0 = fb (encP p) i := rfl
    have g1 : gI [(fb (encP p) i : Int), (i : Int)] 1 = i := rfl
    have ai : Arr c (i : Int) := Arr.of (by omega)
    have af : Arr c (fb (encP p) i : Int) := Arr.of (by omega)
    have hlt' : i < (prM (prP p)).length := by omega
    repeat (first | simp (disch := (first | rfl | with_reducible assumption | with_reducible solve_by_elim (maxDepth := 8) [Shape.inT, Shape.inI, Shape.inC, Shape.inK, Shape.obF, Shape.obT, Shape.arI, Arr.inF] | omega)) only [S2, Nat.reduceEqDiff, Nat.reduceAdd, iput, puts, hlt', row, g0, g1] | (refine den_call rfl (by first | (simp only [SS, Nat.reduceEqDiff, Nat.reduceAdd, iput, puts, FF, frzL_cat]; done) | (simp only [SS, Nat.reduceEqDiff, Nat.reduceAdd, iput, puts, FF, frzL_cat]; rfl)) (by first | exact s.fzParallel hpa af ai) ?_) | (refine den_calli rfl (by first | (simp only [SS, Nat.reduceEqDiff, Nat.reduceAdd, iput, puts, FF, frzL_cat]; done) | (simp only [SS, Nat.reduceEqDiff, Nat.reduceAdd, iput, puts, FF, frzL_cat]; rfl)) (by first | exact s.fzParallel hpa af ai) ?_))
    refine ⟨fun e2 => ?_, fun e2 => ?_⟩
    · exact ⟨_, rfl, H, fun _ _ h => h, ret_false (fun q => e2 (q.2.2.1 i hlt)), rfl, Nat.le_refl _⟩
    · try simp (disch := (first | rfl | with_reducible assumption | with_reducible solve_by_elim (maxDepth := 8) [Shape.inT, Shape.inI, Shape.inC, Shape.inK, Shape.obF, Shape.obT, Shape.arI, Arr.inF] | omega)) only [S2, Nat.reduceEqDiff, Nat.reduceAdd, iput, puts]
      refine up rfl hlt fun j hj => ?_
      by_cases ej : j = i
      · rw [ej]; exact e2
      · exact hp j (by omega)
  · have hP : ParP c p := fun j hj => hp j (by omega)
    have hlt' : ¬ i < (prM (prP p)).length := by omega
    have sp := l03Spread_fi J how how2 ht hsp c k (prP p) (by simp [prP]; omega) (prP_par ln hP)
    repeat (first | simp (disch := (first | rfl | with_reducible assumption | with_reducible solve_by_elim (maxDepth := 8) [Shape.inT, Shape.inI, Shape.inC, Shape.inK, Shape.obF, Shape.obT, Shape.arI, Arr.inF] | omega)) only [S2, Nat.reduceEqDiff, Nat.reduceAdd, iput, puts, hlt'] | (refine den_call rfl (by first | (simp only [SS, Nat.reduceEqDiff, Nat.reduceAdd, iput, puts, FF, frzL_cat]; done) | (simp only [SS, Nat.reduceEqDiff, Nat.reduceAdd, iput, puts, FF, frzL_cat]; rfl)) (by first | exact sp) ?_) | (refine den_calli rfl (by first | (simp only [SS, Nat.reduceEqDiff, Nat.reduceAdd, iput, puts, FF, frzL_cat]; done) | (simp only [SS, Nat.reduceEqDiff, Nat.reduceAdd, iput, puts, FF, frzL_cat]; rfl)) (by first | exact sp) ?_))
    repeat (first | simp (disch := (first | rfl | with_reducible assumption | with_reducible solve_by_elim (maxDepth := 8) [Shape.inT, Shape.inI, Shape.inC, Shape.inK, Shape.obF, Shape.obT, Shape.arI, Arr.inF] | omega)) only [S2, Nat.reduceEqDiff, Nat.reduceAdd, iput, puts] | (refine den_call rfl (by first | (simp only [SS, Nat.reduceEqDiff, Nat.reduceAdd, iput, puts, FF, frzL_cat]; done) | (simp only [SS, Nat.reduceEqDiff, Nat.reduceAdd, iput, puts, FF, frzL_cat]; rfl)) (by first | exact (l01Same_ok hsa p (nrm (lab (sprP c (prP p))) c.f.length) (by omega)).fzb) ?_) | (refine den_calli rfl (by first | (simp only [SS, Nat.reduceEqDiff, Nat.reduceAdd, iput, puts, FF, frzL_cat]; done) | (simp only [SS, Nat.reduceEqDiff, Nat.reduceAdd, iput, puts, FF, frzL_cat]; rfl)) (by first | exact (l01Same_ok hsa p (nrm (lab (sprP c (prP p))) c.f.length) (by omega)).fzb) ?_))
    refine ⟨_, rfl, H, fun _ _ h => h, ?_, rfl, Nat.le_refl _⟩
    show bool _ = bool _
    congr 1
    exact decide_eq_decide.2 ⟨fun q => ⟨ln, e1, hP, (closed_iff k ln e1 hP).2 q⟩, fun q => (closed_iff k ln e1 hP).1 q.2.2.2⟩

def V_IsCongruence : Vc :=
  .op true (.p .box [.t 0]) <|
  .op true (.call (.f 24) [.t 2]) <|
  .op true (.p .bnot [.t 3]) <|
  .br 4
   (.ret [(.c (bool false), none), (.c (int 1), none)])
   (.op true (.call (.f 300) [.t 2, .t 1]) <|
   .ret [(.t 5, none), (.c (int 0), none)])
def V_spec_IsCongruence : Vc :=
  .op true (.p .box [.t 0]) <|
  .op true (.p (.ld (some 5)) [.t 2]) <|
  .op true (.call (.f 22) [.t 3]) <|
  .op true (.p .bnot [.t 4]) <|
  .br 5
   (.ret [(.c (bool false), none), (.c (int 1), none)])
   (.op true (.p (.ld (some 5)) [.t 2]) <|
   .op true (.call (.f 299) [.t 6, .t 1]) <|
   .ret [(.t 7, none), (.c (int 0), none)])
theorem IsCongruence_both (K : HCat P ν) (hno : Has P ν 399 1 V_partition_isNormal) (hic : Has P ν 300 2 V_Category_isCongruence) (h : Has P ν 160 2 V_IsCongruence) (KS : HSpec P ν) (J : HLab P ν) (hsa : Has P ν 246 2 V_spec_l01Same) (hip : Has P ν 397 1 V_spec_IsPartition) (hpr : Has P ν 398 1 V_spec_l01Pairs) (hpa : Has P ν 340 3 V_spec_l03Parallel) (how : Has P ν 259 1 V_spec_l01Own) (how2 : Has P ν 360 1 V_spec_l01Own2) (ht : Has P ν 253 3 V_spec_l02Then) (hsp : Has P ν 341 2 V_spec_l03Spread) (hlc : Has P ν 299 2 V_spec_l03Congruence) (h' : Has P ν 159 2 V_spec_IsCongruence) (c : Cat) (b : Small c) (p : List Int) (hl : p.length ≤ 1048576) :
    ∃ (a : Bool) (k : Int), BothS P ν 160 159 [.agg c.cells, islice p] (.tup [bool a, int k]) := by
  by_cases hc : IsCat c
  · refine ⟨decide (Cong c p), 0, fun H nx => h _ _ _ _ rfl fun hwf => ?_, fun H nx => h' _ _ _ _ rfl fun hwf => ?_⟩
    · unfold V_IsCongruence
      have ic := (isCategory_ok K c b).fzb
      rw [decide_eq_true hc] at ic
      repeat (first | simp (disch := (first | rfl | with_reducible assumption | with_reducible solve_by_elim (maxDepth := 8) [Shape.inT, Shape.inI, Shape.inC, Shape.inK, Shape.obF, Shape.obT, Shape.arI, Arr.inF] | omega)) only [S2, Nat.reduceEqDiff, Nat.reduceAdd, iput, puts] | (refine den_call rfl (by first | (simp only [SS, Nat.reduceEqDiff, Nat.reduceAdd, iput, puts, FF, frzL_cat]; done) | (simp only [SS, Nat.reduceEqDiff, Nat.reduceAdd, iput, puts, FF, frzL_cat]; rfl)) (by first | exact ic) ?_) | (refine den_calli rfl (by first | (simp only [SS, Nat.reduceEqDiff, Nat.reduceAdd, iput, puts, FF, frzL_cat]; done) | (simp only [SS, Nat.reduceEqDiff, Nat.reduceAdd, iput, puts, FF, frzL_cat]; rfl)) (by first | exact ic) ?_))
      repeat (first | simp (disch := (first | rfl | with_reducible assumption | with_reducible solve_by_elim (maxDepth := 8) [Shape.inT, Shape.inI, Shape.inC, Shape.inK, Shape.obF, Shape.obT, Shape.arI, Arr.inF] | omega)) only [S2, Nat.reduceEqDiff, Nat.reduceAdd, iput, puts] | (refine den_call rfl (by first | (simp only [SS, Nat.reduceEqDiff, Nat.reduceAdd, iput, puts, FF, frzL_cat]; done) | (simp only [SS, Nat.reduceEqDiff, Nat.reduceAdd, iput, puts, FF, frzL_cat]; rfl)) (by first | exact isCongruence_fz K hno hic c hc.1 p hl) ?_) | (refine den_calli rfl (by first | (simp only [SS, Nat.reduceEqDiff, Nat.reduceAdd, iput, puts, FF, frzL_cat]; done) | (simp only [SS, Nat.reduceEqDiff, Nat.reduceAdd, iput, puts, FF, frzL_cat]; rfl)) (by first | exact isCongruence_fz K hno hic c hc.1 p hl) ?_))
      exact ⟨_, rfl, H, fun _ _ h => h, rfl, rfl, Nat.le_refl _⟩
    · unfold V_spec_IsCongruence
      have ic := (l02Is_ok KS c b).fzb
      rw [decide_eq_true hc] at ic
      repeat (first | simp (disch := (first | rfl | with_reducible assumption | with_reducible solve_by_elim (maxDepth := 8) [Shape.inT, Shape.inI, Shape.inC, Shape.inK, Shape.obF, Shape.obT, Shape.arI, Arr.inF] | omega)) only [S2, Nat.reduceEqDiff, Nat.reduceAdd, iput, puts] | (refine den_call rfl (by first | (simp only [SS, Nat.reduceEqDiff, Nat.reduceAdd, iput, puts, FF, frzL_cat]; done) | (simp only [SS, Nat.reduceEqDiff, Nat.reduceAdd, iput, puts, FF, frzL_cat]; rfl)) (by first | exact ic) ?_) | (refine den_calli rfl (by first | (simp only [SS, Nat.reduceEqDiff, Nat.reduceAdd, iput, puts, FF, frzL_cat]; done) | (simp only [SS, Nat.reduceEqDiff, Nat.reduceAdd, iput, puts, FF, frzL_cat]; rfl)) (by first | exact ic) ?_))
      repeat (first | simp (disch := (first | rfl | with_reducible assumption | with_reducible solve_by_elim (maxDepth := 8) [Shape.inT, Shape.inI, Shape.inC, Shape.inK, Shape.obF, Shape.obT, Shape.arI, Arr.inF] | omega)) only [S2, Nat.reduceEqDiff, Nat.reduceAdd, iput, puts] | (refine den_call rfl (by first | (simp only [SS, Nat.reduceEqDiff, Nat.reduceAdd, iput, puts, FF, frzL_cat]; done) | (simp only [SS, Nat.reduceEqDiff, Nat.reduceAdd, iput, puts, FF, frzL_cat]; rfl)) (by first | exact l03Congruence_fz J hsa hip hpr hpa how how2 ht hsp hlc c hc p hl) ?_) | (refine den_calli rfl (by first | (simp only [SS, Nat.reduceEqDiff, Nat.reduceAdd, iput, puts, FF, frzL_cat]; done) | (simp only [SS, Nat.reduceEqDiff, Nat.reduceAdd, iput, puts, FF, frzL_cat]; rfl)) (by first | exact l03Congruence_fz J hsa hip hpr hpa how how2 ht hsp hlc c hc p hl) ?_))
      exact ⟨_, rfl, H, fun _ _ h => h, rfl, rfl, Nat.le_refl _⟩
  · refine ⟨false, 1, fun H nx => h _ _ _ _ rfl fun hwf => ?_, fun H nx => h' _ _ _ _ rfl fun hwf => ?_⟩
    · unfold V_IsCongruence
      have ic := (isCategory_ok K c b).fzb
      rw [decide_eq_false hc] at ic
      repeat (first | simp (disch := (first | rfl | with_reducible assumption | with_reducible solve_by_elim (maxDepth := 8) [Shape.inT, Shape.inI, Shape.inC, Shape.inK, Shape.obF, Shape.obT, Shape.arI, Arr.inF] | omega)) only [S2, Nat.reduceEqDiff, Nat.reduceAdd, iput, puts] | (refine den_call rfl (by first | (simp only [SS, Nat.reduceEqDiff, Nat.reduceAdd, iput, puts, FF, frzL_cat]; done) | (simp only [SS, Nat.reduceEqDiff, Nat.reduceAdd, iput, puts, FF, frzL_cat]; rfl)) (by first | exact ic) ?_) | (refine den_calli rfl (by first | (simp only [SS, Nat.reduceEqDiff, Nat.reduceAdd, iput, puts, FF, frzL_cat]; done) | (simp only [SS, Nat.reduceEqDiff, Nat.reduceAdd, iput, puts, FF, frzL_cat]; rfl)) (by first | exact ic) ?_))
      exact ⟨_, rfl, H, fun _ _ h => h, rfl, rfl, Nat.le_refl _⟩
    · unfold V_spec_IsCongruence
      have ic := (l02Is_ok KS c b).fzb
      rw [decide_eq_false hc] at ic
      repeat (first | simp (disch := (first | rfl | with_reducible assumption | with_reducible solve_by_elim (maxDepth := 8) [Shape.inT, Shape.inI, Shape.inC, Shape.inK, Shape.obF, Shape.obT, Shape.arI, Arr.inF] | omega)) only [S2, Nat.reduceEqDiff, Nat.reduceAdd, iput, puts] | (refine den_call rfl (by first | (simp only [SS, Nat.reduceEqDiff, Nat.reduceAdd, iput, puts, FF, frzL_cat]; done) | (simp only [SS, Nat.reduceEqDiff, Nat.reduceAdd, iput, puts, FF, frzL_cat]; rfl)) (by first | exact ic) ?_) | (refine den_calli rfl (by first | (simp only [SS, Nat.reduceEqDiff, Nat.reduceAdd, iput, puts, FF, frzL_cat]; done) | (simp only [SS, Nat.reduceEqDiff, Nat.reduceAdd, iput, puts, FF, frzL_cat]; rfl)) (by first | exact ic) ?_))
      exact ⟨_, rfl, H, fun _ _ h => h, rfl, rfl, Nat.le_refl _⟩
end Go.Av
