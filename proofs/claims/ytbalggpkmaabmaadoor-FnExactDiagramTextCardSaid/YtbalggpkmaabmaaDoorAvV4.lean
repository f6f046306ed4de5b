/-
  Diagrams: comparisons and checks of the program and the reference.
-/
import Derived.Test.YtbalggpkmaabmaaDoorAvV3
namespace Go.Av
open Classical
set_option linter.unusedSimpArgs false
set_option linter.unusedVariables false
variable {P : Program} {ν : Nat → FuncId}

def V_laws_eqDiagramNode : Vc :=
  .op true (.p .box [.t 0]) <|
  .op true (.p .box [.t 1]) <|
  .op true (.p (.fad 0) [.t 2]) <|
  .op true (.p (.ld none) [.t 4]) <|
  .op true (.p (.fad 0) [.t 3]) <|
  .op true (.p (.ld none) [.t 6]) <|
  .op true (.p (.bin .neq) [.t 5, .t 7]) <|
  .br 8
   (.ret [(.c (bool false), none)])
   (.op true (.p (.fad 1) [.t 2]) <|
   .op true (.p (.ld none) [.t 9]) <|
   .op true (.p (.fad 1) [.t 3]) <|
   .op true (.p (.ld none) [.t 11]) <|
   .op true (.p (.bin .neq) [.t 10, .t 12]) <|
   .br 13
    (.ret [(.c (bool false), none)])
    (.ret [(.c (bool true), none)]))
theorem eqDN_same (h : Has P ν 274 2 V_laws_eqDiagramNode) (t : Pr) : Fz (OkM P ν) 274 [.agg (pr2c t), .agg (pr2c t)] (bool true) := by
  refine Fn.fzb fun H nx => h _ _ _ _ rfl fun hwf => ?_
  unfold V_laws_eqDiagramNode
  try simp (disch := (first | rfl | with_reducible assumption | with_reducible solve_by_elim (maxDepth := 8) [Shape.inT, Shape.inI, Shape.inC, Shape.inK, Shape.obF, Shape.obT, Shape.arI, Arr.inF] | omega)) only [S2, Nat.reduceEqDiff, Nat.reduceAdd, iput, puts, pr_box, pr_ldA, pr_ldB, neSelf]
  exact ⟨_, rfl, H, fun _ _ h => h, rfl, rfl, Nat.le_refl _⟩
def V_laws_eqDiagramNodeS : Vc :=
  .op true (.p .len [.t 0]) <|
  .op true (.p .len [.t 1]) <|
  .op true (.p (.bin .neq) [.t 2, .t 3]) <|
  .br 4
   (.ret [(.c (bool false), none)])
   (.loop 0 [.c (int 0)] <|
   .op true (.p .len [.t 0]) <|
   .op true (.p (.bin .lss) [.t 5, .t 6]) <|
   .br 7
    (.op true (.p (.iad 2) [.t 0, .t 5]) <|
    .op true (.p (.ld (some 2)) [.t 8]) <|
    .op true (.p (.iad 2) [.t 1, .t 5]) <|
    .op true (.p (.ld (some 2)) [.t 10]) <|
    .op true (.call (.f 274) [.t 9, .t 11]) <|
    .op true (.p .bnot [.t 12]) <|
    .br 13
     (.ret [(.c (bool false), none)])
     (.op true (.p (.bin .add) [.t 5, .c (int 1)]) <|
     .again 0 [.t 14]))
    (.ret [(.c (bool true), none)]))
theorem eqDNS_same (he : Has P ν 274 2 V_laws_eqDiagramNode) (h : Has P ν 135 2 V_laws_eqDiagramNodeS) (L : List Pr) (hl : L.length ≤ 1048576) : Fz (OkM P ν) 135 [.sl (prCells L) L.length, .sl (prCells L) L.length] (bool true) := by
  refine Fn.fzb fun H nx => h _ _ _ _ rfl fun hwf => ?_
  unfold V_laws_eqDiagramNodeS
  try simp (disch := (first | rfl | with_reducible assumption | with_reducible solve_by_elim (maxDepth := 8) [Shape.inT, Shape.inI, Shape.inC, Shape.inK, Shape.obF, Shape.obT, Shape.arI, Arr.inF] | omega)) only [S2, Nat.reduceEqDiff, Nat.reduceAdd, iput, puts, neSelf]
  refine den_for L.length (fun _ => True) (by trivial) fun i hi _ => ?_
  by_cases hlt : i < L.length
  · repeat (first | simp (disch := (first | rfl | with_reducible assumption | with_reducible solve_by_elim (maxDepth := 8) [Shape.inT, Shape.inI, Shape.inC, Shape.inK, Shape.obF, Shape.obT, Shape.arI, Arr.inF] | omega)) only [S2, Nat.reduceEqDiff, Nat.reduceAdd, iput, puts, hlt, pr_iad hlt, pr_ld hlt] | (refine den_call rfl (by first | (simp only [SS, Nat.reduceEqDiff, Nat.reduceAdd, iput, puts, FF, frzL_cat]; done) | (simp only [SS, Nat.reduceEqDiff, Nat.reduceAdd, iput, puts, FF, frzL_cat]; rfl)) (by first | exact eqDN_same he (L.getD i pr0)) ?_) | (refine den_calli rfl (by first | (simp only [SS, Nat.reduceEqDiff, Nat.reduceAdd, iput, puts, FF, frzL_cat]; done) | (simp only [SS, Nat.reduceEqDiff, Nat.reduceAdd, iput, puts, FF, frzL_cat]; rfl)) (by first | exact eqDN_same he (L.getD i pr0)) ?_))
    exact up rfl hlt trivial
  · try simp (disch := (first | rfl | with_reducible assumption | with_reducible solve_by_elim (maxDepth := 8) [Shape.inT, Shape.inI, Shape.inC, Shape.inK, Shape.obF, Shape.obT, Shape.arI, Arr.inF] | omega)) only [S2, Nat.reduceEqDiff, Nat.reduceAdd, iput, puts, hlt]
    exact ⟨_, rfl, H, fun _ _ h => h, rfl, rfl, Nat.le_refl _⟩

/-- Where the first operand ends. -/
noncomputable def endF (L : List Pr) : Nat → Nat → Int
  | 0, _ => -1
  | n + 1, k => if opn L k ≤ 0 then k else if L.length ≤ k then -1 else endF L n (k + 1)
theorem endF_len {L : List Pr} : ∀ (n k : Nat), n = L.length + 1 - k → k ≤ L.length → (endF L n k = L.length ↔ (∀ j, k ≤ j → j < L.length → 0 < opn L j) ∧ opn L L.length ≤ 0) := by
  intro n
  induction n with
  | zero => intro k e hk; omega
  | succ n ih =>
    intro k e hk
    unfold endF
    by_cases c : opn L k ≤ 0
    · rw [if_pos c]
      constructor
      · intro q
        have q : k = L.length := by omega
        subst q
        exact ⟨fun j h1 h2 => by omega, c⟩
      · intro ⟨h1, h2⟩
        by_cases e : k = L.length
        · rw [e]
        · have := h1 k (Nat.le_refl _) (by omega); omega
    · rw [if_neg c]
      by_cases d : L.length ≤ k
      · rw [if_pos d]
        have e : k = L.length := by omega
        subst e
        constructor
        · intro q; omega
        · intro q; exact absurd q.2 c
      · rw [if_neg d, ih (k + 1) (by omega) (by omega)]
        constructor
        · intro ⟨h1, h2⟩
          refine ⟨fun j h3 h4 => ?_, h2⟩
          by_cases e : j = k
          · rw [e]; omega
          · exact h1 j (by omega) h4
        · intro ⟨h1, h2⟩; exact ⟨fun j h3 h4 => h1 j (by omega) h4, h2⟩
theorem isDia_iff {L : List Pr} : IsDia L ↔ L.length ≤ 40 ∧ (∀ i, i < L.length → nodeOk (nd L i)) ∧ endF L (L.length + 1) 0 = L.length := by
  rw [endF_len (L.length + 1) 0 rfl (Nat.zero_le _)]
  constructor
  · intro m; exact ⟨m.len, m.ok, fun j _ h => m.pos j h, by rw [m.fin]; omega⟩
  · intro ⟨h1, h2, h3, h4⟩
    refine ⟨h1, h2, fun k hk => h3 k (Nat.zero_le _) hk, ?_⟩
    cases hl : L.length with
    | zero => rw [hl] at h4; simp [opn] at h4
    | succ n =>
      have := h3 n (Nat.zero_le _) (by omega)
      have a := ar_cases (nd L n)
      rw [hl] at h4
      rw [opn_succ] at h4 ⊢
      omega
def V_operandEnd : Vc :=
  .loop 0 [.t 1, .c (int 1)] <|
  .op true (.p (.bin .gtr) [.t 3, .c (int 0)]) <|
  .br 4
   (.op true (.p .len [.t 0]) <|
   .op true (.p (.bin .geq) [.t 2, .t 5]) <|
   .br 6
    (.ret [(.c (int (-1)), none)])
    (.op true (.p (.iad 2) [.t 0, .t 2]) <|
    .op true (.p (.fad 0) [.t 7]) <|
    .op true (.p (.ld none) [.t 8]) <|
    .op true (.p (.bin .geq) [.t 9, .c (int 2)]) <|
    .br 10
     (.op true (.p (.bin .add) [.t 3, .c (int 2)]) <|
     .op true (.p (.bin .add) [.t 2, .c (int 1)]) <|
     .op true (.p (.bin .sub) [.t 11, .c (int 1)]) <|
     .again 0 [.t 12, .t 13])
     (.op true (.p (.bin .add) [.t 2, .c (int 1)]) <|
     .op true (.p (.bin .sub) [.t 3, .c (int 1)]) <|
     .again 0 [.t 11, .t 12])))
   (.ret [(.t 2, none)])
theorem operandEnd_fz (h : Has P ν 386 2 V_operandEnd) (L : List Pr) (hl : L.length ≤ 1048576) : Fz (OkM P ν) 386 [.sl (prCells L) L.length, int 0] (int (endF L (L.length + 1) 0)) := by
  refine Fn.fzi fun H nx => h _ _ _ _ rfl fun hwf => ?_
  unfold V_operandEnd
  obtain ⟨E, he0⟩ : ∃ E, E = endF L (L.length + 1) 0 := ⟨_, rfl⟩
  rw [← he0]
  refine den_loop (α := Nat) (fun i => [int i, int (opn L i)]) (fun i H' nx' => i ≤ L.length ∧ E = endF L (L.length + 1 - i) i ∧ H' = H ∧ nx' = nx) (fun i => L.length - i) 0 rfl ⟨Nat.zero_le _, he0, rfl, rfl⟩ ?_
  rintro i H2 n2 ⟨hi, he, rfl, rfl⟩
  have ol := opn_le L i
  have en : L.length + 1 - i = (L.length - i) + 1 := by omega
  rw [en] at he
  unfold endF at he
  try simp (disch := (first | rfl | with_reducible assumption | with_reducible solve_by_elim (maxDepth := 8) [Shape.inT, Shape.inI, Shape.inC, Shape.inK, Shape.obF, Shape.obT, Shape.arI, Arr.inF] | omega)) only [S2, Nat.reduceEqDiff, Nat.reduceAdd, iput, puts]
  refine ⟨fun h1 => ?_, fun h1 => ?_⟩
  · rw [if_neg (by omega)] at he
    try simp (disch := (first | rfl | with_reducible assumption | with_reducible solve_by_elim (maxDepth := 8) [Shape.inT, Shape.inI, Shape.inC, Shape.inK, Shape.obF, Shape.obT, Shape.arI, Arr.inF] | omega)) only [S2, Nat.reduceEqDiff, Nat.reduceAdd, iput, puts]
    refine ⟨fun h2 => ?_, fun h2 => ?_⟩
    · rw [if_pos (by omega)] at he
      exact ⟨_, rfl, _, fun _ _ h => h, by rw [he]; rfl, rfl, Nat.le_refl _⟩
    · have hlt : i < L.length := by omega
      rw [if_neg (by omega)] at he
      have os := opn_succ (L := L) (k := i)
      try simp (disch := (first | rfl | with_reducible assumption | with_reducible solve_by_elim (maxDepth := 8) [Shape.inT, Shape.inI, Shape.inC, Shape.inK, Shape.obF, Shape.obT, Shape.arI, Arr.inF] | omega)) only [S2, Nat.reduceEqDiff, Nat.reduceAdd, iput, puts, pr_iad hlt, Nat.add_zero, pr_get hlt]
      refine ⟨fun h3 => ?_, fun h3 => ?_⟩
      · have a : ar (nd L i) = 2 := by unfold ar; rw [if_pos (by omega)]
        try simp (disch := (first | rfl | with_reducible assumption | with_reducible solve_by_elim (maxDepth := 8) [Shape.inT, Shape.inI, Shape.inC, Shape.inK, Shape.obF, Shape.obT, Shape.arI, Arr.inF] | omega)) only [S2, Nat.reduceEqDiff, Nat.reduceAdd, iput, puts, wrap_succ (show i < 9223372036854775807 by omega), wrap_id (show -9223372036854775808 ≤ opn L i + 2 by omega) (show opn L i + 2 ≤ 9223372036854775807 by omega), wrap_id (show -9223372036854775808 ≤ opn L i + 2 - 1 by omega) (show opn L i + 2 - 1 ≤ 9223372036854775807 by omega)]
        refine ⟨i + 1, by rw [show opn L (i + 1) = opn L i + 2 - 1 by omega], ⟨by omega, by rw [he, show L.length + 1 - (i + 1) = L.length - i by omega]⟩, by omega⟩
      · have a : ar (nd L i) = 0 := by unfold ar; rw [if_neg (by omega)]
        try simp (disch := (first | rfl | with_reducible assumption | with_reducible solve_by_elim (maxDepth := 8) [Shape.inT, Shape.inI, Shape.inC, Shape.inK, Shape.obF, Shape.obT, Shape.arI, Arr.inF] | omega)) only [S2, Nat.reduceEqDiff, Nat.reduceAdd, iput, puts, wrap_succ (show i < 9223372036854775807 by omega), wrap_id (show -9223372036854775808 ≤ opn L i - 1 by omega) (show opn L i - 1 ≤ 9223372036854775807 by omega)]
        refine ⟨i + 1, by rw [show opn L (i + 1) = opn L i - 1 by omega], ⟨by omega, by rw [he, show L.length + 1 - (i + 1) = L.length - i by omega]⟩, by omega⟩
  · rw [if_pos (by omega)] at he
    exact ⟨_, rfl, _, fun _ _ h => h, by rw [he]; rfl, rfl, Nat.le_refl _⟩
def V_isDiagram : Vc :=
  .op true (.p .len [.t 0]) <|
  .op true (.p (.bin .gtr) [.t 1, .c (int 40)]) <|
  .br 2
   (.ret [(.c (bool false), none)])
   (.op true (.p .len [.t 0]) <|
   .loop 0 [.c (int 0)] <|
   .op true (.p (.bin .lss) [.t 4, .t 3]) <|
   .br 5
    (.op true (.p (.iad 2) [.t 0, .t 4]) <|
    .op true (.p (.ld (some 2)) [.t 6]) <|
    .op true (.new [int 0, int 0]) <|
    .op true (.st 2 (.t 8) (.t 7)) <|
    .op true (.p (.fad 0) [.t 8]) <|
    .op true (.p (.ld none) [.t 10]) <|
    .op true (.p (.bin .eql) [.t 11, .c (int 0)]) <|
    .br 12
     (.op true (.p (.fad 1) [.t 8]) <|
     .op true (.p (.ld none) [.t 13]) <|
     .op true (.call (.f 32) [.t 14, .c (int 0), .c (int 39)]) <|
     .op true (.p .bnot [.t 15]) <|
     .br 16
      (.ret [(.c (bool false), none)])
      (.op true (.p (.bin .add) [.t 4, .c (int 1)]) <|
      .again 0 [.t 17]))
     (.op true (.p (.bin .eql) [.t 11, .c (int 1)]) <|
     .br 13
      (.op true (.p (.fad 1) [.t 8]) <|
      .op true (.p (.ld none) [.t 14]) <|
      .op true (.call (.f 32) [.t 15, .c (int 0), .c (int 7)]) <|
      .op true (.p .bnot [.t 16]) <|
      .br 17
       (.ret [(.c (bool false), none)])
       (.op true (.p (.bin .add) [.t 4, .c (int 1)]) <|
       .again 0 [.t 18]))
      (.op true (.p (.bin .eql) [.t 11, .c (int 2)]) <|
      .br 14
       (.op true (.p (.fad 1) [.t 8]) <|
       .op true (.p (.ld none) [.t 15]) <|
       .op true (.p (.bin .neq) [.t 16, .c (int 0)]) <|
       .br 17
        (.ret [(.c (bool false), none)])
        (.op true (.p (.bin .add) [.t 4, .c (int 1)]) <|
        .again 0 [.t 18]))
       (.op true (.p (.bin .eql) [.t 11, .c (int 3)]) <|
       .br 15
        (.op true (.p (.fad 1) [.t 8]) <|
        .op true (.p (.ld none) [.t 16]) <|
        .op true (.p (.bin .neq) [.t 17, .c (int 0)]) <|
        .br 18
         (.ret [(.c (bool false), none)])
         (.op true (.p (.bin .add) [.t 4, .c (int 1)]) <|
         .again 0 [.t 19]))
        (.ret [(.c (bool false), none)])))))
    (.op true (.call (.f 386) [.t 0, .c (int 0)]) <|
    .op true (.p .len [.t 0]) <|
    .op true (.p (.bin .eql) [.t 6, .t 7]) <|
    .ret [(.t 8, none)]))
set_option maxHeartbeats 1000000 in
theorem isDiagram_fz (hin : Has P ν 32 3 V_inRange) (hop : Has P ν 386 2 V_operandEnd) (h : Has P ν 272 1 V_isDiagram) (L : List Pr) (hl : L.length ≤ 1048576) : Fz (OkM P ν) 272 [.sl (prCells L) L.length] (bool (decide (IsDia L))) := by
  refine Fn.fzb fun H nx => h _ _ _ _ rfl fun hwf => ?_
  unfold V_isDiagram
  try simp (disch := (first | rfl | with_reducible assumption | with_reducible solve_by_elim (maxDepth := 8) [Shape.inT, Shape.inI, Shape.inC, Shape.inK, Shape.obF, Shape.obT, Shape.arI, Arr.inF] | omega)) only [S2, Nat.reduceEqDiff, Nat.reduceAdd, iput, puts]
  refine ⟨fun h1 => ?_, fun h1 => ?_⟩
  · exact ⟨_, rfl, H, fun _ _ h => h, ret_false (fun m => by have := m.len; omega), rfl, Nat.le_refl _⟩
  try simp (disch := (first | rfl | with_reducible assumption | with_reducible solve_by_elim (maxDepth := 8) [Shape.inT, Shape.inI, Shape.inC, Shape.inK, Shape.obF, Shape.obT, Shape.arI, Arr.inF] | omega)) only [S2, Nat.reduceEqDiff, Nat.reduceAdd, iput, puts]
  refine den_forG L.length (fun i => ∀ i', i' < i → nodeOk (nd L i')) H nx (Low.refl H nx) (fun k hk => by omega) fun i H2 n2 hi pi lo => ?_
  have sub : Sub H H2 := lo.sub hwf
  have le := lo.le
  by_cases hli : i < L.length
  · have w := wrap_succ (show i < 9223372036854775807 by omega)
    have nx1 : nodeOk (nd L i) → ∀ i', i' < i + 1 → nodeOk (nd L i') := fun q i' h' => by
      by_cases e : i' = i
      · rw [e]; exact q
      · exact pi i' (by omega)
    try simp (disch := (first | rfl | with_reducible assumption | with_reducible solve_by_elim (maxDepth := 8) [Shape.inT, Shape.inI, Shape.inC, Shape.inK, Shape.obF, Shape.obT, Shape.arI, Arr.inF] | omega)) only [S2, Nat.reduceEqDiff, Nat.reduceAdd, iput, puts, hli, pr_iad hli, pr_ld hli, nd_of]
    refine den_newG fun H3 z3 e3 => ?_
    refine den_stG (o := n2) (p := 0) (k := 2) (m := 2) (c' := pr2c (nd L i)) (by rfl) (by rfl) z3 (by rfl) (by rfl) (show 0 + 2 ≤ 2 by omega) (by rfl) (by rfl) fun H4 z4 e4 => ?_
    have lo4 : Low H nx H4 (n2 + 1) := lo.newst e3 e4
    have sub : Sub H H4 := lo4.sub hwf
    have ln : (pr2c (nd L i)).length = 2 := rfl
    repeat (first | simp (disch := (first | rfl | with_reducible assumption | with_reducible solve_by_elim (maxDepth := 8) [Shape.inT, Shape.inI, Shape.inC, Shape.inK, Shape.obF, Shape.obT, Shape.arI, Arr.inF] | omega)) only [S2, Nat.reduceEqDiff, Nat.reduceAdd, iput, puts, p_fadm (l := 2) z4 ln, p_ldm (n := 2) z4 ln, pr_ldA, pr_ldB] | (refine den_call rfl (by first | (simp only [SS, Nat.reduceEqDiff, Nat.reduceAdd, iput, puts, FF, frzL_cat]; done) | (simp only [SS, Nat.reduceEqDiff, Nat.reduceAdd, iput, puts, FF, frzL_cat]; rfl)) (by first | exact (inRange_ok hin (nd L i).2 0 39).fzb | exact (inRange_ok hin (nd L i).2 0 7).fzb) ?_) | (refine den_calli rfl (by first | (simp only [SS, Nat.reduceEqDiff, Nat.reduceAdd, iput, puts, FF, frzL_cat]; done) | (simp only [SS, Nat.reduceEqDiff, Nat.reduceAdd, iput, puts, FF, frzL_cat]; rfl)) (by first | exact (inRange_ok hin (nd L i).2 0 39).fzb | exact (inRange_ok hin (nd L i).2 0 7).fzb) ?_))
    refine ⟨fun k => ?_, fun k => ?_⟩
    · repeat (first | simp (disch := (first | rfl | with_reducible assumption | with_reducible solve_by_elim (maxDepth := 8) [Shape.inT, Shape.inI, Shape.inC, Shape.inK, Shape.obF, Shape.obT, Shape.arI, Arr.inF] | omega)) only [S2, Nat.reduceEqDiff, Nat.reduceAdd, iput, puts, p_fadm (l := 2) z4 ln, p_ldm (n := 2) z4 ln, pr_ldA, pr_ldB] | (refine den_call rfl (by first | (simp only [SS, Nat.reduceEqDiff, Nat.reduceAdd, iput, puts, FF, frzL_cat]; done) | (simp only [SS, Nat.reduceEqDiff, Nat.reduceAdd, iput, puts, FF, frzL_cat]; rfl)) (by first | exact (inRange_ok hin (nd L i).2 0 39).fzb) ?_) | (refine den_calli rfl (by first | (simp only [SS, Nat.reduceEqDiff, Nat.reduceAdd, iput, puts, FF, frzL_cat]; done) | (simp only [SS, Nat.reduceEqDiff, Nat.reduceAdd, iput, puts, FF, frzL_cat]; rfl)) (by first | exact (inRange_ok hin (nd L i).2 0 39).fzb) ?_))
      refine ⟨fun q => ?_, fun q => ?_⟩
      · exact ⟨_, rfl, H, sub, ret_false (fun m => q (by rcases m.ok i hli with o | o | o <;> omega)), rfl, by omega⟩
      · try simp (disch := (first | rfl | with_reducible assumption | with_reducible solve_by_elim (maxDepth := 8) [Shape.inT, Shape.inI, Shape.inC, Shape.inK, Shape.obF, Shape.obT, Shape.arI, Arr.inF] | omega)) only [S2, Nat.reduceEqDiff, Nat.reduceAdd, iput, puts, w]
        exact upG rfl hli (nx1 (.inl ⟨k, by omega, by omega⟩)) lo4
    try simp (disch := (first | rfl | with_reducible assumption | with_reducible solve_by_elim (maxDepth := 8) [Shape.inT, Shape.inI, Shape.inC, Shape.inK, Shape.obF, Shape.obT, Shape.arI, Arr.inF] | omega)) only [S2, Nat.reduceEqDiff, Nat.reduceAdd, iput, puts, p_fadm (l := 2) z4 ln, p_ldm (n := 2) z4 ln, pr_ldA, pr_ldB]
    refine ⟨fun k1 => ?_, fun k1 => ?_⟩
    · repeat (first | simp (disch := (first | rfl | with_reducible assumption | with_reducible solve_by_elim (maxDepth := 8) [Shape.inT, Shape.inI, Shape.inC, Shape.inK, Shape.obF, Shape.obT, Shape.arI, Arr.inF] | omega)) only [S2, Nat.reduceEqDiff, Nat.reduceAdd, iput, puts, p_fadm (l := 2) z4 ln, p_ldm (n := 2) z4 ln, pr_ldA, pr_ldB] | (refine den_call rfl (by first | (simp only [SS, Nat.reduceEqDiff, Nat.reduceAdd, iput, puts, FF, frzL_cat]; done) | (simp only [SS, Nat.reduceEqDiff, Nat.reduceAdd, iput, puts, FF, frzL_cat]; rfl)) (by first | exact (inRange_ok hin (nd L i).2 0 7).fzb) ?_) | (refine den_calli rfl (by first | (simp only [SS, Nat.reduceEqDiff, Nat.reduceAdd, iput, puts, FF, frzL_cat]; done) | (simp only [SS, Nat.reduceEqDiff, Nat.reduceAdd, iput, puts, FF, frzL_cat]; rfl)) (by first | exact (inRange_ok hin (nd L i).2 0 7).fzb) ?_))
      refine ⟨fun q => ?_, fun q => ?_⟩
      · exact ⟨_, rfl, H, sub, ret_false (fun m => q (by rcases m.ok i hli with o | o | o <;> omega)), rfl, by omega⟩
      · try simp (disch := (first | rfl | with_reducible assumption | with_reducible solve_by_elim (maxDepth := 8) [Shape.inT, Shape.inI, Shape.inC, Shape.inK, Shape.obF, Shape.obT, Shape.arI, Arr.inF] | omega)) only [S2, Nat.reduceEqDiff, Nat.reduceAdd, iput, puts, w]
        exact upG rfl hli (nx1 (.inr (.inl ⟨k1, by omega, by omega⟩))) lo4
    try simp (disch := (first | rfl | with_reducible assumption | with_reducible solve_by_elim (maxDepth := 8) [Shape.inT, Shape.inI, Shape.inC, Shape.inK, Shape.obF, Shape.obT, Shape.arI, Arr.inF] | omega)) only [S2, Nat.reduceEqDiff, Nat.reduceAdd, iput, puts, p_fadm (l := 2) z4 ln, p_ldm (n := 2) z4 ln, pr_ldA, pr_ldB]
    refine ⟨fun k2 => ?_, fun k2 => ?_⟩
    · try simp (disch := (first | rfl | with_reducible assumption | with_reducible solve_by_elim (maxDepth := 8) [Shape.inT, Shape.inI, Shape.inC, Shape.inK, Shape.obF, Shape.obT, Shape.arI, Arr.inF] | omega)) only [S2, Nat.reduceEqDiff, Nat.reduceAdd, iput, puts, p_fadm (l := 2) z4 ln, p_ldm (n := 2) z4 ln, pr_ldA, pr_ldB]
      refine ⟨fun q => ?_, fun q => ?_⟩
      · exact ⟨_, rfl, H, sub, ret_false (fun m => q (by rcases m.ok i hli with o | o | o <;> omega)), rfl, by omega⟩
      · try simp (disch := (first | rfl | with_reducible assumption | with_reducible solve_by_elim (maxDepth := 8) [Shape.inT, Shape.inI, Shape.inC, Shape.inK, Shape.obF, Shape.obT, Shape.arI, Arr.inF] | omega)) only [S2, Nat.reduceEqDiff, Nat.reduceAdd, iput, puts, w]
        exact upG rfl hli (nx1 (.inr (.inr ⟨.inl k2, by omega⟩))) lo4
    try simp (disch := (first | rfl | with_reducible assumption | with_reducible solve_by_elim (maxDepth := 8) [Shape.inT, Shape.inI, Shape.inC, Shape.inK, Shape.obF, Shape.obT, Shape.arI, Arr.inF] | omega)) only [S2, Nat.reduceEqDiff, Nat.reduceAdd, iput, puts, p_fadm (l := 2) z4 ln, p_ldm (n := 2) z4 ln, pr_ldA, pr_ldB]
    refine ⟨fun k3 => ?_, fun k3 => ?_⟩
    · try simp (disch := (first | rfl | with_reducible assumption | with_reducible solve_by_elim (maxDepth := 8) [Shape.inT, Shape.inI, Shape.inC, Shape.inK, Shape.obF, Shape.obT, Shape.arI, Arr.inF] | omega)) only [S2, Nat.reduceEqDiff, Nat.reduceAdd, iput, puts, p_fadm (l := 2) z4 ln, p_ldm (n := 2) z4 ln, pr_ldA, pr_ldB]
      refine ⟨fun q => ?_, fun q => ?_⟩
      · exact ⟨_, rfl, H, sub, ret_false (fun m => q (by rcases m.ok i hli with o | o | o <;> omega)), rfl, by omega⟩
      · try simp (disch := (first | rfl | with_reducible assumption | with_reducible solve_by_elim (maxDepth := 8) [Shape.inT, Shape.inI, Shape.inC, Shape.inK, Shape.obF, Shape.obT, Shape.arI, Arr.inF] | omega)) only [S2, Nat.reduceEqDiff, Nat.reduceAdd, iput, puts, w]
        exact upG rfl hli (nx1 (.inr (.inr ⟨.inr k3, by omega⟩))) lo4
    · exact ⟨_, rfl, H, sub, ret_false (fun m => by rcases m.ok i hli with o | o | o <;> omega), rfl, by omega⟩
  · have ok : ∀ i', i' < L.length → nodeOk (nd L i') := fun i' h' => pi i' (by omega)
    repeat (first | simp (disch := (first | rfl | with_reducible assumption | with_reducible solve_by_elim (maxDepth := 8) [Shape.inT, Shape.inI, Shape.inC, Shape.inK, Shape.obF, Shape.obT, Shape.arI, Arr.inF] | omega)) only [S2, Nat.reduceEqDiff, Nat.reduceAdd, iput, puts, hli] | (refine den_call rfl (by first | (simp only [SS, Nat.reduceEqDiff, Nat.reduceAdd, iput, puts, FF, frzL_cat]; done) | (simp only [SS, Nat.reduceEqDiff, Nat.reduceAdd, iput, puts, FF, frzL_cat]; rfl)) (by first | exact operandEnd_fz hop L hl) ?_) | (refine den_calli rfl (by first | (simp only [SS, Nat.reduceEqDiff, Nat.reduceAdd, iput, puts, FF, frzL_cat]; done) | (simp only [SS, Nat.reduceEqDiff, Nat.reduceAdd, iput, puts, FF, frzL_cat]; rfl)) (by first | exact operandEnd_fz hop L hl) ?_))
    refine ⟨_, rfl, H, sub, ?_, rfl, by omega⟩
    show bool _ = bool _
    congr 1
    rw [Bool.eq_iff_iff, decide_eq_true_iff, isDia_iff, beq_iff_eq]
    exact ⟨fun q => ⟨by omega, ok, q⟩, fun q => q.2.2⟩
end Go.Av
