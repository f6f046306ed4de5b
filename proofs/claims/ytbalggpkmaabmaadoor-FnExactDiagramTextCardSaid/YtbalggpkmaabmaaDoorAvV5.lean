/-
  Diagrams: the reference's check; texts of the program and the reference.
-/
import Derived.Test.YtbalggpkmaabmaaDoorAvV4
namespace Go.Av
open Classical
set_option linter.unusedSimpArgs false
set_option linter.unusedVariables false
variable {P : Program} {ν : Nat → FuncId}

def V_spec_l35Node : Vc :=
  .op true (.p .box [.t 0]) <|
  .op true (.p (.fad 0) [.t 1]) <|
  .op true (.p (.ld none) [.t 2]) <|
  .op true (.p (.bin .eql) [.t 3, .c (int 0)]) <|
  .br 4
   (.op true (.p (.fad 1) [.t 1]) <|
   .op true (.p (.ld none) [.t 5]) <|
   .op true (.call (.f 35) [.t 6, .c (int 0), .c (int 39)]) <|
   .br 7
    (.ret [(.c (int 0), none)])
    (.ret [(.c (int (-1)), none)]))
   (.op true (.p (.bin .eql) [.t 3, .c (int 1)]) <|
   .br 5
    (.op true (.p (.fad 1) [.t 1]) <|
    .op true (.p (.ld none) [.t 6]) <|
    .op true (.call (.f 35) [.t 7, .c (int 0), .c (int 7)]) <|
    .br 8
     (.ret [(.c (int 0), none)])
     (.ret [(.c (int (-1)), none)]))
    (.op true (.p (.bin .eql) [.t 3, .c (int 2)]) <|
    .br 6
     (.op true (.p (.fad 1) [.t 1]) <|
     .op true (.p (.ld none) [.t 7]) <|
     .op true (.p (.bin .eql) [.t 8, .c (int 0)]) <|
     .br 9
      (.ret [(.c (int 2), none)])
      (.ret [(.c (int (-1)), none)]))
     (.op true (.p (.bin .eql) [.t 3, .c (int 3)]) <|
     .br 7
      (.op true (.p (.fad 1) [.t 1]) <|
      .op true (.p (.ld none) [.t 8]) <|
      .op true (.p (.bin .eql) [.t 9, .c (int 0)]) <|
      .br 10
       (.ret [(.c (int 2), none)])
       (.ret [(.c (int (-1)), none)]))
      (.ret [(.c (int (-1)), none)]))))
noncomputable def ndV (p : Pr) : Int := if nodeOk p then ar p else -1
theorem l35Node_fz (hin : Has P ν 35 3 V_spec_l01In) (h : Has P ν 384 1 V_spec_l35Node) (t : Pr) : Fz (OkM P ν) 384 [.agg (pr2c t)] (int (ndV t)) := by
  refine Fn.fzi fun H nx => h _ _ _ _ rfl fun hwf => ?_
  unfold V_spec_l35Node
  have yes : ∀ n, nodeOk t → ar t = n → ndV t = n := fun n q e => by unfold ndV; rw [if_pos q, e]
  have no : ¬ nodeOk t → ndV t = -1 := fun q => by unfold ndV; rw [if_neg q]
  have a0 : t.1 < 2 → ar t = 0 := fun q => by unfold ar; rw [if_neg (by omega)]
  have a2 : 2 ≤ t.1 → ar t = 2 := fun q => by unfold ar; rw [if_pos (by omega)]
  try simp (disch := (first | rfl | with_reducible assumption | with_reducible solve_by_elim (maxDepth := 8) [Shape.inT, Shape.inI, Shape.inC, Shape.inK, Shape.obF, Shape.obT, Shape.arI, Arr.inF] | omega)) only [S2, Nat.reduceEqDiff, Nat.reduceAdd, iput, puts, pr_box, pr_ldA, pr_ldB]
  refine ⟨fun k => ?_, fun k => ?_⟩
  · repeat (first | simp (disch := (first | rfl | with_reducible assumption | with_reducible solve_by_elim (maxDepth := 8) [Shape.inT, Shape.inI, Shape.inC, Shape.inK, Shape.obF, Shape.obT, Shape.arI, Arr.inF] | omega)) only [S2, Nat.reduceEqDiff, Nat.reduceAdd, iput, puts, pr_ldA, pr_ldB] | (refine den_call rfl (by first | (simp only [SS, Nat.reduceEqDiff, Nat.reduceAdd, iput, puts, FF, frzL_cat]; done) | (simp only [SS, Nat.reduceEqDiff, Nat.reduceAdd, iput, puts, FF, frzL_cat]; rfl)) (by first | exact (l01In_ok hin t.2 0 39).fzb) ?_) | (refine den_calli rfl (by first | (simp only [SS, Nat.reduceEqDiff, Nat.reduceAdd, iput, puts, FF, frzL_cat]; done) | (simp only [SS, Nat.reduceEqDiff, Nat.reduceAdd, iput, puts, FF, frzL_cat]; rfl)) (by first | exact (l01In_ok hin t.2 0 39).fzb) ?_))
    refine ⟨fun q => ?_, fun q => ?_⟩
    · exact ⟨_, rfl, _, fun _ _ h => h, by rw [yes 0 (.inl ⟨k, by omega, by omega⟩) (a0 (by omega))]; rfl, rfl, Nat.le_refl _⟩
    · exact ⟨_, rfl, _, fun _ _ h => h, by rw [no fun o => q (by rcases o with o | o | o <;> omega)]; rfl, rfl, Nat.le_refl _⟩
  try simp (disch := (first | rfl | with_reducible assumption | with_reducible solve_by_elim (maxDepth := 8) [Shape.inT, Shape.inI, Shape.inC, Shape.inK, Shape.obF, Shape.obT, Shape.arI, Arr.inF] | omega)) only [S2, Nat.reduceEqDiff, Nat.reduceAdd, iput, puts, pr_ldA, pr_ldB]
  refine ⟨fun k1 => ?_, fun k1 => ?_⟩
  · repeat (first | simp (disch := (first | rfl | with_reducible assumption | with_reducible solve_by_elim (maxDepth := 8) [Shape.inT, Shape.inI, Shape.inC, Shape.inK, Shape.obF, Shape.obT, Shape.arI, Arr.inF] | omega)) only [S2, Nat.reduceEqDiff, Nat.reduceAdd, iput, puts, pr_ldA, pr_ldB] | (refine den_call rfl (by first | (simp only [SS, Nat.reduceEqDiff, Nat.reduceAdd, iput, puts, FF, frzL_cat]; done) | (simp only [SS, Nat.reduceEqDiff, Nat.reduceAdd, iput, puts, FF, frzL_cat]; rfl)) (by first | exact (l01In_ok hin t.2 0 7).fzb) ?_) | (refine den_calli rfl (by first | (simp only [SS, Nat.reduceEqDiff, Nat.reduceAdd, iput, puts, FF, frzL_cat]; done) | (simp only [SS, Nat.reduceEqDiff, Nat.reduceAdd, iput, puts, FF, frzL_cat]; rfl)) (by first | exact (l01In_ok hin t.2 0 7).fzb) ?_))
    refine ⟨fun q => ?_, fun q => ?_⟩
    · exact ⟨_, rfl, _, fun _ _ h => h, by rw [yes 0 (.inr (.inl ⟨k1, by omega, by omega⟩)) (a0 (by omega))]; rfl, rfl, Nat.le_refl _⟩
    · exact ⟨_, rfl, _, fun _ _ h => h, by rw [no fun o => q (by rcases o with o | o | o <;> omega)]; rfl, rfl, Nat.le_refl _⟩
  try simp (disch := (first | rfl | with_reducible assumption | with_reducible solve_by_elim (maxDepth := 8) [Shape.inT, Shape.inI, Shape.inC, Shape.inK, Shape.obF, Shape.obT, Shape.arI, Arr.inF] | omega)) only [S2, Nat.reduceEqDiff, Nat.reduceAdd, iput, puts, pr_ldA, pr_ldB]
  refine ⟨fun k2 => ?_, fun k2 => ?_⟩
  · try simp (disch := (first | rfl | with_reducible assumption | with_reducible solve_by_elim (maxDepth := 8) [Shape.inT, Shape.inI, Shape.inC, Shape.inK, Shape.obF, Shape.obT, Shape.arI, Arr.inF] | omega)) only [S2, Nat.reduceEqDiff, Nat.reduceAdd, iput, puts, pr_ldA, pr_ldB]
    refine ⟨fun q => ?_, fun q => ?_⟩
    · exact ⟨_, rfl, _, fun _ _ h => h, by rw [yes 2 (.inr (.inr ⟨.inl k2, by omega⟩)) (a2 (by omega))]; rfl, rfl, Nat.le_refl _⟩
    · exact ⟨_, rfl, _, fun _ _ h => h, by rw [no fun o => q (by rcases o with o | o | o <;> omega)]; rfl, rfl, Nat.le_refl _⟩
  try simp (disch := (first | rfl | with_reducible assumption | with_reducible solve_by_elim (maxDepth := 8) [Shape.inT, Shape.inI, Shape.inC, Shape.inK, Shape.obF, Shape.obT, Shape.arI, Arr.inF] | omega)) only [S2, Nat.reduceEqDiff, Nat.reduceAdd, iput, puts, pr_ldA, pr_ldB]
  refine ⟨fun k3 => ?_, fun k3 => ?_⟩
  · try simp (disch := (first | rfl | with_reducible assumption | with_reducible solve_by_elim (maxDepth := 8) [Shape.inT, Shape.inI, Shape.inC, Shape.inK, Shape.obF, Shape.obT, Shape.arI, Arr.inF] | omega)) only [S2, Nat.reduceEqDiff, Nat.reduceAdd, iput, puts, pr_ldA, pr_ldB]
    refine ⟨fun q => ?_, fun q => ?_⟩
    · exact ⟨_, rfl, _, fun _ _ h => h, by rw [yes 2 (.inr (.inr ⟨.inr k3, by omega⟩)) (a2 (by omega))]; rfl, rfl, Nat.le_refl _⟩
    · exact ⟨_, rfl, _, fun _ _ h => h, by rw [no fun o => q (by rcases o with o | o | o <;> omega)]; rfl, rfl, Nat.le_refl _⟩
  · exact ⟨_, rfl, _, fun _ _ h => h, by rw [no fun o => by rcases o with o | o | o <;> omega]; rfl, rfl, Nat.le_refl _⟩
def V_spec_IsDiagram : Vc :=
  .op true (.p .len [.t 0]) <|
  .op true (.p (.bin .gtr) [.t 1, .c (int 40)]) <|
  .br 2
   (.ret [(.c (bool false), none)])
   (.loop 0 [.c (int 1), .c (int 0)] <|
   .op true (.p .len [.t 0]) <|
   .op true (.p (.bin .lss) [.t 4, .t 5]) <|
   .br 6
    (.op true (.p (.iad 2) [.t 0, .t 4]) <|
    .op true (.p (.ld (some 2)) [.t 7]) <|
    .op true (.call (.f 384) [.t 8]) <|
    .op true (.p (.bin .lss) [.t 9, .c (int 0)]) <|
    .br 10
     (.ret [(.c (bool false), none)])
     (.op true (.p (.bin .eql) [.t 3, .c (int 0)]) <|
     .br 11
      (.ret [(.c (bool false), none)])
      (.op true (.p (.bin .sub) [.t 3, .c (int 1)]) <|
      .op true (.p (.bin .add) [.t 12, .t 9]) <|
      .op true (.p (.bin .add) [.t 4, .c (int 1)]) <|
      .again 0 [.t 13, .t 14])))
    (.op true (.p (.bin .eql) [.t 3, .c (int 0)]) <|
    .ret [(.t 7, none)]))
set_option maxHeartbeats 1000000 in
theorem sIsDiagram_fz (hin : Has P ν 35 3 V_spec_l01In) (hn : Has P ν 384 1 V_spec_l35Node) (h : Has P ν 269 1 V_spec_IsDiagram) (L : List Pr) (hl : L.length ≤ 1048576) : Fz (OkM P ν) 269 [.sl (prCells L) L.length] (bool (decide (IsDia L))) := by
  refine Fn.fzb fun H nx => h _ _ _ _ rfl fun hwf => ?_
  unfold V_spec_IsDiagram
  try simp (disch := (first | rfl | with_reducible assumption | with_reducible solve_by_elim (maxDepth := 8) [Shape.inT, Shape.inI, Shape.inC, Shape.inK, Shape.obF, Shape.obT, Shape.arI, Arr.inF] | omega)) only [S2, Nat.reduceEqDiff, Nat.reduceAdd, iput, puts]
  refine ⟨fun h1 => ?_, fun h1 => ?_⟩
  · exact ⟨_, rfl, H, fun _ _ h => h, ret_false (fun m => by have := m.len; omega), rfl, Nat.le_refl _⟩
  refine den_loop (α := Nat) (fun i => [int (opn L i), int i]) (fun i H' nx' => i ≤ L.length ∧ 0 ≤ opn L i ∧ (∀ j, j < i → nodeOk (nd L j) ∧ 0 < opn L j) ∧ H' = H ∧ nx' = nx) (fun i => L.length - i) 0 rfl ⟨Nat.zero_le _, (by show (0 : Int) ≤ 1; omega), fun j hj => by omega, rfl, rfl⟩ ?_
  rintro i H2 n2 ⟨hi, o0, pi, eH, en⟩
  replace eH := eH.symm
  replace en := en.symm
  subst eH
  subst en
  have ol := opn_le L i
  by_cases hlt : i < L.length
  · have os := opn_succ (L := L) (k := i)
    repeat (first | simp (disch := (first | rfl | with_reducible assumption | with_reducible solve_by_elim (maxDepth := 8) [Shape.inT, Shape.inI, Shape.inC, Shape.inK, Shape.obF, Shape.obT, Shape.arI, Arr.inF] | omega)) only [S2, Nat.reduceEqDiff, Nat.reduceAdd, iput, puts, hlt, pr_iad hlt, pr_ld hlt, nd_of] | (refine den_call rfl (by first | (simp only [SS, Nat.reduceEqDiff, Nat.reduceAdd, iput, puts, FF, frzL_cat]; done) | (simp only [SS, Nat.reduceEqDiff, Nat.reduceAdd, iput, puts, FF, frzL_cat]; rfl)) (by first | exact l35Node_fz hin hn (nd L i)) ?_) | (refine den_calli rfl (by first | (simp only [SS, Nat.reduceEqDiff, Nat.reduceAdd, iput, puts, FF, frzL_cat]; done) | (simp only [SS, Nat.reduceEqDiff, Nat.reduceAdd, iput, puts, FF, frzL_cat]; rfl)) (by first | exact l35Node_fz hin hn (nd L i)) ?_))
    refine ⟨fun q => ?_, fun q => ?_⟩
    · exact ⟨_, rfl, H, fun _ _ h => h, ret_false (fun m => by unfold ndV at q; rw [if_pos (m.ok i hlt)] at q; rcases ar_cases (nd L i) with e | e <;> omega), rfl, Nat.le_refl _⟩
    have ok : nodeOk (nd L i) := by
      refine Classical.byContradiction fun c => ?_
      unfold ndV at q
      rw [if_neg c] at q
      omega
    have ev : ndV (nd L i) = ar (nd L i) := by unfold ndV; rw [if_pos ok]
    have ac := ar_cases (nd L i)
    try simp (disch := (first | rfl | with_reducible assumption | with_reducible solve_by_elim (maxDepth := 8) [Shape.inT, Shape.inI, Shape.inC, Shape.inK, Shape.obF, Shape.obT, Shape.arI, Arr.inF] | omega)) only [S2, Nat.reduceEqDiff, Nat.reduceAdd, iput, puts]
    refine ⟨fun q1 => ?_, fun q1 => ?_⟩
    · exact ⟨_, rfl, H, fun _ _ h => h, ret_false (fun m => by have := m.pos i hlt; omega), rfl, Nat.le_refl _⟩
    try simp (disch := (first | rfl | with_reducible assumption | with_reducible solve_by_elim (maxDepth := 8) [Shape.inT, Shape.inI, Shape.inC, Shape.inK, Shape.obF, Shape.obT, Shape.arI, Arr.inF] | omega)) only [S2, Nat.reduceEqDiff, Nat.reduceAdd, iput, puts, ev, wrap_succ (show i < 9223372036854775807 by omega), wrap_id (show -9223372036854775808 ≤ opn L i - 1 by omega) (show opn L i - 1 ≤ 9223372036854775807 by omega), wrap_id (show -9223372036854775808 ≤ opn L i - 1 + ar (nd L i) by omega) (show opn L i - 1 + ar (nd L i) ≤ 9223372036854775807 by omega)]
    refine ⟨i + 1, by rw [os], ⟨by omega, by omega, fun j hj => ?_⟩, by omega⟩
    by_cases e : j = i
    · rw [e]; exact ⟨ok, by omega⟩
    · exact pi j (by omega)
  · have e : i = L.length := by omega
    subst e
    try simp (disch := (first | rfl | with_reducible assumption | with_reducible solve_by_elim (maxDepth := 8) [Shape.inT, Shape.inI, Shape.inC, Shape.inK, Shape.obF, Shape.obT, Shape.arI, Arr.inF] | omega)) only [S2, Nat.reduceEqDiff, Nat.reduceAdd, iput, puts, hlt]
    refine ⟨_, rfl, _, fun _ _ h => h, ?_, rfl, Nat.le_refl _⟩
    show bool _ = bool _
    congr 1
    rw [Bool.eq_iff_iff, decide_eq_true_iff, beq_iff_eq]
    exact ⟨fun q => ⟨by omega, fun j hj => (pi j hj).1, fun j hj => (pi j hj).2, q⟩, fun q => q.fin⟩
def V_grouped : Vc :=
  .br 1
   (.op true (.p (.bin .add) [.c (.v (.string ⟨#[40]⟩)), .t 0]) <|
   .op true (.p (.bin .add) [.t 2, .c (.v (.string ⟨#[41]⟩))]) <|
   .ret [(.t 3, none)])
   (.ret [(.t 0, none)])
theorem grouped_fz (h : Has P ν 388 2 V_grouped) (s : Txt) (c : Prop) {b : Bool} (hb : b = true ↔ c) (hs : s.size ≤ 1048576) : Fz (OkM P ν) 388 [str s, bool b] (str (par c s)) := by
  refine Fn.fz (fun H nx => h _ _ _ _ rfl fun hwf => ?_) fun _ => rfl
  unfold V_grouped
  have z1 : (⟨#[40]⟩ : ByteArray).size = 1 := rfl
  have z2 : (⟨#[41]⟩ : ByteArray).size = 1 := rfl
  have z3 : ((⟨#[40]⟩ : ByteArray) ++ s).size = 1 + s.size := by rw [size_app, z1]
  try simp (disch := (first | rfl | with_reducible assumption | with_reducible solve_by_elim (maxDepth := 8) [Shape.inT, Shape.inI, Shape.inC, Shape.inK, Shape.obF, Shape.obT, Shape.arI, Arr.inF] | omega)) only [S2, Nat.reduceEqDiff, Nat.reduceAdd, iput, puts]
  refine ⟨fun q => ?_, fun q => ?_⟩
  · try simp (disch := (first | rfl | with_reducible assumption | with_reducible solve_by_elim (maxDepth := 8) [Shape.inT, Shape.inI, Shape.inC, Shape.inK, Shape.obF, Shape.obT, Shape.arI, Arr.inF] | omega)) only [S2, Nat.reduceEqDiff, Nat.reduceAdd, iput, puts, str_k, p_adds (a := ⟨#[40]⟩) (b := s) (by omega), p_adds (a := ⟨#[40]⟩ ++ s) (b := ⟨#[41]⟩) (by omega)]
    exact ⟨_, rfl, _, fun _ _ h => h, by unfold par; rw [if_pos (hb.1 q)]; rfl, rfl, Nat.le_refl _⟩
  · exact ⟨_, rfl, _, fun _ _ h => h, by unfold par; rw [if_neg fun c => by rw [hb.2 c] at q; cases q]; rfl, rfl, Nat.le_refl _⟩
theorem frz_ts (H : Hp) (s : Txt) (e : Int) : frzN H fuel (.tup [str s, int e]) = some (.tup [str s, int e]) := rfl
theorem sz1 {x : UInt8} : (⟨#[x]⟩ : Txt).size = 1 := rfl
theorem p_addk1 {H : Hp} {s : Txt} {x : UInt8} (h : s.size ≤ 1048576) : pvf H (.bin .add) [str ⟨#[x]⟩, str s] = some (str (⟨#[x]⟩ ++ s)) := p_adds (by rw [sz1]; omega)
theorem p_addk2 {H : Hp} {s : Txt} {x : UInt8} (h : s.size ≤ 1048576) : pvf H (.bin .add) [str s, str ⟨#[x]⟩] = some (str (s ++ ⟨#[x]⟩)) := p_adds (by rw [sz1]; omega)
theorem p_add3 {H : Hp} {a b : Txt} (h1 : a.size ≤ 1048576) (h2 : b.size ≤ 1048576) : pvf H (.bin .add) [str a, str b] = some (str (a ++ b)) := p_adds (by omega)
def V_diagramText : Vc :=
  .op true (.p (.iad 2) [.t 0, .t 1]) <|
  .op true (.p (.ld (some 2)) [.t 2]) <|
  .op true (.new [int 0, int 0]) <|
  .op true (.st 2 (.t 4) (.t 3)) <|
  .op true (.p (.fad 0) [.t 4]) <|
  .op true (.p (.ld none) [.t 6]) <|
  .op true (.p (.bin .eql) [.t 7, .c (int 0)]) <|
  .br 8
   (.op true (.p (.fad 1) [.t 4]) <|
   .op true (.p (.ld none) [.t 9]) <|
   .op true (.call (.f 387) [.t 10, .c (int 10)]) <|
   .op true (.p (.bin .add) [.c (.v (.string ⟨#[102]⟩)), .t 11]) <|
   .op true (.p (.bin .add) [.t 1, .c (int 1)]) <|
   .ret [(.t 12, none), (.t 13, none)])
   (.op true (.p (.bin .eql) [.t 7, .c (int 1)]) <|
   .br 9
    (.op true (.p (.fad 1) [.t 4]) <|
    .op true (.p (.ld none) [.t 10]) <|
    .op true (.call (.f 387) [.t 11, .c (int 10)]) <|
    .op true (.p (.bin .add) [.c (.v (.string ⟨#[105]⟩)), .t 12]) <|
    .op true (.p (.bin .add) [.t 1, .c (int 1)]) <|
    .ret [(.t 13, none), (.t 14, none)])
    (.op true (.p (.bin .add) [.t 1, .c (int 1)]) <|
    .op true (.call (.f 273) [.t 0, .t 10]) <|
    .op true (.p (.ext 0) [.t 11]) <|
    .op true (.p (.ext 1) [.t 11]) <|
    .op true (.call (.f 273) [.t 0, .t 13]) <|
    .op true (.p (.ext 0) [.t 14]) <|
    .op true (.p (.ext 1) [.t 14]) <|
    .op true (.p (.fad 0) [.t 4]) <|
    .op true (.p (.ld none) [.t 17]) <|
    .op true (.p (.bin .eql) [.t 18, .c (int 2)]) <|
    .br 19
     (.op true (.p (.bin .add) [.t 12, .c (.v (.string ⟨#[59]⟩))]) <|
     .op true (.p (.iad 2) [.t 0, .t 13]) <|
     .op true (.p (.fad 0) [.t 21]) <|
     .op true (.p (.ld none) [.t 22]) <|
     .op true (.p (.bin .eql) [.t 23, .c (int 2)]) <|
     .op true (.call (.f 388) [.t 15, .t 24]) <|
     .op true (.p (.bin .add) [.t 20, .t 25]) <|
     .ret [(.t 26, none), (.t 16, none)])
     (.op true (.p (.bin .add) [.t 1, .c (int 1)]) <|
     .op true (.p (.iad 2) [.t 0, .t 20]) <|
     .op true (.p (.fad 0) [.t 21]) <|
     .op true (.p (.ld none) [.t 22]) <|
     .op true (.p (.bin .eql) [.t 23, .c (int 2)]) <|
     .op true (.call (.f 388) [.t 12, .t 24]) <|
     .op true (.p (.bin .add) [.t 25, .c (.v (.string ⟨#[42]⟩))]) <|
     .op true (.p (.iad 2) [.t 0, .t 13]) <|
     .op true (.p (.fad 0) [.t 27]) <|
     .op true (.p (.ld none) [.t 28]) <|
     .op true (.p (.bin .geq) [.t 29, .c (int 2)]) <|
     .op true (.call (.f 388) [.t 15, .t 30]) <|
     .op true (.p (.bin .add) [.t 26, .t 31]) <|
     .ret [(.t 32, none), (.t 16, none)])))
set_option maxHeartbeats 1000000 in
theorem diagramText_fz (hs : Has P ν 431 1 V_internal_strconv_small) (hf : Has P ν 424 2 V_internal_strconv_FormatInt) (hF : Has P ν 387 2 V_strconv_FormatInt) (hg : Has P ν 388 2 V_grouped) (h : Has P ν 273 2 V_diagramText) (L : List Pr) (hl : L.length ≤ 40) {i e : Nat} {s : Txt} (d : Dgs L i e s) :
    Fz (OkM P ν) 273 [.sl (prCells L) L.length, int i] (.tup [str s, int e]) := by
  induction d with
  | arr hi k n0 n1 =>
    rename_i i
    refine Fn.fz (fun H nx => h _ _ _ _ rfl fun hwf => ?_) fun H => frz_ts H _ _
    unfold V_diagramText
    have w := wrap_succ (show i < 9223372036854775807 by omega)
    have sz := decT_size (nd L i).2
    try simp (disch := (first | rfl | with_reducible assumption | with_reducible solve_by_elim (maxDepth := 8) [Shape.inT, Shape.inI, Shape.inC, Shape.inK, Shape.obF, Shape.obT, Shape.arI, Arr.inF] | omega)) only [S2, Nat.reduceEqDiff, Nat.reduceAdd, iput, puts, pr_iad hi, pr_ld hi, nd_of]
    refine den_newG fun H3 z3 e3 => ?_
    refine den_stG (o := nx) (p := 0) (k := 2) (m := 2) (c' := pr2c (nd L i)) (by rfl) (by rfl) z3 (by rfl) (by rfl) (show 0 + 2 ≤ 2 by omega) (by rfl) (by rfl) fun H4 z4 e4 => ?_
    have sub : Sub H H4 := ((Low.refl H nx).newst e3 e4).sub hwf
    have ln : (pr2c (nd L i)).length = 2 := rfl
    try simp (disch := (first | rfl | with_reducible assumption | with_reducible solve_by_elim (maxDepth := 8) [Shape.inT, Shape.inI, Shape.inC, Shape.inK, Shape.obF, Shape.obT, Shape.arI, Arr.inF] | omega)) only [S2, Nat.reduceEqDiff, Nat.reduceAdd, iput, puts, p_fadm (l := 2) z4 ln, p_ldm (n := 2) z4 ln, pr_ldA, pr_ldB]
    refine ⟨fun q => ?_, fun q => absurd k q⟩
    repeat (first | simp (disch := (first | rfl | with_reducible assumption | with_reducible solve_by_elim (maxDepth := 8) [Shape.inT, Shape.inI, Shape.inC, Shape.inK, Shape.obF, Shape.obT, Shape.arI, Arr.inF] | omega)) only [S2, Nat.reduceEqDiff, Nat.reduceAdd, iput, puts, p_fadm (l := 2) z4 ln, p_ldm (n := 2) z4 ln, pr_ldA, pr_ldB, str_k, p_addk1 (x := 102) (s := decT (nd L i).2) (by omega), w] | (refine den_call rfl (by first | (simp only [SS, Nat.reduceEqDiff, Nat.reduceAdd, iput, puts, FF, frzL_cat]; done) | (simp only [SS, Nat.reduceEqDiff, Nat.reduceAdd, iput, puts, FF, frzL_cat]; rfl)) (by first | exact sFormatInt_fz hs hf hF (nd L i).2 n0 n1) ?_) | (refine den_calli rfl (by first | (simp only [SS, Nat.reduceEqDiff, Nat.reduceAdd, iput, puts, FF, frzL_cat]; done) | (simp only [SS, Nat.reduceEqDiff, Nat.reduceAdd, iput, puts, FF, frzL_cat]; rfl)) (by first | exact sFormatInt_fz hs hf hF (nd L i).2 n0 n1) ?_))
    exact ⟨_, rfl, H, sub, rfl, rfl, by omega⟩
  | idn hi k n0 n1 =>
    rename_i i
    refine Fn.fz (fun H nx => h _ _ _ _ rfl fun hwf => ?_) fun H => frz_ts H _ _
    unfold V_diagramText
    have w := wrap_succ (show i < 9223372036854775807 by omega)
    have sz := decT_size (nd L i).2
    try simp (disch := (first | rfl | with_reducible assumption | with_reducible solve_by_elim (maxDepth := 8) [Shape.inT, Shape.inI, Shape.inC, Shape.inK, Shape.obF, Shape.obT, Shape.arI, Arr.inF] | omega)) only [S2, Nat.reduceEqDiff, Nat.reduceAdd, iput, puts, pr_iad hi, pr_ld hi, nd_of]
    refine den_newG fun H3 z3 e3 => ?_
    refine den_stG (o := nx) (p := 0) (k := 2) (m := 2) (c' := pr2c (nd L i)) (by rfl) (by rfl) z3 (by rfl) (by rfl) (show 0 + 2 ≤ 2 by omega) (by rfl) (by rfl) fun H4 z4 e4 => ?_
    have sub : Sub H H4 := ((Low.refl H nx).newst e3 e4).sub hwf
    have ln : (pr2c (nd L i)).length = 2 := rfl
    try simp (disch := (first | rfl | with_reducible assumption | with_reducible solve_by_elim (maxDepth := 8) [Shape.inT, Shape.inI, Shape.inC, Shape.inK, Shape.obF, Shape.obT, Shape.arI, Arr.inF] | omega)) only [S2, Nat.reduceEqDiff, Nat.reduceAdd, iput, puts, p_fadm (l := 2) z4 ln, p_ldm (n := 2) z4 ln, pr_ldA, pr_ldB]
    refine ⟨fun q => absurd q (by omega), fun q => ?_⟩
    try simp (disch := (first | rfl | with_reducible assumption | with_reducible solve_by_elim (maxDepth := 8) [Shape.inT, Shape.inI, Shape.inC, Shape.inK, Shape.obF, Shape.obT, Shape.arI, Arr.inF] | omega)) only [S2, Nat.reduceEqDiff, Nat.reduceAdd, iput, puts, p_fadm (l := 2) z4 ln, p_ldm (n := 2) z4 ln, pr_ldA, pr_ldB]
    refine ⟨fun q => ?_, fun q => absurd k q⟩
    repeat (first | simp (disch := (first | rfl | with_reducible assumption | with_reducible solve_by_elim (maxDepth := 8) [Shape.inT, Shape.inI, Shape.inC, Shape.inK, Shape.obF, Shape.obT, Shape.arI, Arr.inF] | omega)) only [S2, Nat.reduceEqDiff, Nat.reduceAdd, iput, puts, p_fadm (l := 2) z4 ln, p_ldm (n := 2) z4 ln, pr_ldA, pr_ldB, str_k, p_addk1 (x := 105) (s := decT (nd L i).2) (by omega), w] | (refine den_call rfl (by first | (simp only [SS, Nat.reduceEqDiff, Nat.reduceAdd, iput, puts, FF, frzL_cat]; done) | (simp only [SS, Nat.reduceEqDiff, Nat.reduceAdd, iput, puts, FF, frzL_cat]; rfl)) (by first | exact sFormatInt_fz hs hf hF (nd L i).2 n0 n1) ?_) | (refine den_calli rfl (by first | (simp only [SS, Nat.reduceEqDiff, Nat.reduceAdd, iput, puts, FF, frzL_cat]; done) | (simp only [SS, Nat.reduceEqDiff, Nat.reduceAdd, iput, puts, FF, frzL_cat]; rfl)) (by first | exact sFormatInt_fz hs hf hF (nd L i).2 n0 n1) ?_))
    exact ⟨_, rfl, H, sub, rfl, rfl, by omega⟩
  | thn hi k h1 h2 i1 i2 =>
    rename_i i m e s1 s2
    refine Fn.fz (fun H nx => h _ _ _ _ rfl fun hwf => ?_) fun H => frz_ts H _ _
    unfold V_diagramText
    have w := wrap_succ (show i < 9223372036854775807 by omega)
    have z1 := h1.sz
    have z2 := h2.sz
    have hm : m < L.length := z2.2.2.2
    have sp := par_size ((nd L m).1 = 2) s2
    have sa := size_app s1 ⟨#[59]⟩
    rw [sz1] at sa
    try simp (disch := (first | rfl | with_reducible assumption | with_reducible solve_by_elim (maxDepth := 8) [Shape.inT, Shape.inI, Shape.inC, Shape.inK, Shape.obF, Shape.obT, Shape.arI, Arr.inF] | omega)) only [S2, Nat.reduceEqDiff, Nat.reduceAdd, iput, puts, pr_iad hi, pr_ld hi, nd_of]
    refine den_newG fun H3 z3 e3 => ?_
    refine den_stG (o := nx) (p := 0) (k := 2) (m := 2) (c' := pr2c (nd L i)) (by rfl) (by rfl) z3 (by rfl) (by rfl) (show 0 + 2 ≤ 2 by omega) (by rfl) (by rfl) fun H4 z4 e4 => ?_
    have sub : Sub H H4 := ((Low.refl H nx).newst e3 e4).sub hwf
    have ln : (pr2c (nd L i)).length = 2 := rfl
    try simp (disch := (first | rfl | with_reducible assumption | with_reducible solve_by_elim (maxDepth := 8) [Shape.inT, Shape.inI, Shape.inC, Shape.inK, Shape.obF, Shape.obT, Shape.arI, Arr.inF] | omega)) only [S2, Nat.reduceEqDiff, Nat.reduceAdd, iput, puts, p_fadm (l := 2) z4 ln, p_ldm (n := 2) z4 ln, pr_ldA, pr_ldB]
    refine ⟨fun q => absurd q (by omega), fun q => ?_⟩
    try simp (disch := (first | rfl | with_reducible assumption | with_reducible solve_by_elim (maxDepth := 8) [Shape.inT, Shape.inI, Shape.inC, Shape.inK, Shape.obF, Shape.obT, Shape.arI, Arr.inF] | omega)) only [S2, Nat.reduceEqDiff, Nat.reduceAdd, iput, puts, p_fadm (l := 2) z4 ln, p_ldm (n := 2) z4 ln, pr_ldA, pr_ldB]
    refine ⟨fun q => absurd q (by omega), fun q => ?_⟩
    repeat (first | simp (disch := (first | rfl | with_reducible assumption | with_reducible solve_by_elim (maxDepth := 8) [Shape.inT, Shape.inI, Shape.inC, Shape.inK, Shape.obF, Shape.obT, Shape.arI, Arr.inF] | omega)) only [S2, Nat.reduceEqDiff, Nat.reduceAdd, iput, puts, p_fadm (l := 2) z4 ln, p_ldm (n := 2) z4 ln, pr_ldA, pr_ldB, w] | (refine den_call rfl (by first | (simp only [SS, Nat.reduceEqDiff, Nat.reduceAdd, iput, puts, FF, frzL_cat]; done) | (simp only [SS, Nat.reduceEqDiff, Nat.reduceAdd, iput, puts, FF, frzL_cat]; rfl)) (by first | exact i1 | exact i2) ?_) | (refine den_calli rfl (by first | (simp only [SS, Nat.reduceEqDiff, Nat.reduceAdd, iput, puts, FF, frzL_cat]; done) | (simp only [SS, Nat.reduceEqDiff, Nat.reduceAdd, iput, puts, FF, frzL_cat]; rfl)) (by first | exact i1 | exact i2) ?_))
    refine ⟨fun q => ?_, fun q => absurd k q⟩
    repeat (first | simp (disch := (first | rfl | with_reducible assumption | with_reducible solve_by_elim (maxDepth := 8) [Shape.inT, Shape.inI, Shape.inC, Shape.inK, Shape.obF, Shape.obT, Shape.arI, Arr.inF] | omega)) only [S2, Nat.reduceEqDiff, Nat.reduceAdd, iput, puts, pr_iad hm, Nat.add_zero, pr_get hm, str_k, p_addk2 (x := 59) (s := s1) (by omega), p_add3 (a := s1 ++ ⟨#[59]⟩) (b := par ((nd L m).1 = 2) s2) (by omega) (by omega)] | (refine den_call rfl (by first | (simp only [SS, Nat.reduceEqDiff, Nat.reduceAdd, iput, puts, FF, frzL_cat]; done) | (simp only [SS, Nat.reduceEqDiff, Nat.reduceAdd, iput, puts, FF, frzL_cat]; rfl)) (by first | exact grouped_fz hg s2 ((nd L m).1 = 2) (by simp) (by omega)) ?_) | (refine den_calli rfl (by first | (simp only [SS, Nat.reduceEqDiff, Nat.reduceAdd, iput, puts, FF, frzL_cat]; done) | (simp only [SS, Nat.reduceEqDiff, Nat.reduceAdd, iput, puts, FF, frzL_cat]; rfl)) (by first | exact grouped_fz hg s2 ((nd L m).1 = 2) (by simp) (by omega)) ?_))
    exact ⟨_, rfl, H, sub, rfl, rfl, by omega⟩
  | bes hi k h1 h2 i1 i2 =>
    rename_i i m e s1 s2
    refine Fn.fz (fun H nx => h _ _ _ _ rfl fun hwf => ?_) fun H => frz_ts H _ _
    unfold V_diagramText
    have w := wrap_succ (show i < 9223372036854775807 by omega)
    have z1 := h1.sz
    have z2 := h2.sz
    have hm : m < L.length := z2.2.2.2
    have hi1 : i + 1 < L.length := z1.2.2.2
    have sp := par_size (2 ≤ (nd L m).1) s2
    have sp1 := par_size ((nd L (i + 1)).1 = 2) s1
    have sa := size_app (par ((nd L (i + 1)).1 = 2) s1) ⟨#[42]⟩
    rw [sz1] at sa
    try simp (disch := (first | rfl | with_reducible assumption | with_reducible solve_by_elim (maxDepth := 8) [Shape.inT, Shape.inI, Shape.inC, Shape.inK, Shape.obF, Shape.obT, Shape.arI, Arr.inF] | omega)) only [S2, Nat.reduceEqDiff, Nat.reduceAdd, iput, puts, pr_iad hi, pr_ld hi, nd_of]
    refine den_newG fun H3 z3 e3 => ?_
    refine den_stG (o := nx) (p := 0) (k := 2) (m := 2) (c' := pr2c (nd L i)) (by rfl) (by rfl) z3 (by rfl) (by rfl) (show 0 + 2 ≤ 2 by omega) (by rfl) (by rfl) fun H4 z4 e4 => ?_
    have sub : Sub H H4 := ((Low.refl H nx).newst e3 e4).sub hwf
    have ln : (pr2c (nd L i)).length = 2 := rfl
    try simp (disch := (first | rfl | with_reducible assumption | with_reducible solve_by_elim (maxDepth := 8) [Shape.inT, Shape.inI, Shape.inC, Shape.inK, Shape.obF, Shape.obT, Shape.arI, Arr.inF] | omega)) only [S2, Nat.reduceEqDiff, Nat.reduceAdd, iput, puts, p_fadm (l := 2) z4 ln, p_ldm (n := 2) z4 ln, pr_ldA, pr_ldB]
    refine ⟨fun q => absurd q (by omega), fun q => ?_⟩
    try simp (disch := (first | rfl | with_reducible assumption | with_reducible solve_by_elim (maxDepth := 8) [Shape.inT, Shape.inI, Shape.inC, Shape.inK, Shape.obF, Shape.obT, Shape.arI, Arr.inF] | omega)) only [S2, Nat.reduceEqDiff, Nat.reduceAdd, iput, puts, p_fadm (l := 2) z4 ln, p_ldm (n := 2) z4 ln, pr_ldA, pr_ldB]
    refine ⟨fun q => absurd q (by omega), fun q => ?_⟩
    repeat (first | simp (disch := (first | rfl | with_reducible assumption | with_reducible solve_by_elim (maxDepth := 8) [Shape.inT, Shape.inI, Shape.inC, Shape.inK, Shape.obF, Shape.obT, Shape.arI, Arr.inF] | omega)) only [S2, Nat.reduceEqDiff, Nat.reduceAdd, iput, puts, p_fadm (l := 2) z4 ln, p_ldm (n := 2) z4 ln, pr_ldA, pr_ldB, w] | (refine den_call rfl (by first | (simp only [SS, Nat.reduceEqDiff, Nat.reduceAdd, iput, puts, FF, frzL_cat]; done) | (simp only [SS, Nat.reduceEqDiff, Nat.reduceAdd, iput, puts, FF, frzL_cat]; rfl)) (by first | exact i1 | exact i2) ?_) | (refine den_calli rfl (by first | (simp only [SS, Nat.reduceEqDiff, Nat.reduceAdd, iput, puts, FF, frzL_cat]; done) | (simp only [SS, Nat.reduceEqDiff, Nat.reduceAdd, iput, puts, FF, frzL_cat]; rfl)) (by first | exact i1 | exact i2) ?_))
    refine ⟨fun q => absurd q (by omega), fun q => ?_⟩
    repeat (first | simp (disch := (first | rfl | with_reducible assumption | with_reducible solve_by_elim (maxDepth := 8) [Shape.inT, Shape.inI, Shape.inC, Shape.inK, Shape.obF, Shape.obT, Shape.arI, Arr.inF] | omega)) only [S2, Nat.reduceEqDiff, Nat.reduceAdd, iput, puts, w, pr_iad hm, pr_iad hi1, Nat.add_zero, pr_get hm, pr_get hi1, str_k, p_addk2 (x := 42) (s := par ((nd L (i + 1)).1 = 2) s1) (by omega), p_add3 (a := par ((nd L (i + 1)).1 = 2) s1 ++ ⟨#[42]⟩) (b := par (2 ≤ (nd L m).1) s2) (by omega) (by omega)] | (refine den_call rfl (by first | (simp only [SS, Nat.reduceEqDiff, Nat.reduceAdd, iput, puts, FF, frzL_cat]; done) | (simp only [SS, Nat.reduceEqDiff, Nat.reduceAdd, iput, puts, FF, frzL_cat]; rfl)) (by first | exact grouped_fz hg s1 ((nd L (i + 1)).1 = 2) (by simp) (by omega) | exact grouped_fz hg s2 (2 ≤ (nd L m).1) (by simp) (by omega)) ?_) | (refine den_calli rfl (by first | (simp only [SS, Nat.reduceEqDiff, Nat.reduceAdd, iput, puts, FF, frzL_cat]; done) | (simp only [SS, Nat.reduceEqDiff, Nat.reduceAdd, iput, puts, FF, frzL_cat]; rfl)) (by first | exact grouped_fz hg s1 ((nd L (i + 1)).1 = 2) (by simp) (by omega) | exact grouped_fz hg s2 (2 ≤ (nd L m).1) (by simp) (by omega)) ?_))
    exact ⟨_, rfl, H, sub, rfl, rfl, by omega⟩
end Go.Av
