/-
  Texts of diagrams: the reference's, and both.
-/
import Derived.Test.YtbalggpkmaabmaaDoorAvV5
namespace Go.Av
open Classical
set_option linter.unusedSimpArgs false
set_option linter.unusedVariables false
variable {P : Program} {ν : Nat → FuncId}

theorem par_yes {c : Prop} {s : Txt} (h : c) : par c s = (⟨#[40]⟩ ++ s) ++ ⟨#[41]⟩ := by unfold par; rw [if_pos h]
theorem par_no {c : Prop} {s : Txt} (h : ¬ c) : par c s = s := by unfold par; rw [if_neg h]
def V_spec_l35Print : Vc :=
  .op true (.p (.iad 2) [.t 0, .t 1]) <|
  .op true (.p (.ld (some 2)) [.t 2]) <|
  .op true (.new [int 0, int 0]) <|
  .op true (.st 2 (.t 4) (.t 3)) <|
  .op true (.p (.fad 0) [.t 4]) <|
  .op true (.p (.ld none) [.t 6]) <|
  .op true (.p (.bin .eql) [.t 7, .c (int 0)]) <|
  .br 8
   (.op true (.p (.fad 1) [.t 4]) <|
   .op true (.p (.ld none) [.t 9]) <|
   .op true (.call (.f 385) [.t 10]) <|
   .op true (.p (.bin .add) [.c (.v (.string ⟨#[102]⟩)), .t 11]) <|
   .op true (.p (.bin .add) [.t 1, .c (int 1)]) <|
   .ret [(.t 12, none), (.t 13, none)])
   (.op true (.p (.bin .eql) [.t 7, .c (int 1)]) <|
   .br 9
    (.op true (.p (.fad 1) [.t 4]) <|
    .op true (.p (.ld none) [.t 10]) <|
    .op true (.call (.f 385) [.t 11]) <|
    .op true (.p (.bin .add) [.c (.v (.string ⟨#[105]⟩)), .t 12]) <|
    .op true (.p (.bin .add) [.t 1, .c (int 1)]) <|
    .ret [(.t 13, none), (.t 14, none)])
    (.op true (.p (.bin .add) [.t 1, .c (int 1)]) <|
    .op true (.call (.f 270) [.t 0, .t 10]) <|
    .op true (.p (.ext 0) [.t 11]) <|
    .op true (.p (.ext 1) [.t 11]) <|
    .op true (.call (.f 270) [.t 0, .t 13]) <|
    .op true (.p (.ext 0) [.t 14]) <|
    .op true (.p (.ext 1) [.t 14]) <|
    .op true (.p (.fad 0) [.t 4]) <|
    .op true (.p (.ld none) [.t 17]) <|
    .op true (.p (.bin .eql) [.t 18, .c (int 2)]) <|
    .br 19
     (.op true (.p (.iad 2) [.t 0, .t 13]) <|
     .op true (.p (.fad 0) [.t 20]) <|
     .op true (.p (.ld none) [.t 21]) <|
     .op true (.p (.bin .eql) [.t 22, .c (int 2)]) <|
     .br 23
      (.op true (.p (.bin .add) [.c (.v (.string ⟨#[40]⟩)), .t 15]) <|
      .op true (.p (.bin .add) [.t 24, .c (.v (.string ⟨#[41]⟩))]) <|
      .op true (.p (.bin .add) [.t 12, .c (.v (.string ⟨#[59]⟩))]) <|
      .op true (.p (.bin .add) [.t 26, .t 25]) <|
      .ret [(.t 27, none), (.t 16, none)])
      (.op true (.p (.bin .add) [.t 12, .c (.v (.string ⟨#[59]⟩))]) <|
      .op true (.p (.bin .add) [.t 24, .t 15]) <|
      .ret [(.t 25, none), (.t 16, none)]))
     (.op true (.p (.bin .add) [.t 1, .c (int 1)]) <|
     .op true (.p (.iad 2) [.t 0, .t 20]) <|
     .op true (.p (.fad 0) [.t 21]) <|
     .op true (.p (.ld none) [.t 22]) <|
     .op true (.p (.bin .eql) [.t 23, .c (int 2)]) <|
     .br 24
      (.op true (.p (.bin .add) [.c (.v (.string ⟨#[40]⟩)), .t 12]) <|
      .op true (.p (.bin .add) [.t 25, .c (.v (.string ⟨#[41]⟩))]) <|
      .op true (.p (.iad 2) [.t 0, .t 13]) <|
      .op true (.p (.fad 0) [.t 27]) <|
      .op true (.p (.ld none) [.t 28]) <|
      .op true (.p (.bin .eql) [.t 29, .c (int 2)]) <|
      .br 30
       (.op true (.p (.bin .add) [.c (.v (.string ⟨#[40]⟩)), .t 15]) <|
       .op true (.p (.bin .add) [.t 31, .c (.v (.string ⟨#[41]⟩))]) <|
       .op true (.p (.bin .add) [.t 26, .c (.v (.string ⟨#[42]⟩))]) <|
       .op true (.p (.bin .add) [.t 33, .t 32]) <|
       .ret [(.t 34, none), (.t 16, none)])
       (.op true (.p (.iad 2) [.t 0, .t 13]) <|
       .op true (.p (.fad 0) [.t 31]) <|
       .op true (.p (.ld none) [.t 32]) <|
       .op true (.p (.bin .eql) [.t 33, .c (int 3)]) <|
       .br 34
        (.op true (.p (.bin .add) [.c (.v (.string ⟨#[40]⟩)), .t 15]) <|
        .op true (.p (.bin .add) [.t 35, .c (.v (.string ⟨#[41]⟩))]) <|
        .op true (.p (.bin .add) [.t 26, .c (.v (.string ⟨#[42]⟩))]) <|
        .op true (.p (.bin .add) [.t 37, .t 36]) <|
        .ret [(.t 38, none), (.t 16, none)])
        (.op true (.p (.bin .add) [.t 26, .c (.v (.string ⟨#[42]⟩))]) <|
        .op true (.p (.bin .add) [.t 35, .t 15]) <|
        .ret [(.t 36, none), (.t 16, none)])))
      (.op true (.p (.iad 2) [.t 0, .t 13]) <|
      .op true (.p (.fad 0) [.t 25]) <|
      .op true (.p (.ld none) [.t 26]) <|
      .op true (.p (.bin .eql) [.t 27, .c (int 2)]) <|
      .br 28
       (.op true (.p (.bin .add) [.c (.v (.string ⟨#[40]⟩)), .t 15]) <|
       .op true (.p (.bin .add) [.t 29, .c (.v (.string ⟨#[41]⟩))]) <|
       .op true (.p (.bin .add) [.t 12, .c (.v (.string ⟨#[42]⟩))]) <|
       .op true (.p (.bin .add) [.t 31, .t 30]) <|
       .ret [(.t 32, none), (.t 16, none)])
       (.op true (.p (.iad 2) [.t 0, .t 13]) <|
       .op true (.p (.fad 0) [.t 29]) <|
       .op true (.p (.ld none) [.t 30]) <|
       .op true (.p (.bin .eql) [.t 31, .c (int 3)]) <|
       .br 32
        (.op true (.p (.bin .add) [.c (.v (.string ⟨#[40]⟩)), .t 15]) <|
        .op true (.p (.bin .add) [.t 33, .c (.v (.string ⟨#[41]⟩))]) <|
        .op true (.p (.bin .add) [.t 12, .c (.v (.string ⟨#[42]⟩))]) <|
        .op true (.p (.bin .add) [.t 35, .t 34]) <|
        .ret [(.t 36, none), (.t 16, none)])
        (.op true (.p (.bin .add) [.t 12, .c (.v (.string ⟨#[42]⟩))]) <|
        .op true (.p (.bin .add) [.t 33, .t 15]) <|
        .ret [(.t 34, none), (.t 16, none)]))))))
set_option maxHeartbeats 2000000 in
theorem l35Print_fz (hd : Has P ν 385 1 V_spec_l01Dec) (h : Has P ν 270 2 V_spec_l35Print) (L : List Pr) (hl : L.length ≤ 40) (ok : ∀ i, i < L.length → nodeOk (nd L i)) {i e : Nat} {s : Txt} (d : Dgs L i e s) :
    Fz (OkM P ν) 270 [.sl (prCells L) L.length, int i] (.tup [str s, int e]) := by
  induction d with
  | arr hi k n0 n1 =>
    rename_i i
    refine Fn.fz (fun H nx => h _ _ _ _ rfl fun hwf => ?_) fun H => frz_ts H _ _
    unfold V_spec_l35Print
    have w := wrap_succ (show i < 9223372036854775807 by omega)
    have sz := decT_size (nd L i).2
    try simp (disch := (first | rfl | with_reducible assumption | with_reducible solve_by_elim (maxDepth := 8) [Shape.inT, Shape.inI, Shape.inC, Shape.inK, Shape.obF, Shape.obT, Shape.arI, Arr.inF] | omega)) only [S2, Nat.reduceEqDiff, Nat.reduceAdd, iput, puts, pr_iad hi, pr_ld hi, nd_of]
    refine den_newG fun H3 z3 e3 => ?_
    refine den_stG (o := nx) (p := 0) (k := 2) (m := 2) (c' := pr2c (nd L i)) (by rfl) (by rfl) z3 (by rfl) (by rfl) (show 0 + 2 ≤ 2 by omega) (by rfl) (by rfl) fun H4 z4 e4 => ?_
    have sub : Sub H H4 := ((Low.refl H nx).newst e3 e4).sub hwf
    have ln : (pr2c (nd L i)).length = 2 := rfl
    try simp (disch := (first | rfl | with_reducible assumption | with_reducible solve_by_elim (maxDepth := 8) [Shape.inT, Shape.inI, Shape.inC, Shape.inK, Shape.obF, Shape.obT, Shape.arI, Arr.inF] | omega)) only [S2, Nat.reduceEqDiff, Nat.reduceAdd, iput, puts, p_fadm (l := 2) z4 ln, p_ldm (n := 2) z4 ln, pr_ldA, pr_ldB]
    refine ⟨fun q => ?_, fun q => absurd k q⟩
    repeat (first | simp (disch := (first | rfl | with_reducible assumption | with_reducible solve_by_elim (maxDepth := 8) [Shape.inT, Shape.inI, Shape.inC, Shape.inK, Shape.obF, Shape.obT, Shape.arI, Arr.inF] | omega)) only [S2, Nat.reduceEqDiff, Nat.reduceAdd, iput, puts, p_fadm (l := 2) z4 ln, p_ldm (n := 2) z4 ln, pr_ldA, pr_ldB, str_k, p_addk1 (x := 102) (s := decT (nd L i).2) (by omega), w] | (refine den_call rfl (by first | (simp only [SS, Nat.reduceEqDiff, Nat.reduceAdd, iput, puts, FF, frzL_cat]; done) | (simp only [SS, Nat.reduceEqDiff, Nat.reduceAdd, iput, puts, FF, frzL_cat]; rfl)) (by first | exact l01Dec_fz hd (nd L i).2 n0 n1) ?_) | (refine den_calli rfl (by first | (simp only [SS, Nat.reduceEqDiff, Nat.reduceAdd, iput, puts, FF, frzL_cat]; done) | (simp only [SS, Nat.reduceEqDiff, Nat.reduceAdd, iput, puts, FF, frzL_cat]; rfl)) (by first | exact l01Dec_fz hd (nd L i).2 n0 n1) ?_))
    exact ⟨_, rfl, H, sub, rfl, rfl, by omega⟩
  | idn hi k n0 n1 =>
    rename_i i
    refine Fn.fz (fun H nx => h _ _ _ _ rfl fun hwf => ?_) fun H => frz_ts H _ _
    unfold V_spec_l35Print
    have w := wrap_succ (show i < 9223372036854775807 by omega)
    have sz := decT_size (nd L i).2
    try simp (disch := (first | rfl | with_reducible assumption | with_reducible solve_by_elim (maxDepth := 8) [Shape.inT, Shape.inI, Shape.inC, Shape.inK, Shape.obF, Shape.obT, Shape.arI, Arr.inF] | omega)) only [S2, Nat.reduceEqDiff, Nat.reduceAdd, iput, puts, pr_iad hi, pr_ld hi, nd_of]
    refine den_newG fun H3 z3 e3 => ?_
    refine den_stG (o := nx) (p := 0) (k := 2) (m := 2) (c' := pr2c (nd L i)) (by rfl) (by rfl) z3 (by rfl) (by rfl) (show 0 + 2 ≤ 2 by omega) (by rfl) (by rfl) fun H4 z4 e4 => ?_
    have sub : Sub H H4 := ((Low.refl H nx).newst e3 e4).sub hwf
    have ln : (pr2c (nd L i)).length = 2 := rfl
    try simp (disch := (first | rfl | with_reducible assumption | with_reducible solve_by_elim (maxDepth := 8) [Shape.inT, Shape.inI, Shape.inC, Shape.inK, Shape.obF, Shape.obT, Shape.arI, Arr.inF] | omega)) only [S2, Nat.reduceEqDiff, Nat.reduceAdd, iput, puts, p_fadm (l := 2) z4 ln, p_ldm (n := 2) z4 ln, pr_ldA, pr_ldB]
    refine ⟨fun q => absurd q (by omega), fun q => ?_⟩
    try simp (disch := (first | rfl | with_reducible assumption | with_reducible solve_by_elim (maxDepth := 8) [Shape.inT, Shape.inI, Shape.inC, Shape.inK, Shape.obF, Shape.obT, Shape.arI, Arr.inF] | omega)) only [S2, Nat.reduceEqDiff, Nat.reduceAdd, iput, puts, p_fadm (l := 2) z4 ln, p_ldm (n := 2) z4 ln, pr_ldA, pr_ldB]
    refine ⟨fun q => ?_, fun q => absurd k q⟩
    repeat (first | simp (disch := (first | rfl | with_reducible assumption | with_reducible solve_by_elim (maxDepth := 8) [Shape.inT, Shape.inI, Shape.inC, Shape.inK, Shape.obF, Shape.obT, Shape.arI, Arr.inF] | omega)) only [S2, Nat.reduceEqDiff, Nat.reduceAdd, iput, puts, p_fadm (l := 2) z4 ln, p_ldm (n := 2) z4 ln, pr_ldA, pr_ldB, str_k, p_addk1 (x := 105) (s := decT (nd L i).2) (by omega), w] | (refine den_call rfl (by first | (simp only [SS, Nat.reduceEqDiff, Nat.reduceAdd, iput, puts, FF, frzL_cat]; done) | (simp only [SS, Nat.reduceEqDiff, Nat.reduceAdd, iput, puts, FF, frzL_cat]; rfl)) (by first | exact l01Dec_fz hd (nd L i).2 n0 n1) ?_) | (refine den_calli rfl (by first | (simp only [SS, Nat.reduceEqDiff, Nat.reduceAdd, iput, puts, FF, frzL_cat]; done) | (simp only [SS, Nat.reduceEqDiff, Nat.reduceAdd, iput, puts, FF, frzL_cat]; rfl)) (by first | exact l01Dec_fz hd (nd L i).2 n0 n1) ?_))
    exact ⟨_, rfl, H, sub, rfl, rfl, by omega⟩
  | thn hi k h1 h2 i1 i2 =>
    rename_i i m e s1 s2
    refine Fn.fz (fun H nx => h _ _ _ _ rfl fun hwf => ?_) fun H => frz_ts H _ _
    unfold V_spec_l35Print
    have w := wrap_succ (show i < 9223372036854775807 by omega)
    have z1 := h1.sz
    have z2 := h2.sz
    have hm : m < L.length := z2.2.2.2
    have hi1 : i + 1 < L.length := z1.2.2.2
    have pk : ∀ (s : Txt), s.size ≤ 1000 → ((⟨#[40]⟩ ++ s : Txt)).size ≤ 1001 ∧ (((⟨#[40]⟩ ++ s) ++ ⟨#[41]⟩ : Txt)).size ≤ 1002 := fun s hs => by
      have a := size_app ⟨#[40]⟩ s
      have b := size_app (⟨#[40]⟩ ++ s) ⟨#[41]⟩
      rw [sz1] at a b
      omega
    have pk1 := pk s1 (by omega)
    have pk2 := pk s2 (by omega)
    have sm : ∀ (s : Txt) (x : UInt8), s.size ≤ 1002 → (s ++ ⟨#[x]⟩ : Txt).size ≤ 1003 := fun s x hs => by rw [size_app, sz1]; omega
    try simp (disch := (first | rfl | with_reducible assumption | with_reducible solve_by_elim (maxDepth := 8) [Shape.inT, Shape.inI, Shape.inC, Shape.inK, Shape.obF, Shape.obT, Shape.arI, Arr.inF] | omega)) only [S2, Nat.reduceEqDiff, Nat.reduceAdd, iput, puts, pr_iad hi, pr_ld hi, nd_of]
    refine den_newG fun H3 z3 e3 => ?_
    refine den_stG (o := nx) (p := 0) (k := 2) (m := 2) (c' := pr2c (nd L i)) (by rfl) (by rfl) z3 (by rfl) (by rfl) (show 0 + 2 ≤ 2 by omega) (by rfl) (by rfl) fun H4 z4 e4 => ?_
    have sub : Sub H H4 := ((Low.refl H nx).newst e3 e4).sub hwf
    have ln : (pr2c (nd L i)).length = 2 := rfl
    try simp (disch := (first | rfl | with_reducible assumption | with_reducible solve_by_elim (maxDepth := 8) [Shape.inT, Shape.inI, Shape.inC, Shape.inK, Shape.obF, Shape.obT, Shape.arI, Arr.inF] | omega)) only [S2, Nat.reduceEqDiff, Nat.reduceAdd, iput, puts, p_fadm (l := 2) z4 ln, p_ldm (n := 2) z4 ln, pr_ldA, pr_ldB]
    refine ⟨fun q => absurd q (by omega), fun q => ?_⟩
    try simp (disch := (first | rfl | with_reducible assumption | with_reducible solve_by_elim (maxDepth := 8) [Shape.inT, Shape.inI, Shape.inC, Shape.inK, Shape.obF, Shape.obT, Shape.arI, Arr.inF] | omega)) only [S2, Nat.reduceEqDiff, Nat.reduceAdd, iput, puts, p_fadm (l := 2) z4 ln, p_ldm (n := 2) z4 ln, pr_ldA, pr_ldB]
    refine ⟨fun q => absurd q (by omega), fun q => ?_⟩
    repeat (first | simp (disch := (first | rfl | with_reducible assumption | with_reducible solve_by_elim (maxDepth := 8) [Shape.inT, Shape.inI, Shape.inC, Shape.inK, Shape.obF, Shape.obT, Shape.arI, Arr.inF] | omega)) only [S2, Nat.reduceEqDiff, Nat.reduceAdd, iput, puts, p_fadm (l := 2) z4 ln, p_ldm (n := 2) z4 ln, pr_ldA, pr_ldB, w] | (refine den_call rfl (by first | (simp only [SS, Nat.reduceEqDiff, Nat.reduceAdd, iput, puts, FF, frzL_cat]; done) | (simp only [SS, Nat.reduceEqDiff, Nat.reduceAdd, iput, puts, FF, frzL_cat]; rfl)) (by first | exact i1 | exact i2) ?_) | (refine den_calli rfl (by first | (simp only [SS, Nat.reduceEqDiff, Nat.reduceAdd, iput, puts, FF, frzL_cat]; done) | (simp only [SS, Nat.reduceEqDiff, Nat.reduceAdd, iput, puts, FF, frzL_cat]; rfl)) (by first | exact i1 | exact i2) ?_))
    refine ⟨fun q => ?_, fun q => absurd k q⟩
    have a1 := sm s1 59 (by omega)
    try simp (disch := (first | rfl | with_reducible assumption | with_reducible solve_by_elim (maxDepth := 8) [Shape.inT, Shape.inI, Shape.inC, Shape.inK, Shape.obF, Shape.obT, Shape.arI, Arr.inF] | omega)) only [S2, Nat.reduceEqDiff, Nat.reduceAdd, iput, puts, pr_iad hm, pr_iad hi1, Nat.add_zero, pr_get hm, pr_get hi1, w, str_k]
    refine ⟨fun g => ?_, fun g => ?_⟩
    · rw [par_yes g]
      try simp (disch := (first | rfl | with_reducible assumption | with_reducible solve_by_elim (maxDepth := 8) [Shape.inT, Shape.inI, Shape.inC, Shape.inK, Shape.obF, Shape.obT, Shape.arI, Arr.inF] | omega)) only [S2, Nat.reduceEqDiff, Nat.reduceAdd, iput, puts, pr_iad hm, pr_iad hi1, Nat.add_zero, pr_get hm, pr_get hi1, w, str_k, p_addk1 (x := 40) (s := s2) (by omega), p_addk2 (x := 41) (s := ⟨#[40]⟩ ++ s2) (by omega), p_addk2 (x := 59) (s := s1) (by omega), p_add3 (a := s1 ++ ⟨#[59]⟩) (b := (⟨#[40]⟩ ++ s2) ++ ⟨#[41]⟩) (by omega) (by omega)]
      exact ⟨_, rfl, H, sub, rfl, rfl, by omega⟩
    · rw [par_no g]
      try simp (disch := (first | rfl | with_reducible assumption | with_reducible solve_by_elim (maxDepth := 8) [Shape.inT, Shape.inI, Shape.inC, Shape.inK, Shape.obF, Shape.obT, Shape.arI, Arr.inF] | omega)) only [S2, Nat.reduceEqDiff, Nat.reduceAdd, iput, puts, pr_iad hm, pr_iad hi1, Nat.add_zero, pr_get hm, pr_get hi1, w, str_k, p_addk2 (x := 59) (s := s1) (by omega), p_add3 (a := s1 ++ ⟨#[59]⟩) (b := s2) (by omega) (by omega)]
      exact ⟨_, rfl, H, sub, rfl, rfl, by omega⟩
  | bes hi k h1 h2 i1 i2 =>
    rename_i i m e s1 s2
    refine Fn.fz (fun H nx => h _ _ _ _ rfl fun hwf => ?_) fun H => frz_ts H _ _
    unfold V_spec_l35Print
    have w := wrap_succ (show i < 9223372036854775807 by omega)
    have z1 := h1.sz
    have z2 := h2.sz
    have hm : m < L.length := z2.2.2.2
    have hi1 : i + 1 < L.length := z1.2.2.2
    have pk : ∀ (s : Txt), s.size ≤ 1000 → ((⟨#[40]⟩ ++ s : Txt)).size ≤ 1001 ∧ (((⟨#[40]⟩ ++ s) ++ ⟨#[41]⟩ : Txt)).size ≤ 1002 := fun s hs => by
      have a := size_app ⟨#[40]⟩ s
      have b := size_app (⟨#[40]⟩ ++ s) ⟨#[41]⟩
      rw [sz1] at a b
      omega
    have pk1 := pk s1 (by omega)
    have pk2 := pk s2 (by omega)
    have sm : ∀ (s : Txt) (x : UInt8), s.size ≤ 1002 → (s ++ ⟨#[x]⟩ : Txt).size ≤ 1003 := fun s x hs => by rw [size_app, sz1]; omega
    try simp (disch := (first | rfl | with_reducible assumption | with_reducible solve_by_elim (maxDepth := 8) [Shape.inT, Shape.inI, Shape.inC, Shape.inK, Shape.obF, Shape.obT, Shape.arI, Arr.inF] | omega)) only [S2, Nat.reduceEqDiff, Nat.reduceAdd, iput, puts, pr_iad hi, pr_ld hi, nd_of]
    refine den_newG fun H3 z3 e3 => ?_
    refine den_stG (o := nx) (p := 0) (k := 2) (m := 2) (c' := pr2c (nd L i)) (by rfl) (by rfl) z3 (by rfl) (by rfl) (show 0 + 2 ≤ 2 by omega) (by rfl) (by rfl) fun H4 z4 e4 => ?_
    have sub : Sub H H4 := ((Low.refl H nx).newst e3 e4).sub hwf
    have ln : (pr2c (nd L i)).length = 2 := rfl
    try simp (disch := (first | rfl | with_reducible assumption | with_reducible solve_by_elim (maxDepth := 8) [Shape.inT, Shape.inI, Shape.inC, Shape.inK, Shape.obF, Shape.obT, Shape.arI, Arr.inF] | omega)) only [S2, Nat.reduceEqDiff, Nat.reduceAdd, iput, puts, p_fadm (l := 2) z4 ln, p_ldm (n := 2) z4 ln, pr_ldA, pr_ldB]
    refine ⟨fun q => absurd q (by omega), fun q => ?_⟩
    try simp (disch := (first | rfl | with_reducible assumption | with_reducible solve_by_elim (maxDepth := 8) [Shape.inT, Shape.inI, Shape.inC, Shape.inK, Shape.obF, Shape.obT, Shape.arI, Arr.inF] | omega)) only [S2, Nat.reduceEqDiff, Nat.reduceAdd, iput, puts, p_fadm (l := 2) z4 ln, p_ldm (n := 2) z4 ln, pr_ldA, pr_ldB]
    refine ⟨fun q => absurd q (by omega), fun q => ?_⟩
    repeat (first | simp (disch := (first | rfl | with_reducible assumption | with_reducible solve_by_elim (maxDepth := 8) [Shape.inT, Shape.inI, Shape.inC, Shape.inK, Shape.obF, Shape.obT, Shape.arI, Arr.inF] | omega)) only [S2, Nat.reduceEqDiff, Nat.reduceAdd, iput, puts, p_fadm (l := 2) z4 ln, p_ldm (n := 2) z4 ln, pr_ldA, pr_ldB, w] | (refine den_call rfl (by first | (simp only [SS, Nat.reduceEqDiff, Nat.reduceAdd, iput, puts, FF, frzL_cat]; done) | (simp only [SS, Nat.reduceEqDiff, Nat.reduceAdd, iput, puts, FF, frzL_cat]; rfl)) (by first | exact i1 | exact i2) ?_) | (refine den_calli rfl (by first | (simp only [SS, Nat.reduceEqDiff, Nat.reduceAdd, iput, puts, FF, frzL_cat]; done) | (simp only [SS, Nat.reduceEqDiff, Nat.reduceAdd, iput, puts, FF, frzL_cat]; rfl)) (by first | exact i1 | exact i2) ?_))
    refine ⟨fun q => absurd q (by omega), fun q => ?_⟩
    try simp (disch := (first | rfl | with_reducible assumption | with_reducible solve_by_elim (maxDepth := 8) [Shape.inT, Shape.inI, Shape.inC, Shape.inK, Shape.obF, Shape.obT, Shape.arI, Arr.inF] | omega)) only [S2, Nat.reduceEqDiff, Nat.reduceAdd, iput, puts, pr_iad hm, pr_iad hi1, Nat.add_zero, pr_get hm, pr_get hi1, w, str_k]
    refine ⟨fun f => ?_, fun f => ?_⟩
    · rw [par_yes f]
      try simp (disch := (first | rfl | with_reducible assumption | with_reducible solve_by_elim (maxDepth := 8) [Shape.inT, Shape.inI, Shape.inC, Shape.inK, Shape.obF, Shape.obT, Shape.arI, Arr.inF] | omega)) only [S2, Nat.reduceEqDiff, Nat.reduceAdd, iput, puts, pr_iad hm, pr_iad hi1, Nat.add_zero, pr_get hm, pr_get hi1, w, str_k, p_addk1 (x := 40) (s := s1) (by omega), p_addk2 (x := 41) (s := ⟨#[40]⟩ ++ s1) (by omega)]
      have a1 := sm ((⟨#[40]⟩ ++ s1) ++ ⟨#[41]⟩) 42 (by omega)
      try simp (disch := (first | rfl | with_reducible assumption | with_reducible solve_by_elim (maxDepth := 8) [Shape.inT, Shape.inI, Shape.inC, Shape.inK, Shape.obF, Shape.obT, Shape.arI, Arr.inF] | omega)) only [S2, Nat.reduceEqDiff, Nat.reduceAdd, iput, puts, pr_iad hm, pr_iad hi1, Nat.add_zero, pr_get hm, pr_get hi1, w, str_k]
      refine ⟨fun g => ?_, fun g => ?_⟩
      · rw [par_yes (show 2 ≤ (nd L m).1 by omega)]
        try simp (disch := (first | rfl | with_reducible assumption | with_reducible solve_by_elim (maxDepth := 8) [Shape.inT, Shape.inI, Shape.inC, Shape.inK, Shape.obF, Shape.obT, Shape.arI, Arr.inF] | omega)) only [S2, Nat.reduceEqDiff, Nat.reduceAdd, iput, puts, pr_iad hm, pr_iad hi1, Nat.add_zero, pr_get hm, pr_get hi1, w, str_k, p_addk1 (x := 40) (s := s2) (by omega), p_addk2 (x := 41) (s := ⟨#[40]⟩ ++ s2) (by omega), p_addk2 (x := 42) (s := (⟨#[40]⟩ ++ s1) ++ ⟨#[41]⟩) (by omega), p_add3 (a := (⟨#[40]⟩ ++ s1) ++ ⟨#[41]⟩ ++ ⟨#[42]⟩) (b := (⟨#[40]⟩ ++ s2) ++ ⟨#[41]⟩) (by omega) (by omega)]
        exact ⟨_, rfl, H, sub, rfl, rfl, by omega⟩
      try simp (disch := (first | rfl | with_reducible assumption | with_reducible solve_by_elim (maxDepth := 8) [Shape.inT, Shape.inI, Shape.inC, Shape.inK, Shape.obF, Shape.obT, Shape.arI, Arr.inF] | omega)) only [S2, Nat.reduceEqDiff, Nat.reduceAdd, iput, puts, pr_iad hm, pr_iad hi1, Nat.add_zero, pr_get hm, pr_get hi1, w, str_k]
      refine ⟨fun g2 => ?_, fun g2 => ?_⟩
      · rw [par_yes (show 2 ≤ (nd L m).1 by omega)]
        try simp (disch := (first | rfl | with_reducible assumption | with_reducible solve_by_elim (maxDepth := 8) [Shape.inT, Shape.inI, Shape.inC, Shape.inK, Shape.obF, Shape.obT, Shape.arI, Arr.inF] | omega)) only [S2, Nat.reduceEqDiff, Nat.reduceAdd, iput, puts, pr_iad hm, pr_iad hi1, Nat.add_zero, pr_get hm, pr_get hi1, w, str_k, p_addk1 (x := 40) (s := s2) (by omega), p_addk2 (x := 41) (s := ⟨#[40]⟩ ++ s2) (by omega), p_addk2 (x := 42) (s := (⟨#[40]⟩ ++ s1) ++ ⟨#[41]⟩) (by omega), p_add3 (a := (⟨#[40]⟩ ++ s1) ++ ⟨#[41]⟩ ++ ⟨#[42]⟩) (b := (⟨#[40]⟩ ++ s2) ++ ⟨#[41]⟩) (by omega) (by omega)]
        exact ⟨_, rfl, H, sub, rfl, rfl, by omega⟩
      · rw [par_no (show ¬ 2 ≤ (nd L m).1 by rcases ok m hm with o | o | o <;> omega)]
        try simp (disch := (first | rfl | with_reducible assumption | with_reducible solve_by_elim (maxDepth := 8) [Shape.inT, Shape.inI, Shape.inC, Shape.inK, Shape.obF, Shape.obT, Shape.arI, Arr.inF] | omega)) only [S2, Nat.reduceEqDiff, Nat.reduceAdd, iput, puts, pr_iad hm, pr_iad hi1, Nat.add_zero, pr_get hm, pr_get hi1, w, str_k, p_addk2 (x := 42) (s := (⟨#[40]⟩ ++ s1) ++ ⟨#[41]⟩) (by omega), p_add3 (a := (⟨#[40]⟩ ++ s1) ++ ⟨#[41]⟩ ++ ⟨#[42]⟩) (b := s2) (by omega) (by omega)]
        exact ⟨_, rfl, H, sub, rfl, rfl, by omega⟩
    · rw [par_no f]
      have a1 := sm (s1) 42 (by omega)
      try simp (disch := (first | rfl | with_reducible assumption | with_reducible solve_by_elim (maxDepth := 8) [Shape.inT, Shape.inI, Shape.inC, Shape.inK, Shape.obF, Shape.obT, Shape.arI, Arr.inF] | omega)) only [S2, Nat.reduceEqDiff, Nat.reduceAdd, iput, puts, pr_iad hm, pr_iad hi1, Nat.add_zero, pr_get hm, pr_get hi1, w, str_k]
      refine ⟨fun g => ?_, fun g => ?_⟩
      · rw [par_yes (show 2 ≤ (nd L m).1 by omega)]
        try simp (disch := (first | rfl | with_reducible assumption | with_reducible solve_by_elim (maxDepth := 8) [Shape.inT, Shape.inI, Shape.inC, Shape.inK, Shape.obF, Shape.obT, Shape.arI, Arr.inF] | omega)) only [S2, Nat.reduceEqDiff, Nat.reduceAdd, iput, puts, pr_iad hm, pr_iad hi1, Nat.add_zero, pr_get hm, pr_get hi1, w, str_k, p_addk1 (x := 40) (s := s2) (by omega), p_addk2 (x := 41) (s := ⟨#[40]⟩ ++ s2) (by omega), p_addk2 (x := 42) (s := s1) (by omega), p_add3 (a := s1 ++ ⟨#[42]⟩) (b := (⟨#[40]⟩ ++ s2) ++ ⟨#[41]⟩) (by omega) (by omega)]
        exact ⟨_, rfl, H, sub, rfl, rfl, by omega⟩
      try simp (disch := (first | rfl | with_reducible assumption | with_reducible solve_by_elim (maxDepth := 8) [Shape.inT, Shape.inI, Shape.inC, Shape.inK, Shape.obF, Shape.obT, Shape.arI, Arr.inF] | omega)) only [S2, Nat.reduceEqDiff, Nat.reduceAdd, iput, puts, pr_iad hm, pr_iad hi1, Nat.add_zero, pr_get hm, pr_get hi1, w, str_k]
      refine ⟨fun g2 => ?_, fun g2 => ?_⟩
      · rw [par_yes (show 2 ≤ (nd L m).1 by omega)]
        try simp (disch := (first | rfl | with_reducible assumption | with_reducible solve_by_elim (maxDepth := 8) [Shape.inT, Shape.inI, Shape.inC, Shape.inK, Shape.obF, Shape.obT, Shape.arI, Arr.inF] | omega)) only [S2, Nat.reduceEqDiff, Nat.reduceAdd, iput, puts, pr_iad hm, pr_iad hi1, Nat.add_zero, pr_get hm, pr_get hi1, w, str_k, p_addk1 (x := 40) (s := s2) (by omega), p_addk2 (x := 41) (s := ⟨#[40]⟩ ++ s2) (by omega), p_addk2 (x := 42) (s := s1) (by omega), p_add3 (a := s1 ++ ⟨#[42]⟩) (b := (⟨#[40]⟩ ++ s2) ++ ⟨#[41]⟩) (by omega) (by omega)]
        exact ⟨_, rfl, H, sub, rfl, rfl, by omega⟩
      · rw [par_no (show ¬ 2 ≤ (nd L m).1 by rcases ok m hm with o | o | o <;> omega)]
        try simp (disch := (first | rfl | with_reducible assumption | with_reducible solve_by_elim (maxDepth := 8) [Shape.inT, Shape.inI, Shape.inC, Shape.inK, Shape.obF, Shape.obT, Shape.arI, Arr.inF] | omega)) only [S2, Nat.reduceEqDiff, Nat.reduceAdd, iput, puts, pr_iad hm, pr_iad hi1, Nat.add_zero, pr_get hm, pr_get hi1, w, str_k, p_addk2 (x := 42) (s := s1) (by omega), p_add3 (a := s1 ++ ⟨#[42]⟩) (b := s2) (by omega) (by omega)]
        exact ⟨_, rfl, H, sub, rfl, rfl, by omega⟩
end Go.Av
