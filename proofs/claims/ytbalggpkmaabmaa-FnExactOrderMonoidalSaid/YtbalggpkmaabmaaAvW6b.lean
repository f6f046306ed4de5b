/-
  The category of a preorder: the reference's walk.
-/
import Derived.Test.YtbalggpkmaabmaaAvW6
namespace Go.Av
open Classical
set_option linter.unusedSimpArgs false
set_option linter.unusedVariables false
variable {P : Program} {ν : Nat → FuncId}

def V_spec_l03Poset : Vc :=
  .op true (.new [int 0, .nil, .nil, .nil, .nil]) <|
  .op true (.p .len [.t 0]) <|
  .op true (.p (.msl 0 [] []) []) <|
  .op true (.p (.msl 0 [] []) []) <|
  .op true (.p (.msl 0 [] []) []) <|
  .op true (.p (.msl 0 [] []) []) <|
  .op true (.p (.msl 0 [] []) []) <|
  .op true (.p (.mka [int 0, .nil, .nil, .nil, .nil] [(0, 1), (1, 1), (2, 1), (3, 1), (4, 1)]) [.t 2, .t 4, .t 5, .t 6, .t 7]) <|
  .op true (.new [int 0, .nil, .nil, .nil, .nil]) <|
  .op true (.st 5 (.t 9) (.t 8)) <|
  .loop 0 [.t 3, .c (int 0)] <|
  .op true (.p (.bin .lss) [.t 12, .t 2]) <|
  .br 13
   (.op true (.p (.msl 0 [] []) []) <|
   .loop 1 [.t 14, .c (int 0)] <|
   .op true (.p (.bin .lss) [.t 16, .t 2]) <|
   .br 17
    (.op true (.p (.fad 1) [.t 9]) <|
    .op true (.p (.ld none) [.t 18]) <|
    .op true (.p .len [.t 19]) <|
    .op true (.p (.msl 1 [int 0] [(0, 1)]) [.t 20]) <|
    .op true (.app 1 (.t 15) (.t 21)) <|
    .op true (.p (.iad 1) [.t 0, .t 12]) <|
    .op true (.p (.ld none) [.t 23]) <|
    .op true (.p (.iad 1) [.t 24, .t 16]) <|
    .op true (.p (.ld none) [.t 25]) <|
    .op true (.p (.bin .eql) [.t 26, .c (int 1)]) <|
    .br 27
     (.op true (.p (.fad 1) [.t 9]) <|
     .op true (.p (.ld none) [.t 28]) <|
     .op true (.p (.msl 1 [int 0] [(0, 1)]) [.t 12]) <|
     .op true (.app 1 (.t 29) (.t 30)) <|
     .op true (.p (.fad 1) [.t 9]) <|
     .op true (.st 1 (.t 32) (.t 31)) <|
     .op true (.p (.fad 2) [.t 9]) <|
     .op true (.p (.ld none) [.t 34]) <|
     .op true (.p (.msl 1 [int 0] [(0, 1)]) [.t 16]) <|
     .op true (.app 1 (.t 35) (.t 36)) <|
     .op true (.p (.fad 2) [.t 9]) <|
     .op true (.st 1 (.t 38) (.t 37)) <|
     .op true (.p (.bin .add) [.t 16, .c (int 1)]) <|
     .again 1 [.t 22, .t 40])
     (.op true (.p (.bin .add) [.t 16, .c (int 1)]) <|
     .again 1 [.t 22, .t 28]))
    (.op true (.mslm 1 1 [.nil] [(0, 1)] [.t 15]) <|
    .op true (.app 1 (.t 11) (.t 18)) <|
    .op true (.p (.bin .add) [.t 12, .c (int 1)]) <|
    .again 0 [.t 19, .t 20]))
   (.loop 0 [.c (int 0)] <|
   .op true (.p (.bin .lss) [.t 14, .t 2]) <|
   .br 15
    (.op true (.p (.fad 3) [.t 9]) <|
    .op true (.p (.ld none) [.t 16]) <|
    .op true (.p (.iad 1) [.t 11, .t 14]) <|
    .op true (.p (.ld none) [.t 18]) <|
    .op true (.p (.iad 1) [.t 19, .t 14]) <|
    .op true (.p (.ld none) [.t 20]) <|
    .op true (.p (.msl 1 [int 0] [(0, 1)]) [.t 21]) <|
    .op true (.app 1 (.t 17) (.t 22)) <|
    .op true (.p (.fad 3) [.t 9]) <|
    .op true (.st 1 (.t 24) (.t 23)) <|
    .op true (.p (.bin .add) [.t 14, .c (int 1)]) <|
    .again 0 [.t 26])
    (.loop 0 [.c (int 0)] <|
    .op true (.p (.fad 1) [.t 9]) <|
    .op true (.p (.ld none) [.t 17]) <|
    .op true (.p .len [.t 18]) <|
    .op true (.p (.bin .lss) [.t 16, .t 19]) <|
    .br 20
     (.op true (.p (.msl 0 [] []) []) <|
     .loop 1 [.t 21, .c (int 0)] <|
     .op true (.p (.fad 1) [.t 9]) <|
     .op true (.p (.ld none) [.t 24]) <|
     .op true (.p .len [.t 25]) <|
     .op true (.p (.bin .lss) [.t 23, .t 26]) <|
     .br 27
      (.op true (.p (.fad 2) [.t 9]) <|
      .op true (.p (.ld none) [.t 28]) <|
      .op true (.p (.iad 1) [.t 29, .t 16]) <|
      .op true (.p (.ld none) [.t 30]) <|
      .op true (.p (.fad 1) [.t 9]) <|
      .op true (.p (.ld none) [.t 32]) <|
      .op true (.p (.iad 1) [.t 33, .t 23]) <|
      .op true (.p (.ld none) [.t 34]) <|
      .op true (.p (.bin .eql) [.t 31, .t 35]) <|
      .br 36
       (.op true (.p (.fad 1) [.t 9]) <|
       .op true (.p (.ld none) [.t 37]) <|
       .op true (.p (.iad 1) [.t 38, .t 16]) <|
       .op true (.p (.ld none) [.t 39]) <|
       .op true (.p (.iad 1) [.t 11, .t 40]) <|
       .op true (.p (.ld none) [.t 41]) <|
       .op true (.p (.fad 2) [.t 9]) <|
       .op true (.p (.ld none) [.t 43]) <|
       .op true (.p (.iad 1) [.t 44, .t 23]) <|
       .op true (.p (.ld none) [.t 45]) <|
       .op true (.p (.iad 1) [.t 42, .t 46]) <|
       .op true (.p (.ld none) [.t 47]) <|
       .op true (.p (.msl 1 [int 0] [(0, 1)]) [.t 48]) <|
       .op true (.app 1 (.t 22) (.t 49)) <|
       .op true (.p (.bin .add) [.t 23, .c (int 1)]) <|
       .again 1 [.t 50, .t 51])
       (.op true (.p (.msl 1 [int 0] [(0, 1)]) [.c (int (-1))]) <|
       .op true (.app 1 (.t 22) (.t 37)) <|
       .op true (.p (.bin .add) [.t 23, .c (int 1)]) <|
       .again 1 [.t 38, .t 39]))
      (.op true (.p (.fad 4) [.t 9]) <|
      .op true (.p (.ld none) [.t 28]) <|
      .op true (.mslm 1 1 [.nil] [(0, 1)] [.t 22]) <|
      .op true (.app 1 (.t 29) (.t 30)) <|
      .op true (.p (.fad 4) [.t 9]) <|
      .op true (.st 1 (.t 32) (.t 31)) <|
      .op true (.p (.bin .add) [.t 16, .c (int 1)]) <|
      .again 0 [.t 34]))
     (.op true (.p (.ld (some 5)) [.t 9]) <|
     .op true (.st 5 (.t 1) (.t 21)) <|
     .ret [(.t 1, some (some 5))])))
set_option maxHeartbeats 16000000 in
theorem l03Poset_fi (h : Has P ν 358 1 V_spec_l03Poset) (R : List (List Int)) (p : IsPre R) (hnn : R.length * R.length ≤ 1048576) (hl : R.length ≤ 1048576) :
    Fi (OkM P ν) 358 [.sl (rows R) R.length] (.agg (poK R).cells) := by
  refine OkM.mono (Φ := fun r H' nx' => ∃ lo hi, OwnK (poK R) r H' lo hi) (h [.sl (rows R) R.length] hempty 0 _ rfl fun hwf => ?_) fun r H' nx' ⟨lo, hi, hO⟩ => hO.frz 3
  unfold V_spec_l03Poset
  refine den_newR fun H0 y0 e0 => ?_
  have mk : ∀ (H : Hp) (k : Int), pvf H (.mka [int 0, .nil, .nil, .nil, .nil] [(0, 1), (1, 1), (2, 1), (3, 1), (4, 1)]) [int k, .nil, .nil, .nil, .nil] = some (.agg [int k, .nil, .nil, .nil, .nil]) := fun _ k => rfl
  try simp (disch := (first | rfl | with_reducible assumption | with_reducible solve_by_elim (maxDepth := 8) [Shape.inT, Shape.inI, Shape.inC, Shape.inK, Shape.obF, Shape.obT, Shape.arI, Arr.inF] | omega)) only [S2, Nat.reduceEqDiff, Nat.reduceAdd, iput, puts, mk]
  refine den_newR fun H3 x3 e3 => ?_
  refine den_stR (o := 0 + 1) (m := 5) (d := [int (R.length : Int), .nil, .nil, .nil, .nil]) rfl rfl x3 rfl rfl rfl fun H4 x4 e4 => ?_
  have y4 := ((e4 0 (by omega)).trans (e3 0 (by omega))).trans y0
  have out := Out3.start x4 (Nat.le_refl _)
  have out : Out3 1 R.length (prF R (0 * R.length)) (prT R (0 * R.length)) [] [] .nil .nil .nil .nil none none none H4 1 2 := by rw [Nat.zero_mul]; exact out
  have S : NbS R.length (prF R (0 * R.length)) (prT R (0 * R.length)) (nbT R 0) [] .nil .nil .nil .nil none none none 2 H4 2 :=
    ⟨out, OwnD.nil, ⟨rfl, rfl⟩, Nat.le_refl _, Nat.le_refl _, (fun o e => by cases e), (fun t ⟨o, m, cells, e, _⟩ => by cases e), y4⟩
  try simp (disch := (first | rfl | with_reducible assumption | with_reducible solve_by_elim (maxDepth := 8) [Shape.inT, Shape.inI, Shape.inC, Shape.inK, Shape.obF, Shape.obT, Shape.arI, Arr.inF] | omega)) only [S2, Nat.reduceEqDiff, Nat.reduceAdd, iput, puts]
  -- the pairs and their numbers
  refine den_loop (α := Nat × (AV × AV × AV) × (Option Nat × Option Nat) × Nat) (fun a => [a.2.1.1, int a.1]) (fun a H' nx' => a.1 ≤ R.length ∧ NbS R.length (prF R (a.1 * R.length)) (prT R (a.1 * R.length)) (nbT R a.1) [] a.2.1.1 .nil a.2.1.2.1 a.2.1.2.2 none a.2.2.1.1 a.2.2.1.2 a.2.2.2 H' nx') (fun a => R.length - a.1) (0, (.nil, .nil, .nil), (none, none), 2) rfl ⟨Nat.zero_le _, S⟩ ?_
  clear S out
  rintro ⟨i, ⟨vn, va, vb⟩, ⟨s1, s2⟩, mid⟩ H1 n1 ⟨hi, S⟩
  simp only at hi S
  by_cases hli : i < R.length
  · have gl := p.len i hli
    try simp (disch := (first | rfl | with_reducible assumption | with_reducible solve_by_elim (maxDepth := 8) [Shape.inT, Shape.inI, Shape.inC, Shape.inK, Shape.obF, Shape.obT, Shape.arI, Arr.inF] | omega)) only [S2, Nat.reduceEqDiff, Nat.reduceAdd, iput, puts, hli]
    refine den_loop (α := Nat × (AV × AV × AV) × (Option Nat × Option Nat × Option Nat)) (fun a => [a.2.1.1, int a.1]) (fun a H' nx' => a.1 ≤ R.length ∧ NbS R.length (prF R (i * R.length + a.1)) (prT R (i * R.length + a.1)) (nbT R i) ((nbRow R i).take a.1) vn a.2.1.1 a.2.1.2.1 a.2.1.2.2 a.2.2.1 a.2.2.2.1 a.2.2.2.2 mid H' nx') (fun a => R.length - a.1) (0, (.nil, va, vb), none, s1, s2) rfl ⟨Nat.zero_le _, S⟩ ?_
    clear S
    rintro ⟨j, ⟨vr, va, vb⟩, sr, s1, s2⟩ H1 n1 ⟨hj, S⟩
    simp only at hj S
    by_cases hlj : j < R.length
    · have iR : InR R (i : Int) := InR.nat hli
      have iI : In (gR R (i : Int)) (j : Int) := ⟨by omega, by omega⟩
      have fold : gI (gR R (i : Int)) (j : Int) = E R i j := rfl
      have lt := jylt hli hlj
      have ps := prL_succ (R := R) (i := i) hlj
      have pl := prL_le (R := R) (i * R.length + j)
      have fl := prF_len (R := R) (k := i * R.length + j)
      have tl := prT_len (R := R) (k := i * R.length + j)
      have sn := take_snoc (l := nbRow R i) (k := j) (by rw [nbRow_len]; exact hlj) (nbRow_at hlj)
      have pl1 := S.out.g1.plen
      rw [fl] at pl1
      try simp (disch := (first | rfl | with_reducible assumption | with_reducible solve_by_elim (maxDepth := 8) [Shape.inT, Shape.inI, Shape.inC, Shape.inK, Shape.obF, Shape.obT, Shape.arI, Arr.inF] | omega)) only [S2, Nat.reduceEqDiff, Nat.reduceAdd, iput, puts, hlj, p_fadm (l := 5) S.out.obj rfl, p_ldm (n := 5) S.out.obj rfl, pl1]
      refine den_appW (m := [((prL R (i * R.length + j)).length : Int)]) S.row rfl (by simp) (by rw [List.length_take]; simp only [List.length_cons, List.length_nil]; omega) fun v2 H2 nx2 hG e2 hn2 => ?_
      have S := S.app hG e2 hn2
      rw [sn] at S
      try simp (disch := (first | rfl | with_reducible assumption | with_reducible solve_by_elim (maxDepth := 8) [Shape.inT, Shape.inI, Shape.inC, Shape.inK, Shape.obF, Shape.obT, Shape.arI, Arr.inF] | omega)) only [S2, Nat.reduceEqDiff, Nat.reduceAdd, iput, puts, fold]
      refine ⟨fun g1 => ?_, fun g1 => ?_⟩
      · have g1 : E R i j = 1 := by simpa using g1
        rw [if_pos g1] at ps
        have pf : prF R (i * R.length + j + 1) = prF R (i * R.length + j) ++ [(i : Int)] := by unfold prF; rw [ps, List.map_append]; rfl
        have pt : prT R (i * R.length + j + 1) = prT R (i * R.length + j) ++ [(j : Int)] := by unfold prT; rw [ps, List.map_append]; rfl
        have qh := S.out.qh
        try simp (disch := (first | rfl | with_reducible assumption | with_reducible solve_by_elim (maxDepth := 8) [Shape.inT, Shape.inI, Shape.inC, Shape.inK, Shape.obF, Shape.obT, Shape.arI, Arr.inF] | omega)) only [S2, Nat.reduceEqDiff, Nat.reduceAdd, iput, puts, p_fadm (l := 5) S.out.obj rfl, p_ldm (n := 5) S.out.obj rfl]
        refine den_out1 (m := [(i : Int)]) S.out (Nat.le_refl _) rfl rfl rfl (by omega) rfl rfl (by simp) (by simp only [List.length_cons, List.length_nil]; omega) fun a7 H7 n7 out7 hn7 keep7 => ?_
        have S := S.out1 out7 hn7 keep7
        try simp (disch := (first | rfl | with_reducible assumption | with_reducible solve_by_elim (maxDepth := 8) [Shape.inT, Shape.inI, Shape.inC, Shape.inK, Shape.obF, Shape.obT, Shape.arI, Arr.inF] | omega)) only [S2, Nat.reduceEqDiff, Nat.reduceAdd, iput, puts, p_fadm (l := 5) S.out.obj rfl, p_ldm (n := 5) S.out.obj rfl]
        refine den_out2 (m := [(j : Int)]) S.out (Nat.le_refl _) rfl rfl rfl (by omega) rfl rfl (by simp) (by simp only [List.length_cons, List.length_nil]; omega) fun b7 H8 n8 out8 hn8 keep8 => ?_
        have S := S.out2 out8 hn8 keep8
        rw [← pf, ← pt, Nat.add_assoc] at S
        try simp (disch := (first | rfl | with_reducible assumption | with_reducible solve_by_elim (maxDepth := 8) [Shape.inT, Shape.inI, Shape.inC, Shape.inK, Shape.obF, Shape.obT, Shape.arI, Arr.inF] | omega)) only [S2, Nat.reduceEqDiff, Nat.reduceAdd, iput, puts]
        exact ⟨(j + 1, (v2, a7, b7), _, _, _), rfl, ⟨hlj, S⟩, by simp only; omega⟩
      · have g1 : ¬ E R i j = 1 := by simpa using g1
        rw [if_neg g1, List.append_nil] at ps
        have pf : prF R (i * R.length + j + 1) = prF R (i * R.length + j) := by unfold prF; rw [ps]
        have pt : prT R (i * R.length + j + 1) = prT R (i * R.length + j) := by unfold prT; rw [ps]
        rw [← pf, ← pt, Nat.add_assoc] at S
        try simp (disch := (first | rfl | with_reducible assumption | with_reducible solve_by_elim (maxDepth := 8) [Shape.inT, Shape.inI, Shape.inC, Shape.inK, Shape.obF, Shape.obT, Shape.arI, Arr.inF] | omega)) only [S2, Nat.reduceEqDiff, Nat.reduceAdd, iput, puts]
        exact ⟨(j + 1, (v2, va, vb), _, _, _), rfl, ⟨hlj, S⟩, by simp only; omega⟩
    · have hje : j = R.length := by omega
      subst hje
      rw [jys, List.take_of_length_le (by rw [nbRow_len]; exact Nat.le_refl _)] at S
      have mh := S.mh
      try simp (disch := (first | rfl | with_reducible assumption | with_reducible solve_by_elim (maxDepth := 8) [Shape.inT, Shape.inI, Shape.inC, Shape.inK, Shape.obF, Shape.obT, Shape.arI, Arr.inF] | omega)) only [S2, Nat.reduceEqDiff, Nat.reduceAdd, iput, puts, hlj]
      refine den_rowF (l := nbRow R i) S.tab S.mh (fun _ => rfl) S.m2 (by rw [nbT_len]; omega) (S.row.own fun o ho => ⟨(S.rr o ho).1, (S.rr o ho).2.1⟩) fun v3 H4 n4 hD4 hn4 low4 keep4 ft4 => ?_
      have S := S.done hD4 hn4 low4 keep4 ft4
      rw [← nbT_succ] at S
      try simp (disch := (first | rfl | with_reducible assumption | with_reducible solve_by_elim (maxDepth := 8) [Shape.inT, Shape.inI, Shape.inC, Shape.inK, Shape.obF, Shape.obT, Shape.arI, Arr.inF] | omega)) only [S2, Nat.reduceEqDiff, Nat.reduceAdd, iput, puts]
      exact ⟨(i + 1, (v3, va, vb), (s1, s2), n4), rfl, ⟨hli, S⟩, by simp only; omega⟩
  have hie : i = R.length := by omega
  subst hie
  have S : NbI R.length (prF R (R.length * R.length)) (prT R (R.length * R.length)) (iPr R 0) [] (nbT R R.length) vn va vb .nil .nil s1 s2 none mid H1 n1 :=
    ⟨S.out, S.tab, S.mh, fun t ht => ⟨(S.f t ht).1, (S.f t ht).2, fun e => by cases e⟩, (fun t ⟨o, m, cells, e, _⟩ => by cases e), S.res⟩
  try simp (disch := (first | rfl | with_reducible assumption | with_reducible solve_by_elim (maxDepth := 8) [Shape.inT, Shape.inI, Shape.inC, Shape.inK, Shape.obF, Shape.obT, Shape.arI, Arr.inF] | omega)) only [S2, Nat.reduceEqDiff, Nat.reduceAdd, iput, puts, hli]
  -- a number's reading
  have rd : ∀ {I : List Int} {Q : List (List Int)} {vd ve : AV} {s3 : Option Nat} {H : Hp} {hi : Nat}, NbI R.length (prF R (R.length * R.length)) (prT R (R.length * R.length)) I Q (nbT R R.length) vn va vb vd ve s1 s2 s3 mid H hi → ∀ {a : Nat}, a < R.length → ∃ o', pvf H (.iad 1) [vn, int (a : Int)] = some (.mp (match vn with | .ms o _ _ _ => o | _ => 0) a R.length) ∧ pvf H (.ld none) [.mp (match vn with | .ms o _ _ _ => o | _ => 0) a R.length] = some (.ms o' 0 R.length 1) ∧ H o' = some (ints (nbRow R a)) := by
    intro I Q vd ve s3 H hi S a ha
    have er : (nbT R R.length).getD a [] = nbRow R a := nbT_at ha
    have rl := nbRow_len (R := R) (i := a)
    obtain ⟨o, o', cells, hve, h2, h3, h4, h5, _⟩ := S.tab.atY (j := a) (by rw [nbT_len]; exact ha) (by rw [er]; intro e; rw [e] at rl; simp at rl; omega)
    rw [er, rl] at h4
    rw [er] at h5
    rw [nbT_len] at h3 hve
    subst hve
    refine ⟨o', ?_, ?_, h5⟩
    · rw [p_iadm h2 h3, if_pos ⟨by omega, by omega⟩]; rfl
    · rw [p_ldm h2 h3, h4]
  generalize (match vn with | .ms o _ _ _ => o | _ => 0) = on at rd
  -- identities
  refine den_loop (α := Nat × AV × Option Nat) (fun a => [int a.1]) (fun a H' nx' => a.1 ≤ R.length ∧ NbI R.length (prF R (R.length * R.length)) (prT R (R.length * R.length)) (iPr R a.1) [] (nbT R R.length) vn va vb a.2.1 .nil s1 s2 a.2.2 mid H' nx') (fun a => R.length - a.1) (0, .nil, none) rfl ⟨Nat.zero_le _, S⟩ ?_
  clear S
  rintro ⟨x, vd, s3⟩ H1 n1 ⟨hx, S⟩
  simp only at hx S
  by_cases hlx : x < R.length
  · obtain ⟨o', z1, z2, z3⟩ := rd S hlx
    have is := iPr_succ (R := R) (k := x)
    have il := iPr_len (R := R) (k := x)
    have z5 := p_ldN z3 nbRow_len hlx
    rw [nbRow_at hlx] at z5
    have qh := S.out.qh
    try simp (disch := (first | rfl | with_reducible assumption | with_reducible solve_by_elim (maxDepth := 8) [Shape.inT, Shape.inI, Shape.inC, Shape.inK, Shape.obF, Shape.obT, Shape.arI, Arr.inF] | omega)) only [S2, Nat.reduceEqDiff, Nat.reduceAdd, iput, puts, hlx, p_fadm (l := 5) S.out.obj rfl, p_ldm (n := 5) S.out.obj rfl, z1, z2, p_iadN z3 nbRow_len hlx, z5]
    refine den_out3 (m := [((prL R (x * R.length + x)).length : Int)]) S.out (Nat.le_refl _) rfl rfl rfl (by omega) rfl rfl (by simp) (by simp only [List.length_cons, List.length_nil]; omega) fun a6 H6 n6 out6 hn6 keep6 => ?_
    have S := S.out3 out6 hn6 keep6
    rw [← is] at S
    try simp (disch := (first | rfl | with_reducible assumption | with_reducible solve_by_elim (maxDepth := 8) [Shape.inT, Shape.inI, Shape.inC, Shape.inK, Shape.obF, Shape.obT, Shape.arI, Arr.inF] | omega)) only [S2, Nat.reduceEqDiff, Nat.reduceAdd, iput, puts]
    exact ⟨(x + 1, a6, _), rfl, ⟨hlx, S⟩, by simp only; omega⟩
  have hxe : x = R.length := by omega
  subst hxe
  try simp (disch := (first | rfl | with_reducible assumption | with_reducible solve_by_elim (maxDepth := 8) [Shape.inT, Shape.inI, Shape.inC, Shape.inK, Shape.obF, Shape.obT, Shape.arI, Arr.inF] | omega)) only [S2, Nat.reduceEqDiff, Nat.reduceAdd, iput, puts, hlx]
  -- composites
  have fl := prF_len (R := R) (k := R.length * R.length)
  have tl := prT_len (R := R) (k := R.length * R.length)
  have ll := prL_le (R := R) (R.length * R.length)
  refine den_loop (α := Nat × AV) (fun a => [int a.1]) (fun a H' nx' => a.1 ≤ (prL R (R.length * R.length)).length ∧ NbI R.length (prF R (R.length * R.length)) (prT R (R.length * R.length)) (iPr R R.length) ((List.range a.1).map (poRow R)) (nbT R R.length) vn va vb vd a.2 s1 s2 s3 mid H' nx') (fun a => (prL R (R.length * R.length)).length - a.1) (0, .nil) rfl ⟨Nat.zero_le _, S⟩ ?_
  clear S
  rintro ⟨f, ve⟩ H7 n7 ⟨hf, S⟩
  simp only at hf S
  have pl := S.out.g1.plen
  rw [fl] at pl
  by_cases hlf : f < (prL R (R.length * R.length)).length
  · obtain ⟨a, b, ha, hb, ea, eb, e1⟩ := prFT hlf
    try simp (disch := (first | rfl | with_reducible assumption | with_reducible solve_by_elim (maxDepth := 8) [Shape.inT, Shape.inI, Shape.inC, Shape.inK, Shape.obF, Shape.obT, Shape.arI, Arr.inF] | omega)) only [S2, Nat.reduceEqDiff, Nat.reduceAdd, iput, puts, hlf, p_fadm (l := 5) S.out.obj rfl, p_ldm (n := 5) S.out.obj rfl, pl]
    refine den_loop (α := Nat × AV) (fun b => [b.2, int b.1]) (fun b H' nx' => b.1 ≤ (prL R (R.length * R.length)).length ∧ IsI ((poRow R f).take b.1) H7 n7 b.2 H' nx') (fun b => (prL R (R.length * R.length)).length - b.1) (0, .nil) rfl ⟨Nat.zero_le _, IsI.nil H7 n7⟩ ?_
    rintro ⟨g, v8⟩ H8 n8 ⟨hg, hI⟩
    simp only at hg hI
    have S8 := S.mono (H' := H8) (Nat.le_refl _) fun t ht => hI.old ht
    have pl8 := S8.out.g1.plen
    rw [fl] at pl8
    by_cases hlg : g < (prL R (R.length * R.length)).length
    · obtain ⟨a', b', ha', hb', ea', eb', e1'⟩ := prFT hlg
      have gT : gI (prT R (R.length * R.length)) (f : Int) = b := eb
      have gF : gI (prF R (R.length * R.length)) (g : Int) = a' := ea'
      have gF' : gI (prF R (R.length * R.length)) (f : Int) = a := ea
      have gT' : gI (prT R (R.length * R.length)) (g : Int) = b' := eb'
      obtain ⟨p1, a1, a2⟩ := (S8.out.g2.rd (lim := fun _ => True) fun _ _ => trivial).rd (i := (f : Int)) (In.nat (by omega))
      obtain ⟨p2, a3, a4⟩ := (S8.out.g1.rd (lim := fun _ => True) fun _ _ => trivial).rd (i := (g : Int)) (In.nat (by omega))
      obtain ⟨p3, a5, a6⟩ := (S8.out.g1.rd (lim := fun _ => True) fun _ _ => trivial).rd (i := (f : Int)) (In.nat (by omega))
      obtain ⟨p4, a7, a8⟩ := (S8.out.g2.rd (lim := fun _ => True) fun _ _ => trivial).rd (i := (g : Int)) (In.nat (by omega))
      rw [gT] at a2
      rw [gF] at a4
      rw [gF'] at a6
      rw [gT'] at a8
      have ln : ((poRow R f).take g).length ≤ 1048576 := by rw [List.length_take, poRow_len]; omega
      have lj : g < (poRow R f).length := by rw [poRow_len]; exact hlg
      have en := poRow_at (R := R) (f := f) hlg
      rw [eb, ea'] at en
      try simp (disch := (first | rfl | with_reducible assumption | with_reducible solve_by_elim (maxDepth := 8) [Shape.inT, Shape.inI, Shape.inC, Shape.inK, Shape.obF, Shape.obT, Shape.arI, Arr.inF] | omega)) only [S2, Nat.reduceEqDiff, Nat.reduceAdd, iput, puts, hlg, p_fadm (l := 5) S8.out.obj rfl, p_ldm (n := 5) S8.out.obj rfl, pl8, a1, a2, a3, a4]
      refine ⟨fun g1 => ?_, fun g1 => ?_⟩
      · have g1 : b = a' := by
          have : (b : Int) = (a' : Int) := by first | exact g1 | simpa using g1
          omega
        subst g1
        have tr := p.tr a b b' ha hb hb' e1 e1'
        rw [if_pos rfl, ea, eb', idx_pr ha hb' tr] at en
        have sn := take_snoc lj en
        obtain ⟨o', z1, z2, z3⟩ := rd S8 ha
        have z5 := p_ldN z3 nbRow_len hb'
        rw [nbRow_at hb'] at z5
        try simp (disch := (first | rfl | with_reducible assumption | with_reducible solve_by_elim (maxDepth := 8) [Shape.inT, Shape.inI, Shape.inC, Shape.inK, Shape.obF, Shape.obT, Shape.arI, Arr.inF] | omega)) only [S2, Nat.reduceEqDiff, Nat.reduceAdd, iput, puts, p_fadm (l := 5) S8.out.obj rfl, p_ldm (n := 5) S8.out.obj rfl, a5, a6, a7, a8, z1, z2, p_iadN z3 nbRow_len hb', z5]
        refine den_appI (m := [((prL R (a * R.length + b')).length : Int)]) hI rfl (by simp) (by simp only [List.length_cons, List.length_nil]; omega) fun v9 H9 n9 hI9 => ?_
        rw [sn] at hI9
        try simp (disch := (first | rfl | with_reducible assumption | with_reducible solve_by_elim (maxDepth := 8) [Shape.inT, Shape.inI, Shape.inC, Shape.inK, Shape.obF, Shape.obT, Shape.arI, Arr.inF] | omega)) only [S2, Nat.reduceEqDiff, Nat.reduceAdd, iput, puts]
        exact ⟨(g + 1, v9), rfl, ⟨hlg, hI9⟩, by simp only; omega⟩
      · have g1 : ¬ (b : Int) = (a' : Int) := by first | exact g1 | simpa using g1
        rw [if_neg g1] at en
        have sn := take_snoc lj en
        try simp (disch := (first | rfl | with_reducible assumption | with_reducible solve_by_elim (maxDepth := 8) [Shape.inT, Shape.inI, Shape.inC, Shape.inK, Shape.obF, Shape.obT, Shape.arI, Arr.inF] | omega)) only [S2, Nat.reduceEqDiff, Nat.reduceAdd, iput, puts]
        refine den_appI (m := [-1]) hI rfl (by simp) (by simp only [List.length_cons, List.length_nil]; omega) fun v9 H9 n9 hI9 => ?_
        rw [sn] at hI9
        try simp (disch := (first | rfl | with_reducible assumption | with_reducible solve_by_elim (maxDepth := 8) [Shape.inT, Shape.inI, Shape.inC, Shape.inK, Shape.obF, Shape.obT, Shape.arI, Arr.inF] | omega)) only [S2, Nat.reduceEqDiff, Nat.reduceAdd, iput, puts]
        exact ⟨(g + 1, v9), rfl, ⟨hlg, hI9⟩, by simp only; omega⟩
    have hge : g = (prL R (R.length * R.length)).length := by omega
    subst hge
    rw [List.take_of_length_le (by rw [poRow_len]; exact Nat.le_refl _)] at hI
    have hn8 := hI.1
    have q7 := S.out.qh
    have m7 := S.mh
    have ow : Own1 (poRow R f) v8 H8 n7 n8 := by
      obtain ⟨_, ⟨q1, q2, _⟩ | ⟨o, q1, q2, q3, q4⟩⟩ := hI
      · exact .inl ⟨q1, q2⟩
      · exact .inr ⟨o, q1, q2, q3, by rw [q4]; exact hput_eq _ _ _⟩
    try simp (disch := (first | rfl | with_reducible assumption | with_reducible solve_by_elim (maxDepth := 8) [Shape.inT, Shape.inI, Shape.inC, Shape.inK, Shape.obF, Shape.obT, Shape.arI, Arr.inF] | omega)) only [S2, Nat.reduceEqDiff, Nat.reduceAdd, iput, puts, hlg, p_fadm (l := 5) S8.out.obj rfl, p_ldm (n := 5) S8.out.obj rfl, pl8]
    refine den_outK (l := poRow R f) S8.out rfl (fun _ => rfl) rfl (by omega) rfl rfl (by rw [List.length_map, List.length_range]; omega) hn8 ow fun e9 H9 n9 out9 hn9 keep9 ft9 => ?_
    have S9 := S8.row out9 (by omega) hn8 keep9 ft9 (fun t ht => by
      rcases ow with ⟨_, q⟩ | ⟨o, q1, q2, q3, _⟩
      · obtain ⟨m, q'⟩ := ht; simp only [ev, put] at q'; rw [q] at q'; cases q'
      · obtain ⟨m, q'⟩ := ht; simp only [ev, put] at q'; rw [q3] at q'; cases q'; omega) (fun q => by have := S8.out.tab.foot q; omega)
    try simp (disch := (first | rfl | with_reducible assumption | with_reducible solve_by_elim (maxDepth := 8) [Shape.inT, Shape.inI, Shape.inC, Shape.inK, Shape.obF, Shape.obT, Shape.arI, Arr.inF] | omega)) only [S2, Nat.reduceEqDiff, Nat.reduceAdd, iput, puts]
    refine ⟨(f + 1, e9), rfl, ⟨hlf, ?_⟩, by simp only; omega⟩
    simp only
    rw [List.range_succ, List.map_append]
    exact S9
  have hfe : f = (prL R (R.length * R.length)).length := by omega
  subst hfe
  have out := S.out
  have qh := out.qh
  rw [po_tbl] at out
  try simp (disch := (first | rfl | with_reducible assumption | with_reducible solve_by_elim (maxDepth := 8) [Shape.inT, Shape.inI, Shape.inC, Shape.inK, Shape.obF, Shape.obT, Shape.arI, Arr.inF] | omega)) only [S2, Nat.reduceEqDiff, Nat.reduceAdd, iput, puts, hlf, p_fadm (l := 5) out.obj rfl, p_ldm (n := 5) out.obj rfl, pl, p_ldsm (l := 5) out.obj rfl]
  refine den_stR (o := 0) (m := 5) (d := [int (R.length : Int), va, vb, vd, ve]) rfl rfl S.res rfl rfl out.ones fun H9 y9 e9 => ?_
  have out9 := out.mono (H' := H9) (Nat.le_refl _) fun t h1 _ => e9 t (by omega)
  refine ⟨_, ?_, H9, fun _ _ h => h, 1, n7, out9.own⟩
  simp only [retOf, rets, SS, Nat.reduceEqDiff, Nat.reduceAdd, iput, puts, pLd, y9]
  rfl
end Go.Av
