/-
  The reference's sum of two categories: the walk.
-/
import Derived.Test.YtbalggpkmaabmaaAvY3
namespace Go.Av
open Classical
set_option linter.unusedSimpArgs false
set_option linter.unusedVariables false
variable {P : Program} {ν : Nat → FuncId}

def V_spec_l03Sum : Vc :=
  .op true (.p .box [.t 0]) <|
  .op true (.p .box [.t 1]) <|
  .op true (.new [int 0, .nil, .nil, .nil, .nil]) <|
  .op true (.p (.fad 0) [.t 2]) <|
  .op true (.p (.ld none) [.t 5]) <|
  .op true (.p (.fad 1) [.t 2]) <|
  .op true (.p (.ld none) [.t 7]) <|
  .op true (.p .len [.t 8]) <|
  .op true (.p (.ld (some 5)) [.t 2]) <|
  .op true (.callo (.f 409) [.t 10]) <|
  .op true (.new [int 0, .nil, .nil, .nil, .nil]) <|
  .op true (.st 5 (.t 12) (.t 11)) <|
  .op true (.p (.fad 0) [.t 3]) <|
  .op true (.p (.ld none) [.t 14]) <|
  .op true (.p (.bin .add) [.t 6, .t 15]) <|
  .op true (.p (.fad 0) [.t 12]) <|
  .op true (.st 1 (.t 17) (.t 16)) <|
  .loop 0 [.c (int 0)] <|
  .op true (.p (.fad 0) [.t 3]) <|
  .op true (.p (.ld none) [.t 20]) <|
  .op true (.p (.bin .lss) [.t 19, .t 21]) <|
  .br 22
   (.op true (.p (.fad 3) [.t 12]) <|
   .op true (.p (.ld none) [.t 23]) <|
   .op true (.p (.fad 3) [.t 3]) <|
   .op true (.p (.ld none) [.t 25]) <|
   .op true (.p (.iad 1) [.t 26, .t 19]) <|
   .op true (.p (.ld none) [.t 27]) <|
   .op true (.p (.bin .add) [.t 28, .t 9]) <|
   .op true (.p (.msl 1 [int 0] [(0, 1)]) [.t 29]) <|
   .op true (.app 1 (.t 24) (.t 30)) <|
   .op true (.p (.fad 3) [.t 12]) <|
   .op true (.st 1 (.t 32) (.t 31)) <|
   .op true (.p (.bin .add) [.t 19, .c (int 1)]) <|
   .again 0 [.t 34])
   (.loop 0 [.c (int 0)] <|
   .op true (.p (.fad 4) [.t 12]) <|
   .op true (.p (.ld none) [.t 24]) <|
   .op true (.p .len [.t 25]) <|
   .op true (.p (.bin .lss) [.t 23, .t 26]) <|
   .br 27
    (.loop 1 [.c (int 0)] <|
    .op true (.p (.fad 1) [.t 3]) <|
    .op true (.p (.ld none) [.t 29]) <|
    .op true (.p .len [.t 30]) <|
    .op true (.p (.bin .lss) [.t 28, .t 31]) <|
    .br 32
     (.op true (.p (.fad 4) [.t 12]) <|
     .op true (.p (.ld none) [.t 33]) <|
     .op true (.p (.iad 1) [.t 34, .t 23]) <|
     .op true (.p (.ld none) [.t 35]) <|
     .op false (.p (.msl 1 [int 0] [(0, 1)]) [.c (int (-1))]) <|
     .both
      (.op true (.p (.fad 4) [.t 12]) <|
      .both
       (.op true (.p (.ld none) [.t 38]) <|
       .op true (.app 1 (.t 36) (.t 37)) <|
       .op true (.p (.iad 1) [.t 39, .t 23]) <|
       .op true (.st 1 (.t 41) (.t 40)) <|
       .op true (.p (.bin .add) [.t 28, .c (int 1)]) <|
       .again 1 [.t 43])
       (.op true (.app 1 (.t 36) (.t 37)) <|
       .op true (.p (.ld none) [.t 38]) <|
       .op true (.p (.iad 1) [.t 40, .t 23]) <|
       .op true (.st 1 (.t 41) (.t 39)) <|
       .op true (.p (.bin .add) [.t 28, .c (int 1)]) <|
       .again 1 [.t 43]))
      (.op true (.app 1 (.t 36) (.t 37)) <|
      .op true (.p (.fad 4) [.t 12]) <|
      .op true (.p (.ld none) [.t 39]) <|
      .op true (.p (.iad 1) [.t 40, .t 23]) <|
      .op true (.st 1 (.t 41) (.t 38)) <|
      .op true (.p (.bin .add) [.t 28, .c (int 1)]) <|
      .again 1 [.t 43]))
     (.op true (.p (.bin .add) [.t 23, .c (int 1)]) <|
     .again 0 [.t 33]))
    (.loop 0 [.c (int 0)] <|
    .op true (.p (.fad 1) [.t 3]) <|
    .op true (.p (.ld none) [.t 29]) <|
    .op true (.p .len [.t 30]) <|
    .op true (.p (.bin .lss) [.t 28, .t 31]) <|
    .br 32
     (.op true (.p (.fad 1) [.t 12]) <|
     .op true (.p (.ld none) [.t 33]) <|
     .op true (.p (.fad 1) [.t 3]) <|
     .op true (.p (.ld none) [.t 35]) <|
     .op true (.p (.iad 1) [.t 36, .t 28]) <|
     .op true (.p (.ld none) [.t 37]) <|
     .op true (.p (.bin .add) [.t 38, .t 6]) <|
     .op true (.p (.msl 1 [int 0] [(0, 1)]) [.t 39]) <|
     .op true (.app 1 (.t 34) (.t 40)) <|
     .op true (.p (.fad 1) [.t 12]) <|
     .op true (.st 1 (.t 42) (.t 41)) <|
     .op true (.p (.fad 2) [.t 12]) <|
     .op true (.p (.ld none) [.t 44]) <|
     .op true (.p (.fad 2) [.t 3]) <|
     .op true (.p (.ld none) [.t 46]) <|
     .op true (.p (.iad 1) [.t 47, .t 28]) <|
     .op true (.p (.ld none) [.t 48]) <|
     .op true (.p (.bin .add) [.t 49, .t 6]) <|
     .op true (.p (.msl 1 [int 0] [(0, 1)]) [.t 50]) <|
     .op true (.app 1 (.t 45) (.t 51)) <|
     .op true (.p (.fad 2) [.t 12]) <|
     .op true (.st 1 (.t 53) (.t 52)) <|
     .op true (.p (.msl 0 [] []) []) <|
     .loop 1 [.t 55, .c (int 0)] <|
     .op true (.p (.bin .lss) [.t 57, .t 9]) <|
     .br 58
      (.op true (.p (.msl 1 [int 0] [(0, 1)]) [.c (int (-1))]) <|
      .op true (.app 1 (.t 56) (.t 59)) <|
      .op true (.p (.bin .add) [.t 57, .c (int 1)]) <|
      .again 1 [.t 60, .t 61])
      (.loop 1 [.t 56, .c (int 0)] <|
      .op true (.p (.fad 1) [.t 3]) <|
      .op true (.p (.ld none) [.t 61]) <|
      .op true (.p .len [.t 62]) <|
      .op true (.p (.bin .lss) [.t 60, .t 63]) <|
      .br 64
       (.op true (.p (.fad 4) [.t 3]) <|
       .op true (.p (.ld none) [.t 65]) <|
       .op true (.p (.iad 1) [.t 66, .t 28]) <|
       .op true (.p (.ld none) [.t 67]) <|
       .op true (.p (.iad 1) [.t 68, .t 60]) <|
       .op true (.p (.ld none) [.t 69]) <|
       .op true (.p (.bin .geq) [.t 70, .c (int 0)]) <|
       .br 71
        (.op true (.p (.bin .add) [.t 70, .t 9]) <|
        .op true (.p (.msl 1 [int 0] [(0, 1)]) [.t 72]) <|
        .op true (.app 1 (.t 59) (.t 73)) <|
        .op true (.p (.bin .add) [.t 60, .c (int 1)]) <|
        .again 1 [.t 74, .t 75])
        (.op true (.p (.msl 1 [int 0] [(0, 1)]) [.t 70]) <|
        .op true (.app 1 (.t 59) (.t 72)) <|
        .op true (.p (.bin .add) [.t 60, .c (int 1)]) <|
        .again 1 [.t 73, .t 74]))
       (.op true (.p (.fad 4) [.t 12]) <|
       .op true (.p (.ld none) [.t 65]) <|
       .op true (.mslm 1 1 [.nil] [(0, 1)] [.t 59]) <|
       .op true (.app 1 (.t 66) (.t 67)) <|
       .op true (.p (.fad 4) [.t 12]) <|
       .op true (.st 1 (.t 69) (.t 68)) <|
       .op true (.p (.bin .add) [.t 28, .c (int 1)]) <|
       .again 0 [.t 71])))
     (.op true (.p (.ld (some 5)) [.t 12]) <|
     .op true (.st 5 (.t 4) (.t 33)) <|
     .ret [(.t 4, some (some 5))])))
set_option maxHeartbeats 8000000 in
theorem l03Sum_own (how : Has P ν 259 1 V_spec_l01Own) (how2 : Has P ν 360 1 V_spec_l01Own2_o) (ho : Has P ν 409 1 V_spec_l02Own) (h : Has P ν 336 2 V_spec_l03Sum) (c d : Cat) (s : Shape c) (t : Shape d) (nx : Nat) :
    OkM P ν 336 [.agg c.cells, .agg d.cells] hempty nx (IsCO (sumK c d) nx) := by
  refine h _ _ _ _ rfl fun hwf => ?_
  unfold V_spec_l03Sum
  have hr : rS c d = c.f.length + d.f.length := rfl
  have n40 := s.n40
  have tl := s.tl
  have il := s.il
  have o8 := s.o8
  have o0 := s.o0
  have n40' := t.n40
  have tl' := t.tl
  have il' := t.il
  have o8' := t.o8
  have o0' := t.o0
  have wO : IntKind.i64.wrap (c.o + d.o) = c.o + d.o := wrap_id (by omega) (by omega)
  try simp (disch := (first | rfl | with_reducible assumption | with_reducible solve_by_elim (maxDepth := 8) [Shape.inT, Shape.inI, Shape.inC, Shape.inK, Shape.obF, Shape.obT, Shape.arI, Arr.inF] | omega)) only [S2, Nat.reduceEqDiff, Nat.reduceAdd, iput, puts]
  refine den_newR fun H0 y0 e0 => ?_
  try simp (disch := (first | rfl | with_reducible assumption | with_reducible solve_by_elim (maxDepth := 8) [Shape.inT, Shape.inI, Shape.inC, Shape.inK, Shape.obF, Shape.obT, Shape.arI, Arr.inF] | omega)) only [S2, Nat.reduceEqDiff, Nat.reduceAdd, iput, puts]
  refine den_callo (fc := (409, [])) (ys := [.agg c.cells]) rfl (by simp only [SS, Nat.reduceEqDiff, Nat.reduceAdd, iput, puts, FF, frzL_cat]) (l02Own_own how how2 ho c s (nx + 1)) (IsCO.some _ _) fun u H' n1 hu => ?_
  obtain ⟨q1, q2, q3, own⟩ := hu.own H0
  refine ⟨q1, q2, ?_⟩
  have y1 : hmerge (nx + 1) H0 H' nx = some [int 0, .nil, .nil, .nil, .nil] := (hmerge_lo (by omega)).trans y0
  generalize hmerge (nx + 1) H0 H' = H1 at own y1
  obtain ⟨va, vb, vd, ve, rfl, oC⟩ := own
  have one5 := OwnK.one5 (x := c) ⟨va, vb, vd, ve, rfl, oC⟩
  refine den_newR fun H2 x2 e2 => ?_
  refine den_stR (o := n1) (m := 5) (d := [int c.o, va, vb, vd, ve]) rfl rfl x2 rfl rfl one5 fun H3 x3 e3 => ?_
  have y3 := ((e3 nx (by omega)).trans (e2 nx (by omega))).trans y1
  obtain ⟨s1, s2, s3, out⟩ := (oC.mono (H' := H3) (Nat.le_refl _) fun t _ h2 => (e3 t (by omega)).trans (e2 t h2)).out3 (q := n1) (lo' := nx + 1) (hi' := n1 + 1) x3 (by omega) (by omega) (by omega) (by omega) (by omega)
  try simp (disch := (first | rfl | with_reducible assumption | with_reducible solve_by_elim (maxDepth := 8) [Shape.inT, Shape.inI, Shape.inC, Shape.inK, Shape.obF, Shape.obT, Shape.arI, Arr.inF] | omega)) only [S2, Nat.reduceEqDiff, Nat.reduceAdd, iput, puts, wO, p_fadm (l := 5) out.obj rfl]
  refine den_st1G (o := n1) (p := 0) (m := 5) (u := int (c.o + d.o)) rfl rfl out.obj rfl (by omega) rfl fun H4 x4 e4 => ?_
  have out := out.setOb (ob' := c.o + d.o) x4 e4
  have y4 := (e4 nx (by omega)).trans y3
  rw [rU_zero s t] at out
  obtain ⟨q, hq⟩ : ∃ q, q = n1 := ⟨_, rfl⟩
  rw [← hq] at out ⊢
  have ql : nx + 1 ≤ q := by omega
  obtain ⟨lo, hlo⟩ : ∃ lo, lo = nx + 1 := ⟨_, rfl⟩
  rw [← hlo] at out ql
  try simp (disch := (first | rfl | with_reducible assumption | with_reducible solve_by_elim (maxDepth := 8) [Shape.inT, Shape.inI, Shape.inC, Shape.inK, Shape.obF, Shape.obT, Shape.arI, Arr.inF] | omega)) only [S2, Nat.reduceEqDiff, Nat.reduceAdd, iput, puts]
  -- identities of the second
  refine den_loop (α := Nat × AV × Option Nat) (fun a => [int a.1]) (fun a H' nx' => a.1 ≤ d.i.length ∧ Out3 q (c.o + d.o) c.f c.t (c.i ++ upL c.f.length (d.i.take a.1)) (rU c d (pS c d 0 0)) va vb a.2.1 ve s1 s2 a.2.2 H' lo nx' ∧ H' nx = some [int 0, .nil, .nil, .nil, .nil]) (fun a => d.i.length - a.1) (0, vd, s3) rfl ⟨Nat.zero_le _, by simpa [upL] using out, y4⟩ ?_
  clear out y4
  rintro ⟨x, vd, s3⟩ H1 n1 ⟨hx, out, y1⟩
  simp only at hx out
  by_cases hlx : x < d.i.length
  · have hlx' : (x : Int) < d.o := by omega
    have ox := t.obI hlx
    have i1 : In d.i (x : Int) := t.inI ox
    have g1 : gI d.i (x : Int) = d.I x := rfl
    have r2 := t.arI ox
    have w3 : IntKind.i64.wrap (d.I x + (c.f.length : Int)) = (c.f.length : Int) + d.I x := by rw [Int.add_comm]; exact wrap_id (by have := r2.1; omega) (by have := r2.2; omega)
    have qh := out.qh
    have uI : upL c.f.length (d.i.take x) ++ [(c.f.length : Int) + d.I x] = upL c.f.length (d.i.take (x + 1)) := upL_take hlx
    try simp (disch := (first | rfl | with_reducible assumption | with_reducible solve_by_elim (maxDepth := 8) [Shape.inT, Shape.inI, Shape.inC, Shape.inK, Shape.obF, Shape.obT, Shape.arI, Arr.inF] | omega)) only [S2, Nat.reduceEqDiff, Nat.reduceAdd, iput, puts, hlx', g1, w3, p_fadm (l := 5) out.obj rfl, p_ldm (n := 5) out.obj rfl]
    refine den_out3 (m := [(c.f.length : Int) + d.I x]) out (Nat.le_refl _) rfl rfl rfl (by omega) rfl rfl (by simp) (by have := lenA3 (A := c.i) (l := d.i) (n := c.f.length) (i := x); simp only [List.length_cons, List.length_nil]; omega) fun a6 H6 n6 out6 hn6 keep6 => ?_
    have y6 := (keep6 nx (by omega) (by omega) fun ee => by have := out.r3 nx ee; omega).trans y1
    rw [List.append_assoc, uI] at out6
    try simp (disch := (first | rfl | with_reducible assumption | with_reducible solve_by_elim (maxDepth := 8) [Shape.inT, Shape.inI, Shape.inC, Shape.inK, Shape.obF, Shape.obT, Shape.arI, Arr.inF] | omega)) only [S2, Nat.reduceEqDiff, Nat.reduceAdd, iput, puts]
    exact ⟨(x + 1, a6, some (s3.getD n1)), rfl, ⟨hlx, out6, y6⟩, by simp only; omega⟩
  have hxe : x = d.i.length := by omega
  subst hxe
  rw [show c.i ++ upL c.f.length (d.i.take d.i.length) = iS c d by rw [List.take_length]; rfl] at out
  have hlx' : ¬ ((d.i.length : Nat) : Int) < d.o := by omega
  try simp (disch := (first | rfl | with_reducible assumption | with_reducible solve_by_elim (maxDepth := 8) [Shape.inT, Shape.inI, Shape.inC, Shape.inK, Shape.obF, Shape.obT, Shape.arI, Arr.inF] | omega)) only [S2, Nat.reduceEqDiff, Nat.reduceAdd, iput, puts, hlx']
  -- the rows of the first grow
  refine den_loop (α := Nat) (fun a => [int a]) (fun a H' nx' => a ≤ c.f.length ∧ nx' = n1 ∧ Out3 q (c.o + d.o) c.f c.t (iS c d) (rU c d (pS c d a 0)) va vb vd ve s1 s2 s3 H' lo n1 ∧ H' nx = some [int 0, .nil, .nil, .nil, .nil]) (fun a => c.f.length - a) 0 rfl ⟨Nat.zero_le _, rfl, out, y1⟩ ?_
  clear out y1 H1
  rintro f H1 n1' ⟨hf, rfl, out, y1⟩
  have pl := out.tab.plenY
  rw [rU_len] at pl
  by_cases hlf : f < c.f.length
  · try simp (disch := (first | rfl | with_reducible assumption | with_reducible solve_by_elim (maxDepth := 8) [Shape.inT, Shape.inI, Shape.inC, Shape.inK, Shape.obF, Shape.obT, Shape.arI, Arr.inF] | omega)) only [S2, Nat.reduceEqDiff, Nat.reduceAdd, iput, puts, hlf, pl, p_fadm (l := 5) out.obj rfl, p_ldm (n := 5) out.obj rfl]
    refine den_loop (α := Nat) (fun a => [int a]) (fun a H' nx' => a ≤ d.f.length ∧ nx' = n1' ∧ Out3 q (c.o + d.o) c.f c.t (iS c d) (rU c d (pS c d f a)) va vb vd ve s1 s2 s3 H' lo n1' ∧ H' nx = some [int 0, .nil, .nil, .nil, .nil]) (fun a => d.f.length - a) 0 rfl ⟨Nat.zero_le _, rfl, out, y1⟩ ?_
    clear out y1 pl H1
    rintro g H1 n2 ⟨hg, rfl, out, y1⟩
    by_cases hlg : g < d.f.length
    · have er : (rU c d (pS c d f g)).getD f [] = (tR c d f).take (c.f.length + g) := by rw [rU_at hlf]; congr 1; unfold pS; rw [if_neg (by omega), if_pos rfl]
      have rl : ((tR c d f).take (c.f.length + g)).length = c.f.length + g := by rw [List.length_take, tR_len]; omega
      obtain ⟨o, o', cells, rfl, h2, h3, h4, h5, h6, h7, h8, h9, h10, h11, h12, hk⟩ := out.rowAt (j := f) (by rw [rU_len]; exact hlf) (by rw [er]; intro e; rw [e] at rl; simp at rl; omega)
      rw [er] at h4 h5
      rw [rU_len] at h3
      have sn := take_snoc (l := tR c d f) (k := c.f.length + g) (x := -1) (by rw [tR_len]; omega) (tR_12 s t hlf (by omega) (by omega))
      have fin : ∀ (H3 : Hp), H3 o' = some (ints ((tR c d f).take (c.f.length + g) ++ [-1])) → H3 o = some (cells.set f (.ms o' 0 ((tR c d f).take (c.f.length + g) ++ [-1]).length 1)) → (∀ t, t ≠ o → t ≠ o' → H3 t = H1 t) → Out3 q (c.o + d.o) c.f c.t (iS c d) (rU c d (pS c d f (g + 1))) va vb vd (.ms o 0 (rU c d (pS c d f g)).length 1) s1 s2 s3 H3 lo n2 ∧ H3 nx = some [int 0, .nil, .nil, .nil, .nil] := fun H3 a1 a2 a3 => by
        rw [← rU_set hlf]
        rw [sn] at a1 a2
        exact ⟨hk _ H3 a1 a2 a3, (a3 nx (by omega) (by omega)).trans y1⟩
      have z1 : pvf H1 (.iad 1) [.ms o 0 c.f.length 1, int (f : Int)] = some (.mp o f c.f.length) := by rw [p_iadm h2 h3, if_pos ⟨by omega, by omega⟩]; rfl
      have z2 : pvf H1 (.ld none) [.mp o f c.f.length] = some (.ms o' 0 (c.f.length + g) 1) := by rw [p_ldm h2 h3, h4, rl]
      have gr : Gr (some o') ((tR c d f).take (c.f.length + g)) (.ms o' 0 (c.f.length + g) 1) H1 := ⟨by rw [rl], h5⟩
      rw [rU_len] at fin out hk ⊢
      try simp (disch := (first | rfl | with_reducible assumption | with_reducible solve_by_elim (maxDepth := 8) [Shape.inT, Shape.inI, Shape.inC, Shape.inK, Shape.obF, Shape.obT, Shape.arI, Arr.inF] | omega)) only [S2, Nat.reduceEqDiff, Nat.reduceAdd, iput, puts, hlg, z1, z2, p_fadm (l := 5) out.obj rfl, p_ldm (n := 5) out.obj rfl]
      refine ⟨?_, ?_⟩
      try simp (disch := (first | rfl | with_reducible assumption | with_reducible solve_by_elim (maxDepth := 8) [Shape.inT, Shape.inI, Shape.inC, Shape.inK, Shape.obF, Shape.obT, Shape.arI, Arr.inF] | omega)) only [S2, Nat.reduceEqDiff, Nat.reduceAdd, iput, puts, p_fadm (l := 5) out.obj rfl]
      refine ⟨?_, ?_⟩
      · -- the table is read before the append
        try simp (disch := (first | rfl | with_reducible assumption | with_reducible solve_by_elim (maxDepth := 8) [Shape.inT, Shape.inI, Shape.inC, Shape.inK, Shape.obF, Shape.obT, Shape.arI, Arr.inF] | omega)) only [S2, Nat.reduceEqDiff, Nat.reduceAdd, iput, puts, p_ldm (n := 5) out.obj rfl]
        refine den_appW (s := some o') (l := (tR c d f).take (c.f.length + g)) (m := [-1]) gr rfl (by simp) (by rw [rl]; simp only [List.length_cons, List.length_nil]; omega) fun v H2 n2' g2 e2 hn2 => ?_
        obtain ⟨rfl, h5'⟩ := g2
        have e2 : ∀ j, j ≠ o' → H2 j = H1 j := e2
        have hn2 : n2' = n2 := hn2
        subst hn2
        have h2' := (e2 o (fun e => h6 e.symm)).trans h2
        have z1' : pvf H2 (.iad 1) [.ms o 0 c.f.length 1, int (f : Int)] = some (.mp o f c.f.length) := by rw [p_iadm h2' h3, if_pos ⟨by omega, by omega⟩]; rfl
        try simp (disch := (first | rfl | with_reducible assumption | with_reducible solve_by_elim (maxDepth := 8) [Shape.inT, Shape.inI, Shape.inC, Shape.inK, Shape.obF, Shape.obT, Shape.arI, Arr.inF] | omega)) only [S2, Nat.reduceEqDiff, Nat.reduceAdd, iput, puts, z1']
        refine den_st1G (o := o) (p := f) (m := c.f.length) rfl rfl h2' h3 hlf rfl fun H3 x3 e3 => ?_
        obtain ⟨oA, oB⟩ := fin H3 ((e3 o' h6).trans h5') x3 fun t a1 a2 => (e3 t a1).trans (e2 t a2)
        try simp (disch := (first | rfl | with_reducible assumption | with_reducible solve_by_elim (maxDepth := 8) [Shape.inT, Shape.inI, Shape.inC, Shape.inK, Shape.obF, Shape.obT, Shape.arI, Arr.inF] | omega)) only [S2, Nat.reduceEqDiff, Nat.reduceAdd, iput, puts]
        exact ⟨g + 1, rfl, ⟨hlg, oA, oB⟩, by omega⟩
      · try simp (disch := (first | rfl | with_reducible assumption | with_reducible solve_by_elim (maxDepth := 8) [Shape.inT, Shape.inI, Shape.inC, Shape.inK, Shape.obF, Shape.obT, Shape.arI, Arr.inF] | omega)) only [S2, Nat.reduceEqDiff, Nat.reduceAdd, iput, puts]
        refine den_appW (s := some o') (l := (tR c d f).take (c.f.length + g)) (m := [-1]) gr rfl (by simp) (by rw [rl]; simp only [List.length_cons, List.length_nil]; omega) fun v H2 n2' g2 e2 hn2 => ?_
        obtain ⟨rfl, h5'⟩ := g2
        have e2 : ∀ j, j ≠ o' → H2 j = H1 j := e2
        have hn2 : n2' = n2 := hn2
        subst hn2
        have h2' := (e2 o (fun e => h6 e.symm)).trans h2
        have obj2 := (e2 q (fun e => h7 e.symm)).trans out.obj
        have z1' : pvf H2 (.iad 1) [.ms o 0 c.f.length 1, int (f : Int)] = some (.mp o f c.f.length) := by rw [p_iadm h2' h3, if_pos ⟨by omega, by omega⟩]; rfl
        try simp (disch := (first | rfl | with_reducible assumption | with_reducible solve_by_elim (maxDepth := 8) [Shape.inT, Shape.inI, Shape.inC, Shape.inK, Shape.obF, Shape.obT, Shape.arI, Arr.inF] | omega)) only [S2, Nat.reduceEqDiff, Nat.reduceAdd, iput, puts, z1', p_ldm (n := 5) obj2 rfl]
        refine den_st1G (o := o) (p := f) (m := c.f.length) rfl rfl h2' h3 hlf rfl fun H3 x3 e3 => ?_
        obtain ⟨oA, oB⟩ := fin H3 ((e3 o' h6).trans h5') x3 fun t a1 a2 => (e3 t a1).trans (e2 t a2)
        try simp (disch := (first | rfl | with_reducible assumption | with_reducible solve_by_elim (maxDepth := 8) [Shape.inT, Shape.inI, Shape.inC, Shape.inK, Shape.obF, Shape.obT, Shape.arI, Arr.inF] | omega)) only [S2, Nat.reduceEqDiff, Nat.reduceAdd, iput, puts]
        exact ⟨g + 1, rfl, ⟨hlg, oA, oB⟩, by omega⟩
      · refine den_appW (s := some o') (l := (tR c d f).take (c.f.length + g)) (m := [-1]) gr rfl (by simp) (by rw [rl]; simp only [List.length_cons, List.length_nil]; omega) fun v H2 n2' g2 e2 hn2 => ?_
        obtain ⟨rfl, h5'⟩ := g2
        have e2 : ∀ j, j ≠ o' → H2 j = H1 j := e2
        have hn2 : n2' = n2 := hn2
        subst hn2
        have h2' := (e2 o (fun e => h6 e.symm)).trans h2
        have obj2 := (e2 q (fun e => h7 e.symm)).trans out.obj
        have z1' : pvf H2 (.iad 1) [.ms o 0 c.f.length 1, int (f : Int)] = some (.mp o f c.f.length) := by rw [p_iadm h2' h3, if_pos ⟨by omega, by omega⟩]; rfl
        try simp (disch := (first | rfl | with_reducible assumption | with_reducible solve_by_elim (maxDepth := 8) [Shape.inT, Shape.inI, Shape.inC, Shape.inK, Shape.obF, Shape.obT, Shape.arI, Arr.inF] | omega)) only [S2, Nat.reduceEqDiff, Nat.reduceAdd, iput, puts, z1', p_fadm (l := 5) obj2 rfl, p_ldm (n := 5) obj2 rfl]
        refine den_st1G (o := o) (p := f) (m := c.f.length) rfl rfl h2' h3 hlf rfl fun H3 x3 e3 => ?_
        obtain ⟨oA, oB⟩ := fin H3 ((e3 o' h6).trans h5') x3 fun t a1 a2 => (e3 t a1).trans (e2 t a2)
        try simp (disch := (first | rfl | with_reducible assumption | with_reducible solve_by_elim (maxDepth := 8) [Shape.inT, Shape.inI, Shape.inC, Shape.inK, Shape.obF, Shape.obT, Shape.arI, Arr.inF] | omega)) only [S2, Nat.reduceEqDiff, Nat.reduceAdd, iput, puts]
        exact ⟨g + 1, rfl, ⟨hlg, oA, oB⟩, by omega⟩
    · have hge : g = d.f.length := by omega
      subst hge
      rw [rU_next] at out
      try simp (disch := (first | rfl | with_reducible assumption | with_reducible solve_by_elim (maxDepth := 8) [Shape.inT, Shape.inI, Shape.inC, Shape.inK, Shape.obF, Shape.obT, Shape.arI, Arr.inF] | omega)) only [S2, Nat.reduceEqDiff, Nat.reduceAdd, iput, puts, hlg]
      exact ⟨f + 1, rfl, ⟨hlf, out, y1⟩, by omega⟩
  have hfe : f = c.f.length := by omega
  subst hfe
  rw [rU_all] at out
  have out : Out3 q (c.o + d.o) (c.f ++ upL c.o (d.f.take 0)) (c.t ++ upL c.o (d.t.take 0)) (iS c d) ((List.range (c.f.length + 0)).map (tR c d)) va vb vd ve s1 s2 s3 H1 lo n1' := by simpa [upL] using out
  try simp (disch := (first | rfl | with_reducible assumption | with_reducible solve_by_elim (maxDepth := 8) [Shape.inT, Shape.inI, Shape.inC, Shape.inK, Shape.obF, Shape.obT, Shape.arI, Arr.inF] | omega)) only [S2, Nat.reduceEqDiff, Nat.reduceAdd, iput, puts, hlf, pl, p_fadm (l := 5) out.obj rfl, p_ldm (n := 5) out.obj rfl]
  -- arrows and rows of the second
  refine den_loop (α := Nat × (AV × AV × AV) × (Option Nat × Option Nat)) (fun a => [int a.1]) (fun a H' nx' => a.1 ≤ d.f.length ∧ Out3 q (c.o + d.o) (c.f ++ upL c.o (d.f.take a.1)) (c.t ++ upL c.o (d.t.take a.1)) (iS c d) ((List.range (c.f.length + a.1)).map (tR c d)) a.2.1.1 a.2.1.2.1 vd a.2.1.2.2 a.2.2.1 a.2.2.2 s3 H' lo nx' ∧ H' nx = some [int 0, .nil, .nil, .nil, .nil]) (fun a => d.f.length - a.1) (0, (va, vb, ve), s1, s2) rfl ⟨Nat.zero_le _, out, y1⟩ ?_
  clear out y1 pl
  rintro ⟨a, ⟨va, vb, ve⟩, s1, s2⟩ H1 n1 ⟨ha, out, y1⟩
  simp only at ha out
  by_cases hla : a < d.f.length
  · have i2 : In d.f (a : Int) := In.nat hla
    have i4 : In d.t (a : Int) := In.nat (by omega)
    have g2 : gI d.f (a : Int) = d.F a := rfl
    have g4 : gI d.t (a : Int) = d.T a := rfl
    have aa : Arr d (a : Int) := ⟨by omega, by omega⟩
    have r2 := t.obF aa
    have r4 := t.obT aa
    have w3 : IntKind.i64.wrap (d.F a + c.o) = c.o + d.F a := by rw [Int.add_comm]; exact wrap_id (by have := r2.1; omega) (by have := r2.2; omega)
    have w4 : IntKind.i64.wrap (d.T a + c.o) = c.o + d.T a := by rw [Int.add_comm]; exact wrap_id (by have := r4.1; omega) (by have := r4.2; omega)
    have qh := out.qh
    have uF : upL c.o (d.f.take a) ++ [c.o + d.F a] = upL c.o (d.f.take (a + 1)) := upL_take hla
    have uT : upL c.o (d.t.take a) ++ [c.o + d.T a] = upL c.o (d.t.take (a + 1)) := upL_take (by omega)
    try simp (disch := (first | rfl | with_reducible assumption | with_reducible solve_by_elim (maxDepth := 8) [Shape.inT, Shape.inI, Shape.inC, Shape.inK, Shape.obF, Shape.obT, Shape.arI, Arr.inF] | omega)) only [S2, Nat.reduceEqDiff, Nat.reduceAdd, iput, puts, hla, g2, w3, p_fadm (l := 5) out.obj rfl, p_ldm (n := 5) out.obj rfl]
    refine den_out1 (m := [c.o + d.F a]) out (Nat.le_refl _) rfl rfl rfl (by omega) rfl rfl (by simp) (by have := lenA3 (A := c.f) (l := d.f) (n := c.o) (i := a); simp only [List.length_cons, List.length_nil]; omega) fun a6 H6 n6 out6 hn6 keep6 => ?_
    have y6 := (keep6 nx (by omega) (by omega) fun ee => by have := out.r1 nx ee; omega).trans y1
    rw [List.append_assoc, uF] at out6
    try simp (disch := (first | rfl | with_reducible assumption | with_reducible solve_by_elim (maxDepth := 8) [Shape.inT, Shape.inI, Shape.inC, Shape.inK, Shape.obF, Shape.obT, Shape.arI, Arr.inF] | omega)) only [S2, Nat.reduceEqDiff, Nat.reduceAdd, iput, puts, g4, w4, p_fadm (l := 5) out6.obj rfl, p_ldm (n := 5) out6.obj rfl]
    refine den_out2 (m := [c.o + d.T a]) out6 (Nat.le_refl _) rfl rfl rfl (by omega) rfl rfl (by simp) (by have := lenA3 (A := c.t) (l := d.t) (n := c.o) (i := a); simp only [List.length_cons, List.length_nil]; omega) fun b7 H7 n7 out7 hn7 keep7 => ?_
    have y7 := (keep7 nx (by omega) (by omega) fun ee => by have := out6.r2 nx ee; omega).trans y6
    rw [List.append_assoc, uT] at out7
    try simp (disch := (first | rfl | with_reducible assumption | with_reducible solve_by_elim (maxDepth := 8) [Shape.inT, Shape.inI, Shape.inC, Shape.inK, Shape.obF, Shape.obT, Shape.arI, Arr.inF] | omega)) only [S2, Nat.reduceEqDiff, Nat.reduceAdd, iput, puts]
    refine den_loop (α := Nat × AV) (fun b => [b.2, int b.1]) (fun b H' nx' => b.1 ≤ c.f.length ∧ IsI ((tR c d (c.f.length + a)).take b.1) H7 n7 b.2 H' nx') (fun b => c.f.length - b.1) (0, .nil) rfl ⟨Nat.zero_le _, IsI.nil H7 n7⟩ ?_
    rintro ⟨g, v8⟩ H8 n8 ⟨hg, hI⟩
    simp only at hg hI
    by_cases hlg : g < c.f.length
    · have sn := take_snoc (l := tR c d (c.f.length + a)) (k := g) (x := -1) (by rw [tR_len]; omega) (tR_21 s t (by omega) (by omega) hlg)
      try simp (disch := (first | rfl | with_reducible assumption | with_reducible solve_by_elim (maxDepth := 8) [Shape.inT, Shape.inI, Shape.inC, Shape.inK, Shape.obF, Shape.obT, Shape.arI, Arr.inF] | omega)) only [S2, Nat.reduceEqDiff, Nat.reduceAdd, iput, puts, hlg]
      refine den_appI (m := [-1]) hI rfl (by simp) (by rw [List.length_take, tR_len]; simp only [List.length_cons, List.length_nil]; omega) fun v9 H9 n9 hI9 => ?_
      rw [sn] at hI9
      try simp (disch := (first | rfl | with_reducible assumption | with_reducible solve_by_elim (maxDepth := 8) [Shape.inT, Shape.inI, Shape.inC, Shape.inK, Shape.obF, Shape.obT, Shape.arI, Arr.inF] | omega)) only [S2, Nat.reduceEqDiff, Nat.reduceAdd, iput, puts]
      exact ⟨(g + 1, v9), rfl, ⟨hlg, hI9⟩, by simp only; omega⟩
    have hge : g = c.f.length := by omega
    subst hge
    try simp (disch := (first | rfl | with_reducible assumption | with_reducible solve_by_elim (maxDepth := 8) [Shape.inT, Shape.inI, Shape.inC, Shape.inK, Shape.obF, Shape.obT, Shape.arI, Arr.inF] | omega)) only [S2, Nat.reduceEqDiff, Nat.reduceAdd, iput, puts, hlg]
    refine den_loop (α := Nat × AV) (fun b => [b.2, int b.1]) (fun b H' nx' => b.1 ≤ d.f.length ∧ IsI ((tR c d (c.f.length + a)).take (c.f.length + b.1)) H7 n7 b.2 H' nx') (fun b => d.f.length - b.1) (0, v8) rfl ⟨Nat.zero_le _, hI⟩ ?_
    clear hI H8
    rintro ⟨g, v8⟩ H8 n8 ⟨hg, hI⟩
    simp only at hg hI
    by_cases hlg : g < d.f.length
    · have ag : Arr d (g : Int) := ⟨by omega, by omega⟩
      have ic : InR d.c (a : Int) := t.inC aa
      have iK := t.inK aa ag
      have gK : gI (gR d.c (a : Int)) (g : Int) = d.K a g := rfl
      have en := tR_22 s t hla hlg
      have ln : ((tR c d (c.f.length + a)).take (c.f.length + g)).length ≤ rS c d := by rw [List.length_take, tR_len]; omega
      try simp (disch := (first | rfl | with_reducible assumption | with_reducible solve_by_elim (maxDepth := 8) [Shape.inT, Shape.inI, Shape.inC, Shape.inK, Shape.obF, Shape.obT, Shape.arI, Arr.inF] | omega)) only [S2, Nat.reduceEqDiff, Nat.reduceAdd, iput, puts, hlg, gK]
      refine ⟨fun k1 => ?_, fun k1 => ?_⟩
      · have p2 := t.arK aa ag ((t.kI aa ag).1 (by omega))
        have w5 : IntKind.i64.wrap (d.K a g + (c.f.length : Int)) = (c.f.length : Int) + d.K a g := by rw [Int.add_comm]; exact wrap_id (by have := p2.1; omega) (by have := p2.2; omega)
        rw [if_pos (by omega)] at en
        have sn := take_snoc (k := c.f.length + g) (by rw [tR_len]; omega) en
        try simp (disch := (first | rfl | with_reducible assumption | with_reducible solve_by_elim (maxDepth := 8) [Shape.inT, Shape.inI, Shape.inC, Shape.inK, Shape.obF, Shape.obT, Shape.arI, Arr.inF] | omega)) only [S2, Nat.reduceEqDiff, Nat.reduceAdd, iput, puts, w5]
        refine den_appI (m := [(c.f.length : Int) + d.K a g]) hI rfl (by simp) (by simp only [List.length_cons, List.length_nil]; omega) fun v9 H9 n9 hI9 => ?_
        rw [sn] at hI9
        try simp (disch := (first | rfl | with_reducible assumption | with_reducible solve_by_elim (maxDepth := 8) [Shape.inT, Shape.inI, Shape.inC, Shape.inK, Shape.obF, Shape.obT, Shape.arI, Arr.inF] | omega)) only [S2, Nat.reduceEqDiff, Nat.reduceAdd, iput, puts]
        exact ⟨(g + 1, v9), rfl, ⟨hlg, hI9⟩, by simp only; omega⟩
      · rw [if_neg (by omega)] at en
        have sn := take_snoc (k := c.f.length + g) (by rw [tR_len]; omega) en
        try simp (disch := (first | rfl | with_reducible assumption | with_reducible solve_by_elim (maxDepth := 8) [Shape.inT, Shape.inI, Shape.inC, Shape.inK, Shape.obF, Shape.obT, Shape.arI, Arr.inF] | omega)) only [S2, Nat.reduceEqDiff, Nat.reduceAdd, iput, puts]
        refine den_appI (m := [d.K a g]) hI rfl (by simp) (by simp only [List.length_cons, List.length_nil]; omega) fun v9 H9 n9 hI9 => ?_
        rw [sn] at hI9
        try simp (disch := (first | rfl | with_reducible assumption | with_reducible solve_by_elim (maxDepth := 8) [Shape.inT, Shape.inI, Shape.inC, Shape.inK, Shape.obF, Shape.obT, Shape.arI, Arr.inF] | omega)) only [S2, Nat.reduceEqDiff, Nat.reduceAdd, iput, puts]
        exact ⟨(g + 1, v9), rfl, ⟨hlg, hI9⟩, by simp only; omega⟩
    have hge : g = d.f.length := by omega
    subst hge
    rw [List.take_of_length_le (by rw [tR_len]; omega)] at hI
    have hn8 := hI.1
    have out8 := out7.mono (H' := H8) (Nat.le_refl _) fun t _ h2 => hI.old h2
    have q7 := out7.qh
    have y8 := (hI.old (show nx < n7 by omega)).trans y7
    have ow : Own1 (tR c d (c.f.length + a)) v8 H8 n7 n8 := by
      obtain ⟨_, ⟨q1, q2, _⟩ | ⟨o, q1, q2, q3, q4⟩⟩ := hI
      · exact .inl ⟨q1, q2⟩
      · exact .inr ⟨o, q1, q2, q3, by rw [q4]; exact hput_eq _ _ _⟩
    try simp (disch := (first | rfl | with_reducible assumption | with_reducible solve_by_elim (maxDepth := 8) [Shape.inT, Shape.inI, Shape.inC, Shape.inK, Shape.obF, Shape.obT, Shape.arI, Arr.inF] | omega)) only [S2, Nat.reduceEqDiff, Nat.reduceAdd, iput, puts, hlg, p_fadm (l := 5) out8.obj rfl, p_ldm (n := 5) out8.obj rfl]
    refine den_outR (l := tR c d (c.f.length + a)) out8 rfl (fun _ => rfl) rfl (by omega) rfl rfl (by rw [List.length_map, List.length_range]; omega) hn8 ow fun e9 H9 n9 out9 hn9 low9 => ?_
    try simp (disch := (first | rfl | with_reducible assumption | with_reducible solve_by_elim (maxDepth := 8) [Shape.inT, Shape.inI, Shape.inC, Shape.inK, Shape.obF, Shape.obT, Shape.arI, Arr.inF] | omega)) only [S2, Nat.reduceEqDiff, Nat.reduceAdd, iput, puts]
    refine ⟨(a + 1, (a6, b7, e9), some (s1.getD n1), some (s2.getD n6)), rfl, ⟨hla, ?_, ?_⟩, by simp only; omega⟩
    · simp only
      rw [← Nat.add_assoc, List.range_succ, List.map_append]
      exact out9
    · rw [low9 _ (by omega)]; exact y8
  have hae : a = d.f.length := by omega
  subst hae
  rw [show c.f ++ upL c.o (d.f.take d.f.length) = fS c d by rw [List.take_length]; rfl, show c.t ++ upL c.o (d.t.take d.f.length) = tS c d by rw [← tl', List.take_length]; rfl, ← hr, tR_tbl] at out
  have qh := out.qh
  try simp (disch := (first | rfl | with_reducible assumption | with_reducible solve_by_elim (maxDepth := 8) [Shape.inT, Shape.inI, Shape.inC, Shape.inK, Shape.obF, Shape.obT, Shape.arI, Arr.inF] | omega)) only [S2, Nat.reduceEqDiff, Nat.reduceAdd, iput, puts, hla, p_ldsm (l := 5) out.obj rfl]
  refine den_stR (o := nx) (m := 5) (d := [int (c.o + d.o), va, vb, vd, ve]) rfl rfl y1 rfl rfl out.ones fun H9 y9 e9 => ?_
  have out9 := out.mono (H' := H9) (Nat.le_refl _) fun t h1 _ => e9 t (by omega)
  obtain ⟨H10, q4, q5⟩ := out9.own.co (nx := nx) (by omega) (by omega)
  refine ⟨.agg [int (c.o + d.o), va, vb, vd, ve], ?_, H10, q4, q5⟩
  simp only [retOf, rets, SS, Nat.reduceEqDiff, Nat.reduceAdd, iput, puts, pLd, y9]
  rfl
end Go.Av
