/-
  Subcategories: the reference's.
-/
import Derived.Test.YtbikcomiocdkpaaAvN1
namespace Go.Av
open Classical
set_option linter.unusedSimpArgs false
set_option linter.unusedVariables false
variable {P : Program} {ν : Nat → FuncId}

theorem IsI.rd {l : List Int} {H : Hp} {nx : Nat} {v : AV} {H' : Hp} {nx' : Nat} (h : IsI l H nx v H' nx') : Rd H' (fun t => nx ≤ t ∧ t < nx') v l := by
  obtain ⟨_, ⟨rfl, rfl, _⟩ | ⟨o, q1, q2, rfl, rfl⟩⟩ := h
  · exact .nil
  · exact .ms o l (hput_eq _ _ _) ⟨q1, q2⟩
theorem Rd.frzL {H : Hp} {lim : Nat → Prop} {v : AV} {l : List Int} (h : Rd H lim v l) (t : List AV) : frzL H (v :: t) = (Av.frzL H t).map (islice l :: ·) := by
  simp only [Av.frzL, List.mapM_cons, show Av.frz H fuel v = _ from h.frz 5]; cases List.mapM (Av.frz H fuel) t <;> rfl

def V_spec_l02Part : Vc :=
  .op true (.p .box [.t 0]) <|
  .op true (.new [int 0, .nil, .nil, .nil, .nil]) <|
  .op true (.p (.msl 0 [] []) []) <|
  .loop 0 [.t 4, .c (int 0)] <|
  .op true (.p (.fad 0) [.t 2]) <|
  .op true (.p (.ld none) [.t 7]) <|
  .op true (.p (.bin .lss) [.t 6, .t 8]) <|
  .br 9
   (.op true (.p (.fad 3) [.t 2]) <|
   .op true (.p (.ld none) [.t 10]) <|
   .op true (.p (.iad 1) [.t 11, .t 6]) <|
   .op true (.p (.ld none) [.t 12]) <|
   .op true (.call (.f 262) [.t 1, .t 13]) <|
   .br 14
    (.op true (.p (.msl 1 [int 0] [(0, 1)]) [.t 6]) <|
    .op true (.app 1 (.t 5) (.t 15)) <|
    .op true (.p (.bin .add) [.t 6, .c (int 1)]) <|
    .again 0 [.t 16, .t 17])
    (.op true (.p (.bin .add) [.t 6, .c (int 1)]) <|
    .again 0 [.t 5, .t 15]))
   (.op true (.p .len [.t 5]) <|
   .op true (.p (.msl 0 [] []) []) <|
   .op true (.p (.msl 0 [] []) []) <|
   .op true (.p (.msl 0 [] []) []) <|
   .op true (.p (.msl 0 [] []) []) <|
   .op true (.p (.mka [int 0, .nil, .nil, .nil, .nil] [(0, 1), (1, 1), (2, 1), (3, 1), (4, 1)]) [.t 10, .t 11, .t 12, .t 13, .t 14]) <|
   .op true (.new [int 0, .nil, .nil, .nil, .nil]) <|
   .op true (.st 5 (.t 16) (.t 15)) <|
   .loop 0 [.c (int 0)] <|
   .op true (.p .len [.t 5]) <|
   .op true (.p (.bin .lss) [.t 18, .t 19]) <|
   .br 20
    (.op true (.p (.fad 3) [.t 16]) <|
    .op true (.p (.ld none) [.t 21]) <|
    .op true (.p (.fad 3) [.t 2]) <|
    .op true (.p (.ld none) [.t 23]) <|
    .op true (.p (.iad 1) [.t 5, .t 18]) <|
    .op true (.p (.ld none) [.t 25]) <|
    .op true (.p (.iad 1) [.t 24, .t 26]) <|
    .op true (.p (.ld none) [.t 27]) <|
    .op true (.call (.f 376) [.t 1, .t 28]) <|
    .op true (.p (.msl 1 [int 0] [(0, 1)]) [.t 29]) <|
    .op true (.app 1 (.t 22) (.t 30)) <|
    .op true (.p (.fad 3) [.t 16]) <|
    .op true (.st 1 (.t 32) (.t 31)) <|
    .op true (.p (.bin .add) [.t 18, .c (int 1)]) <|
    .again 0 [.t 34])
    (.loop 0 [.c (int 0)] <|
    .op true (.p .len [.t 1]) <|
    .op true (.p (.bin .lss) [.t 21, .t 22]) <|
    .br 23
     (.op true (.p (.fad 1) [.t 16]) <|
     .op true (.p (.ld none) [.t 24]) <|
     .op true (.p (.fad 1) [.t 2]) <|
     .op true (.p (.ld none) [.t 26]) <|
     .op true (.p (.iad 1) [.t 1, .t 21]) <|
     .op true (.p (.ld none) [.t 28]) <|
     .op true (.p (.iad 1) [.t 27, .t 29]) <|
     .op true (.p (.ld none) [.t 30]) <|
     .op true (.call (.f 376) [.t 5, .t 31]) <|
     .op true (.p (.msl 1 [int 0] [(0, 1)]) [.t 32]) <|
     .op true (.app 1 (.t 25) (.t 33)) <|
     .op true (.p (.fad 1) [.t 16]) <|
     .op true (.st 1 (.t 35) (.t 34)) <|
     .op true (.p (.fad 2) [.t 16]) <|
     .op true (.p (.ld none) [.t 37]) <|
     .op true (.p (.fad 2) [.t 2]) <|
     .op true (.p (.ld none) [.t 39]) <|
     .op true (.p (.iad 1) [.t 1, .t 21]) <|
     .op true (.p (.ld none) [.t 41]) <|
     .op true (.p (.iad 1) [.t 40, .t 42]) <|
     .op true (.p (.ld none) [.t 43]) <|
     .op true (.call (.f 376) [.t 5, .t 44]) <|
     .op true (.p (.msl 1 [int 0] [(0, 1)]) [.t 45]) <|
     .op true (.app 1 (.t 38) (.t 46)) <|
     .op true (.p (.fad 2) [.t 16]) <|
     .op true (.st 1 (.t 48) (.t 47)) <|
     .op true (.p (.msl 0 [] []) []) <|
     .loop 1 [.t 50, .c (int 0)] <|
     .op true (.p .len [.t 1]) <|
     .op true (.p (.bin .lss) [.t 52, .t 53]) <|
     .br 54
      (.op true (.p (.fad 4) [.t 2]) <|
      .op true (.p (.ld none) [.t 55]) <|
      .op true (.p (.iad 1) [.t 1, .t 21]) <|
      .op true (.p (.ld none) [.t 57]) <|
      .op true (.p (.iad 1) [.t 56, .t 58]) <|
      .op true (.p (.ld none) [.t 59]) <|
      .op true (.p (.iad 1) [.t 1, .t 52]) <|
      .op true (.p (.ld none) [.t 61]) <|
      .op true (.p (.iad 1) [.t 60, .t 62]) <|
      .op true (.p (.ld none) [.t 63]) <|
      .op true (.call (.f 376) [.t 1, .t 64]) <|
      .op true (.p (.msl 1 [int 0] [(0, 1)]) [.t 65]) <|
      .op true (.app 1 (.t 51) (.t 66)) <|
      .op true (.p (.bin .add) [.t 52, .c (int 1)]) <|
      .again 1 [.t 67, .t 68])
      (.op true (.p (.fad 4) [.t 16]) <|
      .op true (.p (.ld none) [.t 55]) <|
      .op true (.mslm 1 1 [.nil] [(0, 1)] [.t 51]) <|
      .op true (.app 1 (.t 56) (.t 57)) <|
      .op true (.p (.fad 4) [.t 16]) <|
      .op true (.st 1 (.t 59) (.t 58)) <|
      .op true (.p (.bin .add) [.t 21, .c (int 1)]) <|
      .again 0 [.t 61]))
     (.op true (.p (.ld (some 5)) [.t 16]) <|
     .op true (.st 5 (.t 3) (.t 24)) <|
     .ret [(.t 3, some (some 5))])))
set_option maxHeartbeats 8000000 in
theorem l02Part_fi (hha : Has P ν 262 2 V_spec_l01Has) (hix : Has P ν 376 2 V_spec_l01Index) (h : Has P ν 249 2 V_spec_l02Part) (c : Cat) (s : Shape c) (as : List Int) (hw : Wn as c.f.length) (hl : as.length ≤ 40) :
    Fi (OkM P ν) 249 [.agg c.cells, islice as] (.agg (subK c as).cells) := by
  refine OkM.mono (Φ := fun r H' nx' => ∃ lo hi, OwnK (subK c as) r H' lo hi) (h [.agg c.cells, islice as] hempty 0 _ rfl fun hwf => ?_) fun r H' nx' ⟨lo, hi, hO⟩ => hO.frz 3
  unfold V_spec_l02Part
  have n40 := s.n40
  have tl := s.tl
  have il := s.il
  have o8 := s.o8
  have o0 := s.o0
  try simp (disch := (first | rfl | with_reducible assumption | with_reducible solve_by_elim (maxDepth := 8) [Shape.inT, Shape.inI, Shape.inC, Shape.inK, Shape.obF, Shape.obT, Shape.arI, Arr.inF] | omega)) only [S2, Nat.reduceEqDiff, Nat.reduceAdd, iput, puts]
  refine den_newR fun H0 y0 e0 => ?_
  try simp (disch := (first | rfl | with_reducible assumption | with_reducible solve_by_elim (maxDepth := 8) [Shape.inT, Shape.inI, Shape.inC, Shape.inK, Shape.obF, Shape.obT, Shape.arI, Arr.inF] | omega)) only [S2, Nat.reduceEqDiff, Nat.reduceAdd, iput, puts]
  refine den_loop (α := Nat × AV) (fun a => [a.2, int a.1]) (fun a H' nx' => a.1 ≤ c.o.toNat ∧ IsI (obsL c as a.1) H0 1 a.2 H' nx') (fun a => c.o.toNat - a.1) (0, .nil) rfl ⟨Nat.zero_le _, by simpa [obsL, selL] using IsI.nil H0 1⟩ ?_
  rintro ⟨x, v⟩ H1 n1 ⟨hx, hI⟩
  simp only at hx hI
  have ol : (obsL c as x).length ≤ x := selL_len _ _
  by_cases hlx : (x : Int) < c.o
  · have ox : Ob c (x : Int) := ⟨by omega, hlx⟩
    have i1 : In c.i (x : Int) := s.inI ox
    have gE : gI c.i (x : Int) = c.I x := rfl
    have sc := obsL_succ c as x
    repeat (first | simp (disch := (first | rfl | with_reducible assumption | with_reducible solve_by_elim (maxDepth := 8) [Shape.inT, Shape.inI, Shape.inC, Shape.inK, Shape.obF, Shape.obT, Shape.arI, Arr.inF] | omega)) only [S2, Nat.reduceEqDiff, Nat.reduceAdd, iput, puts, hlx, gE] | (refine den_call rfl (by first | (simp only [SS, Nat.reduceEqDiff, Nat.reduceAdd, iput, puts, FF, frzL_cat]; done) | (simp only [SS, Nat.reduceEqDiff, Nat.reduceAdd, iput, puts, FF, frzL_cat]; rfl)) (by first | exact (l01Has_ok hha as (c.I x) (by omega)).fzb) ?_) | (refine den_calli rfl (by first | (simp only [SS, Nat.reduceEqDiff, Nat.reduceAdd, iput, puts, FF, frzL_cat]; done) | (simp only [SS, Nat.reduceEqDiff, Nat.reduceAdd, iput, puts, FF, frzL_cat]; rfl)) (by first | exact (l01Has_ok hha as (c.I x) (by omega)).fzb) ?_))
    refine ⟨fun e => ?_, fun e => ?_⟩
    · rw [if_pos e] at sc
      try simp (disch := (first | rfl | with_reducible assumption | with_reducible solve_by_elim (maxDepth := 8) [Shape.inT, Shape.inI, Shape.inC, Shape.inK, Shape.obF, Shape.obT, Shape.arI, Arr.inF] | omega)) only [S2, Nat.reduceEqDiff, Nat.reduceAdd, iput, puts]
      refine den_appI (m := [(x : Int)]) hI rfl (by simp) (by simp only [List.length_cons, List.length_nil]; omega) fun v2 H2 n2 hI2 => ?_
      try simp (disch := (first | rfl | with_reducible assumption | with_reducible solve_by_elim (maxDepth := 8) [Shape.inT, Shape.inI, Shape.inC, Shape.inK, Shape.obF, Shape.obT, Shape.arI, Arr.inF] | omega)) only [S2, Nat.reduceEqDiff, Nat.reduceAdd, iput, puts]
      refine ⟨(x + 1, v2), rfl, ⟨by omega, ?_⟩, by simp only; omega⟩
      simp only; rw [sc]; exact hI2
    · rw [if_neg e, List.append_nil] at sc
      try simp (disch := (first | rfl | with_reducible assumption | with_reducible solve_by_elim (maxDepth := 8) [Shape.inT, Shape.inI, Shape.inC, Shape.inK, Shape.obF, Shape.obT, Shape.arI, Arr.inF] | omega)) only [S2, Nat.reduceEqDiff, Nat.reduceAdd, iput, puts]
      refine ⟨(x + 1, v), rfl, ⟨by omega, ?_⟩, by simp only; omega⟩
      simp only; rw [sc]; exact hI
  · have hxe : x = c.o.toNat := by omega
    subst hxe
    have hI : IsI (objL c as) H0 1 v H1 n1 := hI
    have y1 := (hI.old (show 0 < 1 by omega)).trans y0
    have hn1 := hI.1
    have ol : (objL c as).length ≤ 8 := Nat.le_trans (selL_len _ _) (by omega)
    have objO : ∀ k, k < (objL c as).length → Ob c ((objL c as).getD k 0) := fun k hk => by
      obtain ⟨y, ey, hy, _⟩ := selL_mem (getD_mem hk)
      have ey : (objL c as).getD k 0 = (y : Int) := ey
      rw [ey]; exact ⟨by omega, by omega⟩
    have hv := hI.rd.weak (lim' := fun t => t < n1) fun t ht => ht.2
    have mk : ∀ k : Nat, pvf H1 (.mka [int 0, .nil, .nil, .nil, .nil] [(0, 1), (1, 1), (2, 1), (3, 1), (4, 1)]) [int (k : Int), .nil, .nil, .nil, .nil] = some (.agg [int (k : Int), .nil, .nil, .nil, .nil]) := fun k => rfl
    try simp (disch := (first | rfl | with_reducible assumption | with_reducible solve_by_elim (maxDepth := 8) [Shape.inT, Shape.inI, Shape.inC, Shape.inK, Shape.obF, Shape.obT, Shape.arI, Arr.inF] | omega)) only [S2, Nat.reduceEqDiff, Nat.reduceAdd, iput, puts, hlx, hv.len, mk]
    refine den_newR fun H3 x3 e3 => ?_
    refine den_stR (o := n1) (m := 5) (d := [int ((objL c as).length : Int), .nil, .nil, .nil, .nil]) rfl rfl x3 rfl rfl rfl fun H4 x4 e4 => ?_
    have y1 := ((e4 0 (by omega)).trans (e3 _ (by omega))).trans y1
    have hv := hv.kept (H' := H4) fun t ht => (e4 t (by omega)).trans (e3 t ht)
    have out := Out3.start x4 (Nat.le_refl _)
    try simp (disch := (first | rfl | with_reducible assumption | with_reducible solve_by_elim (maxDepth := 8) [Shape.inT, Shape.inI, Shape.inC, Shape.inK, Shape.obF, Shape.obT, Shape.arI, Arr.inF] | omega)) only [S2, Nat.reduceEqDiff, Nat.reduceAdd, iput, puts]
    -- the identities
    refine den_loop (α := Nat × AV × Option Nat) (fun a => [int a.1]) (fun a H' nx' => a.1 ≤ (objL c as).length ∧ Out3 n1 (objL c as).length [] [] (((objL c as).take a.1).map fun x => idxI as (c.I x)) [] .nil .nil a.2.1 .nil none none a.2.2 H' n1 nx' ∧ Rd H' (fun t => t < n1) v (objL c as) ∧ H' 0 = some [int 0, .nil, .nil, .nil, .nil]) (fun a => (objL c as).length - a.1) (0, .nil, none) rfl ⟨Nat.zero_le _, by simpa using out, hv, y1⟩ ?_
    rintro ⟨i, d, s3⟩ H4 n4 ⟨hi, out, hv, y1⟩
    simp only at hi out
    by_cases hli : i < (objL c as).length
    · have j1 : In (objL c as) (i : Int) := In.nat hli
      obtain ⟨p, p1, p2⟩ := hv.rd j1
      have ox : Ob c (gI (objL c as) i) := objO i hli
      have tk := take_succ_at hli
      rw [show (objL c as).getD i 0 = gI (objL c as) i from rfl] at tk
      generalize gI (objL c as) i = x at p2 ox tk
      have i1 : In c.i x := s.inI ox
      have gE : gI c.i x = c.I x := rfl
      have tl' : ((objL c as).take i).length ≤ 8 := by rw [List.length_take]; omega
      repeat (first | simp (disch := (first | rfl | with_reducible assumption | with_reducible solve_by_elim (maxDepth := 8) [Shape.inT, Shape.inI, Shape.inC, Shape.inK, Shape.obF, Shape.obT, Shape.arI, Arr.inF] | omega)) only [S2, Nat.reduceEqDiff, Nat.reduceAdd, iput, puts, hli, hv.len, p1, p2, gE, p_fadm (l := 5) out.obj rfl, p_ldm (n := 5) out.obj rfl] | (refine den_call rfl (by first | (simp only [SS, Nat.reduceEqDiff, Nat.reduceAdd, iput, puts, FF, frzL_cat]; done) | (simp only [SS, Nat.reduceEqDiff, Nat.reduceAdd, iput, puts, FF, frzL_cat]; rfl)) (by first | exact l01Index_fz hix as (c.I x) (by omega)) ?_) | (refine den_calli rfl (by first | (simp only [SS, Nat.reduceEqDiff, Nat.reduceAdd, iput, puts, FF, frzL_cat]; done) | (simp only [SS, Nat.reduceEqDiff, Nat.reduceAdd, iput, puts, FF, frzL_cat]; rfl)) (by first | exact l01Index_fz hix as (c.I x) (by omega)) ?_))
      refine den_out3 (m := [idxI as (c.I x)]) out (Nat.le_refl _) rfl rfl rfl (by omega) rfl rfl (by simp) (by simp only [List.length_cons, List.length_nil, List.length_map]; omega) fun v7 H7 n7 out7 hn7 keep7 => ?_
      have low : ∀ t, t < n1 → H7 t = H4 t := fun t ht => by
        have := out.qh
        exact keep7 t (by omega) (by omega) fun ee => by have := out.r3 t ee; omega
      try simp (disch := (first | rfl | with_reducible assumption | with_reducible solve_by_elim (maxDepth := 8) [Shape.inT, Shape.inI, Shape.inC, Shape.inK, Shape.obF, Shape.obT, Shape.arI, Arr.inF] | omega)) only [S2, Nat.reduceEqDiff, Nat.reduceAdd, iput, puts]
      refine ⟨(i + 1, v7, some (s3.getD n4)), rfl, ⟨hli, ?_, hv.kept low, ?_⟩, by simp only; omega⟩
      · simp only
        rw [tk, List.map_append]
        exact out7
      · rw [low 0 (by omega)]; exact y1
    · have hie : i = (objL c as).length := by omega
      subst hie
      rw [List.take_length] at out
      try simp (disch := (first | rfl | with_reducible assumption | with_reducible solve_by_elim (maxDepth := 8) [Shape.inT, Shape.inI, Shape.inC, Shape.inK, Shape.obF, Shape.obT, Shape.arI, Arr.inF] | omega)) only [S2, Nat.reduceEqDiff, Nat.reduceAdd, iput, puts, hli, hv.len]
      refine den_loop (α := Nat × (AV × AV × AV) × (Option Nat × Option Nat)) (fun a => [int a.1]) (fun a H' nx' => a.1 ≤ as.length ∧ Out3 n1 (objL c as).length ((as.take a.1).map fun f => idxI (objL c as) (c.F f)) ((as.take a.1).map fun f => idxI (objL c as) (c.T f)) ((objL c as).map fun x => idxI as (c.I x)) ((as.take a.1).map fun f => as.map fun g => idxI as (c.K f g)) a.2.1.1 a.2.1.2.1 d a.2.1.2.2 a.2.2.1 a.2.2.2 s3 H' n1 nx' ∧ Rd H' (fun t => t < n1) v (objL c as) ∧ H' 0 = some [int 0, .nil, .nil, .nil, .nil]) (fun a => as.length - a.1) (0, (.nil, .nil, .nil), none, none) rfl ⟨Nat.zero_le _, by simpa using out, hv, y1⟩ ?_
      rintro ⟨i, ⟨a, b, e⟩, s1, s2⟩ H5 n5 ⟨hi, out, hv, y1⟩
      simp only at hi out
      by_cases hli : i < as.length
      · have i1 : In as (i : Int) := In.nat hli
        have af : Arr c (gI as i) := hw i hli
        have tk := take_succ_at hli
        rw [show as.getD i 0 = gI as i from rfl] at tk
        generalize hg : gI as i = f at af tk
        have if1 : In c.f f := af.inF
        have if2 : In c.t f := s.inT af
        have if3 : InR c.c f := s.inC af
        have gF : gI c.f f = c.F f := rfl
        have gT : gI c.t f = c.T f := rfl
        have tl' : (as.take i).length ≤ 40 := by rw [List.length_take]; omega
        have qh := out.qh
        try simp (disch := (first | rfl | with_reducible assumption | with_reducible solve_by_elim (maxDepth := 8) [Shape.inT, Shape.inI, Shape.inC, Shape.inK, Shape.obF, Shape.obT, Shape.arI, Arr.inF] | omega)) only [S2, Nat.reduceEqDiff, Nat.reduceAdd, iput, puts, hli, hg, gF, p_fadm (l := 5) out.obj rfl, p_ldm (n := 5) out.obj rfl]
        refine den_call (fc := (376, [])) (ys := [islice (objL c as), int (c.F f)]) rfl (by simp only [SS, Nat.reduceEqDiff, Nat.reduceAdd, iput, puts, FF, frzL_cat, hv.frzL]) (l01Index_fz hix (objL c as) (c.F f) (by omega)) ?_
        try simp (disch := (first | rfl | with_reducible assumption | with_reducible solve_by_elim (maxDepth := 8) [Shape.inT, Shape.inI, Shape.inC, Shape.inK, Shape.obF, Shape.obT, Shape.arI, Arr.inF] | omega)) only [S2, Nat.reduceEqDiff, Nat.reduceAdd, iput, puts]
        refine den_out1 (m := [idxI (objL c as) (c.F f)]) out (Nat.le_refl _) rfl rfl rfl (by omega) rfl rfl (by simp) (by simp only [List.length_cons, List.length_nil, List.length_map]; omega) fun a6 H6 n6 out6 hn6 keep6 => ?_
        have low6 : ∀ t, t < n1 → H6 t = H5 t := fun t ht => keep6 t (by omega) (by omega) fun ee => by have := out.r1 t ee; omega
        have hv6 := hv.kept low6
        have y6 := (low6 0 (by omega)).trans y1
        try simp (disch := (first | rfl | with_reducible assumption | with_reducible solve_by_elim (maxDepth := 8) [Shape.inT, Shape.inI, Shape.inC, Shape.inK, Shape.obF, Shape.obT, Shape.arI, Arr.inF] | omega)) only [S2, Nat.reduceEqDiff, Nat.reduceAdd, iput, puts, hg, gT, p_fadm (l := 5) out6.obj rfl, p_ldm (n := 5) out6.obj rfl]
        refine den_call (fc := (376, [])) (ys := [islice (objL c as), int (c.T f)]) rfl (by simp only [SS, Nat.reduceEqDiff, Nat.reduceAdd, iput, puts, FF, frzL_cat, hv6.frzL]) (l01Index_fz hix (objL c as) (c.T f) (by omega)) ?_
        try simp (disch := (first | rfl | with_reducible assumption | with_reducible solve_by_elim (maxDepth := 8) [Shape.inT, Shape.inI, Shape.inC, Shape.inK, Shape.obF, Shape.obT, Shape.arI, Arr.inF] | omega)) only [S2, Nat.reduceEqDiff, Nat.reduceAdd, iput, puts]
        refine den_out2 (m := [idxI (objL c as) (c.T f)]) out6 (Nat.le_refl _) rfl rfl rfl (by omega) rfl rfl (by simp) (by simp only [List.length_cons, List.length_nil, List.length_map]; omega) fun b7 H7 n7 out7 hn7 keep7 => ?_
        have low7 : ∀ t, t < n1 → H7 t = H6 t := fun t ht => keep7 t (by omega) (by omega) fun ee => by have := out6.r2 t ee; omega
        have hv7 := hv6.kept low7
        have y7 := (low7 0 (by omega)).trans y6
        try simp (disch := (first | rfl | with_reducible assumption | with_reducible solve_by_elim (maxDepth := 8) [Shape.inT, Shape.inI, Shape.inC, Shape.inK, Shape.obF, Shape.obT, Shape.arI, Arr.inF] | omega)) only [S2, Nat.reduceEqDiff, Nat.reduceAdd, iput, puts]
        refine den_loop (α := Nat × AV) (fun a => [a.2, int a.1]) (fun a H' nx' => a.1 ≤ as.length ∧ IsI ((as.take a.1).map fun g => idxI as (c.K f g)) H7 n7 a.2 H' nx') (fun a => as.length - a.1) (0, .nil) rfl ⟨Nat.zero_le _, IsI.nil _ _⟩ ?_
        rintro ⟨j, v8⟩ H8 n8 ⟨hj, hI⟩
        simp only at hj hI
        by_cases hlj : j < as.length
        · have j1 : In as (j : Int) := In.nat hlj
          have ag : Arr c (gI as j) := hw j hlj
          have tkj := take_succ_at hlj
          rw [show as.getD j 0 = gI as j from rfl] at tkj
          generalize hgj : gI as j = g at ag tkj
          have iK := s.inK af ag
          have gK : gI (gR c.c f) g = c.K f g := rfl
          have tl8 : ((as.take j).map fun g => idxI as (c.K f g)).length ≤ 40 := by rw [List.length_map, List.length_take]; omega
          repeat (first | simp (disch := (first | rfl | with_reducible assumption | with_reducible solve_by_elim (maxDepth := 8) [Shape.inT, Shape.inI, Shape.inC, Shape.inK, Shape.obF, Shape.obT, Shape.arI, Arr.inF] | omega)) only [S2, Nat.reduceEqDiff, Nat.reduceAdd, iput, puts, hlj, hg, hgj, gK] | (refine den_call rfl (by first | (simp only [SS, Nat.reduceEqDiff, Nat.reduceAdd, iput, puts, FF, frzL_cat]; done) | (simp only [SS, Nat.reduceEqDiff, Nat.reduceAdd, iput, puts, FF, frzL_cat]; rfl)) (by first | exact l01Index_fz hix as (c.K f g) (by omega)) ?_) | (refine den_calli rfl (by first | (simp only [SS, Nat.reduceEqDiff, Nat.reduceAdd, iput, puts, FF, frzL_cat]; done) | (simp only [SS, Nat.reduceEqDiff, Nat.reduceAdd, iput, puts, FF, frzL_cat]; rfl)) (by first | exact l01Index_fz hix as (c.K f g) (by omega)) ?_))
          refine den_appI (m := [idxI as (c.K f g)]) hI rfl (by simp) (by simp only [List.length_cons, List.length_nil]; omega) fun v9 H9 n9 hI9 => ?_
          try simp (disch := (first | rfl | with_reducible assumption | with_reducible solve_by_elim (maxDepth := 8) [Shape.inT, Shape.inI, Shape.inC, Shape.inK, Shape.obF, Shape.obT, Shape.arI, Arr.inF] | omega)) only [S2, Nat.reduceEqDiff, Nat.reduceAdd, iput, puts]
          refine ⟨(j + 1, v9), rfl, ⟨hlj, ?_⟩, by simp only; omega⟩
          simp only
          rw [tkj, List.map_append]
          exact hI9
        · have hje : j = as.length := by omega
          subst hje
          rw [List.take_length] at hI
          have hn8 := hI.1
          have out8 := out7.mono (H' := H8) (Nat.le_refl _) fun t _ h2 => hI.old h2
          have q7 := out7.qh
          have hv8 := hv7.kept (H' := H8) fun t ht => hI.old (by omega)
          have y8 := (hI.old (show 0 < n7 by omega)).trans y7
          have ow : Own1 (as.map fun g => idxI as (c.K f g)) v8 H8 n7 n8 := by
            obtain ⟨_, ⟨q1, q2, _⟩ | ⟨o, q1, q2, q3, q4⟩⟩ := hI
            · exact .inl ⟨q1, q2⟩
            · exact .inr ⟨o, q1, q2, q3, by rw [q4]; exact hput_eq _ _ _⟩
          try simp (disch := (first | rfl | with_reducible assumption | with_reducible solve_by_elim (maxDepth := 8) [Shape.inT, Shape.inI, Shape.inC, Shape.inK, Shape.obF, Shape.obT, Shape.arI, Arr.inF] | omega)) only [S2, Nat.reduceEqDiff, Nat.reduceAdd, iput, puts, hlj, p_fadm (l := 5) out8.obj rfl, p_ldm (n := 5) out8.obj rfl]
          refine den_outR (l := as.map fun g => idxI as (c.K f g)) out8 rfl (fun _ => rfl) rfl (by omega) rfl rfl (by rw [List.length_map, List.length_take]; omega) hn8 ow fun e9 H9 n9 out9 hn9 low9 => ?_
          try simp (disch := (first | rfl | with_reducible assumption | with_reducible solve_by_elim (maxDepth := 8) [Shape.inT, Shape.inI, Shape.inC, Shape.inK, Shape.obF, Shape.obT, Shape.arI, Arr.inF] | omega)) only [S2, Nat.reduceEqDiff, Nat.reduceAdd, iput, puts]
          refine ⟨(i + 1, (a6, b7, e9), some (s1.getD n5), some (s2.getD n6)), rfl, ⟨hli, ?_, hv8.kept low9, ?_⟩, by simp only; omega⟩
          · simp only
            rw [tk, List.map_append, List.map_append, List.map_append]
            exact out9
          · rw [low9 _ (by omega)]; exact y8
      · have hie : i = as.length := by omega
        subst hie
        rw [List.take_length] at out
        have qh := out.qh
        try simp (disch := (first | rfl | with_reducible assumption | with_reducible solve_by_elim (maxDepth := 8) [Shape.inT, Shape.inI, Shape.inC, Shape.inK, Shape.obF, Shape.obT, Shape.arI, Arr.inF] | omega)) only [S2, Nat.reduceEqDiff, Nat.reduceAdd, iput, puts, hli, p_ldsm (l := 5) out.obj rfl]
        refine den_stR (o := 0) (m := 5) (d := [int ((objL c as).length : Int), a, b, d, e]) rfl rfl y1 rfl rfl out.ones fun H9 y9 e9 => ?_
        have out9 := out.mono (H' := H9) (Nat.le_refl _) fun t h1 _ => e9 t (by omega)
        refine ⟨_, ?_, H9, fun _ _ h => h, n1, n5, out9.own⟩
        simp only [retOf, rets, SS, Nat.reduceEqDiff, Nat.reduceAdd, iput, puts, pLd, y9]
        rfl
end Go.Av
