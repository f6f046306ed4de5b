/-
  The least subcategory by a queue: the program's walk.
-/
import Derived.Test.YtalfoffamemfnaaAvG1
import Derived.Test.YtalfoffamemfnaaAvJ2
namespace Go.Av
open Classical
set_option linter.unusedSimpArgs false
set_option linter.unusedVariables false
variable {P : Program} {ν : Nat → FuncId}

theorem gn_some (H0 : Hp) (nx n : Nat) (L : List Bool) (Q : List Nat) (h : L.length = n) : ∃ H hi, Gn H0 nx n L Q H hi := by
  refine ⟨hput (hput (hput (hput H0 nx (some (bools L))) (nx + 1) (some [.ms nx 0 n 1])) (nx + 2) (some [.ms (nx + 3) 0 Q.length 1])) (nx + 3) (some (nats Q)), nx + 4, h, ?_, ?_, ⟨_, ?_, .inr ⟨nx + 3, 0, nats Q, rfl, Nat.le_refl _, by omega, hput_eq _ _ _, by simp [nats], rfl⟩⟩, by omega, fun o ho => ?_⟩
  · rw [hput_ne _ _ _ _ (by omega), hput_ne _ _ _ _ (by omega), hput_ne _ _ _ _ (by omega), hput_eq]
  · rw [hput_ne _ _ _ _ (by omega), hput_ne _ _ _ _ (by omega), hput_eq]
  · rw [hput_ne _ _ _ _ (by omega), hput_eq]
  · rw [hput_ne _ _ _ _ (by omega), hput_ne _ _ _ _ (by omega), hput_ne _ _ _ _ (by omega), hput_ne _ _ _ _ (by omega)]

theorem TV.head {H : Hp} {lo hi : Nat} {tv : AV} {k : Nat} {Q : List Nat} (h : TV H lo hi tv (k :: Q)) : ∃ o off len, pvf H (.iad 1) [tv, int 0] = some (.mp o off len) ∧ pvf H (.ld none) [.mp o off len] = some (int k) := by
  rcases h with ⟨_, h⟩ | ⟨o, off, cells, rfl, h2, h3, h4, h5, h6⟩
  · cases h
  · refine ⟨o, off, cells.length, ?_, ?_⟩
    · simp only [List.length_cons] at h5
      simp [pvf, pIad, h4, h5, int]
    · have e : cells[off]? = some (int k) := by
        have := congrArg (·[0]?) h6
        simpa [nats] using this
      simp [pvf, pLd, h4, e]
section
variable {C : Ct} {Φ : AV → Hp → Nat → Prop} {n : Nat} {vars : Nat → AV} {H : Hp} {nx : Nat} {Is : Nat → Inv} {r : Vc}
theorem den_rest {x y : Opd} {lo k : Nat} {tv : AV} {Q : List Nat} (ht : TV H lo nx tv (k :: Q)) (hx : ev vars x = tv) (hy : ev vars y = int 1) (hk : ∀ tv', TV H lo nx tv' Q → tv'.one = true → den C Φ r (n + 1) (put vars n tv') H nx Is) : den C Φ (.op true (.alt (.slm 1) [x, y]) r) n vars H nx Is := by
  rcases ht with ⟨_, h⟩ | ⟨o, off, cells, rfl, h2, h3, h4, h5, h6⟩
  · cases h
  · have hd : cells.drop (off + 1) = nats Q := by
      have := congrArg (·.drop 1) h6
      simpa [nats] using this
    simp only [List.length_cons] at h5
    refine den_alt (l := (.ms o (off + 1) Q.length 1, H, nx) :: (if 1 = Q.length + 1 then [(.nil, H, nx)] else [])) ?_ (by simp) fun q hq => ?_
    · simp only [List.map_cons, List.map_nil, hx, hy, altTo, int, if_true, h4, List.length_cons]
      rw [if_pos ⟨by omega, by omega, by omega⟩]
      rfl
    · rcases List.mem_cons.1 hq with rfl | hq
      · exact hk _ (.inr ⟨o, off + 1, cells, rfl, h2, h3, h4, by omega, hd⟩) rfl
      · split at hq
        · rename_i e
          rw [List.mem_singleton] at hq
          subst hq
          exact hk _ (.inl ⟨rfl, List.eq_nil_of_length_eq_zero (by omega)⟩) rfl
        · cases hq
end

def V_marked : Vc :=
  .op true (.p (.msl 0 [] []) []) <|
  .op true (.p .len [.t 0]) <|
  .loop 0 [.t 1, .c (int 0)] <|
  .op true (.p (.bin .lss) [.t 4, .t 2]) <|
  .br 5
   (.op true (.p (.iad 1) [.t 0, .t 4]) <|
   .op true (.p (.ld none) [.t 6]) <|
   .br 7
    (.op true (.p (.msl 1 [int 0] [(0, 1)]) [.t 4]) <|
    .op true (.app 1 (.t 3) (.t 8)) <|
    .op true (.p (.bin .add) [.t 4, .c (int 1)]) <|
    .again 0 [.t 9, .t 10])
    (.op true (.p (.bin .add) [.t 4, .c (int 1)]) <|
    .again 0 [.t 3, .t 8]))
   (.ret [(.t 3, none)])
theorem marked_ok (h : Has P ν 390 1 V_marked) (L : List Bool) (hl : L.length ≤ 1048576) (H : Hp) (nx : Nat) : OkM P ν 390 [.sl (bools L) L.length] H nx (IsI (selL L.length fun f => L.getD f false) H nx) := by
  refine h _ _ _ _ rfl fun hwf => ?_
  unfold V_marked
  simp only [SS, Nat.reduceEqDiff, Nat.reduceAdd, iput, puts]
  refine den_sel L.length (fun f => L.getD f false) H nx rfl (Nat.le_refl _) rfl fun i v H' nx' hi hI => ?_
  have hll := selL_len i fun f => L.getD f false
  by_cases hlt : i < L.length
  · simp only [SS, Nat.reduceEqDiff, Nat.reduceAdd, iput, puts, bools_get, hlt, wrap_succ (show i < 9223372036854775807 by omega)]
    refine ⟨fun q => ?_, fun q => sel_skip rfl hlt q hI⟩
    refine den_appI (m := [(i : Int)]) (H0 := H) (nx0 := nx) hI rfl (by simp) (by rw [List.length_singleton]; omega) fun v2 H2 nx2 hI2 => ?_
    simp only [SS, Nat.reduceEqDiff, Nat.reduceAdd, iput, puts, wrap_succ (show i < 9223372036854775807 by omega)]
    exact sel_take rfl hlt q hI2
  · have : i = L.length := by omega
    subst this
    simp only [SS, Nat.reduceEqDiff, Nat.reduceAdd, iput, puts, hlt]
    exact ⟨v, rfl, H', fun _ _ h => h, hI⟩

theorem frzL_bools {H : Hp} {o n : Nat} {L : List Bool} (h : H o = some (bools L)) (hl : L.length = n) : frzL H [.ms o 0 n 1] = some [.sl (bools L) L.length] := by
  have : ∀ k, (bools L).mapM (Av.frz H k) = some (bools L) := fun k => frz_stills (by simp [bools, AV.still, bool])
  simp only [frzL, List.mapM_cons, List.mapM_nil, fuel, frz, h, bools_len, hl, Nat.zero_add, Nat.mul_one, if_true, this]
  rfl

/-- The state while arrow x is worked off. -/
structure GV (c : Cat) (as : List Int) (H0 : Hp) (nx x m : Nat) (L : List Bool) (Q : List Nat) (H : Hp) (hi : Nat) : Prop where
  n : Gn H0 nx c.f.length L Q H hi
  i : GI c as L Q
  w : GW c L Q x
  a : ∀ k, k < as.length → Mk L (as.getD k 0)
  x : L.getD x false = true
  m : Q.length + 2 * falses L ≤ m

theorem GV.add {c : Cat} {as : List Int} {H0 : Hp} {nx x m : Nat} {L : List Bool} {Q : List Nat} {H H' : Hp} {hi hi' : Nat} (v : GV c as H0 nx x m L Q H hi) {y : Int} (hy : y < c.f.length) (hc : 0 ≤ y → Cl c as y) (g : Gn H0 nx c.f.length (addL L y) (addQ L Q y) H' hi') : GV c as H0 nx x m (addL L y) (addQ L Q y) H' hi' := by
  have hy' : y < L.length := by rw [v.i.len]; exact hy
  exact ⟨g, v.i.add hy hc, v.w.add hy', fun k hk => (v.a k hk).add hy', mk_add hy' v.x, Nat.le_trans (mu_add hy').1 v.m⟩
theorem gn_ex {H0 : Hp} {nx n : Nat} {L L' : List Bool} {Q' : List Nat} (h1 : L'.length = L.length) (h2 : L.length = n) : ∃ u H' hi', u = (.tup [] : AV) ∧ Gn H0 nx n L' Q' H' hi' := by
  obtain ⟨H, hi, g⟩ := gn_some H0 nx n L' Q' (h1.trans h2)
  exact ⟨_, H, hi, rfl, g⟩

def V_Category_generated : Vc :=
  .op true (.call (.f 26) [.t 0]) <|
  .op true (.mks [bool false] (.t 2) (.t 2)) <|
  .op true (.new [.nil]) <|
  .op true (.st 1 (.t 4) (.t 3)) <|
  .op true (.p (.msl 0 [] []) []) <|
  .op true (.new [.nil]) <|
  .op true (.st 1 (.t 7) (.t 6)) <|
  .op true (.p (.mkf 389) [.t 4, .t 7]) <|
  .op true (.p .len [.t 1]) <|
  .loop 0 [.c (int 0)] <|
  .op true (.p (.bin .lss) [.t 11, .t 10]) <|
  .br 12
   (.op true (.p (.iad 1) [.t 1, .t 11]) <|
   .op true (.p (.ld none) [.t 13]) <|
   .op true (.callm (.t 9) [.t 14]) <|
   .op true (.p (.bin .add) [.t 11, .c (int 1)]) <|
   .again 0 [.t 16])
   (.loop 0 [] <|
   .op true (.p (.ld none) [.t 7]) <|
   .op true (.p .len [.t 13]) <|
   .op true (.p (.bin .gtr) [.t 14, .c (int 0)]) <|
   .br 15
    (.op true (.p (.ld none) [.t 7]) <|
    .op true (.p (.iad 1) [.t 16, .c (int 0)]) <|
    .op true (.p (.ld none) [.t 17]) <|
    .op true (.p (.ld none) [.t 7]) <|
    .op true (.alt (.slm 1) [.t 19, .c (int 1)]) <|
    .op true (.st 1 (.t 7) (.t 20)) <|
    .op true (.p .nck [.t 0]) <|
    .op true (.p (.fad 3) [.t 22]) <|
    .op true (.p (.ld none) [.t 23]) <|
    .op true (.p .nck [.t 0]) <|
    .op true (.p (.fad 1) [.t 25]) <|
    .op true (.p (.ld none) [.t 26]) <|
    .op true (.p (.iad 1) [.t 27, .t 18]) <|
    .op true (.p (.ld none) [.t 28]) <|
    .op true (.p (.iad 1) [.t 24, .t 29]) <|
    .op true (.p (.ld none) [.t 30]) <|
    .op true (.callm (.t 9) [.t 31]) <|
    .op true (.p .nck [.t 0]) <|
    .op true (.p (.fad 3) [.t 33]) <|
    .op true (.p (.ld none) [.t 34]) <|
    .op true (.p .nck [.t 0]) <|
    .op true (.p (.fad 2) [.t 36]) <|
    .op true (.p (.ld none) [.t 37]) <|
    .op true (.p (.iad 1) [.t 38, .t 18]) <|
    .op true (.p (.ld none) [.t 39]) <|
    .op true (.p (.iad 1) [.t 35, .t 40]) <|
    .op true (.p (.ld none) [.t 41]) <|
    .op true (.callm (.t 9) [.t 42]) <|
    .op true (.p (.ld none) [.t 4]) <|
    .op true (.p .len [.t 44]) <|
    .loop 1 [.c (int 0)] <|
    .op true (.p (.bin .lss) [.t 46, .t 45]) <|
    .br 47
     (.op true (.p (.ld none) [.t 4]) <|
     .op true (.p (.iad 1) [.t 48, .t 46]) <|
     .op true (.p (.ld none) [.t 49]) <|
     .br 50
      (.op true (.call (.f 34) [.t 0, .t 18, .t 46]) <|
      .op true (.callm (.t 9) [.t 51]) <|
      .op true (.call (.f 34) [.t 0, .t 46, .t 18]) <|
      .op true (.callm (.t 9) [.t 53]) <|
      .op true (.p (.bin .add) [.t 46, .c (int 1)]) <|
      .again 1 [.t 55])
      (.op true (.p (.bin .add) [.t 46, .c (int 1)]) <|
      .again 1 [.t 51]))
     (.again 0 []))
    (.op true (.p (.ld none) [.t 4]) <|
    .op true (.callo (.f 390) [.t 16]) <|
    .ret [(.t 17, none)]))
set_option maxHeartbeats 4000000 in
theorem generated_ok (har : Has P ν 26 1 V_Category_arrows) (hth : Has P ν 34 3 V_Category_then) (hm : Has P ν 390 1 V_marked) (hq : Has P ν 389 3 V_Category_generated_1) (h : Has P ν 277 2 V_Category_generated) (c : Cat) (s : Shape c) (as : List Int) (hl : as.length ≤ 1048576) (hw : Wn as c.f.length) (H : Hp) (nx : Nat) :
    OkM P ν 277 [.ptr c.cells 0, islice as] H nx (IsI (selL c.f.length fun f => decide (Cl c as f)) H nx) := by
  refine h _ _ _ _ rfl fun hwf => ?_
  unfold V_Category_generated
  have n40 := s.n40
  have tl := s.tl
  repeat (first | simp (disch := (first | rfl | with_reducible assumption | with_reducible solve_by_elim (maxDepth := 8) [Shape.inT, Shape.inI, Shape.inC, Shape.inK, Shape.obF, Shape.obT, Shape.arI, Arr.inF] | omega)) only [S2, Nat.reduceEqDiff, Nat.reduceAdd, iput, puts] | (refine den_call rfl (by first | (simp only [SS, Nat.reduceEqDiff, Nat.reduceAdd, iput, puts, FF, frzL_cat]; done) | (simp only [SS, Nat.reduceEqDiff, Nat.reduceAdd, iput, puts, FF, frzL_cat]; rfl)) (by first | exact (arrows_ok har c).fzi) ?_) | (refine den_calli rfl (by first | (simp only [SS, Nat.reduceEqDiff, Nat.reduceAdd, iput, puts, FF, frzL_cat]; done) | (simp only [SS, Nat.reduceEqDiff, Nat.reduceAdd, iput, puts, FF, frzL_cat]; rfl)) (by first | exact (arrows_ok har c).fzi) ?_))
  refine den_mkB (m := c.f.length) rfl rfl (by omega) ?_
  have r0 : hput H nx (some (bools (List.replicate c.f.length false))) nx = some (bools (List.replicate c.f.length false)) := hput_eq _ _ _
  have o0 : ∀ o, o < nx → hput H nx (some (bools (List.replicate c.f.length false))) o = H o := fun o ho => hput_ne _ _ _ _ (by omega)
  generalize hput H nx (some (bools (List.replicate c.f.length false))) = H1 at r0 o0
  refine den_newG fun H2 a2 e2 => ?_
  refine den_st1G (o := nx + 1) (p := 0) (m := 1) (u := .ms nx 0 c.f.length 1) rfl rfl a2 rfl (by omega) rfl fun H3 a3 e3 => ?_
  try simp (disch := (first | rfl | with_reducible assumption | with_reducible solve_by_elim (maxDepth := 8) [Shape.inT, Shape.inI, Shape.inC, Shape.inK, Shape.obF, Shape.obT, Shape.arI, Arr.inF] | omega)) only [S2, Nat.reduceEqDiff, Nat.reduceAdd, iput, puts]
  refine den_newG fun H4 b4 e4 => ?_
  refine den_st1G (o := nx + 2) (p := 0) (m := 1) (u := .nil) rfl rfl b4 rfl (by omega) rfl fun H5 b5 e5 => ?_
  have g0 : Gn H nx c.f.length (List.replicate c.f.length false) [] H5 (nx + 3) := by
    refine ⟨by simp, ?_, ?_, ⟨_, b5, .inl ⟨rfl, rfl⟩⟩, Nat.le_refl _, fun o ho => ?_⟩
    · rw [e5 _ (by omega), e4 _ (by omega), e3 _ (by omega), e2 _ (by omega)]; exact r0
    · rw [e5 _ (by omega), e4 _ (by omega)]; exact a3
    · rw [e5 _ (by omega), e4 _ (by omega), e3 _ (by omega), e2 _ (by omega)]; exact o0 o ho
  have i0 : GI c as (List.replicate c.f.length false) [] := by
    refine ⟨by simp, fun f hf => (by rw [getD_rep] at hf; cases hf), (fun x hx => by cases hx), ?_⟩
    simp [falses]
  have mk : ∀ H : Hp, pvf H (.mkf 389) [.mp (nx + 1) 0 1, .mp (nx + 2) 0 1] = some (.fn 389 [.mp (nx + 1) 0 1, .mp (nx + 2) 0 1]) := fun _ => rfl
  try simp (disch := (first | rfl | with_reducible assumption | with_reducible solve_by_elim (maxDepth := 8) [Shape.inT, Shape.inI, Shape.inC, Shape.inK, Shape.obF, Shape.obT, Shape.arI, Arr.inF] | omega)) only [S2, Nat.reduceEqDiff, Nat.reduceAdd, iput, puts, mk]
  refine den_loop (α := Nat × List Bool × List Nat) (fun a => [int a.1]) (fun a H' hi => a.1 ≤ as.length ∧ Gn H nx c.f.length a.2.1 a.2.2 H' hi ∧ GI c as a.2.1 a.2.2 ∧ (∀ f, ¬ Dn a.2.1 a.2.2 f) ∧ ∀ k, k < a.1 → Mk a.2.1 (as.getD k 0)) (fun a => as.length - a.1) (0, List.replicate c.f.length false, []) rfl
    ⟨Nat.zero_le _, g0, i0, fun f hf => (by have := hf.1; rw [getD_rep] at this; cases this), fun k hk => absurd hk (Nat.not_lt_zero k)⟩ ?_
  rintro ⟨i, L, Q⟩ H' hi ⟨hi1, g, gi, nd, ma⟩
  simp only at hi1 g gi nd ma
  by_cases hlt : i < as.length
  · have w := hw i hlt
    have inw : In as i := In.nat hlt
    have hyl : as.getD i 0 < (L.length : Int) := by rw [gi.len]; exact w.2
    try simp (disch := (first | rfl | with_reducible assumption | with_reducible solve_by_elim (maxDepth := 8) [Shape.inT, Shape.inI, Shape.inC, Shape.inK, Shape.obF, Shape.obT, Shape.arI, Arr.inF] | omega)) only [S2, Nat.reduceEqDiff, Nat.reduceAdd, iput, puts, hlt, gI_nat]
    refine den_callm (fc := (389, [.mp (nx + 1) 0 1, .mp (nx + 2) 0 1])) rfl (add_ok hq g (as.getD i 0) w.2 (by have := gi.cnt; omega)) (gn_ex addL_len gi.len) fun u H6 hi6 hu => ?_
    obtain ⟨rfl, g6⟩ := hu
    try simp (disch := (first | rfl | with_reducible assumption | with_reducible solve_by_elim (maxDepth := 8) [Shape.inT, Shape.inI, Shape.inC, Shape.inK, Shape.obF, Shape.obT, Shape.arI, Arr.inF] | omega)) only [S2, Nat.reduceEqDiff, Nat.reduceAdd, iput, puts, wrap_succ (show i < 9223372036854775807 by omega)]
    refine ⟨(i + 1, addL L (as.getD i 0), addQ L Q (as.getD i 0)), rfl, ⟨by simp only; omega, g6, gi.add w.2 fun _ => Cl.arr i hlt, fun f hf => nd f ((dn_add hyl).1 hf), fun k hk => ?_⟩, by simp only; omega⟩
    by_cases e : k = i
    · subst e; exact mk_new hyl w.1
    · exact (ma k (by simp only at hk; omega)).add hyl
  · have : i = as.length := by omega
    subst this
    try simp (disch := (first | rfl | with_reducible assumption | with_reducible solve_by_elim (maxDepth := 8) [Shape.inT, Shape.inI, Shape.inC, Shape.inK, Shape.obF, Shape.obT, Shape.arI, Arr.inF] | omega)) only [S2, Nat.reduceEqDiff, Nat.reduceAdd, iput, puts, hlt]
    refine den_loop (α := List Bool × List Nat) (fun a => []) (fun a H' hi => Gn H nx c.f.length a.1 a.2 H' hi ∧ GI c as a.1 a.2 ∧ GC c a.1 a.2 ∧ ∀ k, k < as.length → Mk a.1 (as.getD k 0)) (fun a => a.2.length + 2 * falses a.1) (L, Q) rfl
      ⟨g, gi, ⟨fun f hf => absurd hf (nd f), fun f g hf => absurd hf (nd f)⟩, ma⟩ ?_
    clear g gi nd ma
    rintro ⟨L, Q⟩ H' hi ⟨g, gi, gc, ma⟩
    simp only at g gi gc ma
    obtain ⟨tv, hb, ht⟩ := g.b
    cases Q with
    | nil =>
      try simp (disch := (first | rfl | with_reducible assumption | with_reducible solve_by_elim (maxDepth := 8) [Shape.inT, Shape.inI, Shape.inC, Shape.inK, Shape.obF, Shape.obT, Shape.arI, Arr.inF] | omega)) only [S2, Nat.reduceEqDiff, Nat.reduceAdd, iput, puts, p_ld1 hb, ht.plen]
      have n0 : ¬ (0 : Int) < 0 := by decide
      simp only [List.length_nil, Int.natCast_zero] at *
      try simp (disch := (first | rfl | with_reducible assumption | with_reducible solve_by_elim (maxDepth := 8) [Shape.inT, Shape.inI, Shape.inC, Shape.inK, Shape.obF, Shape.obT, Shape.arI, Arr.inF] | omega)) only [S2, Nat.reduceEqDiff, Nat.reduceAdd, iput, puts, p_ld1 hb, p_ld1 g.a, n0]
      have hmk := marked_ok (P := P) (ν := ν) hm L (by rw [gi.len]; omega) hempty hi
      refine den_callo (fc := (390, [])) (ys := [.sl (bools L) L.length]) rfl (by simp only [SS, Nat.reduceEqDiff, Nat.reduceAdd, iput, puts, FF, frzL_cat]; exact frzL_bools g.r gi.len) hmk (IsI.some _ _ _) fun u H' nx' hu => ?_
      obtain ⟨q1, q2, q3, own⟩ := hu.own H'
      refine ⟨q1, q2, ?_⟩
      obtain ⟨H2, w1, w2⟩ := hu.back hwf (by have := g.hi; omega) g.old
      rw [GC.fin s hw gi gc ma, ← gi.len]
      exact ⟨u, rfl, H2, w1, w2⟩
    | cons x Q =>
      obtain ⟨o, off, len, hd1, hd2⟩ := ht.head
      have hx : L.getD x false = true := gi.q x (List.mem_cons_self ..)
      have hxn : x < c.f.length := by have := mk_lt hx; rw [gi.len] at this; exact this
      have ax : Arr c x := ⟨by omega, by omega⟩
      have cx : Cl c as x := gi.snd x hx
      have cu := cx.unit s hw
      have pos : ((Q.length + 1 : Nat) : Int) > 0 := by omega
      try simp (disch := (first | rfl | with_reducible assumption | with_reducible solve_by_elim (maxDepth := 8) [Shape.inT, Shape.inI, Shape.inC, Shape.inK, Shape.obF, Shape.obT, Shape.arI, Arr.inF] | omega)) only [S2, Nat.reduceEqDiff, Nat.reduceAdd, iput, puts, p_ld1 hb, ht.plen, hd1, hd2, pos]
      refine den_rest ht (by rfl) (by rfl) fun tv' ht' ho' => ?_
      refine den_st1G (o := nx + 2) (p := 0) (m := 1) (u := tv') rfl rfl hb rfl (by omega) ho' fun H6 b6 e6 => ?_
      have v0 : GV c as H nx x (Q.length + 2 * falses L) L Q H6 hi := by
        refine ⟨⟨g.ll, (e6 _ (by omega)).trans g.r, (e6 _ (by omega)).trans g.a, ⟨tv', b6, ht'.mono (Nat.le_refl _) fun o h1 h2 => e6 o (by omega)⟩, g.hi, fun o ho => (e6 o (by omega)).trans (g.old o ho)⟩, ⟨gi.len, gi.snd, fun y hy => gi.q y (List.mem_cons_of_mem _ hy), by have := gi.cnt; simp only [List.length_cons] at this; omega⟩, gc.pop, ma, hx, Nat.le_refl _⟩
      clear ht' b6 e6 ho' hb ht hd1 hd2 g gi gc ma
      have mm : Q.length + 2 * falses L < (x :: Q).length + 2 * falses L := by simp only [List.length_cons]; omega
      have aF := s.arI (s.obF ax)
      have aT := s.arI (s.obT ax)
      have iF : In c.i (c.F x) := s.inI (s.obF ax)
      have iT : In c.i (c.T x) := s.inI (s.obT ax)
      have fF := ax.inF
      have fT := s.inT ax
      try simp (disch := (first | rfl | with_reducible assumption | with_reducible solve_by_elim (maxDepth := 8) [Shape.inT, Shape.inI, Shape.inC, Shape.inK, Shape.obF, Shape.obT, Shape.arI, Arr.inF] | omega)) only [S2, Nat.reduceEqDiff, Nat.reduceAdd, iput, puts, fF, iF]
      refine den_callm (fc := (389, [.mp (nx + 1) 0 1, .mp (nx + 2) 0 1])) rfl (add_ok hq v0.n (c.I (c.F x)) aF.2 (by have := v0.i.cnt; omega)) (gn_ex addL_len v0.i.len) fun u H7 hi7 hu => ?_
      obtain ⟨rfl, g7⟩ := hu
      have v1 := v0.add (y := c.I (c.F x)) aF.2 (fun _ => cu.1) g7
      have m1 : Mk (addL L (c.I (c.F x))) (c.I (c.F x)) := mk_new (by rw [v0.i.len]; exact aF.2) aF.1
      try simp (disch := (first | rfl | with_reducible assumption | with_reducible solve_by_elim (maxDepth := 8) [Shape.inT, Shape.inI, Shape.inC, Shape.inK, Shape.obF, Shape.obT, Shape.arI, Arr.inF] | omega)) only [S2, Nat.reduceEqDiff, Nat.reduceAdd, iput, puts, fT, iT]
      refine den_callm (fc := (389, [.mp (nx + 1) 0 1, .mp (nx + 2) 0 1])) rfl (add_ok hq v1.n (c.I (c.T x)) aT.2 (by have := v1.i.cnt; omega)) (gn_ex addL_len v1.i.len) fun u H8 hi8 hu => ?_
      obtain ⟨rfl, g8⟩ := hu
      have v2 := v1.add (y := c.I (c.T x)) aT.2 (fun _ => cu.2) g8
      have m2 := m1.add (y := c.I (c.T x)) (by rw [v1.i.len]; exact aT.2)
      have m3 := mk_new (L := addL L (c.I (c.F x))) (y := c.I (c.T x)) (by rw [v1.i.len]; exact aT.2) aT.1
      generalize addL (addL L (c.I (c.F x))) (c.I (c.T x)) = L2 at v2 m2 m3
      generalize addQ (addL L (c.I (c.F x))) (addQ L Q (c.I (c.F x))) (c.I (c.T x)) = Q2 at v2
      clear g8 g7 v1 m1
      try simp (disch := (first | rfl | with_reducible assumption | with_reducible solve_by_elim (maxDepth := 8) [Shape.inT, Shape.inI, Shape.inC, Shape.inK, Shape.obF, Shape.obT, Shape.arI, Arr.inF] | omega)) only [S2, Nat.reduceEqDiff, Nat.reduceAdd, iput, puts, p_ld1 v2.n.a, p_lenm v2.n.r ((bools_len _).trans v2.i.len)]
      refine den_loop (α := Nat × List Bool × List Nat) (fun a => [int a.1]) (fun a H' hi => a.1 ≤ c.f.length ∧ GV c as H nx x (Q.length + 2 * falses L) a.2.1 a.2.2 H' hi ∧ Mk a.2.1 (c.I (c.F x)) ∧ Mk a.2.1 (c.I (c.T x)) ∧ GP c a.2.1 a.2.2 x a.1) (fun a => c.f.length - a.1) (0, L2, Q2) rfl
        ⟨Nat.zero_le _, v2, m2, m3, fun g hg => absurd hg (Nat.not_lt_zero g)⟩ ?_
      clear v2 m2 m3
      rintro ⟨i, L2, Q2⟩ H2 hi2 ⟨hi1, v, mF, mT, gp⟩
      simp only at hi1 v mF mT gp
      have bl := (bools_len L2).trans v.i.len
      by_cases hlt : i < c.f.length
      · have hlt2 : i < L2.length := by rw [v.i.len]; exact hlt
        have hi0 : (0 : Int) ≤ i ∧ (i : Int) < c.f.length := by omega
        have ai : Arr c i := hi0
        try simp (disch := (first | rfl | with_reducible assumption | with_reducible solve_by_elim (maxDepth := 8) [Shape.inT, Shape.inI, Shape.inC, Shape.inK, Shape.obF, Shape.obT, Shape.arI, Arr.inF] | omega)) only [S2, Nat.reduceEqDiff, Nat.reduceAdd, iput, puts, hlt, p_ld1 v.n.a, p_iadm v.n.r bl, hi0, p_ldm v.n.r bl, bools_get, hlt2, Int.toNat_natCast]
        refine ⟨fun q1 => ?_, fun q1 => ?_⟩
        · have ci : Cl c as i := v.i.snd i q1
          have kpos : ∀ {a b : Int}, Arr c a → Arr c b → Cl c as a → Cl c as b → c.K a b < c.f.length ∧ (0 ≤ c.K a b → Cl c as (c.K a b)) ∧ (c.T a = c.F b → 0 ≤ c.K a b) := fun {a b} ha hb hca hcb => by
            by_cases e : c.T a = c.F b
            · exact ⟨(s.arK ha hb e).2, fun _ => .comp _ _ hca hcb e, fun _ => (s.arK ha hb e).1⟩
            · have := s.kN ha hb e
              exact ⟨by omega, fun h => by omega, fun h => absurd h e⟩
          obtain ⟨k1, k2, k3⟩ := kpos ax ai cx ci
          obtain ⟨k4, k5, k6⟩ := kpos ai ax ci cx
          repeat (first | simp (disch := (first | rfl | with_reducible assumption | with_reducible solve_by_elim (maxDepth := 8) [Shape.inT, Shape.inI, Shape.inC, Shape.inK, Shape.obF, Shape.obT, Shape.arI, Arr.inF] | omega)) only [S2, Nat.reduceEqDiff, Nat.reduceAdd, iput, puts] | (refine den_call rfl (by first | (simp only [SS, Nat.reduceEqDiff, Nat.reduceAdd, iput, puts, FF, frzL_cat]; done) | (simp only [SS, Nat.reduceEqDiff, Nat.reduceAdd, iput, puts, FF, frzL_cat]; rfl)) (by first | exact s.fzThen hth ax ai) ?_) | (refine den_calli rfl (by first | (simp only [SS, Nat.reduceEqDiff, Nat.reduceAdd, iput, puts, FF, frzL_cat]; done) | (simp only [SS, Nat.reduceEqDiff, Nat.reduceAdd, iput, puts, FF, frzL_cat]; rfl)) (by first | exact s.fzThen hth ax ai) ?_))
          refine den_callm (fc := (389, [.mp (nx + 1) 0 1, .mp (nx + 2) 0 1])) rfl (add_ok hq v.n (c.K x i) k1 (by have := v.i.cnt; omega)) (gn_ex addL_len v.i.len) fun u H7 hi7 hu => ?_
          obtain ⟨rfl, g7⟩ := hu
          have v1 := v.add (y := c.K x i) k1 k2 g7
          repeat (first | simp (disch := (first | rfl | with_reducible assumption | with_reducible solve_by_elim (maxDepth := 8) [Shape.inT, Shape.inI, Shape.inC, Shape.inK, Shape.obF, Shape.obT, Shape.arI, Arr.inF] | omega)) only [S2, Nat.reduceEqDiff, Nat.reduceAdd, iput, puts] | (refine den_call rfl (by first | (simp only [SS, Nat.reduceEqDiff, Nat.reduceAdd, iput, puts, FF, frzL_cat]; done) | (simp only [SS, Nat.reduceEqDiff, Nat.reduceAdd, iput, puts, FF, frzL_cat]; rfl)) (by first | exact s.fzThen hth ai ax) ?_) | (refine den_calli rfl (by first | (simp only [SS, Nat.reduceEqDiff, Nat.reduceAdd, iput, puts, FF, frzL_cat]; done) | (simp only [SS, Nat.reduceEqDiff, Nat.reduceAdd, iput, puts, FF, frzL_cat]; rfl)) (by first | exact s.fzThen hth ai ax) ?_))
          refine den_callm (fc := (389, [.mp (nx + 1) 0 1, .mp (nx + 2) 0 1])) rfl (add_ok hq v1.n (c.K i x) k4 (by have := v1.i.cnt; omega)) (gn_ex addL_len v1.i.len) fun u H8 hi8 hu => ?_
          obtain ⟨rfl, g8⟩ := hu
          have v2 := v1.add (y := c.K i x) k4 k5 g8
          have b1 : c.K x i < (L2.length : Int) := by rw [v.i.len]; exact k1
          have b2 : c.K i x < ((addL L2 (c.K x i)).length : Int) := by rw [v1.i.len]; exact k4
          try simp (disch := (first | rfl | with_reducible assumption | with_reducible solve_by_elim (maxDepth := 8) [Shape.inT, Shape.inI, Shape.inC, Shape.inK, Shape.obF, Shape.obT, Shape.arI, Arr.inF] | omega)) only [S2, Nat.reduceEqDiff, Nat.reduceAdd, iput, puts, wrap_succ (show i < 9223372036854775807 by omega)]
          refine ⟨(i + 1, addL (addL L2 (c.K x i)) (c.K i x), addQ (addL L2 (c.K x i)) (addQ L2 Q2 (c.K x i)) (c.K i x)), rfl, ⟨by simp only; omega, v2, (mF.add b1).add b2, (mT.add b1).add b2, fun g hg hd => ?_⟩, by simp only; omega⟩
          by_cases e : g = i
          · subst e
            exact ⟨fun e => (mk_new b1 (k3 e)).add b2, fun e => mk_new b2 (k6 e)⟩
          · exact ((gp.add b1).add b2) g (by simp only at hg; omega) hd
        · try simp (disch := (first | rfl | with_reducible assumption | with_reducible solve_by_elim (maxDepth := 8) [Shape.inT, Shape.inI, Shape.inC, Shape.inK, Shape.obF, Shape.obT, Shape.arI, Arr.inF] | omega)) only [S2, Nat.reduceEqDiff, Nat.reduceAdd, iput, puts, wrap_succ (show i < 9223372036854775807 by omega)]
          refine ⟨(i + 1, L2, Q2), rfl, ⟨by simp only; omega, v, mF, mT, fun g hg hd => ?_⟩, by simp only; omega⟩
          by_cases e : g = i
          · subst e
            have := hd.1
            rw [q1] at this; cases this
          · exact gp g (by simp only at hg; omega) hd
      · have : i = c.f.length := by omega
        subst this
        try simp (disch := (first | rfl | with_reducible assumption | with_reducible solve_by_elim (maxDepth := 8) [Shape.inT, Shape.inI, Shape.inC, Shape.inK, Shape.obF, Shape.obT, Shape.arI, Arr.inF] | omega)) only [S2, Nat.reduceEqDiff, Nat.reduceAdd, iput, puts, hlt]
        refine ⟨(L2, Q2), ⟨v.n, v.i, v.w.done mF mT (by rw [v.i.len]; exact gp), v.a⟩, ?_⟩
        have := v.m
        simp only at mm ⊢
        omega
end Go.Av
