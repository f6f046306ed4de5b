/-
  Subcategories: the program's.
-/
import Derived.Test.YtbikcomiocdkpaaAvR4
import Derived.Test.YtbikcomiocdkpaaAvB10
import Derived.Test.YtbikcomiocdkpaaAvN0
namespace Go.Av
open Classical
set_option linter.unusedSimpArgs false
set_option linter.unusedVariables false
variable {P : Program} {ν : Nat → FuncId}

theorem Out3.apart {q : Nat} {ob : Int} {F T I : List Int} {R : List (List Int)} {a b d e : AV} {s1 s2 s3 : Option Nat} {H H' : Hp} {lo hi hi' : Nat} (h : Out3 q ob F T I R a b d e s1 s2 s3 H lo hi) (hh : hi ≤ hi') (hH : ∀ t, t = q ∨ s1 = some t ∨ s2 = some t ∨ s3 = some t ∨ Ft2 e H t → H' t = H t) : Out3 q ob F T I R a b d e s1 s2 s3 H' lo hi' := by
  have kf : ∀ t, Ft2 e H t → H' t = H t := fun t ht => hH t (.inr (.inr (.inr (.inr ht))))
  have ft := h.tab.ft kf
  exact ⟨(hH q (.inl rfl)).trans h.obj, h.ql, by have := h.qh; omega, h.g1.kept fun o ho => hH o (.inr (.inl ho)), h.g2.kept fun o ho => hH o (.inr (.inr (.inl ho))), h.g3.kept fun o ho => hH o (.inr (.inr (.inr (.inl ho)))),
    fun o ho => by have := h.r1 o ho; exact ⟨this.1, by omega, this.2.2⟩, fun o ho => by have := h.r2 o ho; exact ⟨this.1, by omega, this.2.2⟩, fun o ho => by have := h.r3 o ho; exact ⟨this.1, by omega, this.2.2⟩, h.n12, h.n13, h.n23, h.tab.apart hh kf, fun t ht => h.ft t ((ft t).1 ht)⟩
/-- The number of objects is set. -/
theorem Out3.setO {q : Nat} {ob ob' : Int} {F T I : List Int} {R : List (List Int)} {a b d e : AV} {s1 s2 s3 : Option Nat} {H H' : Hp} {lo hi : Nat} (h : Out3 q ob F T I R a b d e s1 s2 s3 H lo hi) (ho : H' q = some [int ob', a, b, d, e]) (hH : ∀ t, t ≠ q → H' t = H t) : Out3 q ob' F T I R a b d e s1 s2 s3 H' lo hi := by
  have kf : ∀ t, Ft2 e H t → H' t = H t := fun t ht => hH t (h.ft t ht).1
  have ft := h.tab.ft kf
  exact ⟨ho, h.ql, h.qh, h.g1.kept fun o ho => hH o (h.r1 o ho).2.2, h.g2.kept fun o ho => hH o (h.r2 o ho).2.2, h.g3.kept fun o ho => hH o (h.r3 o ho).2.2, h.r1, h.r2, h.r3, h.n12, h.n13, h.n23, h.tab.apart (Nat.le_refl _) kf, fun t ht => h.ft t ((ft t).1 ht)⟩
theorem Rising.inj {l : List Int} (h : Rising l) {i j : Nat} (hi : i < j) (hj : j < l.length) : l.getD i 0 < l.getD j 0 := by
  induction j with
  | zero => omega
  | succ j ih =>
    have := h j hj
    by_cases e : i = j
    · subst e; exact this
    · have := ih (by omega) (by omega); omega
theorem idx_rise {l : List Int} (h : Rising l) {k : Nat} (hk : k < l.length) : idxI l (l.getD k 0) = k := idxI_at hk rfl fun j hj e => by have := h.inj hj hk; omega
theorem idx_no {l : List Int} {x : Int} (h : x ∉ l) : idxI l x = -1 := idxI_none fun j hj e => h (e ▸ getD_mem hj)
theorem selL_rising (n : Nat) (p : Nat → Bool) : Rising (selL n p) := pairwise_rising (selL_pairwise n p)

/-- The objects whose identities are among the arrows. -/
noncomputable def obsL (c : Cat) (as : List Int) (n : Nat) : List Int := selL n fun x => decide (c.I x ∈ as)
noncomputable def objL (c : Cat) (as : List Int) : List Int := obsL c as c.o.toNat
noncomputable def subK (c : Cat) (as : List Int) : Cat := ⟨(objL c as).length, as.map fun f => idxI (objL c as) (c.F f), as.map fun f => idxI (objL c as) (c.T f), (objL c as).map fun x => idxI as (c.I x), as.map fun f => as.map fun g => idxI as (c.K f g)⟩
/-- Positions noted in a list. -/
def Noted (l : List Int) (i : Nat) (n : Nat) (N : List Int) : Prop := N.length = n ∧ ∀ k, k < i → N.getD (l.getD k 0).toNat 0 = k
theorem Noted.at {l : List Int} (hr : Rising l) {n : Nat} {N : List Int} (h : Noted l l.length n N) {x : Int} (hx : x ∈ l) : gI N x = idxI l x := by
  obtain ⟨k, hk, rfl⟩ := mem_at hx
  rw [idx_rise hr hk]
  exact h.2 k hk
theorem Noted.set {l : List Int} (hr : Rising l) {n i : Nat} {N : List Int} (h : Noted l i n N) (hi : i < l.length) (h0 : ∀ k, k < l.length → 0 ≤ l.getD k 0 ∧ l.getD k 0 < n) : Noted l (i + 1) n (N.set (l.getD i 0).toNat (i : Int)) := by
  refine ⟨by rw [List.length_set]; exact h.1, fun k hk => ?_⟩
  have b := h0 i hi
  have hN := h.1
  rw [getD_set]
  by_cases e : k = i
  · subst e; rw [if_pos ⟨rfl, by omega⟩]
  · have lt := hr.inj (show k < i by omega) hi
    have := h0 k (by omega)
    rw [if_neg (by omega)]
    exact h.2 k (by omega)
theorem obsL_succ (c : Cat) (as : List Int) (n : Nat) : obsL c as (n + 1) = obsL c as n ++ if c.I n ∈ as then [(n : Int)] else [] := by
  unfold obsL
  rw [selL_succ]
  congr 1
  by_cases e : c.I n ∈ as
  · simp [e]
  · simp [e]
theorem objL_mem {c : Cat} (s : Shape c) {as : List Int} {x : Int} (hx : Ob c x) (h : c.I x ∈ as) : x ∈ objL c as := by
  have := hx.1
  have := hx.2
  refine selL_mem_iff.2 ⟨x.toNat, by omega, by omega, ?_⟩
  rw [show ((x.toNat : Nat) : Int) = x by omega]
  exact decide_eq_true h

def V_Category_sub : Vc :=
  .op true (.new [int 0, .nil, .nil, .nil, .nil]) <|
  .op true (.call (.f 26) [.t 0]) <|
  .op true (.mks [int 0] (.t 3) (.t 3)) <|
  .op true (.p .len [.t 1]) <|
  .loop 0 [.c (int 0)] <|
  .op true (.p (.bin .lss) [.t 6, .t 5]) <|
  .br 7
   (.op true (.p (.iad 1) [.t 1, .t 6]) <|
   .op true (.p (.ld none) [.t 8]) <|
   .op true (.p (.iad 1) [.t 4, .t 9]) <|
   .op true (.st 1 (.t 10) (.t 6)) <|
   .op true (.p (.bin .add) [.t 6, .c (int 1)]) <|
   .again 0 [.t 12])
   (.op true (.call (.f 375) [.t 0, .t 1]) <|
   .op true (.p (.msl 0 [] []) []) <|
   .op true (.p .nck [.t 0]) <|
   .op true (.p (.fad 0) [.t 10]) <|
   .op true (.p (.ld none) [.t 11]) <|
   .op true (.mks [int 0] (.t 12) (.t 12)) <|
   .op true (.p (.mka [int 0, .nil, .nil, .nil, .nil] []) []) <|
   .op true (.new [int 0, .nil, .nil, .nil, .nil]) <|
   .op true (.st 5 (.t 15) (.t 14)) <|
   .op true (.p .nck [.t 0]) <|
   .op true (.p (.fad 3) [.t 17]) <|
   .op true (.p (.ld none) [.t 18]) <|
   .op true (.p .len [.t 19]) <|
   .loop 0 [.t 9, .c (int 0)] <|
   .op true (.p (.bin .lss) [.t 22, .t 20]) <|
   .br 23
    (.op true (.p (.iad 1) [.t 19, .t 22]) <|
    .op true (.p (.ld none) [.t 24]) <|
    .op true (.p (.iad 1) [.t 8, .t 25]) <|
    .op true (.p (.ld none) [.t 26]) <|
    .br 27
     (.op true (.p .len [.t 21]) <|
     .op true (.p (.iad 1) [.t 13, .t 22]) <|
     .op true (.st 1 (.t 29) (.t 28)) <|
     .op true (.p (.msl 1 [int 0] [(0, 1)]) [.t 22]) <|
     .op true (.app 1 (.t 21) (.t 31)) <|
     .op true (.p (.fad 3) [.t 15]) <|
     .op true (.p (.ld none) [.t 33]) <|
     .op true (.p (.iad 1) [.t 4, .t 25]) <|
     .op true (.p (.ld none) [.t 35]) <|
     .op true (.p (.msl 1 [int 0] [(0, 1)]) [.t 36]) <|
     .op true (.app 1 (.t 34) (.t 37)) <|
     .op true (.p (.fad 3) [.t 15]) <|
     .op true (.st 1 (.t 39) (.t 38)) <|
     .op true (.p (.bin .add) [.t 22, .c (int 1)]) <|
     .again 0 [.t 32, .t 41])
     (.op true (.p (.bin .add) [.t 22, .c (int 1)]) <|
     .again 0 [.t 21, .t 28]))
    (.op true (.p .len [.t 21]) <|
    .op true (.p (.fad 0) [.t 15]) <|
    .op true (.st 1 (.t 25) (.t 24)) <|
    .op true (.p .len [.t 1]) <|
    .loop 0 [.c (int 0)] <|
    .op true (.p (.bin .lss) [.t 28, .t 27]) <|
    .br 29
     (.op true (.p (.iad 1) [.t 1, .t 28]) <|
     .op true (.p (.ld none) [.t 30]) <|
     .op true (.p (.fad 1) [.t 15]) <|
     .op true (.p (.ld none) [.t 32]) <|
     .op true (.p .nck [.t 0]) <|
     .op true (.p (.fad 1) [.t 34]) <|
     .op true (.p (.ld none) [.t 35]) <|
     .op true (.p (.iad 1) [.t 36, .t 31]) <|
     .op true (.p (.ld none) [.t 37]) <|
     .op true (.p (.iad 1) [.t 13, .t 38]) <|
     .op true (.p (.ld none) [.t 39]) <|
     .op true (.p (.msl 1 [int 0] [(0, 1)]) [.t 40]) <|
     .op true (.app 1 (.t 33) (.t 41)) <|
     .op true (.p (.fad 1) [.t 15]) <|
     .op true (.st 1 (.t 43) (.t 42)) <|
     .op true (.p (.fad 2) [.t 15]) <|
     .op true (.p (.ld none) [.t 45]) <|
     .op true (.p .nck [.t 0]) <|
     .op true (.p (.fad 2) [.t 47]) <|
     .op true (.p (.ld none) [.t 48]) <|
     .op true (.p (.iad 1) [.t 49, .t 31]) <|
     .op true (.p (.ld none) [.t 50]) <|
     .op true (.p (.iad 1) [.t 13, .t 51]) <|
     .op true (.p (.ld none) [.t 52]) <|
     .op true (.p (.msl 1 [int 0] [(0, 1)]) [.t 53]) <|
     .op true (.app 1 (.t 46) (.t 54)) <|
     .op true (.p (.fad 2) [.t 15]) <|
     .op true (.st 1 (.t 56) (.t 55)) <|
     .op true (.p (.msl 0 [] []) []) <|
     .op true (.p .len [.t 1]) <|
     .loop 1 [.t 58, .c (int 0)] <|
     .op true (.p (.bin .lss) [.t 61, .t 59]) <|
     .br 62
      (.op true (.p (.iad 1) [.t 1, .t 61]) <|
      .op true (.p (.ld none) [.t 63]) <|
      .op true (.call (.f 34) [.t 0, .t 31, .t 64]) <|
      .op true (.p (.bin .geq) [.t 65, .c (int 0)]) <|
      .br 66
       (.op true (.p (.iad 1) [.t 4, .t 65]) <|
       .op true (.p (.ld none) [.t 67]) <|
       .op true (.p (.msl 1 [int 0] [(0, 1)]) [.t 68]) <|
       .op true (.app 1 (.t 60) (.t 69)) <|
       .op true (.p (.bin .add) [.t 61, .c (int 1)]) <|
       .again 1 [.t 70, .t 71])
       (.op true (.p (.msl 1 [int 0] [(0, 1)]) [.t 65]) <|
       .op true (.app 1 (.t 60) (.t 67)) <|
       .op true (.p (.bin .add) [.t 61, .c (int 1)]) <|
       .again 1 [.t 68, .t 69]))
      (.op true (.p (.fad 4) [.t 15]) <|
      .op true (.p (.ld none) [.t 63]) <|
      .op true (.mslm 1 1 [.nil] [(0, 1)] [.t 60]) <|
      .op true (.app 1 (.t 64) (.t 65)) <|
      .op true (.p (.fad 4) [.t 15]) <|
      .op true (.st 1 (.t 67) (.t 66)) <|
      .op true (.p (.bin .add) [.t 28, .c (int 1)]) <|
      .again 0 [.t 69]))
     (.op true (.p (.ld (some 5)) [.t 15]) <|
     .op true (.st 5 (.t 2) (.t 30)) <|
     .ret [(.t 2, some (some 5)), (.t 21, none)])))
set_option maxHeartbeats 8000000 in
theorem sub_ok (har : Has P ν 26 1 V_Category_arrows) (hth : Has P ν 34 3 V_Category_then) (hm : Has P ν 375 2 V_Category_marks) (h : Has P ν 250 2 V_Category_sub) (c : Cat) (s : Shape c) (as : List Int) (hw : Wn as c.f.length) (hS : IsSub c as) (hl : as.length ≤ 40) (nx : Nat) :
    OkM P ν 250 [.ptr c.cells 0, islice as] hempty nx (fun r H' nx' => ∃ w, IsKV (subK c as) w nx r H' nx' ∧ ∀ k, Av.cln nx k w = true) := by
  refine h _ _ _ _ rfl fun hwf => ?_
  unfold V_Category_sub
  have n40 := s.n40
  have tl := s.tl
  have il := s.il
  have o8 := s.o8
  have o0 := s.o0
  have hr := hS.1
  refine den_newR fun H0 y0 e0 => ?_
  repeat (first | simp (disch := (first | rfl | with_reducible assumption | with_reducible solve_by_elim (maxDepth := 8) [Shape.inT, Shape.inI, Shape.inC, Shape.inK, Shape.obF, Shape.obT, Shape.arI, Arr.inF] | omega)) only [S2, Nat.reduceEqDiff, Nat.reduceAdd, iput, puts] | (refine den_call rfl (by first | (simp only [SS, Nat.reduceEqDiff, Nat.reduceAdd, iput, puts, FF, frzL_cat]; done) | (simp only [SS, Nat.reduceEqDiff, Nat.reduceAdd, iput, puts, FF, frzL_cat]; rfl)) (by first | exact (arrows_ok har c).fzi) ?_) | (refine den_calli rfl (by first | (simp only [SS, Nat.reduceEqDiff, Nat.reduceAdd, iput, puts, FF, frzL_cat]; done) | (simp only [SS, Nat.reduceEqDiff, Nat.reduceAdd, iput, puts, FF, frzL_cat]; rfl)) (by first | exact (arrows_ok har c).fzi) ?_))
  refine den_mksG (m := c.f.length) (z := int 0) rfl rfl (by omega) fun H1 z1 e1 => ?_
  rw [rep_int] at z1
  have y1 := (e1 nx (by omega)).trans y0
  try simp (disch := (first | rfl | with_reducible assumption | with_reducible solve_by_elim (maxDepth := 8) [Shape.inT, Shape.inI, Shape.inC, Shape.inK, Shape.obF, Shape.obT, Shape.arI, Arr.inF] | omega)) only [S2, Nat.reduceEqDiff, Nat.reduceAdd, iput, puts]
  refine den_loop (α := Nat × List Int) (fun a => [int a.1]) (fun a H' nx' => a.1 ≤ as.length ∧ Noted as a.1 c.f.length a.2 ∧ H' (nx + 1) = some (ints a.2) ∧ H' nx = some [int 0, .nil, .nil, .nil, .nil] ∧ nx' = nx + 1 + 1) (fun a => as.length - a.1) (0, List.replicate c.f.length 0) rfl ⟨Nat.zero_le _, ⟨by simp, fun k hk => by simp only at hk; omega⟩, z1, y1, rfl⟩ ?_
  clear z1 y1 e1 H1 y0 e0 H0
  rintro ⟨i, N⟩ H1 n1 ⟨hi, hN, z1, y1, rfl⟩
  simp only at hi hN z1
  by_cases hlt : i < as.length
  · have i1 : In as (i : Int) := In.nat hlt
    have w := hw i hlt
    have g1 : gI as (i : Int) = as.getD i 0 := gI_nat as i
    obtain ⟨f, hf⟩ : ∃ f : Nat, as.getD i 0 = f := ⟨(as.getD i 0).toNat, by omega⟩
    have hfn : f < c.f.length := by omega
    try simp (disch := (first | rfl | with_reducible assumption | with_reducible solve_by_elim (maxDepth := 8) [Shape.inT, Shape.inI, Shape.inC, Shape.inK, Shape.obF, Shape.obT, Shape.arI, Arr.inF] | omega)) only [S2, Nat.reduceEqDiff, Nat.reduceAdd, iput, puts, hlt, g1, hf, p_iadN z1 hN.1 hfn]
    refine den_st1G (o := nx + 1) (p := f) (m := c.f.length) (u := int (i : Int)) rfl rfl z1 (by rw [ints_length]; exact hN.1) hfn rfl fun H2 z2 e2 => ?_
    rw [ints_set] at z2
    try simp (disch := (first | rfl | with_reducible assumption | with_reducible solve_by_elim (maxDepth := 8) [Shape.inT, Shape.inI, Shape.inC, Shape.inK, Shape.obF, Shape.obT, Shape.arI, Arr.inF] | omega)) only [S2, Nat.reduceEqDiff, Nat.reduceAdd, iput, puts]
    refine ⟨(i + 1, N.set f (i : Int)), rfl, ⟨hlt, ?_, z2, by rw [e2 _ (by omega)]; exact y1⟩, by simp only; omega⟩
    have := hN.set hr hlt hw
    rw [hf] at this
    exact this
  · have hie : i = as.length := by omega
    subst hie
    obtain ⟨L, ⟨hL, hM⟩, hmk⟩ := marks_fz (P := P) (ν := ν) har hm c as (by omega) (by omega) hw
    repeat (first | simp (disch := (first | rfl | with_reducible assumption | with_reducible solve_by_elim (maxDepth := 8) [Shape.inT, Shape.inI, Shape.inC, Shape.inK, Shape.obF, Shape.obT, Shape.arI, Arr.inF] | omega)) only [S2, Nat.reduceEqDiff, Nat.reduceAdd, iput, puts, hlt] | (refine den_call rfl (by first | (simp only [SS, Nat.reduceEqDiff, Nat.reduceAdd, iput, puts, FF, frzL_cat]; done) | (simp only [SS, Nat.reduceEqDiff, Nat.reduceAdd, iput, puts, FF, frzL_cat]; rfl)) (by first | exact hmk) ?_) | (refine den_calli rfl (by first | (simp only [SS, Nat.reduceEqDiff, Nat.reduceAdd, iput, puts, FF, frzL_cat]; done) | (simp only [SS, Nat.reduceEqDiff, Nat.reduceAdd, iput, puts, FF, frzL_cat]; rfl)) (by first | exact hmk) ?_))
    refine den_mksG (m := c.o.toNat) (z := int 0) (by simp only [SS, Nat.reduceEqDiff, Nat.reduceAdd, iput, puts]; rw [s.o_nat]) (by simp only [SS, Nat.reduceEqDiff, Nat.reduceAdd, iput, puts]; rw [s.o_nat]) (by omega) fun H2 z2 e2 => ?_
    rw [rep_int] at z2
    have z1 := (e2 (nx + 1) (by omega)).trans z1
    have y1 := (e2 nx (by omega)).trans y1
    have mk0 : pvf H2 (.mka [int 0, .nil, .nil, .nil, .nil] []) [] = some (.agg [int 0, .nil, .nil, .nil, .nil]) := rfl
    try simp (disch := (first | rfl | with_reducible assumption | with_reducible solve_by_elim (maxDepth := 8) [Shape.inT, Shape.inI, Shape.inC, Shape.inK, Shape.obF, Shape.obT, Shape.arI, Arr.inF] | omega)) only [S2, Nat.reduceEqDiff, Nat.reduceAdd, iput, puts, mk0]
    refine den_newR fun H3 x3 e3 => ?_
    refine den_stR (o := nx + 1 + 1 + 1) (m := 5) (d := [int 0, .nil, .nil, .nil, .nil]) rfl rfl x3 rfl rfl rfl fun H4 x4 e4 => ?_
    have z1 := ((e4 (nx + 1) (by omega)).trans (e3 _ (by omega))).trans z1
    have y1 := ((e4 nx (by omega)).trans (e3 _ (by omega))).trans y1
    have z2 := ((e4 (nx + 1 + 1) (by omega)).trans (e3 _ (by omega))).trans z2
    have out := Out3.start x4 (Nat.le_refl _)
    generalize hq : nx + 1 + 1 + 1 = q at x4 out e3 e4
    try simp (disch := (first | rfl | with_reducible assumption | with_reducible solve_by_elim (maxDepth := 8) [Shape.inT, Shape.inI, Shape.inC, Shape.inK, Shape.obF, Shape.obT, Shape.arI, Arr.inF] | omega)) only [S2, Nat.reduceEqDiff, Nat.reduceAdd, iput, puts]
    -- the objects and their identities
    refine den_loop (α := (Nat × AV × Option Nat × List Int) × AV × Option Nat) (fun a => [a.1.2.1, int a.1.1]) (fun a H' nx' => a.1.1 ≤ c.i.length ∧ Out3 q 0 [] [] ((obsL c as a.1.1).map fun x => idxI as (c.I x)) [] .nil .nil a.2.1 .nil none none a.2.2 H' q nx' ∧ Gr a.1.2.2.1 (obsL c as a.1.1) a.1.2.1 H' ∧ (∀ o, a.1.2.2.1 = some o → q < o ∧ o < nx' ∧ a.2.2 ≠ some o) ∧ Noted (obsL c as a.1.1) (obsL c as a.1.1).length c.o.toNat a.1.2.2.2 ∧ H' (nx + 1 + 1) = some (ints a.1.2.2.2) ∧ H' (nx + 1) = some (ints N) ∧ H' nx = some [int 0, .nil, .nil, .nil, .nil]) (fun a => c.i.length - a.1.1) ((0, .nil, none, List.replicate c.o.toNat 0), .nil, none) rfl ⟨Nat.zero_le _, by simpa [obsL, selL] using out, ⟨by simp [obsL, selL], rfl⟩, (fun o h => by cases h), ⟨by simp, fun k hk => by simp [obsL, selL] at hk⟩, z2, z1, y1⟩ ?_
    rintro ⟨⟨x, v, so, Pl⟩, d, s3⟩ H4 n4 ⟨hx, out, hO, hso, hP, z2, z1, y1⟩
    simp only at hx out hO hso hP z2
    have ol : (obsL c as x).length ≤ x := selL_len _ _
    by_cases hlx : x < c.i.length
    · have ox : Ob c (x : Int) := s.obI hlx
      have i1 : In c.i (x : Int) := s.inI ox
      have aI := s.arI ox
      have gE : gI c.i (x : Int) = c.I x := rfl
      obtain ⟨f, hf⟩ : ∃ f : Nat, c.I x = f := ⟨(c.I x).toNat, by have := aI.1; omega⟩
      have hfn : f < c.f.length := by have := aI.2; omega
      have b1 : pvf H4 (.iad 1) [.sl (bools L) L.length, int (f : Int)] = some (.ptr (bools L) f) := by
        rw [p_iad, if_pos ⟨by omega, by omega⟩, Nat.mul_one]; rfl
      have b2 : (bools L)[f]? = some (bool (decide (c.I x ∈ as))) := by
        rw [bools_get, if_pos (by omega)]
        congr 2
        have := hM f hfn
        rw [hf, Bool.eq_iff_iff, decide_eq_true_iff]
        exact this
      have sc := obsL_succ c as x
      try simp (disch := (first | rfl | with_reducible assumption | with_reducible solve_by_elim (maxDepth := 8) [Shape.inT, Shape.inI, Shape.inC, Shape.inK, Shape.obF, Shape.obT, Shape.arI, Arr.inF] | omega)) only [S2, Nat.reduceEqDiff, Nat.reduceAdd, iput, puts, hlx, gE, hf, b1, b2]
      rw [← hf]
      refine ⟨fun e => ?_, fun e => ?_⟩
      · rw [if_pos e] at sc
        have xo : x < c.o.toNat := by have := ox.2; omega
        try simp (disch := (first | rfl | with_reducible assumption | with_reducible solve_by_elim (maxDepth := 8) [Shape.inT, Shape.inI, Shape.inC, Shape.inK, Shape.obF, Shape.obT, Shape.arI, Arr.inF] | omega)) only [S2, Nat.reduceEqDiff, Nat.reduceAdd, iput, puts, hO.plen, p_iadN z2 hP.1 xo]
        refine den_st1G (o := nx + 1 + 1) (p := x) (m := c.o.toNat) (u := int ((obsL c as x).length : Int)) rfl rfl z2 (by rw [ints_length]; exact hP.1) xo rfl fun H5 z5 e5 => ?_
        rw [ints_set] at z5
        have out5 := out.mono (H' := H5) (Nat.le_refl _) fun t h1 h2 => e5 t (by omega)
        have hO5 := hO.kept (H' := H5) fun o ho => e5 o (by have := hso o ho; omega)
        have z15 := (e5 (nx + 1) (by omega)).trans z1
        have y15 := (e5 nx (by omega)).trans y1
        try simp (disch := (first | rfl | with_reducible assumption | with_reducible solve_by_elim (maxDepth := 8) [Shape.inT, Shape.inI, Shape.inC, Shape.inK, Shape.obF, Shape.obT, Shape.arI, Arr.inF] | omega)) only [S2, Nat.reduceEqDiff, Nat.reduceAdd, iput, puts]
        refine den_appW (m := [(x : Int)]) hO5 rfl (by simp) (by simp only [List.length_cons, List.length_nil]; omega) fun v2 H6 n6 hO6 e6 hn6 => ?_
        have qh := out5.qh
        have so6 : q < so.getD n4 ∧ so.getD n4 < n6 ∧ s3 ≠ some (so.getD n4) ∧ n4 ≤ n6 := by
          cases hs : so with
          | none => rw [hs] at hn6; simp at hn6; simp; exact ⟨by omega, by omega, fun ee => by have := out5.r3 _ ee; omega, by omega⟩
          | some o => have := hso o hs; rw [hs] at hn6; simp at hn6; simp; exact ⟨this.1, by omega, this.2.2, by omega⟩
        have out6 := out5.apart (H' := H6) so6.2.2.2 fun t ht => e6 t fun ee => by
          rcases ht with g | g | g | g | g
          · omega
          · cases g
          · cases g
          · exact so6.2.2.1 (by rw [← ee]; exact g)
          · obtain ⟨_, _, _, g, _⟩ := g; cases g
        have z16 := (e6 (nx + 1) (by omega)).trans z15
        have y16 := (e6 nx (by omega)).trans y15
        have z26 := (e6 (nx + 1 + 1) (by omega)).trans z5
        have nf : gI N (f : Int) = idxI as (c.I x) := by rw [← hf]; exact hN.at hr e
        have lN : pvf H6 (.ld none) [.mp (nx + 1) f c.f.length] = some (int (idxI as (c.I x))) := by rw [p_ldN z16 hN.1 hfn, ← nf]; rfl
        rw [hf]
        try simp (disch := (first | rfl | with_reducible assumption | with_reducible solve_by_elim (maxDepth := 8) [Shape.inT, Shape.inI, Shape.inC, Shape.inK, Shape.obF, Shape.obT, Shape.arI, Arr.inF] | omega)) only [S2, Nat.reduceEqDiff, Nat.reduceAdd, iput, puts, p_fadm (l := 5) out6.obj rfl, p_ldm (n := 5) out6.obj rfl, p_iadN z16 hN.1 hfn, lN]
        refine den_out3 (m := [idxI as (c.I x)]) out6 (Nat.le_refl _) rfl rfl rfl (by omega) rfl rfl (by simp) (by simp only [List.length_cons, List.length_nil, List.length_map]; omega) fun v7 H7 n7 out7 hn7 keep7 => ?_
        try simp (disch := (first | rfl | with_reducible assumption | with_reducible solve_by_elim (maxDepth := 8) [Shape.inT, Shape.inI, Shape.inC, Shape.inK, Shape.obF, Shape.obT, Shape.arI, Arr.inF] | omega)) only [S2, Nat.reduceEqDiff, Nat.reduceAdd, iput, puts]
        refine ⟨((x + 1, v2, some (so.getD n4), Pl.set x ((obsL c as x).length : Int)), v7, some (s3.getD n6)), rfl, ⟨hlx, ?_, ?_, fun o ho => ?_, ?_, ?_, ?_, ?_⟩, by simp only; omega⟩
        · simp only
          rw [sc, List.map_append]
          exact out7
        · simp only
          rw [sc]
          exact hO6.kept fun o ho => by cases ho; exact keep7 _ (by omega) (by omega) so6.2.2.1
        · cases ho
          refine ⟨so6.1, by omega, fun ee => ?_⟩
          cases hs : s3 with
          | none => rw [hs] at ee; simp at ee; omega
          | some o3 => rw [hs] at ee; simp at ee; exact so6.2.2.1 (by rw [hs, ee])
        · simp only
          rw [sc]
          have l1 : ((obsL c as x) ++ [(x : Int)]).length = (obsL c as x).length + 1 := by simp
          rw [l1]
          refine ⟨by rw [List.length_set]; exact hP.1, fun k hk => ?_⟩
          have hPl := hP.1
          rw [getD_set]
          by_cases ek : k = (obsL c as x).length
          · subst ek
            have : ((obsL c as x) ++ [(x : Int)]).getD (obsL c as x).length 0 = x := by simp [List.getD]
            rw [this, if_pos ⟨by simp, by simp; omega⟩]
          · have gk : ((obsL c as x) ++ [(x : Int)]).getD k 0 = (obsL c as x).getD k 0 := by simp [List.getD, List.getElem?_append_left (show k < (obsL c as x).length by omega)]
            obtain ⟨y, ey, hy, _⟩ := selL_mem (getD_mem (show k < (obsL c as x).length by omega))
            have ey : (obsL c as x).getD k 0 = (y : Int) := ey
            rw [gk, if_neg (by rw [ey]; omega)]
            exact hP.2 k (by omega)
        · simp only
          rw [keep7 _ (by omega) (by omega) fun ee => by have := out6.r3 _ ee; omega]; exact z26
        · rw [keep7 _ (by omega) (by omega) fun ee => by have := out6.r3 _ ee; omega]; exact z16
        · rw [keep7 _ (by omega) (by omega) fun ee => by have := out6.r3 _ ee; omega]; exact y16
      · rw [if_neg e, List.append_nil] at sc
        try simp (disch := (first | rfl | with_reducible assumption | with_reducible solve_by_elim (maxDepth := 8) [Shape.inT, Shape.inI, Shape.inC, Shape.inK, Shape.obF, Shape.obT, Shape.arI, Arr.inF] | omega)) only [S2, Nat.reduceEqDiff, Nat.reduceAdd, iput, puts]
        refine ⟨((x + 1, v, so, Pl), d, s3), rfl, ⟨hlx, ?_, ?_, hso, ?_, z2, z1, y1⟩, by simp only; omega⟩
        · simp only; rw [sc]; exact out
        · simp only; rw [sc]; exact hO
        · simp only; rw [sc]; exact hP
    · have hxe : x = c.o.toNat := by omega
      subst hxe
      have eO : obsL c as c.o.toNat = objL c as := rfl
      rw [eO] at out hO hP
      have hro : Rising (objL c as) := selL_rising _ _
      have objN : ∀ k, k < (objL c as).length → 0 ≤ (objL c as).getD k 0 ∧ (objL c as).getD k 0 < c.o.toNat := fun k hk => by
        obtain ⟨y, ey, hy, _⟩ := selL_mem (getD_mem hk)
        have ey : (objL c as).getD k 0 = (y : Int) := ey
        rw [ey]; omega
      have objO : ∀ x ∈ objL c as, 0 ≤ x ∧ x < c.o.toNat := fun x hx => by
        obtain ⟨k, hk, rfl⟩ := mem_at hx
        exact objN k hk
      try simp (disch := (first | rfl | with_reducible assumption | with_reducible solve_by_elim (maxDepth := 8) [Shape.inT, Shape.inI, Shape.inC, Shape.inK, Shape.obF, Shape.obT, Shape.arI, Arr.inF] | omega)) only [S2, Nat.reduceEqDiff, Nat.reduceAdd, iput, puts, hlx, hO.plen, p_fadm (l := 5) out.obj rfl]
      refine den_st1G (o := q) (p := 0) (m := 5) (c := [int 0, .nil, .nil, d, .nil]) (u := int ((objL c as).length : Int)) rfl rfl out.obj rfl (by omega) rfl fun H5 y5 e5 => ?_
      have out := out.setO (H' := H5) (ob' := ((objL c as).length : Int)) (by rw [y5]; rfl) fun t ht => e5 t ht
      have z2 := (e5 (nx + 1 + 1) (by omega)).trans z2
      have z1 := (e5 (nx + 1) (by omega)).trans z1
      have y1 := (e5 nx (by omega)).trans y1
      clear y5 e5
      have clv : ∀ k, Av.cln nx k v = true := fun k => by
        cases hs : so with
        | none => rw [hs] at hO; obtain ⟨_, rfl⟩ := hO; cases k <;> rfl
        | some o =>
          have := hso o hs
          rw [hs] at hO
          obtain ⟨rfl, _⟩ := hO
          have h0 : nx ≤ o := by omega
          cases k <;> simp [Av.cln, h0]
      try simp (disch := (first | rfl | with_reducible assumption | with_reducible solve_by_elim (maxDepth := 8) [Shape.inT, Shape.inI, Shape.inC, Shape.inK, Shape.obF, Shape.obT, Shape.arI, Arr.inF] | omega)) only [S2, Nat.reduceEqDiff, Nat.reduceAdd, iput, puts]
      refine den_loop (α := Nat × (AV × AV × AV) × (Option Nat × Option Nat)) (fun a => [int a.1]) (fun a H' nx' => a.1 ≤ as.length ∧ Out3 q (objL c as).length ((as.take a.1).map fun f => idxI (objL c as) (c.F f)) ((as.take a.1).map fun f => idxI (objL c as) (c.T f)) ((objL c as).map fun x => idxI as (c.I x)) ((as.take a.1).map fun f => as.map fun g => idxI as (c.K f g)) a.2.1.1 a.2.1.2.1 d a.2.1.2.2 a.2.2.1 a.2.2.2 s3 H' q nx' ∧ H' (nx + 1 + 1) = some (ints Pl) ∧ H' (nx + 1) = some (ints N) ∧ H' nx = some [int 0, .nil, .nil, .nil, .nil]) (fun a => as.length - a.1) (0, (.nil, .nil, .nil), none, none) rfl ⟨Nat.zero_le _, by simpa using out, z2, z1, y1⟩ ?_
      rintro ⟨i, ⟨a, b, e⟩, s1, s2⟩ H5 n5 ⟨hi, out, z2, z1, y1⟩
      simp only at hi out
      by_cases hli : i < as.length
      · have i1 : In as (i : Int) := In.nat hli
        have af : Arr c (gI as i) := hw i hli
        have sub := hS.2 i hli
        rw [show as.getD i 0 = gI as i from rfl] at sub
        have mF := objL_mem s (s.obF af) sub.1
        have mT := objL_mem s (s.obT af) sub.2.1
        have tk := take_succ_at hli
        rw [show as.getD i 0 = gI as i from rfl] at tk
        have oF := objO _ mF
        have oT := objO _ mT
        have pF := hP.at hro mF
        have pT := hP.at hro mT
        generalize hg : gI as i = f at af sub tk mF mT oF oT pF pT
        have if1 : In c.f f := af.inF
        have if2 : In c.t f := s.inT af
        obtain ⟨x1, hx1⟩ : ∃ x1 : Nat, c.F f = x1 := ⟨(c.F f).toNat, by omega⟩
        obtain ⟨x2, hx2⟩ : ∃ x2 : Nat, c.T f = x2 := ⟨(c.T f).toNat, by omega⟩
        have gF : gI c.f f = (x1 : Int) := hx1
        have gT : gI c.t f = (x2 : Int) := hx2
        have l1 : ∀ H' : Hp, H' (nx + 1 + 1) = some (ints Pl) → pvf H' (.ld none) [.mp (nx + 1 + 1) x1 c.o.toNat] = some (int (idxI (objL c as) (c.F f))) := fun H' hz => by
          rw [p_ldN hz hP.1 (by omega), ← pF, hx1]; rfl
        have l2 : ∀ H' : Hp, H' (nx + 1 + 1) = some (ints Pl) → pvf H' (.ld none) [.mp (nx + 1 + 1) x2 c.o.toNat] = some (int (idxI (objL c as) (c.T f))) := fun H' hz => by
          rw [p_ldN hz hP.1 (by omega), ← pT, hx2]; rfl
        have tl' : (as.take i).length ≤ 40 := by rw [List.length_take]; omega
        try simp (disch := (first | rfl | with_reducible assumption | with_reducible solve_by_elim (maxDepth := 8) [Shape.inT, Shape.inI, Shape.inC, Shape.inK, Shape.obF, Shape.obT, Shape.arI, Arr.inF] | omega)) only [S2, Nat.reduceEqDiff, Nat.reduceAdd, iput, puts, hli, hg, gF, p_fadm (l := 5) out.obj rfl, p_ldm (n := 5) out.obj rfl, p_iadN z2 hP.1 (show x1 < c.o.toNat by omega), l1 _ z2]
        refine den_out1 (m := [idxI (objL c as) (c.F f)]) out (Nat.le_refl _) rfl rfl rfl (by omega) rfl rfl (by simp) (by simp only [List.length_cons, List.length_nil, List.length_map]; omega) fun a6 H6 n6 out6 hn6 keep6 => ?_
        have low : ∀ t, t < q → s1 ≠ some t := fun t ht ee => by have := out.r1 t ee; omega
        have qh := out.qh
        have z26 := (keep6 (nx + 1 + 1) (by omega) (by omega) (low _ (by omega))).trans z2
        have z16 := (keep6 (nx + 1) (by omega) (by omega) (low _ (by omega))).trans z1
        have y16 := (keep6 nx (by omega) (by omega) (low _ (by omega))).trans y1
        try simp (disch := (first | rfl | with_reducible assumption | with_reducible solve_by_elim (maxDepth := 8) [Shape.inT, Shape.inI, Shape.inC, Shape.inK, Shape.obF, Shape.obT, Shape.arI, Arr.inF] | omega)) only [S2, Nat.reduceEqDiff, Nat.reduceAdd, iput, puts, gT, p_fadm (l := 5) out6.obj rfl, p_ldm (n := 5) out6.obj rfl, p_iadN z26 hP.1 (show x2 < c.o.toNat by omega), l2 _ z26]
        refine den_out2 (m := [idxI (objL c as) (c.T f)]) out6 (Nat.le_refl _) rfl rfl rfl (by omega) rfl rfl (by simp) (by simp only [List.length_cons, List.length_nil, List.length_map]; omega) fun b7 H7 n7 out7 hn7 keep7 => ?_
        have low7 : ∀ t, t < q → s2 ≠ some t := fun t ht ee => by have := out.r2 t ee; omega
        have z27 := (keep7 (nx + 1 + 1) (by omega) (by omega) (low7 _ (by omega))).trans z26
        have z17 := (keep7 (nx + 1) (by omega) (by omega) (low7 _ (by omega))).trans z16
        have y17 := (keep7 nx (by omega) (by omega) (low7 _ (by omega))).trans y16
        try simp (disch := (first | rfl | with_reducible assumption | with_reducible solve_by_elim (maxDepth := 8) [Shape.inT, Shape.inI, Shape.inC, Shape.inK, Shape.obF, Shape.obT, Shape.arI, Arr.inF] | omega)) only [S2, Nat.reduceEqDiff, Nat.reduceAdd, iput, puts]
        refine den_loop (α := Nat × AV) (fun a => [a.2, int a.1]) (fun a H' nx' => a.1 ≤ as.length ∧ IsI ((as.take a.1).map fun g => idxI as (c.K f g)) H7 n7 a.2 H' nx') (fun a => as.length - a.1) (0, .nil) rfl ⟨Nat.zero_le _, IsI.nil _ _⟩ ?_
        rintro ⟨j, v8⟩ H8 n8 ⟨hj, hI⟩
        simp only at hj hI
        have z18 := (hI.old (show nx + 1 < n7 by omega)).trans z17
        by_cases hlj : j < as.length
        · have j1 : In as (j : Int) := In.nat hlj
          have ag : Arr c (gI as j) := hw j hlj
          have tkj := take_succ_at hlj
          rw [show as.getD j 0 = gI as j from rfl] at tkj
          have subK' := sub.2.2 j hlj
          rw [show as.getD j 0 = gI as j from rfl] at subK'
          generalize hgj : gI as j = g at ag tkj subK'
          have tl8 : ((as.take j).map fun g => idxI as (c.K f g)).length ≤ 40 := by rw [List.length_map, List.length_take]; omega
          repeat (first | simp (disch := (first | rfl | with_reducible assumption | with_reducible solve_by_elim (maxDepth := 8) [Shape.inT, Shape.inI, Shape.inC, Shape.inK, Shape.obF, Shape.obT, Shape.arI, Arr.inF] | omega)) only [S2, Nat.reduceEqDiff, Nat.reduceAdd, iput, puts, hlj, hgj] | (refine den_call rfl (by first | (simp only [SS, Nat.reduceEqDiff, Nat.reduceAdd, iput, puts, FF, frzL_cat]; done) | (simp only [SS, Nat.reduceEqDiff, Nat.reduceAdd, iput, puts, FF, frzL_cat]; rfl)) (by first | exact s.fzThen hth af ag) ?_) | (refine den_calli rfl (by first | (simp only [SS, Nat.reduceEqDiff, Nat.reduceAdd, iput, puts, FF, frzL_cat]; done) | (simp only [SS, Nat.reduceEqDiff, Nat.reduceAdd, iput, puts, FF, frzL_cat]; rfl)) (by first | exact s.fzThen hth af ag) ?_))
          refine ⟨fun e9 => ?_, fun e9 => ?_⟩
          · have mK := subK' e9
            have ak : Arr c (c.K f g) := s.arK af ag ((s.kI af ag).1 e9)
            obtain ⟨k, hk⟩ : ∃ k : Nat, c.K f g = k := ⟨(c.K f g).toNat, by omega⟩
            have hkn : k < c.f.length := by have := ak.2; omega
            have nk := hN.at hr mK
            have l3 : pvf H8 (.ld none) [.mp (nx + 1) k c.f.length] = some (int (idxI as (c.K f g))) := by rw [p_ldN z18 hN.1 hkn, ← nk, hk]; rfl
            rw [hk]
            try simp (disch := (first | rfl | with_reducible assumption | with_reducible solve_by_elim (maxDepth := 8) [Shape.inT, Shape.inI, Shape.inC, Shape.inK, Shape.obF, Shape.obT, Shape.arI, Arr.inF] | omega)) only [S2, Nat.reduceEqDiff, Nat.reduceAdd, iput, puts, p_iadN z18 hN.1 hkn, l3]
            refine den_appI (m := [idxI as (c.K f g)]) hI rfl (by simp) (by simp only [List.length_cons, List.length_nil]; omega) fun v9 H9 n9 hI9 => ?_
            try simp (disch := (first | rfl | with_reducible assumption | with_reducible solve_by_elim (maxDepth := 8) [Shape.inT, Shape.inI, Shape.inC, Shape.inK, Shape.obF, Shape.obT, Shape.arI, Arr.inF] | omega)) only [S2, Nat.reduceEqDiff, Nat.reduceAdd, iput, puts]
            refine ⟨(j + 1, v9), rfl, ⟨hlj, ?_⟩, by simp only; omega⟩
            simp only
            rw [tkj, List.map_append]
            exact hI9
          · have eK : idxI as (c.K f g) = c.K f g := by
              have e10 : c.T f ≠ c.F g := fun q => e9 ((s.kI af ag).2 q)
              rw [s.kN af ag e10]
              exact idx_no fun hm => by obtain ⟨k, hk, e⟩ := mem_at hm; have := hw k hk; omega
            try simp (disch := (first | rfl | with_reducible assumption | with_reducible solve_by_elim (maxDepth := 8) [Shape.inT, Shape.inI, Shape.inC, Shape.inK, Shape.obF, Shape.obT, Shape.arI, Arr.inF] | omega)) only [S2, Nat.reduceEqDiff, Nat.reduceAdd, iput, puts]
            refine den_appI (m := [c.K f g]) hI rfl (by simp) (by simp only [List.length_cons, List.length_nil]; omega) fun v9 H9 n9 hI9 => ?_
            try simp (disch := (first | rfl | with_reducible assumption | with_reducible solve_by_elim (maxDepth := 8) [Shape.inT, Shape.inI, Shape.inC, Shape.inK, Shape.obF, Shape.obT, Shape.arI, Arr.inF] | omega)) only [S2, Nat.reduceEqDiff, Nat.reduceAdd, iput, puts]
            refine ⟨(j + 1, v9), rfl, ⟨hlj, ?_⟩, by simp only; omega⟩
            simp only
            rw [tkj, List.map_append, List.map_cons, List.map_nil, eK]
            exact hI9
        · have hje : j = as.length := by omega
          subst hje
          rw [List.take_length] at hI
          have hn8 := hI.1
          have out8 := out7.mono (H' := H8) (Nat.le_refl _) fun t _ h2 => hI.old h2
          have z28 := (hI.old (show nx + 1 + 1 < n7 by omega)).trans z27
          have y18 := (hI.old (show nx < n7 by omega)).trans y17
          have ow : Own1 (as.map fun g => idxI as (c.K f g)) v8 H8 n7 n8 := by
            obtain ⟨_, ⟨q1, q2, _⟩ | ⟨o, q1, q2, q3, q4⟩⟩ := hI
            · exact .inl ⟨q1, q2⟩
            · exact .inr ⟨o, q1, q2, q3, by rw [q4]; exact hput_eq _ _ _⟩
          try simp (disch := (first | rfl | with_reducible assumption | with_reducible solve_by_elim (maxDepth := 8) [Shape.inT, Shape.inI, Shape.inC, Shape.inK, Shape.obF, Shape.obT, Shape.arI, Arr.inF] | omega)) only [S2, Nat.reduceEqDiff, Nat.reduceAdd, iput, puts, hlj, p_fadm (l := 5) out8.obj rfl, p_ldm (n := 5) out8.obj rfl]
          refine den_outR (l := as.map fun g => idxI as (c.K f g)) out8 rfl (fun _ => rfl) rfl (by omega) rfl rfl (by rw [List.length_map, List.length_take]; omega) hn8 ow fun e9 H9 n9 out9 hn9 low9 => ?_
          try simp (disch := (first | rfl | with_reducible assumption | with_reducible solve_by_elim (maxDepth := 8) [Shape.inT, Shape.inI, Shape.inC, Shape.inK, Shape.obF, Shape.obT, Shape.arI, Arr.inF] | omega)) only [S2, Nat.reduceEqDiff, Nat.reduceAdd, iput, puts]
          refine ⟨(i + 1, (a6, b7, e9), some (s1.getD n5), some (s2.getD n6)), rfl, ⟨hli, ?_, ?_, ?_, ?_⟩, by simp only; omega⟩
          · simp only
            rw [tk, List.map_append, List.map_append, List.map_append]
            exact out9
          · rw [low9 _ (by omega)]; exact z28
          · rw [low9 _ (by omega)]; exact z18
          · rw [low9 _ (by omega)]; exact y18
      · have hie : i = as.length := by omega
        subst hie
        rw [List.take_length] at out
        have qh := out.qh
        try simp (disch := (first | rfl | with_reducible assumption | with_reducible solve_by_elim (maxDepth := 8) [Shape.inT, Shape.inI, Shape.inC, Shape.inK, Shape.obF, Shape.obT, Shape.arI, Arr.inF] | omega)) only [S2, Nat.reduceEqDiff, Nat.reduceAdd, iput, puts, hli, p_ldsm (l := 5) out.obj rfl]
        refine den_stR (o := nx) (m := 5) (d := [int ((objL c as).length : Int), a, b, d, e]) rfl rfl y1 rfl rfl out.ones fun H9 y9 e9 => ?_
        have out9 := out.mono (H' := H9) (Nat.le_refl _) fun t h1 _ => e9 t (by omega)
        obtain ⟨H', q1, q2⟩ := out9.own.back (w := v) (nx := nx) (by omega) (by omega)
        refine ⟨_, ?_, H', q1, v, q2, clv⟩
        simp only [retOf, rets, SS, Nat.reduceEqDiff, Nat.reduceAdd, iput, puts, pLd, y9]
        rfl
end Go.Av
