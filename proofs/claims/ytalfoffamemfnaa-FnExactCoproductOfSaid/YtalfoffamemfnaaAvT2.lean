/-
  The opposite category on both sides; terminal objects.
-/
import Derived.Test.YtalfoffamemfnaaAvT1
import Derived.Test.YtalfoffamemfnaaAvS5
import Derived.Test.YtalfoffamemfnaaAvC5
namespace Go.Av
open Classical
set_option linter.unusedSimpArgs false
set_option linter.unusedVariables false
variable {P : Program} {ν : Nat → FuncId}

theorem opC_tbl {c : Cat} (s : Shape c) : tbl (fun a b => c.K b a) c.t c.f = (opC c).c := by
  have tl := s.tl
  unfold tbl opC
  rw [tl]
  refine List.map_congr_left fun a ha => ?_
  have ha := List.mem_range.1 ha
  unfold tblRow
  rw [tl]
  refine List.map_congr_left fun b hb => ?_
  have hb := List.mem_range.1 hb
  unfold tblAt
  by_cases e : c.f.getD a 0 = c.t.getD b 0
  · rw [if_pos e]
  · rw [if_neg e]
    have := (s.row b hb).2 a ha
    unfold Cell at this
    rw [if_neg fun h => e h.symm] at this
    exact this.symm
theorem frz_tab {nx : Nat} {M : List (List Int)} {H' : Hp} (h : H' nx = some (outer M nx M.length)) (hr : ∀ j, j < M.length → H' (nx + 1 + j) = some (ints (M.getD j []))) (k : Nat) : Av.frz H' (k + 1 + 1) (.ms nx 0 M.length 1) = some (.sl (rows M) M.length) := by
  have h1 : H' nx = some (outerC M.length (fun j => nx + 1 + j) fun j => (M.getD j []).length) := by rw [h, outer_full]
  exact frzN_frz _ _ _ (frzN_rows h1 hr k)

def V_opposite : Vc :=
  .op true (.p .box [.t 0]) <|
  .op true (.new [int 0, .nil, .nil, .nil, .nil]) <|
  .op true (.p (.ld none) [.t 1]) <|
  .op true (.p .nck [.t 3]) <|
  .op true (.p (.fad 0) [.t 4]) <|
  .op true (.p (.ld none) [.t 5]) <|
  .op true (.p (.ld none) [.t 1]) <|
  .op true (.p .nck [.t 7]) <|
  .op true (.p (.fad 2) [.t 8]) <|
  .op true (.p (.ld none) [.t 9]) <|
  .op true (.call (.f 261) [.t 10]) <|
  .op true (.p (.ld none) [.t 1]) <|
  .op true (.p .nck [.t 12]) <|
  .op true (.p (.fad 1) [.t 13]) <|
  .op true (.p (.ld none) [.t 14]) <|
  .op true (.call (.f 261) [.t 15]) <|
  .op true (.p (.ld none) [.t 1]) <|
  .op true (.p .nck [.t 17]) <|
  .op true (.p (.fad 3) [.t 18]) <|
  .op true (.p (.ld none) [.t 19]) <|
  .op true (.call (.f 261) [.t 20]) <|
  .op true (.p (.mka [int 0, .nil, .nil, .nil, .nil] [(0, 1), (1, 1), (2, 1), (3, 1)]) [.t 6, .t 11, .t 16, .t 21]) <|
  .op true (.new [int 0, .nil, .nil, .nil, .nil]) <|
  .op true (.st 5 (.t 23) (.t 22)) <|
  .op true (.p (.mkf 377) [.t 1]) <|
  .op true (.callm (.f 353) [.t 23, .t 25]) <|
  .op true (.p (.ld (some 5)) [.t 23]) <|
  .op true (.st 5 (.t 2) (.t 27)) <|
  .ret [(.t 2, some (some 5))]
def V_opposite_1 : Vc :=
  .op true (.p (.ld none) [.t 2]) <|
  .op true (.call (.f 34) [.t 3, .t 1, .t 0]) <|
  .ret [(.t 4, none)]
theorem opposite1_fz (ht : Has P ν 34 3 V_Category_then) (h : Has P ν 377 3 V_opposite_1) (c : Cat) (s : Shape c) (a b : Nat) (ha : a < c.f.length) (hb : b < c.f.length) : Fz (OkM P ν) 377 [int a, int b, .ptr [.ptr c.cells 0] 0] (int (c.K b a)) := by
  refine Fn.fzi fun H nx => h _ _ _ _ rfl fun hwf => ?_
  unfold V_opposite_1
  have a' : Arr c a := ⟨by omega, by omega⟩
  have b' : Arr c b := ⟨by omega, by omega⟩
  repeat (first | simp (disch := (first | rfl | with_reducible assumption | with_reducible solve_by_elim (maxDepth := 8) [Shape.inT, Shape.inI, Shape.inC, Shape.inK, Shape.obF, Shape.obT, Shape.arI, Arr.inF] | omega)) only [S2, Nat.reduceEqDiff, Nat.reduceAdd, iput, puts, p_ld1] | (refine den_call rfl (by first | (simp only [SS, Nat.reduceEqDiff, Nat.reduceAdd, iput, puts, FF, frzL_cat]; done) | (simp only [SS, Nat.reduceEqDiff, Nat.reduceAdd, iput, puts, FF, frzL_cat]; rfl)) (by first | exact s.fzThen ht b' a') ?_) | (refine den_calli rfl (by first | (simp only [SS, Nat.reduceEqDiff, Nat.reduceAdd, iput, puts, FF, frzL_cat]; done) | (simp only [SS, Nat.reduceEqDiff, Nat.reduceAdd, iput, puts, FF, frzL_cat]; rfl)) (by first | exact s.fzThen ht b' a') ?_))
  exact ⟨_, rfl, H, fun _ _ h => h, rfl, rfl, Nat.le_refl _⟩
/-- What the program's opposite calls. -/
structure HOpp (P : Program) (ν : Nat → FuncId) : Prop where
  arrows : Has P ν 26 1 V_Category_arrows
  thn : Has P ν 34 3 V_Category_then
  clone : Has P ν 261 1 V_clone
  table : Has P ν 353 2 V_Category_table
  op1 : Has P ν 377 3 V_opposite_1
  op : Has P ν 252 1 V_opposite
set_option maxHeartbeats 2000000 in
theorem opposite_fi (K : HOpp P ν) (c : Cat) (s : Shape c) : Fi (OkM P ν) 252 [.ptr c.cells 0] (.agg (opC c).cells) := by
  refine OkM.fi (Ψ := fun _ _ r H' _ => frz H' fuel r = some (.agg (opC c).cells)) (fun H nx => K.op _ _ _ _ rfl fun hwf => ?_) fun _ _ _ h => h
  unfold V_opposite
  have n40 := s.n40
  have tl := s.tl
  have il := s.il
  have o8 := s.o8
  have b1 : ∀ H : Hp, pvf H .box [.ptr c.cells 0] = some (.ptr [.ptr c.cells 0] 0) := fun _ => rfl
  have b2 : ∀ H : Hp, pvf H (.mkf 377) [.ptr [.ptr c.cells 0] 0] = some (.fn 377 [.ptr [.ptr c.cells 0] 0]) := fun _ => rfl
  try simp (disch := (first | rfl | with_reducible assumption | with_reducible solve_by_elim (maxDepth := 8) [Shape.inT, Shape.inI, Shape.inC, Shape.inK, Shape.obF, Shape.obT, Shape.arI, Arr.inF] | omega)) only [S2, Nat.reduceEqDiff, Nat.reduceAdd, iput, puts, b1, p_ld1]
  refine den_newG fun H0 z0 e0 => ?_
  repeat (first | simp (disch := (first | rfl | with_reducible assumption | with_reducible solve_by_elim (maxDepth := 8) [Shape.inT, Shape.inI, Shape.inC, Shape.inK, Shape.obF, Shape.obT, Shape.arI, Arr.inF] | omega)) only [S2, Nat.reduceEqDiff, Nat.reduceAdd, iput, puts, p_ld1] | (refine den_call rfl (by first | (simp only [SS, Nat.reduceEqDiff, Nat.reduceAdd, iput, puts, FF, frzL_cat]; done) | (simp only [SS, Nat.reduceEqDiff, Nat.reduceAdd, iput, puts, FF, frzL_cat]; rfl)) (by first | exact clone_fz K.clone c.t (by omega) | exact clone_fz K.clone c.f (by omega) | exact clone_fz K.clone c.i (by omega)) ?_) | (refine den_calli rfl (by first | (simp only [SS, Nat.reduceEqDiff, Nat.reduceAdd, iput, puts, FF, frzL_cat]; done) | (simp only [SS, Nat.reduceEqDiff, Nat.reduceAdd, iput, puts, FF, frzL_cat]; rfl)) (by first | exact clone_fz K.clone c.t (by omega) | exact clone_fz K.clone c.f (by omega) | exact clone_fz K.clone c.i (by omega)) ?_))
  try simp (disch := (first | rfl | with_reducible assumption | with_reducible solve_by_elim (maxDepth := 8) [Shape.inT, Shape.inI, Shape.inC, Shape.inK, Shape.obF, Shape.obT, Shape.arI, Arr.inF] | omega)) only [S2, Nat.reduceEqDiff, Nat.reduceAdd, iput, puts, p_mka4]
  refine den_newG fun H1 z1 e1 => ?_
  refine den_stG (o := nx + 1) (p := 0) (k := 5) (m := 5) (c' := [int c.o, islice c.t, islice c.f, islice c.i, .nil]) (by rfl) (by rfl) z1 (by rfl) (by rfl) (show 0 + 5 ≤ 5 by omega) (by rfl) (by rfl) fun H2 z2 e2 => ?_
  try simp (disch := (first | rfl | with_reducible assumption | with_reducible solve_by_elim (maxDepth := 8) [Shape.inT, Shape.inI, Shape.inC, Shape.inK, Shape.obF, Shape.obT, Shape.arI, Arr.inF] | omega)) only [S2, Nat.reduceEqDiff, Nat.reduceAdd, iput, puts, b2]
  refine den_callm (fc := (353, [])) rfl (table_ok K.arrows K.table (fun a b => c.K b a) c.o (islice c.t) (islice c.f) (islice c.i) c.t c.f c.i 377 [.ptr [.ptr c.cells 0] 0] (nx + 1) H2 (nx + 1 + 1) z2 (by omega) (.sl _) (.sl _) (.sl _) (by omega) (by omega) fun a b H' ha hb _ _ => ⟨_, rfl, opposite1_fz K.thn K.op1 c s a b (by omega) (by omega)⟩) (IsTbl.some' (by omega)) fun u H3 n3 hu => ?_
  obtain ⟨rfl, rfl, hT⟩ := hu
  rw [opC_tbl s] at hT
  have z3 := hT.obj
  simp only [List.cons_append, List.nil_append] at z3
  have z0' : H3 nx = some [int 0, .nil, .nil, .nil, .nil] := by rw [hT.low nx (by omega) (by omega), e2 nx (by omega), e1 nx (by omega)]; exact z0
  try simp (disch := (first | rfl | with_reducible assumption | with_reducible solve_by_elim (maxDepth := 8) [Shape.inT, Shape.inI, Shape.inC, Shape.inK, Shape.obF, Shape.obT, Shape.arI, Arr.inF] | omega)) only [S2, Nat.reduceEqDiff, Nat.reduceAdd, iput, puts, p_ldsm (l := 5) z3 rfl]
  refine den_stG (o := nx) (p := 0) (k := 5) (m := 5) (c' := [int c.o, islice c.t, islice c.f, islice c.i, .ms (nx + 1 + 1) 0 (opC c).c.length 1]) (by rfl) (by rfl) z0' (by rfl) (by rfl) (show 0 + 5 ≤ 5 by omega) (by rfl) (by rfl) fun H4 z4 e4 => ?_
  refine ⟨.agg [int c.o, islice c.t, islice c.f, islice c.i, .ms (nx + 1 + 1) 0 (opC c).c.length 1], ?_, H4, fun _ _ h => h, ?_⟩
  · simp only [retOf, rets, SS, Nat.reduceEqDiff, Nat.reduceAdd, iput, puts, pLd, z4]
    rfl
  · have f4 := frz_tab (nx := nx + 1 + 1) (M := (opC c).c) (H' := H4) (by rw [e4 _ (by omega)]; exact hT.tab) (fun j hj => by rw [e4 _ (by omega)]; exact hT.row j hj) 3
    show ([int c.o, islice c.t, islice c.f, islice c.i, .ms (nx + 1 + 1) 0 (opC c).c.length 1].mapM (Av.frz H4 5)).map AV.agg = _
    simp only [List.mapM_cons, List.mapM_nil, f4]
    rfl
theorem l03Op_fi (ho : Has P ν 259 1 V_spec_l01Own) (h : Has P ν 251 1 V_spec_l03Op) (c : Cat) (s : Shape c) : Fi (OkM P ν) 251 [.agg c.cells] (.agg (opC c).cells) :=
  OkM.fi (fun H nx => l03Op_ok ho h c s H nx) fun r H' nx' hh => by
    obtain ⟨v, rfl, _, h2, _⟩ := hh
    show ([int c.o, islice c.t, islice c.f, islice c.i, v].mapM (Av.frz H' 5)).map AV.agg = _
    simp only [List.mapM_cons, List.mapM_nil, h2.frz 3]
    rfl

/-- The numbers from 0 to below n. -/
def upL (n : Int) : List Int := (List.range n.toNat).map fun (k : Nat) => (k : Int)
theorem upL_len {n : Int} : (upL n).length = n.toNat := by simp [upL]
theorem upL_at {n : Int} {i : Nat} (h : i < n.toNat) : (upL n).getD i 0 = i := by simp [upL, List.getD, h]
def termQ (c : Cat) (z : Int) : Bool := (List.range c.o.toNat).all fun (x : Nat) => (homL c x z).length == 1
def termL (c : Cat) : List Int := (upL c.o).filter (termQ c)
theorem termL_len {c : Cat} (s : Shape c) : (termL c).length ≤ 8 := by
  have := List.length_filter_le (termQ c) (upL c.o)
  have o8 := s.o8
  rw [upL_len] at this
  unfold termL
  omega
def V_Category_terminal : Vc :=
  .op true (.p (.msl 0 [] []) []) <|
  .loop 0 [.t 1, .c (int 0)] <|
  .op true (.p .nck [.t 0]) <|
  .op true (.p (.fad 0) [.t 4]) <|
  .op true (.p (.ld none) [.t 5]) <|
  .op true (.p (.bin .lss) [.t 3, .t 6]) <|
  .br 7
   (.loop 1 [.c (int 0)] <|
   .op true (.p .nck [.t 0]) <|
   .op true (.p (.fad 0) [.t 9]) <|
   .op true (.p (.ld none) [.t 10]) <|
   .op true (.p (.bin .lss) [.t 8, .t 11]) <|
   .br 12
    (.op true (.call (.f 33) [.t 0, .t 8, .t 3]) <|
    .op true (.p .len [.t 13]) <|
    .op true (.p (.bin .neq) [.t 14, .c (int 1)]) <|
    .br 15
     (.op true (.p (.bin .add) [.t 3, .c (int 1)]) <|
     .again 0 [.t 2, .t 16])
     (.op true (.p (.bin .add) [.t 8, .c (int 1)]) <|
     .again 1 [.t 16]))
    (.op true (.p (.msl 1 [int 0] [(0, 1)]) [.t 3]) <|
    .op true (.app 1 (.t 2) (.t 13)) <|
    .op true (.p (.bin .add) [.t 3, .c (int 1)]) <|
    .again 0 [.t 14, .t 15]))
   (.ret [(.t 2, none)])
set_option maxHeartbeats 1000000 in
theorem terminal_ok (hh : Has P ν 33 3 V_Category_hom) (h : Has P ν 276 1 V_Category_terminal) (c : Cat) (s : Shape c) (H : Hp) (nx : Nat) : OkM P ν 276 [.ptr c.cells 0] H nx (IsI (termL c) H nx) := by
  refine h _ _ _ _ rfl fun hwf => ?_
  unfold V_Category_terminal
  have o0 := s.o0
  have o8 := s.o8
  have ul := upL_len (n := c.o)
  try simp (disch := (first | rfl | with_reducible assumption | with_reducible solve_by_elim (maxDepth := 8) [Shape.inT, Shape.inI, Shape.inC, Shape.inK, Shape.obF, Shape.obT, Shape.arI, Arr.inF] | omega)) only [S2, Nat.reduceEqDiff, Nat.reduceAdd, iput, puts]
  refine den_fil (upL c.o) (termQ c) H nx rfl (Nat.le_refl _) rfl fun i v H1 n1 hi hI => ?_
  have il := take_filter_len (upL c.o) (termQ c) i
  by_cases hlt : (i : Int) < c.o
  · have g1 := upL_at (n := c.o) (i := i) (by omega)
    have hi2 : i < (upL c.o).length := by omega
    try simp (disch := (first | rfl | with_reducible assumption | with_reducible solve_by_elim (maxDepth := 8) [Shape.inT, Shape.inI, Shape.inC, Shape.inK, Shape.obF, Shape.obT, Shape.arI, Arr.inF] | omega)) only [S2, Nat.reduceEqDiff, Nat.reduceAdd, iput, puts, hlt]
    refine den_loop (α := Nat) (fun a => [int a]) (fun a H' nx' => a ≤ c.o.toNat ∧ (∀ x : Nat, x < a → (homL c x i).length = 1) ∧ H' = H1 ∧ nx' = n1) (fun a => c.o.toNat - a) 0 rfl ⟨Nat.zero_le _, fun x hx => by omega, rfl, rfl⟩ ?_
    rintro x H2 n2 ⟨hx, hall, rfl, rfl⟩
    by_cases hlx : (x : Int) < c.o
    · have l1 := homL_len s x i
      repeat (first | simp (disch := (first | rfl | with_reducible assumption | with_reducible solve_by_elim (maxDepth := 8) [Shape.inT, Shape.inI, Shape.inC, Shape.inK, Shape.obF, Shape.obT, Shape.arI, Arr.inF] | omega)) only [S2, Nat.reduceEqDiff, Nat.reduceAdd, iput, puts, hlx] | (refine den_call rfl (by first | (simp only [SS, Nat.reduceEqDiff, Nat.reduceAdd, iput, puts, FF, frzL_cat]; done) | (simp only [SS, Nat.reduceEqDiff, Nat.reduceAdd, iput, puts, FF, frzL_cat]; rfl)) (by first | exact s.homFz hh x i) ?_) | (refine den_calli rfl (by first | (simp only [SS, Nat.reduceEqDiff, Nat.reduceAdd, iput, puts, FF, frzL_cat]; done) | (simp only [SS, Nat.reduceEqDiff, Nat.reduceAdd, iput, puts, FF, frzL_cat]; rfl)) (by first | exact s.homFz hh x i) ?_))
      refine ⟨fun e => ?_, fun e => ?_⟩
      · try simp (disch := (first | rfl | with_reducible assumption | with_reducible solve_by_elim (maxDepth := 8) [Shape.inT, Shape.inI, Shape.inC, Shape.inK, Shape.obF, Shape.obT, Shape.arI, Arr.inF] | omega)) only [S2, Nat.reduceEqDiff, Nat.reduceAdd, iput, puts]
        refine fil_skip rfl hi2 ?_ hI
        rw [g1]
        unfold termQ
        rw [List.all_eq_false]
        exact ⟨x, by simp; omega, by simp only [beq_iff_eq]; omega⟩
      · try simp (disch := (first | rfl | with_reducible assumption | with_reducible solve_by_elim (maxDepth := 8) [Shape.inT, Shape.inI, Shape.inC, Shape.inK, Shape.obF, Shape.obT, Shape.arI, Arr.inF] | omega)) only [S2, Nat.reduceEqDiff, Nat.reduceAdd, iput, puts]
        refine ⟨x + 1, rfl, ⟨by omega, fun y hy => ?_⟩, by omega⟩
        by_cases ey : y = x
        · rw [ey]; omega
        · exact hall y (by omega)
    · try simp (disch := (first | rfl | with_reducible assumption | with_reducible solve_by_elim (maxDepth := 8) [Shape.inT, Shape.inI, Shape.inC, Shape.inK, Shape.obF, Shape.obT, Shape.arI, Arr.inF] | omega)) only [S2, Nat.reduceEqDiff, Nat.reduceAdd, iput, puts, hlx]
      refine den_appI (m := [(i : Int)]) (H0 := H) (nx0 := nx) hI rfl (by simp) (by simp only [List.length_cons, List.length_nil]; omega) fun v2 H3 n3 hI2 => ?_
      try simp (disch := (first | rfl | with_reducible assumption | with_reducible solve_by_elim (maxDepth := 8) [Shape.inT, Shape.inI, Shape.inC, Shape.inK, Shape.obF, Shape.obT, Shape.arI, Arr.inF] | omega)) only [S2, Nat.reduceEqDiff, Nat.reduceAdd, iput, puts]
      refine fil_take rfl hi2 ?_ (by rw [g1]; exact hI2)
      rw [g1]
      unfold termQ
      rw [List.all_eq_true]
      intro y hy
      have hy := List.mem_range.1 hy
      rw [beq_iff_eq]
      exact hall y (by omega)
  · try simp (disch := (first | rfl | with_reducible assumption | with_reducible solve_by_elim (maxDepth := 8) [Shape.inT, Shape.inI, Shape.inC, Shape.inK, Shape.obF, Shape.obT, Shape.arI, Arr.inF] | omega)) only [S2, Nat.reduceEqDiff, Nat.reduceAdd, iput, puts, hlt]
    have : i = (upL c.o).length := by omega
    subst this
    rw [List.take_length] at hI
    exact ⟨_, rfl, _, fun _ _ h => h, hI⟩
def V_spec_l13Terminal : Vc :=
  .op true (.p .box [.t 0]) <|
  .op true (.p (.msl 0 [] []) []) <|
  .loop 0 [.t 2, .c (int 0)] <|
  .op true (.p (.fad 0) [.t 1]) <|
  .op true (.p (.ld none) [.t 5]) <|
  .op true (.p (.bin .lss) [.t 4, .t 6]) <|
  .br 7
   (.loop 1 [.c (bool true), .c (int 0)] <|
   .br 8
    (.op true (.p (.fad 0) [.t 1]) <|
    .op true (.p (.ld none) [.t 10]) <|
    .op true (.p (.bin .lss) [.t 9, .t 11]) <|
    .br 12
     (.op true (.p (.ld (some 5)) [.t 1]) <|
     .op true (.call (.f 309) [.t 13, .t 9, .t 4]) <|
     .op true (.p .len [.t 14]) <|
     .op true (.p (.bin .eql) [.t 15, .c (int 1)]) <|
     .op true (.p (.bin .add) [.t 9, .c (int 1)]) <|
     .again 1 [.t 16, .t 17])
     (.op true (.p (.msl 1 [int 0] [(0, 1)]) [.t 4]) <|
     .op true (.app 1 (.t 3) (.t 13)) <|
     .op true (.p (.bin .add) [.t 4, .c (int 1)]) <|
     .again 0 [.t 14, .t 15]))
    (.op true (.p (.bin .add) [.t 4, .c (int 1)]) <|
    .again 0 [.t 3, .t 10]))
   (.ret [(.t 3, none)])
set_option maxHeartbeats 1000000 in
theorem l13Terminal_ok (hh : Has P ν 309 3 V_spec_l02Hom) (h : Has P ν 275 1 V_spec_l13Terminal) (c : Cat) (s : Shape c) (H : Hp) (nx : Nat) : OkM P ν 275 [.agg c.cells] H nx (IsI (termL c) H nx) := by
  refine h _ _ _ _ rfl fun hwf => ?_
  unfold V_spec_l13Terminal
  have o0 := s.o0
  have o8 := s.o8
  have ul := upL_len (n := c.o)
  try simp (disch := (first | rfl | with_reducible assumption | with_reducible solve_by_elim (maxDepth := 8) [Shape.inT, Shape.inI, Shape.inC, Shape.inK, Shape.obF, Shape.obT, Shape.arI, Arr.inF] | omega)) only [S2, Nat.reduceEqDiff, Nat.reduceAdd, iput, puts]
  refine den_fil (upL c.o) (termQ c) H nx rfl (Nat.le_refl _) rfl fun i v H1 n1 hi hI => ?_
  have il := take_filter_len (upL c.o) (termQ c) i
  by_cases hlt : (i : Int) < c.o
  · have g1 := upL_at (n := c.o) (i := i) (by omega)
    have hi2 : i < (upL c.o).length := by omega
    try simp (disch := (first | rfl | with_reducible assumption | with_reducible solve_by_elim (maxDepth := 8) [Shape.inT, Shape.inI, Shape.inC, Shape.inK, Shape.obF, Shape.obT, Shape.arI, Arr.inF] | omega)) only [S2, Nat.reduceEqDiff, Nat.reduceAdd, iput, puts, hlt]
    refine den_loop (α := Nat × Bool) (fun a => [bool a.2, int a.1]) (fun a H' nx' => a.1 ≤ c.o.toNat ∧ (a.2 = (List.range a.1).all fun (x : Nat) => (homL c x i).length == 1) ∧ H' = H1 ∧ nx' = n1) (fun a => c.o.toNat - a.1) (0, true) rfl ⟨Nat.zero_le _, rfl, rfl, rfl⟩ ?_
    rintro ⟨x, b⟩ H2 n2 ⟨hx, hb, rfl, rfl⟩
    simp only at hx hb
    try simp (disch := (first | rfl | with_reducible assumption | with_reducible solve_by_elim (maxDepth := 8) [Shape.inT, Shape.inI, Shape.inC, Shape.inK, Shape.obF, Shape.obT, Shape.arI, Arr.inF] | omega)) only [S2, Nat.reduceEqDiff, Nat.reduceAdd, iput, puts]
    refine ⟨fun e => ?_, fun e => ?_⟩
    · by_cases hlx : (x : Int) < c.o
      · have l1 := homL_len s x i
        repeat (first | simp (disch := (first | rfl | with_reducible assumption | with_reducible solve_by_elim (maxDepth := 8) [Shape.inT, Shape.inI, Shape.inC, Shape.inK, Shape.obF, Shape.obT, Shape.arI, Arr.inF] | omega)) only [S2, Nat.reduceEqDiff, Nat.reduceAdd, iput, puts, hlx] | (refine den_call rfl (by first | (simp only [SS, Nat.reduceEqDiff, Nat.reduceAdd, iput, puts, FF, frzL_cat]; done) | (simp only [SS, Nat.reduceEqDiff, Nat.reduceAdd, iput, puts, FF, frzL_cat]; rfl)) (by first | exact s.sHomFz hh x i) ?_) | (refine den_calli rfl (by first | (simp only [SS, Nat.reduceEqDiff, Nat.reduceAdd, iput, puts, FF, frzL_cat]; done) | (simp only [SS, Nat.reduceEqDiff, Nat.reduceAdd, iput, puts, FF, frzL_cat]; rfl)) (by first | exact s.sHomFz hh x i) ?_))
        refine ⟨(x + 1, (homL c x i).length == 1), by simp only [natB1], ⟨by simp only; omega, ?_⟩, by simp only; omega⟩
        simp only
        rw [List.range_succ, List.all_append, ← hb, e]
        simp
      · try simp (disch := (first | rfl | with_reducible assumption | with_reducible solve_by_elim (maxDepth := 8) [Shape.inT, Shape.inI, Shape.inC, Shape.inK, Shape.obF, Shape.obT, Shape.arI, Arr.inF] | omega)) only [S2, Nat.reduceEqDiff, Nat.reduceAdd, iput, puts, hlx]
        refine den_appI (m := [(i : Int)]) (H0 := H) (nx0 := nx) hI rfl (by simp) (by simp only [List.length_cons, List.length_nil]; omega) fun v2 H3 n3 hI2 => ?_
        try simp (disch := (first | rfl | with_reducible assumption | with_reducible solve_by_elim (maxDepth := 8) [Shape.inT, Shape.inI, Shape.inC, Shape.inK, Shape.obF, Shape.obT, Shape.arI, Arr.inF] | omega)) only [S2, Nat.reduceEqDiff, Nat.reduceAdd, iput, puts]
        refine fil_take rfl hi2 ?_ (by rw [g1]; exact hI2)
        rw [g1, termQ, show c.o.toNat = x by omega, ← hb, e]
    · try simp (disch := (first | rfl | with_reducible assumption | with_reducible solve_by_elim (maxDepth := 8) [Shape.inT, Shape.inI, Shape.inC, Shape.inK, Shape.obF, Shape.obT, Shape.arI, Arr.inF] | omega)) only [S2, Nat.reduceEqDiff, Nat.reduceAdd, iput, puts]
      refine fil_skip rfl hi2 ?_ hI
      rw [g1, termQ]
      rw [e] at hb
      have := hb.symm
      rw [List.all_eq_false] at this ⊢
      obtain ⟨y, hy, hy2⟩ := this
      exact ⟨y, by simp at hy ⊢; omega, hy2⟩
  · try simp (disch := (first | rfl | with_reducible assumption | with_reducible solve_by_elim (maxDepth := 8) [Shape.inT, Shape.inI, Shape.inC, Shape.inK, Shape.obF, Shape.obT, Shape.arI, Arr.inF] | omega)) only [S2, Nat.reduceEqDiff, Nat.reduceAdd, iput, puts, hlt]
    have : i = (upL c.o).length := by omega
    subst this
    rw [List.take_length] at hI
    exact ⟨_, rfl, _, fun _ _ h => h, hI⟩
end Go.Av
