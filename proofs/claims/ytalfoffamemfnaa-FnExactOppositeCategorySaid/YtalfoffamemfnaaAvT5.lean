/-
  The opposite category as a result of its own: both sides.
-/
import Derived.Test.YtalfoffamemfnaaAvZ0
namespace Go.Av
open Classical
set_option linter.unusedSimpArgs false
set_option linter.unusedVariables false
variable {P : Program} {ν : Nat → FuncId}

theorem AV.one_cells {a : AV} (h : a.one = true) : a.cells = [a] := by cases a <;> first | rfl | (simp [AV.one] at h)
theorem p_mkaO {H : Hp} {k : Int} {a b d : AV} (h1 : a.one = true) (h2 : b.one = true) (h3 : d.one = true) :
    pvf H (.mka [int 0, .nil, .nil, .nil, .nil] [(0, 1), (1, 1), (2, 1), (3, 1)]) [int k, a, b, d] = some (.agg [int k, a, b, d, .nil]) := by
  have h0 : (int k).cells = [int k] := rfl
  have h4 : (int k).one = true := rfl
  simp [pvf, pMka, lay, h0, h1, h2, h3, h4, AV.one_cells h1, AV.one_cells h2, AV.one_cells h3]

section
variable {C : Ct} {Φ : AV → Hp → Nat → Prop} {n : Nat} {vars : Nat → AV} {H : Hp} {nx : Nat} {Is : Nat → Inv} {r : Vc}
/-- A clone as a slice of our own. -/
theorem den_clone (hcl : Has P ν 261 1 V_clone) {x : Opd} (l : List Int) (hx : ev vars x = islice l) (hl : l.length ≤ 1099511627776)
    (hk : ∀ v s H2 nx2, Gr s l v H2 → (∀ o, s = some o → nx ≤ o ∧ o < nx2) → nx ≤ nx2 → (∀ o, o < nx → H2 o = H o) → den (OkM P ν) Φ r (n + 1) (put vars n v) H2 nx2 Is) :
    den (OkM P ν) Φ (.op true (.callo (.f 261) [x]) r) n vars H nx Is := by
  refine den_callo (fc := (261, [])) (ys := [islice l]) rfl (by simp only [List.map_cons, List.map_nil, hx, List.append_nil]; rfl) (clone_ok hcl l hl hempty nx) (IsI.some _ _ _) fun u H' nx' hu => ?_
  obtain ⟨q1, q2, q3, own⟩ := hu.own H
  refine ⟨q1, q2, ?_⟩
  rcases own with ⟨e, rfl⟩ | ⟨o, o1, o2, rfl, e⟩
  · exact hk _ none _ _ ⟨e, rfl⟩ (fun o h => by cases h) q3 fun o ho => hmerge_lo ho
  · exact hk _ (some o) _ _ ⟨rfl, e⟩ (fun o' h => by cases h; exact ⟨o1, o2⟩) q3 fun o ho => hmerge_lo ho
end
theorem Out3.of {q : Nat} {ob : Int} {F T I : List Int} {a b d : AV} {s1 s2 s3 : Option Nat} {H : Hp} {lo hi : Nat} (h : H q = some [int ob, a, b, d, .nil]) (ql : lo ≤ q) (qh : q < hi) (g1 : Gr s1 F a H) (g2 : Gr s2 T b H) (g3 : Gr s3 I d H)
    (r1 : ∀ o, s1 = some o → lo ≤ o ∧ o < hi ∧ o ≠ q) (r2 : ∀ o, s2 = some o → lo ≤ o ∧ o < hi ∧ o ≠ q) (r3 : ∀ o, s3 = some o → lo ≤ o ∧ o < hi ∧ o ≠ q) (n12 : ∀ o o', s1 = some o → s2 = some o' → o ≠ o') (n13 : ∀ o o', s1 = some o → s3 = some o' → o ≠ o') (n23 : ∀ o o', s2 = some o → s3 = some o' → o ≠ o') :
    Out3 q ob F T I [] a b d .nil s1 s2 s3 H lo hi :=
  ⟨h, ql, qh, g1, g2, g3, r1, r2, r3, fun o h1 h2 => n12 o o h1 h2 rfl, fun o h1 h2 => n13 o o h1 h2 rfl, fun o h1 h2 => n23 o o h1 h2 rfl, OwnD.nil, fun t ⟨o, m, cells, e, _⟩ => by cases e⟩

theorem ones5 {k : Int} {a b d : AV} (h1 : a.one = true) (h2 : b.one = true) (h3 : d.one = true) : [int k, a, b, d, .nil].all AV.one = true := by simp only [List.all_cons, List.all_nil, h1, h2, h3, Bool.and_true]; rfl
theorem opC_tbl' {c : Cat} (s : Shape c) : tbl (fun a b => c.K b a) c.t c.f = (opC c).c := by
  have tl := s.tl
  unfold tbl opC
  rw [tl]
  refine List.map_congr_left fun a ha => ?_
  have ha := List.mem_range.1 ha
  unfold tblRow
  rw [tl]
  refine List.map_congr_left fun b hb => ?_
  have hb := List.mem_range.1 hb
  unfold tblAt
  by_cases e : c.f.getD a 0 = c.t.getD b 0
  · rw [if_pos e]
  · rw [if_neg e]
    have := (s.row b hb).2 a ha
    unfold Cell at this
    rw [if_neg fun h => e h.symm] at this
    exact this.symm
def V_opposite_1 : Vc :=
  .op true (.p (.ld none) [.t 2]) <|
  .op true (.call (.f 34) [.t 3, .t 1, .t 0]) <|
  .ret [(.t 4, none)]
theorem opposite1_fz' (ht : Has P ν 34 3 V_Category_then) (h : Has P ν 377 3 V_opposite_1) (c : Cat) (s : Shape c) (a b : Nat) (ha : a < c.f.length) (hb : b < c.f.length) : Fz (OkM P ν) 377 [int a, int b, .ptr [.ptr c.cells 0] 0] (int (c.K b a)) := by
  refine Fn.fzi fun H nx => h _ _ _ _ rfl fun hwf => ?_
  unfold V_opposite_1
  have a' : Arr c a := ⟨by omega, by omega⟩
  have b' : Arr c b := ⟨by omega, by omega⟩
  have e1 : ∀ H : Hp, pvf H (.ld none) [.ptr [.ptr c.cells 0] 0] = some (.ptr c.cells 0) := fun _ => rfl
  repeat (first | simp (disch := (first | rfl | with_reducible assumption | with_reducible solve_by_elim (maxDepth := 8) [Shape.inT, Shape.inI, Shape.inC, Shape.inK, Shape.obF, Shape.obT, Shape.arI, Arr.inF] | omega)) only [S2, Nat.reduceEqDiff, Nat.reduceAdd, iput, puts, e1] | (refine den_call rfl (by first | (simp only [SS, Nat.reduceEqDiff, Nat.reduceAdd, iput, puts, FF, frzL_cat]; done) | (simp only [SS, Nat.reduceEqDiff, Nat.reduceAdd, iput, puts, FF, frzL_cat]; rfl)) (by first | exact s.fzThen ht b' a') ?_) | (refine den_calli rfl (by first | (simp only [SS, Nat.reduceEqDiff, Nat.reduceAdd, iput, puts, FF, frzL_cat]; done) | (simp only [SS, Nat.reduceEqDiff, Nat.reduceAdd, iput, puts, FF, frzL_cat]; rfl)) (by first | exact s.fzThen ht b' a') ?_))
  exact ⟨_, rfl, H, fun _ _ h => h, rfl, rfl, Nat.le_refl _⟩
/-- A category of its own as a result. -/
def IsCO (x : Cat) (nx : Nat) (r : AV) (H' : Hp) (nx' : Nat) : Prop := nx ≤ nx' ∧ OwnK x r H' nx nx' ∧ clnH nx H'
theorem IsCO.some (x : Cat) (nx : Nat) : ∃ u H' nx', IsCO x nx u H' nx' := by
  obtain ⟨u, H', nx', r0, rfl, h1, h2, h3⟩ := IsKV.some x (int 0) nx
  exact ⟨r0, H', nx', h1, h2, h3⟩
theorem IsCO.own {x : Cat} {nx : Nat} {r : AV} {H' : Hp} {nx' : Nat} (h : IsCO x nx r H' nx') (H : Hp) : cln nx fuel r = true ∧ clnH nx H' ∧ nx ≤ nx' ∧ OwnK x r (hmerge nx H H') nx nx' := by
  have h2 : IsKV x (int 0) nx (.tup [r, int 0]) H' nx' := ⟨r, rfl, h⟩
  obtain ⟨_, q2, q3, r0, e, own⟩ := h2.own (fun k => cln_int _ _ _) H
  cases e
  exact ⟨h.2.1.cln 5, q2, q3, own⟩

def V_opposite_o : Vc :=
  .op true (.p .box [.t 0]) <|
  .op true (.new [int 0, .nil, .nil, .nil, .nil]) <|
  .op true (.p (.ld none) [.t 1]) <|
  .op true (.p .nck [.t 3]) <|
  .op true (.p (.fad 0) [.t 4]) <|
  .op true (.p (.ld none) [.t 5]) <|
  .op true (.p (.ld none) [.t 1]) <|
  .op true (.p .nck [.t 7]) <|
  .op true (.p (.fad 2) [.t 8]) <|
  .op true (.p (.ld none) [.t 9]) <|
  .op true (.p (.ld none) [.t 1]) <|
  .op true (.p .nck [.t 11]) <|
  .op true (.p (.fad 1) [.t 12]) <|
  .op true (.p (.ld none) [.t 13]) <|
  .op true (.p (.ld none) [.t 1]) <|
  .op true (.p .nck [.t 15]) <|
  .op true (.p (.fad 3) [.t 16]) <|
  .op true (.p (.ld none) [.t 17]) <|
  .both
   (.op true (.callo (.f 261) [.t 10]) <|
   .both
    (.op true (.callo (.f 261) [.t 14]) <|
    .both
     (.op true (.callo (.f 261) [.t 18]) <|
     .op true (.new [int 0, .nil, .nil, .nil, .nil]) <|
     .op false (.p (.mka [int 0, .nil, .nil, .nil, .nil] [(0, 1), (1, 1), (2, 1), (3, 1)]) [.t 6, .t 19, .t 20, .t 21]) <|
     .op true (.st 5 (.t 22) (.t 23)) <|
     .op true (.p (.mkf 377) [.t 1]) <|
     .op true (.callm (.f 353) [.t 22, .t 25]) <|
     .op true (.p (.ld (some 5)) [.t 22]) <|
     .op true (.st 5 (.t 2) (.t 27)) <|
     .ret [(.t 2, some (some 5))])
     (.op true (.new [int 0, .nil, .nil, .nil, .nil]) <|
     .op true (.callo (.f 261) [.t 18]) <|
     .op false (.p (.mka [int 0, .nil, .nil, .nil, .nil] [(0, 1), (1, 1), (2, 1), (3, 1)]) [.t 6, .t 19, .t 20, .t 22]) <|
     .op true (.st 5 (.t 21) (.t 23)) <|
     .op true (.p (.mkf 377) [.t 1]) <|
     .op true (.callm (.f 353) [.t 21, .t 25]) <|
     .op true (.p (.ld (some 5)) [.t 21]) <|
     .op true (.st 5 (.t 2) (.t 27)) <|
     .ret [(.t 2, some (some 5))]))
    (.op true (.new [int 0, .nil, .nil, .nil, .nil]) <|
    .op true (.callo (.f 261) [.t 14]) <|
    .op true (.callo (.f 261) [.t 18]) <|
    .op false (.p (.mka [int 0, .nil, .nil, .nil, .nil] [(0, 1), (1, 1), (2, 1), (3, 1)]) [.t 6, .t 19, .t 21, .t 22]) <|
    .op true (.st 5 (.t 20) (.t 23)) <|
    .op true (.p (.mkf 377) [.t 1]) <|
    .op true (.callm (.f 353) [.t 20, .t 25]) <|
    .op true (.p (.ld (some 5)) [.t 20]) <|
    .op true (.st 5 (.t 2) (.t 27)) <|
    .ret [(.t 2, some (some 5))]))
   (.op true (.new [int 0, .nil, .nil, .nil, .nil]) <|
   .op true (.callo (.f 261) [.t 10]) <|
   .op true (.callo (.f 261) [.t 14]) <|
   .op true (.callo (.f 261) [.t 18]) <|
   .op false (.p (.mka [int 0, .nil, .nil, .nil, .nil] [(0, 1), (1, 1), (2, 1), (3, 1)]) [.t 6, .t 20, .t 21, .t 22]) <|
   .op true (.st 5 (.t 19) (.t 23)) <|
   .op true (.p (.mkf 377) [.t 1]) <|
   .op true (.callm (.f 353) [.t 19, .t 25]) <|
   .op true (.p (.ld (some 5)) [.t 19]) <|
   .op true (.st 5 (.t 2) (.t 27)) <|
   .ret [(.t 2, some (some 5))])
set_option maxHeartbeats 4000000 in
theorem opposite_own (har : Has P ν 26 1 V_Category_arrows) (hth : Has P ν 34 3 V_Category_then) (hcl : Has P ν 261 1 V_clone) (hta : Has P ν 353 2 V_Category_table) (h1 : Has P ν 377 3 V_opposite_1) (h : Has P ν 252 1 V_opposite_o) (c : Cat) (s : Shape c) (nx : Nat) :
    OkM P ν 252 [.ptr c.cells 0] hempty nx (IsCO (opC c) nx) := by
  refine h _ _ _ _ rfl fun hwf => ?_
  unfold V_opposite_o
  have n40 := s.n40
  have tl := s.tl
  have il := s.il
  have o8 := s.o8
  have b1 : ∀ H : Hp, pvf H .box [.ptr c.cells 0] = some (.ptr [.ptr c.cells 0] 0) := fun _ => rfl
  have b2 : ∀ H : Hp, pvf H (.mkf 377) [.ptr [.ptr c.cells 0] 0] = some (.fn 377 [.ptr [.ptr c.cells 0] 0]) := fun _ => rfl
  have b3 : ∀ H : Hp, pvf H (.ld none) [.ptr [.ptr c.cells 0] 0] = some (.ptr c.cells 0) := fun _ => rfl
  try simp (disch := (first | rfl | with_reducible assumption | with_reducible solve_by_elim (maxDepth := 8) [Shape.inT, Shape.inI, Shape.inC, Shape.inK, Shape.obF, Shape.obT, Shape.arI, Arr.inF] | omega)) only [S2, Nat.reduceEqDiff, Nat.reduceAdd, iput, puts, b1]
  refine den_newR fun H0 y0 e0 => ?_
  try simp (disch := (first | rfl | with_reducible assumption | with_reducible solve_by_elim (maxDepth := 8) [Shape.inT, Shape.inI, Shape.inC, Shape.inK, Shape.obF, Shape.obT, Shape.arI, Arr.inF] | omega)) only [S2, Nat.reduceEqDiff, Nat.reduceAdd, iput, puts, b3]
  refine ⟨den_clone hcl c.t rfl (by omega) fun va s1 H1 n1 g1 r1 l1 k1 => ⟨den_clone hcl c.f rfl (by omega) fun vb s2 H2 n2 g2 r2 l2 k2 => ⟨den_clone hcl c.i rfl (by omega) fun vd s3 H3 n3 g3 r3 l3 k3 => den_newR fun H4 x4 e4 => ?_,
    den_newR fun H3 x4 e4 => den_clone hcl c.i rfl (by omega) fun vd s3 H4 n4 g3 r3 l3 k3 => ?_⟩,
    den_newR fun H3 x4 e4 => den_clone hcl c.f rfl (by omega) fun vb s2 H2 n2 g2 r2 l2 k2 => den_clone hcl c.i rfl (by omega) fun vd s3 H4 n4 g3 r3 l3 k3 => ?_⟩,
    den_newR fun H3 x4 e4 => den_clone hcl c.t rfl (by omega) fun va s1 H1 n1 g1 r1 l1 k1 => den_clone hcl c.f rfl (by omega) fun vb s2 H2 n2 g2 r2 l2 k2 => den_clone hcl c.i rfl (by omega) fun vd s3 H4 n4 g3 r3 l3 k3 => ?_⟩
  -- the struct stands, whichever came first
  · try simp (disch := (first | rfl | with_reducible assumption | with_reducible solve_by_elim (maxDepth := 8) [Shape.inT, Shape.inI, Shape.inC, Shape.inK, Shape.obF, Shape.obT, Shape.arI, Arr.inF] | omega)) only [S2, Nat.reduceEqDiff, Nat.reduceAdd, iput, puts, p_mkaO g1.one g2.one g3.one]
    refine den_stR (o := n3) (m := 5) (d := [int c.o, va, vb, vd, .nil]) rfl rfl x4 rfl rfl (ones5 g1.one g2.one g3.one) fun H5 x5 e5 => ?_
    have yx : H5 nx = some [int 0, .nil, .nil, .nil, .nil] := by rw [e5 _ (by omega), e4 _ (by omega), k3 _ (by omega), k2 _ (by omega), k1 _ (by omega)]; exact y0
    have out : Out3 n3 c.o c.t c.f c.i [] va vb vd .nil s1 s2 s3 H5 (nx + 1) (n3 + 1) := Out3.of x5 (by omega) (by omega)
      (g1.kept fun o ho => by have := r1 o ho; rw [e5 _ (by omega), e4 _ (by omega), k3 _ (by omega), k2 _ (by omega)]) (g2.kept fun o ho => by have := r2 o ho; rw [e5 _ (by omega), e4 _ (by omega), k3 _ (by omega)]) (g3.kept fun o ho => by have := r3 o ho; rw [e5 _ (by omega), e4 _ (by omega)])
      (fun o ho => by have := r1 o ho; omega) (fun o ho => by have := r2 o ho; omega) (fun o ho => by have := r3 o ho; omega) (fun o o' h1 h2 => by have := r1 o h1; have := r2 o' h2; omega) (fun o o' h1 h2 => by have := r1 o h1; have := r3 o' h2; omega) (fun o o' h1 h2 => by have := r2 o h1; have := r3 o' h2; omega)
    try simp (disch := (first | rfl | with_reducible assumption | with_reducible solve_by_elim (maxDepth := 8) [Shape.inT, Shape.inI, Shape.inC, Shape.inK, Shape.obF, Shape.obT, Shape.arI, Arr.inF] | omega)) only [S2, Nat.reduceEqDiff, Nat.reduceAdd, iput, puts, b2]
    refine den_callm (fc := (353, [])) rfl (table_ok har hta (fun a b => c.K b a) c.o va vb vd c.t c.f c.i 377 [.ptr [.ptr c.cells 0] 0] _ _ _ out.obj out.qh (out.g1.rd fun o ho => (out.r1 o ho).2) (out.g2.rd fun o ho => (out.r2 o ho).2) (out.g3.rd fun o ho => (out.r3 o ho).2) (by omega) (by omega) fun a b H' ha hb _ _ => ⟨_, rfl, opposite1_fz' hth h1 c s a b (by omega) (by omega)⟩) (IsTbl.some' out.qh) fun u H9 n9 hu => ?_
    obtain ⟨rfl, rfl, hT⟩ := hu
    rw [opC_tbl' s] at hT
    have oqh := out.qh
    have oql := out.ql
    have out3 := out.table hT
    have y9 := (hT.low nx (by omega) (by omega)).trans yx
    try simp (disch := (first | rfl | with_reducible assumption | with_reducible solve_by_elim (maxDepth := 8) [Shape.inT, Shape.inI, Shape.inC, Shape.inK, Shape.obF, Shape.obT, Shape.arI, Arr.inF] | omega)) only [S2, Nat.reduceEqDiff, Nat.reduceAdd, iput, puts, p_ldsm (l := 5) out3.obj rfl]
    refine den_stR (o := nx) (m := 5) rfl rfl y9 rfl rfl out3.ones fun H10 y10 e10 => ?_
    have out4 := out3.mono (H' := H10) (Nat.le_refl _) fun t h1 _ => e10 t (by omega)
    obtain ⟨H11, q4, r0, q5, q6⟩ := out4.own.back (w := int 0) (nx := nx) (by omega) (by omega)
    cases q5
    rw [opC_tbl' s]
    exact ⟨_, (by simp only [retOf, rets, SS, Nat.reduceEqDiff, Nat.reduceAdd, iput, puts, pLd, y10]; rfl), H11, q4, q6⟩
  · try simp (disch := (first | rfl | with_reducible assumption | with_reducible solve_by_elim (maxDepth := 8) [Shape.inT, Shape.inI, Shape.inC, Shape.inK, Shape.obF, Shape.obT, Shape.arI, Arr.inF] | omega)) only [S2, Nat.reduceEqDiff, Nat.reduceAdd, iput, puts, p_mkaO g1.one g2.one g3.one]
    have x4 := (k3 _ (by omega)).trans x4
    refine den_stR (o := n2) (m := 5) (d := [int c.o, va, vb, vd, .nil]) rfl rfl x4 rfl rfl (ones5 g1.one g2.one g3.one) fun H5 x5 e5 => ?_
    have yx : H5 nx = some [int 0, .nil, .nil, .nil, .nil] := by rw [e5 _ (by omega), k3 _ (by omega), e4 _ (by omega), k2 _ (by omega), k1 _ (by omega)]; exact y0
    have out : Out3 n2 c.o c.t c.f c.i [] va vb vd .nil s1 s2 s3 H5 (nx + 1) n4 := Out3.of x5 (by omega) (by omega)
      (g1.kept fun o ho => by have := r1 o ho; rw [e5 _ (by omega), k3 _ (by omega), e4 _ (by omega), k2 _ (by omega)]) (g2.kept fun o ho => by have := r2 o ho; rw [e5 _ (by omega), k3 _ (by omega), e4 _ (by omega)]) (g3.kept fun o ho => by have := r3 o ho; rw [e5 _ (by omega)])
      (fun o ho => by have := r1 o ho; omega) (fun o ho => by have := r2 o ho; omega) (fun o ho => by have := r3 o ho; omega) (fun o o' h1 h2 => by have := r1 o h1; have := r2 o' h2; omega) (fun o o' h1 h2 => by have := r1 o h1; have := r3 o' h2; omega) (fun o o' h1 h2 => by have := r2 o h1; have := r3 o' h2; omega)
    try simp (disch := (first | rfl | with_reducible assumption | with_reducible solve_by_elim (maxDepth := 8) [Shape.inT, Shape.inI, Shape.inC, Shape.inK, Shape.obF, Shape.obT, Shape.arI, Arr.inF] | omega)) only [S2, Nat.reduceEqDiff, Nat.reduceAdd, iput, puts, b2]
    refine den_callm (fc := (353, [])) rfl (table_ok har hta (fun a b => c.K b a) c.o va vb vd c.t c.f c.i 377 [.ptr [.ptr c.cells 0] 0] _ _ _ out.obj out.qh (out.g1.rd fun o ho => (out.r1 o ho).2) (out.g2.rd fun o ho => (out.r2 o ho).2) (out.g3.rd fun o ho => (out.r3 o ho).2) (by omega) (by omega) fun a b H' ha hb _ _ => ⟨_, rfl, opposite1_fz' hth h1 c s a b (by omega) (by omega)⟩) (IsTbl.some' out.qh) fun u H9 n9 hu => ?_
    obtain ⟨rfl, rfl, hT⟩ := hu
    rw [opC_tbl' s] at hT
    have oqh := out.qh
    have oql := out.ql
    have out3 := out.table hT
    have y9 := (hT.low nx (by omega) (by omega)).trans yx
    try simp (disch := (first | rfl | with_reducible assumption | with_reducible solve_by_elim (maxDepth := 8) [Shape.inT, Shape.inI, Shape.inC, Shape.inK, Shape.obF, Shape.obT, Shape.arI, Arr.inF] | omega)) only [S2, Nat.reduceEqDiff, Nat.reduceAdd, iput, puts, p_ldsm (l := 5) out3.obj rfl]
    refine den_stR (o := nx) (m := 5) rfl rfl y9 rfl rfl out3.ones fun H10 y10 e10 => ?_
    have out4 := out3.mono (H' := H10) (Nat.le_refl _) fun t h1 _ => e10 t (by omega)
    obtain ⟨H11, q4, r0, q5, q6⟩ := out4.own.back (w := int 0) (nx := nx) (by omega) (by omega)
    cases q5
    rw [opC_tbl' s]
    exact ⟨_, (by simp only [retOf, rets, SS, Nat.reduceEqDiff, Nat.reduceAdd, iput, puts, pLd, y10]; rfl), H11, q4, q6⟩
  · try simp (disch := (first | rfl | with_reducible assumption | with_reducible solve_by_elim (maxDepth := 8) [Shape.inT, Shape.inI, Shape.inC, Shape.inK, Shape.obF, Shape.obT, Shape.arI, Arr.inF] | omega)) only [S2, Nat.reduceEqDiff, Nat.reduceAdd, iput, puts, p_mkaO g1.one g2.one g3.one]
    have x4 := (k3 _ (by omega)).trans ((k2 _ (by omega)).trans x4)
    refine den_stR (o := n1) (m := 5) (d := [int c.o, va, vb, vd, .nil]) rfl rfl x4 rfl rfl (ones5 g1.one g2.one g3.one) fun H5 x5 e5 => ?_
    have yx : H5 nx = some [int 0, .nil, .nil, .nil, .nil] := by rw [e5 _ (by omega), k3 _ (by omega), k2 _ (by omega), e4 _ (by omega), k1 _ (by omega)]; exact y0
    have out : Out3 n1 c.o c.t c.f c.i [] va vb vd .nil s1 s2 s3 H5 (nx + 1) n4 := Out3.of x5 (by omega) (by omega)
      (g1.kept fun o ho => by have := r1 o ho; rw [e5 _ (by omega), k3 _ (by omega), k2 _ (by omega), e4 _ (by omega)]) (g2.kept fun o ho => by have := r2 o ho; rw [e5 _ (by omega), k3 _ (by omega)]) (g3.kept fun o ho => by have := r3 o ho; rw [e5 _ (by omega)])
      (fun o ho => by have := r1 o ho; omega) (fun o ho => by have := r2 o ho; omega) (fun o ho => by have := r3 o ho; omega) (fun o o' h1 h2 => by have := r1 o h1; have := r2 o' h2; omega) (fun o o' h1 h2 => by have := r1 o h1; have := r3 o' h2; omega) (fun o o' h1 h2 => by have := r2 o h1; have := r3 o' h2; omega)
    try simp (disch := (first | rfl | with_reducible assumption | with_reducible solve_by_elim (maxDepth := 8) [Shape.inT, Shape.inI, Shape.inC, Shape.inK, Shape.obF, Shape.obT, Shape.arI, Arr.inF] | omega)) only [S2, Nat.reduceEqDiff, Nat.reduceAdd, iput, puts, b2]
    refine den_callm (fc := (353, [])) rfl (table_ok har hta (fun a b => c.K b a) c.o va vb vd c.t c.f c.i 377 [.ptr [.ptr c.cells 0] 0] _ _ _ out.obj out.qh (out.g1.rd fun o ho => (out.r1 o ho).2) (out.g2.rd fun o ho => (out.r2 o ho).2) (out.g3.rd fun o ho => (out.r3 o ho).2) (by omega) (by omega) fun a b H' ha hb _ _ => ⟨_, rfl, opposite1_fz' hth h1 c s a b (by omega) (by omega)⟩) (IsTbl.some' out.qh) fun u H9 n9 hu => ?_
    obtain ⟨rfl, rfl, hT⟩ := hu
    rw [opC_tbl' s] at hT
    have oqh := out.qh
    have oql := out.ql
    have out3 := out.table hT
    have y9 := (hT.low nx (by omega) (by omega)).trans yx
    try simp (disch := (first | rfl | with_reducible assumption | with_reducible solve_by_elim (maxDepth := 8) [Shape.inT, Shape.inI, Shape.inC, Shape.inK, Shape.obF, Shape.obT, Shape.arI, Arr.inF] | omega)) only [S2, Nat.reduceEqDiff, Nat.reduceAdd, iput, puts, p_ldsm (l := 5) out3.obj rfl]
    refine den_stR (o := nx) (m := 5) rfl rfl y9 rfl rfl out3.ones fun H10 y10 e10 => ?_
    have out4 := out3.mono (H' := H10) (Nat.le_refl _) fun t h1 _ => e10 t (by omega)
    obtain ⟨H11, q4, r0, q5, q6⟩ := out4.own.back (w := int 0) (nx := nx) (by omega) (by omega)
    cases q5
    rw [opC_tbl' s]
    exact ⟨_, (by simp only [retOf, rets, SS, Nat.reduceEqDiff, Nat.reduceAdd, iput, puts, pLd, y10]; rfl), H11, q4, q6⟩
  · try simp (disch := (first | rfl | with_reducible assumption | with_reducible solve_by_elim (maxDepth := 8) [Shape.inT, Shape.inI, Shape.inC, Shape.inK, Shape.obF, Shape.obT, Shape.arI, Arr.inF] | omega)) only [S2, Nat.reduceEqDiff, Nat.reduceAdd, iput, puts, p_mkaO g1.one g2.one g3.one]
    have x4 := (k3 _ (by omega)).trans ((k2 _ (by omega)).trans ((k1 _ (by omega)).trans x4))
    refine den_stR (o := nx + 1) (m := 5) (d := [int c.o, va, vb, vd, .nil]) rfl rfl x4 rfl rfl (ones5 g1.one g2.one g3.one) fun H5 x5 e5 => ?_
    have yx : H5 nx = some [int 0, .nil, .nil, .nil, .nil] := by rw [e5 _ (by omega), k3 _ (by omega), k2 _ (by omega), k1 _ (by omega), e4 _ (by omega)]; exact y0
    have out : Out3 (nx + 1) c.o c.t c.f c.i [] va vb vd .nil s1 s2 s3 H5 (nx + 1) n4 := Out3.of x5 (by omega) (by omega)
      (g1.kept fun o ho => by have := r1 o ho; rw [e5 _ (by omega), k3 _ (by omega), k2 _ (by omega)]) (g2.kept fun o ho => by have := r2 o ho; rw [e5 _ (by omega), k3 _ (by omega)]) (g3.kept fun o ho => by have := r3 o ho; rw [e5 _ (by omega)])
      (fun o ho => by have := r1 o ho; omega) (fun o ho => by have := r2 o ho; omega) (fun o ho => by have := r3 o ho; omega) (fun o o' h1 h2 => by have := r1 o h1; have := r2 o' h2; omega) (fun o o' h1 h2 => by have := r1 o h1; have := r3 o' h2; omega) (fun o o' h1 h2 => by have := r2 o h1; have := r3 o' h2; omega)
    try simp (disch := (first | rfl | with_reducible assumption | with_reducible solve_by_elim (maxDepth := 8) [Shape.inT, Shape.inI, Shape.inC, Shape.inK, Shape.obF, Shape.obT, Shape.arI, Arr.inF] | omega)) only [S2, Nat.reduceEqDiff, Nat.reduceAdd, iput, puts, b2]
    refine den_callm (fc := (353, [])) rfl (table_ok har hta (fun a b => c.K b a) c.o va vb vd c.t c.f c.i 377 [.ptr [.ptr c.cells 0] 0] _ _ _ out.obj out.qh (out.g1.rd fun o ho => (out.r1 o ho).2) (out.g2.rd fun o ho => (out.r2 o ho).2) (out.g3.rd fun o ho => (out.r3 o ho).2) (by omega) (by omega) fun a b H' ha hb _ _ => ⟨_, rfl, opposite1_fz' hth h1 c s a b (by omega) (by omega)⟩) (IsTbl.some' out.qh) fun u H9 n9 hu => ?_
    obtain ⟨rfl, rfl, hT⟩ := hu
    rw [opC_tbl' s] at hT
    have oqh := out.qh
    have oql := out.ql
    have out3 := out.table hT
    have y9 := (hT.low nx (by omega) (by omega)).trans yx
    try simp (disch := (first | rfl | with_reducible assumption | with_reducible solve_by_elim (maxDepth := 8) [Shape.inT, Shape.inI, Shape.inC, Shape.inK, Shape.obF, Shape.obT, Shape.arI, Arr.inF] | omega)) only [S2, Nat.reduceEqDiff, Nat.reduceAdd, iput, puts, p_ldsm (l := 5) out3.obj rfl]
    refine den_stR (o := nx) (m := 5) rfl rfl y9 rfl rfl out3.ones fun H10 y10 e10 => ?_
    have out4 := out3.mono (H' := H10) (Nat.le_refl _) fun t h1 _ => e10 t (by omega)
    obtain ⟨H11, q4, r0, q5, q6⟩ := out4.own.back (w := int 0) (nx := nx) (by omega) (by omega)
    cases q5
    rw [opC_tbl' s]
    exact ⟨_, (by simp only [retOf, rets, SS, Nat.reduceEqDiff, Nat.reduceAdd, iput, puts, pLd, y10]; rfl), H11, q4, q6⟩
theorem opC_small2 {c : Cat} (s : Shape c) : Small2 (opC c) := by
  have n40 := s.n40
  have tl := s.tl
  have il := s.il
  have o8 := s.o8
  refine ⟨⟨by show c.t.length ≤ _; omega, by show c.f.length ≤ _; omega, by show c.i.length ≤ _; omega, by simp [opC]; omega⟩, fun k hk => ?_⟩
  have hk' : k < c.f.length := by simpa [opC] using hk
  rw [opC_row hk']
  simp
  omega
theorem l03Op_fi' (ho : Has P ν 259 1 V_spec_l01Own) (h : Has P ν 251 1 V_spec_l03Op) (c : Cat) (s : Shape c) : Fi (OkM P ν) 251 [.agg c.cells] (.agg (opC c).cells) :=
  OkM.fi (fun H nx => l03Op_ok ho h c s H nx) fun r H' nx' hh => by
    obtain ⟨v, rfl, _, h2, _⟩ := hh
    show ([int c.o, islice c.t, islice c.f, islice c.i, v].mapM (Av.frz H' 5)).map AV.agg = _
    simp only [List.mapM_cons, List.mapM_nil, h2.frz 3]
    rfl

def V_OppositeCategory : Vc :=
  .op true (.p .box [.t 0]) <|
  .op true (.new [int 0, .nil, .nil, .nil, .nil]) <|
  .op true (.call (.f 24) [.t 1]) <|
  .op true (.p .bnot [.t 3]) <|
  .br 4
   (.op true (.p (.mka [int 0, .nil, .nil, .nil, .nil] []) []) <|
   .op true (.st 5 (.t 2) (.t 5)) <|
   .ret [(.t 2, some (some 5)), (.c (int 1), none)])
   (.op true (.callo (.f 252) [.t 1]) <|
   .op true (.st 5 (.t 2) (.t 5)) <|
   .ret [(.t 2, some (some 5)), (.c (int 0), none)])
def V_spec_OppositeCategory : Vc :=
  .op true (.p .box [.t 0]) <|
  .op true (.new [int 0, .nil, .nil, .nil, .nil]) <|
  .op true (.p (.ld (some 5)) [.t 1]) <|
  .op true (.call (.f 22) [.t 3]) <|
  .op true (.p .bnot [.t 4]) <|
  .br 5
   (.op true (.p (.mka [int 0, .nil, .nil, .nil, .nil] []) []) <|
   .op true (.st 5 (.t 2) (.t 6)) <|
   .ret [(.t 2, some (some 5)), (.c (int 1), none)])
   (.op true (.p (.ld (some 5)) [.t 1]) <|
   .op true (.call (.f 251) [.t 6]) <|
   .op true (.st 5 (.t 2) (.t 7)) <|
   .ret [(.t 2, some (some 5)), (.c (int 0), none)])
set_option maxHeartbeats 2000000 in
theorem OppositeCategory_both (K : HCat P ν) (hcl : Has P ν 261 1 V_clone) (hta : Has P ν 353 2 V_Category_table) (h1 : Has P ν 377 3 V_opposite_1) (ho : Has P ν 252 1 V_opposite_o) (h : Has P ν 113 1 V_OppositeCategory) (KS : HSpec P ν) (how : Has P ν 259 1 V_spec_l01Own) (hop : Has P ν 251 1 V_spec_l03Op) (hs : Has P ν 112 1 V_spec_OppositeCategory) (c : Cat) (b : Small c) :
    BothK P ν 113 112 [.agg c.cells] := by
  by_cases hc : IsCat c
  · have s := hc.1
    refine ⟨opC c, 0, opC_small2 s, fun nx => h _ _ _ _ rfl fun hwf => ?_, hs _ _ _ _ rfl fun hwf => ?_⟩
    · unfold V_OppositeCategory
      try simp (disch := (first | rfl | with_reducible assumption | with_reducible solve_by_elim (maxDepth := 8) [Shape.inT, Shape.inI, Shape.inC, Shape.inK, Shape.obF, Shape.obT, Shape.arI, Arr.inF] | omega)) only [S2, Nat.reduceEqDiff, Nat.reduceAdd, iput, puts]
      refine den_newR fun H0 y0 e0 => ?_
      repeat (first | simp (disch := (first | rfl | with_reducible assumption | with_reducible solve_by_elim (maxDepth := 8) [Shape.inT, Shape.inI, Shape.inC, Shape.inK, Shape.obF, Shape.obT, Shape.arI, Arr.inF] | omega)) only [S2, Nat.reduceEqDiff, Nat.reduceAdd, iput, puts, hc] | (refine den_call rfl (by first | (simp only [SS, Nat.reduceEqDiff, Nat.reduceAdd, iput, puts, FF, frzL_cat]; done) | (simp only [SS, Nat.reduceEqDiff, Nat.reduceAdd, iput, puts, FF, frzL_cat]; rfl)) (by first | exact (isCategory_ok K c b).fzb) ?_) | (refine den_calli rfl (by first | (simp only [SS, Nat.reduceEqDiff, Nat.reduceAdd, iput, puts, FF, frzL_cat]; done) | (simp only [SS, Nat.reduceEqDiff, Nat.reduceAdd, iput, puts, FF, frzL_cat]; rfl)) (by first | exact (isCategory_ok K c b).fzb) ?_))
      refine den_callo (fc := (252, [])) (ys := [.ptr c.cells 0]) rfl (by simp only [SS, Nat.reduceEqDiff, Nat.reduceAdd, iput, puts, FF, frzL_cat]) (opposite_own K.arrows K.thn hcl hta h1 ho c s (nx + 1)) (IsCO.some _ _) fun u H' nx' hu => ?_
      obtain ⟨q1, q2, q3, own⟩ := hu.own H0
      refine ⟨q1, q2, ?_⟩
      have y1 : hmerge (nx + 1) H0 H' nx = some [int 0, .nil, .nil, .nil, .nil] := (hmerge_lo (by omega)).trans y0
      generalize hmerge (nx + 1) H0 H' = H1 at own y1
      obtain ⟨ga, gb, gd, ge, rfl, ownC⟩ := own
      have own : OwnK (opC c) (.agg [int (opC c).o, ga, gb, gd, ge]) _ _ _ := ⟨ga, gb, gd, ge, rfl, ownC⟩
      clear ownC
      try simp (disch := (first | rfl | with_reducible assumption | with_reducible solve_by_elim (maxDepth := 8) [Shape.inT, Shape.inI, Shape.inC, Shape.inK, Shape.obF, Shape.obT, Shape.arI, Arr.inF] | omega)) only [S2, Nat.reduceEqDiff, Nat.reduceAdd, iput, puts]
      refine den_stR (o := nx) (m := 5) (d := [int (opC c).o, ga, gb, gd, ge]) rfl rfl y1 rfl rfl own.one5 fun H4 y4 e4 => ?_
      have own := own.mono (Nat.le_refl _) fun o h1 h2 => e4 o (by omega)
      obtain ⟨H5, q4, q5⟩ := own.back (w := int 0) (nx := nx) (by omega) (by omega)
      refine ⟨.tup [.agg [int (opC c).o, ga, gb, gd, ge], int 0], ?_, H5, q4, q5⟩
      simp only [retOf, rets, SS, Nat.reduceEqDiff, Nat.reduceAdd, iput, puts, pLd, y4]
      rfl
    · unfold V_spec_OppositeCategory
      try simp (disch := (first | rfl | with_reducible assumption | with_reducible solve_by_elim (maxDepth := 8) [Shape.inT, Shape.inI, Shape.inC, Shape.inK, Shape.obF, Shape.obT, Shape.arI, Arr.inF] | omega)) only [S2, Nat.reduceEqDiff, Nat.reduceAdd, iput, puts]
      refine den_newR fun H0 y0 e0 => ?_
      have e := l03Op_fi' (P := P) (ν := ν) how hop c s
      repeat (first | simp (disch := (first | rfl | with_reducible assumption | with_reducible solve_by_elim (maxDepth := 8) [Shape.inT, Shape.inI, Shape.inC, Shape.inK, Shape.obF, Shape.obT, Shape.arI, Arr.inF] | omega)) only [S2, Nat.reduceEqDiff, Nat.reduceAdd, iput, puts, hc] | (refine den_call rfl (by first | (simp only [SS, Nat.reduceEqDiff, Nat.reduceAdd, iput, puts, FF, frzL_cat]; done) | (simp only [SS, Nat.reduceEqDiff, Nat.reduceAdd, iput, puts, FF, frzL_cat]; rfl)) (by first | exact (l02Is_ok KS c b).fzb | exact e) ?_) | (refine den_calli rfl (by first | (simp only [SS, Nat.reduceEqDiff, Nat.reduceAdd, iput, puts, FF, frzL_cat]; done) | (simp only [SS, Nat.reduceEqDiff, Nat.reduceAdd, iput, puts, FF, frzL_cat]; rfl)) (by first | exact (l02Is_ok KS c b).fzb | exact e) ?_))
      refine den_stR (o := 0) (m := 5) (d := (opC c).cells) rfl rfl y0 rfl rfl rfl fun H4 y4 e4 => ?_
      refine ⟨.tup [.agg (opC c).cells, int 0], ?_, H4, fun _ _ h => h, frz_kc _ _⟩
      simp only [retOf, rets, SS, Nat.reduceEqDiff, Nat.reduceAdd, iput, puts, pLd, y4]
      rfl
  · refine ⟨zeroK, 1, zeroK_small, fun nx => h _ _ _ _ rfl fun hwf => ?_, hs _ _ _ _ rfl fun hwf => ?_⟩
    · unfold V_OppositeCategory
      try simp (disch := (first | rfl | with_reducible assumption | with_reducible solve_by_elim (maxDepth := 8) [Shape.inT, Shape.inI, Shape.inC, Shape.inK, Shape.obF, Shape.obT, Shape.arI, Arr.inF] | omega)) only [S2, Nat.reduceEqDiff, Nat.reduceAdd, iput, puts]
      refine den_newR fun H0 y0 e0 => ?_
      repeat (first | simp (disch := (first | rfl | with_reducible assumption | with_reducible solve_by_elim (maxDepth := 8) [Shape.inT, Shape.inI, Shape.inC, Shape.inK, Shape.obF, Shape.obT, Shape.arI, Arr.inF] | omega)) only [S2, Nat.reduceEqDiff, Nat.reduceAdd, iput, puts, hc, mkZ] | (refine den_call rfl (by first | (simp only [SS, Nat.reduceEqDiff, Nat.reduceAdd, iput, puts, FF, frzL_cat]; done) | (simp only [SS, Nat.reduceEqDiff, Nat.reduceAdd, iput, puts, FF, frzL_cat]; rfl)) (by first | exact (isCategory_ok K c b).fzb) ?_) | (refine den_calli rfl (by first | (simp only [SS, Nat.reduceEqDiff, Nat.reduceAdd, iput, puts, FF, frzL_cat]; done) | (simp only [SS, Nat.reduceEqDiff, Nat.reduceAdd, iput, puts, FF, frzL_cat]; rfl)) (by first | exact (isCategory_ok K c b).fzb) ?_))
      refine den_stR (o := nx) (m := 5) (d := [int 0, .nil, .nil, .nil, .nil]) rfl rfl y0 rfl rfl rfl fun H1 y1 e1 => ?_
      obtain ⟨H', q1, q2⟩ := (zeroK_own (H := H1) (lo := nx) (hi := nx + 1)).back (w := int 1) (Nat.le_refl _) (by omega)
      refine ⟨.tup [.agg [int 0, .nil, .nil, .nil, .nil], int 1], ?_, H', q1, q2⟩
      simp only [retOf, rets, SS, Nat.reduceEqDiff, Nat.reduceAdd, iput, puts, pLd, y1]
      rfl
    · unfold V_spec_OppositeCategory
      try simp (disch := (first | rfl | with_reducible assumption | with_reducible solve_by_elim (maxDepth := 8) [Shape.inT, Shape.inI, Shape.inC, Shape.inK, Shape.obF, Shape.obT, Shape.arI, Arr.inF] | omega)) only [S2, Nat.reduceEqDiff, Nat.reduceAdd, iput, puts]
      refine den_newR fun H0 y0 e0 => ?_
      repeat (first | simp (disch := (first | rfl | with_reducible assumption | with_reducible solve_by_elim (maxDepth := 8) [Shape.inT, Shape.inI, Shape.inC, Shape.inK, Shape.obF, Shape.obT, Shape.arI, Arr.inF] | omega)) only [S2, Nat.reduceEqDiff, Nat.reduceAdd, iput, puts, hc, mkZ] | (refine den_call rfl (by first | (simp only [SS, Nat.reduceEqDiff, Nat.reduceAdd, iput, puts, FF, frzL_cat]; done) | (simp only [SS, Nat.reduceEqDiff, Nat.reduceAdd, iput, puts, FF, frzL_cat]; rfl)) (by first | exact (l02Is_ok KS c b).fzb) ?_) | (refine den_calli rfl (by first | (simp only [SS, Nat.reduceEqDiff, Nat.reduceAdd, iput, puts, FF, frzL_cat]; done) | (simp only [SS, Nat.reduceEqDiff, Nat.reduceAdd, iput, puts, FF, frzL_cat]; rfl)) (by first | exact (l02Is_ok KS c b).fzb) ?_))
      refine den_stR (o := 0) (m := 5) (d := [int 0, .nil, .nil, .nil, .nil]) rfl rfl y0 rfl rfl rfl fun H1 y1 e1 => ?_
      refine ⟨.tup [.agg [int 0, .nil, .nil, .nil, .nil], int 1], ?_, H1, fun _ _ h => h, frz_k0 _⟩
      simp only [retOf, rets, SS, Nat.reduceEqDiff, Nat.reduceAdd, iput, puts, pLd, y1]
      rfl
end Go.Av
