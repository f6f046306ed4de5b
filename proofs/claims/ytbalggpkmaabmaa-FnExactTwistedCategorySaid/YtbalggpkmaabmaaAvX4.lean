/-
  The twisted arrows of a category: pieces of the program.
-/
import Derived.Test.YtbalggpkmaabmaaAvX3
namespace Go.Av
open Classical
set_option linter.unusedSimpArgs false
set_option linter.unusedVariables false
variable {P : Program} {ν : Nat → FuncId}

def tw4c (t : Tw) : List AV := [int t.1, int t.2.1, int t.2.2.1, int t.2.2.2]
def twCells (L : List Tw) : List AV := L.flatMap tw4c
theorem twCells_len (L : List Tw) : (twCells L).length = L.length * 4 := by
  induction L with
  | nil => rfl
  | cons t L ih => unfold twCells at ih ⊢; rw [List.flatMap_cons, List.length_append, ih, List.length_cons]; show 4 + _ = _; omega
theorem twCells_at {L : List Tw} {k : Nat} (h : k < L.length) : ((twCells L).drop (k * 4)).take 4 = tw4c (L.getD k tw0) := by
  induction L generalizing k with
  | nil => simp at h
  | cons t L ih =>
    cases k with
    | zero => simp [twCells, tw4c]
    | succ k =>
      have := ih (k := k) (by simpa using h)
      unfold twCells at this ⊢
      rw [List.flatMap_cons, show (k + 1) * 4 = 4 + k * 4 by omega, ← List.drop_drop, show (tw4c t ++ List.flatMap tw4c L).drop 4 = List.flatMap tw4c L from rfl, this]
      rfl
theorem twCells_frz (H : Hp) (k : Nat) (L : List Tw) : (twCells L).mapM (frz H k) = some (twCells L) := by
  induction L with
  | nil => rfl
  | cons t L ih =>
    have e : twCells (t :: L) = int t.1 :: int t.2.1 :: int t.2.2.1 :: int t.2.2.2 :: twCells L := rfl
    have q : ∀ i : Int, frz H k (int i) = some (int i) := fun i => by cases k <;> rfl
    rw [e]
    simp only [List.mapM_cons, q, ih]
    rfl
theorem twCells_one (L : List Tw) : (twCells L).all AV.one = true := by
  induction L with
  | nil => rfl
  | cons t L ih => unfold twCells at ih ⊢; rw [List.flatMap_cons, List.all_append, ih]; rfl
section
variable {H : Hp} {L : List Tw} {k : Nat}
theorem tw_iad (h : k < L.length) : pvf H (.iad 4) [.sl (twCells L) L.length, int (k : Int)] = some (.ptr (twCells L) (k * 4)) := by
  rw [p_iad, if_pos ⟨by omega, by omega⟩]; rfl
theorem tw_ld (h : k < L.length) : pvf H (.ld (some 4)) [.ptr (twCells L) (k * 4)] = some (.agg (tw4c (L.getD k tw0))) := by
  have := twCells_len L
  show (if k * 4 + 4 ≤ (twCells L).length then some (AV.agg (((twCells L).drop (k * 4)).take 4)) else none) = _
  rw [if_pos (by omega), twCells_at h]
theorem tw_box {t : Tw} : pvf H .box [.agg (tw4c t)] = some (.ptr (tw4c t) 0) := p_box rfl rfl
theorem tw_ld0 {t : Tw} : pvf H (.ld (some 4)) [.ptr (tw4c t) 0] = some (.agg (tw4c t)) := p_lda rfl
theorem tw_eq {a b : Tw} : pvf H (.eqs false 4) [.agg (tw4c a), .agg (tw4c b)] = some (bool (decide (a = b))) := by
  obtain ⟨a1, a2, a3, a4⟩ := a
  obtain ⟨b1, b2, b3, b4⟩ := b
  simp [pvf, pEqs, avI, int, bool, tw4c]
  by_cases e1 : a1 = b1 <;> by_cases e2 : a2 = b2 <;> by_cases e3 : a3 = b3 <;> by_cases e4 : a4 = b4 <;> simp [e1, e2, e3, e4]
theorem tw_mka {a b d e : Int} : pvf H (.mka [int 0, int 0, int 0, int 0] [(0, 1), (1, 1), (2, 1), (3, 1)]) [int a, int b, int d, int e] = some (.agg (tw4c (a, b, d, e))) := rfl
theorem tw_msl {t : Tw} : pvf H (.msl 1 [int 0, int 0, int 0, int 0] [(0, 4)]) [.agg (tw4c t)] = some (.sl (tw4c t) 1) := rfl
end
def V_slices_Index_twist_twist : Vc :=
  .op true (.p .box [.t 1]) <|
  .op true (.p .len [.t 0]) <|
  .loop 0 [.c (int 0)] <|
  .op true (.p (.bin .lss) [.t 4, .t 3]) <|
  .br 5
   (.op true (.p (.ld (some 4)) [.t 2]) <|
   .op true (.p (.iad 4) [.t 0, .t 4]) <|
   .op true (.p (.ld (some 4)) [.t 7]) <|
   .op true (.p (.eqs false 4) [.t 6, .t 8]) <|
   .br 9
    (.ret [(.t 4, none)])
    (.op true (.p (.bin .add) [.t 4, .c (int 1)]) <|
    .again 0 [.t 10]))
   (.ret [(.c (int (-1)), none)])
theorem sliceIndexT_fz (h : Has P ν 417 2 V_slices_Index_twist_twist) (L : List Tw) (x : Tw) (hl : L.length ≤ 1099511627776) : Fz (OkM P ν) 417 [.sl (twCells L) L.length, .agg (tw4c x)] (int (idxT L x)) := by
  refine Fn.fzi fun H nx => h _ _ _ _ rfl fun hwf => ?_
  unfold V_slices_Index_twist_twist
  try simp (disch := (first | rfl | with_reducible assumption | with_reducible solve_by_elim (maxDepth := 8) [Shape.inT, Shape.inI, Shape.inC, Shape.inK, Shape.obF, Shape.obT, Shape.arI, Arr.inF] | omega)) only [S2, Nat.reduceEqDiff, Nat.reduceAdd, iput, puts, tw_box]
  refine den_loop (α := Nat) (fun a => [int a]) (fun a H' nx' => a ≤ L.length ∧ (∀ j, j < a → L.getD j tw0 ≠ x) ∧ H' = H ∧ nx' = nx) (fun a => L.length - a) 0 rfl ⟨Nat.zero_le _, fun x hx => by omega, rfl, rfl⟩ ?_
  rintro k H2 n2 ⟨hk, hall, rfl, rfl⟩
  have gd : ∀ j (hj : j < L.length), L.getD j tw0 = L[j] := fun j hj => by simp [List.getD, hj]
  by_cases hlk : k < L.length
  · try simp (disch := (first | rfl | with_reducible assumption | with_reducible solve_by_elim (maxDepth := 8) [Shape.inT, Shape.inI, Shape.inC, Shape.inK, Shape.obF, Shape.obT, Shape.arI, Arr.inF] | omega)) only [S2, Nat.reduceEqDiff, Nat.reduceAdd, iput, puts, hlk, tw_ld0, tw_iad hlk, tw_ld hlk, tw_eq]
    refine ⟨fun e => ?_, fun e => ?_⟩
    · refine ⟨_, rfl, _, fun _ _ h => h, ?_, rfl, Nat.le_refl _⟩
      have : idxT L x = (k : Int) := idxT_at hlk (by rw [← gd k hlk]; exact e.symm) fun j hj => by rw [← gd j (by omega)]; exact hall j hj
      rw [this]
      rfl
    · try simp (disch := (first | rfl | with_reducible assumption | with_reducible solve_by_elim (maxDepth := 8) [Shape.inT, Shape.inI, Shape.inC, Shape.inK, Shape.obF, Shape.obT, Shape.arI, Arr.inF] | omega)) only [S2, Nat.reduceEqDiff, Nat.reduceAdd, iput, puts]
      refine ⟨k + 1, rfl, ⟨by omega, fun y hy => ?_⟩, by omega⟩
      by_cases ey : y = k
      · rw [ey]; exact fun q => e q.symm
      · exact hall y (by omega)
  · try simp (disch := (first | rfl | with_reducible assumption | with_reducible solve_by_elim (maxDepth := 8) [Shape.inT, Shape.inI, Shape.inC, Shape.inK, Shape.obF, Shape.obT, Shape.arI, Arr.inF] | omega)) only [S2, Nat.reduceEqDiff, Nat.reduceAdd, iput, puts, hlk]
    refine ⟨_, rfl, _, fun _ _ h => h, ?_, rfl, Nat.le_refl _⟩
    rw [idxT_none]
    · rfl
    · intro hm
      obtain ⟨j, hj, e⟩ := List.mem_iff_getElem.1 hm
      exact hall j (by omega) (by rw [gd j hj]; exact e)
def V_index_twist : Vc :=
  .op true (.p .box [.t 1]) <|
  .op true (.p (.ld (some 4)) [.t 2]) <|
  .op true (.call (.f 417) [.t 0, .t 3]) <|
  .ret [(.t 4, none)]
theorem indexT_fz (hs : Has P ν 417 2 V_slices_Index_twist_twist) (h : Has P ν 355 2 V_index_twist) (L : List Tw) (x : Tw) (hl : L.length ≤ 1099511627776) : Fz (OkM P ν) 355 [.sl (twCells L) L.length, .agg (tw4c x)] (int (idxT L x)) := by
  refine Fn.fzi fun H nx => h _ _ _ _ rfl fun hwf => ?_
  unfold V_index_twist
  repeat (first | simp (disch := (first | rfl | with_reducible assumption | with_reducible solve_by_elim (maxDepth := 8) [Shape.inT, Shape.inI, Shape.inC, Shape.inK, Shape.obF, Shape.obT, Shape.arI, Arr.inF] | omega)) only [S2, Nat.reduceEqDiff, Nat.reduceAdd, iput, puts, tw_box, tw_ld0] | (refine den_call rfl (by first | (simp only [SS, Nat.reduceEqDiff, Nat.reduceAdd, iput, puts, FF, frzL_cat]; done) | (simp only [SS, Nat.reduceEqDiff, Nat.reduceAdd, iput, puts, FF, frzL_cat]; rfl)) (by first | exact sliceIndexT_fz hs L x hl) ?_) | (refine den_calli rfl (by first | (simp only [SS, Nat.reduceEqDiff, Nat.reduceAdd, iput, puts, FF, frzL_cat]; done) | (simp only [SS, Nat.reduceEqDiff, Nat.reduceAdd, iput, puts, FF, frzL_cat]; rfl)) (by first | exact sliceIndexT_fz hs L x hl) ?_))
  exact ⟨_, rfl, H, fun _ _ h => h, rfl, rfl, Nat.le_refl _⟩
def V_TwistedCategory_1 : Vc :=
  .both
   (.op true (.p (.ld none) [.t 2]) <|
   .op true (.p (.iad 4) [.t 4, .t 0]) <|
   .op true (.p (.ld (some 4)) [.t 5]) <|
   .op false (.p (.ld none) [.t 2]) <|
   .op false (.p (.iad 4) [.t 7, .t 1]) <|
   .op false (.p (.ld (some 4)) [.t 8]) <|
   .op true (.new [int 0, int 0, int 0, int 0]) <|
   .op true (.new [int 0, int 0, int 0, int 0]) <|
   .op true (.st 4 (.t 10) (.t 6)) <|
   .op true (.st 4 (.t 11) (.t 9)) <|
   .op true (.p (.ld none) [.t 2]) <|
   .op true (.p (.fad 0) [.t 10]) <|
   .op true (.p (.ld none) [.t 15]) <|
   .op true (.p (.fad 1) [.t 11]) <|
   .op true (.p (.ld none) [.t 17]) <|
   .op true (.p (.fad 2) [.t 11]) <|
   .op true (.p (.ld none) [.t 19]) <|
   .op true (.p (.fad 2) [.t 10]) <|
   .op true (.p (.ld none) [.t 21]) <|
   .op true (.call (.f 34) [.t 3, .t 20, .t 22]) <|
   .op true (.p (.fad 3) [.t 10]) <|
   .op true (.p (.ld none) [.t 24]) <|
   .op true (.p (.fad 3) [.t 11]) <|
   .op true (.p (.ld none) [.t 26]) <|
   .op true (.call (.f 34) [.t 3, .t 25, .t 27]) <|
   .op true (.p (.mka [int 0, int 0, int 0, int 0] [(0, 1), (1, 1), (2, 1), (3, 1)]) [.t 16, .t 18, .t 23, .t 28]) <|
   .op true (.call (.f 355) [.t 14, .t 29]) <|
   .ret [(.t 30, none)])
   (.op true (.p (.ld none) [.t 2]) <|
   .op true (.p (.iad 4) [.t 4, .t 0]) <|
   .op true (.p (.ld (some 4)) [.t 5]) <|
   .op false (.p (.ld none) [.t 2]) <|
   .op false (.p (.iad 4) [.t 7, .t 1]) <|
   .op false (.p (.ld (some 4)) [.t 8]) <|
   .op true (.new [int 0, int 0, int 0, int 0]) <|
   .op true (.new [int 0, int 0, int 0, int 0]) <|
   .op true (.st 4 (.t 11) (.t 6)) <|
   .op true (.st 4 (.t 10) (.t 9)) <|
   .op true (.p (.ld none) [.t 2]) <|
   .op true (.p (.fad 0) [.t 11]) <|
   .op true (.p (.ld none) [.t 15]) <|
   .op true (.p (.fad 1) [.t 10]) <|
   .op true (.p (.ld none) [.t 17]) <|
   .op true (.p (.fad 2) [.t 10]) <|
   .op true (.p (.ld none) [.t 19]) <|
   .op true (.p (.fad 2) [.t 11]) <|
   .op true (.p (.ld none) [.t 21]) <|
   .op true (.call (.f 34) [.t 3, .t 20, .t 22]) <|
   .op true (.p (.fad 3) [.t 11]) <|
   .op true (.p (.ld none) [.t 24]) <|
   .op true (.p (.fad 3) [.t 10]) <|
   .op true (.p (.ld none) [.t 26]) <|
   .op true (.call (.f 34) [.t 3, .t 25, .t 27]) <|
   .op true (.p (.mka [int 0, int 0, int 0, int 0] [(0, 1), (1, 1), (2, 1), (3, 1)]) [.t 16, .t 18, .t 23, .t 28]) <|
   .op true (.call (.f 355) [.t 14, .t 29]) <|
   .ret [(.t 30, none)])
set_option maxHeartbeats 2000000 in
theorem twist1_fz (ht : Has P ν 34 3 V_Category_then) (hs : Has P ν 417 2 V_slices_Index_twist_twist) (hi : Has P ν 355 2 V_index_twist) (h : Has P ν 354 4 V_TwistedCategory_1) (c : Cat) (s : Shape c) (L : List Tw) (hL : ∀ t ∈ L, TwIn c t) (hl : L.length ≤ 1099511627776) (a b : Nat) (ha : a < L.length) (hb : b < L.length) :
    Fz (OkM P ν) 354 [int a, int b, .ptr [.sl (twCells L) L.length] 0, .ptr c.cells 0] (int (twC c L a b)) := by
  unfold Fz
  refine h _ hempty 0 _ rfl fun hwf => ?_
  unfold V_TwistedCategory_1
  have ea : L.getD a tw0 ∈ L := by rw [show L.getD a tw0 = L[a] by simp [List.getD, ha]]; exact List.getElem_mem ha
  have eb : L.getD b tw0 ∈ L := by rw [show L.getD b tw0 = L[b] by simp [List.getD, hb]]; exact List.getElem_mem hb
  have la := tw_ld (H := hempty) ha
  have lb := tw_ld (H := hempty) hb
  have ix : ∀ x : Tw, Fz (OkM P ν) 355 [.sl (twCells L) L.length, .agg (tw4c x)] (int (idxT L x)) := fun x => indexT_fz hs hi L x hl
  have wa := hL _ ea
  have wb := hL _ eb
  unfold twC
  generalize L.getD a tw0 = x at la wa
  generalize L.getD b tw0 = y at lb wb
  obtain ⟨x1, x2, x3, x4⟩ := x
  obtain ⟨y1, y2, y3, y4⟩ := y
  have k1 := s.fzThen ht wb.2.2.1 wa.2.2.1
  have k2 := s.fzThen ht wa.2.2.2 wb.2.2.2
  have ix := ix (x1, y2, c.K y3 x3, c.K x4 y4)
  simp only at k1 k2 wa wb
  refine ⟨?_, ?_⟩
  · try simp (disch := (first | rfl | with_reducible assumption | with_reducible solve_by_elim (maxDepth := 8) [Shape.inT, Shape.inI, Shape.inC, Shape.inK, Shape.obF, Shape.obT, Shape.arI, Arr.inF] | omega)) only [S2, Nat.reduceEqDiff, Nat.reduceAdd, iput, puts, p_ld0, tw_iad ha, la, tw_iad hb, lb]
    refine den_newG fun H1 z1 e1 => ?_
    refine den_newG fun H2 z2 e2 => ?_
    have z1 := (e2 0 (by omega)).trans z1
    refine den_stR (o := 0) (m := 4) (d := [int x1, int x2, int x3, int x4]) rfl rfl z1 rfl rfl rfl fun H3 w1 e3 => ?_
    have z2 := (e3 1 (by omega)).trans z2
    refine den_stR (o := 1) (m := 4) (d := [int y1, int y2, int y3, int y4]) rfl rfl z2 rfl rfl rfl fun H4 w2 e4 => ?_
    have w1 := (e4 0 (by omega)).trans w1
    repeat (first | simp (disch := (first | rfl | with_reducible assumption | with_reducible solve_by_elim (maxDepth := 8) [Shape.inT, Shape.inI, Shape.inC, Shape.inK, Shape.obF, Shape.obT, Shape.arI, Arr.inF] | omega)) only [S2, Nat.reduceEqDiff, Nat.reduceAdd, iput, puts, p_ld0, p_fadm (l := 4) w1 rfl, p_fadm (l := 4) w2 rfl, p_ldm (n := 4) w1 rfl, p_ldm (n := 4) w2 rfl, tw_mka] | (refine den_call rfl (by first | (simp only [SS, Nat.reduceEqDiff, Nat.reduceAdd, iput, puts, FF, frzL_cat]; done) | (simp only [SS, Nat.reduceEqDiff, Nat.reduceAdd, iput, puts, FF, frzL_cat]; rfl)) (by first | exact k1 | exact k2 | exact ix) ?_) | (refine den_calli rfl (by first | (simp only [SS, Nat.reduceEqDiff, Nat.reduceAdd, iput, puts, FF, frzL_cat]; done) | (simp only [SS, Nat.reduceEqDiff, Nat.reduceAdd, iput, puts, FF, frzL_cat]; rfl)) (by first | exact k1 | exact k2 | exact ix) ?_))
    exact ⟨_, rfl, H4, fun _ _ h => h, rfl⟩
  · try simp (disch := (first | rfl | with_reducible assumption | with_reducible solve_by_elim (maxDepth := 8) [Shape.inT, Shape.inI, Shape.inC, Shape.inK, Shape.obF, Shape.obT, Shape.arI, Arr.inF] | omega)) only [S2, Nat.reduceEqDiff, Nat.reduceAdd, iput, puts, p_ld0, tw_iad ha, la, tw_iad hb, lb]
    refine den_newG fun H1 z1 e1 => ?_
    refine den_newG fun H2 z2 e2 => ?_
    have z1 := (e2 0 (by omega)).trans z1
    refine den_stR (o := 1) (m := 4) (d := [int x1, int x2, int x3, int x4]) rfl rfl z2 rfl rfl rfl fun H3 w1 e3 => ?_
    have z1 := (e3 0 (by omega)).trans z1
    refine den_stR (o := 0) (m := 4) (d := [int y1, int y2, int y3, int y4]) rfl rfl z1 rfl rfl rfl fun H4 w2 e4 => ?_
    have w1 := (e4 1 (by omega)).trans w1
    repeat (first | simp (disch := (first | rfl | with_reducible assumption | with_reducible solve_by_elim (maxDepth := 8) [Shape.inT, Shape.inI, Shape.inC, Shape.inK, Shape.obF, Shape.obT, Shape.arI, Arr.inF] | omega)) only [S2, Nat.reduceEqDiff, Nat.reduceAdd, iput, puts, p_ld0, p_fadm (l := 4) w1 rfl, p_fadm (l := 4) w2 rfl, p_ldm (n := 4) w1 rfl, p_ldm (n := 4) w2 rfl, tw_mka] | (refine den_call rfl (by first | (simp only [SS, Nat.reduceEqDiff, Nat.reduceAdd, iput, puts, FF, frzL_cat]; done) | (simp only [SS, Nat.reduceEqDiff, Nat.reduceAdd, iput, puts, FF, frzL_cat]; rfl)) (by first | exact k1 | exact k2 | exact ix) ?_) | (refine den_calli rfl (by first | (simp only [SS, Nat.reduceEqDiff, Nat.reduceAdd, iput, puts, FF, frzL_cat]; done) | (simp only [SS, Nat.reduceEqDiff, Nat.reduceAdd, iput, puts, FF, frzL_cat]; rfl)) (by first | exact k1 | exact k2 | exact ix) ?_))
    exact ⟨_, rfl, H4, fun _ _ h => h, rfl⟩

theorem Out3.start3 {q o3 : Nat} {ob : Int} {l : List Int} {H : Hp} {lo : Nat} (h : H q = some [int ob, .nil, .nil, .ms o3 0 l.length 1, .nil]) (h3 : H o3 = some (ints l)) (h1 : lo ≤ o3) (h2 : o3 < q) : Out3 q ob [] [] l [] .nil .nil (.ms o3 0 l.length 1) .nil none none (some o3) H lo (q + 1) :=
  ⟨h, by omega, by omega, ⟨rfl, rfl⟩, ⟨rfl, rfl⟩, ⟨rfl, h3⟩, (fun o h => by cases h), (fun o h => by cases h), (fun o h => by cases h; exact ⟨h1, by omega, by omega⟩), (fun o h => by cases h), (fun o h => by cases h), (fun o h => by cases h), OwnD.nil, fun t ⟨o, m, cells, e, _⟩ => by cases e⟩
theorem Out3.setI {q o3 : Nat} {ob : Int} {F T I : List Int} {R : List (List Int)} {a b d e : AV} {s1 s2 : Option Nat} {H H' : Hp} {lo hi i : Nat} {x : Int} (h : Out3 q ob F T I R a b d e s1 s2 (some o3) H lo hi) (ho : H' o3 = some (ints (I.set i x))) (hH : ∀ t, t ≠ o3 → H' t = H t) : Out3 q ob F T (I.set i x) R a b d e s1 s2 (some o3) H' lo hi := by
  have kf : ∀ t, Ft2 e H t → H' t = H t := fun t ht => hH t fun ee => (h.ft t ht).2.2.2 (by rw [ee])
  have ft := h.tab.ft kf
  have g3 := h.g3
  refine ⟨(hH q fun ee => (h.r3 o3 rfl).2.2 ee.symm).trans h.obj, h.ql, h.qh, h.g1.kept fun o ho => hH o fun ee => h.n13 o ho (by rw [ee]), h.g2.kept fun o ho => hH o fun ee => h.n23 o ho (by rw [ee]), ⟨by rw [List.length_set]; exact g3.1, ho⟩, h.r1, h.r2, h.r3, h.n12, h.n13, h.n23, h.tab.apart (Nat.le_refl _) kf, fun t ht => h.ft t ((ft t).1 ht)⟩

/-- A growing list of twists. -/
def GrT (s : Option Nat) (L : List Tw) (v : AV) (H : Hp) : Prop := match s with | none => L = [] ∧ v = .nil | some o => v = .ms o 0 L.length 4 ∧ H o = some (twCells L)
theorem GrT.kept {s : Option Nat} {L : List Tw} {v : AV} {H H' : Hp} (h : GrT s L v H) (hh : ∀ o, s = some o → H' o = H o) : GrT s L v H' := by
  cases s with
  | none => exact h
  | some o => exact ⟨h.1, (hh o rfl).trans h.2⟩
theorem GrT.one {s : Option Nat} {L : List Tw} {v : AV} {H : Hp} (h : GrT s L v H) : v.one = true := by
  cases s with
  | none => rw [h.2]; rfl
  | some o => rw [h.1]; rfl
theorem GrT.len {s : Option Nat} {L : List Tw} {v : AV} {H : Hp} (h : GrT s L v H) : pvf H .len [v] = some (int L.length) := by
  cases s with
  | none => obtain ⟨rfl, rfl⟩ := h; rfl
  | some o =>
    obtain ⟨rfl, h2⟩ := h
    have := twCells_len L
    simp [pvf, pLen, h2, int, this]
theorem GrT.frz {s : Option Nat} {L : List Tw} {v : AV} {H : Hp} (h : GrT s L v H) (k : Nat) : Av.frz H (k + 1) v = some (.sl (twCells L) L.length) := by
  cases s with
  | none => obtain ⟨rfl, rfl⟩ := h; rfl
  | some o =>
    obtain ⟨rfl, h2⟩ := h
    have := twCells_len L
    simp only [Av.frz, h2, twCells_frz, this, Nat.zero_add, if_true, Option.map_some, List.drop_zero]
section
variable {C : Ct} {Φ : AV → Hp → Nat → Prop} {n : Nat} {vars : Nat → AV} {H : Hp} {nx : Nat} {Is : Nat → Inv} {r : Vc}
theorem den_appT {x y : Opd} {s : Option Nat} {L : List Tw} {t : Tw} (h : GrT s L (ev vars x) H) (hy : ev vars y = .sl (tw4c t) 1) (hlen : L.length + 1 ≤ 1099511627776)
    (hk : ∀ v H2 nx2, GrT (some (s.getD nx)) (L ++ [t]) v H2 → (∀ j, j ≠ s.getD nx → H2 j = H j) → nx2 = (if s.isSome then nx else nx + 1) → den C Φ r (n + 1) (put vars n v) H2 nx2 Is) : den C Φ (.op true (.app 4 x y) r) n vars H nx Is := by
  have hc : appCells H 4 (ev vars y) = some (tw4c t, 1) := by rw [hy]; rfl
  have h1 : (tw4c t).all AV.one = true := rfl
  have hsn : twCells (L ++ [t]) = twCells L ++ tw4c t := by simp [twCells, List.flatMap_append]
  cases s with
  | none =>
    obtain ⟨rfl, h2⟩ := h
    refine den_app (q := (.ms nx 0 1 4, hput H nx (some (tw4c t)), nx + 1)) hc h1 ?_ ?_
    · rw [h2]
      simp [appTo, appMax]
    · exact hk _ _ _ ⟨by simp, (hput_eq H nx (some (tw4c t))).trans (by rw [hsn]; rfl)⟩ (fun j hj => hput_ne _ _ _ _ hj) rfl
  | some o =>
    obtain ⟨h2, h3⟩ := h
    have := twCells_len L
    refine den_app (q := (.ms o 0 (L.length + 1) 4, hput H o (some (twCells L ++ tw4c t)), nx)) hc h1 ?_ ?_
    · rw [h2]
      have hl2 : L.length + 1 ≤ appMax := by unfold appMax; simpa using hlen
      simp [appTo, h3, this, hl2]
    · exact hk _ _ _ ⟨by simp, by rw [hsn]; exact hput_eq _ _ _⟩ (fun j hj => hput_ne _ _ _ _ hj) rfl
end
end Go.Av
