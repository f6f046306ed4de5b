/-
  Initial objects, coequalizers, pushouts: both sides.
-/
import Derived.Test.YtalfoffamemfnaaAvT2
import Derived.Test.YtalfoffamemfnaaAvL0
namespace Go.Av
open Classical
set_option linter.unusedSimpArgs false
set_option linter.unusedVariables false
variable {P : Program} {ν : Nat → FuncId}

theorem IsCat.op {c : Cat} (k : IsCat c) : IsCat (opC c) := by
  have s := k.1
  have A := k.opA
  have tl := s.tl
  refine ⟨opC_shape s, ?_, ?_⟩
  · unfold idF
    rw [List.findSome?_eq_none_iff]
    intro f hf
    have hf : f < c.t.length := List.mem_range.1 hf
    have a : Arr c f := ⟨by omega, by omega⟩
    have h := k.2.1
    unfold idF at h
    have h1 := List.findSome?_eq_none_iff.1 h f (by simp; omega)
    by_cases e : idOk c f = true
    · have : idOk (opC c) f = true := by
        unfold idOk at e ⊢
        have i1 : (opC c).I ((opC c).F f) = c.I (c.T f) := rfl
        have i2 : (opC c).I ((opC c).T f) = c.I (c.F f) := rfl
        rw [i1, i2, opC_K' (s.arI (s.obT a)) a, opC_K' a (s.arI (s.obF a)), Bool.and_comm]
        exact e
      rw [if_pos this]
    · rw [if_neg e] at h1; cases h1
  · unfold asF
    simp only [List.findSome?_eq_none_iff]
    intro f hf g hg h hh
    have hf : f < c.t.length := List.mem_range.1 hf
    have hg : g < c.t.length := List.mem_range.1 hg
    have hh : h < c.t.length := List.mem_range.1 hh
    rw [if_neg]
    unfold asBad
    intro e
    simp only [Bool.and_eq_true, beq_iff_eq, bne_iff_ne, ne_eq] at e
    exact e.2 (A.assoc ((opC_arr s).2 ⟨by omega, by omega⟩) ((opC_arr s).2 ⟨by omega, by omega⟩) ((opC_arr s).2 ⟨by omega, by omega⟩) e.1.1 e.1.2)
theorem opC_small {c : Cat} (s : Shape c) : Small (opC c) := by
  have n40 := s.n40
  have tl := s.tl
  have il := s.il
  have o8 := s.o8
  exact ⟨by show c.t.length ≤ _; omega, by show c.f.length ≤ _; omega, by show c.i.length ≤ _; omega, by simp [opC]; omega⟩
theorem frzL_mp5 {H : Hp} {o : Nat} {c : Cat} {t : List AV} (h : H o = some c.cells) : frzL H (.mp o 0 5 :: t) = (frzL H t).map (.ptr c.cells 0 :: ·) := by
  have : frz H fuel (.mp o 0 5) = some (.ptr c.cells 0) := by
    simp only [fuel, frz, h]
    rfl
  simp only [frzL, List.mapM_cons, this]; cases List.mapM (frz H fuel) t <;> rfl

def V_InitialObjects : Vc :=
  .op true (.p .box [.t 0]) <|
  .op true (.call (.f 24) [.t 1]) <|
  .op true (.p .bnot [.t 2]) <|
  .br 3
   (.ret [(.c (.nil), none), (.c (int 1), none)])
   (.op true (.call (.f 252) [.t 1]) <|
   .op true (.new [int 0, .nil, .nil, .nil, .nil]) <|
   .op true (.st 5 (.t 5) (.t 4)) <|
   .op true (.callo (.f 276) [.t 5]) <|
   .ret [(.t 7, none), (.c (int 0), none)])
def V_spec_InitialObjects : Vc :=
  .op true (.p .box [.t 0]) <|
  .op true (.p (.ld (some 5)) [.t 1]) <|
  .op true (.call (.f 22) [.t 2]) <|
  .op true (.p .bnot [.t 3]) <|
  .br 4
   (.ret [(.c (.nil), none), (.c (int 1), none)])
   (.op true (.p (.ld (some 5)) [.t 1]) <|
   .op true (.call (.f 251) [.t 5]) <|
   .op true (.callm (.f 275) [.t 6]) <|
   .ret [(.t 7, none), (.c (int 0), none)])
set_option maxHeartbeats 1000000 in
theorem InitialObjects_both (K : HCat P ν) (O : HOpp P ν) (hh : Has P ν 33 3 V_Category_hom) (htm : Has P ν 276 1 V_Category_terminal) (h : Has P ν 137 1 V_InitialObjects) (KS : HSpec P ν) (how : Has P ν 259 1 V_spec_l01Own) (hop : Has P ν 251 1 V_spec_l03Op) (h2 : Has P ν 309 3 V_spec_l02Hom) (hts : Has P ν 275 1 V_spec_l13Terminal) (hs : Has P ν 136 1 V_spec_InitialObjects) (c : Cat) (b : Small c) :
    BothP P ν 137 136 [.agg c.cells] := by
  by_cases hc : IsCat c
  · have s := hc.1
    have so := opC_shape s
    refine ⟨termL (opC c), 0, by have := termL_len so; omega, fun H nx => h _ _ _ _ rfl fun hwf => ?_, fun H nx => hs _ _ _ _ rfl fun hwf => ?_⟩
    · unfold V_InitialObjects
      repeat (first | simp (disch := (first | rfl | with_reducible assumption | with_reducible solve_by_elim (maxDepth := 8) [Shape.inT, Shape.inI, Shape.inC, Shape.inK, Shape.obF, Shape.obT, Shape.arI, Arr.inF] | omega)) only [S2, Nat.reduceEqDiff, Nat.reduceAdd, iput, puts, hc] | (refine den_call rfl (by first | (simp only [SS, Nat.reduceEqDiff, Nat.reduceAdd, iput, puts, FF, frzL_cat]; done) | (simp only [SS, Nat.reduceEqDiff, Nat.reduceAdd, iput, puts, FF, frzL_cat]; rfl)) (by first | exact (isCategory_ok K c b).fzb | exact opposite_fi O c s) ?_) | (refine den_calli rfl (by first | (simp only [SS, Nat.reduceEqDiff, Nat.reduceAdd, iput, puts, FF, frzL_cat]; done) | (simp only [SS, Nat.reduceEqDiff, Nat.reduceAdd, iput, puts, FF, frzL_cat]; rfl)) (by first | exact (isCategory_ok K c b).fzb | exact opposite_fi O c s) ?_))
      refine den_newG fun H1 z1 e1 => ?_
      refine den_stG (o := nx) (p := 0) (k := 5) (m := 5) (c' := (opC c).cells) (by rfl) (by rfl) z1 (by rfl) (by rfl) (show 0 + 5 ≤ 5 by omega) (by rfl) (by rfl) fun H2 z2 e2 => ?_
      refine den_callo (fc := (276, [])) (ys := [.ptr (opC c).cells 0]) rfl (by simp only [SS, Nat.reduceEqDiff, Nat.reduceAdd, iput, puts, FF, frzL_cat]; exact frzL_mp5 z2) (terminal_ok hh htm (opC c) so hempty (nx + 1)) (IsI.some _ _ _) fun u H' nx' hu => ?_
      obtain ⟨q1, q2, q3, own⟩ := hu.own H2
      refine ⟨q1, q2, ?_⟩
      have old : ∀ o c, H o = some c → hmerge (nx + 1) H2 H' o = some c := fun o c ho => by
        have : o < nx := by
          by_cases e : o < nx
          · exact e
          · rw [hwf o (by omega)] at ho; cases ho
        rw [hmerge_lo (by omega), e2 o (by omega), e1 o (by omega)]
        exact ho
      rcases own with ⟨e, rfl⟩ | ⟨o, o1, o2, rfl, e⟩
      · exact ⟨_, rfl, H, old, .nil, rfl, by omega, .inl ⟨e, rfl, rfl⟩⟩
      · refine ⟨_, rfl, hput H o (some (ints (termL (opC c)))), fun q d hq => ?_, .ms o 0 (termL (opC c)).length 1, rfl, by omega, .inr ⟨o, by omega, o2, rfl, rfl⟩⟩
        by_cases eq : q = o
        · subst eq; rw [hput_eq] at hq; rw [e]; exact hq
        · rw [hput_ne _ _ _ _ eq] at hq; exact old q d hq
    · unfold V_spec_InitialObjects
      repeat (first | simp (disch := (first | rfl | with_reducible assumption | with_reducible solve_by_elim (maxDepth := 8) [Shape.inT, Shape.inI, Shape.inC, Shape.inK, Shape.obF, Shape.obT, Shape.arI, Arr.inF] | omega)) only [S2, Nat.reduceEqDiff, Nat.reduceAdd, iput, puts, hc] | (refine den_call rfl (by first | (simp only [SS, Nat.reduceEqDiff, Nat.reduceAdd, iput, puts, FF, frzL_cat]; done) | (simp only [SS, Nat.reduceEqDiff, Nat.reduceAdd, iput, puts, FF, frzL_cat]; rfl)) (by first | exact (l02Is_ok KS c b).fzb | exact l03Op_fi how hop c s) ?_) | (refine den_calli rfl (by first | (simp only [SS, Nat.reduceEqDiff, Nat.reduceAdd, iput, puts, FF, frzL_cat]; done) | (simp only [SS, Nat.reduceEqDiff, Nat.reduceAdd, iput, puts, FF, frzL_cat]; rfl)) (by first | exact (l02Is_ok KS c b).fzb | exact l03Op_fi how hop c s) ?_))
      refine den_callm (fc := (275, [])) rfl (l13Terminal_ok h2 hts (opC c) so H nx) (IsI.some _ _ _) fun u H' nx' hu => ?_
      exact ⟨_, rfl, H', fun _ _ h => h, u, rfl, hu⟩
  · refine ⟨[], 1, by simp, fun H nx => h _ _ _ _ rfl fun hwf => ?_, fun H nx => hs _ _ _ _ rfl fun hwf => ?_⟩
    · unfold V_InitialObjects
      repeat (first | simp (disch := (first | rfl | with_reducible assumption | with_reducible solve_by_elim (maxDepth := 8) [Shape.inT, Shape.inI, Shape.inC, Shape.inK, Shape.obF, Shape.obT, Shape.arI, Arr.inF] | omega)) only [S2, Nat.reduceEqDiff, Nat.reduceAdd, iput, puts, hc] | (refine den_call rfl (by first | (simp only [SS, Nat.reduceEqDiff, Nat.reduceAdd, iput, puts, FF, frzL_cat]; done) | (simp only [SS, Nat.reduceEqDiff, Nat.reduceAdd, iput, puts, FF, frzL_cat]; rfl)) (by first | exact (isCategory_ok K c b).fzb) ?_) | (refine den_calli rfl (by first | (simp only [SS, Nat.reduceEqDiff, Nat.reduceAdd, iput, puts, FF, frzL_cat]; done) | (simp only [SS, Nat.reduceEqDiff, Nat.reduceAdd, iput, puts, FF, frzL_cat]; rfl)) (by first | exact (isCategory_ok K c b).fzb) ?_))
      exact ⟨_, rfl, H, fun _ _ h => h, .nil, rfl, IsI.nil _ _⟩
    · unfold V_spec_InitialObjects
      repeat (first | simp (disch := (first | rfl | with_reducible assumption | with_reducible solve_by_elim (maxDepth := 8) [Shape.inT, Shape.inI, Shape.inC, Shape.inK, Shape.obF, Shape.obT, Shape.arI, Arr.inF] | omega)) only [S2, Nat.reduceEqDiff, Nat.reduceAdd, iput, puts, hc] | (refine den_call rfl (by first | (simp only [SS, Nat.reduceEqDiff, Nat.reduceAdd, iput, puts, FF, frzL_cat]; done) | (simp only [SS, Nat.reduceEqDiff, Nat.reduceAdd, iput, puts, FF, frzL_cat]; rfl)) (by first | exact (l02Is_ok KS c b).fzb) ?_) | (refine den_calli rfl (by first | (simp only [SS, Nat.reduceEqDiff, Nat.reduceAdd, iput, puts, FF, frzL_cat]; done) | (simp only [SS, Nat.reduceEqDiff, Nat.reduceAdd, iput, puts, FF, frzL_cat]; rfl)) (by first | exact (l02Is_ok KS c b).fzb) ?_))
      exact ⟨_, rfl, H, fun _ _ h => h, .nil, rfl, IsI.nil _ _⟩
set_option maxHeartbeats 1000000 in
theorem EqualizerArrow_fz (K : HCat P ν) (A : HArr P ν) (S : HSpan P ν) (hp : Has P ν 321 3 V_Category_equalizers) (hp1 : Has P ν 405 5 V_Category_equalizers_1) (h : Has P ν 170 3 V_EqualizerArrow) (c : Cat) (b : Small c) (f g : Int) :
    Fz (OkM P ν) 170 [.agg c.cells, int f, int g] (.tup (ints (eqL (lcode c f g true true) (spE c f g).firstO))) := by
  have cO := arrowCode_fz K A.code c b [f, g] (by simp) (Wn2 c f g)
  by_cases h0 : code (IsCat c) (Arr c f ∧ Arr c g) = 0
  · have h1 := code_zero.1 h0
    have hc := h1.1
    have hf := h1.2.1
    have hg := h1.2.2
    have s := hc.1
    have k := hc.ca
    rw [h0] at cO
    by_cases e : c.F f = c.F g ∧ c.T f = c.T g
    · obtain ⟨eF, eT⟩ := e
      have l0 : lcode c f g true true = 0 := lcode_ok h1 (fun _ => eF) fun _ => eT
      have ok := spE_ok S.thn hp1 c k f g hf hg eF
      have tr := S.trip (spE c f g) ok
      rw [l0]
      have ee : (!(c.F f == c.F g && c.T f == c.T g)) = false := by rw [eF, eT]; simp
      refine OkM.fzt fun H nx => h _ _ _ _ rfl fun hwf => ?_
      · unfold V_EqualizerArrow
        rw [eqL_ok]
        rcases hO : (spE c f g).firstO with _ | ⟨z, p, q⟩
        · rw [hO] at tr
          repeat (first | simp (disch := (first | rfl | with_reducible assumption | with_reducible solve_by_elim (maxDepth := 8) [Shape.inT, Shape.inI, Shape.inC, Shape.inK, Shape.obF, Shape.obT, Shape.arI, Arr.inF] | omega)) only [S2, Nat.reduceEqDiff, Nat.reduceAdd, iput, puts, p_msl2, trip_none, pair_none, ee] | (refine den_call rfl (by first | (simp only [SS, Nat.reduceEqDiff, Nat.reduceAdd, iput, puts, FF, frzL_cat]; done) | (simp only [SS, Nat.reduceEqDiff, Nat.reduceAdd, iput, puts, FF, frzL_cat]; rfl)) (by first | exact cO | exact s.fzEnds K.ends hf | exact s.fzEnds K.ends hg | exact equalizers_fi hp c f g hf | exact tr) ?_) | (refine den_calli rfl (by first | (simp only [SS, Nat.reduceEqDiff, Nat.reduceAdd, iput, puts, FF, frzL_cat]; done) | (simp only [SS, Nat.reduceEqDiff, Nat.reduceAdd, iput, puts, FF, frzL_cat]; rfl)) (by first | exact cO | exact s.fzEnds K.ends hf | exact s.fzEnds K.ends hg | exact equalizers_fi hp c f g hf | exact tr) ?_))
          exact ⟨_, rfl, H, fun _ _ h => h, rfl⟩
        · rw [hO] at tr
          repeat (first | simp (disch := (first | rfl | with_reducible assumption | with_reducible solve_by_elim (maxDepth := 8) [Shape.inT, Shape.inI, Shape.inC, Shape.inK, Shape.obF, Shape.obT, Shape.arI, Arr.inF] | omega)) only [S2, Nat.reduceEqDiff, Nat.reduceAdd, iput, puts, p_msl2, trip_some, pair_some, ee] | (refine den_call rfl (by first | (simp only [SS, Nat.reduceEqDiff, Nat.reduceAdd, iput, puts, FF, frzL_cat]; done) | (simp only [SS, Nat.reduceEqDiff, Nat.reduceAdd, iput, puts, FF, frzL_cat]; rfl)) (by first | exact cO | exact s.fzEnds K.ends hf | exact s.fzEnds K.ends hg | exact equalizers_fi hp c f g hf | exact tr) ?_) | (refine den_calli rfl (by first | (simp only [SS, Nat.reduceEqDiff, Nat.reduceAdd, iput, puts, FF, frzL_cat]; done) | (simp only [SS, Nat.reduceEqDiff, Nat.reduceAdd, iput, puts, FF, frzL_cat]; rfl)) (by first | exact cO | exact s.fzEnds K.ends hf | exact s.fzEnds K.ends hg | exact equalizers_fi hp c f g hf | exact tr) ?_))
          exact ⟨_, rfl, H, fun _ _ h => h, rfl⟩
    · have e' : c.F f ≠ c.F g ∨ c.T f ≠ c.T g := by
        by_cases eF : c.F f = c.F g
        · exact .inr fun eT => e ⟨eF, eT⟩
        · exact .inl eF
      have l5 : lcode c f g true true = 5 := lcode_five h1 (e'.imp (fun h => ⟨rfl, h⟩) fun h => ⟨rfl, h⟩)
      have ee : (!(c.F f == c.F g && c.T f == c.T g)) = true := by
        rcases e' with e' | e' <;> simp [e']
      rw [l5]
      refine OkM.fzt fun H nx => h _ _ _ _ rfl fun hwf => ?_
      · unfold V_EqualizerArrow
        rw [eqL_bad (by decide)]
        repeat (first | simp (disch := (first | rfl | with_reducible assumption | with_reducible solve_by_elim (maxDepth := 8) [Shape.inT, Shape.inI, Shape.inC, Shape.inK, Shape.obF, Shape.obT, Shape.arI, Arr.inF] | omega)) only [S2, Nat.reduceEqDiff, Nat.reduceAdd, iput, puts, p_msl2, ee] | (refine den_call rfl (by first | (simp only [SS, Nat.reduceEqDiff, Nat.reduceAdd, iput, puts, FF, frzL_cat]; done) | (simp only [SS, Nat.reduceEqDiff, Nat.reduceAdd, iput, puts, FF, frzL_cat]; rfl)) (by first | exact cO | exact s.fzEnds K.ends hf | exact s.fzEnds K.ends hg) ?_) | (refine den_calli rfl (by first | (simp only [SS, Nat.reduceEqDiff, Nat.reduceAdd, iput, puts, FF, frzL_cat]; done) | (simp only [SS, Nat.reduceEqDiff, Nat.reduceAdd, iput, puts, FF, frzL_cat]; rfl)) (by first | exact cO | exact s.fzEnds K.ends hf | exact s.fzEnds K.ends hg) ?_))
        exact ⟨_, rfl, H, fun _ _ h => h, rfl⟩
  · have lb : lcode c f g true true = code (IsCat c) (Arr c f ∧ Arr c g) := lcode_bad h0
    rw [lb]
    refine OkM.fzt fun H nx => h _ _ _ _ rfl fun hwf => ?_
    · unfold V_EqualizerArrow
      rw [eqL_bad h0]
      repeat (first | simp (disch := (first | rfl | with_reducible assumption | with_reducible solve_by_elim (maxDepth := 8) [Shape.inT, Shape.inI, Shape.inC, Shape.inK, Shape.obF, Shape.obT, Shape.arI, Arr.inF] | omega)) only [S2, Nat.reduceEqDiff, Nat.reduceAdd, iput, puts, p_msl2, h0] | (refine den_call rfl (by first | (simp only [SS, Nat.reduceEqDiff, Nat.reduceAdd, iput, puts, FF, frzL_cat]; done) | (simp only [SS, Nat.reduceEqDiff, Nat.reduceAdd, iput, puts, FF, frzL_cat]; rfl)) (by first | exact cO) ?_) | (refine den_calli rfl (by first | (simp only [SS, Nat.reduceEqDiff, Nat.reduceAdd, iput, puts, FF, frzL_cat]; done) | (simp only [SS, Nat.reduceEqDiff, Nat.reduceAdd, iput, puts, FF, frzL_cat]; rfl)) (by first | exact cO) ?_))
      exact ⟨_, rfl, H, fun _ _ h => h, rfl⟩
set_option maxHeartbeats 1000000 in
theorem PullbackArrows_fz (K : HCat P ν) (A : HArr P ν) (S : HSpan P ν) (hp : Has P ν 324 3 V_Category_pullbacks) (hp1 : Has P ν 406 5 V_Category_pullbacks_1) (h : Has P ν 174 3 V_PullbackArrows) (c : Cat) (b : Small c) (f g : Int) :
    Fz (OkM P ν) 174 [.agg c.cells, int f, int g] (.tup (ints (limL (lcode c f g false true) (spB c f g).firstO))) := by
  have cO := arrowCode_fz K A.code c b [f, g] (by simp) (Wn2 c f g)
  by_cases h0 : code (IsCat c) (Arr c f ∧ Arr c g) = 0
  · have h1 := code_zero.1 h0
    have hc := h1.1
    have hf := h1.2.1
    have hg := h1.2.2
    have s := hc.1
    have k := hc.ca
    have fT := s.inT hf
    have gT := s.inT hg
    rw [h0] at cO
    by_cases e : c.T f = c.T g
    · have l0 : lcode c f g false true = 0 := lcode_ok h1 (fun h => by cases h) fun _ => e
      have ok := spB_ok S.thn hp1 c k f g hf hg
      have tr := S.trip (spB c f g) ok
      rw [l0]
      refine OkM.fzt fun H nx => h _ _ _ _ rfl fun hwf => ?_
      · unfold V_PullbackArrows
        rw [limL_ok]
        rcases hO : (spB c f g).firstO with _ | ⟨z, p, q⟩
        · rw [hO] at tr
          repeat (first | simp (disch := (first | rfl | with_reducible assumption | with_reducible solve_by_elim (maxDepth := 8) [Shape.inT, Shape.inI, Shape.inC, Shape.inK, Shape.obF, Shape.obT, Shape.arI, Arr.inF] | omega)) only [S2, Nat.reduceEqDiff, Nat.reduceAdd, iput, puts, p_msl2, trip_none, e] | (refine den_call rfl (by first | (simp only [SS, Nat.reduceEqDiff, Nat.reduceAdd, iput, puts, FF, frzL_cat]; done) | (simp only [SS, Nat.reduceEqDiff, Nat.reduceAdd, iput, puts, FF, frzL_cat]; rfl)) (by first | exact cO | exact pullbacks_fi hp c f g hf hg | exact tr) ?_) | (refine den_calli rfl (by first | (simp only [SS, Nat.reduceEqDiff, Nat.reduceAdd, iput, puts, FF, frzL_cat]; done) | (simp only [SS, Nat.reduceEqDiff, Nat.reduceAdd, iput, puts, FF, frzL_cat]; rfl)) (by first | exact cO | exact pullbacks_fi hp c f g hf hg | exact tr) ?_))
          exact ⟨_, rfl, H, fun _ _ h => h, rfl⟩
        · rw [hO] at tr
          repeat (first | simp (disch := (first | rfl | with_reducible assumption | with_reducible solve_by_elim (maxDepth := 8) [Shape.inT, Shape.inI, Shape.inC, Shape.inK, Shape.obF, Shape.obT, Shape.arI, Arr.inF] | omega)) only [S2, Nat.reduceEqDiff, Nat.reduceAdd, iput, puts, p_msl2, trip_some, e] | (refine den_call rfl (by first | (simp only [SS, Nat.reduceEqDiff, Nat.reduceAdd, iput, puts, FF, frzL_cat]; done) | (simp only [SS, Nat.reduceEqDiff, Nat.reduceAdd, iput, puts, FF, frzL_cat]; rfl)) (by first | exact cO | exact pullbacks_fi hp c f g hf hg | exact tr) ?_) | (refine den_calli rfl (by first | (simp only [SS, Nat.reduceEqDiff, Nat.reduceAdd, iput, puts, FF, frzL_cat]; done) | (simp only [SS, Nat.reduceEqDiff, Nat.reduceAdd, iput, puts, FF, frzL_cat]; rfl)) (by first | exact cO | exact pullbacks_fi hp c f g hf hg | exact tr) ?_))
          exact ⟨_, rfl, H, fun _ _ h => h, rfl⟩
    · have l5 : lcode c f g false true = 5 := lcode_five h1 (.inr ⟨rfl, e⟩)
      rw [l5]
      refine OkM.fzt fun H nx => h _ _ _ _ rfl fun hwf => ?_
      · unfold V_PullbackArrows
        rw [limL_bad (by decide)]
        repeat (first | simp (disch := (first | rfl | with_reducible assumption | with_reducible solve_by_elim (maxDepth := 8) [Shape.inT, Shape.inI, Shape.inC, Shape.inK, Shape.obF, Shape.obT, Shape.arI, Arr.inF] | omega)) only [S2, Nat.reduceEqDiff, Nat.reduceAdd, iput, puts, p_msl2, e] | (refine den_call rfl (by first | (simp only [SS, Nat.reduceEqDiff, Nat.reduceAdd, iput, puts, FF, frzL_cat]; done) | (simp only [SS, Nat.reduceEqDiff, Nat.reduceAdd, iput, puts, FF, frzL_cat]; rfl)) (by first | exact cO) ?_) | (refine den_calli rfl (by first | (simp only [SS, Nat.reduceEqDiff, Nat.reduceAdd, iput, puts, FF, frzL_cat]; done) | (simp only [SS, Nat.reduceEqDiff, Nat.reduceAdd, iput, puts, FF, frzL_cat]; rfl)) (by first | exact cO) ?_))
        exact ⟨_, rfl, H, fun _ _ h => h, rfl⟩
  · have lb : lcode c f g false true = code (IsCat c) (Arr c f ∧ Arr c g) := lcode_bad h0
    rw [lb]
    refine OkM.fzt fun H nx => h _ _ _ _ rfl fun hwf => ?_
    · unfold V_PullbackArrows
      rw [limL_bad h0]
      repeat (first | simp (disch := (first | rfl | with_reducible assumption | with_reducible solve_by_elim (maxDepth := 8) [Shape.inT, Shape.inI, Shape.inC, Shape.inK, Shape.obF, Shape.obT, Shape.arI, Arr.inF] | omega)) only [S2, Nat.reduceEqDiff, Nat.reduceAdd, iput, puts, p_msl2, h0] | (refine den_call rfl (by first | (simp only [SS, Nat.reduceEqDiff, Nat.reduceAdd, iput, puts, FF, frzL_cat]; done) | (simp only [SS, Nat.reduceEqDiff, Nat.reduceAdd, iput, puts, FF, frzL_cat]; rfl)) (by first | exact cO) ?_) | (refine den_calli rfl (by first | (simp only [SS, Nat.reduceEqDiff, Nat.reduceAdd, iput, puts, FF, frzL_cat]; done) | (simp only [SS, Nat.reduceEqDiff, Nat.reduceAdd, iput, puts, FF, frzL_cat]; rfl)) (by first | exact cO) ?_))
      exact ⟨_, rfl, H, fun _ _ h => h, rfl⟩
theorem lcode_op {c : Cat} {f g : Int} (h : IsCat c ∧ Arr c f ∧ Arr c g) (s t : Bool) : lcode (opC c) f g s t = lcode c f g t s := by
  have sh := h.1.1
  unfold lcode
  rw [if_pos h, if_pos ⟨h.1.op, (opC_arr sh).2 h.2.1, (opC_arr sh).2 h.2.2⟩]
  split
  · rename_i h1
    split
    · rfl
    · rename_i h2; exact absurd (or_comm.1 h1) h2
  · rename_i h1
    split
    · rename_i h2; exact absurd (or_comm.1 h2) h1
    · rfl

def V_CoequalizerArrow : Vc :=
  .op true (.p .box [.t 0]) <|
  .op true (.p (.msl 2 [int 0, int 0] [(0, 1), (1, 1)]) [.t 1, .t 2]) <|
  .op true (.call (.f 18) [.t 3, .t 4]) <|
  .op true (.p (.bin .neq) [.t 5, .c (int 0)]) <|
  .br 6
   (.ret [(.c (int 0), none), (.c (int 0), none), (.t 5, none)])
   (.op true (.call (.f 252) [.t 3]) <|
   .op true (.call (.f 170) [.t 7, .t 1, .t 2]) <|
   .op true (.p (.ext 0) [.t 8]) <|
   .op true (.p (.ext 1) [.t 8]) <|
   .op true (.p (.ext 2) [.t 8]) <|
   .ret [(.t 9, none), (.t 10, none), (.t 11, none)])
def V_spec_CoequalizerArrow : Vc :=
  .op true (.p .box [.t 0]) <|
  .op true (.p (.ld (some 5)) [.t 3]) <|
  .op true (.call (.f 317) [.t 4, .t 1, .t 2, .c (bool true), .c (bool true)]) <|
  .op true (.p (.bin .neq) [.t 5, .c (int 0)]) <|
  .br 6
   (.ret [(.c (int 0), none), (.c (int 0), none), (.t 5, none)])
   (.op true (.p (.ld (some 5)) [.t 3]) <|
   .op true (.call (.f 251) [.t 7]) <|
   .op true (.new [int 0, .nil, .nil, .nil, .nil]) <|
   .op true (.st 5 (.t 9) (.t 8)) <|
   .op true (.p (.ld (some 5)) [.t 9]) <|
   .op true (.p (.ld (some 5)) [.t 9]) <|
   .op true (.call (.f 320) [.t 12, .t 1, .t 2]) <|
   .op true (.call (.f 319) [.t 11, .t 13]) <|
   .op true (.call (.f 318) [.t 14]) <|
   .op true (.p (.ext 0) [.t 15]) <|
   .op true (.p (.ext 1) [.t 15]) <|
   .op true (.p (.ext 2) [.t 15]) <|
   .ret [(.t 16, none), (.t 17, none), (.t 18, none)])
set_option maxHeartbeats 1000000 in
theorem CoequalizerArrow_z (K : HCat P ν) (A : HArr P ν) (S : HSpan P ν) (O : HOpp P ν) (hp : Has P ν 321 3 V_Category_equalizers) (hp1 : Has P ν 405 5 V_Category_equalizers_1) (he : Has P ν 170 3 V_EqualizerArrow) (h : Has P ν 203 3 V_CoequalizerArrow) (KS : HSpec P ν) (F : HFirst P ν) (ha : Has P ν 245 2 V_spec_l02Arrows) (hl : Has P ν 317 5 V_spec_l13Code) (hq : Has P ν 320 3 V_spec_l13Forks) (ht : Has P ν 318 1 V_spec_l13Pair) (how : Has P ν 259 1 V_spec_l01Own) (hop : Has P ν 251 1 V_spec_l03Op) (hs : Has P ν 202 3 V_spec_CoequalizerArrow) (c : Cat) (b : Small c) (f g : Int) :
    BothZ P ν 203 202 [.agg c.cells, int f, int g] (.tup (ints (eqL (lcode c f g true true) (spE (opC c) f g).firstO))) := by
  have cO := arrowCode_fz K A.code c b [f, g] (by simp) (Wn2 c f g)
  have cS := l13Code_fz KS ha hl c b f g true true
  by_cases h0 : code (IsCat c) (Arr c f ∧ Arr c g) = 0
  · have h1 := code_zero.1 h0
    have hc := h1.1
    have hf := h1.2.1
    have hg := h1.2.2
    have s := hc.1
    have so := opC_shape s
    have k := hc.opA
    have hf' := (opC_arr s).2 hf
    have hg' := (opC_arr s).2 hg
    rw [h0] at cO
    have E := EqualizerArrow_fz K A S hp hp1 he (opC c) (opC_small s) f g
    rw [lcode_op h1] at E
    refine ⟨?_, ?_⟩
    · obtain ⟨x, y, z, e⟩ := eqL_three (lcode c f g true true) (spE (opC c) f g).firstO
      rw [e] at E ⊢
      refine OkM.fzt (l := [x, y, z]) fun H nx => h _ _ _ _ rfl fun hwf => ?_
      unfold V_CoequalizerArrow
      repeat (first | simp (disch := (first | rfl | with_reducible assumption | with_reducible solve_by_elim (maxDepth := 8) [Shape.inT, Shape.inI, Shape.inC, Shape.inK, Shape.obF, Shape.obT, Shape.arI, Arr.inF] | omega)) only [S2, Nat.reduceEqDiff, Nat.reduceAdd, iput, puts, p_msl2] | (refine den_call rfl (by first | (simp only [SS, Nat.reduceEqDiff, Nat.reduceAdd, iput, puts, FF, frzL_cat]; done) | (simp only [SS, Nat.reduceEqDiff, Nat.reduceAdd, iput, puts, FF, frzL_cat]; rfl)) (by first | exact cO | exact opposite_fi O c s | exact E) ?_) | (refine den_calli rfl (by first | (simp only [SS, Nat.reduceEqDiff, Nat.reduceAdd, iput, puts, FF, frzL_cat]; done) | (simp only [SS, Nat.reduceEqDiff, Nat.reduceAdd, iput, puts, FF, frzL_cat]; rfl)) (by first | exact cO | exact opposite_fi O c s | exact E) ?_))
      exact ⟨_, rfl, H, fun _ _ h => h, rfl⟩
    · refine OkM.fzt fun H nx => hs _ _ _ _ rfl fun hwf => ?_
      unfold V_spec_CoequalizerArrow
      by_cases e : c.F f = c.F g ∧ c.T f = c.T g
      · obtain ⟨eF, eT⟩ := e
        have l0 : lcode c f g true true = 0 := lcode_ok h1 (fun _ => eF) fun _ => eT
        have ok := spE_ok S.thn hp1 (opC c) k f g hf' hg' eT
        have hal : (spE (opC c) f g).alone = true → (spE (opC c) f g).x = (spE (opC c) f g).y := fun h => rfl
        have hP := l13Forks_fi F.hom F.thn hq (spE (opC c) f g) k f g rfl (fun a b => rfl) rfl hf' hg'
        have hN := l13First_fi F.hom F.thn F.maps F.first (opC c) so (spE (opC c) f g).fk 2 (Sp.fk_ok k hal) (by omega) (by omega) (Sp.fk_len so)
        have e2 : firstL (opC c) (spE (opC c) f g).fk = pairL (spE (opC c) f g).firstO := Sp.first_fk ok rfl
        rw [e2] at hN
        have tS := l13Pair_fz ht (spE (opC c) f g).firstO
        rw [l0] at cS ⊢
        rw [eqL_ok]
        repeat (first | simp (disch := (first | rfl | with_reducible assumption | with_reducible solve_by_elim (maxDepth := 8) [Shape.inT, Shape.inI, Shape.inC, Shape.inK, Shape.obF, Shape.obT, Shape.arI, Arr.inF] | omega)) only [S2, Nat.reduceEqDiff, Nat.reduceAdd, iput, puts] | (refine den_call rfl (by first | (simp only [SS, Nat.reduceEqDiff, Nat.reduceAdd, iput, puts, FF, frzL_cat]; done) | (simp only [SS, Nat.reduceEqDiff, Nat.reduceAdd, iput, puts, FF, frzL_cat]; rfl)) (by first | exact cS | exact l03Op_fi how hop c s) ?_) | (refine den_calli rfl (by first | (simp only [SS, Nat.reduceEqDiff, Nat.reduceAdd, iput, puts, FF, frzL_cat]; done) | (simp only [SS, Nat.reduceEqDiff, Nat.reduceAdd, iput, puts, FF, frzL_cat]; rfl)) (by first | exact cS | exact l03Op_fi how hop c s) ?_))
        refine den_newG fun H1 z1 e1 => ?_
        refine den_stG (o := nx) (p := 0) (k := 5) (m := 5) (c' := (opC c).cells) (by rfl) (by rfl) z1 (by rfl) (by rfl) (show 0 + 5 ≤ 5 by omega) (by rfl) (by rfl) fun H2 z2 e2 => ?_
        rcases hO : (spE (opC c) f g).firstO with _ | ⟨z, p, q⟩
        · rw [hO] at tS hN
          repeat (first | simp (disch := (first | rfl | with_reducible assumption | with_reducible solve_by_elim (maxDepth := 8) [Shape.inT, Shape.inI, Shape.inC, Shape.inK, Shape.obF, Shape.obT, Shape.arI, Arr.inF] | omega)) only [S2, Nat.reduceEqDiff, Nat.reduceAdd, iput, puts, pair_none, p_ldsm (l := 5) z2 rfl] | (refine den_call rfl (by first | (simp only [SS, Nat.reduceEqDiff, Nat.reduceAdd, iput, puts, FF, frzL_cat]; done) | (simp only [SS, Nat.reduceEqDiff, Nat.reduceAdd, iput, puts, FF, frzL_cat]; rfl)) (by first | exact hP | exact hN | exact tS) ?_) | (refine den_calli rfl (by first | (simp only [SS, Nat.reduceEqDiff, Nat.reduceAdd, iput, puts, FF, frzL_cat]; done) | (simp only [SS, Nat.reduceEqDiff, Nat.reduceAdd, iput, puts, FF, frzL_cat]; rfl)) (by first | exact hP | exact hN | exact tS) ?_))
          exact ⟨_, rfl, H2, fun _ _ h => h, rfl⟩
        · rw [hO] at tS hN
          repeat (first | simp (disch := (first | rfl | with_reducible assumption | with_reducible solve_by_elim (maxDepth := 8) [Shape.inT, Shape.inI, Shape.inC, Shape.inK, Shape.obF, Shape.obT, Shape.arI, Arr.inF] | omega)) only [S2, Nat.reduceEqDiff, Nat.reduceAdd, iput, puts, pair_some, p_ldsm (l := 5) z2 rfl] | (refine den_call rfl (by first | (simp only [SS, Nat.reduceEqDiff, Nat.reduceAdd, iput, puts, FF, frzL_cat]; done) | (simp only [SS, Nat.reduceEqDiff, Nat.reduceAdd, iput, puts, FF, frzL_cat]; rfl)) (by first | exact hP | exact hN | exact tS) ?_) | (refine den_calli rfl (by first | (simp only [SS, Nat.reduceEqDiff, Nat.reduceAdd, iput, puts, FF, frzL_cat]; done) | (simp only [SS, Nat.reduceEqDiff, Nat.reduceAdd, iput, puts, FF, frzL_cat]; rfl)) (by first | exact hP | exact hN | exact tS) ?_))
          exact ⟨_, rfl, H2, fun _ _ h => h, rfl⟩
      · have e' : c.F f ≠ c.F g ∨ c.T f ≠ c.T g := by
          by_cases eF : c.F f = c.F g
          · exact .inr fun eT => e ⟨eF, eT⟩
          · exact .inl eF
        have l5 : lcode c f g true true = 5 := lcode_five h1 (e'.imp (fun h => ⟨rfl, h⟩) fun h => ⟨rfl, h⟩)
        have n5 : ¬ (5 : Int) = 0 := by decide
        rw [l5] at cS ⊢
        rw [eqL_bad (by decide)]
        repeat (first | simp (disch := (first | rfl | with_reducible assumption | with_reducible solve_by_elim (maxDepth := 8) [Shape.inT, Shape.inI, Shape.inC, Shape.inK, Shape.obF, Shape.obT, Shape.arI, Arr.inF] | omega)) only [S2, Nat.reduceEqDiff, Nat.reduceAdd, iput, puts, n5] | (refine den_call rfl (by first | (simp only [SS, Nat.reduceEqDiff, Nat.reduceAdd, iput, puts, FF, frzL_cat]; done) | (simp only [SS, Nat.reduceEqDiff, Nat.reduceAdd, iput, puts, FF, frzL_cat]; rfl)) (by first | exact cS) ?_) | (refine den_calli rfl (by first | (simp only [SS, Nat.reduceEqDiff, Nat.reduceAdd, iput, puts, FF, frzL_cat]; done) | (simp only [SS, Nat.reduceEqDiff, Nat.reduceAdd, iput, puts, FF, frzL_cat]; rfl)) (by first | exact cS) ?_))
        exact ⟨_, rfl, H, fun _ _ h => h, rfl⟩
  · have lb : lcode c f g true true = code (IsCat c) (Arr c f ∧ Arr c g) := lcode_bad h0
    rw [lb] at cS ⊢
    refine ⟨OkM.fzt fun H nx => h _ _ _ _ rfl fun hwf => ?_, OkM.fzt fun H nx => hs _ _ _ _ rfl fun hwf => ?_⟩
    · unfold V_CoequalizerArrow
      rw [eqL_bad h0]
      repeat (first | simp (disch := (first | rfl | with_reducible assumption | with_reducible solve_by_elim (maxDepth := 8) [Shape.inT, Shape.inI, Shape.inC, Shape.inK, Shape.obF, Shape.obT, Shape.arI, Arr.inF] | omega)) only [S2, Nat.reduceEqDiff, Nat.reduceAdd, iput, puts, p_msl2, h0] | (refine den_call rfl (by first | (simp only [SS, Nat.reduceEqDiff, Nat.reduceAdd, iput, puts, FF, frzL_cat]; done) | (simp only [SS, Nat.reduceEqDiff, Nat.reduceAdd, iput, puts, FF, frzL_cat]; rfl)) (by first | exact cO) ?_) | (refine den_calli rfl (by first | (simp only [SS, Nat.reduceEqDiff, Nat.reduceAdd, iput, puts, FF, frzL_cat]; done) | (simp only [SS, Nat.reduceEqDiff, Nat.reduceAdd, iput, puts, FF, frzL_cat]; rfl)) (by first | exact cO) ?_))
      exact ⟨_, rfl, H, fun _ _ h => h, rfl⟩
    · unfold V_spec_CoequalizerArrow
      rw [eqL_bad h0]
      repeat (first | simp (disch := (first | rfl | with_reducible assumption | with_reducible solve_by_elim (maxDepth := 8) [Shape.inT, Shape.inI, Shape.inC, Shape.inK, Shape.obF, Shape.obT, Shape.arI, Arr.inF] | omega)) only [S2, Nat.reduceEqDiff, Nat.reduceAdd, iput, puts, h0] | (refine den_call rfl (by first | (simp only [SS, Nat.reduceEqDiff, Nat.reduceAdd, iput, puts, FF, frzL_cat]; done) | (simp only [SS, Nat.reduceEqDiff, Nat.reduceAdd, iput, puts, FF, frzL_cat]; rfl)) (by first | exact cS) ?_) | (refine den_calli rfl (by first | (simp only [SS, Nat.reduceEqDiff, Nat.reduceAdd, iput, puts, FF, frzL_cat]; done) | (simp only [SS, Nat.reduceEqDiff, Nat.reduceAdd, iput, puts, FF, frzL_cat]; rfl)) (by first | exact cS) ?_))
      exact ⟨_, rfl, H, fun _ _ h => h, rfl⟩
theorem CoequalizerArrow_both (K : HCat P ν) (A : HArr P ν) (S : HSpan P ν) (O : HOpp P ν) (hp : Has P ν 321 3 V_Category_equalizers) (hp1 : Has P ν 405 5 V_Category_equalizers_1) (he : Has P ν 170 3 V_EqualizerArrow) (h : Has P ν 203 3 V_CoequalizerArrow) (KS : HSpec P ν) (F : HFirst P ν) (ha : Has P ν 245 2 V_spec_l02Arrows) (hl : Has P ν 317 5 V_spec_l13Code) (hq : Has P ν 320 3 V_spec_l13Forks) (ht : Has P ν 318 1 V_spec_l13Pair) (how : Has P ν 259 1 V_spec_l01Own) (hop : Has P ν 251 1 V_spec_l03Op) (hs : Has P ν 202 3 V_spec_CoequalizerArrow) (c : Cat) (b : Small c) (f g : Int) :
    ∃ u v k : Int, BothZ P ν 203 202 [.agg c.cells, int f, int g] (.tup [int u, int v, int k]) := by
  have h := CoequalizerArrow_z K A S O hp hp1 he h KS F ha hl hq ht how hop hs c b f g
  obtain ⟨x, y, z, e⟩ := eqL_three (lcode c f g true true) (spE (opC c) f g).firstO
  exact ⟨x, y, z, e ▸ h⟩

def V_PushoutArrows : Vc :=
  .op true (.p .box [.t 0]) <|
  .op true (.p (.msl 2 [int 0, int 0] [(0, 1), (1, 1)]) [.t 1, .t 2]) <|
  .op true (.call (.f 18) [.t 3, .t 4]) <|
  .op true (.p (.bin .neq) [.t 5, .c (int 0)]) <|
  .br 6
   (.ret [(.c (int 0), none), (.c (int 0), none), (.c (int 0), none), (.t 5, none)])
   (.op true (.call (.f 252) [.t 3]) <|
   .op true (.call (.f 174) [.t 7, .t 1, .t 2]) <|
   .op true (.p (.ext 0) [.t 8]) <|
   .op true (.p (.ext 1) [.t 8]) <|
   .op true (.p (.ext 2) [.t 8]) <|
   .op true (.p (.ext 3) [.t 8]) <|
   .ret [(.t 9, none), (.t 10, none), (.t 11, none), (.t 12, none)])
def V_spec_PushoutArrows : Vc :=
  .op true (.p .box [.t 0]) <|
  .op true (.p (.ld (some 5)) [.t 3]) <|
  .op true (.call (.f 317) [.t 4, .t 1, .t 2, .c (bool true), .c (bool false)]) <|
  .op true (.p (.bin .neq) [.t 5, .c (int 0)]) <|
  .br 6
   (.ret [(.c (int 0), none), (.c (int 0), none), (.c (int 0), none), (.t 5, none)])
   (.op true (.p (.ld (some 5)) [.t 3]) <|
   .op true (.call (.f 251) [.t 7]) <|
   .op true (.call (.f 323) [.t 8, .t 1, .t 2]) <|
   .op true (.call (.f 304) [.t 9]) <|
   .op true (.p (.ext 0) [.t 10]) <|
   .op true (.p (.ext 1) [.t 10]) <|
   .op true (.p (.ext 2) [.t 10]) <|
   .op true (.p (.ext 3) [.t 10]) <|
   .ret [(.t 11, none), (.t 12, none), (.t 13, none), (.t 14, none)])
set_option maxHeartbeats 1000000 in
theorem PushoutArrows_z (K : HCat P ν) (A : HArr P ν) (S : HSpan P ν) (O : HOpp P ν) (hp : Has P ν 324 3 V_Category_pullbacks) (hp1 : Has P ν 406 5 V_Category_pullbacks_1) (he : Has P ν 174 3 V_PullbackArrows) (h : Has P ν 207 3 V_PushoutArrows) (KS : HSpec P ν) (F : HFirst P ν) (ha : Has P ν 245 2 V_spec_l02Arrows) (hl : Has P ν 317 5 V_spec_l13Code) (hq : Has P ν 400 5 V_spec_l13Squares) (hd : Has P ν 323 3 V_spec_l13Pullback) (ht : Has P ν 304 1 V_spec_l13Triple) (how : Has P ν 259 1 V_spec_l01Own) (hop : Has P ν 251 1 V_spec_l03Op) (hs : Has P ν 206 3 V_spec_PushoutArrows) (c : Cat) (b : Small c) (f g : Int) :
    BothZ P ν 207 206 [.agg c.cells, int f, int g] (.tup (ints (limL (lcode c f g true false) (spB (opC c) f g).firstO))) := by
  have cO := arrowCode_fz K A.code c b [f, g] (by simp) (Wn2 c f g)
  have cS := l13Code_fz KS ha hl c b f g true false
  by_cases h0 : code (IsCat c) (Arr c f ∧ Arr c g) = 0
  · have h1 := code_zero.1 h0
    have hc := h1.1
    have hf := h1.2.1
    have hg := h1.2.2
    have s := hc.1
    have so := opC_shape s
    have k := hc.opA
    have hf' := (opC_arr s).2 hf
    have hg' := (opC_arr s).2 hg
    rw [h0] at cO
    have E := PullbackArrows_fz K A S hp hp1 he (opC c) (opC_small s) f g
    rw [lcode_op h1] at E
    refine ⟨?_, ?_⟩
    · obtain ⟨x, y, z, w, e⟩ := limL_four (lcode c f g true false) (spB (opC c) f g).firstO
      rw [e] at E ⊢
      refine OkM.fzt (l := [x, y, z, w]) fun H nx => h _ _ _ _ rfl fun hwf => ?_
      unfold V_PushoutArrows
      repeat (first | simp (disch := (first | rfl | with_reducible assumption | with_reducible solve_by_elim (maxDepth := 8) [Shape.inT, Shape.inI, Shape.inC, Shape.inK, Shape.obF, Shape.obT, Shape.arI, Arr.inF] | omega)) only [S2, Nat.reduceEqDiff, Nat.reduceAdd, iput, puts, p_msl2] | (refine den_call rfl (by first | (simp only [SS, Nat.reduceEqDiff, Nat.reduceAdd, iput, puts, FF, frzL_cat]; done) | (simp only [SS, Nat.reduceEqDiff, Nat.reduceAdd, iput, puts, FF, frzL_cat]; rfl)) (by first | exact cO | exact opposite_fi O c s | exact E) ?_) | (refine den_calli rfl (by first | (simp only [SS, Nat.reduceEqDiff, Nat.reduceAdd, iput, puts, FF, frzL_cat]; done) | (simp only [SS, Nat.reduceEqDiff, Nat.reduceAdd, iput, puts, FF, frzL_cat]; rfl)) (by first | exact cO | exact opposite_fi O c s | exact E) ?_))
      exact ⟨_, rfl, H, fun _ _ h => h, rfl⟩
    · refine OkM.fzt fun H nx => hs _ _ _ _ rfl fun hwf => ?_
      unfold V_spec_PushoutArrows
      by_cases e : c.F f = c.F g
      · have l0 : lcode c f g true false = 0 := lcode_ok h1 (fun _ => e) fun h => by cases h
        have ok := spB_ok S.thn hp1 (opC c) k f g hf' hg'
        have hP := l13Pullback_fi F hq hd (opC c) k f g hf' hg'
        have e2 : firstL (opC c) (spB (opC c) f g).sq = tripL (spB (opC c) f g).firstO := Sp.first_sq ok
        rw [e2] at hP
        have tS := l13Triple_fz ht (spB (opC c) f g).firstO
        rw [l0] at cS ⊢
        rw [limL_ok]
        rcases hO : (spB (opC c) f g).firstO with _ | ⟨z, p, q⟩
        · rw [hO] at tS hP
          repeat (first | simp (disch := (first | rfl | with_reducible assumption | with_reducible solve_by_elim (maxDepth := 8) [Shape.inT, Shape.inI, Shape.inC, Shape.inK, Shape.obF, Shape.obT, Shape.arI, Arr.inF] | omega)) only [S2, Nat.reduceEqDiff, Nat.reduceAdd, iput, puts, trip_none] | (refine den_call rfl (by first | (simp only [SS, Nat.reduceEqDiff, Nat.reduceAdd, iput, puts, FF, frzL_cat]; done) | (simp only [SS, Nat.reduceEqDiff, Nat.reduceAdd, iput, puts, FF, frzL_cat]; rfl)) (by first | exact cS | exact l03Op_fi how hop c s | exact hP | exact tS) ?_) | (refine den_calli rfl (by first | (simp only [SS, Nat.reduceEqDiff, Nat.reduceAdd, iput, puts, FF, frzL_cat]; done) | (simp only [SS, Nat.reduceEqDiff, Nat.reduceAdd, iput, puts, FF, frzL_cat]; rfl)) (by first | exact cS | exact l03Op_fi how hop c s | exact hP | exact tS) ?_))
          exact ⟨_, rfl, H, fun _ _ h => h, rfl⟩
        · rw [hO] at tS hP
          repeat (first | simp (disch := (first | rfl | with_reducible assumption | with_reducible solve_by_elim (maxDepth := 8) [Shape.inT, Shape.inI, Shape.inC, Shape.inK, Shape.obF, Shape.obT, Shape.arI, Arr.inF] | omega)) only [S2, Nat.reduceEqDiff, Nat.reduceAdd, iput, puts, trip_some] | (refine den_call rfl (by first | (simp only [SS, Nat.reduceEqDiff, Nat.reduceAdd, iput, puts, FF, frzL_cat]; done) | (simp only [SS, Nat.reduceEqDiff, Nat.reduceAdd, iput, puts, FF, frzL_cat]; rfl)) (by first | exact cS | exact l03Op_fi how hop c s | exact hP | exact tS) ?_) | (refine den_calli rfl (by first | (simp only [SS, Nat.reduceEqDiff, Nat.reduceAdd, iput, puts, FF, frzL_cat]; done) | (simp only [SS, Nat.reduceEqDiff, Nat.reduceAdd, iput, puts, FF, frzL_cat]; rfl)) (by first | exact cS | exact l03Op_fi how hop c s | exact hP | exact tS) ?_))
          exact ⟨_, rfl, H, fun _ _ h => h, rfl⟩
      · have l5 : lcode c f g true false = 5 := lcode_five h1 (.inl ⟨rfl, e⟩)
        have n5 : ¬ (5 : Int) = 0 := by decide
        rw [l5] at cS ⊢
        rw [limL_bad (by decide)]
        repeat (first | simp (disch := (first | rfl | with_reducible assumption | with_reducible solve_by_elim (maxDepth := 8) [Shape.inT, Shape.inI, Shape.inC, Shape.inK, Shape.obF, Shape.obT, Shape.arI, Arr.inF] | omega)) only [S2, Nat.reduceEqDiff, Nat.reduceAdd, iput, puts, n5] | (refine den_call rfl (by first | (simp only [SS, Nat.reduceEqDiff, Nat.reduceAdd, iput, puts, FF, frzL_cat]; done) | (simp only [SS, Nat.reduceEqDiff, Nat.reduceAdd, iput, puts, FF, frzL_cat]; rfl)) (by first | exact cS) ?_) | (refine den_calli rfl (by first | (simp only [SS, Nat.reduceEqDiff, Nat.reduceAdd, iput, puts, FF, frzL_cat]; done) | (simp only [SS, Nat.reduceEqDiff, Nat.reduceAdd, iput, puts, FF, frzL_cat]; rfl)) (by first | exact cS) ?_))
        exact ⟨_, rfl, H, fun _ _ h => h, rfl⟩
  · have lb : lcode c f g true false = code (IsCat c) (Arr c f ∧ Arr c g) := lcode_bad h0
    rw [lb] at cS ⊢
    refine ⟨OkM.fzt fun H nx => h _ _ _ _ rfl fun hwf => ?_, OkM.fzt fun H nx => hs _ _ _ _ rfl fun hwf => ?_⟩
    · unfold V_PushoutArrows
      rw [limL_bad h0]
      repeat (first | simp (disch := (first | rfl | with_reducible assumption | with_reducible solve_by_elim (maxDepth := 8) [Shape.inT, Shape.inI, Shape.inC, Shape.inK, Shape.obF, Shape.obT, Shape.arI, Arr.inF] | omega)) only [S2, Nat.reduceEqDiff, Nat.reduceAdd, iput, puts, p_msl2, h0] | (refine den_call rfl (by first | (simp only [SS, Nat.reduceEqDiff, Nat.reduceAdd, iput, puts, FF, frzL_cat]; done) | (simp only [SS, Nat.reduceEqDiff, Nat.reduceAdd, iput, puts, FF, frzL_cat]; rfl)) (by first | exact cO) ?_) | (refine den_calli rfl (by first | (simp only [SS, Nat.reduceEqDiff, Nat.reduceAdd, iput, puts, FF, frzL_cat]; done) | (simp only [SS, Nat.reduceEqDiff, Nat.reduceAdd, iput, puts, FF, frzL_cat]; rfl)) (by first | exact cO) ?_))
      exact ⟨_, rfl, H, fun _ _ h => h, rfl⟩
    · unfold V_spec_PushoutArrows
      rw [limL_bad h0]
      repeat (first | simp (disch := (first | rfl | with_reducible assumption | with_reducible solve_by_elim (maxDepth := 8) [Shape.inT, Shape.inI, Shape.inC, Shape.inK, Shape.obF, Shape.obT, Shape.arI, Arr.inF] | omega)) only [S2, Nat.reduceEqDiff, Nat.reduceAdd, iput, puts, h0] | (refine den_call rfl (by first | (simp only [SS, Nat.reduceEqDiff, Nat.reduceAdd, iput, puts, FF, frzL_cat]; done) | (simp only [SS, Nat.reduceEqDiff, Nat.reduceAdd, iput, puts, FF, frzL_cat]; rfl)) (by first | exact cS) ?_) | (refine den_calli rfl (by first | (simp only [SS, Nat.reduceEqDiff, Nat.reduceAdd, iput, puts, FF, frzL_cat]; done) | (simp only [SS, Nat.reduceEqDiff, Nat.reduceAdd, iput, puts, FF, frzL_cat]; rfl)) (by first | exact cS) ?_))
      exact ⟨_, rfl, H, fun _ _ h => h, rfl⟩
theorem PushoutArrows_both (K : HCat P ν) (A : HArr P ν) (S : HSpan P ν) (O : HOpp P ν) (hp : Has P ν 324 3 V_Category_pullbacks) (hp1 : Has P ν 406 5 V_Category_pullbacks_1) (he : Has P ν 174 3 V_PullbackArrows) (h : Has P ν 207 3 V_PushoutArrows) (KS : HSpec P ν) (F : HFirst P ν) (ha : Has P ν 245 2 V_spec_l02Arrows) (hl : Has P ν 317 5 V_spec_l13Code) (hq : Has P ν 400 5 V_spec_l13Squares) (hd : Has P ν 323 3 V_spec_l13Pullback) (ht : Has P ν 304 1 V_spec_l13Triple) (how : Has P ν 259 1 V_spec_l01Own) (hop : Has P ν 251 1 V_spec_l03Op) (hs : Has P ν 206 3 V_spec_PushoutArrows) (c : Cat) (b : Small c) (f g : Int) :
    ∃ u v w k : Int, BothZ P ν 207 206 [.agg c.cells, int f, int g] (.tup [int u, int v, int w, int k]) :=
  four (PushoutArrows_z K A S O hp hp1 he h KS F ha hl hq hd ht how hop hs c b f g)
end Go.Av
