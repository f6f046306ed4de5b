/-
  FullSubcategory and SubcategoryOf: both sides.
-/
import Derived.Test.YtbikcomiocdkpaaAvN2
import Derived.Test.YtbikcomiocdkpaaAvM1
namespace Go.Av
open Classical
set_option linter.unusedSimpArgs false
set_option linter.unusedVariables false
variable {P : Program} {ν : Nat → FuncId}

noncomputable def fullL (c : Cat) (os : List Int) : List Int := selL c.f.length fun f => decide (c.F f ∈ os) && decide (c.T f ∈ os)
theorem fullL_mem {c : Cat} {os : List Int} {f : Int} : f ∈ fullL c os ↔ Arr c f ∧ c.F f ∈ os ∧ c.T f ∈ os := by
  unfold fullL
  constructor
  · intro h
    obtain ⟨k, rfl, h1, h2⟩ := selL_mem h
    simp only [Bool.and_eq_true, decide_eq_true_eq] at h2
    exact ⟨⟨by omega, by omega⟩, h2⟩
  · rintro ⟨a, h1, h2⟩
    obtain ⟨a1, a2⟩ := a.nat
    exact selL_mem_iff.2 ⟨f.toNat, a2.symm, a1, by rw [a2]; simp [h1, h2]⟩
theorem fullL_sub {c : Cat} (s : Shape c) (os : List Int) : Wn (fullL c os) c.f.length ∧ IsSub c (fullL c os) := by
  refine ⟨fun i hi => (fullL_mem.1 (getD_mem hi)).1, selL_rising _ _, fun i hi => ?_⟩
  obtain ⟨a, hF, hT⟩ := fullL_mem.1 (getD_mem hi)
  refine ⟨fullL_mem.2 ⟨s.arI (s.obF a), ?_, ?_⟩, fullL_mem.2 ⟨s.arI (s.obT a), ?_, ?_⟩, fun j hj hk => ?_⟩
  · rw [s.idF (s.obF a)]; exact hF
  · rw [s.idT (s.obF a)]; exact hF
  · rw [s.idF (s.obT a)]; exact hT
  · rw [s.idT (s.obT a)]; exact hT
  · obtain ⟨b, gF, gT⟩ := fullL_mem.1 (getD_mem hj)
    have e := (s.kI a b).1 hk
    exact fullL_mem.2 ⟨s.arK a b e, by rw [s.kF a b e]; exact hF, by rw [s.kT a b e]; exact gT⟩
def V_Category_between : Vc :=
  .op true (.p (.msl 0 [] []) []) <|
  .op true (.p .nck [.t 0]) <|
  .op true (.p (.fad 1) [.t 3]) <|
  .op true (.p (.ld none) [.t 4]) <|
  .op true (.p .len [.t 5]) <|
  .loop 0 [.t 2, .c (int 0)] <|
  .op true (.p (.bin .lss) [.t 8, .t 6]) <|
  .br 9
   (.op true (.p .nck [.t 0]) <|
   .op true (.p (.fad 1) [.t 10]) <|
   .op true (.p (.ld none) [.t 11]) <|
   .op true (.p (.iad 1) [.t 12, .t 8]) <|
   .op true (.p (.ld none) [.t 13]) <|
   .op true (.call (.f 413) [.t 1, .t 14]) <|
   .br 15
    (.op true (.p .nck [.t 0]) <|
    .op true (.p (.fad 2) [.t 16]) <|
    .op true (.p (.ld none) [.t 17]) <|
    .op true (.p (.iad 1) [.t 18, .t 8]) <|
    .op true (.p (.ld none) [.t 19]) <|
    .op true (.call (.f 413) [.t 1, .t 20]) <|
    .br 21
     (.op true (.p (.msl 1 [int 0] [(0, 1)]) [.t 8]) <|
     .op true (.app 1 (.t 7) (.t 22)) <|
     .op true (.p (.bin .add) [.t 8, .c (int 1)]) <|
     .again 0 [.t 23, .t 24])
     (.op true (.p (.bin .add) [.t 8, .c (int 1)]) <|
     .again 0 [.t 7, .t 22]))
    (.op true (.p (.bin .add) [.t 8, .c (int 1)]) <|
    .again 0 [.t 7, .t 16]))
   (.ret [(.t 7, none)])
theorem between_fz (hha : Has P ν 413 2 V_has) (h : Has P ν 369 2 V_Category_between) (c : Cat) (s : Shape c) (os : List Int) (hl : os.length ≤ 1048576) : Fz (OkM P ν) 369 [.ptr c.cells 0, islice os] (islice (fullL c os)) := by
  refine OkM.fz (fun H nx => (h _ _ _ _ rfl fun hwf => ?_ : OkM P ν _ _ H nx (IsI (fullL c os) H nx))) fun _ _ _ hh => hh.frz _
  unfold V_Category_between
  have n40 := s.n40
  have tl := s.tl
  try simp (disch := (first | rfl | with_reducible assumption | with_reducible solve_by_elim (maxDepth := 8) [Shape.inT, Shape.inI, Shape.inC, Shape.inK, Shape.obF, Shape.obT, Shape.arI, Arr.inF] | omega)) only [S2, Nat.reduceEqDiff, Nat.reduceAdd, iput, puts]
  refine den_sel c.f.length (fun f => decide (c.F f ∈ os) && decide (c.T f ∈ os)) H nx rfl (Nat.le_refl _) rfl fun i v H' nx' hi hI => ?_
  have sl := selL_len i fun f => decide (c.F f ∈ os) && decide (c.T f ∈ os)
  by_cases hlt : i < c.f.length
  · have i1 : In c.f (i : Int) := In.nat hlt
    have i2 : In c.t (i : Int) := In.nat (by omega)
    have gF : gI c.f (i : Int) = c.F i := rfl
    have gT : gI c.t (i : Int) = c.T i := rfl
    repeat (first | simp (disch := (first | rfl | with_reducible assumption | with_reducible solve_by_elim (maxDepth := 8) [Shape.inT, Shape.inI, Shape.inC, Shape.inK, Shape.obF, Shape.obT, Shape.arI, Arr.inF] | omega)) only [S2, Nat.reduceEqDiff, Nat.reduceAdd, iput, puts, hlt, gF, gT] | (refine den_call rfl (by first | (simp only [SS, Nat.reduceEqDiff, Nat.reduceAdd, iput, puts, FF, frzL_cat]; done) | (simp only [SS, Nat.reduceEqDiff, Nat.reduceAdd, iput, puts, FF, frzL_cat]; rfl)) (by first | exact has_fz hha os (c.F i) (by omega)) ?_) | (refine den_calli rfl (by first | (simp only [SS, Nat.reduceEqDiff, Nat.reduceAdd, iput, puts, FF, frzL_cat]; done) | (simp only [SS, Nat.reduceEqDiff, Nat.reduceAdd, iput, puts, FF, frzL_cat]; rfl)) (by first | exact has_fz hha os (c.F i) (by omega)) ?_))
    refine ⟨fun e1 => ?_, fun e1 => ?_⟩
    · repeat (first | simp (disch := (first | rfl | with_reducible assumption | with_reducible solve_by_elim (maxDepth := 8) [Shape.inT, Shape.inI, Shape.inC, Shape.inK, Shape.obF, Shape.obT, Shape.arI, Arr.inF] | omega)) only [S2, Nat.reduceEqDiff, Nat.reduceAdd, iput, puts, gT] | (refine den_call rfl (by first | (simp only [SS, Nat.reduceEqDiff, Nat.reduceAdd, iput, puts, FF, frzL_cat]; done) | (simp only [SS, Nat.reduceEqDiff, Nat.reduceAdd, iput, puts, FF, frzL_cat]; rfl)) (by first | exact has_fz hha os (c.T i) (by omega)) ?_) | (refine den_calli rfl (by first | (simp only [SS, Nat.reduceEqDiff, Nat.reduceAdd, iput, puts, FF, frzL_cat]; done) | (simp only [SS, Nat.reduceEqDiff, Nat.reduceAdd, iput, puts, FF, frzL_cat]; rfl)) (by first | exact has_fz hha os (c.T i) (by omega)) ?_))
      refine ⟨fun e2 => ?_, fun e2 => ?_⟩
      · try simp (disch := (first | rfl | with_reducible assumption | with_reducible solve_by_elim (maxDepth := 8) [Shape.inT, Shape.inI, Shape.inC, Shape.inK, Shape.obF, Shape.obT, Shape.arI, Arr.inF] | omega)) only [S2, Nat.reduceEqDiff, Nat.reduceAdd, iput, puts]
        refine den_appI (m := [(i : Int)]) (H0 := H) (nx0 := nx) hI rfl (by simp) (by simp only [List.length_cons, List.length_nil]; omega) fun v2 H3 n3 hI2 => ?_
        try simp (disch := (first | rfl | with_reducible assumption | with_reducible solve_by_elim (maxDepth := 8) [Shape.inT, Shape.inI, Shape.inC, Shape.inK, Shape.obF, Shape.obT, Shape.arI, Arr.inF] | omega)) only [S2, Nat.reduceEqDiff, Nat.reduceAdd, iput, puts]
        exact sel_take rfl hlt (by simp [e1, e2]) hI2
      · try simp (disch := (first | rfl | with_reducible assumption | with_reducible solve_by_elim (maxDepth := 8) [Shape.inT, Shape.inI, Shape.inC, Shape.inK, Shape.obF, Shape.obT, Shape.arI, Arr.inF] | omega)) only [S2, Nat.reduceEqDiff, Nat.reduceAdd, iput, puts]
        exact sel_skip rfl hlt (by simp [e2]) hI
    · try simp (disch := (first | rfl | with_reducible assumption | with_reducible solve_by_elim (maxDepth := 8) [Shape.inT, Shape.inI, Shape.inC, Shape.inK, Shape.obF, Shape.obT, Shape.arI, Arr.inF] | omega)) only [S2, Nat.reduceEqDiff, Nat.reduceAdd, iput, puts]
      exact sel_skip rfl hlt (by simp [e1]) hI
  · try simp (disch := (first | rfl | with_reducible assumption | with_reducible solve_by_elim (maxDepth := 8) [Shape.inT, Shape.inI, Shape.inC, Shape.inK, Shape.obF, Shape.obT, Shape.arI, Arr.inF] | omega)) only [S2, Nat.reduceEqDiff, Nat.reduceAdd, iput, puts, hlt]
    have : i = c.f.length := by omega
    subst this
    exact ⟨_, rfl, _, fun _ _ h => h, hI⟩
def V_spec_l02Full : Vc :=
  .op true (.p .box [.t 0]) <|
  .op true (.p (.msl 0 [] []) []) <|
  .loop 0 [.t 3, .c (int 0)] <|
  .op true (.p (.fad 1) [.t 2]) <|
  .op true (.p (.ld none) [.t 6]) <|
  .op true (.p .len [.t 7]) <|
  .op true (.p (.bin .lss) [.t 5, .t 8]) <|
  .br 9
   (.op true (.p (.fad 1) [.t 2]) <|
   .op true (.p (.ld none) [.t 10]) <|
   .op true (.p (.iad 1) [.t 11, .t 5]) <|
   .op true (.p (.ld none) [.t 12]) <|
   .op true (.call (.f 262) [.t 1, .t 13]) <|
   .br 14
    (.op true (.p (.fad 2) [.t 2]) <|
    .op true (.p (.ld none) [.t 15]) <|
    .op true (.p (.iad 1) [.t 16, .t 5]) <|
    .op true (.p (.ld none) [.t 17]) <|
    .op true (.call (.f 262) [.t 1, .t 18]) <|
    .br 19
     (.op true (.p (.msl 1 [int 0] [(0, 1)]) [.t 5]) <|
     .op true (.app 1 (.t 4) (.t 20)) <|
     .op true (.p (.bin .add) [.t 5, .c (int 1)]) <|
     .again 0 [.t 21, .t 22])
     (.op true (.p (.bin .add) [.t 5, .c (int 1)]) <|
     .again 0 [.t 4, .t 20]))
    (.op true (.p (.bin .add) [.t 5, .c (int 1)]) <|
    .again 0 [.t 4, .t 15]))
   (.ret [(.t 4, none)])
theorem l02Full_fz (hha : Has P ν 262 2 V_spec_l01Has) (h : Has P ν 367 2 V_spec_l02Full) (c : Cat) (s : Shape c) (os : List Int) (hl : os.length ≤ 1048576) : Fz (OkM P ν) 367 [.agg c.cells, islice os] (islice (fullL c os)) := by
  refine OkM.fz (fun H nx => (h _ _ _ _ rfl fun hwf => ?_ : OkM P ν _ _ H nx (IsI (fullL c os) H nx))) fun _ _ _ hh => hh.frz _
  unfold V_spec_l02Full
  have n40 := s.n40
  have tl := s.tl
  try simp (disch := (first | rfl | with_reducible assumption | with_reducible solve_by_elim (maxDepth := 8) [Shape.inT, Shape.inI, Shape.inC, Shape.inK, Shape.obF, Shape.obT, Shape.arI, Arr.inF] | omega)) only [S2, Nat.reduceEqDiff, Nat.reduceAdd, iput, puts]
  refine den_sel c.f.length (fun f => decide (c.F f ∈ os) && decide (c.T f ∈ os)) H nx rfl (Nat.le_refl _) rfl fun i v H' nx' hi hI => ?_
  have sl := selL_len i fun f => decide (c.F f ∈ os) && decide (c.T f ∈ os)
  by_cases hlt : i < c.f.length
  · have i1 : In c.f (i : Int) := In.nat hlt
    have i2 : In c.t (i : Int) := In.nat (by omega)
    have gF : gI c.f (i : Int) = c.F i := rfl
    have gT : gI c.t (i : Int) = c.T i := rfl
    repeat (first | simp (disch := (first | rfl | with_reducible assumption | with_reducible solve_by_elim (maxDepth := 8) [Shape.inT, Shape.inI, Shape.inC, Shape.inK, Shape.obF, Shape.obT, Shape.arI, Arr.inF] | omega)) only [S2, Nat.reduceEqDiff, Nat.reduceAdd, iput, puts, hlt, gF, gT] | (refine den_call rfl (by first | (simp only [SS, Nat.reduceEqDiff, Nat.reduceAdd, iput, puts, FF, frzL_cat]; done) | (simp only [SS, Nat.reduceEqDiff, Nat.reduceAdd, iput, puts, FF, frzL_cat]; rfl)) (by first | exact (l01Has_ok hha os (c.F i) (by omega)).fzb) ?_) | (refine den_calli rfl (by first | (simp only [SS, Nat.reduceEqDiff, Nat.reduceAdd, iput, puts, FF, frzL_cat]; done) | (simp only [SS, Nat.reduceEqDiff, Nat.reduceAdd, iput, puts, FF, frzL_cat]; rfl)) (by first | exact (l01Has_ok hha os (c.F i) (by omega)).fzb) ?_))
    refine ⟨fun e1 => ?_, fun e1 => ?_⟩
    · repeat (first | simp (disch := (first | rfl | with_reducible assumption | with_reducible solve_by_elim (maxDepth := 8) [Shape.inT, Shape.inI, Shape.inC, Shape.inK, Shape.obF, Shape.obT, Shape.arI, Arr.inF] | omega)) only [S2, Nat.reduceEqDiff, Nat.reduceAdd, iput, puts, gT] | (refine den_call rfl (by first | (simp only [SS, Nat.reduceEqDiff, Nat.reduceAdd, iput, puts, FF, frzL_cat]; done) | (simp only [SS, Nat.reduceEqDiff, Nat.reduceAdd, iput, puts, FF, frzL_cat]; rfl)) (by first | exact (l01Has_ok hha os (c.T i) (by omega)).fzb) ?_) | (refine den_calli rfl (by first | (simp only [SS, Nat.reduceEqDiff, Nat.reduceAdd, iput, puts, FF, frzL_cat]; done) | (simp only [SS, Nat.reduceEqDiff, Nat.reduceAdd, iput, puts, FF, frzL_cat]; rfl)) (by first | exact (l01Has_ok hha os (c.T i) (by omega)).fzb) ?_))
      refine ⟨fun e2 => ?_, fun e2 => ?_⟩
      · try simp (disch := (first | rfl | with_reducible assumption | with_reducible solve_by_elim (maxDepth := 8) [Shape.inT, Shape.inI, Shape.inC, Shape.inK, Shape.obF, Shape.obT, Shape.arI, Arr.inF] | omega)) only [S2, Nat.reduceEqDiff, Nat.reduceAdd, iput, puts]
        refine den_appI (m := [(i : Int)]) (H0 := H) (nx0 := nx) hI rfl (by simp) (by simp only [List.length_cons, List.length_nil]; omega) fun v2 H3 n3 hI2 => ?_
        try simp (disch := (first | rfl | with_reducible assumption | with_reducible solve_by_elim (maxDepth := 8) [Shape.inT, Shape.inI, Shape.inC, Shape.inK, Shape.obF, Shape.obT, Shape.arI, Arr.inF] | omega)) only [S2, Nat.reduceEqDiff, Nat.reduceAdd, iput, puts]
        exact sel_take rfl hlt (by simp [e1, e2]) hI2
      · try simp (disch := (first | rfl | with_reducible assumption | with_reducible solve_by_elim (maxDepth := 8) [Shape.inT, Shape.inI, Shape.inC, Shape.inK, Shape.obF, Shape.obT, Shape.arI, Arr.inF] | omega)) only [S2, Nat.reduceEqDiff, Nat.reduceAdd, iput, puts]
        exact sel_skip rfl hlt (by simp [e2]) hI
    · try simp (disch := (first | rfl | with_reducible assumption | with_reducible solve_by_elim (maxDepth := 8) [Shape.inT, Shape.inI, Shape.inC, Shape.inK, Shape.obF, Shape.obT, Shape.arI, Arr.inF] | omega)) only [S2, Nat.reduceEqDiff, Nat.reduceAdd, iput, puts]
      exact sel_skip rfl hlt (by simp [e1]) hI
  · try simp (disch := (first | rfl | with_reducible assumption | with_reducible solve_by_elim (maxDepth := 8) [Shape.inT, Shape.inI, Shape.inC, Shape.inK, Shape.obF, Shape.obT, Shape.arI, Arr.inF] | omega)) only [S2, Nat.reduceEqDiff, Nat.reduceAdd, iput, puts, hlt]
    have : i = c.f.length := by omega
    subst this
    exact ⟨_, rfl, _, fun _ _ h => h, hI⟩

def zeroK : Cat := ⟨0, [], [], [], []⟩
theorem zeroK_own {H : Hp} {lo hi : Nat} : OwnK zeroK (.agg [int 0, .nil, .nil, .nil, .nil]) H lo hi := by
  have no : ∀ o, ¬ Ft1 .nil o := fun o ⟨n, e⟩ => by cases e
  exact ⟨.nil, .nil, .nil, .nil, rfl, .inl ⟨rfl, rfl⟩, .inl ⟨rfl, rfl⟩, .inl ⟨rfl, rfl⟩, OwnD.nil, fun o h => absurd h (no o), fun o h => absurd h (no o), fun o h => absurd h (no o), fun o h => absurd h (no o), fun o h => absurd h (no o), fun o h => absurd h (no o)⟩
theorem zeroK_small : Small2 zeroK := ⟨⟨by simp [zeroK], by simp [zeroK], by simp [zeroK], by simp [zeroK]⟩, fun k hk => by simp [zeroK] at hk⟩
theorem subK_small {c : Cat} {as : List Int} (s : Shape c) (hl : as.length ≤ 40) : Small2 (subK c as) := by
  have o8 := s.o8
  have : (objL c as).length ≤ c.o.toNat := selL_len _ _
  refine ⟨⟨by simp [subK]; omega, by simp [subK]; omega, by simp [subK]; omega, by simp [subK]; omega⟩, fun k hk => ?_⟩
  have hk' : k < as.length := by simpa [subK] using hk
  simp [subK, List.getD, hk']
  omega
theorem mkZ {H : Hp} : pvf H (.mka [int 0, .nil, .nil, .nil, .nil] []) [] = some (.agg [int 0, .nil, .nil, .nil, .nil]) := rfl
/-- A category of the call's own into the result's variable. -/
theorem isK_some' (x : Cat) (nx : Nat) : ∃ u H' nx', (∃ w, IsKV x w nx u H' nx' ∧ ∀ k, Av.cln nx k w = true) := by
  obtain ⟨u, H', nx', h⟩ := IsKV.some x (int 0) nx
  exact ⟨u, H', nx', int 0, h, fun k => cln_int _ _ _⟩

/-- The answers of both. -/
noncomputable def fulC (c : Cat) (os : List Int) : Int := if code (IsCat c) (Wn os c.o) = 0 then if Rising os then 0 else 5 else code (IsCat c) (Wn os c.o)
noncomputable def fulK (c : Cat) (os : List Int) : Cat := if fulC c os = 0 then subK c (fullL c os) else zeroK
noncomputable def sbC (c : Cat) (as : List Int) : Int := if code (IsCat c) (Wn as c.f.length) = 0 then if IsSub c as then 0 else 5 else code (IsCat c) (Wn as c.f.length)
noncomputable def sbK (c : Cat) (as : List Int) : Cat := if sbC c as = 0 then subK c as else zeroK
theorem fulC_zero {c : Cat} {os : List Int} (h : fulC c os = 0) : IsCat c ∧ Wn os c.o ∧ Rising os := by
  unfold fulC at h
  by_cases e : code (IsCat c) (Wn os c.o) = 0
  · rw [if_pos e] at h
    by_cases r : Rising os
    · exact ⟨(code_zero.1 e).1, (code_zero.1 e).2, r⟩
    · rw [if_neg r] at h; omega
  · rw [if_neg e] at h; exact absurd h e
theorem sbC_zero {c : Cat} {as : List Int} (h : sbC c as = 0) : IsCat c ∧ Wn as c.f.length ∧ IsSub c as := by
  unfold sbC at h
  by_cases e : code (IsCat c) (Wn as c.f.length) = 0
  · rw [if_pos e] at h
    by_cases r : IsSub c as
    · exact ⟨(code_zero.1 e).1, (code_zero.1 e).2, r⟩
    · rw [if_neg r] at h; omega
  · rw [if_neg e] at h; exact absurd h e
theorem fullL_len {c : Cat} (s : Shape c) (os : List Int) : (fullL c os).length ≤ 40 := Nat.le_trans (selL_len _ _) s.n40
theorem sb_len {c : Cat} (s : Shape c) {as : List Int} (hw : Wn as c.f.length) (hr : Rising as) : as.length ≤ 40 := by
  have := s.n40
  rcases hr.le hw with q | q
  · omega
  · simp [q]

def V_FullSubcategory : Vc :=
  .op true (.p .box [.t 0]) <|
  .op true (.new [int 0, .nil, .nil, .nil, .nil]) <|
  .op true (.call (.f 306) [.t 2, .t 1]) <|
  .op true (.p (.bin .neq) [.t 4, .c (int 0)]) <|
  .br 5
   (.op true (.p (.mka [int 0, .nil, .nil, .nil, .nil] []) []) <|
   .op true (.st 5 (.t 3) (.t 6)) <|
   .ret [(.t 3, some (some 5)), (.t 4, none)])
   (.op true (.call (.f 368) [.t 1]) <|
   .op true (.p .bnot [.t 6]) <|
   .br 7
    (.op true (.p (.mka [int 0, .nil, .nil, .nil, .nil] []) []) <|
    .op true (.st 5 (.t 3) (.t 8)) <|
    .ret [(.t 3, some (some 5)), (.c (int 5), none)])
    (.op true (.call (.f 369) [.t 2, .t 1]) <|
    .op true (.callo (.f 250) [.t 2, .t 8]) <|
    .op true (.p (.ext 0) [.t 9]) <|
    .op true (.p (.ext 1) [.t 9]) <|
    .op true (.new [int 0, .nil, .nil, .nil, .nil]) <|
    .op true (.st 5 (.t 12) (.t 10)) <|
    .op true (.p (.ld (some 5)) [.t 12]) <|
    .op true (.st 5 (.t 3) (.t 14)) <|
    .ret [(.t 3, some (some 5)), (.c (int 0), none)]))
def V_SubcategoryOf : Vc :=
  .op true (.p .box [.t 0]) <|
  .op true (.new [int 0, .nil, .nil, .nil, .nil]) <|
  .op true (.call (.f 18) [.t 2, .t 1]) <|
  .op true (.p (.bin .neq) [.t 4, .c (int 0)]) <|
  .br 5
   (.op true (.p (.mka [int 0, .nil, .nil, .nil, .nil] []) []) <|
   .op true (.st 5 (.t 3) (.t 6)) <|
   .ret [(.t 3, some (some 5)), (.t 4, none)])
   (.op true (.call (.f 248) [.t 2, .t 1]) <|
   .op true (.p .bnot [.t 6]) <|
   .br 7
    (.op true (.p (.mka [int 0, .nil, .nil, .nil, .nil] []) []) <|
    .op true (.st 5 (.t 3) (.t 8)) <|
    .ret [(.t 3, some (some 5)), (.c (int 5), none)])
    (.op true (.callo (.f 250) [.t 2, .t 1]) <|
    .op true (.p (.ext 0) [.t 8]) <|
    .op true (.p (.ext 1) [.t 8]) <|
    .op true (.new [int 0, .nil, .nil, .nil, .nil]) <|
    .op true (.st 5 (.t 11) (.t 9)) <|
    .op true (.p (.ld (some 5)) [.t 11]) <|
    .op true (.st 5 (.t 3) (.t 13)) <|
    .ret [(.t 3, some (some 5)), (.c (int 0), none)]))
set_option maxHeartbeats 2000000 in
theorem FullSubcategory_ok (K : HCat P ν) (ho : Has P ν 306 2 V_objectCode) (hri : Has P ν 368 1 V_rising) (hha : Has P ν 413 2 V_has) (hbe : Has P ν 369 2 V_Category_between) (hm : Has P ν 375 2 V_Category_marks) (hs : Has P ν 250 2 V_Category_sub) (h : Has P ν 227 2 V_FullSubcategory) (c : Cat) (b : Small c) (os : List Int) (hl : os.length ≤ 1048576) (nx : Nat) :
    OkM P ν 227 [.agg c.cells, islice os] hempty nx (IsK (fulK c os) (fulC c os) nx) := by
  refine h _ _ _ _ rfl fun hwf => ?_
  unfold V_FullSubcategory
  have bad : ∀ (k : Int) (H : Hp) (n1 : Nat), fulC c os = k → k ≠ 0 → H nx = some [int 0, .nil, .nil, .nil, .nil] → nx ≤ n1 → ∃ H', Sub H' H ∧ IsK (fulK c os) (fulC c os) nx (.tup [.agg [int 0, .nil, .nil, .nil, .nil], int k]) H' n1 := fun k H n1 e hk _ hn => by
    rw [fulK, e, if_neg hk]
    exact (zeroK_own (H := H) (lo := nx) (hi := n1)).back (Nat.le_refl _) hn
  have cO := objectCode_fz K ho c b os hl Iff.rfl
  try simp (disch := (first | rfl | with_reducible assumption | with_reducible solve_by_elim (maxDepth := 8) [Shape.inT, Shape.inI, Shape.inC, Shape.inK, Shape.obF, Shape.obT, Shape.arI, Arr.inF] | omega)) only [S2, Nat.reduceEqDiff, Nat.reduceAdd, iput, puts]
  refine den_newR fun H0 y0 e0 => ?_
  repeat (first | simp (disch := (first | rfl | with_reducible assumption | with_reducible solve_by_elim (maxDepth := 8) [Shape.inT, Shape.inI, Shape.inC, Shape.inK, Shape.obF, Shape.obT, Shape.arI, Arr.inF] | omega)) only [S2, Nat.reduceEqDiff, Nat.reduceAdd, iput, puts] | (refine den_call rfl (by first | (simp only [SS, Nat.reduceEqDiff, Nat.reduceAdd, iput, puts, FF, frzL_cat]; done) | (simp only [SS, Nat.reduceEqDiff, Nat.reduceAdd, iput, puts, FF, frzL_cat]; rfl)) (by first | exact cO) ?_) | (refine den_calli rfl (by first | (simp only [SS, Nat.reduceEqDiff, Nat.reduceAdd, iput, puts, FF, frzL_cat]; done) | (simp only [SS, Nat.reduceEqDiff, Nat.reduceAdd, iput, puts, FF, frzL_cat]; rfl)) (by first | exact cO) ?_))
  refine ⟨fun h0 => ?_, fun h0 => ?_⟩
  · try simp (disch := (first | rfl | with_reducible assumption | with_reducible solve_by_elim (maxDepth := 8) [Shape.inT, Shape.inI, Shape.inC, Shape.inK, Shape.obF, Shape.obT, Shape.arI, Arr.inF] | omega)) only [S2, Nat.reduceEqDiff, Nat.reduceAdd, iput, puts, mkZ]
    refine den_stR (o := nx) (m := 5) (d := [int 0, .nil, .nil, .nil, .nil]) rfl rfl y0 rfl rfl rfl fun H1 y1 e1 => ?_
    obtain ⟨H', q1, q2⟩ := bad _ H1 (nx + 1) (by unfold fulC; rw [if_neg h0]) h0 y1 (by omega)
    refine ⟨_, ?_, H', q1, q2⟩
    simp only [retOf, rets, SS, Nat.reduceEqDiff, Nat.reduceAdd, iput, puts, pLd, y1]
    rfl
  have h0 : code (IsCat c) (Wn os c.o) = 0 := by first | exact h0 | simpa using h0
  obtain ⟨hc, hw⟩ := code_zero.1 h0
  have s := hc.1
  repeat (first | simp (disch := (first | rfl | with_reducible assumption | with_reducible solve_by_elim (maxDepth := 8) [Shape.inT, Shape.inI, Shape.inC, Shape.inK, Shape.obF, Shape.obT, Shape.arI, Arr.inF] | omega)) only [S2, Nat.reduceEqDiff, Nat.reduceAdd, iput, puts] | (refine den_call rfl (by first | (simp only [SS, Nat.reduceEqDiff, Nat.reduceAdd, iput, puts, FF, frzL_cat]; done) | (simp only [SS, Nat.reduceEqDiff, Nat.reduceAdd, iput, puts, FF, frzL_cat]; rfl)) (by first | exact (rising_ok hri os hl).fzb) ?_) | (refine den_calli rfl (by first | (simp only [SS, Nat.reduceEqDiff, Nat.reduceAdd, iput, puts, FF, frzL_cat]; done) | (simp only [SS, Nat.reduceEqDiff, Nat.reduceAdd, iput, puts, FF, frzL_cat]; rfl)) (by first | exact (rising_ok hri os hl).fzb) ?_))
  refine ⟨fun h1 => ?_, fun h1 => ?_⟩
  · try simp (disch := (first | rfl | with_reducible assumption | with_reducible solve_by_elim (maxDepth := 8) [Shape.inT, Shape.inI, Shape.inC, Shape.inK, Shape.obF, Shape.obT, Shape.arI, Arr.inF] | omega)) only [S2, Nat.reduceEqDiff, Nat.reduceAdd, iput, puts, mkZ]
    refine den_stR (o := nx) (m := 5) (d := [int 0, .nil, .nil, .nil, .nil]) rfl rfl y0 rfl rfl rfl fun H1 y1 e1 => ?_
    obtain ⟨H', q1, q2⟩ := bad 5 H1 (nx + 1) (by unfold fulC; rw [if_pos h0, if_neg h1]) (by decide) y1 (by omega)
    refine ⟨_, ?_, H', q1, q2⟩
    simp only [retOf, rets, SS, Nat.reduceEqDiff, Nat.reduceAdd, iput, puts, pLd, y1]
    rfl
  have e00 : fulC c os = 0 := by unfold fulC; rw [if_pos h0, if_pos h1]
  obtain ⟨fw, fs⟩ := fullL_sub s os
  repeat (first | simp (disch := (first | rfl | with_reducible assumption | with_reducible solve_by_elim (maxDepth := 8) [Shape.inT, Shape.inI, Shape.inC, Shape.inK, Shape.obF, Shape.obT, Shape.arI, Arr.inF] | omega)) only [S2, Nat.reduceEqDiff, Nat.reduceAdd, iput, puts] | (refine den_call rfl (by first | (simp only [SS, Nat.reduceEqDiff, Nat.reduceAdd, iput, puts, FF, frzL_cat]; done) | (simp only [SS, Nat.reduceEqDiff, Nat.reduceAdd, iput, puts, FF, frzL_cat]; rfl)) (by first | exact between_fz hha hbe c s os hl) ?_) | (refine den_calli rfl (by first | (simp only [SS, Nat.reduceEqDiff, Nat.reduceAdd, iput, puts, FF, frzL_cat]; done) | (simp only [SS, Nat.reduceEqDiff, Nat.reduceAdd, iput, puts, FF, frzL_cat]; rfl)) (by first | exact between_fz hha hbe c s os hl) ?_))
  refine den_callo (fc := (250, [])) (ys := [.ptr c.cells 0, islice (fullL c os)]) rfl (by simp only [SS, Nat.reduceEqDiff, Nat.reduceAdd, iput, puts, FF, frzL_cat]) (sub_ok K.arrows K.thn hm hs c s (fullL c os) fw fs (fullL_len s os) (nx + 1)) (isK_some' _ _) fun u H' nx' hu => ?_
  obtain ⟨w, hu, clw⟩ := hu
  obtain ⟨q1, q2, q3, r0, rfl, own⟩ := hu.own clw H0
  refine ⟨q1, q2, ?_⟩
  have y1 : hmerge (nx + 1) H0 H' nx = some [int 0, .nil, .nil, .nil, .nil] := (hmerge_lo (by omega)).trans y0
  generalize hmerge (nx + 1) H0 H' = H1 at own y1
  obtain ⟨ga, gb, gd, ge, rfl, ownC⟩ := own
  have own : OwnK (subK c (fullL c os)) (.agg [int (subK c (fullL c os)).o, ga, gb, gd, ge]) _ _ _ := ⟨ga, gb, gd, ge, rfl, ownC⟩
  clear ownC
  try simp (disch := (first | rfl | with_reducible assumption | with_reducible solve_by_elim (maxDepth := 8) [Shape.inT, Shape.inI, Shape.inC, Shape.inK, Shape.obF, Shape.obT, Shape.arI, Arr.inF] | omega)) only [S2, Nat.reduceEqDiff, Nat.reduceAdd, iput, puts]
  refine den_newR fun H2 x2 e2 => ?_
  have own := own.mono (Nat.le_refl _) fun o h1 h2 => e2 o (by omega)
  have y2 := (e2 nx (by omega)).trans y1
  refine den_stR (m := 5) (d := [int (subK c (fullL c os)).o, ga, gb, gd, ge]) rfl rfl x2 rfl rfl own.one5 fun H3 x3 e3 => ?_
  have own := own.mono (Nat.le_refl _) fun o h1 h2 => e3 o (by omega)
  have y3 := (e3 nx (by omega)).trans y2
  try simp (disch := (first | rfl | with_reducible assumption | with_reducible solve_by_elim (maxDepth := 8) [Shape.inT, Shape.inI, Shape.inC, Shape.inK, Shape.obF, Shape.obT, Shape.arI, Arr.inF] | omega)) only [S2, Nat.reduceEqDiff, Nat.reduceAdd, iput, puts, p_ldsm (l := 5) x3 rfl]
  refine den_stR (o := nx) (m := 5) (d := [int (subK c (fullL c os)).o, ga, gb, gd, ge]) rfl rfl y3 rfl rfl own.one5 fun H4 y4 e4 => ?_
  have own := own.mono (show nx' ≤ nx' + 1 by omega) fun o h1 h2 => e4 o (by omega)
  obtain ⟨H5, q4, q5⟩ := own.back (w := int 0) (nx := nx) (by omega) (by omega)
  refine ⟨.tup [.agg [int (subK c (fullL c os)).o, ga, gb, gd, ge], int 0], ?_, H5, q4, ?_⟩
  · simp only [retOf, rets, SS, Nat.reduceEqDiff, Nat.reduceAdd, iput, puts, pLd, y4]
    rfl
  · rw [fulK, if_pos e00, e00]; exact q5
set_option maxHeartbeats 2000000 in
theorem SubcategoryOf_ok (K : HCat P ν) (hac : Has P ν 18 2 V_arrowCode) (hri : Has P ν 368 1 V_rising) (his : Has P ν 248 2 V_Category_isSubcategory) (hm : Has P ν 375 2 V_Category_marks) (hs : Has P ν 250 2 V_Category_sub) (h : Has P ν 110 2 V_SubcategoryOf) (c : Cat) (b : Small c) (as : List Int) (hl : as.length ≤ 1048576) (nx : Nat) :
    OkM P ν 110 [.agg c.cells, islice as] hempty nx (IsK (sbK c as) (sbC c as) nx) := by
  refine h _ _ _ _ rfl fun hwf => ?_
  unfold V_SubcategoryOf
  have bad : ∀ (k : Int) (H : Hp) (n1 : Nat), sbC c as = k → k ≠ 0 → nx ≤ n1 → ∃ H', Sub H' H ∧ IsK (sbK c as) (sbC c as) nx (.tup [.agg [int 0, .nil, .nil, .nil, .nil], int k]) H' n1 := fun k H n1 e hk hn => by
    rw [sbK, e, if_neg hk]
    exact (zeroK_own (H := H) (lo := nx) (hi := n1)).back (Nat.le_refl _) hn
  have cO := arrowCode_fz K hac c b as hl Iff.rfl
  try simp (disch := (first | rfl | with_reducible assumption | with_reducible solve_by_elim (maxDepth := 8) [Shape.inT, Shape.inI, Shape.inC, Shape.inK, Shape.obF, Shape.obT, Shape.arI, Arr.inF] | omega)) only [S2, Nat.reduceEqDiff, Nat.reduceAdd, iput, puts]
  refine den_newR fun H0 y0 e0 => ?_
  repeat (first | simp (disch := (first | rfl | with_reducible assumption | with_reducible solve_by_elim (maxDepth := 8) [Shape.inT, Shape.inI, Shape.inC, Shape.inK, Shape.obF, Shape.obT, Shape.arI, Arr.inF] | omega)) only [S2, Nat.reduceEqDiff, Nat.reduceAdd, iput, puts] | (refine den_call rfl (by first | (simp only [SS, Nat.reduceEqDiff, Nat.reduceAdd, iput, puts, FF, frzL_cat]; done) | (simp only [SS, Nat.reduceEqDiff, Nat.reduceAdd, iput, puts, FF, frzL_cat]; rfl)) (by first | exact cO) ?_) | (refine den_calli rfl (by first | (simp only [SS, Nat.reduceEqDiff, Nat.reduceAdd, iput, puts, FF, frzL_cat]; done) | (simp only [SS, Nat.reduceEqDiff, Nat.reduceAdd, iput, puts, FF, frzL_cat]; rfl)) (by first | exact cO) ?_))
  refine ⟨fun h0 => ?_, fun h0 => ?_⟩
  · try simp (disch := (first | rfl | with_reducible assumption | with_reducible solve_by_elim (maxDepth := 8) [Shape.inT, Shape.inI, Shape.inC, Shape.inK, Shape.obF, Shape.obT, Shape.arI, Arr.inF] | omega)) only [S2, Nat.reduceEqDiff, Nat.reduceAdd, iput, puts, mkZ]
    refine den_stR (o := nx) (m := 5) (d := [int 0, .nil, .nil, .nil, .nil]) rfl rfl y0 rfl rfl rfl fun H1 y1 e1 => ?_
    obtain ⟨H', q1, q2⟩ := bad _ H1 (nx + 1) (by unfold sbC; rw [if_neg h0]) h0 (by omega)
    refine ⟨_, ?_, H', q1, q2⟩
    simp only [retOf, rets, SS, Nat.reduceEqDiff, Nat.reduceAdd, iput, puts, pLd, y1]
    rfl
  have h0 : code (IsCat c) (Wn as c.f.length) = 0 := by first | exact h0 | simpa using h0
  obtain ⟨hc, hw⟩ := code_zero.1 h0
  have s := hc.1
  repeat (first | simp (disch := (first | rfl | with_reducible assumption | with_reducible solve_by_elim (maxDepth := 8) [Shape.inT, Shape.inI, Shape.inC, Shape.inK, Shape.obF, Shape.obT, Shape.arI, Arr.inF] | omega)) only [S2, Nat.reduceEqDiff, Nat.reduceAdd, iput, puts] | (refine den_call rfl (by first | (simp only [SS, Nat.reduceEqDiff, Nat.reduceAdd, iput, puts, FF, frzL_cat]; done) | (simp only [SS, Nat.reduceEqDiff, Nat.reduceAdd, iput, puts, FF, frzL_cat]; rfl)) (by first | exact (isSubcategory_ok K.thn K.arrows hri hm his c s as hl hw).fzb) ?_) | (refine den_calli rfl (by first | (simp only [SS, Nat.reduceEqDiff, Nat.reduceAdd, iput, puts, FF, frzL_cat]; done) | (simp only [SS, Nat.reduceEqDiff, Nat.reduceAdd, iput, puts, FF, frzL_cat]; rfl)) (by first | exact (isSubcategory_ok K.thn K.arrows hri hm his c s as hl hw).fzb) ?_))
  refine ⟨fun h1 => ?_, fun h1 => ?_⟩
  · try simp (disch := (first | rfl | with_reducible assumption | with_reducible solve_by_elim (maxDepth := 8) [Shape.inT, Shape.inI, Shape.inC, Shape.inK, Shape.obF, Shape.obT, Shape.arI, Arr.inF] | omega)) only [S2, Nat.reduceEqDiff, Nat.reduceAdd, iput, puts, mkZ]
    refine den_stR (o := nx) (m := 5) (d := [int 0, .nil, .nil, .nil, .nil]) rfl rfl y0 rfl rfl rfl fun H1 y1 e1 => ?_
    obtain ⟨H', q1, q2⟩ := bad 5 H1 (nx + 1) (by unfold sbC; rw [if_pos h0, if_neg h1]) (by decide) (by omega)
    refine ⟨_, ?_, H', q1, q2⟩
    simp only [retOf, rets, SS, Nat.reduceEqDiff, Nat.reduceAdd, iput, puts, pLd, y1]
    rfl
  have e00 : sbC c as = 0 := by unfold sbC; rw [if_pos h0, if_pos h1]
  try simp (disch := (first | rfl | with_reducible assumption | with_reducible solve_by_elim (maxDepth := 8) [Shape.inT, Shape.inI, Shape.inC, Shape.inK, Shape.obF, Shape.obT, Shape.arI, Arr.inF] | omega)) only [S2, Nat.reduceEqDiff, Nat.reduceAdd, iput, puts]
  refine den_callo (fc := (250, [])) (ys := [.ptr c.cells 0, islice as]) rfl (by simp only [SS, Nat.reduceEqDiff, Nat.reduceAdd, iput, puts, FF, frzL_cat]) (sub_ok K.arrows K.thn hm hs c s as hw h1 (sb_len s hw h1.1) (nx + 1)) (isK_some' _ _) fun u H' nx' hu => ?_
  obtain ⟨w, hu, clw⟩ := hu
  obtain ⟨q1, q2, q3, r0, rfl, own⟩ := hu.own clw H0
  refine ⟨q1, q2, ?_⟩
  have y1 : hmerge (nx + 1) H0 H' nx = some [int 0, .nil, .nil, .nil, .nil] := (hmerge_lo (by omega)).trans y0
  generalize hmerge (nx + 1) H0 H' = H1 at own y1
  obtain ⟨ga, gb, gd, ge, rfl, ownC⟩ := own
  have own : OwnK (subK c as) (.agg [int (subK c as).o, ga, gb, gd, ge]) _ _ _ := ⟨ga, gb, gd, ge, rfl, ownC⟩
  clear ownC
  try simp (disch := (first | rfl | with_reducible assumption | with_reducible solve_by_elim (maxDepth := 8) [Shape.inT, Shape.inI, Shape.inC, Shape.inK, Shape.obF, Shape.obT, Shape.arI, Arr.inF] | omega)) only [S2, Nat.reduceEqDiff, Nat.reduceAdd, iput, puts]
  refine den_newR fun H2 x2 e2 => ?_
  have own := own.mono (Nat.le_refl _) fun o h1 h2 => e2 o (by omega)
  have y2 := (e2 nx (by omega)).trans y1
  refine den_stR (m := 5) (d := [int (subK c as).o, ga, gb, gd, ge]) rfl rfl x2 rfl rfl own.one5 fun H3 x3 e3 => ?_
  have own := own.mono (Nat.le_refl _) fun o h1 h2 => e3 o (by omega)
  have y3 := (e3 nx (by omega)).trans y2
  try simp (disch := (first | rfl | with_reducible assumption | with_reducible solve_by_elim (maxDepth := 8) [Shape.inT, Shape.inI, Shape.inC, Shape.inK, Shape.obF, Shape.obT, Shape.arI, Arr.inF] | omega)) only [S2, Nat.reduceEqDiff, Nat.reduceAdd, iput, puts, p_ldsm (l := 5) x3 rfl]
  refine den_stR (o := nx) (m := 5) (d := [int (subK c as).o, ga, gb, gd, ge]) rfl rfl y3 rfl rfl own.one5 fun H4 y4 e4 => ?_
  have own := own.mono (show nx' ≤ nx' + 1 by omega) fun o h1 h2 => e4 o (by omega)
  obtain ⟨H5, q4, q5⟩ := own.back (w := int 0) (nx := nx) (by omega) (by omega)
  refine ⟨.tup [.agg [int (subK c as).o, ga, gb, gd, ge], int 0], ?_, H5, q4, ?_⟩
  · simp only [retOf, rets, SS, Nat.reduceEqDiff, Nat.reduceAdd, iput, puts, pLd, y4]
    rfl
  · rw [sbK, if_pos e00, e00]; exact q5

/-- What a reference's function with a category and a code returns, frozen. -/
theorem frz_kc {H : Hp} (x : Cat) (k : Int) : frz H fuel (.tup [.agg x.cells, int k]) = some (.tup [.agg x.cells, int k]) := by
  have st : x.cells.mapM (frz H 4) = some x.cells := frz_stills (by simp [Cat.cells, AV.still, int, islice])
  show ([AV.agg x.cells, int k].mapM (frz H 5)).map AV.tup = _
  simp only [List.mapM_cons, List.mapM_nil, frz, st, frz_int, Option.map_some]
  rfl
theorem frz_k0 {H : Hp} (k : Int) : frz H fuel (.tup [.agg [int 0, .nil, .nil, .nil, .nil], int k]) = some (.tup [.agg zeroK.cells, int k]) := by
  show ([AV.agg [int 0, .nil, .nil, .nil, .nil], int k].mapM (frz H 5)).map AV.tup = _
  simp only [List.mapM_cons, List.mapM_nil, frz, frz_int, Option.map_some, frz_nil]
  rfl
def V_spec_FullSubcategory : Vc :=
  .op true (.p .box [.t 0]) <|
  .op true (.new [int 0, .nil, .nil, .nil, .nil]) <|
  .op true (.p (.ld (some 5)) [.t 2]) <|
  .op true (.call (.f 303) [.t 4, .t 1]) <|
  .op true (.p (.bin .neq) [.t 5, .c (int 0)]) <|
  .br 6
   (.op true (.p (.mka [int 0, .nil, .nil, .nil, .nil] []) []) <|
   .op true (.st 5 (.t 3) (.t 7)) <|
   .ret [(.t 3, some (some 5)), (.t 5, none)])
   (.op true (.call (.f 366) [.t 1]) <|
   .op true (.p .bnot [.t 7]) <|
   .br 8
    (.op true (.p (.mka [int 0, .nil, .nil, .nil, .nil] []) []) <|
    .op true (.st 5 (.t 3) (.t 9)) <|
    .ret [(.t 3, some (some 5)), (.c (int 5), none)])
    (.op true (.p (.ld (some 5)) [.t 2]) <|
    .op true (.p (.ld (some 5)) [.t 2]) <|
    .op true (.call (.f 367) [.t 10, .t 1]) <|
    .op true (.call (.f 249) [.t 9, .t 11]) <|
    .op true (.st 5 (.t 3) (.t 12)) <|
    .ret [(.t 3, some (some 5)), (.c (int 0), none)]))
def V_spec_SubcategoryOf : Vc :=
  .op true (.p .box [.t 0]) <|
  .op true (.new [int 0, .nil, .nil, .nil, .nil]) <|
  .op true (.p (.ld (some 5)) [.t 2]) <|
  .op true (.call (.f 245) [.t 4, .t 1]) <|
  .op true (.p (.bin .neq) [.t 5, .c (int 0)]) <|
  .br 6
   (.op true (.p (.mka [int 0, .nil, .nil, .nil, .nil] []) []) <|
   .op true (.st 5 (.t 3) (.t 7)) <|
   .ret [(.t 3, some (some 5)), (.t 5, none)])
   (.op true (.p (.ld (some 5)) [.t 2]) <|
   .op true (.call (.f 247) [.t 7, .t 1]) <|
   .op true (.call (.f 246) [.t 1, .t 8]) <|
   .op true (.p .bnot [.t 9]) <|
   .br 10
    (.op true (.p (.mka [int 0, .nil, .nil, .nil, .nil] []) []) <|
    .op true (.st 5 (.t 3) (.t 11)) <|
    .ret [(.t 3, some (some 5)), (.c (int 5), none)])
    (.op true (.p (.ld (some 5)) [.t 2]) <|
    .op true (.call (.f 249) [.t 11, .t 1]) <|
    .op true (.st 5 (.t 3) (.t 12)) <|
    .ret [(.t 3, some (some 5)), (.c (int 0), none)]))
set_option maxHeartbeats 2000000 in
theorem sFullSubcategory_fi (KS : HSpec P ν) (ho : Has P ν 303 2 V_spec_l02Objects) (hri : Has P ν 366 1 V_spec_l02Rises) (hha : Has P ν 262 2 V_spec_l01Has) (hix : Has P ν 376 2 V_spec_l01Index) (hfu : Has P ν 367 2 V_spec_l02Full) (hp : Has P ν 249 2 V_spec_l02Part) (h : Has P ν 226 2 V_spec_FullSubcategory) (c : Cat) (b : Small c) (os : List Int) (hl : os.length ≤ 1048576) :
    Fi (OkM P ν) 226 [.agg c.cells, islice os] (.tup [.agg (fulK c os).cells, int (fulC c os)]) := by
  refine OkM.mono (Φ := fun r H' nx' => r = .tup [.agg (fulK c os).cells, int (fulC c os)] ∨ (fulK c os = zeroK ∧ r = .tup [.agg [int 0, .nil, .nil, .nil, .nil], int (fulC c os)])) (h [.agg c.cells, islice os] hempty 0 _ rfl fun hwf => ?_) (by
    rintro r H' nx' (rfl | ⟨e, rfl⟩)
    · exact frz_kc _ _
    · rw [e]; exact frz_k0 _)
  unfold V_spec_FullSubcategory
  have cO := l02Objects_fz KS ho c b os hl Iff.rfl
  try simp (disch := (first | rfl | with_reducible assumption | with_reducible solve_by_elim (maxDepth := 8) [Shape.inT, Shape.inI, Shape.inC, Shape.inK, Shape.obF, Shape.obT, Shape.arI, Arr.inF] | omega)) only [S2, Nat.reduceEqDiff, Nat.reduceAdd, iput, puts]
  refine den_newR fun H0 y0 e0 => ?_
  repeat (first | simp (disch := (first | rfl | with_reducible assumption | with_reducible solve_by_elim (maxDepth := 8) [Shape.inT, Shape.inI, Shape.inC, Shape.inK, Shape.obF, Shape.obT, Shape.arI, Arr.inF] | omega)) only [S2, Nat.reduceEqDiff, Nat.reduceAdd, iput, puts] | (refine den_call rfl (by first | (simp only [SS, Nat.reduceEqDiff, Nat.reduceAdd, iput, puts, FF, frzL_cat]; done) | (simp only [SS, Nat.reduceEqDiff, Nat.reduceAdd, iput, puts, FF, frzL_cat]; rfl)) (by first | exact cO) ?_) | (refine den_calli rfl (by first | (simp only [SS, Nat.reduceEqDiff, Nat.reduceAdd, iput, puts, FF, frzL_cat]; done) | (simp only [SS, Nat.reduceEqDiff, Nat.reduceAdd, iput, puts, FF, frzL_cat]; rfl)) (by first | exact cO) ?_))
  refine ⟨fun h0 => ?_, fun h0 => ?_⟩
  · try simp (disch := (first | rfl | with_reducible assumption | with_reducible solve_by_elim (maxDepth := 8) [Shape.inT, Shape.inI, Shape.inC, Shape.inK, Shape.obF, Shape.obT, Shape.arI, Arr.inF] | omega)) only [S2, Nat.reduceEqDiff, Nat.reduceAdd, iput, puts, mkZ]
    refine den_stR (o := 0) (m := 5) (d := [int 0, .nil, .nil, .nil, .nil]) rfl rfl y0 rfl rfl rfl fun H1 y1 e1 => ?_
    have e : fulC c os = code (IsCat c) (Wn os c.o) := by unfold fulC; rw [if_neg h0]
    refine ⟨_, ?_, H1, fun _ _ h => h, .inr ⟨by rw [fulK, if_neg (by rw [e]; exact h0)], by rw [e]⟩⟩
    simp only [retOf, rets, SS, Nat.reduceEqDiff, Nat.reduceAdd, iput, puts, pLd, y1]
    rfl
  have h0 : code (IsCat c) (Wn os c.o) = 0 := by first | exact h0 | simpa using h0
  obtain ⟨hc, hw⟩ := code_zero.1 h0
  have s := hc.1
  repeat (first | simp (disch := (first | rfl | with_reducible assumption | with_reducible solve_by_elim (maxDepth := 8) [Shape.inT, Shape.inI, Shape.inC, Shape.inK, Shape.obF, Shape.obT, Shape.arI, Arr.inF] | omega)) only [S2, Nat.reduceEqDiff, Nat.reduceAdd, iput, puts] | (refine den_call rfl (by first | (simp only [SS, Nat.reduceEqDiff, Nat.reduceAdd, iput, puts, FF, frzL_cat]; done) | (simp only [SS, Nat.reduceEqDiff, Nat.reduceAdd, iput, puts, FF, frzL_cat]; rfl)) (by first | exact (l02Rises_ok hri os hl).fzb) ?_) | (refine den_calli rfl (by first | (simp only [SS, Nat.reduceEqDiff, Nat.reduceAdd, iput, puts, FF, frzL_cat]; done) | (simp only [SS, Nat.reduceEqDiff, Nat.reduceAdd, iput, puts, FF, frzL_cat]; rfl)) (by first | exact (l02Rises_ok hri os hl).fzb) ?_))
  refine ⟨fun h1 => ?_, fun h1 => ?_⟩
  · try simp (disch := (first | rfl | with_reducible assumption | with_reducible solve_by_elim (maxDepth := 8) [Shape.inT, Shape.inI, Shape.inC, Shape.inK, Shape.obF, Shape.obT, Shape.arI, Arr.inF] | omega)) only [S2, Nat.reduceEqDiff, Nat.reduceAdd, iput, puts, mkZ]
    refine den_stR (o := 0) (m := 5) (d := [int 0, .nil, .nil, .nil, .nil]) rfl rfl y0 rfl rfl rfl fun H1 y1 e1 => ?_
    have e : fulC c os = 5 := by unfold fulC; rw [if_pos h0, if_neg h1]
    refine ⟨_, ?_, H1, fun _ _ h => h, .inr ⟨by rw [fulK, if_neg (by rw [e]; decide)], by rw [e]⟩⟩
    simp only [retOf, rets, SS, Nat.reduceEqDiff, Nat.reduceAdd, iput, puts, pLd, y1]
    rfl
  have e00 : fulC c os = 0 := by unfold fulC; rw [if_pos h0, if_pos h1]
  obtain ⟨fw, fs⟩ := fullL_sub s os
  repeat (first | simp (disch := (first | rfl | with_reducible assumption | with_reducible solve_by_elim (maxDepth := 8) [Shape.inT, Shape.inI, Shape.inC, Shape.inK, Shape.obF, Shape.obT, Shape.arI, Arr.inF] | omega)) only [S2, Nat.reduceEqDiff, Nat.reduceAdd, iput, puts] | (refine den_call rfl (by first | (simp only [SS, Nat.reduceEqDiff, Nat.reduceAdd, iput, puts, FF, frzL_cat]; done) | (simp only [SS, Nat.reduceEqDiff, Nat.reduceAdd, iput, puts, FF, frzL_cat]; rfl)) (by first | exact l02Full_fz hha hfu c s os hl) ?_) | (refine den_calli rfl (by first | (simp only [SS, Nat.reduceEqDiff, Nat.reduceAdd, iput, puts, FF, frzL_cat]; done) | (simp only [SS, Nat.reduceEqDiff, Nat.reduceAdd, iput, puts, FF, frzL_cat]; rfl)) (by first | exact l02Full_fz hha hfu c s os hl) ?_))
  repeat (first | simp (disch := (first | rfl | with_reducible assumption | with_reducible solve_by_elim (maxDepth := 8) [Shape.inT, Shape.inI, Shape.inC, Shape.inK, Shape.obF, Shape.obT, Shape.arI, Arr.inF] | omega)) only [S2, Nat.reduceEqDiff, Nat.reduceAdd, iput, puts] | (refine den_call rfl (by first | (simp only [SS, Nat.reduceEqDiff, Nat.reduceAdd, iput, puts, FF, frzL_cat]; done) | (simp only [SS, Nat.reduceEqDiff, Nat.reduceAdd, iput, puts, FF, frzL_cat]; rfl)) (by first | exact l02Part_fi hha hix hp c s (fullL c os) fw (fullL_len s os)) ?_) | (refine den_calli rfl (by first | (simp only [SS, Nat.reduceEqDiff, Nat.reduceAdd, iput, puts, FF, frzL_cat]; done) | (simp only [SS, Nat.reduceEqDiff, Nat.reduceAdd, iput, puts, FF, frzL_cat]; rfl)) (by first | exact l02Part_fi hha hix hp c s (fullL c os) fw (fullL_len s os)) ?_))
  refine den_stR (o := 0) (m := 5) (d := (subK c (fullL c os)).cells) rfl rfl y0 rfl rfl rfl fun H1 y1 e1 => ?_
  refine ⟨_, ?_, H1, fun _ _ h => h, .inl (by rw [fulK, if_pos e00, e00])⟩
  simp only [retOf, rets, SS, Nat.reduceEqDiff, Nat.reduceAdd, iput, puts, pLd, y1]
  rfl
set_option maxHeartbeats 2000000 in
theorem sSubcategoryOf_fi (KS : HSpec P ν) (ha : Has P ν 245 2 V_spec_l02Arrows) (hcl : Has P ν 247 2 V_spec_l02Close) (hsa : Has P ν 246 2 V_spec_l01Same) (hha : Has P ν 262 2 V_spec_l01Has) (hix : Has P ν 376 2 V_spec_l01Index) (hp : Has P ν 249 2 V_spec_l02Part) (h : Has P ν 109 2 V_spec_SubcategoryOf) (c : Cat) (b : Small c) (as : List Int) (hl : as.length ≤ 1048576) :
    Fi (OkM P ν) 109 [.agg c.cells, islice as] (.tup [.agg (sbK c as).cells, int (sbC c as)]) := by
  refine OkM.mono (Φ := fun r H' nx' => r = .tup [.agg (sbK c as).cells, int (sbC c as)] ∨ (sbK c as = zeroK ∧ r = .tup [.agg [int 0, .nil, .nil, .nil, .nil], int (sbC c as)])) (h [.agg c.cells, islice as] hempty 0 _ rfl fun hwf => ?_) (by
    rintro r H' nx' (rfl | ⟨e, rfl⟩)
    · exact frz_kc _ _
    · rw [e]; exact frz_k0 _)
  unfold V_spec_SubcategoryOf
  have cO := l02Arrows_fz KS ha c b as hl Iff.rfl
  try simp (disch := (first | rfl | with_reducible assumption | with_reducible solve_by_elim (maxDepth := 8) [Shape.inT, Shape.inI, Shape.inC, Shape.inK, Shape.obF, Shape.obT, Shape.arI, Arr.inF] | omega)) only [S2, Nat.reduceEqDiff, Nat.reduceAdd, iput, puts]
  refine den_newR fun H0 y0 e0 => ?_
  repeat (first | simp (disch := (first | rfl | with_reducible assumption | with_reducible solve_by_elim (maxDepth := 8) [Shape.inT, Shape.inI, Shape.inC, Shape.inK, Shape.obF, Shape.obT, Shape.arI, Arr.inF] | omega)) only [S2, Nat.reduceEqDiff, Nat.reduceAdd, iput, puts] | (refine den_call rfl (by first | (simp only [SS, Nat.reduceEqDiff, Nat.reduceAdd, iput, puts, FF, frzL_cat]; done) | (simp only [SS, Nat.reduceEqDiff, Nat.reduceAdd, iput, puts, FF, frzL_cat]; rfl)) (by first | exact cO) ?_) | (refine den_calli rfl (by first | (simp only [SS, Nat.reduceEqDiff, Nat.reduceAdd, iput, puts, FF, frzL_cat]; done) | (simp only [SS, Nat.reduceEqDiff, Nat.reduceAdd, iput, puts, FF, frzL_cat]; rfl)) (by first | exact cO) ?_))
  refine ⟨fun h0 => ?_, fun h0 => ?_⟩
  · try simp (disch := (first | rfl | with_reducible assumption | with_reducible solve_by_elim (maxDepth := 8) [Shape.inT, Shape.inI, Shape.inC, Shape.inK, Shape.obF, Shape.obT, Shape.arI, Arr.inF] | omega)) only [S2, Nat.reduceEqDiff, Nat.reduceAdd, iput, puts, mkZ]
    refine den_stR (o := 0) (m := 5) (d := [int 0, .nil, .nil, .nil, .nil]) rfl rfl y0 rfl rfl rfl fun H1 y1 e1 => ?_
    have e : sbC c as = code (IsCat c) (Wn as c.f.length) := by unfold sbC; rw [if_neg h0]
    refine ⟨_, ?_, H1, fun _ _ h => h, .inr ⟨by rw [sbK, if_neg (by rw [e]; exact h0)], by rw [e]⟩⟩
    simp only [retOf, rets, SS, Nat.reduceEqDiff, Nat.reduceAdd, iput, puts, pLd, y1]
    rfl
  have h0 : code (IsCat c) (Wn as c.f.length) = 0 := by first | exact h0 | simpa using h0
  obtain ⟨hc, hw⟩ := code_zero.1 h0
  have s := hc.1
  have hf : Fz (OkM P ν) 247 [.agg c.cells, islice as] (islice (selL c.f.length fun f => decide (Cl c as f))) := OkM.fz (fun H nx => l02Close_ok hcl c s as hl hw H nx) fun _ _ _ hh => hh.frz _
  repeat (first | simp (disch := (first | rfl | with_reducible assumption | with_reducible solve_by_elim (maxDepth := 8) [Shape.inT, Shape.inI, Shape.inC, Shape.inK, Shape.obF, Shape.obT, Shape.arI, Arr.inF] | omega)) only [S2, Nat.reduceEqDiff, Nat.reduceAdd, iput, puts] | (refine den_call rfl (by first | (simp only [SS, Nat.reduceEqDiff, Nat.reduceAdd, iput, puts, FF, frzL_cat]; done) | (simp only [SS, Nat.reduceEqDiff, Nat.reduceAdd, iput, puts, FF, frzL_cat]; rfl)) (by first | exact hf) ?_) | (refine den_calli rfl (by first | (simp only [SS, Nat.reduceEqDiff, Nat.reduceAdd, iput, puts, FF, frzL_cat]; done) | (simp only [SS, Nat.reduceEqDiff, Nat.reduceAdd, iput, puts, FF, frzL_cat]; rfl)) (by first | exact hf) ?_))
  repeat (first | simp (disch := (first | rfl | with_reducible assumption | with_reducible solve_by_elim (maxDepth := 8) [Shape.inT, Shape.inI, Shape.inC, Shape.inK, Shape.obF, Shape.obT, Shape.arI, Arr.inF] | omega)) only [S2, Nat.reduceEqDiff, Nat.reduceAdd, iput, puts] | (refine den_call rfl (by first | (simp only [SS, Nat.reduceEqDiff, Nat.reduceAdd, iput, puts, FF, frzL_cat]; done) | (simp only [SS, Nat.reduceEqDiff, Nat.reduceAdd, iput, puts, FF, frzL_cat]; rfl)) (by first | exact (l01Same_ok hsa as (selL c.f.length fun f => decide (Cl c as f)) (by omega)).fzb) ?_) | (refine den_calli rfl (by first | (simp only [SS, Nat.reduceEqDiff, Nat.reduceAdd, iput, puts, FF, frzL_cat]; done) | (simp only [SS, Nat.reduceEqDiff, Nat.reduceAdd, iput, puts, FF, frzL_cat]; rfl)) (by first | exact (l01Same_ok hsa as (selL c.f.length fun f => decide (Cl c as f)) (by omega)).fzb) ?_))
  refine ⟨fun h1 => ?_, fun h1 => ?_⟩
  · try simp (disch := (first | rfl | with_reducible assumption | with_reducible solve_by_elim (maxDepth := 8) [Shape.inT, Shape.inI, Shape.inC, Shape.inK, Shape.obF, Shape.obT, Shape.arI, Arr.inF] | omega)) only [S2, Nat.reduceEqDiff, Nat.reduceAdd, iput, puts, mkZ]
    refine den_stR (o := 0) (m := 5) (d := [int 0, .nil, .nil, .nil, .nil]) rfl rfl y0 rfl rfl rfl fun H1 y1 e1 => ?_
    have e : sbC c as = 5 := by unfold sbC; rw [if_pos h0, if_neg (fun q => h1 ((IsSub_iff s hw).1 q))]
    refine ⟨_, ?_, H1, fun _ _ h => h, .inr ⟨by rw [sbK, if_neg (by rw [e]; decide)], by rw [e]⟩⟩
    simp only [retOf, rets, SS, Nat.reduceEqDiff, Nat.reduceAdd, iput, puts, pLd, y1]
    rfl
  have h2 : IsSub c as := (IsSub_iff s hw).2 h1
  have e00 : sbC c as = 0 := by unfold sbC; rw [if_pos h0, if_pos h2]
  try simp (disch := (first | rfl | with_reducible assumption | with_reducible solve_by_elim (maxDepth := 8) [Shape.inT, Shape.inI, Shape.inC, Shape.inK, Shape.obF, Shape.obT, Shape.arI, Arr.inF] | omega)) only [S2, Nat.reduceEqDiff, Nat.reduceAdd, iput, puts]
  repeat (first | simp (disch := (first | rfl | with_reducible assumption | with_reducible solve_by_elim (maxDepth := 8) [Shape.inT, Shape.inI, Shape.inC, Shape.inK, Shape.obF, Shape.obT, Shape.arI, Arr.inF] | omega)) only [S2, Nat.reduceEqDiff, Nat.reduceAdd, iput, puts] | (refine den_call rfl (by first | (simp only [SS, Nat.reduceEqDiff, Nat.reduceAdd, iput, puts, FF, frzL_cat]; done) | (simp only [SS, Nat.reduceEqDiff, Nat.reduceAdd, iput, puts, FF, frzL_cat]; rfl)) (by first | exact l02Part_fi hha hix hp c s as hw (sb_len s hw h2.1)) ?_) | (refine den_calli rfl (by first | (simp only [SS, Nat.reduceEqDiff, Nat.reduceAdd, iput, puts, FF, frzL_cat]; done) | (simp only [SS, Nat.reduceEqDiff, Nat.reduceAdd, iput, puts, FF, frzL_cat]; rfl)) (by first | exact l02Part_fi hha hix hp c s as hw (sb_len s hw h2.1)) ?_))
  refine den_stR (o := 0) (m := 5) (d := (subK c as).cells) rfl rfl y0 rfl rfl rfl fun H1 y1 e1 => ?_
  refine ⟨_, ?_, H1, fun _ _ h => h, .inl (by rw [sbK, if_pos e00, e00])⟩
  simp only [retOf, rets, SS, Nat.reduceEqDiff, Nat.reduceAdd, iput, puts, pLd, y1]
  rfl
theorem FullSubcategory_both (K : HCat P ν) (ho : Has P ν 306 2 V_objectCode) (hri : Has P ν 368 1 V_rising) (hha : Has P ν 413 2 V_has) (hbe : Has P ν 369 2 V_Category_between) (hm : Has P ν 375 2 V_Category_marks) (hs : Has P ν 250 2 V_Category_sub) (h : Has P ν 227 2 V_FullSubcategory) (KS : HSpec P ν) (ho2 : Has P ν 303 2 V_spec_l02Objects) (hri2 : Has P ν 366 1 V_spec_l02Rises) (hha2 : Has P ν 262 2 V_spec_l01Has) (hix : Has P ν 376 2 V_spec_l01Index) (hfu : Has P ν 367 2 V_spec_l02Full) (hp : Has P ν 249 2 V_spec_l02Part) (h' : Has P ν 226 2 V_spec_FullSubcategory) (c : Cat) (b : Small c) (os : List Int) (hl : os.length ≤ 1048576) :
    BothK P ν 227 226 [.agg c.cells, islice os] := by
  refine ⟨fulK c os, fulC c os, ?_, fun nx => FullSubcategory_ok K ho hri hha hbe hm hs h c b os hl nx, sFullSubcategory_fi KS ho2 hri2 hha2 hix hfu hp h' c b os hl⟩
  unfold fulK
  split
  · rename_i e
    have hc := (fulC_zero e).1
    exact subK_small hc.1 (fullL_len hc.1 os)
  · exact zeroK_small
theorem SubcategoryOf_both (K : HCat P ν) (hac : Has P ν 18 2 V_arrowCode) (hri : Has P ν 368 1 V_rising) (his : Has P ν 248 2 V_Category_isSubcategory) (hm : Has P ν 375 2 V_Category_marks) (hs : Has P ν 250 2 V_Category_sub) (h : Has P ν 110 2 V_SubcategoryOf) (KS : HSpec P ν) (ha : Has P ν 245 2 V_spec_l02Arrows) (hcl : Has P ν 247 2 V_spec_l02Close) (hsa : Has P ν 246 2 V_spec_l01Same) (hha : Has P ν 262 2 V_spec_l01Has) (hix : Has P ν 376 2 V_spec_l01Index) (hp : Has P ν 249 2 V_spec_l02Part) (h' : Has P ν 109 2 V_spec_SubcategoryOf) (c : Cat) (b : Small c) (as : List Int) (hl : as.length ≤ 1048576) :
    BothK P ν 110 109 [.agg c.cells, islice as] := by
  refine ⟨sbK c as, sbC c as, ?_, fun nx => SubcategoryOf_ok K hac hri his hm hs h c b as hl nx, sSubcategoryOf_fi KS ha hcl hsa hha hix hp h' c b as hl⟩
  unfold sbK
  split
  · rename_i e
    obtain ⟨hc, hw, hS⟩ := sbC_zero e
    exact subK_small hc.1 (sb_len hc.1 hw hS.1)
  · exact zeroK_small
end Go.Av
