/-
  Questions about functors; IsFaithful.
-/
import Derived.Test.YtbgaobcgpkjjkaaAvD4
namespace Go.Av
open Classical
set_option linter.unusedSimpArgs false
set_option linter.unusedVariables false
variable {P : Program} {ν : Nat → FuncId}

theorem frzL_fn0 {H : Hp} {l : List AV} {k : Nat} : frzL H (.fn k [] :: l) = (frzL H l).map (.fn k [] :: ·) := by
  simp only [frzL, List.mapM_cons]; cases List.mapM (frz H fuel) l <;> rfl
/-- What a question about a functor is answered by. -/
noncomputable def askV (f : Fu) (Q : Prop) : AV := .tup [bool (decide (IsFu f ∧ Q)), int (if IsFu f then 0 else 1)]
theorem ask_no {f : Fu} {Q : Prop} (h : ¬ IsFu f) : .tup [bool false, int 1] = askV f Q := by
  rw [askV, if_neg h, decide_eq_false fun hh => h hh.1]
theorem ask_f {f : Fu} {Q : Prop} (h : IsFu f) (hq : ¬ Q) : .tup [bool false, int 0] = askV f Q := by
  rw [askV, if_pos h, decide_eq_false fun hh => hq hh.2]
theorem ask_t {f : Fu} {Q : Prop} (h : IsFu f) (hq : Q) : .tup [bool true, int 0] = askV f Q := by
  rw [askV, if_pos h, decide_eq_true ⟨h, hq⟩]
theorem ask_q {f : Fu} {Q : Prop} (h : IsFu f) : .tup [bool (decide Q), int 0] = askV f Q := by
  by_cases hq : Q
  · rw [decide_eq_true hq]; exact ask_t h hq
  · rw [decide_eq_false hq]; exact ask_f h hq
theorem ask_frz {f : Fu} {Q : Prop} (H : Hp) : frzN H fuel (askV f Q) = some (askV f Q) := rfl

def V_asked : Vc :=
  .op true (.call (.f 257) [.t 0]) <|
  .op true (.p .bnot [.t 2]) <|
  .br 3
   (.ret [(.c (bool false), none), (.c (int 1), none)])
   (.op true (.call (.t 1) [.t 0]) <|
   .ret [(.t 4, none), (.c (int 0), none)])
theorem asked_fz (K : HFun P ν) (h : Has P ν 297 2 V_asked) (f : Fu) (b : SmallU f) (q : Nat) (Q : Prop) (hq : IsFu f → Fz (OkM P ν) q [.ptr f.cells 0] (bool (decide Q))) : Fz (OkM P ν) 297 [.ptr f.cells 0, .fn q []] (askV f Q) := by
  refine Fn.fz (fun H nx => h _ _ _ _ rfl fun hwf => ?_) ask_frz
  unfold V_asked
  repeat (first | simp (disch := (first | rfl | with_reducible assumption | with_reducible solve_by_elim (maxDepth := 8) [Shape.inT, Shape.inI, Shape.inC, Shape.inK, Shape.obF, Shape.obT, Shape.arI, Arr.inF] | omega)) only [S2, Nat.reduceEqDiff, Nat.reduceAdd, iput, puts, SU f] | (refine den_call rfl (by first | (simp only [SS, Nat.reduceEqDiff, Nat.reduceAdd, iput, puts, FF, frzL_cat, frzL_fu, frzL_fn0]; done) | (simp only [SS, Nat.reduceEqDiff, Nat.reduceAdd, iput, puts, FF, frzL_cat, frzL_fu, frzL_fn0]; rfl)) (by first | exact isFunctor_fz K f b) ?_) | (refine den_calli rfl (by first | (simp only [SS, Nat.reduceEqDiff, Nat.reduceAdd, iput, puts, FF, frzL_cat, frzL_fu, frzL_fn0]; done) | (simp only [SS, Nat.reduceEqDiff, Nat.reduceAdd, iput, puts, FF, frzL_cat, frzL_fu, frzL_fn0]; rfl)) (by first | exact isFunctor_fz K f b) ?_))
  refine ⟨fun h1 => ?_, fun h1 => ?_⟩
  · exact ⟨_, rfl, H, fun _ _ h => h, ask_no h1, rfl, Nat.le_refl _⟩
  refine den_call (fc := (q, [])) rfl (by first | (simp only [SS, Nat.reduceEqDiff, Nat.reduceAdd, iput, puts, FF, frzL_cat, frzL_fu, frzL_fn0]; done) | (simp only [SS, Nat.reduceEqDiff, Nat.reduceAdd, iput, puts, FF, frzL_cat, frzL_fu, frzL_fn0]; rfl)) (hq h1) ?_
  exact ⟨_, rfl, H, fun _ _ h => h, ask_q h1, rfl, Nat.le_refl _⟩

/-- A question that the program puts by a function of its own. -/
theorem ext0 {f : Fu} {Q : Prop} {H : Hp} : pvf H (.ext 0) [askV f Q] = some (bool (decide (IsFu f ∧ Q))) := rfl
theorem ext1 {f : Fu} {Q : Prop} {H : Hp} : pvf H (.ext 1) [askV f Q] = some (int (if IsFu f then 0 else 1)) := rfl

theorem q_slcHi {H : Hp} {l : List Int} {i : Nat} (h : i ≤ l.length) : pvf H (.slc false true 1) [islice l, int (i : Int)] = some (islice (l.take i)) := by
  have h2 : (i : Int) ≤ l.length := by omega
  simp only [pvf, pSlc, islice, asI, int, if_true, List.getElem?_cons_zero, Option.bind_some, Bool.false_eq_true, if_false]
  rw [if_pos ⟨by omega, by omega, h2, by simp [ints]⟩]
  simp [ints, List.map_take, Nat.min_eq_left h]

def Faithful (f : Fu) : Prop := ∀ a b : Nat, a < f.ar.length → b < a → ¬ (f.A a = f.A b ∧ f.s.F a = f.s.F b ∧ f.s.T a = f.s.T b)
def V_Functor_isFaithful : Vc :=
  .op true (.p .nck [.t 0]) <|
  .op true (.p (.fad 11) [.t 1]) <|
  .op true (.p (.ld none) [.t 2]) <|
  .op true (.p .len [.t 3]) <|
  .loop 0 [.c (int 0)] <|
  .op true (.p (.bin .lss) [.t 5, .t 4]) <|
  .br 6
   (.op true (.p .nck [.t 0]) <|
   .op true (.p (.fad 11) [.t 7]) <|
   .op true (.p (.ld none) [.t 8]) <|
   .op true (.p (.slc false true 1) [.t 9, .t 5]) <|
   .op true (.p .len [.t 10]) <|
   .loop 1 [.c (int 0)] <|
   .op true (.p (.bin .lss) [.t 12, .t 11]) <|
   .br 13
    (.op true (.p .nck [.t 0]) <|
    .op true (.p (.fad 11) [.t 14]) <|
    .op true (.p (.ld none) [.t 15]) <|
    .op true (.p (.iad 1) [.t 16, .t 5]) <|
    .op true (.p (.ld none) [.t 17]) <|
    .op true (.p .nck [.t 0]) <|
    .op true (.p (.fad 11) [.t 19]) <|
    .op true (.p (.ld none) [.t 20]) <|
    .op true (.p (.iad 1) [.t 21, .t 12]) <|
    .op true (.p (.ld none) [.t 22]) <|
    .op true (.p (.bin .eql) [.t 18, .t 23]) <|
    .br 24
     (.op true (.p .nck [.t 0]) <|
     .op true (.p (.fad 0) [.t 25]) <|
     .op true (.call (.f 38) [.t 26, .t 5]) <|
     .op true (.p .nck [.t 0]) <|
     .op true (.p (.fad 0) [.t 28]) <|
     .op true (.call (.f 38) [.t 29, .t 12]) <|
     .op true (.p (.eqs false 2) [.t 27, .t 30]) <|
     .br 31
      (.ret [(.c (bool false), none)])
      (.op true (.p (.bin .add) [.t 12, .c (int 1)]) <|
      .again 1 [.t 32]))
     (.op true (.p (.bin .add) [.t 12, .c (int 1)]) <|
     .again 1 [.t 25]))
    (.op true (.p (.bin .add) [.t 5, .c (int 1)]) <|
    .again 0 [.t 14]))
   (.ret [(.c (bool true), none)])
theorem isFaithful_fz (K : HFun P ν) (h : Has P ν 298 1 V_Functor_isFaithful) (f : Fu) (u : IsFu f) (b : SmallU f) : Fz (OkM P ν) 298 [.ptr f.cells 0] (bool (decide (Faithful f))) := by
  refine Fn.fzb fun H nx => h _ _ _ _ rfl fun hwf => ?_
  unfold V_Functor_isFaithful
  have s := u.s.1
  have m := u.m
  have ba := b.ar
  have al := m.al
  try simp (disch := (first | rfl | with_reducible assumption | with_reducible solve_by_elim (maxDepth := 8) [Shape.inT, Shape.inI, Shape.inC, Shape.inK, Shape.obF, Shape.obT, Shape.arI, Arr.inF] | omega)) only [S2, Nat.reduceEqDiff, Nat.reduceAdd, iput, puts, SU f]
  refine den_for f.ar.length (fun i => ∀ a b : Nat, a < i → b < a → ¬ (f.A a = f.A b ∧ f.s.F a = f.s.F b ∧ f.s.T a = f.s.T b)) (fun x _ hx => by omega) fun i hi hp => ?_
  by_cases hlt : i < f.ar.length
  · have ia : Arr f.s i := ⟨by omega, by omega⟩
    have ii := m.inA ia
    have tl : (f.ar.take i).length = i := by simp; omega
    try simp (disch := (first | rfl | with_reducible assumption | with_reducible solve_by_elim (maxDepth := 8) [Shape.inT, Shape.inI, Shape.inC, Shape.inK, Shape.obF, Shape.obT, Shape.arI, Arr.inF] | omega)) only [S2, Nat.reduceEqDiff, Nat.reduceAdd, iput, puts, SU f, hlt, q_slcHi, tl]
    refine den_for i (fun j => ∀ b : Nat, b < j → ¬ (f.A i = f.A b ∧ f.s.F i = f.s.F b ∧ f.s.T i = f.s.T b)) (fun x hx => by omega) fun j hj hq => ?_
    by_cases hlt2 : j < i
    · have ja : Arr f.s j := ⟨by omega, by omega⟩
      have ij := m.inA ja
      try simp (disch := (first | rfl | with_reducible assumption | with_reducible solve_by_elim (maxDepth := 8) [Shape.inT, Shape.inI, Shape.inC, Shape.inK, Shape.obF, Shape.obT, Shape.arI, Arr.inF] | omega)) only [S2, Nat.reduceEqDiff, Nat.reduceAdd, iput, puts, SU f, hlt2]
      refine ⟨fun h1 => ?_, fun h1 => up rfl hlt2 fun k hk => ?_⟩
      · repeat (first | simp (disch := (first | rfl | with_reducible assumption | with_reducible solve_by_elim (maxDepth := 8) [Shape.inT, Shape.inI, Shape.inC, Shape.inK, Shape.obF, Shape.obT, Shape.arI, Arr.inF] | omega)) only [S2, Nat.reduceEqDiff, Nat.reduceAdd, iput, puts, SU f] | (refine den_call rfl (by first | (simp only [SS, Nat.reduceEqDiff, Nat.reduceAdd, iput, puts, FF, frzL_cat, frzL_fu, frzL_fn0]; done) | (simp only [SS, Nat.reduceEqDiff, Nat.reduceAdd, iput, puts, FF, frzL_cat, frzL_fu, frzL_fn0]; rfl)) (by first | exact Fu.winS (s.fzEnds K.ends ia) | exact Fu.winS (s.fzEnds K.ends ja)) ?_) | (refine den_calli rfl (by first | (simp only [SS, Nat.reduceEqDiff, Nat.reduceAdd, iput, puts, FF, frzL_cat, frzL_fu, frzL_fn0]; done) | (simp only [SS, Nat.reduceEqDiff, Nat.reduceAdd, iput, puts, FF, frzL_cat, frzL_fu, frzL_fn0]; rfl)) (by first | exact Fu.winS (s.fzEnds K.ends ia) | exact Fu.winS (s.fzEnds K.ends ja)) ?_))
        refine ⟨fun h2 => ?_, fun h2 => up rfl hlt2 fun k hk => ?_⟩
        · exact ⟨_, rfl, H, fun _ _ h => h, ret_false (fun q => q i j hlt hlt2 ⟨h1, h2.1, h2.2⟩), rfl, Nat.le_refl _⟩
        · by_cases e : k = j
          · subst e; intro hh; simp [hh.2.1, hh.2.2] at h2
          · exact hq k (by omega)
      · by_cases e : k = j
        · subst e; exact fun hh => h1 hh.1
        · exact hq k (by omega)
    · try simp (disch := (first | rfl | with_reducible assumption | with_reducible solve_by_elim (maxDepth := 8) [Shape.inT, Shape.inI, Shape.inC, Shape.inK, Shape.obF, Shape.obT, Shape.arI, Arr.inF] | omega)) only [S2, Nat.reduceEqDiff, Nat.reduceAdd, iput, puts, hlt2]
      refine up rfl hlt fun k b hk hb => ?_
      by_cases e : k = i
      · subst e; exact hq b (by omega)
      · exact hp k b (by omega) hb
  · try simp (disch := (first | rfl | with_reducible assumption | with_reducible solve_by_elim (maxDepth := 8) [Shape.inT, Shape.inI, Shape.inC, Shape.inK, Shape.obF, Shape.obT, Shape.arI, Arr.inF] | omega)) only [S2, Nat.reduceEqDiff, Nat.reduceAdd, iput, puts, hlt]
    exact ⟨_, rfl, H, fun _ _ h => h, ret_true (fun a b ha hb => hp a b (by omega) hb), rfl, Nat.le_refl _⟩

def V_IsFaithful : Vc :=
  .op true (.p .box [.t 0]) <|
  .op true (.call (.f 297) [.t 1, .f 298]) <|
  .op true (.p (.ext 0) [.t 2]) <|
  .op true (.p (.ext 1) [.t 2]) <|
  .ret [(.t 3, none), (.t 4, none)]
theorem IsFaithful_fz (K : HFun P ν) (ha : Has P ν 297 2 V_asked) (hf : Has P ν 298 1 V_Functor_isFaithful) (h : Has P ν 158 1 V_IsFaithful) (f : Fu) (b : SmallU f) : Fz (OkM P ν) 158 [.agg f.cells] (askV f (Faithful f)) := by
  refine Fn.fz (fun H nx => h _ _ _ _ rfl fun hwf => ?_) ask_frz
  unfold V_IsFaithful
  repeat (first | simp (disch := (first | rfl | with_reducible assumption | with_reducible solve_by_elim (maxDepth := 8) [Shape.inT, Shape.inI, Shape.inC, Shape.inK, Shape.obF, Shape.obT, Shape.arI, Arr.inF] | omega)) only [S2, Nat.reduceEqDiff, Nat.reduceAdd, iput, puts, SU f, ext0, ext1] | (refine den_call rfl (by first | (simp only [SS, Nat.reduceEqDiff, Nat.reduceAdd, iput, puts, FF, frzL_cat, frzL_fu, frzL_fn0]; done) | (simp only [SS, Nat.reduceEqDiff, Nat.reduceAdd, iput, puts, FF, frzL_cat, frzL_fu, frzL_fn0]; rfl)) (by first | exact asked_fz K ha f b _ (Faithful f) fun u => isFaithful_fz K hf f u b) ?_) | (refine den_calli rfl (by first | (simp only [SS, Nat.reduceEqDiff, Nat.reduceAdd, iput, puts, FF, frzL_cat, frzL_fu, frzL_fn0]; done) | (simp only [SS, Nat.reduceEqDiff, Nat.reduceAdd, iput, puts, FF, frzL_cat, frzL_fu, frzL_fn0]; rfl)) (by first | exact asked_fz K ha f b _ (Faithful f) fun u => isFaithful_fz K hf f u b) ?_))
  exact ⟨_, rfl, H, fun _ _ h => h, rfl, rfl, Nat.le_refl _⟩

def V_spec_l03Parallel : Vc :=
  .op true (.p .box [.t 0]) <|
  .op true (.p (.fad 1) [.t 3]) <|
  .op true (.p (.ld none) [.t 4]) <|
  .op true (.p (.iad 1) [.t 5, .t 1]) <|
  .op true (.p (.ld none) [.t 6]) <|
  .op true (.p (.fad 1) [.t 3]) <|
  .op true (.p (.ld none) [.t 8]) <|
  .op true (.p (.iad 1) [.t 9, .t 2]) <|
  .op true (.p (.ld none) [.t 10]) <|
  .op true (.p (.bin .eql) [.t 7, .t 11]) <|
  .br 12
   (.op true (.p (.fad 2) [.t 3]) <|
   .op true (.p (.ld none) [.t 13]) <|
   .op true (.p (.iad 1) [.t 14, .t 1]) <|
   .op true (.p (.ld none) [.t 15]) <|
   .op true (.p (.fad 2) [.t 3]) <|
   .op true (.p (.ld none) [.t 17]) <|
   .op true (.p (.iad 1) [.t 18, .t 2]) <|
   .op true (.p (.ld none) [.t 19]) <|
   .op true (.p (.bin .eql) [.t 16, .t 20]) <|
   .ret [(.t 21, none)])
   (.ret [(.c (bool false), none)])
theorem Shape.fzParallel (h : Has P ν 340 3 V_spec_l03Parallel) {c : Cat} (s : Shape c) {f g : Int} (hf : Arr c f) (hg : Arr c g) : Fz (OkM P ν) 340 [.agg c.cells, int f, int g] (bool (decide (c.F f = c.F g ∧ c.T f = c.T g))) := by
  refine Fn.fzb fun H nx => h _ _ _ _ rfl fun hwf => ?_
  unfold V_spec_l03Parallel
  try simp (disch := (first | rfl | with_reducible assumption | with_reducible solve_by_elim (maxDepth := 8) [Shape.inT, Shape.inI, Shape.inC, Shape.inK, Shape.obF, Shape.obT, Shape.arI, Arr.inF] | omega)) only [S2, Nat.reduceEqDiff, Nat.reduceAdd, iput, puts]
  refine ⟨fun h1 => ?_, fun h1 => ?_⟩
  · try simp (disch := (first | rfl | with_reducible assumption | with_reducible solve_by_elim (maxDepth := 8) [Shape.inT, Shape.inI, Shape.inC, Shape.inK, Shape.obF, Shape.obT, Shape.arI, Arr.inF] | omega)) only [S2, Nat.reduceEqDiff, Nat.reduceAdd, iput, puts]
    refine ⟨_, rfl, H, fun _ _ h => h, ?_, rfl, Nat.le_refl _⟩
    show bool (c.T f == c.T g) = _
    by_cases e : c.T f = c.T g
    · rw [beq_iff_eq.2 e, decide_eq_true ⟨h1, e⟩]
    · rw [beq_eq_false_iff_ne.2 e, decide_eq_false fun hh => e hh.2]
  · exact ⟨_, rfl, H, fun _ _ h => h, ret_false (fun hh => h1 hh.1), rfl, Nat.le_refl _⟩
def V_spec_l06Faithful : Vc :=
  .op true (.p .box [.t 0]) <|
  .loop 0 [.c (int 0)] <|
  .op true (.p (.fad 11) [.t 1]) <|
  .op true (.p (.ld none) [.t 3]) <|
  .op true (.p .len [.t 4]) <|
  .op true (.p (.bin .lss) [.t 2, .t 5]) <|
  .br 6
   (.loop 1 [.c (int 0)] <|
   .op true (.p (.bin .lss) [.t 7, .t 2]) <|
   .br 8
    (.op true (.p (.fad 0) [.t 1]) <|
    .op true (.p (.ld (some 5)) [.t 9]) <|
    .op true (.call (.f 340) [.t 10, .t 2, .t 7]) <|
    .br 11
     (.op true (.p (.fad 11) [.t 1]) <|
     .op true (.p (.ld none) [.t 12]) <|
     .op true (.p (.iad 1) [.t 13, .t 2]) <|
     .op true (.p (.ld none) [.t 14]) <|
     .op true (.p (.fad 11) [.t 1]) <|
     .op true (.p (.ld none) [.t 16]) <|
     .op true (.p (.iad 1) [.t 17, .t 7]) <|
     .op true (.p (.ld none) [.t 18]) <|
     .op true (.p (.bin .eql) [.t 15, .t 19]) <|
     .br 20
      (.ret [(.c (bool false), none)])
      (.op true (.p (.bin .add) [.t 7, .c (int 1)]) <|
      .again 1 [.t 21]))
     (.op true (.p (.bin .add) [.t 7, .c (int 1)]) <|
     .again 1 [.t 12]))
    (.op true (.p (.bin .add) [.t 2, .c (int 1)]) <|
    .again 0 [.t 9]))
   (.ret [(.c (bool true), none)])
theorem l06Faithful_fz (hp : Has P ν 340 3 V_spec_l03Parallel) (h : Has P ν 296 1 V_spec_l06Faithful) (f : Fu) (u : IsFu f) (b : SmallU f) : Fz (OkM P ν) 296 [.agg f.cells] (bool (decide (Faithful f))) := by
  refine Fn.fzb fun H nx => h _ _ _ _ rfl fun hwf => ?_
  unfold V_spec_l06Faithful
  have s := u.s.1
  have m := u.m
  have ba := b.ar
  have al := m.al
  try simp (disch := (first | rfl | with_reducible assumption | with_reducible solve_by_elim (maxDepth := 8) [Shape.inT, Shape.inI, Shape.inC, Shape.inK, Shape.obF, Shape.obT, Shape.arI, Arr.inF] | omega)) only [S2, Nat.reduceEqDiff, Nat.reduceAdd, iput, puts, SU f]
  refine den_for f.ar.length (fun i => ∀ a b : Nat, a < i → b < a → ¬ (f.A a = f.A b ∧ f.s.F a = f.s.F b ∧ f.s.T a = f.s.T b)) (fun x _ hx => by omega) fun i hi hq => ?_
  by_cases hlt : i < f.ar.length
  · have ia : Arr f.s i := ⟨by omega, by omega⟩
    have ii := m.inA ia
    try simp (disch := (first | rfl | with_reducible assumption | with_reducible solve_by_elim (maxDepth := 8) [Shape.inT, Shape.inI, Shape.inC, Shape.inK, Shape.obF, Shape.obT, Shape.arI, Arr.inF] | omega)) only [S2, Nat.reduceEqDiff, Nat.reduceAdd, iput, puts, SU f, hlt]
    refine den_for i (fun j => ∀ b : Nat, b < j → ¬ (f.A i = f.A b ∧ f.s.F i = f.s.F b ∧ f.s.T i = f.s.T b)) (fun x hx => by omega) fun j hj hr => ?_
    by_cases hlt2 : j < i
    · have ja : Arr f.s j := ⟨by omega, by omega⟩
      have ij := m.inA ja
      repeat (first | simp (disch := (first | rfl | with_reducible assumption | with_reducible solve_by_elim (maxDepth := 8) [Shape.inT, Shape.inI, Shape.inC, Shape.inK, Shape.obF, Shape.obT, Shape.arI, Arr.inF] | omega)) only [S2, Nat.reduceEqDiff, Nat.reduceAdd, iput, puts, SU f, hlt2] | (refine den_call rfl (by first | (simp only [SS, Nat.reduceEqDiff, Nat.reduceAdd, iput, puts, FF, frzL_cat, frzL_fu, frzL_fn0]; done) | (simp only [SS, Nat.reduceEqDiff, Nat.reduceAdd, iput, puts, FF, frzL_cat, frzL_fu, frzL_fn0]; rfl)) (by first | exact s.fzParallel hp ia ja) ?_) | (refine den_calli rfl (by first | (simp only [SS, Nat.reduceEqDiff, Nat.reduceAdd, iput, puts, FF, frzL_cat, frzL_fu, frzL_fn0]; done) | (simp only [SS, Nat.reduceEqDiff, Nat.reduceAdd, iput, puts, FF, frzL_cat, frzL_fu, frzL_fn0]; rfl)) (by first | exact s.fzParallel hp ia ja) ?_))
      refine ⟨fun h1 => ?_, fun h1 => up rfl hlt2 fun k hk => ?_⟩
      · try simp (disch := (first | rfl | with_reducible assumption | with_reducible solve_by_elim (maxDepth := 8) [Shape.inT, Shape.inI, Shape.inC, Shape.inK, Shape.obF, Shape.obT, Shape.arI, Arr.inF] | omega)) only [S2, Nat.reduceEqDiff, Nat.reduceAdd, iput, puts, SU f]
        refine ⟨fun h2 => ?_, fun h2 => up rfl hlt2 fun k hk => ?_⟩
        · exact ⟨_, rfl, H, fun _ _ h => h, ret_false (fun q => q i j hlt hlt2 ⟨h2, h1.1, h1.2⟩), rfl, Nat.le_refl _⟩
        · by_cases e : k = j
          · subst e; exact fun hh => h2 hh.1
          · exact hr k (by omega)
      · by_cases e : k = j
        · subst e; exact fun hh => h1 hh.2
        · exact hr k (by omega)
    · try simp (disch := (first | rfl | with_reducible assumption | with_reducible solve_by_elim (maxDepth := 8) [Shape.inT, Shape.inI, Shape.inC, Shape.inK, Shape.obF, Shape.obT, Shape.arI, Arr.inF] | omega)) only [S2, Nat.reduceEqDiff, Nat.reduceAdd, iput, puts, hlt2]
      refine up rfl hlt fun k b hk hb => ?_
      by_cases e : k = i
      · subst e; exact hr b (by omega)
      · exact hq k b (by omega) hb
  · try simp (disch := (first | rfl | with_reducible assumption | with_reducible solve_by_elim (maxDepth := 8) [Shape.inT, Shape.inI, Shape.inC, Shape.inK, Shape.obF, Shape.obT, Shape.arI, Arr.inF] | omega)) only [S2, Nat.reduceEqDiff, Nat.reduceAdd, iput, puts, SU f, hlt]
    exact ⟨_, rfl, H, fun _ _ h => h, ret_true (fun a b ha hb => hq a b (by omega) hb), rfl, Nat.le_refl _⟩
def V_spec_IsFaithful : Vc :=
  .op true (.p .box [.t 0]) <|
  .op true (.p (.ld (some 12)) [.t 1]) <|
  .op true (.call (.f 256) [.t 2]) <|
  .op true (.p .bnot [.t 3]) <|
  .br 4
   (.ret [(.c (bool false), none), (.c (int 1), none)])
   (.op true (.p (.ld (some 12)) [.t 1]) <|
   .op true (.call (.f 296) [.t 5]) <|
   .ret [(.t 6, none), (.c (int 0), none)])
theorem sIsFaithful_fz (K : HSpecU P ν) (hp : Has P ν 340 3 V_spec_l03Parallel) (hf : Has P ν 296 1 V_spec_l06Faithful) (h : Has P ν 157 1 V_spec_IsFaithful) (f : Fu) (b : SmallU f) : Fz (OkM P ν) 157 [.agg f.cells] (askV f (Faithful f)) := by
  refine Fn.fz (fun H nx => h _ _ _ _ rfl fun hwf => ?_) ask_frz
  unfold V_spec_IsFaithful
  repeat (first | simp (disch := (first | rfl | with_reducible assumption | with_reducible solve_by_elim (maxDepth := 8) [Shape.inT, Shape.inI, Shape.inC, Shape.inK, Shape.obF, Shape.obT, Shape.arI, Arr.inF] | omega)) only [S2, Nat.reduceEqDiff, Nat.reduceAdd, iput, puts, SU f] | (refine den_call rfl (by first | (simp only [SS, Nat.reduceEqDiff, Nat.reduceAdd, iput, puts, FF, frzL_cat, frzL_fu, frzL_fn0]; done) | (simp only [SS, Nat.reduceEqDiff, Nat.reduceAdd, iput, puts, FF, frzL_cat, frzL_fu, frzL_fn0]; rfl)) (by first | exact l06Is_fz K f b) ?_) | (refine den_calli rfl (by first | (simp only [SS, Nat.reduceEqDiff, Nat.reduceAdd, iput, puts, FF, frzL_cat, frzL_fu, frzL_fn0]; done) | (simp only [SS, Nat.reduceEqDiff, Nat.reduceAdd, iput, puts, FF, frzL_cat, frzL_fu, frzL_fn0]; rfl)) (by first | exact l06Is_fz K f b) ?_))
  refine ⟨fun h1 => ?_, fun h1 => ?_⟩
  · exact ⟨_, rfl, H, fun _ _ h => h, ask_no h1, rfl, Nat.le_refl _⟩
  repeat (first | simp (disch := (first | rfl | with_reducible assumption | with_reducible solve_by_elim (maxDepth := 8) [Shape.inT, Shape.inI, Shape.inC, Shape.inK, Shape.obF, Shape.obT, Shape.arI, Arr.inF] | omega)) only [S2, Nat.reduceEqDiff, Nat.reduceAdd, iput, puts, SU f] | (refine den_call rfl (by first | (simp only [SS, Nat.reduceEqDiff, Nat.reduceAdd, iput, puts, FF, frzL_cat, frzL_fu, frzL_fn0]; done) | (simp only [SS, Nat.reduceEqDiff, Nat.reduceAdd, iput, puts, FF, frzL_cat, frzL_fu, frzL_fn0]; rfl)) (by first | exact l06Faithful_fz hp hf f h1 b) ?_) | (refine den_calli rfl (by first | (simp only [SS, Nat.reduceEqDiff, Nat.reduceAdd, iput, puts, FF, frzL_cat, frzL_fu, frzL_fn0]; done) | (simp only [SS, Nat.reduceEqDiff, Nat.reduceAdd, iput, puts, FF, frzL_cat, frzL_fu, frzL_fn0]; rfl)) (by first | exact l06Faithful_fz hp hf f h1 b) ?_))
  exact ⟨_, rfl, H, fun _ _ h => h, ask_q h1, rfl, Nat.le_refl _⟩
theorem IsFaithful_both (K : HFun P ν) (ha : Has P ν 297 2 V_asked) (hf : Has P ν 298 1 V_Functor_isFaithful) (h : Has P ν 158 1 V_IsFaithful) (KS : HSpecU P ν) (hp : Has P ν 340 3 V_spec_l03Parallel) (hf' : Has P ν 296 1 V_spec_l06Faithful) (h' : Has P ν 157 1 V_spec_IsFaithful) (f : Fu) (b : SmallU f) :
    ∃ (a : Bool) (k : Int), Fz (OkM P ν) 158 [.agg f.cells] (.tup [bool a, int k]) ∧ Fz (OkM P ν) 157 [.agg f.cells] (.tup [bool a, int k]) :=
  ⟨_, _, IsFaithful_fz K ha hf h f b, sIsFaithful_fz KS hp hf' h' f b⟩
end Go.Av
