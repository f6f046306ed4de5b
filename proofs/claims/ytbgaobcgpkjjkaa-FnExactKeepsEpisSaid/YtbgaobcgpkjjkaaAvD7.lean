/-
  KeepsEpis, KeepsMonos, IsConservative.
-/
import Derived.Test.YtbgaobcgpkjjkaaAvD6
import Derived.Test.YtbgaobcgpkjjkaaAvB7
namespace Go.Av
open Classical
set_option linter.unusedSimpArgs false
set_option linter.unusedVariables false
variable {P : Program} {ν : Nat → FuncId}

def KeepEp (f : Fu) : Prop := ∀ a : Nat, a < f.ar.length → Epi f.s a → Epi f.t (f.A a)
def V_KeepsEpis_1 : Vc :=
  .op true (.p .nck [.t 0]) <|
  .op true (.p (.fad 11) [.t 1]) <|
  .op true (.p (.ld none) [.t 2]) <|
  .op true (.p .len [.t 3]) <|
  .loop 0 [.c (int 0)] <|
  .op true (.p (.bin .lss) [.t 5, .t 4]) <|
  .br 6
   (.op true (.p (.iad 1) [.t 3, .t 5]) <|
   .op true (.p (.ld none) [.t 7]) <|
   .op true (.p .nck [.t 0]) <|
   .op true (.p (.fad 0) [.t 9]) <|
   .op true (.call (.f 290) [.t 10, .t 5]) <|
   .br 11
    (.op true (.p .nck [.t 0]) <|
    .op true (.p (.fad 5) [.t 12]) <|
    .op true (.call (.f 290) [.t 13, .t 8]) <|
    .op true (.p .bnot [.t 14]) <|
    .br 15
     (.ret [(.c (bool false), none)])
     (.op true (.p (.bin .add) [.t 5, .c (int 1)]) <|
     .again 0 [.t 16]))
    (.op true (.p (.bin .add) [.t 5, .c (int 1)]) <|
    .again 0 [.t 12]))
   (.ret [(.c (bool true), none)])
theorem KeepsEpis1_fz (K : HFun P ν) (hh : Has P ν 33 3 V_Category_hom) (M : HMono P ν) (h : Has P ν 325 1 V_KeepsEpis_1) (f : Fu) (u : IsFu f) (b : SmallU f) : Fz (OkM P ν) 325 [.ptr f.cells 0] (bool (decide (KeepEp f))) := by
  refine Fn.fzb fun H nx => h _ _ _ _ rfl fun hwf => ?_
  unfold V_KeepsEpis_1
  have s := u.s.1
  have t := u.t.1
  have m := u.m
  have ba := b.ar
  have al := m.al
  try simp (disch := (first | rfl | with_reducible assumption | with_reducible solve_by_elim (maxDepth := 8) [Shape.inT, Shape.inI, Shape.inC, Shape.inK, Shape.obF, Shape.obT, Shape.arI, Arr.inF] | omega)) only [S2, Nat.reduceEqDiff, Nat.reduceAdd, iput, puts, SU f]
  refine den_for f.ar.length (fun i => ∀ a : Nat, a < i → Epi f.s a → Epi f.t (f.A a)) (fun x hx => by omega) fun i hi hp => ?_
  by_cases hlt : i < f.ar.length
  · have ia : Arr f.s i := ⟨by omega, by omega⟩
    have ii := m.inA ia
    have ta := m.arA ia
    repeat (first | simp (disch := (first | rfl | with_reducible assumption | with_reducible solve_by_elim (maxDepth := 8) [Shape.inT, Shape.inI, Shape.inC, Shape.inK, Shape.obF, Shape.obT, Shape.arI, Arr.inF] | omega)) only [S2, Nat.reduceEqDiff, Nat.reduceAdd, iput, puts, SU f, hlt] | (refine den_call rfl (by first | (simp only [SS, Nat.reduceEqDiff, Nat.reduceAdd, iput, puts, FF, frzL_cat, frzL_fu, frzL_fn0]; done) | (simp only [SS, Nat.reduceEqDiff, Nat.reduceAdd, iput, puts, FF, frzL_cat, frzL_fu, frzL_fn0]; rfl)) (by first | exact Fu.winS (s.isEpi_fz hh K.thn M i ia.1 ia.2)) ?_))
    refine ⟨fun h1 => ?_, fun h1 => up rfl hlt fun k hk hk2 => ?_⟩
    · repeat (first | simp (disch := (first | rfl | with_reducible assumption | with_reducible solve_by_elim (maxDepth := 8) [Shape.inT, Shape.inI, Shape.inC, Shape.inK, Shape.obF, Shape.obT, Shape.arI, Arr.inF] | omega)) only [S2, Nat.reduceEqDiff, Nat.reduceAdd, iput, puts, SU f] | (refine den_call rfl (by first | (simp only [SS, Nat.reduceEqDiff, Nat.reduceAdd, iput, puts, FF, frzL_cat, frzL_fu, frzL_fn0]; done) | (simp only [SS, Nat.reduceEqDiff, Nat.reduceAdd, iput, puts, FF, frzL_cat, frzL_fu, frzL_fn0]; rfl)) (by first | exact Fu.winT (t.isEpi_fz hh K.thn M (f.A i) ta.1 ta.2)) ?_))
      refine ⟨fun h2 => ?_, fun h2 => up rfl hlt fun k hk hk2 => ?_⟩
      · exact ⟨_, rfl, H, fun _ _ h => h, ret_false (fun q => h2 (q i hlt h1)), rfl, Nat.le_refl _⟩
      · by_cases e : k = i
        · subst e; exact h2
        · exact hp k (by omega) hk2
    · by_cases e : k = i
      · subst e; exact absurd hk2 h1
      · exact hp k (by omega) hk2
  · try simp (disch := (first | rfl | with_reducible assumption | with_reducible solve_by_elim (maxDepth := 8) [Shape.inT, Shape.inI, Shape.inC, Shape.inK, Shape.obF, Shape.obT, Shape.arI, Arr.inF] | omega)) only [S2, Nat.reduceEqDiff, Nat.reduceAdd, iput, puts, hlt]
    exact ⟨_, rfl, H, fun _ _ h => h, ret_true (fun a ha => hp a (by omega)), rfl, Nat.le_refl _⟩
def V_KeepsEpis : Vc :=
  .op true (.p .box [.t 0]) <|
  .op true (.call (.f 297) [.t 1, .f 325]) <|
  .op true (.p (.ext 0) [.t 2]) <|
  .op true (.p (.ext 1) [.t 2]) <|
  .ret [(.t 3, none), (.t 4, none)]
theorem KeepsEpis_fz (K : HFun P ν) (ha : Has P ν 297 2 V_asked) (hh : Has P ν 33 3 V_Category_hom) (M : HMono P ν) (hf : Has P ν 325 1 V_KeepsEpis_1) (h : Has P ν 178 1 V_KeepsEpis) (f : Fu) (b : SmallU f) : Fz (OkM P ν) 178 [.agg f.cells] (askV f (KeepEp f)) := by
  refine Fn.fz (fun H nx => h _ _ _ _ rfl fun hwf => ?_) ask_frz
  unfold V_KeepsEpis
  repeat (first | simp (disch := (first | rfl | with_reducible assumption | with_reducible solve_by_elim (maxDepth := 8) [Shape.inT, Shape.inI, Shape.inC, Shape.inK, Shape.obF, Shape.obT, Shape.arI, Arr.inF] | omega)) only [S2, Nat.reduceEqDiff, Nat.reduceAdd, iput, puts, SU f, ext0, ext1] | (refine den_call rfl (by first | (simp only [SS, Nat.reduceEqDiff, Nat.reduceAdd, iput, puts, FF, frzL_cat, frzL_fu, frzL_fn0]; done) | (simp only [SS, Nat.reduceEqDiff, Nat.reduceAdd, iput, puts, FF, frzL_cat, frzL_fu, frzL_fn0]; rfl)) (by first | exact asked_fz K ha f b _ (KeepEp f) fun u => KeepsEpis1_fz K hh M hf f u b) ?_))
  exact ⟨_, rfl, H, fun _ _ h => h, rfl, rfl, Nat.le_refl _⟩
def V_spec_KeepsEpis : Vc :=
  .op true (.p .box [.t 0]) <|
  .op true (.p (.ld (some 12)) [.t 1]) <|
  .op true (.call (.f 256) [.t 2]) <|
  .op true (.p .bnot [.t 3]) <|
  .br 4
   (.ret [(.c (bool false), none), (.c (int 1), none)])
   (.loop 0 [.c (int 0)] <|
   .op true (.p (.fad 11) [.t 1]) <|
   .op true (.p (.ld none) [.t 6]) <|
   .op true (.p .len [.t 7]) <|
   .op true (.p (.bin .lss) [.t 5, .t 8]) <|
   .br 9
    (.op true (.p (.fad 0) [.t 1]) <|
    .op true (.p (.ld (some 5)) [.t 10]) <|
    .op true (.call (.f 288) [.t 11, .t 5]) <|
    .br 12
     (.op true (.p (.fad 5) [.t 1]) <|
     .op true (.p (.ld (some 5)) [.t 13]) <|
     .op true (.p (.fad 11) [.t 1]) <|
     .op true (.p (.ld none) [.t 15]) <|
     .op true (.p (.iad 1) [.t 16, .t 5]) <|
     .op true (.p (.ld none) [.t 17]) <|
     .op true (.call (.f 288) [.t 14, .t 18]) <|
     .op true (.p .bnot [.t 19]) <|
     .br 20
      (.ret [(.c (bool false), none), (.c (int 0), none)])
      (.op true (.p (.bin .add) [.t 5, .c (int 1)]) <|
      .again 0 [.t 21]))
     (.op true (.p (.bin .add) [.t 5, .c (int 1)]) <|
     .again 0 [.t 13]))
    (.ret [(.c (bool true), none), (.c (int 0), none)]))
theorem sKeepsEpis_fz (K : HSpecU P ν) (hm : Has P ν 288 2 V_spec_l05Epi) (h : Has P ν 177 1 V_spec_KeepsEpis) (f : Fu) (b : SmallU f) : Fz (OkM P ν) 177 [.agg f.cells] (askV f (KeepEp f)) := by
  refine Fn.fz (fun H nx => h _ _ _ _ rfl fun hwf => ?_) ask_frz
  unfold V_spec_KeepsEpis
  repeat (first | simp (disch := (first | rfl | with_reducible assumption | with_reducible solve_by_elim (maxDepth := 8) [Shape.inT, Shape.inI, Shape.inC, Shape.inK, Shape.obF, Shape.obT, Shape.arI, Arr.inF] | omega)) only [S2, Nat.reduceEqDiff, Nat.reduceAdd, iput, puts, SU f] | (refine den_call rfl (by first | (simp only [SS, Nat.reduceEqDiff, Nat.reduceAdd, iput, puts, FF, frzL_cat, frzL_fu, frzL_fn0]; done) | (simp only [SS, Nat.reduceEqDiff, Nat.reduceAdd, iput, puts, FF, frzL_cat, frzL_fu, frzL_fn0]; rfl)) (by first | exact l06Is_fz K f b) ?_))
  refine ⟨fun h1 => ?_, fun u => ?_⟩
  · exact ⟨_, rfl, H, fun _ _ h => h, ask_no h1, rfl, Nat.le_refl _⟩
  have s := u.s.1
  have t := u.t.1
  have m := u.m
  have ba := b.ar
  have al := m.al
  try simp (disch := (first | rfl | with_reducible assumption | with_reducible solve_by_elim (maxDepth := 8) [Shape.inT, Shape.inI, Shape.inC, Shape.inK, Shape.obF, Shape.obT, Shape.arI, Arr.inF] | omega)) only [S2, Nat.reduceEqDiff, Nat.reduceAdd, iput, puts, SU f]
  refine den_for f.ar.length (fun i => ∀ a : Nat, a < i → Epi f.s a → Epi f.t (f.A a)) (fun x hx => by omega) fun i hi hp => ?_
  by_cases hlt : i < f.ar.length
  · have ia : Arr f.s i := ⟨by omega, by omega⟩
    have ii := m.inA ia
    have ta := m.arA ia
    repeat (first | simp (disch := (first | rfl | with_reducible assumption | with_reducible solve_by_elim (maxDepth := 8) [Shape.inT, Shape.inI, Shape.inC, Shape.inK, Shape.obF, Shape.obT, Shape.arI, Arr.inF] | omega)) only [S2, Nat.reduceEqDiff, Nat.reduceAdd, iput, puts, SU f, hlt] | (refine den_call rfl (by first | (simp only [SS, Nat.reduceEqDiff, Nat.reduceAdd, iput, puts, FF, frzL_cat, frzL_fu, frzL_fn0]; done) | (simp only [SS, Nat.reduceEqDiff, Nat.reduceAdd, iput, puts, FF, frzL_cat, frzL_fu, frzL_fn0]; rfl)) (by first | exact s.l05Epi_fz hm i ia.1 ia.2) ?_))
    refine ⟨fun h1 => ?_, fun h1 => up rfl hlt fun k hk hk2 => ?_⟩
    · repeat (first | simp (disch := (first | rfl | with_reducible assumption | with_reducible solve_by_elim (maxDepth := 8) [Shape.inT, Shape.inI, Shape.inC, Shape.inK, Shape.obF, Shape.obT, Shape.arI, Arr.inF] | omega)) only [S2, Nat.reduceEqDiff, Nat.reduceAdd, iput, puts, SU f] | (refine den_call rfl (by first | (simp only [SS, Nat.reduceEqDiff, Nat.reduceAdd, iput, puts, FF, frzL_cat, frzL_fu, frzL_fn0]; done) | (simp only [SS, Nat.reduceEqDiff, Nat.reduceAdd, iput, puts, FF, frzL_cat, frzL_fu, frzL_fn0]; rfl)) (by first | exact t.l05Epi_fz hm (f.A i) ta.1 ta.2) ?_))
      refine ⟨fun h2 => ?_, fun h2 => up rfl hlt fun k hk hk2 => ?_⟩
      · exact ⟨_, rfl, H, fun _ _ h => h, ask_f u (fun q => h2 (q i hlt h1)), rfl, Nat.le_refl _⟩
      · by_cases e : k = i
        · subst e; exact h2
        · exact hp k (by omega) hk2
    · by_cases e : k = i
      · subst e; exact absurd hk2 h1
      · exact hp k (by omega) hk2
  · try simp (disch := (first | rfl | with_reducible assumption | with_reducible solve_by_elim (maxDepth := 8) [Shape.inT, Shape.inI, Shape.inC, Shape.inK, Shape.obF, Shape.obT, Shape.arI, Arr.inF] | omega)) only [S2, Nat.reduceEqDiff, Nat.reduceAdd, iput, puts, SU f, hlt]
    exact ⟨_, rfl, H, fun _ _ h => h, ask_t u (fun a ha => hp a (by omega)), rfl, Nat.le_refl _⟩
theorem KeepsEpis_both (K : HFun P ν) (ha : Has P ν 297 2 V_asked) (hh : Has P ν 33 3 V_Category_hom) (M : HMono P ν) (hf : Has P ν 325 1 V_KeepsEpis_1) (h : Has P ν 178 1 V_KeepsEpis) (KS : HSpecU P ν) (hm : Has P ν 288 2 V_spec_l05Epi) (h' : Has P ν 177 1 V_spec_KeepsEpis) (f : Fu) (b : SmallU f) :
    ∃ (a : Bool) (k : Int), Fz (OkM P ν) 178 [.agg f.cells] (.tup [bool a, int k]) ∧ Fz (OkM P ν) 177 [.agg f.cells] (.tup [bool a, int k]) :=
  ⟨_, _, KeepsEpis_fz K ha hh M hf h f b, sKeepsEpis_fz KS hm h' f b⟩

def KeepMo (f : Fu) : Prop := ∀ a : Nat, a < f.ar.length → Mono f.s a → Mono f.t (f.A a)
def V_KeepsMonos_1 : Vc :=
  .op true (.p .nck [.t 0]) <|
  .op true (.p (.fad 11) [.t 1]) <|
  .op true (.p (.ld none) [.t 2]) <|
  .op true (.p .len [.t 3]) <|
  .loop 0 [.c (int 0)] <|
  .op true (.p (.bin .lss) [.t 5, .t 4]) <|
  .br 6
   (.op true (.p (.iad 1) [.t 3, .t 5]) <|
   .op true (.p (.ld none) [.t 7]) <|
   .op true (.p .nck [.t 0]) <|
   .op true (.p (.fad 0) [.t 9]) <|
   .op true (.call (.f 289) [.t 10, .t 5]) <|
   .br 11
    (.op true (.p .nck [.t 0]) <|
    .op true (.p (.fad 5) [.t 12]) <|
    .op true (.call (.f 289) [.t 13, .t 8]) <|
    .op true (.p .bnot [.t 14]) <|
    .br 15
     (.ret [(.c (bool false), none)])
     (.op true (.p (.bin .add) [.t 5, .c (int 1)]) <|
     .again 0 [.t 16]))
    (.op true (.p (.bin .add) [.t 5, .c (int 1)]) <|
    .again 0 [.t 12]))
   (.ret [(.c (bool true), none)])
theorem KeepsMonos1_fz (K : HFun P ν) (hh : Has P ν 33 3 V_Category_hom) (M : HMono P ν) (h : Has P ν 326 1 V_KeepsMonos_1) (f : Fu) (u : IsFu f) (b : SmallU f) : Fz (OkM P ν) 326 [.ptr f.cells 0] (bool (decide (KeepMo f))) := by
  refine Fn.fzb fun H nx => h _ _ _ _ rfl fun hwf => ?_
  unfold V_KeepsMonos_1
  have s := u.s.1
  have t := u.t.1
  have m := u.m
  have ba := b.ar
  have al := m.al
  try simp (disch := (first | rfl | with_reducible assumption | with_reducible solve_by_elim (maxDepth := 8) [Shape.inT, Shape.inI, Shape.inC, Shape.inK, Shape.obF, Shape.obT, Shape.arI, Arr.inF] | omega)) only [S2, Nat.reduceEqDiff, Nat.reduceAdd, iput, puts, SU f]
  refine den_for f.ar.length (fun i => ∀ a : Nat, a < i → Mono f.s a → Mono f.t (f.A a)) (fun x hx => by omega) fun i hi hp => ?_
  by_cases hlt : i < f.ar.length
  · have ia : Arr f.s i := ⟨by omega, by omega⟩
    have ii := m.inA ia
    have ta := m.arA ia
    repeat (first | simp (disch := (first | rfl | with_reducible assumption | with_reducible solve_by_elim (maxDepth := 8) [Shape.inT, Shape.inI, Shape.inC, Shape.inK, Shape.obF, Shape.obT, Shape.arI, Arr.inF] | omega)) only [S2, Nat.reduceEqDiff, Nat.reduceAdd, iput, puts, SU f, hlt] | (refine den_call rfl (by first | (simp only [SS, Nat.reduceEqDiff, Nat.reduceAdd, iput, puts, FF, frzL_cat, frzL_fu, frzL_fn0]; done) | (simp only [SS, Nat.reduceEqDiff, Nat.reduceAdd, iput, puts, FF, frzL_cat, frzL_fu, frzL_fn0]; rfl)) (by first | exact Fu.winS (s.isMono_fz hh K.thn M i ia.1 ia.2)) ?_))
    refine ⟨fun h1 => ?_, fun h1 => up rfl hlt fun k hk hk2 => ?_⟩
    · repeat (first | simp (disch := (first | rfl | with_reducible assumption | with_reducible solve_by_elim (maxDepth := 8) [Shape.inT, Shape.inI, Shape.inC, Shape.inK, Shape.obF, Shape.obT, Shape.arI, Arr.inF] | omega)) only [S2, Nat.reduceEqDiff, Nat.reduceAdd, iput, puts, SU f] | (refine den_call rfl (by first | (simp only [SS, Nat.reduceEqDiff, Nat.reduceAdd, iput, puts, FF, frzL_cat, frzL_fu, frzL_fn0]; done) | (simp only [SS, Nat.reduceEqDiff, Nat.reduceAdd, iput, puts, FF, frzL_cat, frzL_fu, frzL_fn0]; rfl)) (by first | exact Fu.winT (t.isMono_fz hh K.thn M (f.A i) ta.1 ta.2)) ?_))
      refine ⟨fun h2 => ?_, fun h2 => up rfl hlt fun k hk hk2 => ?_⟩
      · exact ⟨_, rfl, H, fun _ _ h => h, ret_false (fun q => h2 (q i hlt h1)), rfl, Nat.le_refl _⟩
      · by_cases e : k = i
        · subst e; exact h2
        · exact hp k (by omega) hk2
    · by_cases e : k = i
      · subst e; exact absurd hk2 h1
      · exact hp k (by omega) hk2
  · try simp (disch := (first | rfl | with_reducible assumption | with_reducible solve_by_elim (maxDepth := 8) [Shape.inT, Shape.inI, Shape.inC, Shape.inK, Shape.obF, Shape.obT, Shape.arI, Arr.inF] | omega)) only [S2, Nat.reduceEqDiff, Nat.reduceAdd, iput, puts, hlt]
    exact ⟨_, rfl, H, fun _ _ h => h, ret_true (fun a ha => hp a (by omega)), rfl, Nat.le_refl _⟩
def V_KeepsMonos : Vc :=
  .op true (.p .box [.t 0]) <|
  .op true (.call (.f 297) [.t 1, .f 326]) <|
  .op true (.p (.ext 0) [.t 2]) <|
  .op true (.p (.ext 1) [.t 2]) <|
  .ret [(.t 3, none), (.t 4, none)]
theorem KeepsMonos_fz (K : HFun P ν) (ha : Has P ν 297 2 V_asked) (hh : Has P ν 33 3 V_Category_hom) (M : HMono P ν) (hf : Has P ν 326 1 V_KeepsMonos_1) (h : Has P ν 180 1 V_KeepsMonos) (f : Fu) (b : SmallU f) : Fz (OkM P ν) 180 [.agg f.cells] (askV f (KeepMo f)) := by
  refine Fn.fz (fun H nx => h _ _ _ _ rfl fun hwf => ?_) ask_frz
  unfold V_KeepsMonos
  repeat (first | simp (disch := (first | rfl | with_reducible assumption | with_reducible solve_by_elim (maxDepth := 8) [Shape.inT, Shape.inI, Shape.inC, Shape.inK, Shape.obF, Shape.obT, Shape.arI, Arr.inF] | omega)) only [S2, Nat.reduceEqDiff, Nat.reduceAdd, iput, puts, SU f, ext0, ext1] | (refine den_call rfl (by first | (simp only [SS, Nat.reduceEqDiff, Nat.reduceAdd, iput, puts, FF, frzL_cat, frzL_fu, frzL_fn0]; done) | (simp only [SS, Nat.reduceEqDiff, Nat.reduceAdd, iput, puts, FF, frzL_cat, frzL_fu, frzL_fn0]; rfl)) (by first | exact asked_fz K ha f b _ (KeepMo f) fun u => KeepsMonos1_fz K hh M hf f u b) ?_))
  exact ⟨_, rfl, H, fun _ _ h => h, rfl, rfl, Nat.le_refl _⟩
def V_spec_KeepsMonos : Vc :=
  .op true (.p .box [.t 0]) <|
  .op true (.p (.ld (some 12)) [.t 1]) <|
  .op true (.call (.f 256) [.t 2]) <|
  .op true (.p .bnot [.t 3]) <|
  .br 4
   (.ret [(.c (bool false), none), (.c (int 1), none)])
   (.loop 0 [.c (int 0)] <|
   .op true (.p (.fad 11) [.t 1]) <|
   .op true (.p (.ld none) [.t 6]) <|
   .op true (.p .len [.t 7]) <|
   .op true (.p (.bin .lss) [.t 5, .t 8]) <|
   .br 9
    (.op true (.p (.fad 0) [.t 1]) <|
    .op true (.p (.ld (some 5)) [.t 10]) <|
    .op true (.call (.f 287) [.t 11, .t 5]) <|
    .br 12
     (.op true (.p (.fad 5) [.t 1]) <|
     .op true (.p (.ld (some 5)) [.t 13]) <|
     .op true (.p (.fad 11) [.t 1]) <|
     .op true (.p (.ld none) [.t 15]) <|
     .op true (.p (.iad 1) [.t 16, .t 5]) <|
     .op true (.p (.ld none) [.t 17]) <|
     .op true (.call (.f 287) [.t 14, .t 18]) <|
     .op true (.p .bnot [.t 19]) <|
     .br 20
      (.ret [(.c (bool false), none), (.c (int 0), none)])
      (.op true (.p (.bin .add) [.t 5, .c (int 1)]) <|
      .again 0 [.t 21]))
     (.op true (.p (.bin .add) [.t 5, .c (int 1)]) <|
     .again 0 [.t 13]))
    (.ret [(.c (bool true), none), (.c (int 0), none)]))
theorem sKeepsMonos_fz (K : HSpecU P ν) (hm : Has P ν 287 2 V_spec_l05Mono) (h : Has P ν 179 1 V_spec_KeepsMonos) (f : Fu) (b : SmallU f) : Fz (OkM P ν) 179 [.agg f.cells] (askV f (KeepMo f)) := by
  refine Fn.fz (fun H nx => h _ _ _ _ rfl fun hwf => ?_) ask_frz
  unfold V_spec_KeepsMonos
  repeat (first | simp (disch := (first | rfl | with_reducible assumption | with_reducible solve_by_elim (maxDepth := 8) [Shape.inT, Shape.inI, Shape.inC, Shape.inK, Shape.obF, Shape.obT, Shape.arI, Arr.inF] | omega)) only [S2, Nat.reduceEqDiff, Nat.reduceAdd, iput, puts, SU f] | (refine den_call rfl (by first | (simp only [SS, Nat.reduceEqDiff, Nat.reduceAdd, iput, puts, FF, frzL_cat, frzL_fu, frzL_fn0]; done) | (simp only [SS, Nat.reduceEqDiff, Nat.reduceAdd, iput, puts, FF, frzL_cat, frzL_fu, frzL_fn0]; rfl)) (by first | exact l06Is_fz K f b) ?_))
  refine ⟨fun h1 => ?_, fun u => ?_⟩
  · exact ⟨_, rfl, H, fun _ _ h => h, ask_no h1, rfl, Nat.le_refl _⟩
  have s := u.s.1
  have t := u.t.1
  have m := u.m
  have ba := b.ar
  have al := m.al
  try simp (disch := (first | rfl | with_reducible assumption | with_reducible solve_by_elim (maxDepth := 8) [Shape.inT, Shape.inI, Shape.inC, Shape.inK, Shape.obF, Shape.obT, Shape.arI, Arr.inF] | omega)) only [S2, Nat.reduceEqDiff, Nat.reduceAdd, iput, puts, SU f]
  refine den_for f.ar.length (fun i => ∀ a : Nat, a < i → Mono f.s a → Mono f.t (f.A a)) (fun x hx => by omega) fun i hi hp => ?_
  by_cases hlt : i < f.ar.length
  · have ia : Arr f.s i := ⟨by omega, by omega⟩
    have ii := m.inA ia
    have ta := m.arA ia
    repeat (first | simp (disch := (first | rfl | with_reducible assumption | with_reducible solve_by_elim (maxDepth := 8) [Shape.inT, Shape.inI, Shape.inC, Shape.inK, Shape.obF, Shape.obT, Shape.arI, Arr.inF] | omega)) only [S2, Nat.reduceEqDiff, Nat.reduceAdd, iput, puts, SU f, hlt] | (refine den_call rfl (by first | (simp only [SS, Nat.reduceEqDiff, Nat.reduceAdd, iput, puts, FF, frzL_cat, frzL_fu, frzL_fn0]; done) | (simp only [SS, Nat.reduceEqDiff, Nat.reduceAdd, iput, puts, FF, frzL_cat, frzL_fu, frzL_fn0]; rfl)) (by first | exact s.l05Mono_fz hm i ia.1 ia.2) ?_))
    refine ⟨fun h1 => ?_, fun h1 => up rfl hlt fun k hk hk2 => ?_⟩
    · repeat (first | simp (disch := (first | rfl | with_reducible assumption | with_reducible solve_by_elim (maxDepth := 8) [Shape.inT, Shape.inI, Shape.inC, Shape.inK, Shape.obF, Shape.obT, Shape.arI, Arr.inF] | omega)) only [S2, Nat.reduceEqDiff, Nat.reduceAdd, iput, puts, SU f] | (refine den_call rfl (by first | (simp only [SS, Nat.reduceEqDiff, Nat.reduceAdd, iput, puts, FF, frzL_cat, frzL_fu, frzL_fn0]; done) | (simp only [SS, Nat.reduceEqDiff, Nat.reduceAdd, iput, puts, FF, frzL_cat, frzL_fu, frzL_fn0]; rfl)) (by first | exact t.l05Mono_fz hm (f.A i) ta.1 ta.2) ?_))
      refine ⟨fun h2 => ?_, fun h2 => up rfl hlt fun k hk hk2 => ?_⟩
      · exact ⟨_, rfl, H, fun _ _ h => h, ask_f u (fun q => h2 (q i hlt h1)), rfl, Nat.le_refl _⟩
      · by_cases e : k = i
        · subst e; exact h2
        · exact hp k (by omega) hk2
    · by_cases e : k = i
      · subst e; exact absurd hk2 h1
      · exact hp k (by omega) hk2
  · try simp (disch := (first | rfl | with_reducible assumption | with_reducible solve_by_elim (maxDepth := 8) [Shape.inT, Shape.inI, Shape.inC, Shape.inK, Shape.obF, Shape.obT, Shape.arI, Arr.inF] | omega)) only [S2, Nat.reduceEqDiff, Nat.reduceAdd, iput, puts, SU f, hlt]
    exact ⟨_, rfl, H, fun _ _ h => h, ask_t u (fun a ha => hp a (by omega)), rfl, Nat.le_refl _⟩
theorem KeepsMonos_both (K : HFun P ν) (ha : Has P ν 297 2 V_asked) (hh : Has P ν 33 3 V_Category_hom) (M : HMono P ν) (hf : Has P ν 326 1 V_KeepsMonos_1) (h : Has P ν 180 1 V_KeepsMonos) (KS : HSpecU P ν) (hm : Has P ν 287 2 V_spec_l05Mono) (h' : Has P ν 179 1 V_spec_KeepsMonos) (f : Fu) (b : SmallU f) :
    ∃ (a : Bool) (k : Int), Fz (OkM P ν) 180 [.agg f.cells] (.tup [bool a, int k]) ∧ Fz (OkM P ν) 179 [.agg f.cells] (.tup [bool a, int k]) :=
  ⟨_, _, KeepsMonos_fz K ha hh M hf h f b, sKeepsMonos_fz KS hm h' f b⟩

def Conserv (f : Fu) : Prop := ∀ a : Nat, a < f.ar.length → 0 ≤ inv f.t (f.A a) → 0 ≤ inv f.s a
def V_IsConservative_1 : Vc :=
  .op true (.p .nck [.t 0]) <|
  .op true (.p (.fad 11) [.t 1]) <|
  .op true (.p (.ld none) [.t 2]) <|
  .op true (.p .len [.t 3]) <|
  .loop 0 [.c (int 0)] <|
  .op true (.p (.bin .lss) [.t 5, .t 4]) <|
  .br 6
   (.op true (.p (.iad 1) [.t 3, .t 5]) <|
   .op true (.p (.ld none) [.t 7]) <|
   .op true (.p .nck [.t 0]) <|
   .op true (.p (.fad 5) [.t 9]) <|
   .op true (.call (.f 240) [.t 10, .t 8]) <|
   .op true (.p (.bin .geq) [.t 11, .c (int 0)]) <|
   .br 12
    (.op true (.p .nck [.t 0]) <|
    .op true (.p (.fad 0) [.t 13]) <|
    .op true (.call (.f 240) [.t 14, .t 5]) <|
    .op true (.p (.bin .lss) [.t 15, .c (int 0)]) <|
    .br 16
     (.ret [(.c (bool false), none)])
     (.op true (.p (.bin .add) [.t 5, .c (int 1)]) <|
     .again 0 [.t 17]))
    (.op true (.p (.bin .add) [.t 5, .c (int 1)]) <|
    .again 0 [.t 13]))
   (.ret [(.c (bool true), none)])
theorem IsConservative1_fz (K : HFun P ν) (hh : Has P ν 33 3 V_Category_hom) (hv : Has P ν 240 2 V_Category_inverse) (h : Has P ν 333 1 V_IsConservative_1) (f : Fu) (u : IsFu f) (b : SmallU f) : Fz (OkM P ν) 333 [.ptr f.cells 0] (bool (decide (Conserv f))) := by
  refine Fn.fzb fun H nx => h _ _ _ _ rfl fun hwf => ?_
  unfold V_IsConservative_1
  have s := u.s.1
  have t := u.t.1
  have m := u.m
  have ba := b.ar
  have al := m.al
  try simp (disch := (first | rfl | with_reducible assumption | with_reducible solve_by_elim (maxDepth := 8) [Shape.inT, Shape.inI, Shape.inC, Shape.inK, Shape.obF, Shape.obT, Shape.arI, Arr.inF] | omega)) only [S2, Nat.reduceEqDiff, Nat.reduceAdd, iput, puts, SU f]
  refine den_for f.ar.length (fun i => ∀ a : Nat, a < i → 0 ≤ inv f.t (f.A a) → 0 ≤ inv f.s a) (fun x hx => by omega) fun i hi hp => ?_
  by_cases hlt : i < f.ar.length
  · have ia : Arr f.s i := ⟨by omega, by omega⟩
    have ii := m.inA ia
    have ta := m.arA ia
    repeat (first | simp (disch := (first | rfl | with_reducible assumption | with_reducible solve_by_elim (maxDepth := 8) [Shape.inT, Shape.inI, Shape.inC, Shape.inK, Shape.obF, Shape.obT, Shape.arI, Arr.inF] | omega)) only [S2, Nat.reduceEqDiff, Nat.reduceAdd, iput, puts, SU f, hlt] | (refine den_call rfl (by first | (simp only [SS, Nat.reduceEqDiff, Nat.reduceAdd, iput, puts, FF, frzL_cat, frzL_fu, frzL_fn0]; done) | (simp only [SS, Nat.reduceEqDiff, Nat.reduceAdd, iput, puts, FF, frzL_cat, frzL_fu, frzL_fn0]; rfl)) (by first | exact Fu.winT (inverse_ok hh K.thn hv f.t t (f.A i) ta.1 ta.2).fzi) ?_))
    refine ⟨fun h1 => ?_, fun h1 => up rfl hlt fun k hk hk2 => ?_⟩
    · repeat (first | simp (disch := (first | rfl | with_reducible assumption | with_reducible solve_by_elim (maxDepth := 8) [Shape.inT, Shape.inI, Shape.inC, Shape.inK, Shape.obF, Shape.obT, Shape.arI, Arr.inF] | omega)) only [S2, Nat.reduceEqDiff, Nat.reduceAdd, iput, puts, SU f] | (refine den_call rfl (by first | (simp only [SS, Nat.reduceEqDiff, Nat.reduceAdd, iput, puts, FF, frzL_cat, frzL_fu, frzL_fn0]; done) | (simp only [SS, Nat.reduceEqDiff, Nat.reduceAdd, iput, puts, FF, frzL_cat, frzL_fu, frzL_fn0]; rfl)) (by first | exact Fu.winS (inverse_ok hh K.thn hv f.s s i ia.1 ia.2).fzi) ?_))
      refine ⟨fun h2 => ?_, fun h2 => up rfl hlt fun k hk hk2 => ?_⟩
      · exact ⟨_, rfl, H, fun _ _ h => h, ret_false (fun q => absurd h2 (Int.not_lt.2 (q i hlt h1))), rfl, Nat.le_refl _⟩
      · by_cases e : k = i
        · subst e; exact Int.not_lt.1 h2
        · exact hp k (by omega) hk2
    · by_cases e : k = i
      · subst e; exact absurd hk2 h1
      · exact hp k (by omega) hk2
  · try simp (disch := (first | rfl | with_reducible assumption | with_reducible solve_by_elim (maxDepth := 8) [Shape.inT, Shape.inI, Shape.inC, Shape.inK, Shape.obF, Shape.obT, Shape.arI, Arr.inF] | omega)) only [S2, Nat.reduceEqDiff, Nat.reduceAdd, iput, puts, hlt]
    exact ⟨_, rfl, H, fun _ _ h => h, ret_true (fun a ha => hp a (by omega)), rfl, Nat.le_refl _⟩
def V_IsConservative : Vc :=
  .op true (.p .box [.t 0]) <|
  .op true (.call (.f 297) [.t 1, .f 333]) <|
  .op true (.p (.ext 0) [.t 2]) <|
  .op true (.p (.ext 1) [.t 2]) <|
  .ret [(.t 3, none), (.t 4, none)]
theorem IsConservative_fz (K : HFun P ν) (ha : Has P ν 297 2 V_asked) (hh : Has P ν 33 3 V_Category_hom) (hv : Has P ν 240 2 V_Category_inverse) (hf : Has P ν 333 1 V_IsConservative_1) (h : Has P ν 189 1 V_IsConservative) (f : Fu) (b : SmallU f) : Fz (OkM P ν) 189 [.agg f.cells] (askV f (Conserv f)) := by
  refine Fn.fz (fun H nx => h _ _ _ _ rfl fun hwf => ?_) ask_frz
  unfold V_IsConservative
  repeat (first | simp (disch := (first | rfl | with_reducible assumption | with_reducible solve_by_elim (maxDepth := 8) [Shape.inT, Shape.inI, Shape.inC, Shape.inK, Shape.obF, Shape.obT, Shape.arI, Arr.inF] | omega)) only [S2, Nat.reduceEqDiff, Nat.reduceAdd, iput, puts, SU f, ext0, ext1] | (refine den_call rfl (by first | (simp only [SS, Nat.reduceEqDiff, Nat.reduceAdd, iput, puts, FF, frzL_cat, frzL_fu, frzL_fn0]; done) | (simp only [SS, Nat.reduceEqDiff, Nat.reduceAdd, iput, puts, FF, frzL_cat, frzL_fu, frzL_fn0]; rfl)) (by first | exact asked_fz K ha f b _ (Conserv f) fun u => IsConservative1_fz K hh hv hf f u b) ?_))
  exact ⟨_, rfl, H, fun _ _ h => h, rfl, rfl, Nat.le_refl _⟩
def V_spec_IsConservative : Vc :=
  .op true (.p .box [.t 0]) <|
  .op true (.p (.ld (some 12)) [.t 1]) <|
  .op true (.call (.f 256) [.t 2]) <|
  .op true (.p .bnot [.t 3]) <|
  .br 4
   (.ret [(.c (bool false), none), (.c (int 1), none)])
   (.loop 0 [.c (int 0)] <|
   .op true (.p (.fad 11) [.t 1]) <|
   .op true (.p (.ld none) [.t 6]) <|
   .op true (.p .len [.t 7]) <|
   .op true (.p (.bin .lss) [.t 5, .t 8]) <|
   .br 9
    (.op true (.p (.fad 5) [.t 1]) <|
    .op true (.p (.ld (some 5)) [.t 10]) <|
    .op true (.p (.fad 11) [.t 1]) <|
    .op true (.p (.ld none) [.t 12]) <|
    .op true (.p (.iad 1) [.t 13, .t 5]) <|
    .op true (.p (.ld none) [.t 14]) <|
    .op true (.call (.f 239) [.t 11, .t 15]) <|
    .op true (.p (.bin .geq) [.t 16, .c (int 0)]) <|
    .br 17
     (.op true (.p (.fad 0) [.t 1]) <|
     .op true (.p (.ld (some 5)) [.t 18]) <|
     .op true (.call (.f 239) [.t 19, .t 5]) <|
     .op true (.p (.bin .lss) [.t 20, .c (int 0)]) <|
     .br 21
      (.ret [(.c (bool false), none), (.c (int 0), none)])
      (.op true (.p (.bin .add) [.t 5, .c (int 1)]) <|
      .again 0 [.t 22]))
     (.op true (.p (.bin .add) [.t 5, .c (int 1)]) <|
     .again 0 [.t 18]))
    (.ret [(.c (bool true), none), (.c (int 0), none)]))
theorem sIsConservative_fz (K : HSpecU P ν) (hr : Has P ν 237 2 V_spec_l05Retractions) (hse : Has P ν 15 2 V_spec_l05Sections) (hha : Has P ν 262 2 V_spec_l01Has) (hin : Has P ν 239 2 V_spec_l05Inverse) (h : Has P ν 188 1 V_spec_IsConservative) (f : Fu) (b : SmallU f) : Fz (OkM P ν) 188 [.agg f.cells] (askV f (Conserv f)) := by
  refine Fn.fz (fun H nx => h _ _ _ _ rfl fun hwf => ?_) ask_frz
  unfold V_spec_IsConservative
  repeat (first | simp (disch := (first | rfl | with_reducible assumption | with_reducible solve_by_elim (maxDepth := 8) [Shape.inT, Shape.inI, Shape.inC, Shape.inK, Shape.obF, Shape.obT, Shape.arI, Arr.inF] | omega)) only [S2, Nat.reduceEqDiff, Nat.reduceAdd, iput, puts, SU f] | (refine den_call rfl (by first | (simp only [SS, Nat.reduceEqDiff, Nat.reduceAdd, iput, puts, FF, frzL_cat, frzL_fu, frzL_fn0]; done) | (simp only [SS, Nat.reduceEqDiff, Nat.reduceAdd, iput, puts, FF, frzL_cat, frzL_fu, frzL_fn0]; rfl)) (by first | exact l06Is_fz K f b) ?_))
  refine ⟨fun h1 => ?_, fun u => ?_⟩
  · exact ⟨_, rfl, H, fun _ _ h => h, ask_no h1, rfl, Nat.le_refl _⟩
  have s := u.s.1
  have t := u.t.1
  have m := u.m
  have ba := b.ar
  have al := m.al
  try simp (disch := (first | rfl | with_reducible assumption | with_reducible solve_by_elim (maxDepth := 8) [Shape.inT, Shape.inI, Shape.inC, Shape.inK, Shape.obF, Shape.obT, Shape.arI, Arr.inF] | omega)) only [S2, Nat.reduceEqDiff, Nat.reduceAdd, iput, puts, SU f]
  refine den_for f.ar.length (fun i => ∀ a : Nat, a < i → 0 ≤ inv f.t (f.A a) → 0 ≤ inv f.s a) (fun x hx => by omega) fun i hi hp => ?_
  by_cases hlt : i < f.ar.length
  · have ia : Arr f.s i := ⟨by omega, by omega⟩
    have ii := m.inA ia
    have ta := m.arA ia
    repeat (first | simp (disch := (first | rfl | with_reducible assumption | with_reducible solve_by_elim (maxDepth := 8) [Shape.inT, Shape.inI, Shape.inC, Shape.inK, Shape.obF, Shape.obT, Shape.arI, Arr.inF] | omega)) only [S2, Nat.reduceEqDiff, Nat.reduceAdd, iput, puts, SU f, hlt] | (refine den_call rfl (by first | (simp only [SS, Nat.reduceEqDiff, Nat.reduceAdd, iput, puts, FF, frzL_cat, frzL_fu, frzL_fn0]; done) | (simp only [SS, Nat.reduceEqDiff, Nat.reduceAdd, iput, puts, FF, frzL_cat, frzL_fu, frzL_fn0]; rfl)) (by first | exact (l05Inverse_ok hr hse hha hin f.t t (f.A i) ta.1 ta.2).fzi) ?_))
    refine ⟨fun h1 => ?_, fun h1 => up rfl hlt fun k hk hk2 => ?_⟩
    · repeat (first | simp (disch := (first | rfl | with_reducible assumption | with_reducible solve_by_elim (maxDepth := 8) [Shape.inT, Shape.inI, Shape.inC, Shape.inK, Shape.obF, Shape.obT, Shape.arI, Arr.inF] | omega)) only [S2, Nat.reduceEqDiff, Nat.reduceAdd, iput, puts, SU f] | (refine den_call rfl (by first | (simp only [SS, Nat.reduceEqDiff, Nat.reduceAdd, iput, puts, FF, frzL_cat, frzL_fu, frzL_fn0]; done) | (simp only [SS, Nat.reduceEqDiff, Nat.reduceAdd, iput, puts, FF, frzL_cat, frzL_fu, frzL_fn0]; rfl)) (by first | exact (l05Inverse_ok hr hse hha hin f.s s i ia.1 ia.2).fzi) ?_))
      refine ⟨fun h2 => ?_, fun h2 => up rfl hlt fun k hk hk2 => ?_⟩
      · exact ⟨_, rfl, H, fun _ _ h => h, ask_f u (fun q => absurd h2 (Int.not_lt.2 (q i hlt h1))), rfl, Nat.le_refl _⟩
      · by_cases e : k = i
        · subst e; exact Int.not_lt.1 h2
        · exact hp k (by omega) hk2
    · by_cases e : k = i
      · subst e; exact absurd hk2 h1
      · exact hp k (by omega) hk2
  · try simp (disch := (first | rfl | with_reducible assumption | with_reducible solve_by_elim (maxDepth := 8) [Shape.inT, Shape.inI, Shape.inC, Shape.inK, Shape.obF, Shape.obT, Shape.arI, Arr.inF] | omega)) only [S2, Nat.reduceEqDiff, Nat.reduceAdd, iput, puts, SU f, hlt]
    exact ⟨_, rfl, H, fun _ _ h => h, ask_t u (fun a ha => hp a (by omega)), rfl, Nat.le_refl _⟩
theorem IsConservative_both (K : HFun P ν) (ha : Has P ν 297 2 V_asked) (hh : Has P ν 33 3 V_Category_hom) (hv : Has P ν 240 2 V_Category_inverse) (hf : Has P ν 333 1 V_IsConservative_1) (h : Has P ν 189 1 V_IsConservative) (KS : HSpecU P ν) (hr : Has P ν 237 2 V_spec_l05Retractions) (hse : Has P ν 15 2 V_spec_l05Sections) (hha : Has P ν 262 2 V_spec_l01Has) (hin : Has P ν 239 2 V_spec_l05Inverse) (h' : Has P ν 188 1 V_spec_IsConservative) (f : Fu) (b : SmallU f) :
    ∃ (a : Bool) (k : Int), Fz (OkM P ν) 189 [.agg f.cells] (.tup [bool a, int k]) ∧ Fz (OkM P ν) 188 [.agg f.cells] (.tup [bool a, int k]) :=
  ⟨_, _, IsConservative_fz K ha hh hv hf h f b, sIsConservative_fz KS hr hse hha hin h' f b⟩

end Go.Av
