/-
  IsFull.
-/
import Derived.Test.YtbgaobcgpkjjkaaAvD6
import Derived.Test.YtbgaobcgpkjjkaaAvM2
namespace Go.Av
open Classical
set_option linter.unusedSimpArgs false
set_option linter.unusedVariables false
variable {P : Program} {ν : Nat → FuncId}

def FullAt (f : Fu) (x y : Int) : Prop := ∀ b ∈ homL f.t (f.O x) (f.O y), b ∈ (homL f.s x y).map (gI f.ar)
def Full (f : Fu) : Prop := ∀ x y : Int, Ob f.s x → Ob f.s y → FullAt f x y

def V_Functor_isFull : Vc :=
  .op true (.p .nck [.t 0]) <|
  .op true (.p (.fad 0) [.t 1]) <|
  .loop 0 [.c (int 0)] <|
  .op true (.p .nck [.t 2]) <|
  .op true (.p (.fad 0) [.t 4]) <|
  .op true (.p (.ld none) [.t 5]) <|
  .op true (.p (.bin .lss) [.t 3, .t 6]) <|
  .br 7
   (.loop 1 [.c (int 0)] <|
   .op true (.p .nck [.t 2]) <|
   .op true (.p (.fad 0) [.t 9]) <|
   .op true (.p (.ld none) [.t 10]) <|
   .op true (.p (.bin .lss) [.t 8, .t 11]) <|
   .br 12
    (.op true (.call (.f 33) [.t 2, .t 3, .t 8]) <|
    .op true (.p .nck [.t 0]) <|
    .op true (.p (.fad 11) [.t 14]) <|
    .op true (.p (.ld none) [.t 15]) <|
    .op true (.call (.f 412) [.t 13, .t 16]) <|
    .op true (.p .nck [.t 0]) <|
    .op true (.p (.fad 5) [.t 18]) <|
    .op true (.p .nck [.t 0]) <|
    .op true (.p (.fad 10) [.t 20]) <|
    .op true (.p (.ld none) [.t 21]) <|
    .op true (.p (.iad 1) [.t 22, .t 3]) <|
    .op true (.p (.ld none) [.t 23]) <|
    .op true (.p .nck [.t 0]) <|
    .op true (.p (.fad 10) [.t 25]) <|
    .op true (.p (.ld none) [.t 26]) <|
    .op true (.p (.iad 1) [.t 27, .t 8]) <|
    .op true (.p (.ld none) [.t 28]) <|
    .op true (.call (.f 33) [.t 19, .t 24, .t 29]) <|
    .op true (.p .len [.t 30]) <|
    .loop 2 [.c (int 0)] <|
    .op true (.p (.bin .lss) [.t 32, .t 31]) <|
    .br 33
     (.op true (.p (.iad 1) [.t 30, .t 32]) <|
     .op true (.p (.ld none) [.t 34]) <|
     .op true (.call (.f 413) [.t 17, .t 35]) <|
     .op true (.p .bnot [.t 36]) <|
     .br 37
      (.ret [(.c (bool false), none)])
      (.op true (.p (.bin .add) [.t 32, .c (int 1)]) <|
      .again 2 [.t 38]))
     (.op true (.p (.bin .add) [.t 8, .c (int 1)]) <|
     .again 1 [.t 34]))
    (.op true (.p (.bin .add) [.t 3, .c (int 1)]) <|
    .again 0 [.t 13]))
   (.ret [(.c (bool true), none)])
set_option maxHeartbeats 1000000 in
theorem isFull_fz (hh : Has P ν 33 3 V_Category_hom) (hth : Has P ν 412 2 V_then) (hha : Has P ν 413 2 V_has) (h : Has P ν 339 1 V_Functor_isFull) (f : Fu) (u : IsFu f) (b : SmallU f) : Fz (OkM P ν) 339 [.ptr f.cells 0] (bool (decide (Full f))) := by
  refine Fn.fzb fun H nx => h _ _ _ _ rfl fun hwf => ?_
  unfold V_Functor_isFull
  have s := u.s.1
  have t := u.t.1
  have m := u.m
  have o0 := s.o0
  have o8 := s.o8
  have s40 := s.n40
  have al := m.al
  try simp (disch := (first | rfl | with_reducible assumption | with_reducible solve_by_elim (maxDepth := 8) [Shape.inT, Shape.inI, Shape.inC, Shape.inK, Shape.obF, Shape.obT, Shape.arI, Arr.inF] | omega)) only [S2, Nat.reduceEqDiff, Nat.reduceAdd, iput, puts, SU f]
  refine den_for f.s.o.toNat (fun i => ∀ x y : Int, Ob f.s x → x < i → Ob f.s y → FullAt f x y) (fun x y hx hx2 => by have := hx.1; omega) fun i hi hp => ?_
  by_cases hlt : (i : Int) < f.s.o
  · have io : Ob f.s i := ⟨by omega, hlt⟩
    have iO := m.inO io
    try simp (disch := (first | rfl | with_reducible assumption | with_reducible solve_by_elim (maxDepth := 8) [Shape.inT, Shape.inI, Shape.inC, Shape.inK, Shape.obF, Shape.obT, Shape.arI, Arr.inF] | omega)) only [S2, Nat.reduceEqDiff, Nat.reduceAdd, iput, puts, SU f, hlt]
    refine den_for f.s.o.toNat (fun j => ∀ y : Int, Ob f.s y → y < j → FullAt f i y) (fun y hy hy2 => by have := hy.1; omega) fun j hj hq => ?_
    by_cases hlt2 : (j : Int) < f.s.o
    · have jo : Ob f.s j := ⟨by omega, hlt2⟩
      have jO := m.inO jo
      have hl1 := homL_len s i j
      have hl2 := homL_len t (f.O i) (f.O j)
      have hin : ∀ k, k < (homL f.s i j).length → In f.ar ((homL f.s i j).getD k 0) := fun k hk => m.inA (hom_arr hk)
      repeat (first | simp (disch := (first | rfl | with_reducible assumption | with_reducible solve_by_elim (maxDepth := 8) [Shape.inT, Shape.inI, Shape.inC, Shape.inK, Shape.obF, Shape.obT, Shape.arI, Arr.inF] | omega)) only [S2, Nat.reduceEqDiff, Nat.reduceAdd, iput, puts, SU f, hlt2] | (refine den_call rfl (by first | (simp only [SS, Nat.reduceEqDiff, Nat.reduceAdd, iput, puts, FF, frzL_cat, frzL_fu, frzL_fn0]; done) | (simp only [SS, Nat.reduceEqDiff, Nat.reduceAdd, iput, puts, FF, frzL_cat, frzL_fu, frzL_fn0]; rfl)) (by first | exact Fu.winS (s.homFz hh i j) | exact thn_fz hth (homL f.s i j) f.ar (by omega) hin | exact Fu.winT (t.homFz hh (f.O i) (f.O j))) ?_))
      refine den_for (homL f.t (f.O i) (f.O j)).length (fun k => ∀ z, z < k → (homL f.t (f.O i) (f.O j)).getD z 0 ∈ (homL f.s i j).map (gI f.ar)) (fun z hz => by omega) fun k hk hr => ?_
      by_cases hlt3 : k < (homL f.t (f.O i) (f.O j)).length
      · have i1 : In (homL f.t (f.O i) (f.O j)) (k : Int) := In.nat hlt3
        repeat (first | simp (disch := (first | rfl | with_reducible assumption | with_reducible solve_by_elim (maxDepth := 8) [Shape.inT, Shape.inI, Shape.inC, Shape.inK, Shape.obF, Shape.obT, Shape.arI, Arr.inF] | omega)) only [S2, Nat.reduceEqDiff, Nat.reduceAdd, iput, puts, SU f, hlt3, gI_nat] | (refine den_call rfl (by first | (simp only [SS, Nat.reduceEqDiff, Nat.reduceAdd, iput, puts, FF, frzL_cat, frzL_fu, frzL_fn0]; done) | (simp only [SS, Nat.reduceEqDiff, Nat.reduceAdd, iput, puts, FF, frzL_cat, frzL_fu, frzL_fn0]; rfl)) (by first | exact has_fz hha ((homL f.s i j).map (gI f.ar)) ((homL f.t (f.O i) (f.O j)).getD k 0) (by simp; omega)) ?_))
        refine ⟨fun h1 => ?_, fun h1 => up rfl hlt3 fun z hz => ?_⟩
        · exact ⟨_, rfl, H, fun _ _ h => h, ret_false (fun hf => h1 (hf i j io jo _ (getD_mem hlt3))), rfl, Nat.le_refl _⟩
        · by_cases e : z = k
          · subst e; exact h1
          · exact hr z (by omega)
      · try simp (disch := (first | rfl | with_reducible assumption | with_reducible solve_by_elim (maxDepth := 8) [Shape.inT, Shape.inI, Shape.inC, Shape.inK, Shape.obF, Shape.obT, Shape.arI, Arr.inF] | omega)) only [S2, Nat.reduceEqDiff, Nat.reduceAdd, iput, puts, SU f, hlt3]
        refine up rfl (by omega) fun y hy hy2 => ?_
        by_cases e : y = j
        · subst e
          intro b hb
          obtain ⟨k', hk', e'⟩ := List.getElem_of_mem hb
          have := hr k' (by omega)
          simpa [hk', e'] using this
        · exact hq y hy (by omega)
    · try simp (disch := (first | rfl | with_reducible assumption | with_reducible solve_by_elim (maxDepth := 8) [Shape.inT, Shape.inI, Shape.inC, Shape.inK, Shape.obF, Shape.obT, Shape.arI, Arr.inF] | omega)) only [S2, Nat.reduceEqDiff, Nat.reduceAdd, iput, puts, SU f, hlt2]
      refine up rfl (by omega) fun x y hx hx2 hy => ?_
      by_cases e : x = i
      · subst e; exact hq y hy (by have := hy.2; omega)
      · exact hp x y hx (by omega) hy
  · try simp (disch := (first | rfl | with_reducible assumption | with_reducible solve_by_elim (maxDepth := 8) [Shape.inT, Shape.inI, Shape.inC, Shape.inK, Shape.obF, Shape.obT, Shape.arI, Arr.inF] | omega)) only [S2, Nat.reduceEqDiff, Nat.reduceAdd, iput, puts, SU f, hlt]
    exact ⟨_, rfl, H, fun _ _ h => h, ret_true (fun x y hx hy => hp x y hx (by have := hx.2; omega) hy), rfl, Nat.le_refl _⟩
def V_IsFull : Vc :=
  .op true (.p .box [.t 0]) <|
  .op true (.call (.f 297) [.t 1, .f 339]) <|
  .op true (.p (.ext 0) [.t 2]) <|
  .op true (.p (.ext 1) [.t 2]) <|
  .ret [(.t 3, none), (.t 4, none)]
theorem IsFull_fz (K : HFun P ν) (ha : Has P ν 297 2 V_asked) (hh : Has P ν 33 3 V_Category_hom) (hth : Has P ν 412 2 V_then) (hha : Has P ν 413 2 V_has) (hf : Has P ν 339 1 V_Functor_isFull) (h : Has P ν 197 1 V_IsFull) (f : Fu) (b : SmallU f) : Fz (OkM P ν) 197 [.agg f.cells] (askV f (Full f)) := by
  refine Fn.fz (fun H nx => h _ _ _ _ rfl fun hwf => ?_) ask_frz
  unfold V_IsFull
  repeat (first | simp (disch := (first | rfl | with_reducible assumption | with_reducible solve_by_elim (maxDepth := 8) [Shape.inT, Shape.inI, Shape.inC, Shape.inK, Shape.obF, Shape.obT, Shape.arI, Arr.inF] | omega)) only [S2, Nat.reduceEqDiff, Nat.reduceAdd, iput, puts, SU f, ext0, ext1] | (refine den_call rfl (by first | (simp only [SS, Nat.reduceEqDiff, Nat.reduceAdd, iput, puts, FF, frzL_cat, frzL_fu, frzL_fn0]; done) | (simp only [SS, Nat.reduceEqDiff, Nat.reduceAdd, iput, puts, FF, frzL_cat, frzL_fu, frzL_fn0]; rfl)) (by first | exact asked_fz K ha f b _ (Full f) fun u => isFull_fz hh hth hha hf f u b) ?_))
  exact ⟨_, rfl, H, fun _ _ h => h, rfl, rfl, Nat.le_refl _⟩

def V_spec_l06Full : Vc :=
  .op true (.p .box [.t 0]) <|
  .loop 0 [.c (int 0)] <|
  .op true (.p (.fad 0) [.t 1]) <|
  .op true (.p (.fad 0) [.t 3]) <|
  .op true (.p (.ld none) [.t 4]) <|
  .op true (.p (.bin .lss) [.t 2, .t 5]) <|
  .br 6
   (.loop 1 [.c (int 0)] <|
   .op true (.p (.fad 0) [.t 1]) <|
   .op true (.p (.fad 0) [.t 8]) <|
   .op true (.p (.ld none) [.t 9]) <|
   .op true (.p (.bin .lss) [.t 7, .t 10]) <|
   .br 11
    (.op true (.p (.fad 0) [.t 1]) <|
    .op true (.p (.ld (some 5)) [.t 12]) <|
    .op true (.call (.f 309) [.t 13, .t 2, .t 7]) <|
    .op true (.p (.fad 11) [.t 1]) <|
    .op true (.p (.ld none) [.t 15]) <|
    .op true (.call (.f 411) [.t 14, .t 16]) <|
    .op true (.p (.fad 5) [.t 1]) <|
    .op true (.p (.ld (some 5)) [.t 18]) <|
    .op true (.p (.fad 10) [.t 1]) <|
    .op true (.p (.ld none) [.t 20]) <|
    .op true (.p (.iad 1) [.t 21, .t 2]) <|
    .op true (.p (.ld none) [.t 22]) <|
    .op true (.p (.fad 10) [.t 1]) <|
    .op true (.p (.ld none) [.t 24]) <|
    .op true (.p (.iad 1) [.t 25, .t 7]) <|
    .op true (.p (.ld none) [.t 26]) <|
    .op true (.call (.f 309) [.t 19, .t 23, .t 27]) <|
    .loop 2 [.c (int 0)] <|
    .op true (.p .len [.t 28]) <|
    .op true (.p (.bin .lss) [.t 29, .t 30]) <|
    .br 31
     (.op true (.p (.iad 1) [.t 28, .t 29]) <|
     .op true (.p (.ld none) [.t 32]) <|
     .op true (.call (.f 262) [.t 17, .t 33]) <|
     .op true (.p .bnot [.t 34]) <|
     .br 35
      (.ret [(.c (bool false), none)])
      (.op true (.p (.bin .add) [.t 29, .c (int 1)]) <|
      .again 2 [.t 36]))
     (.op true (.p (.bin .add) [.t 7, .c (int 1)]) <|
     .again 1 [.t 32]))
    (.op true (.p (.bin .add) [.t 2, .c (int 1)]) <|
    .again 0 [.t 12]))
   (.ret [(.c (bool true), none)])
set_option maxHeartbeats 1000000 in
theorem l06Full_fz (hh : Has P ν 309 3 V_spec_l02Hom) (hth : Has P ν 411 2 V_spec_l01Then) (hha : Has P ν 262 2 V_spec_l01Has) (h : Has P ν 338 1 V_spec_l06Full) (f : Fu) (u : IsFu f) (b : SmallU f) : Fz (OkM P ν) 338 [.agg f.cells] (bool (decide (Full f))) := by
  refine Fn.fzb fun H nx => h _ _ _ _ rfl fun hwf => ?_
  unfold V_spec_l06Full
  have s := u.s.1
  have t := u.t.1
  have m := u.m
  have o0 := s.o0
  have o8 := s.o8
  have s40 := s.n40
  have al := m.al
  try simp (disch := (first | rfl | with_reducible assumption | with_reducible solve_by_elim (maxDepth := 8) [Shape.inT, Shape.inI, Shape.inC, Shape.inK, Shape.obF, Shape.obT, Shape.arI, Arr.inF] | omega)) only [S2, Nat.reduceEqDiff, Nat.reduceAdd, iput, puts, SU f]
  refine den_for f.s.o.toNat (fun i => ∀ x y : Int, Ob f.s x → x < i → Ob f.s y → FullAt f x y) (fun x y hx hx2 => by have := hx.1; omega) fun i hi hp => ?_
  by_cases hlt : (i : Int) < f.s.o
  · have io : Ob f.s i := ⟨by omega, hlt⟩
    have iO := m.inO io
    try simp (disch := (first | rfl | with_reducible assumption | with_reducible solve_by_elim (maxDepth := 8) [Shape.inT, Shape.inI, Shape.inC, Shape.inK, Shape.obF, Shape.obT, Shape.arI, Arr.inF] | omega)) only [S2, Nat.reduceEqDiff, Nat.reduceAdd, iput, puts, SU f, hlt]
    refine den_for f.s.o.toNat (fun j => ∀ y : Int, Ob f.s y → y < j → FullAt f i y) (fun y hy hy2 => by have := hy.1; omega) fun j hj hq => ?_
    by_cases hlt2 : (j : Int) < f.s.o
    · have jo : Ob f.s j := ⟨by omega, hlt2⟩
      have jO := m.inO jo
      have hl1 := homL_len s i j
      have hl2 := homL_len t (f.O i) (f.O j)
      have hin : ∀ k, k < (homL f.s i j).length → In f.ar ((homL f.s i j).getD k 0) := fun k hk => m.inA (hom_arr hk)
      repeat (first | simp (disch := (first | rfl | with_reducible assumption | with_reducible solve_by_elim (maxDepth := 8) [Shape.inT, Shape.inI, Shape.inC, Shape.inK, Shape.obF, Shape.obT, Shape.arI, Arr.inF] | omega)) only [S2, Nat.reduceEqDiff, Nat.reduceAdd, iput, puts, SU f, hlt2] | (refine den_call rfl (by first | (simp only [SS, Nat.reduceEqDiff, Nat.reduceAdd, iput, puts, FF, frzL_cat, frzL_fu, frzL_fn0]; done) | (simp only [SS, Nat.reduceEqDiff, Nat.reduceAdd, iput, puts, FF, frzL_cat, frzL_fu, frzL_fn0]; rfl)) (by first | exact s.sHomFz hh i j | exact l01Then_fz hth (homL f.s i j) f.ar (by omega) hin | exact t.sHomFz hh (f.O i) (f.O j)) ?_))
      refine den_for (homL f.t (f.O i) (f.O j)).length (fun k => ∀ z, z < k → (homL f.t (f.O i) (f.O j)).getD z 0 ∈ (homL f.s i j).map (gI f.ar)) (fun z hz => by omega) fun k hk hr => ?_
      by_cases hlt3 : k < (homL f.t (f.O i) (f.O j)).length
      · have i1 : In (homL f.t (f.O i) (f.O j)) (k : Int) := In.nat hlt3
        repeat (first | simp (disch := (first | rfl | with_reducible assumption | with_reducible solve_by_elim (maxDepth := 8) [Shape.inT, Shape.inI, Shape.inC, Shape.inK, Shape.obF, Shape.obT, Shape.arI, Arr.inF] | omega)) only [S2, Nat.reduceEqDiff, Nat.reduceAdd, iput, puts, SU f, hlt3, gI_nat] | (refine den_call rfl (by first | (simp only [SS, Nat.reduceEqDiff, Nat.reduceAdd, iput, puts, FF, frzL_cat, frzL_fu, frzL_fn0]; done) | (simp only [SS, Nat.reduceEqDiff, Nat.reduceAdd, iput, puts, FF, frzL_cat, frzL_fu, frzL_fn0]; rfl)) (by first | exact (l01Has_ok hha ((homL f.s i j).map (gI f.ar)) ((homL f.t (f.O i) (f.O j)).getD k 0) (by simp; omega)).fzb) ?_))
        refine ⟨fun h1 => ?_, fun h1 => up rfl hlt3 fun z hz => ?_⟩
        · exact ⟨_, rfl, H, fun _ _ h => h, ret_false (fun hf => h1 (hf i j io jo _ (getD_mem hlt3))), rfl, Nat.le_refl _⟩
        · by_cases e : z = k
          · subst e; exact h1
          · exact hr z (by omega)
      · try simp (disch := (first | rfl | with_reducible assumption | with_reducible solve_by_elim (maxDepth := 8) [Shape.inT, Shape.inI, Shape.inC, Shape.inK, Shape.obF, Shape.obT, Shape.arI, Arr.inF] | omega)) only [S2, Nat.reduceEqDiff, Nat.reduceAdd, iput, puts, SU f, hlt3]
        refine up rfl (by omega) fun y hy hy2 => ?_
        by_cases e : y = j
        · subst e
          intro b hb
          obtain ⟨k', hk', e'⟩ := List.getElem_of_mem hb
          have := hr k' (by omega)
          simpa [hk', e'] using this
        · exact hq y hy (by omega)
    · try simp (disch := (first | rfl | with_reducible assumption | with_reducible solve_by_elim (maxDepth := 8) [Shape.inT, Shape.inI, Shape.inC, Shape.inK, Shape.obF, Shape.obT, Shape.arI, Arr.inF] | omega)) only [S2, Nat.reduceEqDiff, Nat.reduceAdd, iput, puts, SU f, hlt2]
      refine up rfl (by omega) fun x y hx hx2 hy => ?_
      by_cases e : x = i
      · subst e; exact hq y hy (by have := hy.2; omega)
      · exact hp x y hx (by omega) hy
  · try simp (disch := (first | rfl | with_reducible assumption | with_reducible solve_by_elim (maxDepth := 8) [Shape.inT, Shape.inI, Shape.inC, Shape.inK, Shape.obF, Shape.obT, Shape.arI, Arr.inF] | omega)) only [S2, Nat.reduceEqDiff, Nat.reduceAdd, iput, puts, SU f, hlt]
    exact ⟨_, rfl, H, fun _ _ h => h, ret_true (fun x y hx hy => hp x y hx (by have := hx.2; omega) hy), rfl, Nat.le_refl _⟩
def V_spec_IsFull : Vc :=
  .op true (.p .box [.t 0]) <|
  .op true (.p (.ld (some 12)) [.t 1]) <|
  .op true (.call (.f 256) [.t 2]) <|
  .op true (.p .bnot [.t 3]) <|
  .br 4
   (.ret [(.c (bool false), none), (.c (int 1), none)])
   (.op true (.p (.ld (some 12)) [.t 1]) <|
   .op true (.call (.f 338) [.t 5]) <|
   .ret [(.t 6, none), (.c (int 0), none)])
theorem sIsFull_fz (K : HSpecU P ν) (hh : Has P ν 309 3 V_spec_l02Hom) (hth : Has P ν 411 2 V_spec_l01Then) (hha : Has P ν 262 2 V_spec_l01Has) (hf : Has P ν 338 1 V_spec_l06Full) (h : Has P ν 196 1 V_spec_IsFull) (f : Fu) (b : SmallU f) : Fz (OkM P ν) 196 [.agg f.cells] (askV f (Full f)) := by
  refine Fn.fz (fun H nx => h _ _ _ _ rfl fun hwf => ?_) ask_frz
  unfold V_spec_IsFull
  repeat (first | simp (disch := (first | rfl | with_reducible assumption | with_reducible solve_by_elim (maxDepth := 8) [Shape.inT, Shape.inI, Shape.inC, Shape.inK, Shape.obF, Shape.obT, Shape.arI, Arr.inF] | omega)) only [S2, Nat.reduceEqDiff, Nat.reduceAdd, iput, puts, SU f] | (refine den_call rfl (by first | (simp only [SS, Nat.reduceEqDiff, Nat.reduceAdd, iput, puts, FF, frzL_cat, frzL_fu, frzL_fn0]; done) | (simp only [SS, Nat.reduceEqDiff, Nat.reduceAdd, iput, puts, FF, frzL_cat, frzL_fu, frzL_fn0]; rfl)) (by first | exact l06Is_fz K f b) ?_))
  refine ⟨fun h1 => ?_, fun u => ?_⟩
  · exact ⟨_, rfl, H, fun _ _ h => h, ask_no h1, rfl, Nat.le_refl _⟩
  repeat (first | simp (disch := (first | rfl | with_reducible assumption | with_reducible solve_by_elim (maxDepth := 8) [Shape.inT, Shape.inI, Shape.inC, Shape.inK, Shape.obF, Shape.obT, Shape.arI, Arr.inF] | omega)) only [S2, Nat.reduceEqDiff, Nat.reduceAdd, iput, puts, SU f] | (refine den_call rfl (by first | (simp only [SS, Nat.reduceEqDiff, Nat.reduceAdd, iput, puts, FF, frzL_cat, frzL_fu, frzL_fn0]; done) | (simp only [SS, Nat.reduceEqDiff, Nat.reduceAdd, iput, puts, FF, frzL_cat, frzL_fu, frzL_fn0]; rfl)) (by first | exact l06Full_fz hh hth hha hf f u b) ?_))
  exact ⟨_, rfl, H, fun _ _ h => h, ask_q u, rfl, Nat.le_refl _⟩
theorem IsFull_both (K : HFun P ν) (ha : Has P ν 297 2 V_asked) (hh : Has P ν 33 3 V_Category_hom) (hth : Has P ν 412 2 V_then) (hha : Has P ν 413 2 V_has) (hf : Has P ν 339 1 V_Functor_isFull) (h : Has P ν 197 1 V_IsFull) (KS : HSpecU P ν) (h1 : Has P ν 309 3 V_spec_l02Hom) (h2 : Has P ν 411 2 V_spec_l01Then) (h3 : Has P ν 262 2 V_spec_l01Has) (h4 : Has P ν 338 1 V_spec_l06Full) (h' : Has P ν 196 1 V_spec_IsFull) (f : Fu) (b : SmallU f) :
    ∃ (a : Bool) (k : Int), Fz (OkM P ν) 197 [.agg f.cells] (.tup [bool a, int k]) ∧ Fz (OkM P ν) 196 [.agg f.cells] (.tup [bool a, int k]) :=
  ⟨_, _, IsFull_fz K ha hh hth hha hf h f b, sIsFull_fz KS h1 h2 h3 h4 h' f b⟩
end Go.Av
