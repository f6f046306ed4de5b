/-
  UniversalArrow.
-/
import Derived.Test.YtbgaobcgpkjjkaaAvD6
import Derived.Test.YtbgaobcgpkjjkaaAvM3
import Derived.Test.YtbgaobcgpkjjkaaAvC3
namespace Go.Av
open Classical
set_option linter.unusedSimpArgs false
set_option linter.unusedVariables false
variable {P : Program} {ν : Nat → FuncId}

def UnivAt (f : Fu) (x e w : Int) : Prop := ∀ b ∈ homL f.t (f.O w) (f.t.T e), ((homL f.s w x).filter fun a => f.t.K (f.A a) e == b).length = 1
def Univ (f : Fu) (x e : Int) : Prop := ∀ w : Int, Ob f.s w → UnivAt f x e w
theorem UnivAt_iff {f : Fu} (u : IsFu f) {x e w : Int} (hx : Ob f.s x) (hw : Ob f.s w) (he : Arr f.t e) (hF : f.t.F e = f.O x) :
    UnivAt f x e w ↔ (((homL f.s w x).map fun a => [f.t.K (f.A a) e]).Nodup ∧ (homL f.s w x).length = (homL f.t (f.O w) (f.t.T e)).length) := by
  have t := u.t.1
  have s := u.s.1
  have m := u.m
  rw [nodup_one]
  refine (once_iff _ _ (fun a => f.t.K (f.A a) e) (homL_nodup _ _ _) (homL_nodup _ _ _) fun a ha => ?_).symm
  obtain ⟨a1, a2, a3⟩ := mem_hom.1 ha
  have ta := m.arA a1
  obtain ⟨n1, n2⟩ := a1.nat
  have en := m.ends a.toNat (by have := m.al; omega)
  rw [n2] at en
  have e1 : f.t.T (f.A a) = f.t.F e := by rw [en.2, a3, hF]
  exact mem_hom.2 ⟨t.arK ta he e1, by rw [t.kF ta he e1, en.1, a2], t.kT ta he e1⟩

def V_Functor_isUniversalArrow : Vc :=
  .op true (.p .nck [.t 0]) <|
  .op true (.p (.fad 0) [.t 3]) <|
  .op true (.p .nck [.t 0]) <|
  .op true (.p (.fad 5) [.t 5]) <|
  .op true (.p .nck [.t 0]) <|
  .op true (.p (.fad 10) [.t 7]) <|
  .op true (.p (.ld none) [.t 8]) <|
  .op true (.p .len [.t 9]) <|
  .loop 0 [.c (int 0)] <|
  .op true (.p (.bin .lss) [.t 11, .t 10]) <|
  .br 12
   (.op true (.p (.iad 1) [.t 9, .t 11]) <|
   .op true (.p (.ld none) [.t 13]) <|
   .op true (.call (.f 33) [.t 4, .t 11, .t 1]) <|
   .op true .mkm <|
   .op true (.p .len [.t 15]) <|
   .loop 1 [.c (int 0)] <|
   .op true (.p (.bin .lss) [.t 18, .t 17]) <|
   .br 19
    (.op true (.p (.iad 1) [.t 15, .t 18]) <|
    .op true (.p (.ld none) [.t 20]) <|
    .op true (.p .nck [.t 0]) <|
    .op true (.p (.fad 11) [.t 22]) <|
    .op true (.p (.ld none) [.t 23]) <|
    .op true (.p (.iad 1) [.t 24, .t 21]) <|
    .op true (.p (.ld none) [.t 25]) <|
    .op true (.call (.f 34) [.t 6, .t 26, .t 2]) <|
    .op true (.mset none (.t 16) (.t 27) (.c (bool true))) <|
    .op true (.p (.bin .add) [.t 18, .c (int 1)]) <|
    .again 1 [.t 29])
    (.op true (.p .mlen [.t 16]) <|
    .op true (.p .len [.t 15]) <|
    .op true (.p (.bin .neq) [.t 20, .t 21]) <|
    .br 22
     (.ret [(.c (bool false), none)])
     (.op true (.p .len [.t 15]) <|
     .op true (.p .nck [.t 6]) <|
     .op true (.p (.fad 2) [.t 24]) <|
     .op true (.p (.ld none) [.t 25]) <|
     .op true (.p (.iad 1) [.t 26, .t 2]) <|
     .op true (.p (.ld none) [.t 27]) <|
     .op true (.call (.f 33) [.t 6, .t 14, .t 28]) <|
     .op true (.p .len [.t 29]) <|
     .op true (.p (.bin .neq) [.t 23, .t 30]) <|
     .br 31
      (.ret [(.c (bool false), none)])
      (.op true (.p (.bin .add) [.t 11, .c (int 1)]) <|
      .again 0 [.t 32]))))
   (.ret [(.c (bool true), none)])
set_option maxHeartbeats 1000000 in
theorem isUniv_fz (hh : Has P ν 33 3 V_Category_hom) (ht : Has P ν 34 3 V_Category_then) (h : Has P ν 416 3 V_Functor_isUniversalArrow) (f : Fu) (u : IsFu f) (b : SmallU f) (x e : Int) (hx : Ob f.s x) (he : Arr f.t e) (hF : f.t.F e = f.O x) : Fz (OkM P ν) 416 [.ptr f.cells 0, int x, int e] (bool (decide (Univ f x e))) := by
  refine Fn.fzb fun H nx => h _ _ _ _ rfl fun hwf => ?_
  unfold V_Functor_isUniversalArrow
  have s := u.s.1
  have t := u.t.1
  have m := u.m
  have o0 := s.o0
  have o8 := s.o8
  have ol := m.ol
  try simp (disch := (first | rfl | with_reducible assumption | with_reducible solve_by_elim (maxDepth := 8) [Shape.inT, Shape.inI, Shape.inC, Shape.inK, Shape.obF, Shape.obT, Shape.arI, Arr.inF] | omega)) only [S2, Nat.reduceEqDiff, Nat.reduceAdd, iput, puts, SU f]
  refine den_forG f.ob.length (fun i => ∀ w : Int, Ob f.s w → w < i → UnivAt f x e w) H nx (Low.refl _ _) (fun w hw hw2 => by have := hw.1; omega) fun i H1 n1 hi hp lo => ?_
  by_cases hlt : i < f.ob.length
  · have io : Ob f.s i := ⟨by omega, by omega⟩
    have iO := In.nat hlt
    have hl1 := homL_len s i x
    repeat (first | simp (disch := (first | rfl | with_reducible assumption | with_reducible solve_by_elim (maxDepth := 8) [Shape.inT, Shape.inI, Shape.inC, Shape.inK, Shape.obF, Shape.obT, Shape.arI, Arr.inF] | omega)) only [S2, Nat.reduceEqDiff, Nat.reduceAdd, iput, puts, SU f, hlt] | (refine den_call rfl (by first | (simp only [SS, Nat.reduceEqDiff, Nat.reduceAdd, iput, puts, FF, frzL_cat, frzL_fu, frzL_fn0]; done) | (simp only [SS, Nat.reduceEqDiff, Nat.reduceAdd, iput, puts, FF, frzL_cat, frzL_fu, frzL_fn0]; rfl)) (by first | exact Fu.winS (s.homFz hh i x)) ?_))
    refine den_mkm (kd := none) fun H2 hm hk => ?_
    try simp (disch := (first | rfl | with_reducible assumption | with_reducible solve_by_elim (maxDepth := 8) [Shape.inT, Shape.inI, Shape.inC, Shape.inK, Shape.obF, Shape.obT, Shape.arI, Arr.inF] | omega)) only [S2, Nat.reduceEqDiff, Nat.reduceAdd, iput, puts, SU f]
    refine den_setL (homL f.s i x) (fun a => [f.t.K (f.A a) e]) none n1 hm fun k H3 hk3 hs3 hk3' => ?_
    by_cases hlt2 : k < (homL f.s i x).length
    · have i1 : In (homL f.s i x) (k : Int) := In.nat hlt2
      have a := hom_arr hlt2
      have ta := m.arA a
      have ia := m.inA a
      repeat (first | simp (disch := (first | rfl | with_reducible assumption | with_reducible solve_by_elim (maxDepth := 8) [Shape.inT, Shape.inI, Shape.inC, Shape.inK, Shape.obF, Shape.obT, Shape.arI, Arr.inF] | omega)) only [S2, Nat.reduceEqDiff, Nat.reduceAdd, iput, puts, SU f, hlt2, gI_nat] | (refine den_call rfl (by first | (simp only [SS, Nat.reduceEqDiff, Nat.reduceAdd, iput, puts, FF, frzL_cat, frzL_fu, frzL_fn0]; done) | (simp only [SS, Nat.reduceEqDiff, Nat.reduceAdd, iput, puts, FF, frzL_cat, frzL_fu, frzL_fn0]; rfl)) (by first | exact Fu.winT (t.fzThen ht ta he)) ?_))
      refine den_mset (o := n1) (l := (keysOf (((homL f.s i x).take k).map fun a => [f.t.K (f.A a) e])).map fun k => (k, bool true)) (kl := [f.t.K (f.A ((homL f.s i x).getD k 0)) e]) rfl hs3 rfl rfl rfl fun H4 hm4 hk4 => ?_
      try simp (disch := (first | rfl | with_reducible assumption | with_reducible solve_by_elim (maxDepth := 8) [Shape.inT, Shape.inI, Shape.inC, Shape.inK, Shape.obF, Shape.obT, Shape.arI, Arr.inF] | omega)) only [S2, Nat.reduceEqDiff, Nat.reduceAdd, iput, puts, SU f]
      exact setL_put (key := fun a => [f.t.K (f.A a) e]) rfl hlt2 hm4 hk4 hk3'
    · have hke : (homL f.s i x).take k = homL f.s i x := List.take_of_length_le (by omega)
      rw [hke] at hs3
      have lo3 : Low H nx H3 (n1 + 1) := lo.new (fun o ho => (hk3' o ho).trans (hk o ho)) (by omega)
      have hlen := hs3.len
      have uv := UnivAt_iff u hx io he hF
      have kl := keysOf_len ((homL f.s i x).map fun a => [f.t.K (f.A a) e])
      rw [List.length_map] at kl
      try simp (disch := (first | rfl | with_reducible assumption | with_reducible solve_by_elim (maxDepth := 8) [Shape.inT, Shape.inI, Shape.inC, Shape.inK, Shape.obF, Shape.obT, Shape.arI, Arr.inF] | omega)) only [S2, Nat.reduceEqDiff, Nat.reduceAdd, iput, puts, SU f, hlt2, hlen]
      refine ⟨fun h1 => ?_, fun h1 => ?_⟩
      · have sub := lo3.sub hwf
        have le3 := lo3.le
        exact ⟨_, rfl, H, sub, ret_false (fun hu => h1 (by rw [kl.2 (uv.1 (hu i io)).1])), rfl, by omega⟩
      · have iT := t.inT he
        repeat (first | simp (disch := (first | rfl | with_reducible assumption | with_reducible solve_by_elim (maxDepth := 8) [Shape.inT, Shape.inI, Shape.inC, Shape.inK, Shape.obF, Shape.obT, Shape.arI, Arr.inF] | omega)) only [S2, Nat.reduceEqDiff, Nat.reduceAdd, iput, puts, SU f] | (refine den_call rfl (by first | (simp only [SS, Nat.reduceEqDiff, Nat.reduceAdd, iput, puts, FF, frzL_cat, frzL_fu, frzL_fn0]; done) | (simp only [SS, Nat.reduceEqDiff, Nat.reduceAdd, iput, puts, FF, frzL_cat, frzL_fu, frzL_fn0]; rfl)) (by first | exact Fu.winT (t.homFz hh (f.O i) (f.t.T e))) ?_))
        refine ⟨fun h2 => ?_, fun h2 => ?_⟩
        · have sub := lo3.sub hwf
          have le3 := lo3.le
          exact ⟨_, rfl, H, sub, ret_false (fun hu => h2 (by rw [(uv.1 (hu i io)).2])), rfl, by omega⟩
        · try simp (disch := (first | rfl | with_reducible assumption | with_reducible solve_by_elim (maxDepth := 8) [Shape.inT, Shape.inI, Shape.inC, Shape.inK, Shape.obF, Shape.obT, Shape.arI, Arr.inF] | omega)) only [S2, Nat.reduceEqDiff, Nat.reduceAdd, iput, puts, SU f]
          refine upG rfl hlt (fun w hw hw2 => ?_) lo3
          by_cases e1 : w = i
          · subst e1
            exact uv.2 ⟨kl.1 (by omega), by omega⟩
          · exact hp w hw (by omega)
  · have sub := lo.sub hwf
    have le3 := lo.le
    try simp (disch := (first | rfl | with_reducible assumption | with_reducible solve_by_elim (maxDepth := 8) [Shape.inT, Shape.inI, Shape.inC, Shape.inK, Shape.obF, Shape.obT, Shape.arI, Arr.inF] | omega)) only [S2, Nat.reduceEqDiff, Nat.reduceAdd, iput, puts, SU f, hlt]
    exact ⟨_, rfl, H, sub, ret_true (fun w hw => hp w hw (by have := hw.2; omega)), rfl, by omega⟩

/-- The first object with an arrow that is universal. -/
noncomputable def univO (f : Fu) (y : Int) : Option (Int × Int) := (List.range f.ob.length).findSome? fun (x : Nat) => (List.range (homL f.t (f.O x) y).length).findSome? fun k => if Univ f x ((homL f.t (f.O x) y).getD k 0) then some ((x : Int), (homL f.t (f.O x) y).getD k 0) else none
def univAV : Option (Int × Int) → AV
  | some p => .tup [int p.1, int p.2, bool true]
  | none => .tup [int 0, int 0, bool false]
theorem univAV_frz {o : Option (Int × Int)} (H : Hp) : frzN H fuel (univAV o) = some (univAV o) := by cases o <;> rfl

def V_Functor_universalArrow : Vc :=
  .op true (.p .nck [.t 0]) <|
  .op true (.p (.fad 10) [.t 2]) <|
  .op true (.p (.ld none) [.t 3]) <|
  .op true (.p .len [.t 4]) <|
  .loop 0 [.c (int 0)] <|
  .op true (.p (.bin .lss) [.t 6, .t 5]) <|
  .br 7
   (.op true (.p (.iad 1) [.t 4, .t 6]) <|
   .op true (.p (.ld none) [.t 8]) <|
   .op true (.p .nck [.t 0]) <|
   .op true (.p (.fad 5) [.t 10]) <|
   .op true (.call (.f 33) [.t 11, .t 9, .t 1]) <|
   .op true (.p .len [.t 12]) <|
   .loop 1 [.c (int 0)] <|
   .op true (.p (.bin .lss) [.t 14, .t 13]) <|
   .br 15
    (.op true (.p (.iad 1) [.t 12, .t 14]) <|
    .op true (.p (.ld none) [.t 16]) <|
    .op true (.call (.f 416) [.t 0, .t 6, .t 17]) <|
    .br 18
     (.ret [(.t 6, none), (.t 17, none), (.c (bool true), none)])
     (.op true (.p (.bin .add) [.t 14, .c (int 1)]) <|
     .again 1 [.t 19]))
    (.op true (.p (.bin .add) [.t 6, .c (int 1)]) <|
    .again 0 [.t 16]))
   (.ret [(.c (int 0), none), (.c (int 0), none), (.c (bool false), none)])
set_option maxHeartbeats 1000000 in
theorem univ_fz (hh : Has P ν 33 3 V_Category_hom) (ht : Has P ν 34 3 V_Category_then) (hu : Has P ν 416 3 V_Functor_isUniversalArrow) (h : Has P ν 350 2 V_Functor_universalArrow) (f : Fu) (u : IsFu f) (b : SmallU f) (y : Int) : Fz (OkM P ν) 350 [.ptr f.cells 0, int y] (univAV (univO f y)) := by
  refine Fn.fz (fun H nx => h _ _ _ _ rfl fun hwf => ?_) univAV_frz
  unfold V_Functor_universalArrow
  have s := u.s.1
  have t := u.t.1
  have m := u.m
  have o0 := s.o0
  have o8 := s.o8
  have ol := m.ol
  try simp (disch := (first | rfl | with_reducible assumption | with_reducible solve_by_elim (maxDepth := 8) [Shape.inT, Shape.inI, Shape.inC, Shape.inK, Shape.obF, Shape.obT, Shape.arI, Arr.inF] | omega)) only [S2, Nat.reduceEqDiff, Nat.reduceAdd, iput, puts, SU f]
  refine den_for f.ob.length (fun x => ∀ x' : Nat, x' < x → ((List.range (homL f.t (f.O x') y).length).findSome? fun k => if Univ f x' ((homL f.t (f.O x') y).getD k 0) then some ((x' : Int), (homL f.t (f.O x') y).getD k 0) else none) = none) (fun x' hx' => by omega) fun i hi hp => ?_
  by_cases hlt : i < f.ob.length
  · have io : Ob f.s i := ⟨by omega, by omega⟩
    have iO := In.nat hlt
    have hl1 := homL_len t (f.O i) y
    repeat (first | simp (disch := (first | rfl | with_reducible assumption | with_reducible solve_by_elim (maxDepth := 8) [Shape.inT, Shape.inI, Shape.inC, Shape.inK, Shape.obF, Shape.obT, Shape.arI, Arr.inF] | omega)) only [S2, Nat.reduceEqDiff, Nat.reduceAdd, iput, puts, SU f, hlt] | (refine den_call rfl (by first | (simp only [SS, Nat.reduceEqDiff, Nat.reduceAdd, iput, puts, FF, frzL_cat, frzL_fu, frzL_fn0]; done) | (simp only [SS, Nat.reduceEqDiff, Nat.reduceAdd, iput, puts, FF, frzL_cat, frzL_fu, frzL_fn0]; rfl)) (by first | exact Fu.winT (t.homFz hh (f.O i) y)) ?_))
    refine den_for (homL f.t (f.O i) y).length (fun k => ∀ k' : Nat, k' < k → ¬ Univ f i ((homL f.t (f.O i) y).getD k' 0)) (fun k' hk' => by omega) fun k hk hq => ?_
    by_cases hlt2 : k < (homL f.t (f.O i) y).length
    · have i1 : In (homL f.t (f.O i) y) (k : Int) := In.nat hlt2
      have a := hom_arr hlt2
      have aF := hom_F hlt2
      repeat (first | simp (disch := (first | rfl | with_reducible assumption | with_reducible solve_by_elim (maxDepth := 8) [Shape.inT, Shape.inI, Shape.inC, Shape.inK, Shape.obF, Shape.obT, Shape.arI, Arr.inF] | omega)) only [S2, Nat.reduceEqDiff, Nat.reduceAdd, iput, puts, SU f, hlt2, gI_nat] | (refine den_call rfl (by first | (simp only [SS, Nat.reduceEqDiff, Nat.reduceAdd, iput, puts, FF, frzL_cat, frzL_fu, frzL_fn0]; done) | (simp only [SS, Nat.reduceEqDiff, Nat.reduceAdd, iput, puts, FF, frzL_cat, frzL_fu, frzL_fn0]; rfl)) (by first | exact isUniv_fz hh ht hu f u b i _ io a aF) ?_))
      refine ⟨fun h1 => ?_, fun h1 => up rfl hlt2 fun k' hk' => ?_⟩
      · refine ⟨_, rfl, H, fun _ _ h => h, ?_, rfl, Nat.le_refl _⟩
        rw [univO, findSome_at hlt (findSome_at hlt2 (by rw [if_pos h1]) fun j hj => if_neg (hq j hj)) hp]; rfl
      · by_cases e : k' = k
        · subst e; exact h1
        · exact hq k' (by omega)
    · try simp (disch := (first | rfl | with_reducible assumption | with_reducible solve_by_elim (maxDepth := 8) [Shape.inT, Shape.inI, Shape.inC, Shape.inK, Shape.obF, Shape.obT, Shape.arI, Arr.inF] | omega)) only [S2, Nat.reduceEqDiff, Nat.reduceAdd, iput, puts, SU f, hlt2]
      refine up rfl hlt fun x' hx' => ?_
      by_cases e : x' = i
      · subst e; exact findSome_none fun j hj => if_neg (hq j (by omega))
      · exact hp x' (by omega)
  · try simp (disch := (first | rfl | with_reducible assumption | with_reducible solve_by_elim (maxDepth := 8) [Shape.inT, Shape.inI, Shape.inC, Shape.inK, Shape.obF, Shape.obT, Shape.arI, Arr.inF] | omega)) only [S2, Nat.reduceEqDiff, Nat.reduceAdd, iput, puts, SU f, hlt]
    refine ⟨_, rfl, H, fun _ _ h => h, ?_, rfl, Nat.le_refl _⟩
    rw [univO, findSome_none fun j hj => hp j (by omega)]; rfl

def V_spec_l15Lifts : Vc :=
  .op true (.p .box [.t 0]) <|
  .op true (.p (.fad 0) [.t 5]) <|
  .op true (.p (.ld (some 5)) [.t 6]) <|
  .op true (.call (.f 309) [.t 7, .t 1, .t 2]) <|
  .op true (.p (.msl 0 [] []) []) <|
  .loop 0 [.t 9, .c (int 0)] <|
  .op true (.p .len [.t 8]) <|
  .op true (.p (.bin .lss) [.t 11, .t 12]) <|
  .br 13
   (.op true (.p (.fad 5) [.t 5]) <|
   .op true (.p (.ld (some 5)) [.t 14]) <|
   .op true (.p (.fad 11) [.t 5]) <|
   .op true (.p (.ld none) [.t 16]) <|
   .op true (.p (.iad 1) [.t 8, .t 11]) <|
   .op true (.p (.ld none) [.t 18]) <|
   .op true (.p (.iad 1) [.t 17, .t 19]) <|
   .op true (.p (.ld none) [.t 20]) <|
   .op true (.call (.f 253) [.t 15, .t 21, .t 3]) <|
   .op true (.p (.bin .eql) [.t 22, .t 4]) <|
   .br 23
    (.op true (.p (.iad 1) [.t 8, .t 11]) <|
    .op true (.p (.ld none) [.t 24]) <|
    .op true (.p (.msl 1 [int 0] [(0, 1)]) [.t 25]) <|
    .op true (.app 1 (.t 10) (.t 26)) <|
    .op true (.p (.bin .add) [.t 11, .c (int 1)]) <|
    .again 0 [.t 27, .t 28])
    (.op true (.p (.bin .add) [.t 11, .c (int 1)]) <|
    .again 0 [.t 10, .t 24]))
   (.ret [(.t 10, none)])
theorem l15Lifts_fz (hh : Has P ν 309 3 V_spec_l02Hom) (ht : Has P ν 253 3 V_spec_l02Then) (h : Has P ν 429 5 V_spec_l15Lifts) (f : Fu) (u : IsFu f) (b : SmallU f) (w x e d : Int) (he : Arr f.t e) : Fz (OkM P ν) 429 [.agg f.cells, int w, int x, int e, int d] (islice ((homL f.s w x).filter fun a => f.t.K (f.A a) e == d)) := by
  refine OkM.fz (Ψ := fun H nx => IsI ((homL f.s w x).filter fun a => f.t.K (f.A a) e == d) H nx) (fun H nx => h _ _ _ _ rfl fun hwf => ?_) fun _ _ _ hh => hh.frz _
  unfold V_spec_l15Lifts
  have s := u.s.1
  have t := u.t.1
  have m := u.m
  have hl1 := homL_len s w x
  repeat (first | simp (disch := (first | rfl | with_reducible assumption | with_reducible solve_by_elim (maxDepth := 8) [Shape.inT, Shape.inI, Shape.inC, Shape.inK, Shape.obF, Shape.obT, Shape.arI, Arr.inF] | omega)) only [S2, Nat.reduceEqDiff, Nat.reduceAdd, iput, puts, SU f] | (refine den_call rfl (by first | (simp only [SS, Nat.reduceEqDiff, Nat.reduceAdd, iput, puts, FF, frzL_cat, frzL_fu, frzL_fn0]; done) | (simp only [SS, Nat.reduceEqDiff, Nat.reduceAdd, iput, puts, FF, frzL_cat, frzL_fu, frzL_fn0]; rfl)) (by first | exact s.sHomFz hh w x) ?_))
  refine den_fil (homL f.s w x) (fun a => f.t.K (f.A a) e == d) H nx rfl (Nat.le_refl _) rfl fun i v H' nx' hi hI => ?_
  by_cases hlt : i < (homL f.s w x).length
  · have i1 : In (homL f.s w x) (i : Int) := In.nat hlt
    have a := hom_arr hlt
    have ta := m.arA a
    have ia := m.inA a
    repeat (first | simp (disch := (first | rfl | with_reducible assumption | with_reducible solve_by_elim (maxDepth := 8) [Shape.inT, Shape.inI, Shape.inC, Shape.inK, Shape.obF, Shape.obT, Shape.arI, Arr.inF] | omega)) only [S2, Nat.reduceEqDiff, Nat.reduceAdd, iput, puts, SU f, hlt, gI_nat] | (refine den_call rfl (by first | (simp only [SS, Nat.reduceEqDiff, Nat.reduceAdd, iput, puts, FF, frzL_cat, frzL_fu, frzL_fn0]; done) | (simp only [SS, Nat.reduceEqDiff, Nat.reduceAdd, iput, puts, FF, frzL_cat, frzL_fu, frzL_fn0]; rfl)) (by first | exact t.sThenFz ht ta he) ?_))
    refine ⟨fun h1 => ?_, fun h1 => ?_⟩
    · try simp (disch := (first | rfl | with_reducible assumption | with_reducible solve_by_elim (maxDepth := 8) [Shape.inT, Shape.inI, Shape.inC, Shape.inK, Shape.obF, Shape.obT, Shape.arI, Arr.inF] | omega)) only [S2, Nat.reduceEqDiff, Nat.reduceAdd, iput, puts, SU f, hlt, gI_nat]
      refine den_appI (l := ((homL f.s w x).take i).filter fun a => f.t.K (f.A a) e == d) (m := [(homL f.s w x).getD i 0]) (H0 := H) (nx0 := nx) hI rfl (by simp) (by have := take_filter_len (homL f.s w x) (fun a => f.t.K (f.A a) e == d) i; simp only [List.length_cons, List.length_nil]; omega) fun v2 H2 n2 hI2 => ?_
      try simp (disch := (first | rfl | with_reducible assumption | with_reducible solve_by_elim (maxDepth := 8) [Shape.inT, Shape.inI, Shape.inC, Shape.inK, Shape.obF, Shape.obT, Shape.arI, Arr.inF] | omega)) only [S2, Nat.reduceEqDiff, Nat.reduceAdd, iput, puts, SU f]
      exact fil_take rfl hlt (by simpa using h1) hI2
    · exact fil_skip rfl hlt (by simpa using h1) hI
  · try simp (disch := (first | rfl | with_reducible assumption | with_reducible solve_by_elim (maxDepth := 8) [Shape.inT, Shape.inI, Shape.inC, Shape.inK, Shape.obF, Shape.obT, Shape.arI, Arr.inF] | omega)) only [S2, Nat.reduceEqDiff, Nat.reduceAdd, iput, puts, SU f, hlt]
    have : i = (homL f.s w x).length := by omega
    subst this
    rw [List.take_length] at hI
    exact ⟨_, rfl, _, fun _ _ h => h, hI⟩

def V_spec_l15Universal : Vc :=
  .op true (.p .box [.t 0]) <|
  .loop 0 [.c (int 0)] <|
  .op true (.p (.fad 0) [.t 4]) <|
  .op true (.p (.fad 0) [.t 6]) <|
  .op true (.p (.ld none) [.t 7]) <|
  .op true (.p (.bin .lss) [.t 5, .t 8]) <|
  .br 9
   (.op true (.p (.fad 5) [.t 4]) <|
   .op true (.p (.ld (some 5)) [.t 10]) <|
   .op true (.p (.fad 10) [.t 4]) <|
   .op true (.p (.ld none) [.t 12]) <|
   .op true (.p (.iad 1) [.t 13, .t 5]) <|
   .op true (.p (.ld none) [.t 14]) <|
   .op true (.call (.f 309) [.t 11, .t 15, .t 1]) <|
   .loop 1 [.c (int 0)] <|
   .op true (.p .len [.t 16]) <|
   .op true (.p (.bin .lss) [.t 17, .t 18]) <|
   .br 19
    (.op true (.p (.ld (some 12)) [.t 4]) <|
    .op true (.p (.iad 1) [.t 16, .t 17]) <|
    .op true (.p (.ld none) [.t 21]) <|
    .op true (.call (.f 429) [.t 20, .t 5, .t 2, .t 3, .t 22]) <|
    .op true (.p .len [.t 23]) <|
    .op true (.p (.bin .neq) [.t 24, .c (int 1)]) <|
    .br 25
     (.ret [(.c (bool false), none)])
     (.op true (.p (.bin .add) [.t 17, .c (int 1)]) <|
     .again 1 [.t 26]))
    (.op true (.p (.bin .add) [.t 5, .c (int 1)]) <|
    .again 0 [.t 20]))
   (.ret [(.c (bool true), none)])
set_option maxHeartbeats 1000000 in
theorem l15Univ_fz (hh : Has P ν 309 3 V_spec_l02Hom) (ht : Has P ν 253 3 V_spec_l02Then) (hl : Has P ν 429 5 V_spec_l15Lifts) (h : Has P ν 415 4 V_spec_l15Universal) (f : Fu) (u : IsFu f) (b : SmallU f) (x e : Int) (he : Arr f.t e) : Fz (OkM P ν) 415 [.agg f.cells, int (f.t.T e), int x, int e] (bool (decide (Univ f x e))) := by
  refine Fn.fzb fun H nx => h _ _ _ _ rfl fun hwf => ?_
  unfold V_spec_l15Universal
  have s := u.s.1
  have t := u.t.1
  have m := u.m
  have o0 := s.o0
  have o8 := s.o8
  try simp (disch := (first | rfl | with_reducible assumption | with_reducible solve_by_elim (maxDepth := 8) [Shape.inT, Shape.inI, Shape.inC, Shape.inK, Shape.obF, Shape.obT, Shape.arI, Arr.inF] | omega)) only [S2, Nat.reduceEqDiff, Nat.reduceAdd, iput, puts, SU f]
  refine den_for f.s.o.toNat (fun i => ∀ w : Int, Ob f.s w → w < i → UnivAt f x e w) (fun w hw hw2 => by have := hw.1; omega) fun i hi hp => ?_
  by_cases hlt : (i : Int) < f.s.o
  · have io : Ob f.s i := ⟨by omega, hlt⟩
    have iO := m.inO io
    have hl1 := homL_len t (f.O i) (f.t.T e)
    repeat (first | simp (disch := (first | rfl | with_reducible assumption | with_reducible solve_by_elim (maxDepth := 8) [Shape.inT, Shape.inI, Shape.inC, Shape.inK, Shape.obF, Shape.obT, Shape.arI, Arr.inF] | omega)) only [S2, Nat.reduceEqDiff, Nat.reduceAdd, iput, puts, SU f, hlt] | (refine den_call rfl (by first | (simp only [SS, Nat.reduceEqDiff, Nat.reduceAdd, iput, puts, FF, frzL_cat, frzL_fu, frzL_fn0]; done) | (simp only [SS, Nat.reduceEqDiff, Nat.reduceAdd, iput, puts, FF, frzL_cat, frzL_fu, frzL_fn0]; rfl)) (by first | exact t.sHomFz hh (f.O i) (f.t.T e)) ?_))
    refine den_for (homL f.t (f.O i) (f.t.T e)).length (fun k => ∀ k' : Nat, k' < k → ((homL f.s i x).filter fun a => f.t.K (f.A a) e == (homL f.t (f.O i) (f.t.T e)).getD k' 0).length = 1) (fun k' hk' => by omega) fun k hk hq => ?_
    by_cases hlt2 : k < (homL f.t (f.O i) (f.t.T e)).length
    · have i1 : In (homL f.t (f.O i) (f.t.T e)) (k : Int) := In.nat hlt2
      repeat (first | simp (disch := (first | rfl | with_reducible assumption | with_reducible solve_by_elim (maxDepth := 8) [Shape.inT, Shape.inI, Shape.inC, Shape.inK, Shape.obF, Shape.obT, Shape.arI, Arr.inF] | omega)) only [S2, Nat.reduceEqDiff, Nat.reduceAdd, iput, puts, SU f, hlt2, gI_nat] | (refine den_call rfl (by first | (simp only [SS, Nat.reduceEqDiff, Nat.reduceAdd, iput, puts, FF, frzL_cat, frzL_fu, frzL_fn0]; done) | (simp only [SS, Nat.reduceEqDiff, Nat.reduceAdd, iput, puts, FF, frzL_cat, frzL_fu, frzL_fn0]; rfl)) (by first | exact l15Lifts_fz hh ht hl f u b i x e ((homL f.t (f.O i) (f.t.T e)).getD k 0) he) ?_))
      refine ⟨fun h1 => ?_, fun h1 => up rfl hlt2 fun k' hk' => ?_⟩
      · exact ⟨_, rfl, H, fun _ _ h => h, ret_false (fun hu => h1 (by rw [hu i io _ (getD_mem hlt2)]; rfl)), rfl, Nat.le_refl _⟩
      · by_cases e : k' = k
        · subst e; omega
        · exact hq k' (by omega)
    · try simp (disch := (first | rfl | with_reducible assumption | with_reducible solve_by_elim (maxDepth := 8) [Shape.inT, Shape.inI, Shape.inC, Shape.inK, Shape.obF, Shape.obT, Shape.arI, Arr.inF] | omega)) only [S2, Nat.reduceEqDiff, Nat.reduceAdd, iput, puts, SU f, hlt2]
      refine up rfl (by omega) fun w hw hw2 => ?_
      by_cases e1 : w = i
      · subst e1
        intro d hd
        obtain ⟨k', hk', e'⟩ := List.getElem_of_mem hd
        have := hq k' (by omega)
        simpa [hk', e'] using this
      · exact hp w hw (by omega)
  · try simp (disch := (first | rfl | with_reducible assumption | with_reducible solve_by_elim (maxDepth := 8) [Shape.inT, Shape.inI, Shape.inC, Shape.inK, Shape.obF, Shape.obT, Shape.arI, Arr.inF] | omega)) only [S2, Nat.reduceEqDiff, Nat.reduceAdd, iput, puts, SU f, hlt]
    exact ⟨_, rfl, H, fun _ _ h => h, ret_true (fun w hw => hp w hw (by have := hw.2; omega)), rfl, Nat.le_refl _⟩

def V_spec_l15Find : Vc :=
  .op true (.p .box [.t 0]) <|
  .loop 0 [.c (int 0)] <|
  .op true (.p (.fad 0) [.t 2]) <|
  .op true (.p (.fad 0) [.t 4]) <|
  .op true (.p (.ld none) [.t 5]) <|
  .op true (.p (.bin .lss) [.t 3, .t 6]) <|
  .br 7
   (.op true (.p (.fad 5) [.t 2]) <|
   .op true (.p (.ld (some 5)) [.t 8]) <|
   .op true (.p (.fad 10) [.t 2]) <|
   .op true (.p (.ld none) [.t 10]) <|
   .op true (.p (.iad 1) [.t 11, .t 3]) <|
   .op true (.p (.ld none) [.t 12]) <|
   .op true (.call (.f 309) [.t 9, .t 13, .t 1]) <|
   .loop 1 [.c (int 0)] <|
   .op true (.p .len [.t 14]) <|
   .op true (.p (.bin .lss) [.t 15, .t 16]) <|
   .br 17
    (.op true (.p (.ld (some 12)) [.t 2]) <|
    .op true (.p (.iad 1) [.t 14, .t 15]) <|
    .op true (.p (.ld none) [.t 19]) <|
    .op true (.call (.f 415) [.t 18, .t 1, .t 3, .t 20]) <|
    .br 21
     (.op true (.p (.iad 1) [.t 14, .t 15]) <|
     .op true (.p (.ld none) [.t 22]) <|
     .ret [(.t 3, none), (.t 23, none), (.c (bool true), none)])
     (.op true (.p (.bin .add) [.t 15, .c (int 1)]) <|
     .again 1 [.t 22]))
    (.op true (.p (.bin .add) [.t 3, .c (int 1)]) <|
    .again 0 [.t 18]))
   (.ret [(.c (int 0), none), (.c (int 0), none), (.c (bool false), none)])
set_option maxHeartbeats 1000000 in
theorem l15Find_fz (hh : Has P ν 309 3 V_spec_l02Hom) (ht : Has P ν 253 3 V_spec_l02Then) (hl : Has P ν 429 5 V_spec_l15Lifts) (hu : Has P ν 415 4 V_spec_l15Universal) (h : Has P ν 349 2 V_spec_l15Find) (f : Fu) (u : IsFu f) (b : SmallU f) (y : Int) : Fz (OkM P ν) 349 [.agg f.cells, int y] (univAV (univO f y)) := by
  refine Fn.fz (fun H nx => h _ _ _ _ rfl fun hwf => ?_) univAV_frz
  unfold V_spec_l15Find
  have s := u.s.1
  have t := u.t.1
  have m := u.m
  have o0 := s.o0
  have o8 := s.o8
  have ol := m.ol
  try simp (disch := (first | rfl | with_reducible assumption | with_reducible solve_by_elim (maxDepth := 8) [Shape.inT, Shape.inI, Shape.inC, Shape.inK, Shape.obF, Shape.obT, Shape.arI, Arr.inF] | omega)) only [S2, Nat.reduceEqDiff, Nat.reduceAdd, iput, puts, SU f]
  refine den_for f.ob.length (fun x => ∀ x' : Nat, x' < x → ((List.range (homL f.t (f.O x') y).length).findSome? fun k => if Univ f x' ((homL f.t (f.O x') y).getD k 0) then some ((x' : Int), (homL f.t (f.O x') y).getD k 0) else none) = none) (fun x' hx' => by omega) fun i hi hp => ?_
  by_cases hlt : i < f.ob.length
  · have hlt0 : (i : Int) < f.s.o := by omega
    have io : Ob f.s i := ⟨by omega, by omega⟩
    have iO := m.inO io
    have hl1 := homL_len t (f.O i) y
    repeat (first | simp (disch := (first | rfl | with_reducible assumption | with_reducible solve_by_elim (maxDepth := 8) [Shape.inT, Shape.inI, Shape.inC, Shape.inK, Shape.obF, Shape.obT, Shape.arI, Arr.inF] | omega)) only [S2, Nat.reduceEqDiff, Nat.reduceAdd, iput, puts, SU f, hlt0] | (refine den_call rfl (by first | (simp only [SS, Nat.reduceEqDiff, Nat.reduceAdd, iput, puts, FF, frzL_cat, frzL_fu, frzL_fn0]; done) | (simp only [SS, Nat.reduceEqDiff, Nat.reduceAdd, iput, puts, FF, frzL_cat, frzL_fu, frzL_fn0]; rfl)) (by first | exact t.sHomFz hh (f.O i) y) ?_))
    refine den_for (homL f.t (f.O i) y).length (fun k => ∀ k' : Nat, k' < k → ¬ Univ f i ((homL f.t (f.O i) y).getD k' 0)) (fun k' hk' => by omega) fun k hk hq => ?_
    by_cases hlt2 : k < (homL f.t (f.O i) y).length
    · have i1 : In (homL f.t (f.O i) y) (k : Int) := In.nat hlt2
      have a := hom_arr hlt2
      have aT := hom_T hlt2
      have hU := l15Univ_fz hh ht hl hu f u b i _ a
      rw [aT] at hU
      repeat (first | simp (disch := (first | rfl | with_reducible assumption | with_reducible solve_by_elim (maxDepth := 8) [Shape.inT, Shape.inI, Shape.inC, Shape.inK, Shape.obF, Shape.obT, Shape.arI, Arr.inF] | omega)) only [S2, Nat.reduceEqDiff, Nat.reduceAdd, iput, puts, SU f, hlt2, gI_nat] | (refine den_call rfl (by first | (simp only [SS, Nat.reduceEqDiff, Nat.reduceAdd, iput, puts, FF, frzL_cat, frzL_fu, frzL_fn0]; done) | (simp only [SS, Nat.reduceEqDiff, Nat.reduceAdd, iput, puts, FF, frzL_cat, frzL_fu, frzL_fn0]; rfl)) (by first | exact hU) ?_))
      refine ⟨fun h1 => ?_, fun h1 => ?_⟩
      · try simp (disch := (first | rfl | with_reducible assumption | with_reducible solve_by_elim (maxDepth := 8) [Shape.inT, Shape.inI, Shape.inC, Shape.inK, Shape.obF, Shape.obT, Shape.arI, Arr.inF] | omega)) only [S2, Nat.reduceEqDiff, Nat.reduceAdd, iput, puts, SU f, hlt2, gI_nat]
        refine ⟨_, rfl, H, fun _ _ h => h, ?_, rfl, Nat.le_refl _⟩
        rw [univO, findSome_at hlt (findSome_at hlt2 (by rw [if_pos h1]) fun j hj => if_neg (hq j hj)) hp]; rfl
      · try simp (disch := (first | rfl | with_reducible assumption | with_reducible solve_by_elim (maxDepth := 8) [Shape.inT, Shape.inI, Shape.inC, Shape.inK, Shape.obF, Shape.obT, Shape.arI, Arr.inF] | omega)) only [S2, Nat.reduceEqDiff, Nat.reduceAdd, iput, puts, SU f, hlt2, gI_nat]
        refine up rfl hlt2 fun k' hk' => ?_
        by_cases e : k' = k
        · subst e; exact h1
        · exact hq k' (by omega)
    · try simp (disch := (first | rfl | with_reducible assumption | with_reducible solve_by_elim (maxDepth := 8) [Shape.inT, Shape.inI, Shape.inC, Shape.inK, Shape.obF, Shape.obT, Shape.arI, Arr.inF] | omega)) only [S2, Nat.reduceEqDiff, Nat.reduceAdd, iput, puts, SU f, hlt2]
      refine up rfl hlt fun x' hx' => ?_
      by_cases e : x' = i
      · subst e; exact findSome_none fun j hj => if_neg (hq j (by omega))
      · exact hp x' (by omega)
  · have hlt0 : ¬ (i : Int) < f.s.o := by omega
    try simp (disch := (first | rfl | with_reducible assumption | with_reducible solve_by_elim (maxDepth := 8) [Shape.inT, Shape.inI, Shape.inC, Shape.inK, Shape.obF, Shape.obT, Shape.arI, Arr.inF] | omega)) only [S2, Nat.reduceEqDiff, Nat.reduceAdd, iput, puts, SU f, hlt0]
    refine ⟨_, rfl, H, fun _ _ h => h, ?_, rfl, Nat.le_refl _⟩
    rw [univO, findSome_none fun j hj => hp j (by omega)]; rfl

/-- What the question answers. -/
noncomputable def univR (f : Fu) (y : Int) : Int × Int × Int := if IsFu f then if Ob f.t y then match univO f y with | some p => (p.1, p.2, 0) | none => (0, 0, 4) else (0, 0, 2) else (0, 0, 1)
def triAV (p : Int × Int × Int) : AV := .tup [int p.1, int p.2.1, int p.2.2]
theorem triAV_frz {p : Int × Int × Int} (H : Hp) : frzN H fuel (triAV p) = some (triAV p) := rfl
theorem univ_ext {f : Fu} {y : Int} {H : Hp} : pvf H (.ext 0) [univAV (univO f y)] = some (int (match univO f y with | some p => p.1 | none => 0)) ∧ pvf H (.ext 1) [univAV (univO f y)] = some (int (match univO f y with | some p => p.2 | none => 0)) ∧ pvf H (.ext 2) [univAV (univO f y)] = some (bool (univO f y).isSome) := by
  cases univO f y <;> exact ⟨rfl, rfl, rfl⟩
def V_UniversalArrow : Vc :=
  .op true (.p .box [.t 0]) <|
  .op true (.call (.f 257) [.t 2]) <|
  .op true (.p .bnot [.t 3]) <|
  .br 4
   (.ret [(.c (int 0), none), (.c (int 0), none), (.c (int 1), none)])
   (.op true (.p (.fad 5) [.t 2]) <|
   .op true (.p (.fad 0) [.t 5]) <|
   .op true (.p (.ld none) [.t 6]) <|
   .op true (.p (.bin .sub) [.t 7, .c (int 1)]) <|
   .op true (.call (.f 32) [.t 1, .c (int 0), .t 8]) <|
   .op true (.p .bnot [.t 9]) <|
   .br 10
    (.ret [(.c (int 0), none), (.c (int 0), none), (.c (int 2), none)])
    (.op true (.call (.f 350) [.t 2, .t 1]) <|
    .op true (.p (.ext 0) [.t 11]) <|
    .op true (.p (.ext 1) [.t 11]) <|
    .op true (.p (.ext 2) [.t 11]) <|
    .op true (.p .bnot [.t 14]) <|
    .br 15
     (.ret [(.c (int 0), none), (.c (int 0), none), (.c (int 4), none)])
     (.ret [(.t 12, none), (.t 13, none), (.c (int 0), none)])))
theorem UniversalArrow_fz (K : HFun P ν) (hh : Has P ν 33 3 V_Category_hom) (hu : Has P ν 416 3 V_Functor_isUniversalArrow) (hf : Has P ν 350 2 V_Functor_universalArrow) (h : Has P ν 214 2 V_UniversalArrow) (f : Fu) (b : SmallU f) (y : Int) : Fz (OkM P ν) 214 [.agg f.cells, int y] (triAV (univR f y)) := by
  refine Fn.fz (fun H nx => h _ _ _ _ rfl fun hwf => ?_) triAV_frz
  unfold V_UniversalArrow
  repeat (first | simp (disch := (first | rfl | with_reducible assumption | with_reducible solve_by_elim (maxDepth := 8) [Shape.inT, Shape.inI, Shape.inC, Shape.inK, Shape.obF, Shape.obT, Shape.arI, Arr.inF] | omega)) only [S2, Nat.reduceEqDiff, Nat.reduceAdd, iput, puts, SU f] | (refine den_call rfl (by first | (simp only [SS, Nat.reduceEqDiff, Nat.reduceAdd, iput, puts, FF, frzL_cat, frzL_fu, frzL_fn0]; done) | (simp only [SS, Nat.reduceEqDiff, Nat.reduceAdd, iput, puts, FF, frzL_cat, frzL_fu, frzL_fn0]; rfl)) (by first | exact isFunctor_fz K f b) ?_))
  refine ⟨fun h1 => ?_, fun u => ?_⟩
  · refine ⟨_, rfl, H, fun _ _ h => h, ?_, rfl, Nat.le_refl _⟩
    rw [univR, if_neg h1]; rfl
  have t := u.t.1
  have o0 := t.o0
  have o8 := t.o8
  have hw : IntKind.i64.wrap (f.t.o - 1) = f.t.o - 1 := wrap_id (by omega) (by omega)
  repeat (first | simp (disch := (first | rfl | with_reducible assumption | with_reducible solve_by_elim (maxDepth := 8) [Shape.inT, Shape.inI, Shape.inC, Shape.inK, Shape.obF, Shape.obT, Shape.arI, Arr.inF] | omega)) only [S2, Nat.reduceEqDiff, Nat.reduceAdd, iput, puts, SU f, hw] | (refine den_call rfl (by first | (simp only [SS, Nat.reduceEqDiff, Nat.reduceAdd, iput, puts, FF, frzL_cat, frzL_fu, frzL_fn0]; done) | (simp only [SS, Nat.reduceEqDiff, Nat.reduceAdd, iput, puts, FF, frzL_cat, frzL_fu, frzL_fn0]; rfl)) (by first | exact (inRange_ok K.inRange y 0 (f.t.o - 1)).fzb) ?_))
  refine ⟨fun h1 => ?_, fun h1 => ?_⟩
  · refine ⟨_, rfl, H, fun _ _ h => h, ?_, rfl, Nat.le_refl _⟩
    rw [univR, if_pos u, if_neg (fun h => h1 ⟨h.1, by have := h.2; omega⟩)]; rfl
  have oy : Ob f.t y := ⟨h1.1, by omega⟩
  repeat (first | simp (disch := (first | rfl | with_reducible assumption | with_reducible solve_by_elim (maxDepth := 8) [Shape.inT, Shape.inI, Shape.inC, Shape.inK, Shape.obF, Shape.obT, Shape.arI, Arr.inF] | omega)) only [S2, Nat.reduceEqDiff, Nat.reduceAdd, iput, puts, SU f, univ_ext] | (refine den_call rfl (by first | (simp only [SS, Nat.reduceEqDiff, Nat.reduceAdd, iput, puts, FF, frzL_cat, frzL_fu, frzL_fn0]; done) | (simp only [SS, Nat.reduceEqDiff, Nat.reduceAdd, iput, puts, FF, frzL_cat, frzL_fu, frzL_fn0]; rfl)) (by first | exact univ_fz hh K.thn hu hf f u b y) ?_))
  refine ⟨fun h2 => ?_, fun h2 => ?_⟩
  · refine ⟨_, rfl, H, fun _ _ h => h, ?_, rfl, Nat.le_refl _⟩
    rw [univR, if_pos u, if_pos oy]
    cases hq : univO f y with
    | none => rfl
    | some p => rw [hq] at h2; simp at h2
  · refine ⟨_, rfl, H, fun _ _ h => h, ?_, rfl, Nat.le_refl _⟩
    rw [univR, if_pos u, if_pos oy]
    cases hq : univO f y with
    | none => rw [hq] at h2; simp at h2
    | some p => rfl
def V_spec_UniversalArrow : Vc :=
  .op true (.p .box [.t 0]) <|
  .op true (.p (.ld (some 12)) [.t 2]) <|
  .op true (.call (.f 256) [.t 3]) <|
  .op true (.p .bnot [.t 4]) <|
  .br 5
   (.ret [(.c (int 0), none), (.c (int 0), none), (.c (int 1), none)])
   (.op true (.p (.fad 5) [.t 2]) <|
   .op true (.p (.ld (some 5)) [.t 6]) <|
   .op true (.call (.f 284) [.t 7, .t 1]) <|
   .op true (.p .bnot [.t 8]) <|
   .br 9
    (.ret [(.c (int 0), none), (.c (int 0), none), (.c (int 2), none)])
    (.op true (.p (.ld (some 12)) [.t 2]) <|
    .op true (.call (.f 349) [.t 10, .t 1]) <|
    .op true (.p (.ext 0) [.t 11]) <|
    .op true (.p (.ext 1) [.t 11]) <|
    .op true (.p (.ext 2) [.t 11]) <|
    .op true (.p .bnot [.t 14]) <|
    .br 15
     (.ret [(.c (int 0), none), (.c (int 0), none), (.c (int 4), none)])
     (.ret [(.t 12, none), (.t 13, none), (.c (int 0), none)])))
theorem sUniversalArrow_fz (K : HSpecU P ν) (hob : Has P ν 284 2 V_spec_l02Object) (hh : Has P ν 309 3 V_spec_l02Hom) (ht : Has P ν 253 3 V_spec_l02Then) (hl : Has P ν 429 5 V_spec_l15Lifts) (hu : Has P ν 415 4 V_spec_l15Universal) (hf : Has P ν 349 2 V_spec_l15Find) (h : Has P ν 213 2 V_spec_UniversalArrow) (f : Fu) (b : SmallU f) (y : Int) : Fz (OkM P ν) 213 [.agg f.cells, int y] (triAV (univR f y)) := by
  refine Fn.fz (fun H nx => h _ _ _ _ rfl fun hwf => ?_) triAV_frz
  unfold V_spec_UniversalArrow
  repeat (first | simp (disch := (first | rfl | with_reducible assumption | with_reducible solve_by_elim (maxDepth := 8) [Shape.inT, Shape.inI, Shape.inC, Shape.inK, Shape.obF, Shape.obT, Shape.arI, Arr.inF] | omega)) only [S2, Nat.reduceEqDiff, Nat.reduceAdd, iput, puts, SU f] | (refine den_call rfl (by first | (simp only [SS, Nat.reduceEqDiff, Nat.reduceAdd, iput, puts, FF, frzL_cat, frzL_fu, frzL_fn0]; done) | (simp only [SS, Nat.reduceEqDiff, Nat.reduceAdd, iput, puts, FF, frzL_cat, frzL_fu, frzL_fn0]; rfl)) (by first | exact l06Is_fz K f b) ?_))
  refine ⟨fun h1 => ?_, fun u => ?_⟩
  · refine ⟨_, rfl, H, fun _ _ h => h, ?_, rfl, Nat.le_refl _⟩
    rw [univR, if_neg h1]; rfl
  repeat (first | simp (disch := (first | rfl | with_reducible assumption | with_reducible solve_by_elim (maxDepth := 8) [Shape.inT, Shape.inI, Shape.inC, Shape.inK, Shape.obF, Shape.obT, Shape.arI, Arr.inF] | omega)) only [S2, Nat.reduceEqDiff, Nat.reduceAdd, iput, puts, SU f] | (refine den_call rfl (by first | (simp only [SS, Nat.reduceEqDiff, Nat.reduceAdd, iput, puts, FF, frzL_cat, frzL_fu, frzL_fn0]; done) | (simp only [SS, Nat.reduceEqDiff, Nat.reduceAdd, iput, puts, FF, frzL_cat, frzL_fu, frzL_fn0]; rfl)) (by first | exact l02Object_fz hob f.t y) ?_))
  refine ⟨fun h1 => ?_, fun oy => ?_⟩
  · refine ⟨_, rfl, H, fun _ _ h => h, ?_, rfl, Nat.le_refl _⟩
    rw [univR, if_pos u, if_neg (show ¬ Ob f.t y from h1)]; rfl
  have oy : Ob f.t y := oy
  repeat (first | simp (disch := (first | rfl | with_reducible assumption | with_reducible solve_by_elim (maxDepth := 8) [Shape.inT, Shape.inI, Shape.inC, Shape.inK, Shape.obF, Shape.obT, Shape.arI, Arr.inF] | omega)) only [S2, Nat.reduceEqDiff, Nat.reduceAdd, iput, puts, SU f, univ_ext] | (refine den_call rfl (by first | (simp only [SS, Nat.reduceEqDiff, Nat.reduceAdd, iput, puts, FF, frzL_cat, frzL_fu, frzL_fn0]; done) | (simp only [SS, Nat.reduceEqDiff, Nat.reduceAdd, iput, puts, FF, frzL_cat, frzL_fu, frzL_fn0]; rfl)) (by first | exact l15Find_fz hh ht hl hu hf f u b y) ?_))
  refine ⟨fun h2 => ?_, fun h2 => ?_⟩
  · refine ⟨_, rfl, H, fun _ _ h => h, ?_, rfl, Nat.le_refl _⟩
    rw [univR, if_pos u, if_pos oy]
    cases hq : univO f y with
    | none => rfl
    | some p => rw [hq] at h2; simp at h2
  · refine ⟨_, rfl, H, fun _ _ h => h, ?_, rfl, Nat.le_refl _⟩
    rw [univR, if_pos u, if_pos oy]
    cases hq : univO f y with
    | none => rw [hq] at h2; simp at h2
    | some p => rfl
theorem UniversalArrow_both (K : HFun P ν) (hh : Has P ν 33 3 V_Category_hom) (hu : Has P ν 416 3 V_Functor_isUniversalArrow) (hf : Has P ν 350 2 V_Functor_universalArrow) (h : Has P ν 214 2 V_UniversalArrow) (KS : HSpecU P ν) (h1 : Has P ν 284 2 V_spec_l02Object) (h2 : Has P ν 309 3 V_spec_l02Hom) (h3 : Has P ν 253 3 V_spec_l02Then) (h4 : Has P ν 429 5 V_spec_l15Lifts) (h5 : Has P ν 415 4 V_spec_l15Universal) (h6 : Has P ν 349 2 V_spec_l15Find) (h' : Has P ν 213 2 V_spec_UniversalArrow) (f : Fu) (b : SmallU f) (y : Int) :
    ∃ x e k : Int, Fz (OkM P ν) 214 [.agg f.cells, int y] (.tup [int x, int e, int k]) ∧ Fz (OkM P ν) 213 [.agg f.cells, int y] (.tup [int x, int e, int k]) :=
  ⟨_, _, _, UniversalArrow_fz K hh hu hf h f b y, sUniversalArrow_fz KS h1 h2 h3 h4 h5 h6 h' f b y⟩
end Go.Av
