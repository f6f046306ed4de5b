/-
  Subobjects: the program's and the reference's.
-/
import Derived.Test.YtbikcomiocdkpaaAvQ2
namespace Go.Av
open Classical
set_option linter.unusedSimpArgs false
set_option linter.unusedVariables false
variable {P : Program} {ν : Nat → FuncId}

theorem liftB_iff {c : Cat} {a b : Int} : liftB c a b = true ↔ ∃ k, Arr c k ∧ c.F k = c.F a ∧ c.T k = c.F b ∧ c.K k b = a := by
  unfold liftB
  rw [decide_eq_true_eq, List.length_pos_iff_exists_mem]
  constructor
  · rintro ⟨k, hk⟩
    rw [liftsL_eq] at hk
    obtain ⟨j, rfl, h1, h2⟩ := selL_mem hk
    simp only [Bool.and_eq_true, beq_iff_eq] at h2
    exact ⟨j, ⟨by omega, by omega⟩, h2.1.1, h2.1.2, h2.2⟩
  · rintro ⟨k, a, h1, h2, h3⟩
    refine ⟨k, ?_⟩
    rw [liftsL_eq]
    obtain ⟨a1, a2⟩ := a.nat
    exact selL_mem_iff.2 ⟨k.toNat, a2.symm, a1, by rw [a2]; simp [h1, h2, h3]⟩
theorem liftB_trans {c : Cat} (k : IsCat c) {a b d : Int} (ha : Arr c a) (hb : Arr c b) (hd : Arr c d) (h1 : liftB c a b = true) (h2 : liftB c b d = true) : liftB c a d = true := by
  obtain ⟨p, ap, p1, p2, p3⟩ := liftB_iff.1 h1
  obtain ⟨q, aq, q1, q2, q3⟩ := liftB_iff.1 h2
  have s := k.1
  have e : c.T p = c.F q := by rw [p2, q1]
  refine liftB_iff.2 ⟨c.K p q, s.arK ap aq e, ?_, ?_, ?_⟩
  · rw [s.kF ap aq e, p1]
  · rw [s.kT ap aq e, q2]
  · rw [k.assoc ap aq hd e q2, q3, p3]
def alikeB (c : Cat) (a b : Int) : Bool := liftB c a b && liftB c b a
theorem alikeB_trans {c : Cat} (k : IsCat c) {a b d : Int} (ha : Arr c a) (hb : Arr c b) (hd : Arr c d) (h1 : alikeB c a b = true) (h2 : alikeB c b d = true) : alikeB c a d = true := by
  simp only [alikeB, Bool.and_eq_true] at *
  exact ⟨liftB_trans k ha hb hd h1.1 h2.1, liftB_trans k hd hb ha h2.2 h1.2⟩
noncomputable def memL (c : Cat) (x : Int) : List Int := (intoL c x).filter fun m => decide (Mono c m)
theorem memL_sel (c : Cat) (x : Int) : memL c x = selL c.f.length fun k => c.T k == x && decide (Mono c k) := by
  unfold memL intoL; rw [selL_filter]
theorem memL_arr {c : Cat} {x m : Int} (h : m ∈ memL c x) : Arr c m := (intoL_arr (List.mem_filter.1 h).1).1
theorem memL_len {c : Cat} {x : Int} (s : Shape c) : (memL c x).length ≤ 40 := Nat.le_trans (List.length_filter_le _ _) (Nat.le_trans intoL_len s.n40)
noncomputable def subC (c : Cat) (x : Int) : Int := code (IsCat c) (0 ≤ x ∧ x < c.o)
noncomputable def subR (c : Cat) (x : Int) : List (List Int) := if subC c x = 0 then subL (alikeB c) (memL c x) else []
theorem OwnD.weak {R : List (List Int)} {v : AV} {H : Hp} {lo lo' hi : Nat} (h : OwnD R v H lo hi) (hh : lo' ≤ lo) : OwnD R v H lo' hi := by
  rcases h with h | ⟨o, cells, h1, h2, h3, h4, h5, h6, h7⟩
  · exact .inl h
  · refine .inr ⟨o, cells, h1, by omega, h3, h4, h5, fun k a hk => ?_, h7⟩
    rcases h6 k a hk with q | ⟨o', q1, q2, q3, q4, q5⟩
    · exact .inl q
    · exact .inr ⟨o', q1, by omega, q3, q4, q5⟩
theorem frzL_fn1 {H : Hp} {i : Nat} {x : List AV} {xs : List AV} : frzL H (.fn i [.ptr x 0] :: xs) = (frzL H xs).map fun ys => .fn i [.ptr x 0] :: ys := by
  have : frz H fuel (.fn i [.ptr x 0]) = Option.some (.fn i [.ptr x 0]) := by simp [fuel, frz, frz_ptr]
  simp only [frzL, List.mapM_cons, this]; cases List.mapM (frz H fuel) xs <;> rfl

def V_SubobjectsOf_1 : Vc :=
  .op true (.call (.f 27) [.t 2, .t 0, .t 1]) <|
  .op true (.p .len [.t 3]) <|
  .op true (.p (.bin .gtr) [.t 4, .c (int 0)]) <|
  .ret [(.t 5, none)]
theorem below1_fz (hh : Has P ν 33 3 V_Category_hom) (ht : Has P ν 34 3 V_Category_then) (hl : Has P ν 27 3 V_Category_lifts) (h : Has P ν 332 3 V_SubobjectsOf_1) (c : Cat) (s : Shape c) {m n : Int} (am : Arr c m) (an : Arr c n) : Fz (OkM P ν) 332 ([int m, int n] ++ [.ptr c.cells 0]) (bool (liftB c m n)) := by
  refine Fn.fzb fun H nx => h _ _ _ _ rfl fun hwf => ?_
  unfold V_SubobjectsOf_1
  have ll := liftsL_le (c := c) (f := m) (g := n) s
  repeat (first | simp (disch := (first | rfl | with_reducible assumption | with_reducible solve_by_elim (maxDepth := 8) [Shape.inT, Shape.inI, Shape.inC, Shape.inK, Shape.obF, Shape.obT, Shape.arI, Arr.inF] | omega)) only [S2, Nat.reduceEqDiff, Nat.reduceAdd, iput, puts] | (refine den_call rfl (by first | (simp only [SS, Nat.reduceEqDiff, Nat.reduceAdd, iput, puts, FF, frzL_cat]; done) | (simp only [SS, Nat.reduceEqDiff, Nat.reduceAdd, iput, puts, FF, frzL_cat]; rfl)) (by first | exact s.liftsFz hh ht hl am an) ?_) | (refine den_calli rfl (by first | (simp only [SS, Nat.reduceEqDiff, Nat.reduceAdd, iput, puts, FF, frzL_cat]; done) | (simp only [SS, Nat.reduceEqDiff, Nat.reduceAdd, iput, puts, FF, frzL_cat]; rfl)) (by first | exact s.liftsFz hh ht hl am an) ?_))
  refine ⟨_, rfl, H, fun _ _ h => h, ?_, rfl, Nat.le_refl _⟩
  show bool (decide _) = bool _
  congr 1
  unfold liftB
  exact decide_eq_decide.2 (by omega)

def V_SubobjectsOf : Vc :=
  .op true (.p .box [.t 0]) <|
  .op true (.p (.msl 1 [int 0] [(0, 1)]) [.t 1]) <|
  .op true (.call (.f 306) [.t 2, .t 3]) <|
  .op true (.p (.bin .neq) [.t 4, .c (int 0)]) <|
  .br 5
   (.ret [(.c (.nil), none), (.t 4, none)])
   (.op true (.p (.msl 0 [] []) []) <|
   .op true (.call (.f 330) [.t 2, .t 1]) <|
   .op true (.p .len [.t 7]) <|
   .loop 0 [.t 6, .c (int 0)] <|
   .op true (.p (.bin .lss) [.t 10, .t 8]) <|
   .br 11
    (.op true (.p (.iad 1) [.t 7, .t 10]) <|
    .op true (.p (.ld none) [.t 12]) <|
    .op true (.call (.f 289) [.t 2, .t 13]) <|
    .br 14
     (.op true (.p (.msl 1 [int 0] [(0, 1)]) [.t 13]) <|
     .op true (.app 1 (.t 9) (.t 15)) <|
     .op true (.p (.bin .add) [.t 10, .c (int 1)]) <|
     .again 0 [.t 16, .t 17])
     (.op true (.p (.bin .add) [.t 10, .c (int 1)]) <|
     .again 0 [.t 9, .t 15]))
    (.op true (.p (.mkf 332) [.t 2]) <|
    .op true (.callo (.f 331) [.t 9, .t 12]) <|
    .ret [(.t 13, none), (.c (int 0), none)]))
set_option maxHeartbeats 2000000 in
theorem SubobjectsOf_ok (K : HCat P ν) (hh : Has P ν 33 3 V_Category_hom) (M : HMono1 P ν) (hl : Has P ν 27 3 V_Category_lifts) (hin : Has P ν 330 2 V_Category_into) (ho : Has P ν 306 2 V_objectCode) (h1' : Has P ν 332 3 V_SubobjectsOf_1) (hcl : Has P ν 331 2 V_classesOf) (h : Has P ν 187 2 V_SubobjectsOf) (c : Cat) (b : Small c) (x : Int) (nx : Nat) :
    OkM P ν 187 [.agg c.cells, int x] hempty nx (IsQ (subR c x) (subC c x) nx) := by
  refine h _ _ _ _ rfl fun hwf => ?_
  unfold V_SubobjectsOf
  have cO := objectCode_fz K ho c b [x] (by simp) (Wn_one x c.o)
  rw [show code (IsCat c) (0 ≤ x ∧ x < c.o) = subC c x from rfl] at cO
  repeat (first | simp (disch := (first | rfl | with_reducible assumption | with_reducible solve_by_elim (maxDepth := 8) [Shape.inT, Shape.inI, Shape.inC, Shape.inK, Shape.obF, Shape.obT, Shape.arI, Arr.inF] | omega)) only [S2, Nat.reduceEqDiff, Nat.reduceAdd, iput, puts] | (refine den_call rfl (by first | (simp only [SS, Nat.reduceEqDiff, Nat.reduceAdd, iput, puts, FF, frzL_cat]; done) | (simp only [SS, Nat.reduceEqDiff, Nat.reduceAdd, iput, puts, FF, frzL_cat]; rfl)) (by first | exact cO) ?_) | (refine den_calli rfl (by first | (simp only [SS, Nat.reduceEqDiff, Nat.reduceAdd, iput, puts, FF, frzL_cat]; done) | (simp only [SS, Nat.reduceEqDiff, Nat.reduceAdd, iput, puts, FF, frzL_cat]; rfl)) (by first | exact cO) ?_))
  refine ⟨fun h0 => ?_, fun h0 => ?_⟩
  · exact ⟨_, rfl, hempty, fun _ _ h => h, .nil, rfl, Nat.le_refl _, by rw [subR, if_neg h0]; exact OwnD.nil, fun o c hc => by cases hc⟩
  obtain ⟨hc, hx⟩ := code_zero.1 h0
  have s := hc.1
  have n40 := s.n40
  have inF : Fz (OkM P ν) 330 [.ptr c.cells 0, int x] (islice (intoL c x)) := OkM.fz (fun H nx => into_ok hin c s x H nx) fun _ _ _ hh => hh.frz _
  have il := intoL_len (c := c) (x := x)
  repeat (first | simp (disch := (first | rfl | with_reducible assumption | with_reducible solve_by_elim (maxDepth := 8) [Shape.inT, Shape.inI, Shape.inC, Shape.inK, Shape.obF, Shape.obT, Shape.arI, Arr.inF] | omega)) only [S2, Nat.reduceEqDiff, Nat.reduceAdd, iput, puts] | (refine den_call rfl (by first | (simp only [SS, Nat.reduceEqDiff, Nat.reduceAdd, iput, puts, FF, frzL_cat]; done) | (simp only [SS, Nat.reduceEqDiff, Nat.reduceAdd, iput, puts, FF, frzL_cat]; rfl)) (by first | exact inF) ?_) | (refine den_calli rfl (by first | (simp only [SS, Nat.reduceEqDiff, Nat.reduceAdd, iput, puts, FF, frzL_cat]; done) | (simp only [SS, Nat.reduceEqDiff, Nat.reduceAdd, iput, puts, FF, frzL_cat]; rfl)) (by first | exact inF) ?_))
  refine den_fil (intoL c x) (fun m => decide (Mono c m)) hempty nx rfl (Nat.le_refl _) rfl fun i v H1 n1 hi hI => ?_
  by_cases hlt : i < (intoL c x).length
  · have i1 : In (intoL c x) (i : Int) := In.nat hlt
    obtain ⟨am, tm⟩ := intoL_arr (gI_mem i1)
    have fl := take_filter_len (intoL c x) (fun m => decide (Mono c m)) i
    repeat (first | simp (disch := (first | rfl | with_reducible assumption | with_reducible solve_by_elim (maxDepth := 8) [Shape.inT, Shape.inI, Shape.inC, Shape.inK, Shape.obF, Shape.obT, Shape.arI, Arr.inF] | omega)) only [S2, Nat.reduceEqDiff, Nat.reduceAdd, iput, puts, hlt] | (refine den_call rfl (by first | (simp only [SS, Nat.reduceEqDiff, Nat.reduceAdd, iput, puts, FF, frzL_cat]; done) | (simp only [SS, Nat.reduceEqDiff, Nat.reduceAdd, iput, puts, FF, frzL_cat]; rfl)) (by first | exact s.isMono1_fz hh K.thn M _ am.1 am.2) ?_) | (refine den_calli rfl (by first | (simp only [SS, Nat.reduceEqDiff, Nat.reduceAdd, iput, puts, FF, frzL_cat]; done) | (simp only [SS, Nat.reduceEqDiff, Nat.reduceAdd, iput, puts, FF, frzL_cat]; rfl)) (by first | exact s.isMono1_fz hh K.thn M _ am.1 am.2) ?_))
    refine ⟨fun e => ?_, fun e => ?_⟩
    · try simp (disch := (first | rfl | with_reducible assumption | with_reducible solve_by_elim (maxDepth := 8) [Shape.inT, Shape.inI, Shape.inC, Shape.inK, Shape.obF, Shape.obT, Shape.arI, Arr.inF] | omega)) only [S2, Nat.reduceEqDiff, Nat.reduceAdd, iput, puts]
      refine den_appI (m := [gI (intoL c x) i]) (H0 := hempty) (nx0 := nx) hI rfl (by simp) (by simp; omega) fun v2 H2 nx2 hI2 => ?_
      try simp (disch := (first | rfl | with_reducible assumption | with_reducible solve_by_elim (maxDepth := 8) [Shape.inT, Shape.inI, Shape.inC, Shape.inK, Shape.obF, Shape.obT, Shape.arI, Arr.inF] | omega)) only [S2, Nat.reduceEqDiff, Nat.reduceAdd, iput, puts]
      exact fil_take rfl hlt (decide_eq_true e) hI2
    · try simp (disch := (first | rfl | with_reducible assumption | with_reducible solve_by_elim (maxDepth := 8) [Shape.inT, Shape.inI, Shape.inC, Shape.inK, Shape.obF, Shape.obT, Shape.arI, Arr.inF] | omega)) only [S2, Nat.reduceEqDiff, Nat.reduceAdd, iput, puts]
      exact fil_skip rfl hlt (decide_eq_false e) hI
  · have hie : i = (intoL c x).length := by omega
    subst hie
    rw [List.take_length] at hI
    have hI : IsI (memL c x) hempty nx v H1 n1 := hI
    have pmk : pvf H1 (.mkf 332) [.ptr c.cells 0] = Option.some (.fn 332 [.ptr c.cells 0]) := rfl
    try simp (disch := (first | rfl | with_reducible assumption | with_reducible solve_by_elim (maxDepth := 8) [Shape.inT, Shape.inI, Shape.inC, Shape.inK, Shape.obF, Shape.obT, Shape.arI, Arr.inF] | omega)) only [S2, Nat.reduceEqDiff, Nat.reduceAdd, iput, puts, hlt, pmk]
    refine den_callo (fc := (331, [])) (ys := [islice (memL c x), .fn 332 [.ptr c.cells 0]]) rfl (by simp only [SS, Nat.reduceEqDiff, Nat.reduceAdd, iput, puts, FF, frzL_cat, frzL_ofN (hI.frz 5), frzL_fn1]) (classesOf_ok hcl (memL c x) (memL_len s) (Arr c) (fun m hm => memL_arr hm) (liftB c) (fun a b d pa pb pd q1 q2 => alikeB_trans hc pa pb pd q1 q2) 332 [.ptr c.cells 0] (fun H xs => frzL_fn1) (fun H => by simp only [FF, frzL_cat]) (fun a b pa pb => below1_fz hh K.thn hl h1' c s pa pb) n1) ?_ fun u H' nx' hu => ?_
    · obtain ⟨v, H', nx', g1, g2, _⟩ := OwnD.some (subL (alikeB c) (memL c x)) hempty n1
      exact ⟨v, keepH n1 H', nx', g1, g2.keep, keepH_cln _ _⟩
    obtain ⟨g1, g2, g3⟩ := hu
    have hn1 := hI.1
    refine ⟨g2.cln _, g3, ?_⟩
    refine ⟨_, rfl, keepH nx (hmerge n1 H1 H'), keepH_sub _ _, u, ?_, by omega, ?_, keepH_cln _ _⟩
    · rw [h0]; rfl
    · rw [subR, if_pos h0]
      exact ((g2.mono (Nat.le_refl _) fun o h1 h2 => by simp only [hmerge]; rw [if_neg (by omega)]).weak hn1).keep

def V_spec_l05Below : Vc :=
  .op true (.p .box [.t 0]) <|
  .loop 0 [.c (int 0)] <|
  .op true (.p (.fad 1) [.t 3]) <|
  .op true (.p (.ld none) [.t 5]) <|
  .op true (.p .len [.t 6]) <|
  .op true (.p (.bin .lss) [.t 4, .t 7]) <|
  .br 8
   (.op true (.p (.fad 1) [.t 3]) <|
   .op true (.p (.ld none) [.t 9]) <|
   .op true (.p (.iad 1) [.t 10, .t 4]) <|
   .op true (.p (.ld none) [.t 11]) <|
   .op true (.p (.fad 1) [.t 3]) <|
   .op true (.p (.ld none) [.t 13]) <|
   .op true (.p (.iad 1) [.t 14, .t 1]) <|
   .op true (.p (.ld none) [.t 15]) <|
   .op true (.p (.bin .eql) [.t 12, .t 16]) <|
   .br 17
    (.op true (.p (.fad 2) [.t 3]) <|
    .op true (.p (.ld none) [.t 18]) <|
    .op true (.p (.iad 1) [.t 19, .t 4]) <|
    .op true (.p (.ld none) [.t 20]) <|
    .op true (.p (.fad 1) [.t 3]) <|
    .op true (.p (.ld none) [.t 22]) <|
    .op true (.p (.iad 1) [.t 23, .t 2]) <|
    .op true (.p (.ld none) [.t 24]) <|
    .op true (.p (.bin .eql) [.t 21, .t 25]) <|
    .br 26
     (.op true (.p (.fad 4) [.t 3]) <|
     .op true (.p (.ld none) [.t 27]) <|
     .op true (.p (.iad 1) [.t 28, .t 4]) <|
     .op true (.p (.ld none) [.t 29]) <|
     .op true (.p (.iad 1) [.t 30, .t 2]) <|
     .op true (.p (.ld none) [.t 31]) <|
     .op true (.p (.bin .eql) [.t 32, .t 1]) <|
     .br 33
      (.ret [(.c (bool true), none)])
      (.op true (.p (.bin .add) [.t 4, .c (int 1)]) <|
      .again 0 [.t 34]))
     (.op true (.p (.bin .add) [.t 4, .c (int 1)]) <|
     .again 0 [.t 27]))
    (.op true (.p (.bin .add) [.t 4, .c (int 1)]) <|
    .again 0 [.t 18]))
   (.ret [(.c (bool false), none)])
set_option maxHeartbeats 1000000 in
theorem l05Below_fz (h : Has P ν 407 3 V_spec_l05Below) (c : Cat) (s : Shape c) {m n : Int} (am : Arr c m) (an : Arr c n) : Fz (OkM P ν) 407 [.agg c.cells, int m, int n] (bool (liftB c m n)) := by
  refine Fn.fzb fun H nx => h _ _ _ _ rfl fun hwf => ?_
  unfold V_spec_l05Below
  have n40 := s.n40
  have tl := s.tl
  have i1 : In c.f m := am.inF
  have i2 : In c.f n := an.inF
  have no : (∀ k : Nat, k < c.f.length → ¬ (c.F k = c.F m ∧ c.T k = c.F n ∧ c.K k n = m)) → liftB c m n = false := fun q => by
    rw [Bool.eq_false_iff]
    intro e
    obtain ⟨k, ak, e1, e2, e3⟩ := liftB_iff.1 e
    obtain ⟨a1, a2⟩ := ak.nat
    exact q k.toNat a1 (by rw [a2]; exact ⟨e1, e2, e3⟩)
  try simp (disch := (first | rfl | with_reducible assumption | with_reducible solve_by_elim (maxDepth := 8) [Shape.inT, Shape.inI, Shape.inC, Shape.inK, Shape.obF, Shape.obT, Shape.arI, Arr.inF] | omega)) only [S2, Nat.reduceEqDiff, Nat.reduceAdd, iput, puts]
  refine den_for c.f.length (fun i => ∀ k : Nat, k < i → ¬ (c.F k = c.F m ∧ c.T k = c.F n ∧ c.K k n = m)) (fun k hk => by omega) fun i hi hp => ?_
  have step : i < c.f.length → ¬ (c.F i = c.F m ∧ c.T i = c.F n ∧ c.K i n = m) → Up c.f.length (fun i => ∀ k : Nat, k < i → ¬ (c.F k = c.F m ∧ c.T k = c.F n ∧ c.K k n = m)) H nx i [int ((i + 1 : Nat) : Int)] H nx := fun hlt q => up rfl hlt fun k hk => by
    by_cases ek : k = i
    · rw [ek]; exact q
    · exact hp k (by omega)
  by_cases hlt : i < c.f.length
  · have ak : Arr c (i : Int) := Arr.of hlt
    have i3 : In c.f (i : Int) := ak.inF
    have i4 : In c.t (i : Int) := s.inT ak
    try simp (disch := (first | rfl | with_reducible assumption | with_reducible solve_by_elim (maxDepth := 8) [Shape.inT, Shape.inI, Shape.inC, Shape.inK, Shape.obF, Shape.obT, Shape.arI, Arr.inF] | omega)) only [S2, Nat.reduceEqDiff, Nat.reduceAdd, iput, puts, hlt]
    refine ⟨fun e1 => ?_, fun e1 => ?_⟩
    · try simp (disch := (first | rfl | with_reducible assumption | with_reducible solve_by_elim (maxDepth := 8) [Shape.inT, Shape.inI, Shape.inC, Shape.inK, Shape.obF, Shape.obT, Shape.arI, Arr.inF] | omega)) only [S2, Nat.reduceEqDiff, Nat.reduceAdd, iput, puts]
      refine ⟨fun e2 => ?_, fun e2 => ?_⟩
      · try simp (disch := (first | rfl | with_reducible assumption | with_reducible solve_by_elim (maxDepth := 8) [Shape.inT, Shape.inI, Shape.inC, Shape.inK, Shape.obF, Shape.obT, Shape.arI, Arr.inF] | omega)) only [S2, Nat.reduceEqDiff, Nat.reduceAdd, iput, puts]
        refine ⟨fun e3 => ?_, fun e3 => ?_⟩
        · refine ⟨_, rfl, H, fun _ _ h => h, ?_, rfl, Nat.le_refl _⟩
          rw [liftB_iff.2 ⟨i, ak, e1, e2, e3⟩]; rfl
        · try simp (disch := (first | rfl | with_reducible assumption | with_reducible solve_by_elim (maxDepth := 8) [Shape.inT, Shape.inI, Shape.inC, Shape.inK, Shape.obF, Shape.obT, Shape.arI, Arr.inF] | omega)) only [S2, Nat.reduceEqDiff, Nat.reduceAdd, iput, puts]
          exact step hlt fun q => e3 q.2.2
      · try simp (disch := (first | rfl | with_reducible assumption | with_reducible solve_by_elim (maxDepth := 8) [Shape.inT, Shape.inI, Shape.inC, Shape.inK, Shape.obF, Shape.obT, Shape.arI, Arr.inF] | omega)) only [S2, Nat.reduceEqDiff, Nat.reduceAdd, iput, puts]
        exact step hlt fun q => e2 q.2.1
    · try simp (disch := (first | rfl | with_reducible assumption | with_reducible solve_by_elim (maxDepth := 8) [Shape.inT, Shape.inI, Shape.inC, Shape.inK, Shape.obF, Shape.obT, Shape.arI, Arr.inF] | omega)) only [S2, Nat.reduceEqDiff, Nat.reduceAdd, iput, puts]
      exact step hlt fun q => e1 q.1
  · try simp (disch := (first | rfl | with_reducible assumption | with_reducible solve_by_elim (maxDepth := 8) [Shape.inT, Shape.inI, Shape.inC, Shape.inK, Shape.obF, Shape.obT, Shape.arI, Arr.inF] | omega)) only [S2, Nat.reduceEqDiff, Nat.reduceAdd, iput, puts, hlt]
    refine ⟨_, rfl, H, fun _ _ h => h, ?_, rfl, Nat.le_refl _⟩
    rw [no fun k hk => hp k (by omega)]; rfl

theorem map_same {f : List Int → List Int} {l : List (List Int)} (h : ∀ x ∈ l, f x = x) : l.map f = l := by
  induction l with
  | nil => rfl
  | cons a l ih => rw [List.map_cons, h a (by simp), ih fun x hx => h x (by simp [hx])]
def subF (e : Int → Int → Bool) (m : Int) (l : List Int) : List Int := if e m (l.getD 0 0) then l ++ [m] else l
theorem subStep_eq (e : Int → Int → Bool) (out : List (List Int)) (m : Int) : subStep e out m = if out.any (fun l => e m (l.getD 0 0)) then out.map (subF e m) else out.map (subF e m) ++ [[m]] := by
  unfold subStep
  split
  · rfl
  · rename_i hno
    congr 1
    refine (map_same fun l hl => ?_).symm
    unfold subF
    rw [if_neg]
    intro q
    exact hno (List.any_eq_true.2 ⟨l, hl, q⟩)

def V_spec_l05Subobjects : Vc :=
  .op true (.p .box [.t 0]) <|
  .op true (.p (.msl 0 [] []) []) <|
  .loop 0 [.t 3, .c (int 0)] <|
  .op true (.p (.fad 1) [.t 2]) <|
  .op true (.p (.ld none) [.t 6]) <|
  .op true (.p .len [.t 7]) <|
  .op true (.p (.bin .lss) [.t 5, .t 8]) <|
  .br 9
   (.op true (.p (.fad 2) [.t 2]) <|
   .op true (.p (.ld none) [.t 10]) <|
   .op true (.p (.iad 1) [.t 11, .t 5]) <|
   .op true (.p (.ld none) [.t 12]) <|
   .op true (.p (.bin .neq) [.t 13, .t 1]) <|
   .br 14
    (.op true (.p (.bin .add) [.t 5, .c (int 1)]) <|
    .again 0 [.t 4, .t 15])
    (.op true (.p (.ld (some 5)) [.t 2]) <|
    .op true (.call (.f 287) [.t 15, .t 5]) <|
    .op true (.p .bnot [.t 16]) <|
    .br 17
     (.op true (.p (.bin .add) [.t 5, .c (int 1)]) <|
     .again 0 [.t 4, .t 18])
     (.op true (.p (.msl 0 [] []) []) <|
     .loop 1 [.c (bool false), .t 18, .c (int 0)] <|
     .op true (.p .len [.t 4]) <|
     .op true (.p (.bin .lss) [.t 21, .t 22]) <|
     .br 23
      (.op true (.p (.iad 1) [.t 4, .t 21]) <|
      .op true (.p (.ld none) [.t 24]) <|
      .op true (.callo (.f 259) [.t 25]) <|
      .op true (.p (.ld (some 5)) [.t 2]) <|
      .op true (.p (.iad 1) [.t 26, .c (int 0)]) <|
      .op true (.p (.ld none) [.t 28]) <|
      .op true (.call (.f 407) [.t 27, .t 5, .t 29]) <|
      .br 30
       (.op true (.p (.ld (some 5)) [.t 2]) <|
       .op true (.p (.iad 1) [.t 26, .c (int 0)]) <|
       .op true (.p (.ld none) [.t 32]) <|
       .op true (.call (.f 407) [.t 31, .t 33, .t 5]) <|
       .br 34
        (.op true (.p (.msl 1 [int 0] [(0, 1)]) [.t 5]) <|
        .op true (.app 1 (.t 26) (.t 35)) <|
        .op true (.mslm 1 1 [.nil] [(0, 1)] [.t 36]) <|
        .op true (.app 1 (.t 20) (.t 37)) <|
        .op true (.p (.bin .add) [.t 21, .c (int 1)]) <|
        .again 1 [.c (bool true), .t 38, .t 39])
        (.op true (.mslm 1 1 [.nil] [(0, 1)] [.t 26]) <|
        .op true (.app 1 (.t 20) (.t 35)) <|
        .op true (.p (.bin .add) [.t 21, .c (int 1)]) <|
        .again 1 [.t 19, .t 36, .t 37]))
       (.op true (.mslm 1 1 [.nil] [(0, 1)] [.t 26]) <|
       .op true (.app 1 (.t 20) (.t 31)) <|
       .op true (.p (.bin .add) [.t 21, .c (int 1)]) <|
       .again 1 [.t 19, .t 32, .t 33]))
      (.op true (.p .bnot [.t 19]) <|
      .br 24
       (.op true (.mslm 1 1 [int 0] [(0, 1)] [.t 5]) <|
       .op true (.mslm 1 1 [.nil] [(0, 1)] [.t 25]) <|
       .op true (.app 1 (.t 20) (.t 26)) <|
       .op true (.p (.bin .add) [.t 5, .c (int 1)]) <|
       .again 0 [.t 27, .t 28])
       (.op true (.p (.bin .add) [.t 5, .c (int 1)]) <|
       .again 0 [.t 20, .t 25])))))
   (.ret [(.t 4, none)])
set_option maxHeartbeats 4000000 in
theorem l05Subobjects_fi (hm : Has P ν 287 2 V_spec_l05Mono) (how : Has P ν 259 1 V_spec_l01Own) (hb : Has P ν 407 3 V_spec_l05Below) (h : Has P ν 329 2 V_spec_l05Subobjects) (c : Cat) (hc : IsCat c) (x : Int) :
    Fi (OkM P ν) 329 [.agg c.cells, int x] (.sl (rows (subL (alikeB c) (memL c x))) (subL (alikeB c) (memL c x)).length) := by
  refine OkM.mono (Φ := fun r H' nx' => ∃ lo hi, OwnD (subL (alikeB c) (memL c x)) r H' lo hi) (h [.agg c.cells, int x] hempty 0 _ rfl fun hwf => ?_) fun r H' nx' ⟨lo, hi, hO⟩ => hO.frz 4
  unfold V_spec_l05Subobjects
  have s := hc.1
  have n40 := s.n40
  have tl := s.tl
  have sym : ∀ a b, alikeB c a b = alikeB c b a := fun a b => Bool.and_comm _ _
  have pm : ∀ i : Nat, i ≤ c.f.length → ∀ m ∈ selL i (fun k => c.T k == x && decide (Mono c k)), Arr c m := fun i hi m hm => by
    obtain ⟨k, rfl, h1, _⟩ := selL_mem hm
    exact ⟨by omega, by omega⟩
  try simp (disch := (first | rfl | with_reducible assumption | with_reducible solve_by_elim (maxDepth := 8) [Shape.inT, Shape.inI, Shape.inC, Shape.inK, Shape.obF, Shape.obT, Shape.arI, Arr.inF] | omega)) only [S2, Nat.reduceEqDiff, Nat.reduceAdd, iput, puts]
  refine den_loop (α := Nat × AV) (fun a => [a.2, int a.1]) (fun a H' nx' => a.1 ≤ c.f.length ∧ OwnD (subL (alikeB c) (selL a.1 fun k => c.T k == x && decide (Mono c k))) a.2 H' 0 nx') (fun a => c.f.length - a.1) (0, .nil) rfl ⟨Nat.zero_le _, OwnD.nil⟩ ?_
  rintro ⟨i, v⟩ H1 n1 ⟨hi, hI⟩
  simp only at hi hI
  by_cases hlt : i < c.f.length
  · have ai : Arr c (i : Int) := Arr.of hlt
    have i4 : In c.t (i : Int) := s.inT ai
    have ss := selL_succ i fun k => c.T k == x && decide (Mono c k)
    have sok := subL_ok (e := alikeB c) (p := Arr c) sym (pm i hi) _ (Nat.le_refl _)
    rw [List.take_length] at sok
    have sl := selL_len i fun k => c.T k == x && decide (Mono c k)
    have skip : (c.T i == x && decide (Mono c i)) = false → ∃ a' : Nat × AV, [v, int ((i + 1 : Nat) : Int)] = [a'.2, int a'.1] ∧ (a'.1 ≤ c.f.length ∧ OwnD (subL (alikeB c) (selL a'.1 fun k => c.T k == x && decide (Mono c k))) a'.2 H1 0 n1) ∧ c.f.length - a'.1 < c.f.length - i := fun q => by
      refine ⟨(i + 1, v), rfl, ⟨hlt, ?_⟩, by simp only; omega⟩
      simp only
      rw [ss, q]
      simpa using hI
    try simp (disch := (first | rfl | with_reducible assumption | with_reducible solve_by_elim (maxDepth := 8) [Shape.inT, Shape.inI, Shape.inC, Shape.inK, Shape.obF, Shape.obT, Shape.arI, Arr.inF] | omega)) only [S2, Nat.reduceEqDiff, Nat.reduceAdd, iput, puts, hlt]
    refine ⟨fun e1 => ?_, fun e1 => ?_⟩
    · try simp (disch := (first | rfl | with_reducible assumption | with_reducible solve_by_elim (maxDepth := 8) [Shape.inT, Shape.inI, Shape.inC, Shape.inK, Shape.obF, Shape.obT, Shape.arI, Arr.inF] | omega)) only [S2, Nat.reduceEqDiff, Nat.reduceAdd, iput, puts]
      exact skip (by simp [e1])
    · repeat (first | simp (disch := (first | rfl | with_reducible assumption | with_reducible solve_by_elim (maxDepth := 8) [Shape.inT, Shape.inI, Shape.inC, Shape.inK, Shape.obF, Shape.obT, Shape.arI, Arr.inF] | omega)) only [S2, Nat.reduceEqDiff, Nat.reduceAdd, iput, puts] | (refine den_call rfl (by first | (simp only [SS, Nat.reduceEqDiff, Nat.reduceAdd, iput, puts, FF, frzL_cat]; done) | (simp only [SS, Nat.reduceEqDiff, Nat.reduceAdd, iput, puts, FF, frzL_cat]; rfl)) (by first | exact s.l05Mono_fz hm (i : Int) ai.1 ai.2) ?_) | (refine den_calli rfl (by first | (simp only [SS, Nat.reduceEqDiff, Nat.reduceAdd, iput, puts, FF, frzL_cat]; done) | (simp only [SS, Nat.reduceEqDiff, Nat.reduceAdd, iput, puts, FF, frzL_cat]; rfl)) (by first | exact s.l05Mono_fz hm (i : Int) ai.1 ai.2) ?_))
      refine ⟨fun e2 => ?_, fun e2 => ?_⟩
      · try simp (disch := (first | rfl | with_reducible assumption | with_reducible solve_by_elim (maxDepth := 8) [Shape.inT, Shape.inI, Shape.inC, Shape.inK, Shape.obF, Shape.obT, Shape.arI, Arr.inF] | omega)) only [S2, Nat.reduceEqDiff, Nat.reduceAdd, iput, puts]
        exact skip (by simp [e2])
      have step : subL (alikeB c) (selL (i + 1) fun k => c.T k == x && decide (Mono c k)) = subStep (alikeB c) (subL (alikeB c) (selL i fun k => c.T k == x && decide (Mono c k))) i := by
        rw [ss, if_pos (by simp [e1, e2])]
        unfold subL
        rw [List.foldl_append]; rfl
      generalize hO : subL (alikeB c) (selL i fun k => c.T k == x && decide (Mono c k)) = out at hI sok step
      have ol := sok.len
      try simp (disch := (first | rfl | with_reducible assumption | with_reducible solve_by_elim (maxDepth := 8) [Shape.inT, Shape.inI, Shape.inC, Shape.inK, Shape.obF, Shape.obT, Shape.arI, Arr.inF] | omega)) only [S2, Nat.reduceEqDiff, Nat.reduceAdd, iput, puts]
      refine den_loop (α := Nat × AV) (fun a => [bool ((out.take a.1).any fun l => alikeB c i (l.getD 0 0)), a.2, int a.1]) (fun a H' nx' => a.1 ≤ out.length ∧ OwnD ((out.take a.1).map (subF (alikeB c) i)) a.2 H' n1 nx' ∧ n1 ≤ nx' ∧ ∀ o, o < n1 → H' o = H1 o) (fun a => out.length - a.1) (0, .nil) (by simp only [SS, Nat.reduceEqDiff, Nat.reduceAdd, iput, puts]; rfl) ⟨Nat.zero_le _, OwnD.nil, Nat.le_refl _, fun _ _ => rfl⟩ ?_
      rintro ⟨j, w⟩ H2 n2 ⟨hj, hN, hn2, keep⟩
      simp only at hj hN
      have hI2 := hI.mono (Nat.le_refl _) (fun k _ hk => keep k hk)
      by_cases hlj : j < out.length
      · obtain ⟨r1, r2, r3⟩ := sok.row j hlj
        have tk := take_succ_rows hlj
        obtain ⟨o, o', cells, rfl, g1, g2, g3, g4, g5, g6, g7, g8, g9, _⟩ := hI2.at hlj r1
        have l0 : 0 < (out.getD j []).length := List.length_pos_iff.2 r1
        generalize hrow : out.getD j [] = row at r1 r2 r3 g3 g4 l0 tk
        generalize hh : row.getD 0 0 = hd at r3
        have gh : (ints row)[0]? = Option.some (int hd) := by rw [ints_get, if_pos l0, hh]
        have z1 : pvf H2 (.iad 1) [.ms o 0 out.length 1, int (j : Int)] = Option.some (.mp o j out.length) := by rw [p_iadm g1 g2, if_pos ⟨by omega, by omega⟩]; rfl
        have z2 : pvf H2 (.ld none) [.mp o j out.length] = Option.some (.ms o' 0 row.length 1) := by rw [p_ldm g1 g2]; exact g3
        try simp (disch := (first | rfl | with_reducible assumption | with_reducible solve_by_elim (maxDepth := 8) [Shape.inT, Shape.inI, Shape.inC, Shape.inK, Shape.obF, Shape.obT, Shape.arI, Arr.inF] | omega)) only [S2, Nat.reduceEqDiff, Nat.reduceAdd, iput, puts, hlj, hI2.plen, z1, z2]
        refine den_callo (fc := (259, [])) (ys := [islice row]) rfl (by simp only [SS, Nat.reduceEqDiff, Nat.reduceAdd, iput, puts, FF, frzL_cat, frzL_ms g4]) (l01Own_ok how row (by omega) hempty n2) (IsI.some _ _ _) fun u H' nx' hu => ?_
        obtain ⟨q1, q2, q3, own⟩ := hu.own H2
        refine ⟨q1, q2, ?_⟩
        have keep2 : ∀ t, t < n2 → hmerge n2 H2 H' t = H2 t := fun t ht => hmerge_lo ht
        have hN2 := hN.mono (Nat.le_refl _) (fun k _ hk => keep2 k hk)
        have x1 : hmerge n2 H2 H' o = Option.some cells := (keep2 o (by omega)).trans g1
        generalize hmerge n2 H2 H' = H3 at own keep2 hN2 x1
        obtain ⟨e, _⟩ | ⟨o2, p1, p2, rfl, p3⟩ := own
        · exact absurd e r1
        have z3 : pvf H3 (.iad 1) [.ms o2 0 row.length 1, int 0] = Option.some (.mp o2 0 row.length) := by
          have := p_iadm (i := 0) p3 (ints_length row)
          rw [if_pos ⟨Int.le_refl _, by omega⟩] at this
          exact this
        have z4 : pvf H3 (.ld none) [.mp o2 0 row.length] = Option.some (int hd) := by rw [p_ldm p3 (ints_length row)]; exact gh
        -- the row as it is
        have same : alikeB c i hd = false → ∀ (v2 : AV) (H' : Hp) (nx' : Nat), OwnD ((out.take j).map (subF (alikeB c) i) ++ [row]) v2 H' n1 nx' → n1 ≤ nx' → (∀ o, o < n1 → H' o = H1 o) → ∃ a' : Nat × AV, [bool ((out.take j).any fun l => alikeB c i (l.getD 0 0)), v2, int ((j + 1 : Nat) : Int)] = [bool ((out.take a'.1).any fun l => alikeB c i (l.getD 0 0)), a'.2, int a'.1] ∧ (a'.1 ≤ out.length ∧ OwnD ((out.take a'.1).map (subF (alikeB c) i)) a'.2 H' n1 nx' ∧ n1 ≤ nx' ∧ ∀ o, o < n1 → H' o = H1 o) ∧ out.length - a'.1 < out.length - j := fun q v2 H' nx' a1 a2 a3 => by
          refine ⟨(j + 1, v2), ?_, ⟨hlj, ?_, a2, a3⟩, by simp only; omega⟩
          · simp only
            rw [tk, List.any_append, List.any_cons, List.any_nil, Bool.or_false, hh, q, Bool.or_false]
          · simp only
            rw [tk, List.map_append, List.map_cons, List.map_nil, subF, hh, q]
            exact a1
        have lN : ((out.take j).map (subF (alikeB c) i)).length ≤ 1048576 := by rw [List.length_map, List.length_take]; omega
        repeat (first | simp (disch := (first | rfl | with_reducible assumption | with_reducible solve_by_elim (maxDepth := 8) [Shape.inT, Shape.inI, Shape.inC, Shape.inK, Shape.obF, Shape.obT, Shape.arI, Arr.inF] | omega)) only [S2, Nat.reduceEqDiff, Nat.reduceAdd, iput, puts, z3, z4] | (refine den_call rfl (by first | (simp only [SS, Nat.reduceEqDiff, Nat.reduceAdd, iput, puts, FF, frzL_cat]; done) | (simp only [SS, Nat.reduceEqDiff, Nat.reduceAdd, iput, puts, FF, frzL_cat]; rfl)) (by first | exact l05Below_fz hb c s ai r3) ?_) | (refine den_calli rfl (by first | (simp only [SS, Nat.reduceEqDiff, Nat.reduceAdd, iput, puts, FF, frzL_cat]; done) | (simp only [SS, Nat.reduceEqDiff, Nat.reduceAdd, iput, puts, FF, frzL_cat]; rfl)) (by first | exact l05Below_fz hb c s ai r3) ?_))
        refine ⟨fun q1 => ?_, fun q1 => ?_⟩
        · repeat (first | simp (disch := (first | rfl | with_reducible assumption | with_reducible solve_by_elim (maxDepth := 8) [Shape.inT, Shape.inI, Shape.inC, Shape.inK, Shape.obF, Shape.obT, Shape.arI, Arr.inF] | omega)) only [S2, Nat.reduceEqDiff, Nat.reduceAdd, iput, puts, z3, z4] | (refine den_call rfl (by first | (simp only [SS, Nat.reduceEqDiff, Nat.reduceAdd, iput, puts, FF, frzL_cat]; done) | (simp only [SS, Nat.reduceEqDiff, Nat.reduceAdd, iput, puts, FF, frzL_cat]; rfl)) (by first | exact l05Below_fz hb c s r3 ai) ?_) | (refine den_calli rfl (by first | (simp only [SS, Nat.reduceEqDiff, Nat.reduceAdd, iput, puts, FF, frzL_cat]; done) | (simp only [SS, Nat.reduceEqDiff, Nat.reduceAdd, iput, puts, FF, frzL_cat]; rfl)) (by first | exact l05Below_fz hb c s r3 ai) ?_))
          refine ⟨fun q2 => ?_, fun q2 => ?_⟩
          · have al : alikeB c i hd = true := by unfold alikeB; rw [q1, q2]; rfl
            try simp (disch := (first | rfl | with_reducible assumption | with_reducible solve_by_elim (maxDepth := 8) [Shape.inT, Shape.inI, Shape.inC, Shape.inK, Shape.obF, Shape.obT, Shape.arI, Arr.inF] | omega)) only [S2, Nat.reduceEqDiff, Nat.reduceAdd, iput, puts]
            refine den_app (cm := ([int (i : Int)], 1)) (q := (.ms o2 0 (row.length + 1) 1, hput H3 o2 (Option.some (ints (row ++ [(i : Int)]))), nx')) rfl rfl ?_ ?_
            · simp only [SS, Nat.reduceEqDiff, Nat.reduceAdd, iput, puts]
              simp only [appTo, if_true, p3, Nat.mul_one, ints_length, appMax]
              rw [if_pos ⟨trivial, by omega⟩]
              simp [ints]
            dsimp only
            refine den_rowD (R := (out.take j).map (subF (alikeB c) i)) (l := row ++ [(i : Int)]) (lo := n1) (mid := n2) (hN2.mono (Nat.le_refl _) fun k a1 a2 => hput_ne _ _ _ _ (by omega)) (by omega) (fun _ => rfl) hn2 lN (.inr ⟨o2, p1, p2, by simp [SS, Nat.reduceEqDiff, Nat.reduceAdd, iput, puts], hput_eq _ _ _⟩) fun v3 H5 n5 hO5 hn5 lo5 _ => ?_
            try simp (disch := (first | rfl | with_reducible assumption | with_reducible solve_by_elim (maxDepth := 8) [Shape.inT, Shape.inI, Shape.inC, Shape.inK, Shape.obF, Shape.obT, Shape.arI, Arr.inF] | omega)) only [S2, Nat.reduceEqDiff, Nat.reduceAdd, iput, puts]
            refine ⟨(j + 1, v3), ?_, ⟨hlj, ?_, by omega, fun t ht => ?_⟩, by simp only; omega⟩
            · simp only
              rw [tk, List.any_append, List.any_cons, List.any_nil, Bool.or_false, hh, al, Bool.or_true]
            · simp only
              rw [tk, List.map_append, List.map_cons, List.map_nil, subF, hh, al]
              exact hO5
            · rw [lo5 t ht, hput_ne _ _ _ _ (by omega), keep2 t (by omega), keep t ht]
          · try simp (disch := (first | rfl | with_reducible assumption | with_reducible solve_by_elim (maxDepth := 8) [Shape.inT, Shape.inI, Shape.inC, Shape.inK, Shape.obF, Shape.obT, Shape.arI, Arr.inF] | omega)) only [S2, Nat.reduceEqDiff, Nat.reduceAdd, iput, puts]
            refine den_rowD (R := (out.take j).map (subF (alikeB c) i)) (l := row) (lo := n1) (mid := n2) hN2 (by omega) (fun _ => rfl) hn2 lN (.inr ⟨o2, p1, p2, rfl, p3⟩) fun v3 H5 n5 hO5 hn5 lo5 _ => ?_
            try simp (disch := (first | rfl | with_reducible assumption | with_reducible solve_by_elim (maxDepth := 8) [Shape.inT, Shape.inI, Shape.inC, Shape.inK, Shape.obF, Shape.obT, Shape.arI, Arr.inF] | omega)) only [S2, Nat.reduceEqDiff, Nat.reduceAdd, iput, puts]
            exact same (by unfold alikeB; rw [q2, Bool.and_false]) v3 H5 n5 hO5 (by omega) fun t ht => by rw [lo5 t ht, keep2 t (by omega), keep t ht]
        · try simp (disch := (first | rfl | with_reducible assumption | with_reducible solve_by_elim (maxDepth := 8) [Shape.inT, Shape.inI, Shape.inC, Shape.inK, Shape.obF, Shape.obT, Shape.arI, Arr.inF] | omega)) only [S2, Nat.reduceEqDiff, Nat.reduceAdd, iput, puts]
          refine den_rowD (R := (out.take j).map (subF (alikeB c) i)) (l := row) (lo := n1) (mid := n2) hN2 (by omega) (fun _ => rfl) hn2 lN (.inr ⟨o2, p1, p2, rfl, p3⟩) fun v3 H5 n5 hO5 hn5 lo5 _ => ?_
          try simp (disch := (first | rfl | with_reducible assumption | with_reducible solve_by_elim (maxDepth := 8) [Shape.inT, Shape.inI, Shape.inC, Shape.inK, Shape.obF, Shape.obT, Shape.arI, Arr.inF] | omega)) only [S2, Nat.reduceEqDiff, Nat.reduceAdd, iput, puts]
          exact same (by unfold alikeB; rw [q1, Bool.false_and]) v3 H5 n5 hO5 (by omega) fun t ht => by rw [lo5 t ht, keep2 t (by omega), keep t ht]
      · have hje : j = out.length := by omega
        subst hje
        rw [List.take_length] at hN
        try simp (disch := (first | rfl | with_reducible assumption | with_reducible solve_by_elim (maxDepth := 8) [Shape.inT, Shape.inI, Shape.inC, Shape.inK, Shape.obF, Shape.obT, Shape.arI, Arr.inF] | omega)) only [S2, Nat.reduceEqDiff, Nat.reduceAdd, iput, puts, hlj, hI2.plen, List.take_length]
        have se := subStep_eq (alikeB c) out i
        refine ⟨fun q => ?_, fun q => ?_⟩
        · rw [q, if_neg (by decide)] at se
          try simp (disch := (first | rfl | with_reducible assumption | with_reducible solve_by_elim (maxDepth := 8) [Shape.inT, Shape.inI, Shape.inC, Shape.inK, Shape.obF, Shape.obT, Shape.arI, Arr.inF] | omega)) only [S2, Nat.reduceEqDiff, Nat.reduceAdd, iput, puts]
          refine den_lit1 (a := (i : Int)) rfl fun H4 y4 e4 => ?_
          refine den_rowD (R := out.map (subF (alikeB c) i)) (l := [(i : Int)]) (lo := n1) (mid := n2) (hN.mono (Nat.le_refl _) fun k q1 q2 => e4 k q2) (by omega) (fun _ => rfl) hn2 (by rw [List.length_map]; omega) (.inr ⟨n2, Nat.le_refl _, by omega, rfl, y4⟩) fun v3 H5 n5 hO5 hn5 _ _ => ?_
          try simp (disch := (first | rfl | with_reducible assumption | with_reducible solve_by_elim (maxDepth := 8) [Shape.inT, Shape.inI, Shape.inC, Shape.inK, Shape.obF, Shape.obT, Shape.arI, Arr.inF] | omega)) only [S2, Nat.reduceEqDiff, Nat.reduceAdd, iput, puts]
          refine ⟨(i + 1, v3), rfl, ⟨hlt, ?_⟩, by simp only; omega⟩
          simp only
          rw [step, se]
          exact hO5.weak (Nat.zero_le _)
        · rw [q, if_pos rfl] at se
          try simp (disch := (first | rfl | with_reducible assumption | with_reducible solve_by_elim (maxDepth := 8) [Shape.inT, Shape.inI, Shape.inC, Shape.inK, Shape.obF, Shape.obT, Shape.arI, Arr.inF] | omega)) only [S2, Nat.reduceEqDiff, Nat.reduceAdd, iput, puts]
          refine ⟨(i + 1, w), rfl, ⟨hlt, ?_⟩, by simp only; omega⟩
          simp only
          rw [step, se]
          exact hN.weak (Nat.zero_le _)
  · try simp (disch := (first | rfl | with_reducible assumption | with_reducible solve_by_elim (maxDepth := 8) [Shape.inT, Shape.inI, Shape.inC, Shape.inK, Shape.obF, Shape.obT, Shape.arI, Arr.inF] | omega)) only [S2, Nat.reduceEqDiff, Nat.reduceAdd, iput, puts, hlt]
    have hie : i = c.f.length := by omega
    subst hie
    refine ⟨_, rfl, H1, fun _ _ h => h, 0, n1, ?_⟩
    rw [memL_sel]
    exact hI

def V_spec_SubobjectsOf : Vc :=
  .op true (.p .box [.t 0]) <|
  .op true (.p (.ld (some 5)) [.t 2]) <|
  .op true (.call (.f 22) [.t 3]) <|
  .op true (.p .bnot [.t 4]) <|
  .br 5
   (.ret [(.c (.nil), none), (.c (int 1), none)])
   (.op true (.p (.ld (some 5)) [.t 2]) <|
   .op true (.call (.f 284) [.t 6, .t 1]) <|
   .op true (.p .bnot [.t 7]) <|
   .br 8
    (.ret [(.c (.nil), none), (.c (int 2), none)])
    (.op true (.p (.ld (some 5)) [.t 2]) <|
    .op true (.call (.f 329) [.t 9, .t 1]) <|
    .ret [(.t 10, none), (.c (int 0), none)]))
set_option maxHeartbeats 1000000 in
theorem SubobjectsOf_both (K : HCat P ν) (hh : Has P ν 33 3 V_Category_hom) (M : HMono1 P ν) (hl : Has P ν 27 3 V_Category_lifts) (hin : Has P ν 330 2 V_Category_into) (ho : Has P ν 306 2 V_objectCode) (h1' : Has P ν 332 3 V_SubobjectsOf_1) (hcl : Has P ν 331 2 V_classesOf) (h : Has P ν 187 2 V_SubobjectsOf) (KS : HSpec P ν) (hob : Has P ν 284 2 V_spec_l02Object) (hm : Has P ν 287 2 V_spec_l05Mono) (how : Has P ν 259 1 V_spec_l01Own) (hb : Has P ν 407 3 V_spec_l05Below) (hss : Has P ν 329 2 V_spec_l05Subobjects) (h' : Has P ν 186 2 V_spec_SubobjectsOf) (c : Cat) (b : Small c) (x : Int) :
    BothQ P ν 187 186 [.agg c.cells, int x] := by
  have bd : subC c x = 0 → SubOk (alikeB c) (Arr c) (memL c x).length (subL (alikeB c) (memL c x)) ∧ (memL c x).length ≤ 40 := fun e => by
    obtain ⟨hc, _⟩ := code_zero.1 e
    have sok := subL_ok (e := alikeB c) (p := Arr c) (fun a b => Bool.and_comm _ _) (fun m hm => memL_arr (x := x) hm) _ (Nat.le_refl _)
    rw [List.take_length] at sok
    exact ⟨sok, memL_len hc.1⟩
  refine ⟨subR c x, subC c x, ?_, ?_, fun nx => SubobjectsOf_ok K hh M hl hin ho h1' hcl h c b x nx, ?_⟩
  · unfold subR
    split
    · rename_i e
      obtain ⟨q1, q2⟩ := bd e
      have := q1.len
      omega
    · simp
  · unfold subR
    split
    · rename_i e
      obtain ⟨q1, q2⟩ := bd e
      intro i hi
      have := (q1.row i hi).2.1
      omega
    · intro i hi; simp at hi
  · refine OkM.mono (Φ := fun r _ _ => r = .tup [.sl (rows (subR c x)) (subR c x).length, int (subC c x)] ∨ (subC c x ≠ 0 ∧ r = .tup [.nil, int (subC c x)])) (h' [.agg c.cells, int x] hempty 0 _ rfl fun hwf => ?_) ?_
    · unfold V_spec_SubobjectsOf
      repeat (first | simp (disch := (first | rfl | with_reducible assumption | with_reducible solve_by_elim (maxDepth := 8) [Shape.inT, Shape.inI, Shape.inC, Shape.inK, Shape.obF, Shape.obT, Shape.arI, Arr.inF] | omega)) only [S2, Nat.reduceEqDiff, Nat.reduceAdd, iput, puts] | (refine den_call rfl (by first | (simp only [SS, Nat.reduceEqDiff, Nat.reduceAdd, iput, puts, FF, frzL_cat]; done) | (simp only [SS, Nat.reduceEqDiff, Nat.reduceAdd, iput, puts, FF, frzL_cat]; rfl)) (by first | exact (l02Is_ok KS c b).fzb) ?_) | (refine den_calli rfl (by first | (simp only [SS, Nat.reduceEqDiff, Nat.reduceAdd, iput, puts, FF, frzL_cat]; done) | (simp only [SS, Nat.reduceEqDiff, Nat.reduceAdd, iput, puts, FF, frzL_cat]; rfl)) (by first | exact (l02Is_ok KS c b).fzb) ?_))
      refine ⟨fun h1 => ?_, fun h1 => ?_⟩
      · have e : subC c x = 1 := by unfold subC code; rw [if_neg h1]
        exact ⟨_, rfl, hempty, fun _ _ h => h, .inr ⟨by omega, by rw [e]; rfl⟩⟩
      repeat (first | simp (disch := (first | rfl | with_reducible assumption | with_reducible solve_by_elim (maxDepth := 8) [Shape.inT, Shape.inI, Shape.inC, Shape.inK, Shape.obF, Shape.obT, Shape.arI, Arr.inF] | omega)) only [S2, Nat.reduceEqDiff, Nat.reduceAdd, iput, puts] | (refine den_call rfl (by first | (simp only [SS, Nat.reduceEqDiff, Nat.reduceAdd, iput, puts, FF, frzL_cat]; done) | (simp only [SS, Nat.reduceEqDiff, Nat.reduceAdd, iput, puts, FF, frzL_cat]; rfl)) (by first | exact l02Object_fz hob c x) ?_) | (refine den_calli rfl (by first | (simp only [SS, Nat.reduceEqDiff, Nat.reduceAdd, iput, puts, FF, frzL_cat]; done) | (simp only [SS, Nat.reduceEqDiff, Nat.reduceAdd, iput, puts, FF, frzL_cat]; rfl)) (by first | exact l02Object_fz hob c x) ?_))
      refine ⟨fun h2 => ?_, fun h2 => ?_⟩
      · have e : subC c x = 2 := by unfold subC code; rw [if_pos h1, if_neg h2]
        exact ⟨_, rfl, hempty, fun _ _ h => h, .inr ⟨by omega, by rw [e]; rfl⟩⟩
      · have e : subC c x = 0 := by unfold subC code; rw [if_pos h1, if_pos h2]
        repeat (first | simp (disch := (first | rfl | with_reducible assumption | with_reducible solve_by_elim (maxDepth := 8) [Shape.inT, Shape.inI, Shape.inC, Shape.inK, Shape.obF, Shape.obT, Shape.arI, Arr.inF] | omega)) only [S2, Nat.reduceEqDiff, Nat.reduceAdd, iput, puts] | (refine den_call rfl (by first | (simp only [SS, Nat.reduceEqDiff, Nat.reduceAdd, iput, puts, FF, frzL_cat]; done) | (simp only [SS, Nat.reduceEqDiff, Nat.reduceAdd, iput, puts, FF, frzL_cat]; rfl)) (by first | exact l05Subobjects_fi hm how hb hss c h1 x) ?_) | (refine den_calli rfl (by first | (simp only [SS, Nat.reduceEqDiff, Nat.reduceAdd, iput, puts, FF, frzL_cat]; done) | (simp only [SS, Nat.reduceEqDiff, Nat.reduceAdd, iput, puts, FF, frzL_cat]; rfl)) (by first | exact l05Subobjects_fi hm how hb hss c h1 x) ?_))
        exact ⟨_, rfl, hempty, fun _ _ h => h, .inl (by rw [subR, if_pos e, e]; rfl)⟩
    · rintro r H' nx' (rfl | ⟨h0, rfl⟩)
      · show ([AV.sl _ _, int _].mapM (frz H' 5)).map AV.tup = _
        simp only [List.mapM_cons, List.mapM_nil, frz_sl, frz_int]; rfl
      · rw [subR, if_neg h0]
        show ([AV.nil, int _].mapM (frz H' 5)).map AV.tup = _
        simp only [List.mapM_cons, List.mapM_nil, frz_nil, frz_int]; rfl
end Go.Av
