/-
  The image of an arrow: both sides.
-/
import Derived.Test.YtbikcomiocdkpaaAvJ1
import Derived.Test.YtbikcomiocdkpaaAvM2
import Derived.Test.YtbikcomiocdkpaaAvB4
import Derived.Test.YtbikcomiocdkpaaAvB7
namespace Go.Av
open Classical
set_option linter.unusedSimpArgs false
set_option linter.unusedVariables false
variable {P : Program} {ν : Nat → FuncId}

def intoL (c : Cat) (x : Int) : List Int := selL c.f.length fun k => c.T k == x
theorem intoL_len {c : Cat} {x : Int} : (intoL c x).length ≤ c.f.length := selL_len _ _
theorem intoL_arr {c : Cat} {x : Int} {m : Int} (h : m ∈ intoL c x) : Arr c m ∧ c.T m = x := by
  obtain ⟨k, rfl, h1, h2⟩ := selL_mem h
  exact ⟨⟨by omega, by omega⟩, by simpa using h2⟩
def V_Category_into : Vc :=
  .op true (.p (.msl 0 [] []) []) <|
  .op true (.p .nck [.t 0]) <|
  .op true (.p (.fad 2) [.t 3]) <|
  .op true (.p (.ld none) [.t 4]) <|
  .op true (.p .len [.t 5]) <|
  .loop 0 [.t 2, .c (int 0)] <|
  .op true (.p (.bin .lss) [.t 8, .t 6]) <|
  .br 9
   (.op true (.p (.iad 1) [.t 5, .t 8]) <|
   .op true (.p (.ld none) [.t 10]) <|
   .op true (.p (.bin .eql) [.t 11, .t 1]) <|
   .br 12
    (.op true (.p (.msl 1 [int 0] [(0, 1)]) [.t 8]) <|
    .op true (.app 1 (.t 7) (.t 13)) <|
    .op true (.p (.bin .add) [.t 8, .c (int 1)]) <|
    .again 0 [.t 14, .t 15])
    (.op true (.p (.bin .add) [.t 8, .c (int 1)]) <|
    .again 0 [.t 7, .t 13]))
   (.ret [(.t 7, none)])
theorem into_ok (h : Has P ν 330 2 V_Category_into) (c : Cat) (s : Shape c) (x : Int) (H : Hp) (nx : Nat) : OkM P ν 330 [.ptr c.cells 0, int x] H nx (IsI (intoL c x) H nx) := by
  refine h _ _ _ _ rfl fun hwf => ?_
  unfold V_Category_into
  have n40 := s.n40
  have tl := s.tl
  try simp (disch := (first | rfl | with_reducible assumption | with_reducible solve_by_elim (maxDepth := 8) [Shape.inT, Shape.inI, Shape.inC, Shape.inK, Shape.obF, Shape.obT, Shape.arI, Arr.inF] | omega)) only [S2, Nat.reduceEqDiff, Nat.reduceAdd, iput, puts]
  refine den_loop (α := Nat × AV) (fun a => [a.2, int a.1]) (fun a H' nx' => a.1 ≤ c.t.length ∧ IsI (selL a.1 fun k => c.T k == x) H nx a.2 H' nx') (fun a => c.t.length - a.1) (0, .nil) rfl ⟨Nat.zero_le _, Nat.le_refl _, .inl ⟨rfl, rfl, rfl⟩⟩ ?_
  rintro ⟨i, v⟩ H1 n1 ⟨hi, hI⟩
  simp only at hi hI
  have sl := selL_len i fun k => c.T k == x
  by_cases hlt : i < c.t.length
  · have i1 : In c.t (i : Int) := In.nat hlt
    have g1 : gI c.t (i : Int) = c.T i := rfl
    try simp (disch := (first | rfl | with_reducible assumption | with_reducible solve_by_elim (maxDepth := 8) [Shape.inT, Shape.inI, Shape.inC, Shape.inK, Shape.obF, Shape.obT, Shape.arI, Arr.inF] | omega)) only [S2, Nat.reduceEqDiff, Nat.reduceAdd, iput, puts, hlt, g1]
    refine ⟨fun e => ?_, fun e => ?_⟩
    · refine den_appI (m := [(i : Int)]) (H0 := H) (nx0 := nx) hI rfl (by simp) (by simp only [List.length_cons, List.length_nil]; omega) fun v2 H3 n3 hI2 => ?_
      try simp (disch := (first | rfl | with_reducible assumption | with_reducible solve_by_elim (maxDepth := 8) [Shape.inT, Shape.inI, Shape.inC, Shape.inK, Shape.obF, Shape.obT, Shape.arI, Arr.inF] | omega)) only [S2, Nat.reduceEqDiff, Nat.reduceAdd, iput, puts]
      refine ⟨(i + 1, v2), rfl, ⟨hlt, ?_⟩, by simp only; omega⟩
      simp only
      rw [selL_succ, if_pos (by simpa using e)]
      exact hI2
    · try simp (disch := (first | rfl | with_reducible assumption | with_reducible solve_by_elim (maxDepth := 8) [Shape.inT, Shape.inI, Shape.inC, Shape.inK, Shape.obF, Shape.obT, Shape.arI, Arr.inF] | omega)) only [S2, Nat.reduceEqDiff, Nat.reduceAdd, iput, puts]
      refine ⟨(i + 1, v), rfl, ⟨hlt, ?_⟩, by simp only; omega⟩
      simp only
      rw [selL_succ, if_neg (by simpa using e), List.append_nil]
      exact hI
  · try simp (disch := (first | rfl | with_reducible assumption | with_reducible solve_by_elim (maxDepth := 8) [Shape.inT, Shape.inI, Shape.inC, Shape.inK, Shape.obF, Shape.obT, Shape.arI, Arr.inF] | omega)) only [S2, Nat.reduceEqDiff, Nat.reduceAdd, iput, puts, hlt]
    have : i = c.f.length := by omega
    subst this
    exact ⟨_, rfl, _, fun _ _ h => h, hI⟩

def liftB (c : Cat) (f m : Int) : Bool := decide (0 < (liftsL c f m).length)
noncomputable def candB (c : Cat) (f m : Int) : Bool := decide (Mono c m) && liftB c f m
noncomputable def ML (c : Cat) (f : Int) : List Int := (intoL c (c.T f)).filter (candB c f)
noncomputable def imgO (c : Cat) (f : Int) : Option Int := (ML c f).find? fun m => (ML c f).all fun n => liftB c m n
theorem ML_mem {c : Cat} {f m : Int} : m ∈ ML c f ↔ (Arr c m ∧ c.T m = c.T f) ∧ candB c f m = true := by
  unfold ML
  rw [List.mem_filter]
  constructor
  · rintro ⟨h1, h2⟩; exact ⟨intoL_arr h1, h2⟩
  · rintro ⟨⟨h1, h2⟩, h3⟩
    obtain ⟨a1, a2⟩ := h1.nat
    exact ⟨selL_mem_iff.2 ⟨m.toNat, a2.symm, a1, by rw [a2, h2]; simp⟩, h3⟩
theorem ML_len {c : Cat} {f : Int} : (ML c f).length ≤ c.f.length := Nat.le_trans (List.length_filter_le _ _) intoL_len
theorem ML_find (c : Cat) (f : Int) (r : Int → Bool) : (ML c f).find? r = ((List.range c.f.length).find? fun (k : Nat) => (c.T k == c.T f && candB c f k) && r k).map fun (k : Nat) => (k : Int) := by
  unfold ML intoL
  rw [selL_filter, selL, List.find?_map, List.find?_filter]
  congr 2
  funext k
  simp only [Function.comp]
  rw [Bool.eq_iff_iff]
  simp only [decide_eq_true_iff, Bool.and_eq_true]
noncomputable def goodB (c : Cat) (f : Int) (k : Nat) : Bool := (c.T k == c.T f && candB c f k) && (ML c f).all fun n => liftB c k n
theorem img_find (c : Cat) (f : Int) : imgO c f = ((List.range c.f.length).find? (goodB c f)).map fun (k : Nat) => (k : Int) := ML_find c f _
theorem range_find {N i : Nat} {p : Nat → Bool} (hi : i < N) (hp : p i = true) (hlt : ∀ j, j < i → p j = false) : (List.range N).find? p = some i := by
  have at' : ∀ k, k < N → (List.range N).getD k 0 = k := fun k hk => by simp [List.getD, hk]
  have := find_at (L := List.range N) (d := 0) (q := p) (i := i) (by simpa using hi) (by rw [at' i hi]; exact hp) fun k hk => by rw [at' k (by omega)]; exact hlt k hk
  rw [this, at' i hi]
theorem img_at {c : Cat} {f : Int} {m : Nat} (hm : m < c.f.length) (hg : goodB c f m = true) (hlt : ∀ k, k < m → goodB c f k = false) : imgO c f = some (m : Int) := by
  rw [img_find, range_find hm hg hlt]; rfl
theorem img_none {c : Cat} {f : Int} (h : ∀ k, k < c.f.length → goodB c f k = false) : imgO c f = none := by
  rw [img_find, List.find?_eq_none.2 fun k hk => by rw [h k (List.mem_range.1 hk)]; decide]; rfl
noncomputable def imgAV (c : Cat) (f : Int) : AV := match imgO c f with
  | some m => .tup [int m, int ((liftsL c f m).getD 0 0), bool true]
  | none => .tup [int 0, int 0, bool false]
theorem imgAV_frz {c : Cat} {f : Int} (H : Hp) : frzN H fuel (imgAV c f) = some (imgAV c f) := by unfold imgAV; split <;> rfl
theorem Shape.liftsFz {c : Cat} (s : Shape c) (hh : Has P ν 33 3 V_Category_hom) (ht : Has P ν 34 3 V_Category_then) (h : Has P ν 27 3 V_Category_lifts) {f g : Int} (a : Arr c f) (b : Arr c g) : Fz (OkM P ν) 27 [.ptr c.cells 0, int f, int g] (islice (liftsL c f g)) := OkM.fz (fun H nx => lifts_ok hh ht h c s f g a.1 a.2 b.1 b.2 H nx) fun _ _ _ hh => hh.frz _
theorem liftsL_le {c : Cat} {f g : Int} (s : Shape c) : (liftsL c f g).length ≤ 40 := Nat.le_trans (List.length_filter_le _ _) (homL_len s _ _)
def V_Category_imageArrow : Vc :=
  .op true (.p (.msl 0 [] []) []) <|
  .op true (.p .nck [.t 0]) <|
  .op true (.p (.fad 2) [.t 3]) <|
  .op true (.p (.ld none) [.t 4]) <|
  .op true (.p (.iad 1) [.t 5, .t 1]) <|
  .op true (.p (.ld none) [.t 6]) <|
  .op true (.call (.f 330) [.t 0, .t 7]) <|
  .op true (.p .len [.t 8]) <|
  .loop 0 [.t 2, .c (int 0)] <|
  .op true (.p (.bin .lss) [.t 11, .t 9]) <|
  .br 12
   (.op true (.p (.iad 1) [.t 8, .t 11]) <|
   .op true (.p (.ld none) [.t 13]) <|
   .op true (.call (.f 289) [.t 0, .t 14]) <|
   .br 15
    (.op true (.call (.f 27) [.t 0, .t 1, .t 14]) <|
    .op true (.p .len [.t 16]) <|
    .op true (.p (.bin .gtr) [.t 17, .c (int 0)]) <|
    .br 18
     (.op true (.p (.msl 1 [int 0] [(0, 1)]) [.t 14]) <|
     .op true (.app 1 (.t 10) (.t 19)) <|
     .op true (.p (.bin .add) [.t 11, .c (int 1)]) <|
     .again 0 [.t 20, .t 21])
     (.op true (.p (.bin .add) [.t 11, .c (int 1)]) <|
     .again 0 [.t 10, .t 19]))
    (.op true (.p (.bin .add) [.t 11, .c (int 1)]) <|
    .again 0 [.t 10, .t 16]))
   (.op true (.p .len [.t 10]) <|
   .loop 0 [.c (int 0)] <|
   .op true (.p (.bin .lss) [.t 14, .t 13]) <|
   .br 15
    (.op true (.p (.iad 1) [.t 10, .t 14]) <|
    .op true (.p (.ld none) [.t 16]) <|
    .op true (.p .len [.t 10]) <|
    .loop 1 [.c (int 0)] <|
    .op true (.p (.bin .lss) [.t 19, .t 18]) <|
    .br 20
     (.op true (.p (.iad 1) [.t 10, .t 19]) <|
     .op true (.p (.ld none) [.t 21]) <|
     .op true (.call (.f 27) [.t 0, .t 17, .t 22]) <|
     .op true (.p .len [.t 23]) <|
     .op true (.p (.bin .eql) [.t 24, .c (int 0)]) <|
     .br 25
      (.op true (.p (.bin .add) [.t 14, .c (int 1)]) <|
      .again 0 [.t 26])
      (.op true (.p (.bin .add) [.t 19, .c (int 1)]) <|
      .again 1 [.t 26]))
     (.op true (.call (.f 27) [.t 0, .t 1, .t 17]) <|
     .op true (.p (.iad 1) [.t 21, .c (int 0)]) <|
     .op true (.p (.ld none) [.t 22]) <|
     .ret [(.t 17, none), (.t 23, none), (.c (bool true), none)]))
    (.ret [(.c (int 0), none), (.c (int 0), none), (.c (bool false), none)]))
set_option maxHeartbeats 2000000 in
theorem imageArrow_fz (hh : Has P ν 33 3 V_Category_hom) (ht : Has P ν 34 3 V_Category_then) (M : HMono P ν) (hl : Has P ν 27 3 V_Category_lifts) (hin : Has P ν 330 2 V_Category_into) (h : Has P ν 311 2 V_Category_imageArrow) (c : Cat) (s : Shape c) (f : Int) (a : Arr c f) : Fz (OkM P ν) 311 [.ptr c.cells 0, int f] (imgAV c f) := by
  refine OkM.fz (Ψ := fun H nx r H' nx' => r = imgAV c f) (fun H nx => h _ _ _ _ rfl fun hwf => ?_) fun r H' nx' hh => by subst hh; exact imgAV_frz _
  unfold V_Category_imageArrow
  have n40 := s.n40
  have fT := s.inT a
  have il := intoL_len (c := c) (x := c.T f)
  have inF : Fz (OkM P ν) 330 [.ptr c.cells 0, int (c.T f)] (islice (intoL c (c.T f))) := OkM.fz (fun H nx => into_ok hin c s (c.T f) H nx) fun _ _ _ hh => hh.frz _
  have gT : gI c.t f = c.T f := rfl
  repeat (first | simp (disch := (first | rfl | with_reducible assumption | with_reducible solve_by_elim (maxDepth := 8) [Shape.inT, Shape.inI, Shape.inC, Shape.inK, Shape.obF, Shape.obT, Shape.arI, Arr.inF] | omega)) only [S2, Nat.reduceEqDiff, Nat.reduceAdd, iput, puts, gT] | (refine den_call rfl (by first | (simp only [SS, Nat.reduceEqDiff, Nat.reduceAdd, iput, puts, FF, frzL_cat]; done) | (simp only [SS, Nat.reduceEqDiff, Nat.reduceAdd, iput, puts, FF, frzL_cat]; rfl)) (by first | exact inF) ?_) | (refine den_calli rfl (by first | (simp only [SS, Nat.reduceEqDiff, Nat.reduceAdd, iput, puts, FF, frzL_cat]; done) | (simp only [SS, Nat.reduceEqDiff, Nat.reduceAdd, iput, puts, FF, frzL_cat]; rfl)) (by first | exact inF) ?_))
  refine den_fil (intoL c (c.T f)) (candB c f) H nx rfl (Nat.le_refl _) rfl fun i v H1 n1 hi hI => ?_
  have tf := take_filter_len (intoL c (c.T f)) (candB c f) i
  by_cases hlt : i < (intoL c (c.T f)).length
  · have i1 : In (intoL c (c.T f)) (i : Int) := In.nat hlt
    have b := (intoL_arr (getD_mem hlt)).1
    repeat (first | simp (disch := (first | rfl | with_reducible assumption | with_reducible solve_by_elim (maxDepth := 8) [Shape.inT, Shape.inI, Shape.inC, Shape.inK, Shape.obF, Shape.obT, Shape.arI, Arr.inF] | omega)) only [S2, Nat.reduceEqDiff, Nat.reduceAdd, iput, puts, hlt, gI_nat] | (refine den_call rfl (by first | (simp only [SS, Nat.reduceEqDiff, Nat.reduceAdd, iput, puts, FF, frzL_cat]; done) | (simp only [SS, Nat.reduceEqDiff, Nat.reduceAdd, iput, puts, FF, frzL_cat]; rfl)) (by first | exact s.isMono_fz hh ht M _ b.1 b.2) ?_) | (refine den_calli rfl (by first | (simp only [SS, Nat.reduceEqDiff, Nat.reduceAdd, iput, puts, FF, frzL_cat]; done) | (simp only [SS, Nat.reduceEqDiff, Nat.reduceAdd, iput, puts, FF, frzL_cat]; rfl)) (by first | exact s.isMono_fz hh ht M _ b.1 b.2) ?_))
    refine ⟨fun e => ?_, fun e => ?_⟩
    · repeat (first | simp (disch := (first | rfl | with_reducible assumption | with_reducible solve_by_elim (maxDepth := 8) [Shape.inT, Shape.inI, Shape.inC, Shape.inK, Shape.obF, Shape.obT, Shape.arI, Arr.inF] | omega)) only [S2, Nat.reduceEqDiff, Nat.reduceAdd, iput, puts, gI_nat] | (refine den_call rfl (by first | (simp only [SS, Nat.reduceEqDiff, Nat.reduceAdd, iput, puts, FF, frzL_cat]; done) | (simp only [SS, Nat.reduceEqDiff, Nat.reduceAdd, iput, puts, FF, frzL_cat]; rfl)) (by first | exact s.liftsFz hh ht hl a b) ?_) | (refine den_calli rfl (by first | (simp only [SS, Nat.reduceEqDiff, Nat.reduceAdd, iput, puts, FF, frzL_cat]; done) | (simp only [SS, Nat.reduceEqDiff, Nat.reduceAdd, iput, puts, FF, frzL_cat]; rfl)) (by first | exact s.liftsFz hh ht hl a b) ?_))
      refine ⟨fun e2 => ?_, fun e2 => ?_⟩
      · try simp (disch := (first | rfl | with_reducible assumption | with_reducible solve_by_elim (maxDepth := 8) [Shape.inT, Shape.inI, Shape.inC, Shape.inK, Shape.obF, Shape.obT, Shape.arI, Arr.inF] | omega)) only [S2, Nat.reduceEqDiff, Nat.reduceAdd, iput, puts, gI_nat]
        refine den_appI (m := [(intoL c (c.T f)).getD i 0]) (H0 := H) (nx0 := nx) hI rfl (by simp) (by simp only [List.length_cons, List.length_nil]; omega) fun v2 H3 n3 hI2 => ?_
        try simp (disch := (first | rfl | with_reducible assumption | with_reducible solve_by_elim (maxDepth := 8) [Shape.inT, Shape.inI, Shape.inC, Shape.inK, Shape.obF, Shape.obT, Shape.arI, Arr.inF] | omega)) only [S2, Nat.reduceEqDiff, Nat.reduceAdd, iput, puts]
        exact fil_take rfl hlt (by unfold candB liftB; rw [decide_eq_true e, decide_eq_true (by omega)]; rfl) hI2
      · try simp (disch := (first | rfl | with_reducible assumption | with_reducible solve_by_elim (maxDepth := 8) [Shape.inT, Shape.inI, Shape.inC, Shape.inK, Shape.obF, Shape.obT, Shape.arI, Arr.inF] | omega)) only [S2, Nat.reduceEqDiff, Nat.reduceAdd, iput, puts]
        exact fil_skip rfl hlt (by unfold candB liftB; rw [decide_eq_false (show ¬ 0 < (liftsL c f ((intoL c (c.T f)).getD i 0)).length by omega), Bool.and_false]) hI
    · try simp (disch := (first | rfl | with_reducible assumption | with_reducible solve_by_elim (maxDepth := 8) [Shape.inT, Shape.inI, Shape.inC, Shape.inK, Shape.obF, Shape.obT, Shape.arI, Arr.inF] | omega)) only [S2, Nat.reduceEqDiff, Nat.reduceAdd, iput, puts]
      exact fil_skip rfl hlt (by unfold candB; rw [decide_eq_false e, Bool.false_and]) hI
  · try simp (disch := (first | rfl | with_reducible assumption | with_reducible solve_by_elim (maxDepth := 8) [Shape.inT, Shape.inI, Shape.inC, Shape.inK, Shape.obF, Shape.obT, Shape.arI, Arr.inF] | omega)) only [S2, Nat.reduceEqDiff, Nat.reduceAdd, iput, puts, hlt]
    have : i = (intoL c (c.T f)).length := by omega
    subst this
    rw [List.take_length] at hI
    have hI : IsI (ML c f) H nx v H1 n1 := hI
    have hMA : ∀ k, k < (ML c f).length → Arr c ((ML c f).getD k 0) := fun k hk => (ML_mem.1 (getD_mem hk)).1.1
    have hML := ML_len (c := c) (f := f)
    have r1 : pvf H1 .len [v] = some (int (ML c f).length) ∧ ∀ k, k < (ML c f).length → ∃ p, pvf H1 (.iad 1) [v, int (k : Int)] = some p ∧ pvf H1 (.ld none) [p] = some (int ((ML c f).getD k 0)) := by
      obtain ⟨_, ⟨e, rfl, _⟩ | ⟨o, _, _, rfl, rfl⟩⟩ := hI
      · rw [e]; exact ⟨rfl, fun k hk => by simp at hk⟩
      · exact ⟨p_lenN (hput_eq _ _ _) rfl, fun k hk => ⟨_, p_iadN (hput_eq _ _ _) rfl hk, p_ldN (hput_eq _ _ _) rfl hk⟩⟩
    obtain ⟨rl, rr⟩ := r1
    have rl0 := rl
    try simp (disch := (first | rfl | with_reducible assumption | with_reducible solve_by_elim (maxDepth := 8) [Shape.inT, Shape.inI, Shape.inC, Shape.inK, Shape.obF, Shape.obT, Shape.arI, Arr.inF] | omega)) only [S2, Nat.reduceEqDiff, Nat.reduceAdd, iput, puts, rl]
    refine den_for (ML c f).length (fun i => ∀ k, k < i → ((ML c f).all fun n => liftB c ((ML c f).getD k 0) n) = false) (fun k hk => by omega) fun i hi hp => ?_
    by_cases hlt2 : i < (ML c f).length
    · obtain ⟨p, p1, p2⟩ := rr i hlt2
      have ai := hMA i hlt2
      generalize hm : (ML c f).getD i 0 = m at p2 ai
      try simp (disch := (first | rfl | with_reducible assumption | with_reducible solve_by_elim (maxDepth := 8) [Shape.inT, Shape.inI, Shape.inC, Shape.inK, Shape.obF, Shape.obT, Shape.arI, Arr.inF] | omega)) only [S2, Nat.reduceEqDiff, Nat.reduceAdd, iput, puts, hlt2, p1, p2, rl]
      refine den_loop (α := Nat) (fun a => [int a]) (fun a H' nx' => a ≤ (ML c f).length ∧ (∀ k, k < a → liftB c m ((ML c f).getD k 0) = true) ∧ H' = H1 ∧ nx' = n1) (fun a => (ML c f).length - a) 0 rfl ⟨Nat.zero_le _, (fun k hk => by omega), rfl, rfl⟩ ?_
      rintro j H2 n2 ⟨hj, hall, rfl, rfl⟩
      by_cases hlj : j < (ML c f).length
      · obtain ⟨q, q1, q2⟩ := rr j hlj
        have aj := hMA j hlj
        have ll := liftsL_le (c := c) (f := m) (g := (ML c f).getD j 0) s
        repeat (first | simp (disch := (first | rfl | with_reducible assumption | with_reducible solve_by_elim (maxDepth := 8) [Shape.inT, Shape.inI, Shape.inC, Shape.inK, Shape.obF, Shape.obT, Shape.arI, Arr.inF] | omega)) only [S2, Nat.reduceEqDiff, Nat.reduceAdd, iput, puts, hlj, q1, q2] | (refine den_call rfl (by first | (simp only [SS, Nat.reduceEqDiff, Nat.reduceAdd, iput, puts, FF, frzL_cat]; done) | (simp only [SS, Nat.reduceEqDiff, Nat.reduceAdd, iput, puts, FF, frzL_cat]; rfl)) (by first | exact s.liftsFz hh ht hl ai aj) ?_) | (refine den_calli rfl (by first | (simp only [SS, Nat.reduceEqDiff, Nat.reduceAdd, iput, puts, FF, frzL_cat]; done) | (simp only [SS, Nat.reduceEqDiff, Nat.reduceAdd, iput, puts, FF, frzL_cat]; rfl)) (by first | exact s.liftsFz hh ht hl ai aj) ?_))
        refine ⟨fun e => ?_, fun e => ?_⟩
        · try simp (disch := (first | rfl | with_reducible assumption | with_reducible solve_by_elim (maxDepth := 8) [Shape.inT, Shape.inI, Shape.inC, Shape.inK, Shape.obF, Shape.obT, Shape.arI, Arr.inF] | omega)) only [S2, Nat.reduceEqDiff, Nat.reduceAdd, iput, puts]
          refine up rfl hlt2 fun k hk => ?_
          by_cases ek : k = i
          · subst ek
            rw [hm, List.all_eq_false]
            exact ⟨_, getD_mem hlj, by unfold liftB; rw [decide_eq_false (by omega)]; decide⟩
          · exact hp k (by omega)
        · try simp (disch := (first | rfl | with_reducible assumption | with_reducible solve_by_elim (maxDepth := 8) [Shape.inT, Shape.inI, Shape.inC, Shape.inK, Shape.obF, Shape.obT, Shape.arI, Arr.inF] | omega)) only [S2, Nat.reduceEqDiff, Nat.reduceAdd, iput, puts]
          refine ⟨j + 1, rfl, ⟨by omega, fun k hk => ?_⟩, by omega⟩
          by_cases ek : k = j
          · subst ek; exact decide_eq_true (by omega)
          · exact hall k (by omega)
      · have mem : m ∈ ML c f := by rw [← hm]; exact getD_mem hlt2
        have cand := (ML_mem.1 mem).2
        have ne : 0 < (liftsL c f m).length := by
          unfold candB liftB at cand
          have := Bool.and_eq_true_iff.1 cand
          exact of_decide_eq_true this.2
        have i0 : In (liftsL c f m) 0 := ⟨by omega, by omega⟩
        have g0 : gI (liftsL c f m) 0 = (liftsL c f m).getD 0 0 := rfl
        repeat (first | simp (disch := (first | rfl | with_reducible assumption | with_reducible solve_by_elim (maxDepth := 8) [Shape.inT, Shape.inI, Shape.inC, Shape.inK, Shape.obF, Shape.obT, Shape.arI, Arr.inF] | omega)) only [S2, Nat.reduceEqDiff, Nat.reduceAdd, iput, puts, hlj, g0] | (refine den_call rfl (by first | (simp only [SS, Nat.reduceEqDiff, Nat.reduceAdd, iput, puts, FF, frzL_cat]; done) | (simp only [SS, Nat.reduceEqDiff, Nat.reduceAdd, iput, puts, FF, frzL_cat]; rfl)) (by first | exact s.liftsFz hh ht hl a ai) ?_) | (refine den_calli rfl (by first | (simp only [SS, Nat.reduceEqDiff, Nat.reduceAdd, iput, puts, FF, frzL_cat]; done) | (simp only [SS, Nat.reduceEqDiff, Nat.reduceAdd, iput, puts, FF, frzL_cat]; rfl)) (by first | exact s.liftsFz hh ht hl a ai) ?_))
        refine ⟨_, rfl, H2, fun _ _ h => h, ?_⟩
        have : imgO c f = some m := by
          unfold imgO
          rw [find_at (L := ML c f) (d := 0) (i := i) hlt2 (by rw [hm, List.all_eq_true]; intro x hx; obtain ⟨k, hk, rfl⟩ := List.getElem_of_mem hx; have := hall k (by omega); simpa [List.getD, hk] using this) hp, hm]
        unfold imgAV
        rw [this]
        rfl
    · try simp (disch := (first | rfl | with_reducible assumption | with_reducible solve_by_elim (maxDepth := 8) [Shape.inT, Shape.inI, Shape.inC, Shape.inK, Shape.obF, Shape.obT, Shape.arI, Arr.inF] | omega)) only [S2, Nat.reduceEqDiff, Nat.reduceAdd, iput, puts, hlt2]
      refine ⟨_, rfl, H1, fun _ _ h => h, ?_⟩
      have : imgO c f = none := by
        unfold imgO
        rw [find_none (L := ML c f) (d := 0) fun k hk => hp k (by omega)]
      unfold imgAV
      rw [this]
      rfl
def V_spec_l18Lifts : Vc :=
  .op true (.p .box [.t 0]) <|
  .op true (.p (.ld (some 5)) [.t 3]) <|
  .op true (.p (.fad 1) [.t 3]) <|
  .op true (.p (.ld none) [.t 5]) <|
  .op true (.p (.iad 1) [.t 6, .t 1]) <|
  .op true (.p (.ld none) [.t 7]) <|
  .op true (.p (.fad 1) [.t 3]) <|
  .op true (.p (.ld none) [.t 9]) <|
  .op true (.p (.iad 1) [.t 10, .t 2]) <|
  .op true (.p (.ld none) [.t 11]) <|
  .op true (.call (.f 309) [.t 4, .t 8, .t 12]) <|
  .loop 0 [.c (int 0)] <|
  .op true (.p .len [.t 13]) <|
  .op true (.p (.bin .lss) [.t 14, .t 15]) <|
  .br 16
   (.op true (.p (.ld (some 5)) [.t 3]) <|
   .op true (.p (.iad 1) [.t 13, .t 14]) <|
   .op true (.p (.ld none) [.t 18]) <|
   .op true (.call (.f 253) [.t 17, .t 19, .t 2]) <|
   .op true (.p (.bin .eql) [.t 20, .t 1]) <|
   .br 21
    (.ret [(.c (bool true), none)])
    (.op true (.p (.bin .add) [.t 14, .c (int 1)]) <|
    .again 0 [.t 22]))
   (.ret [(.c (bool false), none)])
theorem l18Lifts_fz (hh : Has P ν 309 3 V_spec_l02Hom) (ht : Has P ν 253 3 V_spec_l02Then) (h : Has P ν 403 3 V_spec_l18Lifts) {c : Cat} (s : Shape c) {f n : Int} (a : Arr c f) (b : Arr c n) : Fz (OkM P ν) 403 [.agg c.cells, int f, int n] (bool (liftB c f n)) := by
  refine Fn.fzb fun H nx => h _ _ _ _ rfl fun hwf => ?_
  unfold V_spec_l18Lifts
  have fF := a.inF
  have nF := b.inF
  have g1 : gI c.f f = c.F f := rfl
  have g2 : gI c.f n = c.F n := rfl
  have l1 := homL_len s (c.F f) (c.F n)
  repeat (first | simp (disch := (first | rfl | with_reducible assumption | with_reducible solve_by_elim (maxDepth := 8) [Shape.inT, Shape.inI, Shape.inC, Shape.inK, Shape.obF, Shape.obT, Shape.arI, Arr.inF] | omega)) only [S2, Nat.reduceEqDiff, Nat.reduceAdd, iput, puts, g1, g2] | (refine den_call rfl (by first | (simp only [SS, Nat.reduceEqDiff, Nat.reduceAdd, iput, puts, FF, frzL_cat]; done) | (simp only [SS, Nat.reduceEqDiff, Nat.reduceAdd, iput, puts, FF, frzL_cat]; rfl)) (by first | exact s.sHomFz hh (c.F f) (c.F n)) ?_) | (refine den_calli rfl (by first | (simp only [SS, Nat.reduceEqDiff, Nat.reduceAdd, iput, puts, FF, frzL_cat]; done) | (simp only [SS, Nat.reduceEqDiff, Nat.reduceAdd, iput, puts, FF, frzL_cat]; rfl)) (by first | exact s.sHomFz hh (c.F f) (c.F n)) ?_))
  refine den_for (homL c (c.F f) (c.F n)).length (fun i => ∀ k, k < i → c.K ((homL c (c.F f) (c.F n)).getD k 0) n ≠ f) (fun k hk => by omega) fun i hi hp => ?_
  by_cases hlt : i < (homL c (c.F f) (c.F n)).length
  · have i1 : In (homL c (c.F f) (c.F n)) (i : Int) := In.nat hlt
    have u := hom_arr hlt
    repeat (first | simp (disch := (first | rfl | with_reducible assumption | with_reducible solve_by_elim (maxDepth := 8) [Shape.inT, Shape.inI, Shape.inC, Shape.inK, Shape.obF, Shape.obT, Shape.arI, Arr.inF] | omega)) only [S2, Nat.reduceEqDiff, Nat.reduceAdd, iput, puts, hlt, gI_nat] | (refine den_call rfl (by first | (simp only [SS, Nat.reduceEqDiff, Nat.reduceAdd, iput, puts, FF, frzL_cat]; done) | (simp only [SS, Nat.reduceEqDiff, Nat.reduceAdd, iput, puts, FF, frzL_cat]; rfl)) (by first | exact s.sThenFz ht u b) ?_) | (refine den_calli rfl (by first | (simp only [SS, Nat.reduceEqDiff, Nat.reduceAdd, iput, puts, FF, frzL_cat]; done) | (simp only [SS, Nat.reduceEqDiff, Nat.reduceAdd, iput, puts, FF, frzL_cat]; rfl)) (by first | exact s.sThenFz ht u b) ?_))
    refine ⟨fun e => ?_, fun e => ?_⟩
    · refine ⟨_, rfl, H, fun _ _ h => h, ?_, rfl, Nat.le_refl _⟩
      have : liftB c f n = true := decide_eq_true (List.length_pos_of_mem (List.mem_filter.2 ⟨getD_mem hlt, by rw [e]; simp⟩))
      rw [this]; rfl
    · try simp (disch := (first | rfl | with_reducible assumption | with_reducible solve_by_elim (maxDepth := 8) [Shape.inT, Shape.inI, Shape.inC, Shape.inK, Shape.obF, Shape.obT, Shape.arI, Arr.inF] | omega)) only [S2, Nat.reduceEqDiff, Nat.reduceAdd, iput, puts]
      refine up rfl hlt fun k hk => ?_
      by_cases ek : k = i
      · subst ek; exact e
      · exact hp k (by omega)
  · try simp (disch := (first | rfl | with_reducible assumption | with_reducible solve_by_elim (maxDepth := 8) [Shape.inT, Shape.inI, Shape.inC, Shape.inK, Shape.obF, Shape.obT, Shape.arI, Arr.inF] | omega)) only [S2, Nat.reduceEqDiff, Nat.reduceAdd, iput, puts, hlt]
    refine ⟨_, rfl, H, fun _ _ h => h, ?_, rfl, Nat.le_refl _⟩
    have : liftsL c f n = [] := by
      unfold liftsL
      rw [List.filter_eq_nil_iff]
      intro x hx
      obtain ⟨k, hk, rfl⟩ := List.getElem_of_mem hx
      have h3 := hp k (by omega)
      have e9 : (homL c (c.F f) (c.F n)).getD k 0 = (homL c (c.F f) (c.F n))[k] := by simp [List.getD, hk]
      rw [e9] at h3
      simpa using h3
    have : liftB c f n = false := by unfold liftB; rw [this]; rfl
    rw [this]; rfl
def V_spec_l18Through : Vc :=
  .op true (.p .box [.t 0]) <|
  .loop 0 [.c (int 0)] <|
  .op true (.p (.fad 1) [.t 3]) <|
  .op true (.p (.ld none) [.t 5]) <|
  .op true (.p .len [.t 6]) <|
  .op true (.p (.bin .lss) [.t 4, .t 7]) <|
  .br 8
   (.op true (.p (.fad 2) [.t 3]) <|
   .op true (.p (.ld none) [.t 9]) <|
   .op true (.p (.iad 1) [.t 10, .t 4]) <|
   .op true (.p (.ld none) [.t 11]) <|
   .op true (.p (.fad 2) [.t 3]) <|
   .op true (.p (.ld none) [.t 13]) <|
   .op true (.p (.iad 1) [.t 14, .t 1]) <|
   .op true (.p (.ld none) [.t 15]) <|
   .op true (.p (.bin .neq) [.t 12, .t 16]) <|
   .br 17
    (.op true (.p (.bin .add) [.t 4, .c (int 1)]) <|
    .again 0 [.t 18])
    (.op true (.p (.ld (some 5)) [.t 3]) <|
    .op true (.call (.f 287) [.t 18, .t 4]) <|
    .op true (.p .bnot [.t 19]) <|
    .br 20
     (.op true (.p (.bin .add) [.t 4, .c (int 1)]) <|
     .again 0 [.t 21])
     (.op true (.p (.ld (some 5)) [.t 3]) <|
     .op true (.call (.f 403) [.t 21, .t 1, .t 4]) <|
     .op true (.p .bnot [.t 22]) <|
     .br 23
      (.op true (.p (.bin .add) [.t 4, .c (int 1)]) <|
      .again 0 [.t 24])
      (.op true (.p (.ld (some 5)) [.t 3]) <|
      .op true (.call (.f 403) [.t 24, .t 2, .t 4]) <|
      .op true (.p .bnot [.t 25]) <|
      .br 26
       (.ret [(.c (bool false), none)])
       (.op true (.p (.bin .add) [.t 4, .c (int 1)]) <|
       .again 0 [.t 27])))))
   (.ret [(.c (bool true), none)])
set_option maxHeartbeats 1000000 in
theorem l18Through_fz (hh : Has P ν 309 3 V_spec_l02Hom) (ht : Has P ν 253 3 V_spec_l02Then) (hm : Has P ν 287 2 V_spec_l05Mono) (hl : Has P ν 403 3 V_spec_l18Lifts) (h : Has P ν 310 3 V_spec_l18Through) {c : Cat} (s : Shape c) {f m : Int} (a : Arr c f) (b : Arr c m) : Fz (OkM P ν) 310 [.agg c.cells, int f, int m] (bool ((ML c f).all fun n => liftB c m n)) := by
  refine Fn.fzb fun H nx => h _ _ _ _ rfl fun hwf => ?_
  unfold V_spec_l18Through
  have n40 := s.n40
  have tl := s.tl
  have fT := s.inT a
  have g2 : gI c.t f = c.T f := rfl
  try simp (disch := (first | rfl | with_reducible assumption | with_reducible solve_by_elim (maxDepth := 8) [Shape.inT, Shape.inI, Shape.inC, Shape.inK, Shape.obF, Shape.obT, Shape.arI, Arr.inF] | omega)) only [S2, Nat.reduceEqDiff, Nat.reduceAdd, iput, puts]
  refine den_for c.f.length (fun i => ∀ k : Nat, k < i → c.T k = c.T f → candB c f k = true → liftB c m k = true) (fun k hk => by omega) fun i hi hp => ?_
  by_cases hlt : i < c.f.length
  · have i1 : In c.t (i : Int) := In.nat (by omega)
    have ai : Arr c i := ⟨by omega, by omega⟩
    have g1 : gI c.t (i : Int) = c.T i := rfl
    have next : (c.T i = c.T f → candB c f i = true → liftB c m i = true) → ∀ k : Nat, k < i + 1 → c.T k = c.T f → candB c f k = true → liftB c m k = true := fun h k hk => by
      by_cases ek : k = i
      · subst ek; exact h
      · exact hp k (by omega)
    try simp (disch := (first | rfl | with_reducible assumption | with_reducible solve_by_elim (maxDepth := 8) [Shape.inT, Shape.inI, Shape.inC, Shape.inK, Shape.obF, Shape.obT, Shape.arI, Arr.inF] | omega)) only [S2, Nat.reduceEqDiff, Nat.reduceAdd, iput, puts, hlt, g1, g2]
    refine ⟨fun e => ?_, fun e => ?_⟩
    · try simp (disch := (first | rfl | with_reducible assumption | with_reducible solve_by_elim (maxDepth := 8) [Shape.inT, Shape.inI, Shape.inC, Shape.inK, Shape.obF, Shape.obT, Shape.arI, Arr.inF] | omega)) only [S2, Nat.reduceEqDiff, Nat.reduceAdd, iput, puts]
      exact up rfl hlt (next fun q => absurd q e)
    · repeat (first | simp (disch := (first | rfl | with_reducible assumption | with_reducible solve_by_elim (maxDepth := 8) [Shape.inT, Shape.inI, Shape.inC, Shape.inK, Shape.obF, Shape.obT, Shape.arI, Arr.inF] | omega)) only [S2, Nat.reduceEqDiff, Nat.reduceAdd, iput, puts] | (refine den_call rfl (by first | (simp only [SS, Nat.reduceEqDiff, Nat.reduceAdd, iput, puts, FF, frzL_cat]; done) | (simp only [SS, Nat.reduceEqDiff, Nat.reduceAdd, iput, puts, FF, frzL_cat]; rfl)) (by first | exact s.l05Mono_fz hm (i : Int) ai.1 ai.2) ?_) | (refine den_calli rfl (by first | (simp only [SS, Nat.reduceEqDiff, Nat.reduceAdd, iput, puts, FF, frzL_cat]; done) | (simp only [SS, Nat.reduceEqDiff, Nat.reduceAdd, iput, puts, FF, frzL_cat]; rfl)) (by first | exact s.l05Mono_fz hm (i : Int) ai.1 ai.2) ?_))
      refine ⟨fun e1 => ?_, fun e1 => ?_⟩
      · try simp (disch := (first | rfl | with_reducible assumption | with_reducible solve_by_elim (maxDepth := 8) [Shape.inT, Shape.inI, Shape.inC, Shape.inK, Shape.obF, Shape.obT, Shape.arI, Arr.inF] | omega)) only [S2, Nat.reduceEqDiff, Nat.reduceAdd, iput, puts]
        exact up rfl hlt (next fun _ q => by unfold candB at q; rw [decide_eq_false e1, Bool.false_and] at q; cases q)
      · repeat (first | simp (disch := (first | rfl | with_reducible assumption | with_reducible solve_by_elim (maxDepth := 8) [Shape.inT, Shape.inI, Shape.inC, Shape.inK, Shape.obF, Shape.obT, Shape.arI, Arr.inF] | omega)) only [S2, Nat.reduceEqDiff, Nat.reduceAdd, iput, puts] | (refine den_call rfl (by first | (simp only [SS, Nat.reduceEqDiff, Nat.reduceAdd, iput, puts, FF, frzL_cat]; done) | (simp only [SS, Nat.reduceEqDiff, Nat.reduceAdd, iput, puts, FF, frzL_cat]; rfl)) (by first | exact l18Lifts_fz hh ht hl s a ai) ?_) | (refine den_calli rfl (by first | (simp only [SS, Nat.reduceEqDiff, Nat.reduceAdd, iput, puts, FF, frzL_cat]; done) | (simp only [SS, Nat.reduceEqDiff, Nat.reduceAdd, iput, puts, FF, frzL_cat]; rfl)) (by first | exact l18Lifts_fz hh ht hl s a ai) ?_))
        refine ⟨fun e2 => ?_, fun e2 => ?_⟩
        · try simp (disch := (first | rfl | with_reducible assumption | with_reducible solve_by_elim (maxDepth := 8) [Shape.inT, Shape.inI, Shape.inC, Shape.inK, Shape.obF, Shape.obT, Shape.arI, Arr.inF] | omega)) only [S2, Nat.reduceEqDiff, Nat.reduceAdd, iput, puts]
          exact up rfl hlt (next fun _ q => by unfold candB at q; rw [e2, Bool.and_false] at q; cases q)
        · repeat (first | simp (disch := (first | rfl | with_reducible assumption | with_reducible solve_by_elim (maxDepth := 8) [Shape.inT, Shape.inI, Shape.inC, Shape.inK, Shape.obF, Shape.obT, Shape.arI, Arr.inF] | omega)) only [S2, Nat.reduceEqDiff, Nat.reduceAdd, iput, puts] | (refine den_call rfl (by first | (simp only [SS, Nat.reduceEqDiff, Nat.reduceAdd, iput, puts, FF, frzL_cat]; done) | (simp only [SS, Nat.reduceEqDiff, Nat.reduceAdd, iput, puts, FF, frzL_cat]; rfl)) (by first | exact l18Lifts_fz hh ht hl s b ai) ?_) | (refine den_calli rfl (by first | (simp only [SS, Nat.reduceEqDiff, Nat.reduceAdd, iput, puts, FF, frzL_cat]; done) | (simp only [SS, Nat.reduceEqDiff, Nat.reduceAdd, iput, puts, FF, frzL_cat]; rfl)) (by first | exact l18Lifts_fz hh ht hl s b ai) ?_))
          refine ⟨fun e3 => ?_, fun e3 => ?_⟩
          · refine ⟨_, rfl, H, fun _ _ h => h, ?_, rfl, Nat.le_refl _⟩
            have : ((ML c f).all fun n => liftB c m n) = false := by
              rw [List.all_eq_false]
              refine ⟨(i : Int), ML_mem.2 ⟨⟨ai, by omega⟩, by unfold candB; rw [decide_eq_true e1, e2]; rfl⟩, by rw [e3]; decide⟩
            rw [this]; rfl
          · try simp (disch := (first | rfl | with_reducible assumption | with_reducible solve_by_elim (maxDepth := 8) [Shape.inT, Shape.inI, Shape.inC, Shape.inK, Shape.obF, Shape.obT, Shape.arI, Arr.inF] | omega)) only [S2, Nat.reduceEqDiff, Nat.reduceAdd, iput, puts]
            exact up rfl hlt (next fun _ _ => e3)
  · try simp (disch := (first | rfl | with_reducible assumption | with_reducible solve_by_elim (maxDepth := 8) [Shape.inT, Shape.inI, Shape.inC, Shape.inK, Shape.obF, Shape.obT, Shape.arI, Arr.inF] | omega)) only [S2, Nat.reduceEqDiff, Nat.reduceAdd, iput, puts, hlt]
    refine ⟨_, rfl, H, fun _ _ h => h, ?_, rfl, Nat.le_refl _⟩
    have : ((ML c f).all fun n => liftB c m n) = true := by
      rw [List.all_eq_true]
      intro n hn
      obtain ⟨⟨h1, h2⟩, h3⟩ := ML_mem.1 hn
      obtain ⟨a1, a2⟩ := h1.nat
      have := hp n.toNat (by omega)
      rw [a2] at this
      exact this h2 h3
    rw [this]; rfl
/-- What both sides answer. -/
noncomputable def imL (c : Cat) (f : Int) : List Int := if code (IsCat c) (Arr c f) = 0 then (match imgO c f with | some m => [m, (liftsL c f m).getD 0 0, 0] | none => [0, 0, 4]) else [0, 0, code (IsCat c) (Arr c f)]
theorem imL_three (c : Cat) (f : Int) : ∃ x y k : Int, AV.tup (ints (imL c f)) = .tup [int x, int y, int k] := by
  unfold imL
  split
  · split <;> exact ⟨_, _, _, rfl⟩
  · exact ⟨_, _, _, rfl⟩
theorem p_msl1I {H : Hp} {a : Int} : pvf H (.msl 1 [int 0] [(0, 1)]) [int a] = some (islice [a]) := rfl
def V_ImageOfArrow : Vc :=
  .op true (.p .box [.t 0]) <|
  .op true (.p (.msl 1 [int 0] [(0, 1)]) [.t 1]) <|
  .op true (.call (.f 18) [.t 2, .t 3]) <|
  .op true (.p (.bin .neq) [.t 4, .c (int 0)]) <|
  .br 5
   (.ret [(.c (int 0), none), (.c (int 0), none), (.t 4, none)])
   (.op true (.call (.f 311) [.t 2, .t 1]) <|
   .op true (.p (.ext 0) [.t 6]) <|
   .op true (.p (.ext 1) [.t 6]) <|
   .op true (.p (.ext 2) [.t 6]) <|
   .op true (.p .bnot [.t 9]) <|
   .br 10
    (.ret [(.c (int 0), none), (.c (int 0), none), (.c (int 4), none)])
    (.ret [(.t 7, none), (.t 8, none), (.c (int 0), none)]))
def V_spec_ImageOfArrow : Vc :=
  .op true (.p .box [.t 0]) <|
  .op true (.p (.ld (some 5)) [.t 2]) <|
  .op true (.p (.msl 1 [int 0] [(0, 1)]) [.t 1]) <|
  .op true (.call (.f 245) [.t 3, .t 4]) <|
  .op true (.p (.bin .neq) [.t 5, .c (int 0)]) <|
  .br 6
   (.ret [(.c (int 0), none), (.c (int 0), none), (.t 5, none)])
   (.loop 0 [.c (int 0)] <|
   .op true (.p (.fad 1) [.t 2]) <|
   .op true (.p (.ld none) [.t 8]) <|
   .op true (.p .len [.t 9]) <|
   .op true (.p (.bin .lss) [.t 7, .t 10]) <|
   .br 11
    (.op true (.p (.fad 2) [.t 2]) <|
    .op true (.p (.ld none) [.t 12]) <|
    .op true (.p (.iad 1) [.t 13, .t 7]) <|
    .op true (.p (.ld none) [.t 14]) <|
    .op true (.p (.fad 2) [.t 2]) <|
    .op true (.p (.ld none) [.t 16]) <|
    .op true (.p (.iad 1) [.t 17, .t 1]) <|
    .op true (.p (.ld none) [.t 18]) <|
    .op true (.p (.bin .neq) [.t 15, .t 19]) <|
    .br 20
     (.op true (.p (.bin .add) [.t 7, .c (int 1)]) <|
     .again 0 [.t 21])
     (.op true (.p (.ld (some 5)) [.t 2]) <|
     .op true (.call (.f 287) [.t 21, .t 7]) <|
     .op true (.p .bnot [.t 22]) <|
     .br 23
      (.op true (.p (.bin .add) [.t 7, .c (int 1)]) <|
      .again 0 [.t 24])
      (.op true (.p (.ld (some 5)) [.t 2]) <|
      .op true (.p (.fad 1) [.t 2]) <|
      .op true (.p (.ld none) [.t 25]) <|
      .op true (.p (.iad 1) [.t 26, .t 1]) <|
      .op true (.p (.ld none) [.t 27]) <|
      .op true (.p (.fad 1) [.t 2]) <|
      .op true (.p (.ld none) [.t 29]) <|
      .op true (.p (.iad 1) [.t 30, .t 7]) <|
      .op true (.p (.ld none) [.t 31]) <|
      .op true (.call (.f 309) [.t 24, .t 28, .t 32]) <|
      .loop 1 [.c (int 0)] <|
      .op true (.p .len [.t 33]) <|
      .op true (.p (.bin .lss) [.t 34, .t 35]) <|
      .br 36
       (.op true (.p (.ld (some 5)) [.t 2]) <|
       .op true (.p (.iad 1) [.t 33, .t 34]) <|
       .op true (.p (.ld none) [.t 38]) <|
       .op true (.call (.f 253) [.t 37, .t 39, .t 7]) <|
       .op true (.p (.bin .eql) [.t 40, .t 1]) <|
       .br 41
        (.op true (.p (.ld (some 5)) [.t 2]) <|
        .op true (.call (.f 310) [.t 42, .t 1, .t 7]) <|
        .br 43
         (.op true (.p (.iad 1) [.t 33, .t 34]) <|
         .op true (.p (.ld none) [.t 44]) <|
         .ret [(.t 7, none), (.t 45, none), (.c (int 0), none)])
         (.op true (.p (.bin .add) [.t 34, .c (int 1)]) <|
         .again 1 [.t 44]))
        (.op true (.p (.bin .add) [.t 34, .c (int 1)]) <|
        .again 1 [.t 42]))
       (.op true (.p (.bin .add) [.t 7, .c (int 1)]) <|
       .again 0 [.t 37]))))
    (.ret [(.c (int 0), none), (.c (int 0), none), (.c (int 4), none)]))
set_option maxHeartbeats 2000000 in
theorem ImageOfArrow_z (K : HCat P ν) (A : HArr P ν) (M : HMono P ν) (hl : Has P ν 27 3 V_Category_lifts) (hin : Has P ν 330 2 V_Category_into) (him : Has P ν 311 2 V_Category_imageArrow) (h : Has P ν 166 2 V_ImageOfArrow) (KS : HSpec P ν) (ha : Has P ν 245 2 V_spec_l02Arrows) (h2 : Has P ν 309 3 V_spec_l02Hom) (h3 : Has P ν 253 3 V_spec_l02Then) (hm : Has P ν 287 2 V_spec_l05Mono) (hls : Has P ν 403 3 V_spec_l18Lifts) (hth : Has P ν 310 3 V_spec_l18Through) (hs : Has P ν 165 2 V_spec_ImageOfArrow) (c : Cat) (b : Small c) (f : Int) :
    BothZ P ν 166 165 [.agg c.cells, int f] (.tup (ints (imL c f))) := by
  have cO := arrowCode_fz K A.code c b [f] (by simp) (Wn1 c f)
  have cS := l02Arrows_fz KS ha c b [f] (by simp) (Wn1 c f)
  by_cases h0 : code (IsCat c) (Arr c f) = 0
  · obtain ⟨hc, a⟩ := code_zero.1 h0
    have s := hc.1
    have n40 := s.n40
    have tl := s.tl
    rw [h0] at cO cS
    refine ⟨OkM.fzt fun H nx => h _ _ _ _ rfl fun hwf => ?_, OkM.fzt fun H nx => hs _ _ _ _ rfl fun hwf => ?_⟩
    · unfold V_ImageOfArrow
      have iz := imageArrow_fz A.hom K.thn M hl hin him c s f a
      unfold imL
      rw [if_pos h0]
      unfold imgAV at iz
      rcases hO : imgO c f with _ | m
      · rw [hO] at iz
        repeat (first | simp (disch := (first | rfl | with_reducible assumption | with_reducible solve_by_elim (maxDepth := 8) [Shape.inT, Shape.inI, Shape.inC, Shape.inK, Shape.obF, Shape.obT, Shape.arI, Arr.inF] | omega)) only [S2, Nat.reduceEqDiff, Nat.reduceAdd, iput, puts, p_msl1I] | (refine den_call rfl (by first | (simp only [SS, Nat.reduceEqDiff, Nat.reduceAdd, iput, puts, FF, frzL_cat]; done) | (simp only [SS, Nat.reduceEqDiff, Nat.reduceAdd, iput, puts, FF, frzL_cat]; rfl)) (by first | exact cO | exact iz) ?_) | (refine den_calli rfl (by first | (simp only [SS, Nat.reduceEqDiff, Nat.reduceAdd, iput, puts, FF, frzL_cat]; done) | (simp only [SS, Nat.reduceEqDiff, Nat.reduceAdd, iput, puts, FF, frzL_cat]; rfl)) (by first | exact cO | exact iz) ?_))
        exact ⟨_, rfl, H, fun _ _ h => h, rfl⟩
      · rw [hO] at iz
        repeat (first | simp (disch := (first | rfl | with_reducible assumption | with_reducible solve_by_elim (maxDepth := 8) [Shape.inT, Shape.inI, Shape.inC, Shape.inK, Shape.obF, Shape.obT, Shape.arI, Arr.inF] | omega)) only [S2, Nat.reduceEqDiff, Nat.reduceAdd, iput, puts, p_msl1I] | (refine den_call rfl (by first | (simp only [SS, Nat.reduceEqDiff, Nat.reduceAdd, iput, puts, FF, frzL_cat]; done) | (simp only [SS, Nat.reduceEqDiff, Nat.reduceAdd, iput, puts, FF, frzL_cat]; rfl)) (by first | exact cO | exact iz) ?_) | (refine den_calli rfl (by first | (simp only [SS, Nat.reduceEqDiff, Nat.reduceAdd, iput, puts, FF, frzL_cat]; done) | (simp only [SS, Nat.reduceEqDiff, Nat.reduceAdd, iput, puts, FF, frzL_cat]; rfl)) (by first | exact cO | exact iz) ?_))
        exact ⟨_, rfl, H, fun _ _ h => h, rfl⟩
    · unfold V_spec_ImageOfArrow
      unfold imL
      rw [if_pos h0]
      have fT := s.inT a
      have fF := a.inF
      have g2 : gI c.t f = c.T f := rfl
      have g3 : gI c.f f = c.F f := rfl
      repeat (first | simp (disch := (first | rfl | with_reducible assumption | with_reducible solve_by_elim (maxDepth := 8) [Shape.inT, Shape.inI, Shape.inC, Shape.inK, Shape.obF, Shape.obT, Shape.arI, Arr.inF] | omega)) only [S2, Nat.reduceEqDiff, Nat.reduceAdd, iput, puts, p_msl1I] | (refine den_call rfl (by first | (simp only [SS, Nat.reduceEqDiff, Nat.reduceAdd, iput, puts, FF, frzL_cat]; done) | (simp only [SS, Nat.reduceEqDiff, Nat.reduceAdd, iput, puts, FF, frzL_cat]; rfl)) (by first | exact cS) ?_) | (refine den_calli rfl (by first | (simp only [SS, Nat.reduceEqDiff, Nat.reduceAdd, iput, puts, FF, frzL_cat]; done) | (simp only [SS, Nat.reduceEqDiff, Nat.reduceAdd, iput, puts, FF, frzL_cat]; rfl)) (by first | exact cS) ?_))
      refine den_for c.f.length (fun i => ∀ k : Nat, k < i → goodB c f k = false) (fun k hk => by omega) fun i hi hp => ?_
      by_cases hlt : i < c.f.length
      · have i1 : In c.t (i : Int) := In.nat (by omega)
        have i2 : In c.f (i : Int) := In.nat (by omega)
        have ai : Arr c i := ⟨by omega, by omega⟩
        have g1 : gI c.t (i : Int) = c.T i := rfl
        have g4 : gI c.f (i : Int) = c.F i := rfl
        have next : goodB c f i = false → ∀ k : Nat, k < i + 1 → goodB c f k = false := fun h k hk => by
          by_cases ek : k = i
          · subst ek; exact h
          · exact hp k (by omega)
        try simp (disch := (first | rfl | with_reducible assumption | with_reducible solve_by_elim (maxDepth := 8) [Shape.inT, Shape.inI, Shape.inC, Shape.inK, Shape.obF, Shape.obT, Shape.arI, Arr.inF] | omega)) only [S2, Nat.reduceEqDiff, Nat.reduceAdd, iput, puts, hlt, g1, g2]
        refine ⟨fun e => ?_, fun e => ?_⟩
        · try simp (disch := (first | rfl | with_reducible assumption | with_reducible solve_by_elim (maxDepth := 8) [Shape.inT, Shape.inI, Shape.inC, Shape.inK, Shape.obF, Shape.obT, Shape.arI, Arr.inF] | omega)) only [S2, Nat.reduceEqDiff, Nat.reduceAdd, iput, puts]
          exact up rfl hlt (next (by unfold goodB; rw [beq_eq_false_iff_ne.2 e]; rfl))
        · repeat (first | simp (disch := (first | rfl | with_reducible assumption | with_reducible solve_by_elim (maxDepth := 8) [Shape.inT, Shape.inI, Shape.inC, Shape.inK, Shape.obF, Shape.obT, Shape.arI, Arr.inF] | omega)) only [S2, Nat.reduceEqDiff, Nat.reduceAdd, iput, puts] | (refine den_call rfl (by first | (simp only [SS, Nat.reduceEqDiff, Nat.reduceAdd, iput, puts, FF, frzL_cat]; done) | (simp only [SS, Nat.reduceEqDiff, Nat.reduceAdd, iput, puts, FF, frzL_cat]; rfl)) (by first | exact s.l05Mono_fz hm (i : Int) ai.1 ai.2) ?_) | (refine den_calli rfl (by first | (simp only [SS, Nat.reduceEqDiff, Nat.reduceAdd, iput, puts, FF, frzL_cat]; done) | (simp only [SS, Nat.reduceEqDiff, Nat.reduceAdd, iput, puts, FF, frzL_cat]; rfl)) (by first | exact s.l05Mono_fz hm (i : Int) ai.1 ai.2) ?_))
          refine ⟨fun e1 => ?_, fun e1 => ?_⟩
          · try simp (disch := (first | rfl | with_reducible assumption | with_reducible solve_by_elim (maxDepth := 8) [Shape.inT, Shape.inI, Shape.inC, Shape.inK, Shape.obF, Shape.obT, Shape.arI, Arr.inF] | omega)) only [S2, Nat.reduceEqDiff, Nat.reduceAdd, iput, puts]
            exact up rfl hlt (next (by unfold goodB candB; rw [decide_eq_false e1]; simp))
          · have l1 := homL_len s (c.F f) (c.F i)
            repeat (first | simp (disch := (first | rfl | with_reducible assumption | with_reducible solve_by_elim (maxDepth := 8) [Shape.inT, Shape.inI, Shape.inC, Shape.inK, Shape.obF, Shape.obT, Shape.arI, Arr.inF] | omega)) only [S2, Nat.reduceEqDiff, Nat.reduceAdd, iput, puts, g3, g4] | (refine den_call rfl (by first | (simp only [SS, Nat.reduceEqDiff, Nat.reduceAdd, iput, puts, FF, frzL_cat]; done) | (simp only [SS, Nat.reduceEqDiff, Nat.reduceAdd, iput, puts, FF, frzL_cat]; rfl)) (by first | exact s.sHomFz h2 (c.F f) (c.F i)) ?_) | (refine den_calli rfl (by first | (simp only [SS, Nat.reduceEqDiff, Nat.reduceAdd, iput, puts, FF, frzL_cat]; done) | (simp only [SS, Nat.reduceEqDiff, Nat.reduceAdd, iput, puts, FF, frzL_cat]; rfl)) (by first | exact s.sHomFz h2 (c.F f) (c.F i)) ?_))
            refine den_loop (α := Nat) (fun a => [int a]) (fun q H' nx' => q ≤ (homL c (c.F f) (c.F i)).length ∧ (∀ k, k < q → c.K ((homL c (c.F f) (c.F i)).getD k 0) i ≠ f ∨ ((ML c f).all fun n => liftB c i n) = false) ∧ H' = H ∧ nx' = nx) (fun q => (homL c (c.F f) (c.F i)).length - q) 0 rfl ⟨Nat.zero_le _, (fun k hk => by omega), rfl, rfl⟩ ?_
            rintro j H2 n2 ⟨hj, hall, rfl, rfl⟩
            have step : (c.K ((homL c (c.F f) (c.F i)).getD j 0) i ≠ f ∨ ((ML c f).all fun n => liftB c i n) = false) → ∀ k, k < j + 1 → c.K ((homL c (c.F f) (c.F i)).getD k 0) i ≠ f ∨ ((ML c f).all fun n => liftB c i n) = false := fun h k hk => by
              by_cases ek : k = j
              · subst ek; exact h
              · exact hall k (by omega)
            by_cases hlj : j < (homL c (c.F f) (c.F i)).length
            · have j1 : In (homL c (c.F f) (c.F i)) (j : Int) := In.nat hlj
              have u := hom_arr hlj
              repeat (first | simp (disch := (first | rfl | with_reducible assumption | with_reducible solve_by_elim (maxDepth := 8) [Shape.inT, Shape.inI, Shape.inC, Shape.inK, Shape.obF, Shape.obT, Shape.arI, Arr.inF] | omega)) only [S2, Nat.reduceEqDiff, Nat.reduceAdd, iput, puts, hlj, gI_nat] | (refine den_call rfl (by first | (simp only [SS, Nat.reduceEqDiff, Nat.reduceAdd, iput, puts, FF, frzL_cat]; done) | (simp only [SS, Nat.reduceEqDiff, Nat.reduceAdd, iput, puts, FF, frzL_cat]; rfl)) (by first | exact s.sThenFz h3 u ai) ?_) | (refine den_calli rfl (by first | (simp only [SS, Nat.reduceEqDiff, Nat.reduceAdd, iput, puts, FF, frzL_cat]; done) | (simp only [SS, Nat.reduceEqDiff, Nat.reduceAdd, iput, puts, FF, frzL_cat]; rfl)) (by first | exact s.sThenFz h3 u ai) ?_))
              refine ⟨fun e2 => ?_, fun e2 => ?_⟩
              · repeat (first | simp (disch := (first | rfl | with_reducible assumption | with_reducible solve_by_elim (maxDepth := 8) [Shape.inT, Shape.inI, Shape.inC, Shape.inK, Shape.obF, Shape.obT, Shape.arI, Arr.inF] | omega)) only [S2, Nat.reduceEqDiff, Nat.reduceAdd, iput, puts] | (refine den_call rfl (by first | (simp only [SS, Nat.reduceEqDiff, Nat.reduceAdd, iput, puts, FF, frzL_cat]; done) | (simp only [SS, Nat.reduceEqDiff, Nat.reduceAdd, iput, puts, FF, frzL_cat]; rfl)) (by first | exact l18Through_fz h2 h3 hm hls hth s a ai) ?_) | (refine den_calli rfl (by first | (simp only [SS, Nat.reduceEqDiff, Nat.reduceAdd, iput, puts, FF, frzL_cat]; done) | (simp only [SS, Nat.reduceEqDiff, Nat.reduceAdd, iput, puts, FF, frzL_cat]; rfl)) (by first | exact l18Through_fz h2 h3 hm hls hth s a ai) ?_))
                refine ⟨fun e3 => ?_, fun e3 => ?_⟩
                · try simp (disch := (first | rfl | with_reducible assumption | with_reducible solve_by_elim (maxDepth := 8) [Shape.inT, Shape.inI, Shape.inC, Shape.inK, Shape.obF, Shape.obT, Shape.arI, Arr.inF] | omega)) only [S2, Nat.reduceEqDiff, Nat.reduceAdd, iput, puts, gI_nat]
                  refine ⟨_, rfl, H2, fun _ _ h => h, ?_⟩
                  have hb : ∀ k, k < j → (fun h => c.K h (i : Int) == f) ((homL c (c.F f) (c.F i)).getD k 0) = false := fun k hk => by
                    rcases hall k hk with q | q
                    · exact beq_eq_false_iff_ne.2 q
                    · rw [e3] at q; cases q
                  have first := filter_first (l := homL c (c.F f) (c.F i)) (q := fun h => c.K h (i : Int) == f) hlj (by simp only [e2, beq_self_eq_true]) hb
                  have lf : 0 < (liftsL c f i).length := List.length_pos_of_mem (List.mem_filter.2 ⟨getD_mem hlj, by rw [e2]; simp⟩)
                  have gd : goodB c f i = true := by
                    unfold goodB candB liftB
                    rw [decide_eq_true e1, decide_eq_true lf]
                    have e' : (c.T i == c.T f) = true := by simpa using e
                    rw [e']
                    exact e3
                  rw [img_at hlt gd hp]
                  simp only
                  rw [show (liftsL c f i).getD 0 0 = (homL c (c.F f) (c.F i)).getD j 0 from first]
                  rfl
                · try simp (disch := (first | rfl | with_reducible assumption | with_reducible solve_by_elim (maxDepth := 8) [Shape.inT, Shape.inI, Shape.inC, Shape.inK, Shape.obF, Shape.obT, Shape.arI, Arr.inF] | omega)) only [S2, Nat.reduceEqDiff, Nat.reduceAdd, iput, puts]
                  exact ⟨j + 1, rfl, ⟨by omega, step (.inr e3)⟩, by omega⟩
              · try simp (disch := (first | rfl | with_reducible assumption | with_reducible solve_by_elim (maxDepth := 8) [Shape.inT, Shape.inI, Shape.inC, Shape.inK, Shape.obF, Shape.obT, Shape.arI, Arr.inF] | omega)) only [S2, Nat.reduceEqDiff, Nat.reduceAdd, iput, puts]
                exact ⟨j + 1, rfl, ⟨by omega, step (.inl e2)⟩, by omega⟩
            · try simp (disch := (first | rfl | with_reducible assumption | with_reducible solve_by_elim (maxDepth := 8) [Shape.inT, Shape.inI, Shape.inC, Shape.inK, Shape.obF, Shape.obT, Shape.arI, Arr.inF] | omega)) only [S2, Nat.reduceEqDiff, Nat.reduceAdd, iput, puts, hlj]
              refine up rfl hlt (next ?_)
              by_cases q : ((ML c f).all fun n => liftB c i n) = false
              · unfold goodB; rw [q, Bool.and_false]
              · have : liftsL c f i = [] := by
                  unfold liftsL
                  rw [List.filter_eq_nil_iff]
                  intro x hx
                  obtain ⟨k, hk, rfl⟩ := List.getElem_of_mem hx
                  have h3 := (hall k (by omega)).resolve_right q
                  have e9 : (homL c (c.F f) (c.F i)).getD k 0 = (homL c (c.F f) (c.F i))[k] := by simp [List.getD, hk]
                  rw [e9] at h3
                  simpa using h3
                unfold goodB candB liftB
                rw [this]
                simp
      · try simp (disch := (first | rfl | with_reducible assumption | with_reducible solve_by_elim (maxDepth := 8) [Shape.inT, Shape.inI, Shape.inC, Shape.inK, Shape.obF, Shape.obT, Shape.arI, Arr.inF] | omega)) only [S2, Nat.reduceEqDiff, Nat.reduceAdd, iput, puts, hlt]
        refine ⟨_, rfl, H, fun _ _ h => h, ?_⟩
        rw [img_none fun k hk => hp k (by omega)]
        rfl
  · have eV : imL c f = [0, 0, code (IsCat c) (Arr c f)] := by unfold imL; rw [if_neg h0]
    rw [eV]
    refine ⟨OkM.fzt fun H nx => h _ _ _ _ rfl fun hwf => ?_, OkM.fzt fun H nx => hs _ _ _ _ rfl fun hwf => ?_⟩
    · unfold V_ImageOfArrow
      repeat (first | simp (disch := (first | rfl | with_reducible assumption | with_reducible solve_by_elim (maxDepth := 8) [Shape.inT, Shape.inI, Shape.inC, Shape.inK, Shape.obF, Shape.obT, Shape.arI, Arr.inF] | omega)) only [S2, Nat.reduceEqDiff, Nat.reduceAdd, iput, puts, p_msl1I, h0] | (refine den_call rfl (by first | (simp only [SS, Nat.reduceEqDiff, Nat.reduceAdd, iput, puts, FF, frzL_cat]; done) | (simp only [SS, Nat.reduceEqDiff, Nat.reduceAdd, iput, puts, FF, frzL_cat]; rfl)) (by first | exact cO) ?_) | (refine den_calli rfl (by first | (simp only [SS, Nat.reduceEqDiff, Nat.reduceAdd, iput, puts, FF, frzL_cat]; done) | (simp only [SS, Nat.reduceEqDiff, Nat.reduceAdd, iput, puts, FF, frzL_cat]; rfl)) (by first | exact cO) ?_))
      exact ⟨_, rfl, H, fun _ _ h => h, rfl⟩
    · unfold V_spec_ImageOfArrow
      repeat (first | simp (disch := (first | rfl | with_reducible assumption | with_reducible solve_by_elim (maxDepth := 8) [Shape.inT, Shape.inI, Shape.inC, Shape.inK, Shape.obF, Shape.obT, Shape.arI, Arr.inF] | omega)) only [S2, Nat.reduceEqDiff, Nat.reduceAdd, iput, puts, p_msl1I, h0] | (refine den_call rfl (by first | (simp only [SS, Nat.reduceEqDiff, Nat.reduceAdd, iput, puts, FF, frzL_cat]; done) | (simp only [SS, Nat.reduceEqDiff, Nat.reduceAdd, iput, puts, FF, frzL_cat]; rfl)) (by first | exact cS) ?_) | (refine den_calli rfl (by first | (simp only [SS, Nat.reduceEqDiff, Nat.reduceAdd, iput, puts, FF, frzL_cat]; done) | (simp only [SS, Nat.reduceEqDiff, Nat.reduceAdd, iput, puts, FF, frzL_cat]; rfl)) (by first | exact cS) ?_))
      exact ⟨_, rfl, H, fun _ _ h => h, rfl⟩
theorem ImageOfArrow_both (K : HCat P ν) (A : HArr P ν) (M : HMono P ν) (hl : Has P ν 27 3 V_Category_lifts) (hin : Has P ν 330 2 V_Category_into) (him : Has P ν 311 2 V_Category_imageArrow) (h : Has P ν 166 2 V_ImageOfArrow) (KS : HSpec P ν) (ha : Has P ν 245 2 V_spec_l02Arrows) (h2 : Has P ν 309 3 V_spec_l02Hom) (h3 : Has P ν 253 3 V_spec_l02Then) (hm : Has P ν 287 2 V_spec_l05Mono) (hls : Has P ν 403 3 V_spec_l18Lifts) (hth : Has P ν 310 3 V_spec_l18Through) (hs : Has P ν 165 2 V_spec_ImageOfArrow) (c : Cat) (b : Small c) (f : Int) :
    ∃ u v k : Int, BothZ P ν 166 165 [.agg c.cells, int f] (.tup [int u, int v, int k]) := by
  have h := ImageOfArrow_z K A M hl hin him h KS ha h2 h3 hm hls hth hs c b f
  obtain ⟨x, y, z, e⟩ := imL_three c f
  exact ⟨x, y, z, e ▸ h⟩
end Go.Av
