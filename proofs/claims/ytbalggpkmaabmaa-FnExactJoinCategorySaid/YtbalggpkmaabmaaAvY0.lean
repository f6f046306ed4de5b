/-
  Sums and joins of categories: the plain side, the composite, what is kept while the program builds them.
-/
import Derived.Test.YtbalggpkmaabmaaAvT5
import Derived.Test.YtbalggpkmaabmaaAvX1M
namespace Go.Av
open Classical
set_option linter.unusedSimpArgs false
set_option linter.unusedVariables false
variable {P : Program} {ν : Nat → FuncId}

/-- A list moved up. -/
def upL (n : Int) (l : List Int) : List Int := l.map fun x => n + x
theorem upL_len {n : Int} {l : List Int} : (upL n l).length = l.length := by simp [upL]
theorem upL_at {n : Int} {l : List Int} {i : Nat} (h : i < l.length) : (upL n l).getD i 0 = n + l.getD i 0 := by simp [upL, h]
theorem app_lo {A B : List Int} {i : Nat} (h : i < A.length) : (A ++ B).getD i 0 = A.getD i 0 := by simp [List.getD, List.getElem?_append_left h]
theorem app_hi {A B : List Int} {i : Nat} (h : A.length ≤ i) : (A ++ B).getD i 0 = B.getD (i - A.length) 0 := by simp [List.getD, List.getElem?_append_right h]
theorem upL_take {n : Int} {l : List Int} {i : Nat} (h : i < l.length) : upL n (l.take i) ++ [n + l.getD i 0] = upL n (l.take (i + 1)) := by
  have e : l.getD i 0 = l[i] := by simp [List.getD, h]
  unfold upL
  rw [List.take_succ_eq_append_getElem h, List.map_append, e]
  rfl

section
variable (c d : Cat)
def fS : List Int := c.f ++ upL c.o d.f
def tS : List Int := c.t ++ upL c.o d.t
def iS : List Int := c.i ++ upL c.f.length d.i
/-- The number of arrows before those of the join. -/
def rS : Nat := c.f.length + d.f.length
def kA (F T : List Int) (a b : Nat) : Int :=
  if a < c.f.length ∧ b < c.f.length then c.K a b
  else if c.f.length ≤ a ∧ a < rS c d then c.f.length + d.K ((a - c.f.length : Nat) : Int) ((b - c.f.length : Nat) : Int)
  else rS c d + F.getD a 0 * d.o + T.getD b 0 - c.o
def sumK : Cat := ⟨c.o + d.o, fS c d, tS c d, iS c d, tbl (kA c d (fS c d) (tS c d)) (fS c d) (tS c d)⟩
def FitA (N : Nat) : Prop := c.o + d.o ≤ 8 ∧ N ≤ 40
end
section
variable {c d : Cat}
theorem fS_len : (fS c d).length = rS c d := by simp [fS, rS, upL_len]
theorem tS_len (s : Shape c) (t : Shape d) : (tS c d).length = rS c d := by
  have := s.tl; have := t.tl
  simp [tS, rS, upL_len]; omega
theorem iS_len (s : Shape c) (t : Shape d) : (iS c d).length = c.i.length + d.i.length := by simp [iS, upL_len]
theorem fS_lo {a : Nat} (h : a < c.f.length) : (fS c d).getD a 0 = c.F a := app_lo h
theorem fS_hi {a : Nat} (h : c.f.length ≤ a) (h2 : a < rS c d) : (fS c d).getD a 0 = c.o + d.F ((a - c.f.length : Nat) : Int) := by
  unfold fS; rw [app_hi h, upL_at (by unfold rS at h2; omega)]; rfl
theorem tS_lo (s : Shape c) {a : Nat} (h : a < c.f.length) : (tS c d).getD a 0 = c.T a := app_lo (by rw [s.tl]; exact h)
theorem tS_hi (s : Shape c) (t : Shape d) {a : Nat} (h : c.f.length ≤ a) (h2 : a < rS c d) : (tS c d).getD a 0 = c.o + d.T ((a - c.f.length : Nat) : Int) := by
  have tl := s.tl
  unfold tS; rw [app_hi (by omega), upL_at (by have := t.tl; unfold rS at h2; omega), tl]; rfl
theorem hiArr {a : Nat} (h : c.f.length ≤ a) (h2 : a < rS c d) : Arr d ((a - c.f.length : Nat) : Int) := by
  unfold rS at h2
  exact ⟨by omega, by omega⟩
theorem loArr {a : Nat} (h : a < c.f.length) : Arr c (a : Int) := ⟨by omega, by omega⟩
theorem fS_ob (s : Shape c) (t : Shape d) {a : Nat} (h : a < rS c d) : 0 ≤ (fS c d).getD a 0 ∧ (fS c d).getD a 0 < c.o + d.o := by
  have o0 := s.o0
  have o0' := t.o0
  by_cases e : a < c.f.length
  · rw [fS_lo e]; have q := s.obF (loArr e); have := q.1; have := q.2; omega
  · rw [fS_hi (by omega) h]; have q := t.obF (hiArr (c := c) (by omega) h); have := q.1; have := q.2; omega
theorem tS_ob (s : Shape c) (t : Shape d) {a : Nat} (h : a < rS c d) : 0 ≤ (tS c d).getD a 0 ∧ (tS c d).getD a 0 < c.o + d.o := by
  have o0 := s.o0
  have o0' := t.o0
  by_cases e : a < c.f.length
  · rw [tS_lo s e]; have q := s.obT (loArr e); have := q.1; have := q.2; omega
  · rw [tS_hi s t (by omega) h]; have q := t.obT (hiArr (c := c) (by omega) h); have := q.1; have := q.2; omega
/-- An arrow of the second is followed by none but arrows of the second. -/
theorem hi_then (s : Shape c) (t : Shape d) {a b : Nat} (h1 : c.f.length ≤ a) (h2 : a < rS c d) (hb : b < rS c d) (e : (tS c d).getD a 0 = (fS c d).getD b 0) : c.f.length ≤ b := by
  rcases Nat.lt_or_ge b c.f.length with h | h
  · rw [tS_hi s t h1 h2, fS_lo h] at e
    have q1 := (t.obT (hiArr (c := c) h1 h2)).1
    have q2 := (s.obF (loArr h)).2
    omega
  · exact h
end

theorem mul_bd' {x y : Int} {a b : Int} (h0 : 0 ≤ x) (h1 : x ≤ a) (h2 : 0 ≤ y) (h3 : y ≤ b) : 0 ≤ x * y ∧ x * y ≤ a * b := ⟨Int.mul_nonneg h0 h2, Int.mul_le_mul h1 h3 h2 (by omega)⟩
def V_added_1 : Vc :=
  .op true (.p (.ld none) [.t 2]) <|
  .op true (.p (.bin .lss) [.t 0, .t 8]) <|
  .br 9
   (.op true (.p (.ld none) [.t 2]) <|
   .op true (.p (.bin .lss) [.t 1, .t 10]) <|
   .br 11
    (.op true (.p (.ld none) [.t 3]) <|
    .op true (.call (.f 34) [.t 12, .t 0, .t 1]) <|
    .ret [(.t 13, none)])
    (.op true (.p (.ld none) [.t 2]) <|
    .op true (.p (.ld none) [.t 4]) <|
    .op true (.p (.bin .sub) [.t 13, .c (int 1)]) <|
    .op true (.call (.f 32) [.t 0, .t 12, .t 14]) <|
    .br 15
     (.op true (.p (.ld none) [.t 2]) <|
     .op true (.p (.ld none) [.t 5]) <|
     .op true (.p (.ld none) [.t 2]) <|
     .op true (.p (.bin .sub) [.t 0, .t 18]) <|
     .op true (.p (.ld none) [.t 2]) <|
     .op true (.p (.bin .sub) [.t 1, .t 20]) <|
     .op true (.call (.f 34) [.t 17, .t 19, .t 21]) <|
     .op true (.p (.bin .add) [.t 16, .t 22]) <|
     .ret [(.t 23, none)])
     (.op true (.p (.ld none) [.t 4]) <|
     .op true (.p (.fad 1) [.t 6]) <|
     .op true (.p (.ld none) [.t 17]) <|
     .op true (.p (.iad 1) [.t 18, .t 0]) <|
     .op true (.p (.ld none) [.t 19]) <|
     .op true (.p (.ld none) [.t 5]) <|
     .op true (.p .nck [.t 21]) <|
     .op true (.p (.fad 0) [.t 22]) <|
     .op true (.p (.ld none) [.t 23]) <|
     .op true (.p (.bin .mul) [.t 20, .t 24]) <|
     .op true (.p (.bin .add) [.t 16, .t 25]) <|
     .op true (.p (.fad 2) [.t 6]) <|
     .op true (.p (.ld none) [.t 27]) <|
     .op true (.p (.iad 1) [.t 28, .t 1]) <|
     .op true (.p (.ld none) [.t 29]) <|
     .op true (.p (.bin .add) [.t 26, .t 30]) <|
     .op true (.p (.ld none) [.t 7]) <|
     .op true (.p (.bin .sub) [.t 31, .t 32]) <|
     .ret [(.t 33, none)])))
   (.op true (.p (.ld none) [.t 2]) <|
   .op true (.p (.ld none) [.t 4]) <|
   .op true (.p (.bin .sub) [.t 11, .c (int 1)]) <|
   .op true (.call (.f 32) [.t 0, .t 10, .t 12]) <|
   .br 13
    (.op true (.p (.ld none) [.t 2]) <|
    .op true (.p (.ld none) [.t 5]) <|
    .op true (.p (.ld none) [.t 2]) <|
    .op true (.p (.bin .sub) [.t 0, .t 16]) <|
    .op true (.p (.ld none) [.t 2]) <|
    .op true (.p (.bin .sub) [.t 1, .t 18]) <|
    .op true (.call (.f 34) [.t 15, .t 17, .t 19]) <|
    .op true (.p (.bin .add) [.t 14, .t 20]) <|
    .ret [(.t 21, none)])
    (.op true (.p (.ld none) [.t 4]) <|
    .op true (.p (.fad 1) [.t 6]) <|
    .op true (.p (.ld none) [.t 15]) <|
    .op true (.p (.iad 1) [.t 16, .t 0]) <|
    .op true (.p (.ld none) [.t 17]) <|
    .op true (.p (.ld none) [.t 5]) <|
    .op true (.p .nck [.t 19]) <|
    .op true (.p (.fad 0) [.t 20]) <|
    .op true (.p (.ld none) [.t 21]) <|
    .op true (.p (.bin .mul) [.t 18, .t 22]) <|
    .op true (.p (.bin .add) [.t 14, .t 23]) <|
    .op true (.p (.fad 2) [.t 6]) <|
    .op true (.p (.ld none) [.t 25]) <|
    .op true (.p (.iad 1) [.t 26, .t 1]) <|
    .op true (.p (.ld none) [.t 27]) <|
    .op true (.p (.bin .add) [.t 24, .t 28]) <|
    .op true (.p (.ld none) [.t 7]) <|
    .op true (.p (.bin .sub) [.t 29, .t 30]) <|
    .ret [(.t 31, none)]))
set_option maxHeartbeats 2000000 in
theorem added1_fz (hth : Has P ν 34 3 V_Category_then) (hir : Has P ν 32 3 V_inRange) (h : Has P ν 428 8 V_added_1) (c d : Cat) (s : Shape c) (t : Shape d) (F T I : List Int) (w : AV) (a b : Nat) (ha : a < F.length) (hb : b < T.length) (hFl : F.length ≤ 4096)
    (hK : c.f.length ≤ a → a < rS c d → c.f.length ≤ b ∧ b < rS c d) (hF : 0 ≤ F.getD a 0 ∧ F.getD a 0 ≤ 16) (hT : 0 ≤ T.getD b 0 ∧ T.getD b 0 ≤ 16) :
    Fz (OkM P ν) 428 [int a, int b, .ptr [int c.f.length] 0, .ptr [.ptr c.cells 0] 0, .ptr [int (rS c d)] 0, .ptr [.ptr d.cells 0] 0, .ptr [int (c.o + d.o), islice F, islice T, islice I, w] 0, .ptr [int c.o] 0] (int (kA c d F T a b)) := by
  refine Fn.fzi fun H nx => h _ _ _ _ rfl fun hwf => ?_
  unfold V_added_1
  have n40 := s.n40
  have n40' := t.n40
  have o8 := s.o8
  have o8' := t.o8
  have o0 := s.o0
  have o0' := t.o0
  have hr : rS c d = c.f.length + d.f.length := rfl
  have ld5a : ∀ H : Hp, pvf H (.fad 1) [.ptr [int (c.o + d.o), islice F, islice T, islice I, w] 0] = some (.ptr [int (c.o + d.o), islice F, islice T, islice I, w] 1) := fun _ => rfl
  have ld5b : ∀ H : Hp, pvf H (.ld none) [.ptr [int (c.o + d.o), islice F, islice T, islice I, w] 1] = some (islice F) := fun _ => rfl
  have ld5c : ∀ H : Hp, pvf H (.fad 2) [.ptr [int (c.o + d.o), islice F, islice T, islice I, w] 0] = some (.ptr [int (c.o + d.o), islice F, islice T, islice I, w] 2) := fun _ => rfl
  have ld5d : ∀ H : Hp, pvf H (.ld none) [.ptr [int (c.o + d.o), islice F, islice T, islice I, w] 2] = some (islice T) := fun _ => rfl
  have w1 : IntKind.i64.wrap ((rS c d : Int) - 1) = (rS c d : Int) - 1 := wrap_id (by omega) (by omega)
  have iF : In F a := In.nat ha
  have iT : In T b := In.nat hb
  have gF : gI F a = F.getD a 0 := rfl
  have gT : gI T b = T.getD b 0 := rfl
  -- what follows the first case
  have bd := mul_bd' hF.1 hF.2 o0' o8'
  have w4 : IntKind.i64.wrap (F.getD a 0 * d.o) = F.getD a 0 * d.o := wrap_id (by omega) (by omega)
  have w5 : IntKind.i64.wrap ((rS c d : Int) + F.getD a 0 * d.o) = (rS c d : Int) + F.getD a 0 * d.o := wrap_id (by omega) (by omega)
  have w6 : IntKind.i64.wrap ((rS c d : Int) + F.getD a 0 * d.o + T.getD b 0) = (rS c d : Int) + F.getD a 0 * d.o + T.getD b 0 := wrap_id (by omega) (by omega)
  have w7 : IntKind.i64.wrap ((rS c d : Int) + F.getD a 0 * d.o + T.getD b 0 - c.o) = (rS c d : Int) + F.getD a 0 * d.o + T.getD b 0 - c.o := wrap_id (by omega) (by omega)
  have third : ¬ (a < c.f.length ∧ b < c.f.length) → ¬ (c.f.length ≤ a ∧ a < rS c d) → kA c d F T a b = (rS c d : Int) + F.getD a 0 * d.o + T.getD b 0 - c.o := fun h1 h2 => by unfold kA; rw [if_neg h1, if_neg h2]
  by_cases h1 : a < c.f.length
  · have inR : Fz (OkM P ν) 32 [int a, int (c.f.length : Int), int ((rS c d : Int) - 1)] (bool false) := by
      have := (inRange_ok (P := P) (ν := ν) hir a c.f.length ((rS c d : Int) - 1)).fzb
      rwa [show decide ((c.f.length : Int) ≤ a ∧ (a : Int) ≤ (rS c d : Int) - 1) = false from decide_eq_false (by omega)] at this
    by_cases h2 : b < c.f.length
    · repeat (first | simp (disch := (first | rfl | with_reducible assumption | with_reducible solve_by_elim (maxDepth := 8) [Shape.inT, Shape.inI, Shape.inC, Shape.inK, Shape.obF, Shape.obT, Shape.arI, Arr.inF] | omega)) only [S2, Nat.reduceEqDiff, Nat.reduceAdd, iput, puts, p_ld0, h1, h2] | (refine den_call rfl (by first | (simp only [SS, Nat.reduceEqDiff, Nat.reduceAdd, iput, puts, FF, frzL_cat]; done) | (simp only [SS, Nat.reduceEqDiff, Nat.reduceAdd, iput, puts, FF, frzL_cat]; rfl)) (by first | exact s.fzThen hth (loArr h1) (loArr h2)) ?_) | (refine den_calli rfl (by first | (simp only [SS, Nat.reduceEqDiff, Nat.reduceAdd, iput, puts, FF, frzL_cat]; done) | (simp only [SS, Nat.reduceEqDiff, Nat.reduceAdd, iput, puts, FF, frzL_cat]; rfl)) (by first | exact s.fzThen hth (loArr h1) (loArr h2)) ?_))
      refine ⟨_, rfl, H, fun _ _ h => h, ?_, rfl, Nat.le_refl _⟩
      unfold kA; rw [if_pos ⟨h1, h2⟩]; rfl
    · repeat (first | simp (disch := (first | rfl | with_reducible assumption | with_reducible solve_by_elim (maxDepth := 8) [Shape.inT, Shape.inI, Shape.inC, Shape.inK, Shape.obF, Shape.obT, Shape.arI, Arr.inF] | omega)) only [S2, Nat.reduceEqDiff, Nat.reduceAdd, iput, puts, p_ld0, h1, h2, w1, ld5a, ld5b, ld5c, ld5d, gF, gT, w4, w5, w6, w7] | (refine den_call rfl (by first | (simp only [SS, Nat.reduceEqDiff, Nat.reduceAdd, iput, puts, FF, frzL_cat]; done) | (simp only [SS, Nat.reduceEqDiff, Nat.reduceAdd, iput, puts, FF, frzL_cat]; rfl)) (by first | exact inR) ?_) | (refine den_calli rfl (by first | (simp only [SS, Nat.reduceEqDiff, Nat.reduceAdd, iput, puts, FF, frzL_cat]; done) | (simp only [SS, Nat.reduceEqDiff, Nat.reduceAdd, iput, puts, FF, frzL_cat]; rfl)) (by first | exact inR) ?_))
      refine ⟨_, rfl, H, fun _ _ h => h, ?_, rfl, Nat.le_refl _⟩
      rw [third (fun e => h2 e.2) (fun e => by omega)]; rfl
  · by_cases h3 : a < rS c d
    · have inR : Fz (OkM P ν) 32 [int a, int (c.f.length : Int), int ((rS c d : Int) - 1)] (bool true) := by
        have := (inRange_ok (P := P) (ν := ν) hir a c.f.length ((rS c d : Int) - 1)).fzb
        rwa [show decide ((c.f.length : Int) ≤ a ∧ (a : Int) ≤ (rS c d : Int) - 1) = true from decide_eq_true (by omega)] at this
      obtain ⟨h4, h5⟩ := hK (by omega) h3
      have w2 : IntKind.i64.wrap ((a : Int) - (c.f.length : Int)) = ((a - c.f.length : Nat) : Int) := by rw [wrap_id (by omega) (by omega)]; omega
      have w3 : IntKind.i64.wrap ((b : Int) - (c.f.length : Int)) = ((b - c.f.length : Nat) : Int) := by rw [wrap_id (by omega) (by omega)]; omega
      have aa := hiArr (c := c) (d := d) (by omega) h3
      have ab := hiArr (c := c) (d := d) h4 h5
      have kb : -1 ≤ d.K ((a - c.f.length : Nat) : Int) ((b - c.f.length : Nat) : Int) ∧ d.K ((a - c.f.length : Nat) : Int) ((b - c.f.length : Nat) : Int) < 40 := by
        by_cases e : d.T ((a - c.f.length : Nat) : Int) = d.F ((b - c.f.length : Nat) : Int)
        · have q := t.arK aa ab e; have := q.1; have := q.2; omega
        · rw [t.kN aa ab e]; omega
      have w8 : IntKind.i64.wrap ((c.f.length : Int) + d.K ((a - c.f.length : Nat) : Int) ((b - c.f.length : Nat) : Int)) = (c.f.length : Int) + d.K ((a - c.f.length : Nat) : Int) ((b - c.f.length : Nat) : Int) := wrap_id (by omega) (by omega)
      repeat (first | simp (disch := (first | rfl | with_reducible assumption | with_reducible solve_by_elim (maxDepth := 8) [Shape.inT, Shape.inI, Shape.inC, Shape.inK, Shape.obF, Shape.obT, Shape.arI, Arr.inF] | omega)) only [S2, Nat.reduceEqDiff, Nat.reduceAdd, iput, puts, p_ld0, h1, w1, w2, w3, w8] | (refine den_call rfl (by first | (simp only [SS, Nat.reduceEqDiff, Nat.reduceAdd, iput, puts, FF, frzL_cat]; done) | (simp only [SS, Nat.reduceEqDiff, Nat.reduceAdd, iput, puts, FF, frzL_cat]; rfl)) (by first | exact inR | exact t.fzThen hth aa ab) ?_) | (refine den_calli rfl (by first | (simp only [SS, Nat.reduceEqDiff, Nat.reduceAdd, iput, puts, FF, frzL_cat]; done) | (simp only [SS, Nat.reduceEqDiff, Nat.reduceAdd, iput, puts, FF, frzL_cat]; rfl)) (by first | exact inR | exact t.fzThen hth aa ab) ?_))
      refine ⟨_, rfl, H, fun _ _ h => h, ?_, rfl, Nat.le_refl _⟩
      unfold kA; rw [if_neg (fun e => h1 e.1), if_pos ⟨by omega, h3⟩]; rfl
    · have inR : Fz (OkM P ν) 32 [int a, int (c.f.length : Int), int ((rS c d : Int) - 1)] (bool false) := by
        have := (inRange_ok (P := P) (ν := ν) hir a c.f.length ((rS c d : Int) - 1)).fzb
        rwa [show decide ((c.f.length : Int) ≤ a ∧ (a : Int) ≤ (rS c d : Int) - 1) = false from decide_eq_false (by omega)] at this
      repeat (first | simp (disch := (first | rfl | with_reducible assumption | with_reducible solve_by_elim (maxDepth := 8) [Shape.inT, Shape.inI, Shape.inC, Shape.inK, Shape.obF, Shape.obT, Shape.arI, Arr.inF] | omega)) only [S2, Nat.reduceEqDiff, Nat.reduceAdd, iput, puts, p_ld0, h1, w1, ld5a, ld5b, ld5c, ld5d, gF, gT, w4, w5, w6, w7] | (refine den_call rfl (by first | (simp only [SS, Nat.reduceEqDiff, Nat.reduceAdd, iput, puts, FF, frzL_cat]; done) | (simp only [SS, Nat.reduceEqDiff, Nat.reduceAdd, iput, puts, FF, frzL_cat]; rfl)) (by first | exact inR) ?_) | (refine den_calli rfl (by first | (simp only [SS, Nat.reduceEqDiff, Nat.reduceAdd, iput, puts, FF, frzL_cat]; done) | (simp only [SS, Nat.reduceEqDiff, Nat.reduceAdd, iput, puts, FF, frzL_cat]; rfl)) (by first | exact inR) ?_))
      refine ⟨_, rfl, H, fun _ _ h => h, ?_, rfl, Nat.le_refl _⟩
      rw [third (fun e => h1 e.1) (fun e => h3 e.2)]; rfl
end Go.Av
