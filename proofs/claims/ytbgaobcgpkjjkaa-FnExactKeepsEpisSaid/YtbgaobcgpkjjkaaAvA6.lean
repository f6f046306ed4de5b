/-
  The statements' own helpers: sizes, copies, comparisons, marks.
-/
import Derived.Test.YtbgaobcgpkjjkaaAvA3
namespace Go.Av
open Classical
set_option linter.unusedSimpArgs false
set_option linter.unusedVariables false
variable {P : Program} {ν : Nat → FuncId}

theorem list_eq_of {l m : List Int} (h1 : l.length = m.length) (h2 : ∀ k, k < l.length → l.getD k 0 = m.getD k 0) : l = m := by
  refine List.ext_getElem h1 fun i a b => ?_
  have := h2 i a
  simpa [List.getD, a, b] using this
theorem lists_eq_of {l m : List (List Int)} (h1 : l.length = m.length) (h2 : ∀ k, k < l.length → l.getD k [] = m.getD k []) : l = m := by
  refine List.ext_getElem h1 fun i a b => ?_
  have := h2 i a
  simpa [List.getD, a, b] using this

def V_laws_eqInt64S : Vc :=
  .op true (.p .len [.t 0]) <|
  .op true (.p .len [.t 1]) <|
  .op true (.p (.bin .neq) [.t 2, .t 3]) <|
  .br 4
   (.ret [(.c (bool false), none)])
   (.loop 0 [.c (int 0)] <|
   .op true (.p .len [.t 0]) <|
   .op true (.p (.bin .lss) [.t 5, .t 6]) <|
   .br 7
    (.op true (.p (.iad 1) [.t 0, .t 5]) <|
    .op true (.p (.ld none) [.t 8]) <|
    .op true (.p (.iad 1) [.t 1, .t 5]) <|
    .op true (.p (.ld none) [.t 10]) <|
    .op true (.p (.bin .neq) [.t 9, .t 11]) <|
    .br 12
     (.ret [(.c (bool false), none)])
     (.op true (.p (.bin .add) [.t 5, .c (int 1)]) <|
     .again 0 [.t 13]))
    (.ret [(.c (bool true), none)]))
theorem eqI_ok (h : Has P ν 7 2 V_laws_eqInt64S) (l m : List Int) (hl : l.length < 9223372036854775807) : Fn P ν 7 [islice l, islice m] (bool (decide (l = m))) := by
  intro H nx
  refine h _ _ _ _ rfl fun hwf => ?_
  unfold V_laws_eqInt64S
  simp only [SS, Nat.reduceEqDiff, Nat.reduceAdd, iput, puts]
  refine ⟨fun h1 => ?_, fun h1 => ?_⟩
  · exact ⟨_, rfl, H, fun _ _ h => h, ret_false (fun e => h1 (by rw [e])), rfl, Nat.le_refl _⟩
  have h1' : l.length = m.length := by omega
  refine den_for l.length (fun i => ∀ k, k < i → l.getD k 0 = m.getD k 0) (fun k hk => by omega) fun i hi hp => ?_
  by_cases hlt : i < l.length
  · have hlt2 : i < m.length := by omega
    simp only [SS, Nat.reduceEqDiff, Nat.reduceAdd, iput, puts, hlt, hlt2, not_true_eq_false, wrap_succ (Nat.lt_trans hlt hl)]
    refine ⟨fun h3 => ?_, fun h3 => up rfl hlt fun k hk => ?_⟩
    · exact ⟨_, rfl, H, fun _ _ h => h, ret_false (fun e => h3 (by rw [e])), rfl, Nat.le_refl _⟩
    · by_cases e : k = i
      · subst e; exact h3
      · exact hp k (by omega)
  · simp only [SS, Nat.reduceEqDiff, Nat.reduceAdd, iput, puts, hlt, not_false_eq_true]
    exact ⟨_, rfl, H, fun _ _ h => h, ret_true (list_eq_of h1' fun k hk => hp k (by omega)), rfl, Nat.le_refl _⟩

def V_laws_eqInt64SS : Vc :=
  .op true (.p .len [.t 0]) <|
  .op true (.p .len [.t 1]) <|
  .op true (.p (.bin .neq) [.t 2, .t 3]) <|
  .br 4
   (.ret [(.c (bool false), none)])
   (.loop 0 [.c (int 0)] <|
   .op true (.p .len [.t 0]) <|
   .op true (.p (.bin .lss) [.t 5, .t 6]) <|
   .br 7
    (.op true (.p (.iad 1) [.t 0, .t 5]) <|
    .op true (.p (.ld none) [.t 8]) <|
    .op true (.p (.iad 1) [.t 1, .t 5]) <|
    .op true (.p (.ld none) [.t 10]) <|
    .op true (.call (.f 7) [.t 9, .t 11]) <|
    .op true (.p .bnot [.t 12]) <|
    .br 13
     (.ret [(.c (bool false), none)])
     (.op true (.p (.bin .add) [.t 5, .c (int 1)]) <|
     .again 0 [.t 14]))
    (.ret [(.c (bool true), none)]))
theorem eqII_ok (he : Has P ν 7 2 V_laws_eqInt64S) (h : Has P ν 20 2 V_laws_eqInt64SS) (l m : List (List Int)) (hl : l.length < 9223372036854775807) (hr : ∀ k, k < l.length → (l.getD k []).length < 9223372036854775807) : Fn P ν 20 [.sl (rows l) l.length, .sl (rows m) m.length] (bool (decide (l = m))) := by
  intro H nx
  refine h _ _ _ _ rfl fun hwf => ?_
  unfold V_laws_eqInt64SS
  simp only [SS, Nat.reduceEqDiff, Nat.reduceAdd, iput, puts]
  refine ⟨fun h1 => ?_, fun h1 => ?_⟩
  · exact ⟨_, rfl, H, fun _ _ h => h, ret_false (fun e => h1 (by rw [e])), rfl, Nat.le_refl _⟩
  have h1' : l.length = m.length := by omega
  refine den_for l.length (fun i => ∀ k, k < i → l.getD k [] = m.getD k []) (fun k hk => by omega) fun i hi hp => ?_
  by_cases hlt : i < l.length
  · have hlt2 : i < m.length := by omega
    simp only [SS, Nat.reduceEqDiff, Nat.reduceAdd, iput, puts, hlt, hlt2, not_true_eq_false]
    refine den_call (fc := (7, [])) rfl (by first | (simp only [SS, Nat.reduceEqDiff, Nat.reduceAdd, iput, puts, FF, frzL_cat]; done) | (simp only [SS, Nat.reduceEqDiff, Nat.reduceAdd, iput, puts, FF, frzL_cat]; rfl)) ((eqI_ok he (l.getD i []) (m.getD i []) (hr i hlt)).fzb) ?_
    simp only [SS, Nat.reduceEqDiff, Nat.reduceAdd, iput, puts, wrap_succ (Nat.lt_trans hlt hl)]
    refine ⟨fun h3 => ?_, fun h3 => up rfl hlt fun k hk => ?_⟩
    · exact ⟨_, rfl, H, fun _ _ h => h, ret_false (fun e => h3 (by rw [e])), rfl, Nat.le_refl _⟩
    · by_cases e : k = i
      · subst e; exact h3
      · exact hp k (by omega)
  · simp only [SS, Nat.reduceEqDiff, Nat.reduceAdd, iput, puts, hlt, not_false_eq_true]
    exact ⟨_, rfl, H, fun _ _ h => h, ret_true (lists_eq_of h1' fun k hk => hp k (by omega)), rfl, Nat.le_refl _⟩

theorem Cat.ext {a b : Cat} (h1 : a.o = b.o) (h2 : a.f = b.f) (h3 : a.t = b.t) (h4 : a.i = b.i) (h5 : a.c = b.c) : a = b := by cases a; cases b; simp_all
/-- All the lists are short, the rows too. -/
structure Small2 (x : Cat) : Prop extends Small x where
  row : ∀ k, k < x.c.length → (x.c.getD k []).length ≤ 1048576

def V_laws_eqCategory : Vc :=
  .op true (.p .box [.t 0]) <|
  .op true (.p .box [.t 1]) <|
  .op true (.p (.fad 0) [.t 2]) <|
  .op true (.p (.ld none) [.t 4]) <|
  .op true (.p (.fad 0) [.t 3]) <|
  .op true (.p (.ld none) [.t 6]) <|
  .op true (.p (.bin .neq) [.t 5, .t 7]) <|
  .br 8
   (.ret [(.c (bool false), none)])
   (.op true (.p (.fad 1) [.t 2]) <|
   .op true (.p (.ld none) [.t 9]) <|
   .op true (.p (.fad 1) [.t 3]) <|
   .op true (.p (.ld none) [.t 11]) <|
   .op true (.call (.f 7) [.t 10, .t 12]) <|
   .op true (.p .bnot [.t 13]) <|
   .br 14
    (.ret [(.c (bool false), none)])
    (.op true (.p (.fad 2) [.t 2]) <|
    .op true (.p (.ld none) [.t 15]) <|
    .op true (.p (.fad 2) [.t 3]) <|
    .op true (.p (.ld none) [.t 17]) <|
    .op true (.call (.f 7) [.t 16, .t 18]) <|
    .op true (.p .bnot [.t 19]) <|
    .br 20
     (.ret [(.c (bool false), none)])
     (.op true (.p (.fad 3) [.t 2]) <|
     .op true (.p (.ld none) [.t 21]) <|
     .op true (.p (.fad 3) [.t 3]) <|
     .op true (.p (.ld none) [.t 23]) <|
     .op true (.call (.f 7) [.t 22, .t 24]) <|
     .op true (.p .bnot [.t 25]) <|
     .br 26
      (.ret [(.c (bool false), none)])
      (.op true (.p (.fad 4) [.t 2]) <|
      .op true (.p (.ld none) [.t 27]) <|
      .op true (.p (.fad 4) [.t 3]) <|
      .op true (.p (.ld none) [.t 29]) <|
      .op true (.call (.f 20) [.t 28, .t 30]) <|
      .op true (.p .bnot [.t 31]) <|
      .br 32
       (.ret [(.c (bool false), none)])
       (.ret [(.c (bool true), none)])))))
theorem eqCat_ok (he : Has P ν 7 2 V_laws_eqInt64S) (he2 : Has P ν 20 2 V_laws_eqInt64SS) (h : Has P ν 8 2 V_laws_eqCategory) (a b : Cat) (s : Small2 a) : Fn P ν 8 [.agg a.cells, .agg b.cells] (bool (decide (a = b))) := by
  intro H nx
  refine h _ _ _ _ rfl fun hwf => ?_
  unfold V_laws_eqCategory
  have s1 := s.f
  have s2 := s.t
  have s3 := s.i
  have s4 := s.c
  simp only [SS, Nat.reduceEqDiff, Nat.reduceAdd, iput, puts, p_boxc, cat0, cat1]
  refine ⟨fun h1 => ?_, fun h1 => ?_⟩
  · exact ⟨_, rfl, H, fun _ _ h => h, ret_false (fun e => h1 (by rw [e])), rfl, Nat.le_refl _⟩
  refine den_call (fc := (7, [])) rfl (by first | (simp only [SS, Nat.reduceEqDiff, Nat.reduceAdd, iput, puts, FF, frzL_cat]; done) | (simp only [SS, Nat.reduceEqDiff, Nat.reduceAdd, iput, puts, FF, frzL_cat]; rfl)) ((eqI_ok he a.f b.f (by omega)).fzb) ?_
  simp only [SS, Nat.reduceEqDiff, Nat.reduceAdd, iput, puts, cat2]
  refine ⟨fun h2 => ?_, fun h2 => ?_⟩
  · exact ⟨_, rfl, H, fun _ _ h => h, ret_false (fun e => h2 (by rw [e])), rfl, Nat.le_refl _⟩
  refine den_call (fc := (7, [])) rfl (by first | (simp only [SS, Nat.reduceEqDiff, Nat.reduceAdd, iput, puts, FF, frzL_cat]; done) | (simp only [SS, Nat.reduceEqDiff, Nat.reduceAdd, iput, puts, FF, frzL_cat]; rfl)) ((eqI_ok he a.t b.t (by omega)).fzb) ?_
  simp only [SS, Nat.reduceEqDiff, Nat.reduceAdd, iput, puts, cat3]
  refine ⟨fun h3 => ?_, fun h3 => ?_⟩
  · exact ⟨_, rfl, H, fun _ _ h => h, ret_false (fun e => h3 (by rw [e])), rfl, Nat.le_refl _⟩
  refine den_call (fc := (7, [])) rfl (by first | (simp only [SS, Nat.reduceEqDiff, Nat.reduceAdd, iput, puts, FF, frzL_cat]; done) | (simp only [SS, Nat.reduceEqDiff, Nat.reduceAdd, iput, puts, FF, frzL_cat]; rfl)) ((eqI_ok he a.i b.i (by omega)).fzb) ?_
  simp only [SS, Nat.reduceEqDiff, Nat.reduceAdd, iput, puts, cat4]
  refine ⟨fun h4 => ?_, fun h4 => ?_⟩
  · exact ⟨_, rfl, H, fun _ _ h => h, ret_false (fun e => h4 (by rw [e])), rfl, Nat.le_refl _⟩
  refine den_call (fc := (20, [])) rfl (by first | (simp only [SS, Nat.reduceEqDiff, Nat.reduceAdd, iput, puts, FF, frzL_cat]; done) | (simp only [SS, Nat.reduceEqDiff, Nat.reduceAdd, iput, puts, FF, frzL_cat]; rfl)) ((eqII_ok he he2 a.c b.c (by omega) (fun k hk => by have := s.row k hk; omega)).fzb) ?_
  simp only [SS, Nat.reduceEqDiff, Nat.reduceAdd, iput, puts]
  refine ⟨fun h5 => ?_, fun h5 => ?_⟩
  · exact ⟨_, rfl, H, fun _ _ h => h, ret_false (fun e => h5 (by rw [e])), rfl, Nat.le_refl _⟩
  · exact ⟨_, rfl, H, fun _ _ h => h, ret_true (Cat.ext h1 h2 h3 h4 h5), rfl, Nat.le_refl _⟩

/-- Sizes. -/
def szS (l : List Int) (left : Int) : Int := if left - l.length < 0 then -1 else left - l.length
def szR : List (List Int) → Int → Int
  | [], left => left
  | r :: rs, left => if szS r left < 0 then -1 else szR rs (szS r left)
def szSS (m : List (List Int)) (left : Int) : Int := if left - m.length < 0 then -1 else szR m (left - m.length)
theorem szS_le (l : List Int) (left : Int) (h : 0 ≤ left) : szS l left ≤ left := by unfold szS; split <;> omega
theorem szS_pos {l : List Int} {left : Int} (h : 0 ≤ szS l left) : (l.length : Int) ≤ left ∧ szS l left ≤ left := by unfold szS at *; split at h <;> split <;> omega

def V_laws_szInt64S : Vc :=
  .op true (.p .len [.t 0]) <|
  .op true (.p (.bin .sub) [.t 1, .t 2]) <|
  .op true (.p (.bin .lss) [.t 3, .c (int 0)]) <|
  .br 4
   (.ret [(.c (int (-1)), none)])
   (.ret [(.t 3, none)])
theorem szI_ok (h : Has P ν 12 2 V_laws_szInt64S) (l : List Int) (left : Int) (h0 : 0 ≤ left) (h1 : left ≤ 1048576) (hl : l.length ≤ 9223372036854775807) : Fn P ν 12 [islice l, int left] (int (szS l left)) := by
  intro H nx
  refine h _ _ _ _ rfl fun hwf => ?_
  unfold V_laws_szInt64S
  simp only [SS, Nat.reduceEqDiff, Nat.reduceAdd, iput, puts, wrap_id (show -9223372036854775808 ≤ left - (l.length : Int) by omega) (show left - (l.length : Int) ≤ 9223372036854775807 by omega)]
  refine ⟨fun h2 => ?_, fun h2 => ?_⟩
  · exact ⟨_, rfl, H, fun _ _ h => h, by unfold szS; rw [if_pos h2]; rfl, rfl, Nat.le_refl _⟩
  · exact ⟨_, rfl, H, fun _ _ h => h, by unfold szS; rw [if_neg h2]; rfl, rfl, Nat.le_refl _⟩

theorem szR_pos : ∀ (m : List (List Int)) (left : Int), 0 ≤ left → 0 ≤ szR m left → ∀ k, k < m.length → ((m.getD k []).length : Int) ≤ left
  | [], _, _, _, k, hk => by simp at hk
  | r :: rs, left, h0, h, k, hk => by
    simp only [szR] at h
    split at h
    · omega
    · rename_i h1
      have h2 := szS_pos (l := r) (left := left) (by omega)
      cases k with
      | zero => simpa using h2.1
      | succ k =>
        have := szR_pos rs (szS r left) (by omega) h k (by simpa using hk)
        simp only [List.getD_cons_succ]
        omega
theorem drop_at {m : List (List Int)} {i : Nat} (h : i < m.length) : m.drop i = m.getD i [] :: m.drop (i + 1) := by
  rw [List.drop_eq_getElem_cons h]; simp [List.getD, h]

def V_laws_szInt64SS : Vc :=
  .op true (.p .len [.t 0]) <|
  .op true (.p (.bin .sub) [.t 1, .t 2]) <|
  .op true (.p (.bin .lss) [.t 3, .c (int 0)]) <|
  .br 4
   (.ret [(.c (int (-1)), none)])
   (.loop 0 [.t 3, .c (int 0)] <|
   .op true (.p .len [.t 0]) <|
   .op true (.p (.bin .lss) [.t 6, .t 7]) <|
   .br 8
    (.op true (.p (.iad 1) [.t 0, .t 6]) <|
    .op true (.p (.ld none) [.t 9]) <|
    .op true (.call (.f 12) [.t 10, .t 5]) <|
    .op true (.p (.bin .lss) [.t 11, .c (int 0)]) <|
    .br 12
     (.ret [(.c (int (-1)), none)])
     (.op true (.p (.bin .add) [.t 6, .c (int 1)]) <|
     .again 0 [.t 11, .t 13]))
    (.ret [(.t 5, none)]))
theorem szII_ok (hz : Has P ν 12 2 V_laws_szInt64S) (h : Has P ν 13 2 V_laws_szInt64SS) (m : List (List Int)) (left : Int) (h0 : 0 ≤ left) (h1 : left ≤ 1048576) (hl : m.length ≤ 9223372036854775807) (hr : ∀ k, k < m.length → (m.getD k []).length ≤ 9223372036854775807) :
    Fn P ν 13 [.sl (rows m) m.length, int left] (int (szSS m left)) := by
  intro H nx
  refine h _ _ _ _ rfl fun hwf => ?_
  unfold V_laws_szInt64SS
  simp only [SS, Nat.reduceEqDiff, Nat.reduceAdd, iput, puts, wrap_id (show -9223372036854775808 ≤ left - (m.length : Int) by omega) (show left - (m.length : Int) ≤ 9223372036854775807 by omega)]
  refine ⟨fun h2 => ?_, fun h2 => ?_⟩
  · exact ⟨_, rfl, H, fun _ _ h => h, by unfold szSS; rw [if_pos h2]; rfl, rfl, Nat.le_refl _⟩
  have e0 : szSS m left = szR m (left - m.length) := by unfold szSS; rw [if_neg h2]
  refine den_loop (α := Nat × Int) (fun a => [int a.2, int a.1]) (fun a H' nx' => a.1 ≤ m.length ∧ 0 ≤ a.2 ∧ a.2 ≤ 1048576 ∧ szSS m left = szR (m.drop a.1) a.2 ∧ H' = H ∧ nx' = nx) (fun a => m.length - a.1) (0, left - m.length) ?_ ?_ ?_
  · simp only [SS, Nat.reduceEqDiff, Nat.reduceAdd, iput, puts]; rfl
  · exact ⟨Nat.zero_le _, by simp only; omega, by simp only; omega, e0, rfl, rfl⟩
  · rintro ⟨i, x⟩ H' nx' ⟨g1, g2, g3, g4, g5, g6⟩
    simp only at g1 g2 g3 g4
    subst g5; subst g6
    by_cases hlt : i < m.length
    · rw [drop_at hlt] at g4
      simp only [szR] at g4
      simp only [SS, Nat.reduceEqDiff, Nat.reduceAdd, iput, puts, hlt, not_true_eq_false]
      refine den_call (fc := (12, [])) rfl (by first | (simp only [SS, Nat.reduceEqDiff, Nat.reduceAdd, iput, puts, FF, frzL_cat]; done) | (simp only [SS, Nat.reduceEqDiff, Nat.reduceAdd, iput, puts, FF, frzL_cat]; rfl)) ((szI_ok hz (m.getD i []) x g2 g3 (hr i hlt)).fzi) ?_
      simp only [SS, Nat.reduceEqDiff, Nat.reduceAdd, iput, puts, wrap_succ (show i < 9223372036854775807 by omega)]
      refine ⟨fun h5 => ?_, fun h5 => ?_⟩
      · exact ⟨_, rfl, H', fun _ _ h => h, by rw [g4, if_pos h5]; rfl, rfl, Nat.le_refl _⟩
      · rw [if_neg h5] at g4
        have := szS_pos (l := m.getD i []) (left := x) (by omega)
        exact ⟨(i + 1, szS (m.getD i []) x), rfl, ⟨by simp only; omega, by simp only; omega, by simp only; omega, g4⟩, by simp only; omega⟩
    · simp only [SS, Nat.reduceEqDiff, Nat.reduceAdd, iput, puts, hlt, not_false_eq_true]
      have : m.drop i = [] := List.drop_eq_nil_of_le (by omega)
      rw [this] at g4
      exact ⟨_, rfl, H', fun _ _ h => h, by rw [g4]; rfl, rfl, Nat.le_refl _⟩

def szCat (c : Cat) (left : Int) : Int :=
  if szS c.f left < 0 then -1 else if szS c.t (szS c.f left) < 0 then -1 else if szS c.i (szS c.t (szS c.f left)) < 0 then -1 else
  if szSS c.c (szS c.i (szS c.t (szS c.f left))) < 0 then -1 else szSS c.c (szS c.i (szS c.t (szS c.f left)))
/-- What is known of a category that came in. -/
structure Read (x : Cat) : Prop where
  f : x.f.length ≤ 9223372036854775807
  t : x.t.length ≤ 9223372036854775807
  i : x.i.length ≤ 9223372036854775807
  c : x.c.length ≤ 9223372036854775807
  row : ∀ k, k < x.c.length → (x.c.getD k []).length ≤ 9223372036854775807
theorem szCat_small {c : Cat} {left : Int} (h0 : 0 ≤ left) (h1 : left ≤ 1048576) (h : 0 ≤ szCat c left) : Small2 c := by
  unfold szCat at h
  split at h
  · omega
  · rename_i a1
    split at h
    · omega
    · rename_i a2
      split at h
      · omega
      · rename_i a3
        split at h
        · omega
        · rename_i a4
          have b1 := szS_pos (l := c.f) (left := left) (by omega)
          have b2 := szS_pos (l := c.t) (left := szS c.f left) (by omega)
          have b3 := szS_pos (l := c.i) (left := szS c.t (szS c.f left)) (by omega)
          unfold szSS at a4
          split at a4
          · omega
          · rename_i a5
            have b4 := szR_pos c.c (szS c.i (szS c.t (szS c.f left)) - c.c.length) (by omega) (by omega)
            exact ⟨⟨by omega, by omega, by omega, by omega⟩, fun k hk => by have := b4 k hk; omega⟩

def V_laws_szCategory : Vc :=
  .op true (.p .box [.t 0]) <|
  .op true (.p (.fad 1) [.t 2]) <|
  .op true (.p (.ld none) [.t 3]) <|
  .op true (.call (.f 12) [.t 4, .t 1]) <|
  .op true (.p (.bin .lss) [.t 5, .c (int 0)]) <|
  .br 6
   (.ret [(.c (int (-1)), none)])
   (.op true (.p (.fad 2) [.t 2]) <|
   .op true (.p (.ld none) [.t 7]) <|
   .op true (.call (.f 12) [.t 8, .t 5]) <|
   .op true (.p (.bin .lss) [.t 9, .c (int 0)]) <|
   .br 10
    (.ret [(.c (int (-1)), none)])
    (.op true (.p (.fad 3) [.t 2]) <|
    .op true (.p (.ld none) [.t 11]) <|
    .op true (.call (.f 12) [.t 12, .t 9]) <|
    .op true (.p (.bin .lss) [.t 13, .c (int 0)]) <|
    .br 14
     (.ret [(.c (int (-1)), none)])
     (.op true (.p (.fad 4) [.t 2]) <|
     .op true (.p (.ld none) [.t 15]) <|
     .op true (.call (.f 13) [.t 16, .t 13]) <|
     .op true (.p (.bin .lss) [.t 17, .c (int 0)]) <|
     .br 18
      (.ret [(.c (int (-1)), none)])
      (.ret [(.t 17, none)]))))
theorem szCat_ok (hz : Has P ν 12 2 V_laws_szInt64S) (hz2 : Has P ν 13 2 V_laws_szInt64SS) (h : Has P ν 3 2 V_laws_szCategory) (c : Cat) (s : Read c) (left : Int) (h0 : 0 ≤ left) (h1 : left ≤ 1048576) : Fn P ν 3 [.agg c.cells, int left] (int (szCat c left)) := by
  intro H nx
  refine h _ _ _ _ rfl fun hwf => ?_
  unfold V_laws_szCategory
  simp only [SS, Nat.reduceEqDiff, Nat.reduceAdd, iput, puts, p_boxc, cat1]
  refine den_call (fc := (12, [])) rfl (by first | (simp only [SS, Nat.reduceEqDiff, Nat.reduceAdd, iput, puts, FF, frzL_cat]; done) | (simp only [SS, Nat.reduceEqDiff, Nat.reduceAdd, iput, puts, FF, frzL_cat]; rfl)) ((szI_ok hz c.f left h0 h1 s.f).fzi) ?_
  simp only [SS, Nat.reduceEqDiff, Nat.reduceAdd, iput, puts, cat2]
  have l1 := szS_le c.f left h0
  refine ⟨fun h2 => ?_, fun h2 => ?_⟩
  · exact ⟨_, rfl, H, fun _ _ h => h, by unfold szCat; rw [if_pos h2]; rfl, rfl, Nat.le_refl _⟩
  refine den_call (fc := (12, [])) rfl (by first | (simp only [SS, Nat.reduceEqDiff, Nat.reduceAdd, iput, puts, FF, frzL_cat]; done) | (simp only [SS, Nat.reduceEqDiff, Nat.reduceAdd, iput, puts, FF, frzL_cat]; rfl)) ((szI_ok hz c.t (szS c.f left) (by omega) (by omega) s.t).fzi) ?_
  simp only [SS, Nat.reduceEqDiff, Nat.reduceAdd, iput, puts, cat3]
  have l2 := szS_le c.t (szS c.f left) (by omega)
  refine ⟨fun h3 => ?_, fun h3 => ?_⟩
  · exact ⟨_, rfl, H, fun _ _ h => h, by unfold szCat; rw [if_neg h2, if_pos h3]; rfl, rfl, Nat.le_refl _⟩
  refine den_call (fc := (12, [])) rfl (by first | (simp only [SS, Nat.reduceEqDiff, Nat.reduceAdd, iput, puts, FF, frzL_cat]; done) | (simp only [SS, Nat.reduceEqDiff, Nat.reduceAdd, iput, puts, FF, frzL_cat]; rfl)) ((szI_ok hz c.i (szS c.t (szS c.f left)) (by omega) (by omega) s.i).fzi) ?_
  simp only [SS, Nat.reduceEqDiff, Nat.reduceAdd, iput, puts, cat4]
  have l3 := szS_le c.i (szS c.t (szS c.f left)) (by omega)
  refine ⟨fun h4 => ?_, fun h4 => ?_⟩
  · exact ⟨_, rfl, H, fun _ _ h => h, by unfold szCat; rw [if_neg h2, if_neg h3, if_pos h4]; rfl, rfl, Nat.le_refl _⟩
  refine den_call (fc := (13, [])) rfl (by first | (simp only [SS, Nat.reduceEqDiff, Nat.reduceAdd, iput, puts, FF, frzL_cat]; done) | (simp only [SS, Nat.reduceEqDiff, Nat.reduceAdd, iput, puts, FF, frzL_cat]; rfl)) ((szII_ok hz hz2 c.c (szS c.i (szS c.t (szS c.f left))) (by omega) (by omega) s.c s.row).fzi) ?_
  simp only [SS, Nat.reduceEqDiff, Nat.reduceAdd, iput, puts]
  refine ⟨fun h5 => ?_, fun h5 => ?_⟩
  · exact ⟨_, rfl, H, fun _ _ h => h, by unfold szCat; rw [if_neg h2, if_neg h3, if_neg h4, if_pos h5]; rfl, rfl, Nat.le_refl _⟩
  · exact ⟨_, rfl, H, fun _ _ h => h, by unfold szCat; rw [if_neg h2, if_neg h3, if_neg h4, if_neg h5]; rfl, rfl, Nat.le_refl _⟩
end Go.Av
