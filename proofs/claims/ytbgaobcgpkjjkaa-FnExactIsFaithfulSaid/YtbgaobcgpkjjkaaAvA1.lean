/-
  Small functions: ranges, lists of integers in a range, a category's table.
-/
import Derived.Test.YtbgaobcgpkjjkaaAvSimp
namespace Go.Av
open Classical
set_option linter.unusedSimpArgs false
set_option linter.unusedVariables false
variable {P : Program} {ν : Nat → FuncId}

def V_inRange : Vc :=
  .op true (.p (.bin .geq) [.t 0, .t 1]) <|
  .br 3
   (.op true (.p (.bin .leq) [.t 0, .t 2]) <|
   .ret [(.t 4, none)])
   (.ret [(.c (bool false), none)])
theorem inRange_ok (h : Has P ν 32 3 V_inRange) (a b c : Int) : Fn P ν 32 [int a, int b, int c] (bool (decide (b ≤ a ∧ a ≤ c))) := by
  intro H nx
  refine h _ _ _ _ rfl fun hwf => ?_
  unfold V_inRange
  simp only [SS, Nat.reduceEqDiff, Nat.reduceAdd, iput, puts]
  refine ⟨fun h1 => ?_, fun h1 => ?_⟩
  · refine ⟨_, rfl, H, fun _ _ h => h, ?_, rfl, Nat.le_refl _⟩
    show bool (decide (a ≤ c)) = _
    have : b ≤ a := h1
    simp [this]
  · exact ⟨_, rfl, H, fun _ _ h => h, ret_false (by omega), rfl, Nat.le_refl _⟩

def V_spec_l01In : Vc :=
  .op true (.p (.bin .geq) [.t 0, .t 1]) <|
  .br 3
   (.op true (.p (.bin .leq) [.t 0, .t 2]) <|
   .ret [(.t 4, none)])
   (.ret [(.c (bool false), none)])
theorem l01In_ok (h : Has P ν 35 3 V_spec_l01In) (a b c : Int) : Fn P ν 35 [int a, int b, int c] (bool (decide (b ≤ a ∧ a ≤ c))) := by
  intro H nx
  refine h _ _ _ _ rfl fun hwf => ?_
  unfold V_spec_l01In
  simp only [SS, Nat.reduceEqDiff, Nat.reduceAdd, iput, puts]
  refine ⟨fun h1 => ?_, fun h1 => ?_⟩
  · refine ⟨_, rfl, H, fun _ _ h => h, ?_, rfl, Nat.le_refl _⟩
    show bool (decide (a ≤ c)) = _
    have : b ≤ a := h1
    simp [this]
  · exact ⟨_, rfl, H, fun _ _ h => h, ret_false (by omega), rfl, Nat.le_refl _⟩

/-- All numbers of the list lie from 0 on below n. -/
def Wn (l : List Int) (n : Int) : Prop := ∀ k, k < l.length → 0 ≤ l.getD k 0 ∧ l.getD k 0 < n
theorem Wn_all {l : List Int} {n : Int} (h : ∀ k, k < l.length → 0 ≤ l.getD k 0 ∧ l.getD k 0 < n) : Wn l n := h

def V_within : Vc :=
  .op true (.p .len [.t 0]) <|
  .loop 0 [.c (int 0)] <|
  .op true (.p (.bin .lss) [.t 3, .t 2]) <|
  .br 4
   (.op true (.p (.iad 1) [.t 0, .t 3]) <|
   .op true (.p (.ld none) [.t 5]) <|
   .op true (.p (.bin .sub) [.t 1, .c (int 1)]) <|
   .op true (.call (.f 32) [.t 6, .c (int 0), .t 7]) <|
   .op true (.p .bnot [.t 8]) <|
   .br 9
    (.ret [(.c (bool false), none)])
    (.op true (.p (.bin .add) [.t 3, .c (int 1)]) <|
    .again 0 [.t 10]))
   (.ret [(.c (bool true), none)])
theorem within_ok (hin : Has P ν 32 3 V_inRange) (h : Has P ν 25 2 V_within) (l : List Int) (n : Int) (h1 : -9223372036854775807 ≤ n) (h2 : n ≤ 9223372036854775807) (hl : l.length < 9223372036854775807) : Fn P ν 25 [islice l, int n] (bool (decide (Wn l n))) := by
  intro H nx
  refine h _ _ _ _ rfl fun hwf => ?_
  unfold V_within
  simp only [SS, Nat.reduceEqDiff, Nat.reduceAdd, iput, puts]
  refine den_for l.length (fun i => ∀ k, k < i → 0 ≤ l.getD k 0 ∧ l.getD k 0 < n) (fun k hk => by omega) fun i hi hp => ?_
  by_cases hlt : i < l.length
  · simp only [SS, Nat.reduceEqDiff, Nat.reduceAdd, iput, puts, hlt, not_true_eq_false]
    refine den_call (fc := (32, [])) rfl (by first | (simp only [SS, Nat.reduceEqDiff, Nat.reduceAdd, iput, puts, FF]; done) | (simp only [SS, Nat.reduceEqDiff, Nat.reduceAdd, iput, puts, FF]; rfl)) ((inRange_ok hin (l.getD i 0) 0 (IntKind.i64.wrap (n - 1))).fzb) ?_
    simp only [SS, Nat.reduceEqDiff, Nat.reduceAdd, iput, puts, wrap_succ (Nat.lt_trans hlt hl), wrap_id (show -9223372036854775808 ≤ n - 1 by omega) (show n - 1 ≤ 9223372036854775807 by omega)]
    refine ⟨fun h3 => ?_, fun h3 => up rfl hlt fun k hk => ?_⟩
    · exact ⟨_, rfl, H, fun _ _ h => h, ret_false (fun hw => h3 (by have := hw i hlt; omega)), rfl, Nat.le_refl _⟩
    · by_cases e : k = i
      · subst e; omega
      · exact hp k (by omega)
  · simp only [SS, Nat.reduceEqDiff, Nat.reduceAdd, iput, puts, hlt, not_false_eq_true]
    exact ⟨_, rfl, H, fun _ _ h => h, ret_true (fun k hk => hp k (by omega)), rfl, Nat.le_refl _⟩

def V_spec_l01Map : Vc :=
  .loop 0 [.c (int 0)] <|
  .op true (.p .len [.t 1]) <|
  .op true (.p (.bin .lss) [.t 2, .t 3]) <|
  .br 4
   (.op true (.p (.iad 1) [.t 1, .t 2]) <|
   .op true (.p (.ld none) [.t 5]) <|
   .op true (.p (.bin .lss) [.t 6, .c (int 0)]) <|
   .br 7
    (.ret [(.c (bool false), none)])
    (.op true (.p (.iad 1) [.t 1, .t 2]) <|
    .op true (.p (.ld none) [.t 8]) <|
    .op true (.p (.bin .geq) [.t 9, .t 0]) <|
    .br 10
     (.ret [(.c (bool false), none)])
     (.op true (.p (.bin .add) [.t 2, .c (int 1)]) <|
     .again 0 [.t 11])))
   (.ret [(.c (bool true), none)])
theorem l01Map_ok (h : Has P ν 37 2 V_spec_l01Map) (l : List Int) (n : Int) (hl : l.length < 9223372036854775807) : Fn P ν 37 [int n, islice l] (bool (decide (Wn l n))) := by
  intro H nx
  refine h _ _ _ _ rfl fun hwf => ?_
  unfold V_spec_l01Map
  refine den_for l.length (fun i => ∀ k, k < i → 0 ≤ l.getD k 0 ∧ l.getD k 0 < n) (fun k hk => by omega) fun i hi hp => ?_
  by_cases hlt : i < l.length
  · simp only [SS, Nat.reduceEqDiff, Nat.reduceAdd, iput, puts, hlt, not_true_eq_false, wrap_succ (Nat.lt_trans hlt hl)]
    have bad : ¬ (0 ≤ l.getD i 0 ∧ l.getD i 0 < n) → ¬ Wn l n := fun h3 hw => h3 (hw i hlt)
    refine ⟨fun h3 => ?_, fun h3 => ⟨fun h4 => ?_, fun h4 => up rfl hlt fun k hk => ?_⟩⟩
    · exact ⟨_, rfl, H, fun _ _ h => h, ret_false (bad (by omega)), rfl, Nat.le_refl _⟩
    · exact ⟨_, rfl, H, fun _ _ h => h, ret_false (bad (by omega)), rfl, Nat.le_refl _⟩
    · by_cases e : k = i
      · subst e; omega
      · exact hp k (by omega)
  · simp only [SS, Nat.reduceEqDiff, Nat.reduceAdd, iput, puts, hlt, not_false_eq_true]
    exact ⟨_, rfl, H, fun _ _ h => h, ret_true (fun k hk => hp k (by omega)), rfl, Nat.le_refl _⟩

def V_spec_l02Ends : Vc :=
  .op true (.p .len [.t 0]) <|
  .op true (.p (.bin .eql) [.t 3, .t 1]) <|
  .br 4
   (.op true (.call (.f 37) [.t 2, .t 0]) <|
   .ret [(.t 5, none)])
   (.ret [(.c (bool false), none)])
theorem l02Ends_ok (hm : Has P ν 37 2 V_spec_l01Map) (h : Has P ν 36 3 V_spec_l02Ends) (l : List Int) (m n : Int) (hl : l.length < 9223372036854775807) : Fn P ν 36 [islice l, int m, int n] (bool (decide ((l.length : Int) = m ∧ Wn l n))) := by
  intro H nx
  refine h _ _ _ _ rfl fun hwf => ?_
  unfold V_spec_l02Ends
  simp only [SS, Nat.reduceEqDiff, Nat.reduceAdd, iput, puts]
  refine ⟨fun h1 => ?_, fun h1 => ?_⟩
  · refine den_call (fc := (37, [])) rfl (by first | (simp only [SS, Nat.reduceEqDiff, Nat.reduceAdd, iput, puts, FF]; done) | (simp only [SS, Nat.reduceEqDiff, Nat.reduceAdd, iput, puts, FF]; rfl)) ((l01Map_ok hm l n hl).fzb) ?_
    refine ⟨_, rfl, H, fun _ _ h => h, ?_, rfl, Nat.le_refl _⟩
    show bool (decide (Wn l n)) = _
    have : (l.length : Int) = m := by simpa using h1
    simp [this]
  · exact ⟨_, rfl, H, fun _ _ h => h, ret_false (fun h => h1 h.1), rfl, Nat.le_refl _⟩

structure Cat where
  o : Int
  f : List Int
  t : List Int
  i : List Int
  c : List (List Int)
def Cat.cells (c : Cat) : List AV := [int c.o, islice c.f, islice c.t, islice c.i, .sl (rows c.c) c.c.length]
theorem cat0 (c : Cat) : c.cells[0]? = some (int c.o) := rfl
theorem cat1 (c : Cat) : c.cells[1]? = some (islice c.f) := rfl
theorem cat2 (c : Cat) : c.cells[2]? = some (islice c.t) := rfl
theorem cat3 (c : Cat) : c.cells[3]? = some (islice c.i) := rfl
theorem cat4 (c : Cat) : c.cells[4]? = some (.sl (rows c.c) c.c.length) := rfl
theorem cat_still (c : Cat) : c.cells.all AV.still = true := rfl
theorem cat_one (c : Cat) : c.cells.all AV.one = true := rfl
theorem p_boxc {H : Hp} (c : Cat) : pvf H .box [.agg c.cells] = some (.ptr c.cells 0) := p_box (cat_still c) (cat_one c)
theorem p_ldc {H : Hp} (c : Cat) : pvf H (.ld (some 5)) [.ptr c.cells 0] = some (.agg c.cells) := p_lda rfl
theorem frzL_cat {H : Hp} {l : List AV} (c : Cat) : frzL H (.agg c.cells :: l) = (frzL H l).map (.agg c.cells :: ·) := frzL_agg (cat_still c)
/-- The composite of two arrows in the table. -/
def Cat.K (c : Cat) (a b : Int) : Int := (c.c.getD a.toNat []).getD b.toNat 0
def Cat.F (c : Cat) (a : Int) : Int := c.f.getD a.toNat 0
def Cat.T (c : Cat) (a : Int) : Int := c.t.getD a.toNat 0
def Cat.I (c : Cat) (a : Int) : Int := c.i.getD a.toNat 0

def V_Category_arrows : Vc :=
  .op true (.p .nck [.t 0]) <|
  .op true (.p (.fad 1) [.t 1]) <|
  .op true (.p (.ld none) [.t 2]) <|
  .op true (.p .len [.t 3]) <|
  .ret [(.t 4, none)]
theorem arrows_ok (h : Has P ν 26 1 V_Category_arrows) (c : Cat) : Fn P ν 26 [.ptr c.cells 0] (int c.f.length) := by
  intro H nx
  refine h _ _ _ _ rfl fun hwf => ?_
  unfold V_Category_arrows
  simp only [SS, Nat.reduceEqDiff, Nat.reduceAdd, iput, puts, cat1]
  exact ⟨_, rfl, H, fun _ _ h => h, rfl, rfl, Nat.le_refl _⟩

def V_Category_then : Vc :=
  .op true (.p .nck [.t 0]) <|
  .op true (.p (.fad 4) [.t 3]) <|
  .op true (.p (.ld none) [.t 4]) <|
  .op true (.p (.iad 1) [.t 5, .t 1]) <|
  .op true (.p (.ld none) [.t 6]) <|
  .op true (.p (.iad 1) [.t 7, .t 2]) <|
  .op true (.p (.ld none) [.t 8]) <|
  .ret [(.t 9, none)]
theorem then_ok (h : Has P ν 34 3 V_Category_then) (c : Cat) (a b : Int) (h1 : 0 ≤ a) (h2 : a < c.c.length) (h3 : 0 ≤ b) (h4 : b < (c.c.getD a.toNat []).length) : Fn P ν 34 [.ptr c.cells 0, int a, int b] (int (c.K a b)) := by
  intro H nx
  refine h _ _ _ _ rfl fun hwf => ?_
  unfold V_Category_then
  have h5 : a.toNat < c.c.length := by omega
  have h6 : b.toNat < (c.c.getD a.toNat []).length := by omega
  simp only [SS, Nat.reduceEqDiff, Nat.reduceAdd, iput, puts, cat4, h1, h2, h3, h4, h5, h6]
  exact ⟨_, rfl, H, fun _ _ h => h, rfl, rfl, Nat.le_refl _⟩

theorem sub_hput {H : Hp} {nx o : Nat} {c : Option (List AV)} (hw : Wf H nx) (ho : nx ≤ o) : Sub H (hput H o c) := fun k d hk => by
  have : k ≠ o := fun e => by subst e; rw [hw k ho] at hk; cases hk
  simp only [hput]; rw [if_neg this]; exact hk

def V_Category_ends : Vc :=
  .op true (.new [int 0, int 0]) <|
  .op true (.p .nck [.t 0]) <|
  .op true (.p (.fad 1) [.t 3]) <|
  .op true (.p (.ld none) [.t 4]) <|
  .op true (.p (.iad 1) [.t 5, .t 1]) <|
  .op true (.p (.ld none) [.t 6]) <|
  .op true (.p .nck [.t 0]) <|
  .op true (.p (.fad 2) [.t 8]) <|
  .op true (.p (.ld none) [.t 9]) <|
  .op true (.p (.iad 1) [.t 10, .t 1]) <|
  .op true (.p (.ld none) [.t 11]) <|
  .op true (.p (.mka [int 0, int 0] [(0, 1), (1, 1)]) [.t 7, .t 12]) <|
  .op true (.st 2 (.t 2) (.t 13)) <|
  .ret [(.t 2, some (some 2))]
theorem ends_ok (h : Has P ν 38 2 V_Category_ends) (c : Cat) (a : Int) (h1 : 0 ≤ a) (h2 : a < c.f.length) (h3 : a < c.t.length) : Fn P ν 38 [.ptr c.cells 0, int a] (.agg [int (c.F a), int (c.T a)]) := by
  intro H nx
  refine h _ _ _ _ rfl fun hwf => ?_
  unfold V_Category_ends
  refine den_new ?_
  have h5 : a.toNat < c.f.length := by omega
  have h6 : a.toNat < c.t.length := by omega
  simp only [SS, Nat.reduceEqDiff, Nat.reduceAdd, iput, puts, cat1, cat2, h1, h2, h3, h5, h6]
  refine den_st (h := hput H nx (some [int (c.F a), int (c.T a)])) ?_ ?_
  · simp only [SS, Nat.reduceEqDiff, Nat.reduceAdd, iput, puts, stTo, hput_hput, AV.cells, Cat.F, Cat.T]
    simp [hput, AV.one, int, Value.oneCell']
  · refine ⟨.agg [int (c.F a), int (c.T a)], ?_, H, sub_hput hwf (Nat.le_refl _), rfl, rfl, Nat.le_succ _⟩
    simp [retOf, rets, SS, Nat.reduceEqDiff, Nat.reduceAdd, iput, puts, pLd, hput]
end Go.Av
