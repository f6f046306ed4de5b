/-
  The product of two categories: the program's.
-/
import Derived.Test.YtbalggpkmaabmaaAvZ0
namespace Go.Av
open Classical
set_option linter.unusedSimpArgs false
set_option linter.unusedVariables false
variable {P : Program} {ν : Nat → FuncId}

def gl (n : Nat) (p : Nat → Int) : List Int := (List.range n).map p
theorem gl_succ {n : Nat} {p : Nat → Int} : gl (n + 1) p = gl n p ++ [p n] := by simp [gl, List.range_succ]
theorem gl_len {n : Nat} {p : Nat → Int} : (gl n p).length = n := by simp [gl]
theorem gl_at {n i : Nat} {p : Nat → Int} (h : i < n) : (gl n p).getD i 0 = p i := by simp [gl, List.getD, h]
theorem ixd {a b m : Nat} (h : b < m) : (a * m + b) / m = a := by rw [Nat.add_comm, Nat.add_mul_div_right _ _ (by omega), Nat.div_eq_of_lt h, Nat.zero_add]
theorem ixm {a b m : Nat} (h : b < m) : (a * m + b) % m = b := by rw [Nat.add_comm, Nat.add_mul_mod_self_right, Nat.mod_eq_of_lt h]
theorem ixlt {a b n m : Nat} (ha : a < n) (h : b < m) : a * m + b < n * m := by
  have : (a + 1) * m ≤ n * m := Nat.mul_le_mul_right _ ha
  rw [Nat.succ_mul] at this
  omega
theorem ixs {a m : Nat} : a * m + m = (a + 1) * m := by rw [Nat.succ_mul]
theorem div_lt {k n m : Nat} (h : k < n * m) : k / m < n ∧ k % m < m := by
  have hm : 0 < m := by
    cases m with
    | zero => simp at h
    | succ m => omega
  exact ⟨(Nat.div_lt_iff_lt_mul hm).2 h, Nat.mod_lt _ hm⟩
theorem lin_inj {x y x' y' o : Int} (h0 : 0 ≤ y) (h1 : y < o) (h2 : 0 ≤ y') (h3 : y' < o) (h : x * o + y = x' * o + y') : x = x' ∧ y = y' := by
  have key : ∀ {a b : Int}, a < b → a * o + o ≤ b * o := fun {a b} hab => by
    have := Int.mul_le_mul_of_nonneg_right (show a + 1 ≤ b by omega) (show 0 ≤ o by omega)
    rw [Int.add_mul, Int.one_mul] at this
    exact this
  by_cases e : x = x'
  · subst e; exact ⟨rfl, by omega⟩
  · rcases (show x < x' ∨ x' < x by omega) with q | q
    · have := key q; omega
    · have := key q; omega
theorem mul_bd {x y : Int} {a b : Int} (h0 : 0 ≤ x) (h1 : x ≤ a) (h2 : 0 ≤ y) (h3 : y ≤ b) : 0 ≤ x * y ∧ x * y ≤ a * b := ⟨Int.mul_nonneg h0 h2, Int.mul_le_mul h1 h3 h2 (by omega)⟩
theorem p_ld0 {a : AV} : ([a] : List AV)[0]? = some a := rfl
theorem p_quoN {H : Hp} {a m : Nat} (hm : m ≠ 0) (ha : a ≤ 9223372036854775807) : pvf H (.bin .quo) [int (a : Int), int (m : Int)] = some (int ((a / m : Nat) : Int)) := by
  have e : pvf H (.bin .quo) [int (a : Int), int (m : Int)] = (if (m : Int) = 0 then none else some (.int .i64 (IntKind.i64.wrap ((a : Int).tdiv m)))).map AV.v := rfl
  have := Nat.div_le_self a m
  rw [e, if_neg (by omega), ← Int.ofNat_tdiv]
  generalize a / m = q at this ⊢
  rw [wrap_id (by omega) (by omega)]
  rfl
theorem p_remN {H : Hp} {a m : Nat} (hm : m ≠ 0) (ha : a ≤ 9223372036854775807) : pvf H (.bin .rem) [int (a : Int), int (m : Int)] = some (int ((a % m : Nat) : Int)) := by
  have e : pvf H (.bin .rem) [int (a : Int), int (m : Int)] = (if (m : Int) = 0 then none else some (.int .i64 ((a : Int).tmod m))).map AV.v := rfl
  have := Nat.mod_le a m
  rw [e, if_neg (by omega), ← Int.ofNat_tmod]
  generalize a % m = q at this ⊢
  rfl

def pF (c d : Cat) (k : Nat) : Int := c.F ((k / d.f.length : Nat) : Int) * d.o + d.F ((k % d.f.length : Nat) : Int)
def pT (c d : Cat) (k : Nat) : Int := c.T ((k / d.f.length : Nat) : Int) * d.o + d.T ((k % d.f.length : Nat) : Int)
def pI (c d : Cat) (k : Nat) : Int := c.I ((k / d.i.length : Nat) : Int) * d.f.length + d.I ((k % d.i.length : Nat) : Int)
def pC (c d : Cat) (k l : Nat) : Int := c.K ((k / d.f.length : Nat) : Int) ((l / d.f.length : Nat) : Int) * d.f.length + d.K ((k % d.f.length : Nat) : Int) ((l % d.f.length : Nat) : Int)
def pK (c d : Cat) (k l : Nat) : Int := if 0 ≤ c.K ((k / d.f.length : Nat) : Int) ((l / d.f.length : Nat) : Int) ∧ 0 ≤ d.K ((k % d.f.length : Nat) : Int) ((l % d.f.length : Nat) : Int) then pC c d k l else -1
def prodK (c d : Cat) : Cat := ⟨c.o * d.o, gl (c.f.length * d.f.length) (pF c d), gl (c.f.length * d.f.length) (pT c d), gl (c.i.length * d.i.length) (pI c d), (List.range (c.f.length * d.f.length)).map fun k => gl (c.f.length * d.f.length) (pK c d k)⟩
def FitK (c d : Cat) : Prop := c.o * d.o ≤ 8 ∧ c.f.length * d.f.length ≤ 40
noncomputable def prK (c d : Cat) : Cat := if FitK c d then prodK c d else zeroK
section
variable {c d : Cat}
theorem pair_arr {k : Nat} (h : k < c.f.length * d.f.length) : Arr c ((k / d.f.length : Nat) : Int) ∧ Arr d ((k % d.f.length : Nat) : Int) := by
  have := div_lt h
  exact ⟨⟨Int.natCast_nonneg _, Int.ofNat_lt.2 this.1⟩, ⟨Int.natCast_nonneg _, Int.ofNat_lt.2 this.2⟩⟩
theorem ends_iff (s : Shape c) (t : Shape d) {k l : Nat} (hk : k < c.f.length * d.f.length) (hl : l < c.f.length * d.f.length) : pT c d k = pF c d l ↔ 0 ≤ c.K ((k / d.f.length : Nat) : Int) ((l / d.f.length : Nat) : Int) ∧ 0 ≤ d.K ((k % d.f.length : Nat) : Int) ((l % d.f.length : Nat) : Int) := by
  obtain ⟨a1, a2⟩ := pair_arr hk
  obtain ⟨b1, b2⟩ := pair_arr hl
  rw [s.kI a1 b1, t.kI a2 b2]
  have o1 := t.obT a2
  have o2 := t.obF b2
  constructor
  · intro h; exact lin_inj o1.1 o1.2 o2.1 o2.2 h
  · rintro ⟨h1, h2⟩; unfold pT pF; rw [h1, h2]
theorem prod_tbl (s : Shape c) (t : Shape d) : tbl (pC c d) (gl (c.f.length * d.f.length) (pF c d)) (gl (c.f.length * d.f.length) (pT c d)) = (prodK c d).c := by
  unfold tbl prodK
  rw [gl_len]
  refine List.map_congr_left fun a ha => ?_
  have ha := List.mem_range.1 ha
  unfold tblRow gl
  rw [List.length_map, List.length_range]
  refine List.map_congr_left fun b hb => ?_
  have hb := List.mem_range.1 hb
  have e1 := gl_at (p := pT c d) ha
  have e2 := gl_at (p := pF c d) hb
  unfold gl at e1 e2
  unfold tblAt pK
  rw [e1, e2]
  by_cases e : pT c d a = pF c d b
  · rw [if_pos e, if_pos ((ends_iff s t ha hb).1 e)]
  · rw [if_neg e, if_neg fun h => e ((ends_iff s t ha hb).2 h)]
theorem pC_bd (s : Shape c) (t : Shape d) {k l : Nat} (hk : k < c.f.length * d.f.length) (hl : l < c.f.length * d.f.length) (h : pT c d k = pF c d l) : 0 ≤ c.K ((k / d.f.length : Nat) : Int) ((l / d.f.length : Nat) : Int) * d.f.length ∧ c.K ((k / d.f.length : Nat) : Int) ((l / d.f.length : Nat) : Int) * d.f.length ≤ 1600 ∧ 0 ≤ d.K ((k % d.f.length : Nat) : Int) ((l % d.f.length : Nat) : Int) ∧ d.K ((k % d.f.length : Nat) : Int) ((l % d.f.length : Nat) : Int) ≤ 40 := by
  obtain ⟨a1, a2⟩ := pair_arr hk
  obtain ⟨b1, b2⟩ := pair_arr hl
  have o1 := t.obT a2
  have o2 := t.obF b2
  obtain ⟨h1, h2⟩ := lin_inj o1.1 o1.2 o2.1 o2.2 h
  have r1 := s.arK a1 b1 h1
  have r2 := t.arK a2 b2 h2
  have n1 := s.n40
  have n2 := t.n40
  have := mul_bd (a := 40) (b := 40) (y := d.f.length) r1.1 (by have := r1.2; omega) (by omega) (by omega)
  have := r2.1
  have := r2.2
  refine ⟨by omega, by omega, by omega, by omega⟩
end
def V_product_1 : Vc :=
  .op true (.p (.ld none) [.t 2]) <|
  .op true (.p (.ld none) [.t 3]) <|
  .op true (.p (.bin .quo) [.t 0, .t 6]) <|
  .op true (.p (.ld none) [.t 3]) <|
  .op true (.p (.bin .quo) [.t 1, .t 8]) <|
  .op true (.call (.f 34) [.t 5, .t 7, .t 9]) <|
  .op true (.p (.ld none) [.t 3]) <|
  .op true (.p (.bin .mul) [.t 10, .t 11]) <|
  .op true (.p (.ld none) [.t 4]) <|
  .op true (.p (.ld none) [.t 3]) <|
  .op true (.p (.bin .rem) [.t 0, .t 14]) <|
  .op true (.p (.ld none) [.t 3]) <|
  .op true (.p (.bin .rem) [.t 1, .t 16]) <|
  .op true (.call (.f 34) [.t 13, .t 15, .t 17]) <|
  .op true (.p (.bin .add) [.t 12, .t 18]) <|
  .ret [(.t 19, none)]
theorem product1_fz (ht : Has P ν 34 3 V_Category_then) (h : Has P ν 404 5 V_product_1) (c d : Cat) (s : Shape c) (t : Shape d) (a b : Nat) (ha : a < c.f.length * d.f.length) (hb : b < c.f.length * d.f.length) (he : pT c d a = pF c d b) :
    Fz (OkM P ν) 404 [int a, int b, .ptr [.ptr c.cells 0] 0, .ptr [int d.f.length] 0, .ptr [.ptr d.cells 0] 0] (int (pC c d a b)) := by
  refine Fn.fzi fun H nx => h _ _ _ _ rfl fun hwf => ?_
  unfold V_product_1
  obtain ⟨a1, a2⟩ := pair_arr ha
  obtain ⟨b1, b2⟩ := pair_arr hb
  have bd := pC_bd s t ha hb he
  have n1 := s.n40
  have n2 := t.n40
  have hm : d.f.length ≠ 0 := by have := (div_lt ha).2; omega
  have hN : c.f.length * d.f.length ≤ 40 * 40 := Nat.mul_le_mul n1 n2
  have w1 : IntKind.i64.wrap (c.K ((a / d.f.length : Nat) : Int) ((b / d.f.length : Nat) : Int) * d.f.length) = c.K ((a / d.f.length : Nat) : Int) ((b / d.f.length : Nat) : Int) * d.f.length := wrap_id (by omega) (by omega)
  have w2 : IntKind.i64.wrap (c.K ((a / d.f.length : Nat) : Int) ((b / d.f.length : Nat) : Int) * d.f.length + d.K ((a % d.f.length : Nat) : Int) ((b % d.f.length : Nat) : Int)) = pC c d a b := wrap_id (by omega) (by omega)
  repeat (first | simp (disch := (first | rfl | with_reducible assumption | with_reducible solve_by_elim (maxDepth := 8) [Shape.inT, Shape.inI, Shape.inC, Shape.inK, Shape.obF, Shape.obT, Shape.arI, Arr.inF] | omega)) only [S2, Nat.reduceEqDiff, Nat.reduceAdd, iput, puts, p_ld0, p_quoN hm (show a ≤ 9223372036854775807 by omega), p_quoN hm (show b ≤ 9223372036854775807 by omega), p_remN hm (show a ≤ 9223372036854775807 by omega), p_remN hm (show b ≤ 9223372036854775807 by omega), w1, w2] | (refine den_call rfl (by first | (simp only [SS, Nat.reduceEqDiff, Nat.reduceAdd, iput, puts, FF, frzL_cat]; done) | (simp only [SS, Nat.reduceEqDiff, Nat.reduceAdd, iput, puts, FF, frzL_cat]; rfl)) (by first | exact s.fzThen ht a1 b1 | exact t.fzThen ht a2 b2) ?_) | (refine den_calli rfl (by first | (simp only [SS, Nat.reduceEqDiff, Nat.reduceAdd, iput, puts, FF, frzL_cat]; done) | (simp only [SS, Nat.reduceEqDiff, Nat.reduceAdd, iput, puts, FF, frzL_cat]; rfl)) (by first | exact s.fzThen ht a1 b1 | exact t.fzThen ht a2 b2) ?_))
  exact ⟨_, rfl, H, fun _ _ h => h, rfl, rfl, Nat.le_refl _⟩
def V_product : Vc :=
  .op true (.p .box [.t 0]) <|
  .op true (.p .box [.t 1]) <|
  .op true (.new [int 0, .nil, .nil, .nil, .nil]) <|
  .op true (.p (.ld none) [.t 3]) <|
  .op true (.p .nck [.t 5]) <|
  .op true (.p (.fad 0) [.t 6]) <|
  .op true (.p (.ld none) [.t 7]) <|
  .op true (.p (.ld none) [.t 3]) <|
  .op true (.call (.f 26) [.t 9]) <|
  .op true (.new [int 0]) <|
  .op true (.st 1 (.t 11) (.t 10)) <|
  .op true (.p (.ld none) [.t 2]) <|
  .op true (.p .nck [.t 13]) <|
  .op true (.p (.fad 0) [.t 14]) <|
  .op true (.p (.ld none) [.t 15]) <|
  .op true (.p (.bin .mul) [.t 16, .t 8]) <|
  .op true (.p (.bin .gtr) [.t 17, .c (int 8)]) <|
  .br 18
   (.op true (.p (.mka [int 0, .nil, .nil, .nil, .nil] []) []) <|
   .op true (.st 5 (.t 4) (.t 19)) <|
   .ret [(.t 4, some (some 5)), (.c (bool false), none)])
   (.op true (.p (.ld none) [.t 2]) <|
   .op true (.call (.f 26) [.t 19]) <|
   .op true (.p (.ld none) [.t 11]) <|
   .op true (.p (.bin .mul) [.t 20, .t 21]) <|
   .op true (.p (.bin .gtr) [.t 22, .c (int 40)]) <|
   .br 23
    (.op true (.p (.mka [int 0, .nil, .nil, .nil, .nil] []) []) <|
    .op true (.st 5 (.t 4) (.t 24)) <|
    .ret [(.t 4, some (some 5)), (.c (bool false), none)])
    (.op true (.p (.ld none) [.t 2]) <|
    .op true (.p .nck [.t 24]) <|
    .op true (.p (.fad 0) [.t 25]) <|
    .op true (.p (.ld none) [.t 26]) <|
    .op true (.p (.bin .mul) [.t 27, .t 8]) <|
    .op true (.p (.mka [int 0, .nil, .nil, .nil, .nil] [(0, 1)]) [.t 28]) <|
    .op true (.new [int 0, .nil, .nil, .nil, .nil]) <|
    .op true (.st 5 (.t 30) (.t 29)) <|
    .op true (.p (.ld none) [.t 2]) <|
    .op true (.p .nck [.t 32]) <|
    .op true (.p (.fad 1) [.t 33]) <|
    .op true (.p (.ld none) [.t 34]) <|
    .op true (.p .len [.t 35]) <|
    .loop 0 [.c (int 0)] <|
    .op true (.p (.bin .lss) [.t 37, .t 36]) <|
    .br 38
     (.op true (.p (.ld none) [.t 3]) <|
     .op true (.p .nck [.t 39]) <|
     .op true (.p (.fad 1) [.t 40]) <|
     .op true (.p (.ld none) [.t 41]) <|
     .op true (.p .len [.t 42]) <|
     .loop 1 [.c (int 0)] <|
     .op true (.p (.bin .lss) [.t 44, .t 43]) <|
     .br 45
      (.op true (.p (.fad 1) [.t 30]) <|
      .op true (.p (.ld none) [.t 46]) <|
      .op true (.p (.ld none) [.t 2]) <|
      .op true (.p .nck [.t 48]) <|
      .op true (.p (.fad 1) [.t 49]) <|
      .op true (.p (.ld none) [.t 50]) <|
      .op true (.p (.iad 1) [.t 51, .t 37]) <|
      .op true (.p (.ld none) [.t 52]) <|
      .op true (.p (.bin .mul) [.t 53, .t 8]) <|
      .op true (.p (.ld none) [.t 3]) <|
      .op true (.p .nck [.t 55]) <|
      .op true (.p (.fad 1) [.t 56]) <|
      .op true (.p (.ld none) [.t 57]) <|
      .op true (.p (.iad 1) [.t 58, .t 44]) <|
      .op true (.p (.ld none) [.t 59]) <|
      .op true (.p (.bin .add) [.t 54, .t 60]) <|
      .op true (.p (.msl 1 [int 0] [(0, 1)]) [.t 61]) <|
      .op true (.app 1 (.t 47) (.t 62)) <|
      .op true (.p (.fad 1) [.t 30]) <|
      .op true (.st 1 (.t 64) (.t 63)) <|
      .op true (.p (.fad 2) [.t 30]) <|
      .op true (.p (.ld none) [.t 66]) <|
      .op true (.p (.ld none) [.t 2]) <|
      .op true (.p .nck [.t 68]) <|
      .op true (.p (.fad 2) [.t 69]) <|
      .op true (.p (.ld none) [.t 70]) <|
      .op true (.p (.iad 1) [.t 71, .t 37]) <|
      .op true (.p (.ld none) [.t 72]) <|
      .op true (.p (.bin .mul) [.t 73, .t 8]) <|
      .op true (.p (.ld none) [.t 3]) <|
      .op true (.p .nck [.t 75]) <|
      .op true (.p (.fad 2) [.t 76]) <|
      .op true (.p (.ld none) [.t 77]) <|
      .op true (.p (.iad 1) [.t 78, .t 44]) <|
      .op true (.p (.ld none) [.t 79]) <|
      .op true (.p (.bin .add) [.t 74, .t 80]) <|
      .op true (.p (.msl 1 [int 0] [(0, 1)]) [.t 81]) <|
      .op true (.app 1 (.t 67) (.t 82)) <|
      .op true (.p (.fad 2) [.t 30]) <|
      .op true (.st 1 (.t 84) (.t 83)) <|
      .op true (.p (.bin .add) [.t 44, .c (int 1)]) <|
      .again 1 [.t 86])
      (.op true (.p (.bin .add) [.t 37, .c (int 1)]) <|
      .again 0 [.t 46]))
     (.op true (.p (.ld none) [.t 2]) <|
     .op true (.p .nck [.t 39]) <|
     .op true (.p (.fad 3) [.t 40]) <|
     .op true (.p (.ld none) [.t 41]) <|
     .op true (.p .len [.t 42]) <|
     .loop 0 [.c (int 0)] <|
     .op true (.p (.bin .lss) [.t 44, .t 43]) <|
     .br 45
      (.op true (.p (.iad 1) [.t 42, .t 44]) <|
      .op true (.p (.ld none) [.t 46]) <|
      .op true (.p (.ld none) [.t 3]) <|
      .op true (.p .nck [.t 48]) <|
      .op true (.p (.fad 3) [.t 49]) <|
      .op true (.p (.ld none) [.t 50]) <|
      .op true (.p .len [.t 51]) <|
      .loop 1 [.c (int 0)] <|
      .op true (.p (.bin .lss) [.t 53, .t 52]) <|
      .br 54
       (.op true (.p (.iad 1) [.t 51, .t 53]) <|
       .op true (.p (.ld none) [.t 55]) <|
       .op true (.p (.fad 3) [.t 30]) <|
       .op true (.p (.ld none) [.t 57]) <|
       .op true (.p (.ld none) [.t 11]) <|
       .op true (.p (.bin .mul) [.t 47, .t 59]) <|
       .op true (.p (.bin .add) [.t 60, .t 56]) <|
       .op true (.p (.msl 1 [int 0] [(0, 1)]) [.t 61]) <|
       .op true (.app 1 (.t 58) (.t 62)) <|
       .op true (.p (.fad 3) [.t 30]) <|
       .op true (.st 1 (.t 64) (.t 63)) <|
       .op true (.p (.bin .add) [.t 53, .c (int 1)]) <|
       .again 1 [.t 66])
       (.op true (.p (.bin .add) [.t 44, .c (int 1)]) <|
       .again 0 [.t 55]))
      (.op true (.p (.mkf 404) [.t 2, .t 11, .t 3]) <|
      .op true (.callm (.f 353) [.t 30, .t 46]) <|
      .op true (.p (.ld (some 5)) [.t 30]) <|
      .op true (.st 5 (.t 4) (.t 48)) <|
      .ret [(.t 4, some (some 5)), (.c (bool true), none)]))))
theorem ints_snoc {n k : Nat} {p : Nat → Int} (h : n = k) : gl n p ++ [p k] = gl (k + 1) p := by subst h; exact gl_succ.symm
set_option maxHeartbeats 8000000 in
theorem product_ok (har : Has P ν 26 1 V_Category_arrows) (hth : Has P ν 34 3 V_Category_then) (hta : Has P ν 353 2 V_Category_table) (h1 : Has P ν 404 5 V_product_1) (h : Has P ν 316 2 V_product) (c d : Cat) (s : Shape c) (t : Shape d) (nx : Nat) :
    OkM P ν 316 [.ptr c.cells 0, .ptr d.cells 0] hempty nx (IsKV (prK c d) (bool (decide (FitK c d))) nx) := by
  refine h _ _ _ _ rfl fun hwf => ?_
  unfold V_product
  have n40 := s.n40
  have tl := s.tl
  have il := s.il
  have o8 := s.o8
  have o0 := s.o0
  have n40' := t.n40
  have tl' := t.tl
  have il' := t.il
  have o8' := t.o8
  have o0' := t.o0
  have b1 : ∀ H : Hp, pvf H .box [.ptr c.cells 0] = some (.ptr [.ptr c.cells 0] 0) := fun _ => rfl
  have b2 : ∀ H : Hp, pvf H .box [.ptr d.cells 0] = some (.ptr [.ptr d.cells 0] 0) := fun _ => rfl
  have oo := mul_bd (a := 8) (b := 8) o0 o8 o0' o8'
  have nn : c.f.length * d.f.length ≤ 40 * 40 := Nat.mul_le_mul n40 n40'
  have wO : IntKind.i64.wrap (c.o * d.o) = c.o * d.o := wrap_id (by omega) (by omega)
  have wN : IntKind.i64.wrap ((c.f.length : Int) * (d.f.length : Int)) = ((c.f.length * d.f.length : Nat) : Int) := by
    rw [← Int.natCast_mul]; exact wrap_id (by omega) (by omega)
  try simp (disch := (first | rfl | with_reducible assumption | with_reducible solve_by_elim (maxDepth := 8) [Shape.inT, Shape.inI, Shape.inC, Shape.inK, Shape.obF, Shape.obT, Shape.arI, Arr.inF] | omega)) only [S2, Nat.reduceEqDiff, Nat.reduceAdd, iput, puts, b1, b2, p_ld0]
  refine den_newR fun H0 y0 e0 => ?_
  repeat (first | simp (disch := (first | rfl | with_reducible assumption | with_reducible solve_by_elim (maxDepth := 8) [Shape.inT, Shape.inI, Shape.inC, Shape.inK, Shape.obF, Shape.obT, Shape.arI, Arr.inF] | omega)) only [S2, Nat.reduceEqDiff, Nat.reduceAdd, iput, puts, p_ld0] | (refine den_call rfl (by first | (simp only [SS, Nat.reduceEqDiff, Nat.reduceAdd, iput, puts, FF, frzL_cat]; done) | (simp only [SS, Nat.reduceEqDiff, Nat.reduceAdd, iput, puts, FF, frzL_cat]; rfl)) (by first | exact (arrows_ok har d).fzi) ?_) | (refine den_calli rfl (by first | (simp only [SS, Nat.reduceEqDiff, Nat.reduceAdd, iput, puts, FF, frzL_cat]; done) | (simp only [SS, Nat.reduceEqDiff, Nat.reduceAdd, iput, puts, FF, frzL_cat]; rfl)) (by first | exact (arrows_ok har d).fzi) ?_))
  refine den_newG fun H1 m1 e1 => ?_
  refine den_st1G (o := nx + 1) (p := 0) (m := 1) (u := int (d.f.length : Int)) rfl rfl m1 rfl (by omega) rfl fun H2 m2 e2 => ?_
  have m2 : H2 (nx + 1) = some [int (d.f.length : Int)] := m2
  have y2 := ((e2 nx (by omega)).trans (e1 nx (by omega))).trans y0
  have bad : ∀ (H : Hp) (n1 : Nat), ¬ FitK c d → nx ≤ n1 → ∃ H', Sub H' H ∧ IsKV (prK c d) (bool (decide (FitK c d))) nx (.tup [.agg [int 0, .nil, .nil, .nil, .nil], bool false]) H' n1 := fun H n1 hk hn => by
    rw [prK, if_neg hk, decide_eq_false hk]
    exact (zeroK_own (H := H) (lo := nx) (hi := n1)).back (Nat.le_refl _) hn
  try simp (disch := (first | rfl | with_reducible assumption | with_reducible solve_by_elim (maxDepth := 8) [Shape.inT, Shape.inI, Shape.inC, Shape.inK, Shape.obF, Shape.obT, Shape.arI, Arr.inF] | omega)) only [S2, Nat.reduceEqDiff, Nat.reduceAdd, iput, puts, p_ld0, wO]
  refine ⟨fun g1 => ?_, fun g1 => ?_⟩
  · try simp (disch := (first | rfl | with_reducible assumption | with_reducible solve_by_elim (maxDepth := 8) [Shape.inT, Shape.inI, Shape.inC, Shape.inK, Shape.obF, Shape.obT, Shape.arI, Arr.inF] | omega)) only [S2, Nat.reduceEqDiff, Nat.reduceAdd, iput, puts, mkZ]
    refine den_stR (o := nx) (m := 5) (d := [int 0, .nil, .nil, .nil, .nil]) rfl rfl y2 rfl rfl rfl fun H3 y3 e3 => ?_
    obtain ⟨H', q1, q2⟩ := bad H3 (nx + 1 + 1) (fun f => by have := f.1; omega) (by omega)
    refine ⟨.tup [.agg [int 0, .nil, .nil, .nil, .nil], bool false], ?_, H', q1, q2⟩
    simp only [retOf, rets, SS, Nat.reduceEqDiff, Nat.reduceAdd, iput, puts, pLd, y3]
    rfl
  repeat (first | simp (disch := (first | rfl | with_reducible assumption | with_reducible solve_by_elim (maxDepth := 8) [Shape.inT, Shape.inI, Shape.inC, Shape.inK, Shape.obF, Shape.obT, Shape.arI, Arr.inF] | omega)) only [S2, Nat.reduceEqDiff, Nat.reduceAdd, iput, puts, p_ld0] | (refine den_call rfl (by first | (simp only [SS, Nat.reduceEqDiff, Nat.reduceAdd, iput, puts, FF, frzL_cat]; done) | (simp only [SS, Nat.reduceEqDiff, Nat.reduceAdd, iput, puts, FF, frzL_cat]; rfl)) (by first | exact (arrows_ok har c).fzi) ?_) | (refine den_calli rfl (by first | (simp only [SS, Nat.reduceEqDiff, Nat.reduceAdd, iput, puts, FF, frzL_cat]; done) | (simp only [SS, Nat.reduceEqDiff, Nat.reduceAdd, iput, puts, FF, frzL_cat]; rfl)) (by first | exact (arrows_ok har c).fzi) ?_))
  try simp (disch := (first | rfl | with_reducible assumption | with_reducible solve_by_elim (maxDepth := 8) [Shape.inT, Shape.inI, Shape.inC, Shape.inK, Shape.obF, Shape.obT, Shape.arI, Arr.inF] | omega)) only [S2, Nat.reduceEqDiff, Nat.reduceAdd, iput, puts, p_ldm (n := 1) m2 rfl, wN]
  refine ⟨fun g2 => ?_, fun g2 => ?_⟩
  · try simp (disch := (first | rfl | with_reducible assumption | with_reducible solve_by_elim (maxDepth := 8) [Shape.inT, Shape.inI, Shape.inC, Shape.inK, Shape.obF, Shape.obT, Shape.arI, Arr.inF] | omega)) only [S2, Nat.reduceEqDiff, Nat.reduceAdd, iput, puts, mkZ]
    refine den_stR (o := nx) (m := 5) (d := [int 0, .nil, .nil, .nil, .nil]) rfl rfl y2 rfl rfl rfl fun H3 y3 e3 => ?_
    obtain ⟨H', q1, q2⟩ := bad H3 (nx + 1 + 1) (fun f => by have := f.2; omega) (by omega)
    refine ⟨.tup [.agg [int 0, .nil, .nil, .nil, .nil], bool false], ?_, H', q1, q2⟩
    simp only [retOf, rets, SS, Nat.reduceEqDiff, Nat.reduceAdd, iput, puts, pLd, y3]
    rfl
  have fit : FitK c d := ⟨by omega, by omega⟩
  have mk : ∀ (H : Hp) (k : Int), pvf H (.mka [int 0, .nil, .nil, .nil, .nil] [(0, 1)]) [int k] = some (.agg [int k, .nil, .nil, .nil, .nil]) := fun _ k => rfl
  try simp (disch := (first | rfl | with_reducible assumption | with_reducible solve_by_elim (maxDepth := 8) [Shape.inT, Shape.inI, Shape.inC, Shape.inK, Shape.obF, Shape.obT, Shape.arI, Arr.inF] | omega)) only [S2, Nat.reduceEqDiff, Nat.reduceAdd, iput, puts, p_ld0, wO, mk]
  refine den_newR fun H3 x3 e3 => ?_
  refine den_stR (o := nx + 1 + 1) (m := 5) (d := [int (c.o * d.o), .nil, .nil, .nil, .nil]) rfl rfl x3 rfl rfl rfl fun H4 x4 e4 => ?_
  have y4 := ((e4 nx (by omega)).trans (e3 nx (by omega))).trans y2
  have m4 := ((e4 (nx + 1) (by omega)).trans (e3 (nx + 1) (by omega))).trans m2
  have out := Out3.start x4 (Nat.le_refl _)
  generalize hq : nx + 1 + 1 = q at x4 out e3 e4
  try simp (disch := (first | rfl | with_reducible assumption | with_reducible solve_by_elim (maxDepth := 8) [Shape.inT, Shape.inI, Shape.inC, Shape.inK, Shape.obF, Shape.obT, Shape.arI, Arr.inF] | omega)) only [S2, Nat.reduceEqDiff, Nat.reduceAdd, iput, puts, p_ld0]
  -- arrows
  refine den_loop (α := Nat × (AV × AV) × (Option Nat × Option Nat)) (fun a => [int a.1]) (fun a H' nx' => a.1 ≤ c.f.length ∧ Out3 q (c.o * d.o) (gl (a.1 * d.f.length) (pF c d)) (gl (a.1 * d.f.length) (pT c d)) [] [] a.2.1.1 a.2.1.2 .nil .nil a.2.2.1 a.2.2.2 none H' q nx' ∧ H' nx = some [int 0, .nil, .nil, .nil, .nil] ∧ H' (nx + 1) = some [int (d.f.length : Int)]) (fun a => c.f.length - a.1) (0, (.nil, .nil), none, none) rfl ⟨Nat.zero_le _, by simpa [gl] using out, y4, m4⟩ ?_
  rintro ⟨a, ⟨va, vb⟩, s1, s2⟩ H1 n1 ⟨ha, out, y1, m1⟩
  simp only at ha out
  by_cases hla : a < c.f.length
  · try simp (disch := (first | rfl | with_reducible assumption | with_reducible solve_by_elim (maxDepth := 8) [Shape.inT, Shape.inI, Shape.inC, Shape.inK, Shape.obF, Shape.obT, Shape.arI, Arr.inF] | omega)) only [S2, Nat.reduceEqDiff, Nat.reduceAdd, iput, puts, hla, p_ld0]
    refine den_loop (α := Nat × (AV × AV) × (Option Nat × Option Nat)) (fun b => [int b.1]) (fun b H' nx' => b.1 ≤ d.f.length ∧ Out3 q (c.o * d.o) (gl (a * d.f.length + b.1) (pF c d)) (gl (a * d.f.length + b.1) (pT c d)) [] [] b.2.1.1 b.2.1.2 .nil .nil b.2.2.1 b.2.2.2 none H' q nx' ∧ H' nx = some [int 0, .nil, .nil, .nil, .nil] ∧ H' (nx + 1) = some [int (d.f.length : Int)]) (fun b => d.f.length - b.1) (0, (va, vb), s1, s2) rfl ⟨Nat.zero_le _, by simpa using out, y1, m1⟩ ?_
    clear out y1 m1 H1
    rintro ⟨b, ⟨va, vb⟩, s1, s2⟩ H1 n1 ⟨hb, out, y1, m1⟩
    simp only at hb out
    by_cases hlb : b < d.f.length
    · have i1 : In c.f (a : Int) := In.nat hla
      have i2 : In d.f (b : Int) := In.nat hlb
      have i3 : In c.t (a : Int) := In.nat (by omega)
      have i4 : In d.t (b : Int) := In.nat (by omega)
      have g1 : gI c.f (a : Int) = c.F a := rfl
      have g2 : gI d.f (b : Int) = d.F b := rfl
      have g3 : gI c.t (a : Int) = c.T a := rfl
      have g4 : gI d.t (b : Int) = d.T b := rfl
      have lt := ixlt hla hlb
      have eF : c.F a * d.o + d.F b = pF c d (a * d.f.length + b) := by unfold pF; rw [ixd hlb, ixm hlb]
      have eT : c.T a * d.o + d.T b = pT c d (a * d.f.length + b) := by unfold pT; rw [ixd hlb, ixm hlb]
      have aa : Arr c (a : Int) := ⟨by omega, by omega⟩
      have ab : Arr d (b : Int) := ⟨by omega, by omega⟩
      have r1 := s.obF aa
      have r2 := t.obF ab
      have r3 := s.obT aa
      have r4 := t.obT ab
      have q1 := mul_bd (a := 8) (b := 8) r1.1 (by have := r1.2; omega) o0' o8'
      have q2 := mul_bd (a := 8) (b := 8) r3.1 (by have := r3.2; omega) o0' o8'
      have w1 : IntKind.i64.wrap (c.F a * d.o) = c.F a * d.o := wrap_id (by omega) (by omega)
      have w2 : IntKind.i64.wrap (c.T a * d.o) = c.T a * d.o := wrap_id (by omega) (by omega)
      have w3 : IntKind.i64.wrap (c.F a * d.o + d.F b) = pF c d (a * d.f.length + b) := by rw [wrap_id (by have := r2.1; omega) (by have := r2.2; omega), eF]
      have w4 : IntKind.i64.wrap (c.T a * d.o + d.T b) = pT c d (a * d.f.length + b) := by rw [wrap_id (by have := r4.1; omega) (by have := r4.2; omega), eT]
      generalize hN : a * d.f.length + b = N at lt w3 w4 out
      have qh := out.qh
      try simp (disch := (first | rfl | with_reducible assumption | with_reducible solve_by_elim (maxDepth := 8) [Shape.inT, Shape.inI, Shape.inC, Shape.inK, Shape.obF, Shape.obT, Shape.arI, Arr.inF] | omega)) only [S2, Nat.reduceEqDiff, Nat.reduceAdd, iput, puts, hlb, p_ld0, g1, g2, w1, w3, p_fadm (l := 5) out.obj rfl, p_ldm (n := 5) out.obj rfl]
      refine den_out1 (m := [pF c d N]) out (Nat.le_refl _) rfl rfl rfl (by omega) rfl rfl (by simp) (by rw [gl_len]; simp only [List.length_cons, List.length_nil]; omega) fun a6 H6 n6 out6 hn6 keep6 => ?_
      have low6 : ∀ t, t < q → H6 t = H1 t := fun t ht => keep6 t (by omega) (by omega) fun ee => by have := out.r1 t ee; omega
      rw [← gl_succ] at out6
      have y6 := (low6 nx (by omega)).trans y1
      have m6 := (low6 (nx + 1) (by omega)).trans m1
      try simp (disch := (first | rfl | with_reducible assumption | with_reducible solve_by_elim (maxDepth := 8) [Shape.inT, Shape.inI, Shape.inC, Shape.inK, Shape.obF, Shape.obT, Shape.arI, Arr.inF] | omega)) only [S2, Nat.reduceEqDiff, Nat.reduceAdd, iput, puts, p_ld0, g3, g4, w2, w4, p_fadm (l := 5) out6.obj rfl, p_ldm (n := 5) out6.obj rfl]
      refine den_out2 (m := [pT c d N]) out6 (Nat.le_refl _) rfl rfl rfl (by omega) rfl rfl (by simp) (by rw [gl_len]; simp only [List.length_cons, List.length_nil]; omega) fun b7 H7 n7 out7 hn7 keep7 => ?_
      have low7 : ∀ t, t < q → H7 t = H6 t := fun t ht => keep7 t (by omega) (by omega) fun ee => by have := out6.r2 t ee; omega
      rw [← gl_succ] at out7
      try simp (disch := (first | rfl | with_reducible assumption | with_reducible solve_by_elim (maxDepth := 8) [Shape.inT, Shape.inI, Shape.inC, Shape.inK, Shape.obF, Shape.obT, Shape.arI, Arr.inF] | omega)) only [S2, Nat.reduceEqDiff, Nat.reduceAdd, iput, puts]
      refine ⟨(b + 1, (a6, b7), some (s1.getD n1), some (s2.getD n6)), rfl, ⟨hlb, ?_, ?_, ?_⟩, by simp only; omega⟩
      · simp only
        rw [← Nat.add_assoc, hN]
        exact out7
      · rw [low7 _ (by omega)]; exact y6
      · rw [low7 _ (by omega)]; exact m6
    · have hbe : b = d.f.length := by omega
      subst hbe
      rw [ixs] at out
      try simp (disch := (first | rfl | with_reducible assumption | with_reducible solve_by_elim (maxDepth := 8) [Shape.inT, Shape.inI, Shape.inC, Shape.inK, Shape.obF, Shape.obT, Shape.arI, Arr.inF] | omega)) only [S2, Nat.reduceEqDiff, Nat.reduceAdd, iput, puts, hlb]
      exact ⟨(a + 1, (va, vb), s1, s2), rfl, ⟨hla, out, y1, m1⟩, by simp only; omega⟩
  · have hae : a = c.f.length := by omega
    subst hae
    try simp (disch := (first | rfl | with_reducible assumption | with_reducible solve_by_elim (maxDepth := 8) [Shape.inT, Shape.inI, Shape.inC, Shape.inK, Shape.obF, Shape.obT, Shape.arI, Arr.inF] | omega)) only [S2, Nat.reduceEqDiff, Nat.reduceAdd, iput, puts, hla, p_ld0]
    -- identities
    refine den_loop (α := Nat × AV × Option Nat) (fun a => [int a.1]) (fun a H' nx' => a.1 ≤ c.i.length ∧ Out3 q (c.o * d.o) (gl (c.f.length * d.f.length) (pF c d)) (gl (c.f.length * d.f.length) (pT c d)) (gl (a.1 * d.i.length) (pI c d)) [] va vb a.2.1 .nil s1 s2 a.2.2 H' q nx' ∧ H' nx = some [int 0, .nil, .nil, .nil, .nil] ∧ H' (nx + 1) = some [int (d.f.length : Int)]) (fun a => c.i.length - a.1) (0, .nil, none) rfl ⟨Nat.zero_le _, by simpa [gl] using out, y1, m1⟩ ?_
    clear out y1 m1 H1
    rintro ⟨x, ve, s3⟩ H1 n1 ⟨hx, out, y1, m1⟩
    simp only at hx out
    by_cases hlx : x < c.i.length
    · have ox := s.obI hlx
      have i1 : In c.i (x : Int) := s.inI ox
      have g1 : gI c.i (x : Int) = c.I x := rfl
      try simp (disch := (first | rfl | with_reducible assumption | with_reducible solve_by_elim (maxDepth := 8) [Shape.inT, Shape.inI, Shape.inC, Shape.inK, Shape.obF, Shape.obT, Shape.arI, Arr.inF] | omega)) only [S2, Nat.reduceEqDiff, Nat.reduceAdd, iput, puts, hlx, p_ld0, g1]
      refine den_loop (α := Nat × AV × Option Nat) (fun b => [int b.1]) (fun b H' nx' => b.1 ≤ d.i.length ∧ Out3 q (c.o * d.o) (gl (c.f.length * d.f.length) (pF c d)) (gl (c.f.length * d.f.length) (pT c d)) (gl (x * d.i.length + b.1) (pI c d)) [] va vb b.2.1 .nil s1 s2 b.2.2 H' q nx' ∧ H' nx = some [int 0, .nil, .nil, .nil, .nil] ∧ H' (nx + 1) = some [int (d.f.length : Int)]) (fun b => d.i.length - b.1) (0, ve, s3) rfl ⟨Nat.zero_le _, by simpa using out, y1, m1⟩ ?_
      clear out y1 m1 H1
      rintro ⟨b, ve, s3⟩ H1 n1 ⟨hb, out, y1, m1⟩
      simp only at hb out
      by_cases hlb : b < d.i.length
      · have ob := t.obI hlb
        have i2 : In d.i (b : Int) := t.inI ob
        have g2 : gI d.i (b : Int) = d.I b := rfl
        have lt := ixlt hlx hlb
        have ii : c.i.length * d.i.length ≤ 8 * 8 := Nat.mul_le_mul (by omega) (by omega)
        have eI : c.I x * d.f.length + d.I b = pI c d (x * d.i.length + b) := by unfold pI; rw [ixd hlb, ixm hlb]
        have r1 := s.arI ox
        have r2 := t.arI ob
        have q1 := mul_bd (a := 40) (b := 40) (y := d.f.length) r1.1 (by have := r1.2; omega) (by omega) (by omega)
        have w1 : IntKind.i64.wrap (c.I x * d.f.length) = c.I x * d.f.length := wrap_id (by omega) (by omega)
        have w3 : IntKind.i64.wrap (c.I x * d.f.length + d.I b) = pI c d (x * d.i.length + b) := by rw [wrap_id (by have := r2.1; omega) (by have := r2.2; omega), eI]
        generalize hN : x * d.i.length + b = N at lt w3 out
        have qh := out.qh
        try simp (disch := (first | rfl | with_reducible assumption | with_reducible solve_by_elim (maxDepth := 8) [Shape.inT, Shape.inI, Shape.inC, Shape.inK, Shape.obF, Shape.obT, Shape.arI, Arr.inF] | omega)) only [S2, Nat.reduceEqDiff, Nat.reduceAdd, iput, puts, hlb, p_ld0, g1, g2, w1, w3, p_ldm (n := 1) m1 rfl, p_fadm (l := 5) out.obj rfl, p_ldm (n := 5) out.obj rfl]
        refine den_out3 (m := [pI c d N]) out (Nat.le_refl _) rfl rfl rfl (by omega) rfl rfl (by simp) (by rw [gl_len]; simp only [List.length_cons, List.length_nil]; omega) fun a6 H6 n6 out6 hn6 keep6 => ?_
        have low6 : ∀ t, t < q → H6 t = H1 t := fun t ht => keep6 t (by omega) (by omega) fun ee => by have := out.r3 t ee; omega
        rw [← gl_succ] at out6
        try simp (disch := (first | rfl | with_reducible assumption | with_reducible solve_by_elim (maxDepth := 8) [Shape.inT, Shape.inI, Shape.inC, Shape.inK, Shape.obF, Shape.obT, Shape.arI, Arr.inF] | omega)) only [S2, Nat.reduceEqDiff, Nat.reduceAdd, iput, puts]
        refine ⟨(b + 1, a6, some (s3.getD n1)), rfl, ⟨hlb, ?_, ?_, ?_⟩, by simp only; omega⟩
        · simp only
          rw [← Nat.add_assoc, hN]
          exact out6
        · rw [low6 _ (by omega)]; exact y1
        · rw [low6 _ (by omega)]; exact m1
      · have hbe : b = d.i.length := by omega
        subst hbe
        rw [ixs] at out
        try simp (disch := (first | rfl | with_reducible assumption | with_reducible solve_by_elim (maxDepth := 8) [Shape.inT, Shape.inI, Shape.inC, Shape.inK, Shape.obF, Shape.obT, Shape.arI, Arr.inF] | omega)) only [S2, Nat.reduceEqDiff, Nat.reduceAdd, iput, puts, hlb]
        exact ⟨(x + 1, ve, s3), rfl, ⟨hlx, out, y1, m1⟩, by simp only; omega⟩
    · have hxe : x = c.i.length := by omega
      subst hxe
      have qh := out.qh
      have mf : ∀ H : Hp, pvf H (.mkf 404) [.ptr [.ptr c.cells 0] 0, .mp (nx + 1) 0 1, .ptr [.ptr d.cells 0] 0] = some (.fn 404 [.ptr [.ptr c.cells 0] 0, .mp (nx + 1) 0 1, .ptr [.ptr d.cells 0] 0]) := fun _ => rfl
      try simp (disch := (first | rfl | with_reducible assumption | with_reducible solve_by_elim (maxDepth := 8) [Shape.inT, Shape.inI, Shape.inC, Shape.inK, Shape.obF, Shape.obT, Shape.arI, Arr.inF] | omega)) only [S2, Nat.reduceEqDiff, Nat.reduceAdd, iput, puts, hlx, p_ld0, mf]
      refine den_callm (fc := (353, [])) rfl (table_ok har hta (pC c d) (c.o * d.o) va vb ve (gl (c.f.length * d.f.length) (pF c d)) (gl (c.f.length * d.f.length) (pT c d)) (gl (c.i.length * d.i.length) (pI c d)) 404 [.ptr [.ptr c.cells 0] 0, .mp (nx + 1) 0 1, .ptr [.ptr d.cells 0] 0] q H1 n1 out.obj qh (out.g1.rd fun o ho => (out.r1 o ho).2) (out.g2.rd fun o ho => (out.r2 o ho).2) (out.g3.rd fun o ho => (out.r3 o ho).2) (by rw [gl_len, gl_len]) (by rw [gl_len]; omega) fun a b H' ha hb he mid => ⟨[.ptr [.ptr c.cells 0] 0, .ptr [int (d.f.length : Int)] 0, .ptr [.ptr d.cells 0] 0], ?_, ?_⟩) (IsTbl.some' qh) fun u H3 n3 hu => ?_
      · have m3 := (mid.1 (nx + 1) (by omega) (by omega)).trans m1
        simp only [Av.frzL, List.mapM_cons, List.mapM_nil, fuel, Av.frz, m3]
        rfl
      · rw [gl_len] at ha hb
        rw [gl_at ha, gl_at hb] at he
        exact product1_fz hth h1 c d s t a b ha hb he
      · obtain ⟨rfl, rfl, hT⟩ := hu
        rw [prod_tbl s t] at hT
        have out3 := out.table hT
        have y3 := (hT.low nx (by omega) (by omega)).trans y1
        try simp (disch := (first | rfl | with_reducible assumption | with_reducible solve_by_elim (maxDepth := 8) [Shape.inT, Shape.inI, Shape.inC, Shape.inK, Shape.obF, Shape.obT, Shape.arI, Arr.inF] | omega)) only [S2, Nat.reduceEqDiff, Nat.reduceAdd, iput, puts, p_ldsm (l := 5) out3.obj rfl]
        refine den_stR (o := nx) (m := 5) (d := [int (c.o * d.o), va, vb, ve, .ms n1 0 (prodK c d).c.length 1]) rfl rfl y3 rfl rfl out3.ones fun H4 y4 e4 => ?_
        have out4 := out3.mono (H' := H4) (Nat.le_refl _) fun t h1 _ => e4 t (by omega)
        obtain ⟨H5, q4, q5⟩ := out4.own.back (w := bool true) (nx := nx) (by omega) (by omega)
        refine ⟨.tup [.agg [int (c.o * d.o), va, vb, ve, .ms n1 0 (prodK c d).c.length 1], bool true], ?_, H5, q4, ?_⟩
        · simp only [retOf, rets, SS, Nat.reduceEqDiff, Nat.reduceAdd, iput, puts, pLd, y4]
          rfl
        · rw [prK, if_pos fit, decide_eq_true fit, prod_tbl s t]; exact q5
end Go.Av
