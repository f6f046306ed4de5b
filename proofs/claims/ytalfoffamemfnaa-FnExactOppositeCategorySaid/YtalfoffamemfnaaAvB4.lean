/-
  Squares and their diagonals: the program's and the reference's.
-/
import Derived.Test.YtalfoffamemfnaaAvB2
import Derived.Test.YtalfoffamemfnaaAvB3
namespace Go.Av
open Classical
set_option linter.unusedSimpArgs false
set_option linter.unusedVariables false
variable {P : Program} {ν : Nat → FuncId}

def V_spec_l02Arrows : Vc :=
  .op true (.p .box [.t 0]) <|
  .op true (.p (.ld (some 5)) [.t 2]) <|
  .op true (.call (.f 22) [.t 3]) <|
  .op true (.p .bnot [.t 4]) <|
  .br 5
   (.ret [(.c (int 1), none)])
   (.op true (.p (.fad 1) [.t 2]) <|
   .op true (.p (.ld none) [.t 6]) <|
   .op true (.p .len [.t 7]) <|
   .op true (.call (.f 37) [.t 8, .t 1]) <|
   .op true (.p .bnot [.t 9]) <|
   .br 10
    (.ret [(.c (int 2), none)])
    (.ret [(.c (int 0), none)]))
theorem l02Arrows_fz (K : HSpec P ν) (h : Has P ν 245 2 V_spec_l02Arrows) (c : Cat) (b : Small c) (l : List Int) (hl : l.length ≤ 1048576) {R : Prop} [Decidable R] (hR : Wn l c.f.length ↔ R) : Fz (OkM P ν) 245 [.agg c.cells, islice l] (int (code (IsCat c) R)) := by
  rw [← code_congr (a := IsCat c) hR]
  refine Fn.fzi fun H nx => h _ _ _ _ rfl fun hwf => ?_
  unfold V_spec_l02Arrows
  simp only [SS, Nat.reduceEqDiff, Nat.reduceAdd, iput, puts, p_boxc, p_ldc]
  refine den_call (fc := (22, [])) rfl (by first | (simp only [SS, Nat.reduceEqDiff, Nat.reduceAdd, iput, puts, FF, frzL_cat]; done) | (simp only [SS, Nat.reduceEqDiff, Nat.reduceAdd, iput, puts, FF, frzL_cat]; rfl)) ((l02Is_ok K c b).fzb) ?_
  simp only [SS, Nat.reduceEqDiff, Nat.reduceAdd, iput, puts, cat1]
  refine ⟨fun h1 => ?_, fun h1 => ?_⟩
  · exact ⟨_, rfl, H, fun _ _ h => h, by rw [code, if_neg h1]; rfl, rfl, Nat.le_refl _⟩
  refine den_call (fc := (37, [])) rfl (by first | (simp only [SS, Nat.reduceEqDiff, Nat.reduceAdd, iput, puts, FF, frzL_cat]; done) | (simp only [SS, Nat.reduceEqDiff, Nat.reduceAdd, iput, puts, FF, frzL_cat]; rfl)) ((l01Map_ok K.l01Map l c.f.length (by omega)).fzb) ?_
  simp only [SS, Nat.reduceEqDiff, Nat.reduceAdd, iput, puts]
  refine ⟨fun h2 => ?_, fun h2 => ?_⟩
  · exact ⟨_, rfl, H, fun _ _ h => h, by rw [code, if_pos h1, if_neg h2]; rfl, rfl, Nat.le_refl _⟩
  · exact ⟨_, rfl, H, fun _ _ h => h, by rw [code, if_pos h1, if_pos h2]; rfl, rfl, Nat.le_refl _⟩

def V_spec_l02Then : Vc :=
  .op true (.p .box [.t 0]) <|
  .op true (.p (.fad 4) [.t 3]) <|
  .op true (.p (.ld none) [.t 4]) <|
  .op true (.p (.iad 1) [.t 5, .t 1]) <|
  .op true (.p (.ld none) [.t 6]) <|
  .op true (.p (.iad 1) [.t 7, .t 2]) <|
  .op true (.p (.ld none) [.t 8]) <|
  .ret [(.t 9, none)]
theorem Shape.l02Then_fz (ht : Has P ν 253 3 V_spec_l02Then) {c : Cat} (s : Shape c) (a b : Int) (h1 : 0 ≤ a) (h2 : a < c.f.length) (h3 : 0 ≤ b) (h4 : b < c.f.length) : Fz (OkM P ν) 253 [.agg c.cells, int a, int b] (int (c.K a b)) := by
  refine Fn.fzi fun H nx => ht _ _ _ _ rfl fun hwf => ?_
  unfold V_spec_l02Then
  have r1 := s.rowLen h1 h2
  have cl := s.cl
  have a2 : a.toNat < c.f.length := by omega
  have b2 : b.toNat < c.f.length := by omega
  simp only [SS, Nat.reduceEqDiff, Nat.reduceAdd, iput, puts, p_boxc, cat4, cl, h1, h2, h3, h4, a2, b2, r1]
  exact ⟨_, rfl, H, fun _ _ h => h, rfl, rfl, Nat.le_refl _⟩

def V_spec_l02Hom : Vc :=
  .op true (.p .box [.t 0]) <|
  .op true (.p (.msl 0 [] []) []) <|
  .loop 0 [.t 4, .c (int 0)] <|
  .op true (.p (.fad 1) [.t 3]) <|
  .op true (.p (.ld none) [.t 7]) <|
  .op true (.p .len [.t 8]) <|
  .op true (.p (.bin .lss) [.t 6, .t 9]) <|
  .br 10
   (.op true (.p (.fad 1) [.t 3]) <|
   .op true (.p (.ld none) [.t 11]) <|
   .op true (.p (.iad 1) [.t 12, .t 6]) <|
   .op true (.p (.ld none) [.t 13]) <|
   .op true (.p (.bin .eql) [.t 14, .t 1]) <|
   .br 15
    (.op true (.p (.fad 2) [.t 3]) <|
    .op true (.p (.ld none) [.t 16]) <|
    .op true (.p (.iad 1) [.t 17, .t 6]) <|
    .op true (.p (.ld none) [.t 18]) <|
    .op true (.p (.bin .eql) [.t 19, .t 2]) <|
    .br 20
     (.op true (.p (.msl 1 [int 0] [(0, 1)]) [.t 6]) <|
     .op true (.app 1 (.t 5) (.t 21)) <|
     .op true (.p (.bin .add) [.t 6, .c (int 1)]) <|
     .again 0 [.t 22, .t 23])
     (.op true (.p (.bin .add) [.t 6, .c (int 1)]) <|
     .again 0 [.t 5, .t 21]))
    (.op true (.p (.bin .add) [.t 6, .c (int 1)]) <|
    .again 0 [.t 5, .t 16]))
   (.ret [(.t 5, none)])
theorem l02Hom_ok (h : Has P ν 309 3 V_spec_l02Hom) (c : Cat) (x y : Int) (H : Hp) (nx : Nat) (hc : c.f.length ≤ c.t.length) (hb : c.f.length ≤ 1048576) : OkM P ν 309 [.agg c.cells, int x, int y] H nx (IsI (homL c x y) H nx) := by
  refine h _ _ _ _ rfl fun hwf => ?_
  unfold V_spec_l02Hom
  simp only [SS, Nat.reduceEqDiff, Nat.reduceAdd, iput, puts, p_boxc]
  refine den_sel c.f.length (fun k => c.F k == x && c.T k == y) H nx rfl (Nat.le_refl _) rfl fun i v H' nx' hi hI => ?_
  have hl := selL_len i fun k => c.F k == x && c.T k == y
  by_cases hlt : i < c.f.length
  · have hlt2 : i < c.t.length := by omega
    simp only [SS, Nat.reduceEqDiff, Nat.reduceAdd, iput, puts, cat1, cat2, hlt, hlt2, wrap_succ (show i < 9223372036854775807 by omega)]
    have skip : ¬ (c.F i = x ∧ c.T i = y) → Sel c.f.length (fun k => c.F k == x && c.T k == y) H nx i [v, int ((i + 1 : Nat) : Int)] H' nx' := fun hb =>
      sel_skip rfl hlt (by rw [Bool.eq_false_iff]; intro hh; simp only [Bool.and_eq_true, beq_iff_eq] at hh; exact hb hh) hI
    refine ⟨fun h3 => ⟨fun h4 => ?_, fun h4 => skip fun hb => h4 hb.2⟩, fun h3 => skip fun hb => h3 hb.1⟩
    refine den_appI (m := [(i : Int)]) (H0 := H) (nx0 := nx) hI rfl (by simp) (by simp; omega) fun v2 H2 nx2 hI2 => ?_
    simp only [SS, Nat.reduceEqDiff, Nat.reduceAdd, iput, puts, wrap_succ (show i < 9223372036854775807 by omega)]
    exact sel_take rfl hlt (by simp only [Bool.and_eq_true, beq_iff_eq]; exact ⟨h3, h4⟩) hI2
  · have : i = c.f.length := by omega
    subst this
    simp only [SS, Nat.reduceEqDiff, Nat.reduceAdd, iput, puts, cat1, hlt]
    exact ⟨_, rfl, H', fun _ _ h => h, hI⟩
theorem l02Hom_fz (h : Has P ν 309 3 V_spec_l02Hom) (c : Cat) (x y : Int) (hc : c.f.length ≤ c.t.length) (hb : c.f.length ≤ 1048576) : Fz (OkM P ν) 309 [.agg c.cells, int x, int y] (islice (homL c x y)) :=
  OkM.fz (fun H nx => l02Hom_ok h c x y H nx hc hb) fun _ _ _ hh => hh.frz _

theorem homL_at {c : Cat} {x y : Int} {i : Nat} (hi : i < (homL c x y).length) : 0 ≤ (homL c x y).getD i 0 ∧ (homL c x y).getD i 0 < c.f.length ∧ c.F ((homL c x y).getD i 0) = x ∧ c.T ((homL c x y).getD i 0) = y := homL_mem (getD_mem hi)
theorem homL_len {c : Cat} (s : Shape c) (x y : Int) : (homL c x y).length ≤ 40 := Nat.le_trans (selL_len _ _) s.n40

def diaL (c : Cat) (e m u v : Int) : List Int := (homL c (c.T e) (c.F m)).filter fun d => c.K e d == u && c.K d m == v

def V_Category_diagonals : Vc :=
  .op true (.p (.msl 0 [] []) []) <|
  .op true (.p .nck [.t 0]) <|
  .op true (.p (.fad 2) [.t 6]) <|
  .op true (.p (.ld none) [.t 7]) <|
  .op true (.p (.iad 1) [.t 8, .t 1]) <|
  .op true (.p (.ld none) [.t 9]) <|
  .op true (.p .nck [.t 0]) <|
  .op true (.p (.fad 1) [.t 11]) <|
  .op true (.p (.ld none) [.t 12]) <|
  .op true (.p (.iad 1) [.t 13, .t 2]) <|
  .op true (.p (.ld none) [.t 14]) <|
  .op true (.call (.f 33) [.t 0, .t 10, .t 15]) <|
  .op true (.p .len [.t 16]) <|
  .loop 0 [.t 5, .c (int 0)] <|
  .op true (.p (.bin .lss) [.t 19, .t 17]) <|
  .br 20
   (.op true (.p (.iad 1) [.t 16, .t 19]) <|
   .op true (.p (.ld none) [.t 21]) <|
   .op true (.call (.f 34) [.t 0, .t 1, .t 22]) <|
   .op true (.p (.bin .eql) [.t 23, .t 3]) <|
   .br 24
    (.op true (.call (.f 34) [.t 0, .t 22, .t 2]) <|
    .op true (.p (.bin .eql) [.t 25, .t 4]) <|
    .br 26
     (.op true (.p (.msl 1 [int 0] [(0, 1)]) [.t 22]) <|
     .op true (.app 1 (.t 18) (.t 27)) <|
     .op true (.p (.bin .add) [.t 19, .c (int 1)]) <|
     .again 0 [.t 28, .t 29])
     (.op true (.p (.bin .add) [.t 19, .c (int 1)]) <|
     .again 0 [.t 18, .t 27]))
    (.op true (.p (.bin .add) [.t 19, .c (int 1)]) <|
    .again 0 [.t 18, .t 25]))
   (.ret [(.t 18, none)])
theorem diagonals_ok (hh : Has P ν 33 3 V_Category_hom) (ht : Has P ν 34 3 V_Category_then) (h : Has P ν 255 5 V_Category_diagonals) (c : Cat) (s : Shape c) (e m u w : Int) (e0 : 0 ≤ e) (e1 : e < c.f.length) (m0 : 0 ≤ m) (m1 : m < c.f.length) (H : Hp) (nx : Nat) :
    OkM P ν 255 [.ptr c.cells 0, int e, int m, int u, int w] H nx (IsI (diaL c e m u w) H nx) := by
  refine h _ _ _ _ rfl fun hwf => ?_
  unfold V_Category_diagonals
  have n40 := s.n40
  have tl := s.tl
  have e2 : e.toNat < c.f.length := by omega
  have m2 : m.toNat < c.f.length := by omega
  simp only [SS, Nat.reduceEqDiff, Nat.reduceAdd, iput, puts, cat1, cat2, tl, e0, e1, e2, m0, m1, m2]
  refine den_call (fc := (33, [])) rfl (by first | (simp only [SS, Nat.reduceEqDiff, Nat.reduceAdd, iput, puts, FF, frzL_cat]; done) | (simp only [SS, Nat.reduceEqDiff, Nat.reduceAdd, iput, puts, FF, frzL_cat]; rfl)) (hom_fz hh c (c.T e) (c.F m) (by omega) (by omega)) ?_
  simp only [SS, Nat.reduceEqDiff, Nat.reduceAdd, iput, puts]
  have hm : ∀ i, i < (homL c (c.T e) (c.F m)).length → _ := fun i hi => homL_at hi
  have hlen' := homL_len s (c.T e) (c.F m)
  rw [diaL]
  generalize homL c (c.T e) (c.F m) = l at hm hlen' ⊢
  refine den_fil l (fun d => c.K e d == u && c.K d m == w) H nx rfl (Nat.le_refl _) rfl fun i v H' nx' hi hI => ?_
  by_cases hlt : i < l.length
  · have hl2 := take_filter_len l (fun d => c.K e d == u && c.K d m == w) i
    obtain ⟨k1, k2, _⟩ := hm i hlt
    have skip : ¬ (c.K e (l.getD i 0) = u ∧ c.K (l.getD i 0) m = w) → Fil l (fun d => c.K e d == u && c.K d m == w) H nx i [v, int ((i + 1 : Nat) : Int)] H' nx' := fun hb =>
      fil_skip rfl hlt (by rw [Bool.eq_false_iff]; intro hh; simp only [Bool.and_eq_true, beq_iff_eq] at hh; exact hb hh) hI
    simp only [SS, Nat.reduceEqDiff, Nat.reduceAdd, iput, puts, hlt]
    refine den_call (fc := (34, [])) rfl (by first | (simp only [SS, Nat.reduceEqDiff, Nat.reduceAdd, iput, puts, FF, frzL_cat]; done) | (simp only [SS, Nat.reduceEqDiff, Nat.reduceAdd, iput, puts, FF, frzL_cat]; rfl)) (s.then_fz ht e (l.getD i 0) e0 e1 k1 k2) ?_
    simp only [SS, Nat.reduceEqDiff, Nat.reduceAdd, iput, puts, wrap_succ (show i < 9223372036854775807 by omega)]
    refine ⟨fun h1 => ?_, fun h1 => skip fun hb => h1 hb.1⟩
    refine den_call (fc := (34, [])) rfl (by first | (simp only [SS, Nat.reduceEqDiff, Nat.reduceAdd, iput, puts, FF, frzL_cat]; done) | (simp only [SS, Nat.reduceEqDiff, Nat.reduceAdd, iput, puts, FF, frzL_cat]; rfl)) (s.then_fz ht (l.getD i 0) m k1 k2 m0 m1) ?_
    simp only [SS, Nat.reduceEqDiff, Nat.reduceAdd, iput, puts, wrap_succ (show i < 9223372036854775807 by omega)]
    refine ⟨fun h2 => ?_, fun h2 => skip fun hb => h2 hb.2⟩
    refine den_appI (m := [l.getD i 0]) (H0 := H) (nx0 := nx) hI rfl (by simp) (by simp; omega) fun v2 H2 nx2 hI2 => ?_
    simp only [SS, Nat.reduceEqDiff, Nat.reduceAdd, iput, puts, wrap_succ (show i < 9223372036854775807 by omega)]
    exact fil_take rfl hlt (by simp only [Bool.and_eq_true, beq_iff_eq]; exact ⟨h1, h2⟩) hI2
  · simp only [SS, Nat.reduceEqDiff, Nat.reduceAdd, iput, puts, hlt]
    rw [List.take_of_length_le (by omega)] at hI
    exact ⟨v, rfl, H', fun _ _ h => h, hI⟩

def V_spec_l18Diagonals : Vc :=
  .op true (.p .box [.t 0]) <|
  .op true (.p (.ld (some 5)) [.t 5]) <|
  .op true (.p (.fad 2) [.t 5]) <|
  .op true (.p (.ld none) [.t 7]) <|
  .op true (.p (.iad 1) [.t 8, .t 1]) <|
  .op true (.p (.ld none) [.t 9]) <|
  .op true (.p (.fad 1) [.t 5]) <|
  .op true (.p (.ld none) [.t 11]) <|
  .op true (.p (.iad 1) [.t 12, .t 2]) <|
  .op true (.p (.ld none) [.t 13]) <|
  .op true (.call (.f 309) [.t 6, .t 10, .t 14]) <|
  .op true (.p (.msl 0 [] []) []) <|
  .loop 0 [.t 16, .c (int 0)] <|
  .op true (.p .len [.t 15]) <|
  .op true (.p (.bin .lss) [.t 18, .t 19]) <|
  .br 20
   (.op true (.p (.ld (some 5)) [.t 5]) <|
   .op true (.p (.iad 1) [.t 15, .t 18]) <|
   .op true (.p (.ld none) [.t 22]) <|
   .op true (.call (.f 253) [.t 21, .t 1, .t 23]) <|
   .op true (.p (.bin .eql) [.t 24, .t 3]) <|
   .br 25
    (.op true (.p (.ld (some 5)) [.t 5]) <|
    .op true (.p (.iad 1) [.t 15, .t 18]) <|
    .op true (.p (.ld none) [.t 27]) <|
    .op true (.call (.f 253) [.t 26, .t 28, .t 2]) <|
    .op true (.p (.bin .eql) [.t 29, .t 4]) <|
    .br 30
     (.op true (.p (.iad 1) [.t 15, .t 18]) <|
     .op true (.p (.ld none) [.t 31]) <|
     .op true (.p (.msl 1 [int 0] [(0, 1)]) [.t 32]) <|
     .op true (.app 1 (.t 17) (.t 33)) <|
     .op true (.p (.bin .add) [.t 18, .c (int 1)]) <|
     .again 0 [.t 34, .t 35])
     (.op true (.p (.bin .add) [.t 18, .c (int 1)]) <|
     .again 0 [.t 17, .t 31]))
    (.op true (.p (.bin .add) [.t 18, .c (int 1)]) <|
    .again 0 [.t 17, .t 26]))
   (.ret [(.t 17, none)])
theorem l18Diagonals_ok (hh : Has P ν 309 3 V_spec_l02Hom) (ht : Has P ν 253 3 V_spec_l02Then) (h : Has P ν 254 5 V_spec_l18Diagonals) (c : Cat) (s : Shape c) (e m u w : Int) (e0 : 0 ≤ e) (e1 : e < c.f.length) (m0 : 0 ≤ m) (m1 : m < c.f.length) (H : Hp) (nx : Nat) :
    OkM P ν 254 [.agg c.cells, int e, int m, int u, int w] H nx (IsI (diaL c e m u w) H nx) := by
  refine h _ _ _ _ rfl fun hwf => ?_
  unfold V_spec_l18Diagonals
  have n40 := s.n40
  have tl := s.tl
  have e2 : e.toNat < c.f.length := by omega
  have m2 : m.toNat < c.f.length := by omega
  simp only [SS, Nat.reduceEqDiff, Nat.reduceAdd, iput, puts, p_boxc, p_ldc, cat1, cat2, tl, e0, e1, e2, m0, m1, m2]
  refine den_call (fc := (309, [])) rfl (by first | (simp only [SS, Nat.reduceEqDiff, Nat.reduceAdd, iput, puts, FF, frzL_cat]; done) | (simp only [SS, Nat.reduceEqDiff, Nat.reduceAdd, iput, puts, FF, frzL_cat]; rfl)) (l02Hom_fz hh c (c.T e) (c.F m) (by omega) (by omega)) ?_
  simp only [SS, Nat.reduceEqDiff, Nat.reduceAdd, iput, puts]
  have hm : ∀ i, i < (homL c (c.T e) (c.F m)).length → _ := fun i hi => homL_at hi
  have hlen' := homL_len s (c.T e) (c.F m)
  rw [diaL]
  generalize homL c (c.T e) (c.F m) = l at hm hlen' ⊢
  refine den_fil l (fun d => c.K e d == u && c.K d m == w) H nx rfl (Nat.le_refl _) rfl fun i v H' nx' hi hI => ?_
  by_cases hlt : i < l.length
  · have hl2 := take_filter_len l (fun d => c.K e d == u && c.K d m == w) i
    obtain ⟨k1, k2, _⟩ := hm i hlt
    have skip : ¬ (c.K e (l.getD i 0) = u ∧ c.K (l.getD i 0) m = w) → Fil l (fun d => c.K e d == u && c.K d m == w) H nx i [v, int ((i + 1 : Nat) : Int)] H' nx' := fun hb =>
      fil_skip rfl hlt (by rw [Bool.eq_false_iff]; intro hh; simp only [Bool.and_eq_true, beq_iff_eq] at hh; exact hb hh) hI
    simp only [SS, Nat.reduceEqDiff, Nat.reduceAdd, iput, puts, p_ldc, hlt]
    refine den_call (fc := (253, [])) rfl (by first | (simp only [SS, Nat.reduceEqDiff, Nat.reduceAdd, iput, puts, FF, frzL_cat]; done) | (simp only [SS, Nat.reduceEqDiff, Nat.reduceAdd, iput, puts, FF, frzL_cat]; rfl)) (s.l02Then_fz ht e (l.getD i 0) e0 e1 k1 k2) ?_
    simp only [SS, Nat.reduceEqDiff, Nat.reduceAdd, iput, puts, p_ldc, hlt, wrap_succ (show i < 9223372036854775807 by omega)]
    refine ⟨fun h1 => ?_, fun h1 => skip fun hb => h1 hb.1⟩
    refine den_call (fc := (253, [])) rfl (by first | (simp only [SS, Nat.reduceEqDiff, Nat.reduceAdd, iput, puts, FF, frzL_cat]; done) | (simp only [SS, Nat.reduceEqDiff, Nat.reduceAdd, iput, puts, FF, frzL_cat]; rfl)) (s.l02Then_fz ht (l.getD i 0) m k1 k2 m0 m1) ?_
    simp only [SS, Nat.reduceEqDiff, Nat.reduceAdd, iput, puts, hlt, wrap_succ (show i < 9223372036854775807 by omega)]
    refine ⟨fun h2 => ?_, fun h2 => skip fun hb => h2 hb.2⟩
    refine den_appI (m := [l.getD i 0]) (H0 := H) (nx0 := nx) hI rfl (by simp) (by simp; omega) fun v2 H2 nx2 hI2 => ?_
    simp only [SS, Nat.reduceEqDiff, Nat.reduceAdd, iput, puts, wrap_succ (show i < 9223372036854775807 by omega)]
    exact fil_take rfl hlt (by simp only [Bool.and_eq_true, beq_iff_eq]; exact ⟨h1, h2⟩) hI2
  · simp only [SS, Nat.reduceEqDiff, Nat.reduceAdd, iput, puts, hlt]
    rw [List.take_of_length_le (by omega)] at hI
    exact ⟨v, rfl, H', fun _ _ h => h, hI⟩

theorem Shape.ends_fz (he : Has P ν 38 2 V_Category_ends) {c : Cat} (s : Shape c) (a : Int) (h1 : 0 ≤ a) (h2 : a < c.f.length) : Fz (OkM P ν) 38 [.ptr c.cells 0, int a] (.agg [int (c.F a), int (c.T a)]) :=
  (ends_ok he c a h1 h2 (by have := s.tl; omega)).fz2


/-- Both answer a list and no error, or an error. -/
theorem both_code {i j : Nat} {args : List AV} (a b S : Prop) [Decidable a] [Decidable b] [Decidable S] (l : List Int) (hl : a ∧ b → S → l.length ≤ 2097152)
    (h1 : ∀ H nx, OkM P ν i args H nx (IsP (if code a b = 0 ∧ S then l else []) (if code a b = 0 then if S then 0 else 5 else code a b) H nx))
    (h2 : ∀ H nx, OkM P ν j args H nx (IsP (if code a b = 0 ∧ S then l else []) (if code a b = 0 then if S then 0 else 5 else code a b) H nx)) : BothP P ν i j args := by
  refine ⟨_, _, ?_, h1, h2⟩
  split
  · rename_i h; exact hl (code_zero.1 h.1) h.2
  · simp

def DiaS (c : Cat) (e m u v : Int) : Prop := c.F u = c.F e ∧ c.T u = c.F m ∧ c.F v = c.T e ∧ c.T v = c.T m ∧ c.K e v = c.K u m

def V_DiagonalsOf : Vc :=
  .op true (.p .box [.t 0]) <|
  .op true (.p (.msl 4 [int 0, int 0, int 0, int 0] [(0, 1), (1, 1), (2, 1), (3, 1)]) [.t 1, .t 2, .t 3, .t 4]) <|
  .op true (.call (.f 18) [.t 5, .t 6]) <|
  .op true (.p (.bin .neq) [.t 7, .c (int 0)]) <|
  .br 8
   (.ret [(.c (.nil), none), (.t 7, none)])
   (.op true (.call (.f 38) [.t 5, .t 3]) <|
   .op true (.p (.fad 1) [.t 5]) <|
   .op true (.p (.ld none) [.t 10]) <|
   .op true (.p (.iad 1) [.t 11, .t 1]) <|
   .op true (.p (.ld none) [.t 12]) <|
   .op true (.p (.fad 1) [.t 5]) <|
   .op true (.p (.ld none) [.t 14]) <|
   .op true (.p (.iad 1) [.t 15, .t 2]) <|
   .op true (.p (.ld none) [.t 16]) <|
   .op true (.p (.mka [int 0, int 0] [(0, 1), (1, 1)]) [.t 13, .t 17]) <|
   .op true (.p (.eqs true 2) [.t 9, .t 18]) <|
   .br 19
    (.ret [(.c (.nil), none), (.c (int 5), none)])
    (.op true (.call (.f 38) [.t 5, .t 4]) <|
    .op true (.p (.fad 2) [.t 5]) <|
    .op true (.p (.ld none) [.t 21]) <|
    .op true (.p (.iad 1) [.t 22, .t 1]) <|
    .op true (.p (.ld none) [.t 23]) <|
    .op true (.p (.fad 2) [.t 5]) <|
    .op true (.p (.ld none) [.t 25]) <|
    .op true (.p (.iad 1) [.t 26, .t 2]) <|
    .op true (.p (.ld none) [.t 27]) <|
    .op true (.p (.mka [int 0, int 0] [(0, 1), (1, 1)]) [.t 24, .t 28]) <|
    .op true (.p (.eqs true 2) [.t 20, .t 29]) <|
    .br 30
     (.ret [(.c (.nil), none), (.c (int 5), none)])
     (.op true (.call (.f 34) [.t 5, .t 1, .t 4]) <|
     .op true (.call (.f 34) [.t 5, .t 3, .t 2]) <|
     .op true (.p (.bin .neq) [.t 31, .t 32]) <|
     .br 33
      (.ret [(.c (.nil), none), (.c (int 5), none)])
      (.op true (.callm (.f 255) [.t 5, .t 1, .t 2, .t 3, .t 4]) <|
      .ret [(.t 34, none), (.c (int 0), none)]))))
def V_spec_DiagonalsOf : Vc :=
  .op true (.p .box [.t 0]) <|
  .op true (.p (.ld (some 5)) [.t 5]) <|
  .op true (.p (.msl 4 [int 0, int 0, int 0, int 0] [(0, 1), (1, 1), (2, 1), (3, 1)]) [.t 1, .t 2, .t 3, .t 4]) <|
  .op true (.call (.f 245) [.t 6, .t 7]) <|
  .op true (.p (.bin .neq) [.t 8, .c (int 0)]) <|
  .br 9
   (.ret [(.c (.nil), none), (.t 8, none)])
   (.op true (.p (.fad 1) [.t 5]) <|
   .op true (.p (.ld none) [.t 10]) <|
   .op true (.p (.iad 1) [.t 11, .t 3]) <|
   .op true (.p (.ld none) [.t 12]) <|
   .op true (.p (.fad 1) [.t 5]) <|
   .op true (.p (.ld none) [.t 14]) <|
   .op true (.p (.iad 1) [.t 15, .t 1]) <|
   .op true (.p (.ld none) [.t 16]) <|
   .op true (.p (.bin .neq) [.t 13, .t 17]) <|
   .br 18
    (.ret [(.c (.nil), none), (.c (int 5), none)])
    (.op true (.p (.fad 2) [.t 5]) <|
    .op true (.p (.ld none) [.t 19]) <|
    .op true (.p (.iad 1) [.t 20, .t 3]) <|
    .op true (.p (.ld none) [.t 21]) <|
    .op true (.p (.fad 1) [.t 5]) <|
    .op true (.p (.ld none) [.t 23]) <|
    .op true (.p (.iad 1) [.t 24, .t 2]) <|
    .op true (.p (.ld none) [.t 25]) <|
    .op true (.p (.bin .neq) [.t 22, .t 26]) <|
    .br 27
     (.ret [(.c (.nil), none), (.c (int 5), none)])
     (.op true (.p (.fad 1) [.t 5]) <|
     .op true (.p (.ld none) [.t 28]) <|
     .op true (.p (.iad 1) [.t 29, .t 4]) <|
     .op true (.p (.ld none) [.t 30]) <|
     .op true (.p (.fad 2) [.t 5]) <|
     .op true (.p (.ld none) [.t 32]) <|
     .op true (.p (.iad 1) [.t 33, .t 1]) <|
     .op true (.p (.ld none) [.t 34]) <|
     .op true (.p (.bin .neq) [.t 31, .t 35]) <|
     .br 36
      (.ret [(.c (.nil), none), (.c (int 5), none)])
      (.op true (.p (.fad 2) [.t 5]) <|
      .op true (.p (.ld none) [.t 37]) <|
      .op true (.p (.iad 1) [.t 38, .t 4]) <|
      .op true (.p (.ld none) [.t 39]) <|
      .op true (.p (.fad 2) [.t 5]) <|
      .op true (.p (.ld none) [.t 41]) <|
      .op true (.p (.iad 1) [.t 42, .t 2]) <|
      .op true (.p (.ld none) [.t 43]) <|
      .op true (.p (.bin .neq) [.t 40, .t 44]) <|
      .br 45
       (.ret [(.c (.nil), none), (.c (int 5), none)])
       (.op true (.p (.ld (some 5)) [.t 5]) <|
       .op true (.call (.f 253) [.t 46, .t 1, .t 4]) <|
       .op true (.p (.ld (some 5)) [.t 5]) <|
       .op true (.call (.f 253) [.t 48, .t 3, .t 2]) <|
       .op true (.p (.bin .neq) [.t 47, .t 49]) <|
       .br 50
        (.ret [(.c (.nil), none), (.c (int 5), none)])
        (.op true (.p (.ld (some 5)) [.t 5]) <|
        .op true (.callm (.f 254) [.t 51, .t 1, .t 2, .t 3, .t 4]) <|
        .ret [(.t 52, none), (.c (int 0), none)]))))))
set_option maxHeartbeats 1000000 in
theorem DiagonalsOf_both (K : HCat P ν) (A : HArr P ν) (hd : Has P ν 255 5 V_Category_diagonals) (h : Has P ν 115 5 V_DiagonalsOf) (KS : HSpec P ν) (ha : Has P ν 245 2 V_spec_l02Arrows) (h2 : Has P ν 253 3 V_spec_l02Then) (hho : Has P ν 309 3 V_spec_l02Hom) (hdi : Has P ν 254 5 V_spec_l18Diagonals) (hs : Has P ν 114 5 V_spec_DiagonalsOf) (c : Cat) (b : Small c) (e m u v : Int) :
    BothP P ν 115 114 [.agg c.cells, int e, int m, int u, int v] := by
  refine both_code (IsCat c) (Arr c e ∧ Arr c m ∧ Arr c u ∧ Arr c v) (DiaS c e m u v) (diaL c e m u v) (fun hc hS => Nat.le_trans (List.length_filter_le _ _) (Nat.le_trans (homL_len hc.1.1 _ _) (by omega))) (fun H nx => h _ _ _ _ rfl fun hwf => ?_) fun H nx => hs _ _ _ _ rfl fun hwf => ?_
  · unfold V_DiagonalsOf
    simp only [SS, Nat.reduceEqDiff, Nat.reduceAdd, iput, puts, p_boxc, p_msl4]
    refine den_call (fc := (18, [])) rfl (by first | (simp only [SS, Nat.reduceEqDiff, Nat.reduceAdd, iput, puts, FF, frzL_cat]; done) | (simp only [SS, Nat.reduceEqDiff, Nat.reduceAdd, iput, puts, FF, frzL_cat]; rfl)) (arrowCode_fz K A.code c b [e, m, u, v] (by simp) (Wn4 c e m u v)) ?_
    by_cases h0 : code (IsCat c) (Arr c e ∧ Arr c m ∧ Arr c u ∧ Arr c v) = 0
    · obtain ⟨hc, ⟨e0, e1⟩, ⟨m0, m1⟩, ⟨u0, u1⟩, ⟨v0, v1⟩⟩ := code_zero.1 h0
      have s := hc.1
      have tl := s.tl
      have e2 : e.toNat < c.f.length := by omega
      have m2 : m.toNat < c.f.length := by omega
      simp only [SS, Nat.reduceEqDiff, Nat.reduceAdd, iput, puts, h0]
      refine den_call (fc := (38, [])) rfl (by first | (simp only [SS, Nat.reduceEqDiff, Nat.reduceAdd, iput, puts, FF, frzL_cat]; done) | (simp only [SS, Nat.reduceEqDiff, Nat.reduceAdd, iput, puts, FF, frzL_cat]; rfl)) (s.ends_fz K.ends u u0 u1) ?_
      simp only [SS, Nat.reduceEqDiff, Nat.reduceAdd, iput, puts, cat1, e0, e1, e2, m0, m1, m2]
      refine ⟨fun h1 => ?_, fun h1 => ?_⟩
      · have : ¬ DiaS c e m u v := fun hS => by simp only [show c.F u = c.f.getD e.toNat 0 from hS.1, show c.T u = c.f.getD m.toNat 0 from hS.2.1, beq_self_eq_true, Bool.and_true, Bool.true_eq_false] at h1
        simp only [this, if_false]
        exact ⟨_, rfl, H, fun _ _ h => h, .nil, rfl, IsI.nil _ _⟩
      refine den_call (fc := (38, [])) rfl (by first | (simp only [SS, Nat.reduceEqDiff, Nat.reduceAdd, iput, puts, FF, frzL_cat]; done) | (simp only [SS, Nat.reduceEqDiff, Nat.reduceAdd, iput, puts, FF, frzL_cat]; rfl)) (s.ends_fz K.ends v v0 v1) ?_
      simp only [SS, Nat.reduceEqDiff, Nat.reduceAdd, iput, puts, cat2, tl, e0, e1, e2, m0, m1, m2]
      refine ⟨fun h3 => ?_, fun h3 => ?_⟩
      · have : ¬ DiaS c e m u v := fun hS => by simp only [show c.F v = c.t.getD e.toNat 0 from hS.2.2.1, show c.T v = c.t.getD m.toNat 0 from hS.2.2.2.1, beq_self_eq_true, Bool.and_true, Bool.true_eq_false] at h3
        simp only [this, if_false]
        exact ⟨_, rfl, H, fun _ _ h => h, .nil, rfl, IsI.nil _ _⟩
      refine den_call (fc := (34, [])) rfl (by first | (simp only [SS, Nat.reduceEqDiff, Nat.reduceAdd, iput, puts, FF, frzL_cat]; done) | (simp only [SS, Nat.reduceEqDiff, Nat.reduceAdd, iput, puts, FF, frzL_cat]; rfl)) (s.then_fz K.thn e v e0 e1 v0 v1) ?_
      refine den_call (fc := (34, [])) rfl (by first | (simp only [SS, Nat.reduceEqDiff, Nat.reduceAdd, iput, puts, FF, frzL_cat]; done) | (simp only [SS, Nat.reduceEqDiff, Nat.reduceAdd, iput, puts, FF, frzL_cat]; rfl)) (s.then_fz K.thn u m u0 u1 m0 m1) ?_
      simp only [SS, Nat.reduceEqDiff, Nat.reduceAdd, iput, puts]
      refine ⟨fun h4 => ?_, fun h4 => ?_⟩
      · have : ¬ DiaS c e m u v := fun hS => h4 hS.2.2.2.2
        simp only [this, if_false]
        exact ⟨_, rfl, H, fun _ _ h => h, .nil, rfl, IsI.nil _ _⟩
      have : DiaS c e m u v := ⟨h1.1, h1.2, h3.1, h3.2, h4⟩
      simp only [this, if_true]
      refine den_callm (fc := (255, [])) rfl (diagonals_ok A.hom K.thn hd c s e m u v e0 e1 m0 m1 H nx) (IsI.some _ _ _) fun u H' nx' hu => ?_
      exact ⟨_, rfl, H', fun _ _ h => h, u, rfl, hu⟩
    · simp only [SS, Nat.reduceEqDiff, Nat.reduceAdd, iput, puts, h0, false_and]
      exact ⟨_, rfl, H, fun _ _ h => h, .nil, rfl, IsI.nil _ _⟩
  · unfold V_spec_DiagonalsOf
    simp only [SS, Nat.reduceEqDiff, Nat.reduceAdd, iput, puts, p_boxc, p_ldc, p_msl4]
    refine den_call (fc := (245, [])) rfl (by first | (simp only [SS, Nat.reduceEqDiff, Nat.reduceAdd, iput, puts, FF, frzL_cat]; done) | (simp only [SS, Nat.reduceEqDiff, Nat.reduceAdd, iput, puts, FF, frzL_cat]; rfl)) (l02Arrows_fz KS ha c b [e, m, u, v] (by simp) (Wn4 c e m u v)) ?_
    by_cases h0 : code (IsCat c) (Arr c e ∧ Arr c m ∧ Arr c u ∧ Arr c v) = 0
    · obtain ⟨hc, ⟨e0, e1⟩, ⟨m0, m1⟩, ⟨u0, u1⟩, ⟨v0, v1⟩⟩ := code_zero.1 h0
      have s := hc.1
      have tl := s.tl
      have e2 : e.toNat < c.f.length := by omega
      have m2 : m.toNat < c.f.length := by omega
      have u2 : u.toNat < c.f.length := by omega
      have v2 : v.toNat < c.f.length := by omega
      simp only [SS, Nat.reduceEqDiff, Nat.reduceAdd, iput, puts, h0, p_ldc, cat1, cat2, tl, e0, e1, e2, m0, m1, m2, u0, u1, u2, v0, v1, v2]
      refine ⟨fun h1 => ?_, fun h1 => ⟨fun h1' => ?_, fun h1' => ⟨fun h3 => ?_, fun h3 => ⟨fun h3' => ?_, fun h3' => ?_⟩⟩⟩⟩
      · have : ¬ DiaS c e m u v := fun hS => h1 hS.1
        simp only [this, if_false]
        exact ⟨_, rfl, H, fun _ _ h => h, .nil, rfl, IsI.nil _ _⟩
      · have : ¬ DiaS c e m u v := fun hS => h1' hS.2.1
        simp only [this, if_false]
        exact ⟨_, rfl, H, fun _ _ h => h, .nil, rfl, IsI.nil _ _⟩
      · have : ¬ DiaS c e m u v := fun hS => h3 hS.2.2.1
        simp only [this, if_false]
        exact ⟨_, rfl, H, fun _ _ h => h, .nil, rfl, IsI.nil _ _⟩
      · have : ¬ DiaS c e m u v := fun hS => h3' hS.2.2.2.1
        simp only [this, if_false]
        exact ⟨_, rfl, H, fun _ _ h => h, .nil, rfl, IsI.nil _ _⟩
      refine den_call (fc := (253, [])) rfl (by first | (simp only [SS, Nat.reduceEqDiff, Nat.reduceAdd, iput, puts, FF, frzL_cat]; done) | (simp only [SS, Nat.reduceEqDiff, Nat.reduceAdd, iput, puts, FF, frzL_cat]; rfl)) (s.l02Then_fz h2 e v e0 e1 v0 v1) ?_
      simp only [SS, Nat.reduceEqDiff, Nat.reduceAdd, iput, puts, p_ldc]
      refine den_call (fc := (253, [])) rfl (by first | (simp only [SS, Nat.reduceEqDiff, Nat.reduceAdd, iput, puts, FF, frzL_cat]; done) | (simp only [SS, Nat.reduceEqDiff, Nat.reduceAdd, iput, puts, FF, frzL_cat]; rfl)) (s.l02Then_fz h2 u m u0 u1 m0 m1) ?_
      simp only [SS, Nat.reduceEqDiff, Nat.reduceAdd, iput, puts, p_ldc]
      refine ⟨fun h5 => ?_, fun h5 => ?_⟩
      · have : ¬ DiaS c e m u v := fun hS => h5 hS.2.2.2.2
        simp only [this, if_false]
        exact ⟨_, rfl, H, fun _ _ h => h, .nil, rfl, IsI.nil _ _⟩
      have : DiaS c e m u v := ⟨h1, h1', h3, h3', h5⟩
      simp only [this, if_true]
      refine den_callm (fc := (254, [])) rfl (l18Diagonals_ok hho h2 hdi c s e m u v e0 e1 m0 m1 H nx) (IsI.some _ _ _) fun u H' nx' hu => ?_
      exact ⟨_, rfl, H', fun _ _ h => h, u, rfl, hu⟩
    · simp only [SS, Nat.reduceEqDiff, Nat.reduceAdd, iput, puts, h0, false_and]
      exact ⟨_, rfl, H, fun _ _ h => h, .nil, rfl, IsI.nil _ _⟩
end Go.Av
