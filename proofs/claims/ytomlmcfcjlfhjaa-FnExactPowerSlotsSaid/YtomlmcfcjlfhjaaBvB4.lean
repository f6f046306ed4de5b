/-
  Squares and their diagonals: the program's and the reference's.
-/
import Derived.Test.YtomlmcfcjlfhjaaBvB2
import Derived.Test.YtomlmcfcjlfhjaaBvB3
namespace Go.Av
set_option linter.unusedSectionVars false
set_option linter.unusedSimpArgs false
set_option linter.unusedVariables false
variable [md : Md]
open Classical
set_option linter.unusedSimpArgs false
set_option linter.unusedVariables false
variable {P : Program} {ν : Nat → FuncId}



def V_spec_l02Hom : Vc :=
  .op true (.p .box [.t 0]) <|
  .op true (.p (.msl 0 [] []) []) <|
  .loop 0 [.t 4, .c (int 0)] <|
  .op true (.p (.fad 1) [.t 3]) <|
  .op true (.p (.ld none) [.t 7]) <|
  .op true (.p .len [.t 8]) <|
  .op true (.p (.bin .lss) [.t 6, .t 9]) <|
  .br 10
   (.op true (.p (.fad 1) [.t 3]) <|
   .op true (.p (.ld none) [.t 11]) <|
   .op true (.p (.iad 1) [.t 12, .t 6]) <|
   .op true (.p (.ld none) [.t 13]) <|
   .op true (.p (.bin .eql) [.t 14, .t 1]) <|
   .br 15
    (.op true (.p (.fad 2) [.t 3]) <|
    .op true (.p (.ld none) [.t 16]) <|
    .op true (.p (.iad 1) [.t 17, .t 6]) <|
    .op true (.p (.ld none) [.t 18]) <|
    .op true (.p (.bin .eql) [.t 19, .t 2]) <|
    .br 20
     (.op true (.p (.msl 1 [int 0] [(0, 1)]) [.t 6]) <|
     .op true (.app 1 (.t 5) (.t 21)) <|
     .op true (.p (.bin .add) [.t 6, .c (int 1)]) <|
     .again 0 [.t 22, .t 23])
     (.op true (.p (.bin .add) [.t 6, .c (int 1)]) <|
     .again 0 [.t 5, .t 21]))
    (.op true (.p (.bin .add) [.t 6, .c (int 1)]) <|
    .again 0 [.t 5, .t 16]))
   (.ret [(.t 5, none)])
theorem l02Hom_ok (h : Has P ν 309 3 V_spec_l02Hom) (c : Cat) (x y : Int) (H : Hp) (nx : Nat) (hc : c.f.length ≤ c.t.length) (hb : c.f.length ≤ 1048576) : OkM P ν 309 [.agg c.cells, int x, int y] H nx (IsI (homL c x y) H nx) := by
  refine h _ _ _ _ rfl fun hwf => ?_
  unfold V_spec_l02Hom
  simp only [SS, Nat.reduceEqDiff, Nat.reduceAdd, iput, puts, p_boxc]
  refine den_sel c.f.length (fun k => c.F k == x && c.T k == y) H nx rfl (Nat.le_refl _) rfl fun i v H' nx' hi hI => ?_
  have hl := selL_len i fun k => c.F k == x && c.T k == y
  by_cases hlt : i < c.f.length
  · have hlt2 : i < c.t.length := by omega
    simp only [SS, Nat.reduceEqDiff, Nat.reduceAdd, iput, puts, cat1, cat2, hlt, hlt2, wrap_succ (show i < 9223372036854775807 by omega)]
    have skip : ¬ (c.F i = x ∧ c.T i = y) → Sel c.f.length (fun k => c.F k == x && c.T k == y) H nx i [v, int ((i + 1 : Nat) : Int)] H' nx' := fun hb =>
      sel_skip rfl hlt (by rw [Bool.eq_false_iff]; intro hh; simp only [Bool.and_eq_true, beq_iff_eq] at hh; exact hb hh) hI
    refine ⟨fun h3 => ⟨fun h4 => ?_, fun h4 => skip fun hb => h4 hb.2⟩, fun h3 => skip fun hb => h3 hb.1⟩
    refine den_appI (m := [(i : Int)]) (H0 := H) (nx0 := nx) hI rfl (by simp) (by simp; omega) fun v2 H2 nx2 hI2 => ?_
    simp only [SS, Nat.reduceEqDiff, Nat.reduceAdd, iput, puts, wrap_succ (show i < 9223372036854775807 by omega)]
    exact sel_take rfl hlt (by simp only [Bool.and_eq_true, beq_iff_eq]; exact ⟨h3, h4⟩) hI2
  · have : i = c.f.length := by omega
    subst this
    simp only [SS, Nat.reduceEqDiff, Nat.reduceAdd, iput, puts, cat1, hlt]
    exact ⟨_, rfl, H', fun _ _ h => h, hI⟩
theorem l02Hom_fz (h : Has P ν 309 3 V_spec_l02Hom) (c : Cat) (x y : Int) (hc : c.f.length ≤ c.t.length) (hb : c.f.length ≤ 1048576) : Fz (OkM P ν) 309 [.agg c.cells, int x, int y] (islice (homL c x y)) :=
  OkM.fz (fun H nx => l02Hom_ok h c x y H nx hc hb) fun _ _ _ hh => hh.frz _

theorem homL_len {c : Cat} (s : Shape c) (x y : Int) : (homL c x y).length ≤ 40 := Nat.le_trans (selL_len _ _) s.n40








end Go.Av
