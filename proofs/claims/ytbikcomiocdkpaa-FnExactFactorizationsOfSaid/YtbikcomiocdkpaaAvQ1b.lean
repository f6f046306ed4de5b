/-
  Factorizations: both sides.
-/
import Derived.Test.YtbikcomiocdkpaaAvQ1
namespace Go.Av
open Classical
set_option linter.unusedSimpArgs false
set_option linter.unusedVariables false
variable {P : Program} {ν : Nat → FuncId}

theorem fcode_zero {c : Cat} {es ms : List Int} {f : Int} (h : fcode c es ms f = 0) : IsCat c ∧ Arr c f ∧ (Wn es c.f.length ∧ Wn ms c.f.length) ∧ es.length ≤ 40 ∧ ms.length ≤ 40 := by
  unfold fcode at h
  by_cases h1 : IsCat c
  · rw [if_pos h1] at h
    by_cases e : Arr c f ∧ Wn es c.f.length ∧ Wn ms c.f.length
    · rw [if_pos e] at h
      by_cases e2 : Rising es ∧ Rising ms
      · have n40 := h1.1.n40
        refine ⟨h1, e.1, e.2, ?_, ?_⟩
        · rcases e2.1.le e.2.1 with q | q
          · omega
          · simp [q]
        · rcases e2.2.le e.2.2 with q | q
          · omega
          · simp [q]
      · rw [if_neg e2] at h; omega
    · rw [if_neg e] at h; omega
  · rw [if_neg h1] at h; omega
theorem facL_row {c : Cat} {es ms : List Int} {f : Int} : ∀ r ∈ facL c es ms f, r.length = 3 := by
  intro r hr
  simp only [facL, facE, facR, List.mem_flatMap, List.mem_map] at hr
  obtain ⟨z, _, g, _, h, _, rfl⟩ := hr
  rfl
theorem facL_len {c : Cat} {es ms : List Int} {f : Int} (o8 : c.o ≤ 8) (le : es.length ≤ 40) (lm : ms.length ≤ 40) : (facL c es ms f).length ≤ 8 * 1600 := by
  have := flat_len_le (List.range c.o.toNat) (fun (z : Nat) => facE c es ms f z) 1600 fun a _ => Nat.le_trans (facE_len c es ms f a) (Nat.mul_le_mul le lm)
  simp only [List.length_range] at this
  exact Nat.le_trans this (Nat.mul_le_mul_right _ (by omega))
theorem rows_le {R : List (List Int)} {m : Nat} (h : ∀ r ∈ R, r.length ≤ m) : ∀ i, i < R.length → (R.getD i []).length ≤ m := fun i hi => h _ (by simp [List.getD, hi])

def V_spec_FactorizationsOf : Vc :=
  .op true (.p .box [.t 0]) <|
  .op true (.p (.ld (some 5)) [.t 4]) <|
  .op true (.p (.msl 1 [int 0] [(0, 1)]) [.t 3]) <|
  .op true (.call (.f 245) [.t 5, .t 6]) <|
  .op true (.p (.bin .eql) [.t 7, .c (int 0)]) <|
  .br 8
   (.op true (.p (.ld (some 5)) [.t 4]) <|
   .op true (.call (.f 293) [.t 9, .t 1, .t 2]) <|
   .op true (.p (.bin .neq) [.t 10, .c (int 0)]) <|
   .br 11
    (.ret [(.c (.nil), none), (.t 10, none)])
    (.op true (.p (.ld (some 5)) [.t 4]) <|
    .op true (.call (.f 294) [.t 12, .t 1, .t 2, .t 3]) <|
    .ret [(.t 13, none), (.c (int 0), none)]))
   (.op true (.p (.bin .neq) [.t 7, .c (int 0)]) <|
   .br 9
    (.ret [(.c (.nil), none), (.t 7, none)])
    (.op true (.p (.ld (some 5)) [.t 4]) <|
    .op true (.call (.f 294) [.t 10, .t 1, .t 2, .t 3]) <|
    .ret [(.t 11, none), (.c (int 0), none)]))
set_option maxHeartbeats 1000000 in
theorem FactorizationsOf_both (K : HCat P ν) (hr : Has P ν 368 1 V_rising) (hcc : Has P ν 295 2 V_classCode) (h : Has P ν 156 4 V_FactorizationsOf) (KS : HSpec P ν) (ha : Has P ν 245 2 V_spec_l02Arrows) (hri : Has P ν 366 1 V_spec_l02Rises) (ht : Has P ν 253 3 V_spec_l02Then) (hlc : Has P ν 293 3 V_spec_l18Code) (hlf : Has P ν 294 4 V_spec_l18Factor) (hs : Has P ν 155 4 V_spec_FactorizationsOf) (c : Cat) (b : Small c) (es : List Int) (be : es.length ≤ 1048576) (ms : List Int) (bm : ms.length ≤ 1048576) (f : Int) :
    BothQ P ν 156 155 [.agg c.cells, islice es, islice ms, int f] := by
  refine ⟨if fcode c es ms f = 0 then facL c es ms f else [], fcode c es ms f, ?_, ?_, fun nx => FactorizationsOf_ok K hr hcc h c b es ms f be bm nx, ?_⟩
  · split
    · rename_i e
      obtain ⟨h1, _, _, le, lm⟩ := fcode_zero e
      have := facL_len (f := f) h1.1.o8 le lm
      omega
    · simp
  · split
    · exact rows_le fun r hr => by rw [facL_row r hr]; omega
    · intro i hi; simp at hi
  · refine OkM.mono (Φ := fun r _ _ => r = .tup [.sl (rows (if fcode c es ms f = 0 then facL c es ms f else [])) (if fcode c es ms f = 0 then facL c es ms f else []).length, int (fcode c es ms f)] ∨ (fcode c es ms f ≠ 0 ∧ r = .tup [.nil, int (fcode c es ms f)])) (hs [.agg c.cells, islice es, islice ms, int f] hempty 0 _ rfl fun hwf => ?_) ?_
    · unfold V_spec_FactorizationsOf
      have hf1 := l02Arrows_fz KS ha c b [f] (by simp) (Wn1 c f)
      have hcl := l18Code_fz KS ha hri hlc c b es ms be bm
      by_cases h0 : code (IsCat c) (Arr c f) = 0
      · obtain ⟨hc, af⟩ := code_zero.1 h0
        have e2 : clsCode c [es, ms] = fcode c es ms f := by
          rw [clsCode_two]; unfold fcode; simp only [af, true_and]
        rw [h0] at hf1
        rw [e2] at hcl
        repeat (first | simp (disch := (first | rfl | with_reducible assumption | with_reducible solve_by_elim (maxDepth := 8) [Shape.inT, Shape.inI, Shape.inC, Shape.inK, Shape.obF, Shape.obT, Shape.arI, Arr.inF] | omega)) only [S2, Nat.reduceEqDiff, Nat.reduceAdd, iput, puts] | (refine den_call rfl (by first | (simp only [SS, Nat.reduceEqDiff, Nat.reduceAdd, iput, puts, FF, frzL_cat]; done) | (simp only [SS, Nat.reduceEqDiff, Nat.reduceAdd, iput, puts, FF, frzL_cat]; rfl)) (by first | exact hf1 | exact hcl) ?_) | (refine den_calli rfl (by first | (simp only [SS, Nat.reduceEqDiff, Nat.reduceAdd, iput, puts, FF, frzL_cat]; done) | (simp only [SS, Nat.reduceEqDiff, Nat.reduceAdd, iput, puts, FF, frzL_cat]; rfl)) (by first | exact hf1 | exact hcl) ?_))
        repeat (first | simp (disch := (first | rfl | with_reducible assumption | with_reducible solve_by_elim (maxDepth := 8) [Shape.inT, Shape.inI, Shape.inC, Shape.inK, Shape.obF, Shape.obT, Shape.arI, Arr.inF] | omega)) only [S2, Nat.reduceEqDiff, Nat.reduceAdd, iput, puts] | (refine den_call rfl (by first | (simp only [SS, Nat.reduceEqDiff, Nat.reduceAdd, iput, puts, FF, frzL_cat]; done) | (simp only [SS, Nat.reduceEqDiff, Nat.reduceAdd, iput, puts, FF, frzL_cat]; rfl)) (by first | exact hf1 | exact hcl) ?_) | (refine den_calli rfl (by first | (simp only [SS, Nat.reduceEqDiff, Nat.reduceAdd, iput, puts, FF, frzL_cat]; done) | (simp only [SS, Nat.reduceEqDiff, Nat.reduceAdd, iput, puts, FF, frzL_cat]; rfl)) (by first | exact hf1 | exact hcl) ?_))
        refine ⟨fun h3 => ?_, fun h3 => ?_⟩
        · exact ⟨_, rfl, hempty, fun _ _ h => h, .inr ⟨h3, rfl⟩⟩
        · obtain ⟨h1, _, hw, le, lm⟩ := fcode_zero h3
          repeat (first | simp (disch := (first | rfl | with_reducible assumption | with_reducible solve_by_elim (maxDepth := 8) [Shape.inT, Shape.inI, Shape.inC, Shape.inK, Shape.obF, Shape.obT, Shape.arI, Arr.inF] | omega)) only [S2, Nat.reduceEqDiff, Nat.reduceAdd, iput, puts] | (refine den_call rfl (by first | (simp only [SS, Nat.reduceEqDiff, Nat.reduceAdd, iput, puts, FF, frzL_cat]; done) | (simp only [SS, Nat.reduceEqDiff, Nat.reduceAdd, iput, puts, FF, frzL_cat]; rfl)) (by first | exact l18Factor_fi ht hlf c hc.1 es ms f af hw le lm) ?_) | (refine den_calli rfl (by first | (simp only [SS, Nat.reduceEqDiff, Nat.reduceAdd, iput, puts, FF, frzL_cat]; done) | (simp only [SS, Nat.reduceEqDiff, Nat.reduceAdd, iput, puts, FF, frzL_cat]; rfl)) (by first | exact l18Factor_fi ht hlf c hc.1 es ms f af hw le lm) ?_))
          exact ⟨_, rfl, hempty, fun _ _ h => h, .inl (by rw [if_pos h3, h3]; rfl)⟩
      · have e2 : fcode c es ms f = code (IsCat c) (Arr c f) := by
          unfold fcode code at *
          by_cases h1 : IsCat c
          · rw [if_pos h1] at h0 ⊢
            have : ¬ Arr c f := fun q => h0 (by rw [if_pos q])
            rw [if_neg (fun q => this q.1), if_pos h1, if_neg this]
          · rw [if_neg h1, if_neg h1]
        rw [← e2] at hf1 h0
        have z2 : (fcode c es ms f == 0) = false := by simpa using h0
        repeat (first | simp (disch := (first | rfl | with_reducible assumption | with_reducible solve_by_elim (maxDepth := 8) [Shape.inT, Shape.inI, Shape.inC, Shape.inK, Shape.obF, Shape.obT, Shape.arI, Arr.inF] | omega)) only [S2, Nat.reduceEqDiff, Nat.reduceAdd, iput, puts, z2] | (refine den_call rfl (by first | (simp only [SS, Nat.reduceEqDiff, Nat.reduceAdd, iput, puts, FF, frzL_cat]; done) | (simp only [SS, Nat.reduceEqDiff, Nat.reduceAdd, iput, puts, FF, frzL_cat]; rfl)) (by first | exact hf1) ?_) | (refine den_calli rfl (by first | (simp only [SS, Nat.reduceEqDiff, Nat.reduceAdd, iput, puts, FF, frzL_cat]; done) | (simp only [SS, Nat.reduceEqDiff, Nat.reduceAdd, iput, puts, FF, frzL_cat]; rfl)) (by first | exact hf1) ?_))
        repeat (first | simp (disch := (first | rfl | with_reducible assumption | with_reducible solve_by_elim (maxDepth := 8) [Shape.inT, Shape.inI, Shape.inC, Shape.inK, Shape.obF, Shape.obT, Shape.arI, Arr.inF] | omega)) only [S2, Nat.reduceEqDiff, Nat.reduceAdd, iput, puts, z2, h0] | (refine den_call rfl (by first | (simp only [SS, Nat.reduceEqDiff, Nat.reduceAdd, iput, puts, FF, frzL_cat]; done) | (simp only [SS, Nat.reduceEqDiff, Nat.reduceAdd, iput, puts, FF, frzL_cat]; rfl)) (by first | exact hf1) ?_) | (refine den_calli rfl (by first | (simp only [SS, Nat.reduceEqDiff, Nat.reduceAdd, iput, puts, FF, frzL_cat]; done) | (simp only [SS, Nat.reduceEqDiff, Nat.reduceAdd, iput, puts, FF, frzL_cat]; rfl)) (by first | exact hf1) ?_))
        first | exact ⟨_, rfl, hempty, fun _ _ h => h, .inr ⟨h0, rfl⟩⟩ | exact ⟨_, rfl, hempty, fun _ _ h => h, .inr rfl⟩
    · rintro r H' nx' (rfl | ⟨h0, rfl⟩)
      · show ([AV.sl _ _, int _].mapM (frz H' 5)).map AV.tup = _
        simp only [List.mapM_cons, List.mapM_nil, frz_sl, frz_int]; rfl
      · rw [if_neg h0]
        show ([AV.nil, int _].mapM (frz H' 5)).map AV.tup = _
        simp only [List.mapM_cons, List.mapM_nil, frz_nil, frz_int]; rfl
end Go.Av
