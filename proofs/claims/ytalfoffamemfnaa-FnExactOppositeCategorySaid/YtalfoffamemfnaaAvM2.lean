/-
  Arrows between two objects, isomorphic objects.
-/
import Derived.Test.YtalfoffamemfnaaAvM1
import Derived.Test.YtalfoffamemfnaaAvB5
namespace Go.Av
open Classical
set_option linter.unusedSimpArgs false
set_option linter.unusedVariables false
variable {P : Program} {ν : Nat → FuncId}

theorem selL_mem_iff {N : Nat} {p : Nat → Bool} {x : Int} : x ∈ selL N p ↔ ∃ k : Nat, x = k ∧ k < N ∧ p k = true := by
  constructor
  · exact selL_mem
  · rintro ⟨k, rfl, h1, h2⟩
    unfold selL
    simp only [List.mem_map, List.mem_filter, List.mem_range]
    exact ⟨k, ⟨h1, h2⟩, rfl⟩
section
variable {c : Cat} {x y : Int}
theorem Shape.homFz (s : Shape c) (hh : Has P ν 33 3 V_Category_hom) (x y : Int) : Fz (OkM P ν) 33 [.ptr c.cells 0, int x, int y] (islice (homL c x y)) := hom_fz hh c x y (by have := s.tl; omega) (by have := s.n40; omega)
theorem Shape.sHomFz (s : Shape c) (hh : Has P ν 309 3 V_spec_l02Hom) (x y : Int) : Fz (OkM P ν) 309 [.agg c.cells, int x, int y] (islice (homL c x y)) := l02Hom_fz hh c x y (by have := s.tl; omega) (by have := s.n40; omega)
theorem hom_arr {i : Nat} (h : i < (homL c x y).length) : Arr c ((homL c x y).getD i 0) := by have := homL_at h; exact ⟨this.1, this.2.1⟩
theorem hom_F {i : Nat} (h : i < (homL c x y).length) : c.F ((homL c x y).getD i 0) = x := (homL_at h).2.2.1
theorem hom_T {i : Nat} (h : i < (homL c x y).length) : c.T ((homL c x y).getD i 0) = y := (homL_at h).2.2.2
theorem mem_hom {f : Int} : f ∈ homL c x y ↔ Arr c f ∧ c.F f = x ∧ c.T f = y := by
  constructor
  · intro h; have := homL_mem h; exact ⟨⟨this.1, this.2.1⟩, this.2.2⟩
  · rintro ⟨h1, h2, h3⟩
    rw [homL]
    obtain ⟨n1, n2⟩ := h1.nat
    have := (selL_mem_iff (N := c.f.length) (p := fun k => c.F k == x && c.T k == y) (x := f)).2 ⟨f.toNat, n2.symm, n1, by rw [n2, h2, h3]; simp⟩
    exact this
end

theorem Shape.invFz {c : Cat} (s : Shape c) (hh : Has P ν 33 3 V_Category_hom) (ht : Has P ν 34 3 V_Category_then) (h : Has P ν 240 2 V_Category_inverse) {f : Int} (a : Arr c f) : Fz (OkM P ν) 240 [.ptr c.cells 0, int f] (int (inv c f)) := (inverse_ok hh ht h c s f a.1 a.2).fzi
theorem Shape.sThenFz {c : Cat} (s : Shape c) (ht : Has P ν 253 3 V_spec_l02Then) {f g : Int} (a : Arr c f) (b : Arr c g) : Fz (OkM P ν) 253 [.agg c.cells, int f, int g] (int (c.K f g)) := s.l02Then_fz ht f g a.1 a.2 b.1 b.2

def V_spec_l02Inverse : Vc :=
  .op true (.p .box [.t 0]) <|
  .op true (.p (.ld (some 5)) [.t 2]) <|
  .op true (.p (.fad 2) [.t 2]) <|
  .op true (.p (.ld none) [.t 4]) <|
  .op true (.p (.iad 1) [.t 5, .t 1]) <|
  .op true (.p (.ld none) [.t 6]) <|
  .op true (.p (.fad 1) [.t 2]) <|
  .op true (.p (.ld none) [.t 8]) <|
  .op true (.p (.iad 1) [.t 9, .t 1]) <|
  .op true (.p (.ld none) [.t 10]) <|
  .op true (.call (.f 309) [.t 3, .t 7, .t 11]) <|
  .loop 0 [.c (int 0)] <|
  .op true (.p .len [.t 12]) <|
  .op true (.p (.bin .lss) [.t 13, .t 14]) <|
  .br 15
   (.op true (.p (.ld (some 5)) [.t 2]) <|
   .op true (.p (.ld (some 5)) [.t 2]) <|
   .op true (.p (.iad 1) [.t 12, .t 13]) <|
   .op true (.p (.ld none) [.t 18]) <|
   .op true (.call (.f 253) [.t 17, .t 1, .t 19]) <|
   .op true (.call (.f 380) [.t 16, .t 20]) <|
   .br 21
    (.op true (.p (.ld (some 5)) [.t 2]) <|
    .op true (.p (.ld (some 5)) [.t 2]) <|
    .op true (.p (.iad 1) [.t 12, .t 13]) <|
    .op true (.p (.ld none) [.t 24]) <|
    .op true (.call (.f 253) [.t 23, .t 25, .t 1]) <|
    .op true (.call (.f 380) [.t 22, .t 26]) <|
    .br 27
     (.op true (.p (.iad 1) [.t 12, .t 13]) <|
     .op true (.p (.ld none) [.t 28]) <|
     .ret [(.t 29, none)])
     (.op true (.p (.bin .add) [.t 13, .c (int 1)]) <|
     .again 0 [.t 28]))
    (.op true (.p (.bin .add) [.t 13, .c (int 1)]) <|
    .again 0 [.t 22]))
   (.ret [(.c (int (-1)), none)])
theorem Shape.sInvFz {c : Cat} (s : Shape c) (hh : Has P ν 309 3 V_spec_l02Hom) (ht : Has P ν 253 3 V_spec_l02Then) (hu : Has P ν 380 2 V_spec_l02Unit) (h : Has P ν 423 2 V_spec_l02Inverse) {f : Int} (a : Arr c f) : Fz (OkM P ν) 423 [.agg c.cells, int f] (int (inv c f)) := by
  refine Fn.fzi fun H nx => h _ _ _ _ rfl fun hwf => ?_
  unfold V_spec_l02Inverse
  have n40 := s.n40
  repeat (first | simp (disch := (first | rfl | with_reducible assumption | with_reducible solve_by_elim (maxDepth := 8) [Shape.inT, Shape.inI, Shape.inC, Shape.inK, Shape.obF, Shape.obT, Shape.arI, Arr.inF] | omega)) only [S2, Nat.reduceEqDiff, Nat.reduceAdd, iput, puts] | (refine den_call rfl (by first | (simp only [SS, Nat.reduceEqDiff, Nat.reduceAdd, iput, puts, FF, frzL_cat]; done) | (simp only [SS, Nat.reduceEqDiff, Nat.reduceAdd, iput, puts, FF, frzL_cat]; rfl)) (by first | exact s.sHomFz hh (c.T f) (c.F f)) ?_) | (refine den_calli rfl (by first | (simp only [SS, Nat.reduceEqDiff, Nat.reduceAdd, iput, puts, FF, frzL_cat]; done) | (simp only [SS, Nat.reduceEqDiff, Nat.reduceAdd, iput, puts, FF, frzL_cat]; rfl)) (by first | exact s.sHomFz hh (c.T f) (c.F f)) ?_))
  have hlen := homL_len s (c.T f) (c.F f)
  refine den_for (homL c (c.T f) (c.F f)).length (fun i => ∀ k, k < i → (c.K f ((homL c (c.T f) (c.F f)).getD k 0) == c.I (c.F f) && c.K ((homL c (c.T f) (c.F f)).getD k 0) f == c.I (c.T f)) = false) (fun k hk => by omega) fun i hi hp => ?_
  by_cases hlt : i < (homL c (c.T f) (c.F f)).length
  · have i1 : In (homL c (c.T f) (c.F f)) (i : Int) := In.nat hlt
    have b := hom_arr hlt
    have eF := hom_F hlt
    have eT := hom_T hlt
    have k1 := s.arK a b eF.symm
    have k2 := s.arK b a eT
    repeat (first | simp (disch := (first | rfl | with_reducible assumption | with_reducible solve_by_elim (maxDepth := 8) [Shape.inT, Shape.inI, Shape.inC, Shape.inK, Shape.obF, Shape.obT, Shape.arI, Arr.inF] | omega)) only [S2, Nat.reduceEqDiff, Nat.reduceAdd, iput, puts, hlt, gI_nat] | (refine den_call rfl (by first | (simp only [SS, Nat.reduceEqDiff, Nat.reduceAdd, iput, puts, FF, frzL_cat]; done) | (simp only [SS, Nat.reduceEqDiff, Nat.reduceAdd, iput, puts, FF, frzL_cat]; rfl)) (by first | exact s.sThenFz ht a b | exact s.sThenFz ht b a | exact s.unit_fz hu _ k1.1 k1.2 | exact s.unit_fz hu _ k2.1 k2.2) ?_) | (refine den_calli rfl (by first | (simp only [SS, Nat.reduceEqDiff, Nat.reduceAdd, iput, puts, FF, frzL_cat]; done) | (simp only [SS, Nat.reduceEqDiff, Nat.reduceAdd, iput, puts, FF, frzL_cat]; rfl)) (by first | exact s.sThenFz ht a b | exact s.sThenFz ht b a | exact s.unit_fz hu _ k1.1 k1.2 | exact s.unit_fz hu _ k2.1 k2.2) ?_))
    have u1 : (c.I (c.F (c.K f ((homL c (c.T f) (c.F f)).getD i 0))) == c.K f ((homL c (c.T f) (c.F f)).getD i 0)) = (c.K f ((homL c (c.T f) (c.F f)).getD i 0) == c.I (c.F f)) := by rw [s.kF a b eF.symm]; exact Bool.beq_comm
    have u2 : (c.I (c.F (c.K ((homL c (c.T f) (c.F f)).getD i 0) f)) == c.K ((homL c (c.T f) (c.F f)).getD i 0) f) = (c.K ((homL c (c.T f) (c.F f)).getD i 0) f == c.I (c.T f)) := by rw [s.kF b a eT, eF]; exact Bool.beq_comm
    have next : (c.K f ((homL c (c.T f) (c.F f)).getD i 0) == c.I (c.F f) && c.K ((homL c (c.T f) (c.F f)).getD i 0) f == c.I (c.T f)) = false → ∀ k, k < i + 1 → (c.K f ((homL c (c.T f) (c.F f)).getD k 0) == c.I (c.F f) && c.K ((homL c (c.T f) (c.F f)).getD k 0) f == c.I (c.T f)) = false := fun hb k hk => by
      by_cases e : k = i
      · subst e; exact hb
      · exact hp k (by omega)
    refine ⟨fun h1 => ?_, fun h1 => up rfl hlt (next (by rw [← u1, beq_eq_false_iff_ne.2 h1]; rfl))⟩
    repeat (first | simp (disch := (first | rfl | with_reducible assumption | with_reducible solve_by_elim (maxDepth := 8) [Shape.inT, Shape.inI, Shape.inC, Shape.inK, Shape.obF, Shape.obT, Shape.arI, Arr.inF] | omega)) only [S2, Nat.reduceEqDiff, Nat.reduceAdd, iput, puts, hlt, gI_nat] | (refine den_call rfl (by first | (simp only [SS, Nat.reduceEqDiff, Nat.reduceAdd, iput, puts, FF, frzL_cat]; done) | (simp only [SS, Nat.reduceEqDiff, Nat.reduceAdd, iput, puts, FF, frzL_cat]; rfl)) (by first | exact s.sThenFz ht a b | exact s.sThenFz ht b a | exact s.unit_fz hu _ k1.1 k1.2 | exact s.unit_fz hu _ k2.1 k2.2) ?_) | (refine den_calli rfl (by first | (simp only [SS, Nat.reduceEqDiff, Nat.reduceAdd, iput, puts, FF, frzL_cat]; done) | (simp only [SS, Nat.reduceEqDiff, Nat.reduceAdd, iput, puts, FF, frzL_cat]; rfl)) (by first | exact s.sThenFz ht a b | exact s.sThenFz ht b a | exact s.unit_fz hu _ k1.1 k1.2 | exact s.unit_fz hu _ k2.1 k2.2) ?_))
    refine ⟨fun h2 => ?_, fun h2 => up rfl hlt (next (by rw [← u2, beq_eq_false_iff_ne.2 h2]; simp))⟩
    try simp (disch := (first | rfl | with_reducible assumption | with_reducible solve_by_elim (maxDepth := 8) [Shape.inT, Shape.inI, Shape.inC, Shape.inK, Shape.obF, Shape.obT, Shape.arI, Arr.inF] | omega)) only [S2, Nat.reduceEqDiff, Nat.reduceAdd, iput, puts, hlt, gI_nat]
    refine ⟨_, rfl, H, fun _ _ h => h, ?_, rfl, Nat.le_refl _⟩
    rw [inv, findI_at hlt (by rw [← u1, ← u2, beq_iff_eq.2 h1, beq_iff_eq.2 h2]; rfl) hp]
    rfl
  · try simp (disch := (first | rfl | with_reducible assumption | with_reducible solve_by_elim (maxDepth := 8) [Shape.inT, Shape.inI, Shape.inC, Shape.inK, Shape.obF, Shape.obT, Shape.arI, Arr.inF] | omega)) only [S2, Nat.reduceEqDiff, Nat.reduceAdd, iput, puts, hlt]
    refine ⟨_, rfl, H, fun _ _ h => h, ?_, rfl, Nat.le_refl _⟩
    rw [inv, findI_none fun k hk => hp k (by omega)]
    rfl

/-- The first isomorphism between two objects, or -1. -/
def isoF (c : Cat) (x y : Int) : Int := findI (homL c x y) fun f => decide (0 ≤ inv c f)
theorem isoF_pos {c : Cat} {x y : Int} : 0 ≤ isoF c x y ↔ ∃ f ∈ homL c x y, 0 ≤ inv c f := by
  have h1 := findI_lo (homL c x y) (fun f => decide (0 ≤ inv c f)) fun f hf => (homL_mem hf).1
  rw [List.find?_eq_none] at h1
  constructor
  · intro h
    by_cases hn : ∃ f ∈ homL c x y, 0 ≤ inv c f
    · exact hn
    · have := h1.2 fun f hf => by simpa using fun h2 => hn ⟨f, hf, h2⟩
      unfold isoF at h; omega
  · rintro ⟨f, hf, h2⟩
    by_cases hn : 0 ≤ isoF c x y
    · exact hn
    · have := h1.1 (by unfold isoF at hn; omega) f hf
      simp at this; omega
def V_Category_isomorphic : Vc :=
  .op true (.call (.f 33) [.t 0, .t 1, .t 2]) <|
  .op true (.p .len [.t 3]) <|
  .loop 0 [.c (int 0)] <|
  .op true (.p (.bin .lss) [.t 5, .t 4]) <|
  .br 6
   (.op true (.p (.iad 1) [.t 3, .t 5]) <|
   .op true (.p (.ld none) [.t 7]) <|
   .op true (.call (.f 240) [.t 0, .t 8]) <|
   .op true (.p (.bin .geq) [.t 9, .c (int 0)]) <|
   .br 10
    (.ret [(.t 8, none)])
    (.op true (.p (.bin .add) [.t 5, .c (int 1)]) <|
    .again 0 [.t 11]))
   (.ret [(.c (int (-1)), none)])
theorem Shape.isoFz {c : Cat} (s : Shape c) (hh : Has P ν 33 3 V_Category_hom) (ht : Has P ν 34 3 V_Category_then) (hi : Has P ν 240 2 V_Category_inverse) (h : Has P ν 383 3 V_Category_isomorphic) (x y : Int) : Fz (OkM P ν) 383 [.ptr c.cells 0, int x, int y] (int (isoF c x y)) := by
  refine Fn.fzi fun H nx => h _ _ _ _ rfl fun hwf => ?_
  unfold V_Category_isomorphic
  repeat (first | simp (disch := (first | rfl | with_reducible assumption | with_reducible solve_by_elim (maxDepth := 8) [Shape.inT, Shape.inI, Shape.inC, Shape.inK, Shape.obF, Shape.obT, Shape.arI, Arr.inF] | omega)) only [S2, Nat.reduceEqDiff, Nat.reduceAdd, iput, puts] | (refine den_call rfl (by first | (simp only [SS, Nat.reduceEqDiff, Nat.reduceAdd, iput, puts, FF, frzL_cat]; done) | (simp only [SS, Nat.reduceEqDiff, Nat.reduceAdd, iput, puts, FF, frzL_cat]; rfl)) (by first | exact s.homFz hh x y) ?_) | (refine den_calli rfl (by first | (simp only [SS, Nat.reduceEqDiff, Nat.reduceAdd, iput, puts, FF, frzL_cat]; done) | (simp only [SS, Nat.reduceEqDiff, Nat.reduceAdd, iput, puts, FF, frzL_cat]; rfl)) (by first | exact s.homFz hh x y) ?_))
  have hlen := homL_len s x y
  refine den_for (homL c x y).length (fun i => ∀ k, k < i → decide (0 ≤ inv c ((homL c x y).getD k 0)) = false) (fun k hk => by omega) fun i hi' hp => ?_
  by_cases hlt : i < (homL c x y).length
  · have i1 : In (homL c x y) (i : Int) := In.nat hlt
    have a := hom_arr hlt
    repeat (first | simp (disch := (first | rfl | with_reducible assumption | with_reducible solve_by_elim (maxDepth := 8) [Shape.inT, Shape.inI, Shape.inC, Shape.inK, Shape.obF, Shape.obT, Shape.arI, Arr.inF] | omega)) only [S2, Nat.reduceEqDiff, Nat.reduceAdd, iput, puts, hlt, gI_nat] | (refine den_call rfl (by first | (simp only [SS, Nat.reduceEqDiff, Nat.reduceAdd, iput, puts, FF, frzL_cat]; done) | (simp only [SS, Nat.reduceEqDiff, Nat.reduceAdd, iput, puts, FF, frzL_cat]; rfl)) (by first | exact s.invFz hh ht hi a) ?_) | (refine den_calli rfl (by first | (simp only [SS, Nat.reduceEqDiff, Nat.reduceAdd, iput, puts, FF, frzL_cat]; done) | (simp only [SS, Nat.reduceEqDiff, Nat.reduceAdd, iput, puts, FF, frzL_cat]; rfl)) (by first | exact s.invFz hh ht hi a) ?_))
    refine ⟨fun h1 => ?_, fun h1 => up rfl hlt fun k hk => ?_⟩
    · refine ⟨_, rfl, H, fun _ _ h => h, ?_, rfl, Nat.le_refl _⟩
      rw [isoF, findI_at hlt (by simpa using h1) hp]; rfl
    · by_cases e : k = i
      · rw [e]; simpa using h1
      · have := hp k (by omega); simpa using this
  · try simp (disch := (first | rfl | with_reducible assumption | with_reducible solve_by_elim (maxDepth := 8) [Shape.inT, Shape.inI, Shape.inC, Shape.inK, Shape.obF, Shape.obT, Shape.arI, Arr.inF] | omega)) only [S2, Nat.reduceEqDiff, Nat.reduceAdd, iput, puts, hlt]
    refine ⟨_, rfl, H, fun _ _ h => h, ?_, rfl, Nat.le_refl _⟩
    rw [isoF, findI_none fun k hk => hp k (by omega)]; rfl
def V_spec_l06Alike : Vc :=
  .op true (.p .box [.t 0]) <|
  .op true (.p (.ld (some 5)) [.t 3]) <|
  .op true (.call (.f 309) [.t 4, .t 1, .t 2]) <|
  .loop 0 [.c (int 0)] <|
  .op true (.p .len [.t 5]) <|
  .op true (.p (.bin .lss) [.t 6, .t 7]) <|
  .br 8
   (.op true (.p (.ld (some 5)) [.t 3]) <|
   .op true (.p (.iad 1) [.t 5, .t 6]) <|
   .op true (.p (.ld none) [.t 10]) <|
   .op true (.call (.f 423) [.t 9, .t 11]) <|
   .op true (.p (.bin .geq) [.t 12, .c (int 0)]) <|
   .br 13
    (.ret [(.c (bool true), none)])
    (.op true (.p (.bin .add) [.t 6, .c (int 1)]) <|
    .again 0 [.t 14]))
   (.ret [(.c (bool false), none)])
theorem Shape.alikeFz {c : Cat} (s : Shape c) (hh : Has P ν 309 3 V_spec_l02Hom) (ht : Has P ν 253 3 V_spec_l02Then) (hu : Has P ν 380 2 V_spec_l02Unit) (hi : Has P ν 423 2 V_spec_l02Inverse) (h : Has P ν 408 3 V_spec_l06Alike) (x y : Int) : Fz (OkM P ν) 408 [.agg c.cells, int x, int y] (bool (decide (0 ≤ isoF c x y))) := by
  refine Fn.fzb fun H nx => h _ _ _ _ rfl fun hwf => ?_
  unfold V_spec_l06Alike
  repeat (first | simp (disch := (first | rfl | with_reducible assumption | with_reducible solve_by_elim (maxDepth := 8) [Shape.inT, Shape.inI, Shape.inC, Shape.inK, Shape.obF, Shape.obT, Shape.arI, Arr.inF] | omega)) only [S2, Nat.reduceEqDiff, Nat.reduceAdd, iput, puts] | (refine den_call rfl (by first | (simp only [SS, Nat.reduceEqDiff, Nat.reduceAdd, iput, puts, FF, frzL_cat]; done) | (simp only [SS, Nat.reduceEqDiff, Nat.reduceAdd, iput, puts, FF, frzL_cat]; rfl)) (by first | exact s.sHomFz hh x y) ?_) | (refine den_calli rfl (by first | (simp only [SS, Nat.reduceEqDiff, Nat.reduceAdd, iput, puts, FF, frzL_cat]; done) | (simp only [SS, Nat.reduceEqDiff, Nat.reduceAdd, iput, puts, FF, frzL_cat]; rfl)) (by first | exact s.sHomFz hh x y) ?_))
  have hlen := homL_len s x y
  refine den_for (homL c x y).length (fun i => ∀ k, k < i → ¬ 0 ≤ inv c ((homL c x y).getD k 0)) (fun k hk => by omega) fun i hi' hp => ?_
  by_cases hlt : i < (homL c x y).length
  · have i1 : In (homL c x y) (i : Int) := In.nat hlt
    have a := hom_arr hlt
    repeat (first | simp (disch := (first | rfl | with_reducible assumption | with_reducible solve_by_elim (maxDepth := 8) [Shape.inT, Shape.inI, Shape.inC, Shape.inK, Shape.obF, Shape.obT, Shape.arI, Arr.inF] | omega)) only [S2, Nat.reduceEqDiff, Nat.reduceAdd, iput, puts, hlt, gI_nat] | (refine den_call rfl (by first | (simp only [SS, Nat.reduceEqDiff, Nat.reduceAdd, iput, puts, FF, frzL_cat]; done) | (simp only [SS, Nat.reduceEqDiff, Nat.reduceAdd, iput, puts, FF, frzL_cat]; rfl)) (by first | exact s.sInvFz hh ht hu hi a) ?_) | (refine den_calli rfl (by first | (simp only [SS, Nat.reduceEqDiff, Nat.reduceAdd, iput, puts, FF, frzL_cat]; done) | (simp only [SS, Nat.reduceEqDiff, Nat.reduceAdd, iput, puts, FF, frzL_cat]; rfl)) (by first | exact s.sInvFz hh ht hu hi a) ?_))
    refine ⟨fun h1 => ?_, fun h1 => up rfl hlt fun k hk => ?_⟩
    · exact ⟨_, rfl, H, fun _ _ h => h, ret_true (isoF_pos.2 ⟨_, getD_mem hlt, h1⟩), rfl, Nat.le_refl _⟩
    · by_cases e : k = i
      · subst e; exact h1
      · exact hp k (by omega)
  · try simp (disch := (first | rfl | with_reducible assumption | with_reducible solve_by_elim (maxDepth := 8) [Shape.inT, Shape.inI, Shape.inC, Shape.inK, Shape.obF, Shape.obT, Shape.arI, Arr.inF] | omega)) only [S2, Nat.reduceEqDiff, Nat.reduceAdd, iput, puts, hlt]
    refine ⟨_, rfl, H, fun _ _ h => h, ret_false fun hm => ?_, rfl, Nat.le_refl _⟩
    obtain ⟨f, hf, h2⟩ := isoF_pos.1 hm
    obtain ⟨k, hk, e⟩ := List.getElem_of_mem hf
    exact hp k (by omega) (by simpa [hk, e] using h2)
end Go.Av
