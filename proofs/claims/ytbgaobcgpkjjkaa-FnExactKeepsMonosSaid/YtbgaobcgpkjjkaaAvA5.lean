/-
  SectionsOf: the program's and the reference's.
-/
import Derived.Test.YtbgaobcgpkjjkaaAvA4
namespace Go.Av
open Classical
set_option linter.unusedSimpArgs false
set_option linter.unusedVariables false
variable {P : Program} {ν : Nat → FuncId}

theorem Wn_one (f : Int) (n : Int) : Wn [f] n ↔ 0 ≤ f ∧ f < n := by
  constructor
  · intro h; exact h 0 (by simp)
  · intro h k hk; have : k = 0 := by simpa using hk
    subst this; exact h
theorem IsI.some (l : List Int) (H : Hp) (nx : Nat) : ∃ u H' nx', IsI l H nx u H' nx' := by
  by_cases e : l = []
  · exact ⟨.nil, H, nx, Nat.le_refl _, .inl ⟨e, rfl, rfl⟩⟩
  · exact ⟨_, _, nx + 1, Nat.le_succ _, .inr ⟨nx, Nat.le_refl _, Nat.lt_succ_self _, rfl, rfl⟩⟩
theorem IsI.nil (H : Hp) (nx : Nat) : IsI [] H nx .nil H nx := ⟨Nat.le_refl _, .inl ⟨rfl, rfl, rfl⟩⟩

def V_SectionsOf : Vc :=
  .op true (.p .box [.t 0]) <|
  .op true (.p (.msl 1 [int 0] [(0, 1)]) [.t 1]) <|
  .op true (.call (.f 18) [.t 2, .t 3]) <|
  .op true (.p (.bin .neq) [.t 4, .c (int 0)]) <|
  .br 5
   (.ret [(.c (.nil), none), (.t 4, none)])
   (.op true (.callm (.f 19) [.t 2, .t 1]) <|
   .ret [(.t 6, none), (.c (int 0), none)])
theorem SectionsOf_ok (K : HCat P ν) (hh : Has P ν 33 3 V_Category_hom) (hl : Has P ν 27 3 V_Category_lifts) (hs : Has P ν 19 2 V_Category_sections) (ha : Has P ν 18 2 V_arrowCode) (h : Has P ν 6 2 V_SectionsOf) (c : Cat) (b : Small c) (f : Int) (H : Hp) (nx : Nat) :
    OkM P ν 6 [.agg c.cells, int f] H nx (IsP (if IsCat c ∧ 0 ≤ f ∧ f < c.f.length then secL c f else []) (if IsCat c then if 0 ≤ f ∧ f < c.f.length then 0 else 2 else 1) H nx) := by
  refine h _ _ _ _ rfl fun hwf => ?_
  unfold V_SectionsOf
  simp only [SS, Nat.reduceEqDiff, Nat.reduceAdd, iput, puts, p_boxc]
  refine den_call (fc := (18, [])) rfl (by first | (simp only [SS, Nat.reduceEqDiff, Nat.reduceAdd, iput, puts, FF, frzL_cat]; done) | (simp only [SS, Nat.reduceEqDiff, Nat.reduceAdd, iput, puts, FF, frzL_cat]; rfl)) ((arrowCode_ok K ha c b [f] (by simp)).fzi) ?_
  simp only [SS, Nat.reduceEqDiff, Nat.reduceAdd, iput, puts, Wn_one]
  refine ⟨fun h1 => ⟨_, rfl, H, fun _ _ h => h, .nil, rfl, ?_⟩, fun h1 => ?_⟩
  · have : ¬ (IsCat c ∧ 0 ≤ f ∧ f < c.f.length) := fun ⟨e1, e2⟩ => h1 (by rw [if_pos e1, if_pos e2])
    rw [if_neg this]
    exact IsI.nil _ _
  · have e1 : IsCat c := by
      by_cases e : IsCat c
      · exact e
      · rw [if_neg e] at h1; cases h1
    have e2 : 0 ≤ f ∧ f < c.f.length := by
      by_cases e : 0 ≤ f ∧ f < c.f.length
      · exact e
      · rw [if_pos e1, if_neg e] at h1; cases h1
    refine den_callm (fc := (19, [])) rfl (sections_ok hh K.thn hl hs c e1.1 f e2.1 e2.2 H nx) (IsI.some _ _ _) fun u H' nx' hu => ?_
    refine ⟨_, rfl, H', fun _ _ h => h, u, ?_, ?_⟩
    · rw [if_pos e1, if_pos e2]; rfl
    · rw [if_pos ⟨e1, e2⟩]; exact hu

def V_spec_l05Arrow : Vc :=
  .op true (.p .box [.t 0]) <|
  .op true (.p (.bin .geq) [.t 1, .c (int 0)]) <|
  .br 3
   (.op true (.p (.fad 1) [.t 2]) <|
   .op true (.p (.ld none) [.t 4]) <|
   .op true (.p .len [.t 5]) <|
   .op true (.p (.bin .lss) [.t 1, .t 6]) <|
   .ret [(.t 7, none)])
   (.ret [(.c (bool false), none)])
theorem l05Arrow_ok (h : Has P ν 23 2 V_spec_l05Arrow) (c : Cat) (f : Int) : Fn P ν 23 [.agg c.cells, int f] (bool (decide (0 ≤ f ∧ f < c.f.length))) := by
  intro H nx
  refine h _ _ _ _ rfl fun hwf => ?_
  unfold V_spec_l05Arrow
  simp only [SS, Nat.reduceEqDiff, Nat.reduceAdd, iput, puts, p_boxc, cat1]
  refine ⟨fun h1 => ?_, fun h1 => ?_⟩
  · refine ⟨_, rfl, H, fun _ _ h => h, ?_, rfl, Nat.le_refl _⟩
    show bool (decide (f < c.f.length)) = _
    have : 0 ≤ f := h1
    simp [this]
  · exact ⟨_, rfl, H, fun _ _ h => h, ret_false (by omega), rfl, Nat.le_refl _⟩

def V_spec_l05Code : Vc :=
  .op true (.p .box [.t 0]) <|
  .op true (.p (.ld (some 5)) [.t 2]) <|
  .op true (.call (.f 22) [.t 3]) <|
  .op true (.p .bnot [.t 4]) <|
  .br 5
   (.ret [(.c (int 1), none)])
   (.op true (.p (.ld (some 5)) [.t 2]) <|
   .op true (.call (.f 23) [.t 6, .t 1]) <|
   .op true (.p .bnot [.t 7]) <|
   .br 8
    (.ret [(.c (int 2), none)])
    (.ret [(.c (int 0), none)]))
theorem l05Code_ok (K : HSpec P ν) (ha : Has P ν 23 2 V_spec_l05Arrow) (h : Has P ν 14 2 V_spec_l05Code) (c : Cat) (b : Small c) (f : Int) : Fn P ν 14 [.agg c.cells, int f] (int (if IsCat c then if 0 ≤ f ∧ f < c.f.length then 0 else 2 else 1)) := by
  intro H nx
  refine h _ _ _ _ rfl fun hwf => ?_
  unfold V_spec_l05Code
  simp only [SS, Nat.reduceEqDiff, Nat.reduceAdd, iput, puts, p_boxc, p_ldc]
  refine den_call (fc := (22, [])) rfl (by first | (simp only [SS, Nat.reduceEqDiff, Nat.reduceAdd, iput, puts, FF, frzL_cat]; done) | (simp only [SS, Nat.reduceEqDiff, Nat.reduceAdd, iput, puts, FF, frzL_cat]; rfl)) ((l02Is_ok K c b).fzb) ?_
  simp only [SS, Nat.reduceEqDiff, Nat.reduceAdd, iput, puts, p_ldc]
  refine ⟨fun h1 => ?_, fun h1 => ?_⟩
  · exact ⟨_, rfl, H, fun _ _ h => h, by rw [if_neg h1]; rfl, rfl, Nat.le_refl _⟩
  refine den_call (fc := (23, [])) rfl (by first | (simp only [SS, Nat.reduceEqDiff, Nat.reduceAdd, iput, puts, FF, frzL_cat]; done) | (simp only [SS, Nat.reduceEqDiff, Nat.reduceAdd, iput, puts, FF, frzL_cat]; rfl)) ((l05Arrow_ok ha c f).fzb) ?_
  simp only [SS, Nat.reduceEqDiff, Nat.reduceAdd, iput, puts]
  refine ⟨fun h2 => ?_, fun h2 => ?_⟩
  · exact ⟨_, rfl, H, fun _ _ h => h, by rw [if_pos h1, if_neg h2]; rfl, rfl, Nat.le_refl _⟩
  · exact ⟨_, rfl, H, fun _ _ h => h, by rw [if_pos h1, if_pos h2]; rfl, rfl, Nat.le_refl _⟩

/-- The two sides' lists. -/
theorem secL_eq {c : Cat} (s : Shape c) {f : Int} (f0 : 0 ≤ f) (f1 : f < c.f.length) : secL c f = selL c.f.length fun k => (c.F k == c.T f && c.T k == c.F f) && c.K k f == c.I (c.T f) := by
  have f2 : f.toNat < c.f.length := by omega
  have f3 : ((f.toNat : Nat) : Int) = f := by omega
  obtain ⟨a1, a2⟩ := s.tLt f2
  rw [f3] at a1 a2
  have hid := s.id (c.T f).toNat (by omega)
  have : c.F (c.I (c.T f)) = c.T f := by rw [Cat.I, hid.1]; omega
  simp only [secL, liftsL, homL, selL_filter, this]

def V_spec_l05Sections : Vc :=
  .op true (.p .box [.t 0]) <|
  .op true (.p (.msl 0 [] []) []) <|
  .loop 0 [.t 3, .c (int 0)] <|
  .op true (.p (.fad 1) [.t 2]) <|
  .op true (.p (.ld none) [.t 6]) <|
  .op true (.p .len [.t 7]) <|
  .op true (.p (.bin .lss) [.t 5, .t 8]) <|
  .br 9
   (.op true (.p (.fad 1) [.t 2]) <|
   .op true (.p (.ld none) [.t 10]) <|
   .op true (.p (.iad 1) [.t 11, .t 5]) <|
   .op true (.p (.ld none) [.t 12]) <|
   .op true (.p (.fad 2) [.t 2]) <|
   .op true (.p (.ld none) [.t 14]) <|
   .op true (.p (.iad 1) [.t 15, .t 1]) <|
   .op true (.p (.ld none) [.t 16]) <|
   .op true (.p (.bin .eql) [.t 13, .t 17]) <|
   .br 18
    (.op true (.p (.fad 2) [.t 2]) <|
    .op true (.p (.ld none) [.t 19]) <|
    .op true (.p (.iad 1) [.t 20, .t 5]) <|
    .op true (.p (.ld none) [.t 21]) <|
    .op true (.p (.fad 1) [.t 2]) <|
    .op true (.p (.ld none) [.t 23]) <|
    .op true (.p (.iad 1) [.t 24, .t 1]) <|
    .op true (.p (.ld none) [.t 25]) <|
    .op true (.p (.bin .eql) [.t 22, .t 26]) <|
    .br 27
     (.op true (.p (.fad 4) [.t 2]) <|
     .op true (.p (.ld none) [.t 28]) <|
     .op true (.p (.iad 1) [.t 29, .t 5]) <|
     .op true (.p (.ld none) [.t 30]) <|
     .op true (.p (.iad 1) [.t 31, .t 1]) <|
     .op true (.p (.ld none) [.t 32]) <|
     .op true (.p (.fad 3) [.t 2]) <|
     .op true (.p (.ld none) [.t 34]) <|
     .op true (.p (.fad 2) [.t 2]) <|
     .op true (.p (.ld none) [.t 36]) <|
     .op true (.p (.iad 1) [.t 37, .t 1]) <|
     .op true (.p (.ld none) [.t 38]) <|
     .op true (.p (.iad 1) [.t 35, .t 39]) <|
     .op true (.p (.ld none) [.t 40]) <|
     .op true (.p (.bin .eql) [.t 33, .t 41]) <|
     .br 42
      (.op true (.p (.msl 1 [int 0] [(0, 1)]) [.t 5]) <|
      .op true (.app 1 (.t 4) (.t 43)) <|
      .op true (.p (.bin .add) [.t 5, .c (int 1)]) <|
      .again 0 [.t 44, .t 45])
      (.op true (.p (.bin .add) [.t 5, .c (int 1)]) <|
      .again 0 [.t 4, .t 43]))
     (.op true (.p (.bin .add) [.t 5, .c (int 1)]) <|
     .again 0 [.t 4, .t 28]))
    (.op true (.p (.bin .add) [.t 5, .c (int 1)]) <|
    .again 0 [.t 4, .t 19]))
   (.ret [(.t 4, none)])
theorem l05Sections_ok (h : Has P ν 15 2 V_spec_l05Sections) (c : Cat) (s : Shape c) (f : Int) (f0 : 0 ≤ f) (f1 : f < c.f.length) (H : Hp) (nx : Nat) :
    OkM P ν 15 [.agg c.cells, int f] H nx (IsI (secL c f) H nx) := by
  refine h _ _ _ _ rfl fun hwf => ?_
  unfold V_spec_l05Sections
  simp only [SS, Nat.reduceEqDiff, Nat.reduceAdd, iput, puts, p_boxc]
  rw [secL_eq s f0 f1]
  have n40 := s.n40
  have tl := s.tl
  have cl := s.cl
  have f2 : f.toNat < c.f.length := by omega
  obtain ⟨a1, a2⟩ := s.tLt f2
  simp only [Cat.T, Int.toNat_natCast] at a1 a2
  have a3 : (c.t.getD f.toNat 0).toNat < c.i.length := by omega
  refine den_loop (α := Nat × AV) (fun a => [a.2, int a.1]) (fun a H' nx' => a.1 ≤ c.f.length ∧ IsI (selL a.1 fun k => (c.F k == c.T f && c.T k == c.F f) && c.K k f == c.I (c.T f)) H nx a.2 H' nx') (fun a => c.f.length - a.1) (0, .nil) ?_ ?_ ?_
  · simp only [SS, Nat.reduceEqDiff, Nat.reduceAdd, iput, puts]; rfl
  · exact ⟨Nat.zero_le _, Nat.le_refl _, .inl ⟨rfl, rfl, rfl⟩⟩
  · rintro ⟨i, v⟩ H' nx' ⟨hi, hI⟩
    simp only at hi hI
    have hs := selL_succ i fun k => (c.F k == c.T f && c.T k == c.F f) && c.K k f == c.I (c.T f)
    have hl := selL_len i fun k => (c.F k == c.T f && c.T k == c.F f) && c.K k f == c.I (c.T f)
    by_cases hlt : i < c.f.length
    · have r1 := s.rowLen (a := i) (by omega) (by omega)
      simp only [Int.toNat_natCast] at r1
      simp only [SS, Nat.reduceEqDiff, Nat.reduceAdd, iput, puts, cat1, cat2, cat3, cat4, hlt, tl, cl, f0, f1, f2, a1, a2, a3, r1, wrap_succ (show i < 9223372036854775807 by omega), not_true_eq_false]
      have skip : ¬ (c.F i = c.T f ∧ c.T i = c.F f ∧ c.K i f = c.I (c.T f)) → ∃ a' : Nat × AV, [v, int ((i + 1 : Nat) : Int)] = [a'.2, int a'.1] ∧ (a'.1 ≤ c.f.length ∧ IsI (selL a'.1 fun k => (c.F k == c.T f && c.T k == c.F f) && c.K k f == c.I (c.T f)) H nx a'.2 H' nx') ∧ c.f.length - a'.1 < c.f.length - i := fun hb => by
        have : ((c.F i == c.T f && c.T i == c.F f) && c.K i f == c.I (c.T f)) = false := by
          rw [Bool.eq_false_iff]; intro hh; simp only [Bool.and_eq_true, beq_iff_eq] at hh; exact hb ⟨hh.1.1, hh.1.2, hh.2⟩
        refine ⟨(i + 1, v), rfl, ⟨by simp only; omega, ?_⟩, by simp only; omega⟩
        simp only [hs, this]
        simpa using hI
      refine ⟨fun h1 => ⟨fun h2 => ⟨fun h3 => ?_, fun h3 => ?_⟩, fun h2 => ?_⟩, fun h1 => ?_⟩
      · refine den_appI (m := [(i : Int)]) (H0 := H) (nx0 := nx) hI rfl (by simp) (by simp; omega) fun v2 H2 nx2 hI2 => ?_
        simp only [SS, Nat.reduceEqDiff, Nat.reduceAdd, iput, puts, wrap_succ (show i < 9223372036854775807 by omega)]
        refine ⟨(i + 1, v2), rfl, ⟨by simp only; omega, ?_⟩, by simp only; omega⟩
        have : ((c.F i == c.T f && c.T i == c.F f) && c.K i f == c.I (c.T f)) = true := by
          simp only [Bool.and_eq_true, beq_iff_eq]; exact ⟨⟨h1, h2⟩, h3⟩
        simp only [hs, this]
        simpa using hI2
      · exact skip fun hb => h3 hb.2.2
      · exact skip fun hb => h2 hb.2.1
      · exact skip fun hb => h1 hb.1
    · have hi' : i = c.f.length := by omega
      subst hi'
      simp only [SS, Nat.reduceEqDiff, Nat.reduceAdd, iput, puts, cat1, hlt, not_false_eq_true]
      exact ⟨v, rfl, H', fun _ _ h => h, hI⟩

def V_spec_SectionsOf : Vc :=
  .op true (.p .box [.t 0]) <|
  .op true (.p (.ld (some 5)) [.t 2]) <|
  .op true (.call (.f 14) [.t 3, .t 1]) <|
  .op true (.p (.bin .neq) [.t 4, .c (int 0)]) <|
  .br 5
   (.ret [(.c (.nil), none), (.t 4, none)])
   (.op true (.p (.ld (some 5)) [.t 2]) <|
   .op true (.callm (.f 15) [.t 6, .t 1]) <|
   .ret [(.t 7, none), (.c (int 0), none)])
theorem sSectionsOf_ok (K : HSpec P ν) (ha : Has P ν 23 2 V_spec_l05Arrow) (hc : Has P ν 14 2 V_spec_l05Code) (hs : Has P ν 15 2 V_spec_l05Sections) (h : Has P ν 4 2 V_spec_SectionsOf) (c : Cat) (b : Small c) (f : Int) (H : Hp) (nx : Nat) :
    OkM P ν 4 [.agg c.cells, int f] H nx (IsP (if IsCat c ∧ 0 ≤ f ∧ f < c.f.length then secL c f else []) (if IsCat c then if 0 ≤ f ∧ f < c.f.length then 0 else 2 else 1) H nx) := by
  refine h _ _ _ _ rfl fun hwf => ?_
  unfold V_spec_SectionsOf
  simp only [SS, Nat.reduceEqDiff, Nat.reduceAdd, iput, puts, p_boxc, p_ldc]
  refine den_call (fc := (14, [])) rfl (by first | (simp only [SS, Nat.reduceEqDiff, Nat.reduceAdd, iput, puts, FF, frzL_cat]; done) | (simp only [SS, Nat.reduceEqDiff, Nat.reduceAdd, iput, puts, FF, frzL_cat]; rfl)) ((l05Code_ok K ha hc c b f).fzi) ?_
  simp only [SS, Nat.reduceEqDiff, Nat.reduceAdd, iput, puts, p_ldc]
  refine ⟨fun h1 => ⟨_, rfl, H, fun _ _ h => h, .nil, rfl, ?_⟩, fun h1 => ?_⟩
  · have : ¬ (IsCat c ∧ 0 ≤ f ∧ f < c.f.length) := fun ⟨e1, e2⟩ => h1 (by rw [if_pos e1, if_pos e2])
    rw [if_neg this]
    exact IsI.nil _ _
  · have e1 : IsCat c := by
      by_cases e : IsCat c
      · exact e
      · rw [if_neg e] at h1; cases h1
    have e2 : 0 ≤ f ∧ f < c.f.length := by
      by_cases e : 0 ≤ f ∧ f < c.f.length
      · exact e
      · rw [if_pos e1, if_neg e] at h1; cases h1
    refine den_callm (fc := (15, [])) rfl (l05Sections_ok hs c e1.1 f e2.1 e2.2 H nx) (IsI.some _ _ _) fun u H' nx' hu => ?_
    refine ⟨_, rfl, H', fun _ _ h => h, u, ?_, ?_⟩
    · rw [if_pos e1, if_pos e2]; rfl
    · rw [if_pos ⟨e1, e2⟩]; exact hu
end Go.Av
