/-
  Inverses: the program's and the reference's.
-/
import Derived.Test.YtalfoffamemfnaaAvB1
namespace Go.Av
open Classical
set_option linter.unusedSimpArgs false
set_option linter.unusedVariables false
variable {P : Program} {ν : Nat → FuncId}

/-- The first element that meets q, or -1. -/
def findI (l : List Int) (q : Int → Bool) : Int := (l.find? q).getD (-1)
theorem findI_at {l : List Int} {q : Int → Bool} {i : Nat} (hi : i < l.length) (hq : q (l.getD i 0) = true) (hlt : ∀ k, k < i → q (l.getD k 0) = false) : findI l q = l.getD i 0 := by
  induction l generalizing i with
  | nil => simp at hi
  | cons a l ih =>
    cases i with
    | zero => simp only [List.getD_cons_zero] at hq ⊢; simp [findI, List.find?_cons, hq]
    | succ i =>
      have h0 := hlt 0 (by omega)
      simp only [List.getD_cons_zero] at h0
      simp only [List.getD_cons_succ] at hq ⊢
      have := ih (i := i) (by simpa using hi) hq (fun k hk => by have := hlt (k + 1) (by omega); simpa using this)
      simpa [findI, List.find?_cons, h0] using this
theorem findI_none {l : List Int} {q : Int → Bool} (h : ∀ k, k < l.length → q (l.getD k 0) = false) : findI l q = -1 := by
  have : l.find? q = none := by
    rw [List.find?_eq_none]
    intro x hx
    obtain ⟨k, hk, rfl⟩ := List.getElem_of_mem hx
    have := h k hk
    simp [List.getD, hk] at this
    simp [this]
  simp [findI, this]
theorem findI_filter (l : List Int) (p q : Int → Bool) : findI (l.filter p) q = findI l fun x => p x && q x := by
  simp only [findI, List.find?_filter]
  rw [show (fun a => decide (p a = true ∧ q a = true)) = fun x => p x && q x from by funext x; cases p x <;> cases q x <;> rfl]
theorem findI_congr {l : List Int} {p q : Int → Bool} (h : ∀ x ∈ l, p x = q x) : findI l p = findI l q := by
  have : l.find? p = l.find? q := by
    induction l with
    | nil => rfl
    | cons a l ih =>
      rw [List.find?_cons, List.find?_cons, h a (List.mem_cons_self ..), ih fun x hx => h x (List.mem_cons_of_mem _ hx)]
  simp only [findI, this]
theorem findI_lo (l : List Int) (q : Int → Bool) (h : ∀ x ∈ l, 0 ≤ x) : findI l q < 0 ↔ l.find? q = none := by
  cases hf : l.find? q with
  | none => simp [findI, hf]
  | some x => have := h x (List.mem_of_find?_eq_some hf); simp [findI, hf]; omega

def inv (c : Cat) (f : Int) : Int := findI (homL c (c.T f) (c.F f)) fun g => c.K f g == c.I (c.F f) && c.K g f == c.I (c.T f)
theorem inv_range {c : Cat} {f : Int} : -1 ≤ inv c f ∧ inv c f < c.f.length := by
  unfold inv findI
  cases hf : (homL c (c.T f) (c.F f)).find? fun g => c.K f g == c.I (c.F f) && c.K g f == c.I (c.T f) with
  | none => simp; omega
  | some x => have := homL_mem (List.mem_of_find?_eq_some hf); simp; omega

def V_Category_inverse : Vc :=
  .op true (.p .nck [.t 0]) <|
  .op true (.p (.fad 1) [.t 2]) <|
  .op true (.p (.ld none) [.t 3]) <|
  .op true (.p (.iad 1) [.t 4, .t 1]) <|
  .op true (.p (.ld none) [.t 5]) <|
  .op true (.p .nck [.t 0]) <|
  .op true (.p (.fad 2) [.t 7]) <|
  .op true (.p (.ld none) [.t 8]) <|
  .op true (.p (.iad 1) [.t 9, .t 1]) <|
  .op true (.p (.ld none) [.t 10]) <|
  .op true (.call (.f 33) [.t 0, .t 11, .t 6]) <|
  .op true (.p .len [.t 12]) <|
  .loop 0 [.c (int 0)] <|
  .op true (.p (.bin .lss) [.t 14, .t 13]) <|
  .br 15
   (.op true (.p (.iad 1) [.t 12, .t 14]) <|
   .op true (.p (.ld none) [.t 16]) <|
   .op true (.call (.f 34) [.t 0, .t 1, .t 17]) <|
   .op true (.p .nck [.t 0]) <|
   .op true (.p (.fad 3) [.t 19]) <|
   .op true (.p (.ld none) [.t 20]) <|
   .op true (.p (.iad 1) [.t 21, .t 6]) <|
   .op true (.p (.ld none) [.t 22]) <|
   .op true (.p (.bin .eql) [.t 18, .t 23]) <|
   .br 24
    (.op true (.call (.f 34) [.t 0, .t 17, .t 1]) <|
    .op true (.p .nck [.t 0]) <|
    .op true (.p (.fad 3) [.t 26]) <|
    .op true (.p (.ld none) [.t 27]) <|
    .op true (.p (.iad 1) [.t 28, .t 11]) <|
    .op true (.p (.ld none) [.t 29]) <|
    .op true (.p (.bin .eql) [.t 25, .t 30]) <|
    .br 31
     (.ret [(.t 17, none)])
     (.op true (.p (.bin .add) [.t 14, .c (int 1)]) <|
     .again 0 [.t 32]))
    (.op true (.p (.bin .add) [.t 14, .c (int 1)]) <|
    .again 0 [.t 25]))
   (.ret [(.c (int (-1)), none)])
theorem inverse_ok (hh : Has P ν 33 3 V_Category_hom) (ht : Has P ν 34 3 V_Category_then) (h : Has P ν 240 2 V_Category_inverse) (c : Cat) (s : Shape c) (f : Int) (f0 : 0 ≤ f) (f1 : f < c.f.length) : Fn P ν 240 [.ptr c.cells 0, int f] (int (inv c f)) := by
  intro H nx
  refine h _ _ _ _ rfl fun hwf => ?_
  unfold V_Category_inverse
  have n40 := s.n40
  have tl := s.tl
  have f2 : f.toNat < c.f.length := by omega
  obtain ⟨a1, a2⟩ := s.fLt f2
  obtain ⟨b1, b2⟩ := s.tLt f2
  simp only [Cat.F, Cat.T, Int.toNat_natCast] at a1 a2 b1 b2
  have a3 : (c.f.getD f.toNat 0).toNat < c.i.length := by omega
  have b3 : (c.t.getD f.toNat 0).toNat < c.i.length := by omega
  simp only [SS, Nat.reduceEqDiff, Nat.reduceAdd, iput, puts, cat1, cat2, tl, f0, f1, f2]
  refine den_call (fc := (33, [])) rfl (by first | (simp only [SS, Nat.reduceEqDiff, Nat.reduceAdd, iput, puts, FF, frzL_cat]; done) | (simp only [SS, Nat.reduceEqDiff, Nat.reduceAdd, iput, puts, FF, frzL_cat]; rfl)) (hom_fz hh c (c.T f) (c.F f) (by omega) (by omega)) ?_
  simp only [SS, Nat.reduceEqDiff, Nat.reduceAdd, iput, puts]
  have hlen := selL_len c.f.length fun k => c.F k == c.T f && c.T k == c.F f
  generalize hl : homL c (c.T f) (c.F f) = l
  have hm : ∀ i, i < l.length → 0 ≤ l.getD i 0 ∧ l.getD i 0 < c.f.length := fun i hi => by
    have := getD_mem hi
    rw [← hl] at this
    have := homL_mem this
    rw [hl] at this
    exact ⟨this.1, this.2.1⟩
  have hlen' : l.length ≤ 40 := by rw [← hl]; exact Nat.le_trans hlen n40
  have hinv : inv c f = findI l fun g => c.K f g == c.I (c.F f) && c.K g f == c.I (c.T f) := by rw [inv, hl]
  rw [hinv]
  refine den_for l.length (fun i => ∀ k, k < i → (c.K f (l.getD k 0) == c.I (c.F f) && c.K (l.getD k 0) f == c.I (c.T f)) = false) (fun k hk => by omega) fun i hi hp => ?_
  by_cases hlt : i < l.length
  · obtain ⟨m1, m2⟩ := hm i hlt
    simp only [SS, Nat.reduceEqDiff, Nat.reduceAdd, iput, puts, hlt]
    refine den_call (fc := (34, [])) rfl (by first | (simp only [SS, Nat.reduceEqDiff, Nat.reduceAdd, iput, puts, FF, frzL_cat]; done) | (simp only [SS, Nat.reduceEqDiff, Nat.reduceAdd, iput, puts, FF, frzL_cat]; rfl)) (s.then_fz ht f (l.getD i 0) f0 f1 m1 m2) ?_
    simp only [SS, Nat.reduceEqDiff, Nat.reduceAdd, iput, puts, cat3, a1, a2, a3, wrap_succ (show i < 9223372036854775807 by omega)]
    have next : (c.K f (l.getD i 0) == c.I (c.F f) && c.K (l.getD i 0) f == c.I (c.T f)) = false → ∀ k, k < i + 1 → (c.K f (l.getD k 0) == c.I (c.F f) && c.K (l.getD k 0) f == c.I (c.T f)) = false := fun hb k hk => by
      by_cases e : k = i
      · subst e; exact hb
      · exact hp k (by omega)
    refine ⟨fun h1 => ?_, fun h1 => up rfl hlt (next (by rw [show (c.K f (l.getD i 0) == c.I (c.F f)) = false from beq_eq_false_iff_ne.2 h1]; rfl))⟩
    refine den_call (fc := (34, [])) rfl (by first | (simp only [SS, Nat.reduceEqDiff, Nat.reduceAdd, iput, puts, FF, frzL_cat]; done) | (simp only [SS, Nat.reduceEqDiff, Nat.reduceAdd, iput, puts, FF, frzL_cat]; rfl)) (s.then_fz ht (l.getD i 0) f m1 m2 f0 f1) ?_
    simp only [SS, Nat.reduceEqDiff, Nat.reduceAdd, iput, puts, cat3, b1, b2, b3, wrap_succ (show i < 9223372036854775807 by omega)]
    refine ⟨fun h2 => ?_, fun h2 => up rfl hlt (next (by rw [show (c.K (l.getD i 0) f == c.I (c.T f)) = false from beq_eq_false_iff_ne.2 h2]; simp))⟩
    refine ⟨_, rfl, H, fun _ _ h => h, ?_, rfl, Nat.le_refl _⟩
    rw [findI_at hlt (by simp only [Bool.and_eq_true, beq_iff_eq]; exact ⟨h1, h2⟩) hp]
    rfl
  · simp only [SS, Nat.reduceEqDiff, Nat.reduceAdd, iput, puts, hlt]
    refine ⟨_, rfl, H, fun _ _ h => h, ?_, rfl, Nat.le_refl _⟩
    rw [findI_none fun k hk => hp k (by omega)]
    rfl

def V_spec_l01Has : Vc :=
  .loop 0 [.c (int 0)] <|
  .op true (.p .len [.t 0]) <|
  .op true (.p (.bin .lss) [.t 2, .t 3]) <|
  .br 4
   (.op true (.p (.iad 1) [.t 0, .t 2]) <|
   .op true (.p (.ld none) [.t 5]) <|
   .op true (.p (.bin .eql) [.t 6, .t 1]) <|
   .br 7
    (.ret [(.c (bool true), none)])
    (.op true (.p (.bin .add) [.t 2, .c (int 1)]) <|
    .again 0 [.t 8]))
   (.ret [(.c (bool false), none)])
theorem l01Has_ok (h : Has P ν 262 2 V_spec_l01Has) (l : List Int) (x : Int) (hl : l.length < 9223372036854775807) : Fn P ν 262 [islice l, int x] (bool (decide (x ∈ l))) := by
  intro H nx
  refine h _ _ _ _ rfl fun hwf => ?_
  unfold V_spec_l01Has
  refine den_for l.length (fun i => ∀ k, k < i → l.getD k 0 ≠ x) (fun k hk => by omega) fun i hi hp => ?_
  by_cases hlt : i < l.length
  · simp only [SS, Nat.reduceEqDiff, Nat.reduceAdd, iput, puts, hlt, wrap_succ (Nat.lt_trans hlt hl)]
    refine ⟨fun h1 => ?_, fun h1 => up rfl hlt fun k hk => ?_⟩
    · exact ⟨_, rfl, H, fun _ _ h => h, ret_true (by rw [← h1]; exact getD_mem hlt), rfl, Nat.le_refl _⟩
    · by_cases e : k = i
      · subst e; exact h1
      · exact hp k (by omega)
  · simp only [SS, Nat.reduceEqDiff, Nat.reduceAdd, iput, puts, hlt]
    refine ⟨_, rfl, H, fun _ _ h => h, ret_false fun hx => ?_, rfl, Nat.le_refl _⟩
    obtain ⟨k, hk, e⟩ := List.getElem_of_mem hx
    exact hp k (by omega) (by simpa [List.getD, hk] using e)

theorem inv_eq {c : Cat} (s : Shape c) {f : Int} (f0 : 0 ≤ f) (f1 : f < c.f.length) : inv c f = findI (retL c f) fun h => decide (h ∈ secL c f) := by
  have f2 : f.toNat < c.f.length := by omega
  have f3 : ((f.toNat : Nat) : Int) = f := by omega
  obtain ⟨a1, a2⟩ := s.fLt f2
  rw [f3] at a1 a2
  have hid := s.id (c.F f).toNat (by omega)
  have e1 : c.T (c.I (c.F f)) = c.F f := by rw [Cat.I, hid.2]; omega
  rw [inv, retL, extL, e1, findI_filter]
  refine findI_congr fun x hx => ?_
  obtain ⟨x0, x1, x2, x3⟩ := homL_mem hx
  congr 1
  rw [secL_eq s f0 f1]
  have hmem : (x ∈ selL c.f.length fun k => (c.F k == c.T f && c.T k == c.F f) && c.K k f == c.I (c.T f)) ↔ c.K x f = c.I (c.T f) := by
    constructor
    · intro h
      obtain ⟨k, rfl, _, h2⟩ := selL_mem h
      simp only [Bool.and_eq_true, beq_iff_eq] at h2
      exact h2.2
    · intro h
      simp only [selL, List.mem_map, List.mem_filter, List.mem_range]
      exact ⟨x.toNat, ⟨by omega, by
        have : ((x.toNat : Nat) : Int) = x := by omega
        simp only [this, Bool.and_eq_true, beq_iff_eq]
        exact ⟨⟨x2, x3⟩, h⟩⟩, by omega⟩
  by_cases e : c.K x f = c.I (c.T f)
  · rw [decide_eq_true (hmem.2 e)]; simpa using e
  · rw [decide_eq_false (fun h => e (hmem.1 h))]; simpa using e

def V_spec_l05Inverse : Vc :=
  .op true (.p .box [.t 0]) <|
  .op true (.p (.ld (some 5)) [.t 2]) <|
  .op true (.call (.f 237) [.t 3, .t 1]) <|
  .op true (.p (.ld (some 5)) [.t 2]) <|
  .op true (.call (.f 15) [.t 5, .t 1]) <|
  .loop 0 [.c (int 0)] <|
  .op true (.p .len [.t 4]) <|
  .op true (.p (.bin .lss) [.t 7, .t 8]) <|
  .br 9
   (.op true (.p (.iad 1) [.t 4, .t 7]) <|
   .op true (.p (.ld none) [.t 10]) <|
   .op true (.call (.f 262) [.t 6, .t 11]) <|
   .br 12
    (.op true (.p (.iad 1) [.t 4, .t 7]) <|
    .op true (.p (.ld none) [.t 13]) <|
    .ret [(.t 14, none)])
    (.op true (.p (.bin .add) [.t 7, .c (int 1)]) <|
    .again 0 [.t 13]))
   (.ret [(.c (int (-1)), none)])
theorem l05Inverse_ok (hr : Has P ν 237 2 V_spec_l05Retractions) (hs : Has P ν 15 2 V_spec_l05Sections) (hh : Has P ν 262 2 V_spec_l01Has) (h : Has P ν 239 2 V_spec_l05Inverse) (c : Cat) (s : Shape c) (f : Int) (f0 : 0 ≤ f) (f1 : f < c.f.length) : Fn P ν 239 [.agg c.cells, int f] (int (inv c f)) := by
  intro H nx
  refine h _ _ _ _ rfl fun hwf => ?_
  unfold V_spec_l05Inverse
  have n40 := s.n40
  simp only [SS, Nat.reduceEqDiff, Nat.reduceAdd, iput, puts, p_boxc, p_ldc]
  have z1 : Fz (OkM P ν) 237 [.agg c.cells, int f] (islice (retL c f)) := OkM.fz (fun H nx => l05Retractions_ok hr c s f f0 f1 H nx) fun _ _ _ hh => hh.frz _
  have z2 : Fz (OkM P ν) 15 [.agg c.cells, int f] (islice (secL c f)) := OkM.fz (fun H nx => l05Sections_ok hs c s f f0 f1 H nx) fun _ _ _ hh => hh.frz _
  refine den_call (fc := (237, [])) rfl (by first | (simp only [SS, Nat.reduceEqDiff, Nat.reduceAdd, iput, puts, FF, frzL_cat]; done) | (simp only [SS, Nat.reduceEqDiff, Nat.reduceAdd, iput, puts, FF, frzL_cat]; rfl)) (z1) ?_
  simp only [SS, Nat.reduceEqDiff, Nat.reduceAdd, iput, puts, p_ldc]
  refine den_call (fc := (15, [])) rfl (by first | (simp only [SS, Nat.reduceEqDiff, Nat.reduceAdd, iput, puts, FF, frzL_cat]; done) | (simp only [SS, Nat.reduceEqDiff, Nat.reduceAdd, iput, puts, FF, frzL_cat]; rfl)) (z2) ?_
  rw [inv_eq s f0 f1]
  have l1 : (retL c f).length ≤ 40 := by rw [retL_eq s f0 f1]; exact Nat.le_trans (selL_len _ _) n40
  have l2 : (secL c f).length ≤ 40 := by rw [secL_eq s f0 f1]; exact Nat.le_trans (selL_len _ _) n40
  generalize retL c f = l at l1
  generalize secL c f = m at l2
  refine den_for l.length (fun i => ∀ k, k < i → ¬ l.getD k 0 ∈ m) (fun k hk => by omega) fun i hi hp => ?_
  by_cases hlt : i < l.length
  · simp only [SS, Nat.reduceEqDiff, Nat.reduceAdd, iput, puts, hlt]
    refine den_call (fc := (262, [])) rfl (by first | (simp only [SS, Nat.reduceEqDiff, Nat.reduceAdd, iput, puts, FF, frzL_cat]; done) | (simp only [SS, Nat.reduceEqDiff, Nat.reduceAdd, iput, puts, FF, frzL_cat]; rfl)) ((l01Has_ok hh m (l.getD i 0) (by omega)).fzb) ?_
    simp only [SS, Nat.reduceEqDiff, Nat.reduceAdd, iput, puts, hlt, wrap_succ (show i < 9223372036854775807 by omega)]
    refine ⟨fun h1 => ?_, fun h1 => up rfl hlt fun k hk => ?_⟩
    · refine ⟨_, rfl, H, fun _ _ h => h, ?_, rfl, Nat.le_refl _⟩
      rw [findI_at hlt (decide_eq_true h1) (fun k hk => decide_eq_false (hp k hk))]
      rfl
    · by_cases e : k = i
      · subst e; exact h1
      · exact hp k (by omega)
  · simp only [SS, Nat.reduceEqDiff, Nat.reduceAdd, iput, puts, hlt]
    refine ⟨_, rfl, H, fun _ _ h => h, ?_, rfl, Nat.le_refl _⟩
    rw [findI_none fun k hk => decide_eq_false (hp k (by omega))]
    rfl

/-- What two functions have in common that make nothing. -/
def BothS (P : Program) (ν : Nat → FuncId) (i j : Nat) (args : List AV) (r : AV) : Prop := Fn P ν i args r ∧ Fn P ν j args r

def V_InverseArrow : Vc :=
  .op true (.p .box [.t 0]) <|
  .op true (.p (.msl 1 [int 0] [(0, 1)]) [.t 1]) <|
  .op true (.call (.f 18) [.t 2, .t 3]) <|
  .op true (.p (.bin .neq) [.t 4, .c (int 0)]) <|
  .br 5
   (.ret [(.c (int 0), none), (.t 4, none)])
   (.op true (.call (.f 240) [.t 2, .t 1]) <|
   .op true (.p (.bin .lss) [.t 6, .c (int 0)]) <|
   .br 7
    (.ret [(.c (int 0), none), (.c (int 4), none)])
    (.ret [(.t 6, none), (.c (int 0), none)]))
def V_spec_InverseArrow : Vc :=
  .op true (.p .box [.t 0]) <|
  .op true (.p (.ld (some 5)) [.t 2]) <|
  .op true (.call (.f 14) [.t 3, .t 1]) <|
  .op true (.p (.bin .neq) [.t 4, .c (int 0)]) <|
  .br 5
   (.ret [(.c (int 0), none), (.t 4, none)])
   (.op true (.p (.ld (some 5)) [.t 2]) <|
   .op true (.call (.f 239) [.t 6, .t 1]) <|
   .op true (.p (.bin .lss) [.t 7, .c (int 0)]) <|
   .br 8
    (.ret [(.c (int 0), none), (.c (int 4), none)])
    (.ret [(.t 7, none), (.c (int 0), none)]))
theorem InverseArrow_both (K : HCat P ν) (A : HArr P ν) (hi : Has P ν 240 2 V_Category_inverse) (h : Has P ν 104 2 V_InverseArrow) (KS : HSpec P ν) (ha : Has P ν 23 2 V_spec_l05Arrow) (h2 : Has P ν 14 2 V_spec_l05Code) (h3 : Has P ν 237 2 V_spec_l05Retractions) (h4 : Has P ν 15 2 V_spec_l05Sections) (h5 : Has P ν 262 2 V_spec_l01Has) (h6 : Has P ν 239 2 V_spec_l05Inverse) (hs : Has P ν 103 2 V_spec_InverseArrow) (c : Cat) (b : Small c) (f : Int) :
    ∃ a k : Int, BothS P ν 104 103 [.agg c.cells, int f] (.tup [int a, int k]) := by
  by_cases h0 : code (IsCat c) (Arr c f) = 0
  · obtain ⟨hc, f0, f1⟩ := code_zero.1 h0
    have s := hc.1
    by_cases hn : inv c f < 0
    · refine ⟨0, 4, fun H nx => h _ _ _ _ rfl fun hwf => ?_, fun H nx => hs _ _ _ _ rfl fun hwf => ?_⟩
      · unfold V_InverseArrow
        simp only [SS, Nat.reduceEqDiff, Nat.reduceAdd, iput, puts, p_boxc]
        refine den_call (fc := (18, [])) rfl (by first | (simp only [SS, Nat.reduceEqDiff, Nat.reduceAdd, iput, puts, FF, frzL_cat]; done) | (simp only [SS, Nat.reduceEqDiff, Nat.reduceAdd, iput, puts, FF, frzL_cat]; rfl)) (arrowCode_fz K A.code c b [f] (by simp) (Wn1 c f)) ?_
        simp only [SS, Nat.reduceEqDiff, Nat.reduceAdd, iput, puts, h0]
        refine den_call (fc := (240, [])) rfl (by first | (simp only [SS, Nat.reduceEqDiff, Nat.reduceAdd, iput, puts, FF, frzL_cat]; done) | (simp only [SS, Nat.reduceEqDiff, Nat.reduceAdd, iput, puts, FF, frzL_cat]; rfl)) ((inverse_ok A.hom K.thn hi c s f f0 f1).fzi) ?_
        simp only [SS, Nat.reduceEqDiff, Nat.reduceAdd, iput, puts, hn]
        exact ⟨_, rfl, H, fun _ _ h => h, rfl, rfl, Nat.le_refl _⟩
      · unfold V_spec_InverseArrow
        simp only [SS, Nat.reduceEqDiff, Nat.reduceAdd, iput, puts, p_boxc, p_ldc]
        refine den_call (fc := (14, [])) rfl (by first | (simp only [SS, Nat.reduceEqDiff, Nat.reduceAdd, iput, puts, FF, frzL_cat]; done) | (simp only [SS, Nat.reduceEqDiff, Nat.reduceAdd, iput, puts, FF, frzL_cat]; rfl)) (l05Code_fz KS ha h2 c b f) ?_
        simp only [SS, Nat.reduceEqDiff, Nat.reduceAdd, iput, puts, h0, p_ldc]
        refine den_call (fc := (239, [])) rfl (by first | (simp only [SS, Nat.reduceEqDiff, Nat.reduceAdd, iput, puts, FF, frzL_cat]; done) | (simp only [SS, Nat.reduceEqDiff, Nat.reduceAdd, iput, puts, FF, frzL_cat]; rfl)) ((l05Inverse_ok h3 h4 h5 h6 c s f f0 f1).fzi) ?_
        simp only [SS, Nat.reduceEqDiff, Nat.reduceAdd, iput, puts, hn]
        exact ⟨_, rfl, H, fun _ _ h => h, rfl, rfl, Nat.le_refl _⟩
    · refine ⟨inv c f, 0, fun H nx => h _ _ _ _ rfl fun hwf => ?_, fun H nx => hs _ _ _ _ rfl fun hwf => ?_⟩
      · unfold V_InverseArrow
        simp only [SS, Nat.reduceEqDiff, Nat.reduceAdd, iput, puts, p_boxc]
        refine den_call (fc := (18, [])) rfl (by first | (simp only [SS, Nat.reduceEqDiff, Nat.reduceAdd, iput, puts, FF, frzL_cat]; done) | (simp only [SS, Nat.reduceEqDiff, Nat.reduceAdd, iput, puts, FF, frzL_cat]; rfl)) (arrowCode_fz K A.code c b [f] (by simp) (Wn1 c f)) ?_
        simp only [SS, Nat.reduceEqDiff, Nat.reduceAdd, iput, puts, h0]
        refine den_call (fc := (240, [])) rfl (by first | (simp only [SS, Nat.reduceEqDiff, Nat.reduceAdd, iput, puts, FF, frzL_cat]; done) | (simp only [SS, Nat.reduceEqDiff, Nat.reduceAdd, iput, puts, FF, frzL_cat]; rfl)) ((inverse_ok A.hom K.thn hi c s f f0 f1).fzi) ?_
        simp only [SS, Nat.reduceEqDiff, Nat.reduceAdd, iput, puts, hn]
        exact ⟨_, rfl, H, fun _ _ h => h, rfl, rfl, Nat.le_refl _⟩
      · unfold V_spec_InverseArrow
        simp only [SS, Nat.reduceEqDiff, Nat.reduceAdd, iput, puts, p_boxc, p_ldc]
        refine den_call (fc := (14, [])) rfl (by first | (simp only [SS, Nat.reduceEqDiff, Nat.reduceAdd, iput, puts, FF, frzL_cat]; done) | (simp only [SS, Nat.reduceEqDiff, Nat.reduceAdd, iput, puts, FF, frzL_cat]; rfl)) (l05Code_fz KS ha h2 c b f) ?_
        simp only [SS, Nat.reduceEqDiff, Nat.reduceAdd, iput, puts, h0, p_ldc]
        refine den_call (fc := (239, [])) rfl (by first | (simp only [SS, Nat.reduceEqDiff, Nat.reduceAdd, iput, puts, FF, frzL_cat]; done) | (simp only [SS, Nat.reduceEqDiff, Nat.reduceAdd, iput, puts, FF, frzL_cat]; rfl)) ((l05Inverse_ok h3 h4 h5 h6 c s f f0 f1).fzi) ?_
        simp only [SS, Nat.reduceEqDiff, Nat.reduceAdd, iput, puts, hn]
        exact ⟨_, rfl, H, fun _ _ h => h, rfl, rfl, Nat.le_refl _⟩
  · refine ⟨0, code (IsCat c) (Arr c f), fun H nx => h _ _ _ _ rfl fun hwf => ?_, fun H nx => hs _ _ _ _ rfl fun hwf => ?_⟩
    · unfold V_InverseArrow
      simp only [SS, Nat.reduceEqDiff, Nat.reduceAdd, iput, puts, p_boxc]
      refine den_call (fc := (18, [])) rfl (by first | (simp only [SS, Nat.reduceEqDiff, Nat.reduceAdd, iput, puts, FF, frzL_cat]; done) | (simp only [SS, Nat.reduceEqDiff, Nat.reduceAdd, iput, puts, FF, frzL_cat]; rfl)) (arrowCode_fz K A.code c b [f] (by simp) (Wn1 c f)) ?_
      simp only [SS, Nat.reduceEqDiff, Nat.reduceAdd, iput, puts, h0]
      exact ⟨_, rfl, H, fun _ _ h => h, rfl, rfl, Nat.le_refl _⟩
    · unfold V_spec_InverseArrow
      simp only [SS, Nat.reduceEqDiff, Nat.reduceAdd, iput, puts, p_boxc, p_ldc]
      refine den_call (fc := (14, [])) rfl (by first | (simp only [SS, Nat.reduceEqDiff, Nat.reduceAdd, iput, puts, FF, frzL_cat]; done) | (simp only [SS, Nat.reduceEqDiff, Nat.reduceAdd, iput, puts, FF, frzL_cat]; rfl)) (l05Code_fz KS ha h2 c b f) ?_
      simp only [SS, Nat.reduceEqDiff, Nat.reduceAdd, iput, puts, h0]
      exact ⟨_, rfl, H, fun _ _ h => h, rfl, rfl, Nat.le_refl _⟩
end Go.Av
