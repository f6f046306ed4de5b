/-
  Subcategories: the program's and the reference's.
-/
import Derived.Test.YtalfoffamemfnaaAvB9
namespace Go.Av
open Classical
set_option linter.unusedSimpArgs false
set_option linter.unusedVariables false
variable {P : Program} {ν : Nat → FuncId}

def Rising (l : List Int) : Prop := ∀ k, k + 1 < l.length → l.getD k 0 < l.getD (k + 1) 0
def V_rising : Vc :=
  .loop 0 [.c (int 1)] <|
  .op true (.p .len [.t 0]) <|
  .op true (.p (.bin .lss) [.t 1, .t 2]) <|
  .br 3
   (.op true (.p (.bin .sub) [.t 1, .c (int 1)]) <|
   .op true (.p (.iad 1) [.t 0, .t 4]) <|
   .op true (.p (.ld none) [.t 5]) <|
   .op true (.p (.iad 1) [.t 0, .t 1]) <|
   .op true (.p (.ld none) [.t 7]) <|
   .op true (.p (.bin .geq) [.t 6, .t 8]) <|
   .br 9
    (.ret [(.c (bool false), none)])
    (.op true (.p (.bin .add) [.t 1, .c (int 1)]) <|
    .again 0 [.t 10]))
   (.ret [(.c (bool true), none)])
theorem rising_ok (h : Has P ν 368 1 V_rising) (l : List Int) (hl : l.length ≤ 1048576) : Fn P ν 368 [islice l] (bool (decide (Rising l))) := by
  intro H nx
  refine h _ _ _ _ rfl fun hwf => ?_
  unfold V_rising
  refine den_forS (l.length + 1) 1 (by omega) rfl (fun i => ∀ k, k + 1 < i → k + 1 < l.length → l.getD k 0 < l.getD (k + 1) 0) (fun k hk => by omega) fun i hi1 hi pi => ?_
  by_cases hli : i < l.length
  · have i2 : i - 1 < l.length := by omega
    simp only [SS, Nat.reduceEqDiff, Nat.reduceAdd, iput, puts, hli, i2, wrap_pred hi1 (by omega), wrap_succ (show i < 9223372036854775807 by omega)]
    refine ⟨fun h1 => ?_, fun h1 => up rfl (by omega) ⟨by omega, fun k hk hk' => ?_⟩⟩
    · exact ⟨_, rfl, H, fun _ _ h => h, ret_false (fun hC => by have := hC (i - 1) (by omega); rw [show i - 1 + 1 = i by omega] at this; omega), rfl, Nat.le_refl _⟩
    · by_cases e : k + 1 = i
      · subst e; simp only [Nat.add_sub_cancel] at h1; omega
      · exact pi k (by omega) hk'
  · simp only [SS, Nat.reduceEqDiff, Nat.reduceAdd, iput, puts, hli]
    exact ⟨_, rfl, H, fun _ _ h => h, ret_true (fun k hk => pi k (by omega) hk), rfl, Nat.le_refl _⟩

/-- Which of n arrows are in a list. -/
def Marked (as : List Int) (n : Nat) (L : List Bool) : Prop := L.length = n ∧ ∀ f : Nat, f < n → (L.getD f false = true ↔ (f : Int) ∈ as)
theorem frzN_bools (H : Hp) (k : Nat) (l : List Bool) : (bools l).mapM (frzN H k) = some (bools l) := by
  induction l with
  | nil => rfl
  | cons a l ih =>
    simp only [bools, List.map_cons, List.mapM_cons] at ih ⊢
    rw [ih]
    cases k <;> rfl
def V_Category_marks : Vc :=
  .op true (.call (.f 26) [.t 0]) <|
  .op true (.mks [bool false] (.t 2) (.t 2)) <|
  .op true (.p .len [.t 1]) <|
  .loop 0 [.c (int 0)] <|
  .op true (.p (.bin .lss) [.t 5, .t 4]) <|
  .br 6
   (.op true (.p (.iad 1) [.t 1, .t 5]) <|
   .op true (.p (.ld none) [.t 7]) <|
   .op true (.p (.iad 1) [.t 3, .t 8]) <|
   .op true (.st 1 (.t 9) (.c (bool true))) <|
   .op true (.p (.bin .add) [.t 5, .c (int 1)]) <|
   .again 0 [.t 11])
   (.ret [(.t 3, none)])
theorem marks_fz (ha : Has P ν 26 1 V_Category_arrows) (h : Has P ν 375 2 V_Category_marks) (c : Cat) (as : List Int) (hn : c.f.length ≤ 1048576) (hl : as.length ≤ 1048576) (hw : Wn as c.f.length) : ∃ L, Marked as c.f.length L ∧ Fz (OkM P ν) 375 [.ptr c.cells 0, islice as] (.sl (bools L) L.length) := by
  -- the marks after i of the arrows
  let mk : Nat → List Bool := fun i => (List.range c.f.length).map fun (f : Nat) => decide ((f : Int) ∈ as.take i)
  have mkl : ∀ i, (mk i).length = c.f.length := fun i => by simp [mk]
  have mkg : ∀ i (f : Nat), f < c.f.length → ((mk i).getD f false = true ↔ (f : Int) ∈ as.take i) := fun i f hf => by
    simp only [mk, List.getD_eq_getElem?_getD, List.getElem?_map, List.getElem?_range hf, Option.map_some, Option.getD_some, decide_eq_true_eq]
  have mks : ∀ i, i < as.length → (mk i).set (as.getD i 0).toNat true = mk (i + 1) := fun i hi => by
    obtain ⟨w0, w1⟩ := hw i hi
    refine List.ext_getElem (by simp [mk]) fun f h1 h2 => ?_
    have hf : f < c.f.length := by rw [mkl] at h2; exact h2
    have e1 := mkg i f hf
    have e2 := mkg (i + 1) f hf
    have e3 := set_true (l := mk i) (j := (as.getD i 0).toNat) (k := f) (by rw [mkl]; omega)
    have e4 : (f : Int) ∈ as.take (i + 1) ↔ (f : Int) ∈ as.take i ∨ (f : Int) = as.getD i 0 := by
      rw [List.take_succ_eq_append_getElem hi, List.mem_append, List.mem_singleton]
      simp [List.getD, hi]
    have e5 : f = (as.getD i 0).toNat ↔ (f : Int) = as.getD i 0 := by omega
    have g1 : ∀ (l : List Bool) (h : f < l.length), l[f] = l.getD f false := fun l h => by simp [List.getD, h]
    rw [g1 _ h1, g1 _ h2]
    rw [Bool.eq_iff_iff, e3, e2, e4, e1, e5]
    exact Or.comm
  refine ⟨mk as.length, ⟨mkl _, fun f hf => by rw [mkg _ f hf, List.take_length]⟩, ?_⟩
  refine OkM.fz (Ψ := fun H nx r H' nx' => r = .ms nx 0 c.f.length 1 ∧ H' = hput H nx (some (bools (mk as.length))) ∧ nx' = nx + 1) (fun H nx => h _ _ _ _ rfl fun hwf => ?_) fun r H' nx' hh => ?_
  · unfold V_Category_marks
    refine den_call (fc := (26, [])) rfl (by first | (simp only [SS, Nat.reduceEqDiff, Nat.reduceAdd, iput, puts, FF, frzL_cat]; done) | (simp only [SS, Nat.reduceEqDiff, Nat.reduceAdd, iput, puts, FF, frzL_cat]; rfl)) ((arrows_ok ha c).fzi) ?_
    refine den_mkB (m := c.f.length) rfl rfl (by omega) ?_
    simp only [SS, Nat.reduceEqDiff, Nat.reduceAdd, iput, puts]
    have e0 : List.replicate c.f.length false = mk 0 := List.ext_getElem (by simp [mk]) fun f h1 h2 => by simp [mk]
    rw [e0]
    refine den_loop (α := Nat) (fun i => [int i]) (fun i H' nx' => i ≤ as.length ∧ H' = hput H nx (some (bools (mk i))) ∧ nx' = nx + 1) (fun i => as.length - i) 0 rfl ⟨Nat.zero_le _, rfl, rfl⟩ ?_
    rintro i H' nx' ⟨hi, rfl, rfl⟩
    by_cases hlt : i < as.length
    · obtain ⟨w0, w1⟩ := hw i hlt
      simp only [SS, Nat.reduceEqDiff, Nat.reduceAdd, iput, puts, hlt, w0, w1, p_iadm (hput_eq H nx _) ((bools_len _).trans (mkl i))]
      refine den_st1 (o := nx) (p := (as.getD i 0).toNat) (m := c.f.length) (u := bool true) rfl rfl (hput_eq H nx _) ((bools_len _).trans (mkl i)) (by omega) rfl ?_
      rw [hput_hput, bools_set, mks i hlt]
      simp only [SS, Nat.reduceEqDiff, Nat.reduceAdd, iput, puts, wrap_succ (show i < 9223372036854775807 by omega)]
      exact ⟨i + 1, rfl, ⟨by omega, rfl⟩, by omega⟩
    · have : i = as.length := by omega
      subst this
      simp only [SS, Nat.reduceEqDiff, Nat.reduceAdd, iput, puts, hlt]
      exact ⟨_, rfl, _, fun _ _ h => h, rfl, rfl, rfl⟩
  · obtain ⟨rfl, rfl, rfl⟩ := hh
    simp only [fuel, frzN, hput_eq, bools_len, mkl, Nat.zero_add, Nat.mul_one, if_true, frzN_bools]
    rfl

def IsSub (c : Cat) (as : List Int) : Prop := Rising as ∧ ∀ i, i < as.length → c.I (c.F (as.getD i 0)) ∈ as ∧ c.I (c.T (as.getD i 0)) ∈ as ∧ ∀ j, j < as.length → 0 ≤ c.K (as.getD i 0) (as.getD j 0) → c.K (as.getD i 0) (as.getD j 0) ∈ as

def V_Category_isSubcategory : Vc :=
  .op true (.call (.f 368) [.t 1]) <|
  .op true (.p .bnot [.t 2]) <|
  .br 3
   (.ret [(.c (bool false), none)])
   (.op true (.call (.f 375) [.t 0, .t 1]) <|
   .op true (.p .len [.t 1]) <|
   .loop 0 [.c (int 0)] <|
   .op true (.p (.bin .lss) [.t 6, .t 5]) <|
   .br 7
    (.op true (.p (.iad 1) [.t 1, .t 6]) <|
    .op true (.p (.ld none) [.t 8]) <|
    .op true (.p .nck [.t 0]) <|
    .op true (.p (.fad 3) [.t 10]) <|
    .op true (.p (.ld none) [.t 11]) <|
    .op true (.p .nck [.t 0]) <|
    .op true (.p (.fad 1) [.t 13]) <|
    .op true (.p (.ld none) [.t 14]) <|
    .op true (.p (.iad 1) [.t 15, .t 9]) <|
    .op true (.p (.ld none) [.t 16]) <|
    .op true (.p (.iad 1) [.t 12, .t 17]) <|
    .op true (.p (.ld none) [.t 18]) <|
    .op true (.p (.iad 1) [.t 4, .t 19]) <|
    .op true (.p (.ld none) [.t 20]) <|
    .op true (.p .bnot [.t 21]) <|
    .br 22
     (.ret [(.c (bool false), none)])
     (.op true (.p .nck [.t 0]) <|
     .op true (.p (.fad 3) [.t 23]) <|
     .op true (.p (.ld none) [.t 24]) <|
     .op true (.p .nck [.t 0]) <|
     .op true (.p (.fad 2) [.t 26]) <|
     .op true (.p (.ld none) [.t 27]) <|
     .op true (.p (.iad 1) [.t 28, .t 9]) <|
     .op true (.p (.ld none) [.t 29]) <|
     .op true (.p (.iad 1) [.t 25, .t 30]) <|
     .op true (.p (.ld none) [.t 31]) <|
     .op true (.p (.iad 1) [.t 4, .t 32]) <|
     .op true (.p (.ld none) [.t 33]) <|
     .op true (.p .bnot [.t 34]) <|
     .br 35
      (.ret [(.c (bool false), none)])
      (.op true (.p .len [.t 1]) <|
      .loop 1 [.c (int 0)] <|
      .op true (.p (.bin .lss) [.t 37, .t 36]) <|
      .br 38
       (.op true (.p (.iad 1) [.t 1, .t 37]) <|
       .op true (.p (.ld none) [.t 39]) <|
       .op true (.call (.f 34) [.t 0, .t 9, .t 40]) <|
       .op true (.p (.bin .geq) [.t 41, .c (int 0)]) <|
       .br 42
        (.op true (.p (.iad 1) [.t 4, .t 41]) <|
        .op true (.p (.ld none) [.t 43]) <|
        .op true (.p .bnot [.t 44]) <|
        .br 45
         (.ret [(.c (bool false), none)])
         (.op true (.p (.bin .add) [.t 37, .c (int 1)]) <|
         .again 1 [.t 46]))
        (.op true (.p (.bin .add) [.t 37, .c (int 1)]) <|
        .again 1 [.t 43]))
       (.op true (.p (.bin .add) [.t 6, .c (int 1)]) <|
       .again 0 [.t 39]))))
    (.ret [(.c (bool true), none)]))
set_option maxHeartbeats 1000000 in
theorem isSubcategory_ok (ht : Has P ν 34 3 V_Category_then) (ha : Has P ν 26 1 V_Category_arrows) (hr : Has P ν 368 1 V_rising) (hm : Has P ν 375 2 V_Category_marks) (h : Has P ν 248 2 V_Category_isSubcategory) (c : Cat) (s : Shape c) (as : List Int) (hl : as.length ≤ 1048576) (hw : Wn as c.f.length) : Fn P ν 248 [.ptr c.cells 0, islice as] (bool (decide (IsSub c as))) := by
  intro H nx
  refine h _ _ _ _ rfl fun hwf => ?_
  unfold V_Category_isSubcategory
  have n40 := s.n40
  have tl := s.tl
  have il := s.il
  refine den_call (fc := (368, [])) rfl (by first | (simp only [SS, Nat.reduceEqDiff, Nat.reduceAdd, iput, puts, FF, frzL_cat]; done) | (simp only [SS, Nat.reduceEqDiff, Nat.reduceAdd, iput, puts, FF, frzL_cat]; rfl)) ((rising_ok hr as hl).fzb) ?_
  simp only [SS, Nat.reduceEqDiff, Nat.reduceAdd, iput, puts]
  refine ⟨fun h1 => ?_, fun h1 => ?_⟩
  · exact ⟨_, rfl, H, fun _ _ h => h, ret_false (fun hS => h1 hS.1), rfl, Nat.le_refl _⟩
  obtain ⟨L, ⟨hL, hM⟩, hmk⟩ := marks_fz (P := P) (ν := ν) ha hm c as (by omega) hl hw
  have mem : ∀ x : Int, 0 ≤ x → x < c.f.length → (L.getD x.toNat false = true ↔ x ∈ as) := fun x x0 x1 => by
    have := hM x.toNat (by omega); rwa [Int.toNat_of_nonneg x0] at this
  refine den_call (fc := (375, [])) rfl (by first | (simp only [SS, Nat.reduceEqDiff, Nat.reduceAdd, iput, puts, FF, frzL_cat]; done) | (simp only [SS, Nat.reduceEqDiff, Nat.reduceAdd, iput, puts, FF, frzL_cat]; rfl)) (hmk) ?_
  simp only [SS, Nat.reduceEqDiff, Nat.reduceAdd, iput, puts]
  refine den_for as.length (fun i => ∀ i', i' < i → c.I (c.F (as.getD i' 0)) ∈ as ∧ c.I (c.T (as.getD i' 0)) ∈ as ∧ ∀ j, j < as.length → 0 ≤ c.K (as.getD i' 0) (as.getD j 0) → c.K (as.getD i' 0) (as.getD j 0) ∈ as) (fun k hk => by omega) fun i hi pi => ?_
  by_cases hlt : i < as.length
  · obtain ⟨w0, w1⟩ := hw i hlt
    have w2 : (as.getD i 0).toNat < c.f.length := by omega
    have a := s.fLt w2
    have b := s.tLt w2
    rw [Int.toNat_of_nonneg w0] at a b
    have a' := s.iLt a.1 a.2
    have b' := s.iLt b.1 b.2
    have mA := mem _ a'.1 a'.2
    have mB := mem _ b'.1 b'.2
    obtain ⟨a0, a1⟩ := a
    obtain ⟨b0, b1⟩ := b
    obtain ⟨d0, d1⟩ := a'
    obtain ⟨e0, e1⟩ := b'
    simp only [Cat.F, Cat.T, Cat.I] at a0 a1 b0 b1 d0 d1 e0 e1
    have a2 : (c.f.getD (as.getD i 0).toNat 0).toNat < c.i.length := by omega
    have b2 : (c.t.getD (as.getD i 0).toNat 0).toNat < c.i.length := by omega
    have d2 : (c.i.getD (c.f.getD (as.getD i 0).toNat 0).toNat 0).toNat < c.f.length := by omega
    have e2 : (c.i.getD (c.t.getD (as.getD i 0).toNat 0).toNat 0).toNat < c.f.length := by omega
    simp only [SS, Nat.reduceEqDiff, Nat.reduceAdd, iput, puts, hlt, cat1, cat3, w0, w1, w2, a0, a1, a2, d0, d1, d2, hL, bools_get]
    refine ⟨fun h2 => ?_, fun h2 => ?_⟩
    · exact ⟨_, rfl, H, fun _ _ h => h, ret_false (fun hS => by have := mA.2 (hS.2 i hlt).1; rw [show L.getD (c.I (c.F (as.getD i 0))).toNat false = false from h2] at this; cases this), rfl, Nat.le_refl _⟩
    simp only [SS, Nat.reduceEqDiff, Nat.reduceAdd, iput, puts, hlt, cat2, cat3, tl, w0, w1, w2, b0, b1, b2, e0, e1, e2, hL, bools_get]
    refine ⟨fun h3 => ?_, fun h3 => ?_⟩
    · exact ⟨_, rfl, H, fun _ _ h => h, ret_false (fun hS => by have := mB.2 (hS.2 i hlt).2.1; rw [show L.getD (c.I (c.T (as.getD i 0))).toNat false = false from h3] at this; cases this), rfl, Nat.le_refl _⟩
    refine den_for as.length (fun j => ∀ j', j' < j → 0 ≤ c.K (as.getD i 0) (as.getD j' 0) → c.K (as.getD i 0) (as.getD j' 0) ∈ as) (fun k hk => by omega) fun j hj pj => ?_
    by_cases hlj : j < as.length
    · obtain ⟨v0, v1⟩ := hw j hlj
      simp only [SS, Nat.reduceEqDiff, Nat.reduceAdd, iput, puts, hlj]
      refine den_call (fc := (34, [])) rfl (by first | (simp only [SS, Nat.reduceEqDiff, Nat.reduceAdd, iput, puts, FF, frzL_cat]; done) | (simp only [SS, Nat.reduceEqDiff, Nat.reduceAdd, iput, puts, FF, frzL_cat]; rfl)) (s.then_fz ht _ _ w0 w1 v0 v1) ?_
      simp only [SS, Nat.reduceEqDiff, Nat.reduceAdd, iput, puts, wrap_succ (show j < 9223372036854775807 by omega)]
      refine ⟨fun h4 => ?_, fun h4 => up rfl hlj (nextP pj fun h5 => absurd h5 h4)⟩
      have kp := s.kPos (a := (as.getD i 0).toNat) (b := (as.getD j 0).toNat) (by omega) (by omega)
      have ki := s.kIff (a := (as.getD i 0).toNat) (b := (as.getD j 0).toNat) (by omega) (by omega)
      rw [Int.toNat_of_nonneg w0, Int.toNat_of_nonneg v0] at kp ki
      obtain ⟨k0, k1, _⟩ := kp (ki.1 h4)
      have k2 : (c.K (as.getD i 0) (as.getD j 0)).toNat < c.f.length := by omega
      have mK := mem _ k0 k1
      simp only [SS, Nat.reduceEqDiff, Nat.reduceAdd, iput, puts, k0, k1, k2, hL, bools_get, wrap_succ (show j < 9223372036854775807 by omega)]
      refine ⟨fun h5 => ?_, fun h5 => up rfl hlj (nextP pj fun _ => mK.1 h5)⟩
      exact ⟨_, rfl, H, fun _ _ h => h, ret_false (fun hS => by have := mK.2 ((hS.2 i hlt).2.2 j hlj k0); rw [h5] at this; cases this), rfl, Nat.le_refl _⟩
    · simp only [SS, Nat.reduceEqDiff, Nat.reduceAdd, iput, puts, hlj, wrap_succ (show i < 9223372036854775807 by omega)]
      exact up rfl hlt (nextP pi ⟨mA.1 h2, mB.1 h3, fun j' hj' => pj j' (by omega)⟩)
  · simp only [SS, Nat.reduceEqDiff, Nat.reduceAdd, iput, puts, hlt]
    exact ⟨_, rfl, H, fun _ _ h => h, ret_true (⟨h1, fun i' hi' => pi i' (by omega)⟩), rfl, Nat.le_refl _⟩

def V_spec_l01Same : Vc :=
  .op true (.p .len [.t 0]) <|
  .op true (.p .len [.t 1]) <|
  .op true (.p (.bin .neq) [.t 2, .t 3]) <|
  .br 4
   (.ret [(.c (bool false), none)])
   (.loop 0 [.c (int 0)] <|
   .op true (.p .len [.t 0]) <|
   .op true (.p (.bin .lss) [.t 5, .t 6]) <|
   .br 7
    (.op true (.p (.iad 1) [.t 0, .t 5]) <|
    .op true (.p (.ld none) [.t 8]) <|
    .op true (.p (.iad 1) [.t 1, .t 5]) <|
    .op true (.p (.ld none) [.t 10]) <|
    .op true (.p (.bin .neq) [.t 9, .t 11]) <|
    .br 12
     (.ret [(.c (bool false), none)])
     (.op true (.p (.bin .add) [.t 5, .c (int 1)]) <|
     .again 0 [.t 13]))
    (.ret [(.c (bool true), none)]))
theorem l01Same_ok (h : Has P ν 246 2 V_spec_l01Same) (a b : List Int) (hl : a.length < 9223372036854775807) : Fn P ν 246 [islice a, islice b] (bool (decide (a = b))) := by
  intro H nx
  refine h _ _ _ _ rfl fun hwf => ?_
  unfold V_spec_l01Same
  simp only [SS, Nat.reduceEqDiff, Nat.reduceAdd, iput, puts]
  refine ⟨fun h1 => ?_, fun h1 => ?_⟩
  · exact ⟨_, rfl, H, fun _ _ h => h, ret_false (fun e => h1 (by rw [e])), rfl, Nat.le_refl _⟩
  have h1' : a.length = b.length := by omega
  refine den_for a.length (fun i => ∀ k, k < i → a.getD k 0 = b.getD k 0) (fun k hk => by omega) fun i hi pi => ?_
  by_cases hlt : i < a.length
  · have hlt2 : i < b.length := by omega
    simp only [SS, Nat.reduceEqDiff, Nat.reduceAdd, iput, puts, hlt, hlt2, wrap_succ (Nat.lt_trans hlt hl)]
    refine ⟨fun h2 => ?_, fun h2 => up rfl hlt (nextP pi h2)⟩
    exact ⟨_, rfl, H, fun _ _ h => h, ret_false (fun e => h2 (by rw [e])), rfl, Nat.le_refl _⟩
  · simp only [SS, Nat.reduceEqDiff, Nat.reduceAdd, iput, puts, hlt]
    exact ⟨_, rfl, H, fun _ _ h => h, ret_true (List.ext_getElem h1' fun k h2 h3 => by have := pi k (by omega); simpa [List.getD, h2, h3] using this), rfl, Nat.le_refl _⟩

/-- Two rising lists with the same elements. -/
theorem sorted_eq {a b : List Int} (ha : a.Pairwise (· < ·)) (hb : b.Pairwise (· < ·)) (h : ∀ x, x ∈ a ↔ x ∈ b) : a = b := by
  induction a generalizing b with
  | nil => cases b with
    | nil => rfl
    | cons y b => exact absurd ((h y).2 (List.mem_cons_self ..)) (by simp)
  | cons x a ih =>
    cases b with
    | nil => exact absurd ((h x).1 (List.mem_cons_self ..)) (by simp)
    | cons y b =>
      rw [List.pairwise_cons] at ha hb
      have e : x = y := by
        have h1 := (h x).1 (List.mem_cons_self ..)
        have h2 := (h y).2 (List.mem_cons_self ..)
        rw [List.mem_cons] at h1 h2
        rcases h1 with h1 | h1
        · exact h1
        · rcases h2 with h2 | h2
          · exact h2.symm
          · have := hb.1 x h1; have := ha.1 y h2; omega
      subst e
      congr 1
      refine ih ha.2 hb.2 fun z => ?_
      have hz := h z
      rw [List.mem_cons, List.mem_cons] at hz
      constructor
      · intro hm
        rcases hz.1 (.inr hm) with e | e
        · subst e; have := ha.1 z hm; omega
        · exact e
      · intro hm
        rcases hz.2 (.inr hm) with e | e
        · subst e; have := hb.1 z hm; omega
        · exact e
theorem Rising.pairwise {l : List Int} (h : Rising l) : l.Pairwise (· < ·) := by
  rw [List.pairwise_iff_getElem]
  have key : ∀ d i, i + d + 1 < l.length → l.getD i 0 < l.getD (i + d + 1) 0 := by
    intro d
    induction d with
    | zero => intro i hi; exact h i hi
    | succ d ih =>
      intro i hi
      have h1 := ih i (by omega)
      have h2 := h (i + d + 1) (by omega)
      rw [show i + (d + 1) + 1 = i + d + 1 + 1 by omega]; omega
  intro i j hi hj hij
  have := key (j - i - 1) i (by omega)
  rw [show i + (j - i - 1) + 1 = j by omega] at this
  simpa [List.getD, hi, hj] using this
theorem selL_pairwise (n : Nat) (p : Nat → Bool) : (selL n p).Pairwise (· < ·) := by
  rw [selL, List.pairwise_map]
  refine List.Pairwise.imp (fun h => by omega) ((List.pairwise_lt_range (n := n)).filter p)
theorem pairwise_rising {l : List Int} (h : l.Pairwise (· < ·)) : Rising l := fun k hk => by
  have := List.pairwise_iff_getElem.1 h k (k + 1) (by omega) hk (by omega)
  simpa [List.getD, hk, show k < l.length by omega] using this
theorem clo_mem {c : Cat} (s : Shape c) {as : List Int} (hw : Wn as c.f.length) (x : Int) : x ∈ (selL c.f.length fun f => decide (Cl c as f)) ↔ Cl c as x := by
  constructor
  · intro h; obtain ⟨k, rfl, _, h2⟩ := selL_mem h; exact of_decide_eq_true h2
  · intro h
    have hL : ∀ x, Cl c as x → 0 ≤ x ∧ x < c.f.length := by
      intro x hx
      induction hx with
      | arr k hk => exact hw k hk
      | src k hk =>
        have w := hw k hk
        have a := s.fLt (a := (as.getD k 0).toNat) (by omega)
        rw [Int.toNat_of_nonneg w.1] at a
        exact s.iLt a.1 a.2
      | tgt k hk =>
        have w := hw k hk
        have a := s.tLt (a := (as.getD k 0).toNat) (by omega)
        rw [Int.toNat_of_nonneg w.1] at a
        exact s.iLt a.1 a.2
      | comp f g _ _ e i1 i2 =>
        have kp := s.kPos (a := f.toNat) (b := g.toNat) (by omega) (by omega)
        rw [Int.toNat_of_nonneg i1.1, Int.toNat_of_nonneg i2.1] at kp
        exact ⟨(kp e).1, (kp e).2.1⟩
    have hx := hL x h
    simp only [selL, List.mem_map, List.mem_filter, List.mem_range]
    exact ⟨x.toNat, ⟨by omega, by rw [Int.toNat_of_nonneg hx.1]; exact decide_eq_true h⟩, Int.toNat_of_nonneg hx.1⟩
theorem mem_at {l : List Int} {x : Int} (h : x ∈ l) : ∃ k, k < l.length ∧ l.getD k 0 = x := by
  obtain ⟨k, hk, e⟩ := List.getElem_of_mem h
  exact ⟨k, hk, by simpa [List.getD, hk] using e⟩
theorem IsSub_iff {c : Cat} (s : Shape c) {as : List Int} (hw : Wn as c.f.length) : IsSub c as ↔ as = selL c.f.length fun f => decide (Cl c as f) := by
  constructor
  · intro h
    refine sorted_eq h.1.pairwise (selL_pairwise _ _) fun x => ?_
    rw [clo_mem s hw]
    constructor
    · intro hx
      obtain ⟨k, hk, rfl⟩ := mem_at hx
      exact Cl.arr k hk
    · intro hx
      induction hx with
      | arr k hk => exact getD_mem hk
      | src k hk => exact (h.2 k hk).1
      | tgt k hk => exact (h.2 k hk).2.1
      | comp f g _ _ e i1 i2 =>
        obtain ⟨k, hk, rfl⟩ := mem_at i1
        obtain ⟨j, hj, rfl⟩ := mem_at i2
        refine (h.2 k hk).2.2 j hj ?_
        have w := hw k hk
        have v := hw j hj
        have ki := s.kIff (a := (as.getD k 0).toNat) (b := (as.getD j 0).toNat) (by omega) (by omega)
        rw [Int.toNat_of_nonneg w.1, Int.toNat_of_nonneg v.1] at ki
        exact ki.2 e
  · intro h
    have hm : ∀ x, Cl c as x → x ∈ as := fun x hx => by rw [h]; exact (clo_mem s hw x).2 hx
    refine ⟨by rw [h]; exact pairwise_rising (selL_pairwise _ _), fun i hi => ⟨hm _ (Cl.src i hi), hm _ (Cl.tgt i hi), fun j hj hk => hm _ (Cl.comp _ _ (Cl.arr i hi) (Cl.arr j hj) ?_)⟩⟩
    have w := hw i hi
    have v := hw j hj
    have ki := s.kIff (a := (as.getD i 0).toNat) (b := (as.getD j 0).toNat) (by omega) (by omega)
    rw [Int.toNat_of_nonneg w.1, Int.toNat_of_nonneg v.1] at ki
    exact ki.1 hk

def V_IsSubcategory : Vc :=
  .op true (.p .box [.t 0]) <|
  .op true (.call (.f 18) [.t 2, .t 1]) <|
  .op true (.p (.bin .neq) [.t 3, .c (int 0)]) <|
  .br 4
   (.ret [(.c (bool false), none), (.t 3, none)])
   (.op true (.call (.f 248) [.t 2, .t 1]) <|
   .ret [(.t 5, none), (.c (int 0), none)])
def V_spec_IsSubcategory : Vc :=
  .op true (.p .box [.t 0]) <|
  .op true (.p (.ld (some 5)) [.t 2]) <|
  .op true (.call (.f 245) [.t 3, .t 1]) <|
  .op true (.p (.bin .neq) [.t 4, .c (int 0)]) <|
  .br 5
   (.ret [(.c (bool false), none), (.t 4, none)])
   (.op true (.p (.ld (some 5)) [.t 2]) <|
   .op true (.call (.f 247) [.t 6, .t 1]) <|
   .op true (.call (.f 246) [.t 1, .t 7]) <|
   .ret [(.t 8, none), (.c (int 0), none)])
theorem IsSubcategory_both (K : HCat P ν) (A : HArr P ν) (hr : Has P ν 368 1 V_rising) (hm : Has P ν 375 2 V_Category_marks) (hi : Has P ν 248 2 V_Category_isSubcategory) (h : Has P ν 108 2 V_IsSubcategory) (KS : HSpec P ν) (ha : Has P ν 245 2 V_spec_l02Arrows) (hcl : Has P ν 247 2 V_spec_l02Close) (hsa : Has P ν 246 2 V_spec_l01Same) (hs : Has P ν 107 2 V_spec_IsSubcategory) (c : Cat) (b : Small c) (as : List Int) (hl : as.length ≤ 1048576) :
    ∃ (x : Bool) (k : Int), BothS P ν 108 107 [.agg c.cells, islice as] (.tup [bool x, int k]) := by
  by_cases h0 : code (IsCat c) (Wn as c.f.length) = 0
  · obtain ⟨hc, hw⟩ := code_zero.1 h0
    have s := hc.1
    refine ⟨decide (IsSub c as), 0, fun H nx => h _ _ _ _ rfl fun hwf => ?_, fun H nx => hs _ _ _ _ rfl fun hwf => ?_⟩
    · unfold V_IsSubcategory
      simp only [SS, Nat.reduceEqDiff, Nat.reduceAdd, iput, puts, p_boxc]
      refine den_call (fc := (18, [])) rfl (by first | (simp only [SS, Nat.reduceEqDiff, Nat.reduceAdd, iput, puts, FF, frzL_cat]; done) | (simp only [SS, Nat.reduceEqDiff, Nat.reduceAdd, iput, puts, FF, frzL_cat]; rfl)) (arrowCode_fz K A.code c b as hl Iff.rfl) ?_
      simp only [SS, Nat.reduceEqDiff, Nat.reduceAdd, iput, puts, h0]
      refine den_call (fc := (248, [])) rfl (by first | (simp only [SS, Nat.reduceEqDiff, Nat.reduceAdd, iput, puts, FF, frzL_cat]; done) | (simp only [SS, Nat.reduceEqDiff, Nat.reduceAdd, iput, puts, FF, frzL_cat]; rfl)) ((isSubcategory_ok K.thn K.arrows hr hm hi c s as hl hw).fzb) ?_
      exact ⟨_, rfl, H, fun _ _ h => h, rfl, rfl, Nat.le_refl _⟩
    · unfold V_spec_IsSubcategory
      simp only [SS, Nat.reduceEqDiff, Nat.reduceAdd, iput, puts, p_boxc, p_ldc]
      refine den_call (fc := (245, [])) rfl (by first | (simp only [SS, Nat.reduceEqDiff, Nat.reduceAdd, iput, puts, FF, frzL_cat]; done) | (simp only [SS, Nat.reduceEqDiff, Nat.reduceAdd, iput, puts, FF, frzL_cat]; rfl)) (l02Arrows_fz KS ha c b as hl Iff.rfl) ?_
      simp only [SS, Nat.reduceEqDiff, Nat.reduceAdd, iput, puts, h0, p_ldc]
      have hf : Fz (OkM P ν) 247 [.agg c.cells, islice as] (islice (selL c.f.length fun f => decide (Cl c as f))) := OkM.fz (fun H nx => l02Close_ok hcl c s as hl hw H nx) fun _ _ _ hh => hh.frz _
      refine den_call (fc := (247, [])) rfl (by first | (simp only [SS, Nat.reduceEqDiff, Nat.reduceAdd, iput, puts, FF, frzL_cat]; done) | (simp only [SS, Nat.reduceEqDiff, Nat.reduceAdd, iput, puts, FF, frzL_cat]; rfl)) (hf) ?_
      refine den_call (fc := (246, [])) rfl (by first | (simp only [SS, Nat.reduceEqDiff, Nat.reduceAdd, iput, puts, FF, frzL_cat]; done) | (simp only [SS, Nat.reduceEqDiff, Nat.reduceAdd, iput, puts, FF, frzL_cat]; rfl)) ((l01Same_ok hsa as (selL c.f.length fun f => decide (Cl c as f)) (by omega)).fzb) ?_
      refine ⟨_, rfl, H, fun _ _ h => h, ?_, rfl, Nat.le_refl _⟩
      simp only [SS, Nat.reduceEqDiff, Nat.reduceAdd, iput, puts, ← IsSub_iff s hw]
  · refine ⟨false, code (IsCat c) (Wn as c.f.length), fun H nx => h _ _ _ _ rfl fun hwf => ?_, fun H nx => hs _ _ _ _ rfl fun hwf => ?_⟩
    · unfold V_IsSubcategory
      simp only [SS, Nat.reduceEqDiff, Nat.reduceAdd, iput, puts, p_boxc]
      refine den_call (fc := (18, [])) rfl (by first | (simp only [SS, Nat.reduceEqDiff, Nat.reduceAdd, iput, puts, FF, frzL_cat]; done) | (simp only [SS, Nat.reduceEqDiff, Nat.reduceAdd, iput, puts, FF, frzL_cat]; rfl)) (arrowCode_fz K A.code c b as hl Iff.rfl) ?_
      simp only [SS, Nat.reduceEqDiff, Nat.reduceAdd, iput, puts, h0]
      exact ⟨_, rfl, H, fun _ _ h => h, rfl, rfl, Nat.le_refl _⟩
    · unfold V_spec_IsSubcategory
      simp only [SS, Nat.reduceEqDiff, Nat.reduceAdd, iput, puts, p_boxc, p_ldc]
      refine den_call (fc := (245, [])) rfl (by first | (simp only [SS, Nat.reduceEqDiff, Nat.reduceAdd, iput, puts, FF, frzL_cat]; done) | (simp only [SS, Nat.reduceEqDiff, Nat.reduceAdd, iput, puts, FF, frzL_cat]; rfl)) (l02Arrows_fz KS ha c b as hl Iff.rfl) ?_
      simp only [SS, Nat.reduceEqDiff, Nat.reduceAdd, iput, puts, h0]
      exact ⟨_, rfl, H, fun _ _ h => h, rfl, rfl, Nat.le_refl _⟩
def V_spec_l02Rises : Vc :=
  .loop 0 [.c (int 1)] <|
  .op true (.p .len [.t 0]) <|
  .op true (.p (.bin .lss) [.t 1, .t 2]) <|
  .br 3
   (.op true (.p (.iad 1) [.t 0, .t 1]) <|
   .op true (.p (.ld none) [.t 4]) <|
   .op true (.p (.bin .sub) [.t 1, .c (int 1)]) <|
   .op true (.p (.iad 1) [.t 0, .t 6]) <|
   .op true (.p (.ld none) [.t 7]) <|
   .op true (.p (.bin .leq) [.t 5, .t 8]) <|
   .br 9
    (.ret [(.c (bool false), none)])
    (.op true (.p (.bin .add) [.t 1, .c (int 1)]) <|
    .again 0 [.t 10]))
   (.ret [(.c (bool true), none)])
theorem l02Rises_ok (h : Has P ν 366 1 V_spec_l02Rises) (l : List Int) (hl : l.length ≤ 1048576) : Fn P ν 366 [islice l] (bool (decide (Rising l))) := by
  intro H nx
  refine h _ _ _ _ rfl fun hwf => ?_
  unfold V_spec_l02Rises
  refine den_forS (l.length + 1) 1 (by omega) rfl (fun i => ∀ k, k + 1 < i → k + 1 < l.length → l.getD k 0 < l.getD (k + 1) 0) (fun k hk => by omega) fun i hi1 hi pi => ?_
  by_cases hli : i < l.length
  · have i2 : i - 1 < l.length := by omega
    simp only [SS, Nat.reduceEqDiff, Nat.reduceAdd, iput, puts, hli, i2, wrap_pred hi1 (by omega), wrap_succ (show i < 9223372036854775807 by omega)]
    refine ⟨fun h1 => ?_, fun h1 => up rfl (by omega) ⟨by omega, fun k hk hk' => ?_⟩⟩
    · exact ⟨_, rfl, H, fun _ _ h => h, ret_false (fun hC => by have := hC (i - 1) (by omega); rw [show i - 1 + 1 = i by omega] at this; omega), rfl, Nat.le_refl _⟩
    · by_cases e : k + 1 = i
      · subst e; simp only [Nat.add_sub_cancel] at h1; omega
      · exact pi k (by omega) hk'
  · simp only [SS, Nat.reduceEqDiff, Nat.reduceAdd, iput, puts, hli]
    exact ⟨_, rfl, H, fun _ _ h => h, ret_true (fun k hk => pi k (by omega) hk), rfl, Nat.le_refl _⟩
theorem Rising.le {l : List Int} {n : Int} (h : Rising l) (hw : Wn l n) : (l.length : Int) ≤ n ∨ l = [] := by
  by_cases e : l = []
  · exact .inr e
  · left
    have key : ∀ k : Nat, k < l.length → (k : Int) ≤ l.getD k 0 := by
      intro k
      induction k with
      | zero => intro hk; exact (hw 0 hk).1
      | succ k ih => intro hk; have := ih (by omega); have := h k hk; omega
    have hl : 0 < l.length := List.length_pos_iff.2 e
    have h1 := key (l.length - 1) (by omega)
    have h2 := (hw (l.length - 1) (by omega)).2
    omega
end Go.Av
