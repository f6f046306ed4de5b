/-
  Chains, their faces and degeneracies: the program's and the reference's.
-/
import Derived.Test.YtalfoffamemfnaaAvB7
namespace Go.Av
open Classical
set_option linter.unusedSimpArgs false
set_option linter.unusedVariables false
variable {P : Program} {ν : Nat → FuncId}

section
variable {C : Ct} {Φ : AV → Hp → Nat → Prop} {n : Nat} {vars : Nat → AV} {H : Hp} {nx : Nat} {Is : Nat → Inv} {r : Vc}
/-- An append of integers, or of none, to a slice of the call's own. -/
theorem den_appG {x y : Opd} {l m : List Int} {H0 : Hp} {nx0 : Nat} (h : IsI l H0 nx0 (ev vars x) H nx) (hy : ev vars y = islice m) (hlen : l.length + m.length ≤ 1099511627776)
    (hk : ∀ v H' nx', IsI (l ++ m) H0 nx0 v H' nx' → den C Φ r (n + 1) (put vars n v) H' nx' Is) : den C Φ (.op true (.app 1 x y) r) n vars H nx Is := by
  by_cases hm : m = []
  · subst hm
    have hc : appCells H 1 (ev vars y) = some (ints [], 0) := by rw [hy]; simp [appCells, islice, ints]
    rw [List.append_nil] at hk
    obtain ⟨h0, ⟨rfl, h2, rfl⟩ | ⟨o, g1, g2, h2, rfl⟩⟩ := h
    · refine den_app (q := (.nil, H, nx)) hc (ints_one _) ?_ (hk _ _ _ ⟨h0, .inl ⟨rfl, rfl, rfl⟩⟩)
      rw [h2]; rfl
    · refine den_app (q := (.ms o 0 l.length 1, hput H0 o (some (ints l)), nx)) hc (ints_one _) ?_ (hk _ _ _ ⟨h0, .inr ⟨o, g1, g2, rfl, rfl⟩⟩)
      rw [h2]
      simp only [appTo, hput, if_true, Nat.mul_one, appMax, ints_length]
      rw [if_pos ⟨trivial, by simpa using hlen⟩]
      simp only [Option.some.injEq, Prod.mk.injEq, true_and, and_true, ints, List.map_nil, List.append_nil, Nat.add_zero]
      exact hput_hput _ _ _ _
  · exact den_appI h hy hm hlen hk
end
theorem p_slcT {H : Hp} {l : List Int} {a : Int} (h0 : 0 ≤ a) (h1 : a ≤ l.length) : pvf H (.slc false true 1) [islice l, int a] = some (islice (l.take a.toNat)) := by
  have e : min a.toNat l.length = a.toNat := by omega
  simp only [pvf, pSlc, islice, int, List.getElem?_cons_zero, Option.bind_some, asI, if_true, Bool.false_eq_true, if_false, h0, h1, Int.le_refl, true_and, ints, List.length_map, Nat.mul_one, Int.sub_zero, Int.toNat_zero, List.drop_zero, List.length_take, e]
  rw [List.map_take]

def V_clone : Vc :=
  .op true (.p (.msl 0 [] []) []) <|
  .op true (.app 1 (.t 1) (.t 0)) <|
  .ret [(.t 2, none)]
theorem clone_ok (h : Has P ν 261 1 V_clone) (l : List Int) (hl : l.length ≤ 1099511627776) (H : Hp) (nx : Nat) : OkM P ν 261 [islice l] H nx (IsI l H nx) := by
  refine h _ _ _ _ rfl fun hwf => ?_
  unfold V_clone
  simp only [SS, Nat.reduceEqDiff, Nat.reduceAdd, iput, puts]
  refine den_appG (l := []) (m := l) (H0 := H) (nx0 := nx) (IsI.nil _ _) rfl (by simpa using hl) fun v H' nx' hI => ?_
  exact ⟨v, rfl, H', fun _ _ h => h, hI⟩
def V_spec_l01Own : Vc :=
  .op true (.p (.msl 0 [] []) []) <|
  .op true (.app 1 (.t 1) (.t 0)) <|
  .ret [(.t 2, none)]
theorem l01Own_ok (h : Has P ν 259 1 V_spec_l01Own) (l : List Int) (hl : l.length ≤ 1099511627776) (H : Hp) (nx : Nat) : OkM P ν 259 [islice l] H nx (IsI l H nx) := by
  refine h _ _ _ _ rfl fun hwf => ?_
  unfold V_spec_l01Own
  simp only [SS, Nat.reduceEqDiff, Nat.reduceAdd, iput, puts]
  refine den_appG (l := []) (m := l) (H0 := H) (nx0 := nx) (IsI.nil _ _) rfl (by simpa using hl) fun v H' nx' hI => ?_
  exact ⟨v, rfl, H', fun _ _ h => h, hI⟩

def Chain (c : Cat) (l : List Int) : Prop := ∀ k, k + 1 < l.length → c.T (l.getD k 0) = c.F (l.getD (k + 1) 0)
theorem wrap_pred {i : Nat} (h : 1 ≤ i) (h2 : i ≤ 9223372036854775807) : IntKind.i64.wrap ((i : Int) - 1) = ((i - 1 : Nat) : Int) := by rw [wrap_id (by omega) (by omega)]; omega

def V_Category_isChain : Vc :=
  .loop 0 [.c (int 1)] <|
  .op true (.p .len [.t 1]) <|
  .op true (.p (.bin .lss) [.t 2, .t 3]) <|
  .br 4
   (.op true (.p .nck [.t 0]) <|
   .op true (.p (.fad 2) [.t 5]) <|
   .op true (.p (.ld none) [.t 6]) <|
   .op true (.p (.bin .sub) [.t 2, .c (int 1)]) <|
   .op true (.p (.iad 1) [.t 1, .t 8]) <|
   .op true (.p (.ld none) [.t 9]) <|
   .op true (.p (.iad 1) [.t 7, .t 10]) <|
   .op true (.p (.ld none) [.t 11]) <|
   .op true (.p .nck [.t 0]) <|
   .op true (.p (.fad 1) [.t 13]) <|
   .op true (.p (.ld none) [.t 14]) <|
   .op true (.p (.iad 1) [.t 1, .t 2]) <|
   .op true (.p (.ld none) [.t 16]) <|
   .op true (.p (.iad 1) [.t 15, .t 17]) <|
   .op true (.p (.ld none) [.t 18]) <|
   .op true (.p (.bin .neq) [.t 12, .t 19]) <|
   .br 20
    (.ret [(.c (bool false), none)])
    (.op true (.p (.bin .add) [.t 2, .c (int 1)]) <|
    .again 0 [.t 21]))
   (.ret [(.c (bool true), none)])
theorem isChain_ok (h : Has P ν 379 2 V_Category_isChain) (c : Cat) (s : Shape c) (l : List Int) (hl : l.length ≤ 1048576) (hw : Wn l c.f.length) : Fn P ν 379 [.ptr c.cells 0, islice l] (bool (decide (Chain c l))) := by
  intro H nx
  refine h _ _ _ _ rfl fun hwf => ?_
  unfold V_Category_isChain
  have tl := s.tl
  refine den_forS (l.length + 1) 1 (by omega) rfl (fun i => ∀ k, k + 1 < i → k + 1 < l.length → c.T (l.getD k 0) = c.F (l.getD (k + 1) 0)) (fun k hk => by omega) fun i hi1 hi pi => ?_
  by_cases hli : i < l.length
  · obtain ⟨w0, w1⟩ := hw i hli
    have w2 : (l.getD i 0).toNat < c.f.length := by omega
    obtain ⟨v0, v1⟩ := hw (i - 1) (by omega)
    have v2 : (l.getD (i - 1) 0).toNat < c.f.length := by omega
    have i2 : i - 1 < l.length := by omega
    simp only [SS, Nat.reduceEqDiff, Nat.reduceAdd, iput, puts, cat1, cat2, tl, hli, i2, w0, w1, w2, v0, v1, v2, wrap_pred hi1 (by omega), wrap_succ (show i < 9223372036854775807 by omega)]
    refine ⟨fun h1 => ?_, fun h1 => up rfl (by omega) ⟨by omega, fun k hk hk' => ?_⟩⟩
    · exact ⟨_, rfl, H, fun _ _ h => h, ret_false (fun hC => h1 (by have := hC (i - 1) (by omega); rw [show i - 1 + 1 = i by omega] at this; exact this)), rfl, Nat.le_refl _⟩
    · by_cases e : k + 1 = i
      · subst e; exact h1
      · exact pi k (by omega) hk'
  · simp only [SS, Nat.reduceEqDiff, Nat.reduceAdd, iput, puts, hli]
    exact ⟨_, rfl, H, fun _ _ h => h, ret_true (fun k hk => pi k (by omega) hk), rfl, Nat.le_refl _⟩
def V_spec_l33Chain : Vc :=
  .op true (.p .box [.t 0]) <|
  .loop 0 [.c (int 1)] <|
  .op true (.p .len [.t 1]) <|
  .op true (.p (.bin .lss) [.t 3, .t 4]) <|
  .br 5
   (.op true (.p (.fad 1) [.t 2]) <|
   .op true (.p (.ld none) [.t 6]) <|
   .op true (.p (.iad 1) [.t 1, .t 3]) <|
   .op true (.p (.ld none) [.t 8]) <|
   .op true (.p (.iad 1) [.t 7, .t 9]) <|
   .op true (.p (.ld none) [.t 10]) <|
   .op true (.p (.fad 2) [.t 2]) <|
   .op true (.p (.ld none) [.t 12]) <|
   .op true (.p (.bin .sub) [.t 3, .c (int 1)]) <|
   .op true (.p (.iad 1) [.t 1, .t 14]) <|
   .op true (.p (.ld none) [.t 15]) <|
   .op true (.p (.iad 1) [.t 13, .t 16]) <|
   .op true (.p (.ld none) [.t 17]) <|
   .op true (.p (.bin .neq) [.t 11, .t 18]) <|
   .br 19
    (.ret [(.c (bool false), none)])
    (.op true (.p (.bin .add) [.t 3, .c (int 1)]) <|
    .again 0 [.t 20]))
   (.ret [(.c (bool true), none)])
theorem l33Chain_ok (h : Has P ν 258 2 V_spec_l33Chain) (c : Cat) (s : Shape c) (l : List Int) (hl : l.length ≤ 1048576) (hw : Wn l c.f.length) : Fn P ν 258 [.agg c.cells, islice l] (bool (decide (Chain c l))) := by
  intro H nx
  refine h _ _ _ _ rfl fun hwf => ?_
  unfold V_spec_l33Chain
  have tl := s.tl
  simp only [SS, Nat.reduceEqDiff, Nat.reduceAdd, iput, puts, p_boxc]
  refine den_forS (l.length + 1) 1 (by omega) rfl (fun i => ∀ k, k + 1 < i → k + 1 < l.length → c.T (l.getD k 0) = c.F (l.getD (k + 1) 0)) (fun k hk => by omega) fun i hi1 hi pi => ?_
  by_cases hli : i < l.length
  · obtain ⟨w0, w1⟩ := hw i hli
    have w2 : (l.getD i 0).toNat < c.f.length := by omega
    obtain ⟨v0, v1⟩ := hw (i - 1) (by omega)
    have v2 : (l.getD (i - 1) 0).toNat < c.f.length := by omega
    have i2 : i - 1 < l.length := by omega
    simp only [SS, Nat.reduceEqDiff, Nat.reduceAdd, iput, puts, cat1, cat2, tl, hli, i2, w0, w1, w2, v0, v1, v2, wrap_pred hi1 (by omega), wrap_succ (show i < 9223372036854775807 by omega)]
    refine ⟨fun h1 => ?_, fun h1 => up rfl (by omega) ⟨by omega, fun k hk hk' => ?_⟩⟩
    · exact ⟨_, rfl, H, fun _ _ h => h, ret_false (fun hC => h1 (by have := hC (i - 1) (by omega); rw [show i - 1 + 1 = i by omega] at this; exact this.symm)), rfl, Nat.le_refl _⟩
    · by_cases e : k + 1 = i
      · subst e; exact h1.symm
      · exact pi k (by omega) hk'
  · simp only [SS, Nat.reduceEqDiff, Nat.reduceAdd, iput, puts, hli]
    exact ⟨_, rfl, H, fun _ _ h => h, ret_true (fun k hk => pi k (by omega) hk), rfl, Nat.le_refl _⟩

/-- The error of a chain and a place in it. -/
def sco (a b r s : Prop) [Decidable a] [Decidable b] [Decidable r] [Decidable s] : Int := if code a b = 0 then if r then if s then 0 else 5 else 2 else code a b
def V_simplexCode : Vc :=
  .op true (.call (.f 18) [.t 0, .t 1]) <|
  .op true (.p (.bin .neq) [.t 4, .c (int 0)]) <|
  .br 5
   (.ret [(.t 4, none)])
   (.op true (.p .len [.t 1]) <|
   .op true (.call (.f 32) [.t 2, .c (int 0), .t 6]) <|
   .op true (.p .bnot [.t 7]) <|
   .br 8
    (.ret [(.c (int 2), none)])
    (.op true (.p .len [.t 1]) <|
    .op true (.p (.bin .lss) [.t 9, .t 3]) <|
    .br 10
     (.ret [(.c (int 5), none)])
     (.op true (.call (.f 379) [.t 0, .t 1]) <|
     .op true (.p .bnot [.t 11]) <|
     .br 12
      (.ret [(.c (int 5), none)])
      (.ret [(.c (int 0), none)]))))
theorem simplexCode_fz (K : HCat P ν) (hac : Has P ν 18 2 V_arrowCode) (hch : Has P ν 379 2 V_Category_isChain) (h : Has P ν 260 4 V_simplexCode) (c : Cat) (b : Small c) (l : List Int) (hl : l.length ≤ 1048576) (i : Int) (m : Nat) : Fz (OkM P ν) 260 [.ptr c.cells 0, islice l, int i, int m] (int (sco (IsCat c) (Wn l c.f.length) (0 ≤ i ∧ i ≤ (l.length : Int)) (m ≤ l.length ∧ Chain c l))) := by
  refine Fn.fzi fun H nx => h _ _ _ _ rfl fun hwf => ?_
  unfold V_simplexCode sco
  refine den_call (fc := (18, [])) rfl (by first | (simp only [SS, Nat.reduceEqDiff, Nat.reduceAdd, iput, puts, FF, frzL_cat]; done) | (simp only [SS, Nat.reduceEqDiff, Nat.reduceAdd, iput, puts, FF, frzL_cat]; rfl)) (arrowCode_fz K hac c b l hl Iff.rfl) ?_
  by_cases h0 : code (IsCat c) (Wn l c.f.length) = 0
  · obtain ⟨hc, hw⟩ := code_zero.1 h0
    simp only [SS, Nat.reduceEqDiff, Nat.reduceAdd, iput, puts, h0]
    refine den_call (fc := (32, [])) rfl (by first | (simp only [SS, Nat.reduceEqDiff, Nat.reduceAdd, iput, puts, FF, frzL_cat]; done) | (simp only [SS, Nat.reduceEqDiff, Nat.reduceAdd, iput, puts, FF, frzL_cat]; rfl)) ((inRange_ok K.inRange i 0 l.length).fzb) ?_
    simp only [SS, Nat.reduceEqDiff, Nat.reduceAdd, iput, puts]
    refine ⟨fun h1 => ?_, fun h1 => ⟨fun h2 => ?_, fun h2 => ?_⟩⟩
    · exact ⟨_, rfl, H, fun _ _ h => h, by rw [if_neg h1]; rfl, rfl, Nat.le_refl _⟩
    · exact ⟨_, rfl, H, fun _ _ h => h, by rw [if_pos h1, if_neg (by omega)]; rfl, rfl, Nat.le_refl _⟩
    refine den_call (fc := (379, [])) rfl (by first | (simp only [SS, Nat.reduceEqDiff, Nat.reduceAdd, iput, puts, FF, frzL_cat]; done) | (simp only [SS, Nat.reduceEqDiff, Nat.reduceAdd, iput, puts, FF, frzL_cat]; rfl)) ((isChain_ok hch c hc.1 l hl hw).fzb) ?_
    simp only [SS, Nat.reduceEqDiff, Nat.reduceAdd, iput, puts]
    refine ⟨fun h3 => ?_, fun h3 => ?_⟩
    · exact ⟨_, rfl, H, fun _ _ h => h, by rw [if_pos h1, if_neg fun hh => h3 hh.2]; rfl, rfl, Nat.le_refl _⟩
    · exact ⟨_, rfl, H, fun _ _ h => h, by rw [if_pos h1, if_pos ⟨by omega, h3⟩]; rfl, rfl, Nat.le_refl _⟩
  · simp only [SS, Nat.reduceEqDiff, Nat.reduceAdd, iput, puts, h0]
    exact ⟨_, rfl, H, fun _ _ h => h, rfl, rfl, Nat.le_refl _⟩

def V_DegenerateChain : Vc :=
  .op true (.p .box [.t 0]) <|
  .op true (.call (.f 260) [.t 3, .t 1, .t 2, .c (int 1)]) <|
  .op true (.p (.bin .neq) [.t 4, .c (int 0)]) <|
  .br 5
   (.ret [(.c (.nil), none), (.t 4, none)])
   (.op true (.p (.fad 2) [.t 3]) <|
   .op true (.p (.ld none) [.t 6]) <|
   .op true (.p .len [.t 1]) <|
   .op true (.p (.bin .sub) [.t 8, .c (int 1)]) <|
   .op true (.p (.iad 1) [.t 1, .t 9]) <|
   .op true (.p (.ld none) [.t 10]) <|
   .op true (.p (.iad 1) [.t 7, .t 11]) <|
   .op true (.p (.ld none) [.t 12]) <|
   .op true (.p .len [.t 1]) <|
   .op true (.p (.bin .lss) [.t 2, .t 14]) <|
   .br 15
    (.op true (.p (.fad 1) [.t 3]) <|
    .op true (.p (.ld none) [.t 16]) <|
    .op true (.p (.iad 1) [.t 1, .t 2]) <|
    .op true (.p (.ld none) [.t 18]) <|
    .op true (.p (.iad 1) [.t 17, .t 19]) <|
    .op true (.p (.ld none) [.t 20]) <|
    .op true (.p (.slc false true 1) [.t 1, .t 2]) <|
    .op true (.callm (.f 261) [.t 22]) <|
    .op false (.p (.fad 3) [.t 3]) <|
    .op false (.p (.ld none) [.t 24]) <|
    .op false (.p (.iad 1) [.t 25, .t 21]) <|
    .op false (.p (.ld none) [.t 26]) <|
    .op false (.p (.msl 1 [int 0] [(0, 1)]) [.t 27]) <|
    .op true (.app 1 (.t 23) (.t 28)) <|
    .op true (.p (.slc true false 1) [.t 1, .t 2]) <|
    .op true (.app 1 (.t 29) (.t 30)) <|
    .ret [(.t 31, none), (.c (int 0), none)])
    (.op true (.p (.slc false true 1) [.t 1, .t 2]) <|
    .op true (.callm (.f 261) [.t 16]) <|
    .op false (.p (.fad 3) [.t 3]) <|
    .op false (.p (.ld none) [.t 18]) <|
    .op false (.p (.iad 1) [.t 19, .t 13]) <|
    .op false (.p (.ld none) [.t 20]) <|
    .op false (.p (.msl 1 [int 0] [(0, 1)]) [.t 21]) <|
    .op true (.app 1 (.t 17) (.t 22)) <|
    .op true (.p (.slc true false 1) [.t 1, .t 2]) <|
    .op true (.app 1 (.t 23) (.t 24)) <|
    .ret [(.t 25, none), (.c (int 0), none)]))
def V_spec_DegenerateChain : Vc :=
  .op true (.p .box [.t 0]) <|
  .op true (.p (.ld (some 5)) [.t 3]) <|
  .op true (.call (.f 245) [.t 4, .t 1]) <|
  .op true (.p (.bin .neq) [.t 5, .c (int 0)]) <|
  .br 6
   (.ret [(.c (.nil), none), (.t 5, none)])
   (.op true (.p .len [.t 1]) <|
   .op true (.p (.bin .lss) [.t 2, .c (int 0)]) <|
   .br 8
    (.ret [(.c (.nil), none), (.c (int 2), none)])
    (.op true (.p (.bin .gtr) [.t 2, .t 7]) <|
    .br 9
     (.ret [(.c (.nil), none), (.c (int 2), none)])
     (.op true (.p (.bin .lss) [.t 7, .c (int 1)]) <|
     .br 10
      (.ret [(.c (.nil), none), (.c (int 5), none)])
      (.op true (.p (.ld (some 5)) [.t 3]) <|
      .op true (.call (.f 258) [.t 11, .t 1]) <|
      .op true (.p .bnot [.t 12]) <|
      .br 13
       (.ret [(.c (.nil), none), (.c (int 5), none)])
       (.op true (.p (.fad 2) [.t 3]) <|
       .op true (.p (.ld none) [.t 14]) <|
       .op true (.p (.bin .sub) [.t 7, .c (int 1)]) <|
       .op true (.p (.iad 1) [.t 1, .t 16]) <|
       .op true (.p (.ld none) [.t 17]) <|
       .op true (.p (.iad 1) [.t 15, .t 18]) <|
       .op true (.p (.ld none) [.t 19]) <|
       .op true (.p (.bin .lss) [.t 2, .t 7]) <|
       .br 21
        (.op true (.p (.fad 1) [.t 3]) <|
        .op true (.p (.ld none) [.t 22]) <|
        .op true (.p (.iad 1) [.t 1, .t 2]) <|
        .op true (.p (.ld none) [.t 24]) <|
        .op true (.p (.iad 1) [.t 23, .t 25]) <|
        .op true (.p (.ld none) [.t 26]) <|
        .op true (.p (.slc false true 1) [.t 1, .t 2]) <|
        .op true (.callm (.f 259) [.t 28]) <|
        .op false (.p (.fad 3) [.t 3]) <|
        .op false (.p (.ld none) [.t 30]) <|
        .op false (.p (.iad 1) [.t 31, .t 27]) <|
        .op false (.p (.ld none) [.t 32]) <|
        .op false (.p (.msl 1 [int 0] [(0, 1)]) [.t 33]) <|
        .op true (.app 1 (.t 29) (.t 34)) <|
        .op true (.p (.slc true false 1) [.t 1, .t 2]) <|
        .op true (.app 1 (.t 35) (.t 36)) <|
        .ret [(.t 37, none), (.c (int 0), none)])
        (.op true (.p (.slc false true 1) [.t 1, .t 2]) <|
        .op true (.callm (.f 259) [.t 22]) <|
        .op false (.p (.fad 3) [.t 3]) <|
        .op false (.p (.ld none) [.t 24]) <|
        .op false (.p (.iad 1) [.t 25, .t 20]) <|
        .op false (.p (.ld none) [.t 26]) <|
        .op false (.p (.msl 1 [int 0] [(0, 1)]) [.t 27]) <|
        .op true (.app 1 (.t 23) (.t 28)) <|
        .op true (.p (.slc true false 1) [.t 1, .t 2]) <|
        .op true (.app 1 (.t 29) (.t 30)) <|
        .ret [(.t 31, none), (.c (int 0), none)]))))))
set_option maxHeartbeats 1000000 in
theorem DegenerateChain_both (K : HCat P ν) (A : HArr P ν) (hcl : Has P ν 261 1 V_clone) (hch : Has P ν 379 2 V_Category_isChain) (hsx : Has P ν 260 4 V_simplexCode) (h : Has P ν 122 3 V_DegenerateChain) (KS : HSpec P ν) (ha : Has P ν 245 2 V_spec_l02Arrows) (how : Has P ν 259 1 V_spec_l01Own) (hsc : Has P ν 258 2 V_spec_l33Chain) (hs : Has P ν 121 3 V_spec_DegenerateChain) (c : Cat) (b : Small c) (l : List Int) (i : Int) (hl : l.length ≤ 1048576) :
    BothP P ν 122 121 [.agg c.cells, islice l, int i] := by
  by_cases h0 : code (IsCat c) (Wn l c.f.length) = 0
  · obtain ⟨hc, hw⟩ := code_zero.1 h0
    have s := hc.1
    have tl := s.tl
    have il := s.il
    by_cases h1 : 0 ≤ i ∧ i ≤ (l.length : Int)
    · obtain ⟨i0, i1⟩ := h1
      by_cases h2 : 1 ≤ l.length ∧ Chain c l
      · obtain ⟨l0, hC⟩ := h2
        have e0 : sco (IsCat c) (Wn l c.f.length) (0 ≤ i ∧ i ≤ (l.length : Int)) (1 ≤ l.length ∧ Chain c l) = 0 := by rw [sco, if_pos h0, if_pos ⟨i0, i1⟩, if_pos ⟨l0, hC⟩]
        have hlast := wrap_pred (i := l.length) l0 (by omega)
        have z3 : l.length - 1 < l.length := by omega
        obtain ⟨z0, z1⟩ := hw (l.length - 1) z3
        have z2 : (l.getD (l.length - 1) 0).toNat < c.f.length := by omega
        obtain ⟨b1, b2⟩ := s.tLt z2
        rw [Int.toNat_of_nonneg z0] at b1 b2
        simp only [Cat.T] at b1 b2
        have b3 : (c.t.getD (l.getD (l.length - 1) 0).toNat 0).toNat < c.i.length := by omega
        by_cases i3 : i < (l.length : Int)
        · have i2 : i.toNat < l.length := by omega
          obtain ⟨v0, v1⟩ := hw i.toNat i2
          have v2 : (l.getD i.toNat 0).toNat < c.f.length := by omega
          obtain ⟨a1, a2⟩ := s.fLt v2
          rw [Int.toNat_of_nonneg v0] at a1 a2
          simp only [Cat.F] at a1 a2
          have a3 : (c.f.getD (l.getD i.toNat 0).toNat 0).toNat < c.i.length := by omega
          refine ⟨l.take i.toNat ++ [c.i.getD (c.f.getD (l.getD i.toNat 0).toNat 0).toNat 0] ++ l.drop i.toNat, 0, by simp; omega, fun H nx => h _ _ _ _ rfl fun hwf => ?_, fun H nx => hs _ _ _ _ rfl fun hwf => ?_⟩
          · unfold V_DegenerateChain
            simp only [SS, Nat.reduceEqDiff, Nat.reduceAdd, iput, puts, p_boxc]
            refine den_call (fc := (260, [])) rfl (by first | (simp only [SS, Nat.reduceEqDiff, Nat.reduceAdd, iput, puts, FF, frzL_cat]; done) | (simp only [SS, Nat.reduceEqDiff, Nat.reduceAdd, iput, puts, FF, frzL_cat]; rfl)) (simplexCode_fz K A.code hch hsx c b l hl i 1) ?_
            simp only [SS, Nat.reduceEqDiff, Nat.reduceAdd, iput, puts, e0]
            simp only [SS, Nat.reduceEqDiff, Nat.reduceAdd, iput, puts, cat1, cat2, cat3, tl, hlast, z0, z1, z2, z3, i0, i3, i2, v0, v1, v2, p_slcT (l := l) i0 i1]
            refine den_callm (fc := (261, [])) rfl (clone_ok hcl (l.take i.toNat) (by simp; omega) H nx) (IsI.some _ _ _) fun u H' nx' hu => ?_
            simp only [SS, Nat.reduceEqDiff, Nat.reduceAdd, iput, puts, cat3, a1, a2, a3]
            refine den_appI (m := [c.i.getD (c.f.getD (l.getD i.toNat 0).toNat 0).toNat 0]) (H0 := H) (nx0 := nx) hu rfl (by simp) (by simp; omega) fun v2 H2 nx2 hI2 => ?_
            simp only [SS, Nat.reduceEqDiff, Nat.reduceAdd, iput, puts, p_slcI (l := l) i0 i1]
            refine den_appG (m := l.drop i.toNat) (H0 := H) (nx0 := nx) hI2 rfl (by simp; omega) fun v3 H3 nx3 hI3 => ?_
            exact ⟨_, rfl, H3, fun _ _ h => h, v3, rfl, hI3⟩
          · unfold V_spec_DegenerateChain
            simp only [SS, Nat.reduceEqDiff, Nat.reduceAdd, iput, puts, p_boxc, p_ldc]
            refine den_call (fc := (245, [])) rfl (by first | (simp only [SS, Nat.reduceEqDiff, Nat.reduceAdd, iput, puts, FF, frzL_cat]; done) | (simp only [SS, Nat.reduceEqDiff, Nat.reduceAdd, iput, puts, FF, frzL_cat]; rfl)) (l02Arrows_fz KS ha c b l hl Iff.rfl) ?_
            simp only [SS, Nat.reduceEqDiff, Nat.reduceAdd, iput, puts, p_ldc, h0, gt_iff_lt, show ¬ i < 0 by omega, show ¬ (l.length : Int) < i by omega, show ¬ (l.length : Int) < 1 by omega]
            refine den_call (fc := (258, [])) rfl (by first | (simp only [SS, Nat.reduceEqDiff, Nat.reduceAdd, iput, puts, FF, frzL_cat]; done) | (simp only [SS, Nat.reduceEqDiff, Nat.reduceAdd, iput, puts, FF, frzL_cat]; rfl)) ((l33Chain_ok hsc c s l hl hw).fzb) ?_
            simp only [SS, Nat.reduceEqDiff, Nat.reduceAdd, iput, puts, hC, decide_true]
            simp only [SS, Nat.reduceEqDiff, Nat.reduceAdd, iput, puts, cat1, cat2, cat3, tl, hlast, z0, z1, z2, z3, i0, i3, i2, v0, v1, v2, p_slcT (l := l) i0 i1]
            refine den_callm (fc := (259, [])) rfl (l01Own_ok how (l.take i.toNat) (by simp; omega) H nx) (IsI.some _ _ _) fun u H' nx' hu => ?_
            simp only [SS, Nat.reduceEqDiff, Nat.reduceAdd, iput, puts, cat3, a1, a2, a3]
            refine den_appI (m := [c.i.getD (c.f.getD (l.getD i.toNat 0).toNat 0).toNat 0]) (H0 := H) (nx0 := nx) hu rfl (by simp) (by simp; omega) fun v2 H2 nx2 hI2 => ?_
            simp only [SS, Nat.reduceEqDiff, Nat.reduceAdd, iput, puts, p_slcI (l := l) i0 i1]
            refine den_appG (m := l.drop i.toNat) (H0 := H) (nx0 := nx) hI2 rfl (by simp; omega) fun v3 H3 nx3 hI3 => ?_
            exact ⟨_, rfl, H3, fun _ _ h => h, v3, rfl, hI3⟩
        · refine ⟨l.take i.toNat ++ [c.i.getD (c.t.getD (l.getD (l.length - 1) 0).toNat 0).toNat 0] ++ l.drop i.toNat, 0, by simp; omega, fun H nx => h _ _ _ _ rfl fun hwf => ?_, fun H nx => hs _ _ _ _ rfl fun hwf => ?_⟩
          · unfold V_DegenerateChain
            simp only [SS, Nat.reduceEqDiff, Nat.reduceAdd, iput, puts, p_boxc]
            refine den_call (fc := (260, [])) rfl (by first | (simp only [SS, Nat.reduceEqDiff, Nat.reduceAdd, iput, puts, FF, frzL_cat]; done) | (simp only [SS, Nat.reduceEqDiff, Nat.reduceAdd, iput, puts, FF, frzL_cat]; rfl)) (simplexCode_fz K A.code hch hsx c b l hl i 1) ?_
            simp only [SS, Nat.reduceEqDiff, Nat.reduceAdd, iput, puts, e0]
            simp only [SS, Nat.reduceEqDiff, Nat.reduceAdd, iput, puts, cat1, cat2, cat3, tl, hlast, z0, z1, z2, z3, i3, p_slcT (l := l) i0 i1]
            refine den_callm (fc := (261, [])) rfl (clone_ok hcl (l.take i.toNat) (by simp; omega) H nx) (IsI.some _ _ _) fun u H' nx' hu => ?_
            simp only [SS, Nat.reduceEqDiff, Nat.reduceAdd, iput, puts, cat3, b1, b2, b3]
            refine den_appI (m := [c.i.getD (c.t.getD (l.getD (l.length - 1) 0).toNat 0).toNat 0]) (H0 := H) (nx0 := nx) hu rfl (by simp) (by simp; omega) fun v2 H2 nx2 hI2 => ?_
            simp only [SS, Nat.reduceEqDiff, Nat.reduceAdd, iput, puts, p_slcI (l := l) i0 i1]
            refine den_appG (m := l.drop i.toNat) (H0 := H) (nx0 := nx) hI2 rfl (by simp; omega) fun v3 H3 nx3 hI3 => ?_
            exact ⟨_, rfl, H3, fun _ _ h => h, v3, rfl, hI3⟩
          · unfold V_spec_DegenerateChain
            simp only [SS, Nat.reduceEqDiff, Nat.reduceAdd, iput, puts, p_boxc, p_ldc]
            refine den_call (fc := (245, [])) rfl (by first | (simp only [SS, Nat.reduceEqDiff, Nat.reduceAdd, iput, puts, FF, frzL_cat]; done) | (simp only [SS, Nat.reduceEqDiff, Nat.reduceAdd, iput, puts, FF, frzL_cat]; rfl)) (l02Arrows_fz KS ha c b l hl Iff.rfl) ?_
            simp only [SS, Nat.reduceEqDiff, Nat.reduceAdd, iput, puts, p_ldc, h0, gt_iff_lt, show ¬ i < 0 by omega, show ¬ (l.length : Int) < i by omega, show ¬ (l.length : Int) < 1 by omega]
            refine den_call (fc := (258, [])) rfl (by first | (simp only [SS, Nat.reduceEqDiff, Nat.reduceAdd, iput, puts, FF, frzL_cat]; done) | (simp only [SS, Nat.reduceEqDiff, Nat.reduceAdd, iput, puts, FF, frzL_cat]; rfl)) ((l33Chain_ok hsc c s l hl hw).fzb) ?_
            simp only [SS, Nat.reduceEqDiff, Nat.reduceAdd, iput, puts, hC, decide_true]
            simp only [SS, Nat.reduceEqDiff, Nat.reduceAdd, iput, puts, cat1, cat2, cat3, tl, hlast, z0, z1, z2, z3, i3, p_slcT (l := l) i0 i1]
            refine den_callm (fc := (259, [])) rfl (l01Own_ok how (l.take i.toNat) (by simp; omega) H nx) (IsI.some _ _ _) fun u H' nx' hu => ?_
            simp only [SS, Nat.reduceEqDiff, Nat.reduceAdd, iput, puts, cat3, b1, b2, b3]
            refine den_appI (m := [c.i.getD (c.t.getD (l.getD (l.length - 1) 0).toNat 0).toNat 0]) (H0 := H) (nx0 := nx) hu rfl (by simp) (by simp; omega) fun v2 H2 nx2 hI2 => ?_
            simp only [SS, Nat.reduceEqDiff, Nat.reduceAdd, iput, puts, p_slcI (l := l) i0 i1]
            refine den_appG (m := l.drop i.toNat) (H0 := H) (nx0 := nx) hI2 rfl (by simp; omega) fun v3 H3 nx3 hI3 => ?_
            exact ⟨_, rfl, H3, fun _ _ h => h, v3, rfl, hI3⟩
      · have e5 : sco (IsCat c) (Wn l c.f.length) (0 ≤ i ∧ i ≤ (l.length : Int)) (1 ≤ l.length ∧ Chain c l) = 5 := by rw [sco, if_pos h0, if_pos ⟨i0, i1⟩, if_neg h2]
        refine ⟨[], 5, by simp, fun H nx => h _ _ _ _ rfl fun hwf => ?_, fun H nx => hs _ _ _ _ rfl fun hwf => ?_⟩
        · unfold V_DegenerateChain
          simp only [SS, Nat.reduceEqDiff, Nat.reduceAdd, iput, puts, p_boxc]
          refine den_call (fc := (260, [])) rfl (by first | (simp only [SS, Nat.reduceEqDiff, Nat.reduceAdd, iput, puts, FF, frzL_cat]; done) | (simp only [SS, Nat.reduceEqDiff, Nat.reduceAdd, iput, puts, FF, frzL_cat]; rfl)) (simplexCode_fz K A.code hch hsx c b l hl i 1) ?_
          simp only [SS, Nat.reduceEqDiff, Nat.reduceAdd, iput, puts, e5, show ¬ (5 : Int) = 0 by omega]
          exact ⟨_, rfl, H, fun _ _ h => h, .nil, rfl, IsI.nil _ _⟩
        · unfold V_spec_DegenerateChain
          simp only [SS, Nat.reduceEqDiff, Nat.reduceAdd, iput, puts, p_boxc, p_ldc]
          refine den_call (fc := (245, [])) rfl (by first | (simp only [SS, Nat.reduceEqDiff, Nat.reduceAdd, iput, puts, FF, frzL_cat]; done) | (simp only [SS, Nat.reduceEqDiff, Nat.reduceAdd, iput, puts, FF, frzL_cat]; rfl)) (l02Arrows_fz KS ha c b l hl Iff.rfl) ?_
          simp only [SS, Nat.reduceEqDiff, Nat.reduceAdd, iput, puts, p_ldc, h0, show ¬ i < 0 by omega, show ¬ (l.length : Int) < i by omega, gt_iff_lt]
          refine ⟨fun h3 => ⟨_, rfl, H, fun _ _ h => h, .nil, rfl, IsI.nil _ _⟩, fun h3 => ?_⟩
          refine den_call (fc := (258, [])) rfl (by first | (simp only [SS, Nat.reduceEqDiff, Nat.reduceAdd, iput, puts, FF, frzL_cat]; done) | (simp only [SS, Nat.reduceEqDiff, Nat.reduceAdd, iput, puts, FF, frzL_cat]; rfl)) ((l33Chain_ok hsc c s l hl hw).fzb) ?_
          have : ¬ Chain c l := fun hC => h2 ⟨by omega, hC⟩
          simp only [SS, Nat.reduceEqDiff, Nat.reduceAdd, iput, puts, this, decide_false]
          exact ⟨_, rfl, H, fun _ _ h => h, .nil, rfl, IsI.nil _ _⟩
    · have e2 : sco (IsCat c) (Wn l c.f.length) (0 ≤ i ∧ i ≤ (l.length : Int)) (1 ≤ l.length ∧ Chain c l) = 2 := by rw [sco, if_pos h0, if_neg h1]
      refine ⟨[], 2, by simp, fun H nx => h _ _ _ _ rfl fun hwf => ?_, fun H nx => hs _ _ _ _ rfl fun hwf => ?_⟩
      · unfold V_DegenerateChain
        simp only [SS, Nat.reduceEqDiff, Nat.reduceAdd, iput, puts, p_boxc]
        refine den_call (fc := (260, [])) rfl (by first | (simp only [SS, Nat.reduceEqDiff, Nat.reduceAdd, iput, puts, FF, frzL_cat]; done) | (simp only [SS, Nat.reduceEqDiff, Nat.reduceAdd, iput, puts, FF, frzL_cat]; rfl)) (simplexCode_fz K A.code hch hsx c b l hl i 1) ?_
        simp only [SS, Nat.reduceEqDiff, Nat.reduceAdd, iput, puts, e2, show ¬ (2 : Int) = 0 by omega]
        exact ⟨_, rfl, H, fun _ _ h => h, .nil, rfl, IsI.nil _ _⟩
      · unfold V_spec_DegenerateChain
        simp only [SS, Nat.reduceEqDiff, Nat.reduceAdd, iput, puts, p_boxc, p_ldc]
        refine den_call (fc := (245, [])) rfl (by first | (simp only [SS, Nat.reduceEqDiff, Nat.reduceAdd, iput, puts, FF, frzL_cat]; done) | (simp only [SS, Nat.reduceEqDiff, Nat.reduceAdd, iput, puts, FF, frzL_cat]; rfl)) (l02Arrows_fz KS ha c b l hl Iff.rfl) ?_
        by_cases h3 : i < 0
        · simp only [SS, Nat.reduceEqDiff, Nat.reduceAdd, iput, puts, h0, h3]
          exact ⟨_, rfl, H, fun _ _ h => h, .nil, rfl, IsI.nil _ _⟩
        · simp only [SS, Nat.reduceEqDiff, Nat.reduceAdd, iput, puts, h0, h3, gt_iff_lt, show (l.length : Int) < i by omega]
          exact ⟨_, rfl, H, fun _ _ h => h, .nil, rfl, IsI.nil _ _⟩
  · have e1 : sco (IsCat c) (Wn l c.f.length) (0 ≤ i ∧ i ≤ (l.length : Int)) (1 ≤ l.length ∧ Chain c l) = code (IsCat c) (Wn l c.f.length) := by rw [sco, if_neg h0]
    refine ⟨[], code (IsCat c) (Wn l c.f.length), by simp, fun H nx => h _ _ _ _ rfl fun hwf => ?_, fun H nx => hs _ _ _ _ rfl fun hwf => ?_⟩
    · unfold V_DegenerateChain
      simp only [SS, Nat.reduceEqDiff, Nat.reduceAdd, iput, puts, p_boxc]
      refine den_call (fc := (260, [])) rfl (by first | (simp only [SS, Nat.reduceEqDiff, Nat.reduceAdd, iput, puts, FF, frzL_cat]; done) | (simp only [SS, Nat.reduceEqDiff, Nat.reduceAdd, iput, puts, FF, frzL_cat]; rfl)) (simplexCode_fz K A.code hch hsx c b l hl i 1) ?_
      simp only [SS, Nat.reduceEqDiff, Nat.reduceAdd, iput, puts, e1, h0]
      exact ⟨_, rfl, H, fun _ _ h => h, .nil, rfl, IsI.nil _ _⟩
    · unfold V_spec_DegenerateChain
      simp only [SS, Nat.reduceEqDiff, Nat.reduceAdd, iput, puts, p_boxc, p_ldc]
      refine den_call (fc := (245, [])) rfl (by first | (simp only [SS, Nat.reduceEqDiff, Nat.reduceAdd, iput, puts, FF, frzL_cat]; done) | (simp only [SS, Nat.reduceEqDiff, Nat.reduceAdd, iput, puts, FF, frzL_cat]; rfl)) (l02Arrows_fz KS ha c b l hl Iff.rfl) ?_
      simp only [SS, Nat.reduceEqDiff, Nat.reduceAdd, iput, puts, h0]
      exact ⟨_, rfl, H, fun _ _ h => h, .nil, rfl, IsI.nil _ _⟩

def V_FaceOfChain : Vc :=
  .op true (.p .box [.t 0]) <|
  .op true (.call (.f 260) [.t 3, .t 1, .t 2, .c (int 2)]) <|
  .op true (.p (.bin .neq) [.t 4, .c (int 0)]) <|
  .br 5
   (.ret [(.c (.nil), none), (.t 4, none)])
   (.op true (.p .len [.t 1]) <|
   .op true (.p (.bin .eql) [.t 2, .c (int 0)]) <|
   .br 7
    (.op true (.p (.slc true false 1) [.t 1, .c (int 1)]) <|
    .op true (.callm (.f 261) [.t 8]) <|
    .ret [(.t 9, none), (.c (int 0), none)])
    (.op true (.p (.bin .eql) [.t 2, .t 6]) <|
    .br 8
     (.op true (.p (.bin .sub) [.t 6, .c (int 1)]) <|
     .op true (.p (.slc false true 1) [.t 1, .t 9]) <|
     .op true (.callm (.f 261) [.t 10]) <|
     .ret [(.t 11, none), (.c (int 0), none)])
     (.op true (.p (.bin .sub) [.t 2, .c (int 1)]) <|
     .op true (.p (.slc false true 1) [.t 1, .t 9]) <|
     .op true (.callm (.f 261) [.t 10]) <|
     .op false (.p (.bin .sub) [.t 2, .c (int 1)]) <|
     .op false (.p (.iad 1) [.t 1, .t 12]) <|
     .op false (.p (.ld none) [.t 13]) <|
     .op false (.p (.iad 1) [.t 1, .t 2]) <|
     .op false (.p (.ld none) [.t 15]) <|
     .op true (.call (.f 34) [.t 3, .t 14, .t 16]) <|
     .op true (.p (.msl 1 [int 0] [(0, 1)]) [.t 17]) <|
     .op true (.app 1 (.t 11) (.t 18)) <|
     .op true (.p (.bin .add) [.t 2, .c (int 1)]) <|
     .op true (.p (.slc true false 1) [.t 1, .t 20]) <|
     .op true (.app 1 (.t 19) (.t 21)) <|
     .ret [(.t 22, none), (.c (int 0), none)])))
def V_spec_FaceOfChain : Vc :=
  .op true (.p .box [.t 0]) <|
  .op true (.p (.ld (some 5)) [.t 3]) <|
  .op true (.call (.f 245) [.t 4, .t 1]) <|
  .op true (.p (.bin .neq) [.t 5, .c (int 0)]) <|
  .br 6
   (.ret [(.c (.nil), none), (.t 5, none)])
   (.op true (.p .len [.t 1]) <|
   .op true (.p (.bin .lss) [.t 2, .c (int 0)]) <|
   .br 8
    (.ret [(.c (.nil), none), (.c (int 2), none)])
    (.op true (.p (.bin .gtr) [.t 2, .t 7]) <|
    .br 9
     (.ret [(.c (.nil), none), (.c (int 2), none)])
     (.op true (.p (.bin .lss) [.t 7, .c (int 2)]) <|
     .br 10
      (.ret [(.c (.nil), none), (.c (int 5), none)])
      (.op true (.p (.ld (some 5)) [.t 3]) <|
      .op true (.call (.f 258) [.t 11, .t 1]) <|
      .op true (.p .bnot [.t 12]) <|
      .br 13
       (.ret [(.c (.nil), none), (.c (int 5), none)])
       (.op true (.p (.bin .eql) [.t 2, .c (int 0)]) <|
       .br 14
        (.op true (.p (.slc true false 1) [.t 1, .c (int 1)]) <|
        .op true (.callm (.f 259) [.t 15]) <|
        .ret [(.t 16, none), (.c (int 0), none)])
        (.op true (.p (.bin .eql) [.t 2, .t 7]) <|
        .br 15
         (.op true (.p (.bin .sub) [.t 7, .c (int 1)]) <|
         .op true (.p (.slc false true 1) [.t 1, .t 16]) <|
         .op true (.callm (.f 259) [.t 17]) <|
         .ret [(.t 18, none), (.c (int 0), none)])
         (.op true (.p (.bin .sub) [.t 2, .c (int 1)]) <|
         .op true (.p (.slc false true 1) [.t 1, .t 16]) <|
         .op true (.callm (.f 259) [.t 17]) <|
         .op false (.p (.ld (some 5)) [.t 3]) <|
         .op false (.p (.bin .sub) [.t 2, .c (int 1)]) <|
         .op false (.p (.iad 1) [.t 1, .t 20]) <|
         .op false (.p (.ld none) [.t 21]) <|
         .op false (.p (.iad 1) [.t 1, .t 2]) <|
         .op false (.p (.ld none) [.t 23]) <|
         .op true (.call (.f 253) [.t 19, .t 22, .t 24]) <|
         .op true (.p (.msl 1 [int 0] [(0, 1)]) [.t 25]) <|
         .op true (.app 1 (.t 18) (.t 26)) <|
         .op true (.p (.bin .add) [.t 2, .c (int 1)]) <|
         .op true (.p (.slc true false 1) [.t 1, .t 28]) <|
         .op true (.app 1 (.t 27) (.t 29)) <|
         .ret [(.t 30, none), (.c (int 0), none)])))))))
set_option maxHeartbeats 1000000 in
theorem FaceOfChain_both (K : HCat P ν) (A : HArr P ν) (hcl : Has P ν 261 1 V_clone) (hch : Has P ν 379 2 V_Category_isChain) (hsx : Has P ν 260 4 V_simplexCode) (h : Has P ν 130 3 V_FaceOfChain) (KS : HSpec P ν) (ha : Has P ν 245 2 V_spec_l02Arrows) (hth : Has P ν 253 3 V_spec_l02Then) (how : Has P ν 259 1 V_spec_l01Own) (hsc : Has P ν 258 2 V_spec_l33Chain) (hs : Has P ν 129 3 V_spec_FaceOfChain) (c : Cat) (b : Small c) (l : List Int) (i : Int) (hl : l.length ≤ 1048576) :
    BothP P ν 130 129 [.agg c.cells, islice l, int i] := by
  by_cases h0 : code (IsCat c) (Wn l c.f.length) = 0
  · obtain ⟨hc, hw⟩ := code_zero.1 h0
    have s := hc.1
    have tl := s.tl
    have il := s.il
    by_cases h1 : 0 ≤ i ∧ i ≤ (l.length : Int)
    · obtain ⟨i0, i1⟩ := h1
      by_cases h2 : 2 ≤ l.length ∧ Chain c l
      · obtain ⟨l0, hC⟩ := h2
        have e0 : sco (IsCat c) (Wn l c.f.length) (0 ≤ i ∧ i ≤ (l.length : Int)) (2 ≤ l.length ∧ Chain c l) = 0 := by rw [sco, if_pos h0, if_pos ⟨i0, i1⟩, if_pos ⟨l0, hC⟩]
        have hlast := wrap_pred (i := l.length) (by omega) (by omega)
        by_cases h4 : i = 0
        · refine ⟨l.drop (1 : Int).toNat, 0, by simp; omega, fun H nx => h _ _ _ _ rfl fun hwf => ?_, fun H nx => hs _ _ _ _ rfl fun hwf => ?_⟩
          · unfold V_FaceOfChain
            simp only [SS, Nat.reduceEqDiff, Nat.reduceAdd, iput, puts, p_boxc]
            refine den_call (fc := (260, [])) rfl (by first | (simp only [SS, Nat.reduceEqDiff, Nat.reduceAdd, iput, puts, FF, frzL_cat]; done) | (simp only [SS, Nat.reduceEqDiff, Nat.reduceAdd, iput, puts, FF, frzL_cat]; rfl)) (simplexCode_fz K A.code hch hsx c b l hl i 2) ?_
            simp only [SS, Nat.reduceEqDiff, Nat.reduceAdd, iput, puts, e0]
            simp only [SS, Nat.reduceEqDiff, Nat.reduceAdd, iput, puts, h4, p_slcI (l := l) (a := 1) (by omega) (by omega)]
            refine den_callm (fc := (261, [])) rfl (clone_ok hcl (l.drop (1 : Int).toNat) (by simp; omega) H nx) (IsI.some _ _ _) fun u H' nx' hu => ?_
            exact ⟨_, rfl, H', fun _ _ h => h, u, rfl, hu⟩
          · unfold V_spec_FaceOfChain
            simp only [SS, Nat.reduceEqDiff, Nat.reduceAdd, iput, puts, p_boxc, p_ldc]
            refine den_call (fc := (245, [])) rfl (by first | (simp only [SS, Nat.reduceEqDiff, Nat.reduceAdd, iput, puts, FF, frzL_cat]; done) | (simp only [SS, Nat.reduceEqDiff, Nat.reduceAdd, iput, puts, FF, frzL_cat]; rfl)) (l02Arrows_fz KS ha c b l hl Iff.rfl) ?_
            simp only [SS, Nat.reduceEqDiff, Nat.reduceAdd, iput, puts, p_ldc, h0, gt_iff_lt, show ¬ i < 0 by omega, show ¬ (l.length : Int) < i by omega, show ¬ (l.length : Int) < 2 by omega]
            refine den_call (fc := (258, [])) rfl (by first | (simp only [SS, Nat.reduceEqDiff, Nat.reduceAdd, iput, puts, FF, frzL_cat]; done) | (simp only [SS, Nat.reduceEqDiff, Nat.reduceAdd, iput, puts, FF, frzL_cat]; rfl)) ((l33Chain_ok hsc c s l hl hw).fzb) ?_
            simp only [SS, Nat.reduceEqDiff, Nat.reduceAdd, iput, puts, hC, decide_true]
            simp only [SS, Nat.reduceEqDiff, Nat.reduceAdd, iput, puts, h4, p_slcI (l := l) (a := 1) (by omega) (by omega)]
            refine den_callm (fc := (259, [])) rfl (l01Own_ok how (l.drop (1 : Int).toNat) (by simp; omega) H nx) (IsI.some _ _ _) fun u H' nx' hu => ?_
            exact ⟨_, rfl, H', fun _ _ h => h, u, rfl, hu⟩
        · by_cases h5 : i = (l.length : Int)
          · subst h5
            refine ⟨l.take (l.length - 1), 0, by simp; omega, fun H nx => h _ _ _ _ rfl fun hwf => ?_, fun H nx => hs _ _ _ _ rfl fun hwf => ?_⟩
            · unfold V_FaceOfChain
              simp only [SS, Nat.reduceEqDiff, Nat.reduceAdd, iput, puts, p_boxc]
              refine den_call (fc := (260, [])) rfl (by first | (simp only [SS, Nat.reduceEqDiff, Nat.reduceAdd, iput, puts, FF, frzL_cat]; done) | (simp only [SS, Nat.reduceEqDiff, Nat.reduceAdd, iput, puts, FF, frzL_cat]; rfl)) (simplexCode_fz K A.code hch hsx c b l hl l.length 2) ?_
              rw [e0]
              simp only [SS, Nat.reduceEqDiff, Nat.reduceAdd, iput, puts]
              simp only [SS, Nat.reduceEqDiff, Nat.reduceAdd, iput, puts, h4, Int.toNat_natCast, hlast, p_slcT (l := l) (a := ((l.length - 1 : Nat) : Int)) (by omega) (by omega)]
              refine den_callm (fc := (261, [])) rfl (clone_ok hcl (l.take (l.length - 1)) (by simp; omega) H nx) (IsI.some _ _ _) fun u H' nx' hu => ?_
              exact ⟨_, rfl, H', fun _ _ h => h, u, rfl, hu⟩
            · unfold V_spec_FaceOfChain
              simp only [SS, Nat.reduceEqDiff, Nat.reduceAdd, iput, puts, p_boxc, p_ldc]
              refine den_call (fc := (245, [])) rfl (by first | (simp only [SS, Nat.reduceEqDiff, Nat.reduceAdd, iput, puts, FF, frzL_cat]; done) | (simp only [SS, Nat.reduceEqDiff, Nat.reduceAdd, iput, puts, FF, frzL_cat]; rfl)) (l02Arrows_fz KS ha c b l hl Iff.rfl) ?_
              simp only [SS, Nat.reduceEqDiff, Nat.reduceAdd, iput, puts, p_ldc, h0, gt_iff_lt, show ¬ (l.length : Int) < 0 by omega, Int.lt_irrefl, show ¬ (l.length : Int) < 2 by omega]
              refine den_call (fc := (258, [])) rfl (by first | (simp only [SS, Nat.reduceEqDiff, Nat.reduceAdd, iput, puts, FF, frzL_cat]; done) | (simp only [SS, Nat.reduceEqDiff, Nat.reduceAdd, iput, puts, FF, frzL_cat]; rfl)) ((l33Chain_ok hsc c s l hl hw).fzb) ?_
              simp only [SS, Nat.reduceEqDiff, Nat.reduceAdd, iput, puts, hC, decide_true]
              simp only [SS, Nat.reduceEqDiff, Nat.reduceAdd, iput, puts, h4, Int.toNat_natCast, hlast, p_slcT (l := l) (a := ((l.length - 1 : Nat) : Int)) (by omega) (by omega)]
              refine den_callm (fc := (259, [])) rfl (l01Own_ok how (l.take (l.length - 1)) (by simp; omega) H nx) (IsI.some _ _ _) fun u H' nx' hu => ?_
              exact ⟨_, rfl, H', fun _ _ h => h, u, rfl, hu⟩
          · have i3 : i < (l.length : Int) := by omega
            have i2 : i.toNat < l.length := by omega
            have j0 : 0 ≤ i - 1 := by omega
            have j1 : i - 1 < (l.length : Int) := by omega
            have j2 : (i - 1).toNat < l.length := by omega
            have wi1 : IntKind.i64.wrap (i - 1) = i - 1 := wrap_id (by omega) (by omega)
            have wi2 : IntKind.i64.wrap (i + 1) = i + 1 := wrap_id (by omega) (by omega)
            obtain ⟨v0, v1⟩ := hw (i - 1).toNat j2
            obtain ⟨w0, w1⟩ := hw i.toNat i2
            refine ⟨l.take (i - 1).toNat ++ [c.K (l.getD (i - 1).toNat 0) (l.getD i.toNat 0)] ++ l.drop (i + 1).toNat, 0, by simp; omega, fun H nx => h _ _ _ _ rfl fun hwf => ?_, fun H nx => hs _ _ _ _ rfl fun hwf => ?_⟩
            · unfold V_FaceOfChain
              simp only [SS, Nat.reduceEqDiff, Nat.reduceAdd, iput, puts, p_boxc]
              refine den_call (fc := (260, [])) rfl (by first | (simp only [SS, Nat.reduceEqDiff, Nat.reduceAdd, iput, puts, FF, frzL_cat]; done) | (simp only [SS, Nat.reduceEqDiff, Nat.reduceAdd, iput, puts, FF, frzL_cat]; rfl)) (simplexCode_fz K A.code hch hsx c b l hl i 2) ?_
              simp only [SS, Nat.reduceEqDiff, Nat.reduceAdd, iput, puts, e0]
              simp only [SS, Nat.reduceEqDiff, Nat.reduceAdd, iput, puts, h4, h5, wi1, p_slcT (l := l) (a := i - 1) (by omega) (by omega)]
              refine den_callm (fc := (261, [])) rfl (clone_ok hcl (l.take (i - 1).toNat) (by simp; omega) H nx) (IsI.some _ _ _) fun u H' nx' hu => ?_
              simp only [SS, Nat.reduceEqDiff, Nat.reduceAdd, iput, puts, wi1, wi2, i0, i3, i2, j0, j1, j2]
              refine den_call (fc := (34, [])) rfl (by first | (simp only [SS, Nat.reduceEqDiff, Nat.reduceAdd, iput, puts, FF, frzL_cat]; done) | (simp only [SS, Nat.reduceEqDiff, Nat.reduceAdd, iput, puts, FF, frzL_cat]; rfl)) (s.then_fz K.thn _ _ v0 v1 w0 w1) ?_
              simp only [SS, Nat.reduceEqDiff, Nat.reduceAdd, iput, puts]
              refine den_appI (m := [c.K (l.getD (i - 1).toNat 0) (l.getD i.toNat 0)]) (H0 := H) (nx0 := nx) hu rfl (by simp) (by simp; omega) fun v2 H2 nx2 hI2 => ?_
              simp only [SS, Nat.reduceEqDiff, Nat.reduceAdd, iput, puts, wi2, p_slcI (l := l) (a := i + 1) (by omega) (by omega)]
              refine den_appG (m := l.drop (i + 1).toNat) (H0 := H) (nx0 := nx) hI2 rfl (by simp; omega) fun v3 H3 nx3 hI3 => ?_
              exact ⟨_, rfl, H3, fun _ _ h => h, v3, rfl, hI3⟩
            · unfold V_spec_FaceOfChain
              simp only [SS, Nat.reduceEqDiff, Nat.reduceAdd, iput, puts, p_boxc, p_ldc]
              refine den_call (fc := (245, [])) rfl (by first | (simp only [SS, Nat.reduceEqDiff, Nat.reduceAdd, iput, puts, FF, frzL_cat]; done) | (simp only [SS, Nat.reduceEqDiff, Nat.reduceAdd, iput, puts, FF, frzL_cat]; rfl)) (l02Arrows_fz KS ha c b l hl Iff.rfl) ?_
              simp only [SS, Nat.reduceEqDiff, Nat.reduceAdd, iput, puts, p_ldc, h0, gt_iff_lt, show ¬ i < 0 by omega, show ¬ (l.length : Int) < i by omega, show ¬ (l.length : Int) < 2 by omega]
              refine den_call (fc := (258, [])) rfl (by first | (simp only [SS, Nat.reduceEqDiff, Nat.reduceAdd, iput, puts, FF, frzL_cat]; done) | (simp only [SS, Nat.reduceEqDiff, Nat.reduceAdd, iput, puts, FF, frzL_cat]; rfl)) ((l33Chain_ok hsc c s l hl hw).fzb) ?_
              simp only [SS, Nat.reduceEqDiff, Nat.reduceAdd, iput, puts, hC, decide_true]
              simp only [SS, Nat.reduceEqDiff, Nat.reduceAdd, iput, puts, h4, h5, wi1, p_slcT (l := l) (a := i - 1) (by omega) (by omega)]
              refine den_callm (fc := (259, [])) rfl (l01Own_ok how (l.take (i - 1).toNat) (by simp; omega) H nx) (IsI.some _ _ _) fun u H' nx' hu => ?_
              simp only [SS, Nat.reduceEqDiff, Nat.reduceAdd, iput, puts, p_ldc, wi1, wi2, i0, i3, i2, j0, j1, j2]
              refine den_call (fc := (253, [])) rfl (by first | (simp only [SS, Nat.reduceEqDiff, Nat.reduceAdd, iput, puts, FF, frzL_cat]; done) | (simp only [SS, Nat.reduceEqDiff, Nat.reduceAdd, iput, puts, FF, frzL_cat]; rfl)) (s.l02Then_fz hth _ _ v0 v1 w0 w1) ?_
              simp only [SS, Nat.reduceEqDiff, Nat.reduceAdd, iput, puts]
              refine den_appI (m := [c.K (l.getD (i - 1).toNat 0) (l.getD i.toNat 0)]) (H0 := H) (nx0 := nx) hu rfl (by simp) (by simp; omega) fun v2 H2 nx2 hI2 => ?_
              simp only [SS, Nat.reduceEqDiff, Nat.reduceAdd, iput, puts, wi2, p_slcI (l := l) (a := i + 1) (by omega) (by omega)]
              refine den_appG (m := l.drop (i + 1).toNat) (H0 := H) (nx0 := nx) hI2 rfl (by simp; omega) fun v3 H3 nx3 hI3 => ?_
              exact ⟨_, rfl, H3, fun _ _ h => h, v3, rfl, hI3⟩

      · have e5 : sco (IsCat c) (Wn l c.f.length) (0 ≤ i ∧ i ≤ (l.length : Int)) (2 ≤ l.length ∧ Chain c l) = 5 := by rw [sco, if_pos h0, if_pos ⟨i0, i1⟩, if_neg h2]
        refine ⟨[], 5, by simp, fun H nx => h _ _ _ _ rfl fun hwf => ?_, fun H nx => hs _ _ _ _ rfl fun hwf => ?_⟩
        · unfold V_FaceOfChain
          simp only [SS, Nat.reduceEqDiff, Nat.reduceAdd, iput, puts, p_boxc]
          refine den_call (fc := (260, [])) rfl (by first | (simp only [SS, Nat.reduceEqDiff, Nat.reduceAdd, iput, puts, FF, frzL_cat]; done) | (simp only [SS, Nat.reduceEqDiff, Nat.reduceAdd, iput, puts, FF, frzL_cat]; rfl)) (simplexCode_fz K A.code hch hsx c b l hl i 2) ?_
          simp only [SS, Nat.reduceEqDiff, Nat.reduceAdd, iput, puts, e5, show ¬ (5 : Int) = 0 by omega]
          exact ⟨_, rfl, H, fun _ _ h => h, .nil, rfl, IsI.nil _ _⟩
        · unfold V_spec_FaceOfChain
          simp only [SS, Nat.reduceEqDiff, Nat.reduceAdd, iput, puts, p_boxc, p_ldc]
          refine den_call (fc := (245, [])) rfl (by first | (simp only [SS, Nat.reduceEqDiff, Nat.reduceAdd, iput, puts, FF, frzL_cat]; done) | (simp only [SS, Nat.reduceEqDiff, Nat.reduceAdd, iput, puts, FF, frzL_cat]; rfl)) (l02Arrows_fz KS ha c b l hl Iff.rfl) ?_
          simp only [SS, Nat.reduceEqDiff, Nat.reduceAdd, iput, puts, p_ldc, h0, show ¬ i < 0 by omega, show ¬ (l.length : Int) < i by omega, gt_iff_lt]
          refine ⟨fun h3 => ⟨_, rfl, H, fun _ _ h => h, .nil, rfl, IsI.nil _ _⟩, fun h3 => ?_⟩
          refine den_call (fc := (258, [])) rfl (by first | (simp only [SS, Nat.reduceEqDiff, Nat.reduceAdd, iput, puts, FF, frzL_cat]; done) | (simp only [SS, Nat.reduceEqDiff, Nat.reduceAdd, iput, puts, FF, frzL_cat]; rfl)) ((l33Chain_ok hsc c s l hl hw).fzb) ?_
          have : ¬ Chain c l := fun hC => h2 ⟨by omega, hC⟩
          simp only [SS, Nat.reduceEqDiff, Nat.reduceAdd, iput, puts, this, decide_false]
          exact ⟨_, rfl, H, fun _ _ h => h, .nil, rfl, IsI.nil _ _⟩
    · have e2 : sco (IsCat c) (Wn l c.f.length) (0 ≤ i ∧ i ≤ (l.length : Int)) (2 ≤ l.length ∧ Chain c l) = 2 := by rw [sco, if_pos h0, if_neg h1]
      refine ⟨[], 2, by simp, fun H nx => h _ _ _ _ rfl fun hwf => ?_, fun H nx => hs _ _ _ _ rfl fun hwf => ?_⟩
      · unfold V_FaceOfChain
        simp only [SS, Nat.reduceEqDiff, Nat.reduceAdd, iput, puts, p_boxc]
        refine den_call (fc := (260, [])) rfl (by first | (simp only [SS, Nat.reduceEqDiff, Nat.reduceAdd, iput, puts, FF, frzL_cat]; done) | (simp only [SS, Nat.reduceEqDiff, Nat.reduceAdd, iput, puts, FF, frzL_cat]; rfl)) (simplexCode_fz K A.code hch hsx c b l hl i 2) ?_
        simp only [SS, Nat.reduceEqDiff, Nat.reduceAdd, iput, puts, e2, show ¬ (2 : Int) = 0 by omega]
        exact ⟨_, rfl, H, fun _ _ h => h, .nil, rfl, IsI.nil _ _⟩
      · unfold V_spec_FaceOfChain
        simp only [SS, Nat.reduceEqDiff, Nat.reduceAdd, iput, puts, p_boxc, p_ldc]
        refine den_call (fc := (245, [])) rfl (by first | (simp only [SS, Nat.reduceEqDiff, Nat.reduceAdd, iput, puts, FF, frzL_cat]; done) | (simp only [SS, Nat.reduceEqDiff, Nat.reduceAdd, iput, puts, FF, frzL_cat]; rfl)) (l02Arrows_fz KS ha c b l hl Iff.rfl) ?_
        by_cases h3 : i < 0
        · simp only [SS, Nat.reduceEqDiff, Nat.reduceAdd, iput, puts, h0, h3]
          exact ⟨_, rfl, H, fun _ _ h => h, .nil, rfl, IsI.nil _ _⟩
        · simp only [SS, Nat.reduceEqDiff, Nat.reduceAdd, iput, puts, h0, h3, gt_iff_lt, show (l.length : Int) < i by omega]
          exact ⟨_, rfl, H, fun _ _ h => h, .nil, rfl, IsI.nil _ _⟩
  · have e1 : sco (IsCat c) (Wn l c.f.length) (0 ≤ i ∧ i ≤ (l.length : Int)) (2 ≤ l.length ∧ Chain c l) = code (IsCat c) (Wn l c.f.length) := by rw [sco, if_neg h0]
    refine ⟨[], code (IsCat c) (Wn l c.f.length), by simp, fun H nx => h _ _ _ _ rfl fun hwf => ?_, fun H nx => hs _ _ _ _ rfl fun hwf => ?_⟩
    · unfold V_FaceOfChain
      simp only [SS, Nat.reduceEqDiff, Nat.reduceAdd, iput, puts, p_boxc]
      refine den_call (fc := (260, [])) rfl (by first | (simp only [SS, Nat.reduceEqDiff, Nat.reduceAdd, iput, puts, FF, frzL_cat]; done) | (simp only [SS, Nat.reduceEqDiff, Nat.reduceAdd, iput, puts, FF, frzL_cat]; rfl)) (simplexCode_fz K A.code hch hsx c b l hl i 2) ?_
      simp only [SS, Nat.reduceEqDiff, Nat.reduceAdd, iput, puts, e1, h0]
      exact ⟨_, rfl, H, fun _ _ h => h, .nil, rfl, IsI.nil _ _⟩
    · unfold V_spec_FaceOfChain
      simp only [SS, Nat.reduceEqDiff, Nat.reduceAdd, iput, puts, p_boxc, p_ldc]
      refine den_call (fc := (245, [])) rfl (by first | (simp only [SS, Nat.reduceEqDiff, Nat.reduceAdd, iput, puts, FF, frzL_cat]; done) | (simp only [SS, Nat.reduceEqDiff, Nat.reduceAdd, iput, puts, FF, frzL_cat]; rfl)) (l02Arrows_fz KS ha c b l hl Iff.rfl) ?_
      simp only [SS, Nat.reduceEqDiff, Nat.reduceAdd, iput, puts, h0]
      exact ⟨_, rfl, H, fun _ _ h => h, .nil, rfl, IsI.nil _ _⟩
end Go.Av
