/-
  Arrows between two objects, lifts, sections; the error codes.
-/
import Derived.Test.YtbgaobcgpkjjkaaAvA3
namespace Go.Av
open Classical
set_option linter.unusedSimpArgs false
set_option linter.unusedVariables false
variable {P : Program} {ν : Nat → FuncId}

/-- The numbers below n that meet p, rising. -/
def selL (n : Nat) (p : Nat → Bool) : List Int := ((List.range n).filter p).map fun (k : Nat) => (k : Int)
theorem selL_succ (m : Nat) (p : Nat → Bool) : selL (m + 1) p = selL m p ++ (if p m then [(m : Int)] else []) := by
  simp only [selL, List.range_succ, List.filter_append, List.map_append]
  congr 1
  simp only [List.filter_cons, List.filter_nil]
  split <;> simp
theorem selL_len (m : Nat) (p : Nat → Bool) : (selL m p).length ≤ m := by
  simp only [selL, List.length_map]; exact Nat.le_trans (List.length_filter_le _ _) (by simp)
theorem selL_mem {m : Nat} {p : Nat → Bool} {x : Int} (h : x ∈ selL m p) : ∃ k : Nat, x = k ∧ k < m ∧ p k = true := by
  simp only [selL, List.mem_map, List.mem_filter, List.mem_range] at h
  obtain ⟨k, ⟨h1, h2⟩, rfl⟩ := h
  exact ⟨k, rfl, h1, h2⟩
theorem selL_filter (m : Nat) (p : Nat → Bool) (q : Int → Bool) : (selL m p).filter q = selL m fun k => p k && q k := by
  simp only [selL, List.filter_map, List.filter_filter]
  congr 1
  exact List.filter_congr fun k _ => by simp [Bool.and_comm]
theorem selL_congr {m : Nat} {p q : Nat → Bool} (h : ∀ k, k < m → p k = q k) : selL m p = selL m q := by
  simp only [selL]; congr 1; exact List.filter_congr fun k hk => h k (by simpa using hk)
theorem getD_mem {l : List Int} {i : Nat} (h : i < l.length) : l.getD i 0 ∈ l := by simp [List.getD, h]
theorem take_filter {l : List Int} {q : Int → Bool} {i : Nat} (h : i < l.length) : (l.take (i + 1)).filter q = (l.take i).filter q ++ (if q (l.getD i 0) then [l.getD i 0] else []) := by
  rw [List.take_succ_eq_append_getElem h, List.filter_append]
  congr 1
  simp only [List.filter_cons, List.filter_nil, List.getD_eq_getElem?_getD, List.getElem?_eq_getElem h, Option.getD_some]
theorem take_filter_len (l : List Int) (q : Int → Bool) (i : Nat) : ((l.take i).filter q).length ≤ i := Nat.le_trans (List.length_filter_le _ _) (by simp; omega)

def homL (c : Cat) (x y : Int) : List Int := selL c.f.length fun k => c.F k == x && c.T k == y
theorem homL_mem {c : Cat} {x y h : Int} (hh : h ∈ homL c x y) : 0 ≤ h ∧ h < c.f.length ∧ c.F h = x ∧ c.T h = y := by
  obtain ⟨k, rfl, h1, h2⟩ := selL_mem hh
  simp only [Bool.and_eq_true, beq_iff_eq] at h2
  exact ⟨by omega, by omega, h2.1, h2.2⟩

def V_Category_hom : Vc :=
  .op true (.p (.msl 0 [] []) []) <|
  .op true (.p .nck [.t 0]) <|
  .op true (.p (.fad 1) [.t 4]) <|
  .op true (.p (.ld none) [.t 5]) <|
  .op true (.p .len [.t 6]) <|
  .loop 0 [.t 3, .c (int 0)] <|
  .op true (.p (.bin .lss) [.t 9, .t 7]) <|
  .br 10
   (.op true (.p .nck [.t 0]) <|
   .op true (.p (.fad 1) [.t 11]) <|
   .op true (.p (.ld none) [.t 12]) <|
   .op true (.p (.iad 1) [.t 13, .t 9]) <|
   .op true (.p (.ld none) [.t 14]) <|
   .op true (.p (.bin .eql) [.t 15, .t 1]) <|
   .br 16
    (.op true (.p .nck [.t 0]) <|
    .op true (.p (.fad 2) [.t 17]) <|
    .op true (.p (.ld none) [.t 18]) <|
    .op true (.p (.iad 1) [.t 19, .t 9]) <|
    .op true (.p (.ld none) [.t 20]) <|
    .op true (.p (.bin .eql) [.t 21, .t 2]) <|
    .br 22
     (.op true (.p (.msl 1 [int 0] [(0, 1)]) [.t 9]) <|
     .op true (.app 1 (.t 8) (.t 23)) <|
     .op true (.p (.bin .add) [.t 9, .c (int 1)]) <|
     .again 0 [.t 24, .t 25])
     (.op true (.p (.bin .add) [.t 9, .c (int 1)]) <|
     .again 0 [.t 8, .t 23]))
    (.op true (.p (.bin .add) [.t 9, .c (int 1)]) <|
    .again 0 [.t 8, .t 17]))
   (.ret [(.t 8, none)])
theorem hom_ok (h : Has P ν 33 3 V_Category_hom) (c : Cat) (x y : Int) (H : Hp) (nx : Nat) (hc : c.f.length ≤ c.t.length) (hb : c.f.length ≤ 1048576) : OkM P ν 33 [.ptr c.cells 0, int x, int y] H nx (IsI (homL c x y) H nx) := by
  refine h _ _ _ _ rfl fun hwf => ?_
  unfold V_Category_hom
  simp only [SS, Nat.reduceEqDiff, Nat.reduceAdd, iput, puts, cat1]
  refine den_loop (α := Nat × AV) (fun a => [a.2, int a.1]) (fun a H' nx' => a.1 ≤ c.f.length ∧ IsI (selL a.1 fun k => c.F k == x && c.T k == y) H nx a.2 H' nx') (fun a => c.f.length - a.1) (0, .nil) ?_ ?_ ?_
  · simp only [SS, Nat.reduceEqDiff, Nat.reduceAdd, iput, puts]; rfl
  · exact ⟨Nat.zero_le _, Nat.le_refl _, .inl ⟨rfl, rfl, rfl⟩⟩
  · rintro ⟨i, v⟩ H' nx' ⟨hi, hI⟩
    simp only at hi hI
    have hs := selL_succ i fun k => c.F k == x && c.T k == y
    have hl := selL_len i fun k => c.F k == x && c.T k == y
    by_cases hlt : i < c.f.length
    · have hlt2 : i < c.t.length := by omega
      simp only [SS, Nat.reduceEqDiff, Nat.reduceAdd, iput, puts, cat1, cat2, hlt, hlt2, wrap_succ (show i < 9223372036854775807 by omega), not_true_eq_false]
      refine ⟨fun h1 => ⟨fun h2 => ?_, fun h2 => ?_⟩, fun h1 => ?_⟩
      · refine den_appI (m := [(i : Int)]) (H0 := H) (nx0 := nx) hI rfl (by simp) (by simp; omega) fun v2 H2 nx2 hI2 => ?_
        simp only [SS, Nat.reduceEqDiff, Nat.reduceAdd, iput, puts, wrap_succ (show i < 9223372036854775807 by omega)]
        rw [← F_nat] at h1
        rw [← T_nat] at h2
        exact ⟨(i + 1, v2), rfl, ⟨by simp only; omega, by simp only [hs, h1, h2]; simpa using hI2⟩, by simp only; omega⟩
      · rw [← T_nat] at h2
        exact ⟨(i + 1, v), rfl, ⟨by simp only; omega, by simp only [hs, beq_eq_false_iff_ne.2 h2]; simpa using hI⟩, by simp only; omega⟩
      · rw [← F_nat] at h1
        exact ⟨(i + 1, v), rfl, ⟨by simp only; omega, by simp only [hs, beq_eq_false_iff_ne.2 h1]; simpa using hI⟩, by simp only; omega⟩
    · have hi' : i = c.f.length := by omega
      subst hi'
      simp only [SS, Nat.reduceEqDiff, Nat.reduceAdd, iput, puts, hlt, not_false_eq_true]
      exact ⟨v, rfl, H', fun _ _ h => h, hI⟩
theorem hom_fz (h : Has P ν 33 3 V_Category_hom) (c : Cat) (x y : Int) (hc : c.f.length ≤ c.t.length) (hb : c.f.length ≤ 1048576) : Fz (OkM P ν) 33 [.ptr c.cells 0, int x, int y] (islice (homL c x y)) :=
  OkM.fz (fun H nx => hom_ok h c x y H nx hc hb) fun _ _ _ hh => hh.frz _

/-- A pair of a slice of the call's own and a number. -/
def IsP (l : List Int) (k : Int) (H : Hp) (nx : Nat) (r : AV) (H' : Hp) (nx' : Nat) : Prop := ∃ r0, r = .tup [r0, int k] ∧ IsI l H nx r0 H' nx'
theorem IsP.frz {l : List Int} {k : Int} {H : Hp} {nx : Nat} {r : AV} {H' : Hp} {nx' : Nat} (h : IsP l k H nx r H' nx') : frzN H' fuel r = some (.tup [islice l, int k]) := by
  obtain ⟨r0, rfl, h⟩ := h
  have := h.frz 4
  simp [fuel, frzN, this, frzN_int]

theorem Shape.then_fz (ht : Has P ν 34 3 V_Category_then) {c : Cat} (s : Shape c) (a b : Int) (h1 : 0 ≤ a) (h2 : a < c.f.length) (h3 : 0 ≤ b) (h4 : b < c.f.length) : Fz (OkM P ν) 34 [.ptr c.cells 0, int a, int b] (int (c.K a b)) :=
  (then_ok ht c a b h1 (by have := s.cl; omega) h3 (by rw [s.rowLen h1 h2]; exact h4)).fzi

def liftsL (c : Cat) (f g : Int) : List Int := (homL c (c.F f) (c.F g)).filter fun h => c.K h g == f

def V_Category_lifts : Vc :=
  .op true (.p (.msl 0 [] []) []) <|
  .op true (.p .nck [.t 0]) <|
  .op true (.p (.fad 1) [.t 4]) <|
  .op true (.p (.ld none) [.t 5]) <|
  .op true (.p (.iad 1) [.t 6, .t 1]) <|
  .op true (.p (.ld none) [.t 7]) <|
  .op true (.p .nck [.t 0]) <|
  .op true (.p (.fad 1) [.t 9]) <|
  .op true (.p (.ld none) [.t 10]) <|
  .op true (.p (.iad 1) [.t 11, .t 2]) <|
  .op true (.p (.ld none) [.t 12]) <|
  .op true (.call (.f 33) [.t 0, .t 8, .t 13]) <|
  .op true (.p .len [.t 14]) <|
  .loop 0 [.t 3, .c (int 0)] <|
  .op true (.p (.bin .lss) [.t 17, .t 15]) <|
  .br 18
   (.op true (.p (.iad 1) [.t 14, .t 17]) <|
   .op true (.p (.ld none) [.t 19]) <|
   .op true (.call (.f 34) [.t 0, .t 20, .t 2]) <|
   .op true (.p (.bin .eql) [.t 21, .t 1]) <|
   .br 22
    (.op true (.p (.msl 1 [int 0] [(0, 1)]) [.t 20]) <|
    .op true (.app 1 (.t 16) (.t 23)) <|
    .op true (.p (.bin .add) [.t 17, .c (int 1)]) <|
    .again 0 [.t 24, .t 25])
    (.op true (.p (.bin .add) [.t 17, .c (int 1)]) <|
    .again 0 [.t 16, .t 23]))
   (.ret [(.t 16, none)])
theorem lifts_ok (hh : Has P ν 33 3 V_Category_hom) (ht : Has P ν 34 3 V_Category_then) (h : Has P ν 27 3 V_Category_lifts) (c : Cat) (s : Shape c) (f g : Int) (f0 : 0 ≤ f) (f1 : f < c.f.length) (g0 : 0 ≤ g) (g1 : g < c.f.length) (H : Hp) (nx : Nat) :
    OkM P ν 27 [.ptr c.cells 0, int f, int g] H nx (IsI (liftsL c f g) H nx) := by
  refine h _ _ _ _ rfl fun hwf => ?_
  unfold V_Category_lifts
  have n40 := s.n40
  have tl := s.tl
  have f2 : f.toNat < c.f.length := by omega
  have g2 : g.toNat < c.f.length := by omega
  simp only [SS, Nat.reduceEqDiff, Nat.reduceAdd, iput, puts, cat1, f0, f1, f2, g0, g1, g2]
  refine den_call (fc := (33, [])) rfl (by first | (simp only [SS, Nat.reduceEqDiff, Nat.reduceAdd, iput, puts, FF, frzL_cat]; done) | (simp only [SS, Nat.reduceEqDiff, Nat.reduceAdd, iput, puts, FF, frzL_cat]; rfl)) (hom_fz hh c (c.f.getD f.toNat 0) (c.f.getD g.toNat 0) (by omega) (by omega)) ?_
  simp only [SS, Nat.reduceEqDiff, Nat.reduceAdd, iput, puts]
  have hlen := selL_len c.f.length fun k => c.F k == c.f.getD f.toNat 0 && c.T k == c.f.getD g.toNat 0
  generalize hl : homL c (c.f.getD f.toNat 0) (c.f.getD g.toNat 0) = l
  have hm : ∀ i, i < l.length → 0 ≤ l.getD i 0 ∧ l.getD i 0 < c.f.length := fun i hi => by
    have := getD_mem hi
    rw [← hl] at this
    have := homL_mem this
    rw [hl] at this
    exact ⟨this.1, this.2.1⟩
  have hlen' : l.length ≤ 40 := by rw [← hl]; exact Nat.le_trans hlen n40
  refine den_loop (α := Nat × AV) (fun a => [a.2, int a.1]) (fun a H' nx' => a.1 ≤ l.length ∧ IsI ((l.take a.1).filter fun h => c.K h g == f) H nx a.2 H' nx') (fun a => l.length - a.1) (0, .nil) ?_ ?_ ?_
  · simp only [SS, Nat.reduceEqDiff, Nat.reduceAdd, iput, puts]; rfl
  · exact ⟨Nat.zero_le _, Nat.le_refl _, .inl ⟨rfl, rfl, rfl⟩⟩
  · rintro ⟨i, v⟩ H' nx' ⟨hi, hI⟩
    simp only at hi hI
    by_cases hlt : i < l.length
    · have hs := take_filter (q := fun h => c.K h g == f) hlt
      have hl2 := take_filter_len l (fun h => c.K h g == f) i
      obtain ⟨m1, m2⟩ := hm i hlt
      simp only [SS, Nat.reduceEqDiff, Nat.reduceAdd, iput, puts, hlt, not_true_eq_false]
      refine den_call (fc := (34, [])) rfl (by first | (simp only [SS, Nat.reduceEqDiff, Nat.reduceAdd, iput, puts, FF, frzL_cat]; done) | (simp only [SS, Nat.reduceEqDiff, Nat.reduceAdd, iput, puts, FF, frzL_cat]; rfl)) (s.then_fz ht (l.getD i 0) g m1 m2 g0 g1) ?_
      simp only [SS, Nat.reduceEqDiff, Nat.reduceAdd, iput, puts, wrap_succ (show i < 9223372036854775807 by omega)]
      refine ⟨fun h1 => ?_, fun h1 => ?_⟩
      · refine den_appI (m := [l.getD i 0]) (H0 := H) (nx0 := nx) hI rfl (by simp) (by simp; omega) fun v2 H2 nx2 hI2 => ?_
        simp only [SS, Nat.reduceEqDiff, Nat.reduceAdd, iput, puts, wrap_succ (show i < 9223372036854775807 by omega)]
        exact ⟨(i + 1, v2), rfl, ⟨by simp only; omega, by simp only [hs, beq_iff_eq.2 h1]; simpa using hI2⟩, by simp only; omega⟩
      · exact ⟨(i + 1, v), rfl, ⟨by simp only; omega, by simp only [hs, beq_eq_false_iff_ne.2 h1]; simpa using hI⟩, by simp only; omega⟩
    · have hi' : i = l.length := by omega
      subst hi'
      simp only [SS, Nat.reduceEqDiff, Nat.reduceAdd, iput, puts, hlt, not_false_eq_true]
      refine ⟨v, rfl, H', fun _ _ h => h, ?_⟩
      rw [List.take_length] at hI
      show IsI (List.filter _ (homL c (c.f.getD f.toNat 0) (c.f.getD g.toNat 0))) _ _ _ _ _
      rw [hl]
      exact hI

def secL (c : Cat) (f : Int) : List Int := liftsL c (c.I (c.T f)) f

def V_Category_sections : Vc :=
  .op true (.p .nck [.t 0]) <|
  .op true (.p (.fad 3) [.t 2]) <|
  .op true (.p (.ld none) [.t 3]) <|
  .op true (.p .nck [.t 0]) <|
  .op true (.p (.fad 2) [.t 5]) <|
  .op true (.p (.ld none) [.t 6]) <|
  .op true (.p (.iad 1) [.t 7, .t 1]) <|
  .op true (.p (.ld none) [.t 8]) <|
  .op true (.p (.iad 1) [.t 4, .t 9]) <|
  .op true (.p (.ld none) [.t 10]) <|
  .op true (.callm (.f 27) [.t 0, .t 11, .t 1]) <|
  .ret [(.t 12, none)]
theorem sections_ok (hh : Has P ν 33 3 V_Category_hom) (ht : Has P ν 34 3 V_Category_then) (hl : Has P ν 27 3 V_Category_lifts) (h : Has P ν 19 2 V_Category_sections) (c : Cat) (s : Shape c) (f : Int) (f0 : 0 ≤ f) (f1 : f < c.f.length) (H : Hp) (nx : Nat) :
    OkM P ν 19 [.ptr c.cells 0, int f] H nx (IsI (secL c f) H nx) := by
  refine h _ _ _ _ rfl fun hwf => ?_
  unfold V_Category_sections
  have tl := s.tl
  have f2 : f.toNat < c.f.length := by omega
  obtain ⟨a1, a2⟩ := s.tLt f2
  obtain ⟨b1, b2⟩ := s.iLt a1 a2
  simp only [Cat.T, Cat.I, Int.toNat_natCast] at a1 a2 b1 b2
  have a3 : (c.t.getD f.toNat 0).toNat < c.i.length := by omega
  simp only [SS, Nat.reduceEqDiff, Nat.reduceAdd, iput, puts, cat2, cat3, f0, f1, f2, tl, a1, a2, a3]
  refine den_callm (fc := (27, [])) rfl (lifts_ok hh ht hl c s (c.i.getD (c.t.getD f.toNat 0).toNat 0) f b1 b2 f0 f1 H nx) ?_ fun u H' nx' hu => ?_
  · by_cases e : liftsL c (c.i.getD (c.t.getD f.toNat 0).toNat 0) f = []
    · exact ⟨.nil, H, nx, Nat.le_refl _, .inl ⟨e, rfl, rfl⟩⟩
    · exact ⟨_, _, nx + 1, Nat.le_succ _, .inr ⟨nx, Nat.le_refl _, Nat.lt_succ_self _, rfl, rfl⟩⟩
  · exact ⟨u, rfl, H', fun _ _ h => h, hu⟩

def V_arrowCode : Vc :=
  .op true (.call (.f 24) [.t 0]) <|
  .op true (.p .bnot [.t 2]) <|
  .br 3
   (.ret [(.c (int 1), none)])
   (.op true (.call (.f 26) [.t 0]) <|
   .op true (.call (.f 25) [.t 1, .t 4]) <|
   .op true (.p .bnot [.t 5]) <|
   .br 6
    (.ret [(.c (int 2), none)])
    (.ret [(.c (int 0), none)]))
theorem arrowCode_ok (K : HCat P ν) (h : Has P ν 18 2 V_arrowCode) (c : Cat) (b : Small c) (l : List Int) (hl : l.length ≤ 1048576) : Fn P ν 18 [.ptr c.cells 0, islice l] (int (if IsCat c then if Wn l c.f.length then 0 else 2 else 1)) := by
  intro H nx
  refine h _ _ _ _ rfl fun hwf => ?_
  unfold V_arrowCode
  have := b.f
  refine den_call (fc := (24, [])) rfl (by first | (simp only [SS, Nat.reduceEqDiff, Nat.reduceAdd, iput, puts, FF, frzL_cat]; done) | (simp only [SS, Nat.reduceEqDiff, Nat.reduceAdd, iput, puts, FF, frzL_cat]; rfl)) ((isCategory_ok K c b).fzb) ?_
  simp only [SS, Nat.reduceEqDiff, Nat.reduceAdd, iput, puts]
  refine ⟨fun h1 => ?_, fun h1 => ?_⟩
  · exact ⟨_, rfl, H, fun _ _ h => h, by rw [if_neg h1]; rfl, rfl, Nat.le_refl _⟩
  refine den_call (fc := (26, [])) rfl (by first | (simp only [SS, Nat.reduceEqDiff, Nat.reduceAdd, iput, puts, FF, frzL_cat]; done) | (simp only [SS, Nat.reduceEqDiff, Nat.reduceAdd, iput, puts, FF, frzL_cat]; rfl)) ((arrows_ok K.arrows c).fzi) ?_
  refine den_call (fc := (25, [])) rfl (by first | (simp only [SS, Nat.reduceEqDiff, Nat.reduceAdd, iput, puts, FF, frzL_cat]; done) | (simp only [SS, Nat.reduceEqDiff, Nat.reduceAdd, iput, puts, FF, frzL_cat]; rfl)) ((within_ok K.inRange K.within l c.f.length (by omega) (by omega) (by omega)).fzb) ?_
  simp only [SS, Nat.reduceEqDiff, Nat.reduceAdd, iput, puts]
  refine ⟨fun h2 => ?_, fun h2 => ?_⟩
  · exact ⟨_, rfl, H, fun _ _ h => h, by rw [if_pos h1, if_neg h2]; rfl, rfl, Nat.le_refl _⟩
  · exact ⟨_, rfl, H, fun _ _ h => h, by rw [if_pos h1, if_pos h2]; rfl, rfl, Nat.le_refl _⟩
end Go.Av
