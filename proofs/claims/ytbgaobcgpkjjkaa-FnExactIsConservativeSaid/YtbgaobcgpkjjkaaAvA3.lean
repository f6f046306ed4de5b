/-
  The laws of a category: the first fault; when a table is a category.
-/
import Derived.Test.YtbgaobcgpkjjkaaAvA2
namespace Go.Av
open Classical
set_option linter.unusedSimpArgs false
set_option linter.unusedVariables false
variable {P : Program} {ν : Nat → FuncId}

def idOk (c : Cat) (f : Nat) : Bool := c.K (c.I (c.F f)) f == (f : Int) && c.K f (c.I (c.T f)) == (f : Int)
def asBad (c : Cat) (f g h : Nat) : Bool := c.T f == c.F g && c.T g == c.F h && c.K (c.K f g) h != c.K f (c.K g h)
def idF (c : Cat) : Option Nat := (List.range c.f.length).findSome? fun f => if idOk c f then none else some f
def asF (c : Cat) : Option (Nat × Nat × Nat) :=
  (List.range c.f.length).findSome? fun f => (List.range c.f.length).findSome? fun g => (List.range c.f.length).findSome? fun h => if asBad c f g h then some (f, g, h) else none
def faultV (c : Cat) : AV :=
  match idF c with
  | some f => .tup [int 1, int f, int 0, int 0]
  | none => match asF c with
    | some (f, g, h) => .tup [int 2, int f, int g, int h]
    | none => .tup [int 0, int 0, int 0, int 0]
def Laws (c : Cat) : Prop := idF c = none ∧ asF c = none
def IsCat (c : Cat) : Prop := Shape c ∧ Laws c
theorem faultV_tup (c : Cat) : ∃ k a b d : Int, faultV c = .tup [int k, int a, int b, int d] ∧ (k = 0 ↔ Laws c) := by
  unfold faultV Laws
  cases h1 : idF c with
  | some f => exact ⟨1, f, 0, 0, rfl, by simp⟩
  | none =>
    cases h2 : asF c with
    | some x => exact ⟨2, x.1, x.2.1, x.2.2, rfl, by simp⟩
    | none => exact ⟨0, 0, 0, 0, rfl, by simp⟩

section sh
variable {c : Cat}
theorem Shape.fLt (s : Shape c) {a : Nat} (h : a < c.f.length) : 0 ≤ c.F a ∧ c.F a < c.i.length := by have h1 := s.fw a h; have h2 := s.il; rw [F_nat]; omega
theorem Shape.tLt (s : Shape c) {a : Nat} (h : a < c.f.length) : 0 ≤ c.T a ∧ c.T a < c.i.length := by have h1 := s.tw a (by rw [s.tl]; exact h); have h2 := s.il; rw [T_nat]; omega
theorem Shape.iLt (s : Shape c) {x : Int} (h0 : 0 ≤ x) (h : x < c.i.length) : 0 ≤ c.I x ∧ c.I x < c.f.length := s.iw x.toNat (by omega)
theorem Shape.rowLen (s : Shape c) {a : Int} (h0 : 0 ≤ a) (h : a < c.f.length) : (c.c.getD a.toNat []).length = c.f.length := (s.row a.toNat (by omega)).1
theorem Shape.kPos (s : Shape c) {a b : Nat} (ha : a < c.f.length) (hb : b < c.f.length) (h : c.T a = c.F b) : 0 ≤ c.K a b ∧ c.K a b < c.f.length ∧ c.F (c.K a b) = c.F a ∧ c.T (c.K a b) = c.T b := by
  have := (s.row a ha).2 b hb
  rw [Cell, if_pos (by rw [← T_nat, ← F_nat]; exact h)] at this
  rw [F_nat, T_nat]
  exact this
theorem Shape.kNeg (s : Shape c) {a b : Nat} (ha : a < c.f.length) (hb : b < c.f.length) (h : c.T a ≠ c.F b) : c.K a b = -1 := by
  have := (s.row a ha).2 b hb
  rwa [Cell, if_neg (by rw [← T_nat, ← F_nat]; exact h)] at this
theorem Shape.kIff (s : Shape c) {a b : Nat} (ha : a < c.f.length) (hb : b < c.f.length) : 0 ≤ c.K a b ↔ c.T a = c.F b := by
  constructor
  · intro h
    by_cases e : c.T a = c.F b
    · exact e
    · have := s.kNeg ha hb e; omega
  · intro h; exact (s.kPos ha hb h).1
end sh

theorem idF_some {c : Cat} {f : Nat} (hf : f < c.f.length) (h : idOk c f = false) (hlt : ∀ k, k < f → idOk c k = true) : idF c = some f :=
  findSome_at hf (by simp [h]) (fun j hj => by simp [hlt j hj])
theorem idF_none {c : Cat} (h : ∀ k, k < c.f.length → idOk c k = true) : idF c = none := findSome_none fun j hj => by simp [h j hj]
theorem asF_some {c : Cat} {f g h : Nat} (hf : f < c.f.length) (hg : g < c.f.length) (hh : h < c.f.length) (hb : asBad c f g h = true) (h1 : ∀ f', f' < f → ∀ g', g' < c.f.length → ∀ h', h' < c.f.length → asBad c f' g' h' = false)
    (h2 : ∀ g', g' < g → ∀ h', h' < c.f.length → asBad c f g' h' = false) (h3 : ∀ h', h' < h → asBad c f g h' = false) : asF c = some (f, g, h) :=
  findSome_at hf (findSome_at hg (findSome_at hh (by simp [hb]) (fun j hj => by simp [h3 j hj])) (fun j hj => findSome_none fun h' hh' => by simp [h2 j hj h' hh'])) (fun j hj => findSome_none fun g' hg' => findSome_none fun h' hh' => by simp [h1 j hj g' hg' h' hh'])
theorem asF_none {c : Cat} (h1 : ∀ f', f' < c.f.length → ∀ g', g' < c.f.length → ∀ h', h' < c.f.length → asBad c f' g' h' = false) : asF c = none :=
  findSome_none fun f' hf' => findSome_none fun g' hg' => findSome_none fun h' hh' => by simp [h1 f' hf' g' hg' h' hh']

def V_spec_l02Fault : Vc :=
  .op true (.p .box [.t 0]) <|
  .op true (.p (.fad 1) [.t 1]) <|
  .op true (.p (.ld none) [.t 2]) <|
  .op true (.p .len [.t 3]) <|
  .loop 0 [.c (int 0)] <|
  .op true (.p (.bin .lss) [.t 5, .t 4]) <|
  .br 6
   (.op true (.p (.fad 4) [.t 1]) <|
   .op true (.p (.ld none) [.t 7]) <|
   .op true (.p (.fad 3) [.t 1]) <|
   .op true (.p (.ld none) [.t 9]) <|
   .op true (.p (.fad 1) [.t 1]) <|
   .op true (.p (.ld none) [.t 11]) <|
   .op true (.p (.iad 1) [.t 12, .t 5]) <|
   .op true (.p (.ld none) [.t 13]) <|
   .op true (.p (.iad 1) [.t 10, .t 14]) <|
   .op true (.p (.ld none) [.t 15]) <|
   .op true (.p (.iad 1) [.t 8, .t 16]) <|
   .op true (.p (.ld none) [.t 17]) <|
   .op true (.p (.iad 1) [.t 18, .t 5]) <|
   .op true (.p (.ld none) [.t 19]) <|
   .op true (.p (.bin .neq) [.t 20, .t 5]) <|
   .br 21
    (.ret [(.c (int 1), none), (.t 5, none), (.c (int 0), none), (.c (int 0), none)])
    (.op true (.p (.fad 4) [.t 1]) <|
    .op true (.p (.ld none) [.t 22]) <|
    .op true (.p (.iad 1) [.t 23, .t 5]) <|
    .op true (.p (.ld none) [.t 24]) <|
    .op true (.p (.fad 3) [.t 1]) <|
    .op true (.p (.ld none) [.t 26]) <|
    .op true (.p (.fad 2) [.t 1]) <|
    .op true (.p (.ld none) [.t 28]) <|
    .op true (.p (.iad 1) [.t 29, .t 5]) <|
    .op true (.p (.ld none) [.t 30]) <|
    .op true (.p (.iad 1) [.t 27, .t 31]) <|
    .op true (.p (.ld none) [.t 32]) <|
    .op true (.p (.iad 1) [.t 25, .t 33]) <|
    .op true (.p (.ld none) [.t 34]) <|
    .op true (.p (.bin .neq) [.t 35, .t 5]) <|
    .br 36
     (.ret [(.c (int 1), none), (.t 5, none), (.c (int 0), none), (.c (int 0), none)])
     (.op true (.p (.bin .add) [.t 5, .c (int 1)]) <|
     .again 0 [.t 37])))
   (.loop 0 [.c (int 0)] <|
   .op true (.p (.bin .lss) [.t 7, .t 4]) <|
   .br 8
    (.loop 1 [.c (int 0)] <|
    .op true (.p (.bin .lss) [.t 9, .t 4]) <|
    .br 10
     (.op true (.p (.fad 2) [.t 1]) <|
     .op true (.p (.ld none) [.t 11]) <|
     .op true (.p (.iad 1) [.t 12, .t 7]) <|
     .op true (.p (.ld none) [.t 13]) <|
     .op true (.p (.fad 1) [.t 1]) <|
     .op true (.p (.ld none) [.t 15]) <|
     .op true (.p (.iad 1) [.t 16, .t 9]) <|
     .op true (.p (.ld none) [.t 17]) <|
     .op true (.p (.bin .neq) [.t 14, .t 18]) <|
     .br 19
      (.op true (.p (.bin .add) [.t 9, .c (int 1)]) <|
      .again 1 [.t 20])
      (.loop 2 [.c (int 0)] <|
      .op true (.p (.bin .lss) [.t 20, .t 4]) <|
      .br 21
       (.op true (.p (.fad 2) [.t 1]) <|
       .op true (.p (.ld none) [.t 22]) <|
       .op true (.p (.iad 1) [.t 23, .t 9]) <|
       .op true (.p (.ld none) [.t 24]) <|
       .op true (.p (.fad 1) [.t 1]) <|
       .op true (.p (.ld none) [.t 26]) <|
       .op true (.p (.iad 1) [.t 27, .t 20]) <|
       .op true (.p (.ld none) [.t 28]) <|
       .op true (.p (.bin .eql) [.t 25, .t 29]) <|
       .br 30
        (.op true (.p (.fad 4) [.t 1]) <|
        .op true (.p (.ld none) [.t 31]) <|
        .op true (.p (.fad 4) [.t 1]) <|
        .op true (.p (.ld none) [.t 33]) <|
        .op true (.p (.iad 1) [.t 34, .t 7]) <|
        .op true (.p (.ld none) [.t 35]) <|
        .op true (.p (.iad 1) [.t 36, .t 9]) <|
        .op true (.p (.ld none) [.t 37]) <|
        .op true (.p (.iad 1) [.t 32, .t 38]) <|
        .op true (.p (.ld none) [.t 39]) <|
        .op true (.p (.iad 1) [.t 40, .t 20]) <|
        .op true (.p (.ld none) [.t 41]) <|
        .op true (.p (.fad 4) [.t 1]) <|
        .op true (.p (.ld none) [.t 43]) <|
        .op true (.p (.iad 1) [.t 44, .t 7]) <|
        .op true (.p (.ld none) [.t 45]) <|
        .op true (.p (.fad 4) [.t 1]) <|
        .op true (.p (.ld none) [.t 47]) <|
        .op true (.p (.iad 1) [.t 48, .t 9]) <|
        .op true (.p (.ld none) [.t 49]) <|
        .op true (.p (.iad 1) [.t 50, .t 20]) <|
        .op true (.p (.ld none) [.t 51]) <|
        .op true (.p (.iad 1) [.t 46, .t 52]) <|
        .op true (.p (.ld none) [.t 53]) <|
        .op true (.p (.bin .neq) [.t 42, .t 54]) <|
        .br 55
         (.ret [(.c (int 2), none), (.t 7, none), (.t 9, none), (.t 20, none)])
         (.op true (.p (.bin .add) [.t 20, .c (int 1)]) <|
         .again 2 [.t 56]))
        (.op true (.p (.bin .add) [.t 20, .c (int 1)]) <|
        .again 2 [.t 31]))
       (.op true (.p (.bin .add) [.t 9, .c (int 1)]) <|
       .again 1 [.t 22])))
     (.op true (.p (.bin .add) [.t 7, .c (int 1)]) <|
     .again 0 [.t 11]))
    (.ret [(.c (int 0), none), (.c (int 0), none), (.c (int 0), none), (.c (int 0), none)]))
set_option maxHeartbeats 1000000 in
theorem l02Fault_ok (h : Has P ν 29 1 V_spec_l02Fault) (c : Cat) (s : Shape c) : Fn P ν 29 [.agg c.cells] (faultV c) := by
  intro H nx
  refine h _ _ _ _ rfl fun hwf => ?_
  unfold V_spec_l02Fault
  simp only [SS, Nat.reduceEqDiff, Nat.reduceAdd, iput, puts, p_boxc, cat1]
  have n40 := s.n40
  refine den_for c.f.length (fun i => ∀ k, k < i → idOk c k = true) (fun x hx => by omega) fun f hf hp => ?_
  by_cases hlt : f < c.f.length
  · obtain ⟨a1, a2⟩ := s.fLt hlt
    obtain ⟨a3, a4⟩ := s.iLt a1 a2
    have a5 := s.rowLen a3 a4
    obtain ⟨b1, b2⟩ := s.tLt hlt
    obtain ⟨b3, b4⟩ := s.iLt b1 b2
    have b5 := s.rowLen (a := f) (by omega) (by omega)
    have cl := s.cl
    have tl := s.tl
    simp only [Cat.F, Cat.T, Cat.I, Int.toNat_natCast] at a1 a2 a3 a4 a5 b1 b2 b3 b4 b5
    have a6 : (c.f.getD f 0).toNat < c.i.length := by omega
    have a7 : (c.i.getD (c.f.getD f 0).toNat 0).toNat < c.f.length := by omega
    have b6 : (c.t.getD f 0).toNat < c.i.length := by omega
    have b7 : (c.i.getD (c.t.getD f 0).toNat 0).toNat < c.f.length := by omega
    simp only [SS, Nat.reduceEqDiff, Nat.reduceAdd, iput, puts, cat1, cat2, cat3, cat4, hlt, a1, a2, a3, a4, a5, a6, a7, b1, b2, b3, b4, b5, b6, b7, cl, tl, not_true_eq_false, wrap_succ (show f < 9223372036854775807 by omega)]
    have bad : ¬ (c.K (c.I (c.F f)) f = f ∧ c.K f (c.I (c.T f)) = f) → .tup [int 1, int f, int 0, int 0] = faultV c := fun hb => by
      have : idOk c f = false := by simpa [idOk] using hb
      simp only [faultV, idF_some hlt this hp]
    refine ⟨fun h1 => ?_, fun h1 => ⟨fun h2 => ?_, fun h2 => up rfl hlt fun k hk => ?_⟩⟩
    · exact ⟨_, rfl, H, fun _ _ h => h, bad (fun hb => h1 hb.1), rfl, Nat.le_refl _⟩
    · exact ⟨_, rfl, H, fun _ _ h => h, bad (fun hb => h2 hb.2), rfl, Nat.le_refl _⟩
    · by_cases e : k = f
      · subst e; simp only [idOk, Bool.and_eq_true, beq_iff_eq]; exact ⟨h1, h2⟩
      · exact hp k (by omega)
  simp only [SS, Nat.reduceEqDiff, Nat.reduceAdd, iput, puts, hlt, not_false_eq_true]
  have hid := idF_none (c := c) fun k hk => hp k (by omega)
  clear hp hlt hf
  have cl := s.cl
  have tl := s.tl
  refine den_for c.f.length (fun i => ∀ f', f' < i → ∀ g', g' < c.f.length → ∀ h', h' < c.f.length → asBad c f' g' h' = false) (fun x hx => by omega) fun f hf h1 => ?_
  by_cases hlt : f < c.f.length
  · simp only [SS, Nat.reduceEqDiff, Nat.reduceAdd, iput, puts, hlt, not_true_eq_false]
    refine den_for c.f.length (fun i => ∀ g', g' < i → ∀ h', h' < c.f.length → asBad c f g' h' = false) (fun x hx => by omega) fun g hg h2 => ?_
    by_cases hlt2 : g < c.f.length
    · simp only [SS, Nat.reduceEqDiff, Nat.reduceAdd, iput, puts, cat1, cat2, hlt, hlt2, tl, not_true_eq_false, wrap_succ (show g < 9223372036854775807 by omega)]
      refine ⟨fun h3 => up rfl hlt2 fun k hk h' hh' => ?_, fun h3 => ?_⟩
      · by_cases e : k = g
        · subst e; simp only [asBad, T_nat, F_nat]; simp only [beq_eq_false_iff_ne.2 h3, Bool.false_and]
        · exact h2 k (by omega) h' hh'
      · refine den_for c.f.length (fun i => ∀ h', h' < i → asBad c f g h' = false) (fun x hx => by omega) fun h hh h4 => ?_
        by_cases hlt3 : h < c.f.length
        · simp only [SS, Nat.reduceEqDiff, Nat.reduceAdd, iput, puts, cat1, cat2, hlt, hlt2, hlt3, tl, not_true_eq_false, wrap_succ (show h < 9223372036854775807 by omega)]
          refine ⟨fun h5 => ?_, fun h5 => up rfl hlt3 fun k hk => ?_⟩
          · obtain ⟨k1, k2, k3, k4⟩ := s.kPos hlt hlt2 (by rw [T_nat, F_nat]; exact h3)
            obtain ⟨m1, m2, m3, m4⟩ := s.kPos hlt2 hlt3 (by rw [T_nat, F_nat]; exact h5)
            have k5 := s.rowLen k1 k2
            have r1 := s.rowLen (a := f) (by omega) (by omega)
            have r2 := s.rowLen (a := g) (by omega) (by omega)
            simp only [Cat.K, Int.toNat_natCast] at k1 k2 k5 m1 m2 r1 r2
            have k6 : ((c.c.getD f []).getD g 0).toNat < c.f.length := by omega
            have m6 : ((c.c.getD g []).getD h 0).toNat < c.f.length := by omega
            simp only [SS, Nat.reduceEqDiff, Nat.reduceAdd, iput, puts, cat4, hlt, hlt2, hlt3, cl, k1, k2, k5, k6, m1, m2, m6, r1, r2, wrap_succ (show h < 9223372036854775807 by omega)]
            refine ⟨fun h6 => ?_, fun h6 => up rfl hlt3 fun k hk => ?_⟩
            · refine ⟨_, rfl, H, fun _ _ h => h, ?_, rfl, Nat.le_refl _⟩
              have hb : asBad c f g h = true := by simp only [asBad, T_nat, F_nat, Bool.and_eq_true, beq_iff_eq, bne_iff_ne, ne_eq]; exact ⟨⟨h3, h5⟩, h6⟩
              simp only [faultV, hid, asF_some hlt hlt2 hlt3 hb h1 h2 h4]
              rfl
            · by_cases e : k = h
              · subst e; simp only [asBad]; rw [show (c.K (c.K f g) k != c.K f (c.K g k)) = false from bne_eq_false_iff_eq.2 h6]; simp
              · exact h4 k (by omega)
          · by_cases e : k = h
            · subst e; simp only [asBad, T_nat, F_nat]; simp only [beq_eq_false_iff_ne.2 h5, Bool.and_false, Bool.false_and]
            · exact h4 k (by omega)
        · simp only [SS, Nat.reduceEqDiff, Nat.reduceAdd, iput, puts, hlt3, not_false_eq_true, wrap_succ (show g < 9223372036854775807 by omega)]
          refine up rfl hlt2 fun k hk h' hh' => ?_
          by_cases e : k = g
          · subst e; exact h4 h' (by omega)
          · exact h2 k (by omega) h' hh'
    · simp only [SS, Nat.reduceEqDiff, Nat.reduceAdd, iput, puts, hlt2, not_false_eq_true, wrap_succ (show f < 9223372036854775807 by omega)]
      refine up rfl hlt fun k hk g' hg' h' hh' => ?_
      by_cases e : k = f
      · subst e; exact h2 g' (by omega) h' hh'
      · exact h1 k (by omega) g' hg' h' hh'
  · simp only [SS, Nat.reduceEqDiff, Nat.reduceAdd, iput, puts, hlt, not_false_eq_true]
    refine ⟨_, rfl, H, fun _ _ h => h, ?_, rfl, Nat.le_refl _⟩
    simp only [faultV, hid, asF_none fun f' hf' => h1 f' (by omega)]
    rfl

def V_Category_fault : Vc :=
  .op true (.call (.f 26) [.t 0]) <|
  .loop 0 [.c (int 0)] <|
  .op true (.p (.bin .lss) [.t 2, .t 1]) <|
  .br 3
   (.op true (.p .nck [.t 0]) <|
   .op true (.p (.fad 3) [.t 4]) <|
   .op true (.p (.ld none) [.t 5]) <|
   .op true (.p .nck [.t 0]) <|
   .op true (.p (.fad 1) [.t 7]) <|
   .op true (.p (.ld none) [.t 8]) <|
   .op true (.p (.iad 1) [.t 9, .t 2]) <|
   .op true (.p (.ld none) [.t 10]) <|
   .op true (.p (.iad 1) [.t 6, .t 11]) <|
   .op true (.p (.ld none) [.t 12]) <|
   .op true (.call (.f 34) [.t 0, .t 13, .t 2]) <|
   .op true (.p (.bin .neq) [.t 14, .t 2]) <|
   .br 15
    (.ret [(.c (int 1), none), (.t 2, none), (.c (int 0), none), (.c (int 0), none)])
    (.op true (.p .nck [.t 0]) <|
    .op true (.p (.fad 3) [.t 16]) <|
    .op true (.p (.ld none) [.t 17]) <|
    .op true (.p .nck [.t 0]) <|
    .op true (.p (.fad 2) [.t 19]) <|
    .op true (.p (.ld none) [.t 20]) <|
    .op true (.p (.iad 1) [.t 21, .t 2]) <|
    .op true (.p (.ld none) [.t 22]) <|
    .op true (.p (.iad 1) [.t 18, .t 23]) <|
    .op true (.p (.ld none) [.t 24]) <|
    .op true (.call (.f 34) [.t 0, .t 2, .t 25]) <|
    .op true (.p (.bin .neq) [.t 26, .t 2]) <|
    .br 27
     (.ret [(.c (int 1), none), (.t 2, none), (.c (int 0), none), (.c (int 0), none)])
     (.op true (.p (.bin .add) [.t 2, .c (int 1)]) <|
     .again 0 [.t 28])))
   (.loop 0 [.c (int 0)] <|
   .op true (.p (.bin .lss) [.t 4, .t 1]) <|
   .br 5
    (.loop 1 [.c (int 0)] <|
    .op true (.p (.bin .lss) [.t 6, .t 1]) <|
    .br 7
     (.op true (.call (.f 34) [.t 0, .t 4, .t 6]) <|
     .op true (.p (.bin .lss) [.t 8, .c (int 0)]) <|
     .br 9
      (.op true (.p (.bin .add) [.t 6, .c (int 1)]) <|
      .again 1 [.t 10])
      (.loop 2 [.c (int 0)] <|
      .op true (.p (.bin .lss) [.t 10, .t 1]) <|
      .br 11
       (.op true (.call (.f 34) [.t 0, .t 6, .t 10]) <|
       .op true (.p (.bin .geq) [.t 12, .c (int 0)]) <|
       .br 13
        (.op true (.call (.f 34) [.t 0, .t 4, .t 6]) <|
        .op true (.call (.f 34) [.t 0, .t 14, .t 10]) <|
        .op true (.call (.f 34) [.t 0, .t 6, .t 10]) <|
        .op true (.call (.f 34) [.t 0, .t 4, .t 16]) <|
        .op true (.p (.bin .neq) [.t 15, .t 17]) <|
        .br 18
         (.ret [(.c (int 2), none), (.t 4, none), (.t 6, none), (.t 10, none)])
         (.op true (.p (.bin .add) [.t 10, .c (int 1)]) <|
         .again 2 [.t 19]))
        (.op true (.p (.bin .add) [.t 10, .c (int 1)]) <|
        .again 2 [.t 14]))
       (.op true (.p (.bin .add) [.t 6, .c (int 1)]) <|
       .again 1 [.t 12])))
     (.op true (.p (.bin .add) [.t 4, .c (int 1)]) <|
     .again 0 [.t 8]))
    (.ret [(.c (int 0), none), (.c (int 0), none), (.c (int 0), none), (.c (int 0), none)]))
set_option maxHeartbeats 1000000 in
theorem fault_ok (ha : Has P ν 26 1 V_Category_arrows) (ht : Has P ν 34 3 V_Category_then) (h : Has P ν 31 1 V_Category_fault) (c : Cat) (s : Shape c) : Fn P ν 31 [.ptr c.cells 0] (faultV c) := by
  intro H nx
  refine h _ _ _ _ rfl fun hwf => ?_
  unfold V_Category_fault
  refine den_call (fc := (26, [])) rfl (by first | (simp only [SS, Nat.reduceEqDiff, Nat.reduceAdd, iput, puts, FF, frzL_cat]; done) | (simp only [SS, Nat.reduceEqDiff, Nat.reduceAdd, iput, puts, FF, frzL_cat]; rfl)) ((arrows_ok ha c).fzi) ?_
  have n40 := s.n40
  have cl := s.cl
  have tl := s.tl
  have th : ∀ a b : Int, 0 ≤ a → a < c.f.length → 0 ≤ b → b < c.f.length → Fz (OkM P ν) 34 [.ptr c.cells 0, int a, int b] (int (c.K a b)) := fun a b h1 h2 h3 h4 =>
    (then_ok ht c a b h1 (by omega) h3 (by rw [s.rowLen h1 h2]; exact h4)).fzi
  refine den_for c.f.length (fun i => ∀ k, k < i → idOk c k = true) (fun x hx => by omega) fun f hf hp => ?_
  by_cases hlt : f < c.f.length
  · obtain ⟨a1, a2⟩ := s.fLt hlt
    obtain ⟨a3, a4⟩ := s.iLt a1 a2
    obtain ⟨b1, b2⟩ := s.tLt hlt
    obtain ⟨b3, b4⟩ := s.iLt b1 b2
    simp only [Cat.F, Cat.T, Cat.I, Int.toNat_natCast] at a1 a2 a3 a4 b1 b2 b3 b4
    have a6 : (c.f.getD f 0).toNat < c.i.length := by omega
    have b6 : (c.t.getD f 0).toNat < c.i.length := by omega
    simp only [SS, Nat.reduceEqDiff, Nat.reduceAdd, iput, puts, cat1, cat2, cat3, cat4, hlt, a1, a2, a6, b1, b2, b6, cl, tl, not_true_eq_false]
    have bad : ¬ (c.K (c.I (c.F f)) f = f ∧ c.K f (c.I (c.T f)) = f) → .tup [int 1, int f, int 0, int 0] = faultV c := fun hb => by
      have : idOk c f = false := by simpa [idOk] using hb
      simp only [faultV, idF_some hlt this hp]
    refine den_call (fc := (34, [])) rfl (by first | (simp only [SS, Nat.reduceEqDiff, Nat.reduceAdd, iput, puts, FF, frzL_cat]; done) | (simp only [SS, Nat.reduceEqDiff, Nat.reduceAdd, iput, puts, FF, frzL_cat]; rfl)) (th (c.i.getD (c.f.getD f 0).toNat 0) f a3 a4 (by omega) (by omega)) ?_
    simp only [SS, Nat.reduceEqDiff, Nat.reduceAdd, iput, puts, cat1, cat2, cat3, cat4, hlt, a1, a2, a6, b1, b2, b6, cl, tl, not_true_eq_false]
    refine ⟨fun h1 => ?_, fun h1 => ?_⟩
    · exact ⟨_, rfl, H, fun _ _ h => h, bad (fun hb => h1 hb.1), rfl, Nat.le_refl _⟩
    refine den_call (fc := (34, [])) rfl (by first | (simp only [SS, Nat.reduceEqDiff, Nat.reduceAdd, iput, puts, FF, frzL_cat]; done) | (simp only [SS, Nat.reduceEqDiff, Nat.reduceAdd, iput, puts, FF, frzL_cat]; rfl)) (th f (c.i.getD (c.t.getD f 0).toNat 0) (by omega) (by omega) b3 b4) ?_
    simp only [SS, Nat.reduceEqDiff, Nat.reduceAdd, iput, puts, wrap_succ (show f < 9223372036854775807 by omega)]
    refine ⟨fun h2 => ?_, fun h2 => up rfl hlt fun k hk => ?_⟩
    · exact ⟨_, rfl, H, fun _ _ h => h, bad (fun hb => h2 hb.2), rfl, Nat.le_refl _⟩
    · by_cases e : k = f
      · subst e; simp only [idOk, Bool.and_eq_true, beq_iff_eq]; exact ⟨h1, h2⟩
      · exact hp k (by omega)
  simp only [SS, Nat.reduceEqDiff, Nat.reduceAdd, iput, puts, hlt, not_false_eq_true]
  have hid := idF_none (c := c) fun k hk => hp k (by omega)
  clear hp hlt hf
  refine den_for c.f.length (fun i => ∀ f', f' < i → ∀ g', g' < c.f.length → ∀ h', h' < c.f.length → asBad c f' g' h' = false) (fun x hx => by omega) fun f hf h1 => ?_
  by_cases hlt : f < c.f.length
  · simp only [SS, Nat.reduceEqDiff, Nat.reduceAdd, iput, puts, hlt, not_true_eq_false]
    refine den_for c.f.length (fun i => ∀ g', g' < i → ∀ h', h' < c.f.length → asBad c f g' h' = false) (fun x hx => by omega) fun g hg h2 => ?_
    by_cases hlt2 : g < c.f.length
    · simp only [SS, Nat.reduceEqDiff, Nat.reduceAdd, iput, puts, cat1, cat2, hlt, hlt2, tl, not_true_eq_false]
      refine den_call (fc := (34, [])) rfl (by first | (simp only [SS, Nat.reduceEqDiff, Nat.reduceAdd, iput, puts, FF, frzL_cat]; done) | (simp only [SS, Nat.reduceEqDiff, Nat.reduceAdd, iput, puts, FF, frzL_cat]; rfl)) (th f g (by omega) (by omega) (by omega) (by omega)) ?_
      simp only [SS, Nat.reduceEqDiff, Nat.reduceAdd, iput, puts, wrap_succ (show g < 9223372036854775807 by omega)]
      refine ⟨fun h3 => up rfl hlt2 fun k hk h' hh' => ?_, fun h3 => ?_⟩
      · by_cases e : k = g
        · subst e
          have : c.T f ≠ c.F k := fun e => by have := (s.kIff hlt hlt2).2 e; omega
          simp only [asBad]; simp only [beq_eq_false_iff_ne.2 this, Bool.false_and]
        · exact h2 k (by omega) h' hh'
      · have h3' : c.T f = c.F g := (s.kIff hlt hlt2).1 (by omega)
        refine den_for c.f.length (fun i => ∀ h', h' < i → asBad c f g h' = false) (fun x hx => by omega) fun h hh h4 => ?_
        by_cases hlt3 : h < c.f.length
        · simp only [SS, Nat.reduceEqDiff, Nat.reduceAdd, iput, puts, cat1, cat2, hlt, hlt2, hlt3, tl, not_true_eq_false]
          refine den_call (fc := (34, [])) rfl (by first | (simp only [SS, Nat.reduceEqDiff, Nat.reduceAdd, iput, puts, FF, frzL_cat]; done) | (simp only [SS, Nat.reduceEqDiff, Nat.reduceAdd, iput, puts, FF, frzL_cat]; rfl)) (th g h (by omega) (by omega) (by omega) (by omega)) ?_
          simp only [SS, Nat.reduceEqDiff, Nat.reduceAdd, iput, puts, wrap_succ (show h < 9223372036854775807 by omega)]
          refine ⟨fun h5 => ?_, fun h5 => up rfl hlt3 fun k hk => ?_⟩
          · have h5' : c.T g = c.F h := (s.kIff hlt2 hlt3).1 (by omega)
            obtain ⟨k1, k2, k3, k4⟩ := s.kPos hlt hlt2 h3'
            obtain ⟨m1, m2, m3, m4⟩ := s.kPos hlt2 hlt3 h5'
            refine den_call (fc := (34, [])) rfl (by first | (simp only [SS, Nat.reduceEqDiff, Nat.reduceAdd, iput, puts, FF, frzL_cat]; done) | (simp only [SS, Nat.reduceEqDiff, Nat.reduceAdd, iput, puts, FF, frzL_cat]; rfl)) (th f g (by omega) (by omega) (by omega) (by omega)) ?_
            refine den_call (fc := (34, [])) rfl (by first | (simp only [SS, Nat.reduceEqDiff, Nat.reduceAdd, iput, puts, FF, frzL_cat]; done) | (simp only [SS, Nat.reduceEqDiff, Nat.reduceAdd, iput, puts, FF, frzL_cat]; rfl)) (th (c.K f g) h k1 k2 (by omega) (by omega)) ?_
            refine den_call (fc := (34, [])) rfl (by first | (simp only [SS, Nat.reduceEqDiff, Nat.reduceAdd, iput, puts, FF, frzL_cat]; done) | (simp only [SS, Nat.reduceEqDiff, Nat.reduceAdd, iput, puts, FF, frzL_cat]; rfl)) (th g h (by omega) (by omega) (by omega) (by omega)) ?_
            refine den_call (fc := (34, [])) rfl (by first | (simp only [SS, Nat.reduceEqDiff, Nat.reduceAdd, iput, puts, FF, frzL_cat]; done) | (simp only [SS, Nat.reduceEqDiff, Nat.reduceAdd, iput, puts, FF, frzL_cat]; rfl)) (th f (c.K g h) (by omega) (by omega) m1 m2) ?_
            simp only [SS, Nat.reduceEqDiff, Nat.reduceAdd, iput, puts, wrap_succ (show h < 9223372036854775807 by omega)]
            refine ⟨fun h6 => ?_, fun h6 => up rfl hlt3 fun k hk => ?_⟩
            · refine ⟨_, rfl, H, fun _ _ h => h, ?_, rfl, Nat.le_refl _⟩
              have hb : asBad c f g h = true := by simp only [asBad, Bool.and_eq_true, beq_iff_eq, bne_iff_ne, ne_eq]; exact ⟨⟨h3', h5'⟩, h6⟩
              simp only [faultV, hid, asF_some hlt hlt2 hlt3 hb h1 h2 h4]
              rfl
            · by_cases e : k = h
              · subst e; simp only [asBad]; rw [show (c.K (c.K f g) k != c.K f (c.K g k)) = false from bne_eq_false_iff_eq.2 h6]; simp
              · exact h4 k (by omega)
          · by_cases e : k = h
            · subst e
              have : c.T g ≠ c.F k := fun e => by have := (s.kIff hlt2 hlt3).2 e; omega
              simp only [asBad]; simp only [beq_eq_false_iff_ne.2 this, Bool.and_false, Bool.false_and]
            · exact h4 k (by omega)
        · simp only [SS, Nat.reduceEqDiff, Nat.reduceAdd, iput, puts, hlt3, not_false_eq_true, wrap_succ (show g < 9223372036854775807 by omega)]
          refine up rfl hlt2 fun k hk h' hh' => ?_
          by_cases e : k = g
          · subst e; exact h4 h' (by omega)
          · exact h2 k (by omega) h' hh'
    · simp only [SS, Nat.reduceEqDiff, Nat.reduceAdd, iput, puts, hlt2, not_false_eq_true, wrap_succ (show f < 9223372036854775807 by omega)]
      refine up rfl hlt fun k hk g' hg' h' hh' => ?_
      by_cases e : k = f
      · subst e; exact h2 g' (by omega) h' hh'
      · exact h1 k (by omega) g' hg' h' hh'
  · simp only [SS, Nat.reduceEqDiff, Nat.reduceAdd, iput, puts, hlt, not_false_eq_true]
    refine ⟨_, rfl, H, fun _ _ h => h, ?_, rfl, Nat.le_refl _⟩
    simp only [faultV, hid, asF_none fun f' hf' => h1 f' (by omega)]
    rfl

/-- The lists are no longer than the statements let by. -/
structure Small (c : Cat) : Prop where
  f : c.f.length ≤ 1048576
  t : c.t.length ≤ 1048576
  i : c.i.length ≤ 1048576
  c : c.c.length ≤ 1048576

def V_Category_isCategory : Vc :=
  .op true (.call (.f 30) [.t 0]) <|
  .op true (.p .bnot [.t 1]) <|
  .br 2
   (.ret [(.c (bool false), none)])
   (.op true (.call (.f 31) [.t 0]) <|
   .op true (.p (.ext 0) [.t 3]) <|
   .op true (.p (.ext 1) [.t 3]) <|
   .op true (.p (.ext 2) [.t 3]) <|
   .op true (.p (.ext 3) [.t 3]) <|
   .op true (.p (.bin .eql) [.t 4, .c (int 0)]) <|
   .ret [(.t 8, none)])
/-- What the program's test for a category rests on. -/
structure HCat (P : Program) (ν : Nat → FuncId) : Prop where
  arrows : Has P ν 26 1 V_Category_arrows
  inRange : Has P ν 32 3 V_inRange
  within : Has P ν 25 2 V_within
  ends : Has P ν 38 2 V_Category_ends
  thn : Has P ν 34 3 V_Category_then
  isShape : Has P ν 30 1 V_Category_isShape
  fault : Has P ν 31 1 V_Category_fault
  isCategory : Has P ν 24 1 V_Category_isCategory

theorem isCategory_ok (K : HCat P ν) (c : Cat) (b : Small c) : Fn P ν 24 [.ptr c.cells 0] (bool (decide (IsCat c))) := by
  intro H nx
  refine K.isCategory _ _ _ _ rfl fun hwf => ?_
  unfold V_Category_isCategory
  refine den_call (fc := (30, [])) rfl (by first | (simp only [SS, Nat.reduceEqDiff, Nat.reduceAdd, iput, puts, FF, frzL_cat]; done) | (simp only [SS, Nat.reduceEqDiff, Nat.reduceAdd, iput, puts, FF, frzL_cat]; rfl)) ((isShape_ok K.arrows K.inRange K.within K.ends K.isShape c b.f b.t b.i b.c).fzb) ?_
  simp only [SS, Nat.reduceEqDiff, Nat.reduceAdd, iput, puts]
  refine ⟨fun h1 => ?_, fun h1 => ?_⟩
  · exact ⟨_, rfl, H, fun _ _ h => h, ret_false (fun s => h1 s.1), rfl, Nat.le_refl _⟩
  obtain ⟨k, x, y, z, e1, e2⟩ := faultV_tup c
  have hf := fault_ok K.arrows K.thn K.fault c h1
  rw [e1] at hf
  refine den_call (fc := (31, [])) rfl (by first | (simp only [SS, Nat.reduceEqDiff, Nat.reduceAdd, iput, puts, FF, frzL_cat]; done) | (simp only [SS, Nat.reduceEqDiff, Nat.reduceAdd, iput, puts, FF, frzL_cat]; rfl)) (hf.fz4) ?_
  simp only [SS, Nat.reduceEqDiff, Nat.reduceAdd, iput, puts]
  refine ⟨_, rfl, H, fun _ _ h => h, ?_, rfl, Nat.le_refl _⟩
  show bool (k == 0) = _
  by_cases e : k = 0
  · rw [show (k == 0) = true from by simpa using e]; exact ret_true ⟨h1, e2.1 e⟩
  · rw [show (k == 0) = false from by simpa using e]; exact ret_false fun s => e (e2.2 s.2)

def V_spec_l02Is : Vc :=
  .op true (.p .box [.t 0]) <|
  .op true (.p (.ld (some 5)) [.t 1]) <|
  .op true (.call (.f 28) [.t 2]) <|
  .op true (.p .bnot [.t 3]) <|
  .br 4
   (.ret [(.c (bool false), none)])
   (.op true (.p (.ld (some 5)) [.t 1]) <|
   .op true (.call (.f 29) [.t 5]) <|
   .op true (.p (.ext 0) [.t 6]) <|
   .op true (.p (.ext 1) [.t 6]) <|
   .op true (.p (.ext 2) [.t 6]) <|
   .op true (.p (.ext 3) [.t 6]) <|
   .op true (.p (.bin .eql) [.t 7, .c (int 0)]) <|
   .ret [(.t 11, none)])
structure HSpec (P : Program) (ν : Nat → FuncId) : Prop where
  l01In : Has P ν 35 3 V_spec_l01In
  l01Map : Has P ν 37 2 V_spec_l01Map
  l02Ends : Has P ν 36 3 V_spec_l02Ends
  isShape : Has P ν 28 1 V_spec_IsShape
  l02Fault : Has P ν 29 1 V_spec_l02Fault
  l02Is : Has P ν 22 1 V_spec_l02Is
theorem l02Is_ok (K : HSpec P ν) (c : Cat) (b : Small c) : Fn P ν 22 [.agg c.cells] (bool (decide (IsCat c))) := by
  intro H nx
  refine K.l02Is _ _ _ _ rfl fun hwf => ?_
  unfold V_spec_l02Is
  simp only [SS, Nat.reduceEqDiff, Nat.reduceAdd, iput, puts, p_boxc, p_ldc]
  refine den_call (fc := (28, [])) rfl (by first | (simp only [SS, Nat.reduceEqDiff, Nat.reduceAdd, iput, puts, FF, frzL_cat, frzL_cat]; done) | (simp only [SS, Nat.reduceEqDiff, Nat.reduceAdd, iput, puts, FF, frzL_cat, frzL_cat]; rfl)) ((sIsShape_ok K.l01In K.l01Map K.l02Ends K.isShape c b.f b.t b.i b.c).fzb) ?_
  simp only [SS, Nat.reduceEqDiff, Nat.reduceAdd, iput, puts, p_ldc]
  refine ⟨fun h1 => ?_, fun h1 => ?_⟩
  · exact ⟨_, rfl, H, fun _ _ h => h, ret_false (fun s => h1 s.1), rfl, Nat.le_refl _⟩
  obtain ⟨k, x, y, z, e1, e2⟩ := faultV_tup c
  have hf := l02Fault_ok K.l02Fault c h1
  rw [e1] at hf
  refine den_call (fc := (29, [])) rfl (by first | (simp only [SS, Nat.reduceEqDiff, Nat.reduceAdd, iput, puts, FF, frzL_cat, frzL_cat]; done) | (simp only [SS, Nat.reduceEqDiff, Nat.reduceAdd, iput, puts, FF, frzL_cat, frzL_cat]; rfl)) hf.fz4 ?_
  simp only [SS, Nat.reduceEqDiff, Nat.reduceAdd, iput, puts]
  refine ⟨_, rfl, H, fun _ _ h => h, ?_, rfl, Nat.le_refl _⟩
  show bool (k == 0) = _
  by_cases e : k = 0
  · rw [show (k == 0) = true from by simpa using e]; exact ret_true ⟨h1, e2.1 e⟩
  · rw [show (k == 0) = false from by simpa using e]; exact ret_false fun s => e (e2.2 s.2)
end Go.Av
