/-
  Several texts in one: AvA1, AvA2, AvA3, AvA4, AvA5, AvA6, AvA7, AvA8.
-/
import Derived.Test.YtbalggpkmaabmaaDoorAvQ
/-
  Small functions: ranges, lists of integers in a range, a category's table.
-/
namespace Go.Av
open Classical
set_option linter.unusedSimpArgs false
set_option linter.unusedVariables false
variable {P : Program} {ν : Nat → FuncId}

def V_inRange : Vc :=
  .op true (.p (.bin .geq) [.t 0, .t 1]) <|
  .br 3
   (.op true (.p (.bin .leq) [.t 0, .t 2]) <|
   .ret [(.t 4, none)])
   (.ret [(.c (bool false), none)])
theorem inRange_ok (h : Has P ν 32 3 V_inRange) (a b c : Int) : Fn P ν 32 [int a, int b, int c] (bool (decide (b ≤ a ∧ a ≤ c))) := by
  intro H nx
  refine h _ _ _ _ rfl fun hwf => ?_
  unfold V_inRange
  simp only [SS, Nat.reduceEqDiff, Nat.reduceAdd, iput, puts]
  refine ⟨fun h1 => ?_, fun h1 => ?_⟩
  · refine ⟨_, rfl, H, fun _ _ h => h, ?_, rfl, Nat.le_refl _⟩
    show bool (decide (a ≤ c)) = _
    have : b ≤ a := h1
    simp [this]
  · exact ⟨_, rfl, H, fun _ _ h => h, ret_false (by omega), rfl, Nat.le_refl _⟩

def V_spec_l01In : Vc :=
  .op true (.p (.bin .geq) [.t 0, .t 1]) <|
  .br 3
   (.op true (.p (.bin .leq) [.t 0, .t 2]) <|
   .ret [(.t 4, none)])
   (.ret [(.c (bool false), none)])
theorem l01In_ok (h : Has P ν 35 3 V_spec_l01In) (a b c : Int) : Fn P ν 35 [int a, int b, int c] (bool (decide (b ≤ a ∧ a ≤ c))) := by
  intro H nx
  refine h _ _ _ _ rfl fun hwf => ?_
  unfold V_spec_l01In
  simp only [SS, Nat.reduceEqDiff, Nat.reduceAdd, iput, puts]
  refine ⟨fun h1 => ?_, fun h1 => ?_⟩
  · refine ⟨_, rfl, H, fun _ _ h => h, ?_, rfl, Nat.le_refl _⟩
    show bool (decide (a ≤ c)) = _
    have : b ≤ a := h1
    simp [this]
  · exact ⟨_, rfl, H, fun _ _ h => h, ret_false (by omega), rfl, Nat.le_refl _⟩

/-- All numbers of the list lie from 0 on below n. -/
def Wn (l : List Int) (n : Int) : Prop := ∀ k, k < l.length → 0 ≤ l.getD k 0 ∧ l.getD k 0 < n




structure Cat where
  o : Int
  f : List Int
  t : List Int
  i : List Int
  c : List (List Int)
def Cat.cells (c : Cat) : List AV := [int c.o, islice c.f, islice c.t, islice c.i, .sl (rows c.c) c.c.length]
theorem cat0 (c : Cat) : c.cells[0]? = some (int c.o) := rfl
theorem cat1 (c : Cat) : c.cells[1]? = some (islice c.f) := rfl
theorem cat2 (c : Cat) : c.cells[2]? = some (islice c.t) := rfl
theorem cat3 (c : Cat) : c.cells[3]? = some (islice c.i) := rfl
theorem cat4 (c : Cat) : c.cells[4]? = some (.sl (rows c.c) c.c.length) := rfl
theorem cat_still (c : Cat) : c.cells.all AV.still = true := rfl
theorem cat_one (c : Cat) : c.cells.all AV.one = true := rfl
theorem p_boxc {H : Hp} (c : Cat) : pvf H .box [.agg c.cells] = some (.ptr c.cells 0) := p_box (cat_still c) (cat_one c)
theorem p_ldc {H : Hp} (c : Cat) : pvf H (.ld (some 5)) [.ptr c.cells 0] = some (.agg c.cells) := p_lda rfl
theorem frzL_cat {H : Hp} {l : List AV} (c : Cat) : frzL H (.agg c.cells :: l) = (frzL H l).map (.agg c.cells :: ·) := frzL_agg (cat_still c)
/-- The composite of two arrows in the table. -/
def Cat.K (c : Cat) (a b : Int) : Int := (c.c.getD a.toNat []).getD b.toNat 0
def Cat.F (c : Cat) (a : Int) : Int := c.f.getD a.toNat 0
def Cat.T (c : Cat) (a : Int) : Int := c.t.getD a.toNat 0
def Cat.I (c : Cat) (a : Int) : Int := c.i.getD a.toNat 0




end Go.Av

/-
  When a table is a category: the program's test and the reference's.
-/
namespace Go.Av
open Classical
set_option linter.unusedSimpArgs false
set_option linter.unusedVariables false
variable {P : Program} {ν : Nat → FuncId}

/-- The entry of the table at two arrows is as it must be. -/
def Cell (c : Cat) (a b : Nat) : Prop :=
  if c.t.getD a 0 = c.f.getD b 0 then 0 ≤ c.K a b ∧ c.K a b < c.f.length ∧ c.F (c.K a b) = c.f.getD a 0 ∧ c.T (c.K a b) = c.t.getD b 0 else c.K a b = -1
structure Shape (c : Cat) : Prop where
  o0 : 0 ≤ c.o
  o8 : c.o ≤ 8
  n40 : c.f.length ≤ 40
  tl : c.t.length = c.f.length
  fw : Wn c.f c.o
  tw : Wn c.t c.o
  il : (c.i.length : Int) = c.o
  iw : Wn c.i c.f.length
  cl : c.c.length = c.f.length
  id : ∀ x : Nat, x < c.i.length → c.F (c.i.getD x 0) = x ∧ c.T (c.i.getD x 0) = x
  row : ∀ a : Nat, a < c.f.length → (c.c.getD a []).length = c.f.length ∧ ∀ b : Nat, b < c.f.length → Cell c a b




end Go.Av

/-
  The laws of a category: the first fault; when a table is a category.
-/
namespace Go.Av
open Classical
set_option linter.unusedSimpArgs false
set_option linter.unusedVariables false
variable {P : Program} {ν : Nat → FuncId}

def idOk (c : Cat) (f : Nat) : Bool := c.K (c.I (c.F f)) f == (f : Int) && c.K f (c.I (c.T f)) == (f : Int)
def asBad (c : Cat) (f g h : Nat) : Bool := c.T f == c.F g && c.T g == c.F h && c.K (c.K f g) h != c.K f (c.K g h)
def idF (c : Cat) : Option Nat := (List.range c.f.length).findSome? fun f => if idOk c f then none else some f
def asF (c : Cat) : Option (Nat × Nat × Nat) :=
  (List.range c.f.length).findSome? fun f => (List.range c.f.length).findSome? fun g => (List.range c.f.length).findSome? fun h => if asBad c f g h then some (f, g, h) else none
def Laws (c : Cat) : Prop := idF c = none ∧ asF c = none

section sh
variable {c : Cat}
theorem Shape.iLt (s : Shape c) {x : Int} (h0 : 0 ≤ x) (h : x < c.i.length) : 0 ≤ c.I x ∧ c.I x < c.f.length := s.iw x.toNat (by omega)
theorem Shape.rowLen (s : Shape c) {a : Int} (h0 : 0 ≤ a) (h : a < c.f.length) : (c.c.getD a.toNat []).length = c.f.length := (s.row a.toNat (by omega)).1
end sh







end Go.Av

/-
  Arrows between two objects, lifts, sections; the error codes.
-/
namespace Go.Av
open Classical
set_option linter.unusedSimpArgs false
set_option linter.unusedVariables false
variable {P : Program} {ν : Nat → FuncId}

/-- The numbers below n that meet p, rising. -/
def selL (n : Nat) (p : Nat → Bool) : List Int := ((List.range n).filter p).map fun (k : Nat) => (k : Int)

def homL (c : Cat) (x y : Int) : List Int := selL c.f.length fun k => c.F k == x && c.T k == y


/-- A pair of a slice of the call's own and a number. -/
def IsP (l : List Int) (k : Int) (H : Hp) (nx : Nat) (r : AV) (H' : Hp) (nx' : Nat) : Prop := ∃ r0, r = .tup [r0, int k] ∧ IsI l H nx r0 H' nx'
theorem IsP.frz {l : List Int} {k : Int} {H : Hp} {nx : Nat} {r : AV} {H' : Hp} {nx' : Nat} (h : IsP l k H nx r H' nx') : frzN H' fuel r = some (.tup [islice l, int k]) := by
  obtain ⟨r0, rfl, h⟩ := h
  have := h.frz 4
  simp [fuel, frzN, this, frzN_int]






end Go.Av

/-
  SectionsOf: the program's and the reference's.
-/
namespace Go.Av
open Classical
set_option linter.unusedSimpArgs false
set_option linter.unusedVariables false
variable {P : Program} {ν : Nat → FuncId}

theorem IsI.some (l : List Int) (H : Hp) (nx : Nat) : ∃ u H' nx', IsI l H nx u H' nx' := by
  by_cases e : l = []
  · exact ⟨.nil, H, nx, Nat.le_refl _, .inl ⟨e, rfl, rfl⟩⟩
  · exact ⟨_, _, nx + 1, Nat.le_succ _, .inr ⟨nx, Nat.le_refl _, Nat.lt_succ_self _, rfl, rfl⟩⟩
theorem IsI.nil (H : Hp) (nx : Nat) : IsI [] H nx .nil H nx := ⟨Nat.le_refl _, .inl ⟨rfl, rfl, rfl⟩⟩






end Go.Av

/-
  The statements' own helpers: sizes, copies, comparisons, marks.
-/
namespace Go.Av
open Classical
set_option linter.unusedSimpArgs false
set_option linter.unusedVariables false
variable {P : Program} {ν : Nat → FuncId}




theorem Cat.ext {a b : Cat} (h1 : a.o = b.o) (h2 : a.f = b.f) (h3 : a.t = b.t) (h4 : a.i = b.i) (h5 : a.c = b.c) : a = b := by cases a; cases b; simp_all







end Go.Av

/-
  The statements' own helpers: copies, marks.
-/
namespace Go.Av
open Classical
set_option linter.unusedSimpArgs false
set_option linter.unusedVariables false
variable {P : Program} {ν : Nat → FuncId}

theorem hput_eq (H : Hp) (o : Nat) (c : Option (List AV)) : hput H o c o = c := by simp [hput]
theorem hput_ne (H : Hp) (o k : Nat) (c : Option (List AV)) (h : k ≠ o) : hput H o c k = H k := by simp [hput, h]

section
variable {H : Hp} {o n : Nat} {i : Int}
theorem p_iadm {c : List AV} (h : H o = some c) (hl : c.length = n) : pvf H (.iad 1) [.ms o 0 n 1, int i] = if 0 ≤ i ∧ i < n then some (.mp o i.toNat n) else none := by
  simp [pvf, pIad, h, int, hl]
theorem p_lenm {c : List AV} (h : H o = some c) (hl : c.length = n) : pvf H .len [.ms o 0 n 1] = some (int n) := by
  simp [pvf, pLen, h, int, hl]
theorem p_ldm {c : List AV} {p : Nat} (h : H o = some c) (hl : c.length = n) : pvf H (.ld none) [.mp o p n] = c[p]? := by
  simp [pvf, pLd, h, hl]
end
section
variable {C : Ct} {Φ : AV → Hp → Nat → Prop} {n : Nat} {vars : Nat → AV} {H : Hp} {nx : Nat} {Is : Nat → Inv} {r : Vc}
end

def IsMk (l : List Int) (H : Hp) (nx : Nat) (r : AV) (H' : Hp) (nx' : Nat) : Prop := r = .ms nx 0 l.length 1 ∧ H' = hput H nx (some (ints l)) ∧ nx' = nx + 1



def outer (m : List (List Int)) (nx i : Nat) : List AV := (List.range m.length).map fun j => if j < i then .ms (nx + 1 + j) 0 (m.getD j []).length 1 else .nil
def rowsH (H : Hp) (nx : Nat) (m : List (List Int)) (i : Nat) : Hp := fun k => if k = nx then some (outer m nx i) else if nx < k ∧ k ≤ nx + i then some (ints (m.getD (k - nx - 1) [])) else H k
theorem outer_len (m : List (List Int)) (nx i : Nat) : (outer m nx i).length = m.length := by simp [outer]
def IsMk2 (m : List (List Int)) (H : Hp) (nx : Nat) (r : AV) (H' : Hp) (nx' : Nat) : Prop := r = .ms nx 0 m.length 1 ∧ H' = rowsH H nx m m.length ∧ nx' = nx + 1 + m.length
theorem IsMk.some (l : List Int) (H : Hp) (nx : Nat) : ∃ u H' nx', IsMk l H nx u H' nx' := ⟨_, _, _, rfl, rfl, rfl⟩


/-- A category of the call's own, from object n0 on. -/
def catM (c : Cat) (n0 : Nat) : AV := .agg [int c.o, .ms n0 0 c.f.length 1, .ms (n0 + 1) 0 c.t.length 1, .ms (n0 + 2) 0 c.i.length 1, .ms (n0 + 3) 0 c.c.length 1]
def catH (H : Hp) (n0 : Nat) (c : Cat) : Hp := rowsH (hput (hput (hput H n0 (some (ints c.f))) (n0 + 1) (some (ints c.t))) (n0 + 2) (some (ints c.i))) (n0 + 3) c.c c.c.length
def IsMkC (c : Cat) (H : Hp) (nx : Nat) (r : AV) (H' : Hp) (nx' : Nat) : Prop := ∃ n0, nx ≤ n0 ∧ r = catM c n0 ∧ H' = catH H n0 c ∧ nx' = n0 + 4 + c.c.length
theorem IsMk2.some (m : List (List Int)) (H : Hp) (nx : Nat) : ∃ u H' nx', IsMk2 m H nx u H' nx' := ⟨_, _, _, rfl, rfl, rfl⟩

theorem rowsH_lo (H : Hp) (nx : Nat) (m : List (List Int)) (i k : Nat) (h : k < nx) : rowsH H nx m i k = H k := by
  simp only [rowsH]; rw [if_neg (by omega), if_neg (by omega)]

section
variable {C : Ct} {Φ : AV → Hp → Nat → Prop} {n : Nat} {vars : Nat → AV} {H : Hp} {nx : Nat} {Is : Nat → Inv} {r : Vc}
end
theorem p_fadm {H : Hp} {o p l k : Nat} {c : List AV} (h : H o = some c) (hl : c.length = l) : pvf H (.fad k) [.mp o p l] = some (.mp o (p + k) l) := by
  simp [pvf, pFad, h, hl]
theorem p_ldsm {H : Hp} {o l : Nat} {c : List AV} (h : H o = some c) (hl : c.length = l) : pvf H (.ld (some l)) [.mp o 0 l] = some (.agg c) := by
  subst hl; simp [pvf, pLd, h]

section
variable {C : Ct} {Φ : AV → Hp → Nat → Prop} {n : Nat} {vars : Nat → AV} {H : Hp} {nx : Nat} {Is : Nat → Inv} {r : Vc}
end
theorem hp2 {H : Hp} {o k : Nat} {c : Option (List AV)} {x : List AV} (h : k ≠ o) (hk : H k = some x) : hput H o c k = some x := by rw [hput_ne _ _ _ _ h]; exact hk

end Go.Av

/-
  Marks: what the statements write into memory, and how it is found again.
-/
namespace Go.Av
open Classical
set_option linter.unusedSimpArgs false
set_option linter.unusedVariables false
variable {P : Program} {ν : Nat → FuncId}


/-- A list of integers that lies in an object of its own (or has no memory). -/
def Own1 (l : List Int) (r : AV) (M : Hp) (lo hi : Nat) : Prop := (l = [] ∧ r = .nil) ∨ ∃ o, lo ≤ o ∧ o < hi ∧ r = .ms o 0 l.length 1 ∧ M o = some (ints l)
theorem Own1.frz {l : List Int} {r : AV} {M : Hp} {lo hi : Nat} (h : Own1 l r M lo hi) : frz M fuel r = some (islice l) := by
  rcases h with ⟨rfl, rfl⟩ | ⟨o, _, _, rfl, ho⟩
  · rfl
  · have : ∀ (l : List Int) (k : Nat), (ints l).mapM (Av.frz M k) = some (ints l) := fun l k => frz_stills (by simp [ints, AV.still, int])
    simp only [fuel, Av.frz, ho, ints_length, Nat.zero_add, Nat.mul_one, if_true, this]
    simp [islice]
theorem Own1.frzL {l : List Int} {r : AV} {M : Hp} {lo hi : Nat} (h : Own1 l r M lo hi) (t : List AV) : frzL M (r :: t) = (Av.frzL M t).map (islice l :: ·) := by
  simp only [Av.frzL, List.mapM_cons, h.frz]; cases List.mapM (Av.frz M fuel) t <;> rfl
theorem Own1.mono {l : List Int} {r : AV} {M M' : Hp} {lo hi hi' : Nat} (h : Own1 l r M lo hi) (hh : hi ≤ hi') (hM : ∀ o, lo ≤ o → o < hi → M' o = M o) : Own1 l r M' lo hi' := by
  rcases h with ⟨rfl, rfl⟩ | ⟨o, h1, h2, rfl, ho⟩
  · exact .inl ⟨rfl, rfl⟩
  · exact .inr ⟨o, h1, by omega, rfl, (hM o h1 h2).trans ho⟩



def outerC (m : Nat) (id len : Nat → Nat) : List AV := (List.range m).map fun j => .ms (id j) 0 (len j) 1
theorem outerC_get {m : Nat} {id len : Nat → Nat} {j : Nat} (h : j < m) : (outerC m id len)[j]? = some (.ms (id j) 0 (len j) 1) := by simp [outerC, h]


/-- The objects of a category of the call's own. -/
structure CatAt (H : Hp) (n0 : Nat) (x : Cat) : Prop where
  f : H n0 = some (ints x.f)
  t : H (n0 + 1) = some (ints x.t)
  i : H (n0 + 2) = some (ints x.i)
  c : H (n0 + 3) = some (outerC x.c.length (fun j => n0 + 4 + j) (fun j => (x.c.getD j []).length))
  row : ∀ j, j < x.c.length → H (n0 + 4 + j) = some (ints (x.c.getD j []))
theorem outer_full (m : List (List Int)) (nx : Nat) : outer m nx m.length = outerC m.length (fun j => nx + 1 + j) (fun j => (m.getD j []).length) := by
  refine List.ext_getElem (by simp [outer, outerC]) fun j h1 h2 => ?_
  have : j < m.length := by simpa [outer] using h1
  simp [outer, outerC, this]
theorem catH_at (H : Hp) (n0 : Nat) (c : Cat) : CatAt (catH H n0 c) n0 c := by
  refine ⟨?_, ?_, ?_, ?_, fun j hj => ?_⟩
  · simp only [catH, rowsH, hput]; rw [if_neg (by omega), if_neg (by omega), if_neg (by omega), if_neg (by omega), if_pos trivial]
  · simp only [catH, rowsH, hput]; rw [if_neg (by omega), if_neg (by omega), if_neg (by omega), if_pos trivial]
  · simp only [catH, rowsH, hput]; rw [if_neg (by omega), if_neg (by omega), if_pos trivial]
  · simp only [catH, rowsH]; rw [if_pos trivial, outer_full]
  · simp only [catH, rowsH]; rw [if_neg (by omega), if_pos (by omega), show n0 + 4 + j - (n0 + 3) - 1 = j by omega]
theorem mapM_outer {f : AV → Option AV} {x : List (List Int)} {g : Nat → AV} (h : ∀ j, j < x.length → f (g j) = some (islice (x.getD j []))) : ((List.range x.length).map g).mapM f = some (rows x) := by
  have key : ∀ n, n ≤ x.length → ((List.range n).map g).mapM f = some ((List.range n).map fun j => islice (x.getD j [])) := by
    intro n
    induction n with
    | zero => intro _; rfl
    | succ n ih =>
      intro hn
      rw [List.range_succ, List.map_append, List.mapM_append, ih (by omega)]
      simp [h n (by omega)]
  rw [key _ (Nat.le_refl _)]
  congr 1
  refine List.ext_getElem (by simp [rows]) fun j h1 h2 => ?_
  have : j < x.length := by simpa [rows] using h2
  simp [rows, this]
theorem CatAt.frz {H : Hp} {n0 : Nat} {x : Cat} (h : CatAt H n0 x) : frz H fuel (catM x n0) = some (.agg x.cells) := by
  have st : ∀ (l : List Int) (k : Nat), (ints l).mapM (Av.frz H k) = some (ints l) := fun l k => frz_stills (by simp [ints, AV.still, int])
  have hi : ∀ (o : Nat) (l : List Int) (k : Nat), H o = some (ints l) → Av.frz H (k + 1) (.ms o 0 l.length 1) = some (islice l) := fun o l k ho => by
    simp only [Av.frz, ho, ints_length, Nat.zero_add, Nat.mul_one, if_true, st]; simp [islice]
  have hrows : Av.frz H 5 (.ms (n0 + 3) 0 x.c.length 1) = some (.sl (rows x.c) x.c.length) := by
    have hl : (outerC x.c.length (fun j => n0 + 4 + j) (fun j => (x.c.getD j []).length)).length = x.c.length := by simp [outerC]
    simp only [Av.frz, h.c, hl, Nat.zero_add, Nat.mul_one, if_true]
    rw [show outerC x.c.length (fun j => n0 + 4 + j) (fun j => (x.c.getD j []).length) = (List.range x.c.length).map fun j => .ms (n0 + 4 + j) 0 (x.c.getD j []).length 1 from rfl, mapM_outer fun j hj => hi _ _ _ (h.row j hj)]
    simp
  show ([int x.o, .ms n0 0 x.f.length 1, .ms (n0 + 1) 0 x.t.length 1, .ms (n0 + 2) 0 x.i.length 1, .ms (n0 + 3) 0 x.c.length 1].mapM (Av.frz H 5)).map AV.agg = _
  simp only [List.mapM_cons, List.mapM_nil, frz_int, hi _ _ 4 h.f, hi _ _ 4 h.t, hi _ _ 4 h.i, hrows]
  rfl
theorem CatAt.frzN {H : Hp} {n0 : Nat} {x : Cat} (h : CatAt H n0 x) : frzN H fuel (catM x n0) = some (.agg x.cells) := by
  have hi : ∀ (o : Nat) (l : List Int) (k : Nat), H o = some (ints l) → Av.frzN H (k + 1) (.ms o 0 l.length 1) = some (islice l) := fun o l k ho => by
    simp only [Av.frzN, ho, ints_length, Nat.zero_add, Nat.mul_one, if_true, frzN_ints]; simp [islice]
  have hrows : Av.frzN H 5 (.ms (n0 + 3) 0 x.c.length 1) = some (.sl (rows x.c) x.c.length) := by
    have hl : (outerC x.c.length (fun j => n0 + 4 + j) (fun j => (x.c.getD j []).length)).length = x.c.length := by simp [outerC]
    simp only [Av.frzN, h.c, hl, Nat.zero_add, Nat.mul_one, if_true]
    rw [show outerC x.c.length (fun j => n0 + 4 + j) (fun j => (x.c.getD j []).length) = (List.range x.c.length).map fun j => .ms (n0 + 4 + j) 0 (x.c.getD j []).length 1 from rfl, mapM_outer fun j hj => hi _ _ _ (h.row j hj)]
    simp
  show ([int x.o, .ms n0 0 x.f.length 1, .ms (n0 + 1) 0 x.t.length 1, .ms (n0 + 2) 0 x.i.length 1, .ms (n0 + 3) 0 x.c.length 1].mapM (Av.frzN H 5)).map AV.agg = _
  simp only [List.mapM_cons, List.mapM_nil, frzN_int, hi _ _ 4 h.f, hi _ _ 4 h.t, hi _ _ 4 h.i, hrows]
  rfl
theorem CatAt.frzL {H : Hp} {n0 : Nat} {x : Cat} (h : CatAt H n0 x) (t : List AV) : frzL H (catM x n0 :: t) = (Av.frzL H t).map (.agg x.cells :: ·) := by
  simp only [Av.frzL, List.mapM_cons, h.frz]; cases List.mapM (Av.frz H fuel) t <;> rfl
theorem CatAt.mono {H H' : Hp} {n0 : Nat} {x : Cat} (h : CatAt H n0 x) (hh : ∀ o, n0 ≤ o → o < n0 + 4 + x.c.length → H' o = H o) : CatAt H' n0 x :=
  ⟨(hh _ (by omega) (by omega)).trans h.f, (hh _ (by omega) (by omega)).trans h.t, (hh _ (by omega) (by omega)).trans h.i, (hh _ (by omega) (by omega)).trans h.c, fun j hj => (hh _ (by omega) (by omega)).trans (h.row j hj)⟩
theorem IsMkC.some (c : Cat) (H : Hp) (nx : Nat) : ∃ u H' nx', IsMkC c H nx u H' nx' := ⟨_, _, _, nx, Nat.le_refl _, rfl, rfl, rfl⟩

end Go.Av
