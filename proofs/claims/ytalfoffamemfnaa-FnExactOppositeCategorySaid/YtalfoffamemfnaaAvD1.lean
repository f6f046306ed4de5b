/-
  Functors: when a pair of maps is one, the program's test.
-/
import Derived.Test.YtalfoffamemfnaaAvD0
import Derived.Test.YtalfoffamemfnaaAvAA
namespace Go.Av
open Classical
set_option linter.unusedSimpArgs false
set_option linter.unusedVariables false
variable {P : Program} {ν : Nat → FuncId}

structure Fu where
  s : Cat
  t : Cat
  ob : List Int
  ar : List Int
def Fu.cells (f : Fu) : List AV := [int f.s.o, islice f.s.f, islice f.s.t, islice f.s.i, .sl (rows f.s.c) f.s.c.length, int f.t.o, islice f.t.f, islice f.t.t, islice f.t.i, .sl (rows f.t.c) f.t.c.length, islice f.ob, islice f.ar]
def Fu.O (f : Fu) (x : Int) : Int := gI f.ob x
def Fu.A (f : Fu) (x : Int) : Int := gI f.ar x
theorem foldO (f : Fu) (x : Int) : gI f.ob x = f.O x := rfl
theorem foldA (f : Fu) (x : Int) : gI f.ar x = f.A x := rfl
theorem SU (f : Fu) :
    f.cells[0]? = some (int f.s.o) ∧ f.cells[1]? = some (islice f.s.f) ∧ f.cells[2]? = some (islice f.s.t) ∧ f.cells[3]? = some (islice f.s.i) ∧ f.cells[4]? = some (.sl (rows f.s.c) f.s.c.length) ∧
    f.cells[5]? = some (int f.t.o) ∧ f.cells[6]? = some (islice f.t.f) ∧ f.cells[7]? = some (islice f.t.t) ∧ f.cells[8]? = some (islice f.t.i) ∧ f.cells[9]? = some (.sl (rows f.t.c) f.t.c.length) ∧
    f.cells[10]? = some (islice f.ob) ∧ f.cells[11]? = some (islice f.ar) ∧
    (∀ H : Hp, pvf H .box [.agg f.cells] = some (.ptr f.cells 0)) ∧ (∀ H : Hp, pvf H (.ld (some 12)) [.ptr f.cells 0] = some (.agg f.cells)) ∧
    (∀ H : Hp, pvf H (.ld (some 5)) [.ptr f.cells 0] = some (.agg f.s.cells)) ∧ (∀ H : Hp, pvf H (.ld (some 5)) [.ptr f.cells 5] = some (.agg f.t.cells)) ∧
    (∀ x, gI f.ob x = f.O x) ∧ (∀ x, gI f.ar x = f.A x) :=
  ⟨rfl, rfl, rfl, rfl, rfl, rfl, rfl, rfl, rfl, rfl, rfl, rfl, fun _ => rfl, fun _ => rfl, fun _ => rfl, fun _ => rfl, fun _ => rfl, fun _ => rfl⟩
theorem frzL_fu {H : Hp} {l : List AV} (f : Fu) : frzL H (.agg f.cells :: l) = (frzL H l).map (.agg f.cells :: ·) := frzL_agg rfl
/-- A function over the source or the target of a functor. -/
theorem Fu.winS {f : Fu} {id : Nat} {rest : List AV} {r : AV} (h : Fz (OkM P ν) id (.ptr f.s.cells 0 :: rest) r) : Fz (OkM P ν) id (.ptr f.cells 0 :: rest) r := Fz.win (n := 5) h
theorem Fu.winT {f : Fu} {id : Nat} {rest : List AV} {r : AV} (h : Fz (OkM P ν) id (.ptr f.t.cells 0 :: rest) r) : Fz (OkM P ν) id (.ptr f.cells 5 :: rest) r := Fz.win (n := 5) h

structure Fits (f : Fu) : Prop where
  ol : (f.ob.length : Int) = f.s.o
  al : f.ar.length = f.s.f.length
  ow : Wn f.ob f.t.o
  aw : Wn f.ar f.t.f.length
  ends : ∀ a : Nat, a < f.ar.length → f.t.F (f.A a) = f.O (f.s.F a) ∧ f.t.T (f.A a) = f.O (f.s.T a)
  ids : ∀ x : Nat, x < f.s.i.length → f.A (f.s.I x) = f.t.I (f.O x)
  comp : ∀ a b : Nat, a < f.s.f.length → b < f.s.f.length → 0 ≤ f.s.K a b → f.A (f.s.K a b) = f.t.K (f.A a) (f.A b)
structure IsFu (f : Fu) : Prop where
  s : IsCat f.s
  t : IsCat f.t
  m : Fits f
structure SmallU (f : Fu) : Prop where
  s : Small2 f.s
  t : Small2 f.t
  ob : f.ob.length ≤ 1048576
  ar : f.ar.length ≤ 1048576

theorem Fits.inO {f : Fu} (m : Fits f) {x : Int} (h : Ob f.s x) : In f.ob x := ⟨h.1, by have := m.ol; have := h.2; omega⟩
theorem Fits.inA {f : Fu} (m : Fits f) {x : Int} (h : Arr f.s x) : In f.ar x := ⟨h.1, by have := m.al; have := h.2; omega⟩
theorem Fits.obO {f : Fu} (m : Fits f) {x : Int} (h : Ob f.s x) : Ob f.t (f.O x) := m.ow.at (m.inO h)
theorem Fits.arA {f : Fu} (m : Fits f) {x : Int} (h : Arr f.s x) : Arr f.t (f.A x) := m.aw.at (m.inA h)

end Go.Av
