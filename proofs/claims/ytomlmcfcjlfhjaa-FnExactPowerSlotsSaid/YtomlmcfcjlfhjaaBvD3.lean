/-
  Functors among a statement's arguments: sizes, copies, comparisons.
-/
import Derived.Test.YtomlmcfcjlfhjaaBvD1
import Derived.Test.YtomlmcfcjlfhjaaBvC5
import Derived.Test.YtomlmcfcjlfhjaaBvK0
namespace Go.Av
set_option linter.unusedSectionVars false
set_option linter.unusedSimpArgs false
set_option linter.unusedVariables false
variable [md : Md]
open Classical
set_option linter.unusedSimpArgs false
set_option linter.unusedVariables false
variable {P : Program} {ν : Nat → FuncId}






section
variable {C : Ct} {Φ : AV → Hp → Nat → Prop} {n : Nat} {vars : Nat → AV} {H : Hp} {nx : Nat} {Is : Nat → Inv} {r : Vc}
end

/-- The cells of a functor in memory of the call's own. -/
def fuM (f : Fu) (a b p q : Nat) : List AV := [int f.s.o, .ms a 0 f.s.f.length 1, .ms (a + 1) 0 f.s.t.length 1, .ms (a + 2) 0 f.s.i.length 1, .ms (a + 3) 0 f.s.c.length 1, int f.t.o, .ms b 0 f.t.f.length 1, .ms (b + 1) 0 f.t.t.length 1, .ms (b + 2) 0 f.t.i.length 1, .ms (b + 3) 0 f.t.c.length 1, .ms p 0 f.ob.length 1, .ms q 0 f.ar.length 1]
structure FuAt (H : Hp) (a b p q : Nat) (f : Fu) : Prop where
  s : CatAt H a f.s
  t : CatAt H b f.t
  ob : H p = some (ints f.ob)
  ar : H q = some (ints f.ar)
structure FuIn (f : Fu) (a b p q lo hi : Nat) : Prop where
  ia : lo ≤ a
  ib : a + 4 + f.s.c.length ≤ b
  ip : b + 4 + f.t.c.length ≤ p
  iq : p < q
  ih : q < hi
def IsMkU (f : Fu) (H : Hp) (nx : Nat) (r : AV) (H' : Hp) (nx' : Nat) : Prop := ∃ a b p q, r = .agg (fuM f a b p q) ∧ FuIn f a b p q nx nx' ∧ FuAt H' a b p q f ∧ ∀ o, o < nx → H' o = H o
theorem FuAt.mono {H H' : Hp} {a b p q lo hi : Nat} {f : Fu} (h : FuAt H a b p q f) (i : FuIn f a b p q lo hi) (hh : ∀ o, lo ≤ o → o < hi → H' o = H o) : FuAt H' a b p q f := by
  have i1 := i.ia; have i2 := i.ib; have i3 := i.ip; have i4 := i.iq; have i5 := i.ih
  exact ⟨h.s.mono fun o _ _ => hh o (by omega) (by omega), h.t.mono fun o _ _ => hh o (by omega) (by omega), (hh p (by omega) (by omega)).trans h.ob, (hh q (by omega) (by omega)).trans h.ar⟩
theorem CatAt.ms {H : Hp} {n0 : Nat} {x : Cat} (h : CatAt H n0 x) (k : Nat) : Av.frzN H (k + 1 + 1) (.ms n0 0 x.f.length 1) = some (islice x.f) ∧ Av.frzN H (k + 1 + 1) (.ms (n0 + 1) 0 x.t.length 1) = some (islice x.t) ∧ Av.frzN H (k + 1 + 1) (.ms (n0 + 2) 0 x.i.length 1) = some (islice x.i) ∧ Av.frzN H (k + 1 + 1) (.ms (n0 + 3) 0 x.c.length 1) = some (.sl (rows x.c) x.c.length) :=
  ⟨frzN_ms h.f _, frzN_ms h.t _, frzN_ms h.i _, frzN_rows h.c h.row _⟩
theorem FuAt.frzN {H : Hp} {a b p q : Nat} {f : Fu} (h : FuAt H a b p q f) : Av.frzN H fuel (.agg (fuM f a b p q)) = some (.agg f.cells) := by
  show ((fuM f a b p q).mapM (Av.frzN H 5)).map AV.agg = _
  have h1 := h.s.ms 3
  have h2 := h.t.ms 3
  simp only [fuM, List.mapM_cons, List.mapM_nil, frzN_int, h1, h2, frzN_ms h.ob 4, frzN_ms h.ar 4]
  rfl
theorem frzL_of {H : Hp} {v u : AV} {l : List AV} (h : frzN H fuel v = some u) : frzL H (v :: l) = (frzL H l).map (u :: ·) := by
  simp only [Av.frzL, List.mapM_cons, frzN_frz _ _ _ h]; cases List.mapM (Av.frz H fuel) l <;> rfl

section
variable {C : Ct} {Φ : AV → Hp → Nat → Prop} {n : Nat} {vars : Nat → AV} {H : Hp} {nx : Nat} {Is : Nat → Inv} {r : Vc}
end
theorem toCat_someG (c : Cat) (H : Hp) (nx : Nat) : ∃ r H' nx', (∃ n0, r = catM c n0 ∧ nx ≤ n0 ∧ nx' = n0 + 4 + c.c.length ∧ CatAt H' n0 c ∧ ∀ o, o < nx → H' o = H o) :=
  ⟨_, catH H nx c, _, nx, rfl, Nat.le_refl _, rfl, catH_at _ _ _, fun o ho => catH_lo _ _ _ _ ho⟩

end Go.Av
