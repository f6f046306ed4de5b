/-
  Slices that grow, whatever their elements; associativity.
-/
import Derived.Test.YtalfoffamemfnaaAvM3
import Derived.Test.YtalfoffamemfnaaAvB11
namespace Go.Av
open Classical
set_option linter.unusedSimpArgs false
set_option linter.unusedVariables false
variable {P : Program} {ν : Nat → FuncId}

theorem IsC.low {cs : List AV} {n sz : Nat} {H : Hp} {nx : Nat} {r : AV} {H' : Hp} {nx' : Nat} (h : IsC cs n sz H nx r H' nx') : Low H nx H' nx' := ⟨h.1, fun _ ho => h.old ho⟩
theorem IsCat.assoc {c : Cat} (k : IsCat c) {a b d : Int} (ha : Arr c a) (hb : Arr c b) (hd : Arr c d) (e1 : c.T a = c.F b) (e2 : c.T b = c.F d) : c.K (c.K a b) d = c.K a (c.K b d) := by
  have h := k.2.2
  unfold asF at h
  obtain ⟨a1, a2⟩ := ha.nat
  obtain ⟨b1, b2⟩ := hb.nat
  obtain ⟨d1, d2⟩ := hd.nat
  have h1 := List.findSome?_eq_none_iff.1 h a.toNat (by simpa using a1)
  have h2 := List.findSome?_eq_none_iff.1 h1 b.toNat (by simpa using b1)
  have h3 := List.findSome?_eq_none_iff.1 h2 d.toNat (by simpa using d1)
  by_cases hx : c.K (c.K a b) d = c.K a (c.K b d)
  · exact hx
  · have : asBad c a.toNat b.toNat d.toNat = true := by simp [asBad, a2, b2, d2, e1, e2, hx]
    simp [this] at h3
/-- What the limits need of a category. -/
structure CatA (c : Cat) : Prop where
  s : Shape c
  assoc : ∀ {a b d : Int}, Arr c a → Arr c b → Arr c d → c.T a = c.F b → c.T b = c.F d → c.K (c.K a b) d = c.K a (c.K b d)
theorem IsCat.A {c : Cat} (k : IsCat c) : CatA c := ⟨k.1, fun ha hb hd => k.assoc ha hb hd⟩
theorem opC_K' {c : Cat} {a b : Int} (ha : Arr c a) (hb : Arr c b) : (opC c).K a b = c.K b a := by
  obtain ⟨a1, a2⟩ := ha.nat
  obtain ⟨b1, b2⟩ := hb.nat
  have := opC_K (c := c) a1 b1
  rw [a2, b2] at this
  exact this
theorem opC_arr {c : Cat} (s : Shape c) {a : Int} : Arr (opC c) a ↔ Arr c a := by
  have tl := s.tl
  unfold Arr
  show 0 ≤ a ∧ a < (c.t.length : Int) ↔ _
  rw [tl]
theorem IsCat.opA {c : Cat} (k : IsCat c) : CatA (opC c) := by
  have s := k.1
  refine ⟨opC_shape s, fun {a b d} ha hb hd e1 e2 => ?_⟩
  have ha' := (opC_arr s).1 ha
  have hb' := (opC_arr s).1 hb
  have hd' := (opC_arr s).1 hd
  have e1' : c.F a = c.T b := e1
  have e2' : c.F b = c.T d := e2
  rw [opC_K' ha' hb', opC_K' hb' hd', opC_K' (s.arK hb' ha' e1'.symm) hd', opC_K' ha' (s.arK hd' hb' e2'.symm)]
  exact (k.assoc hd' hb' ha' e2'.symm e1'.symm).symm
end Go.Av
