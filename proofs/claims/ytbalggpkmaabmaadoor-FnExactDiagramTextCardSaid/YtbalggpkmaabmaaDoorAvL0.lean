/-
  What the statements have in common.
-/
import Derived.Test.YtbalggpkmaabmaaDoorAvAA
import Derived.Test.YtbalggpkmaabmaaDoorAvB2
namespace Go.Av
open Classical
set_option linter.unusedSimpArgs false
set_option linter.unusedVariables false
variable {P : Program} {ν : Nat → FuncId}

theorem IsP.some (l : List Int) (k : Int) (H : Hp) (nx : Nat) : ∃ u H' nx', IsP l k H nx u H' nx' := by
  obtain ⟨u, H', nx', h⟩ := IsI.some l H nx
  exact ⟨_, H', nx', u, rfl, h⟩
/-- What an owned result brings into the caller's memory. -/
theorem IsP.own {l : List Int} {k : Int} {nx : Nat} {r : AV} {H' : Hp} {nx' : Nat} (h : IsP l k hempty nx r H' nx') (H : Hp) :
    cln nx fuel r = true ∧ clnH nx H' ∧ nx ≤ nx' ∧ ∃ r0, r = .tup [r0, int k] ∧ Own1 l r0 (hmerge nx H H') nx nx' := by
  obtain ⟨r0, rfl, h0, ⟨rfl, rfl, rfl⟩ | ⟨o, h1, h2, rfl, rfl⟩⟩ := h
  · exact ⟨rfl, (fun o c hc => by cases hc), h0, .nil, rfl, .inl ⟨rfl, rfl⟩⟩
  · refine ⟨by simp [fuel, cln, int, h1], fun t c hc => ?_, h0, _, rfl, .inr ⟨o, h1, h2, rfl, ?_⟩⟩
    · simp only [hput] at hc
      split at hc
      · cases hc; simp [ints, cln, int]
      · cases hc
    · simp only [hmerge]; rw [if_neg (by omega)]; exact hput_eq _ _ _
theorem hmerge_lo {nx : Nat} {H H' : Hp} {o : Nat} (h : o < nx) : hmerge nx H H' o = H o := by simp [hmerge, h]


theorem neSelf (x : Int) : (x != x) = false := by simp

end Go.Av
