/-
  Connected objects: both sides.
-/
import Derived.Test.YtbalggpkmaabmaaDoorAvJ1
namespace Go.Av
open Classical
set_option linter.unusedSimpArgs false
set_option linter.unusedVariables false
variable {P : Program} {ν : Nat → FuncId}

/-- What a callee's own slice becomes in a function that keeps nothing else. -/
theorem IsI.back {l : List Int} {H H1 : Hp} {nx n1 : Nat} {u : AV} {H' : Hp} {nx' : Nat} (h : IsI l hempty n1 u H' nx') (hw : Wf H nx) (hn : nx ≤ n1) (low : ∀ j, j < nx → H1 j = H j) : ∃ H2 : Hp, (∀ q d, H2 q = Option.some d → hmerge n1 H1 H' q = Option.some d) ∧ IsI l H nx u H2 nx' := by
  obtain ⟨_, _, q3, own⟩ := h.own H1
  rcases own with ⟨e, rfl⟩ | ⟨o, o1, o2, rfl, e⟩
  · refine ⟨H, fun q d hq => ?_, by omega, .inl ⟨e, rfl, rfl⟩⟩
    have : q < nx := by
      by_cases e : q < nx
      · exact e
      · rw [hw q (by omega)] at hq; cases hq
    rw [hmerge_lo (by omega), low q this]; exact hq
  · exact isI_of hw (by omega) o2 e fun j hj => by rw [hmerge_lo (by omega)]; exact low j hj
theorem Own1.back {l : List Int} {H : Hp} {nx : Nat} {u : AV} {H' : Hp} {nx' : Nat} (own : Own1 l u H' nx nx') (hn : nx ≤ nx') (hw : Wf H nx) (low : ∀ j, j < nx → H' j = H j) : ∃ H2 : Hp, (∀ q d, H2 q = Option.some d → H' q = Option.some d) ∧ IsI l H nx u H2 nx' := by
  rcases own with ⟨e, rfl⟩ | ⟨o, o1, o2, rfl, e⟩
  · refine ⟨H, fun q d hq => ?_, by omega, .inl ⟨e, rfl, rfl⟩⟩
    have : q < nx := by
      by_cases e : q < nx
      · exact e
      · rw [hw q (by omega)] at hq; cases hq
    rw [low q this]; exact hq
  · exact isI_of hw o1 o2 e low

/-- The pairs of ends. -/
def ends (c : Cat) : List (Nat × Nat) := (List.range c.f.length).map fun (i : Nat) => ((c.F i).toNat, (c.T i).toNat)
theorem NewL.joiner {n : Nat} {H : Hp} {nx : Nat} {r : AV} {H' : Hp} {nx' : Nat} (h : NewL (upto n) H nx r H' nx') : r = .ms nx 0 n 1 ∧ nx' = nx + 1 ∧ JAt H' nx n id ∧ ∀ j, j ≠ nx → H' j = H j := by
  obtain ⟨h1, h2, h3, h4⟩ := h
  rw [upto_len] at h1
  exact ⟨h1, h2, ⟨_, h3, upto_len, Forest.start n⟩, h4⟩


/-- A slice that grows in its own object. -/
def Gr (s : Option Nat) (l : List Int) (v : AV) (H : Hp) : Prop := match s with | none => l = [] ∧ v = .nil | some o => v = .ms o 0 l.length 1 ∧ H o = some (ints l)
theorem Gr.kept {s : Option Nat} {l : List Int} {v : AV} {H H' : Hp} (h : Gr s l v H) (hh : ∀ o, s = some o → H' o = H o) : Gr s l v H' := by
  cases s with
  | none => exact h
  | some o => exact ⟨h.1, (hh o rfl).trans h.2⟩
theorem Gr.frz {s : Option Nat} {l : List Int} {v : AV} {H : Hp} (h : Gr s l v H) : Av.frz H fuel v = some (islice l) := by
  cases s with
  | none => obtain ⟨rfl, rfl⟩ := h; rfl
  | some o => obtain ⟨rfl, h2⟩ := h; exact frzN_frz _ _ _ (frzN_ms h2 5)
section
variable {C : Ct} {Φ : AV → Hp → Nat → Prop} {n : Nat} {vars : Nat → AV} {H : Hp} {nx : Nat} {Is : Nat → Inv} {r : Vc}
end
end Go.Av
