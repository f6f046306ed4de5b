/-
  Chains, their faces and degeneracies: the program's and the reference's.
-/
import Derived.Test.YtbalggpkmaabmaaAvB7
namespace Go.Av
open Classical
set_option linter.unusedSimpArgs false
set_option linter.unusedVariables false
variable {P : Program} {ν : Nat → FuncId}

section
variable {C : Ct} {Φ : AV → Hp → Nat → Prop} {n : Nat} {vars : Nat → AV} {H : Hp} {nx : Nat} {Is : Nat → Inv} {r : Vc}
/-- An append of integers, or of none, to a slice of the call's own. -/
theorem den_appG {x y : Opd} {l m : List Int} {H0 : Hp} {nx0 : Nat} (h : IsI l H0 nx0 (ev vars x) H nx) (hy : ev vars y = islice m) (hlen : l.length + m.length ≤ 1099511627776)
    (hk : ∀ v H' nx', IsI (l ++ m) H0 nx0 v H' nx' → den C Φ r (n + 1) (put vars n v) H' nx' Is) : den C Φ (.op true (.app 1 x y) r) n vars H nx Is := by
  by_cases hm : m = []
  · subst hm
    have hc : appCells H 1 (ev vars y) = some (ints [], 0) := by rw [hy]; simp [appCells, islice, ints]
    rw [List.append_nil] at hk
    obtain ⟨h0, ⟨rfl, h2, rfl⟩ | ⟨o, g1, g2, h2, rfl⟩⟩ := h
    · refine den_app (q := (.nil, H, nx)) hc (ints_one _) ?_ (hk _ _ _ ⟨h0, .inl ⟨rfl, rfl, rfl⟩⟩)
      rw [h2]; rfl
    · refine den_app (q := (.ms o 0 l.length 1, hput H0 o (some (ints l)), nx)) hc (ints_one _) ?_ (hk _ _ _ ⟨h0, .inr ⟨o, g1, g2, rfl, rfl⟩⟩)
      rw [h2]
      simp only [appTo, hput, if_true, Nat.mul_one, appMax, ints_length]
      rw [if_pos ⟨trivial, by simpa using hlen⟩]
      simp only [Option.some.injEq, Prod.mk.injEq, true_and, and_true, ints, List.map_nil, List.append_nil, Nat.add_zero]
      exact hput_hput _ _ _ _
  · exact den_appI h hy hm hlen hk
end

def V_clone : Vc :=
  .op true (.p (.msl 0 [] []) []) <|
  .op true (.app 1 (.t 1) (.t 0)) <|
  .ret [(.t 2, none)]
theorem clone_ok (h : Has P ν 261 1 V_clone) (l : List Int) (hl : l.length ≤ 1099511627776) (H : Hp) (nx : Nat) : OkM P ν 261 [islice l] H nx (IsI l H nx) := by
  refine h _ _ _ _ rfl fun hwf => ?_
  unfold V_clone
  simp only [SS, Nat.reduceEqDiff, Nat.reduceAdd, iput, puts]
  refine den_appG (l := []) (m := l) (H0 := H) (nx0 := nx) (IsI.nil _ _) rfl (by simpa using hl) fun v H' nx' hI => ?_
  exact ⟨v, rfl, H', fun _ _ h => h, hI⟩
def V_spec_l01Own : Vc :=
  .op true (.p (.msl 0 [] []) []) <|
  .op true (.app 1 (.t 1) (.t 0)) <|
  .ret [(.t 2, none)]
theorem l01Own_ok (h : Has P ν 259 1 V_spec_l01Own) (l : List Int) (hl : l.length ≤ 1099511627776) (H : Hp) (nx : Nat) : OkM P ν 259 [islice l] H nx (IsI l H nx) := by
  refine h _ _ _ _ rfl fun hwf => ?_
  unfold V_spec_l01Own
  simp only [SS, Nat.reduceEqDiff, Nat.reduceAdd, iput, puts]
  refine den_appG (l := []) (m := l) (H0 := H) (nx0 := nx) (IsI.nil _ _) rfl (by simpa using hl) fun v H' nx' hI => ?_
  exact ⟨v, rfl, H', fun _ _ h => h, hI⟩





end Go.Av
