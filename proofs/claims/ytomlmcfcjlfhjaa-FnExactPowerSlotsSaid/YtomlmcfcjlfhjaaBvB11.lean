/-
  Lists of lists of the call's own; the opposite category; arrows that are epi together.
-/
import Derived.Test.YtomlmcfcjlfhjaaBvB10
import Derived.Test.YtomlmcfcjlfhjaaBvAA
import Derived.Test.YtomlmcfcjlfhjaaBvK0
namespace Go.Av
set_option linter.unusedSectionVars false
set_option linter.unusedSimpArgs false
set_option linter.unusedVariables false
variable [md : Md]
open Classical
set_option linter.unusedSimpArgs false
set_option linter.unusedVariables false
variable {P : Program} {ν : Nat → FuncId}

/-- A cell that holds a list: nothing, or an object other than o. -/
def RowC (H : Hp) (lo hi o : Nat) (a : AV) (l : List Int) : Prop := (l = [] ∧ a = .nil) ∨ ∃ o', a = .ms o' 0 l.length 1 ∧ lo ≤ o' ∧ o' < hi ∧ o' ≠ o ∧ H o' = some (ints l)
/-- A list of lists in objects between lo and hi. -/
def Own2 (R : List (List Int)) (v : AV) (H : Hp) (lo hi : Nat) : Prop :=
  (R = [] ∧ v = .nil) ∨ ∃ o cells, v = .ms o 0 R.length 1 ∧ lo ≤ o ∧ o < hi ∧ H o = some cells ∧ cells.length = R.length ∧ ∀ k a, cells[k]? = some a → RowC H lo hi o a (R.getD k [])
theorem RowC.mono {H H' : Hp} {lo hi hi' o : Nat} {a : AV} {l : List Int} (h : RowC H lo hi o a l) (hh : hi ≤ hi') (hH : ∀ k, lo ≤ k → k < hi → k ≠ o → H' k = H k) : RowC H' lo hi' o a l := by
  rcases h with h | ⟨o', h1, h2, h3, h4, h5⟩
  · exact .inl h
  · exact .inr ⟨o', h1, h2, by omega, h4, (hH o' h2 h3 h4).trans h5⟩
theorem Own2.mono {R : List (List Int)} {v : AV} {H H' : Hp} {lo hi hi' : Nat} (h : Own2 R v H lo hi) (hh : hi ≤ hi') (hH : ∀ k, lo ≤ k → k < hi → H' k = H k) : Own2 R v H' lo hi' := by
  rcases h with h | ⟨o, cells, h1, h2, h3, h4, h5, h6⟩
  · exact .inl h
  · exact .inr ⟨o, cells, h1, h2, by omega, (hH o h2 h3).trans h4, h5, fun k a hk => (h6 k a hk).mono hh fun k h1 h2 _ => hH k h1 h2⟩
theorem Own2.one {R : List (List Int)} {v : AV} {H : Hp} {lo hi : Nat} (h : Own2 R v H lo hi) : v.one = true := by
  rcases h with ⟨_, rfl⟩ | ⟨o, cells, rfl, _⟩ <;> rfl
theorem RowC.frz {H : Hp} {lo hi o : Nat} {a : AV} {l : List Int} (h : RowC H lo hi o a l) (k : Nat) : frz H (k + 1) a = some (islice l) := by
  rcases h with ⟨rfl, rfl⟩ | ⟨o', rfl, _, _, _, ho⟩
  · rfl
  · have : (ints l).mapM (Av.frz H k) = some (ints l) := frz_stills (by simp [ints, AV.still, int])
    simp only [Av.frz, ho, ints_length, Nat.zero_add, Nat.mul_one, if_true, this]
    simp [islice]
theorem Own2.frz {R : List (List Int)} {v : AV} {H : Hp} {lo hi : Nat} (h : Own2 R v H lo hi) (k : Nat) : frz H (k + 1 + 1) v = some (.sl (rows R) R.length) := by
  rcases h with ⟨rfl, rfl⟩ | ⟨o, cells, rfl, _, _, ho, hl, hc⟩
  · rfl
  · have : cells.mapM (Av.frz H (k + 1)) = some (rows R) := by
      have e : cells = (List.range R.length).map fun j => cells.getD j .nil := by
        refine List.ext_getElem (by simp [hl]) fun j h1 h2 => ?_
        simp [List.getD, h1]
      rw [e]
      refine mapM_outer fun j hj => ?_
      have : cells[j]? = some (cells.getD j .nil) := by simp [List.getD, show j < cells.length by omega]
      exact (hc j _ this).frz k
    simp only [Av.frz, ho, hl, Nat.zero_add, Nat.mul_one, if_true, this]
    simp
theorem Own2.some (R : List (List Int)) (H : Hp) (nx : Nat) : ∃ v H' nx', nx ≤ nx' ∧ Own2 R v H' nx nx' ∧ ∀ o, o < nx → H' o = H o := by
  refine ⟨.ms nx 0 R.length 1, rowsH H nx R R.length, nx + 1 + R.length, by omega, .inr ⟨nx, outer R nx R.length, rfl, Nat.le_refl _, by omega, by simp [rowsH], outer_len _ _ _, fun k a hk => ?_⟩, fun o ho => rowsH_lo _ _ _ _ _ ho⟩
  have hk' : k < R.length := by
    have := List.getElem?_eq_some_iff.1 hk
    obtain ⟨h1, _⟩ := this
    simpa [outer_len] using h1
  rw [outer_full, outerC_get hk'] at hk
  cases hk
  refine .inr ⟨nx + 1 + k, rfl, by omega, by omega, by omega, ?_⟩
  simp only [rowsH]
  rw [if_neg (by omega), if_pos (by omega), show nx + 1 + k - nx - 1 = k by omega]

section
variable {C : Ct} {Φ : AV → Hp → Nat → Prop} {n : Nat} {vars : Nat → AV} {H : Hp} {nx : Nat} {Is : Nat → Inv} {r : Vc}
end

/-- The opposite category. -/
def opC (c : Cat) : Cat := ⟨c.o, c.t, c.f, c.i, (List.range c.f.length).map fun (f : Nat) => (List.range c.f.length).map fun (g : Nat) => c.K g f⟩

/-- What makes the opposite category leaves. -/
def IsOp (c : Cat) (H : Hp) (nx : Nat) (r : AV) (H' : Hp) (nx' : Nat) : Prop := ∃ v, r = .agg [int c.o, islice c.t, islice c.f, islice c.i, v] ∧ nx ≤ nx' ∧ Own2 (opC c).c v H' nx nx' ∧ ∀ o, o < nx → H' o = H o
theorem IsOp.some (c : Cat) (H : Hp) (nx : Nat) : ∃ u H' nx', IsOp c H nx u H' nx' := by
  obtain ⟨v, H', nx', h1, h2, h3⟩ := Own2.some (opC c).c H nx
  exact ⟨_, H', nx', v, rfl, h1, h2, h3⟩
theorem IsOp.frzL {c : Cat} {H : Hp} {nx : Nat} {r : AV} {H' : Hp} {nx' : Nat} (h : IsOp c H nx r H' nx') (t : List AV) : frzL H' (r :: t) = (Av.frzL H' t).map (.agg (opC c).cells :: ·) := by
  obtain ⟨v, rfl, _, h2, _⟩ := h
  have : frz H' fuel (.agg [int c.o, islice c.t, islice c.f, islice c.i, v]) = Option.some (.agg (opC c).cells) := by
    show ([int c.o, islice c.t, islice c.f, islice c.i, v].mapM (Av.frz H' 5)).map AV.agg = _
    simp only [List.mapM_cons, List.mapM_nil, h2.frz 3]
    rfl
  simp only [Av.frzL, List.mapM_cons, this]; cases List.mapM (Av.frz H' fuel) t <;> rfl



end Go.Av
