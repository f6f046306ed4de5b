/-
  Lists of lists of the call's own with no two rows in one object: made, marked, found again.
-/
import Derived.Test.YtomlmcfcjlfhjaaBvB11
namespace Go.Av
set_option linter.unusedSectionVars false
set_option linter.unusedSimpArgs false
set_option linter.unusedVariables false
variable [md : Md]
open Classical
set_option linter.unusedSimpArgs false
set_option linter.unusedVariables false
variable {P : Program} {ν : Nat → FuncId}

/-- A list of lists in objects between lo and hi, no two rows in one object. -/
def OwnD (R : List (List Int)) (v : AV) (H : Hp) (lo hi : Nat) : Prop :=
  (R = [] ∧ v = .nil) ∨ ∃ o cells, v = .ms o 0 R.length 1 ∧ lo ≤ o ∧ o < hi ∧ H o = some cells ∧ cells.length = R.length ∧ (∀ k a, cells[k]? = some a → RowC H lo hi o a (R.getD k [])) ∧
    ∀ (j k x n1 n2 : Nat), cells[j]? = Option.some (AV.ms x 0 n1 1) → cells[k]? = Option.some (AV.ms x 0 n2 1) → j = k
theorem OwnD.own2 {R : List (List Int)} {v : AV} {H : Hp} {lo hi : Nat} (h : OwnD R v H lo hi) : Own2 R v H lo hi := by
  rcases h with h | ⟨o, cells, h1, h2, h3, h4, h5, h6, _⟩
  · exact .inl h
  · exact .inr ⟨o, cells, h1, h2, h3, h4, h5, h6⟩
theorem OwnD.mono {R : List (List Int)} {v : AV} {H H' : Hp} {lo hi hi' : Nat} (h : OwnD R v H lo hi) (hh : hi ≤ hi') (hH : ∀ k, lo ≤ k → k < hi → H' k = H k) : OwnD R v H' lo hi' := by
  rcases h with h | ⟨o, cells, h1, h2, h3, h4, h5, h6, h7⟩
  · exact .inl h
  · exact .inr ⟨o, cells, h1, h2, by omega, (hH o h2 h3).trans h4, h5, fun k a hk => (h6 k a hk).mono hh fun k h1 h2 _ => hH k h1 h2, h7⟩
theorem OwnD.one {R : List (List Int)} {v : AV} {H : Hp} {lo hi : Nat} (h : OwnD R v H lo hi) : v.one = true := h.own2.one
theorem OwnD.frz {R : List (List Int)} {v : AV} {H : Hp} {lo hi : Nat} (h : OwnD R v H lo hi) (k : Nat) : Av.frz H (k + 1 + 1) v = some (.sl (rows R) R.length) := h.own2.frz k
theorem OwnD.frzL {R : List (List Int)} {v : AV} {H : Hp} {lo hi : Nat} (h : OwnD R v H lo hi) (t : List AV) : frzL H (v :: t) = (Av.frzL H t).map (.sl (rows R) R.length :: ·) := by
  simp only [Av.frzL, List.mapM_cons, show Av.frz H fuel v = _ from h.frz 4]; cases List.mapM (Av.frz H fuel) t <;> rfl
theorem OwnD.nil {H : Hp} {lo hi : Nat} : OwnD [] .nil H lo hi := .inl ⟨rfl, rfl⟩
theorem OwnD.some (R : List (List Int)) (H : Hp) (nx : Nat) : ∃ v H' nx', nx ≤ nx' ∧ OwnD R v H' nx nx' ∧ ∀ o, o < nx → H' o = H o := by
  refine ⟨.ms nx 0 R.length 1, rowsH H nx R R.length, nx + 1 + R.length, by omega, .inr ⟨nx, outer R nx R.length, rfl, Nat.le_refl _, by omega, by simp [rowsH], outer_len _ _ _, fun k a hk => ?_, fun j k x n1 n2 hj hk => ?_⟩, fun o ho => rowsH_lo _ _ _ _ _ ho⟩
  · have hk' : k < R.length := by
      obtain ⟨h1, _⟩ := List.getElem?_eq_some_iff.1 hk
      simpa [outer_len] using h1
    rw [outer_full, outerC_get hk'] at hk
    cases hk
    refine .inr ⟨nx + 1 + k, rfl, by omega, by omega, by omega, ?_⟩
    simp only [rowsH]
    rw [if_neg (by omega), if_pos (by omega), show nx + 1 + k - nx - 1 = k by omega]
  · have hj' : j < R.length := by
      obtain ⟨h1, _⟩ := List.getElem?_eq_some_iff.1 hj
      simpa [outer_len] using h1
    have hk' : k < R.length := by
      obtain ⟨h1, _⟩ := List.getElem?_eq_some_iff.1 hk
      simpa [outer_len] using h1
    rw [outer_full, outerC_get hj'] at hj
    rw [outer_full, outerC_get hk'] at hk
    simp only [Option.some.injEq, AV.ms.injEq] at hj hk
    omega

/-- The part of a memory that a result from number nx on may need. -/
def keepH (nx : Nat) (H : Hp) : Hp := fun t => if nx ≤ t then (match H t with | some c => if c.all (cln nx 0) then some c else none | none => none) else none
theorem keepH_sub (nx : Nat) (H : Hp) : Sub (keepH nx H) H := by
  intro o c h
  unfold keepH at h
  split at h
  · split at h
    · rename_i c' hc
      split at h
      · cases h; exact hc
      · cases h
    · cases h
  · cases h
theorem keepH_cln (nx : Nat) (H : Hp) : clnH nx (keepH nx H) := by
  intro o c h
  unfold keepH at h
  split at h
  · split at h
    · rename_i c' hc
      split at h
      · rename_i h2; cases h; exact h2
      · cases h
    · cases h
  · cases h
theorem keepH_at {nx o : Nat} {H : Hp} {c : List AV} (ho : nx ≤ o) (h : H o = some c) (hc : c.all (cln nx 0) = true) : keepH nx H o = some c := by
  unfold keepH; rw [if_pos ho, h]; simp only [hc, if_true]
theorem ints_cln (nx : Nat) (l : List Int) : (ints l).all (cln nx 0) = true := by simp [ints, cln, int]
theorem RowC.keep {H : Hp} {lo hi o : Nat} {a : AV} {l : List Int} (h : RowC H lo hi o a l) : RowC (keepH lo H) lo hi o a l := by
  rcases h with h | ⟨o', h1, h2, h3, h4, h5⟩
  · exact .inl h
  · exact .inr ⟨o', h1, h2, h3, h4, keepH_at h2 h5 (ints_cln _ _)⟩
theorem RowC.cln {H : Hp} {lo hi o : Nat} {a : AV} {l : List Int} (h : RowC H lo hi o a l) : Av.cln lo 0 a = true := by
  rcases h with ⟨_, rfl⟩ | ⟨o', rfl, h2, _⟩
  · rfl
  · simpa [Av.cln] using h2
theorem OwnD.keep {R : List (List Int)} {v : AV} {H : Hp} {lo hi : Nat} (h : OwnD R v H lo hi) : OwnD R v (keepH lo H) lo hi := by
  rcases h with h | ⟨o, cells, h1, h2, h3, h4, h5, h6, h7⟩
  · exact .inl h
  · refine .inr ⟨o, cells, h1, h2, h3, keepH_at h2 h4 (List.all_eq_true.2 fun a ha => ?_), h5, fun k a hk => (h6 k a hk).keep, h7⟩
    obtain ⟨k, hk⟩ := List.getElem?_of_mem ha
    exact (h6 k a hk).cln
theorem OwnD.cln {R : List (List Int)} {v : AV} {H : Hp} {lo hi : Nat} (h : OwnD R v H lo hi) (k : Nat) : Av.cln lo k v = true := by
  rcases h with ⟨_, rfl⟩ | ⟨o, cells, rfl, h2, _⟩
  · cases k <;> rfl
  · cases k <;> simpa [Av.cln] using h2
theorem Own1.keep {l : List Int} {v : AV} {H : Hp} {lo hi : Nat} (h : Own1 l v H lo hi) : Own1 l v (keepH lo H) lo hi := by
  rcases h with h | ⟨o, h1, h2, h3, h4⟩
  · exact .inl h
  · exact .inr ⟨o, h1, h2, h3, keepH_at h1 h4 (ints_cln _ _)⟩
theorem Own1.cln {l : List Int} {v : AV} {H : Hp} {lo hi : Nat} (h : Own1 l v H lo hi) (k : Nat) : Av.cln lo k v = true := by
  rcases h with ⟨_, rfl⟩ | ⟨o, h2, _, rfl, _⟩
  · cases k <;> rfl
  · cases k <;> simpa [Av.cln] using h2

/-- A list of lists of the call's own and a code: what a function brings back. -/
def IsQ (R : List (List Int)) (k : Int) (nx : Nat) (r : AV) (H' : Hp) (nx' : Nat) : Prop := ∃ r0, r = .tup [r0, int k] ∧ nx ≤ nx' ∧ OwnD R r0 H' nx nx' ∧ clnH nx H'
theorem IsQ.some (R : List (List Int)) (k : Int) (nx : Nat) : ∃ u H' nx', IsQ R k nx u H' nx' := by
  obtain ⟨v, H', nx', h1, h2, _⟩ := OwnD.some R hempty nx
  exact ⟨_, keepH nx H', nx', v, rfl, h1, h2.keep, keepH_cln _ _⟩
theorem IsQ.own {R : List (List Int)} {k : Int} {nx : Nat} {r : AV} {H' : Hp} {nx' : Nat} (h : IsQ R k nx r H' nx') (H : Hp) :
    cln nx fuel r = true ∧ clnH nx H' ∧ nx ≤ nx' ∧ ∃ r0, r = .tup [r0, int k] ∧ OwnD R r0 (hmerge nx H H') nx nx' := by
  obtain ⟨r0, rfl, h0, hO, hc⟩ := h
  refine ⟨by simp [fuel, Av.cln, int, hO.cln], hc, h0, r0, rfl, hO.mono (Nat.le_refl _) fun o h1 h2 => ?_⟩
  simp only [hmerge]; rw [if_neg (by omega)]
theorem IsQ.frz {R : List (List Int)} {k : Int} {nx : Nat} {r : AV} {H' : Hp} {nx' : Nat} (h : IsQ R k nx r H' nx') : Av.frz H' fuel r = Option.some (.tup [.sl (rows R) R.length, int k]) := by
  obtain ⟨r0, rfl, _, hO, _⟩ := h
  show ([r0, int k].mapM (Av.frz H' 5)).map AV.tup = _
  simp only [List.mapM_cons, List.mapM_nil, hO.frz 3, frz_int]
  rfl

section
variable {C : Ct} {Φ : AV → Hp → Nat → Prop} {n : Nat} {vars : Nat → AV} {H : Hp} {nx : Nat} {Is : Nat → Inv} {r : Vc}
end
end Go.Av
