/-
  Lemmas that many contracts use: slices of the call's own, rows, first places.
-/
import Derived.Test.YtbalggpkmaabmaaDoorAvL0
namespace Go.Av
open Classical
set_option linter.unusedSimpArgs false
set_option linter.unusedVariables false
variable {P : Program} {ν : Nat → FuncId}

theorem frzN_frz {H : Hp} : ∀ (k : Nat) (v u : AV), frzN H k v = some u → frz H k v = some u := by
  intro k
  induction k with
  | zero => intro v u h; cases v <;> simp [frzN] at h <;> simp [frz, h]
  | succ k ih =>
    have mm : ∀ (l l' : List AV), l.mapM (Av.frzN H k) = some l' → l.mapM (frz H k) = some l' := by
      intro l
      induction l with
      | nil => intro l' h; exact h
      | cons x l ihl =>
        intro l' h
        simp only [List.mapM_cons, Option.pure_def, Option.bind_eq_bind] at h ⊢
        obtain ⟨y, hy, h⟩ := bindSome h
        obtain ⟨ys, hys, h⟩ := bindSome h
        rw [ih x y hy, Option.bind_some, ihl ys hys]
        exact h
    intro v u h
    cases v with
    | v x => simpa [frzN, frz] using h
    | nil => simpa [frzN, frz] using h
    | sl c n => simp [frzN] at h
    | ptr c n => simp [frzN] at h
    | fn i c => simp [frzN] at h
    | mm o => simp [frzN] at h
    | ms o off n sz =>
      simp only [frzN, frz] at h ⊢
      cases ho : H o with
      | none => simp [ho] at h
      | some cells =>
        simp only [ho] at h ⊢
        split at h
        · rename_i e
          obtain ⟨z, hz, e2⟩ := mapSome h
          rw [if_pos e, mm _ _ hz, ← e2]; rfl
        · cases h
    | mp o off len =>
      simp only [frzN, frz] at h ⊢
      cases ho : H o with
      | none => simp [ho] at h
      | some cells =>
        simp only [ho] at h ⊢
        split at h
        · rename_i e
          obtain ⟨z, hz, e2⟩ := mapSome h
          rw [if_pos e, mm _ _ hz, ← e2]; rfl
        · cases h
    | agg cs =>
      simp only [frzN, frz] at h ⊢
      obtain ⟨z, hz, e2⟩ := mapSome h
      rw [mm _ _ hz, ← e2]; rfl
    | tup cs =>
      simp only [frzN, frz] at h ⊢
      obtain ⟨z, hz, e2⟩ := mapSome h
      rw [mm _ _ hz, ← e2]; rfl
theorem frzN_ms {H : Hp} {o : Nat} {l : List Int} (h : H o = some (ints l)) (k : Nat) : frzN H (k + 1) (.ms o 0 l.length 1) = some (islice l) := by
  simp only [frzN, h, ints_length, Nat.zero_add, Nat.mul_one, if_true, frzN_ints]; simp [islice]

/-- A slice of the call's own with these cells. -/
def IsC (cs : List AV) (n sz : Nat) (H : Hp) (nx : Nat) (r : AV) (H' : Hp) (nx' : Nat) : Prop :=
  nx ≤ nx' ∧ cs.length = n * sz ∧ ((n = 0 ∧ r = .nil ∧ H' = H) ∨ ∃ o, nx ≤ o ∧ o < nx' ∧ r = .ms o 0 n sz ∧ H' = hput H o (some cs))
theorem IsC.nil {sz : Nat} {H : Hp} {nx : Nat} : IsC [] 0 sz H nx .nil H nx := ⟨Nat.le_refl _, by simp, .inl ⟨rfl, rfl, rfl⟩⟩
theorem IsC.frz {cs ds : List AV} {n sz : Nat} {H : Hp} {nx : Nat} {r : AV} {H' : Hp} {nx' : Nat} (h : IsC cs n sz H nx r H' nx') (k : Nat) (hd : cs.mapM (Av.frz H' k) = some ds) (hl : ds.length = cs.length) : Av.frz H' (k + 1) r = some (.sl ds n) := by
  obtain ⟨_, hc, ⟨rfl, rfl, rfl⟩ | ⟨o, _, _, rfl, rfl⟩⟩ := h
  · have : cs = [] := List.eq_nil_of_length_eq_zero (by omega)
    subst this
    simp at hd
    subst hd
    rfl
  · simp only [Av.frz, hput, if_true, Nat.zero_add]
    rw [if_pos hc.symm, hd]
    rfl
theorem IsC.frzN {cs ds : List AV} {n sz : Nat} {H : Hp} {nx : Nat} {r : AV} {H' : Hp} {nx' : Nat} (h : IsC cs n sz H nx r H' nx') (k : Nat) (hd : cs.mapM (Av.frzN H' k) = some ds) (hl : ds.length = cs.length) : Av.frzN H' (k + 1) r = some (.sl ds n) := by
  obtain ⟨_, hc, ⟨rfl, rfl, rfl⟩ | ⟨o, _, _, rfl, rfl⟩⟩ := h
  · have : cs = [] := List.eq_nil_of_length_eq_zero (by omega)
    subst this
    simp at hd
    subst hd
    rfl
  · simp only [Av.frzN, hput, if_true, Nat.zero_add]
    rw [if_pos hc.symm, hd]
    rfl
section
variable {C : Ct} {Φ : AV → Hp → Nat → Prop} {n : Nat} {vars : Nat → AV} {H : Hp} {nx : Nat} {Is : Nat → Inv} {r : Vc}
end

theorem rows_frz (H : Hp) (k : Nat) (m : List (List Int)) : (rows m).mapM (frz H k) = some (rows m) := by
  induction m with
  | nil => rfl
  | cons r m ih => simp only [rows, List.map_cons, List.mapM_cons, frz_islice] at ih ⊢; simp [ih]
theorem IsC.rows {m : List (List Int)} {H : Hp} {nx : Nat} {r : AV} {H' : Hp} {nx' : Nat} (h : IsC (Av.rows m) m.length 1 H nx r H' nx') : Av.frz H' fuel r = some (.sl (Av.rows m) m.length) := h.frz 5 (rows_frz _ _ _) rfl

section
variable {C : Ct} {Φ : AV → Hp → Nat → Prop} {n : Nat} {vars : Nat → AV} {H : Hp} {nx : Nat} {Is : Nat → Inv} {r : Vc}
end
theorem IsI.own {l : List Int} {nx : Nat} {r : AV} {H' : Hp} {nx' : Nat} (h : IsI l hempty nx r H' nx') (H : Hp) :
    cln nx fuel r = true ∧ clnH nx H' ∧ nx ≤ nx' ∧ Own1 l r (hmerge nx H H') nx nx' := by
  have h2 : IsP l 0 hempty nx (.tup [r, int 0]) H' nx' := ⟨r, rfl, h⟩
  obtain ⟨_, q2, q3, r0, e, own⟩ := h2.own H
  cases e
  refine ⟨?_, q2, q3, own⟩
  obtain ⟨h0, ⟨rfl, rfl, rfl⟩ | ⟨o, h1, h2, rfl, rfl⟩⟩ := h
  · rfl
  · show decide (nx ≤ o) = true
    exact decide_eq_true h1
end Go.Av
