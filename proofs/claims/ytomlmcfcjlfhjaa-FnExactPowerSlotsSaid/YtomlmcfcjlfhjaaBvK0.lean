/-
  Lemmas that many contracts use: slices of the call's own, rows, first places.
-/
import Derived.Test.YtomlmcfcjlfhjaaBvL0
namespace Go.Av
set_option linter.unusedSectionVars false
set_option linter.unusedSimpArgs false
set_option linter.unusedVariables false
variable [md : Md]
open Classical
set_option linter.unusedSimpArgs false
set_option linter.unusedVariables false
variable {P : Program} {ν : Nat → FuncId}

theorem frzN_frz {H : Hp} : ∀ (k : Nat) (v u : AV), frzN H k v = some u → frz H k v = some u := by
  intro k
  induction k with
  | zero => intro v u h; cases v <;> simp [frzN] at h <;> simp [frz, h]
  | succ k ih =>
    have mm : ∀ (l l' : List AV), l.mapM (Av.frzN H k) = some l' → l.mapM (frz H k) = some l' := by
      intro l
      induction l with
      | nil => intro l' h; exact h
      | cons x l ihl =>
        intro l' h
        simp only [List.mapM_cons, Option.pure_def, Option.bind_eq_bind] at h ⊢
        obtain ⟨y, hy, h⟩ := bindSome h
        obtain ⟨ys, hys, h⟩ := bindSome h
        rw [ih x y hy, Option.bind_some, ihl ys hys]
        exact h
    intro v u h
    cases v with
    | v x => simpa [frzN, frz] using h
    | nil => simpa [frzN, frz] using h
    | sl c n => simp [frzN] at h
    | ptr c n => simp [frzN] at h
    | fn i c => simp [frzN] at h
    | mm o => simp [frzN] at h
    | ms o off n sz =>
      simp only [frzN, frz] at h ⊢
      cases ho : H o with
      | none => simp [ho] at h
      | some cells =>
        simp only [ho] at h ⊢
        split at h
        · rename_i e
          obtain ⟨z, hz, e2⟩ := mapSome h
          rw [if_pos e, mm _ _ hz, ← e2]; rfl
        · cases h
    | mp o off len =>
      simp only [frzN, frz] at h ⊢
      cases ho : H o with
      | none => simp [ho] at h
      | some cells =>
        simp only [ho] at h ⊢
        split at h
        · rename_i e
          obtain ⟨z, hz, e2⟩ := mapSome h
          rw [if_pos e, mm _ _ hz, ← e2]; rfl
        · cases h
    | agg cs =>
      simp only [frzN, frz] at h ⊢
      obtain ⟨z, hz, e2⟩ := mapSome h
      rw [mm _ _ hz, ← e2]; rfl
    | tup cs =>
      simp only [frzN, frz] at h ⊢
      obtain ⟨z, hz, e2⟩ := mapSome h
      rw [mm _ _ hz, ← e2]; rfl
theorem frzN_ms {H : Hp} {o : Nat} {l : List Int} (h : H o = some (ints l)) (k : Nat) : frzN H (k + 1) (.ms o 0 l.length 1) = some (islice l) := by
  simp only [frzN, h, ints_length, Nat.zero_add, Nat.mul_one, if_true, frzN_ints]; simp [islice]
theorem take_succ_at {l : List Int} {g : Nat} (h : g < l.length) : l.take (g + 1) = l.take g ++ [l.getD g 0] := by
  rw [List.take_succ_eq_append_getElem h]; simp [List.getD, h]
theorem take_succ_rows {l : List (List Int)} {g : Nat} (h : g < l.length) : l.take (g + 1) = l.take g ++ [l.getD g []] := by
  rw [List.take_succ_eq_append_getElem h]; simp [List.getD, h]

/-- A slice of the call's own with these cells. -/
def IsC (cs : List AV) (n sz : Nat) (H : Hp) (nx : Nat) (r : AV) (H' : Hp) (nx' : Nat) : Prop :=
  nx ≤ nx' ∧ cs.length = n * sz ∧ ((n = 0 ∧ r = .nil ∧ H' = H) ∨ ∃ o, nx ≤ o ∧ o < nx' ∧ r = .ms o 0 n sz ∧ H' = hput H o (some cs))
theorem IsC.nil {sz : Nat} {H : Hp} {nx : Nat} : IsC [] 0 sz H nx .nil H nx := ⟨Nat.le_refl _, by simp, .inl ⟨rfl, rfl, rfl⟩⟩
theorem IsC.old {cs : List AV} {n sz : Nat} {H : Hp} {nx : Nat} {v : AV} {H' : Hp} {nx' : Nat} (h : IsC cs n sz H nx v H' nx') {o : Nat} (ho : o < nx) : H' o = H o := by
  obtain ⟨h0, _, ⟨_, _, rfl⟩ | ⟨o', g1, g2, _, rfl⟩⟩ := h
  · rfl
  · exact hput_ne _ _ _ _ (by omega)
theorem IsC.frz {cs ds : List AV} {n sz : Nat} {H : Hp} {nx : Nat} {r : AV} {H' : Hp} {nx' : Nat} (h : IsC cs n sz H nx r H' nx') (k : Nat) (hd : cs.mapM (Av.frz H' k) = some ds) (hl : ds.length = cs.length) : Av.frz H' (k + 1) r = some (.sl ds n) := by
  obtain ⟨_, hc, ⟨rfl, rfl, rfl⟩ | ⟨o, _, _, rfl, rfl⟩⟩ := h
  · have : cs = [] := List.eq_nil_of_length_eq_zero (by omega)
    subst this
    simp at hd
    subst hd
    rfl
  · simp only [Av.frz, hput, if_true, Nat.zero_add]
    rw [if_pos hc.symm, hd]
    rfl
theorem IsC.frzN {cs ds : List AV} {n sz : Nat} {H : Hp} {nx : Nat} {r : AV} {H' : Hp} {nx' : Nat} (h : IsC cs n sz H nx r H' nx') (k : Nat) (hd : cs.mapM (Av.frzN H' k) = some ds) (hl : ds.length = cs.length) : Av.frzN H' (k + 1) r = some (.sl ds n) := by
  obtain ⟨_, hc, ⟨rfl, rfl, rfl⟩ | ⟨o, _, _, rfl, rfl⟩⟩ := h
  · have : cs = [] := List.eq_nil_of_length_eq_zero (by omega)
    subst this
    simp at hd
    subst hd
    rfl
  · simp only [Av.frzN, hput, if_true, Nat.zero_add]
    rw [if_pos hc.symm, hd]
    rfl
section
variable {C : Ct} {Φ : AV → Hp → Nat → Prop} {n : Nat} {vars : Nat → AV} {H : Hp} {nx : Nat} {Is : Nat → Inv} {r : Vc}
/-- An append to a slice of the call's own. -/
theorem den_appC {x y : Opd} {cs ds : List AV} {k m sz : Nat} {H0 : Hp} {nx0 : Nat} (h : IsC cs k sz H0 nx0 (ev vars x) H nx) (hy : appCells H sz (ev vars y) = some (ds, m)) (hm : m ≠ 0) (hd : ds.length = m * sz) (h1 : ds.all AV.one = true) (hlen : k + m ≤ 1099511627776)
    (hk : ∀ v H' nx', IsC (cs ++ ds) (k + m) sz H0 nx0 v H' nx' → den C Φ r (n + 1) (put vars n v) H' nx' Is) : den C Φ (.op true (.app sz x y) r) n vars H nx Is := by
  have hlen' : m ≤ appMax := by unfold appMax; omega
  obtain ⟨h0, hc, ⟨rfl, h2, rfl⟩ | ⟨o, g1, g2, h2, rfl⟩⟩ := h
  · have hcs : cs = [] := List.eq_nil_of_length_eq_zero (by omega)
    subst hcs
    refine den_app (q := (.ms nx 0 m sz, hput H nx (some ds), nx + 1)) hy h1 ?_ ?_
    · rw [h2]
      simp only [appTo, hm, if_false, hlen', if_true]
    · exact hk _ _ _ ⟨Nat.le_succ_of_le h0, by simp [hd], .inr ⟨nx, h0, Nat.lt_succ_self _, by simp, by simp⟩⟩
  · refine den_app (q := (.ms o 0 (k + m) sz, hput H0 o (some (cs ++ ds)), nx)) hy h1 ?_ (hk _ _ _ ⟨h0, by simp [hc, hd, Nat.add_mul], .inr ⟨o, g1, g2, by simp, rfl⟩⟩)
    rw [h2]
    simp only [appTo, hput, if_true]
    rw [if_pos ⟨hc.symm, by unfold appMax; simpa using hlen⟩]
    simp only [Option.some.injEq, Prod.mk.injEq, true_and, and_true]
    exact hput_hput _ _ _ _
end

theorem rows_frz (H : Hp) (k : Nat) (m : List (List Int)) : (rows m).mapM (frz H k) = some (rows m) := by
  induction m with
  | nil => rfl
  | cons r m ih => simp only [rows, List.map_cons, List.mapM_cons, frz_islice] at ih ⊢; simp [ih]
theorem rows_append (a b : List (List Int)) : rows (a ++ b) = rows a ++ rows b := by simp [rows]
theorem p_msl1R {H : Hp} {l : List Int} : pvf H (.msl 1 [.nil] [(0, 1)]) [islice l] = some (.sl [islice l] 1) := rfl
theorem IsC.rows {m : List (List Int)} {H : Hp} {nx : Nat} {r : AV} {H' : Hp} {nx' : Nat} (h : IsC (Av.rows m) m.length 1 H nx r H' nx') : Av.frz H' fuel r = some (.sl (Av.rows m) m.length) := h.frz 5 (rows_frz _ _ _) rfl
theorem flat_len_le {α β : Type} (l : List α) (g : α → List β) (m : Nat) (h : ∀ a ∈ l, (g a).length ≤ m) : (l.flatMap g).length ≤ l.length * m := by
  induction l with
  | nil => simp
  | cons a l ih =>
    have h1 := h a (by simp)
    have h2 := ih fun x hx => h x (by simp [hx])
    simp only [List.flatMap_cons, List.length_append, List.length_cons, Nat.add_mul]
    omega
theorem range_flat {α : Type} (g : Nat → List α) (n : Nat) : (List.range (n + 1)).flatMap g = (List.range n).flatMap g ++ g n := by
  rw [List.range_succ, List.flatMap_append]; simp

section
variable {C : Ct} {Φ : AV → Hp → Nat → Prop} {n : Nat} {vars : Nat → AV} {H : Hp} {nx : Nat} {Is : Nat → Inv} {r : Vc}
end
theorem IsI.old {l : List Int} {H : Hp} {nx : Nat} {v : AV} {H' : Hp} {nx' : Nat} (h : IsI l H nx v H' nx') {o : Nat} (ho : o < nx) : H' o = H o := by
  obtain ⟨h0, ⟨_, _, rfl⟩ | ⟨o', g1, g2, _, rfl⟩⟩ := h
  · rfl
  · exact hput_ne _ _ _ _ (by omega)
theorem IsI.own {l : List Int} {nx : Nat} {r : AV} {H' : Hp} {nx' : Nat} (h : IsI l hempty nx r H' nx') (H : Hp) :
    cln nx fuel r = true ∧ clnH nx H' ∧ nx ≤ nx' ∧ Own1 l r (hmerge nx H H') nx nx' := by
  have h2 : IsP l 0 hempty nx (.tup [r, int 0]) H' nx' := ⟨r, rfl, h⟩
  obtain ⟨_, q2, q3, r0, e, own⟩ := h2.own H
  cases e
  refine ⟨?_, q2, q3, own⟩
  obtain ⟨h0, ⟨rfl, rfl, rfl⟩ | ⟨o, h1, h2, rfl, rfl⟩⟩ := h
  · rfl
  · show decide (nx ≤ o) = true
    exact decide_eq_true h1
theorem OkM.fi {P : Program} {ν : Nat → FuncId} {f : Nat} {ys : List AV} {u : AV} {Ψ : Hp → Nat → AV → Hp → Nat → Prop} (h : ∀ H nx, OkM P ν f ys H nx (Ψ H nx)) (hu : ∀ r H' nx', Ψ hempty 0 r H' nx' → frz H' fuel r = some u) : Fi (OkM P ν) f ys u :=
  (h hempty 0).mono hu
end Go.Av
