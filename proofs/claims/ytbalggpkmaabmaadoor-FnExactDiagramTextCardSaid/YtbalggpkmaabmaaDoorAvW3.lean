/-
  The category of a preorder: pairs, the search, the closure, what is kept while the program gathers.
-/
import Derived.Test.YtbalggpkmaabmaaDoorAvX1M
import Derived.Test.YtbalggpkmaabmaaDoorAvW2
namespace Go.Av
open Classical
set_option linter.unusedSimpArgs false
set_option linter.unusedVariables false
variable {P : Program} {ν : Nat → FuncId}

abbrev Pr := Int × Int
def pr0 : Pr := (0, 0)
def pr2c (t : Pr) : List AV := [int t.1, int t.2]
def prCells (L : List Pr) : List AV := L.flatMap pr2c
theorem prCells_len (L : List Pr) : (prCells L).length = L.length * 2 := by
  induction L with
  | nil => rfl
  | cons t L ih => unfold prCells at ih ⊢; rw [List.flatMap_cons, List.length_append, ih, List.length_cons]; show 2 + _ = _; omega
theorem prCells_at {L : List Pr} {k : Nat} (h : k < L.length) : ((prCells L).drop (k * 2)).take 2 = pr2c (L.getD k pr0) := by
  induction L generalizing k with
  | nil => simp at h
  | cons t L ih =>
    cases k with
    | zero => simp [prCells, pr2c]
    | succ k =>
      have := ih (k := k) (by simpa using h)
      unfold prCells at this ⊢
      rw [List.flatMap_cons, show (k + 1) * 2 = 2 + k * 2 by omega, ← List.drop_drop, show (pr2c t ++ List.flatMap pr2c L).drop 2 = List.flatMap pr2c L from rfl, this]
      rfl
theorem prCells_frz (H : Hp) (k : Nat) (L : List Pr) : (prCells L).mapM (frz H k) = some (prCells L) := by
  induction L with
  | nil => rfl
  | cons t L ih =>
    have e : prCells (t :: L) = int t.1 :: int t.2 :: prCells L := rfl
    have q : ∀ i : Int, frz H k (int i) = some (int i) := fun i => by cases k <;> rfl
    rw [e]
    simp only [List.mapM_cons, q, ih]
    rfl
section
variable {H : Hp} {L : List Pr} {k : Nat}
theorem pr_iad (h : k < L.length) : pvf H (.iad 2) [.sl (prCells L) L.length, int (k : Int)] = some (.ptr (prCells L) (k * 2)) := by
  rw [p_iad, if_pos ⟨by omega, by omega⟩]; rfl
theorem pr_ld (h : k < L.length) : pvf H (.ld (some 2)) [.ptr (prCells L) (k * 2)] = some (.agg (pr2c (L.getD k pr0))) := by
  have := prCells_len L
  show (if k * 2 + 2 ≤ (prCells L).length then some (AV.agg (((prCells L).drop (k * 2)).take 2)) else none) = _
  rw [if_pos (by omega), prCells_at h]
theorem pr_box {t : Pr} : pvf H .box [.agg (pr2c t)] = some (.ptr (pr2c t) 0) := p_box rfl rfl
end
/-- A growing list of pairs. -/
def GrP (s : Option Nat) (L : List Pr) (v : AV) (H : Hp) : Prop := match s with | none => L = [] ∧ v = .nil | some o => v = .ms o 0 L.length 2 ∧ H o = some (prCells L)
theorem GrP.kept {s : Option Nat} {L : List Pr} {v : AV} {H H' : Hp} (h : GrP s L v H) (hh : ∀ o, s = some o → H' o = H o) : GrP s L v H' := by
  cases s with
  | none => exact h
  | some o => exact ⟨h.1, (hh o rfl).trans h.2⟩
theorem GrP.one {s : Option Nat} {L : List Pr} {v : AV} {H : Hp} (h : GrP s L v H) : v.one = true := by
  cases s with
  | none => rw [h.2]; rfl
  | some o => rw [h.1]; rfl
theorem GrP.len {s : Option Nat} {L : List Pr} {v : AV} {H : Hp} (h : GrP s L v H) : pvf H .len [v] = some (int L.length) := by
  cases s with
  | none => obtain ⟨rfl, rfl⟩ := h; rfl
  | some o =>
    obtain ⟨rfl, h2⟩ := h
    have := prCells_len L
    simp [pvf, pLen, h2, int, this]
theorem GrP.frz {s : Option Nat} {L : List Pr} {v : AV} {H : Hp} (h : GrP s L v H) (k : Nat) : Av.frz H (k + 1) v = some (.sl (prCells L) L.length) := by
  cases s with
  | none => obtain ⟨rfl, rfl⟩ := h; rfl
  | some o =>
    obtain ⟨rfl, h2⟩ := h
    have := prCells_len L
    simp only [Av.frz, h2, prCells_frz, this, Nat.zero_add, if_true, Option.map_some, List.drop_zero]
section
variable {C : Ct} {Φ : AV → Hp → Nat → Prop} {n : Nat} {vars : Nat → AV} {H : Hp} {nx : Nat} {Is : Nat → Inv} {r : Vc}
end

/-- The memory while the pairs are gathered. -/
structure PrS (nx : Nat) (ob : Int) (L : List Pr) (F T I : List Int) (v va vb vd : AV) (sL s1 s2 s3 : Option Nat) (H : Hp) (hi : Nat) : Prop where
  out : Out3 (nx + 1) ob F T I [] va vb vd .nil s1 s2 s3 H (nx + 1) hi
  lst : GrP sL L v H
  box : H (nx + 2) = some [v]
  res : H nx = some [int 0, .nil, .nil, .nil, .nil]
  hb : nx + 3 ≤ hi
  rL : ∀ o, sL = some o → nx + 3 ≤ o ∧ o < hi ∧ s1 ≠ some o ∧ s2 ≠ some o ∧ s3 ≠ some o
  r1 : ∀ o, s1 = some o → nx + 3 ≤ o
  r2 : ∀ o, s2 = some o → nx + 3 ≤ o
  r3 : ∀ o, s3 = some o → nx + 3 ≤ o
section
variable {nx : Nat} {ob : Int} {L : List Pr} {F T I : List Int} {v va vb vd : AV} {sL s1 s2 s3 : Option Nat} {H : Hp} {hi : Nat}
theorem PrS.top (h : PrS nx ob L F T I v va vb vd sL s1 s2 s3 H hi) : nx + 3 ≤ sL.getD hi ∧ (sL.getD hi = hi ∨ sL = some (sL.getD hi)) := by
  have := h.hb
  cases hs : sL with
  | none => simp; omega
  | some o => have := h.rL o hs; simp; omega
theorem PrS.app (h : PrS nx ob L F T I v va vb vd sL s1 s2 s3 H hi) {L' : List Pr} {v2 : AV} {H2 H3 : Hp} {nx2 : Nat} (hG : GrP (some (sL.getD hi)) L' v2 H2) (e2 : ∀ j, j ≠ sL.getD hi → H2 j = H j) (hn : nx2 = (if sL.isSome then hi else hi + 1)) (b : H3 (nx + 2) = some [v2]) (e3 : ∀ j, j ≠ nx + 2 → H3 j = H2 j) :
    PrS nx ob L' F T I v2 va vb vd (some (sL.getD hi)) s1 s2 s3 H3 nx2 := by
  obtain ⟨t1, t2⟩ := h.top
  have hb := h.hb
  have hle : hi ≤ nx2 := by rw [hn]; split <;> omega
  have hlt : sL.getD hi < nx2 := by
    cases hs : sL with
    | none => rw [hs] at hn; simp at hn; simp; omega
    | some o => have := h.rL o hs; simp; omega
  have kp : ∀ t, t ≠ nx + 2 → t ≠ sL.getD hi → H3 t = H t := fun t h1 h2 => (e3 t h1).trans (e2 t h2)
  have n1 : ∀ o, s1 = some o → o ≠ sL.getD hi := fun o ho e => by
    rcases t2 with q | q
    · have := h.out.r1 o ho; omega
    · exact (h.rL _ q).2.2.1 (by rw [← e]; exact ho)
  have n2 : ∀ o, s2 = some o → o ≠ sL.getD hi := fun o ho e => by
    rcases t2 with q | q
    · have := h.out.r2 o ho; omega
    · exact (h.rL _ q).2.2.2.1 (by rw [← e]; exact ho)
  have n3 : ∀ o, s3 = some o → o ≠ sL.getD hi := fun o ho e => by
    rcases t2 with q | q
    · have := h.out.r3 o ho; omega
    · exact (h.rL _ q).2.2.2.2 (by rw [← e]; exact ho)
  refine ⟨h.out.apart hle fun t ht => ?_, hG.kept fun o ho => by cases ho; exact e3 _ (by omega), b, (kp nx (by omega) (by omega)).trans h.res, by omega, fun o ho => ?_, h.r1, h.r2, h.r3⟩
  · rcases ht with rfl | ht | ht | ht | ⟨o, m, cells, e, _⟩
    · exact kp _ (by omega) (by omega)
    · exact kp _ (by have := h.r1 t ht; omega) (n1 t ht)
    · exact kp _ (by have := h.r2 t ht; omega) (n2 t ht)
    · exact kp _ (by have := h.r3 t ht; omega) (n3 t ht)
    · cases e
  · cases ho
    exact ⟨t1, hlt, fun e => n1 _ e rfl, fun e => n2 _ e rfl, fun e => n3 _ e rfl⟩
end
end Go.Av
