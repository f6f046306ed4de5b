/-
  A category's table, filled by a rule for composites.
-/
import Derived.Test.YtbalggpkmaabmaaDoorAvD3
import Derived.Test.YtbalggpkmaabmaaDoorAvM3
namespace Go.Av
open Classical
set_option linter.unusedSimpArgs false
set_option linter.unusedVariables false
variable {P : Program} {ν : Nat → FuncId}

/-- A slice of integers, in memory that is only read or an object whose number meets lim. -/
inductive Rd (H : Hp) (lim : Nat → Prop) : AV → List Int → Prop
  | sl (l : List Int) : Rd H lim (islice l) l
  | ms (o : Nat) (l : List Int) (h : H o = some (ints l)) (hl : lim o) : Rd H lim (.ms o 0 l.length 1) l
  | nil : Rd H lim .nil []
section
variable {H H' : Hp} {lim lim' : Nat → Prop} {v : AV} {l : List Int}
theorem Rd.kept (h : Rd H lim v l) (hh : ∀ k, lim k → H' k = H k) : Rd H' lim v l := by
  cases h with
  | sl => exact .sl _
  | ms o _ h hl => exact .ms o _ ((hh o hl).trans h) hl
  | nil => exact .nil
theorem Rd.weak (h : Rd H lim v l) (hh : ∀ k, lim k → lim' k) : Rd H lim' v l := by
  cases h with
  | sl => exact .sl _
  | ms o _ h hl => exact .ms o _ h (hh o hl)
  | nil => exact .nil
theorem Rd.one (h : Rd H lim v l) : v.one = true := by cases h <;> rfl
theorem Rd.frz (h : Rd H lim v l) (k : Nat) : Av.frz H (k + 1) v = some (islice l) := by
  cases h with
  | sl => rfl
  | ms o _ h hl => exact frzN_frz _ _ _ (frzN_ms h k)
  | nil => rfl
theorem Rd.len (h : Rd H lim v l) : pvf H .len [v] = some (int l.length) := by
  cases h with
  | sl => rfl
  | ms o _ h hl => exact p_lenm h (ints_length _)
  | nil => rfl
theorem Rd.rd (h : Rd H lim v l) {i : Int} (hi : In l i) : ∃ p, pvf H (.iad 1) [v, int i] = some p ∧ pvf H (.ld none) [p] = some (int (gI l i)) := by
  cases h with
  | sl => exact ⟨_, q_iad hi, q_get hi⟩
  | ms o _ h hl =>
    refine ⟨.mp o i.toNat l.length, ?_, ?_⟩
    · rw [p_iadm h (ints_length _), if_pos ⟨hi.1, hi.2⟩]
    · rw [p_ldm h (ints_length _)]; exact q_get hi
  | nil => have := hi.1; have := hi.2; simp at this; omega
end

section
variable {k : Nat → Nat → Int} {F T : List Int} {a b : Nat}
end
structure TblAt (H : Hp) (nx o : Nat) (cells : List AV) (M : List (List Int)) (H' : Hp) : Prop where
  low : ∀ q, q < nx → q ≠ o → H' q = H q
  obj : H' o = some (cells ++ [.ms nx 0 M.length 1])
  tab : H' nx = some (outer M nx M.length)
  row : ∀ j, j < M.length → H' (nx + 1 + j) = some (ints (M.getD j []))


end Go.Av
