/-
  The category of a preorder: the reference's.
-/
import Derived.Test.YtbalggpkmaabmaaAvW5
namespace Go.Av
open Classical
set_option linter.unusedSimpArgs false
set_option linter.unusedVariables false
variable {P : Program} {ν : Nat → FuncId}

noncomputable def nbRow (R : List (List Int)) (i : Nat) : List Int := (List.range R.length).map fun j => ((prL R (i * R.length + j)).length : Int)
noncomputable def nbT (R : List (List Int)) (k : Nat) : List (List Int) := (List.range k).map (nbRow R)
noncomputable def poRow (R : List (List Int)) (f : Nat) : List Int := tblRow (fun a b => idxP (prL R (R.length * R.length)) ((prF R (R.length * R.length)).getD a 0, (prT R (R.length * R.length)).getD b 0)) (prF R (R.length * R.length)) (prT R (R.length * R.length)) f
section
variable {R : List (List Int)}
theorem nbRow_len {i : Nat} : (nbRow R i).length = R.length := by simp [nbRow]
theorem nbRow_at {i j : Nat} (h : j < R.length) : (nbRow R i).getD j 0 = ((prL R (i * R.length + j)).length : Int) := by simp [nbRow, List.getD, h]
theorem nbT_len {k : Nat} : (nbT R k).length = k := by simp [nbT]
theorem nbT_at {k i : Nat} (h : i < k) : (nbT R k).getD i [] = nbRow R i := by simp [nbT, List.getD, h]
theorem nbT_succ {k : Nat} : nbT R (k + 1) = nbT R k ++ [nbRow R k] := by simp [nbT, List.range_succ]
theorem jdiv {k n m : Nat} (h : k < n * m) : k / m < n ∧ k % m < m := by
  have hm : 0 < m := by
    cases m with
    | zero => simp at h
    | succ m => omega
  exact ⟨(Nat.div_lt_iff_lt_mul hm).2 h, Nat.mod_lt _ hm⟩
theorem prL_lt {k : Nat} {t : Pr} (ht : t ∈ prL R k) : ∃ p, p < k ∧ t = (((p / R.length : Nat) : Int), ((p % R.length : Nat) : Int)) ∧ E R (p / R.length) (p % R.length) = 1 := by
  unfold prL at ht
  obtain ⟨p, hp, rfl⟩ := List.mem_map.1 ht
  obtain ⟨h1, h2⟩ := List.mem_filter.1 hp
  exact ⟨p, List.mem_range.1 h1, rfl, by simpa using h2⟩
theorem prL_mem {t : Pr} (ht : t ∈ prL R (R.length * R.length)) : ∃ a b : Nat, a < R.length ∧ b < R.length ∧ t = ((a : Int), (b : Int)) ∧ E R a b = 1 := by
  obtain ⟨p, h1, h2, h3⟩ := prL_lt ht
  have := jdiv h1
  exact ⟨_, _, this.1, this.2, h2, h3⟩
theorem prL_pre {k m : Nat} (h : k ≤ m) : ∃ rest, prL R m = prL R k ++ rest := by
  obtain ⟨d, rfl⟩ := Nat.le.dest h
  unfold prL
  rw [List.range_add, List.filter_append, List.map_append]
  exact ⟨_, rfl⟩
/-- The place of a pair is the number of those before it. -/
theorem idx_pr {a b : Nat} (ha : a < R.length) (hb : b < R.length) (e : E R a b = 1) : idxP (prL R (R.length * R.length)) ((a : Int), (b : Int)) = ((prL R (a * R.length + b)).length : Int) := by
  have lt := jylt ha hb
  obtain ⟨rest, hr⟩ := prL_pre (R := R) (show a * R.length + b + 1 ≤ R.length * R.length from lt)
  rw [prL_succ hb, if_pos e] at hr
  rw [hr]
  have len : (prL R (a * R.length + b)).length < (prL R (a * R.length + b) ++ [((a : Int), (b : Int))] ++ rest).length := by simp
  refine idxP_at len (by simp) fun j hj q => ?_
  rw [List.getElem_append_left (by simp; omega), List.getElem_append_left hj] at q
  have hm := List.getElem_mem hj
  rw [q] at hm
  obtain ⟨p, h1, h2, _⟩ := prL_lt hm
  have z1 : a = p / R.length := by have := congrArg Prod.fst h2; simp only at this; exact Int.ofNat.inj this
  have z2 : b = p % R.length := by have := congrArg Prod.snd h2; simp only at this; exact Int.ofNat.inj this
  have := Nat.div_add_mod p R.length
  rw [← z1, ← z2, Nat.mul_comm] at this
  omega
theorem prFT {f : Nat} (h : f < (prL R (R.length * R.length)).length) : ∃ a b : Nat, a < R.length ∧ b < R.length ∧ (prF R (R.length * R.length)).getD f 0 = a ∧ (prT R (R.length * R.length)).getD f 0 = b ∧ E R a b = 1 := by
  obtain ⟨a, b, h1, h2, h3, h4⟩ := prL_mem (List.getElem_mem h)
  refine ⟨a, b, h1, h2, ?_, ?_, h4⟩
  · simp [prF, List.getD, h, h3]
  · simp [prT, List.getD, h, h3]
theorem poRow_len {f : Nat} : (poRow R f).length = (prL R (R.length * R.length)).length := by unfold poRow; rw [tblRow_len, prF_len]
theorem poRow_at {f g : Nat} (h : g < (prL R (R.length * R.length)).length) : (poRow R f).getD g 0 = if (prT R (R.length * R.length)).getD f 0 = (prF R (R.length * R.length)).getD g 0 then idxP (prL R (R.length * R.length)) ((prF R (R.length * R.length)).getD f 0, (prT R (R.length * R.length)).getD g 0) else -1 := by
  unfold poRow
  rw [tbl_at (by rw [prF_len]; exact h)]
  rfl
theorem po_tbl : (List.range (prL R (R.length * R.length)).length).map (poRow R) = (poK R).c := by
  show _ = tbl _ _ _
  unfold tbl
  rw [prF_len]
  rfl
end
end Go.Av
