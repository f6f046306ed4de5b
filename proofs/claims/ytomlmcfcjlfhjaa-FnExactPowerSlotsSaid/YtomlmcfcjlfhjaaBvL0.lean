/-
  What the statements have in common.
-/
import Derived.Test.YtomlmcfcjlfhjaaBvAA
import Derived.Test.YtomlmcfcjlfhjaaBvB2
namespace Go.Av
set_option linter.unusedSectionVars false
set_option linter.unusedSimpArgs false
set_option linter.unusedVariables false
variable [md : Md]
open Classical
set_option linter.unusedSimpArgs false
set_option linter.unusedVariables false
variable {P : Program} {ν : Nat → FuncId}

theorem IsP.some (l : List Int) (k : Int) (H : Hp) (nx : Nat) : ∃ u H' nx', IsP l k H nx u H' nx' := by
  obtain ⟨u, H', nx', h⟩ := IsI.some l H nx
  exact ⟨_, H', nx', u, rfl, h⟩
/-- What an owned result brings into the caller's memory. -/
theorem IsP.own {l : List Int} {k : Int} {nx : Nat} {r : AV} {H' : Hp} {nx' : Nat} (h : IsP l k hempty nx r H' nx') (H : Hp) :
    cln nx fuel r = true ∧ clnH nx H' ∧ nx ≤ nx' ∧ ∃ r0, r = .tup [r0, int k] ∧ Own1 l r0 (hmerge nx H H') nx nx' := by
  obtain ⟨r0, rfl, h0, ⟨rfl, rfl, rfl⟩ | ⟨o, h1, h2, rfl, rfl⟩⟩ := h
  · exact ⟨rfl, (fun o c hc => by cases hc), h0, .nil, rfl, .inl ⟨rfl, rfl⟩⟩
  · refine ⟨by simp [fuel, cln, int, h1], fun t c hc => ?_, h0, _, rfl, .inr ⟨o, h1, h2, rfl, ?_⟩⟩
    · simp only [hput] at hc
      split at hc
      · cases hc; simp [ints, cln, int]
      · cases hc
    · simp only [hmerge]; rw [if_neg (by omega)]; exact hput_eq _ _ _
theorem hmerge_lo {nx : Nat} {H H' : Hp} {o : Nat} (h : o < nx) : hmerge nx H H' o = H o := by simp [hmerge, h]

/-- What the statements' helpers are. -/
structure HLaw (P : Program) (ν : Nat → FuncId) : Prop where
  szI : Has P ν 12 2 V_laws_szInt64S
  szII : Has P ν 13 2 V_laws_szInt64SS
  szC : Has P ν 3 2 V_laws_szCategory
  toI : Has P ν 16 1 V_laws_toInt64S
  toII : Has P ν 17 1 V_laws_toInt64SS
  toC : Has P ν 5 1 V_laws_toCategory
  eqI : Has P ν 7 2 V_laws_eqInt64S
  eqII : Has P ν 20 2 V_laws_eqInt64SS
  eqC : Has P ν 8 2 V_laws_eqCategory
structure HMark (P : Program) (ν : Nat → FuncId) : Prop where
  mI : Has P ν 10 2 V_laws_markInt64S
  mII : Has P ν 21 2 V_laws_markInt64SS
  mC : Has P ν 9 2 V_laws_markCategory
  hI : Has P ν 11 2 V_laws_heldInt64S

theorem eqI_same (h : Has P ν 7 2 V_laws_eqInt64S) (l : List Int) (hl : l.length < 9223372036854775807) : Fz (OkM P ν) 7 [islice l, islice l] (bool true) := by
  have := (eqI_ok h l l hl).fzb
  rwa [decide_eq_true rfl] at this
theorem eqCat_same (L : HLaw P ν) (c : Cat) (s : Small2 c) : Fz (OkM P ν) 8 [.agg c.cells, .agg c.cells] (bool true) := by
  have := (eqCat_ok L.eqI L.eqII L.eqC c c s).fzb
  rwa [decide_eq_true rfl] at this
theorem neSelf (x : Int) : (x != x) = false := by simp

theorem Own1.marked {l : List Int} {r : AV} {M : Hp} {lo hi : Nat} (h : Own1 l r M lo hi) (k : Int) (nx : Nat) : ∃ u H' nx', u = int (k + l.length) ∧ nx' = nx ∧ Own1 (seqI k l.length) r H' lo hi ∧ ∀ o, o < lo → H' o = M o := by
  rcases h with ⟨rfl, rfl⟩ | ⟨o, o1, o2, rfl, o3⟩
  · exact ⟨_, M, nx, rfl, rfl, .inl ⟨rfl, rfl⟩, fun _ _ => rfl⟩
  · exact ⟨_, hput M o (some (ints (seqI k l.length))), nx, rfl, rfl, .inr ⟨o, o1, o2, by rw [seqI_len], hput_eq _ _ _⟩, fun t ht => hput_ne _ _ _ _ (by omega)⟩
end Go.Av
