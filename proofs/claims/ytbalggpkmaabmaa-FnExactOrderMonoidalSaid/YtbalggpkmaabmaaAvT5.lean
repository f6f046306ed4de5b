/-
  The opposite category as a result of its own: both sides.
-/
import Derived.Test.YtbalggpkmaabmaaAvZ0
namespace Go.Av
open Classical
set_option linter.unusedSimpArgs false
set_option linter.unusedVariables false
variable {P : Program} {ν : Nat → FuncId}

theorem AV.one_cells {a : AV} (h : a.one = true) : a.cells = [a] := by cases a <;> first | rfl | (simp [AV.one] at h)

section
variable {C : Ct} {Φ : AV → Hp → Nat → Prop} {n : Nat} {vars : Nat → AV} {H : Hp} {nx : Nat} {Is : Nat → Inv} {r : Vc}
/-- A clone as a slice of our own. -/
theorem den_clone (hcl : Has P ν 261 1 V_clone) {x : Opd} (l : List Int) (hx : ev vars x = islice l) (hl : l.length ≤ 1099511627776)
    (hk : ∀ v s H2 nx2, Gr s l v H2 → (∀ o, s = some o → nx ≤ o ∧ o < nx2) → nx ≤ nx2 → (∀ o, o < nx → H2 o = H o) → den (OkM P ν) Φ r (n + 1) (put vars n v) H2 nx2 Is) :
    den (OkM P ν) Φ (.op true (.callo (.f 261) [x]) r) n vars H nx Is := by
  refine den_callo (fc := (261, [])) (ys := [islice l]) rfl (by simp only [List.map_cons, List.map_nil, hx, List.append_nil]; rfl) (clone_ok hcl l hl hempty nx) (IsI.some _ _ _) fun u H' nx' hu => ?_
  obtain ⟨q1, q2, q3, own⟩ := hu.own H
  refine ⟨q1, q2, ?_⟩
  rcases own with ⟨e, rfl⟩ | ⟨o, o1, o2, rfl, e⟩
  · exact hk _ none _ _ ⟨e, rfl⟩ (fun o h => by cases h) q3 fun o ho => hmerge_lo ho
  · exact hk _ (some o) _ _ ⟨rfl, e⟩ (fun o' h => by cases h; exact ⟨o1, o2⟩) q3 fun o ho => hmerge_lo ho
end
theorem Out3.of {q : Nat} {ob : Int} {F T I : List Int} {a b d : AV} {s1 s2 s3 : Option Nat} {H : Hp} {lo hi : Nat} (h : H q = some [int ob, a, b, d, .nil]) (ql : lo ≤ q) (qh : q < hi) (g1 : Gr s1 F a H) (g2 : Gr s2 T b H) (g3 : Gr s3 I d H)
    (r1 : ∀ o, s1 = some o → lo ≤ o ∧ o < hi ∧ o ≠ q) (r2 : ∀ o, s2 = some o → lo ≤ o ∧ o < hi ∧ o ≠ q) (r3 : ∀ o, s3 = some o → lo ≤ o ∧ o < hi ∧ o ≠ q) (n12 : ∀ o o', s1 = some o → s2 = some o' → o ≠ o') (n13 : ∀ o o', s1 = some o → s3 = some o' → o ≠ o') (n23 : ∀ o o', s2 = some o → s3 = some o' → o ≠ o') :
    Out3 q ob F T I [] a b d .nil s1 s2 s3 H lo hi :=
  ⟨h, ql, qh, g1, g2, g3, r1, r2, r3, fun o h1 h2 => n12 o o h1 h2 rfl, fun o h1 h2 => n13 o o h1 h2 rfl, fun o h1 h2 => n23 o o h1 h2 rfl, OwnD.nil, fun t ⟨o, m, cells, e, _⟩ => by cases e⟩

/-- A category of its own as a result. -/
def IsCO (x : Cat) (nx : Nat) (r : AV) (H' : Hp) (nx' : Nat) : Prop := nx ≤ nx' ∧ OwnK x r H' nx nx' ∧ clnH nx H'
theorem IsCO.some (x : Cat) (nx : Nat) : ∃ u H' nx', IsCO x nx u H' nx' := by
  obtain ⟨u, H', nx', r0, rfl, h1, h2, h3⟩ := IsKV.some x (int 0) nx
  exact ⟨r0, H', nx', h1, h2, h3⟩
theorem IsCO.own {x : Cat} {nx : Nat} {r : AV} {H' : Hp} {nx' : Nat} (h : IsCO x nx r H' nx') (H : Hp) : cln nx fuel r = true ∧ clnH nx H' ∧ nx ≤ nx' ∧ OwnK x r (hmerge nx H H') nx nx' := by
  have h2 : IsKV x (int 0) nx (.tup [r, int 0]) H' nx' := ⟨r, rfl, h⟩
  obtain ⟨_, q2, q3, r0, e, own⟩ := h2.own (fun k => cln_int _ _ _) H
  cases e
  exact ⟨h.2.1.cln 5, q2, q3, own⟩


end Go.Av
