/-
  The empty category as a result, and what is kept of a category under construction.
-/
import Derived.Test.YtbalggpkmaabmaaDoorAvR4
namespace Go.Av
open Classical
set_option linter.unusedSimpArgs false
set_option linter.unusedVariables false
variable {P : Program} {ν : Nat → FuncId}

theorem Out3.apart {q : Nat} {ob : Int} {F T I : List Int} {R : List (List Int)} {a b d e : AV} {s1 s2 s3 : Option Nat} {H H' : Hp} {lo hi hi' : Nat} (h : Out3 q ob F T I R a b d e s1 s2 s3 H lo hi) (hh : hi ≤ hi') (hH : ∀ t, t = q ∨ s1 = some t ∨ s2 = some t ∨ s3 = some t ∨ Ft2 e H t → H' t = H t) : Out3 q ob F T I R a b d e s1 s2 s3 H' lo hi' := by
  have kf : ∀ t, Ft2 e H t → H' t = H t := fun t ht => hH t (.inr (.inr (.inr (.inr ht))))
  have ft := h.tab.ft kf
  exact ⟨(hH q (.inl rfl)).trans h.obj, h.ql, by have := h.qh; omega, h.g1.kept fun o ho => hH o (.inr (.inl ho)), h.g2.kept fun o ho => hH o (.inr (.inr (.inl ho))), h.g3.kept fun o ho => hH o (.inr (.inr (.inr (.inl ho)))),
    fun o ho => by have := h.r1 o ho; exact ⟨this.1, by omega, this.2.2⟩, fun o ho => by have := h.r2 o ho; exact ⟨this.1, by omega, this.2.2⟩, fun o ho => by have := h.r3 o ho; exact ⟨this.1, by omega, this.2.2⟩, h.n12, h.n13, h.n23, h.tab.apart hh kf, fun t ht => h.ft t ((ft t).1 ht)⟩
end Go.Av
