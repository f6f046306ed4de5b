/-
  Slices that grow, whatever their elements; associativity.
-/
import Derived.Test.YtlcicglfgieamaaAvM3
import Derived.Test.YtlcicglfgieamaaAvB11
namespace Go.Av
open Classical
set_option linter.unusedSimpArgs false
set_option linter.unusedVariables false
variable {P : Program} {ν : Nat → FuncId}

/-- A slice of the call's own with these cells. -/
def IsC (cs : List AV) (n sz : Nat) (H : Hp) (nx : Nat) (r : AV) (H' : Hp) (nx' : Nat) : Prop :=
  nx ≤ nx' ∧ cs.length = n * sz ∧ ((n = 0 ∧ r = .nil ∧ H' = H) ∨ ∃ o, nx ≤ o ∧ o < nx' ∧ r = .ms o 0 n sz ∧ H' = hput H o (some cs))
theorem IsC.nil {sz : Nat} {H : Hp} {nx : Nat} : IsC [] 0 sz H nx .nil H nx := ⟨Nat.le_refl _, by simp, .inl ⟨rfl, rfl, rfl⟩⟩
theorem IsC.old {cs : List AV} {n sz : Nat} {H : Hp} {nx : Nat} {v : AV} {H' : Hp} {nx' : Nat} (h : IsC cs n sz H nx v H' nx') {o : Nat} (ho : o < nx) : H' o = H o := by
  obtain ⟨h0, _, ⟨_, _, rfl⟩ | ⟨o', g1, g2, _, rfl⟩⟩ := h
  · rfl
  · exact hput_ne _ _ _ _ (by omega)
theorem IsC.frz {cs ds : List AV} {n sz : Nat} {H : Hp} {nx : Nat} {r : AV} {H' : Hp} {nx' : Nat} (h : IsC cs n sz H nx r H' nx') (k : Nat) (hd : cs.mapM (Av.frz H' k) = some ds) (hl : ds.length = cs.length) : Av.frz H' (k + 1) r = some (.sl ds n) := by
  obtain ⟨_, hc, ⟨rfl, rfl, rfl⟩ | ⟨o, _, _, rfl, rfl⟩⟩ := h
  · have : cs = [] := List.eq_nil_of_length_eq_zero (by omega)
    subst this
    simp at hd
    subst hd
    rfl
  · simp only [Av.frz, hput, if_true, Nat.zero_add]
    rw [if_pos hc.symm, hd]
    rfl
theorem IsC.frzN {cs ds : List AV} {n sz : Nat} {H : Hp} {nx : Nat} {r : AV} {H' : Hp} {nx' : Nat} (h : IsC cs n sz H nx r H' nx') (k : Nat) (hd : cs.mapM (Av.frzN H' k) = some ds) (hl : ds.length = cs.length) : Av.frzN H' (k + 1) r = some (.sl ds n) := by
  obtain ⟨_, hc, ⟨rfl, rfl, rfl⟩ | ⟨o, _, _, rfl, rfl⟩⟩ := h
  · have : cs = [] := List.eq_nil_of_length_eq_zero (by omega)
    subst this
    simp at hd
    subst hd
    rfl
  · simp only [Av.frzN, hput, if_true, Nat.zero_add]
    rw [if_pos hc.symm, hd]
    rfl
theorem IsC.low {cs : List AV} {n sz : Nat} {H : Hp} {nx : Nat} {r : AV} {H' : Hp} {nx' : Nat} (h : IsC cs n sz H nx r H' nx') : Low H nx H' nx' := ⟨h.1, fun _ ho => h.old ho⟩
section
variable {C : Ct} {Φ : AV → Hp → Nat → Prop} {n : Nat} {vars : Nat → AV} {H : Hp} {nx : Nat} {Is : Nat → Inv} {r : Vc}
/-- An append to a slice of the call's own. -/
theorem den_appC {x y : Opd} {cs ds : List AV} {k m sz : Nat} {H0 : Hp} {nx0 : Nat} (h : IsC cs k sz H0 nx0 (ev vars x) H nx) (hy : appCells H sz (ev vars y) = some (ds, m)) (hm : m ≠ 0) (hd : ds.length = m * sz) (h1 : ds.all AV.one = true) (hlen : k + m ≤ 1099511627776)
    (hk : ∀ v H' nx', IsC (cs ++ ds) (k + m) sz H0 nx0 v H' nx' → den C Φ r (n + 1) (put vars n v) H' nx' Is) : den C Φ (.op true (.app sz x y) r) n vars H nx Is := by
  have hlen' : m ≤ appMax := by unfold appMax; omega
  obtain ⟨h0, hc, ⟨rfl, h2, rfl⟩ | ⟨o, g1, g2, h2, rfl⟩⟩ := h
  · have hcs : cs = [] := List.eq_nil_of_length_eq_zero (by omega)
    subst hcs
    refine den_app (q := (.ms nx 0 m sz, hput H nx (some ds), nx + 1)) hy h1 ?_ ?_
    · rw [h2]
      simp only [appTo, hm, if_false, hlen', if_true]
    · exact hk _ _ _ ⟨Nat.le_succ_of_le h0, by simp [hd], .inr ⟨nx, h0, Nat.lt_succ_self _, by simp, by simp⟩⟩
  · refine den_app (q := (.ms o 0 (k + m) sz, hput H0 o (some (cs ++ ds)), nx)) hy h1 ?_ (hk _ _ _ ⟨h0, by simp [hc, hd, Nat.add_mul], .inr ⟨o, g1, g2, by simp, rfl⟩⟩)
    rw [h2]
    simp only [appTo, hput, if_true]
    rw [if_pos ⟨hc.symm, by unfold appMax; simpa using hlen⟩]
    simp only [Option.some.injEq, Prod.mk.injEq, true_and, and_true]
    exact hput_hput _ _ _ _
end

theorem IsCat.assoc {c : Cat} (k : IsCat c) {a b d : Int} (ha : Arr c a) (hb : Arr c b) (hd : Arr c d) (e1 : c.T a = c.F b) (e2 : c.T b = c.F d) : c.K (c.K a b) d = c.K a (c.K b d) := by
  have h := k.2.2
  unfold asF at h
  obtain ⟨a1, a2⟩ := ha.nat
  obtain ⟨b1, b2⟩ := hb.nat
  obtain ⟨d1, d2⟩ := hd.nat
  have h1 := List.findSome?_eq_none_iff.1 h a.toNat (by simpa using a1)
  have h2 := List.findSome?_eq_none_iff.1 h1 b.toNat (by simpa using b1)
  have h3 := List.findSome?_eq_none_iff.1 h2 d.toNat (by simpa using d1)
  by_cases hx : c.K (c.K a b) d = c.K a (c.K b d)
  · exact hx
  · have : asBad c a.toNat b.toNat d.toNat = true := by simp [asBad, a2, b2, d2, e1, e2, hx]
    simp [this] at h3
/-- What the limits need of a category. -/
structure CatA (c : Cat) : Prop where
  s : Shape c
  assoc : ∀ {a b d : Int}, Arr c a → Arr c b → Arr c d → c.T a = c.F b → c.T b = c.F d → c.K (c.K a b) d = c.K a (c.K b d)
theorem IsCat.A {c : Cat} (k : IsCat c) : CatA c := ⟨k.1, fun ha hb hd => k.assoc ha hb hd⟩
theorem opC_K' {c : Cat} {a b : Int} (ha : Arr c a) (hb : Arr c b) : (opC c).K a b = c.K b a := by
  obtain ⟨a1, a2⟩ := ha.nat
  obtain ⟨b1, b2⟩ := hb.nat
  have := opC_K (c := c) a1 b1
  rw [a2, b2] at this
  exact this
theorem opC_arr {c : Cat} (s : Shape c) {a : Int} : Arr (opC c) a ↔ Arr c a := by
  have tl := s.tl
  unfold Arr
  show 0 ≤ a ∧ a < (c.t.length : Int) ↔ _
  rw [tl]
theorem IsCat.opA {c : Cat} (k : IsCat c) : CatA (opC c) := by
  have s := k.1
  refine ⟨opC_shape s, fun {a b d} ha hb hd e1 e2 => ?_⟩
  have ha' := (opC_arr s).1 ha
  have hb' := (opC_arr s).1 hb
  have hd' := (opC_arr s).1 hd
  have e1' : c.F a = c.T b := e1
  have e2' : c.F b = c.T d := e2
  rw [opC_K' ha' hb', opC_K' hb' hd', opC_K' (s.arK hb' ha' e1'.symm) hd', opC_K' ha' (s.arK hd' hb' e2'.symm)]
  exact (k.assoc hd' hb' ha' e2'.symm e1'.symm).symm
end Go.Av
