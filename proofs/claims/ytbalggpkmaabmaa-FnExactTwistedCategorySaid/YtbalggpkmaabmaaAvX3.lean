/-
  The twisted arrows of a category: plain.
-/
import Derived.Test.YtbalggpkmaabmaaAvX1M
namespace Go.Av
open Classical
set_option linter.unusedSimpArgs false
set_option linter.unusedVariables false
variable {P : Program} {ν : Nat → FuncId}

abbrev Tw := Int × Int × Int × Int
def r4 (t : Tw) : List Int := [t.1, t.2.1, t.2.2.1, t.2.2.2]
theorem r4_inj {a b : Tw} : r4 a = r4 b ↔ a = b := by
  obtain ⟨a1, a2, a3, a4⟩ := a
  obtain ⟨b1, b2, b3, b4⟩ := b
  simp [r4]
def t4 (c : Cat) (f g u : Int) (vs : List Int) : List Tw := vs.flatMap fun v => if c.K (c.K u f) v = g then [(f, g, u, v)] else []
def t3 (c : Cat) (f g : Int) (us : List Int) : List Tw := us.flatMap fun u => t4 c f g u (homL c (c.T f) (c.T g))
def t2 (c : Cat) (f : Int) (b : Nat) : List Tw := (List.range b).flatMap fun g : Nat => t3 c f (g : Int) (homL c (c.F (g : Int)) (c.F f))
def t1 (c : Cat) (a : Nat) : List Tw := (List.range a).flatMap fun f : Nat => t2 c (f : Int) c.f.length
def twL (c : Cat) : List Tw := t1 c c.f.length
section
variable {c : Cat} {f g u : Int}
theorem t1_succ {a : Nat} : t1 c (a + 1) = t1 c a ++ t2 c (a : Int) c.f.length := by simp [t1, List.range_succ, List.flatMap_append]
theorem t2_succ {b : Nat} : t2 c f (b + 1) = t2 c f b ++ t3 c f (b : Int) (homL c (c.F (b : Int)) (c.F f)) := by simp [t2, List.range_succ, List.flatMap_append]
theorem t3_snoc {us : List Int} : t3 c f g (us ++ [u]) = t3 c f g us ++ t4 c f g u (homL c (c.T f) (c.T g)) := by simp [t3, List.flatMap_append]
theorem t4_snoc {vs : List Int} {v : Int} : t4 c f g u (vs ++ [v]) = t4 c f g u vs ++ if c.K (c.K u f) v = g then [(f, g, u, v)] else [] := by simp [t4, List.flatMap_append]
theorem fmap_len {α β : Type} {l : List α} {h : α → List β} {k : Nat} (hk : ∀ x ∈ l, (h x).length ≤ k) : (l.flatMap h).length ≤ l.length * k := by
  induction l with
  | nil => simp
  | cons x l ih =>
    have h1 := hk x (List.mem_cons_self ..)
    have h2 := ih fun y hy => hk y (List.mem_cons_of_mem _ hy)
    rw [List.flatMap_cons, List.length_append, List.length_cons, Nat.succ_mul]
    omega
theorem t4_len (vs : List Int) : (t4 c f g u vs).length ≤ vs.length := by
  have := fmap_len (l := vs) (h := fun v => if c.K (c.K u f) v = g then [((f, g, u, v) : Tw)] else []) (k := 1) fun x _ => by
    by_cases e : c.K (c.K u f) x = g
    · simp [e]
    · simp [e]
  rw [Nat.mul_one] at this
  exact this
theorem t3_len (n40 : c.f.length ≤ 40) (us : List Int) : (t3 c f g us).length ≤ us.length * 40 := fmap_len fun x _ => Nat.le_trans (t4_len _) (Nat.le_trans (selL_len _ _) n40)
theorem t2_len (n40 : c.f.length ≤ 40) (b : Nat) : (t2 c f b).length ≤ b * 1600 := by
  have := fmap_len (l := List.range b) (h := fun g : Nat => t3 c f (g : Int) (homL c (c.F (g : Int)) (c.F f))) (k := 1600) fun x _ => by
    have h1 := t3_len (f := f) (g := (x : Int)) n40 (homL c (c.F (x : Int)) (c.F f))
    have h2 : (homL c (c.F (x : Int)) (c.F f)).length ≤ c.f.length := selL_len _ _
    omega
  rw [List.length_range] at this
  exact this
theorem t1_len (n40 : c.f.length ≤ 40) (a : Nat) : (t1 c a).length ≤ a * 64000 := by
  have := fmap_len (l := List.range a) (h := fun f : Nat => t2 c (f : Int) c.f.length) (k := 64000) fun x _ => by
    have h1 := t2_len (f := (x : Int)) n40 c.f.length
    omega
  rw [List.length_range] at this
  exact this
def TwIn (c : Cat) (t : Tw) : Prop := Arr c t.1 ∧ Arr c t.2.1 ∧ Arr c t.2.2.1 ∧ Arr c t.2.2.2
theorem t4_mem {vs : List Int} {t : Tw} (h : t ∈ t4 c f g u vs) : t.1 = f ∧ t.2.1 = g ∧ t.2.2.1 = u ∧ t.2.2.2 ∈ vs := by
  obtain ⟨v, hv, ht⟩ := List.mem_flatMap.1 h
  by_cases e : c.K (c.K u f) v = g
  · rw [if_pos e] at ht
    rw [List.mem_singleton.1 ht]
    exact ⟨rfl, rfl, rfl, hv⟩
  · rw [if_neg e] at ht; cases ht
theorem t3_mem {us : List Int} {t : Tw} (h : t ∈ t3 c f g us) : t.1 = f ∧ t.2.1 = g ∧ t.2.2.1 ∈ us ∧ t.2.2.2 ∈ homL c (c.T f) (c.T g) := by
  obtain ⟨u, hu, ht⟩ := List.mem_flatMap.1 h
  obtain ⟨h1, h2, h3, h4⟩ := t4_mem ht
  exact ⟨h1, h2, h3 ▸ hu, h4⟩
theorem t2_mem {b : Nat} {t : Tw} (h : t ∈ t2 c f b) : t.1 = f ∧ 0 ≤ t.2.1 ∧ t.2.1 < b ∧ t.2.2.1 ∈ homL c (c.F t.2.1) (c.F f) ∧ t.2.2.2 ∈ homL c (c.T f) (c.T t.2.1) := by
  obtain ⟨g, hg, ht⟩ := List.mem_flatMap.1 h
  obtain ⟨h1, h2, h3, h4⟩ := t3_mem ht
  have := List.mem_range.1 hg
  refine ⟨h1, by omega, by omega, ?_, ?_⟩
  · rw [h2]; exact h3
  · rw [h2]; exact h4
theorem t1_mem {a : Nat} {t : Tw} (ha : a ≤ c.f.length) (h : t ∈ t1 c a) : TwIn c t := by
  obtain ⟨f, hf, ht⟩ := List.mem_flatMap.1 h
  obtain ⟨h1, h2, h3, h4, h5⟩ := t2_mem ht
  have := List.mem_range.1 hf
  have m4 := homL_mem h4
  have m5 := homL_mem h5
  exact ⟨⟨by omega, by omega⟩, ⟨by omega, by omega⟩, ⟨m4.1, m4.2.1⟩, ⟨m5.1, m5.2.1⟩⟩
theorem t4_nd {vs : List Int} (h : vs.Nodup) : (t4 c f g u vs).Nodup := by
  unfold t4 List.Nodup
  rw [List.pairwise_flatMap]
  refine ⟨fun v _ => ?_, h.imp fun {v w} hne x hx y hy e => ?_⟩
  · by_cases e : c.K (c.K u f) v = g
    · rw [if_pos e]; simp
    · rw [if_neg e]; simp
  · by_cases e1 : c.K (c.K u f) v = g
    · by_cases e2 : c.K (c.K u f) w = g
      · rw [if_pos e1] at hx
        rw [if_pos e2] at hy
        rw [List.mem_singleton.1 hx, List.mem_singleton.1 hy] at e
        exact hne (by cases e; rfl)
      · rw [if_neg e2] at hy; cases hy
    · rw [if_neg e1] at hx; cases hx
theorem t3_nd {us : List Int} (h : us.Nodup) : (t3 c f g us).Nodup := by
  unfold t3 List.Nodup
  rw [List.pairwise_flatMap]
  refine ⟨fun u _ => t4_nd (homL_nodup _ _ _), h.imp fun {v w} hne x hx y hy e => ?_⟩
  have h1 := (t4_mem hx).2.2.1
  have h2 := (t4_mem hy).2.2.1
  rw [e] at h1
  exact hne (h1.symm.trans h2)
theorem t2_nd {b : Nat} : (t2 c f b).Nodup := by
  unfold t2 List.Nodup
  rw [List.pairwise_flatMap]
  refine ⟨fun u _ => t3_nd (homL_nodup _ _ _), List.nodup_range.imp fun {v w} hne x hx y hy e => ?_⟩
  have h1 := (t3_mem hx).2.1
  have h2 := (t3_mem hy).2.1
  rw [e] at h1
  exact hne (by omega)
theorem t1_nd {a : Nat} : (t1 c a).Nodup := by
  unfold t1 List.Nodup
  rw [List.pairwise_flatMap]
  refine ⟨fun u _ => t2_nd, List.nodup_range.imp fun {v w} hne x hx y hy e => ?_⟩
  have h1 := (t2_mem hx).1
  have h2 := (t2_mem hy).1
  rw [e] at h1
  exact hne (by omega)
end

/-- The first place of x. -/
def idxT (L : List Tw) (x : Tw) : Int := match L.findIdx? (fun y => decide (y = x)) with | some i => (i : Nat) | none => -1
theorem idxT_at {L : List Tw} {x : Tw} {i : Nat} (hi : i < L.length) (h : L[i] = x) (hj : ∀ j (hj : j < i), L[j]'(by omega) ≠ x) : idxT L x = i := by
  have : L.findIdx? (fun y => decide (y = x)) = some i := List.findIdx?_eq_some_iff_getElem.2 ⟨hi, by simpa using h, fun j hj' => by simpa using hj j hj'⟩
  unfold idxT
  rw [this]
theorem idxT_none {L : List Tw} {x : Tw} (h : x ∉ L) : idxT L x = -1 := by
  have : L.findIdx? (fun y => decide (y = x)) = none := List.findIdx?_eq_none_iff.2 fun y hy => by
    have : y ≠ x := fun e => h (e ▸ hy)
    simpa using this
  unfold idxT
  rw [this]
theorem idxT_snoc {L : List Tw} {t x : Tw} (hn : (L ++ [t]).Nodup) : idxT (L ++ [t]) x = if t = x then (L.length : Int) else idxT L x := by
  by_cases e : t = x
  · rw [if_pos e]
    refine idxT_at (by simp) (by simpa using e) fun j hj he => ?_
    rw [List.getElem_append_left hj] at he
    have := (List.nodup_append.1 hn).2.2 (L[j]) (List.getElem_mem hj) t (by simp)
    exact this (he.trans e.symm)
  · rw [if_neg e]
    by_cases hx : x ∈ L
    · unfold idxT
      have h1 : ∃ i, L.findIdx? (fun y => decide (y = x)) = some i := by
        cases h : L.findIdx? (fun y => decide (y = x)) with
        | some i => exact ⟨i, rfl⟩
        | none =>
          have := List.findIdx?_eq_none_iff.1 h x hx
          simp at this
      obtain ⟨i, hi⟩ := h1
      rw [List.findIdx?_append, hi]
      rfl
    · rw [idxT_none hx, idxT_none]
      intro hm
      rcases List.mem_append.1 hm with q | q
      · exact hx q
      · exact e (List.mem_singleton.1 q).symm

def isU (c : Cat) (u : Int) : Prop := c.I (c.F u) = u
noncomputable def idS (c : Cat) (s : List Int × Int) (t : Tw) : List Int × Int := (if t.1 = t.2.1 ∧ isU c t.2.2.1 ∧ isU c t.2.2.2 then s.1.set t.1.toNat s.2 else s.1, s.2 + 1)
noncomputable def idAll (c : Cat) (n : Nat) (L : List Tw) : List Int := (L.foldl (idS c) (List.replicate n 0, 0)).1
theorem idS_cnt (c : Cat) (L : List Tw) : ∀ s, (L.foldl (idS c) s).2 = s.2 + L.length := by
  induction L with
  | nil => intro s; simp
  | cons t L ih => intro s; rw [List.foldl_cons, ih]; simp only [idS, List.length_cons]; omega
theorem idAll_snoc (c : Cat) (n : Nat) (L : List Tw) (t : Tw) : idAll c n (L ++ [t]) = if t.1 = t.2.1 ∧ isU c t.2.2.1 ∧ isU c t.2.2.2 then (idAll c n L).set t.1.toNat (L.length : Int) else idAll c n L := by
  have := idS_cnt c L (List.replicate n 0, 0)
  unfold idAll
  rw [List.foldl_append, List.foldl_cons, List.foldl_nil]
  have e : ∀ s t, (idS c s t).1 = if t.1 = t.2.1 ∧ isU c t.2.2.1 ∧ isU c t.2.2.2 then s.1.set t.1.toNat s.2 else s.1 := fun _ _ => rfl
  rw [e, this]
  simp only [Int.zero_add]
theorem idAll_len (c : Cat) (n : Nat) (L : List Tw) : (idAll c n L).length = n := by
  have : ∀ (L : List Tw) s, (L.foldl (idS c) s).1.length = s.1.length := by
    intro L
    induction L with
    | nil => intro s; rfl
    | cons t L ih =>
      intro s
      rw [List.foldl_cons, ih]
      unfold idS
      by_cases e : t.1 = t.2.1 ∧ isU c t.2.2.1 ∧ isU c t.2.2.2
      · simp only [if_pos e, List.length_set]
      · simp only [if_neg e]
  unfold idAll
  rw [this]
  simp
def tw0 : Tw := (0, 0, 0, 0)
def twC (c : Cat) (L : List Tw) (k l : Nat) : Int := idxT L ((L.getD k tw0).1, (L.getD l tw0).2.1, c.K (L.getD l tw0).2.2.1 (L.getD k tw0).2.2.1, c.K (L.getD k tw0).2.2.2 (L.getD l tw0).2.2.2)
def twF (L : List Tw) : List Int := L.map (·.1)
def twT (L : List Tw) : List Int := L.map (·.2.1)
noncomputable def twX (c : Cat) : Cat := ⟨c.f.length, twF (twL c), twT (twL c), idAll c c.f.length (twL c), if (twL c).length ≤ 40 then tbl (twC c (twL c)) (twF (twL c)) (twT (twL c)) else []⟩
end Go.Av
