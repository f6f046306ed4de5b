/-
  Congruences: the plain side.
-/
import Derived.Test.YtbikcomiocdkpaaAvJ3
import Derived.Test.YtbikcomiocdkpaaAvS0
namespace Go.Av
open Classical
set_option linter.unusedSimpArgs false
set_option linter.unusedVariables false
variable {P : Program} {ν : Nat → FuncId}

theorem IsCat.idl {c : Cat} (k : IsCat c) {f : Int} (a : Arr c f) : c.K (c.I (c.F f)) f = f ∧ c.K f (c.I (c.T f)) = f := by
  have h := k.2.1
  unfold Av.idF at h
  obtain ⟨a1, a2⟩ := a.nat
  have h1 := List.findSome?_eq_none_iff.1 h f.toNat (by simpa using a1)
  by_cases e : idOk c f.toNat = true
  · unfold idOk at e
    simp only [Bool.and_eq_true, beq_iff_eq, a2] at e
    exact e
  · rw [if_neg e] at h1; cases h1
def kN (c : Cat) (a b : Nat) : Nat := (c.K a b).toNat
def spr (c : Cat) (p : Nat × Nat) : List (Nat × Nat) := (List.range c.f.length).flatMap fun (f : Nat) => (List.range c.f.length).flatMap fun (g : Nat) => if c.T f = c.F p.1 ∧ c.T p.1 = c.F g then [(kN c (kN c f p.1) g, kN c (kN c f p.2) g)] else []
def sprP (c : Cat) (P : List (Nat × Nat)) : List (Nat × Nat) := P ++ P.flatMap (spr c)
theorem spr_mem {c : Cat} {p : Nat × Nat} {x y : Nat} : (x, y) ∈ spr c p ↔ ∃ f g : Nat, f < c.f.length ∧ g < c.f.length ∧ c.T f = c.F p.1 ∧ c.T p.1 = c.F g ∧ x = kN c (kN c f p.1) g ∧ y = kN c (kN c f p.2) g := by
  unfold spr
  simp only [List.mem_flatMap, List.mem_range]
  constructor
  · rintro ⟨f, hf, g, hg, h⟩
    split at h
    · rename_i e
      simp only [List.mem_singleton, Prod.mk.injEq] at h
      exact ⟨f, g, hf, hg, e.1, e.2, h.1, h.2⟩
    · cases h
  · rintro ⟨f, g, hf, hg, e1, e2, rfl, rfl⟩
    exact ⟨f, hf, g, hg, by rw [if_pos ⟨e1, e2⟩]; simp⟩
theorem spr_len (c : Cat) (p : Nat × Nat) : (spr c p).length ≤ c.f.length * c.f.length := by
  have := flat_len_le (List.range c.f.length) (fun (f : Nat) => (List.range c.f.length).flatMap fun (g : Nat) => if c.T f = c.F p.1 ∧ c.T p.1 = c.F g then [(kN c (kN c f p.1) g, kN c (kN c f p.2) g)] else []) c.f.length fun f _ => by
    have := flat_len_le (List.range c.f.length) (fun (g : Nat) => if c.T f = c.F p.1 ∧ c.T p.1 = c.F g then [(kN c (kN c f p.1) g, kN c (kN c f p.2) g)] else []) 1 fun g _ => by split <;> simp
    simpa using this
  simpa [spr] using this
structure Par (c : Cat) (x y : Nat) : Prop where
  a : x < c.f.length
  b : y < c.f.length
  F : c.F x = c.F y
  T : c.T x = c.T y
section
variable {c : Cat} (k : IsCat c)
include k
theorem kN_ok {x y : Nat} (hx : x < c.f.length) (hy : y < c.f.length) (e : c.T x = c.F y) : kN c x y < c.f.length ∧ ((kN c x y : Nat) : Int) = c.K x y ∧ c.F (kN c x y) = c.F x ∧ c.T (kN c x y) = c.T y := by
  have s := k.1
  have ax : Arr c x := Arr.of hx
  have ay : Arr c y := Arr.of hy
  have ak := s.arK ax ay e
  have e0 : ((kN c x y : Nat) : Int) = c.K x y := by unfold kN; have := ak.1; omega
  refine ⟨by have := ak.2; omega, e0, ?_, ?_⟩
  · rw [e0, s.kF ax ay e]
  · rw [e0, s.kT ax ay e]
theorem kN_assoc {x y z : Nat} (hx : x < c.f.length) (hy : y < c.f.length) (hz : z < c.f.length) (e1 : c.T x = c.F y) (e2 : c.T y = c.F z) : kN c (kN c x y) z = kN c x (kN c y z) := by
  obtain ⟨a1, a2, a3, a4⟩ := kN_ok k hx hy e1
  obtain ⟨b1, b2, b3, b4⟩ := kN_ok k hy hz e2
  have := k.assoc (Arr.of hx) (Arr.of hy) (Arr.of hz) e1 e2
  unfold kN at a2 b2 ⊢
  rw [a2, b2, this]
theorem kN_idl {x : Nat} (hx : x < c.f.length) : ∃ i j : Nat, i < c.f.length ∧ j < c.f.length ∧ c.T i = c.F x ∧ c.F j = c.T x ∧ (∀ y : Nat, y < c.f.length → c.F y = c.F x → kN c i y = y) ∧ ∀ y : Nat, y < c.f.length → c.T y = c.T x → kN c y j = y := by
  have s := k.1
  have ax : Arr c x := Arr.of hx
  have ai := s.arI (s.obF ax)
  have aj := s.arI (s.obT ax)
  obtain ⟨i1, i2⟩ := ai.nat
  obtain ⟨j1, j2⟩ := aj.nat
  refine ⟨(c.I (c.F x)).toNat, (c.I (c.T x)).toNat, i1, j1, ?_, ?_, fun y hy e => ?_, fun y hy e => ?_⟩
  · rw [i2, s.idT (s.obF ax)]
  · rw [j2, s.idF (s.obT ax)]
  · unfold kN; rw [i2, ← e, (k.idl (Arr.of hy)).1]; simp
  · unfold kN; rw [j2, ← e, (k.idl (Arr.of hy)).2]; simp
variable {L : List (Nat × Nat)} (hL : ∀ p ∈ L, Par c p.1 p.2)
include hL
theorem spr_par {x y : Nat} (h : (x, y) ∈ sprP c L) : Par c x y := by
  rcases List.mem_append.1 h with h | h
  · exact hL _ h
  · obtain ⟨p, hp, h⟩ := List.mem_flatMap.1 h
    obtain ⟨f, g, hf, hg, e1, e2, rfl, rfl⟩ := spr_mem.1 h
    have pp := hL p hp
    obtain ⟨a1, a2, a3, a4⟩ := kN_ok k hf pp.a e1
    obtain ⟨b1, b2, b3, b4⟩ := kN_ok k hf pp.b (by rw [e1, pp.F])
    obtain ⟨d1, d2, d3, d4⟩ := kN_ok k a1 hg (by rw [a4, e2])
    obtain ⟨g1, g2, g3, g4⟩ := kN_ok k b1 hg (by rw [b4, ← pp.T, e2])
    exact ⟨d1, g1, by rw [d3, g3, a3, b3], by rw [d4, g4]⟩
theorem gen_par {x y : Nat} (h : Gen (inP (sprP c L)) x y) : (x < c.f.length ↔ y < c.f.length) ∧ c.F x = c.F y ∧ c.T x = c.T y := by
  induction h with
  | refl => exact ⟨Iff.rfl, rfl, rfl⟩
  | step a => have := spr_par k hL a; exact ⟨⟨fun _ => this.b, fun _ => this.a⟩, this.F, this.T⟩
  | symm _ ih => exact ⟨ih.1.symm, ih.2.1.symm, ih.2.2.symm⟩
  | trans _ _ i1 i2 => exact ⟨i1.1.trans i2.1, i1.2.1.trans i2.2.1, i1.2.2.trans i2.2.2⟩
theorem gen_mulR {x y : Nat} (h : Gen (inP (sprP c L)) x y) : ∀ {g : Nat}, x < c.f.length → g < c.f.length → c.T x = c.F g → Gen (inP (sprP c L)) (kN c x g) (kN c y g) := by
  induction h with
  | refl => exact fun _ _ _ => .refl _
  | @step x y a =>
    intro g hx hg e
    have pr := spr_par k hL a
    refine .step (List.mem_append.2 (.inr ?_))
    rcases List.mem_append.1 a with h | h
    · obtain ⟨i, j, hi, _, e1, _, q1, _⟩ := kN_idl k hx
      refine List.mem_flatMap.2 ⟨_, h, spr_mem.2 ⟨i, g, hi, hg, e1, e, ?_, ?_⟩⟩
      · rw [q1 x hx rfl]
      · rw [q1 y pr.b pr.F.symm]
    · obtain ⟨p, hp, h⟩ := List.mem_flatMap.1 h
      obtain ⟨f', g', hf, hg', e1, e2, rfl, rfl⟩ := spr_mem.1 h
      have pp := hL p hp
      obtain ⟨a1, a2, a3, a4⟩ := kN_ok k hf pp.a e1
      obtain ⟨b1, b2, b3, b4⟩ := kN_ok k hf pp.b (by rw [e1, pp.F])
      obtain ⟨d1, d2, d3, d4⟩ := kN_ok k a1 hg' (by rw [a4, e2])
      rw [d4] at e
      obtain ⟨u1, u2, u3, u4⟩ := kN_ok k hg' hg e
      refine List.mem_flatMap.2 ⟨p, hp, spr_mem.2 ⟨f', kN c g' g, hf, u1, e1, by rw [e2, u3], ?_, ?_⟩⟩
      · rw [kN_assoc k a1 hg' hg (by rw [a4, e2]) e]
      · rw [kN_assoc k b1 hg' hg (by rw [b4, ← pp.T, e2]) e]
  | symm h ih =>
    intro g hx hg e
    have gp := gen_par k hL h
    exact (ih (gp.1.2 hx) hg (by rw [gp.2.2]; exact e)).symm
  | trans h1 h2 i1 i2 =>
    intro g hx hg e
    have gp := gen_par k hL h1
    exact (i1 hx hg e).trans (i2 (gp.1.1 hx) hg (by rw [← gp.2.2]; exact e))
theorem gen_mulL {x y : Nat} (h : Gen (inP (sprP c L)) x y) : ∀ {g : Nat}, x < c.f.length → g < c.f.length → c.T g = c.F x → Gen (inP (sprP c L)) (kN c g x) (kN c g y) := by
  induction h with
  | refl => exact fun _ _ _ => .refl _
  | @step x y a =>
    intro g hx hg e
    have pr := spr_par k hL a
    refine .step (List.mem_append.2 (.inr ?_))
    rcases List.mem_append.1 a with h | h
    · obtain ⟨i, j, _, hj, _, e1, _, q1⟩ := kN_idl k hx
      refine List.mem_flatMap.2 ⟨_, h, spr_mem.2 ⟨g, j, hg, hj, e, e1.symm, ?_, ?_⟩⟩
      · simp only
        obtain ⟨u1, u2, u3, u4⟩ := kN_ok k hg hx e
        rw [q1 _ u1 u4]
      · simp only
        obtain ⟨u1, u2, u3, u4⟩ := kN_ok k hg pr.b (by rw [e, pr.F])
        rw [q1 _ u1 (by rw [u4, pr.T])]
    · obtain ⟨p, hp, h⟩ := List.mem_flatMap.1 h
      obtain ⟨f', g', hf, hg', e1, e2, rfl, rfl⟩ := spr_mem.1 h
      have pp := hL p hp
      obtain ⟨a1, a2, a3, a4⟩ := kN_ok k hf pp.a e1
      obtain ⟨b1, b2, b3, b4⟩ := kN_ok k hf pp.b (by rw [e1, pp.F])
      obtain ⟨d1, d2, d3, d4⟩ := kN_ok k a1 hg' (by rw [a4, e2])
      rw [d3, a3] at e
      obtain ⟨u1, u2, u3, u4⟩ := kN_ok k hg hf e
      refine List.mem_flatMap.2 ⟨p, hp, spr_mem.2 ⟨kN c g f', g', u1, hg', by rw [u4, e1], e2, ?_, ?_⟩⟩
      · rw [kN_assoc k hg hf pp.a e e1, kN_assoc k hg a1 hg' (by rw [e, a3]) (by rw [a4, e2])]
      · rw [kN_assoc k hg hf pp.b e (by rw [e1, pp.F]), kN_assoc k hg b1 hg' (by rw [e, b3]) (by rw [b4, ← pp.T, e2])]
  | symm h ih =>
    intro g hx hg e
    have gp := gen_par k hL h
    exact (ih (gp.1.2 hx) hg (by rw [gp.2.1]; exact e)).symm
  | trans h1 h2 i1 i2 =>
    intro g hx hg e
    have gp := gen_par k hL h1
    exact (i1 hx hg e).trans (i2 (gp.1.1 hx) hg (by rw [← gp.2.1]; exact e))
end

/-- What is known of the roots while the pairs of L are spread. -/
structure Inv4 (c : Cat) (L D : List (Nat × Nat)) (R : Nat → Nat) : Prop where
  ex : ∃ M, Tells R (inP M) ∧ (∀ x y, (x, y) ∈ M → Gen (inP (sprP c L)) x y) ∧ ∀ p ∈ D, p ∈ M
theorem Inv4.start {c : Cat} {L : List (Nat × Nat)} : Inv4 c L [] id := ⟨[], start_tells, fun x y h => (by cases h), fun p h => (by cases h)⟩
theorem Inv4.join {c : Cat} {L D : List (Nat × Nat)} {R : Nat → Nat} (h : Inv4 c L D R) {x y : Nat} (g : Gen (inP (sprP c L)) x y) : Inv4 c L D (joinR R x y) := by
  obtain ⟨M, h1, h2, h3⟩ := h.ex
  refine ⟨M ++ [(x, y)], joinR_tells h1 x y, fun a b hab => ?_, fun p hp => List.mem_append.2 (.inl (h3 p hp))⟩
  rcases List.mem_append.1 hab with q | q
  · exact h2 a b q
  · simp only [List.mem_singleton, Prod.mk.injEq] at q
    rw [q.1, q.2]; exact g
theorem Inv4.pair {c : Cat} {L D : List (Nat × Nat)} {R : Nat → Nat} (h : Inv4 c L D R) {p : Nat × Nat} (hp : p ∈ L) : Inv4 c L (D ++ [p]) (joinR R p.1 p.2) := by
  obtain ⟨M, h1, h2, h3⟩ := h.ex
  refine ⟨M ++ [(p.1, p.2)], joinR_tells h1 _ _, fun a b hab => ?_, fun q hq => ?_⟩
  · rcases List.mem_append.1 hab with q | q
    · exact h2 a b q
    · simp only [List.mem_singleton, Prod.mk.injEq] at q
      rw [q.1, q.2]; exact .step (List.mem_append.2 (.inl hp))
  · rcases List.mem_append.1 hq with q1 | q1
    · exact List.mem_append.2 (.inl (h3 q q1))
    · exact List.mem_append.2 (.inr q1)
theorem Inv4.root {c : Cat} {L D : List (Nat × Nat)} {R : Nat → Nat} (h : Inv4 c L D R) {f : Nat} (hf : R (R f) = R f) : Gen (inP (sprP c L)) f (R f) := by
  obtain ⟨M, h1, h2, _⟩ := h.ex
  exact ((h1 f (R f)).1 hf.symm).mono h2
theorem Inv4.same {c : Cat} {L D : List (Nat × Nat)} {R : Nat → Nat} (h : Inv4 c L D R) {x y : Nat} (e : R x = R y) : Gen (inP (sprP c L)) x y := by
  obtain ⟨M, h1, h2, _⟩ := h.ex
  exact ((h1 x y).1 e).mono h2
/-- An arrow and its root answer alike on both sides. -/
def CgFG (c : Cat) (R : Nat → Nat) (f g : Nat) : Prop := (c.T f = c.F g → R (kN c f g) = R (kN c (R f) g)) ∧ (c.T g = c.F f → R (kN c g f) = R (kN c g (R f)))
def CgF (c : Cat) (R : Nat → Nat) (f : Nat) : Prop := ∀ g, g < c.f.length → CgFG c R f g
theorem CgF.root {c : Cat} {R : Nat → Nat} {f : Nat} (h : R f = f) : CgF c R f := fun g _ => ⟨fun _ => by rw [h], fun _ => by rw [h]⟩
/-- The end: the roots tell what the reference's pairs tell. -/
theorem cong_end {c : Cat} (k : IsCat c) {L : List (Nat × Nat)} (hL : ∀ p ∈ L, Par c p.1 p.2) {R : Nat → Nat} (h : Inv4 c L L R) (cg : ∀ f, f < c.f.length → CgF c R f) (hR : ∀ f, f < c.f.length → R f < c.f.length) (n : Nat) : nrm R n = nrm (lab (sprP c L)) n := by
  obtain ⟨M, h1, h2, h3⟩ := h.ex
  refine nrm_congr (h1.same (lab_tells _) h2 fun x y hxy => (h1 x y).1 ?_) n
  have base : ∀ p ∈ L, R p.1 = R p.2 := fun p hp => (h1 _ _).2 (.step (h3 p hp))
  rcases List.mem_append.1 hxy with q | q
  · exact base _ q
  · obtain ⟨p, hp, q⟩ := List.mem_flatMap.1 q
    obtain ⟨f, g, hf, hg, e1, e2, rfl, rfl⟩ := spr_mem.1 q
    have pp := hL p hp
    have e0 := base p hp
    have e1' : c.T f = c.F p.2 := by rw [e1, pp.F]
    obtain ⟨a1, a2, a3, a4⟩ := kN_ok k hf pp.a e1
    obtain ⟨b1, b2, b3, b4⟩ := kN_ok k hf pp.b e1'
    have s1 : R (kN c f p.1) = R (kN c f p.2) := by rw [(cg p.1 pp.a f hf).2 e1, (cg p.2 pp.b f hf).2 e1', e0]
    rw [(cg _ a1 g hg).1 (by rw [a4, e2]), (cg _ b1 g hg).1 (by rw [b4, ← pp.T, e2]), s1]

/-- How many roots there are. -/
def cl (n : Nat) (R : Nat → Nat) : Nat := ((List.range n).filter fun i => decide (R i = i)).length
theorem filter_le_of {α : Type} {p q : α → Bool} {l : List α} (h : ∀ x ∈ l, p x = true → q x = true) : (l.filter p).length ≤ (l.filter q).length := by
  induction l with
  | nil => simp
  | cons a l ih =>
    have i1 := ih fun x hx => h x (by simp [hx])
    have h0 := h a (by simp)
    simp only [List.filter_cons]
    cases hp : p a with
    | true => rw [h0 hp]; simp; omega
    | false => simp only [Bool.false_eq_true, if_false]; split <;> simp <;> omega
theorem filter_lt_of {α : Type} {p q : α → Bool} {l : List α} (h : ∀ x ∈ l, p x = true → q x = true) {a : α} (ha : a ∈ l) (h1 : p a = false) (h2 : q a = true) : (l.filter p).length < (l.filter q).length := by
  induction l with
  | nil => cases ha
  | cons b l ih =>
    have i1 := filter_le_of (l := l) fun x hx => h x (by simp [hx])
    have h0 := h b (by simp)
    simp only [List.filter_cons]
    rcases List.mem_cons.1 ha with rfl | ha
    · rw [h1, h2]; simp; omega
    · have i2 := ih (fun x hx => h x (by simp [hx])) ha
      cases hp : p b with
      | true => rw [h0 hp]; simp; omega
      | false => simp only [Bool.false_eq_true, if_false]; split <;> simp <;> omega
theorem joinR_same {R : Nat → Nat} {x y : Nat} (e : R x = R y) : joinR R x y = R := by
  funext i
  unfold joinR
  rw [e, Nat.max_self, Nat.min_self]
  split
  · rename_i h; rw [h]
  · rfl
theorem cl_le {n : Nat} {R : Nat → Nat} (hle : ∀ i, i < n → R i ≤ i) (x y : Nat) : cl n (joinR R x y) ≤ cl n R := by
  refine filter_le_of fun i hi h => ?_
  have hi := List.mem_range.1 hi
  have h := of_decide_eq_true h
  refine decide_eq_true ?_
  unfold joinR at h
  split at h
  · rename_i e
    have := hle i hi
    omega
  · exact h
theorem cl_lt {n : Nat} {R : Nat → Nat} (hle : ∀ i, i < n → R i ≤ i) (hid : ∀ i, i < n → R (R i) = R i) {x y : Nat} (hx : x < n) (hy : y < n) (e : R x ≠ R y) : cl n (joinR R x y) < cl n R := by
  have lx := hle x hx
  have ly := hle y hy
  have im : R (max (R x) (R y)) = max (R x) (R y) := by
    rcases Nat.le_total (R x) (R y) with q | q
    · rw [Nat.max_eq_right q, hid y hy]
    · rw [Nat.max_eq_left q, hid x hx]
  refine filter_lt_of (a := max (R x) (R y)) (fun i hi h => ?_) (List.mem_range.2 (by omega)) (decide_eq_false ?_) (decide_eq_true im)
  · have hi := List.mem_range.1 hi
    have h := of_decide_eq_true h
    refine decide_eq_true ?_
    unfold joinR at h
    split at h
    · rename_i e
      have := hle i hi
      omega
    · exact h
  · unfold joinR
    rw [if_pos im]
    omega
end Go.Av
