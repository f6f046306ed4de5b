/-
  Classes: what a rule of joining makes, and their numbering. Plain lists, no program.
-/
import Derived.Test.YtbalggpkmaabmaaDoorAvM0
namespace Go.Av
open Classical
set_option linter.unusedSimpArgs false
set_option linter.unusedVariables false

/-- What the pairs of a relation join. -/
inductive Gen (p : Nat → Nat → Prop) : Nat → Nat → Prop
  | refl (x : Nat) : Gen p x x
  | step {x y : Nat} : p x y → Gen p x y
  | symm {x y : Nat} : Gen p x y → Gen p y x
  | trans {x y z : Nat} : Gen p x y → Gen p y z → Gen p x z
theorem Gen.mono {p q : Nat → Nat → Prop} (h : ∀ x y, p x y → Gen q x y) {x y : Nat} (g : Gen p x y) : Gen q x y := by
  induction g with
  | refl x => exact .refl x
  | step a => exact h _ _ a
  | symm _ ih => exact ih.symm
  | trans _ _ ih1 ih2 => exact ih1.trans ih2
/-- A labelling tells the classes. -/
def Tells (f : Nat → Nat) (p : Nat → Nat → Prop) : Prop := ∀ u v, f u = f v ↔ Gen p u v
theorem Tells.congr {f : Nat → Nat} {p q : Nat → Nat → Prop} (h : Tells f p) (hpq : ∀ x y, p x y ↔ q x y) : Tells f q := fun u v =>
  (h u v).trans ⟨Gen.mono fun x y a => .step ((hpq x y).1 a), Gen.mono fun x y a => .step ((hpq x y).2 a)⟩
/-- One more pair. -/
theorem Tells.join {f f' : Nat → Nat} {p : Nat → Nat → Prop} (h : Tells f p) (x y : Nat) (hf : ∀ u v, f' u = f' v ↔ (f u = f v ∨ (f u = f x ∧ f v = f y) ∨ (f u = f y ∧ f v = f x))) : Tells f' (fun a b => p a b ∨ (a = x ∧ b = y)) := fun u v => by
  rw [hf]
  constructor
  · have up : ∀ {a b}, Gen p a b → Gen (fun a b => p a b ∨ (a = x ∧ b = y)) a b := fun g => g.mono fun _ _ h => .step (.inl h)
    have xy : Gen (fun a b => p a b ∨ (a = x ∧ b = y)) x y := .step (.inr ⟨rfl, rfl⟩)
    rintro (e | ⟨e1, e2⟩ | ⟨e1, e2⟩)
    · exact up ((h _ _).1 e)
    · exact (up ((h _ _).1 e1)).trans (xy.trans (up ((h _ _).1 e2)).symm)
    · exact (up ((h _ _).1 e1)).trans (xy.symm.trans (up ((h _ _).1 e2)).symm)
  · intro g
    rw [← hf]
    induction g with
    | refl => rfl
    | step a =>
      rcases a with a | ⟨rfl, rfl⟩
      · exact (hf _ _).2 (.inl ((h _ _).2 (.step a)))
      · exact (hf _ _).2 (.inr (.inl ⟨rfl, rfl⟩))
    | symm _ ih => exact ih.symm
    | trans _ _ ih1 ih2 => exact ih1.trans ih2
theorem Tells.same {f g : Nat → Nat} {p q : Nat → Nat → Prop} (hf : Tells f p) (hg : Tells g q) (h1 : ∀ x y, p x y → Gen q x y) (h2 : ∀ x y, q x y → Gen p x y) (u v : Nat) : f u = f v ↔ g u = g v := by
  rw [hf, hg]
  exact ⟨Gen.mono h1, Gen.mono h2⟩



/-- A forest whose roots R tells. -/
structure Forest (J : List Int) (R : Nat → Nat) : Prop where
  lo : ∀ i, i < J.length → 0 ≤ J.getD i 0
  le : ∀ i, i < J.length → J.getD i 0 ≤ i
  top : ∀ i, i < J.length → J.getD i 0 = i → R i = i
  up : ∀ i, i < J.length → J.getD i 0 ≠ i → R i = R (J.getD i 0).toNat
  out : ∀ i, J.length ≤ i → R i = i
section
variable {J : List Int} {R : Nat → Nat}
theorem Forest.root (h : Forest J R) : ∀ i, i < J.length → R i ≤ i ∧ J.getD (R i) 0 = R i := by
  intro i
  induction i using Nat.strongRecOn with
  | ind i ih =>
    intro hi
    by_cases e : J.getD i 0 = i
    · rw [h.top i hi e]; exact ⟨Nat.le_refl _, e⟩
    · have h1 := h.le i hi
      have h0 := h.lo i hi
      have hlt : (J.getD i 0).toNat < i := by omega
      have := ih _ hlt (by omega)
      rw [h.up i hi e]
      exact ⟨by omega, this.2⟩
theorem getD_set {l : List Int} {i j : Nat} {x : Int} : (l.set i x).getD j 0 = if i = j ∧ j < l.length then x else l.getD j 0 := by
  simp only [List.getD, List.getElem?_set]
  by_cases e : i = j
  · subst e
    by_cases h : i < l.length
    · simp [h]
    · simp [h]
  · simp [e]
theorem Forest.join (h : Forest J R) {a b : Nat} (ha : a < J.length) (hb : b < J.length) (hra : R a = a) (hrb : R b = b) : Forest (J.set (max a b) ((min a b : Nat) : Int)) (fun i => if R i = max a b then min a b else R i) := by
  have ja := (h.root a ha).2
  have jb := (h.root b hb).2
  rw [hra] at ja
  rw [hrb] at jb
  have hM : max a b < J.length := by rcases Nat.le_total a b with q | q <;> simp [q, ha, hb]
  have rM : R (max a b) = max a b := by rcases Nat.le_total a b with q | q <;> simp [q, hra, hrb]
  have jM : J.getD (max a b) 0 = ((max a b : Nat) : Int) := by
    rcases Nat.le_total a b with q | q
    · rw [Nat.max_eq_right q]; exact jb
    · rw [Nat.max_eq_left q]; exact ja
  have rm : R (min a b) = min a b := by rcases Nat.le_total a b with q | q <;> simp [q, hra, hrb]
  have mM : min a b ≤ max a b := by omega
  generalize hMe : max a b = M at *
  generalize hme : min a b = m at *
  clear hMe hme ja jb ha hb hra hrb
  refine ⟨fun i hi => ?_, fun i hi => ?_, fun i hi e => ?_, fun i hi e => ?_, fun i hi => ?_⟩
  · rw [List.length_set] at hi
    rw [getD_set]; split
    · omega
    · exact h.lo i hi
  · rw [List.length_set] at hi
    rw [getD_set]; split
    · omega
    · exact h.le i hi
  · rw [List.length_set] at hi
    rw [getD_set] at e
    split at e
    · rename_i e2
      obtain ⟨rfl, _⟩ := e2
      have : m = M := by omega
      show (if R M = M then m else R M) = M
      rw [rM, if_pos rfl, this]
    · rename_i e2
      have hiM : M ≠ i := fun q => e2 ⟨q, hi⟩
      have := h.top i hi e
      show (if R i = M then m else R i) = i
      rw [this, if_neg fun q => hiM q.symm]
  · rw [List.length_set] at hi
    by_cases e2 : M = i ∧ i < J.length
    · rw [getD_set, if_pos e2]
      obtain ⟨rfl, _⟩ := e2
      show (if R M = M then m else R M) = if R ((m : Int)).toNat = M then m else R ((m : Int)).toNat
      rw [rM, if_pos rfl, Int.toNat_natCast, rm]
      split <;> rfl
    · rw [getD_set, if_neg e2] at e
      rw [getD_set, if_neg e2]
      have := h.up i hi e
      show (if R i = M then m else R i) = if R (J.getD i 0).toNat = M then m else R (J.getD i 0).toNat
      rw [this]
  · rw [List.length_set] at hi
    have := h.out i hi
    show (if R i = M then m else R i) = i
    rw [this, if_neg (by omega)]
theorem Forest.start (n : Nat) : Forest ((List.range n).map fun (i : Nat) => (i : Int)) id := by
  have at' : ∀ i, i < n → ((List.range n).map fun (i : Nat) => (i : Int)).getD i 0 = i := fun i hi => by simp [List.getD, hi]
  refine ⟨fun i hi => ?_, fun i hi => ?_, fun i hi e => rfl, fun i hi e => ?_, fun i hi => rfl⟩
  all_goals simp only [List.length_map, List.length_range] at hi
  · rw [at' i hi]; omega
  · rw [at' i hi]; omega
  · exact absurd (at' i hi) e
end

/-- The first bearer of a label; the numbers of the labels by their first bearers. -/
def isFst (f : Nat → Nat) (i : Nat) : Bool := decide (∀ j, j < i → f j ≠ f i)
def fsts (f : Nat → Nat) (n : Nat) : List Nat := (List.range n).filter (isFst f)
/-- The place of the class of i among the first bearers. -/
def numOf (f : Nat → Nat) (i : Nat) : Nat := (fsts f (((List.range (i + 1)).find? fun j => decide (f j = f i)).getD 0)).length
def nrm (f : Nat → Nat) (n : Nat) : List Int := (List.range n).map fun i => (numOf f i : Int)
end Go.Av
