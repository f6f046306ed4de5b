/-
  Classes: what a rule of joining makes, and their numbering. Plain lists, no program.
-/
import Derived.Test.YtalfoffamemfnaaAvM0
namespace Go.Av
open Classical
set_option linter.unusedSimpArgs false
set_option linter.unusedVariables false

/-- What the pairs of a relation join. -/
inductive Gen (p : Nat → Nat → Prop) : Nat → Nat → Prop
  | refl (x : Nat) : Gen p x x
  | step {x y : Nat} : p x y → Gen p x y
  | symm {x y : Nat} : Gen p x y → Gen p y x
  | trans {x y z : Nat} : Gen p x y → Gen p y z → Gen p x z
theorem Gen.mono {p q : Nat → Nat → Prop} (h : ∀ x y, p x y → Gen q x y) {x y : Nat} (g : Gen p x y) : Gen q x y := by
  induction g with
  | refl x => exact .refl x
  | step a => exact h _ _ a
  | symm _ ih => exact ih.symm
  | trans _ _ ih1 ih2 => exact ih1.trans ih2
/-- A labelling tells the classes. -/
def Tells (f : Nat → Nat) (p : Nat → Nat → Prop) : Prop := ∀ u v, f u = f v ↔ Gen p u v
theorem tells_id {p : Nat → Nat → Prop} (hp : ∀ x y, ¬ p x y) : Tells id p := fun u v => by
  constructor
  · intro h; have : u = v := h; subst this; exact .refl _
  · intro g
    induction g with
    | refl => rfl
    | step a => exact absurd a (hp _ _)
    | symm _ ih => exact ih.symm
    | trans _ _ ih1 ih2 => exact ih1.trans ih2
theorem Tells.congr {f : Nat → Nat} {p q : Nat → Nat → Prop} (h : Tells f p) (hpq : ∀ x y, p x y ↔ q x y) : Tells f q := fun u v =>
  (h u v).trans ⟨Gen.mono fun x y a => .step ((hpq x y).1 a), Gen.mono fun x y a => .step ((hpq x y).2 a)⟩
/-- One more pair. -/
theorem Tells.join {f f' : Nat → Nat} {p : Nat → Nat → Prop} (h : Tells f p) (x y : Nat) (hf : ∀ u v, f' u = f' v ↔ (f u = f v ∨ (f u = f x ∧ f v = f y) ∨ (f u = f y ∧ f v = f x))) : Tells f' (fun a b => p a b ∨ (a = x ∧ b = y)) := fun u v => by
  rw [hf]
  constructor
  · have up : ∀ {a b}, Gen p a b → Gen (fun a b => p a b ∨ (a = x ∧ b = y)) a b := fun g => g.mono fun _ _ h => .step (.inl h)
    have xy : Gen (fun a b => p a b ∨ (a = x ∧ b = y)) x y := .step (.inr ⟨rfl, rfl⟩)
    rintro (e | ⟨e1, e2⟩ | ⟨e1, e2⟩)
    · exact up ((h _ _).1 e)
    · exact (up ((h _ _).1 e1)).trans (xy.trans (up ((h _ _).1 e2)).symm)
    · exact (up ((h _ _).1 e1)).trans (xy.symm.trans (up ((h _ _).1 e2)).symm)
  · intro g
    rw [← hf]
    induction g with
    | refl => rfl
    | step a =>
      rcases a with a | ⟨rfl, rfl⟩
      · exact (hf _ _).2 (.inl ((h _ _).2 (.step a)))
      · exact (hf _ _).2 (.inr (.inl ⟨rfl, rfl⟩))
    | symm _ ih => exact ih.symm
    | trans _ _ ih1 ih2 => exact ih1.trans ih2
theorem Tells.same {f g : Nat → Nat} {p q : Nat → Nat → Prop} (hf : Tells f p) (hg : Tells g q) (h1 : ∀ x y, p x y → Gen q x y) (h2 : ∀ x y, q x y → Gen p x y) (u v : Nat) : f u = f v ↔ g u = g v := by
  rw [hf, hg]
  exact ⟨Gen.mono h1, Gen.mono h2⟩

/-- The pairs of a list. -/
def inP (l : List (Nat × Nat)) (a b : Nat) : Prop := (a, b) ∈ l
theorem Tells.snoc {f : Nat → Nat} {l : List (Nat × Nat)} {x y : Nat} (h : Tells f (fun a b => inP l a b ∨ (a = x ∧ b = y))) : Tells f (inP (l ++ [(x, y)])) :=
  h.congr fun a b => by simp [inP]

/-- Joining by labels: all that bear the one bear the other. -/
theorem label_join {f : Nat → Nat} (x y : Nat) (u v : Nat) : (if f u = f y then f x else f u) = (if f v = f y then f x else f v) ↔ (f u = f v ∨ (f u = f x ∧ f v = f y) ∨ (f u = f y ∧ f v = f x)) := by
  by_cases h1 : f u = f y
  · rw [if_pos h1]
    by_cases h2 : f v = f y
    · rw [if_pos h2]; simp [h1, h2]
    · rw [if_neg h2]
      constructor
      · intro e; exact .inr (.inr ⟨h1, e.symm⟩)
      · rintro (e | ⟨_, e⟩ | ⟨_, e⟩)
        · exact absurd (e.symm.trans h1) h2
        · exact absurd e h2
        · exact e.symm
  · rw [if_neg h1]
    by_cases h2 : f v = f y
    · rw [if_pos h2]
      constructor
      · intro e; exact .inr (.inl ⟨e, h2⟩)
      · rintro (e | ⟨e, _⟩ | ⟨e, _⟩)
        · exact absurd (e.trans h2) h1
        · exact e
        · exact absurd e h1
    · rw [if_neg h2]
      constructor
      · intro e; exact .inl e
      · rintro (e | ⟨_, e⟩ | ⟨e, _⟩)
        · exact e
        · exact absurd e h2
        · exact absurd e h1
/-- Joining by the least. -/
theorem min_join {f : Nat → Nat} (x y : Nat) (u v : Nat) : (if f u = max (f x) (f y) then min (f x) (f y) else f u) = (if f v = max (f x) (f y) then min (f x) (f y) else f v) ↔ (f u = f v ∨ (f u = f x ∧ f v = f y) ∨ (f u = f y ∧ f v = f x)) := by
  rcases Nat.le_total (f x) (f y) with h | h
  · rw [Nat.max_eq_right h, Nat.min_eq_left h]
    exact label_join x y u v
  · rw [Nat.max_eq_left h, Nat.min_eq_right h]
    rw [label_join y x u v]
    constructor
    · rintro (e | e | e)
      · exact .inl e
      · exact .inr (.inr e)
      · exact .inr (.inl e)
    · rintro (e | e | e)
      · exact .inl e
      · exact .inr (.inr e)
      · exact .inr (.inl e)

/-- A forest whose roots R tells. -/
structure Forest (J : List Int) (R : Nat → Nat) : Prop where
  lo : ∀ i, i < J.length → 0 ≤ J.getD i 0
  le : ∀ i, i < J.length → J.getD i 0 ≤ i
  top : ∀ i, i < J.length → J.getD i 0 = i → R i = i
  up : ∀ i, i < J.length → J.getD i 0 ≠ i → R i = R (J.getD i 0).toNat
  out : ∀ i, J.length ≤ i → R i = i
section
variable {J : List Int} {R : Nat → Nat}
theorem Forest.root (h : Forest J R) : ∀ i, i < J.length → R i ≤ i ∧ J.getD (R i) 0 = R i := by
  intro i
  induction i using Nat.strongRecOn with
  | ind i ih =>
    intro hi
    by_cases e : J.getD i 0 = i
    · rw [h.top i hi e]; exact ⟨Nat.le_refl _, e⟩
    · have h1 := h.le i hi
      have h0 := h.lo i hi
      have hlt : (J.getD i 0).toNat < i := by omega
      have := ih _ hlt (by omega)
      rw [h.up i hi e]
      exact ⟨by omega, this.2⟩
theorem Forest.idem (h : Forest J R) {i : Nat} (hi : i < J.length) : R (R i) = R i := by
  obtain ⟨h1, h2⟩ := h.root i hi
  exact h.top _ (by omega) h2
theorem getD_set {l : List Int} {i j : Nat} {x : Int} : (l.set i x).getD j 0 = if i = j ∧ j < l.length then x else l.getD j 0 := by
  simp only [List.getD, List.getElem?_set]
  by_cases e : i = j
  · subst e
    by_cases h : i < l.length
    · simp [h]
    · simp [h]
  · simp [e]
theorem Forest.halve (h : Forest J R) {x : Nat} (hx : x < J.length) (hne : J.getD x 0 ≠ x) : Forest (J.set x (J.getD (J.getD x 0).toNat 0)) R := by
  have l := h.lo x hx
  have le := h.le x hx
  have y0 : (J.getD x 0).toNat < J.length := by omega
  have l2 := h.lo _ y0
  have le2 := h.le _ y0
  refine ⟨fun i hi => ?_, fun i hi => ?_, fun i hi e => ?_, fun i hi e => ?_, fun i hi => h.out i (by simpa using hi)⟩
  · rw [List.length_set] at hi
    rw [getD_set]; split
    · exact l2
    · exact h.lo i hi
  · rw [List.length_set] at hi
    rw [getD_set]; split
    · rename_i e; obtain ⟨rfl, _⟩ := e; omega
    · exact h.le i hi
  · rw [List.length_set] at hi
    rw [getD_set] at e
    split at e
    · rename_i e2; obtain ⟨rfl, _⟩ := e2; omega
    · exact h.top i hi e
  · rw [List.length_set] at hi
    rw [getD_set] at e ⊢
    split
    · rename_i e2
      obtain ⟨rfl, _⟩ := e2
      rw [h.up x hx hne]
      by_cases e3 : J.getD (J.getD x 0).toNat 0 = ((J.getD x 0).toNat : Nat)
      · rw [e3, Int.toNat_natCast]
      · exact h.up _ y0 e3
    · rename_i e2
      rw [if_neg e2] at e
      exact h.up i hi e
theorem Forest.join (h : Forest J R) {a b : Nat} (ha : a < J.length) (hb : b < J.length) (hra : R a = a) (hrb : R b = b) : Forest (J.set (max a b) ((min a b : Nat) : Int)) (fun i => if R i = max a b then min a b else R i) := by
  have ja := (h.root a ha).2
  have jb := (h.root b hb).2
  rw [hra] at ja
  rw [hrb] at jb
  have hM : max a b < J.length := by rcases Nat.le_total a b with q | q <;> simp [q, ha, hb]
  have rM : R (max a b) = max a b := by rcases Nat.le_total a b with q | q <;> simp [q, hra, hrb]
  have jM : J.getD (max a b) 0 = ((max a b : Nat) : Int) := by
    rcases Nat.le_total a b with q | q
    · rw [Nat.max_eq_right q]; exact jb
    · rw [Nat.max_eq_left q]; exact ja
  have rm : R (min a b) = min a b := by rcases Nat.le_total a b with q | q <;> simp [q, hra, hrb]
  have mM : min a b ≤ max a b := by omega
  generalize hMe : max a b = M at *
  generalize hme : min a b = m at *
  clear hMe hme ja jb ha hb hra hrb
  refine ⟨fun i hi => ?_, fun i hi => ?_, fun i hi e => ?_, fun i hi e => ?_, fun i hi => ?_⟩
  · rw [List.length_set] at hi
    rw [getD_set]; split
    · omega
    · exact h.lo i hi
  · rw [List.length_set] at hi
    rw [getD_set]; split
    · omega
    · exact h.le i hi
  · rw [List.length_set] at hi
    rw [getD_set] at e
    split at e
    · rename_i e2
      obtain ⟨rfl, _⟩ := e2
      have : m = M := by omega
      show (if R M = M then m else R M) = M
      rw [rM, if_pos rfl, this]
    · rename_i e2
      have hiM : M ≠ i := fun q => e2 ⟨q, hi⟩
      have := h.top i hi e
      show (if R i = M then m else R i) = i
      rw [this, if_neg fun q => hiM q.symm]
  · rw [List.length_set] at hi
    by_cases e2 : M = i ∧ i < J.length
    · rw [getD_set, if_pos e2]
      obtain ⟨rfl, _⟩ := e2
      show (if R M = M then m else R M) = if R ((m : Int)).toNat = M then m else R ((m : Int)).toNat
      rw [rM, if_pos rfl, Int.toNat_natCast, rm]
      split <;> rfl
    · rw [getD_set, if_neg e2] at e
      rw [getD_set, if_neg e2]
      have := h.up i hi e
      show (if R i = M then m else R i) = if R (J.getD i 0).toNat = M then m else R (J.getD i 0).toNat
      rw [this]
  · rw [List.length_set] at hi
    have := h.out i hi
    show (if R i = M then m else R i) = i
    rw [this, if_neg (by omega)]
theorem Forest.start (n : Nat) : Forest ((List.range n).map fun (i : Nat) => (i : Int)) id := by
  have at' : ∀ i, i < n → ((List.range n).map fun (i : Nat) => (i : Int)).getD i 0 = i := fun i hi => by simp [List.getD, hi]
  refine ⟨fun i hi => ?_, fun i hi => ?_, fun i hi e => rfl, fun i hi e => ?_, fun i hi => rfl⟩
  all_goals simp only [List.length_map, List.length_range] at hi
  · rw [at' i hi]; omega
  · rw [at' i hi]; omega
  · exact absurd (at' i hi) e
end

/-- The first bearer of a label; the numbers of the labels by their first bearers. -/
def isFst (f : Nat → Nat) (i : Nat) : Bool := decide (∀ j, j < i → f j ≠ f i)
def fsts (f : Nat → Nat) (n : Nat) : List Nat := (List.range n).filter (isFst f)
/-- The place of the class of i among the first bearers. -/
def numOf (f : Nat → Nat) (i : Nat) : Nat := (fsts f (((List.range (i + 1)).find? fun j => decide (f j = f i)).getD 0)).length
def nrm (f : Nat → Nat) (n : Nat) : List Int := (List.range n).map fun i => (numOf f i : Int)
theorem isFst_congr {f g : Nat → Nat} (h : ∀ u v, f u = f v ↔ g u = g v) : isFst f = isFst g := by
  funext i
  unfold isFst
  rw [Bool.eq_iff_iff]
  simp only [decide_eq_true_iff]
  exact forall_congr' fun j => forall_congr' fun _ => not_congr (h j i)
theorem nrm_congr {f g : Nat → Nat} (h : ∀ u v, f u = f v ↔ g u = g v) (n : Nat) : nrm f n = nrm g n := by
  unfold nrm
  refine List.map_congr_left fun i _ => ?_
  unfold numOf fsts
  rw [isFst_congr h]
  have : (fun j => decide (f j = f i)) = fun j => decide (g j = g i) := by
    funext j
    rw [Bool.eq_iff_iff]
    simp only [decide_eq_true_iff]
    exact h j i
  rw [this]
theorem fsts_succ (f : Nat → Nat) (n : Nat) : fsts f (n + 1) = fsts f n ++ if isFst f n then [n] else [] := by
  unfold fsts
  rw [List.range_succ, List.filter_append]
  congr 1
  rw [List.filter_cons]
  split <;> rfl
theorem fsts_lt {f : Nat → Nat} {n i : Nat} (h : i ∈ fsts f n) : i < n := List.mem_range.1 (List.mem_filter.1 h).1
theorem fsts_len (f : Nat → Nat) (n : Nat) : (fsts f n).length ≤ n := by
  have := List.length_filter_le (isFst f) (List.range n)
  rw [List.length_range] at this
  exact this
/-- A new label's number is how many there were. -/
theorem numOf_new {f : Nat → Nat} {i : Nat} (h : isFst f i = true) : numOf f i = (fsts f i).length := by
  unfold numOf
  have h := of_decide_eq_true h
  have : (List.range (i + 1)).find? (fun j => decide (f j = f i)) = some i := by
    rw [List.range_succ, List.find?_append]
    have : (List.range i).find? (fun j => decide (f j = f i)) = none := by
      rw [List.find?_eq_none]
      intro j hj
      have := h j (List.mem_range.1 hj)
      simpa using this
    rw [this]
    simp
  rw [this]
  rfl
/-- A label that was met: its number is the place of its first bearer. -/
theorem numOf_old {f : Nat → Nat} {i : Nat} (h : isFst f i = false) : ∃ j, j < i ∧ isFst f j = true ∧ f j = f i ∧ numOf f i = (fsts f j).length := by
  have h := of_decide_eq_false h
  have hne : ((List.range (i + 1)).find? fun j => decide (f j = f i)).isSome := by
    rw [List.find?_isSome]
    exact ⟨i, by simp, by simp⟩
  obtain ⟨j, hj⟩ := Option.isSome_iff_exists.1 hne
  have h1 := List.find?_some hj
  have h1 : f j = f i := of_decide_eq_true h1
  have least : ∀ k, k < j → f k ≠ f i := by
    obtain ⟨_, as, bs, e, h3⟩ := List.find?_eq_some_iff_append.1 hj
    intro k hk hf
    have hj2 : j < i + 1 := List.mem_range.1 (List.mem_of_find?_eq_some hj)
    have la : as.length = j := by
      have : (List.range (i + 1))[as.length]? = some j := by rw [e]; simp
      rw [List.getElem?_range (by
        have := congrArg List.length e
        simp at this
        omega)] at this
      simpa using this
    have : k ∈ as := by
      have : (List.range (i + 1))[k]? = some k := List.getElem?_range (by omega)
      rw [e, List.getElem?_append_left (by omega)] at this
      exact List.mem_of_getElem? this
    have := h3 k this
    simp [hf] at this
  have hji : j < i := by
    have hj2 : j < i + 1 := List.mem_range.1 (List.mem_of_find?_eq_some hj)
    by_cases e : j = i
    · subst e; exact absurd least h
    · omega
  refine ⟨j, hji, decide_eq_true fun k hk e => least k hk (e.trans h1), h1, ?_⟩
  unfold numOf
  rw [hj]
  rfl
end Go.Av
