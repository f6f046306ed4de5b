/-
  A category among a statement's arguments.
-/
import Derived.Test.YtbalggpkmaabmaaDoorAvAA
import Derived.Test.YtbalggpkmaabmaaDoorAvRow
namespace Go.Av

def i64R (n : Int) : Prop := -9223372036854775808 ≤ n ∧ n ≤ 9223372036854775807
theorem Shp.ints {x : List AV} (h : Shp (.sl .int) x) : ∃ l : List Int, x = [islice l] ∧ l.length ≤ 9223372036854775807 ∧ ∀ k, k < l.length → i64R (l.getD k 0) := by
  cases h with
  | sl rs hl hr =>
    have : ∃ l : List Int, rs = l.map (fun n => [Av.int n]) ∧ ∀ n ∈ l, i64R n := by
      clear hl
      induction rs with
      | nil => exact ⟨[], rfl, fun n hn => by cases hn⟩
      | cons r rs ih =>
        obtain ⟨l, rfl, h2⟩ := ih fun r hr' => hr r (List.mem_cons_of_mem _ hr')
        have := hr r (List.mem_cons_self ..)
        cases this with
        | int n h3 h4 => exact ⟨n :: l, rfl, fun m hm => by
            rcases List.mem_cons.1 hm with rfl | hm
            · exact ⟨h3, h4⟩
            · exact h2 m hm⟩
    obtain ⟨l, rfl, h2⟩ := this
    refine ⟨l, ?_, by simpa using hl, fun k hk => h2 _ (by simp [List.getD, hk])⟩
    have e : ∀ l : List Int, (l.map fun n => [Av.int n]).flatten = Av.ints l := by
      intro l
      induction l with
      | nil => rfl
      | cons a l ih => simp only [List.map_cons, List.flatten_cons, ih]; rfl
    simp [e, islice]


theorem ShpV.int {a : AV} (h : ShpV .int a) : ∃ n : Int, a = Av.int n ∧ i64R n := by
  cases h with | one h => cases h with | int n h1 h2 => exact ⟨n, rfl, h1, h2⟩
theorem ShpV.ints {a : AV} (h : ShpV (.sl .int) a) : ∃ l : List Int, a = islice l ∧ l.length ≤ 9223372036854775807 ∧ ∀ k, k < l.length → i64R (l.getD k 0) := by
  cases h with | one h => obtain ⟨l, e, h1, h2⟩ := h.ints; cases e; exact ⟨l, rfl, h1, h2⟩



/-- The numbers of a seat's functions. -/
def seatNum (l : List (Nat × Nat)) (f : FuncId) : Option Nat := l.lookup f
def seatFn (l : List (Nat × Nat)) (id : Nat) : FuncId := ((l.find? fun p => p.2 == id).map (·.1)).getD 0
theorem seat_inv {l : List (Nat × Nat)} (h : l.all (fun p => seatFn l p.2 == p.1) = true) : ∀ f id, seatNum l f = some id → seatFn l id = f := by
  intro f id hl
  have key : ∀ (m : List (Nat × Nat)), m.lookup f = some id → (f, id) ∈ m := by
    intro m
    induction m with
    | nil => intro h; cases h
    | cons p m ih =>
      obtain ⟨a, b⟩ := p
      intro h
      simp only [List.lookup] at h
      split at h
      · rename_i e
        cases h
        have : f = a := by simpa using e
        subst this
        exact List.mem_cons_self ..
      · exact List.mem_cons_of_mem _ (ih h)
  have := List.all_eq_true.1 h _ (key l hl)
  simpa using this
theorem ListLen1 {α : Type} {l : List α} (h : l.length = 1) : ∃ a, l = [a] := List.length_eq_one_iff.1 h
end Go.Av
