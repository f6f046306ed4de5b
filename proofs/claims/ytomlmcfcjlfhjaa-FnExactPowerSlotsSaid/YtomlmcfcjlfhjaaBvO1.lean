/-
  A category among a statement's arguments.
-/
import Derived.Test.YtomlmcfcjlfhjaaBvAA
import Derived.Test.YtomlmcfcjlfhjaaBvRow
namespace Go.Av
set_option linter.unusedSectionVars false
set_option linter.unusedSimpArgs false
set_option linter.unusedVariables false
variable [md : Md]

def i64R (n : Int) : Prop := -9223372036854775808 ≤ n ∧ n ≤ 9223372036854775807
theorem Shp.ints {x : List AV} (h : Shp (.sl .int) x) : ∃ l : List Int, x = [islice l] ∧ l.length ≤ 9223372036854775807 ∧ ∀ k, k < l.length → i64R (l.getD k 0) := by
  cases h with
  | sl rs hl hr =>
    have : ∃ l : List Int, rs = l.map (fun n => [Av.int n]) ∧ ∀ n ∈ l, i64R n := by
      clear hl
      induction rs with
      | nil => exact ⟨[], rfl, fun n hn => by cases hn⟩
      | cons r rs ih =>
        obtain ⟨l, rfl, h2⟩ := ih fun r hr' => hr r (List.mem_cons_of_mem _ hr')
        have := hr r (List.mem_cons_self ..)
        cases this with
        | int n h3 h4 => exact ⟨n :: l, rfl, fun m hm => by
            rcases List.mem_cons.1 hm with rfl | hm
            · exact ⟨h3, h4⟩
            · exact h2 m hm⟩
    obtain ⟨l, rfl, h2⟩ := this
    refine ⟨l, ?_, by simpa using hl, fun k hk => h2 _ (by simp [List.getD, hk])⟩
    have e : ∀ l : List Int, (l.map fun n => [Av.int n]).flatten = Av.ints l := by
      intro l
      induction l with
      | nil => rfl
      | cons a l ih => simp only [List.map_cons, List.flatten_cons, ih]; rfl
    simp [e, islice]
theorem Shp.intRows {x : List AV} (h : Shp (.sl (.sl .int)) x) : ∃ m : List (List Int), x = [.sl (rows m) m.length] ∧ m.length ≤ 9223372036854775807 ∧ ∀ k, k < m.length → (m.getD k []).length ≤ 9223372036854775807 := by
  cases h with
  | sl rs hl hr =>
    have : ∃ m : List (List Int), rs = m.map (fun l => [islice l]) ∧ ∀ l ∈ m, l.length ≤ 9223372036854775807 := by
      clear hl
      induction rs with
      | nil => exact ⟨[], rfl, fun n hn => by cases hn⟩
      | cons r rs ih =>
        obtain ⟨m, rfl, h2⟩ := ih fun r hr' => hr r (List.mem_cons_of_mem _ hr')
        obtain ⟨l, rfl, h3, _⟩ := (hr r (List.mem_cons_self ..)).ints
        exact ⟨l :: m, rfl, fun n hn => by
          rcases List.mem_cons.1 hn with rfl | hn
          · exact h3
          · exact h2 n hn⟩
    obtain ⟨m, rfl, h2⟩ := this
    refine ⟨m, ?_, by simpa using hl, fun k hk => h2 _ (by simp [List.getD, hk])⟩
    have e : ∀ m : List (List Int), (m.map fun l => [islice l]).flatten = rows m := by
      intro l
      induction l with
      | nil => rfl
      | cons a l ih => simp only [List.map_cons, List.flatten_cons, ih]; rfl
    simp [e]


def catTy : Ty := .pair .int (.pair (.sl .int) (.pair (.sl .int) (.pair (.sl .int) (.pair (.sl (.sl .int)) .unit))))
theorem Shp.cat {x : List AV} (h : Shp catTy x) : ∃ c : Cat, x = c.cells ∧ Read c ∧ i64R c.o := by
  cases h with | pair h1 h =>
  cases h with | pair h2 h =>
  cases h with | pair h3 h =>
  cases h with | pair h4 h =>
  cases h with | pair h5 h =>
  cases h
  cases h1 with | int o o1 o2 =>
  obtain ⟨f, rfl, f1, _⟩ := h2.ints
  obtain ⟨t, rfl, t1, _⟩ := h3.ints
  obtain ⟨i, rfl, i1, _⟩ := h4.ints
  obtain ⟨m, rfl, m1, m2⟩ := h5.intRows
  exact ⟨⟨o, f, t, i, m⟩, rfl, ⟨f1, t1, i1, m1, m2⟩, o1, o2⟩
theorem ShpV.cat {a : AV} (h : ShpV catTy a) : ∃ c : Cat, a = .agg c.cells ∧ Read c ∧ i64R c.o := by
  cases h with
  | agg h => obtain ⟨c, rfl, h2⟩ := Shp.cat h; exact ⟨c, rfl, h2⟩
  | one h => have := h.len; simp [catTy, Ty.size] at this
theorem ShpV.int {a : AV} (h : ShpV .int a) : ∃ n : Int, a = Av.int n ∧ i64R n := by
  cases h with | one h => cases h with | int n h1 h2 => exact ⟨n, rfl, h1, h2⟩
theorem ShpV.ints {a : AV} (h : ShpV (.sl .int) a) : ∃ l : List Int, a = islice l ∧ l.length ≤ 9223372036854775807 ∧ ∀ k, k < l.length → i64R (l.getD k 0) := by
  cases h with | one h => obtain ⟨l, e, h1, h2⟩ := h.ints; cases e; exact ⟨l, rfl, h1, h2⟩

theorem ShpV.intRows {a : AV} (h : ShpV (.sl (.sl .int)) a) : ∃ M : List (List Int), a = .sl (rows M) M.length ∧ M.length ≤ 9223372036854775807 ∧ ∀ k, k < M.length → (M.getD k []).length ≤ 9223372036854775807 := by
  cases h with | one h => obtain ⟨l, e, h1, h2⟩ := h.intRows; cases e; exact ⟨l, rfl, h1, h2⟩


/-- The numbers of a seat's functions. -/
def seatNum (l : List (Nat × Nat)) (f : FuncId) : Option Nat := l.lookup f
def seatFn (l : List (Nat × Nat)) (id : Nat) : FuncId := ((l.find? fun p => p.2 == id).map (·.1)).getD 0
theorem seat_inv {l : List (Nat × Nat)} (h : l.all (fun p => seatFn l p.2 == p.1) = true) : ∀ f id, seatNum l f = some id → seatFn l id = f := by
  intro f id hl
  have key : ∀ (m : List (Nat × Nat)), m.lookup f = some id → (f, id) ∈ m := by
    intro m
    induction m with
    | nil => intro h; cases h
    | cons p m ih =>
      obtain ⟨a, b⟩ := p
      intro h
      simp only [List.lookup] at h
      split at h
      · rename_i e
        cases h
        have : f = a := by simpa using e
        subst this
        exact List.mem_cons_self ..
      · exact List.mem_cons_of_mem _ (ih h)
  have := List.all_eq_true.1 h _ (key l hl)
  simpa using this
theorem ListLen2 {α : Type} {l : List α} (h : l.length = 2) : ∃ a b, l = [a, b] := by
  match l, h with | [a, b], _ => exact ⟨a, b, rfl⟩
end Go.Av
