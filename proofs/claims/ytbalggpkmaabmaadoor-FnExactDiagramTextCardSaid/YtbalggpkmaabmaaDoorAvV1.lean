/-
  Diagrams: the plain side.
-/
import Derived.Test.YtbalggpkmaabmaaDoorAvW3
import Derived.Test.YtbalggpkmaabmaaDoorAvM3
namespace Go.Av
open Classical
set_option linter.unusedSimpArgs false
set_option linter.unusedVariables false
variable {P : Program} {ν : Nat → FuncId}

def nd (L : List Pr) (i : Nat) : Pr := L.getD i pr0
def nodeOk (p : Pr) : Prop := (p.1 = 0 ∧ 0 ≤ p.2 ∧ p.2 ≤ 39) ∨ (p.1 = 1 ∧ 0 ≤ p.2 ∧ p.2 ≤ 7) ∨ ((p.1 = 2 ∨ p.1 = 3) ∧ p.2 = 0)
def ar (p : Pr) : Int := if 2 ≤ p.1 then 2 else 0
/-- How many operands are still to come after k nodes. -/
def opn (L : List Pr) : Nat → Int
  | 0 => 1
  | k + 1 => opn L k - 1 + ar (nd L k)
structure IsDia (L : List Pr) : Prop where
  len : L.length ≤ 40
  ok : ∀ i, i < L.length → nodeOk (nd L i)
  pos : ∀ k, k < L.length → 0 < opn L k
  fin : opn L L.length = 0
theorem ar_cases (p : Pr) : ar p = 0 ∨ ar p = 2 := by unfold ar; split <;> simp
theorem opn_succ {L : List Pr} {k : Nat} : opn L (k + 1) = opn L k - 1 + ar (nd L k) := rfl
theorem opn_le (L : List Pr) (k : Nat) : opn L k ≤ 1 + k ∧ -(k : Int) ≤ opn L k := by
  induction k with
  | zero => simp [opn]
  | succ k ih => have := ar_cases (nd L k); rw [opn_succ]; omega
abbrev Txt := ByteArray
/-- A number below 100 in decimal. -/
def decT (n : Int) : Txt := if n < 10 then ByteArray.empty.push (UInt8.ofNat (48 + n).toNat) else ByteArray.empty.push (UInt8.ofNat (48 + n / 10).toNat) ++ ByteArray.empty.push (UInt8.ofNat (48 + n % 10).toNat)
noncomputable def par (c : Prop) (s : Txt) : Txt := if c then (⟨#[40]⟩ ++ s) ++ ⟨#[41]⟩ else s
/-- The operand from i to e with its text. -/
inductive Dgs (L : List Pr) : Nat → Nat → Txt → Prop
  | arr {i : Nat} (h : i < L.length) (k : (nd L i).1 = 0) (n0 : 0 ≤ (nd L i).2) (n1 : (nd L i).2 ≤ 39) : Dgs L i (i + 1) (⟨#[102]⟩ ++ decT (nd L i).2)
  | idn {i : Nat} (h : i < L.length) (k : (nd L i).1 = 1) (n0 : 0 ≤ (nd L i).2) (n1 : (nd L i).2 ≤ 39) : Dgs L i (i + 1) (⟨#[105]⟩ ++ decT (nd L i).2)
  | thn {i m e : Nat} {s1 s2 : Txt} (h : i < L.length) (k : (nd L i).1 = 2) (h1 : Dgs L (i + 1) m s1) (h2 : Dgs L m e s2) : Dgs L i e ((s1 ++ ⟨#[59]⟩) ++ par ((nd L m).1 = 2) s2)
  | bes {i m e : Nat} {s1 s2 : Txt} (h : i < L.length) (k : (nd L i).1 = 3) (h1 : Dgs L (i + 1) m s1) (h2 : Dgs L m e s2) : Dgs L i e ((par ((nd L (i + 1)).1 = 2) s1 ++ ⟨#[42]⟩) ++ par (2 ≤ (nd L m).1) s2)
theorem size_app (a b : Txt) : (a ++ b).size = a.size + b.size := ByteArray.size_append
theorem decT_size (n : Int) : (decT n).size ≤ 2 := by
  unfold decT
  split
  · simp [ByteArray.size_push]
  · rw [size_app]; simp [ByteArray.size_push]
theorem par_size (c : Prop) (s : Txt) : (par c s).size ≤ s.size + 2 := by
  unfold par
  split
  · rw [size_app, size_app]
    have h1 : (⟨#[40]⟩ : ByteArray).size = 1 := rfl
    have h2 : (⟨#[41]⟩ : ByteArray).size = 1 := rfl
    omega
  · omega
theorem Dgs.sz {L : List Pr} {i e : Nat} {s : Txt} (h : Dgs L i e s) : i < e ∧ e ≤ L.length ∧ s.size ≤ 8 * (e - i) ∧ i < L.length := by
  induction h with
  | arr h k n0 n1 =>
    rename_i i
    have := decT_size (nd L i).2
    have h2 : (⟨#[102]⟩ : ByteArray).size = 1 := rfl
    rw [size_app]
    omega
  | idn h k n0 n1 =>
    rename_i i
    have := decT_size (nd L i).2
    have h2 : (⟨#[105]⟩ : ByteArray).size = 1 := rfl
    rw [size_app]
    omega
  | thn h k h1 h2 i1 i2 =>
    rename_i i m e s1 s2
    have := par_size ((nd L m).1 = 2) s2
    have h3 : (⟨#[59]⟩ : ByteArray).size = 1 := rfl
    rw [size_app, size_app]
    omega
  | bes h k h1 h2 i1 i2 =>
    rename_i i m e s1 s2
    have := par_size ((nd L (i + 1)).1 = 2) s1
    have := par_size (2 ≤ (nd L m).1) s2
    have h3 : (⟨#[42]⟩ : ByteArray).size = 1 := rfl
    rw [size_app, size_app]
    omega
/-- From a place on where operands are wanted, one operand ends where one less is wanted for the first time. -/
theorem parse {L : List Pr} (ok : ∀ i, i < L.length → nodeOk (nd L i)) : ∀ (n i e : Nat), e - i ≤ n → i < e → e ≤ L.length → opn L e = opn L i - 1 → (∀ j, i ≤ j → j < e → opn L i ≤ opn L j) → ∃ s, Dgs L i e s := by
  intro n
  induction n with
  | zero => intro i e h1 h2; omega
  | succ n ih =>
    intro i e hn hie hel hend hmin
    have hi : i < L.length := by omega
    have oi := ok i hi
    have st := opn_succ (L := L) (k := i)
    rcases oi with ⟨k0, n0, n1⟩ | ⟨k1, n0, n1⟩ | ⟨k2, _⟩
    · have a0 : ar (nd L i) = 0 := by unfold ar; rw [if_neg (by omega)]
      have ee : e = i + 1 := by
        by_cases q : e = i + 1
        · exact q
        · have := hmin (i + 1) (by omega) (by omega)
          omega
      subst ee
      exact ⟨_, .arr hi k0 n0 n1⟩
    · have a0 : ar (nd L i) = 0 := by unfold ar; rw [if_neg (by omega)]
      have ee : e = i + 1 := by
        by_cases q : e = i + 1
        · exact q
        · have := hmin (i + 1) (by omega) (by omega)
          omega
      subst ee
      exact ⟨_, .idn hi k1 n0 (by omega)⟩
    · have a2 : ar (nd L i) = 2 := by unfold ar; rw [if_pos (by omega)]
      -- the first place where as many are wanted as at the start
      have ex : ∃ m, i + 1 ≤ m ∧ m < e ∧ opn L m = opn L i ∧ ∀ j, i + 1 ≤ j → j < m → opn L i + 1 ≤ opn L j := by
        have key : ∀ d, i + 1 + d ≤ e → (∀ j, i + 1 ≤ j → j < i + 1 + d → opn L i + 1 ≤ opn L j) ∨ ∃ m, i + 1 ≤ m ∧ m < i + 1 + d ∧ opn L m = opn L i ∧ ∀ j, i + 1 ≤ j → j < m → opn L i + 1 ≤ opn L j := by
          intro d
          induction d with
          | zero => intro _; exact .inl fun j h1 h2 => by omega
          | succ d ihd =>
            intro hd
            rcases ihd (by omega) with h | ⟨m, h1, h2, h3, h4⟩
            · by_cases q : opn L (i + 1 + d) = opn L i
              · exact .inr ⟨i + 1 + d, by omega, by omega, q, h⟩
              · refine .inl fun j h1 h2 => ?_
                by_cases ej : j = i + 1 + d
                · subst ej
                  have := hmin (i + 1 + d) (by omega) (by omega)
                  omega
                · exact h j h1 (by omega)
            · exact .inr ⟨m, h1, by omega, h3, h4⟩
        rcases key (e - (i + 1)) (by omega) with h | ⟨m, h1, h2, h3, h4⟩
        · exfalso
          -- the last step lowers by one at most
          have he : e = (e - 1) + 1 := by omega
          have s2 := opn_succ (L := L) (k := e - 1)
          rw [← he] at s2
          have a3 := ar_cases (nd L (e - 1))
          by_cases q : e - 1 = i
          · rw [q] at s2; omega
          · have := h (e - 1) (by omega) (by omega)
            omega
        · exact ⟨m, h1, by omega, h3, h4⟩
      obtain ⟨m, m1, m2, m3, m4⟩ := ex
      have mi : i + 1 < m := by
        by_cases q : m = i + 1
        · subst q; omega
        · omega
      obtain ⟨s1, d1⟩ := ih (i + 1) m (by omega) mi (by omega) (by omega) (fun j h1 h2 => by have := m4 j h1 h2; omega)
      obtain ⟨s2, d2⟩ := ih m e (by omega) m2 hel (by omega) (fun j h1 h2 => by have := hmin j (by omega) h2; omega)
      rcases k2 with k2 | k3
      · exact ⟨_, .thn hi k2 d1 d2⟩
      · exact ⟨_, .bes hi k3 d1 d2⟩
theorem IsDia.text {L : List Pr} (h : IsDia L) : ∃ s, Dgs L 0 L.length s := by
  have l0 : 0 < L.length := by
    have f := h.fin
    cases hl : L.length with
    | zero => rw [hl] at f; simp [opn] at f
    | succ n => omega
  have o0 : opn L 0 = 1 := rfl
  exact parse h.ok L.length 0 L.length (by omega) l0 (Nat.le_refl _) (by rw [h.fin, o0]; rfl) fun j _ hj => by have := h.pos j hj; omega
end Go.Av
