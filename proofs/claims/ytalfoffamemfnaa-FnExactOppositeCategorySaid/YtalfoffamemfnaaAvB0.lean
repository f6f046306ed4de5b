/-
  Loops that select and filter; error codes; pairs of results.
-/
import Derived.Test.YtalfoffamemfnaaAvAA
namespace Go.Av
open Classical
set_option linter.unusedSimpArgs false
set_option linter.unusedVariables false
variable {P : Program} {ν : Nat → FuncId}

section loops
variable {C : Ct} {Φ : AV → Hp → Nat → Prop} {n : Nat} {vars : Nat → AV} {H : Hp} {nx : Nat} {Is : Nat → Inv} {body : Vc} {d : Nat}
def Sel (N : Nat) (p : Nat → Bool) (H0 : Hp) (nx0 i : Nat) : Inv := fun us H' nx' => ∃ v, us = [v, int ((i + 1 : Nat) : Int)] ∧ i < N ∧ IsI (selL (i + 1) p) H0 nx0 v H' nx'
/-- A loop over 0 .. N-1 that appends the numbers which meet p. -/
theorem den_sel {x : Opd} (N : Nat) (p : Nat → Bool) (H0 : Hp) (nx0 : Nat) (hx : ev vars x = .nil) (h0 : nx0 ≤ nx) (hH : H = H0)
    (hr : ∀ i v H' nx', i ≤ N → IsI (selL i p) H0 nx0 v H' nx' → den C Φ body (n + 2) (put (put vars n v) (n + 1) (int (i : Int))) H' nx' (iput Is d (Sel N p H0 nx0 i))) :
    den C Φ (.loop d [x, .c (int 0)] body) n vars H nx Is := by
  subst hH
  refine den_loop (α := Nat × AV) (fun a => [a.2, int a.1]) (fun a H' nx' => a.1 ≤ N ∧ IsI (selL a.1 p) H nx0 a.2 H' nx') (fun a => N - a.1) (0, .nil) ?_ ⟨Nat.zero_le _, h0, .inl ⟨rfl, rfl, rfl⟩⟩ ?_
  · simp only [List.map_cons, List.map_nil, hx]; rfl
  · rintro ⟨i, v⟩ H' nx' ⟨hi, hI⟩
    have := hr i v H' nx' hi hI
    have e : iput Is d (Sel N p H nx0 i) = iput Is d fun us H'' nx'' => ∃ v', us = [v', int ((i + 1 : Nat) : Int)] ∧ i < N ∧ IsI (selL (i + 1) p) H nx0 v' H'' nx'' := rfl
    refine den_mono _ ?_ this
    intro j us H2 nx2 hj
    simp only [iput] at hj ⊢
    split at hj
    · rename_i e1
      rw [if_pos e1]
      obtain ⟨v', e2, e3, e4⟩ := hj
      exact ⟨(i + 1, v'), e2, ⟨e3, e4⟩, by simp only; omega⟩
    · rename_i e1; rw [if_neg e1]; exact hj
theorem sel_skip {N : Nat} {p : Nat → Bool} {H0 : Hp} {nx0 i : Nat} {v : AV} {H' : Hp} {nx' : Nat} {a : Int} (ha : a = ((i + 1 : Nat) : Int)) (hi : i < N) (hp : p i = false) (hI : IsI (selL i p) H0 nx0 v H' nx') : Sel N p H0 nx0 i [v, int a] H' nx' := by
  subst ha
  refine ⟨v, rfl, hi, ?_⟩
  rw [selL_succ, hp]
  simpa using hI
theorem sel_take {N : Nat} {p : Nat → Bool} {H0 : Hp} {nx0 i : Nat} {v : AV} {H' : Hp} {nx' : Nat} {a : Int} (ha : a = ((i + 1 : Nat) : Int)) (hi : i < N) (hp : p i = true) (hI : IsI (selL i p ++ [(i : Int)]) H0 nx0 v H' nx') : Sel N p H0 nx0 i [v, int a] H' nx' := by
  subst ha
  refine ⟨v, rfl, hi, ?_⟩
  rw [selL_succ, hp]
  simpa using hI

def Fil (l : List Int) (q : Int → Bool) (H0 : Hp) (nx0 i : Nat) : Inv := fun us H' nx' => ∃ v, us = [v, int ((i + 1 : Nat) : Int)] ∧ i < l.length ∧ IsI ((l.take (i + 1)).filter q) H0 nx0 v H' nx'
/-- A loop over a list that appends the elements which meet q. -/
theorem den_fil {x : Opd} (l : List Int) (q : Int → Bool) (H0 : Hp) (nx0 : Nat) (hx : ev vars x = .nil) (h0 : nx0 ≤ nx) (hH : H = H0)
    (hr : ∀ i v H' nx', i ≤ l.length → IsI ((l.take i).filter q) H0 nx0 v H' nx' → den C Φ body (n + 2) (put (put vars n v) (n + 1) (int (i : Int))) H' nx' (iput Is d (Fil l q H0 nx0 i))) :
    den C Φ (.loop d [x, .c (int 0)] body) n vars H nx Is := by
  subst hH
  refine den_loop (α := Nat × AV) (fun a => [a.2, int a.1]) (fun a H' nx' => a.1 ≤ l.length ∧ IsI ((l.take a.1).filter q) H nx0 a.2 H' nx') (fun a => l.length - a.1) (0, .nil) ?_ ⟨Nat.zero_le _, h0, .inl ⟨rfl, rfl, rfl⟩⟩ ?_
  · simp only [List.map_cons, List.map_nil, hx]; rfl
  · rintro ⟨i, v⟩ H' nx' ⟨hi, hI⟩
    refine den_mono _ ?_ (hr i v H' nx' hi hI)
    intro j us H2 nx2 hj
    simp only [iput] at hj ⊢
    split at hj
    · rename_i e1
      rw [if_pos e1]
      obtain ⟨v', e2, e3, e4⟩ := hj
      exact ⟨(i + 1, v'), e2, ⟨e3, e4⟩, by simp only; omega⟩
    · rename_i e1; rw [if_neg e1]; exact hj
theorem fil_skip {l : List Int} {q : Int → Bool} {H0 : Hp} {nx0 i : Nat} {v : AV} {H' : Hp} {nx' : Nat} {a : Int} (ha : a = ((i + 1 : Nat) : Int)) (hi : i < l.length) (hp : q (l.getD i 0) = false) (hI : IsI ((l.take i).filter q) H0 nx0 v H' nx') : Fil l q H0 nx0 i [v, int a] H' nx' := by
  subst ha
  refine ⟨v, rfl, hi, ?_⟩
  rw [take_filter hi, hp]
  simpa using hI
theorem fil_take {l : List Int} {q : Int → Bool} {H0 : Hp} {nx0 i : Nat} {v : AV} {H' : Hp} {nx' : Nat} {a : Int} (ha : a = ((i + 1 : Nat) : Int)) (hi : i < l.length) (hp : q (l.getD i 0) = true) (hI : IsI ((l.take i).filter q ++ [l.getD i 0]) H0 nx0 v H' nx') : Fil l q H0 nx0 i [v, int a] H' nx' := by
  subst ha
  refine ⟨v, rfl, hi, ?_⟩
  rw [take_filter hi, hp]
  simpa using hI
end loops

/-- The error of a category and of what else is asked. -/
def code (a b : Prop) [Decidable a] [Decidable b] : Int := if a then if b then 0 else 2 else 1
theorem code_zero {a b : Prop} [Decidable a] [Decidable b] : code a b = 0 ↔ a ∧ b := by
  unfold code; by_cases h1 : a <;> by_cases h2 : b <;> simp [h1, h2]
theorem code_congr {a b b' : Prop} [Decidable a] [Decidable b] [Decidable b'] (h : b ↔ b') : code a b = code a b' := by
  unfold code; by_cases h1 : a <;> by_cases h2 : b <;> by_cases h3 : b' <;> simp_all
theorem code_range {a b : Prop} [Decidable a] [Decidable b] : 0 ≤ code a b ∧ code a b ≤ 2 := by
  unfold code; by_cases h1 : a <;> by_cases h2 : b <;> simp [h1, h2]

theorem p_msl2 {H : Hp} {a b : Int} : pvf H (.msl 2 [int 0, int 0] [(0, 1), (1, 1)]) [int a, int b] = some (islice [a, b]) := rfl
theorem p_msl3 {H : Hp} {a b c : Int} : pvf H (.msl 3 [int 0, int 0, int 0] [(0, 1), (1, 1), (2, 1)]) [int a, int b, int c] = some (islice [a, b, c]) := rfl
theorem p_msl4 {H : Hp} {a b c d : Int} : pvf H (.msl 4 [int 0, int 0, int 0, int 0] [(0, 1), (1, 1), (2, 1), (3, 1)]) [int a, int b, int c, int d] = some (islice [a, b, c, d]) := rfl

def Arr (c : Cat) (f : Int) : Prop := 0 ≤ f ∧ f < c.f.length
theorem Arr.nat {c : Cat} {f : Int} (h : Arr c f) : f.toNat < c.f.length ∧ ((f.toNat : Nat) : Int) = f := ⟨by have := h.1; have := h.2; omega, by have := h.1; omega⟩
theorem Wn1 (c : Cat) (f : Int) : Wn [f] c.f.length ↔ Arr c f := Wn_one f _
theorem Wn_cons (f : Int) (l : List Int) (n : Int) : Wn (f :: l) n ↔ (0 ≤ f ∧ f < n) ∧ Wn l n := by
  constructor
  · intro h; exact ⟨h 0 (by simp), fun k hk => by have := h (k + 1) (by simpa using hk); simpa using this⟩
  · intro h k hk
    cases k with
    | zero => exact h.1
    | succ k => have := h.2 k (by simpa using hk); simpa using this
theorem Wn_nil (n : Int) : Wn [] n := fun k hk => by simp at hk
theorem Wn2 (c : Cat) (f g : Int) : Wn [f, g] c.f.length ↔ Arr c f ∧ Arr c g := by rw [Wn_cons, Wn_one]; exact Iff.rfl
theorem Wn4 (c : Cat) (f g h k : Int) : Wn [f, g, h, k] c.f.length ↔ Arr c f ∧ Arr c g ∧ Arr c h ∧ Arr c k := by rw [Wn_cons, Wn_cons, Wn_cons, Wn_one]; exact Iff.rfl
theorem arrowCode_fz (K : HCat P ν) (h : Has P ν 18 2 V_arrowCode) (c : Cat) (b : Small c) (l : List Int) (hl : l.length ≤ 1048576) {R : Prop} [Decidable R] (hR : Wn l c.f.length ↔ R) : Fz (OkM P ν) 18 [.ptr c.cells 0, islice l] (int (code (IsCat c) R)) := by
  have := (arrowCode_ok K h c b l hl).fzi
  rw [show (if IsCat c then if Wn l ↑c.f.length then (0 : Int) else 2 else 1) = code (IsCat c) R from (code_congr hR : code (IsCat c) (Wn l ↑c.f.length) = code (IsCat c) R)] at this
  exact this
theorem l05Code_fz (K : HSpec P ν) (ha : Has P ν 23 2 V_spec_l05Arrow) (h : Has P ν 14 2 V_spec_l05Code) (c : Cat) (b : Small c) (f : Int) : Fz (OkM P ν) 14 [.agg c.cells, int f] (int (code (IsCat c) (Arr c f))) := by
  have := (l05Code_ok K ha h c b f).fzi
  rw [show (if IsCat c then if 0 ≤ f ∧ f < (c.f.length : Int) then (0 : Int) else 2 else 1) = code (IsCat c) (Arr c f) from (code_congr Iff.rfl : code (IsCat c) (0 ≤ f ∧ f < (c.f.length : Int)) = code (IsCat c) (Arr c f))] at this
  exact this

def V_spec_l05Two : Vc :=
  .op true (.p .box [.t 0]) <|
  .op true (.p (.ld (some 5)) [.t 3]) <|
  .op true (.call (.f 22) [.t 4]) <|
  .op true (.p .bnot [.t 5]) <|
  .br 6
   (.ret [(.c (int 1), none)])
   (.op true (.p (.ld (some 5)) [.t 3]) <|
   .op true (.call (.f 23) [.t 7, .t 1]) <|
   .op true (.p .bnot [.t 8]) <|
   .br 9
    (.ret [(.c (int 2), none)])
    (.op true (.p (.ld (some 5)) [.t 3]) <|
    .op true (.call (.f 23) [.t 10, .t 2]) <|
    .op true (.p .bnot [.t 11]) <|
    .br 12
     (.ret [(.c (int 2), none)])
     (.ret [(.c (int 0), none)])))
theorem l05Two_fz (K : HSpec P ν) (ha : Has P ν 23 2 V_spec_l05Arrow) (h : Has P ν 235 3 V_spec_l05Two) (c : Cat) (b : Small c) (f g : Int) : Fz (OkM P ν) 235 [.agg c.cells, int f, int g] (int (code (IsCat c) (Arr c f ∧ Arr c g))) := by
  refine Fn.fzi fun H nx => h _ _ _ _ rfl fun hwf => ?_
  unfold V_spec_l05Two
  simp only [SS, Nat.reduceEqDiff, Nat.reduceAdd, iput, puts, p_boxc, p_ldc]
  refine den_call (fc := (22, [])) rfl (by first | (simp only [SS, Nat.reduceEqDiff, Nat.reduceAdd, iput, puts, FF, frzL_cat]; done) | (simp only [SS, Nat.reduceEqDiff, Nat.reduceAdd, iput, puts, FF, frzL_cat]; rfl)) ((l02Is_ok K c b).fzb) ?_
  simp only [SS, Nat.reduceEqDiff, Nat.reduceAdd, iput, puts, p_ldc]
  refine ⟨fun h1 => ?_, fun h1 => ?_⟩
  · exact ⟨_, rfl, H, fun _ _ h => h, by rw [code, if_neg h1]; rfl, rfl, Nat.le_refl _⟩
  refine den_call (fc := (23, [])) rfl (by first | (simp only [SS, Nat.reduceEqDiff, Nat.reduceAdd, iput, puts, FF, frzL_cat]; done) | (simp only [SS, Nat.reduceEqDiff, Nat.reduceAdd, iput, puts, FF, frzL_cat]; rfl)) ((l05Arrow_ok ha c f).fzb) ?_
  simp only [SS, Nat.reduceEqDiff, Nat.reduceAdd, iput, puts, p_ldc]
  refine ⟨fun h2 => ?_, fun h2 => ?_⟩
  · exact ⟨_, rfl, H, fun _ _ h => h, by rw [code, if_pos h1, if_neg (fun h => h2 h.1)]; rfl, rfl, Nat.le_refl _⟩
  refine den_call (fc := (23, [])) rfl (by first | (simp only [SS, Nat.reduceEqDiff, Nat.reduceAdd, iput, puts, FF, frzL_cat]; done) | (simp only [SS, Nat.reduceEqDiff, Nat.reduceAdd, iput, puts, FF, frzL_cat]; rfl)) ((l05Arrow_ok ha c g).fzb) ?_
  simp only [SS, Nat.reduceEqDiff, Nat.reduceAdd, iput, puts]
  refine ⟨fun h3 => ?_, fun h3 => ?_⟩
  · exact ⟨_, rfl, H, fun _ _ h => h, by rw [code, if_pos h1, if_neg (fun h => h3 h.2)]; rfl, rfl, Nat.le_refl _⟩
  · exact ⟨_, rfl, H, fun _ _ h => h, by rw [code, if_pos h1, if_pos ⟨h2, h3⟩]; rfl, rfl, Nat.le_refl _⟩

/-- What two functions have in common that answer a list and a code. -/
def BothP (P : Program) (ν : Nat → FuncId) (i j : Nat) (args : List AV) : Prop :=
  ∃ (l : List Int) (k : Int), l.length ≤ 2097152 ∧ (∀ H nx, OkM P ν i args H nx (IsP l k H nx)) ∧ ∀ H nx, OkM P ν j args H nx (IsP l k H nx)
end Go.Av
