/-
  Small functions on lists: composites, membership.
-/
import Derived.Test.YtalfoffamemfnaaAvD0
import Derived.Test.YtalfoffamemfnaaAvAA
import Derived.Test.YtalfoffamemfnaaAvB2
import Derived.Test.YtalfoffamemfnaaAvC5
namespace Go.Av
open Classical
set_option linter.unusedSimpArgs false
set_option linter.unusedVariables false
variable {P : Program} {ν : Nat → FuncId}

section
variable {C : Ct} {Φ : AV → Hp → Nat → Prop} {n : Nat} {vars : Nat → AV} {H : Hp} {nx : Nat} {Is : Nat → Inv} {r : Vc}
theorem den_mkI {x y : Opd} {m : Nat} (hx : ev vars x = int m) (hy : ev vars y = int m) (hm : m ≤ 1099511627776) (hk : den C Φ r (n + 1) (put vars n (.ms nx 0 m 1)) (hput H nx (some (ints (List.replicate m 0)))) (nx + 1) Is) : den C Φ (.op true (.mks [int 0] x y) r) n vars H nx Is := by
  refine den_mks (q := (.ms nx 0 m 1, hput H nx (some (ints (List.replicate m 0))), nx + 1)) ?_ hk
  rw [hx, hy]
  simp only [mkTo, int]
  rw [if_pos ⟨by omega, trivial, by omega⟩]
  rw [Int.toNat_natCast, flat1]; simp [ints, int]
end
section
variable {C : Ct} {Φ : AV → Hp → Nat → Prop} {n : Nat} {vars : Nat → AV} {H : Hp} {nx : Nat} {Is : Nat → Inv} {body : Vc} {d : Nat}
def Fll (L : List Int) (H0 : Hp) (o nx0 i : Nat) : Inv := fun us H' nx' => us = [int ((i + 1 : Nat) : Int)] ∧ i < L.length ∧ H' = hput H0 o (some (ints (L.take (i + 1) ++ List.replicate (L.length - (i + 1)) 0))) ∧ nx' = nx0
/-- A loop that fills a list. -/
theorem den_fll (L : List Int) (H0 : Hp) (o : Nat) (hH : H = hput H0 o (some (ints (List.replicate L.length 0))))
    (hr : ∀ i, i ≤ L.length → den C Φ body (n + 1) (put vars n (int (i : Int))) (hput H0 o (some (ints (L.take i ++ List.replicate (L.length - i) 0)))) nx (iput Is d (Fll L H0 o nx i))) :
    den C Φ (.loop d [.c (int 0)] body) n vars H nx Is := by
  subst hH
  refine den_loop (α := Nat) (fun i => [int i]) (fun i H' nx' => i ≤ L.length ∧ H' = hput H0 o (some (ints (L.take i ++ List.replicate (L.length - i) 0))) ∧ nx' = nx) (fun i => L.length - i) 0 rfl ⟨Nat.zero_le _, by simp, rfl⟩ ?_
  rintro i H' nx' ⟨hi, rfl, rfl⟩
  refine den_mono _ ?_ (hr i hi)
  intro j us H2 nx2 hj
  simp only [iput] at hj ⊢
  split at hj
  · rename_i e1
    rw [if_pos e1]
    obtain ⟨e2, e3, e4, e5⟩ := hj
    exact ⟨i + 1, e2, ⟨e3, e4, e5⟩, by omega⟩
  · rename_i e1; rw [if_neg e1]; exact hj
theorem fll_store {L : List Int} {H0 : Hp} {o nx0 i : Nat} {a : Int} (ha : a = ((i + 1 : Nat) : Int)) (hi : i < L.length) : Fll L H0 o nx0 i [int a] (hput (hput H0 o (some (ints (L.take i ++ List.replicate (L.length - i) 0)))) o (some ((ints (L.take i ++ List.replicate (L.length - i) 0)).set i (int (L.getD i 0))))) nx0 := by
  subst ha
  refine ⟨rfl, hi, ?_, rfl⟩
  rw [hput_hput, ints_set, fill_succ hi]
theorem fll_len {L : List Int} {i : Nat} (hi : i ≤ L.length) : (ints (L.take i ++ List.replicate (L.length - i) 0)).length = L.length := by simp [ints]; omega
theorem IsMk_frz {l : List Int} {H : Hp} {nx : Nat} {r : AV} {H' : Hp} {nx' : Nat} (h : IsMk l H nx r H' nx') : frzN H' fuel r = some (islice l) := by
  obtain ⟨rfl, rfl, rfl⟩ := h
  exact frzN_ms (hput_eq _ _ _) _

def Mpl (l : List Int) (q : Int → Int) (H0 : Hp) (nx0 i : Nat) : Inv := fun us H' nx' => ∃ v, us = [v, int ((i + 1 : Nat) : Int)] ∧ i < l.length ∧ IsI ((l.take (i + 1)).map q) H0 nx0 v H' nx'
/-- A loop over a list that appends an image of each element. -/
theorem den_mpl {x : Opd} (l : List Int) (q : Int → Int) (H0 : Hp) (nx0 : Nat) (hx : ev vars x = .nil) (h0 : nx0 ≤ nx) (hH : H = H0)
    (hr : ∀ i v H' nx', i ≤ l.length → IsI ((l.take i).map q) H0 nx0 v H' nx' → den C Φ body (n + 2) (put (put vars n v) (n + 1) (int (i : Int))) H' nx' (iput Is d (Mpl l q H0 nx0 i))) :
    den C Φ (.loop d [x, .c (int 0)] body) n vars H nx Is := by
  subst hH
  refine den_loop (α := Nat × AV) (fun a => [a.2, int a.1]) (fun a H' nx' => a.1 ≤ l.length ∧ IsI ((l.take a.1).map q) H nx0 a.2 H' nx') (fun a => l.length - a.1) (0, .nil) ?_ ⟨Nat.zero_le _, h0, .inl ⟨rfl, rfl, rfl⟩⟩ ?_
  · simp only [List.map_cons, List.map_nil, hx]; rfl
  · rintro ⟨i, v⟩ H' nx' ⟨hi, hI⟩
    refine den_mono _ ?_ (hr i v H' nx' hi hI)
    intro j us H2 nx2 hj
    simp only [iput] at hj ⊢
    split at hj
    · rename_i e1
      rw [if_pos e1]
      obtain ⟨v', e2, e3, e4⟩ := hj
      exact ⟨(i + 1, v'), e2, ⟨e3, e4⟩, by simp only; omega⟩
    · rename_i e1; rw [if_neg e1]; exact hj
theorem mpl_take {l : List Int} {q : Int → Int} {H0 : Hp} {nx0 i : Nat} {v : AV} {H' : Hp} {nx' : Nat} {a : Int} (ha : a = ((i + 1 : Nat) : Int)) (hi : i < l.length) (hI : IsI ((l.take i).map q ++ [q (l.getD i 0)]) H0 nx0 v H' nx') : Mpl l q H0 nx0 i [v, int a] H' nx' := by
  subst ha
  refine ⟨v, rfl, hi, ?_⟩
  have : l.take (i + 1) = l.take i ++ [l.getD i 0] := by rw [List.take_succ_eq_append_getElem hi]; simp [hi]
  rw [this, List.map_append]
  exact hI
end
theorem getD_map {l : List Int} {q : Int → Int} {i : Nat} (h : i < l.length) : (l.map q).getD i 0 = q (l.getD i 0) := by simp [h]

def V_then : Vc :=
  .op true (.p .len [.t 0]) <|
  .op true (.mks [int 0] (.t 2) (.t 2)) <|
  .op true (.p .len [.t 0]) <|
  .loop 0 [.c (int 0)] <|
  .op true (.p (.bin .lss) [.t 5, .t 4]) <|
  .br 6
   (.op true (.p (.iad 1) [.t 0, .t 5]) <|
   .op true (.p (.ld none) [.t 7]) <|
   .op true (.p (.iad 1) [.t 1, .t 8]) <|
   .op true (.p (.ld none) [.t 9]) <|
   .op true (.p (.iad 1) [.t 3, .t 5]) <|
   .op true (.st 1 (.t 11) (.t 10)) <|
   .op true (.p (.bin .add) [.t 5, .c (int 1)]) <|
   .again 0 [.t 13])
   (.ret [(.t 3, none)])
theorem thn_fz (h : Has P ν 412 2 V_then) (f g : List Int) (hl : f.length ≤ 1048576) (hg : ∀ i, i < f.length → In g (f.getD i 0)) : Fz (OkM P ν) 412 [islice f, islice g] (islice (f.map (gI g))) := by
  refine OkM.fz (Ψ := fun H nx => IsMk (f.map (gI g)) H nx) (fun H nx => h _ _ _ _ rfl fun hwf => ?_) fun _ _ _ => IsMk_frz
  unfold V_then
  have hL : (f.map (gI g)).length = f.length := by simp
  try simp (disch := (first | rfl | with_reducible assumption | with_reducible solve_by_elim (maxDepth := 8) [Shape.inT, Shape.inI, Shape.inC, Shape.inK, Shape.obF, Shape.obT, Shape.arI, Arr.inF] | omega)) only [S2, Nat.reduceEqDiff, Nat.reduceAdd, iput, puts]
  refine den_mkI (m := f.length) rfl rfl (by omega) ?_
  try simp (disch := (first | rfl | with_reducible assumption | with_reducible solve_by_elim (maxDepth := 8) [Shape.inT, Shape.inI, Shape.inC, Shape.inK, Shape.obF, Shape.obT, Shape.arI, Arr.inF] | omega)) only [S2, Nat.reduceEqDiff, Nat.reduceAdd, iput, puts]
  refine den_fll (f.map (gI g)) H nx (by rw [hL]) fun i hi => ?_
  rw [hL] at hi
  by_cases hlt : i < f.length
  · have a1 := hg i hlt
    have i1 : In f (i : Int) := In.nat hlt
    have hll := fll_len (L := f.map (gI g)) (i := i) (by omega)
    try simp (disch := (first | rfl | with_reducible assumption | with_reducible solve_by_elim (maxDepth := 8) [Shape.inT, Shape.inI, Shape.inC, Shape.inK, Shape.obF, Shape.obT, Shape.arI, Arr.inF] | omega)) only [S2, Nat.reduceEqDiff, Nat.reduceAdd, iput, puts, hlt, gI_nat]
    have h0 : (0 : Int) ≤ i := by omega
    simp only [S2, p_iadm (hput_eq H nx _) (hll.trans hL), h0, hlt, true_and, if_true, Nat.reduceEqDiff, Int.ofNat_lt, and_self]
    refine den_st1 (o := nx) (p := i) (m := f.length) (u := int ((f.map (gI g)).getD i 0)) rfl (by rw [getD_map hlt]; rfl) (hput_eq H nx _) (hll.trans hL) hlt rfl ?_
    try simp (disch := (first | rfl | with_reducible assumption | with_reducible solve_by_elim (maxDepth := 8) [Shape.inT, Shape.inI, Shape.inC, Shape.inK, Shape.obF, Shape.obT, Shape.arI, Arr.inF] | omega)) only [S2, Nat.reduceEqDiff, Nat.reduceAdd, iput, puts]
    exact fll_store rfl (by omega)
  · try simp (disch := (first | rfl | with_reducible assumption | with_reducible solve_by_elim (maxDepth := 8) [Shape.inT, Shape.inI, Shape.inC, Shape.inK, Shape.obF, Shape.obT, Shape.arI, Arr.inF] | omega)) only [S2, Nat.reduceEqDiff, Nat.reduceAdd, iput, puts, hlt]
    refine ⟨_, rfl, _, fun _ _ h => h, by rw [hL]; rfl, ?_, rfl⟩
    rw [List.take_of_length_le (by omega), show (f.map (gI g)).length - i = 0 by omega]
    simp

def V_spec_l01Then : Vc :=
  .op true (.p (.msl 0 [] []) []) <|
  .loop 0 [.t 2, .c (int 0)] <|
  .op true (.p .len [.t 0]) <|
  .op true (.p (.bin .lss) [.t 4, .t 5]) <|
  .br 6
   (.op true (.p (.iad 1) [.t 0, .t 4]) <|
   .op true (.p (.ld none) [.t 7]) <|
   .op true (.p (.iad 1) [.t 1, .t 8]) <|
   .op true (.p (.ld none) [.t 9]) <|
   .op true (.p (.msl 1 [int 0] [(0, 1)]) [.t 10]) <|
   .op true (.app 1 (.t 3) (.t 11)) <|
   .op true (.p (.bin .add) [.t 4, .c (int 1)]) <|
   .again 0 [.t 12, .t 13])
   (.ret [(.t 3, none)])
theorem l01Then_fz (h : Has P ν 411 2 V_spec_l01Then) (f g : List Int) (hl : f.length ≤ 1048576) (hg : ∀ i, i < f.length → In g (f.getD i 0)) : Fz (OkM P ν) 411 [islice f, islice g] (islice (f.map (gI g))) := by
  refine OkM.fz (Ψ := fun H nx => IsI (f.map (gI g)) H nx) (fun H nx => h _ _ _ _ rfl fun hwf => ?_) fun _ _ _ hh => hh.frz _
  unfold V_spec_l01Then
  try simp (disch := (first | rfl | with_reducible assumption | with_reducible solve_by_elim (maxDepth := 8) [Shape.inT, Shape.inI, Shape.inC, Shape.inK, Shape.obF, Shape.obT, Shape.arI, Arr.inF] | omega)) only [S2, Nat.reduceEqDiff, Nat.reduceAdd, iput, puts]
  refine den_mpl f (gI g) H nx rfl (Nat.le_refl _) rfl fun i v H' nx' hi hI => ?_
  by_cases hlt : i < f.length
  · have a1 := hg i hlt
    have i1 : In f (i : Int) := In.nat hlt
    try simp (disch := (first | rfl | with_reducible assumption | with_reducible solve_by_elim (maxDepth := 8) [Shape.inT, Shape.inI, Shape.inC, Shape.inK, Shape.obF, Shape.obT, Shape.arI, Arr.inF] | omega)) only [S2, Nat.reduceEqDiff, Nat.reduceAdd, iput, puts, hlt, gI_nat]
    refine den_appI (l := (f.take i).map (gI g)) (m := [gI g (f.getD i 0)]) (H0 := H) (nx0 := nx) hI rfl (by simp) (by simp; omega) fun v2 H2 n2 hI2 => ?_
    try simp (disch := (first | rfl | with_reducible assumption | with_reducible solve_by_elim (maxDepth := 8) [Shape.inT, Shape.inI, Shape.inC, Shape.inK, Shape.obF, Shape.obT, Shape.arI, Arr.inF] | omega)) only [S2, Nat.reduceEqDiff, Nat.reduceAdd, iput, puts]
    exact mpl_take rfl hlt hI2
  · try simp (disch := (first | rfl | with_reducible assumption | with_reducible solve_by_elim (maxDepth := 8) [Shape.inT, Shape.inI, Shape.inC, Shape.inK, Shape.obF, Shape.obT, Shape.arI, Arr.inF] | omega)) only [S2, Nat.reduceEqDiff, Nat.reduceAdd, iput, puts, hlt]
    have : i = f.length := by omega
    subst this
    rw [List.take_length] at hI
    exact ⟨_, rfl, _, fun _ _ h => h, hI⟩

def V_has : Vc :=
  .op true (.p .len [.t 0]) <|
  .loop 0 [.c (int 0)] <|
  .op true (.p (.bin .lss) [.t 3, .t 2]) <|
  .br 4
   (.op true (.p (.iad 1) [.t 0, .t 3]) <|
   .op true (.p (.ld none) [.t 5]) <|
   .op true (.p (.bin .eql) [.t 6, .t 1]) <|
   .br 7
    (.ret [(.c (bool true), none)])
    (.op true (.p (.bin .add) [.t 3, .c (int 1)]) <|
    .again 0 [.t 8]))
   (.ret [(.c (bool false), none)])
theorem has_fz (h : Has P ν 413 2 V_has) (l : List Int) (x : Int) (hl : l.length < 9223372036854775807) : Fz (OkM P ν) 413 [islice l, int x] (bool (decide (x ∈ l))) := by
  refine Fn.fzb fun H nx => h _ _ _ _ rfl fun hwf => ?_
  unfold V_has
  try simp (disch := (first | rfl | with_reducible assumption | with_reducible solve_by_elim (maxDepth := 8) [Shape.inT, Shape.inI, Shape.inC, Shape.inK, Shape.obF, Shape.obT, Shape.arI, Arr.inF] | omega)) only [S2, Nat.reduceEqDiff, Nat.reduceAdd, iput, puts]
  refine den_for l.length (fun i => ∀ k, k < i → l.getD k 0 ≠ x) (fun k hk => by omega) fun i hi hp => ?_
  by_cases hlt : i < l.length
  · have i1 : In l (i : Int) := In.nat hlt
    try simp (disch := (first | rfl | with_reducible assumption | with_reducible solve_by_elim (maxDepth := 8) [Shape.inT, Shape.inI, Shape.inC, Shape.inK, Shape.obF, Shape.obT, Shape.arI, Arr.inF] | omega)) only [S2, Nat.reduceEqDiff, Nat.reduceAdd, iput, puts, hlt, gI_nat]
    refine ⟨fun h1 => ?_, fun h1 => up rfl hlt fun k hk => ?_⟩
    · exact ⟨_, rfl, H, fun _ _ h => h, ret_true (h1 ▸ getD_mem hlt), rfl, Nat.le_refl _⟩
    · by_cases e : k = i
      · subst e; exact h1
      · exact hp k (by omega)
  · try simp (disch := (first | rfl | with_reducible assumption | with_reducible solve_by_elim (maxDepth := 8) [Shape.inT, Shape.inI, Shape.inC, Shape.inK, Shape.obF, Shape.obT, Shape.arI, Arr.inF] | omega)) only [S2, Nat.reduceEqDiff, Nat.reduceAdd, iput, puts, hlt]
    refine ⟨_, rfl, H, fun _ _ h => h, ret_false fun hm => ?_, rfl, Nat.le_refl _⟩
    obtain ⟨k, hk, e⟩ := List.getElem_of_mem hm
    exact hp k (by omega) (by simp [hk, e])
end Go.Av
