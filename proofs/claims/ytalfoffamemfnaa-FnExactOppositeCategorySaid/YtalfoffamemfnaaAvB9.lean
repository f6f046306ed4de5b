/-
  Subcategories and the arrows that some arrows generate: the program's and the reference's.
-/
import Derived.Test.YtalfoffamemfnaaAvB8
import Derived.Test.YtalfoffamemfnaaAvAA
import Derived.Test.YtalfoffamemfnaaAvK0
namespace Go.Av
open Classical
set_option linter.unusedSimpArgs false
set_option linter.unusedVariables false
variable {P : Program} {ν : Nat → FuncId}

def bools (l : List Bool) : List AV := l.map bool
theorem bools_len (l : List Bool) : (bools l).length = l.length := by simp [bools]
theorem bools_get {l : List Bool} {o : Nat} : (bools l)[o]? = if o < l.length then some (bool (l.getD o false)) else none := by
  simp only [bools, List.getElem?_map]
  by_cases h : o < l.length
  · simp [h]
  · simp [h]
theorem bools_set (l : List Bool) (p : Nat) (x : Bool) : (bools l).set p (bool x) = bools (l.set p x) := by simp [bools, List.map_set]
theorem set_true {l : List Bool} {j k : Nat} (hj : j < l.length) : (l.set j true).getD k false = true ↔ k = j ∨ l.getD k false = true := by
  simp only [List.getD_eq_getElem?_getD, List.getElem?_set]
  by_cases e : j = k
  · subst e; simp [hj]
  · simp [e]
    exact fun h => absurd h.symm e
def falses (l : List Bool) : Nat := (l.filter fun b => !b).length
theorem falses_set {l : List Bool} {j : Nat} (hj : j < l.length) (h : l.getD j false = false) : falses (l.set j true) + 1 = falses l := by
  induction l generalizing j with
  | nil => simp at hj
  | cons a l ih =>
    cases j with
    | zero => simp only [List.getD_cons_zero] at h; subst h; simp [falses]
    | succ j =>
      simp only [List.getD_cons_succ] at h
      have := ih (by simpa using hj) h
      simp only [falses] at this
      cases a <;> simp [falses, List.set_cons_succ, List.filter_cons] <;> omega
theorem getD_rep (n f : Nat) : (List.replicate n false).getD f false = false := by
  simp only [List.getD_eq_getElem?_getD, List.getElem?_replicate]
  split <;> rfl
theorem rep_bools (n : Nat) : (List.replicate n [bool false]).flatten = bools (List.replicate n false) := by
  induction n with
  | zero => rfl
  | succ n ih => simp [List.replicate_succ, ih, bools]

section
variable {C : Ct} {Φ : AV → Hp → Nat → Prop} {n : Nat} {vars : Nat → AV} {H : Hp} {nx : Nat} {Is : Nat → Inv} {r : Vc}
theorem den_mkB {x y : Opd} {m : Nat} (hx : ev vars x = int m) (hy : ev vars y = int m) (hm : m ≤ 1099511627776) (hk : den C Φ r (n + 1) (put vars n (.ms nx 0 m 1)) (hput H nx (some (bools (List.replicate m false)))) (nx + 1) Is) : den C Φ (.op true (.mks [bool false] x y) r) n vars H nx Is := by
  refine den_mks (q := (.ms nx 0 m 1, hput H nx (some (bools (List.replicate m false))), nx + 1)) ?_ hk
  rw [hx, hy]
  simp only [mkTo, int]
  rw [if_pos ⟨by omega, trivial, by omega⟩]
  rw [Int.toNat_natCast, rep_bools]; rfl
end

/-- The arrows that some arrows generate. -/
inductive Cl (c : Cat) (as : List Int) : Int → Prop
  | arr (k : Nat) : k < as.length → Cl c as (as.getD k 0)
  | src (k : Nat) : k < as.length → Cl c as (c.I (c.F (as.getD k 0)))
  | tgt (k : Nat) : k < as.length → Cl c as (c.I (c.T (as.getD k 0)))
  | comp (f g : Int) : Cl c as f → Cl c as g → c.T f = c.F g → Cl c as (c.K f g)
def Snd (c : Cat) (as : List Int) (L : List Bool) : Prop := ∀ f : Nat, L.getD f false = true → Cl c as f
def Has3 (c : Cat) (as : List Int) (L : List Bool) (i : Nat) : Prop := ∀ k, k < i → L.getD (as.getD k 0).toNat false = true ∧ L.getD (c.I (c.F (as.getD k 0))).toNat false = true ∧ L.getD (c.I (c.T (as.getD k 0))).toNat false = true
def CAt (c : Cat) (L : List Bool) (f g : Nat) : Prop := L.getD f false = true → L.getD g false = true → c.T f = c.F g → L.getD (c.K f g).toNat false = true
theorem Snd.set {c : Cat} {as : List Int} {L : List Bool} (h : Snd c as L) {x : Int} (x0 : 0 ≤ x) (x1 : x.toNat < L.length) (hx : Cl c as x) : Snd c as (L.set x.toNat true) := fun f hf => by
  rcases (set_true x1).1 hf with rfl | h'
  · rw [Int.toNat_of_nonneg x0]; exact hx
  · exact h f h'
theorem Has3.set {c : Cat} {as : List Int} {L : List Bool} {i : Nat} (h : Has3 c as L i) {j : Nat} (hj : j < L.length) : Has3 c as (L.set j true) i := fun k hk => by
  obtain ⟨h1, h2, h3⟩ := h k hk
  exact ⟨(set_true hj).2 (.inr h1), (set_true hj).2 (.inr h2), (set_true hj).2 (.inr h3)⟩
theorem Cl_of {c : Cat} (s : Shape c) {as : List Int} (hw : Wn as c.f.length) {L : List Bool} (h3 : Has3 c as L as.length) (hc : ∀ f g, f < c.f.length → g < c.f.length → CAt c L f g) : ∀ x, Cl c as x → 0 ≤ x ∧ x < c.f.length ∧ L.getD x.toNat false = true := by
  intro x hx
  have il := s.il
  induction hx with
  | arr k hk => exact ⟨(hw k hk).1, (hw k hk).2, (h3 k hk).1⟩
  | src k hk =>
    have w := hw k hk
    have a := s.fLt (a := (as.getD k 0).toNat) (by omega)
    rw [Int.toNat_of_nonneg w.1] at a
    exact ⟨(s.iLt a.1 a.2).1, (s.iLt a.1 a.2).2, (h3 k hk).2.1⟩
  | tgt k hk =>
    have w := hw k hk
    have a := s.tLt (a := (as.getD k 0).toNat) (by omega)
    rw [Int.toNat_of_nonneg w.1] at a
    exact ⟨(s.iLt a.1 a.2).1, (s.iLt a.1 a.2).2, (h3 k hk).2.2⟩
  | comp f g _ _ e i1 i2 =>
    have kp := s.kPos (a := f.toNat) (b := g.toNat) (by omega) (by omega)
    have hc' := hc f.toNat g.toNat (by omega) (by omega) i1.2.2 i2.2.2
    rw [Int.toNat_of_nonneg i1.1, Int.toNat_of_nonneg i2.1] at kp hc'
    exact ⟨(kp e).1, (kp e).2.1, hc' e⟩

/-- What was made before may be forgotten. -/
theorem IsI.low {l : List Int} {H H1 : Hp} {nx n1 : Nat} {v : AV} {H' : Hp} {nx' : Nat} (h : IsI l H1 n1 v H' nx') (hn : nx ≤ n1) (hw : Wf H nx) (hs : ∀ o, o < nx → H1 o = H o) : ∃ H'', (∀ o c, H'' o = Option.some c → H' o = Option.some c) ∧ IsI l H nx v H'' nx' := by
  have hs' : ∀ o c, H o = Option.some c → H1 o = Option.some c := fun o c hc => by
    by_cases e : o < nx
    · rw [hs o e]; exact hc
    · rw [hw o (by omega)] at hc; cases hc
  obtain ⟨h0, ⟨h1, h2, rfl⟩ | ⟨o', g1, g2, g3, rfl⟩⟩ := h
  · exact ⟨H, hs', by omega, .inl ⟨h1, h2, rfl⟩⟩
  · refine ⟨hput H o' (Option.some (ints l)), fun o c hc => ?_, by omega, .inr ⟨o', by omega, g2, g3, rfl⟩⟩
    by_cases e : o = o'
    · subst e; rw [hput_eq] at hc ⊢; exact hc
    · rw [hput_ne _ _ _ _ e] at hc ⊢; exact hs' o c hc

def clL (c : Cat) (as : List Int) (d : Int → Bool) : List Int := selL c.f.length fun f => d f

def V_spec_l02Close : Vc :=
  .op true (.p .box [.t 0]) <|
  .op true (.p (.fad 1) [.t 2]) <|
  .op true (.p (.ld none) [.t 3]) <|
  .op true (.p .len [.t 4]) <|
  .op true (.mks [bool false] (.t 5) (.t 5)) <|
  .loop 0 [.c (int 0)] <|
  .op true (.p .len [.t 1]) <|
  .op true (.p (.bin .lss) [.t 7, .t 8]) <|
  .br 9
   (.op true (.p (.iad 1) [.t 1, .t 7]) <|
   .op true (.p (.ld none) [.t 10]) <|
   .op true (.p (.iad 1) [.t 6, .t 11]) <|
   .op true (.st 1 (.t 12) (.c (bool true))) <|
   .op true (.p (.fad 3) [.t 2]) <|
   .op true (.p (.ld none) [.t 14]) <|
   .op true (.p (.fad 1) [.t 2]) <|
   .op true (.p (.ld none) [.t 16]) <|
   .op true (.p (.iad 1) [.t 1, .t 7]) <|
   .op true (.p (.ld none) [.t 18]) <|
   .op true (.p (.iad 1) [.t 17, .t 19]) <|
   .op true (.p (.ld none) [.t 20]) <|
   .op true (.p (.iad 1) [.t 15, .t 21]) <|
   .op true (.p (.ld none) [.t 22]) <|
   .op true (.p (.iad 1) [.t 6, .t 23]) <|
   .op true (.st 1 (.t 24) (.c (bool true))) <|
   .op true (.p (.fad 3) [.t 2]) <|
   .op true (.p (.ld none) [.t 26]) <|
   .op true (.p (.fad 2) [.t 2]) <|
   .op true (.p (.ld none) [.t 28]) <|
   .op true (.p (.iad 1) [.t 1, .t 7]) <|
   .op true (.p (.ld none) [.t 30]) <|
   .op true (.p (.iad 1) [.t 29, .t 31]) <|
   .op true (.p (.ld none) [.t 32]) <|
   .op true (.p (.iad 1) [.t 27, .t 33]) <|
   .op true (.p (.ld none) [.t 34]) <|
   .op true (.p (.iad 1) [.t 6, .t 35]) <|
   .op true (.st 1 (.t 36) (.c (bool true))) <|
   .op true (.p (.bin .add) [.t 7, .c (int 1)]) <|
   .again 0 [.t 38])
   (.loop 0 [.c (bool true)] <|
   .br 10
    (.loop 1 [.c (bool false), .c (int 0)] <|
    .op true (.p .len [.t 6]) <|
    .op true (.p (.bin .lss) [.t 12, .t 13]) <|
    .br 14
     (.loop 2 [.t 11, .c (int 0)] <|
     .op true (.p .len [.t 6]) <|
     .op true (.p (.bin .lss) [.t 16, .t 17]) <|
     .br 18
      (.op true (.p (.iad 1) [.t 6, .t 12]) <|
      .op true (.p (.ld none) [.t 19]) <|
      .br 20
       (.op true (.p (.iad 1) [.t 6, .t 16]) <|
       .op true (.p (.ld none) [.t 21]) <|
       .br 22
        (.op true (.p (.fad 2) [.t 2]) <|
        .op true (.p (.ld none) [.t 23]) <|
        .op true (.p (.iad 1) [.t 24, .t 12]) <|
        .op true (.p (.ld none) [.t 25]) <|
        .op true (.p (.fad 1) [.t 2]) <|
        .op true (.p (.ld none) [.t 27]) <|
        .op true (.p (.iad 1) [.t 28, .t 16]) <|
        .op true (.p (.ld none) [.t 29]) <|
        .op true (.p (.bin .eql) [.t 26, .t 30]) <|
        .br 31
         (.op true (.p (.fad 4) [.t 2]) <|
         .op true (.p (.ld none) [.t 32]) <|
         .op true (.p (.iad 1) [.t 33, .t 12]) <|
         .op true (.p (.ld none) [.t 34]) <|
         .op true (.p (.iad 1) [.t 35, .t 16]) <|
         .op true (.p (.ld none) [.t 36]) <|
         .op true (.p (.iad 1) [.t 6, .t 37]) <|
         .op true (.p (.ld none) [.t 38]) <|
         .op true (.p .bnot [.t 39]) <|
         .br 40
          (.op true (.p (.fad 4) [.t 2]) <|
          .op true (.p (.ld none) [.t 41]) <|
          .op true (.p (.iad 1) [.t 42, .t 12]) <|
          .op true (.p (.ld none) [.t 43]) <|
          .op true (.p (.iad 1) [.t 44, .t 16]) <|
          .op true (.p (.ld none) [.t 45]) <|
          .op true (.p (.iad 1) [.t 6, .t 46]) <|
          .op true (.st 1 (.t 47) (.c (bool true))) <|
          .op true (.p (.bin .add) [.t 16, .c (int 1)]) <|
          .again 2 [.c (bool true), .t 49])
          (.op true (.p (.bin .add) [.t 16, .c (int 1)]) <|
          .again 2 [.t 15, .t 41]))
         (.op true (.p (.bin .add) [.t 16, .c (int 1)]) <|
         .again 2 [.t 15, .t 32]))
        (.op true (.p (.bin .add) [.t 16, .c (int 1)]) <|
        .again 2 [.t 15, .t 23]))
       (.op true (.p (.bin .add) [.t 16, .c (int 1)]) <|
       .again 2 [.t 15, .t 21]))
      (.op true (.p (.bin .add) [.t 12, .c (int 1)]) <|
      .again 1 [.t 15, .t 19]))
     (.again 0 [.t 11]))
    (.op true (.p (.msl 0 [] []) []) <|
    .loop 0 [.t 11, .c (int 0)] <|
    .op true (.p .len [.t 6]) <|
    .op true (.p (.bin .lss) [.t 13, .t 14]) <|
    .br 15
     (.op true (.p (.iad 1) [.t 6, .t 13]) <|
     .op true (.p (.ld none) [.t 16]) <|
     .br 17
      (.op true (.p (.msl 1 [int 0] [(0, 1)]) [.t 13]) <|
      .op true (.app 1 (.t 12) (.t 18)) <|
      .op true (.p (.bin .add) [.t 13, .c (int 1)]) <|
      .again 0 [.t 19, .t 20])
      (.op true (.p (.bin .add) [.t 13, .c (int 1)]) <|
      .again 0 [.t 12, .t 18]))
     (.ret [(.t 12, none)])))
set_option maxHeartbeats 4000000 in
theorem l02Close_ok (h : Has P ν 247 2 V_spec_l02Close) (c : Cat) (s : Shape c) (as : List Int) (hl : as.length ≤ 1048576) (hw : Wn as c.f.length) (H : Hp) (nx : Nat) : OkM P ν 247 [.agg c.cells, islice as] H nx (IsI (selL c.f.length fun f => decide (Cl c as f)) H nx) := by
  refine h _ _ _ _ rfl fun hwf => ?_
  unfold V_spec_l02Close
  have n40 := s.n40
  have tl := s.tl
  have il := s.il
  have cl := s.cl
  simp only [SS, Nat.reduceEqDiff, Nat.reduceAdd, iput, puts, p_boxc, cat1]
  refine den_mkB (m := c.f.length) rfl rfl (by omega) ?_
  refine den_loop (α := Nat × List Bool) (fun a => [int a.1]) (fun a H' nx' => a.1 ≤ as.length ∧ a.2.length = c.f.length ∧ Snd c as a.2 ∧ Has3 c as a.2 a.1 ∧ H' = hput H nx (some (bools a.2)) ∧ nx' = nx + 1) (fun a => as.length - a.1) (0, List.replicate c.f.length false) rfl ⟨Nat.zero_le _, by simp, fun f hf => (by rw [getD_rep] at hf; cases hf), fun k hk => by omega, rfl, rfl⟩ ?_
  rintro ⟨i, L⟩ H' nx' ⟨hi, hL, hS, h3, rfl, rfl⟩
  simp only at hi hL hS h3
  have hLl := fun (L : List Bool) (hL : L.length = c.f.length) => (bools_len L).trans hL
  by_cases hlt : i < as.length
  · obtain ⟨w0, w1⟩ := hw i hlt
    have w2 : (as.getD i 0).toNat < c.f.length := by omega
    have a := s.fLt w2
    have b := s.tLt w2
    rw [Int.toNat_of_nonneg w0] at a b
    have a' := s.iLt a.1 a.2
    have b' := s.iLt b.1 b.2
    obtain ⟨a0, a1⟩ := a
    obtain ⟨b0, b1⟩ := b
    obtain ⟨d0, d1⟩ := a'
    obtain ⟨e0, e1⟩ := b'
    simp only [Cat.F, Cat.T, Cat.I] at a0 a1 b0 b1 d0 d1 e0 e1
    have a2 : (c.f.getD (as.getD i 0).toNat 0).toNat < c.i.length := by omega
    have b2 : (c.t.getD (as.getD i 0).toNat 0).toNat < c.i.length := by omega
    have d2 : (c.i.getD (c.f.getD (as.getD i 0).toNat 0).toNat 0).toNat < c.f.length := by omega
    have e2 : (c.i.getD (c.t.getD (as.getD i 0).toNat 0).toNat 0).toNat < c.f.length := by omega
    have hS1 := hS.set w0 (by omega) (Cl.arr i hlt)
    have hS2 := hS1.set (x := c.I (c.F (as.getD i 0))) d0 (by rw [List.length_set, hL]; exact d2) (Cl.src i hlt)
    have hS3 := hS2.set (x := c.I (c.T (as.getD i 0))) e0 (by rw [List.length_set, List.length_set, hL]; exact e2) (Cl.tgt i hlt)
    have g1 : ∀ L : List Bool, L.length = c.f.length → hput H nx (some (bools L)) nx = some (bools L) := fun L _ => hput_eq _ _ _
    simp only [SS, Nat.reduceEqDiff, Nat.reduceAdd, iput, puts, hlt, w0, w1, p_iadm (hput_eq H nx _) (hLl L hL)]
    refine den_st1 (o := nx) (p := (as.getD i 0).toNat) (m := c.f.length) (u := bool true) rfl rfl (hput_eq H nx _) (hLl L hL) w2 rfl ?_
    rw [hput_hput, bools_set]
    have hL1 : (L.set (as.getD i 0).toNat true).length = c.f.length := by simpa using hL
    simp only [SS, Nat.reduceEqDiff, Nat.reduceAdd, iput, puts, cat1, cat3, hlt, w0, w1, w2, a0, a1, a2, d0, d1, p_iadm (hput_eq H nx _) (hLl _ hL1)]
    refine den_st1 (o := nx) (p := (c.i.getD (c.f.getD (as.getD i 0).toNat 0).toNat 0).toNat) (m := c.f.length) (u := bool true) rfl rfl (hput_eq H nx _) (hLl _ hL1) d2 rfl ?_
    rw [hput_hput, bools_set]
    have hL2 : ((L.set (as.getD i 0).toNat true).set (c.i.getD (c.f.getD (as.getD i 0).toNat 0).toNat 0).toNat true).length = c.f.length := by simpa using hL
    simp only [SS, Nat.reduceEqDiff, Nat.reduceAdd, iput, puts, cat2, cat3, tl, hlt, w0, w1, w2, b0, b1, b2, e0, e1, p_iadm (hput_eq H nx _) (hLl _ hL2)]
    refine den_st1 (o := nx) (p := (c.i.getD (c.t.getD (as.getD i 0).toNat 0).toNat 0).toNat) (m := c.f.length) (u := bool true) rfl rfl (hput_eq H nx _) (hLl _ hL2) e2 rfl ?_
    rw [hput_hput, bools_set]
    simp only [SS, Nat.reduceEqDiff, Nat.reduceAdd, iput, puts, wrap_succ (show i < 9223372036854775807 by omega)]
    refine ⟨(i + 1, ((L.set (as.getD i 0).toNat true).set (c.i.getD (c.f.getD (as.getD i 0).toNat 0).toNat 0).toNat true).set (c.i.getD (c.t.getD (as.getD i 0).toNat 0).toNat 0).toNat true), rfl, ⟨by simp only; omega, by simpa using hL, hS3, fun k hk => ?_, rfl⟩, by simp only; omega⟩
    by_cases e : k = i
    · subst e
      refine ⟨(set_true (by omega)).2 (.inr ((set_true (by omega)).2 (.inr ((set_true (by omega)).2 (.inl rfl))))), (set_true (by omega)).2 (.inr ((set_true (by omega)).2 (.inl rfl))), (set_true (by omega)).2 (.inl rfl)⟩
    · exact ((h3.set (by omega)).set (by omega)).set (by omega) k (by omega)
  · have hi' : i = as.length := by omega
    subst hi'
    simp only [SS, Nat.reduceEqDiff, Nat.reduceAdd, iput, puts, hlt]
    refine den_loop (α := Bool × List Bool) (fun a => [bool a.1]) (fun a H' nx' => a.2.length = c.f.length ∧ Snd c as a.2 ∧ Has3 c as a.2 as.length ∧ (a.1 = false → ∀ f g, f < c.f.length → g < c.f.length → CAt c a.2 f g) ∧ H' = hput H nx (some (bools a.2)) ∧ nx' = nx + 1) (fun a => 2 * falses a.2 + if a.1 then 1 else 0) (true, L) rfl ⟨hL, hS, h3, fun h => by simp at h, rfl, rfl⟩ ?_
    rintro ⟨more, L⟩ H' nx' ⟨hL, hS, h3, hC, rfl, rfl⟩
    simp only at hL hS h3 hC
    cases more with
    | true =>
      simp only [SS, Nat.reduceEqDiff, Nat.reduceAdd, iput, puts]
      refine den_loop (α := Nat × Bool × List Bool) (fun a => [bool a.2.1, int a.1]) (fun a H' nx' => a.1 ≤ c.f.length ∧ a.2.2.length = c.f.length ∧ Snd c as a.2.2 ∧ Has3 c as a.2.2 as.length ∧ (a.2.1 = true → falses a.2.2 < falses L) ∧ (a.2.1 = false → a.2.2 = L ∧ ∀ f g, f < a.1 → g < c.f.length → CAt c L f g) ∧ H' = hput H nx (some (bools a.2.2)) ∧ nx' = nx + 1) (fun a => c.f.length - a.1) (0, false, L) rfl ⟨Nat.zero_le _, hL, hS, h3, fun h => by simp at h, fun _ => ⟨rfl, fun f g hf => by simp at hf⟩, rfl, rfl⟩ ?_
      rintro ⟨f, m1, L1⟩ H' nx' ⟨hf, hL1, hS1, h31, ht1, hf1, rfl, rfl⟩
      simp only at hf hL1 hS1 h31 ht1 hf1
      by_cases hlf : f < c.f.length
      · simp only [SS, Nat.reduceEqDiff, Nat.reduceAdd, iput, puts, p_lenm (hput_eq H nx _) (hLl L1 hL1), hlf]
        refine den_loop (α := Nat × Bool × List Bool) (fun a => [bool a.2.1, int a.1]) (fun a H' nx' => a.1 ≤ c.f.length ∧ a.2.2.length = c.f.length ∧ Snd c as a.2.2 ∧ Has3 c as a.2.2 as.length ∧ (a.2.1 = true → falses a.2.2 < falses L) ∧ (a.2.1 = false → a.2.2 = L ∧ (∀ f' g, f' < f → g < c.f.length → CAt c L f' g) ∧ ∀ g, g < a.1 → CAt c L f g) ∧ H' = hput H nx (some (bools a.2.2)) ∧ nx' = nx + 1) (fun a => c.f.length - a.1) (0, m1, L1) rfl ⟨Nat.zero_le _, hL1, hS1, h31, ht1, fun h => ⟨(hf1 h).1, (hf1 h).2, fun g hg => by simp at hg⟩, rfl, rfl⟩ ?_
        rintro ⟨g, m2, L2⟩ H' nx' ⟨hg, hL2, hS2, h32, ht2, hf2, rfl, rfl⟩
        simp only at hg hL2 hS2 h32 ht2 hf2
        by_cases hlg : g < c.f.length
        · have hlf2 : f < L2.length := by omega
          have hlg2 : g < L2.length := by omega
          have r1 := s.rowLen (a := f) (by omega) (by omega)
          simp only [Int.toNat_natCast] at r1
          have keep : CAt c L2 f g → ∃ a' : Nat × Bool × List Bool, [bool m2, int ((g + 1 : Nat) : Int)] = [bool a'.2.1, int a'.1] ∧ (a'.1 ≤ c.f.length ∧ a'.2.2.length = c.f.length ∧ Snd c as a'.2.2 ∧ Has3 c as a'.2.2 as.length ∧ (a'.2.1 = true → falses a'.2.2 < falses L) ∧ (a'.2.1 = false → a'.2.2 = L ∧ (∀ f' g, f' < f → g < c.f.length → CAt c L f' g) ∧ ∀ g, g < a'.1 → CAt c L f g) ∧ hput H nx (some (bools L2)) = hput H nx (some (bools a'.2.2))) ∧ c.f.length - a'.1 < c.f.length - g := fun hca =>
            ⟨(g + 1, m2, L2), rfl, ⟨by simp only; omega, hL2, hS2, h32, ht2, fun h => ⟨(hf2 h).1, (hf2 h).2.1, fun g' hg' => by
              by_cases e : g' = g
              · subst e; rw [← (hf2 h).1]; exact hca
              · exact (hf2 h).2.2 g' (by simp only at hg'; omega)⟩, rfl⟩, by simp only; omega⟩
          simp only [SS, Nat.reduceEqDiff, Nat.reduceAdd, iput, puts, p_lenm (hput_eq H nx _) (hLl L2 hL2), p_iadm (hput_eq H nx _) (hLl L2 hL2), p_ldm (hput_eq H nx _) (hLl L2 hL2), bools_get, hlf, hlg, hlf2, hlg2, cat1, cat2, cat4, cl, tl, r1, wrap_succ (show g < 9223372036854775807 by omega)]
          refine ⟨fun q1 => ⟨fun q2 => ⟨fun q3 => ?_, fun q3 => keep fun _ _ q => absurd q q3⟩, fun q2 => keep fun _ q _ => (by rw [q2] at q; cases q)⟩, fun q1 => keep fun q _ _ => (by rw [q1] at q; cases q)⟩
          obtain ⟨k0, k1, _⟩ := s.kPos hlf hlg q3
          have k2 : (c.K f g).toNat < c.f.length := by omega
          have k3 : (c.K f g).toNat < L2.length := by omega
          simp only [Cat.K, Int.toNat_natCast] at k0 k1 k2 k3
          simp only [SS, Nat.reduceEqDiff, Nat.reduceAdd, iput, puts, k0, k1, k2, k3, p_iadm (hput_eq H nx _) (hLl L2 hL2), p_ldm (hput_eq H nx _) (hLl L2 hL2), bools_get]
          refine ⟨fun q4 => ?_, fun q4 => keep fun _ _ _ => q4⟩
          refine den_st1 (o := nx) (p := ((c.c.getD f []).getD g 0).toNat) (m := c.f.length) (u := bool true) rfl rfl (hput_eq H nx _) (hLl L2 hL2) k2 rfl ?_
          rw [hput_hput, bools_set]
          simp only [SS, Nat.reduceEqDiff, Nat.reduceAdd, iput, puts, wrap_succ (show g < 9223372036854775807 by omega)]
          have hlt' := falses_set k3 (by simpa using q4)
          have hle : falses L2 ≤ falses L := by
            cases m2 with
            | true => exact Nat.le_of_lt (ht2 rfl)
            | false => rw [(hf2 rfl).1]; exact Nat.le_refl _
          refine ⟨(g + 1, true, L2.set ((c.c.getD f []).getD g 0).toNat true), rfl, ⟨by simp only; omega, by simpa using hL2, hS2.set k0 k3 ?_, h32.set k3, fun _ => by simp only; omega, fun h => by simp at h, rfl⟩, by simp only; omega⟩
          exact Cl.comp (f : Int) (g : Int) (hS2 f q1) (hS2 g q2) q3
        · simp only [SS, Nat.reduceEqDiff, Nat.reduceAdd, iput, puts, p_lenm (hput_eq H nx _) (hLl L2 hL2), hlg, wrap_succ (show f < 9223372036854775807 by omega)]
          refine ⟨(f + 1, m2, L2), rfl, ⟨by simp only; omega, hL2, hS2, h32, ht2, fun h => ⟨(hf2 h).1, fun f' g' hf' hg' => ?_⟩, rfl⟩, by simp only; omega⟩
          by_cases e : f' = f
          · subst e; exact (hf2 h).2.2 g' (by omega)
          · exact (hf2 h).2.1 f' g' (by simp only at hf'; omega) hg'
      · simp only [SS, Nat.reduceEqDiff, Nat.reduceAdd, iput, puts, p_lenm (hput_eq H nx _) (hLl L1 hL1), hlf]
        refine ⟨(m1, L1), rfl, ⟨hL1, hS1, h31, fun h f' g' hf' hg' => ?_, rfl⟩, ?_⟩
        · rw [(hf1 h).1]; exact (hf1 h).2 f' g' (by omega) hg'
        · cases m1 with
          | true => have := ht1 rfl; simp only [if_true]; omega
          | false => rw [(hf1 rfl).1]; simp
    | false =>
      have hC := hC rfl
      have hcl := Cl_of s hw h3 hC
      simp only [SS, Nat.reduceEqDiff, Nat.reduceAdd, iput, puts]
      have hsel : (selL c.f.length fun f => decide (Cl c as f)) = selL c.f.length fun f => L.getD f false := selL_congr fun k hk => by
        by_cases e : L.getD k false = true
        · rw [e]; exact decide_eq_true (hS k e)
        · rw [Bool.not_eq_true] at e
          rw [e]; exact decide_eq_false fun hcc => by have := (hcl _ hcc).2.2; rw [Int.toNat_natCast, e] at this; cases this
      rw [hsel]
      refine den_sel c.f.length (fun f => L.getD f false) (hput H nx (some (bools L))) (nx + 1) rfl (Nat.le_refl _) rfl fun i v H' nx' hi hI => ?_
      have hll := selL_len i fun f => L.getD f false
      have hold : H' nx = some (bools L) := (hI.old (Nat.lt_succ_self nx)).trans (hput_eq _ _ _)
      by_cases hlt : i < c.f.length
      · have hlt2 : i < L.length := by omega
        simp only [SS, Nat.reduceEqDiff, Nat.reduceAdd, iput, puts, p_lenm hold (hLl L hL), p_iadm hold (hLl L hL), p_ldm hold (hLl L hL), bools_get, hlt, hlt2, wrap_succ (show i < 9223372036854775807 by omega)]
        refine ⟨fun q => ?_, fun q => sel_skip rfl hlt q hI⟩
        refine den_appI (m := [(i : Int)]) (H0 := hput H nx (some (bools L))) (nx0 := nx + 1) hI rfl (by simp) (by rw [List.length_singleton]; omega) fun v2 H2 nx2 hI2 => ?_
        simp only [SS, Nat.reduceEqDiff, Nat.reduceAdd, iput, puts, wrap_succ (show i < 9223372036854775807 by omega)]
        exact sel_take rfl hlt q hI2
      · have : i = c.f.length := by omega
        subst this
        simp only [SS, Nat.reduceEqDiff, Nat.reduceAdd, iput, puts, p_lenm hold (hLl L hL), hlt]
        obtain ⟨H'', q1, q2⟩ := hI.low (H := H) (nx := nx) (by omega) hwf fun o ho => hput_ne _ _ _ _ (by omega)
        exact ⟨v, rfl, H'', q1, q2⟩
end Go.Av
