/-
  The least subcategory by a queue: the queue in memory, what one addition does.
-/
import Derived.Test.YtalfoffamemfnaaAvB9
import Derived.Test.YtalfoffamemfnaaAvD3
namespace Go.Av
open Classical
set_option linter.unusedSimpArgs false
set_option linter.unusedVariables false
variable {P : Program} {ν : Nat → FuncId}

/-- Is something new to be marked? -/
noncomputable def addB (L : List Bool) (y : Int) : Prop := 0 ≤ y ∧ L.getD y.toNat false = false
noncomputable def addL (L : List Bool) (y : Int) : List Bool := if addB L y then L.set y.toNat true else L
noncomputable def addQ (L : List Bool) (Q : List Nat) (y : Int) : List Nat := if addB L y then Q ++ [y.toNat] else Q
def Mk (L : List Bool) (y : Int) : Prop := L.getD y.toNat false = true
/-- Marked, and no longer in the queue. -/
def Dn (L : List Bool) (Q : List Nat) (f : Nat) : Prop := L.getD f false = true ∧ f ∉ Q

theorem mk_lt {L : List Bool} {f : Nat} (h : L.getD f false = true) : f < L.length := by
  rcases Nat.lt_or_ge f L.length with h' | h'
  · exact h'
  · rw [List.getD_eq_getElem?_getD, List.getElem?_eq_none h'] at h; cases h
theorem addL_len {L : List Bool} {y : Int} : (addL L y).length = L.length := by unfold addL; split <;> simp
section
variable {L : List Bool} {Q : List Nat} {y : Int} {f : Nat} (hy : y < L.length)
include hy
theorem mk_add (h : L.getD f false = true) : (addL L y).getD f false = true := by
  unfold addL
  split
  · rename_i a; exact (set_true (by have := a.1; omega)).2 (.inr h)
  · exact h
theorem Mk.add {z : Int} (h : Mk L z) : Mk (addL L y) z := mk_add hy h
theorem mk_new (h0 : 0 ≤ y) : Mk (addL L y) y := by
  unfold Mk addL
  split
  · exact (set_true (by omega)).2 (.inl rfl)
  · rename_i a
    by_cases e : L.getD y.toNat false = true
    · exact e
    · exact absurd ⟨h0, by simpa using e⟩ a
theorem dn_add : Dn (addL L y) (addQ L Q y) f ↔ Dn L Q f := by
  unfold Dn addL addQ
  split
  · rename_i a
    rw [set_true (by have := a.1; omega), List.mem_append, List.mem_singleton]
    constructor
    · rintro ⟨h1 | h1, h2⟩
      · exact absurd (.inr h1) h2
      · exact ⟨h1, fun h => h2 (.inl h)⟩
    · rintro ⟨h1, h2⟩
      refine ⟨.inr h1, fun h => ?_⟩
      rcases h with h | h
      · exact h2 h
      · subst h; rw [a.2] at h1; cases h1
  · rfl
theorem mu_add : (addQ L Q y).length + 2 * falses (addL L y) ≤ Q.length + 2 * falses L ∧ (addQ L Q y).length + falses (addL L y) = Q.length + falses L := by
  unfold addL addQ
  split
  · rename_i a
    have := falses_set (l := L) (j := y.toNat) (by have := a.1; omega) a.2
    simp only [List.length_append, List.length_singleton]
    omega
  · omega
end

/-- What holds all along. -/
structure GI (c : Cat) (as : List Int) (L : List Bool) (Q : List Nat) : Prop where
  len : L.length = c.f.length
  snd : Snd c as L
  q : ∀ x ∈ Q, L.getD x false = true
  cnt : Q.length + falses L ≤ c.f.length
theorem GI.add {c : Cat} {as : List Int} {L : List Bool} {Q : List Nat} (g : GI c as L Q) {y : Int} (hy : y < c.f.length) (hc : 0 ≤ y → Cl c as y) : GI c as (addL L y) (addQ L Q y) := by
  have hy' : y < L.length := by rw [g.len]; exact hy
  refine ⟨addL_len.trans g.len, ?_, ?_, by have := (mu_add (Q := Q) hy').2; have := g.cnt; omega⟩
  · unfold addL
    split
    · rename_i a; exact g.snd.set a.1 (by have := a.1; omega) (hc a.1)
    · exact g.snd
  · intro x hx
    unfold addQ at hx
    split at hx
    · rcases List.mem_append.1 hx with h | h
      · exact mk_add hy' (g.q x h)
      · rename_i a
        rw [List.mem_singleton] at h
        subst h
        exact mk_new hy' a.1
    · exact mk_add hy' (g.q x hx)
/-- Closed, as far as the queue has been worked off. -/
structure GC (c : Cat) (L : List Bool) (Q : List Nat) : Prop where
  un : ∀ f : Nat, Dn L Q f → Mk L (c.I (c.F f)) ∧ Mk L (c.I (c.T f))
  cl : ∀ f g : Nat, Dn L Q f → Dn L Q g → c.T f = c.F g → Mk L (c.K f g)
/-- The same while arrow x is worked off. -/
structure GW (c : Cat) (L : List Bool) (Q : List Nat) (x : Nat) : Prop where
  un : ∀ f : Nat, Dn L Q f → f ≠ x → Mk L (c.I (c.F f)) ∧ Mk L (c.I (c.T f))
  cl : ∀ f g : Nat, Dn L Q f → Dn L Q g → f ≠ x → g ≠ x → c.T f = c.F g → Mk L (c.K f g)
def GP (c : Cat) (L : List Bool) (Q : List Nat) (x i : Nat) : Prop := ∀ g : Nat, g < i → Dn L Q g → (c.T x = c.F g → Mk L (c.K x g)) ∧ (c.T g = c.F x → Mk L (c.K g x))
section
variable {c : Cat} {L : List Bool} {Q : List Nat} {x i : Nat} {y : Int}
theorem GC.pop (h : GC c L (x :: Q)) : GW c L Q x := by
  have d : ∀ f, Dn L Q f → f ≠ x → Dn L (x :: Q) f := fun f hf hn => ⟨hf.1, fun h => (List.mem_cons.1 h).elim hn hf.2⟩
  exact ⟨fun f hf hn => h.un f (d f hf hn), fun f g hf hg h1 h2 => h.cl f g (d f hf h1) (d g hg h2)⟩
theorem GC.add (h : GC c L Q) (hy : y < L.length) : GC c (addL L y) (addQ L Q y) :=
  ⟨fun f hf => ⟨((h.un f ((dn_add hy).1 hf)).1).add hy, ((h.un f ((dn_add hy).1 hf)).2).add hy⟩, fun f g hf hg e => (h.cl f g ((dn_add hy).1 hf) ((dn_add hy).1 hg) e).add hy⟩
theorem GW.add (h : GW c L Q x) (hy : y < L.length) : GW c (addL L y) (addQ L Q y) x :=
  ⟨fun f hf hn => ⟨((h.un f ((dn_add hy).1 hf) hn).1).add hy, ((h.un f ((dn_add hy).1 hf) hn).2).add hy⟩, fun f g hf hg h1 h2 e => (h.cl f g ((dn_add hy).1 hf) ((dn_add hy).1 hg) h1 h2 e).add hy⟩
theorem GP.add (h : GP c L Q x i) (hy : y < L.length) : GP c (addL L y) (addQ L Q y) x i :=
  fun g hg hd => ⟨fun e => ((h g hg ((dn_add hy).1 hd)).1 e).add hy, fun e => ((h g hg ((dn_add hy).1 hd)).2 e).add hy⟩
theorem GW.done (h : GW c L Q x) (h1 : Mk L (c.I (c.F x))) (h2 : Mk L (c.I (c.T x))) (hp : GP c L Q x L.length) : GC c L Q := by
  refine ⟨fun f hf => ?_, fun f g hf hg e => ?_⟩
  · by_cases ef : f = x
    · subst ef; exact ⟨h1, h2⟩
    · exact h.un f hf ef
  · by_cases ef : f = x
    · subst ef; exact (hp g (mk_lt hg.1) hg).1 e
    · by_cases eg : g = x
      · subst eg; exact (hp f (mk_lt hf.1) hf).2 e
      · exact h.cl f g hf hg ef eg e
end

theorem Cl.arr' {c : Cat} (s : Shape c) {as : List Int} (hw : Wn as c.f.length) {x : Int} (h : Cl c as x) : Arr c x := by
  induction h with
  | arr k hk => exact hw k hk
  | src k hk => exact s.arI (s.obF (hw k hk))
  | tgt k hk => exact s.arI (s.obT (hw k hk))
  | comp f g _ _ e i1 i2 => exact s.arK i1 i2 e
theorem Cl.unit {c : Cat} (s : Shape c) {as : List Int} (hw : Wn as c.f.length) {x : Int} (h : Cl c as x) : Cl c as (c.I (c.F x)) ∧ Cl c as (c.I (c.T x)) := by
  induction h with
  | arr k hk => exact ⟨.src k hk, .tgt k hk⟩
  | src k hk => rw [s.idF (s.obF (hw k hk)), s.idT (s.obF (hw k hk))]; exact ⟨.src k hk, .src k hk⟩
  | tgt k hk => rw [s.idF (s.obT (hw k hk)), s.idT (s.obT (hw k hk))]; exact ⟨.tgt k hk, .tgt k hk⟩
  | comp f g hf hg e i1 i2 => rw [s.kF (hf.arr' s hw) (hg.arr' s hw) e, s.kT (hf.arr' s hw) (hg.arr' s hw) e]; exact ⟨i1.1, i2.2⟩

/-- At the end: the marks are what is generated. -/
theorem GC.fin {c : Cat} (s : Shape c) {as : List Int} (hw : Wn as c.f.length) {L : List Bool} (g : GI c as L []) (h : GC c L []) (ha : ∀ k, k < as.length → Mk L (as.getD k 0)) :
    (selL c.f.length fun f => decide (Cl c as f)) = selL c.f.length fun f => L.getD f false := by
  have dn : ∀ f : Nat, L.getD f false = true → Dn L [] f := fun f hf => ⟨hf, by simp⟩
  have h3 : Has3 c as L as.length := fun k hk => by
    have w := hw k hk
    have hm := ha k hk
    have hu := h.un _ (dn _ hm)
    rw [Int.toNat_of_nonneg w.1] at hu
    exact ⟨hm, hu.1, hu.2⟩
  have hcl := Cl_of s hw h3 fun f g' hf hg' h1 h2 e => h.cl f g' (dn f h1) (dn g' h2) e
  refine selL_congr fun k hk => ?_
  by_cases e : L.getD k false = true
  · rw [e]; exact decide_eq_true (g.snd k e)
  · rw [Bool.not_eq_true] at e
    rw [e]; exact decide_eq_false fun hcc => by have := (hcl _ hcc).2.2; rw [Int.toNat_natCast, e] at this; cases this

/-- The queue in memory. -/
def nats (Q : List Nat) : List AV := Q.map fun (k : Nat) => int (k : Int)
def TV (H : Hp) (lo hi : Nat) (tv : AV) (Q : List Nat) : Prop :=
  (tv = .nil ∧ Q = []) ∨ ∃ o off cells, tv = .ms o off Q.length 1 ∧ lo ≤ o ∧ o < hi ∧ H o = some cells ∧ off + Q.length = cells.length ∧ cells.drop off = nats Q
theorem TV.mono {H H' : Hp} {lo hi hi' : Nat} {tv : AV} {Q : List Nat} (h : TV H lo hi tv Q) (hh : hi ≤ hi') (he : ∀ o, lo ≤ o → o < hi → H' o = H o) : TV H' lo hi' tv Q := by
  rcases h with h | ⟨o, off, cells, h1, h2, h3, h4, h5, h6⟩
  · exact .inl h
  · exact .inr ⟨o, off, cells, h1, h2, by omega, (he o h2 h3).trans h4, h5, h6⟩
theorem TV.plen {H : Hp} {lo hi : Nat} {tv : AV} {Q : List Nat} (h : TV H lo hi tv Q) : pvf H .len [tv] = some (int Q.length) := by
  rcases h with ⟨rfl, rfl⟩ | ⟨o, off, cells, rfl, h2, h3, h4, h5, h6⟩
  · rfl
  · simp [pvf, pLen, h4, h5, int]

structure Gn (H0 : Hp) (nx n : Nat) (L : List Bool) (Q : List Nat) (H : Hp) (hi : Nat) : Prop where
  ll : L.length = n
  r : H nx = some (bools L)
  a : H (nx + 1) = some [.ms nx 0 n 1]
  b : ∃ tv, H (nx + 2) = some [tv] ∧ TV H (nx + 3) hi tv Q
  hi : nx + 3 ≤ hi
  old : ∀ o, o < nx → H o = H0 o

theorem p_ld1 {H : Hp} {o : Nat} {u : AV} (h : H o = some [u]) : pvf H (.ld none) [.mp o 0 1] = some u := by simp [pvf, pLd, h]

def V_Category_generated_1 : Vc :=
  .op true (.p (.bin .geq) [.t 0, .c (int 0)]) <|
  .br 3
   (.op true (.p (.ld none) [.t 1]) <|
   .op true (.p (.iad 1) [.t 4, .t 0]) <|
   .op true (.p (.ld none) [.t 5]) <|
   .op true (.p .bnot [.t 6]) <|
   .br 7
    (.op true (.p (.ld none) [.t 1]) <|
    .op true (.p (.iad 1) [.t 8, .t 0]) <|
    .op true (.st 1 (.t 9) (.c (bool true))) <|
    .op true (.p (.ld none) [.t 2]) <|
    .op true (.p (.msl 1 [int 0] [(0, 1)]) [.t 0]) <|
    .op true (.alt (.app 1) [.t 11, .t 12]) <|
    .op true (.st 1 (.t 2) (.t 13)) <|
    .ret [])
    (.ret []))
   (.ret [])
set_option maxHeartbeats 1000000 in
theorem add_ok (h : Has P ν 389 3 V_Category_generated_1) {H0 : Hp} {nx n : Nat} {L : List Bool} {Q : List Nat} {H : Hp} {hi : Nat} (g : Gn H0 nx n L Q H hi) (y : Int) (hy : y < n) (hq : Q.length < 1000) :
    OkM P ν 389 [int y, .mp (nx + 1) 0 1, .mp (nx + 2) 0 1] H hi (fun u H' hi' => u = .tup [] ∧ Gn H0 nx n (addL L y) (addQ L Q y) H' hi') := by
  refine h _ _ _ _ rfl fun hwf => ?_
  unfold V_Category_generated_1
  have no : ¬ addB L y → (.tup [] = (.tup [] : AV) ∧ Gn H0 nx n (addL L y) (addQ L Q y) H hi) := fun hn => ⟨rfl, by unfold addL addQ; rw [if_neg hn, if_neg hn]; exact g⟩
  obtain ⟨ll, hr, ha, ⟨tv, hb, ht⟩, hhi, old⟩ := g
  have bl : (bools L).length = n := (bools_len L).trans ll
  simp only [SS, Nat.reduceEqDiff, Nat.reduceAdd, iput, puts]
  refine ⟨fun q0 => ?_, fun q0 => ⟨_, rfl, H, fun _ _ h => h, no fun h => q0 h.1⟩⟩
  have hyn : y.toNat < L.length := by omega
  simp only [SS, Nat.reduceEqDiff, Nat.reduceAdd, iput, puts, p_ld1 ha, p_iadm hr bl, p_ldm hr bl, bools_get, q0, hy, hyn]
  refine ⟨fun q1 => ?_, fun q1 => ⟨_, rfl, H, fun _ _ h => h, no fun h => by rw [h.2] at q1; cases q1⟩⟩
  have q1' : L.getD y.toNat false = false := by simpa using q1
  have hA : addB L y := ⟨q0, q1'⟩
  refine den_st1G (o := nx) (p := y.toNat) (m := n) (u := bool true) rfl rfl hr bl (by omega) rfl fun H1 r1 e1 => ?_
  rw [bools_set] at r1
  have hb1 := (e1 (nx + 2) (by omega)).trans hb
  have ht1 := ht.mono (Nat.le_refl _) fun o h1 h2 => e1 o (by omega)
  simp only [SS, Nat.reduceEqDiff, Nat.reduceAdd, iput, puts, p_ld1 hb1]
  have fin : ∀ (tv' : AV) (H2 : Hp) (hi' : Nat), hi ≤ hi' → (∀ o, o < nx + 3 → H2 o = H1 o) → TV H2 (nx + 3) hi' tv' (Q ++ [y.toNat]) → ∀ H3 : Hp, H3 (nx + 2) = some [tv'] → (∀ j, j ≠ nx + 2 → H3 j = H2 j) → Gn H0 nx n (addL L y) (addQ L Q y) H3 hi' := by
    intro tv' H2 hi' h1 h2 h3 H3 h4 h5
    unfold addL addQ
    rw [if_pos hA, if_pos hA]
    exact ⟨by simp [ll], by rw [h5 _ (by omega), h2 _ (by omega)]; exact r1, by rw [h5 _ (by omega), h2 _ (by omega), e1 _ (by omega)]; exact ha, ⟨tv', h4, h3.mono (Nat.le_refl _) fun o h6 h7 => h5 o (by omega)⟩, by omega, fun o ho => by rw [h5 _ (by omega), h2 _ (by omega), e1 _ (by omega)]; exact old o ho⟩
  have hcell : ([int y] : List AV) = [int ((y.toNat : Nat) : Int)] := by rw [Int.toNat_of_nonneg q0]
  rcases ht1 with ⟨rfl, rfl⟩ | ⟨o, off, cells, rfl, h2, h3, h4, h5, h6⟩
  · refine den_alt (l := [(.ms hi 0 1 1, hput H1 hi (some [int y]), hi + 1)]) (by rfl) (by simp) fun q hq => ?_
    rw [List.mem_singleton] at hq
    subst hq
    simp only
    have hb2 : hput H1 hi (some [int y]) (nx + 2) = some [.nil] := by rw [hput_ne _ _ _ _ (by omega)]; exact hb1
    refine den_st1G (o := nx + 2) (p := 0) (m := 1) (u := .ms hi 0 1 1) rfl rfl hb2 rfl (by omega) rfl fun H3 r3 e3 => ?_
    refine ⟨_, rfl, H3, fun _ _ h => h, rfl, fin _ _ (hi + 1) (by omega) (fun o ho => hput_ne _ _ _ _ (by omega)) (.inr ⟨hi, 0, [int y], rfl, by omega, by omega, hput_eq _ _ _, rfl, hcell⟩) H3 r3 e3⟩
  · have hal : altTo ⟨put (put (put (put (put (put (put (put (put (put (env0 [int y, .mp (nx + 1) 0 1, .mp (nx + 2) 0 1]) 3 (bool true)) 4 (.ms nx 0 n 1)) 5 (.mp nx y.toNat n)) 6 (bool false)) 7 (bool true)) 8 (.ms nx 0 n 1)) 9 (.mp nx y.toNat n)) 10 (.v undef)) 11 (.ms o off Q.length 1)) 12 (islice [y]), H1, hi⟩ (.app 1) [.ms o off Q.length 1, islice [y]] =
        some [(.ms o off (Q.length + 1) 1, hput H1 o (some (cells ++ [int y])), hi), (.ms hi 0 (Q.length + 1) 1, hput H1 hi (some (cells.drop off ++ [int y])), hi + 1)] := by
      simp only [altTo, appCells, islice, ints, List.map_cons, List.map_nil, List.length_cons, List.length_nil, h4, Nat.mul_one, if_true, h5]
      rw [if_pos ⟨by rfl, by omega⟩, if_pos ⟨trivial, by unfold appMax; omega⟩]
    refine den_alt hal (by simp) fun q hq => ?_
    simp only [List.mem_cons, List.not_mem_nil, or_false] at hq
    have hne : o ≠ nx + 2 := by omega
    have hbo : ∀ (k : Nat) (d : Option (List AV)), k ≠ nx + 2 → hput H1 k d (nx + 2) = some [.ms o off Q.length 1] := fun k d hk => by rw [hput_ne _ _ _ _ (Ne.symm hk)]; exact hb1
    rcases hq with rfl | rfl
    · simp only
      refine den_st1G (o := nx + 2) (p := 0) (m := 1) (u := .ms o off (Q.length + 1) 1) rfl rfl (hbo o _ hne) rfl (by omega) rfl fun H3 r3 e3 => ?_
      refine ⟨_, rfl, H3, fun _ _ h => h, rfl, fin _ _ hi (Nat.le_refl _) (fun j hj => hput_ne _ _ _ _ (by omega)) (.inr ⟨o, off, cells ++ [int y], by simp, by omega, by omega, hput_eq _ _ _, by simp; omega, ?_⟩) H3 r3 e3⟩
      rw [List.drop_append_of_le_length (by omega), h6, hcell]; simp [nats]
    · simp only
      refine den_st1G (o := nx + 2) (p := 0) (m := 1) (u := .ms hi 0 (Q.length + 1) 1) rfl rfl (hbo hi _ (by omega)) rfl (by omega) rfl fun H3 r3 e3 => ?_
      refine ⟨_, rfl, H3, fun _ _ h => h, rfl, fin _ _ (hi + 1) (by omega) (fun j hj => hput_ne _ _ _ _ (by omega)) (.inr ⟨hi, 0, cells.drop off ++ [int y], by simp, by omega, by omega, hput_eq _ _ _, by simp; omega, ?_⟩) H3 r3 e3⟩
      rw [List.drop_zero, h6, hcell]; simp [nats]
end Go.Av
