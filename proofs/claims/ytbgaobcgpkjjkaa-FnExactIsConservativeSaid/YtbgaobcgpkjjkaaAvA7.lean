/-
  The statements' own helpers: copies, marks.
-/
import Derived.Test.YtbgaobcgpkjjkaaAvA6
import Derived.Test.YtbgaobcgpkjjkaaAvA5
namespace Go.Av
open Classical
set_option linter.unusedSimpArgs false
set_option linter.unusedVariables false
variable {P : Program} {ν : Nat → FuncId}

theorem flat1 {α : Type} (n : Nat) (a : α) : (List.replicate n [a]).flatten = List.replicate n a := by
  induction n with
  | zero => rfl
  | succ n ih => simp [List.replicate_succ, ih]
theorem hput_eq (H : Hp) (o : Nat) (c : Option (List AV)) : hput H o c o = c := by simp [hput]
theorem hput_ne (H : Hp) (o k : Nat) (c : Option (List AV)) (h : k ≠ o) : hput H o c k = H k := by simp [hput, h]

section
variable {H : Hp} {o n : Nat} {i : Int}
theorem p_iadm {c : List AV} (h : H o = some c) (hl : c.length = n) : pvf H (.iad 1) [.ms o 0 n 1, int i] = if 0 ≤ i ∧ i < n then some (.mp o i.toNat n) else none := by
  simp [pvf, pIad, h, int, hl]
theorem p_lenm {c : List AV} (h : H o = some c) (hl : c.length = n) : pvf H .len [.ms o 0 n 1] = some (int n) := by
  simp [pvf, pLen, h, int, hl]
theorem p_ldm {c : List AV} {p : Nat} (h : H o = some c) (hl : c.length = n) : pvf H (.ld none) [.mp o p n] = c[p]? := by
  simp [pvf, pLd, h, hl]
end
section
variable {C : Ct} {Φ : AV → Hp → Nat → Prop} {n : Nat} {vars : Nat → AV} {H : Hp} {nx : Nat} {Is : Nat → Inv} {r : Vc}
/-- A store of one cell into an object. -/
theorem den_st1 {x y : Opd} {o p m : Nat} {c : List AV} {u : AV} (hx : ev vars x = .mp o p m) (hy : ev vars y = u) (ho : H o = some c) (hl : c.length = m) (hp : p < m) (h1 : u.one = true) (hk : den C Φ r (n + 1) (put vars n (.v undef)) (hput H o (some (c.set p u))) nx Is) :
    den C Φ (.op true (.st 1 x y) r) n vars H nx Is := by
  refine den_st (h := hput H o (some (c.set p u))) ?_ hk
  have hc : u.cells = [u] := by cases u <;> first | rfl | (simp [AV.one] at h1)
  rw [hx, hy]
  simp only [stTo, ho, hl, hc, List.length_cons, List.length_nil, Nat.zero_add, List.all_cons, List.all_nil, h1, Bool.and_true]
  rw [if_pos ⟨trivial, trivial, hp, trivial⟩, List.set_eq_take_append_cons_drop, if_pos (by omega)]
  simp
end
theorem ints_set (l : List Int) (p : Nat) (x : Int) : (ints l).set p (int x) = ints (l.set p x) := by simp [ints, List.map_set]

def IsMk (l : List Int) (H : Hp) (nx : Nat) (r : AV) (H' : Hp) (nx' : Nat) : Prop := r = .ms nx 0 l.length 1 ∧ H' = hput H nx (some (ints l)) ∧ nx' = nx + 1

theorem fill_succ {l : List Int} {i : Nat} (h : i < l.length) : (l.take i ++ List.replicate (l.length - i) 0).set i (l.getD i 0) = l.take (i + 1) ++ List.replicate (l.length - (i + 1)) 0 := by
  refine List.ext_getElem (by simp; omega) fun k h1 h2 => ?_
  simp only [List.getElem_set, List.getElem_append, List.length_take, List.getElem_take, List.getElem_replicate]
  by_cases e1 : i = k
  · subst e1
    simp [h]
    omega
  · by_cases e2 : k < i
    · rw [if_neg e1, dif_pos (by omega), dif_pos (by omega)]
    · rw [if_neg e1, dif_neg (by omega), dif_neg (by omega)]

def V_laws_toInt64S : Vc :=
  .op true (.p .len [.t 0]) <|
  .op true (.mks [int 0] (.t 1) (.t 1)) <|
  .loop 0 [.c (int 0)] <|
  .op true (.p .len [.t 0]) <|
  .op true (.p (.bin .lss) [.t 3, .t 4]) <|
  .br 5
   (.op true (.p (.iad 1) [.t 0, .t 3]) <|
   .op true (.p (.ld none) [.t 6]) <|
   .op true (.p (.iad 1) [.t 2, .t 3]) <|
   .op true (.st 1 (.t 8) (.t 7)) <|
   .op true (.p (.bin .add) [.t 3, .c (int 1)]) <|
   .again 0 [.t 10])
   (.ret [(.t 2, none)])
theorem toI_ok (h : Has P ν 16 1 V_laws_toInt64S) (l : List Int) (hl : l.length ≤ 1048576) (H : Hp) (nx : Nat) : OkM P ν 16 [islice l] H nx (IsMk l H nx) := by
  refine h _ _ _ _ rfl fun hwf => ?_
  unfold V_laws_toInt64S
  simp only [SS, Nat.reduceEqDiff, Nat.reduceAdd, iput, puts]
  refine den_mks (q := (.ms nx 0 l.length 1, hput H nx (some (ints (l.take 0 ++ List.replicate (l.length - 0) 0))), nx + 1)) ?_ ?_
  · simp only [SS, Nat.reduceEqDiff, Nat.reduceAdd, iput, puts, mkTo, int]
    rw [if_pos (by omega), flat1]
    simp [ints, int]
  refine den_loop (α := Nat) (fun i => [int i]) (fun i H' nx' => i ≤ l.length ∧ H' = hput H nx (some (ints (l.take i ++ List.replicate (l.length - i) 0))) ∧ nx' = nx + 1) (fun i => l.length - i) 0 rfl ⟨Nat.zero_le _, rfl, rfl⟩ ?_
  rintro i H' nx' ⟨hi, e1, e2⟩
  subst e1; subst e2
  by_cases hlt : i < l.length
  · have hll : (ints (l.take i ++ List.replicate (l.length - i) 0)).length = l.length := by simp [ints]; omega
    simp only [SS, Nat.reduceEqDiff, Nat.reduceAdd, iput, puts, hlt, p_iadm (hput_eq H nx _) hll, not_true_eq_false]
    refine den_st1 (o := nx) (p := i) (m := l.length) (u := int (l.getD i 0)) rfl rfl (hput_eq H nx _) hll hlt rfl ?_
    simp only [SS, Nat.reduceEqDiff, Nat.reduceAdd, iput, puts, hput_hput, ints_set, fill_succ hlt, wrap_succ (show i < 9223372036854775807 by omega)]
    exact ⟨i + 1, rfl, ⟨by omega, rfl⟩, by omega⟩
  · simp only [SS, Nat.reduceEqDiff, Nat.reduceAdd, iput, puts, hlt, not_false_eq_true]
    refine ⟨_, rfl, _, fun _ _ h => h, rfl, ?_, rfl⟩
    rw [List.take_of_length_le (by omega), show l.length - i = 0 by omega]
    simp

def outer (m : List (List Int)) (nx i : Nat) : List AV := (List.range m.length).map fun j => if j < i then .ms (nx + 1 + j) 0 (m.getD j []).length 1 else .nil
def rowsH (H : Hp) (nx : Nat) (m : List (List Int)) (i : Nat) : Hp := fun k => if k = nx then some (outer m nx i) else if nx < k ∧ k ≤ nx + i then some (ints (m.getD (k - nx - 1) [])) else H k
theorem outer_len (m : List (List Int)) (nx i : Nat) : (outer m nx i).length = m.length := by simp [outer]
theorem outer_set {m : List (List Int)} {nx i : Nat} (h : i < m.length) : (outer m nx i).set i (.ms (nx + 1 + i) 0 (m.getD i []).length 1) = outer m nx (i + 1) := by
  refine List.ext_getElem (by simp [outer]) fun k h1 h2 => ?_
  simp only [outer, List.getElem_set, List.getElem_map, List.getElem_range]
  by_cases e1 : i = k
  · subst e1; simp
  · rw [if_neg e1]
    by_cases e2 : k < i
    · rw [if_pos e2, if_pos (by omega)]
    · rw [if_neg e2, if_neg (by omega)]
def IsMk2 (m : List (List Int)) (H : Hp) (nx : Nat) (r : AV) (H' : Hp) (nx' : Nat) : Prop := r = .ms nx 0 m.length 1 ∧ H' = rowsH H nx m m.length ∧ nx' = nx + 1 + m.length
theorem IsMk.some (l : List Int) (H : Hp) (nx : Nat) : ∃ u H' nx', IsMk l H nx u H' nx' := ⟨_, _, _, rfl, rfl, rfl⟩

def V_laws_toInt64SS : Vc :=
  .op true (.p .len [.t 0]) <|
  .op true (.mks [.nil] (.t 1) (.t 1)) <|
  .loop 0 [.c (int 0)] <|
  .op true (.p .len [.t 0]) <|
  .op true (.p (.bin .lss) [.t 3, .t 4]) <|
  .br 5
   (.op true (.p (.iad 1) [.t 0, .t 3]) <|
   .op true (.p (.ld none) [.t 6]) <|
   .op true (.callm (.f 16) [.t 7]) <|
   .op true (.p (.iad 1) [.t 2, .t 3]) <|
   .op true (.st 1 (.t 9) (.t 8)) <|
   .op true (.p (.bin .add) [.t 3, .c (int 1)]) <|
   .again 0 [.t 11])
   (.ret [(.t 2, none)])
theorem toII_ok (ht : Has P ν 16 1 V_laws_toInt64S) (h : Has P ν 17 1 V_laws_toInt64SS) (m : List (List Int)) (hl : m.length ≤ 1048576) (hr : ∀ k, k < m.length → (m.getD k []).length ≤ 1048576) (H : Hp) (nx : Nat) : OkM P ν 17 [.sl (rows m) m.length] H nx (IsMk2 m H nx) := by
  refine h _ _ _ _ rfl fun hwf => ?_
  unfold V_laws_toInt64SS
  simp only [SS, Nat.reduceEqDiff, Nat.reduceAdd, iput, puts]
  refine den_mks (q := (.ms nx 0 m.length 1, rowsH H nx m 0, nx + 1)) ?_ ?_
  · simp only [SS, Nat.reduceEqDiff, Nat.reduceAdd, iput, puts, mkTo, int]
    rw [if_pos (by omega), flat1]
    simp only [Option.some.injEq, Prod.mk.injEq, Int.toNat_natCast, and_true, true_and, List.length_cons, List.length_nil]
    funext k
    simp only [hput, rowsH]
    by_cases e : k = nx
    · rw [if_pos e, if_pos e]
      congr 1
      refine List.ext_getElem (by simp [outer]) fun k h1 h2 => ?_
      simp [outer]
    · rw [if_neg e, if_neg e, if_neg (by omega)]
  refine den_loop (α := Nat) (fun i => [int i]) (fun i H' nx' => i ≤ m.length ∧ H' = rowsH H nx m i ∧ nx' = nx + 1 + i) (fun i => m.length - i) 0 rfl ⟨Nat.zero_le _, rfl, rfl⟩ ?_
  rintro i H' nx' ⟨hi, e1, e2⟩
  subst e1; subst e2
  by_cases hlt : i < m.length
  · simp only [SS, Nat.reduceEqDiff, Nat.reduceAdd, iput, puts, hlt, not_true_eq_false]
    refine den_callm (fc := (16, [])) rfl (toI_ok ht (m.getD i []) (hr i hlt) (rowsH H nx m i) (nx + 1 + i)) (IsMk.some _ _ _) fun u H' nx' hu => ?_
    obtain ⟨rfl, rfl, rfl⟩ := hu
    have ho : hput (rowsH H nx m i) (nx + 1 + i) (some (ints (m.getD i []))) nx = some (outer m nx i) := by rw [hput_ne _ _ _ _ (by omega)]; simp [rowsH]
    simp only [SS, Nat.reduceEqDiff, Nat.reduceAdd, iput, puts, p_iadm ho (outer_len m nx i), hlt]
    refine den_st1 (o := nx) (p := i) (m := m.length) (u := .ms (nx + 1 + i) 0 (m.getD i []).length 1) rfl rfl ho (outer_len m nx i) hlt rfl ?_
    simp only [SS, Nat.reduceEqDiff, Nat.reduceAdd, iput, puts, wrap_succ (show i < 9223372036854775807 by omega)]
    refine ⟨i + 1, rfl, ⟨by omega, ?_, by omega⟩, by omega⟩
    rw [outer_set hlt]
    funext k
    simp only [hput, rowsH]
    by_cases e : k = nx
    · rw [if_pos e, if_pos e]
    · rw [if_neg e, if_neg e, if_neg e]
      by_cases e2 : k = nx + 1 + i
      · rw [if_pos e2, if_pos (by omega), show k - nx - 1 = i by omega]
      · rw [if_neg e2]
        by_cases e3 : nx < k ∧ k ≤ nx + i
        · rw [if_pos e3, if_pos (by omega)]
        · rw [if_neg e3, if_neg (by omega)]
  · simp only [SS, Nat.reduceEqDiff, Nat.reduceAdd, iput, puts, hlt, not_false_eq_true]
    have : i = m.length := by omega
    subst this
    exact ⟨_, rfl, _, fun _ _ h => h, rfl, rfl, rfl⟩

/-- A category of the call's own, from object n0 on. -/
def catM (c : Cat) (n0 : Nat) : AV := .agg [int c.o, .ms n0 0 c.f.length 1, .ms (n0 + 1) 0 c.t.length 1, .ms (n0 + 2) 0 c.i.length 1, .ms (n0 + 3) 0 c.c.length 1]
def catH (H : Hp) (n0 : Nat) (c : Cat) : Hp := rowsH (hput (hput (hput H n0 (some (ints c.f))) (n0 + 1) (some (ints c.t))) (n0 + 2) (some (ints c.i))) (n0 + 3) c.c c.c.length
def IsMkC (c : Cat) (H : Hp) (nx : Nat) (r : AV) (H' : Hp) (nx' : Nat) : Prop := ∃ n0, nx ≤ n0 ∧ r = catM c n0 ∧ H' = catH H n0 c ∧ nx' = n0 + 4 + c.c.length
theorem IsMk2.some (m : List (List Int)) (H : Hp) (nx : Nat) : ∃ u H' nx', IsMk2 m H nx u H' nx' := ⟨_, _, _, rfl, rfl, rfl⟩

theorem rowsH_lo (H : Hp) (nx : Nat) (m : List (List Int)) (i k : Nat) (h : k < nx) : rowsH H nx m i k = H k := by
  simp only [rowsH]; rw [if_neg (by omega), if_neg (by omega)]

section
variable {C : Ct} {Φ : AV → Hp → Nat → Prop} {n : Nat} {vars : Nat → AV} {H : Hp} {nx : Nat} {Is : Nat → Inv} {r : Vc}
/-- A store of a struct over the whole of an object. -/
theorem den_stA {x y : Opd} {o m : Nat} {c d : List AV} (hx : ev vars x = .mp o 0 m) (hy : ev vars y = .agg d) (ho : H o = some c) (hl : c.length = m) (hd : d.length = m) (h1 : d.all AV.one = true) (hk : den C Φ r (n + 1) (put vars n (.v undef)) (hput H o (some d)) nx Is) :
    den C Φ (.op true (.st m x y) r) n vars H nx Is := by
  refine den_st (h := hput H o (some d)) ?_ hk
  rw [hx, hy]
  simp only [stTo, ho, AV.cells, hl, hd, h1]
  rw [if_pos ⟨trivial, trivial, by omega, trivial⟩]
  simp [← hl]
end
theorem p_fadm {H : Hp} {o p l k : Nat} {c : List AV} (h : H o = some c) (hl : c.length = l) : pvf H (.fad k) [.mp o p l] = some (.mp o (p + k) l) := by
  simp [pvf, pFad, h, hl]
theorem p_ldsm {H : Hp} {o l : Nat} {c : List AV} (h : H o = some c) (hl : c.length = l) : pvf H (.ld (some l)) [.mp o 0 l] = some (.agg c) := by
  subst hl; simp [pvf, pLd, h]

section
variable {C : Ct} {Φ : AV → Hp → Nat → Prop} {n : Nat} {vars : Nat → AV} {H : Hp} {nx : Nat} {Is : Nat → Inv} {r : Vc}
/-- A field of an object is set. -/
theorem den_fset {k d : Nat} {x : Opd} {o m : Nat} {c : List AV} {u : AV} (hd : vars d = .mp o 0 m) (hx : ev (put vars n (.mp o k m)) x = u) (ho : H o = some c) (hl : c.length = m) (hk : k < m) (h1 : u.one = true)
    (hr : den C Φ r (n + 1 + 1) (put (put vars n (.mp o k m)) (n + 1) (.v undef)) (hput H o (some (c.set k u))) nx Is) :
    den C Φ (.op true (.p (.fad k) [.t d]) (.op true (.st 1 (.t n) x) r)) n vars H nx Is := by
  rw [den_p]
  simp only [if_true, List.map_cons, List.map_nil, ev_t, hd, p_fadm ho hl, Nat.zero_add, denS_some]
  exact den_st1 (o := o) (p := k) (m := m) (u := u) (by rw [ev_t, put_eq]) hx ho hl hk h1 hr
/-- A field of an object is read. -/
theorem den_fget {k d : Nat} {o m : Nat} {c : List AV} {u : AV} (hd : vars d = .mp o 0 m) (ho : H o = some c) (hl : c.length = m) (hk : c[k]? = some u)
    (hr : den C Φ r (n + 1 + 1) (put (put vars n (.mp o k m)) (n + 1) u) H nx Is) :
    den C Φ (.op true (.p (.fad k) [.t d]) (.op true (.p (.ld none) [.t n]) r)) n vars H nx Is := by
  rw [den_p]
  simp only [if_true, List.map_cons, List.map_nil, ev_t, hd, p_fadm ho hl, Nat.zero_add, denS_some]
  rw [den_p]
  simp only [if_true, List.map_cons, List.map_nil, ev_t, put_eq, p_ldm ho hl, hk, denS_some]
  exact hr
/-- A whole object is read. -/
theorem den_lda {d : Nat} {o m : Nat} {c : List AV} (hd : vars d = .mp o 0 m) (ho : H o = some c) (hl : c.length = m) (hr : den C Φ r (n + 1) (put vars n (.agg c)) H nx Is) : den C Φ (.op true (.p (.ld (some m)) [.t d]) r) n vars H nx Is := by
  rw [den_p]
  simp only [if_true, List.map_cons, List.map_nil, ev_t, hd, p_ldsm ho hl, denS_some]
  exact hr
end
theorem hp2 {H : Hp} {o k : Nat} {c : Option (List AV)} {x : List AV} (h : k ≠ o) (hk : H k = some x) : hput H o c k = some x := by rw [hput_ne _ _ _ _ h]; exact hk
theorem hput_comm {H : Hp} {o k : Nat} {a b : Option (List AV)} (h : o ≠ k) : hput (hput H o a) k b = hput (hput H k b) o a := by
  funext t; simp only [hput]; by_cases e1 : t = k <;> by_cases e2 : t = o <;> simp [e1, e2]
  · subst e1; exact absurd e2.symm h
  · subst e1; intro e; exact absurd e.symm h
  · subst e2; intro e; exact absurd e h

def V_laws_toCategory : Vc :=
  .op true (.p .box [.t 0]) <|
  .op true (.new [int 0, .nil, .nil, .nil, .nil]) <|
  .op true (.new [int 0, .nil, .nil, .nil, .nil]) <|
  .op true (.p (.fad 0) [.t 1]) <|
  .op true (.p (.ld none) [.t 4]) <|
  .op true (.p (.fad 0) [.t 3]) <|
  .op true (.st 1 (.t 6) (.t 5)) <|
  .op true (.p (.fad 1) [.t 1]) <|
  .op true (.p (.ld none) [.t 8]) <|
  .op true (.callm (.f 16) [.t 9]) <|
  .op true (.p (.fad 1) [.t 3]) <|
  .op true (.st 1 (.t 11) (.t 10)) <|
  .op true (.p (.fad 2) [.t 1]) <|
  .op true (.p (.ld none) [.t 13]) <|
  .op true (.callm (.f 16) [.t 14]) <|
  .op true (.p (.fad 2) [.t 3]) <|
  .op true (.st 1 (.t 16) (.t 15)) <|
  .op true (.p (.fad 3) [.t 1]) <|
  .op true (.p (.ld none) [.t 18]) <|
  .op true (.callm (.f 16) [.t 19]) <|
  .op true (.p (.fad 3) [.t 3]) <|
  .op true (.st 1 (.t 21) (.t 20)) <|
  .op true (.p (.fad 4) [.t 1]) <|
  .op true (.p (.ld none) [.t 23]) <|
  .op true (.callm (.f 17) [.t 24]) <|
  .op true (.p (.fad 4) [.t 3]) <|
  .op true (.st 1 (.t 26) (.t 25)) <|
  .op true (.p (.ld (some 5)) [.t 3]) <|
  .op true (.st 5 (.t 2) (.t 28)) <|
  .ret [(.t 2, some (some 5))]
set_option maxHeartbeats 1000000 in
theorem toCat_ok (ht : Has P ν 16 1 V_laws_toInt64S) (ht2 : Has P ν 17 1 V_laws_toInt64SS) (h : Has P ν 5 1 V_laws_toCategory) (c : Cat) (b : Small2 c) (H : Hp) (nx : Nat) : OkM P ν 5 [.agg c.cells] H nx (IsMkC c H nx) := by
  refine h _ _ _ _ rfl fun hwf => ?_
  unfold V_laws_toCategory
  simp only [SS, Nat.reduceEqDiff, Nat.reduceAdd, iput, puts, p_boxc]
  refine den_new ?_
  refine den_new ?_
  generalize hH0 : hput H nx (some [int 0, .nil, .nil, .nil, .nil]) = H0
  have k0 : H0 nx = some [int 0, .nil, .nil, .nil, .nil] := by rw [← hH0]; exact hput_eq _ _ _
  simp only [SS, Nat.reduceEqDiff, Nat.reduceAdd, iput, puts, cat0, p_fadm (l := 5) (hput_eq H0 (nx + 1) (some [int 0, .nil, .nil, .nil, .nil])) rfl]
  refine den_st1 (o := nx + 1) (p := 0) (m := 5) (u := int c.o) rfl rfl (hput_eq _ _ _) rfl (by omega) rfl ?_
  simp only [SS, Nat.reduceEqDiff, Nat.reduceAdd, iput, puts, cat1, hput_hput, List.set_cons_zero, List.set_cons_succ]
  refine den_callm (fc := (16, [])) rfl (toI_ok ht c.f b.f _ _) (IsMk.some _ _ _) fun u H' nx' hu => ?_
  obtain ⟨rfl, rfl, rfl⟩ := hu
  refine den_fset (o := nx + 1) (m := 5) (u := .ms (nx + 1 + 1) 0 c.f.length 1) rfl rfl (hp2 (by omega) (hput_eq _ _ _)) rfl (by omega) rfl ?_
  rw [hput_comm (o := nx + 1 + 1) (k := nx + 1) (by omega), hput_hput]
  simp only [SS, Nat.reduceEqDiff, Nat.reduceAdd, iput, puts, cat2, List.set_cons_zero, List.set_cons_succ]
  refine den_callm (fc := (16, [])) rfl (toI_ok ht c.t b.t _ _) (IsMk.some _ _ _) fun u H' nx' hu => ?_
  obtain ⟨rfl, rfl, rfl⟩ := hu
  refine den_fset (o := nx + 1) (m := 5) (u := .ms (nx + 1 + 1 + 1) 0 c.t.length 1) rfl rfl (hp2 (by omega) (hp2 (by omega) (hput_eq _ _ _))) rfl (by omega) rfl ?_
  rw [hput_comm (o := nx + 1 + 1 + 1) (k := nx + 1) (by omega), hput_comm (o := nx + 1 + 1) (k := nx + 1) (by omega), hput_hput]
  simp only [SS, Nat.reduceEqDiff, Nat.reduceAdd, iput, puts, cat3, List.set_cons_zero, List.set_cons_succ]
  refine den_callm (fc := (16, [])) rfl (toI_ok ht c.i b.i _ _) (IsMk.some _ _ _) fun u H' nx' hu => ?_
  obtain ⟨rfl, rfl, rfl⟩ := hu
  refine den_fset (o := nx + 1) (m := 5) (u := .ms (nx + 1 + 1 + 1 + 1) 0 c.i.length 1) rfl rfl (hp2 (by omega) (hp2 (by omega) (hp2 (by omega) (hput_eq _ _ _)))) rfl (by omega) rfl ?_
  rw [hput_comm (o := nx + 1 + 1 + 1 + 1) (k := nx + 1) (by omega), hput_comm (o := nx + 1 + 1 + 1) (k := nx + 1) (by omega), hput_comm (o := nx + 1 + 1) (k := nx + 1) (by omega), hput_hput]
  simp only [SS, Nat.reduceEqDiff, Nat.reduceAdd, iput, puts, cat4, List.set_cons_zero, List.set_cons_succ]
  refine den_callm (fc := (17, [])) rfl (toII_ok ht ht2 c.c b.c b.row _ _) (IsMk2.some _ _ _) fun u H' nx' hu => ?_
  obtain ⟨rfl, rfl, rfl⟩ := hu
  refine den_fset (o := nx + 1) (m := 5) (c := [int c.o, .ms (nx + 1 + 1) 0 c.f.length 1, .ms (nx + 1 + 1 + 1) 0 c.t.length 1, .ms (nx + 1 + 1 + 1 + 1) 0 c.i.length 1, .nil]) (u := .ms (nx + 1 + 1 + 1 + 1 + 1) 0 c.c.length 1) rfl rfl ?_ rfl (by omega) rfl ?_
  · rw [rowsH_lo _ _ _ _ _ (by omega)]; exact hp2 (by omega) (hp2 (by omega) (hp2 (by omega) (hput_eq _ _ _)))
  simp only [List.set_cons_zero, List.set_cons_succ]
  refine den_lda (o := nx + 1) (m := 5) rfl (hput_eq _ _ _) rfl ?_
  refine den_stA (o := nx) (m := 5) (c := [int 0, .nil, .nil, .nil, .nil]) rfl rfl ?_ rfl rfl rfl ?_
  · refine hp2 (by omega) ?_
    rw [rowsH_lo _ _ _ _ _ (by omega)]; exact hp2 (by omega) (hp2 (by omega) (hp2 (by omega) (hp2 (by omega) k0)))
  refine ⟨catM c (nx + 2), ?_, catH H (nx + 2) c, ?_, nx + 2, by omega, rfl, rfl, by omega⟩
  · simp only [retOf, rets, SS, Nat.reduceEqDiff, Nat.reduceAdd, iput, puts, pLd, hput_eq]
    rfl
  · intro k d hk
    have hlt : H nx = none := hwf nx (Nat.le_refl _)
    have hlt1 : H (nx + 1) = none := hwf (nx + 1) (by omega)
    simp only [catH, rowsH, hput] at hk ⊢
    rw [← hH0]
    simp only [hput]
    by_cases e0 : k = nx
    · subst e0; rw [if_neg (by omega), if_neg (by omega), if_neg (by omega), if_neg (by omega), if_neg (by omega), hlt] at hk; cases hk
    · by_cases e1 : k = nx + 1
      · subst e1; rw [if_neg (by omega), if_neg (by omega), if_neg (by omega), if_neg (by omega), if_neg (by omega), hlt1] at hk; cases hk
      · rw [if_neg e0, if_neg e1]
        simp only [if_neg e0, if_neg e1]
        exact hk
end Go.Av
