/-
  Marks: what the statements write into memory, and how it is found again.
-/
import Derived.Test.YtbgaobcgpkjjkaaAvA7
namespace Go.Av
open Classical
set_option linter.unusedSimpArgs false
set_option linter.unusedVariables false
variable {P : Program} {ν : Nat → FuncId}

def seqI (k : Int) (n : Nat) : List Int := (List.range n).map fun (j : Nat) => k + j
theorem seqI_len (k : Int) (n : Nat) : (seqI k n).length = n := by simp [seqI]
theorem seq_set {l : List Int} {k : Int} {i : Nat} (h : i < l.length) : (seqI k i ++ l.drop i).set i (k + i) = seqI k (i + 1) ++ l.drop (i + 1) := by
  refine List.ext_getElem (by simp [seqI]; omega) fun j h1 h2 => ?_
  simp only [List.getElem_set, List.getElem_append, seqI_len, List.getElem_drop, seqI, List.getElem_map, List.getElem_range, List.length_map, List.length_range]
  by_cases e1 : i = j
  · subst e1; simp
  · by_cases e2 : j < i
    · rw [if_neg e1, dif_pos e2, dif_pos (by omega)]
    · rw [if_neg e1, dif_neg e2, dif_neg (by omega)]; congr 1; omega

/-- A list of integers that lies in an object of its own (or has no memory). -/
def Own1 (l : List Int) (r : AV) (M : Hp) (lo hi : Nat) : Prop := (l = [] ∧ r = .nil) ∨ ∃ o, lo ≤ o ∧ o < hi ∧ r = .ms o 0 l.length 1 ∧ M o = some (ints l)
theorem Own1.frz {l : List Int} {r : AV} {M : Hp} {lo hi : Nat} (h : Own1 l r M lo hi) : frz M fuel r = some (islice l) := by
  rcases h with ⟨rfl, rfl⟩ | ⟨o, _, _, rfl, ho⟩
  · rfl
  · have : ∀ (l : List Int) (k : Nat), (ints l).mapM (Av.frz M k) = some (ints l) := fun l k => frz_stills (by simp [ints, AV.still, int])
    simp only [fuel, Av.frz, ho, ints_length, Nat.zero_add, Nat.mul_one, if_true, this]
    simp [islice]
theorem Own1.frzL {l : List Int} {r : AV} {M : Hp} {lo hi : Nat} (h : Own1 l r M lo hi) (t : List AV) : frzL M (r :: t) = (Av.frzL M t).map (islice l :: ·) := by
  simp only [Av.frzL, List.mapM_cons, h.frz]; cases List.mapM (Av.frz M fuel) t <;> rfl
theorem Own1.mono {l : List Int} {r : AV} {M M' : Hp} {lo hi hi' : Nat} (h : Own1 l r M lo hi) (hh : hi ≤ hi') (hM : ∀ o, lo ≤ o → o < hi → M' o = M o) : Own1 l r M' lo hi' := by
  rcases h with ⟨rfl, rfl⟩ | ⟨o, h1, h2, rfl, ho⟩
  · exact .inl ⟨rfl, rfl⟩
  · exact .inr ⟨o, h1, by omega, rfl, (hM o h1 h2).trans ho⟩

def V_laws_markInt64S : Vc :=
  .loop 0 [.t 1, .c (int 0)] <|
  .op true (.p .len [.t 0]) <|
  .op true (.p (.bin .lss) [.t 3, .t 4]) <|
  .br 5
   (.op true (.p (.iad 1) [.t 0, .t 3]) <|
   .op true (.st 1 (.t 6) (.t 2)) <|
   .op true (.p (.bin .add) [.t 2, .c (int 1)]) <|
   .op true (.p (.bin .add) [.t 3, .c (int 1)]) <|
   .again 0 [.t 8, .t 9])
   (.ret [(.t 2, none)])
theorem markI_ms (h : Has P ν 10 2 V_laws_markInt64S) (l : List Int) (k : Int) (o : Nat) (H : Hp) (nx : Nat) (ho : H o = some (ints l)) (k0 : 0 ≤ k) (kl : k ≤ 2305843009213693952) (hl : l.length ≤ 2305843009213693952) :
    OkM P ν 10 [.ms o 0 l.length 1, int k] H nx (fun r H' nx' => r = int (k + l.length) ∧ H' = hput H o (some (ints (seqI k l.length))) ∧ nx' = nx) := by
  refine h _ _ _ _ rfl fun hwf => ?_
  unfold V_laws_markInt64S
  refine den_loop (α := Nat) (fun i => [int (k + i), int i]) (fun i H' nx' => i ≤ l.length ∧ H' = hput H o (some (ints (seqI k i ++ l.drop i))) ∧ nx' = nx) (fun i => l.length - i) 0 ?_ ?_ ?_
  · simp [ev_t, ev_c, env0_def]
  · refine ⟨Nat.zero_le _, ?_, rfl⟩
    funext t; simp only [hput]; split
    · rename_i e; rw [e, ho]; simp [seqI]
    · rfl
  · rintro i H' nx' ⟨hi, rfl, rfl⟩
    have hll : (ints (seqI k i ++ l.drop i)).length = l.length := by simp [ints, seqI]; omega
    by_cases hlt : i < l.length
    · simp only [SS, Nat.reduceEqDiff, Nat.reduceAdd, iput, puts, hlt, p_lenm (hput_eq H o _) hll, p_iadm (hput_eq H o _) hll, not_true_eq_false]
      refine den_st1 (o := o) (p := i) (m := l.length) (u := int (k + i)) rfl rfl (hput_eq H o _) hll hlt rfl ?_
      simp only [SS, Nat.reduceEqDiff, Nat.reduceAdd, iput, puts, hput_hput, ints_set, seq_set hlt, wrap_succ (show i < 9223372036854775807 by omega), wrap_id (show -9223372036854775808 ≤ k + (i : Int) + 1 by omega) (show k + (i : Int) + 1 ≤ 9223372036854775807 by omega)]
      refine ⟨i + 1, ?_, ⟨by omega, rfl⟩, by omega⟩
      rw [show k + (i : Int) + 1 = k + ((i + 1 : Nat) : Int) by omega]
    · have : i = l.length := by omega
      subst this
      simp only [SS, Nat.reduceEqDiff, Nat.reduceAdd, iput, puts, hlt, p_lenm (hput_eq H o _) hll, not_false_eq_true]
      refine ⟨_, rfl, _, fun _ _ h => h, rfl, ?_, rfl⟩
      rw [List.drop_length, List.append_nil]
theorem markI_nil (h : Has P ν 10 2 V_laws_markInt64S) (k : Int) (H : Hp) (nx : Nat) : OkM P ν 10 [.nil, int k] H nx (fun r H' nx' => r = int k ∧ H' = H ∧ nx' = nx) := by
  refine h _ _ _ _ rfl fun hwf => ?_
  unfold V_laws_markInt64S
  refine den_loop (α := Unit) (fun _ => [int k, int 0]) (fun _ H' nx' => H' = H ∧ nx' = nx) (fun _ => 0) () ?_ ⟨rfl, rfl⟩ ?_
  · simp [ev_t, ev_c, env0_def]
  · rintro _ H' nx' ⟨rfl, rfl⟩
    have : ¬ (0 : Int) < 0 := by omega
    simp only [SS, Nat.reduceEqDiff, Nat.reduceAdd, iput, puts, this, not_false_eq_true]
    exact ⟨_, rfl, _, fun _ _ h => h, rfl, rfl, rfl⟩
theorem markI_own (h : Has P ν 10 2 V_laws_markInt64S) (l : List Int) (k : Int) (r0 : AV) (M : Hp) (lo hi nx : Nat) (ho : Own1 l r0 M lo hi) (k0 : 0 ≤ k) (kl : k ≤ 2305843009213693952) (hl : l.length ≤ 2305843009213693952) :
    OkM P ν 10 [r0, int k] M nx (fun r H' nx' => r = int (k + l.length) ∧ nx' = nx ∧ Own1 (seqI k l.length) r0 H' lo hi ∧ ∀ o, o < lo → H' o = M o) := by
  rcases ho with ⟨rfl, rfl⟩ | ⟨o, h1, h2, rfl, ho⟩
  · refine (markI_nil h k M nx).mono ?_
    rintro r H' nx' ⟨rfl, rfl, rfl⟩
    exact ⟨by simp, rfl, .inl ⟨rfl, rfl⟩, fun _ _ => rfl⟩
  · refine (markI_ms h l k o M nx ho k0 kl hl).mono ?_
    rintro r H' nx' ⟨rfl, rfl, rfl⟩
    exact ⟨rfl, rfl, .inr ⟨o, h1, h2, by rw [seqI_len], hput_eq _ _ _⟩, fun t ht => hput_ne _ _ _ _ (by omega)⟩

def V_laws_heldInt64S : Vc :=
  .loop 0 [.t 1, .c (int 0)] <|
  .op true (.p .len [.t 0]) <|
  .op true (.p (.bin .lss) [.t 3, .t 4]) <|
  .br 5
   (.op true (.p (.iad 1) [.t 0, .t 3]) <|
   .op true (.p (.ld none) [.t 6]) <|
   .op true (.p (.bin .neq) [.t 7, .t 2]) <|
   .br 8
    (.ret [(.c (int (-1)), none)])
    (.op true (.p (.bin .add) [.t 2, .c (int 1)]) <|
    .op true (.p (.bin .add) [.t 3, .c (int 1)]) <|
    .again 0 [.t 9, .t 10]))
   (.ret [(.t 2, none)])
theorem heldI_ok (h : Has P ν 11 2 V_laws_heldInt64S) (k : Int) (n : Nat) (k0 : 0 ≤ k) (kl : k ≤ 2305843009213693952) (hl : n ≤ 2305843009213693952) : Fn P ν 11 [islice (seqI k n), int k] (int (k + n)) := by
  intro H nx
  refine h _ _ _ _ rfl fun hwf => ?_
  unfold V_laws_heldInt64S
  have hl := seqI_len k n
  refine den_loop (α := Nat) (fun i => [int (k + i), int i]) (fun i H' nx' => i ≤ n ∧ H' = H ∧ nx' = nx) (fun i => n - i) 0 ?_ ⟨Nat.zero_le _, rfl, rfl⟩ ?_
  · simp [ev_t, ev_c, env0_def]
  · rintro i H' nx' ⟨hi, rfl, rfl⟩
    by_cases hlt : i < n
    · have hg : (seqI k n).getD i 0 = k + i := by simp [seqI, hlt]
      simp only [SS, Nat.reduceEqDiff, Nat.reduceAdd, iput, puts, hlt, hl, hg, not_true_eq_false, wrap_succ (show i < 9223372036854775807 by omega), wrap_id (show -9223372036854775808 ≤ k + (i : Int) + 1 by omega) (show k + (i : Int) + 1 ≤ 9223372036854775807 by omega)]
      refine ⟨i + 1, ?_, by omega, by omega⟩
      rw [show k + (i : Int) + 1 = k + ((i + 1 : Nat) : Int) by omega]
    · have : i = n := by omega
      subst this
      simp only [SS, Nat.reduceEqDiff, Nat.reduceAdd, iput, puts, hlt, hl, not_false_eq_true]
      exact ⟨_, rfl, _, fun _ _ h => h, rfl, rfl, Nat.le_refl _⟩

/-- Rows of an object. -/
def RowsAt (H : Hp) (m : Nat) (id len : Nat → Nat) : Prop := ∀ j, j < m → ∃ l : List Int, H (id j) = some (ints l) ∧ l.length = len j
def outerC (m : Nat) (id len : Nat → Nat) : List AV := (List.range m).map fun j => .ms (id j) 0 (len j) 1
theorem outerC_get {m : Nat} {id len : Nat → Nat} {j : Nat} (h : j < m) : (outerC m id len)[j]? = some (.ms (id j) 0 (len j) 1) := by simp [outerC, h]

def V_laws_markInt64SS : Vc :=
  .loop 0 [.t 1, .c (int 0)] <|
  .op true (.p .len [.t 0]) <|
  .op true (.p (.bin .lss) [.t 3, .t 4]) <|
  .br 5
   (.op true (.p (.iad 1) [.t 0, .t 3]) <|
   .op true (.p (.ld none) [.t 6]) <|
   .op true (.callm (.f 10) [.t 7, .t 2]) <|
   .op true (.p (.bin .add) [.t 3, .c (int 1)]) <|
   .again 0 [.t 8, .t 9])
   (.ret [(.t 2, none)])
theorem markII_ok (hm : Has P ν 10 2 V_laws_markInt64S) (h : Has P ν 21 2 V_laws_markInt64SS) (e m : Nat) (id len : Nat → Nat) (k : Int) (H : Hp) (nx : Nat) (he : H e = some (outerC m id len)) (hr : RowsAt H m id len) (hne : ∀ j, j < m → id j ≠ e) (hb : ∀ j, j < m → len j ≤ 1048576) (hm' : m ≤ 1048576) (k0 : 0 ≤ k) (kl : k ≤ 4398046511104) :
    OkM P ν 21 [.ms e 0 m 1, int k] H nx (fun r H' nx' => ∃ k' : Int, r = int k' ∧ 0 ≤ k' ∧ k' ≤ k + m * 1048576 ∧ nx' = nx ∧ ∀ o, (∀ j, j < m → o ≠ id j) → H' o = H o) := by
  refine h _ _ _ _ rfl fun hwf => ?_
  unfold V_laws_markInt64SS
  have hll : (outerC m id len).length = m := by simp [outerC]
  refine den_loop (α := Nat × Int) (fun a => [int a.2, int a.1]) (fun a H' nx' => a.1 ≤ m ∧ 0 ≤ a.2 ∧ a.2 ≤ k + a.1 * 1048576 ∧ nx' = nx ∧ RowsAt H' m id len ∧ ∀ o, (∀ j, j < m → o ≠ id j) → H' o = H o) (fun a => m - a.1) (0, k) ?_ ?_ ?_
  · simp [ev_t, ev_c, env0_def]
  · exact ⟨Nat.zero_le _, k0, by simp, rfl, hr, fun _ _ => rfl⟩
  · rintro ⟨i, x⟩ H' nx' ⟨g1, g2, g3, rfl, g5, g6⟩
    simp only at g1 g2 g3
    have he' : H' e = some (outerC m id len) := (g6 e fun j hj => (hne j hj).symm).trans he
    by_cases hlt : i < m
    · obtain ⟨l, hl1, hl2⟩ := g5 i hlt
      have hbi := hb i hlt
      simp only [SS, Nat.reduceEqDiff, Nat.reduceAdd, iput, puts, hlt, p_lenm he' hll, p_iadm he' hll, p_ldm he' hll, outerC_get hlt, not_true_eq_false, ← hl2]
      refine den_callm (fc := (10, [])) rfl (markI_ms hm l x (id i) H' nx' hl1 g2 (by omega) (by omega)) ⟨_, _, _, rfl, rfl, rfl⟩ fun u H2 nx2 hu => ?_
      obtain ⟨rfl, rfl, rfl⟩ := hu
      simp only [SS, Nat.reduceEqDiff, Nat.reduceAdd, iput, puts, wrap_succ (show i < 9223372036854775807 by omega)]
      refine ⟨(i + 1, x + l.length), rfl, ⟨by simp only; omega, by simp only; omega, by simp only; omega, ?_, ?_⟩, by simp only; omega⟩
      · intro j hj
        by_cases ej : id j = id i
        · obtain ⟨l', q1, q2⟩ := g5 j hj
          refine ⟨seqI x l.length, by rw [ej]; exact hput_eq _ _ _, ?_⟩
          rw [ej, hl1] at q1
          have : ints l = ints l' := by injection q1
          have := congrArg List.length this
          simp only [ints_length] at this
          rw [seqI_len]; omega
        · obtain ⟨l', q1, q2⟩ := g5 j hj
          exact ⟨l', by rw [hput_ne _ _ _ _ ej]; exact q1, q2⟩
      · intro o ho
        rw [hput_ne _ _ _ _ (ho i hlt)]
        exact g6 o ho
    · have : i = m := by omega
      subst this
      simp only [SS, Nat.reduceEqDiff, Nat.reduceAdd, iput, puts, hlt, p_lenm he' hll, not_false_eq_true]
      exact ⟨_, rfl, _, fun _ _ h => h, x, rfl, g2, g3, rfl, g6⟩

/-- The objects of a category of the call's own. -/
structure CatAt (H : Hp) (n0 : Nat) (x : Cat) : Prop where
  f : H n0 = some (ints x.f)
  t : H (n0 + 1) = some (ints x.t)
  i : H (n0 + 2) = some (ints x.i)
  c : H (n0 + 3) = some (outerC x.c.length (fun j => n0 + 4 + j) (fun j => (x.c.getD j []).length))
  row : ∀ j, j < x.c.length → H (n0 + 4 + j) = some (ints (x.c.getD j []))
theorem outer_full (m : List (List Int)) (nx : Nat) : outer m nx m.length = outerC m.length (fun j => nx + 1 + j) (fun j => (m.getD j []).length) := by
  refine List.ext_getElem (by simp [outer, outerC]) fun j h1 h2 => ?_
  have : j < m.length := by simpa [outer] using h1
  simp [outer, outerC, this]
theorem catH_at (H : Hp) (n0 : Nat) (c : Cat) : CatAt (catH H n0 c) n0 c := by
  refine ⟨?_, ?_, ?_, ?_, fun j hj => ?_⟩
  · simp only [catH, rowsH, hput]; rw [if_neg (by omega), if_neg (by omega), if_neg (by omega), if_neg (by omega), if_pos trivial]
  · simp only [catH, rowsH, hput]; rw [if_neg (by omega), if_neg (by omega), if_neg (by omega), if_pos trivial]
  · simp only [catH, rowsH, hput]; rw [if_neg (by omega), if_neg (by omega), if_pos trivial]
  · simp only [catH, rowsH]; rw [if_pos trivial, outer_full]
  · simp only [catH, rowsH]; rw [if_neg (by omega), if_pos (by omega), show n0 + 4 + j - (n0 + 3) - 1 = j by omega]
theorem catH_lo (H : Hp) (n0 : Nat) (c : Cat) (o : Nat) (h : o < n0) : catH H n0 c o = H o := by
  simp only [catH, rowsH, hput]; rw [if_neg (by omega), if_neg (by omega), if_neg (by omega), if_neg (by omega), if_neg (by omega)]
theorem mapM_outer {f : AV → Option AV} {x : List (List Int)} {g : Nat → AV} (h : ∀ j, j < x.length → f (g j) = some (islice (x.getD j []))) : ((List.range x.length).map g).mapM f = some (rows x) := by
  have key : ∀ n, n ≤ x.length → ((List.range n).map g).mapM f = some ((List.range n).map fun j => islice (x.getD j [])) := by
    intro n
    induction n with
    | zero => intro _; rfl
    | succ n ih =>
      intro hn
      rw [List.range_succ, List.map_append, List.mapM_append, ih (by omega)]
      simp [h n (by omega)]
  rw [key _ (Nat.le_refl _)]
  congr 1
  refine List.ext_getElem (by simp [rows]) fun j h1 h2 => ?_
  have : j < x.length := by simpa [rows] using h2
  simp [rows, this]
theorem CatAt.frz {H : Hp} {n0 : Nat} {x : Cat} (h : CatAt H n0 x) : frz H fuel (catM x n0) = some (.agg x.cells) := by
  have st : ∀ (l : List Int) (k : Nat), (ints l).mapM (Av.frz H k) = some (ints l) := fun l k => frz_stills (by simp [ints, AV.still, int])
  have hi : ∀ (o : Nat) (l : List Int) (k : Nat), H o = some (ints l) → Av.frz H (k + 1) (.ms o 0 l.length 1) = some (islice l) := fun o l k ho => by
    simp only [Av.frz, ho, ints_length, Nat.zero_add, Nat.mul_one, if_true, st]; simp [islice]
  have hrows : Av.frz H 5 (.ms (n0 + 3) 0 x.c.length 1) = some (.sl (rows x.c) x.c.length) := by
    have hl : (outerC x.c.length (fun j => n0 + 4 + j) (fun j => (x.c.getD j []).length)).length = x.c.length := by simp [outerC]
    simp only [Av.frz, h.c, hl, Nat.zero_add, Nat.mul_one, if_true]
    rw [show outerC x.c.length (fun j => n0 + 4 + j) (fun j => (x.c.getD j []).length) = (List.range x.c.length).map fun j => .ms (n0 + 4 + j) 0 (x.c.getD j []).length 1 from rfl, mapM_outer fun j hj => hi _ _ _ (h.row j hj)]
    simp
  show ([int x.o, .ms n0 0 x.f.length 1, .ms (n0 + 1) 0 x.t.length 1, .ms (n0 + 2) 0 x.i.length 1, .ms (n0 + 3) 0 x.c.length 1].mapM (Av.frz H 5)).map AV.agg = _
  simp only [List.mapM_cons, List.mapM_nil, frz_int, hi _ _ 4 h.f, hi _ _ 4 h.t, hi _ _ 4 h.i, hrows]
  rfl
theorem CatAt.frzN {H : Hp} {n0 : Nat} {x : Cat} (h : CatAt H n0 x) : frzN H fuel (catM x n0) = some (.agg x.cells) := by
  have hi : ∀ (o : Nat) (l : List Int) (k : Nat), H o = some (ints l) → Av.frzN H (k + 1) (.ms o 0 l.length 1) = some (islice l) := fun o l k ho => by
    simp only [Av.frzN, ho, ints_length, Nat.zero_add, Nat.mul_one, if_true, frzN_ints]; simp [islice]
  have hrows : Av.frzN H 5 (.ms (n0 + 3) 0 x.c.length 1) = some (.sl (rows x.c) x.c.length) := by
    have hl : (outerC x.c.length (fun j => n0 + 4 + j) (fun j => (x.c.getD j []).length)).length = x.c.length := by simp [outerC]
    simp only [Av.frzN, h.c, hl, Nat.zero_add, Nat.mul_one, if_true]
    rw [show outerC x.c.length (fun j => n0 + 4 + j) (fun j => (x.c.getD j []).length) = (List.range x.c.length).map fun j => .ms (n0 + 4 + j) 0 (x.c.getD j []).length 1 from rfl, mapM_outer fun j hj => hi _ _ _ (h.row j hj)]
    simp
  show ([int x.o, .ms n0 0 x.f.length 1, .ms (n0 + 1) 0 x.t.length 1, .ms (n0 + 2) 0 x.i.length 1, .ms (n0 + 3) 0 x.c.length 1].mapM (Av.frzN H 5)).map AV.agg = _
  simp only [List.mapM_cons, List.mapM_nil, frzN_int, hi _ _ 4 h.f, hi _ _ 4 h.t, hi _ _ 4 h.i, hrows]
  rfl
theorem CatAt.frzL {H : Hp} {n0 : Nat} {x : Cat} (h : CatAt H n0 x) (t : List AV) : frzL H (catM x n0 :: t) = (Av.frzL H t).map (.agg x.cells :: ·) := by
  simp only [Av.frzL, List.mapM_cons, h.frz]; cases List.mapM (Av.frz H fuel) t <;> rfl
theorem CatAt.mono {H H' : Hp} {n0 : Nat} {x : Cat} (h : CatAt H n0 x) (hh : ∀ o, n0 ≤ o → o < n0 + 4 + x.c.length → H' o = H o) : CatAt H' n0 x :=
  ⟨(hh _ (by omega) (by omega)).trans h.f, (hh _ (by omega) (by omega)).trans h.t, (hh _ (by omega) (by omega)).trans h.i, (hh _ (by omega) (by omega)).trans h.c, fun j hj => (hh _ (by omega) (by omega)).trans (h.row j hj)⟩
theorem toCat_fz (ht : Has P ν 16 1 V_laws_toInt64S) (ht2 : Has P ν 17 1 V_laws_toInt64SS) (h : Has P ν 5 1 V_laws_toCategory) (c : Cat) (b : Small2 c) : Fz (OkM P ν) 5 [.agg c.cells] (.agg c.cells) :=
  OkM.fz (fun H nx => toCat_ok ht ht2 h c b H nx) fun r H' nx' hh => by
    obtain ⟨n0, _, rfl, rfl, _⟩ := hh
    exact (catH_at _ _ _).frzN
theorem IsMkC.some (c : Cat) (H : Hp) (nx : Nat) : ∃ u H' nx', IsMkC c H nx u H' nx' := ⟨_, _, _, nx, Nat.le_refl _, rfl, rfl, rfl⟩

def V_laws_markCategory : Vc :=
  .op true (.boxm (.t 0)) <|
  .op true (.p (.fad 1) [.t 2]) <|
  .op true (.p (.ld none) [.t 3]) <|
  .op true (.callm (.f 10) [.t 4, .t 1]) <|
  .op true (.p (.fad 2) [.t 2]) <|
  .op true (.p (.ld none) [.t 6]) <|
  .op true (.callm (.f 10) [.t 7, .t 5]) <|
  .op true (.p (.fad 3) [.t 2]) <|
  .op true (.p (.ld none) [.t 9]) <|
  .op true (.callm (.f 10) [.t 10, .t 8]) <|
  .op true (.p (.fad 4) [.t 2]) <|
  .op true (.p (.ld none) [.t 12]) <|
  .op true (.callm (.f 21) [.t 13, .t 11]) <|
  .ret [(.t 14, none)]
set_option maxHeartbeats 1000000 in
theorem markCat_ok (hm : Has P ν 10 2 V_laws_markInt64S) (hm2 : Has P ν 21 2 V_laws_markInt64SS) (h : Has P ν 9 2 V_laws_markCategory) (c : Cat) (b : Small2 c) (n0 : Nat) (k : Int) (H : Hp) (nx : Nat) (hc : CatAt H n0 c) (hn : n0 + 4 + c.c.length ≤ nx) (k0 : 0 ≤ k) (kl : k ≤ 1099511627776) :
    OkM P ν 9 [catM c n0, int k] H nx (fun r H' nx' => ∃ k' : Int, r = int k' ∧ 0 ≤ k' ∧ k' ≤ k + 1099514773504 ∧ nx ≤ nx' ∧ ∀ o, o < n0 ∨ n0 + 4 + c.c.length ≤ o → o < nx → H' o = H o) := by
  refine h _ _ _ _ rfl fun hwf => ?_
  unfold V_laws_markCategory
  have b1 := b.f
  have b2 := b.t
  have b3 := b.i
  have b4 := b.c
  refine den_boxm rfl ?_
  refine den_fget (o := nx) (m := 5) rfl (hput_eq _ _ _) rfl rfl ?_
  generalize hH1 : hput H nx (some (ev (env0 [catM c n0, int k]) (.t 0)).cells) = H1
  have x1 : H1 nx = some [int c.o, .ms n0 0 c.f.length 1, .ms (n0 + 1) 0 c.t.length 1, .ms (n0 + 2) 0 c.i.length 1, .ms (n0 + 3) 0 c.c.length 1] := by rw [← hH1]; exact hput_eq _ _ _
  have y1 : ∀ o, o < nx → H1 o = H o := fun o ho => by rw [← hH1]; exact hput_ne _ _ _ _ (by omega)
  have c1 : CatAt H1 n0 c := hc.mono fun o _ ho => y1 o (by omega)
  refine den_callm (fc := (10, [])) rfl (markI_ms hm c.f k n0 _ _ c1.f k0 (by omega) (by omega)) ⟨_, _, _, rfl, rfl, rfl⟩ fun u H' nx' hu => ?_
  obtain ⟨rfl, rfl, rfl⟩ := hu
  refine den_fget (o := nx) (m := 5) rfl (hp2 (by omega) x1) rfl rfl ?_
  have c2 : hput H1 n0 (some (ints (seqI k c.f.length))) (n0 + 1) = some (ints c.t) := hp2 (by omega) c1.t
  refine den_callm (fc := (10, [])) rfl (markI_ms hm c.t (k + c.f.length) (n0 + 1) _ _ c2 (by omega) (by omega) (by omega)) ⟨_, _, _, rfl, rfl, rfl⟩ fun u H' nx' hu => ?_
  obtain ⟨rfl, rfl, rfl⟩ := hu
  refine den_fget (o := nx) (m := 5) rfl (hp2 (by omega) (hp2 (by omega) x1)) rfl rfl ?_
  have c3 : hput (hput H1 n0 (some (ints (seqI k c.f.length)))) (n0 + 1) (some (ints (seqI (k + c.f.length) c.t.length))) (n0 + 2) = some (ints c.i) := hp2 (by omega) (hp2 (by omega) c1.i)
  refine den_callm (fc := (10, [])) rfl (markI_ms hm c.i (k + c.f.length + c.t.length) (n0 + 2) _ _ c3 (by omega) (by omega) (by omega)) ⟨_, _, _, rfl, rfl, rfl⟩ fun u H' nx' hu => ?_
  obtain ⟨rfl, rfl, rfl⟩ := hu
  refine den_fget (o := nx) (m := 5) rfl (hp2 (by omega) (hp2 (by omega) (hp2 (by omega) x1))) rfl rfl ?_
  refine den_callm (fc := (21, [])) rfl (markII_ok hm hm2 (n0 + 3) c.c.length (fun j => n0 + 4 + j) (fun j => (c.c.getD j []).length) (k + c.f.length + c.t.length + c.i.length) _ _ ?_ ?_ (fun j _ => by omega) b.row (by omega) (by omega) (by omega)) ⟨int 0, _, _, 0, rfl, by omega, by omega, rfl, fun _ _ => rfl⟩ fun u H' nx' hu => ?_
  · exact hp2 (by omega) (hp2 (by omega) (hp2 (by omega) c1.c))
  · intro j hj; exact ⟨c.c.getD j [], hp2 (by show n0 + 4 + j ≠ n0 + 2; omega) (hp2 (by show n0 + 4 + j ≠ n0 + 1; omega) (hp2 (by show n0 + 4 + j ≠ n0; omega) (c1.row j hj))), rfl⟩
  · obtain ⟨k', rfl, q1, q2, rfl, q4⟩ := hu
    refine ⟨_, rfl, H', fun _ _ h => h, k', rfl, q1, by omega, Nat.le_succ _, fun o h1 h2 => ?_⟩
    rw [q4 o (fun j hj => by show o ≠ n0 + 4 + j; omega), hput_ne _ _ _ _ (by omega), hput_ne _ _ _ _ (by omega), hput_ne _ _ _ _ (by omega)]
    exact y1 o h2
end Go.Av
