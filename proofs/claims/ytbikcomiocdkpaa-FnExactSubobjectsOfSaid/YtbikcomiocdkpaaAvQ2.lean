/-
  Subobjects: both sides.
-/
import Derived.Test.YtbikcomiocdkpaaAvR2
import Derived.Test.YtbikcomiocdkpaaAvQ0
import Derived.Test.YtbikcomiocdkpaaAvN0
import Derived.Test.YtbikcomiocdkpaaAvI1
import Derived.Test.YtbikcomiocdkpaaAvS0
namespace Go.Av
open Classical
set_option linter.unusedSimpArgs false
set_option linter.unusedVariables false
variable {P : Program} {ν : Nat → FuncId}

/-- A row of a list of lists, and what a change of it leaves. -/
theorem OwnD.at {R : List (List Int)} {v : AV} {H : Hp} {lo hi : Nat} (h : OwnD R v H lo hi) {j : Nat} (hj : j < R.length) (hne : R.getD j [] ≠ []) :
    ∃ (o o' : Nat) (cells : List AV), v = .ms o 0 R.length 1 ∧ H o = Option.some cells ∧ cells.length = R.length ∧ cells[j]? = Option.some (AV.ms o' 0 (R.getD j []).length 1) ∧ H o' = Option.some (ints (R.getD j [])) ∧ o' ≠ o ∧ lo ≤ o' ∧ o' < hi ∧ lo ≤ o ∧ o < hi ∧
      ∀ (l : List Int) (H' : Hp), H' o' = Option.some (ints l) → H' o = Option.some (cells.set j (AV.ms o' 0 l.length 1)) → (∀ t, lo ≤ t → t < hi → t ≠ o → t ≠ o' → H' t = H t) → OwnD (R.set j l) v H' lo hi := by
  rcases h with ⟨rfl, _⟩ | ⟨o, cells, h1, h2, h3, h4, h5, h6, h7⟩
  · simp at hj
  · have hjc : j < cells.length := by omega
    have hc : cells[j]? = Option.some cells[j] := List.getElem?_eq_getElem hjc
    rcases h6 j _ hc with ⟨e, _⟩ | ⟨o', e1, e2, e3, e4, e5⟩
    · exact absurd e hne
    · refine ⟨o, o', cells, h1, h4, h5, by rw [hc, e1], e5, e4, e2, e3, h2, h3, fun l H' g1 g2 g3 => ?_⟩
      refine .inr ⟨o, cells.set j (AV.ms o' 0 l.length 1), by rw [h1]; simp, h2, h3, g2, by simp [h5], fun k a hk => ?_, fun a b x n1 n2 ha hb => ?_⟩
      · by_cases ek : k = j
        · subst ek
          rw [List.getElem?_set_self (by omega)] at hk
          cases hk
          rw [show (R.set k l).getD k [] = l from by simp [List.getD, hj]]
          exact .inr ⟨o', rfl, e2, e3, e4, g1⟩
        · rw [List.getElem?_set_ne (fun e => ek e.symm)] at hk
          rw [show (R.set j l).getD k [] = R.getD k [] from by simp [List.getD, List.getElem?_set_ne (fun e : j = k => ek e.symm)]]
          rcases h6 k a hk with q | ⟨o2, q1, q2, q3, q4, q5⟩
          · exact .inl q
          · refine .inr ⟨o2, q1, q2, q3, q4, (g3 o2 q2 q3 q4 fun e => ek ?_).trans q5⟩
            rw [q1] at hk
            rw [e] at hk
            exact h7 k j o' _ _ hk (by rw [hc, e1])
      · -- the objects of the rows are those they were
        have key : ∀ (i m : Nat), (cells.set j (AV.ms o' 0 l.length 1))[i]? = Option.some (AV.ms x 0 m 1) → ∃ m', cells[i]? = Option.some (AV.ms x 0 m' 1) := fun i m hi' => by
          by_cases ei : i = j
          · subst ei
            rw [List.getElem?_set_self (by omega)] at hi'
            cases hi'
            exact ⟨_, by rw [hc, e1]⟩
          · rw [List.getElem?_set_ne (fun e => ei e.symm)] at hi'
            exact ⟨_, hi'⟩
        obtain ⟨m1, k1⟩ := key a n1 ha
        obtain ⟨m2, k2⟩ := key b n2 hb
        exact h7 a b x m1 m2 k1 k2
theorem OwnD.plen {R : List (List Int)} {v : AV} {H : Hp} {lo hi : Nat} (h : OwnD R v H lo hi) : pvf H .len [v] = Option.some (int R.length) := by
  rcases h with ⟨rfl, rfl⟩ | ⟨o, cells, rfl, h2, h3, h4, h5, h6, h7⟩
  · rfl
  · exact p_lenm h4 h5

theorem map_getD {l : List (List Int)} {i : Nat} (h : i < l.length) (f : List Int → List Int) : (l.map f).getD i [] = f (l.getD i []) := by simp [List.getD, h]
/-- Classes: the plain side. e tells whether two are alike. -/
def subStep (e : Int → Int → Bool) (out : List (List Int)) (m : Int) : List (List Int) :=
  if out.any (fun l => e m (l.getD 0 0)) then out.map (fun l => if e m (l.getD 0 0) then l ++ [m] else l) else out ++ [[m]]
def subL (e : Int → Int → Bool) (ms : List Int) : List (List Int) := ms.foldl (subStep e) []
structure SubOk (e : Int → Int → Bool) (p : Int → Prop) (n : Nat) (out : List (List Int)) : Prop where
  len : out.length ≤ n
  row : ∀ i, i < out.length → (out.getD i []) ≠ [] ∧ (out.getD i []).length ≤ n ∧ p ((out.getD i []).getD 0 0)
  sep : ∀ i j, i < out.length → j < out.length → i ≠ j → e ((out.getD i []).getD 0 0) ((out.getD j []).getD 0 0) = false
theorem subStep_ok {e : Int → Int → Bool} {p : Int → Prop} (sym : ∀ a b, e a b = e b a) {n : Nat} {out : List (List Int)} (h : SubOk e p n out) {m : Int} (hm : p m) : SubOk e p (n + 1) (subStep e out m) := by
  unfold subStep
  split
  · have hl : (out.map fun l => if e m (l.getD 0 0) then l ++ [m] else l).length = out.length := by simp
    have at' : ∀ i, i < out.length → (out.map fun l => if e m (l.getD 0 0) then l ++ [m] else l).getD i [] = if e m ((out.getD i []).getD 0 0) then out.getD i [] ++ [m] else out.getD i [] := fun i hi => map_getD hi _
    have hd : ∀ i, i < out.length → ((out.map fun l => if e m (l.getD 0 0) then l ++ [m] else l).getD i []).getD 0 0 = (out.getD i []).getD 0 0 := fun i hi => by
      rw [at' i hi]
      split
      · obtain ⟨r1, _, _⟩ := h.row i hi
        cases hr : out.getD i [] with
        | nil => exact absurd hr r1
        | cons a l => rfl
      · rfl
    refine ⟨by rw [hl]; have := h.len; omega, fun i hi => ?_, fun i j hi hj hne => ?_⟩
    · rw [hl] at hi
      obtain ⟨r1, r2, r3⟩ := h.row i hi
      rw [hd i hi, at' i hi]
      refine ⟨?_, ?_, r3⟩
      · split
        · simp
        · exact r1
      · split
        · simp only [List.length_append, List.length_cons, List.length_nil]; omega
        · omega
    · rw [hl] at hi hj
      rw [hd i hi, hd j hj]
      exact h.sep i j hi hj hne
  · rename_i hno
    have hno' : ∀ i, i < out.length → e m ((out.getD i []).getD 0 0) = false := fun i hi => by
      rw [Bool.eq_false_iff]
      intro q
      exact hno (List.any_eq_true.2 ⟨out.getD i [], by simp [List.getD, hi], q⟩)
    have at1 : ∀ i, i < out.length → (out ++ [[m]]).getD i [] = out.getD i [] := fun i hi => by simp [List.getD, List.getElem?_append_left hi]
    have at2 : (out ++ [[m]]).getD out.length [] = [m] := by simp [List.getD]
    refine ⟨by have := h.len; simp; omega, fun i hi => ?_, fun i j hi hj hne => ?_⟩
    · by_cases e1 : i < out.length
      · rw [at1 i e1]
        obtain ⟨r1, r2, r3⟩ := h.row i e1
        exact ⟨r1, by omega, r3⟩
      · have : i = out.length := by simp at hi; omega
        subst this
        rw [at2]
        exact ⟨by simp, by simp, hm⟩
    · by_cases e1 : i < out.length
      · rw [at1 i e1]
        by_cases e2 : j < out.length
        · rw [at1 j e2]; exact h.sep i j e1 e2 hne
        · have : j = out.length := by simp at hj; omega
          subst this
          rw [at2, sym]; exact hno' i e1
      · have : i = out.length := by simp at hi; omega
        subst this
        have e2 : j < out.length := by simp at hj; omega
        rw [at2, at1 j e2]; exact hno' j e2
theorem subL_ok {e : Int → Int → Bool} {p : Int → Prop} (sym : ∀ a b, e a b = e b a) {ms : List Int} (hp : ∀ m ∈ ms, p m) (i : Nat) (hi : i ≤ ms.length) : SubOk e p i (subL e (ms.take i)) := by
  induction i with
  | zero => exact ⟨by simp [subL], fun i hi => by simp [subL] at hi, fun i j hi => by simp [subL] at hi⟩
  | succ i ih =>
    rw [take_succ_at (show i < ms.length by omega)]
    unfold subL at ih ⊢
    rw [List.foldl_append]
    exact subStep_ok sym (ih (by omega)) (hp _ (by simp [List.getD, show i < ms.length by omega]))
theorem subL_succ {e : Int → Int → Bool} {ms : List Int} {i : Nat} (h : i < ms.length) : subL e (ms.take (i + 1)) = subStep e (subL e (ms.take i)) (ms.getD i 0) := by
  rw [take_succ_at h]; unfold subL; rw [List.foldl_append]; rfl
/-- With one like class, that one changes. -/
theorem subStep_at {e : Int → Int → Bool} {p : Int → Prop} (sym : ∀ a b, e a b = e b a) (tr : ∀ a b d, p a → p b → p d → e a b = true → e b d = true → e a d = true) {n : Nat} {out : List (List Int)} (h : SubOk e p n out) {m : Int} (hm : p m) {j : Nat} (hj : j < out.length) (hjm : e m ((out.getD j []).getD 0 0) = true) :
    subStep e out m = out.set j (out.getD j [] ++ [m]) := by
  unfold subStep
  rw [if_pos (List.any_eq_true.2 ⟨out.getD j [], by simp [List.getD, hj], hjm⟩)]
  refine List.ext_getElem (by simp) fun i h1 h2 => ?_
  have hi : i < out.length := by simpa using h1
  have gi : out[i] = out.getD i [] := by simp [List.getD, hi]
  rw [List.getElem_map, List.getElem_set, gi]
  by_cases ei : j = i
  · subst ei
    rw [if_pos rfl, if_pos hjm]
  · rw [if_neg ei, if_neg]
    intro q
    have := h.sep j i hj hi ei
    rw [tr _ m _ (h.row j hj).2.2 hm (h.row i hi).2.2 (by rw [sym]; exact hjm) q] at this
    cases this
theorem subStep_new {e : Int → Int → Bool} {out : List (List Int)} {m : Int} (h : ∀ j, j < out.length → e m ((out.getD j []).getD 0 0) = false) : subStep e out m = out ++ [[m]] := by
  unfold subStep
  rw [if_neg]
  intro q
  obtain ⟨l, hl, q⟩ := List.any_eq_true.1 q
  obtain ⟨j, hj, rfl⟩ := List.getElem_of_mem hl
  have := h j hj
  rw [show out.getD j [] = out[j] from by simp [List.getD, hj]] at this
  rw [this] at q
  cases q

def V_classesOf : Vc :=
  .op true (.p (.msl 0 [] []) []) <|
  .op true (.p .len [.t 0]) <|
  .loop 0 [.t 2, .c (int 0)] <|
  .op true (.p (.bin .lss) [.t 5, .t 3]) <|
  .br 6
   (.op true (.p (.iad 1) [.t 0, .t 5]) <|
   .op true (.p (.ld none) [.t 7]) <|
   .op true (.p .len [.t 4]) <|
   .loop 1 [.c (int 0)] <|
   .op true (.p (.bin .lss) [.t 10, .t 9]) <|
   .br 11
    (.op true (.p (.iad 1) [.t 4, .t 10]) <|
    .op true (.p (.ld none) [.t 12]) <|
    .op true (.p (.iad 1) [.t 13, .c (int 0)]) <|
    .op true (.p (.ld none) [.t 14]) <|
    .op true (.call (.t 1) [.t 8, .t 15]) <|
    .br 16
     (.op true (.p (.iad 1) [.t 13, .c (int 0)]) <|
     .op true (.p (.ld none) [.t 17]) <|
     .op true (.call (.t 1) [.t 18, .t 8]) <|
     .br 19
      (.op true (.p (.msl 1 [int 0] [(0, 1)]) [.t 8]) <|
      .op true (.app 1 (.t 13) (.t 20)) <|
      .op true (.p (.iad 1) [.t 4, .t 10]) <|
      .op true (.st 1 (.t 22) (.t 21)) <|
      .op true (.p (.bin .add) [.t 5, .c (int 1)]) <|
      .again 0 [.t 4, .t 24])
      (.op true (.p (.bin .add) [.t 10, .c (int 1)]) <|
      .again 1 [.t 20]))
     (.op true (.p (.bin .add) [.t 10, .c (int 1)]) <|
     .again 1 [.t 17]))
    (.op true (.mslm 1 1 [int 0] [(0, 1)] [.t 8]) <|
    .op true (.mslm 1 1 [.nil] [(0, 1)] [.t 12]) <|
    .op true (.app 1 (.t 4) (.t 13)) <|
    .op true (.p (.bin .add) [.t 5, .c (int 1)]) <|
    .again 0 [.t 14, .t 15]))
   (.ret [(.t 4, none)])
set_option maxHeartbeats 4000000 in
theorem classesOf_ok (h : Has P ν 331 2 V_classesOf) (ms : List Int) (hl : ms.length ≤ 40) (p : Int → Prop) (hp : ∀ m ∈ ms, p m) (b : Int → Int → Bool) (tr : ∀ x y d, p x → p y → p d → (b x y && b y x) = true → (b y d && b d y) = true → (b x d && b d x) = true) (id : Nat) (cs : List AV) (hcs : ∀ H xs, frzL H (.fn id cs :: xs) = (frzL H xs).map (.fn id cs :: ·)) (hcs2 : ∀ H, frzL H cs = Option.some cs)
    (hφ : ∀ x y, p x → p y → Fz (OkM P ν) id ([int x, int y] ++ cs) (bool (b x y))) (nx : Nat) :
    OkM P ν 331 [islice ms, .fn id cs] hempty nx (fun r H' nx' => nx ≤ nx' ∧ OwnD (subL (fun x y => b x y && b y x) ms) r H' nx nx' ∧ clnH nx H') := by
  refine h _ _ _ _ rfl fun hwf => ?_
  unfold V_classesOf
  have sym : ∀ x y, (b x y && b y x) = (b y x && b x y) := fun x y => Bool.and_comm _ _
  try simp (disch := (first | rfl | with_reducible assumption | with_reducible solve_by_elim (maxDepth := 8) [Shape.inT, Shape.inI, Shape.inC, Shape.inK, Shape.obF, Shape.obT, Shape.arI, Arr.inF] | omega)) only [S2, Nat.reduceEqDiff, Nat.reduceAdd, iput, puts]
  refine den_loop (α := Nat × AV) (fun a => [a.2, int a.1]) (fun a H' nx' => a.1 ≤ ms.length ∧ OwnD (subL (fun x y => b x y && b y x) (ms.take a.1)) a.2 H' nx nx' ∧ nx ≤ nx') (fun a => ms.length - a.1) (0, .nil) rfl ⟨Nat.zero_le _, OwnD.nil, Nat.le_refl _⟩ ?_
  rintro ⟨i, v⟩ H1 n1 ⟨hi, hI, hn1⟩
  simp only at hi hI
  by_cases hlt : i < ms.length
  · have i1 : In ms (i : Int) := In.nat hlt
    have sok := subL_ok (e := fun x y => b x y && b y x) sym hp i hi
    have ssucc := subL_succ (e := fun x y => b x y && b y x) hlt
    have pm : p (gI ms i) := hp _ (gI_mem i1)
    rw [show ms.getD i 0 = gI ms i from rfl] at ssucc
    generalize hO : subL (fun x y => b x y && b y x) (ms.take i) = out at hI sok ssucc
    generalize hm : gI ms i = m at pm ssucc
    have ol := sok.len
    try simp (disch := (first | rfl | with_reducible assumption | with_reducible solve_by_elim (maxDepth := 8) [Shape.inT, Shape.inI, Shape.inC, Shape.inK, Shape.obF, Shape.obT, Shape.arI, Arr.inF] | omega)) only [S2, Nat.reduceEqDiff, Nat.reduceAdd, iput, puts, hlt, hm, hI.plen]
    refine den_loop (α := Nat) (fun a => [int a]) (fun a H' nx' => (a ≤ out.length ∧ ∀ k, k < a → (b m ((out.getD k []).getD 0 0) && b ((out.getD k []).getD 0 0) m) = false) ∧ H' = H1 ∧ nx' = n1) (fun a => out.length - a) 0 rfl ⟨⟨Nat.zero_le _, fun k hk => by omega⟩, rfl, rfl⟩ ?_
    rintro j H2 n2 ⟨⟨hj, hno⟩, rfl, rfl⟩
    by_cases hlj : j < out.length
    · obtain ⟨r1, r2, r3⟩ := sok.row j hlj
      obtain ⟨o, o', cells, rfl, g1, g2, g3, g4, g5, g6, g7, g8, g9, upd⟩ := hI.at hlj r1
      have l0 : 0 < (out.getD j []).length := List.length_pos_iff.2 r1
      generalize hrow : out.getD j [] = row at r1 r2 r3 g3 g4 upd l0
      generalize hh : row.getD 0 0 = hd at r3
      have gh : (ints row)[0]? = Option.some (int hd) := by rw [ints_get, if_pos l0, hh]
      have z0 : pvf H2 (.iad 1) [.ms o' 0 row.length 1, int 0] = Option.some (.mp o' 0 row.length) := by
        have := p_iadm (i := 0) g4 (ints_length row)
        rw [if_pos ⟨Int.le_refl _, by omega⟩] at this
        exact this
      have z1 : pvf H2 (.iad 1) [.ms o 0 out.length 1, int (j : Int)] = Option.some (.mp o j out.length) := by rw [p_iadm g1 g2, if_pos ⟨by omega, by omega⟩]; rfl
      have z2 : pvf H2 (.ld none) [.mp o j out.length] = Option.some (.ms o' 0 row.length 1) := by rw [p_ldm g1 g2]; exact g3
      have z3 : pvf H2 (.ld none) [.mp o' 0 row.length] = Option.some (int hd) := by rw [p_ldm g4 (ints_length row)]; exact gh
      have next : (b m hd && b hd m) = false → ∃ a' : Nat, [int ((j + 1 : Nat) : Int)] = [int (a' : Int)] ∧ (a' ≤ out.length ∧ ∀ k, k < a' → (b m ((out.getD k []).getD 0 0) && b ((out.getD k []).getD 0 0) m) = false) ∧ out.length - a' < out.length - j := fun q => by
        refine ⟨j + 1, rfl, ⟨hlj, fun k hk => ?_⟩, by omega⟩
        by_cases ek : k = j
        · subst ek; rw [hrow, hh]; exact q
        · exact hno k (by omega)
      try simp (disch := (first | rfl | with_reducible assumption | with_reducible solve_by_elim (maxDepth := 8) [Shape.inT, Shape.inI, Shape.inC, Shape.inK, Shape.obF, Shape.obT, Shape.arI, Arr.inF] | omega)) only [S2, Nat.reduceEqDiff, Nat.reduceAdd, iput, puts, hlj, z0, z1, z2, z3]
      refine den_call (fc := (id, cs)) (ys := [int m, int hd] ++ cs) rfl ?_ (hφ m hd pm r3) ?_
      · simp only [SS, Nat.reduceEqDiff, Nat.reduceAdd, iput, puts, FF, frzL_cat, hcs2]
      try simp (disch := (first | rfl | with_reducible assumption | with_reducible solve_by_elim (maxDepth := 8) [Shape.inT, Shape.inI, Shape.inC, Shape.inK, Shape.obF, Shape.obT, Shape.arI, Arr.inF] | omega)) only [S2, Nat.reduceEqDiff, Nat.reduceAdd, iput, puts, z0, z3]
      refine ⟨fun q1 => ?_, fun q1 => ?_⟩
      · try simp (disch := (first | rfl | with_reducible assumption | with_reducible solve_by_elim (maxDepth := 8) [Shape.inT, Shape.inI, Shape.inC, Shape.inK, Shape.obF, Shape.obT, Shape.arI, Arr.inF] | omega)) only [S2, Nat.reduceEqDiff, Nat.reduceAdd, iput, puts, z0, z3]
        refine den_call (fc := (id, cs)) (ys := [int hd, int m] ++ cs) rfl ?_ (hφ hd m r3 pm) ?_
        · simp only [SS, Nat.reduceEqDiff, Nat.reduceAdd, iput, puts, FF, frzL_cat, hcs2]
        try simp (disch := (first | rfl | with_reducible assumption | with_reducible solve_by_elim (maxDepth := 8) [Shape.inT, Shape.inI, Shape.inC, Shape.inK, Shape.obF, Shape.obT, Shape.arI, Arr.inF] | omega)) only [S2, Nat.reduceEqDiff, Nat.reduceAdd, iput, puts]
        refine ⟨fun q2 => ?_, fun q2 => ?_⟩
        · try simp (disch := (first | rfl | with_reducible assumption | with_reducible solve_by_elim (maxDepth := 8) [Shape.inT, Shape.inI, Shape.inC, Shape.inK, Shape.obF, Shape.obT, Shape.arI, Arr.inF] | omega)) only [S2, Nat.reduceEqDiff, Nat.reduceAdd, iput, puts]
          refine den_app (cm := ([int m], 1)) (q := (.ms o' 0 (row.length + 1) 1, hput H2 o' (Option.some (ints (row ++ [m]))), n2)) rfl rfl ?_ ?_
          · simp only [SS, Nat.reduceEqDiff, Nat.reduceAdd, iput, puts]
            simp only [appTo, if_true, g4, Nat.mul_one, ints_length, appMax]
            rw [if_pos ⟨trivial, by omega⟩]
            simp [ints]
          have c1 : hput H2 o' (Option.some (ints (row ++ [m]))) o = Option.some cells := by rw [hput_ne _ _ _ _ (by omega)]; exact g1
          have z1' : pvf (hput H2 o' (Option.some (ints (row ++ [m])))) (.iad 1) [.ms o 0 out.length 1, int (j : Int)] = Option.some (.mp o j out.length) := by rw [p_iadm c1 g2, if_pos ⟨by omega, by omega⟩]; rfl
          try simp (disch := (first | rfl | with_reducible assumption | with_reducible solve_by_elim (maxDepth := 8) [Shape.inT, Shape.inI, Shape.inC, Shape.inK, Shape.obF, Shape.obT, Shape.arI, Arr.inF] | omega)) only [S2, Nat.reduceEqDiff, Nat.reduceAdd, iput, puts, z1']
          refine den_st1G (o := o) (p := j) (m := out.length) (c := cells) (u := .ms o' 0 (row.length + 1) 1) rfl rfl c1 g2 hlj rfl fun H5 y5 e5 => ?_
          try simp (disch := (first | rfl | with_reducible assumption | with_reducible solve_by_elim (maxDepth := 8) [Shape.inT, Shape.inI, Shape.inC, Shape.inK, Shape.obF, Shape.obT, Shape.arI, Arr.inF] | omega)) only [S2, Nat.reduceEqDiff, Nat.reduceAdd, iput, puts]
          refine ⟨(i + 1, .ms o 0 out.length 1), rfl, ⟨hlt, ?_, hn1⟩, by simp only; omega⟩
          simp only
          rw [ssucc, subStep_at (e := fun x y => b x y && b y x) sym tr sok pm hlj (by rw [hrow, hh, q1, q2]; rfl), hrow]
          refine upd (row ++ [m]) H5 ?_ ?_ fun t q1 q2 q3 q4 => ?_
          · rw [e5 _ (by omega)]; exact hput_eq _ _ _
          · rw [y5]; simp
          · rw [e5 _ q3]; exact hput_ne _ _ _ _ q4
        · try simp (disch := (first | rfl | with_reducible assumption | with_reducible solve_by_elim (maxDepth := 8) [Shape.inT, Shape.inI, Shape.inC, Shape.inK, Shape.obF, Shape.obT, Shape.arI, Arr.inF] | omega)) only [S2, Nat.reduceEqDiff, Nat.reduceAdd, iput, puts]
          exact next (by rw [q2, Bool.and_false])
      · try simp (disch := (first | rfl | with_reducible assumption | with_reducible solve_by_elim (maxDepth := 8) [Shape.inT, Shape.inI, Shape.inC, Shape.inK, Shape.obF, Shape.obT, Shape.arI, Arr.inF] | omega)) only [S2, Nat.reduceEqDiff, Nat.reduceAdd, iput, puts]
        exact next (by rw [q1, Bool.false_and])
    · try simp (disch := (first | rfl | with_reducible assumption | with_reducible solve_by_elim (maxDepth := 8) [Shape.inT, Shape.inI, Shape.inC, Shape.inK, Shape.obF, Shape.obT, Shape.arI, Arr.inF] | omega)) only [S2, Nat.reduceEqDiff, Nat.reduceAdd, iput, puts, hlj]
      refine den_lit1 (a := m) rfl fun H4 y4 e4 => ?_
      refine den_rowD (R := out) (l := [m]) (lo := nx) (mid := n2) (hI.mono (Nat.le_refl _) fun k q1 q2 => e4 k q2) (by omega) (fun _ => rfl) hn1 (by omega) (.inr ⟨n2, Nat.le_refl _, by omega, rfl, y4⟩) fun v3 H5 n5 hO5 hn5 _ _ => ?_
      try simp (disch := (first | rfl | with_reducible assumption | with_reducible solve_by_elim (maxDepth := 8) [Shape.inT, Shape.inI, Shape.inC, Shape.inK, Shape.obF, Shape.obT, Shape.arI, Arr.inF] | omega)) only [S2, Nat.reduceEqDiff, Nat.reduceAdd, iput, puts]
      refine ⟨(i + 1, v3), rfl, ⟨hlt, ?_, by omega⟩, by simp only; omega⟩
      simp only
      rw [ssucc, subStep_new (e := fun x y => b x y && b y x) fun k hk => hno k (by omega)]
      exact hO5
  · try simp (disch := (first | rfl | with_reducible assumption | with_reducible solve_by_elim (maxDepth := 8) [Shape.inT, Shape.inI, Shape.inC, Shape.inK, Shape.obF, Shape.obT, Shape.arI, Arr.inF] | omega)) only [S2, Nat.reduceEqDiff, Nat.reduceAdd, iput, puts, hlt]
    have : i = ms.length := by omega
    subst this
    rw [List.take_length] at hI
    exact ⟨_, rfl, keepH nx H1, keepH_sub _ _, hn1, hI.keep, keepH_cln _ _⟩
end Go.Av
