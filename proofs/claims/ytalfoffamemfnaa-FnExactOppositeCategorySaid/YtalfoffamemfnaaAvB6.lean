/-
  Arrows that are mono together: the program's and the reference's.
-/
import Derived.Test.YtalfoffamemfnaaAvB5
namespace Go.Av
open Classical
set_option linter.unusedSimpArgs false
set_option linter.unusedVariables false
variable {P : Program} {ν : Nat → FuncId}

section loops
variable {C : Ct} {Φ : AV → Hp → Nat → Prop} {n : Nat} {vars : Nat → AV} {H : Hp} {nx : Nat} {Is : Nat → Inv} {body : Vc} {d : Nat}
/-- A loop that counts from s. -/
theorem den_forS {x : Opd} (N s : Nat) (hs : s ≤ N) (hx : ev vars x = int s) (p : Nat → Prop) (h0 : p s) (hr : ∀ i : Nat, s ≤ i → i ≤ N → p i → den C Φ body (n + 1) (put vars n (int i)) H nx (iput Is d (Up N (fun i => s ≤ i ∧ p i) H nx i))) : den C Φ (.loop d [x] body) n vars H nx Is :=
  den_loop (α := Nat) (fun i => [int i]) (fun i H' nx' => i ≤ N ∧ (s ≤ i ∧ p i) ∧ H' = H ∧ nx' = nx) (fun i => N - i) s (by simp only [List.map_cons, List.map_nil, hx]) ⟨hs, ⟨Nat.le_refl _, h0⟩, rfl, rfl⟩ fun i H' nx' ⟨h1, ⟨h1', h2⟩, h3, h4⟩ => by
    subst h3; subst h4
    exact hr i h1' h1 h2
def AllI (N : Nat) (Q0 : Prop) (q : Nat → Prop) (H : Hp) (nx i : Nat) : Inv := fun us H' nx' => ∃ b, us = [bool b, int ((i + 1 : Nat) : Int)] ∧ i < N ∧ (b = true ↔ Q0 ∧ ∀ w, w < i + 1 → q w) ∧ H' = H ∧ nx' = nx
/-- A loop with a flag that says whether all went well so far. -/
theorem den_all {x : Opd} (N : Nat) (Q0 : Prop) (q : Nat → Prop) (b0 : Bool) (hx : ev vars x = bool b0) (hb : b0 = true ↔ Q0)
    (hr : ∀ i b, i ≤ N → (b = true ↔ Q0 ∧ ∀ w, w < i → q w) → den C Φ body (n + 2) (put (put vars n (bool b)) (n + 1) (int (i : Int))) H nx (iput Is d (AllI N Q0 q H nx i))) :
    den C Φ (.loop d [x, .c (int 0)] body) n vars H nx Is := by
  refine den_loop (α := Nat × Bool) (fun a => [bool a.2, int a.1]) (fun a H' nx' => a.1 ≤ N ∧ (a.2 = true ↔ Q0 ∧ ∀ w, w < a.1 → q w) ∧ H' = H ∧ nx' = nx) (fun a => N - a.1) (0, b0) ?_ ⟨Nat.zero_le _, by simp only [hb]; exact ⟨fun h => ⟨h, fun w hw => by omega⟩, fun h => h.1⟩, rfl, rfl⟩ ?_
  · simp only [List.map_cons, List.map_nil, hx]; rfl
  · rintro ⟨i, b⟩ H' nx' ⟨hi, hI, rfl, rfl⟩
    refine den_mono _ ?_ (hr i b hi hI)
    intro j us H2 nx2 hj
    simp only [iput] at hj ⊢
    split at hj
    · rename_i e1
      rw [if_pos e1]
      obtain ⟨b', e2, e3, e4, e5, e6⟩ := hj
      exact ⟨(i + 1, b'), e2, ⟨e3, e4, e5, e6⟩, by simp only; omega⟩
    · rename_i e1; rw [if_neg e1]; exact hj
theorem all_next {N : Nat} {Q0 : Prop} {q : Nat → Prop} {H : Hp} {nx i : Nat} {b b' : Bool} {a : Int} (ha : a = ((i + 1 : Nat) : Int)) (hi : i < N) (hb : b = true) (hI : b = true ↔ Q0 ∧ ∀ w, w < i → q w) (hq : b' = true ↔ q i) : AllI N Q0 q H nx i [bool b', int a] H nx := by
  subst ha
  refine ⟨b', rfl, hi, ?_, rfl, rfl⟩
  have h := hI.1 hb
  rw [hq]
  refine ⟨fun hqi => ⟨h.1, fun w hw => ?_⟩, fun hh => hh.2 i (by omega)⟩
  by_cases e : w = i
  · subst e; exact hqi
  · exact h.2 w (by omega)
end loops
theorem nextP {p : Nat → Prop} {i : Nat} (hp : ∀ j, j < i → p j) (h : p i) : ∀ j, j < i + 1 → p j := fun j hj => by
  by_cases e : j = i
  · subst e; exact h
  · exact hp j (by omega)
theorem p_slcI {H : Hp} {l : List Int} {a : Int} (h0 : 0 ≤ a) (h1 : a ≤ l.length) : pvf H (.slc true false 1) [islice l, int a] = some (islice (l.drop a.toNat)) := by
  have e : (l.length - a).toNat = l.length - a.toNat := by omega
  simp only [pvf, pSlc, islice, int, List.getElem?_cons_zero, Option.bind_some, asI, if_true, Bool.false_eq_true, if_false, h0, h1, Int.le_refl, true_and, ints, List.length_map, Nat.mul_one, e, List.length_drop]
  rw [List.take_of_length_le (by simp), List.map_drop]

/-- No two of a list that all ways take to the same. -/
def Canc (l : List Int) (n : Nat) (φ : Int → Nat → Int) : Prop := ∀ i, i < l.length → ∀ j, j < (l.drop (i + 1)).length → ¬ ∀ w, w < n → φ (l.getD i 0) w = φ ((l.drop (i + 1)).getD j 0) w
theorem getD_drop {l : List Int} {k j : Nat} : (l.drop k).getD j 0 = l.getD (k + j) 0 := by simp [List.getD]
theorem Canc_pairwise (l : List Int) (n : Nat) (φ : Int → Nat → Int) : Canc l n φ ↔ l.Pairwise fun a b => ¬ ∀ w, w < n → φ a w = φ b w := by
  rw [List.pairwise_iff_getElem]
  constructor
  · intro h i j hi hj hij
    have := h i hi (j - (i + 1)) (by simp; omega)
    rw [getD_drop, show i + 1 + (j - (i + 1)) = j by omega] at this
    simpa [List.getD, hi, hj] using this
  · intro h i hi j hj
    simp only [List.length_drop] at hj
    have := h i (i + 1 + j) hi (by omega) (by omega)
    rw [getD_drop]
    simpa [List.getD, hi, show i + 1 + j < l.length by omega] using this
theorem Canc_sel (m : Nat) (p : Nat → Bool) (n : Nat) (φ : Int → Nat → Int) : Canc (selL m p) n φ ↔ ∀ g h : Nat, g < h → h < m → p g = true → p h = true → ¬ ∀ w, w < n → φ g w = φ h w := by
  rw [Canc_pairwise, selL, List.pairwise_map, List.pairwise_filter, List.pairwise_iff_getElem]
  simp only [List.length_range, List.getElem_range]
  exact ⟨fun h a b h1 h2 h3 h4 => h a b (by omega) h2 h1 h3 h4, fun h a b h1 h2 h3 h4 h5 => h a b h3 h2 h4 h5⟩

theorem frzL_cl {H : Hp} {a b : Int} {cs : List AV} (hf : ∀ H, frzL H cs = some cs) : frzL H ([int a, int b] ++ cs) = some ([int a, int b] ++ cs) := by
  have := hf H
  simp only [frzL] at this ⊢
  simp only [List.cons_append, List.nil_append, List.mapM_cons, this]
  rfl

def V_cancels : Vc :=
  .op true (.p .len [.t 0]) <|
  .loop 0 [.c (int 0)] <|
  .op true (.p (.bin .lss) [.t 4, .t 3]) <|
  .br 5
   (.op true (.p (.iad 1) [.t 0, .t 4]) <|
   .op true (.p (.ld none) [.t 6]) <|
   .op true (.p (.bin .add) [.t 4, .c (int 1)]) <|
   .op true (.p (.slc true false 1) [.t 0, .t 8]) <|
   .op true (.p .len [.t 9]) <|
   .loop 1 [.c (int 0)] <|
   .op true (.p (.bin .lss) [.t 11, .t 10]) <|
   .br 12
    (.op true (.p (.iad 1) [.t 9, .t 11]) <|
    .op true (.p (.ld none) [.t 13]) <|
    .loop 2 [.c (bool true), .c (int 0)] <|
    .op true (.p (.bin .lss) [.t 16, .t 1]) <|
    .br 17
     (.br 15
      (.op true (.call (.t 2) [.t 7, .t 16]) <|
      .op true (.call (.t 2) [.t 14, .t 16]) <|
      .op true (.p (.bin .eql) [.t 18, .t 19]) <|
      .op true (.p (.bin .add) [.t 16, .c (int 1)]) <|
      .again 2 [.t 20, .t 21])
      (.op true (.p (.bin .add) [.t 11, .c (int 1)]) <|
      .again 1 [.t 18]))
     (.br 15
      (.ret [(.c (bool false), none)])
      (.op true (.p (.bin .add) [.t 11, .c (int 1)]) <|
      .again 1 [.t 18])))
    (.op true (.p (.bin .add) [.t 4, .c (int 1)]) <|
    .again 0 [.t 13]))
   (.ret [(.c (bool true), none)])
set_option maxHeartbeats 1000000 in
theorem cancels_ok (h : Has P ν 373 3 V_cancels) (l : List Int) (n : Nat) (id : Nat) (cs : List AV) (φ : Int → Nat → Int) (hl : l.length ≤ 1048576) (hn : n ≤ 1048576) (hf : ∀ H, frzL H cs = some cs)
    (hφ : ∀ i w : Nat, i < l.length → w < n → Fz (OkM P ν) id ([int (l.getD i 0), int w] ++ cs) (int (φ (l.getD i 0) w))) : Fn P ν 373 [islice l, int n, .fn id cs] (bool (decide (Canc l n φ))) := by
  intro H nx
  refine h _ _ _ _ rfl fun hwf => ?_
  unfold V_cancels
  simp only [SS, Nat.reduceEqDiff, Nat.reduceAdd, iput, puts]
  refine den_for l.length (fun i => ∀ i', i' < i → ∀ j, j < (l.drop (i' + 1)).length → ¬ ∀ w, w < n → φ (l.getD i' 0) w = φ ((l.drop (i' + 1)).getD j 0) w) (fun k hk => by omega) fun i hi pi => ?_
  by_cases hli : i < l.length
  · simp only [SS, Nat.reduceEqDiff, Nat.reduceAdd, iput, puts, hli, wrap_succ (show i < 9223372036854775807 by omega), p_slcI (l := l) (a := ((i + 1 : Nat) : Int)) (by omega) (by omega)]
    refine den_for (l.drop (i + 1)).length (fun j => ∀ j', j' < j → ¬ ∀ w, w < n → φ (l.getD i 0) w = φ ((l.drop (i + 1)).getD j' 0) w) (fun k hk => by omega) fun j hj pj => ?_
    have hdl : (l.drop (i + 1)).length ≤ l.length := by simp
    by_cases hlj : j < (l.drop (i + 1)).length
    · simp only [SS, Nat.reduceEqDiff, Nat.reduceAdd, iput, puts, hlj]
      refine den_all n True (fun w => φ (l.getD i 0) w = φ ((l.drop (i + 1)).getD j 0) w) true rfl (by simp) fun w b hw hb => ?_
      by_cases hlw : w < n
      · simp only [SS, Nat.reduceEqDiff, Nat.reduceAdd, iput, puts, hlw, wrap_succ (show j < 9223372036854775807 by omega)]
        refine ⟨fun h1 => ?_, fun h1 => up rfl hlj (nextP pj fun hh => ?_)⟩
        · refine den_call (fc := (id, cs)) (by simp only [SS, Nat.reduceEqDiff, Nat.reduceAdd, iput, puts]; rfl) (by simp only [SS, Nat.reduceEqDiff, Nat.reduceAdd, iput, puts]; exact frzL_cl hf) (hφ i w hli hlw) ?_
          refine den_call (fc := (id, cs)) (by simp only [SS, Nat.reduceEqDiff, Nat.reduceAdd, iput, puts]; rfl) (by simp only [SS, Nat.reduceEqDiff, Nat.reduceAdd, iput, puts]; exact frzL_cl hf) (by rw [getD_drop]; exact hφ (i + 1 + j) w (by simp at hlj; omega) hlw) ?_
          simp only [SS, Nat.reduceEqDiff, Nat.reduceAdd, iput, puts, wrap_succ (show w < 9223372036854775807 by omega)]
          exact all_next rfl hlw h1 hb (by rw [beq_iff_eq, getD_drop])
        · have := hb.2 ⟨trivial, fun w' hw' => hh w' (by omega)⟩
          simp [h1] at this
      · simp only [SS, Nat.reduceEqDiff, Nat.reduceAdd, iput, puts, hlw, wrap_succ (show j < 9223372036854775807 by omega)]
        refine ⟨fun h1 => ?_, fun h1 => up rfl hlj (nextP pj fun hh => ?_)⟩
        · exact ⟨_, rfl, H, fun _ _ h => h, ret_false (fun hC => hC i hli j hlj fun w' hw' => (hb.1 h1).2 w' (by omega)), rfl, Nat.le_refl _⟩
        · have := hb.2 ⟨trivial, fun w' hw' => hh w' (by omega)⟩
          simp [h1] at this
    · simp only [SS, Nat.reduceEqDiff, Nat.reduceAdd, iput, puts, hlj, wrap_succ (show i < 9223372036854775807 by omega)]
      exact up rfl hli (nextP pi fun j' hj' => pj j' (by omega))
  · simp only [SS, Nat.reduceEqDiff, Nat.reduceAdd, iput, puts, hli]
    exact ⟨_, rfl, H, fun _ _ h => h, ret_true (fun i' hi' j' hj' => pi i' (by omega) j' hj'), rfl, Nat.le_refl _⟩

def JMono (c : Cat) (x : Int) (as : List Int) : Prop := ∀ s, s < c.o.toNat → Canc (homL c s x) as.length fun g w => c.K g (as.getD w 0)
def V_Category_jointlyMono : Vc :=
  .op true (.p .box [.t 0]) <|
  .op true (.p .box [.t 2]) <|
  .loop 0 [.c (int 0)] <|
  .op true (.p (.ld none) [.t 3]) <|
  .op true (.p .nck [.t 6]) <|
  .op true (.p (.fad 0) [.t 7]) <|
  .op true (.p (.ld none) [.t 8]) <|
  .op true (.p (.bin .lss) [.t 5, .t 9]) <|
  .br 10
   (.op true (.p (.ld none) [.t 3]) <|
   .op true (.call (.f 33) [.t 11, .t 5, .t 1]) <|
   .op true (.p (.ld none) [.t 4]) <|
   .op true (.p .len [.t 13]) <|
   .op true (.p (.mkf 374) [.t 3, .t 4]) <|
   .op true (.call (.f 373) [.t 12, .t 14, .t 15]) <|
   .op true (.p .bnot [.t 16]) <|
   .br 17
    (.ret [(.c (bool false), none)])
    (.op true (.p (.bin .add) [.t 5, .c (int 1)]) <|
    .again 0 [.t 18]))
   (.ret [(.c (bool true), none)])
def V_Category_jointlyMono_1 : Vc :=
  .op true (.p (.ld none) [.t 2]) <|
  .op true (.p (.ld none) [.t 3]) <|
  .op true (.p (.iad 1) [.t 5, .t 1]) <|
  .op true (.p (.ld none) [.t 6]) <|
  .op true (.call (.f 34) [.t 4, .t 0, .t 7]) <|
  .ret [(.t 8, none)]
theorem p_boxI {H : Hp} (l : List Int) : pvf H .box [islice l] = some (.ptr [islice l] 0) := rfl
theorem p_boxP {H : Hp} (c : Cat) : pvf H .box [.ptr c.cells 0] = some (.ptr [.ptr c.cells 0] 0) := rfl
theorem p_mkf {H : Hp} {i : Nat} {xs : List AV} : pvf H (.mkf i) xs = some (.fn i xs) := rfl
theorem frzL_fn {H : Hp} {i : Nat} {x y : List AV} {xs : List AV} : frzL H (.fn i [.ptr x 0, .ptr y 0] :: xs) = (frzL H xs).map fun ys => .fn i [.ptr x 0, .ptr y 0] :: ys := by
  simp only [frzL, List.mapM_cons]
  cases List.mapM (frz H fuel) xs <;> rfl
theorem jm1_fz (ht : Has P ν 34 3 V_Category_then) (h : Has P ν 374 4 V_Category_jointlyMono_1) (c : Cat) (s : Shape c) (as : List Int) (hw : Wn as c.f.length) (g : Int) (g0 : 0 ≤ g) (g1 : g < c.f.length) (w : Nat) (hl : w < as.length) : Fz (OkM P ν) 374 [int g, int w, .ptr [.ptr c.cells 0] 0, .ptr [islice as] 0] (int (c.K g (as.getD w 0))) := by
  refine Fn.fzi fun H nx => h _ _ _ _ rfl fun hwf => ?_
  unfold V_Category_jointlyMono_1
  obtain ⟨w0, w1⟩ := hw w hl
  simp only [SS, Nat.reduceEqDiff, Nat.reduceAdd, iput, puts, hl]
  refine den_call (fc := (34, [])) rfl (by first | (simp only [SS, Nat.reduceEqDiff, Nat.reduceAdd, iput, puts, FF, frzL_cat]; done) | (simp only [SS, Nat.reduceEqDiff, Nat.reduceAdd, iput, puts, FF, frzL_cat]; rfl)) (s.then_fz ht g (as.getD w 0) g0 g1 w0 w1) ?_
  simp only [SS, Nat.reduceEqDiff, Nat.reduceAdd, iput, puts]
  exact ⟨_, rfl, H, fun _ _ h => h, rfl, rfl, Nat.le_refl _⟩
theorem jointlyMono_ok (hh : Has P ν 33 3 V_Category_hom) (ht : Has P ν 34 3 V_Category_then) (hca : Has P ν 373 3 V_cancels) (h1 : Has P ν 374 4 V_Category_jointlyMono_1) (h : Has P ν 244 3 V_Category_jointlyMono) (c : Cat) (s : Shape c) (x : Int) (as : List Int) (hl : as.length ≤ 1048576) (hw : Wn as c.f.length) : Fn P ν 244 [.ptr c.cells 0, int x, islice as] (bool (decide (JMono c x as))) := by
  intro H nx
  refine h _ _ _ _ rfl fun hwf => ?_
  unfold V_Category_jointlyMono
  have n40 := s.n40
  have tl := s.tl
  have o0 := s.o0
  have o8 := s.o8
  simp only [SS, Nat.reduceEqDiff, Nat.reduceAdd, iput, puts, p_boxI, p_boxP]
  refine den_for c.o.toNat (fun y => ∀ y', y' < y → Canc (homL c y' x) as.length fun g w => c.K g (as.getD w 0)) (fun k hk => by omega) fun y hy py => ?_
  by_cases hlt : y < c.o.toNat
  · have hlt' : (y : Int) < c.o := by omega
    simp only [SS, Nat.reduceEqDiff, Nat.reduceAdd, iput, puts, cat0, hlt']
    refine den_call (fc := (33, [])) rfl (by first | (simp only [SS, Nat.reduceEqDiff, Nat.reduceAdd, iput, puts, FF, frzL_cat]; done) | (simp only [SS, Nat.reduceEqDiff, Nat.reduceAdd, iput, puts, FF, frzL_cat]; rfl)) (hom_fz hh c y x (by omega) (by omega)) ?_
    simp only [SS, Nat.reduceEqDiff, Nat.reduceAdd, iput, puts, p_mkf]
    have hl1 := homL_len s y x
    refine den_call (fc := (373, [])) rfl (by first | (simp only [SS, Nat.reduceEqDiff, Nat.reduceAdd, iput, puts, FF, frzL_cat, frzL_fn]; done) | (simp only [SS, Nat.reduceEqDiff, Nat.reduceAdd, iput, puts, FF, frzL_cat, frzL_fn]; rfl)) ((cancels_ok hca (homL c y x) as.length 374 [.ptr [.ptr c.cells 0] 0, .ptr [islice as] 0] (fun g w => c.K g (as.getD w 0)) (by omega) hl (fun _ => rfl) fun i w hi hw' => jm1_fz ht h1 c s as hw _ (homL_at hi).1 (homL_at hi).2.1 w hw').fzb) ?_
    simp only [SS, Nat.reduceEqDiff, Nat.reduceAdd, iput, puts, wrap_succ (show y < 9223372036854775807 by omega)]
    refine ⟨fun h1 => ?_, fun h1 => up rfl hlt (nextP py h1)⟩
    exact ⟨_, rfl, H, fun _ _ h => h, ret_false (fun hJ => h1 (hJ y hlt)), rfl, Nat.le_refl _⟩
  · have hlt' : ¬ (y : Int) < c.o := by omega
    simp only [SS, Nat.reduceEqDiff, Nat.reduceAdd, iput, puts, cat0, hlt']
    exact ⟨_, rfl, H, fun _ _ h => h, ret_true (fun y' hy' => py y' (by omega)), rfl, Nat.le_refl _⟩

def JS (c : Cat) (as : List Int) : Prop := ∀ g : Nat, g < c.f.length → ∀ h : Nat, g + 1 ≤ h → h < c.f.length → ¬ (c.F g = c.F h ∧ c.T g = c.T h ∧ c.T g = c.F (as.getD 0 0) ∧ ∀ w, w < as.length → c.K g (as.getD w 0) = c.K h (as.getD w 0))
theorem JMono_iff {c : Cat} (s : Shape c) (as : List Int) : JMono c (c.F (as.getD 0 0)) as ↔ JS c as := by
  have il := s.il
  constructor
  · intro h g hg h' hgh hh ⟨e1, e2, e3, e4⟩
    have f1 := s.fLt hg
    have := (Canc_sel _ _ _ _).1 (h (c.F g).toNat (by omega)) g h' (by omega) hh (by simp only [Bool.and_eq_true, beq_iff_eq]; exact ⟨by omega, e3⟩) (by simp only [Bool.and_eq_true, beq_iff_eq]; exact ⟨by omega, by omega⟩)
    exact this e4
  · intro h y hy
    refine (Canc_sel _ _ _ _).2 fun g h' h1 h2 h3 h4 h5 => ?_
    simp only [Bool.and_eq_true, beq_iff_eq] at h3 h4
    exact h g (by omega) h' (by omega) h2 ⟨by rw [h3.1, h4.1], by rw [h3.2, h4.2], h3.2, h5⟩

def V_spec_l05Joint : Vc :=
  .op true (.p .box [.t 0]) <|
  .loop 0 [.c (int 0)] <|
  .op true (.p (.fad 1) [.t 2]) <|
  .op true (.p (.ld none) [.t 4]) <|
  .op true (.p .len [.t 5]) <|
  .op true (.p (.bin .lss) [.t 3, .t 6]) <|
  .br 7
   (.op true (.p (.bin .add) [.t 3, .c (int 1)]) <|
   .loop 1 [.t 8] <|
   .op true (.p (.fad 1) [.t 2]) <|
   .op true (.p (.ld none) [.t 10]) <|
   .op true (.p .len [.t 11]) <|
   .op true (.p (.bin .lss) [.t 9, .t 12]) <|
   .br 13
    (.op true (.p (.fad 1) [.t 2]) <|
    .op true (.p (.ld none) [.t 14]) <|
    .op true (.p (.iad 1) [.t 15, .t 3]) <|
    .op true (.p (.ld none) [.t 16]) <|
    .op true (.p (.fad 1) [.t 2]) <|
    .op true (.p (.ld none) [.t 18]) <|
    .op true (.p (.iad 1) [.t 19, .t 9]) <|
    .op true (.p (.ld none) [.t 20]) <|
    .op true (.p (.bin .eql) [.t 17, .t 21]) <|
    .br 22
     (.op true (.p (.fad 2) [.t 2]) <|
     .op true (.p (.ld none) [.t 23]) <|
     .op true (.p (.iad 1) [.t 24, .t 3]) <|
     .op true (.p (.ld none) [.t 25]) <|
     .op true (.p (.fad 2) [.t 2]) <|
     .op true (.p (.ld none) [.t 27]) <|
     .op true (.p (.iad 1) [.t 28, .t 9]) <|
     .op true (.p (.ld none) [.t 29]) <|
     .op true (.p (.bin .eql) [.t 26, .t 30]) <|
     .br 31
      (.op true (.p (.fad 2) [.t 2]) <|
      .op true (.p (.ld none) [.t 32]) <|
      .op true (.p (.iad 1) [.t 33, .t 3]) <|
      .op true (.p (.ld none) [.t 34]) <|
      .op true (.p (.fad 1) [.t 2]) <|
      .op true (.p (.ld none) [.t 36]) <|
      .op true (.p (.iad 1) [.t 1, .c (int 0)]) <|
      .op true (.p (.ld none) [.t 38]) <|
      .op true (.p (.iad 1) [.t 37, .t 39]) <|
      .op true (.p (.ld none) [.t 40]) <|
      .op true (.p (.bin .eql) [.t 35, .t 41]) <|
      .loop 2 [.t 42, .c (int 0)] <|
      .br 43
       (.op true (.p .len [.t 1]) <|
       .op true (.p (.bin .lss) [.t 44, .t 45]) <|
       .br 46
        (.op true (.p (.fad 4) [.t 2]) <|
        .op true (.p (.ld none) [.t 47]) <|
        .op true (.p (.iad 1) [.t 48, .t 3]) <|
        .op true (.p (.ld none) [.t 49]) <|
        .op true (.p (.iad 1) [.t 1, .t 44]) <|
        .op true (.p (.ld none) [.t 51]) <|
        .op true (.p (.iad 1) [.t 50, .t 52]) <|
        .op true (.p (.ld none) [.t 53]) <|
        .op true (.p (.fad 4) [.t 2]) <|
        .op true (.p (.ld none) [.t 55]) <|
        .op true (.p (.iad 1) [.t 56, .t 9]) <|
        .op true (.p (.ld none) [.t 57]) <|
        .op true (.p (.iad 1) [.t 1, .t 44]) <|
        .op true (.p (.ld none) [.t 59]) <|
        .op true (.p (.iad 1) [.t 58, .t 60]) <|
        .op true (.p (.ld none) [.t 61]) <|
        .op true (.p (.bin .eql) [.t 54, .t 62]) <|
        .op true (.p (.bin .add) [.t 44, .c (int 1)]) <|
        .again 2 [.t 63, .t 64])
        (.ret [(.c (bool false), none)]))
       (.op true (.p (.bin .add) [.t 9, .c (int 1)]) <|
       .again 1 [.t 45]))
      (.loop 2 [.c (bool false), .c (int 0)] <|
      .br 32
       (.op true (.p .len [.t 1]) <|
       .op true (.p (.bin .lss) [.t 33, .t 34]) <|
       .br 35
        (.op true (.p (.fad 4) [.t 2]) <|
        .op true (.p (.ld none) [.t 36]) <|
        .op true (.p (.iad 1) [.t 37, .t 3]) <|
        .op true (.p (.ld none) [.t 38]) <|
        .op true (.p (.iad 1) [.t 1, .t 33]) <|
        .op true (.p (.ld none) [.t 40]) <|
        .op true (.p (.iad 1) [.t 39, .t 41]) <|
        .op true (.p (.ld none) [.t 42]) <|
        .op true (.p (.fad 4) [.t 2]) <|
        .op true (.p (.ld none) [.t 44]) <|
        .op true (.p (.iad 1) [.t 45, .t 9]) <|
        .op true (.p (.ld none) [.t 46]) <|
        .op true (.p (.iad 1) [.t 1, .t 33]) <|
        .op true (.p (.ld none) [.t 48]) <|
        .op true (.p (.iad 1) [.t 47, .t 49]) <|
        .op true (.p (.ld none) [.t 50]) <|
        .op true (.p (.bin .eql) [.t 43, .t 51]) <|
        .op true (.p (.bin .add) [.t 33, .c (int 1)]) <|
        .again 2 [.t 52, .t 53])
        (.ret [(.c (bool false), none)]))
       (.op true (.p (.bin .add) [.t 9, .c (int 1)]) <|
       .again 1 [.t 34])))
     (.loop 2 [.c (bool false), .c (int 0)] <|
     .br 23
      (.op true (.p .len [.t 1]) <|
      .op true (.p (.bin .lss) [.t 24, .t 25]) <|
      .br 26
       (.op true (.p (.fad 4) [.t 2]) <|
       .op true (.p (.ld none) [.t 27]) <|
       .op true (.p (.iad 1) [.t 28, .t 3]) <|
       .op true (.p (.ld none) [.t 29]) <|
       .op true (.p (.iad 1) [.t 1, .t 24]) <|
       .op true (.p (.ld none) [.t 31]) <|
       .op true (.p (.iad 1) [.t 30, .t 32]) <|
       .op true (.p (.ld none) [.t 33]) <|
       .op true (.p (.fad 4) [.t 2]) <|
       .op true (.p (.ld none) [.t 35]) <|
       .op true (.p (.iad 1) [.t 36, .t 9]) <|
       .op true (.p (.ld none) [.t 37]) <|
       .op true (.p (.iad 1) [.t 1, .t 24]) <|
       .op true (.p (.ld none) [.t 39]) <|
       .op true (.p (.iad 1) [.t 38, .t 40]) <|
       .op true (.p (.ld none) [.t 41]) <|
       .op true (.p (.bin .eql) [.t 34, .t 42]) <|
       .op true (.p (.bin .add) [.t 24, .c (int 1)]) <|
       .again 2 [.t 43, .t 44])
       (.ret [(.c (bool false), none)]))
      (.op true (.p (.bin .add) [.t 9, .c (int 1)]) <|
      .again 1 [.t 25])))
    (.op true (.p (.bin .add) [.t 3, .c (int 1)]) <|
    .again 0 [.t 14]))
   (.ret [(.c (bool true), none)])
set_option maxHeartbeats 4000000 in
theorem l05Joint_ok (h : Has P ν 243 2 V_spec_l05Joint) (c : Cat) (s : Shape c) (as : List Int) (hl : as.length ≤ 1048576) (hw : Wn as c.f.length) (hne : 0 < as.length) : Fn P ν 243 [.agg c.cells, islice as] (bool (decide (JS c as))) := by
  intro H nx
  refine h _ _ _ _ rfl fun hwf => ?_
  unfold V_spec_l05Joint
  have n40 := s.n40
  have tl := s.tl
  have cl := s.cl
  obtain ⟨z0, z1⟩ := hw 0 hne
  have z2 : (as.getD 0 0).toNat < c.f.length := by omega
  have z3 : (0 : Int) < as.length := by omega
  have z6 : 0 < as.length := by omega
  simp only [SS, Nat.reduceEqDiff, Nat.reduceAdd, iput, puts, p_boxc]
  refine den_for c.f.length (fun g => ∀ g' : Nat, g' < g → ∀ h : Nat, g' + 1 ≤ h → h < c.f.length → ¬ (c.F g' = c.F h ∧ c.T g' = c.T h ∧ c.T g' = c.F (as.getD 0 0) ∧ ∀ w, w < as.length → c.K g' (as.getD w 0) = c.K h (as.getD w 0))) (fun k hk => by omega) fun g hg pg => ?_
  by_cases hlg : g < c.f.length
  · simp only [SS, Nat.reduceEqDiff, Nat.reduceAdd, iput, puts, cat1, hlg, wrap_succ (show g < 9223372036854775807 by omega)]
    refine den_forS c.f.length (g + 1) (by omega) rfl (fun h => ∀ h' : Nat, g + 1 ≤ h' → h' < h → ¬ (c.F g = c.F h' ∧ c.T g = c.T h' ∧ c.T g = c.F (as.getD 0 0) ∧ ∀ w, w < as.length → c.K g (as.getD w 0) = c.K h' (as.getD w 0))) (fun k hk hk' => by omega) fun k hk hk' pk => ?_
    by_cases hlk : k < c.f.length
    · have next : ¬ (c.F g = c.F k ∧ c.T g = c.T k ∧ c.T g = c.F (as.getD 0 0) ∧ ∀ w, w < as.length → c.K g (as.getD w 0) = c.K k (as.getD w 0)) → (g + 1 ≤ k + 1 ∧ ∀ h' : Nat, g + 1 ≤ h' → h' < k + 1 → ¬ (c.F g = c.F h' ∧ c.T g = c.T h' ∧ c.T g = c.F (as.getD 0 0) ∧ ∀ w, w < as.length → c.K g (as.getD w 0) = c.K h' (as.getD w 0))) := fun hn => ⟨by omega, fun h' hh1 hh2 => by
        by_cases e : h' = k
        · subst e; exact hn
        · exact pk h' hh1 (by omega)⟩
      simp only [SS, Nat.reduceEqDiff, Nat.reduceAdd, iput, puts, cat1, cat2, tl, hlg, hlk, z0, z1, z2, z3, z6, Int.toNat_zero, Int.le_refl]
      refine ⟨fun h1 => ⟨fun h2 => ?_, fun h2 => ?_⟩, fun h1 => ?_⟩
      · refine den_all as.length (c.T g = c.F (as.getD 0 0)) (fun w => c.K g (as.getD w 0) = c.K k (as.getD w 0)) (c.T g == c.F (as.getD 0 0)) rfl beq_iff_eq fun w b hwl hb => ?_
        simp only [SS, Nat.reduceEqDiff, Nat.reduceAdd, iput, puts]
        refine ⟨fun h3 => ?_, fun h3 => ?_⟩
        · by_cases hlw : w < as.length
          · obtain ⟨w0, w1⟩ := hw w hlw
            have w2 : (as.getD w 0).toNat < c.f.length := by omega
            have r1 := s.rowLen (a := g) (by omega) (by omega)
            have r2 := s.rowLen (a := k) (by omega) (by omega)
            simp only [Int.toNat_natCast] at r1 r2
            simp only [SS, Nat.reduceEqDiff, Nat.reduceAdd, iput, puts, cat4, cl, hlg, hlk, hlw, w0, w1, w2, r1, r2, wrap_succ (show w < 9223372036854775807 by omega)]
            exact all_next rfl hlw h3 hb (by rw [beq_iff_eq]; exact Iff.rfl)
          · simp only [SS, Nat.reduceEqDiff, Nat.reduceAdd, iput, puts, hlw]
            have := hb.1 h3
            exact ⟨_, rfl, H, fun _ _ h => h, ret_false (fun hJ => hJ g hlg k hk hlk ⟨h1, h2, this.1, fun w' hw' => this.2 w' (by omega)⟩), rfl, Nat.le_refl _⟩
        · simp only [SS, Nat.reduceEqDiff, Nat.reduceAdd, iput, puts, wrap_succ (show k < 9223372036854775807 by omega)]
          refine up rfl hlk (next fun hn => ?_)
          have := hb.2 ⟨hn.2.2.1, fun w' hw' => hn.2.2.2 w' (by omega)⟩
          simp [h3] at this
      · refine den_all as.length False (fun _ => False) false rfl (by simp) fun w b hwl hb => ?_
        have hb' : b = false := by cases b <;> simp_all
        simp only [SS, Nat.reduceEqDiff, Nat.reduceAdd, iput, puts, hb', wrap_succ (show k < 9223372036854775807 by omega)]
        exact up rfl hlk (next fun hn => h2 hn.2.1)
      · refine den_all as.length False (fun _ => False) false rfl (by simp) fun w b hwl hb => ?_
        have hb' : b = false := by cases b <;> simp_all
        simp only [SS, Nat.reduceEqDiff, Nat.reduceAdd, iput, puts, hb', wrap_succ (show k < 9223372036854775807 by omega)]
        exact up rfl hlk (next fun hn => h1 hn.1)
    · simp only [SS, Nat.reduceEqDiff, Nat.reduceAdd, iput, puts, cat1, hlk, wrap_succ (show g < 9223372036854775807 by omega)]
      exact up rfl hlg (nextP pg fun h' hh1 hh2 => pk h' hh1 (by omega))
  · simp only [SS, Nat.reduceEqDiff, Nat.reduceAdd, iput, puts, cat1, hlg]
    exact ⟨_, rfl, H, fun _ _ h => h, ret_true (fun g' hg' h' hh1 hh2 => pg g' (by omega) h' hh1 hh2), rfl, Nat.le_refl _⟩

def V_spec_l05List : Vc :=
  .op true (.p .box [.t 0]) <|
  .op true (.p (.ld (some 5)) [.t 2]) <|
  .op true (.call (.f 22) [.t 3]) <|
  .op true (.p .bnot [.t 4]) <|
  .br 5
   (.ret [(.c (int 1), none)])
   (.op true (.p (.fad 1) [.t 2]) <|
   .op true (.p (.ld none) [.t 6]) <|
   .op true (.p .len [.t 7]) <|
   .op true (.call (.f 37) [.t 8, .t 1]) <|
   .op true (.p .bnot [.t 9]) <|
   .br 10
    (.ret [(.c (int 2), none)])
    (.op true (.p .len [.t 1]) <|
    .op true (.p (.bin .eql) [.t 11, .c (int 0)]) <|
    .br 12
     (.ret [(.c (int 5), none)])
     (.ret [(.c (int 0), none)])))
theorem l05List_fz (K : HSpec P ν) (h : Has P ν 241 2 V_spec_l05List) (c : Cat) (b : Small c) (l : List Int) (hl : l.length ≤ 1048576) : Fz (OkM P ν) 241 [.agg c.cells, islice l] (int (if code (IsCat c) (Wn l c.f.length) = 0 then if 0 < l.length then 0 else 5 else code (IsCat c) (Wn l c.f.length))) := by
  refine Fn.fzi fun H nx => h _ _ _ _ rfl fun hwf => ?_
  unfold V_spec_l05List
  simp only [SS, Nat.reduceEqDiff, Nat.reduceAdd, iput, puts, p_boxc, p_ldc]
  refine den_call (fc := (22, [])) rfl (by first | (simp only [SS, Nat.reduceEqDiff, Nat.reduceAdd, iput, puts, FF, frzL_cat]; done) | (simp only [SS, Nat.reduceEqDiff, Nat.reduceAdd, iput, puts, FF, frzL_cat]; rfl)) ((l02Is_ok K c b).fzb) ?_
  simp only [SS, Nat.reduceEqDiff, Nat.reduceAdd, iput, puts, cat1]
  refine ⟨fun h1 => ?_, fun h1 => ?_⟩
  · exact ⟨_, rfl, H, fun _ _ h => h, by rw [code, if_neg h1]; rfl, rfl, Nat.le_refl _⟩
  refine den_call (fc := (37, [])) rfl (by first | (simp only [SS, Nat.reduceEqDiff, Nat.reduceAdd, iput, puts, FF, frzL_cat]; done) | (simp only [SS, Nat.reduceEqDiff, Nat.reduceAdd, iput, puts, FF, frzL_cat]; rfl)) ((l01Map_ok K.l01Map l c.f.length (by omega)).fzb) ?_
  simp only [SS, Nat.reduceEqDiff, Nat.reduceAdd, iput, puts]
  refine ⟨fun h2 => ?_, fun h2 => ⟨fun h3 => ?_, fun h3 => ?_⟩⟩
  · exact ⟨_, rfl, H, fun _ _ h => h, by rw [code, if_pos h1, if_neg h2]; rfl, rfl, Nat.le_refl _⟩
  · exact ⟨_, rfl, H, fun _ _ h => h, by rw [code, if_pos h1, if_pos h2, if_pos rfl, if_neg (by omega)]; rfl, rfl, Nat.le_refl _⟩
  · exact ⟨_, rfl, H, fun _ _ h => h, by rw [code, if_pos h1, if_pos h2, if_pos rfl, if_pos (by omega)]; rfl, rfl, Nat.le_refl _⟩

def V_spec_l05Ends : Vc :=
  .loop 0 [.c (int 1)] <|
  .op true (.p .len [.t 1]) <|
  .op true (.p (.bin .lss) [.t 2, .t 3]) <|
  .br 4
   (.op true (.p (.iad 1) [.t 1, .t 2]) <|
   .op true (.p (.ld none) [.t 5]) <|
   .op true (.p (.iad 1) [.t 0, .t 6]) <|
   .op true (.p (.ld none) [.t 7]) <|
   .op true (.p (.iad 1) [.t 1, .c (int 0)]) <|
   .op true (.p (.ld none) [.t 9]) <|
   .op true (.p (.iad 1) [.t 0, .t 10]) <|
   .op true (.p (.ld none) [.t 11]) <|
   .op true (.p (.bin .neq) [.t 8, .t 12]) <|
   .br 13
    (.ret [(.c (bool false), none)])
    (.op true (.p (.bin .add) [.t 2, .c (int 1)]) <|
    .again 0 [.t 14]))
   (.ret [(.c (bool true), none)])
theorem l05Ends_ok (h : Has P ν 242 2 V_spec_l05Ends) (e as : List Int) (hl : as.length ≤ 1048576) (hw : Wn as e.length) (hne : 0 < as.length) : Fn P ν 242 [islice e, islice as] (bool (decide (∀ k, k < as.length → e.getD (as.getD k 0).toNat 0 = e.getD (as.getD 0 0).toNat 0))) := by
  intro H nx
  refine h _ _ _ _ rfl fun hwf => ?_
  unfold V_spec_l05Ends
  obtain ⟨z0, z1⟩ := hw 0 hne
  have z2 : (as.getD 0 0).toNat < e.length := by omega
  have z3 : (0 : Int) < as.length := by omega
  have z6 : 0 < as.length := by omega
  refine den_forS as.length 1 (by omega) rfl (fun i => ∀ k, k < i → e.getD (as.getD k 0).toNat 0 = e.getD (as.getD 0 0).toNat 0) (fun k hk => by rw [show k = 0 by omega]) fun i hi1 hi pi => ?_
  by_cases hli : i < as.length
  · obtain ⟨w0, w1⟩ := hw i hli
    have w2 : (as.getD i 0).toNat < e.length := by omega
    simp only [SS, Nat.reduceEqDiff, Nat.reduceAdd, iput, puts, hli, z0, z1, z2, z3, z6, w0, w1, w2, Int.toNat_zero, Int.le_refl, wrap_succ (show i < 9223372036854775807 by omega)]
    refine ⟨fun h1 => ?_, fun h1 => up rfl hli ⟨by omega, nextP pi h1⟩⟩
    exact ⟨_, rfl, H, fun _ _ h => h, ret_false (fun hJ => h1 (hJ i hli)), rfl, Nat.le_refl _⟩
  · simp only [SS, Nat.reduceEqDiff, Nat.reduceAdd, iput, puts, hli]
    exact ⟨_, rfl, H, fun _ _ h => h, ret_true (fun k hk => pi k (by omega)), rfl, Nat.le_refl _⟩

def V_IsJointlyMono : Vc :=
  .op true (.p .box [.t 0]) <|
  .op true (.call (.f 18) [.t 2, .t 1]) <|
  .op true (.p (.bin .neq) [.t 3, .c (int 0)]) <|
  .br 4
   (.ret [(.c (bool false), none), (.t 3, none)])
   (.op true (.p .len [.t 1]) <|
   .loop 0 [.c (int 0)] <|
   .op true (.p (.bin .lss) [.t 6, .t 5]) <|
   .br 7
    (.op true (.p (.iad 1) [.t 1, .t 6]) <|
    .op true (.p (.ld none) [.t 8]) <|
    .op true (.p (.fad 1) [.t 2]) <|
    .op true (.p (.ld none) [.t 10]) <|
    .op true (.p (.iad 1) [.t 11, .t 9]) <|
    .op true (.p (.ld none) [.t 12]) <|
    .op true (.p (.fad 1) [.t 2]) <|
    .op true (.p (.ld none) [.t 14]) <|
    .op true (.p (.iad 1) [.t 1, .c (int 0)]) <|
    .op true (.p (.ld none) [.t 16]) <|
    .op true (.p (.iad 1) [.t 15, .t 17]) <|
    .op true (.p (.ld none) [.t 18]) <|
    .op true (.p (.bin .neq) [.t 13, .t 19]) <|
    .br 20
     (.ret [(.c (bool false), none), (.c (int 5), none)])
     (.op true (.p (.bin .add) [.t 6, .c (int 1)]) <|
     .again 0 [.t 21]))
    (.op true (.p .len [.t 1]) <|
    .op true (.p (.bin .eql) [.t 8, .c (int 0)]) <|
    .br 9
     (.ret [(.c (bool false), none), (.c (int 5), none)])
     (.op true (.p (.fad 1) [.t 2]) <|
     .op true (.p (.ld none) [.t 10]) <|
     .op true (.p (.iad 1) [.t 1, .c (int 0)]) <|
     .op true (.p (.ld none) [.t 12]) <|
     .op true (.p (.iad 1) [.t 11, .t 13]) <|
     .op true (.p (.ld none) [.t 14]) <|
     .op true (.call (.f 244) [.t 2, .t 15, .t 1]) <|
     .ret [(.t 16, none), (.c (int 0), none)])))
def V_spec_IsJointlyMono : Vc :=
  .op true (.p .box [.t 0]) <|
  .op true (.p (.ld (some 5)) [.t 2]) <|
  .op true (.call (.f 241) [.t 3, .t 1]) <|
  .op true (.p (.bin .neq) [.t 4, .c (int 0)]) <|
  .br 5
   (.ret [(.c (bool false), none), (.t 4, none)])
   (.op true (.p (.fad 1) [.t 2]) <|
   .op true (.p (.ld none) [.t 6]) <|
   .op true (.call (.f 242) [.t 7, .t 1]) <|
   .op true (.p .bnot [.t 8]) <|
   .br 9
    (.ret [(.c (bool false), none), (.c (int 5), none)])
    (.op true (.p (.ld (some 5)) [.t 2]) <|
    .op true (.call (.f 243) [.t 10, .t 1]) <|
    .ret [(.t 11, none), (.c (int 0), none)]))
set_option maxHeartbeats 1000000 in
theorem IsJointlyMono_both (K : HCat P ν) (A : HArr P ν) (hca : Has P ν 373 3 V_cancels) (hj1 : Has P ν 374 4 V_Category_jointlyMono_1) (hj : Has P ν 244 3 V_Category_jointlyMono) (h : Has P ν 106 2 V_IsJointlyMono) (KS : HSpec P ν) (hli : Has P ν 241 2 V_spec_l05List) (hen : Has P ν 242 2 V_spec_l05Ends) (hjo : Has P ν 243 2 V_spec_l05Joint) (hs : Has P ν 105 2 V_spec_IsJointlyMono) (c : Cat) (b : Small c) (as : List Int) (hl : as.length ≤ 1048576) :
    ∃ (x : Bool) (k : Int), BothS P ν 106 105 [.agg c.cells, islice as] (.tup [bool x, int k]) := by
  by_cases h0 : code (IsCat c) (Wn as c.f.length) = 0
  · obtain ⟨hc, hw⟩ := code_zero.1 h0
    have s := hc.1
    by_cases hS : 0 < as.length ∧ ∀ k, k < as.length → c.f.getD (as.getD k 0).toNat 0 = c.f.getD (as.getD 0 0).toNat 0
    · obtain ⟨hne, hE⟩ := hS
      obtain ⟨z0, z1⟩ := hw 0 hne
      have z2 : (as.getD 0 0).toNat < c.f.length := by omega
      have z3 : (0 : Int) < as.length := by omega
      have z6 : 0 < as.length := by omega
      have z4 : ¬ (as.length : Int) = 0 := by omega
      refine ⟨decide (JS c as), 0, fun H nx => h _ _ _ _ rfl fun hwf => ?_, fun H nx => hs _ _ _ _ rfl fun hwf => ?_⟩
      · unfold V_IsJointlyMono
        simp only [SS, Nat.reduceEqDiff, Nat.reduceAdd, iput, puts, p_boxc]
        refine den_call (fc := (18, [])) rfl (by first | (simp only [SS, Nat.reduceEqDiff, Nat.reduceAdd, iput, puts, FF, frzL_cat]; done) | (simp only [SS, Nat.reduceEqDiff, Nat.reduceAdd, iput, puts, FF, frzL_cat]; rfl)) (arrowCode_fz K A.code c b as hl Iff.rfl) ?_
        simp only [SS, Nat.reduceEqDiff, Nat.reduceAdd, iput, puts, h0]
        refine den_for as.length (fun _ => True) trivial fun i hi _ => ?_
        by_cases hlt : i < as.length
        · obtain ⟨w0, w1⟩ := hw i hlt
          have w2 : (as.getD i 0).toNat < c.f.length := by omega
          simp only [SS, Nat.reduceEqDiff, Nat.reduceAdd, iput, puts, cat1, hlt, z0, z1, z2, z3, z6, w0, w1, w2, Int.toNat_zero, Int.le_refl, hE i hlt, wrap_succ (show i < 9223372036854775807 by omega)]
          exact up rfl hlt trivial
        · simp only [SS, Nat.reduceEqDiff, Nat.reduceAdd, iput, puts, cat1, hlt, z0, z1, z2, z3, z6, z4, Int.toNat_zero, Int.le_refl]
          refine den_call (fc := (244, [])) rfl (by first | (simp only [SS, Nat.reduceEqDiff, Nat.reduceAdd, iput, puts, FF, frzL_cat]; done) | (simp only [SS, Nat.reduceEqDiff, Nat.reduceAdd, iput, puts, FF, frzL_cat]; rfl)) ((jointlyMono_ok A.hom K.thn hca hj1 hj c s (c.F (as.getD 0 0)) as hl hw).fzb) ?_
          simp only [SS, Nat.reduceEqDiff, Nat.reduceAdd, iput, puts]
          refine ⟨_, rfl, H, fun _ _ h => h, ?_, rfl, Nat.le_refl _⟩
          simp only [SS, Nat.reduceEqDiff, Nat.reduceAdd, iput, puts, JMono_iff s as]
      · unfold V_spec_IsJointlyMono
        simp only [SS, Nat.reduceEqDiff, Nat.reduceAdd, iput, puts, p_boxc, p_ldc]
        refine den_call (fc := (241, [])) rfl (by first | (simp only [SS, Nat.reduceEqDiff, Nat.reduceAdd, iput, puts, FF, frzL_cat]; done) | (simp only [SS, Nat.reduceEqDiff, Nat.reduceAdd, iput, puts, FF, frzL_cat]; rfl)) (l05List_fz KS hli c b as hl) ?_
        simp only [SS, Nat.reduceEqDiff, Nat.reduceAdd, iput, puts, h0, hne, cat1]
        refine den_call (fc := (242, [])) rfl (by first | (simp only [SS, Nat.reduceEqDiff, Nat.reduceAdd, iput, puts, FF, frzL_cat]; done) | (simp only [SS, Nat.reduceEqDiff, Nat.reduceAdd, iput, puts, FF, frzL_cat]; rfl)) ((l05Ends_ok hen c.f as hl hw hne).fzb) ?_
        simp only [SS, Nat.reduceEqDiff, Nat.reduceAdd, iput, puts, p_ldc, decide_eq_true hE]
        refine den_call (fc := (243, [])) rfl (by first | (simp only [SS, Nat.reduceEqDiff, Nat.reduceAdd, iput, puts, FF, frzL_cat]; done) | (simp only [SS, Nat.reduceEqDiff, Nat.reduceAdd, iput, puts, FF, frzL_cat]; rfl)) ((l05Joint_ok hjo c s as hl hw hne).fzb) ?_
        exact ⟨_, rfl, H, fun _ _ h => h, rfl, rfl, Nat.le_refl _⟩
    · refine ⟨false, 5, fun H nx => h _ _ _ _ rfl fun hwf => ?_, fun H nx => hs _ _ _ _ rfl fun hwf => ?_⟩
      · unfold V_IsJointlyMono
        simp only [SS, Nat.reduceEqDiff, Nat.reduceAdd, iput, puts, p_boxc]
        refine den_call (fc := (18, [])) rfl (by first | (simp only [SS, Nat.reduceEqDiff, Nat.reduceAdd, iput, puts, FF, frzL_cat]; done) | (simp only [SS, Nat.reduceEqDiff, Nat.reduceAdd, iput, puts, FF, frzL_cat]; rfl)) (arrowCode_fz K A.code c b as hl Iff.rfl) ?_
        simp only [SS, Nat.reduceEqDiff, Nat.reduceAdd, iput, puts, h0]
        refine den_for as.length (fun i => ∀ k, k < i → c.f.getD (as.getD k 0).toNat 0 = c.f.getD (as.getD 0 0).toNat 0) (fun k hk => by omega) fun i hi pi => ?_
        by_cases hlt : i < as.length
        · obtain ⟨z0, z1⟩ := hw 0 (by omega)
          have z2 : (as.getD 0 0).toNat < c.f.length := by omega
          have z3 : (0 : Int) < as.length := by omega
          have z6 : 0 < as.length := by omega
          obtain ⟨w0, w1⟩ := hw i hlt
          have w2 : (as.getD i 0).toNat < c.f.length := by omega
          simp only [SS, Nat.reduceEqDiff, Nat.reduceAdd, iput, puts, cat1, hlt, z0, z1, z2, z3, z6, w0, w1, w2, Int.toNat_zero, Int.le_refl, wrap_succ (show i < 9223372036854775807 by omega)]
          exact ⟨fun h1 => ⟨_, rfl, H, fun _ _ h => h, rfl, rfl, Nat.le_refl _⟩, fun h1 => up rfl hlt (nextP pi h1)⟩
        · have z4 : (as.length : Int) = 0 := by
            apply Classical.byContradiction
            intro hne
            exact hS ⟨by omega, fun k hk => pi k (by omega)⟩
          simp only [SS, Nat.reduceEqDiff, Nat.reduceAdd, iput, puts, hlt]
          exact ⟨fun _ => ⟨_, rfl, H, fun _ _ h => h, rfl, rfl, Nat.le_refl _⟩, fun h9 => absurd z4 h9⟩
      · unfold V_spec_IsJointlyMono
        simp only [SS, Nat.reduceEqDiff, Nat.reduceAdd, iput, puts, p_boxc, p_ldc]
        refine den_call (fc := (241, [])) rfl (by first | (simp only [SS, Nat.reduceEqDiff, Nat.reduceAdd, iput, puts, FF, frzL_cat]; done) | (simp only [SS, Nat.reduceEqDiff, Nat.reduceAdd, iput, puts, FF, frzL_cat]; rfl)) (l05List_fz KS hli c b as hl) ?_
        by_cases hne : 0 < as.length
        · simp only [SS, Nat.reduceEqDiff, Nat.reduceAdd, iput, puts, h0, hne, cat1]
          refine den_call (fc := (242, [])) rfl (by first | (simp only [SS, Nat.reduceEqDiff, Nat.reduceAdd, iput, puts, FF, frzL_cat]; done) | (simp only [SS, Nat.reduceEqDiff, Nat.reduceAdd, iput, puts, FF, frzL_cat]; rfl)) ((l05Ends_ok hen c.f as hl hw hne).fzb) ?_
          simp only [SS, Nat.reduceEqDiff, Nat.reduceAdd, iput, puts, p_ldc, decide_eq_false fun hE => hS ⟨hne, hE⟩]
          exact ⟨_, rfl, H, fun _ _ h => h, rfl, rfl, Nat.le_refl _⟩
        · simp only [SS, Nat.reduceEqDiff, Nat.reduceAdd, iput, puts, h0, hne, show ¬ (5 : Int) = 0 by omega]
          exact ⟨_, rfl, H, fun _ _ h => h, rfl, rfl, Nat.le_refl _⟩
  · refine ⟨false, code (IsCat c) (Wn as c.f.length), fun H nx => h _ _ _ _ rfl fun hwf => ?_, fun H nx => hs _ _ _ _ rfl fun hwf => ?_⟩
    · unfold V_IsJointlyMono
      simp only [SS, Nat.reduceEqDiff, Nat.reduceAdd, iput, puts, p_boxc]
      refine den_call (fc := (18, [])) rfl (by first | (simp only [SS, Nat.reduceEqDiff, Nat.reduceAdd, iput, puts, FF, frzL_cat]; done) | (simp only [SS, Nat.reduceEqDiff, Nat.reduceAdd, iput, puts, FF, frzL_cat]; rfl)) (arrowCode_fz K A.code c b as hl Iff.rfl) ?_
      simp only [SS, Nat.reduceEqDiff, Nat.reduceAdd, iput, puts, h0]
      exact ⟨_, rfl, H, fun _ _ h => h, rfl, rfl, Nat.le_refl _⟩
    · unfold V_spec_IsJointlyMono
      simp only [SS, Nat.reduceEqDiff, Nat.reduceAdd, iput, puts, p_boxc, p_ldc]
      refine den_call (fc := (241, [])) rfl (by first | (simp only [SS, Nat.reduceEqDiff, Nat.reduceAdd, iput, puts, FF, frzL_cat]; done) | (simp only [SS, Nat.reduceEqDiff, Nat.reduceAdd, iput, puts, FF, frzL_cat]; rfl)) (l05List_fz KS hli c b as hl) ?_
      simp only [SS, Nat.reduceEqDiff, Nat.reduceAdd, iput, puts, h0]
      exact ⟨_, rfl, H, fun _ _ h => h, rfl, rfl, Nat.le_refl _⟩
end Go.Av
