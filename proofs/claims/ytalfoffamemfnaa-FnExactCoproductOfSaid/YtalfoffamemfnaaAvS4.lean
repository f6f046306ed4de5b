/-
  Limits: the reference's answers are the program's.
-/
import Derived.Test.YtalfoffamemfnaaAvS2
import Derived.Test.YtalfoffamemfnaaAvS3
import Derived.Test.YtalfoffamemfnaaAvB4
import Derived.Test.YtalfoffamemfnaaAvM2
import Derived.Test.YtalfoffamemfnaaAvN0
namespace Go.Av
open Classical
set_option linter.unusedSimpArgs false
set_option linter.unusedVariables false
variable {P : Program} {ν : Nat → FuncId}

theorem find_congr {α : Type} {l : List α} {p q : α → Bool} (h : ∀ x ∈ l, p x = q x) : l.find? p = l.find? q := by
  induction l with
  | nil => rfl
  | cons a l ih => rw [List.find?_cons, List.find?_cons, h a (by simp), ih fun x hx => h x (by simp [hx])]
theorem findSome_congr {α β : Type} {l : List α} {f g : α → Option β} (h : ∀ x ∈ l, f x = g x) : l.findSome? f = l.findSome? g := by
  induction l with
  | nil => rfl
  | cons a l ih => rw [List.findSome?_cons, List.findSome?_cons, h a (by simp), ih fun x hx => h x (by simp [hx])]
theorem findSome_mapO {α β γ : Type} {l : List α} {f : α → Option β} {g : β → γ} : (l.findSome? f).map g = l.findSome? fun x => (f x).map g := by
  induction l with
  | nil => rfl
  | cons a l ih =>
    simp only [List.findSome?_cons]
    cases f a with
    | none => exact ih
    | some b => rfl
theorem mem_sq {s : Sp} {t : List Int} : t ∈ s.sq ↔ ∃ (z : Nat) (p : Int × Int), z < s.c.o.toNat ∧ p ∈ s.fr z ∧ t = [(z : Int), p.1, p.2] := by
  unfold Sp.sq
  rw [List.mem_flatMap]
  constructor
  · rintro ⟨z, hz, ht⟩
    obtain ⟨p, hp, rfl⟩ := List.mem_map.1 ht
    exact ⟨z, p, List.mem_range.1 hz, hp, rfl⟩
  · rintro ⟨z, p, hz, hp, rfl⟩
    exact ⟨z, List.mem_range.2 hz, List.mem_map.2 ⟨p, hp, rfl⟩⟩
theorem mem_fk {s : Sp} {t : List Int} : t ∈ s.fk ↔ ∃ (z : Nat) (p : Int × Int), z < s.c.o.toNat ∧ p ∈ s.fr z ∧ t = [(z : Int), p.1] := by
  unfold Sp.fk
  rw [List.mem_flatMap]
  constructor
  · rintro ⟨z, hz, ht⟩
    obtain ⟨p, hp, rfl⟩ := List.mem_map.1 ht
    exact ⟨z, p, List.mem_range.1 hz, hp, rfl⟩
  · rintro ⟨z, p, hz, hp, rfl⟩
    exact ⟨z, List.mem_range.2 hz, List.mem_map.2 ⟨p, hp, rfl⟩⟩
theorem mapsL3 (c : Cat) (w a b z p q : Int) : mapsL c [w, a, b] [z, p, q] = (homL c w z).filter fun u => c.K u p == a && c.K u q == b := by
  unfold mapsL
  refine List.filter_congr fun u _ => ?_
  show (_ && (_ && true)) = _
  rw [Bool.and_true]
  rfl
theorem mapsL2 (c : Cat) (w a z p : Int) : mapsL c [w, a] [z, p] = (homL c w z).filter fun u => c.K u p == a := by
  unfold mapsL
  refine List.filter_congr fun u _ => ?_
  show (_ && true) = _
  rw [Bool.and_true]
  rfl
theorem Sp.all_sq {s : Sp} (k : SpOk P ν s) {z p q : Int} (hp : (p, q) ∈ s.fr z) : (s.sq.all fun t => (mapsL s.c t [z, p, q]).length == 1) = decide (s.Uni z p q) := by
  rw [Bool.eq_iff_iff]
  simp only [List.all_eq_true, decide_eq_true_iff, beq_iff_eq]
  constructor
  · intro h w hw
    rw [Sp.uni_iff k hp]
    intro b hb
    have w1 := hw.1
    have w2 := hw.2
    have w3 : ((w.toNat : Nat) : Int) = w := by omega
    have := h [w, b.1, b.2] (mem_sq.2 ⟨w.toNat, b, by omega, by rw [w3]; exact hb, by rw [w3]⟩)
    rw [mapsL3] at this
    exact this
  · intro h t ht
    obtain ⟨z', p', h1, h2, rfl⟩ := mem_sq.1 ht
    rw [mapsL3]
    exact (Sp.uni_iff k hp).1 (h z' ⟨by omega, by omega⟩) p' h2
theorem Sp.all_fk {s : Sp} (k : SpOk P ν s) (hal : s.alone = true) {z p q : Int} (hp : (p, q) ∈ s.fr z) : (s.fk.all fun t => (mapsL s.c t [z, p]).length == 1) = decide (s.Uni z p q) := by
  have hq : q = p := (Sp.fr_mem.1 hp).2.2.1 hal
  subst hq
  rw [Bool.eq_iff_iff]
  simp only [List.all_eq_true, decide_eq_true_iff, beq_iff_eq]
  have same : ∀ (w : Int) (b : Int × Int), b ∈ s.fr w → ((homL s.c w z).filter fun u => s.c.K u q == b.1 && s.c.K u q == b.2) = (homL s.c w z).filter fun u => s.c.K u q == b.1 := fun w b hb => by
    have : b.2 = b.1 := (Sp.fr_mem.1 hb).2.2.1 hal
    rw [this]
    simp only [Bool.and_self]
  constructor
  · intro h w hw
    rw [Sp.uni_iff k hp]
    intro b hb
    have w1 := hw.1
    have w2 := hw.2
    have w3 : ((w.toNat : Nat) : Int) = w := by omega
    have := h [w, b.1] (mem_fk.2 ⟨w.toNat, b, by omega, by rw [w3]; exact hb, by rw [w3]⟩)
    rw [mapsL2, ← same w b hb] at this
    exact this
  · intro h t ht
    obtain ⟨z', p', h1, h2, rfl⟩ := mem_fk.1 ht
    rw [mapsL2, ← same z' p' h2]
    exact (Sp.uni_iff k hp).1 (h z' ⟨by omega, by omega⟩) p' h2
def tripL : Option (Int × Int × Int) → List Int
  | some x => [x.1, x.2.1, x.2.2]
  | none => []
def pairL : Option (Int × Int × Int) → List Int
  | some x => [x.1, x.2.1]
  | none => []
theorem Sp.first_sq {s : Sp} (k : SpOk P ν s) : firstL s.c s.sq = tripL s.firstO := by
  have key : (s.sq.find? fun t => s.sq.all fun u => (mapsL s.c u t).length == 1) = s.firstO.map fun x => [x.1, x.2.1, x.2.2] := by
    have hQ : ∀ z p q : Int, (p, q) ∈ s.fr z → (fun t => s.sq.all fun u => (mapsL s.c u t).length == 1) [z, p, q] = decide (s.Uni z p q) := fun z p q h => Sp.all_sq k h
    generalize (fun t => s.sq.all fun u => (mapsL s.c u t).length == 1) = Q at hQ
    unfold Sp.firstO
    rw [findSome_mapO, Sp.sq, List.find?_flatMap]
    refine findSome_congr fun z _ => ?_
    rw [List.find?_map, Option.map_map]
    rw [find_congr (q := fun p => decide (s.Uni z p.1 p.2)) fun p hp => hQ z p.1 p.2 hp]
    rfl
  unfold firstL
  rw [key]
  cases s.firstO <;> rfl
theorem Sp.first_fk {s : Sp} (k : SpOk P ν s) (hal : s.alone = true) : firstL s.c s.fk = pairL s.firstO := by
  have key : (s.fk.find? fun t => s.fk.all fun u => (mapsL s.c u t).length == 1) = s.firstO.map fun x => [x.1, x.2.1] := by
    have hQ : ∀ z p q : Int, (p, q) ∈ s.fr z → (fun t => s.fk.all fun u => (mapsL s.c u t).length == 1) [z, p] = decide (s.Uni z p q) := fun z p q h => Sp.all_fk k hal h
    generalize (fun t => s.fk.all fun u => (mapsL s.c u t).length == 1) = Q at hQ
    unfold Sp.firstO
    rw [findSome_mapO, Sp.fk, List.find?_flatMap]
    refine findSome_congr fun z _ => ?_
    rw [List.find?_map, Option.map_map]
    rw [find_congr (q := fun p => decide (s.Uni z p.1 p.2)) fun p hp => hQ z p.1 p.2 hp]
    rfl
  unfold firstL
  rw [key]
  cases s.firstO <;> rfl
theorem getD_rows {M : List (List Int)} {i : Nat} (h : i < M.length) : M.getD i [] ∈ M := by simp [List.getD, h]
theorem Sp.sq_ok {s : Sp} (k : CatA s.c) (hal : s.alone = true → s.x = s.y) : RowsOk s.c s.sq 3 := by
  refine ⟨fun i hi => ?_, fun i j hi hj => ?_⟩
  · obtain ⟨z, p, _, _, e⟩ := mem_sq.1 (getD_rows hi)
    rw [e]; rfl
  · obtain ⟨z, p, _, hp, e⟩ := mem_sq.1 (getD_rows hi)
    obtain ⟨a1, a2⟩ := Sp.fr_arr k hal hp
    rw [e]
    match j, hj with
    | 0, _ => exact a1.1
    | 1, _ => exact a2.1
theorem Sp.fk_ok {s : Sp} (k : CatA s.c) (hal : s.alone = true → s.x = s.y) : RowsOk s.c s.fk 2 := by
  refine ⟨fun i hi => ?_, fun i j hi hj => ?_⟩
  · obtain ⟨z, p, _, _, e⟩ := mem_fk.1 (getD_rows hi)
    rw [e]; rfl
  · obtain ⟨z, p, _, hp, e⟩ := mem_fk.1 (getD_rows hi)
    obtain ⟨a1, a2⟩ := Sp.fr_arr k hal hp
    rw [e]
    match j, hj with
    | 0, _ => exact a1.1
theorem Sp.sq_len {s : Sp} (k : Shape s.c) : s.sq.length ≤ 1048576 := by
  have := flat_len_le (List.range s.c.o.toNat) (fun (z : Nat) => (s.fr z).map fun p => [(z : Int), p.1, p.2]) 1600 fun a _ => by rw [List.length_map]; exact Sp.fr_len k _
  rw [List.length_range] at this
  have o8 := k.o8
  have h3 : s.c.o.toNat * 1600 ≤ 8 * 1600 := Nat.mul_le_mul_right _ (by omega)
  exact Nat.le_trans this (Nat.le_trans h3 (by decide))
theorem Sp.fk_len {s : Sp} (k : Shape s.c) : s.fk.length ≤ 1048576 := by
  have := flat_len_le (List.range s.c.o.toNat) (fun (z : Nat) => (s.fr z).map fun p => [(z : Int), p.1]) 1600 fun a _ => by rw [List.length_map]; exact Sp.fr_len k _
  rw [List.length_range] at this
  have o8 := k.o8
  have h3 : s.c.o.toNat * 1600 ≤ 8 * 1600 := Nat.mul_le_mul_right _ (by omega)
  exact Nat.le_trans this (Nat.le_trans h3 (by decide))

theorem OkM.fiI {f : Nat} {ys : List AV} {l : List Int} (h : ∀ H nx, OkM P ν f ys H nx (fun r _ _ => r = islice l)) : Fi (OkM P ν) f ys (islice l) :=
  OkM.fi h fun r H' nx' e => by subst e; exact frz_islice
/-- What the reference's searches call. -/
structure HFirst (P : Program) (ν : Nat → FuncId) : Prop where
  hom : Has P ν 309 3 V_spec_l02Hom
  thn : Has P ν 253 3 V_spec_l02Then
  maps : Has P ν 322 3 V_spec_l13Maps
  first : Has P ν 319 2 V_spec_l13First
/-- What the program's searches call. -/
structure HSpan (P : Program) (ν : Nat → FuncId) : Prop where
  hom : Has P ν 33 3 V_Category_hom
  thn : Has P ν 34 3 V_Category_then
  frm : Has P ν 426 2 V_spans_from
  uni : Has P ν 427 3 V_spans_isUniversal
  first : Has P ν 402 1 V_spans_first
  triple : Has P ν 308 1 V_spans_triple
theorem HSpan.trip (K : HSpan P ν) (s : Sp) (k : SpOk P ν s) : Fz (OkM P ν) 308 [.ptr s.cells 0] (tripAV s.firstO) := triple_fz K.hom K.thn K.frm K.uni K.first K.triple s k
def V_spec_l13Product : Vc :=
  .op true (.p .box [.t 0]) <|
  .op true (.p (.ld (some 5)) [.t 3]) <|
  .op true (.p (.ld (some 5)) [.t 3]) <|
  .op true (.call (.f 400) [.t 5, .t 1, .t 2, .c (int (-1)), .c (int (-1))]) <|
  .op true (.call (.f 319) [.t 4, .t 6]) <|
  .ret [(.t 7, none)]
theorem l13Product_fi (K : HFirst P ν) (hs : Has P ν 400 5 V_spec_l13Squares) (h : Has P ν 305 3 V_spec_l13Product) (c : Cat) (k : CatA c) (x y : Int) : Fi (OkM P ν) 305 [.agg c.cells, int x, int y] (islice (firstL c (spP c x y).sq)) := by
  refine OkM.fiI fun H nx => h _ _ _ _ rfl fun hwf => ?_
  unfold V_spec_l13Product
  have hal : (spP c x y).alone = true → (spP c x y).x = (spP c x y).y := fun h => by cases h
  repeat (first | simp (disch := (first | rfl | with_reducible assumption | with_reducible solve_by_elim (maxDepth := 8) [Shape.inT, Shape.inI, Shape.inC, Shape.inK, Shape.obF, Shape.obT, Shape.arI, Arr.inF] | omega)) only [S2, Nat.reduceEqDiff, Nat.reduceAdd, iput, puts] | (refine den_call rfl (by first | (simp only [SS, Nat.reduceEqDiff, Nat.reduceAdd, iput, puts, FF, frzL_cat]; done) | (simp only [SS, Nat.reduceEqDiff, Nat.reduceAdd, iput, puts, FF, frzL_cat]; rfl)) (by first | exact l13Squares_fi K.hom K.thn hs (spP c x y) k (-1) (-1) rfl (fun a b => rfl) (fun h => absurd (by decide) h) | exact l13First_fi K.hom K.thn K.maps K.first c k.s (spP c x y).sq 3 (Sp.sq_ok k hal) (by omega) (by omega) (Sp.sq_len k.s)) ?_) | (refine den_calli rfl (by first | (simp only [SS, Nat.reduceEqDiff, Nat.reduceAdd, iput, puts, FF, frzL_cat]; done) | (simp only [SS, Nat.reduceEqDiff, Nat.reduceAdd, iput, puts, FF, frzL_cat]; rfl)) (by first | exact l13Squares_fi K.hom K.thn hs (spP c x y) k (-1) (-1) rfl (fun a b => rfl) (fun h => absurd (by decide) h) | exact l13First_fi K.hom K.thn K.maps K.first c k.s (spP c x y).sq 3 (Sp.sq_ok k hal) (by omega) (by omega) (Sp.sq_len k.s)) ?_))
  exact ⟨_, rfl, H, fun _ _ h => h, rfl⟩
def V_spec_l13Pullback : Vc :=
  .op true (.p .box [.t 0]) <|
  .op true (.p (.ld (some 5)) [.t 3]) <|
  .op true (.p (.ld (some 5)) [.t 3]) <|
  .op true (.p (.fad 1) [.t 3]) <|
  .op true (.p (.ld none) [.t 6]) <|
  .op true (.p (.iad 1) [.t 7, .t 1]) <|
  .op true (.p (.ld none) [.t 8]) <|
  .op true (.p (.fad 1) [.t 3]) <|
  .op true (.p (.ld none) [.t 10]) <|
  .op true (.p (.iad 1) [.t 11, .t 2]) <|
  .op true (.p (.ld none) [.t 12]) <|
  .op true (.call (.f 400) [.t 5, .t 9, .t 13, .t 1, .t 2]) <|
  .op true (.call (.f 319) [.t 4, .t 14]) <|
  .ret [(.t 15, none)]
theorem l13Pullback_fi (K : HFirst P ν) (hs : Has P ν 400 5 V_spec_l13Squares) (h : Has P ν 323 3 V_spec_l13Pullback) (c : Cat) (k : CatA c) (f g : Int) (hf : Arr c f) (hg : Arr c g) : Fi (OkM P ν) 323 [.agg c.cells, int f, int g] (islice (firstL c (spB c f g).sq)) := by
  refine OkM.fiI fun H nx => h _ _ _ _ rfl fun hwf => ?_
  unfold V_spec_l13Pullback
  have iF := hf.inF
  have iG := hg.inF
  have f0 := hf.1
  have neg : decide (f < 0) = false := decide_eq_false (by omega)
  have hal : (spB c f g).alone = true → (spB c f g).x = (spB c f g).y := fun h => by cases h
  repeat (first | simp (disch := (first | rfl | with_reducible assumption | with_reducible solve_by_elim (maxDepth := 8) [Shape.inT, Shape.inI, Shape.inC, Shape.inK, Shape.obF, Shape.obT, Shape.arI, Arr.inF] | omega)) only [S2, Nat.reduceEqDiff, Nat.reduceAdd, iput, puts] | (refine den_call rfl (by first | (simp only [SS, Nat.reduceEqDiff, Nat.reduceAdd, iput, puts, FF, frzL_cat]; done) | (simp only [SS, Nat.reduceEqDiff, Nat.reduceAdd, iput, puts, FF, frzL_cat]; rfl)) (by first | exact l13Squares_fi K.hom K.thn hs (spB c f g) k f g rfl (fun a b => by rw [neg]; rfl) (fun _ => ⟨hf, hg⟩) | exact l13First_fi K.hom K.thn K.maps K.first c k.s (spB c f g).sq 3 (Sp.sq_ok k hal) (by omega) (by omega) (Sp.sq_len k.s)) ?_) | (refine den_calli rfl (by first | (simp only [SS, Nat.reduceEqDiff, Nat.reduceAdd, iput, puts, FF, frzL_cat]; done) | (simp only [SS, Nat.reduceEqDiff, Nat.reduceAdd, iput, puts, FF, frzL_cat]; rfl)) (by first | exact l13Squares_fi K.hom K.thn hs (spB c f g) k f g rfl (fun a b => by rw [neg]; rfl) (fun _ => ⟨hf, hg⟩) | exact l13First_fi K.hom K.thn K.maps K.first c k.s (spB c f g).sq 3 (Sp.sq_ok k hal) (by omega) (by omega) (Sp.sq_len k.s)) ?_))
  exact ⟨_, rfl, H, fun _ _ h => h, rfl⟩
def V_spec_l13Triple : Vc :=
  .op true (.p .len [.t 0]) <|
  .op true (.p (.bin .eql) [.t 1, .c (int 0)]) <|
  .br 2
   (.ret [(.c (int 0), none), (.c (int 0), none), (.c (int 0), none), (.c (int 4), none)])
   (.op true (.p (.iad 1) [.t 0, .c (int 0)]) <|
   .op true (.p (.ld none) [.t 3]) <|
   .op true (.p (.iad 1) [.t 0, .c (int 1)]) <|
   .op true (.p (.ld none) [.t 5]) <|
   .op true (.p (.iad 1) [.t 0, .c (int 2)]) <|
   .op true (.p (.ld none) [.t 7]) <|
   .ret [(.t 4, none), (.t 6, none), (.t 8, none), (.c (int 0), none)])
theorem l13Triple_fz (h : Has P ν 304 1 V_spec_l13Triple) (o : Option (Int × Int × Int)) : Fz (OkM P ν) 304 [islice (tripL o)] (tripAV o) := by
  refine OkM.fz (Ψ := fun H nx r H' nx' => r = tripAV o) (fun H nx => h _ _ _ _ rfl fun hwf => ?_) fun r H' nx' hh => by subst hh; exact tripAV_frz _
  unfold V_spec_l13Triple
  cases o with
  | none =>
    have e : tripL none = [] := rfl
    rw [e]
    have n0 : ((0 : Nat) : Int) = 0 := rfl
    try simp (disch := (first | rfl | with_reducible assumption | with_reducible solve_by_elim (maxDepth := 8) [Shape.inT, Shape.inI, Shape.inC, Shape.inK, Shape.obF, Shape.obT, Shape.arI, Arr.inF] | omega)) only [S2, Nat.reduceEqDiff, Nat.reduceAdd, iput, puts, List.length_nil, n0]
    exact ⟨_, rfl, H, fun _ _ h => h, rfl⟩
  | some x =>
    obtain ⟨z, p, q⟩ := x
    have e : tripL (some (z, p, q)) = [z, p, q] := rfl
    have i0 : In [z, p, q] 0 := ⟨by omega, by simp⟩
    have i1 : In [z, p, q] 1 := ⟨by omega, by simp⟩
    have i2 : In [z, p, q] 2 := ⟨by omega, by simp⟩
    have g0 : gI [z, p, q] 0 = z := rfl
    have g1 : gI [z, p, q] 1 = p := rfl
    have g2 : gI [z, p, q] 2 = q := rfl
    have l3 : [z, p, q].length = 3 := rfl
    rw [e]
    have n3 : ¬ ((3 : Nat) : Int) = 0 := by decide
    try simp (disch := (first | rfl | with_reducible assumption | with_reducible solve_by_elim (maxDepth := 8) [Shape.inT, Shape.inI, Shape.inC, Shape.inK, Shape.obF, Shape.obT, Shape.arI, Arr.inF] | omega)) only [S2, Nat.reduceEqDiff, Nat.reduceAdd, iput, puts, g0, g1, g2, l3, n3]
    exact ⟨_, rfl, H, fun _ _ h => h, rfl⟩
def pairAV : Option (Int × Int × Int) → AV
  | some p => .tup [int p.1, int p.2.1, int 0]
  | none => .tup [int 0, int 0, int 4]
theorem pairAV_frz {o : Option (Int × Int × Int)} (H : Hp) : frzN H fuel (pairAV o) = some (pairAV o) := by cases o <;> rfl
def V_spec_l13Pair : Vc :=
  .op true (.p .len [.t 0]) <|
  .op true (.p (.bin .eql) [.t 1, .c (int 0)]) <|
  .br 2
   (.ret [(.c (int 0), none), (.c (int 0), none), (.c (int 4), none)])
   (.op true (.p (.iad 1) [.t 0, .c (int 0)]) <|
   .op true (.p (.ld none) [.t 3]) <|
   .op true (.p (.iad 1) [.t 0, .c (int 1)]) <|
   .op true (.p (.ld none) [.t 5]) <|
   .ret [(.t 4, none), (.t 6, none), (.c (int 0), none)])
theorem l13Pair_fz (h : Has P ν 318 1 V_spec_l13Pair) (o : Option (Int × Int × Int)) : Fz (OkM P ν) 318 [islice (pairL o)] (pairAV o) := by
  refine OkM.fz (Ψ := fun H nx r H' nx' => r = pairAV o) (fun H nx => h _ _ _ _ rfl fun hwf => ?_) fun r H' nx' hh => by subst hh; exact pairAV_frz _
  unfold V_spec_l13Pair
  cases o with
  | none =>
    have e : pairL none = [] := rfl
    rw [e]
    have n0 : ((0 : Nat) : Int) = 0 := rfl
    try simp (disch := (first | rfl | with_reducible assumption | with_reducible solve_by_elim (maxDepth := 8) [Shape.inT, Shape.inI, Shape.inC, Shape.inK, Shape.obF, Shape.obT, Shape.arI, Arr.inF] | omega)) only [S2, Nat.reduceEqDiff, Nat.reduceAdd, iput, puts, List.length_nil, n0]
    exact ⟨_, rfl, H, fun _ _ h => h, rfl⟩
  | some x =>
    obtain ⟨z, p, q⟩ := x
    have e : pairL (some (z, p, q)) = [z, p] := rfl
    have i0 : In [z, p] 0 := ⟨by omega, by simp⟩
    have i1 : In [z, p] 1 := ⟨by omega, by simp⟩
    have g0 : gI [z, p] 0 = z := rfl
    have g1 : gI [z, p] 1 = p := rfl
    have l2 : [z, p].length = 2 := rfl
    rw [e]
    have n2 : ¬ ((2 : Nat) : Int) = 0 := by decide
    try simp (disch := (first | rfl | with_reducible assumption | with_reducible solve_by_elim (maxDepth := 8) [Shape.inT, Shape.inI, Shape.inC, Shape.inK, Shape.obF, Shape.obT, Shape.arI, Arr.inF] | omega)) only [S2, Nat.reduceEqDiff, Nat.reduceAdd, iput, puts, g0, g1, l2, n2]
    exact ⟨_, rfl, H, fun _ _ h => h, rfl⟩

/-- The reference's check of two arrows. -/
noncomputable def lcode (c : Cat) (f g : Int) (s t : Bool) : Int := if IsCat c ∧ Arr c f ∧ Arr c g then (if (s = true ∧ c.F f ≠ c.F g) ∨ (t = true ∧ c.T f ≠ c.T g) then 5 else 0) else code (IsCat c) (Arr c f ∧ Arr c g)
def V_spec_l13Code : Vc :=
  .op true (.p .box [.t 0]) <|
  .op true (.p (.ld (some 5)) [.t 5]) <|
  .op true (.p (.msl 2 [int 0, int 0] [(0, 1), (1, 1)]) [.t 1, .t 2]) <|
  .op true (.call (.f 245) [.t 6, .t 7]) <|
  .op true (.p (.bin .eql) [.t 8, .c (int 0)]) <|
  .br 9
   (.br 3
    (.op true (.p (.fad 1) [.t 5]) <|
    .op true (.p (.ld none) [.t 10]) <|
    .op true (.p (.iad 1) [.t 11, .t 1]) <|
    .op true (.p (.ld none) [.t 12]) <|
    .op true (.p (.fad 1) [.t 5]) <|
    .op true (.p (.ld none) [.t 14]) <|
    .op true (.p (.iad 1) [.t 15, .t 2]) <|
    .op true (.p (.ld none) [.t 16]) <|
    .op true (.p (.bin .neq) [.t 13, .t 17]) <|
    .br 18
     (.ret [(.c (int 5), none)])
     (.br 4
      (.op true (.p (.fad 2) [.t 5]) <|
      .op true (.p (.ld none) [.t 19]) <|
      .op true (.p (.iad 1) [.t 20, .t 1]) <|
      .op true (.p (.ld none) [.t 21]) <|
      .op true (.p (.fad 2) [.t 5]) <|
      .op true (.p (.ld none) [.t 23]) <|
      .op true (.p (.iad 1) [.t 24, .t 2]) <|
      .op true (.p (.ld none) [.t 25]) <|
      .op true (.p (.bin .neq) [.t 22, .t 26]) <|
      .br 27
       (.ret [(.c (int 5), none)])
       (.ret [(.t 8, none)]))
      (.ret [(.t 8, none)])))
    (.br 4
     (.op true (.p (.fad 2) [.t 5]) <|
     .op true (.p (.ld none) [.t 10]) <|
     .op true (.p (.iad 1) [.t 11, .t 1]) <|
     .op true (.p (.ld none) [.t 12]) <|
     .op true (.p (.fad 2) [.t 5]) <|
     .op true (.p (.ld none) [.t 14]) <|
     .op true (.p (.iad 1) [.t 15, .t 2]) <|
     .op true (.p (.ld none) [.t 16]) <|
     .op true (.p (.bin .neq) [.t 13, .t 17]) <|
     .br 18
      (.ret [(.c (int 5), none)])
      (.ret [(.t 8, none)]))
     (.ret [(.t 8, none)])))
   (.ret [(.t 8, none)])
theorem l13Code_fz (K : HSpec P ν) (ha : Has P ν 245 2 V_spec_l02Arrows) (h : Has P ν 317 5 V_spec_l13Code) (c : Cat) (b : Small c) (f g : Int) (s t : Bool) : Fz (OkM P ν) 317 [.agg c.cells, int f, int g, bool s, bool t] (int (lcode c f g s t)) := by
  refine Fn.fzi fun H nx => h _ _ _ _ rfl fun hwf => ?_
  unfold V_spec_l13Code
  repeat (first | simp (disch := (first | rfl | with_reducible assumption | with_reducible solve_by_elim (maxDepth := 8) [Shape.inT, Shape.inI, Shape.inC, Shape.inK, Shape.obF, Shape.obT, Shape.arI, Arr.inF] | omega)) only [S2, Nat.reduceEqDiff, Nat.reduceAdd, iput, puts, p_msl2] | (refine den_call rfl (by first | (simp only [SS, Nat.reduceEqDiff, Nat.reduceAdd, iput, puts, FF, frzL_cat]; done) | (simp only [SS, Nat.reduceEqDiff, Nat.reduceAdd, iput, puts, FF, frzL_cat]; rfl)) (by first | exact l02Arrows_fz K ha c b [f, g] (by simp) (Wn2 c f g)) ?_) | (refine den_calli rfl (by first | (simp only [SS, Nat.reduceEqDiff, Nat.reduceAdd, iput, puts, FF, frzL_cat]; done) | (simp only [SS, Nat.reduceEqDiff, Nat.reduceAdd, iput, puts, FF, frzL_cat]; rfl)) (by first | exact l02Arrows_fz K ha c b [f, g] (by simp) (Wn2 c f g)) ?_))
  refine ⟨fun h0 => ?_, fun h0 => ?_⟩
  · have h1 := code_zero.1 h0
    obtain ⟨hc, hf, hg⟩ := h1
    have sh := hc.1
    have fF := hf.inF
    have gF := hg.inF
    have fT := sh.inT hf
    have gT := sh.inT hg
    unfold lcode
    rw [if_pos ⟨hc, hf, hg⟩]
    cases s <;> cases t
    · try simp (disch := (first | rfl | with_reducible assumption | with_reducible solve_by_elim (maxDepth := 8) [Shape.inT, Shape.inI, Shape.inC, Shape.inK, Shape.obF, Shape.obT, Shape.arI, Arr.inF] | omega)) only [S2, Nat.reduceEqDiff, Nat.reduceAdd, iput, puts]
      exact ⟨_, rfl, H, fun _ _ h => h, by rw [if_neg (by simp)]; exact congrArg int h0, rfl, Nat.le_refl _⟩
    · try simp (disch := (first | rfl | with_reducible assumption | with_reducible solve_by_elim (maxDepth := 8) [Shape.inT, Shape.inI, Shape.inC, Shape.inK, Shape.obF, Shape.obT, Shape.arI, Arr.inF] | omega)) only [S2, Nat.reduceEqDiff, Nat.reduceAdd, iput, puts]
      refine ⟨fun e => ?_, fun e => ?_⟩
      · exact ⟨_, rfl, H, fun _ _ h => h, by rw [if_pos (by simp [e])]; rfl, rfl, Nat.le_refl _⟩
      · exact ⟨_, rfl, H, fun _ _ h => h, by rw [if_neg (by simp [e])]; exact congrArg int h0, rfl, Nat.le_refl _⟩
    · try simp (disch := (first | rfl | with_reducible assumption | with_reducible solve_by_elim (maxDepth := 8) [Shape.inT, Shape.inI, Shape.inC, Shape.inK, Shape.obF, Shape.obT, Shape.arI, Arr.inF] | omega)) only [S2, Nat.reduceEqDiff, Nat.reduceAdd, iput, puts]
      refine ⟨fun e => ?_, fun e => ?_⟩
      · exact ⟨_, rfl, H, fun _ _ h => h, by rw [if_pos (by simp [e])]; rfl, rfl, Nat.le_refl _⟩
      · exact ⟨_, rfl, H, fun _ _ h => h, by rw [if_neg (by simp [e])]; exact congrArg int h0, rfl, Nat.le_refl _⟩
    · try simp (disch := (first | rfl | with_reducible assumption | with_reducible solve_by_elim (maxDepth := 8) [Shape.inT, Shape.inI, Shape.inC, Shape.inK, Shape.obF, Shape.obT, Shape.arI, Arr.inF] | omega)) only [S2, Nat.reduceEqDiff, Nat.reduceAdd, iput, puts]
      refine ⟨fun e => ?_, fun e => ⟨fun e2 => ?_, fun e2 => ?_⟩⟩
      · exact ⟨_, rfl, H, fun _ _ h => h, by rw [if_pos (by simp [e])]; rfl, rfl, Nat.le_refl _⟩
      · exact ⟨_, rfl, H, fun _ _ h => h, by rw [if_pos (by simp [e, e2])]; rfl, rfl, Nat.le_refl _⟩
      · exact ⟨_, rfl, H, fun _ _ h => h, by rw [if_neg (by simp [e, e2])]; exact congrArg int h0, rfl, Nat.le_refl _⟩
  · try simp (disch := (first | rfl | with_reducible assumption | with_reducible solve_by_elim (maxDepth := 8) [Shape.inT, Shape.inI, Shape.inC, Shape.inK, Shape.obF, Shape.obT, Shape.arI, Arr.inF] | omega)) only [S2, Nat.reduceEqDiff, Nat.reduceAdd, iput, puts]
    refine ⟨_, rfl, H, fun _ _ h => h, ?_, rfl, Nat.le_refl _⟩
    unfold lcode
    rw [if_neg fun h1 => h0 (code_zero.2 h1)]
    rfl

end Go.Av
