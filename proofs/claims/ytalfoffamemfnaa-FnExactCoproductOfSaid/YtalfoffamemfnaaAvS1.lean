/-
  Spans over a category: those from an object, the universal ones.
-/
import Derived.Test.YtalfoffamemfnaaAvS0
namespace Go.Av
open Classical
set_option linter.unusedSimpArgs false
set_option linter.unusedVariables false
variable {P : Program} {ν : Nat → FuncId}

theorem frzL_agg2 {H : Hp} {l : List AV} {a b : Int} : frzL H (.agg [int a, int b] :: l) = (frzL H l).map (.agg [int a, int b] :: ·) := frzL_agg rfl
theorem frzL_agg3 {H : Hp} {l : List AV} : frzL H ([] : List AV) = some [] := rfl
theorem frzL_fni {H : Hp} {l : List AV} {k : Nat} {c : List AV} (h : c.mapM (frz H 5) = some c) : frzL H (.fn k c :: l) = (frzL H l).map (.fn k c :: ·) := by
  have : frz H fuel (.fn k c) = some (.fn k c) := by simp only [fuel, frz, h, Option.map_some]
  simp only [frzL, List.mapM_cons, this]; cases List.mapM (frz H fuel) l <;> rfl

structure Sp where
  c : Cat
  x : Int
  y : Int
  id : Nat
  caps : List AV
  alone : Bool
  fits : Int → Int → Bool
def Sp.cells (s : Sp) : List AV := [.ptr s.c.cells 0, int s.x, int s.y, .fn s.id s.caps, bool s.alone]
theorem SSp (s : Sp) : s.cells[0]? = some (.ptr s.c.cells 0) ∧ s.cells[1]? = some (int s.x) ∧ s.cells[2]? = some (int s.y) ∧ s.cells[3]? = some (.fn s.id s.caps) ∧ s.cells[4]? = some (bool s.alone) := ⟨rfl, rfl, rfl, rfl, rfl⟩
structure SpOk (P : Program) (ν : Nat → FuncId) (s : Sp) : Prop where
  a : CatA s.c
  st : s.caps.mapM (frz hempty 5) = some s.caps
  still : s.caps.all AV.still = true
  call : ∀ a b : Int, Arr s.c a → Arr s.c b → s.c.T a = s.x → s.c.T b = s.y → Fz (OkM P ν) s.id ([int a, int b] ++ s.caps) (bool (s.fits a b))
  al : s.alone = true → s.x = s.y
  cl : ∀ u a b : Int, Arr s.c u → Arr s.c a → Arr s.c b → s.c.T u = s.c.F a → s.c.T u = s.c.F b → s.c.T a = s.x → s.c.T b = s.y → s.fits a b = true → s.fits (s.c.K u a) (s.c.K u b) = true

def Sp.row (s : Sp) (w a : Int) : List (Int × Int) := if s.alone then (if s.fits a a then [(a, a)] else []) else ((homL s.c w s.y).filter fun b => s.fits a b).map fun b => (a, b)
def Sp.fr (s : Sp) (w : Int) : List (Int × Int) := (homL s.c w s.x).flatMap fun a => s.row w a
def prs (L : List (Int × Int)) : List AV := L.flatMap fun p => [int p.1, int p.2]
def prsAV (L : List (Int × Int)) : AV := .sl (prs L) L.length
theorem prs_len (L : List (Int × Int)) : (prs L).length = L.length * 2 := by
  induction L with
  | nil => rfl
  | cons p L ih => simp only [prs, List.flatMap_cons, List.length_append] at ih ⊢; rw [ih]; simp; omega
theorem prs_append (L M : List (Int × Int)) : prs (L ++ M) = prs L ++ prs M := by simp [prs]
theorem prs_frzN (H : Hp) (k : Nat) (L : List (Int × Int)) : (prs L).mapM (frzN H k) = some (prs L) := by
  induction L with
  | nil => rfl
  | cons p L ih => simp only [prs, List.flatMap_cons, List.cons_append, List.nil_append, List.mapM_cons, frzN_int] at ih ⊢; rw [ih]; rfl
theorem prs_at {L : List (Int × Int)} {i : Nat} (h : i < L.length) : ((prs L).drop (i * 2)).take 2 = [int (L.getD i (0, 0)).1, int (L.getD i (0, 0)).2] := by
  induction L generalizing i with
  | nil => simp at h
  | cons p L ih =>
    cases i with
    | zero => simp [prs]
    | succ i =>
      have := ih (i := i) (by simpa using h)
      simp only [prs, List.flatMap_cons, List.getD_cons_succ] at this ⊢
      rw [← this, show (i + 1) * 2 = i * 2 + 2 by omega]
      rfl
theorem p_msl1P {H : Hp} {a b : Int} : pvf H (.msl 1 [int 0, int 0] [(0, 2)]) [.agg [int a, int b]] = some (.sl [int a, int b] 1) := rfl
theorem p_ldP {H : Hp} {L : List (Int × Int)} {i : Nat} (h : i < L.length) : pvf H (.ld (some 2)) [.ptr (prs L) (i * 2)] = some (.agg [int (L.getD i (0, 0)).1, int (L.getD i (0, 0)).2]) := by
  have := prs_len L
  simp only [pvf, pLd]
  rw [if_pos (by omega), prs_at h]
theorem p_iadP {H : Hp} {L : List (Int × Int)} {i : Nat} (h : i < L.length) : pvf H (.iad 2) [prsAV L, int (i : Int)] = some (.ptr (prs L) (i * 2)) := by
  rw [prsAV, p_iad, if_pos ⟨by omega, by omega⟩]; simp
theorem p_lenP {H : Hp} {L : List (Int × Int)} : pvf H .len [prsAV L] = some (int L.length) := rfl
theorem frzL_prs {H : Hp} {l : List AV} {L : List (Int × Int)} : frzL H (prsAV L :: l) = (frzL H l).map (prsAV L :: ·) := frzL_sl

section
variable {s : Sp} {w : Int}
theorem Sp.row_mem {a : Int} {p : Int × Int} (h : p ∈ s.row w a) : p.1 = a ∧ s.fits p.1 p.2 = true ∧ (s.alone = true → p.2 = a) ∧ (s.alone = false → p.2 ∈ homL s.c w s.y) := by
  unfold Sp.row at h
  split at h
  · rename_i ha
    split at h
    · rename_i hf
      simp at h
      subst h
      exact ⟨rfl, hf, fun _ => rfl, fun h => by rw [ha] at h; cases h⟩
    · simp at h
  · rename_i ha
    obtain ⟨b, hb, rfl⟩ := List.mem_map.1 h
    obtain ⟨h1, h2⟩ := List.mem_filter.1 hb
    exact ⟨rfl, h2, fun h => absurd h ha, fun _ => h1⟩
theorem Sp.fr_mem {p : Int × Int} : p ∈ s.fr w ↔ p.1 ∈ homL s.c w s.x ∧ s.fits p.1 p.2 = true ∧ (s.alone = true → p.2 = p.1) ∧ (s.alone = false → p.2 ∈ homL s.c w s.y) := by
  unfold Sp.fr
  rw [List.mem_flatMap]
  constructor
  · rintro ⟨a, ha, hp⟩
    obtain ⟨h1, h2, h3, h4⟩ := Sp.row_mem hp
    exact ⟨h1 ▸ ha, h2, fun h => (h3 h).trans h1.symm, h4⟩
  · rintro ⟨h1, h2, h3, h4⟩
    refine ⟨p.1, h1, ?_⟩
    unfold Sp.row
    obtain ⟨a, b⟩ := p
    by_cases ha : s.alone = true
    · rw [if_pos ha]
      have : b = a := h3 ha
      subst this
      rw [if_pos h2]; simp
    · rw [if_neg ha]
      exact List.mem_map.2 ⟨b, List.mem_filter.2 ⟨h4 (by simpa using ha), h2⟩, rfl⟩
theorem Sp.fr_nodup : (s.fr w).Nodup := by
  unfold Sp.fr List.Nodup
  rw [List.flatMap, List.pairwise_flatten]
  constructor
  · intro l hl
    obtain ⟨a, _, rfl⟩ := List.mem_map.1 hl
    unfold Sp.row
    split
    · split <;> simp
    · rw [List.pairwise_map]
      refine ((homL_nodup _ _ _).filter _).imp fun h e => h (by simpa using e)
  · rw [List.pairwise_map]
    refine (homL_nodup s.c w s.x).imp fun h x hx y hy e => ?_
    have h1 := (Sp.row_mem hx).1
    have h2 := (Sp.row_mem hy).1
    rw [e] at h1
    exact h (h1.symm.trans h2)
theorem Sp.fr_arr (k : CatA s.c) (hal : s.alone = true → s.x = s.y) {p : Int × Int} (h : p ∈ s.fr w) : (Arr s.c p.1 ∧ s.c.F p.1 = w ∧ s.c.T p.1 = s.x) ∧ (Arr s.c p.2 ∧ s.c.F p.2 = w ∧ s.c.T p.2 = s.y) := by
  obtain ⟨h1, h2, h3, h4⟩ := Sp.fr_mem.1 h
  have a := mem_hom.1 h1
  refine ⟨a, ?_⟩
  by_cases ha : s.alone = true
  · rw [h3 ha, ← hal ha]; exact a
  · exact mem_hom.1 (h4 (by simpa using ha))
end
/-- The span is universal. -/
def Sp.UniAt (s : Sp) (z p q w : Int) : Prop := (homL s.c w z).length = (s.fr w).length ∧ ((homL s.c w z).map fun u => [s.c.K u p, s.c.K u q]).Nodup
def Sp.Uni (s : Sp) (z p q : Int) : Prop := ∀ w : Int, Ob s.c w → s.UniAt z p q w
def Sp.OneAt (s : Sp) (z p q w : Int) : Prop := ∀ b ∈ s.fr w, ((homL s.c w z).filter fun u => s.c.K u p == b.1 && s.c.K u q == b.2).length = 1
theorem Sp.uni_iff {s : Sp} (k : SpOk P ν s) {z p q w : Int} (hp : (p, q) ∈ s.fr z) : s.UniAt z p q w ↔ s.OneAt z p q w := by
  have sh := k.a.s
  obtain ⟨⟨p1, p2, p3⟩, q1, q2, q3⟩ := Sp.fr_arr k.a k.al hp
  simp only at p1 p2 p3 q1 q2 q3
  have h := once_iff (homL s.c w z) (s.fr w) (fun u => (s.c.K u p, s.c.K u q)) (homL_nodup _ _ _) Sp.fr_nodup fun u hu => by
    obtain ⟨u1, u2, u3⟩ := mem_hom.1 hu
    have e1 : s.c.T u = s.c.F p := by rw [u3, p2]
    have e2 : s.c.T u = s.c.F q := by rw [u3, q2]
    obtain ⟨_, h2, h3, h4⟩ := Sp.fr_mem.1 hp
    refine Sp.fr_mem.2 ⟨mem_hom.2 ⟨sh.arK u1 p1 e1, by rw [sh.kF u1 p1 e1, u2], by rw [sh.kT u1 p1 e1, p3]⟩, k.cl u p q u1 p1 q1 e1 e2 p3 q3 h2, fun ha => ?_, fun ha => mem_hom.2 ⟨sh.arK u1 q1 e2, by rw [sh.kF u1 q1 e2, u2], by rw [sh.kT u1 q1 e2, q3]⟩⟩
    simp only
    have : q = p := h3 ha
    rw [this]
  have e : ((homL s.c w z).map fun u => (s.c.K u p, s.c.K u q)).Nodup ↔ ((homL s.c w z).map fun u => [s.c.K u p, s.c.K u q]).Nodup := by
    unfold List.Nodup
    rw [List.pairwise_map, List.pairwise_map]
    constructor <;> intro h <;> refine h.imp fun h1 => ?_
    · simpa using h1
    · simpa using h1
  unfold Sp.UniAt Sp.OneAt
  rw [← e, and_comm]
  refine h.trans ⟨fun hh b hb => (congrArg List.length (List.filter_congr fun u _ => ?_)).trans (hh b hb), fun hh b hb => (congrArg List.length (List.filter_congr fun u _ => ?_)).trans (hh b hb)⟩ <;> (rw [Bool.eq_iff_iff]; simp [Prod.ext_iff])

def V_spans_from : Vc :=
  .op true (.p (.msl 0 [] []) []) <|
  .op true (.p .nck [.t 0]) <|
  .op true (.p (.fad 0) [.t 3]) <|
  .op true (.p (.ld none) [.t 4]) <|
  .op true (.p .nck [.t 0]) <|
  .op true (.p (.fad 1) [.t 6]) <|
  .op true (.p (.ld none) [.t 7]) <|
  .op true (.call (.f 33) [.t 5, .t 1, .t 8]) <|
  .op true (.p .len [.t 9]) <|
  .loop 0 [.t 2, .c (int 0)] <|
  .op true (.p (.bin .lss) [.t 12, .t 10]) <|
  .br 13
   (.op true (.p (.iad 1) [.t 9, .t 12]) <|
   .op true (.p (.ld none) [.t 14]) <|
   .op true (.p .nck [.t 0]) <|
   .op true (.p (.fad 4) [.t 16]) <|
   .op true (.p (.ld none) [.t 17]) <|
   .br 18
    (.op true (.p .nck [.t 0]) <|
    .op true (.p (.fad 3) [.t 19]) <|
    .op true (.p (.ld none) [.t 20]) <|
    .op true (.call (.t 21) [.t 15, .t 15]) <|
    .br 22
     (.op true (.p (.mka [int 0, int 0] [(0, 1), (1, 1)]) [.t 15, .t 15]) <|
     .op true (.p (.msl 1 [int 0, int 0] [(0, 2)]) [.t 23]) <|
     .op true (.app 2 (.t 11) (.t 24)) <|
     .op true (.p (.bin .add) [.t 12, .c (int 1)]) <|
     .again 0 [.t 25, .t 26])
     (.op true (.p (.bin .add) [.t 12, .c (int 1)]) <|
     .again 0 [.t 11, .t 23]))
    (.op true (.p .nck [.t 0]) <|
    .op true (.p (.fad 0) [.t 19]) <|
    .op true (.p (.ld none) [.t 20]) <|
    .op true (.p .nck [.t 0]) <|
    .op true (.p (.fad 2) [.t 22]) <|
    .op true (.p (.ld none) [.t 23]) <|
    .op true (.call (.f 33) [.t 21, .t 1, .t 24]) <|
    .op true (.p .len [.t 25]) <|
    .loop 1 [.t 11, .c (int 0)] <|
    .op true (.p (.bin .lss) [.t 28, .t 26]) <|
    .br 29
     (.op true (.p (.iad 1) [.t 25, .t 28]) <|
     .op true (.p (.ld none) [.t 30]) <|
     .op true (.p .nck [.t 0]) <|
     .op true (.p (.fad 3) [.t 32]) <|
     .op true (.p (.ld none) [.t 33]) <|
     .op true (.call (.t 34) [.t 15, .t 31]) <|
     .br 35
      (.op true (.p (.mka [int 0, int 0] [(0, 1), (1, 1)]) [.t 15, .t 31]) <|
      .op true (.p (.msl 1 [int 0, int 0] [(0, 2)]) [.t 36]) <|
      .op true (.app 2 (.t 27) (.t 37)) <|
      .op true (.p (.bin .add) [.t 28, .c (int 1)]) <|
      .again 1 [.t 38, .t 39])
      (.op true (.p (.bin .add) [.t 28, .c (int 1)]) <|
      .again 1 [.t 27, .t 36]))
     (.op true (.p (.bin .add) [.t 12, .c (int 1)]) <|
     .again 0 [.t 27, .t 30])))
   (.ret [(.t 11, none)])
set_option maxHeartbeats 1000000 in
theorem from_fz (hh : Has P ν 33 3 V_Category_hom) (h : Has P ν 426 2 V_spans_from) (s : Sp) (k : SpOk P ν s) (w : Int) : Fz (OkM P ν) 426 [.ptr s.cells 0, int w] (prsAV (s.fr w)) := by
  refine OkM.fz (Ψ := fun H nx => IsC (prs (s.fr w)) (s.fr w).length 2 H nx) (fun H nx => h _ _ _ _ rfl fun hwf => ?_) fun _ _ _ hh => hh.frzN 5 (prs_frzN _ _ _) rfl
  unfold V_spans_from
  have sh := k.a.s
  have l1 := homL_len sh w s.x
  have l2 := homL_len sh w s.y
  repeat (first | simp (disch := (first | rfl | with_reducible assumption | with_reducible solve_by_elim (maxDepth := 8) [Shape.inT, Shape.inI, Shape.inC, Shape.inK, Shape.obF, Shape.obT, Shape.arI, Arr.inF] | omega)) only [S2, Nat.reduceEqDiff, Nat.reduceAdd, iput, puts, SSp s] | (refine den_call rfl (by first | (simp only [SS, Nat.reduceEqDiff, Nat.reduceAdd, iput, puts, FF, frzL_cat, frzL_agg2, frzL_agg3]; done) | (simp only [SS, Nat.reduceEqDiff, Nat.reduceAdd, iput, puts, FF, frzL_cat, frzL_agg2, frzL_agg3]; rfl)) (by first | exact sh.homFz hh w s.x) ?_) | (refine den_calli rfl (by first | (simp only [SS, Nat.reduceEqDiff, Nat.reduceAdd, iput, puts, FF, frzL_cat, frzL_agg2, frzL_agg3]; done) | (simp only [SS, Nat.reduceEqDiff, Nat.reduceAdd, iput, puts, FF, frzL_cat, frzL_agg2, frzL_agg3]; rfl)) (by first | exact sh.homFz hh w s.x) ?_))
  refine den_loop (α := Nat × AV) (fun a => [a.2, int a.1]) (fun a H' nx' => a.1 ≤ (homL s.c w s.x).length ∧ IsC (prs (((homL s.c w s.x).take a.1).flatMap fun a => s.row w a)) (((homL s.c w s.x).take a.1).flatMap fun a => s.row w a).length 2 H nx a.2 H' nx' ∧ (((homL s.c w s.x).take a.1).flatMap fun a => s.row w a).length ≤ a.1 * 40) (fun a => (homL s.c w s.x).length - a.1) (0, .nil) rfl ⟨Nat.zero_le _, IsC.nil, by simp⟩ ?_
  rintro ⟨i, v⟩ H1 n1 ⟨hi, hI, hL⟩
  simp only at hi hI hL
  have tk : ∀ i, i < (homL s.c w s.x).length → (((homL s.c w s.x).take (i + 1)).flatMap fun a => s.row w a) = (((homL s.c w s.x).take i).flatMap fun a => s.row w a) ++ s.row w ((homL s.c w s.x).getD i 0) := fun i hi => by
    rw [take_succ_at hi, List.flatMap_append]; simp
  by_cases hlt : i < (homL s.c w s.x).length
  · have i1 : In (homL s.c w s.x) (i : Int) := In.nat hlt
    have a := hom_arr hlt
    have aT := hom_T hlt
    try simp (disch := (first | rfl | with_reducible assumption | with_reducible solve_by_elim (maxDepth := 8) [Shape.inT, Shape.inI, Shape.inC, Shape.inK, Shape.obF, Shape.obT, Shape.arI, Arr.inF] | omega)) only [S2, Nat.reduceEqDiff, Nat.reduceAdd, iput, puts, SSp s, hlt, gI_nat]
    refine ⟨fun ha => ?_, fun ha => ?_⟩
    · have e1 : s.row w ((homL s.c w s.x).getD i 0) = if s.fits ((homL s.c w s.x).getD i 0) ((homL s.c w s.x).getD i 0) then [((homL s.c w s.x).getD i 0, (homL s.c w s.x).getD i 0)] else [] := by rw [Sp.row, if_pos ha]
      try simp (disch := (first | rfl | with_reducible assumption | with_reducible solve_by_elim (maxDepth := 8) [Shape.inT, Shape.inI, Shape.inC, Shape.inK, Shape.obF, Shape.obT, Shape.arI, Arr.inF] | omega)) only [S2, Nat.reduceEqDiff, Nat.reduceAdd, iput, puts, SSp s]
      refine den_call (fc := (s.id, s.caps)) (ys := [int ((homL s.c w s.x).getD i 0), int ((homL s.c w s.x).getD i 0)] ++ s.caps) rfl (by simp only [SS, Nat.reduceEqDiff, Nat.reduceAdd, iput, puts, FF, frzL_cat, frzL_agg2, frzL_agg3]; simp only [frzL, frz_stills k.still]; rfl) (k.call _ _ a a aT (by rw [← k.al ha]; exact aT)) ?_
      try simp (disch := (first | rfl | with_reducible assumption | with_reducible solve_by_elim (maxDepth := 8) [Shape.inT, Shape.inI, Shape.inC, Shape.inK, Shape.obF, Shape.obT, Shape.arI, Arr.inF] | omega)) only [S2, Nat.reduceEqDiff, Nat.reduceAdd, iput, puts, SSp s]
      refine ⟨fun hf => ?_, fun hf => ?_⟩
      · try simp (disch := (first | rfl | with_reducible assumption | with_reducible solve_by_elim (maxDepth := 8) [Shape.inT, Shape.inI, Shape.inC, Shape.inK, Shape.obF, Shape.obT, Shape.arI, Arr.inF] | omega)) only [S2, Nat.reduceEqDiff, Nat.reduceAdd, iput, puts, SSp s, p_msl1P]
        refine den_appC (k := (((homL s.c w s.x).take i).flatMap fun a => s.row w a).length) (m := 1) hI rfl (by simp) rfl rfl (by omega) fun v2 H2 n2 hI2 => ?_
        try simp (disch := (first | rfl | with_reducible assumption | with_reducible solve_by_elim (maxDepth := 8) [Shape.inT, Shape.inI, Shape.inC, Shape.inK, Shape.obF, Shape.obT, Shape.arI, Arr.inF] | omega)) only [S2, Nat.reduceEqDiff, Nat.reduceAdd, iput, puts]
        rw [if_pos hf] at e1
        refine ⟨(i + 1, v2), rfl, ⟨hlt, ?_, ?_⟩, by simp only; omega⟩
        · simp only; rw [tk i hlt, e1, prs_append, List.length_append]; exact hI2
        · simp only; rw [tk i hlt, e1, List.length_append]; simp only [List.length_cons, List.length_nil]; omega
      · try simp (disch := (first | rfl | with_reducible assumption | with_reducible solve_by_elim (maxDepth := 8) [Shape.inT, Shape.inI, Shape.inC, Shape.inK, Shape.obF, Shape.obT, Shape.arI, Arr.inF] | omega)) only [S2, Nat.reduceEqDiff, Nat.reduceAdd, iput, puts]
        rw [if_neg (by rw [hf]; decide)] at e1
        refine ⟨(i + 1, v), rfl, ⟨hlt, ?_, ?_⟩, by simp only; omega⟩
        · simp only; rw [tk i hlt, e1, List.append_nil]; exact hI
        · simp only; rw [tk i hlt, e1, List.append_nil]; omega
    · have e1 : s.row w ((homL s.c w s.x).getD i 0) = ((homL s.c w s.y).filter fun b => s.fits ((homL s.c w s.x).getD i 0) b).map fun b => ((homL s.c w s.x).getD i 0, b) := by rw [Sp.row, if_neg (by simp [ha])]
      have tki := tk i hlt
      generalize hA : (((homL s.c w s.x).take i).flatMap fun a => s.row w a) = A at hI hL tki
      generalize hp : (homL s.c w s.x).getD i 0 = p at a aT e1
      repeat (first | simp (disch := (first | rfl | with_reducible assumption | with_reducible solve_by_elim (maxDepth := 8) [Shape.inT, Shape.inI, Shape.inC, Shape.inK, Shape.obF, Shape.obT, Shape.arI, Arr.inF] | omega)) only [S2, Nat.reduceEqDiff, Nat.reduceAdd, iput, puts, SSp s] | (refine den_call rfl (by first | (simp only [SS, Nat.reduceEqDiff, Nat.reduceAdd, iput, puts, FF, frzL_cat, frzL_agg2, frzL_agg3]; done) | (simp only [SS, Nat.reduceEqDiff, Nat.reduceAdd, iput, puts, FF, frzL_cat, frzL_agg2, frzL_agg3]; rfl)) (by first | exact sh.homFz hh w s.y) ?_) | (refine den_calli rfl (by first | (simp only [SS, Nat.reduceEqDiff, Nat.reduceAdd, iput, puts, FF, frzL_cat, frzL_agg2, frzL_agg3]; done) | (simp only [SS, Nat.reduceEqDiff, Nat.reduceAdd, iput, puts, FF, frzL_cat, frzL_agg2, frzL_agg3]; rfl)) (by first | exact sh.homFz hh w s.y) ?_))
      refine den_loop (α := Nat × AV) (fun a => [a.2, int a.1]) (fun b H' nx' => b.1 ≤ (homL s.c w s.y).length ∧ IsC (prs (A ++ (((homL s.c w s.y).take b.1).filter fun b => s.fits p b).map fun b => (p, b))) (A ++ (((homL s.c w s.y).take b.1).filter fun b => s.fits p b).map fun b => (p, b)).length 2 H nx b.2 H' nx') (fun a => (homL s.c w s.y).length - a.1) (0, v) rfl ⟨Nat.zero_le _, by simpa using hI⟩ ?_
      rintro ⟨j, u⟩ H2 n2 ⟨hj, hJ⟩
      simp only at hj hJ
      by_cases hlj : j < (homL s.c w s.y).length
      · have i2 : In (homL s.c w s.y) (j : Int) := In.nat hlj
        have b := hom_arr hlj
        have bT := hom_T hlj
        try simp (disch := (first | rfl | with_reducible assumption | with_reducible solve_by_elim (maxDepth := 8) [Shape.inT, Shape.inI, Shape.inC, Shape.inK, Shape.obF, Shape.obT, Shape.arI, Arr.inF] | omega)) only [S2, Nat.reduceEqDiff, Nat.reduceAdd, iput, puts, SSp s, hlj, gI_nat]
        refine den_call (fc := (s.id, s.caps)) (ys := [int p, int ((homL s.c w s.y).getD j 0)] ++ s.caps) rfl (by simp only [SS, Nat.reduceEqDiff, Nat.reduceAdd, iput, puts, FF, frzL_cat, frzL_agg2, frzL_agg3]; simp only [frzL, frz_stills k.still]; rfl) (k.call _ _ a b aT bT) ?_
        try simp (disch := (first | rfl | with_reducible assumption | with_reducible solve_by_elim (maxDepth := 8) [Shape.inT, Shape.inI, Shape.inC, Shape.inK, Shape.obF, Shape.obT, Shape.arI, Arr.inF] | omega)) only [S2, Nat.reduceEqDiff, Nat.reduceAdd, iput, puts, SSp s]
        refine ⟨fun hf => ?_, fun hf => ?_⟩
        · try simp (disch := (first | rfl | with_reducible assumption | with_reducible solve_by_elim (maxDepth := 8) [Shape.inT, Shape.inI, Shape.inC, Shape.inK, Shape.obF, Shape.obT, Shape.arI, Arr.inF] | omega)) only [S2, Nat.reduceEqDiff, Nat.reduceAdd, iput, puts, SSp s, p_msl1P]
          refine den_appC (k := (A ++ (((homL s.c w s.y).take j).filter fun b => s.fits p b).map fun b => (p, b)).length) (m := 1) hJ rfl (by simp) rfl rfl (by have := take_filter_len (homL s.c w s.y) (fun b => s.fits p b) j; simp only [List.length_append, List.length_map]; omega) fun v2 H3 n3 hI2 => ?_
          try simp (disch := (first | rfl | with_reducible assumption | with_reducible solve_by_elim (maxDepth := 8) [Shape.inT, Shape.inI, Shape.inC, Shape.inK, Shape.obF, Shape.obT, Shape.arI, Arr.inF] | omega)) only [S2, Nat.reduceEqDiff, Nat.reduceAdd, iput, puts]
          refine ⟨(j + 1, v2), rfl, ⟨hlj, ?_⟩, by simp only; omega⟩
          simp only
          rw [take_filter hlj, if_pos (by simpa using hf), List.map_append, ← List.append_assoc, prs_append, List.length_append]
          exact hI2
        · try simp (disch := (first | rfl | with_reducible assumption | with_reducible solve_by_elim (maxDepth := 8) [Shape.inT, Shape.inI, Shape.inC, Shape.inK, Shape.obF, Shape.obT, Shape.arI, Arr.inF] | omega)) only [S2, Nat.reduceEqDiff, Nat.reduceAdd, iput, puts]
          refine ⟨(j + 1, u), rfl, ⟨hlj, ?_⟩, by simp only; omega⟩
          simp only
          rw [take_filter hlj, if_neg (by rw [hf]; decide), List.append_nil]
          exact hJ
      · try simp (disch := (first | rfl | with_reducible assumption | with_reducible solve_by_elim (maxDepth := 8) [Shape.inT, Shape.inI, Shape.inC, Shape.inK, Shape.obF, Shape.obT, Shape.arI, Arr.inF] | omega)) only [S2, Nat.reduceEqDiff, Nat.reduceAdd, iput, puts, hlj]
        have hje : j = (homL s.c w s.y).length := by omega
        subst hje
        rw [List.take_length] at hJ
        refine ⟨(i + 1, u), rfl, ⟨hlt, ?_, ?_⟩, by simp only; omega⟩
        · simp only; rw [tki, hp, e1]; exact hJ
        · simp only; rw [tki, hp, e1, List.length_append, List.length_map]
          have := List.length_filter_le (fun b => s.fits p b) (homL s.c w s.y)
          omega
  · try simp (disch := (first | rfl | with_reducible assumption | with_reducible solve_by_elim (maxDepth := 8) [Shape.inT, Shape.inI, Shape.inC, Shape.inK, Shape.obF, Shape.obT, Shape.arI, Arr.inF] | omega)) only [S2, Nat.reduceEqDiff, Nat.reduceAdd, iput, puts, hlt]
    have hie : i = (homL s.c w s.x).length := by omega
    subst hie
    rw [List.take_length] at hI
    exact ⟨_, rfl, _, fun _ _ h => h, hI⟩

/-- The first universal span. -/
noncomputable def Sp.firstO (s : Sp) : Option (Int × Int × Int) := (List.range s.c.o.toNat).findSome? fun (z : Nat) => ((s.fr z).find? fun p => decide (s.Uni z p.1 p.2)).map fun p => ((z : Int), p)
def firstAV : Option (Int × Int × Int) → AV
  | some p => .tup [int p.1, .agg [int p.2.1, int p.2.2], bool true]
  | none => .tup [int 0, .agg [int 0, int 0], bool false]
def tripAV : Option (Int × Int × Int) → AV
  | some p => .tup [int p.1, int p.2.1, int p.2.2, int 0]
  | none => .tup [int 0, int 0, int 0, int 4]
theorem Sp.fr_len' {s : Sp} (k : Shape s.c) (w : Int) : (s.fr w).length ≤ 1600 := by
  have row : ∀ a, (s.row w a).length ≤ 40 := fun a => by
    unfold Sp.row
    split
    · split <;> simp
    · rw [List.length_map]; exact Nat.le_trans (List.length_filter_le _ _) (homL_len k _ _)
  have h2 := homL_len k w s.x
  have : ∀ l : List Int, (l.flatMap fun a => s.row w a).length ≤ l.length * 40 := by
    intro l
    induction l with
    | nil => simp
    | cons a l ih => have := row a; simp only [List.flatMap_cons, List.length_append, List.length_cons, Nat.add_mul]; omega
  have h3 := this (homL s.c w s.x)
  have : (homL s.c w s.x).length * 40 ≤ 40 * 40 := Nat.mul_le_mul_right _ h2
  unfold Sp.fr
  omega
end Go.Av
