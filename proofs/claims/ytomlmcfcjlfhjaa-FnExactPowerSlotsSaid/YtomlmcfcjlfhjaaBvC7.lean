/-
  PowerSlots, both sides; the slots themselves are asked for.
-/
import Derived.Test.YtomlmcfcjlfhjaaBvC6
import Derived.Test.YtomlmcfcjlfhjaaBvC3
import Derived.Test.YtomlmcfcjlfhjaaBvQ0
import Derived.Test.YtomlmcfcjlfhjaaBvB4
namespace Go.Av
set_option linter.unusedSectionVars false
set_option linter.unusedSimpArgs false
set_option linter.unusedVariables false
variable [md : Md]
open Classical
set_option linter.unusedSimpArgs false
set_option linter.unusedVariables false
variable {P : Program} {ν : Nat → FuncId}

def slotV (y h : Int) (n : Nat) : List (List Int) := (List.range n).map fun (v : Nat) => [y, h, (v : Int)]
def slotH (y : Int) (n : Nat) (l : List Int) : List (List Int) := l.flatMap fun h => slotV y h n
def slotY (f : SF) (x : Int) (y : Nat) : List (List Int) := slotH y (f.z.getD y 0).toNat (homL f.c x y)
def slotL (f : SF) (x : Int) : List (List Int) := (List.range f.c.o.toNat).flatMap (slotY f x)
theorem slotV_succ (y h : Int) (n : Nat) : slotV y h (n + 1) = slotV y h n ++ [[y, h, (n : Int)]] := by simp [slotV, List.range_succ]
theorem slotH_snoc (y : Int) (n : Nat) (l : List Int) (h : Int) : slotH y n (l ++ [h]) = slotH y n l ++ slotV y h n := by simp [slotH]
theorem slotV_len (y h : Int) (n : Nat) : (slotV y h n).length = n := by simp [slotV]
theorem slotH_len {y : Int} {n : Nat} {l : List Int} (hn : n ≤ 17) (hl : l.length ≤ 40) : (slotH y n l).length ≤ 680 := by
  have := flat_len_le l (fun h => slotV y h n) 17 fun a _ => by rw [slotV_len]; exact hn
  have h2 : l.length * 17 ≤ 40 * 17 := Nat.mul_le_mul_right _ hl
  unfold slotH
  omega
theorem SShape.z17 {f : SF} (s : SShape f) (y : Nat) : (f.z.getD y 0).toNat ≤ 17 ∧ f.z.getD y 0 ≤ 17 := by
  by_cases h : y < f.z.length
  · have := s.zw y h
    omega
  · simp [List.getD, Nat.le_of_not_lt h]
theorem slot_take {f : SF} (s : SShape f) (x : Int) (n : Nat) (hn : n ≤ 8) : ((List.range n).flatMap (slotY f x)).length ≤ 5440 := by
  have := flat_len_le (List.range n) (slotY f x) 680 fun a _ => slotH_len (s.z17 a).1 (homL_len s.cat.1 _ _)
  simp only [List.length_range] at this
  have h2 : n * 680 ≤ 8 * 680 := Nat.mul_le_mul_right _ hn
  omega
theorem slotL_row {f : SF} {x : Int} : ∀ r ∈ slotL f x, r.length = 3 := by
  intro r hr
  simp only [slotL, slotY, slotH, slotV, List.mem_flatMap, List.mem_map] at hr
  obtain ⟨z, _, g, _, v, _, rfl⟩ := hr
  rfl

def V_spec_l24Slots : Vc :=
  .op true (.p .box [.t 0]) <|
  .op true (.p (.msl 0 [] []) []) <|
  .loop 0 [.t 3, .c (int 0)] <|
  .op true (.p (.fad 0) [.t 2]) <|
  .op true (.p (.fad 0) [.t 6]) <|
  .op true (.p (.ld none) [.t 7]) <|
  .op true (.p (.bin .lss) [.t 5, .t 8]) <|
  .br 9
   (.op true (.p (.fad 0) [.t 2]) <|
   .op true (.p (.ld (some 5)) [.t 10]) <|
   .op true (.call (.f 309) [.t 11, .t 1, .t 5]) <|
   .loop 1 [.t 4, .c (int 0)] <|
   .op true (.p .len [.t 12]) <|
   .op true (.p (.bin .lss) [.t 14, .t 15]) <|
   .br 16
    (.loop 2 [.t 13, .c (int 0)] <|
    .op true (.p (.fad 5) [.t 2]) <|
    .op true (.p (.ld none) [.t 19]) <|
    .op true (.p (.iad 1) [.t 20, .t 5]) <|
    .op true (.p (.ld none) [.t 21]) <|
    .op true (.p (.bin .lss) [.t 18, .t 22]) <|
    .br 23
     (.op true (.p (.iad 1) [.t 12, .t 14]) <|
     .op true (.p (.ld none) [.t 24]) <|
     .op true (.p (.msl 3 [int 0, int 0, int 0] [(0, 1), (1, 1), (2, 1)]) [.t 5, .t 25, .t 18]) <|
     .op true (.p (.msl 1 [.nil] [(0, 1)]) [.t 26]) <|
     .op true (.app 1 (.t 17) (.t 27)) <|
     .op true (.p (.bin .add) [.t 18, .c (int 1)]) <|
     .again 2 [.t 28, .t 29])
     (.op true (.p (.bin .add) [.t 14, .c (int 1)]) <|
     .again 1 [.t 17, .t 24]))
    (.op true (.p (.bin .add) [.t 5, .c (int 1)]) <|
    .again 0 [.t 13, .t 17]))
   (.ret [(.t 4, none)])
set_option maxHeartbeats 2000000 in
theorem l24Slots_fi (hh : Has P ν 309 3 V_spec_l02Hom) (h : Has P ν 285 2 V_spec_l24Slots) (f : SF) (s : SShape f) (b : SmallF f) (x : Int) :
    Fi (OkM P ν) 285 [.agg f.cells, int x] (.sl (rows (slotL f x)) (slotL f x).length) := by
  refine OkM.fi (Ψ := fun H nx => IsC (rows (slotL f x)) (slotL f x).length 1 H nx) (fun H nx => h _ _ _ _ rfl fun hwf => ?_) fun _ _ _ hh => hh.rows
  unfold V_spec_l24Slots
  have st := s.cat.1
  have n40 := st.n40
  have o8 := st.o8
  have o0 := st.o0
  have zl := s.zl
  simp only [SS, Nat.reduceEqDiff, Nat.reduceAdd, iput, puts, p_boxs]
  refine den_loop (α := Nat × AV) (fun a => [a.2, int a.1]) (fun a H' nx' => a.1 ≤ f.c.o.toNat ∧ IsC (rows ((List.range a.1).flatMap (slotY f x))) ((List.range a.1).flatMap (slotY f x)).length 1 H nx a.2 H' nx') (fun a => f.c.o.toNat - a.1) (0, .nil) rfl ⟨Nat.zero_le _, IsC.nil⟩ ?_
  rintro ⟨y, v⟩ H1 n1 ⟨hy, hI⟩
  simp only at hy hI
  by_cases hlt : (y : Int) < f.c.o
  · have tz := range_flat (slotY f x) y
    have lA := slot_take s x y (by omega)
    generalize hA : ((List.range y).flatMap (slotY f x)) = A at hI tz lA
    have hyz : y < f.z.length := by omega
    have lh := homL_len st x (y : Int)
    obtain ⟨z1, z2⟩ := s.z17 y
    simp only [SS, Nat.reduceEqDiff, Nat.reduceAdd, iput, puts, hlt, sf0, p_lds5]
    refine den_call (fc := (309, [])) (ys := [.agg f.c.cells, int x, int y]) rfl (by simp only [SS, Nat.reduceEqDiff, Nat.reduceAdd, iput, puts, FF, frzL_cat, frzL_sf]) (l02Hom_fz hh f.c x y (by have := st.tl; omega) (by omega)) ?_
    simp only [SS, Nat.reduceEqDiff, Nat.reduceAdd, iput, puts]
    refine den_loop (α := Nat × AV) (fun a => [a.2, int a.1]) (fun a H' nx' => a.1 ≤ (homL f.c x y).length ∧ IsC (rows (A ++ slotH y (f.z.getD y 0).toNat ((homL f.c x y).take a.1))) (A ++ slotH y (f.z.getD y 0).toNat ((homL f.c x y).take a.1)).length 1 H nx a.2 H' nx') (fun a => (homL f.c x y).length - a.1) (0, v) rfl ⟨Nat.zero_le _, by simpa [slotH] using hI⟩ ?_
    rintro ⟨i, v1⟩ H2 n2 ⟨hi, hJ⟩
    simp only at hi hJ
    by_cases hli : i < (homL f.c x y).length
    · have ti := take_succ_at hli
      have lD : (A ++ slotH y (f.z.getD y 0).toNat ((homL f.c x y).take i)).length ≤ 6120 := by
        have := slotH_len (y := y) (n := (f.z.getD y 0).toNat) (l := (homL f.c x y).take i) z1 (by rw [List.length_take]; omega)
        rw [List.length_append]; omega
      generalize hD : A ++ slotH y (f.z.getD y 0).toNat ((homL f.c x y).take i) = D at hJ lD
      simp only [SS, Nat.reduceEqDiff, Nat.reduceAdd, iput, puts, hli]
      refine den_loop (α := Nat × AV) (fun a => [a.2, int a.1]) (fun a H' nx' => a.1 ≤ (f.z.getD y 0).toNat ∧ IsC (rows (D ++ slotV y ((homL f.c x y).getD i 0) a.1)) (D ++ slotV y ((homL f.c x y).getD i 0) a.1).length 1 H nx a.2 H' nx') (fun a => (f.z.getD y 0).toNat - a.1) (0, v1) rfl ⟨Nat.zero_le _, by simpa [slotV] using hJ⟩ ?_
      rintro ⟨w, v2⟩ H3 n3 ⟨hw, hL⟩
      simp only at hw hL
      have lE : (D ++ slotV y ((homL f.c x y).getD i 0) w).length ≤ 1048576 := by rw [List.length_append, slotV_len]; omega
      by_cases hlw : (w : Int) < f.z.getD y 0
      · simp only [SS, Nat.reduceEqDiff, Nat.reduceAdd, iput, puts, sf5, hyz, hlw, hli, p_msl3, p_msl1R]
        refine den_appC (m := 1) (ds := [islice [(y : Int), (homL f.c x y).getD i 0, (w : Int)]]) hL rfl (by simp) rfl rfl (by omega) fun v3 H4 n4 hI2 => ?_
        simp only [SS, Nat.reduceEqDiff, Nat.reduceAdd, iput, puts, wrap_succ (show w < 9223372036854775807 by omega)]
        refine ⟨(w + 1, v3), rfl, ⟨by simp only; omega, ?_⟩, by simp only; omega⟩
        simp only
        rw [slotV_succ, ← List.append_assoc, rows_append, List.length_append]
        exact hI2
      · simp only [SS, Nat.reduceEqDiff, Nat.reduceAdd, iput, puts, sf5, hyz, hlw, wrap_succ (show i < 9223372036854775807 by omega)]
        refine ⟨(i + 1, v2), rfl, ⟨hli, ?_⟩, by simp only; omega⟩
        have hwe : w = (f.z.getD y 0).toNat := by omega
        subst hwe
        simp only
        rw [ti, slotH_snoc, ← List.append_assoc, hD]
        exact hL
    · simp only [SS, Nat.reduceEqDiff, Nat.reduceAdd, iput, puts, hli, wrap_succ (show y < 9223372036854775807 by omega)]
      refine ⟨(y + 1, v1), rfl, ⟨by simp only; omega, ?_⟩, by simp only; omega⟩
      have hie : i = (homL f.c x y).length := by omega
      subst hie
      rw [List.take_length] at hJ
      simp only
      rw [tz]
      exact hJ
  · simp only [SS, Nat.reduceEqDiff, Nat.reduceAdd, iput, puts, hlt, sf0]
    have hze : y = f.c.o.toNat := by omega
    subst hze
    exact ⟨_, rfl, _, fun _ _ h => h, hI⟩

noncomputable def psC (f : SF) (x : Int) : Int := if SFun f then (if 0 ≤ x ∧ x < f.c.o then 0 else 2) else 1
noncomputable def psR (f : SF) (x : Int) : List (List Int) := if psC f x = 0 then slotL f x else []
def V_PowerSlots : Vc :=
  .op true (.p .box [.t 0]) <|
  .op true (.call (.f 283) [.t 2]) <|
  .op true (.p .bnot [.t 3]) <|
  .br 4
   (.ret [(.c (.nil), none), (.c (int 1), none)])
   (.op true (.p (.fad 0) [.t 2]) <|
   .op true (.p (.fad 0) [.t 5]) <|
   .op true (.p (.ld none) [.t 6]) <|
   .op true (.p (.bin .sub) [.t 7, .c (int 1)]) <|
   .op true (.call (.f 32) [.t 1, .c (int 0), .t 8]) <|
   .op true (.p .bnot [.t 9]) <|
   .br 10
    (.ret [(.c (.nil), none), (.c (int 2), none)])
    (.op true (.callo (.f 286) [.t 2, .t 1]) <|
    .ret [(.t 11, none), (.c (int 0), none)]))
/-- What is asked of SetFunctor.slots. -/
def SlotsOk (P : Program) (ν : Nat → FuncId) (f : SF) (x : Int) : Prop := ∀ nx, OkM P ν 286 [.ptr f.cells 0, int x] hempty nx fun r H' nx' => nx ≤ nx' ∧ OwnD (slotL f x) r H' nx nx' ∧ clnH nx H'
set_option maxHeartbeats 1000000 in
theorem PowerSlots_ok (K : HCat P ν) (L : HSF P ν) (h : Has P ν 148 2 V_PowerSlots) (f : SF) (b : SmallF f) (x : Int) (hs : SFun f → 0 ≤ x ∧ x < f.c.o → SlotsOk P ν f x) (nx : Nat) :
    OkM P ν 148 [.agg f.cells, int x] hempty nx (IsQ (psR f x) (psC f x) nx) := by
  refine h _ _ _ _ rfl fun hwf => ?_
  unfold V_PowerSlots
  have bad : ∀ k : Int, psC f x = k → k ≠ 0 → ∃ H', Sub H' hempty ∧ IsQ (psR f x) (psC f x) nx (.tup [.nil, int k]) H' nx := fun k e hk => by
    rw [psR, e, if_neg hk]
    exact ⟨hempty, fun _ _ h => h, .nil, rfl, Nat.le_refl _, OwnD.nil, fun o c hc => by cases hc⟩
  simp only [SS, Nat.reduceEqDiff, Nat.reduceAdd, iput, puts, p_boxs]
  refine den_call (fc := (283, [])) rfl (by first | (simp only [SS, Nat.reduceEqDiff, Nat.reduceAdd, iput, puts, FF, frzL_cat, frzL_sf]; done) | (simp only [SS, Nat.reduceEqDiff, Nat.reduceAdd, iput, puts, FF, frzL_cat, frzL_sf]; rfl)) (isSetFunctor_fz K L f b) ?_
  simp only [SS, Nat.reduceEqDiff, Nat.reduceAdd, iput, puts]
  refine ⟨fun h1 => ?_, fun h1 => ?_⟩
  · obtain ⟨H', q1, q2⟩ := bad 1 (by unfold psC; rw [if_neg h1]) (by decide)
    exact ⟨_, rfl, H', q1, q2⟩
  have o8 := h1.1.cat.1.o8
  have o0 := h1.1.cat.1.o0
  have w1 : IntKind.i64.wrap (f.c.o - 1) = f.c.o - 1 := wrap_id (by omega) (by omega)
  simp only [SS, Nat.reduceEqDiff, Nat.reduceAdd, iput, puts, sf0, w1]
  refine den_call (fc := (32, [])) rfl (by first | (simp only [SS, Nat.reduceEqDiff, Nat.reduceAdd, iput, puts, FF, frzL_cat, frzL_sf]; done) | (simp only [SS, Nat.reduceEqDiff, Nat.reduceAdd, iput, puts, FF, frzL_cat, frzL_sf]; rfl)) ((inRange_ok K.inRange x 0 (f.c.o - 1)).fzb) ?_
  simp only [SS, Nat.reduceEqDiff, Nat.reduceAdd, iput, puts]
  refine ⟨fun h2 => ?_, fun h2 => ?_⟩
  · obtain ⟨H', q1, q2⟩ := bad 2 (by unfold psC; rw [if_pos h1, if_neg (fun q => h2 ⟨q.1, by have := q.2; omega⟩)]) (by decide)
    exact ⟨_, rfl, H', q1, q2⟩
  have hx : 0 ≤ x ∧ x < f.c.o := ⟨h2.1, by have := h2.2; omega⟩
  have e0 : psC f x = 0 := by unfold psC; rw [if_pos h1, if_pos hx]
  refine den_callo (fc := (286, [])) (ys := [.ptr f.cells 0, int x]) rfl (by simp only [SS, Nat.reduceEqDiff, Nat.reduceAdd, iput, puts, FF, frzL_cat, frzL_sf]) (hs h1 hx nx) ?_ fun u H' nx' hu => ?_
  · obtain ⟨v, H', nx', g1, g2, _⟩ := OwnD.some (slotL f x) hempty nx
    exact ⟨v, keepH nx H', nx', g1, g2.keep, keepH_cln _ _⟩
  obtain ⟨g1, g2, g3⟩ := hu
  refine ⟨g2.cln _, g3, ?_⟩
  refine ⟨_, rfl, keepH nx (hmerge nx hempty H'), keepH_sub _ _, u, ?_, g1, ?_, keepH_cln _ _⟩
  · rw [e0]; rfl
  · rw [psR, if_pos e0]
    exact (g2.mono (Nat.le_refl _) fun o h1 h2 => by simp only [hmerge]; rw [if_neg (by omega)]).keep

def V_spec_PowerSlots : Vc :=
  .op true (.p .box [.t 0]) <|
  .op true (.p (.ld (some 7)) [.t 2]) <|
  .op true (.call (.f 282) [.t 3]) <|
  .op true (.p .bnot [.t 4]) <|
  .br 5
   (.ret [(.c (.nil), none), (.c (int 1), none)])
   (.op true (.p (.fad 0) [.t 2]) <|
   .op true (.p (.ld (some 5)) [.t 6]) <|
   .op true (.call (.f 284) [.t 7, .t 1]) <|
   .op true (.p .bnot [.t 8]) <|
   .br 9
    (.ret [(.c (.nil), none), (.c (int 2), none)])
    (.op true (.p (.ld (some 7)) [.t 2]) <|
    .op true (.call (.f 285) [.t 10, .t 1]) <|
    .ret [(.t 11, none), (.c (int 0), none)]))
set_option maxHeartbeats 1000000 in
theorem PowerSlots_both (K : HCat P ν) (L : HSF P ν) (h : Has P ν 148 2 V_PowerSlots) (KS : HSpec P ν) (LS : HSFS P ν) (hob : Has P ν 284 2 V_spec_l02Object) (hh2 : Has P ν 309 3 V_spec_l02Hom) (hl : Has P ν 285 2 V_spec_l24Slots) (h' : Has P ν 147 2 V_spec_PowerSlots) (f : SF) (b : SmallF f) (x : Int) (hs : SFun f → 0 ≤ x ∧ x < f.c.o → SlotsOk P ν f x) :
    BothQ P ν 148 147 [.agg f.cells, int x] := by
  refine ⟨psR f x, psC f x, ?_, ?_, fun nx => PowerSlots_ok K L h f b x hs nx, ?_⟩
  · unfold psR
    split
    · rename_i e
      have h1 : SFun f := by
        unfold psC at e
        by_cases h1 : SFun f
        · exact h1
        · rw [if_neg h1] at e; omega
      have := slot_take h1.1 x f.c.o.toNat (by have := h1.1.cat.1.o8; omega)
      unfold slotL
      omega
    · simp
  · unfold psR
    split
    · exact rows_le fun r hr => by rw [slotL_row r hr]; omega
    · intro i hi; simp at hi
  · refine OkM.mono (Φ := fun r _ _ => r = .tup [.sl (rows (psR f x)) (psR f x).length, int (psC f x)] ∨ (psC f x ≠ 0 ∧ r = .tup [.nil, int (psC f x)])) (h' [.agg f.cells, int x] hempty 0 _ rfl fun hwf => ?_) ?_
    · unfold V_spec_PowerSlots
      simp only [SS, Nat.reduceEqDiff, Nat.reduceAdd, iput, puts, p_boxs, p_lds7]
      refine den_call (fc := (282, [])) (ys := [.agg f.cells]) rfl (by simp only [SS, Nat.reduceEqDiff, Nat.reduceAdd, iput, puts, FF, frzL_cat, frzL_sf, frzL_sf]) (l19Is_fz KS LS f b) ?_
      simp only [SS, Nat.reduceEqDiff, Nat.reduceAdd, iput, puts]
      refine ⟨fun h1 => ?_, fun h1 => ?_⟩
      · have e : psC f x = 1 := by unfold psC; rw [if_neg h1]
        exact ⟨_, rfl, hempty, fun _ _ h => h, .inr ⟨by omega, by rw [e]; rfl⟩⟩
      simp only [SS, Nat.reduceEqDiff, Nat.reduceAdd, iput, puts, p_lds5]
      refine den_call (fc := (284, [])) (ys := [.agg f.c.cells, int x]) rfl (by simp only [SS, Nat.reduceEqDiff, Nat.reduceAdd, iput, puts, FF, frzL_cat, frzL_sf]) (l02Object_fz hob f.c x) ?_
      simp only [SS, Nat.reduceEqDiff, Nat.reduceAdd, iput, puts]
      refine ⟨fun h2 => ?_, fun h2 => ?_⟩
      · have e : psC f x = 2 := by unfold psC; rw [if_pos h1, if_neg h2]
        exact ⟨_, rfl, hempty, fun _ _ h => h, .inr ⟨by omega, by rw [e]; rfl⟩⟩
      · have e : psC f x = 0 := by unfold psC; rw [if_pos h1, if_pos h2]
        simp only [SS, Nat.reduceEqDiff, Nat.reduceAdd, iput, puts, p_lds7]
        refine den_calli (fc := (285, [])) (ys := [.agg f.cells, int x]) rfl (by simp only [SS, Nat.reduceEqDiff, Nat.reduceAdd, iput, puts, FF, frzL_cat, frzL_sf, frzL_sf]) (l24Slots_fi hh2 hl f h1.1 b x) ?_
        simp only [SS, Nat.reduceEqDiff, Nat.reduceAdd, iput, puts]
        exact ⟨_, rfl, hempty, fun _ _ h => h, .inl (by rw [psR, if_pos e, e]; rfl)⟩
    · rintro r H' nx' (rfl | ⟨h0, rfl⟩)
      · show ([AV.sl _ _, int _].mapM (frz H' 5)).map AV.tup = _
        simp only [List.mapM_cons, List.mapM_nil, frz_sl, frz_int]; rfl
      · rw [psR, if_neg h0]
        show ([AV.nil, int _].mapM (frz H' 5)).map AV.tup = _
        simp only [List.mapM_cons, List.mapM_nil, frz_nil, frz_int]; rfl
end Go.Av
