/-
  The operations that build values: structs, slices by literals, boxes, function values, slices of slices.
-/
import Derived.Test.YtbgaobcgpkjjkaaAvPure
namespace Go.Av
open Go.RowKit (Below)

/-- Values that hold no objects. -/
theorem frz_imm {ν : Nat → FuncId} {X : Cx} : ∀ (k : Nat) (x y : AV) (v : Value), frz hempty k x = some y → Rep ν X x v → RepP ν X.w (Imm X) y v := by
  intro k
  induction k with
  | zero =>
    intro x y v h hx
    cases x <;> simp [frz] at h <;> subst h <;> first | (obtain ⟨b, rfl⟩ := hx.inv_nil; exact .sl0 _ _) | (cases hx; assumption)
  | succ k ih =>
    intro x y v h hx
    have list : ∀ (c c' : List AV) (vs : Array Value), c.mapM (frz hempty k) = some c' → (∀ i (h : i < c.length), Rep ν X c[i] (vs.getD i undef)) → c'.length = c.length ∧ ∀ i (h : i < c'.length), RepP ν X.w (Imm X) c'[i] (vs.getD i undef) := by
      intro c c' vs hm hr
      obtain ⟨h1, h2⟩ := mapM_some hm
      exact ⟨h1, fun i hi => ih _ _ _ (h2 i (by omega) hi) (hr i (by omega))⟩
    cases x with
    | v x => simp [frz] at h; subst h; cases hx; assumption
    | nil => simp [frz] at h; subst h; obtain ⟨b, rfl⟩ := hx.inv_nil; exact .sl0 _ _
    | sl c n => simp [frz] at h; subst h; cases hx; assumption
    | ptr c n => simp [frz] at h; subst h; cases hx; assumption
    | ms o off n sz => simp [frz, hempty] at h
    | mp o off l => simp [frz, hempty] at h
    | agg c =>
      simp only [frz] at h
      cases hm : c.mapM (frz hempty k) with
      | none => rw [hm] at h; cases h
      | some c' =>
        rw [hm] at h; cases h
        obtain ⟨vs, rfl, hs, hr⟩ := hx.inv_agg
        obtain ⟨h1, h2⟩ := list c c' vs hm hr
        exact .agg vs (by omega) h2
    | tup c =>
      simp only [frz] at h
      cases hm : c.mapM (frz hempty k) with
      | none => rw [hm] at h; cases h
      | some c' =>
        rw [hm] at h; cases h
        obtain ⟨vs, rfl, hs, hr⟩ := hx.inv_tup
        obtain ⟨h1, h2⟩ := list c c' vs hm hr
        exact .tup vs (by omega) h2
    | fn id c =>
      simp only [frz] at h
      cases hm : c.mapM (frz hempty k) with
      | none => rw [hm] at h; cases h
      | some c' =>
        rw [hm] at h; cases h
        obtain ⟨vs, rfl, hs, hr⟩ := hx.inv_fn
        obtain ⟨h1, h2⟩ := list c c' vs hm hr
        exact .fn vs (by omega) h2

/-- What is read of values and objects as they stand. -/
theorem frz_all {ν : Nat → FuncId} {B : Nat} {X : Cx} (hO : Objs ν B X) {H : Hp} (hH : ∀ o c, H o = some c → X.H o = some c) : ∀ (k : Nat) (x y : AV) (v : Value), frz H k x = some y → Rep ν X x v → RepP ν X.w (fun b => b < X.w.heap.size) y v := by
  have up : ∀ {y : AV} {v : Value}, RepP ν X.w (Imm X) y v → RepP ν X.w (fun b => b < X.w.heap.size) y v := fun h => h.mono (fun b hb => hb.1.1) (fun _ _ => rfl)
  intro k
  induction k with
  | zero =>
    intro x y v h hx
    cases x <;> simp [frz] at h <;> subst h <;> first | (obtain ⟨b, rfl⟩ := hx.inv_nil; exact .sl0 _ _) | (cases hx; apply up; assumption)
  | succ k ih =>
    intro x y v h hx
    have list : ∀ (c c' : List AV) (vs : Array Value), c.mapM (frz H k) = some c' → (∀ i (h : i < c.length), Rep ν X c[i] (vs.getD i undef)) → c'.length = c.length ∧ ∀ i (h : i < c'.length), RepP ν X.w (fun b => b < X.w.heap.size) c'[i] (vs.getD i undef) := by
      intro c c' vs hm hr
      obtain ⟨h1, h2⟩ := mapM_some hm
      exact ⟨h1, fun i hi => ih _ _ _ (h2 i (by omega) hi) (hr i (by omega))⟩
    cases x with
    | v x => simp [frz] at h; subst h; cases hx; apply up; assumption
    | nil => simp [frz] at h; subst h; obtain ⟨b, rfl⟩ := hx.inv_nil; exact .sl0 _ _
    | sl c n => simp [frz] at h; subst h; cases hx; apply up; assumption
    | ptr c n => simp [frz] at h; subst h; cases hx; apply up; assumption
    | ms o off n sz =>
      simp only [frz] at h
      cases hc : H o with
      | none => simp [hc] at h
      | some c =>
        simp only [hc] at h
        split at h
        · rename_i he
          cases hm : c.mapM (frz H k) with
          | none => rw [hm] at h; cases h
          | some c' =>
            rw [hm] at h; cases h
            obtain ⟨h1, h2, h3, h4⟩ := hx.inv_ms
            obtain ⟨cap, r, e, f, hp, hn, _⟩ := h4 c (hH _ _ hc) he
            obtain ⟨_, _, r', e', hr', hl', hrep⟩ := hO.obj _ _ (hH _ _ hc)
            obtain ⟨h5, h6⟩ := list c c' r' hm hrep
            subst hp
            refine .sl (fun i => r'.getD (off + i) undef) (Array.getElem?_eq_some_iff.1 hr').1 hn (fun i hi => ?_) (fun i hi => ?_)
            · have : off + i < r'.size := by simp at hi; omega
              rw [cell_of_row _ _ _ _ _ _ hr']
              simp [this]
            · have := h6 (off + i) (by simp at hi; omega)
              simpa using this
        · cases h
    | mp o off l =>
      simp only [frz] at h
      cases hc : H o with
      | none => simp [hc] at h
      | some c =>
        simp only [hc] at h
        split at h
        · rename_i he
          cases hm : c.mapM (frz H k) with
          | none => rw [hm] at h; cases h
          | some c' =>
            rw [hm] at h; cases h
            obtain ⟨h1, h2, h3, h4⟩ := hx.inv_mp
            have hp := h4 c (hH _ _ hc) he
            obtain ⟨_, _, r', e', hr', hl', hrep⟩ := hO.obj _ _ (hH _ _ hc)
            obtain ⟨h5, h6⟩ := list c c' r' hm hrep
            subst hp
            have := RepP.ptr (ν := ν) (w := X.w) (S := fun b => b < X.w.heap.size) (cells := c') (off := off) (b := X.β o) (base := 0) (fun i => r'.getD i undef) (Array.getElem?_eq_some_iff.1 hr').1 (fun i hi => by
              have : i < r'.size := by omega
              rw [Nat.zero_add, cell_of_row _ _ _ _ _ _ hr']
              simp [this]) h6
            rwa [Nat.zero_add] at this
        · cases h
    | agg c =>
      simp only [frz] at h
      cases hm : c.mapM (frz H k) with
      | none => rw [hm] at h; cases h
      | some c' =>
        rw [hm] at h; cases h
        obtain ⟨vs, rfl, hs, hr⟩ := hx.inv_agg
        obtain ⟨h1, h2⟩ := list c c' vs hm hr
        exact .agg vs (by omega) h2
    | tup c =>
      simp only [frz] at h
      cases hm : c.mapM (frz H k) with
      | none => rw [hm] at h; cases h
      | some c' =>
        rw [hm] at h; cases h
        obtain ⟨vs, rfl, hs, hr⟩ := hx.inv_tup
        obtain ⟨h1, h2⟩ := list c c' vs hm hr
        exact .tup vs (by omega) h2
    | fn id c =>
      simp only [frz] at h
      cases hm : c.mapM (frz H k) with
      | none => rw [hm] at h; cases h
      | some c' =>
        rw [hm] at h; cases h
        obtain ⟨vs, rfl, hs, hr⟩ := hx.inv_fn
        obtain ⟨h1, h2⟩ := list c c' vs hm hr
        exact .fn vs (by omega) h2

/-- The model's laying of one part's cells. -/
theorem fold_set (off : Nat) : ∀ (l : List (Value)) (k : Nat) (cs : Array Value), let r := (l.zipIdx k).foldl (fun cs p => cs.setIfInBounds (off + p.2) p.1) cs
    r.size = cs.size ∧ ∀ j, off + k + l.length ≤ cs.size → r.getD j undef = if off + k ≤ j ∧ j < off + k + l.length then l.getD (j - (off + k)) undef else cs.getD j undef
  | [], k, cs => by
    refine ⟨rfl, fun j _ => ?_⟩
    simp only [List.zipIdx_nil, List.foldl_nil, List.length_nil, Nat.add_zero]
    rw [if_neg (by omega)]
  | x :: l, k, cs => by
    obtain ⟨h1, h2⟩ := fold_set off l (k + 1) (cs.setIfInBounds (off + k) x)
    simp only [List.zipIdx_cons, List.foldl_cons]
    refine ⟨by rw [h1]; simp, fun j hj => ?_⟩
    have h3 := h2 j (by simp only [Array.size_setIfInBounds, List.length_cons] at *; omega)
    rw [h3]
    simp only [List.length_cons]
    by_cases e : j = off + k
    · subst e
      have hlt : off + k < cs.size := by simp only [List.length_cons] at hj; omega
      rw [if_neg (by omega), if_pos (by omega)]
      simp [hlt]
    · by_cases c : off + k ≤ j ∧ j < off + k + (l.length + 1)
      · rw [if_pos (by omega), if_pos c]
        rw [show j - (off + k) = (j - (off + (k + 1))) + 1 from by omega]
        simp
      · rw [if_neg (by omega), if_neg c]
        simp only [Array.getD_eq_getD_getElem?]
        rw [Array.getElem?_setIfInBounds_ne (by omega)]

theorem fill_lay {ν : Nat → FuncId} {X : Cx} {place : Nat → Option (Nat × Nat)} : ∀ (ps : List (Nat × Nat)) (xs : List AV) (idx : List Nat) (vals : List Value) (zs : List AV) (cs : Array Value) (out : List AV),
    lay zs ps xs = some out → idx.length = xs.length → vals.length = xs.length → (∀ i (h : i < idx.length) (h' : i < ps.length), place idx[i] = some ps[i]) →
    (∀ i (h : i < xs.length) (h' : i < vals.length), Rep ν X xs[i] vals[i]) → cs.size = zs.length → (∀ i (h : i < zs.length), Rep ν X zs[i] (cs.getD i undef)) →
    ∃ cs', Instr.fill place cs (idx.zip vals) = some cs' ∧ cs'.size = out.length ∧ out.length = zs.length ∧ ∀ i (h : i < out.length), Rep ν X out[i] (cs'.getD i undef)
  | [], [], idx, vals, zs, cs, out, h, h1, h2, _, _, hs, hr => by
    simp [lay] at h; subst h
    have : idx = [] := by simpa using h1
    subst this
    exact ⟨cs, rfl, hs, rfl, hr⟩
  | (off, size) :: ps, x :: xs, [], vals, zs, cs, out, h, h1, _, _, _, _, _ => by simp at h1
  | (off, size) :: ps, x :: xs, i :: idx, [], zs, cs, out, h, _, h2, _, _, _, _ => by simp at h2
  | (off, size) :: ps, x :: xs, i :: idx, v :: vals, zs, cs, out, h, h1, h2, hp, hx, hs, hr => by
    simp only [lay] at h
    split at h
    · rename_i hc
      obtain ⟨hc1, hc2, hone⟩ := hc
      have hv := (hx 0 (by simp) (by simp)).cells hone
      simp only [List.getElem_cons_zero] at hv
      have hp0 := hp 0 (by simp) (by simp)
      simp only [List.getElem_cons_zero] at hp0
      have hf := fold_set off v.cells.toList 0 cs
      simp only at hf
      obtain ⟨hf1, hf2⟩ := hf
      have hz : (v.cells.zipIdx.foldl (fun cs (p : Value × Nat) => cs.setIfInBounds (off + p.2) p.1) cs) = ((v.cells.toList.zipIdx 0).foldl (fun cs p => cs.setIfInBounds (off + p.2) p.1) cs) := by
        rw [← Array.foldl_toList, Array.toList_zipIdx]
      obtain ⟨cs', g1, g2, g3, g4⟩ := fill_lay ps xs idx vals (zs.take off ++ x.cells ++ zs.drop (off + size)) ((v.cells.toList.zipIdx 0).foldl (fun cs p => cs.setIfInBounds (off + p.2) p.1) cs) out h (by simpa using h1) (by simpa using h2)
        (fun j h h' => hp (j + 1) (by simpa using h) (by simpa using h')) (fun j h h' => hx (j + 1) (by simpa using h) (by simpa using h'))
        (by rw [hf1]; simp; omega) (fun j hj => by
          have hlen : (zs.take off).length = off := by simp; omega
          rw [hf2 j (by simp; omega)]
          simp only [Nat.add_zero, Array.length_toList]
          by_cases c1 : j < off
          · rw [if_neg (by omega)]
            have e1 : (zs.take off ++ x.cells ++ zs.drop (off + size))[j] = zs[j]'(by omega) := by
              rw [List.getElem_append_left (by simp; omega), List.getElem_append_left (by omega)]; simp
            rw [e1]; exact hr j (by omega)
          · by_cases c2 : j < off + size
            · rw [if_pos (by omega)]
              have e1 : (zs.take off ++ x.cells ++ zs.drop (off + size))[j] = x.cells[j - off]'(by omega) := by
                rw [List.getElem_append_left (by simp; omega), List.getElem_append_right (by omega)]; simp [hlen]
              rw [e1]
              have := hv.2 (j - off) (by omega)
              simpa using this
            · rw [if_neg (by omega)]
              have hj' : j < zs.length := by simp at hj; omega
              have e1 : (zs.take off ++ x.cells ++ zs.drop (off + size))[j] = zs[j]'hj' := by
                rw [List.getElem_append_right (by simp; omega)]
                simp only [List.getElem_drop, List.length_append, hlen]
                congr 1; omega
              rw [e1]; exact hr j hj')
      refine ⟨cs', ?_, g2, ?_, g4⟩
      · simp only [List.zip_cons_cons, Instr.fill, hp0]
        rw [if_neg (by simp; omega), hz]
        exact g1
      · rw [g3]; simp; omega
    · cases h
  | [], _ :: _, _, _, _, _, _, h, _, _, _, _, _, _ => by simp [lay] at h
  | _ :: _, [], _, _, _, _, _, h, _, _, _, _, _, _ => by simp [lay] at h


section
variable {T : Tr} {ν : Nat → FuncId} {X : Cx}

theorem zero_spec {t : TypeId} {z : List AV} (h : T.zero t = some z) : ∃ i zv a, T.P.info? t = some i ∧ i.zero = some zv ∧ avOf zv = some a ∧ a.cells = z ∧ z.length = i.size ∧ z.all AV.one = true := by
  unfold Tr.zero at h
  split at h
  · rename_i i hi
    split at h
    · rename_i zv hz
      cases ha : avOf zv with
      | none => rw [ha] at h; cases h
      | some a =>
        rw [ha] at h
        simp only [Option.bind_some] at h
        split at h
        · rename_i hc
          cases h
          exact ⟨i, zv, a, hi, hz, ha, rfl, hc.1, hc.2⟩
        · cases h
    · cases h
  · cases h

theorem run_zero {t : TypeId} {i : TypeInfo} {zv : Value} (hi : T.P.info? t = some i) (hz : i.zero = some zv) (w : World) : (zeroValue t).run T.P w = .ok zv w := by
  simp [zeroValue, typeInfo, hi, hz]

theorem run_places (P : Program) (w : World) : ∀ (l : List Field), (∀ f ∈ l, ∃ i, P.info? f.type = some i) →
    (l.mapM (m := Sem) fun f => do let s ← Go.sizeOf f.type; pure (f.offset, s)).run P w = .ok (l.map fun f => (f.offset, ((P.info? f.type).map (·.size)).getD 0)) w
  | [], _ => by simp
  | f :: l, h => by
    obtain ⟨i, hi⟩ := h f (by simp)
    have ih := run_places P w l (fun g hg => h g (by simp [hg]))
    simp only [List.mapM_cons, Sem.run_bind, run_size hi, Result.andThen_ok, Sem.run_pure, ih, List.map_cons, hi, Option.map_some, Option.getD_some]

theorem s_mka {t : TypeId} {fields : Array Field} {z : List AV} {parts : Array (Nat × Operand)} {ps : List (Nat × Nat)} {xs : List AV} {u : AV} {o : Oper} {a : Act} (ho : o.op = .build t parts)
    (ht : T.P.underlying t = some (.struct fields)) (hz : T.zero t = some z) (hps : (parts.toList.mapM fun p => (fields[p.1]?).bind fun fl => (T.sizeOf fl.type).map fun n => (fl.offset, n)) = some ps)
    (hall : fields.toList.all (fun fl => (T.sizeOf fl.type).isSome) = true) (hlen : xs.length = parts.size) (hx : ∀ i (h : i < xs.length) (h' : i < parts.size), Rep ν X xs[i] (a.eval parts[i].2))
    (h : pMka z ps xs = some u) : Gives ν T.P X (execOp a.eval o) u := by
  obtain ⟨i, zv, za, hi, hz', hza, hzc, hzl, hz1⟩ := zero_spec hz
  unfold pMka at h
  cases hl : lay z ps xs with
  | none => rw [hl] at h; cases h
  | some out =>
    rw [hl] at h
    cases h
    have hzr : Rep ν X za zv := .pure (avOf_rep hza)
    have hzcell := hzr.cells (by rw [hzc]; exact hz1)
    rw [hzc] at hzcell
    obtain ⟨hp1, hp2⟩ := mapM_some hps
    have hplaces := run_places T.P X.w fields.toList (fun f hf => by
      have := List.all_eq_true.1 hall f hf
      unfold Tr.sizeOf at this
      cases hq : T.P.info? f.type with
      | none => simp [hq] at this
      | some i => exact ⟨i, rfl⟩)
    have hrunp : (fields.mapM (m := Sem) fun f => do let s ← Go.sizeOf f.type; pure (f.offset, s)).run T.P X.w = .ok (fields.map fun f => (f.offset, ((T.P.info? f.type).map (·.size)).getD 0)) X.w := by
      rw [Array.mapM_eq_mapM_toList, Sem.run_map, hplaces]
      simp only [Result.andThen_ok]
      congr 1
      apply Array.ext'
      simp
    obtain ⟨cs', g1, g2, g3, g4⟩ := fill_lay (ν := ν) (X := X) (place := fun k => (fields.map fun f => (f.offset, ((T.P.info? f.type).map (·.size)).getD 0))[k]?) ps xs (parts.toList.map (·.1)) (parts.toList.map fun p => a.eval p.2) z zv.cells out hl
      (by simp [hlen]) (by simp [hlen]) (fun j h h' => by
        have hj : j < parts.toList.length := by simpa using h
        have := hp2 j hj h'
        simp only [List.getElem_map]
        cases hf : fields[(parts.toList[j]).1]? with
        | none => rw [hf] at this; cases this
        | some fl =>
          rw [hf] at this
          simp only [Option.bind_some] at this
          cases hs : T.sizeOf fl.type with
          | none => rw [hs] at this; cases this
          | some n =>
            rw [hs] at this
            simp only [Option.map_some, Option.some.injEq] at this
            obtain ⟨i, hi, hn⟩ := size_spec hs
            rw [Array.getElem?_map, hf, ← this]
            simp [hi, hn]) (fun j h h' => by
        have := hx j h (by omega)
        simpa using this) hzcell.1 hzcell.2
    refine Gives.same (v := .agg cs') ?_ (.agg cs' g2 g4)
    have hzip : (parts.toList.map (·.1)).zip (parts.toList.map fun p => a.eval p.2) = (parts.map fun (p : Nat × Operand) => (p.1, a.eval p.2)).toList := by
      rw [Array.toList_map, List.zip_map']
    rw [hzip] at g1
    simp only [execOp, ho, Instr.build, Sem.run_bind, run_zero hi hz', Result.andThen_ok, run_underlying ht, hrunp, g1, Sem.run_pure]

theorem s_box {t : TypeId} {x u : AV} {p : Value} {o : Oper} {a : Act} {c1 : Operand} (ho : o.op = .box t c1) (e1 : a.eval c1 = p) (h : pBox [x] = some u) (hx : Rep ν X x p) {B : Nat} (hO : Objs ν B X) : Gives ν T.P X (execOp a.eval o) u := by
  simp only [pBox] at h
  · split at h
    · rename_i cs hcs
      split at h
      · rename_i h1
        cases h
        obtain ⟨hc1, hc2⟩ := hx.cells h1
        obtain ⟨hm1, hm2⟩ := mapM_some hcs
        refine ⟨.pointer (some ⟨X.w.heap.size, 0, none⟩), X.w.alloc (.cells p.cells t), ?_, .inr ⟨_, rfl⟩, ?_⟩
        · simp [execOp, ho, e1, Instr.box, newVar, newRow]
        · have hS : Imm { X with w := X.w.alloc (.cells p.cells t) } X.w.heap.size := ⟨⟨by show X.w.heap.size < (X.w.heap.push _).size; simp, hO.new _ hO.le⟩, fun k c hk => by have := hO.lt k c hk; show X.β k ≠ _; omega⟩
          have := RepP.ptr (ν := ν) (w := X.w.alloc (.cells p.cells t)) (S := Imm { X with w := X.w.alloc (.cells p.cells t) }) (cells := cs) (off := 0) (b := X.w.heap.size) (base := 0) (fun i => p.cells.getD i undef) hS (fun i hi => by
            rw [Nat.zero_add, cell_of_row _ _ _ _ _ _ (heap_alloc_new _ _)]
            have : i < p.cells.size := by omega
            simp [this]) (fun i hi => (frz_imm _ _ _ _ (hm2 i (by omega) hi) (hc2 i (by omega))).mono (Ext.alloc X _ hO.lt).imm (Ext.alloc X _ hO.lt).same)
          exact .pure this
      · cases h
    · cases h

theorem s_mkf {f : FuncId} {id : Nat} {captured : Array Operand} {xs : List AV} {u : AV} {o : Oper} {a : Act} (ho : o.op = .makeFunc (.func f) #[] captured) (hf : ν id = f)
    (hlen : xs.length = captured.size) (hx : ∀ i (h : i < xs.length) (h' : i < captured.size), Rep ν X xs[i] (a.eval captured[i])) (h : pMkf id xs = some u) : Gives ν T.P X (execOp a.eval o) u := by
  unfold pMkf at h
  cases h
  subst hf
  refine Gives.same (v := .func (.func (ν id)) #[] (captured.map a.eval)) (by simp [execOp, ho, Instr.makeFunc]) (.fn _ (by simp [hlen]) (fun i hi => ?_))
  have := hx i hi (by omega)
  have h2 : i < captured.size := by omega
  simpa [h2] using this
end
end Go.Av
