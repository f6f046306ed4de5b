/-
  Slices by literals, slices of slices, and all the value operations in one.
-/
import Derived.Test.YtbgaobcgpkjjkaaAvPure2
namespace Go.Av
open Go.RowKit (Below)

theorem flat_len {α : Type} (z : List α) : ∀ n, ((List.replicate n z).flatten).length = n * z.length
  | 0 => by simp
  | n + 1 => by simp [List.replicate_succ, flat_len z n, Nat.succ_mul, Nat.add_comm]

theorem flat_get {α : Type} (z : List α) : ∀ (n j : Nat) (h : j < ((List.replicate n z).flatten).length) (h' : j % z.length < z.length), ((List.replicate n z).flatten)[j] = z[j % z.length]
  | 0, j, h, _ => by simp at h
  | n + 1, j, h, h' => by
    have e : (List.replicate (n + 1) z).flatten = z ++ (List.replicate n z).flatten := by simp [List.replicate_succ]
    have hj : j < (z ++ (List.replicate n z).flatten).length := by rw [← e]; exact h
    have : ((List.replicate (n + 1) z).flatten)[j] = (z ++ (List.replicate n z).flatten)[j] := by simp only [e]
    rw [this]
    by_cases c : j < z.length
    · rw [List.getElem_append_left c]
      congr 1
      exact (Nat.mod_eq_of_lt c).symm
    · rw [List.getElem_append_right (by omega)]
      have em : (j - z.length) % z.length = j % z.length := (Nat.mod_eq_sub_mod (by omega)).symm
      have hlt : j - z.length < ((List.replicate n z).flatten).length := by simp only [List.length_append] at hj; omega
      rw [flat_get z n (j - z.length) hlt (by rw [em]; exact h')]
      congr 1

section
variable {T : Tr} {ν : Nat → FuncId} {X : Cx}

theorem s_msl {t e : TypeId} {sz len : Nat} {z : List AV} {parts : Array (Nat × Operand)} {xs : List AV} {u : AV} {o : Oper} {a : Act} (ho : o.op = .buildSlice t len parts)
    (ht : T.elem t = some e) (hs : T.sizeOf e = some sz) (hz : T.zero e = some z) (hb : len * sz ≤ 256) (hs0 : 0 < sz) (hp0 : len = 0 → parts.size = 0)
    (hlen : xs.length = parts.size) (hx : ∀ i (h : i < xs.length) (h' : i < parts.size), Rep ν X xs[i] (a.eval parts[i].2)) {B : Nat} (hO : Objs ν B X)
    (h : pMsl len ((List.replicate len z).flatten) (parts.toList.map fun p => (p.1 * sz, sz)) xs = some u) : Gives ν T.P X (execOp a.eval o) u := by
  obtain ⟨i, zv, za, hi, hz', hza, hzc, hzl, hz1⟩ := zero_spec hz
  obtain ⟨i', hi', hsz⟩ := size_spec hs
  rw [hi] at hi'
  cases hi'
  have hu := elem_spec ht
  have hzr : Rep ν X za zv := .pure (avOf_rep hza)
  have hzcell := hzr.cells (by rw [hzc]; exact hz1)
  rw [hzc] at hzcell
  cases len with
  | zero =>
    simp only [pMsl] at h
    cases h
    have hpe : parts = #[] := Array.eq_empty_of_size_eq_zero (hp0 rfl)
    subst hpe
    refine ⟨.slice (some ⟨X.w.heap.size, 0, none⟩) 0 0, X.w.alloc (.cells #[] e), ?_, .inr ⟨_, rfl⟩, .pure (.nil _)⟩
    simp [execOp, ho, Instr.buildSlice, run_underlying hu, run_size hi, Instr.fill, newRow]
    congr 2
    apply Array.eq_empty_of_size_eq_zero
    simp
  | succ len =>
    simp only [pMsl] at h
    cases hl : lay ((List.replicate (len + 1) z).flatten) (parts.toList.map fun p => (p.1 * sz, sz)) xs with
    | none => rw [hl] at h; cases h
    | some out =>
      rw [hl] at h
      simp only at h
      cases hf : frzL hempty out with
      | none => rw [hf] at h; cases h
      | some out' =>
        rw [hf] at h
        cases h
        obtain ⟨hm1, hm2⟩ := mapM_some hf
        obtain ⟨cs', g1, g2, g3, g4⟩ := fill_lay (ν := ν) (X := X) (place := fun i => some (i * sz, sz)) (parts.toList.map fun p => (p.1 * sz, sz)) xs (parts.toList.map (·.1)) (parts.toList.map fun p => a.eval p.2) ((List.replicate (len + 1) z).flatten)
          ((Array.range ((len + 1) * sz)).map (zv.cells[· % zv.cells.size]!)) out hl (by simp [hlen]) (by simp [hlen]) (fun j h h' => by simp) (fun j h h' => by
            have := hx j h (by omega)
            simpa using this) (by rw [flat_len, hzl, hsz]; simp) (fun j hj => by
            have hj' : j < (len + 1) * sz := by rw [flat_len, hzl, hsz] at hj; exact hj
            have hzs : z.length = sz := by omega
            have hmod : j % z.length < z.length := Nat.mod_lt _ (by omega)
            rw [flat_get z (len + 1) j hj hmod]
            have := hzcell.2 (j % z.length) hmod
            have e1 : zv.cells.size = z.length := hzcell.1
            have e2 : ((Array.range ((len + 1) * sz)).map (zv.cells[· % zv.cells.size]!)).getD j undef = zv.cells.getD (j % z.length) undef := by
              have hm' : j % z.length < zv.cells.size := by omega
              have e3 : zv.cells[j % z.length]! = zv.cells[j % z.length]'hm' := getElem!_pos zv.cells (j % z.length) hm'
              have e4 : zv.cells[j % z.length]? = some (zv.cells[j % z.length]'hm') := Array.getElem?_eq_getElem hm'
              simp [hj', e1, e3, e4]
            rw [e2]
            exact this)
        have hzip : (parts.toList.map (·.1)).zip (parts.toList.map fun p => a.eval p.2) = (parts.map fun (p : Nat × Operand) => (p.1, a.eval p.2)).toList := by
          rw [Array.toList_map, List.zip_map']
        rw [hzip] at g1
        refine ⟨.slice (some ⟨X.w.heap.size, 0, none⟩) (len + 1) (len + 1), X.w.alloc (.cells cs' e), ?_, .inr ⟨_, rfl⟩, ?_⟩
        · have hne : (len + 1) * sz ≠ 0 := by
            intro hh
            rcases Nat.mul_eq_zero.1 hh with hh | hh <;> omega
          have hle : ¬ ((len + 1) * sz > 2 ^ 24) := by omega
          simp only [execOp, ho, Instr.buildSlice, Sem.run_bind, run_underlying hu, Result.andThen_ok, run_size hi, hsz, hle, if_false, hne, run_zero hi hz', Sem.run_pure, g1, newRow, run_newObj]
          rfl
        · have hS : Imm { X with w := X.w.alloc (.cells cs' e) } X.w.heap.size := ⟨⟨by show X.w.heap.size < (X.w.heap.push _).size; simp, hO.new _ hO.le⟩, fun k c hk => by have := hO.lt k c hk; show X.β k ≠ _; omega⟩
          have := RepP.sl (ν := ν) (w := X.w.alloc (.cells cs' e)) (S := Imm { X with w := X.w.alloc (.cells cs' e) }) (cells := out') (n := len + 1) (off := 0) (b := X.w.heap.size) (cap := len + 1) (fun i => cs'.getD i undef) hS (Nat.le_refl _) (fun i hi => by
            rw [Nat.zero_add, cell_of_row _ _ _ _ _ _ (heap_alloc_new _ _)]
            have : i < cs'.size := by omega
            simp [this]) (fun i hi => (frz_imm _ _ _ _ (hm2 i (by omega) hi) (g4 i (by omega))).mono (Ext.alloc X _ hO.lt).imm (Ext.alloc X _ hO.lt).same)
          exact .pure this

theorem run_bound {P : Program} {w : World} {k : IntKind} {i : Int} {y : Nat} {code : BoundsCode} (h0 : 0 ≤ i) (h1 : i ≤ y) : (Instr.sliceBound (.int k i) y code).run P w = .ok i.toNat w := by
  simp [Instr.sliceBound, asIntOf, h0, h1]

theorem s_slc {t e : TypeId} {sz : Nat} {x : AV} {r : List AV} {u : AV} {o : Oper} {a : Act} {c1 : Operand} {lo hi : Option Operand} (ho : o.op = .slice t c1 lo hi none) (ht : T.elem t = some e) (hs : T.sizeOf e = some sz)
    (hx : Rep ν X x (a.eval c1)) (hlen : r.length = (lo.toList ++ hi.toList).length) (hr : ∀ i (h : i < r.length) (h' : i < (lo.toList ++ hi.toList).length), Rep ν X r[i] (a.eval (lo.toList ++ hi.toList)[i]))
    (h : pSlc lo.isSome hi.isSome sz (x :: r) = some u) : Gives ν T.P X (execOp a.eval o) u := by
  obtain ⟨i, hi', hsz⟩ := size_spec hs
  have hu := elem_spec ht
  -- the two bounds as numbers
  have hint : ∀ (y : AV) (n : Int) (q : Value), asI y = some n → Rep ν X y q → ∃ k, q = .int k n := by
    intro y n q hy hq
    unfold asI at hy
    split at hy
    · cases hy; exact ⟨_, hq.inv_v⟩
    · cases hy
  have run1 : ∀ (ad : Option Addr) (n cap l h : Nat), a.eval c1 = .slice ad n cap → n ≤ cap → l ≤ h → h ≤ n → (∀ c, lo = some c → ∃ k, a.eval c = .int k l) → (lo = none → l = 0) → (∀ c, hi = some c → ∃ k, a.eval c = .int k h) → (hi = none → h = n) →
      (execOp a.eval o).run T.P X.w = .ok (.value (.slice (if cap = l then ad else ad.map (·.add (l * sz))) (h - l) (cap - l))) X.w := by
    intro ad n cap l m hv hnc hlh hhn hlo1 hlo2 hhi1 hhi2
    clear h hr hlen
    have B1 : ∀ c, lo = some c → ∀ code, (Instr.sliceBound (a.eval c) m code).run T.P X.w = .ok l X.w := by
      intro c hc code
      obtain ⟨k, hk⟩ := hlo1 c hc
      rw [hk]
      exact run_bound (by omega) (by omega)
    have B2 : ∀ c, hi = some c → ∀ code, (Instr.sliceBound (a.eval c) cap code).run T.P X.w = .ok m X.w := by
      intro c hc code
      obtain ⟨k, hk⟩ := hhi1 c hc
      rw [hk]
      exact run_bound (by omega) (by omega)
    cases lo with
    | none =>
      obtain rfl := hlo2 rfl
      cases hi with
      | none =>
        obtain rfl := hhi2 rfl
        simp [execOp, ho, Instr.sliceAt, run_underlying hu, Instr.slice, hv, Instr.sliceBounds, run_size hi', hsz]
      | some d => simp [execOp, ho, Instr.sliceAt, run_underlying hu, Instr.slice, hv, Instr.sliceBounds, run_size hi', hsz, B2 d rfl]
    | some c =>
      cases hi with
      | none =>
        obtain rfl := hhi2 rfl
        simp [execOp, ho, Instr.sliceAt, run_underlying hu, Instr.slice, hv, Instr.sliceBounds, run_size hi', hsz, B1 c rfl]
      | some d => simp [execOp, ho, Instr.sliceAt, run_underlying hu, Instr.slice, hv, Instr.sliceBounds, run_size hi', hsz, B1 c rfl, B2 d rfl]
  have getlo : ∀ l : Int, (if lo.isSome then (r[0]?).bind asI else some 0) = some l → (∀ c, lo = some c → ∃ k, a.eval c = .int k l) ∧ (lo = none → l = 0) := by
    intro l hl
    cases lo with
    | none => simp at hl; exact ⟨fun c hc => (by cases hc), fun _ => hl.symm⟩
    | some c =>
      simp only [Option.isSome_some, if_true] at hl
      refine ⟨fun c' hc' => ?_, fun hn => (by cases hn)⟩
      cases hc'
      have h0 : 0 < r.length := by simp at hlen; omega
      rw [List.getElem?_eq_getElem h0] at hl
      exact hint _ _ _ hl (by have := hr 0 h0 (by simp); simpa using this)
  have gethi : ∀ (m h : Int), (if hi.isSome then (r[if lo.isSome then 1 else 0]?).bind asI else some m) = some h → (∀ c, hi = some c → ∃ k, a.eval c = .int k h) ∧ (hi = none → h = m) := by
    intro m h hl
    cases hi with
    | none => simp at hl; exact ⟨fun c hc => (by cases hc), fun _ => hl.symm⟩
    | some c =>
      simp only [Option.isSome_some, if_true] at hl
      refine ⟨fun c' hc' => ?_, fun hn => (by cases hn)⟩
      cases hc'
      cases lo with
      | none =>
        have h0 : 0 < r.length := by simp at hlen; omega
        simp only [Option.isSome_none, Bool.false_eq_true, if_false] at hl
        rw [List.getElem?_eq_getElem h0] at hl
        exact hint _ _ _ hl (by have := hr 0 h0 (by simp); simpa using this)
      | some d =>
        have h0 : 1 < r.length := by simp at hlen; omega
        simp only [Option.isSome_some, if_true] at hl
        rw [List.getElem?_eq_getElem h0] at hl
        exact hint _ _ _ hl (by have := hr 1 h0 (by simp); simpa using this)
  simp only [pSlc] at h
  split at h
  · rename_i l c n hl
    split at h
    · rename_i hh hhi
      split at h
      · rename_i hc
        obtain ⟨h1, h2, h3, h4⟩ := hc
        cases h
        obtain ⟨lo1, lo2⟩ := getlo l hl
        obtain ⟨hi1, hi2⟩ := gethi n hh hhi
        obtain ⟨l', rfl⟩ := Int.eq_ofNat_of_zero_le h1
        obtain ⟨h', rfl⟩ := Int.eq_ofNat_of_zero_le (Int.le_trans h1 h2)
        have e1 : ((h' : Int) - (l' : Int)).toNat = h' - l' := by omega
        rcases hx.inv_sl with ⟨b, off, cap, us, hp, hn, hS, hcl, hrr⟩ | ⟨b, cap, hp, hn, hce⟩
        · have hrun := run1 _ n cap l' h' hp hn (by omega) (by omega) lo1 (fun q => by have := lo2 q; omega) hi1 (fun q => by have := hi2 q; omega)
          refine Gives.same hrun ?_
          simp only [Int.toNat_natCast, e1]
          by_cases hcap : cap = l'
          · have : h' - l' = 0 := by omega
            rw [if_pos hcap, this]
            simp only [Nat.zero_mul, List.take_zero]
            exact .pure (.sl0 _ _)
          · rw [if_neg hcap]
            simp only [Option.map_some, addr_add]
            refine .pure (.sl (fun j => us (l' * sz + j)) hS (by omega) (fun j hj => ?_) (fun j hj => ?_))
            · rw [Nat.add_assoc]
              refine hcl _ ?_
              simp only [List.length_take, List.length_drop] at hj
              have hm : (h' - l') * sz + l' * sz = h' * sz := by rw [← Nat.add_mul]; congr 1; omega
              have hm2 : h' * sz ≤ n * sz := Nat.mul_le_mul_right _ (by omega)
              omega
            · have hj2 : l' * sz + j < c.length := by simp only [List.length_take, List.length_drop] at hj; omega
              have := hrr (l' * sz + j) hj2
              simpa using this
        · subst hn
          subst hce
          have : h' = 0 := by omega
          subst this
          have : l' = 0 := by omega
          subst this
          have hrun := run1 _ 0 cap 0 0 hp (by omega) (by omega) (by omega) lo1 (fun q => rfl) hi1 (fun q => rfl)
          refine Gives.same hrun ?_
          simpa using Rep.pure (RepP.sl0 _ _)
      · cases h
    · cases h
  · rename_i l hl
    split at h
    · rename_i hh hhi
      split at h
      · rename_i hc
        obtain ⟨rfl, rfl⟩ := hc
        cases h
        obtain ⟨lo1, lo2⟩ := getlo 0 hl
        obtain ⟨hi1, hi2⟩ := gethi 0 0 hhi
        obtain ⟨b, hp⟩ := hx.inv_nil
        have hrun := run1 _ 0 0 0 0 hp (by omega) (by omega) (by omega) lo1 (fun q => rfl) hi1 (fun q => rfl)
        refine Gives.same hrun ?_
        simpa using Rep.pure (RepP.nil _)
      · cases h
    · cases h
  · cases h
end
end Go.Av
