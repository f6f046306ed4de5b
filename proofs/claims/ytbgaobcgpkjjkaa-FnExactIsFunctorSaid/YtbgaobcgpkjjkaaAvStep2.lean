/-
  Makes, appends and calls.
-/
import Derived.Test.YtbgaobcgpkjjkaaAvStep
namespace Go.Av
open Go.RowKit (Below)

section
variable {ν : Nat → FuncId} {N : Nat} {w0 : World} {S : Nat → Prop} {X0 : Cx} {s : St} {a : Act} {w : World} {β : Nat → Nat} {P : Program} {o : Oper} {K : St → Prop}

theorem g_mks {t e : TypeId} {T : Tr} (hP : T.P = P) {z : List AV} {i : TypeInfo} {x y : AV} {c1 c2 : Operand} (ho : o.op = .makeSlice t c1 c2) (he : T.elem t = some e) (hi : T.P.info? e = some i) (hz : T.zero e = some z) (hzp : 0 < z.length) (hby : i.bytes ≤ 128)
    (hx : Rep ν ⟨β, s.heap, s.next, w, S⟩ x (a.eval c1)) (hy : Rep ν ⟨β, s.heap, s.next, w, S⟩ y (a.eval c2))
    (h : Sim ν N w0 S X0 s a w β) (hd : ∀ k, o.dst = some k → k < N) {r : AV × Hp × Nat} (hmk : mkTo s z x y = some r) (hK : K (({ s with heap := r.2.1, next := r.2.2 } : St).put o.dst r.1)) : Goes ν N w0 S X0 P o a w K := by
  subst hP
  unfold mkTo at hmk
  split at hmk
  · rename_i n c
    split at hmk
    · rename_i hc
      obtain ⟨h0, rfl, hmax⟩ := hc
      cases hmk
      obtain ⟨n', rfl⟩ := Int.eq_ofNat_of_zero_le h0
      obtain ⟨i', zv, za, hi', hz', hza, hzc, hzl, hz1⟩ := zero_spec hz
      rw [hi] at hi'
      cases hi'
      have hzr : Rep ν ⟨β, s.heap, s.next, w, S⟩ za zv := .pure (avOf_rep hza)
      have hzcell := hzr.cells (by rw [hzc]; exact hz1)
      rw [hzc] at hzcell
      have hbytes : (i.bytes : Int) * (n' : Int) ≤ 281474976710656 := by
        have h1 : i.bytes * n' ≤ 128 * 1099511627776 := Nat.mul_le_mul hby (by omega)
        have h2 : ((i.bytes * n' : Nat) : Int) ≤ ((128 * 1099511627776 : Nat) : Int) := by exact_mod_cast h1
        rw [Int.natCast_mul] at h2
        omega
      have hrun := run_make (P := T.P) w t e i zv (elem_spec he) hi hz' .i64 .i64 (n' : Int) (n' : Int) (by omega) (by omega) hbytes (by omega)
      have hx' := hx.inv_v
      have hy' := hy.inv_v
      have hcs : (madeCells zv.cells (n' * i.size)).size = n' * i.size := size_madeCells _ _
      obtain ⟨hs, hxx⟩ := h.newObj ((List.replicate n' z).flatten) (madeCells zv.cells (n' * i.size)) e (by rw [flat_len, hcs, hzl]; exact Nat.le_refl _) (fun j hj => by
        have hmod : j % z.length < z.length := Nat.mod_lt _ hzp
        rw [flat_get z n' j hj hmod]
        have hj' : j < n' * i.size := by rw [flat_len, hzl] at hj; exact hj
        have hm' : j % z.length < zv.cells.size := by omega
        have e2 : (madeCells zv.cells (n' * i.size)).getD j undef = zv.cells.getD (j % z.length) undef := by
          have e3 : zv.cells[j % z.length]! = zv.cells[j % z.length]'hm' := getElem!_pos zv.cells (j % z.length) hm'
          have e4 : zv.cells[j % z.length]? = some (zv.cells[j % z.length]'hm') := Array.getElem?_eq_getElem hm'
          simp [madeCells, hj', hzcell.1, e3, e4]
        rw [e2]
        exact hzcell.2 _ hmod)
      simp only [Int.toNat_natCast] at hrun hs hxx hK ⊢
      refine Goes.value (v := .slice (some ⟨w.heap.size, 0, none⟩) n' n') ?_ hK (hs.put ?_ hd)
      · simp only [execOp, ho, hx', hy', Sem.run_bind, hrun, Result.andThen_ok, Sem.run_pure]
      · refine .ms (Nat.lt_succ_self _) rfl (fun c hc => ?_) (fun c hc _ => ⟨n', madeCells zv.cells (n' * i.size), e, (0, 0), by simp, Nat.le_refl _, by simp only [if_true]; exact heap_alloc_new _ _, ?_⟩)
        · simp only [hput, if_true, Option.some.injEq] at hc
          subst hc
          rw [flat_len]; omega
        · rw [hcs, hzl]; omega
    · cases hmk
  · cases hmk

theorem g_mslm {t e : TypeId} {T : Tr} (hP : T.P = P) {sz len : Nat} {z : List AV} {parts : Array (Nat × Operand)} {xs : List AV} (ho : o.op = .buildSlice t len parts) (he : T.elem t = some e) (hsz' : T.sizeOf e = some sz) (hz : T.zero e = some z) (hb : (len + 1) * sz ≤ 256) (hs0 : 0 < sz)
    (hlen : xs.length = parts.size) (hx : ∀ i (h : i < xs.length) (h' : i < parts.size), Rep ν ⟨β, s.heap, s.next, w, S⟩ xs[i] (a.eval parts[i].2))
    (h : Sim ν N w0 S X0 s a w β) (hd : ∀ k, o.dst = some k → k < N) {r : AV × Hp × Nat} (hmk : mslTo s sz len ((List.replicate len z).flatten) (parts.toList.map fun p => (p.1 * sz, sz)) xs = some r) (hK : K (({ s with heap := r.2.1, next := r.2.2 } : St).put o.dst r.1)) : Goes ν N w0 S X0 P o a w K := by
  subst hP
  unfold mslTo at hmk
  split at hmk
  · rename_i out hl
    split at hmk
    · rename_i hc
      obtain ⟨hc1, hc2⟩ := hc
      cases hmk
      obtain ⟨i, zv, za, hi, hz', hza, hzc, hzl, hz1⟩ := zero_spec hz
      obtain ⟨i', hi', hsz⟩ := size_spec hsz'
      rw [hi] at hi'
      cases hi'
      have hu := elem_spec he
      have hzr : Rep ν ⟨β, s.heap, s.next, w, S⟩ za zv := .pure (avOf_rep hza)
      have hzcell := hzr.cells (by rw [hzc]; exact hz1)
      rw [hzc] at hzcell
      obtain ⟨cs', g1, g2, g3, g4⟩ := fill_lay (ν := ν) (X := ⟨β, s.heap, s.next, w, S⟩) (place := fun i => some (i * sz, sz)) (parts.toList.map fun p => (p.1 * sz, sz)) xs (parts.toList.map (·.1)) (parts.toList.map fun p => a.eval p.2) ((List.replicate len z).flatten)
        ((Array.range (len * sz)).map (zv.cells[· % zv.cells.size]!)) out hl (by simp [hlen]) (by simp [hlen]) (fun j h h' => by simp) (fun j h h' => by
          have := hx j h (by omega)
          simpa using this) (by rw [flat_len, hzl, hsz]; simp) (fun j hj => by
          have hj' : j < len * sz := by rw [flat_len, hzl, hsz] at hj; exact hj
          have hzs : z.length = sz := by omega
          have hmod : j % z.length < z.length := Nat.mod_lt _ (by omega)
          rw [flat_get z len j hj hmod]
          have := hzcell.2 (j % z.length) hmod
          have e1 : zv.cells.size = z.length := hzcell.1
          have e2 : ((Array.range (len * sz)).map (zv.cells[· % zv.cells.size]!)).getD j undef = zv.cells.getD (j % z.length) undef := by
            have hm' : j % z.length < zv.cells.size := by omega
            have e3 : zv.cells[j % z.length]! = zv.cells[j % z.length]'hm' := getElem!_pos zv.cells (j % z.length) hm'
            have e4 : zv.cells[j % z.length]? = some (zv.cells[j % z.length]'hm') := Array.getElem?_eq_getElem hm'
            simp [hj', e1, e3, e4]
          rw [e2]
          exact this)
      have hzip : (parts.toList.map (·.1)).zip (parts.toList.map fun p => a.eval p.2) = (parts.map fun (p : Nat × Operand) => (p.1, a.eval p.2)).toList := by
        rw [Array.toList_map, List.zip_map']
      rw [hzip] at g1
      obtain ⟨hs, hxx⟩ := h.newObj out cs' e (by omega) g4
      refine Goes.value (v := .slice (some ⟨w.heap.size, 0, none⟩) len len) ?_ hK (hs.put ?_ hd)
      · have hne : len * sz ≠ 0 := by
          intro hh
          rcases Nat.mul_eq_zero.1 hh with hh | hh <;> omega
        have hle : ¬ (len * sz > 2 ^ 24) := by
          have : len * sz ≤ (len + 1) * sz := Nat.mul_le_mul_right _ (by omega)
          omega
        simp only [execOp, ho, Instr.buildSlice, Sem.run_bind, run_underlying hu, Result.andThen_ok, run_size hi, hsz, hle, if_false, hne, run_zero hi hz', Sem.run_pure, g1, newRow, run_newObj]
        rfl
      · refine .ms (Nat.lt_succ_self _) rfl (fun c hc => ?_) (fun c hc _ => ⟨len, cs', e, (0, 0), by simp, Nat.le_refl _, by simp only [if_true]; exact heap_alloc_new _ _, by omega⟩)
        simp only [hput, if_true, Option.some.injEq] at hc
        subst hc
        omega
    · cases hmk
  · cases hmk

/-- The cells that an append takes over, in the model's memory. -/
theorem app_src {sz : Nat} {y : AV} {q : Value} {cm : List AV × Nat} (h : Sim ν N w0 S X0 s a w β) (hy : Rep ν ⟨β, s.heap, s.next, w, S⟩ y q) (hc : appCells s.heap sz y = some cm) (h1 : cm.1.all AV.one = true) (hsz : 0 < sz) :
    (∃ ad c, q = .slice ad 0 c ∧ cm = ([], 0)) ∨ ∃ (ad : Addr) (c : Nat) (news : List Value), q = .slice (some ad) cm.2 c ∧ news.length = cm.2 * sz ∧ cm.1.length = cm.2 * sz ∧
      (∀ j u, news[j]? = some u → w.cell? (ad.add j) = some u) ∧ (∀ u ∈ news, u.oneCell' = true) ∧ ∀ j (h : j < cm.1.length), Rep ν ⟨β, s.heap, s.next, w, S⟩ cm.1[j] (news.getD j undef) := by
  have build : ∀ (b off cap n : Nat) (c : List AV) (us : Nat → Value), q = .slice (some ⟨b, off, none⟩) n cap → c.length = n * sz → c.all AV.one = true → (∀ j, j < c.length → w.cell? ⟨b, off + j, none⟩ = some (us j)) → (∀ j (h : j < c.length), Rep ν ⟨β, s.heap, s.next, w, S⟩ c[j] (us j)) →
      ∃ (ad : Addr) (c' : Nat) (news : List Value), q = .slice (some ad) n c' ∧ news.length = n * sz ∧ c.length = n * sz ∧
      (∀ j u, news[j]? = some u → w.cell? (ad.add j) = some u) ∧ (∀ u ∈ news, u.oneCell' = true) ∧ ∀ j (h : j < c.length), Rep ν ⟨β, s.heap, s.next, w, S⟩ c[j] (news.getD j undef) := by
    intro b off cap n c us hq hl hone hcell hrep
    refine ⟨⟨b, off, none⟩, cap, (List.range c.length).map us, hq, by simp [hl], hl, fun j u hu => ?_, fun u hu => ?_, fun j hj => ?_⟩
    · simp only [List.getElem?_map] at hu
      cases hr : (List.range c.length)[j]? with
      | none => rw [hr] at hu; cases hu
      | some k =>
        rw [hr] at hu
        cases hu
        obtain ⟨hj, hk⟩ := List.getElem?_eq_some_iff.1 hr
        simp at hj hk
        subst hk
        rw [addr_add]
        exact hcell j hj
    · simp only [List.mem_map, List.mem_range] at hu
      obtain ⟨j, hj, rfl⟩ := hu
      exact (hrep j hj).one (List.all_eq_true.1 hone _ (List.getElem_mem _))
    · have : ((List.range c.length).map us).getD j undef = us j := by simp [hj]
      rw [this]
      exact hrep j hj
  unfold appCells at hc
  split at hc
  · cases hc
    obtain ⟨ad, rfl⟩ := hy.inv_nil
    exact .inl ⟨ad, 0, rfl, rfl⟩
  · rename_i c n
    split at hc
    · rename_i hl
      cases hc
      rcases hy.inv_sl with ⟨b, off, cap, us, hp, hn, hS, hcl, hrr⟩ | ⟨b, cap, hp, hn, hce⟩
      · exact .inr (build b off cap n c us hp hl h1 hcl (fun j hj => .pure (hrr j hj)))
      · subst hn; subst hce; exact .inl ⟨b, cap, hp, rfl⟩
    · cases hc
  · rename_i ob off n sz'
    split at hc
    · rename_i hs'
      subst hs'
      cases hh : s.heap ob with
      | none => simp [hh] at hc
      | some cells =>
        simp only [hh] at hc
        split at hc
        · rename_i hfull
          cases hc
          obtain ⟨_, _, _, hv⟩ := hy.inv_ms
          obtain ⟨cap, r, e, f, hp, hn, _⟩ := hv cells hh hfull
          obtain ⟨g1, g2, r', e', hr', hl', hrep⟩ := h.objs.obj ob cells hh
          simp only at g1 g2 hr' hp
          refine .inr (build (β ob) off cap n (cells.drop off) (fun j => r'.getD (off + j) undef) hp (by simp; omega) h1 (fun j hj => ?_) (fun j hj => ?_))
          · have : off + j < r'.size := by simp at hj; omega
            rw [cell_of_row _ _ _ _ _ _ hr']
            simp [this]
          · have := hrep (off + j) (by simp at hj; omega)
            simpa using this
        · cases hc
    · cases hc
  · cases hc

theorem run_room {P : Program} (w : World) (t ty e e' : TypeId) (i : TypeInfo) (ht : P.underlying t = some (.slice e)) (hi : P.info? e = some i)
    (g sLen sCap : Nat) (cur : Array Value) (hg : w.heap[g]? = some (.cells cur e' (0, 0)))
    (a : Addr) (m c : Nat) (news : List Value) (hl : news.length = m * i.size) (hnews : ∀ j u, news[j]? = some u → w.cell? (a.add j) = some u) (h1 : ∀ u ∈ news, u.oneCell' = true)
    (hroom : sLen + m ≤ sCap) (hfit : sLen * i.size + news.length ≤ cur.size) :
    (Builtin.append_ #[t, t] ty #[.slice (some ⟨g, 0, none⟩) sLen sCap, .slice (some a) m c]).run P w =
      .ok (.slice (some ⟨g, 0, none⟩) (sLen + m) sCap) (w.setRow g (cur.toList.take (sLen * i.size) ++ news ++ cur.toList.drop (sLen * i.size + news.length)).toArray) := by
  have hf := run_firstCells_some (P := P) w i.size m a m c news hl hnews
  have hst := run_storeCells_at (P := P) g (sLen * i.size) e' news 0 cur w hg (by simpa using hfit) h1
  simp only [Nat.add_zero] at hst
  simp [Builtin.append_, run_underlying ht, Go.sizeOf, typeInfo, hi, Builtin.lenOf, hroom, hf, Addr.add_lit, hst]

theorem run_none {P : Program} (w : World) (t ty e : TypeId) (i : TypeInfo) (ht : P.underlying t = some (.slice e)) (hi : P.info? e = some i) (b : Option Addr) (sLen sCap : Nat) (hsl : sLen ≤ sCap) (ad : Option Addr) (c : Nat) :
    (Builtin.append_ #[t, t] ty #[.slice b sLen sCap, .slice ad 0 c]).run P w = .ok (.slice b sLen sCap) w := by
  have hf : (Builtin.firstCells i.size 0 (.slice ad 0 c)).run P w = .ok #[] w := by
    cases ad <;> simp [Builtin.firstCells, loadCells, loadCellsFrom]
  cases b <;> simp [Builtin.append_, run_underlying ht, Go.sizeOf, typeInfo, hi, Builtin.lenOf, hsl, hf, storeCells]

theorem g_app {t e : TypeId} {T : Tr} (hP : T.P = P) {i : TypeInfo} {z : List AV} {x y : AV} {c1 c2 : Operand} (ho : o.op = .call { callee := .builtin .append, args := #[c1, c2], argTypes := #[t, t] })
    (he : T.elem t = some e) (hi : T.P.info? e = some i) (hz : T.zero e = some z) (hsz : 0 < i.size) (hzl : z.length = i.size) (hby : i.bytes ≤ 128)
    (hx : Rep ν ⟨β, s.heap, s.next, w, S⟩ x (a.eval c1)) (hy : Rep ν ⟨β, s.heap, s.next, w, S⟩ y (a.eval c2)) (h : Sim ν N w0 S X0 s a w β) (hd : ∀ k, o.dst = some k → k < N)
    {cm : List AV × Nat} (hcm : appCells s.heap i.size y = some cm) (h1 : cm.1.all AV.one = true) {r : AV × Hp × Nat} (hap : appTo s i.size x cm.1 cm.2 = some r)
    (hK : K (({ s with heap := r.2.1, next := r.2.2 } : St).put o.dst r.1)) : Goes ν N w0 S X0 P o a w K := by
  subst hP
  obtain ⟨i', zv, za, hi', hz', hza, hzc, hzl', hz1⟩ := zero_spec hz
  rw [hi] at hi'
  cases hi'
  have hu := elem_spec he
  have hzs : zv.cells.size = i.size := by
    have hzr : Rep ν ⟨β, s.heap, s.next, w, S⟩ za zv := .pure (avOf_rep hza)
    have := (hzr.cells (by rw [hzc]; exact hz1)).1
    rw [hzc] at this
    omega
  have toRun : ∀ v w', (Builtin.append_ #[t, t] o.type #[a.eval c1, a.eval c2]).run T.P w = .ok v w' → (execOp a.eval o).run T.P w = .ok (.value v) w' := by
    intro v w' hr
    simp only [execOp, ho, resolve, invoke, builtin, Sem.run_bind, Sem.run_pure, Result.andThen_ok, List.map_toArray, List.map_cons, List.map_nil, hr]
  have small : ∀ m : Nat, m ≤ appMax → m * i.bytes ≤ 140737488355328 ∧ (m : Int) ≤ 9223372036854775807 := by
    intro m hm
    unfold appMax at hm
    have : m * i.bytes ≤ 1099511627776 * 128 := Nat.mul_le_mul hm hby
    omega
  rcases app_src h hy hcm h1 hsz with ⟨ad, c, hq, hce⟩ | ⟨ad, c, news, hq, hnl, hcl, hnews, hone, hrep⟩
  · -- nothing to append
    subst hce
    unfold appTo at hap
    split at hap
    · simp only [if_true] at hap
      cases hap
      obtain ⟨b, hp⟩ := hx.inv_nil
      rw [hp, hq] at toRun
      exact Goes.value (toRun _ _ (run_none w t o.type e i hu hi b 0 0 (Nat.le_refl _) ad c)) hK (h.put (.pure (.nil _)) hd)
    · rename_i ob n sz'
      split at hap
      · rename_i hs'
        subst hs'
        cases hh : s.heap ob with
        | none => simp [hh] at hap
        | some cells =>
          simp only [hh] at hap
          split at hap
          · rename_i hfull
            cases hap
            obtain ⟨hv1, hv2, hv3, hv⟩ := hx.inv_ms
            obtain ⟨cap, r, e', f, hp, hn, hblk, hcapr⟩ := hv cells hh (by omega)
            simp only at hp hblk
            rw [hp, hq] at toRun
            have hsame : ({ s with heap := hput s.heap ob (some (cells ++ [])), next := s.next } : St) = s := by
              have : hput s.heap ob (some (cells ++ [])) = s.heap := by
                funext k
                unfold hput
                split
                · rename_i e1; rw [e1, hh, List.append_nil]
                · rfl
              rw [this]
            simp only [Nat.add_zero] at hK ⊢
            rw [hsame] at hK
            exact Goes.value (toRun _ _ (run_none w t o.type e i hu hi _ n cap hn ad c)) hK (h.put (by rw [← hp]; exact hx) hd)
          · cases hap
      · cases hap
    · cases hap
  · unfold appTo at hap
    split at hap
    · -- onto an empty slice
      by_cases hm0 : cm.2 = 0
      · rw [if_pos hm0] at hap
        cases hap
        obtain ⟨b, hp⟩ := hx.inv_nil
        rw [hp, hq, hm0] at toRun
        exact Goes.value (toRun _ _ (run_none w t o.type e i hu hi b 0 0 (Nat.le_refl _) _ c)) hK (h.put (.pure (.nil _)) hd)
      · rw [if_neg hm0] at hap
        split at hap
        · rename_i hmax
          cases hap
          obtain ⟨hb1, hb2⟩ := small cm.2 hmax
          obtain ⟨b, hp⟩ := hx.inv_nil
          have hrun : ∃ cap r, cm.2 ≤ cap ∧ r.size = cap * i.size ∧ (∀ j, j < news.length → r.getD j undef = news.getD j undef) ∧
              (Builtin.append_ #[t, t] o.type #[a.eval c1, a.eval c2]).run T.P w = .ok (.slice (some ⟨w.heap.size, 0, none⟩) cm.2 cap) (w.drew.alloc (.cells r e)) := by
            have fit : ∀ (cap : Nat), cm.2 ≤ cap → (news.toArray ++ Builtin.zeroCells zv.cells (cap - cm.2)).size = cap * i.size ∧ ∀ j, j < news.length → (news.toArray ++ Builtin.zeroCells zv.cells (cap - cm.2)).getD j undef = news.getD j undef := by
              intro cap hcap
              refine ⟨?_, fun j hj => ?_⟩
              · rw [Array.size_append, size_zeroCells, hzs, List.size_toArray, hnl, ← Nat.add_mul]
                congr 1; omega
              · rw [Array.getD_eq_getD_getElem?, Array.getElem?_append_left (by simpa using hj)]
                simp
            cases b with
            | none =>
              have hr := run_append_nil (P := T.P) w t o.type e i zv hu hi hz' ad cm.2 c news hnl hnews (by omega) hb2 (by omega)
              obtain ⟨f1, f2⟩ := fit _ (grownCap_ge w cm.2 0 e)
              exact ⟨_, _, grownCap_ge w cm.2 0 e, f1, f2, by rw [hp, hq]; exact hr⟩
            | some b =>
              have hr := run_append_grow (P := T.P) w t o.type e i zv hu hi hz' b 0 0 [] (by simp) (fun j v hv => by simp at hv) ad cm.2 c news hnl hnews (by omega) (by simpa using hb2) (growslice_fits (by omega) (by simpa using hb1))
              simp only [Nat.zero_add, Array.empty_append] at hr
              obtain ⟨f1, f2⟩ := fit _ (grownCap_ge w cm.2 0 e)
              exact ⟨_, _, grownCap_ge w cm.2 0 e, f1, f2, by rw [hp, hq]; exact hr⟩
          obtain ⟨cap, r, hcap, hrs, hrn, hr⟩ := hrun
          have hdrew : Sim ν N w0 S X0 s a w.drew β := h.later ⟨rfl, rfl, rfl, Nat.le_refl _, fun _ _ => rfl⟩
          have hlr : cm.1.length ≤ r.size := by rw [hcl, hrs]; exact Nat.mul_le_mul_right _ hcap
          obtain ⟨hs, hxx⟩ := hdrew.newObj cm.1 r e hlr (fun j hj => by
            rw [hrn j (by omega)]
            exact (hrep j hj).mono (Ext.drew _ w.drew rfl))
          refine Goes.value (toRun _ _ hr) hK (hs.put ?_ hd)
          refine .ms (Nat.lt_succ_self _) rfl (fun c' hc' => ?_) (fun c' hc' _ => ⟨cap, r, e, (0, 0), by simp, hcap, by simp only [if_true]; exact heap_alloc_new w.drew _, by omega⟩)
          simp only [hput, if_true, Option.some.injEq] at hc'
          subst hc'
          omega
        · cases hap
    · rename_i ob n sz'
      split at hap
      · rename_i hs'
        subst hs'
        cases hh : s.heap ob with
        | none => simp [hh] at hap
        | some cells =>
          simp only [hh] at hap
          split at hap
          · rename_i hfull
            obtain ⟨hfull, hmax⟩ := hfull
            cases hap
            obtain ⟨hb1, hb2⟩ := small (n + cm.2) hmax
            obtain ⟨hv1, hv2, hv3, hv⟩ := hx.inv_ms
            obtain ⟨cap, r, e', f, hp, hn, hblk, hcapr⟩ := hv cells hh (by omega)
            obtain ⟨g1, g2, r', e2, hr', hl', hrep'⟩ := h.objs.obj ob cells hh
            simp only at hp hblk g1 g2 hr' hv1
            have hinj := hr'.symm.trans hblk
            simp only [Option.some.injEq, Obj.cells.injEq] at hinj
            obtain ⟨rfl, rfl, rfl⟩ := hinj
            by_cases hm0 : cm.2 = 0
            · -- no cell is appended
              have hce : cm.1 = [] := List.eq_nil_of_length_eq_zero (by rw [hcl, hm0]; simp)
              rw [hp, hq, hm0] at toRun
              have hsame : ({ s with heap := hput s.heap ob (some (cells ++ cm.1)), next := s.next } : St) = s := by
                have : hput s.heap ob (some (cells ++ cm.1)) = s.heap := by
                  funext k
                  unfold hput
                  split
                  · rename_i e1; rw [e1, hh, hce, List.append_nil]
                  · rfl
                rw [this]
              rw [hsame, hm0] at hK
              exact Goes.value (toRun _ _ (run_none w t o.type e i hu hi _ n cap hn _ c)) hK (h.put (by rw [← hp]; exact hx) hd)
            · have hlt : cells.length < (cells ++ cm.1).length := by
                have : 0 < cm.2 * i.size := Nat.mul_pos (by omega) hsz
                simp; omega
              have both : ∀ (b' cap' : Nat) (rr : Array Value) (ee : TypeId) (w' : World), (Builtin.append_ #[t, t] o.type #[a.eval c1, a.eval c2]).run T.P w = .ok (.slice (some ⟨b', 0, none⟩) (n + cm.2) cap') w' →
                  w'.heap[b']? = some (.cells rr ee (0, 0)) → n + cm.2 ≤ cap' → cap' * i.size ≤ rr.size → (b' = β ob ∨ w.heap.size ≤ b') → (∀ k, k ≠ β ob → k < w.heap.size → w'.heap[k]? = w.heap[k]?) →
                  (w'.os = w.os ∧ w'.tape = w.tape ∧ w'.output = w.output ∧ w.heap.size ≤ w'.heap.size) → (∀ j, j < cells.length → rr.getD j undef = r'.getD j undef) → (∀ j, j < cm.1.length → rr.getD (cells.length + j) undef = news.getD j undef) → Goes ν N w0 S X0 T.P o a w K := by
                intro b' cap' rr ee w' hr hw' hcap' hsize hb' hoth hrest hold hnew
                have hfit : (cells ++ cm.1).length ≤ rr.size := by
                  have : (n + cm.2) * i.size ≤ cap' * i.size := Nat.mul_le_mul_right _ hcap'
                  rw [Nat.add_mul] at this
                  simp only [List.length_append]
                  omega
                obtain ⟨hs, hxx⟩ := h.turn (o := ob) (c := cells) (c' := cells ++ cm.1) hh hw' hfit hb' hoth hrest (.inl hlt) (fun X' hX' _ j hj => by
                  by_cases hj1 : j < cells.length
                  · rw [List.getElem_append_left hj1, hold j hj1]
                    exact (hrep' j hj1).mono hX'
                  · have hj2 : j - cells.length < cm.1.length := by simp at hj; omega
                    rw [List.getElem_append_right (by omega)]
                    have := hnew (j - cells.length) hj2
                    rw [show cells.length + (j - cells.length) = j from by omega] at this
                    rw [this]
                    exact (hrep _ hj2).mono hX')
                refine Goes.value (toRun _ _ hr) hK (hs.put ?_ hd)
                refine .ms hv1 rfl (fun c' hc' => ?_) (fun c' hc' _ => ⟨cap', rr, ee, (0, 0), by simp, hcap', by simp only [if_true]; exact hw', by omega⟩)
                simp only [hput, if_true, Option.some.injEq] at hc'
                subst hc'
                simp only [List.length_append, Nat.add_mul]
                omega
              by_cases hroom : n + cm.2 ≤ cap
              · have hfit : n * i.size + news.length ≤ r'.size := by
                  have : (n + cm.2) * i.size ≤ cap * i.size := Nat.mul_le_mul_right _ hroom
                  rw [Nat.add_mul] at this
                  omega
                have hr := run_room (P := T.P) w t o.type e e2 i hu hi (β ob) n cap r' hr' ad cm.2 c news hnl hnews hone hroom hfit
                refine both (β ob) cap _ e2 _ (by rw [hp, hq]; exact hr) (setRow_heap w _ _ _ _ _ hr') hroom (by simp; omega) (.inl rfl) (fun k hk _ => setRow_other _ _ _ _ hk) ⟨rfl, rfl, rfl, by simp [World.setRow]⟩ (fun j hj => ?_) (fun j hj => ?_)
                · simp only [Array.getD_eq_getD_getElem?, List.getElem?_toArray]
                  rw [List.append_assoc, List.getElem?_append_left (by simp; omega)]
                  simp [show j < n * i.size from by omega]
                · simp only [Array.getD_eq_getD_getElem?, List.getElem?_toArray]
                  rw [List.append_assoc, List.getElem?_append_right (by simp; omega), List.getElem?_append_left (by simp; omega)]
                  simp only [List.length_take, Array.length_toList]
                  rw [Nat.min_eq_left (by omega), show cells.length + j - n * i.size = j from by omega]
                  simp [List.getD]
              · have hr := run_append_grow (P := T.P) w t o.type e i zv hu hi hz' ⟨β ob, 0, none⟩ n cap (r'.toList.take (n * i.size)) (by simp; omega) (fun j v hv => by
                  rw [addr_add, Nat.zero_add, cell_of_row _ _ _ _ _ _ hr']
                  rw [List.getElem?_take] at hv
                  split at hv
                  · simpa using hv
                  · cases hv) ad cm.2 c news hnl hnews (by omega) (by omega) (growslice_fits (by omega) (by omega))
                have hge := grownCap_ge w (n + cm.2) cap e
                refine both w.heap.size _ _ e _ (by rw [hp, hq]; exact hr) (heap_alloc_new w.drew _) hge ?_ (.inr (Nat.le_refl _)) (fun k _ hk => heap_alloc_old w.drew _ _ hk) ⟨rfl, rfl, rfl, by simp⟩ (fun j hj => ?_) (fun j hj => ?_)
                · rw [Array.size_append, Array.size_append, size_zeroCells, hzs, List.size_toArray, List.size_toArray, hnl]
                  simp only [List.length_take, Array.length_toList]
                  rw [Nat.min_eq_left (by omega), ← Nat.add_mul, ← Nat.add_mul]
                  exact Nat.mul_le_mul_right _ (by omega)
                · simp only [Array.getD_eq_getD_getElem?]
                  rw [Array.append_assoc, Array.getElem?_append_left (by simp; omega)]
                  simp [show j < n * i.size from by omega]
                · simp only [Array.getD_eq_getD_getElem?]
                  rw [Array.append_assoc, Array.getElem?_append_right (by simp; omega), Array.getElem?_append_left (by simp; omega)]
                  simp only [List.size_toArray, List.length_take, Array.length_toList]
                  rw [Nat.min_eq_left (by omega), show cells.length + j - n * i.size = j from by omega]
                  simp [List.getD]
          · cases hap
      · cases hap
    · cases hap
end
end Go.Av
