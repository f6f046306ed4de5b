/-
  One operation of the compact code against the model's.
-/
import Derived.Test.YtbgaobcgpkjjkaaAvEff
import Derived.Laws.MakeOwn
namespace Go.Av
open Go.RowKit (Below)

/-- The operation leads to a state that the predicate holds of. -/
def Goes (ν : Nat → FuncId) (N : Nat) (w0 : World) (S : Nat → Prop) (X0 : Cx) (P : Program) (o : Oper) (a : Act) (w : World) (K : St → Prop) : Prop :=
  ∀ Q : Exit → Act → World → Prop, o.wp P a w (fun a' w' => ∃ s' β', K s' ∧ Sim ν N w0 S X0 s' a' w' β') Q

section
variable {ν : Nat → FuncId} {N : Nat} {w0 : World} {S : Nat → Prop} {X0 : Cx} {s : St} {a : Act} {w : World} {β : Nat → Nat} {P : Program} {o : Oper} {K : St → Prop}

theorem Goes.value {v : Value} {w' : World} (h : (execOp a.eval o).run P w = .ok (.value v) w') {s' : St} {β' : Nat → Nat} (hK : K s') (hs : Sim ν N w0 S X0 s' (a.put o.dst v) w' β') : Goes ν N w0 S X0 P o a w K := by
  intro Q
  unfold Oper.wp
  rw [h]
  exact ⟨s', β', hK, hs⟩
theorem Goes.skip {w' : World} (h : (execOp a.eval o).run P w = .ok .skip w') {s' : St} {β' : Nat → Nat} (hK : K s') (hs : Sim ν N w0 S X0 s' (a.put o.dst undef) w' β') : Goes ν N w0 S X0 P o a w K := by
  intro Q
  unfold Oper.wp
  rw [h]
  exact ⟨s', β', hK, hs⟩

theorem g_pure {u : AV} (h : Sim ν N w0 S X0 s a w β) (hd : ∀ k, o.dst = some k → k < N) (hg : Gives ν P ⟨β, s.heap, s.next, w, S⟩ (execOp a.eval o) u) (hK : K (s.put o.dst u)) : Goes ν N w0 S X0 P o a w K := by
  obtain ⟨v, w', hr, hw, hrep⟩ := hg
  rcases hw with rfl | ⟨ob, rfl⟩
  · exact Goes.value hr hK (h.put hrep hd)
  · exact Goes.value hr hK ((h.alloc ob).put hrep hd)

theorem g_new {t : TypeId} {T : Tr} (hP : T.P = P) {z : List AV} (ho : o.op = .alloc t) (hz : T.zero t = some z) (h : Sim ν N w0 S X0 s a w β) (hd : ∀ k, o.dst = some k → k < N)
    (hK : K (({ s with heap := hput s.heap s.next (some z), next := s.next + 1 } : St).put o.dst (.mp s.next 0 z.length))) : Goes ν N w0 S X0 P o a w K := by
  subst hP
  obtain ⟨i, zv, za, hi, hz', hza, hzc, hzl, hz1⟩ := zero_spec hz
  have hzr : Rep ν ⟨β, s.heap, s.next, w, S⟩ za zv := .pure (avOf_rep hza)
  have hzcell := hzr.cells (by rw [hzc]; exact hz1)
  rw [hzc] at hzcell
  obtain ⟨hs, hx⟩ := h.newObj z zv.cells t (by omega) hzcell.2
  refine Goes.value (v := .pointer (some ⟨w.heap.size, 0, none⟩)) ?_ hK (hs.put ?_ hd)
  · simp [execOp, ho, Instr.alloc, run_zero hi hz', newVar, newRow]
  · refine .mp (Nat.lt_succ_self _) rfl (fun c hc => ?_) (fun c hc _ => by simp)
    simp only [hput, if_true, Option.some.injEq] at hc
    subst hc
    exact Nat.le_refl _

theorem g_boxm {t : TypeId} {x : AV} {c1 : Operand} (ho : o.op = .box t c1) (hx : Rep ν ⟨β, s.heap, s.next, w, S⟩ x (a.eval c1)) (h1 : x.cells.all AV.one = true) (h : Sim ν N w0 S X0 s a w β) (hd : ∀ k, o.dst = some k → k < N)
    (hK : K (({ s with heap := hput s.heap s.next (some x.cells), next := s.next + 1 } : St).put o.dst (.mp s.next 0 x.cells.length))) : Goes ν N w0 S X0 P o a w K := by
  obtain ⟨hc1, hc2⟩ := hx.cells h1
  obtain ⟨hs, hx'⟩ := h.newObj x.cells (a.eval c1).cells t (by omega) hc2
  refine Goes.value (v := .pointer (some ⟨w.heap.size, 0, none⟩)) ?_ hK (hs.put ?_ hd)
  · simp [execOp, ho, Instr.box, newVar, newRow]
  · refine .mp (Nat.lt_succ_self _) rfl (fun c hc => ?_) (fun c hc _ => by simp)
    simp only [hput, if_true, Option.some.injEq] at hc
    subst hc
    exact Nat.le_refl _

theorem g_st {t : TypeId} {n : Nat} {T : Tr} (hP : T.P = P) {x y : AV} {c1 c2 : Operand} (ho : o.op = .store t c1 c2) (hn : T.sizeOf t = some n) (hx : Rep ν ⟨β, s.heap, s.next, w, S⟩ x (a.eval c1)) (hy : Rep ν ⟨β, s.heap, s.next, w, S⟩ y (a.eval c2))
    (h : Sim ν N w0 S X0 s a w β) (hd : ∀ k, o.dst = some k → k < N) {hp : Hp} (hst : stTo s n x y = some hp) (hK : K (({ s with heap := hp } : St).put o.dst (.v undef))) : Goes ν N w0 S X0 P o a w K := by
  subst hP
  obtain ⟨i, hi, hsz⟩ := size_spec hn
  unfold stTo at hst
  split at hst
  · rename_i ob p l
    cases hc : s.heap ob with
    | none => simp [hc] at hst
    | some c =>
      simp only [hc] at hst
      split at hst
      · rename_i hcond
        obtain ⟨h1, h2, h3, h4⟩ := hcond
        cases hst
        obtain ⟨hy1, hy2⟩ := hy.cells h4
        obtain ⟨_, _, _, hv⟩ := hx.inv_mp
        have hptr := hv c hc h1
        obtain ⟨g1, g2, r, e, hr, hl, hrep⟩ := h.objs.obj ob c hc
        simp only at g1 g2 hr hptr
        have hrun := run_storeCells_at (P := T.P) (β ob) p e (a.eval c2).cells.toList 0 r w hr (by simp; omega) (fun v hv => by
          obtain ⟨j, hj, rfl⟩ := List.getElem_of_mem hv
          have hj' : j < y.cells.length := by simp at hj; omega
          have := (hy2 j hj').one (List.all_eq_true.1 h4 _ (List.getElem_mem _))
          simp only [Array.length_toList] at hj
          simpa [hj] using this)
        have hlenr : (r.toList.take (p + 0) ++ (a.eval c2).cells.toList ++ r.toList.drop (p + 0 + (a.eval c2).cells.toList.length)).length = r.size := by simp; omega
        obtain ⟨hs, hx'⟩ := h.turn (o := ob) (c := c) (c' := c.take p ++ y.cells ++ c.drop (p + n)) hc (w' := w.setRow (β ob) (r.toList.take (p + 0) ++ (a.eval c2).cells.toList ++ r.toList.drop (p + 0 + (a.eval c2).cells.toList.length)).toArray)
          (b' := β ob) (e' := e) (setRow_heap w _ _ _ _ _ hr) (by simp only [List.size_toArray, hlenr]; simp; omega) (.inl rfl) (fun k hk _ => setRow_other _ _ _ _ hk) ⟨rfl, rfl, rfl, by simp [World.setRow]⟩
          (.inr ⟨by simp; omega, rfl, fun r' e' f' hr' => by rw [hr] at hr'; cases hr'; simp only [List.size_toArray, hlenr]⟩) (fun X' hX' _ j hj => by
            have hlen1 : (c.take p).length = p := by simp; omega
            have hjl : j < r.size := by simp at hj; omega
            have eR : ((r.toList.take (p + 0) ++ (a.eval c2).cells.toList ++ r.toList.drop (p + 0 + (a.eval c2).cells.toList.length)).toArray.getD j undef) = if j < p then r.getD j undef else if j < p + n then (a.eval c2).cells.getD (j - p) undef else r.getD j undef := by
              simp only [Nat.add_zero, Array.length_toList, Array.getD_eq_getD_getElem?, List.getElem?_toArray]
              by_cases d1 : j < p
              · rw [if_pos d1, List.append_assoc, List.getElem?_append_left (by simp; omega)]
                simp [d1]
              · rw [if_neg d1]
                by_cases d2 : j < p + n
                · rw [if_pos d2, List.append_assoc, List.getElem?_append_right (by simp; omega), List.getElem?_append_left (by simp; omega)]
                  simp only [List.length_take, Array.length_toList, Array.getElem?_toList]
                  rw [Nat.min_eq_left (by omega)]
                · rw [if_neg d2, List.getElem?_append_right (by simp; omega)]
                  simp only [List.length_append, List.length_take, Array.length_toList, List.getElem?_drop, Array.getElem?_toList]
                  rw [Nat.min_eq_left (by omega)]
                  congr 2
                  omega
            rw [eR]
            by_cases d1 : j < p
            · rw [if_pos d1]
              have e1 : (c.take p ++ y.cells ++ c.drop (p + n))[j] = c[j]'(by omega) := by
                rw [List.getElem_append_left (by simp; omega), List.getElem_append_left (by omega)]; simp
              rw [e1]
              exact (hrep j (by omega)).mono hX'
            · rw [if_neg d1]
              by_cases d2 : j < p + n
              · rw [if_pos d2]
                have e1 : (c.take p ++ y.cells ++ c.drop (p + n))[j] = y.cells[j - p]'(by omega) := by
                  rw [List.getElem_append_left (by simp; omega), List.getElem_append_right (by omega)]; simp [hlen1]
                rw [e1]
                exact (hy2 _ _).mono hX'
              · rw [if_neg d2]
                have hj' : j < c.length := by simp at hj; omega
                have e1 : (c.take p ++ y.cells ++ c.drop (p + n))[j] = c[j]'hj' := by
                  rw [List.getElem_append_right (by simp; omega)]
                  simp only [List.getElem_drop, List.length_append, hlen1]
                  congr 1; omega
                rw [e1]
                exact (hrep j hj').mono hX')
        refine Goes.skip ?_ hK (hs.put (.pure (.v _)) hd)
        have hcs : ¬ ((a.eval c2).cells.size ≠ i.size) := by omega
        simp only [execOp, ho, Instr.storeAt, hptr, Instr.sureAddr, Sem.run_bind, Sem.run_pure, Result.andThen_ok, storeVar, run_size hi, hcs, if_false, hrun]
      · cases hst
  · cases hst
end
end Go.Av
