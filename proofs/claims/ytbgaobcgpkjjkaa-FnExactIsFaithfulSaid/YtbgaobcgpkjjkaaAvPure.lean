/-
  The operations that yield a value and write nothing: the abstract result stands for the model's.
-/
import Derived.Test.YtbgaobcgpkjjkaaAvRep
namespace Go.Av
open Go.RowKit (Below)

theorem mapM_some {α β : Type} {f : α → Option β} : ∀ {l : List α} {l' : List β}, l.mapM f = some l' → l'.length = l.length ∧ ∀ i (h : i < l.length) (h' : i < l'.length), f l[i] = some l'[i]
  | [], l', h => by simp at h; subst h; exact ⟨rfl, fun i h => by simp at h⟩
  | x :: l, l', h => by
    simp only [List.mapM_cons, Option.bind_eq_bind, Option.bind_eq_some_iff, Option.pure_def, Option.some.injEq] at h
    obtain ⟨y, hy, l2, hl, rfl⟩ := h
    obtain ⟨h1, h2⟩ := mapM_some hl
    refine ⟨by simp [h1], fun i hi hi' => ?_⟩
    cases i with
    | zero => simpa using hy
    | succ i => simpa using h2 i (by simpa using hi) (by simpa using hi')

theorem cellOf_rep {ν : Nat → FuncId} {w : World} {S : Nat → Prop} {v : Value} {a : AV} (h : cellOf v = some a) : RepP ν w S a v := by
  unfold cellOf at h
  split at h <;> first | (cases h; exact .nil _) | (cases h; exact .v _) | cases h

theorem avOf_rep {ν : Nat → FuncId} {w : World} {S : Nat → Prop} {v : Value} {a : AV} (h : avOf v = some a) : RepP ν w S a v := by
  unfold avOf at h
  split at h
  · cases h; exact .nil _
  · cases h
  · rename_i cs
    cases hm : cs.toList.mapM cellOf with
    | none => rw [hm] at h; cases h
    | some l =>
      rw [hm] at h
      cases h
      obtain ⟨h1, h2⟩ := mapM_some hm
      refine .agg cs (by simp [h1]) (fun i hi => ?_)
      have hi' : i < cs.size := by simpa [h1] using hi
      have := h2 i (by simpa using hi') hi
      rw [show cs.getD i undef = cs.toList[i]'(by simpa using hi') from by simp [hi']]
      exact cellOf_rep this
  · cases h
  · cases h; exact .v _

section
variable {T : Tr} {ν : Nat → FuncId} (hν : ∀ f id, T.num f = some id → ν id = f) {X : Cx} {env : Nat → AV} {a : Act} (henv : ∀ t, Rep ν X (env t) (a.tmps.getD t undef))

include hν henv in
theorem opd_sound {x : Operand} {x' : Opd} (h : T.opd x = some x') : Rep ν X (ev env x') (a.eval x) := by
  cases x with
  | tmp t => simp only [Tr.opd] at h; split at h <;> cases h; exact henv t
  | const v =>
    simp only [Tr.opd] at h
    cases hv : avOf v with
    | none => rw [hv] at h; cases h
    | some y => rw [hv] at h; cases h; exact .pure (avOf_rep hv)
  | global g => simp [Tr.opd] at h
  | func f =>
    simp only [Tr.opd] at h
    cases hf : T.num f with
    | none => rw [hf] at h; cases h
    | some id =>
      rw [hf] at h; cases h
      have := hν f id hf
      subst this
      exact .pure (.fn (id := id) (cells := []) #[] rfl (fun i h => by simp at h))

theorem opds1 {x : Operand} {l : List Opd} (h : T.opds [x] = some l) : ∃ x', l = [x'] ∧ T.opd x = some x' := by
  obtain ⟨h1, h2⟩ := mapM_some h
  match l, h1 with
  | [y], _ => exact ⟨y, rfl, h2 0 (by simp) (by simp)⟩
theorem opds2 {x y : Operand} {l : List Opd} (h : T.opds [x, y] = some l) : ∃ x' y', l = [x', y'] ∧ T.opd x = some x' ∧ T.opd y = some y' := by
  obtain ⟨h1, h2⟩ := mapM_some h
  match l, h1 with
  | [p, q], _ => exact ⟨p, q, rfl, h2 0 (by simp) (by simp), h2 1 (by simp) (by simp)⟩
theorem opds3 {x y z : Operand} {l : List Opd} (h : T.opds [x, y, z] = some l) : ∃ x' y' z', l = [x', y', z'] ∧ T.opd x = some x' ∧ T.opd y = some y' ∧ T.opd z = some z' := by
  obtain ⟨h1, h2⟩ := mapM_some h
  match l, h1 with
  | [p, q, r], _ => exact ⟨p, q, r, rfl, h2 0 (by simp) (by simp), h2 1 (by simp) (by simp), h2 2 (by simp) (by simp)⟩
end

/-- The operation yields a value that the abstract one stands for; at most a new block is laid. -/
def Gives (ν : Nat → FuncId) (P : Program) (X : Cx) (m : Sem Next) (u : AV) : Prop :=
  ∃ v w', m.run P X.w = .ok (.value v) w' ∧ (w' = X.w ∨ ∃ o, w' = X.w.alloc o) ∧ Rep ν { X with w := w' } u v

theorem Gives.same {ν : Nat → FuncId} {P : Program} {X : Cx} {m : Sem Next} {u : AV} {v : Value} (h : m.run P X.w = .ok (.value v) X.w) (hr : Rep ν X u v) : Gives ν P X m u :=
  ⟨v, X.w, h, .inl rfl, hr⟩

section
variable {T : Tr} {ν : Nat → FuncId} {X : Cx}

theorem s_pick {x y z u : AV} {p q r : Value} {o : Oper} {a : Act} {c1 c2 c3 : Operand} (ho : o.op = .pick c1 c2 c3) (e1 : a.eval c1 = p) (e2 : a.eval c2 = q) (e3 : a.eval c3 = r) (h : pPick [x, y, z] = some u) (hx : Rep ν X x p) (hy : Rep ν X y q) (hz : Rep ν X z r) :
    Gives ν T.P X (execOp a.eval o) u := by
  unfold pPick at h
  split at h
  · rename_i c a' b' heq
    simp only [List.cons.injEq, and_true] at heq
    obtain ⟨rfl, rfl, rfl⟩ := heq
    have := hx.inv_v
    subst this
    cases h
    refine Gives.same (v := if c then q else r) (by simp [execOp, ho, e1, e2, e3, asBool]) ?_
    cases c <;> simpa
  · cases h

theorem s_bin {op : BinOp} {t t' : TypeId} {x y u : AV} {p q : Value} {o : Oper} {a : Act} {c1 c2 : Operand} (ho : o.op = .binOp op t c1 c2 t') (e1 : a.eval c1 = p) (e2 : a.eval c2 = q) (h : pBin op [x, y] = some u) (hx : Rep ν X x p) (hy : Rep ν X y q) :
    Gives ν T.P X (execOp a.eval o) u := by
  unfold pBin at h
  split at h
  · rename_i k m k' n heq
    simp only [List.cons.injEq, and_true] at heq
    obtain ⟨rfl, rfl⟩ := heq
    have := hx.inv_v
    subst this
    have := hy.inv_v
    subst this
    split at h
    · rename_i hk
      subst hk
      cases hi : intBin op k m n with
      | none => rw [hi] at h; cases h
      | some z =>
        rw [hi] at h
        cases h
        refine Gives.same (v := z) ?_ (.pure (.v z))
        unfold intBin at hi
        cases op <;> simp only [reduceCtorEq, Option.some.injEq] at hi <;> (try subst hi) <;>
          first
          | (split at hi
             · cases hi
             · rename_i hn
               simp only [Option.some.injEq] at hi
               subst hi
               simp [execOp, ho, e1, e2, eqGuard, binOp, Op.intDiv, hn])
          | simp [execOp, ho, e1, e2, eqGuard, binOp, Op.intArith, Op.intCmp]
    · cases h
  · cases h

theorem s_not {t : TypeId} {x u : AV} {p : Value} {o : Oper} {a : Act} {c1 : Operand} (ho : o.op = .unOp .not t c1) (e1 : a.eval c1 = p) (h : pNot [x] = some u) (hx : Rep ν X x p) : Gives ν T.P X (execOp a.eval o) u := by
  unfold pNot at h
  split at h
  · rename_i b heq
    simp only [List.cons.injEq, and_true] at heq
    subst heq
    have := hx.inv_v
    subst this
    cases h
    exact Gives.same (v := .bool (!b)) (by simp [execOp, ho, e1, Op.unary]) (.pure (.v _))
  · cases h

theorem addr_add {b off n : Nat} : (⟨b, off, none⟩ : Addr).add n = ⟨b, off + n, none⟩ := by
  unfold Addr.add; split <;> simp_all

theorem run_under {P : Program} {t : TypeId} {d : TypeDesc} (h : P.underlying t = some d) (w : World) : (underlying t).run P w = .ok d w := run_underlying h w
theorem run_size {P : Program} {t : TypeId} {i : TypeInfo} (h : P.info? t = some i) (w : World) : (sizeOf t).run P w = .ok i.size w := by
  simp [Go.sizeOf, typeInfo, h]

theorem elem_spec {t e : TypeId} (h : T.elem t = some e) : T.P.underlying t = some (.slice e) := by
  unfold Tr.elem at h
  split at h
  · cases h; assumption
  · cases h
theorem size_spec {t : TypeId} {n : Nat} (h : T.sizeOf t = some n) : ∃ i, T.P.info? t = some i ∧ i.size = n := by
  unfold Tr.sizeOf at h
  cases hi : T.P.info? t with
  | none => rw [hi] at h; cases h
  | some i => rw [hi] at h; cases h; exact ⟨i, rfl, rfl⟩

theorem s_len {t e : TypeId} {x u : AV} {p : Value} {o : Oper} {a : Act} {c1 : Operand} (ho : o.op = .call { callee := .builtin .len, args := #[c1], argTypes := #[t] }) (e1 : a.eval c1 = p) (ht : T.P.underlying t = some (.slice e)) {H : Hp} (hH : ∀ o c, H o = some c → X.H o = some c) (h : pLen H [x] = some u) (hx : Rep ν X x p) :
    Gives ν T.P X (execOp a.eval o) u := by
  have key : ∀ (b : Option Addr) (n cap : Nat), p = .slice b n cap → (execOp a.eval o).run T.P X.w = .ok (.value (.int .i64 n)) X.w := by
    intro b n cap hp
    subst hp
    simp [execOp, ho, resolve, invoke, builtin, Builtin.len_, run_underlying ht, e1, goInt]
  unfold pLen at h
  split at h
  · rename_i c n heq
    simp only [List.cons.injEq, and_true] at heq
    subst heq
    cases h
    rcases hx.inv_sl with ⟨b, off, cap, us, hp, _⟩ | ⟨b, cap, hp, rfl, _⟩
    · exact Gives.same (key _ _ _ hp) (.pure (.v _))
    · exact Gives.same (key _ _ _ hp) (.pure (.v _))
  · rename_i heq
    simp only [List.cons.injEq, and_true] at heq
    subst heq
    cases h
    obtain ⟨b, hp⟩ := hx.inv_nil
    exact Gives.same (key _ _ _ hp) (.pure (.v _))
  · rename_i o' off n sz heq
    simp only [List.cons.injEq, and_true] at heq
    subst heq
    cases hc : H o' with
    | none => simp [hc] at h
    | some c =>
      simp only [hc] at h
      split at h
      · rename_i he
        cases h
        obtain ⟨_, _, _, hv⟩ := hx.inv_ms
        obtain ⟨cap, r, e', f, hp, _⟩ := hv c (hH _ _ hc) he
        exact Gives.same (key _ _ _ hp) (.pure (.v _))
      · cases h
  · cases h


theorem s_fad {st : TypeId} {fields : Array Field} {fl : Field} {f m : Nat} {x u : AV} {p : Value} {o : Oper} {a : Act} {c1 : Operand} (ho : o.op = .fieldAddr st c1 f) (e1 : a.eval c1 = p)
    (ht : T.P.underlying st = some (.struct fields)) (hf : fields[f]? = some fl) (hs : T.sizeOf fl.type = some (m + 1)) {H : Hp} (hH : ∀ o c, H o = some c → X.H o = some c)
    (h : pFad H fl.offset [x] = some u) (hx : Rep ν X x p) : Gives ν T.P X (execOp a.eval o) u := by
  obtain ⟨i, hi, hsz⟩ := size_spec hs
  have key : ∀ b off, p = .pointer (some ⟨b, off, none⟩) → (execOp a.eval o).run T.P X.w = .ok (.value (.pointer (some ⟨b, off + fl.offset, none⟩))) X.w := by
    intro b off hp
    subst hp
    simp [execOp, ho, Instr.fieldAt, run_underlying ht, hf, e1, Instr.sureAddr, fieldPlace, run_size hi, hsz, addr_add]
  unfold pFad at h
  split at h
  · rename_i c o' heq
    simp only [List.cons.injEq, and_true] at heq
    subst heq
    cases h
    obtain ⟨b, base, us, hp, hS, hc, hr⟩ := hx.inv_ptr
    refine Gives.same (key _ _ hp) (.pure ?_)
    rw [Nat.add_assoc]
    exact .ptr us hS hc hr
  · rename_i o' q l heq
    simp only [List.cons.injEq, and_true] at heq
    subst heq
    cases hc : H o' with
    | none => simp [hc] at h
    | some c =>
      simp only [hc] at h
      split at h
      · rename_i he
        cases h
        obtain ⟨h1, h2, h3, h4⟩ := hx.inv_mp
        have hp := h4 c (hH _ _ hc) he
        exact Gives.same (key _ _ hp) (.mp h1 rfl h3 (fun _ _ _ => rfl))
      · cases h
  · cases h

theorem s_iad {t e : TypeId} {sz : Nat} {x y u : AV} {p q : Value} {o : Oper} {a : Act} {c1 c2 : Operand} (ho : o.op = .indexAddr t c1 c2) (e1 : a.eval c1 = p) (e2 : a.eval c2 = q)
    (ht : T.elem t = some e) (hs : T.sizeOf e = some sz) {H : Hp} (hH : ∀ o c, H o = some c → X.H o = some c)
    (h : pIad H sz [x, y] = some u) (hx : Rep ν X x p) (hy : Rep ν X y q) : Gives ν T.P X (execOp a.eval o) u := by
  obtain ⟨i, hi, hsz⟩ := size_spec hs
  have hu := elem_spec ht
  have key : ∀ b off n cap k j, p = .slice (some ⟨b, off, none⟩) n cap → q = .int k j → 0 ≤ j → j < n → (execOp a.eval o).run T.P X.w = .ok (.value (.pointer (some ⟨b, off + j.toNat * sz, none⟩))) X.w := by
    intro b off n cap k j hp hq h0 h1
    subst hp
    subst hq
    simp [execOp, ho, Instr.indexAt, run_underlying hu, e1, e2, asIntOf, run_size hi, hsz, addr_add, h0, h1]
  unfold pIad at h
  split at h
  · rename_i c n k j heq
    simp only [List.cons.injEq, and_true] at heq
    obtain ⟨rfl, rfl⟩ := heq
    split at h
    · rename_i hj
      cases h
      have hq := hy.inv_v
      rcases hx.inv_sl with ⟨b, off, cap, us, hp, hn, hS, hc, hr⟩ | ⟨b, cap, hp, hn, _⟩
      · exact Gives.same (key _ _ _ _ _ _ hp hq hj.1 hj.2) (.pure (.ptr us hS hc hr))
      · omega
    · cases h
  · rename_i o' off n sz' k j heq
    simp only [List.cons.injEq, and_true] at heq
    obtain ⟨rfl, rfl⟩ := heq
    split at h
    · rename_i hj
      obtain ⟨rfl, hj⟩ := hj
      cases hc : H o' with
      | none => simp [hc] at h
      | some c =>
        simp only [hc] at h
        split at h
        · rename_i he
          cases h
          have hq := hy.inv_v
          obtain ⟨h1, h2, h3, h4⟩ := hx.inv_ms
          obtain ⟨cap, r, e', f, hp, _⟩ := h4 c (hH _ _ hc) he
          refine Gives.same (key _ _ _ _ _ _ hp hq hj.1 hj.2) (.mp h1 rfl (fun c' hc' => ?_) (fun c' hc' he' => rfl))
          have := hH _ _ hc
          rw [this] at hc'
          cases hc'
          exact Nat.le_refl _
        · cases h
    · cases h
  · cases h

theorem shape_none {t : TypeId} (h : T.shape t = some none) (w : World) : (isAgg t).run T.P w = .ok false w := by
  unfold Tr.shape at h
  split at h
  · cases h
  · rename_i h1 h2
    unfold Tr.aggB at h1
    cases hu : T.P.underlying t with
    | none => simp [hu] at h1
    | some d =>
      simp only [hu, Option.map_some, Option.some.injEq] at h1
      unfold isAgg
      rw [Sem.run_bind, run_underlying hu]
      cases d <;> simp_all
  · cases h
theorem shape_some {t : TypeId} {n : Nat} (h : T.shape t = some (some n)) (w : World) : (isAgg t).run T.P w = .ok true w ∧ (Go.sizeOf t).run T.P w = .ok n w := by
  unfold Tr.shape at h
  split at h
  · rename_i m h1 h2
    cases h
    obtain ⟨i, hi, hs⟩ := size_spec h2
    refine ⟨?_, by rw [run_size hi, hs]⟩
    unfold Tr.aggB at h1
    cases hu : T.P.underlying t with
    | none => simp [hu] at h1
    | some d =>
      simp only [hu, Option.map_some, Option.some.injEq] at h1
      unfold isAgg
      rw [Sem.run_bind, run_underlying hu]
      cases d <;> simp_all
  · cases h
  · cases h

/-- A load of one cell or of several, out of a row of known cells. -/
theorem load_row {t : TypeId} {n : Option Nat} (hn : T.shape t = some n) {b base : Nat} {c : List AV} {us : Nat → Value} {o : Nat} {u : AV}
    (hc : ∀ i, i < c.length → X.w.cell? ⟨b, base + i, none⟩ = some (us i)) (hr : ∀ i (h : i < c.length), Rep ν X c[i] (us i))
    (h : (match n with | none => c[o]? | some n => if o + n ≤ c.length then some (.agg ((c.drop o).take n)) else none) = some u) :
    ∃ v, (loadVar t ⟨b, base + o, none⟩).run T.P X.w = .ok v X.w ∧ Rep ν X u v := by
  cases n with
  | none =>
    simp only at h
    obtain ⟨ho, hu⟩ := List.getElem?_eq_some_iff.1 h
    subst hu
    exact ⟨us o, by simp [loadVar, shape_none hn, hc o ho], hr o ho⟩
  | some n =>
    simp only at h
    split at h
    · rename_i hle
      cases h
      obtain ⟨h1, h2⟩ := shape_some hn X.w
      have hl := run_loadCells (P := T.P) X.w ⟨b, base + o, none⟩ n (fun j => us (o + j)) (fun j hj => by
        rw [addr_add, Nat.add_assoc]; exact hc (o + j) (by omega))
      refine ⟨.agg ((List.range n).map (fun j => us (o + j))).toArray, by simp only [loadVar, Sem.run_bind, h1, Result.andThen_ok, if_true, h2, hl, Sem.run_pure], ?_⟩
      refine .agg _ (by simp; omega) (fun i hi => ?_)
      have hin : i < n := by simp at hi; omega
      have e1 : ((List.range n).map (fun j => us (o + j))).toArray.getD i undef = us (o + i) := by simp [hin]
      rw [e1]
      have e2 : ((c.drop o).take n)[i] = c[o + i]'(by omega) := by simp
      rw [e2]
      exact hr (o + i) (by omega)
    · cases h

theorem s_ld {t : TypeId} {n : Option Nat} {x u : AV} {p : Value} {o : Oper} {a : Act} {c1 : Operand} (ho : o.op = .load t c1) (e1 : a.eval c1 = p) (hn : T.shape t = some n)
    {H : Hp} (hH : ∀ o c, H o = some c → X.H o = some c) {B : Nat} (hO : Objs ν B X) (h : pLd H n [x] = some u) (hx : Rep ν X x p) : Gives ν T.P X (execOp a.eval o) u := by
  have key : ∀ b off v, p = .pointer (some ⟨b, off, none⟩) → (loadVar t ⟨b, off, none⟩).run T.P X.w = .ok v X.w → (execOp a.eval o).run T.P X.w = .ok (.value v) X.w := by
    intro b off v hp hl
    subst hp
    simp [execOp, ho, Instr.loadAt, e1, Instr.sureAddr, hl]
  unfold pLd at h
  split at h
  · rename_i c o' heq
    simp only [List.cons.injEq, and_true] at heq
    subst heq
    obtain ⟨b, base, us, hp, hS, hc, hr⟩ := hx.inv_ptr
    obtain ⟨v, h1, h2⟩ := load_row hn hc (fun i h => .pure (hr i h)) h
    exact Gives.same (key _ _ _ hp h1) h2
  · rename_i o' q l heq
    simp only [List.cons.injEq, and_true] at heq
    subst heq
    cases hc : H o' with
    | none => simp [hc] at h
    | some c =>
      simp only [hc] at h
      split at h
      · rename_i he
        obtain ⟨h1, h2, h3, h4⟩ := hx.inv_mp
        have hp := h4 c (hH _ _ hc) he
        obtain ⟨_, _, r, e, hr, hle, hrep⟩ := hO.obj _ _ (hH _ _ hc)
        obtain ⟨v, h5, h6⟩ := load_row (ν := ν) (X := X) (base := 0) (o := q) (us := fun i => r.getD i undef) hn (b := X.β o') (c := c) (fun i hi => by
          rw [Nat.zero_add, cell_of_row _ _ _ _ _ _ hr]; have : i < r.size := by omega
          simp [this]) hrep h
        rw [Nat.zero_add] at h5
        exact Gives.same (key _ _ _ hp h5) h6
      · cases h
  · cases h

theorem s_nck {x u : AV} {p : Value} {o : Oper} {a : Act} {c1 : Operand} (ho : o.op = .nilCheck c1) (e1 : a.eval c1 = p) {H : Hp} (hH : ∀ o c, H o = some c → X.H o = some c) (h : pNck H [x] = some u) (hx : Rep ν X x p) : Gives ν T.P X (execOp a.eval o) u := by
  unfold pNck at h
  split at h
  · rename_i c o' heq
    simp only [List.cons.injEq, and_true] at heq
    subst heq
    cases h
    obtain ⟨b, base, us, hp, _⟩ := hx.inv_ptr
    subst hp
    exact Gives.same (by simp [execOp, ho, e1]) hx
  · rename_i o' q l heq
    simp only [List.cons.injEq, and_true] at heq
    subst heq
    cases hc : H o' with
    | none => simp [hc] at h
    | some c =>
      simp only [hc] at h
      split at h
      · rename_i he
        cases h
        obtain ⟨h1, h2, h3, h4⟩ := hx.inv_mp
        have hp := h4 c (hH _ _ hc) he
        subst hp
        exact Gives.same (by simp [execOp, ho, e1]) hx
      · cases h
  · rename_i i c heq
    simp only [List.cons.injEq, and_true] at heq
    subst heq
    cases h
    obtain ⟨vs, hp, _⟩ := hx.inv_fn
    subst hp
    exact Gives.same (by simp [execOp, ho, e1]) hx
  · cases h

theorem s_ext {i : Nat} {x u : AV} {p : Value} {o : Oper} {a : Act} {c1 : Operand} (ho : o.op = .extract c1 i) (e1 : a.eval c1 = p) (h : pExt i [x] = some u) (hx : Rep ν X x p) : Gives ν T.P X (execOp a.eval o) u := by
  unfold pExt at h
  split at h
  · rename_i l heq
    simp only [List.cons.injEq, and_true] at heq
    subst heq
    obtain ⟨vs, rfl, hs, hr⟩ := hx.inv_tup
    obtain ⟨hi, hu⟩ := List.getElem?_eq_some_iff.1 h
    subst hu
    have := hr i hi
    refine Gives.same (v := vs.getD i undef) ?_ this
    have hi' : i < vs.size := by omega
    simp [execOp, ho, e1, Instr.extract, hi']
  · cases h

theorem s_fld {st : TypeId} {fields : Array Field} {fl : Field} {f : Nat} {n : Option Nat} {x u : AV} {p : Value} {o : Oper} {a : Act} {c1 : Operand} (ho : o.op = .field st c1 f) (e1 : a.eval c1 = p)
    (ht : T.P.underlying st = some (.struct fields)) (hf : fields[f]? = some fl) (hn : T.shape fl.type = some n) (h : pFld fl.offset n [x] = some u) (hx : Rep ν X x p) : Gives ν T.P X (execOp a.eval o) u := by
  unfold pFld at h
  split at h
  · rename_i c heq
    simp only [List.cons.injEq, and_true] at heq
    subst heq
    obtain ⟨vs, rfl, hs, hr⟩ := hx.inv_agg
    cases n with
    | none =>
      simp only at h
      obtain ⟨hi, hu⟩ := List.getElem?_eq_some_iff.1 h
      subst hu
      have hi' : fl.offset < vs.size := by omega
      refine Gives.same (v := vs.getD fl.offset undef) ?_ (hr _ hi)
      simp [execOp, ho, e1, Instr.field, run_underlying ht, hf, asAgg, part, shape_none hn, hi']
    | some n =>
      simp only at h
      split at h
      · rename_i hle
        cases h
        obtain ⟨h1, h2⟩ := shape_some hn X.w
        refine Gives.same (v := .agg (vs.extract fl.offset (fl.offset + n))) ?_ (.agg _ (by simp; omega) (fun i hi => ?_))
        · simp [execOp, ho, e1, Instr.field, run_underlying ht, hf, asAgg, part, h1, h2]
        · have hin : i < n := by simp at hi; omega
          have e2 : ((c.drop fl.offset).take n)[i] = c[fl.offset + i]'(by omega) := by simp
          rw [e2]
          have e3 : (vs.extract fl.offset (fl.offset + n)).getD i undef = vs.getD (fl.offset + i) undef := by
            have h6 : fl.offset + i < vs.size := by omega
            have h7 : i < (vs.extract fl.offset (fl.offset + n)).size := by simp; omega
            rw [Array.getD_eq_getD_getElem?, Array.getElem?_eq_getElem h7]; simp [h6]
          rw [e3]
          exact hr _ _
      · cases h
  · cases h

theorem avI_some {a : AV} {i : Int} (h : avI a = some i) : a = .v (.int .i64 i) := by
  unfold avI at h
  split at h
  · cases h; rfl
  · cases h

theorem run_eqFields {w : World} {d : Nat} {vs us : Array Value} : ∀ (fs : List Field) (k : Nat) (l m : List Int), T.fieldsB k fs = true → l.length = fs.length → m.length = fs.length → (∀ j (h : j < l.length), vs[k + j]? = some (.int .i64 l[j])) → (∀ j (h : j < m.length), us[k + j]? = some (.int .i64 m[j])) →
    (Op.eqFields (d + 1) vs us fs).run T.P w = .ok (l == m) w := by
  intro fs
  induction fs with
  | nil =>
    intro k l m _ hl hm _ _
    have : l = [] := List.eq_nil_of_length_eq_zero hl
    subst this
    have : m = [] := List.eq_nil_of_length_eq_zero hm
    subst this
    simp [Op.eqFields]
  | cons f fs ih =>
    intro k l m hB hl hm hv hu
    simp only [Tr.fieldsB, Bool.and_eq_true, bne_iff_ne, ne_eq, beq_iff_eq] at hB
    obtain ⟨⟨⟨⟨h1, h2⟩, h3⟩, h4⟩, h5⟩ := hB
    cases l with
    | nil => simp at hl
    | cons a l =>
      cases m with
      | nil => simp at hm
      | cons b m =>
        have ht : T.P.underlying f.type = some (.int .i64) := by
          split at h3
          · assumption
          · cases h3
        have hn : T.shape f.type = some none := by
          split at h4
          · assumption
          · cases h4
        have va := hv 0 (by simp)
        have ub := hu 0 (by simp)
        simp only [Nat.add_zero, List.getElem_cons_zero] at va ub
        have ih' := ih (k + 1) l m h5 (by simpa using hl) (by simpa using hm) (fun j hj => by have := hv (j + 1) (by simpa using hj); rw [show k + 1 + j = k + (j + 1) by omega]; simpa using this) (fun j hj => by have := hu (j + 1) (by simpa using hj); rw [show k + 1 + j = k + (j + 1) by omega]; simpa using this)
        have pv : (part f.type vs f.offset).run T.P w = .ok (.int .i64 a) w := by simp [part, shape_none hn, h2, va]
        have pu : (part f.type us f.offset).run T.P w = .ok (.int .i64 b) w := by simp [part, shape_none hn, h2, ub]
        simp only [Op.eqFields, h1, not_false_eq_true, if_true, Sem.run_bind, pv, pu, Result.andThen_ok, run_equalIn_int w d f.type .i64 .i64 a b ht, ne_eq]
        by_cases e : a = b
        · subst e
          simp [ih']
        · have : (a == b) = false := by simpa using e
          simp [this]

theorem s_eqs {op : BinOp} {t t' : TypeId} {x y u : AV} {p q : Value} {o : Oper} {a : Act} {c1 c2 : Operand} (ho : o.op = .binOp op t c1 c2 t') (e1 : a.eval c1 = p) (e2 : a.eval c2 = q) (hs : T.isStruct t = true) (hB : T.intsB t = true) (hop : op = .eql ∨ op = .neq)
    (h : pEqs (op == .neq) (T.P.fieldsOf t).size [x, y] = some u) (hx : Rep ν X x p) (hy : Rep ν X y q) : Gives ν T.P X (execOp a.eval o) u := by
  have hu : T.P.underlying t = some (.struct (T.P.fieldsOf t)) := by
    unfold Tr.isStruct at hs
    unfold Program.fieldsOf
    split at hs
    · rename_i fs hf; simp only [hf]
    · cases hs
  simp only [Tr.intsB, Bool.and_eq_true, Bool.not_eq_true'] at hB
  obtain ⟨⟨hb1, hb2⟩, hb3⟩ := hB
  unfold pEqs at h
  split at h
  · rename_i xs ys heq
    simp only [List.cons.injEq, and_true] at heq
    obtain ⟨rfl, rfl⟩ := heq
    obtain ⟨vs, rfl, hs1, hr1⟩ := hx.inv_agg
    obtain ⟨us, rfl, hs2, hr2⟩ := hy.inv_agg
    split at h
    · rename_i l m hl hm
      split at h
      · rename_i hlen
        cases h
        obtain ⟨l1, l2⟩ := mapM_some hl
        obtain ⟨m1, m2⟩ := mapM_some hm
        have key := run_eqFields (T := T) (w := X.w) (d := 9998) (vs := vs) (us := us) (T.P.fieldsOf t).toList 0 l m hb1 (by simp; omega) (by simp; omega) (fun j hj => by
          have := hr1 j (by omega)
          rw [avI_some (l2 j (by omega) hj)] at this
          have h6 := this.inv_v
          have h7 : j < vs.size := by omega
          rw [Nat.zero_add, Array.getElem?_eq_getElem h7]
          simpa [h7] using h6) (fun j hj => by
          have := hr2 j (by omega)
          rw [avI_some (m2 j (by omega) hj)] at this
          have h6 := this.inv_v
          have h7 : j < us.size := by omega
          rw [Nat.zero_add, Array.getElem?_eq_getElem h7]
          simpa [h7] using h6)
        have keq : (Op.equalIn 10000 t (.agg vs) (.agg us)).run T.P X.w = .ok (l == m) X.w := (run_equalIn_agg X.w 9999 t vs us hu hb2).trans key
        rcases hop with rfl | rfl
        · refine Gives.same (v := .bool (l == m)) ?_ (by
            have : ((l == m) != (BinOp.eql == BinOp.neq)) = (l == m) := by cases (l == m) <;> rfl
            rw [this]; exact .pure (.v _))
          simp only [execOp, ho, e1, e2, Sem.run_bind, run_eqGuard_agg X.w _ t _ _ vs us hb3, Result.andThen_ok, run_eql_struct, keq, Sem.run_pure]
        · refine Gives.same (v := .bool (!(l == m))) ?_ (by
            have : ((l == m) != (BinOp.neq == BinOp.neq)) = !(l == m) := by cases (l == m) <;> rfl
            rw [this]; exact .pure (.v _))
          simp only [execOp, ho, e1, e2, Sem.run_bind, run_eqGuard_agg X.w _ t _ _ vs us hb3, Result.andThen_ok, run_neq_struct, keq, Sem.run_pure]
      · cases h
    · cases h
  · cases h

theorem s_eqb {op : BinOp} {t t' : TypeId} {x y u : AV} {p q : Value} {o : Oper} {a : Act} {c1 c2 : Operand} (ho : o.op = .binOp op t c1 c2 t') (e1 : a.eval c1 = p) (e2 : a.eval c2 = q) (hs : T.isBool t = true) (hop : op = .eql ∨ op = .neq)
    (h : pEqb (op == .neq) [x, y] = some u) (hx : Rep ν X x p) (hy : Rep ν X y q) : Gives ν T.P X (execOp a.eval o) u := by
  have hu : T.P.underlying t = some .bool := by
    unfold Tr.isBool at hs
    split at hs
    · assumption
    · cases hs
  unfold pEqb at h
  split at h
  · rename_i b c heq
    simp only [List.cons.injEq, and_true] at heq
    obtain ⟨rfl, rfl⟩ := heq
    cases h
    have := hx.inv_v
    subst this
    have := hy.inv_v
    subst this
    rcases hop with rfl | rfl
    · refine Gives.same (v := .bool (b == c)) ?_ (by
        have : ((b == c) != (BinOp.eql == BinOp.neq)) = (b == c) := by cases (b == c) <;> rfl
        rw [this]; exact .pure (.v _))
      simp [execOp, ho, e1, e2, eqGuard, binOp, run_equal_bool X.w t b c hu]
    · refine Gives.same (v := .bool (!(b == c))) ?_ (by
        have : ((b == c) != (BinOp.neq == BinOp.neq)) = !(b == c) := by cases (b == c) <;> rfl
        rw [this]; exact .pure (.v _))
      simp [execOp, ho, e1, e2, eqGuard, binOp, run_equal_bool X.w t b c hu]
  · cases h
end
end Go.Av
