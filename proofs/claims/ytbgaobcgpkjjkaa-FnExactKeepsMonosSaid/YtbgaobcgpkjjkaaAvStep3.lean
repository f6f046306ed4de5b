/-
  Calls; one operation of the compact code, whichever it is.
-/
import Derived.Test.YtbgaobcgpkjjkaaAvStep2
namespace Go.Av
open Go.RowKit (Below)

/-- What is read of values and objects that the call made: all in new memory. -/
theorem frzN_new {ν : Nat → FuncId} {B : Nat} {X : Cx} (hO : Objs ν B X) {H : Hp} (hH : ∀ o c, H o = some c → X.H o = some c) : ∀ (k : Nat) (x y : AV) (v : Value), frzN H k x = some y → Rep ν X x v → RepP ν X.w (fun b => B ≤ b ∧ b < X.w.heap.size) y v := by
  intro k
  induction k with
  | zero =>
    intro x y v h hx
    cases x <;> simp [frzN] at h <;> subst h <;> first | (obtain ⟨b, rfl⟩ := hx.inv_nil; exact .sl0 _ _) | (rw [hx.inv_v]; exact .v _)
  | succ k ih =>
    intro x y v h hx
    have list : ∀ (c c' : List AV) (vs : Array Value), c.mapM (frzN H k) = some c' → (∀ i (h : i < c.length), Rep ν X c[i] (vs.getD i undef)) → c'.length = c.length ∧ ∀ i (h : i < c'.length), RepP ν X.w (fun b => B ≤ b ∧ b < X.w.heap.size) c'[i] (vs.getD i undef) := by
      intro c c' vs hm hr
      obtain ⟨h1, h2⟩ := mapM_some hm
      exact ⟨h1, fun i hi => ih _ _ _ (h2 i (by omega) hi) (hr i (by omega))⟩
    cases x with
    | v x => simp [frzN] at h; subst h; rw [hx.inv_v]; exact .v _
    | nil => simp [frzN] at h; subst h; obtain ⟨b, rfl⟩ := hx.inv_nil; exact .sl0 _ _
    | sl c n => simp [frzN] at h
    | ptr c n => simp [frzN] at h
    | fn id c => simp [frzN] at h
    | ms o off n sz =>
      simp only [frzN] at h
      cases hc : H o with
      | none => simp [hc] at h
      | some c =>
        simp only [hc] at h
        split at h
        · rename_i he
          cases hm : c.mapM (frzN H k) with
          | none => rw [hm] at h; cases h
          | some c' =>
            rw [hm] at h; cases h
            obtain ⟨h1, h2, h3, h4⟩ := hx.inv_ms
            obtain ⟨cap, r, e, f, hp, hn, _⟩ := h4 c (hH _ _ hc) he
            obtain ⟨_, hB, r', e', hr', hl', hrep⟩ := hO.obj _ _ (hH _ _ hc)
            obtain ⟨h5, h6⟩ := list c c' r' hm hrep
            subst hp
            refine .sl (fun i => r'.getD (off + i) undef) ⟨hB, (Array.getElem?_eq_some_iff.1 hr').1⟩ hn (fun i hi => ?_) (fun i hi => ?_)
            · have : off + i < r'.size := by simp at hi; omega
              rw [cell_of_row _ _ _ _ _ _ hr']
              simp [this]
            · have := h6 (off + i) (by simp at hi; omega)
              simpa using this
        · cases h
    | mp o off l =>
      simp only [frzN] at h
      cases hc : H o with
      | none => simp [hc] at h
      | some c =>
        simp only [hc] at h
        split at h
        · rename_i he
          cases hm : c.mapM (frzN H k) with
          | none => rw [hm] at h; cases h
          | some c' =>
            rw [hm] at h; cases h
            obtain ⟨h1, h2, h3, h4⟩ := hx.inv_mp
            have hp := h4 c (hH _ _ hc) he
            obtain ⟨_, hB, r', e', hr', hl', hrep⟩ := hO.obj _ _ (hH _ _ hc)
            obtain ⟨h5, h6⟩ := list c c' r' hm hrep
            subst hp
            have := RepP.ptr (ν := ν) (w := X.w) (S := fun b => B ≤ b ∧ b < X.w.heap.size) (cells := c') (off := off) (b := X.β o) (base := 0) (fun i => r'.getD i undef) ⟨hB, (Array.getElem?_eq_some_iff.1 hr').1⟩ (fun i hi => by
              have : i < r'.size := by omega
              rw [Nat.zero_add, cell_of_row _ _ _ _ _ _ hr']
              simp [this]) h6
            rwa [Nat.zero_add] at this
        · cases h
    | agg c =>
      simp only [frzN] at h
      cases hm : c.mapM (frzN H k) with
      | none => rw [hm] at h; cases h
      | some c' =>
        rw [hm] at h; cases h
        obtain ⟨vs, rfl, hs, hr⟩ := hx.inv_agg
        obtain ⟨h1, h2⟩ := list c c' vs hm hr
        exact .agg vs (by omega) h2
    | tup c =>
      simp only [frzN] at h
      cases hm : c.mapM (frzN H k) with
      | none => rw [hm] at h; cases h
      | some c' =>
        rw [hm] at h; cases h
        obtain ⟨vs, rfl, hs, hr⟩ := hx.inv_tup
        obtain ⟨h1, h2⟩ := list c c' vs hm hr
        exact .tup vs (by omega) h2

/-- A clean value stands for the same in every context that has the same new objects. -/
theorem cln_rep {ν : Nat → FuncId} {X Y : Cx} {nx : Nat} (hw : Y.w = X.w) (hn : X.nx ≤ Y.nx) (hH : ∀ o, nx ≤ o → Y.H o = X.H o) (hβ : ∀ o, nx ≤ o → Y.β o = X.β o) : ∀ (k : Nat) (x : AV) (v : Value), cln nx k x = true → Rep ν X x v → Rep ν Y x v := by
  have base : ∀ (x : AV) (v : Value), cln nx 0 x = true → Rep ν X x v → Rep ν Y x v := by
    intro x v h hx
    cases x with
    | v x => rw [hx.inv_v]; exact .pure (.v _)
    | nil => obtain ⟨b, rfl⟩ := hx.inv_nil; exact .pure (.nil _)
    | ms o off n sz =>
      have ho : nx ≤ o := by simpa [cln] using h
      obtain ⟨h1, h2, h3, h4⟩ := hx.inv_ms
      exact .ms (by omega) h2 (by rw [hH o ho]; exact h3) (by rw [hH o ho, hβ o ho, hw]; exact h4)
    | mp o off l =>
      have ho : nx ≤ o := by simpa [cln] using h
      obtain ⟨h1, h2, h3, h4⟩ := hx.inv_mp
      exact .mp (by omega) h2 (by rw [hH o ho]; exact h3) (by rw [hH o ho, hβ o ho]; exact h4)
    | _ => simp [cln] at h
  intro k
  induction k with
  | zero => exact base
  | succ k ih =>
    intro x v h hx
    cases x with
    | agg c =>
      simp only [cln, List.all_eq_true] at h
      obtain ⟨vs, rfl, hs, hr⟩ := hx.inv_agg
      exact .agg vs hs (fun i hi => ih _ _ (h _ (List.getElem_mem _)) (hr i hi))
    | tup c =>
      simp only [cln, List.all_eq_true] at h
      obtain ⟨vs, rfl, hs, hr⟩ := hx.inv_tup
      exact .tup vs hs (fun i hi => ih _ _ (h _ (List.getElem_mem _)) (hr i hi))
    | v x => exact base _ _ rfl hx
    | nil => exact base _ _ rfl hx
    | ms o off n sz => exact base _ _ (by simpa [cln] using h) hx
    | mp o off l => exact base _ _ (by simpa [cln] using h) hx
    | _ => simp [cln] at h

section
variable {ν : Nat → FuncId} {N : Nat} {w0 : World} {S : Nat → Prop} {X0 : Cx} {s : St} {a : Act} {w : World} {β : Nat → Nat} {P : Program} {o : Oper} {K : St → Prop}

theorem run_call {f : Operand} {args : Array Operand} {tys : Array TypeId} {id : Nat} {cvs : Array Value} (ho : o.op = .call { callee := .value f, args, argTypes := tys }) (hf : a.eval f = .func (.func (ν id)) #[] cvs) (hE : Enters P (ν id)) :
    (execOp a.eval o).run P w = .ok (.enter (ν id) (args.map a.eval ++ cvs)) w := by
  obtain ⟨fn, h1, h2, h3⟩ := hE
  have h4 : fn.body ≠ none := by intro hb; rw [hb] at h2; cases h2
  have h5 : fn.name ≠ "runtime.NumGoroutine" := by simpa using h3
  simp [execOp, ho, resolve, hf, Deferred.ofValue, invoke, callFunc, h1, h5, h4]

/-- The values that a call hands over stand for the frozen readings. -/
theorem call_args {T : Tr} (hν : ∀ f id, T.num f = some id → ν id = f) (h : Sim ν N w0 S X0 s a w β) {H : Hp} (hH : ∀ o c, H o = some c → s.heap o = some c) {f : Operand} {f' : Opd} {args : Array Operand} {xs : List Opd} (hf : T.opd f = some f') (hxs : T.opds args.toList = some xs)
    {fc : Nat × List AV} (hfc : fnOf (ev s.env f') = some fc) {ys : List AV} (hys : frzL H (xs.map (ev s.env) ++ fc.2) = some ys) :
    ∃ cvs, a.eval f = .func (.func (ν fc.1)) #[] cvs ∧ ArgsOk ν w ys (args.map a.eval ++ cvs) := by
  have hr := opd_sound (T := T) hν h.env hf
  unfold fnOf at hfc
  split at hfc
  · rename_i id caps hev
    cases hfc
    rw [hev] at hr
    obtain ⟨cvs, hc1, hc2, hc3⟩ := hr.inv_fn
    refine ⟨cvs, hc1, ?_⟩
    simp only at hys
    obtain ⟨h1, h2⟩ := mapM_some hys
    obtain ⟨h3, h4⟩ := mapM_some hxs
    have hlen : (args.map a.eval ++ cvs).size = ys.length := by simp only [Array.size_append, Array.size_map, h1, List.length_append, List.length_map, h3, hc2, Array.length_toList]
    refine ⟨hlen, fun i hi => ?_⟩
    have hi' : i < (xs.map (ev s.env) ++ caps).length := by omega
    have hfz := h2 i hi' hi
    refine frz_all (X := ⟨β, s.heap, s.next, w, S⟩) h.objs hH _ _ _ _ hfz ?_
    by_cases hlt : i < xs.length
    · rw [List.getElem_append_left (by simpa using hlt)]
      have hia : i < args.size := by simp at h3; omega
      have e1 : (args.map a.eval ++ cvs).getD i undef = a.eval args[i] := by
        rw [Array.getD_eq_getD_getElem?, Array.getElem?_append_left (by simpa using hia)]
        simp [hia]
      rw [e1]
      simp only [List.getElem_map]
      have := h4 i (by simpa using hia) hlt
      exact opd_sound (T := T) hν h.env (by simpa using this)
    · rw [List.getElem_append_right (by simpa using Nat.le_of_not_lt hlt)]
      have hsz : (args.map a.eval).size = xs.length := by simp at h3; simp; omega
      have hic : i - xs.length < caps.length := by simp at hi'; omega
      have e1 : (args.map a.eval ++ cvs).getD i undef = cvs.getD (i - xs.length) undef := by
        rw [Array.getD_eq_getD_getElem?, Array.getElem?_append_right (by omega), hsz]
        simp
      rw [e1]
      have := hc3 (i - xs.length) hic
      simpa using this
  · cases hfc


/-- A context without objects, in which all that lies in memory can be read. -/
theorem objs_frozen (ν : Nat → FuncId) (β : Nat → Nat) (nx : Nat) (w : World) : Objs ν w.heap.size ⟨β, hempty, nx, w, fun _ => True⟩ :=
  ⟨(fun o c hc => by cases hc), (fun o o' c c' hc => by cases hc), Nat.le_refl _, fun _ _ => trivial⟩

theorem args_frozen {ys : List AV} {vs : Array Value} (h : ArgsOk ν w ys vs) (β : Nat → Nat) (nx : Nat) : ∀ i (hi : i < ys.length), Rep ν ⟨β, hempty, nx, w, fun _ => True⟩ ys[i] (vs.getD i undef) :=
  fun i hi => .pure ((h.2 i hi).mono (fun b hb => ⟨⟨hb, trivial⟩, (fun o c hc => by cases hc)⟩) (fun _ _ => rfl))

theorem g_call {T : Tr} (hν : ∀ f id, T.num f = some id → ν id = f) (h : Sim ν N w0 S X0 s a w β) (hd : ∀ k, o.dst = some k → k < N) {H : Hp} (hH : ∀ o c, H o = some c → s.heap o = some c) {f : Operand} {f' : Opd} {args : Array Operand} {tys : Array TypeId} {xs : List Opd}
    (ho : o.op = .call { callee := .value f, args, argTypes := tys }) (hf : T.opd f = some f') (hxs : T.opds args.toList = some xs)
    {fc : Nat × List AV} (hfc : fnOf (ev s.env f') = some fc) {ys : List AV} (hys : frzL H (xs.map (ev s.env) ++ fc.2) = some ys) {r : AV} (hc : Fz (OkM P ν) fc.1 ys r) (hK : K (s.put o.dst r)) : Goes ν N w0 S X0 P o a w K := by
  obtain ⟨cvs, hev, hargs⟩ := call_args hν h hH hf hxs hfc hys
  have hrun := run_call (P := P) (w := w) ho hev hc.1
  intro Q
  unfold Oper.wp
  rw [hrun]
  refine (hc.2 w (fun _ => True) β w _ (objs_frozen ν β 0 w) (Below.refl _ _) hargs.1 (args_frozen hargs β 0)).mono ?_
  rintro e w' ⟨v, r', H', nx', β', rfl, hfz, hrep, hobj, hext, hb⟩
  have hs := h.later hb
  have hr := frzN_new hobj (fun _ _ h => h) _ _ _ _ hfz hrep
  refine ⟨_, β, hK, hs.put (.pure (hr.mono (fun b hb' => ⟨⟨hb'.2, h.objs.new b (Nat.le_trans h.objs.le hb'.1)⟩, fun k c hk => ?_⟩) (fun _ _ => rfl))) hd⟩
  have := h.objs.lt k c hk
  simp only at this ⊢
  have h2 := hb'.1
  omega

/-- The values that a call over the same objects hands over. -/
theorem call_args_m {T : Tr} (hν : ∀ f id, T.num f = some id → ν id = f) (h : Sim ν N w0 S X0 s a w β) {f : Operand} {f' : Opd} {args : Array Operand} {xs : List Opd} (hf : T.opd f = some f') (hxs : T.opds args.toList = some xs)
    {fc : Nat × List AV} (hfc : fnOf (ev s.env f') = some fc) :
    ∃ cvs, a.eval f = .func (.func (ν fc.1)) #[] cvs ∧ (args.map a.eval ++ cvs).size = (xs.map (ev s.env) ++ fc.2).length ∧ ∀ i (hi : i < (xs.map (ev s.env) ++ fc.2).length), Rep ν ⟨β, s.heap, s.next, w, S⟩ (xs.map (ev s.env) ++ fc.2)[i] ((args.map a.eval ++ cvs).getD i undef) := by
  have hr := opd_sound (T := T) hν h.env hf
  unfold fnOf at hfc
  split at hfc
  · rename_i id caps hev
    cases hfc
    rw [hev] at hr
    obtain ⟨cvs, hc1, hc2, hc3⟩ := hr.inv_fn
    refine ⟨cvs, hc1, ?_⟩
    obtain ⟨h3, h4⟩ := mapM_some hxs
    have hlen : (args.map a.eval ++ cvs).size = (xs.map (ev s.env) ++ caps).length := by simp only [Array.size_append, Array.size_map, List.length_append, List.length_map, h3, hc2, Array.length_toList]
    refine ⟨hlen, fun i hi' => ?_⟩
    simp only at hi' ⊢
    by_cases hlt : i < xs.length
    · rw [List.getElem_append_left (by simpa using hlt)]
      have hia : i < args.size := by simp at h3; omega
      have e1 : (args.map a.eval ++ cvs).getD i undef = a.eval args[i] := by
        rw [Array.getD_eq_getD_getElem?, Array.getElem?_append_left (by simpa using hia)]
        simp [hia]
      rw [e1]
      simp only [List.getElem_map]
      have := h4 i (by simpa using hia) hlt
      exact opd_sound (T := T) hν h.env (by simpa using this)
    · rw [List.getElem_append_right (by simpa using Nat.le_of_not_lt hlt)]
      have hsz : (args.map a.eval).size = xs.length := by simp at h3; simp; omega
      have hic : i - xs.length < caps.length := by simp at hi'; omega
      have e1 : (args.map a.eval ++ cvs).getD i undef = cvs.getD (i - xs.length) undef := by
        rw [Array.getD_eq_getD_getElem?, Array.getElem?_append_right (by omega), hsz]
        simp
      rw [e1]
      have := hc3 (i - xs.length) hic
      simpa using this
  · cases hfc

theorem g_callm {T : Tr} (hν : ∀ f id, T.num f = some id → ν id = f) (h : Sim ν N w0 S X0 s a w β) (hd : ∀ k, o.dst = some k → k < N) {f : Operand} {f' : Opd} {args : Array Operand} {tys : Array TypeId} {xs : List Opd}
    (ho : o.op = .call { callee := .value f, args, argTypes := tys }) (hf : T.opd f = some f') (hxs : T.opds args.toList = some xs)
    {fc : Nat × List AV} (hfc : fnOf (ev s.env f') = some fc) {Φ : AV → Hp → Nat → Prop} (hc : OkM P ν fc.1 (xs.map (ev s.env) ++ fc.2) s.heap s.next Φ) (hK : ∀ r H' nx', Φ r H' nx' → K ((⟨s.env, H', nx'⟩ : St).put o.dst r)) : Goes ν N w0 S X0 P o a w K := by
  obtain ⟨cvs, hev, hsz, hargs⟩ := call_args_m hν h hf hxs hfc
  have hrun := run_call (P := P) (w := w) ho hev hc.1
  intro Q
  unfold Oper.wp
  rw [hrun]
  refine (hc.2 w0 S β w _ h.objs h.below hsz hargs).mono ?_
  rintro e w' ⟨v, r', H', nx', β', rfl, hΦ, hrep, hobj, hext, hb⟩
  have hs : Sim ν N w0 S X0 ⟨s.env, H', nx'⟩ a w' β' := ⟨fun t => (h.env t).mono hext, h.size, h.defers, hobj, hb, h.ext.trans hext⟩
  exact ⟨_, β', hK _ _ _ hΦ, hs.put hrep hd⟩

theorem g_callo {T : Tr} (hν : ∀ f id, T.num f = some id → ν id = f) (h : Sim ν N w0 S X0 s a w β) (hd : ∀ k, o.dst = some k → k < N) {f : Operand} {f' : Opd} {args : Array Operand} {tys : Array TypeId} {xs : List Opd}
    (ho : o.op = .call { callee := .value f, args, argTypes := tys }) (hf : T.opd f = some f') (hxs : T.opds args.toList = some xs)
    {fc : Nat × List AV} (hfc : fnOf (ev s.env f') = some fc) {ys : List AV} (hys : frzL s.heap (xs.map (ev s.env) ++ fc.2) = some ys) {Φ : AV → Hp → Nat → Prop} (hc : OkM P ν fc.1 ys hempty s.next Φ)
    (hK : ∀ r H' nx', Φ r H' nx' → cln s.next fuel r = true ∧ clnH s.next H' ∧ K ((⟨s.env, hmerge s.next s.heap H', nx'⟩ : St).put o.dst r)) : Goes ν N w0 S X0 P o a w K := by
  obtain ⟨cvs, hev, hargs⟩ := call_args hν h (fun _ _ h => h) hf hxs hfc hys
  have hrun := run_call (P := P) (w := w) ho hev hc.1
  intro Q
  unfold Oper.wp
  rw [hrun]
  refine (hc.2 w (fun _ => True) β w _ (objs_frozen ν β s.next w) (Below.refl _ _) hargs.1 (args_frozen hargs β s.next)).mono ?_
  rintro e w' ⟨v, r', H', nx', β', rfl, hΦ, hrep, hobj, hext, hb⟩
  obtain ⟨hcl, hclH, hK'⟩ := hK _ _ _ hΦ
  have hnx : s.next ≤ nx' := hext.nx
  have hlive : ∀ k c, s.heap k = some c → k < s.next ∧ β k < w.heap.size := fun k c hk => ⟨(h.objs.obj k c hk).1, h.objs.lt k c hk⟩
  have hnew : ∀ k c, H' k = some c → s.next ≤ k := fun k c hk => by
    rcases Nat.lt_or_ge k s.next with hlt | hge
    · obtain ⟨c0, hc0, _⟩ := hext.obj k c hlt hk
      cases hc0
    · exact hge
  have hYH : ∀ o', s.next ≤ o' → hmerge s.next s.heap H' o' = H' o' := fun o' ho' => by simp only [hmerge]; rw [if_neg (by omega)]
  have hYL : ∀ o', o' < s.next → hmerge s.next s.heap H' o' = s.heap o' := fun o' ho' => by simp only [hmerge]; rw [if_pos ho']
  have tr : ∀ (k : Nat) (x : AV) (v : Value), cln s.next k x = true → Rep ν ⟨β', H', nx', w', fun _ => True⟩ x v → Rep ν ⟨fun k => if k < s.next then β k else β' k, hmerge s.next s.heap H', nx', w', S⟩ x v :=
    cln_rep (X := ⟨β', H', nx', w', fun _ => True⟩) (Y := ⟨fun k => if k < s.next then β k else β' k, hmerge s.next s.heap H', nx', w', S⟩) rfl (Nat.le_refl _) hYH (fun o' ho' => by simp only; rw [if_neg (by omega)])
  have hx : Ext ⟨β, s.heap, s.next, w, S⟩ ⟨fun k => if k < s.next then β k else β' k, hmerge s.next s.heap H', nx', w', S⟩ := by
    refine ⟨hnx, fun b' hb' => ⟨⟨Nat.lt_of_lt_of_le hb'.1.1 hb.size, hb'.1.2⟩, fun k c' hk => ?_⟩, fun b' hb' => hb.block b' hb'.1.1, fun k c' hk hc' => ?_⟩
    · simp only at hk ⊢
      by_cases e1 : k < s.next
      · rw [hYL k e1] at hk
        rw [if_pos e1]
        exact hb'.2 k c' hk
      · rw [hYH k (by omega)] at hk
        rw [if_neg e1]
        have h1 := (hobj.obj k c' hk).2.1
        have h2 := hb'.1.1
        simp only at h1 h2
        omega
    · simp only at hk hc'
      rw [hYL k hk] at hc'
      exact ⟨c', hc', .inr ⟨rfl, by simp only [if_pos hk], fun r' e' f' hr' => ⟨r', e', f', by show w'.heap[β k]? = _; rw [hb.block _ (hlive k c' hc').2]; exact hr', rfl⟩⟩⟩
  have hsim : Sim ν N w0 S X0 ⟨s.env, hmerge s.next s.heap H', nx'⟩ a w' (fun k => if k < s.next then β k else β' k) := by
    refine ⟨fun t => (h.env t).mono hx, h.size, h.defers, ⟨fun k c' hk => ?_, fun k k' c1 c2 hk hk' he => ?_, Nat.le_trans h.objs.le hb.size, h.objs.new⟩, h.below.trans (hb.mono h.le), h.ext.trans hx⟩
    · simp only at hk ⊢
      by_cases e1 : k < s.next
      · rw [hYL k e1] at hk
        obtain ⟨h1, h2, r2, e2, hr2, hl2, hrep2⟩ := h.objs.obj k c' hk
        simp only at h1 h2 hr2
        exact ⟨by omega, by rw [if_pos e1]; exact h2, r2, e2, by rw [if_pos e1, hb.block _ (hlive k c' hk).2]; exact hr2, hl2, fun i hi => (hrep2 i hi).mono hx⟩
      · rw [hYH k (by omega)] at hk
        obtain ⟨h1, h2, r2, e2, hr2, hl2, hrep2⟩ := hobj.obj k c' hk
        simp only at h1 h2 hr2
        refine ⟨h1, by rw [if_neg e1]; exact Nat.le_trans h.le h2, r2, e2, by rw [if_neg e1]; exact hr2, hl2, fun i hi => tr 0 _ _ ?_ (hrep2 i hi)⟩
        exact List.all_eq_true.1 (hclH k c' hk) _ (List.getElem_mem _)
    · simp only at hk hk' he
      by_cases e1 : k < s.next
      · rw [hYL k e1] at hk
        have g1 := (hlive k c1 hk).2
        by_cases e2 : k' < s.next
        · rw [hYL k' e2] at hk'
          rw [if_pos e1, if_pos e2] at he
          exact h.objs.inj k k' c1 c2 hk hk' he
        · rw [hYH k' (by omega)] at hk'
          rw [if_pos e1, if_neg e2] at he
          have := (hobj.obj k' c2 hk').2.1
          simp only at this
          omega
      · rw [hYH k (by omega)] at hk
        have g1 := (hobj.obj k c1 hk).2.1
        simp only at g1
        by_cases e2 : k' < s.next
        · rw [hYL k' e2] at hk'
          rw [if_neg e1, if_pos e2] at he
          have := (hlive k' c2 hk').2
          omega
        · rw [hYH k' (by omega)] at hk'
          rw [if_neg e1, if_neg e2] at he
          exact hobj.inj k k' c1 c2 hk hk' he
  exact ⟨_, _, hK', hsim.put (tr _ _ _ hcl hrep) hd⟩
end
end Go.Av
