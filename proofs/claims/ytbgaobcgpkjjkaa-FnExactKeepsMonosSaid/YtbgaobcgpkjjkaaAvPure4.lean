/-
  All the value operations in one.
-/
import Derived.Test.YtbgaobcgpkjjkaaAvPure3
namespace Go.Av
open Go.RowKit (Below)

theorem map_some {α β : Type} {f : α → β} {x : Option α} {y : β} (h : x.map f = some y) : ∃ z, x = some z ∧ f z = y := by
  cases x with
  | none => cases h
  | some z => cases h; exact ⟨z, rfl, rfl⟩
theorem bind_some {α β : Type} {f : α → Option β} {x : Option α} {y : β} (h : x.bind f = some y) : ∃ z, x = some z ∧ f z = some y := by
  cases x with
  | none => cases h
  | some z => exact ⟨z, rfl, h⟩

theorem pure_sound {T : Tr} {ν : Nat → FuncId} (hν : ∀ f id, T.num f = some id → ν id = f) {X : Cx} {env : Nat → AV} {a : Act} (henv : ∀ t, Rep ν X (env t) (a.tmps.getD t undef))
    {B : Nat} (hO : Objs ν B X) {H : Hp} (hH : ∀ o c, H o = some c → X.H o = some c) {o : Oper} {q : PO × List Opd} (h : T.pure o.op = some q) {u : AV} (hp : pvf H q.1 (q.2.map (ev env)) = some u) :
    Gives ν T.P X (execOp a.eval o) u := by
  have R : ∀ {x : Operand} {x' : Opd}, T.opd x = some x' → Rep ν X (ev env x') (a.eval x) := fun h => opd_sound hν henv h
  have RL : ∀ {l : List Operand} {xs : List Opd}, T.opds l = some xs → (xs.map (ev env)).length = l.length ∧ ∀ i (h : i < (xs.map (ev env)).length) (h' : i < l.length), Rep ν X (xs.map (ev env))[i] (a.eval l[i]) := by
    intro l xs hl
    obtain ⟨h1, h2⟩ := mapM_some hl
    refine ⟨by simpa using h1, fun i hi hi' => ?_⟩
    simp only [List.getElem_map]
    exact R (h2 i hi' (by simpa using hi))
  cases ho : o.op with
  | move x =>
    rw [ho] at h
    obtain ⟨xs, hx, rfl⟩ := map_some h
    obtain ⟨x', rfl, hx'⟩ := opds1 hx
    simp only [pvf, List.map_cons, List.map_nil, List.getElem?_cons_zero, Option.some.injEq] at hp
    subst hp
    exact Gives.same (by simp [execOp, ho]) (R hx')
  | assign x =>
    rw [ho] at h
    obtain ⟨xs, hx, rfl⟩ := map_some h
    obtain ⟨x', rfl, hx'⟩ := opds1 hx
    simp only [pvf, List.map_cons, List.map_nil, List.getElem?_cons_zero, Option.some.injEq] at hp
    subst hp
    exact Gives.same (by simp [execOp, ho]) (R hx')
  | pick c x y =>
    rw [ho] at h
    obtain ⟨xs, hx, rfl⟩ := map_some h
    obtain ⟨c', x', y', rfl, hc', hx', hy'⟩ := opds3 hx
    exact s_pick ho rfl rfl rfl hp (R hc') (R hx') (R hy')
  | binOp op t x y t' =>
    rw [ho] at h
    simp only [Tr.pure] at h
    split at h
    · rename_i hs
      split at h
      · rename_i hc
        simp only [Bool.and_eq_true, Bool.or_eq_true, beq_iff_eq] at hc
        obtain ⟨xs, hx, rfl⟩ := map_some h
        obtain ⟨x', y', rfl, hx', hy'⟩ := opds2 hx
        exact s_eqs ho rfl rfl hs hc.1 hc.2 hp (R hx') (R hy')
      · cases h
    · split at h
      · rename_i hs
        split at h
        · rename_i hc
          simp only [Bool.or_eq_true, beq_iff_eq] at hc
          obtain ⟨xs, hx, rfl⟩ := map_some h
          obtain ⟨x', y', rfl, hx', hy'⟩ := opds2 hx
          exact s_eqb ho rfl rfl hs hc hp (R hx') (R hy')
        · cases h
      obtain ⟨xs, hx, rfl⟩ := map_some h
      obtain ⟨x', y', rfl, hx', hy'⟩ := opds2 hx
      exact s_bin ho rfl rfl hp (R hx') (R hy')
  | unOp op t x =>
    rw [ho] at h
    cases op <;> simp only [Tr.pure, reduceCtorEq] at h
    obtain ⟨xs, hx, rfl⟩ := map_some h
    obtain ⟨x', rfl, hx'⟩ := opds1 hx
    exact s_not ho rfl hp (R hx')
  | call c =>
    rw [ho] at h
    obtain ⟨callee, args, argTypes⟩ := c
    cases callee with
    | value f => simp [Tr.pure] at h
    | invoke r m => simp [Tr.pure] at h
    | builtin b =>
      cases b <;> simp only [Tr.pure, reduceCtorEq] at h
      split at h
      · rename_i x t hargs htys
        obtain ⟨e, he, h⟩ := bind_some h
        obtain ⟨xs, hx, rfl⟩ := map_some h
        obtain ⟨x', rfl, hx'⟩ := opds1 hx
        have ha : args = #[x] := by rw [← Array.toArray_toList (xs := args), hargs]
        have ht : argTypes = #[t] := by rw [← Array.toArray_toList (xs := argTypes), htys]
        subst ha
        subst ht
        exact s_len ho rfl (elem_spec he) hH hp (R hx')
      · cases h
  | fieldAddr st x f =>
    rw [ho] at h
    simp only [Tr.pure] at h
    split at h
    · rename_i fields hu
      split at h
      · rename_i fl hf
        split at h
        · rename_i m hs
          obtain ⟨xs, hx, rfl⟩ := map_some h
          obtain ⟨x', rfl, hx'⟩ := opds1 hx
          exact s_fad ho rfl hu hf hs hH hp (R hx')
        · cases h
      · cases h
    · cases h
  | indexAddr t x i =>
    rw [ho] at h
    simp only [Tr.pure] at h
    obtain ⟨e, he, h⟩ := bind_some h
    obtain ⟨sz, hs, h⟩ := bind_some h
    obtain ⟨xs, hx, rfl⟩ := map_some h
    obtain ⟨x', y', rfl, hx', hy'⟩ := opds2 hx
    exact s_iad ho rfl rfl he hs hH hp (R hx') (R hy')
  | load t x =>
    rw [ho] at h
    simp only [Tr.pure] at h
    obtain ⟨n, hn, h⟩ := bind_some h
    obtain ⟨xs, hx, rfl⟩ := map_some h
    obtain ⟨x', rfl, hx'⟩ := opds1 hx
    exact s_ld ho rfl hn hH hO hp (R hx')
  | nilCheck x =>
    rw [ho] at h
    obtain ⟨xs, hx, rfl⟩ := map_some h
    obtain ⟨x', rfl, hx'⟩ := opds1 hx
    exact s_nck ho rfl hH hp (R hx')
  | extract x i =>
    rw [ho] at h
    obtain ⟨xs, hx, rfl⟩ := map_some h
    obtain ⟨x', rfl, hx'⟩ := opds1 hx
    exact s_ext ho rfl hp (R hx')
  | field st x f =>
    rw [ho] at h
    simp only [Tr.pure] at h
    split at h
    · rename_i fields hu
      split at h
      · rename_i fl hf
        obtain ⟨n, hn, h⟩ := bind_some h
        obtain ⟨xs, hx, rfl⟩ := map_some h
        obtain ⟨x', rfl, hx'⟩ := opds1 hx
        exact s_fld ho rfl hu hf hn hp (R hx')
      · cases h
    · cases h
  | build t parts =>
    rw [ho] at h
    simp only [Tr.pure] at h
    split at h
    · rename_i fields hu
      obtain ⟨z, hz, h⟩ := bind_some h
      obtain ⟨ps, hps, h⟩ := bind_some h
      split at h
      · rename_i hall
        obtain ⟨xs, hx, rfl⟩ := map_some h
        obtain ⟨h1, h2⟩ := RL hx
        exact s_mka (T := T) ho hu hz hps hall (by simpa using h1) (fun i hi hi' => by
          have := h2 i hi (by simpa using hi')
          simpa using this) hp
      · cases h
    · cases h
  | buildSlice t len parts =>
    rw [ho] at h
    simp only [Tr.pure] at h
    obtain ⟨e, he, h⟩ := bind_some h
    obtain ⟨sz, hs, h⟩ := bind_some h
    obtain ⟨z, hz, h⟩ := bind_some h
    split at h
    · rename_i hc
      obtain ⟨xs, hx, rfl⟩ := map_some h
      obtain ⟨h1, h2⟩ := RL hx
      exact s_msl (T := T) ho he hs hz hc.1 hc.2.1 hc.2.2 (by simpa using h1) (fun i hi hi' => by
        have := h2 i hi (by simpa using hi')
        simpa using this) hO hp
    · cases h
  | box t x =>
    rw [ho] at h
    obtain ⟨xs, hx, rfl⟩ := map_some h
    obtain ⟨x', rfl, hx'⟩ := opds1 hx
    exact s_box ho rfl hp (R hx') hO
  | slice t x lo hi mx =>
    rw [ho] at h
    cases mx with
    | some m => simp [Tr.pure] at h
    | none =>
      simp only [Tr.pure] at h
      obtain ⟨e, he, h⟩ := bind_some h
      obtain ⟨sz, hs, h⟩ := bind_some h
      obtain ⟨xs, hx, rfl⟩ := map_some h
      obtain ⟨h1, h2⟩ := RL hx
      cases xs with
      | nil => simp at h1
      | cons y ys =>
        exact s_slc ho he hs (by have := h2 0 (by simp) (by simp); simpa using this) (by simpa using h1) (fun i hi hi' => by
          have := h2 (i + 1) (by simpa using hi) (by simpa using hi')
          simpa using this) hp
  | makeFunc fn first captured =>
    rw [ho] at h
    cases fn <;> simp only [Tr.pure, reduceCtorEq] at h
    split at h
    · rename_i f hsz
      obtain ⟨id, hid, h⟩ := bind_some h
      obtain ⟨xs, hx, rfl⟩ := map_some h
      obtain ⟨h1, h2⟩ := RL hx
      have hf : first = #[] := Array.eq_empty_of_size_eq_zero hsz
      subst hf
      exact s_mkf (T := T) ho (hν _ _ hid) (by simpa using h1) (fun i hi hi' => by
        have := h2 i hi (by simpa using hi')
        simpa using this) hp
    · cases h
  | _ => rw [ho] at h; simp [Tr.pure] at h

end Go.Av
