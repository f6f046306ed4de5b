/-
  One operation of the compact code, whichever it is.
-/
import Derived.Test.YtbgaobcgpkjjkaaAvStep3
namespace Go.Av
open Go.RowKit (Below)

section
variable {ν : Nat → FuncId} {N : Nat} {w0 : World} {S : Nat → Prop} {X0 : Cx} {s : St} {a : Act} {w : World} {β : Nat → Nat} {o : Oper} {K : St → Prop}

theorem pure_step {T : Tr} (hν : ∀ f id, T.num f = some id → ν id = f) (h : Sim ν N w0 S X0 s a w β) (hd : ∀ k, o.dst = some k → k < N) {q : PO × List Opd} (hq : T.pure o.op = some q) {g : Option (Nat × Bool)} {hf : Bool}
    (hs : stepK (OkM T.P ν) ⟨o.dst, g, .p q.1 q.2, hf⟩ s K) : Goes ν N w0 S X0 T.P o a w K := by
  simp only [stepK] at hs
  obtain ⟨u, hu, hK⟩ := hs
  refine g_pure h hd (pure_sound hν h.env h.objs (H := if hf = true then s.heap else hempty) ?_ hq hu) hK
  intro o c hc
  cases hf
  · simp [hempty] at hc
  · simpa using hc

theorem kind_sound {T : Tr} (hν : ∀ f id, T.num f = some id → ν id = f) (h : Sim ν N w0 S X0 s a w β) (hd : ∀ k, o.dst = some k → k < N) {k : AK} (hk : T.kind o = some k) {g : Option (Nat × Bool)} {hf : Bool}
    (hs : stepK (OkM T.P ν) ⟨o.dst, g, k, hf⟩ s K) : Goes ν N w0 S X0 T.P o a w K := by
  have R : ∀ {x : Operand} {x' : Opd}, T.opd x = some x' → Rep ν ⟨β, s.heap, s.next, w, S⟩ (ev s.env x') (a.eval x) := fun h' => opd_sound hν h.env h'
  have RL : ∀ {l : List Operand} {xs : List Opd}, T.opds l = some xs → (xs.map (ev s.env)).length = l.length ∧ ∀ i (h : i < (xs.map (ev s.env)).length) (h' : i < l.length), Rep ν ⟨β, s.heap, s.next, w, S⟩ (xs.map (ev s.env))[i] (a.eval l[i]) := by
    intro l xs hl
    obtain ⟨h1, h2⟩ := mapM_some hl
    refine ⟨by simpa using h1, fun i hi hi' => ?_⟩
    simp only [List.getElem_map]
    exact R (h2 i hi' (by simpa using hi))
  have pureCase : (T.pure o.op).map (fun p => AK.p p.1 p.2) = some k → Goes ν N w0 S X0 T.P o a w K := by
    intro hp
    obtain ⟨q, hq, rfl⟩ := map_some hp
    exact pure_step hν h hd hq hs
  unfold Tr.kind at hk
  split at hk
  · rename_i f args tys ho
    obtain ⟨f', hf', hk⟩ := bind_some hk
    obtain ⟨xs, hxs, hk⟩ := bind_some hk
    split at hk
    · cases hk
      simp only [stepK] at hs
      obtain ⟨fc, hfc, ys, hys, r, hr, hK⟩ := hs
      refine g_call hν h hd (H := if hf = true then s.heap else hempty) ?_ ho hf' hxs hfc hys hr hK
      intro o c hc
      cases hf
      · simp [hempty] at hc
      · simpa using hc
    · cases hk
      simp only [stepK] at hs
      obtain ⟨_, fc, hfc, Φ, hC, _, hK⟩ := hs
      exact g_callm hν h hd ho hf' hxs hfc hC hK
    · cases hk
      simp only [stepK] at hs
      obtain ⟨_, fc, hfc, ys, hys, Φ, hC, _, hK⟩ := hs
      exact g_callo hν h hd ho hf' hxs hfc hys hC hK
    · cases hk
  · rename_i args tys ho
    split at hk
    · rename_i x y t t' hargs htys
      split at hk
      · rename_i htt
        subst htt
        obtain ⟨e, he, hk⟩ := bind_some hk
        split at hk
        · rename_i i z hi hz
          split at hk
          · rename_i hc
            obtain ⟨hc1, hc2, hc3⟩ := hc
            obtain ⟨x', hx', hk⟩ := bind_some hk
            obtain ⟨y', hy', hk⟩ := map_some hk
            subst hk
            simp only [stepK] at hs
            obtain ⟨_, cm, hcm, h1, r, hr, hK⟩ := hs
            have ha : args = #[x, y] := by rw [← Array.toList_inj]; exact hargs
            have ht : tys = #[t, t] := by rw [← Array.toList_inj]; exact htys
            subst ha; subst ht
            exact g_app rfl ho he hi hz hc1 hc2 hc3 (R hx') (R hy') h hd hcm h1 hr hK
          · cases hk
        · cases hk
      · cases hk
    · cases hk
  · rename_i t x y ho
    obtain ⟨n, hn, hk⟩ := bind_some hk
    obtain ⟨x', hx', hk⟩ := bind_some hk
    obtain ⟨y', hy', hk⟩ := map_some hk
    subst hk
    simp only [stepK] at hs
    obtain ⟨_, hp, hst, hK⟩ := hs
    exact g_st rfl ho hn (R hx') (R hy') h hd hst hK
  · rename_i t ho
    obtain ⟨z, hz, hk⟩ := map_some hk
    subst hk
    simp only [stepK] at hs
    exact g_new rfl ho hz h hd hs.2
  · rename_i t x ho
    split at hk
    · obtain ⟨n, hn, hk⟩ := bind_some hk
      obtain ⟨x', hx', hk⟩ := map_some hk
      subst hk
      simp only [stepK] at hs
      exact g_boxm ho (R hx') hs.2.1 h hd hs.2.2
    · exact pureCase hk
  · rename_i t l c ho
    obtain ⟨e, he, hk⟩ := bind_some hk
    split at hk
    · rename_i i z hi hz
      split at hk
      · rename_i hc
        obtain ⟨x', hx', hk⟩ := bind_some hk
        obtain ⟨y', hy', hk⟩ := map_some hk
        subst hk
        simp only [stepK] at hs
        obtain ⟨_, r, hr, hK⟩ := hs
        exact g_mks rfl ho he hi hz hc.1 hc.2 (R hx') (R hy') h hd hr hK
      · cases hk
    · cases hk
  · rename_i t len parts ho
    split at hk
    · obtain ⟨e, he, hk⟩ := bind_some hk
      obtain ⟨sz, hsz, hk⟩ := bind_some hk
      obtain ⟨z, hz, hk⟩ := bind_some hk
      split at hk
      · rename_i hc
        obtain ⟨xs, hx, hk⟩ := map_some hk
        subst hk
        simp only [stepK] at hs
        obtain ⟨_, r, hr, hK⟩ := hs
        obtain ⟨h1, h2⟩ := RL hx
        exact g_mslm rfl ho he hsz hz hc.1 hc.2.1 (by simpa using h1) (fun i hi hi' => by
          have := h2 i hi (by simpa using hi')
          simpa using this) h hd hr hK
      · cases hk
    · exact pureCase hk
  · exact pureCase hk
end
end Go.Av
