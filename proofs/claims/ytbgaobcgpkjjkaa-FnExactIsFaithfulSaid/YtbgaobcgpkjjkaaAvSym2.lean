/-
  What is shown of the second form holds of the first.
-/
import Derived.Test.YtbgaobcgpkjjkaaAvSym
namespace Go.Av

structure Rl (g : Sg) (vars : Nat → AV) (n : Nat) (e : Nat → AV) : Prop where
  val : ∀ t a, g.σ t = some a → ev vars a = e t
  lt : ∀ t i, g.σ t = some (.t i) → i < n
  kn : ∀ i b, (i, b) ∈ g.ρ → vars i = .v (.bool b) ∧ i < n

theorem mapM_some' {α β : Type} {f : α → Option β} : ∀ {l : List α} {l' : List β}, l.mapM f = some l' → l'.length = l.length ∧ ∀ i (h : i < l.length) (h' : i < l'.length), f l[i] = some l'[i]
  | [], l', h => by simp at h; subst h; exact ⟨rfl, fun i h => by simp at h⟩
  | a :: l, l', h => by
    simp only [List.mapM_cons, Option.pure_def, Option.bind_eq_bind] at h
    cases ha : f a with
    | none => simp [ha] at h
    | some b =>
      cases hl : l.mapM f with
      | none => simp [ha, hl] at h
      | some bs =>
        simp [ha, hl] at h
        subst h
        obtain ⟨h1, h2⟩ := mapM_some' hl
        refine ⟨by simp [h1], fun i h h' => ?_⟩
        cases i with
        | zero => exact ha
        | succ i => exact h2 i (by simpa using h) (by simpa using h')

section
variable {g : Sg} {vars e : Nat → AV} {n : Nat}

theorem Rl.opd (h : Rl g vars n e) {x x' : Opd} (hx : g.opd x = some x') : ev vars x' = ev e x := by
  cases x with
  | t i => exact h.val i x' hx
  | c a => cases hx; rfl
  | f i => cases hx; rfl
theorem Rl.opds (h : Rl g vars n e) {xs xs' : List Opd} (hx : g.opds xs = some xs') : xs'.map (ev vars) = xs.map (ev e) := by
  obtain ⟨h1, h2⟩ := mapM_some' hx
  refine List.ext_getElem (by simp [h1]) fun i hi hi' => ?_
  simp only [List.getElem_map]
  exact h.opd (h2 i (by simpa using hi') (by simpa using hi))
theorem Rl.opdLt (h : Rl g vars n e) {x : Opd} {i : Nat} (hx : g.opd x = some (.t i)) : i < n := by
  cases x with
  | t j => exact h.lt j i hx
  | c a => cases hx
  | f j => cases hx

theorem mem_of_lookup {i : Nat} {b : Bool} : ∀ {l : List (Nat × Bool)}, l.lookup i = some b → (i, b) ∈ l
  | [], h => by cases h
  | (j, c) :: l, h => by
    simp only [List.lookup] at h
    split at h
    · rename_i e1
      cases h
      have : i = j := by simpa using e1
      subst this
      exact List.mem_cons_self ..
    · exact List.mem_cons_of_mem _ (mem_of_lookup h)

theorem Rl.known (h : Rl g vars n e) {x : Opd} {b : Bool} (hx : g.tv x = some (.known b)) : ev vars x = .v (.bool b) := by
  cases x with
  | t i =>
    simp only [Sg.tv] at hx
    split at hx
    · rename_i b' hb; cases hx; exact (h.kn i b (mem_of_lookup hb)).1
    · cases hx
  | c a =>
    cases a with
    | v y => cases y <;> first | (cases hx; done) | (cases hx; rfl)
    | _ => cases hx
  | f i => cases hx
theorem tv_undef {x : Opd} (hx : g.tv x = some .undef) : ∃ y, ev vars x = .v y ∧ ∀ b, y ≠ .bool b := by
  cases x with
  | t i =>
    simp only [Sg.tv] at hx
    split at hx <;> cases hx
  | c a =>
    cases a with
    | v y => cases y <;> first | (cases hx; done) | exact ⟨_, rfl, fun b => by simp⟩
    | _ => cases hx
  | f i => cases hx
theorem tv_ask {x : Opd} {i : Nat} (hx : g.tv x = some (.ask i)) : x = .t i := by
  cases x with
  | t j =>
    simp only [Sg.tv] at hx
    split at hx <;> cases hx
    rfl
  | c a =>
    cases a with
    | v y => cases y <;> cases hx
    | _ => cases hx
  | f j => cases hx

theorem bindSome {α β : Type} {f : α → Option β} {x : Option α} {y : β} (h : x.bind f = some y) : ∃ z, x = some z ∧ f z = some y := by
  cases x with
  | none => cases h
  | some z => exact ⟨z, rfl, h⟩
theorem mapSome {α β : Type} {f : α → β} {x : Option α} {y : β} (h : x.map f = some y) : ∃ z, x = some z ∧ f z = y := by
  cases x with
  | none => cases h
  | some z => cases h; exact ⟨z, rfl, rfl⟩

/-- A slot gets a value that is known already. -/
theorem Rl.put (h : Rl g vars n e) {x : Opd} (hlt : ∀ i, x = .t i → i < n) (s : St) (hs : s.env = e) (d : Option Nat) : Rl (g.put d (some x)) vars n (s.put d (ev vars x)).env := by
  subst hs
  cases d with
  | none => exact h
  | some k =>
    refine ⟨fun t a ht => ?_, fun t i ht => ?_, h.kn⟩
    · simp only [Sg.put] at ht
      simp only [St.put, Av.put]
      split at ht
      · rename_i e1; cases ht; rw [if_pos e1]
      · rename_i e1; rw [if_neg e1]; exact h.val t a ht
    · simp only [Sg.put] at ht
      split at ht
      · cases ht; exact hlt i rfl
      · exact h.lt t i ht

/-- A new value with the next number. -/
theorem Rl.next (h : Rl g vars n e) (u : AV) (s : St) (hs : s.env = e) (d : Option Nat) : Rl (g.put d (some (.t n))) (Av.put vars n u) (n + 1) (s.put d u).env := by
  subst hs
  have base : ∀ t a, g.σ t = some a → ev (Av.put vars n u) a = s.env t := fun t a ht => by
    rw [← h.val t a ht]
    cases a with
    | t i => have := h.lt t i ht; simp only [ev, Av.put]; rw [if_neg (by omega)]
    | _ => rfl
  have kn : ∀ i b, (i, b) ∈ g.ρ → Av.put vars n u i = .v (.bool b) ∧ i < n + 1 := fun i b hi => by
    obtain ⟨h1, h2⟩ := h.kn i b hi
    exact ⟨by simp only [Av.put]; rw [if_neg (by omega)]; exact h1, by omega⟩
  cases d with
  | none => exact ⟨base, fun t i ht => Nat.lt_succ_of_lt (h.lt t i ht), kn⟩
  | some k =>
    refine ⟨fun t a ht => ?_, fun t i ht => ?_, kn⟩
    · simp only [Sg.put] at ht
      simp only [St.put, Av.put]
      split at ht
      · rename_i e1; cases ht; rw [if_pos e1]; simp [ev, Av.put]
      · rename_i e1; rw [if_neg e1]; exact base t a ht
    · simp only [Sg.put] at ht
      split at ht
      · cases ht; exact Nat.lt_succ_self _
      · exact Nat.lt_succ_of_lt (h.lt t i ht)

theorem Rl.know (h : Rl g vars n e) {i : Nat} {b : Bool} (hi : i < n) (hb : vars i = .v (.bool b)) : Rl (g.know i b) vars n e :=
  ⟨h.val, h.lt, fun j c hj => by
    rcases List.mem_cons.1 hj with e1 | e1
    · cases e1; exact ⟨hb, hi⟩
    · exact h.kn j c e1⟩

theorem stepK_sub {C : Ct} {o : Aop} {s : St} {K K' : St → Prop} {ak : AK} (h : Rl g vars n s.env) (hs : o.k.sub g = some ak) (hd : stepK C ⟨some n, none, ak, o.h⟩ ⟨vars, s.heap, s.next⟩ K')
    (hK : ∀ u H' nx', K' ⟨put vars n u, H', nx'⟩ → K ((⟨s.env, H', nx'⟩ : St).put o.dst u)) : stepK C o s K := by
  obtain ⟨dst, gd, k, hf⟩ := o
  simp only at hs hK
  cases k with
  | p op xs =>
    obtain ⟨ys, hy, rfl⟩ := mapSome hs
    obtain ⟨u, hu, hk⟩ := hd
    simp only at hu
    rw [h.opds hy] at hu
    exact ⟨u, hu, hK u s.heap s.next hk⟩
  | call f xs =>
    obtain ⟨f', hf', hs⟩ := bindSome hs
    obtain ⟨ys, hy, rfl⟩ := mapSome hs
    obtain ⟨fc, h1, zs, h2, r, h3, hk⟩ := hd
    simp only at h1 h2
    rw [h.opds hy] at h2
    rw [h.opd hf'] at h1
    exact ⟨fc, h1, zs, h2, r, h3, hK r s.heap s.next hk⟩
  | callm f xs =>
    obtain ⟨f', hf', hs⟩ := bindSome hs
    obtain ⟨ys, hy, rfl⟩ := mapSome hs
    obtain ⟨h0, fc, h1, Φ, h2, h3, hk⟩ := hd
    simp only at h1 h2
    rw [h.opds hy] at h2
    rw [h.opd hf'] at h1
    exact ⟨h0, fc, h1, Φ, h2, h3, fun r H' nx' hr => hK r H' nx' (hk r H' nx' hr)⟩
  | callo f xs =>
    obtain ⟨f', hf', hs⟩ := bindSome hs
    obtain ⟨ys, hy, rfl⟩ := mapSome hs
    obtain ⟨h0, fc, h1, zs, h2, Φ, h3, h4, hk⟩ := hd
    simp only at h1 h2 h3
    rw [h.opds hy] at h2
    rw [h.opd hf'] at h1
    exact ⟨h0, fc, h1, zs, h2, Φ, h3, h4, fun r H' nx' hr => ⟨(hk r H' nx' hr).1, (hk r H' nx' hr).2.1, hK r _ nx' (hk r H' nx' hr).2.2⟩⟩
  | app sz x y =>
    obtain ⟨x', hx', hs⟩ := bindSome hs
    obtain ⟨y', hy', rfl⟩ := mapSome hs
    obtain ⟨h0, cm, h1, h2, r, h3, hk⟩ := hd
    simp only at h1 h3
    rw [h.opd hy'] at h1
    rw [h.opd hx'] at h3
    exact ⟨h0, cm, h1, h2, r, h3, hK _ _ _ hk⟩
  | st m x y =>
    obtain ⟨x', hx', hs⟩ := bindSome hs
    obtain ⟨y', hy', rfl⟩ := mapSome hs
    obtain ⟨h0, hp, h1, hk⟩ := hd
    simp only at h1
    rw [h.opd hy', h.opd hx'] at h1
    exact ⟨h0, hp, h1, hK _ _ _ hk⟩
  | new z =>
    cases hs
    exact ⟨hd.1, hK _ _ _ hd.2⟩
  | boxm x =>
    obtain ⟨x', hx', rfl⟩ := mapSome hs
    obtain ⟨h0, h1, hk⟩ := hd
    simp only at h1 hk
    rw [h.opd hx'] at h1 hk
    exact ⟨h0, h1, hK _ _ _ hk⟩
  | mks z x y =>
    obtain ⟨x', hx', hs⟩ := bindSome hs
    obtain ⟨y', hy', rfl⟩ := mapSome hs
    obtain ⟨h0, r, h1, hk⟩ := hd
    simp only at h1
    rw [h.opd hx', h.opd hy'] at h1
    exact ⟨h0, r, h1, hK _ _ _ hk⟩
  | mslm sz m z ps xs =>
    obtain ⟨ys, hy, rfl⟩ := mapSome hs
    obtain ⟨h0, r, h1, hk⟩ := hd
    simp only at h1
    rw [h.opds hy] at h1
    exact ⟨h0, r, h1, hK _ _ _ hk⟩

/-- What a continuation of the symbolic run must be good for. -/
def Good (C : Ct) (Φ : AV → Hp → Nat → Prop) (Is : Nat → Inv) (ms : List Nat) (g0 : Sg) (vars0 : Nat → AV) (n0 : Nat) (k : Sg → Nat → Option Vc) (K : St → Prop) : Prop :=
  ∀ g n V vars s, k g n = some V → Rl g vars n s.env → n0 ≤ n → (∀ i, i < n0 → vars i = vars0 i) → (∀ t, t ∉ ms → g.σ t = g0.σ t) → den C Φ V n vars s.heap s.next Is → K s

theorem put_σ {d : Option Nat} {x : Option Opd} {t : Nat} (h : ∀ k, d = some k → t ≠ k) : (g.put d x).σ t = g.σ t := by
  cases d with
  | none => rfl
  | some k => simp only [Sg.put]; rw [if_neg (h k rfl)]

theorem symStep_sound {C : Ct} {Φ : AV → Hp → Nat → Prop} {Is : Nat → Inv} {o : Aop} {k : Sg → Nat → Option Vc} {V : Vc} {s : St} {K : St → Prop} (h : Rl g vars n s.env) (hv : symStep o g n k = some V) (hd : den C Φ V n vars s.heap s.next Is)
    (hk : Good C Φ Is (match o.dst with | some d => [d] | none => []) g vars n k K) : stepK C o s K := by
  have hne : ∀ t, t ∉ (match o.dst with | some d => [d] | none => []) → ∀ k, o.dst = some k → t ≠ k := fun t ht k hk e => by
    rw [hk] at ht; exact ht (by simp [e])
  unfold symStep at hv
  cases hc : copyOf g o.k with
  | some x =>
    rw [hc] at hv
    have fin : ∀ u, ev vars x = u → (∀ i, x = .t i → i < n) → K (s.put o.dst u) := fun u hu hlt => by
      subst hu
      refine hk _ n V vars _ hv (h.put hlt s rfl o.dst) (Nat.le_refl _) (fun _ _ => rfl) (fun t ht => put_σ (hne t ht)) ?_
      cases o.dst <;> exact hd
    unfold copyOf at hc
    split at hc
    · rename_i x0 hk0
      unfold stepK
      simp only [hk0]
      exact ⟨_, rfl, fin _ (h.opd hc) (fun i e => h.opdLt (e ▸ hc))⟩
    · rename_i c a b hk0
      unfold stepK
      simp only [hk0]
      split at hc
      · rename_i ht
        obtain ⟨y, hy, ht⟩ := bindSome ht
        have hb := h.known ht
        rw [h.opd hy] at hb
        refine ⟨ev s.env a, ?_, fin _ (h.opd hc) (fun i e => h.opdLt (e ▸ hc))⟩
        simp [pvf, pPick, hb]
      · rename_i ht
        obtain ⟨y, hy, ht⟩ := bindSome ht
        have hb := h.known ht
        rw [h.opd hy] at hb
        refine ⟨ev s.env b, ?_, fin _ (h.opd hc) (fun i e => h.opdLt (e ▸ hc))⟩
        simp [pvf, pPick, hb]
      · cases hc
    · cases hc
  | none =>
    rw [hc] at hv
    obtain ⟨ak, hak, hv⟩ := bindSome hv
    obtain ⟨V', hV', rfl⟩ := mapSome hv
    refine stepK_sub h hak hd fun u H' nx' hu => ?_
    refine hk _ _ V' _ _ hV' (h.next u ⟨s.env, H', nx'⟩ rfl o.dst) (Nat.le_succ _) (fun i hi => ?_) (fun t ht => put_σ (hne t ht)) ?_
    · simp only [Av.put]; rw [if_neg (by omega)]
    · cases o.dst <;> exact hu

theorem symOp_sound {C : Ct} {Φ : AV → Hp → Nat → Prop} {Is : Nat → Inv} {o : Aop} {k : Sg → Nat → Option Vc} {V : Vc} {s : St} {K : St → Prop} (h : Rl g vars n s.env) (hv : symOp o g n k = some V) (hd : den C Φ V n vars s.heap s.next Is)
    (hk : Good C Φ Is (match o.dst with | some d => [d] | none => []) g vars n k K) : opK C o s K := by
  have hne : ∀ t, t ∉ (match o.dst with | some d => [d] | none => []) → ∀ k, o.dst = some k → t ≠ k := fun t ht k hk e => by
    rw [hk] at ht; exact ht (by simp [e])
  have skip : ∀ (g' : Sg) (V' : Vc), (∀ t, g'.σ t = g.σ t) → Rl g' vars n s.env → k (g'.put o.dst (some (.c (.v undef)))) n = some V' → den C Φ V' n vars s.heap s.next Is → K (s.put o.dst (.v undef)) := by
    intro g' V' hg hR hV hd'
    refine hk _ n V' vars _ hV (hR.put (x := .c (.v undef)) (fun i e => by cases e) s rfl o.dst) (Nat.le_refl _) (fun _ _ => rfl) (fun t ht => (put_σ (hne t ht)).trans (hg t)) ?_
    cases o.dst <;> exact hd'
  unfold symOp at hv
  unfold opK
  cases hg : o.g with
  | none => simp only [hg] at hv ⊢; exact symStep_sound h hv hd hk
  | some gw =>
    obtain ⟨sl, want⟩ := gw
    simp only [hg] at hv ⊢
    split at hv
    · rename_i b hb
      obtain ⟨x, hx, ht⟩ := bindSome hb
      have e1 := h.known ht
      rw [h.val sl x hx] at e1
      rw [e1]
      simp only
      split at hv
      · rename_i e2
        subst e2
        exact ⟨fun _ => symStep_sound h hv hd hk, fun e3 => by simp at e3⟩
      · rename_i e2
        exact ⟨fun e3 => absurd e3 e2, fun _ => skip g V (fun _ => rfl) h hv hd⟩
    · rename_i hb
      obtain ⟨x, hx, ht⟩ := bindSome hb
      obtain ⟨y, e1, e2⟩ := tv_undef (vars := vars) ht
      rw [h.val sl x hx] at e1
      rw [e1]
      cases y with
      | bool b => exact absurd rfl (e2 b)
      | _ => exact skip g V (fun _ => rfl) h hv hd
    · rename_i i hb
      obtain ⟨x, hx, ht⟩ := bindSome hb
      have e1 := tv_ask ht
      subst e1
      have hi := h.lt sl i hx
      have e2 := h.val sl (.t i) hx
      simp only [ev] at e2
      obtain ⟨y, hy, hv⟩ := bindSome hv
      obtain ⟨z, hz, hv⟩ := mapSome hv
      have yes : ∀ t, vars i = .v (.bool t) → t = want → den C Φ y n vars s.heap s.next Is → stepK C o s K := by
        intro t ht e3 hdy
        subst e3
        exact symStep_sound (h.know hi ht) hy hdy (fun g' n' V' vars' s' a1 a2 a3 a4 a5 a6 => hk g' n' V' vars' s' a1 a2 a3 a4 a5 a6)
      have no : ∀ t, vars i = .v (.bool t) → t = (!want) → den C Φ z n vars s.heap s.next Is → K (s.put o.dst (.v undef)) := by
        intro t ht e3 hdz
        subst e3
        exact skip (g.know i (!want)) z (fun _ => rfl) (h.know hi ht) hz hdz
      rw [← e2]
      cases want
      · simp only [Bool.false_eq_true, if_false] at hv
        subst hv
        simp only [den] at hd
        split at hd
        · rename_i t ht
          rw [ht]
          exact ⟨fun e3 => yes t ht e3 (hd.2 e3), fun e3 => no t ht e3 (hd.1 (by simpa using e3))⟩
        · exact hd.elim
      · simp only [if_true] at hv
        subst hv
        simp only [den] at hd
        split at hd
        · rename_i t ht
          rw [ht]
          exact ⟨fun e3 => yes t ht e3 (hd.1 e3), fun e3 => no t ht e3 (hd.2 (by simpa using e3))⟩
        · exact hd.elim
    · cases hv

theorem symOps_sound {C : Ct} {Φ : AV → Hp → Nat → Prop} {Is : Nat → Inv} : ∀ (l : List Aop) {g : Sg} {vars : Nat → AV} {n : Nat} {k : Sg → Nat → Option Vc} {V : Vc} {s : St} {K : St → Prop}, Rl g vars n s.env → symOps l g n k = some V → den C Φ V n vars s.heap s.next Is →
    Good C Φ Is (dsts l) g vars n k K → opsK C l s K := by
  intro l
  induction l with
  | nil => intro g vars n k V s K h hv hd hk; exact hk g n V vars s hv h (Nat.le_refl _) (fun _ _ => rfl) (fun _ _ => rfl) hd
  | cons o r ih =>
    intro g vars n k V s K h hv hd hk
    refine symOp_sound h hv hd fun g' n' V' vars' s' a1 a2 a3 a4 a5 a6 => ?_
    refine ih a2 a1 a6 fun g2 n2 V2 vars2 s2 b1 b2 b3 b4 b5 b6 => hk g2 n2 V2 vars2 s2 b1 b2 (by omega) (fun i hi => (b4 i (by omega)).trans (a4 i hi)) (fun t ht => ?_) b6
    simp only [dsts, List.mem_append, not_or] at ht
    exact (b5 t ht.2).trans (a5 t ht.1)
end

theorem puts_lo : ∀ (us : List AV) (vars : Nat → AV) (n i : Nat), i < n → puts vars n us i = vars i := by
  intro us
  induction us with
  | nil => intro vars n i _; rfl
  | cons u us ih => intro vars n i hi; simp only [puts]; rw [ih _ _ _ (by omega)]; simp only [put]; rw [if_neg (by omega)]
theorem puts_at : ∀ (us : List AV) (vars : Nat → AV) (n j : Nat) (hj : j < us.length), puts vars n us (n + j) = us[j] := by
  intro us
  induction us with
  | nil => intro vars n j hj; simp at hj
  | cons u us ih =>
    intro vars n j hj
    simp only [puts]
    cases j with
    | zero => rw [puts_lo _ _ _ _ (by omega)]; simp [put]
    | succ j => rw [show n + (j + 1) = n + 1 + j by omega, ih _ _ _ (by simpa using hj)]; simp

theorem idxOf_spec {t : Nat} : ∀ {l : List Nat} {i : Nat}, l.idxOf? t = some i → ∃ h : i < l.length, l[i] = t := by
  intro l
  induction l with
  | nil => intro i h; simp at h
  | cons a l ih =>
    intro i h
    simp only [List.idxOf?_cons] at h
    split at h
    · rename_i e1
      cases h
      exact ⟨by simp, by simpa using e1⟩
    · obtain ⟨j, hj, e2⟩ := mapSome h
      subst e2
      obtain ⟨h1, h2⟩ := ih hj
      exact ⟨by simpa using h1, by simpa using h2⟩

theorem sym_sound {C : Ct} {Φ : AV → Hp → Nat → Prop} {ex : List Nat} : ∀ (c : Cd) (d : Nat) (k : Kt) (g : Sg) (vars : Nat → AV) (n : Nat) (V : Vc) (s : St) (Is : Nat → Inv) (Q : Ex → St → Prop), Rl g vars n s.env → sym ex d c k g n = some V → den C Φ V n vars s.heap s.next Is →
    (∀ e Is', (∀ j, j < d → Is' j = Is j) → Good C Φ Is' (mods c) g vars n (k e) (Q e)) → vc C c Q s := by
  intro c
  induction c with
  | skip => intro d k g vars n V s Is Q h hv hd hk; exact hk .normal Is (fun _ _ => rfl) g n V vars s hv h (Nat.le_refl _) (fun _ _ => rfl) (fun _ _ => rfl) hd
  | label => intro d k g vars n V s Is Q h hv hd hk; exact hk .normal Is (fun _ _ => rfl) g n V vars s hv h (Nat.le_refl _) (fun _ _ => rfl) (fun _ _ => rfl) hd
  | ret => intro d k g vars n V s Is Q h hv hd hk; exact hk .ret Is (fun _ _ => rfl) g n V vars s hv h (Nat.le_refl _) (fun _ _ => rfl) (fun _ _ => rfl) hd
  | exit id => intro d k g vars n V s Is Q h hv hd hk; exact hk (.exit id) Is (fun _ _ => rfl) g n V vars s hv h (Nat.le_refl _) (fun _ _ => rfl) (fun _ _ => rfl) hd
  | reg ops dr => intro d k g vars n V s Is Q h hv hd hk; exact symOps_sound ops h hv hd (hk .normal Is (fun _ _ => rfl))
  | scope b ih => intro d k g vars n V s Is Q h hv hd hk; exact ih d k g vars n V s Is Q h hv hd hk
  | both a b iha ihb =>
    intro d k g vars n V s Is Q h hv hd hk
    obtain ⟨y, hy, hv⟩ := bindSome hv
    obtain ⟨z, hz, rfl⟩ := mapSome hv
    exact ⟨iha d k g vars n y s Is Q h hy hd.1 fun e Is' hIs g2 n2 V2 vars2 s2 b1 b2 b3 b4 b5 b6 => hk e Is' hIs g2 n2 V2 vars2 s2 b1 b2 b3 b4 (fun t ht => b5 t (fun h' => ht (List.mem_append_left _ h'))) b6,
      ihb d k g vars n z s Is Q h hz hd.2 fun e Is' hIs g2 n2 V2 vars2 s2 b1 b2 b3 b4 b5 b6 => hk e Is' hIs g2 n2 V2 vars2 s2 b1 b2 b3 b4 (fun t ht => b5 t (fun h' => ht (List.mem_append_right _ h'))) b6⟩
  | seq a b iha ihb =>
    intro d k g vars n V s Is Q h hv hd hk
    refine iha d _ g vars n V s Is _ h hv hd fun e Is' hIs g' n' V' vars' s' a1 a2 a3 a4 a5 a6 => ?_
    have others : ∀ e, k e g' n' = some V' → Q e s' := fun e a1 => hk e Is' hIs g' n' V' vars' s' a1 a2 a3 a4 (fun t ht => a5 t (fun h' => ht (List.mem_append_left _ h'))) a6
    cases e with
    | normal =>
      refine ihb d k g' vars' n' V' s' Is' Q a2 a1 a6 fun e Is2 hIs2 g2 n2 V2 vars2 s2 b1 b2 b3 b4 b5 b6 => ?_
      refine hk e Is2 (fun j hj => (hIs2 j hj).trans (hIs j hj)) g2 n2 V2 vars2 s2 b1 b2 (by omega) (fun i hi => (b4 i (by omega)).trans (a4 i hi)) (fun t ht => ?_) b6
      simp only [mods, List.mem_append, not_or] at ht
      exact (b5 t ht.2).trans (a5 t ht.1)
    | exit id => exact others _ a1
    | ret => exact others _ a1
  | cond c a b iha ihb =>
    intro d k g vars n V s Is Q h hv hd hk
    simp only [sym] at hv
    have ka : ∀ g' : Sg, (∀ t, g'.σ t = g.σ t) → ∀ e Is', (∀ j, j < d → Is' j = Is j) → Good C Φ Is' (mods a) g' vars n (k e) (Q e) := fun g' hg' e Is' hIs g2 n2 V2 vars2 s2 b1 b2 b3 b4 b5 b6 =>
      hk e Is' hIs g2 n2 V2 vars2 s2 b1 b2 b3 b4 (fun t ht => (b5 t (fun h' => ht (List.mem_append_left _ h'))).trans (hg' t)) b6
    have kb : ∀ g' : Sg, (∀ t, g'.σ t = g.σ t) → ∀ e Is', (∀ j, j < d → Is' j = Is j) → Good C Φ Is' (mods b) g' vars n (k e) (Q e) := fun g' hg' e Is' hIs g2 n2 V2 vars2 s2 b1 b2 b3 b4 b5 b6 =>
      hk e Is' hIs g2 n2 V2 vars2 s2 b1 b2 b3 b4 (fun t ht => (b5 t (fun h' => ht (List.mem_append_right _ h'))).trans (hg' t)) b6
    simp only [vc]
    split at hv
    · rename_i hb
      obtain ⟨x, hx, ht⟩ := bindSome hb
      have e1 := h.known ht
      rw [h.opd hx] at e1
      rw [e1]
      exact ⟨fun _ => iha d k g vars n V s Is Q h hv hd (ka g (fun _ => rfl)), fun e2 => by cases e2⟩
    · rename_i hb
      obtain ⟨x, hx, ht⟩ := bindSome hb
      have e1 := h.known ht
      rw [h.opd hx] at e1
      rw [e1]
      exact ⟨(fun e2 => by cases e2), fun _ => ihb d k g vars n V s Is Q h hv hd (kb g (fun _ => rfl))⟩
    · rename_i i hb
      obtain ⟨x, hx, ht⟩ := bindSome hb
      have e1 := tv_ask ht
      subst e1
      have hi := h.opdLt hx
      have e2 : vars i = ev s.env c := h.opd hx
      obtain ⟨y, hy, hv⟩ := bindSome hv
      obtain ⟨z, hz, rfl⟩ := mapSome hv
      simp only [den] at hd
      split at hd
      · rename_i t ht
        rw [e2] at ht
        have ht' : vars i = .v (.bool t) := e2.trans ht
        rw [ht]
        refine ⟨fun e3 => ?_, fun e3 => ?_⟩
        · subst e3; exact iha d k _ vars n y s Is Q (h.know hi ht') hy (hd.1 rfl) (ka _ (fun _ => rfl))
        · subst e3; exact ihb d k _ vars n z s Is Q (h.know hi ht') hz (hd.2 rfl) (kb _ (fun _ => rfl))
      · exact hd.elim
    · cases hv
  | block id b ih =>
    intro d k g vars n V s Is Q h hv hd hk
    refine ih d _ g vars n V s Is _ h hv hd fun e Is' hIs g' n' V' vars' s' a1 a2 a3 a4 a5 a6 => ?_
    cases e with
    | normal => exact hk .normal Is' hIs g' n' V' vars' s' a1 a2 a3 a4 a5 a6
    | ret => exact hk .ret Is' hIs g' n' V' vars' s' a1 a2 a3 a4 a5 a6
    | exit id' =>
      simp only at a1
      simp only [Ex.inBlock]
      split
      · rename_i e1; rw [if_pos e1] at a1; exact hk .normal Is' hIs g' n' V' vars' s' a1 a2 a3 a4 a5 a6
      · rename_i e1; rw [if_neg e1] at a1; exact hk (.exit id') Is' hIs g' n' V' vars' s' a1 a2 a3 a4 a5 a6
  | loop b ih =>
    intro d k g vars n V s Is Q h hv hd hk
    simp only [sym] at hv
    obtain ⟨init, hinit, hv⟩ := bindSome hv
    obtain ⟨body, hbody, rfl⟩ := mapSome hv
    obtain ⟨I, μ, hI0, hround⟩ := hd
    obtain ⟨il, ii⟩ := mapM_some' hinit
    generalize hcs : carried ex g (mods b) = cs at *
    have vals : ∀ (g' : Sg) (vars' : Nat → AV) (n' : Nat) (e' : Nat → AV) (es : List Opd), Rl g' vars' n' e' → cs.mapM g'.σ = some es → es.map (ev vars') = cs.map e' := by
      intro g' vars' n' e' es hR hes
      obtain ⟨l1, l2⟩ := mapM_some' hes
      refine List.ext_getElem (by simp [l1]) fun i hi hi' => ?_
      simp only [List.getElem_map]
      exact hR.val _ _ (l2 i (by simpa using hi') (by simpa using hi))
    have head : ∀ e' : Nat → AV, (∀ t, t ∉ mods b → ∀ a, g.σ t = some a → ev vars a = e' t) → Rl (headσ g (mods b) cs n) (puts vars n (cs.map e')) (n + cs.length) e' := by
      intro e' he'
      have lo : ∀ i, i < n → puts vars n (cs.map e') i = vars i := fun i hi => puts_lo _ _ _ _ hi
      refine ⟨fun t a ht => ?_, fun t i ht => ?_, fun i bb hi => ?_⟩
      · simp only [headσ] at ht
        split at ht
        · rename_i i hi
          cases ht
          obtain ⟨h1, h2⟩ := idxOf_spec hi
          simp only [ev]
          rw [puts_at _ _ _ _ (by simpa using h1)]
          simp [h2]
        · split at ht
          · cases ht
          · rename_i hm
            rw [← he' t (by simpa using hm) a ht]
            cases a with
            | t i => have := h.lt t i ht; simp only [ev]; exact lo i this
            | _ => rfl
      · simp only [headσ] at ht
        split at ht
        · rename_i j hj
          cases ht
          obtain ⟨h1, h2⟩ := idxOf_spec hj
          omega
        · split at ht
          · cases ht
          · have := h.lt t i ht; omega
      · obtain ⟨h1, h2⟩ := h.kn i bb hi
        exact ⟨(lo i h2).trans h1, by omega⟩
    refine ⟨fun s' => I (cs.map s'.env) s'.heap s'.next ∧ ∀ t, t ∉ mods b → ∀ a, g.σ t = some a → ev vars a = s'.env t, fun s' => μ (cs.map s'.env) s'.heap s'.next, ⟨?_, fun t _ a ha => h.val t a ha⟩, fun s' ⟨hI, hsame⟩ => ?_⟩
    · rw [← vals g vars n s.env init h hinit]; exact hI0
    · have hR := head s'.env hsame
      have hb := hround (cs.map s'.env) s'.heap s'.next (by simp [il]) hI
      rw [il] at hb
      refine ih (d + 1) _ _ _ _ body s' _ _ hR hbody hb fun e Is' hIs g' n' V' vars' s2 a1 a2 a3 a4 a5 a6 => ?_
      have others : ∀ e, k e g' n' = some V' → Q e s2 := fun e a1 => by
        refine hk e Is' (fun j hj => (hIs j (by omega)).trans (by simp only [iput]; rw [if_neg (by omega)])) g' n' V' vars' s2 a1 a2 (by omega) (fun i hi => (a4 i (by omega)).trans (puts_lo _ _ _ _ hi)) (fun t ht => ?_) a6
        have ht : t ∉ mods b := ht
        rw [a5 t ht]
        simp only [headσ]
        cases hx : cs.idxOf? t with
        | none => simp only; rw [if_neg (by simpa using ht)]
        | some i =>
          exfalso
          obtain ⟨h1, h2⟩ := idxOf_spec hx
          have hm : t ∈ cs := h2 ▸ List.getElem_mem h1
          rw [← hcs] at hm
          simp only [carried, List.mem_filter] at hm
          have sub : ∀ (l : List Nat), t ∈ nub l → t ∈ l := by
            intro l
            induction l with
            | nil => intro h; exact h
            | cons a l ihl =>
              intro h
              simp only [nub] at h
              split at h
              · exact List.mem_cons_of_mem _ (ihl h)
              · rcases List.mem_cons.1 h with h | h
                · rw [h]; exact List.mem_cons_self ..
                · exact List.mem_cons_of_mem _ (ihl h)
          exact ht (sub _ hm.1)
      cases e with
      | exit id => exact others _ a1
      | ret => exact others _ a1
      | normal =>
        simp only at a1
        obtain ⟨es, hes, rfl⟩ := mapSome a1
        simp only [den] at a6
        rw [hIs d (Nat.lt_succ_self _)] at a6
        simp only [iput, if_true] at a6
        rw [vals g' vars' n' s2.env es a2 hes] at a6
        simp only [Ex.andThen]
        refine ⟨⟨a6.1, fun t ht a ha => ?_⟩, a6.2⟩
        have e1 : g'.σ t = some a := by
          rw [a5 t ht]
          simp only [headσ]
          cases hx : cs.idxOf? t with
          | none => simp only; rw [if_neg (by simpa using ht)]; exact ha
          | some i =>
            exfalso
            obtain ⟨h1, h2⟩ := idxOf_spec hx
            have hm : t ∈ cs := h2 ▸ List.getElem_mem h1
            rw [← hcs] at hm
            simp only [carried, List.mem_filter] at hm
            have sub : ∀ (l : List Nat), t ∈ nub l → t ∈ l := by
              intro l
              induction l with
              | nil => intro h; exact h
              | cons a l ihl =>
                intro h
                simp only [nub] at h
                split at h
                · exact List.mem_cons_of_mem _ (ihl h)
                · rcases List.mem_cons.1 h with h | h
                  · rw [h]; exact List.mem_cons_self ..
                  · exact List.mem_cons_of_mem _ (ihl h)
            exact ht (sub _ hm.1)
        rw [← a2.val t a e1]
        cases a with
        | t i => have hi := h.lt t i ha; simp only [ev]; exact ((a4 i (by omega)).trans (puts_lo _ _ _ _ hi)).symm
        | _ => rfl

theorem symRet_sound {C : Ct} {f : Fd} {Φ : AV → Hp → Nat → Prop} {g : Sg} {vars : Nat → AV} {n : Nat} {V : Vc} {s : St} {Is : Nat → Inv} (h : Rl g vars n s.env) (hv : symRet f.res g = some V) (hd : den C Φ V n vars s.heap s.next Is) : ∃ r, resOf s f.res = some r ∧ ∃ H', Sub H' s.heap ∧ Φ r H' s.next := by
  obtain ⟨rs, hrs, rfl⟩ := mapSome hv
  obtain ⟨r, hr, hΦ⟩ := hd
  refine ⟨r, ?_, hΦ⟩
  have key : ∀ (res : List Rv) (rs : List (Opd × Option (Option Nat))), (res.mapM fun (r : Rv) => match r with | .tmp t => (g.σ t).map fun x => (x, none) | .cell t n => (g.σ t).map fun x => (x, some n)) = some rs → rets vars s.heap rs = rvs s res := by
    intro res
    induction res with
    | nil => intro rs h; simp at h; subst h; rfl
    | cons r res ih =>
      intro rs hm
      simp only [List.mapM_cons, Option.pure_def, Option.bind_eq_bind] at hm
      obtain ⟨y, hy, hm⟩ := bindSome hm
      obtain ⟨rs', hrs', hm⟩ := bindSome hm
      cases hm
      cases r with
      | tmp t =>
        obtain ⟨x, hx, rfl⟩ := mapSome hy
        simp only [rets, rvs, ih rs' hrs', h.val t x hx]
      | cell t n =>
        obtain ⟨x, hx, rfl⟩ := mapSome hy
        simp only [rets, rvs, ih rs' hrs', h.val t x hx]
        rfl
  unfold retOf at hr
  unfold resOf
  rw [← key _ _ hrs]
  exact hr

theorem symF_sound {C : Ct} {f : Fd} {V : Vc} (hv : symF f = some V) {args : List AV} (hl : args.length = f.np) {H : Hp} {nx : Nat} {Φ : AV → Hp → Nat → Prop} (hd : den C Φ V f.np (env0 args) H nx noInv) : fnOk C f args H nx Φ := by
  refine ⟨hl, sym_sound f.body 0 _ _ (env0 args) f.np V (st0 args H nx) noInv _ ?_ hv hd fun e Is' _ g n V vars s a1 a2 _ _ _ a6 => ?_⟩
  · refine ⟨fun t a ht => ?_, fun t i ht => ?_, fun i b hi => by cases hi⟩
    · simp only at ht
      split at ht
      · cases ht; rfl
      · cases ht
    · simp only at ht
      split at ht
      · cases ht; assumption
      · cases ht
  · cases e with
    | normal => exact symRet_sound a2 a1 a6
    | ret => exact symRet_sound a2 a1 a6
    | exit id => cases a1
end Go.Av
