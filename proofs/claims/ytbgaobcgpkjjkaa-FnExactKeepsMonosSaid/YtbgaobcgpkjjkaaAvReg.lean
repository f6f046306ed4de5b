/-
  Regions: operations in the text's order, and in whatever order their edges allow.
-/
import Derived.Test.YtbgaobcgpkjjkaaAvStep4
import Derived.Scope
namespace Go.Av
open Go.RowKit (Below)

section abs
variable {C : Ct} {o : Aop} {s : St} {K K' : St → Prop}

theorem OptK.mono {α : Type} {x : Option α} {K K' : α → Prop} (h : ∀ a, K a → K' a) (hh : OptK x K) : OptK x K' := by
  obtain ⟨u, hu, hk⟩ := hh
  exact ⟨u, hu, h u hk⟩

theorem stepK_mono (h : ∀ s, K s → K' s) (hh : stepK C o s K) : stepK C o s K' := by
  unfold stepK at *
  cases hk : o.k <;> simp only [hk] at hh ⊢
  case p op xs => exact hh.mono fun _ hu => h _ hu
  case call f xs => exact hh.mono fun _ hu => hu.mono fun _ ⟨r, h1, h2⟩ => ⟨r, h1, h _ h2⟩
  case callm f xs => exact ⟨hh.1, hh.2.mono fun _ ⟨Φ, h1, h2, h3⟩ => ⟨Φ, h1, h2, fun r H' nx' hr => h _ (h3 r H' nx' hr)⟩⟩
  case callo f xs => exact ⟨hh.1, hh.2.mono fun _ hu => hu.mono fun _ ⟨Φ, h1, h2, h3⟩ => ⟨Φ, h1, h2, fun r H' nx' hr => ⟨(h3 r H' nx' hr).1, (h3 r H' nx' hr).2.1, h _ (h3 r H' nx' hr).2.2⟩⟩⟩
  case app sz x y => exact ⟨hh.1, hh.2.mono fun _ hu => ⟨hu.1, hu.2.mono fun _ hv => h _ hv⟩⟩
  case st n a v => exact ⟨hh.1, hh.2.mono fun _ hu => h _ hu⟩
  case new z => exact ⟨hh.1, h _ hh.2⟩
  case boxm x => exact ⟨hh.1, hh.2.1, h _ hh.2.2⟩
  case mks z n c => exact ⟨hh.1, hh.2.mono fun _ hu => h _ hu⟩
  case mslm sz n z ps xs => exact ⟨hh.1, hh.2.mono fun _ hu => h _ hu⟩

theorem opK_mono (h : ∀ s, K s → K' s) (hh : opK C o s K) : opK C o s K' := by
  unfold opK at *
  cases hg : o.g with
  | none => simp only [hg] at hh ⊢; exact stepK_mono h hh
  | some gw =>
    obtain ⟨g, want⟩ := gw
    simp only [hg] at hh ⊢
    split at hh
    · rename_i b hb
      exact ⟨fun e => stepK_mono h (hh.1 e), fun e => h _ (hh.2 e)⟩
    · exact h _ hh
    · exact hh.elim

/-- What an operation that writes no object yields. -/
def Vv (C : Ct) (o : Aop) (s : St) (u : AV) : Prop :=
  let H := if o.h then s.heap else hempty
  match o.k with
  | .p op xs => pvf H op (xs.map (ev s.env)) = some u
  | .call f xs => OptK (fnOf (ev s.env f)) fun fc => OptK (frzL H (xs.map (ev s.env) ++ fc.2)) fun ys => Fz C fc.1 ys u
  | _ => False
def gst (e : Nat → AV) : Option (Nat × Bool) → Option Bool
  | none => some true
  | some (g, want) => (match e g with
    | .v (.bool b) => some (b == want)
    | .v _ => some false
    | _ => none)
theorem gst_congr {e e' : Nat → AV} {g : Option (Nat × Bool)} (h : ∀ t b, g = some (t, b) → e t = e' t) : gst e g = gst e' g := by
  cases g with
  | none => rfl
  | some gw => obtain ⟨t, b⟩ := gw; simp only [gst]; rw [h t b rfl]
theorem opK_gst : opK C o s K ↔ (match gst s.env o.g with | some true => stepK C o s K | some false => K (s.put o.dst (.v undef)) | none => False) := by
  unfold opK gst
  cases hg : o.g with
  | none => simp
  | some gw =>
    obtain ⟨g, want⟩ := gw
    simp only
    cases he : s.env g with
    | v x =>
      cases x with
      | bool b => cases b <;> cases want <;> simp
      | _ => simp
    | _ => simp
def Gv (C : Ct) (o : Aop) (s : St) (u : AV) : Prop :=
  (gst s.env o.g = some true ∧ Vv C o s u) ∨ (gst s.env o.g = some false ∧ u = .v undef)

/-- What one that writes leaves. -/
def Ve (C : Ct) (o : Aop) (s : St) (Ψ : AV → Hp → Nat → Prop) : Prop :=
  match o.k with
  | .callm f xs => o.h = true ∧ OptK (fnOf (ev s.env f)) fun fc => C fc.1 (xs.map (ev s.env) ++ fc.2) s.heap s.next Ψ ∧ ∃ r H' nx', Ψ r H' nx'
  | .callo f xs => o.h = true ∧ OptK (fnOf (ev s.env f)) fun fc => OptK (frzL s.heap (xs.map (ev s.env) ++ fc.2)) fun ys => ∃ Φ : AV → Hp → Nat → Prop, C fc.1 ys hempty s.next Φ ∧ (∃ r H' nx', Φ r H' nx') ∧
      (∀ r H' nx', Φ r H' nx' → cln s.next fuel r = true ∧ clnH s.next H') ∧ Ψ = fun r H nx' => ∃ H', Φ r H' nx' ∧ H = hmerge s.next s.heap H'
  | .app sz x y => o.h = true ∧ OptK (appCells s.heap sz (ev s.env y)) fun cm => cm.1.all AV.one ∧ OptK (appTo s sz (ev s.env x) cm.1 cm.2) fun r => Ψ = fun u h n => u = r.1 ∧ h = r.2.1 ∧ n = r.2.2
  | .st n a v => o.h = true ∧ OptK (stTo s n (ev s.env a) (ev s.env v)) fun h => Ψ = fun u h' n => u = .v undef ∧ h' = h ∧ n = s.next
  | .new zero => o.h = true ∧ Ψ = fun u h n => u = .mp s.next 0 zero.length ∧ h = hput s.heap s.next (some zero) ∧ n = s.next + 1
  | .boxm x => o.h = true ∧ (ev s.env x).cells.all AV.one ∧ Ψ = fun u h n => u = .mp s.next 0 (ev s.env x).cells.length ∧ h = hput s.heap s.next (some (ev s.env x).cells) ∧ n = s.next + 1
  | .mks zero n c => o.h = true ∧ OptK (mkTo s zero (ev s.env n) (ev s.env c)) fun r => Ψ = fun u h n => u = r.1 ∧ h = r.2.1 ∧ n = r.2.2
  | .mslm sz n z ps xs => o.h = true ∧ OptK (mslTo s sz n z ps (xs.map (ev s.env))) fun r => Ψ = fun u h n => u = r.1 ∧ h = r.2.1 ∧ n = r.2.2
  | _ => False
def Ge (C : Ct) (o : Aop) (s : St) (Ψ : AV → Hp → Nat → Prop) : Prop :=
  (gst s.env o.g = some true ∧ Ve C o s Ψ) ∨ (gst s.env o.g = some false ∧ Ψ = fun u h n => u = .v undef ∧ h = s.heap ∧ n = s.next)

theorem stepK_v (he : Tr.eff o.k = false) : stepK C o s K ↔ ∃ u, Vv C o s u ∧ K (s.put o.dst u) := by
  unfold stepK Vv
  cases hk : o.k <;> simp [hk, Tr.eff] at he ⊢
  case p op xs => exact ⟨fun ⟨u, hu, h⟩ => ⟨u, hu, h⟩, fun ⟨u, hu, h⟩ => ⟨u, hu, h⟩⟩
  case call f xs =>
    exact ⟨fun ⟨fc, h1, ys, h2, r, h3, h4⟩ => ⟨r, ⟨fc, h1, ys, h2, h3⟩, h4⟩, fun ⟨r, ⟨fc, h1, ys, h2, h3⟩, h4⟩ => ⟨fc, h1, ys, h2, r, h3, h4⟩⟩

theorem opK_v (he : Tr.eff o.k = false) : opK C o s K ↔ ∃ u, Gv C o s u ∧ K (s.put o.dst u) := by
  rw [opK_gst]
  unfold Gv
  cases hg : gst s.env o.g with
  | none => simp
  | some b =>
    cases b
    · simp
    · simp only [stepK_v he, true_and, Option.some.injEq, Bool.true_eq_false, false_and, or_false]

theorem stepK_e (he : Tr.eff o.k = true) : stepK C o s K ↔ ∃ Ψ : AV → Hp → Nat → Prop, Ve C o s Ψ ∧ (∃ u h n, Ψ u h n) ∧ ∀ u h n, Ψ u h n → K ((⟨s.env, h, n⟩ : St).put o.dst u) := by
  unfold stepK Ve
  cases hk : o.k <;> simp only [hk, Tr.eff, Bool.false_eq_true] at he ⊢
  case callm f xs =>
    constructor
    · rintro ⟨h0, fc, h1, Φ, h2, h3, h4⟩; exact ⟨Φ, ⟨h0, fc, h1, h2, h3⟩, h3, h4⟩
    · rintro ⟨Φ, ⟨h0, fc, h1, h2, h3⟩, _, h4⟩; exact ⟨h0, fc, h1, Φ, h2, h3, h4⟩
  case callo f xs =>
    constructor
    · rintro ⟨h0, fc, h1, ys, h2, Φ, h3, ⟨r, H', nx', h4⟩, h5⟩
      refine ⟨_, ⟨h0, fc, h1, ys, h2, Φ, h3, ⟨r, H', nx', h4⟩, fun r H' nx' h => ⟨(h5 r H' nx' h).1, (h5 r H' nx' h).2.1⟩, rfl⟩, ⟨r, _, nx', H', h4, rfl⟩, ?_⟩
      rintro u h n ⟨H', h6, rfl⟩
      exact (h5 _ _ _ h6).2.2
    · rintro ⟨Ψ, ⟨h0, fc, h1, ys, h2, Φ, h3, h4, h5, rfl⟩, _, h6⟩
      exact ⟨h0, fc, h1, ys, h2, Φ, h3, h4, fun r H' nx' h => ⟨(h5 r H' nx' h).1, (h5 r H' nx' h).2, h6 _ _ _ ⟨H', h, rfl⟩⟩⟩
  case app sz x y =>
    constructor
    · rintro ⟨h0, cm, h1, h2, r, h3, h4⟩
      exact ⟨_, ⟨h0, cm, h1, h2, r, h3, rfl⟩, ⟨_, _, _, rfl, rfl, rfl⟩, fun u h n ⟨e1, e2, e3⟩ => by subst e1; subst e2; subst e3; exact h4⟩
    · rintro ⟨Ψ, ⟨h0, cm, h1, h2, r, h3, rfl⟩, _, h4⟩
      exact ⟨h0, cm, h1, h2, r, h3, h4 _ _ _ ⟨rfl, rfl, rfl⟩⟩
  case st n a v =>
    constructor
    · rintro ⟨h0, hp, h1, h2⟩
      exact ⟨_, ⟨h0, hp, h1, rfl⟩, ⟨_, _, _, rfl, rfl, rfl⟩, fun u h n ⟨e1, e2, e3⟩ => by subst e1; subst e2; subst e3; exact h2⟩
    · rintro ⟨Ψ, ⟨h0, hp, h1, rfl⟩, _, h4⟩
      exact ⟨h0, hp, h1, h4 _ _ _ ⟨rfl, rfl, rfl⟩⟩
  case new z =>
    constructor
    · rintro ⟨h0, h2⟩
      exact ⟨_, ⟨h0, rfl⟩, ⟨_, _, _, rfl, rfl, rfl⟩, fun u h n ⟨e1, e2, e3⟩ => by subst e1; subst e2; subst e3; exact h2⟩
    · rintro ⟨Ψ, ⟨h0, rfl⟩, _, h4⟩
      exact ⟨h0, h4 _ _ _ ⟨rfl, rfl, rfl⟩⟩
  case boxm x =>
    constructor
    · rintro ⟨h0, h1, h2⟩
      exact ⟨_, ⟨h0, h1, rfl⟩, ⟨_, _, _, rfl, rfl, rfl⟩, fun u h n ⟨e1, e2, e3⟩ => by subst e1; subst e2; subst e3; exact h2⟩
    · rintro ⟨Ψ, ⟨h0, h1, rfl⟩, _, h4⟩
      exact ⟨h0, h1, h4 _ _ _ ⟨rfl, rfl, rfl⟩⟩
  case mks z n c =>
    constructor
    · rintro ⟨h0, r, h1, h2⟩
      exact ⟨_, ⟨h0, r, h1, rfl⟩, ⟨_, _, _, rfl, rfl, rfl⟩, fun u h n ⟨e1, e2, e3⟩ => by subst e1; subst e2; subst e3; exact h2⟩
    · rintro ⟨Ψ, ⟨h0, r, h1, rfl⟩, _, h4⟩
      exact ⟨h0, r, h1, h4 _ _ _ ⟨rfl, rfl, rfl⟩⟩
  case mslm sz m z ps xs =>
    constructor
    · rintro ⟨h0, r, h1, h2⟩
      exact ⟨_, ⟨h0, r, h1, rfl⟩, ⟨_, _, _, rfl, rfl, rfl⟩, fun u h n ⟨e1, e2, e3⟩ => by subst e1; subst e2; subst e3; exact h2⟩
    · rintro ⟨Ψ, ⟨h0, r, h1, rfl⟩, _, h4⟩
      exact ⟨h0, r, h1, h4 _ _ _ ⟨rfl, rfl, rfl⟩⟩

theorem opK_e (he : Tr.eff o.k = true) : opK C o s K ↔ ∃ Ψ : AV → Hp → Nat → Prop, Ge C o s Ψ ∧ (∃ u h n, Ψ u h n) ∧ ∀ u h n, Ψ u h n → K ((⟨s.env, h, n⟩ : St).put o.dst u) := by
  have one : ∀ (Ψ : AV → Hp → Nat → Prop), (Ψ = fun u h n => u = .v undef ∧ h = s.heap ∧ n = s.next) → (K (s.put o.dst (.v undef)) ↔ (∃ u h n, Ψ u h n) ∧ ∀ u h n, Ψ u h n → K ((⟨s.env, h, n⟩ : St).put o.dst u)) := by
    rintro Ψ rfl
    constructor
    · intro h; exact ⟨⟨_, _, _, rfl, rfl, rfl⟩, fun u h' n ⟨e1, e2, e3⟩ => by subst e1; subst e2; subst e3; exact h⟩
    · intro h; exact h.2 _ _ _ ⟨rfl, rfl, rfl⟩
  rw [opK_gst]
  unfold Ge
  cases hg : gst s.env o.g with
  | none => simp
  | some b =>
    cases b
    · simp only [true_and, Option.some.injEq, Bool.false_eq_true, false_and, false_or]
      exact ⟨fun h => ⟨_, rfl, (one _ rfl).1 h⟩, fun ⟨_, e, h⟩ => (one _ e).2 h⟩
    · simp only [stepK_e he, true_and, Option.some.injEq, Bool.true_eq_false, false_and, or_false]

theorem ev_congr {e e' : Nat → AV} {x : Opd} (h : ∀ t ∈ Tr.tm x, e t = e' t) : ev e x = ev e' x := by
  cases x with
  | t n => exact h n (by simp [Tr.tm])
  | _ => rfl
theorem evs_congr {e e' : Nat → AV} {xs : List Opd} (h : ∀ t ∈ xs.flatMap Tr.tm, e t = e' t) : xs.map (ev e) = xs.map (ev e') :=
  List.map_congr_left fun x hx => ev_congr fun t ht => h t (List.mem_flatMap.2 ⟨x, hx, ht⟩)

theorem Vv_congr {s' : St} {u : AV} (he : ∀ t ∈ Tr.rdK o.k, s.env t = s'.env t) (hh : o.h = false ∨ s.heap = s'.heap) (h : Vv C o s u) : Vv C o s' u := by
  have hH : (if o.h = true then s.heap else hempty) = (if o.h = true then s'.heap else hempty) := by
    rcases hh with e | e <;> simp [e]
  unfold Vv at *
  cases hk : o.k <;> simp only [hk, Tr.rdK] at h he ⊢
  case p op xs => rw [← evs_congr he, ← hH]; exact h
  case call f xs =>
    rw [← evs_congr (fun t ht => he t (List.mem_append_right _ ht)), ← ev_congr (fun t ht => he t (List.mem_append_left _ ht)), ← hH]
    exact h

theorem gst_rd {s' : St} (he : ∀ t ∈ Tr.rd o, s.env t = s'.env t) : gst s.env o.g = gst s'.env o.g := gst_congr fun t b hg => he t (by simp [Tr.rd, hg])
theorem Gv_congr {s' : St} {u : AV} (he : ∀ t ∈ Tr.rd o, s.env t = s'.env t) (hh : o.h = false ∨ s.heap = s'.heap) (h : Gv C o s u) : Gv C o s' u := by
  unfold Gv at *
  have he1 : ∀ t ∈ Tr.rdK o.k, s.env t = s'.env t := fun t ht => he t (List.mem_append_left _ ht)
  rw [← gst_rd he]
  rcases h with ⟨e, h⟩ | h
  · exact .inl ⟨e, Vv_congr he1 hh h⟩
  · exact .inr h

theorem Ve_congr {s' : St} {Ψ : AV → Hp → Nat → Prop} (he : ∀ t ∈ Tr.rdK o.k, s.env t = s'.env t) (hh : s.heap = s'.heap) (hn : s.next = s'.next) (h : Ve C o s Ψ) : Ve C o s' Ψ := by
  unfold Ve at *
  cases hk : o.k <;> simp only [hk, Tr.rdK] at h he ⊢
  case callm f xs =>
    rw [← evs_congr (fun t ht => he t (List.mem_append_right _ ht)), ← ev_congr (fun t ht => he t (List.mem_append_left _ ht)), ← hh, ← hn]
    exact h
  case callo f xs =>
    rw [← evs_congr (fun t ht => he t (List.mem_append_right _ ht)), ← ev_congr (fun t ht => he t (List.mem_append_left _ ht)), ← hh, ← hn]
    exact h
  case app sz x y =>
    rw [← ev_congr (x := x) (fun t ht => he t (List.mem_append_left _ ht)), ← ev_congr (x := y) (fun t ht => he t (List.mem_append_right _ ht)), ← hh]
    unfold appTo at *
    rw [← hh, ← hn]
    exact h
  case st n a v =>
    rw [← ev_congr (x := a) (fun t ht => he t (List.mem_append_left _ ht)), ← ev_congr (x := v) (fun t ht => he t (List.mem_append_right _ ht))]
    unfold stTo at *
    rw [← hh, ← hn]
    exact h
  case new z => rw [← hh, ← hn]; exact h
  case boxm x => rw [← ev_congr (x := x) he, ← hh, ← hn]; exact h
  case mks z n c =>
    rw [← ev_congr (x := n) (fun t ht => he t (List.mem_append_left _ ht)), ← ev_congr (x := c) (fun t ht => he t (List.mem_append_right _ ht))]
    unfold mkTo at *
    rw [← hh, ← hn]
    exact h
  case mslm sz n z ps xs =>
    rw [← evs_congr he]
    unfold mslTo at *
    rw [← hh, ← hn]
    exact h

theorem Ge_congr {s' : St} {Ψ : AV → Hp → Nat → Prop} (he : ∀ t ∈ Tr.rd o, s.env t = s'.env t) (hh : s.heap = s'.heap) (hn : s.next = s'.next) (h : Ge C o s Ψ) : Ge C o s' Ψ := by
  unfold Ge at *
  have he1 : ∀ t ∈ Tr.rdK o.k, s.env t = s'.env t := fun t ht => he t (List.mem_append_left _ ht)
  rw [← gst_rd he, ← hh, ← hn]
  rcases h with ⟨e, h⟩ | h
  · exact .inl ⟨e, Ve_congr he1 hh hn h⟩
  · exact .inr h

theorem Gv_unique {u u' : AV} (hc : Tr.isC o.k = false) (h : Gv C o s u) (h' : Gv C o s u') : u = u' := by
  have vv : Vv C o s u → Vv C o s u' → u = u' := by
    intro h h'
    unfold Vv at *
    cases hk : o.k <;> simp only [hk, Tr.isC, Bool.true_eq_false] at h h' hc
    case p op xs => rw [h] at h'; exact Option.some.inj h'
  unfold Gv at *
  rcases h with ⟨e, h⟩ | ⟨e, h⟩ <;> rcases h' with ⟨e', h'⟩ | ⟨e', h'⟩
  · exact vv h h'
  · rw [e] at e'; cases e'
  · rw [e] at e'; cases e'
  · rw [h, h']

theorem Ge_single {Ψ : AV → Hp → Nat → Prop} (hc : Tr.isC o.k = false) (h : Ge C o s Ψ) : ∃ u0 h0 n0, Ψ = fun u h n => u = u0 ∧ h = h0 ∧ n = n0 := by
  have vv : Ve C o s Ψ → ∃ u0 h0 n0, Ψ = fun u h n => u = u0 ∧ h = h0 ∧ n = n0 := by
    intro h
    unfold Ve at h
    cases hk : o.k <;> simp only [hk, Tr.isC, Bool.true_eq_false] at h hc
    case app sz x y => obtain ⟨_, _, _, _, _, _, h⟩ := h; exact ⟨_, _, _, h⟩
    case st n a v => obtain ⟨_, _, _, h⟩ := h; exact ⟨_, _, _, h⟩
    case new z => exact ⟨_, _, _, h.2⟩
    case boxm x => exact ⟨_, _, _, h.2.2⟩
    case mks z n c => obtain ⟨_, _, _, h⟩ := h; exact ⟨_, _, _, h⟩
    case mslm sz n z ps xs => obtain ⟨_, _, _, h⟩ := h; exact ⟨_, _, _, h⟩
  rcases h with ⟨e, h⟩ | ⟨e, h⟩
  · exact vv h
  · exact ⟨_, _, _, h⟩

theorem put_env {s : St} {d : Option Nat} {u : AV} {t : Nat} (h : d ≠ some t) : (s.put d u).env t = s.env t := by
  cases d with
  | none => rfl
  | some k =>
    have : t ≠ k := fun e => h (by rw [e])
    simp [St.put, put, this]
theorem put_heap {s : St} {d : Option Nat} {u : AV} : (s.put d u).heap = s.heap := by cases d <;> rfl
theorem put_next {s : St} {d : Option Nat} {u : AV} : (s.put d u).next = s.next := by cases d <;> rfl
theorem put_comm {s : St} {d d' : Option Nat} {u u' : AV} (h : ∀ t, d = some t → d' ≠ some t) : (s.put d u).put d' u' = (s.put d' u').put d u := by
  cases d with
  | none => rfl
  | some k =>
    cases d' with
    | none => rfl
    | some k' =>
      have hne : k ≠ k' := fun e => h k rfl (by rw [e])
      simp only [St.put, St.mk.injEq, and_true]
      funext t
      simp only [put]
      by_cases e1 : t = k' <;> by_cases e2 : t = k <;> simp [e1, e2]
      · subst e1; exact absurd e2.symm hne
      · subst e1; intro e; exact absurd e.symm hne
      · subst e2; intro e; exact absurd e hne
theorem put_mk {s : St} {d : Option Nat} {u : AV} {h : Hp} {n : Nat} : ({ env := (s.put d u).env, heap := h, next := n } : St) = (⟨s.env, h, n⟩ : St).put d u := by cases d <;> rfl

theorem apart_spec {x y : Aop} (h : Tr.apartB x y = true) : (∀ t, x.dst = some t → t ∉ Tr.rd y) ∧ (∀ t, x.dst = some t → y.dst ≠ some t) ∧ (∀ t, y.dst = some t → t ∉ Tr.rd x) := by
  refine ⟨fun d hd => ?_, fun d hd => ?_, fun d hd => ?_⟩ <;> simp [Tr.apartB, hd] at h
  · exact h.1.1
  · exact h.1.2
  · exact h.2

theorem opK_swap {x y : Aop} (hm : Tr.mayB x y = true) (h : opK C x s fun s' => opK C y s' K) : opK C y s fun s' => opK C x s' K := by
  simp only [Tr.mayB, Bool.and_eq_true] at hm
  obtain ⟨ha, hc⟩ := hm
  obtain ⟨h1, h2, h3⟩ := apart_spec ha
  have ry : ∀ (s : St) (u : AV), ∀ t ∈ Tr.rd y, (s.put x.dst u).env t = s.env t := fun s u t ht => put_env (fun e => h1 t e ht)
  have rx : ∀ (s : St) (u : AV), ∀ t ∈ Tr.rd x, (s.put y.dst u).env t = s.env t := fun s u t ht => put_env (fun e => h3 t e ht)
  simp only [Tr.calmB, Bool.and_eq_true, Bool.not_eq_true', Bool.and_eq_false_iff] at hc
  cases hex : Tr.eff x.k
  · obtain ⟨u, hu, h⟩ := (opK_v hex).1 h
    cases hey : Tr.eff y.k
    · obtain ⟨v, hv, h⟩ := (opK_v hey).1 h
      refine (opK_v hey).2 ⟨v, Gv_congr (ry s u) (.inr put_heap) hv, (opK_v hex).2 ⟨u, Gv_congr (fun t ht => (rx s v t ht).symm) (.inr put_heap.symm) hu, ?_⟩⟩
      rw [← put_comm h2]
      exact h
    · obtain ⟨Ψ, hΨ, hne, h⟩ := (opK_e hey).1 h
      have hxh : x.h = false := by
        rcases hc.1.2 with e | e
        · rw [hey] at e; cases e
        · exact e
      refine (opK_e hey).2 ⟨Ψ, Ge_congr (ry s u) put_heap put_next hΨ, hne, fun v hp n hv => (opK_v hex).2 ⟨u, Gv_congr (s := s) (fun t ht => ?_) (.inl hxh) hu, ?_⟩⟩
      · exact (rx ⟨s.env, hp, n⟩ v t ht).symm
      · have := h v hp n hv
        rw [put_mk, put_comm h2] at this
        exact this
  · obtain ⟨Ψ, hΨ, hne, h⟩ := (opK_e hex).1 h
    have hey : Tr.eff y.k = false := by
      rcases hc.1.1.1 with e | e
      · rw [hex] at e; cases e
      · exact e
    have hyh : y.h = false := by
      rcases hc.1.1.2 with e | e
      · rw [hex] at e; cases e
      · exact e
    have back : ∀ u hp n v, Ψ u hp n → Gv C y ((⟨s.env, hp, n⟩ : St).put x.dst u) v → Gv C y s v := fun u hp n v _ hv => Gv_congr (s := (⟨s.env, hp, n⟩ : St).put x.dst u) (fun t ht => ry ⟨s.env, hp, n⟩ u t ht) (.inl hyh) hv
    have fin : ∀ v, Gv C y s v → (∀ u hp n, Ψ u hp n → K (((⟨s.env, hp, n⟩ : St).put x.dst u).put y.dst v)) → opK C y s fun s' => opK C x s' K := by
      intro v hv hK
      refine (opK_v hey).2 ⟨v, hv, (opK_e hex).2 ⟨Ψ, Ge_congr (fun t ht => (rx s v t ht).symm) put_heap.symm put_next.symm hΨ, hne, fun u hp n hu => ?_⟩⟩
      rw [put_mk, ← put_comm h2]
      exact hK u hp n hu
    obtain ⟨u0, hp0, n0, h0⟩ := hne
    obtain ⟨v0, hv0, _⟩ := (opK_v hey).1 (h u0 hp0 n0 h0)
    by_cases hcx : Tr.isC x.k = true
    · have hcy : Tr.isC y.k = false := by
        rcases hc.2 with e | e
        · rcases e with e | e
          · rw [hcx] at e; cases e
          · exact e
        · simp [hex] at e
      refine fin v0 (back _ _ _ _ h0 hv0) fun u hp n hu => ?_
      obtain ⟨v, hv, hK⟩ := (opK_v hey).1 (h u hp n hu)
      rw [Gv_unique hcy (back _ _ _ _ h0 hv0) (back _ _ _ _ hu hv)]
      exact hK
    · have hcx' : Tr.isC x.k = false := by simpa using hcx
      obtain ⟨u1, hp1, n1, e⟩ := Ge_single hcx' hΨ
      obtain ⟨v, hv, hK⟩ := (opK_v hey).1 (h u0 hp0 n0 h0)
      refine fin v (back _ _ _ _ h0 hv) fun u hp n hu => ?_
      rw [e] at hu h0
      obtain ⟨a1, a2, a3⟩ := hu
      obtain ⟨b1, b2, b3⟩ := h0
      rw [a1, a2, a3, ← b1, ← b2, ← b3]
      exact hK

theorem opsK_mono {l : List Aop} : ∀ {s : St}, (∀ s, K s → K' s) → opsK C l s K → opsK C l s K' := by
  induction l with
  | nil => intro s h hh; exact h _ hh
  | cons o r ih => intro s h hh; exact opK_mono (fun s' hs => ih h hs) hh

theorem opsK_front {y : Aop} {zs : List Aop} : ∀ {xs : List Aop} {s : St}, (∀ x ∈ xs, Tr.mayB x y = true) → opsK C (xs ++ y :: zs) s K → opsK C (y :: (xs ++ zs)) s K := by
  intro xs
  induction xs with
  | nil => intro s _ h; exact h
  | cons x xs ih =>
    intro s hm h
    have h' : opK C x s fun s' => opK C y s' fun s'' => opsK C (xs ++ zs) s'' K := opK_mono (fun s' hs => ih (fun x hx => hm x (List.mem_cons_of_mem _ hx)) hs) h
    exact opK_swap (hm x (List.mem_cons_self ..)) h'
end abs
end Go.Av
