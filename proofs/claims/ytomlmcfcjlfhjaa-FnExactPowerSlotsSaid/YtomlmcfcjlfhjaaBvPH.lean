/-
  Several texts in one: BvBs, BvPh, BvPh2, BvPh3, BvPh4.
-/
import Derived.Test.YtomlmcfcjlfhjaaBvY
import Derived.Conc.CrowdSel
import Derived.Conc.TokenWalk
/-
  Goroutine 0 beside goroutines that are only leaving; those that only leave make way.
-/
namespace Go.Av
set_option linter.unusedSectionVars false
set_option linter.unusedSimpArgs false
set_option linter.unusedVariables false
open Go.Conc (G crowd Leavers Past EvL QuitsD woken crowd_pick runT_crowd_go Deaf deafStep touchAt Knows Before)
open Go.ConcN (sumTo upd sumTo_upd upd_ne upd_same)

theorem runNT_trans' {P : Program} {m m' m'' : Machine} {t t' t'' : Trace} {N K : Nat} (h : runNT P N m t = (.next m', t')) (hk : runNT P K m' t' = (.next m'', t'')) : runNT P (N + K) m t = (.next m'', t'') := by
  rw [runNT_add, h]
  exact hk

/-! ### who only leaves -/
/-- All but those in S are only leaving. -/
structure Lv (P : Program) (S : Nat → Prop) (T : Trace) (gs : Array Goroutine) (q : Nat → Nat) : Prop where
  old : ∀ i g, ¬ S i → gs[i]? = some g → QuitsD P (q i) (Deaf T i) g
  above : ∀ j, gs.size ≤ j → Deaf T j = 0

theorem deaf_same (t : Trace) (u : Trace) (j : Nat) (h : ∀ op ∈ u, op.g ≠ j ∨ (op.act ≠ .mark .disable ∧ op.act ≠ .mark .enable)) : Deaf (t ++ u) j = Deaf t j := by
  obtain ⟨l⟩ := u
  rw [Go.Conc.Deaf_append]
  induction l generalizing t with
  | nil => rfl
  | cons y l ih =>
    have hy := h y (by simp)
    have e1 : deafStep j (Deaf t j) y = Deaf t j := by
      unfold deafStep
      split
      · rcases hy with hy | hy
        · rw [if_neg hy]
        · rename_i e; exact absurd e hy.1
      · rcases hy with hy | hy
        · rw [if_neg hy]
        · rename_i e; exact absurd e hy.2
      · rfl
    rw [List.foldl_cons, e1]
    exact ih t fun op hop => h op (by simp at hop ⊢; exact .inr hop)

section
variable {P : Program} {S : Nat → Prop} {T : Trace} {gs : Array Goroutine} {q : Nat → Nat} {r : World} {sl : Option (Nat × Nat)}

/-- What those in S do leaves the others. -/
theorem Lv.next (h : Lv P S T gs q) {gs' : Array Goroutine} {u : Trace} (hs : gs'.size = gs.size) (hg : ∀ j, ¬ S j → gs'[j]? = gs[j]?) (hu : ∀ op ∈ u, S op.g ∧ op.g < gs.size) : Lv P S (T ++ u) gs' q := by
  refine ⟨fun i g hi hgi => ?_, fun j hj => ?_⟩
  · rw [deaf_same T u i fun op hop => .inl fun e => hi (e ▸ (hu op hop).1)]
    exact h.old i g hi (by rw [← hg i hi]; exact hgi)
  · rw [deaf_same T u j fun op hop => .inl fun e => by have := (hu op hop).2; omega]
    exact h.above j (by omega)

theorem Lv.wk (h : Lv P S T gs q) {j : Nat} {x : Goroutine} (hj : ¬ S j) (hx : gs[j]? = some x) (g g' : Goroutine) (w : World) : Go.Conc.woken P g g' w x = x := Go.Conc.woken_quitsD (h.old j x hj hx)

/-- Those that only leave make way: then one of S moves. -/
theorem Lv.until (hS0' : S 0) (hL : Lv P S T gs q) (haw : ∀ i g, S i → gs[i]? = some g → Go.Conc.awake g) (hrun : ∃ i g, S i ∧ gs[i]? = some g ∧ g.status = .running)
    (hwk : ∀ i g, S i → gs[i]? = some g → ∀ x g' d, Go.Conc.woken P x g' (r.at d) g = g) :
    ∃ (N : Nat) (gs' : Array Goroutine) (d : Nat) (sl' : Option (Nat × Nat)) (u : Trace) (q' : Nat → Nat) (i : Nat) (g : Goroutine) (d2 : Nat) (sl2 : Option (Nat × Nat)),
      runNT P N (crowd gs r sl) T = (.next (crowd gs' (r.at d) sl'), T ++ u) ∧ stepT P (crowd gs' (r.at d) sl') = runT P (crowd gs' (r.at d2) sl2) i ∧ S i ∧ gs'[i]? = some g ∧ g.status = .running ∧
      gs'.size = gs.size ∧ (∀ j, S j → gs'[j]? = gs[j]?) ∧ Lv P S (T ++ u) gs' q' ∧ (∀ op ∈ u, ¬ S op.g ∧ op.g < gs.size ∧ op.act.touch? = none ∧ op.act.low 0) := by
  generalize hM : sumTo gs.size q = M
  induction M using Nat.strongRecOn generalizing gs sl T q r with
  | _ M ih =>
    obtain ⟨i0, g0, hS0, hg0, hr0⟩ := hrun
    have haw' : ∀ g ∈ gs, Go.Conc.awake g := by
      intro x hg
      obtain ⟨i, hi, rfl⟩ := Array.mem_iff_getElem.1 hg
      by_cases hS : S i
      · exact haw i _ hS (Array.getElem?_eq_getElem hi)
      · exact Go.Conc.awake_of ((hL.old i _ hS (Array.getElem?_eq_getElem hi)).status.elim .inl fun x => .inr (.inr x))
    obtain ⟨i, x, d2, sl2, hi, hg, hst⟩ := crowd_pick (P := P) (w := r) (sl := sl) haw' ⟨i0, g0, hg0, hr0⟩
    by_cases hS : S i
    · exact ⟨0, gs, r.drawn, sl, #[], q, i, x, d2, sl2, by rw [at_self]; simp [runNT], by rw [at_self]; exact hst, hS, hi, hg, rfl, fun _ _ => rfl, by simpa using hL, by simp⟩
    · have hq := hL.old i x hS hi
      have hlt : i < gs.size := (Array.getElem?_eq_some_iff.1 hi).1
      cases hqi : q i with
      | zero => rw [hqi] at hq; rw [hq.1] at hg; cases hg
      | succ k =>
        rw [hqi] at hq
        rcases hq with ⟨hf, _⟩ | ⟨_, g', es, hm, hstp, hq'⟩
        · rw [hf] at hg; cases hg
        have hi0 : i ≠ 0 := fun e => hS (e ▸ hS0')
        have hib : (i == 0) = false := by simpa using hi0
        have hrunT := runT_crowd_go (P := P) (sl := sl2) (i := i) hi (by rw [hib]; exact hstp (r.at d2))
        have hsz : ((gs.map (Go.Conc.woken P x g' (r.at d2))).setIfInBounds i g').size = gs.size := by simp
        have hsum : sumTo gs.size (upd q i k) + (k + 1) = sumTo gs.size q + k := by
          have := sumTo_upd q k id hlt
          simpa [hqi] using this
        have hsame : ∀ j, S j → ((gs.map (Go.Conc.woken P x g' (r.at d2))).setIfInBounds i g')[j]? = gs[j]? := by
          intro j hj
          have hne : i ≠ j := fun e => hS (e ▸ hj)
          rw [Array.getElem?_setIfInBounds_ne hne, Array.getElem?_map]
          cases hgj : gs[j]? with
          | none => rfl
          | some y => simp only [Option.map_some]; rw [hwk j y hj hgj]
        have hops : ∀ op ∈ MemOp.ofEvents i x.frame.fn x.frame.place es, op.g = i ∧ op.act.touch? = none ∧ op.act.low 0 := by
          intro op hop
          obtain ⟨e, he, rfl⟩ := Go.Conc.mem_ofEvents hop
          exact ⟨rfl, Go.Conc.touch_mute (hm e he), Go.Conc.low_mute (hm e he) 0⟩
        obtain ⟨N, gs', d, sl', u, q', j, y, d3, sl3, h1, h2, h3, h4, h5, h6, h7, h8, h9⟩ := ih (sumTo gs.size (upd q i k)) (by omega) (T := T ++ MemOp.ofEvents i x.frame.fn x.frame.place es) (gs := (gs.map (Go.Conc.woken P x g' (r.at d2))).setIfInBounds i g') (q := upd q i k) (r := r.at d2) (sl := sl2)
          ⟨fun j y hj hy => by
            by_cases hji : i = j
            · subst hji
              rw [Array.getElem?_setIfInBounds_self_of_lt (by simpa using hlt)] at hy
              obtain rfl := Option.some.inj hy
              rw [upd_same, Go.Conc.Deaf_own]
              exact hq'
            · rw [Array.getElem?_setIfInBounds_ne hji, Array.getElem?_map] at hy
              obtain ⟨z, hz, rfl⟩ := Option.map_eq_some_iff.1 hy
              have hqj := hL.old j z hj hz
              rw [Go.Conc.woken_quitsD hqj, upd_ne q k (Ne.symm hji), Go.Conc.Deaf_other T hji _ (fun op hop => (hops op hop).1)]
              exact hqj, fun j hj => by
            rw [Go.Conc.Deaf_other T (g' := i) (by simp at hj; omega) _ (fun op hop => (hops op hop).1)]
            exact hL.above j (by simpa using hj)⟩
          (fun j y hj hy => haw j y hj (by rw [← hsame j hj]; exact hy)) ⟨i0, g0, hS0, by rw [hsame i0 hS0]; exact hg0, hr0⟩ (fun j y hj hy x' g2 d => hwk j y hj (by rw [← hsame j hj]; exact hy) x' g2 d) (by rw [hsz])
        refine ⟨N + 1, gs', d, sl', MemOp.ofEvents i x.frame.fn x.frame.place es ++ u, q', j, y, d3, sl3, ?_, h2, h3, h4, h5, h6.trans hsz, fun j' hj' => (h7 j' hj').trans (hsame j' hj'), by rw [← Array.append_assoc]; exact h8, fun op hop => ?_⟩
        · rw [← Array.append_assoc]
          have e : runNT P (N + 1) (crowd gs r sl) T = runNT P N (crowd ((gs.map (Go.Conc.woken P x g' (r.at d2))).setIfInBounds i g') (r.at d2) sl2) (T ++ MemOp.ofEvents i x.frame.fn x.frame.place es) := by simp only [runNT, hst, hrunT]
          rw [e]
          exact h1
        · rcases Array.mem_append.1 hop with x1 | x1
          · obtain ⟨a1, a2, a3⟩ := hops op x1
            exact ⟨by rw [a1]; exact hS, by rw [a1]; exact hlt, a2, a3⟩
          · obtain ⟨a1, a2, a3⟩ := h9 op x1
            exact ⟨a1, by rw [hsz] at a2; exact a2, a3⟩
end

/-! ### goroutine 0 alone with leavers -/
/-- Goroutine 0 stands at g in world w; all others are only leaving; what was done lies below the heap's end. -/
structure Fr (P : Program) (gs : Array Goroutine) (T : Trace) (q : Nat → Nat) (g : Goroutine) (w : World) : Prop where
  zero : gs[0]? = some g
  lv : Lv P (· = 0) T gs q
  past : Past Noone w.heap.size T

/-- From whatever company, on whatever tape, goroutine 0 comes to where K holds. -/
def BR (P : Program) (K : Goroutine → World → Prop) (g : Goroutine) (w : World) : Prop :=
  ∀ (gs : Array Goroutine) (sl : Option (Nat × Nat)) (T : Trace) (q : Nat → Nat) (d : Nat), Fr P gs T q g w →
    ∃ (N : Nat) (gs' : Array Goroutine) (g' : Goroutine) (w' : World) (sl' : Option (Nat × Nat)) (T' : Trace) (q' : Nat → Nat),
      runNT P N (crowd gs (w.at d) sl) T = (.next (crowd gs' w' sl'), T') ∧ Fr P gs' T' q' g' w' ∧ K g' w'

section
variable {P : Program} {K K' : Goroutine → World → Prop} {g g' : Goroutine} {w w' : World}
theorem BR.stop (h : ∀ d, K g (w.at d)) : BR P K g w := fun gs sl T q d F => ⟨0, gs, g, w.at d, sl, T, q, rfl, ⟨F.zero, F.lv, F.past⟩, h d⟩
theorem BR.at (h : BR P K g w) (d : Nat) : BR P K g (w.at d) := fun gs sl T q e F => h gs sl T q e ⟨F.zero, F.lv, F.past⟩
theorem BR.trans (h : BR P K g w) (k : ∀ g' w', K g' w' → BR P K' g' w') : BR P K' g w := by
  intro gs sl T q d F
  obtain ⟨N, gs1, g1, w1, sl1, T1, q1, r1, F1, k1⟩ := h gs sl T q d F
  obtain ⟨N2, gs2, g2, w2, sl2, T2, q2, r2, F2, k2⟩ := k g1 w1 k1 gs1 sl1 T1 q1 w1.drawn F1
  exact ⟨N + N2, gs2, g2, w2, sl2, T2, q2, runNT_trans' r1 r2, F2, k2⟩

theorem Past.mute' {Shun : Loc → Prop} {B : Nat} {t u : Trace} (h : Past Shun B t) (hu : ∀ op ∈ u, op.g ≠ 0 ∧ op.act.touch? = none ∧ op.act.low 0) : Past Shun B (t ++ u) := by
  obtain ⟨l⟩ := u
  induction l generalizing t with
  | nil => simpa using h
  | cons y l ih =>
    obtain ⟨h1, h2, h3⟩ := hu y (by simp)
    have e : t ++ (y :: l).toArray = (t ++ #[y]) ++ l.toArray := by simp
    rw [e]
    refine ih (h.appMute h1 (fun op hop => by simp at hop; rw [hop]) (fun op hop => by simp at hop; rw [hop]; exact h2) (fun op hop => by simp at hop; rw [hop]; exact Go.MemAct.low_mono (Nat.zero_le _) h3)) fun op hop => hu op (by simp at hop ⊢; exact .inr hop)

theorem BR.go (hrun : g.status = .running) (h : ∀ d, ∃ g' w', Stp P true g (w.at d) g' w' ∧ BR P K g' w') : BR P K g w := by
  intro gs sl T q d F
  obtain ⟨h0, hL, hP⟩ := F
  obtain ⟨N, gs1, d1, sl1, u, q1, i, x, d2, sl2, r1, r2, hi, hx, hxr, hs, hsame, hL1, hu⟩ := Lv.until (P := P) (S := (· = 0)) rfl (r := w.at d) (sl := sl) hL (fun i y hi hy => by
    have hi : i = 0 := hi
    rw [hi, h0] at hy; cases hy; exact Go.Conc.awake_of (.inl hrun)) ⟨0, g, rfl, h0, hrun⟩ (fun i y hi hy x g' d => by
    have hi : i = 0 := hi
    rw [hi, h0] at hy; cases hy; exact Go.Conc.woken_run hrun)
  have hi : i = 0 := hi
  subst hi
  rw [hsame 0 rfl, h0] at hx
  obtain rfl := Option.some.inj hx
  obtain ⟨g', w', ⟨⟨es, hgo, hes, hsz⟩, _⟩, hb⟩ := h d2
  have h01 : gs1[0]? = some g := by rw [hsame 0 rfl]; exact h0
  have hrunT := runT_crowd_go (P := P) (sl := sl2) (i := 0) h01 (show stepG P (0 == 0) g ((w.at d).at d2) = _ from hgo)
  have hlt : 0 < gs1.size := (Array.getElem?_eq_some_iff.1 h01).1
  have hP1 := Past.mute' hP fun op hop => ⟨(hu op hop).1, (hu op hop).2.2⟩
  obtain ⟨N2, gs2, g2, w2, sl3, T2, q2, r3, F2, k2⟩ := hb ((gs1.map (Go.Conc.woken P g g' w')).setIfInBounds 0 g') sl2 (T ++ u ++ MemOp.ofEvents 0 g.frame.fn g.frame.place es) q1 w'.drawn
    ⟨by simp [hlt], hL1.next (by simp) (fun j hj => by
      have hne : 0 ≠ j := fun e => hj e.symm
      rw [Array.getElem?_setIfInBounds_ne hne, Array.getElem?_map]
      cases hgj : gs1[j]? with
      | none => rfl
      | some y => simp only [Option.map_some]; rw [hL1.wk hj hgj]) (fun op hop => by obtain ⟨e, _, rfl⟩ := Go.Conc.mem_ofEvents hop; exact ⟨rfl, hlt⟩), (hP1.mono hsz).own hes⟩
  refine ⟨N + (N2 + 1), gs2, g2, w2, sl3, T2, q2, runNT_trans' r1 ?_, F2, k2⟩
  simp only [runNT, r2]
  rw [show (w.at d).at d2 = w.at d2 from rfl] at hrunT ⊢
  rw [hrunT]
  exact r3

/-- Goroutine 0 beside leavers. -/
abbrev beside : Md where
  m := true
  rl := fun w w' => ∃ d, w' = w.at d
  sub := fun ⟨d, h⟩ => h ▸ Oth.at _ d
  Ok := fun P R => ∃ K, R = BR P K
  cl := by
    rintro P R ⟨K, rfl⟩
    refine ⟨fun g v hr h => BR.go hr fun d => h _ ⟨d, rfl⟩, ?_⟩
    rintro g v _ h ⟨d, rfl⟩
    exact h.at d
end
end Go.Av

/-
  Traces of two goroutines of which each touches its own memory, beside others that only leave.
-/
namespace Go.Av
set_option linter.unusedSectionVars false
set_option linter.unusedSimpArgs false
set_option linter.unusedVariables false
open Go.Conc (EvL Past Deaf touchAt Knows Before noRace_append touch_of touchAt_of getElem?_append_cases getElem?_append_old lt_size_of_getElem? knows_own hb_app hb_po)

theorem inB_apart {B : Nat} {M M' : Nat → Prop} {a b : Touch} {said : Bool} (ha : inB B M a.write a.loc) (hb : inB B M' b.write b.loc) (hd : ∀ x, M x → M' x → False) (hc : a.conflicts said b) : False := by
  obtain ⟨al, aw, ak⟩ := a
  obtain ⟨bl, bw, bk⟩ := b
  obtain ⟨h1, h2, h3, h4⟩ := hc
  simp only at h1 h2 h3 ha hb
  subst h1
  cases al with
  | cell x =>
    rcases ha with ha | ha <;> rcases hb with hb | hb
    · rw [ha.2, hb.2] at h3
      rcases h3 with h3 | h3 <;> cases h3
    · omega
    · omega
    · exact hd _ ha.2 hb.2
  | obj x => exact ha
  | _ => simp [Loc.isMemory] at h2

theorem noRace_mute {said : Bool} {t u : Trace} (h : ¬ Race said t) (hu : ∀ op ∈ u, op.act.touch? = none) : ¬ Race said (t ++ u) := by
  rintro ⟨i, j, hij, ⟨a, b, ha, hb, hc⟩, n1, n2⟩
  obtain ⟨x, hx, hxa⟩ := touch_of ha
  obtain ⟨y, hy, hyb⟩ := touch_of hb
  rcases getElem?_append_cases hx with ⟨hi, hx'⟩ | ⟨_, hxu⟩
  · rcases getElem?_append_cases hy with ⟨hj, hy'⟩ | ⟨_, hyu⟩
    · exact h ⟨i, j, hij, ⟨a, b, by simp [Trace.act?, hx', hxa], by simp [Trace.act?, hy', hyb], hc⟩, fun e => n1 (hb_app u e), fun e => n2 (hb_app u e)⟩
    · rw [hu y hyu] at hyb; cases hyb
  · rw [hu x hxu] at hxa; cases hxa

/-- A touch of the grown trace. -/
theorem touch_cases {t u : Trace} {i : Nat} {a : Touch} (h : touchAt (t ++ u) i = some a) : (i < t.size ∧ touchAt t i = some a) ∨ (t.size ≤ i ∧ ∃ op ∈ u, (t ++ u)[i]? = some op ∧ op.act.touch? = some a) := by
  obtain ⟨x, hx, hxa⟩ := touch_of h
  rcases getElem?_append_cases hx with ⟨hi, hx'⟩ | ⟨hi, hxu⟩
  · exact .inl ⟨hi, by rw [touchAt_of hx']; exact hxa⟩
  · exact .inr ⟨hi, x, hxu, hx, hxa⟩

theorem gapp {t : Trace} (u : Trace) {i g : Nat} (h : t.g? i = some g) : (t ++ u).g? i = some g := by
  unfold Trace.g? at h ⊢
  obtain ⟨z, hz, hg⟩ := Option.map_eq_some_iff.1 h
  rw [getElem?_append_old (lt_size_of_getElem? hz), hz]
  simp [hg]
theorem gof {t : Trace} {i : Nat} {op : MemOp} (h : t[i]? = some op) : t.g? i = some op.g := by simp [Trace.g?, h]
theorem counts_touch {t : Trace} {i : Nat} (h : t.counts i) : ∃ a, touchAt t i = some a ∧ a.loc.isMemory = true := by
  obtain ⟨x, h1, h2, _⟩ := h
  exact ⟨x, h1, h2⟩

/-- While both are at work: B the end of what both read; M0, M1 what each has to itself. -/
structure TrA (B n : Nat) (M0 M1 : Nat → Prop) (sz : Nat) (T : Trace) : Prop where
  clean : ∀ said, ¬ Race said T
  k0 : ∀ i a, touchAt T i = some a → a.loc.isMemory = true → Knows T 0 i ∨ (T.g? i = some n ∧ inB B M1 a.write a.loc)
  k1 : ∀ i a, touchAt T i = some a → a.loc.isMemory = true → Knows T n i ∨ (T.g? i = some 0 ∧ inB B M0 a.write a.loc)
  over : ∀ i g, T.g? i = some g → g ≠ 0 → g ≠ n → T.counts i → ∃ j, T.g? j = some 0 ∧ HappensBefore T i j
  h0 : Deaf T 0 = 0
  hn : Deaf T n = 0
  seen : ∀ op ∈ T, op.act.low sz

section
variable {B n : Nat} {M0 M1 M0' M1' : Nat → Prop} {sz sz' : Nat} {T u : Trace}

theorem over_app {S : Nat → Prop} (h : ∀ i g, T.g? i = some g → S g → T.counts i → ∃ j, T.g? j = some 0 ∧ HappensBefore T i j) (hu : ∀ op ∈ u, ¬ S op.g ∨ op.act.touch? = none) :
    ∀ i g, (T ++ u).g? i = some g → S g → (T ++ u).counts i → ∃ j, (T ++ u).g? j = some 0 ∧ HappensBefore (T ++ u) i j := by
  intro i g hg hS hc
  have hc' := hc
  obtain ⟨x, hx, _⟩ := hc
  obtain ⟨op, hop, hox⟩ := touch_of hx
  rcases getElem?_append_cases hop with ⟨hi, hop'⟩ | ⟨_, hopu⟩
  · obtain ⟨j, hj, hb⟩ := h i g (by rw [← hg]; exact (Go.Conc.g?_old hi).symm) hS ((Go.Conc.counts_old hi).1 hc')
    exact ⟨j, gapp u hj, hb_app u hb⟩
  · rcases hu op hopu with h0 | h0
    · rw [gof hop] at hg
      cases hg
      exact absurd hS h0
    · rw [h0] at hox; cases hox

theorem seen_next (h : ∀ op ∈ T, op.act.low sz) (hs : sz ≤ sz') (hu : ∀ op ∈ u, op.act.low sz') : ∀ op ∈ T ++ u, op.act.low sz' := fun op hop => (Array.mem_append.1 hop).elim (fun x => Go.MemAct.low_mono hs (h op x)) (hu op)

/-- Operations that touch nothing. -/
theorem TrA.mute (h : TrA B n M0 M1 sz T) (hu : ∀ op ∈ u, op.act.touch? = none ∧ op.act.low sz ∧ ((op.g ≠ 0 ∧ op.g ≠ n) ∨ (op.act ≠ .mark .disable ∧ op.act ≠ .mark .enable))) : TrA B n M0 M1 sz (T ++ u) := by
  refine ⟨fun said => noRace_mute (h.clean said) fun op hop => (hu op hop).1, fun i a ha hm => ?_, fun i a ha hm => ?_, fun i g hg g0 gn hc => ?_, ?_, ?_, seen_next h.seen (Nat.le_refl _) fun op hop => (hu op hop).2.1⟩
  · rcases touch_cases ha with ⟨_, ha'⟩ | ⟨_, op, hop, _, ht⟩
    · exact (h.k0 i a ha' hm).imp (·.app u) fun x => ⟨gapp u x.1, x.2⟩
    · rw [(hu op hop).1] at ht; cases ht
  · rcases touch_cases ha with ⟨_, ha'⟩ | ⟨_, op, hop, _, ht⟩
    · exact (h.k1 i a ha' hm).imp (·.app u) fun x => ⟨gapp u x.1, x.2⟩
    · rw [(hu op hop).1] at ht; cases ht
  · exact over_app (S := fun g => g ≠ 0 ∧ g ≠ n) (fun i g hg hS hc => h.over i g hg hS.1 hS.2 hc) (fun op hop => .inr (hu op hop).1) i g hg ⟨g0, gn⟩ hc
  · rw [deaf_same T u 0 fun op hop => (hu op hop).2.2.imp (·.1) id]; exact h.h0
  · rw [deaf_same T u n fun op hop => (hu op hop).2.2.imp (·.2) id]; exact h.hn

/-- What goroutine 0 does. -/
theorem TrA.own0 (h : TrA B n M0 M1 sz T) (hM : ∀ b, M0 b → M0' b) (hd : ∀ b, M0' b → M1 b → False) (hs : sz ≤ sz') {fn : FuncId} {pos : String} {es : Array Event} (h1 : EvOk sz' es) (h2 : EvM B M0' es) :
    TrA B n M0' M1 sz' (T ++ MemOp.ofEvents 0 fn pos es) := by
  have hu : ∀ op ∈ MemOp.ofEvents 0 fn pos es, op.g = 0 ∧ (∀ b, op.act.touch? = some b → inB B M0' b.write b.loc) ∧ op.act.low sz' ∧ op.act ≠ .mark .disable ∧ op.act ≠ .mark .enable := by
    intro op hop
    obtain ⟨e, he, rfl⟩ := Go.Conc.mem_ofEvents hop
    refine ⟨rfl, fun b hb => h2 e he b hb, (h1 e he).2.2.2, ?_, ?_⟩
    · intro x
      obtain ⟨loc, wr, sy⟩ := e
      have := (h1 _ he).2.1
      cases loc <;> first | (simp [MemAct.ofEvent] at x; done) | (cases wr <;> cases sy <;> simp_all [MemAct.ofEvent])
    · intro x
      obtain ⟨loc, wr, sy⟩ := e
      have := (h1 _ he).2.2.1
      cases loc <;> first | (simp [MemAct.ofEvent] at x; done) | (cases wr <;> cases sy <;> simp_all [MemAct.ofEvent])
  generalize MemOp.ofEvents 0 fn pos es = u at hu
  refine ⟨fun said => noRace_append (h.clean said) (fun op hop => (hu op hop).1) fun i a ha op hop b hb hc => ?_, fun i a ha hm => ?_, fun i a ha hm => ?_, fun i g hg g0 gn hc => ?_, ?_, ?_, seen_next h.seen hs fun op hop => (hu op hop).2.2.1⟩
  · rcases h.k0 i a ha hc.2.1 with hk | ⟨_, hk⟩
    · exact hk
    · exact (inB_apart hk ((hu op hop).2.1 b hb) (fun x p q => hd x q p) hc).elim
  · rcases touch_cases ha with ⟨_, ha'⟩ | ⟨_, op, hop, hx, ht⟩
    · exact (h.k0 i a ha' hm).imp (·.app u) fun x => ⟨gapp u x.1, x.2⟩
    · have := knows_own hx
      rw [(hu op hop).1] at this
      exact .inl this
  · rcases touch_cases ha with ⟨_, ha'⟩ | ⟨_, op, hop, hx, ht⟩
    · exact (h.k1 i a ha' hm).imp (·.app u) fun x => ⟨gapp u x.1, x.2.mono hM⟩
    · exact .inr ⟨by rw [gof hx, (hu op hop).1], (hu op hop).2.1 a ht⟩
  · exact over_app (S := fun g => g ≠ 0 ∧ g ≠ n) (fun i g hg hS hc => h.over i g hg hS.1 hS.2 hc) (fun op hop => .inl fun x => x.1 (hu op hop).1) i g hg ⟨g0, gn⟩ hc
  · rw [deaf_same T u 0 fun op hop => .inr (hu op hop).2.2.2]; exact h.h0
  · rw [deaf_same T u n fun op hop => .inr (hu op hop).2.2.2]; exact h.hn

/-- What goroutine n does. -/
theorem TrA.own1 (h : TrA B n M0 M1 sz T) (hM : ∀ b, M1 b → M1' b) (hd : ∀ b, M0 b → M1' b → False) (hs : sz ≤ sz') {fn : FuncId} {pos : String} {es : Array Event} (h1 : EvOk sz' es) (h2 : EvM B M1' es) :
    TrA B n M0 M1' sz' (T ++ MemOp.ofEvents n fn pos es) := by
  have hu : ∀ op ∈ MemOp.ofEvents n fn pos es, op.g = n ∧ (∀ b, op.act.touch? = some b → inB B M1' b.write b.loc) ∧ op.act.low sz' ∧ op.act ≠ .mark .disable ∧ op.act ≠ .mark .enable := by
    intro op hop
    obtain ⟨e, he, rfl⟩ := Go.Conc.mem_ofEvents hop
    refine ⟨rfl, fun b hb => h2 e he b hb, (h1 e he).2.2.2, ?_, ?_⟩
    · intro x
      obtain ⟨loc, wr, sy⟩ := e
      have := (h1 _ he).2.1
      cases loc <;> first | (simp [MemAct.ofEvent] at x; done) | (cases wr <;> cases sy <;> simp_all [MemAct.ofEvent])
    · intro x
      obtain ⟨loc, wr, sy⟩ := e
      have := (h1 _ he).2.2.1
      cases loc <;> first | (simp [MemAct.ofEvent] at x; done) | (cases wr <;> cases sy <;> simp_all [MemAct.ofEvent])
  generalize MemOp.ofEvents n fn pos es = u at hu
  refine ⟨fun said => noRace_append (h.clean said) (fun op hop => (hu op hop).1) fun i a ha op hop b hb hc => ?_, fun i a ha hm => ?_, fun i a ha hm => ?_, fun i g hg g0 gn hc => ?_, ?_, ?_, seen_next h.seen hs fun op hop => (hu op hop).2.2.1⟩
  · rcases h.k1 i a ha hc.2.1 with hk | ⟨_, hk⟩
    · exact hk
    · exact (inB_apart hk ((hu op hop).2.1 b hb) hd hc).elim
  · rcases touch_cases ha with ⟨_, ha'⟩ | ⟨_, op, hop, hx, ht⟩
    · exact (h.k0 i a ha' hm).imp (·.app u) fun x => ⟨gapp u x.1, x.2.mono hM⟩
    · exact .inr ⟨by rw [gof hx, (hu op hop).1], (hu op hop).2.1 a ht⟩
  · rcases touch_cases ha with ⟨_, ha'⟩ | ⟨_, op, hop, hx, ht⟩
    · exact (h.k1 i a ha' hm).imp (·.app u) fun x => ⟨gapp u x.1, x.2⟩
    · have := knows_own hx
      rw [(hu op hop).1] at this
      exact .inl this
  · exact over_app (S := fun g => g ≠ 0 ∧ g ≠ n) (fun i g hg hS hc => h.over i g hg hS.1 hS.2 hc) (fun op hop => .inl fun x => x.2 (hu op hop).1) i g hg ⟨g0, gn⟩ hc
  · rw [deaf_same T u 0 fun op hop => .inr (hu op hop).2.2.2]; exact h.h0
  · rw [deaf_same T u n fun op hop => .inr (hu op hop).2.2.2]; exact h.hn
end

/-- Behind the close of e, at p, by goroutine n. -/
structure TrC (B e p : Nat) (M0 M1 : Nat → Prop) (sz : Nat) (T : Trace) : Prop where
  clean : ∀ said, ¬ Race said T
  k0 : ∀ i a, touchAt T i = some a → a.loc.isMemory = true → Knows T 0 i ∨ (Before T i p ∧ (inB B M1 a.write a.loc ∨ ∃ x, a.loc = .obj x))
  over : ∀ i g, T.g? i = some g → g ≠ 0 → T.counts i → (∃ j, T.g? j = some 0 ∧ HappensBefore T i j) ∨ Before T i p
  cl : T.act? p = some (.close e)
  hp : T.heard p
  h0 : Deaf T 0 = 0
  seen : ∀ op ∈ T, op.act.low sz
  dj : ∀ b, M0 b → M1 b → False

section
variable {B n e p : Nat} {M0 M1 M0' M1' : Nat → Prop} {sz sz' : Nat} {T u : Trace}

theorem over_app' {Q : Trace → Nat → Prop} (hQ : ∀ i, Q T i → Q (T ++ u) i) (h : ∀ i g, T.g? i = some g → g ≠ 0 → T.counts i → (∃ j, T.g? j = some 0 ∧ HappensBefore T i j) ∨ Q T i) (hu : ∀ op ∈ u, op.g = 0 ∨ op.act.touch? = none) :
    ∀ i g, (T ++ u).g? i = some g → g ≠ 0 → (T ++ u).counts i → (∃ j, (T ++ u).g? j = some 0 ∧ HappensBefore (T ++ u) i j) ∨ Q (T ++ u) i := by
  intro i g hg hS hc
  have hc' := hc
  obtain ⟨x, hx, _⟩ := hc
  obtain ⟨op, hop, hox⟩ := touch_of hx
  rcases getElem?_append_cases hop with ⟨hi, hop'⟩ | ⟨_, hopu⟩
  · rcases h i g (by rw [← hg]; exact (Go.Conc.g?_old hi).symm) hS ((Go.Conc.counts_old hi).1 hc') with ⟨j, hj, hb⟩ | hb
    · exact .inl ⟨j, gapp u hj, hb_app u hb⟩
    · exact .inr (hQ i hb)
  · rcases hu op hopu with h0 | h0
    · rw [gof hop] at hg
      cases hg
      exact absurd h0 hS
    · rw [h0] at hox; cases hox

theorem TrC.mute (h : TrC B e p M0 M1 sz T) (hu : ∀ op ∈ u, op.act.touch? = none ∧ op.act.low sz ∧ (op.g ≠ 0 ∨ (op.act ≠ .mark .disable ∧ op.act ≠ .mark .enable))) : TrC B e p M0 M1 sz (T ++ u) := by
  have hp := Go.Conc.lt_of_act? h.cl
  refine ⟨fun said => noRace_mute (h.clean said) fun op hop => (hu op hop).1, fun i a ha hm => ?_, over_app' (Q := fun T i => Before T i p) (fun i hb => hb.app u) h.over fun op hop => .inr (hu op hop).1, ?_, ?_, ?_, seen_next h.seen (Nat.le_refl _) fun op hop => (hu op hop).2.1, h.dj⟩
  · rcases touch_cases ha with ⟨_, ha'⟩ | ⟨_, op, hop, _, ht⟩
    · exact (h.k0 i a ha' hm).imp (·.app u) fun x => ⟨x.1.app u, x.2⟩
    · rw [(hu op hop).1] at ht; cases ht
  · rw [Go.Conc.act?_old hp]; exact h.cl
  · exact (Go.Conc.heard_old hp).2 h.hp
  · rw [deaf_same T u 0 fun op hop => (hu op hop).2.2]; exact h.h0

theorem TrC.own0 (h : TrC B e p M0 M1 sz T) (hd : ∀ b, M0' b → M1 b → False) (hs : sz ≤ sz') {fn : FuncId} {pos : String} {es : Array Event} (h1 : EvOk sz' es) (h2 : EvM B M0' es) :
    TrC B e p M0' M1 sz' (T ++ MemOp.ofEvents 0 fn pos es) := by
  have hu : ∀ op ∈ MemOp.ofEvents 0 fn pos es, op.g = 0 ∧ (∀ b, op.act.touch? = some b → inB B M0' b.write b.loc) ∧ op.act.low sz' ∧ op.act ≠ .mark .disable ∧ op.act ≠ .mark .enable := by
    intro op hop
    obtain ⟨e, he, rfl⟩ := Go.Conc.mem_ofEvents hop
    refine ⟨rfl, fun b hb => h2 e he b hb, (h1 e he).2.2.2, ?_, ?_⟩
    · intro x
      obtain ⟨loc, wr, sy⟩ := e
      have := (h1 _ he).2.1
      cases loc <;> first | (simp [MemAct.ofEvent] at x; done) | (cases wr <;> cases sy <;> simp_all [MemAct.ofEvent])
    · intro x
      obtain ⟨loc, wr, sy⟩ := e
      have := (h1 _ he).2.2.1
      cases loc <;> first | (simp [MemAct.ofEvent] at x; done) | (cases wr <;> cases sy <;> simp_all [MemAct.ofEvent])
  generalize MemOp.ofEvents 0 fn pos es = u at hu
  have hp := Go.Conc.lt_of_act? h.cl
  refine ⟨fun said => noRace_append (h.clean said) (fun op hop => (hu op hop).1) fun i a ha op hop b hb hc => ?_, fun i a ha hm => ?_, over_app' (Q := fun T i => Before T i p) (fun i hb => hb.app u) h.over fun op hop => .inl (hu op hop).1, ?_, ?_, ?_, seen_next h.seen hs fun op hop => (hu op hop).2.2.1, hd⟩
  · rcases h.k0 i a ha hc.2.1 with hk | ⟨_, hk | ⟨x, hk⟩⟩
    · exact hk
    · exact (inB_apart hk ((hu op hop).2.1 b hb) (fun x p q => hd x q p) hc).elim
    · have := (hu op hop).2.1 b hb
      rw [← hc.1, hk] at this
      exact this.elim
  · rcases touch_cases ha with ⟨_, ha'⟩ | ⟨_, op, hop, hx, ht⟩
    · exact (h.k0 i a ha' hm).imp (·.app u) fun x => ⟨x.1.app u, x.2⟩
    · have := knows_own hx
      rw [(hu op hop).1] at this
      exact .inl this
  · rw [Go.Conc.act?_old hp]; exact h.cl
  · exact (Go.Conc.heard_old hp).2 h.hp
  · rw [deaf_same T u 0 fun op hop => .inr (hu op hop).2.2.2]; exact h.h0

theorem at_new {T : Trace} (x : MemOp) : (T ++ #[x])[T.size]? = some x := by rw [Array.getElem?_append_right (Nat.le_refl _)]; simp

/-- Goroutine n closes e. -/
theorem TrA.close (h : TrA B n M0 M1 sz T) (hn0 : n ≠ 0) (he : e < sz) (hd : ∀ b, M0 b → M1 b → False) (fn : FuncId) (pos : String) :
    TrC B e (T.size + 1) M0 M1 sz (T ++ MemOp.ofEvents n fn pos (Go.Conc.closeEvents e)) := by
  rw [Go.Conc.closeOps]
  generalize hx : ({ g := n, fn := fn, pos := pos, act := .access ⟨.obj e, false, true⟩ } : MemOp) = x
  generalize hy : ({ g := n, fn := fn, pos := pos, act := .close e } : MemOp) = y
  have xg : x.g = n := by rw [← hx]
  have yg : y.g = n := by rw [← hy]
  have xt : ∀ b, x.act.touch? = some b → b = ⟨.obj e, false, .atomic⟩ := by intro b hb; rw [← hx] at hb; simp [MemAct.touch?] at hb; exact hb.symm
  have yt : y.act.touch? = none := by rw [← hy]; rfl
  have e2 : T ++ #[x, y] = (T ++ #[x]) ++ #[y] := by rw [Array.append_assoc]; rfl
  have s1 : (T ++ #[x]).size = T.size + 1 := by simp
  have hxi : ((T ++ #[x]) ++ #[y])[T.size]? = some x := by rw [getElem?_append_old (by simp)]; exact at_new x
  have hyi : ((T ++ #[x]) ++ #[y])[T.size + 1]? = some y := by rw [← s1]; exact at_new y
  have hmem : ∀ op ∈ #[x, y], op = x ∨ op = y := by intro op hop; simpa using hop
  have hmk : ∀ op ∈ #[x, y], op.act ≠ .mark .disable ∧ op.act ≠ .mark .enable := by
    intro op hop
    rcases hmem op hop with rfl | rfl
    · rw [← hx]; simp
    · rw [← hy]; simp
  have bef : ∀ i z, (T ++ #[x, y])[i]? = some z → z.g = n → Before (T ++ #[x, y]) i (T.size + 1) := by
    intro i z hz hg
    rw [e2] at hz ⊢
    have hi := lt_size_of_getElem? hz
    simp at hi
    by_cases h1 : i = T.size + 1
    · exact .inl h1
    · exact .inr (hb_po (by omega) hz hyi (hg.trans yg.symm))
  refine ⟨fun said => noRace_append (g := n) (h.clean said) (fun op hop => by rcases hmem op hop with rfl | rfl <;> assumption) fun i a ha op hop b hb hc => ?_, fun i a ha hm => ?_, fun i g hg g0 hc => ?_, ?_, ?_, ?_, ?_, hd⟩
  · rcases hmem op hop with rfl | rfl
    · obtain rfl := xt b hb
      rcases h.k1 i a ha hc.2.1 with hk | ⟨_, hk⟩
      · exact hk
      · rw [hc.1] at hk; exact hk.elim
    · rw [yt] at hb; cases hb
  · rcases touch_cases ha with ⟨hi, ha'⟩ | ⟨_, op, hop, hz, ht⟩
    · rcases h.k0 i a ha' hm with hk | ⟨hg, hk⟩
      · exact .inl (hk.app _)
      · have hg' := gapp #[x, y] hg
        obtain ⟨z, hz, hzg⟩ := Option.map_eq_some_iff.1 hg'
        exact .inr ⟨bef i z hz hzg, .inl hk⟩
    · rcases hmem op hop with rfl | rfl
      · obtain rfl := xt a ht
        exact .inr ⟨bef i _ hz xg, .inr ⟨e, rfl⟩⟩
      · rw [yt] at ht; cases ht
  · by_cases hgn : g = n
    · subst hgn
      obtain ⟨z, hz, hzg⟩ := Option.map_eq_some_iff.1 hg
      exact .inr (bef i z hz hzg)
    · exact .inl (over_app (S := fun g => g ≠ 0 ∧ g ≠ n) (fun i g hg hS hc => h.over i g hg hS.1 hS.2 hc) (fun op hop => .inl fun w => w.2 (by rcases hmem op hop with rfl | rfl <;> assumption)) i g hg ⟨g0, hgn⟩ hc)
  · rw [e2, Go.Conc.act?_of hyi, ← hy]
  · rw [e2]
    refine ⟨n, by rw [gof hyi, yg], ?_⟩
    have : ((T ++ #[x]) ++ #[y]).deaf n (T.size + 1) = Deaf (T ++ #[x]) n := by rw [← s1]; exact Go.Conc.deaf_old (Nat.le_refl _)
    rw [this, deaf_same T #[x] n fun op hop => .inr (hmk op (by simp at hop; simp [hop]))]
    exact h.hn
  · rw [deaf_same T _ 0 fun op hop => .inr (hmk op hop)]; exact h.h0
  · refine seen_next h.seen (Nat.le_refl _) fun op hop => ?_
    rcases hmem op hop with rfl | rfl
    · rw [← hx]; exact he
    · rw [← hy]; exact he

/-- Goroutine 0 sees that e has been closed. -/
theorem TrC.fin (h : TrC B e p M0 M1 sz T) (he : e < sz) (y : MemOp) (hg : y.g = 0) (ha : y.act = .recvClosed e) : Past Noone sz (T ++ #[y]) := by
  have hp := Go.Conc.lt_of_act? h.cl
  have hy := at_new (T := T) y
  have yt : y.act.touch? = none := by rw [ha]; rfl
  have hh : (T ++ #[y]).heard T.size := by
    refine ⟨0, by rw [gof hy, hg], ?_⟩
    have : (T ++ #[y]).deaf 0 T.size = Deaf T 0 := Go.Conc.deaf_old (Nat.le_refl _)
    rw [this]; exact h.h0
  have edge : HappensBefore (T ++ #[y]) p T.size := .single (.inr ⟨.closed (c := e) (by rw [Go.Conc.act?_old hp]; exact h.cl) (by rw [Go.Conc.act?_of hy, ha]), (Go.Conc.heard_old hp).2 h.hp, hh⟩)
  have hmem : ∀ op ∈ #[y], op = y := by intro op hop; simpa using hop
  have up : ∀ i, Before T i p → HappensBefore (T ++ #[y]) i T.size := fun i hb => (hb.app _).hb edge
  refine ⟨fun said => noRace_mute (h.clean said) fun op hop => by rw [hmem op hop]; exact yt, fun i a ha' hm => ?_, fun i g hgi g0 hc => ?_, ?_, ?_⟩
  · rcases touch_cases ha' with ⟨_, ha1⟩ | ⟨_, op, hop, _, ht⟩
    · rcases h.k0 i a ha1 hm with hk | ⟨hb, _⟩
      · exact .inl (hk.app _)
      · exact .inl ⟨T.size, y, hy, hg, .inr (up i hb)⟩
    · rw [hmem op hop, yt] at ht; cases ht
  · rcases over_app' (Q := fun T' i => HappensBefore T' i T.size ∨ Before T i p) (u := #[y]) (T := T) (fun i hb => hb.elim (fun x => .inl (hb_app _ x)) (fun x => .inr x)) (fun i g h1 h2 h3 => (h.over i g h1 h2 h3).imp id .inr) (fun op hop => .inr (by rw [hmem op hop]; exact yt)) i g hgi g0 hc with x | x | x
    · exact x
    · exact ⟨T.size, by rw [gof hy, hg], x⟩
    · exact ⟨T.size, by rw [gof hy, hg], up i x⟩
  · rw [deaf_same T _ 0 fun op hop => .inr (by rw [hmem op hop, ha]; simp)]; exact h.h0
  · exact seen_next h.seen (Nat.le_refl _) fun op hop => by rw [hmem op hop, ha]; exact he
end
end Go.Av

/-
  A goroutine that makes values and sends them, and goroutine 0 that takes them over a select until the end is told; others only leave.
-/
namespace Go.Av
set_option linter.unusedSectionVars false
set_option linter.unusedSimpArgs false
set_option linter.unusedVariables false
open Go.Conc (crowd parked core rcase scase ph offersAt NoWays closeEvents QuitsD Deaf awake_of)
open Go.ConcN (sumTo upd sumTo_upd upd_ne upd_same)

/-- By own steps it comes to where At holds. -/
inductive Rch (P : Program) (m : Bool) (At : Goroutine → World → Prop) : Goroutine → World → Prop
  | stop {g : Goroutine} {v : World} (h : At g v) : Rch P m At g v
  | step {g : Goroutine} {v : World} (hr : g.status = .running) (f : ∀ v', Oth v v' → Goroutine) (u : ∀ v', Oth v v' → World) (h : ∀ v' hv, Stp P m g v' (f v' hv) (u v' hv)) (k : ∀ v' hv, Rch P m At (f v' hv) (u v' hv)) : Rch P m At g v

section
variable {P : Program} {m : Bool} {At : Goroutine → World → Prop} {g : Goroutine} {v v' : World}
theorem Rch.go (hr : g.status = .running) (h : ∀ v', Oth v v' → ∃ g' v'', Stp P m g v' g' v'' ∧ Rch P m At g' v'') : Rch P m At g v :=
  .step hr (fun v' hv => (h v' hv).choose) (fun v' hv => (h v' hv).choose_spec.choose) (fun v' hv => (h v' hv).choose_spec.choose_spec.1) (fun v' hv => (h v' hv).choose_spec.choose_spec.2)
theorem Rch.st (hAt : ∀ g v v', At g v → Oth v v' → At g v') (h : Rch P m At g v) (hv : Oth v v') : Rch P m At g v' := by
  cases h with
  | stop h => exact .stop (hAt _ _ _ h hv)
  | step hr f u h k => exact .step hr (fun w hw => f w (hv.trans hw)) (fun w hw => u w (hv.trans hw)) (fun w hw => h w _) (fun w hw => k w _)
end

/-- It sends values over c, closes e and leaves. -/
inductive Pdr (P : Program) (c e : Nat) (Sent : List Value → Prop) (Fin : List Value → World → Prop) : List Value → Goroutine → World → Prop
  | step {l : List Value} {g : Goroutine} {v : World} (hr : g.status = .running) (f : ∀ v', Oth v v' → Goroutine) (u : ∀ v', Oth v v' → World) (h : ∀ v' hv, Stp P false g v' (f v' hv) (u v' hv)) (k : ∀ v' hv, Pdr P c e Sent Fin l (f v' hv) (u v' hv)) : Pdr P c e Sent Fin l g v
  | send {l : List Value} {g : Goroutine} {v : World} (x z : Value) (sh : CommShape) (hr : g.status = .running) (hs : ∀ r, stepG P false g r = .comm g #[scase c x z] true sh r #[]) (hx : Sent (l ++ [x]))
      (k : Pdr P c e Sent Fin (l ++ [x]) (g.finishComm P #[scase c x z] sh ((0 : Nat) : Int) undef false) v) : Pdr P c e Sent Fin l g v
  | close {l : List Value} {g : Goroutine} {v : World} (g' : Goroutine) (q : Nat) (hr : g.status = .running) (hw : mayWake P g = true)
      (hs : ∀ r s rc, r.heap[e]? = some (.chan 0 #[] false s rc false) → stepG P false g r = .go g' (r.setChan e 0 #[] true s rc false) (closeEvents e)) (hg : g'.status = .running) (hq : QuitsD P q 0 g') (hf : Fin l v) : Pdr P c e Sent Fin l g v

section
variable {P : Program} {c e : Nat} {Sent : List Value → Prop} {Fin : List Value → World → Prop} {l : List Value} {g : Goroutine} {v v' : World}
theorem Pdr.go (hr : g.status = .running) (h : ∀ v', Oth v v' → ∃ g' v'', Stp P false g v' g' v'' ∧ Pdr P c e Sent Fin l g' v'') : Pdr P c e Sent Fin l g v :=
  .step hr (fun v' hv => (h v' hv).choose) (fun v' hv => (h v' hv).choose_spec.choose) (fun v' hv => (h v' hv).choose_spec.choose_spec.1) (fun v' hv => (h v' hv).choose_spec.choose_spec.2)
theorem Pdr.st (hF : ∀ l v v', Fin l v → Oth v v' → Fin l v') (h : Pdr P c e Sent Fin l g v) : ∀ {v'}, Oth v v' → Pdr P c e Sent Fin l g v' := by
  induction h with
  | step hr f u h k ih => exact fun hv => .step hr (fun w hw => f w (hv.trans hw)) (fun w hw => u w (hv.trans hw)) (fun w hw => h w _) (fun w hw => k w _)
  | send x z sh hr hs hx k ih => exact fun hv => .send x z sh hr hs hx (ih hv)
  | close g' q hr hw hs hg hq hf => exact fun hv => .close g' q hr hw hs hg hq (hF _ _ _ hf hv)
end

/-! ### views -/
section
variable {B : Nat} {M Mi Mj : Nat → Prop} {r r' v v' vj : World} {es : Array Event}
theorem Vw.at (h : Vw B M r v) (d : Nat) : Vw B M (r.at d) (v.at d) := ⟨h.size, h.tape, rfl, h.os, h.output, h.mine, h.old, h.not, h.views, h.low⟩
theorem Vw.other (hn : Nx B Mi r r' v' es) (hj : Vw B Mj r vj) (bj : ∀ b, Mj b → b < r.heap.size) (dj : ∀ b, Mi b → Mj b → False) : ∃ vj', Oth vj vj' ∧ Vw B Mj r' vj' := by
  have hsz := hn.size
  have hl := hj.low
  have e1 : ∀ b, b < r.heap.size → (vj.heap ++ Array.replicate (r'.heap.size - r.heap.size) dumb)[b]? = vj.heap[b]? := by
    intro b hb
    rw [Array.getElem?_append_left (by rw [hj.size]; exact hb)]
  have e2 : ∀ b, r.heap.size ≤ b → b < r'.heap.size → (vj.heap ++ Array.replicate (r'.heap.size - r.heap.size) dumb)[b]? = some dumb := by
    intro b hb hb'
    rw [Array.getElem?_append_right (by rw [hj.size]; exact hb), Array.getElem?_replicate, if_pos (by rw [hj.size]; omega)]
  refine ⟨{ vj with heap := vj.heap ++ Array.replicate (r'.heap.size - r.heap.size) dumb, drawn := r'.drawn }, ⟨rfl, rfl, rfl, by simp, fun b hb => e1 b (by rw [← hj.size]; exact hb)⟩, ⟨by simp [hj.size]; omega, hj.tape.trans hn.tape.symm, rfl, hj.os.trans hn.os.symm, hj.output.trans hn.output.symm, fun b hb hm => ?_, fun b hb => ?_, fun b hb hm hlt => ?_, fun b x u => ?_, Nat.le_trans hj.low hsz⟩⟩
  · have hlt := bj b hm
    rw [e1 b hlt, hn.keeps b hlt fun x => dj b x.2 hm]
    exact hj.mine b hb hm
  · rw [e1 b (by omega), hn.keeps b (by omega) fun x => by omega]
    exact hj.old b hb
  · by_cases h : b < r.heap.size
    · rw [e1 b h]; exact hj.not b hb hm h
    · exact e2 b (by omega) hlt
  · by_cases h : b < r.heap.size
    · simp only; rw [e1 b h]; exact hj.views b x u
    · by_cases h' : b < r'.heap.size
      · simp only; rw [e2 b (by omega) h']; simp [dumb]
      · simp only
        rw [Array.getElem?_eq_none (by simp [hj.size]; omega)]
        simp
theorem size_setChan (w : World) (c cap : Nat) (buf : Array Value) (cl : Bool) (s rc : Nat) (tm : Bool) : (w.setChan c cap buf cl s rc tm).heap.size = w.heap.size := by simp [World.setChan]
theorem heap_setChan {w : World} {c b cap : Nat} {buf : Array Value} {cl : Bool} {s rc : Nat} {tm : Bool} (h : b ≠ c) : (w.setChan c cap buf cl s rc tm).heap[b]? = w.heap[b]? := by
  unfold World.setChan
  rw [Array.getElem?_setIfInBounds_ne (Ne.symm h)]
theorem heap_setChan_self {w : World} {c cap : Nat} {buf : Array Value} {cl : Bool} {s rc : Nat} {tm : Bool} (h : c < w.heap.size) : (w.setChan c cap buf cl s rc tm).heap[c]? = some (.chan cap buf cl s rc tm) := by
  unfold World.setChan
  simp [h]
theorem Vw.chan (h : Vw B M r v) {c cap cap' : Nat} {buf buf' : Array Value} {cl cl' : Bool} {s s' rc rc' : Nat} {tm tm' : Bool} (hc : r.heap[c]? = some (.chan cap buf cl s rc tm)) (hB : c < B) : Vw B M (r.setChan c cap' buf' cl' s' rc' tm') v := by
  have hs := size_setChan r c cap' buf' cl' s' rc' tm'
  refine ⟨by rw [hs]; exact h.size, h.tape, h.drawn, h.os, h.output, fun b hb hm => ?_, fun b hb => ?_, fun b hb hm hl => h.not b hb hm (by omega), h.views, by rw [hs]; exact h.low⟩
  · rw [heap_setChan (by omega)]; exact h.mine b hb hm
  · by_cases e : b = c
    · subst e
      rw [heap_setChan_self (Array.getElem?_eq_some_iff.1 hc).1]
      have := h.old b hb
      rw [hc] at this
      exact this
    · rw [heap_setChan e]; exact h.old b hb
end

def Opn (r : World) (c : Nat) : Prop := ∃ s rc, r.heap[c]? = some (.chan 0 #[] false s rc false)
/-- It stays as it is, whatever another does, while the channels are open. -/
def Sits (P : Program) (c e : Nat) (x : Goroutine) : Prop := Go.Conc.awake x ∧ ∀ g g' w, Opn w c → Opn w e → Go.Conc.woken P g g' w x = x
theorem Sits.run {P : Program} {c e : Nat} {x : Goroutine} (h : x.status = .running) : Sits P c e x := ⟨awake_of (.inl h), fun _ _ _ _ _ => Go.Conc.woken_run h⟩
theorem woken_of_again {P : Program} {g g' x : Goroutine} {w : World} (h : x.again w = x) : Go.Conc.woken P g g' w x = x := by
  unfold Go.Conc.woken
  split
  · exact h
  · rfl
theorem Sits.sel {P : Program} {c e : Nat} {x : Goroutine} {z z' : Value} : Sits P c e (parked x #[rcase c z, rcase e z'] .select) := by
  refine ⟨awake_of (.inr (.inl rfl)), fun g g' w hc he => woken_of_again (Go.Conc.again_all_open fun cc hcc => ?_)⟩
  obtain ⟨s, rc, hc⟩ := hc
  obtain ⟨s', rc', he⟩ := he
  simp only [List.mem_toArray, List.mem_cons, List.not_mem_nil, or_false] at hcc
  rcases hcc with rfl | rfl
  · exact ⟨_, _, _, _, _, _, _, rfl, hc⟩
  · exact ⟨_, _, _, _, _, _, _, rfl, he⟩
theorem Sits.snd {P : Program} {c e : Nat} {x : Goroutine} {y z : Value} {sh : CommShape} : Sits P c e (parked x #[scase c y z] sh) := by
  refine ⟨awake_of (.inr (.inl rfl)), fun g g' w hc he => woken_of_again ?_⟩
  obtain ⟨s, rc, hc⟩ := hc
  exact Go.Conc.again_parked_open (c := c) rfl hc

/-- Both are at work. -/
structure InP (P : Program) (B c e n : Nat) (W : Nat → Option Obj) (M0 M1 : Nat → Prop) (gs : Array Goroutine) (r v0 v1 : World) (T : Trace) (q : Nat → Nat) : Prop where
  lv : Lv P (fun i => i = 0 ∨ i = n) T gs q
  tr : TrA B n M0 M1 r.heap.size T
  w0 : Vw B M0 r v0
  w1 : Vw B M1 r v1
  b0 : ∀ b, M0 b → b < r.heap.size
  b1 : ∀ b, M1 b → b < r.heap.size
  dj : ∀ b, M0 b → M1 b → False
  n0 : n ≠ 0
  nl : n < gs.size
  cB : c < B
  eB : e < B
  ce : c ≠ e
  cc : Opn r c
  ee : Opn r e
  sm : ∀ b, b < B → b ≠ c → b ≠ e → r.heap[b]? = W b

/-- The run goes on to where goroutine 0 is alone with leavers and K holds. -/
def Goal (P : Program) (K : Goroutine → World → Prop) (m : Machine) (T : Trace) : Prop :=
  ∃ (N : Nat) (gs' : Array Goroutine) (g' : Goroutine) (w' : World) (sl' : Option (Nat × Nat)) (T' : Trace) (q' : Nat → Nat),
    runNT P N m T = (.next (crowd gs' w' sl'), T') ∧ Fr P gs' T' q' g' w' ∧ K g' w'
theorem Goal.of {P : Program} {K : Goroutine → World → Prop} {m m1 m2 : Machine} {T T1 : Trace} {ops : Array MemOp} {N : Nat} (h : runNT P N m T = (.next m1, T1)) (hs : stepT P m1 = (.next m2, ops)) (hg : Goal P K m2 (T1 ++ ops)) : Goal P K m T := by
  obtain ⟨N2, gs', g', w', sl', T', q', h1, h2, h3⟩ := hg
  refine ⟨N + (N2 + 1), gs', g', w', sl', T', q', runNT_trans' h ?_, h2, h3⟩
  simp only [runNT, hs]
  exact h1

section
variable {P : Program} {B c e n : Nat} {W : Nat → Option Obj} {M0 M1 : Nat → Prop} {gs : Array Goroutine} {r v0 v1 : World} {T : Trace} {q : Nat → Nat} {sl : Option (Nat × Nat)}

theorem InP.at (h : InP P B c e n W M0 M1 gs r v0 v1 T q) (d : Nat) : InP P B c e n W M0 M1 gs (r.at d) (v0.at d) (v1.at d) T q :=
  ⟨h.lv, h.tr, h.w0.at d, h.w1.at d, h.b0, h.b1, h.dj, h.n0, h.nl, h.cB, h.eB, h.ce, h.cc, h.ee, h.sm⟩

theorem InP.until (h : InP P B c e n W M0 M1 gs r v0 v1 T q) {x0 x1 : Goroutine} (h0 : gs[0]? = some x0) (h1 : gs[n]? = some x1) (s0 : Sits P c e x0) (s1 : Sits P c e x1) (hr : x0.status = .running ∨ x1.status = .running) :
    ∃ N gs' d sl' T' q' i sl2 d2, runNT P N (crowd gs r sl) T = (.next (crowd gs' (r.at d) sl'), T') ∧ stepT P (crowd gs' (r.at d) sl') = runT P (crowd gs' (r.at d2) sl2) i ∧
      ((i = 0 ∧ x0.status = .running) ∨ (i = n ∧ x1.status = .running)) ∧ gs'[0]? = some x0 ∧ gs'[n]? = some x1 ∧ InP P B c e n W M0 M1 gs' (r.at d2) (v0.at d2) (v1.at d2) T' q' := by
  have hall : ∀ i g, (i = 0 ∨ i = n) → gs[i]? = some g → Sits P c e g := by
    rintro i g (rfl | rfl) hg
    · rw [h0] at hg; cases hg; exact s0
    · rw [h1] at hg; cases hg; exact s1
  obtain ⟨N, gs', d, sl', u, q', i, g, d2, sl2, a1, a2, a3, a4, a5, a6, a7, a8, a9⟩ := Lv.until (S := fun i => i = 0 ∨ i = n) (sl := sl) (r := r) (.inl rfl) h.lv (fun i g hi hg => (hall i g hi hg).1)
    (by rcases hr with hr | hr; exact ⟨0, x0, .inl rfl, h0, hr⟩; exact ⟨n, x1, .inr rfl, h1, hr⟩) (fun i g hi hg x g' d => (hall i g hi hg).2 x g' _ h.cc h.ee)
  have e0 : gs'[0]? = some x0 := (a7 0 (.inl rfl)).trans h0
  have e1 : gs'[n]? = some x1 := (a7 n (.inr rfl)).trans h1
  refine ⟨N, gs', d, sl', T ++ u, q', i, sl2, d2, a1, a2, ?_, e0, e1, ⟨a8, h.tr.mute fun op hop => ?_, h.w0.at d2, h.w1.at d2, h.b0, h.b1, h.dj, h.n0, by rw [a6]; exact h.nl, h.cB, h.eB, h.ce, h.cc, h.ee, h.sm⟩⟩
  · rcases a3 with rfl | rfl
    · rw [e0] at a4; cases a4; exact .inl ⟨rfl, a5⟩
    · rw [e1] at a4; cases a4; exact .inr ⟨rfl, a5⟩
  · obtain ⟨k1, _, k2, k3⟩ := a9 op hop
    exact ⟨k2, Go.MemAct.low_mono (Nat.zero_le _) k3, .inl ⟨fun x => k1 (.inl x), fun x => k1 (.inr x)⟩⟩

/-- The array behind an own step. -/
theorem set_other {gs : Array Goroutine} {i j : Nat} {f : Goroutine → Goroutine} {g' : Goroutine} (hij : i ≠ j) {x : Goroutine} (hx : gs[j]? = some x) (hf : f x = x) : ((gs.map f).setIfInBounds i g')[j]? = some x := by
  rw [Array.getElem?_setIfInBounds_ne hij, Array.getElem?_map, hx]
  simp [hf]
theorem set_self {gs : Array Goroutine} {i : Nat} {f : Goroutine → Goroutine} {g' : Goroutine} (hi : i < gs.size) : ((gs.map f).setIfInBounds i g')[i]? = some g' := by simp [hi]
theorem lv_own (h : Lv P (fun i => i = 0 ∨ i = n) T gs q) {i : Nat} (hi : i = 0 ∨ i = n) (hlt : i < gs.size) {g g' : Goroutine} {w : World} {fn : FuncId} {pos : String} {es : Array Event} :
    Lv P (fun i => i = 0 ∨ i = n) (T ++ MemOp.ofEvents i fn pos es) ((gs.map (Go.Conc.woken P g g' w)).setIfInBounds i g') q := by
  refine h.next (by simp) (fun j hj => ?_) fun op hop => by obtain ⟨e, _, rfl⟩ := Go.Conc.mem_ofEvents hop; exact ⟨hi, hlt⟩
  have hne : i ≠ j := fun e => hj (e ▸ hi)
  rw [Array.getElem?_setIfInBounds_ne hne, Array.getElem?_map]
  cases hgj : gs[j]? with
  | none => rfl
  | some y => simp only [Option.map_some]; rw [h.wk hj hgj]

theorem InP.own0 (h : InP P B c e n W M0 M1 gs r v0 v1 T q) {g g' x1 : Goroutine} {v0' : World} (h0 : gs[0]? = some g) (h1 : gs[n]? = some x1) (s1 : Sits P c e x1) (hs : Stp P true g v0 g' v0') :
    ∃ gs' r' v1' ops, runT P (crowd gs r sl) 0 = (.next (crowd gs' r' sl), ops) ∧ Oth v1 v1' ∧ gs'[0]? = some g' ∧ gs'[n]? = some x1 ∧ InP P B c e n W (plus M0 r r') M1 gs' r' v0' v1' (T ++ ops) q := by
  obtain ⟨r', es, hgo, hn⟩ := hs.two B M0 r h.w0
  obtain ⟨v1', ho, hv⟩ := Vw.other hn h.w1 h.b1 h.dj
  have hk : ∀ b, b < B → r'.heap[b]? = r.heap[b]? := fun b hb => hn.keeps b (Nat.lt_of_lt_of_le hb h.w0.low) fun x => by omega
  have hcc : Opn r' c := by obtain ⟨s, rc, x⟩ := h.cc; exact ⟨s, rc, by rw [hk c h.cB]; exact x⟩
  have hee : Opn r' e := by obtain ⟨s, rc, x⟩ := h.ee; exact ⟨s, rc, by rw [hk e h.eB]; exact x⟩
  have hlt : 0 < gs.size := (Array.getElem?_eq_some_iff.1 h0).1
  have hd : ∀ b, plus M0 r r' b → M1 b → False := by
    rintro b (x | x) y
    · exact h.dj b x y
    · have := h.b1 b y; omega
  have hrun := Go.Conc.runT_crowd_go (P := P) (sl := sl) (i := 0) h0 (show stepG P (0 == 0) g r = _ from hgo)
  refine ⟨_, r', v1', _, hrun, ho, set_self hlt, set_other (Ne.symm h.n0) h1 (s1.2 _ _ _ hcc hee), ⟨lv_own h.lv (.inl rfl) hlt, h.tr.own0 (fun b x => .inl x) hd hn.size hn.ok hn.ev, hn.vw, hv, ?_, fun b x => Nat.lt_of_lt_of_le (h.b1 b x) hn.size, hd, h.n0, by simp; exact h.nl, h.cB, h.eB, h.ce, hcc, hee, fun b x y z => (hk b x).trans (h.sm b x y z)⟩⟩
  rintro b (x | x)
  · exact Nat.lt_of_lt_of_le (h.b0 b x) hn.size
  · exact x.2

theorem InP.own1 (h : InP P B c e n W M0 M1 gs r v0 v1 T q) {g g' x0 : Goroutine} {v1' : World} (h1 : gs[n]? = some g) (h0 : gs[0]? = some x0) (s0 : Sits P c e x0) (hs : Stp P false g v1 g' v1') :
    ∃ gs' r' v0' ops, runT P (crowd gs r sl) n = (.next (crowd gs' r' sl), ops) ∧ Oth v0 v0' ∧ gs'[n]? = some g' ∧ gs'[0]? = some x0 ∧ InP P B c e n W M0 (plus M1 r r') gs' r' v0' v1' (T ++ ops) q := by
  obtain ⟨r', es, hgo, hn⟩ := hs.two B M1 r h.w1
  obtain ⟨v0', ho, hv⟩ := Vw.other hn h.w0 h.b0 (fun b x y => h.dj b y x)
  have hk : ∀ b, b < B → r'.heap[b]? = r.heap[b]? := fun b hb => hn.keeps b (Nat.lt_of_lt_of_le hb h.w0.low) fun x => by omega
  have hcc : Opn r' c := by obtain ⟨s, rc, x⟩ := h.cc; exact ⟨s, rc, by rw [hk c h.cB]; exact x⟩
  have hee : Opn r' e := by obtain ⟨s, rc, x⟩ := h.ee; exact ⟨s, rc, by rw [hk e h.eB]; exact x⟩
  have hd : ∀ b, M0 b → plus M1 r r' b → False := by
    rintro b y (x | x)
    · exact h.dj b y x
    · have := h.b0 b y; omega
  have hb : (n == 0) = false := by simpa using h.n0
  have hrun := Go.Conc.runT_crowd_go (P := P) (sl := sl) (i := n) h1 (by rw [hb]; exact hgo)
  refine ⟨_, r', v0', _, hrun, ho, set_self h.nl, set_other h.n0 h0 (s0.2 _ _ _ hcc hee), ⟨lv_own h.lv (.inr rfl) h.nl, h.tr.own1 (fun b x => .inl x) hd hn.size hn.ok hn.ev, hv, hn.vw, fun b x => Nat.lt_of_lt_of_le (h.b0 b x) hn.size, ?_, hd, h.n0, by simp; exact h.nl, h.cB, h.eB, h.ce, hcc, hee, fun b x y z => (hk b x).trans (h.sm b x y z)⟩⟩
  rintro b (x | x)
  · exact Nat.lt_of_lt_of_le (h.b1 b x) hn.size
  · exact x.2
end
end Go.Av

/-
  A goroutine that makes values and sends them, and goroutine 0 that takes them: the run goes on to the end.
-/
namespace Go.Av
set_option linter.unusedSectionVars false
set_option linter.unusedSimpArgs false
set_option linter.unusedVariables false
open Go.Conc (crowd parked core rcase scase ph offersAt NoWays closeEvents QuitsD Deaf awake_of)
open Go.ConcN (sumTo upd sumTo_upd upd_ne upd_same)

/-- Goroutine 0 stands at the select over c and e. -/
def SelAt (P : Program) (c e : Nat) (z z' : Value) (g : Goroutine) : Prop :=
  g.status = .running ∧ ∀ r, stepG P true g r = .comm (core g) #[rcase c z, rcase e z'] true .select r #[]

section
variable {P : Program} {B c e n : Nat} {W : Nat → Option Obj} {M0 M1 : Nat → Prop} {gs : Array Goroutine} {r v0 v1 : World} {T : Trace} {q : Nat → Nat} {sl : Option (Nat × Nat)} {z z' : Value}

theorem stand_lv {S : Nat → Prop} (h : Lv P S T gs q) {i j : Nat} (hj : ¬ S j) {x : Goroutine} (hx : (gs.setIfInBounds i ph)[j]? = some x) (c : Nat) (b : Bool) : offersAt x c b = [] := by
  rcases Go.Conc.getElem?_stand gs i j x hx with ⟨_, rfl⟩ | ⟨_, hx⟩
  · exact Go.Conc.offersAt_ph _ _
  · have := (h.old j x hj hx).status
    exact Go.Conc.offersAt_of_not_blocked (by rcases this with h | h <;> rw [h] <;> simp) _ _

/-- The array behind a communication of two. -/
theorem lv_comm (h : Lv P (fun i => i = 0 ∨ i = n) T gs q) (hl : n < gs.size) {x y : Goroutine} {u : Trace} (hu : ∀ op ∈ u, op.g = 0 ∨ op.g = n) :
    Lv P (fun i => i = 0 ∨ i = n) (T ++ u) ((gs.setIfInBounds 0 x).setIfInBounds n y) q ∧ Lv P (fun i => i = 0 ∨ i = n) (T ++ u) ((gs.setIfInBounds n y).setIfInBounds 0 x) q := by
  have hu' : ∀ op ∈ u, (op.g = 0 ∨ op.g = n) ∧ op.g < gs.size := fun op hop => ⟨hu op hop, by rcases hu op hop with h | h <;> rw [h] <;> omega⟩
  refine ⟨h.next (by simp) (fun j hj => ?_) hu', h.next (by simp) (fun j hj => ?_) hu'⟩
  · rw [Array.getElem?_setIfInBounds_ne (fun e => hj (.inr e.symm)), Array.getElem?_setIfInBounds_ne (fun e => hj (.inl e.symm))]
  · rw [Array.getElem?_setIfInBounds_ne (fun e => hj (.inl e.symm)), Array.getElem?_setIfInBounds_ne (fun e => hj (.inr e.symm))]
theorem get0 (n0 : n ≠ 0) (hl : n < gs.size) {x y : Goroutine} : ((gs.setIfInBounds 0 x).setIfInBounds n y)[0]? = some x ∧ ((gs.setIfInBounds 0 x).setIfInBounds n y)[n]? = some y ∧ ((gs.setIfInBounds n y).setIfInBounds 0 x)[0]? = some x ∧ ((gs.setIfInBounds n y).setIfInBounds 0 x)[n]? = some y := by
  have h0 : 0 < gs.size := by omega
  refine ⟨?_, by simp [hl], by simp [h0], ?_⟩
  · rw [Array.getElem?_setIfInBounds_ne n0]; simp [h0]
  · rw [Array.getElem?_setIfInBounds_ne (Ne.symm n0)]; simp [hl]

/-- The four operations of a meeting touch nothing. -/
theorem TrA.meet {sz : Nat} (h : TrA B n M0 M1 sz T) {u : Trace} (hc : c < sz) (hu : ∀ op ∈ u, (∃ k, op.act = .send c k) ∨ (∃ k cap, op.act = .recv c k cap) ∨ (∃ k, op.act = .sendDone c k) ∨ (∃ k, op.act = .recvDone c k)) : TrA B n M0 M1 sz (T ++ u) := by
  refine h.mute fun op hop => ?_
  rcases hu op hop with ⟨k, e⟩ | ⟨k, cap, e⟩ | ⟨k, e⟩ | ⟨k, e⟩ <;> rw [e] <;> exact ⟨rfl, hc, .inr ⟨by simp, by simp⟩⟩

theorem InP.lt (h : InP P B c e n W M0 M1 gs r v0 v1 T q) : c < r.heap.size ∧ e < r.heap.size := ⟨Nat.lt_of_lt_of_le h.cB h.w0.low, Nat.lt_of_lt_of_le h.eB h.w0.low⟩

/-- Goroutine n's send meets goroutine 0, which is parked at the select. -/
theorem InP.sendMeets (h : InP P B c e n W M0 M1 gs r v0 v1 T q) {g g0 : Goroutine} {x zz : Value} {sh : CommShape} (h1 : gs[n]? = some g) (h0 : gs[0]? = some (parked (core g0) #[rcase c z, rcase e z'] .select)) (hs : stepG P false g r = .comm g #[scase c x zz] true sh r #[]) :
    ∃ gs' r' ops, runT P (crowd gs r sl) n = (.next (crowd gs' r' sl), ops) ∧ gs'[n]? = some (g.finishComm P #[scase c x zz] sh ((0 : Nat) : Int) undef false) ∧ gs'[0]? = some ((core g0).finishComm P #[rcase c z, rcase e z'] .select ((0 : Nat) : Int) x true) ∧
      InP P B c e n W M0 M1 gs' r' v0 v1 (T ++ ops) q := by
  obtain ⟨s, rc, hc⟩ := h.cc
  have hb : (n == 0) = false := by simpa using h.n0
  have hp : partners (gs.setIfInBounds n ph) c false = [(0, 0)] := by
    rw [Go.Conc.partners_one (j := 0) (g := parked (core g0) #[rcase c z, rcase e z'] .select) (by rw [Array.getElem?_setIfInBounds_ne h.n0]; exact h0) fun k y hk hy => ?_]
    · rw [Go.Conc.offersAt_parked_at (k := 0) (z := z) rfl fun m cc hm hcc => ?_]
      · rfl
      · match m, hm with
        | 1, _ => simp at hcc; subst hcc; simp [rcase]; exact h.ce.symm
        | m + 2, _ => simp at hcc
    · by_cases hkn : k = n
      · subst hkn
        rcases Go.Conc.getElem?_stand gs k k y hy with ⟨_, rfl⟩ | ⟨x, _⟩
        · exact Go.Conc.offersAt_ph _ _
        · exact absurd rfl x
      · exact stand_lv h.lv (by simp [hk, hkn]) hy _ _
  have hrun := Go.Conc.crowd_send_meets_sel (P := P) (sl := sl) (j := 0) (k := 0) (zj := z) h1 (by rw [hb]; exact hs) hc (Ne.symm h.n0) h0 rfl hp
  obtain ⟨g1, g2, _, _⟩ := get0 (gs := gs) h.n0 h.nl (x := (core g0).finishComm P #[rcase c z, rcase e z'] .select ((0 : Nat) : Int) x true) (y := g.finishComm P #[scase c x zz] sh ((0 : Nat) : Int) undef false)
  refine ⟨_, _, _, hrun, g2, g1, ⟨(lv_comm h.lv h.nl fun op hop => ?_).1, ?_, h.w0.chan hc h.cB, h.w1.chan hc h.cB, fun b x => by rw [size_setChan]; exact h.b0 b x, fun b x => by rw [size_setChan]; exact h.b1 b x, h.dj, h.n0, by simp; exact h.nl, h.cB, h.eB, h.ce, ⟨_, _, heap_setChan_self h.lt.1⟩, ?_, fun b x y z => by rw [heap_setChan y]; exact h.sm b x y z⟩⟩
  · simp [MemOp.ofEvents] at hop
    rcases hop with rfl | rfl | rfl | rfl <;> simp
  · rw [size_setChan]
    refine h.tr.meet h.lt.1 fun op hop => ?_
    simp [MemOp.ofEvents] at hop
    rcases hop with rfl | rfl | rfl | rfl <;> simp
  · obtain ⟨s', rc', he⟩ := h.ee
    exact ⟨s', rc', by rw [heap_setChan h.ce.symm]; exact he⟩

/-- Goroutine 0 comes to the select: goroutine n is parked at its send. -/
theorem InP.selMeets (h : InP P B c e n W M0 M1 gs r v0 v1 T q) {g g0 : Goroutine} {x zz : Value} {sh : CommShape} (h1 : gs[n]? = some (parked g #[scase c x zz] sh)) (h0 : gs[0]? = some g0) (hs : SelAt P c e z z' g0) :
    ∃ gs' r' ops, runT P (crowd gs r sl) 0 = (.next (crowd gs' r' sl), ops) ∧ gs'[n]? = some (g.finishComm P #[scase c x zz] sh ((0 : Nat) : Int) undef false) ∧ gs'[0]? = some ((core g0).finishComm P #[rcase c z, rcase e z'] .select ((0 : Nat) : Int) x true) ∧
      InP P B c e n W M0 M1 gs' r' v0 v1 (T ++ ops) q := by
  obtain ⟨s, rc, hc⟩ := h.cc
  obtain ⟨s', rc', he⟩ := h.ee
  have hn' : (gs.setIfInBounds 0 ph)[n]? = some (parked g #[scase c x zz] sh) := by rw [Array.getElem?_setIfInBounds_ne (Ne.symm h.n0)]; exact h1
  have oth : ∀ (k : Nat) (y : Goroutine) (c' : Nat), k ≠ n → (gs.setIfInBounds 0 ph)[k]? = some y → offersAt y c' true = [] := by
    intro k y c' hk hy
    by_cases hk0 : k = 0
    · subst hk0
      rcases Go.Conc.getElem?_stand gs 0 0 y hy with ⟨_, rfl⟩ | ⟨x, _⟩
      · exact Go.Conc.offersAt_ph _ _
      · exact absurd rfl x
    · exact stand_lv h.lv (by simp [hk, hk0]) hy _ _
  have hp : partners (gs.setIfInBounds 0 ph) c true = [(n, 0)] := by
    rw [Go.Conc.partners_one hn' fun k y hk hy => oth k y c hk hy, Go.Conc.offersAt_parked_send, if_pos rfl]
    rfl
  have hp' : partners (gs.setIfInBounds 0 ph) e true = [] := by
    rw [Go.Conc.partners_one hn' fun k y hk hy => oth k y e hk hy, Go.Conc.offersAt_parked_send, if_neg h.ce]
    rfl
  have hrun := Go.Conc.crowd_sel_recv_meets (P := P) (sl := sl) (i := 0) (j := n) (k := 0) (z := z) h0 (hs.2 r) rfl (fun m c' hm hc' => by
    match m, hm with
    | 1, _ => simp at hc'; subst hc'; exact Go.Conc.ways_recv_none he hp'
    | m + 2, _ => simp at hc') hc h.n0 h1 hp
  obtain ⟨_, _, g1, g2⟩ := get0 (gs := gs) h.n0 h.nl (x := (core g0).finishComm P #[rcase c z, rcase e z'] .select ((0 : Nat) : Int) x true) (y := g.finishComm P #[scase c x zz] sh ((0 : Nat) : Int) undef false)
  refine ⟨_, _, _, hrun, g2, g1, ⟨(lv_comm h.lv h.nl fun op hop => ?_).2, ?_, h.w0.chan hc h.cB, h.w1.chan hc h.cB, fun b x => by rw [size_setChan]; exact h.b0 b x, fun b x => by rw [size_setChan]; exact h.b1 b x, h.dj, h.n0, by simp; exact h.nl, h.cB, h.eB, h.ce, ⟨_, _, heap_setChan_self h.lt.1⟩, ⟨s', rc', by rw [heap_setChan h.ce.symm]; exact he⟩, fun b x y z => by rw [heap_setChan y]; exact h.sm b x y z⟩⟩
  · simp [MemOp.ofEvents] at hop
    rcases hop with rfl | rfl | rfl | rfl <;> simp
  · rw [size_setChan]
    refine h.tr.meet h.lt.1 fun op hop => ?_
    simp [MemOp.ofEvents] at hop
    rcases hop with rfl | rfl | rfl | rfl <;> simp

/-- Nobody but the two offers anything. -/
theorem InP.none_but (h : InP P B c e n W M0 M1 gs r v0 v1 T q) {i : Nat} {x : Goroutine} {j : Nat} (hij : (i = 0 ∧ j = n) ∨ (i = n ∧ j = 0)) (hj : gs[j]? = some x) (hx : x.status = .running) (c' : Nat) (b : Bool) : partners (gs.setIfInBounds i ph) c' b = [] := by
  refine Go.Conc.partners_nil fun k y hy => ?_
  by_cases hki : k = i
  · subst hki
    rcases Go.Conc.getElem?_stand gs k k y hy with ⟨_, rfl⟩ | ⟨x, _⟩
    · exact Go.Conc.offersAt_ph _ _
    · exact absurd rfl x
  · by_cases hkj : k = j
    · subst hkj
      rcases Go.Conc.getElem?_stand gs i k y hy with ⟨_, rfl⟩ | ⟨_, hy⟩
      · exact Go.Conc.offersAt_ph _ _
      · rw [hj] at hy; cases hy
        exact Go.Conc.offersAt_of_not_blocked (by rw [hx]; simp) _ _
    · exact stand_lv h.lv (by rcases hij with ⟨a, b⟩ | ⟨a, b⟩ <;> subst a b <;> simp [hki, hkj]) hy _ _

theorem lv_one {S : Nat → Prop} (h : Lv P S T gs q) {i : Nat} (hi : S i) {x : Goroutine} : Lv P S T (gs.setIfInBounds i x) q :=
  ⟨fun j g hj hg => h.old j g hj (by
    have hne : i ≠ j := fun e => hj (by rw [← e]; exact hi)
    rw [Array.getElem?_setIfInBounds_ne hne] at hg; exact hg), fun j hj => h.above j (by simpa using hj)⟩

/-- Goroutine n waits at its send. -/
theorem InP.sendParks (h : InP P B c e n W M0 M1 gs r v0 v1 T q) {g x0 : Goroutine} {x zz : Value} {sh : CommShape} (h1 : gs[n]? = some g) (h0 : gs[0]? = some x0) (hr : x0.status = .running) (hs : stepG P false g r = .comm g #[scase c x zz] true sh r #[]) :
    ∃ gs' ops, runT P (crowd gs r sl) n = (.next (crowd gs' r sl), ops) ∧ gs'[n]? = some (parked g #[scase c x zz] sh) ∧ gs'[0]? = some x0 ∧ InP P B c e n W M0 M1 gs' r v0 v1 (T ++ ops) q := by
  obtain ⟨s, rc, hc⟩ := h.cc
  have hb : (n == 0) = false := by simpa using h.n0
  have hrun := Go.Conc.crowd_waits (P := P) (sl := sl) h1 (by rw [hb]; exact hs) (fun cc hcc => by
    simp at hcc; subst hcc
    exact Go.Conc.ways_send_none hc (Nat.zero_le _) (h.none_but (.inr ⟨rfl, rfl⟩) h0 hr _ _))
  refine ⟨_, _, hrun, by simp [h.nl], by rw [Array.getElem?_setIfInBounds_ne h.n0]; exact h0, ?_⟩
  rw [show MemOp.ofEvents n g.frame.fn g.frame.place #[] = #[] from rfl, Array.append_empty]
  exact ⟨lv_one h.lv (.inr rfl), h.tr, h.w0, h.w1, h.b0, h.b1, h.dj, h.n0, by simp; exact h.nl, h.cB, h.eB, h.ce, h.cc, h.ee, h.sm⟩

/-- Goroutine 0 waits at the select. -/
theorem InP.selParks (h : InP P B c e n W M0 M1 gs r v0 v1 T q) {g0 x1 : Goroutine} (h0 : gs[0]? = some g0) (h1 : gs[n]? = some x1) (hr : x1.status = .running) (hs : SelAt P c e z z' g0) :
    ∃ gs' ops, runT P (crowd gs r sl) 0 = (.next (crowd gs' r sl), ops) ∧ gs'[0]? = some (parked (core g0) #[rcase c z, rcase e z'] .select) ∧ gs'[n]? = some x1 ∧ InP P B c e n W M0 M1 gs' r v0 v1 (T ++ ops) q := by
  obtain ⟨s, rc, hc⟩ := h.cc
  obtain ⟨s', rc', he⟩ := h.ee
  have hrun := Go.Conc.crowd_waits (P := P) (sl := sl) (i := 0) h0 (hs.2 r) (fun cc hcc => by
    simp at hcc
    rcases hcc with rfl | rfl
    · exact Go.Conc.ways_recv_none hc (h.none_but (.inl ⟨rfl, rfl⟩) h1 hr _ _)
    · exact Go.Conc.ways_recv_none he (h.none_but (.inl ⟨rfl, rfl⟩) h1 hr _ _))
  have hl : 0 < gs.size := (Array.getElem?_eq_some_iff.1 h0).1
  refine ⟨_, _, hrun, by simp [hl], by rw [Array.getElem?_setIfInBounds_ne (Ne.symm h.n0)]; exact h1, ?_⟩
  rw [show MemOp.ofEvents 0 g0.frame.fn g0.frame.place #[] = #[] from rfl, Array.append_empty]
  exact ⟨lv_one h.lv (.inl rfl), h.tr, h.w0, h.w1, h.b0, h.b1, h.dj, h.n0, by simp; exact h.nl, h.cB, h.eB, h.ce, h.cc, h.ee, h.sm⟩

/-- e is closed; goroutine n only leaves. -/
structure InC (P : Program) (B c e p : Nat) (W : Nat → Option Obj) (M0 M1 : Nat → Prop) (gs : Array Goroutine) (r v0 v1 : World) (T : Trace) (q : Nat → Nat) : Prop where
  lv : Lv P (· = 0) T gs q
  tr : TrC B e p M0 M1 r.heap.size T
  w0 : Vw B M0 r v0
  w1 : Vw B M1 r v1
  b0 : ∀ b, M0 b → b < r.heap.size
  b1 : ∀ b, M1 b → b < r.heap.size
  cB : c < B
  eB : e < B
  cc : Opn r c
  sm : ∀ b, b < B → b ≠ c → b ≠ e → r.heap[b]? = W b
  ee : ∃ s rc, r.heap[e]? = some (.chan 0 #[] true s rc false)

theorem InC.until (h : InC P B c e n W M0 M1 gs r v0 v1 T q) {x0 : Goroutine} (h0 : gs[0]? = some x0) (hr : x0.status = .running) :
    ∃ N gs' d sl' T' q' sl2 d2, runNT P N (crowd gs r sl) T = (.next (crowd gs' (r.at d) sl'), T') ∧ stepT P (crowd gs' (r.at d) sl') = runT P (crowd gs' (r.at d2) sl2) 0 ∧
      gs'[0]? = some x0 ∧ InC P B c e n W M0 M1 gs' (r.at d2) (v0.at d2) (v1.at d2) T' q' := by
  have hall : ∀ i g, i = 0 → gs[i]? = some g → g = x0 := by
    rintro i g rfl hg
    rw [h0] at hg; cases hg; rfl
  obtain ⟨N, gs', d, sl', u, q', i, g, d2, sl2, a1, a2, a3, a4, a5, a6, a7, a8, a9⟩ := Lv.until (S := (· = 0)) (sl := sl) (r := r) rfl h.lv (fun i g hi hg => by rw [hall i g hi hg]; exact awake_of (.inl hr))
    ⟨0, x0, rfl, h0, hr⟩ (fun i g hi hg x g' d => by rw [hall i g hi hg]; exact Go.Conc.woken_run hr)
  have a3 : i = 0 := a3
  subst a3
  refine ⟨N, gs', d, sl', T ++ u, q', sl2, d2, a1, a2, (a7 0 rfl).trans h0, ⟨a8, h.tr.mute fun op hop => ?_, h.w0.at d2, h.w1.at d2, h.b0, h.b1, h.cB, h.eB, h.cc, h.sm, h.ee⟩⟩
  obtain ⟨k1, _, k2, k3⟩ := a9 op hop
  exact ⟨k2, Go.MemAct.low_mono (Nat.zero_le _) k3, .inl k1⟩

/-- Goroutine n closes e. -/
theorem InP.closes (h : InP P B c e n W M0 M1 gs r v0 v1 T q) {g g' x0 : Goroutine} {k : Nat} (h1 : gs[n]? = some g) (h0 : gs[0]? = some x0) (hw : mayWake P g = true)
    (hs : ∀ r s rc, r.heap[e]? = some (.chan 0 #[] false s rc false) → stepG P false g r = .go g' (r.setChan e 0 #[] true s rc false) (closeEvents e)) (hg : g'.status = .running) (hq : QuitsD P k 0 g')
    (hx : x0.status = .running ∨ ∃ y z z', x0 = parked y #[rcase c z, rcase e z'] .select) :
    ∃ gs' r' ops x0' p q', runT P (crowd gs r sl) n = (.next (crowd gs' r' sl), ops) ∧ gs'[0]? = some x0' ∧ (x0.status = .running → x0' = x0) ∧ (∀ y z z', x0 = parked y #[rcase c z, rcase e z'] .select → x0' = { x0 with status := .running }) ∧
      InC P B c e p W M0 M1 gs' r' v0 v1 (T ++ ops) q' := by
  obtain ⟨s, rc, he⟩ := h.ee
  obtain ⟨s', rc', hc⟩ := h.cc
  have hb : (n == 0) = false := by simpa using h.n0
  have hgo := hs r s rc he
  have hrun := Go.Conc.runT_crowd_go (P := P) (sl := sl) (i := n) h1 (by rw [hb]; exact hgo)
  have he' : (r.setChan e 0 #[] true s rc false).heap[e]? = some (.chan 0 #[] true s rc false) := heap_setChan_self h.lt.2
  have hwk : ∀ y, Go.Conc.woken P g g' (r.setChan e 0 #[] true s rc false) y = y.again (r.setChan e 0 #[] true s rc false) := by
    intro y
    unfold Go.Conc.woken
    rw [hw, hg]
    rfl
  have hl0 : (gs.map (Go.Conc.woken P g g' (r.setChan e 0 #[] true s rc false)))[0]? = some (x0.again (r.setChan e 0 #[] true s rc false)) := by rw [Array.getElem?_map, h0]; simp [hwk]
  refine ⟨_, _, _, x0.again (r.setChan e 0 #[] true s rc false), T.size + 1, upd q n k, hrun, ?_, fun hr => Go.Conc.again_running _ (.inl hr), ?_, ⟨?_, ?_, h.w0.chan he h.eB, h.w1.chan he h.eB, fun b x => by rw [size_setChan]; exact h.b0 b x, fun b x => by rw [size_setChan]; exact h.b1 b x, h.cB, h.eB, ⟨s', rc', by rw [heap_setChan h.ce]; exact hc⟩, fun b x y z => by rw [heap_setChan z]; exact h.sm b x y z, ⟨s, rc, he'⟩⟩⟩
  · rw [Array.getElem?_setIfInBounds_ne h.n0]; exact hl0
  · rintro y z z' rfl
    exact Go.Conc.again_some_closed (k := 1) (z := z') rfl he'
  · have hev : ∀ op ∈ MemOp.ofEvents n g.frame.fn g.frame.place (closeEvents e), op.g = n ∧ op.act ≠ .mark .disable ∧ op.act ≠ .mark .enable := by
      intro op hop
      rw [Go.Conc.closeOps] at hop
      simp at hop
      rcases hop with rfl | rfl <;> simp
    refine ⟨fun i y hi hy => ?_, fun j hj => ?_⟩
    · by_cases hin : n = i
      · subst hin
        rw [set_self h.nl] at hy
        cases hy
        rw [upd_same, deaf_same T _ n fun op hop => .inr (hev op hop).2, h.tr.hn]
        exact hq
      · have hi' : ¬ (i = 0 ∨ i = n) := fun x => x.elim hi fun x => hin x.symm
        rw [Array.getElem?_setIfInBounds_ne hin, Array.getElem?_map] at hy
        obtain ⟨w, hw', rfl⟩ := Option.map_eq_some_iff.1 hy
        rw [h.lv.wk hi' hw', upd_ne q k (Ne.symm hin), deaf_same T _ i fun op hop => .inr (hev op hop).2]
        exact h.lv.old i w hi' hw'
    · rw [deaf_same T _ j fun op hop => .inr (hev op hop).2]
      exact h.lv.above j (by simpa using hj)
  · rw [size_setChan]
    exact h.tr.close h.n0 h.lt.2 h.dj _ _
end

section
variable {P : Program} {B c e n : Nat} {W : Nat → Option Obj} {z z' : Value} {K : Goroutine → World → Prop} {At : List Value → Goroutine → World → Prop} {Sent : List Value → Prop} {Fin : List Value → World → Prop}

/-- What the two promise each other. -/
structure Pact (P : Program) (B c e : Nat) (W : Nat → Option Obj) (z z' : Value) (K : Goroutine → World → Prop) (At : List Value → Goroutine → World → Prop) (Sent : List Value → Prop) (Fin : List Value → World → Prop) : Prop where
  sel : ∀ l g v, At l g v → SelAt P c e z z' g
  at_st : ∀ l g v v', At l g v → Oth v v' → At l g v'
  fin_st : ∀ l v v', Fin l v → Oth v v' → Fin l v'
  recv : ∀ l g v x, At l g v → Sent (l ++ [x]) → Rch P true (At (l ++ [x])) ((core g).finishComm P #[rcase c z, rcase e z'] .select ((0 : Nat) : Int) x true) v
  done : ∀ l g v0 v1 r M0 M1, At l g v0 → Fin l v1 → Vw B M0 r v0 → Vw B M1 r v1 → (∀ b, M0 b → M1 b → False) → (∀ b, b < B → b ≠ c → b ≠ e → r.heap[b]? = W b) → BR P K ((core g).finishComm P #[rcase c z, rcase e z'] .select ((1 : Nat) : Int) z' false) r

theorem Rch.running {m : Bool} {A : Goroutine → World → Prop} {g : Goroutine} {v : World} (hA : ∀ g v, A g v → g.status = .running) (h : Rch P m A g v) : g.status = .running := by
  cases h with
  | stop h => exact hA _ _ h
  | step hr f u h k => exact hr

/-- At the select, e being closed. -/
theorem InC.end (pc : Pact P B c e W z z' K At Sent Fin) {l : List Value} {g0 x0 : Goroutine} {v0 v0' v1 v1' : World} (hA : At l g0 v0) (hF : Fin l v1) {gs : Array Goroutine} {r : World} {sl : Option (Nat × Nat)} {T : Trace} {q : Nat → Nat} {M0 M1 : Nat → Prop} {p : Nat}
    (h : InC P B c e p W M0 M1 gs r v0' v1' T q) (ho : Oth v0 v0') (ho1 : Oth v1 v1') (h0 : gs[0]? = some x0) (hr : x0.status = .running) (hx : ∀ r, stepG P true x0 r = .comm (core g0) #[rcase c z, rcase e z'] true .select r #[]) : Goal P K (crowd gs r sl) T := by
  obtain ⟨N, gs', d, sl', T', q', sl2, d2, a1, a2, a3, h⟩ := h.until (sl := sl) h0 hr
  obtain ⟨s, rc, hc⟩ := h.cc
  obtain ⟨s', rc', he⟩ := h.ee
  have hpn : ∀ c', partners (gs'.setIfInBounds 0 ph) c' true = [] := by
    intro c'
    refine Go.Conc.partners_nil fun k y hy => ?_
    by_cases hk : k = 0
    · subst hk
      rcases Go.Conc.getElem?_stand gs' 0 0 y hy with ⟨_, rfl⟩ | ⟨x, _⟩
      · exact Go.Conc.offersAt_ph _ _
      · exact absurd rfl x
    · exact stand_lv h.lv hk hy _ _
  have hrun := Go.Conc.crowd_sel_recv_closed (P := P) (sl := sl2) (i := 0) (k := 1) (z := z') a3 (hx (r.at d2)) rfl (fun m c' hm hc' => by
    match m, hm with
    | 0, _ => simp at hc'; subst hc'; exact Go.Conc.ways_recv_none hc (hpn _)
    | m + 2, _ => simp at hc') he (hpn _)
  have hl : 0 < gs'.size := (Array.getElem?_eq_some_iff.1 a3).1
  have eB : e < (r.at d2).heap.size := Nat.lt_of_lt_of_le h.eB h.w0.low
  refine Goal.of a1 (a2.trans hrun) ?_
  rw [show MemOp.ofEvents 0 x0.frame.fn x0.frame.place #[] = #[] from rfl, Array.empty_append]
  have hP := h.tr.fin eB { g := 0, fn := (core g0).frame.fn, pos := (core g0).frame.place, act := .recvClosed e } rfl rfl
  obtain ⟨N2, gs2, g2, w2, sl3, T2, q2, b1, b2, b3⟩ := pc.done l g0 (v0'.at d2) (v1'.at d2) (r.at d2) M0 M1 (pc.at_st _ _ _ _ hA (ho.trans (Oth.at _ _))) (pc.fin_st _ _ _ hF (ho1.trans (Oth.at _ _))) h.w0 h.w1 h.tr.dj h.sm
    (gs'.setIfInBounds 0 ((core g0).finishComm P #[rcase c z, rcase e z'] .select ((1 : Nat) : Int) z' false)) sl2 (T' ++ #[{ g := 0, fn := (core g0).frame.fn, pos := (core g0).frame.place, act := .recvClosed e }]) q' d2
    ⟨by simp [hl], (lv_one h.lv rfl).next rfl (fun _ _ => rfl) (fun op hop => by simp at hop; subst hop; exact ⟨rfl, by simpa using hl⟩), hP⟩
  exact ⟨N2, gs2, g2, w2, sl3, T2, q2, b1, b2, b3⟩

/-- Behind the close. -/
theorem InC.go (pc : Pact P B c e W z z' K At Sent Fin) {l : List Value} {g0 : Goroutine} {v0 : World} (hR : Rch P true (At l) g0 v0) : ∀ {v0' v1 v1' : World} (_ : Fin l v1) {gs : Array Goroutine} {r : World} {sl : Option (Nat × Nat)} {T : Trace} {q : Nat → Nat} {M0 M1 : Nat → Prop} {p : Nat},
    InC P B c e p W M0 M1 gs r v0' v1' T q → Oth v0 v0' → Oth v1 v1' → gs[0]? = some g0 → Goal P K (crowd gs r sl) T := by
  induction hR with
  | stop h => exact fun hF gs r sl T q M0 M1 p hI ho ho1 h0 => hI.end pc h hF ho ho1 h0 (pc.sel _ _ _ h).1 (pc.sel _ _ _ h).2
  | @step g v hr f u h k ih =>
    intro v0' v1 v1' hF gs r sl T q M0 M1 p hI ho ho1 h0
    obtain ⟨N, gs', d, sl', T', q', sl2, d2, a1, a2, a3, hI⟩ := hI.until (sl := sl) h0 hr
    have ho2 := ho.trans (Oth.at v0' d2)
    obtain ⟨r', es, hgo, hn⟩ := (h (v0'.at d2) ho2).two B M0 _ hI.w0
    obtain ⟨vj, hvo, hv⟩ := Vw.other hn hI.w1 hI.b1 hI.tr.dj
    have hk : ∀ b, b < B → r'.heap[b]? = (r.at d2).heap[b]? := fun b hb => hn.keeps b (Nat.lt_of_lt_of_le hb hI.w0.low) fun x => by omega
    have hlt : 0 < gs'.size := (Array.getElem?_eq_some_iff.1 a3).1
    have hd : ∀ b, plus M0 (r.at d2) r' b → M1 b → False := by
      rintro b (x | x) y
      · exact hI.tr.dj b x y
      · have := hI.b1 b y; omega
    have hrun := Go.Conc.runT_crowd_go (P := P) (sl := sl2) (i := 0) a3 (show stepG P (0 == 0) g (r.at d2) = _ from hgo)
    refine Goal.of a1 (a2.trans hrun) (ih (v0'.at d2) ho2 hF (M0 := plus M0 (r.at d2) r') (M1 := M1) (p := p) (q := q') (v0' := u (v0'.at d2) ho2) (v1' := vj)
      ⟨hI.lv.next (by simp) (fun j hj => ?_) (fun op hop => by obtain ⟨e, _, rfl⟩ := Go.Conc.mem_ofEvents hop; exact ⟨rfl, hlt⟩), hI.tr.own0 hd hn.size hn.ok hn.ev, hn.vw, hv, ?_, fun b x => Nat.lt_of_lt_of_le (hI.b1 b x) hn.size, hI.cB, hI.eB, ?_, fun b x y z => (hk b x).trans (hI.sm b x y z), ?_⟩ (Oth.refl _) (ho1.trans ((Oth.at _ _).trans hvo)) (set_self hlt))
    · rw [Array.getElem?_setIfInBounds_ne (fun e => hj e.symm), Array.getElem?_map]
      cases hgj : gs'[j]? with
      | none => rfl
      | some y => simp only [Option.map_some]; rw [hI.lv.wk hj hgj]
    · rintro b (x | x)
      · exact Nat.lt_of_lt_of_le (hI.b0 b x) hn.size
      · exact x.2
    · obtain ⟨s, rc, x⟩ := hI.cc; exact ⟨s, rc, by rw [hk c hI.cB]; exact x⟩
    · obtain ⟨s, rc, x⟩ := hI.ee; exact ⟨s, rc, by rw [hk e hI.eB]; exact x⟩

/-- Goroutine 0 is on its way to the select, or waits at it. -/
def Con (P : Program) (c e : Nat) (z z' : Value) (At : List Value → Goroutine → World → Prop) (l : List Value) (x0 : Goroutine) (v0 : World) : Prop :=
  Rch P true (At l) x0 v0 ∨ ∃ g0, x0 = parked (core g0) #[rcase c z, rcase e z'] .select ∧ At l g0 v0
theorem Con.st (pc : Pact P B c e W z z' K At Sent Fin) {l : List Value} {x0 : Goroutine} {v0 v0' : World} (h : Con P c e z z' At l x0 v0) (ho : Oth v0 v0') : Con P c e z z' At l x0 v0' :=
  h.imp (fun x => x.st (pc.at_st l) ho) fun ⟨g0, e, x⟩ => ⟨g0, e, pc.at_st _ _ _ _ x ho⟩
theorem Con.sits (pc : Pact P B c e W z z' K At Sent Fin) {l : List Value} {x0 : Goroutine} {v0 : World} (h : Con P c e z z' At l x0 v0) : Sits P c e x0 := by
  rcases h with h | ⟨g0, rfl, _⟩
  · exact .run (h.running fun g v x => (pc.sel _ _ _ x).1)
  · exact .sel

/-- From wherever both stand the run goes on to the end. -/
def Stm (P : Program) (B c e n : Nat) (W : Nat → Option Obj) (z z' : Value) (K : Goroutine → World → Prop) (At : List Value → Goroutine → World → Prop) (l : List Value) (g1 : Goroutine) (v1 : World) : Prop :=
  ∀ (v1' : World), Oth v1 v1' → ∀ (gs : Array Goroutine) (r : World) (sl : Option (Nat × Nat)) (T : Trace) (q : Nat → Nat) (M0 M1 : Nat → Prop) (v0 : World) (x0 : Goroutine),
    InP P B c e n W M0 M1 gs r v0 v1' T q → gs[n]? = some g1 → gs[0]? = some x0 → Con P c e z z' At l x0 v0 → Goal P K (crowd gs r sl) T

theorem drive (pc : Pact P B c e W z z' K At Sent Fin) {l : List Value} {g1 : Goroutine} {v1 : World} (hr1 : g1.status = .running)
    (hN : ∀ (v1' : World), Oth v1 v1' → ∀ (gs : Array Goroutine) (r : World) (sl : Option (Nat × Nat)) (T : Trace) (q : Nat → Nat) (M0 M1 : Nat → Prop) (v0 : World) (x0 : Goroutine),
      InP P B c e n W M0 M1 gs r v0 v1' T q → gs[n]? = some g1 → gs[0]? = some x0 → Con P c e z z' At l x0 v0 → ∃ m2 ops, runT P (crowd gs r sl) n = (.next m2, ops) ∧ Goal P K m2 (T ++ ops)) :
    Stm P B c e n W z z' K At l g1 v1 := by
  -- goroutine 0 waits
  have CS : ∀ (v1' : World), Oth v1 v1' → ∀ (gs : Array Goroutine) (r : World) (sl : Option (Nat × Nat)) (T : Trace) (q : Nat → Nat) (M0 M1 : Nat → Prop) (v0 : World) (g0 : Goroutine),
      InP P B c e n W M0 M1 gs r v0 v1' T q → gs[n]? = some g1 → gs[0]? = some (parked (core g0) #[rcase c z, rcase e z'] .select) → At l g0 v0 → Goal P K (crowd gs r sl) T := by
    intro v1' ho gs r sl T q M0 M1 v0 g0 hI h1 h0 hA
    obtain ⟨N, gs', d, sl', T', q', i, sl2, d2, a1, a2, a3, a4, a5, hI⟩ := hI.until (sl := sl) h0 h1 .sel (.run hr1) (.inr hr1)
    rcases a3 with ⟨_, x⟩ | ⟨rfl, _⟩
    · cases x
    · obtain ⟨m2, ops, b1, b2⟩ := hN _ (ho.trans (Oth.at _ d2)) gs' (r.at d2) sl2 T' q' M0 M1 _ _ hI a5 a4 (.inr ⟨g0, rfl, pc.at_st _ _ _ _ hA (Oth.at _ _)⟩)
      exact Goal.of a1 (a2.trans b1) b2
  have CR : ∀ (x0 : Goroutine) (v0 : World), Rch P true (At l) x0 v0 → ∀ (v0' : World), Oth v0 v0' → ∀ (v1' : World), Oth v1 v1' → ∀ (gs : Array Goroutine) (r : World) (sl : Option (Nat × Nat)) (T : Trace) (q : Nat → Nat) (M0 M1 : Nat → Prop),
      InP P B c e n W M0 M1 gs r v0' v1' T q → gs[n]? = some g1 → gs[0]? = some x0 → Goal P K (crowd gs r sl) T := by
    intro x0 v0 hR
    induction hR with
    | @stop g v h =>
      intro v0' ho0 v1' ho gs r sl T q M0 M1 hI h1 h0
      have hs := pc.sel _ _ _ h
      obtain ⟨N, gs', d, sl', T', q', i, sl2, d2, a1, a2, a3, a4, a5, hI⟩ := hI.until (sl := sl) h0 h1 (.run hs.1) (.run hr1) (.inr hr1)
      have hA := pc.at_st _ _ _ _ h (ho0.trans (Oth.at _ d2))
      rcases a3 with ⟨rfl, _⟩ | ⟨rfl, _⟩
      · obtain ⟨gs2, ops, b1, b2, b3, hI⟩ := hI.selParks (sl := sl2) a4 a5 hr1 hs
        exact Goal.of a1 (a2.trans b1) (CS _ (ho.trans (Oth.at _ d2)) gs2 _ sl2 _ q' M0 M1 _ _ hI b3 b2 hA)
      · obtain ⟨m2, ops, b1, b2⟩ := hN _ (ho.trans (Oth.at _ d2)) gs' (r.at d2) sl2 T' q' M0 M1 _ _ hI a5 a4 (.inl (.stop hA))
        exact Goal.of a1 (a2.trans b1) b2
    | @step g v hr f u h k ih =>
      intro v0' ho0 v1' ho gs r sl T q M0 M1 hI h1 h0
      obtain ⟨N, gs', d, sl', T', q', i, sl2, d2, a1, a2, a3, a4, a5, hI⟩ := hI.until (sl := sl) h0 h1 (.run hr) (.run hr1) (.inr hr1)
      have ho2 := ho0.trans (Oth.at v0' d2)
      rcases a3 with ⟨rfl, _⟩ | ⟨rfl, _⟩
      · obtain ⟨gs2, r', v1'', ops, b1, b2, b3, b4, hI⟩ := hI.own0 (sl := sl2) a4 a5 (.run hr1) (h _ ho2)
        exact Goal.of a1 (a2.trans b1) (ih _ ho2 _ (Oth.refl _) v1'' (ho.trans ((Oth.at _ _).trans b2)) gs2 r' sl2 _ q' _ M1 hI b4 b3)
      · obtain ⟨m2, ops, b1, b2⟩ := hN _ (ho.trans (Oth.at _ d2)) gs' (r.at d2) sl2 T' q' M0 M1 _ _ hI a5 a4 (.inl (.step hr (fun w hw => f w (ho2.trans hw)) (fun w hw => u w (ho2.trans hw)) (fun w hw => h w _) (fun w hw => k w _)))
        exact Goal.of a1 (a2.trans b1) b2
  intro v1' ho gs r sl T q M0 M1 v0 x0 hI h1 h0 hC
  rcases hC with hR | ⟨g0, rfl, hA⟩
  · exact CR x0 v0 hR v0 (Oth.refl _) v1' ho gs r sl T q M0 M1 hI h1 h0
  · exact CS v1' ho gs r sl T q M0 M1 v0 g0 hI h1 h0 hA

/-- ALL OF IT. -/
theorem phase (pc : Pact P B c e W z z' K At Sent Fin) {l : List Value} {g1 : Goroutine} {v1 : World} (hp : Pdr P c e Sent Fin l g1 v1) : Stm P B c e n W z z' K At l g1 v1 := by
  induction hp with
  | @step l g v hr f u h k ih =>
    refine drive pc hr fun v1' ho gs r sl T q M0 M1 v0 x0 hI h1 h0 hC => ?_
    obtain ⟨gs2, r', v0', ops, b1, b2, b3, b4, hI⟩ := hI.own1 (sl := sl) h1 h0 (hC.sits pc) (h v1' ho)
    exact ⟨_, _, b1, ih v1' ho _ (Oth.refl _) gs2 r' sl _ q M0 _ v0' x0 hI b3 b4 (hC.st pc b2)⟩
  | @send l g v x zz sh hr hs hx k ih =>
    refine drive pc hr fun v1' ho gs r sl T q M0 M1 v0 x0 hI h1 h0 hC => ?_
    rcases hC with hR | ⟨g0, rfl, hA⟩
    · -- it waits
      have hr0 := hR.running fun g v x => (pc.sel _ _ _ x).1
      obtain ⟨gs2, ops, b1, b2, b3, hI⟩ := hI.sendParks (sl := sl) h1 h0 hr0 (hs r)
      refine ⟨_, _, b1, ?_⟩
      have PP : ∀ (x0 : Goroutine) (v0 : World), Rch P true (At l) x0 v0 → ∀ (v0' : World), Oth v0 v0' → ∀ (v1' : World), Oth v v1' → ∀ (gs : Array Goroutine) (r : World) (sl : Option (Nat × Nat)) (T : Trace) (q : Nat → Nat) (M0 M1 : Nat → Prop),
          InP P B c e n W M0 M1 gs r v0' v1' T q → gs[n]? = some (parked g #[scase c x zz] sh) → gs[0]? = some x0 → Goal P K (crowd gs r sl) T := by
        intro x0 v0 hR
        induction hR with
        | @stop g0 v0 h =>
          intro v0' ho0 v1' ho gs r sl T q M0 M1 hI h1 h0
          have hs := pc.sel _ _ _ h
          obtain ⟨N, gs', d, sl', T', q', i, sl2, d2, a1, a2, a3, a4, a5, hI⟩ := hI.until (sl := sl) h0 h1 (.run hs.1) .snd (.inl hs.1)
          rcases a3 with ⟨rfl, _⟩ | ⟨_, y⟩
          · obtain ⟨gs2, r', ops, b1, b2, b3, hI⟩ := hI.selMeets (sl := sl2) a5 a4 hs
            exact Goal.of a1 (a2.trans b1) (ih _ (ho.trans (Oth.at _ d2)) gs2 r' sl2 _ q' M0 M1 _ _ hI b2 b3 (.inl (pc.recv _ _ _ _ (pc.at_st _ _ _ _ h (ho0.trans (Oth.at _ _))) hx)))
          · cases y
        | @step g0 v0 hr f u h k ih2 =>
          intro v0' ho0 v1' ho gs r sl T q M0 M1 hI h1 h0
          obtain ⟨N, gs', d, sl', T', q', i, sl2, d2, a1, a2, a3, a4, a5, hI⟩ := hI.until (sl := sl) h0 h1 (.run hr) .snd (.inl hr)
          have ho2 := ho0.trans (Oth.at v0' d2)
          rcases a3 with ⟨rfl, _⟩ | ⟨_, y⟩
          · obtain ⟨gs2, r', v1'', ops, b1, b2, b3, b4, hI⟩ := hI.own0 (sl := sl2) a4 a5 .snd (h _ ho2)
            exact Goal.of a1 (a2.trans b1) (ih2 _ ho2 _ (Oth.refl _) v1'' (ho.trans ((Oth.at _ _).trans b2)) gs2 r' sl2 _ q' _ M1 hI b4 b3)
          · cases y
      exact PP x0 v0 hR v0 (Oth.refl _) v1' ho gs2 r sl _ q M0 M1 hI b2 b3
    · -- it meets
      obtain ⟨gs2, r', ops, b1, b2, b3, hI⟩ := hI.sendMeets (sl := sl) h1 h0 (hs r)
      exact ⟨_, _, b1, ih _ ho gs2 r' sl _ q M0 M1 _ _ hI b2 b3 (.inl (pc.recv _ _ _ _ hA hx))⟩
  | @close l g v g' k hr hw hs hg hq hf =>
    refine drive pc hr fun v1' ho gs r sl T q M0 M1 v0 x0 hI h1 h0 hC => ?_
    rcases hC with hR | ⟨g0, rfl, hA⟩
    · have hr0 := hR.running fun g v x => (pc.sel _ _ _ x).1
      obtain ⟨gs2, r', ops, x0', p, q', b1, b2, b3, _, hI⟩ := hI.closes (sl := sl) h1 h0 hw hs hg hq (.inl hr0)
      obtain rfl := b3 hr0
      exact ⟨_, _, b1, InC.go pc hR hf hI (Oth.refl _) ho b2⟩
    · obtain ⟨gs2, r', ops, x0', p, q', b1, b2, _, b4, hI⟩ := hI.closes (sl := sl) h1 h0 hw hs hg hq (.inr ⟨_, _, _, rfl⟩)
      obtain rfl := b4 _ _ _ rfl
      refine ⟨_, _, b1, InC.end pc hA hf hI (Oth.refl _) ho b2 rfl fun r => ?_⟩
      rw [← (pc.sel _ _ _ hA).2 r]
      exact Go.Conc.stepG_same rfl rfl rfl r
end
end Go.Av

/-
  Goroutine 0 starts the sender: from a company of leavers to the two at work.
-/
namespace Go.Av
set_option linter.unusedSectionVars false
set_option linter.unusedSimpArgs false
set_option linter.unusedVariables false
open Go.Conc (crowd parked core rcase scase ph offersAt NoWays closeEvents QuitsD Deaf awake_of Knows Before Past touchAt noRace_append runT_crowd_spawn hb_po hb_app lt_size_of_getElem? getElem?_append_old)
open Go.ConcN (sumTo upd sumTo_upd upd_ne upd_same)

/-- The world whose blocks are only read. -/
def chl (w : World) : World := { w with heap := w.heap.map chill }
def none' : Nat → Prop := fun _ => False
theorem vw_chl (w : World) : Vw w.heap.size none' w (chl w) := by
  refine ⟨by simp [chl], rfl, rfl, rfl, rfl, fun b _ hm => hm.elim, fun b _ => by simp [chl], fun b hb _ hl => by omega, fun b x u => ?_, Nat.le_refl _⟩
  simp only [chl, Array.getElem?_map]
  cases w.heap[b]? with
  | none => simp
  | some o => cases o <;> simp [chill, dumb]

section
variable {P : Program}

/-- The trace behind the go statement. -/
theorem Past.fork {B n : Nat} {T : Trace} (h : Past Noone B T) (hn : Deaf T n = 0) (x y : MemOp) (xg : x.g = 0) (yg : y.g = n) (xa : x.act = .go n) (ya : y.act = .start) : TrA B n none' none' B (T ++ #[x, y]) := by
  have e2 : T ++ #[x, y] = (T ++ #[x]) ++ #[y] := by rw [Array.append_assoc]; rfl
  have s1 : (T ++ #[x]).size = T.size + 1 := by simp
  have hxi : ((T ++ #[x]) ++ #[y])[T.size]? = some x := by rw [getElem?_append_old (by simp)]; exact at_new x
  have hyi : ((T ++ #[x]) ++ #[y])[T.size + 1]? = some y := by rw [← s1]; exact at_new y
  have xt : x.act.touch? = none := by rw [xa]; rfl
  have yt : y.act.touch? = none := by rw [ya]; rfl
  have hmem : ∀ op ∈ #[x, y], op = x ∨ op = y := by intro op hop; simpa using hop
  have ht : ∀ op ∈ #[x, y], op.act.touch? = none := by intro op hop; rcases hmem op hop with rfl | rfl <;> assumption
  have hmk : ∀ op ∈ #[x, y], op.act ≠ .mark .disable ∧ op.act ≠ .mark .enable := by
    intro op hop
    rcases hmem op hop with rfl | rfl
    · rw [xa]; simp
    · rw [ya]; simp
  have d0 : Deaf (T ++ #[x]) 0 = 0 := by rw [deaf_same T #[x] 0 fun op hop => .inr (hmk op (by simp at hop; simp [hop]))]; exact h.hears
  have dn : Deaf (T ++ #[x]) n = 0 := by rw [deaf_same T #[x] n fun op hop => .inr (hmk op (by simp at hop; simp [hop]))]; exact hn
  have hx : ((T ++ #[x]) ++ #[y]).heard T.size := by
    refine ⟨0, by rw [gof hxi, xg], ?_⟩
    have : ((T ++ #[x]) ++ #[y]).deaf 0 T.size = Deaf T 0 := by rw [Go.Conc.deaf_old (by simp)]; exact Go.Conc.deaf_old (Nat.le_refl _)
    rw [this]; exact h.hears
  have hy : ((T ++ #[x]) ++ #[y]).heard (T.size + 1) := by
    refine ⟨n, by rw [gof hyi, yg], ?_⟩
    have : ((T ++ #[x]) ++ #[y]).deaf n (T.size + 1) = Deaf (T ++ #[x]) n := by rw [← s1]; exact Go.Conc.deaf_old (Nat.le_refl _)
    rw [this]; exact dn
  have edge : HappensBefore ((T ++ #[x]) ++ #[y]) T.size (T.size + 1) := .single (.inr ⟨.spawn (child := n) (by rw [Go.Conc.act?_of hxi, xa]) (by rw [Go.Conc.act?_of hyi, ya]) (by rw [gof hyi, yg]), hx, hy⟩)
  refine ⟨fun said => noRace_mute (h.clean said) ht, fun i a ha hm => ?_, fun i a ha hm => ?_, ?_, ?_, ?_, ?_⟩
  · rcases touch_cases ha with ⟨_, ha'⟩ | ⟨_, op, hop, _, hz⟩
    · rcases h.known i a ha' hm with hk | hk
      · exact .inl (hk.app _)
      · exact hk.1.elim
    · rw [ht op hop] at hz; cases hz
  · rcases touch_cases ha with ⟨_, ha'⟩ | ⟨_, op, hop, _, hz⟩
    · rcases h.known i a ha' hm with ⟨q, z, h1, h2, h3⟩ | hk
      · refine .inl ⟨T.size + 1, y, by rw [e2]; exact hyi, yg, .inr ?_⟩
        rw [e2]
        have hql := lt_size_of_getElem? h1
        have h1' : ((T ++ #[x]) ++ #[y])[q]? = some z := by rw [getElem?_append_old (by simp; omega), getElem?_append_old hql]; exact h1
        have hqx : HappensBefore ((T ++ #[x]) ++ #[y]) q T.size := hb_po hql h1' hxi (h2.trans xg.symm)
        exact (((h3.app #[x]).app #[y]).hb hqx).trans edge
      · exact hk.1.elim
    · rw [ht op hop] at hz; cases hz
  · intro i g hg g0 gn hc
    exact over_app (S := fun g => g ≠ 0 ∧ g ≠ n) (fun i g hg hS hc => h.over i g hg hS.1 hc) (fun op hop => .inr (ht op hop)) i g hg ⟨g0, gn⟩ hc
  · rw [deaf_same T _ 0 fun op hop => .inr (hmk op hop)]; exact h.hears
  · rw [deaf_same T _ n fun op hop => .inr (hmk op hop)]; exact hn
  · refine seen_next h.seen (Nat.le_refl _) fun op hop => ?_
    rcases hmem op hop with rfl | rfl
    · rw [xa]; trivial
    · rw [ya]; trivial

/-- What is asked at the go statement. -/
structure Forks (P : Program) (K : Goroutine → World → Prop) (g' child : Goroutine) (w : World) : Prop where
  run : child.status = .running
  on : ∃ (c e : Nat) (z z' : Value) (At : List Value → Goroutine → World → Prop) (Sent : List Value → Prop) (Fin : List Value → World → Prop),
    c < w.heap.size ∧ e < w.heap.size ∧ c ≠ e ∧ Opn w c ∧ Opn w e ∧ Pact P w.heap.size c e (fun b => w.heap[b]?) z z' K At Sent Fin ∧ Pdr P c e Sent Fin [] child (chl w) ∧ Rch P true (At []) g' (chl w)

theorem BR.fork {K : Goroutine → World → Prop} {g g' child : Goroutine} {w : World} (hrun : g.status = .running) (hs : ∀ d, stepG P true g (w.at d) = .spawn g' child (w.at d) #[])
    (h : ∀ d, Forks P K g' child (w.at d)) : BR P K g w := by
  intro gs sl T q d F
  obtain ⟨h0, hL, hP⟩ := F
  obtain ⟨N, gs1, d1, sl1, u, q1, i, x, d2, sl2, r1, r2, hi, hx, hxr, hsz, hsame, hL1, hu⟩ := Lv.until (P := P) (S := (· = 0)) rfl (r := w.at d) (sl := sl) hL (fun i y hi hy => by
    have hi : i = 0 := hi
    rw [hi, h0] at hy; cases hy; exact awake_of (.inl hrun)) ⟨0, g, rfl, h0, hrun⟩ (fun i y hi hy x g' d => by
    have hi : i = 0 := hi
    rw [hi, h0] at hy; cases hy; exact Go.Conc.woken_run hrun)
  have hi : i = 0 := hi
  subst hi
  rw [hsame 0 rfl, h0] at hx
  obtain rfl := Option.some.inj hx
  have h01 : gs1[0]? = some g := by rw [hsame 0 rfl]; exact h0
  have hrunT := runT_crowd_spawn (P := P) (sl := sl2) (i := 0) (w := (w.at d).at d2) h01 (show stepG P (0 == 0) g ((w.at d).at d2) = _ from hs d2)
  have hlt : 0 < gs1.size := (Array.getElem?_eq_some_iff.1 h01).1
  have hP1 := Past.mute' hP fun op hop => ⟨(hu op hop).1, (hu op hop).2.2⟩
  obtain ⟨hc, c, e, z, z', At, Sent, Fin, cB, eB, ce, hcc, hee, pc, hpd, hrc⟩ := h d2
  refine Goal.of r1 (r2.trans hrunT) ?_
  rw [show MemOp.ofEvents 0 g.frame.fn g.frame.place #[] = #[] from rfl]
  have htr := Past.fork (n := gs1.size) hP1 (hL1.above _ (Nat.le_refl _)) { g := 0, fn := g.frame.fn, pos := g.frame.place, act := .go gs1.size } { g := gs1.size, fn := child.frame.fn, pos := g.frame.place, act := .start } rfl rfl rfl rfl
  refine phase pc (n := gs1.size) hpd (chl (w.at d2)) (Oth.refl _) _ (w.at d2) sl2 _ q1 none' none' (chl (w.at d2)) g' ⟨⟨fun j y hj hy => ?_, fun j hj => ?_⟩, htr, vw_chl _, vw_chl _, fun b x => x.elim, fun b x => x.elim, fun b x => x.elim, by omega, by simp, cB, eB, ce, hcc, hee, fun b _ _ _ => rfl⟩ ?_ ?_ (.inl hrc)
  · have hj0 : ¬ j = 0 := fun e => hj (.inl e)
    have hjn : j ≠ gs1.size := fun e => hj (.inr e)
    rw [Array.getElem?_push] at hy
    simp only [Array.size_setIfInBounds] at hy
    rw [if_neg hjn, Array.getElem?_setIfInBounds_ne (fun e => hj0 e.symm)] at hy
    show QuitsD P (q1 j) (Deaf (T ++ u ++ #[_, _]) j) y
    rw [deaf_same (T ++ u) _ j fun op hop => .inr (by simp at hop; rcases hop with rfl | rfl <;> simp)]
    exact hL1.old j y hj0 hy
  · show Deaf (T ++ u ++ #[_, _]) j = 0
    rw [deaf_same (T ++ u) _ j fun op hop => .inr (by simp at hop; rcases hop with rfl | rfl <;> simp)]
    exact hL1.above j (by simp at hj; omega)
  · rw [Array.getElem?_push]
    simp
  · rw [Array.getElem?_push]
    simp [hlt]
    omega
end
end Go.Av
