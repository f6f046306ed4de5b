/-
  The words in which contracts are said and proved.
-/
import Derived.Test.YtbgaobcgpkjjkaaAvSym2
import Derived.Test.YtbgaobcgpkjjkaaAvFn
namespace Go.Av

/-- All objects have numbers below nx. -/
def Wf (H : Hp) (nx : Nat) : Prop := ∀ o, nx ≤ o → H o = none

/-- Function id of the program is, in the second form, V. -/
def Has (P : Program) (ν : Nat → FuncId) (id np : Nat) (V : Vc) : Prop :=
  ∀ (args : List AV) (H : Hp) (nx : Nat) (Φ : AV → Hp → Nat → Prop), args.length = np → (Wf H nx → den (OkM P ν) Φ V np (env0 args) H nx noInv) → OkM P ν id args H nx Φ

def vcOf (P : Program) (num : FuncId → Option Nat) (hint : List (Nat × Nat)) (fn : Func) : Option (Nat × Vc) :=
  (fd P num hint fn).bind fun f => (symF f).map fun V => (f.np, V)

theorem has_of {P : Program} {ν : Nat → FuncId} {num : FuncId → Option Nat} (hν : ∀ f id, num f = some id → ν id = f) {hint : List (Nat × Nat)} {fn : Func} {id np : Nat} {V : Vc} (hv : vcOf P num hint fn = some (np, V)) (hid : P.funcs[ν id]? = some fn) (hname : (fn.name == "runtime.NumGoroutine") = false) : Has P ν id np V := by
  obtain ⟨f, hf, hv⟩ := bindSome hv
  obtain ⟨V', hV', hv⟩ := mapSome hv
  cases hv
  intro args H nx Φ hl hd
  by_cases hw : Wf H nx
  · exact fn_sound hf hν hid hname (symF_sound hV' hl (hd hw))
  · refine ⟨⟨fn, hid, ?_, hname⟩, fun w0 S β w vs hobj => absurd (fun o ho => ?_) hw⟩
    · unfold fd at hf
      cases hb : fn.body with
      | none => simp [hb] at hf
      | some c => rfl
    · cases hH : H o with
      | none => rfl
      | some c => have := (hobj.obj o c hH).1; simp only at this; omega

section
variable {C : Ct} {Φ : AV → Hp → Nat → Prop} {n : Nat} {vars : Nat → AV} {H : Hp} {nx : Nat} {Is : Nat → Inv} {r : Vc}

def denS (C : Ct) (Φ : AV → Hp → Nat → Prop) (o : Option AV) (r : Vc) (n : Nat) (vars : Nat → AV) (H : Hp) (nx : Nat) (Is : Nat → Inv) : Prop :=
  match o with
  | some u => den C Φ r (n + 1) (put vars n u) H nx Is
  | none => False
def denB (C : Ct) (Φ : AV → Hp → Nat → Prop) (o : AV) (a b : Vc) (n : Nat) (vars : Nat → AV) (H : Hp) (nx : Nat) (Is : Nat → Inv) : Prop :=
  match o with
  | .v (.bool t) => (t = true → den C Φ a n vars H nx Is) ∧ (t = false → den C Φ b n vars H nx Is)
  | _ => False

theorem den_p {h : Bool} {op : PO} {xs : List Opd} : den C Φ (.op h (.p op xs) r) n vars H nx Is = denS C Φ (pvf (if h then H else hempty) op (xs.map (ev vars))) r n vars H nx Is := by
  simp only [den, stepK, OptK, St.put, eq_iff_iff, denS]
  cases pvf (if h then H else hempty) op (xs.map (ev vars)) <;> simp
theorem denS_some {u : AV} : denS C Φ (some u) r n vars H nx Is = den C Φ r (n + 1) (put vars n u) H nx Is := rfl
theorem denS_none : denS C Φ none r n vars H nx Is = False := rfl
theorem denS_ite {c : Prop} [Decidable c] {u : AV} : denS C Φ (if c then some u else none) r n vars H nx Is = (c ∧ den C Φ r (n + 1) (put vars n u) H nx Is) := by
  by_cases h : c <;> simp [h, denS]
theorem den_br {c : Nat} {a b : Vc} : den C Φ (.br c a b) n vars H nx Is = denB C Φ (vars c) a b n vars H nx Is := rfl
theorem denB_bool {t : Bool} {a b : Vc} : denB C Φ (bool t) a b n vars H nx Is = ((t = true → den C Φ a n vars H nx Is) ∧ (t = false → den C Φ b n vars H nx Is)) := rfl
theorem den_again {d : Nat} {es : List Opd} : den C Φ (.again d es) n vars H nx Is = Is d (es.map (ev vars)) H nx := rfl
theorem den_ret {rs : List (Opd × Option (Option Nat))} : den C Φ (.ret rs) n vars H nx Is = ∃ r, retOf vars H rs = some r ∧ ∃ H', Sub H' H ∧ Φ r H' nx := rfl

theorem den_call {h : Bool} {f : Opd} {xs : List Opd} {fc : Nat × List AV} {ys : List AV} {u : AV} (hf : fnOf (ev vars f) = some fc) (hys : frzL (if h then H else hempty) (xs.map (ev vars) ++ fc.2) = some ys) (hr : Fz C fc.1 ys u) (hk : den C Φ r (n + 1) (put vars n u) H nx Is) :
    den C Φ (.op h (.call f xs) r) n vars H nx Is := ⟨fc, hf, ys, hys, u, hr, hk⟩
theorem den_callm {f : Opd} {xs : List Opd} {fc : Nat × List AV} {Ψ : AV → Hp → Nat → Prop} (hf : fnOf (ev vars f) = some fc) (hc : C fc.1 (xs.map (ev vars) ++ fc.2) H nx Ψ) (hne : ∃ u H' nx', Ψ u H' nx') (hk : ∀ u H' nx', Ψ u H' nx' → den C Φ r (n + 1) (put vars n u) H' nx' Is) :
    den C Φ (.op true (.callm f xs) r) n vars H nx Is := ⟨rfl, fc, hf, Ψ, hc, hne, hk⟩
theorem den_callo {f : Opd} {xs : List Opd} {fc : Nat × List AV} {ys : List AV} {Ψ : AV → Hp → Nat → Prop} (hf : fnOf (ev vars f) = some fc) (hys : frzL H (xs.map (ev vars) ++ fc.2) = some ys) (hc : C fc.1 ys hempty nx Ψ) (hne : ∃ u H' nx', Ψ u H' nx')
    (hk : ∀ u H' nx', Ψ u H' nx' → cln nx fuel u = true ∧ clnH nx H' ∧ den C Φ r (n + 1) (put vars n u) (hmerge nx H H') nx' Is) : den C Φ (.op true (.callo f xs) r) n vars H nx Is := ⟨rfl, fc, hf, ys, hys, Ψ, hc, hne, hk⟩
theorem den_app {sz : Nat} {x y : Opd} {cm : List AV × Nat} {q : AV × Hp × Nat} (h1 : appCells H sz (ev vars y) = some cm) (h2 : cm.1.all AV.one = true) (h3 : appTo ⟨vars, H, nx⟩ sz (ev vars x) cm.1 cm.2 = some q) (hk : den C Φ r (n + 1) (put vars n q.1) q.2.1 q.2.2 Is) :
    den C Φ (.op true (.app sz x y) r) n vars H nx Is := ⟨rfl, cm, h1, h2, q, h3, hk⟩
theorem den_st {m : Nat} {x y : Opd} {h : Hp} (h1 : stTo ⟨vars, H, nx⟩ m (ev vars x) (ev vars y) = some h) (hk : den C Φ r (n + 1) (put vars n (.v undef)) h nx Is) : den C Φ (.op true (.st m x y) r) n vars H nx Is := ⟨rfl, h, h1, hk⟩
theorem den_new {z : List AV} (hk : den C Φ r (n + 1) (put vars n (.mp nx 0 z.length)) (hput H nx (some z)) (nx + 1) Is) : den C Φ (.op true (.new z) r) n vars H nx Is := ⟨rfl, hk⟩
theorem den_boxm {x : Opd} (h1 : (ev vars x).cells.all AV.one = true) (hk : den C Φ r (n + 1) (put vars n (.mp nx 0 (ev vars x).cells.length)) (hput H nx (some (ev vars x).cells)) (nx + 1) Is) : den C Φ (.op true (.boxm x) r) n vars H nx Is := ⟨rfl, h1, hk⟩
theorem den_mks {z : List AV} {x y : Opd} {q : AV × Hp × Nat} (h1 : mkTo ⟨vars, H, nx⟩ z (ev vars x) (ev vars y) = some q) (hk : den C Φ r (n + 1) (put vars n q.1) q.2.1 q.2.2 Is) : den C Φ (.op true (.mks z x y) r) n vars H nx Is := ⟨rfl, q, h1, hk⟩
theorem den_mslm {sz m : Nat} {z : List AV} {ps : List (Nat × Nat)} {xs : List Opd} {q : AV × Hp × Nat} (h1 : mslTo ⟨vars, H, nx⟩ sz m z ps (xs.map (ev vars)) = some q) (hk : den C Φ r (n + 1) (put vars n q.1) q.2.1 q.2.2 Is) : den C Φ (.op true (.mslm sz m z ps xs) r) n vars H nx Is := ⟨rfl, q, h1, hk⟩

theorem den_mono (V : Vc) : ∀ {n : Nat} {vars : Nat → AV} {H : Hp} {nx : Nat} {Is Is' : Nat → Inv}, (∀ j us H nx, Is j us H nx → Is' j us H nx) → den C Φ V n vars H nx Is → den C Φ V n vars H nx Is' := by
  induction V with
  | op h k r ih =>
    intro n vars H nx Is Is' hi hd
    exact stepK_mono (fun s hs => ih hi hs) hd
  | br c a b iha ihb =>
    intro n vars H nx Is Is' hi hd
    simp only [den] at hd ⊢
    split
    · rename_i t ht
      simp only [ht] at hd
      exact ⟨fun e => iha hi (hd.1 e), fun e => ihb hi (hd.2 e)⟩
    · rename_i hn
      split at hd
      · rename_i t ht; exact hn t ht
      · exact hd
  | both a b iha ihb => intro n vars H nx Is Is' hi hd; exact ⟨iha hi hd.1, ihb hi hd.2⟩
  | loop d init body ih =>
    intro n vars H nx Is Is' hi hd
    obtain ⟨I, μ, h0, h1⟩ := hd
    refine ⟨I, μ, h0, fun us H' nx' hl hI => ih (fun j us H nx hj => ?_) (h1 us H' nx' hl hI)⟩
    simp only [iput] at hj ⊢
    split at hj
    · rename_i e; rw [if_pos e]; exact hj
    · rename_i e; rw [if_neg e]; exact hi _ _ _ _ hj
  | again d es => intro n vars H nx Is Is' hi hd; exact hi _ _ _ _ hd
  | ret rs => intro n vars H nx Is Is' hi hd; exact hd

/-- A loop: α tells the round; the carried values are read off it; Hh says what is known of it and of the objects. -/
theorem den_loop {α : Type} {d : Nat} {init : List Opd} {body : Vc} (st : α → List AV) (Hh : α → Hp → Nat → Prop) (μ : α → Nat) (a0 : α) (h0 : init.map (ev vars) = st a0) (h1 : Hh a0 H nx) 
    (hr : ∀ a H' nx', Hh a H' nx' → den C Φ body (n + init.length) (puts vars n (st a)) H' nx' (iput Is d fun us H'' nx'' => ∃ a', us = st a' ∧ Hh a' H'' nx'' ∧ μ a' < μ a)) :
    den C Φ (.loop d init body) n vars H nx Is := by
  -- the measure: the least of those that fit
  have hch : ∀ p : List AV × Hp × Nat, ∃ m : Nat, (∃ a, p.1 = st a ∧ Hh a p.2.1 p.2.2) → (∃ a, p.1 = st a ∧ Hh a p.2.1 p.2.2 ∧ μ a = m) ∧ ∀ a, p.1 = st a → Hh a p.2.1 p.2.2 → m ≤ μ a := by
    intro p
    by_cases hx : ∃ a, p.1 = st a ∧ Hh a p.2.1 p.2.2
    · obtain ⟨a, h1, h2⟩ := hx
      obtain ⟨m, ⟨a', g1, g2, g3⟩, hmin⟩ := least (p := fun m => ∃ a, p.1 = st a ∧ Hh a p.2.1 p.2.2 ∧ μ a = m) ⟨μ a, a, h1, h2, rfl⟩
      exact ⟨m, fun _ => ⟨⟨a', g1, g2, g3⟩, fun a k1 k2 => hmin _ ⟨a, k1, k2, rfl⟩⟩⟩
    · exact ⟨0, fun h => absurd h hx⟩
  obtain ⟨f, hf⟩ := Classical.axiomOfChoice hch
  refine ⟨fun us H' nx' => ∃ a, us = st a ∧ Hh a H' nx', fun us H' nx' => f (us, H', nx'), ⟨a0, h0, h1⟩, fun us H' nx' hl' hI => ?_⟩
  obtain ⟨⟨a, e1, e2, e3⟩, _⟩ := hf (us, H', nx') hI
  simp only at e1 e2
  have := hr a H' nx' e2
  rw [e1]
  refine den_mono _ (fun j us' H'' nx'' hj => ?_) this
  simp only [iput] at hj ⊢
  split at hj
  · rename_i e
    rw [if_pos e]
    obtain ⟨a', k1, k2, k3⟩ := hj
    refine ⟨⟨a', k1, k2⟩, ?_⟩
    have h5 := (hf (us', H'', nx'') ⟨a', k1, k2⟩).2 a' k1 k2
    rw [← e1]
    omega
  · rename_i e; rw [if_neg e]; exact hj
end

/-- Values. -/
theorem int_def (n : Int) : AV.v (.int .i64 n) = int n := rfl
theorem bool_def (b : Bool) : AV.v (.bool b) = bool b := rfl

section pv
variable {H : Hp} {c : List AV} {o k : Nat} {a b i : Int} {l : List Int}
theorem p_nck : pvf H .nck [.ptr c o] = some (.ptr c o) := rfl
theorem p_fad : pvf H (.fad k) [.ptr c o] = some (.ptr c (o + k)) := rfl
theorem p_ld : pvf H (.ld none) [.ptr c o] = c[o]? := rfl
theorem p_lds {m : Nat} : pvf H (.ld (some m)) [.ptr c o] = if o + m ≤ c.length then some (.agg ((c.drop o).take m)) else none := rfl
theorem p_len {m : Nat} : pvf H .len [.sl c m] = some (int m) := rfl
theorem p_leni : pvf H .len [islice l] = some (int l.length) := rfl
theorem p_len0 : pvf H .len [.nil] = some (int 0) := rfl
theorem p_iad {m : Nat} : pvf H (.iad k) [.sl c m, int i] = if 0 ≤ i ∧ i < m then some (.ptr c (i.toNat * k)) else none := rfl
theorem p_iadi : pvf H (.iad 1) [islice l, int i] = if 0 ≤ i ∧ i < l.length then some (.ptr (ints l) i.toNat) else none := by simp [pvf, pIad, islice, int]
theorem ints_get : (ints l)[o]? = if o < l.length then some (int (l.getD o 0)) else none := by
  simp only [ints, List.getElem?_map]
  by_cases h : o < l.length
  · simp [h]
  · simp [h]
theorem rows_get {m : List (List Int)} : (rows m)[o]? = if o < m.length then some (islice (m.getD o [])) else none := by
  simp only [rows, List.getElem?_map]
  by_cases h : o < m.length
  · simp [h]
  · simp [h]
theorem p_add : pvf H (.bin .add) [int a, int b] = some (int (IntKind.i64.wrap (a + b))) := rfl
theorem p_sub : pvf H (.bin .sub) [int a, int b] = some (int (IntKind.i64.wrap (a - b))) := rfl
theorem p_mul : pvf H (.bin .mul) [int a, int b] = some (int (IntKind.i64.wrap (a * b))) := rfl
theorem p_eql : pvf H (.bin .eql) [int a, int b] = some (bool (a == b)) := rfl
theorem p_neq : pvf H (.bin .neq) [int a, int b] = some (bool (a != b)) := rfl
theorem p_lss : pvf H (.bin .lss) [int a, int b] = some (bool (decide (a < b))) := rfl
theorem p_leq : pvf H (.bin .leq) [int a, int b] = some (bool (decide (a ≤ b))) := rfl
theorem p_gtr : pvf H (.bin .gtr) [int a, int b] = some (bool (decide (a > b))) := rfl
theorem p_geq : pvf H (.bin .geq) [int a, int b] = some (bool (decide (a ≥ b))) := rfl
theorem p_not {t : Bool} : pvf H .bnot [bool t] = some (bool (!t)) := rfl
theorem p_msl0 {z : List AV} {p : List (Nat × Nat)} : pvf H (.msl 0 z p) [] = some .nil := rfl
theorem p_msl1 : pvf H (.msl 1 [int 0] [(0, 1)]) [int a] = some (islice [a]) := rfl
theorem p_ext {t : List AV} : pvf H (.ext k) [.tup t] = t[k]? := rfl
theorem p_pick {t : Bool} {x y : AV} : pvf H .pick [bool t, x, y] = some (if t then x else y) := rfl
end pv

theorem wrap_id {x : Int} (h1 : -9223372036854775808 ≤ x) (h2 : x ≤ 9223372036854775807) : IntKind.i64.wrap x = x := by
  simp only [IntKind.wrap, IntKind.bits, IntKind.signed]
  simp
  omega

theorem ev_t (e : Nat → AV) (k : Nat) : ev e (.t k) = e k := rfl
theorem ev_c (e : Nat → AV) (a : AV) : ev e (.c a) = a := rfl
theorem ev_f (e : Nat → AV) (k : Nat) : ev e (.f k) = .fn k [] := rfl
theorem put_eq (e : Nat → AV) (k : Nat) (u : AV) : put e k u k = u := by simp [put]
theorem put_ne (e : Nat → AV) (k j : Nat) (u : AV) (h : (j = k) = False) : put e k u j = e j := by simp only [put]; rw [if_neg (of_eq_false h)]
theorem env0_def (l : List AV) (t : Nat) : env0 l t = l.getD t (.v undef) := rfl
theorem fnOf_fn (k : Nat) (c : List AV) : fnOf (.fn k c) = some (k, c) := rfl

/-- What comes out of a function that makes nothing. -/
def Is1 (r0 : AV) (H : Hp) (nx : Nat) (r : AV) (H' : Hp) (nx' : Nat) : Prop := r = r0 ∧ H' = H ∧ nx ≤ nx'
/-- A slice of integers of the call's own. -/
def IsI (l : List Int) (H : Hp) (nx : Nat) (r : AV) (H' : Hp) (nx' : Nat) : Prop :=
  nx ≤ nx' ∧ ((l = [] ∧ r = .nil ∧ H' = H) ∨ ∃ o, nx ≤ o ∧ o < nx' ∧ r = .ms o 0 l.length 1 ∧ H' = hput H o (some (ints l)))

theorem OkM.fz {P : Program} {ν : Nat → FuncId} {f : Nat} {ys : List AV} {u : AV} {Ψ : Hp → Nat → AV → Hp → Nat → Prop} (h : ∀ H nx, OkM P ν f ys H nx (Ψ H nx)) (hu : ∀ r H' nx', Ψ hempty 0 r H' nx' → frzN H' fuel r = some u) : Fz (OkM P ν) f ys u :=
  (h hempty 0).mono hu

theorem frzN_int (H : Hp) (k : Nat) (n : Int) : frzN H k (int n) = some (int n) := by cases k <;> rfl
theorem frzN_bool (H : Hp) (k : Nat) (b : Bool) : frzN H k (bool b) = some (bool b) := by cases k <;> rfl
theorem frzN_ints (H : Hp) (k : Nat) (l : List Int) : (ints l).mapM (frzN H k) = some (ints l) := by
  induction l with
  | nil => rfl
  | cons a l ih => simp only [ints, List.map_cons, List.mapM_cons, frzN_int] at ih ⊢; simp [ih]
theorem IsI.frz {l : List Int} {H : Hp} {nx : Nat} {r : AV} {H' : Hp} {nx' : Nat} (h : IsI l H nx r H' nx') (k : Nat) : frzN H' (k + 1) r = some (islice l) := by
  obtain ⟨_, ⟨rfl, rfl, rfl⟩ | ⟨o, _, _, rfl, rfl⟩⟩ := h
  · rfl
  · simp only [frzN, hput, if_true, Nat.zero_add, Nat.mul_one]
    rw [frzN_ints]
    simp [islice, ints]
theorem Is1.int {n : Int} {H : Hp} {nx : Nat} {r : AV} {H' : Hp} {nx' : Nat} (h : Is1 (int n) H nx r H' nx') : frzN H' fuel r = some (Av.int n) := by rw [h.1]; rfl
theorem Is1.bool {n : Bool} {H : Hp} {nx : Nat} {r : AV} {H' : Hp} {nx' : Nat} (h : Is1 (bool n) H nx r H' nx') : frzN H' fuel r = some (Av.bool n) := by rw [h.1]; rfl

theorem hput_hput (H : Hp) (o : Nat) (a b : Option (List AV)) : hput (hput H o a) o b = hput H o b := by funext t; simp only [hput]; split <;> rfl
theorem ints_append (l m : List Int) : ints l ++ ints m = ints (l ++ m) := by simp [ints]
theorem ints_length (l : List Int) : (ints l).length = l.length := by simp [ints]
theorem ints_one (l : List Int) : (ints l).all AV.one = true := by simp [ints, AV.one, int, Value.oneCell']

section
variable {C : Ct} {Φ : AV → Hp → Nat → Prop} {n : Nat} {vars : Nat → AV} {H : Hp} {nx : Nat} {Is : Nat → Inv} {r : Vc}
/-- An append of integers to a slice of the call's own. -/
theorem den_appI {x y : Opd} {l m : List Int} {H0 : Hp} {nx0 : Nat} (h : IsI l H0 nx0 (ev vars x) H nx) (hy : ev vars y = islice m) (hm : m ≠ []) (hlen : l.length + m.length ≤ 1099511627776)
    (hk : ∀ v H' nx', IsI (l ++ m) H0 nx0 v H' nx' → den C Φ r (n + 1) (put vars n v) H' nx' Is) : den C Φ (.op true (.app 1 x y) r) n vars H nx Is := by
  have hml : m.length ≠ 0 := fun e => hm (List.eq_nil_of_length_eq_zero e)
  have hc : appCells H 1 (ev vars y) = some (ints m, m.length) := by rw [hy]; simp [appCells, islice, ints_length]
  obtain ⟨h0, ⟨rfl, h2, rfl⟩ | ⟨o, g1, g2, h2, rfl⟩⟩ := h
  · have hlen' : m.length ≤ 1099511627776 := by simpa using hlen
    refine den_app (q := (.ms nx 0 m.length 1, hput H nx (some (ints m)), nx + 1)) hc (ints_one m) ?_ ?_
    · rw [h2]
      simp only [appTo, hml, if_false, appMax, hlen', if_true]
    · exact hk _ _ _ ⟨Nat.le_succ_of_le h0, .inr ⟨nx, h0, Nat.lt_succ_self _, by simp, by simp⟩⟩
  · refine den_app (q := (.ms o 0 (l.length + m.length) 1, hput H0 o (some (ints (l ++ m))), nx)) hc (ints_one m) ?_ (hk _ _ _ ⟨h0, .inr ⟨o, g1, g2, by simp, rfl⟩⟩)
    rw [h2]
    simp only [appTo, hput, if_true, Nat.mul_one, appMax, ints_length]
    rw [if_pos ⟨trivial, by simpa using hlen⟩]
    simp only [Option.some.injEq, Prod.mk.injEq, true_and, and_true, ints_append]
    exact hput_hput _ _ _ _
end

/-- A function that makes nothing: the result alone counts. -/
def Fn (P : Program) (ν : Nat → FuncId) (id : Nat) (args : List AV) (r : AV) : Prop := ∀ H nx, OkM P ν id args H nx (Is1 r H nx)
theorem Fn.fz {P : Program} {ν : Nat → FuncId} {id : Nat} {args : List AV} {r : AV} (h : Fn P ν id args r) (hr : ∀ H, frzN H fuel r = some r) : Fz (OkM P ν) id args r := OkM.fz h fun r' H' nx' hh => by rw [hh.1]; exact hr H'
theorem Fn.fzi {P : Program} {ν : Nat → FuncId} {id : Nat} {args : List AV} {n : Int} (h : Fn P ν id args (int n)) : Fz (OkM P ν) id args (int n) := h.fz fun _ => rfl
theorem Fn.fzb {P : Program} {ν : Nat → FuncId} {id : Nat} {args : List AV} {b : Bool} (h : Fn P ν id args (bool b)) : Fz (OkM P ν) id args (bool b) := h.fz fun _ => rfl
theorem Fn.fz4 {P : Program} {ν : Nat → FuncId} {id : Nat} {args : List AV} {a b c d : Int} (h : Fn P ν id args (.tup [int a, int b, int c, int d])) : Fz (OkM P ν) id args (.tup [int a, int b, int c, int d]) := h.fz fun _ => rfl

theorem ret_false {p : Prop} [Decidable p] (h : ¬ p) : bool false = bool (decide p) := by rw [decide_eq_false h]
theorem ret_true {p : Prop} [Decidable p] (h : p) : bool true = bool (decide p) := by rw [decide_eq_true h]

section frz
variable {H : Hp} {k : Nat} {l : List AV}
theorem frzL_nil : frzL H [] = some [] := rfl
theorem frz_int {n : Int} : frz H k (int n) = some (int n) := by cases k <;> rfl
theorem frz_bool {n : Bool} : frz H k (bool n) = some (bool n) := by cases k <;> rfl
theorem frz_sl {c : List AV} {n : Nat} : frz H k (.sl c n) = some (.sl c n) := by cases k <;> rfl
theorem frz_islice {l : List Int} : frz H k (islice l) = some (islice l) := frz_sl
theorem frz_ptr {c : List AV} {n : Nat} : frz H k (.ptr c n) = some (.ptr c n) := by cases k <;> rfl
theorem frz_nil : frz H k .nil = some (islice []) := by cases k <;> rfl
theorem frzL_int {n : Int} : frzL H (int n :: l) = (frzL H l).map (int n :: ·) := by simp only [frzL, List.mapM_cons, frz_int]; cases List.mapM (frz H fuel) l <;> rfl
theorem frzL_bool {n : Bool} : frzL H (bool n :: l) = (frzL H l).map (bool n :: ·) := by simp only [frzL, List.mapM_cons, frz_bool]; cases List.mapM (frz H fuel) l <;> rfl
theorem frzL_sl {c : List AV} {n : Nat} : frzL H (.sl c n :: l) = (frzL H l).map (.sl c n :: ·) := by simp only [frzL, List.mapM_cons, frz_sl]; cases List.mapM (frz H fuel) l <;> rfl
theorem frzL_islice {c : List Int} : frzL H (islice c :: l) = (frzL H l).map (islice c :: ·) := frzL_sl
theorem frzL_ptr {c : List AV} {n : Nat} : frzL H (.ptr c n :: l) = (frzL H l).map (.ptr c n :: ·) := by simp only [frzL, List.mapM_cons, frz_ptr]; cases List.mapM (frz H fuel) l <;> rfl
theorem frzL_nilv : frzL H (.nil :: l) = (frzL H l).map (islice [] :: ·) := by simp only [frzL, List.mapM_cons, frz_nil]; cases List.mapM (frz H fuel) l <;> rfl
/-- Cells that are no objects stay as they are. -/
def AV.still : AV → Bool
  | .v _ | .sl .. | .ptr .. => true
  | _ => false
theorem frz_still {a : AV} (h : a.still = true) : frz H k a = some a := by cases a <;> first | (cases k <;> rfl) | (simp [AV.still] at h)
theorem frz_stills {c : List AV} (h : c.all AV.still = true) : c.mapM (frz H k) = some c := by
  induction c with
  | nil => rfl
  | cons a c ih => simp only [List.all_cons, Bool.and_eq_true] at h; simp only [List.mapM_cons, frz_still h.1, ih h.2]; rfl
theorem frzL_agg {c : List AV} (h : c.all AV.still = true) : frzL H (.agg c :: l) = (frzL H l).map (.agg c :: ·) := by
  have : frz H fuel (.agg c) = some (.agg c) := by simp only [fuel, frz, frz_stills h, Option.map_some]
  simp only [frzL, List.mapM_cons, this]; cases List.mapM (frz H fuel) l <;> rfl
theorem p_box {c : List AV} (h : c.all AV.still = true) (h1 : c.all AV.one = true) : pvf H .box [.agg c] = some (.ptr c 0) := by
  simp only [pvf, pBox, AV.cells, frzL, frz_stills h, h1, if_true]
theorem p_lda {c : List AV} {n : Nat} (h : c.length = n) : pvf H (.ld (some n)) [.ptr c 0] = some (.agg c) := by
  simp [pvf, pLd, ← h]
theorem p_mka2 {a b : Int} : pvf H (.mka [int 0, int 0] [(0, 1), (1, 1)]) [int a, int b] = some (.agg [int a, int b]) := rfl
theorem p_eqs2 {a b c d : Int} : pvf H (.eqs true 2) [.agg [int a, int b], .agg [int c, int d]] = some (bool (!(a == c && b == d))) := by
  simp [pvf, pEqs, avI, int, bool]
theorem p_eqs2' {a b c d : Int} : pvf H (.eqs false 2) [.agg [int a, int b], .agg [int c, int d]] = some (bool (a == c && b == d)) := by
  simp [pvf, pEqs, avI, int, bool]
end frz

section loops
variable {C : Ct} {Φ : AV → Hp → Nat → Prop} {n : Nat} {vars : Nat → AV} {H : Hp} {nx : Nat} {Is : Nat → Inv} {body : Vc} {d : Nat}
/-- A loop that counts and writes nothing. -/
def Up (N : Nat) (p : Nat → Prop) (H : Hp) (nx i : Nat) : Inv := fun us H' nx' => ∃ j : Nat, us = [int j] ∧ (j ≤ N ∧ p j ∧ H' = H ∧ nx' = nx) ∧ N - j < N - i
theorem den_for (N : Nat) (p : Nat → Prop) (h0 : p 0) (hr : ∀ i : Nat, i ≤ N → p i → den C Φ body (n + 1) (put vars n (int i)) H nx (iput Is d (Up N p H nx i))) : den C Φ (.loop d [.c (int 0)] body) n vars H nx Is :=
  den_loop (α := Nat) (fun i => [int i]) (fun i H' nx' => i ≤ N ∧ p i ∧ H' = H ∧ nx' = nx) (fun i => N - i) 0 rfl ⟨Nat.zero_le _, h0, rfl, rfl⟩ fun i H' nx' ⟨h1, h2, h3, h4⟩ => by
    subst h3; subst h4
    exact hr i h1 h2
theorem up {N : Nat} {p : Nat → Prop} {i : Nat} {a : Int} (ha : a = ((i + 1 : Nat) : Int)) (hi : i < N) (hp : p (i + 1)) : Up N p H nx i [int a] H nx := ⟨i + 1, by rw [ha], ⟨hi, hp, rfl, rfl⟩, by omega⟩
end loops
theorem wrap_succ {i : Nat} (h : i < 9223372036854775807) : IntKind.i64.wrap ((i : Int) + 1) = ((i + 1 : Nat) : Int) := by rw [wrap_id (by omega) (by omega)]; rfl

theorem findSome_at {β : Type} {p : Nat → Option β} {r : β} {n i : Nat} (hi : i < n) (hp : p i = some r) (hlt : ∀ j, j < i → p j = none) : (List.range n).findSome? p = some r := by
  induction n with
  | zero => omega
  | succ n ih =>
    rw [List.range_succ, List.findSome?_append]
    by_cases e : i < n
    · rw [ih e]; rfl
    · have : i = n := by omega
      subst this
      have : (List.range i).findSome? p = none := by rw [List.findSome?_eq_none_iff]; intro x hx; exact hlt x (by simpa using hx)
      rw [this]
      simp [hp]
theorem findSome_none {β : Type} {p : Nat → Option β} {n : Nat} (h : ∀ j, j < n → p j = none) : (List.range n).findSome? p = none := by
  rw [List.findSome?_eq_none_iff]; intro x hx; exact h x (by simpa using hx)
end Go.Av
