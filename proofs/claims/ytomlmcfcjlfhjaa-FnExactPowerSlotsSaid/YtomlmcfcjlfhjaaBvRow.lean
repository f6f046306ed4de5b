/-
  From what a statement hands over to the layer's values, and back to the statement's own words.
-/
import Derived.Test.YtomlmcfcjlfhjaaBvZ
import Derived.ChangeArms
import Derived.WideShapes
import Derived.ChangeSame
import Derived.ChangeShapes
import Derived.Carry
import Derived.RowKit
namespace Go.Av
set_option linter.unusedSectionVars false
set_option linter.unusedSimpArgs false
set_option linter.unusedVariables false
variable [md : Md]
open Go.RowKit (Below)

inductive Ty where
  | int
  | bool
  | str
  | sl (e : Ty)
  | unit
  | pair (a b : Ty)

def Ty.size : Ty → Nat
  | .unit => 0
  | .pair a b => a.size + b.size
  | _ => 1

def offB (P : Program) : Nat → List Field → List Ty → Bool
  | _, [], [] => true
  | k, f :: fs, t :: ts => f.offset == k && P.cellsOf f.type == t.size && offB P (k + t.size) fs ts
  | _, _, _ => false

def tyOf (P : Program) : Nat → TypeId → Option Ty
  | 0, _ => none
  | n + 1, t =>
    match P.underlying t with
    | some (.int .i64) => some .int
    | some .bool => some .bool
    | some .string => some .str
    | some (.slice e) => (tyOf P n e).bind fun ty => if P.cellsOf e = ty.size ∧ 0 < ty.size then some (.sl ty) else none
    | some (.struct fs) => (fs.toList.mapM fun f => tyOf P n f.type).bind fun tys => if offB P 0 fs.toList tys && P.cellsOf t == (tys.foldr Ty.pair Ty.unit).size then some (tys.foldr Ty.pair Ty.unit) else none
    | _ => none

inductive Shp : Ty → List AV → Prop
  | int (n : Int) (h1 : -9223372036854775808 ≤ n) (h2 : n ≤ 9223372036854775807) : Shp .int [Av.int n]
  | bool (b : Bool) : Shp .bool [Av.bool b]
  | str (s : ByteArray) (hs : s.size ≤ 9223372036854775807) : Shp .str [.v (.string s)]
  | sl {e : Ty} (rs : List (List AV)) (hl : rs.length ≤ 9223372036854775807) (hr : ∀ r ∈ rs, Shp e r) : Shp (.sl e) [.sl rs.flatten rs.length]
  | unit : Shp .unit []
  | pair {a b : Ty} {x y : List AV} (hx : Shp a x) (hy : Shp b y) : Shp (.pair a b) (x ++ y)

theorem Shp.len {t : Ty} {x : List AV} (h : Shp t x) : x.length = t.size := by
  induction h <;> simp_all [Ty.size]

theorem flatten_len {α : Type} {m : Nat} : ∀ {L : List (List α)}, (∀ l ∈ L, l.length = m) → L.flatten.length = L.length * m
  | [], _ => by simp
  | a :: L, h => by
    rw [List.flatten_cons, List.length_append, flatten_len fun l hl => h l (List.mem_cons_of_mem _ hl), h a (List.mem_cons_self ..), List.length_cons, Nat.succ_mul]
    omega
theorem flatten_get {α : Type} {m : Nat} : ∀ {L : List (List α)}, (∀ l ∈ L, l.length = m) → ∀ i j, i < L.length → j < m → L.flatten[i * m + j]? = (L.getD i [])[j]?
  | [], _, i, j, hi, _ => by simp at hi
  | a :: L, h, i, j, hi, hj => by
    have ha := h a (List.mem_cons_self ..)
    rw [List.flatten_cons]
    cases i with
    | zero => rw [List.getElem?_append_left (by omega)]; simp
    | succ i =>
      rw [List.getElem?_append_right (by rw [Nat.succ_mul]; omega), ha, show (i + 1) * m + j - m = i * m + j by rw [Nat.succ_mul]; omega, flatten_get (fun l hl => h l (List.mem_cons_of_mem _ hl)) i j (by simpa using hi) hj]
      simp

section
variable {H : Type} {enc : TypeId × Value → H} {P : Program} {w : World} {base : Nat} {held : Bool} {ν : Nat → FuncId}

theorem cell_lt {w : World} {a : Addr} {v : Value} (h : w.cell? a = some v) : a.block < w.heap.size ∧ a.spot = none := by
  unfold World.cell? at h
  split at h
  · rename_i c t f hb
    refine ⟨(Array.getElem?_eq_some_iff.1 hb).1, ?_⟩
    cases hs : a.spot with
    | none => rfl
    | some x => simp [hs] at h
  · cases h

theorem cells_some {a : Addr} {n : Nat} {cs : List Value} (h : w.cells? base a n = some cs) : cs.length = n ∧ ∀ j, j < n → w.cell? (a.add j) = some (cs.getD j undef) := by
  unfold World.cells? at h
  split at h
  · obtain ⟨h1, h2⟩ := mapM_some h
    simp only [List.length_range] at h1
    refine ⟨h1, fun j hj => ?_⟩
    have := h2 j (by simpa using hj) (by omega)
    simp only [List.getElem_range] at this
    rw [this]
    simp [h1, hj]
  · cases h

theorem tyFields {n m : Nat} {cs : List Value} (IH : ∀ (t : TypeId) (cs : List Value) (x : DataW H × List MemPlace) (ty : Ty), DataW.trod enc P w base (fun _ => true) held n t cs = some x → tyOf P m t = some ty → ∃ as : List AV, as.length = cs.length ∧ (∀ i (h : i < as.length), RepP ν w (fun b => b < w.heap.size) as[i] (cs.getD i undef)) ∧ Shp ty as) :
    ∀ (fs : List Field) (tys : List Ty) (k : Nat), offB P k fs tys = true → fs.mapM (fun f => tyOf P m f.type) = some tys → k + (tys.foldr Ty.pair Ty.unit).size = cs.length →
      (∀ f ∈ fs, ∃ y, DataW.trod enc P w base (fun _ => true) held n f.type ((cs.drop f.offset).take (P.cellsOf f.type)) = some y) →
      ∃ as : List AV, as.length + k = cs.length ∧ (∀ i (h : i < as.length), RepP ν w (fun b => b < w.heap.size) as[i] (cs.getD (k + i) undef)) ∧ Shp (tys.foldr Ty.pair Ty.unit) as := by
  intro fs
  induction fs with
  | nil =>
    intro tys k hB hm hk _
    simp at hm
    subst hm
    simp only [List.foldr_nil, Ty.size] at hk
    exact ⟨[], by simpa using hk, fun i h => by simp at h, .unit⟩
  | cons f fs ih =>
    intro tys k hB hm hk hread
    simp only [List.mapM_cons, Option.pure_def, Option.bind_eq_bind] at hm
    obtain ⟨t, ht, hm⟩ := bind_some hm
    obtain ⟨ts, hts, hm⟩ := bind_some hm
    cases hm
    simp only [offB, Bool.and_eq_true, beq_iff_eq] at hB
    obtain ⟨⟨h1, h2⟩, h3⟩ := hB
    simp only [List.foldr_cons, Ty.size] at hk
    obtain ⟨y, hy⟩ := hread f (List.mem_cons_self ..)
    obtain ⟨as, a1, a2, a3⟩ := IH _ _ _ _ hy ht
    obtain ⟨bs, b1, b2, b3⟩ := ih ts (k + t.size) h3 hts (by omega) (fun g hg => hread g (List.mem_cons_of_mem _ hg))
    have alen := a3.len
    refine ⟨as ++ bs, by simp; omega, fun i hi => ?_, .pair a3 b3⟩
    by_cases hlt : i < as.length
    · rw [List.getElem_append_left hlt]
      have := a2 i hlt
      rw [h1, h2] at this
      have e : ((cs.drop k).take t.size).getD i undef = cs.getD (k + i) undef := by
        have : i < t.size := by omega
        simp [this]
      rw [e] at this
      exact this
    · rw [List.getElem_append_right (by omega)]
      have := b2 (i - as.length) (by simp at hi; omega)
      rw [show k + t.size + (i - as.length) = k + i by omega] at this
      exact this

theorem open_trod : ∀ (n m : Nat) (t : TypeId) (cs : List Value) (x : DataW H × List MemPlace) (ty : Ty), DataW.trod enc P w base (fun _ => true) held n t cs = some x → tyOf P m t = some ty → ∃ as : List AV, as.length = cs.length ∧ (∀ i (h : i < as.length), RepP ν w (fun b => b < w.heap.size) as[i] (cs.getD i undef)) ∧ Shp ty as := by
  intro n
  induction n with
  | zero => intro m t cs x ty h; simp [DataW.trod] at h
  | succ n IH =>
    intro m t cs x ty h hty
    cases m with
    | zero => simp [tyOf] at hty
    | succ m =>
      unfold tyOf at hty
      split at hty
      · rename_i hu
        cases hty
        obtain ⟨k, rfl, _, hw⟩ := DataW.trod_int hu h
        have hb : -9223372036854775808 ≤ k ∧ k ≤ 9223372036854775807 := by simpa [Lit.wf, IntKind.min, IntKind.max, IntKind.signed, IntKind.bits] using hw
        refine ⟨[int k], rfl, fun i hi => ?_, .int k hb.1 hb.2⟩
        have : i = 0 := by simpa using hi
        subst this
        exact .v _
      · rename_i hu
        cases hty
        obtain ⟨b, rfl, _⟩ := DataW.trod_bool hu h
        refine ⟨[bool b], rfl, fun i hi => ?_, .bool b⟩
        have : i = 0 := by simpa using hi
        subst this
        exact .v _
      · rename_i hu
        cases hty
        obtain ⟨s, rfl, _, hs⟩ := DataW.trod_string hu h
        refine ⟨[.v (.string s)], rfl, fun i hi => ?_, .str s hs⟩
        have : i = 0 := by simpa using hi
        subst this
        exact .v _
      · rename_i e hu
        obtain ⟨te, hte, hty⟩ := bind_some hty
        split at hty
        · rename_i hc
          cases hty
          rcases DataW.trod_slice hu h with ⟨rfl, _⟩ | ⟨a, len, cap, elems, rest, n', hn, rfl, _, _, hlc, hcm, hel, hget, _, _⟩
          · refine ⟨[.sl [] 0], rfl, fun i hi => ?_, by have := Shp.sl (e := te) [] (by simp) (by simp); simpa using this⟩
            have : i = 0 := by simpa using hi
            subst this
            exact .sl0 _ _
          · cases hn
            have each : ∀ i : Nat, ∃ as : List AV, i < len → as.length = te.size ∧ Shp te as ∧ ∀ j (h : j < as.length), ∃ v, w.cell? ((a.add (i * te.size)).add j) = some v ∧ RepP ν w (fun b => b < w.heap.size) as[j] v := by
              intro i
              by_cases hi : i < len
              · have hg := hget i hi
                rw [List.getElem?_eq_getElem (by omega)] at hg
                obtain ⟨vals, hv1, hv2⟩ := bind_some hg
                obtain ⟨as, a1, a2, a3⟩ := IH m e vals _ te hv2 hte
                rw [hc.1] at hv1
                obtain ⟨v1, v2⟩ := cells_some hv1
                exact ⟨as, fun _ => ⟨a3.len, a3, fun j hj => ⟨_, v2 j (by omega), a2 j hj⟩⟩⟩
              · exact ⟨[], fun h => absurd h hi⟩
            obtain ⟨f, hf⟩ := Classical.axiomOfChoice each
            have hrl : ((List.range len).map f).length = len := by simp
            have hall : ∀ l ∈ (List.range len).map f, l.length = te.size := by
              intro l hl
              simp only [List.mem_map, List.mem_range] at hl
              obtain ⟨i, hi, rfl⟩ := hl
              exact (hf i hi).1
            have hshp : Shp (.sl te) [.sl ((List.range len).map f).flatten len] := by
              have := Shp.sl (e := te) ((List.range len).map f) (by rw [hrl]; exact Nat.le_trans hlc hcm) (fun r hr => by
                simp only [List.mem_map, List.mem_range] at hr
                obtain ⟨i, hi, rfl⟩ := hr
                exact (hf i hi).2.1)
              rwa [hrl] at this
            refine ⟨[.sl ((List.range len).map f).flatten len], rfl, fun i hi => ?_, hshp⟩
            have : i = 0 := by simpa using hi
            subst this
            show RepP ν w _ (.sl _ _) (.slice (some a) len cap)
            by_cases h0 : len = 0
            · subst h0
              exact .sl0 _ _
            · have hlen := flatten_len hall
              rw [hrl] at hlen
              have first := (hf 0 (by omega)).2.2 0 (by rw [(hf 0 (by omega)).1]; exact hc.2)
              obtain ⟨v0, hv0, _⟩ := first
              have ha0 : (a.add (0 * te.size)).add 0 = a := by simp [Addr.add]
              rw [ha0] at hv0
              obtain ⟨hb, hsp⟩ := cell_lt hv0
              obtain ⟨ab, ao, asp⟩ := a
              simp only at hb hsp
              subst hsp
              have cellAt : ∀ k, k < len * te.size → ∃ v, w.cell? ⟨ab, ao + k, none⟩ = some v ∧ ∀ (hk : k < ((List.range len).map f).flatten.length), RepP ν w (fun b => b < w.heap.size) (((List.range len).map f).flatten[k]) v := by
                intro k hk
                have hq : k / te.size < len := Nat.div_lt_of_lt_mul (by rw [Nat.mul_comm]; exact hk)
                have hr : k % te.size < te.size := Nat.mod_lt _ hc.2
                obtain ⟨g1, g2, g3⟩ := hf (k / te.size) hq
                obtain ⟨v, hv, hrep⟩ := g3 (k % te.size) (by omega)
                have hkk : k / te.size * te.size + k % te.size = k := by rw [Nat.mul_comm]; exact Nat.div_add_mod _ _
                rw [addr_add, addr_add, Nat.add_assoc, hkk] at hv
                refine ⟨v, hv, fun hk' => ?_⟩
                have hfg := flatten_get hall (k / te.size) (k % te.size) (by rw [hrl]; exact hq) hr
                rw [hkk] at hfg
                have e1 : ((List.range len).map f).getD (k / te.size) [] = f (k / te.size) := by simp [hq]
                rw [e1, List.getElem?_eq_getElem hk', List.getElem?_eq_getElem (by omega : k % te.size < (f (k / te.size)).length)] at hfg
                have e2 := Option.some.inj hfg
                rw [e2]
                exact hrep
              have each2 : ∀ k : Nat, ∃ v, k < len * te.size → w.cell? ⟨ab, ao + k, none⟩ = some v ∧ ∀ (hk : k < ((List.range len).map f).flatten.length), RepP ν w (fun b => b < w.heap.size) (((List.range len).map f).flatten[k]) v := by
                intro k
                by_cases hk : k < len * te.size
                · obtain ⟨v, hv⟩ := cellAt k hk; exact ⟨v, fun _ => hv⟩
                · exact ⟨undef, fun h => absurd h hk⟩
              obtain ⟨us, hus⟩ := Classical.axiomOfChoice each2
              exact .sl us hb hlc (fun i hi => (hus i (by omega)).1) (fun i hi => (hus i (by omega)).2 hi)
        · cases hty
      · rename_i fs hu
        obtain ⟨tys, htys, hty⟩ := bind_some hty
        split at hty
        · rename_i hc
          cases hty
          simp only [Bool.and_eq_true, beq_iff_eq] at hc
          obtain ⟨xs, n', hn, _, hlen, hxl, hget⟩ := DataW.trod_struct hu h
          cases hn
          obtain ⟨as, a1, a2, a3⟩ := tyFields (cs := cs) (fun t cs x ty => IH m t cs x ty) fs.toList tys 0 hc.1 htys (by omega) (fun f hf => by
            obtain ⟨i, hi, rfl⟩ := List.getElem_of_mem hf
            have hi' : i < fs.size := by simpa using hi
            have := hget i fs[i] (by simp [hi'])
            rw [List.getElem?_eq_getElem (by omega)] at this
            exact ⟨_, by simpa using this⟩)
          exact ⟨as, by omega, fun i hi => by have := a2 i hi; rwa [Nat.zero_add] at this, a3⟩
        · cases hty
      · cases hty

/-- An argument: a struct or one cell. -/
inductive ShpV : Ty → AV → Prop
  | agg {a b : Ty} {as : List AV} (h : Shp (.pair a b) as) : ShpV (.pair a b) (.agg as)
  | one {t : Ty} {a : AV} (h : Shp t [a]) : ShpV t a

theorem open_arg {t : TypeId} {v : Value} {d : DataW H} {ps : List MemPlace} {r : Reach} {b0 m : Nat} {ty : Ty} (hty : tyOf P m t = some ty) (hu : ty ≠ .unit) (hval : Value.okWide P w r b0 t v) (hd : DataW.Trod enc P w base (fun _ => true) held t v d ps) :
    ∃ a, RepP ν w (fun b => b < w.heap.size) a v ∧ ShpV ty a := by
  obtain ⟨fuel, hf⟩ := hd
  obtain ⟨as, a1, a2, a3⟩ := open_trod (ν := ν) fuel m t _ _ ty hf hty
  have one : v.cells = #[v] → ∃ a, RepP ν w (fun b => b < w.heap.size) a v ∧ ShpV ty a := by
    intro hc
    rw [hc] at a1 a2
    have hl : as.length = 1 := by simpa using a1
    obtain ⟨a, rfl⟩ := List.length_eq_one_iff.1 hl
    exact ⟨a, by simpa using a2 0 (by simp), .one a3⟩
  cases m with
  | zero => simp [tyOf] at hty
  | succ m =>
    unfold tyOf at hty
    split at hty
    · rename_i h; obtain ⟨n, rfl⟩ := WideShapes.okWide_int h hval; exact one rfl
    · rename_i h; obtain ⟨n, rfl⟩ := WideShapes.okWide_bool h hval; exact one rfl
    · rename_i h; obtain ⟨n, rfl⟩ := WideShapes.okWide_string h hval; exact one rfl
    · rename_i e h; obtain ⟨x, y, z, rfl⟩ := WideShapes.okWide_slice h hval; exact one rfl
    · rename_i fs h
      obtain ⟨cs, rfl, hs⟩ := WideShapes.okWide_struct h hval
      obtain ⟨tys, _, hty⟩ := bind_some hty
      split at hty
      · cases hty
        cases tys with
        | nil => exact absurd rfl hu
        | cons t ts =>
          refine ⟨.agg as, .agg cs (by simpa [Value.cells] using a1.symm) (fun i hi => ?_), .agg a3⟩
          have := a2 i hi
          simpa [Value.cells] using this
      · cases hty
    · cases hty

theorem stays_all (hl : laidOutB P = true) {W W' : World} {sp : Nat → Bool} (hb : Below W.heap.size W W') : ∀ (ts : List TypeId) (vs : List Value) (ds : List (DataW H)) (ps : List MemPlace), ts.all (fun t => P.readableRec t && decide (t < P.types.size)) = true →
    DataW.TrodAll enc P W 0 (fun _ => true) true ts vs ds ps → (∀ x ∈ ps, x.block < W.heap.size) → (∀ x ∈ ps, sp x.block = true) → DataW.TrodAll enc P W' 0 sp true ts vs ds ps := by
  intro ts
  induction ts with
  | nil =>
    intro vs ds ps _ h _ _
    obtain ⟨rfl, rfl, rfl⟩ := ChangeShapes.trodAll_nil h
    exact ChangeShapes.trodAll_mk0
  | cons t ts ih =>
    intro vs ds ps hB h hlt hsp
    simp only [List.all_cons, Bool.and_eq_true, decide_eq_true_eq] at hB
    cases vs with
    | nil => cases ds <;> simp [DataW.TrodAll] at h
    | cons v vs =>
      cases ds with
      | nil => simp [DataW.TrodAll] at h
      | cons d ds =>
        obtain ⟨p, q, h1, h2, rfl⟩ := h
        refine ⟨p, q, WideElems.Trod_stays hl hB.1.1 hB.1.2 h1 (fun x hx => hb.same (hlt x (List.mem_append_left _ hx))) (fun x hx => hsp x (List.mem_append_left _ hx)), ih vs ds q hB.2 h2 (fun x hx => hlt x (List.mem_append_right _ hx)) (fun x hx => hsp x (List.mem_append_right _ hx)), rfl⟩

def id' : Nat → Nat := fun n => n
def tyNe : Ty → Bool
  | .unit => false
  | _ => true

theorem open_all {m : Nat} {b0 : Nat} {r : Reach} : ∀ (ts : List TypeId) (vs : List Value) (ds : List (DataW H)) (ps : List MemPlace) (tys : List Ty), ts.mapM (tyOf P m) = some tys → tys.all tyNe = true →
    (∀ (j : Nat) (t : TypeId) (v : Value), ts[j]? = some t → vs[j]? = some v → Value.okWide P w r b0 t v) → DataW.TrodAll enc P w 0 (fun _ => true) true ts vs ds ps →
    ∃ avs : List AV, avs.length = vs.length ∧ (∀ i (h : i < avs.length), RepP ν w (fun b => b < w.heap.size) avs[i] (vs.getD i undef)) ∧ avs.length = tys.length ∧ ∀ i (h : i < avs.length) (h' : i < tys.length), ShpV tys[i] avs[i] := by
  intro ts
  induction ts with
  | nil =>
    intro vs ds ps tys hm _ _ h
    obtain ⟨rfl, rfl, rfl⟩ := ChangeShapes.trodAll_nil h
    simp at hm
    subst hm
    exact ⟨[], rfl, fun i h => by simp at h, rfl, fun i h => by simp at h⟩
  | cons t ts ih =>
    intro vs ds ps tys hm hne hval h
    simp only [List.mapM_cons, Option.pure_def, Option.bind_eq_bind] at hm
    obtain ⟨ty, hty, hm⟩ := bind_some hm
    obtain ⟨tys', htys', hm⟩ := bind_some hm
    cases hm
    simp only [List.all_cons, Bool.and_eq_true] at hne
    cases vs with
    | nil => cases ds <;> simp [DataW.TrodAll] at h
    | cons v vs =>
      cases ds with
      | nil => simp [DataW.TrodAll] at h
      | cons d ds =>
        obtain ⟨p, q, h1, h2, rfl⟩ := h
        obtain ⟨a, a1, a2⟩ := open_arg (ν := ν) hty (fun e => by subst e; simp [tyNe] at hne) (hval 0 t v rfl rfl) h1
        obtain ⟨avs, b1, b2, b3, b4⟩ := ih vs ds q tys' htys' hne.2 (fun j t v ht hv => hval (j + 1) t v (by simpa using ht) (by simpa using hv)) h2
        refine ⟨a :: avs, by simp [b1], fun i hi => ?_, by simp [b3], fun i hi hi' => ?_⟩
        · cases i with
          | zero => exact a1
          | succ i => exact b2 i (by simpa using hi)
        · cases i with
          | zero => exact a2
          | succ i => exact b4 i (by simpa using hi) (by simpa using hi')

/-- A statement's function that answers true over the layer's values does what the row asks. -/
theorem row_calls {fn : Func} {s : ChangeSpec} {id : Nat} {tb : TypeId} {m : Nat} {tys : List Ty} (hl : laidOutB P = true) (hB : fn.params.toList.all (fun t => P.readableRec t && decide (t < P.types.size)) = true) (hr : fn.resultTypes = #[tb]) (hub : P.underlying tb = some .bool)
    (hv : s.vars = []) (hfn : ∀ ds : List (DataW H), ds.length = tys.length → s.fn H ds = { results := [.lit (.bool true)], args := ds }) (htys : fn.params.toList.mapM (tyOf P m) = some tys) (hne : tys.all tyNe = true)
    (hlaw : ∀ avs : List AV, avs.length = tys.length → (∀ i (h : i < avs.length) (h' : i < tys.length), ShpV tys[i] avs[i]) → OkM P ν id avs hempty 0 (fun r _ _ => r = bool true))
    (W : World) (b0 : Nat) (args : Array Value) (ds gs : List (DataW H)) (before : List MemPlace) (hval : ∀ (j : Nat) t v, fn.params[j]? = some t → args[j]? = some v → Value.okWide P W .any b0 t v)
    (hW : DataW.Whole enc P fn.params.toList s.vars false W args.toList ds gs before) :
    Calls P (ν id) args W fun e W' => ∃ v, e = .returned v ∧ s.post enc P fn false true false false W args v W' := by
  have hW' := hW
  have hlt := hW.lt
  obtain ⟨p, q, hA, hV, rfl, hfz, _⟩ := hW
  rw [hv] at hV
  obtain ⟨rfl, rfl⟩ := ChangeShapes.trodVars_none hV
  obtain ⟨avs, a1, a2, a3, a4⟩ := open_all (ν := ν) (m := m) (b0 := b0) (r := .any) _ _ _ _ tys htys hne (fun j t v ht hv => hval j t v (by simpa using ht) (by simpa using hv)) hA
  have hdl : ds.length = tys.length := by
    have : ∀ (ts : List TypeId) (vs : List Value) (ds : List (DataW H)) (ps : List MemPlace), DataW.TrodAll enc P W 0 (fun _ => true) true ts vs ds ps → ds.length = vs.length := by
      intro ts
      induction ts with
      | nil => intro vs ds ps h; obtain ⟨rfl, rfl, rfl⟩ := ChangeShapes.trodAll_nil h; rfl
      | cons t ts ih =>
        intro vs ds ps h
        cases vs with
        | nil => cases ds <;> simp [DataW.TrodAll] at h
        | cons v vs =>
          cases ds with
          | nil => simp [DataW.TrodAll] at h
          | cons d ds => obtain ⟨p, q, h1, h2, rfl⟩ := h; simp [ih vs ds q h2]
    have := this _ _ _ _ hA
    omega
  have hc := hlaw avs a3 a4
  refine (hc.2 W (fun _ => True) id' W args (objs_frozen ν id' 0 W) (Below.refl _ _) (by simpa using a1.symm) (fun i hi => ?_)).mono ?_
  · have := a2 i hi
    refine .pure ?_
    have h2 : RepP ν W (Imm ⟨id', hempty, 0, W, fun _ => True⟩) avs[i] (args.toList.getD i undef) := this.mono (fun b hb => ⟨⟨hb, trivial⟩, (fun o c hc => by cases hc)⟩) (fun _ _ => rfl)
    simpa using h2
  · rintro e W' ⟨v, r', H', nx', β', rfl, rfl, hrep, _, _, hb⟩
    have hv' := hrep.inv_v
    subst hv'
    have hs := hfn ds hdl
    refine ⟨_, rfl, ds, [], p ++ [], [], p, [], hW', ?_, ?_, ?_, World.keptBut_mono (fun x hx => ⟨hx, .inr (.inl (by simpa using hx))⟩) (hb.frame (· ∈ p ++ [])), (fun h => by cases h)⟩
    · rw [List.append_nil, hs, hr]
      exact ChangeShapes.trodAll_mk1 (RowKit.shut_bool hub true)
    · rw [List.append_nil, hs]
      exact stays_all hl hb _ _ _ _ hB hA (fun x hx => hlt x (by simpa using hx)) (fun x hx => by have := hlt x (by simpa using hx); simpa using this)
    · rw [hv, List.append_nil, hs]; rfl
end
end Go.Av
