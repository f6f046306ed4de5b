/-
  Maps in the second form: rules, and how many different keys a set has.
-/
import Derived.Test.YtalfoffamemfnaaAvQ
namespace Go.Av
open Classical
set_option linter.unusedSimpArgs false
set_option linter.unusedVariables false

/-- Object o is a map with these entries. -/
def MapAt (H : Hp) (o : Nat) (kd : Option Nat) (l : List (List Int × AV)) : Prop := ∃ c, H o = some c ∧ mdec kd c = some l
def mput : List (List Int × AV) → List Int → AV → List (List Int × AV)
  | [], k, x => [(k, x)]
  | e :: r, k, x => if e.1 == k then (k, x) :: r else e :: mput r k x
theorem mset1_dec {kd : Option Nat} {k x : AV} {kl : List Int} (hk : mkey kd k = some kl) : ∀ (c : List AV) (l : List (List Int × AV)), mdec kd c = some l → mdec kd (mset1 k x kl c l) = some (mput l kl x)
  | [], l, h => by
    simp [mdec] at h; subst h
    simp [mset1, mput, mdec, mentry, hk]
  | y :: c, l, h => by
    simp only [mdec, List.mapM_cons, Option.pure_def, Option.bind_eq_bind] at h
    obtain ⟨z, hz, h⟩ := bindSome h
    obtain ⟨r, hr, h⟩ := bindSome h
    cases h
    have ih := mset1_dec (x := x) hk c r hr
    simp only [mset1, mput]
    cases he : (z.1 == kl)
    · simp only [Bool.false_eq_true, if_false, mdec, List.mapM_cons, hz, Option.pure_def, Option.bind_eq_bind, Option.bind_some]
      rw [show List.mapM (mentry kd) (mset1 k x kl c r) = some (mput r kl x) from ih]
      rfl
    · simp only [if_true, mdec, List.mapM_cons, mentry, hk, Option.map_some, Option.pure_def, Option.bind_eq_bind, Option.bind_some]
      rw [show List.mapM (mentry kd) c = some r from hr]
      rfl
theorem MapAt.len {H : Hp} {o : Nat} {kd : Option Nat} {l : List (List Int × AV)} (h : MapAt H o kd l) : pvf H .mlen [.mm o] = some (int l.length) := by
  obtain ⟨c, h1, h2⟩ := h
  simp only [pvf, pMlen, h1]
  rw [← (show l.length = c.length from by
    have : ∀ (c : List AV) (l : List (List Int × AV)), c.mapM (mentry kd) = some l → l.length = c.length := by
      intro c
      induction c with
      | nil => intro l h; simp at h; simp [h]
      | cons a c ih =>
        intro l h
        simp only [List.mapM_cons, Option.pure_def, Option.bind_eq_bind] at h
        obtain ⟨z, hz, h⟩ := bindSome h
        obtain ⟨r, hr, h⟩ := bindSome h
        cases h
        simp [ih r hr]
    exact this c l h2)]
  rfl
theorem MapAt.get {H : Hp} {o : Nat} {kd : Option Nat} {l : List (List Int × AV)} (h : MapAt H o kd l) {k : AV} {kl : List Int} (hk : mkey kd k = some kl) (z : AV) :
    pvf H (.mget kd true z) [.mm o, k] = some (.tup [(mfind l kl).getD z, bool (mfind l kl).isSome]) ∧ pvf H (.mget kd false z) [.mm o, k] = some ((mfind l kl).getD z) := by
  obtain ⟨c, h1, h2⟩ := h
  simp only [pvf, pGet, h1, h2, hk]
  exact ⟨rfl, rfl⟩
theorem MapAt.kept {H H' : Hp} {o : Nat} {kd : Option Nat} {l : List (List Int × AV)} (h : MapAt H o kd l) (hh : H' o = H o) : MapAt H' o kd l := by
  obtain ⟨c, h1, h2⟩ := h
  exact ⟨c, hh.trans h1, h2⟩
theorem mkey_int (i : Int) : mkey none (int i) = some [i] := rfl
theorem mkey_two (a b : Int) : mkey (some 2) (.agg [int a, int b]) = some [a, b] := rfl

section
variable {C : Ct} {Φ : AV → Hp → Nat → Prop} {n : Nat} {vars : Nat → AV} {H : Hp} {nx : Nat} {Is : Nat → Inv} {r : Vc}
theorem den_mkm {kd : Option Nat} (hk : ∀ H2 : Hp, MapAt H2 nx kd [] → (∀ j, j ≠ nx → H2 j = H j) → den C Φ r (n + 1) (put vars n (.mm nx)) H2 (nx + 1) Is) : den C Φ (.op true .mkm r) n vars H nx Is :=
  ⟨rfl, hk (hput H nx (some [])) ⟨[], by simp [hput], rfl⟩ fun j hj => by simp [hput, hj]⟩
theorem den_mset {kd : Option Nat} {m k v : Opd} {o : Nat} {l : List (List Int × AV)} {kl : List Int} {x : AV} (hm : ev vars m = .mm o) (ha : MapAt H o kd l) (hk : mkey kd (ev vars k) = some kl) (hv : ev vars v = x) (hx : x.plain = true)
    (hr : ∀ H2 : Hp, MapAt H2 o kd (mput l kl x) → (∀ j, j ≠ o → H2 j = H j) → den C Φ r (n + 1) (put vars n (.v undef)) H2 nx Is) : den C Φ (.op true (.mset kd m k v) r) n vars H nx Is := by
  obtain ⟨c, h1, h2⟩ := ha
  refine ⟨rfl, hput H o (some (mset1 (ev vars k) x kl c l)), ?_, hr (hput H o (some (mset1 (ev vars k) x kl c l))) ⟨_, by simp [hput], mset1_dec hk c l h2⟩ fun j hj => by simp [hput, hj]⟩
  simp only [hm, msetTo, h1, h2, hk, hv, hx, if_true]
end

/-- Sets: the keys in the order in which they came. -/
def insK (l : List (List Int)) (k : List Int) : List (List Int) := if k ∈ l then l else l ++ [k]
def SetAt (H : Hp) (o : Nat) (kd : Option Nat) (l : List (List Int)) : Prop := MapAt H o kd (l.map fun k => (k, bool true))
theorem mput_set : ∀ (l : List (List Int)) (k : List Int), mput (l.map fun k => (k, bool true)) k (bool true) = (insK l k).map fun k => (k, bool true)
  | [], k => by simp [mput, insK]
  | a :: l, k => by
    have ih := mput_set l k
    simp only [List.map_cons, mput]
    by_cases e : a = k
    · subst e
      simp [insK]
    · have e1 : (a == k) = false := by simpa using e
      simp only [e1, Bool.false_eq_true, if_false, ih]
      unfold insK
      by_cases h : k ∈ l
      · simp [h]
      · have e2 : ¬ k = a := fun h' => e h'.symm
        simp [h, e2]
def keysOf (ks : List (List Int)) : List (List Int) := ks.foldl insK []
theorem keysOf_snoc (ks : List (List Int)) (k : List Int) : keysOf (ks ++ [k]) = insK (keysOf ks) k := by simp [keysOf]
theorem insK_mem {l : List (List Int)} {k x : List Int} : x ∈ insK l k ↔ x ∈ l ∨ x = k := by
  unfold insK
  split
  · constructor
    · exact .inl
    · rintro (h | rfl)
      · exact h
      · assumption
  · simp
theorem keysOf_mem (ks : List (List Int)) (x : List Int) : x ∈ keysOf ks ↔ x ∈ ks := by
  unfold keysOf
  have : ∀ (ks l : List (List Int)), x ∈ ks.foldl insK l ↔ x ∈ l ∨ x ∈ ks := by
    intro ks
    induction ks with
    | nil => intro l; simp
    | cons k ks ih => intro l; simp only [List.foldl_cons, ih, insK_mem, List.mem_cons]; rw [or_assoc]
  simpa using this ks []
theorem keysOf_le (ks : List (List Int)) : (keysOf ks).length ≤ ks.length := by
  unfold keysOf
  have : ∀ (ks l : List (List Int)), (ks.foldl insK l).length ≤ l.length + ks.length := by
    intro ks
    induction ks with
    | nil => intro l; simp
    | cons k ks ih =>
      intro l
      simp only [List.foldl_cons, List.length_cons]
      have h1 := ih (insK l k)
      have h2 : (insK l k).length ≤ l.length + 1 := by unfold insK; split <;> simp
      omega
  simpa using this ks []
/-- As many keys as came: none came twice. -/
theorem keysOf_len (ks : List (List Int)) : (keysOf ks).length = ks.length ↔ ks.Nodup := by
  unfold keysOf
  have : ∀ (ks l : List (List Int)), l.Nodup → ((ks.foldl insK l).length = l.length + ks.length ↔ (l ++ ks).Nodup) := by
    intro ks
    induction ks with
    | nil => intro l hl; simp [hl]
    | cons k ks ih =>
      intro l hl
      simp only [List.foldl_cons, List.length_cons]
      by_cases h : k ∈ l
      · have e : insK l k = l := if_pos h
        rw [e]
        have h1 : (ks.foldl insK l).length ≤ l.length + ks.length := by
          have : ∀ (ks l : List (List Int)), (ks.foldl insK l).length ≤ l.length + ks.length := by
            intro ks
            induction ks with
            | nil => intro l; simp
            | cons k ks ih =>
              intro l
              simp only [List.foldl_cons, List.length_cons]
              have h1 := ih (insK l k)
              have h2 : (insK l k).length ≤ l.length + 1 := by unfold insK; split <;> simp
              omega
          exact this ks l
        constructor
        · intro h2; omega
        · intro h2
          exact absurd rfl ((List.nodup_append.1 h2).2.2 k h k (by simp))
      · have e : insK l k = l ++ [k] := if_neg h
        rw [e, show l.length + (ks.length + 1) = (l ++ [k]).length + ks.length by simp; omega, ih (l ++ [k]) (by
          rw [List.nodup_append]
          exact ⟨hl, by simp, fun a ha b hb => by simp at hb; subst hb; exact fun e => h (e ▸ ha)⟩)]
        simp
  simpa using this ks [] (by simp)
theorem nodup_sub {α : Type} [DecidableEq α] : ∀ (A B : List α), A.Nodup → (∀ a ∈ A, a ∈ B) → A.length ≤ B.length
  | [], B, _, _ => Nat.zero_le _
  | a :: A, B, h, hs => by
    obtain ⟨h1, h2⟩ := List.nodup_cons.1 h
    have ha := hs a (by simp)
    have := nodup_sub A (B.erase a) h2 fun x hx => (List.mem_erase_of_ne (by intro e; subst e; exact h1 hx)).2 (hs x (by simp [hx]))
    rw [List.length_erase_of_mem ha] at this
    have := List.length_pos_of_mem ha
    simp only [List.length_cons]
    omega
theorem nodup_full {α : Type} [DecidableEq α] {A B : List α} (h : A.Nodup) (hs : ∀ a ∈ A, a ∈ B) (hl : B.length ≤ A.length) {b : α} (hb : b ∈ B) : b ∈ A := by
  by_cases hn : b ∈ A
  · exact hn
  · have := nodup_sub (b :: A) B (List.nodup_cons.2 ⟨hn, h⟩) fun x hx => by
      rcases List.mem_cons.1 hx with rfl | hx
      · exact hb
      · exact hs x hx
    simp only [List.length_cons] at this
    omega
/-- Between lists without doubles: a map that is one to one and meets as many as there are meets each just once. -/
theorem once_iff {α : Type} [DecidableEq α] (A : List Int) (B : List α) (f : Int → α) (hA : A.Nodup) (hB : B.Nodup) (hf : ∀ a ∈ A, f a ∈ B) : ((A.map f).Nodup ∧ A.length = B.length) ↔ ∀ b ∈ B, (A.filter fun a => f a == b).length = 1 := by
  have cnt : ∀ b, (A.filter fun a => f a == b).length = (A.map f).count b := by
    intro b
    rw [List.count_eq_countP, List.countP_map, ← List.countP_eq_length_filter]
    rfl
  constructor
  · rintro ⟨h1, h2⟩ b hb
    rw [cnt, h1.count, if_pos]
    exact nodup_full h1 (fun x hx => by
      obtain ⟨a, ha, rfl⟩ := List.mem_map.1 hx
      exact hf a ha) (by simp [h2]) hb
  · intro h
    have h1 : (A.map f).Nodup := by
      rw [List.nodup_iff_count]
      intro x
      by_cases hx : x ∈ B
      · rw [← cnt, h x hx]; exact Nat.le_refl _
      · rw [List.count_eq_zero_of_not_mem]; exact Nat.zero_le _
        intro hx'
        obtain ⟨a, ha, rfl⟩ := List.mem_map.1 hx'
        exact hx (hf a ha)
    refine ⟨h1, ?_⟩
    have : (A.map f).Perm B := by
      rw [List.perm_iff_count]
      intro x
      by_cases hx : x ∈ B
      · rw [← cnt, h x hx, hB.count, if_pos hx]
      · rw [hB.count, if_neg hx, List.count_eq_zero_of_not_mem]
        intro hx'
        obtain ⟨a, ha, rfl⟩ := List.mem_map.1 hx'
        exact hx (hf a ha)
    have := this.length_eq
    simpa using this
end Go.Av
