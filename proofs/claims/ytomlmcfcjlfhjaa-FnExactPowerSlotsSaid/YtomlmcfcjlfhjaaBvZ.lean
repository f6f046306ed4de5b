/-
  Several texts in one: BvRun, BvRun2, BvRun3, BvFn, BvKit, BvSimp, BvWin.
-/
import Derived.Test.YtomlmcfcjlfhjaaBvY
import Derived.Test.YtomlmcfcjlfhjaaBvP
/-
  Regions, code and functions of the model against the compact code.
-/
namespace Go.Av
set_option linter.unusedSectionVars false
set_option linter.unusedSimpArgs false
set_option linter.unusedVariables false
variable [md : Md]
open Go.RowKit (Below)

section
variable {ν : Nat → FuncId} {w0 : World} {S : Nat → Prop} {X0 : Cx} {T : Tr} {Q : Exit → Act → World → Prop}

theorem oper_sound (hν : ∀ f id, T.num f = some id → ν id = f) {ops : Array Oper} {hf : Bool} {o : Oper} {ao : Aop} (hop : T.oper ops hf o = some ao) {s : St} {a : Act} {w : World} {β : Nat → Nat} (h : Sim ν T.nt w0 S X0 s a w β) {K : St → Prop} (hs : opK (OkM T.P ν) ao s K)
    {Kw : Act → World → Prop} (hKw : ∀ s' a' w' β', K s' → Sim ν T.nt w0 S X0 s' a' w' β' → Kw a' w') :
    if Region.wanted o (yielded ops a.tmps) then EvB T.P o a w ∧ o.wpB T.P a w Kw Q else Kw (a.put o.dst undef) w := by
  unfold Tr.oper at hop
  split at hop
  · rename_i k g hk hg
    by_cases hdst' : (Tr.dstB T.nt o.dst && quietB T.P o) = true
    · rw [if_pos hdst'] at hop
      cases hop
      obtain ⟨hdst, hq⟩ := Bool.and_eq_true_iff.1 hdst'
      have hd : ∀ k, o.dst = some k → k < T.nt := fun k hk => by rw [hk] at hdst; simpa [Tr.dstB] using hdst
      have yes : stepK (OkM T.P ν) ⟨o.dst, g, k, hf⟩ s K → EvB T.P o a w ∧ o.wpB T.P a w Kw Q := fun hst => by
        refine ⟨ev_sound hν hk hq h hst, ?_⟩
        have hgo := kind_sound hν h hd hk hst Q
        exact Oper.wpB_mono (fun a' w' ⟨s', β', hK, hS⟩ => hKw s' a' w' β' hK hS) hgo
      have no : K (s.put o.dst (.v undef)) → Kw (a.put o.dst undef) w := fun hK => hKw _ _ _ β hK (h.put (.pure (.v _)) hd)
      rw [opK_gst] at hs
      unfold Tr.guard at hg
      cases hgu : o.guard with
      | none =>
        rw [hgu] at hg
        cases hg
        simp only [gst] at hs
        simp only [Region.wanted, hgu, if_true]
        exact yes hs
      | some gw =>
        obtain ⟨j, want⟩ := gw
        simp only [hgu] at hg
        cases hj : (ops[j]?).bind (·.dst) with
        | none => simp [hj] at hg
        | some d =>
          simp only [hj] at hg
          split at hg
          · rename_i hdn
            cases hg
            have hsz : d < a.tmps.size := by rw [h.size]; exact hdn
            have henv := h.env d
            have hyd : yielded ops a.tmps j = match a.tmps.getD d undef with | .bool b => some b | _ => none := by
              have e1 : a.tmps[d]? = some (a.tmps.getD d undef) := by simp [hsz]
              simp only [yielded, hj, Option.bind_some, e1]
              cases a.tmps.getD d undef <;> rfl
            simp only [gst] at hs
            simp only [Region.wanted, hgu, hyd]
            split at hs
            · rename_i hgt
              split at hgt
              · rename_i b hb
                rw [hb] at henv
                rw [henv.inv_v]
                have : b = want := by simpa using hgt
                subst this
                simp only [BEq.rfl, if_true]
                exact yes hs
              · cases hgt
              · cases hgt
            · rename_i hgt
              split at hgt
              · rename_i b hb
                rw [hb] at henv
                rw [henv.inv_v]
                have hne : (some b == some want) = false := by simpa using hgt
                rw [hne]
                simp only [Bool.false_eq_true, if_false]
                exact no hs
              · rename_i x hnb hb
                rw [hb] at henv
                rw [henv.inv_v]
                cases x with
                | bool b => exact absurd rfl (hnb b)
                | _ => simp only [show ((none : Option Bool) == some want) = false from rfl, Bool.false_eq_true, if_false]; exact no hs
              · cases hgt
            · exact hs.elim
          · cases hg
    · rw [if_neg hdst'] at hop; cases hop
  · cases hop

/-- A region in the text's order. -/
theorem list_sound (hν : ∀ f id, T.num f = some id → ν id = f) {ops : Array Oper} {K : St → Prop} (hQ : ∀ s' a' w' β', K s' → Sim ν T.nt w0 S X0 s' a' w' β' → Q .normal a' w') :
    ∀ (L : List Oper) (l : List Aop), L.mapM (T.oper ops true) = some l → ∀ (s : St) (a : Act) (w : World) (β : Nat → Nat), Sim ν T.nt w0 S X0 s a w β → opsK (OkM T.P ν) l s K → wpList T.P ops Q L a w := by
  intro L
  induction L with
  | nil => intro l hl s a w β h hs; simp at hl; subst hl; exact hQ _ _ _ _ hs h
  | cons o L ih =>
    intro l hl s a w β h hs
    simp only [List.mapM_cons, Option.pure_def, Option.bind_eq_bind] at hl
    obtain ⟨ao, hao, hl⟩ := bind_some hl
    obtain ⟨l', hl', hl⟩ := bind_some hl
    cases hl
    unfold wpList
    intro w1 hw1
    exact oper_sound (Kw := wpList T.P ops Q L) hν hao (h.rl hw1) hs (fun s' a' w' β' hK hS => ih l' hl' s' a' w' β' hS hK)

def rem (listed : Array Bool) : Nat → List Aop → List Aop
  | _, [] => []
  | i, x :: r => if listed.getD i true then rem listed (i + 1) r else x :: rem listed (i + 1) r

theorem rem_congr {L L' : Array Bool} : ∀ (l : List Aop) (k : Nat), (∀ j, k ≤ j → L.getD j true = L'.getD j true) → rem L k l = rem L' k l := by
  intro l
  induction l with
  | nil => intro k _; rfl
  | cons x r ih => intro k h; simp only [rem]; rw [h k (Nat.le_refl _), ih (k + 1) fun j hj => h j (by omega)]

theorem rem_split {L : Array Bool} {i : Nat} (hi : i < L.size) (hu : L.getD i true = false) : ∀ (l : List Aop) (k : Nat) (y : Aop), k ≤ i → l[i - k]? = some y →
    ∃ xs zs, rem L k l = xs ++ y :: zs ∧ rem (L.setIfInBounds i true) k l = xs ++ zs ∧ ∀ x ∈ xs, ∃ j, k ≤ j ∧ j < i ∧ L.getD j true = false ∧ l[j - k]? = some x := by
  intro l
  induction l with
  | nil => intro k y _ h; simp at h
  | cons x r ih =>
    intro k y hk hy
    by_cases e : k = i
    · subst e
      simp only [Nat.sub_self, List.getElem?_cons_zero, Option.some.injEq] at hy
      subst hy
      refine ⟨[], rem L (k + 1) r, by simp only [rem, hu, Bool.false_eq_true, if_false, List.nil_append], ?_, by simp⟩
      simp only [rem, List.nil_append]
      rw [if_pos (by simp [hi])]
      exact rem_congr r (k + 1) fun j hj => by rw [getD_set_ne true (by omega)]
    · have hlt : k < i := by omega
      have hy' : r[i - (k + 1)]? = some y := by
        have : i - k = (i - (k + 1)) + 1 := by omega
        rw [this] at hy
        simpa using hy
      obtain ⟨xs, zs, h1, h2, h3⟩ := ih (k + 1) y (by omega) hy'
      have up : ∀ x' ∈ xs, ∃ j, k ≤ j ∧ j < i ∧ L.getD j true = false ∧ (x :: r)[j - k]? = some x' := by
        intro x' hx'
        obtain ⟨j, a1, a2, a3, a4⟩ := h3 x' hx'
        refine ⟨j, by omega, a2, a3, ?_⟩
        have : j - k = (j - (k + 1)) + 1 := by omega
        rw [this]
        simpa using a4
      simp only [rem]
      rw [getD_set_ne true (Ne.symm e)]
      cases hl : L.getD k true
      · refine ⟨x :: xs, zs, by simp [h1], by simp [h2], ?_⟩
        intro x' hx'
        rcases List.mem_cons.1 hx' with rfl | hx'
        · exact ⟨k, Nat.le_refl _, hlt, hl, by simp⟩
        · exact up x' hx'
      · exact ⟨xs, zs, by simp [h1], by simp [h2], up⟩

theorem rem_nil {L : Array Bool} : ∀ (l : List Aop) (k : Nat), (∀ j, k ≤ j → j < k + l.length → L.getD j true = true) → rem L k l = [] := by
  intro l
  induction l with
  | nil => intro k _; rfl
  | cons x r ih =>
    intro k h
    simp only [rem]
    rw [if_pos (h k (Nat.le_refl _) (by simp))]
    exact ih (k + 1) fun j h1 h2 => h j (by omega) (by simp; omega)

theorem fold_bits (acc : List Nat) (i : Nat) : ∀ (l : List Edge) (m : Nat), (l.foldl (fun s e => if Region.binds .any e then s ||| (1 <<< e.on) ||| acc.getD e.on 0 else s) m).testBit i = true →
    m.testBit i = true ∨ ∃ e ∈ l, Region.binds .any e = true ∧ (e.on = i ∨ (acc.getD e.on 0).testBit i = true) := by
  intro l
  induction l with
  | nil => intro m h; exact .inl h
  | cons e l ih =>
    intro m h
    rcases ih _ h with h | ⟨e', h1, h2⟩
    · simp only at h
      by_cases hb : Region.binds .any e = true
      · rw [if_pos hb] at h
        simp only [Nat.testBit_or, Bool.or_eq_true] at h
        rcases h with (h | h) | h
        · exact .inl h
        · refine .inr ⟨e, List.mem_cons_self .., hb, .inl ?_⟩
          rw [Nat.one_shiftLeft, Nat.testBit_two_pow] at h
          simpa using h
        · exact .inr ⟨e, List.mem_cons_self .., hb, .inr h⟩
      · rw [if_neg hb] at h; exact .inl h
    · exact .inr ⟨e', List.mem_cons_of_mem _ h1, h2⟩

theorem clo_keep : ∀ (L : List Oper) (acc : List Nat) (j : Nat), j < acc.length → (Tr.clo L acc).getD j 0 = acc.getD j 0 := by
  intro L
  induction L with
  | nil => intro acc j _; rfl
  | cons o L ih =>
    intro acc j hj
    simp only [Tr.clo]
    rw [ih _ j (by simp; omega)]
    simp [List.getElem?_append_left hj]

theorem clo_spec : ∀ (L : List Oper) (acc : List Nat) (j i : Nat), acc.length ≤ j → ((Tr.clo L acc).getD j 0).testBit i = true →
    ∃ o e, L[j - acc.length]? = some o ∧ e ∈ o.after.toList ∧ Region.binds .any e = true ∧ (e.on = i ∨ (e.on < j ∧ ((Tr.clo L acc).getD e.on 0).testBit i = true)) := by
  intro L
  induction L with
  | nil => intro acc j i hj h; simp [Tr.clo, List.getElem?_eq_none hj] at h
  | cons o L ih =>
    intro acc j i hj h
    simp only [Tr.clo] at h ⊢
    by_cases e : j = acc.length
    · subst e
      rw [clo_keep _ _ _ (by simp)] at h
      simp only [List.getD_eq_getElem?_getD, List.getElem?_concat_length, Option.getD_some] at h
      simp only [← List.getD_eq_getElem?_getD] at h
      rcases fold_bits acc i _ _ h with h | ⟨e, h1, h2, h3⟩
      · simp at h
      · refine ⟨o, e, by simp, h1, h2, ?_⟩
        rcases h3 with h3 | h3
        · exact .inl h3
        · by_cases hlt : e.on < acc.length
          · refine .inr ⟨hlt, ?_⟩
            rw [clo_keep _ _ _ (by simp; omega)]
            simpa [List.getElem?_append_left hlt] using h3
          · simp [List.getElem?_eq_none (Nat.le_of_not_lt hlt)] at h3
    · obtain ⟨o', e', h1, h2, h3, h4⟩ := ih _ j i (by simp; omega) h
      refine ⟨o', e', ?_, h2, h3, h4⟩
      have : j - acc.length = (j - (acc.length + 1)) + 1 := by omega
      rw [this]
      simpa using h1

theorem pairs_spec {mask : Nat} {y : Aop} : ∀ (l : List Aop) (k : Nat), Tr.pairsB mask y k l = true → ∀ i x, l[i]? = some x → mask.testBit (k + i) = true ∨ Tr.mayB x y = true := by
  intro l
  induction l with
  | nil => intro k _ i x h; simp at h
  | cons a l ih =>
    intro k h i x hx
    simp only [Tr.pairsB, Bool.and_eq_true, Bool.or_eq_true] at h
    cases i with
    | zero => simp at hx; subst hx; exact h.1
    | succ i =>
      have := ih (k + 1) h.2 i x (by simpa using hx)
      rwa [show k + (i + 1) = k + 1 + i by omega]

theorem reg_spec {cl : List Nat} : ∀ (l : List Aop) (done : List Aop), Tr.regB cl done.length done l = true → ∀ i j x y, i < j → done.length ≤ j → (done ++ l)[i]? = some x → (done ++ l)[j]? = some y → (cl.getD j 0).testBit i = true ∨ Tr.mayB x y = true := by
  intro l
  induction l with
  | nil => intro done _ i j x y _ hj _ hy; simp [List.getElem?_eq_none hj] at hy
  | cons a l ih =>
    intro done h i j x y hij hj hx hy
    simp only [Tr.regB, Bool.and_eq_true] at h
    by_cases e : j = done.length
    · subst e
      have hy' : a = y := by simpa using hy
      subst hy'
      have := pairs_spec done 0 h.1 i x (by rwa [List.getElem?_append_left hij] at hx)
      simpa using this
    · have := ih (done ++ [a]) (by simpa using h.2) i j x y hij (by simp; omega) (by simpa using hx) (by simpa using hy)
      exact this

theorem back_spec : ∀ (L : List Oper) (k : Nat), Tr.backB k L = true → ∀ i o, L[i]? = some o → ∀ e ∈ o.after.toList, Region.binds .any e = true → e.on < k + i := by
  intro L
  induction L with
  | nil => intro k _ i o h; simp at h
  | cons a L ih =>
    intro k h i o ho e he hb
    simp only [Tr.backB, Bool.and_eq_true, List.all_eq_true, Bool.or_eq_true, Bool.not_eq_true', decide_eq_true_eq] at h
    cases i with
    | zero =>
      simp at ho
      subst ho
      rcases h.1 e he with h1 | h1
      · rw [hb] at h1; cases h1
      · exact h1
    | succ i =>
      have := ih (k + 1) h.2 i o (by simpa using ho) e he hb
      omega

theorem zip_spec {cl effs als : List Nat} {ops : Array Oper} : ∀ (L : List Oper) (k : Nat) (l : List Aop), T.zipH cl effs als ops k L = some l → l.length = L.length ∧ ∀ (i : Nat) (o : Oper), L[i]? = some o → ∃ ao, l[i]? = some ao ∧ ∃ hf, T.oper ops hf o = some ao := by
  intro L
  induction L with
  | nil => intro k l h; simp [Tr.zipH] at h; subst h; exact ⟨rfl, fun i o h => by simp at h⟩
  | cons a L ih =>
    intro k l h
    simp only [Tr.zipH] at h
    split at h
    · rename_i ao l' h1 h2
      cases h
      obtain ⟨g1, g2⟩ := ih _ _ h2
      refine ⟨by simp [g1], fun i o ho => ?_⟩
      cases i with
      | zero => simp at ho; subst ho; exact ⟨ao, rfl, _, h1⟩
      | succ i => exact g2 i o (by simpa using ho)
    · cases h

theorem any_sound (hν : ∀ f id, T.num f = some id → ν id = f) {ops : Array Oper} {l : List Aop} {cl effs als : List Nat} (hcl : cl = Tr.clo ops.toList []) (hz : T.zipH cl effs als ops 0 ops.toList = some l) (hback : Tr.backB 0 ops.toList = true) (hreg : Tr.regB cl 0 [] l = true)
    {K : St → Prop} (hQ : ∀ s' a' w' β', K s' → Sim ν T.nt w0 S X0 s' a' w' β' → Q .normal a' w') :
    ∀ (fuel : Nat) (listed : Array Bool), listed.size = ops.size → (rem listed 0 l).length ≤ fuel →
      (∀ j o, ops[j]? = some o → listed.getD j true = true → ∀ e ∈ o.after, Region.binds .any e = true → listed.getD e.on false = true) →
      ∀ (s : St) (a : Act) (w : World) (β : Nat → Nat), Sim ν T.nt w0 S X0 s a w β → opsK (OkM T.P ν) (rem listed 0 l) s K → wpAny T.P .any ops Q fuel listed a w := by
  obtain ⟨hlen, hops⟩ := zip_spec _ _ _ hz
  simp only [Array.length_toList] at hlen
  have hdone : ∀ listed : Array Bool, listed.size = ops.size → Region.ready .any ops listed = [] → rem listed 0 l = [] := by
    intro listed hsz hr
    refine rem_nil l 0 fun j _ hj => ?_
    simp only [Nat.zero_add, hlen] at hj
    induction j using Nat.strongRecOn with
    | _ j ih =>
      cases hlj : listed.getD j true with
      | true => rfl
      | false =>
        exfalso
        have hm : j ∈ Region.ready .any ops listed := by
          rw [mem_ready]
          refine ⟨hlj, ops[j], by simp [hj], fun e he hbd => ?_⟩
          have h1 := back_spec _ 0 hback j ops[j] (by simp [hj]) e (by simpa using he) hbd
          simp only [Nat.zero_add] at h1
          have h2 := ih e.on h1 (Nat.zero_le _) (by omega)
          have h3 : e.on < listed.size := by omega
          simpa [h3] using h2
        rw [hr] at hm
        cases hm
  intro fuel
  induction fuel with
  | zero =>
    intro listed hsz hf hcls s a w β h hs
    have hn : rem listed 0 l = [] := List.eq_nil_of_length_eq_zero (by omega)
    refine ⟨?_, ?_⟩
    · cases hr : Region.ready .any ops listed with
      | nil => rfl
      | cons i r =>
        exfalso
        have hm : i ∈ Region.ready .any ops listed := by rw [hr]; exact List.mem_cons_self ..
        rw [mem_ready] at hm
        obtain ⟨h0, o, ho, _⟩ := hm
        have hi : i < ops.size := (Array.getElem?_eq_some_iff.1 ho).1
        obtain ⟨xs, zs, h1, _⟩ := rem_split (L := listed) (i := i) (by omega) h0 l 0 (l[i]'(by omega)) (Nat.zero_le _) (by simp)
        rw [hn] at h1
        simp at h1
    · rw [hn] at hs; exact hQ _ _ _ _ hs h
  | succ fuel ih =>
    intro listed hsz hf hcls s a w β h hs
    refine ⟨fun hr => ?_, fun i hi => ?_⟩
    · rw [hdone listed hsz hr] at hs; exact hQ _ _ _ _ hs h
    · rw [mem_ready] at hi
      obtain ⟨h0, o, ho, hdep⟩ := hi
      have hi : i < ops.size := (Array.getElem?_eq_some_iff.1 ho).1
      obtain ⟨ao, hao, hfl, hoper⟩ := hops i o (by simpa using ho)
      obtain ⟨xs, zs, h1, h2, h3⟩ := rem_split (L := listed) (i := i) (by omega) h0 l 0 ao (Nat.zero_le _) (by simpa using hao)
      have mask : ∀ n j, j < n → (∀ e o', ops[j]? = some o' → e ∈ o'.after → Region.binds .any e = true → listed.getD e.on false = true) → ∀ k, (cl.getD j 0).testBit k = true → listed.getD k false = true := by
        intro n
        induction n with
        | zero => intro j hj; omega
        | succ n ihn =>
          intro j hj hdj k hk
          rw [hcl] at hk
          obtain ⟨o', e, g1, g2, g3, g4⟩ := clo_spec _ _ _ _ (Nat.zero_le _) hk
          simp only [List.length_nil, Nat.sub_zero, Array.getElem?_toList] at g1
          have g5 := hdj e o' g1 (by simpa using g2) g3
          rcases g4 with g4 | ⟨g4, g6⟩
          · subst g4; exact g5
          · refine ihn e.on (by omega) (fun e' o2 ho2 he' hb' => ?_) k (by rw [hcl]; exact g6)
            have hlt : e.on < listed.size := by
              rcases Nat.lt_or_ge e.on listed.size with h' | h'
              · exact h'
              · simp [Array.getElem?_eq_none h'] at g5
            exact hcls e.on o2 ho2 (by simpa [hlt] using g5) e' he' hb'
      have may : ∀ x ∈ xs, Tr.mayB x ao = true := by
        intro x hx
        obtain ⟨j, _, hj, hlj, hxj⟩ := h3 x hx
        rcases reg_spec l [] hreg j i x ao hj (Nat.zero_le _) (by simpa using hxj) (by simpa using hao) with hb | hb
        · have h4 := mask (i + 1) i (by omega) (fun e o' ho' he hb' => by rw [ho] at ho'; cases ho'; exact hdep e he hb') j hb
          have hjl : j < listed.size := by omega
          have h5 : listed.getD j true = true := by simpa [hjl] using h4
          rw [h5] at hlj
          cases hlj
        · exact hb
      rw [h1] at hs
      have hs' := opsK_front (fun _ => h.fresh) may hs
      rw [← h2] at hs'
      unfold wpOp
      intro w1 hw1
      simp only [ho]
      have h := h.rl hw1
      refine oper_sound hν hoper h hs' (fun s' a' w' β' hK hS => ih _ (by simp [hsz]) ?_ ?_ s' a' w' β' hS hK)
      · have : (rem listed 0 l).length = (rem (listed.setIfInBounds i true) 0 l).length + 1 := by rw [h1, h2]; simp; omega
        omega
      · intro j o' ho' hlj e he hb
        by_cases e1 : j = i
        · subst e1
          rw [ho] at ho'
          cases ho'
          exact getD_set_true (hdep e he hb)
        · rw [getD_set_ne true (Ne.symm e1)] at hlj
          exact getD_set_true (hcls j o' ho' hlj e he hb)
end
end Go.Av

/-
  Regions with two unordered operations that write: both orders are shown, the others follow.
-/
namespace Go.Av
set_option linter.unusedSectionVars false
set_option linter.unusedSimpArgs false
set_option linter.unusedVariables false
variable [md : Md]
open Go.RowKit (Below)

theorem opK_and {C : Ct} {o : Aop} {s : St} {K1 K2 : St → Prop} (hc : Tr.isC o.k = false) (h1 : opK C o s K1) (h2 : opK C o s K2) : opK C o s fun s' => K1 s' ∧ K2 s' := by
  cases he : Tr.eff o.k
  · obtain ⟨u, hu, k1⟩ := (opK_v he).1 h1
    obtain ⟨v, hv, k2⟩ := (opK_v he).1 h2
    rw [← Gv_unique hc hu hv] at k2
    exact (opK_v he).2 ⟨u, hu, k1, k2⟩
  · obtain ⟨Ψ, g1, ⟨u, hp, n, g2⟩, k1⟩ := (opK_e he).1 h1
    obtain ⟨Ψ', g1', ⟨u', hp', n', g2'⟩, k2⟩ := (opK_e he).1 h2
    refine (opK_e he).2 ⟨Ψ, g1, ⟨u, hp, n, g2⟩, fun u h n hu => ⟨k1 u h n hu, ?_⟩⟩
    have : Ψ = Ψ' := by
      rcases g1 with ⟨e, g1⟩ | ⟨e, g1⟩ <;> rcases g1' with ⟨e', g1'⟩ | ⟨e', g1'⟩
      · unfold Ve at g1 g1'
        cases hk : o.k <;> simp only [hk, Tr.isC, Bool.true_eq_false] at g1 g1' hc
        case app sz x y =>
          obtain ⟨_, cm, q1, _, r, q2, q3⟩ := g1
          obtain ⟨_, cm', q1', _, r', q2', q3'⟩ := g1'
          rw [q1] at q1'; cases q1'
          rw [q2] at q2'; cases q2'
          rw [q3, q3']
        case st n a v =>
          obtain ⟨_, r, q2, q3⟩ := g1
          obtain ⟨_, r', q2', q3'⟩ := g1'
          rw [q2] at q2'; cases q2'
          rw [q3, q3']
        case new z => rw [g1.2, g1'.2]
        case boxm x => rw [g1.2.2, g1'.2.2]
        case mks z n c =>
          obtain ⟨_, r, q2, q3⟩ := g1
          obtain ⟨_, r', q2', q3'⟩ := g1'
          rw [q2] at q2'; cases q2'
          rw [q3, q3']
        case mslm sz n z ps xs =>
          obtain ⟨_, r, q2, q3⟩ := g1
          obtain ⟨_, r', q2', q3'⟩ := g1'
          rw [q2] at q2'; cases q2'
          rw [q3, q3']
        case mkm => rw [g1.2, g1'.2]
        case mset kd m k v =>
          obtain ⟨_, r, q2, q3⟩ := g1
          obtain ⟨_, r', q2', q3'⟩ := g1'
          rw [q2] at q2'; cases q2'
          rw [q3, q3']
      · rw [e] at e'; cases e'
      · rw [e] at e'; cases e'
      · rw [g1, g1']
    rw [this] at hu
    exact k2 u h n hu

/-- What is left of a list of numbered operations. -/
def remI (listed : Array Bool) (L : List (Nat × Aop)) : List Aop := (L.filter fun p => !listed.getD p.1 true).map (·.2)
theorem remI_append (listed : Array Bool) (X Z : List (Nat × Aop)) : remI listed (X ++ Z) = remI listed X ++ remI listed Z := by simp [remI]
theorem remI_cons_no {listed : Array Bool} {p : Nat × Aop} {Z : List (Nat × Aop)} (h : listed.getD p.1 true = false) : remI listed (p :: Z) = p.2 :: remI listed Z := by simp only [remI, List.filter_cons, h]; simp
theorem remI_cons_yes {listed : Array Bool} {p : Nat × Aop} {Z : List (Nat × Aop)} (h : listed.getD p.1 true = true) : remI listed (p :: Z) = remI listed Z := by simp only [remI, List.filter_cons, h]; simp
theorem remI_set {listed : Array Bool} {i : Nat} {X : List (Nat × Aop)} (h : ∀ q ∈ X, q.1 ≠ i) : remI (listed.setIfInBounds i true) X = remI listed X := by
  unfold remI
  congr 1
  refine List.filter_congr fun q hq => ?_
  rw [getD_set_ne true (Ne.symm (h q hq))]
theorem mem_remI {listed : Array Bool} {X : List (Nat × Aop)} {x : Aop} (h : x ∈ remI listed X) : ∃ q ∈ X, q.2 = x ∧ listed.getD q.1 true = false := by
  simp only [remI, List.mem_map, List.mem_filter, Bool.not_eq_true'] at h
  obtain ⟨q, ⟨h1, h2⟩, h3⟩ := h
  exact ⟨q, h1, h3, h2⟩

theorem remI_front {C : Ct} {s : St} {K : St → Prop} {listed : Array Bool} {X Z : List (Nat × Aop)} {p : Nat × Aop} (hf : s.heap s.next = none) (hu : listed.getD p.1 true = false) (hi : p.1 < listed.size) (hX : ∀ q ∈ X, q.1 ≠ p.1) (hZ : ∀ q ∈ Z, q.1 ≠ p.1)
    (hm : ∀ q ∈ X, listed.getD q.1 true = false → Tr.mayB q.2 p.2 = true) (h : opsK C (remI listed (X ++ p :: Z)) s K) : opK C p.2 s fun s' => opsK C (remI (listed.setIfInBounds p.1 true) (X ++ p :: Z)) s' K := by
  rw [remI_append, remI_cons_no hu] at h
  have := opsK_front (fun _ => hf) (fun x hx => by obtain ⟨q, q1, q2, q3⟩ := mem_remI hx; rw [← q2]; exact hm q q1 q3) h
  rw [remI_append, remI_cons_yes (by simp [hi]), remI_set hX, remI_set hZ]
  exact this


theorem enum_mem : ∀ (l : List Aop) (k : Nat) (p : Nat × Aop), p ∈ Tr.enum k l ↔ k ≤ p.1 ∧ l[p.1 - k]? = some p.2
  | [], k, p => by simp [Tr.enum]
  | x :: r, k, p => by
    simp only [Tr.enum, List.mem_cons, enum_mem r (k + 1) p]
    constructor
    · rintro (rfl | ⟨h1, h2⟩)
      · simp
      · refine ⟨by omega, ?_⟩
        rw [show p.1 - k = (p.1 - (k + 1)) + 1 by omega]
        simpa using h2
    · rintro ⟨h1, h2⟩
      by_cases e : p.1 = k
      · left
        rw [e] at h2
        simp at h2
        obtain ⟨a, b⟩ := p
        simp only at e h2
        rw [e, h2]
      · right
        refine ⟨by omega, ?_⟩
        rw [show p.1 - k = (p.1 - (k + 1)) + 1 by omega] at h2
        simpa using h2
theorem enum_len : ∀ (l : List Aop) (k : Nat), (Tr.enum k l).length = l.length
  | [], _ => rfl
  | x :: r, k => by simp [Tr.enum, enum_len r]
theorem enum_snd : ∀ (l : List Aop) (k : Nat), (Tr.enum k l).map (·.2) = l
  | [], _ => rfl
  | x :: r, k => by simp [Tr.enum, enum_snd r]
theorem ins_mem {A : Nat} {p x : Nat × Aop} : ∀ {L : List (Nat × Aop)}, x ∈ Tr.ins A p L ↔ x = p ∨ x ∈ L
  | [] => by simp [Tr.ins]
  | q :: r => by
    simp only [Tr.ins]
    split
    · simp
    · simp only [List.mem_cons, ins_mem (L := r)]
      constructor
      · rintro (h | h | h)
        · exact .inr (.inl h)
        · exact .inl h
        · exact .inr (.inr h)
      · rintro (h | h | h)
        · exact .inr (.inl h)
        · exact .inl h
        · exact .inr (.inr h)
theorem ins_remI {A : Nat} {p : Nat × Aop} {listed : Array Bool} (h : listed.getD p.1 true = true) : ∀ {L : List (Nat × Aop)}, remI listed (Tr.ins A p L) = remI listed L
  | [] => by simp only [Tr.ins]; exact remI_cons_yes h
  | q :: r => by
    simp only [Tr.ins]
    split
    · exact remI_cons_yes h
    · have ih := ins_remI (A := A) h (L := r)
      cases hq : listed.getD q.1 true
      · rw [remI_cons_no hq, remI_cons_no hq, ih]
      · rw [remI_cons_yes hq, remI_cons_yes hq, ih]
theorem filter_remI {B : Nat} {listed : Array Bool} (h : listed.getD B true = true) : ∀ {L : List (Nat × Aop)}, remI listed (L.filter fun q => q.1 != B) = remI listed L
  | [] => rfl
  | q :: r => by
    have ih := filter_remI h (L := r)
    by_cases e : q.1 = B
    · rw [List.filter_cons_of_neg (by simp [e]), ih, remI_cons_yes (by rw [e]; exact h)]
    · rw [List.filter_cons_of_pos (by simp [e])]
      cases hq : listed.getD q.1 true
      · rw [remI_cons_no hq, remI_cons_no hq, ih]
      · rw [remI_cons_yes hq, remI_cons_yes hq, ih]

theorem ord_spec {cl : List Nat} {A B : Nat} : ∀ (r done : List (Nat × Aop)), Tr.ordB cl A B done r = true → ∀ X p Z, done ++ r = X ++ p :: Z → done.length ≤ X.length → (∀ q ∈ X, q.1 ≠ p.1 ∧ ((cl.getD p.1 0).testBit q.1 = true ∨ Tr.mayB q.2 p.2 = true ∨ (q.1 = A ∧ p.1 = B)))
  | [], done, _, X, p, Z, he, hl => by
    exfalso
    have := congrArg List.length he
    simp at this
    omega
  | a :: r, done, h, X, p, Z, he, hl => by
    simp only [Tr.ordB, Bool.and_eq_true] at h
    by_cases e : X.length = done.length
    · have h1 := List.append_inj he e.symm
      obtain ⟨h2, h3⟩ := h1
      cases h3
      subst h2
      intro q hq
      have := List.all_eq_true.1 h.1 q hq
      simp only [Bool.and_eq_true, Bool.or_eq_true, bne_iff_ne, ne_eq, beq_iff_eq] at this
      refine ⟨this.1, ?_⟩
      rcases this.2 with (h4 | h4) | h4
      · exact .inl h4
      · exact .inr (.inl h4)
      · exact .inr (.inr h4)
    · exact ord_spec r (done ++ [a]) h.2 X p Z (by simpa using he) (by simp; omega)

section
variable {ν : Nat → FuncId} {w0 : World} {S : Nat → Prop} {X0 : Cx} {T : Tr} {Q : Exit → Act → World → Prop}

theorem mask_listed {ops : Array Oper} {cl : List Nat} (hcl : cl = Tr.clo ops.toList []) {listed : Array Bool}
    (hcls : ∀ j o, ops[j]? = some o → listed.getD j true = true → ∀ e ∈ o.after, Region.binds .any e = true → listed.getD e.on false = true) :
    ∀ n j, j < n → (∀ e o', ops[j]? = some o' → e ∈ o'.after → Region.binds .any e = true → listed.getD e.on false = true) → ∀ k, (cl.getD j 0).testBit k = true → listed.getD k false = true := by
  intro n
  induction n with
  | zero => intro j hj; omega
  | succ n ihn =>
    intro j hj hdj k hk
    rw [hcl] at hk
    obtain ⟨o', e, g1, g2, g3, g4⟩ := clo_spec _ _ _ _ (Nat.zero_le _) hk
    simp only [List.length_nil, Nat.sub_zero, Array.getElem?_toList] at g1
    have g5 := hdj e o' g1 (by simpa using g2) g3
    rcases g4 with g4 | ⟨g4, g6⟩
    · subst g4; exact g5
    · refine ihn e.on (by omega) (fun e' o2 ho2 he' hb' => ?_) k (by rw [hcl]; exact g6)
      have hlt : e.on < listed.size := by
        rcases Nat.lt_or_ge e.on listed.size with h' | h'
        · exact h'
        · simp [Array.getElem?_eq_none h'] at g5
      exact hcls e.on o2 ho2 (by simpa [hlt] using g5) e' he' hb'

theorem any2_sound (hν : ∀ f id, T.num f = some id → ν id = f) {ops : Array Oper} {cl : List Nat} (hcl : cl = Tr.clo ops.toList []) (hback : Tr.backB 0 ops.toList = true) {L1 L2 : List (Nat × Aop)} {A B : Nat} (hne : A ≠ B)
    (hm1 : ∀ i o, ops[i]? = some o → ∃ ao hf, (i, ao) ∈ L1 ∧ (i, ao) ∈ L2 ∧ T.oper ops hf o = some ao ∧ Tr.isC ao.k = false) (hs1 : ∀ p ∈ L1, p.1 < ops.size)
    (ho1 : Tr.ordB cl A B [] L1 = true) (ho2 : Tr.ordB cl B A [] L2 = true) (hrem : ∀ listed : Array Bool, listed.getD B true = true → remI listed L2 = remI listed L1)
    {K : St → Prop} (hQ : ∀ s' a' w' β', K s' → Sim ν T.nt w0 S X0 s' a' w' β' → Q .normal a' w') :
    ∀ (fuel : Nat) (listed : Array Bool), listed.size = ops.size → (remI listed L1).length ≤ fuel →
      (∀ j o, ops[j]? = some o → listed.getD j true = true → ∀ e ∈ o.after, Region.binds .any e = true → listed.getD e.on false = true) →
      ∀ (s : St) (a : Act) (w : World) (β : Nat → Nat), Sim ν T.nt w0 S X0 s a w β → opsK (OkM T.P ν) (remI listed L1) s K →
        (listed.getD A true = false → listed.getD B true = false → opsK (OkM T.P ν) (remI listed L2) s K) → wpAny T.P .any ops Q fuel listed a w := by
  have nd : ∀ {L : List (Nat × Aop)} {A B : Nat}, Tr.ordB cl A B [] L = true → ∀ X p Z, L = X ++ p :: Z → (∀ q ∈ X, q.1 ≠ p.1) ∧ ∀ q ∈ Z, q.1 ≠ p.1 := by
    intro L A B ho X p Z he
    refine ⟨fun q hq => (ord_spec L [] ho X p Z (by simpa using he) (Nat.zero_le _) q hq).1, fun q hq => ?_⟩
    obtain ⟨Z1, Z2, rfl⟩ := List.append_of_mem hq
    have := ord_spec L [] ho (X ++ p :: Z1) q Z2 (by simpa using he) (Nat.zero_le _) p (by simp)
    exact fun e => this.1 e.symm
  have hdone : ∀ listed : Array Bool, listed.size = ops.size → Region.ready .any ops listed = [] → remI listed L1 = [] := by
    intro listed hsz hr
    have all : ∀ j, j < ops.size → listed.getD j true = true := by
      intro j
      induction j using Nat.strongRecOn with
      | _ j ih =>
        intro hj
        cases hlj : listed.getD j true with
        | true => rfl
        | false =>
          exfalso
          have hm : j ∈ Region.ready .any ops listed := by
            rw [mem_ready]
            refine ⟨hlj, ops[j], by simp [hj], fun e he hbd => ?_⟩
            have h1 := back_spec _ 0 hback j ops[j] (by simp [hj]) e (by simpa using he) hbd
            simp only [Nat.zero_add] at h1
            have h2 := ih e.on h1 (by omega)
            have h3 : e.on < listed.size := by omega
            simpa [h3] using h2
          rw [hr] at hm
          cases hm
    unfold remI
    rw [List.filter_eq_nil_iff.2 fun p hp => by simp only [all p.1 (hs1 p hp)]; simp]
    rfl
  intro fuel
  induction fuel with
  | zero =>
    intro listed hsz hf hcls s a w β h hs hs2
    have hn : remI listed L1 = [] := List.eq_nil_of_length_eq_zero (by omega)
    refine ⟨?_, ?_⟩
    · cases hr : Region.ready .any ops listed with
      | nil => rfl
      | cons i r =>
        exfalso
        have hm : i ∈ Region.ready .any ops listed := by rw [hr]; exact List.mem_cons_self ..
        rw [mem_ready] at hm
        obtain ⟨h0, o, ho, _⟩ := hm
        obtain ⟨ao, hfl, m1, m2, hoper, hcc⟩ := hm1 i o ho
        have : ao ∈ remI listed L1 := by
          simp only [remI, List.mem_map, List.mem_filter]
          exact ⟨(i, ao), ⟨m1, by simp only [h0]; rfl⟩, rfl⟩
        rw [hn] at this
        cases this
    · rw [hn] at hs; exact hQ _ _ _ _ hs h
  | succ fuel ih =>
    intro listed hsz hf hcls s a w β h hs hs2
    refine ⟨fun hr => ?_, fun i hi => ?_⟩
    · rw [hdone listed hsz hr] at hs; exact hQ _ _ _ _ hs h
    · rw [mem_ready] at hi
      obtain ⟨h0, o, ho, hdep⟩ := hi
      have hi : i < ops.size := (Array.getElem?_eq_some_iff.1 ho).1
      obtain ⟨ao, hfl, m1, m2, hoper, hcc⟩ := hm1 i o ho
      have mask := mask_listed hcl hcls (i + 1) i (by omega) (fun e o' ho' he hb' => by rw [ho] at ho'; cases ho'; exact hdep e he hb')
      have unl : ∀ j, listed.getD j true = false → (cl.getD i 0).testBit j = true → False := by
        intro j hj hb
        have h4 := mask j hb
        by_cases hjl : j < listed.size
        · have h5 : listed.getD j true = true := by simpa [hjl] using h4
          rw [h5] at hj
          cases hj
        · simp [Array.getElem?_eq_none (Nat.le_of_not_lt hjl)] at h4
      have front : ∀ {L : List (Nat × Aop)} {A' B' : Nat}, Tr.ordB cl A' B' [] L = true → (i, ao) ∈ L → (i = B' → listed.getD A' true = true) → opsK (OkM T.P ν) (remI listed L) s K → opK (OkM T.P ν) ao s fun s' => opsK (OkM T.P ν) (remI (listed.setIfInBounds i true) L) s' K := by
        intro L A' B' hord hmem hex hh
        obtain ⟨X, Z, rfl⟩ := List.append_of_mem hmem
        obtain ⟨n1, n2⟩ := nd hord X (i, ao) Z rfl
        refine remI_front (p := (i, ao)) h.fresh h0 (by simp only; omega) n1 n2 (fun q hq hqu => ?_) hh
        rcases (ord_spec _ [] hord X (i, ao) Z (by simp) (Nat.zero_le _) q hq).2 with h1 | h1 | h1
        · exact (unl _ hqu h1).elim
        · exact h1
        · rw [h1.1, hex h1.2] at hqu; cases hqu
      have fuelOk : (remI (listed.setIfInBounds i true) L1).length ≤ fuel := by
        obtain ⟨X, Z, e⟩ := List.append_of_mem m1
        obtain ⟨n1, n2⟩ := nd ho1 X (i, ao) Z e
        rw [e, remI_append, remI_cons_no (p := (i, ao)) h0] at hf
        rw [e, remI_append, remI_cons_yes (p := (i, ao)) (by simp [hsz, hi]), remI_set n1, remI_set n2]
        simp at hf ⊢
        omega
      have clsOk : ∀ j o', ops[j]? = some o' → (listed.setIfInBounds i true).getD j true = true → ∀ e ∈ o'.after, Region.binds .any e = true → (listed.setIfInBounds i true).getD e.on false = true := by
        intro j o' ho' hlj e he hb
        by_cases e1 : j = i
        · subst e1
          rw [ho] at ho'
          cases ho'
          exact getD_set_true (hdep e he hb)
        · rw [getD_set_ne true (Ne.symm e1)] at hlj
          exact getD_set_true (hcls j o' ho' hlj e he hb)
      have seti : (listed.setIfInBounds i true).getD i true = true := by simp [hsz, hi]
      unfold wpOp
      intro w1 hw1
      simp only [ho]
      have h := h.rl hw1
      by_cases eB : i = B
      · cases hA : listed.getD A true
        · -- the second list
          have h2 := front ho2 m2 (fun e => absurd (eB.symm.trans e) (Ne.symm hne)) (hs2 hA (by rw [← eB]; exact h0))
          rw [hrem _ (by rw [← eB]; exact seti)] at h2
          exact oper_sound hν hoper h h2 (fun s' a' w' β' hK hS => ih _ (by simp [hsz]) fuelOk clsOk s' a' w' β' hS hK (fun _ hb => by rw [← eB, seti] at hb; cases hb))
        · have h1 := front ho1 m1 (fun _ => hA) hs
          exact oper_sound hν hoper h h1 (fun s' a' w' β' hK hS => ih _ (by simp [hsz]) fuelOk clsOk s' a' w' β' hS hK (fun _ hb => by rw [← eB, seti] at hb; cases hb))
      · have h1 := front ho1 m1 (fun e => absurd e eB) hs
        by_cases eA : i = A
        · exact oper_sound hν hoper h h1 (fun s' a' w' β' hK hS => ih _ (by simp [hsz]) fuelOk clsOk s' a' w' β' hS hK (fun ha _ => by rw [← eA, seti] at ha; cases ha))
        · by_cases hb : listed.getD A true = false ∧ listed.getD B true = false
          · have h2 := front ho2 m2 (fun e => absurd e eA) (hs2 hb.1 hb.2)
            exact oper_sound hν hoper h (opK_and hcc h1 h2) (fun s' a' w' β' hK hS => ih _ (by simp [hsz]) fuelOk clsOk s' a' w' β' hS hK.1 (fun _ _ => hK.2))
          · exact oper_sound hν hoper h h1 (fun s' a' w' β' hK hS => ih _ (by simp [hsz]) fuelOk clsOk s' a' w' β' hS hK (fun ha hb' => by
              rw [getD_set_ne true eA] at ha
              rw [getD_set_ne true eB] at hb'
              exact absurd ⟨ha, hb'⟩ hb))
end
end Go.Av

/-
  Regions whose effects are not ordered: the readers first, then the effects in every order that the edges allow, then the rest.
-/
namespace Go.Av
set_option linter.unusedSectionVars false
set_option linter.unusedSimpArgs false
set_option linter.unusedVariables false
variable [md : Md]
open Go.RowKit (Below)

section abs
variable {C : Ct} {cl : List Nat} {s : St} {K K' : St → Prop}

theorem isA_eff {k : AK} (h : Tr.isA k = true) : Tr.eff k = true := by cases k <;> first | rfl | simp [Tr.isA] at h

theorem Ge_O {o : Aop} {Ψ : AV → Hp → Nat → Prop} (ha : Tr.isO o.k = true) (hw : ∀ k, s.next ≤ k → s.heap k = none) (h : Ge C o s Ψ) {u : AV} {hp : Hp} {n : Nat} (hu : Ψ u hp n) : Sub s.heap hp := by
  by_cases e : Tr.isA o.k = true
  · exact Ge_alloc e (hw _ (Nat.le_refl _)) h hu
  · rcases h with ⟨_, h⟩ | ⟨_, h⟩
    · unfold Ve at h
      cases hk : o.k <;> simp only [hk, Tr.isO, Tr.isA, not_true_eq_false, Bool.false_eq_true] at h ha e
      case callo f xs =>
        obtain ⟨_, fc, _, ys, _, Φ, _, _, _, rfl⟩ := h
        obtain ⟨H', _, rfl⟩ := hu
        intro k d hk
        have : k < s.next := by
          rcases Nat.lt_or_ge k s.next with h' | h'
          · exact h'
          · rw [hw k h'] at hk; cases hk
        simp only [hmerge, if_pos this]
        exact hk
    · rw [h] at hu; rw [hu.2.1]; exact fun _ _ h => h

/-- An effect goes ahead of a reader. -/
theorem opK_swapZ {x y : Aop} (hm : Tr.mayE x y = true) (hw : ∀ k, s.next ≤ k → s.heap k = none) (h : opK C x s fun s' => opK C y s' K) : opK C y s fun s' => opK C x s' K := by
  simp only [Tr.mayE, Bool.and_eq_true, Bool.not_eq_true', Bool.or_eq_true] at hm
  obtain ⟨⟨⟨ha, hex⟩, hey⟩, hh⟩ := hm
  obtain ⟨h1, h2, h3⟩ := apart_spec ha
  have ry : ∀ (s : St) (u : AV), ∀ t ∈ Tr.rd y, (s.put x.dst u).env t = s.env t := fun s u t ht => put_env (fun e => h1 t e ht)
  have rx : ∀ (s : St) (u : AV), ∀ t ∈ Tr.rd x, (s.put y.dst u).env t = s.env t := fun s u t ht => put_env (fun e => h3 t e ht)
  obtain ⟨u, hu, h⟩ := (opK_v hex).1 h
  obtain ⟨Ψ, hΨ, hne, h⟩ := (opK_e hey).1 h
  have hΨ' := Ge_congr (s' := s) (ry s u) put_heap put_next hΨ
  have hxh : ∀ v hp n, Ψ v hp n → Gv C x ((⟨s.env, hp, n⟩ : St).put y.dst v) u := fun v hp n hv => by
    rcases hh with e | e
    · exact Gv_congr (s := s) (fun t ht => (rx ⟨s.env, hp, n⟩ v t ht).symm) (.inl e) hu
    · exact Gv_sub (s := s) (fun t ht => (rx ⟨s.env, hp, n⟩ v t ht).symm) (by rw [put_heap]; exact Ge_O e hw hΨ' hv) hu
  refine (opK_e hey).2 ⟨Ψ, hΨ', hne, fun v hp n hv => (opK_v hex).2 ⟨u, hxh v hp n hv, ?_⟩⟩
  have := h v hp n hv
  rw [put_mk, put_comm h2] at this
  exact this

theorem opsK_frontZ {y : Aop} : ∀ {xs : List Aop} {s : St}, (∀ k, s.next ≤ k → s.heap k = none) → (∀ x ∈ xs, Tr.eff x.k = false ∧ (Tr.mayE x y = true ∨ Tr.mayB x y = true)) → opsK C xs s (fun s' => opK C y s' K) → opK C y s fun s' => opsK C xs s' K := by
  intro xs
  induction xs with
  | nil => intro s _ _ h; exact h
  | cons x xs ih =>
    intro s hw hm h
    obtain ⟨hex, hx⟩ := hm x (List.mem_cons_self ..)
    have swap : (opK C x s fun s' => opK C y s' fun s'' => opsK C xs s'' K) → opK C y s fun s' => opK C x s' fun s'' => opsK C xs s'' K := fun h => by
      rcases hx with hx | hx
      · exact opK_swapZ hx hw h
      · exact opK_swap (fun _ => hw _ (Nat.le_refl _)) hx h
    refine swap ?_
    obtain ⟨u, hu, h⟩ := (opK_v hex).1 h
    exact (opK_v hex).2 ⟨u, hu, ih (by rw [put_heap, put_next]; exact hw) (fun x hx => hm x (List.mem_cons_of_mem _ hx)) h⟩

/-- The effects in every order. -/
def forestK (C : Ct) (cl : List Nat) : Nat → List (Nat × Aop) → St → (St → Prop) → Prop
  | 0, _, s, K => K s
  | _ + 1, [], s, K => K s
  | n + 1, e0 :: r, s, K => opK C e0.2 s (fun s' => forestK C cl n r s' K) ∧ ∀ e ∈ r, Tr.freeB cl (e0 :: r) e = true → opK C e.2 s (fun s' => forestK C cl n ((e0 :: r).filter fun q => q.1 != e.1) s' K)

theorem forest_mono : ∀ (n : Nat) (rem : List (Nat × Aop)) (s : St), (∀ s, K s → K' s) → forestK C cl n rem s K → forestK C cl n rem s K' := by
  intro n
  induction n with
  | zero => intro rem s h hh; exact h _ hh
  | succ n ih =>
    intro rem s h hh
    cases rem with
    | nil => exact h _ hh
    | cons e0 r => exact ⟨opK_mono (fun s' hs => ih _ _ h hs) hh.1, fun e he hf => opK_mono (fun s' hs => ih _ _ h hs) (hh.2 e he hf)⟩

theorem forest_front {y : Aop} (hc : Tr.isC y.k = false) (hey : Tr.eff y.k = false) : ∀ (n : Nat) (rem : List (Nat × Aop)) (s : St) (K : St → Prop), (∀ q ∈ rem, Tr.mayB q.2 y = true) → forestK C cl n rem s (fun s' => opK C y s' K) → opK C y s fun s' => forestK C cl n rem s' K := by
  intro n
  induction n with
  | zero => intro rem s K _ h; exact h
  | succ n ih =>
    intro rem s K hm h
    cases rem with
    | nil => exact h
    | cons e0 r =>
      have m0 := hm e0 (List.mem_cons_self ..)
      have ha : ∀ {s : St}, Tr.isA y.k = true → s.heap s.next = none := fun h => by rw [isA_eff h] at hey; cases hey
      obtain ⟨h0, h1⟩ := h
      have a0 := opK_swap (fun h => ha h) m0 (opK_mono (fun s' hs => ih r s' K (fun q hq => hm q (List.mem_cons_of_mem _ hq)) hs) h0)
      have a1 : ∀ e ∈ r, Tr.freeB cl (e0 :: r) e = true → opK C y s fun s' => opK C e.2 s' fun s'' => forestK C cl n ((e0 :: r).filter fun q => q.1 != e.1) s'' K := fun e he hf =>
        opK_swap (fun h => ha h) (hm e (List.mem_cons_of_mem _ he)) (opK_mono (fun s' hs => ih _ s' K (fun q hq => hm q (List.mem_filter.1 hq).1) hs) (h1 e he hf))
      obtain ⟨u, hu, k0⟩ := (opK_v hey).1 a0
      refine (opK_v hey).2 ⟨u, hu, k0, fun e he hf => ?_⟩
      obtain ⟨v, hv, k1⟩ := (opK_v hey).1 (a1 e he hf)
      rw [Gv_unique hc hu hv]
      exact k1

theorem vc_bothL {Q : Ex → St → Prop} : ∀ (l : List Cd) (a : Cd), vc C (Tr.bothL a l) Q s → vc C a Q s ∧ ∀ b ∈ l, vc C b Q s
  | [], a, h => ⟨h, fun b hb => by cases hb⟩
  | b :: l, a, h => by
    obtain ⟨h1, h2⟩ := vc_bothL l b h.2
    exact ⟨h.1, fun c hc => by
      rcases List.mem_cons.1 hc with rfl | hc
      · exact h1
      · exact h2 c hc⟩

theorem vc_tree {Q : Ex → St → Prop} {R : List Aop} : ∀ (n : Nat) (rem : List (Nat × Aop)) (s : St), vc C (Tr.treeCd cl R n rem) Q s → forestK C cl n rem s fun s2 => opsK C R s2 (Q .normal) := by
  intro n
  induction n with
  | zero => intro rem s h; exact h
  | succ n ih =>
    intro rem s h
    cases rem with
    | nil => exact h
    | cons e0 r =>
      obtain ⟨h0, h1⟩ := vc_bothL _ _ h
      refine ⟨opK_mono (fun s' hs => ih _ _ hs) h0, fun e he hf => ?_⟩
      have := h1 _ (List.mem_map.2 ⟨e, List.mem_filter.2 ⟨he, hf⟩, rfl⟩)
      exact opK_mono (fun s' hs => ih _ _ hs) this
end abs

def unl (listed : Array Bool) (L : List (Nat × Aop)) : List (Nat × Aop) := L.filter fun p => !listed.getD p.1 true
theorem unl_set {listed : Array Bool} {i : Nat} {X : List (Nat × Aop)} (h : ∀ q ∈ X, q.1 ≠ i) : unl (listed.setIfInBounds i true) X = unl listed X := by
  unfold unl
  refine List.filter_congr fun q hq => ?_
  rw [getD_set_ne true (Ne.symm (h q hq))]
theorem unl_drop {listed : Array Bool} {i : Nat} (hi : i < listed.size) (X : List (Nat × Aop)) : (unl listed X).filter (fun q => q.1 != i) = unl (listed.setIfInBounds i true) X := by
  unfold unl
  rw [List.filter_filter]
  refine List.filter_congr fun q _ => ?_
  by_cases e : q.1 = i
  · subst e; simp [hi]
  · rw [getD_set_ne true (Ne.symm e)]; simp [e]

section
variable {ν : Nat → FuncId} {w0 : World} {S : Nat → Prop} {X0 : Cx} {T : Tr} {Q : Exit → Act → World → Prop}

theorem any3_sound (hν : ∀ f id, T.num f = some id → ν id = f) {ops : Array Oper} {cl : List Nat} (hcl : cl = Tr.clo ops.toList []) (hback : Tr.backB 0 ops.toList = true) {P E R : List (Nat × Aop)}
    (hmem : ∀ i o, ops[i]? = some o → ∃ ao hf, ((i, ao) ∈ P ∨ (i, ao) ∈ E ∨ (i, ao) ∈ R) ∧ T.oper ops hf o = some ao)
    (hP : ∀ p ∈ P, p.1 < ops.size) (hE : ∀ p ∈ E, p.1 < ops.size) (hR : ∀ p ∈ R, p.1 < ops.size)
    (dPE : ∀ p ∈ P, ∀ e ∈ E, p.1 ≠ e.1) (dPR : ∀ p ∈ P, ∀ e ∈ R, p.1 ≠ e.1) (dER : ∀ p ∈ E, ∀ e ∈ R, p.1 ≠ e.1) (dE : ∀ p ∈ E, ∀ q ∈ E, p.1 = q.1 → p = q) (nE : (E.map (·.1)).Nodup)
    (oP : Tr.ordB cl ops.size ops.size [] P = true) (oR : Tr.ordB cl ops.size ops.size [] R = true)
    (cP : ∀ p ∈ P, Tr.eff p.2.k = false ∧ ∀ e ∈ E, (cl.getD e.1 0).testBit p.1 = true ∨ (Tr.mayE p.2 e.2 = true ∨ Tr.mayB p.2 e.2 = true))
    (cR : ∀ r ∈ R, Tr.isC r.2.k = false ∧ (Tr.eff r.2.k = false ∨ ∀ e ∈ E, (cl.getD r.1 0).testBit e.1 = true) ∧ Tr.isA r.2.k = false ∧ (∀ q ∈ P, (cl.getD r.1 0).testBit q.1 = true ∨ Tr.mayB q.2 r.2 = true) ∧ ∀ e ∈ E, (cl.getD r.1 0).testBit e.1 = true ∨ Tr.mayB e.2 r.2 = true)
    {K : St → Prop} (hQ : ∀ s' a' w' β', K s' → Sim ν T.nt w0 S X0 s' a' w' β' → Q .normal a' w') :
    ∀ (fuel : Nat) (listed : Array Bool), listed.size = ops.size → (unl listed P).length + (unl listed E).length + (unl listed R).length ≤ fuel →
      (∀ j o, ops[j]? = some o → listed.getD j true = true → ∀ e ∈ o.after, Region.binds .any e = true → listed.getD e.on false = true) →
      ∀ (n : Nat), (unl listed E).length ≤ n → ∀ (s : St) (a : Act) (w : World) (β : Nat → Nat), Sim ν T.nt w0 S X0 s a w β →
        opsK (OkM T.P ν) (remI listed P) s (fun s1 => forestK (OkM T.P ν) cl n (unl listed E) s1 fun s2 => opsK (OkM T.P ν) (remI listed R) s2 K) → wpAny T.P .any ops Q fuel listed a w := by
  have lenI : ∀ (listed : Array Bool) (X : List (Nat × Aop)), (remI listed X).length = (unl listed X).length := fun listed X => by simp [remI, unl]
  have nd : ∀ {L : List (Nat × Aop)}, Tr.ordB cl ops.size ops.size [] L = true → ∀ X p Z, L = X ++ p :: Z → (∀ q ∈ X, q.1 ≠ p.1) ∧ ∀ q ∈ Z, q.1 ≠ p.1 := by
    intro L ho X p Z he
    refine ⟨fun q hq => (ord_spec L [] ho X p Z (by simpa using he) (Nat.zero_le _) q hq).1, fun q hq => ?_⟩
    obtain ⟨Z1, Z2, rfl⟩ := List.append_of_mem hq
    have := ord_spec L [] ho (X ++ p :: Z1) q Z2 (by simpa using he) (Nat.zero_le _) p (by simp)
    exact fun e => this.1 e.symm
  have hdone : ∀ listed : Array Bool, listed.size = ops.size → Region.ready .any ops listed = [] → ∀ L : List (Nat × Aop), (∀ p ∈ L, p.1 < ops.size) → unl listed L = [] := by
    intro listed hsz hr L hL
    have all : ∀ j, j < ops.size → listed.getD j true = true := by
      intro j
      induction j using Nat.strongRecOn with
      | _ j ih =>
        intro hj
        cases hlj : listed.getD j true with
        | true => rfl
        | false =>
          exfalso
          have hm : j ∈ Region.ready .any ops listed := by
            rw [mem_ready]
            refine ⟨hlj, ops[j], by simp [hj], fun e he hbd => ?_⟩
            have h1 := back_spec _ 0 hback j ops[j] (by simp [hj]) e (by simpa using he) hbd
            simp only [Nat.zero_add] at h1
            have h2 := ih e.on h1 (by omega)
            have h3 : e.on < listed.size := by omega
            simpa [h3] using h2
          rw [hr] at hm
          cases hm
    unfold unl
    exact List.filter_eq_nil_iff.2 fun p hp => by simp only [all p.1 (hL p hp)]; simp
  have fin : ∀ (listed : Array Bool) (n : Nat) (s : St) (a : Act) (w : World) (β : Nat → Nat), unl listed P = [] → unl listed E = [] → unl listed R = [] → Sim ν T.nt w0 S X0 s a w β →
      opsK (OkM T.P ν) (remI listed P) s (fun s1 => forestK (OkM T.P ν) cl n (unl listed E) s1 fun s2 => opsK (OkM T.P ν) (remI listed R) s2 K) → Q .normal a w := by
    intro listed n s a w β h1 h2 h3 h hs
    have e1 : remI listed P = [] := List.eq_nil_of_length_eq_zero (by rw [lenI, h1]; rfl)
    have e3 : remI listed R = [] := List.eq_nil_of_length_eq_zero (by rw [lenI, h3]; rfl)
    rw [e1, e3, h2] at hs
    refine hQ _ _ _ _ ?_ h
    cases n <;> exact hs
  intro fuel
  induction fuel with
  | zero =>
    intro listed hsz hf hcls n hn s a w β h hs
    have z1 : unl listed P = [] := List.eq_nil_of_length_eq_zero (by omega)
    have z2 : unl listed E = [] := List.eq_nil_of_length_eq_zero (by omega)
    have z3 : unl listed R = [] := List.eq_nil_of_length_eq_zero (by omega)
    refine ⟨?_, fin listed n s a w β z1 z2 z3 h hs⟩
    cases hr : Region.ready .any ops listed with
    | nil => rfl
    | cons i r =>
      exfalso
      have hm : i ∈ Region.ready .any ops listed := by rw [hr]; exact List.mem_cons_self ..
      rw [mem_ready] at hm
      obtain ⟨h0, o, ho, _⟩ := hm
      obtain ⟨ao, hfl, m, hoper⟩ := hmem i o ho
      have none_in : ∀ X, unl listed X = [] → (i, ao) ∈ X → False := fun X hX hm => by
        have : (i, ao) ∈ unl listed X := List.mem_filter.2 ⟨hm, by simp only [h0]; rfl⟩
        rw [hX] at this; cases this
      rcases m with m | m | m
      · exact none_in _ z1 m
      · exact none_in _ z2 m
      · exact none_in _ z3 m
  | succ fuel ih =>
    intro listed hsz hf hcls n hn s a w β h hs
    refine ⟨fun hr => fin listed n s a w β (hdone listed hsz hr _ hP) (hdone listed hsz hr _ hE) (hdone listed hsz hr _ hR) h hs, fun i hi => ?_⟩
    rw [mem_ready] at hi
    obtain ⟨h0, o, ho, hdep⟩ := hi
    have hi : i < ops.size := (Array.getElem?_eq_some_iff.1 ho).1
    have hil : i < listed.size := by omega
    obtain ⟨ao, hfl, m, hoper⟩ := hmem i o ho
    have mask := mask_listed hcl hcls (i + 1) i (by omega) (fun e o' ho' he hb' => by rw [ho] at ho'; cases ho'; exact hdep e he hb')
    have unlst : ∀ j, listed.getD j true = false → (cl.getD i 0).testBit j = true → False := by
      intro j hj hb
      have h4 := mask j hb
      by_cases hjl : j < listed.size
      · have h5 : listed.getD j true = true := by simpa [hjl] using h4
        rw [h5] at hj
        cases hj
      · simp [Array.getElem?_eq_none (Nat.le_of_not_lt hjl)] at h4
    have clsOk : ∀ j o', ops[j]? = some o' → (listed.setIfInBounds i true).getD j true = true → ∀ e ∈ o'.after, Region.binds .any e = true → (listed.setIfInBounds i true).getD e.on false = true := by
      intro j o' ho' hlj e he hb
      by_cases e1 : j = i
      · subst e1
        rw [ho] at ho'
        cases ho'
        exact getD_set_true (hdep e he hb)
      · rw [getD_set_ne true (Ne.symm e1)] at hlj
        exact getD_set_true (hcls j o' ho' hlj e he hb)
    have ul : ∀ {X : List (Nat × Aop)} {q : Nat × Aop}, q ∈ unl listed X → q ∈ X ∧ listed.getD q.1 true = false := fun hq => by
      obtain ⟨h1, h2⟩ := List.mem_filter.1 hq
      exact ⟨h1, by simpa using h2⟩
    have less : ∀ (X : List (Nat × Aop)), (i, ao) ∈ X → Tr.ordB cl ops.size ops.size [] X = true → (unl (listed.setIfInBounds i true) X).length + 1 = (unl listed X).length := by
      intro X hm hord
      obtain ⟨Y, Z, rfl⟩ := List.append_of_mem hm
      obtain ⟨n1, n2⟩ := nd hord Y (i, ao) Z rfl
      have e1 : remI (listed.setIfInBounds i true) (Y ++ (i, ao) :: Z) = remI listed Y ++ remI listed Z := by
        rw [remI_append, remI_cons_yes (p := (i, ao)) (by simp [hil]), remI_set n1, remI_set n2]
      have e2 : remI listed (Y ++ (i, ao) :: Z) = remI listed Y ++ ao :: remI listed Z := by rw [remI_append, remI_cons_no (p := (i, ao)) h0]
      rw [← lenI, ← lenI, e1, e2]; simp; omega
    unfold wpOp
    intro w1 hw1
    simp only [ho]
    have h := h.rl hw1
    rcases m with m | m | m
    · -- a reader
      have hord := oP
      obtain ⟨X, Z, hXZ⟩ := List.append_of_mem m
      obtain ⟨n1, n2⟩ := nd hord X (i, ao) Z hXZ
      have he : unl (listed.setIfInBounds i true) E = unl listed E := unl_set fun q hq => (dPE _ m q hq).symm
      have hr : remI (listed.setIfInBounds i true) R = remI listed R := remI_set fun q hq => (dPR _ m q hq).symm
      have hr' : unl (listed.setIfInBounds i true) R = unl listed R := unl_set fun q hq => (dPR _ m q hq).symm
      have hl := less P m hord
      rw [hXZ] at hs
      have h2 := remI_front (p := (i, ao)) h.fresh h0 hil n1 n2 (fun q hq hqu => by
        rcases (ord_spec _ [] hord X (i, ao) Z (by simpa using hXZ) (Nat.zero_le _) q hq).2 with h1 | h1 | h1
        · exact (unlst _ hqu h1).elim
        · exact h1
        · have := hP q (by rw [hXZ]; simp [hq])
          omega) hs
      rw [← hXZ] at h2
      refine oper_sound hν hoper h h2 (fun s' a' w' β' hK hS => ih _ (by simp [hsz]) (by rw [he, hr']; omega) clsOk n (by rw [he]; exact hn) s' a' w' β' hS (by rw [he, hr]; exact hK))
    · -- an effect
      have hp : remI (listed.setIfInBounds i true) P = remI listed P := remI_set fun q hq => dPE q hq _ m
      have hp' : unl (listed.setIfInBounds i true) P = unl listed P := unl_set fun q hq => dPE q hq _ m
      have hr : remI (listed.setIfInBounds i true) R = remI listed R := remI_set fun q hq => (dER _ m q hq).symm
      have hr' : unl (listed.setIfInBounds i true) R = unl listed R := unl_set fun q hq => (dER _ m q hq).symm
      have hme : (i, ao) ∈ unl listed E := List.mem_filter.2 ⟨m, by simp only [h0]; rfl⟩
      have hdrop := unl_drop (i := i) hil E
      cases n with
      | zero => rw [List.eq_nil_of_length_eq_zero (Nat.le_zero.1 hn)] at hme; cases hme
      | succ n =>
        have hlen : (unl (listed.setIfInBounds i true) E).length < (unl listed E).length := by
          rw [← hdrop]
          exact List.length_filter_lt_length_iff_exists.2 ⟨(i, ao), hme, by simp⟩
        have pick : ∀ s1 K2, forestK (OkM T.P ν) cl (n + 1) (unl listed E) s1 K2 → opK (OkM T.P ν) ao s1 fun s' => forestK (OkM T.P ν) cl n (unl (listed.setIfInBounds i true) E) s' K2 := by
          intro s1 K2 hf1
          rw [← hdrop]
          have nE' : ((unl listed E).map (·.1)).Nodup := nE.sublist (List.Sublist.map _ (List.filter_sublist ..))
          have free : Tr.freeB cl (unl listed E) (i, ao) = true := by
            refine List.all_eq_true.2 fun q hq => ?_
            simp only [Bool.or_eq_true, Bool.not_eq_true', beq_iff_eq]
            right
            cases hb : (cl.getD i 0).testBit q.1 with
            | false => rfl
            | true => exact (unlst _ (ul hq).2 hb).elim
          have dE' : ∀ q ∈ unl listed E, q.1 = i → q = (i, ao) := fun q hq e => dE q (ul hq).1 (i, ao) m e
          generalize unl listed E = F at hf1 hme nE' free dE'
          cases F with
          | nil => cases hme
          | cons e0 r =>
            by_cases e : e0.1 = i
            · have e' := dE' e0 (List.mem_cons_self ..) e
              have hr : (e0 :: r).filter (fun q => q.1 != i) = r := by
                rw [List.filter_cons_of_neg (by simp [e]), List.filter_eq_self]
                intro q hq
                have : e0.1 ≠ q.1 := by
                  simp only [List.map_cons, List.nodup_cons, List.mem_map, not_exists, not_and] at nE'
                  exact fun e2 => nE'.1 q hq e2.symm
                simp; omega
              rw [hr]
              have := hf1.1
              rw [e'] at this
              exact this
            · have hm2 : (i, ao) ∈ r := by
                rcases List.mem_cons.1 hme with h' | h'
                · rw [← h'] at e; exact absurd rfl e
                · exact h'
              exact hf1.2 (i, ao) hm2 free
        have h2 := opsK_mono (fun s1 hs1 => pick s1 _ hs1) hs
        have h3 := opsK_frontZ (y := ao) (fun k hk => by
          cases hH : s.heap k with
          | none => rfl
          | some c => have := (h.objs.obj k c hH).1; simp only at this; omega) (fun x hx => by
            obtain ⟨q, q1, q2, q3⟩ := mem_remI hx
            rw [← q2]
            refine ⟨(cP q q1).1, ?_⟩
            rcases (cP q q1).2 _ m with h1 | h1
            · exact (unlst _ q3 h1).elim
            · exact h1) h2
        refine oper_sound hν hoper h h3 (fun s' a' w' β' hK hS => ih _ (by simp [hsz]) (by rw [hp', hr']; omega) clsOk n (by omega) s' a' w' β' hS (by rw [hp, hr]; exact hK))
    · -- one of the rest
      have hord := oR
      obtain ⟨X, Z, hXZ⟩ := List.append_of_mem m
      obtain ⟨n1, n2⟩ := nd hord X (i, ao) Z hXZ
      have hp : remI (listed.setIfInBounds i true) P = remI listed P := remI_set fun q hq => dPR q hq _ m
      have hp' : unl (listed.setIfInBounds i true) P = unl listed P := unl_set fun q hq => dPR q hq _ m
      have he : unl (listed.setIfInBounds i true) E = unl listed E := unl_set fun q hq => dER q hq _ m
      have hl := less R m hord
      obtain ⟨k1, k0, k2, k3, k4⟩ := cR _ m
      have inner : ∀ s2, opsK (OkM T.P ν) (remI listed R) s2 K → opK (OkM T.P ν) ao s2 fun s' => opsK (OkM T.P ν) (remI (listed.setIfInBounds i true) R) s' K := by
        intro s2 hs2
        rw [hXZ, remI_append, remI_cons_no (p := (i, ao)) h0] at hs2
        rw [hXZ, remI_append, remI_cons_yes (p := (i, ao)) (by simp [hil]), remI_set n1, remI_set n2]
        refine opsK_front (fun ha => by simp only at k2; rw [k2] at ha; cases ha) (fun x hx => ?_) hs2
        obtain ⟨q, q1, q2, q3⟩ := mem_remI hx
        rw [← q2]
        rcases (ord_spec _ [] hord X (i, ao) Z (by simpa using hXZ) (Nat.zero_le _) q q1).2 with h1 | h1 | h1
        · exact (unlst _ q3 h1).elim
        · exact h1
        · have := hR q (by rw [hXZ]; simp [q1])
          omega
      have fr : ∀ s1 G, forestK (OkM T.P ν) cl n (unl listed E) s1 (fun s' => opK (OkM T.P ν) ao s' G) → opK (OkM T.P ν) ao s1 fun s' => forestK (OkM T.P ν) cl n (unl listed E) s' G := by
        intro s1 G hG
        rcases k0 with k0 | k0
        · refine forest_front k1 k0 n (unl listed E) s1 _ (fun q hq => ?_) hG
          rcases k4 q (ul hq).1 with h1 | h1
          · exact (unlst _ (ul hq).2 h1).elim
          · exact h1
        · have : unl listed E = [] := by
            cases hE2 : unl listed E with
            | nil => rfl
            | cons q F =>
              have hq : q ∈ unl listed E := by rw [hE2]; exact List.mem_cons_self ..
              exact (unlst _ (ul hq).2 (k0 q (ul hq).1)).elim
          rw [this] at hG ⊢
          cases n <;> exact hG
      have h2 := opsK_mono (fun s1 hs1 => fr s1 _ (forest_mono _ _ _ inner hs1)) hs
      have h3 : opsK (OkM T.P ν) (remI listed P ++ ao :: []) s fun s' => forestK (OkM T.P ν) cl n (unl listed E) s' fun s2 => opsK (OkM T.P ν) (remI (listed.setIfInBounds i true) R) s2 K := by
        have app : ∀ (xs : List Aop) (s : St) (G : St → Prop), opsK (OkM T.P ν) xs s (fun s1 => opK (OkM T.P ν) ao s1 G) → opsK (OkM T.P ν) (xs ++ ao :: []) s G := by
          intro xs
          induction xs with
          | nil => intro s G h; exact h
          | cons x xs ihx => intro s G h; exact opK_mono (fun s' hs => ihx s' G hs) h
        exact app _ _ _ h2
      have h4 := opsK_front (zs := []) (fun ha => by simp only at k2; rw [k2] at ha; cases ha) (fun x hx => by
        obtain ⟨q, q1, q2, q3⟩ := mem_remI hx
        rw [← q2]
        rcases k3 q q1 with h1 | h1
        · exact (unlst _ q3 h1).elim
        · exact h1) h3
      rw [List.append_nil] at h4
      refine oper_sound hν hoper h h4 (fun s' a' w' β' hK hS => ih _ (by simp [hsz]) (by rw [hp', he]; omega) clsOk n (by rw [he]; exact hn) s' a' w' β' hS (by rw [hp, he]; exact hK))
end
end Go.Av

/-
  Code and functions of the model against the compact code.
-/
namespace Go.Av
set_option linter.unusedSectionVars false
set_option linter.unusedSimpArgs false
set_option linter.unusedVariables false
variable [md : Md]
open Go.RowKit (Below)

def exitOf : Ex → Exit
  | .normal => .normal
  | .exit id => .exit id
  | .ret => .ret

theorem least {p : Nat → Prop} (h : ∃ n, p n) : ∃ n, p n ∧ ∀ m, p m → n ≤ m := by
  obtain ⟨n, hn⟩ := h
  induction n using Nat.strongRecOn with
  | _ n ih =>
    by_cases hx : ∃ m, m < n ∧ p m
    · obtain ⟨m, hm, hp⟩ := hx
      exact ih m hm hp
    · exact ⟨n, hn, fun m hm => Nat.le_of_not_lt fun hlt => hx ⟨m, hlt, hm⟩⟩

section
variable {ν : Nat → FuncId} {w0 : World} {S : Nat → Prop} {X0 : Cx} {T : Tr}

theorem region_sound (hν : ∀ f id, T.num f = some id → ν id = f) {Q : Exit → Act → World → Prop} {id : Nat} {ops : Array Oper} {draw : Bool} {l : List Aop} (hr : T.region ops draw = some l) {s : St} {a : Act} {w : World} {β : Nat → Nat} (h : Sim ν T.nt w0 S X0 s a w β)
    {K : St → Prop} (hs : opsK (OkM T.P ν) l s K) (hQ : ∀ s' a' w' β', K s' → Sim ν T.nt w0 S X0 s' a' w' β' → Q .normal a' w') : (Code.region id ops draw).wpB T.P Q a w := by
  cases draw with
  | false =>
    simp only [Tr.region, Bool.false_eq_true, if_false] at hr
    exact wp_region_list (list_sound hν hQ _ _ hr s a w β h hs)
  | true =>
    simp only [Tr.region, if_true] at hr
    split at hr
    · rename_i l' hz
      split at hr
      · rename_i hc
        cases hr
        simp only [Bool.and_eq_true] at hc
        have hsz := (zip_spec _ _ _ hz).1
        have hrem : rem (Array.replicate ops.size false) 0 l = l := by
          have : ∀ (l : List Aop) (k : Nat), k + l.length ≤ ops.size → rem (Array.replicate ops.size false) k l = l := by
            intro l
            induction l with
            | nil => intro k _; rfl
            | cons x r ih =>
              intro k hk
              simp only [List.length_cons] at hk
              have hk' : k < ops.size := by omega
              simp only [rem]
              rw [ih (k + 1) (by omega)]
              simp [hk']
          exact this l 0 (by simp at hsz; omega)
        refine wp_region_any hc.2 (fun w1 hw1 => any_sound hν rfl hz hc.1.1 hc.1.2 hQ _ _ (by simp) (by rw [hrem]; simp at hsz; omega) ?_ s a _ β (h.rl hw1) (by rw [hrem]; exact hs))
        intro j o ho hl
        have hj : j < ops.size := (Array.getElem?_eq_some_iff.1 ho).1
        simp [hj] at hl
      · cases hr
    · cases hr

theorem zipG_spec {hh : Nat → Bool} {ops : Array Oper} : ∀ (L : List Oper) (k : Nat) (l : List Aop), T.zipG hh ops k L = some l → l.length = L.length ∧ ∀ (i : Nat) (o : Oper), L[i]? = some o → ∃ ao, l[i]? = some ao ∧ ∃ hf, T.oper ops hf o = some ao := by
  intro L
  induction L with
  | nil => intro k l h; simp [Tr.zipG] at h; subst h; exact ⟨rfl, fun i o h => by simp at h⟩
  | cons a L ih =>
    intro k l h
    simp only [Tr.zipG] at h
    split at h
    · rename_i ao l' h1 h2
      cases h
      obtain ⟨g1, g2⟩ := ih _ _ h2
      refine ⟨by simp [g1], fun i o ho => ?_⟩
      cases i with
      | zero => simp at ho; subst ho; exact ⟨ao, rfl, _, h1⟩
      | succ i => exact g2 i o (by simpa using ho)
    · cases h

theorem region2_sound (hν : ∀ f id, T.num f = some id → ν id = f) {Q : Exit → Act → World → Prop} {id : Nat} {ops : Array Oper} {p : List Aop × List Aop} (hr : T.region2 ops = some p) {s : St} {a : Act} {w : World} {β : Nat → Nat} (h : Sim ν T.nt w0 S X0 s a w β)
    {K : St → Prop} (hs1 : opsK (OkM T.P ν) p.1 s K) (hs2 : opsK (OkM T.P ν) p.2 s K) (hQ : ∀ s' a' w' β', K s' → Sim ν T.nt w0 S X0 s' a' w' β' → Q .normal a' w') : (Code.region id ops true).wpB T.P Q a w := by
  simp only [Tr.region2] at hr
  split at hr
  · rename_i l hz
    split at hr
    · rename_i A B hconf
      split at hr
      · rename_i pB hfind
        split at hr
        · rename_i hc
          cases hr
          simp only [Bool.and_eq_true, bne_iff_ne, ne_eq] at hc
          obtain ⟨⟨⟨⟨⟨c1, c2⟩, c3⟩, c4⟩, c5⟩, c6⟩ := hc
          obtain ⟨hsz, hops⟩ := zipG_spec _ _ _ hz
          have hpB : pB.1 = B := by have := List.find?_some hfind; simpa using this
          have hpm : pB ∈ Tr.enum 0 l := List.mem_of_find?_eq_some hfind
          have all : ∀ L : List (Nat × Aop), (∀ p ∈ L, p.1 < ops.size) → remI (Array.replicate ops.size false) L = L.map (·.2) := by
            intro L hL
            unfold remI
            rw [List.filter_eq_self.2 fun p hp => by simp [hL p hp]]
          have b1 : ∀ p ∈ Tr.enum 0 l, p.1 < ops.size := by
            intro p hp
            have := ((enum_mem l 0 p).1 hp).2
            have := (List.getElem?_eq_some_iff.1 this).1
            simp at hsz this
            omega
          have b2 : ∀ p ∈ Tr.ins A pB ((Tr.enum 0 l).filter fun q => q.1 != B), p.1 < ops.size := by
            intro p hp
            rcases ins_mem.1 hp with rfl | hp
            · exact b1 _ hpm
            · exact b1 _ (List.mem_filter.1 hp).1
          refine wp_region_any c6 (fun w1 hw1 => any2_sound hν rfl c2 (L1 := Tr.enum 0 l) (L2 := Tr.ins A pB ((Tr.enum 0 l).filter fun q => q.1 != B)) c1 (fun i o ho => ?_) b1 c4 c5 (fun listed hl => ?_) hQ _ _ (by simp) ?_ ?_ s a _ β (h.rl hw1) ?_ ?_)
          · obtain ⟨ao, g1, hf, g2⟩ := hops i o (by simpa using ho)
            have m1 : (i, ao) ∈ Tr.enum 0 l := (enum_mem l 0 (i, ao)).2 ⟨Nat.zero_le _, by simpa using g1⟩
            refine ⟨ao, hf, m1, ins_mem.2 ?_, g2, ?_⟩
            · by_cases e : i = B
              · left
                have := (enum_mem l 0 pB).1 hpm
                rw [hpB, ← e, Nat.sub_zero, g1] at this
                have h2 := Option.some.inj this.2
                rw [h2, e, ← hpB]
              · right; exact List.mem_filter.2 ⟨m1, by simpa using e⟩
            · have := List.all_eq_true.1 c3 ao (List.mem_of_getElem? g1)
              simpa using this
          · rw [ins_remI (by rw [hpB]; exact hl), filter_remI hl]
          · rw [all _ b1, enum_snd]; simp at hsz; omega
          · intro j o ho hl
            have hj : j < ops.size := (Array.getElem?_eq_some_iff.1 ho).1
            simp [hj] at hl
          · rw [all _ b1, enum_snd]; exact hs1
          · intro _ _; rw [all _ b2]; exact hs2
        · cases hr
      · cases hr
    · cases hr
  · cases hr

theorem enum_nodup : ∀ (l : List Aop) (k : Nat), ((Tr.enum k l).map (·.1)).Nodup
  | [], _ => by simp [Tr.enum]
  | x :: r, k => by
    simp only [Tr.enum, List.map_cons, List.nodup_cons]
    refine ⟨fun h => ?_, enum_nodup r (k + 1)⟩
    obtain ⟨p, hp, e⟩ := List.mem_map.1 h
    have := ((enum_mem r (k + 1) p).1 hp).1
    omega
theorem three (fp fe : Nat → Bool) : ∀ (L : List (Nat × Aop)), (L.filter fun p => fp p.1).length + (L.filter fun p => !fp p.1 && fe p.1).length + (L.filter fun p => !fp p.1 && !fe p.1).length = L.length
  | [] => rfl
  | p :: L => by
    have := three fp fe L
    cases h1 : fp p.1 <;> cases h2 : fe p.1 <;> simp [h1, h2] at this ⊢ <;> omega
theorem region3_sound (hν : ∀ f id, T.num f = some id → ν id = f) {Q : Exit → Act → World → Prop} {id : Nat} {ops : Array Oper} {cd : Cd} (hr : T.region3 ops = some cd) {s : St} {a : Act} {w : World} {β : Nat → Nat} (h : Sim ν T.nt w0 S X0 s a w β)
    {Qa : Ex → St → Prop} (hs : vc (OkM T.P ν) cd Qa s) (hQ : ∀ s' a' w' β', Qa .normal s' → Sim ν T.nt w0 S X0 s' a' w' β' → Q .normal a' w') : (Code.region id ops true).wpB T.P Q a w := by
  obtain ⟨hh, fp, fe, hr⟩ : ∃ hh fp fe, T.region3' hh fp fe ops = some cd := by
    unfold Tr.region3 Tr.region3'' Tr.region4' at hr
    exact ⟨_, _, _, hr⟩
  simp only [Tr.region3'] at hr
  split at hr
  · rename_i l hz
    split at hr
    · rename_i hc
      cases hr
      simp only [Bool.and_eq_true, List.all_eq_true, Bool.or_eq_true, Bool.not_eq_true'] at hc
      obtain ⟨⟨⟨⟨⟨c1, c2⟩, c3⟩, c4⟩, c6⟩, c7⟩ := hc
      obtain ⟨hsz, hops⟩ := zipG_spec _ _ _ hz
      have b1 : ∀ p ∈ Tr.enum 0 l, p.1 < ops.size := by
        intro p hp
        have := ((enum_mem l 0 p).1 hp).2
        have := (List.getElem?_eq_some_iff.1 this).1
        simp at hsz this
        omega
      have fl : ∀ {f : Nat × Aop → Bool} {p}, p ∈ (Tr.enum 0 l).filter f → p ∈ Tr.enum 0 l ∧ f p = true := fun h => List.mem_filter.1 h
      have all : ∀ L : List (Nat × Aop), (∀ p ∈ L, p.1 < ops.size) → unl (Array.replicate ops.size false) L = L := by
        intro L hL
        unfold unl
        rw [List.filter_eq_self.2 fun p hp => by simp [hL p hp]]
      have allI : ∀ L : List (Nat × Aop), (∀ p ∈ L, p.1 < ops.size) → remI (Array.replicate ops.size false) L = L.map (·.2) := fun L hL => by
        have := all L hL
        unfold unl at this
        unfold remI
        rw [this]
      have hP := fun p (hp : p ∈ (Tr.enum 0 l).filter fun p => fp p.1) => b1 p (fl hp).1
      have hE := fun p (hp : p ∈ (Tr.enum 0 l).filter fun p => !fp p.1 && fe p.1) => b1 p (fl hp).1
      have hR := fun p (hp : p ∈ (Tr.enum 0 l).filter fun p => !fp p.1 && !fe p.1) => b1 p (fl hp).1
      have nE : (((Tr.enum 0 l).filter fun p => !fp p.1 && fe p.1).map (·.1)).Nodup := (enum_nodup l 0).sublist (List.Sublist.map _ (List.filter_sublist ..))
      refine wp_region_any c7 (fun w1 hw1 => any3_sound (n := ((Tr.enum 0 l).filter fun p => !fp p.1 && fe p.1).length) (K := Qa .normal) hν rfl c1 (P := (Tr.enum 0 l).filter fun p => fp p.1) (E := (Tr.enum 0 l).filter fun p => !fp p.1 && fe p.1) (R := (Tr.enum 0 l).filter fun p => !fp p.1 && !fe p.1) (fun i o ho => ?_) hP hE hR
        (fun p hp e he hpe => ?_) (fun p hp e he hpe => ?_) (fun p hp e he hpe => ?_) (fun p hp q hq hpq => ?_) nE c2 c3 (fun p hp => ?_) (fun r hr => ?_) hQ _ _ (by simp) ?_ ?_ ?_ s a _ β (h.rl hw1) ?_)
      · obtain ⟨ao, g1, hf, g2⟩ := hops i o (by simpa using ho)
        have m1 : (i, ao) ∈ Tr.enum 0 l := (enum_mem l 0 (i, ao)).2 ⟨Nat.zero_le _, by simpa using g1⟩
        refine ⟨ao, hf, ?_, g2⟩
        cases e1 : fp i with
        | true => exact .inl (List.mem_filter.2 ⟨m1, e1⟩)
        | false =>
          cases e2 : fe i with
          | true => exact .inr (.inl (List.mem_filter.2 ⟨m1, by simp [e1, e2]⟩))
          | false => exact .inr (.inr (List.mem_filter.2 ⟨m1, by simp [e1, e2]⟩))
      · have h1 := (fl hp).2
        have h2 := (fl he).2
        simp only [hpe] at h1
        simp [h1] at h2
      · have h1 := (fl hp).2
        have h2 := (fl he).2
        simp only [hpe] at h1
        simp [h1] at h2
      · have h1 := (fl hp).2
        have h2 := (fl he).2
        simp only [hpe, Bool.and_eq_true] at h1
        simp [h1.2] at h2
      · have h1 := ((enum_mem l 0 p).1 (fl hp).1).2
        have h2 := ((enum_mem l 0 q).1 (fl hq).1).2
        rw [hpq, h2] at h1
        exact Prod.ext hpq (Option.some.inj h1).symm
      · obtain ⟨d1, d2⟩ := c4 p hp
        exact ⟨d1, d2⟩
      · obtain ⟨⟨⟨⟨d1, d0⟩, d2⟩, d3⟩, d4⟩ := c6 r hr
        exact ⟨d1, d0, d2, d3, d4⟩
      · rw [all _ hP, all _ hE, all _ hR, three, enum_len]
        simp at hsz; omega
      · intro j o ho hl
        have hj : j < ops.size := (Array.getElem?_eq_some_iff.1 ho).1
        simp [hj] at hl
      · rw [all _ hE]; exact Nat.le_refl _
      · rw [allI _ hP, all _ hE, allI _ hR]
        exact opsK_mono (fun s1 hs1 => vc_tree _ _ _ hs1) hs
    · cases hr
  · cases hr

theorem codeR_sound (hν : ∀ f id, T.num f = some id → ν id = f) {id : Nat} {ops : Array Oper} {draw : Bool} {cd : Cd} (h : T.codeR ops draw = some cd) {Qa : Ex → St → Prop} {Q : Exit → Act → World → Prop} {s : St} {a : Act} {w : World} {β : Nat → Nat} (hS : Sim ν T.nt w0 S X0 s a w β) (hv : vc (OkM T.P ν) cd Qa s)
    (hQ : ∀ ex s a w β, Qa ex s → Sim ν T.nt w0 S X0 s a w β → Q (exitOf ex) a w) : (Code.region id ops draw).wpB T.P Q a w := by
  simp only [Tr.codeR] at h
  split at h
  · rename_i hd
    cases draw with
    | false => simp at hd
    | true => exact region3_sound hν h hS hv (fun s' a' w' β' hK hS' => hQ .normal _ _ _ _ hK hS')
  split at h
  · rename_i l hl
    cases h
    exact region_sound hν hl hS hv (fun s' a' w' β' hK hS' => hQ .normal _ _ _ _ hK hS')
  · split at h
    · rename_i hd
      cases draw with
      | false => cases hd
      | true =>
        split at h
        · rename_i p hp
          cases h
          exact region2_sound hν hp hS hv.1 hv.2 (fun s' a' w' β' hK hS' => hQ .normal _ _ _ _ hK hS')
        · exact region3_sound hν h hS hv (fun s' a' w' β' hK hS' => hQ .normal _ _ _ _ hK hS')
    · cases h

theorem code_sound (hν : ∀ f id, T.num f = some id → ν id = f) : ∀ (c : Code) (cd : Cd), T.code c = some cd → ∀ (Qa : Ex → St → Prop) (Q : Exit → Act → World → Prop) (s : St) (a : Act) (w : World) (β : Nat → Nat), Sim ν T.nt w0 S X0 s a w β → vc (OkM T.P ν) cd Qa s →
    (∀ ex s a w β, Qa ex s → Sim ν T.nt w0 S X0 s a w β → Q (exitOf ex) a w) → c.wpB T.P Q a w := by
  intro c
  induction c with
  | skip => intro cd h Qa Q s a w β hS hv hQ; cases h; exact wp_skip (hQ _ _ _ _ _ hv hS)
  | region id ops draw =>
    intro cd h Qa Q s a w β hS hv hQ
    simp only [Tr.code] at h
    split at h
    · rename_i c hc
      cases h
      exact codeR_sound hν hc hS hv hQ
    · split at h
      · cases h
        exfalso
        simp [Tr.stuckCd, vc, opsK, opK, stepK, pvf, pLd, OptK] at hv
      · cases h
  | seq x y ihx ihy =>
    intro cd h Qa Q s a w β hS hv hQ
    obtain ⟨x', hx, h⟩ := bind_some h
    obtain ⟨y', hy, rfl⟩ := map_some h
    refine wp_seq (ihx x' hx _ _ s a w β hS hv fun ex s a w β hq hS' => ?_)
    cases ex with
    | normal => exact ihy y' hy Qa Q s a w β hS' hq hQ
    | exit id => exact hQ _ _ _ _ _ hq hS'
    | ret => exact hQ _ _ _ _ _ hq hS'
  | cond c x y ihx ihy =>
    intro cd h Qa Q s a w β hS hv hQ
    obtain ⟨c', hc, h⟩ := bind_some h
    obtain ⟨x', hx, h⟩ := bind_some h
    obtain ⟨y', hy, rfl⟩ := map_some h
    have hr := opd_sound (T := T) hν hS.env hc
    simp only [vc] at hv
    split at hv
    · rename_i t ht
      rw [ht] at hr
      exact wp_cond_split hr.inv_v (fun e => ihx x' hx Qa Q s a w β hS (hv.1 e) hQ) (fun e => ihy y' hy Qa Q s a w β hS (hv.2 e) hQ)
    · exact hv.elim
  | block id b ih =>
    intro cd h Qa Q s a w β hS hv hQ
    obtain ⟨b', hb, rfl⟩ := map_some h
    refine wp_block (ih b' hb _ _ s a w β hS hv fun ex s a w β hq hS' => ?_)
    cases ex with
    | normal => exact hQ _ _ _ _ _ hq hS'
    | ret => exact hQ _ _ _ _ _ hq hS'
    | exit id' =>
      simp only [Ex.inBlock] at hq
      simp only [exitOf, Exit.inBlock]
      split
      · rename_i e; rw [if_pos e] at hq; exact hQ _ _ _ _ _ hq hS'
      · rename_i e; rw [if_neg e] at hq; exact hQ _ _ _ _ _ hq hS'
  | loop b ih =>
    intro cd h Qa Q s a w β hS hv hQ
    obtain ⟨b', hb, rfl⟩ := map_some h
    obtain ⟨I, μ, hI, hround⟩ := hv
    have hchoice : ∀ p : Act × World, ∃ n : Nat, (∃ s β, I s ∧ Sim ν T.nt w0 S X0 s p.1 p.2 β) → (∃ s β, I s ∧ Sim ν T.nt w0 S X0 s p.1 p.2 β ∧ μ s = n) ∧ ∀ s β, I s → Sim ν T.nt w0 S X0 s p.1 p.2 β → n ≤ μ s := by
      intro p
      by_cases hx : ∃ s β, I s ∧ Sim ν T.nt w0 S X0 s p.1 p.2 β
      · obtain ⟨s, β, h1, h2⟩ := hx
        obtain ⟨n, ⟨s', β', g1, g2, g3⟩, hmin⟩ := least (p := fun n => ∃ s β, I s ∧ Sim ν T.nt w0 S X0 s p.1 p.2 β ∧ μ s = n) ⟨μ s, s, β, h1, h2, rfl⟩
        exact ⟨n, fun _ => ⟨⟨s', β', g1, g2, g3⟩, fun s β k1 k2 => hmin _ ⟨s, β, k1, k2, rfl⟩⟩⟩
      · exact ⟨0, fun h => absurd h hx⟩
    obtain ⟨f, hf⟩ := Classical.axiomOfChoice hchoice
    refine wp_loop (fun a w => ∃ s β, I s ∧ Sim ν T.nt w0 S X0 s a w β) (fun a w => f (a, w)) ⟨s, β, hI, hS⟩ fun a w hx => ?_
    obtain ⟨⟨s', β', h1, h2, h3⟩, _⟩ := hf (a, w) hx
    refine ih b' hb _ _ s' a w β' h2 (hround s' h1) fun ex s2 a2 w2 β2 hq hS2 => ?_
    cases ex with
    | normal =>
      simp only [Ex.andThen] at hq
      simp only [exitOf, Exit.then]
      refine ⟨⟨s2, β2, hq.1, hS2⟩, ?_⟩
      have := (hf (a2, w2) ⟨s2, β2, hq.1, hS2⟩).2 s2 β2 hq.1 hS2
      omega
    | exit id => exact hQ _ _ _ _ _ hq hS2
    | ret => exact hQ _ _ _ _ _ hq hS2
  | exit id => intro cd h Qa Q s a w β hS hv hQ; cases h; exact wp_exit (hQ _ _ _ _ _ hv hS)
  | scope b ih =>
    intro cd h Qa Q s a w β hS hv hQ
    obtain ⟨b', hb, rfl⟩ := map_some h
    refine wp_scope_straight (ih b' hb _ _ s a w β hS hv fun ex s a w β hq hS' => ?_)
    cases ex with
    | normal => exact hQ _ _ _ _ _ hq hS'
    | ret => exact hQ _ _ _ _ _ hq hS'
    | exit id' => exact hQ _ _ _ _ _ hq hS'
  | label l => intro cd h Qa Q s a w β hS hv hQ; cases h; exact wp_label (hQ _ _ _ _ _ hv hS)
  | ret => intro cd h Qa Q s a w β hS hv hQ; cases h; exact wp_ret (hQ _ _ _ _ _ hv hS)
  | _ => intro cd h; cases h

def rvF (tmps : Array Value) : ResultVar → Sem Value
  | .tmp t => pure (tmps.getD t undef)
  | .cell a t => do loadVar t (← asAddr (tmps.getD a undef))
theorem results_eq (fn : Func) (tmps : Array Value) : results fn tmps = (do let vs ← fn.results.mapM (rvF tmps); pure (if h : vs.size = 1 then vs[0] else .tuple vs)) := by
  unfold results
  congr 2
  

theorem run_ld {s : St} {a : Act} {w : World} {β : Nat → Nat} (h : Sim ν T.nt w0 S X0 s a w β) {t : Nat} {ty : TypeId} {n : Option Nat} (hn : T.shape ty = some n) {u : AV} (hu : pLd s.heap n [s.env t] = some u) :
    ∃ v, (rvF a.tmps (.cell t ty)).run T.P w = .ok v w ∧ Rep ν ⟨β, s.heap, s.next, w, S⟩ u v := by
  have hx := h.env t
  unfold pLd at hu
  split at hu
  · rename_i c o' heq
    simp only [List.cons.injEq, and_true] at heq
    rw [heq] at hx
    obtain ⟨b, base, us, hp, hS, hc, hr⟩ := hx.inv_ptr
    obtain ⟨v, h1, h2⟩ := load_row (X := ⟨β, s.heap, s.next, w, S⟩) hn hc (fun i h => .pure (hr i h)) hu
    simp only at h1
    exact ⟨v, by simp [rvF, hp, asAddr, h1], h2⟩
  · rename_i o' q l heq
    simp only [List.cons.injEq, and_true] at heq
    rw [heq] at hx
    cases hc : s.heap o' with
    | none => simp [hc] at hu
    | some c =>
      simp only [hc] at hu
      split at hu
      · rename_i he
        obtain ⟨h1, h2, h3, h4⟩ := hx.inv_mp
        obtain ⟨hp, hrow⟩ := h4 c hc he
        obtain ⟨_, _, r, e, hr, hle, hrep⟩ := h.objs.row hc hrow
        simp only at hr hp
        obtain ⟨v, h5, h6⟩ := load_row (ν := ν) (X := ⟨β, s.heap, s.next, w, S⟩) (base := 0) (o := q) (us := fun i => r.getD i undef) hn (b := β o') (c := c) (fun i hi => by
          rw [Nat.zero_add, cell_of_row _ _ _ _ _ _ hr]; have : i < r.size := by omega
          simp [this]) hrep hu
        rw [Nat.zero_add] at h5
        simp only at h5
        exact ⟨v, by simp [rvF, hp, asAddr, h5], h6⟩
      · cases hu
  · cases hu

theorem run_rvs {s : St} {a : Act} {w : World} {β : Nat → Nat} (h : Sim ν T.nt w0 S X0 s a w β) : ∀ (l : List ResultVar) (rs : List Rv) (xs : List AV), l.mapM T.rv = some rs → rvs s rs = some xs →
    ∃ vs : List Value, (l.mapM (rvF a.tmps)).run T.P w = .ok vs w ∧ vs.length = xs.length ∧ ∀ i (hi : i < xs.length), Rep ν ⟨β, s.heap, s.next, w, S⟩ xs[i] (vs.getD i undef) := by
  intro l
  induction l with
  | nil => intro rs xs h1 h2; simp at h1; subst h1; cases h2; exact ⟨[], by simp, rfl, fun i hi => by simp at hi⟩
  | cons x l ih =>
    intro rs xs h1 h2
    simp only [List.mapM_cons, Option.pure_def, Option.bind_eq_bind] at h1
    obtain ⟨r, hr, h1⟩ := bind_some h1
    obtain ⟨rs', hrs', h1⟩ := bind_some h1
    cases h1
    have fin : ∀ (u : AV) (v : Value) (xs' : List AV), (rvF a.tmps x).run T.P w = .ok v w → Rep ν ⟨β, s.heap, s.next, w, S⟩ u v → rvs s rs' = some xs' → xs = u :: xs' →
        ∃ vs : List Value, ((x :: l).mapM (rvF a.tmps)).run T.P w = .ok vs w ∧ vs.length = xs.length ∧ ∀ i (hi : i < xs.length), Rep ν ⟨β, s.heap, s.next, w, S⟩ xs[i] (vs.getD i undef) := by
      rintro u v xs' g1 g2 g3 rfl
      obtain ⟨vs, k1, k2, k3⟩ := ih rs' xs' hrs' g3
      refine ⟨v :: vs, by simp [List.mapM_cons, g1, k1], by simp [k2], fun i hi => ?_⟩
      cases i with
      | zero => exact g2
      | succ i => exact k3 i (by simpa using hi)
    cases x with
    | tmp t =>
      simp only [Tr.rv] at hr
      split at hr
      · cases hr
        simp only [rvs] at h2
        obtain ⟨xs', g1, g2⟩ := map_some h2
        exact fin (s.env t) (a.tmps.getD t undef) xs' (by simp [rvF]) (h.env t) g1 g2.symm
      · cases hr
    | cell t ty =>
      simp only [Tr.rv] at hr
      split at hr
      · obtain ⟨n, hn, rfl⟩ := map_some hr
        simp only [rvs] at h2
        split at h2
        · rename_i u hu
          obtain ⟨xs', g1, g2⟩ := map_some h2
          obtain ⟨v, k1, k2⟩ := run_ld h hn hu
          exact fin u v xs' k1 k2 g1 g2.symm
        · cases h2
      · cases hr

theorem run_res {s : St} {a : Act} {w : World} {β : Nat → Nat} (h : Sim ν T.nt w0 S X0 s a w β) {fn : Func} {rs : List Rv} {r : AV} (h1 : fn.results.toList.mapM T.rv = some rs) (h2 : resOf s rs = some r) :
    ∃ v, (results fn a.tmps).run T.P w = .ok v w ∧ Rep ν ⟨β, s.heap, s.next, w, S⟩ r v := by
  unfold resOf at h2
  cases hx : rvs s rs with
  | none => rw [hx] at h2; cases h2
  | some xs =>
    rw [hx] at h2
    obtain ⟨vs, k1, k2, k3⟩ := run_rvs h _ _ _ h1 hx
    have hm : (fn.results.mapM (rvF a.tmps)).run T.P w = .ok vs.toArray w := by
      have : fn.results = fn.results.toList.toArray := by simp
      rw [this, List.mapM_toArray]
      simp [k1]
    have tup : r = .tup xs → xs.length ≠ 1 → ∃ v, (results fn a.tmps).run T.P w = .ok v w ∧ Rep ν ⟨β, s.heap, s.next, w, S⟩ r v := by
      rintro rfl hne
      refine ⟨.tuple vs.toArray, ?_, .tup vs.toArray (by simp [k2]) (fun i hi => by simpa using k3 i hi)⟩
      rw [results_eq]
      simp [hm, k2, hne]
    match xs, h2, k2, k3, tup with
    | [x], h2, k2, k3, _ =>
      cases h2
      obtain ⟨v, rfl⟩ : ∃ v, vs = [v] := List.length_eq_one_iff.1 k2
      exact ⟨v, by rw [results_eq]; simp [hm], k3 0 (by simp)⟩
    | [], h2, _, _, tup => cases h2; exact tup rfl (by simp)
    | x :: y :: l, h2, _, _, tup => cases h2; exact tup rfl (by simp)

/-- A function of the model whose compact form does what is asked. -/
theorem fn_sound {P : Program} {num : FuncId → Option Nat} {hint : List (Nat × Nat)} {fn : Func} {f : Fd} (hfd : fd P num hint fn = some f) (hν : ∀ f id, num f = some id → ν id = f) {id : Nat} (hid : P.funcs[ν id]? = some fn) (hname : (fn.name == "runtime.NumGoroutine") = false)
    {args : List AV} {H : Hp} {nx : Nat} {Φ : AV → Hp → Nat → Prop} (hok : fnOk (OkM P ν) f args H nx Φ) : OkM P ν id args H nx Φ := by
  unfold fd at hfd
  cases hb : fn.body with
  | none => simp [hb] at hfd
  | some c =>
    simp only [hb] at hfd
    split at hfd
    · rename_i hnp
      obtain ⟨b, hcode, hfd⟩ := bind_some hfd
      obtain ⟨rs, hrs, rfl⟩ := map_some hfd
      obtain ⟨hlen, hv⟩ := hok
      simp only at hlen hv
      refine ⟨⟨fn, hid, by simp [hb], hname⟩, fun w0 S β w vs hobj hbel hsz hargs => calls_of_wp hid hb ?_⟩
      have hS : Sim ν fn.ntmps w0 S ⟨β, H, nx, w, S⟩ (st0 args H nx) { tmps := vs ++ Array.replicate (fn.ntmps - vs.size) undef, defers := [] } w β := by
        refine ⟨fun t => ?_, by simp; omega, rfl, hobj, hbel, Ext.refl _⟩
        simp only [st0, env0]
        by_cases ht : t < args.length
        · have e1 : (vs ++ Array.replicate (fn.ntmps - vs.size) undef).getD t undef = vs.getD t undef := by
            have : t < vs.size := by omega
            simp [Array.getElem?_append_left this]
          have e2 : args.getD t (.v undef) = args[t] := by simp [ht]
          rw [e1, e2]
          exact hargs t ht
        · have e1 : (vs ++ Array.replicate (fn.ntmps - vs.size) undef).getD t undef = undef := by
            have : vs.size ≤ t := by omega
            rw [Array.getD_eq_getD_getElem?, Array.getElem?_append_right this]
            by_cases h2 : t - vs.size < fn.ntmps - vs.size
            · simp [h2]
            · rw [Array.getElem?_eq_none (by simp; omega)]; rfl
          have e2 : args.getD t (.v undef) = .v undef := by simp [List.getElem?_eq_none (Nat.le_of_not_lt ht)]
          rw [e1, e2]
          exact .pure (.v _)
      refine code_sound (T := ⟨P, num, hint, fn.ntmps⟩) hν c b hcode _ _ _ _ w β hS hv fun ex s a w' β' hq hS' => ?_
      have fin : (∃ r, resOf s rs = some r ∧ ∃ H', Sub H' s.heap ∧ Φ r H' s.next) → a.defers = [] ∧ ∃ v, (∀ w1, Oth w' w1 → ResOk P fn a.tmps w1 v) ∧ ∃ v' r H' nx' β'', (Ending.returned v) = .returned v' ∧ Φ r H' nx' ∧ Rep ν ⟨β'', H', nx', w', S⟩ r v' ∧ Objs ν w0.heap.size ⟨β'', H', nx', w', S⟩ ∧ Ext ⟨β, H, nx, w, S⟩ ⟨β'', H', nx', w', S⟩ ∧ Below w0.heap.size w0 w' := by
        rintro ⟨r, hr, H', hsub, hΦ⟩
        obtain ⟨v, k1, k2⟩ := run_res hS' hrs hr
        have hx : Ext ⟨β', s.heap, s.next, w', S⟩ ⟨β', H', s.next, w', S⟩ :=
          ⟨Nat.le_refl _, fun b hb => ⟨hb.1, fun o c hc => hb.2 o c (hsub o c hc)⟩, fun _ _ => rfl, fun o c' _ hc' => ⟨c', hsub o c' hc', .inr ⟨rfl, rfl, fun r e f hr => ⟨r, e, f, hr, rfl⟩⟩⟩, fun _ _ _ _ es q hm => ⟨rfl, es, q, hm⟩⟩
        refine ⟨hS'.defers, v, res_rl k1, v, r, H', s.next, β', rfl, hΦ, k2.mono hx, ⟨fun o c hc => ?_, fun o o' c c' hc hc' he => hS'.objs.inj o o' c c' (hsub o c hc) (hsub o' c' hc') he, hS'.objs.le, hS'.objs.new⟩, hS'.ext.trans hx, hS'.below⟩
        obtain ⟨g1, g2, ob, g3, g5⟩ := hS'.objs.obj o c (hsub o c hc)
        exact ⟨g1, g2, ob, g3, g5.mono hx⟩
      cases ex with
      | normal => exact fin hq
      | ret => exact fin hq
      | exit id => exact hq.elim
    · cases hfd
end
end Go.Av

/-
  The words in which contracts are said and proved.
-/
namespace Go.Av
set_option linter.unusedSectionVars false
set_option linter.unusedSimpArgs false
set_option linter.unusedVariables false
variable [md : Md]

/-- All objects have numbers below nx. -/
def Wf (H : Hp) (nx : Nat) : Prop := ∀ o, nx ≤ o → H o = none

/-- Function id of the program is, in the second form, V. -/
def Has (P : Program) (ν : Nat → FuncId) (id np : Nat) (V : Vc) : Prop :=
  ∀ (args : List AV) (H : Hp) (nx : Nat) (Φ : AV → Hp → Nat → Prop), args.length = np → (Wf H nx → den (OkM P ν) Φ V np (env0 args) H nx noInv) → OkM P ν id args H nx Φ

def vcOf (P : Program) (num : FuncId → Option Nat) (hint : List (Nat × Nat)) (fn : Func) : Option (Nat × Vc) :=
  (fd P num hint fn).bind fun f => (symF f).map fun V => (f.np, V)

theorem has_of {P : Program} {ν : Nat → FuncId} {num : FuncId → Option Nat} (hν : ∀ f id, num f = some id → ν id = f) {hint : List (Nat × Nat)} {fn : Func} {id np : Nat} {V : Vc} (hv : vcOf P num hint fn = some (np, V)) (hid : P.funcs[ν id]? = some fn) (hname : (fn.name == "runtime.NumGoroutine") = false) : Has P ν id np V := by
  obtain ⟨f, hf, hv⟩ := bindSome hv
  obtain ⟨V', hV', hv⟩ := mapSome hv
  cases hv
  intro args H nx Φ hl hd
  by_cases hw : Wf H nx
  · exact fn_sound hf hν hid hname (symF_sound hV' hl (hd hw))
  · refine ⟨⟨fn, hid, ?_, hname⟩, fun w0 S β w vs hobj => absurd (fun o ho => ?_) hw⟩
    · unfold fd at hf
      cases hb : fn.body with
      | none => simp [hb] at hf
      | some c => rfl
    · cases hH : H o with
      | none => rfl
      | some c => have := (hobj.obj o c hH).1; simp only at this; omega

section
variable {C : Ct} {Φ : AV → Hp → Nat → Prop} {n : Nat} {vars : Nat → AV} {H : Hp} {nx : Nat} {Is : Nat → Inv} {r : Vc}

def denS (C : Ct) (Φ : AV → Hp → Nat → Prop) (o : Option AV) (r : Vc) (n : Nat) (vars : Nat → AV) (H : Hp) (nx : Nat) (Is : Nat → Inv) : Prop :=
  match o with
  | some u => den C Φ r (n + 1) (put vars n u) H nx Is
  | none => False
def denB (C : Ct) (Φ : AV → Hp → Nat → Prop) (o : AV) (a b : Vc) (n : Nat) (vars : Nat → AV) (H : Hp) (nx : Nat) (Is : Nat → Inv) : Prop :=
  match o with
  | .v (.bool t) => (t = true → den C Φ a n vars H nx Is) ∧ (t = false → den C Φ b n vars H nx Is)
  | _ => False

theorem den_p {h : Bool} {op : PO} {xs : List Opd} : den C Φ (.op h (.p op xs) r) n vars H nx Is = denS C Φ (pvf (if h then H else hempty) op (xs.map (ev vars))) r n vars H nx Is := by
  simp only [den, stepK, OptK, St.put, eq_iff_iff, denS]
  cases pvf (if h then H else hempty) op (xs.map (ev vars)) <;> simp
theorem denS_some {u : AV} : denS C Φ (some u) r n vars H nx Is = den C Φ r (n + 1) (put vars n u) H nx Is := rfl
theorem denS_none : denS C Φ none r n vars H nx Is = False := rfl
theorem denS_ite {c : Prop} [Decidable c] {u : AV} : denS C Φ (if c then some u else none) r n vars H nx Is = (c ∧ den C Φ r (n + 1) (put vars n u) H nx Is) := by
  by_cases h : c <;> simp [h, denS]
theorem den_br {c : Nat} {a b : Vc} : den C Φ (.br c a b) n vars H nx Is = denB C Φ (vars c) a b n vars H nx Is := rfl
theorem denB_bool {t : Bool} {a b : Vc} : denB C Φ (bool t) a b n vars H nx Is = ((t = true → den C Φ a n vars H nx Is) ∧ (t = false → den C Φ b n vars H nx Is)) := rfl
theorem den_again {d : Nat} {es : List Opd} : den C Φ (.again d es) n vars H nx Is = Is d (es.map (ev vars)) H nx := rfl
theorem den_ret {rs : List (Opd × Option (Option Nat))} : den C Φ (.ret rs) n vars H nx Is = ∃ r, retOf vars H rs = some r ∧ ∃ H', Sub H' H ∧ Φ r H' nx := rfl

theorem den_call {h : Bool} {f : Opd} {xs : List Opd} {fc : Nat × List AV} {ys : List AV} {u : AV} (hf : fnOf (ev vars f) = some fc) (hys : frzL (if h then H else hempty) (xs.map (ev vars) ++ fc.2) = some ys) (hr : Fz C fc.1 ys u) (hk : den C Φ r (n + 1) (put vars n u) H nx Is) :
    den C Φ (.op h (.call f xs) r) n vars H nx Is := ⟨fc, hf, .inl ⟨ys, hys, u, hr, hk⟩⟩
theorem den_calli {h : Bool} {f : Opd} {xs : List Opd} {fc : Nat × List AV} {ys : List AV} {u : AV} (hf : fnOf (ev vars f) = some fc) (hys : frzL hempty (xs.map (ev vars) ++ fc.2) = some ys) (hr : Fi C fc.1 ys u) (hk : den C Φ r (n + 1) (put vars n u) H nx Is) :
    den C Φ (.op h (.call f xs) r) n vars H nx Is := ⟨fc, hf, .inr ⟨ys, hys, u, hr, hk⟩⟩
theorem den_callm {f : Opd} {xs : List Opd} {fc : Nat × List AV} {Ψ : AV → Hp → Nat → Prop} (hf : fnOf (ev vars f) = some fc) (hc : C fc.1 (xs.map (ev vars) ++ fc.2) H nx Ψ) (hne : ∃ u H' nx', Ψ u H' nx') (hk : ∀ u H' nx', Ψ u H' nx' → den C Φ r (n + 1) (put vars n u) H' nx' Is) :
    den C Φ (.op true (.callm f xs) r) n vars H nx Is := ⟨rfl, fc, hf, Ψ, hc, hne, hk⟩
theorem den_callo {f : Opd} {xs : List Opd} {fc : Nat × List AV} {ys : List AV} {Ψ : AV → Hp → Nat → Prop} (hf : fnOf (ev vars f) = some fc) (hys : frzL H (xs.map (ev vars) ++ fc.2) = some ys) (hc : C fc.1 ys hempty nx Ψ) (hne : ∃ u H' nx', Ψ u H' nx')
    (hk : ∀ u H' nx', Ψ u H' nx' → cln nx fuel u = true ∧ clnH nx H' ∧ den C Φ r (n + 1) (put vars n u) (hmerge nx H H') nx' Is) : den C Φ (.op true (.callo f xs) r) n vars H nx Is := ⟨rfl, fc, hf, ys, hys, Ψ, hc, hne, hk⟩
theorem den_callz {f : Opd} {xs : List Opd} {fc : Nat × List AV} {ys : List AV} {u : AV} (hf : fnOf (ev vars f) = some fc) (hys : frzL H (xs.map (ev vars) ++ fc.2) = some ys) (hr : Fi C fc.1 ys u) (hk : den C Φ r (n + 1) (put vars n u) hempty nx Is) :
    den C Φ (.op true (.callz f xs) r) n vars H nx Is := ⟨rfl, fc, hf, ys, hys, u, hr, hk⟩
theorem den_alt {op : BO} {xs : List Opd} {l : List (AV × Hp × Nat)} (h1 : altTo ⟨vars, H, nx⟩ op (xs.map (ev vars)) = some l) (h2 : l ≠ []) (hk : ∀ q ∈ l, den C Φ r (n + 1) (put vars n q.1) q.2.1 q.2.2 Is) :
    den C Φ (.op true (.alt op xs) r) n vars H nx Is := ⟨rfl, l, h1, h2, hk⟩
theorem den_app {sz : Nat} {x y : Opd} {cm : List AV × Nat} {q : AV × Hp × Nat} (h1 : appCells H sz (ev vars y) = some cm) (h2 : cm.1.all AV.one = true) (h3 : appTo ⟨vars, H, nx⟩ sz (ev vars x) cm.1 cm.2 = some q) (hk : den C Φ r (n + 1) (put vars n q.1) q.2.1 q.2.2 Is) :
    den C Φ (.op true (.app sz x y) r) n vars H nx Is := ⟨rfl, cm, h1, h2, q, h3, hk⟩
theorem den_st {m : Nat} {x y : Opd} {h : Hp} (h1 : stTo ⟨vars, H, nx⟩ m (ev vars x) (ev vars y) = some h) (hk : den C Φ r (n + 1) (put vars n (.v undef)) h nx Is) : den C Φ (.op true (.st m x y) r) n vars H nx Is := ⟨rfl, h, h1, hk⟩
theorem den_new {z : List AV} (hk : den C Φ r (n + 1) (put vars n (.mp nx 0 z.length)) (hput H nx (some z)) (nx + 1) Is) : den C Φ (.op true (.new z) r) n vars H nx Is := ⟨rfl, hk⟩
theorem den_boxm {x : Opd} (h1 : (ev vars x).cells.all AV.one = true) (hk : den C Φ r (n + 1) (put vars n (.mp nx 0 (ev vars x).cells.length)) (hput H nx (some (ev vars x).cells)) (nx + 1) Is) : den C Φ (.op true (.boxm x) r) n vars H nx Is := ⟨rfl, h1, hk⟩
theorem den_mks {z : List AV} {x y : Opd} {q : AV × Hp × Nat} (h1 : mkTo ⟨vars, H, nx⟩ z (ev vars x) (ev vars y) = some q) (hk : den C Φ r (n + 1) (put vars n q.1) q.2.1 q.2.2 Is) : den C Φ (.op true (.mks z x y) r) n vars H nx Is := ⟨rfl, q, h1, hk⟩
theorem den_mslm {sz m : Nat} {z : List AV} {ps : List (Nat × Nat)} {xs : List Opd} {q : AV × Hp × Nat} (h1 : mslTo ⟨vars, H, nx⟩ sz m z ps (xs.map (ev vars)) = some q) (hk : den C Φ r (n + 1) (put vars n q.1) q.2.1 q.2.2 Is) : den C Φ (.op true (.mslm sz m z ps xs) r) n vars H nx Is := ⟨rfl, q, h1, hk⟩

theorem den_mono (V : Vc) : ∀ {n : Nat} {vars : Nat → AV} {H : Hp} {nx : Nat} {Is Is' : Nat → Inv}, (∀ j us H nx, Is j us H nx → Is' j us H nx) → den C Φ V n vars H nx Is → den C Φ V n vars H nx Is' := by
  induction V with
  | op h k r ih =>
    intro n vars H nx Is Is' hi hd
    exact stepK_mono (fun s hs => ih hi hs) hd
  | br c a b iha ihb =>
    intro n vars H nx Is Is' hi hd
    simp only [den] at hd ⊢
    split
    · rename_i t ht
      simp only [ht] at hd
      exact ⟨fun e => iha hi (hd.1 e), fun e => ihb hi (hd.2 e)⟩
    · rename_i hn
      split at hd
      · rename_i t ht; exact hn t ht
      · exact hd
  | both a b iha ihb => intro n vars H nx Is Is' hi hd; exact ⟨iha hi hd.1, ihb hi hd.2⟩
  | loop d init body ih =>
    intro n vars H nx Is Is' hi hd
    obtain ⟨I, μ, h0, h1⟩ := hd
    refine ⟨I, μ, h0, fun us H' nx' hl hI => ih (fun j us H nx hj => ?_) (h1 us H' nx' hl hI)⟩
    simp only [iput] at hj ⊢
    split at hj
    · rename_i e; rw [if_pos e]; exact hj
    · rename_i e; rw [if_neg e]; exact hi _ _ _ _ hj
  | again d es => intro n vars H nx Is Is' hi hd; exact hi _ _ _ _ hd
  | ret rs => intro n vars H nx Is Is' hi hd; exact hd

/-- A loop: α tells the round; the carried values are read off it; Hh says what is known of it and of the objects. -/
theorem den_loop {α : Type} {d : Nat} {init : List Opd} {body : Vc} (st : α → List AV) (Hh : α → Hp → Nat → Prop) (μ : α → Nat) (a0 : α) (h0 : init.map (ev vars) = st a0) (h1 : Hh a0 H nx) 
    (hr : ∀ a H' nx', Hh a H' nx' → den C Φ body (n + init.length) (puts vars n (st a)) H' nx' (iput Is d fun us H'' nx'' => ∃ a', us = st a' ∧ Hh a' H'' nx'' ∧ μ a' < μ a)) :
    den C Φ (.loop d init body) n vars H nx Is := by
  -- the measure: the least of those that fit
  have hch : ∀ p : List AV × Hp × Nat, ∃ m : Nat, (∃ a, p.1 = st a ∧ Hh a p.2.1 p.2.2) → (∃ a, p.1 = st a ∧ Hh a p.2.1 p.2.2 ∧ μ a = m) ∧ ∀ a, p.1 = st a → Hh a p.2.1 p.2.2 → m ≤ μ a := by
    intro p
    by_cases hx : ∃ a, p.1 = st a ∧ Hh a p.2.1 p.2.2
    · obtain ⟨a, h1, h2⟩ := hx
      obtain ⟨m, ⟨a', g1, g2, g3⟩, hmin⟩ := least (p := fun m => ∃ a, p.1 = st a ∧ Hh a p.2.1 p.2.2 ∧ μ a = m) ⟨μ a, a, h1, h2, rfl⟩
      exact ⟨m, fun _ => ⟨⟨a', g1, g2, g3⟩, fun a k1 k2 => hmin _ ⟨a, k1, k2, rfl⟩⟩⟩
    · exact ⟨0, fun h => absurd h hx⟩
  obtain ⟨f, hf⟩ := Classical.axiomOfChoice hch
  refine ⟨fun us H' nx' => ∃ a, us = st a ∧ Hh a H' nx', fun us H' nx' => f (us, H', nx'), ⟨a0, h0, h1⟩, fun us H' nx' hl' hI => ?_⟩
  obtain ⟨⟨a, e1, e2, e3⟩, _⟩ := hf (us, H', nx') hI
  simp only at e1 e2
  have := hr a H' nx' e2
  rw [e1]
  refine den_mono _ (fun j us' H'' nx'' hj => ?_) this
  simp only [iput] at hj ⊢
  split at hj
  · rename_i e
    rw [if_pos e]
    obtain ⟨a', k1, k2, k3⟩ := hj
    refine ⟨⟨a', k1, k2⟩, ?_⟩
    have h5 := (hf (us', H'', nx'') ⟨a', k1, k2⟩).2 a' k1 k2
    rw [← e1]
    omega
  · rename_i e; rw [if_neg e]; exact hj
end

/-- Values. -/
theorem int_def (n : Int) : AV.v (.int .i64 n) = int n := rfl
theorem bool_def (b : Bool) : AV.v (.bool b) = bool b := rfl

section pv
variable {H : Hp} {c : List AV} {o k : Nat} {a b i : Int} {l : List Int}
theorem p_nck : pvf H .nck [.ptr c o] = some (.ptr c o) := rfl
theorem p_fad : pvf H (.fad k) [.ptr c o] = some (.ptr c (o + k)) := rfl
theorem p_ld : pvf H (.ld none) [.ptr c o] = c[o]? := rfl
theorem p_lds {m : Nat} : pvf H (.ld (some m)) [.ptr c o] = if o + m ≤ c.length then some (.agg ((c.drop o).take m)) else none := rfl
theorem p_len {m : Nat} : pvf H .len [.sl c m] = some (int m) := rfl
theorem p_leni : pvf H .len [islice l] = some (int l.length) := rfl
theorem p_len0 : pvf H .len [.nil] = some (int 0) := rfl
theorem p_iad {m : Nat} : pvf H (.iad k) [.sl c m, int i] = if 0 ≤ i ∧ i < m then some (.ptr c (i.toNat * k)) else none := rfl
theorem p_iadi : pvf H (.iad 1) [islice l, int i] = if 0 ≤ i ∧ i < l.length then some (.ptr (ints l) i.toNat) else none := by simp [pvf, pIad, islice, int]
theorem ints_get : (ints l)[o]? = if o < l.length then some (int (l.getD o 0)) else none := by
  simp only [ints, List.getElem?_map]
  by_cases h : o < l.length
  · simp [h]
  · simp [h]
theorem rows_get {m : List (List Int)} : (rows m)[o]? = if o < m.length then some (islice (m.getD o [])) else none := by
  simp only [rows, List.getElem?_map]
  by_cases h : o < m.length
  · simp [h]
  · simp [h]
theorem p_add : pvf H (.bin .add) [int a, int b] = some (int (IntKind.i64.wrap (a + b))) := rfl
theorem p_sub : pvf H (.bin .sub) [int a, int b] = some (int (IntKind.i64.wrap (a - b))) := rfl
theorem p_mul : pvf H (.bin .mul) [int a, int b] = some (int (IntKind.i64.wrap (a * b))) := rfl
theorem p_eql : pvf H (.bin .eql) [int a, int b] = some (bool (a == b)) := rfl
theorem p_neq : pvf H (.bin .neq) [int a, int b] = some (bool (a != b)) := rfl
theorem p_lss : pvf H (.bin .lss) [int a, int b] = some (bool (decide (a < b))) := rfl
theorem p_leq : pvf H (.bin .leq) [int a, int b] = some (bool (decide (a ≤ b))) := rfl
theorem p_gtr : pvf H (.bin .gtr) [int a, int b] = some (bool (decide (a > b))) := rfl
theorem p_geq : pvf H (.bin .geq) [int a, int b] = some (bool (decide (a ≥ b))) := rfl
theorem p_not {t : Bool} : pvf H .bnot [bool t] = some (bool (!t)) := rfl
theorem p_msl0 {z : List AV} {p : List (Nat × Nat)} : pvf H (.msl 0 z p) [] = some .nil := rfl
theorem p_msl1 : pvf H (.msl 1 [int 0] [(0, 1)]) [int a] = some (islice [a]) := rfl
theorem p_ext {t : List AV} : pvf H (.ext k) [.tup t] = t[k]? := rfl
theorem p_pick {t : Bool} {x y : AV} : pvf H .pick [bool t, x, y] = some (if t then x else y) := rfl
end pv

theorem wrap_id {x : Int} (h1 : -9223372036854775808 ≤ x) (h2 : x ≤ 9223372036854775807) : IntKind.i64.wrap x = x := by
  simp only [IntKind.wrap, IntKind.bits, IntKind.signed]
  simp
  omega

theorem ev_t (e : Nat → AV) (k : Nat) : ev e (.t k) = e k := rfl
theorem ev_c (e : Nat → AV) (a : AV) : ev e (.c a) = a := rfl
theorem ev_f (e : Nat → AV) (k : Nat) : ev e (.f k) = .fn k [] := rfl
theorem put_eq (e : Nat → AV) (k : Nat) (u : AV) : put e k u k = u := by simp [put]
theorem put_ne (e : Nat → AV) (k j : Nat) (u : AV) (h : (j = k) = False) : put e k u j = e j := by simp only [put]; rw [if_neg (of_eq_false h)]
theorem env0_def (l : List AV) (t : Nat) : env0 l t = l.getD t (.v undef) := rfl
theorem fnOf_fn (k : Nat) (c : List AV) : fnOf (.fn k c) = some (k, c) := rfl

/-- What comes out of a function that makes nothing. -/
def Is1 (r0 : AV) (H : Hp) (nx : Nat) (r : AV) (H' : Hp) (nx' : Nat) : Prop := r = r0 ∧ H' = H ∧ nx ≤ nx'
/-- A slice of integers of the call's own. -/
def IsI (l : List Int) (H : Hp) (nx : Nat) (r : AV) (H' : Hp) (nx' : Nat) : Prop :=
  nx ≤ nx' ∧ ((l = [] ∧ r = .nil ∧ H' = H) ∨ ∃ o, nx ≤ o ∧ o < nx' ∧ r = .ms o 0 l.length 1 ∧ H' = hput H o (some (ints l)))

theorem OkM.fz {P : Program} {ν : Nat → FuncId} {f : Nat} {ys : List AV} {u : AV} {Ψ : Hp → Nat → AV → Hp → Nat → Prop} (h : ∀ H nx, OkM P ν f ys H nx (Ψ H nx)) (hu : ∀ r H' nx', Ψ hempty 0 r H' nx' → frzN H' fuel r = some u) : Fz (OkM P ν) f ys u :=
  (h hempty 0).mono hu

theorem frzN_int (H : Hp) (k : Nat) (n : Int) : frzN H k (int n) = some (int n) := by cases k <;> rfl
theorem frzN_bool (H : Hp) (k : Nat) (b : Bool) : frzN H k (bool b) = some (bool b) := by cases k <;> rfl
theorem frzN_ints (H : Hp) (k : Nat) (l : List Int) : (ints l).mapM (frzN H k) = some (ints l) := by
  induction l with
  | nil => rfl
  | cons a l ih => simp only [ints, List.map_cons, List.mapM_cons, frzN_int] at ih ⊢; simp [ih]
theorem IsI.frz {l : List Int} {H : Hp} {nx : Nat} {r : AV} {H' : Hp} {nx' : Nat} (h : IsI l H nx r H' nx') (k : Nat) : frzN H' (k + 1) r = some (islice l) := by
  obtain ⟨_, ⟨rfl, rfl, rfl⟩ | ⟨o, _, _, rfl, rfl⟩⟩ := h
  · rfl
  · simp only [frzN, hput, if_true, Nat.zero_add, Nat.mul_one]
    rw [frzN_ints]
    simp [islice, ints]
theorem Is1.int {n : Int} {H : Hp} {nx : Nat} {r : AV} {H' : Hp} {nx' : Nat} (h : Is1 (int n) H nx r H' nx') : frzN H' fuel r = some (Av.int n) := by rw [h.1]; rfl
theorem Is1.bool {n : Bool} {H : Hp} {nx : Nat} {r : AV} {H' : Hp} {nx' : Nat} (h : Is1 (bool n) H nx r H' nx') : frzN H' fuel r = some (Av.bool n) := by rw [h.1]; rfl

theorem hput_hput (H : Hp) (o : Nat) (a b : Option (List AV)) : hput (hput H o a) o b = hput H o b := by funext t; simp only [hput]; split <;> rfl
theorem ints_append (l m : List Int) : ints l ++ ints m = ints (l ++ m) := by simp [ints]
theorem ints_length (l : List Int) : (ints l).length = l.length := by simp [ints]
theorem ints_one (l : List Int) : (ints l).all AV.one = true := by simp [ints, AV.one, int, Value.oneCell']

section
variable {C : Ct} {Φ : AV → Hp → Nat → Prop} {n : Nat} {vars : Nat → AV} {H : Hp} {nx : Nat} {Is : Nat → Inv} {r : Vc}
/-- An append of integers to a slice of the call's own. -/
theorem den_appI {x y : Opd} {l m : List Int} {H0 : Hp} {nx0 : Nat} (h : IsI l H0 nx0 (ev vars x) H nx) (hy : ev vars y = islice m) (hm : m ≠ []) (hlen : l.length + m.length ≤ 1099511627776)
    (hk : ∀ v H' nx', IsI (l ++ m) H0 nx0 v H' nx' → den C Φ r (n + 1) (put vars n v) H' nx' Is) : den C Φ (.op true (.app 1 x y) r) n vars H nx Is := by
  have hml : m.length ≠ 0 := fun e => hm (List.eq_nil_of_length_eq_zero e)
  have hc : appCells H 1 (ev vars y) = some (ints m, m.length) := by rw [hy]; simp [appCells, islice, ints_length]
  obtain ⟨h0, ⟨rfl, h2, rfl⟩ | ⟨o, g1, g2, h2, rfl⟩⟩ := h
  · have hlen' : m.length ≤ 1099511627776 := by simpa using hlen
    refine den_app (q := (.ms nx 0 m.length 1, hput H nx (some (ints m)), nx + 1)) hc (ints_one m) ?_ ?_
    · rw [h2]
      simp only [appTo, hml, if_false, appMax, hlen', if_true]
    · exact hk _ _ _ ⟨Nat.le_succ_of_le h0, .inr ⟨nx, h0, Nat.lt_succ_self _, by simp, by simp⟩⟩
  · refine den_app (q := (.ms o 0 (l.length + m.length) 1, hput H0 o (some (ints (l ++ m))), nx)) hc (ints_one m) ?_ (hk _ _ _ ⟨h0, .inr ⟨o, g1, g2, by simp, rfl⟩⟩)
    rw [h2]
    simp only [appTo, hput, if_true, Nat.mul_one, appMax, ints_length]
    rw [if_pos ⟨trivial, by simpa using hlen⟩]
    simp only [Option.some.injEq, Prod.mk.injEq, true_and, and_true, ints_append]
    exact hput_hput _ _ _ _
end

/-- A function that makes nothing: the result alone counts. -/
def Fn (P : Program) (ν : Nat → FuncId) (id : Nat) (args : List AV) (r : AV) : Prop := ∀ H nx, OkM P ν id args H nx (Is1 r H nx)
theorem Fn.fz {P : Program} {ν : Nat → FuncId} {id : Nat} {args : List AV} {r : AV} (h : Fn P ν id args r) (hr : ∀ H, frzN H fuel r = some r) : Fz (OkM P ν) id args r := OkM.fz h fun r' H' nx' hh => by rw [hh.1]; exact hr H'
theorem Fn.fzi {P : Program} {ν : Nat → FuncId} {id : Nat} {args : List AV} {n : Int} (h : Fn P ν id args (int n)) : Fz (OkM P ν) id args (int n) := h.fz fun _ => rfl
theorem Fn.fzb {P : Program} {ν : Nat → FuncId} {id : Nat} {args : List AV} {b : Bool} (h : Fn P ν id args (bool b)) : Fz (OkM P ν) id args (bool b) := h.fz fun _ => rfl
theorem Fn.fz4 {P : Program} {ν : Nat → FuncId} {id : Nat} {args : List AV} {a b c d : Int} (h : Fn P ν id args (.tup [int a, int b, int c, int d])) : Fz (OkM P ν) id args (.tup [int a, int b, int c, int d]) := h.fz fun _ => rfl

theorem ret_false {p : Prop} [Decidable p] (h : ¬ p) : bool false = bool (decide p) := by rw [decide_eq_false h]
theorem ret_true {p : Prop} [Decidable p] (h : p) : bool true = bool (decide p) := by rw [decide_eq_true h]

section frz
variable {H : Hp} {k : Nat} {l : List AV}
theorem frzL_nil : frzL H [] = some [] := rfl
theorem frz_int {n : Int} : frz H k (int n) = some (int n) := by cases k <;> rfl
theorem frz_bool {n : Bool} : frz H k (bool n) = some (bool n) := by cases k <;> rfl
theorem frz_sl {c : List AV} {n : Nat} : frz H k (.sl c n) = some (.sl c n) := by cases k <;> rfl
theorem frz_islice {l : List Int} : frz H k (islice l) = some (islice l) := frz_sl
theorem frz_ptr {c : List AV} {n : Nat} : frz H k (.ptr c n) = some (.ptr c n) := by cases k <;> rfl
theorem frz_nil : frz H k .nil = some (islice []) := by cases k <;> rfl
theorem frzL_int {n : Int} : frzL H (int n :: l) = (frzL H l).map (int n :: ·) := by simp only [frzL, List.mapM_cons, frz_int]; cases List.mapM (frz H fuel) l <;> rfl
theorem frzL_bool {n : Bool} : frzL H (bool n :: l) = (frzL H l).map (bool n :: ·) := by simp only [frzL, List.mapM_cons, frz_bool]; cases List.mapM (frz H fuel) l <;> rfl
theorem frzL_sl {c : List AV} {n : Nat} : frzL H (.sl c n :: l) = (frzL H l).map (.sl c n :: ·) := by simp only [frzL, List.mapM_cons, frz_sl]; cases List.mapM (frz H fuel) l <;> rfl
theorem frzL_islice {c : List Int} : frzL H (islice c :: l) = (frzL H l).map (islice c :: ·) := frzL_sl
theorem frzL_ptr {c : List AV} {n : Nat} : frzL H (.ptr c n :: l) = (frzL H l).map (.ptr c n :: ·) := by simp only [frzL, List.mapM_cons, frz_ptr]; cases List.mapM (frz H fuel) l <;> rfl
theorem frzL_nilv : frzL H (.nil :: l) = (frzL H l).map (islice [] :: ·) := by simp only [frzL, List.mapM_cons, frz_nil]; cases List.mapM (frz H fuel) l <;> rfl
/-- Cells that are no objects stay as they are. -/
def AV.still : AV → Bool
  | .v _ | .sl .. | .ptr .. => true
  | _ => false
theorem frz_still {a : AV} (h : a.still = true) : frz H k a = some a := by cases a <;> first | (cases k <;> rfl) | (simp [AV.still] at h)
theorem frz_stills {c : List AV} (h : c.all AV.still = true) : c.mapM (frz H k) = some c := by
  induction c with
  | nil => rfl
  | cons a c ih => simp only [List.all_cons, Bool.and_eq_true] at h; simp only [List.mapM_cons, frz_still h.1, ih h.2]; rfl
theorem frzL_agg {c : List AV} (h : c.all AV.still = true) : frzL H (.agg c :: l) = (frzL H l).map (.agg c :: ·) := by
  have : frz H fuel (.agg c) = some (.agg c) := by simp only [fuel, frz, frz_stills h, Option.map_some]
  simp only [frzL, List.mapM_cons, this]; cases List.mapM (frz H fuel) l <;> rfl
theorem p_box {c : List AV} (h : c.all AV.still = true) (h1 : c.all AV.one = true) : pvf H .box [.agg c] = some (.ptr c 0) := by
  simp only [pvf, pBox, AV.cells, frzL, frz_stills h, h1, if_true]
theorem p_lda {c : List AV} {n : Nat} (h : c.length = n) : pvf H (.ld (some n)) [.ptr c 0] = some (.agg c) := by
  simp [pvf, pLd, ← h]
theorem p_mka2 {a b : Int} : pvf H (.mka [int 0, int 0] [(0, 1), (1, 1)]) [int a, int b] = some (.agg [int a, int b]) := rfl
theorem p_eqs2 {a b c d : Int} : pvf H (.eqs true 2) [.agg [int a, int b], .agg [int c, int d]] = some (bool (!(a == c && b == d))) := by
  simp [pvf, pEqs, avI, int, bool]
theorem p_eqs2' {a b c d : Int} : pvf H (.eqs false 2) [.agg [int a, int b], .agg [int c, int d]] = some (bool (a == c && b == d)) := by
  simp [pvf, pEqs, avI, int, bool]
end frz

section loops
variable {C : Ct} {Φ : AV → Hp → Nat → Prop} {n : Nat} {vars : Nat → AV} {H : Hp} {nx : Nat} {Is : Nat → Inv} {body : Vc} {d : Nat}
/-- A loop that counts and writes nothing. -/
def Up (N : Nat) (p : Nat → Prop) (H : Hp) (nx i : Nat) : Inv := fun us H' nx' => ∃ j : Nat, us = [int j] ∧ (j ≤ N ∧ p j ∧ H' = H ∧ nx' = nx) ∧ N - j < N - i
theorem den_for (N : Nat) (p : Nat → Prop) (h0 : p 0) (hr : ∀ i : Nat, i ≤ N → p i → den C Φ body (n + 1) (put vars n (int i)) H nx (iput Is d (Up N p H nx i))) : den C Φ (.loop d [.c (int 0)] body) n vars H nx Is :=
  den_loop (α := Nat) (fun i => [int i]) (fun i H' nx' => i ≤ N ∧ p i ∧ H' = H ∧ nx' = nx) (fun i => N - i) 0 rfl ⟨Nat.zero_le _, h0, rfl, rfl⟩ fun i H' nx' ⟨h1, h2, h3, h4⟩ => by
    subst h3; subst h4
    exact hr i h1 h2
theorem up {N : Nat} {p : Nat → Prop} {i : Nat} {a : Int} (ha : a = ((i + 1 : Nat) : Int)) (hi : i < N) (hp : p (i + 1)) : Up N p H nx i [int a] H nx := ⟨i + 1, by rw [ha], ⟨hi, hp, rfl, rfl⟩, by omega⟩
end loops
theorem wrap_succ {i : Nat} (h : i < 9223372036854775807) : IntKind.i64.wrap ((i : Int) + 1) = ((i + 1 : Nat) : Int) := by rw [wrap_id (by omega) (by omega)]; rfl

theorem findSome_at {β : Type} {p : Nat → Option β} {r : β} {n i : Nat} (hi : i < n) (hp : p i = some r) (hlt : ∀ j, j < i → p j = none) : (List.range n).findSome? p = some r := by
  induction n with
  | zero => omega
  | succ n ih =>
    rw [List.range_succ, List.findSome?_append]
    by_cases e : i < n
    · rw [ih e]; rfl
    · have : i = n := by omega
      subst this
      have : (List.range i).findSome? p = none := by rw [List.findSome?_eq_none_iff]; intro x hx; exact hlt x (by simpa using hx)
      rw [this]
      simp [hp]
theorem findSome_none {β : Type} {p : Nat → Option β} {n : Nat} (h : ∀ j, j < n → p j = none) : (List.range n).findSome? p = none := by
  rw [List.findSome?_eq_none_iff]; intro x hx; exact h x (by simpa using hx)
end Go.Av

/-
  The lists of rules for the second form.
-/
namespace Go.Av
set_option linter.unusedSectionVars false
set_option linter.unusedSimpArgs false
set_option linter.unusedVariables false
variable [md : Md]
theorem SS :
    type_of% @den_p ∧
    type_of% @denS_some ∧
    type_of% @denS_ite ∧
    type_of% @den_br ∧
    type_of% @denB_bool ∧
    type_of% @den_again ∧
    type_of% @ev_t ∧
    type_of% @ev_c ∧
    type_of% @ev_f ∧
    type_of% @env0_def ∧
    type_of% @put_eq ∧
    type_of% @put_ne ∧
    type_of% @List.map_cons.{0,0} ∧
    type_of% @List.map_nil.{0,0} ∧
    type_of% @List.getD_cons_zero.{0} ∧
    type_of% @List.getD_cons_succ.{0} ∧
    type_of% @List.getElem?_cons_zero.{0} ∧
    type_of% @List.getElem?_cons_succ.{0} ∧
    type_of% @p_nck ∧
    type_of% @p_fad ∧
    type_of% @p_ld ∧
    type_of% @p_len ∧
    type_of% @p_leni ∧
    type_of% @p_len0 ∧
    type_of% @p_iad ∧
    type_of% @p_iadi ∧
    type_of% @p_add ∧
    type_of% @p_sub ∧
    type_of% @p_mul ∧
    type_of% @p_eql ∧
    type_of% @p_neq ∧
    type_of% @p_lss ∧
    type_of% @p_leq ∧
    type_of% @p_gtr ∧
    type_of% @p_geq ∧
    type_of% @p_not ∧
    type_of% @p_msl0 ∧
    type_of% @p_msl1 ∧
    type_of% @p_ext ∧
    type_of% @p_pick ∧
    type_of% @p_mka2 ∧
    type_of% @p_eqs2 ∧
    type_of% @p_eqs2' ∧
    type_of% @ints_get ∧
    type_of% @rows_get ∧
    type_of% @Nat.zero_add ∧
    type_of% @Nat.mul_one ∧
    type_of% @if_true.{1} ∧
    type_of% @List.length_cons.{0} ∧
    type_of% @List.length_nil.{0} ∧
    type_of% @decide_eq_true_eq ∧
    type_of% @decide_eq_false_iff_not ∧
    type_of% @Int.natCast_nonneg ∧
    type_of% @Int.ofNat_lt ∧
    type_of% @Int.ofNat_le ∧
    type_of% @Int.toNat_natCast ∧
    type_of% @true_and ∧
    type_of% @and_true ∧
    type_of% @Bool.not_eq_true' ∧
    type_of% @Bool.not_eq_false' ∧
    type_of% @Bool.false_eq_true ∧
    type_of% @Bool.true_eq_false ∧
    type_of% @false_implies ∧
    type_of% @true_implies ∧
    type_of% @implies_true.{0} ∧
    type_of% @if_false.{1} ∧
    type_of% @bne_iff_ne.{0} ∧
    type_of% @ne_eq.{1} ∧
    type_of% @bne_eq_false_iff_eq.{0} ∧
    type_of% @beq_iff_eq.{0} ∧
    type_of% @beq_eq_false_iff_ne.{0} ∧
    type_of% @Bool.and_eq_true ∧
    type_of% @Bool.or_eq_true ∧
    type_of% @Bool.not_true ∧
    type_of% @Bool.not_false ∧
    type_of% @eq_self.{1} ∧
    type_of% @not_true_eq_false ∧
    type_of% @not_false_eq_true := ⟨@den_p, @denS_some, @denS_ite, @den_br, @denB_bool, @den_again, @ev_t, @ev_c, @ev_f, @env0_def, @put_eq, @put_ne, @List.map_cons, @List.map_nil, @List.getD_cons_zero, @List.getD_cons_succ, @List.getElem?_cons_zero, @List.getElem?_cons_succ, @p_nck, @p_fad, @p_ld, @p_len, @p_leni, @p_len0, @p_iad, @p_iadi, @p_add, @p_sub, @p_mul, @p_eql, @p_neq, @p_lss, @p_leq, @p_gtr, @p_geq, @p_not, @p_msl0, @p_msl1, @p_ext, @p_pick, @p_mka2, @p_eqs2, @p_eqs2', @ints_get, @rows_get, @Nat.zero_add, @Nat.mul_one, @if_true, @List.length_cons, @List.length_nil, @decide_eq_true_eq, @decide_eq_false_iff_not, @Int.natCast_nonneg, @Int.ofNat_lt, @Int.ofNat_le, @Int.toNat_natCast, @true_and, @and_true, @Bool.not_eq_true', @Bool.not_eq_false', @Bool.false_eq_true, @Bool.true_eq_false, @false_implies, @true_implies, @implies_true, @if_false, @bne_iff_ne, @ne_eq, @bne_eq_false_iff_eq, @beq_iff_eq, @beq_eq_false_iff_ne, @Bool.and_eq_true, @Bool.or_eq_true, @Bool.not_true, @Bool.not_false, @eq_self, @not_true_eq_false, @not_false_eq_true⟩
theorem FF :
    type_of% @frzL_nil ∧
    type_of% @frzL_int ∧
    type_of% @frzL_bool ∧
    type_of% @frzL_sl ∧
    type_of% @frzL_islice ∧
    type_of% @frzL_ptr ∧
    type_of% @frzL_nilv ∧
    type_of% @Option.map_some.{0,0} ∧
    type_of% @List.append_nil.{0} ∧
    type_of% @List.cons_append.{0} ∧
    type_of% @List.nil_append.{0} := ⟨@frzL_nil, @frzL_int, @frzL_bool, @frzL_sl, @frzL_islice, @frzL_ptr, @frzL_nilv, @Option.map_some, @List.append_nil, @List.cons_append, @List.nil_append⟩
end Go.Av

/-
  A pointer into a struct, read as a pointer to a part of it.
-/
namespace Go.Av
set_option linter.unusedSectionVars false
set_option linter.unusedSimpArgs false
set_option linter.unusedVariables false
variable [md : Md]
theorem RepP.win {ν : Nat → FuncId} {w : World} {S : Nat → Prop} {cells : List AV} {off : Nat} {v : Value} (h : RepP ν w S (.ptr cells off) v) (n : Nat) : RepP ν w S (.ptr ((cells.drop off).take n) 0) v := by
  cases h with
  | ptr us hS hc hr =>
    rename_i b base
    have := RepP.ptr (ν := ν) (w := w) (S := S) (cells := (cells.drop off).take n) (off := 0) (b := b) (base := base + off) (fun i => us (off + i)) hS (fun i hi => by
      have hi' : off + i < cells.length := by simp at hi; omega
      have := hc (off + i) hi'
      rwa [← Nat.add_assoc] at this) (fun i hi => by
      have hi' : off + i < cells.length := by simp at hi; omega
      have := hr (off + i) hi'
      simpa using this)
    simpa using this
/-- The same function over the struct's part. -/
theorem OkM.win {P : Program} {ν : Nat → FuncId} {f : Nat} {cells : List AV} {off n : Nat} {rest : List AV} {H : Hp} {nx : Nat} {Φ : AV → Hp → Nat → Prop} (h : OkM P ν f (.ptr ((cells.drop off).take n) 0 :: rest) H nx Φ) : OkM P ν f (.ptr cells off :: rest) H nx Φ := by
  refine ⟨h.1, fun w0 S β w vs h1 h2 h3 h4 => h.2 w0 S β w vs h1 h2 (by simpa using h3) fun i hi => ?_⟩
  cases i with
  | zero =>
    have := h4 0 (by simp)
    simp only [List.getElem_cons_zero] at this ⊢
    cases this with
    | pure h => exact .pure (h.win n)
  | succ i =>
    have := h4 (i + 1) (by simpa using hi)
    simpa using this
theorem Fz.win {P : Program} {ν : Nat → FuncId} {f : Nat} {cells : List AV} {off n : Nat} {rest : List AV} {r : AV} (h : Fz (OkM P ν) f (.ptr ((cells.drop off).take n) 0 :: rest) r) : Fz (OkM P ν) f (.ptr cells off :: rest) r := OkM.win h
end Go.Av
