/-
  Regions, code and functions of the model against the compact code.
-/
import Derived.Test.YtbgaobcgpkjjkaaAvReg
namespace Go.Av
open Go.RowKit (Below)

section
variable {ν : Nat → FuncId} {w0 : World} {S : Nat → Prop} {X0 : Cx} {T : Tr} {Q : Exit → Act → World → Prop}

theorem oper_sound (hν : ∀ f id, T.num f = some id → ν id = f) {ops : Array Oper} {hf : Bool} {o : Oper} {ao : Aop} (hop : T.oper ops hf o = some ao) {s : St} {a : Act} {w : World} {β : Nat → Nat} (h : Sim ν T.nt w0 S X0 s a w β) {K : St → Prop} (hs : opK (OkM T.P ν) ao s K)
    {Kw : Act → World → Prop} (hKw : ∀ s' a' w' β', K s' → Sim ν T.nt w0 S X0 s' a' w' β' → Kw a' w') :
    if Region.wanted o (yielded ops a.tmps) then (o.wp T.P a w Kw Q ∨ (o.asks T.P a w ∧ LetsOut Q)) else Kw (a.put o.dst undef) w := by
  unfold Tr.oper at hop
  split at hop
  · rename_i k g hk hg
    by_cases hdst : Tr.dstB T.nt o.dst = true
    · rw [if_pos hdst] at hop
      cases hop
      have hd : ∀ k, o.dst = some k → k < T.nt := fun k hk => by rw [hk] at hdst; simpa [Tr.dstB] using hdst
      have yes : stepK (OkM T.P ν) ⟨o.dst, g, k, hf⟩ s K → o.wp T.P a w Kw Q := fun hst => by
        have hgo := kind_sound hν h hd hk hst Q
        exact Oper.wp_mono (fun a' w' ⟨s', β', hK, hS⟩ => hKw s' a' w' β' hK hS) hgo
      have no : K (s.put o.dst (.v undef)) → Kw (a.put o.dst undef) w := fun hK => hKw _ _ _ β hK (h.put (.pure (.v _)) hd)
      rw [opK_gst] at hs
      unfold Tr.guard at hg
      cases hgu : o.guard with
      | none =>
        rw [hgu] at hg
        cases hg
        simp only [gst] at hs
        simp only [Region.wanted, hgu, if_true]
        exact .inl (yes hs)
      | some gw =>
        obtain ⟨j, want⟩ := gw
        simp only [hgu] at hg
        cases hj : (ops[j]?).bind (·.dst) with
        | none => simp [hj] at hg
        | some d =>
          simp only [hj] at hg
          split at hg
          · rename_i hdn
            cases hg
            have hsz : d < a.tmps.size := by rw [h.size]; exact hdn
            have henv := h.env d
            have hyd : yielded ops a.tmps j = match a.tmps.getD d undef with | .bool b => some b | _ => none := by
              have e1 : a.tmps[d]? = some (a.tmps.getD d undef) := by simp [hsz]
              simp only [yielded, hj, Option.bind_some, e1]
              cases a.tmps.getD d undef <;> rfl
            simp only [gst] at hs
            simp only [Region.wanted, hgu, hyd]
            split at hs
            · rename_i hgt
              split at hgt
              · rename_i b hb
                rw [hb] at henv
                rw [henv.inv_v]
                have : b = want := by simpa using hgt
                subst this
                simp only [BEq.rfl, if_true]
                exact .inl (yes hs)
              · cases hgt
              · cases hgt
            · rename_i hgt
              split at hgt
              · rename_i b hb
                rw [hb] at henv
                rw [henv.inv_v]
                have hne : (some b == some want) = false := by simpa using hgt
                rw [hne]
                simp only [Bool.false_eq_true, if_false]
                exact no hs
              · rename_i x hnb hb
                rw [hb] at henv
                rw [henv.inv_v]
                cases x with
                | bool b => exact absurd rfl (hnb b)
                | _ => simp only [show ((none : Option Bool) == some want) = false from rfl, Bool.false_eq_true, if_false]; exact no hs
              · cases hgt
            · exact hs.elim
          · cases hg
    · rw [if_neg hdst] at hop; cases hop
  · cases hop

/-- A region in the text's order. -/
theorem list_sound (hν : ∀ f id, T.num f = some id → ν id = f) {ops : Array Oper} {K : St → Prop} (hQ : ∀ s' a' w' β', K s' → Sim ν T.nt w0 S X0 s' a' w' β' → Q .normal a' w') :
    ∀ (L : List Oper) (l : List Aop), L.mapM (T.oper ops true) = some l → ∀ (s : St) (a : Act) (w : World) (β : Nat → Nat), Sim ν T.nt w0 S X0 s a w β → opsK (OkM T.P ν) l s K → wpList T.P ops Q L a w := by
  intro L
  induction L with
  | nil => intro l hl s a w β h hs; simp at hl; subst hl; exact hQ _ _ _ _ hs h
  | cons o L ih =>
    intro l hl s a w β h hs
    simp only [List.mapM_cons, Option.pure_def, Option.bind_eq_bind] at hl
    obtain ⟨ao, hao, hl⟩ := bind_some hl
    obtain ⟨l', hl', hl⟩ := bind_some hl
    cases hl
    unfold wpList
    exact oper_sound (Kw := wpList T.P ops Q L) hν hao h hs (fun s' a' w' β' hK hS => ih l' hl' s' a' w' β' hS hK)

def rem (listed : Array Bool) : Nat → List Aop → List Aop
  | _, [] => []
  | i, x :: r => if listed.getD i true then rem listed (i + 1) r else x :: rem listed (i + 1) r

theorem rem_congr {L L' : Array Bool} : ∀ (l : List Aop) (k : Nat), (∀ j, k ≤ j → L.getD j true = L'.getD j true) → rem L k l = rem L' k l := by
  intro l
  induction l with
  | nil => intro k _; rfl
  | cons x r ih => intro k h; simp only [rem]; rw [h k (Nat.le_refl _), ih (k + 1) fun j hj => h j (by omega)]

theorem rem_split {L : Array Bool} {i : Nat} (hi : i < L.size) (hu : L.getD i true = false) : ∀ (l : List Aop) (k : Nat) (y : Aop), k ≤ i → l[i - k]? = some y →
    ∃ xs zs, rem L k l = xs ++ y :: zs ∧ rem (L.setIfInBounds i true) k l = xs ++ zs ∧ ∀ x ∈ xs, ∃ j, k ≤ j ∧ j < i ∧ L.getD j true = false ∧ l[j - k]? = some x := by
  intro l
  induction l with
  | nil => intro k y _ h; simp at h
  | cons x r ih =>
    intro k y hk hy
    by_cases e : k = i
    · subst e
      simp only [Nat.sub_self, List.getElem?_cons_zero, Option.some.injEq] at hy
      subst hy
      refine ⟨[], rem L (k + 1) r, by simp only [rem, hu, Bool.false_eq_true, if_false, List.nil_append], ?_, by simp⟩
      simp only [rem, List.nil_append]
      rw [if_pos (by simp [hi])]
      exact rem_congr r (k + 1) fun j hj => by rw [getD_set_ne true (by omega)]
    · have hlt : k < i := by omega
      have hy' : r[i - (k + 1)]? = some y := by
        have : i - k = (i - (k + 1)) + 1 := by omega
        rw [this] at hy
        simpa using hy
      obtain ⟨xs, zs, h1, h2, h3⟩ := ih (k + 1) y (by omega) hy'
      have up : ∀ x' ∈ xs, ∃ j, k ≤ j ∧ j < i ∧ L.getD j true = false ∧ (x :: r)[j - k]? = some x' := by
        intro x' hx'
        obtain ⟨j, a1, a2, a3, a4⟩ := h3 x' hx'
        refine ⟨j, by omega, a2, a3, ?_⟩
        have : j - k = (j - (k + 1)) + 1 := by omega
        rw [this]
        simpa using a4
      simp only [rem]
      rw [getD_set_ne true (Ne.symm e)]
      cases hl : L.getD k true
      · refine ⟨x :: xs, zs, by simp [h1], by simp [h2], ?_⟩
        intro x' hx'
        rcases List.mem_cons.1 hx' with rfl | hx'
        · exact ⟨k, Nat.le_refl _, hlt, hl, by simp⟩
        · exact up x' hx'
      · exact ⟨xs, zs, by simp [h1], by simp [h2], up⟩

theorem rem_nil {L : Array Bool} : ∀ (l : List Aop) (k : Nat), (∀ j, k ≤ j → j < k + l.length → L.getD j true = true) → rem L k l = [] := by
  intro l
  induction l with
  | nil => intro k _; rfl
  | cons x r ih =>
    intro k h
    simp only [rem]
    rw [if_pos (h k (Nat.le_refl _) (by simp))]
    exact ih (k + 1) fun j h1 h2 => h j (by omega) (by simp; omega)

theorem fold_bits (acc : List Nat) (i : Nat) : ∀ (l : List Edge) (m : Nat), (l.foldl (fun s e => if Region.binds .any e then s ||| (1 <<< e.on) ||| acc.getD e.on 0 else s) m).testBit i = true →
    m.testBit i = true ∨ ∃ e ∈ l, Region.binds .any e = true ∧ (e.on = i ∨ (acc.getD e.on 0).testBit i = true) := by
  intro l
  induction l with
  | nil => intro m h; exact .inl h
  | cons e l ih =>
    intro m h
    rcases ih _ h with h | ⟨e', h1, h2⟩
    · simp only at h
      by_cases hb : Region.binds .any e = true
      · rw [if_pos hb] at h
        simp only [Nat.testBit_or, Bool.or_eq_true] at h
        rcases h with (h | h) | h
        · exact .inl h
        · refine .inr ⟨e, List.mem_cons_self .., hb, .inl ?_⟩
          rw [Nat.one_shiftLeft, Nat.testBit_two_pow] at h
          simpa using h
        · exact .inr ⟨e, List.mem_cons_self .., hb, .inr h⟩
      · rw [if_neg hb] at h; exact .inl h
    · exact .inr ⟨e', List.mem_cons_of_mem _ h1, h2⟩

theorem clo_keep : ∀ (L : List Oper) (acc : List Nat) (j : Nat), j < acc.length → (Tr.clo L acc).getD j 0 = acc.getD j 0 := by
  intro L
  induction L with
  | nil => intro acc j _; rfl
  | cons o L ih =>
    intro acc j hj
    simp only [Tr.clo]
    rw [ih _ j (by simp; omega)]
    simp [List.getElem?_append_left hj]

theorem clo_spec : ∀ (L : List Oper) (acc : List Nat) (j i : Nat), acc.length ≤ j → ((Tr.clo L acc).getD j 0).testBit i = true →
    ∃ o e, L[j - acc.length]? = some o ∧ e ∈ o.after.toList ∧ Region.binds .any e = true ∧ (e.on = i ∨ (e.on < j ∧ ((Tr.clo L acc).getD e.on 0).testBit i = true)) := by
  intro L
  induction L with
  | nil => intro acc j i hj h; simp [Tr.clo, List.getElem?_eq_none hj] at h
  | cons o L ih =>
    intro acc j i hj h
    simp only [Tr.clo] at h ⊢
    by_cases e : j = acc.length
    · subst e
      rw [clo_keep _ _ _ (by simp)] at h
      simp only [List.getD_eq_getElem?_getD, List.getElem?_concat_length, Option.getD_some] at h
      simp only [← List.getD_eq_getElem?_getD] at h
      rcases fold_bits acc i _ _ h with h | ⟨e, h1, h2, h3⟩
      · simp at h
      · refine ⟨o, e, by simp, h1, h2, ?_⟩
        rcases h3 with h3 | h3
        · exact .inl h3
        · by_cases hlt : e.on < acc.length
          · refine .inr ⟨hlt, ?_⟩
            rw [clo_keep _ _ _ (by simp; omega)]
            simpa [List.getElem?_append_left hlt] using h3
          · simp [List.getElem?_eq_none (Nat.le_of_not_lt hlt)] at h3
    · obtain ⟨o', e', h1, h2, h3, h4⟩ := ih _ j i (by simp; omega) h
      refine ⟨o', e', ?_, h2, h3, h4⟩
      have : j - acc.length = (j - (acc.length + 1)) + 1 := by omega
      rw [this]
      simpa using h1

theorem pairs_spec {mask : Nat} {y : Aop} : ∀ (l : List Aop) (k : Nat), Tr.pairsB mask y k l = true → ∀ i x, l[i]? = some x → mask.testBit (k + i) = true ∨ Tr.mayB x y = true := by
  intro l
  induction l with
  | nil => intro k _ i x h; simp at h
  | cons a l ih =>
    intro k h i x hx
    simp only [Tr.pairsB, Bool.and_eq_true, Bool.or_eq_true] at h
    cases i with
    | zero => simp at hx; subst hx; exact h.1
    | succ i =>
      have := ih (k + 1) h.2 i x (by simpa using hx)
      rwa [show k + (i + 1) = k + 1 + i by omega]

theorem reg_spec {cl : List Nat} : ∀ (l : List Aop) (done : List Aop), Tr.regB cl done.length done l = true → ∀ i j x y, i < j → done.length ≤ j → (done ++ l)[i]? = some x → (done ++ l)[j]? = some y → (cl.getD j 0).testBit i = true ∨ Tr.mayB x y = true := by
  intro l
  induction l with
  | nil => intro done _ i j x y _ hj _ hy; simp [List.getElem?_eq_none hj] at hy
  | cons a l ih =>
    intro done h i j x y hij hj hx hy
    simp only [Tr.regB, Bool.and_eq_true] at h
    by_cases e : j = done.length
    · subst e
      have hy' : a = y := by simpa using hy
      subst hy'
      have := pairs_spec done 0 h.1 i x (by rwa [List.getElem?_append_left hij] at hx)
      simpa using this
    · have := ih (done ++ [a]) (by simpa using h.2) i j x y hij (by simp; omega) (by simpa using hx) (by simpa using hy)
      exact this

theorem back_spec : ∀ (L : List Oper) (k : Nat), Tr.backB k L = true → ∀ i o, L[i]? = some o → ∀ e ∈ o.after.toList, Region.binds .any e = true → e.on < k + i := by
  intro L
  induction L with
  | nil => intro k _ i o h; simp at h
  | cons a L ih =>
    intro k h i o ho e he hb
    simp only [Tr.backB, Bool.and_eq_true, List.all_eq_true, Bool.or_eq_true, Bool.not_eq_true', decide_eq_true_eq] at h
    cases i with
    | zero =>
      simp at ho
      subst ho
      rcases h.1 e he with h1 | h1
      · rw [hb] at h1; cases h1
      · exact h1
    | succ i =>
      have := ih (k + 1) h.2 i o (by simpa using ho) e he hb
      omega

theorem zip_spec {cl effs : List Nat} {ops : Array Oper} : ∀ (L : List Oper) (k : Nat) (l : List Aop), T.zipH cl effs ops k L = some l → l.length = L.length ∧ ∀ (i : Nat) (o : Oper), L[i]? = some o → ∃ ao, l[i]? = some ao ∧ ∃ hf, T.oper ops hf o = some ao := by
  intro L
  induction L with
  | nil => intro k l h; simp [Tr.zipH] at h; subst h; exact ⟨rfl, fun i o h => by simp at h⟩
  | cons a L ih =>
    intro k l h
    simp only [Tr.zipH] at h
    split at h
    · rename_i ao l' h1 h2
      cases h
      obtain ⟨g1, g2⟩ := ih _ _ h2
      refine ⟨by simp [g1], fun i o ho => ?_⟩
      cases i with
      | zero => simp at ho; subst ho; exact ⟨ao, rfl, _, h1⟩
      | succ i => exact g2 i o (by simpa using ho)
    · cases h

theorem any_sound (hν : ∀ f id, T.num f = some id → ν id = f) {ops : Array Oper} {l : List Aop} {cl effs : List Nat} (hcl : cl = Tr.clo ops.toList []) (hz : T.zipH cl effs ops 0 ops.toList = some l) (hback : Tr.backB 0 ops.toList = true) (hreg : Tr.regB cl 0 [] l = true)
    {K : St → Prop} (hQ : ∀ s' a' w' β', K s' → Sim ν T.nt w0 S X0 s' a' w' β' → Q .normal a' w') :
    ∀ (fuel : Nat) (listed : Array Bool), listed.size = ops.size → (rem listed 0 l).length ≤ fuel →
      (∀ j o, ops[j]? = some o → listed.getD j true = true → ∀ e ∈ o.after, Region.binds .any e = true → listed.getD e.on false = true) →
      ∀ (s : St) (a : Act) (w : World) (β : Nat → Nat), Sim ν T.nt w0 S X0 s a w β → opsK (OkM T.P ν) (rem listed 0 l) s K → wpAny T.P .any ops Q fuel listed a w := by
  obtain ⟨hlen, hops⟩ := zip_spec _ _ _ hz
  simp only [Array.length_toList] at hlen
  have hdone : ∀ listed : Array Bool, listed.size = ops.size → Region.ready .any ops listed = [] → rem listed 0 l = [] := by
    intro listed hsz hr
    refine rem_nil l 0 fun j _ hj => ?_
    simp only [Nat.zero_add, hlen] at hj
    induction j using Nat.strongRecOn with
    | _ j ih =>
      cases hlj : listed.getD j true with
      | true => rfl
      | false =>
        exfalso
        have hm : j ∈ Region.ready .any ops listed := by
          rw [mem_ready]
          refine ⟨hlj, ops[j], by simp [hj], fun e he hbd => ?_⟩
          have h1 := back_spec _ 0 hback j ops[j] (by simp [hj]) e (by simpa using he) hbd
          simp only [Nat.zero_add] at h1
          have h2 := ih e.on h1 (Nat.zero_le _) (by omega)
          have h3 : e.on < listed.size := by omega
          simpa [h3] using h2
        rw [hr] at hm
        cases hm
  intro fuel
  induction fuel with
  | zero =>
    intro listed hsz hf hcls s a w β h hs
    have hn : rem listed 0 l = [] := List.eq_nil_of_length_eq_zero (by omega)
    refine ⟨?_, ?_⟩
    · cases hr : Region.ready .any ops listed with
      | nil => rfl
      | cons i r =>
        exfalso
        have hm : i ∈ Region.ready .any ops listed := by rw [hr]; exact List.mem_cons_self ..
        rw [mem_ready] at hm
        obtain ⟨h0, o, ho, _⟩ := hm
        have hi : i < ops.size := (Array.getElem?_eq_some_iff.1 ho).1
        obtain ⟨xs, zs, h1, _⟩ := rem_split (L := listed) (i := i) (by omega) h0 l 0 (l[i]'(by omega)) (Nat.zero_le _) (by simp)
        rw [hn] at h1
        simp at h1
    · rw [hn] at hs; exact hQ _ _ _ _ hs h
  | succ fuel ih =>
    intro listed hsz hf hcls s a w β h hs
    refine ⟨fun hr => ?_, fun i hi => ?_⟩
    · rw [hdone listed hsz hr] at hs; exact hQ _ _ _ _ hs h
    · rw [mem_ready] at hi
      obtain ⟨h0, o, ho, hdep⟩ := hi
      have hi : i < ops.size := (Array.getElem?_eq_some_iff.1 ho).1
      obtain ⟨ao, hao, hfl, hoper⟩ := hops i o (by simpa using ho)
      obtain ⟨xs, zs, h1, h2, h3⟩ := rem_split (L := listed) (i := i) (by omega) h0 l 0 ao (Nat.zero_le _) (by simpa using hao)
      have mask : ∀ n j, j < n → (∀ e o', ops[j]? = some o' → e ∈ o'.after → Region.binds .any e = true → listed.getD e.on false = true) → ∀ k, (cl.getD j 0).testBit k = true → listed.getD k false = true := by
        intro n
        induction n with
        | zero => intro j hj; omega
        | succ n ihn =>
          intro j hj hdj k hk
          rw [hcl] at hk
          obtain ⟨o', e, g1, g2, g3, g4⟩ := clo_spec _ _ _ _ (Nat.zero_le _) hk
          simp only [List.length_nil, Nat.sub_zero, Array.getElem?_toList] at g1
          have g5 := hdj e o' g1 (by simpa using g2) g3
          rcases g4 with g4 | ⟨g4, g6⟩
          · subst g4; exact g5
          · refine ihn e.on (by omega) (fun e' o2 ho2 he' hb' => ?_) k (by rw [hcl]; exact g6)
            have hlt : e.on < listed.size := by
              rcases Nat.lt_or_ge e.on listed.size with h' | h'
              · exact h'
              · simp [Array.getElem?_eq_none h'] at g5
            exact hcls e.on o2 ho2 (by simpa [hlt] using g5) e' he' hb'
      have may : ∀ x ∈ xs, Tr.mayB x ao = true := by
        intro x hx
        obtain ⟨j, _, hj, hlj, hxj⟩ := h3 x hx
        rcases reg_spec l [] hreg j i x ao hj (Nat.zero_le _) (by simpa using hxj) (by simpa using hao) with hb | hb
        · have h4 := mask (i + 1) i (by omega) (fun e o' ho' he hb' => by rw [ho] at ho'; cases ho'; exact hdep e he hb') j hb
          have hjl : j < listed.size := by omega
          have h5 : listed.getD j true = true := by simpa [hjl] using h4
          rw [h5] at hlj
          cases hlj
        · exact hb
      rw [h1] at hs
      have hs' := opsK_front may hs
      rw [← h2] at hs'
      unfold wpOp
      simp only [ho]
      refine oper_sound hν hoper h hs' (fun s' a' w' β' hK hS => ih _ (by simp [hsz]) ?_ ?_ s' a' w' β' hS hK)
      · have : (rem listed 0 l).length = (rem (listed.setIfInBounds i true) 0 l).length + 1 := by rw [h1, h2]; simp; omega
        omega
      · intro j o' ho' hlj e he hb
        by_cases e1 : j = i
        · subst e1
          rw [ho] at ho'
          cases ho'
          exact getD_set_true (hdep e he hb)
        · rw [getD_set_ne true (Ne.symm e1)] at hlj
          exact getD_set_true (hcls j o' ho' hlj e he hb)
end
end Go.Av
