/-
  Code and functions of the model against the compact code.
-/
import Derived.Test.YtbgaobcgpkjjkaaAvRun2
namespace Go.Av
open Go.RowKit (Below)

def exitOf : Ex → Exit
  | .normal => .normal
  | .exit id => .exit id
  | .ret => .ret

theorem least {p : Nat → Prop} (h : ∃ n, p n) : ∃ n, p n ∧ ∀ m, p m → n ≤ m := by
  obtain ⟨n, hn⟩ := h
  induction n using Nat.strongRecOn with
  | _ n ih =>
    by_cases hx : ∃ m, m < n ∧ p m
    · obtain ⟨m, hm, hp⟩ := hx
      exact ih m hm hp
    · exact ⟨n, hn, fun m hm => Nat.le_of_not_lt fun hlt => hx ⟨m, hlt, hm⟩⟩

section
variable {ν : Nat → FuncId} {w0 : World} {S : Nat → Prop} {X0 : Cx} {T : Tr}

theorem region_sound (hν : ∀ f id, T.num f = some id → ν id = f) {Q : Exit → Act → World → Prop} {id : Nat} {ops : Array Oper} {draw : Bool} {l : List Aop} (hr : T.region ops draw = some l) {s : St} {a : Act} {w : World} {β : Nat → Nat} (h : Sim ν T.nt w0 S X0 s a w β)
    {K : St → Prop} (hs : opsK (OkM T.P ν) l s K) (hQ : ∀ s' a' w' β', K s' → Sim ν T.nt w0 S X0 s' a' w' β' → Q .normal a' w') : (Code.region id ops draw).wp T.P Q a w := by
  cases draw with
  | false =>
    simp only [Tr.region, Bool.false_eq_true, if_false] at hr
    exact wp_region_list (list_sound hν hQ _ _ hr s a w β h hs)
  | true =>
    simp only [Tr.region, if_true] at hr
    split at hr
    · rename_i l' hz
      split at hr
      · rename_i hc
        cases hr
        simp only [Bool.and_eq_true] at hc
        have hsz := (zip_spec _ _ _ hz).1
        have hrem : rem (Array.replicate ops.size false) 0 l = l := by
          have : ∀ (l : List Aop) (k : Nat), k + l.length ≤ ops.size → rem (Array.replicate ops.size false) k l = l := by
            intro l
            induction l with
            | nil => intro k _; rfl
            | cons x r ih =>
              intro k hk
              simp only [List.length_cons] at hk
              have hk' : k < ops.size := by omega
              simp only [rem]
              rw [ih (k + 1) (by omega)]
              simp [hk']
          exact this l 0 (by simp at hsz; omega)
        refine wp_region_any hc.2 (any_sound hν rfl hz hc.1.1 hc.1.2 hQ _ _ (by simp) (by rw [hrem]; simp at hsz; omega) ?_ s a _ β (h.later ⟨rfl, rfl, rfl, Nat.le_refl _, fun _ _ => rfl⟩) (by rw [hrem]; exact hs))
        intro j o ho hl
        have hj : j < ops.size := (Array.getElem?_eq_some_iff.1 ho).1
        simp [hj] at hl
      · cases hr
    · cases hr

theorem zipG_spec {hh : Nat → Bool} {ops : Array Oper} : ∀ (L : List Oper) (k : Nat) (l : List Aop), T.zipG hh ops k L = some l → l.length = L.length ∧ ∀ (i : Nat) (o : Oper), L[i]? = some o → ∃ ao, l[i]? = some ao ∧ ∃ hf, T.oper ops hf o = some ao := by
  intro L
  induction L with
  | nil => intro k l h; simp [Tr.zipG] at h; subst h; exact ⟨rfl, fun i o h => by simp at h⟩
  | cons a L ih =>
    intro k l h
    simp only [Tr.zipG] at h
    split at h
    · rename_i ao l' h1 h2
      cases h
      obtain ⟨g1, g2⟩ := ih _ _ h2
      refine ⟨by simp [g1], fun i o ho => ?_⟩
      cases i with
      | zero => simp at ho; subst ho; exact ⟨ao, rfl, _, h1⟩
      | succ i => exact g2 i o (by simpa using ho)
    · cases h

theorem region2_sound (hν : ∀ f id, T.num f = some id → ν id = f) {Q : Exit → Act → World → Prop} {id : Nat} {ops : Array Oper} {p : List Aop × List Aop} (hr : T.region2 ops = some p) {s : St} {a : Act} {w : World} {β : Nat → Nat} (h : Sim ν T.nt w0 S X0 s a w β)
    {K : St → Prop} (hs1 : opsK (OkM T.P ν) p.1 s K) (hs2 : opsK (OkM T.P ν) p.2 s K) (hQ : ∀ s' a' w' β', K s' → Sim ν T.nt w0 S X0 s' a' w' β' → Q .normal a' w') : (Code.region id ops true).wp T.P Q a w := by
  simp only [Tr.region2] at hr
  split at hr
  · rename_i l hz
    split at hr
    · rename_i A B hconf
      split at hr
      · rename_i pB hfind
        split at hr
        · rename_i hc
          cases hr
          simp only [Bool.and_eq_true, bne_iff_ne, ne_eq] at hc
          obtain ⟨⟨⟨⟨⟨c1, c2⟩, c3⟩, c4⟩, c5⟩, c6⟩ := hc
          obtain ⟨hsz, hops⟩ := zipG_spec _ _ _ hz
          have hpB : pB.1 = B := by have := List.find?_some hfind; simpa using this
          have hpm : pB ∈ Tr.enum 0 l := List.mem_of_find?_eq_some hfind
          have all : ∀ L : List (Nat × Aop), (∀ p ∈ L, p.1 < ops.size) → remI (Array.replicate ops.size false) L = L.map (·.2) := by
            intro L hL
            unfold remI
            rw [List.filter_eq_self.2 fun p hp => by simp [hL p hp]]
          have b1 : ∀ p ∈ Tr.enum 0 l, p.1 < ops.size := by
            intro p hp
            have := ((enum_mem l 0 p).1 hp).2
            have := (List.getElem?_eq_some_iff.1 this).1
            simp at hsz this
            omega
          have b2 : ∀ p ∈ Tr.ins A pB ((Tr.enum 0 l).filter fun q => q.1 != B), p.1 < ops.size := by
            intro p hp
            rcases ins_mem.1 hp with rfl | hp
            · exact b1 _ hpm
            · exact b1 _ (List.mem_filter.1 hp).1
          refine wp_region_any c6 (any2_sound hν rfl c2 (L1 := Tr.enum 0 l) (L2 := Tr.ins A pB ((Tr.enum 0 l).filter fun q => q.1 != B)) c1 (fun i o ho => ?_) b1 c4 c5 (fun listed hl => ?_) hQ _ _ (by simp) ?_ ?_ s a _ β (h.later ⟨rfl, rfl, rfl, Nat.le_refl _, fun _ _ => rfl⟩) ?_ ?_)
          · obtain ⟨ao, g1, hf, g2⟩ := hops i o (by simpa using ho)
            have m1 : (i, ao) ∈ Tr.enum 0 l := (enum_mem l 0 (i, ao)).2 ⟨Nat.zero_le _, by simpa using g1⟩
            refine ⟨ao, hf, m1, ins_mem.2 ?_, g2, ?_⟩
            · by_cases e : i = B
              · left
                have := (enum_mem l 0 pB).1 hpm
                rw [hpB, ← e, Nat.sub_zero, g1] at this
                have h2 := Option.some.inj this.2
                rw [h2, e, ← hpB]
              · right; exact List.mem_filter.2 ⟨m1, by simpa using e⟩
            · have := List.all_eq_true.1 c3 ao (List.mem_of_getElem? g1)
              simpa using this
          · rw [ins_remI (by rw [hpB]; exact hl), filter_remI hl]
          · rw [all _ b1, enum_snd]; simp at hsz; omega
          · intro j o ho hl
            have hj : j < ops.size := (Array.getElem?_eq_some_iff.1 ho).1
            simp [hj] at hl
          · rw [all _ b1, enum_snd]; exact hs1
          · intro _ _; rw [all _ b2]; exact hs2
        · cases hr
      · cases hr
    · cases hr
  · cases hr

theorem code_sound (hν : ∀ f id, T.num f = some id → ν id = f) : ∀ (c : Code) (cd : Cd), T.code c = some cd → ∀ (Qa : Ex → St → Prop) (Q : Exit → Act → World → Prop) (s : St) (a : Act) (w : World) (β : Nat → Nat), Sim ν T.nt w0 S X0 s a w β → vc (OkM T.P ν) cd Qa s →
    (∀ ex s a w β, Qa ex s → Sim ν T.nt w0 S X0 s a w β → Q (exitOf ex) a w) → c.wp T.P Q a w := by
  intro c
  induction c with
  | skip => intro cd h Qa Q s a w β hS hv hQ; cases h; exact wp_skip (hQ _ _ _ _ _ hv hS)
  | region id ops draw =>
    intro cd h Qa Q s a w β hS hv hQ
    simp only [Tr.code] at h
    split at h
    · rename_i l hl
      cases h
      exact region_sound hν hl hS hv (fun s' a' w' β' hK hS' => hQ .normal _ _ _ _ hK hS')
    · split at h
      · rename_i hd
        obtain ⟨p, hp, rfl⟩ := map_some h
        cases draw with
        | false => cases hd
        | true => exact region2_sound hν hp hS hv.1 hv.2 (fun s' a' w' β' hK hS' => hQ .normal _ _ _ _ hK hS')
      · cases h
  | seq x y ihx ihy =>
    intro cd h Qa Q s a w β hS hv hQ
    obtain ⟨x', hx, h⟩ := bind_some h
    obtain ⟨y', hy, rfl⟩ := map_some h
    refine wp_seq (ihx x' hx _ _ s a w β hS hv fun ex s a w β hq hS' => ?_)
    cases ex with
    | normal => exact ihy y' hy Qa Q s a w β hS' hq hQ
    | exit id => exact hQ _ _ _ _ _ hq hS'
    | ret => exact hQ _ _ _ _ _ hq hS'
  | cond c x y ihx ihy =>
    intro cd h Qa Q s a w β hS hv hQ
    obtain ⟨c', hc, h⟩ := bind_some h
    obtain ⟨x', hx, h⟩ := bind_some h
    obtain ⟨y', hy, rfl⟩ := map_some h
    have hr := opd_sound (T := T) hν hS.env hc
    simp only [vc] at hv
    split at hv
    · rename_i t ht
      rw [ht] at hr
      exact wp_cond_split hr.inv_v (fun e => ihx x' hx Qa Q s a w β hS (hv.1 e) hQ) (fun e => ihy y' hy Qa Q s a w β hS (hv.2 e) hQ)
    · exact hv.elim
  | block id b ih =>
    intro cd h Qa Q s a w β hS hv hQ
    obtain ⟨b', hb, rfl⟩ := map_some h
    refine wp_block (ih b' hb _ _ s a w β hS hv fun ex s a w β hq hS' => ?_)
    cases ex with
    | normal => exact hQ _ _ _ _ _ hq hS'
    | ret => exact hQ _ _ _ _ _ hq hS'
    | exit id' =>
      simp only [Ex.inBlock] at hq
      simp only [exitOf, Exit.inBlock]
      split
      · rename_i e; rw [if_pos e] at hq; exact hQ _ _ _ _ _ hq hS'
      · rename_i e; rw [if_neg e] at hq; exact hQ _ _ _ _ _ hq hS'
  | loop b ih =>
    intro cd h Qa Q s a w β hS hv hQ
    obtain ⟨b', hb, rfl⟩ := map_some h
    obtain ⟨I, μ, hI, hround⟩ := hv
    have hchoice : ∀ p : Act × World, ∃ n : Nat, (∃ s β, I s ∧ Sim ν T.nt w0 S X0 s p.1 p.2 β) → (∃ s β, I s ∧ Sim ν T.nt w0 S X0 s p.1 p.2 β ∧ μ s = n) ∧ ∀ s β, I s → Sim ν T.nt w0 S X0 s p.1 p.2 β → n ≤ μ s := by
      intro p
      by_cases hx : ∃ s β, I s ∧ Sim ν T.nt w0 S X0 s p.1 p.2 β
      · obtain ⟨s, β, h1, h2⟩ := hx
        obtain ⟨n, ⟨s', β', g1, g2, g3⟩, hmin⟩ := least (p := fun n => ∃ s β, I s ∧ Sim ν T.nt w0 S X0 s p.1 p.2 β ∧ μ s = n) ⟨μ s, s, β, h1, h2, rfl⟩
        exact ⟨n, fun _ => ⟨⟨s', β', g1, g2, g3⟩, fun s β k1 k2 => hmin _ ⟨s, β, k1, k2, rfl⟩⟩⟩
      · exact ⟨0, fun h => absurd h hx⟩
    obtain ⟨f, hf⟩ := Classical.axiomOfChoice hchoice
    refine wp_loop (fun a w => ∃ s β, I s ∧ Sim ν T.nt w0 S X0 s a w β) (fun a w => f (a, w)) ⟨s, β, hI, hS⟩ fun a w hx => ?_
    obtain ⟨⟨s', β', h1, h2, h3⟩, _⟩ := hf (a, w) hx
    refine ih b' hb _ _ s' a w β' h2 (hround s' h1) fun ex s2 a2 w2 β2 hq hS2 => ?_
    cases ex with
    | normal =>
      simp only [Ex.andThen] at hq
      simp only [exitOf, Exit.then]
      refine ⟨⟨s2, β2, hq.1, hS2⟩, ?_⟩
      have := (hf (a2, w2) ⟨s2, β2, hq.1, hS2⟩).2 s2 β2 hq.1 hS2
      omega
    | exit id => exact hQ _ _ _ _ _ hq hS2
    | ret => exact hQ _ _ _ _ _ hq hS2
  | exit id => intro cd h Qa Q s a w β hS hv hQ; cases h; exact wp_exit (hQ _ _ _ _ _ hv hS)
  | scope b ih =>
    intro cd h Qa Q s a w β hS hv hQ
    obtain ⟨b', hb, rfl⟩ := map_some h
    refine wp_scope_straight (ih b' hb _ _ s a w β hS hv fun ex s a w β hq hS' => ?_)
    cases ex with
    | normal => exact hQ _ _ _ _ _ hq hS'
    | ret => exact hQ _ _ _ _ _ hq hS'
    | exit id' => exact hQ _ _ _ _ _ hq hS'
  | label l => intro cd h Qa Q s a w β hS hv hQ; cases h; exact wp_label (hQ _ _ _ _ _ hv hS)
  | ret => intro cd h Qa Q s a w β hS hv hQ; cases h; exact wp_ret (hQ _ _ _ _ _ hv hS)
  | _ => intro cd h; cases h

def rvF (tmps : Array Value) : ResultVar → Sem Value
  | .tmp t => pure (tmps.getD t undef)
  | .cell a t => do loadVar t (← asAddr (tmps.getD a undef))
theorem results_eq (fn : Func) (tmps : Array Value) : results fn tmps = (do let vs ← fn.results.mapM (rvF tmps); pure (if h : vs.size = 1 then vs[0] else .tuple vs)) := by
  unfold results
  congr 2
  

theorem run_ld {s : St} {a : Act} {w : World} {β : Nat → Nat} (h : Sim ν T.nt w0 S X0 s a w β) {t : Nat} {ty : TypeId} {n : Option Nat} (hn : T.shape ty = some n) {u : AV} (hu : pLd s.heap n [s.env t] = some u) :
    ∃ v, (rvF a.tmps (.cell t ty)).run T.P w = .ok v w ∧ Rep ν ⟨β, s.heap, s.next, w, S⟩ u v := by
  have hx := h.env t
  unfold pLd at hu
  split at hu
  · rename_i c o' heq
    simp only [List.cons.injEq, and_true] at heq
    rw [heq] at hx
    obtain ⟨b, base, us, hp, hS, hc, hr⟩ := hx.inv_ptr
    obtain ⟨v, h1, h2⟩ := load_row (X := ⟨β, s.heap, s.next, w, S⟩) hn hc (fun i h => .pure (hr i h)) hu
    simp only at h1
    exact ⟨v, by simp [rvF, hp, asAddr, h1], h2⟩
  · rename_i o' q l heq
    simp only [List.cons.injEq, and_true] at heq
    rw [heq] at hx
    cases hc : s.heap o' with
    | none => simp [hc] at hu
    | some c =>
      simp only [hc] at hu
      split at hu
      · rename_i he
        obtain ⟨h1, h2, h3, h4⟩ := hx.inv_mp
        have hp := h4 c hc he
        obtain ⟨_, _, r, e, hr, hle, hrep⟩ := h.objs.obj _ _ hc
        simp only at hr hp
        obtain ⟨v, h5, h6⟩ := load_row (ν := ν) (X := ⟨β, s.heap, s.next, w, S⟩) (base := 0) (o := q) (us := fun i => r.getD i undef) hn (b := β o') (c := c) (fun i hi => by
          rw [Nat.zero_add, cell_of_row _ _ _ _ _ _ hr]; have : i < r.size := by omega
          simp [this]) hrep hu
        rw [Nat.zero_add] at h5
        simp only at h5
        exact ⟨v, by simp [rvF, hp, asAddr, h5], h6⟩
      · cases hu
  · cases hu

theorem run_rvs {s : St} {a : Act} {w : World} {β : Nat → Nat} (h : Sim ν T.nt w0 S X0 s a w β) : ∀ (l : List ResultVar) (rs : List Rv) (xs : List AV), l.mapM T.rv = some rs → rvs s rs = some xs →
    ∃ vs : List Value, (l.mapM (rvF a.tmps)).run T.P w = .ok vs w ∧ vs.length = xs.length ∧ ∀ i (hi : i < xs.length), Rep ν ⟨β, s.heap, s.next, w, S⟩ xs[i] (vs.getD i undef) := by
  intro l
  induction l with
  | nil => intro rs xs h1 h2; simp at h1; subst h1; cases h2; exact ⟨[], by simp, rfl, fun i hi => by simp at hi⟩
  | cons x l ih =>
    intro rs xs h1 h2
    simp only [List.mapM_cons, Option.pure_def, Option.bind_eq_bind] at h1
    obtain ⟨r, hr, h1⟩ := bind_some h1
    obtain ⟨rs', hrs', h1⟩ := bind_some h1
    cases h1
    have fin : ∀ (u : AV) (v : Value) (xs' : List AV), (rvF a.tmps x).run T.P w = .ok v w → Rep ν ⟨β, s.heap, s.next, w, S⟩ u v → rvs s rs' = some xs' → xs = u :: xs' →
        ∃ vs : List Value, ((x :: l).mapM (rvF a.tmps)).run T.P w = .ok vs w ∧ vs.length = xs.length ∧ ∀ i (hi : i < xs.length), Rep ν ⟨β, s.heap, s.next, w, S⟩ xs[i] (vs.getD i undef) := by
      rintro u v xs' g1 g2 g3 rfl
      obtain ⟨vs, k1, k2, k3⟩ := ih rs' xs' hrs' g3
      refine ⟨v :: vs, by simp [List.mapM_cons, g1, k1], by simp [k2], fun i hi => ?_⟩
      cases i with
      | zero => exact g2
      | succ i => exact k3 i (by simpa using hi)
    cases x with
    | tmp t =>
      simp only [Tr.rv] at hr
      split at hr
      · cases hr
        simp only [rvs] at h2
        obtain ⟨xs', g1, g2⟩ := map_some h2
        exact fin (s.env t) (a.tmps.getD t undef) xs' (by simp [rvF]) (h.env t) g1 g2.symm
      · cases hr
    | cell t ty =>
      simp only [Tr.rv] at hr
      split at hr
      · obtain ⟨n, hn, rfl⟩ := map_some hr
        simp only [rvs] at h2
        split at h2
        · rename_i u hu
          obtain ⟨xs', g1, g2⟩ := map_some h2
          obtain ⟨v, k1, k2⟩ := run_ld h hn hu
          exact fin u v xs' k1 k2 g1 g2.symm
        · cases h2
      · cases hr

theorem run_res {s : St} {a : Act} {w : World} {β : Nat → Nat} (h : Sim ν T.nt w0 S X0 s a w β) {fn : Func} {rs : List Rv} {r : AV} (h1 : fn.results.toList.mapM T.rv = some rs) (h2 : resOf s rs = some r) :
    ∃ v, (results fn a.tmps).run T.P w = .ok v w ∧ Rep ν ⟨β, s.heap, s.next, w, S⟩ r v := by
  unfold resOf at h2
  cases hx : rvs s rs with
  | none => rw [hx] at h2; cases h2
  | some xs =>
    rw [hx] at h2
    obtain ⟨vs, k1, k2, k3⟩ := run_rvs h _ _ _ h1 hx
    have hm : (fn.results.mapM (rvF a.tmps)).run T.P w = .ok vs.toArray w := by
      have : fn.results = fn.results.toList.toArray := by simp
      rw [this, List.mapM_toArray]
      simp [k1]
    have tup : r = .tup xs → xs.length ≠ 1 → ∃ v, (results fn a.tmps).run T.P w = .ok v w ∧ Rep ν ⟨β, s.heap, s.next, w, S⟩ r v := by
      rintro rfl hne
      refine ⟨.tuple vs.toArray, ?_, .tup vs.toArray (by simp [k2]) (fun i hi => by simpa using k3 i hi)⟩
      rw [results_eq]
      simp [hm, k2, hne]
    match xs, h2, k2, k3, tup with
    | [x], h2, k2, k3, _ =>
      cases h2
      obtain ⟨v, rfl⟩ : ∃ v, vs = [v] := List.length_eq_one_iff.1 k2
      exact ⟨v, by rw [results_eq]; simp [hm], k3 0 (by simp)⟩
    | [], h2, _, _, tup => cases h2; exact tup rfl (by simp)
    | x :: y :: l, h2, _, _, tup => cases h2; exact tup rfl (by simp)

/-- A function of the model whose compact form does what is asked. -/
theorem fn_sound {P : Program} {num : FuncId → Option Nat} {hint : List (Nat × Nat)} {fn : Func} {f : Fd} (hfd : fd P num hint fn = some f) (hν : ∀ f id, num f = some id → ν id = f) {id : Nat} (hid : P.funcs[ν id]? = some fn) (hname : (fn.name == "runtime.NumGoroutine") = false)
    {args : List AV} {H : Hp} {nx : Nat} {Φ : AV → Hp → Nat → Prop} (hok : fnOk (OkM P ν) f args H nx Φ) : OkM P ν id args H nx Φ := by
  unfold fd at hfd
  cases hb : fn.body with
  | none => simp [hb] at hfd
  | some c =>
    simp only [hb] at hfd
    split at hfd
    · rename_i hnp
      obtain ⟨b, hcode, hfd⟩ := bind_some hfd
      obtain ⟨rs, hrs, rfl⟩ := map_some hfd
      obtain ⟨hlen, hv⟩ := hok
      simp only at hlen hv
      refine ⟨⟨fn, hid, by simp [hb], hname⟩, fun w0 S β w vs hobj hbel hsz hargs => calls_of_wp hid hb ?_⟩
      have hS : Sim ν fn.ntmps w0 S ⟨β, H, nx, w, S⟩ (st0 args H nx) { tmps := vs ++ Array.replicate (fn.ntmps - vs.size) undef, defers := [] } w β := by
        refine ⟨fun t => ?_, by simp; omega, rfl, hobj, hbel, Ext.refl _⟩
        simp only [st0, env0]
        by_cases ht : t < args.length
        · have e1 : (vs ++ Array.replicate (fn.ntmps - vs.size) undef).getD t undef = vs.getD t undef := by
            have : t < vs.size := by omega
            simp [Array.getElem?_append_left this]
          have e2 : args.getD t (.v undef) = args[t] := by simp [ht]
          rw [e1, e2]
          exact hargs t ht
        · have e1 : (vs ++ Array.replicate (fn.ntmps - vs.size) undef).getD t undef = undef := by
            have : vs.size ≤ t := by omega
            rw [Array.getD_eq_getD_getElem?, Array.getElem?_append_right this]
            by_cases h2 : t - vs.size < fn.ntmps - vs.size
            · simp [h2]
            · rw [Array.getElem?_eq_none (by simp; omega)]; rfl
          have e2 : args.getD t (.v undef) = .v undef := by simp [List.getElem?_eq_none (Nat.le_of_not_lt ht)]
          rw [e1, e2]
          exact .pure (.v _)
      refine code_sound (T := ⟨P, num, hint, fn.ntmps⟩) hν c b hcode _ _ _ _ w β hS hv fun ex s a w' β' hq hS' => ?_
      have fin : (∃ r, resOf s rs = some r ∧ ∃ H', Sub H' s.heap ∧ Φ r H' s.next) → a.defers = [] ∧ ∃ v, (results fn a.tmps).run P w' = .ok v w' ∧ ∃ v' r H' nx' β'', (Ending.returned v) = .returned v' ∧ Φ r H' nx' ∧ Rep ν ⟨β'', H', nx', w', S⟩ r v' ∧ Objs ν w0.heap.size ⟨β'', H', nx', w', S⟩ ∧ Ext ⟨β, H, nx, w, S⟩ ⟨β'', H', nx', w', S⟩ ∧ Below w0.heap.size w0 w' := by
        rintro ⟨r, hr, H', hsub, hΦ⟩
        obtain ⟨v, k1, k2⟩ := run_res hS' hrs hr
        have hx : Ext ⟨β', s.heap, s.next, w', S⟩ ⟨β', H', s.next, w', S⟩ :=
          ⟨Nat.le_refl _, fun b hb => ⟨hb.1, fun o c hc => hb.2 o c (hsub o c hc)⟩, fun _ _ => rfl, fun o c' _ hc' => ⟨c', hsub o c' hc', .inr ⟨rfl, rfl, fun r e f hr => ⟨r, e, f, hr, rfl⟩⟩⟩⟩
        refine ⟨hS'.defers, v, k1, v, r, H', s.next, β', rfl, hΦ, k2.mono hx, ⟨fun o c hc => ?_, fun o o' c c' hc hc' he => hS'.objs.inj o o' c c' (hsub o c hc) (hsub o' c' hc') he, hS'.objs.le, hS'.objs.new⟩, hS'.ext.trans hx, hS'.below⟩
        obtain ⟨g1, g2, r', e', g3, g4, g5⟩ := hS'.objs.obj o c (hsub o c hc)
        exact ⟨g1, g2, r', e', g3, g4, fun i hi => (g5 i hi).mono hx⟩
      cases ex with
      | normal => exact fin hq
      | ret => exact fin hq
      | exit id => exact hq.elim
    · cases hfd
end
end Go.Av
