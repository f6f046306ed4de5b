/-
  Regions with two unordered operations that write: both orders are shown, the others follow.
-/
import Derived.Test.YtbgaobcgpkjjkaaAvRun
namespace Go.Av
open Go.RowKit (Below)

theorem opK_and {C : Ct} {o : Aop} {s : St} {K1 K2 : St → Prop} (hc : Tr.isC o.k = false) (h1 : opK C o s K1) (h2 : opK C o s K2) : opK C o s fun s' => K1 s' ∧ K2 s' := by
  cases he : Tr.eff o.k
  · obtain ⟨u, hu, k1⟩ := (opK_v he).1 h1
    obtain ⟨v, hv, k2⟩ := (opK_v he).1 h2
    rw [← Gv_unique hc hu hv] at k2
    exact (opK_v he).2 ⟨u, hu, k1, k2⟩
  · obtain ⟨Ψ, g1, ⟨u, hp, n, g2⟩, k1⟩ := (opK_e he).1 h1
    obtain ⟨Ψ', g1', ⟨u', hp', n', g2'⟩, k2⟩ := (opK_e he).1 h2
    refine (opK_e he).2 ⟨Ψ, g1, ⟨u, hp, n, g2⟩, fun u h n hu => ⟨k1 u h n hu, ?_⟩⟩
    have : Ψ = Ψ' := by
      rcases g1 with ⟨e, g1⟩ | ⟨e, g1⟩ <;> rcases g1' with ⟨e', g1'⟩ | ⟨e', g1'⟩
      · unfold Ve at g1 g1'
        cases hk : o.k <;> simp only [hk, Tr.isC, Bool.true_eq_false] at g1 g1' hc
        case app sz x y =>
          obtain ⟨_, cm, q1, _, r, q2, q3⟩ := g1
          obtain ⟨_, cm', q1', _, r', q2', q3'⟩ := g1'
          rw [q1] at q1'; cases q1'
          rw [q2] at q2'; cases q2'
          rw [q3, q3']
        case st n a v =>
          obtain ⟨_, r, q2, q3⟩ := g1
          obtain ⟨_, r', q2', q3'⟩ := g1'
          rw [q2] at q2'; cases q2'
          rw [q3, q3']
        case new z => rw [g1.2, g1'.2]
        case boxm x => rw [g1.2.2, g1'.2.2]
        case mks z n c =>
          obtain ⟨_, r, q2, q3⟩ := g1
          obtain ⟨_, r', q2', q3'⟩ := g1'
          rw [q2] at q2'; cases q2'
          rw [q3, q3']
        case mslm sz n z ps xs =>
          obtain ⟨_, r, q2, q3⟩ := g1
          obtain ⟨_, r', q2', q3'⟩ := g1'
          rw [q2] at q2'; cases q2'
          rw [q3, q3']
      · rw [e] at e'; cases e'
      · rw [e] at e'; cases e'
      · rw [g1, g1']
    rw [this] at hu
    exact k2 u h n hu

/-- What is left of a list of numbered operations. -/
def remI (listed : Array Bool) (L : List (Nat × Aop)) : List Aop := (L.filter fun p => !listed.getD p.1 true).map (·.2)
theorem remI_append (listed : Array Bool) (X Z : List (Nat × Aop)) : remI listed (X ++ Z) = remI listed X ++ remI listed Z := by simp [remI]
theorem remI_cons_no {listed : Array Bool} {p : Nat × Aop} {Z : List (Nat × Aop)} (h : listed.getD p.1 true = false) : remI listed (p :: Z) = p.2 :: remI listed Z := by simp only [remI, List.filter_cons, h]; simp
theorem remI_cons_yes {listed : Array Bool} {p : Nat × Aop} {Z : List (Nat × Aop)} (h : listed.getD p.1 true = true) : remI listed (p :: Z) = remI listed Z := by simp only [remI, List.filter_cons, h]; simp
theorem remI_set {listed : Array Bool} {i : Nat} {X : List (Nat × Aop)} (h : ∀ q ∈ X, q.1 ≠ i) : remI (listed.setIfInBounds i true) X = remI listed X := by
  unfold remI
  congr 1
  refine List.filter_congr fun q hq => ?_
  rw [getD_set_ne true (Ne.symm (h q hq))]
theorem mem_remI {listed : Array Bool} {X : List (Nat × Aop)} {x : Aop} (h : x ∈ remI listed X) : ∃ q ∈ X, q.2 = x ∧ listed.getD q.1 true = false := by
  simp only [remI, List.mem_map, List.mem_filter, Bool.not_eq_true'] at h
  obtain ⟨q, ⟨h1, h2⟩, h3⟩ := h
  exact ⟨q, h1, h3, h2⟩

theorem remI_front {C : Ct} {s : St} {K : St → Prop} {listed : Array Bool} {X Z : List (Nat × Aop)} {p : Nat × Aop} (hu : listed.getD p.1 true = false) (hi : p.1 < listed.size) (hX : ∀ q ∈ X, q.1 ≠ p.1) (hZ : ∀ q ∈ Z, q.1 ≠ p.1)
    (hm : ∀ q ∈ X, listed.getD q.1 true = false → Tr.mayB q.2 p.2 = true) (h : opsK C (remI listed (X ++ p :: Z)) s K) : opK C p.2 s fun s' => opsK C (remI (listed.setIfInBounds p.1 true) (X ++ p :: Z)) s' K := by
  rw [remI_append, remI_cons_no hu] at h
  have := opsK_front (fun x hx => by obtain ⟨q, q1, q2, q3⟩ := mem_remI hx; rw [← q2]; exact hm q q1 q3) h
  rw [remI_append, remI_cons_yes (by simp [hi]), remI_set hX, remI_set hZ]
  exact this


theorem enum_mem : ∀ (l : List Aop) (k : Nat) (p : Nat × Aop), p ∈ Tr.enum k l ↔ k ≤ p.1 ∧ l[p.1 - k]? = some p.2
  | [], k, p => by simp [Tr.enum]
  | x :: r, k, p => by
    simp only [Tr.enum, List.mem_cons, enum_mem r (k + 1) p]
    constructor
    · rintro (rfl | ⟨h1, h2⟩)
      · simp
      · refine ⟨by omega, ?_⟩
        rw [show p.1 - k = (p.1 - (k + 1)) + 1 by omega]
        simpa using h2
    · rintro ⟨h1, h2⟩
      by_cases e : p.1 = k
      · left
        rw [e] at h2
        simp at h2
        obtain ⟨a, b⟩ := p
        simp only at e h2
        rw [e, h2]
      · right
        refine ⟨by omega, ?_⟩
        rw [show p.1 - k = (p.1 - (k + 1)) + 1 by omega] at h2
        simpa using h2
theorem enum_len : ∀ (l : List Aop) (k : Nat), (Tr.enum k l).length = l.length
  | [], _ => rfl
  | x :: r, k => by simp [Tr.enum, enum_len r]
theorem enum_snd : ∀ (l : List Aop) (k : Nat), (Tr.enum k l).map (·.2) = l
  | [], _ => rfl
  | x :: r, k => by simp [Tr.enum, enum_snd r]
theorem ins_mem {A : Nat} {p x : Nat × Aop} : ∀ {L : List (Nat × Aop)}, x ∈ Tr.ins A p L ↔ x = p ∨ x ∈ L
  | [] => by simp [Tr.ins]
  | q :: r => by
    simp only [Tr.ins]
    split
    · simp
    · simp only [List.mem_cons, ins_mem (L := r)]
      constructor
      · rintro (h | h | h)
        · exact .inr (.inl h)
        · exact .inl h
        · exact .inr (.inr h)
      · rintro (h | h | h)
        · exact .inr (.inl h)
        · exact .inl h
        · exact .inr (.inr h)
theorem ins_remI {A : Nat} {p : Nat × Aop} {listed : Array Bool} (h : listed.getD p.1 true = true) : ∀ {L : List (Nat × Aop)}, remI listed (Tr.ins A p L) = remI listed L
  | [] => by simp only [Tr.ins]; exact remI_cons_yes h
  | q :: r => by
    simp only [Tr.ins]
    split
    · exact remI_cons_yes h
    · have ih := ins_remI (A := A) h (L := r)
      cases hq : listed.getD q.1 true
      · rw [remI_cons_no hq, remI_cons_no hq, ih]
      · rw [remI_cons_yes hq, remI_cons_yes hq, ih]
theorem filter_remI {B : Nat} {listed : Array Bool} (h : listed.getD B true = true) : ∀ {L : List (Nat × Aop)}, remI listed (L.filter fun q => q.1 != B) = remI listed L
  | [] => rfl
  | q :: r => by
    have ih := filter_remI h (L := r)
    by_cases e : q.1 = B
    · rw [List.filter_cons_of_neg (by simp [e]), ih, remI_cons_yes (by rw [e]; exact h)]
    · rw [List.filter_cons_of_pos (by simp [e])]
      cases hq : listed.getD q.1 true
      · rw [remI_cons_no hq, remI_cons_no hq, ih]
      · rw [remI_cons_yes hq, remI_cons_yes hq, ih]

theorem ord_spec {cl : List Nat} {A B : Nat} : ∀ (r done : List (Nat × Aop)), Tr.ordB cl A B done r = true → ∀ X p Z, done ++ r = X ++ p :: Z → done.length ≤ X.length → (∀ q ∈ X, q.1 ≠ p.1 ∧ ((cl.getD p.1 0).testBit q.1 = true ∨ Tr.mayB q.2 p.2 = true ∨ (q.1 = A ∧ p.1 = B)))
  | [], done, _, X, p, Z, he, hl => by
    exfalso
    have := congrArg List.length he
    simp at this
    omega
  | a :: r, done, h, X, p, Z, he, hl => by
    simp only [Tr.ordB, Bool.and_eq_true] at h
    by_cases e : X.length = done.length
    · have h1 := List.append_inj he e.symm
      obtain ⟨h2, h3⟩ := h1
      cases h3
      subst h2
      intro q hq
      have := List.all_eq_true.1 h.1 q hq
      simp only [Bool.and_eq_true, Bool.or_eq_true, bne_iff_ne, ne_eq, beq_iff_eq] at this
      refine ⟨this.1, ?_⟩
      rcases this.2 with (h4 | h4) | h4
      · exact .inl h4
      · exact .inr (.inl h4)
      · exact .inr (.inr h4)
    · exact ord_spec r (done ++ [a]) h.2 X p Z (by simpa using he) (by simp; omega)

section
variable {ν : Nat → FuncId} {w0 : World} {S : Nat → Prop} {X0 : Cx} {T : Tr} {Q : Exit → Act → World → Prop}

theorem mask_listed {ops : Array Oper} {cl : List Nat} (hcl : cl = Tr.clo ops.toList []) {listed : Array Bool}
    (hcls : ∀ j o, ops[j]? = some o → listed.getD j true = true → ∀ e ∈ o.after, Region.binds .any e = true → listed.getD e.on false = true) :
    ∀ n j, j < n → (∀ e o', ops[j]? = some o' → e ∈ o'.after → Region.binds .any e = true → listed.getD e.on false = true) → ∀ k, (cl.getD j 0).testBit k = true → listed.getD k false = true := by
  intro n
  induction n with
  | zero => intro j hj; omega
  | succ n ihn =>
    intro j hj hdj k hk
    rw [hcl] at hk
    obtain ⟨o', e, g1, g2, g3, g4⟩ := clo_spec _ _ _ _ (Nat.zero_le _) hk
    simp only [List.length_nil, Nat.sub_zero, Array.getElem?_toList] at g1
    have g5 := hdj e o' g1 (by simpa using g2) g3
    rcases g4 with g4 | ⟨g4, g6⟩
    · subst g4; exact g5
    · refine ihn e.on (by omega) (fun e' o2 ho2 he' hb' => ?_) k (by rw [hcl]; exact g6)
      have hlt : e.on < listed.size := by
        rcases Nat.lt_or_ge e.on listed.size with h' | h'
        · exact h'
        · simp [Array.getElem?_eq_none h'] at g5
      exact hcls e.on o2 ho2 (by simpa [hlt] using g5) e' he' hb'

theorem any2_sound (hν : ∀ f id, T.num f = some id → ν id = f) {ops : Array Oper} {cl : List Nat} (hcl : cl = Tr.clo ops.toList []) (hback : Tr.backB 0 ops.toList = true) {L1 L2 : List (Nat × Aop)} {A B : Nat} (hne : A ≠ B)
    (hm1 : ∀ i o, ops[i]? = some o → ∃ ao hf, (i, ao) ∈ L1 ∧ (i, ao) ∈ L2 ∧ T.oper ops hf o = some ao ∧ Tr.isC ao.k = false) (hs1 : ∀ p ∈ L1, p.1 < ops.size)
    (ho1 : Tr.ordB cl A B [] L1 = true) (ho2 : Tr.ordB cl B A [] L2 = true) (hrem : ∀ listed : Array Bool, listed.getD B true = true → remI listed L2 = remI listed L1)
    {K : St → Prop} (hQ : ∀ s' a' w' β', K s' → Sim ν T.nt w0 S X0 s' a' w' β' → Q .normal a' w') :
    ∀ (fuel : Nat) (listed : Array Bool), listed.size = ops.size → (remI listed L1).length ≤ fuel →
      (∀ j o, ops[j]? = some o → listed.getD j true = true → ∀ e ∈ o.after, Region.binds .any e = true → listed.getD e.on false = true) →
      ∀ (s : St) (a : Act) (w : World) (β : Nat → Nat), Sim ν T.nt w0 S X0 s a w β → opsK (OkM T.P ν) (remI listed L1) s K →
        (listed.getD A true = false → listed.getD B true = false → opsK (OkM T.P ν) (remI listed L2) s K) → wpAny T.P .any ops Q fuel listed a w := by
  have nd : ∀ {L : List (Nat × Aop)} {A B : Nat}, Tr.ordB cl A B [] L = true → ∀ X p Z, L = X ++ p :: Z → (∀ q ∈ X, q.1 ≠ p.1) ∧ ∀ q ∈ Z, q.1 ≠ p.1 := by
    intro L A B ho X p Z he
    refine ⟨fun q hq => (ord_spec L [] ho X p Z (by simpa using he) (Nat.zero_le _) q hq).1, fun q hq => ?_⟩
    obtain ⟨Z1, Z2, rfl⟩ := List.append_of_mem hq
    have := ord_spec L [] ho (X ++ p :: Z1) q Z2 (by simpa using he) (Nat.zero_le _) p (by simp)
    exact fun e => this.1 e.symm
  have hdone : ∀ listed : Array Bool, listed.size = ops.size → Region.ready .any ops listed = [] → remI listed L1 = [] := by
    intro listed hsz hr
    have all : ∀ j, j < ops.size → listed.getD j true = true := by
      intro j
      induction j using Nat.strongRecOn with
      | _ j ih =>
        intro hj
        cases hlj : listed.getD j true with
        | true => rfl
        | false =>
          exfalso
          have hm : j ∈ Region.ready .any ops listed := by
            rw [mem_ready]
            refine ⟨hlj, ops[j], by simp [hj], fun e he hbd => ?_⟩
            have h1 := back_spec _ 0 hback j ops[j] (by simp [hj]) e (by simpa using he) hbd
            simp only [Nat.zero_add] at h1
            have h2 := ih e.on h1 (by omega)
            have h3 : e.on < listed.size := by omega
            simpa [h3] using h2
          rw [hr] at hm
          cases hm
    unfold remI
    rw [List.filter_eq_nil_iff.2 fun p hp => by simp only [all p.1 (hs1 p hp)]; simp]
    rfl
  intro fuel
  induction fuel with
  | zero =>
    intro listed hsz hf hcls s a w β h hs hs2
    have hn : remI listed L1 = [] := List.eq_nil_of_length_eq_zero (by omega)
    refine ⟨?_, ?_⟩
    · cases hr : Region.ready .any ops listed with
      | nil => rfl
      | cons i r =>
        exfalso
        have hm : i ∈ Region.ready .any ops listed := by rw [hr]; exact List.mem_cons_self ..
        rw [mem_ready] at hm
        obtain ⟨h0, o, ho, _⟩ := hm
        obtain ⟨ao, hfl, m1, m2, hoper, hcc⟩ := hm1 i o ho
        have : ao ∈ remI listed L1 := by
          simp only [remI, List.mem_map, List.mem_filter]
          exact ⟨(i, ao), ⟨m1, by simp only [h0]; rfl⟩, rfl⟩
        rw [hn] at this
        cases this
    · rw [hn] at hs; exact hQ _ _ _ _ hs h
  | succ fuel ih =>
    intro listed hsz hf hcls s a w β h hs hs2
    refine ⟨fun hr => ?_, fun i hi => ?_⟩
    · rw [hdone listed hsz hr] at hs; exact hQ _ _ _ _ hs h
    · rw [mem_ready] at hi
      obtain ⟨h0, o, ho, hdep⟩ := hi
      have hi : i < ops.size := (Array.getElem?_eq_some_iff.1 ho).1
      obtain ⟨ao, hfl, m1, m2, hoper, hcc⟩ := hm1 i o ho
      have mask := mask_listed hcl hcls (i + 1) i (by omega) (fun e o' ho' he hb' => by rw [ho] at ho'; cases ho'; exact hdep e he hb')
      have unl : ∀ j, listed.getD j true = false → (cl.getD i 0).testBit j = true → False := by
        intro j hj hb
        have h4 := mask j hb
        by_cases hjl : j < listed.size
        · have h5 : listed.getD j true = true := by simpa [hjl] using h4
          rw [h5] at hj
          cases hj
        · simp [Array.getElem?_eq_none (Nat.le_of_not_lt hjl)] at h4
      have front : ∀ {L : List (Nat × Aop)} {A' B' : Nat}, Tr.ordB cl A' B' [] L = true → (i, ao) ∈ L → (i = B' → listed.getD A' true = true) → opsK (OkM T.P ν) (remI listed L) s K → opK (OkM T.P ν) ao s fun s' => opsK (OkM T.P ν) (remI (listed.setIfInBounds i true) L) s' K := by
        intro L A' B' hord hmem hex hh
        obtain ⟨X, Z, rfl⟩ := List.append_of_mem hmem
        obtain ⟨n1, n2⟩ := nd hord X (i, ao) Z rfl
        refine remI_front (p := (i, ao)) h0 (by simp only; omega) n1 n2 (fun q hq hqu => ?_) hh
        rcases (ord_spec _ [] hord X (i, ao) Z (by simp) (Nat.zero_le _) q hq).2 with h1 | h1 | h1
        · exact (unl _ hqu h1).elim
        · exact h1
        · rw [h1.1, hex h1.2] at hqu; cases hqu
      have fuelOk : (remI (listed.setIfInBounds i true) L1).length ≤ fuel := by
        obtain ⟨X, Z, e⟩ := List.append_of_mem m1
        obtain ⟨n1, n2⟩ := nd ho1 X (i, ao) Z e
        rw [e, remI_append, remI_cons_no (p := (i, ao)) h0] at hf
        rw [e, remI_append, remI_cons_yes (p := (i, ao)) (by simp [hsz, hi]), remI_set n1, remI_set n2]
        simp at hf ⊢
        omega
      have clsOk : ∀ j o', ops[j]? = some o' → (listed.setIfInBounds i true).getD j true = true → ∀ e ∈ o'.after, Region.binds .any e = true → (listed.setIfInBounds i true).getD e.on false = true := by
        intro j o' ho' hlj e he hb
        by_cases e1 : j = i
        · subst e1
          rw [ho] at ho'
          cases ho'
          exact getD_set_true (hdep e he hb)
        · rw [getD_set_ne true (Ne.symm e1)] at hlj
          exact getD_set_true (hcls j o' ho' hlj e he hb)
      have seti : (listed.setIfInBounds i true).getD i true = true := by simp [hsz, hi]
      unfold wpOp
      simp only [ho]
      by_cases eB : i = B
      · cases hA : listed.getD A true
        · -- the second list
          have h2 := front ho2 m2 (fun e => absurd (eB.symm.trans e) (Ne.symm hne)) (hs2 hA (by rw [← eB]; exact h0))
          rw [hrem _ (by rw [← eB]; exact seti)] at h2
          exact oper_sound hν hoper h h2 (fun s' a' w' β' hK hS => ih _ (by simp [hsz]) fuelOk clsOk s' a' w' β' hS hK (fun _ hb => by rw [← eB, seti] at hb; cases hb))
        · have h1 := front ho1 m1 (fun _ => hA) hs
          exact oper_sound hν hoper h h1 (fun s' a' w' β' hK hS => ih _ (by simp [hsz]) fuelOk clsOk s' a' w' β' hS hK (fun _ hb => by rw [← eB, seti] at hb; cases hb))
      · have h1 := front ho1 m1 (fun e => absurd e eB) hs
        by_cases eA : i = A
        · exact oper_sound hν hoper h h1 (fun s' a' w' β' hK hS => ih _ (by simp [hsz]) fuelOk clsOk s' a' w' β' hS hK (fun ha _ => by rw [← eA, seti] at ha; cases ha))
        · by_cases hb : listed.getD A true = false ∧ listed.getD B true = false
          · have h2 := front ho2 m2 (fun e => absurd e eA) (hs2 hb.1 hb.2)
            exact oper_sound hν hoper h (opK_and hcc h1 h2) (fun s' a' w' β' hK hS => ih _ (by simp [hsz]) fuelOk clsOk s' a' w' β' hS hK.1 (fun _ _ => hK.2))
          · exact oper_sound hν hoper h h1 (fun s' a' w' β' hK hS => ih _ (by simp [hsz]) fuelOk clsOk s' a' w' β' hS hK (fun ha hb' => by
              rw [getD_set_ne true eA] at ha
              rw [getD_set_ne true eB] at hb'
              exact absurd ⟨ha, hb'⟩ hb))
end
end Go.Av
