/-
  Rules for reading lists and tables whose side conditions are found by themselves.
-/
import Derived.Test.YtomlmcfcjlfhjaaBvB0
import Derived.Test.YtomlmcfcjlfhjaaBvZ
namespace Go.Av
set_option linter.unusedSectionVars false
set_option linter.unusedSimpArgs false
set_option linter.unusedVariables false
variable [md : Md]
open Classical
set_option linter.unusedSimpArgs false
set_option linter.unusedVariables false
variable {P : Program} {ν : Nat → FuncId}

/-- A number that may stand as an index into the list. -/
structure In (l : List Int) (i : Int) : Prop where
  lo : 0 ≤ i
  hi : i < l.length
structure InR (l : List (List Int)) (i : Int) : Prop where
  lo : 0 ≤ i
  hi : i < l.length
def gI (l : List Int) (i : Int) : Int := l.getD i.toNat 0
def gR (l : List (List Int)) (i : Int) : List Int := l.getD i.toNat []
theorem q_iad {H : Hp} {l : List Int} {i : Int} (h : In l i) : pvf H (.iad 1) [islice l, int i] = some (.ptr (ints l) i.toNat) := by rw [p_iadi]; exact if_pos ⟨h.1, h.2⟩
theorem q_get {l : List Int} {i : Int} (h : In l i) : (ints l)[i.toNat]? = some (int (gI l i)) := by rw [ints_get, if_pos (by have := h.1; have := h.2; omega)]; rfl
theorem q_iadR {H : Hp} {l : List (List Int)} {i : Int} (h : InR l i) : pvf H (.iad 1) [.sl (rows l) l.length, int i] = some (.ptr (rows l) i.toNat) := by rw [p_iad, Nat.mul_one]; exact if_pos ⟨h.1, h.2⟩
theorem q_getR {l : List (List Int)} {i : Int} (h : InR l i) : (rows l)[i.toNat]? = some (islice (gR l i)) := by rw [rows_get, if_pos (by have := h.1; have := h.2; omega)]; rfl
theorem Wn.at {l : List Int} {n i : Int} (h : Wn l n) (hi : In l i) : 0 ≤ gI l i ∧ gI l i < n := h i.toNat (by have := hi.1; have := hi.2; omega)

/-- An object. -/
def Ob (c : Cat) (x : Int) : Prop := 0 ≤ x ∧ x < c.o
theorem foldF (c : Cat) (a : Int) : gI c.f a = c.F a := rfl
theorem foldT (c : Cat) (a : Int) : gI c.t a = c.T a := rfl
theorem foldI (c : Cat) (a : Int) : gI c.i a = c.I a := rfl
theorem foldK (c : Cat) (a b : Int) : gI (gR c.c a) b = c.K a b := rfl

section
variable {c : Cat} {a b x : Int}
theorem Arr.inF (h : Arr c a) : In c.f a := ⟨h.1, h.2⟩
theorem Shape.inT (s : Shape c) (h : Arr c a) : In c.t a := ⟨h.1, by have := s.tl; have := h.2; omega⟩
theorem Shape.inI (s : Shape c) (h : Ob c x) : In c.i x := ⟨h.1, by have := s.il; have := h.2; omega⟩
theorem Shape.inC (s : Shape c) (h : Arr c a) : InR c.c a := ⟨h.1, by have := s.cl; have := h.2; omega⟩
theorem Shape.inK (s : Shape c) (h : Arr c a) (h' : Arr c b) : In (gR c.c a) b := ⟨h'.1, by have := s.rowLen h.1 h.2; have := h'.2; unfold gR; omega⟩
theorem Shape.obF (s : Shape c) (h : Arr c a) : Ob c (c.F a) := by
  have := s.fw a.toNat (by have := h.1; have := h.2; omega); exact this
theorem Shape.obT (s : Shape c) (h : Arr c a) : Ob c (c.T a) := by
  have := s.tw a.toNat (by have := s.tl; have := h.1; have := h.2; omega); exact this
theorem Shape.arI (s : Shape c) (h : Ob c x) : Arr c (c.I x) := s.iLt h.1 (by have := s.il; have := h.2; omega)
theorem Shape.idF (s : Shape c) (h : Ob c x) : c.F (c.I x) = x := by
  have := (s.id x.toNat (by have := s.il; have := h.1; have := h.2; omega)).1
  rw [show ((x.toNat : Nat) : Int) = x from by have := h.1; omega] at this
  exact this
theorem Arr.of {i : Nat} (h : i < c.f.length) : Arr c i := ⟨by omega, by omega⟩
end

theorem put_ne2 (e : Nat → AV) (k j : Nat) (u : AV) (h : Nat.beq j k = false) : put e k u j = e j := by simp only [put]; rw [if_neg (Nat.ne_of_beq_eq_false h)]
/-- The rules of the second form, with reading by predicates. -/
theorem S2 :
    type_of% @den_p ∧ type_of% @denS_some ∧ type_of% @den_br ∧ type_of% @denB_bool ∧ type_of% @den_again ∧
    type_of% @ev_t ∧ type_of% @ev_c ∧ type_of% @ev_f ∧ type_of% @env0_def ∧ type_of% @put_eq ∧ type_of% @put_ne2 ∧
    type_of% @List.map_cons.{0,0} ∧ type_of% @List.map_nil.{0,0} ∧ type_of% @List.getD_cons_zero.{0} ∧ type_of% @List.getD_cons_succ.{0} ∧ type_of% @List.getElem?_cons_zero.{0} ∧ type_of% @List.getElem?_cons_succ.{0} ∧
    type_of% @p_nck ∧ type_of% @p_fad ∧ type_of% @p_ld ∧ type_of% @p_len ∧ type_of% @p_leni ∧ type_of% @p_len0 ∧
    type_of% @p_add ∧ type_of% @p_sub ∧ type_of% @p_mul ∧ type_of% @p_eql ∧ type_of% @p_neq ∧ type_of% @p_lss ∧ type_of% @p_leq ∧ type_of% @p_gtr ∧ type_of% @p_geq ∧ type_of% @p_not ∧
    type_of% @p_msl0 ∧ type_of% @p_msl1 ∧ type_of% @p_ext ∧ type_of% @p_pick ∧ type_of% @p_mka2 ∧ type_of% @p_eqs2 ∧ type_of% @p_eqs2' ∧
    type_of% @p_boxc ∧ type_of% @p_ldc ∧ type_of% @p_msl2 ∧ type_of% @p_msl3 ∧ type_of% @p_msl4 ∧
    type_of% @cat0 ∧ type_of% @cat1 ∧ type_of% @cat2 ∧ type_of% @cat3 ∧ type_of% @cat4 ∧
    type_of% @q_iad ∧ type_of% @q_get ∧ type_of% @q_iadR ∧ type_of% @q_getR ∧ type_of% @wrap_succ ∧
    type_of% @foldF ∧ type_of% @foldT ∧ type_of% @foldI ∧ type_of% @foldK ∧
    type_of% @Nat.zero_add ∧ type_of% @Nat.mul_one ∧ type_of% @if_true.{1} ∧ type_of% @List.length_cons.{0} ∧ type_of% @List.length_nil.{0} ∧
    type_of% @decide_eq_true_eq ∧ type_of% @decide_eq_false_iff_not ∧ type_of% @Int.natCast_nonneg ∧ type_of% @Int.ofNat_lt ∧ type_of% @Int.ofNat_le ∧
    type_of% @true_and ∧ type_of% @and_true ∧ type_of% @Bool.not_eq_true' ∧ type_of% @Bool.not_eq_false' ∧ type_of% @Bool.false_eq_true ∧ type_of% @Bool.true_eq_false ∧
    type_of% @false_implies ∧ type_of% @true_implies ∧ type_of% @implies_true.{0} ∧ type_of% @if_false.{1} ∧ type_of% @bne_iff_ne.{0} ∧ type_of% @ne_eq.{1} ∧ type_of% @bne_eq_false_iff_eq.{0} ∧ type_of% @beq_iff_eq.{0} ∧ type_of% @beq_eq_false_iff_ne.{0} ∧
    type_of% @Bool.and_eq_true ∧ type_of% @Bool.or_eq_true ∧ type_of% @Bool.not_true ∧ type_of% @Bool.not_false ∧ type_of% @eq_self.{1} ∧ type_of% @not_true_eq_false ∧ type_of% @not_false_eq_true :=
  ⟨@den_p, @denS_some, @den_br, @denB_bool, @den_again, @ev_t, @ev_c, @ev_f, @env0_def, @put_eq, @put_ne2,
   @List.map_cons, @List.map_nil, @List.getD_cons_zero, @List.getD_cons_succ, @List.getElem?_cons_zero, @List.getElem?_cons_succ,
   @p_nck, @p_fad, @p_ld, @p_len, @p_leni, @p_len0, @p_add, @p_sub, @p_mul, @p_eql, @p_neq, @p_lss, @p_leq, @p_gtr, @p_geq, @p_not,
   @p_msl0, @p_msl1, @p_ext, @p_pick, @p_mka2, @p_eqs2, @p_eqs2', @p_boxc, @p_ldc, @p_msl2, @p_msl3, @p_msl4, @cat0, @cat1, @cat2, @cat3, @cat4,
   @q_iad, @q_get, @q_iadR, @q_getR, @wrap_succ, @foldF, @foldT, @foldI, @foldK, @Nat.zero_add, @Nat.mul_one, @if_true, @List.length_cons, @List.length_nil,
   @decide_eq_true_eq, @decide_eq_false_iff_not, @Int.natCast_nonneg, @Int.ofNat_lt, @Int.ofNat_le, @true_and, @and_true, @Bool.not_eq_true', @Bool.not_eq_false', @Bool.false_eq_true, @Bool.true_eq_false,
   @false_implies, @true_implies, @implies_true, @if_false, @bne_iff_ne, @ne_eq, @bne_eq_false_iff_eq, @beq_iff_eq, @beq_eq_false_iff_ne,
   @Bool.and_eq_true, @Bool.or_eq_true, @Bool.not_true, @Bool.not_false, @eq_self, @not_true_eq_false, @not_false_eq_true⟩

section
variable {c : Cat} {a b : Int}
end
end Go.Av
