/-
  Texts and numbers in decimal, the program's and the reference's; copies and comparisons of lists of pairs.
-/
import Derived.Test.YtbalggpkmaabmaaDoorAvV1
import Derived.Test.YtbalggpkmaabmaaDoorAvD3
import Derived.Test.YtbalggpkmaabmaaDoorAvK0
namespace Go.Av
open Classical
set_option linter.unusedSimpArgs false
set_option linter.unusedVariables false
variable {P : Program} {ν : Nat → FuncId}

def str (s : Txt) : AV := .v (.string s)
section
variable {H : Hp}
theorem p_adds {a b : Txt} (h : a.size + b.size ≤ 4611686018427387904) : pvf H (.bin .add) [str a, str b] = some (str (a ++ b)) := by
  simp [pvf, pBin, str, strBin, h]
theorem str_k {b : Array UInt8} : (AV.v (.string ⟨b⟩)) = str ⟨b⟩ := rfl
theorem p_neqs {a b : Txt} : pvf H (.bin .neq) [str a, str b] = some (bool (!(a.toList == b.toList))) := rfl
theorem p_ssls {s : Txt} {l h : Int} (h0 : 0 ≤ l) (h1 : l ≤ h) (h2 : h ≤ s.size) : pvf H (.ssl true true) [str s, int l, int h] = some (str (s.extract l.toNat h.toNat)) := by
  simp [pvf, pSsl, str, asI, int, h0, h1, h2]
theorem p_cvi8 {n : Int} (h0 : 0 ≤ n) (h1 : n < 256) : pvf H (.cvi .u8) [int n] = some (.v (.int .u8 n)) := by
  have : IntKind.u8.wrap n = n := by
    simp only [IntKind.wrap, IntKind.signed, IntKind.bits, Bool.false_and, Bool.false_eq_true, if_false]
    omega
  simp [pvf, pCvi, int, this]
theorem p_msl8 {n : Int} : pvf H (.msl 1 [.v (.int .u8 0)] [(0, 1)]) [.v (.int .u8 n)] = some (.sl [.v (.int .u8 n)] 1) := rfl
theorem p_b2s8 {n : Int} : pvf H .b2s [.sl [.v (.int .u8 n)] 1] = some (str (ByteArray.empty.push (UInt8.ofNat n.toNat))) := rfl
end
def digs1 : Txt := ⟨#[48, 49, 50, 51, 52, 53, 54, 55, 56, 57, 97, 98, 99, 100, 101, 102, 103, 104, 105, 106, 107, 108, 109, 110, 111, 112, 113, 114, 115, 116, 117, 118, 119, 120, 121, 122]⟩
def digs2 : Txt := ⟨#[48, 48, 48, 49, 48, 50, 48, 51, 48, 52, 48, 53, 48, 54, 48, 55, 48, 56, 48, 57, 49, 48, 49, 49, 49, 50, 49, 51, 49, 52, 49, 53, 49, 54, 49, 55, 49, 56, 49, 57, 50, 48, 50, 49, 50, 50, 50, 51, 50, 52, 50, 53, 50, 54, 50, 55, 50, 56, 50, 57, 51, 48, 51, 49, 51, 50, 51, 51, 51, 52, 51, 53, 51, 54, 51, 55, 51, 56, 51, 57, 52, 48, 52, 49, 52, 50, 52, 51, 52, 52, 52, 53, 52, 54, 52, 55, 52, 56, 52, 57, 53, 48, 53, 49, 53, 50, 53, 51, 53, 52, 53, 53, 53, 54, 53, 55, 53, 56, 53, 57, 54, 48, 54, 49, 54, 50, 54, 51, 54, 52, 54, 53, 54, 54, 54, 55, 54, 56, 54, 57, 55, 48, 55, 49, 55, 50, 55, 51, 55, 52, 55, 53, 55, 54, 55, 55, 55, 56, 55, 57, 56, 48, 56, 49, 56, 50, 56, 51, 56, 52, 56, 53, 56, 54, 56, 55, 56, 56, 56, 57, 57, 48, 57, 49, 57, 50, 57, 51, 57, 52, 57, 53, 57, 54, 57, 55, 57, 56, 57, 57]⟩
theorem dec1 : ∀ k : Fin 10, digs1.extract k.val (k.val + 1) = decT (k.val : Nat) := by decide +kernel
theorem dec2 : ∀ k : Fin 40, 10 ≤ k.val → digs2.extract (k.val * 2) (k.val * 2 + 2) = decT (k.val : Nat) := by decide +kernel
theorem size1 : digs1.size = 36 := by decide +kernel
theorem size2 : digs2.size = 200 := by decide +kernel
theorem str1 : AV.v (.string ⟨#[48, 49, 50, 51, 52, 53, 54, 55, 56, 57, 97, 98, 99, 100, 101, 102, 103, 104, 105, 106, 107, 108, 109, 110, 111, 112, 113, 114, 115, 116, 117, 118, 119, 120, 121, 122]⟩) = str digs1 := rfl
theorem str2 : AV.v (.string ⟨#[48, 48, 48, 49, 48, 50, 48, 51, 48, 52, 48, 53, 48, 54, 48, 55, 48, 56, 48, 57, 49, 48, 49, 49, 49, 50, 49, 51, 49, 52, 49, 53, 49, 54, 49, 55, 49, 56, 49, 57, 50, 48, 50, 49, 50, 50, 50, 51, 50, 52, 50, 53, 50, 54, 50, 55, 50, 56, 50, 57, 51, 48, 51, 49, 51, 50, 51, 51, 51, 52, 51, 53, 51, 54, 51, 55, 51, 56, 51, 57, 52, 48, 52, 49, 52, 50, 52, 51, 52, 52, 52, 53, 52, 54, 52, 55, 52, 56, 52, 57, 53, 48, 53, 49, 53, 50, 53, 51, 53, 52, 53, 53, 53, 54, 53, 55, 53, 56, 53, 57, 54, 48, 54, 49, 54, 50, 54, 51, 54, 52, 54, 53, 54, 54, 54, 55, 54, 56, 54, 57, 55, 48, 55, 49, 55, 50, 55, 51, 55, 52, 55, 53, 55, 54, 55, 55, 55, 56, 55, 57, 56, 48, 56, 49, 56, 50, 56, 51, 56, 52, 56, 53, 56, 54, 56, 55, 56, 56, 56, 57, 57, 48, 57, 49, 57, 50, 57, 51, 57, 52, 57, 53, 57, 54, 57, 55, 57, 56, 57, 57]⟩) = str digs2 := rfl
def V_internal_strconv_small : Vc :=
  .op true (.p (.bin .lss) [.t 0, .c (int 10)]) <|
  .br 1
   (.op true (.p (.bin .add) [.t 0, .c (int 1)]) <|
   .op true (.p (.ssl true true) [.c (.v (.string ⟨#[48, 49, 50, 51, 52, 53, 54, 55, 56, 57, 97, 98, 99, 100, 101, 102, 103, 104, 105, 106, 107, 108, 109, 110, 111, 112, 113, 114, 115, 116, 117, 118, 119, 120, 121, 122]⟩)), .t 0, .t 2]) <|
   .ret [(.t 3, none)])
   (.op true (.p (.bin .mul) [.t 0, .c (int 2)]) <|
   .op true (.p (.bin .mul) [.t 0, .c (int 2)]) <|
   .op true (.p (.bin .add) [.t 3, .c (int 2)]) <|
   .op true (.p (.ssl true true) [.c (.v (.string ⟨#[48, 48, 48, 49, 48, 50, 48, 51, 48, 52, 48, 53, 48, 54, 48, 55, 48, 56, 48, 57, 49, 48, 49, 49, 49, 50, 49, 51, 49, 52, 49, 53, 49, 54, 49, 55, 49, 56, 49, 57, 50, 48, 50, 49, 50, 50, 50, 51, 50, 52, 50, 53, 50, 54, 50, 55, 50, 56, 50, 57, 51, 48, 51, 49, 51, 50, 51, 51, 51, 52, 51, 53, 51, 54, 51, 55, 51, 56, 51, 57, 52, 48, 52, 49, 52, 50, 52, 51, 52, 52, 52, 53, 52, 54, 52, 55, 52, 56, 52, 57, 53, 48, 53, 49, 53, 50, 53, 51, 53, 52, 53, 53, 53, 54, 53, 55, 53, 56, 53, 57, 54, 48, 54, 49, 54, 50, 54, 51, 54, 52, 54, 53, 54, 54, 54, 55, 54, 56, 54, 57, 55, 48, 55, 49, 55, 50, 55, 51, 55, 52, 55, 53, 55, 54, 55, 55, 55, 56, 55, 57, 56, 48, 56, 49, 56, 50, 56, 51, 56, 52, 56, 53, 56, 54, 56, 55, 56, 56, 56, 57, 57, 48, 57, 49, 57, 50, 57, 51, 57, 52, 57, 53, 57, 54, 57, 55, 57, 56, 57, 57]⟩)), .t 2, .t 4]) <|
   .ret [(.t 5, none)])
set_option maxRecDepth 20000 in
theorem small_fz (h : Has P ν 431 1 V_internal_strconv_small) (n : Int) (h0 : 0 ≤ n) (h1 : n ≤ 39) : Fz (OkM P ν) 431 [int n] (str (decT n)) := by
  refine Fn.fz (fun H nx => h _ _ _ _ rfl fun hwf => ?_) fun _ => rfl
  unfold V_internal_strconv_small
  obtain ⟨k, rfl⟩ := Int.eq_ofNat_of_zero_le h0
  have w1 : IntKind.i64.wrap ((k : Int) + 1) = k + 1 := wrap_id (by omega) (by omega)
  have w2 : IntKind.i64.wrap ((k : Int) * 2) = k * 2 := wrap_id (by omega) (by omega)
  have w3 : IntKind.i64.wrap ((k : Int) * 2 + 2) = k * 2 + 2 := wrap_id (by omega) (by omega)
  by_cases c : (k : Int) < 10
  · have z := size1
    have pt : ∀ H, pvf H (.ssl true true) [str digs1, int (k : Int), int ((k : Int) + 1)] = some (str (decT (k : Int))) := fun H => by
      rw [p_ssls (by omega) (by omega) (by omega)]
      have := dec1 ⟨k, by omega⟩
      simp only [Int.toNat_natCast, show ((k : Int) + 1).toNat = k + 1 by omega]
      rw [this]
    try simp (disch := (first | rfl | with_reducible assumption | with_reducible solve_by_elim (maxDepth := 8) [Shape.inT, Shape.inI, Shape.inC, Shape.inK, Shape.obF, Shape.obT, Shape.arI, Arr.inF] | omega)) only [S2, Nat.reduceEqDiff, Nat.reduceAdd, iput, puts, c, w1, str1, pt]
    exact ⟨_, rfl, H, fun _ _ h => h, rfl, rfl, Nat.le_refl _⟩
  · have z := size2
    have pt : ∀ H, pvf H (.ssl true true) [str digs2, int ((k : Int) * 2), int ((k : Int) * 2 + 2)] = some (str (decT (k : Int))) := fun H => by
      rw [p_ssls (by omega) (by omega) (by omega)]
      have := dec2 ⟨k, by omega⟩ (by simp only; omega)
      simp only [show ((k : Int) * 2).toNat = k * 2 by omega, show ((k : Int) * 2 + 2).toNat = k * 2 + 2 by omega]
      rw [this]
    try simp (disch := (first | rfl | with_reducible assumption | with_reducible solve_by_elim (maxDepth := 8) [Shape.inT, Shape.inI, Shape.inC, Shape.inK, Shape.obF, Shape.obT, Shape.arI, Arr.inF] | omega)) only [S2, Nat.reduceEqDiff, Nat.reduceAdd, iput, puts, c, w2, w3, str2, pt]
    exact ⟨_, rfl, H, fun _ _ h => h, rfl, rfl, Nat.le_refl _⟩
def V_internal_strconv_FormatInt : Vc :=
  .op true (.p (.bin .eql) [.t 1, .c (int 10)]) <|
  .br 2
   (.op true (.p (.bin .leq) [.c (int 0), .t 0]) <|
   .br 3
    (.op true (.p (.bin .lss) [.t 0, .c (int 100)]) <|
    .br 4
     (.op true (.call (.f 431) [.t 0]) <|
     .ret [(.t 5, none)])
     (.op true (.new [.v (.int .u8 0), .v (.int .u8 0), .v (.int .u8 0), .v (.int .u8 0), .v (.int .u8 0), .v (.int .u8 0), .v (.int .u8 0), .v (.int .u8 0), .v (.int .u8 0), .v (.int .u8 0), .v (.int .u8 0), .v (.int .u8 0), .v (.int .u8 0), .v (.int .u8 0), .v (.int .u8 0), .v (.int .u8 0), .v (.int .u8 0), .v (.int .u8 0), .v (.int .u8 0), .v (.int .u8 0), .v (.int .u8 0), .v (.int .u8 0), .v (.int .u8 0), .v (.int .u8 0)]) <|
     .op true (.p (.cvi .u64) [.t 0]) <|
     .op true (.p (.bin .lss) [.t 0, .c (int 0)]) <|
     .br 7
      (.op true (.p (.ld none) []) <|
      .op true (.call (.f 432) [.t 6]) <|
      .op true (.p (.ld none) []) <|
      .op true (.p (.bin .lss) [.t 0, .c (int 0)]) <|
      .br 11
       (.op true (.p (.ld none) []) <|
       .op true (.p (.ld none) []) <|
       .ret [(.c (.v (.string ⟨#[]⟩)), none)])
       (.op true (.p (.ld none) []) <|
       .ret [(.c (.v (.string ⟨#[]⟩)), none)]))
      (.op true (.call (.f 432) [.t 6]) <|
      .op true (.p (.ld none) []) <|
      .op true (.p (.bin .lss) [.t 0, .c (int 0)]) <|
      .br 10
       (.op true (.p (.ld none) []) <|
       .op true (.p (.ld none) []) <|
       .ret [(.c (.v (.string ⟨#[]⟩)), none)])
       (.op true (.p (.ld none) []) <|
       .ret [(.c (.v (.string ⟨#[]⟩)), none)]))))
    (.op true (.new [.v (.int .u8 0), .v (.int .u8 0), .v (.int .u8 0), .v (.int .u8 0), .v (.int .u8 0), .v (.int .u8 0), .v (.int .u8 0), .v (.int .u8 0), .v (.int .u8 0), .v (.int .u8 0), .v (.int .u8 0), .v (.int .u8 0), .v (.int .u8 0), .v (.int .u8 0), .v (.int .u8 0), .v (.int .u8 0), .v (.int .u8 0), .v (.int .u8 0), .v (.int .u8 0), .v (.int .u8 0), .v (.int .u8 0), .v (.int .u8 0), .v (.int .u8 0), .v (.int .u8 0)]) <|
    .op true (.p (.cvi .u64) [.t 0]) <|
    .op true (.p (.bin .lss) [.t 0, .c (int 0)]) <|
    .br 6
     (.op true (.p (.ld none) []) <|
     .op true (.call (.f 432) [.t 5]) <|
     .op true (.p (.ld none) []) <|
     .op true (.p (.bin .lss) [.t 0, .c (int 0)]) <|
     .br 10
      (.op true (.p (.ld none) []) <|
      .op true (.p (.ld none) []) <|
      .ret [(.c (.v (.string ⟨#[]⟩)), none)])
      (.op true (.p (.ld none) []) <|
      .ret [(.c (.v (.string ⟨#[]⟩)), none)]))
     (.op true (.call (.f 432) [.t 5]) <|
     .op true (.p (.ld none) []) <|
     .op true (.p (.bin .lss) [.t 0, .c (int 0)]) <|
     .br 9
      (.op true (.p (.ld none) []) <|
      .op true (.p (.ld none) []) <|
      .ret [(.c (.v (.string ⟨#[]⟩)), none)])
      (.op true (.p (.ld none) []) <|
      .ret [(.c (.v (.string ⟨#[]⟩)), none)]))))
   (.op true (.p (.cvi .u64) [.t 0]) <|
   .op true (.p (.bin .lss) [.t 0, .c (int 0)]) <|
   .op true (.call (.f 434) [.c (.nil), .t 3, .t 1, .t 4, .c (bool false)]) <|
   .op true (.p (.ext 0) [.t 5]) <|
   .op true (.p (.ext 1) [.t 5]) <|
   .ret [(.t 7, none)])
theorem formatInt_fz (hs : Has P ν 431 1 V_internal_strconv_small) (h : Has P ν 424 2 V_internal_strconv_FormatInt) (n : Int) (h0 : 0 ≤ n) (h1 : n ≤ 39) : Fz (OkM P ν) 424 [int n, int 10] (str (decT n)) := by
  refine Fn.fz (fun H nx => h _ _ _ _ rfl fun hwf => ?_) fun _ => rfl
  unfold V_internal_strconv_FormatInt
  have c1 : n < 100 := by omega
  repeat (first | simp (disch := (first | rfl | with_reducible assumption | with_reducible solve_by_elim (maxDepth := 8) [Shape.inT, Shape.inI, Shape.inC, Shape.inK, Shape.obF, Shape.obT, Shape.arI, Arr.inF] | omega)) only [S2, Nat.reduceEqDiff, Nat.reduceAdd, iput, puts, h0, c1] | (refine den_call rfl (by first | (simp only [SS, Nat.reduceEqDiff, Nat.reduceAdd, iput, puts, FF, frzL_cat]; done) | (simp only [SS, Nat.reduceEqDiff, Nat.reduceAdd, iput, puts, FF, frzL_cat]; rfl)) (by first | exact small_fz hs n h0 h1) ?_) | (refine den_calli rfl (by first | (simp only [SS, Nat.reduceEqDiff, Nat.reduceAdd, iput, puts, FF, frzL_cat]; done) | (simp only [SS, Nat.reduceEqDiff, Nat.reduceAdd, iput, puts, FF, frzL_cat]; rfl)) (by first | exact small_fz hs n h0 h1) ?_))
  exact ⟨_, rfl, H, fun _ _ h => h, rfl, rfl, Nat.le_refl _⟩
def V_strconv_FormatInt : Vc :=
  .op true (.call (.f 424) [.t 0, .t 1]) <|
  .ret [(.t 2, none)]
theorem sFormatInt_fz (hs : Has P ν 431 1 V_internal_strconv_small) (hf : Has P ν 424 2 V_internal_strconv_FormatInt) (h : Has P ν 387 2 V_strconv_FormatInt) (n : Int) (h0 : 0 ≤ n) (h1 : n ≤ 39) : Fz (OkM P ν) 387 [int n, int 10] (str (decT n)) := by
  refine Fn.fz (fun H nx => h _ _ _ _ rfl fun hwf => ?_) fun _ => rfl
  unfold V_strconv_FormatInt
  repeat (first | simp (disch := (first | rfl | with_reducible assumption | with_reducible solve_by_elim (maxDepth := 8) [Shape.inT, Shape.inI, Shape.inC, Shape.inK, Shape.obF, Shape.obT, Shape.arI, Arr.inF] | omega)) only [S2, Nat.reduceEqDiff, Nat.reduceAdd, iput, puts] | (refine den_call rfl (by first | (simp only [SS, Nat.reduceEqDiff, Nat.reduceAdd, iput, puts, FF, frzL_cat]; done) | (simp only [SS, Nat.reduceEqDiff, Nat.reduceAdd, iput, puts, FF, frzL_cat]; rfl)) (by first | exact formatInt_fz hs hf n h0 h1) ?_) | (refine den_calli rfl (by first | (simp only [SS, Nat.reduceEqDiff, Nat.reduceAdd, iput, puts, FF, frzL_cat]; done) | (simp only [SS, Nat.reduceEqDiff, Nat.reduceAdd, iput, puts, FF, frzL_cat]; rfl)) (by first | exact formatInt_fz hs hf n h0 h1) ?_))
  exact ⟨_, rfl, H, fun _ _ h => h, rfl, rfl, Nat.le_refl _⟩
def V_spec_l01Dec : Vc :=
  .op true (.p (.bin .lss) [.t 0, .c (int 10)]) <|
  .br 1
   (.op true (.p (.bin .add) [.c (int 48), .t 0]) <|
   .op true (.p (.cvi .u8) [.t 2]) <|
   .op true (.p (.msl 1 [.v (.int .u8 0)] [(0, 1)]) [.t 3]) <|
   .op true (.p .b2s [.t 4]) <|
   .ret [(.t 5, none)])
   (.op true (.p (.bin .quo) [.t 0, .c (int 10)]) <|
   .op true (.call (.f 385) [.t 2]) <|
   .op true (.p (.bin .rem) [.t 0, .c (int 10)]) <|
   .op true (.p (.bin .add) [.c (int 48), .t 4]) <|
   .op true (.p (.cvi .u8) [.t 5]) <|
   .op true (.p (.msl 1 [.v (.int .u8 0)] [(0, 1)]) [.t 6]) <|
   .op true (.p .b2s [.t 7]) <|
   .op true (.p (.bin .add) [.t 3, .t 8]) <|
   .ret [(.t 9, none)])
theorem l01Dec1_fz (h : Has P ν 385 1 V_spec_l01Dec) (n : Int) (h0 : 0 ≤ n) (h1 : n < 10) : Fz (OkM P ν) 385 [int n] (str (ByteArray.empty.push (UInt8.ofNat (48 + n).toNat))) := by
  refine Fn.fz (fun H nx => h _ _ _ _ rfl fun hwf => ?_) fun _ => rfl
  unfold V_spec_l01Dec
  have w1 : IntKind.i64.wrap (48 + n) = 48 + n := wrap_id (by omega) (by omega)
  try simp (disch := (first | rfl | with_reducible assumption | with_reducible solve_by_elim (maxDepth := 8) [Shape.inT, Shape.inI, Shape.inC, Shape.inK, Shape.obF, Shape.obT, Shape.arI, Arr.inF] | omega)) only [S2, Nat.reduceEqDiff, Nat.reduceAdd, iput, puts, h1, w1, p_cvi8 (n := 48 + n) (by omega) (by omega), p_msl8, p_b2s8]
  exact ⟨_, rfl, H, fun _ _ h => h, rfl, rfl, Nat.le_refl _⟩
theorem l01Dec_fz (h : Has P ν 385 1 V_spec_l01Dec) (n : Int) (h0 : 0 ≤ n) (h1 : n ≤ 39) : Fz (OkM P ν) 385 [int n] (str (decT n)) := by
  by_cases c : n < 10
  · have := l01Dec1_fz h n h0 c
    unfold decT
    rwa [if_pos c]
  refine Fn.fz (fun H nx => h _ _ _ _ rfl fun hwf => ?_) fun _ => rfl
  unfold V_spec_l01Dec
  have q : n.tdiv 10 = n / 10 := Int.tdiv_eq_ediv_of_nonneg h0
  have m : n.tmod 10 = n % 10 := Int.tmod_eq_emod_of_nonneg h0
  have w0 : IntKind.i64.wrap (n / 10) = n / 10 := wrap_id (by omega) (by omega)
  have pq : ∀ H, pvf H (.bin .quo) [int n, int 10] = some (int (n / 10)) := fun H => by simp [pvf, pBin, int, intBin, q, w0]
  have pm : ∀ H, pvf H (.bin .rem) [int n, int 10] = some (int (n % 10)) := fun H => by simp [pvf, pBin, int, intBin, m]
  have w1 : IntKind.i64.wrap (48 + n % 10) = 48 + n % 10 := wrap_id (by omega) (by omega)
  have sz : ∀ a b : UInt8, (ByteArray.empty.push a).size + (ByteArray.empty.push b).size ≤ 4611686018427387904 := fun a b => by simp [ByteArray.size_push]
  have e : decT n = ByteArray.empty.push (UInt8.ofNat (48 + n / 10).toNat) ++ ByteArray.empty.push (UInt8.ofNat (48 + n % 10).toNat) := by unfold decT; rw [if_neg c]
  rw [e]
  repeat (first | simp (disch := (first | rfl | with_reducible assumption | with_reducible solve_by_elim (maxDepth := 8) [Shape.inT, Shape.inI, Shape.inC, Shape.inK, Shape.obF, Shape.obT, Shape.arI, Arr.inF] | omega)) only [S2, Nat.reduceEqDiff, Nat.reduceAdd, iput, puts, c, pq, pm, w1, p_cvi8 (n := 48 + n % 10) (by omega) (by omega), p_msl8, p_b2s8, p_adds (sz _ _)] | (refine den_call rfl (by first | (simp only [SS, Nat.reduceEqDiff, Nat.reduceAdd, iput, puts, FF, frzL_cat]; done) | (simp only [SS, Nat.reduceEqDiff, Nat.reduceAdd, iput, puts, FF, frzL_cat]; rfl)) (by first | exact l01Dec1_fz h (n / 10) (by omega) (by omega)) ?_) | (refine den_calli rfl (by first | (simp only [SS, Nat.reduceEqDiff, Nat.reduceAdd, iput, puts, FF, frzL_cat]; done) | (simp only [SS, Nat.reduceEqDiff, Nat.reduceAdd, iput, puts, FF, frzL_cat]; rfl)) (by first | exact l01Dec1_fz h (n / 10) (by omega) (by omega)) ?_))
  exact ⟨_, rfl, H, fun _ _ h => h, rfl, rfl, Nat.le_refl _⟩
end Go.Av
