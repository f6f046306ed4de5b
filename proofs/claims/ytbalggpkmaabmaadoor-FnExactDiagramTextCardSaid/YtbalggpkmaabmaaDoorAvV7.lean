/-
  The statement on texts of diagrams.
-/
import Derived.Test.YtbalggpkmaabmaaDoorAvV6
import Derived.Test.YtbalggpkmaabmaaDoorAvO1
namespace Go.Av
open Classical
set_option linter.unusedSimpArgs false
set_option linter.unusedVariables false
variable {P : Program} {ν : Nat → FuncId}

def prTy : Ty := .sl (.pair .int (.pair .int .unit))
theorem ShpV.prs {a : AV} (h : ShpV prTy a) : ∃ L : List Pr, a = .sl (prCells L) L.length ∧ L.length ≤ 9223372036854775807 := by
  cases h with
  | one h =>
    cases h with
    | sl rs hl hr =>
      have : ∃ L : List Pr, rs = L.map pr2c := by
        clear hl
        induction rs with
        | nil => exact ⟨[], rfl⟩
        | cons r rs ih =>
          obtain ⟨L, rfl⟩ := ih fun r hr' => hr r (List.mem_cons_of_mem _ hr')
          have h1 := hr r (List.mem_cons_self ..)
          cases h1 with
          | pair hx hy =>
            cases hy with
            | pair hy hu =>
              cases hu
              cases hx with
              | int a _ _ =>
                cases hy with
                | int b _ _ => exact ⟨(a, b) :: L, rfl⟩
      obtain ⟨L, rfl⟩ := this
      refine ⟨L, ?_, by simpa using hl⟩
      simp [prCells, List.flatMap]
noncomputable def dTxt (L : List Pr) : Txt := if h : IsDia L then Classical.choose h.text else ⟨#[]⟩
noncomputable def dErr (L : List Pr) : Int := if IsDia L then 0 else 1
theorem dTxt_ok {L : List Pr} (h : IsDia L) : Dgs L 0 L.length (dTxt L) := by
  unfold dTxt
  rw [dif_pos h]
  exact Classical.choose_spec h.text
theorem dTxt_no {L : List Pr} (h : ¬ IsDia L) : dTxt L = ⟨#[]⟩ := by unfold dTxt; rw [dif_neg h]
def V_DiagramText : Vc :=
  .op true (.call (.f 272) [.t 0]) <|
  .op true (.p .bnot [.t 1]) <|
  .br 2
   (.ret [(.c (.v (.string ⟨#[]⟩)), none), (.c (int 1), none)])
   (.op true (.call (.f 273) [.t 0, .c (int 0)]) <|
   .op true (.p (.ext 0) [.t 3]) <|
   .op true (.p (.ext 1) [.t 3]) <|
   .ret [(.t 4, none), (.c (int 0), none)])
theorem DiagramText_fz (hin : Has P ν 32 3 V_inRange) (hop : Has P ν 386 2 V_operandEnd) (hi : Has P ν 272 1 V_isDiagram) (hs : Has P ν 431 1 V_internal_strconv_small) (hf : Has P ν 424 2 V_internal_strconv_FormatInt) (hF : Has P ν 387 2 V_strconv_FormatInt) (hg : Has P ν 388 2 V_grouped) (hd : Has P ν 273 2 V_diagramText) (h : Has P ν 134 1 V_DiagramText) (L : List Pr) (hl : L.length ≤ 1048576) :
    Fz (OkM P ν) 134 [.sl (prCells L) L.length] (.tup [str (dTxt L), int (dErr L)]) := by
  refine Fn.fz (fun H nx => h _ _ _ _ rfl fun hwf => ?_) fun H => frz_ts H _ _
  unfold V_DiagramText
  repeat (first | simp (disch := (first | rfl | with_reducible assumption | with_reducible solve_by_elim (maxDepth := 8) [Shape.inT, Shape.inI, Shape.inC, Shape.inK, Shape.obF, Shape.obT, Shape.arI, Arr.inF] | omega)) only [S2, Nat.reduceEqDiff, Nat.reduceAdd, iput, puts] | (refine den_call rfl (by first | (simp only [SS, Nat.reduceEqDiff, Nat.reduceAdd, iput, puts, FF, frzL_cat]; done) | (simp only [SS, Nat.reduceEqDiff, Nat.reduceAdd, iput, puts, FF, frzL_cat]; rfl)) (by first | exact isDiagram_fz hin hop hi L hl) ?_) | (refine den_calli rfl (by first | (simp only [SS, Nat.reduceEqDiff, Nat.reduceAdd, iput, puts, FF, frzL_cat]; done) | (simp only [SS, Nat.reduceEqDiff, Nat.reduceAdd, iput, puts, FF, frzL_cat]; rfl)) (by first | exact isDiagram_fz hin hop hi L hl) ?_))
  refine ⟨fun q => ?_, fun q => ?_⟩
  · have q : ¬ IsDia L := by simpa using q
    rw [dTxt_no q, show dErr L = 1 from if_neg q]
    exact ⟨_, rfl, _, fun _ _ h => h, rfl, rfl, Nat.le_refl _⟩
  · have q : IsDia L := by simpa using q
    rw [show dErr L = 0 from if_pos q]
    have d : Fz (OkM P ν) 273 [.sl (prCells L) L.length, int 0] (.tup [str (dTxt L), int L.length]) := diagramText_fz hs hf hF hg hd L q.len (dTxt_ok q)
    repeat (first | simp (disch := (first | rfl | with_reducible assumption | with_reducible solve_by_elim (maxDepth := 8) [Shape.inT, Shape.inI, Shape.inC, Shape.inK, Shape.obF, Shape.obT, Shape.arI, Arr.inF] | omega)) only [S2, Nat.reduceEqDiff, Nat.reduceAdd, iput, puts] | (refine den_call rfl (by first | (simp only [SS, Nat.reduceEqDiff, Nat.reduceAdd, iput, puts, FF, frzL_cat]; done) | (simp only [SS, Nat.reduceEqDiff, Nat.reduceAdd, iput, puts, FF, frzL_cat]; rfl)) (by first | exact d) ?_) | (refine den_calli rfl (by first | (simp only [SS, Nat.reduceEqDiff, Nat.reduceAdd, iput, puts, FF, frzL_cat]; done) | (simp only [SS, Nat.reduceEqDiff, Nat.reduceAdd, iput, puts, FF, frzL_cat]; rfl)) (by first | exact d) ?_))
    exact ⟨_, rfl, _, fun _ _ h => h, rfl, rfl, Nat.le_refl _⟩
def V_spec_DiagramText : Vc :=
  .op true (.call (.f 269) [.t 0]) <|
  .op true (.p .bnot [.t 1]) <|
  .br 2
   (.ret [(.c (.v (.string ⟨#[]⟩)), none), (.c (int 1), none)])
   (.op true (.call (.f 270) [.t 0, .c (int 0)]) <|
   .op true (.p (.ext 0) [.t 3]) <|
   .op true (.p (.ext 1) [.t 3]) <|
   .ret [(.t 4, none), (.c (int 0), none)])
theorem sDiagramText_fz (hin : Has P ν 35 3 V_spec_l01In) (hn : Has P ν 384 1 V_spec_l35Node) (hi : Has P ν 269 1 V_spec_IsDiagram) (hc : Has P ν 385 1 V_spec_l01Dec) (hd : Has P ν 270 2 V_spec_l35Print) (h : Has P ν 132 1 V_spec_DiagramText) (L : List Pr) (hl : L.length ≤ 1048576) :
    Fz (OkM P ν) 132 [.sl (prCells L) L.length] (.tup [str (dTxt L), int (dErr L)]) := by
  refine Fn.fz (fun H nx => h _ _ _ _ rfl fun hwf => ?_) fun H => frz_ts H _ _
  unfold V_spec_DiagramText
  repeat (first | simp (disch := (first | rfl | with_reducible assumption | with_reducible solve_by_elim (maxDepth := 8) [Shape.inT, Shape.inI, Shape.inC, Shape.inK, Shape.obF, Shape.obT, Shape.arI, Arr.inF] | omega)) only [S2, Nat.reduceEqDiff, Nat.reduceAdd, iput, puts] | (refine den_call rfl (by first | (simp only [SS, Nat.reduceEqDiff, Nat.reduceAdd, iput, puts, FF, frzL_cat]; done) | (simp only [SS, Nat.reduceEqDiff, Nat.reduceAdd, iput, puts, FF, frzL_cat]; rfl)) (by first | exact sIsDiagram_fz hin hn hi L hl) ?_) | (refine den_calli rfl (by first | (simp only [SS, Nat.reduceEqDiff, Nat.reduceAdd, iput, puts, FF, frzL_cat]; done) | (simp only [SS, Nat.reduceEqDiff, Nat.reduceAdd, iput, puts, FF, frzL_cat]; rfl)) (by first | exact sIsDiagram_fz hin hn hi L hl) ?_))
  refine ⟨fun q => ?_, fun q => ?_⟩
  · have q : ¬ IsDia L := by simpa using q
    rw [dTxt_no q, show dErr L = 1 from if_neg q]
    exact ⟨_, rfl, _, fun _ _ h => h, rfl, rfl, Nat.le_refl _⟩
  · have q : IsDia L := by simpa using q
    rw [show dErr L = 0 from if_pos q]
    have d : Fz (OkM P ν) 270 [.sl (prCells L) L.length, int 0] (.tup [str (dTxt L), int L.length]) := l35Print_fz hc hd L q.len q.ok (dTxt_ok q)
    repeat (first | simp (disch := (first | rfl | with_reducible assumption | with_reducible solve_by_elim (maxDepth := 8) [Shape.inT, Shape.inI, Shape.inC, Shape.inK, Shape.obF, Shape.obT, Shape.arI, Arr.inF] | omega)) only [S2, Nat.reduceEqDiff, Nat.reduceAdd, iput, puts] | (refine den_call rfl (by first | (simp only [SS, Nat.reduceEqDiff, Nat.reduceAdd, iput, puts, FF, frzL_cat]; done) | (simp only [SS, Nat.reduceEqDiff, Nat.reduceAdd, iput, puts, FF, frzL_cat]; rfl)) (by first | exact d) ?_) | (refine den_calli rfl (by first | (simp only [SS, Nat.reduceEqDiff, Nat.reduceAdd, iput, puts, FF, frzL_cat]; done) | (simp only [SS, Nat.reduceEqDiff, Nat.reduceAdd, iput, puts, FF, frzL_cat]; rfl)) (by first | exact d) ?_))
    exact ⟨_, rfl, _, fun _ _ h => h, rfl, rfl, Nat.le_refl _⟩
theorem neSelfS {H : Hp} {s : Txt} : pvf H (.bin .neq) [str s, str s] = some (bool false) := by simp [p_neqs]
def V_laws_FnExactDiagramText : Vc :=
  .op true (.call (.f 131) [.t 0, .c (int 1048576)]) <|
  .op true (.p (.bin .lss) [.t 1, .c (int 0)]) <|
  .br 2
   (.ret [(.c (bool true), none)])
   (.op true (.call (.f 133) [.t 0]) <|
   .op true (.call (.f 132) [.t 3]) <|
   .op true (.p (.ext 0) [.t 4]) <|
   .op true (.p (.ext 1) [.t 4]) <|
   .op true (.call (.f 133) [.t 0]) <|
   .op true (.call (.f 134) [.t 7]) <|
   .op true (.p (.ext 0) [.t 8]) <|
   .op true (.p (.ext 1) [.t 8]) <|
   .op true (.p (.bin .neq) [.t 9, .t 5]) <|
   .br 11
    (.ret [(.c (bool false), none)])
    (.op true (.p (.bin .neq) [.t 10, .t 6]) <|
    .br 12
     (.ret [(.c (bool false), none)])
     (.op true (.call (.f 133) [.t 0]) <|
     .op true (.call (.f 135) [.t 7, .t 13]) <|
     .op true (.p .bnot [.t 14]) <|
     .br 15
      (.ret [(.c (bool false), none)])
      (.ret [(.c (bool true), none)]))))
theorem law_DiagramText (k1 : Has P ν 32 3 V_inRange) (k2 : Has P ν 386 2 V_operandEnd) (k3 : Has P ν 272 1 V_isDiagram) (k4 : Has P ν 431 1 V_internal_strconv_small) (k5 : Has P ν 424 2 V_internal_strconv_FormatInt) (k6 : Has P ν 387 2 V_strconv_FormatInt) (k7 : Has P ν 388 2 V_grouped) (k8 : Has P ν 273 2 V_diagramText) (k9 : Has P ν 134 1 V_DiagramText) (s1 : Has P ν 35 3 V_spec_l01In) (s2 : Has P ν 384 1 V_spec_l35Node) (s3 : Has P ν 269 1 V_spec_IsDiagram) (s4 : Has P ν 385 1 V_spec_l01Dec) (s5 : Has P ν 270 2 V_spec_l35Print) (s6 : Has P ν 132 1 V_spec_DiagramText) (t1 : Has P ν 131 2 V_laws_szDiagramNodeS) (t2 : Has P ν 271 1 V_laws_toDiagramNode) (t3 : Has P ν 133 1 V_laws_toDiagramNodeS) (t4 : Has P ν 274 2 V_laws_eqDiagramNode) (t5 : Has P ν 135 2 V_laws_eqDiagramNodeS) (h : Has P ν 54 1 V_laws_FnExactDiagramText) (L : List Pr) (hl : L.length ≤ 9223372036854775807) :
    OkM P ν 54 [.sl (prCells L) L.length] hempty 0 (fun r _ _ => r = bool true) := by
  refine h _ _ _ _ rfl fun hwf => ?_
  unfold V_laws_FnExactDiagramText
  repeat (first | simp (disch := (first | rfl | with_reducible assumption | with_reducible solve_by_elim (maxDepth := 8) [Shape.inT, Shape.inI, Shape.inC, Shape.inK, Shape.obF, Shape.obT, Shape.arI, Arr.inF] | omega)) only [S2, Nat.reduceEqDiff, Nat.reduceAdd, iput, puts] | (refine den_call rfl (by first | (simp only [SS, Nat.reduceEqDiff, Nat.reduceAdd, iput, puts, FF, frzL_cat]; done) | (simp only [SS, Nat.reduceEqDiff, Nat.reduceAdd, iput, puts, FF, frzL_cat]; rfl)) (by first | exact (szDN_ok t1 L 1048576 (by omega) (by omega) hl).fzi) ?_) | (refine den_calli rfl (by first | (simp only [SS, Nat.reduceEqDiff, Nat.reduceAdd, iput, puts, FF, frzL_cat]; done) | (simp only [SS, Nat.reduceEqDiff, Nat.reduceAdd, iput, puts, FF, frzL_cat]; rfl)) (by first | exact (szDN_ok t1 L 1048576 (by omega) (by omega) hl).fzi) ?_))
  refine ⟨fun q => ?_, fun q => ?_⟩
  · exact ⟨_, rfl, hempty, fun _ _ h => h, rfl⟩
  have b : L.length ≤ 1048576 := by split at q <;> omega
  repeat (first | simp (disch := (first | rfl | with_reducible assumption | with_reducible solve_by_elim (maxDepth := 8) [Shape.inT, Shape.inI, Shape.inC, Shape.inK, Shape.obF, Shape.obT, Shape.arI, Arr.inF] | omega)) only [S2, Nat.reduceEqDiff, Nat.reduceAdd, iput, puts, neSelfS, neSelf] | (refine den_call rfl (by first | (simp only [SS, Nat.reduceEqDiff, Nat.reduceAdd, iput, puts, FF, frzL_cat]; done) | (simp only [SS, Nat.reduceEqDiff, Nat.reduceAdd, iput, puts, FF, frzL_cat]; rfl)) (by first | exact toDNS_fz t2 t3 L b | exact DiagramText_fz k1 k2 k3 k4 k5 k6 k7 k8 k9 L b | exact sDiagramText_fz s1 s2 s3 s4 s5 s6 L b | exact eqDNS_same t4 t5 L b) ?_) | (refine den_calli rfl (by first | (simp only [SS, Nat.reduceEqDiff, Nat.reduceAdd, iput, puts, FF, frzL_cat]; done) | (simp only [SS, Nat.reduceEqDiff, Nat.reduceAdd, iput, puts, FF, frzL_cat]; rfl)) (by first | exact toDNS_fz t2 t3 L b | exact DiagramText_fz k1 k2 k3 k4 k5 k6 k7 k8 k9 L b | exact sDiagramText_fz s1 s2 s3 s4 s5 s6 L b | exact eqDNS_same t4 t5 L b) ?_))
  exact ⟨_, rfl, hempty, fun _ _ h => h, rfl⟩
end Go.Av
