/-
  For every input the statement on DiagramText answers true: the seat's functions in the layer's second form, each checked by the kernel against the translation, then the row. No condition.
-/
import Derived.Test.YtbalggpkmaabmaaDoorRows
import Derived.Test.YtbalggpkmaabmaaDoorAvV7
import Derived.Test.YtbalggpkmaabmaaDoorAvO1
import Derived.Test.YtbalggpkmaabmaaDoorTie
import Derived.Test.YtbalggpkmaabmaaDoorCards
import Derived.ProofKit
import Derived.Handed
import Derived.LaidLaws
import Derived.Lay
import Derived.MakeChecks
import Derived.SevenTiedAt
namespace Go.Proofs.YtbalggpkmaabmaaDoor.FnExactDiagramText
open Go.Av
def tab : List (Nat × Nat) := [(3, 54), (4, 131), (5, 132), (6, 133), (7, 134), (8, 135), (9, 269), (10, 270), (11, 271), (12, 272), (13, 273), (14, 274), (15, 384), (16, 385), (17, 32), (18, 386), (19, 387), (20, 388), (21, 35), (22, 424), (23, 431), (24, 432), (25, 433), (26, 434), (27, 435), (28, 436), (29, 437), (30, 438), (31, 439), (32, 440), (33, 441)]
theorem tabOk : ∀ f id, seatNum tab f = some id → seatFn tab id = f := seat_inv (by decide +kernel)
theorem h_inRange : Has Tryd.prog (seatFn tab) 32 3 V_inRange := has_of tabOk (hint := []) (fn := Tryd.f17) (by kernel_rfl) (show Tryd.prog.funcs[17]? = some Tryd.f17 from Tryd.func17) (by kernel_rfl)
theorem h_spec_l01In : Has Tryd.prog (seatFn tab) 35 3 V_spec_l01In := has_of tabOk (hint := []) (fn := Tryd.f21) (by kernel_rfl) (show Tryd.prog.funcs[21]? = some Tryd.f21 from Tryd.func21) (by kernel_rfl)
theorem h_laws_FnExactDiagramText : Has Tryd.prog (seatFn tab) 54 1 V_laws_FnExactDiagramText := has_of tabOk (hint := []) (fn := Tryd.f3) (by kernel_rfl) (show Tryd.prog.funcs[3]? = some Tryd.f3 from Tryd.func3) (by kernel_rfl)
theorem h_laws_szDiagramNodeS : Has Tryd.prog (seatFn tab) 131 2 V_laws_szDiagramNodeS := has_of tabOk (hint := []) (fn := Tryd.f4) (by kernel_rfl) (show Tryd.prog.funcs[4]? = some Tryd.f4 from Tryd.func4) (by kernel_rfl)
theorem h_spec_DiagramText : Has Tryd.prog (seatFn tab) 132 1 V_spec_DiagramText := has_of tabOk (hint := []) (fn := Tryd.f5) (by kernel_rfl) (show Tryd.prog.funcs[5]? = some Tryd.f5 from Tryd.func5) (by kernel_rfl)
theorem h_laws_toDiagramNodeS : Has Tryd.prog (seatFn tab) 133 1 V_laws_toDiagramNodeS := has_of tabOk (hint := [(20, 1)]) (fn := Tryd.f6) (by kernel_rfl) (show Tryd.prog.funcs[6]? = some Tryd.f6 from Tryd.func6) (by kernel_rfl)
theorem h_DiagramText : Has Tryd.prog (seatFn tab) 134 1 V_DiagramText := has_of tabOk (hint := []) (fn := Tryd.f7) (by kernel_rfl) (show Tryd.prog.funcs[7]? = some Tryd.f7 from Tryd.func7) (by kernel_rfl)
theorem h_laws_eqDiagramNodeS : Has Tryd.prog (seatFn tab) 135 2 V_laws_eqDiagramNodeS := has_of tabOk (hint := []) (fn := Tryd.f8) (by kernel_rfl) (show Tryd.prog.funcs[8]? = some Tryd.f8 from Tryd.func8) (by kernel_rfl)
theorem h_spec_IsDiagram : Has Tryd.prog (seatFn tab) 269 1 V_spec_IsDiagram := has_of tabOk (hint := []) (fn := Tryd.f9) (by kernel_rfl) (show Tryd.prog.funcs[9]? = some Tryd.f9 from Tryd.func9) (by kernel_rfl)
theorem h_spec_l35Print : Has Tryd.prog (seatFn tab) 270 2 V_spec_l35Print := has_of tabOk (hint := []) (fn := Tryd.f10) (by kernel_rfl) (show Tryd.prog.funcs[10]? = some Tryd.f10 from Tryd.func10) (by kernel_rfl)
theorem h_laws_toDiagramNode : Has Tryd.prog (seatFn tab) 271 1 V_laws_toDiagramNode := has_of tabOk (hint := []) (fn := Tryd.f11) (by kernel_rfl) (show Tryd.prog.funcs[11]? = some Tryd.f11 from Tryd.func11) (by kernel_rfl)
theorem h_isDiagram : Has Tryd.prog (seatFn tab) 272 1 V_isDiagram := has_of tabOk (hint := []) (fn := Tryd.f12) (by kernel_rfl) (show Tryd.prog.funcs[12]? = some Tryd.f12 from Tryd.func12) (by kernel_rfl)
theorem h_diagramText : Has Tryd.prog (seatFn tab) 273 2 V_diagramText := has_of tabOk (hint := []) (fn := Tryd.f13) (by kernel_rfl) (show Tryd.prog.funcs[13]? = some Tryd.f13 from Tryd.func13) (by kernel_rfl)
theorem h_laws_eqDiagramNode : Has Tryd.prog (seatFn tab) 274 2 V_laws_eqDiagramNode := has_of tabOk (hint := []) (fn := Tryd.f14) (by kernel_rfl) (show Tryd.prog.funcs[14]? = some Tryd.f14 from Tryd.func14) (by kernel_rfl)
theorem h_spec_l35Node : Has Tryd.prog (seatFn tab) 384 1 V_spec_l35Node := has_of tabOk (hint := []) (fn := Tryd.f15) (by kernel_rfl) (show Tryd.prog.funcs[15]? = some Tryd.f15 from Tryd.func15) (by kernel_rfl)
theorem h_spec_l01Dec : Has Tryd.prog (seatFn tab) 385 1 V_spec_l01Dec := has_of tabOk (hint := []) (fn := Tryd.f16) (by kernel_rfl) (show Tryd.prog.funcs[16]? = some Tryd.f16 from Tryd.func16) (by kernel_rfl)
theorem h_operandEnd : Has Tryd.prog (seatFn tab) 386 2 V_operandEnd := has_of tabOk (hint := []) (fn := Tryd.f18) (by kernel_rfl) (show Tryd.prog.funcs[18]? = some Tryd.f18 from Tryd.func18) (by kernel_rfl)
theorem h_strconv_FormatInt : Has Tryd.prog (seatFn tab) 387 2 V_strconv_FormatInt := has_of tabOk (hint := []) (fn := Tryd.f19) (by kernel_rfl) (show Tryd.prog.funcs[19]? = some Tryd.f19 from Tryd.func19) (by kernel_rfl)
theorem h_grouped : Has Tryd.prog (seatFn tab) 388 2 V_grouped := has_of tabOk (hint := []) (fn := Tryd.f20) (by kernel_rfl) (show Tryd.prog.funcs[20]? = some Tryd.f20 from Tryd.func20) (by kernel_rfl)
theorem h_internal_strconv_FormatInt : Has Tryd.prog (seatFn tab) 424 2 V_internal_strconv_FormatInt := has_of tabOk (hint := [(1000000, 6)]) (fn := Tryd.f22) (by kernel_rfl) (show Tryd.prog.funcs[22]? = some Tryd.f22 from Tryd.func22) (by kernel_rfl)
theorem h_internal_strconv_small : Has Tryd.prog (seatFn tab) 431 1 V_internal_strconv_small := has_of tabOk (hint := []) (fn := Tryd.f23) (by kernel_rfl) (show Tryd.prog.funcs[23]? = some Tryd.f23 from Tryd.func23) (by kernel_rfl)
open Classical in
theorem law_args (avs : List AV) (h1 : avs.length = ([prTy] : List Ty).length) (h2 : ∀ i (h : i < avs.length) (h' : i < ([prTy] : List Ty).length), ShpV ([prTy] : List Ty)[i] avs[i]) : OkM Tryd.prog (seatFn tab) 54 avs hempty 0 (fun r _ _ => r = bool true) := by
  obtain ⟨a0, rfl⟩ := ListLen1 h1
  obtain ⟨L, rfl, rd_L⟩ := (h2 0 (by simp) (by simp)).prs
  exact law_DiagramText h_inRange h_operandEnd h_isDiagram h_internal_strconv_small h_internal_strconv_FormatInt h_strconv_FormatInt h_grouped h_diagramText h_DiagramText h_spec_l01In h_spec_l35Node h_spec_IsDiagram h_spec_l01Dec h_spec_l35Print h_spec_DiagramText h_laws_szDiagramNodeS h_laws_toDiagramNode h_laws_toDiagramNodeS h_laws_eqDiagramNode h_laws_eqDiagramNodeS h_laws_FnExactDiagramText L rd_L
theorem own : ownKnob Tryd.prog.godebug = none := by kernel_rfl
theorem laidOut : laidOutB Tryd.prog = true := by kernel_rfl
abbrev lst : List (String × DataW Unit) := Rows.fnExactDiagramTextRow.laid
/-- A world in which the listed variables read as listed. -/
theorem door_met (os : Os) (args : Array Value) : laidMetH Tryd.prog lst ((World.laidAll Tryd.prog os lst).forCall (fun _ _ => 0) ⟨#[], args, []⟩).memory := by
  rw [MakeChecks.laidMetH_plain _ _ _ (by kernel_rfl)]
  exact laidMet_laidAll args (by kernel_rfl) (by kernel_rfl)
set_option maxRecDepth 100000 in
theorem lifted (os : Os) (started : os.Started) (H : Type) (enc : TypeId × Value → H) :
    ReturnsInHanded {} Tryd.checked os 3 .any (fun w args => (Rows.fnExactDiagramTextSpec.pre enc Tryd.prog Tryd.f3 [] false w args ∧ laidMetH Tryd.prog lst w) ∧ sizedMet enc Tryd.prog Tryd.f3 (OpenSpec.ofChange Rows.fnExactDiagramTextSpec) false w args) (Rows.fnExactDiagramTextSpec.post enc Tryd.prog Tryd.f3 false true false false) := by
  refine returnsInHanded_of_change_and (C := Tryd.checked) (X := fun w _ => laidMetH Tryd.prog lst w) (fun _ _ _ hh h => h.of_heap hh) own started (by kernel_rfl) Tryd.func3
    (ChangeSpec.witness_shaped (enc := enc) (C := Tryd.checked) (os := os) (X := fun w _ => laidMetH Tryd.prog lst w) false (World.laidAll Tryd.prog os lst) #[.slice none 0 0] 8 (World.laidAll_os _ _ _) (World.shaped_of_ZipB (by kernel_rfl) (by kernel_rfl)) (by kernel_rfl) (by kernel_rfl) (by kernel_rfl) (door_met os _)) ?_
  intro W base args ds gs before hval hW _ _ _ _
  exact row_calls (P := Tryd.prog) (ν := seatFn tab) (fn := Tryd.f3) (s := Rows.fnExactDiagramTextSpec) (id := 54) (tb := Tryd.f3.resultTypes.getD 0 0) (m := 8) (tys := [prTy]) laidOut (by kernel_rfl) (by kernel_rfl) (by kernel_rfl) rfl (fun ds hd => by obtain ⟨_, rfl⟩ := (ListLen1 hd); rfl) (by kernel_rfl) rfl law_args W base args ds gs before hval hW
/-- The row: for every input, where the listed variables read as listed. -/
theorem row_holds : Rows.FnExactDiagramTextSaid :=
  OpenClaim.holds_of_wide 3 Tryd.f3 rfl rfl rfl rfl rfl rfl rfl ⟨rfl, rfl, rfl, rfl, rfl⟩ rfl rfl rfl rfl rfl (by kernel_rfl) Tryd.func3 (by kernel_rfl)
    (of_decide_eq_true (by kernel_rfl)) (by unfold Func.isWrapper; first | (rw [if_pos (by decide +kernel)]; kernel_rfl) | (rw [if_neg (by decide +kernel)]; exact ⟨rfl, rfl⟩))
    (fun os started H enc _ => lifted os started H enc)
/-- For every input: the statement's function returns true; the listed variables are tied to the program's text. -/
theorem holds : Rows.FnExactDiagramTextCardSaid :=
  Claim7.holds_tied_plain_at .later [] [.data, .data, .data] true (true, "0de277504177698b5dacdbd66926f18fec07b1fc2887037f36913600cddcfd30") false
    row_holds (fun _ h => by cases h) (by kernel_rfl) (fun _ h => by cases h) fnExactDiagramText_row_tie rfl ⟨rfl, rfl⟩ (by kernel_rfl) rfl
    (fun f fn hf hfn => by
      obtain rfl : f = 3 := Option.some.inj ((show Tryd.prog.funcNamed "loop.example/g01083/laws.FnExactDiagramText" = some 3 by kernel_rfl).symm.trans hf) |>.symm
      obtain rfl : fn = Tryd.f3 := (Option.some.inj (Tryd.func3.symm.trans hfn)).symm
      exact ⟨by kernel_rfl, fun j t ht => by
        have hall : (Tryd.f3.params.toList.all fun u => !Tryd.prog.wantsStandIn u) = true := by kernel_rfl
        have hm : t ∈ Tryd.f3.params.toList := by simpa using Array.mem_of_getElem? ht
        exact (show Tryd.prog.wantsStandIn t = false by simpa using List.all_eq_true.1 hall t hm)⟩)
    (by kernel_rfl)
end Go.Proofs.YtbalggpkmaabmaaDoor.FnExactDiagramText
