/-
  For every input the statement on OppositeCategory answers true: the seat's functions in the layer's second form, each checked by the kernel against the translation, then the row. No condition.
-/
import Derived.Test.YtalfoffamemfnaaRows
import Derived.Test.YtalfoffamemfnaaAvLOppositeCategory
import Derived.Test.YtalfoffamemfnaaAvT5
import Derived.Test.YtalfoffamemfnaaAvO1
import Derived.ProofKit
namespace Go.Proofs.Ytalfoffamemfnaa.FnExactOppositeCategory
open Go.Av
def tab : List (Nat × Nat) := [(3, 56), (4, 92), (5, 78), (6, 46), (7, 3), (8, 138), (9, 5), (10, 16), (11, 139), (12, 7), (13, 8), (14, 9), (15, 10), (16, 11), (17, 116), (18, 222), (19, 118), (20, 223), (21, 120), (22, 212), (23, 190), (24, 191), (25, 112), (26, 113), (27, 111), (28, 12), (29, 13), (30, 245), (31, 247), (32, 17), (33, 18), (34, 277), (35, 20), (36, 21), (37, 256), (38, 257), (39, 303), (40, 304), (41, 305), (42, 251), (43, 306), (44, 252), (45, 307), (46, 308), (47, 22), (48, 24), (49, 150), (50, 37), (51, 25), (52, 26), (53, 389), (54, 34), (55, 390), (56, 315), (57, 378), (58, 319), (59, 400), (60, 259), (61, 261), (62, 353), (63, 377), (64, 401), (65, 402), (66, 28), (67, 29), (68, 30), (69, 31), (70, 32), (71, 322), (72, 309), (73, 253), (74, 426), (75, 427), (76, 35), (77, 36), (78, 38), (79, 33)]
theorem tabOk : ∀ f id, seatNum tab f = some id → seatFn tab id = f := seat_inv (by decide +kernel)
theorem h_laws_szCategory : Has Try.prog (seatFn tab) 3 2 V_laws_szCategory := has_of tabOk (hint := []) (fn := Try.f7) (by kernel_rfl) (show Try.prog.funcs[7]? = some Try.f7 from Try.func7) (by kernel_rfl)
theorem h_laws_toCategory : Has Try.prog (seatFn tab) 5 1 V_laws_toCategory := has_of tabOk (hint := [(9, 1), (13, 1), (17, 1), (21, 1)]) (fn := Try.f9) (by kernel_rfl) (show Try.prog.funcs[9]? = some Try.f9 from Try.func9) (by kernel_rfl)
theorem h_laws_eqInt64S : Has Try.prog (seatFn tab) 7 2 V_laws_eqInt64S := has_of tabOk (hint := []) (fn := Try.f12) (by kernel_rfl) (show Try.prog.funcs[12]? = some Try.f12 from Try.func12) (by kernel_rfl)
theorem h_laws_eqCategory : Has Try.prog (seatFn tab) 8 2 V_laws_eqCategory := has_of tabOk (hint := []) (fn := Try.f13) (by kernel_rfl) (show Try.prog.funcs[13]? = some Try.f13 from Try.func13) (by kernel_rfl)
theorem h_laws_markCategory : Has Try.prog (seatFn tab) 9 2 V_laws_markCategory := has_of tabOk (hint := [(8, 1), (12, 1), (16, 1), (20, 1), (2, 3)]) (fn := Try.f14) (by kernel_rfl) (show Try.prog.funcs[14]? = some Try.f14 from Try.func14) (by kernel_rfl)
theorem h_laws_markInt64S : Has Try.prog (seatFn tab) 10 2 V_laws_markInt64S := has_of tabOk (hint := []) (fn := Try.f15) (by kernel_rfl) (show Try.prog.funcs[15]? = some Try.f15 from Try.func15) (by kernel_rfl)
theorem h_laws_heldInt64S : Has Try.prog (seatFn tab) 11 2 V_laws_heldInt64S := has_of tabOk (hint := []) (fn := Try.f16) (by kernel_rfl) (show Try.prog.funcs[16]? = some Try.f16 from Try.func16) (by kernel_rfl)
theorem h_laws_szInt64S : Has Try.prog (seatFn tab) 12 2 V_laws_szInt64S := has_of tabOk (hint := []) (fn := Try.f28) (by kernel_rfl) (show Try.prog.funcs[28]? = some Try.f28 from Try.func28) (by kernel_rfl)
theorem h_laws_szInt64SS : Has Try.prog (seatFn tab) 13 2 V_laws_szInt64SS := has_of tabOk (hint := []) (fn := Try.f29) (by kernel_rfl) (show Try.prog.funcs[29]? = some Try.f29 from Try.func29) (by kernel_rfl)
theorem h_laws_toInt64S : Has Try.prog (seatFn tab) 16 1 V_laws_toInt64S := has_of tabOk (hint := []) (fn := Try.f10) (by kernel_rfl) (show Try.prog.funcs[10]? = some Try.f10 from Try.func10) (by kernel_rfl)
theorem h_laws_toInt64SS : Has Try.prog (seatFn tab) 17 1 V_laws_toInt64SS := has_of tabOk (hint := [(20, 1)]) (fn := Try.f32) (by kernel_rfl) (show Try.prog.funcs[32]? = some Try.f32 from Try.func32) (by kernel_rfl)
theorem h_laws_eqInt64SS : Has Try.prog (seatFn tab) 20 2 V_laws_eqInt64SS := has_of tabOk (hint := []) (fn := Try.f35) (by kernel_rfl) (show Try.prog.funcs[35]? = some Try.f35 from Try.func35) (by kernel_rfl)
theorem h_laws_markInt64SS : Has Try.prog (seatFn tab) 21 2 V_laws_markInt64SS := has_of tabOk (hint := [(17, 1)]) (fn := Try.f36) (by kernel_rfl) (show Try.prog.funcs[36]? = some Try.f36 from Try.func36) (by kernel_rfl)
theorem h_spec_l02Is : Has Try.prog (seatFn tab) 22 1 V_spec_l02Is := has_of tabOk (hint := []) (fn := Try.f47) (by kernel_rfl) (show Try.prog.funcs[47]? = some Try.f47 from Try.func47) (by kernel_rfl)
theorem h_Category_isCategory : Has Try.prog (seatFn tab) 24 1 V_Category_isCategory := has_of tabOk (hint := []) (fn := Try.f48) (by kernel_rfl) (show Try.prog.funcs[48]? = some Try.f48 from Try.func48) (by kernel_rfl)
theorem h_within : Has Try.prog (seatFn tab) 25 2 V_within := has_of tabOk (hint := []) (fn := Try.f51) (by kernel_rfl) (show Try.prog.funcs[51]? = some Try.f51 from Try.func51) (by kernel_rfl)
theorem h_Category_arrows : Has Try.prog (seatFn tab) 26 1 V_Category_arrows := has_of tabOk (hint := []) (fn := Try.f52) (by kernel_rfl) (show Try.prog.funcs[52]? = some Try.f52 from Try.func52) (by kernel_rfl)
theorem h_spec_IsShape : Has Try.prog (seatFn tab) 28 1 V_spec_IsShape := has_of tabOk (hint := []) (fn := Try.f66) (by kernel_rfl) (show Try.prog.funcs[66]? = some Try.f66 from Try.func66) (by kernel_rfl)
theorem h_spec_l02Fault : Has Try.prog (seatFn tab) 29 1 V_spec_l02Fault := has_of tabOk (hint := []) (fn := Try.f67) (by kernel_rfl) (show Try.prog.funcs[67]? = some Try.f67 from Try.func67) (by kernel_rfl)
theorem h_Category_isShape : Has Try.prog (seatFn tab) 30 1 V_Category_isShape := has_of tabOk (hint := []) (fn := Try.f68) (by kernel_rfl) (show Try.prog.funcs[68]? = some Try.f68 from Try.func68) (by kernel_rfl)
theorem h_Category_fault : Has Try.prog (seatFn tab) 31 1 V_Category_fault := has_of tabOk (hint := []) (fn := Try.f69) (by kernel_rfl) (show Try.prog.funcs[69]? = some Try.f69 from Try.func69) (by kernel_rfl)
theorem h_inRange : Has Try.prog (seatFn tab) 32 3 V_inRange := has_of tabOk (hint := []) (fn := Try.f70) (by kernel_rfl) (show Try.prog.funcs[70]? = some Try.f70 from Try.func70) (by kernel_rfl)
theorem h_Category_then : Has Try.prog (seatFn tab) 34 3 V_Category_then := has_of tabOk (hint := []) (fn := Try.f54) (by kernel_rfl) (show Try.prog.funcs[54]? = some Try.f54 from Try.func54) (by kernel_rfl)
theorem h_spec_l01In : Has Try.prog (seatFn tab) 35 3 V_spec_l01In := has_of tabOk (hint := []) (fn := Try.f76) (by kernel_rfl) (show Try.prog.funcs[76]? = some Try.f76 from Try.func76) (by kernel_rfl)
theorem h_spec_l02Ends : Has Try.prog (seatFn tab) 36 3 V_spec_l02Ends := has_of tabOk (hint := []) (fn := Try.f77) (by kernel_rfl) (show Try.prog.funcs[77]? = some Try.f77 from Try.func77) (by kernel_rfl)
theorem h_spec_l01Map : Has Try.prog (seatFn tab) 37 2 V_spec_l01Map := has_of tabOk (hint := []) (fn := Try.f50) (by kernel_rfl) (show Try.prog.funcs[50]? = some Try.f50 from Try.func50) (by kernel_rfl)
theorem h_Category_ends : Has Try.prog (seatFn tab) 38 2 V_Category_ends := has_of tabOk (hint := []) (fn := Try.f78) (by kernel_rfl) (show Try.prog.funcs[78]? = some Try.f78 from Try.func78) (by kernel_rfl)
theorem h_laws_FnExactOppositeCategory : Has Try.prog (seatFn tab) 46 1 V_laws_FnExactOppositeCategory := has_of tabOk (hint := [(26, 1), (29, 2), (48, 1), (64, 1), (76, 2)]) (fn := Try.f6) (by kernel_rfl) (show Try.prog.funcs[6]? = some Try.f6 from Try.func6) (by kernel_rfl)
theorem h_laws_heldCategory : Has Try.prog (seatFn tab) 111 2 V_laws_heldCategory := has_of tabOk (hint := []) (fn := Try.f27) (by kernel_rfl) (show Try.prog.funcs[27]? = some Try.f27 from Try.func27) (by kernel_rfl)
theorem h_spec_OppositeCategory : Has Try.prog (seatFn tab) 112 1 V_spec_OppositeCategory := has_of tabOk (hint := []) (fn := Try.f25) (by kernel_rfl) (show Try.prog.funcs[25]? = some Try.f25 from Try.func25) (by kernel_rfl)
theorem h_OppositeCategory : Has Try.prog (seatFn tab) 113 1 V_OppositeCategory := has_of tabOk (hint := [(7, 2)]) (fn := Try.f26) (by kernel_rfl) (show Try.prog.funcs[26]? = some Try.f26 from Try.func26) (by kernel_rfl)
theorem h_laws_heldInt64SS : Has Try.prog (seatFn tab) 150 2 V_laws_heldInt64SS := has_of tabOk (hint := []) (fn := Try.f49) (by kernel_rfl) (show Try.prog.funcs[49]? = some Try.f49 from Try.func49) (by kernel_rfl)
theorem h_spec_l03Op : Has Try.prog (seatFn tab) 251 1 V_spec_l03Op := has_of tabOk (hint := [(49, 3)]) (fn := Try.f42) (by kernel_rfl) (show Try.prog.funcs[42]? = some Try.f42 from Try.func42) (by kernel_rfl)
theorem h_opposite_o : Has Try.prog (seatFn tab) 252 1 V_opposite_o := has_of tabOk (hint := [(12, 2), (17, 2), (22, 2), (25, 1)]) (fn := Try.f44) (by kernel_rfl) (show Try.prog.funcs[44]? = some Try.f44 from Try.func44) (by kernel_rfl)
theorem h_spec_l01Own : Has Try.prog (seatFn tab) 259 1 V_spec_l01Own := has_of tabOk (hint := []) (fn := Try.f60) (by kernel_rfl) (show Try.prog.funcs[60]? = some Try.f60 from Try.func60) (by kernel_rfl)
theorem h_clone : Has Try.prog (seatFn tab) 261 1 V_clone := has_of tabOk (hint := []) (fn := Try.f61) (by kernel_rfl) (show Try.prog.funcs[61]? = some Try.f61 from Try.func61) (by kernel_rfl)
theorem h_Category_table : Has Try.prog (seatFn tab) 353 2 V_Category_table := has_of tabOk (hint := []) (fn := Try.f62) (by kernel_rfl) (show Try.prog.funcs[62]? = some Try.f62 from Try.func62) (by kernel_rfl)
theorem h_opposite_1 : Has Try.prog (seatFn tab) 377 3 V_opposite_1 := has_of tabOk (hint := []) (fn := Try.f63) (by kernel_rfl) (show Try.prog.funcs[63]? = some Try.f63 from Try.func63) (by kernel_rfl)
theorem r_HLaw : HLaw Try.prog (seatFn tab) := ⟨h_laws_szInt64S, h_laws_szInt64SS, h_laws_szCategory, h_laws_toInt64S, h_laws_toInt64SS, h_laws_toCategory, h_laws_eqInt64S, h_laws_eqInt64SS, h_laws_eqCategory⟩
theorem r_HMark : HMark Try.prog (seatFn tab) := ⟨h_laws_markInt64S, h_laws_markInt64SS, h_laws_markCategory, h_laws_heldInt64S⟩
theorem r_HCat : HCat Try.prog (seatFn tab) := ⟨h_Category_arrows, h_inRange, h_within, h_Category_ends, h_Category_then, h_Category_isShape, h_Category_fault, h_Category_isCategory⟩
theorem r_HSpec : HSpec Try.prog (seatFn tab) := ⟨h_spec_l01In, h_spec_l01Map, h_spec_l02Ends, h_spec_IsShape, h_spec_l02Fault, h_spec_l02Is⟩
open Classical in
theorem law_args (avs : List AV) (h1 : avs.length = ([catTy] : List Ty).length) (h2 : ∀ i (h : i < avs.length) (h' : i < ([catTy] : List Ty).length), ShpV ([catTy] : List Ty)[i] avs[i]) : OkM Try.prog (seatFn tab) 46 avs hempty 0 (fun r _ _ => r = bool true) := by
  obtain ⟨a0, rfl⟩ := ListLen1 h1
  obtain ⟨c, rfl, rd_c, _⟩ := (h2 0 (by simp) (by simp)).cat
  exact law_OppositeCategory r_HLaw r_HMark h_laws_heldInt64SS h_laws_heldCategory h_laws_FnExactOppositeCategory c rd_c (fun b_c => OppositeCategory_both r_HCat h_clone h_Category_table h_opposite_1 h_opposite_o h_OppositeCategory r_HSpec h_spec_l01Own h_spec_l03Op h_spec_OppositeCategory c b_c.toSmall)
theorem own : ownKnob Try.prog.godebug = none := by kernel_rfl
theorem laidOut : laidOutB Try.prog = true := by kernel_rfl
set_option maxRecDepth 100000 in
theorem lifted (os : Os) (started : os.Started) (H : Type) (enc : TypeId × Value → H) :
    ReturnsInHanded {} Try.checked os 6 .any (Rows.fnExactOppositeCategorySpec.pre6 enc Try.prog Try.f6 Rows.fnExactOppositeCategoryRow.domain false) (Rows.fnExactOppositeCategorySpec.post enc Try.prog Try.f6 false true false false) := by
  refine returnsInHanded_of_change (C := Try.checked) own started (by kernel_rfl) Try.func6
    (ChangeSpec.witness6 (enc := enc) (C := Try.checked) false ⟨#[], #[.agg #[.int .i64 0, .slice none 0 0, .slice none 0 0, .slice none 0 0, .slice none 0 0]], []⟩ 8 (by kernel_rfl) (by kernel_rfl) (by kernel_rfl) (by kernel_rfl)) ?_
  intro W base args ds gs before hval hW _ _
  exact row_calls (P := Try.prog) (ν := seatFn tab) (fn := Try.f6) (s := Rows.fnExactOppositeCategorySpec) (id := 46) (tb := Try.f6.resultTypes.getD 0 0) (m := 8) (tys := [catTy]) laidOut (by kernel_rfl) (by kernel_rfl) (by kernel_rfl) rfl (fun ds hd => by obtain ⟨_, rfl⟩ := (ListLen1 hd); rfl) (by kernel_rfl) rfl law_args W base args ds gs before hval hW
/-- For every input: the statement's function returns true. -/
theorem holds : Rows.FnExactOppositeCategorySaid :=
  OpenClaim.holds_of_wide 6 Try.f6 rfl rfl rfl rfl rfl rfl rfl ⟨rfl, rfl, rfl, rfl, rfl⟩ rfl rfl rfl rfl rfl (by kernel_rfl) Try.func6 (by kernel_rfl)
    (of_decide_eq_true (by kernel_rfl)) (by unfold Func.isWrapper; first | (rw [if_pos (by decide +kernel)]; kernel_rfl) | (rw [if_neg (by decide +kernel)]; exact ⟨rfl, rfl⟩))
    (fun os started H enc _ => lifted os started H enc)
end Go.Proofs.Ytalfoffamemfnaa.FnExactOppositeCategory
