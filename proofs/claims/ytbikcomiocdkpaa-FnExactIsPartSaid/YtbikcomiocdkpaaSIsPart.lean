/-
  For every input the statement on IsPart answers true: the seat's functions in the layer's second form, each checked by the kernel against the translation, then the row. No condition.
-/
import Derived.Test.YtbikcomiocdkpaaRows
import Derived.Test.YtbikcomiocdkpaaAvLIsPart
import Derived.Test.YtbikcomiocdkpaaAvP2
import Derived.Test.YtbikcomiocdkpaaAvO1
import Derived.ProofKit
namespace Go.Proofs.Ytbikcomiocdkpaa.FnExactIsPart
open Go.Av
def tab : List (Nat × Nat) := [(3, 96), (4, 64), (5, 82), (6, 76), (7, 62), (8, 88), (9, 56), (10, 92), (11, 46), (12, 94), (13, 45), (14, 78), (15, 140), (16, 230), (17, 231), (18, 142), (19, 232), (20, 233), (21, 144), (22, 234), (23, 3), (24, 159), (25, 5), (26, 16), (27, 160), (28, 8), (29, 7), (30, 13), (31, 198), (32, 17), (33, 199), (34, 20), (35, 9), (36, 21), (37, 10), (38, 11), (39, 186), (40, 187), (41, 150), (42, 155), (43, 156), (44, 116), (45, 210), (46, 118), (47, 211), (48, 120), (49, 212), (50, 138), (51, 139), (52, 222), (53, 223), (54, 112), (55, 113), (56, 111), (57, 226), (58, 227), (59, 109), (60, 110), (61, 190), (62, 191), (63, 12), (64, 282), (65, 371), (66, 372), (67, 22), (68, 299), (69, 24), (70, 300), (71, 245), (72, 340), (73, 341), (74, 25), (75, 26), (76, 38), (77, 342), (78, 284), (79, 329), (80, 306), (81, 330), (82, 289), (83, 331), (84, 332), (85, 27), (86, 293), (87, 294), (88, 32), (89, 295), (90, 34), (91, 256), (92, 347), (93, 257), (94, 348), (95, 247), (96, 18), (97, 277), (98, 251), (99, 252), (100, 303), (101, 366), (102, 249), (103, 367), (104, 368), (105, 250), (106, 369), (107, 246), (108, 248), (109, 304), (110, 305), (111, 307), (112, 308), (113, 278), (114, 279), (115, 37), (116, 262), (117, 283), (118, 422), (119, 28), (120, 29), (121, 397), (122, 398), (123, 30), (124, 31), (125, 399), (126, 360), (127, 253), (128, 291), (129, 394), (130, 395), (131, 414), (132, 396), (133, 287), (134, 259), (135, 407), (136, 244), (137, 33), (138, 309), (139, 315), (140, 378), (141, 389), (142, 390), (143, 261), (144, 353), (145, 377), (146, 376), (147, 375), (148, 413), (149, 319), (150, 400), (151, 401), (152, 402), (153, 35), (154, 280), (155, 281), (156, 36), (157, 393), (158, 425), (159, 365), (160, 373), (161, 374), (162, 322), (163, 426), (164, 427), (165, 391)]
theorem tabOk : ∀ f id, seatNum tab f = some id → seatFn tab id = f := seat_inv (by decide +kernel)
theorem h_laws_szCategory : Has Try.prog (seatFn tab) 3 2 V_laws_szCategory := has_of tabOk (hint := []) (fn := Try.f23) (by kernel_rfl) (show Try.prog.funcs[23]? = some Try.f23 from Try.func23) (by kernel_rfl)
theorem h_laws_toCategory : Has Try.prog (seatFn tab) 5 1 V_laws_toCategory := has_of tabOk (hint := [(9, 1), (13, 1), (17, 1), (21, 1)]) (fn := Try.f25) (by kernel_rfl) (show Try.prog.funcs[25]? = some Try.f25 from Try.func25) (by kernel_rfl)
theorem h_laws_eqInt64S : Has Try.prog (seatFn tab) 7 2 V_laws_eqInt64S := has_of tabOk (hint := []) (fn := Try.f29) (by kernel_rfl) (show Try.prog.funcs[29]? = some Try.f29 from Try.func29) (by kernel_rfl)
theorem h_laws_eqCategory : Has Try.prog (seatFn tab) 8 2 V_laws_eqCategory := has_of tabOk (hint := []) (fn := Try.f28) (by kernel_rfl) (show Try.prog.funcs[28]? = some Try.f28 from Try.func28) (by kernel_rfl)
theorem h_laws_szInt64S : Has Try.prog (seatFn tab) 12 2 V_laws_szInt64S := has_of tabOk (hint := []) (fn := Try.f63) (by kernel_rfl) (show Try.prog.funcs[63]? = some Try.f63 from Try.func63) (by kernel_rfl)
theorem h_laws_szInt64SS : Has Try.prog (seatFn tab) 13 2 V_laws_szInt64SS := has_of tabOk (hint := []) (fn := Try.f30) (by kernel_rfl) (show Try.prog.funcs[30]? = some Try.f30 from Try.func30) (by kernel_rfl)
theorem h_laws_toInt64S : Has Try.prog (seatFn tab) 16 1 V_laws_toInt64S := has_of tabOk (hint := []) (fn := Try.f26) (by kernel_rfl) (show Try.prog.funcs[26]? = some Try.f26 from Try.func26) (by kernel_rfl)
theorem h_laws_toInt64SS : Has Try.prog (seatFn tab) 17 1 V_laws_toInt64SS := has_of tabOk (hint := [(20, 1)]) (fn := Try.f32) (by kernel_rfl) (show Try.prog.funcs[32]? = some Try.f32 from Try.func32) (by kernel_rfl)
theorem h_laws_eqInt64SS : Has Try.prog (seatFn tab) 20 2 V_laws_eqInt64SS := has_of tabOk (hint := []) (fn := Try.f34) (by kernel_rfl) (show Try.prog.funcs[34]? = some Try.f34 from Try.func34) (by kernel_rfl)
theorem h_spec_l02Is : Has Try.prog (seatFn tab) 22 1 V_spec_l02Is := has_of tabOk (hint := []) (fn := Try.f67) (by kernel_rfl) (show Try.prog.funcs[67]? = some Try.f67 from Try.func67) (by kernel_rfl)
theorem h_Category_isCategory : Has Try.prog (seatFn tab) 24 1 V_Category_isCategory := has_of tabOk (hint := []) (fn := Try.f69) (by kernel_rfl) (show Try.prog.funcs[69]? = some Try.f69 from Try.func69) (by kernel_rfl)
theorem h_within : Has Try.prog (seatFn tab) 25 2 V_within := has_of tabOk (hint := []) (fn := Try.f74) (by kernel_rfl) (show Try.prog.funcs[74]? = some Try.f74 from Try.func74) (by kernel_rfl)
theorem h_Category_arrows : Has Try.prog (seatFn tab) 26 1 V_Category_arrows := has_of tabOk (hint := []) (fn := Try.f75) (by kernel_rfl) (show Try.prog.funcs[75]? = some Try.f75 from Try.func75) (by kernel_rfl)
theorem h_spec_IsShape : Has Try.prog (seatFn tab) 28 1 V_spec_IsShape := has_of tabOk (hint := []) (fn := Try.f119) (by kernel_rfl) (show Try.prog.funcs[119]? = some Try.f119 from Try.func119) (by kernel_rfl)
theorem h_spec_l02Fault : Has Try.prog (seatFn tab) 29 1 V_spec_l02Fault := has_of tabOk (hint := []) (fn := Try.f120) (by kernel_rfl) (show Try.prog.funcs[120]? = some Try.f120 from Try.func120) (by kernel_rfl)
theorem h_Category_isShape : Has Try.prog (seatFn tab) 30 1 V_Category_isShape := has_of tabOk (hint := []) (fn := Try.f123) (by kernel_rfl) (show Try.prog.funcs[123]? = some Try.f123 from Try.func123) (by kernel_rfl)
theorem h_Category_fault : Has Try.prog (seatFn tab) 31 1 V_Category_fault := has_of tabOk (hint := []) (fn := Try.f124) (by kernel_rfl) (show Try.prog.funcs[124]? = some Try.f124 from Try.func124) (by kernel_rfl)
theorem h_inRange : Has Try.prog (seatFn tab) 32 3 V_inRange := has_of tabOk (hint := []) (fn := Try.f88) (by kernel_rfl) (show Try.prog.funcs[88]? = some Try.f88 from Try.func88) (by kernel_rfl)
theorem h_Category_then : Has Try.prog (seatFn tab) 34 3 V_Category_then := has_of tabOk (hint := []) (fn := Try.f90) (by kernel_rfl) (show Try.prog.funcs[90]? = some Try.f90 from Try.func90) (by kernel_rfl)
theorem h_spec_l01In : Has Try.prog (seatFn tab) 35 3 V_spec_l01In := has_of tabOk (hint := []) (fn := Try.f153) (by kernel_rfl) (show Try.prog.funcs[153]? = some Try.f153 from Try.func153) (by kernel_rfl)
theorem h_spec_l02Ends : Has Try.prog (seatFn tab) 36 3 V_spec_l02Ends := has_of tabOk (hint := []) (fn := Try.f156) (by kernel_rfl) (show Try.prog.funcs[156]? = some Try.f156 from Try.func156) (by kernel_rfl)
theorem h_spec_l01Map : Has Try.prog (seatFn tab) 37 2 V_spec_l01Map := has_of tabOk (hint := []) (fn := Try.f115) (by kernel_rfl) (show Try.prog.funcs[115]? = some Try.f115 from Try.func115) (by kernel_rfl)
theorem h_Category_ends : Has Try.prog (seatFn tab) 38 2 V_Category_ends := has_of tabOk (hint := []) (fn := Try.f76) (by kernel_rfl) (show Try.prog.funcs[76]? = some Try.f76 from Try.func76) (by kernel_rfl)
theorem h_laws_FnExactIsPart : Has Try.prog (seatFn tab) 96 2 V_laws_FnExactIsPart := has_of tabOk (hint := []) (fn := Try.f3) (by kernel_rfl) (show Try.prog.funcs[3]? = some Try.f3 from Try.func3) (by kernel_rfl)
theorem h_laws_szSetFunctor : Has Try.prog (seatFn tab) 140 2 V_laws_szSetFunctor := has_of tabOk (hint := []) (fn := Try.f15) (by kernel_rfl) (show Try.prog.funcs[15]? = some Try.f15 from Try.func15) (by kernel_rfl)
theorem h_laws_toSetFunctor : Has Try.prog (seatFn tab) 142 1 V_laws_toSetFunctor := has_of tabOk (hint := [(6, 1), (10, 1), (14, 1)]) (fn := Try.f18) (by kernel_rfl) (show Try.prog.funcs[18]? = some Try.f18 from Try.func18) (by kernel_rfl)
theorem h_laws_eqSetFunctor : Has Try.prog (seatFn tab) 144 2 V_laws_eqSetFunctor := has_of tabOk (hint := []) (fn := Try.f21) (by kernel_rfl) (show Try.prog.funcs[21]? = some Try.f21 from Try.func21) (by kernel_rfl)
theorem h_laws_szPart : Has Try.prog (seatFn tab) 230 2 V_laws_szPart := has_of tabOk (hint := []) (fn := Try.f16) (by kernel_rfl) (show Try.prog.funcs[16]? = some Try.f16 from Try.func16) (by kernel_rfl)
theorem h_spec_IsPart : Has Try.prog (seatFn tab) 231 2 V_spec_IsPart := has_of tabOk (hint := []) (fn := Try.f17) (by kernel_rfl) (show Try.prog.funcs[17]? = some Try.f17 from Try.func17) (by kernel_rfl)
theorem h_laws_toPart : Has Try.prog (seatFn tab) 232 1 V_laws_toPart := has_of tabOk (hint := [(6, 1)]) (fn := Try.f19) (by kernel_rfl) (show Try.prog.funcs[19]? = some Try.f19 from Try.func19) (by kernel_rfl)
theorem h_IsPart : Has Try.prog (seatFn tab) 233 2 V_IsPart := has_of tabOk (hint := []) (fn := Try.f20) (by kernel_rfl) (show Try.prog.funcs[20]? = some Try.f20 from Try.func20) (by kernel_rfl)
theorem h_laws_eqPart : Has Try.prog (seatFn tab) 234 2 V_laws_eqPart := has_of tabOk (hint := []) (fn := Try.f22) (by kernel_rfl) (show Try.prog.funcs[22]? = some Try.f22 from Try.func22) (by kernel_rfl)
theorem h_spec_l01Has : Has Try.prog (seatFn tab) 262 2 V_spec_l01Has := has_of tabOk (hint := []) (fn := Try.f116) (by kernel_rfl) (show Try.prog.funcs[116]? = some Try.f116 from Try.func116) (by kernel_rfl)
theorem h_spec_l19Shape : Has Try.prog (seatFn tab) 278 1 V_spec_l19Shape := has_of tabOk (hint := []) (fn := Try.f113) (by kernel_rfl) (show Try.prog.funcs[113]? = some Try.f113 from Try.func113) (by kernel_rfl)
theorem h_spec_l19Fault : Has Try.prog (seatFn tab) 279 1 V_spec_l19Fault := has_of tabOk (hint := []) (fn := Try.f114) (by kernel_rfl) (show Try.prog.funcs[114]? = some Try.f114 from Try.func114) (by kernel_rfl)
theorem h_SetFunctor_isShape : Has Try.prog (seatFn tab) 280 1 V_SetFunctor_isShape := has_of tabOk (hint := []) (fn := Try.f154) (by kernel_rfl) (show Try.prog.funcs[154]? = some Try.f154 from Try.func154) (by kernel_rfl)
theorem h_SetFunctor_fault : Has Try.prog (seatFn tab) 281 1 V_SetFunctor_fault := has_of tabOk (hint := []) (fn := Try.f155) (by kernel_rfl) (show Try.prog.funcs[155]? = some Try.f155 from Try.func155) (by kernel_rfl)
theorem h_spec_l19Is : Has Try.prog (seatFn tab) 282 1 V_spec_l19Is := has_of tabOk (hint := []) (fn := Try.f64) (by kernel_rfl) (show Try.prog.funcs[64]? = some Try.f64 from Try.func64) (by kernel_rfl)
theorem h_SetFunctor_isSetFunctor : Has Try.prog (seatFn tab) 283 1 V_SetFunctor_isSetFunctor := has_of tabOk (hint := []) (fn := Try.f117) (by kernel_rfl) (show Try.prog.funcs[117]? = some Try.f117 from Try.func117) (by kernel_rfl)
theorem h_spec_l02Rises : Has Try.prog (seatFn tab) 366 1 V_spec_l02Rises := has_of tabOk (hint := []) (fn := Try.f101) (by kernel_rfl) (show Try.prog.funcs[101]? = some Try.f101 from Try.func101) (by kernel_rfl)
theorem h_rising : Has Try.prog (seatFn tab) 368 1 V_rising := has_of tabOk (hint := []) (fn := Try.f104) (by kernel_rfl) (show Try.prog.funcs[104]? = some Try.f104 from Try.func104) (by kernel_rfl)
theorem h_spec_l25Part : Has Try.prog (seatFn tab) 371 2 V_spec_l25Part := has_of tabOk (hint := []) (fn := Try.f65) (by kernel_rfl) (show Try.prog.funcs[65]? = some Try.f65 from Try.func65) (by kernel_rfl)
theorem h_areParts : Has Try.prog (seatFn tab) 372 2 V_areParts := has_of tabOk (hint := []) (fn := Try.f66) (by kernel_rfl) (show Try.prog.funcs[66]? = some Try.f66 from Try.func66) (by kernel_rfl)
theorem h_isMapOf : Has Try.prog (seatFn tab) 391 3 V_isMapOf := has_of tabOk (hint := []) (fn := Try.f165) (by kernel_rfl) (show Try.prog.funcs[165]? = some Try.f165 from Try.func165) (by kernel_rfl)
theorem h_has : Has Try.prog (seatFn tab) 413 2 V_has := has_of tabOk (hint := []) (fn := Try.f148) (by kernel_rfl) (show Try.prog.funcs[148]? = some Try.f148 from Try.func148) (by kernel_rfl)
theorem h_SetFunctor_isPart : Has Try.prog (seatFn tab) 422 2 V_SetFunctor_isPart := has_of tabOk (hint := []) (fn := Try.f118) (by kernel_rfl) (show Try.prog.funcs[118]? = some Try.f118 from Try.func118) (by kernel_rfl)
theorem r_HLaw : HLaw Try.prog (seatFn tab) := ⟨h_laws_szInt64S, h_laws_szInt64SS, h_laws_szCategory, h_laws_toInt64S, h_laws_toInt64SS, h_laws_toCategory, h_laws_eqInt64S, h_laws_eqInt64SS, h_laws_eqCategory⟩
theorem r_HLawF : HLawF Try.prog (seatFn tab) := ⟨h_laws_szSetFunctor, h_laws_toSetFunctor, h_laws_eqSetFunctor⟩
theorem r_HLawP : HLawP Try.prog (seatFn tab) := ⟨h_laws_szPart, h_laws_toPart, h_laws_eqPart⟩
theorem r_HCat : HCat Try.prog (seatFn tab) := ⟨h_Category_arrows, h_inRange, h_within, h_Category_ends, h_Category_then, h_Category_isShape, h_Category_fault, h_Category_isCategory⟩
theorem r_HSF : HSF Try.prog (seatFn tab) := ⟨h_isMapOf, h_SetFunctor_isShape, h_SetFunctor_fault, h_SetFunctor_isSetFunctor⟩
theorem r_HSpec : HSpec Try.prog (seatFn tab) := ⟨h_spec_l01In, h_spec_l01Map, h_spec_l02Ends, h_spec_IsShape, h_spec_l02Fault, h_spec_l02Is⟩
theorem r_HSFS : HSFS Try.prog (seatFn tab) := ⟨h_spec_l19Shape, h_spec_l19Fault, h_spec_l19Is⟩
open Classical in
theorem law_args (avs : List AV) (h1 : avs.length = ([sfTy, ptTy] : List Ty).length) (h2 : ∀ i (h : i < avs.length) (h' : i < ([sfTy, ptTy] : List Ty).length), ShpV ([sfTy, ptTy] : List Ty)[i] avs[i]) : OkM Try.prog (seatFn tab) 96 avs hempty 0 (fun r _ _ => r = bool true) := by
  obtain ⟨a0, a1, rfl⟩ := ListLen2 h1
  obtain ⟨f, rfl, rd_f⟩ := (h2 0 (by simp) (by simp)).sf
  obtain ⟨M, pt_M, rd_M⟩ := (h2 1 (by simp) (by simp)).pt
  exact law_IsPart r_HLaw r_HLawF r_HLawP h_laws_FnExactIsPart f rd_f M rd_M a1 pt_M (fun b bp => IsPart_both r_HCat r_HSF h_rising h_has h_SetFunctor_isPart h_areParts h_IsPart r_HSpec r_HSFS h_spec_l02Rises h_spec_l01Has h_spec_l25Part h_spec_IsPart f b M bp)
theorem own : ownKnob Try.prog.godebug = none := by kernel_rfl
theorem laidOut : laidOutB Try.prog = true := by kernel_rfl
set_option maxRecDepth 100000 in
theorem lifted (os : Os) (started : os.Started) (H : Type) (enc : TypeId × Value → H) :
    ReturnsInHanded {} Try.checked os 3 .any (Rows.fnExactIsPartSpec.pre6 enc Try.prog Try.f3 Rows.fnExactIsPartRow.domain false) (Rows.fnExactIsPartSpec.post enc Try.prog Try.f3 false true false false) := by
  refine returnsInHanded_of_change (C := Try.checked) own started (by kernel_rfl) Try.func3
    (ChangeSpec.witness6 (enc := enc) (C := Try.checked) false ⟨#[], #[.agg #[.int .i64 0, .slice none 0 0, .slice none 0 0, .slice none 0 0, .slice none 0 0, .slice none 0 0, .slice none 0 0], .agg #[.slice none 0 0]], []⟩ 8 (by kernel_rfl) (by kernel_rfl) (by kernel_rfl) (by kernel_rfl)) ?_
  intro W base args ds gs before hval hW _ _
  exact row_calls (P := Try.prog) (ν := seatFn tab) (fn := Try.f3) (s := Rows.fnExactIsPartSpec) (id := 96) (tb := Try.f3.resultTypes.getD 0 0) (m := 8) (tys := [sfTy, ptTy]) laidOut (by kernel_rfl) (by kernel_rfl) (by kernel_rfl) rfl (fun ds hd => by obtain ⟨_, _, rfl⟩ := (ListLen2 hd); rfl) (by kernel_rfl) rfl law_args W base args ds gs before hval hW
/-- For every input: the statement's function returns true. -/
theorem holds : Rows.FnExactIsPartSaid :=
  OpenClaim.holds_of_wide 3 Try.f3 rfl rfl rfl rfl rfl rfl rfl ⟨rfl, rfl, rfl, rfl, rfl⟩ rfl rfl rfl rfl rfl (by kernel_rfl) Try.func3 (by kernel_rfl)
    (of_decide_eq_true (by kernel_rfl)) (by unfold Func.isWrapper; first | (rw [if_pos (by decide +kernel)]; kernel_rfl) | (rw [if_neg (by decide +kernel)]; exact ⟨rfl, rfl⟩))
    (fun os started H enc _ => lifted os started H enc)
end Go.Proofs.Ytbikcomiocdkpaa.FnExactIsPart
