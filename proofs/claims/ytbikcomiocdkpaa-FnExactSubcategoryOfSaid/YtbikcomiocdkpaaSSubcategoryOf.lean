/-
  For every input the statement on SubcategoryOf answers true: the seat's functions in the layer's second form, each checked by the kernel against the translation, then the row. No condition.
-/
import Derived.Test.YtbikcomiocdkpaaRows
import Derived.Test.YtbikcomiocdkpaaAvLSubcategoryOf
import Derived.Test.YtbikcomiocdkpaaAvN3
import Derived.Test.YtbikcomiocdkpaaAvO1
import Derived.ProofKit
namespace Go.Proofs.Ytbikcomiocdkpaa.FnExactSubcategoryOf
open Go.Av
def tab : List (Nat × Nat) := [(3, 96), (4, 64), (5, 82), (6, 76), (7, 62), (8, 88), (9, 56), (10, 92), (11, 46), (12, 94), (13, 45), (14, 78), (15, 140), (16, 230), (17, 231), (18, 142), (19, 232), (20, 233), (21, 144), (22, 234), (23, 3), (24, 159), (25, 5), (26, 16), (27, 160), (28, 8), (29, 7), (30, 13), (31, 198), (32, 17), (33, 199), (34, 20), (35, 9), (36, 21), (37, 10), (38, 11), (39, 186), (40, 187), (41, 150), (42, 155), (43, 156), (44, 116), (45, 210), (46, 118), (47, 211), (48, 120), (49, 212), (50, 138), (51, 139), (52, 222), (53, 223), (54, 112), (55, 113), (56, 111), (57, 226), (58, 227), (59, 109), (60, 110), (61, 190), (62, 191), (63, 12), (64, 282), (65, 371), (66, 372), (67, 22), (68, 299), (69, 24), (70, 300), (71, 245), (72, 340), (73, 341), (74, 25), (75, 26), (76, 38), (77, 342), (78, 284), (79, 329), (80, 306), (81, 330), (82, 289), (83, 331), (84, 332), (85, 27), (86, 293), (87, 294), (88, 32), (89, 295), (90, 34), (91, 256), (92, 347), (93, 257), (94, 348), (95, 247), (96, 18), (97, 277), (98, 251), (99, 252), (100, 303), (101, 366), (102, 249), (103, 367), (104, 368), (105, 250), (106, 369), (107, 246), (108, 248), (109, 304), (110, 305), (111, 307), (112, 308), (113, 278), (114, 279), (115, 37), (116, 262), (117, 283), (118, 422), (119, 28), (120, 29), (121, 397), (122, 398), (123, 30), (124, 31), (125, 399), (126, 360), (127, 253), (128, 291), (129, 394), (130, 395), (131, 414), (132, 396), (133, 287), (134, 259), (135, 407), (136, 244), (137, 33), (138, 309), (139, 315), (140, 378), (141, 389), (142, 390), (143, 261), (144, 353), (145, 377), (146, 376), (147, 375), (148, 413), (149, 319), (150, 400), (151, 401), (152, 402), (153, 35), (154, 280), (155, 281), (156, 36), (157, 393), (158, 425), (159, 365), (160, 373), (161, 374), (162, 322), (163, 426), (164, 427), (165, 391)]
theorem tabOk : ∀ f id, seatNum tab f = some id → seatFn tab id = f := seat_inv (by decide +kernel)
theorem h_laws_szCategory : Has Try.prog (seatFn tab) 3 2 V_laws_szCategory := has_of tabOk (hint := []) (fn := Try.f23) (by kernel_rfl) (show Try.prog.funcs[23]? = some Try.f23 from Try.func23) (by kernel_rfl)
theorem h_laws_toCategory : Has Try.prog (seatFn tab) 5 1 V_laws_toCategory := has_of tabOk (hint := [(9, 1), (13, 1), (17, 1), (21, 1)]) (fn := Try.f25) (by kernel_rfl) (show Try.prog.funcs[25]? = some Try.f25 from Try.func25) (by kernel_rfl)
theorem h_laws_eqInt64S : Has Try.prog (seatFn tab) 7 2 V_laws_eqInt64S := has_of tabOk (hint := []) (fn := Try.f29) (by kernel_rfl) (show Try.prog.funcs[29]? = some Try.f29 from Try.func29) (by kernel_rfl)
theorem h_laws_eqCategory : Has Try.prog (seatFn tab) 8 2 V_laws_eqCategory := has_of tabOk (hint := []) (fn := Try.f28) (by kernel_rfl) (show Try.prog.funcs[28]? = some Try.f28 from Try.func28) (by kernel_rfl)
theorem h_laws_markCategory : Has Try.prog (seatFn tab) 9 2 V_laws_markCategory := has_of tabOk (hint := [(8, 1), (12, 1), (16, 1), (20, 1), (2, 3)]) (fn := Try.f35) (by kernel_rfl) (show Try.prog.funcs[35]? = some Try.f35 from Try.func35) (by kernel_rfl)
theorem h_laws_markInt64S : Has Try.prog (seatFn tab) 10 2 V_laws_markInt64S := has_of tabOk (hint := []) (fn := Try.f37) (by kernel_rfl) (show Try.prog.funcs[37]? = some Try.f37 from Try.func37) (by kernel_rfl)
theorem h_laws_heldInt64S : Has Try.prog (seatFn tab) 11 2 V_laws_heldInt64S := has_of tabOk (hint := []) (fn := Try.f38) (by kernel_rfl) (show Try.prog.funcs[38]? = some Try.f38 from Try.func38) (by kernel_rfl)
theorem h_laws_szInt64S : Has Try.prog (seatFn tab) 12 2 V_laws_szInt64S := has_of tabOk (hint := []) (fn := Try.f63) (by kernel_rfl) (show Try.prog.funcs[63]? = some Try.f63 from Try.func63) (by kernel_rfl)
theorem h_laws_szInt64SS : Has Try.prog (seatFn tab) 13 2 V_laws_szInt64SS := has_of tabOk (hint := []) (fn := Try.f30) (by kernel_rfl) (show Try.prog.funcs[30]? = some Try.f30 from Try.func30) (by kernel_rfl)
theorem h_laws_toInt64S : Has Try.prog (seatFn tab) 16 1 V_laws_toInt64S := has_of tabOk (hint := []) (fn := Try.f26) (by kernel_rfl) (show Try.prog.funcs[26]? = some Try.f26 from Try.func26) (by kernel_rfl)
theorem h_laws_toInt64SS : Has Try.prog (seatFn tab) 17 1 V_laws_toInt64SS := has_of tabOk (hint := [(20, 1)]) (fn := Try.f32) (by kernel_rfl) (show Try.prog.funcs[32]? = some Try.f32 from Try.func32) (by kernel_rfl)
theorem h_arrowCode : Has Try.prog (seatFn tab) 18 2 V_arrowCode := has_of tabOk (hint := []) (fn := Try.f96) (by kernel_rfl) (show Try.prog.funcs[96]? = some Try.f96 from Try.func96) (by kernel_rfl)
theorem h_laws_eqInt64SS : Has Try.prog (seatFn tab) 20 2 V_laws_eqInt64SS := has_of tabOk (hint := []) (fn := Try.f34) (by kernel_rfl) (show Try.prog.funcs[34]? = some Try.f34 from Try.func34) (by kernel_rfl)
theorem h_laws_markInt64SS : Has Try.prog (seatFn tab) 21 2 V_laws_markInt64SS := has_of tabOk (hint := [(17, 1)]) (fn := Try.f36) (by kernel_rfl) (show Try.prog.funcs[36]? = some Try.f36 from Try.func36) (by kernel_rfl)
theorem h_spec_l02Is : Has Try.prog (seatFn tab) 22 1 V_spec_l02Is := has_of tabOk (hint := []) (fn := Try.f67) (by kernel_rfl) (show Try.prog.funcs[67]? = some Try.f67 from Try.func67) (by kernel_rfl)
theorem h_Category_isCategory : Has Try.prog (seatFn tab) 24 1 V_Category_isCategory := has_of tabOk (hint := []) (fn := Try.f69) (by kernel_rfl) (show Try.prog.funcs[69]? = some Try.f69 from Try.func69) (by kernel_rfl)
theorem h_within : Has Try.prog (seatFn tab) 25 2 V_within := has_of tabOk (hint := []) (fn := Try.f74) (by kernel_rfl) (show Try.prog.funcs[74]? = some Try.f74 from Try.func74) (by kernel_rfl)
theorem h_Category_arrows : Has Try.prog (seatFn tab) 26 1 V_Category_arrows := has_of tabOk (hint := []) (fn := Try.f75) (by kernel_rfl) (show Try.prog.funcs[75]? = some Try.f75 from Try.func75) (by kernel_rfl)
theorem h_spec_IsShape : Has Try.prog (seatFn tab) 28 1 V_spec_IsShape := has_of tabOk (hint := []) (fn := Try.f119) (by kernel_rfl) (show Try.prog.funcs[119]? = some Try.f119 from Try.func119) (by kernel_rfl)
theorem h_spec_l02Fault : Has Try.prog (seatFn tab) 29 1 V_spec_l02Fault := has_of tabOk (hint := []) (fn := Try.f120) (by kernel_rfl) (show Try.prog.funcs[120]? = some Try.f120 from Try.func120) (by kernel_rfl)
theorem h_Category_isShape : Has Try.prog (seatFn tab) 30 1 V_Category_isShape := has_of tabOk (hint := []) (fn := Try.f123) (by kernel_rfl) (show Try.prog.funcs[123]? = some Try.f123 from Try.func123) (by kernel_rfl)
theorem h_Category_fault : Has Try.prog (seatFn tab) 31 1 V_Category_fault := has_of tabOk (hint := []) (fn := Try.f124) (by kernel_rfl) (show Try.prog.funcs[124]? = some Try.f124 from Try.func124) (by kernel_rfl)
theorem h_inRange : Has Try.prog (seatFn tab) 32 3 V_inRange := has_of tabOk (hint := []) (fn := Try.f88) (by kernel_rfl) (show Try.prog.funcs[88]? = some Try.f88 from Try.func88) (by kernel_rfl)
theorem h_Category_then : Has Try.prog (seatFn tab) 34 3 V_Category_then := has_of tabOk (hint := []) (fn := Try.f90) (by kernel_rfl) (show Try.prog.funcs[90]? = some Try.f90 from Try.func90) (by kernel_rfl)
theorem h_spec_l01In : Has Try.prog (seatFn tab) 35 3 V_spec_l01In := has_of tabOk (hint := []) (fn := Try.f153) (by kernel_rfl) (show Try.prog.funcs[153]? = some Try.f153 from Try.func153) (by kernel_rfl)
theorem h_spec_l02Ends : Has Try.prog (seatFn tab) 36 3 V_spec_l02Ends := has_of tabOk (hint := []) (fn := Try.f156) (by kernel_rfl) (show Try.prog.funcs[156]? = some Try.f156 from Try.func156) (by kernel_rfl)
theorem h_spec_l01Map : Has Try.prog (seatFn tab) 37 2 V_spec_l01Map := has_of tabOk (hint := []) (fn := Try.f115) (by kernel_rfl) (show Try.prog.funcs[115]? = some Try.f115 from Try.func115) (by kernel_rfl)
theorem h_Category_ends : Has Try.prog (seatFn tab) 38 2 V_Category_ends := has_of tabOk (hint := []) (fn := Try.f76) (by kernel_rfl) (show Try.prog.funcs[76]? = some Try.f76 from Try.func76) (by kernel_rfl)
theorem h_laws_FnExactSubcategoryOf : Has Try.prog (seatFn tab) 45 2 V_laws_FnExactSubcategoryOf := has_of tabOk (hint := [(34, 1), (36, 1), (40, 2), (64, 1), (67, 1), (83, 1), (97, 2)]) (fn := Try.f13) (by kernel_rfl) (show Try.prog.funcs[13]? = some Try.f13 from Try.func13) (by kernel_rfl)
theorem h_spec_SubcategoryOf : Has Try.prog (seatFn tab) 109 2 V_spec_SubcategoryOf := has_of tabOk (hint := []) (fn := Try.f59) (by kernel_rfl) (show Try.prog.funcs[59]? = some Try.f59 from Try.func59) (by kernel_rfl)
theorem h_SubcategoryOf : Has Try.prog (seatFn tab) 110 2 V_SubcategoryOf := has_of tabOk (hint := [(21, 2)]) (fn := Try.f60) (by kernel_rfl) (show Try.prog.funcs[60]? = some Try.f60 from Try.func60) (by kernel_rfl)
theorem h_laws_heldCategory : Has Try.prog (seatFn tab) 111 2 V_laws_heldCategory := has_of tabOk (hint := []) (fn := Try.f56) (by kernel_rfl) (show Try.prog.funcs[56]? = some Try.f56 from Try.func56) (by kernel_rfl)
theorem h_laws_heldInt64SS : Has Try.prog (seatFn tab) 150 2 V_laws_heldInt64SS := has_of tabOk (hint := []) (fn := Try.f41) (by kernel_rfl) (show Try.prog.funcs[41]? = some Try.f41 from Try.func41) (by kernel_rfl)
theorem h_spec_l02Arrows : Has Try.prog (seatFn tab) 245 2 V_spec_l02Arrows := has_of tabOk (hint := []) (fn := Try.f71) (by kernel_rfl) (show Try.prog.funcs[71]? = some Try.f71 from Try.func71) (by kernel_rfl)
theorem h_spec_l01Same : Has Try.prog (seatFn tab) 246 2 V_spec_l01Same := has_of tabOk (hint := []) (fn := Try.f107) (by kernel_rfl) (show Try.prog.funcs[107]? = some Try.f107 from Try.func107) (by kernel_rfl)
theorem h_spec_l02Close : Has Try.prog (seatFn tab) 247 2 V_spec_l02Close := has_of tabOk (hint := []) (fn := Try.f95) (by kernel_rfl) (show Try.prog.funcs[95]? = some Try.f95 from Try.func95) (by kernel_rfl)
theorem h_Category_isSubcategory : Has Try.prog (seatFn tab) 248 2 V_Category_isSubcategory := has_of tabOk (hint := []) (fn := Try.f108) (by kernel_rfl) (show Try.prog.funcs[108]? = some Try.f108 from Try.func108) (by kernel_rfl)
theorem h_spec_l02Part : Has Try.prog (seatFn tab) 249 2 V_spec_l02Part := has_of tabOk (hint := [(123, 3)]) (fn := Try.f102) (by kernel_rfl) (show Try.prog.funcs[102]? = some Try.f102 from Try.func102) (by kernel_rfl)
theorem h_Category_sub : Has Try.prog (seatFn tab) 250 2 V_Category_sub := has_of tabOk (hint := [(143, 3)]) (fn := Try.f105) (by kernel_rfl) (show Try.prog.funcs[105]? = some Try.f105 from Try.func105) (by kernel_rfl)
theorem h_spec_l01Has : Has Try.prog (seatFn tab) 262 2 V_spec_l01Has := has_of tabOk (hint := []) (fn := Try.f116) (by kernel_rfl) (show Try.prog.funcs[116]? = some Try.f116 from Try.func116) (by kernel_rfl)
theorem h_rising : Has Try.prog (seatFn tab) 368 1 V_rising := has_of tabOk (hint := []) (fn := Try.f104) (by kernel_rfl) (show Try.prog.funcs[104]? = some Try.f104 from Try.func104) (by kernel_rfl)
theorem h_Category_marks : Has Try.prog (seatFn tab) 375 2 V_Category_marks := has_of tabOk (hint := []) (fn := Try.f147) (by kernel_rfl) (show Try.prog.funcs[147]? = some Try.f147 from Try.func147) (by kernel_rfl)
theorem h_spec_l01Index : Has Try.prog (seatFn tab) 376 2 V_spec_l01Index := has_of tabOk (hint := []) (fn := Try.f146) (by kernel_rfl) (show Try.prog.funcs[146]? = some Try.f146 from Try.func146) (by kernel_rfl)
theorem r_HLaw : HLaw Try.prog (seatFn tab) := ⟨h_laws_szInt64S, h_laws_szInt64SS, h_laws_szCategory, h_laws_toInt64S, h_laws_toInt64SS, h_laws_toCategory, h_laws_eqInt64S, h_laws_eqInt64SS, h_laws_eqCategory⟩
theorem r_HMark : HMark Try.prog (seatFn tab) := ⟨h_laws_markInt64S, h_laws_markInt64SS, h_laws_markCategory, h_laws_heldInt64S⟩
theorem r_HCat : HCat Try.prog (seatFn tab) := ⟨h_Category_arrows, h_inRange, h_within, h_Category_ends, h_Category_then, h_Category_isShape, h_Category_fault, h_Category_isCategory⟩
theorem r_HSpec : HSpec Try.prog (seatFn tab) := ⟨h_spec_l01In, h_spec_l01Map, h_spec_l02Ends, h_spec_IsShape, h_spec_l02Fault, h_spec_l02Is⟩
open Classical in
theorem law_args (avs : List AV) (h1 : avs.length = ([catTy, (.sl .int)] : List Ty).length) (h2 : ∀ i (h : i < avs.length) (h' : i < ([catTy, (.sl .int)] : List Ty).length), ShpV ([catTy, (.sl .int)] : List Ty)[i] avs[i]) : OkM Try.prog (seatFn tab) 45 avs hempty 0 (fun r _ _ => r = bool true) := by
  obtain ⟨a0, a1, rfl⟩ := ListLen2 h1
  obtain ⟨c, rfl, rd_c, _⟩ := (h2 0 (by simp) (by simp)).cat
  obtain ⟨arrows, rfl, rd_arrows, _⟩ := (h2 1 (by simp) (by simp)).ints
  exact law_SubcategoryOf r_HLaw r_HMark h_laws_heldInt64SS h_laws_heldCategory h_laws_FnExactSubcategoryOf c rd_c arrows rd_arrows (fun b_c b_arrows => SubcategoryOf_both r_HCat h_arrowCode h_rising h_Category_isSubcategory h_Category_marks h_Category_sub h_SubcategoryOf r_HSpec h_spec_l02Arrows h_spec_l02Close h_spec_l01Same h_spec_l01Has h_spec_l01Index h_spec_l02Part h_spec_SubcategoryOf c b_c.toSmall arrows b_arrows)
theorem own : ownKnob Try.prog.godebug = none := by kernel_rfl
theorem laidOut : laidOutB Try.prog = true := by kernel_rfl
set_option maxRecDepth 100000 in
theorem lifted (os : Os) (started : os.Started) (H : Type) (enc : TypeId × Value → H) :
    ReturnsInHanded {} Try.checked os 13 .any (Rows.fnExactSubcategoryOfSpec.pre6 enc Try.prog Try.f13 Rows.fnExactSubcategoryOfRow.domain false) (Rows.fnExactSubcategoryOfSpec.post enc Try.prog Try.f13 false true false false) := by
  refine returnsInHanded_of_change (C := Try.checked) own started (by kernel_rfl) Try.func13
    (ChangeSpec.witness6 (enc := enc) (C := Try.checked) false ⟨#[], #[.agg #[.int .i64 0, .slice none 0 0, .slice none 0 0, .slice none 0 0, .slice none 0 0], .slice none 0 0], []⟩ 8 (by kernel_rfl) (by kernel_rfl) (by kernel_rfl) (by kernel_rfl)) ?_
  intro W base args ds gs before hval hW _ _
  exact row_calls (P := Try.prog) (ν := seatFn tab) (fn := Try.f13) (s := Rows.fnExactSubcategoryOfSpec) (id := 45) (tb := Try.f13.resultTypes.getD 0 0) (m := 8) (tys := [catTy, (.sl .int)]) laidOut (by kernel_rfl) (by kernel_rfl) (by kernel_rfl) rfl (fun ds hd => by obtain ⟨_, _, rfl⟩ := (ListLen2 hd); rfl) (by kernel_rfl) rfl law_args W base args ds gs before hval hW
/-- For every input: the statement's function returns true. -/
theorem holds : Rows.FnExactSubcategoryOfSaid :=
  OpenClaim.holds_of_wide 13 Try.f13 rfl rfl rfl rfl rfl rfl rfl ⟨rfl, rfl, rfl, rfl, rfl⟩ rfl rfl rfl rfl rfl (by kernel_rfl) Try.func13 (by kernel_rfl)
    (of_decide_eq_true (by kernel_rfl)) (by unfold Func.isWrapper; first | (rw [if_pos (by decide +kernel)]; kernel_rfl) | (rw [if_neg (by decide +kernel)]; exact ⟨rfl, rfl⟩))
    (fun os started H enc _ => lifted os started H enc)
end Go.Proofs.Ytbikcomiocdkpaa.FnExactSubcategoryOf
