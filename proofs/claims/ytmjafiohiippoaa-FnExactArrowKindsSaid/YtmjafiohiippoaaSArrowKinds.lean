/-
  For every input the statement on ArrowKinds answers true: the seat's functions in the layer's second form, each checked by the kernel against the translation, then the row. No condition.
-/
import Derived.Test.YtmjafiohiippoaaRows
import Derived.Test.YtmjafiohiippoaaAvLArrowKinds
import Derived.Test.YtmjafiohiippoaaAvI2
import Derived.Test.YtmjafiohiippoaaAvO1
import Derived.ProofKit
namespace Go.Proofs.Ytmjafiohiippoaa.FnExactArrowKinds
open Go.Av
def tab : List (Nat × Nat) := [(3, 45), (4, 46), (5, 56), (6, 62), (7, 67), (8, 76), (9, 94), (10, 96), (11, 84), (12, 86), (13, 85), (14, 3), (15, 109), (16, 5), (17, 16), (18, 110), (19, 8), (20, 7), (21, 9), (22, 10), (23, 111), (24, 112), (25, 113), (26, 138), (27, 139), (28, 11), (29, 155), (30, 156), (31, 20), (32, 21), (33, 150), (34, 165), (35, 166), (36, 186), (37, 187), (38, 226), (39, 227), (40, 140), (41, 230), (42, 231), (43, 142), (44, 232), (45, 233), (46, 144), (47, 234), (48, 202), (49, 203), (50, 206), (51, 207), (52, 204), (53, 205), (54, 12), (55, 13), (56, 245), (57, 246), (58, 247), (59, 249), (60, 17), (61, 18), (62, 248), (63, 250), (64, 22), (65, 251), (66, 24), (67, 252), (68, 277), (69, 293), (70, 294), (71, 32), (72, 26), (73, 295), (74, 34), (75, 287), (76, 309), (77, 253), (78, 310), (79, 311), (80, 284), (81, 329), (82, 306), (83, 330), (84, 289), (85, 331), (86, 332), (87, 27), (88, 303), (89, 366), (90, 367), (91, 368), (92, 369), (93, 282), (94, 371), (95, 372), (96, 317), (97, 318), (98, 319), (99, 320), (100, 170), (101, 304), (102, 323), (103, 174), (104, 288), (105, 237), (106, 15), (107, 239), (108, 290), (109, 238), (110, 19), (111, 240), (112, 37), (113, 262), (114, 376), (115, 25), (116, 375), (117, 28), (118, 29), (119, 259), (120, 30), (121, 31), (122, 261), (123, 353), (124, 377), (125, 389), (126, 390), (127, 403), (128, 407), (129, 244), (130, 33), (131, 413), (132, 278), (133, 279), (134, 283), (135, 422), (136, 322), (137, 38), (138, 321), (139, 308), (140, 400), (141, 324), (142, 266), (143, 236), (144, 35), (145, 36), (146, 373), (147, 374), (148, 280), (149, 281), (150, 405), (151, 402), (152, 406), (153, 381), (154, 391), (155, 426), (156, 427)]
theorem tabOk : ∀ f id, seatNum tab f = some id → seatFn tab id = f := seat_inv (by decide +kernel)
theorem h_laws_szCategory : Has Try.prog (seatFn tab) 3 2 V_laws_szCategory := has_of tabOk (hint := []) (fn := Try.f14) (by kernel_rfl) (show Try.prog.funcs[14]? = some Try.f14 from Try.func14) (by kernel_rfl)
theorem h_laws_toCategory : Has Try.prog (seatFn tab) 5 1 V_laws_toCategory := has_of tabOk (hint := [(9, 1), (13, 1), (17, 1), (21, 1)]) (fn := Try.f16) (by kernel_rfl) (show Try.prog.funcs[16]? = some Try.f16 from Try.func16) (by kernel_rfl)
theorem h_laws_eqInt64S : Has Try.prog (seatFn tab) 7 2 V_laws_eqInt64S := has_of tabOk (hint := []) (fn := Try.f20) (by kernel_rfl) (show Try.prog.funcs[20]? = some Try.f20 from Try.func20) (by kernel_rfl)
theorem h_laws_eqCategory : Has Try.prog (seatFn tab) 8 2 V_laws_eqCategory := has_of tabOk (hint := []) (fn := Try.f19) (by kernel_rfl) (show Try.prog.funcs[19]? = some Try.f19 from Try.func19) (by kernel_rfl)
theorem h_laws_markCategory : Has Try.prog (seatFn tab) 9 2 V_laws_markCategory := has_of tabOk (hint := [(8, 1), (12, 1), (16, 1), (20, 1), (2, 3)]) (fn := Try.f21) (by kernel_rfl) (show Try.prog.funcs[21]? = some Try.f21 from Try.func21) (by kernel_rfl)
theorem h_laws_markInt64S : Has Try.prog (seatFn tab) 10 2 V_laws_markInt64S := has_of tabOk (hint := []) (fn := Try.f22) (by kernel_rfl) (show Try.prog.funcs[22]? = some Try.f22 from Try.func22) (by kernel_rfl)
theorem h_laws_heldInt64S : Has Try.prog (seatFn tab) 11 2 V_laws_heldInt64S := has_of tabOk (hint := []) (fn := Try.f28) (by kernel_rfl) (show Try.prog.funcs[28]? = some Try.f28 from Try.func28) (by kernel_rfl)
theorem h_laws_szInt64S : Has Try.prog (seatFn tab) 12 2 V_laws_szInt64S := has_of tabOk (hint := []) (fn := Try.f54) (by kernel_rfl) (show Try.prog.funcs[54]? = some Try.f54 from Try.func54) (by kernel_rfl)
theorem h_laws_szInt64SS : Has Try.prog (seatFn tab) 13 2 V_laws_szInt64SS := has_of tabOk (hint := []) (fn := Try.f55) (by kernel_rfl) (show Try.prog.funcs[55]? = some Try.f55 from Try.func55) (by kernel_rfl)
theorem h_spec_l05Sections : Has Try.prog (seatFn tab) 15 2 V_spec_l05Sections := has_of tabOk (hint := []) (fn := Try.f106) (by kernel_rfl) (show Try.prog.funcs[106]? = some Try.f106 from Try.func106) (by kernel_rfl)
theorem h_laws_toInt64S : Has Try.prog (seatFn tab) 16 1 V_laws_toInt64S := has_of tabOk (hint := []) (fn := Try.f17) (by kernel_rfl) (show Try.prog.funcs[17]? = some Try.f17 from Try.func17) (by kernel_rfl)
theorem h_laws_toInt64SS : Has Try.prog (seatFn tab) 17 1 V_laws_toInt64SS := has_of tabOk (hint := [(20, 1)]) (fn := Try.f60) (by kernel_rfl) (show Try.prog.funcs[60]? = some Try.f60 from Try.func60) (by kernel_rfl)
theorem h_Category_sections : Has Try.prog (seatFn tab) 19 2 V_Category_sections := has_of tabOk (hint := [(20, 1)]) (fn := Try.f110) (by kernel_rfl) (show Try.prog.funcs[110]? = some Try.f110 from Try.func110) (by kernel_rfl)
theorem h_laws_eqInt64SS : Has Try.prog (seatFn tab) 20 2 V_laws_eqInt64SS := has_of tabOk (hint := []) (fn := Try.f31) (by kernel_rfl) (show Try.prog.funcs[31]? = some Try.f31 from Try.func31) (by kernel_rfl)
theorem h_laws_markInt64SS : Has Try.prog (seatFn tab) 21 2 V_laws_markInt64SS := has_of tabOk (hint := [(17, 1)]) (fn := Try.f32) (by kernel_rfl) (show Try.prog.funcs[32]? = some Try.f32 from Try.func32) (by kernel_rfl)
theorem h_spec_l02Is : Has Try.prog (seatFn tab) 22 1 V_spec_l02Is := has_of tabOk (hint := []) (fn := Try.f64) (by kernel_rfl) (show Try.prog.funcs[64]? = some Try.f64 from Try.func64) (by kernel_rfl)
theorem h_Category_isCategory : Has Try.prog (seatFn tab) 24 1 V_Category_isCategory := has_of tabOk (hint := []) (fn := Try.f66) (by kernel_rfl) (show Try.prog.funcs[66]? = some Try.f66 from Try.func66) (by kernel_rfl)
theorem h_within : Has Try.prog (seatFn tab) 25 2 V_within := has_of tabOk (hint := []) (fn := Try.f115) (by kernel_rfl) (show Try.prog.funcs[115]? = some Try.f115 from Try.func115) (by kernel_rfl)
theorem h_Category_arrows : Has Try.prog (seatFn tab) 26 1 V_Category_arrows := has_of tabOk (hint := []) (fn := Try.f72) (by kernel_rfl) (show Try.prog.funcs[72]? = some Try.f72 from Try.func72) (by kernel_rfl)
theorem h_Category_lifts : Has Try.prog (seatFn tab) 27 3 V_Category_lifts := has_of tabOk (hint := []) (fn := Try.f87) (by kernel_rfl) (show Try.prog.funcs[87]? = some Try.f87 from Try.func87) (by kernel_rfl)
theorem h_spec_IsShape : Has Try.prog (seatFn tab) 28 1 V_spec_IsShape := has_of tabOk (hint := []) (fn := Try.f117) (by kernel_rfl) (show Try.prog.funcs[117]? = some Try.f117 from Try.func117) (by kernel_rfl)
theorem h_spec_l02Fault : Has Try.prog (seatFn tab) 29 1 V_spec_l02Fault := has_of tabOk (hint := []) (fn := Try.f118) (by kernel_rfl) (show Try.prog.funcs[118]? = some Try.f118 from Try.func118) (by kernel_rfl)
theorem h_Category_isShape : Has Try.prog (seatFn tab) 30 1 V_Category_isShape := has_of tabOk (hint := []) (fn := Try.f120) (by kernel_rfl) (show Try.prog.funcs[120]? = some Try.f120 from Try.func120) (by kernel_rfl)
theorem h_Category_fault : Has Try.prog (seatFn tab) 31 1 V_Category_fault := has_of tabOk (hint := []) (fn := Try.f121) (by kernel_rfl) (show Try.prog.funcs[121]? = some Try.f121 from Try.func121) (by kernel_rfl)
theorem h_inRange : Has Try.prog (seatFn tab) 32 3 V_inRange := has_of tabOk (hint := []) (fn := Try.f71) (by kernel_rfl) (show Try.prog.funcs[71]? = some Try.f71 from Try.func71) (by kernel_rfl)
theorem h_Category_hom : Has Try.prog (seatFn tab) 33 3 V_Category_hom := has_of tabOk (hint := []) (fn := Try.f130) (by kernel_rfl) (show Try.prog.funcs[130]? = some Try.f130 from Try.func130) (by kernel_rfl)
theorem h_Category_then : Has Try.prog (seatFn tab) 34 3 V_Category_then := has_of tabOk (hint := []) (fn := Try.f74) (by kernel_rfl) (show Try.prog.funcs[74]? = some Try.f74 from Try.func74) (by kernel_rfl)
theorem h_spec_l01In : Has Try.prog (seatFn tab) 35 3 V_spec_l01In := has_of tabOk (hint := []) (fn := Try.f144) (by kernel_rfl) (show Try.prog.funcs[144]? = some Try.f144 from Try.func144) (by kernel_rfl)
theorem h_spec_l02Ends : Has Try.prog (seatFn tab) 36 3 V_spec_l02Ends := has_of tabOk (hint := []) (fn := Try.f145) (by kernel_rfl) (show Try.prog.funcs[145]? = some Try.f145 from Try.func145) (by kernel_rfl)
theorem h_spec_l01Map : Has Try.prog (seatFn tab) 37 2 V_spec_l01Map := has_of tabOk (hint := []) (fn := Try.f112) (by kernel_rfl) (show Try.prog.funcs[112]? = some Try.f112 from Try.func112) (by kernel_rfl)
theorem h_Category_ends : Has Try.prog (seatFn tab) 38 2 V_Category_ends := has_of tabOk (hint := []) (fn := Try.f137) (by kernel_rfl) (show Try.prog.funcs[137]? = some Try.f137 from Try.func137) (by kernel_rfl)
theorem h_laws_FnExactArrowKinds : Has Try.prog (seatFn tab) 85 1 V_laws_FnExactArrowKinds := has_of tabOk (hint := [(26, 1), (29, 2), (48, 1), (64, 1), (76, 2)]) (fn := Try.f13) (by kernel_rfl) (show Try.prog.funcs[13]? = some Try.f13 from Try.func13) (by kernel_rfl)
theorem h_spec_ArrowKinds : Has Try.prog (seatFn tab) 204 1 V_spec_ArrowKinds := has_of tabOk (hint := []) (fn := Try.f52) (by kernel_rfl) (show Try.prog.funcs[52]? = some Try.f52 from Try.func52) (by kernel_rfl)
theorem h_ArrowKinds : Has Try.prog (seatFn tab) 205 1 V_ArrowKinds := has_of tabOk (hint := []) (fn := Try.f53) (by kernel_rfl) (show Try.prog.funcs[53]? = some Try.f53 from Try.func53) (by kernel_rfl)
theorem h_Category_extensions : Has Try.prog (seatFn tab) 236 3 V_Category_extensions := has_of tabOk (hint := []) (fn := Try.f143) (by kernel_rfl) (show Try.prog.funcs[143]? = some Try.f143 from Try.func143) (by kernel_rfl)
theorem h_spec_l05Retractions : Has Try.prog (seatFn tab) 237 2 V_spec_l05Retractions := has_of tabOk (hint := []) (fn := Try.f105) (by kernel_rfl) (show Try.prog.funcs[105]? = some Try.f105 from Try.func105) (by kernel_rfl)
theorem h_Category_retractions : Has Try.prog (seatFn tab) 238 2 V_Category_retractions := has_of tabOk (hint := [(20, 1)]) (fn := Try.f109) (by kernel_rfl) (show Try.prog.funcs[109]? = some Try.f109 from Try.func109) (by kernel_rfl)
theorem h_spec_l05Inverse : Has Try.prog (seatFn tab) 239 2 V_spec_l05Inverse := has_of tabOk (hint := []) (fn := Try.f107) (by kernel_rfl) (show Try.prog.funcs[107]? = some Try.f107 from Try.func107) (by kernel_rfl)
theorem h_Category_inverse : Has Try.prog (seatFn tab) 240 2 V_Category_inverse := has_of tabOk (hint := []) (fn := Try.f111) (by kernel_rfl) (show Try.prog.funcs[111]? = some Try.f111 from Try.func111) (by kernel_rfl)
theorem h_Category_jointlyMono : Has Try.prog (seatFn tab) 244 3 V_Category_jointlyMono := has_of tabOk (hint := []) (fn := Try.f129) (by kernel_rfl) (show Try.prog.funcs[129]? = some Try.f129 from Try.func129) (by kernel_rfl)
theorem h_spec_l01Has : Has Try.prog (seatFn tab) 262 2 V_spec_l01Has := has_of tabOk (hint := []) (fn := Try.f113) (by kernel_rfl) (show Try.prog.funcs[113]? = some Try.f113 from Try.func113) (by kernel_rfl)
theorem h_Category_jointlyEpi : Has Try.prog (seatFn tab) 266 3 V_Category_jointlyEpi := has_of tabOk (hint := []) (fn := Try.f142) (by kernel_rfl) (show Try.prog.funcs[142]? = some Try.f142 from Try.func142) (by kernel_rfl)
theorem h_spec_l05Mono : Has Try.prog (seatFn tab) 287 2 V_spec_l05Mono := has_of tabOk (hint := []) (fn := Try.f75) (by kernel_rfl) (show Try.prog.funcs[75]? = some Try.f75 from Try.func75) (by kernel_rfl)
theorem h_spec_l05Epi : Has Try.prog (seatFn tab) 288 2 V_spec_l05Epi := has_of tabOk (hint := []) (fn := Try.f104) (by kernel_rfl) (show Try.prog.funcs[104]? = some Try.f104 from Try.func104) (by kernel_rfl)
theorem h_Category_isMono : Has Try.prog (seatFn tab) 289 2 V_Category_isMono := has_of tabOk (hint := []) (fn := Try.f84) (by kernel_rfl) (show Try.prog.funcs[84]? = some Try.f84 from Try.func84) (by kernel_rfl)
theorem h_Category_isEpi : Has Try.prog (seatFn tab) 290 2 V_Category_isEpi := has_of tabOk (hint := []) (fn := Try.f108) (by kernel_rfl) (show Try.prog.funcs[108]? = some Try.f108 from Try.func108) (by kernel_rfl)
theorem h_cancels : Has Try.prog (seatFn tab) 373 3 V_cancels := has_of tabOk (hint := []) (fn := Try.f146) (by kernel_rfl) (show Try.prog.funcs[146]? = some Try.f146 from Try.func146) (by kernel_rfl)
theorem h_Category_jointlyMono_1 : Has Try.prog (seatFn tab) 374 4 V_Category_jointlyMono_1 := has_of tabOk (hint := []) (fn := Try.f147) (by kernel_rfl) (show Try.prog.funcs[147]? = some Try.f147 from Try.func147) (by kernel_rfl)
theorem h_Category_jointlyEpi_1 : Has Try.prog (seatFn tab) 381 4 V_Category_jointlyEpi_1 := has_of tabOk (hint := []) (fn := Try.f153) (by kernel_rfl) (show Try.prog.funcs[153]? = some Try.f153 from Try.func153) (by kernel_rfl)
theorem r_HLaw : HLaw Try.prog (seatFn tab) := ⟨h_laws_szInt64S, h_laws_szInt64SS, h_laws_szCategory, h_laws_toInt64S, h_laws_toInt64SS, h_laws_toCategory, h_laws_eqInt64S, h_laws_eqInt64SS, h_laws_eqCategory⟩
theorem r_HMark : HMark Try.prog (seatFn tab) := ⟨h_laws_markInt64S, h_laws_markInt64SS, h_laws_markCategory, h_laws_heldInt64S⟩
theorem r_HCat : HCat Try.prog (seatFn tab) := ⟨h_Category_arrows, h_inRange, h_within, h_Category_ends, h_Category_then, h_Category_isShape, h_Category_fault, h_Category_isCategory⟩
theorem r_HMono : HMono Try.prog (seatFn tab) := ⟨h_cancels, h_Category_jointlyMono_1, h_Category_jointlyMono, h_Category_jointlyEpi_1, h_Category_jointlyEpi, h_Category_isMono, h_Category_isEpi⟩
theorem r_HKinds : HKinds Try.prog (seatFn tab) := ⟨h_Category_hom, h_Category_lifts, h_Category_extensions, h_Category_retractions, h_Category_sections, h_Category_inverse⟩
theorem r_HSpec : HSpec Try.prog (seatFn tab) := ⟨h_spec_l01In, h_spec_l01Map, h_spec_l02Ends, h_spec_IsShape, h_spec_l02Fault, h_spec_l02Is⟩
theorem r_HKindsS : HKindsS Try.prog (seatFn tab) := ⟨h_spec_l05Mono, h_spec_l05Epi, h_spec_l05Retractions, h_spec_l05Sections, h_spec_l01Has, h_spec_l05Inverse⟩
open Classical in
theorem law_args (avs : List AV) (h1 : avs.length = ([catTy] : List Ty).length) (h2 : ∀ i (h : i < avs.length) (h' : i < ([catTy] : List Ty).length), ShpV ([catTy] : List Ty)[i] avs[i]) : OkM Try.prog (seatFn tab) 85 avs hempty 0 (fun r _ _ => r = bool true) := by
  obtain ⟨a0, rfl⟩ := ListLen1 h1
  obtain ⟨c, rfl, rd_c, _⟩ := (h2 0 (by simp) (by simp)).cat
  exact law_ArrowKinds r_HLaw r_HMark h_laws_FnExactArrowKinds c rd_c  (fun b => ArrowKinds_both r_HCat r_HMono r_HKinds h_ArrowKinds r_HSpec r_HKindsS h_spec_ArrowKinds c b.toSmall )
theorem own : ownKnob Try.prog.godebug = none := by kernel_rfl
theorem laidOut : laidOutB Try.prog = true := by kernel_rfl
set_option maxRecDepth 100000 in
theorem lifted (os : Os) (started : os.Started) (H : Type) (enc : TypeId × Value → H) :
    ReturnsInHanded {} Try.checked os 13 .any (Rows.fnExactArrowKindsSpec.pre6 enc Try.prog Try.f13 Rows.fnExactArrowKindsRow.domain false) (Rows.fnExactArrowKindsSpec.post enc Try.prog Try.f13 false true false false) := by
  refine returnsInHanded_of_change (C := Try.checked) own started (by kernel_rfl) Try.func13
    (ChangeSpec.witness6 (enc := enc) (C := Try.checked) false ⟨#[], #[.agg #[.int .i64 0, .slice none 0 0, .slice none 0 0, .slice none 0 0, .slice none 0 0]], []⟩ 8 (by kernel_rfl) (by kernel_rfl) (by kernel_rfl) (by kernel_rfl)) ?_
  intro W base args ds gs before hval hW _ _
  exact row_calls (P := Try.prog) (ν := seatFn tab) (fn := Try.f13) (s := Rows.fnExactArrowKindsSpec) (id := 85) (tb := Try.f13.resultTypes.getD 0 0) (m := 8) (tys := [catTy]) laidOut (by kernel_rfl) (by kernel_rfl) (by kernel_rfl) rfl (fun ds hd => by obtain ⟨_, rfl⟩ := (ListLen1 hd); rfl) (by kernel_rfl) rfl law_args W base args ds gs before hval hW
/-- For every input: the statement's function returns true. -/
theorem holds : Rows.FnExactArrowKindsSaid :=
  OpenClaim.holds_of_wide 13 Try.f13 rfl rfl rfl rfl rfl rfl rfl ⟨rfl, rfl, rfl, rfl, rfl⟩ rfl rfl rfl rfl rfl (by kernel_rfl) Try.func13 (by kernel_rfl)
    (of_decide_eq_true (by kernel_rfl)) (by unfold Func.isWrapper; first | (rw [if_pos (by decide +kernel)]; kernel_rfl) | (rw [if_neg (by decide +kernel)]; exact ⟨rfl, rfl⟩))
    (fun os started H enc _ => lifted os started H enc)
end Go.Proofs.Ytmjafiohiippoaa.FnExactArrowKinds
