/-
  For every input the statement on PushoutArrows answers true: the seat's functions in the layer's second form, each checked by the kernel against the translation, then the row. No condition.
-/
import Derived.Test.YtmjafiohiippoaaRows
import Derived.Test.YtmjafiohiippoaaAvLPushoutArrows
import Derived.Test.YtmjafiohiippoaaAvT3
import Derived.Test.YtmjafiohiippoaaAvO1
import Derived.ProofKit
namespace Go.Proofs.Ytmjafiohiippoaa.FnExactPushoutArrows
open Go.Av
def tab : List (Nat × Nat) := [(3, 45), (4, 46), (5, 56), (6, 62), (7, 67), (8, 76), (9, 94), (10, 96), (11, 84), (12, 86), (13, 85), (14, 3), (15, 109), (16, 5), (17, 16), (18, 110), (19, 8), (20, 7), (21, 9), (22, 10), (23, 111), (24, 112), (25, 113), (26, 138), (27, 139), (28, 11), (29, 155), (30, 156), (31, 20), (32, 21), (33, 150), (34, 165), (35, 166), (36, 186), (37, 187), (38, 226), (39, 227), (40, 140), (41, 230), (42, 231), (43, 142), (44, 232), (45, 233), (46, 144), (47, 234), (48, 202), (49, 203), (50, 206), (51, 207), (52, 204), (53, 205), (54, 12), (55, 13), (56, 245), (57, 246), (58, 247), (59, 249), (60, 17), (61, 18), (62, 248), (63, 250), (64, 22), (65, 251), (66, 24), (67, 252), (68, 277), (69, 293), (70, 294), (71, 32), (72, 26), (73, 295), (74, 34), (75, 287), (76, 309), (77, 253), (78, 310), (79, 311), (80, 284), (81, 329), (82, 306), (83, 330), (84, 289), (85, 331), (86, 332), (87, 27), (88, 303), (89, 366), (90, 367), (91, 368), (92, 369), (93, 282), (94, 371), (95, 372), (96, 317), (97, 318), (98, 319), (99, 320), (100, 170), (101, 304), (102, 323), (103, 174), (104, 288), (105, 237), (106, 15), (107, 239), (108, 290), (109, 238), (110, 19), (111, 240), (112, 37), (113, 262), (114, 376), (115, 25), (116, 375), (117, 28), (118, 29), (119, 259), (120, 30), (121, 31), (122, 261), (123, 353), (124, 377), (125, 389), (126, 390), (127, 403), (128, 407), (129, 244), (130, 33), (131, 413), (132, 278), (133, 279), (134, 283), (135, 422), (136, 322), (137, 38), (138, 321), (139, 308), (140, 400), (141, 324), (142, 266), (143, 236), (144, 35), (145, 36), (146, 373), (147, 374), (148, 280), (149, 281), (150, 405), (151, 402), (152, 406), (153, 381), (154, 391), (155, 426), (156, 427)]
theorem tabOk : ∀ f id, seatNum tab f = some id → seatFn tab id = f := seat_inv (by decide +kernel)
theorem h_laws_szCategory : Has Try.prog (seatFn tab) 3 2 V_laws_szCategory := has_of tabOk (hint := []) (fn := Try.f14) (by kernel_rfl) (show Try.prog.funcs[14]? = some Try.f14 from Try.func14) (by kernel_rfl)
theorem h_laws_toCategory : Has Try.prog (seatFn tab) 5 1 V_laws_toCategory := has_of tabOk (hint := [(9, 1), (13, 1), (17, 1), (21, 1)]) (fn := Try.f16) (by kernel_rfl) (show Try.prog.funcs[16]? = some Try.f16 from Try.func16) (by kernel_rfl)
theorem h_laws_eqInt64S : Has Try.prog (seatFn tab) 7 2 V_laws_eqInt64S := has_of tabOk (hint := []) (fn := Try.f20) (by kernel_rfl) (show Try.prog.funcs[20]? = some Try.f20 from Try.func20) (by kernel_rfl)
theorem h_laws_eqCategory : Has Try.prog (seatFn tab) 8 2 V_laws_eqCategory := has_of tabOk (hint := []) (fn := Try.f19) (by kernel_rfl) (show Try.prog.funcs[19]? = some Try.f19 from Try.func19) (by kernel_rfl)
theorem h_laws_szInt64S : Has Try.prog (seatFn tab) 12 2 V_laws_szInt64S := has_of tabOk (hint := []) (fn := Try.f54) (by kernel_rfl) (show Try.prog.funcs[54]? = some Try.f54 from Try.func54) (by kernel_rfl)
theorem h_laws_szInt64SS : Has Try.prog (seatFn tab) 13 2 V_laws_szInt64SS := has_of tabOk (hint := []) (fn := Try.f55) (by kernel_rfl) (show Try.prog.funcs[55]? = some Try.f55 from Try.func55) (by kernel_rfl)
theorem h_laws_toInt64S : Has Try.prog (seatFn tab) 16 1 V_laws_toInt64S := has_of tabOk (hint := []) (fn := Try.f17) (by kernel_rfl) (show Try.prog.funcs[17]? = some Try.f17 from Try.func17) (by kernel_rfl)
theorem h_laws_toInt64SS : Has Try.prog (seatFn tab) 17 1 V_laws_toInt64SS := has_of tabOk (hint := [(20, 1)]) (fn := Try.f60) (by kernel_rfl) (show Try.prog.funcs[60]? = some Try.f60 from Try.func60) (by kernel_rfl)
theorem h_arrowCode : Has Try.prog (seatFn tab) 18 2 V_arrowCode := has_of tabOk (hint := []) (fn := Try.f61) (by kernel_rfl) (show Try.prog.funcs[61]? = some Try.f61 from Try.func61) (by kernel_rfl)
theorem h_laws_eqInt64SS : Has Try.prog (seatFn tab) 20 2 V_laws_eqInt64SS := has_of tabOk (hint := []) (fn := Try.f31) (by kernel_rfl) (show Try.prog.funcs[31]? = some Try.f31 from Try.func31) (by kernel_rfl)
theorem h_spec_l02Is : Has Try.prog (seatFn tab) 22 1 V_spec_l02Is := has_of tabOk (hint := []) (fn := Try.f64) (by kernel_rfl) (show Try.prog.funcs[64]? = some Try.f64 from Try.func64) (by kernel_rfl)
theorem h_Category_isCategory : Has Try.prog (seatFn tab) 24 1 V_Category_isCategory := has_of tabOk (hint := []) (fn := Try.f66) (by kernel_rfl) (show Try.prog.funcs[66]? = some Try.f66 from Try.func66) (by kernel_rfl)
theorem h_within : Has Try.prog (seatFn tab) 25 2 V_within := has_of tabOk (hint := []) (fn := Try.f115) (by kernel_rfl) (show Try.prog.funcs[115]? = some Try.f115 from Try.func115) (by kernel_rfl)
theorem h_Category_arrows : Has Try.prog (seatFn tab) 26 1 V_Category_arrows := has_of tabOk (hint := []) (fn := Try.f72) (by kernel_rfl) (show Try.prog.funcs[72]? = some Try.f72 from Try.func72) (by kernel_rfl)
theorem h_spec_IsShape : Has Try.prog (seatFn tab) 28 1 V_spec_IsShape := has_of tabOk (hint := []) (fn := Try.f117) (by kernel_rfl) (show Try.prog.funcs[117]? = some Try.f117 from Try.func117) (by kernel_rfl)
theorem h_spec_l02Fault : Has Try.prog (seatFn tab) 29 1 V_spec_l02Fault := has_of tabOk (hint := []) (fn := Try.f118) (by kernel_rfl) (show Try.prog.funcs[118]? = some Try.f118 from Try.func118) (by kernel_rfl)
theorem h_Category_isShape : Has Try.prog (seatFn tab) 30 1 V_Category_isShape := has_of tabOk (hint := []) (fn := Try.f120) (by kernel_rfl) (show Try.prog.funcs[120]? = some Try.f120 from Try.func120) (by kernel_rfl)
theorem h_Category_fault : Has Try.prog (seatFn tab) 31 1 V_Category_fault := has_of tabOk (hint := []) (fn := Try.f121) (by kernel_rfl) (show Try.prog.funcs[121]? = some Try.f121 from Try.func121) (by kernel_rfl)
theorem h_inRange : Has Try.prog (seatFn tab) 32 3 V_inRange := has_of tabOk (hint := []) (fn := Try.f71) (by kernel_rfl) (show Try.prog.funcs[71]? = some Try.f71 from Try.func71) (by kernel_rfl)
theorem h_Category_hom : Has Try.prog (seatFn tab) 33 3 V_Category_hom := has_of tabOk (hint := []) (fn := Try.f130) (by kernel_rfl) (show Try.prog.funcs[130]? = some Try.f130 from Try.func130) (by kernel_rfl)
theorem h_Category_then : Has Try.prog (seatFn tab) 34 3 V_Category_then := has_of tabOk (hint := []) (fn := Try.f74) (by kernel_rfl) (show Try.prog.funcs[74]? = some Try.f74 from Try.func74) (by kernel_rfl)
theorem h_spec_l01In : Has Try.prog (seatFn tab) 35 3 V_spec_l01In := has_of tabOk (hint := []) (fn := Try.f144) (by kernel_rfl) (show Try.prog.funcs[144]? = some Try.f144 from Try.func144) (by kernel_rfl)
theorem h_spec_l02Ends : Has Try.prog (seatFn tab) 36 3 V_spec_l02Ends := has_of tabOk (hint := []) (fn := Try.f145) (by kernel_rfl) (show Try.prog.funcs[145]? = some Try.f145 from Try.func145) (by kernel_rfl)
theorem h_spec_l01Map : Has Try.prog (seatFn tab) 37 2 V_spec_l01Map := has_of tabOk (hint := []) (fn := Try.f112) (by kernel_rfl) (show Try.prog.funcs[112]? = some Try.f112 from Try.func112) (by kernel_rfl)
theorem h_Category_ends : Has Try.prog (seatFn tab) 38 2 V_Category_ends := has_of tabOk (hint := []) (fn := Try.f137) (by kernel_rfl) (show Try.prog.funcs[137]? = some Try.f137 from Try.func137) (by kernel_rfl)
theorem h_laws_FnExactPushoutArrows : Has Try.prog (seatFn tab) 86 3 V_laws_FnExactPushoutArrows := has_of tabOk (hint := []) (fn := Try.f12) (by kernel_rfl) (show Try.prog.funcs[12]? = some Try.f12 from Try.func12) (by kernel_rfl)
theorem h_PullbackArrows : Has Try.prog (seatFn tab) 174 3 V_PullbackArrows := has_of tabOk (hint := []) (fn := Try.f103) (by kernel_rfl) (show Try.prog.funcs[103]? = some Try.f103 from Try.func103) (by kernel_rfl)
theorem h_spec_PushoutArrows : Has Try.prog (seatFn tab) 206 3 V_spec_PushoutArrows := has_of tabOk (hint := []) (fn := Try.f50) (by kernel_rfl) (show Try.prog.funcs[50]? = some Try.f50 from Try.func50) (by kernel_rfl)
theorem h_PushoutArrows : Has Try.prog (seatFn tab) 207 3 V_PushoutArrows := has_of tabOk (hint := []) (fn := Try.f51) (by kernel_rfl) (show Try.prog.funcs[51]? = some Try.f51 from Try.func51) (by kernel_rfl)
theorem h_spec_l02Arrows : Has Try.prog (seatFn tab) 245 2 V_spec_l02Arrows := has_of tabOk (hint := []) (fn := Try.f56) (by kernel_rfl) (show Try.prog.funcs[56]? = some Try.f56 from Try.func56) (by kernel_rfl)
theorem h_spec_l03Op : Has Try.prog (seatFn tab) 251 1 V_spec_l03Op := has_of tabOk (hint := [(49, 3)]) (fn := Try.f65) (by kernel_rfl) (show Try.prog.funcs[65]? = some Try.f65 from Try.func65) (by kernel_rfl)
theorem h_opposite : Has Try.prog (seatFn tab) 252 1 V_opposite := has_of tabOk (hint := [(25, 1)]) (fn := Try.f67) (by kernel_rfl) (show Try.prog.funcs[67]? = some Try.f67 from Try.func67) (by kernel_rfl)
theorem h_spec_l02Then : Has Try.prog (seatFn tab) 253 3 V_spec_l02Then := has_of tabOk (hint := []) (fn := Try.f77) (by kernel_rfl) (show Try.prog.funcs[77]? = some Try.f77 from Try.func77) (by kernel_rfl)
theorem h_spec_l01Own : Has Try.prog (seatFn tab) 259 1 V_spec_l01Own := has_of tabOk (hint := []) (fn := Try.f119) (by kernel_rfl) (show Try.prog.funcs[119]? = some Try.f119 from Try.func119) (by kernel_rfl)
theorem h_clone : Has Try.prog (seatFn tab) 261 1 V_clone := has_of tabOk (hint := []) (fn := Try.f122) (by kernel_rfl) (show Try.prog.funcs[122]? = some Try.f122 from Try.func122) (by kernel_rfl)
theorem h_spec_l13Triple : Has Try.prog (seatFn tab) 304 1 V_spec_l13Triple := has_of tabOk (hint := []) (fn := Try.f101) (by kernel_rfl) (show Try.prog.funcs[101]? = some Try.f101 from Try.func101) (by kernel_rfl)
theorem h_spans_triple : Has Try.prog (seatFn tab) 308 1 V_spans_triple := has_of tabOk (hint := []) (fn := Try.f139) (by kernel_rfl) (show Try.prog.funcs[139]? = some Try.f139 from Try.func139) (by kernel_rfl)
theorem h_spec_l02Hom : Has Try.prog (seatFn tab) 309 3 V_spec_l02Hom := has_of tabOk (hint := []) (fn := Try.f76) (by kernel_rfl) (show Try.prog.funcs[76]? = some Try.f76 from Try.func76) (by kernel_rfl)
theorem h_spec_l13Code : Has Try.prog (seatFn tab) 317 5 V_spec_l13Code := has_of tabOk (hint := []) (fn := Try.f96) (by kernel_rfl) (show Try.prog.funcs[96]? = some Try.f96 from Try.func96) (by kernel_rfl)
theorem h_spec_l13First : Has Try.prog (seatFn tab) 319 2 V_spec_l13First := has_of tabOk (hint := []) (fn := Try.f98) (by kernel_rfl) (show Try.prog.funcs[98]? = some Try.f98 from Try.func98) (by kernel_rfl)
theorem h_spec_l13Maps : Has Try.prog (seatFn tab) 322 3 V_spec_l13Maps := has_of tabOk (hint := []) (fn := Try.f136) (by kernel_rfl) (show Try.prog.funcs[136]? = some Try.f136 from Try.func136) (by kernel_rfl)
theorem h_spec_l13Pullback : Has Try.prog (seatFn tab) 323 3 V_spec_l13Pullback := has_of tabOk (hint := []) (fn := Try.f102) (by kernel_rfl) (show Try.prog.funcs[102]? = some Try.f102 from Try.func102) (by kernel_rfl)
theorem h_Category_pullbacks : Has Try.prog (seatFn tab) 324 3 V_Category_pullbacks := has_of tabOk (hint := []) (fn := Try.f141) (by kernel_rfl) (show Try.prog.funcs[141]? = some Try.f141 from Try.func141) (by kernel_rfl)
theorem h_Category_table : Has Try.prog (seatFn tab) 353 2 V_Category_table := has_of tabOk (hint := []) (fn := Try.f123) (by kernel_rfl) (show Try.prog.funcs[123]? = some Try.f123 from Try.func123) (by kernel_rfl)
theorem h_opposite_1 : Has Try.prog (seatFn tab) 377 3 V_opposite_1 := has_of tabOk (hint := []) (fn := Try.f124) (by kernel_rfl) (show Try.prog.funcs[124]? = some Try.f124 from Try.func124) (by kernel_rfl)
theorem h_spec_l13Squares : Has Try.prog (seatFn tab) 400 5 V_spec_l13Squares := has_of tabOk (hint := []) (fn := Try.f140) (by kernel_rfl) (show Try.prog.funcs[140]? = some Try.f140 from Try.func140) (by kernel_rfl)
theorem h_spans_first : Has Try.prog (seatFn tab) 402 1 V_spans_first := has_of tabOk (hint := []) (fn := Try.f151) (by kernel_rfl) (show Try.prog.funcs[151]? = some Try.f151 from Try.func151) (by kernel_rfl)
theorem h_Category_pullbacks_1 : Has Try.prog (seatFn tab) 406 5 V_Category_pullbacks_1 := has_of tabOk (hint := []) (fn := Try.f152) (by kernel_rfl) (show Try.prog.funcs[152]? = some Try.f152 from Try.func152) (by kernel_rfl)
theorem h_spans_from : Has Try.prog (seatFn tab) 426 2 V_spans_from := has_of tabOk (hint := []) (fn := Try.f155) (by kernel_rfl) (show Try.prog.funcs[155]? = some Try.f155 from Try.func155) (by kernel_rfl)
theorem h_spans_isUniversal : Has Try.prog (seatFn tab) 427 3 V_spans_isUniversal := has_of tabOk (hint := []) (fn := Try.f156) (by kernel_rfl) (show Try.prog.funcs[156]? = some Try.f156 from Try.func156) (by kernel_rfl)
theorem r_HLaw : HLaw Try.prog (seatFn tab) := ⟨h_laws_szInt64S, h_laws_szInt64SS, h_laws_szCategory, h_laws_toInt64S, h_laws_toInt64SS, h_laws_toCategory, h_laws_eqInt64S, h_laws_eqInt64SS, h_laws_eqCategory⟩
theorem r_HCat : HCat Try.prog (seatFn tab) := ⟨h_Category_arrows, h_inRange, h_within, h_Category_ends, h_Category_then, h_Category_isShape, h_Category_fault, h_Category_isCategory⟩
theorem r_HArr : HArr Try.prog (seatFn tab) := ⟨h_Category_hom, h_arrowCode⟩
theorem r_HSpan : HSpan Try.prog (seatFn tab) := ⟨h_Category_hom, h_Category_then, h_spans_from, h_spans_isUniversal, h_spans_first, h_spans_triple⟩
theorem r_HOpp : HOpp Try.prog (seatFn tab) := ⟨h_Category_arrows, h_Category_then, h_clone, h_Category_table, h_opposite_1, h_opposite⟩
theorem r_HSpec : HSpec Try.prog (seatFn tab) := ⟨h_spec_l01In, h_spec_l01Map, h_spec_l02Ends, h_spec_IsShape, h_spec_l02Fault, h_spec_l02Is⟩
theorem r_HFirst : HFirst Try.prog (seatFn tab) := ⟨h_spec_l02Hom, h_spec_l02Then, h_spec_l13Maps, h_spec_l13First⟩
open Classical in
theorem law_args (avs : List AV) (h1 : avs.length = ([catTy, .int, .int] : List Ty).length) (h2 : ∀ i (h : i < avs.length) (h' : i < ([catTy, .int, .int] : List Ty).length), ShpV ([catTy, .int, .int] : List Ty)[i] avs[i]) : OkM Try.prog (seatFn tab) 86 avs hempty 0 (fun r _ _ => r = bool true) := by
  obtain ⟨a0, a1, a2, rfl⟩ := ListLen3 h1
  obtain ⟨c, rfl, rd_c, _⟩ := (h2 0 (by simp) (by simp)).cat
  obtain ⟨f, rfl, _⟩ := (h2 1 (by simp) (by simp)).int
  obtain ⟨g, rfl, _⟩ := (h2 2 (by simp) (by simp)).int
  exact law_PushoutArrows r_HLaw h_laws_FnExactPushoutArrows c rd_c f g (fun b => PushoutArrows_both r_HCat r_HArr r_HSpan r_HOpp h_Category_pullbacks h_Category_pullbacks_1 h_PullbackArrows h_PushoutArrows r_HSpec r_HFirst h_spec_l02Arrows h_spec_l13Code h_spec_l13Squares h_spec_l13Pullback h_spec_l13Triple h_spec_l01Own h_spec_l03Op h_spec_PushoutArrows c b.toSmall f g)
theorem own : ownKnob Try.prog.godebug = none := by kernel_rfl
theorem laidOut : laidOutB Try.prog = true := by kernel_rfl
set_option maxRecDepth 100000 in
theorem lifted (os : Os) (started : os.Started) (H : Type) (enc : TypeId × Value → H) :
    ReturnsInHanded {} Try.checked os 12 .any (Rows.fnExactPushoutArrowsSpec.pre6 enc Try.prog Try.f12 Rows.fnExactPushoutArrowsRow.domain false) (Rows.fnExactPushoutArrowsSpec.post enc Try.prog Try.f12 false true false false) := by
  refine returnsInHanded_of_change (C := Try.checked) own started (by kernel_rfl) Try.func12
    (ChangeSpec.witness6 (enc := enc) (C := Try.checked) false ⟨#[], #[.agg #[.int .i64 0, .slice none 0 0, .slice none 0 0, .slice none 0 0, .slice none 0 0], .int .i64 0, .int .i64 0], []⟩ 8 (by kernel_rfl) (by kernel_rfl) (by kernel_rfl) (by kernel_rfl)) ?_
  intro W base args ds gs before hval hW _ _
  exact row_calls (P := Try.prog) (ν := seatFn tab) (fn := Try.f12) (s := Rows.fnExactPushoutArrowsSpec) (id := 86) (tb := Try.f12.resultTypes.getD 0 0) (m := 8) (tys := [catTy, .int, .int]) laidOut (by kernel_rfl) (by kernel_rfl) (by kernel_rfl) rfl (fun ds hd => by obtain ⟨_, _, _, rfl⟩ := (ListLen3 hd); rfl) (by kernel_rfl) rfl law_args W base args ds gs before hval hW
/-- For every input: the statement's function returns true. -/
theorem holds : Rows.FnExactPushoutArrowsSaid :=
  OpenClaim.holds_of_wide 12 Try.f12 rfl rfl rfl rfl rfl rfl rfl ⟨rfl, rfl, rfl, rfl, rfl⟩ rfl rfl rfl rfl rfl (by kernel_rfl) Try.func12 (by kernel_rfl)
    (of_decide_eq_true (by kernel_rfl)) (by unfold Func.isWrapper; first | (rw [if_pos (by decide +kernel)]; kernel_rfl) | (rw [if_neg (by decide +kernel)]; exact ⟨rfl, rfl⟩))
    (fun os started H enc _ => lifted os started H enc)
end Go.Proofs.Ytmjafiohiippoaa.FnExactPushoutArrows
