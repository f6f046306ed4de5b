/-
  For every input the statement on IsSetFunctor answers true: the seat's functions in the layer's second form, each checked by the kernel against the translation, then the row. No condition.
-/
import Derived.Test.YtgoojhaekppmcaaRows
import Derived.Test.YtgoojhaekppmcaaAvLIsSetFunctor
import Derived.Test.YtgoojhaekppmcaaAvC3
import Derived.Test.YtgoojhaekppmcaaAvO1
import Derived.ProofKit
namespace Go.Proofs.Ytgoojhaekppmcaa.FnExactIsSetFunctor
open Go.Av
def tab : List (Nat × Nat) := [(3, 45), (4, 46), (5, 56), (6, 57), (7, 58), (8, 60), (9, 62), (10, 65), (11, 67), (12, 76), (13, 94), (14, 96), (15, 3), (16, 109), (17, 5), (18, 16), (19, 110), (20, 8), (21, 7), (22, 9), (23, 10), (24, 111), (25, 112), (26, 113), (27, 138), (28, 139), (29, 11), (30, 140), (31, 141), (32, 142), (33, 143), (34, 144), (35, 145), (36, 146), (37, 151), (38, 152), (39, 155), (40, 156), (41, 20), (42, 21), (43, 150), (44, 161), (45, 162), (46, 165), (47, 166), (48, 186), (49, 187), (50, 226), (51, 227), (52, 230), (53, 231), (54, 232), (55, 233), (56, 234), (57, 12), (58, 13), (59, 245), (60, 246), (61, 247), (62, 249), (63, 17), (64, 18), (65, 248), (66, 250), (67, 22), (68, 251), (69, 24), (70, 252), (71, 277), (72, 278), (73, 279), (74, 280), (75, 281), (76, 282), (77, 283), (78, 287), (79, 288), (80, 239), (81, 26), (82, 289), (83, 290), (84, 240), (85, 293), (86, 294), (87, 32), (88, 295), (89, 34), (90, 301), (91, 302), (92, 309), (93, 253), (94, 310), (95, 311), (96, 284), (97, 329), (98, 306), (99, 330), (100, 331), (101, 332), (102, 27), (103, 303), (104, 366), (105, 367), (106, 368), (107, 369), (108, 371), (109, 372), (110, 37), (111, 262), (112, 376), (113, 25), (114, 375), (115, 28), (116, 29), (117, 259), (118, 30), (119, 31), (120, 261), (121, 353), (122, 377), (123, 389), (124, 390), (125, 35), (126, 391), (127, 237), (128, 15), (129, 244), (130, 266), (131, 33), (132, 403), (133, 407), (134, 413), (135, 422), (136, 36), (137, 38), (138, 373), (139, 374), (140, 381)]
theorem tabOk : ∀ f id, seatNum tab f = some id → seatFn tab id = f := seat_inv (by decide +kernel)
theorem h_laws_szCategory : Has Try.prog (seatFn tab) 3 2 V_laws_szCategory := has_of tabOk (hint := []) (fn := Try.f15) (by kernel_rfl) (show Try.prog.funcs[15]? = some Try.f15 from Try.func15) (by kernel_rfl)
theorem h_laws_toCategory : Has Try.prog (seatFn tab) 5 1 V_laws_toCategory := has_of tabOk (hint := [(9, 1), (13, 1), (17, 1), (21, 1)]) (fn := Try.f17) (by kernel_rfl) (show Try.prog.funcs[17]? = some Try.f17 from Try.func17) (by kernel_rfl)
theorem h_laws_eqInt64S : Has Try.prog (seatFn tab) 7 2 V_laws_eqInt64S := has_of tabOk (hint := []) (fn := Try.f21) (by kernel_rfl) (show Try.prog.funcs[21]? = some Try.f21 from Try.func21) (by kernel_rfl)
theorem h_laws_eqCategory : Has Try.prog (seatFn tab) 8 2 V_laws_eqCategory := has_of tabOk (hint := []) (fn := Try.f20) (by kernel_rfl) (show Try.prog.funcs[20]? = some Try.f20 from Try.func20) (by kernel_rfl)
theorem h_laws_szInt64S : Has Try.prog (seatFn tab) 12 2 V_laws_szInt64S := has_of tabOk (hint := []) (fn := Try.f57) (by kernel_rfl) (show Try.prog.funcs[57]? = some Try.f57 from Try.func57) (by kernel_rfl)
theorem h_laws_szInt64SS : Has Try.prog (seatFn tab) 13 2 V_laws_szInt64SS := has_of tabOk (hint := []) (fn := Try.f58) (by kernel_rfl) (show Try.prog.funcs[58]? = some Try.f58 from Try.func58) (by kernel_rfl)
theorem h_laws_toInt64S : Has Try.prog (seatFn tab) 16 1 V_laws_toInt64S := has_of tabOk (hint := []) (fn := Try.f18) (by kernel_rfl) (show Try.prog.funcs[18]? = some Try.f18 from Try.func18) (by kernel_rfl)
theorem h_laws_toInt64SS : Has Try.prog (seatFn tab) 17 1 V_laws_toInt64SS := has_of tabOk (hint := [(20, 1)]) (fn := Try.f63) (by kernel_rfl) (show Try.prog.funcs[63]? = some Try.f63 from Try.func63) (by kernel_rfl)
theorem h_laws_eqInt64SS : Has Try.prog (seatFn tab) 20 2 V_laws_eqInt64SS := has_of tabOk (hint := []) (fn := Try.f41) (by kernel_rfl) (show Try.prog.funcs[41]? = some Try.f41 from Try.func41) (by kernel_rfl)
theorem h_spec_l02Is : Has Try.prog (seatFn tab) 22 1 V_spec_l02Is := has_of tabOk (hint := []) (fn := Try.f67) (by kernel_rfl) (show Try.prog.funcs[67]? = some Try.f67 from Try.func67) (by kernel_rfl)
theorem h_Category_isCategory : Has Try.prog (seatFn tab) 24 1 V_Category_isCategory := has_of tabOk (hint := []) (fn := Try.f69) (by kernel_rfl) (show Try.prog.funcs[69]? = some Try.f69 from Try.func69) (by kernel_rfl)
theorem h_within : Has Try.prog (seatFn tab) 25 2 V_within := has_of tabOk (hint := []) (fn := Try.f113) (by kernel_rfl) (show Try.prog.funcs[113]? = some Try.f113 from Try.func113) (by kernel_rfl)
theorem h_Category_arrows : Has Try.prog (seatFn tab) 26 1 V_Category_arrows := has_of tabOk (hint := []) (fn := Try.f81) (by kernel_rfl) (show Try.prog.funcs[81]? = some Try.f81 from Try.func81) (by kernel_rfl)
theorem h_spec_IsShape : Has Try.prog (seatFn tab) 28 1 V_spec_IsShape := has_of tabOk (hint := []) (fn := Try.f115) (by kernel_rfl) (show Try.prog.funcs[115]? = some Try.f115 from Try.func115) (by kernel_rfl)
theorem h_spec_l02Fault : Has Try.prog (seatFn tab) 29 1 V_spec_l02Fault := has_of tabOk (hint := []) (fn := Try.f116) (by kernel_rfl) (show Try.prog.funcs[116]? = some Try.f116 from Try.func116) (by kernel_rfl)
theorem h_Category_isShape : Has Try.prog (seatFn tab) 30 1 V_Category_isShape := has_of tabOk (hint := []) (fn := Try.f118) (by kernel_rfl) (show Try.prog.funcs[118]? = some Try.f118 from Try.func118) (by kernel_rfl)
theorem h_Category_fault : Has Try.prog (seatFn tab) 31 1 V_Category_fault := has_of tabOk (hint := []) (fn := Try.f119) (by kernel_rfl) (show Try.prog.funcs[119]? = some Try.f119 from Try.func119) (by kernel_rfl)
theorem h_inRange : Has Try.prog (seatFn tab) 32 3 V_inRange := has_of tabOk (hint := []) (fn := Try.f87) (by kernel_rfl) (show Try.prog.funcs[87]? = some Try.f87 from Try.func87) (by kernel_rfl)
theorem h_Category_then : Has Try.prog (seatFn tab) 34 3 V_Category_then := has_of tabOk (hint := []) (fn := Try.f89) (by kernel_rfl) (show Try.prog.funcs[89]? = some Try.f89 from Try.func89) (by kernel_rfl)
theorem h_spec_l01In : Has Try.prog (seatFn tab) 35 3 V_spec_l01In := has_of tabOk (hint := []) (fn := Try.f125) (by kernel_rfl) (show Try.prog.funcs[125]? = some Try.f125 from Try.func125) (by kernel_rfl)
theorem h_spec_l02Ends : Has Try.prog (seatFn tab) 36 3 V_spec_l02Ends := has_of tabOk (hint := []) (fn := Try.f136) (by kernel_rfl) (show Try.prog.funcs[136]? = some Try.f136 from Try.func136) (by kernel_rfl)
theorem h_spec_l01Map : Has Try.prog (seatFn tab) 37 2 V_spec_l01Map := has_of tabOk (hint := []) (fn := Try.f110) (by kernel_rfl) (show Try.prog.funcs[110]? = some Try.f110 from Try.func110) (by kernel_rfl)
theorem h_Category_ends : Has Try.prog (seatFn tab) 38 2 V_Category_ends := has_of tabOk (hint := []) (fn := Try.f137) (by kernel_rfl) (show Try.prog.funcs[137]? = some Try.f137 from Try.func137) (by kernel_rfl)
theorem h_laws_FnExactIsSetFunctor : Has Try.prog (seatFn tab) 58 1 V_laws_FnExactIsSetFunctor := has_of tabOk (hint := []) (fn := Try.f7) (by kernel_rfl) (show Try.prog.funcs[7]? = some Try.f7 from Try.func7) (by kernel_rfl)
theorem h_laws_szSetFunctor : Has Try.prog (seatFn tab) 140 2 V_laws_szSetFunctor := has_of tabOk (hint := []) (fn := Try.f30) (by kernel_rfl) (show Try.prog.funcs[30]? = some Try.f30 from Try.func30) (by kernel_rfl)
theorem h_laws_toSetFunctor : Has Try.prog (seatFn tab) 142 1 V_laws_toSetFunctor := has_of tabOk (hint := [(6, 1), (10, 1), (14, 1)]) (fn := Try.f32) (by kernel_rfl) (show Try.prog.funcs[32]? = some Try.f32 from Try.func32) (by kernel_rfl)
theorem h_laws_eqSetFunctor : Has Try.prog (seatFn tab) 144 2 V_laws_eqSetFunctor := has_of tabOk (hint := []) (fn := Try.f34) (by kernel_rfl) (show Try.prog.funcs[34]? = some Try.f34 from Try.func34) (by kernel_rfl)
theorem h_spec_IsSetFunctor : Has Try.prog (seatFn tab) 145 1 V_spec_IsSetFunctor := has_of tabOk (hint := []) (fn := Try.f35) (by kernel_rfl) (show Try.prog.funcs[35]? = some Try.f35 from Try.func35) (by kernel_rfl)
theorem h_IsSetFunctor : Has Try.prog (seatFn tab) 146 1 V_IsSetFunctor := has_of tabOk (hint := []) (fn := Try.f36) (by kernel_rfl) (show Try.prog.funcs[36]? = some Try.f36 from Try.func36) (by kernel_rfl)
theorem h_spec_l19Shape : Has Try.prog (seatFn tab) 278 1 V_spec_l19Shape := has_of tabOk (hint := []) (fn := Try.f72) (by kernel_rfl) (show Try.prog.funcs[72]? = some Try.f72 from Try.func72) (by kernel_rfl)
theorem h_spec_l19Fault : Has Try.prog (seatFn tab) 279 1 V_spec_l19Fault := has_of tabOk (hint := []) (fn := Try.f73) (by kernel_rfl) (show Try.prog.funcs[73]? = some Try.f73 from Try.func73) (by kernel_rfl)
theorem h_SetFunctor_isShape : Has Try.prog (seatFn tab) 280 1 V_SetFunctor_isShape := has_of tabOk (hint := []) (fn := Try.f74) (by kernel_rfl) (show Try.prog.funcs[74]? = some Try.f74 from Try.func74) (by kernel_rfl)
theorem h_SetFunctor_fault : Has Try.prog (seatFn tab) 281 1 V_SetFunctor_fault := has_of tabOk (hint := []) (fn := Try.f75) (by kernel_rfl) (show Try.prog.funcs[75]? = some Try.f75 from Try.func75) (by kernel_rfl)
theorem h_spec_l19Is : Has Try.prog (seatFn tab) 282 1 V_spec_l19Is := has_of tabOk (hint := []) (fn := Try.f76) (by kernel_rfl) (show Try.prog.funcs[76]? = some Try.f76 from Try.func76) (by kernel_rfl)
theorem h_SetFunctor_isSetFunctor : Has Try.prog (seatFn tab) 283 1 V_SetFunctor_isSetFunctor := has_of tabOk (hint := []) (fn := Try.f77) (by kernel_rfl) (show Try.prog.funcs[77]? = some Try.f77 from Try.func77) (by kernel_rfl)
theorem h_isMapOf : Has Try.prog (seatFn tab) 391 3 V_isMapOf := has_of tabOk (hint := []) (fn := Try.f126) (by kernel_rfl) (show Try.prog.funcs[126]? = some Try.f126 from Try.func126) (by kernel_rfl)
theorem r_HLaw : HLaw Try.prog (seatFn tab) := ⟨h_laws_szInt64S, h_laws_szInt64SS, h_laws_szCategory, h_laws_toInt64S, h_laws_toInt64SS, h_laws_toCategory, h_laws_eqInt64S, h_laws_eqInt64SS, h_laws_eqCategory⟩
theorem r_HLawF : HLawF Try.prog (seatFn tab) := ⟨h_laws_szSetFunctor, h_laws_toSetFunctor, h_laws_eqSetFunctor⟩
theorem r_HCat : HCat Try.prog (seatFn tab) := ⟨h_Category_arrows, h_inRange, h_within, h_Category_ends, h_Category_then, h_Category_isShape, h_Category_fault, h_Category_isCategory⟩
theorem r_HSF : HSF Try.prog (seatFn tab) := ⟨h_isMapOf, h_SetFunctor_isShape, h_SetFunctor_fault, h_SetFunctor_isSetFunctor⟩
theorem r_HSpec : HSpec Try.prog (seatFn tab) := ⟨h_spec_l01In, h_spec_l01Map, h_spec_l02Ends, h_spec_IsShape, h_spec_l02Fault, h_spec_l02Is⟩
theorem r_HSFS : HSFS Try.prog (seatFn tab) := ⟨h_spec_l19Shape, h_spec_l19Fault, h_spec_l19Is⟩
open Classical in
theorem law_args (avs : List AV) (h1 : avs.length = ([sfTy] : List Ty).length) (h2 : ∀ i (h : i < avs.length) (h' : i < ([sfTy] : List Ty).length), ShpV ([sfTy] : List Ty)[i] avs[i]) : OkM Try.prog (seatFn tab) 58 avs hempty 0 (fun r _ _ => r = bool true) := by
  obtain ⟨a0, rfl⟩ := ListLen1 h1
  obtain ⟨f, rfl, rd_f⟩ := (h2 0 (by simp) (by simp)).sf
  exact law_IsSetFunctor r_HLaw r_HLawF h_laws_FnExactIsSetFunctor f rd_f  (fun b => IsSetFunctor_both r_HCat r_HSF h_IsSetFunctor r_HSpec r_HSFS h_spec_IsSetFunctor f b )
theorem own : ownKnob Try.prog.godebug = none := by kernel_rfl
theorem laidOut : laidOutB Try.prog = true := by kernel_rfl
set_option maxRecDepth 100000 in
theorem lifted (os : Os) (started : os.Started) (H : Type) (enc : TypeId × Value → H) :
    ReturnsInHanded {} Try.checked os 7 .any (Rows.fnExactIsSetFunctorSpec.pre6 enc Try.prog Try.f7 Rows.fnExactIsSetFunctorRow.domain false) (Rows.fnExactIsSetFunctorSpec.post enc Try.prog Try.f7 false true false false) := by
  refine returnsInHanded_of_change (C := Try.checked) own started (by kernel_rfl) Try.func7
    (ChangeSpec.witness6 (enc := enc) (C := Try.checked) false ⟨#[], #[.agg #[.int .i64 0, .slice none 0 0, .slice none 0 0, .slice none 0 0, .slice none 0 0, .slice none 0 0, .slice none 0 0]], []⟩ 8 (by kernel_rfl) (by kernel_rfl) (by kernel_rfl) (by kernel_rfl)) ?_
  intro W base args ds gs before hval hW _ _
  exact row_calls (P := Try.prog) (ν := seatFn tab) (fn := Try.f7) (s := Rows.fnExactIsSetFunctorSpec) (id := 58) (tb := Try.f7.resultTypes.getD 0 0) (m := 8) (tys := [sfTy]) laidOut (by kernel_rfl) (by kernel_rfl) (by kernel_rfl) rfl (fun ds hd => by obtain ⟨_, rfl⟩ := (ListLen1 hd); rfl) (by kernel_rfl) rfl law_args W base args ds gs before hval hW
/-- For every input: the statement's function returns true. -/
theorem holds : Rows.FnExactIsSetFunctorSaid :=
  OpenClaim.holds_of_wide 7 Try.f7 rfl rfl rfl rfl rfl rfl rfl ⟨rfl, rfl, rfl, rfl, rfl⟩ rfl rfl rfl rfl rfl (by kernel_rfl) Try.func7 (by kernel_rfl)
    (of_decide_eq_true (by kernel_rfl)) (by unfold Func.isWrapper; first | (rw [if_pos (by decide +kernel)]; kernel_rfl) | (rw [if_neg (by decide +kernel)]; exact ⟨rfl, rfl⟩))
    (fun os started H enc _ => lifted os started H enc)
end Go.Proofs.Ytgoojhaekppmcaa.FnExactIsSetFunctor
