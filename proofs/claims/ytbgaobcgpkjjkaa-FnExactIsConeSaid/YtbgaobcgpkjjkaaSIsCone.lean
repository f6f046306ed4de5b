/-
  For every input the statement on IsCone answers true: the seat's functions in the layer's second form, each checked by the kernel against the translation, then the row. No condition.
-/
import Derived.Test.YtbgaobcgpkjjkaaRows
import Derived.Test.YtbgaobcgpkjjkaaAvLIsCone
import Derived.Test.YtbgaobcgpkjjkaaAvE1
import Derived.Test.YtbgaobcgpkjjkaaAvO1
import Derived.ProofKit
namespace Go.Proofs.Ytbgaobcgpkjjkaa.FnExactIsCone
open Go.Av
def tab : List (Nat × Nat) := [(3, 48), (4, 63), (5, 73), (6, 74), (7, 75), (8, 77), (9, 81), (10, 83), (11, 88), (12, 89), (13, 92), (14, 93), (15, 116), (16, 117), (17, 118), (18, 119), (19, 120), (20, 157), (21, 158), (22, 177), (23, 178), (24, 179), (25, 180), (26, 181), (27, 182), (28, 183), (29, 184), (30, 185), (31, 188), (32, 189), (33, 196), (34, 197), (35, 200), (36, 201), (37, 210), (38, 211), (39, 20), (40, 212), (41, 21), (42, 150), (43, 213), (44, 214), (45, 222), (46, 223), (47, 7), (48, 10), (49, 11), (50, 224), (51, 225), (52, 3), (53, 12), (54, 256), (55, 5), (56, 16), (57, 257), (58, 8), (59, 296), (60, 297), (61, 298), (62, 288), (63, 325), (64, 290), (65, 287), (66, 326), (67, 289), (68, 327), (69, 328), (70, 239), (71, 333), (72, 240), (73, 338), (74, 339), (75, 343), (76, 344), (77, 284), (78, 347), (79, 32), (80, 348), (81, 9), (82, 349), (83, 350), (84, 247), (85, 277), (86, 340), (87, 291), (88, 365), (89, 13), (90, 22), (91, 37), (92, 17), (93, 315), (94, 378), (95, 38), (96, 266), (97, 244), (98, 253), (99, 25), (100, 26), (101, 34), (102, 237), (103, 15), (104, 262), (105, 33), (106, 411), (107, 309), (108, 412), (109, 413), (110, 408), (111, 383), (112, 415), (113, 416), (114, 389), (115, 390), (116, 393), (117, 28), (118, 29), (119, 24), (120, 373), (121, 381), (122, 374), (123, 423), (124, 429), (125, 376), (126, 35), (127, 36), (128, 30), (129, 31), (130, 380)]
theorem tabOk : ∀ f id, seatNum tab f = some id → seatFn tab id = f := seat_inv (by decide +kernel)
theorem h_laws_szCategory : Has Try.prog (seatFn tab) 3 2 V_laws_szCategory := has_of tabOk (hint := []) (fn := Try.f52) (by kernel_rfl) (show Try.prog.funcs[52]? = some Try.f52 from Try.func52) (by kernel_rfl)
theorem h_laws_toCategory : Has Try.prog (seatFn tab) 5 1 V_laws_toCategory := has_of tabOk (hint := [(9, 1), (13, 1), (17, 1), (21, 1)]) (fn := Try.f55) (by kernel_rfl) (show Try.prog.funcs[55]? = some Try.f55 from Try.func55) (by kernel_rfl)
theorem h_laws_eqInt64S : Has Try.prog (seatFn tab) 7 2 V_laws_eqInt64S := has_of tabOk (hint := []) (fn := Try.f47) (by kernel_rfl) (show Try.prog.funcs[47]? = some Try.f47 from Try.func47) (by kernel_rfl)
theorem h_laws_eqCategory : Has Try.prog (seatFn tab) 8 2 V_laws_eqCategory := has_of tabOk (hint := []) (fn := Try.f58) (by kernel_rfl) (show Try.prog.funcs[58]? = some Try.f58 from Try.func58) (by kernel_rfl)
theorem h_laws_szInt64S : Has Try.prog (seatFn tab) 12 2 V_laws_szInt64S := has_of tabOk (hint := []) (fn := Try.f53) (by kernel_rfl) (show Try.prog.funcs[53]? = some Try.f53 from Try.func53) (by kernel_rfl)
theorem h_laws_szInt64SS : Has Try.prog (seatFn tab) 13 2 V_laws_szInt64SS := has_of tabOk (hint := []) (fn := Try.f89) (by kernel_rfl) (show Try.prog.funcs[89]? = some Try.f89 from Try.func89) (by kernel_rfl)
theorem h_laws_toInt64S : Has Try.prog (seatFn tab) 16 1 V_laws_toInt64S := has_of tabOk (hint := []) (fn := Try.f56) (by kernel_rfl) (show Try.prog.funcs[56]? = some Try.f56 from Try.func56) (by kernel_rfl)
theorem h_laws_toInt64SS : Has Try.prog (seatFn tab) 17 1 V_laws_toInt64SS := has_of tabOk (hint := [(20, 1)]) (fn := Try.f92) (by kernel_rfl) (show Try.prog.funcs[92]? = some Try.f92 from Try.func92) (by kernel_rfl)
theorem h_laws_eqInt64SS : Has Try.prog (seatFn tab) 20 2 V_laws_eqInt64SS := has_of tabOk (hint := []) (fn := Try.f39) (by kernel_rfl) (show Try.prog.funcs[39]? = some Try.f39 from Try.func39) (by kernel_rfl)
theorem h_spec_l02Is : Has Try.prog (seatFn tab) 22 1 V_spec_l02Is := has_of tabOk (hint := []) (fn := Try.f90) (by kernel_rfl) (show Try.prog.funcs[90]? = some Try.f90 from Try.func90) (by kernel_rfl)
theorem h_Category_isCategory : Has Try.prog (seatFn tab) 24 1 V_Category_isCategory := has_of tabOk (hint := []) (fn := Try.f119) (by kernel_rfl) (show Try.prog.funcs[119]? = some Try.f119 from Try.func119) (by kernel_rfl)
theorem h_within : Has Try.prog (seatFn tab) 25 2 V_within := has_of tabOk (hint := []) (fn := Try.f99) (by kernel_rfl) (show Try.prog.funcs[99]? = some Try.f99 from Try.func99) (by kernel_rfl)
theorem h_Category_arrows : Has Try.prog (seatFn tab) 26 1 V_Category_arrows := has_of tabOk (hint := []) (fn := Try.f100) (by kernel_rfl) (show Try.prog.funcs[100]? = some Try.f100 from Try.func100) (by kernel_rfl)
theorem h_spec_IsShape : Has Try.prog (seatFn tab) 28 1 V_spec_IsShape := has_of tabOk (hint := []) (fn := Try.f117) (by kernel_rfl) (show Try.prog.funcs[117]? = some Try.f117 from Try.func117) (by kernel_rfl)
theorem h_spec_l02Fault : Has Try.prog (seatFn tab) 29 1 V_spec_l02Fault := has_of tabOk (hint := []) (fn := Try.f118) (by kernel_rfl) (show Try.prog.funcs[118]? = some Try.f118 from Try.func118) (by kernel_rfl)
theorem h_Category_isShape : Has Try.prog (seatFn tab) 30 1 V_Category_isShape := has_of tabOk (hint := []) (fn := Try.f128) (by kernel_rfl) (show Try.prog.funcs[128]? = some Try.f128 from Try.func128) (by kernel_rfl)
theorem h_Category_fault : Has Try.prog (seatFn tab) 31 1 V_Category_fault := has_of tabOk (hint := []) (fn := Try.f129) (by kernel_rfl) (show Try.prog.funcs[129]? = some Try.f129 from Try.func129) (by kernel_rfl)
theorem h_inRange : Has Try.prog (seatFn tab) 32 3 V_inRange := has_of tabOk (hint := []) (fn := Try.f79) (by kernel_rfl) (show Try.prog.funcs[79]? = some Try.f79 from Try.func79) (by kernel_rfl)
theorem h_Category_then : Has Try.prog (seatFn tab) 34 3 V_Category_then := has_of tabOk (hint := []) (fn := Try.f101) (by kernel_rfl) (show Try.prog.funcs[101]? = some Try.f101 from Try.func101) (by kernel_rfl)
theorem h_spec_l01In : Has Try.prog (seatFn tab) 35 3 V_spec_l01In := has_of tabOk (hint := []) (fn := Try.f126) (by kernel_rfl) (show Try.prog.funcs[126]? = some Try.f126 from Try.func126) (by kernel_rfl)
theorem h_spec_l02Ends : Has Try.prog (seatFn tab) 36 3 V_spec_l02Ends := has_of tabOk (hint := []) (fn := Try.f127) (by kernel_rfl) (show Try.prog.funcs[127]? = some Try.f127 from Try.func127) (by kernel_rfl)
theorem h_spec_l01Map : Has Try.prog (seatFn tab) 37 2 V_spec_l01Map := has_of tabOk (hint := []) (fn := Try.f91) (by kernel_rfl) (show Try.prog.funcs[91]? = some Try.f91 from Try.func91) (by kernel_rfl)
theorem h_Category_ends : Has Try.prog (seatFn tab) 38 2 V_Category_ends := has_of tabOk (hint := []) (fn := Try.f95) (by kernel_rfl) (show Try.prog.funcs[95]? = some Try.f95 from Try.func95) (by kernel_rfl)
theorem h_laws_FnExactIsCone : Has Try.prog (seatFn tab) 75 2 V_laws_FnExactIsCone := has_of tabOk (hint := []) (fn := Try.f7) (by kernel_rfl) (show Try.prog.funcs[7]? = some Try.f7 from Try.func7) (by kernel_rfl)
theorem h_laws_szFunctor : Has Try.prog (seatFn tab) 116 2 V_laws_szFunctor := has_of tabOk (hint := []) (fn := Try.f15) (by kernel_rfl) (show Try.prog.funcs[15]? = some Try.f15 from Try.func15) (by kernel_rfl)
theorem h_laws_toFunctor : Has Try.prog (seatFn tab) 118 1 V_laws_toFunctor := has_of tabOk (hint := [(6, 1), (10, 1), (14, 1), (18, 1)]) (fn := Try.f17) (by kernel_rfl) (show Try.prog.funcs[17]? = some Try.f17 from Try.func17) (by kernel_rfl)
theorem h_laws_eqFunctor : Has Try.prog (seatFn tab) 120 2 V_laws_eqFunctor := has_of tabOk (hint := []) (fn := Try.f19) (by kernel_rfl) (show Try.prog.funcs[19]? = some Try.f19 from Try.func19) (by kernel_rfl)
theorem h_laws_szCone : Has Try.prog (seatFn tab) 181 2 V_laws_szCone := has_of tabOk (hint := []) (fn := Try.f26) (by kernel_rfl) (show Try.prog.funcs[26]? = some Try.f26 from Try.func26) (by kernel_rfl)
theorem h_spec_IsCone : Has Try.prog (seatFn tab) 182 2 V_spec_IsCone := has_of tabOk (hint := []) (fn := Try.f27) (by kernel_rfl) (show Try.prog.funcs[27]? = some Try.f27 from Try.func27) (by kernel_rfl)
theorem h_laws_toCone : Has Try.prog (seatFn tab) 183 1 V_laws_toCone := has_of tabOk (hint := [(9, 1)]) (fn := Try.f28) (by kernel_rfl) (show Try.prog.funcs[28]? = some Try.f28 from Try.func28) (by kernel_rfl)
theorem h_IsCone : Has Try.prog (seatFn tab) 184 2 V_IsCone := has_of tabOk (hint := []) (fn := Try.f29) (by kernel_rfl) (show Try.prog.funcs[29]? = some Try.f29 from Try.func29) (by kernel_rfl)
theorem h_laws_eqCone : Has Try.prog (seatFn tab) 185 2 V_laws_eqCone := has_of tabOk (hint := []) (fn := Try.f30) (by kernel_rfl) (show Try.prog.funcs[30]? = some Try.f30 from Try.func30) (by kernel_rfl)
theorem h_spec_l02Then : Has Try.prog (seatFn tab) 253 3 V_spec_l02Then := has_of tabOk (hint := []) (fn := Try.f98) (by kernel_rfl) (show Try.prog.funcs[98]? = some Try.f98 from Try.func98) (by kernel_rfl)
theorem h_spec_l06Is : Has Try.prog (seatFn tab) 256 1 V_spec_l06Is := has_of tabOk (hint := []) (fn := Try.f54) (by kernel_rfl) (show Try.prog.funcs[54]? = some Try.f54 from Try.func54) (by kernel_rfl)
theorem h_Functor_isFunctor : Has Try.prog (seatFn tab) 257 1 V_Functor_isFunctor := has_of tabOk (hint := []) (fn := Try.f57) (by kernel_rfl) (show Try.prog.funcs[57]? = some Try.f57 from Try.func57) (by kernel_rfl)
theorem h_spec_l02Object : Has Try.prog (seatFn tab) 284 2 V_spec_l02Object := has_of tabOk (hint := []) (fn := Try.f77) (by kernel_rfl) (show Try.prog.funcs[77]? = some Try.f77 from Try.func77) (by kernel_rfl)
theorem h_areCategories : Has Try.prog (seatFn tab) 315 1 V_areCategories := has_of tabOk (hint := []) (fn := Try.f93) (by kernel_rfl) (show Try.prog.funcs[93]? = some Try.f93 from Try.func93) (by kernel_rfl)
theorem h_spec_l12Cone : Has Try.prog (seatFn tab) 327 2 V_spec_l12Cone := has_of tabOk (hint := []) (fn := Try.f68) (by kernel_rfl) (show Try.prog.funcs[68]? = some Try.f68 from Try.func68) (by kernel_rfl)
theorem h_isCone : Has Try.prog (seatFn tab) 328 2 V_isCone := has_of tabOk (hint := []) (fn := Try.f69) (by kernel_rfl) (show Try.prog.funcs[69]? = some Try.f69 from Try.func69) (by kernel_rfl)
theorem h_Functor_fits : Has Try.prog (seatFn tab) 378 1 V_Functor_fits := has_of tabOk (hint := []) (fn := Try.f94) (by kernel_rfl) (show Try.prog.funcs[94]? = some Try.f94 from Try.func94) (by kernel_rfl)
theorem r_HLaw : HLaw Try.prog (seatFn tab) := ⟨h_laws_szInt64S, h_laws_szInt64SS, h_laws_szCategory, h_laws_toInt64S, h_laws_toInt64SS, h_laws_toCategory, h_laws_eqInt64S, h_laws_eqInt64SS, h_laws_eqCategory⟩
theorem r_HLawU : HLawU Try.prog (seatFn tab) := ⟨h_laws_szFunctor, h_laws_toFunctor, h_laws_eqFunctor⟩
theorem r_HLawCo : HLawCo Try.prog (seatFn tab) := ⟨h_laws_szCone, h_laws_toCone, h_laws_eqCone⟩
theorem r_HCat : HCat Try.prog (seatFn tab) := ⟨h_Category_arrows, h_inRange, h_within, h_Category_ends, h_Category_then, h_Category_isShape, h_Category_fault, h_Category_isCategory⟩
theorem r_HFun : HFun Try.prog (seatFn tab) := ⟨r_HCat, h_Functor_fits, h_areCategories, h_Functor_isFunctor⟩
theorem r_HSpec : HSpec Try.prog (seatFn tab) := ⟨h_spec_l01In, h_spec_l01Map, h_spec_l02Ends, h_spec_IsShape, h_spec_l02Fault, h_spec_l02Is⟩
theorem r_HSpecU : HSpecU Try.prog (seatFn tab) := ⟨r_HSpec, h_spec_l06Is⟩
open Classical in
theorem law_args (avs : List AV) (h1 : avs.length = ([fuTy, coTy] : List Ty).length) (h2 : ∀ i (h : i < avs.length) (h' : i < ([fuTy, coTy] : List Ty).length), ShpV ([fuTy, coTy] : List Ty)[i] avs[i]) : OkM Try.prog (seatFn tab) 75 avs hempty 0 (fun r _ _ => r = bool true) := by
  obtain ⟨a0, a1, rfl⟩ := ListLen2 h1
  obtain ⟨f, rfl, rd_f⟩ := (h2 0 (by simp) (by simp)).fu
  obtain ⟨p, rfl, rd_p⟩ := (h2 1 (by simp) (by simp)).co
  exact law_IsCone r_HLaw r_HLawU r_HLawCo h_laws_FnExactIsCone f rd_f p rd_p (fun b bp => IsCone_both r_HFun h_isCone h_IsCone r_HSpecU h_spec_l02Object h_spec_l02Then h_spec_l12Cone h_spec_IsCone f b p bp)
theorem own : ownKnob Try.prog.godebug = none := by kernel_rfl
theorem laidOut : laidOutB Try.prog = true := by kernel_rfl
set_option maxRecDepth 100000 in
theorem lifted (os : Os) (started : os.Started) (H : Type) (enc : TypeId × Value → H) :
    ReturnsInHanded {} Try.checked os 7 .any (Rows.fnExactIsConeSpec.pre6 enc Try.prog Try.f7 Rows.fnExactIsConeRow.domain false) (Rows.fnExactIsConeSpec.post enc Try.prog Try.f7 false true false false) := by
  refine returnsInHanded_of_change (C := Try.checked) own started (by kernel_rfl) Try.func7
    (ChangeSpec.witness6 (enc := enc) (C := Try.checked) false ⟨#[], #[.agg #[.int .i64 0, .slice none 0 0, .slice none 0 0, .slice none 0 0, .slice none 0 0, .int .i64 0, .slice none 0 0, .slice none 0 0, .slice none 0 0, .slice none 0 0, .slice none 0 0, .slice none 0 0], .agg #[.int .i64 0, .slice none 0 0]], []⟩ 8 (by kernel_rfl) (by kernel_rfl) (by kernel_rfl) (by kernel_rfl)) ?_
  intro W base args ds gs before hval hW _ _
  exact row_calls (P := Try.prog) (ν := seatFn tab) (fn := Try.f7) (s := Rows.fnExactIsConeSpec) (id := 75) (tb := Try.f7.resultTypes.getD 0 0) (m := 8) (tys := [fuTy, coTy]) laidOut (by kernel_rfl) (by kernel_rfl) (by kernel_rfl) rfl (fun ds hd => by obtain ⟨_, _, rfl⟩ := (ListLen2 hd); rfl) (by kernel_rfl) rfl law_args W base args ds gs before hval hW
/-- For every input: the statement's function returns true. -/
theorem holds : Rows.FnExactIsConeSaid :=
  OpenClaim.holds_of_wide 7 Try.f7 rfl rfl rfl rfl rfl rfl rfl ⟨rfl, rfl, rfl, rfl, rfl⟩ rfl rfl rfl rfl rfl (by kernel_rfl) Try.func7 (by kernel_rfl)
    (of_decide_eq_true (by kernel_rfl)) (by unfold Func.isWrapper; first | (rw [if_pos (by decide +kernel)]; kernel_rfl) | (rw [if_neg (by decide +kernel)]; exact ⟨rfl, rfl⟩))
    (fun os started H enc _ => lifted os started H enc)
end Go.Proofs.Ytbgaobcgpkjjkaa.FnExactIsCone
