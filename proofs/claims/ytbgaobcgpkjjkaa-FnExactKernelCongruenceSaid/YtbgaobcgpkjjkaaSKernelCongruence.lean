/-
  For every input the statement on KernelCongruence answers true: the seat's functions in the layer's second form, each checked by the kernel against the translation, then the row. No condition.
-/
import Derived.Test.YtbgaobcgpkjjkaaRows
import Derived.Test.YtbgaobcgpkjjkaaAvLKernelCongruence
import Derived.Test.YtbgaobcgpkjjkaaAvU1
import Derived.Test.YtbgaobcgpkjjkaaAvO1
import Derived.ProofKit
namespace Go.Proofs.Ytbgaobcgpkjjkaa.FnExactKernelCongruence
open Go.Av
def tab : List (Nat × Nat) := [(3, 48), (4, 63), (5, 73), (6, 74), (7, 75), (8, 77), (9, 81), (10, 83), (11, 88), (12, 89), (13, 92), (14, 93), (15, 116), (16, 117), (17, 118), (18, 119), (19, 120), (20, 157), (21, 158), (22, 177), (23, 178), (24, 179), (25, 180), (26, 181), (27, 182), (28, 183), (29, 184), (30, 185), (31, 188), (32, 189), (33, 196), (34, 197), (35, 200), (36, 201), (37, 210), (38, 211), (39, 20), (40, 212), (41, 21), (42, 150), (43, 213), (44, 214), (45, 222), (46, 223), (47, 7), (48, 10), (49, 11), (50, 224), (51, 225), (52, 3), (53, 12), (54, 256), (55, 5), (56, 16), (57, 257), (58, 8), (59, 296), (60, 297), (61, 298), (62, 288), (63, 325), (64, 290), (65, 287), (66, 326), (67, 289), (68, 327), (69, 328), (70, 239), (71, 333), (72, 240), (73, 338), (74, 339), (75, 343), (76, 344), (77, 284), (78, 347), (79, 32), (80, 348), (81, 9), (82, 349), (83, 350), (84, 247), (85, 277), (86, 340), (87, 291), (88, 365), (89, 13), (90, 22), (91, 37), (92, 17), (93, 315), (94, 378), (95, 38), (96, 266), (97, 244), (98, 253), (99, 25), (100, 26), (101, 34), (102, 237), (103, 15), (104, 262), (105, 33), (106, 411), (107, 309), (108, 412), (109, 413), (110, 408), (111, 383), (112, 415), (113, 416), (114, 389), (115, 390), (116, 393), (117, 28), (118, 29), (119, 24), (120, 373), (121, 381), (122, 374), (123, 423), (124, 429), (125, 376), (126, 35), (127, 36), (128, 30), (129, 31), (130, 380)]
theorem tabOk : ∀ f id, seatNum tab f = some id → seatFn tab id = f := seat_inv (by decide +kernel)
theorem h_laws_szCategory : Has Try.prog (seatFn tab) 3 2 V_laws_szCategory := has_of tabOk (hint := []) (fn := Try.f52) (by kernel_rfl) (show Try.prog.funcs[52]? = some Try.f52 from Try.func52) (by kernel_rfl)
theorem h_laws_toCategory : Has Try.prog (seatFn tab) 5 1 V_laws_toCategory := has_of tabOk (hint := [(9, 1), (13, 1), (17, 1), (21, 1)]) (fn := Try.f55) (by kernel_rfl) (show Try.prog.funcs[55]? = some Try.f55 from Try.func55) (by kernel_rfl)
theorem h_laws_eqInt64S : Has Try.prog (seatFn tab) 7 2 V_laws_eqInt64S := has_of tabOk (hint := []) (fn := Try.f47) (by kernel_rfl) (show Try.prog.funcs[47]? = some Try.f47 from Try.func47) (by kernel_rfl)
theorem h_laws_eqCategory : Has Try.prog (seatFn tab) 8 2 V_laws_eqCategory := has_of tabOk (hint := []) (fn := Try.f58) (by kernel_rfl) (show Try.prog.funcs[58]? = some Try.f58 from Try.func58) (by kernel_rfl)
theorem h_laws_markCategory : Has Try.prog (seatFn tab) 9 2 V_laws_markCategory := has_of tabOk (hint := [(8, 1), (12, 1), (16, 1), (20, 1), (2, 3)]) (fn := Try.f81) (by kernel_rfl) (show Try.prog.funcs[81]? = some Try.f81 from Try.func81) (by kernel_rfl)
theorem h_laws_markInt64S : Has Try.prog (seatFn tab) 10 2 V_laws_markInt64S := has_of tabOk (hint := []) (fn := Try.f48) (by kernel_rfl) (show Try.prog.funcs[48]? = some Try.f48 from Try.func48) (by kernel_rfl)
theorem h_laws_heldInt64S : Has Try.prog (seatFn tab) 11 2 V_laws_heldInt64S := has_of tabOk (hint := []) (fn := Try.f49) (by kernel_rfl) (show Try.prog.funcs[49]? = some Try.f49 from Try.func49) (by kernel_rfl)
theorem h_laws_szInt64S : Has Try.prog (seatFn tab) 12 2 V_laws_szInt64S := has_of tabOk (hint := []) (fn := Try.f53) (by kernel_rfl) (show Try.prog.funcs[53]? = some Try.f53 from Try.func53) (by kernel_rfl)
theorem h_laws_szInt64SS : Has Try.prog (seatFn tab) 13 2 V_laws_szInt64SS := has_of tabOk (hint := []) (fn := Try.f89) (by kernel_rfl) (show Try.prog.funcs[89]? = some Try.f89 from Try.func89) (by kernel_rfl)
theorem h_laws_toInt64S : Has Try.prog (seatFn tab) 16 1 V_laws_toInt64S := has_of tabOk (hint := []) (fn := Try.f56) (by kernel_rfl) (show Try.prog.funcs[56]? = some Try.f56 from Try.func56) (by kernel_rfl)
theorem h_laws_toInt64SS : Has Try.prog (seatFn tab) 17 1 V_laws_toInt64SS := has_of tabOk (hint := [(20, 1)]) (fn := Try.f92) (by kernel_rfl) (show Try.prog.funcs[92]? = some Try.f92 from Try.func92) (by kernel_rfl)
theorem h_laws_eqInt64SS : Has Try.prog (seatFn tab) 20 2 V_laws_eqInt64SS := has_of tabOk (hint := []) (fn := Try.f39) (by kernel_rfl) (show Try.prog.funcs[39]? = some Try.f39 from Try.func39) (by kernel_rfl)
theorem h_laws_markInt64SS : Has Try.prog (seatFn tab) 21 2 V_laws_markInt64SS := has_of tabOk (hint := [(17, 1)]) (fn := Try.f41) (by kernel_rfl) (show Try.prog.funcs[41]? = some Try.f41 from Try.func41) (by kernel_rfl)
theorem h_spec_l02Is : Has Try.prog (seatFn tab) 22 1 V_spec_l02Is := has_of tabOk (hint := []) (fn := Try.f90) (by kernel_rfl) (show Try.prog.funcs[90]? = some Try.f90 from Try.func90) (by kernel_rfl)
theorem h_Category_isCategory : Has Try.prog (seatFn tab) 24 1 V_Category_isCategory := has_of tabOk (hint := []) (fn := Try.f119) (by kernel_rfl) (show Try.prog.funcs[119]? = some Try.f119 from Try.func119) (by kernel_rfl)
theorem h_within : Has Try.prog (seatFn tab) 25 2 V_within := has_of tabOk (hint := []) (fn := Try.f99) (by kernel_rfl) (show Try.prog.funcs[99]? = some Try.f99 from Try.func99) (by kernel_rfl)
theorem h_Category_arrows : Has Try.prog (seatFn tab) 26 1 V_Category_arrows := has_of tabOk (hint := []) (fn := Try.f100) (by kernel_rfl) (show Try.prog.funcs[100]? = some Try.f100 from Try.func100) (by kernel_rfl)
theorem h_spec_IsShape : Has Try.prog (seatFn tab) 28 1 V_spec_IsShape := has_of tabOk (hint := []) (fn := Try.f117) (by kernel_rfl) (show Try.prog.funcs[117]? = some Try.f117 from Try.func117) (by kernel_rfl)
theorem h_spec_l02Fault : Has Try.prog (seatFn tab) 29 1 V_spec_l02Fault := has_of tabOk (hint := []) (fn := Try.f118) (by kernel_rfl) (show Try.prog.funcs[118]? = some Try.f118 from Try.func118) (by kernel_rfl)
theorem h_Category_isShape : Has Try.prog (seatFn tab) 30 1 V_Category_isShape := has_of tabOk (hint := []) (fn := Try.f128) (by kernel_rfl) (show Try.prog.funcs[128]? = some Try.f128 from Try.func128) (by kernel_rfl)
theorem h_Category_fault : Has Try.prog (seatFn tab) 31 1 V_Category_fault := has_of tabOk (hint := []) (fn := Try.f129) (by kernel_rfl) (show Try.prog.funcs[129]? = some Try.f129 from Try.func129) (by kernel_rfl)
theorem h_inRange : Has Try.prog (seatFn tab) 32 3 V_inRange := has_of tabOk (hint := []) (fn := Try.f79) (by kernel_rfl) (show Try.prog.funcs[79]? = some Try.f79 from Try.func79) (by kernel_rfl)
theorem h_Category_then : Has Try.prog (seatFn tab) 34 3 V_Category_then := has_of tabOk (hint := []) (fn := Try.f101) (by kernel_rfl) (show Try.prog.funcs[101]? = some Try.f101 from Try.func101) (by kernel_rfl)
theorem h_spec_l01In : Has Try.prog (seatFn tab) 35 3 V_spec_l01In := has_of tabOk (hint := []) (fn := Try.f126) (by kernel_rfl) (show Try.prog.funcs[126]? = some Try.f126 from Try.func126) (by kernel_rfl)
theorem h_spec_l02Ends : Has Try.prog (seatFn tab) 36 3 V_spec_l02Ends := has_of tabOk (hint := []) (fn := Try.f127) (by kernel_rfl) (show Try.prog.funcs[127]? = some Try.f127 from Try.func127) (by kernel_rfl)
theorem h_spec_l01Map : Has Try.prog (seatFn tab) 37 2 V_spec_l01Map := has_of tabOk (hint := []) (fn := Try.f91) (by kernel_rfl) (show Try.prog.funcs[91]? = some Try.f91 from Try.func91) (by kernel_rfl)
theorem h_Category_ends : Has Try.prog (seatFn tab) 38 2 V_Category_ends := has_of tabOk (hint := []) (fn := Try.f95) (by kernel_rfl) (show Try.prog.funcs[95]? = some Try.f95 from Try.func95) (by kernel_rfl)
theorem h_laws_FnExactKernelCongruence : Has Try.prog (seatFn tab) 93 1 V_laws_FnExactKernelCongruence := has_of tabOk (hint := [(26, 1), (29, 2), (48, 1), (64, 1), (76, 2)]) (fn := Try.f14) (by kernel_rfl) (show Try.prog.funcs[14]? = some Try.f14 from Try.func14) (by kernel_rfl)
theorem h_laws_szFunctor : Has Try.prog (seatFn tab) 116 2 V_laws_szFunctor := has_of tabOk (hint := []) (fn := Try.f15) (by kernel_rfl) (show Try.prog.funcs[15]? = some Try.f15 from Try.func15) (by kernel_rfl)
theorem h_laws_toFunctor : Has Try.prog (seatFn tab) 118 1 V_laws_toFunctor := has_of tabOk (hint := [(6, 1), (10, 1), (14, 1), (18, 1)]) (fn := Try.f17) (by kernel_rfl) (show Try.prog.funcs[17]? = some Try.f17 from Try.func17) (by kernel_rfl)
theorem h_laws_eqFunctor : Has Try.prog (seatFn tab) 120 2 V_laws_eqFunctor := has_of tabOk (hint := []) (fn := Try.f19) (by kernel_rfl) (show Try.prog.funcs[19]? = some Try.f19 from Try.func19) (by kernel_rfl)
theorem h_laws_markFunctor : Has Try.prog (seatFn tab) 212 2 V_laws_markFunctor := has_of tabOk (hint := [(8, 1), (12, 1), (16, 1), (20, 1), (2, 3)]) (fn := Try.f40) (by kernel_rfl) (show Try.prog.funcs[40]? = some Try.f40 from Try.func40) (by kernel_rfl)
theorem h_spec_KernelCongruence : Has Try.prog (seatFn tab) 224 1 V_spec_KernelCongruence := has_of tabOk (hint := [(51, 2)]) (fn := Try.f50) (by kernel_rfl) (show Try.prog.funcs[50]? = some Try.f50 from Try.func50) (by kernel_rfl)
theorem h_KernelCongruence : Has Try.prog (seatFn tab) 225 1 V_KernelCongruence := has_of tabOk (hint := [(43, 2)]) (fn := Try.f51) (by kernel_rfl) (show Try.prog.funcs[51]? = some Try.f51 from Try.func51) (by kernel_rfl)
theorem h_spec_l06Is : Has Try.prog (seatFn tab) 256 1 V_spec_l06Is := has_of tabOk (hint := []) (fn := Try.f54) (by kernel_rfl) (show Try.prog.funcs[54]? = some Try.f54 from Try.func54) (by kernel_rfl)
theorem h_Functor_isFunctor : Has Try.prog (seatFn tab) 257 1 V_Functor_isFunctor := has_of tabOk (hint := []) (fn := Try.f57) (by kernel_rfl) (show Try.prog.funcs[57]? = some Try.f57 from Try.func57) (by kernel_rfl)
theorem h_spec_l01Join : Has Try.prog (seatFn tab) 291 2 V_spec_l01Join := has_of tabOk (hint := [(67, 2)]) (fn := Try.f87) (by kernel_rfl) (show Try.prog.funcs[87]? = some Try.f87 from Try.func87) (by kernel_rfl)
theorem h_areCategories : Has Try.prog (seatFn tab) 315 1 V_areCategories := has_of tabOk (hint := []) (fn := Try.f93) (by kernel_rfl) (show Try.prog.funcs[93]? = some Try.f93 from Try.func93) (by kernel_rfl)
theorem h_spec_l03Parallel : Has Try.prog (seatFn tab) 340 3 V_spec_l03Parallel := has_of tabOk (hint := []) (fn := Try.f86) (by kernel_rfl) (show Try.prog.funcs[86]? = some Try.f86 from Try.func86) (by kernel_rfl)
theorem h_normal : Has Try.prog (seatFn tab) 365 1 V_normal := has_of tabOk (hint := []) (fn := Try.f88) (by kernel_rfl) (show Try.prog.funcs[88]? = some Try.f88 from Try.func88) (by kernel_rfl)
theorem h_spec_l01Index : Has Try.prog (seatFn tab) 376 2 V_spec_l01Index := has_of tabOk (hint := []) (fn := Try.f125) (by kernel_rfl) (show Try.prog.funcs[125]? = some Try.f125 from Try.func125) (by kernel_rfl)
theorem h_Functor_fits : Has Try.prog (seatFn tab) 378 1 V_Functor_fits := has_of tabOk (hint := []) (fn := Try.f94) (by kernel_rfl) (show Try.prog.funcs[94]? = some Try.f94 from Try.func94) (by kernel_rfl)
theorem h_spec_l01Classes : Has Try.prog (seatFn tab) 393 1 V_spec_l01Classes := has_of tabOk (hint := []) (fn := Try.f116) (by kernel_rfl) (show Try.prog.funcs[116]? = some Try.f116 from Try.func116) (by kernel_rfl)
theorem r_HLaw : HLaw Try.prog (seatFn tab) := ⟨h_laws_szInt64S, h_laws_szInt64SS, h_laws_szCategory, h_laws_toInt64S, h_laws_toInt64SS, h_laws_toCategory, h_laws_eqInt64S, h_laws_eqInt64SS, h_laws_eqCategory⟩
theorem r_HLawU : HLawU Try.prog (seatFn tab) := ⟨h_laws_szFunctor, h_laws_toFunctor, h_laws_eqFunctor⟩
theorem r_HMark : HMark Try.prog (seatFn tab) := ⟨h_laws_markInt64S, h_laws_markInt64SS, h_laws_markCategory, h_laws_heldInt64S⟩
theorem r_HCat : HCat Try.prog (seatFn tab) := ⟨h_Category_arrows, h_inRange, h_within, h_Category_ends, h_Category_then, h_Category_isShape, h_Category_fault, h_Category_isCategory⟩
theorem r_HFun : HFun Try.prog (seatFn tab) := ⟨r_HCat, h_Functor_fits, h_areCategories, h_Functor_isFunctor⟩
theorem r_HSpec : HSpec Try.prog (seatFn tab) := ⟨h_spec_l01In, h_spec_l01Map, h_spec_l02Ends, h_spec_IsShape, h_spec_l02Fault, h_spec_l02Is⟩
theorem r_HSpecU : HSpecU Try.prog (seatFn tab) := ⟨r_HSpec, h_spec_l06Is⟩
theorem r_HLab : HLab Try.prog (seatFn tab) := ⟨h_spec_l01Index, h_spec_l01Classes, h_spec_l01Join⟩
open Classical in
theorem law_args (avs : List AV) (h1 : avs.length = ([fuTy] : List Ty).length) (h2 : ∀ i (h : i < avs.length) (h' : i < ([fuTy] : List Ty).length), ShpV ([fuTy] : List Ty)[i] avs[i]) : OkM Try.prog (seatFn tab) 93 avs hempty 0 (fun r _ _ => r = bool true) := by
  obtain ⟨a0, rfl⟩ := ListLen1 h1
  obtain ⟨f, rfl, rd_f⟩ := (h2 0 (by simp) (by simp)).fu
  exact law_KernelCongruence r_HLaw r_HLawU r_HMark h_laws_markFunctor h_laws_FnExactKernelCongruence f rd_f  (fun b => KernelCongruence_both r_HFun h_normal h_KernelCongruence r_HSpecU r_HLab h_spec_l03Parallel h_spec_KernelCongruence f b )
theorem own : ownKnob Try.prog.godebug = none := by kernel_rfl
theorem laidOut : laidOutB Try.prog = true := by kernel_rfl
set_option maxRecDepth 100000 in
theorem lifted (os : Os) (started : os.Started) (H : Type) (enc : TypeId × Value → H) :
    ReturnsInHanded {} Try.checked os 14 .any (Rows.fnExactKernelCongruenceSpec.pre6 enc Try.prog Try.f14 Rows.fnExactKernelCongruenceRow.domain false) (Rows.fnExactKernelCongruenceSpec.post enc Try.prog Try.f14 false true false false) := by
  refine returnsInHanded_of_change (C := Try.checked) own started (by kernel_rfl) Try.func14
    (ChangeSpec.witness6 (enc := enc) (C := Try.checked) false ⟨#[], #[.agg #[.int .i64 0, .slice none 0 0, .slice none 0 0, .slice none 0 0, .slice none 0 0, .int .i64 0, .slice none 0 0, .slice none 0 0, .slice none 0 0, .slice none 0 0, .slice none 0 0, .slice none 0 0]], []⟩ 8 (by kernel_rfl) (by kernel_rfl) (by kernel_rfl) (by kernel_rfl)) ?_
  intro W base args ds gs before hval hW _ _
  exact row_calls (P := Try.prog) (ν := seatFn tab) (fn := Try.f14) (s := Rows.fnExactKernelCongruenceSpec) (id := 93) (tb := Try.f14.resultTypes.getD 0 0) (m := 8) (tys := [fuTy]) laidOut (by kernel_rfl) (by kernel_rfl) (by kernel_rfl) rfl (fun ds hd => by obtain ⟨_, rfl⟩ := (ListLen1 hd); rfl) (by kernel_rfl) rfl law_args W base args ds gs before hval hW
/-- For every input: the statement's function returns true. -/
theorem holds : Rows.FnExactKernelCongruenceSaid :=
  OpenClaim.holds_of_wide 14 Try.f14 rfl rfl rfl rfl rfl rfl rfl ⟨rfl, rfl, rfl, rfl, rfl⟩ rfl rfl rfl rfl rfl (by kernel_rfl) Try.func14 (by kernel_rfl)
    (of_decide_eq_true (by kernel_rfl)) (by unfold Func.isWrapper; first | (rw [if_pos (by decide +kernel)]; kernel_rfl) | (rw [if_neg (by decide +kernel)]; exact ⟨rfl, rfl⟩))
    (fun os started H enc _ => lifted os started H enc)
end Go.Proofs.Ytbgaobcgpkjjkaa.FnExactKernelCongruence
