/-
  For every input the statement on JoinCategory answers true: the seat's functions in the layer's second form, each checked by the kernel against the translation, then the row. No condition.
-/
import Derived.Test.YtbalggpkmaabmaaRows
import Derived.Test.YtbalggpkmaabmaaAvLJoinCategory
import Derived.Test.YtbalggpkmaabmaaAvY7
import Derived.Test.YtbalggpkmaabmaaAvO1
import Derived.ProofKit
namespace Go.Proofs.Ytbalggpkmaabmaa.FnExactJoinCategory
open Go.Av
def tab : List (Nat × Nat) := [(3, 68), (4, 80), (5, 95), (6, 90), (7, 91), (8, 3), (9, 167), (10, 5), (11, 168), (12, 8), (13, 9), (14, 111), (15, 194), (16, 195), (17, 228), (18, 229), (19, 215), (20, 216), (21, 13), (22, 217), (23, 17), (24, 218), (25, 219), (26, 20), (27, 21), (28, 220), (29, 221), (30, 12), (31, 312), (32, 313), (33, 314), (34, 16), (35, 315), (36, 316), (37, 7), (38, 10), (39, 11), (40, 150), (41, 336), (42, 337), (43, 370), (44, 22), (45, 351), (46, 24), (47, 26), (48, 33), (49, 34), (50, 352), (51, 353), (52, 354), (53, 355), (54, 356), (55, 357), (56, 358), (57, 359), (58, 309), (59, 360), (60, 361), (61, 362), (62, 363), (63, 364), (64, 404), (65, 409), (66, 410), (67, 28), (68, 29), (69, 253), (70, 380), (71, 246), (72, 30), (73, 31), (74, 417), (75, 418), (76, 419), (77, 259), (78, 25), (79, 420), (80, 421), (81, 261), (82, 428), (83, 32), (84, 35), (85, 36), (86, 37), (87, 38), (88, 430)]
theorem tabOk : ∀ f id, seatNum tab f = some id → seatFn tab id = f := seat_inv (by decide +kernel)
theorem h_laws_szCategory : Has Try.prog (seatFn tab) 3 2 V_laws_szCategory := has_of tabOk (hint := []) (fn := Try.f8) (by kernel_rfl) (show Try.prog.funcs[8]? = some Try.f8 from Try.func8) (by kernel_rfl)
theorem h_laws_toCategory : Has Try.prog (seatFn tab) 5 1 V_laws_toCategory := has_of tabOk (hint := [(9, 1), (13, 1), (17, 1), (21, 1)]) (fn := Try.f10) (by kernel_rfl) (show Try.prog.funcs[10]? = some Try.f10 from Try.func10) (by kernel_rfl)
theorem h_laws_eqInt64S : Has Try.prog (seatFn tab) 7 2 V_laws_eqInt64S := has_of tabOk (hint := []) (fn := Try.f37) (by kernel_rfl) (show Try.prog.funcs[37]? = some Try.f37 from Try.func37) (by kernel_rfl)
theorem h_laws_eqCategory : Has Try.prog (seatFn tab) 8 2 V_laws_eqCategory := has_of tabOk (hint := []) (fn := Try.f12) (by kernel_rfl) (show Try.prog.funcs[12]? = some Try.f12 from Try.func12) (by kernel_rfl)
theorem h_laws_markCategory : Has Try.prog (seatFn tab) 9 2 V_laws_markCategory := has_of tabOk (hint := [(8, 1), (12, 1), (16, 1), (20, 1), (2, 3)]) (fn := Try.f13) (by kernel_rfl) (show Try.prog.funcs[13]? = some Try.f13 from Try.func13) (by kernel_rfl)
theorem h_laws_markInt64S : Has Try.prog (seatFn tab) 10 2 V_laws_markInt64S := has_of tabOk (hint := []) (fn := Try.f38) (by kernel_rfl) (show Try.prog.funcs[38]? = some Try.f38 from Try.func38) (by kernel_rfl)
theorem h_laws_heldInt64S : Has Try.prog (seatFn tab) 11 2 V_laws_heldInt64S := has_of tabOk (hint := []) (fn := Try.f39) (by kernel_rfl) (show Try.prog.funcs[39]? = some Try.f39 from Try.func39) (by kernel_rfl)
theorem h_laws_szInt64S : Has Try.prog (seatFn tab) 12 2 V_laws_szInt64S := has_of tabOk (hint := []) (fn := Try.f30) (by kernel_rfl) (show Try.prog.funcs[30]? = some Try.f30 from Try.func30) (by kernel_rfl)
theorem h_laws_szInt64SS : Has Try.prog (seatFn tab) 13 2 V_laws_szInt64SS := has_of tabOk (hint := []) (fn := Try.f21) (by kernel_rfl) (show Try.prog.funcs[21]? = some Try.f21 from Try.func21) (by kernel_rfl)
theorem h_laws_toInt64S : Has Try.prog (seatFn tab) 16 1 V_laws_toInt64S := has_of tabOk (hint := []) (fn := Try.f34) (by kernel_rfl) (show Try.prog.funcs[34]? = some Try.f34 from Try.func34) (by kernel_rfl)
theorem h_laws_toInt64SS : Has Try.prog (seatFn tab) 17 1 V_laws_toInt64SS := has_of tabOk (hint := [(20, 1)]) (fn := Try.f23) (by kernel_rfl) (show Try.prog.funcs[23]? = some Try.f23 from Try.func23) (by kernel_rfl)
theorem h_laws_eqInt64SS : Has Try.prog (seatFn tab) 20 2 V_laws_eqInt64SS := has_of tabOk (hint := []) (fn := Try.f26) (by kernel_rfl) (show Try.prog.funcs[26]? = some Try.f26 from Try.func26) (by kernel_rfl)
theorem h_laws_markInt64SS : Has Try.prog (seatFn tab) 21 2 V_laws_markInt64SS := has_of tabOk (hint := [(17, 1)]) (fn := Try.f27) (by kernel_rfl) (show Try.prog.funcs[27]? = some Try.f27 from Try.func27) (by kernel_rfl)
theorem h_spec_l02Is : Has Try.prog (seatFn tab) 22 1 V_spec_l02Is := has_of tabOk (hint := []) (fn := Try.f44) (by kernel_rfl) (show Try.prog.funcs[44]? = some Try.f44 from Try.func44) (by kernel_rfl)
theorem h_Category_isCategory : Has Try.prog (seatFn tab) 24 1 V_Category_isCategory := has_of tabOk (hint := []) (fn := Try.f46) (by kernel_rfl) (show Try.prog.funcs[46]? = some Try.f46 from Try.func46) (by kernel_rfl)
theorem h_within : Has Try.prog (seatFn tab) 25 2 V_within := has_of tabOk (hint := []) (fn := Try.f78) (by kernel_rfl) (show Try.prog.funcs[78]? = some Try.f78 from Try.func78) (by kernel_rfl)
theorem h_Category_arrows : Has Try.prog (seatFn tab) 26 1 V_Category_arrows := has_of tabOk (hint := []) (fn := Try.f47) (by kernel_rfl) (show Try.prog.funcs[47]? = some Try.f47 from Try.func47) (by kernel_rfl)
theorem h_spec_IsShape : Has Try.prog (seatFn tab) 28 1 V_spec_IsShape := has_of tabOk (hint := []) (fn := Try.f67) (by kernel_rfl) (show Try.prog.funcs[67]? = some Try.f67 from Try.func67) (by kernel_rfl)
theorem h_spec_l02Fault : Has Try.prog (seatFn tab) 29 1 V_spec_l02Fault := has_of tabOk (hint := []) (fn := Try.f68) (by kernel_rfl) (show Try.prog.funcs[68]? = some Try.f68 from Try.func68) (by kernel_rfl)
theorem h_Category_isShape : Has Try.prog (seatFn tab) 30 1 V_Category_isShape := has_of tabOk (hint := []) (fn := Try.f72) (by kernel_rfl) (show Try.prog.funcs[72]? = some Try.f72 from Try.func72) (by kernel_rfl)
theorem h_Category_fault : Has Try.prog (seatFn tab) 31 1 V_Category_fault := has_of tabOk (hint := []) (fn := Try.f73) (by kernel_rfl) (show Try.prog.funcs[73]? = some Try.f73 from Try.func73) (by kernel_rfl)
theorem h_inRange : Has Try.prog (seatFn tab) 32 3 V_inRange := has_of tabOk (hint := []) (fn := Try.f83) (by kernel_rfl) (show Try.prog.funcs[83]? = some Try.f83 from Try.func83) (by kernel_rfl)
theorem h_Category_then : Has Try.prog (seatFn tab) 34 3 V_Category_then := has_of tabOk (hint := []) (fn := Try.f49) (by kernel_rfl) (show Try.prog.funcs[49]? = some Try.f49 from Try.func49) (by kernel_rfl)
theorem h_spec_l01In : Has Try.prog (seatFn tab) 35 3 V_spec_l01In := has_of tabOk (hint := []) (fn := Try.f84) (by kernel_rfl) (show Try.prog.funcs[84]? = some Try.f84 from Try.func84) (by kernel_rfl)
theorem h_spec_l02Ends : Has Try.prog (seatFn tab) 36 3 V_spec_l02Ends := has_of tabOk (hint := []) (fn := Try.f85) (by kernel_rfl) (show Try.prog.funcs[85]? = some Try.f85 from Try.func85) (by kernel_rfl)
theorem h_spec_l01Map : Has Try.prog (seatFn tab) 37 2 V_spec_l01Map := has_of tabOk (hint := []) (fn := Try.f86) (by kernel_rfl) (show Try.prog.funcs[86]? = some Try.f86 from Try.func86) (by kernel_rfl)
theorem h_Category_ends : Has Try.prog (seatFn tab) 38 2 V_Category_ends := has_of tabOk (hint := []) (fn := Try.f87) (by kernel_rfl) (show Try.prog.funcs[87]? = some Try.f87 from Try.func87) (by kernel_rfl)
theorem h_laws_FnExactJoinCategory : Has Try.prog (seatFn tab) 95 2 V_laws_FnExactJoinCategory := has_of tabOk (hint := [(36, 1), (38, 1), (42, 2), (66, 1), (69, 1), (85, 1)]) (fn := Try.f5) (by kernel_rfl) (show Try.prog.funcs[5]? = some Try.f5 from Try.func5) (by kernel_rfl)
theorem h_laws_heldCategory : Has Try.prog (seatFn tab) 111 2 V_laws_heldCategory := has_of tabOk (hint := []) (fn := Try.f14) (by kernel_rfl) (show Try.prog.funcs[14]? = some Try.f14 from Try.func14) (by kernel_rfl)
theorem h_laws_heldInt64SS : Has Try.prog (seatFn tab) 150 2 V_laws_heldInt64SS := has_of tabOk (hint := []) (fn := Try.f40) (by kernel_rfl) (show Try.prog.funcs[40]? = some Try.f40 from Try.func40) (by kernel_rfl)
theorem h_spec_JoinCategory : Has Try.prog (seatFn tab) 228 2 V_spec_JoinCategory := has_of tabOk (hint := []) (fn := Try.f17) (by kernel_rfl) (show Try.prog.funcs[17]? = some Try.f17 from Try.func17) (by kernel_rfl)
theorem h_JoinCategory : Has Try.prog (seatFn tab) 229 2 V_JoinCategory := has_of tabOk (hint := [(6, 2)]) (fn := Try.f18) (by kernel_rfl) (show Try.prog.funcs[18]? = some Try.f18 from Try.func18) (by kernel_rfl)
theorem h_spec_l01Own : Has Try.prog (seatFn tab) 259 1 V_spec_l01Own := has_of tabOk (hint := []) (fn := Try.f77) (by kernel_rfl) (show Try.prog.funcs[77]? = some Try.f77 from Try.func77) (by kernel_rfl)
theorem h_clone : Has Try.prog (seatFn tab) 261 1 V_clone := has_of tabOk (hint := []) (fn := Try.f81) (by kernel_rfl) (show Try.prog.funcs[81]? = some Try.f81 from Try.func81) (by kernel_rfl)
theorem h_spec_l03Two : Has Try.prog (seatFn tab) 312 2 V_spec_l03Two := has_of tabOk (hint := []) (fn := Try.f31) (by kernel_rfl) (show Try.prog.funcs[31]? = some Try.f31 from Try.func31) (by kernel_rfl)
theorem h_spec_l03Made : Has Try.prog (seatFn tab) 313 1 V_spec_l03Made := has_of tabOk (hint := []) (fn := Try.f32) (by kernel_rfl) (show Try.prog.funcs[32]? = some Try.f32 from Try.func32) (by kernel_rfl)
theorem h_areCategories : Has Try.prog (seatFn tab) 315 1 V_areCategories := has_of tabOk (hint := []) (fn := Try.f35) (by kernel_rfl) (show Try.prog.funcs[35]? = some Try.f35 from Try.func35) (by kernel_rfl)
theorem h_spec_l03Sum : Has Try.prog (seatFn tab) 336 2 V_spec_l03Sum := has_of tabOk (hint := [(22, 2), (138, 3), (69, 5)]) (fn := Try.f41) (by kernel_rfl) (show Try.prog.funcs[41]? = some Try.f41 from Try.func41) (by kernel_rfl)
theorem h_addedCode : Has Try.prog (seatFn tab) 337 3 V_addedCode := has_of tabOk (hint := [(20, 2)]) (fn := Try.f42) (by kernel_rfl) (show Try.prog.funcs[42]? = some Try.f42 from Try.func42) (by kernel_rfl)
theorem h_Category_table : Has Try.prog (seatFn tab) 353 2 V_Category_table := has_of tabOk (hint := []) (fn := Try.f51) (by kernel_rfl) (show Try.prog.funcs[51]? = some Try.f51 from Try.func51) (by kernel_rfl)
theorem h_spec_l02Fits : Has Try.prog (seatFn tab) 359 1 V_spec_l02Fits := has_of tabOk (hint := []) (fn := Try.f57) (by kernel_rfl) (show Try.prog.funcs[57]? = some Try.f57 from Try.func57) (by kernel_rfl)
theorem h_spec_l01Own2_o : Has Try.prog (seatFn tab) 360 1 V_spec_l01Own2_o := has_of tabOk (hint := [(17, 2), (18, 3)]) (fn := Try.f59) (by kernel_rfl) (show Try.prog.funcs[59]? = some Try.f59 from Try.func59) (by kernel_rfl)
theorem h_spec_l03Join : Has Try.prog (seatFn tab) 370 2 V_spec_l03Join := has_of tabOk (hint := [(16, 2), (117, 3)]) (fn := Try.f43) (by kernel_rfl) (show Try.prog.funcs[43]? = some Try.f43 from Try.func43) (by kernel_rfl)
theorem h_spec_l02Own : Has Try.prog (seatFn tab) 409 1 V_spec_l02Own := has_of tabOk (hint := [(7, 2), (10, 2), (13, 2), (16, 2)]) (fn := Try.f65) (by kernel_rfl) (show Try.prog.funcs[65]? = some Try.f65 from Try.func65) (by kernel_rfl)
theorem h_added : Has Try.prog (seatFn tab) 410 3 V_added := has_of tabOk (hint := [(33, 2), (38, 2), (43, 2), (138, 1)]) (fn := Try.f66) (by kernel_rfl) (show Try.prog.funcs[66]? = some Try.f66 from Try.func66) (by kernel_rfl)
theorem h_added_1 : Has Try.prog (seatFn tab) 428 8 V_added_1 := has_of tabOk (hint := []) (fn := Try.f82) (by kernel_rfl) (show Try.prog.funcs[82]? = some Try.f82 from Try.func82) (by kernel_rfl)
theorem r_HLaw : HLaw Try.prog (seatFn tab) := ⟨h_laws_szInt64S, h_laws_szInt64SS, h_laws_szCategory, h_laws_toInt64S, h_laws_toInt64SS, h_laws_toCategory, h_laws_eqInt64S, h_laws_eqInt64SS, h_laws_eqCategory⟩
theorem r_HMark : HMark Try.prog (seatFn tab) := ⟨h_laws_markInt64S, h_laws_markInt64SS, h_laws_markCategory, h_laws_heldInt64S⟩
theorem r_HCat : HCat Try.prog (seatFn tab) := ⟨h_Category_arrows, h_inRange, h_within, h_Category_ends, h_Category_then, h_Category_isShape, h_Category_fault, h_Category_isCategory⟩
theorem r_HSpec : HSpec Try.prog (seatFn tab) := ⟨h_spec_l01In, h_spec_l01Map, h_spec_l02Ends, h_spec_IsShape, h_spec_l02Fault, h_spec_l02Is⟩
open Classical in
theorem law_args (avs : List AV) (h1 : avs.length = ([catTy, catTy] : List Ty).length) (h2 : ∀ i (h : i < avs.length) (h' : i < ([catTy, catTy] : List Ty).length), ShpV ([catTy, catTy] : List Ty)[i] avs[i]) : OkM Try.prog (seatFn tab) 95 avs hempty 0 (fun r _ _ => r = bool true) := by
  obtain ⟨a0, a1, rfl⟩ := ListLen2 h1
  obtain ⟨c, rfl, rd_c, _⟩ := (h2 0 (by simp) (by simp)).cat
  obtain ⟨d, rfl, rd_d, _⟩ := (h2 1 (by simp) (by simp)).cat
  exact law_JoinCategory r_HLaw r_HMark h_laws_heldInt64SS h_laws_heldCategory h_laws_FnExactJoinCategory c rd_c d rd_d (fun b_c b_d => JoinCategory_both r_HCat h_areCategories h_clone h_Category_table h_added_1 h_added h_addedCode h_JoinCategory r_HSpec h_spec_l03Two h_spec_l02Fits h_spec_l03Made h_spec_l01Own h_spec_l01Own2_o h_spec_l02Own h_spec_l03Sum h_spec_l03Join h_spec_JoinCategory c b_c.toSmall d b_d.toSmall)
theorem own : ownKnob Try.prog.godebug = none := by kernel_rfl
theorem laidOut : laidOutB Try.prog = true := by kernel_rfl
set_option maxRecDepth 100000 in
theorem lifted (os : Os) (started : os.Started) (H : Type) (enc : TypeId × Value → H) :
    ReturnsInHanded {} Try.checked os 5 .any (Rows.fnExactJoinCategorySpec.pre6 enc Try.prog Try.f5 Rows.fnExactJoinCategoryRow.domain false) (Rows.fnExactJoinCategorySpec.post enc Try.prog Try.f5 false true false false) := by
  refine returnsInHanded_of_change (C := Try.checked) own started (by kernel_rfl) Try.func5
    (ChangeSpec.witness6 (enc := enc) (C := Try.checked) false ⟨#[], #[.agg #[.int .i64 0, .slice none 0 0, .slice none 0 0, .slice none 0 0, .slice none 0 0], .agg #[.int .i64 0, .slice none 0 0, .slice none 0 0, .slice none 0 0, .slice none 0 0]], []⟩ 8 (by kernel_rfl) (by kernel_rfl) (by kernel_rfl) (by kernel_rfl)) ?_
  intro W base args ds gs before hval hW _ _
  exact row_calls (P := Try.prog) (ν := seatFn tab) (fn := Try.f5) (s := Rows.fnExactJoinCategorySpec) (id := 95) (tb := Try.f5.resultTypes.getD 0 0) (m := 8) (tys := [catTy, catTy]) laidOut (by kernel_rfl) (by kernel_rfl) (by kernel_rfl) rfl (fun ds hd => by obtain ⟨_, _, rfl⟩ := (ListLen2 hd); rfl) (by kernel_rfl) rfl law_args W base args ds gs before hval hW
/-- For every input: the statement's function returns true. -/
theorem holds : Rows.FnExactJoinCategorySaid :=
  OpenClaim.holds_of_wide 5 Try.f5 rfl rfl rfl rfl rfl rfl rfl ⟨rfl, rfl, rfl, rfl, rfl⟩ rfl rfl rfl rfl rfl (by kernel_rfl) Try.func5 (by kernel_rfl)
    (of_decide_eq_true (by kernel_rfl)) (by unfold Func.isWrapper; first | (rw [if_pos (by decide +kernel)]; kernel_rfl) | (rw [if_neg (by decide +kernel)]; exact ⟨rfl, rfl⟩))
    (fun os started H enc _ => lifted os started H enc)
end Go.Proofs.Ytbalggpkmaabmaa.FnExactJoinCategory
