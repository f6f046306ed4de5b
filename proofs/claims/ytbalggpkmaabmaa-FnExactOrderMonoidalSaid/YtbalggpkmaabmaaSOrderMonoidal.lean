/-
  For every input the statement on OrderMonoidal answers true: the seat's functions in the layer's second form, each checked by the kernel against the translation, then the row. No condition.
-/
import Derived.Test.YtbalggpkmaabmaaRows
import Derived.Test.YtbalggpkmaabmaaAvLOrderMonoidal
import Derived.Test.YtbalggpkmaabmaaAvWZ
import Derived.Test.YtbalggpkmaabmaaAvO1
import Derived.ProofKit
namespace Go.Proofs.Ytbalggpkmaabmaa.FnExactOrderMonoidal
open Go.Av
def tab : List (Nat × Nat) := [(3, 68), (4, 80), (5, 95), (6, 90), (7, 91), (8, 3), (9, 167), (10, 5), (11, 168), (12, 8), (13, 9), (14, 111), (15, 194), (16, 195), (17, 228), (18, 229), (19, 215), (20, 216), (21, 13), (22, 217), (23, 17), (24, 218), (25, 219), (26, 20), (27, 21), (28, 220), (29, 221), (30, 12), (31, 312), (32, 313), (33, 314), (34, 16), (35, 315), (36, 316), (37, 7), (38, 10), (39, 11), (40, 150), (41, 336), (42, 337), (43, 370), (44, 22), (45, 351), (46, 24), (47, 26), (48, 33), (49, 34), (50, 352), (51, 353), (52, 354), (53, 355), (54, 356), (55, 357), (56, 358), (57, 359), (58, 309), (59, 360), (60, 361), (61, 362), (62, 363), (63, 364), (64, 404), (65, 409), (66, 410), (67, 28), (68, 29), (69, 253), (70, 380), (71, 246), (72, 30), (73, 31), (74, 417), (75, 418), (76, 419), (77, 259), (78, 25), (79, 420), (80, 421), (81, 261), (82, 428), (83, 32), (84, 35), (85, 36), (86, 37), (87, 38), (88, 430)]
theorem tabOk : ∀ f id, seatNum tab f = some id → seatFn tab id = f := seat_inv (by decide +kernel)
theorem h_laws_szCategory : Has Try.prog (seatFn tab) 3 2 V_laws_szCategory := has_of tabOk (hint := []) (fn := Try.f8) (by kernel_rfl) (show Try.prog.funcs[8]? = some Try.f8 from Try.func8) (by kernel_rfl)
theorem h_laws_toCategory : Has Try.prog (seatFn tab) 5 1 V_laws_toCategory := has_of tabOk (hint := [(9, 1), (13, 1), (17, 1), (21, 1)]) (fn := Try.f10) (by kernel_rfl) (show Try.prog.funcs[10]? = some Try.f10 from Try.func10) (by kernel_rfl)
theorem h_laws_eqInt64S : Has Try.prog (seatFn tab) 7 2 V_laws_eqInt64S := has_of tabOk (hint := []) (fn := Try.f37) (by kernel_rfl) (show Try.prog.funcs[37]? = some Try.f37 from Try.func37) (by kernel_rfl)
theorem h_laws_eqCategory : Has Try.prog (seatFn tab) 8 2 V_laws_eqCategory := has_of tabOk (hint := []) (fn := Try.f12) (by kernel_rfl) (show Try.prog.funcs[12]? = some Try.f12 from Try.func12) (by kernel_rfl)
theorem h_laws_markCategory : Has Try.prog (seatFn tab) 9 2 V_laws_markCategory := has_of tabOk (hint := [(8, 1), (12, 1), (16, 1), (20, 1), (2, 3)]) (fn := Try.f13) (by kernel_rfl) (show Try.prog.funcs[13]? = some Try.f13 from Try.func13) (by kernel_rfl)
theorem h_laws_markInt64S : Has Try.prog (seatFn tab) 10 2 V_laws_markInt64S := has_of tabOk (hint := []) (fn := Try.f38) (by kernel_rfl) (show Try.prog.funcs[38]? = some Try.f38 from Try.func38) (by kernel_rfl)
theorem h_laws_heldInt64S : Has Try.prog (seatFn tab) 11 2 V_laws_heldInt64S := has_of tabOk (hint := []) (fn := Try.f39) (by kernel_rfl) (show Try.prog.funcs[39]? = some Try.f39 from Try.func39) (by kernel_rfl)
theorem h_laws_szInt64S : Has Try.prog (seatFn tab) 12 2 V_laws_szInt64S := has_of tabOk (hint := []) (fn := Try.f30) (by kernel_rfl) (show Try.prog.funcs[30]? = some Try.f30 from Try.func30) (by kernel_rfl)
theorem h_laws_szInt64SS : Has Try.prog (seatFn tab) 13 2 V_laws_szInt64SS := has_of tabOk (hint := []) (fn := Try.f21) (by kernel_rfl) (show Try.prog.funcs[21]? = some Try.f21 from Try.func21) (by kernel_rfl)
theorem h_laws_toInt64S : Has Try.prog (seatFn tab) 16 1 V_laws_toInt64S := has_of tabOk (hint := []) (fn := Try.f34) (by kernel_rfl) (show Try.prog.funcs[34]? = some Try.f34 from Try.func34) (by kernel_rfl)
theorem h_laws_toInt64SS : Has Try.prog (seatFn tab) 17 1 V_laws_toInt64SS := has_of tabOk (hint := [(20, 1)]) (fn := Try.f23) (by kernel_rfl) (show Try.prog.funcs[23]? = some Try.f23 from Try.func23) (by kernel_rfl)
theorem h_laws_eqInt64SS : Has Try.prog (seatFn tab) 20 2 V_laws_eqInt64SS := has_of tabOk (hint := []) (fn := Try.f26) (by kernel_rfl) (show Try.prog.funcs[26]? = some Try.f26 from Try.func26) (by kernel_rfl)
theorem h_laws_markInt64SS : Has Try.prog (seatFn tab) 21 2 V_laws_markInt64SS := has_of tabOk (hint := [(17, 1)]) (fn := Try.f27) (by kernel_rfl) (show Try.prog.funcs[27]? = some Try.f27 from Try.func27) (by kernel_rfl)
theorem h_Category_isCategory : Has Try.prog (seatFn tab) 24 1 V_Category_isCategory := has_of tabOk (hint := []) (fn := Try.f46) (by kernel_rfl) (show Try.prog.funcs[46]? = some Try.f46 from Try.func46) (by kernel_rfl)
theorem h_within : Has Try.prog (seatFn tab) 25 2 V_within := has_of tabOk (hint := []) (fn := Try.f78) (by kernel_rfl) (show Try.prog.funcs[78]? = some Try.f78 from Try.func78) (by kernel_rfl)
theorem h_Category_arrows : Has Try.prog (seatFn tab) 26 1 V_Category_arrows := has_of tabOk (hint := []) (fn := Try.f47) (by kernel_rfl) (show Try.prog.funcs[47]? = some Try.f47 from Try.func47) (by kernel_rfl)
theorem h_Category_isShape : Has Try.prog (seatFn tab) 30 1 V_Category_isShape := has_of tabOk (hint := []) (fn := Try.f72) (by kernel_rfl) (show Try.prog.funcs[72]? = some Try.f72 from Try.func72) (by kernel_rfl)
theorem h_Category_fault : Has Try.prog (seatFn tab) 31 1 V_Category_fault := has_of tabOk (hint := []) (fn := Try.f73) (by kernel_rfl) (show Try.prog.funcs[73]? = some Try.f73 from Try.func73) (by kernel_rfl)
theorem h_inRange : Has Try.prog (seatFn tab) 32 3 V_inRange := has_of tabOk (hint := []) (fn := Try.f83) (by kernel_rfl) (show Try.prog.funcs[83]? = some Try.f83 from Try.func83) (by kernel_rfl)
theorem h_Category_hom : Has Try.prog (seatFn tab) 33 3 V_Category_hom := has_of tabOk (hint := []) (fn := Try.f48) (by kernel_rfl) (show Try.prog.funcs[48]? = some Try.f48 from Try.func48) (by kernel_rfl)
theorem h_Category_then : Has Try.prog (seatFn tab) 34 3 V_Category_then := has_of tabOk (hint := []) (fn := Try.f49) (by kernel_rfl) (show Try.prog.funcs[49]? = some Try.f49 from Try.func49) (by kernel_rfl)
theorem h_spec_l01Map : Has Try.prog (seatFn tab) 37 2 V_spec_l01Map := has_of tabOk (hint := []) (fn := Try.f86) (by kernel_rfl) (show Try.prog.funcs[86]? = some Try.f86 from Try.func86) (by kernel_rfl)
theorem h_Category_ends : Has Try.prog (seatFn tab) 38 2 V_Category_ends := has_of tabOk (hint := []) (fn := Try.f87) (by kernel_rfl) (show Try.prog.funcs[87]? = some Try.f87 from Try.func87) (by kernel_rfl)
theorem h_laws_FnExactOrderMonoidal : Has Try.prog (seatFn tab) 91 2 V_laws_FnExactOrderMonoidal := has_of tabOk (hint := [(36, 1), (38, 1), (42, 2), (66, 1), (69, 1), (85, 1), (99, 2)]) (fn := Try.f7) (by kernel_rfl) (show Try.prog.funcs[7]? = some Try.f7 from Try.func7) (by kernel_rfl)
theorem h_laws_heldCategory : Has Try.prog (seatFn tab) 111 2 V_laws_heldCategory := has_of tabOk (hint := []) (fn := Try.f14) (by kernel_rfl) (show Try.prog.funcs[14]? = some Try.f14 from Try.func14) (by kernel_rfl)
theorem h_laws_heldInt64SS : Has Try.prog (seatFn tab) 150 2 V_laws_heldInt64SS := has_of tabOk (hint := []) (fn := Try.f40) (by kernel_rfl) (show Try.prog.funcs[40]? = some Try.f40 from Try.func40) (by kernel_rfl)
theorem h_spec_OrderMonoidal : Has Try.prog (seatFn tab) 217 2 V_spec_OrderMonoidal := has_of tabOk (hint := [(162, 3)]) (fn := Try.f22) (by kernel_rfl) (show Try.prog.funcs[22]? = some Try.f22 from Try.func22) (by kernel_rfl)
theorem h_OrderMonoidal : Has Try.prog (seatFn tab) 218 2 V_OrderMonoidal := has_of tabOk (hint := [(104, 2), (112, 2), (167, 3)]) (fn := Try.f24) (by kernel_rfl) (show Try.prog.funcs[24]? = some Try.f24 from Try.func24) (by kernel_rfl)
theorem h_laws_eqMonoidal : Has Try.prog (seatFn tab) 219 2 V_laws_eqMonoidal := has_of tabOk (hint := []) (fn := Try.f25) (by kernel_rfl) (show Try.prog.funcs[25]? = some Try.f25 from Try.func25) (by kernel_rfl)
theorem h_laws_markMonoidal : Has Try.prog (seatFn tab) 220 2 V_laws_markMonoidal := has_of tabOk (hint := [(8, 1), (12, 1), (16, 1), (2, 3)]) (fn := Try.f28) (by kernel_rfl) (show Try.prog.funcs[28]? = some Try.f28 from Try.func28) (by kernel_rfl)
theorem h_laws_heldMonoidal : Has Try.prog (seatFn tab) 221 2 V_laws_heldMonoidal := has_of tabOk (hint := []) (fn := Try.f29) (by kernel_rfl) (show Try.prog.funcs[29]? = some Try.f29 from Try.func29) (by kernel_rfl)
theorem h_spec_l01Own : Has Try.prog (seatFn tab) 259 1 V_spec_l01Own := has_of tabOk (hint := []) (fn := Try.f77) (by kernel_rfl) (show Try.prog.funcs[77]? = some Try.f77 from Try.func77) (by kernel_rfl)
theorem h_clone : Has Try.prog (seatFn tab) 261 1 V_clone := has_of tabOk (hint := []) (fn := Try.f81) (by kernel_rfl) (show Try.prog.funcs[81]? = some Try.f81 from Try.func81) (by kernel_rfl)
theorem h_spec_l02Hom : Has Try.prog (seatFn tab) 309 3 V_spec_l02Hom := has_of tabOk (hint := []) (fn := Try.f58) (by kernel_rfl) (show Try.prog.funcs[58]? = some Try.f58 from Try.func58) (by kernel_rfl)
theorem h_Category_table : Has Try.prog (seatFn tab) 353 2 V_Category_table := has_of tabOk (hint := []) (fn := Try.f51) (by kernel_rfl) (show Try.prog.funcs[51]? = some Try.f51 from Try.func51) (by kernel_rfl)
theorem h_spec_l03Preorder : Has Try.prog (seatFn tab) 356 1 V_spec_l03Preorder := has_of tabOk (hint := []) (fn := Try.f54) (by kernel_rfl) (show Try.prog.funcs[54]? = some Try.f54 from Try.func54) (by kernel_rfl)
theorem h_spec_l35Monoid : Has Try.prog (seatFn tab) 357 1 V_spec_l35Monoid := has_of tabOk (hint := []) (fn := Try.f55) (by kernel_rfl) (show Try.prog.funcs[55]? = some Try.f55 from Try.func55) (by kernel_rfl)
theorem h_spec_l03Poset : Has Try.prog (seatFn tab) 358 1 V_spec_l03Poset := has_of tabOk (hint := [(62, 3), (129, 3)]) (fn := Try.f56) (by kernel_rfl) (show Try.prog.funcs[56]? = some Try.f56 from Try.func56) (by kernel_rfl)
theorem h_spec_l02Fits : Has Try.prog (seatFn tab) 359 1 V_spec_l02Fits := has_of tabOk (hint := []) (fn := Try.f57) (by kernel_rfl) (show Try.prog.funcs[57]? = some Try.f57 from Try.func57) (by kernel_rfl)
theorem h_spec_l01Own2_o : Has Try.prog (seatFn tab) 360 1 V_spec_l01Own2_o := has_of tabOk (hint := [(17, 2), (18, 3)]) (fn := Try.f59) (by kernel_rfl) (show Try.prog.funcs[59]? = some Try.f59 from Try.func59) (by kernel_rfl)
theorem h_isPreorder : Has Try.prog (seatFn tab) 361 1 V_isPreorder := has_of tabOk (hint := []) (fn := Try.f60) (by kernel_rfl) (show Try.prog.funcs[60]? = some Try.f60 from Try.func60) (by kernel_rfl)
theorem h_isMonoid : Has Try.prog (seatFn tab) 362 1 V_isMonoid := has_of tabOk (hint := []) (fn := Try.f61) (by kernel_rfl) (show Try.prog.funcs[61]? = some Try.f61 from Try.func61) (by kernel_rfl)
theorem h_PreorderCategory : Has Try.prog (seatFn tab) 363 1 V_PreorderCategory := has_of tabOk (hint := [(72, 1)]) (fn := Try.f62) (by kernel_rfl) (show Try.prog.funcs[62]? = some Try.f62 from Try.func62) (by kernel_rfl)
theorem h_clones : Has Try.prog (seatFn tab) 364 1 V_clones := has_of tabOk (hint := [(17, 2), (18, 3)]) (fn := Try.f63) (by kernel_rfl) (show Try.prog.funcs[63]? = some Try.f63 from Try.func63) (by kernel_rfl)
theorem h_spec_l03Square : Has Try.prog (seatFn tab) 418 2 V_spec_l03Square := has_of tabOk (hint := []) (fn := Try.f75) (by kernel_rfl) (show Try.prog.funcs[75]? = some Try.f75 from Try.func75) (by kernel_rfl)
theorem h_spec_l35Whole : Has Try.prog (seatFn tab) 419 2 V_spec_l35Whole := has_of tabOk (hint := []) (fn := Try.f76) (by kernel_rfl) (show Try.prog.funcs[76]? = some Try.f76 from Try.func76) (by kernel_rfl)
theorem h_PreorderCategory_1 : Has Try.prog (seatFn tab) 420 4 V_PreorderCategory_1 := has_of tabOk (hint := []) (fn := Try.f79) (by kernel_rfl) (show Try.prog.funcs[79]? = some Try.f79 from Try.func79) (by kernel_rfl)
theorem h_index_pair_int64 : Has Try.prog (seatFn tab) 421 2 V_index_pair_int64 := has_of tabOk (hint := []) (fn := Try.f80) (by kernel_rfl) (show Try.prog.funcs[80]? = some Try.f80 from Try.func80) (by kernel_rfl)
theorem h_slices_Index_pair_int64_pair_int64 : Has Try.prog (seatFn tab) 430 2 V_slices_Index_pair_int64_pair_int64 := has_of tabOk (hint := []) (fn := Try.f88) (by kernel_rfl) (show Try.prog.funcs[88]? = some Try.f88 from Try.func88) (by kernel_rfl)
theorem r_HLaw : HLaw Try.prog (seatFn tab) := ⟨h_laws_szInt64S, h_laws_szInt64SS, h_laws_szCategory, h_laws_toInt64S, h_laws_toInt64SS, h_laws_toCategory, h_laws_eqInt64S, h_laws_eqInt64SS, h_laws_eqCategory⟩
theorem r_HMark : HMark Try.prog (seatFn tab) := ⟨h_laws_markInt64S, h_laws_markInt64SS, h_laws_markCategory, h_laws_heldInt64S⟩
theorem r_HCat : HCat Try.prog (seatFn tab) := ⟨h_Category_arrows, h_inRange, h_within, h_Category_ends, h_Category_then, h_Category_isShape, h_Category_fault, h_Category_isCategory⟩
open Classical in
theorem law_args (avs : List AV) (h1 : avs.length = ([(.sl (.sl .int)), (.sl (.sl .int))] : List Ty).length) (h2 : ∀ i (h : i < avs.length) (h' : i < ([(.sl (.sl .int)), (.sl (.sl .int))] : List Ty).length), ShpV ([(.sl (.sl .int)), (.sl (.sl .int))] : List Ty)[i] avs[i]) : OkM Try.prog (seatFn tab) 91 avs hempty 0 (fun r _ _ => r = bool true) := by
  obtain ⟨a0, a1, rfl⟩ := ListLen2 h1
  obtain ⟨r, rfl, rl_r, rr_r, rg_r⟩ := (h2 0 (by simp) (by simp)).intRowsR
  have rd_r : ReadII r := ⟨rl_r, rr_r⟩
  obtain ⟨t, rfl, rl_t, rr_t⟩ := (h2 1 (by simp) (by simp)).intRows
  have rd_t : ReadII t := ⟨rl_t, rr_t⟩
  exact law_OrderMonoidal r_HLaw r_HMark h_laws_heldInt64SS h_laws_heldCategory h_laws_eqMonoidal h_laws_markMonoidal h_laws_heldMonoidal h_laws_FnExactOrderMonoidal r rd_r t rd_t (fun b_r z_r b_t _ => OrderMonoidal_both r_HCat h_Category_hom h_Category_table h_slices_Index_pair_int64_pair_int64 h_index_pair_int64 h_PreorderCategory_1 h_isPreorder h_isMonoid h_PreorderCategory h_clone h_clones h_OrderMonoidal h_spec_l01Map h_spec_l03Square h_spec_l03Preorder h_spec_l35Whole h_spec_l35Monoid h_spec_l03Poset h_spec_l02Fits h_spec_l02Hom h_spec_l01Own h_spec_l01Own2_o h_spec_OrderMonoidal r t rg_r b_r z_r b_t)
theorem own : ownKnob Try.prog.godebug = none := by kernel_rfl
theorem laidOut : laidOutB Try.prog = true := by kernel_rfl
set_option maxRecDepth 100000 in
theorem lifted (os : Os) (started : os.Started) (H : Type) (enc : TypeId × Value → H) :
    ReturnsInHanded {} Try.checked os 7 .any (Rows.fnExactOrderMonoidalSpec.pre6 enc Try.prog Try.f7 Rows.fnExactOrderMonoidalRow.domain false) (Rows.fnExactOrderMonoidalSpec.post enc Try.prog Try.f7 false true false false) := by
  refine returnsInHanded_of_change (C := Try.checked) own started (by kernel_rfl) Try.func7
    (ChangeSpec.witness6 (enc := enc) (C := Try.checked) false ⟨#[], #[.slice none 0 0, .slice none 0 0], []⟩ 8 (by kernel_rfl) (by kernel_rfl) (by kernel_rfl) (by kernel_rfl)) ?_
  intro W base args ds gs before hval hW _ _
  exact row_calls (P := Try.prog) (ν := seatFn tab) (fn := Try.f7) (s := Rows.fnExactOrderMonoidalSpec) (id := 91) (tb := Try.f7.resultTypes.getD 0 0) (m := 8) (tys := [(.sl (.sl .int)), (.sl (.sl .int))]) laidOut (by kernel_rfl) (by kernel_rfl) (by kernel_rfl) rfl (fun ds hd => by obtain ⟨_, _, rfl⟩ := (ListLen2 hd); rfl) (by kernel_rfl) rfl law_args W base args ds gs before hval hW
/-- For every input: the statement's function returns true. -/
theorem holds : Rows.FnExactOrderMonoidalSaid :=
  OpenClaim.holds_of_wide 7 Try.f7 rfl rfl rfl rfl rfl rfl rfl ⟨rfl, rfl, rfl, rfl, rfl⟩ rfl rfl rfl rfl rfl (by kernel_rfl) Try.func7 (by kernel_rfl)
    (of_decide_eq_true (by kernel_rfl)) (by unfold Func.isWrapper; first | (rw [if_pos (by decide +kernel)]; kernel_rfl) | (rw [if_neg (by decide +kernel)]; exact ⟨rfl, rfl⟩))
    (fun os started H enc _ => lifted os started H enc)
end Go.Proofs.Ytbalggpkmaabmaa.FnExactOrderMonoidal
