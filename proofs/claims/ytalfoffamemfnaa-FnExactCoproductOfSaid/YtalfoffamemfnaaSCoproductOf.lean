/-
  For every input the statement on CoproductOf answers true: the seat's functions in the layer's second form, each checked by the kernel against the translation, then the row. No condition.
-/
import Derived.Test.YtalfoffamemfnaaRows
import Derived.Test.YtalfoffamemfnaaAvLCoproductOf
import Derived.Test.YtalfoffamemfnaaAvT4
import Derived.Test.YtalfoffamemfnaaAvO1
import Derived.ProofKit
namespace Go.Proofs.Ytalfoffamemfnaa.FnExactCoproductOf
open Go.Av
def tab : List (Nat × Nat) := [(3, 56), (4, 92), (5, 78), (6, 46), (7, 3), (8, 138), (9, 5), (10, 16), (11, 139), (12, 7), (13, 8), (14, 9), (15, 10), (16, 11), (17, 116), (18, 222), (19, 118), (20, 223), (21, 120), (22, 212), (23, 190), (24, 191), (25, 112), (26, 113), (27, 111), (28, 12), (29, 13), (30, 245), (31, 247), (32, 17), (33, 18), (34, 277), (35, 20), (36, 21), (37, 256), (38, 257), (39, 303), (40, 304), (41, 305), (42, 251), (43, 306), (44, 252), (45, 307), (46, 308), (47, 22), (48, 24), (49, 150), (50, 37), (51, 25), (52, 26), (53, 389), (54, 34), (55, 390), (56, 315), (57, 378), (58, 319), (59, 400), (60, 259), (61, 261), (62, 353), (63, 377), (64, 401), (65, 402), (66, 28), (67, 29), (68, 30), (69, 31), (70, 32), (71, 322), (72, 309), (73, 253), (74, 426), (75, 427), (76, 35), (77, 36), (78, 38), (79, 33)]
theorem tabOk : ∀ f id, seatNum tab f = some id → seatFn tab id = f := seat_inv (by decide +kernel)
theorem h_laws_szCategory : Has Try.prog (seatFn tab) 3 2 V_laws_szCategory := has_of tabOk (hint := []) (fn := Try.f7) (by kernel_rfl) (show Try.prog.funcs[7]? = some Try.f7 from Try.func7) (by kernel_rfl)
theorem h_laws_toCategory : Has Try.prog (seatFn tab) 5 1 V_laws_toCategory := has_of tabOk (hint := [(9, 1), (13, 1), (17, 1), (21, 1)]) (fn := Try.f9) (by kernel_rfl) (show Try.prog.funcs[9]? = some Try.f9 from Try.func9) (by kernel_rfl)
theorem h_laws_eqInt64S : Has Try.prog (seatFn tab) 7 2 V_laws_eqInt64S := has_of tabOk (hint := []) (fn := Try.f12) (by kernel_rfl) (show Try.prog.funcs[12]? = some Try.f12 from Try.func12) (by kernel_rfl)
theorem h_laws_eqCategory : Has Try.prog (seatFn tab) 8 2 V_laws_eqCategory := has_of tabOk (hint := []) (fn := Try.f13) (by kernel_rfl) (show Try.prog.funcs[13]? = some Try.f13 from Try.func13) (by kernel_rfl)
theorem h_laws_szInt64S : Has Try.prog (seatFn tab) 12 2 V_laws_szInt64S := has_of tabOk (hint := []) (fn := Try.f28) (by kernel_rfl) (show Try.prog.funcs[28]? = some Try.f28 from Try.func28) (by kernel_rfl)
theorem h_laws_szInt64SS : Has Try.prog (seatFn tab) 13 2 V_laws_szInt64SS := has_of tabOk (hint := []) (fn := Try.f29) (by kernel_rfl) (show Try.prog.funcs[29]? = some Try.f29 from Try.func29) (by kernel_rfl)
theorem h_laws_toInt64S : Has Try.prog (seatFn tab) 16 1 V_laws_toInt64S := has_of tabOk (hint := []) (fn := Try.f10) (by kernel_rfl) (show Try.prog.funcs[10]? = some Try.f10 from Try.func10) (by kernel_rfl)
theorem h_laws_toInt64SS : Has Try.prog (seatFn tab) 17 1 V_laws_toInt64SS := has_of tabOk (hint := [(20, 1)]) (fn := Try.f32) (by kernel_rfl) (show Try.prog.funcs[32]? = some Try.f32 from Try.func32) (by kernel_rfl)
theorem h_laws_eqInt64SS : Has Try.prog (seatFn tab) 20 2 V_laws_eqInt64SS := has_of tabOk (hint := []) (fn := Try.f35) (by kernel_rfl) (show Try.prog.funcs[35]? = some Try.f35 from Try.func35) (by kernel_rfl)
theorem h_spec_l02Is : Has Try.prog (seatFn tab) 22 1 V_spec_l02Is := has_of tabOk (hint := []) (fn := Try.f47) (by kernel_rfl) (show Try.prog.funcs[47]? = some Try.f47 from Try.func47) (by kernel_rfl)
theorem h_Category_isCategory : Has Try.prog (seatFn tab) 24 1 V_Category_isCategory := has_of tabOk (hint := []) (fn := Try.f48) (by kernel_rfl) (show Try.prog.funcs[48]? = some Try.f48 from Try.func48) (by kernel_rfl)
theorem h_within : Has Try.prog (seatFn tab) 25 2 V_within := has_of tabOk (hint := []) (fn := Try.f51) (by kernel_rfl) (show Try.prog.funcs[51]? = some Try.f51 from Try.func51) (by kernel_rfl)
theorem h_Category_arrows : Has Try.prog (seatFn tab) 26 1 V_Category_arrows := has_of tabOk (hint := []) (fn := Try.f52) (by kernel_rfl) (show Try.prog.funcs[52]? = some Try.f52 from Try.func52) (by kernel_rfl)
theorem h_spec_IsShape : Has Try.prog (seatFn tab) 28 1 V_spec_IsShape := has_of tabOk (hint := []) (fn := Try.f66) (by kernel_rfl) (show Try.prog.funcs[66]? = some Try.f66 from Try.func66) (by kernel_rfl)
theorem h_spec_l02Fault : Has Try.prog (seatFn tab) 29 1 V_spec_l02Fault := has_of tabOk (hint := []) (fn := Try.f67) (by kernel_rfl) (show Try.prog.funcs[67]? = some Try.f67 from Try.func67) (by kernel_rfl)
theorem h_Category_isShape : Has Try.prog (seatFn tab) 30 1 V_Category_isShape := has_of tabOk (hint := []) (fn := Try.f68) (by kernel_rfl) (show Try.prog.funcs[68]? = some Try.f68 from Try.func68) (by kernel_rfl)
theorem h_Category_fault : Has Try.prog (seatFn tab) 31 1 V_Category_fault := has_of tabOk (hint := []) (fn := Try.f69) (by kernel_rfl) (show Try.prog.funcs[69]? = some Try.f69 from Try.func69) (by kernel_rfl)
theorem h_inRange : Has Try.prog (seatFn tab) 32 3 V_inRange := has_of tabOk (hint := []) (fn := Try.f70) (by kernel_rfl) (show Try.prog.funcs[70]? = some Try.f70 from Try.func70) (by kernel_rfl)
theorem h_Category_hom : Has Try.prog (seatFn tab) 33 3 V_Category_hom := has_of tabOk (hint := []) (fn := Try.f79) (by kernel_rfl) (show Try.prog.funcs[79]? = some Try.f79 from Try.func79) (by kernel_rfl)
theorem h_Category_then : Has Try.prog (seatFn tab) 34 3 V_Category_then := has_of tabOk (hint := []) (fn := Try.f54) (by kernel_rfl) (show Try.prog.funcs[54]? = some Try.f54 from Try.func54) (by kernel_rfl)
theorem h_spec_l01In : Has Try.prog (seatFn tab) 35 3 V_spec_l01In := has_of tabOk (hint := []) (fn := Try.f76) (by kernel_rfl) (show Try.prog.funcs[76]? = some Try.f76 from Try.func76) (by kernel_rfl)
theorem h_spec_l02Ends : Has Try.prog (seatFn tab) 36 3 V_spec_l02Ends := has_of tabOk (hint := []) (fn := Try.f77) (by kernel_rfl) (show Try.prog.funcs[77]? = some Try.f77 from Try.func77) (by kernel_rfl)
theorem h_spec_l01Map : Has Try.prog (seatFn tab) 37 2 V_spec_l01Map := has_of tabOk (hint := []) (fn := Try.f50) (by kernel_rfl) (show Try.prog.funcs[50]? = some Try.f50 from Try.func50) (by kernel_rfl)
theorem h_Category_ends : Has Try.prog (seatFn tab) 38 2 V_Category_ends := has_of tabOk (hint := []) (fn := Try.f78) (by kernel_rfl) (show Try.prog.funcs[78]? = some Try.f78 from Try.func78) (by kernel_rfl)
theorem h_laws_FnExactCoproductOf : Has Try.prog (seatFn tab) 78 3 V_laws_FnExactCoproductOf := has_of tabOk (hint := []) (fn := Try.f5) (by kernel_rfl) (show Try.prog.funcs[5]? = some Try.f5 from Try.func5) (by kernel_rfl)
theorem h_spec_CoproductOf : Has Try.prog (seatFn tab) 190 3 V_spec_CoproductOf := has_of tabOk (hint := []) (fn := Try.f23) (by kernel_rfl) (show Try.prog.funcs[23]? = some Try.f23 from Try.func23) (by kernel_rfl)
theorem h_CoproductOf : Has Try.prog (seatFn tab) 191 3 V_CoproductOf := has_of tabOk (hint := [(22, 4)]) (fn := Try.f24) (by kernel_rfl) (show Try.prog.funcs[24]? = some Try.f24 from Try.func24) (by kernel_rfl)
theorem h_spec_l03Op : Has Try.prog (seatFn tab) 251 1 V_spec_l03Op := has_of tabOk (hint := [(49, 3)]) (fn := Try.f42) (by kernel_rfl) (show Try.prog.funcs[42]? = some Try.f42 from Try.func42) (by kernel_rfl)
theorem h_opposite : Has Try.prog (seatFn tab) 252 1 V_opposite := has_of tabOk (hint := [(25, 1)]) (fn := Try.f44) (by kernel_rfl) (show Try.prog.funcs[44]? = some Try.f44 from Try.func44) (by kernel_rfl)
theorem h_spec_l02Then : Has Try.prog (seatFn tab) 253 3 V_spec_l02Then := has_of tabOk (hint := []) (fn := Try.f73) (by kernel_rfl) (show Try.prog.funcs[73]? = some Try.f73 from Try.func73) (by kernel_rfl)
theorem h_spec_l01Own : Has Try.prog (seatFn tab) 259 1 V_spec_l01Own := has_of tabOk (hint := []) (fn := Try.f60) (by kernel_rfl) (show Try.prog.funcs[60]? = some Try.f60 from Try.func60) (by kernel_rfl)
theorem h_clone : Has Try.prog (seatFn tab) 261 1 V_clone := has_of tabOk (hint := []) (fn := Try.f61) (by kernel_rfl) (show Try.prog.funcs[61]? = some Try.f61 from Try.func61) (by kernel_rfl)
theorem h_spec_l02Objects : Has Try.prog (seatFn tab) 303 2 V_spec_l02Objects := has_of tabOk (hint := []) (fn := Try.f39) (by kernel_rfl) (show Try.prog.funcs[39]? = some Try.f39 from Try.func39) (by kernel_rfl)
theorem h_spec_l13Triple : Has Try.prog (seatFn tab) 304 1 V_spec_l13Triple := has_of tabOk (hint := []) (fn := Try.f40) (by kernel_rfl) (show Try.prog.funcs[40]? = some Try.f40 from Try.func40) (by kernel_rfl)
theorem h_spec_l13Product : Has Try.prog (seatFn tab) 305 3 V_spec_l13Product := has_of tabOk (hint := []) (fn := Try.f41) (by kernel_rfl) (show Try.prog.funcs[41]? = some Try.f41 from Try.func41) (by kernel_rfl)
theorem h_objectCode : Has Try.prog (seatFn tab) 306 2 V_objectCode := has_of tabOk (hint := []) (fn := Try.f43) (by kernel_rfl) (show Try.prog.funcs[43]? = some Try.f43 from Try.func43) (by kernel_rfl)
theorem h_Category_products : Has Try.prog (seatFn tab) 307 3 V_Category_products := has_of tabOk (hint := []) (fn := Try.f45) (by kernel_rfl) (show Try.prog.funcs[45]? = some Try.f45 from Try.func45) (by kernel_rfl)
theorem h_spans_triple : Has Try.prog (seatFn tab) 308 1 V_spans_triple := has_of tabOk (hint := []) (fn := Try.f46) (by kernel_rfl) (show Try.prog.funcs[46]? = some Try.f46 from Try.func46) (by kernel_rfl)
theorem h_spec_l02Hom : Has Try.prog (seatFn tab) 309 3 V_spec_l02Hom := has_of tabOk (hint := []) (fn := Try.f72) (by kernel_rfl) (show Try.prog.funcs[72]? = some Try.f72 from Try.func72) (by kernel_rfl)
theorem h_spec_l13First : Has Try.prog (seatFn tab) 319 2 V_spec_l13First := has_of tabOk (hint := []) (fn := Try.f58) (by kernel_rfl) (show Try.prog.funcs[58]? = some Try.f58 from Try.func58) (by kernel_rfl)
theorem h_spec_l13Maps : Has Try.prog (seatFn tab) 322 3 V_spec_l13Maps := has_of tabOk (hint := []) (fn := Try.f71) (by kernel_rfl) (show Try.prog.funcs[71]? = some Try.f71 from Try.func71) (by kernel_rfl)
theorem h_Category_table : Has Try.prog (seatFn tab) 353 2 V_Category_table := has_of tabOk (hint := []) (fn := Try.f62) (by kernel_rfl) (show Try.prog.funcs[62]? = some Try.f62 from Try.func62) (by kernel_rfl)
theorem h_opposite_1 : Has Try.prog (seatFn tab) 377 3 V_opposite_1 := has_of tabOk (hint := []) (fn := Try.f63) (by kernel_rfl) (show Try.prog.funcs[63]? = some Try.f63 from Try.func63) (by kernel_rfl)
theorem h_spec_l13Squares : Has Try.prog (seatFn tab) 400 5 V_spec_l13Squares := has_of tabOk (hint := []) (fn := Try.f59) (by kernel_rfl) (show Try.prog.funcs[59]? = some Try.f59 from Try.func59) (by kernel_rfl)
theorem h_Category_products_1 : Has Try.prog (seatFn tab) 401 2 V_Category_products_1 := has_of tabOk (hint := []) (fn := Try.f64) (by kernel_rfl) (show Try.prog.funcs[64]? = some Try.f64 from Try.func64) (by kernel_rfl)
theorem h_spans_first : Has Try.prog (seatFn tab) 402 1 V_spans_first := has_of tabOk (hint := []) (fn := Try.f65) (by kernel_rfl) (show Try.prog.funcs[65]? = some Try.f65 from Try.func65) (by kernel_rfl)
theorem h_spans_from : Has Try.prog (seatFn tab) 426 2 V_spans_from := has_of tabOk (hint := []) (fn := Try.f74) (by kernel_rfl) (show Try.prog.funcs[74]? = some Try.f74 from Try.func74) (by kernel_rfl)
theorem h_spans_isUniversal : Has Try.prog (seatFn tab) 427 3 V_spans_isUniversal := has_of tabOk (hint := []) (fn := Try.f75) (by kernel_rfl) (show Try.prog.funcs[75]? = some Try.f75 from Try.func75) (by kernel_rfl)
theorem r_HLaw : HLaw Try.prog (seatFn tab) := ⟨h_laws_szInt64S, h_laws_szInt64SS, h_laws_szCategory, h_laws_toInt64S, h_laws_toInt64SS, h_laws_toCategory, h_laws_eqInt64S, h_laws_eqInt64SS, h_laws_eqCategory⟩
theorem r_HCat : HCat Try.prog (seatFn tab) := ⟨h_Category_arrows, h_inRange, h_within, h_Category_ends, h_Category_then, h_Category_isShape, h_Category_fault, h_Category_isCategory⟩
theorem r_HSpan : HSpan Try.prog (seatFn tab) := ⟨h_Category_hom, h_Category_then, h_spans_from, h_spans_isUniversal, h_spans_first, h_spans_triple⟩
theorem r_HOpp : HOpp Try.prog (seatFn tab) := ⟨h_Category_arrows, h_Category_then, h_clone, h_Category_table, h_opposite_1, h_opposite⟩
theorem r_HSpec : HSpec Try.prog (seatFn tab) := ⟨h_spec_l01In, h_spec_l01Map, h_spec_l02Ends, h_spec_IsShape, h_spec_l02Fault, h_spec_l02Is⟩
theorem r_HFirst : HFirst Try.prog (seatFn tab) := ⟨h_spec_l02Hom, h_spec_l02Then, h_spec_l13Maps, h_spec_l13First⟩
open Classical in
theorem law_args (avs : List AV) (h1 : avs.length = ([catTy, .int, .int] : List Ty).length) (h2 : ∀ i (h : i < avs.length) (h' : i < ([catTy, .int, .int] : List Ty).length), ShpV ([catTy, .int, .int] : List Ty)[i] avs[i]) : OkM Try.prog (seatFn tab) 78 avs hempty 0 (fun r _ _ => r = bool true) := by
  obtain ⟨a0, a1, a2, rfl⟩ := ListLen3 h1
  obtain ⟨c, rfl, rd_c, _⟩ := (h2 0 (by simp) (by simp)).cat
  obtain ⟨x, rfl, _⟩ := (h2 1 (by simp) (by simp)).int
  obtain ⟨y, rfl, _⟩ := (h2 2 (by simp) (by simp)).int
  exact law_CoproductOf r_HLaw h_laws_FnExactCoproductOf c rd_c x y (fun b => CoproductOf_both r_HCat r_HSpan r_HOpp h_Category_products h_Category_products_1 h_objectCode h_CoproductOf r_HSpec r_HFirst h_spec_l13Squares h_spec_l13Product h_spec_l13Triple h_spec_l02Objects h_spec_l01Own h_spec_l03Op h_spec_CoproductOf c b.toSmall x y)
theorem own : ownKnob Try.prog.godebug = none := by kernel_rfl
theorem laidOut : laidOutB Try.prog = true := by kernel_rfl
set_option maxRecDepth 100000 in
theorem lifted (os : Os) (started : os.Started) (H : Type) (enc : TypeId × Value → H) :
    ReturnsInHanded {} Try.checked os 5 .any (Rows.fnExactCoproductOfSpec.pre6 enc Try.prog Try.f5 Rows.fnExactCoproductOfRow.domain false) (Rows.fnExactCoproductOfSpec.post enc Try.prog Try.f5 false true false false) := by
  refine returnsInHanded_of_change (C := Try.checked) own started (by kernel_rfl) Try.func5
    (ChangeSpec.witness6 (enc := enc) (C := Try.checked) false ⟨#[], #[.agg #[.int .i64 0, .slice none 0 0, .slice none 0 0, .slice none 0 0, .slice none 0 0], .int .i64 0, .int .i64 0], []⟩ 8 (by kernel_rfl) (by kernel_rfl) (by kernel_rfl) (by kernel_rfl)) ?_
  intro W base args ds gs before hval hW _ _
  exact row_calls (P := Try.prog) (ν := seatFn tab) (fn := Try.f5) (s := Rows.fnExactCoproductOfSpec) (id := 78) (tb := Try.f5.resultTypes.getD 0 0) (m := 8) (tys := [catTy, .int, .int]) laidOut (by kernel_rfl) (by kernel_rfl) (by kernel_rfl) rfl (fun ds hd => by obtain ⟨_, _, _, rfl⟩ := (ListLen3 hd); rfl) (by kernel_rfl) rfl law_args W base args ds gs before hval hW
/-- For every input: the statement's function returns true. -/
theorem holds : Rows.FnExactCoproductOfSaid :=
  OpenClaim.holds_of_wide 5 Try.f5 rfl rfl rfl rfl rfl rfl rfl ⟨rfl, rfl, rfl, rfl, rfl⟩ rfl rfl rfl rfl rfl (by kernel_rfl) Try.func5 (by kernel_rfl)
    (of_decide_eq_true (by kernel_rfl)) (by unfold Func.isWrapper; first | (rw [if_pos (by decide +kernel)]; kernel_rfl) | (rw [if_neg (by decide +kernel)]; exact ⟨rfl, rfl⟩))
    (fun os started H enc _ => lifted os started H enc)
end Go.Proofs.Ytalfoffamemfnaa.FnExactCoproductOf
