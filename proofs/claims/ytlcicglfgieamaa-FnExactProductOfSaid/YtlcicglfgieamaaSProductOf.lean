/-
  For every input the statement on ProductOf answers true: the seat's functions in the layer's second form, each checked by the kernel against the translation, then the row. No condition.
-/
import Derived.Test.YtlcicglfgieamaaRows
import Derived.Test.YtlcicglfgieamaaAvLProductOf
import Derived.Test.YtlcicglfgieamaaAvS5
import Derived.Test.YtlcicglfgieamaaAvO1
import Derived.ProofKit
namespace Go.Proofs.Ytlcicglfgieamaa.FnExactProductOf
open Go.Av
def tab : List (Nat × Nat) := [(3, 55), (4, 66), (5, 68), (6, 69), (7, 70), (8, 71), (9, 72), (10, 78), (11, 80), (12, 90), (13, 91), (14, 95), (15, 3), (16, 136), (17, 5), (18, 137), (19, 7), (20, 8), (21, 9), (22, 10), (23, 11), (24, 163), (25, 164), (26, 167), (27, 168), (28, 111), (29, 169), (30, 170), (31, 171), (32, 172), (33, 173), (34, 174), (35, 175), (36, 176), (37, 190), (38, 191), (39, 194), (40, 195), (41, 215), (42, 216), (43, 13), (44, 217), (45, 17), (46, 218), (47, 219), (48, 20), (49, 21), (50, 220), (51, 221), (52, 228), (53, 229), (54, 12), (55, 22), (56, 275), (57, 251), (58, 16), (59, 24), (60, 252), (61, 276), (62, 303), (63, 304), (64, 305), (65, 306), (66, 307), (67, 308), (68, 312), (69, 313), (70, 314), (71, 315), (72, 316), (73, 150), (74, 317), (75, 318), (76, 319), (77, 320), (78, 18), (79, 38), (80, 321), (81, 245), (82, 322), (83, 33), (84, 34), (85, 323), (86, 324), (87, 336), (88, 337), (89, 351), (90, 26), (91, 352), (92, 353), (93, 354), (94, 355), (95, 356), (96, 357), (97, 358), (98, 359), (99, 309), (100, 360), (101, 361), (102, 362), (103, 363), (104, 364), (105, 370), (106, 28), (107, 29), (108, 259), (109, 30), (110, 31), (111, 261), (112, 377), (113, 37), (114, 400), (115, 25), (116, 401), (117, 402), (118, 404), (119, 253), (120, 405), (121, 406), (122, 409), (123, 410), (124, 380), (125, 246), (126, 417), (127, 418), (128, 419), (129, 420), (130, 421), (131, 35), (132, 36), (133, 32), (134, 426), (135, 427), (136, 428), (137, 430)]
theorem tabOk : ∀ f id, seatNum tab f = some id → seatFn tab id = f := seat_inv (by decide +kernel)
theorem h_laws_szCategory : Has Try.prog (seatFn tab) 3 2 V_laws_szCategory := has_of tabOk (hint := []) (fn := Try.f15) (by kernel_rfl) (show Try.prog.funcs[15]? = some Try.f15 from Try.func15) (by kernel_rfl)
theorem h_laws_toCategory : Has Try.prog (seatFn tab) 5 1 V_laws_toCategory := has_of tabOk (hint := [(9, 1), (13, 1), (17, 1), (21, 1)]) (fn := Try.f17) (by kernel_rfl) (show Try.prog.funcs[17]? = some Try.f17 from Try.func17) (by kernel_rfl)
theorem h_laws_eqInt64S : Has Try.prog (seatFn tab) 7 2 V_laws_eqInt64S := has_of tabOk (hint := []) (fn := Try.f19) (by kernel_rfl) (show Try.prog.funcs[19]? = some Try.f19 from Try.func19) (by kernel_rfl)
theorem h_laws_eqCategory : Has Try.prog (seatFn tab) 8 2 V_laws_eqCategory := has_of tabOk (hint := []) (fn := Try.f20) (by kernel_rfl) (show Try.prog.funcs[20]? = some Try.f20 from Try.func20) (by kernel_rfl)
theorem h_laws_szInt64S : Has Try.prog (seatFn tab) 12 2 V_laws_szInt64S := has_of tabOk (hint := []) (fn := Try.f54) (by kernel_rfl) (show Try.prog.funcs[54]? = some Try.f54 from Try.func54) (by kernel_rfl)
theorem h_laws_szInt64SS : Has Try.prog (seatFn tab) 13 2 V_laws_szInt64SS := has_of tabOk (hint := []) (fn := Try.f43) (by kernel_rfl) (show Try.prog.funcs[43]? = some Try.f43 from Try.func43) (by kernel_rfl)
theorem h_laws_toInt64S : Has Try.prog (seatFn tab) 16 1 V_laws_toInt64S := has_of tabOk (hint := []) (fn := Try.f58) (by kernel_rfl) (show Try.prog.funcs[58]? = some Try.f58 from Try.func58) (by kernel_rfl)
theorem h_laws_toInt64SS : Has Try.prog (seatFn tab) 17 1 V_laws_toInt64SS := has_of tabOk (hint := [(20, 1)]) (fn := Try.f45) (by kernel_rfl) (show Try.prog.funcs[45]? = some Try.f45 from Try.func45) (by kernel_rfl)
theorem h_laws_eqInt64SS : Has Try.prog (seatFn tab) 20 2 V_laws_eqInt64SS := has_of tabOk (hint := []) (fn := Try.f48) (by kernel_rfl) (show Try.prog.funcs[48]? = some Try.f48 from Try.func48) (by kernel_rfl)
theorem h_spec_l02Is : Has Try.prog (seatFn tab) 22 1 V_spec_l02Is := has_of tabOk (hint := []) (fn := Try.f55) (by kernel_rfl) (show Try.prog.funcs[55]? = some Try.f55 from Try.func55) (by kernel_rfl)
theorem h_Category_isCategory : Has Try.prog (seatFn tab) 24 1 V_Category_isCategory := has_of tabOk (hint := []) (fn := Try.f59) (by kernel_rfl) (show Try.prog.funcs[59]? = some Try.f59 from Try.func59) (by kernel_rfl)
theorem h_within : Has Try.prog (seatFn tab) 25 2 V_within := has_of tabOk (hint := []) (fn := Try.f115) (by kernel_rfl) (show Try.prog.funcs[115]? = some Try.f115 from Try.func115) (by kernel_rfl)
theorem h_Category_arrows : Has Try.prog (seatFn tab) 26 1 V_Category_arrows := has_of tabOk (hint := []) (fn := Try.f90) (by kernel_rfl) (show Try.prog.funcs[90]? = some Try.f90 from Try.func90) (by kernel_rfl)
theorem h_spec_IsShape : Has Try.prog (seatFn tab) 28 1 V_spec_IsShape := has_of tabOk (hint := []) (fn := Try.f106) (by kernel_rfl) (show Try.prog.funcs[106]? = some Try.f106 from Try.func106) (by kernel_rfl)
theorem h_spec_l02Fault : Has Try.prog (seatFn tab) 29 1 V_spec_l02Fault := has_of tabOk (hint := []) (fn := Try.f107) (by kernel_rfl) (show Try.prog.funcs[107]? = some Try.f107 from Try.func107) (by kernel_rfl)
theorem h_Category_isShape : Has Try.prog (seatFn tab) 30 1 V_Category_isShape := has_of tabOk (hint := []) (fn := Try.f109) (by kernel_rfl) (show Try.prog.funcs[109]? = some Try.f109 from Try.func109) (by kernel_rfl)
theorem h_Category_fault : Has Try.prog (seatFn tab) 31 1 V_Category_fault := has_of tabOk (hint := []) (fn := Try.f110) (by kernel_rfl) (show Try.prog.funcs[110]? = some Try.f110 from Try.func110) (by kernel_rfl)
theorem h_inRange : Has Try.prog (seatFn tab) 32 3 V_inRange := has_of tabOk (hint := []) (fn := Try.f133) (by kernel_rfl) (show Try.prog.funcs[133]? = some Try.f133 from Try.func133) (by kernel_rfl)
theorem h_Category_hom : Has Try.prog (seatFn tab) 33 3 V_Category_hom := has_of tabOk (hint := []) (fn := Try.f83) (by kernel_rfl) (show Try.prog.funcs[83]? = some Try.f83 from Try.func83) (by kernel_rfl)
theorem h_Category_then : Has Try.prog (seatFn tab) 34 3 V_Category_then := has_of tabOk (hint := []) (fn := Try.f84) (by kernel_rfl) (show Try.prog.funcs[84]? = some Try.f84 from Try.func84) (by kernel_rfl)
theorem h_spec_l01In : Has Try.prog (seatFn tab) 35 3 V_spec_l01In := has_of tabOk (hint := []) (fn := Try.f131) (by kernel_rfl) (show Try.prog.funcs[131]? = some Try.f131 from Try.func131) (by kernel_rfl)
theorem h_spec_l02Ends : Has Try.prog (seatFn tab) 36 3 V_spec_l02Ends := has_of tabOk (hint := []) (fn := Try.f132) (by kernel_rfl) (show Try.prog.funcs[132]? = some Try.f132 from Try.func132) (by kernel_rfl)
theorem h_spec_l01Map : Has Try.prog (seatFn tab) 37 2 V_spec_l01Map := has_of tabOk (hint := []) (fn := Try.f113) (by kernel_rfl) (show Try.prog.funcs[113]? = some Try.f113 from Try.func113) (by kernel_rfl)
theorem h_Category_ends : Has Try.prog (seatFn tab) 38 2 V_Category_ends := has_of tabOk (hint := []) (fn := Try.f79) (by kernel_rfl) (show Try.prog.funcs[79]? = some Try.f79 from Try.func79) (by kernel_rfl)
theorem h_laws_FnExactProductOf : Has Try.prog (seatFn tab) 66 3 V_laws_FnExactProductOf := has_of tabOk (hint := []) (fn := Try.f4) (by kernel_rfl) (show Try.prog.funcs[4]? = some Try.f4 from Try.func4) (by kernel_rfl)
theorem h_spec_ProductOf : Has Try.prog (seatFn tab) 163 3 V_spec_ProductOf := has_of tabOk (hint := []) (fn := Try.f24) (by kernel_rfl) (show Try.prog.funcs[24]? = some Try.f24 from Try.func24) (by kernel_rfl)
theorem h_ProductOf : Has Try.prog (seatFn tab) 164 3 V_ProductOf := has_of tabOk (hint := []) (fn := Try.f25) (by kernel_rfl) (show Try.prog.funcs[25]? = some Try.f25 from Try.func25) (by kernel_rfl)
theorem h_spec_l02Then : Has Try.prog (seatFn tab) 253 3 V_spec_l02Then := has_of tabOk (hint := []) (fn := Try.f119) (by kernel_rfl) (show Try.prog.funcs[119]? = some Try.f119 from Try.func119) (by kernel_rfl)
theorem h_spec_l02Objects : Has Try.prog (seatFn tab) 303 2 V_spec_l02Objects := has_of tabOk (hint := []) (fn := Try.f62) (by kernel_rfl) (show Try.prog.funcs[62]? = some Try.f62 from Try.func62) (by kernel_rfl)
theorem h_spec_l13Triple : Has Try.prog (seatFn tab) 304 1 V_spec_l13Triple := has_of tabOk (hint := []) (fn := Try.f63) (by kernel_rfl) (show Try.prog.funcs[63]? = some Try.f63 from Try.func63) (by kernel_rfl)
theorem h_spec_l13Product : Has Try.prog (seatFn tab) 305 3 V_spec_l13Product := has_of tabOk (hint := []) (fn := Try.f64) (by kernel_rfl) (show Try.prog.funcs[64]? = some Try.f64 from Try.func64) (by kernel_rfl)
theorem h_objectCode : Has Try.prog (seatFn tab) 306 2 V_objectCode := has_of tabOk (hint := []) (fn := Try.f65) (by kernel_rfl) (show Try.prog.funcs[65]? = some Try.f65 from Try.func65) (by kernel_rfl)
theorem h_Category_products : Has Try.prog (seatFn tab) 307 3 V_Category_products := has_of tabOk (hint := []) (fn := Try.f66) (by kernel_rfl) (show Try.prog.funcs[66]? = some Try.f66 from Try.func66) (by kernel_rfl)
theorem h_spans_triple : Has Try.prog (seatFn tab) 308 1 V_spans_triple := has_of tabOk (hint := []) (fn := Try.f67) (by kernel_rfl) (show Try.prog.funcs[67]? = some Try.f67 from Try.func67) (by kernel_rfl)
theorem h_spec_l02Hom : Has Try.prog (seatFn tab) 309 3 V_spec_l02Hom := has_of tabOk (hint := []) (fn := Try.f99) (by kernel_rfl) (show Try.prog.funcs[99]? = some Try.f99 from Try.func99) (by kernel_rfl)
theorem h_spec_l13First : Has Try.prog (seatFn tab) 319 2 V_spec_l13First := has_of tabOk (hint := []) (fn := Try.f76) (by kernel_rfl) (show Try.prog.funcs[76]? = some Try.f76 from Try.func76) (by kernel_rfl)
theorem h_spec_l13Maps : Has Try.prog (seatFn tab) 322 3 V_spec_l13Maps := has_of tabOk (hint := []) (fn := Try.f82) (by kernel_rfl) (show Try.prog.funcs[82]? = some Try.f82 from Try.func82) (by kernel_rfl)
theorem h_spec_l13Squares : Has Try.prog (seatFn tab) 400 5 V_spec_l13Squares := has_of tabOk (hint := []) (fn := Try.f114) (by kernel_rfl) (show Try.prog.funcs[114]? = some Try.f114 from Try.func114) (by kernel_rfl)
theorem h_Category_products_1 : Has Try.prog (seatFn tab) 401 2 V_Category_products_1 := has_of tabOk (hint := []) (fn := Try.f116) (by kernel_rfl) (show Try.prog.funcs[116]? = some Try.f116 from Try.func116) (by kernel_rfl)
theorem h_spans_first : Has Try.prog (seatFn tab) 402 1 V_spans_first := has_of tabOk (hint := []) (fn := Try.f117) (by kernel_rfl) (show Try.prog.funcs[117]? = some Try.f117 from Try.func117) (by kernel_rfl)
theorem h_spans_from : Has Try.prog (seatFn tab) 426 2 V_spans_from := has_of tabOk (hint := []) (fn := Try.f134) (by kernel_rfl) (show Try.prog.funcs[134]? = some Try.f134 from Try.func134) (by kernel_rfl)
theorem h_spans_isUniversal : Has Try.prog (seatFn tab) 427 3 V_spans_isUniversal := has_of tabOk (hint := []) (fn := Try.f135) (by kernel_rfl) (show Try.prog.funcs[135]? = some Try.f135 from Try.func135) (by kernel_rfl)
theorem r_HLaw : HLaw Try.prog (seatFn tab) := ⟨h_laws_szInt64S, h_laws_szInt64SS, h_laws_szCategory, h_laws_toInt64S, h_laws_toInt64SS, h_laws_toCategory, h_laws_eqInt64S, h_laws_eqInt64SS, h_laws_eqCategory⟩
theorem r_HCat : HCat Try.prog (seatFn tab) := ⟨h_Category_arrows, h_inRange, h_within, h_Category_ends, h_Category_then, h_Category_isShape, h_Category_fault, h_Category_isCategory⟩
theorem r_HSpan : HSpan Try.prog (seatFn tab) := ⟨h_Category_hom, h_Category_then, h_spans_from, h_spans_isUniversal, h_spans_first, h_spans_triple⟩
theorem r_HSpec : HSpec Try.prog (seatFn tab) := ⟨h_spec_l01In, h_spec_l01Map, h_spec_l02Ends, h_spec_IsShape, h_spec_l02Fault, h_spec_l02Is⟩
theorem r_HFirst : HFirst Try.prog (seatFn tab) := ⟨h_spec_l02Hom, h_spec_l02Then, h_spec_l13Maps, h_spec_l13First⟩
open Classical in
theorem law_args (avs : List AV) (h1 : avs.length = ([catTy, .int, .int] : List Ty).length) (h2 : ∀ i (h : i < avs.length) (h' : i < ([catTy, .int, .int] : List Ty).length), ShpV ([catTy, .int, .int] : List Ty)[i] avs[i]) : OkM Try.prog (seatFn tab) 66 avs hempty 0 (fun r _ _ => r = bool true) := by
  obtain ⟨a0, a1, a2, rfl⟩ := ListLen3 h1
  obtain ⟨c, rfl, rd_c, _⟩ := (h2 0 (by simp) (by simp)).cat
  obtain ⟨x, rfl, _⟩ := (h2 1 (by simp) (by simp)).int
  obtain ⟨y, rfl, _⟩ := (h2 2 (by simp) (by simp)).int
  exact law_ProductOf r_HLaw h_laws_FnExactProductOf c rd_c x y (fun b => ProductOf_both r_HCat r_HSpan h_Category_products h_Category_products_1 h_objectCode h_ProductOf r_HSpec r_HFirst h_spec_l13Squares h_spec_l13Product h_spec_l13Triple h_spec_l02Objects h_spec_ProductOf c b.toSmall x y)
theorem own : ownKnob Try.prog.godebug = none := by kernel_rfl
theorem laidOut : laidOutB Try.prog = true := by kernel_rfl
set_option maxRecDepth 100000 in
theorem lifted (os : Os) (started : os.Started) (H : Type) (enc : TypeId × Value → H) :
    ReturnsInHanded {} Try.checked os 4 .any (Rows.fnExactProductOfSpec.pre6 enc Try.prog Try.f4 Rows.fnExactProductOfRow.domain false) (Rows.fnExactProductOfSpec.post enc Try.prog Try.f4 false true false false) := by
  refine returnsInHanded_of_change (C := Try.checked) own started (by kernel_rfl) Try.func4
    (ChangeSpec.witness6 (enc := enc) (C := Try.checked) false ⟨#[], #[.agg #[.int .i64 0, .slice none 0 0, .slice none 0 0, .slice none 0 0, .slice none 0 0], .int .i64 0, .int .i64 0], []⟩ 8 (by kernel_rfl) (by kernel_rfl) (by kernel_rfl) (by kernel_rfl)) ?_
  intro W base args ds gs before hval hW _ _
  exact row_calls (P := Try.prog) (ν := seatFn tab) (fn := Try.f4) (s := Rows.fnExactProductOfSpec) (id := 66) (tb := Try.f4.resultTypes.getD 0 0) (m := 8) (tys := [catTy, .int, .int]) laidOut (by kernel_rfl) (by kernel_rfl) (by kernel_rfl) rfl (fun ds hd => by obtain ⟨_, _, _, rfl⟩ := (ListLen3 hd); rfl) (by kernel_rfl) rfl law_args W base args ds gs before hval hW
/-- For every input: the statement's function returns true. -/
theorem holds : Rows.FnExactProductOfSaid :=
  OpenClaim.holds_of_wide 4 Try.f4 rfl rfl rfl rfl rfl rfl rfl ⟨rfl, rfl, rfl, rfl, rfl⟩ rfl rfl rfl rfl rfl (by kernel_rfl) Try.func4 (by kernel_rfl)
    (of_decide_eq_true (by kernel_rfl)) (by unfold Func.isWrapper; first | (rw [if_pos (by decide +kernel)]; kernel_rfl) | (rw [if_neg (by decide +kernel)]; exact ⟨rfl, rfl⟩))
    (fun os started H enc _ => lifted os started H enc)
end Go.Proofs.Ytlcicglfgieamaa.FnExactProductOf
