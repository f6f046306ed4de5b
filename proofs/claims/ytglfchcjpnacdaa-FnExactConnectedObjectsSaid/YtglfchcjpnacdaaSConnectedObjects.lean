/-
  For every input the statement on ConnectedObjects answers true: the seat's functions in the layer's second form, each checked by the kernel against the translation, then the row. No condition.
-/
import Derived.Test.YtglfchcjpnacdaaRows
import Derived.Test.YtglfchcjpnacdaaAvLConnectedObjects
import Derived.Test.YtglfchcjpnacdaaAvJ3
import Derived.Test.YtglfchcjpnacdaaAvO1
import Derived.ProofKit
namespace Go.Proofs.Ytglfchcjpnacdaa.FnExactConnectedObjects
open Go.Av
def tab : List (Nat × Nat) := [(3, 52), (4, 59), (5, 61), (6, 64), (7, 79), (8, 82), (9, 84), (10, 85), (11, 86), (12, 87), (13, 3), (14, 127), (15, 5), (16, 128), (17, 7), (18, 8), (19, 9), (20, 10), (21, 11), (22, 140), (23, 147), (24, 142), (25, 148), (26, 20), (27, 144), (28, 149), (29, 21), (30, 150), (31, 153), (32, 154), (33, 159), (34, 16), (35, 160), (36, 192), (37, 193), (38, 13), (39, 198), (40, 17), (41, 199), (42, 202), (43, 203), (44, 204), (45, 205), (46, 206), (47, 207), (48, 208), (49, 209), (50, 12), (51, 22), (52, 267), (53, 24), (54, 268), (55, 282), (56, 284), (57, 285), (58, 283), (59, 32), (60, 286), (61, 291), (62, 292), (63, 299), (64, 300), (65, 334), (66, 335), (67, 245), (68, 340), (69, 341), (70, 25), (71, 26), (72, 38), (73, 342), (74, 317), (75, 251), (76, 318), (77, 319), (78, 320), (79, 18), (80, 170), (81, 252), (82, 287), (83, 288), (84, 237), (85, 15), (86, 239), (87, 289), (88, 290), (89, 238), (90, 19), (91, 240), (92, 304), (93, 323), (94, 174), (95, 345), (96, 346), (97, 28), (98, 29), (99, 376), (100, 382), (101, 30), (102, 31), (103, 383), (104, 278), (105, 279), (106, 309), (107, 280), (108, 281), (109, 392), (110, 33), (111, 393), (112, 394), (113, 395), (114, 396), (115, 397), (116, 398), (117, 246), (118, 399), (119, 34), (120, 408), (121, 37), (122, 360), (123, 253), (124, 414), (125, 259), (126, 322), (127, 321), (128, 308), (129, 261), (130, 353), (131, 377), (132, 262), (133, 244), (134, 266), (135, 236), (136, 27), (137, 400), (138, 324), (139, 35), (140, 36), (141, 423), (142, 391), (143, 425), (144, 365), (145, 405), (146, 402), (147, 373), (148, 374), (149, 381), (150, 406), (151, 380), (152, 426), (153, 427)]
theorem tabOk : ∀ f id, seatNum tab f = some id → seatFn tab id = f := seat_inv (by decide +kernel)
theorem h_laws_szCategory : Has Try.prog (seatFn tab) 3 2 V_laws_szCategory := has_of tabOk (hint := []) (fn := Try.f13) (by kernel_rfl) (show Try.prog.funcs[13]? = some Try.f13 from Try.func13) (by kernel_rfl)
theorem h_laws_toCategory : Has Try.prog (seatFn tab) 5 1 V_laws_toCategory := has_of tabOk (hint := [(9, 1), (13, 1), (17, 1), (21, 1)]) (fn := Try.f15) (by kernel_rfl) (show Try.prog.funcs[15]? = some Try.f15 from Try.func15) (by kernel_rfl)
theorem h_laws_eqInt64S : Has Try.prog (seatFn tab) 7 2 V_laws_eqInt64S := has_of tabOk (hint := []) (fn := Try.f17) (by kernel_rfl) (show Try.prog.funcs[17]? = some Try.f17 from Try.func17) (by kernel_rfl)
theorem h_laws_eqCategory : Has Try.prog (seatFn tab) 8 2 V_laws_eqCategory := has_of tabOk (hint := []) (fn := Try.f18) (by kernel_rfl) (show Try.prog.funcs[18]? = some Try.f18 from Try.func18) (by kernel_rfl)
theorem h_laws_markCategory : Has Try.prog (seatFn tab) 9 2 V_laws_markCategory := has_of tabOk (hint := [(8, 1), (12, 1), (16, 1), (20, 1), (2, 3)]) (fn := Try.f19) (by kernel_rfl) (show Try.prog.funcs[19]? = some Try.f19 from Try.func19) (by kernel_rfl)
theorem h_laws_markInt64S : Has Try.prog (seatFn tab) 10 2 V_laws_markInt64S := has_of tabOk (hint := []) (fn := Try.f20) (by kernel_rfl) (show Try.prog.funcs[20]? = some Try.f20 from Try.func20) (by kernel_rfl)
theorem h_laws_heldInt64S : Has Try.prog (seatFn tab) 11 2 V_laws_heldInt64S := has_of tabOk (hint := []) (fn := Try.f21) (by kernel_rfl) (show Try.prog.funcs[21]? = some Try.f21 from Try.func21) (by kernel_rfl)
theorem h_laws_szInt64S : Has Try.prog (seatFn tab) 12 2 V_laws_szInt64S := has_of tabOk (hint := []) (fn := Try.f50) (by kernel_rfl) (show Try.prog.funcs[50]? = some Try.f50 from Try.func50) (by kernel_rfl)
theorem h_laws_szInt64SS : Has Try.prog (seatFn tab) 13 2 V_laws_szInt64SS := has_of tabOk (hint := []) (fn := Try.f38) (by kernel_rfl) (show Try.prog.funcs[38]? = some Try.f38 from Try.func38) (by kernel_rfl)
theorem h_laws_toInt64S : Has Try.prog (seatFn tab) 16 1 V_laws_toInt64S := has_of tabOk (hint := []) (fn := Try.f34) (by kernel_rfl) (show Try.prog.funcs[34]? = some Try.f34 from Try.func34) (by kernel_rfl)
theorem h_laws_toInt64SS : Has Try.prog (seatFn tab) 17 1 V_laws_toInt64SS := has_of tabOk (hint := [(20, 1)]) (fn := Try.f40) (by kernel_rfl) (show Try.prog.funcs[40]? = some Try.f40 from Try.func40) (by kernel_rfl)
theorem h_laws_eqInt64SS : Has Try.prog (seatFn tab) 20 2 V_laws_eqInt64SS := has_of tabOk (hint := []) (fn := Try.f26) (by kernel_rfl) (show Try.prog.funcs[26]? = some Try.f26 from Try.func26) (by kernel_rfl)
theorem h_laws_markInt64SS : Has Try.prog (seatFn tab) 21 2 V_laws_markInt64SS := has_of tabOk (hint := [(17, 1)]) (fn := Try.f29) (by kernel_rfl) (show Try.prog.funcs[29]? = some Try.f29 from Try.func29) (by kernel_rfl)
theorem h_spec_l02Is : Has Try.prog (seatFn tab) 22 1 V_spec_l02Is := has_of tabOk (hint := []) (fn := Try.f51) (by kernel_rfl) (show Try.prog.funcs[51]? = some Try.f51 from Try.func51) (by kernel_rfl)
theorem h_Category_isCategory : Has Try.prog (seatFn tab) 24 1 V_Category_isCategory := has_of tabOk (hint := []) (fn := Try.f53) (by kernel_rfl) (show Try.prog.funcs[53]? = some Try.f53 from Try.func53) (by kernel_rfl)
theorem h_within : Has Try.prog (seatFn tab) 25 2 V_within := has_of tabOk (hint := []) (fn := Try.f70) (by kernel_rfl) (show Try.prog.funcs[70]? = some Try.f70 from Try.func70) (by kernel_rfl)
theorem h_Category_arrows : Has Try.prog (seatFn tab) 26 1 V_Category_arrows := has_of tabOk (hint := []) (fn := Try.f71) (by kernel_rfl) (show Try.prog.funcs[71]? = some Try.f71 from Try.func71) (by kernel_rfl)
theorem h_spec_IsShape : Has Try.prog (seatFn tab) 28 1 V_spec_IsShape := has_of tabOk (hint := []) (fn := Try.f97) (by kernel_rfl) (show Try.prog.funcs[97]? = some Try.f97 from Try.func97) (by kernel_rfl)
theorem h_spec_l02Fault : Has Try.prog (seatFn tab) 29 1 V_spec_l02Fault := has_of tabOk (hint := []) (fn := Try.f98) (by kernel_rfl) (show Try.prog.funcs[98]? = some Try.f98 from Try.func98) (by kernel_rfl)
theorem h_Category_isShape : Has Try.prog (seatFn tab) 30 1 V_Category_isShape := has_of tabOk (hint := []) (fn := Try.f101) (by kernel_rfl) (show Try.prog.funcs[101]? = some Try.f101 from Try.func101) (by kernel_rfl)
theorem h_Category_fault : Has Try.prog (seatFn tab) 31 1 V_Category_fault := has_of tabOk (hint := []) (fn := Try.f102) (by kernel_rfl) (show Try.prog.funcs[102]? = some Try.f102 from Try.func102) (by kernel_rfl)
theorem h_inRange : Has Try.prog (seatFn tab) 32 3 V_inRange := has_of tabOk (hint := []) (fn := Try.f59) (by kernel_rfl) (show Try.prog.funcs[59]? = some Try.f59 from Try.func59) (by kernel_rfl)
theorem h_Category_then : Has Try.prog (seatFn tab) 34 3 V_Category_then := has_of tabOk (hint := []) (fn := Try.f119) (by kernel_rfl) (show Try.prog.funcs[119]? = some Try.f119 from Try.func119) (by kernel_rfl)
theorem h_spec_l01In : Has Try.prog (seatFn tab) 35 3 V_spec_l01In := has_of tabOk (hint := []) (fn := Try.f139) (by kernel_rfl) (show Try.prog.funcs[139]? = some Try.f139 from Try.func139) (by kernel_rfl)
theorem h_spec_l02Ends : Has Try.prog (seatFn tab) 36 3 V_spec_l02Ends := has_of tabOk (hint := []) (fn := Try.f140) (by kernel_rfl) (show Try.prog.funcs[140]? = some Try.f140 from Try.func140) (by kernel_rfl)
theorem h_spec_l01Map : Has Try.prog (seatFn tab) 37 2 V_spec_l01Map := has_of tabOk (hint := []) (fn := Try.f121) (by kernel_rfl) (show Try.prog.funcs[121]? = some Try.f121 from Try.func121) (by kernel_rfl)
theorem h_Category_ends : Has Try.prog (seatFn tab) 38 2 V_Category_ends := has_of tabOk (hint := []) (fn := Try.f72) (by kernel_rfl) (show Try.prog.funcs[72]? = some Try.f72 from Try.func72) (by kernel_rfl)
theorem h_laws_FnExactConnectedObjects : Has Try.prog (seatFn tab) 61 1 V_laws_FnExactConnectedObjects := has_of tabOk (hint := [(26, 1), (29, 2), (48, 1), (64, 1), (76, 2)]) (fn := Try.f5) (by kernel_rfl) (show Try.prog.funcs[5]? = some Try.f5 from Try.func5) (by kernel_rfl)
theorem h_spec_ConnectedObjects : Has Try.prog (seatFn tab) 153 1 V_spec_ConnectedObjects := has_of tabOk (hint := [(34, 2)]) (fn := Try.f31) (by kernel_rfl) (show Try.prog.funcs[31]? = some Try.f31 from Try.func31) (by kernel_rfl)
theorem h_ConnectedObjects : Has Try.prog (seatFn tab) 154 1 V_ConnectedObjects := has_of tabOk (hint := [(6, 1)]) (fn := Try.f32) (by kernel_rfl) (show Try.prog.funcs[32]? = some Try.f32 from Try.func32) (by kernel_rfl)
theorem h_spec_l01Join : Has Try.prog (seatFn tab) 291 2 V_spec_l01Join := has_of tabOk (hint := [(67, 2)]) (fn := Try.f61) (by kernel_rfl) (show Try.prog.funcs[61]? = some Try.f61 from Try.func61) (by kernel_rfl)
theorem h_Category_connected : Has Try.prog (seatFn tab) 292 1 V_Category_connected := has_of tabOk (hint := [(9, 1), (33, 1), (36, 1)]) (fn := Try.f62) (by kernel_rfl) (show Try.prog.funcs[62]? = some Try.f62 from Try.func62) (by kernel_rfl)
theorem h_normal : Has Try.prog (seatFn tab) 365 1 V_normal := has_of tabOk (hint := []) (fn := Try.f144) (by kernel_rfl) (show Try.prog.funcs[144]? = some Try.f144 from Try.func144) (by kernel_rfl)
theorem h_spec_l01Index : Has Try.prog (seatFn tab) 376 2 V_spec_l01Index := has_of tabOk (hint := []) (fn := Try.f99) (by kernel_rfl) (show Try.prog.funcs[99]? = some Try.f99 from Try.func99) (by kernel_rfl)
theorem h_spec_l01Classes : Has Try.prog (seatFn tab) 393 1 V_spec_l01Classes := has_of tabOk (hint := []) (fn := Try.f111) (by kernel_rfl) (show Try.prog.funcs[111]? = some Try.f111 from Try.func111) (by kernel_rfl)
theorem h_joinerOf : Has Try.prog (seatFn tab) 394 1 V_joinerOf := has_of tabOk (hint := [(4, 1)]) (fn := Try.f112) (by kernel_rfl) (show Try.prog.funcs[112]? = some Try.f112 from Try.func112) (by kernel_rfl)
theorem h_joiner_join : Has Try.prog (seatFn tab) 395 3 V_joiner_join := has_of tabOk (hint := [(11, 1), (14, 1)]) (fn := Try.f113) (by kernel_rfl) (show Try.prog.funcs[113]? = some Try.f113 from Try.func113) (by kernel_rfl)
theorem h_joiner_partition : Has Try.prog (seatFn tab) 396 1 V_joiner_partition := has_of tabOk (hint := [(17, 1), (21, 2)]) (fn := Try.f114) (by kernel_rfl) (show Try.prog.funcs[114]? = some Try.f114 from Try.func114) (by kernel_rfl)
theorem h_joiner_root : Has Try.prog (seatFn tab) 414 2 V_joiner_root := has_of tabOk (hint := []) (fn := Try.f124) (by kernel_rfl) (show Try.prog.funcs[124]? = some Try.f124 from Try.func124) (by kernel_rfl)
theorem h_numbers : Has Try.prog (seatFn tab) 425 1 V_numbers := has_of tabOk (hint := []) (fn := Try.f143) (by kernel_rfl) (show Try.prog.funcs[143]? = some Try.f143 from Try.func143) (by kernel_rfl)
theorem r_HLaw : HLaw Try.prog (seatFn tab) := ⟨h_laws_szInt64S, h_laws_szInt64SS, h_laws_szCategory, h_laws_toInt64S, h_laws_toInt64SS, h_laws_toCategory, h_laws_eqInt64S, h_laws_eqInt64SS, h_laws_eqCategory⟩
theorem r_HMark : HMark Try.prog (seatFn tab) := ⟨h_laws_markInt64S, h_laws_markInt64SS, h_laws_markCategory, h_laws_heldInt64S⟩
theorem r_HCat : HCat Try.prog (seatFn tab) := ⟨h_Category_arrows, h_inRange, h_within, h_Category_ends, h_Category_then, h_Category_isShape, h_Category_fault, h_Category_isCategory⟩
theorem r_HJoin : HJoin Try.prog (seatFn tab) := ⟨h_numbers, h_joinerOf, h_joiner_root, h_joiner_join, h_normal, h_joiner_partition⟩
theorem r_HSpec : HSpec Try.prog (seatFn tab) := ⟨h_spec_l01In, h_spec_l01Map, h_spec_l02Ends, h_spec_IsShape, h_spec_l02Fault, h_spec_l02Is⟩
theorem r_HLab : HLab Try.prog (seatFn tab) := ⟨h_spec_l01Index, h_spec_l01Classes, h_spec_l01Join⟩
open Classical in
theorem law_args (avs : List AV) (h1 : avs.length = ([catTy] : List Ty).length) (h2 : ∀ i (h : i < avs.length) (h' : i < ([catTy] : List Ty).length), ShpV ([catTy] : List Ty)[i] avs[i]) : OkM Try.prog (seatFn tab) 61 avs hempty 0 (fun r _ _ => r = bool true) := by
  obtain ⟨a0, rfl⟩ := ListLen1 h1
  obtain ⟨c, rfl, rd_c, _⟩ := (h2 0 (by simp) (by simp)).cat
  exact law_ConnectedObjects r_HLaw r_HMark h_laws_FnExactConnectedObjects c rd_c  (fun b => ConnectedObjects_both r_HCat r_HJoin h_Category_connected h_ConnectedObjects r_HSpec r_HLab h_spec_ConnectedObjects c b.toSmall )
theorem own : ownKnob Try.prog.godebug = none := by kernel_rfl
theorem laidOut : laidOutB Try.prog = true := by kernel_rfl
set_option maxRecDepth 100000 in
theorem lifted (os : Os) (started : os.Started) (H : Type) (enc : TypeId × Value → H) :
    ReturnsInHanded {} Try.checked os 5 .any (Rows.fnExactConnectedObjectsSpec.pre6 enc Try.prog Try.f5 Rows.fnExactConnectedObjectsRow.domain false) (Rows.fnExactConnectedObjectsSpec.post enc Try.prog Try.f5 false true false false) := by
  refine returnsInHanded_of_change (C := Try.checked) own started (by kernel_rfl) Try.func5
    (ChangeSpec.witness6 (enc := enc) (C := Try.checked) false ⟨#[], #[.agg #[.int .i64 0, .slice none 0 0, .slice none 0 0, .slice none 0 0, .slice none 0 0]], []⟩ 8 (by kernel_rfl) (by kernel_rfl) (by kernel_rfl) (by kernel_rfl)) ?_
  intro W base args ds gs before hval hW _ _
  exact row_calls (P := Try.prog) (ν := seatFn tab) (fn := Try.f5) (s := Rows.fnExactConnectedObjectsSpec) (id := 61) (tb := Try.f5.resultTypes.getD 0 0) (m := 8) (tys := [catTy]) laidOut (by kernel_rfl) (by kernel_rfl) (by kernel_rfl) rfl (fun ds hd => by obtain ⟨_, rfl⟩ := (ListLen1 hd); rfl) (by kernel_rfl) rfl law_args W base args ds gs before hval hW
/-- For every input: the statement's function returns true. -/
theorem holds : Rows.FnExactConnectedObjectsSaid :=
  OpenClaim.holds_of_wide 5 Try.f5 rfl rfl rfl rfl rfl rfl rfl ⟨rfl, rfl, rfl, rfl, rfl⟩ rfl rfl rfl rfl rfl (by kernel_rfl) Try.func5 (by kernel_rfl)
    (of_decide_eq_true (by kernel_rfl)) (by unfold Func.isWrapper; first | (rw [if_pos (by decide +kernel)]; kernel_rfl) | (rw [if_neg (by decide +kernel)]; exact ⟨rfl, rfl⟩))
    (fun os started H enc _ => lifted os started H enc)
end Go.Proofs.Ytglfchcjpnacdaa.FnExactConnectedObjects
