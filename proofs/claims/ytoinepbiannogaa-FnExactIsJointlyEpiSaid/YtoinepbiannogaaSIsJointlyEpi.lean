/-
  For every input the statement on IsJointlyEpi answers true: the seat's functions in the layer's second form, each checked by the kernel against the translation, then the row. No condition.
-/
import Derived.Test.YtoinepbiannogaaRows
import Derived.Test.YtoinepbiannogaaAvLIsJointlyEpi
import Derived.Test.YtoinepbiannogaaAvB11
import Derived.Test.YtoinepbiannogaaAvO1
import Derived.ProofKit
namespace Go.Proofs.Ytoinepbiannogaa.FnExactIsJointlyEpi
open Go.Av
def tab : List (Nat × Nat) := [(3, 39), (4, 40), (5, 41), (6, 42), (7, 43), (8, 44), (9, 47), (10, 49), (11, 50), (12, 51), (13, 53), (14, 55), (15, 3), (16, 97), (17, 5), (18, 98), (19, 7), (20, 8), (21, 9), (22, 10), (23, 11), (24, 99), (25, 100), (26, 101), (27, 102), (28, 103), (29, 104), (30, 105), (31, 16), (32, 106), (33, 107), (34, 108), (35, 114), (36, 115), (37, 121), (38, 122), (39, 123), (40, 124), (41, 125), (42, 126), (43, 129), (44, 130), (45, 136), (46, 137), (47, 12), (48, 13), (49, 235), (50, 17), (51, 18), (52, 236), (53, 20), (54, 21), (55, 27), (56, 14), (57, 237), (58, 238), (59, 239), (60, 240), (61, 241), (62, 242), (63, 243), (64, 244), (65, 245), (66, 246), (67, 247), (68, 248), (69, 253), (70, 254), (71, 38), (72, 34), (73, 255), (74, 258), (75, 259), (76, 260), (77, 261), (78, 262), (79, 263), (80, 264), (81, 265), (82, 251), (83, 266), (84, 22), (85, 275), (86, 24), (87, 252), (88, 276), (89, 23), (90, 25), (91, 26), (92, 33), (93, 15), (94, 37), (95, 373), (96, 374), (97, 368), (98, 375), (99, 309), (100, 32), (101, 379), (102, 380), (103, 381), (104, 28), (105, 29), (106, 30), (107, 31), (108, 353), (109, 377), (110, 35), (111, 36)]
theorem tabOk : ∀ f id, seatNum tab f = some id → seatFn tab id = f := seat_inv (by decide +kernel)
theorem h_laws_szCategory : Has Try.prog (seatFn tab) 3 2 V_laws_szCategory := has_of tabOk (hint := []) (fn := Try.f15) (by kernel_rfl) (show Try.prog.funcs[15]? = some Try.f15 from Try.func15) (by kernel_rfl)
theorem h_laws_toCategory : Has Try.prog (seatFn tab) 5 1 V_laws_toCategory := has_of tabOk (hint := [(9, 1), (13, 1), (17, 1), (21, 1)]) (fn := Try.f17) (by kernel_rfl) (show Try.prog.funcs[17]? = some Try.f17 from Try.func17) (by kernel_rfl)
theorem h_laws_eqInt64S : Has Try.prog (seatFn tab) 7 2 V_laws_eqInt64S := has_of tabOk (hint := []) (fn := Try.f19) (by kernel_rfl) (show Try.prog.funcs[19]? = some Try.f19 from Try.func19) (by kernel_rfl)
theorem h_laws_eqCategory : Has Try.prog (seatFn tab) 8 2 V_laws_eqCategory := has_of tabOk (hint := []) (fn := Try.f20) (by kernel_rfl) (show Try.prog.funcs[20]? = some Try.f20 from Try.func20) (by kernel_rfl)
theorem h_laws_szInt64S : Has Try.prog (seatFn tab) 12 2 V_laws_szInt64S := has_of tabOk (hint := []) (fn := Try.f47) (by kernel_rfl) (show Try.prog.funcs[47]? = some Try.f47 from Try.func47) (by kernel_rfl)
theorem h_laws_szInt64SS : Has Try.prog (seatFn tab) 13 2 V_laws_szInt64SS := has_of tabOk (hint := []) (fn := Try.f48) (by kernel_rfl) (show Try.prog.funcs[48]? = some Try.f48 from Try.func48) (by kernel_rfl)
theorem h_laws_toInt64S : Has Try.prog (seatFn tab) 16 1 V_laws_toInt64S := has_of tabOk (hint := []) (fn := Try.f31) (by kernel_rfl) (show Try.prog.funcs[31]? = some Try.f31 from Try.func31) (by kernel_rfl)
theorem h_laws_toInt64SS : Has Try.prog (seatFn tab) 17 1 V_laws_toInt64SS := has_of tabOk (hint := [(20, 1)]) (fn := Try.f50) (by kernel_rfl) (show Try.prog.funcs[50]? = some Try.f50 from Try.func50) (by kernel_rfl)
theorem h_arrowCode : Has Try.prog (seatFn tab) 18 2 V_arrowCode := has_of tabOk (hint := []) (fn := Try.f51) (by kernel_rfl) (show Try.prog.funcs[51]? = some Try.f51 from Try.func51) (by kernel_rfl)
theorem h_laws_eqInt64SS : Has Try.prog (seatFn tab) 20 2 V_laws_eqInt64SS := has_of tabOk (hint := []) (fn := Try.f53) (by kernel_rfl) (show Try.prog.funcs[53]? = some Try.f53 from Try.func53) (by kernel_rfl)
theorem h_spec_l02Is : Has Try.prog (seatFn tab) 22 1 V_spec_l02Is := has_of tabOk (hint := []) (fn := Try.f84) (by kernel_rfl) (show Try.prog.funcs[84]? = some Try.f84 from Try.func84) (by kernel_rfl)
theorem h_Category_isCategory : Has Try.prog (seatFn tab) 24 1 V_Category_isCategory := has_of tabOk (hint := []) (fn := Try.f86) (by kernel_rfl) (show Try.prog.funcs[86]? = some Try.f86 from Try.func86) (by kernel_rfl)
theorem h_within : Has Try.prog (seatFn tab) 25 2 V_within := has_of tabOk (hint := []) (fn := Try.f90) (by kernel_rfl) (show Try.prog.funcs[90]? = some Try.f90 from Try.func90) (by kernel_rfl)
theorem h_Category_arrows : Has Try.prog (seatFn tab) 26 1 V_Category_arrows := has_of tabOk (hint := []) (fn := Try.f91) (by kernel_rfl) (show Try.prog.funcs[91]? = some Try.f91 from Try.func91) (by kernel_rfl)
theorem h_spec_IsShape : Has Try.prog (seatFn tab) 28 1 V_spec_IsShape := has_of tabOk (hint := []) (fn := Try.f104) (by kernel_rfl) (show Try.prog.funcs[104]? = some Try.f104 from Try.func104) (by kernel_rfl)
theorem h_spec_l02Fault : Has Try.prog (seatFn tab) 29 1 V_spec_l02Fault := has_of tabOk (hint := []) (fn := Try.f105) (by kernel_rfl) (show Try.prog.funcs[105]? = some Try.f105 from Try.func105) (by kernel_rfl)
theorem h_Category_isShape : Has Try.prog (seatFn tab) 30 1 V_Category_isShape := has_of tabOk (hint := []) (fn := Try.f106) (by kernel_rfl) (show Try.prog.funcs[106]? = some Try.f106 from Try.func106) (by kernel_rfl)
theorem h_Category_fault : Has Try.prog (seatFn tab) 31 1 V_Category_fault := has_of tabOk (hint := []) (fn := Try.f107) (by kernel_rfl) (show Try.prog.funcs[107]? = some Try.f107 from Try.func107) (by kernel_rfl)
theorem h_inRange : Has Try.prog (seatFn tab) 32 3 V_inRange := has_of tabOk (hint := []) (fn := Try.f100) (by kernel_rfl) (show Try.prog.funcs[100]? = some Try.f100 from Try.func100) (by kernel_rfl)
theorem h_Category_hom : Has Try.prog (seatFn tab) 33 3 V_Category_hom := has_of tabOk (hint := []) (fn := Try.f92) (by kernel_rfl) (show Try.prog.funcs[92]? = some Try.f92 from Try.func92) (by kernel_rfl)
theorem h_Category_then : Has Try.prog (seatFn tab) 34 3 V_Category_then := has_of tabOk (hint := []) (fn := Try.f72) (by kernel_rfl) (show Try.prog.funcs[72]? = some Try.f72 from Try.func72) (by kernel_rfl)
theorem h_spec_l01In : Has Try.prog (seatFn tab) 35 3 V_spec_l01In := has_of tabOk (hint := []) (fn := Try.f110) (by kernel_rfl) (show Try.prog.funcs[110]? = some Try.f110 from Try.func110) (by kernel_rfl)
theorem h_spec_l02Ends : Has Try.prog (seatFn tab) 36 3 V_spec_l02Ends := has_of tabOk (hint := []) (fn := Try.f111) (by kernel_rfl) (show Try.prog.funcs[111]? = some Try.f111 from Try.func111) (by kernel_rfl)
theorem h_spec_l01Map : Has Try.prog (seatFn tab) 37 2 V_spec_l01Map := has_of tabOk (hint := []) (fn := Try.f94) (by kernel_rfl) (show Try.prog.funcs[94]? = some Try.f94 from Try.func94) (by kernel_rfl)
theorem h_Category_ends : Has Try.prog (seatFn tab) 38 2 V_Category_ends := has_of tabOk (hint := []) (fn := Try.f71) (by kernel_rfl) (show Try.prog.funcs[71]? = some Try.f71 from Try.func71) (by kernel_rfl)
theorem h_laws_FnExactIsJointlyEpi : Has Try.prog (seatFn tab) 51 2 V_laws_FnExactIsJointlyEpi := has_of tabOk (hint := []) (fn := Try.f12) (by kernel_rfl) (show Try.prog.funcs[12]? = some Try.f12 from Try.func12) (by kernel_rfl)
theorem h_spec_IsJointlyEpi : Has Try.prog (seatFn tab) 125 2 V_spec_IsJointlyEpi := has_of tabOk (hint := [(19, 1)]) (fn := Try.f41) (by kernel_rfl) (show Try.prog.funcs[41]? = some Try.f41 from Try.func41) (by kernel_rfl)
theorem h_IsJointlyEpi : Has Try.prog (seatFn tab) 126 2 V_IsJointlyEpi := has_of tabOk (hint := []) (fn := Try.f42) (by kernel_rfl) (show Try.prog.funcs[42]? = some Try.f42 from Try.func42) (by kernel_rfl)
theorem h_spec_l05List : Has Try.prog (seatFn tab) 241 2 V_spec_l05List := has_of tabOk (hint := []) (fn := Try.f61) (by kernel_rfl) (show Try.prog.funcs[61]? = some Try.f61 from Try.func61) (by kernel_rfl)
theorem h_spec_l05Ends : Has Try.prog (seatFn tab) 242 2 V_spec_l05Ends := has_of tabOk (hint := []) (fn := Try.f62) (by kernel_rfl) (show Try.prog.funcs[62]? = some Try.f62 from Try.func62) (by kernel_rfl)
theorem h_spec_l05Joint : Has Try.prog (seatFn tab) 243 2 V_spec_l05Joint := has_of tabOk (hint := []) (fn := Try.f63) (by kernel_rfl) (show Try.prog.funcs[63]? = some Try.f63 from Try.func63) (by kernel_rfl)
theorem h_spec_l03Op : Has Try.prog (seatFn tab) 251 1 V_spec_l03Op := has_of tabOk (hint := [(49, 3)]) (fn := Try.f82) (by kernel_rfl) (show Try.prog.funcs[82]? = some Try.f82 from Try.func82) (by kernel_rfl)
theorem h_spec_l01Own : Has Try.prog (seatFn tab) 259 1 V_spec_l01Own := has_of tabOk (hint := []) (fn := Try.f75) (by kernel_rfl) (show Try.prog.funcs[75]? = some Try.f75 from Try.func75) (by kernel_rfl)
theorem h_Category_jointlyEpi : Has Try.prog (seatFn tab) 266 3 V_Category_jointlyEpi := has_of tabOk (hint := []) (fn := Try.f83) (by kernel_rfl) (show Try.prog.funcs[83]? = some Try.f83 from Try.func83) (by kernel_rfl)
theorem h_cancels : Has Try.prog (seatFn tab) 373 3 V_cancels := has_of tabOk (hint := []) (fn := Try.f95) (by kernel_rfl) (show Try.prog.funcs[95]? = some Try.f95 from Try.func95) (by kernel_rfl)
theorem h_Category_jointlyEpi_1 : Has Try.prog (seatFn tab) 381 4 V_Category_jointlyEpi_1 := has_of tabOk (hint := []) (fn := Try.f103) (by kernel_rfl) (show Try.prog.funcs[103]? = some Try.f103 from Try.func103) (by kernel_rfl)
theorem r_HLaw : HLaw Try.prog (seatFn tab) := ⟨h_laws_szInt64S, h_laws_szInt64SS, h_laws_szCategory, h_laws_toInt64S, h_laws_toInt64SS, h_laws_toCategory, h_laws_eqInt64S, h_laws_eqInt64SS, h_laws_eqCategory⟩
theorem r_HCat : HCat Try.prog (seatFn tab) := ⟨h_Category_arrows, h_inRange, h_within, h_Category_ends, h_Category_then, h_Category_isShape, h_Category_fault, h_Category_isCategory⟩
theorem r_HArr : HArr Try.prog (seatFn tab) := ⟨h_Category_hom, h_arrowCode⟩
theorem r_HSpec : HSpec Try.prog (seatFn tab) := ⟨h_spec_l01In, h_spec_l01Map, h_spec_l02Ends, h_spec_IsShape, h_spec_l02Fault, h_spec_l02Is⟩
open Classical in
theorem law_args (avs : List AV) (h1 : avs.length = ([catTy, (.sl .int)] : List Ty).length) (h2 : ∀ i (h : i < avs.length) (h' : i < ([catTy, (.sl .int)] : List Ty).length), ShpV ([catTy, (.sl .int)] : List Ty)[i] avs[i]) : OkM Try.prog (seatFn tab) 51 avs hempty 0 (fun r _ _ => r = bool true) := by
  obtain ⟨a0, a1, rfl⟩ := ListLen2 h1
  obtain ⟨c, rfl, rd_c, _⟩ := (h2 0 (by simp) (by simp)).cat
  obtain ⟨arrows, rfl, rd_arrows, _⟩ := (h2 1 (by simp) (by simp)).ints
  exact law_IsJointlyEpi r_HLaw h_laws_FnExactIsJointlyEpi c rd_c arrows rd_arrows (fun b b_arrows => IsJointlyEpi_both r_HCat r_HArr h_cancels h_Category_jointlyEpi_1 h_Category_jointlyEpi h_IsJointlyEpi r_HSpec h_spec_l05List h_spec_l05Ends h_spec_l05Joint h_spec_l01Own h_spec_l03Op h_spec_IsJointlyEpi c b.toSmall arrows b_arrows)
theorem own : ownKnob Try.prog.godebug = none := by kernel_rfl
theorem laidOut : laidOutB Try.prog = true := by kernel_rfl
set_option maxRecDepth 100000 in
theorem lifted (os : Os) (started : os.Started) (H : Type) (enc : TypeId × Value → H) :
    ReturnsInHanded {} Try.checked os 12 .any (Rows.fnExactIsJointlyEpiSpec.pre6 enc Try.prog Try.f12 Rows.fnExactIsJointlyEpiRow.domain false) (Rows.fnExactIsJointlyEpiSpec.post enc Try.prog Try.f12 false true false false) := by
  refine returnsInHanded_of_change (C := Try.checked) own started (by kernel_rfl) Try.func12
    (ChangeSpec.witness6 (enc := enc) (C := Try.checked) false ⟨#[], #[.agg #[.int .i64 0, .slice none 0 0, .slice none 0 0, .slice none 0 0, .slice none 0 0], .slice none 0 0], []⟩ 8 (by kernel_rfl) (by kernel_rfl) (by kernel_rfl) (by kernel_rfl)) ?_
  intro W base args ds gs before hval hW _ _
  exact row_calls (P := Try.prog) (ν := seatFn tab) (fn := Try.f12) (s := Rows.fnExactIsJointlyEpiSpec) (id := 51) (tb := Try.f12.resultTypes.getD 0 0) (m := 8) (tys := [catTy, (.sl .int)]) laidOut (by kernel_rfl) (by kernel_rfl) (by kernel_rfl) rfl (fun ds hd => by obtain ⟨_, _, rfl⟩ := (ListLen2 hd); rfl) (by kernel_rfl) rfl law_args W base args ds gs before hval hW
/-- For every input: the statement's function returns true. -/
theorem holds : Rows.FnExactIsJointlyEpiSaid :=
  OpenClaim.holds_of_wide 12 Try.f12 rfl rfl rfl rfl rfl rfl rfl ⟨rfl, rfl, rfl, rfl, rfl⟩ rfl rfl rfl rfl rfl (by kernel_rfl) Try.func12 (by kernel_rfl)
    (of_decide_eq_true (by kernel_rfl)) (by unfold Func.isWrapper; first | (rw [if_pos (by decide +kernel)]; kernel_rfl) | (rw [if_neg (by decide +kernel)]; exact ⟨rfl, rfl⟩))
    (fun os started H enc _ => lifted os started H enc)
end Go.Proofs.Ytoinepbiannogaa.FnExactIsJointlyEpi
