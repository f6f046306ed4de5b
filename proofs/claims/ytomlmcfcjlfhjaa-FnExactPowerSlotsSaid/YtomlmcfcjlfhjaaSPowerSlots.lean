/-
  For every input the statement on PowerSlots answers true, whatever order the two goroutines run in: the seat's functions in the layer's second form, each checked by the kernel against the translation, then the row. No condition.
-/
import Derived.Test.YtomlmcfcjlfhjaaRows
import Derived.Test.YtomlmcfcjlfhjaaBvLPowerSlots
import Derived.Test.YtomlmcfcjlfhjaaBvC7
import Derived.Test.YtomlmcfcjlfhjaaBvSl7
import Derived.Test.YtomlmcfcjlfhjaaBvO2
import Derived.Test.YtomlmcfcjlfhjaaBvO1
import Derived.ProofKit
namespace Go.Proofs.Ytomlmcfcjlfhjaa.FnExactPowerSlots
open Go.Av
local instance seatMd : Md := beside
def tab : List (Nat × Nat) := [(3, 59), (4, 140), (5, 147), (6, 142), (7, 148), (8, 20), (9, 144), (10, 149), (11, 21), (12, 150), (13, 3), (14, 12), (15, 13), (16, 282), (17, 284), (18, 285), (19, 5), (20, 16), (21, 17), (22, 283), (23, 32), (24, 286), (25, 7), (26, 8), (27, 9), (28, 10), (29, 11), (30, 278), (31, 279), (32, 309), (33, 280), (34, 281), (35, 392), (36, 33), (37, 22), (38, 35), (39, 37), (40, 24), (41, 25), (42, 26), (43, 391), (44, 28), (45, 29), (46, 30), (47, 31), (48, 36), (49, 38), (50, 34)]
theorem tabOk : ∀ f id, seatNum tab f = some id → seatFn tab id = f := seat_inv (md := beside) (by decide +kernel)
theorem h_laws_szCategory : Has (md := beside) Try.prog (seatFn tab) 3 2 V_laws_szCategory := has_of (md := beside) tabOk (hint := []) (fn := Try.f13) (by kernel_rfl) (show Try.prog.funcs[13]? = some Try.f13 from Try.func13) (by kernel_rfl)
theorem h_laws_toCategory : Has (md := beside) Try.prog (seatFn tab) 5 1 V_laws_toCategory := has_of (md := beside) tabOk (hint := [(9, 1), (13, 1), (17, 1), (21, 1)]) (fn := Try.f19) (by kernel_rfl) (show Try.prog.funcs[19]? = some Try.f19 from Try.func19) (by kernel_rfl)
theorem h_laws_eqInt64S : Has (md := beside) Try.prog (seatFn tab) 7 2 V_laws_eqInt64S := has_of (md := beside) tabOk (hint := []) (fn := Try.f25) (by kernel_rfl) (show Try.prog.funcs[25]? = some Try.f25 from Try.func25) (by kernel_rfl)
theorem h_laws_eqCategory : Has (md := beside) Try.prog (seatFn tab) 8 2 V_laws_eqCategory := has_of (md := beside) tabOk (hint := []) (fn := Try.f26) (by kernel_rfl) (show Try.prog.funcs[26]? = some Try.f26 from Try.func26) (by kernel_rfl)
theorem h_laws_markCategory : Has (md := beside) Try.prog (seatFn tab) 9 2 V_laws_markCategory := has_of (md := beside) tabOk (hint := [(8, 1), (12, 1), (16, 1), (20, 1), (2, 3)]) (fn := Try.f27) (by kernel_rfl) (show Try.prog.funcs[27]? = some Try.f27 from Try.func27) (by kernel_rfl)
theorem h_laws_markInt64S : Has (md := beside) Try.prog (seatFn tab) 10 2 V_laws_markInt64S := has_of (md := beside) tabOk (hint := []) (fn := Try.f28) (by kernel_rfl) (show Try.prog.funcs[28]? = some Try.f28 from Try.func28) (by kernel_rfl)
theorem h_laws_heldInt64S : Has (md := beside) Try.prog (seatFn tab) 11 2 V_laws_heldInt64S := has_of (md := beside) tabOk (hint := []) (fn := Try.f29) (by kernel_rfl) (show Try.prog.funcs[29]? = some Try.f29 from Try.func29) (by kernel_rfl)
theorem h_laws_szInt64S : Has (md := beside) Try.prog (seatFn tab) 12 2 V_laws_szInt64S := has_of (md := beside) tabOk (hint := []) (fn := Try.f14) (by kernel_rfl) (show Try.prog.funcs[14]? = some Try.f14 from Try.func14) (by kernel_rfl)
theorem h_laws_szInt64SS : Has (md := beside) Try.prog (seatFn tab) 13 2 V_laws_szInt64SS := has_of (md := beside) tabOk (hint := []) (fn := Try.f15) (by kernel_rfl) (show Try.prog.funcs[15]? = some Try.f15 from Try.func15) (by kernel_rfl)
theorem h_laws_toInt64S : Has (md := beside) Try.prog (seatFn tab) 16 1 V_laws_toInt64S := has_of (md := beside) tabOk (hint := []) (fn := Try.f20) (by kernel_rfl) (show Try.prog.funcs[20]? = some Try.f20 from Try.func20) (by kernel_rfl)
theorem h_laws_toInt64SS : Has (md := beside) Try.prog (seatFn tab) 17 1 V_laws_toInt64SS := has_of (md := beside) tabOk (hint := [(20, 1)]) (fn := Try.f21) (by kernel_rfl) (show Try.prog.funcs[21]? = some Try.f21 from Try.func21) (by kernel_rfl)
theorem h_laws_eqInt64SS : Has (md := beside) Try.prog (seatFn tab) 20 2 V_laws_eqInt64SS := has_of (md := beside) tabOk (hint := []) (fn := Try.f8) (by kernel_rfl) (show Try.prog.funcs[8]? = some Try.f8 from Try.func8) (by kernel_rfl)
theorem h_laws_markInt64SS : Has (md := beside) Try.prog (seatFn tab) 21 2 V_laws_markInt64SS := has_of (md := beside) tabOk (hint := [(17, 1)]) (fn := Try.f11) (by kernel_rfl) (show Try.prog.funcs[11]? = some Try.f11 from Try.func11) (by kernel_rfl)
theorem h_spec_l02Is : Has (md := beside) Try.prog (seatFn tab) 22 1 V_spec_l02Is := has_of (md := beside) tabOk (hint := []) (fn := Try.f37) (by kernel_rfl) (show Try.prog.funcs[37]? = some Try.f37 from Try.func37) (by kernel_rfl)
theorem h_Category_isCategory : Has (md := beside) Try.prog (seatFn tab) 24 1 V_Category_isCategory := has_of (md := beside) tabOk (hint := []) (fn := Try.f40) (by kernel_rfl) (show Try.prog.funcs[40]? = some Try.f40 from Try.func40) (by kernel_rfl)
theorem h_within : Has (md := beside) Try.prog (seatFn tab) 25 2 V_within := has_of (md := beside) tabOk (hint := []) (fn := Try.f41) (by kernel_rfl) (show Try.prog.funcs[41]? = some Try.f41 from Try.func41) (by kernel_rfl)
theorem h_Category_arrows : Has (md := beside) Try.prog (seatFn tab) 26 1 V_Category_arrows := has_of (md := beside) tabOk (hint := []) (fn := Try.f42) (by kernel_rfl) (show Try.prog.funcs[42]? = some Try.f42 from Try.func42) (by kernel_rfl)
theorem h_spec_IsShape : Has (md := beside) Try.prog (seatFn tab) 28 1 V_spec_IsShape := has_of (md := beside) tabOk (hint := []) (fn := Try.f44) (by kernel_rfl) (show Try.prog.funcs[44]? = some Try.f44 from Try.func44) (by kernel_rfl)
theorem h_spec_l02Fault : Has (md := beside) Try.prog (seatFn tab) 29 1 V_spec_l02Fault := has_of (md := beside) tabOk (hint := []) (fn := Try.f45) (by kernel_rfl) (show Try.prog.funcs[45]? = some Try.f45 from Try.func45) (by kernel_rfl)
theorem h_Category_isShape : Has (md := beside) Try.prog (seatFn tab) 30 1 V_Category_isShape := has_of (md := beside) tabOk (hint := []) (fn := Try.f46) (by kernel_rfl) (show Try.prog.funcs[46]? = some Try.f46 from Try.func46) (by kernel_rfl)
theorem h_Category_fault : Has (md := beside) Try.prog (seatFn tab) 31 1 V_Category_fault := has_of (md := beside) tabOk (hint := []) (fn := Try.f47) (by kernel_rfl) (show Try.prog.funcs[47]? = some Try.f47 from Try.func47) (by kernel_rfl)
theorem h_inRange : Has (md := beside) Try.prog (seatFn tab) 32 3 V_inRange := has_of (md := beside) tabOk (hint := []) (fn := Try.f23) (by kernel_rfl) (show Try.prog.funcs[23]? = some Try.f23 from Try.func23) (by kernel_rfl)
theorem h_Category_hom : Has (md := beside) Try.prog (seatFn tab) 33 3 V_Category_hom := has_of (md := beside) tabOk (hint := []) (fn := Try.f36) (by kernel_rfl) (show Try.prog.funcs[36]? = some Try.f36 from Try.func36) (by kernel_rfl)
theorem h_Category_then : Has (md := beside) Try.prog (seatFn tab) 34 3 V_Category_then := has_of (md := beside) tabOk (hint := []) (fn := Try.f50) (by kernel_rfl) (show Try.prog.funcs[50]? = some Try.f50 from Try.func50) (by kernel_rfl)
theorem h_spec_l01In : Has (md := beside) Try.prog (seatFn tab) 35 3 V_spec_l01In := has_of (md := beside) tabOk (hint := []) (fn := Try.f38) (by kernel_rfl) (show Try.prog.funcs[38]? = some Try.f38 from Try.func38) (by kernel_rfl)
theorem h_spec_l02Ends : Has (md := beside) Try.prog (seatFn tab) 36 3 V_spec_l02Ends := has_of (md := beside) tabOk (hint := []) (fn := Try.f48) (by kernel_rfl) (show Try.prog.funcs[48]? = some Try.f48 from Try.func48) (by kernel_rfl)
theorem h_spec_l01Map : Has (md := beside) Try.prog (seatFn tab) 37 2 V_spec_l01Map := has_of (md := beside) tabOk (hint := []) (fn := Try.f39) (by kernel_rfl) (show Try.prog.funcs[39]? = some Try.f39 from Try.func39) (by kernel_rfl)
theorem h_Category_ends : Has (md := beside) Try.prog (seatFn tab) 38 2 V_Category_ends := has_of (md := beside) tabOk (hint := []) (fn := Try.f49) (by kernel_rfl) (show Try.prog.funcs[49]? = some Try.f49 from Try.func49) (by kernel_rfl)
theorem h_laws_FnExactPowerSlots : Has (md := beside) Try.prog (seatFn tab) 59 2 V_laws_FnExactPowerSlots := has_of (md := beside) tabOk (hint := [(29, 1), (33, 2), (52, 1), (68, 1), (81, 2)]) (fn := Try.f3) (by kernel_rfl) (show Try.prog.funcs[3]? = some Try.f3 from Try.func3) (by kernel_rfl)
theorem h_laws_szSetFunctor : Has (md := beside) Try.prog (seatFn tab) 140 2 V_laws_szSetFunctor := has_of (md := beside) tabOk (hint := []) (fn := Try.f4) (by kernel_rfl) (show Try.prog.funcs[4]? = some Try.f4 from Try.func4) (by kernel_rfl)
theorem h_laws_toSetFunctor : Has (md := beside) Try.prog (seatFn tab) 142 1 V_laws_toSetFunctor := has_of (md := beside) tabOk (hint := [(6, 1), (10, 1), (14, 1)]) (fn := Try.f6) (by kernel_rfl) (show Try.prog.funcs[6]? = some Try.f6 from Try.func6) (by kernel_rfl)
theorem h_laws_eqSetFunctor : Has (md := beside) Try.prog (seatFn tab) 144 2 V_laws_eqSetFunctor := has_of (md := beside) tabOk (hint := []) (fn := Try.f9) (by kernel_rfl) (show Try.prog.funcs[9]? = some Try.f9 from Try.func9) (by kernel_rfl)
theorem h_spec_PowerSlots : Has (md := beside) Try.prog (seatFn tab) 147 2 V_spec_PowerSlots := has_of (md := beside) tabOk (hint := []) (fn := Try.f5) (by kernel_rfl) (show Try.prog.funcs[5]? = some Try.f5 from Try.func5) (by kernel_rfl)
theorem h_PowerSlots : Has (md := beside) Try.prog (seatFn tab) 148 2 V_PowerSlots := has_of (md := beside) tabOk (hint := [(16, 2)]) (fn := Try.f7) (by kernel_rfl) (show Try.prog.funcs[7]? = some Try.f7 from Try.func7) (by kernel_rfl)
theorem h_laws_markSetFunctor : Has (md := beside) Try.prog (seatFn tab) 149 2 V_laws_markSetFunctor := has_of (md := beside) tabOk (hint := [(8, 1), (12, 1), (16, 1), (2, 3)]) (fn := Try.f10) (by kernel_rfl) (show Try.prog.funcs[10]? = some Try.f10 from Try.func10) (by kernel_rfl)
theorem h_laws_heldInt64SS : Has (md := beside) Try.prog (seatFn tab) 150 2 V_laws_heldInt64SS := has_of (md := beside) tabOk (hint := []) (fn := Try.f12) (by kernel_rfl) (show Try.prog.funcs[12]? = some Try.f12 from Try.func12) (by kernel_rfl)
theorem h_spec_l19Shape : Has (md := beside) Try.prog (seatFn tab) 278 1 V_spec_l19Shape := has_of (md := beside) tabOk (hint := []) (fn := Try.f30) (by kernel_rfl) (show Try.prog.funcs[30]? = some Try.f30 from Try.func30) (by kernel_rfl)
theorem h_spec_l19Fault : Has (md := beside) Try.prog (seatFn tab) 279 1 V_spec_l19Fault := has_of (md := beside) tabOk (hint := []) (fn := Try.f31) (by kernel_rfl) (show Try.prog.funcs[31]? = some Try.f31 from Try.func31) (by kernel_rfl)
theorem h_SetFunctor_isShape : Has (md := beside) Try.prog (seatFn tab) 280 1 V_SetFunctor_isShape := has_of (md := beside) tabOk (hint := []) (fn := Try.f33) (by kernel_rfl) (show Try.prog.funcs[33]? = some Try.f33 from Try.func33) (by kernel_rfl)
theorem h_SetFunctor_fault : Has (md := beside) Try.prog (seatFn tab) 281 1 V_SetFunctor_fault := has_of (md := beside) tabOk (hint := []) (fn := Try.f34) (by kernel_rfl) (show Try.prog.funcs[34]? = some Try.f34 from Try.func34) (by kernel_rfl)
theorem h_spec_l19Is : Has (md := beside) Try.prog (seatFn tab) 282 1 V_spec_l19Is := has_of (md := beside) tabOk (hint := []) (fn := Try.f16) (by kernel_rfl) (show Try.prog.funcs[16]? = some Try.f16 from Try.func16) (by kernel_rfl)
theorem h_SetFunctor_isSetFunctor : Has (md := beside) Try.prog (seatFn tab) 283 1 V_SetFunctor_isSetFunctor := has_of (md := beside) tabOk (hint := []) (fn := Try.f22) (by kernel_rfl) (show Try.prog.funcs[22]? = some Try.f22 from Try.func22) (by kernel_rfl)
theorem h_spec_l02Object : Has (md := beside) Try.prog (seatFn tab) 284 2 V_spec_l02Object := has_of (md := beside) tabOk (hint := []) (fn := Try.f17) (by kernel_rfl) (show Try.prog.funcs[17]? = some Try.f17 from Try.func17) (by kernel_rfl)
theorem h_spec_l24Slots : Has (md := beside) Try.prog (seatFn tab) 285 2 V_spec_l24Slots := has_of (md := beside) tabOk (hint := []) (fn := Try.f18) (by kernel_rfl) (show Try.prog.funcs[18]? = some Try.f18 from Try.func18) (by kernel_rfl)
theorem h_spec_l02Hom : Has (md := beside) Try.prog (seatFn tab) 309 3 V_spec_l02Hom := has_of (md := beside) tabOk (hint := []) (fn := Try.f32) (by kernel_rfl) (show Try.prog.funcs[32]? = some Try.f32 from Try.func32) (by kernel_rfl)
theorem h_isMapOf : Has (md := beside) Try.prog (seatFn tab) 391 3 V_isMapOf := has_of (md := beside) tabOk (hint := []) (fn := Try.f43) (by kernel_rfl) (show Try.prog.funcs[43]? = some Try.f43 from Try.func43) (by kernel_rfl)
theorem g_Category_hom : Has (md := free false) Try.prog (seatFn tab) 33 3 V_Category_hom := has_of (md := free false) tabOk (hint := []) (fn := Try.f36) (by kernel_rfl) (show Try.prog.funcs[36]? = some Try.f36 from Try.func36) (by kernel_rfl)
theorem r_HLaw : HLaw (md := beside) Try.prog (seatFn tab) := ⟨h_laws_szInt64S, h_laws_szInt64SS, h_laws_szCategory, h_laws_toInt64S, h_laws_toInt64SS, h_laws_toCategory, h_laws_eqInt64S, h_laws_eqInt64SS, h_laws_eqCategory⟩
theorem r_HLawF : HLawF (md := beside) Try.prog (seatFn tab) := ⟨h_laws_szSetFunctor, h_laws_toSetFunctor, h_laws_eqSetFunctor⟩
theorem r_HMark : HMark (md := beside) Try.prog (seatFn tab) := ⟨h_laws_markInt64S, h_laws_markInt64SS, h_laws_markCategory, h_laws_heldInt64S⟩
theorem r_HCat : HCat (md := beside) Try.prog (seatFn tab) := ⟨h_Category_arrows, h_inRange, h_within, h_Category_ends, h_Category_then, h_Category_isShape, h_Category_fault, h_Category_isCategory⟩
theorem r_HSF : HSF (md := beside) Try.prog (seatFn tab) := ⟨h_isMapOf, h_SetFunctor_isShape, h_SetFunctor_fault, h_SetFunctor_isSetFunctor⟩
theorem r_HSpec : HSpec (md := beside) Try.prog (seatFn tab) := ⟨h_spec_l01In, h_spec_l01Map, h_spec_l02Ends, h_spec_IsShape, h_spec_l02Fault, h_spec_l02Is⟩
theorem r_HSFS : HSFS (md := beside) Try.prog (seatFn tab) := ⟨h_spec_l19Shape, h_spec_l19Fault, h_spec_l19Is⟩
theorem bodyS : Try.f24.body = some (Try.f24.body.getD .skip) := by kernel_rfl
theorem bodyC : Try.f35.body = some (Try.f35.body.getD .skip) := by kernel_rfl
theorem slF : ∃ p pc, SlF Try.prog (seatFn tab) (seatNum tab) [] [(42, 3)] p pc := by
  obtain ⟨p, hp, ok⟩ := chkS_ok (T := ⟨Try.prog, seatNum tab, [], 25⟩) (c := Try.f24.body.getD .skip) (by kernel_rfl)
  obtain ⟨pc, hpc, okc⟩ := chk_ok (T := ⟨Try.prog, seatNum tab, [(42, 3)], 46⟩) (c := Try.f35.body.getD .skip) (by kernel_rfl)
  exact ⟨p, pc, tabOk, ok, okc, ⟨Try.f24, show Try.prog.funcs[24]? = some Try.f24 from Try.func24, by rw [bodyS, hp], by kernel_rfl, by kernel_rfl, by kernel_rfl⟩, Try.f35, show Try.prog.funcs[35]? = some Try.f35 from Try.func35, by rw [bodyC, hpc], by kernel_rfl, by kernel_rfl, by kernel_rfl, by kernel_rfl⟩
open Classical in
theorem law_args (avs : List AV) (h1 : avs.length = ([sfTy, .int] : List Ty).length) (h2 : ∀ i (h : i < avs.length) (h' : i < ([sfTy, .int] : List Ty).length), ShpV ([sfTy, .int] : List Ty)[i] avs[i]) : OkM (md := beside) Try.prog (seatFn tab) 59 avs hempty 0 (fun r _ _ => r = bool true) := by
  obtain ⟨p, pc, hF⟩ := slF
  obtain ⟨a0, a1, rfl⟩ := ListLen2 (md := beside) h1
  obtain ⟨f, e0, rd_f⟩ := ShpV.sf (md := beside) (h2 0 (by simp) (by simp))
  obtain ⟨x, e1, _⟩ := ShpV.int (md := beside) (h2 1 (by simp) (by simp))
  simp only [List.getElem_cons_zero, List.getElem_cons_succ] at e0 e1
  subst e0; subst e1
  exact law_PowerSlots (md := beside) r_HLaw r_HLawF r_HMark h_laws_markSetFunctor h_laws_heldInt64SS h_laws_FnExactPowerSlots f rd_f x (fun b => PowerSlots_both (md := beside) r_HCat r_HSF h_PowerSlots r_HSpec r_HSFS h_spec_l02Object h_spec_l02Hom h_spec_l24Slots h_spec_PowerSlots f b x fun hs _ => slots_fine hF g_Category_hom f x hs)
theorem own : ownKnob Try.prog.godebug = none := by kernel_rfl
theorem laidOut : laidOutB Try.prog = true := by kernel_rfl
set_option maxRecDepth 100000 in
theorem lifted (os : Os) (started : os.Started) (H : Type) (enc : TypeId × Value → H) :
    ReturnsInLeavingWide {} Try.checked os 3 .any (Rows.fnExactPowerSlotsSpec.pre6 enc Try.prog Try.f3 Rows.fnExactPowerSlotsRow.domain false) (Rows.fnExactPowerSlotsSpec.post enc Try.prog Try.f3 false true false false) := by
  refine returnsInLeavingWide_of_change_sized (C := Try.checked) own started Try.func3
    (ChangeSpec.witness6 (enc := enc) (C := Try.checked) false ⟨#[], #[.agg #[.int .i64 0, .slice none 0 0, .slice none 0 0, .slice none 0 0, .slice none 0 0, .slice none 0 0, .slice none 0 0], .int .i64 0], []⟩ 8 (by kernel_rfl) (by kernel_rfl) (by kernel_rfl) (by kernel_rfl)) ?_
  intro W base args ds gs before hval hW _ _ _
  have hc := row_calls (md := beside) (P := Try.prog) (ν := seatFn tab) (fn := Try.f3) (s := Rows.fnExactPowerSlotsSpec) (id := 59) (tb := Try.f3.resultTypes.getD 0 0) (m := 8) (tys := [sfTy, .int]) laidOut (by kernel_rfl) (by kernel_rfl) (by kernel_rfl) rfl (fun ds hd => by obtain ⟨_, _, rfl⟩ := (ListLen2 (md := beside) hd); rfl) (by kernel_rfl) rfl law_args W base args ds gs before hval hW
  exact good_of_calls hc (fun v w d hR => by
    obtain ⟨v1, e, hp⟩ := hR
    cases e
    exact post_at d hp) (by kernel_rfl)
/-- For every input: the statement's function returns true. -/
theorem holds : Rows.FnExactPowerSlotsSaid :=
  OpenClaim.holds_of_wide_leaving 3 Try.f3 rfl rfl rfl rfl rfl rfl rfl ⟨rfl, rfl, rfl, rfl, rfl⟩ rfl rfl rfl rfl rfl (by kernel_rfl) Try.func3 (by kernel_rfl)
    (of_decide_eq_true (by kernel_rfl)) (by unfold Func.isWrapper; first | (rw [if_pos (by decide +kernel)]; kernel_rfl) | (rw [if_neg (by decide +kernel)]; exact ⟨rfl, rfl⟩))
    (fun os started H enc _ => lifted os started H enc)
end Go.Proofs.Ytomlmcfcjlfhjaa.FnExactPowerSlots
