/-
  The functions of this seat in the layer's second form, each checked by the kernel against the translation.
-/
import Derived.Test.YtlggefpkplobjaaRows
import Derived.Test.YtlggefpkplobjaaAvL1
import Derived.Test.YtlggefpkplobjaaAvO1
import Derived.ProofKit
namespace Go.Proofs.Ytlggefpkplobjaa.FnExactSectionsOf
open Go.Av
def tab : List (Nat × Nat) := [(3, 2), (4, 3), (5, 4), (6, 5), (7, 6), (8, 7), (9, 8), (10, 9), (11, 10), (12, 11), (13, 12), (14, 13), (15, 14), (16, 15), (17, 16), (18, 17), (19, 18), (20, 19), (21, 20), (22, 21), (23, 22), (24, 23), (25, 24), (26, 25), (27, 26), (28, 27), (29, 28), (30, 29), (31, 30), (32, 31), (33, 32), (34, 33), (35, 34), (36, 35), (37, 36), (38, 37), (39, 38)]
theorem tabOk : ∀ f id, seatNum tab f = some id → seatFn tab id = f := seat_inv (by decide +kernel)
theorem h_laws_FnExactSectionsOf : Has Try.prog (seatFn tab) 2 2 V_laws_FnExactSectionsOf := has_of tabOk (hint := [(29, 1), (33, 2), (52, 1), (68, 1), (81, 2)]) (fn := Try.f3) (by kernel_rfl) (show Try.prog.funcs[3]? = some Try.f3 from Try.func3) (by kernel_rfl)
theorem h_laws_szCategory : Has Try.prog (seatFn tab) 3 2 V_laws_szCategory := has_of tabOk (hint := []) (fn := Try.f4) (by kernel_rfl) (show Try.prog.funcs[4]? = some Try.f4 from Try.func4) (by kernel_rfl)
theorem h_spec_SectionsOf : Has Try.prog (seatFn tab) 4 2 V_spec_SectionsOf := has_of tabOk (hint := [(15, 1)]) (fn := Try.f5) (by kernel_rfl) (show Try.prog.funcs[5]? = some Try.f5 from Try.func5) (by kernel_rfl)
theorem h_laws_toCategory : Has Try.prog (seatFn tab) 5 1 V_laws_toCategory := has_of tabOk (hint := [(9, 1), (13, 1), (17, 1), (21, 1)]) (fn := Try.f6) (by kernel_rfl) (show Try.prog.funcs[6]? = some Try.f6 from Try.func6) (by kernel_rfl)
theorem h_SectionsOf : Has Try.prog (seatFn tab) 6 2 V_SectionsOf := has_of tabOk (hint := [(14, 1)]) (fn := Try.f7) (by kernel_rfl) (show Try.prog.funcs[7]? = some Try.f7 from Try.func7) (by kernel_rfl)
theorem h_laws_eqInt64S : Has Try.prog (seatFn tab) 7 2 V_laws_eqInt64S := has_of tabOk (hint := []) (fn := Try.f8) (by kernel_rfl) (show Try.prog.funcs[8]? = some Try.f8 from Try.func8) (by kernel_rfl)
theorem h_laws_eqCategory : Has Try.prog (seatFn tab) 8 2 V_laws_eqCategory := has_of tabOk (hint := []) (fn := Try.f9) (by kernel_rfl) (show Try.prog.funcs[9]? = some Try.f9 from Try.func9) (by kernel_rfl)
theorem h_laws_markCategory : Has Try.prog (seatFn tab) 9 2 V_laws_markCategory := has_of tabOk (hint := [(8, 1), (12, 1), (16, 1), (20, 1), (2, 3)]) (fn := Try.f10) (by kernel_rfl) (show Try.prog.funcs[10]? = some Try.f10 from Try.func10) (by kernel_rfl)
theorem h_laws_markInt64S : Has Try.prog (seatFn tab) 10 2 V_laws_markInt64S := has_of tabOk (hint := []) (fn := Try.f11) (by kernel_rfl) (show Try.prog.funcs[11]? = some Try.f11 from Try.func11) (by kernel_rfl)
theorem h_laws_heldInt64S : Has Try.prog (seatFn tab) 11 2 V_laws_heldInt64S := has_of tabOk (hint := []) (fn := Try.f12) (by kernel_rfl) (show Try.prog.funcs[12]? = some Try.f12 from Try.func12) (by kernel_rfl)
theorem h_laws_szInt64S : Has Try.prog (seatFn tab) 12 2 V_laws_szInt64S := has_of tabOk (hint := []) (fn := Try.f13) (by kernel_rfl) (show Try.prog.funcs[13]? = some Try.f13 from Try.func13) (by kernel_rfl)
theorem h_laws_szInt64SS : Has Try.prog (seatFn tab) 13 2 V_laws_szInt64SS := has_of tabOk (hint := []) (fn := Try.f14) (by kernel_rfl) (show Try.prog.funcs[14]? = some Try.f14 from Try.func14) (by kernel_rfl)
theorem h_spec_l05Code : Has Try.prog (seatFn tab) 14 2 V_spec_l05Code := has_of tabOk (hint := []) (fn := Try.f15) (by kernel_rfl) (show Try.prog.funcs[15]? = some Try.f15 from Try.func15) (by kernel_rfl)
theorem h_spec_l05Sections : Has Try.prog (seatFn tab) 15 2 V_spec_l05Sections := has_of tabOk (hint := []) (fn := Try.f16) (by kernel_rfl) (show Try.prog.funcs[16]? = some Try.f16 from Try.func16) (by kernel_rfl)
theorem h_laws_toInt64S : Has Try.prog (seatFn tab) 16 1 V_laws_toInt64S := has_of tabOk (hint := []) (fn := Try.f17) (by kernel_rfl) (show Try.prog.funcs[17]? = some Try.f17 from Try.func17) (by kernel_rfl)
theorem h_laws_toInt64SS : Has Try.prog (seatFn tab) 17 1 V_laws_toInt64SS := has_of tabOk (hint := [(20, 1)]) (fn := Try.f18) (by kernel_rfl) (show Try.prog.funcs[18]? = some Try.f18 from Try.func18) (by kernel_rfl)
theorem h_arrowCode : Has Try.prog (seatFn tab) 18 2 V_arrowCode := has_of tabOk (hint := []) (fn := Try.f19) (by kernel_rfl) (show Try.prog.funcs[19]? = some Try.f19 from Try.func19) (by kernel_rfl)
theorem h_Category_sections : Has Try.prog (seatFn tab) 19 2 V_Category_sections := has_of tabOk (hint := [(20, 1)]) (fn := Try.f20) (by kernel_rfl) (show Try.prog.funcs[20]? = some Try.f20 from Try.func20) (by kernel_rfl)
theorem h_laws_eqInt64SS : Has Try.prog (seatFn tab) 20 2 V_laws_eqInt64SS := has_of tabOk (hint := []) (fn := Try.f21) (by kernel_rfl) (show Try.prog.funcs[21]? = some Try.f21 from Try.func21) (by kernel_rfl)
theorem h_laws_markInt64SS : Has Try.prog (seatFn tab) 21 2 V_laws_markInt64SS := has_of tabOk (hint := [(17, 1)]) (fn := Try.f22) (by kernel_rfl) (show Try.prog.funcs[22]? = some Try.f22 from Try.func22) (by kernel_rfl)
theorem h_spec_l02Is : Has Try.prog (seatFn tab) 22 1 V_spec_l02Is := has_of tabOk (hint := []) (fn := Try.f23) (by kernel_rfl) (show Try.prog.funcs[23]? = some Try.f23 from Try.func23) (by kernel_rfl)
theorem h_spec_l05Arrow : Has Try.prog (seatFn tab) 23 2 V_spec_l05Arrow := has_of tabOk (hint := []) (fn := Try.f24) (by kernel_rfl) (show Try.prog.funcs[24]? = some Try.f24 from Try.func24) (by kernel_rfl)
theorem h_Category_isCategory : Has Try.prog (seatFn tab) 24 1 V_Category_isCategory := has_of tabOk (hint := []) (fn := Try.f25) (by kernel_rfl) (show Try.prog.funcs[25]? = some Try.f25 from Try.func25) (by kernel_rfl)
theorem h_within : Has Try.prog (seatFn tab) 25 2 V_within := has_of tabOk (hint := []) (fn := Try.f26) (by kernel_rfl) (show Try.prog.funcs[26]? = some Try.f26 from Try.func26) (by kernel_rfl)
theorem h_Category_arrows : Has Try.prog (seatFn tab) 26 1 V_Category_arrows := has_of tabOk (hint := []) (fn := Try.f27) (by kernel_rfl) (show Try.prog.funcs[27]? = some Try.f27 from Try.func27) (by kernel_rfl)
theorem h_Category_lifts : Has Try.prog (seatFn tab) 27 3 V_Category_lifts := has_of tabOk (hint := []) (fn := Try.f28) (by kernel_rfl) (show Try.prog.funcs[28]? = some Try.f28 from Try.func28) (by kernel_rfl)
theorem h_spec_IsShape : Has Try.prog (seatFn tab) 28 1 V_spec_IsShape := has_of tabOk (hint := []) (fn := Try.f29) (by kernel_rfl) (show Try.prog.funcs[29]? = some Try.f29 from Try.func29) (by kernel_rfl)
theorem h_spec_l02Fault : Has Try.prog (seatFn tab) 29 1 V_spec_l02Fault := has_of tabOk (hint := []) (fn := Try.f30) (by kernel_rfl) (show Try.prog.funcs[30]? = some Try.f30 from Try.func30) (by kernel_rfl)
theorem h_Category_isShape : Has Try.prog (seatFn tab) 30 1 V_Category_isShape := has_of tabOk (hint := []) (fn := Try.f31) (by kernel_rfl) (show Try.prog.funcs[31]? = some Try.f31 from Try.func31) (by kernel_rfl)
theorem h_Category_fault : Has Try.prog (seatFn tab) 31 1 V_Category_fault := has_of tabOk (hint := []) (fn := Try.f32) (by kernel_rfl) (show Try.prog.funcs[32]? = some Try.f32 from Try.func32) (by kernel_rfl)
theorem h_inRange : Has Try.prog (seatFn tab) 32 3 V_inRange := has_of tabOk (hint := []) (fn := Try.f33) (by kernel_rfl) (show Try.prog.funcs[33]? = some Try.f33 from Try.func33) (by kernel_rfl)
theorem h_Category_hom : Has Try.prog (seatFn tab) 33 3 V_Category_hom := has_of tabOk (hint := []) (fn := Try.f34) (by kernel_rfl) (show Try.prog.funcs[34]? = some Try.f34 from Try.func34) (by kernel_rfl)
theorem h_Category_then : Has Try.prog (seatFn tab) 34 3 V_Category_then := has_of tabOk (hint := []) (fn := Try.f35) (by kernel_rfl) (show Try.prog.funcs[35]? = some Try.f35 from Try.func35) (by kernel_rfl)
theorem h_spec_l01In : Has Try.prog (seatFn tab) 35 3 V_spec_l01In := has_of tabOk (hint := []) (fn := Try.f36) (by kernel_rfl) (show Try.prog.funcs[36]? = some Try.f36 from Try.func36) (by kernel_rfl)
theorem h_spec_l02Ends : Has Try.prog (seatFn tab) 36 3 V_spec_l02Ends := has_of tabOk (hint := []) (fn := Try.f37) (by kernel_rfl) (show Try.prog.funcs[37]? = some Try.f37 from Try.func37) (by kernel_rfl)
theorem h_spec_l01Map : Has Try.prog (seatFn tab) 37 2 V_spec_l01Map := has_of tabOk (hint := []) (fn := Try.f38) (by kernel_rfl) (show Try.prog.funcs[38]? = some Try.f38 from Try.func38) (by kernel_rfl)
theorem h_Category_ends : Has Try.prog (seatFn tab) 38 2 V_Category_ends := has_of tabOk (hint := []) (fn := Try.f39) (by kernel_rfl) (show Try.prog.funcs[39]? = some Try.f39 from Try.func39) (by kernel_rfl)
theorem hcat : HCat Try.prog (seatFn tab) := ⟨h_Category_arrows, h_inRange, h_within, h_Category_ends, h_Category_then, h_Category_isShape, h_Category_fault, h_Category_isCategory⟩
theorem hspec : HSpec Try.prog (seatFn tab) := ⟨h_spec_l01In, h_spec_l01Map, h_spec_l02Ends, h_spec_IsShape, h_spec_l02Fault, h_spec_l02Is⟩
theorem hlaw : HLaw Try.prog (seatFn tab) := ⟨h_laws_szInt64S, h_laws_szInt64SS, h_laws_szCategory, h_laws_toInt64S, h_laws_toInt64SS, h_laws_toCategory, h_laws_eqInt64S, h_laws_eqInt64SS, h_laws_eqCategory⟩
theorem hmark : HMark Try.prog (seatFn tab) := ⟨h_laws_markInt64S, h_laws_markInt64SS, h_laws_markCategory, h_laws_heldInt64S⟩
open Classical in
theorem law_args (avs : List AV) (h1 : avs.length = [catTy, .int].length) (h2 : ∀ i (h : i < avs.length) (h' : i < [catTy, Ty.int].length), ShpV [catTy, Ty.int][i] avs[i]) : OkM Try.prog (seatFn tab) 2 avs hempty 0 (fun r _ _ => r = bool true) := by
  obtain ⟨a, b, rfl⟩ := ListLen2 h1
  obtain ⟨c, rfl, rd, _⟩ := (h2 0 (by simp) (by simp)).cat
  obtain ⟨f, rfl, _⟩ := (h2 1 (by simp) (by simp)).int
  refine law_SectionsOf hlaw hmark h_laws_FnExactSectionsOf c rd f _ _ ?_ (fun b H nx => SectionsOf_ok hcat h_Category_hom h_Category_lifts h_Category_sections h_arrowCode h_SectionsOf c b.toSmall f H nx) (fun b H nx => sSectionsOf_ok hspec h_spec_l05Arrow h_spec_l05Code h_spec_l05Sections h_spec_SectionsOf c b.toSmall f H nx)
  split
  · rename_i h; exact Nat.le_trans (secL_len c f) (Nat.le_trans h.1.1.n40 (by omega))
  · simp
theorem own : ownKnob Try.prog.godebug = none := by kernel_rfl
theorem laidOut : laidOutB Try.prog = true := by kernel_rfl
theorem lifted (os : Os) (started : os.Started) (H : Type) (enc : TypeId × Value → H) :
    ReturnsInHanded {} Try.checked os 3 .any (Rows.fnExactSectionsOfSpec.pre6 enc Try.prog Try.f3 Rows.fnExactSectionsOfRow.domain false) (Rows.fnExactSectionsOfSpec.post enc Try.prog Try.f3 false true false false) := by
  refine returnsInHanded_of_change (C := Try.checked) own started (by kernel_rfl) Try.func3
    (ChangeSpec.witness6 (enc := enc) (C := Try.checked) false ⟨#[], #[.agg #[.int .i64 0, .slice none 0 0, .slice none 0 0, .slice none 0 0, .slice none 0 0], .int .i64 0], []⟩ 8 (by kernel_rfl) (by kernel_rfl) (by kernel_rfl) (by kernel_rfl)) ?_
  intro W base args ds gs before hval hW _ _
  exact row_calls (P := Try.prog) (ν := seatFn tab) (fn := Try.f3) (s := Rows.fnExactSectionsOfSpec) (id := 2) (tb := Try.f3.resultTypes.getD 0 0) (m := 8) (tys := [catTy, .int]) laidOut (by kernel_rfl) (by kernel_rfl) (by kernel_rfl) rfl (fun ds hd => by obtain ⟨_, _, rfl⟩ := (ListLen2 hd); rfl) (by kernel_rfl) rfl law_args W base args ds gs before hval hW
/-- For every input: the statement's function returns true. -/
theorem holds : Rows.FnExactSectionsOfSaid :=
  OpenClaim.holds_of_wide 3 Try.f3 rfl rfl rfl rfl rfl rfl rfl ⟨rfl, rfl, rfl, rfl, rfl⟩ rfl rfl rfl rfl rfl (by kernel_rfl) Try.func3 (by kernel_rfl)
    (of_decide_eq_true (by kernel_rfl)) (by unfold Func.isWrapper; first | (rw [if_pos (by decide +kernel)]; kernel_rfl) | (rw [if_neg (by decide +kernel)]; exact ⟨rfl, rfl⟩))
    (fun os started H enc _ => lifted os started H enc)
end Go.Proofs.Ytlggefpkplobjaa.FnExactSectionsOf
