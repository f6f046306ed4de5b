/-
  SectionsOf: what the two have in common.
-/
import Derived.Test.YtalfoffamemfnaaAvB0
namespace Go.Av
open Classical
variable {P : Program} {ν : Nat → FuncId}
theorem SectionsOf_both (K : HCat P ν) (hh : Has P ν 33 3 V_Category_hom) (hl : Has P ν 27 3 V_Category_lifts) (hs : Has P ν 19 2 V_Category_sections) (ha : Has P ν 18 2 V_arrowCode) (h : Has P ν 6 2 V_SectionsOf) (KS : HSpec P ν) (ga : Has P ν 23 2 V_spec_l05Arrow) (gc : Has P ν 14 2 V_spec_l05Code) (gs : Has P ν 15 2 V_spec_l05Sections) (g : Has P ν 4 2 V_spec_SectionsOf) (c : Cat) (b : Small c) (f : Int) :
    BothP P ν 6 4 [.agg c.cells, int f] := by
  refine ⟨_, _, ?_, fun H nx => SectionsOf_ok K hh hl hs ha h c b f H nx, fun H nx => sSectionsOf_ok KS ga gc gs g c b f H nx⟩
  split
  · rename_i h; exact Nat.le_trans (Nat.le_trans (List.length_filter_le _ _) (selL_len _ _)) (Nat.le_trans h.1.1.n40 (by omega))
  · simp
end Go.Av
