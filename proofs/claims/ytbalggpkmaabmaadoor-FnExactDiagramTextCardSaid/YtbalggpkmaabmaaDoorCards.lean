/-
  DERIVED. GIVEN WITH THE SEED: THE CARDS: each row of YtbalggpkmaabmaaDoorRows.lean that lists a variable, with what it lists TIED to the program's text (the seventh form; the later family's looks); each row that meets fmt, with fmt's text TOLD by the authors' own Lean function (tested against real Go, not proved from fmt's source: count such statements apart). THE CARD IS WHAT COUNTS. Prove the row's statement (the work); the ties are given (YtbalggpkmaabmaaDoorTie.lean); close each card by the builder's one call (the guide's Derived/Test/ToyasCard.lean, 'card_holds'). Laid BY PROGRAM, IN A SANDBOX (cutbox-door.mjs). By AI agents, Wed Nov 11 2026. No macro, syntax, notation, axiom, sorry.
-/
import Derived.Test.YtbalggpkmaabmaaDoorRows
import GoSem.ClaimSeven
namespace Go.Proofs.YtbalggpkmaabmaaDoor
namespace Rows

/-- THE TIED CARD OF 'laws.FnExactDiagramText'. -/
def fnExactDiagramTextCard : Claim7 := { stood := { row := fnExactDiagramTextRow, standIns := [], harness := (true, "0de277504177698b5dacdbd66926f18fec07b1fc2887037f36913600cddcfd30"), looks := false }, kinds := [], alts := [], laidByText := true, laidKinds := [.data, .data, .data], laidTests := true, laidLooks := .later }
def FnExactDiagramTextCardSaid : Prop := Claim7.holds Tryd.pinned (.plain (OpenSpec.ofChange fnExactDiagramTextSpec)) fnExactDiagramTextCard

/-- THE SECOND FORM's CARD OF 'laws.FnExactDiagramText'. -/
def fnExactDiagramTextUptoCard : Claim7 := { stood := { row := fnExactDiagramTextUptoRow, standIns := [], harness := (true, "0de277504177698b5dacdbd66926f18fec07b1fc2887037f36913600cddcfd30"), looks := false }, kinds := [], alts := [], laidByText := true, laidKinds := [.data, .data, .data], laidTests := true, laidLooks := .later }
def FnExactDiagramTextUptoCardSaid : Prop := Claim7.holds Tryd.pinned (.plain (OpenSpec.upto fnExactDiagramTextSpec)) fnExactDiagramTextUptoCard
end Rows
end Go.Proofs.YtbalggpkmaabmaaDoor
