/-
  No cell of these rows narrows 'for every input' (looked for: loops, veiled, ifaces, maps, wideKeys, modest, calm, conditions, laid).
  DERIVED. THE GIVEN ROWS OF THIS SEAT. 4 by the template 'for every input the law returns true; each argument reads behind the call as it read before'; 0 by the template 'total and deterministic' (their statements: YtalfoffamemfnaaTotals.lean).
  GIVEN WITH THE SEED: the statements are not yours to turn. If you find one false, say at which input.
  Laid BY PROGRAM, IN A SANDBOX (cutbox-rows.mjs): the forced cells as the released guide's own fill.sh prints them over the translation a34ae1c5a38632c0… (all of the seat's roots in one cut). By AI agents, Wed Nov 11 2026. No macro, syntax, notation, axiom, sorry.
-/
import Derived.Test.YtalfoffamemfnaaChecked
import GoSem.Claim
import GoSem.ClaimJoined
import GoSem.ClaimMapViews
import Derived.JoinedTies
import Derived.KernelRfl
namespace Go.Proofs.Ytalfoffamemfnaa
/- THE CELL 'sum', in the pinned program and in every row, IS THE sha256 OF THE DUMP (.gsa) THAT YtalfoffamemfnaaProg.lean LOADS. Nothing in Lean hashes anything: it is a label: what it is worth is what the hold of that sum in a sandbox is worth. -/
noncomputable def Try.pinned : Pinned := { name := "ytalfoffamemfnaa", sum := "a34ae1c5a38632c09041a7b38e3a3f78269da7008833e107e428dac5c77beec4", checked := Try.checked }
namespace Rows
def none {H : Type} : Left H := { results := [], args := [] }

/-- 'laws.FnExactGeneratedArrows': WHATEVER THE INPUT: true; the input reads as it did. -/
def fnExactGeneratedArrowsSpec : ChangeSpec := { name := "fnExactGeneratedArrows", fn := fun _ => fun
  | [d1, d2] => { results := [.lit (.bool true)], args := [d1, d2] }
  | _ => none }
def fnExactGeneratedArrowsRow : OpenClaim := { program := "ytalfoffamemfnaa", sum := "a34ae1c5a38632c09041a7b38e3a3f78269da7008833e107e428dac5c77beec4", func := "loop.example/g01083/laws.FnExactGeneratedArrows", spec := "fnExactGeneratedArrows", unfollowed := true, recurses := true, plainKeys := false, apart := false }
def FnExactGeneratedArrowsSaid : Prop := fnExactGeneratedArrowsRow.holds Try.pinned (OpenSpec.ofChange fnExactGeneratedArrowsSpec)

/-- ITS FALSE NEIGHBOUR: 'it returns false'. Refute it at one input. -/
def fnExactGeneratedArrowsWrong : ChangeSpec := { name := "fnExactGeneratedArrows", fn := fun _ => fun
  | [d1, d2] => { results := [.lit (.bool false)], args := [d1, d2] }
  | _ => none }
def FnExactGeneratedArrowsWrongFalsely : Prop := fnExactGeneratedArrowsRow.holds Try.pinned (OpenSpec.ofChange fnExactGeneratedArrowsWrong)

/-- 'laws.FnExactImageArrows': WHATEVER THE INPUT: true; the input reads as it did. -/
def fnExactImageArrowsSpec : ChangeSpec := { name := "fnExactImageArrows", fn := fun _ => fun
  | [d] => { results := [.lit (.bool true)], args := [d] }
  | _ => none }
def fnExactImageArrowsRow : OpenClaim := { program := "ytalfoffamemfnaa", sum := "a34ae1c5a38632c09041a7b38e3a3f78269da7008833e107e428dac5c77beec4", func := "loop.example/g01083/laws.FnExactImageArrows", spec := "fnExactImageArrows", unfollowed := true, recurses := true, plainKeys := false, apart := false }
def FnExactImageArrowsSaid : Prop := fnExactImageArrowsRow.holds Try.pinned (OpenSpec.ofChange fnExactImageArrowsSpec)

/-- ITS FALSE NEIGHBOUR: 'it returns false'. Refute it at one input. -/
def fnExactImageArrowsWrong : ChangeSpec := { name := "fnExactImageArrows", fn := fun _ => fun
  | [d] => { results := [.lit (.bool false)], args := [d] }
  | _ => none }
def FnExactImageArrowsWrongFalsely : Prop := fnExactImageArrowsRow.holds Try.pinned (OpenSpec.ofChange fnExactImageArrowsWrong)

/-- 'laws.FnExactCoproductOf': WHATEVER THE INPUT: true; the input reads as it did. -/
def fnExactCoproductOfSpec : ChangeSpec := { name := "fnExactCoproductOf", fn := fun _ => fun
  | [d1, d2, d3] => { results := [.lit (.bool true)], args := [d1, d2, d3] }
  | _ => none }
def fnExactCoproductOfRow : OpenClaim := { program := "ytalfoffamemfnaa", sum := "a34ae1c5a38632c09041a7b38e3a3f78269da7008833e107e428dac5c77beec4", func := "loop.example/g01083/laws.FnExactCoproductOf", spec := "fnExactCoproductOf", unfollowed := true, recurses := true, plainKeys := false, apart := false }
def FnExactCoproductOfSaid : Prop := fnExactCoproductOfRow.holds Try.pinned (OpenSpec.ofChange fnExactCoproductOfSpec)

/-- ITS FALSE NEIGHBOUR: 'it returns false'. Refute it at one input. -/
def fnExactCoproductOfWrong : ChangeSpec := { name := "fnExactCoproductOf", fn := fun _ => fun
  | [d1, d2, d3] => { results := [.lit (.bool false)], args := [d1, d2, d3] }
  | _ => none }
def FnExactCoproductOfWrongFalsely : Prop := fnExactCoproductOfRow.holds Try.pinned (OpenSpec.ofChange fnExactCoproductOfWrong)

/-- 'laws.FnExactOppositeCategory': WHATEVER THE INPUT: true; the input reads as it did. -/
def fnExactOppositeCategorySpec : ChangeSpec := { name := "fnExactOppositeCategory", fn := fun _ => fun
  | [d] => { results := [.lit (.bool true)], args := [d] }
  | _ => none }
def fnExactOppositeCategoryRow : OpenClaim := { program := "ytalfoffamemfnaa", sum := "a34ae1c5a38632c09041a7b38e3a3f78269da7008833e107e428dac5c77beec4", func := "loop.example/g01083/laws.FnExactOppositeCategory", spec := "fnExactOppositeCategory", unfollowed := true, recurses := true, plainKeys := false, apart := false }
def FnExactOppositeCategorySaid : Prop := fnExactOppositeCategoryRow.holds Try.pinned (OpenSpec.ofChange fnExactOppositeCategorySpec)

/-- ITS FALSE NEIGHBOUR: 'it returns false'. Refute it at one input. -/
def fnExactOppositeCategoryWrong : ChangeSpec := { name := "fnExactOppositeCategory", fn := fun _ => fun
  | [d] => { results := [.lit (.bool false)], args := [d] }
  | _ => none }
def FnExactOppositeCategoryWrongFalsely : Prop := fnExactOppositeCategoryRow.holds Try.pinned (OpenSpec.ofChange fnExactOppositeCategoryWrong)

/- THE SECOND FORM. 'bulk': how many values and letters a reading holds, each counted each time it is reached (what is shared counts as often as it is met; a slice's spare places count too). A statement '..UptoSaid' is the law's where the arguments, and the package variables that the reading takes, are together of bulk at most 1048576: NARROWER than '..Said'. Prove '..Said' where nothing that the law and all that it calls make is longer than what came in: it says more and counts as full. Else prove '..UptoSaid'. A law counts once. -/
mutual
def uptoBulk {H : Type} : DataW H → Nat
  | .lit (.string bytes) => bytes.length + 1
  | .lit _ => 1
  | .nil => 1
  | .ptr d => uptoBulk d + 1
  | .slice elems spare => uptoBulkAll elems + uptoBulkAll spare + 1
  | .agg parts => uptoBulkAll parts + 1
  | .iface _ d => uptoBulk d + 1
  | .map entries => uptoBulkEntries entries + 1
  | .held _ => 1
def uptoBulkAll {H : Type} : List (DataW H) → Nat
  | [] => 0
  | d :: r => uptoBulk d + uptoBulkAll r
def uptoBulkEntries {H : Type} : List (Lit × DataW H) → Nat
  | [] => 0
  | x :: r => uptoBulkEntry x + uptoBulkEntries r
def uptoBulkEntry {H : Type} : Lit × DataW H → Nat
  | (.string bytes, d) => bytes.length + uptoBulk d + 1
  | (_, d) => uptoBulk d + 1
 end
def uptoSmall : (H : Type) → List (DataW H) → Bool := fun _ ds => decide (uptoBulkAll ds ≤ 1048576)
def OpenSpec.upto (s : _root_.Go.ChangeSpec) : _root_.Go.OpenSpec := { _root_.Go.OpenSpec.ofChange s with cond := some uptoSmall }

/-- 'laws.FnExactGeneratedArrows', WHERE WHAT IT READS IS OF BULK AT MOST 1048576: true; the input reads as it did. -/
def fnExactGeneratedArrowsUptoRow : OpenClaim := { program := "ytalfoffamemfnaa", sum := "a34ae1c5a38632c09041a7b38e3a3f78269da7008833e107e428dac5c77beec4", func := "loop.example/g01083/laws.FnExactGeneratedArrows", spec := "fnExactGeneratedArrows", unfollowed := true, recurses := true, plainKeys := false, apart := false, narrowed := true }
def FnExactGeneratedArrowsUptoSaid : Prop := fnExactGeneratedArrowsUptoRow.holds Try.pinned (OpenSpec.upto fnExactGeneratedArrowsSpec)

/-- 'laws.FnExactImageArrows', WHERE WHAT IT READS IS OF BULK AT MOST 1048576: true; the input reads as it did. -/
def fnExactImageArrowsUptoRow : OpenClaim := { program := "ytalfoffamemfnaa", sum := "a34ae1c5a38632c09041a7b38e3a3f78269da7008833e107e428dac5c77beec4", func := "loop.example/g01083/laws.FnExactImageArrows", spec := "fnExactImageArrows", unfollowed := true, recurses := true, plainKeys := false, apart := false, narrowed := true }
def FnExactImageArrowsUptoSaid : Prop := fnExactImageArrowsUptoRow.holds Try.pinned (OpenSpec.upto fnExactImageArrowsSpec)

/-- 'laws.FnExactCoproductOf', WHERE WHAT IT READS IS OF BULK AT MOST 1048576: true; the input reads as it did. -/
def fnExactCoproductOfUptoRow : OpenClaim := { program := "ytalfoffamemfnaa", sum := "a34ae1c5a38632c09041a7b38e3a3f78269da7008833e107e428dac5c77beec4", func := "loop.example/g01083/laws.FnExactCoproductOf", spec := "fnExactCoproductOf", unfollowed := true, recurses := true, plainKeys := false, apart := false, narrowed := true }
def FnExactCoproductOfUptoSaid : Prop := fnExactCoproductOfUptoRow.holds Try.pinned (OpenSpec.upto fnExactCoproductOfSpec)

/-- 'laws.FnExactOppositeCategory', WHERE WHAT IT READS IS OF BULK AT MOST 1048576: true; the input reads as it did. -/
def fnExactOppositeCategoryUptoRow : OpenClaim := { program := "ytalfoffamemfnaa", sum := "a34ae1c5a38632c09041a7b38e3a3f78269da7008833e107e428dac5c77beec4", func := "loop.example/g01083/laws.FnExactOppositeCategory", spec := "fnExactOppositeCategory", unfollowed := true, recurses := true, plainKeys := false, apart := false, narrowed := true }
def FnExactOppositeCategoryUptoSaid : Prop := fnExactOppositeCategoryUptoRow.holds Try.pinned (OpenSpec.upto fnExactOppositeCategorySpec)

end Rows
end Go.Proofs.Ytalfoffamemfnaa
