/-
  No cell of these rows narrows 'for every input' (looked for: loops, veiled, ifaces, maps, wideKeys, modest, calm, conditions, laid).
  DERIVED. THE GIVEN ROWS OF THIS SEAT. 12 by the template 'for every input the law returns true; each argument reads behind the call as it read before'; 0 by the template 'total and deterministic' (their statements: YtoinepbiannogaaTotals.lean).
  GIVEN WITH THE SEED: the statements are not yours to turn. If you find one false, say at which input.
  Laid BY PROGRAM, IN A SANDBOX (cutbox-rows.mjs): the forced cells as the released guide's own fill.sh prints them over the translation 45dd9779e901d3c5… (all of the seat's roots in one cut). By AI agents, Wed Nov 11 2026. No macro, syntax, notation, axiom, sorry.
-/
import Derived.Test.YtoinepbiannogaaChecked
import GoSem.Claim
import GoSem.ClaimJoined
import GoSem.ClaimMapViews
import Derived.JoinedTies
import Derived.KernelRfl
namespace Go.Proofs.Ytoinepbiannogaa
/- THE CELL 'sum', in the pinned program and in every row, IS THE sha256 OF THE DUMP (.gsa) THAT YtoinepbiannogaaProg.lean LOADS. Nothing in Lean hashes anything: it is a label: what it is worth is what the hold of that sum in a sandbox is worth. -/
noncomputable def Try.pinned : Pinned := { name := "ytoinepbiannogaa", sum := "45dd9779e901d3c513e9966845ed2b17932cba413f50954091ca339577d5e4ab", checked := Try.checked }
namespace Rows
def none {H : Type} : Left H := { results := [], args := [] }

/-- 'laws.FnExactExtensionsOf': WHATEVER THE INPUT: true; the input reads as it did. -/
def fnExactExtensionsOfSpec : ChangeSpec := { name := "fnExactExtensionsOf", fn := fun _ => fun
  | [d1, d2, d3] => { results := [.lit (.bool true)], args := [d1, d2, d3] }
  | _ => none }
def fnExactExtensionsOfRow : OpenClaim := { program := "ytoinepbiannogaa", sum := "45dd9779e901d3c513e9966845ed2b17932cba413f50954091ca339577d5e4ab", func := "loop.example/g01083/laws.FnExactExtensionsOf", spec := "fnExactExtensionsOf", apart := false }
def FnExactExtensionsOfSaid : Prop := fnExactExtensionsOfRow.holds Try.pinned (OpenSpec.ofChange fnExactExtensionsOfSpec)

/-- ITS FALSE NEIGHBOUR: 'it returns false'. Refute it at one input. -/
def fnExactExtensionsOfWrong : ChangeSpec := { name := "fnExactExtensionsOf", fn := fun _ => fun
  | [d1, d2, d3] => { results := [.lit (.bool false)], args := [d1, d2, d3] }
  | _ => none }
def FnExactExtensionsOfWrongFalsely : Prop := fnExactExtensionsOfRow.holds Try.pinned (OpenSpec.ofChange fnExactExtensionsOfWrong)

/-- 'laws.FnExactLiftsOf': WHATEVER THE INPUT: true; the input reads as it did. -/
def fnExactLiftsOfSpec : ChangeSpec := { name := "fnExactLiftsOf", fn := fun _ => fun
  | [d1, d2, d3] => { results := [.lit (.bool true)], args := [d1, d2, d3] }
  | _ => none }
def fnExactLiftsOfRow : OpenClaim := { program := "ytoinepbiannogaa", sum := "45dd9779e901d3c513e9966845ed2b17932cba413f50954091ca339577d5e4ab", func := "loop.example/g01083/laws.FnExactLiftsOf", spec := "fnExactLiftsOf", apart := false }
def FnExactLiftsOfSaid : Prop := fnExactLiftsOfRow.holds Try.pinned (OpenSpec.ofChange fnExactLiftsOfSpec)

/-- ITS FALSE NEIGHBOUR: 'it returns false'. Refute it at one input. -/
def fnExactLiftsOfWrong : ChangeSpec := { name := "fnExactLiftsOf", fn := fun _ => fun
  | [d1, d2, d3] => { results := [.lit (.bool false)], args := [d1, d2, d3] }
  | _ => none }
def FnExactLiftsOfWrongFalsely : Prop := fnExactLiftsOfRow.holds Try.pinned (OpenSpec.ofChange fnExactLiftsOfWrong)

/-- 'laws.FnExactRetractionsOf': WHATEVER THE INPUT: true; the input reads as it did. -/
def fnExactRetractionsOfSpec : ChangeSpec := { name := "fnExactRetractionsOf", fn := fun _ => fun
  | [d1, d2] => { results := [.lit (.bool true)], args := [d1, d2] }
  | _ => none }
def fnExactRetractionsOfRow : OpenClaim := { program := "ytoinepbiannogaa", sum := "45dd9779e901d3c513e9966845ed2b17932cba413f50954091ca339577d5e4ab", func := "loop.example/g01083/laws.FnExactRetractionsOf", spec := "fnExactRetractionsOf", apart := false }
def FnExactRetractionsOfSaid : Prop := fnExactRetractionsOfRow.holds Try.pinned (OpenSpec.ofChange fnExactRetractionsOfSpec)

/-- ITS FALSE NEIGHBOUR: 'it returns false'. Refute it at one input. -/
def fnExactRetractionsOfWrong : ChangeSpec := { name := "fnExactRetractionsOf", fn := fun _ => fun
  | [d1, d2] => { results := [.lit (.bool false)], args := [d1, d2] }
  | _ => none }
def FnExactRetractionsOfWrongFalsely : Prop := fnExactRetractionsOfRow.holds Try.pinned (OpenSpec.ofChange fnExactRetractionsOfWrong)

/-- 'laws.FnExactInverseArrow': WHATEVER THE INPUT: true; the input reads as it did. -/
def fnExactInverseArrowSpec : ChangeSpec := { name := "fnExactInverseArrow", fn := fun _ => fun
  | [d1, d2] => { results := [.lit (.bool true)], args := [d1, d2] }
  | _ => none }
def fnExactInverseArrowRow : OpenClaim := { program := "ytoinepbiannogaa", sum := "45dd9779e901d3c513e9966845ed2b17932cba413f50954091ca339577d5e4ab", func := "loop.example/g01083/laws.FnExactInverseArrow", spec := "fnExactInverseArrow", apart := false }
def FnExactInverseArrowSaid : Prop := fnExactInverseArrowRow.holds Try.pinned (OpenSpec.ofChange fnExactInverseArrowSpec)

/-- ITS FALSE NEIGHBOUR: 'it returns false'. Refute it at one input. -/
def fnExactInverseArrowWrong : ChangeSpec := { name := "fnExactInverseArrow", fn := fun _ => fun
  | [d1, d2] => { results := [.lit (.bool false)], args := [d1, d2] }
  | _ => none }
def FnExactInverseArrowWrongFalsely : Prop := fnExactInverseArrowRow.holds Try.pinned (OpenSpec.ofChange fnExactInverseArrowWrong)

/-- 'laws.FnExactIsJointlyMono': WHATEVER THE INPUT: true; the input reads as it did. -/
def fnExactIsJointlyMonoSpec : ChangeSpec := { name := "fnExactIsJointlyMono", fn := fun _ => fun
  | [d1, d2] => { results := [.lit (.bool true)], args := [d1, d2] }
  | _ => none }
def fnExactIsJointlyMonoRow : OpenClaim := { program := "ytoinepbiannogaa", sum := "45dd9779e901d3c513e9966845ed2b17932cba413f50954091ca339577d5e4ab", func := "loop.example/g01083/laws.FnExactIsJointlyMono", spec := "fnExactIsJointlyMono", unfollowed := true, recurses := true, apart := false }
def FnExactIsJointlyMonoSaid : Prop := fnExactIsJointlyMonoRow.holds Try.pinned (OpenSpec.ofChange fnExactIsJointlyMonoSpec)

/-- ITS FALSE NEIGHBOUR: 'it returns false'. Refute it at one input. -/
def fnExactIsJointlyMonoWrong : ChangeSpec := { name := "fnExactIsJointlyMono", fn := fun _ => fun
  | [d1, d2] => { results := [.lit (.bool false)], args := [d1, d2] }
  | _ => none }
def FnExactIsJointlyMonoWrongFalsely : Prop := fnExactIsJointlyMonoRow.holds Try.pinned (OpenSpec.ofChange fnExactIsJointlyMonoWrong)

/-- 'laws.FnExactIsSubcategory': WHATEVER THE INPUT: true; the input reads as it did. -/
def fnExactIsSubcategorySpec : ChangeSpec := { name := "fnExactIsSubcategory", fn := fun _ => fun
  | [d1, d2] => { results := [.lit (.bool true)], args := [d1, d2] }
  | _ => none }
def fnExactIsSubcategoryRow : OpenClaim := { program := "ytoinepbiannogaa", sum := "45dd9779e901d3c513e9966845ed2b17932cba413f50954091ca339577d5e4ab", func := "loop.example/g01083/laws.FnExactIsSubcategory", spec := "fnExactIsSubcategory", apart := false }
def FnExactIsSubcategorySaid : Prop := fnExactIsSubcategoryRow.holds Try.pinned (OpenSpec.ofChange fnExactIsSubcategorySpec)

/-- ITS FALSE NEIGHBOUR: 'it returns false'. Refute it at one input. -/
def fnExactIsSubcategoryWrong : ChangeSpec := { name := "fnExactIsSubcategory", fn := fun _ => fun
  | [d1, d2] => { results := [.lit (.bool false)], args := [d1, d2] }
  | _ => none }
def FnExactIsSubcategoryWrongFalsely : Prop := fnExactIsSubcategoryRow.holds Try.pinned (OpenSpec.ofChange fnExactIsSubcategoryWrong)

/-- 'laws.FnExactDiagonalsOf': WHATEVER THE INPUT: true; the input reads as it did. -/
def fnExactDiagonalsOfSpec : ChangeSpec := { name := "fnExactDiagonalsOf", fn := fun _ => fun
  | [d1, d2, d3, d4, d5] => { results := [.lit (.bool true)], args := [d1, d2, d3, d4, d5] }
  | _ => none }
def fnExactDiagonalsOfRow : OpenClaim := { program := "ytoinepbiannogaa", sum := "45dd9779e901d3c513e9966845ed2b17932cba413f50954091ca339577d5e4ab", func := "loop.example/g01083/laws.FnExactDiagonalsOf", spec := "fnExactDiagonalsOf", apart := false }
def FnExactDiagonalsOfSaid : Prop := fnExactDiagonalsOfRow.holds Try.pinned (OpenSpec.ofChange fnExactDiagonalsOfSpec)

/-- ITS FALSE NEIGHBOUR: 'it returns false'. Refute it at one input. -/
def fnExactDiagonalsOfWrong : ChangeSpec := { name := "fnExactDiagonalsOf", fn := fun _ => fun
  | [d1, d2, d3, d4, d5] => { results := [.lit (.bool false)], args := [d1, d2, d3, d4, d5] }
  | _ => none }
def FnExactDiagonalsOfWrongFalsely : Prop := fnExactDiagonalsOfRow.holds Try.pinned (OpenSpec.ofChange fnExactDiagonalsOfWrong)

/-- 'laws.FnExactDegenerateChain': WHATEVER THE INPUT: true; the input reads as it did. -/
def fnExactDegenerateChainSpec : ChangeSpec := { name := "fnExactDegenerateChain", fn := fun _ => fun
  | [d1, d2, d3] => { results := [.lit (.bool true)], args := [d1, d2, d3] }
  | _ => none }
def fnExactDegenerateChainRow : OpenClaim := { program := "ytoinepbiannogaa", sum := "45dd9779e901d3c513e9966845ed2b17932cba413f50954091ca339577d5e4ab", func := "loop.example/g01083/laws.FnExactDegenerateChain", spec := "fnExactDegenerateChain", apart := false }
def FnExactDegenerateChainSaid : Prop := fnExactDegenerateChainRow.holds Try.pinned (OpenSpec.ofChange fnExactDegenerateChainSpec)

/-- ITS FALSE NEIGHBOUR: 'it returns false'. Refute it at one input. -/
def fnExactDegenerateChainWrong : ChangeSpec := { name := "fnExactDegenerateChain", fn := fun _ => fun
  | [d1, d2, d3] => { results := [.lit (.bool false)], args := [d1, d2, d3] }
  | _ => none }
def FnExactDegenerateChainWrongFalsely : Prop := fnExactDegenerateChainRow.holds Try.pinned (OpenSpec.ofChange fnExactDegenerateChainWrong)

/-- 'laws.FnExactSplittingOf': WHATEVER THE INPUT: true; the input reads as it did. -/
def fnExactSplittingOfSpec : ChangeSpec := { name := "fnExactSplittingOf", fn := fun _ => fun
  | [d1, d2] => { results := [.lit (.bool true)], args := [d1, d2] }
  | _ => none }
def fnExactSplittingOfRow : OpenClaim := { program := "ytoinepbiannogaa", sum := "45dd9779e901d3c513e9966845ed2b17932cba413f50954091ca339577d5e4ab", func := "loop.example/g01083/laws.FnExactSplittingOf", spec := "fnExactSplittingOf", apart := false }
def FnExactSplittingOfSaid : Prop := fnExactSplittingOfRow.holds Try.pinned (OpenSpec.ofChange fnExactSplittingOfSpec)

/-- ITS FALSE NEIGHBOUR: 'it returns false'. Refute it at one input. -/
def fnExactSplittingOfWrong : ChangeSpec := { name := "fnExactSplittingOf", fn := fun _ => fun
  | [d1, d2] => { results := [.lit (.bool false)], args := [d1, d2] }
  | _ => none }
def FnExactSplittingOfWrongFalsely : Prop := fnExactSplittingOfRow.holds Try.pinned (OpenSpec.ofChange fnExactSplittingOfWrong)

/-- 'laws.FnExactIsJointlyEpi': WHATEVER THE INPUT: true; the input reads as it did. -/
def fnExactIsJointlyEpiSpec : ChangeSpec := { name := "fnExactIsJointlyEpi", fn := fun _ => fun
  | [d1, d2] => { results := [.lit (.bool true)], args := [d1, d2] }
  | _ => none }
def fnExactIsJointlyEpiRow : OpenClaim := { program := "ytoinepbiannogaa", sum := "45dd9779e901d3c513e9966845ed2b17932cba413f50954091ca339577d5e4ab", func := "loop.example/g01083/laws.FnExactIsJointlyEpi", spec := "fnExactIsJointlyEpi", unfollowed := true, recurses := true, apart := false }
def FnExactIsJointlyEpiSaid : Prop := fnExactIsJointlyEpiRow.holds Try.pinned (OpenSpec.ofChange fnExactIsJointlyEpiSpec)

/-- ITS FALSE NEIGHBOUR: 'it returns false'. Refute it at one input. -/
def fnExactIsJointlyEpiWrong : ChangeSpec := { name := "fnExactIsJointlyEpi", fn := fun _ => fun
  | [d1, d2] => { results := [.lit (.bool false)], args := [d1, d2] }
  | _ => none }
def FnExactIsJointlyEpiWrongFalsely : Prop := fnExactIsJointlyEpiRow.holds Try.pinned (OpenSpec.ofChange fnExactIsJointlyEpiWrong)

/-- 'laws.FnExactFaceOfChain': WHATEVER THE INPUT: true; the input reads as it did. -/
def fnExactFaceOfChainSpec : ChangeSpec := { name := "fnExactFaceOfChain", fn := fun _ => fun
  | [d1, d2, d3] => { results := [.lit (.bool true)], args := [d1, d2, d3] }
  | _ => none }
def fnExactFaceOfChainRow : OpenClaim := { program := "ytoinepbiannogaa", sum := "45dd9779e901d3c513e9966845ed2b17932cba413f50954091ca339577d5e4ab", func := "loop.example/g01083/laws.FnExactFaceOfChain", spec := "fnExactFaceOfChain", apart := false }
def FnExactFaceOfChainSaid : Prop := fnExactFaceOfChainRow.holds Try.pinned (OpenSpec.ofChange fnExactFaceOfChainSpec)

/-- ITS FALSE NEIGHBOUR: 'it returns false'. Refute it at one input. -/
def fnExactFaceOfChainWrong : ChangeSpec := { name := "fnExactFaceOfChain", fn := fun _ => fun
  | [d1, d2, d3] => { results := [.lit (.bool false)], args := [d1, d2, d3] }
  | _ => none }
def FnExactFaceOfChainWrongFalsely : Prop := fnExactFaceOfChainRow.holds Try.pinned (OpenSpec.ofChange fnExactFaceOfChainWrong)

/-- 'laws.FnExactInitialObjects': WHATEVER THE INPUT: true; the input reads as it did. -/
def fnExactInitialObjectsSpec : ChangeSpec := { name := "fnExactInitialObjects", fn := fun _ => fun
  | [d] => { results := [.lit (.bool true)], args := [d] }
  | _ => none }
def fnExactInitialObjectsRow : OpenClaim := { program := "ytoinepbiannogaa", sum := "45dd9779e901d3c513e9966845ed2b17932cba413f50954091ca339577d5e4ab", func := "loop.example/g01083/laws.FnExactInitialObjects", spec := "fnExactInitialObjects", unfollowed := true, recurses := true, apart := false }
def FnExactInitialObjectsSaid : Prop := fnExactInitialObjectsRow.holds Try.pinned (OpenSpec.ofChange fnExactInitialObjectsSpec)

/-- ITS FALSE NEIGHBOUR: 'it returns false'. Refute it at one input. -/
def fnExactInitialObjectsWrong : ChangeSpec := { name := "fnExactInitialObjects", fn := fun _ => fun
  | [d] => { results := [.lit (.bool false)], args := [d] }
  | _ => none }
def FnExactInitialObjectsWrongFalsely : Prop := fnExactInitialObjectsRow.holds Try.pinned (OpenSpec.ofChange fnExactInitialObjectsWrong)

/- THE SECOND FORM. 'bulk': how many values and letters a reading holds, each counted each time it is reached (what is shared counts as often as it is met; a slice's spare places count too). A statement '..UptoSaid' is the law's where the arguments, and the package variables that the reading takes, are together of bulk at most 1048576: NARROWER than '..Said'. Prove '..Said' where nothing that the law and all that it calls make is longer than what came in: it says more and counts as full. Else prove '..UptoSaid'. A law counts once. -/
mutual
def uptoBulk {H : Type} : DataW H → Nat
  | .lit (.string bytes) => bytes.length + 1
  | .lit _ => 1
  | .nil => 1
  | .ptr d => uptoBulk d + 1
  | .slice elems spare => uptoBulkAll elems + uptoBulkAll spare + 1
  | .agg parts => uptoBulkAll parts + 1
  | .iface _ d => uptoBulk d + 1
  | .map entries => uptoBulkEntries entries + 1
  | .held _ => 1
def uptoBulkAll {H : Type} : List (DataW H) → Nat
  | [] => 0
  | d :: r => uptoBulk d + uptoBulkAll r
def uptoBulkEntries {H : Type} : List (Lit × DataW H) → Nat
  | [] => 0
  | x :: r => uptoBulkEntry x + uptoBulkEntries r
def uptoBulkEntry {H : Type} : Lit × DataW H → Nat
  | (.string bytes, d) => bytes.length + uptoBulk d + 1
  | (_, d) => uptoBulk d + 1
 end
def uptoSmall : (H : Type) → List (DataW H) → Bool := fun _ ds => decide (uptoBulkAll ds ≤ 1048576)
def OpenSpec.upto (s : _root_.Go.ChangeSpec) : _root_.Go.OpenSpec := { _root_.Go.OpenSpec.ofChange s with cond := some uptoSmall }

/-- 'laws.FnExactExtensionsOf', WHERE WHAT IT READS IS OF BULK AT MOST 1048576: true; the input reads as it did. -/
def fnExactExtensionsOfUptoRow : OpenClaim := { program := "ytoinepbiannogaa", sum := "45dd9779e901d3c513e9966845ed2b17932cba413f50954091ca339577d5e4ab", func := "loop.example/g01083/laws.FnExactExtensionsOf", spec := "fnExactExtensionsOf", apart := false, narrowed := true }
def FnExactExtensionsOfUptoSaid : Prop := fnExactExtensionsOfUptoRow.holds Try.pinned (OpenSpec.upto fnExactExtensionsOfSpec)

/-- 'laws.FnExactLiftsOf', WHERE WHAT IT READS IS OF BULK AT MOST 1048576: true; the input reads as it did. -/
def fnExactLiftsOfUptoRow : OpenClaim := { program := "ytoinepbiannogaa", sum := "45dd9779e901d3c513e9966845ed2b17932cba413f50954091ca339577d5e4ab", func := "loop.example/g01083/laws.FnExactLiftsOf", spec := "fnExactLiftsOf", apart := false, narrowed := true }
def FnExactLiftsOfUptoSaid : Prop := fnExactLiftsOfUptoRow.holds Try.pinned (OpenSpec.upto fnExactLiftsOfSpec)

/-- 'laws.FnExactRetractionsOf', WHERE WHAT IT READS IS OF BULK AT MOST 1048576: true; the input reads as it did. -/
def fnExactRetractionsOfUptoRow : OpenClaim := { program := "ytoinepbiannogaa", sum := "45dd9779e901d3c513e9966845ed2b17932cba413f50954091ca339577d5e4ab", func := "loop.example/g01083/laws.FnExactRetractionsOf", spec := "fnExactRetractionsOf", apart := false, narrowed := true }
def FnExactRetractionsOfUptoSaid : Prop := fnExactRetractionsOfUptoRow.holds Try.pinned (OpenSpec.upto fnExactRetractionsOfSpec)

/-- 'laws.FnExactInverseArrow', WHERE WHAT IT READS IS OF BULK AT MOST 1048576: true; the input reads as it did. -/
def fnExactInverseArrowUptoRow : OpenClaim := { program := "ytoinepbiannogaa", sum := "45dd9779e901d3c513e9966845ed2b17932cba413f50954091ca339577d5e4ab", func := "loop.example/g01083/laws.FnExactInverseArrow", spec := "fnExactInverseArrow", apart := false, narrowed := true }
def FnExactInverseArrowUptoSaid : Prop := fnExactInverseArrowUptoRow.holds Try.pinned (OpenSpec.upto fnExactInverseArrowSpec)

/-- 'laws.FnExactIsJointlyMono', WHERE WHAT IT READS IS OF BULK AT MOST 1048576: true; the input reads as it did. -/
def fnExactIsJointlyMonoUptoRow : OpenClaim := { program := "ytoinepbiannogaa", sum := "45dd9779e901d3c513e9966845ed2b17932cba413f50954091ca339577d5e4ab", func := "loop.example/g01083/laws.FnExactIsJointlyMono", spec := "fnExactIsJointlyMono", unfollowed := true, recurses := true, apart := false, narrowed := true }
def FnExactIsJointlyMonoUptoSaid : Prop := fnExactIsJointlyMonoUptoRow.holds Try.pinned (OpenSpec.upto fnExactIsJointlyMonoSpec)

/-- 'laws.FnExactIsSubcategory', WHERE WHAT IT READS IS OF BULK AT MOST 1048576: true; the input reads as it did. -/
def fnExactIsSubcategoryUptoRow : OpenClaim := { program := "ytoinepbiannogaa", sum := "45dd9779e901d3c513e9966845ed2b17932cba413f50954091ca339577d5e4ab", func := "loop.example/g01083/laws.FnExactIsSubcategory", spec := "fnExactIsSubcategory", apart := false, narrowed := true }
def FnExactIsSubcategoryUptoSaid : Prop := fnExactIsSubcategoryUptoRow.holds Try.pinned (OpenSpec.upto fnExactIsSubcategorySpec)

/-- 'laws.FnExactDiagonalsOf', WHERE WHAT IT READS IS OF BULK AT MOST 1048576: true; the input reads as it did. -/
def fnExactDiagonalsOfUptoRow : OpenClaim := { program := "ytoinepbiannogaa", sum := "45dd9779e901d3c513e9966845ed2b17932cba413f50954091ca339577d5e4ab", func := "loop.example/g01083/laws.FnExactDiagonalsOf", spec := "fnExactDiagonalsOf", apart := false, narrowed := true }
def FnExactDiagonalsOfUptoSaid : Prop := fnExactDiagonalsOfUptoRow.holds Try.pinned (OpenSpec.upto fnExactDiagonalsOfSpec)

/-- 'laws.FnExactDegenerateChain', WHERE WHAT IT READS IS OF BULK AT MOST 1048576: true; the input reads as it did. -/
def fnExactDegenerateChainUptoRow : OpenClaim := { program := "ytoinepbiannogaa", sum := "45dd9779e901d3c513e9966845ed2b17932cba413f50954091ca339577d5e4ab", func := "loop.example/g01083/laws.FnExactDegenerateChain", spec := "fnExactDegenerateChain", apart := false, narrowed := true }
def FnExactDegenerateChainUptoSaid : Prop := fnExactDegenerateChainUptoRow.holds Try.pinned (OpenSpec.upto fnExactDegenerateChainSpec)

/-- 'laws.FnExactSplittingOf', WHERE WHAT IT READS IS OF BULK AT MOST 1048576: true; the input reads as it did. -/
def fnExactSplittingOfUptoRow : OpenClaim := { program := "ytoinepbiannogaa", sum := "45dd9779e901d3c513e9966845ed2b17932cba413f50954091ca339577d5e4ab", func := "loop.example/g01083/laws.FnExactSplittingOf", spec := "fnExactSplittingOf", apart := false, narrowed := true }
def FnExactSplittingOfUptoSaid : Prop := fnExactSplittingOfUptoRow.holds Try.pinned (OpenSpec.upto fnExactSplittingOfSpec)

/-- 'laws.FnExactIsJointlyEpi', WHERE WHAT IT READS IS OF BULK AT MOST 1048576: true; the input reads as it did. -/
def fnExactIsJointlyEpiUptoRow : OpenClaim := { program := "ytoinepbiannogaa", sum := "45dd9779e901d3c513e9966845ed2b17932cba413f50954091ca339577d5e4ab", func := "loop.example/g01083/laws.FnExactIsJointlyEpi", spec := "fnExactIsJointlyEpi", unfollowed := true, recurses := true, apart := false, narrowed := true }
def FnExactIsJointlyEpiUptoSaid : Prop := fnExactIsJointlyEpiUptoRow.holds Try.pinned (OpenSpec.upto fnExactIsJointlyEpiSpec)

/-- 'laws.FnExactFaceOfChain', WHERE WHAT IT READS IS OF BULK AT MOST 1048576: true; the input reads as it did. -/
def fnExactFaceOfChainUptoRow : OpenClaim := { program := "ytoinepbiannogaa", sum := "45dd9779e901d3c513e9966845ed2b17932cba413f50954091ca339577d5e4ab", func := "loop.example/g01083/laws.FnExactFaceOfChain", spec := "fnExactFaceOfChain", apart := false, narrowed := true }
def FnExactFaceOfChainUptoSaid : Prop := fnExactFaceOfChainUptoRow.holds Try.pinned (OpenSpec.upto fnExactFaceOfChainSpec)

/-- 'laws.FnExactInitialObjects', WHERE WHAT IT READS IS OF BULK AT MOST 1048576: true; the input reads as it did. -/
def fnExactInitialObjectsUptoRow : OpenClaim := { program := "ytoinepbiannogaa", sum := "45dd9779e901d3c513e9966845ed2b17932cba413f50954091ca339577d5e4ab", func := "loop.example/g01083/laws.FnExactInitialObjects", spec := "fnExactInitialObjects", unfollowed := true, recurses := true, apart := false, narrowed := true }
def FnExactInitialObjectsUptoSaid : Prop := fnExactInitialObjectsUptoRow.holds Try.pinned (OpenSpec.upto fnExactInitialObjectsSpec)

end Rows
end Go.Proofs.Ytoinepbiannogaa
