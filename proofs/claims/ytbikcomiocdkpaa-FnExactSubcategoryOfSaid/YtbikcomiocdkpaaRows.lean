/-
  No cell of these rows narrows 'for every input' (looked for: loops, veiled, ifaces, maps, wideKeys, modest, calm, conditions, laid).
  DERIVED. THE GIVEN ROWS OF THIS SEAT. 12 by the template 'for every input the law returns true; each argument reads behind the call as it read before'; 0 by the template 'total and deterministic' (their statements: YtbikcomiocdkpaaTotals.lean).
  GIVEN WITH THE SEED: the statements are not yours to turn. If you find one false, say at which input.
  Laid BY PROGRAM, IN A SANDBOX (cutbox-rows.mjs): the forced cells as the released guide's own fill.sh prints them over the translation a9869e8fc82d3c5c… (all of the seat's roots in one cut). By AI agents, Wed Nov 11 2026. No macro, syntax, notation, axiom, sorry.
-/
import Derived.Test.YtbikcomiocdkpaaChecked
import GoSem.Claim
import GoSem.ClaimJoined
import GoSem.ClaimMapViews
import Derived.JoinedTies
import Derived.KernelRfl
namespace Go.Proofs.Ytbikcomiocdkpaa
/- THE CELL 'sum', in the pinned program and in every row, IS THE sha256 OF THE DUMP (.gsa) THAT YtbikcomiocdkpaaProg.lean LOADS. Nothing in Lean hashes anything: it is a label: what it is worth is what the hold of that sum in a sandbox is worth. -/
noncomputable def Try.pinned : Pinned := { name := "ytbikcomiocdkpaa", sum := "a9869e8fc82d3c5cad391185c491c8b20262c6756ff5a8a4ee41639b09f0f679", checked := Try.checked }
namespace Rows
def none {H : Type} : Left H := { results := [], args := [] }

/-- 'laws.FnExactIsPart': WHATEVER THE INPUT: true; the input reads as it did. -/
def fnExactIsPartSpec : ChangeSpec := { name := "fnExactIsPart", fn := fun _ => fun
  | [d1, d2] => { results := [.lit (.bool true)], args := [d1, d2] }
  | _ => none }
def fnExactIsPartRow : OpenClaim := { program := "ytbikcomiocdkpaa", sum := "a9869e8fc82d3c5cad391185c491c8b20262c6756ff5a8a4ee41639b09f0f679", func := "loop.example/g01083/laws.FnExactIsPart", spec := "fnExactIsPart", plainKeys := false, apart := false }
def FnExactIsPartSaid : Prop := fnExactIsPartRow.holds Try.pinned (OpenSpec.ofChange fnExactIsPartSpec)

/-- ITS FALSE NEIGHBOUR: 'it returns false'. Refute it at one input. -/
def fnExactIsPartWrong : ChangeSpec := { name := "fnExactIsPart", fn := fun _ => fun
  | [d1, d2] => { results := [.lit (.bool false)], args := [d1, d2] }
  | _ => none }
def FnExactIsPartWrongFalsely : Prop := fnExactIsPartRow.holds Try.pinned (OpenSpec.ofChange fnExactIsPartWrong)

/-- 'laws.FnExactIsCongruence': WHATEVER THE INPUT: true; the input reads as it did. -/
def fnExactIsCongruenceSpec : ChangeSpec := { name := "fnExactIsCongruence", fn := fun _ => fun
  | [d1, d2] => { results := [.lit (.bool true)], args := [d1, d2] }
  | _ => none }
def fnExactIsCongruenceRow : OpenClaim := { program := "ytbikcomiocdkpaa", sum := "a9869e8fc82d3c5cad391185c491c8b20262c6756ff5a8a4ee41639b09f0f679", func := "loop.example/g01083/laws.FnExactIsCongruence", spec := "fnExactIsCongruence", plainKeys := false, apart := false }
def FnExactIsCongruenceSaid : Prop := fnExactIsCongruenceRow.holds Try.pinned (OpenSpec.ofChange fnExactIsCongruenceSpec)

/-- ITS FALSE NEIGHBOUR: 'it returns false'. Refute it at one input. -/
def fnExactIsCongruenceWrong : ChangeSpec := { name := "fnExactIsCongruence", fn := fun _ => fun
  | [d1, d2] => { results := [.lit (.bool false)], args := [d1, d2] }
  | _ => none }
def FnExactIsCongruenceWrongFalsely : Prop := fnExactIsCongruenceRow.holds Try.pinned (OpenSpec.ofChange fnExactIsCongruenceWrong)

/-- 'laws.FnExactCongruenceOf': WHATEVER THE INPUT: true; the input reads as it did. -/
def fnExactCongruenceOfSpec : ChangeSpec := { name := "fnExactCongruenceOf", fn := fun _ => fun
  | [d1, d2] => { results := [.lit (.bool true)], args := [d1, d2] }
  | _ => none }
def fnExactCongruenceOfRow : OpenClaim := { program := "ytbikcomiocdkpaa", sum := "a9869e8fc82d3c5cad391185c491c8b20262c6756ff5a8a4ee41639b09f0f679", func := "loop.example/g01083/laws.FnExactCongruenceOf", spec := "fnExactCongruenceOf", plainKeys := false, apart := false }
def FnExactCongruenceOfSaid : Prop := fnExactCongruenceOfRow.holds Try.pinned (OpenSpec.ofChange fnExactCongruenceOfSpec)

/-- ITS FALSE NEIGHBOUR: 'it returns false'. Refute it at one input. -/
def fnExactCongruenceOfWrong : ChangeSpec := { name := "fnExactCongruenceOf", fn := fun _ => fun
  | [d1, d2] => { results := [.lit (.bool false)], args := [d1, d2] }
  | _ => none }
def FnExactCongruenceOfWrongFalsely : Prop := fnExactCongruenceOfRow.holds Try.pinned (OpenSpec.ofChange fnExactCongruenceOfWrong)

/-- 'laws.FnExactSubobjectsOf': WHATEVER THE INPUT: true; the input reads as it did. -/
def fnExactSubobjectsOfSpec : ChangeSpec := { name := "fnExactSubobjectsOf", fn := fun _ => fun
  | [d1, d2] => { results := [.lit (.bool true)], args := [d1, d2] }
  | _ => none }
def fnExactSubobjectsOfRow : OpenClaim := { program := "ytbikcomiocdkpaa", sum := "a9869e8fc82d3c5cad391185c491c8b20262c6756ff5a8a4ee41639b09f0f679", func := "loop.example/g01083/laws.FnExactSubobjectsOf", spec := "fnExactSubobjectsOf", unfollowed := true, recurses := true, plainKeys := false, apart := false }
def FnExactSubobjectsOfSaid : Prop := fnExactSubobjectsOfRow.holds Try.pinned (OpenSpec.ofChange fnExactSubobjectsOfSpec)

/-- ITS FALSE NEIGHBOUR: 'it returns false'. Refute it at one input. -/
def fnExactSubobjectsOfWrong : ChangeSpec := { name := "fnExactSubobjectsOf", fn := fun _ => fun
  | [d1, d2] => { results := [.lit (.bool false)], args := [d1, d2] }
  | _ => none }
def FnExactSubobjectsOfWrongFalsely : Prop := fnExactSubobjectsOfRow.holds Try.pinned (OpenSpec.ofChange fnExactSubobjectsOfWrong)

/-- 'laws.FnExactFactorizationsOf': WHATEVER THE INPUT: true; the input reads as it did. -/
def fnExactFactorizationsOfSpec : ChangeSpec := { name := "fnExactFactorizationsOf", fn := fun _ => fun
  | [d1, d2, d3, d4] => { results := [.lit (.bool true)], args := [d1, d2, d3, d4] }
  | _ => none }
def fnExactFactorizationsOfRow : OpenClaim := { program := "ytbikcomiocdkpaa", sum := "a9869e8fc82d3c5cad391185c491c8b20262c6756ff5a8a4ee41639b09f0f679", func := "loop.example/g01083/laws.FnExactFactorizationsOf", spec := "fnExactFactorizationsOf", plainKeys := false, apart := false }
def FnExactFactorizationsOfSaid : Prop := fnExactFactorizationsOfRow.holds Try.pinned (OpenSpec.ofChange fnExactFactorizationsOfSpec)

/-- ITS FALSE NEIGHBOUR: 'it returns false'. Refute it at one input. -/
def fnExactFactorizationsOfWrong : ChangeSpec := { name := "fnExactFactorizationsOf", fn := fun _ => fun
  | [d1, d2, d3, d4] => { results := [.lit (.bool false)], args := [d1, d2, d3, d4] }
  | _ => none }
def FnExactFactorizationsOfWrongFalsely : Prop := fnExactFactorizationsOfRow.holds Try.pinned (OpenSpec.ofChange fnExactFactorizationsOfWrong)

/-- 'laws.FnExactRightSeats': WHATEVER THE INPUT: true; the input reads as it did. -/
def fnExactRightSeatsSpec : ChangeSpec := { name := "fnExactRightSeats", fn := fun _ => fun
  | [d1, d2] => { results := [.lit (.bool true)], args := [d1, d2] }
  | _ => none }
def fnExactRightSeatsRow : OpenClaim := { program := "ytbikcomiocdkpaa", sum := "a9869e8fc82d3c5cad391185c491c8b20262c6756ff5a8a4ee41639b09f0f679", func := "loop.example/g01083/laws.FnExactRightSeats", spec := "fnExactRightSeats", plainKeys := false, apart := false }
def FnExactRightSeatsSaid : Prop := fnExactRightSeatsRow.holds Try.pinned (OpenSpec.ofChange fnExactRightSeatsSpec)

/-- ITS FALSE NEIGHBOUR: 'it returns false'. Refute it at one input. -/
def fnExactRightSeatsWrong : ChangeSpec := { name := "fnExactRightSeats", fn := fun _ => fun
  | [d1, d2] => { results := [.lit (.bool false)], args := [d1, d2] }
  | _ => none }
def FnExactRightSeatsWrongFalsely : Prop := fnExactRightSeatsRow.holds Try.pinned (OpenSpec.ofChange fnExactRightSeatsWrong)

/-- 'laws.FnExactGeneratedArrows': WHATEVER THE INPUT: true; the input reads as it did. -/
def fnExactGeneratedArrowsSpec : ChangeSpec := { name := "fnExactGeneratedArrows", fn := fun _ => fun
  | [d1, d2] => { results := [.lit (.bool true)], args := [d1, d2] }
  | _ => none }
def fnExactGeneratedArrowsRow : OpenClaim := { program := "ytbikcomiocdkpaa", sum := "a9869e8fc82d3c5cad391185c491c8b20262c6756ff5a8a4ee41639b09f0f679", func := "loop.example/g01083/laws.FnExactGeneratedArrows", spec := "fnExactGeneratedArrows", unfollowed := true, recurses := true, plainKeys := false, apart := false }
def FnExactGeneratedArrowsSaid : Prop := fnExactGeneratedArrowsRow.holds Try.pinned (OpenSpec.ofChange fnExactGeneratedArrowsSpec)

/-- ITS FALSE NEIGHBOUR: 'it returns false'. Refute it at one input. -/
def fnExactGeneratedArrowsWrong : ChangeSpec := { name := "fnExactGeneratedArrows", fn := fun _ => fun
  | [d1, d2] => { results := [.lit (.bool false)], args := [d1, d2] }
  | _ => none }
def FnExactGeneratedArrowsWrongFalsely : Prop := fnExactGeneratedArrowsRow.holds Try.pinned (OpenSpec.ofChange fnExactGeneratedArrowsWrong)

/-- 'laws.FnExactImageArrows': WHATEVER THE INPUT: true; the input reads as it did. -/
def fnExactImageArrowsSpec : ChangeSpec := { name := "fnExactImageArrows", fn := fun _ => fun
  | [d] => { results := [.lit (.bool true)], args := [d] }
  | _ => none }
def fnExactImageArrowsRow : OpenClaim := { program := "ytbikcomiocdkpaa", sum := "a9869e8fc82d3c5cad391185c491c8b20262c6756ff5a8a4ee41639b09f0f679", func := "loop.example/g01083/laws.FnExactImageArrows", spec := "fnExactImageArrows", unfollowed := true, recurses := true, plainKeys := false, apart := false }
def FnExactImageArrowsSaid : Prop := fnExactImageArrowsRow.holds Try.pinned (OpenSpec.ofChange fnExactImageArrowsSpec)

/-- ITS FALSE NEIGHBOUR: 'it returns false'. Refute it at one input. -/
def fnExactImageArrowsWrong : ChangeSpec := { name := "fnExactImageArrows", fn := fun _ => fun
  | [d] => { results := [.lit (.bool false)], args := [d] }
  | _ => none }
def FnExactImageArrowsWrongFalsely : Prop := fnExactImageArrowsRow.holds Try.pinned (OpenSpec.ofChange fnExactImageArrowsWrong)

/-- 'laws.FnExactOppositeCategory': WHATEVER THE INPUT: true; the input reads as it did. -/
def fnExactOppositeCategorySpec : ChangeSpec := { name := "fnExactOppositeCategory", fn := fun _ => fun
  | [d] => { results := [.lit (.bool true)], args := [d] }
  | _ => none }
def fnExactOppositeCategoryRow : OpenClaim := { program := "ytbikcomiocdkpaa", sum := "a9869e8fc82d3c5cad391185c491c8b20262c6756ff5a8a4ee41639b09f0f679", func := "loop.example/g01083/laws.FnExactOppositeCategory", spec := "fnExactOppositeCategory", unfollowed := true, recurses := true, plainKeys := false, apart := false }
def FnExactOppositeCategorySaid : Prop := fnExactOppositeCategoryRow.holds Try.pinned (OpenSpec.ofChange fnExactOppositeCategorySpec)

/-- ITS FALSE NEIGHBOUR: 'it returns false'. Refute it at one input. -/
def fnExactOppositeCategoryWrong : ChangeSpec := { name := "fnExactOppositeCategory", fn := fun _ => fun
  | [d] => { results := [.lit (.bool false)], args := [d] }
  | _ => none }
def FnExactOppositeCategoryWrongFalsely : Prop := fnExactOppositeCategoryRow.holds Try.pinned (OpenSpec.ofChange fnExactOppositeCategoryWrong)

/-- 'laws.FnExactFullSubcategory': WHATEVER THE INPUT: true; the input reads as it did. -/
def fnExactFullSubcategorySpec : ChangeSpec := { name := "fnExactFullSubcategory", fn := fun _ => fun
  | [d1, d2] => { results := [.lit (.bool true)], args := [d1, d2] }
  | _ => none }
def fnExactFullSubcategoryRow : OpenClaim := { program := "ytbikcomiocdkpaa", sum := "a9869e8fc82d3c5cad391185c491c8b20262c6756ff5a8a4ee41639b09f0f679", func := "loop.example/g01083/laws.FnExactFullSubcategory", spec := "fnExactFullSubcategory", plainKeys := false, apart := false }
def FnExactFullSubcategorySaid : Prop := fnExactFullSubcategoryRow.holds Try.pinned (OpenSpec.ofChange fnExactFullSubcategorySpec)

/-- ITS FALSE NEIGHBOUR: 'it returns false'. Refute it at one input. -/
def fnExactFullSubcategoryWrong : ChangeSpec := { name := "fnExactFullSubcategory", fn := fun _ => fun
  | [d1, d2] => { results := [.lit (.bool false)], args := [d1, d2] }
  | _ => none }
def FnExactFullSubcategoryWrongFalsely : Prop := fnExactFullSubcategoryRow.holds Try.pinned (OpenSpec.ofChange fnExactFullSubcategoryWrong)

/-- 'laws.FnExactSubcategoryOf': WHATEVER THE INPUT: true; the input reads as it did. -/
def fnExactSubcategoryOfSpec : ChangeSpec := { name := "fnExactSubcategoryOf", fn := fun _ => fun
  | [d1, d2] => { results := [.lit (.bool true)], args := [d1, d2] }
  | _ => none }
def fnExactSubcategoryOfRow : OpenClaim := { program := "ytbikcomiocdkpaa", sum := "a9869e8fc82d3c5cad391185c491c8b20262c6756ff5a8a4ee41639b09f0f679", func := "loop.example/g01083/laws.FnExactSubcategoryOf", spec := "fnExactSubcategoryOf", plainKeys := false, apart := false }
def FnExactSubcategoryOfSaid : Prop := fnExactSubcategoryOfRow.holds Try.pinned (OpenSpec.ofChange fnExactSubcategoryOfSpec)

/-- ITS FALSE NEIGHBOUR: 'it returns false'. Refute it at one input. -/
def fnExactSubcategoryOfWrong : ChangeSpec := { name := "fnExactSubcategoryOf", fn := fun _ => fun
  | [d1, d2] => { results := [.lit (.bool false)], args := [d1, d2] }
  | _ => none }
def FnExactSubcategoryOfWrongFalsely : Prop := fnExactSubcategoryOfRow.holds Try.pinned (OpenSpec.ofChange fnExactSubcategoryOfWrong)

/-- 'laws.FnExactCoproductOf': WHATEVER THE INPUT: true; the input reads as it did. -/
def fnExactCoproductOfSpec : ChangeSpec := { name := "fnExactCoproductOf", fn := fun _ => fun
  | [d1, d2, d3] => { results := [.lit (.bool true)], args := [d1, d2, d3] }
  | _ => none }
def fnExactCoproductOfRow : OpenClaim := { program := "ytbikcomiocdkpaa", sum := "a9869e8fc82d3c5cad391185c491c8b20262c6756ff5a8a4ee41639b09f0f679", func := "loop.example/g01083/laws.FnExactCoproductOf", spec := "fnExactCoproductOf", unfollowed := true, recurses := true, plainKeys := false, apart := false }
def FnExactCoproductOfSaid : Prop := fnExactCoproductOfRow.holds Try.pinned (OpenSpec.ofChange fnExactCoproductOfSpec)

/-- ITS FALSE NEIGHBOUR: 'it returns false'. Refute it at one input. -/
def fnExactCoproductOfWrong : ChangeSpec := { name := "fnExactCoproductOf", fn := fun _ => fun
  | [d1, d2, d3] => { results := [.lit (.bool false)], args := [d1, d2, d3] }
  | _ => none }
def FnExactCoproductOfWrongFalsely : Prop := fnExactCoproductOfRow.holds Try.pinned (OpenSpec.ofChange fnExactCoproductOfWrong)

/- THE SECOND FORM. 'bulk': how many values and letters a reading holds, each counted each time it is reached (what is shared counts as often as it is met; a slice's spare places count too). A statement '..UptoSaid' is the law's where the arguments, and the package variables that the reading takes, are together of bulk at most 1048576: NARROWER than '..Said'. Prove '..Said' where nothing that the law and all that it calls make is longer than what came in: it says more and counts as full. Else prove '..UptoSaid'. A law counts once. -/
mutual
def uptoBulk {H : Type} : DataW H → Nat
  | .lit (.string bytes) => bytes.length + 1
  | .lit _ => 1
  | .nil => 1
  | .ptr d => uptoBulk d + 1
  | .slice elems spare => uptoBulkAll elems + uptoBulkAll spare + 1
  | .agg parts => uptoBulkAll parts + 1
  | .iface _ d => uptoBulk d + 1
  | .map entries => uptoBulkEntries entries + 1
  | .held _ => 1
def uptoBulkAll {H : Type} : List (DataW H) → Nat
  | [] => 0
  | d :: r => uptoBulk d + uptoBulkAll r
def uptoBulkEntries {H : Type} : List (Lit × DataW H) → Nat
  | [] => 0
  | x :: r => uptoBulkEntry x + uptoBulkEntries r
def uptoBulkEntry {H : Type} : Lit × DataW H → Nat
  | (.string bytes, d) => bytes.length + uptoBulk d + 1
  | (_, d) => uptoBulk d + 1
 end
def uptoSmall : (H : Type) → List (DataW H) → Bool := fun _ ds => decide (uptoBulkAll ds ≤ 1048576)
def OpenSpec.upto (s : _root_.Go.ChangeSpec) : _root_.Go.OpenSpec := { _root_.Go.OpenSpec.ofChange s with cond := some uptoSmall }

/-- 'laws.FnExactIsPart', WHERE WHAT IT READS IS OF BULK AT MOST 1048576: true; the input reads as it did. -/
def fnExactIsPartUptoRow : OpenClaim := { program := "ytbikcomiocdkpaa", sum := "a9869e8fc82d3c5cad391185c491c8b20262c6756ff5a8a4ee41639b09f0f679", func := "loop.example/g01083/laws.FnExactIsPart", spec := "fnExactIsPart", plainKeys := false, apart := false, narrowed := true }
def FnExactIsPartUptoSaid : Prop := fnExactIsPartUptoRow.holds Try.pinned (OpenSpec.upto fnExactIsPartSpec)

/-- 'laws.FnExactIsCongruence', WHERE WHAT IT READS IS OF BULK AT MOST 1048576: true; the input reads as it did. -/
def fnExactIsCongruenceUptoRow : OpenClaim := { program := "ytbikcomiocdkpaa", sum := "a9869e8fc82d3c5cad391185c491c8b20262c6756ff5a8a4ee41639b09f0f679", func := "loop.example/g01083/laws.FnExactIsCongruence", spec := "fnExactIsCongruence", plainKeys := false, apart := false, narrowed := true }
def FnExactIsCongruenceUptoSaid : Prop := fnExactIsCongruenceUptoRow.holds Try.pinned (OpenSpec.upto fnExactIsCongruenceSpec)

/-- 'laws.FnExactCongruenceOf', WHERE WHAT IT READS IS OF BULK AT MOST 1048576: true; the input reads as it did. -/
def fnExactCongruenceOfUptoRow : OpenClaim := { program := "ytbikcomiocdkpaa", sum := "a9869e8fc82d3c5cad391185c491c8b20262c6756ff5a8a4ee41639b09f0f679", func := "loop.example/g01083/laws.FnExactCongruenceOf", spec := "fnExactCongruenceOf", plainKeys := false, apart := false, narrowed := true }
def FnExactCongruenceOfUptoSaid : Prop := fnExactCongruenceOfUptoRow.holds Try.pinned (OpenSpec.upto fnExactCongruenceOfSpec)

/-- 'laws.FnExactSubobjectsOf', WHERE WHAT IT READS IS OF BULK AT MOST 1048576: true; the input reads as it did. -/
def fnExactSubobjectsOfUptoRow : OpenClaim := { program := "ytbikcomiocdkpaa", sum := "a9869e8fc82d3c5cad391185c491c8b20262c6756ff5a8a4ee41639b09f0f679", func := "loop.example/g01083/laws.FnExactSubobjectsOf", spec := "fnExactSubobjectsOf", unfollowed := true, recurses := true, plainKeys := false, apart := false, narrowed := true }
def FnExactSubobjectsOfUptoSaid : Prop := fnExactSubobjectsOfUptoRow.holds Try.pinned (OpenSpec.upto fnExactSubobjectsOfSpec)

/-- 'laws.FnExactFactorizationsOf', WHERE WHAT IT READS IS OF BULK AT MOST 1048576: true; the input reads as it did. -/
def fnExactFactorizationsOfUptoRow : OpenClaim := { program := "ytbikcomiocdkpaa", sum := "a9869e8fc82d3c5cad391185c491c8b20262c6756ff5a8a4ee41639b09f0f679", func := "loop.example/g01083/laws.FnExactFactorizationsOf", spec := "fnExactFactorizationsOf", plainKeys := false, apart := false, narrowed := true }
def FnExactFactorizationsOfUptoSaid : Prop := fnExactFactorizationsOfUptoRow.holds Try.pinned (OpenSpec.upto fnExactFactorizationsOfSpec)

/-- 'laws.FnExactRightSeats', WHERE WHAT IT READS IS OF BULK AT MOST 1048576: true; the input reads as it did. -/
def fnExactRightSeatsUptoRow : OpenClaim := { program := "ytbikcomiocdkpaa", sum := "a9869e8fc82d3c5cad391185c491c8b20262c6756ff5a8a4ee41639b09f0f679", func := "loop.example/g01083/laws.FnExactRightSeats", spec := "fnExactRightSeats", plainKeys := false, apart := false, narrowed := true }
def FnExactRightSeatsUptoSaid : Prop := fnExactRightSeatsUptoRow.holds Try.pinned (OpenSpec.upto fnExactRightSeatsSpec)

/-- 'laws.FnExactGeneratedArrows', WHERE WHAT IT READS IS OF BULK AT MOST 1048576: true; the input reads as it did. -/
def fnExactGeneratedArrowsUptoRow : OpenClaim := { program := "ytbikcomiocdkpaa", sum := "a9869e8fc82d3c5cad391185c491c8b20262c6756ff5a8a4ee41639b09f0f679", func := "loop.example/g01083/laws.FnExactGeneratedArrows", spec := "fnExactGeneratedArrows", unfollowed := true, recurses := true, plainKeys := false, apart := false, narrowed := true }
def FnExactGeneratedArrowsUptoSaid : Prop := fnExactGeneratedArrowsUptoRow.holds Try.pinned (OpenSpec.upto fnExactGeneratedArrowsSpec)

/-- 'laws.FnExactImageArrows', WHERE WHAT IT READS IS OF BULK AT MOST 1048576: true; the input reads as it did. -/
def fnExactImageArrowsUptoRow : OpenClaim := { program := "ytbikcomiocdkpaa", sum := "a9869e8fc82d3c5cad391185c491c8b20262c6756ff5a8a4ee41639b09f0f679", func := "loop.example/g01083/laws.FnExactImageArrows", spec := "fnExactImageArrows", unfollowed := true, recurses := true, plainKeys := false, apart := false, narrowed := true }
def FnExactImageArrowsUptoSaid : Prop := fnExactImageArrowsUptoRow.holds Try.pinned (OpenSpec.upto fnExactImageArrowsSpec)

/-- 'laws.FnExactOppositeCategory', WHERE WHAT IT READS IS OF BULK AT MOST 1048576: true; the input reads as it did. -/
def fnExactOppositeCategoryUptoRow : OpenClaim := { program := "ytbikcomiocdkpaa", sum := "a9869e8fc82d3c5cad391185c491c8b20262c6756ff5a8a4ee41639b09f0f679", func := "loop.example/g01083/laws.FnExactOppositeCategory", spec := "fnExactOppositeCategory", unfollowed := true, recurses := true, plainKeys := false, apart := false, narrowed := true }
def FnExactOppositeCategoryUptoSaid : Prop := fnExactOppositeCategoryUptoRow.holds Try.pinned (OpenSpec.upto fnExactOppositeCategorySpec)

/-- 'laws.FnExactFullSubcategory', WHERE WHAT IT READS IS OF BULK AT MOST 1048576: true; the input reads as it did. -/
def fnExactFullSubcategoryUptoRow : OpenClaim := { program := "ytbikcomiocdkpaa", sum := "a9869e8fc82d3c5cad391185c491c8b20262c6756ff5a8a4ee41639b09f0f679", func := "loop.example/g01083/laws.FnExactFullSubcategory", spec := "fnExactFullSubcategory", plainKeys := false, apart := false, narrowed := true }
def FnExactFullSubcategoryUptoSaid : Prop := fnExactFullSubcategoryUptoRow.holds Try.pinned (OpenSpec.upto fnExactFullSubcategorySpec)

/-- 'laws.FnExactSubcategoryOf', WHERE WHAT IT READS IS OF BULK AT MOST 1048576: true; the input reads as it did. -/
def fnExactSubcategoryOfUptoRow : OpenClaim := { program := "ytbikcomiocdkpaa", sum := "a9869e8fc82d3c5cad391185c491c8b20262c6756ff5a8a4ee41639b09f0f679", func := "loop.example/g01083/laws.FnExactSubcategoryOf", spec := "fnExactSubcategoryOf", plainKeys := false, apart := false, narrowed := true }
def FnExactSubcategoryOfUptoSaid : Prop := fnExactSubcategoryOfUptoRow.holds Try.pinned (OpenSpec.upto fnExactSubcategoryOfSpec)

/-- 'laws.FnExactCoproductOf', WHERE WHAT IT READS IS OF BULK AT MOST 1048576: true; the input reads as it did. -/
def fnExactCoproductOfUptoRow : OpenClaim := { program := "ytbikcomiocdkpaa", sum := "a9869e8fc82d3c5cad391185c491c8b20262c6756ff5a8a4ee41639b09f0f679", func := "loop.example/g01083/laws.FnExactCoproductOf", spec := "fnExactCoproductOf", unfollowed := true, recurses := true, plainKeys := false, apart := false, narrowed := true }
def FnExactCoproductOfUptoSaid : Prop := fnExactCoproductOfUptoRow.holds Try.pinned (OpenSpec.upto fnExactCoproductOfSpec)

end Rows
end Go.Proofs.Ytbikcomiocdkpaa
