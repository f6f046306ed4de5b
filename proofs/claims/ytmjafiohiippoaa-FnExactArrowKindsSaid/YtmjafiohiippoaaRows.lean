/-
  No cell of these rows narrows 'for every input' (looked for: loops, veiled, ifaces, maps, wideKeys, modest, calm, conditions, laid).
  DERIVED. THE GIVEN ROWS OF THIS SEAT. 11 by the template 'for every input the law returns true; each argument reads behind the call as it read before'; 0 by the template 'total and deterministic' (their statements: YtmjafiohiippoaaTotals.lean).
  GIVEN WITH THE SEED: the statements are not yours to turn. If you find one false, say at which input.
  Laid BY PROGRAM, IN A SANDBOX (cutbox-rows.mjs): the forced cells as the released guide's own fill.sh prints them over the translation 88672420167ce342… (all of the seat's roots in one cut). By AI agents, Wed Nov 11 2026. No macro, syntax, notation, axiom, sorry.
-/
import Derived.Test.YtmjafiohiippoaaChecked
import GoSem.Claim
import GoSem.ClaimJoined
import GoSem.ClaimMapViews
import Derived.JoinedTies
import Derived.KernelRfl
namespace Go.Proofs.Ytmjafiohiippoaa
/- THE CELL 'sum', in the pinned program and in every row, IS THE sha256 OF THE DUMP (.gsa) THAT YtmjafiohiippoaaProg.lean LOADS. Nothing in Lean hashes anything: it is a label: what it is worth is what the hold of that sum in a sandbox is worth. -/
noncomputable def Try.pinned : Pinned := { name := "ytmjafiohiippoaa", sum := "88672420167ce342a2292e0032e5da15346bfd6872ae1dc73eeb24fbe825b5e1", checked := Try.checked }
namespace Rows
def none {H : Type} : Left H := { results := [], args := [] }

/-- 'laws.FnExactSubcategoryOf': WHATEVER THE INPUT: true; the input reads as it did. -/
def fnExactSubcategoryOfSpec : ChangeSpec := { name := "fnExactSubcategoryOf", fn := fun _ => fun
  | [d1, d2] => { results := [.lit (.bool true)], args := [d1, d2] }
  | _ => none }
def fnExactSubcategoryOfRow : OpenClaim := { program := "ytmjafiohiippoaa", sum := "88672420167ce342a2292e0032e5da15346bfd6872ae1dc73eeb24fbe825b5e1", func := "loop.example/g01083/laws.FnExactSubcategoryOf", spec := "fnExactSubcategoryOf", plainKeys := false, apart := false }
def FnExactSubcategoryOfSaid : Prop := fnExactSubcategoryOfRow.holds Try.pinned (OpenSpec.ofChange fnExactSubcategoryOfSpec)

/-- ITS FALSE NEIGHBOUR: 'it returns false'. Refute it at one input. -/
def fnExactSubcategoryOfWrong : ChangeSpec := { name := "fnExactSubcategoryOf", fn := fun _ => fun
  | [d1, d2] => { results := [.lit (.bool false)], args := [d1, d2] }
  | _ => none }
def FnExactSubcategoryOfWrongFalsely : Prop := fnExactSubcategoryOfRow.holds Try.pinned (OpenSpec.ofChange fnExactSubcategoryOfWrong)

/-- 'laws.FnExactOppositeCategory': WHATEVER THE INPUT: true; the input reads as it did. -/
def fnExactOppositeCategorySpec : ChangeSpec := { name := "fnExactOppositeCategory", fn := fun _ => fun
  | [d] => { results := [.lit (.bool true)], args := [d] }
  | _ => none }
def fnExactOppositeCategoryRow : OpenClaim := { program := "ytmjafiohiippoaa", sum := "88672420167ce342a2292e0032e5da15346bfd6872ae1dc73eeb24fbe825b5e1", func := "loop.example/g01083/laws.FnExactOppositeCategory", spec := "fnExactOppositeCategory", unfollowed := true, recurses := true, plainKeys := false, apart := false }
def FnExactOppositeCategorySaid : Prop := fnExactOppositeCategoryRow.holds Try.pinned (OpenSpec.ofChange fnExactOppositeCategorySpec)

/-- ITS FALSE NEIGHBOUR: 'it returns false'. Refute it at one input. -/
def fnExactOppositeCategoryWrong : ChangeSpec := { name := "fnExactOppositeCategory", fn := fun _ => fun
  | [d] => { results := [.lit (.bool false)], args := [d] }
  | _ => none }
def FnExactOppositeCategoryWrongFalsely : Prop := fnExactOppositeCategoryRow.holds Try.pinned (OpenSpec.ofChange fnExactOppositeCategoryWrong)

/-- 'laws.FnExactGeneratedArrows': WHATEVER THE INPUT: true; the input reads as it did. -/
def fnExactGeneratedArrowsSpec : ChangeSpec := { name := "fnExactGeneratedArrows", fn := fun _ => fun
  | [d1, d2] => { results := [.lit (.bool true)], args := [d1, d2] }
  | _ => none }
def fnExactGeneratedArrowsRow : OpenClaim := { program := "ytmjafiohiippoaa", sum := "88672420167ce342a2292e0032e5da15346bfd6872ae1dc73eeb24fbe825b5e1", func := "loop.example/g01083/laws.FnExactGeneratedArrows", spec := "fnExactGeneratedArrows", unfollowed := true, recurses := true, plainKeys := false, apart := false }
def FnExactGeneratedArrowsSaid : Prop := fnExactGeneratedArrowsRow.holds Try.pinned (OpenSpec.ofChange fnExactGeneratedArrowsSpec)

/-- ITS FALSE NEIGHBOUR: 'it returns false'. Refute it at one input. -/
def fnExactGeneratedArrowsWrong : ChangeSpec := { name := "fnExactGeneratedArrows", fn := fun _ => fun
  | [d1, d2] => { results := [.lit (.bool false)], args := [d1, d2] }
  | _ => none }
def FnExactGeneratedArrowsWrongFalsely : Prop := fnExactGeneratedArrowsRow.holds Try.pinned (OpenSpec.ofChange fnExactGeneratedArrowsWrong)

/-- 'laws.FnExactFactorizationsOf': WHATEVER THE INPUT: true; the input reads as it did. -/
def fnExactFactorizationsOfSpec : ChangeSpec := { name := "fnExactFactorizationsOf", fn := fun _ => fun
  | [d1, d2, d3, d4] => { results := [.lit (.bool true)], args := [d1, d2, d3, d4] }
  | _ => none }
def fnExactFactorizationsOfRow : OpenClaim := { program := "ytmjafiohiippoaa", sum := "88672420167ce342a2292e0032e5da15346bfd6872ae1dc73eeb24fbe825b5e1", func := "loop.example/g01083/laws.FnExactFactorizationsOf", spec := "fnExactFactorizationsOf", plainKeys := false, apart := false }
def FnExactFactorizationsOfSaid : Prop := fnExactFactorizationsOfRow.holds Try.pinned (OpenSpec.ofChange fnExactFactorizationsOfSpec)

/-- ITS FALSE NEIGHBOUR: 'it returns false'. Refute it at one input. -/
def fnExactFactorizationsOfWrong : ChangeSpec := { name := "fnExactFactorizationsOf", fn := fun _ => fun
  | [d1, d2, d3, d4] => { results := [.lit (.bool false)], args := [d1, d2, d3, d4] }
  | _ => none }
def FnExactFactorizationsOfWrongFalsely : Prop := fnExactFactorizationsOfRow.holds Try.pinned (OpenSpec.ofChange fnExactFactorizationsOfWrong)

/-- 'laws.FnExactImageOfArrow': WHATEVER THE INPUT: true; the input reads as it did. -/
def fnExactImageOfArrowSpec : ChangeSpec := { name := "fnExactImageOfArrow", fn := fun _ => fun
  | [d1, d2] => { results := [.lit (.bool true)], args := [d1, d2] }
  | _ => none }
def fnExactImageOfArrowRow : OpenClaim := { program := "ytmjafiohiippoaa", sum := "88672420167ce342a2292e0032e5da15346bfd6872ae1dc73eeb24fbe825b5e1", func := "loop.example/g01083/laws.FnExactImageOfArrow", spec := "fnExactImageOfArrow", unfollowed := true, recurses := true, plainKeys := false, apart := false }
def FnExactImageOfArrowSaid : Prop := fnExactImageOfArrowRow.holds Try.pinned (OpenSpec.ofChange fnExactImageOfArrowSpec)

/-- ITS FALSE NEIGHBOUR: 'it returns false'. Refute it at one input. -/
def fnExactImageOfArrowWrong : ChangeSpec := { name := "fnExactImageOfArrow", fn := fun _ => fun
  | [d1, d2] => { results := [.lit (.bool false)], args := [d1, d2] }
  | _ => none }
def FnExactImageOfArrowWrongFalsely : Prop := fnExactImageOfArrowRow.holds Try.pinned (OpenSpec.ofChange fnExactImageOfArrowWrong)

/-- 'laws.FnExactSubobjectsOf': WHATEVER THE INPUT: true; the input reads as it did. -/
def fnExactSubobjectsOfSpec : ChangeSpec := { name := "fnExactSubobjectsOf", fn := fun _ => fun
  | [d1, d2] => { results := [.lit (.bool true)], args := [d1, d2] }
  | _ => none }
def fnExactSubobjectsOfRow : OpenClaim := { program := "ytmjafiohiippoaa", sum := "88672420167ce342a2292e0032e5da15346bfd6872ae1dc73eeb24fbe825b5e1", func := "loop.example/g01083/laws.FnExactSubobjectsOf", spec := "fnExactSubobjectsOf", unfollowed := true, recurses := true, plainKeys := false, apart := false }
def FnExactSubobjectsOfSaid : Prop := fnExactSubobjectsOfRow.holds Try.pinned (OpenSpec.ofChange fnExactSubobjectsOfSpec)

/-- ITS FALSE NEIGHBOUR: 'it returns false'. Refute it at one input. -/
def fnExactSubobjectsOfWrong : ChangeSpec := { name := "fnExactSubobjectsOf", fn := fun _ => fun
  | [d1, d2] => { results := [.lit (.bool false)], args := [d1, d2] }
  | _ => none }
def FnExactSubobjectsOfWrongFalsely : Prop := fnExactSubobjectsOfRow.holds Try.pinned (OpenSpec.ofChange fnExactSubobjectsOfWrong)

/-- 'laws.FnExactFullSubcategory': WHATEVER THE INPUT: true; the input reads as it did. -/
def fnExactFullSubcategorySpec : ChangeSpec := { name := "fnExactFullSubcategory", fn := fun _ => fun
  | [d1, d2] => { results := [.lit (.bool true)], args := [d1, d2] }
  | _ => none }
def fnExactFullSubcategoryRow : OpenClaim := { program := "ytmjafiohiippoaa", sum := "88672420167ce342a2292e0032e5da15346bfd6872ae1dc73eeb24fbe825b5e1", func := "loop.example/g01083/laws.FnExactFullSubcategory", spec := "fnExactFullSubcategory", plainKeys := false, apart := false }
def FnExactFullSubcategorySaid : Prop := fnExactFullSubcategoryRow.holds Try.pinned (OpenSpec.ofChange fnExactFullSubcategorySpec)

/-- ITS FALSE NEIGHBOUR: 'it returns false'. Refute it at one input. -/
def fnExactFullSubcategoryWrong : ChangeSpec := { name := "fnExactFullSubcategory", fn := fun _ => fun
  | [d1, d2] => { results := [.lit (.bool false)], args := [d1, d2] }
  | _ => none }
def FnExactFullSubcategoryWrongFalsely : Prop := fnExactFullSubcategoryRow.holds Try.pinned (OpenSpec.ofChange fnExactFullSubcategoryWrong)

/-- 'laws.FnExactIsPart': WHATEVER THE INPUT: true; the input reads as it did. -/
def fnExactIsPartSpec : ChangeSpec := { name := "fnExactIsPart", fn := fun _ => fun
  | [d1, d2] => { results := [.lit (.bool true)], args := [d1, d2] }
  | _ => none }
def fnExactIsPartRow : OpenClaim := { program := "ytmjafiohiippoaa", sum := "88672420167ce342a2292e0032e5da15346bfd6872ae1dc73eeb24fbe825b5e1", func := "loop.example/g01083/laws.FnExactIsPart", spec := "fnExactIsPart", plainKeys := false, apart := false }
def FnExactIsPartSaid : Prop := fnExactIsPartRow.holds Try.pinned (OpenSpec.ofChange fnExactIsPartSpec)

/-- ITS FALSE NEIGHBOUR: 'it returns false'. Refute it at one input. -/
def fnExactIsPartWrong : ChangeSpec := { name := "fnExactIsPart", fn := fun _ => fun
  | [d1, d2] => { results := [.lit (.bool false)], args := [d1, d2] }
  | _ => none }
def FnExactIsPartWrongFalsely : Prop := fnExactIsPartRow.holds Try.pinned (OpenSpec.ofChange fnExactIsPartWrong)

/-- 'laws.FnExactCoequalizerArrow': WHATEVER THE INPUT: true; the input reads as it did. -/
def fnExactCoequalizerArrowSpec : ChangeSpec := { name := "fnExactCoequalizerArrow", fn := fun _ => fun
  | [d1, d2, d3] => { results := [.lit (.bool true)], args := [d1, d2, d3] }
  | _ => none }
def fnExactCoequalizerArrowRow : OpenClaim := { program := "ytmjafiohiippoaa", sum := "88672420167ce342a2292e0032e5da15346bfd6872ae1dc73eeb24fbe825b5e1", func := "loop.example/g01083/laws.FnExactCoequalizerArrow", spec := "fnExactCoequalizerArrow", unfollowed := true, recurses := true, plainKeys := false, apart := false }
def FnExactCoequalizerArrowSaid : Prop := fnExactCoequalizerArrowRow.holds Try.pinned (OpenSpec.ofChange fnExactCoequalizerArrowSpec)

/-- ITS FALSE NEIGHBOUR: 'it returns false'. Refute it at one input. -/
def fnExactCoequalizerArrowWrong : ChangeSpec := { name := "fnExactCoequalizerArrow", fn := fun _ => fun
  | [d1, d2, d3] => { results := [.lit (.bool false)], args := [d1, d2, d3] }
  | _ => none }
def FnExactCoequalizerArrowWrongFalsely : Prop := fnExactCoequalizerArrowRow.holds Try.pinned (OpenSpec.ofChange fnExactCoequalizerArrowWrong)

/-- 'laws.FnExactPushoutArrows': WHATEVER THE INPUT: true; the input reads as it did. -/
def fnExactPushoutArrowsSpec : ChangeSpec := { name := "fnExactPushoutArrows", fn := fun _ => fun
  | [d1, d2, d3] => { results := [.lit (.bool true)], args := [d1, d2, d3] }
  | _ => none }
def fnExactPushoutArrowsRow : OpenClaim := { program := "ytmjafiohiippoaa", sum := "88672420167ce342a2292e0032e5da15346bfd6872ae1dc73eeb24fbe825b5e1", func := "loop.example/g01083/laws.FnExactPushoutArrows", spec := "fnExactPushoutArrows", unfollowed := true, recurses := true, plainKeys := false, apart := false }
def FnExactPushoutArrowsSaid : Prop := fnExactPushoutArrowsRow.holds Try.pinned (OpenSpec.ofChange fnExactPushoutArrowsSpec)

/-- ITS FALSE NEIGHBOUR: 'it returns false'. Refute it at one input. -/
def fnExactPushoutArrowsWrong : ChangeSpec := { name := "fnExactPushoutArrows", fn := fun _ => fun
  | [d1, d2, d3] => { results := [.lit (.bool false)], args := [d1, d2, d3] }
  | _ => none }
def FnExactPushoutArrowsWrongFalsely : Prop := fnExactPushoutArrowsRow.holds Try.pinned (OpenSpec.ofChange fnExactPushoutArrowsWrong)

/-- 'laws.FnExactArrowKinds': WHATEVER THE INPUT: true; the input reads as it did. -/
def fnExactArrowKindsSpec : ChangeSpec := { name := "fnExactArrowKinds", fn := fun _ => fun
  | [d] => { results := [.lit (.bool true)], args := [d] }
  | _ => none }
def fnExactArrowKindsRow : OpenClaim := { program := "ytmjafiohiippoaa", sum := "88672420167ce342a2292e0032e5da15346bfd6872ae1dc73eeb24fbe825b5e1", func := "loop.example/g01083/laws.FnExactArrowKinds", spec := "fnExactArrowKinds", unfollowed := true, recurses := true, plainKeys := false, apart := false }
def FnExactArrowKindsSaid : Prop := fnExactArrowKindsRow.holds Try.pinned (OpenSpec.ofChange fnExactArrowKindsSpec)

/-- ITS FALSE NEIGHBOUR: 'it returns false'. Refute it at one input. -/
def fnExactArrowKindsWrong : ChangeSpec := { name := "fnExactArrowKinds", fn := fun _ => fun
  | [d] => { results := [.lit (.bool false)], args := [d] }
  | _ => none }
def FnExactArrowKindsWrongFalsely : Prop := fnExactArrowKindsRow.holds Try.pinned (OpenSpec.ofChange fnExactArrowKindsWrong)

/- THE SECOND FORM. 'bulk': how many values and letters a reading holds, each counted each time it is reached (what is shared counts as often as it is met; a slice's spare places count too). A statement '..UptoSaid' is the law's where the arguments, and the package variables that the reading takes, are together of bulk at most 1048576: NARROWER than '..Said'. Prove '..Said' where nothing that the law and all that it calls make is longer than what came in: it says more and counts as full. Else prove '..UptoSaid'. A law counts once. -/
mutual
def uptoBulk {H : Type} : DataW H → Nat
  | .lit (.string bytes) => bytes.length + 1
  | .lit _ => 1
  | .nil => 1
  | .ptr d => uptoBulk d + 1
  | .slice elems spare => uptoBulkAll elems + uptoBulkAll spare + 1
  | .agg parts => uptoBulkAll parts + 1
  | .iface _ d => uptoBulk d + 1
  | .map entries => uptoBulkEntries entries + 1
  | .held _ => 1
def uptoBulkAll {H : Type} : List (DataW H) → Nat
  | [] => 0
  | d :: r => uptoBulk d + uptoBulkAll r
def uptoBulkEntries {H : Type} : List (Lit × DataW H) → Nat
  | [] => 0
  | x :: r => uptoBulkEntry x + uptoBulkEntries r
def uptoBulkEntry {H : Type} : Lit × DataW H → Nat
  | (.string bytes, d) => bytes.length + uptoBulk d + 1
  | (_, d) => uptoBulk d + 1
 end
def uptoSmall : (H : Type) → List (DataW H) → Bool := fun _ ds => decide (uptoBulkAll ds ≤ 1048576)
def OpenSpec.upto (s : _root_.Go.ChangeSpec) : _root_.Go.OpenSpec := { _root_.Go.OpenSpec.ofChange s with cond := some uptoSmall }

/-- 'laws.FnExactSubcategoryOf', WHERE WHAT IT READS IS OF BULK AT MOST 1048576: true; the input reads as it did. -/
def fnExactSubcategoryOfUptoRow : OpenClaim := { program := "ytmjafiohiippoaa", sum := "88672420167ce342a2292e0032e5da15346bfd6872ae1dc73eeb24fbe825b5e1", func := "loop.example/g01083/laws.FnExactSubcategoryOf", spec := "fnExactSubcategoryOf", plainKeys := false, apart := false, narrowed := true }
def FnExactSubcategoryOfUptoSaid : Prop := fnExactSubcategoryOfUptoRow.holds Try.pinned (OpenSpec.upto fnExactSubcategoryOfSpec)

/-- 'laws.FnExactOppositeCategory', WHERE WHAT IT READS IS OF BULK AT MOST 1048576: true; the input reads as it did. -/
def fnExactOppositeCategoryUptoRow : OpenClaim := { program := "ytmjafiohiippoaa", sum := "88672420167ce342a2292e0032e5da15346bfd6872ae1dc73eeb24fbe825b5e1", func := "loop.example/g01083/laws.FnExactOppositeCategory", spec := "fnExactOppositeCategory", unfollowed := true, recurses := true, plainKeys := false, apart := false, narrowed := true }
def FnExactOppositeCategoryUptoSaid : Prop := fnExactOppositeCategoryUptoRow.holds Try.pinned (OpenSpec.upto fnExactOppositeCategorySpec)

/-- 'laws.FnExactGeneratedArrows', WHERE WHAT IT READS IS OF BULK AT MOST 1048576: true; the input reads as it did. -/
def fnExactGeneratedArrowsUptoRow : OpenClaim := { program := "ytmjafiohiippoaa", sum := "88672420167ce342a2292e0032e5da15346bfd6872ae1dc73eeb24fbe825b5e1", func := "loop.example/g01083/laws.FnExactGeneratedArrows", spec := "fnExactGeneratedArrows", unfollowed := true, recurses := true, plainKeys := false, apart := false, narrowed := true }
def FnExactGeneratedArrowsUptoSaid : Prop := fnExactGeneratedArrowsUptoRow.holds Try.pinned (OpenSpec.upto fnExactGeneratedArrowsSpec)

/-- 'laws.FnExactFactorizationsOf', WHERE WHAT IT READS IS OF BULK AT MOST 1048576: true; the input reads as it did. -/
def fnExactFactorizationsOfUptoRow : OpenClaim := { program := "ytmjafiohiippoaa", sum := "88672420167ce342a2292e0032e5da15346bfd6872ae1dc73eeb24fbe825b5e1", func := "loop.example/g01083/laws.FnExactFactorizationsOf", spec := "fnExactFactorizationsOf", plainKeys := false, apart := false, narrowed := true }
def FnExactFactorizationsOfUptoSaid : Prop := fnExactFactorizationsOfUptoRow.holds Try.pinned (OpenSpec.upto fnExactFactorizationsOfSpec)

/-- 'laws.FnExactImageOfArrow', WHERE WHAT IT READS IS OF BULK AT MOST 1048576: true; the input reads as it did. -/
def fnExactImageOfArrowUptoRow : OpenClaim := { program := "ytmjafiohiippoaa", sum := "88672420167ce342a2292e0032e5da15346bfd6872ae1dc73eeb24fbe825b5e1", func := "loop.example/g01083/laws.FnExactImageOfArrow", spec := "fnExactImageOfArrow", unfollowed := true, recurses := true, plainKeys := false, apart := false, narrowed := true }
def FnExactImageOfArrowUptoSaid : Prop := fnExactImageOfArrowUptoRow.holds Try.pinned (OpenSpec.upto fnExactImageOfArrowSpec)

/-- 'laws.FnExactSubobjectsOf', WHERE WHAT IT READS IS OF BULK AT MOST 1048576: true; the input reads as it did. -/
def fnExactSubobjectsOfUptoRow : OpenClaim := { program := "ytmjafiohiippoaa", sum := "88672420167ce342a2292e0032e5da15346bfd6872ae1dc73eeb24fbe825b5e1", func := "loop.example/g01083/laws.FnExactSubobjectsOf", spec := "fnExactSubobjectsOf", unfollowed := true, recurses := true, plainKeys := false, apart := false, narrowed := true }
def FnExactSubobjectsOfUptoSaid : Prop := fnExactSubobjectsOfUptoRow.holds Try.pinned (OpenSpec.upto fnExactSubobjectsOfSpec)

/-- 'laws.FnExactFullSubcategory', WHERE WHAT IT READS IS OF BULK AT MOST 1048576: true; the input reads as it did. -/
def fnExactFullSubcategoryUptoRow : OpenClaim := { program := "ytmjafiohiippoaa", sum := "88672420167ce342a2292e0032e5da15346bfd6872ae1dc73eeb24fbe825b5e1", func := "loop.example/g01083/laws.FnExactFullSubcategory", spec := "fnExactFullSubcategory", plainKeys := false, apart := false, narrowed := true }
def FnExactFullSubcategoryUptoSaid : Prop := fnExactFullSubcategoryUptoRow.holds Try.pinned (OpenSpec.upto fnExactFullSubcategorySpec)

/-- 'laws.FnExactIsPart', WHERE WHAT IT READS IS OF BULK AT MOST 1048576: true; the input reads as it did. -/
def fnExactIsPartUptoRow : OpenClaim := { program := "ytmjafiohiippoaa", sum := "88672420167ce342a2292e0032e5da15346bfd6872ae1dc73eeb24fbe825b5e1", func := "loop.example/g01083/laws.FnExactIsPart", spec := "fnExactIsPart", plainKeys := false, apart := false, narrowed := true }
def FnExactIsPartUptoSaid : Prop := fnExactIsPartUptoRow.holds Try.pinned (OpenSpec.upto fnExactIsPartSpec)

/-- 'laws.FnExactCoequalizerArrow', WHERE WHAT IT READS IS OF BULK AT MOST 1048576: true; the input reads as it did. -/
def fnExactCoequalizerArrowUptoRow : OpenClaim := { program := "ytmjafiohiippoaa", sum := "88672420167ce342a2292e0032e5da15346bfd6872ae1dc73eeb24fbe825b5e1", func := "loop.example/g01083/laws.FnExactCoequalizerArrow", spec := "fnExactCoequalizerArrow", unfollowed := true, recurses := true, plainKeys := false, apart := false, narrowed := true }
def FnExactCoequalizerArrowUptoSaid : Prop := fnExactCoequalizerArrowUptoRow.holds Try.pinned (OpenSpec.upto fnExactCoequalizerArrowSpec)

/-- 'laws.FnExactPushoutArrows', WHERE WHAT IT READS IS OF BULK AT MOST 1048576: true; the input reads as it did. -/
def fnExactPushoutArrowsUptoRow : OpenClaim := { program := "ytmjafiohiippoaa", sum := "88672420167ce342a2292e0032e5da15346bfd6872ae1dc73eeb24fbe825b5e1", func := "loop.example/g01083/laws.FnExactPushoutArrows", spec := "fnExactPushoutArrows", unfollowed := true, recurses := true, plainKeys := false, apart := false, narrowed := true }
def FnExactPushoutArrowsUptoSaid : Prop := fnExactPushoutArrowsUptoRow.holds Try.pinned (OpenSpec.upto fnExactPushoutArrowsSpec)

/-- 'laws.FnExactArrowKinds', WHERE WHAT IT READS IS OF BULK AT MOST 1048576: true; the input reads as it did. -/
def fnExactArrowKindsUptoRow : OpenClaim := { program := "ytmjafiohiippoaa", sum := "88672420167ce342a2292e0032e5da15346bfd6872ae1dc73eeb24fbe825b5e1", func := "loop.example/g01083/laws.FnExactArrowKinds", spec := "fnExactArrowKinds", unfollowed := true, recurses := true, plainKeys := false, apart := false, narrowed := true }
def FnExactArrowKindsUptoSaid : Prop := fnExactArrowKindsUptoRow.holds Try.pinned (OpenSpec.upto fnExactArrowKindsSpec)

end Rows
end Go.Proofs.Ytmjafiohiippoaa
