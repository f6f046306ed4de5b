/-
  No cell of these rows narrows 'for every input' (looked for: loops, veiled, ifaces, maps, wideKeys, modest, calm, conditions, laid).
  DERIVED. THE GIVEN ROWS OF THIS SEAT. 10 by the template 'for every input the law returns true; each argument reads behind the call as it read before'; 0 by the template 'total and deterministic' (their statements: YtglfchcjpnacdaaTotals.lean).
  GIVEN WITH THE SEED: the statements are not yours to turn. If you find one false, say at which input.
  Laid BY PROGRAM, IN A SANDBOX (cutbox-rows.mjs): the forced cells as the released guide's own fill.sh prints them over the translation 1c3ff9cd36815666… (all of the seat's roots in one cut). By AI agents, Wed Nov 11 2026. No macro, syntax, notation, axiom, sorry.
-/
import Derived.Test.YtglfchcjpnacdaaChecked
import GoSem.Claim
import GoSem.ClaimJoined
import GoSem.ClaimMapViews
import Derived.JoinedTies
import Derived.KernelRfl
namespace Go.Proofs.Ytglfchcjpnacdaa
/- THE CELL 'sum', in the pinned program and in every row, IS THE sha256 OF THE DUMP (.gsa) THAT YtglfchcjpnacdaaProg.lean LOADS. Nothing in Lean hashes anything: it is a label: what it is worth is what the hold of that sum in a sandbox is worth. -/
noncomputable def Try.pinned : Pinned := { name := "ytglfchcjpnacdaa", sum := "1c3ff9cd36815666e5c25c0b0b042e8ca7b56d51cb6f77e4a74efc0877461eb6", checked := Try.checked }
namespace Rows
def none {H : Type} : Left H := { results := [], args := [] }

/-- 'laws.FnExactChosenIsomorphisms': WHATEVER THE INPUT: true; the input reads as it did. -/
def fnExactChosenIsomorphismsSpec : ChangeSpec := { name := "fnExactChosenIsomorphisms", fn := fun _ => fun
  | [d] => { results := [.lit (.bool true)], args := [d] }
  | _ => none }
def fnExactChosenIsomorphismsRow : OpenClaim := { program := "ytglfchcjpnacdaa", sum := "1c3ff9cd36815666e5c25c0b0b042e8ca7b56d51cb6f77e4a74efc0877461eb6", func := "loop.example/g01083/laws.FnExactChosenIsomorphisms", spec := "fnExactChosenIsomorphisms", plainKeys := false, apart := false }
def FnExactChosenIsomorphismsSaid : Prop := fnExactChosenIsomorphismsRow.holds Try.pinned (OpenSpec.ofChange fnExactChosenIsomorphismsSpec)

/-- ITS FALSE NEIGHBOUR: 'it returns false'. Refute it at one input. -/
def fnExactChosenIsomorphismsWrong : ChangeSpec := { name := "fnExactChosenIsomorphisms", fn := fun _ => fun
  | [d] => { results := [.lit (.bool false)], args := [d] }
  | _ => none }
def FnExactChosenIsomorphismsWrongFalsely : Prop := fnExactChosenIsomorphismsRow.holds Try.pinned (OpenSpec.ofChange fnExactChosenIsomorphismsWrong)

/-- 'laws.FnExactPowerSlots': WHATEVER THE INPUT: true; the input reads as it did. -/
def fnExactPowerSlotsSpec : ChangeSpec := { name := "fnExactPowerSlots", fn := fun _ => fun
  | [d1, d2] => { results := [.lit (.bool true)], args := [d1, d2] }
  | _ => none }
def fnExactPowerSlotsRow : OpenClaim := { program := "ytglfchcjpnacdaa", sum := "1c3ff9cd36815666e5c25c0b0b042e8ca7b56d51cb6f77e4a74efc0877461eb6", func := "loop.example/g01083/laws.FnExactPowerSlots", spec := "fnExactPowerSlots", unfollowed := true, recurses := true, plainKeys := false, leaving := true, apart := false }
def FnExactPowerSlotsSaid : Prop := fnExactPowerSlotsRow.holds Try.pinned (OpenSpec.ofChange fnExactPowerSlotsSpec)

/-- ITS FALSE NEIGHBOUR: 'it returns false'. Refute it at one input. -/
def fnExactPowerSlotsWrong : ChangeSpec := { name := "fnExactPowerSlots", fn := fun _ => fun
  | [d1, d2] => { results := [.lit (.bool false)], args := [d1, d2] }
  | _ => none }
def FnExactPowerSlotsWrongFalsely : Prop := fnExactPowerSlotsRow.holds Try.pinned (OpenSpec.ofChange fnExactPowerSlotsWrong)

/-- 'laws.FnExactConnectedObjects': WHATEVER THE INPUT: true; the input reads as it did. -/
def fnExactConnectedObjectsSpec : ChangeSpec := { name := "fnExactConnectedObjects", fn := fun _ => fun
  | [d] => { results := [.lit (.bool true)], args := [d] }
  | _ => none }
def fnExactConnectedObjectsRow : OpenClaim := { program := "ytglfchcjpnacdaa", sum := "1c3ff9cd36815666e5c25c0b0b042e8ca7b56d51cb6f77e4a74efc0877461eb6", func := "loop.example/g01083/laws.FnExactConnectedObjects", spec := "fnExactConnectedObjects", plainKeys := false, apart := false }
def FnExactConnectedObjectsSaid : Prop := fnExactConnectedObjectsRow.holds Try.pinned (OpenSpec.ofChange fnExactConnectedObjectsSpec)

/-- ITS FALSE NEIGHBOUR: 'it returns false'. Refute it at one input. -/
def fnExactConnectedObjectsWrong : ChangeSpec := { name := "fnExactConnectedObjects", fn := fun _ => fun
  | [d] => { results := [.lit (.bool false)], args := [d] }
  | _ => none }
def FnExactConnectedObjectsWrongFalsely : Prop := fnExactConnectedObjectsRow.holds Try.pinned (OpenSpec.ofChange fnExactConnectedObjectsWrong)

/-- 'laws.FnExactIsCongruence': WHATEVER THE INPUT: true; the input reads as it did. -/
def fnExactIsCongruenceSpec : ChangeSpec := { name := "fnExactIsCongruence", fn := fun _ => fun
  | [d1, d2] => { results := [.lit (.bool true)], args := [d1, d2] }
  | _ => none }
def fnExactIsCongruenceRow : OpenClaim := { program := "ytglfchcjpnacdaa", sum := "1c3ff9cd36815666e5c25c0b0b042e8ca7b56d51cb6f77e4a74efc0877461eb6", func := "loop.example/g01083/laws.FnExactIsCongruence", spec := "fnExactIsCongruence", plainKeys := false, apart := false }
def FnExactIsCongruenceSaid : Prop := fnExactIsCongruenceRow.holds Try.pinned (OpenSpec.ofChange fnExactIsCongruenceSpec)

/-- ITS FALSE NEIGHBOUR: 'it returns false'. Refute it at one input. -/
def fnExactIsCongruenceWrong : ChangeSpec := { name := "fnExactIsCongruence", fn := fun _ => fun
  | [d1, d2] => { results := [.lit (.bool false)], args := [d1, d2] }
  | _ => none }
def FnExactIsCongruenceWrongFalsely : Prop := fnExactIsCongruenceRow.holds Try.pinned (OpenSpec.ofChange fnExactIsCongruenceWrong)

/-- 'laws.FnExactIsomorphismClasses': WHATEVER THE INPUT: true; the input reads as it did. -/
def fnExactIsomorphismClassesSpec : ChangeSpec := { name := "fnExactIsomorphismClasses", fn := fun _ => fun
  | [d] => { results := [.lit (.bool true)], args := [d] }
  | _ => none }
def fnExactIsomorphismClassesRow : OpenClaim := { program := "ytglfchcjpnacdaa", sum := "1c3ff9cd36815666e5c25c0b0b042e8ca7b56d51cb6f77e4a74efc0877461eb6", func := "loop.example/g01083/laws.FnExactIsomorphismClasses", spec := "fnExactIsomorphismClasses", plainKeys := false, apart := false }
def FnExactIsomorphismClassesSaid : Prop := fnExactIsomorphismClassesRow.holds Try.pinned (OpenSpec.ofChange fnExactIsomorphismClassesSpec)

/-- ITS FALSE NEIGHBOUR: 'it returns false'. Refute it at one input. -/
def fnExactIsomorphismClassesWrong : ChangeSpec := { name := "fnExactIsomorphismClasses", fn := fun _ => fun
  | [d] => { results := [.lit (.bool false)], args := [d] }
  | _ => none }
def FnExactIsomorphismClassesWrongFalsely : Prop := fnExactIsomorphismClassesRow.holds Try.pinned (OpenSpec.ofChange fnExactIsomorphismClassesWrong)

/-- 'laws.FnExactCongruenceOf': WHATEVER THE INPUT: true; the input reads as it did. -/
def fnExactCongruenceOfSpec : ChangeSpec := { name := "fnExactCongruenceOf", fn := fun _ => fun
  | [d1, d2] => { results := [.lit (.bool true)], args := [d1, d2] }
  | _ => none }
def fnExactCongruenceOfRow : OpenClaim := { program := "ytglfchcjpnacdaa", sum := "1c3ff9cd36815666e5c25c0b0b042e8ca7b56d51cb6f77e4a74efc0877461eb6", func := "loop.example/g01083/laws.FnExactCongruenceOf", spec := "fnExactCongruenceOf", plainKeys := false, apart := false }
def FnExactCongruenceOfSaid : Prop := fnExactCongruenceOfRow.holds Try.pinned (OpenSpec.ofChange fnExactCongruenceOfSpec)

/-- ITS FALSE NEIGHBOUR: 'it returns false'. Refute it at one input. -/
def fnExactCongruenceOfWrong : ChangeSpec := { name := "fnExactCongruenceOf", fn := fun _ => fun
  | [d1, d2] => { results := [.lit (.bool false)], args := [d1, d2] }
  | _ => none }
def FnExactCongruenceOfWrongFalsely : Prop := fnExactCongruenceOfRow.holds Try.pinned (OpenSpec.ofChange fnExactCongruenceOfWrong)

/-- 'laws.FnExactCoequalizerArrow': WHATEVER THE INPUT: true; the input reads as it did. -/
def fnExactCoequalizerArrowSpec : ChangeSpec := { name := "fnExactCoequalizerArrow", fn := fun _ => fun
  | [d1, d2, d3] => { results := [.lit (.bool true)], args := [d1, d2, d3] }
  | _ => none }
def fnExactCoequalizerArrowRow : OpenClaim := { program := "ytglfchcjpnacdaa", sum := "1c3ff9cd36815666e5c25c0b0b042e8ca7b56d51cb6f77e4a74efc0877461eb6", func := "loop.example/g01083/laws.FnExactCoequalizerArrow", spec := "fnExactCoequalizerArrow", unfollowed := true, recurses := true, plainKeys := false, leaving := true, apart := false }
def FnExactCoequalizerArrowSaid : Prop := fnExactCoequalizerArrowRow.holds Try.pinned (OpenSpec.ofChange fnExactCoequalizerArrowSpec)

/-- ITS FALSE NEIGHBOUR: 'it returns false'. Refute it at one input. -/
def fnExactCoequalizerArrowWrong : ChangeSpec := { name := "fnExactCoequalizerArrow", fn := fun _ => fun
  | [d1, d2, d3] => { results := [.lit (.bool false)], args := [d1, d2, d3] }
  | _ => none }
def FnExactCoequalizerArrowWrongFalsely : Prop := fnExactCoequalizerArrowRow.holds Try.pinned (OpenSpec.ofChange fnExactCoequalizerArrowWrong)

/-- 'laws.FnExactArrowKinds': WHATEVER THE INPUT: true; the input reads as it did. -/
def fnExactArrowKindsSpec : ChangeSpec := { name := "fnExactArrowKinds", fn := fun _ => fun
  | [d] => { results := [.lit (.bool true)], args := [d] }
  | _ => none }
def fnExactArrowKindsRow : OpenClaim := { program := "ytglfchcjpnacdaa", sum := "1c3ff9cd36815666e5c25c0b0b042e8ca7b56d51cb6f77e4a74efc0877461eb6", func := "loop.example/g01083/laws.FnExactArrowKinds", spec := "fnExactArrowKinds", unfollowed := true, recurses := true, plainKeys := false, leaving := true, apart := false }
def FnExactArrowKindsSaid : Prop := fnExactArrowKindsRow.holds Try.pinned (OpenSpec.ofChange fnExactArrowKindsSpec)

/-- ITS FALSE NEIGHBOUR: 'it returns false'. Refute it at one input. -/
def fnExactArrowKindsWrong : ChangeSpec := { name := "fnExactArrowKinds", fn := fun _ => fun
  | [d] => { results := [.lit (.bool false)], args := [d] }
  | _ => none }
def FnExactArrowKindsWrongFalsely : Prop := fnExactArrowKindsRow.holds Try.pinned (OpenSpec.ofChange fnExactArrowKindsWrong)

/-- 'laws.FnExactPushoutArrows': WHATEVER THE INPUT: true; the input reads as it did. -/
def fnExactPushoutArrowsSpec : ChangeSpec := { name := "fnExactPushoutArrows", fn := fun _ => fun
  | [d1, d2, d3] => { results := [.lit (.bool true)], args := [d1, d2, d3] }
  | _ => none }
def fnExactPushoutArrowsRow : OpenClaim := { program := "ytglfchcjpnacdaa", sum := "1c3ff9cd36815666e5c25c0b0b042e8ca7b56d51cb6f77e4a74efc0877461eb6", func := "loop.example/g01083/laws.FnExactPushoutArrows", spec := "fnExactPushoutArrows", unfollowed := true, recurses := true, plainKeys := false, leaving := true, apart := false }
def FnExactPushoutArrowsSaid : Prop := fnExactPushoutArrowsRow.holds Try.pinned (OpenSpec.ofChange fnExactPushoutArrowsSpec)

/-- ITS FALSE NEIGHBOUR: 'it returns false'. Refute it at one input. -/
def fnExactPushoutArrowsWrong : ChangeSpec := { name := "fnExactPushoutArrows", fn := fun _ => fun
  | [d1, d2, d3] => { results := [.lit (.bool false)], args := [d1, d2, d3] }
  | _ => none }
def FnExactPushoutArrowsWrongFalsely : Prop := fnExactPushoutArrowsRow.holds Try.pinned (OpenSpec.ofChange fnExactPushoutArrowsWrong)

/-- 'laws.FnExactSkeletonObjects': WHATEVER THE INPUT: true; the input reads as it did. -/
def fnExactSkeletonObjectsSpec : ChangeSpec := { name := "fnExactSkeletonObjects", fn := fun _ => fun
  | [d] => { results := [.lit (.bool true)], args := [d] }
  | _ => none }
def fnExactSkeletonObjectsRow : OpenClaim := { program := "ytglfchcjpnacdaa", sum := "1c3ff9cd36815666e5c25c0b0b042e8ca7b56d51cb6f77e4a74efc0877461eb6", func := "loop.example/g01083/laws.FnExactSkeletonObjects", spec := "fnExactSkeletonObjects", plainKeys := false, apart := false }
def FnExactSkeletonObjectsSaid : Prop := fnExactSkeletonObjectsRow.holds Try.pinned (OpenSpec.ofChange fnExactSkeletonObjectsSpec)

/-- ITS FALSE NEIGHBOUR: 'it returns false'. Refute it at one input. -/
def fnExactSkeletonObjectsWrong : ChangeSpec := { name := "fnExactSkeletonObjects", fn := fun _ => fun
  | [d] => { results := [.lit (.bool false)], args := [d] }
  | _ => none }
def FnExactSkeletonObjectsWrongFalsely : Prop := fnExactSkeletonObjectsRow.holds Try.pinned (OpenSpec.ofChange fnExactSkeletonObjectsWrong)

/- THE SECOND FORM. 'bulk': how many values and letters a reading holds, each counted each time it is reached (what is shared counts as often as it is met; a slice's spare places count too). A statement '..UptoSaid' is the law's where the arguments, and the package variables that the reading takes, are together of bulk at most 1048576: NARROWER than '..Said'. Prove '..Said' where nothing that the law and all that it calls make is longer than what came in: it says more and counts as full. Else prove '..UptoSaid'. A law counts once. -/
mutual
def uptoBulk {H : Type} : DataW H → Nat
  | .lit (.string bytes) => bytes.length + 1
  | .lit _ => 1
  | .nil => 1
  | .ptr d => uptoBulk d + 1
  | .slice elems spare => uptoBulkAll elems + uptoBulkAll spare + 1
  | .agg parts => uptoBulkAll parts + 1
  | .iface _ d => uptoBulk d + 1
  | .map entries => uptoBulkEntries entries + 1
  | .held _ => 1
def uptoBulkAll {H : Type} : List (DataW H) → Nat
  | [] => 0
  | d :: r => uptoBulk d + uptoBulkAll r
def uptoBulkEntries {H : Type} : List (Lit × DataW H) → Nat
  | [] => 0
  | x :: r => uptoBulkEntry x + uptoBulkEntries r
def uptoBulkEntry {H : Type} : Lit × DataW H → Nat
  | (.string bytes, d) => bytes.length + uptoBulk d + 1
  | (_, d) => uptoBulk d + 1
 end
def uptoSmall : (H : Type) → List (DataW H) → Bool := fun _ ds => decide (uptoBulkAll ds ≤ 1048576)
def OpenSpec.upto (s : _root_.Go.ChangeSpec) : _root_.Go.OpenSpec := { _root_.Go.OpenSpec.ofChange s with cond := some uptoSmall }

/-- 'laws.FnExactChosenIsomorphisms', WHERE WHAT IT READS IS OF BULK AT MOST 1048576: true; the input reads as it did. -/
def fnExactChosenIsomorphismsUptoRow : OpenClaim := { program := "ytglfchcjpnacdaa", sum := "1c3ff9cd36815666e5c25c0b0b042e8ca7b56d51cb6f77e4a74efc0877461eb6", func := "loop.example/g01083/laws.FnExactChosenIsomorphisms", spec := "fnExactChosenIsomorphisms", plainKeys := false, apart := false, narrowed := true }
def FnExactChosenIsomorphismsUptoSaid : Prop := fnExactChosenIsomorphismsUptoRow.holds Try.pinned (OpenSpec.upto fnExactChosenIsomorphismsSpec)

/-- 'laws.FnExactPowerSlots', WHERE WHAT IT READS IS OF BULK AT MOST 1048576: true; the input reads as it did. -/
def fnExactPowerSlotsUptoRow : OpenClaim := { program := "ytglfchcjpnacdaa", sum := "1c3ff9cd36815666e5c25c0b0b042e8ca7b56d51cb6f77e4a74efc0877461eb6", func := "loop.example/g01083/laws.FnExactPowerSlots", spec := "fnExactPowerSlots", unfollowed := true, recurses := true, plainKeys := false, leaving := true, apart := false, narrowed := true }
def FnExactPowerSlotsUptoSaid : Prop := fnExactPowerSlotsUptoRow.holds Try.pinned (OpenSpec.upto fnExactPowerSlotsSpec)

/-- 'laws.FnExactConnectedObjects', WHERE WHAT IT READS IS OF BULK AT MOST 1048576: true; the input reads as it did. -/
def fnExactConnectedObjectsUptoRow : OpenClaim := { program := "ytglfchcjpnacdaa", sum := "1c3ff9cd36815666e5c25c0b0b042e8ca7b56d51cb6f77e4a74efc0877461eb6", func := "loop.example/g01083/laws.FnExactConnectedObjects", spec := "fnExactConnectedObjects", plainKeys := false, apart := false, narrowed := true }
def FnExactConnectedObjectsUptoSaid : Prop := fnExactConnectedObjectsUptoRow.holds Try.pinned (OpenSpec.upto fnExactConnectedObjectsSpec)

/-- 'laws.FnExactIsCongruence', WHERE WHAT IT READS IS OF BULK AT MOST 1048576: true; the input reads as it did. -/
def fnExactIsCongruenceUptoRow : OpenClaim := { program := "ytglfchcjpnacdaa", sum := "1c3ff9cd36815666e5c25c0b0b042e8ca7b56d51cb6f77e4a74efc0877461eb6", func := "loop.example/g01083/laws.FnExactIsCongruence", spec := "fnExactIsCongruence", plainKeys := false, apart := false, narrowed := true }
def FnExactIsCongruenceUptoSaid : Prop := fnExactIsCongruenceUptoRow.holds Try.pinned (OpenSpec.upto fnExactIsCongruenceSpec)

/-- 'laws.FnExactIsomorphismClasses', WHERE WHAT IT READS IS OF BULK AT MOST 1048576: true; the input reads as it did. -/
def fnExactIsomorphismClassesUptoRow : OpenClaim := { program := "ytglfchcjpnacdaa", sum := "1c3ff9cd36815666e5c25c0b0b042e8ca7b56d51cb6f77e4a74efc0877461eb6", func := "loop.example/g01083/laws.FnExactIsomorphismClasses", spec := "fnExactIsomorphismClasses", plainKeys := false, apart := false, narrowed := true }
def FnExactIsomorphismClassesUptoSaid : Prop := fnExactIsomorphismClassesUptoRow.holds Try.pinned (OpenSpec.upto fnExactIsomorphismClassesSpec)

/-- 'laws.FnExactCongruenceOf', WHERE WHAT IT READS IS OF BULK AT MOST 1048576: true; the input reads as it did. -/
def fnExactCongruenceOfUptoRow : OpenClaim := { program := "ytglfchcjpnacdaa", sum := "1c3ff9cd36815666e5c25c0b0b042e8ca7b56d51cb6f77e4a74efc0877461eb6", func := "loop.example/g01083/laws.FnExactCongruenceOf", spec := "fnExactCongruenceOf", plainKeys := false, apart := false, narrowed := true }
def FnExactCongruenceOfUptoSaid : Prop := fnExactCongruenceOfUptoRow.holds Try.pinned (OpenSpec.upto fnExactCongruenceOfSpec)

/-- 'laws.FnExactCoequalizerArrow', WHERE WHAT IT READS IS OF BULK AT MOST 1048576: true; the input reads as it did. -/
def fnExactCoequalizerArrowUptoRow : OpenClaim := { program := "ytglfchcjpnacdaa", sum := "1c3ff9cd36815666e5c25c0b0b042e8ca7b56d51cb6f77e4a74efc0877461eb6", func := "loop.example/g01083/laws.FnExactCoequalizerArrow", spec := "fnExactCoequalizerArrow", unfollowed := true, recurses := true, plainKeys := false, leaving := true, apart := false, narrowed := true }
def FnExactCoequalizerArrowUptoSaid : Prop := fnExactCoequalizerArrowUptoRow.holds Try.pinned (OpenSpec.upto fnExactCoequalizerArrowSpec)

/-- 'laws.FnExactArrowKinds', WHERE WHAT IT READS IS OF BULK AT MOST 1048576: true; the input reads as it did. -/
def fnExactArrowKindsUptoRow : OpenClaim := { program := "ytglfchcjpnacdaa", sum := "1c3ff9cd36815666e5c25c0b0b042e8ca7b56d51cb6f77e4a74efc0877461eb6", func := "loop.example/g01083/laws.FnExactArrowKinds", spec := "fnExactArrowKinds", unfollowed := true, recurses := true, plainKeys := false, leaving := true, apart := false, narrowed := true }
def FnExactArrowKindsUptoSaid : Prop := fnExactArrowKindsUptoRow.holds Try.pinned (OpenSpec.upto fnExactArrowKindsSpec)

/-- 'laws.FnExactPushoutArrows', WHERE WHAT IT READS IS OF BULK AT MOST 1048576: true; the input reads as it did. -/
def fnExactPushoutArrowsUptoRow : OpenClaim := { program := "ytglfchcjpnacdaa", sum := "1c3ff9cd36815666e5c25c0b0b042e8ca7b56d51cb6f77e4a74efc0877461eb6", func := "loop.example/g01083/laws.FnExactPushoutArrows", spec := "fnExactPushoutArrows", unfollowed := true, recurses := true, plainKeys := false, leaving := true, apart := false, narrowed := true }
def FnExactPushoutArrowsUptoSaid : Prop := fnExactPushoutArrowsUptoRow.holds Try.pinned (OpenSpec.upto fnExactPushoutArrowsSpec)

/-- 'laws.FnExactSkeletonObjects', WHERE WHAT IT READS IS OF BULK AT MOST 1048576: true; the input reads as it did. -/
def fnExactSkeletonObjectsUptoRow : OpenClaim := { program := "ytglfchcjpnacdaa", sum := "1c3ff9cd36815666e5c25c0b0b042e8ca7b56d51cb6f77e4a74efc0877461eb6", func := "loop.example/g01083/laws.FnExactSkeletonObjects", spec := "fnExactSkeletonObjects", plainKeys := false, apart := false, narrowed := true }
def FnExactSkeletonObjectsUptoSaid : Prop := fnExactSkeletonObjectsUptoRow.holds Try.pinned (OpenSpec.upto fnExactSkeletonObjectsSpec)

end Rows
end Go.Proofs.Ytglfchcjpnacdaa
