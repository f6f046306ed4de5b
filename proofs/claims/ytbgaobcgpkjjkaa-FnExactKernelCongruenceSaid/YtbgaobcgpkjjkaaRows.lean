/-
  No cell of these rows narrows 'for every input' (looked for: loops, veiled, ifaces, maps, wideKeys, modest, calm, conditions, laid).
  DERIVED. THE GIVEN ROWS OF THIS SEAT. 12 by the template 'for every input the law returns true; each argument reads behind the call as it read before'; 0 by the template 'total and deterministic' (their statements: YtbgaobcgpkjjkaaTotals.lean).
  GIVEN WITH THE SEED: the statements are not yours to turn. If you find one false, say at which input.
  Laid BY PROGRAM, IN A SANDBOX (cutbox-rows.mjs): the forced cells as the released guide's own fill.sh prints them over the translation c2b1f60fd5c465b2… (all of the seat's roots in one cut). By AI agents, Wed Nov 11 2026. No macro, syntax, notation, axiom, sorry.
-/
import Derived.Test.YtbgaobcgpkjjkaaChecked
import GoSem.Claim
import GoSem.ClaimJoined
import GoSem.ClaimMapViews
import Derived.JoinedTies
import Derived.KernelRfl
namespace Go.Proofs.Ytbgaobcgpkjjkaa
/- THE CELL 'sum', in the pinned program and in every row, IS THE sha256 OF THE DUMP (.gsa) THAT YtbgaobcgpkjjkaaProg.lean LOADS. Nothing in Lean hashes anything: it is a label: what it is worth is what the hold of that sum in a sandbox is worth. -/
noncomputable def Try.pinned : Pinned := { name := "ytbgaobcgpkjjkaa", sum := "c2b1f60fd5c465b2f3d59be341b75a6006c6a50f84ea0f64d75c71a04bb3d034", checked := Try.checked }
namespace Rows
def none {H : Type} : Left H := { results := [], args := [] }

/-- 'laws.FnExactIsFunctor': WHATEVER THE INPUT: true; the input reads as it did. -/
def fnExactIsFunctorSpec : ChangeSpec := { name := "fnExactIsFunctor", fn := fun _ => fun
  | [d] => { results := [.lit (.bool true)], args := [d] }
  | _ => none }
def fnExactIsFunctorRow : OpenClaim := { program := "ytbgaobcgpkjjkaa", sum := "c2b1f60fd5c465b2f3d59be341b75a6006c6a50f84ea0f64d75c71a04bb3d034", func := "loop.example/g01083/laws.FnExactIsFunctor", spec := "fnExactIsFunctor", apart := false }
def FnExactIsFunctorSaid : Prop := fnExactIsFunctorRow.holds Try.pinned (OpenSpec.ofChange fnExactIsFunctorSpec)

/-- ITS FALSE NEIGHBOUR: 'it returns false'. Refute it at one input. -/
def fnExactIsFunctorWrong : ChangeSpec := { name := "fnExactIsFunctor", fn := fun _ => fun
  | [d] => { results := [.lit (.bool false)], args := [d] }
  | _ => none }
def FnExactIsFunctorWrongFalsely : Prop := fnExactIsFunctorRow.holds Try.pinned (OpenSpec.ofChange fnExactIsFunctorWrong)

/-- 'laws.FnExactIsFaithful': WHATEVER THE INPUT: true; the input reads as it did. -/
def fnExactIsFaithfulSpec : ChangeSpec := { name := "fnExactIsFaithful", fn := fun _ => fun
  | [d] => { results := [.lit (.bool true)], args := [d] }
  | _ => none }
def fnExactIsFaithfulRow : OpenClaim := { program := "ytbgaobcgpkjjkaa", sum := "c2b1f60fd5c465b2f3d59be341b75a6006c6a50f84ea0f64d75c71a04bb3d034", func := "loop.example/g01083/laws.FnExactIsFaithful", spec := "fnExactIsFaithful", unfollowed := true, recurses := true, apart := false }
def FnExactIsFaithfulSaid : Prop := fnExactIsFaithfulRow.holds Try.pinned (OpenSpec.ofChange fnExactIsFaithfulSpec)

/-- ITS FALSE NEIGHBOUR: 'it returns false'. Refute it at one input. -/
def fnExactIsFaithfulWrong : ChangeSpec := { name := "fnExactIsFaithful", fn := fun _ => fun
  | [d] => { results := [.lit (.bool false)], args := [d] }
  | _ => none }
def FnExactIsFaithfulWrongFalsely : Prop := fnExactIsFaithfulRow.holds Try.pinned (OpenSpec.ofChange fnExactIsFaithfulWrong)

/-- 'laws.FnExactKeepsEpis': WHATEVER THE INPUT: true; the input reads as it did. -/
def fnExactKeepsEpisSpec : ChangeSpec := { name := "fnExactKeepsEpis", fn := fun _ => fun
  | [d] => { results := [.lit (.bool true)], args := [d] }
  | _ => none }
def fnExactKeepsEpisRow : OpenClaim := { program := "ytbgaobcgpkjjkaa", sum := "c2b1f60fd5c465b2f3d59be341b75a6006c6a50f84ea0f64d75c71a04bb3d034", func := "loop.example/g01083/laws.FnExactKeepsEpis", spec := "fnExactKeepsEpis", unfollowed := true, recurses := true, apart := false }
def FnExactKeepsEpisSaid : Prop := fnExactKeepsEpisRow.holds Try.pinned (OpenSpec.ofChange fnExactKeepsEpisSpec)

/-- ITS FALSE NEIGHBOUR: 'it returns false'. Refute it at one input. -/
def fnExactKeepsEpisWrong : ChangeSpec := { name := "fnExactKeepsEpis", fn := fun _ => fun
  | [d] => { results := [.lit (.bool false)], args := [d] }
  | _ => none }
def FnExactKeepsEpisWrongFalsely : Prop := fnExactKeepsEpisRow.holds Try.pinned (OpenSpec.ofChange fnExactKeepsEpisWrong)

/-- 'laws.FnExactKeepsMonos': WHATEVER THE INPUT: true; the input reads as it did. -/
def fnExactKeepsMonosSpec : ChangeSpec := { name := "fnExactKeepsMonos", fn := fun _ => fun
  | [d] => { results := [.lit (.bool true)], args := [d] }
  | _ => none }
def fnExactKeepsMonosRow : OpenClaim := { program := "ytbgaobcgpkjjkaa", sum := "c2b1f60fd5c465b2f3d59be341b75a6006c6a50f84ea0f64d75c71a04bb3d034", func := "loop.example/g01083/laws.FnExactKeepsMonos", spec := "fnExactKeepsMonos", unfollowed := true, recurses := true, apart := false }
def FnExactKeepsMonosSaid : Prop := fnExactKeepsMonosRow.holds Try.pinned (OpenSpec.ofChange fnExactKeepsMonosSpec)

/-- ITS FALSE NEIGHBOUR: 'it returns false'. Refute it at one input. -/
def fnExactKeepsMonosWrong : ChangeSpec := { name := "fnExactKeepsMonos", fn := fun _ => fun
  | [d] => { results := [.lit (.bool false)], args := [d] }
  | _ => none }
def FnExactKeepsMonosWrongFalsely : Prop := fnExactKeepsMonosRow.holds Try.pinned (OpenSpec.ofChange fnExactKeepsMonosWrong)

/-- 'laws.FnExactIsCone': WHATEVER THE INPUT: true; the input reads as it did. -/
def fnExactIsConeSpec : ChangeSpec := { name := "fnExactIsCone", fn := fun _ => fun
  | [d1, d2] => { results := [.lit (.bool true)], args := [d1, d2] }
  | _ => none }
def fnExactIsConeRow : OpenClaim := { program := "ytbgaobcgpkjjkaa", sum := "c2b1f60fd5c465b2f3d59be341b75a6006c6a50f84ea0f64d75c71a04bb3d034", func := "loop.example/g01083/laws.FnExactIsCone", spec := "fnExactIsCone", apart := false }
def FnExactIsConeSaid : Prop := fnExactIsConeRow.holds Try.pinned (OpenSpec.ofChange fnExactIsConeSpec)

/-- ITS FALSE NEIGHBOUR: 'it returns false'. Refute it at one input. -/
def fnExactIsConeWrong : ChangeSpec := { name := "fnExactIsCone", fn := fun _ => fun
  | [d1, d2] => { results := [.lit (.bool false)], args := [d1, d2] }
  | _ => none }
def FnExactIsConeWrongFalsely : Prop := fnExactIsConeRow.holds Try.pinned (OpenSpec.ofChange fnExactIsConeWrong)

/-- 'laws.FnExactIsConservative': WHATEVER THE INPUT: true; the input reads as it did. -/
def fnExactIsConservativeSpec : ChangeSpec := { name := "fnExactIsConservative", fn := fun _ => fun
  | [d] => { results := [.lit (.bool true)], args := [d] }
  | _ => none }
def fnExactIsConservativeRow : OpenClaim := { program := "ytbgaobcgpkjjkaa", sum := "c2b1f60fd5c465b2f3d59be341b75a6006c6a50f84ea0f64d75c71a04bb3d034", func := "loop.example/g01083/laws.FnExactIsConservative", spec := "fnExactIsConservative", unfollowed := true, recurses := true, apart := false }
def FnExactIsConservativeSaid : Prop := fnExactIsConservativeRow.holds Try.pinned (OpenSpec.ofChange fnExactIsConservativeSpec)

/-- ITS FALSE NEIGHBOUR: 'it returns false'. Refute it at one input. -/
def fnExactIsConservativeWrong : ChangeSpec := { name := "fnExactIsConservative", fn := fun _ => fun
  | [d] => { results := [.lit (.bool false)], args := [d] }
  | _ => none }
def FnExactIsConservativeWrongFalsely : Prop := fnExactIsConservativeRow.holds Try.pinned (OpenSpec.ofChange fnExactIsConservativeWrong)

/-- 'laws.FnExactIsFull': WHATEVER THE INPUT: true; the input reads as it did. -/
def fnExactIsFullSpec : ChangeSpec := { name := "fnExactIsFull", fn := fun _ => fun
  | [d] => { results := [.lit (.bool true)], args := [d] }
  | _ => none }
def fnExactIsFullRow : OpenClaim := { program := "ytbgaobcgpkjjkaa", sum := "c2b1f60fd5c465b2f3d59be341b75a6006c6a50f84ea0f64d75c71a04bb3d034", func := "loop.example/g01083/laws.FnExactIsFull", spec := "fnExactIsFull", unfollowed := true, recurses := true, apart := false }
def FnExactIsFullSaid : Prop := fnExactIsFullRow.holds Try.pinned (OpenSpec.ofChange fnExactIsFullSpec)

/-- ITS FALSE NEIGHBOUR: 'it returns false'. Refute it at one input. -/
def fnExactIsFullWrong : ChangeSpec := { name := "fnExactIsFull", fn := fun _ => fun
  | [d] => { results := [.lit (.bool false)], args := [d] }
  | _ => none }
def FnExactIsFullWrongFalsely : Prop := fnExactIsFullRow.holds Try.pinned (OpenSpec.ofChange fnExactIsFullWrong)

/-- 'laws.FnExactIsEssentiallySurjective': WHATEVER THE INPUT: true; the input reads as it did. -/
def fnExactIsEssentiallySurjectiveSpec : ChangeSpec := { name := "fnExactIsEssentiallySurjective", fn := fun _ => fun
  | [d] => { results := [.lit (.bool true)], args := [d] }
  | _ => none }
def fnExactIsEssentiallySurjectiveRow : OpenClaim := { program := "ytbgaobcgpkjjkaa", sum := "c2b1f60fd5c465b2f3d59be341b75a6006c6a50f84ea0f64d75c71a04bb3d034", func := "loop.example/g01083/laws.FnExactIsEssentiallySurjective", spec := "fnExactIsEssentiallySurjective", unfollowed := true, recurses := true, apart := false }
def FnExactIsEssentiallySurjectiveSaid : Prop := fnExactIsEssentiallySurjectiveRow.holds Try.pinned (OpenSpec.ofChange fnExactIsEssentiallySurjectiveSpec)

/-- ITS FALSE NEIGHBOUR: 'it returns false'. Refute it at one input. -/
def fnExactIsEssentiallySurjectiveWrong : ChangeSpec := { name := "fnExactIsEssentiallySurjective", fn := fun _ => fun
  | [d] => { results := [.lit (.bool false)], args := [d] }
  | _ => none }
def FnExactIsEssentiallySurjectiveWrongFalsely : Prop := fnExactIsEssentiallySurjectiveRow.holds Try.pinned (OpenSpec.ofChange fnExactIsEssentiallySurjectiveWrong)

/-- 'laws.FnExactRightSeats': WHATEVER THE INPUT: true; the input reads as it did. -/
def fnExactRightSeatsSpec : ChangeSpec := { name := "fnExactRightSeats", fn := fun _ => fun
  | [d1, d2] => { results := [.lit (.bool true)], args := [d1, d2] }
  | _ => none }
def fnExactRightSeatsRow : OpenClaim := { program := "ytbgaobcgpkjjkaa", sum := "c2b1f60fd5c465b2f3d59be341b75a6006c6a50f84ea0f64d75c71a04bb3d034", func := "loop.example/g01083/laws.FnExactRightSeats", spec := "fnExactRightSeats", apart := false }
def FnExactRightSeatsSaid : Prop := fnExactRightSeatsRow.holds Try.pinned (OpenSpec.ofChange fnExactRightSeatsSpec)

/-- ITS FALSE NEIGHBOUR: 'it returns false'. Refute it at one input. -/
def fnExactRightSeatsWrong : ChangeSpec := { name := "fnExactRightSeats", fn := fun _ => fun
  | [d1, d2] => { results := [.lit (.bool false)], args := [d1, d2] }
  | _ => none }
def FnExactRightSeatsWrongFalsely : Prop := fnExactRightSeatsRow.holds Try.pinned (OpenSpec.ofChange fnExactRightSeatsWrong)

/-- 'laws.FnExactUniversalArrow': WHATEVER THE INPUT: true; the input reads as it did. -/
def fnExactUniversalArrowSpec : ChangeSpec := { name := "fnExactUniversalArrow", fn := fun _ => fun
  | [d1, d2] => { results := [.lit (.bool true)], args := [d1, d2] }
  | _ => none }
def fnExactUniversalArrowRow : OpenClaim := { program := "ytbgaobcgpkjjkaa", sum := "c2b1f60fd5c465b2f3d59be341b75a6006c6a50f84ea0f64d75c71a04bb3d034", func := "loop.example/g01083/laws.FnExactUniversalArrow", spec := "fnExactUniversalArrow", apart := false }
def FnExactUniversalArrowSaid : Prop := fnExactUniversalArrowRow.holds Try.pinned (OpenSpec.ofChange fnExactUniversalArrowSpec)

/-- ITS FALSE NEIGHBOUR: 'it returns false'. Refute it at one input. -/
def fnExactUniversalArrowWrong : ChangeSpec := { name := "fnExactUniversalArrow", fn := fun _ => fun
  | [d1, d2] => { results := [.lit (.bool false)], args := [d1, d2] }
  | _ => none }
def FnExactUniversalArrowWrongFalsely : Prop := fnExactUniversalArrowRow.holds Try.pinned (OpenSpec.ofChange fnExactUniversalArrowWrong)

/-- 'laws.FnExactImageArrows': WHATEVER THE INPUT: true; the input reads as it did. -/
def fnExactImageArrowsSpec : ChangeSpec := { name := "fnExactImageArrows", fn := fun _ => fun
  | [d] => { results := [.lit (.bool true)], args := [d] }
  | _ => none }
def fnExactImageArrowsRow : OpenClaim := { program := "ytbgaobcgpkjjkaa", sum := "c2b1f60fd5c465b2f3d59be341b75a6006c6a50f84ea0f64d75c71a04bb3d034", func := "loop.example/g01083/laws.FnExactImageArrows", spec := "fnExactImageArrows", unfollowed := true, recurses := true, apart := false }
def FnExactImageArrowsSaid : Prop := fnExactImageArrowsRow.holds Try.pinned (OpenSpec.ofChange fnExactImageArrowsSpec)

/-- ITS FALSE NEIGHBOUR: 'it returns false'. Refute it at one input. -/
def fnExactImageArrowsWrong : ChangeSpec := { name := "fnExactImageArrows", fn := fun _ => fun
  | [d] => { results := [.lit (.bool false)], args := [d] }
  | _ => none }
def FnExactImageArrowsWrongFalsely : Prop := fnExactImageArrowsRow.holds Try.pinned (OpenSpec.ofChange fnExactImageArrowsWrong)

/-- 'laws.FnExactKernelCongruence': WHATEVER THE INPUT: true; the input reads as it did. -/
def fnExactKernelCongruenceSpec : ChangeSpec := { name := "fnExactKernelCongruence", fn := fun _ => fun
  | [d] => { results := [.lit (.bool true)], args := [d] }
  | _ => none }
def fnExactKernelCongruenceRow : OpenClaim := { program := "ytbgaobcgpkjjkaa", sum := "c2b1f60fd5c465b2f3d59be341b75a6006c6a50f84ea0f64d75c71a04bb3d034", func := "loop.example/g01083/laws.FnExactKernelCongruence", spec := "fnExactKernelCongruence", apart := false }
def FnExactKernelCongruenceSaid : Prop := fnExactKernelCongruenceRow.holds Try.pinned (OpenSpec.ofChange fnExactKernelCongruenceSpec)

/-- ITS FALSE NEIGHBOUR: 'it returns false'. Refute it at one input. -/
def fnExactKernelCongruenceWrong : ChangeSpec := { name := "fnExactKernelCongruence", fn := fun _ => fun
  | [d] => { results := [.lit (.bool false)], args := [d] }
  | _ => none }
def FnExactKernelCongruenceWrongFalsely : Prop := fnExactKernelCongruenceRow.holds Try.pinned (OpenSpec.ofChange fnExactKernelCongruenceWrong)

/- THE SECOND FORM. 'bulk': how many values and letters a reading holds, each counted each time it is reached (what is shared counts as often as it is met; a slice's spare places count too). A statement '..UptoSaid' is the law's where the arguments, and the package variables that the reading takes, are together of bulk at most 1048576: NARROWER than '..Said'. Prove '..Said' where nothing that the law and all that it calls make is longer than what came in: it says more and counts as full. Else prove '..UptoSaid'. A law counts once. -/
mutual
def uptoBulk {H : Type} : DataW H → Nat
  | .lit (.string bytes) => bytes.length + 1
  | .lit _ => 1
  | .nil => 1
  | .ptr d => uptoBulk d + 1
  | .slice elems spare => uptoBulkAll elems + uptoBulkAll spare + 1
  | .agg parts => uptoBulkAll parts + 1
  | .iface _ d => uptoBulk d + 1
  | .map entries => uptoBulkEntries entries + 1
  | .held _ => 1
def uptoBulkAll {H : Type} : List (DataW H) → Nat
  | [] => 0
  | d :: r => uptoBulk d + uptoBulkAll r
def uptoBulkEntries {H : Type} : List (Lit × DataW H) → Nat
  | [] => 0
  | x :: r => uptoBulkEntry x + uptoBulkEntries r
def uptoBulkEntry {H : Type} : Lit × DataW H → Nat
  | (.string bytes, d) => bytes.length + uptoBulk d + 1
  | (_, d) => uptoBulk d + 1
 end
def uptoSmall : (H : Type) → List (DataW H) → Bool := fun _ ds => decide (uptoBulkAll ds ≤ 1048576)
def OpenSpec.upto (s : _root_.Go.ChangeSpec) : _root_.Go.OpenSpec := { _root_.Go.OpenSpec.ofChange s with cond := some uptoSmall }

/-- 'laws.FnExactIsFunctor', WHERE WHAT IT READS IS OF BULK AT MOST 1048576: true; the input reads as it did. -/
def fnExactIsFunctorUptoRow : OpenClaim := { program := "ytbgaobcgpkjjkaa", sum := "c2b1f60fd5c465b2f3d59be341b75a6006c6a50f84ea0f64d75c71a04bb3d034", func := "loop.example/g01083/laws.FnExactIsFunctor", spec := "fnExactIsFunctor", apart := false, narrowed := true }
def FnExactIsFunctorUptoSaid : Prop := fnExactIsFunctorUptoRow.holds Try.pinned (OpenSpec.upto fnExactIsFunctorSpec)

/-- 'laws.FnExactIsFaithful', WHERE WHAT IT READS IS OF BULK AT MOST 1048576: true; the input reads as it did. -/
def fnExactIsFaithfulUptoRow : OpenClaim := { program := "ytbgaobcgpkjjkaa", sum := "c2b1f60fd5c465b2f3d59be341b75a6006c6a50f84ea0f64d75c71a04bb3d034", func := "loop.example/g01083/laws.FnExactIsFaithful", spec := "fnExactIsFaithful", unfollowed := true, recurses := true, apart := false, narrowed := true }
def FnExactIsFaithfulUptoSaid : Prop := fnExactIsFaithfulUptoRow.holds Try.pinned (OpenSpec.upto fnExactIsFaithfulSpec)

/-- 'laws.FnExactKeepsEpis', WHERE WHAT IT READS IS OF BULK AT MOST 1048576: true; the input reads as it did. -/
def fnExactKeepsEpisUptoRow : OpenClaim := { program := "ytbgaobcgpkjjkaa", sum := "c2b1f60fd5c465b2f3d59be341b75a6006c6a50f84ea0f64d75c71a04bb3d034", func := "loop.example/g01083/laws.FnExactKeepsEpis", spec := "fnExactKeepsEpis", unfollowed := true, recurses := true, apart := false, narrowed := true }
def FnExactKeepsEpisUptoSaid : Prop := fnExactKeepsEpisUptoRow.holds Try.pinned (OpenSpec.upto fnExactKeepsEpisSpec)

/-- 'laws.FnExactKeepsMonos', WHERE WHAT IT READS IS OF BULK AT MOST 1048576: true; the input reads as it did. -/
def fnExactKeepsMonosUptoRow : OpenClaim := { program := "ytbgaobcgpkjjkaa", sum := "c2b1f60fd5c465b2f3d59be341b75a6006c6a50f84ea0f64d75c71a04bb3d034", func := "loop.example/g01083/laws.FnExactKeepsMonos", spec := "fnExactKeepsMonos", unfollowed := true, recurses := true, apart := false, narrowed := true }
def FnExactKeepsMonosUptoSaid : Prop := fnExactKeepsMonosUptoRow.holds Try.pinned (OpenSpec.upto fnExactKeepsMonosSpec)

/-- 'laws.FnExactIsCone', WHERE WHAT IT READS IS OF BULK AT MOST 1048576: true; the input reads as it did. -/
def fnExactIsConeUptoRow : OpenClaim := { program := "ytbgaobcgpkjjkaa", sum := "c2b1f60fd5c465b2f3d59be341b75a6006c6a50f84ea0f64d75c71a04bb3d034", func := "loop.example/g01083/laws.FnExactIsCone", spec := "fnExactIsCone", apart := false, narrowed := true }
def FnExactIsConeUptoSaid : Prop := fnExactIsConeUptoRow.holds Try.pinned (OpenSpec.upto fnExactIsConeSpec)

/-- 'laws.FnExactIsConservative', WHERE WHAT IT READS IS OF BULK AT MOST 1048576: true; the input reads as it did. -/
def fnExactIsConservativeUptoRow : OpenClaim := { program := "ytbgaobcgpkjjkaa", sum := "c2b1f60fd5c465b2f3d59be341b75a6006c6a50f84ea0f64d75c71a04bb3d034", func := "loop.example/g01083/laws.FnExactIsConservative", spec := "fnExactIsConservative", unfollowed := true, recurses := true, apart := false, narrowed := true }
def FnExactIsConservativeUptoSaid : Prop := fnExactIsConservativeUptoRow.holds Try.pinned (OpenSpec.upto fnExactIsConservativeSpec)

/-- 'laws.FnExactIsFull', WHERE WHAT IT READS IS OF BULK AT MOST 1048576: true; the input reads as it did. -/
def fnExactIsFullUptoRow : OpenClaim := { program := "ytbgaobcgpkjjkaa", sum := "c2b1f60fd5c465b2f3d59be341b75a6006c6a50f84ea0f64d75c71a04bb3d034", func := "loop.example/g01083/laws.FnExactIsFull", spec := "fnExactIsFull", unfollowed := true, recurses := true, apart := false, narrowed := true }
def FnExactIsFullUptoSaid : Prop := fnExactIsFullUptoRow.holds Try.pinned (OpenSpec.upto fnExactIsFullSpec)

/-- 'laws.FnExactIsEssentiallySurjective', WHERE WHAT IT READS IS OF BULK AT MOST 1048576: true; the input reads as it did. -/
def fnExactIsEssentiallySurjectiveUptoRow : OpenClaim := { program := "ytbgaobcgpkjjkaa", sum := "c2b1f60fd5c465b2f3d59be341b75a6006c6a50f84ea0f64d75c71a04bb3d034", func := "loop.example/g01083/laws.FnExactIsEssentiallySurjective", spec := "fnExactIsEssentiallySurjective", unfollowed := true, recurses := true, apart := false, narrowed := true }
def FnExactIsEssentiallySurjectiveUptoSaid : Prop := fnExactIsEssentiallySurjectiveUptoRow.holds Try.pinned (OpenSpec.upto fnExactIsEssentiallySurjectiveSpec)

/-- 'laws.FnExactRightSeats', WHERE WHAT IT READS IS OF BULK AT MOST 1048576: true; the input reads as it did. -/
def fnExactRightSeatsUptoRow : OpenClaim := { program := "ytbgaobcgpkjjkaa", sum := "c2b1f60fd5c465b2f3d59be341b75a6006c6a50f84ea0f64d75c71a04bb3d034", func := "loop.example/g01083/laws.FnExactRightSeats", spec := "fnExactRightSeats", apart := false, narrowed := true }
def FnExactRightSeatsUptoSaid : Prop := fnExactRightSeatsUptoRow.holds Try.pinned (OpenSpec.upto fnExactRightSeatsSpec)

/-- 'laws.FnExactUniversalArrow', WHERE WHAT IT READS IS OF BULK AT MOST 1048576: true; the input reads as it did. -/
def fnExactUniversalArrowUptoRow : OpenClaim := { program := "ytbgaobcgpkjjkaa", sum := "c2b1f60fd5c465b2f3d59be341b75a6006c6a50f84ea0f64d75c71a04bb3d034", func := "loop.example/g01083/laws.FnExactUniversalArrow", spec := "fnExactUniversalArrow", apart := false, narrowed := true }
def FnExactUniversalArrowUptoSaid : Prop := fnExactUniversalArrowUptoRow.holds Try.pinned (OpenSpec.upto fnExactUniversalArrowSpec)

/-- 'laws.FnExactImageArrows', WHERE WHAT IT READS IS OF BULK AT MOST 1048576: true; the input reads as it did. -/
def fnExactImageArrowsUptoRow : OpenClaim := { program := "ytbgaobcgpkjjkaa", sum := "c2b1f60fd5c465b2f3d59be341b75a6006c6a50f84ea0f64d75c71a04bb3d034", func := "loop.example/g01083/laws.FnExactImageArrows", spec := "fnExactImageArrows", unfollowed := true, recurses := true, apart := false, narrowed := true }
def FnExactImageArrowsUptoSaid : Prop := fnExactImageArrowsUptoRow.holds Try.pinned (OpenSpec.upto fnExactImageArrowsSpec)

/-- 'laws.FnExactKernelCongruence', WHERE WHAT IT READS IS OF BULK AT MOST 1048576: true; the input reads as it did. -/
def fnExactKernelCongruenceUptoRow : OpenClaim := { program := "ytbgaobcgpkjjkaa", sum := "c2b1f60fd5c465b2f3d59be341b75a6006c6a50f84ea0f64d75c71a04bb3d034", func := "loop.example/g01083/laws.FnExactKernelCongruence", spec := "fnExactKernelCongruence", apart := false, narrowed := true }
def FnExactKernelCongruenceUptoSaid : Prop := fnExactKernelCongruenceUptoRow.holds Try.pinned (OpenSpec.upto fnExactKernelCongruenceSpec)

end Rows
end Go.Proofs.Ytbgaobcgpkjjkaa
