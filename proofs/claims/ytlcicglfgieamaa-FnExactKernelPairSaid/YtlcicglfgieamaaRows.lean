/-
  No cell of these rows narrows 'for every input' (looked for: loops, veiled, ifaces, maps, wideKeys, modest, calm, conditions, laid).
  DERIVED. THE GIVEN ROWS OF THIS SEAT. 12 by the template 'for every input the law returns true; each argument reads behind the call as it read before'; 0 by the template 'total and deterministic' (their statements: YtlcicglfgieamaaTotals.lean).
  GIVEN WITH THE SEED: the statements are not yours to turn. If you find one false, say at which input.
  Laid BY PROGRAM, IN A SANDBOX (cutbox-rows.mjs): the forced cells as the released guide's own fill.sh prints them over the translation af1f2321ba63cf6d… (all of the seat's roots in one cut). By AI agents, Wed Nov 11 2026. No macro, syntax, notation, axiom, sorry.
-/
import Derived.Test.YtlcicglfgieamaaChecked
import GoSem.Claim
import GoSem.ClaimJoined
import GoSem.ClaimMapViews
import Derived.JoinedTies
import Derived.KernelRfl
namespace Go.Proofs.Ytlcicglfgieamaa
/- THE CELL 'sum', in the pinned program and in every row, IS THE sha256 OF THE DUMP (.gsa) THAT YtlcicglfgieamaaProg.lean LOADS. Nothing in Lean hashes anything: it is a label: what it is worth is what the hold of that sum in a sandbox is worth. -/
noncomputable def Try.pinned : Pinned := { name := "ytlcicglfgieamaa", sum := "af1f2321ba63cf6d44a17c4b5a1b1a3931b6c2083a8840e986d701cf9478e7a8", checked := Try.checked }
namespace Rows
def none {H : Type} : Left H := { results := [], args := [] }

/-- 'laws.FnExactInitialObjects': WHATEVER THE INPUT: true; the input reads as it did. -/
def fnExactInitialObjectsSpec : ChangeSpec := { name := "fnExactInitialObjects", fn := fun _ => fun
  | [d] => { results := [.lit (.bool true)], args := [d] }
  | _ => none }
def fnExactInitialObjectsRow : OpenClaim := { program := "ytlcicglfgieamaa", sum := "af1f2321ba63cf6d44a17c4b5a1b1a3931b6c2083a8840e986d701cf9478e7a8", func := "loop.example/g01083/laws.FnExactInitialObjects", spec := "fnExactInitialObjects", unfollowed := true, recurses := true, plainKeys := false, apart := false }
def FnExactInitialObjectsSaid : Prop := fnExactInitialObjectsRow.holds Try.pinned (OpenSpec.ofChange fnExactInitialObjectsSpec)

/-- ITS FALSE NEIGHBOUR: 'it returns false'. Refute it at one input. -/
def fnExactInitialObjectsWrong : ChangeSpec := { name := "fnExactInitialObjects", fn := fun _ => fun
  | [d] => { results := [.lit (.bool false)], args := [d] }
  | _ => none }
def FnExactInitialObjectsWrongFalsely : Prop := fnExactInitialObjectsRow.holds Try.pinned (OpenSpec.ofChange fnExactInitialObjectsWrong)

/-- 'laws.FnExactProductOf': WHATEVER THE INPUT: true; the input reads as it did. -/
def fnExactProductOfSpec : ChangeSpec := { name := "fnExactProductOf", fn := fun _ => fun
  | [d1, d2, d3] => { results := [.lit (.bool true)], args := [d1, d2, d3] }
  | _ => none }
def fnExactProductOfRow : OpenClaim := { program := "ytlcicglfgieamaa", sum := "af1f2321ba63cf6d44a17c4b5a1b1a3931b6c2083a8840e986d701cf9478e7a8", func := "loop.example/g01083/laws.FnExactProductOf", spec := "fnExactProductOf", unfollowed := true, recurses := true, plainKeys := false, apart := false }
def FnExactProductOfSaid : Prop := fnExactProductOfRow.holds Try.pinned (OpenSpec.ofChange fnExactProductOfSpec)

/-- ITS FALSE NEIGHBOUR: 'it returns false'. Refute it at one input. -/
def fnExactProductOfWrong : ChangeSpec := { name := "fnExactProductOf", fn := fun _ => fun
  | [d1, d2, d3] => { results := [.lit (.bool false)], args := [d1, d2, d3] }
  | _ => none }
def FnExactProductOfWrongFalsely : Prop := fnExactProductOfRow.holds Try.pinned (OpenSpec.ofChange fnExactProductOfWrong)

/-- 'laws.FnExactProductCategory': WHATEVER THE INPUT: true; the input reads as it did. -/
def fnExactProductCategorySpec : ChangeSpec := { name := "fnExactProductCategory", fn := fun _ => fun
  | [d1, d2] => { results := [.lit (.bool true)], args := [d1, d2] }
  | _ => none }
def fnExactProductCategoryRow : OpenClaim := { program := "ytlcicglfgieamaa", sum := "af1f2321ba63cf6d44a17c4b5a1b1a3931b6c2083a8840e986d701cf9478e7a8", func := "loop.example/g01083/laws.FnExactProductCategory", spec := "fnExactProductCategory", unfollowed := true, recurses := true, plainKeys := false, apart := false }
def FnExactProductCategorySaid : Prop := fnExactProductCategoryRow.holds Try.pinned (OpenSpec.ofChange fnExactProductCategorySpec)

/-- ITS FALSE NEIGHBOUR: 'it returns false'. Refute it at one input. -/
def fnExactProductCategoryWrong : ChangeSpec := { name := "fnExactProductCategory", fn := fun _ => fun
  | [d1, d2] => { results := [.lit (.bool false)], args := [d1, d2] }
  | _ => none }
def FnExactProductCategoryWrongFalsely : Prop := fnExactProductCategoryRow.holds Try.pinned (OpenSpec.ofChange fnExactProductCategoryWrong)

/-- 'laws.FnExactEqualizerArrow': WHATEVER THE INPUT: true; the input reads as it did. -/
def fnExactEqualizerArrowSpec : ChangeSpec := { name := "fnExactEqualizerArrow", fn := fun _ => fun
  | [d1, d2, d3] => { results := [.lit (.bool true)], args := [d1, d2, d3] }
  | _ => none }
def fnExactEqualizerArrowRow : OpenClaim := { program := "ytlcicglfgieamaa", sum := "af1f2321ba63cf6d44a17c4b5a1b1a3931b6c2083a8840e986d701cf9478e7a8", func := "loop.example/g01083/laws.FnExactEqualizerArrow", spec := "fnExactEqualizerArrow", unfollowed := true, recurses := true, plainKeys := false, apart := false }
def FnExactEqualizerArrowSaid : Prop := fnExactEqualizerArrowRow.holds Try.pinned (OpenSpec.ofChange fnExactEqualizerArrowSpec)

/-- ITS FALSE NEIGHBOUR: 'it returns false'. Refute it at one input. -/
def fnExactEqualizerArrowWrong : ChangeSpec := { name := "fnExactEqualizerArrow", fn := fun _ => fun
  | [d1, d2, d3] => { results := [.lit (.bool false)], args := [d1, d2, d3] }
  | _ => none }
def FnExactEqualizerArrowWrongFalsely : Prop := fnExactEqualizerArrowRow.holds Try.pinned (OpenSpec.ofChange fnExactEqualizerArrowWrong)

/-- 'laws.FnExactPairArrows': WHATEVER THE INPUT: true; the input reads as it did. -/
def fnExactPairArrowsSpec : ChangeSpec := { name := "fnExactPairArrows", fn := fun _ => fun
  | [d1, d2, d3] => { results := [.lit (.bool true)], args := [d1, d2, d3] }
  | _ => none }
def fnExactPairArrowsRow : OpenClaim := { program := "ytlcicglfgieamaa", sum := "af1f2321ba63cf6d44a17c4b5a1b1a3931b6c2083a8840e986d701cf9478e7a8", func := "loop.example/g01083/laws.FnExactPairArrows", spec := "fnExactPairArrows", unfollowed := true, recurses := true, plainKeys := false, apart := false }
def FnExactPairArrowsSaid : Prop := fnExactPairArrowsRow.holds Try.pinned (OpenSpec.ofChange fnExactPairArrowsSpec)

/-- ITS FALSE NEIGHBOUR: 'it returns false'. Refute it at one input. -/
def fnExactPairArrowsWrong : ChangeSpec := { name := "fnExactPairArrows", fn := fun _ => fun
  | [d1, d2, d3] => { results := [.lit (.bool false)], args := [d1, d2, d3] }
  | _ => none }
def FnExactPairArrowsWrongFalsely : Prop := fnExactPairArrowsRow.holds Try.pinned (OpenSpec.ofChange fnExactPairArrowsWrong)

/-- 'laws.FnExactPullbackArrows': WHATEVER THE INPUT: true; the input reads as it did. -/
def fnExactPullbackArrowsSpec : ChangeSpec := { name := "fnExactPullbackArrows", fn := fun _ => fun
  | [d1, d2, d3] => { results := [.lit (.bool true)], args := [d1, d2, d3] }
  | _ => none }
def fnExactPullbackArrowsRow : OpenClaim := { program := "ytlcicglfgieamaa", sum := "af1f2321ba63cf6d44a17c4b5a1b1a3931b6c2083a8840e986d701cf9478e7a8", func := "loop.example/g01083/laws.FnExactPullbackArrows", spec := "fnExactPullbackArrows", unfollowed := true, recurses := true, plainKeys := false, apart := false }
def FnExactPullbackArrowsSaid : Prop := fnExactPullbackArrowsRow.holds Try.pinned (OpenSpec.ofChange fnExactPullbackArrowsSpec)

/-- ITS FALSE NEIGHBOUR: 'it returns false'. Refute it at one input. -/
def fnExactPullbackArrowsWrong : ChangeSpec := { name := "fnExactPullbackArrows", fn := fun _ => fun
  | [d1, d2, d3] => { results := [.lit (.bool false)], args := [d1, d2, d3] }
  | _ => none }
def FnExactPullbackArrowsWrongFalsely : Prop := fnExactPullbackArrowsRow.holds Try.pinned (OpenSpec.ofChange fnExactPullbackArrowsWrong)

/-- 'laws.FnExactKernelPair': WHATEVER THE INPUT: true; the input reads as it did. -/
def fnExactKernelPairSpec : ChangeSpec := { name := "fnExactKernelPair", fn := fun _ => fun
  | [d1, d2] => { results := [.lit (.bool true)], args := [d1, d2] }
  | _ => none }
def fnExactKernelPairRow : OpenClaim := { program := "ytlcicglfgieamaa", sum := "af1f2321ba63cf6d44a17c4b5a1b1a3931b6c2083a8840e986d701cf9478e7a8", func := "loop.example/g01083/laws.FnExactKernelPair", spec := "fnExactKernelPair", unfollowed := true, recurses := true, plainKeys := false, apart := false }
def FnExactKernelPairSaid : Prop := fnExactKernelPairRow.holds Try.pinned (OpenSpec.ofChange fnExactKernelPairSpec)

/-- ITS FALSE NEIGHBOUR: 'it returns false'. Refute it at one input. -/
def fnExactKernelPairWrong : ChangeSpec := { name := "fnExactKernelPair", fn := fun _ => fun
  | [d1, d2] => { results := [.lit (.bool false)], args := [d1, d2] }
  | _ => none }
def FnExactKernelPairWrongFalsely : Prop := fnExactKernelPairRow.holds Try.pinned (OpenSpec.ofChange fnExactKernelPairWrong)

/-- 'laws.FnExactCoproductOf': WHATEVER THE INPUT: true; the input reads as it did. -/
def fnExactCoproductOfSpec : ChangeSpec := { name := "fnExactCoproductOf", fn := fun _ => fun
  | [d1, d2, d3] => { results := [.lit (.bool true)], args := [d1, d2, d3] }
  | _ => none }
def fnExactCoproductOfRow : OpenClaim := { program := "ytlcicglfgieamaa", sum := "af1f2321ba63cf6d44a17c4b5a1b1a3931b6c2083a8840e986d701cf9478e7a8", func := "loop.example/g01083/laws.FnExactCoproductOf", spec := "fnExactCoproductOf", unfollowed := true, recurses := true, plainKeys := false, apart := false }
def FnExactCoproductOfSaid : Prop := fnExactCoproductOfRow.holds Try.pinned (OpenSpec.ofChange fnExactCoproductOfSpec)

/-- ITS FALSE NEIGHBOUR: 'it returns false'. Refute it at one input. -/
def fnExactCoproductOfWrong : ChangeSpec := { name := "fnExactCoproductOf", fn := fun _ => fun
  | [d1, d2, d3] => { results := [.lit (.bool false)], args := [d1, d2, d3] }
  | _ => none }
def FnExactCoproductOfWrongFalsely : Prop := fnExactCoproductOfRow.holds Try.pinned (OpenSpec.ofChange fnExactCoproductOfWrong)

/-- 'laws.FnExactSumCategory': WHATEVER THE INPUT: true; the input reads as it did. -/
def fnExactSumCategorySpec : ChangeSpec := { name := "fnExactSumCategory", fn := fun _ => fun
  | [d1, d2] => { results := [.lit (.bool true)], args := [d1, d2] }
  | _ => none }
def fnExactSumCategoryRow : OpenClaim := { program := "ytlcicglfgieamaa", sum := "af1f2321ba63cf6d44a17c4b5a1b1a3931b6c2083a8840e986d701cf9478e7a8", func := "loop.example/g01083/laws.FnExactSumCategory", spec := "fnExactSumCategory", unfollowed := true, recurses := true, plainKeys := false, apart := false }
def FnExactSumCategorySaid : Prop := fnExactSumCategoryRow.holds Try.pinned (OpenSpec.ofChange fnExactSumCategorySpec)

/-- ITS FALSE NEIGHBOUR: 'it returns false'. Refute it at one input. -/
def fnExactSumCategoryWrong : ChangeSpec := { name := "fnExactSumCategory", fn := fun _ => fun
  | [d1, d2] => { results := [.lit (.bool false)], args := [d1, d2] }
  | _ => none }
def FnExactSumCategoryWrongFalsely : Prop := fnExactSumCategoryRow.holds Try.pinned (OpenSpec.ofChange fnExactSumCategoryWrong)

/-- 'laws.FnExactTwistedCategory': WHATEVER THE INPUT: true; the input reads as it did. -/
def fnExactTwistedCategorySpec : ChangeSpec := { name := "fnExactTwistedCategory", fn := fun _ => fun
  | [d] => { results := [.lit (.bool true)], args := [d] }
  | _ => none }
def fnExactTwistedCategoryRow : OpenClaim := { program := "ytlcicglfgieamaa", sum := "af1f2321ba63cf6d44a17c4b5a1b1a3931b6c2083a8840e986d701cf9478e7a8", func := "loop.example/g01083/laws.FnExactTwistedCategory", spec := "fnExactTwistedCategory", unfollowed := true, recurses := true, plainKeys := false, apart := false }
def FnExactTwistedCategorySaid : Prop := fnExactTwistedCategoryRow.holds Try.pinned (OpenSpec.ofChange fnExactTwistedCategorySpec)

/-- ITS FALSE NEIGHBOUR: 'it returns false'. Refute it at one input. -/
def fnExactTwistedCategoryWrong : ChangeSpec := { name := "fnExactTwistedCategory", fn := fun _ => fun
  | [d] => { results := [.lit (.bool false)], args := [d] }
  | _ => none }
def FnExactTwistedCategoryWrongFalsely : Prop := fnExactTwistedCategoryRow.holds Try.pinned (OpenSpec.ofChange fnExactTwistedCategoryWrong)

/-- 'laws.FnExactOrderMonoidal': WHATEVER THE INPUT: true; the input reads as it did. -/
def fnExactOrderMonoidalSpec : ChangeSpec := { name := "fnExactOrderMonoidal", fn := fun _ => fun
  | [d1, d2] => { results := [.lit (.bool true)], args := [d1, d2] }
  | _ => none }
def fnExactOrderMonoidalRow : OpenClaim := { program := "ytlcicglfgieamaa", sum := "af1f2321ba63cf6d44a17c4b5a1b1a3931b6c2083a8840e986d701cf9478e7a8", func := "loop.example/g01083/laws.FnExactOrderMonoidal", spec := "fnExactOrderMonoidal", unfollowed := true, recurses := true, plainKeys := false, apart := false }
def FnExactOrderMonoidalSaid : Prop := fnExactOrderMonoidalRow.holds Try.pinned (OpenSpec.ofChange fnExactOrderMonoidalSpec)

/-- ITS FALSE NEIGHBOUR: 'it returns false'. Refute it at one input. -/
def fnExactOrderMonoidalWrong : ChangeSpec := { name := "fnExactOrderMonoidal", fn := fun _ => fun
  | [d1, d2] => { results := [.lit (.bool false)], args := [d1, d2] }
  | _ => none }
def FnExactOrderMonoidalWrongFalsely : Prop := fnExactOrderMonoidalRow.holds Try.pinned (OpenSpec.ofChange fnExactOrderMonoidalWrong)

/-- 'laws.FnExactJoinCategory': WHATEVER THE INPUT: true; the input reads as it did. -/
def fnExactJoinCategorySpec : ChangeSpec := { name := "fnExactJoinCategory", fn := fun _ => fun
  | [d1, d2] => { results := [.lit (.bool true)], args := [d1, d2] }
  | _ => none }
def fnExactJoinCategoryRow : OpenClaim := { program := "ytlcicglfgieamaa", sum := "af1f2321ba63cf6d44a17c4b5a1b1a3931b6c2083a8840e986d701cf9478e7a8", func := "loop.example/g01083/laws.FnExactJoinCategory", spec := "fnExactJoinCategory", unfollowed := true, recurses := true, plainKeys := false, apart := false }
def FnExactJoinCategorySaid : Prop := fnExactJoinCategoryRow.holds Try.pinned (OpenSpec.ofChange fnExactJoinCategorySpec)

/-- ITS FALSE NEIGHBOUR: 'it returns false'. Refute it at one input. -/
def fnExactJoinCategoryWrong : ChangeSpec := { name := "fnExactJoinCategory", fn := fun _ => fun
  | [d1, d2] => { results := [.lit (.bool false)], args := [d1, d2] }
  | _ => none }
def FnExactJoinCategoryWrongFalsely : Prop := fnExactJoinCategoryRow.holds Try.pinned (OpenSpec.ofChange fnExactJoinCategoryWrong)

/- THE SECOND FORM. 'bulk': how many values and letters a reading holds, each counted each time it is reached (what is shared counts as often as it is met; a slice's spare places count too). A statement '..UptoSaid' is the law's where the arguments, and the package variables that the reading takes, are together of bulk at most 1048576: NARROWER than '..Said'. Prove '..Said' where nothing that the law and all that it calls make is longer than what came in: it says more and counts as full. Else prove '..UptoSaid'. A law counts once. -/
mutual
def uptoBulk {H : Type} : DataW H → Nat
  | .lit (.string bytes) => bytes.length + 1
  | .lit _ => 1
  | .nil => 1
  | .ptr d => uptoBulk d + 1
  | .slice elems spare => uptoBulkAll elems + uptoBulkAll spare + 1
  | .agg parts => uptoBulkAll parts + 1
  | .iface _ d => uptoBulk d + 1
  | .map entries => uptoBulkEntries entries + 1
  | .held _ => 1
def uptoBulkAll {H : Type} : List (DataW H) → Nat
  | [] => 0
  | d :: r => uptoBulk d + uptoBulkAll r
def uptoBulkEntries {H : Type} : List (Lit × DataW H) → Nat
  | [] => 0
  | x :: r => uptoBulkEntry x + uptoBulkEntries r
def uptoBulkEntry {H : Type} : Lit × DataW H → Nat
  | (.string bytes, d) => bytes.length + uptoBulk d + 1
  | (_, d) => uptoBulk d + 1
 end
def uptoSmall : (H : Type) → List (DataW H) → Bool := fun _ ds => decide (uptoBulkAll ds ≤ 1048576)
def OpenSpec.upto (s : _root_.Go.ChangeSpec) : _root_.Go.OpenSpec := { _root_.Go.OpenSpec.ofChange s with cond := some uptoSmall }

/-- 'laws.FnExactInitialObjects', WHERE WHAT IT READS IS OF BULK AT MOST 1048576: true; the input reads as it did. -/
def fnExactInitialObjectsUptoRow : OpenClaim := { program := "ytlcicglfgieamaa", sum := "af1f2321ba63cf6d44a17c4b5a1b1a3931b6c2083a8840e986d701cf9478e7a8", func := "loop.example/g01083/laws.FnExactInitialObjects", spec := "fnExactInitialObjects", unfollowed := true, recurses := true, plainKeys := false, apart := false, narrowed := true }
def FnExactInitialObjectsUptoSaid : Prop := fnExactInitialObjectsUptoRow.holds Try.pinned (OpenSpec.upto fnExactInitialObjectsSpec)

/-- 'laws.FnExactProductOf', WHERE WHAT IT READS IS OF BULK AT MOST 1048576: true; the input reads as it did. -/
def fnExactProductOfUptoRow : OpenClaim := { program := "ytlcicglfgieamaa", sum := "af1f2321ba63cf6d44a17c4b5a1b1a3931b6c2083a8840e986d701cf9478e7a8", func := "loop.example/g01083/laws.FnExactProductOf", spec := "fnExactProductOf", unfollowed := true, recurses := true, plainKeys := false, apart := false, narrowed := true }
def FnExactProductOfUptoSaid : Prop := fnExactProductOfUptoRow.holds Try.pinned (OpenSpec.upto fnExactProductOfSpec)

/-- 'laws.FnExactProductCategory', WHERE WHAT IT READS IS OF BULK AT MOST 1048576: true; the input reads as it did. -/
def fnExactProductCategoryUptoRow : OpenClaim := { program := "ytlcicglfgieamaa", sum := "af1f2321ba63cf6d44a17c4b5a1b1a3931b6c2083a8840e986d701cf9478e7a8", func := "loop.example/g01083/laws.FnExactProductCategory", spec := "fnExactProductCategory", unfollowed := true, recurses := true, plainKeys := false, apart := false, narrowed := true }
def FnExactProductCategoryUptoSaid : Prop := fnExactProductCategoryUptoRow.holds Try.pinned (OpenSpec.upto fnExactProductCategorySpec)

/-- 'laws.FnExactEqualizerArrow', WHERE WHAT IT READS IS OF BULK AT MOST 1048576: true; the input reads as it did. -/
def fnExactEqualizerArrowUptoRow : OpenClaim := { program := "ytlcicglfgieamaa", sum := "af1f2321ba63cf6d44a17c4b5a1b1a3931b6c2083a8840e986d701cf9478e7a8", func := "loop.example/g01083/laws.FnExactEqualizerArrow", spec := "fnExactEqualizerArrow", unfollowed := true, recurses := true, plainKeys := false, apart := false, narrowed := true }
def FnExactEqualizerArrowUptoSaid : Prop := fnExactEqualizerArrowUptoRow.holds Try.pinned (OpenSpec.upto fnExactEqualizerArrowSpec)

/-- 'laws.FnExactPairArrows', WHERE WHAT IT READS IS OF BULK AT MOST 1048576: true; the input reads as it did. -/
def fnExactPairArrowsUptoRow : OpenClaim := { program := "ytlcicglfgieamaa", sum := "af1f2321ba63cf6d44a17c4b5a1b1a3931b6c2083a8840e986d701cf9478e7a8", func := "loop.example/g01083/laws.FnExactPairArrows", spec := "fnExactPairArrows", unfollowed := true, recurses := true, plainKeys := false, apart := false, narrowed := true }
def FnExactPairArrowsUptoSaid : Prop := fnExactPairArrowsUptoRow.holds Try.pinned (OpenSpec.upto fnExactPairArrowsSpec)

/-- 'laws.FnExactPullbackArrows', WHERE WHAT IT READS IS OF BULK AT MOST 1048576: true; the input reads as it did. -/
def fnExactPullbackArrowsUptoRow : OpenClaim := { program := "ytlcicglfgieamaa", sum := "af1f2321ba63cf6d44a17c4b5a1b1a3931b6c2083a8840e986d701cf9478e7a8", func := "loop.example/g01083/laws.FnExactPullbackArrows", spec := "fnExactPullbackArrows", unfollowed := true, recurses := true, plainKeys := false, apart := false, narrowed := true }
def FnExactPullbackArrowsUptoSaid : Prop := fnExactPullbackArrowsUptoRow.holds Try.pinned (OpenSpec.upto fnExactPullbackArrowsSpec)

/-- 'laws.FnExactKernelPair', WHERE WHAT IT READS IS OF BULK AT MOST 1048576: true; the input reads as it did. -/
def fnExactKernelPairUptoRow : OpenClaim := { program := "ytlcicglfgieamaa", sum := "af1f2321ba63cf6d44a17c4b5a1b1a3931b6c2083a8840e986d701cf9478e7a8", func := "loop.example/g01083/laws.FnExactKernelPair", spec := "fnExactKernelPair", unfollowed := true, recurses := true, plainKeys := false, apart := false, narrowed := true }
def FnExactKernelPairUptoSaid : Prop := fnExactKernelPairUptoRow.holds Try.pinned (OpenSpec.upto fnExactKernelPairSpec)

/-- 'laws.FnExactCoproductOf', WHERE WHAT IT READS IS OF BULK AT MOST 1048576: true; the input reads as it did. -/
def fnExactCoproductOfUptoRow : OpenClaim := { program := "ytlcicglfgieamaa", sum := "af1f2321ba63cf6d44a17c4b5a1b1a3931b6c2083a8840e986d701cf9478e7a8", func := "loop.example/g01083/laws.FnExactCoproductOf", spec := "fnExactCoproductOf", unfollowed := true, recurses := true, plainKeys := false, apart := false, narrowed := true }
def FnExactCoproductOfUptoSaid : Prop := fnExactCoproductOfUptoRow.holds Try.pinned (OpenSpec.upto fnExactCoproductOfSpec)

/-- 'laws.FnExactSumCategory', WHERE WHAT IT READS IS OF BULK AT MOST 1048576: true; the input reads as it did. -/
def fnExactSumCategoryUptoRow : OpenClaim := { program := "ytlcicglfgieamaa", sum := "af1f2321ba63cf6d44a17c4b5a1b1a3931b6c2083a8840e986d701cf9478e7a8", func := "loop.example/g01083/laws.FnExactSumCategory", spec := "fnExactSumCategory", unfollowed := true, recurses := true, plainKeys := false, apart := false, narrowed := true }
def FnExactSumCategoryUptoSaid : Prop := fnExactSumCategoryUptoRow.holds Try.pinned (OpenSpec.upto fnExactSumCategorySpec)

/-- 'laws.FnExactTwistedCategory', WHERE WHAT IT READS IS OF BULK AT MOST 1048576: true; the input reads as it did. -/
def fnExactTwistedCategoryUptoRow : OpenClaim := { program := "ytlcicglfgieamaa", sum := "af1f2321ba63cf6d44a17c4b5a1b1a3931b6c2083a8840e986d701cf9478e7a8", func := "loop.example/g01083/laws.FnExactTwistedCategory", spec := "fnExactTwistedCategory", unfollowed := true, recurses := true, plainKeys := false, apart := false, narrowed := true }
def FnExactTwistedCategoryUptoSaid : Prop := fnExactTwistedCategoryUptoRow.holds Try.pinned (OpenSpec.upto fnExactTwistedCategorySpec)

/-- 'laws.FnExactOrderMonoidal', WHERE WHAT IT READS IS OF BULK AT MOST 1048576: true; the input reads as it did. -/
def fnExactOrderMonoidalUptoRow : OpenClaim := { program := "ytlcicglfgieamaa", sum := "af1f2321ba63cf6d44a17c4b5a1b1a3931b6c2083a8840e986d701cf9478e7a8", func := "loop.example/g01083/laws.FnExactOrderMonoidal", spec := "fnExactOrderMonoidal", unfollowed := true, recurses := true, plainKeys := false, apart := false, narrowed := true }
def FnExactOrderMonoidalUptoSaid : Prop := fnExactOrderMonoidalUptoRow.holds Try.pinned (OpenSpec.upto fnExactOrderMonoidalSpec)

/-- 'laws.FnExactJoinCategory', WHERE WHAT IT READS IS OF BULK AT MOST 1048576: true; the input reads as it did. -/
def fnExactJoinCategoryUptoRow : OpenClaim := { program := "ytlcicglfgieamaa", sum := "af1f2321ba63cf6d44a17c4b5a1b1a3931b6c2083a8840e986d701cf9478e7a8", func := "loop.example/g01083/laws.FnExactJoinCategory", spec := "fnExactJoinCategory", unfollowed := true, recurses := true, plainKeys := false, apart := false, narrowed := true }
def FnExactJoinCategoryUptoSaid : Prop := fnExactJoinCategoryUptoRow.holds Try.pinned (OpenSpec.upto fnExactJoinCategorySpec)

end Rows
end Go.Proofs.Ytlcicglfgieamaa
