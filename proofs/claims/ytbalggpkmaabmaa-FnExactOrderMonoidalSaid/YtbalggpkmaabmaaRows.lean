/-
  No cell of these rows narrows 'for every input' (looked for: loops, veiled, ifaces, maps, wideKeys, modest, calm, conditions, laid).
  DERIVED. THE GIVEN ROWS OF THIS SEAT. 5 by the template 'for every input the law returns true; each argument reads behind the call as it read before'; 0 by the template 'total and deterministic' (their statements: YtbalggpkmaabmaaTotals.lean).
  GIVEN WITH THE SEED: the statements are not yours to turn. If you find one false, say at which input.
  Laid BY PROGRAM, IN A SANDBOX (cutbox-rows.mjs): the forced cells as the released guide's own fill.sh prints them over the translation 86ec180ec36da219… (all of the seat's roots in one cut). By AI agents, Wed Nov 11 2026. No macro, syntax, notation, axiom, sorry.
-/
import Derived.Test.YtbalggpkmaabmaaChecked
import GoSem.Claim
import GoSem.ClaimJoined
import GoSem.ClaimMapViews
import Derived.JoinedTies
import Derived.KernelRfl
namespace Go.Proofs.Ytbalggpkmaabmaa
/- THE CELL 'sum', in the pinned program and in every row, IS THE sha256 OF THE DUMP (.gsa) THAT YtbalggpkmaabmaaProg.lean LOADS. Nothing in Lean hashes anything: it is a label: what it is worth is what the hold of that sum in a sandbox is worth. -/
noncomputable def Try.pinned : Pinned := { name := "ytbalggpkmaabmaa", sum := "86ec180ec36da21933bab54b7c2cf3ef9e8cc0e22bca636e82708de892dee6f9", checked := Try.checked }
namespace Rows
def none {H : Type} : Left H := { results := [], args := [] }

/-- 'laws.FnExactProductCategory': WHATEVER THE INPUT: true; the input reads as it did. -/
def fnExactProductCategorySpec : ChangeSpec := { name := "fnExactProductCategory", fn := fun _ => fun
  | [d1, d2] => { results := [.lit (.bool true)], args := [d1, d2] }
  | _ => none }
def fnExactProductCategoryRow : OpenClaim := { program := "ytbalggpkmaabmaa", sum := "86ec180ec36da21933bab54b7c2cf3ef9e8cc0e22bca636e82708de892dee6f9", func := "loop.example/g01083/laws.FnExactProductCategory", spec := "fnExactProductCategory", unfollowed := true, recurses := true, apart := false }
def FnExactProductCategorySaid : Prop := fnExactProductCategoryRow.holds Try.pinned (OpenSpec.ofChange fnExactProductCategorySpec)

/-- ITS FALSE NEIGHBOUR: 'it returns false'. Refute it at one input. -/
def fnExactProductCategoryWrong : ChangeSpec := { name := "fnExactProductCategory", fn := fun _ => fun
  | [d1, d2] => { results := [.lit (.bool false)], args := [d1, d2] }
  | _ => none }
def FnExactProductCategoryWrongFalsely : Prop := fnExactProductCategoryRow.holds Try.pinned (OpenSpec.ofChange fnExactProductCategoryWrong)

/-- 'laws.FnExactSumCategory': WHATEVER THE INPUT: true; the input reads as it did. -/
def fnExactSumCategorySpec : ChangeSpec := { name := "fnExactSumCategory", fn := fun _ => fun
  | [d1, d2] => { results := [.lit (.bool true)], args := [d1, d2] }
  | _ => none }
def fnExactSumCategoryRow : OpenClaim := { program := "ytbalggpkmaabmaa", sum := "86ec180ec36da21933bab54b7c2cf3ef9e8cc0e22bca636e82708de892dee6f9", func := "loop.example/g01083/laws.FnExactSumCategory", spec := "fnExactSumCategory", unfollowed := true, recurses := true, apart := false }
def FnExactSumCategorySaid : Prop := fnExactSumCategoryRow.holds Try.pinned (OpenSpec.ofChange fnExactSumCategorySpec)

/-- ITS FALSE NEIGHBOUR: 'it returns false'. Refute it at one input. -/
def fnExactSumCategoryWrong : ChangeSpec := { name := "fnExactSumCategory", fn := fun _ => fun
  | [d1, d2] => { results := [.lit (.bool false)], args := [d1, d2] }
  | _ => none }
def FnExactSumCategoryWrongFalsely : Prop := fnExactSumCategoryRow.holds Try.pinned (OpenSpec.ofChange fnExactSumCategoryWrong)

/-- 'laws.FnExactJoinCategory': WHATEVER THE INPUT: true; the input reads as it did. -/
def fnExactJoinCategorySpec : ChangeSpec := { name := "fnExactJoinCategory", fn := fun _ => fun
  | [d1, d2] => { results := [.lit (.bool true)], args := [d1, d2] }
  | _ => none }
def fnExactJoinCategoryRow : OpenClaim := { program := "ytbalggpkmaabmaa", sum := "86ec180ec36da21933bab54b7c2cf3ef9e8cc0e22bca636e82708de892dee6f9", func := "loop.example/g01083/laws.FnExactJoinCategory", spec := "fnExactJoinCategory", unfollowed := true, recurses := true, apart := false }
def FnExactJoinCategorySaid : Prop := fnExactJoinCategoryRow.holds Try.pinned (OpenSpec.ofChange fnExactJoinCategorySpec)

/-- ITS FALSE NEIGHBOUR: 'it returns false'. Refute it at one input. -/
def fnExactJoinCategoryWrong : ChangeSpec := { name := "fnExactJoinCategory", fn := fun _ => fun
  | [d1, d2] => { results := [.lit (.bool false)], args := [d1, d2] }
  | _ => none }
def FnExactJoinCategoryWrongFalsely : Prop := fnExactJoinCategoryRow.holds Try.pinned (OpenSpec.ofChange fnExactJoinCategoryWrong)

/-- 'laws.FnExactTwistedCategory': WHATEVER THE INPUT: true; the input reads as it did. -/
def fnExactTwistedCategorySpec : ChangeSpec := { name := "fnExactTwistedCategory", fn := fun _ => fun
  | [d] => { results := [.lit (.bool true)], args := [d] }
  | _ => none }
def fnExactTwistedCategoryRow : OpenClaim := { program := "ytbalggpkmaabmaa", sum := "86ec180ec36da21933bab54b7c2cf3ef9e8cc0e22bca636e82708de892dee6f9", func := "loop.example/g01083/laws.FnExactTwistedCategory", spec := "fnExactTwistedCategory", unfollowed := true, recurses := true, apart := false }
def FnExactTwistedCategorySaid : Prop := fnExactTwistedCategoryRow.holds Try.pinned (OpenSpec.ofChange fnExactTwistedCategorySpec)

/-- ITS FALSE NEIGHBOUR: 'it returns false'. Refute it at one input. -/
def fnExactTwistedCategoryWrong : ChangeSpec := { name := "fnExactTwistedCategory", fn := fun _ => fun
  | [d] => { results := [.lit (.bool false)], args := [d] }
  | _ => none }
def FnExactTwistedCategoryWrongFalsely : Prop := fnExactTwistedCategoryRow.holds Try.pinned (OpenSpec.ofChange fnExactTwistedCategoryWrong)

/-- 'laws.FnExactOrderMonoidal': WHATEVER THE INPUT: true; the input reads as it did. -/
def fnExactOrderMonoidalSpec : ChangeSpec := { name := "fnExactOrderMonoidal", fn := fun _ => fun
  | [d1, d2] => { results := [.lit (.bool true)], args := [d1, d2] }
  | _ => none }
def fnExactOrderMonoidalRow : OpenClaim := { program := "ytbalggpkmaabmaa", sum := "86ec180ec36da21933bab54b7c2cf3ef9e8cc0e22bca636e82708de892dee6f9", func := "loop.example/g01083/laws.FnExactOrderMonoidal", spec := "fnExactOrderMonoidal", unfollowed := true, recurses := true, apart := false }
def FnExactOrderMonoidalSaid : Prop := fnExactOrderMonoidalRow.holds Try.pinned (OpenSpec.ofChange fnExactOrderMonoidalSpec)

/-- ITS FALSE NEIGHBOUR: 'it returns false'. Refute it at one input. -/
def fnExactOrderMonoidalWrong : ChangeSpec := { name := "fnExactOrderMonoidal", fn := fun _ => fun
  | [d1, d2] => { results := [.lit (.bool false)], args := [d1, d2] }
  | _ => none }
def FnExactOrderMonoidalWrongFalsely : Prop := fnExactOrderMonoidalRow.holds Try.pinned (OpenSpec.ofChange fnExactOrderMonoidalWrong)

/- THE SECOND FORM. 'bulk': how many values and letters a reading holds, each counted each time it is reached (what is shared counts as often as it is met; a slice's spare places count too). A statement '..UptoSaid' is the law's where the arguments, and the package variables that the reading takes, are together of bulk at most 1048576: NARROWER than '..Said'. Prove '..Said' where nothing that the law and all that it calls make is longer than what came in: it says more and counts as full. Else prove '..UptoSaid'. A law counts once. -/
mutual
def uptoBulk {H : Type} : DataW H → Nat
  | .lit (.string bytes) => bytes.length + 1
  | .lit _ => 1
  | .nil => 1
  | .ptr d => uptoBulk d + 1
  | .slice elems spare => uptoBulkAll elems + uptoBulkAll spare + 1
  | .agg parts => uptoBulkAll parts + 1
  | .iface _ d => uptoBulk d + 1
  | .map entries => uptoBulkEntries entries + 1
  | .held _ => 1
def uptoBulkAll {H : Type} : List (DataW H) → Nat
  | [] => 0
  | d :: r => uptoBulk d + uptoBulkAll r
def uptoBulkEntries {H : Type} : List (Lit × DataW H) → Nat
  | [] => 0
  | x :: r => uptoBulkEntry x + uptoBulkEntries r
def uptoBulkEntry {H : Type} : Lit × DataW H → Nat
  | (.string bytes, d) => bytes.length + uptoBulk d + 1
  | (_, d) => uptoBulk d + 1
 end
def uptoSmall : (H : Type) → List (DataW H) → Bool := fun _ ds => decide (uptoBulkAll ds ≤ 1048576)
def OpenSpec.upto (s : _root_.Go.ChangeSpec) : _root_.Go.OpenSpec := { _root_.Go.OpenSpec.ofChange s with cond := some uptoSmall }

/-- 'laws.FnExactProductCategory', WHERE WHAT IT READS IS OF BULK AT MOST 1048576: true; the input reads as it did. -/
def fnExactProductCategoryUptoRow : OpenClaim := { program := "ytbalggpkmaabmaa", sum := "86ec180ec36da21933bab54b7c2cf3ef9e8cc0e22bca636e82708de892dee6f9", func := "loop.example/g01083/laws.FnExactProductCategory", spec := "fnExactProductCategory", unfollowed := true, recurses := true, apart := false, narrowed := true }
def FnExactProductCategoryUptoSaid : Prop := fnExactProductCategoryUptoRow.holds Try.pinned (OpenSpec.upto fnExactProductCategorySpec)

/-- 'laws.FnExactSumCategory', WHERE WHAT IT READS IS OF BULK AT MOST 1048576: true; the input reads as it did. -/
def fnExactSumCategoryUptoRow : OpenClaim := { program := "ytbalggpkmaabmaa", sum := "86ec180ec36da21933bab54b7c2cf3ef9e8cc0e22bca636e82708de892dee6f9", func := "loop.example/g01083/laws.FnExactSumCategory", spec := "fnExactSumCategory", unfollowed := true, recurses := true, apart := false, narrowed := true }
def FnExactSumCategoryUptoSaid : Prop := fnExactSumCategoryUptoRow.holds Try.pinned (OpenSpec.upto fnExactSumCategorySpec)

/-- 'laws.FnExactJoinCategory', WHERE WHAT IT READS IS OF BULK AT MOST 1048576: true; the input reads as it did. -/
def fnExactJoinCategoryUptoRow : OpenClaim := { program := "ytbalggpkmaabmaa", sum := "86ec180ec36da21933bab54b7c2cf3ef9e8cc0e22bca636e82708de892dee6f9", func := "loop.example/g01083/laws.FnExactJoinCategory", spec := "fnExactJoinCategory", unfollowed := true, recurses := true, apart := false, narrowed := true }
def FnExactJoinCategoryUptoSaid : Prop := fnExactJoinCategoryUptoRow.holds Try.pinned (OpenSpec.upto fnExactJoinCategorySpec)

/-- 'laws.FnExactTwistedCategory', WHERE WHAT IT READS IS OF BULK AT MOST 1048576: true; the input reads as it did. -/
def fnExactTwistedCategoryUptoRow : OpenClaim := { program := "ytbalggpkmaabmaa", sum := "86ec180ec36da21933bab54b7c2cf3ef9e8cc0e22bca636e82708de892dee6f9", func := "loop.example/g01083/laws.FnExactTwistedCategory", spec := "fnExactTwistedCategory", unfollowed := true, recurses := true, apart := false, narrowed := true }
def FnExactTwistedCategoryUptoSaid : Prop := fnExactTwistedCategoryUptoRow.holds Try.pinned (OpenSpec.upto fnExactTwistedCategorySpec)

/-- 'laws.FnExactOrderMonoidal', WHERE WHAT IT READS IS OF BULK AT MOST 1048576: true; the input reads as it did. -/
def fnExactOrderMonoidalUptoRow : OpenClaim := { program := "ytbalggpkmaabmaa", sum := "86ec180ec36da21933bab54b7c2cf3ef9e8cc0e22bca636e82708de892dee6f9", func := "loop.example/g01083/laws.FnExactOrderMonoidal", spec := "fnExactOrderMonoidal", unfollowed := true, recurses := true, apart := false, narrowed := true }
def FnExactOrderMonoidalUptoSaid : Prop := fnExactOrderMonoidalUptoRow.holds Try.pinned (OpenSpec.upto fnExactOrderMonoidalSpec)

end Rows
end Go.Proofs.Ytbalggpkmaabmaa
