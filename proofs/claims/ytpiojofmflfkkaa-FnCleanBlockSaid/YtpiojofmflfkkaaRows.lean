/-
  No cell of these rows narrows 'for every input' (looked for: loops, veiled, ifaces, maps, wideKeys, modest, calm, conditions, laid).
  DERIVED. THE GIVEN ROWS OF THIS SEAT. 8 by the template 'for every input the law returns true; each argument reads behind the call as it read before'; 0 by the template 'total and deterministic' (their statements: YtpiojofmflfkkaaTotals.lean).
  GIVEN WITH THE SEED: the statements are not yours to turn. If you find one false, say at which input.
  Laid BY PROGRAM, IN A SANDBOX (cutbox-rows.mjs): the forced cells as the released guide's own fill.sh prints them over the translation 2f44fa54d2e0da4d… (all of the seat's roots in one cut). By AI agents, Wed Nov 11 2026. No macro, syntax, notation, axiom, sorry.
-/
import Derived.Test.YtpiojofmflfkkaaChecked
import GoSem.Claim
import GoSem.ClaimJoined
import GoSem.ClaimMapViews
import Derived.JoinedTies
import Derived.KernelRfl
namespace Go.Proofs.Ytpiojofmflfkkaa
/- THE CELL 'sum', in the pinned program and in every row, IS THE sha256 OF THE DUMP (.gsa) THAT YtpiojofmflfkkaaProg.lean LOADS. Nothing in Lean hashes anything: it is a label: what it is worth is what the hold of that sum in a sandbox is worth. -/
noncomputable def Try.pinned : Pinned := { name := "ytpiojofmflfkkaa", sum := "2f44fa54d2e0da4d1641f2d6f86d30ebc1262d3b1024177a3a0bbf7c2f62581a", checked := Try.checked }
namespace Rows
def none {H : Type} : Left H := { results := [], args := [] }

/-- 'laws.FnMountTable': WHATEVER THE INPUT: true; the input reads as it did. -/
def fnMountTableSpec : ChangeSpec := { name := "fnMountTable", fn := fun _ => fun
  | [d] => { results := [.lit (.bool true)], args := [d] }
  | _ => none }
def fnMountTableRow : OpenClaim := { program := "ytpiojofmflfkkaa", sum := "2f44fa54d2e0da4d1641f2d6f86d30ebc1262d3b1024177a3a0bbf7c2f62581a", func := "loop.example/flashfiles/laws.FnMountTable", spec := "fnMountTable", unfollowed := true, recurses := true, apart := false }
def FnMountTableSaid : Prop := fnMountTableRow.holds Try.pinned (OpenSpec.ofChange fnMountTableSpec)

/-- ITS FALSE NEIGHBOUR: 'it returns false'. Refute it at one input. -/
def fnMountTableWrong : ChangeSpec := { name := "fnMountTable", fn := fun _ => fun
  | [d] => { results := [.lit (.bool false)], args := [d] }
  | _ => none }
def FnMountTableWrongFalsely : Prop := fnMountTableRow.holds Try.pinned (OpenSpec.ofChange fnMountTableWrong)

/-- 'laws.FnExactCleanBlock': WHATEVER THE INPUT: true; the input reads as it did. -/
def fnExactCleanBlockSpec : ChangeSpec := { name := "fnExactCleanBlock", fn := fun _ => fun
  | [d1, d2, d3, d4, d5] => { results := [.lit (.bool true)], args := [d1, d2, d3, d4, d5] }
  | _ => none }
def fnExactCleanBlockRow : OpenClaim := { program := "ytpiojofmflfkkaa", sum := "2f44fa54d2e0da4d1641f2d6f86d30ebc1262d3b1024177a3a0bbf7c2f62581a", func := "loop.example/flashfiles/laws.FnExactCleanBlock", spec := "fnExactCleanBlock", apart := false }
def FnExactCleanBlockSaid : Prop := fnExactCleanBlockRow.holds Try.pinned (OpenSpec.ofChange fnExactCleanBlockSpec)

/-- ITS FALSE NEIGHBOUR: 'it returns false'. Refute it at one input. -/
def fnExactCleanBlockWrong : ChangeSpec := { name := "fnExactCleanBlock", fn := fun _ => fun
  | [d1, d2, d3, d4, d5] => { results := [.lit (.bool false)], args := [d1, d2, d3, d4, d5] }
  | _ => none }
def FnExactCleanBlockWrongFalsely : Prop := fnExactCleanBlockRow.holds Try.pinned (OpenSpec.ofChange fnExactCleanBlockWrong)

/-- 'laws.FnCleanBlock': WHATEVER THE INPUT: true; the input reads as it did. -/
def fnCleanBlockSpec : ChangeSpec := { name := "fnCleanBlock", fn := fun _ => fun
  | [d] => { results := [.lit (.bool true)], args := [d] }
  | _ => none }
def fnCleanBlockRow : OpenClaim := { program := "ytpiojofmflfkkaa", sum := "2f44fa54d2e0da4d1641f2d6f86d30ebc1262d3b1024177a3a0bbf7c2f62581a", func := "loop.example/flashfiles/laws.FnCleanBlock", spec := "fnCleanBlock", recurses := true, apart := false }
def FnCleanBlockSaid : Prop := fnCleanBlockRow.holds Try.pinned (OpenSpec.ofChange fnCleanBlockSpec)

/-- ITS FALSE NEIGHBOUR: 'it returns false'. Refute it at one input. -/
def fnCleanBlockWrong : ChangeSpec := { name := "fnCleanBlock", fn := fun _ => fun
  | [d] => { results := [.lit (.bool false)], args := [d] }
  | _ => none }
def FnCleanBlockWrongFalsely : Prop := fnCleanBlockRow.holds Try.pinned (OpenSpec.ofChange fnCleanBlockWrong)

/-- 'laws.FnExactRunPuts': WHATEVER THE INPUT: true; the input reads as it did. -/
def fnExactRunPutsSpec : ChangeSpec := { name := "fnExactRunPuts", fn := fun _ => fun
  | [d1, d2] => { results := [.lit (.bool true)], args := [d1, d2] }
  | _ => none }
def fnExactRunPutsRow : OpenClaim := { program := "ytpiojofmflfkkaa", sum := "2f44fa54d2e0da4d1641f2d6f86d30ebc1262d3b1024177a3a0bbf7c2f62581a", func := "loop.example/flashfiles/laws.FnExactRunPuts", spec := "fnExactRunPuts", apart := false }
def FnExactRunPutsSaid : Prop := fnExactRunPutsRow.holds Try.pinned (OpenSpec.ofChange fnExactRunPutsSpec)

/-- ITS FALSE NEIGHBOUR: 'it returns false'. Refute it at one input. -/
def fnExactRunPutsWrong : ChangeSpec := { name := "fnExactRunPuts", fn := fun _ => fun
  | [d1, d2] => { results := [.lit (.bool false)], args := [d1, d2] }
  | _ => none }
def FnExactRunPutsWrongFalsely : Prop := fnExactRunPutsRow.holds Try.pinned (OpenSpec.ofChange fnExactRunPutsWrong)

/-- 'laws.FnRunPuts': WHATEVER THE INPUT: true; the input reads as it did. -/
def fnRunPutsSpec : ChangeSpec := { name := "fnRunPuts", fn := fun _ => fun
  | [d] => { results := [.lit (.bool true)], args := [d] }
  | _ => none }
def fnRunPutsRow : OpenClaim := { program := "ytpiojofmflfkkaa", sum := "2f44fa54d2e0da4d1641f2d6f86d30ebc1262d3b1024177a3a0bbf7c2f62581a", func := "loop.example/flashfiles/laws.FnRunPuts", spec := "fnRunPuts", apart := false }
def FnRunPutsSaid : Prop := fnRunPutsRow.holds Try.pinned (OpenSpec.ofChange fnRunPutsSpec)

/-- ITS FALSE NEIGHBOUR: 'it returns false'. Refute it at one input. -/
def fnRunPutsWrong : ChangeSpec := { name := "fnRunPuts", fn := fun _ => fun
  | [d] => { results := [.lit (.bool false)], args := [d] }
  | _ => none }
def FnRunPutsWrongFalsely : Prop := fnRunPutsRow.holds Try.pinned (OpenSpec.ofChange fnRunPutsWrong)

/-- 'laws.FnExactRollForward': WHATEVER THE INPUT: true; the input reads as it did. -/
def fnExactRollForwardSpec : ChangeSpec := { name := "fnExactRollForward", fn := fun _ => fun
  | [d1, d2, d3] => { results := [.lit (.bool true)], args := [d1, d2, d3] }
  | _ => none }
def fnExactRollForwardRow : OpenClaim := { program := "ytpiojofmflfkkaa", sum := "2f44fa54d2e0da4d1641f2d6f86d30ebc1262d3b1024177a3a0bbf7c2f62581a", func := "loop.example/flashfiles/laws.FnExactRollForward", spec := "fnExactRollForward", unfollowed := true, recurses := true, apart := false }
def FnExactRollForwardSaid : Prop := fnExactRollForwardRow.holds Try.pinned (OpenSpec.ofChange fnExactRollForwardSpec)

/-- ITS FALSE NEIGHBOUR: 'it returns false'. Refute it at one input. -/
def fnExactRollForwardWrong : ChangeSpec := { name := "fnExactRollForward", fn := fun _ => fun
  | [d1, d2, d3] => { results := [.lit (.bool false)], args := [d1, d2, d3] }
  | _ => none }
def FnExactRollForwardWrongFalsely : Prop := fnExactRollForwardRow.holds Try.pinned (OpenSpec.ofChange fnExactRollForwardWrong)

/-- 'laws.FnRollForward': WHATEVER THE INPUT: true; the input reads as it did. -/
def fnRollForwardSpec : ChangeSpec := { name := "fnRollForward", fn := fun _ => fun
  | [d] => { results := [.lit (.bool true)], args := [d] }
  | _ => none }
def fnRollForwardRow : OpenClaim := { program := "ytpiojofmflfkkaa", sum := "2f44fa54d2e0da4d1641f2d6f86d30ebc1262d3b1024177a3a0bbf7c2f62581a", func := "loop.example/flashfiles/laws.FnRollForward", spec := "fnRollForward", unfollowed := true, recurses := true, apart := false }
def FnRollForwardSaid : Prop := fnRollForwardRow.holds Try.pinned (OpenSpec.ofChange fnRollForwardSpec)

/-- ITS FALSE NEIGHBOUR: 'it returns false'. Refute it at one input. -/
def fnRollForwardWrong : ChangeSpec := { name := "fnRollForward", fn := fun _ => fun
  | [d] => { results := [.lit (.bool false)], args := [d] }
  | _ => none }
def FnRollForwardWrongFalsely : Prop := fnRollForwardRow.holds Try.pinned (OpenSpec.ofChange fnRollForwardWrong)

/-- 'laws.FnExactMountTable': WHATEVER THE INPUT: true; the input reads as it did. -/
def fnExactMountTableSpec : ChangeSpec := { name := "fnExactMountTable", fn := fun _ => fun
  | [d1, d2, d3, d4] => { results := [.lit (.bool true)], args := [d1, d2, d3, d4] }
  | _ => none }
def fnExactMountTableRow : OpenClaim := { program := "ytpiojofmflfkkaa", sum := "2f44fa54d2e0da4d1641f2d6f86d30ebc1262d3b1024177a3a0bbf7c2f62581a", func := "loop.example/flashfiles/laws.FnExactMountTable", spec := "fnExactMountTable", unfollowed := true, recurses := true, apart := false }
def FnExactMountTableSaid : Prop := fnExactMountTableRow.holds Try.pinned (OpenSpec.ofChange fnExactMountTableSpec)

/-- ITS FALSE NEIGHBOUR: 'it returns false'. Refute it at one input. -/
def fnExactMountTableWrong : ChangeSpec := { name := "fnExactMountTable", fn := fun _ => fun
  | [d1, d2, d3, d4] => { results := [.lit (.bool false)], args := [d1, d2, d3, d4] }
  | _ => none }
def FnExactMountTableWrongFalsely : Prop := fnExactMountTableRow.holds Try.pinned (OpenSpec.ofChange fnExactMountTableWrong)

/- THE SECOND FORM. 'bulk': how many values and letters a reading holds, each counted each time it is reached (what is shared counts as often as it is met; a slice's spare places count too). A statement '..UptoSaid' is the law's where the arguments, and the package variables that the reading takes, are together of bulk at most 1048576: NARROWER than '..Said'. Prove '..Said' where nothing that the law and all that it calls make is longer than what came in: it says more and counts as full. Else prove '..UptoSaid'. A law counts once. -/
mutual
def uptoBulk {H : Type} : DataW H → Nat
  | .lit (.string bytes) => bytes.length + 1
  | .lit _ => 1
  | .nil => 1
  | .ptr d => uptoBulk d + 1
  | .slice elems spare => uptoBulkAll elems + uptoBulkAll spare + 1
  | .agg parts => uptoBulkAll parts + 1
  | .iface _ d => uptoBulk d + 1
  | .map entries => uptoBulkEntries entries + 1
  | .held _ => 1
def uptoBulkAll {H : Type} : List (DataW H) → Nat
  | [] => 0
  | d :: r => uptoBulk d + uptoBulkAll r
def uptoBulkEntries {H : Type} : List (Lit × DataW H) → Nat
  | [] => 0
  | x :: r => uptoBulkEntry x + uptoBulkEntries r
def uptoBulkEntry {H : Type} : Lit × DataW H → Nat
  | (.string bytes, d) => bytes.length + uptoBulk d + 1
  | (_, d) => uptoBulk d + 1
 end
def uptoSmall : (H : Type) → List (DataW H) → Bool := fun _ ds => decide (uptoBulkAll ds ≤ 1048576)
def OpenSpec.upto (s : _root_.Go.ChangeSpec) : _root_.Go.OpenSpec := { _root_.Go.OpenSpec.ofChange s with cond := some uptoSmall }

/-- 'laws.FnMountTable', WHERE WHAT IT READS IS OF BULK AT MOST 1048576: true; the input reads as it did. -/
def fnMountTableUptoRow : OpenClaim := { program := "ytpiojofmflfkkaa", sum := "2f44fa54d2e0da4d1641f2d6f86d30ebc1262d3b1024177a3a0bbf7c2f62581a", func := "loop.example/flashfiles/laws.FnMountTable", spec := "fnMountTable", unfollowed := true, recurses := true, apart := false, narrowed := true }
def FnMountTableUptoSaid : Prop := fnMountTableUptoRow.holds Try.pinned (OpenSpec.upto fnMountTableSpec)

/-- 'laws.FnExactCleanBlock', WHERE WHAT IT READS IS OF BULK AT MOST 1048576: true; the input reads as it did. -/
def fnExactCleanBlockUptoRow : OpenClaim := { program := "ytpiojofmflfkkaa", sum := "2f44fa54d2e0da4d1641f2d6f86d30ebc1262d3b1024177a3a0bbf7c2f62581a", func := "loop.example/flashfiles/laws.FnExactCleanBlock", spec := "fnExactCleanBlock", apart := false, narrowed := true }
def FnExactCleanBlockUptoSaid : Prop := fnExactCleanBlockUptoRow.holds Try.pinned (OpenSpec.upto fnExactCleanBlockSpec)

/-- 'laws.FnCleanBlock', WHERE WHAT IT READS IS OF BULK AT MOST 1048576: true; the input reads as it did. -/
def fnCleanBlockUptoRow : OpenClaim := { program := "ytpiojofmflfkkaa", sum := "2f44fa54d2e0da4d1641f2d6f86d30ebc1262d3b1024177a3a0bbf7c2f62581a", func := "loop.example/flashfiles/laws.FnCleanBlock", spec := "fnCleanBlock", recurses := true, apart := false, narrowed := true }
def FnCleanBlockUptoSaid : Prop := fnCleanBlockUptoRow.holds Try.pinned (OpenSpec.upto fnCleanBlockSpec)

/-- 'laws.FnExactRunPuts', WHERE WHAT IT READS IS OF BULK AT MOST 1048576: true; the input reads as it did. -/
def fnExactRunPutsUptoRow : OpenClaim := { program := "ytpiojofmflfkkaa", sum := "2f44fa54d2e0da4d1641f2d6f86d30ebc1262d3b1024177a3a0bbf7c2f62581a", func := "loop.example/flashfiles/laws.FnExactRunPuts", spec := "fnExactRunPuts", apart := false, narrowed := true }
def FnExactRunPutsUptoSaid : Prop := fnExactRunPutsUptoRow.holds Try.pinned (OpenSpec.upto fnExactRunPutsSpec)

/-- 'laws.FnRunPuts', WHERE WHAT IT READS IS OF BULK AT MOST 1048576: true; the input reads as it did. -/
def fnRunPutsUptoRow : OpenClaim := { program := "ytpiojofmflfkkaa", sum := "2f44fa54d2e0da4d1641f2d6f86d30ebc1262d3b1024177a3a0bbf7c2f62581a", func := "loop.example/flashfiles/laws.FnRunPuts", spec := "fnRunPuts", apart := false, narrowed := true }
def FnRunPutsUptoSaid : Prop := fnRunPutsUptoRow.holds Try.pinned (OpenSpec.upto fnRunPutsSpec)

/-- 'laws.FnExactRollForward', WHERE WHAT IT READS IS OF BULK AT MOST 1048576: true; the input reads as it did. -/
def fnExactRollForwardUptoRow : OpenClaim := { program := "ytpiojofmflfkkaa", sum := "2f44fa54d2e0da4d1641f2d6f86d30ebc1262d3b1024177a3a0bbf7c2f62581a", func := "loop.example/flashfiles/laws.FnExactRollForward", spec := "fnExactRollForward", unfollowed := true, recurses := true, apart := false, narrowed := true }
def FnExactRollForwardUptoSaid : Prop := fnExactRollForwardUptoRow.holds Try.pinned (OpenSpec.upto fnExactRollForwardSpec)

/-- 'laws.FnRollForward', WHERE WHAT IT READS IS OF BULK AT MOST 1048576: true; the input reads as it did. -/
def fnRollForwardUptoRow : OpenClaim := { program := "ytpiojofmflfkkaa", sum := "2f44fa54d2e0da4d1641f2d6f86d30ebc1262d3b1024177a3a0bbf7c2f62581a", func := "loop.example/flashfiles/laws.FnRollForward", spec := "fnRollForward", unfollowed := true, recurses := true, apart := false, narrowed := true }
def FnRollForwardUptoSaid : Prop := fnRollForwardUptoRow.holds Try.pinned (OpenSpec.upto fnRollForwardSpec)

/-- 'laws.FnExactMountTable', WHERE WHAT IT READS IS OF BULK AT MOST 1048576: true; the input reads as it did. -/
def fnExactMountTableUptoRow : OpenClaim := { program := "ytpiojofmflfkkaa", sum := "2f44fa54d2e0da4d1641f2d6f86d30ebc1262d3b1024177a3a0bbf7c2f62581a", func := "loop.example/flashfiles/laws.FnExactMountTable", spec := "fnExactMountTable", unfollowed := true, recurses := true, apart := false, narrowed := true }
def FnExactMountTableUptoSaid : Prop := fnExactMountTableUptoRow.holds Try.pinned (OpenSpec.upto fnExactMountTableSpec)

end Rows
end Go.Proofs.Ytpiojofmflfkkaa
