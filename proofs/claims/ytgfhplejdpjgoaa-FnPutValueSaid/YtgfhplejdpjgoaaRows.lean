/-
  No cell of these rows narrows 'for every input' (looked for: loops, veiled, ifaces, maps, wideKeys, modest, calm, conditions, laid).
  DERIVED. THE GIVEN ROWS OF THIS SEAT. 12 by the template 'for every input the law returns true; each argument reads behind the call as it read before'; 0 by the template 'total and deterministic' (their statements: YtgfhplejdpjgoaaTotals.lean).
  GIVEN WITH THE SEED: the statements are not yours to turn. If you find one false, say at which input.
  Laid BY PROGRAM, IN A SANDBOX (cutbox-rows.mjs): the forced cells as the released guide's own fill.sh prints them over the translation eac28435d25a590d… (all of the seat's roots in one cut). By AI agents, Wed Nov 11 2026. No macro, syntax, notation, axiom, sorry.
-/
import Derived.Test.YtgfhplejdpjgoaaChecked
import GoSem.Claim
import GoSem.ClaimJoined
import GoSem.ClaimMapViews
import Derived.JoinedTies
import Derived.KernelRfl
namespace Go.Proofs.Ytgfhplejdpjgoaa
/- THE CELL 'sum', in the pinned program and in every row, IS THE sha256 OF THE DUMP (.gsa) THAT YtgfhplejdpjgoaaProg.lean LOADS. Nothing in Lean hashes anything: it is a label: what it is worth is what the hold of that sum in a sandbox is worth. -/
noncomputable def Try.pinned : Pinned := { name := "ytgfhplejdpjgoaa", sum := "eac28435d25a590d2ddd79af1e0ed0657c13743561d421ae41706555b3a2da32", checked := Try.checked }
namespace Rows
def none {H : Type} : Left H := { results := [], args := [] }

/-- 'laws.FnExactLinksValid': WHATEVER THE INPUT: true; the input reads as it did. -/
def fnExactLinksValidSpec : ChangeSpec := { name := "fnExactLinksValid", fn := fun _ => fun
  | [d] => { results := [.lit (.bool true)], args := [d] }
  | _ => none }
def fnExactLinksValidRow : OpenClaim := { program := "ytgfhplejdpjgoaa", sum := "eac28435d25a590d2ddd79af1e0ed0657c13743561d421ae41706555b3a2da32", func := "loop.example/flashfiles/laws.FnExactLinksValid", spec := "fnExactLinksValid", apart := false }
def FnExactLinksValidSaid : Prop := fnExactLinksValidRow.holds Try.pinned (OpenSpec.ofChange fnExactLinksValidSpec)

/-- ITS FALSE NEIGHBOUR: 'it returns false'. Refute it at one input. -/
def fnExactLinksValidWrong : ChangeSpec := { name := "fnExactLinksValid", fn := fun _ => fun
  | [d] => { results := [.lit (.bool false)], args := [d] }
  | _ => none }
def FnExactLinksValidWrongFalsely : Prop := fnExactLinksValidRow.holds Try.pinned (OpenSpec.ofChange fnExactLinksValidWrong)

/-- 'laws.FnExactPutsValid': WHATEVER THE INPUT: true; the input reads as it did. -/
def fnExactPutsValidSpec : ChangeSpec := { name := "fnExactPutsValid", fn := fun _ => fun
  | [d] => { results := [.lit (.bool true)], args := [d] }
  | _ => none }
def fnExactPutsValidRow : OpenClaim := { program := "ytgfhplejdpjgoaa", sum := "eac28435d25a590d2ddd79af1e0ed0657c13743561d421ae41706555b3a2da32", func := "loop.example/flashfiles/laws.FnExactPutsValid", spec := "fnExactPutsValid", apart := false }
def FnExactPutsValidSaid : Prop := fnExactPutsValidRow.holds Try.pinned (OpenSpec.ofChange fnExactPutsValidSpec)

/-- ITS FALSE NEIGHBOUR: 'it returns false'. Refute it at one input. -/
def fnExactPutsValidWrong : ChangeSpec := { name := "fnExactPutsValid", fn := fun _ => fun
  | [d] => { results := [.lit (.bool false)], args := [d] }
  | _ => none }
def FnExactPutsValidWrongFalsely : Prop := fnExactPutsValidRow.holds Try.pinned (OpenSpec.ofChange fnExactPutsValidWrong)

/-- 'laws.FnPutsValid': WHATEVER THE INPUT: true; the input reads as it did. -/
def fnPutsValidSpec : ChangeSpec := { name := "fnPutsValid", fn := fun _ => fun
  | [d] => { results := [.lit (.bool true)], args := [d] }
  | _ => none }
def fnPutsValidRow : OpenClaim := { program := "ytgfhplejdpjgoaa", sum := "eac28435d25a590d2ddd79af1e0ed0657c13743561d421ae41706555b3a2da32", func := "loop.example/flashfiles/laws.FnPutsValid", spec := "fnPutsValid", apart := false }
def FnPutsValidSaid : Prop := fnPutsValidRow.holds Try.pinned (OpenSpec.ofChange fnPutsValidSpec)

/-- ITS FALSE NEIGHBOUR: 'it returns false'. Refute it at one input. -/
def fnPutsValidWrong : ChangeSpec := { name := "fnPutsValid", fn := fun _ => fun
  | [d] => { results := [.lit (.bool false)], args := [d] }
  | _ => none }
def FnPutsValidWrongFalsely : Prop := fnPutsValidRow.holds Try.pinned (OpenSpec.ofChange fnPutsValidWrong)

/-- 'laws.FnExactPutValue': WHATEVER THE INPUT: true; the input reads as it did. -/
def fnExactPutValueSpec : ChangeSpec := { name := "fnExactPutValue", fn := fun _ => fun
  | [d1, d2, d3] => { results := [.lit (.bool true)], args := [d1, d2, d3] }
  | _ => none }
def fnExactPutValueRow : OpenClaim := { program := "ytgfhplejdpjgoaa", sum := "eac28435d25a590d2ddd79af1e0ed0657c13743561d421ae41706555b3a2da32", func := "loop.example/flashfiles/laws.FnExactPutValue", spec := "fnExactPutValue", apart := false }
def FnExactPutValueSaid : Prop := fnExactPutValueRow.holds Try.pinned (OpenSpec.ofChange fnExactPutValueSpec)

/-- ITS FALSE NEIGHBOUR: 'it returns false'. Refute it at one input. -/
def fnExactPutValueWrong : ChangeSpec := { name := "fnExactPutValue", fn := fun _ => fun
  | [d1, d2, d3] => { results := [.lit (.bool false)], args := [d1, d2, d3] }
  | _ => none }
def FnExactPutValueWrongFalsely : Prop := fnExactPutValueRow.holds Try.pinned (OpenSpec.ofChange fnExactPutValueWrong)

/-- 'laws.FnLinksValid': WHATEVER THE INPUT: true; the input reads as it did. -/
def fnLinksValidSpec : ChangeSpec := { name := "fnLinksValid", fn := fun _ => fun
  | [d] => { results := [.lit (.bool true)], args := [d] }
  | _ => none }
def fnLinksValidRow : OpenClaim := { program := "ytgfhplejdpjgoaa", sum := "eac28435d25a590d2ddd79af1e0ed0657c13743561d421ae41706555b3a2da32", func := "loop.example/flashfiles/laws.FnLinksValid", spec := "fnLinksValid", apart := false }
def FnLinksValidSaid : Prop := fnLinksValidRow.holds Try.pinned (OpenSpec.ofChange fnLinksValidSpec)

/-- ITS FALSE NEIGHBOUR: 'it returns false'. Refute it at one input. -/
def fnLinksValidWrong : ChangeSpec := { name := "fnLinksValid", fn := fun _ => fun
  | [d] => { results := [.lit (.bool false)], args := [d] }
  | _ => none }
def FnLinksValidWrongFalsely : Prop := fnLinksValidRow.holds Try.pinned (OpenSpec.ofChange fnLinksValidWrong)

/-- 'laws.FnPutValue': WHATEVER THE INPUT: true; the input reads as it did. -/
def fnPutValueSpec : ChangeSpec := { name := "fnPutValue", fn := fun _ => fun
  | [d] => { results := [.lit (.bool true)], args := [d] }
  | _ => none }
def fnPutValueRow : OpenClaim := { program := "ytgfhplejdpjgoaa", sum := "eac28435d25a590d2ddd79af1e0ed0657c13743561d421ae41706555b3a2da32", func := "loop.example/flashfiles/laws.FnPutValue", spec := "fnPutValue", apart := false }
def FnPutValueSaid : Prop := fnPutValueRow.holds Try.pinned (OpenSpec.ofChange fnPutValueSpec)

/-- ITS FALSE NEIGHBOUR: 'it returns false'. Refute it at one input. -/
def fnPutValueWrong : ChangeSpec := { name := "fnPutValue", fn := fun _ => fun
  | [d] => { results := [.lit (.bool false)], args := [d] }
  | _ => none }
def FnPutValueWrongFalsely : Prop := fnPutValueRow.holds Try.pinned (OpenSpec.ofChange fnPutValueWrong)

/-- 'laws.FnExactCloseAll': WHATEVER THE INPUT: true; the input reads as it did. -/
def fnExactCloseAllSpec : ChangeSpec := { name := "fnExactCloseAll", fn := fun _ => fun
  | [d] => { results := [.lit (.bool true)], args := [d] }
  | _ => none }
def fnExactCloseAllRow : OpenClaim := { program := "ytgfhplejdpjgoaa", sum := "eac28435d25a590d2ddd79af1e0ed0657c13743561d421ae41706555b3a2da32", func := "loop.example/flashfiles/laws.FnExactCloseAll", spec := "fnExactCloseAll", apart := false }
def FnExactCloseAllSaid : Prop := fnExactCloseAllRow.holds Try.pinned (OpenSpec.ofChange fnExactCloseAllSpec)

/-- ITS FALSE NEIGHBOUR: 'it returns false'. Refute it at one input. -/
def fnExactCloseAllWrong : ChangeSpec := { name := "fnExactCloseAll", fn := fun _ => fun
  | [d] => { results := [.lit (.bool false)], args := [d] }
  | _ => none }
def FnExactCloseAllWrongFalsely : Prop := fnExactCloseAllRow.holds Try.pinned (OpenSpec.ofChange fnExactCloseAllWrong)

/-- 'laws.FnCloseAll': WHATEVER THE INPUT: true; the input reads as it did. -/
def fnCloseAllSpec : ChangeSpec := { name := "fnCloseAll", fn := fun _ => fun
  | [d] => { results := [.lit (.bool true)], args := [d] }
  | _ => none }
def fnCloseAllRow : OpenClaim := { program := "ytgfhplejdpjgoaa", sum := "eac28435d25a590d2ddd79af1e0ed0657c13743561d421ae41706555b3a2da32", func := "loop.example/flashfiles/laws.FnCloseAll", spec := "fnCloseAll", apart := false }
def FnCloseAllSaid : Prop := fnCloseAllRow.holds Try.pinned (OpenSpec.ofChange fnCloseAllSpec)

/-- ITS FALSE NEIGHBOUR: 'it returns false'. Refute it at one input. -/
def fnCloseAllWrong : ChangeSpec := { name := "fnCloseAll", fn := fun _ => fun
  | [d] => { results := [.lit (.bool false)], args := [d] }
  | _ => none }
def FnCloseAllWrongFalsely : Prop := fnCloseAllRow.holds Try.pinned (OpenSpec.ofChange fnCloseAllWrong)

/-- 'laws.FnExactOrphans': WHATEVER THE INPUT: true; the input reads as it did. -/
def fnExactOrphansSpec : ChangeSpec := { name := "fnExactOrphans", fn := fun _ => fun
  | [d] => { results := [.lit (.bool true)], args := [d] }
  | _ => none }
def fnExactOrphansRow : OpenClaim := { program := "ytgfhplejdpjgoaa", sum := "eac28435d25a590d2ddd79af1e0ed0657c13743561d421ae41706555b3a2da32", func := "loop.example/flashfiles/laws.FnExactOrphans", spec := "fnExactOrphans", apart := false }
def FnExactOrphansSaid : Prop := fnExactOrphansRow.holds Try.pinned (OpenSpec.ofChange fnExactOrphansSpec)

/-- ITS FALSE NEIGHBOUR: 'it returns false'. Refute it at one input. -/
def fnExactOrphansWrong : ChangeSpec := { name := "fnExactOrphans", fn := fun _ => fun
  | [d] => { results := [.lit (.bool false)], args := [d] }
  | _ => none }
def FnExactOrphansWrongFalsely : Prop := fnExactOrphansRow.holds Try.pinned (OpenSpec.ofChange fnExactOrphansWrong)

/-- 'laws.FnExactLinkFile': WHATEVER THE INPUT: true; the input reads as it did. -/
def fnExactLinkFileSpec : ChangeSpec := { name := "fnExactLinkFile", fn := fun _ => fun
  | [d1, d2, d3, d4] => { results := [.lit (.bool true)], args := [d1, d2, d3, d4] }
  | _ => none }
def fnExactLinkFileRow : OpenClaim := { program := "ytgfhplejdpjgoaa", sum := "eac28435d25a590d2ddd79af1e0ed0657c13743561d421ae41706555b3a2da32", func := "loop.example/flashfiles/laws.FnExactLinkFile", spec := "fnExactLinkFile", apart := false }
def FnExactLinkFileSaid : Prop := fnExactLinkFileRow.holds Try.pinned (OpenSpec.ofChange fnExactLinkFileSpec)

/-- ITS FALSE NEIGHBOUR: 'it returns false'. Refute it at one input. -/
def fnExactLinkFileWrong : ChangeSpec := { name := "fnExactLinkFile", fn := fun _ => fun
  | [d1, d2, d3, d4] => { results := [.lit (.bool false)], args := [d1, d2, d3, d4] }
  | _ => none }
def FnExactLinkFileWrongFalsely : Prop := fnExactLinkFileRow.holds Try.pinned (OpenSpec.ofChange fnExactLinkFileWrong)

/-- 'laws.FnLinkFile': WHATEVER THE INPUT: true; the input reads as it did. -/
def fnLinkFileSpec : ChangeSpec := { name := "fnLinkFile", fn := fun _ => fun
  | [d] => { results := [.lit (.bool true)], args := [d] }
  | _ => none }
def fnLinkFileRow : OpenClaim := { program := "ytgfhplejdpjgoaa", sum := "eac28435d25a590d2ddd79af1e0ed0657c13743561d421ae41706555b3a2da32", func := "loop.example/flashfiles/laws.FnLinkFile", spec := "fnLinkFile", apart := false }
def FnLinkFileSaid : Prop := fnLinkFileRow.holds Try.pinned (OpenSpec.ofChange fnLinkFileSpec)

/-- ITS FALSE NEIGHBOUR: 'it returns false'. Refute it at one input. -/
def fnLinkFileWrong : ChangeSpec := { name := "fnLinkFile", fn := fun _ => fun
  | [d] => { results := [.lit (.bool false)], args := [d] }
  | _ => none }
def FnLinkFileWrongFalsely : Prop := fnLinkFileRow.holds Try.pinned (OpenSpec.ofChange fnLinkFileWrong)

/-- 'laws.FnOrphans': WHATEVER THE INPUT: true; the input reads as it did. -/
def fnOrphansSpec : ChangeSpec := { name := "fnOrphans", fn := fun _ => fun
  | [d] => { results := [.lit (.bool true)], args := [d] }
  | _ => none }
def fnOrphansRow : OpenClaim := { program := "ytgfhplejdpjgoaa", sum := "eac28435d25a590d2ddd79af1e0ed0657c13743561d421ae41706555b3a2da32", func := "loop.example/flashfiles/laws.FnOrphans", spec := "fnOrphans", apart := false }
def FnOrphansSaid : Prop := fnOrphansRow.holds Try.pinned (OpenSpec.ofChange fnOrphansSpec)

/-- ITS FALSE NEIGHBOUR: 'it returns false'. Refute it at one input. -/
def fnOrphansWrong : ChangeSpec := { name := "fnOrphans", fn := fun _ => fun
  | [d] => { results := [.lit (.bool false)], args := [d] }
  | _ => none }
def FnOrphansWrongFalsely : Prop := fnOrphansRow.holds Try.pinned (OpenSpec.ofChange fnOrphansWrong)

/- THE SECOND FORM. 'bulk': how many values and letters a reading holds, each counted each time it is reached (what is shared counts as often as it is met; a slice's spare places count too). A statement '..UptoSaid' is the law's where the arguments, and the package variables that the reading takes, are together of bulk at most 1048576: NARROWER than '..Said'. Prove '..Said' where nothing that the law and all that it calls make is longer than what came in: it says more and counts as full. Else prove '..UptoSaid'. A law counts once. -/
mutual
def uptoBulk {H : Type} : DataW H → Nat
  | .lit (.string bytes) => bytes.length + 1
  | .lit _ => 1
  | .nil => 1
  | .ptr d => uptoBulk d + 1
  | .slice elems spare => uptoBulkAll elems + uptoBulkAll spare + 1
  | .agg parts => uptoBulkAll parts + 1
  | .iface _ d => uptoBulk d + 1
  | .map entries => uptoBulkEntries entries + 1
  | .held _ => 1
def uptoBulkAll {H : Type} : List (DataW H) → Nat
  | [] => 0
  | d :: r => uptoBulk d + uptoBulkAll r
def uptoBulkEntries {H : Type} : List (Lit × DataW H) → Nat
  | [] => 0
  | x :: r => uptoBulkEntry x + uptoBulkEntries r
def uptoBulkEntry {H : Type} : Lit × DataW H → Nat
  | (.string bytes, d) => bytes.length + uptoBulk d + 1
  | (_, d) => uptoBulk d + 1
 end
def uptoSmall : (H : Type) → List (DataW H) → Bool := fun _ ds => decide (uptoBulkAll ds ≤ 1048576)
def OpenSpec.upto (s : _root_.Go.ChangeSpec) : _root_.Go.OpenSpec := { _root_.Go.OpenSpec.ofChange s with cond := some uptoSmall }

/-- 'laws.FnExactLinksValid', WHERE WHAT IT READS IS OF BULK AT MOST 1048576: true; the input reads as it did. -/
def fnExactLinksValidUptoRow : OpenClaim := { program := "ytgfhplejdpjgoaa", sum := "eac28435d25a590d2ddd79af1e0ed0657c13743561d421ae41706555b3a2da32", func := "loop.example/flashfiles/laws.FnExactLinksValid", spec := "fnExactLinksValid", apart := false, narrowed := true }
def FnExactLinksValidUptoSaid : Prop := fnExactLinksValidUptoRow.holds Try.pinned (OpenSpec.upto fnExactLinksValidSpec)

/-- 'laws.FnExactPutsValid', WHERE WHAT IT READS IS OF BULK AT MOST 1048576: true; the input reads as it did. -/
def fnExactPutsValidUptoRow : OpenClaim := { program := "ytgfhplejdpjgoaa", sum := "eac28435d25a590d2ddd79af1e0ed0657c13743561d421ae41706555b3a2da32", func := "loop.example/flashfiles/laws.FnExactPutsValid", spec := "fnExactPutsValid", apart := false, narrowed := true }
def FnExactPutsValidUptoSaid : Prop := fnExactPutsValidUptoRow.holds Try.pinned (OpenSpec.upto fnExactPutsValidSpec)

/-- 'laws.FnPutsValid', WHERE WHAT IT READS IS OF BULK AT MOST 1048576: true; the input reads as it did. -/
def fnPutsValidUptoRow : OpenClaim := { program := "ytgfhplejdpjgoaa", sum := "eac28435d25a590d2ddd79af1e0ed0657c13743561d421ae41706555b3a2da32", func := "loop.example/flashfiles/laws.FnPutsValid", spec := "fnPutsValid", apart := false, narrowed := true }
def FnPutsValidUptoSaid : Prop := fnPutsValidUptoRow.holds Try.pinned (OpenSpec.upto fnPutsValidSpec)

/-- 'laws.FnExactPutValue', WHERE WHAT IT READS IS OF BULK AT MOST 1048576: true; the input reads as it did. -/
def fnExactPutValueUptoRow : OpenClaim := { program := "ytgfhplejdpjgoaa", sum := "eac28435d25a590d2ddd79af1e0ed0657c13743561d421ae41706555b3a2da32", func := "loop.example/flashfiles/laws.FnExactPutValue", spec := "fnExactPutValue", apart := false, narrowed := true }
def FnExactPutValueUptoSaid : Prop := fnExactPutValueUptoRow.holds Try.pinned (OpenSpec.upto fnExactPutValueSpec)

/-- 'laws.FnLinksValid', WHERE WHAT IT READS IS OF BULK AT MOST 1048576: true; the input reads as it did. -/
def fnLinksValidUptoRow : OpenClaim := { program := "ytgfhplejdpjgoaa", sum := "eac28435d25a590d2ddd79af1e0ed0657c13743561d421ae41706555b3a2da32", func := "loop.example/flashfiles/laws.FnLinksValid", spec := "fnLinksValid", apart := false, narrowed := true }
def FnLinksValidUptoSaid : Prop := fnLinksValidUptoRow.holds Try.pinned (OpenSpec.upto fnLinksValidSpec)

/-- 'laws.FnPutValue', WHERE WHAT IT READS IS OF BULK AT MOST 1048576: true; the input reads as it did. -/
def fnPutValueUptoRow : OpenClaim := { program := "ytgfhplejdpjgoaa", sum := "eac28435d25a590d2ddd79af1e0ed0657c13743561d421ae41706555b3a2da32", func := "loop.example/flashfiles/laws.FnPutValue", spec := "fnPutValue", apart := false, narrowed := true }
def FnPutValueUptoSaid : Prop := fnPutValueUptoRow.holds Try.pinned (OpenSpec.upto fnPutValueSpec)

/-- 'laws.FnExactCloseAll', WHERE WHAT IT READS IS OF BULK AT MOST 1048576: true; the input reads as it did. -/
def fnExactCloseAllUptoRow : OpenClaim := { program := "ytgfhplejdpjgoaa", sum := "eac28435d25a590d2ddd79af1e0ed0657c13743561d421ae41706555b3a2da32", func := "loop.example/flashfiles/laws.FnExactCloseAll", spec := "fnExactCloseAll", apart := false, narrowed := true }
def FnExactCloseAllUptoSaid : Prop := fnExactCloseAllUptoRow.holds Try.pinned (OpenSpec.upto fnExactCloseAllSpec)

/-- 'laws.FnCloseAll', WHERE WHAT IT READS IS OF BULK AT MOST 1048576: true; the input reads as it did. -/
def fnCloseAllUptoRow : OpenClaim := { program := "ytgfhplejdpjgoaa", sum := "eac28435d25a590d2ddd79af1e0ed0657c13743561d421ae41706555b3a2da32", func := "loop.example/flashfiles/laws.FnCloseAll", spec := "fnCloseAll", apart := false, narrowed := true }
def FnCloseAllUptoSaid : Prop := fnCloseAllUptoRow.holds Try.pinned (OpenSpec.upto fnCloseAllSpec)

/-- 'laws.FnExactOrphans', WHERE WHAT IT READS IS OF BULK AT MOST 1048576: true; the input reads as it did. -/
def fnExactOrphansUptoRow : OpenClaim := { program := "ytgfhplejdpjgoaa", sum := "eac28435d25a590d2ddd79af1e0ed0657c13743561d421ae41706555b3a2da32", func := "loop.example/flashfiles/laws.FnExactOrphans", spec := "fnExactOrphans", apart := false, narrowed := true }
def FnExactOrphansUptoSaid : Prop := fnExactOrphansUptoRow.holds Try.pinned (OpenSpec.upto fnExactOrphansSpec)

/-- 'laws.FnExactLinkFile', WHERE WHAT IT READS IS OF BULK AT MOST 1048576: true; the input reads as it did. -/
def fnExactLinkFileUptoRow : OpenClaim := { program := "ytgfhplejdpjgoaa", sum := "eac28435d25a590d2ddd79af1e0ed0657c13743561d421ae41706555b3a2da32", func := "loop.example/flashfiles/laws.FnExactLinkFile", spec := "fnExactLinkFile", apart := false, narrowed := true }
def FnExactLinkFileUptoSaid : Prop := fnExactLinkFileUptoRow.holds Try.pinned (OpenSpec.upto fnExactLinkFileSpec)

/-- 'laws.FnLinkFile', WHERE WHAT IT READS IS OF BULK AT MOST 1048576: true; the input reads as it did. -/
def fnLinkFileUptoRow : OpenClaim := { program := "ytgfhplejdpjgoaa", sum := "eac28435d25a590d2ddd79af1e0ed0657c13743561d421ae41706555b3a2da32", func := "loop.example/flashfiles/laws.FnLinkFile", spec := "fnLinkFile", apart := false, narrowed := true }
def FnLinkFileUptoSaid : Prop := fnLinkFileUptoRow.holds Try.pinned (OpenSpec.upto fnLinkFileSpec)

/-- 'laws.FnOrphans', WHERE WHAT IT READS IS OF BULK AT MOST 1048576: true; the input reads as it did. -/
def fnOrphansUptoRow : OpenClaim := { program := "ytgfhplejdpjgoaa", sum := "eac28435d25a590d2ddd79af1e0ed0657c13743561d421ae41706555b3a2da32", func := "loop.example/flashfiles/laws.FnOrphans", spec := "fnOrphans", apart := false, narrowed := true }
def FnOrphansUptoSaid : Prop := fnOrphansUptoRow.holds Try.pinned (OpenSpec.upto fnOrphansSpec)

end Rows
end Go.Proofs.Ytgfhplejdpjgoaa
