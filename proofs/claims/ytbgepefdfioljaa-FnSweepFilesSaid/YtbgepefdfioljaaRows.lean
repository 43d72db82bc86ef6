/-
  No cell of these rows narrows 'for every input' (looked for: loops, veiled, ifaces, maps, wideKeys, modest, calm, conditions, laid).
  DERIVED. THE GIVEN ROWS OF THIS SEAT. 10 by the template 'for every input the law returns true; each argument reads behind the call as it read before'; 0 by the template 'total and deterministic' (their statements: YtbgepefdfioljaaTotals.lean).
  GIVEN WITH THE SEED: the statements are not yours to turn. If you find one false, say at which input.
  Laid BY PROGRAM, IN A SANDBOX (cutbox-rows.mjs): the forced cells as the released guide's own fill.sh prints them over the translation acd2e387f1c9f58b… (all of the seat's roots in one cut). By AI agents, Wed Nov 11 2026. No macro, syntax, notation, axiom, sorry.
-/
import Derived.Test.YtbgepefdfioljaaChecked
import GoSem.Claim
import GoSem.ClaimJoined
import GoSem.ClaimMapViews
import Derived.JoinedTies
import Derived.KernelRfl
namespace Go.Proofs.Ytbgepefdfioljaa
/- THE CELL 'sum', in the pinned program and in every row, IS THE sha256 OF THE DUMP (.gsa) THAT YtbgepefdfioljaaProg.lean LOADS. Nothing in Lean hashes anything: it is a label: what it is worth is what the hold of that sum in a sandbox is worth. -/
noncomputable def Try.pinned : Pinned := { name := "ytbgepefdfioljaa", sum := "acd2e387f1c9f58bbf1c45267c82e3151f2944ef0c595f082d4fb303049d3faf", checked := Try.checked }
namespace Rows
def none {H : Type} : Left H := { results := [], args := [] }

/-- 'laws.FnExactSaveSum': WHATEVER THE INPUT: true; the input reads as it did. -/
def fnExactSaveSumSpec : ChangeSpec := { name := "fnExactSaveSum", fn := fun _ => fun
  | [d1, d2] => { results := [.lit (.bool true)], args := [d1, d2] }
  | _ => none }
def fnExactSaveSumRow : OpenClaim := { program := "ytbgepefdfioljaa", sum := "acd2e387f1c9f58bbf1c45267c82e3151f2944ef0c595f082d4fb303049d3faf", func := "loop.example/flashfiles/laws.FnExactSaveSum", spec := "fnExactSaveSum", apart := false }
def FnExactSaveSumSaid : Prop := fnExactSaveSumRow.holds Try.pinned (OpenSpec.ofChange fnExactSaveSumSpec)

/-- ITS FALSE NEIGHBOUR: 'it returns false'. Refute it at one input. -/
def fnExactSaveSumWrong : ChangeSpec := { name := "fnExactSaveSum", fn := fun _ => fun
  | [d1, d2] => { results := [.lit (.bool false)], args := [d1, d2] }
  | _ => none }
def FnExactSaveSumWrongFalsely : Prop := fnExactSaveSumRow.holds Try.pinned (OpenSpec.ofChange fnExactSaveSumWrong)

/-- 'laws.FnSaveSum': WHATEVER THE INPUT: true; the input reads as it did. -/
def fnSaveSumSpec : ChangeSpec := { name := "fnSaveSum", fn := fun _ => fun
  | [d] => { results := [.lit (.bool true)], args := [d] }
  | _ => none }
def fnSaveSumRow : OpenClaim := { program := "ytbgepefdfioljaa", sum := "acd2e387f1c9f58bbf1c45267c82e3151f2944ef0c595f082d4fb303049d3faf", func := "loop.example/flashfiles/laws.FnSaveSum", spec := "fnSaveSum", apart := false }
def FnSaveSumSaid : Prop := fnSaveSumRow.holds Try.pinned (OpenSpec.ofChange fnSaveSumSpec)

/-- ITS FALSE NEIGHBOUR: 'it returns false'. Refute it at one input. -/
def fnSaveSumWrong : ChangeSpec := { name := "fnSaveSum", fn := fun _ => fun
  | [d] => { results := [.lit (.bool false)], args := [d] }
  | _ => none }
def FnSaveSumWrongFalsely : Prop := fnSaveSumRow.holds Try.pinned (OpenSpec.ofChange fnSaveSumWrong)

/-- 'laws.FnExactSaveTable': WHATEVER THE INPUT: true; the input reads as it did. -/
def fnExactSaveTableSpec : ChangeSpec := { name := "fnExactSaveTable", fn := fun _ => fun
  | [d1, d2] => { results := [.lit (.bool true)], args := [d1, d2] }
  | _ => none }
def fnExactSaveTableRow : OpenClaim := { program := "ytbgepefdfioljaa", sum := "acd2e387f1c9f58bbf1c45267c82e3151f2944ef0c595f082d4fb303049d3faf", func := "loop.example/flashfiles/laws.FnExactSaveTable", spec := "fnExactSaveTable", apart := false }
def FnExactSaveTableSaid : Prop := fnExactSaveTableRow.holds Try.pinned (OpenSpec.ofChange fnExactSaveTableSpec)

/-- ITS FALSE NEIGHBOUR: 'it returns false'. Refute it at one input. -/
def fnExactSaveTableWrong : ChangeSpec := { name := "fnExactSaveTable", fn := fun _ => fun
  | [d1, d2] => { results := [.lit (.bool false)], args := [d1, d2] }
  | _ => none }
def FnExactSaveTableWrongFalsely : Prop := fnExactSaveTableRow.holds Try.pinned (OpenSpec.ofChange fnExactSaveTableWrong)

/-- 'laws.FnExactLoadTable': WHATEVER THE INPUT: true; the input reads as it did. -/
def fnExactLoadTableSpec : ChangeSpec := { name := "fnExactLoadTable", fn := fun _ => fun
  | [d] => { results := [.lit (.bool true)], args := [d] }
  | _ => none }
def fnExactLoadTableRow : OpenClaim := { program := "ytbgepefdfioljaa", sum := "acd2e387f1c9f58bbf1c45267c82e3151f2944ef0c595f082d4fb303049d3faf", func := "loop.example/flashfiles/laws.FnExactLoadTable", spec := "fnExactLoadTable", apart := false }
def FnExactLoadTableSaid : Prop := fnExactLoadTableRow.holds Try.pinned (OpenSpec.ofChange fnExactLoadTableSpec)

/-- ITS FALSE NEIGHBOUR: 'it returns false'. Refute it at one input. -/
def fnExactLoadTableWrong : ChangeSpec := { name := "fnExactLoadTable", fn := fun _ => fun
  | [d] => { results := [.lit (.bool false)], args := [d] }
  | _ => none }
def FnExactLoadTableWrongFalsely : Prop := fnExactLoadTableRow.holds Try.pinned (OpenSpec.ofChange fnExactLoadTableWrong)

/-- 'laws.FnSaveTable': WHATEVER THE INPUT: true; the input reads as it did. -/
def fnSaveTableSpec : ChangeSpec := { name := "fnSaveTable", fn := fun _ => fun
  | [d] => { results := [.lit (.bool true)], args := [d] }
  | _ => none }
def fnSaveTableRow : OpenClaim := { program := "ytbgepefdfioljaa", sum := "acd2e387f1c9f58bbf1c45267c82e3151f2944ef0c595f082d4fb303049d3faf", func := "loop.example/flashfiles/laws.FnSaveTable", spec := "fnSaveTable", apart := false }
def FnSaveTableSaid : Prop := fnSaveTableRow.holds Try.pinned (OpenSpec.ofChange fnSaveTableSpec)

/-- ITS FALSE NEIGHBOUR: 'it returns false'. Refute it at one input. -/
def fnSaveTableWrong : ChangeSpec := { name := "fnSaveTable", fn := fun _ => fun
  | [d] => { results := [.lit (.bool false)], args := [d] }
  | _ => none }
def FnSaveTableWrongFalsely : Prop := fnSaveTableRow.holds Try.pinned (OpenSpec.ofChange fnSaveTableWrong)

/-- 'laws.FnExactNewerSave': WHATEVER THE INPUT: true; the input reads as it did. -/
def fnExactNewerSaveSpec : ChangeSpec := { name := "fnExactNewerSave", fn := fun _ => fun
  | [d1, d2] => { results := [.lit (.bool true)], args := [d1, d2] }
  | _ => none }
def fnExactNewerSaveRow : OpenClaim := { program := "ytbgepefdfioljaa", sum := "acd2e387f1c9f58bbf1c45267c82e3151f2944ef0c595f082d4fb303049d3faf", func := "loop.example/flashfiles/laws.FnExactNewerSave", spec := "fnExactNewerSave", apart := false }
def FnExactNewerSaveSaid : Prop := fnExactNewerSaveRow.holds Try.pinned (OpenSpec.ofChange fnExactNewerSaveSpec)

/-- ITS FALSE NEIGHBOUR: 'it returns false'. Refute it at one input. -/
def fnExactNewerSaveWrong : ChangeSpec := { name := "fnExactNewerSave", fn := fun _ => fun
  | [d1, d2] => { results := [.lit (.bool false)], args := [d1, d2] }
  | _ => none }
def FnExactNewerSaveWrongFalsely : Prop := fnExactNewerSaveRow.holds Try.pinned (OpenSpec.ofChange fnExactNewerSaveWrong)

/-- 'laws.FnSweepFiles': WHATEVER THE INPUT: true; the input reads as it did. -/
def fnSweepFilesSpec : ChangeSpec := { name := "fnSweepFiles", fn := fun _ => fun
  | [d] => { results := [.lit (.bool true)], args := [d] }
  | _ => none }
def fnSweepFilesRow : OpenClaim := { program := "ytbgepefdfioljaa", sum := "acd2e387f1c9f58bbf1c45267c82e3151f2944ef0c595f082d4fb303049d3faf", func := "loop.example/flashfiles/laws.FnSweepFiles", spec := "fnSweepFiles", apart := false }
def FnSweepFilesSaid : Prop := fnSweepFilesRow.holds Try.pinned (OpenSpec.ofChange fnSweepFilesSpec)

/-- ITS FALSE NEIGHBOUR: 'it returns false'. Refute it at one input. -/
def fnSweepFilesWrong : ChangeSpec := { name := "fnSweepFiles", fn := fun _ => fun
  | [d] => { results := [.lit (.bool false)], args := [d] }
  | _ => none }
def FnSweepFilesWrongFalsely : Prop := fnSweepFilesRow.holds Try.pinned (OpenSpec.ofChange fnSweepFilesWrong)

/-- 'laws.FnLoadTable': WHATEVER THE INPUT: true; the input reads as it did. -/
def fnLoadTableSpec : ChangeSpec := { name := "fnLoadTable", fn := fun _ => fun
  | [d] => { results := [.lit (.bool true)], args := [d] }
  | _ => none }
def fnLoadTableRow : OpenClaim := { program := "ytbgepefdfioljaa", sum := "acd2e387f1c9f58bbf1c45267c82e3151f2944ef0c595f082d4fb303049d3faf", func := "loop.example/flashfiles/laws.FnLoadTable", spec := "fnLoadTable", apart := false }
def FnLoadTableSaid : Prop := fnLoadTableRow.holds Try.pinned (OpenSpec.ofChange fnLoadTableSpec)

/-- ITS FALSE NEIGHBOUR: 'it returns false'. Refute it at one input. -/
def fnLoadTableWrong : ChangeSpec := { name := "fnLoadTable", fn := fun _ => fun
  | [d] => { results := [.lit (.bool false)], args := [d] }
  | _ => none }
def FnLoadTableWrongFalsely : Prop := fnLoadTableRow.holds Try.pinned (OpenSpec.ofChange fnLoadTableWrong)

/-- 'laws.FnNewerSave': WHATEVER THE INPUT: true; the input reads as it did. -/
def fnNewerSaveSpec : ChangeSpec := { name := "fnNewerSave", fn := fun _ => fun
  | [d] => { results := [.lit (.bool true)], args := [d] }
  | _ => none }
def fnNewerSaveRow : OpenClaim := { program := "ytbgepefdfioljaa", sum := "acd2e387f1c9f58bbf1c45267c82e3151f2944ef0c595f082d4fb303049d3faf", func := "loop.example/flashfiles/laws.FnNewerSave", spec := "fnNewerSave", apart := false }
def FnNewerSaveSaid : Prop := fnNewerSaveRow.holds Try.pinned (OpenSpec.ofChange fnNewerSaveSpec)

/-- ITS FALSE NEIGHBOUR: 'it returns false'. Refute it at one input. -/
def fnNewerSaveWrong : ChangeSpec := { name := "fnNewerSave", fn := fun _ => fun
  | [d] => { results := [.lit (.bool false)], args := [d] }
  | _ => none }
def FnNewerSaveWrongFalsely : Prop := fnNewerSaveRow.holds Try.pinned (OpenSpec.ofChange fnNewerSaveWrong)

/-- 'laws.FnExactSweepFiles': WHATEVER THE INPUT: true; the input reads as it did. -/
def fnExactSweepFilesSpec : ChangeSpec := { name := "fnExactSweepFiles", fn := fun _ => fun
  | [d1, d2] => { results := [.lit (.bool true)], args := [d1, d2] }
  | _ => none }
def fnExactSweepFilesRow : OpenClaim := { program := "ytbgepefdfioljaa", sum := "acd2e387f1c9f58bbf1c45267c82e3151f2944ef0c595f082d4fb303049d3faf", func := "loop.example/flashfiles/laws.FnExactSweepFiles", spec := "fnExactSweepFiles", apart := false }
def FnExactSweepFilesSaid : Prop := fnExactSweepFilesRow.holds Try.pinned (OpenSpec.ofChange fnExactSweepFilesSpec)

/-- ITS FALSE NEIGHBOUR: 'it returns false'. Refute it at one input. -/
def fnExactSweepFilesWrong : ChangeSpec := { name := "fnExactSweepFiles", fn := fun _ => fun
  | [d1, d2] => { results := [.lit (.bool false)], args := [d1, d2] }
  | _ => none }
def FnExactSweepFilesWrongFalsely : Prop := fnExactSweepFilesRow.holds Try.pinned (OpenSpec.ofChange fnExactSweepFilesWrong)

/- THE SECOND FORM. 'bulk': how many values and letters a reading holds, each counted each time it is reached (what is shared counts as often as it is met; a slice's spare places count too). A statement '..UptoSaid' is the law's where the arguments, and the package variables that the reading takes, are together of bulk at most 1048576: NARROWER than '..Said'. Prove '..Said' where nothing that the law and all that it calls make is longer than what came in: it says more and counts as full. Else prove '..UptoSaid'. A law counts once. -/
mutual
def uptoBulk {H : Type} : DataW H → Nat
  | .lit (.string bytes) => bytes.length + 1
  | .lit _ => 1
  | .nil => 1
  | .ptr d => uptoBulk d + 1
  | .slice elems spare => uptoBulkAll elems + uptoBulkAll spare + 1
  | .agg parts => uptoBulkAll parts + 1
  | .iface _ d => uptoBulk d + 1
  | .map entries => uptoBulkEntries entries + 1
  | .held _ => 1
def uptoBulkAll {H : Type} : List (DataW H) → Nat
  | [] => 0
  | d :: r => uptoBulk d + uptoBulkAll r
def uptoBulkEntries {H : Type} : List (Lit × DataW H) → Nat
  | [] => 0
  | x :: r => uptoBulkEntry x + uptoBulkEntries r
def uptoBulkEntry {H : Type} : Lit × DataW H → Nat
  | (.string bytes, d) => bytes.length + uptoBulk d + 1
  | (_, d) => uptoBulk d + 1
 end
def uptoSmall : (H : Type) → List (DataW H) → Bool := fun _ ds => decide (uptoBulkAll ds ≤ 1048576)
def OpenSpec.upto (s : _root_.Go.ChangeSpec) : _root_.Go.OpenSpec := { _root_.Go.OpenSpec.ofChange s with cond := some uptoSmall }

/-- 'laws.FnExactSaveSum', WHERE WHAT IT READS IS OF BULK AT MOST 1048576: true; the input reads as it did. -/
def fnExactSaveSumUptoRow : OpenClaim := { program := "ytbgepefdfioljaa", sum := "acd2e387f1c9f58bbf1c45267c82e3151f2944ef0c595f082d4fb303049d3faf", func := "loop.example/flashfiles/laws.FnExactSaveSum", spec := "fnExactSaveSum", apart := false, narrowed := true }
def FnExactSaveSumUptoSaid : Prop := fnExactSaveSumUptoRow.holds Try.pinned (OpenSpec.upto fnExactSaveSumSpec)

/-- 'laws.FnSaveSum', WHERE WHAT IT READS IS OF BULK AT MOST 1048576: true; the input reads as it did. -/
def fnSaveSumUptoRow : OpenClaim := { program := "ytbgepefdfioljaa", sum := "acd2e387f1c9f58bbf1c45267c82e3151f2944ef0c595f082d4fb303049d3faf", func := "loop.example/flashfiles/laws.FnSaveSum", spec := "fnSaveSum", apart := false, narrowed := true }
def FnSaveSumUptoSaid : Prop := fnSaveSumUptoRow.holds Try.pinned (OpenSpec.upto fnSaveSumSpec)

/-- 'laws.FnExactSaveTable', WHERE WHAT IT READS IS OF BULK AT MOST 1048576: true; the input reads as it did. -/
def fnExactSaveTableUptoRow : OpenClaim := { program := "ytbgepefdfioljaa", sum := "acd2e387f1c9f58bbf1c45267c82e3151f2944ef0c595f082d4fb303049d3faf", func := "loop.example/flashfiles/laws.FnExactSaveTable", spec := "fnExactSaveTable", apart := false, narrowed := true }
def FnExactSaveTableUptoSaid : Prop := fnExactSaveTableUptoRow.holds Try.pinned (OpenSpec.upto fnExactSaveTableSpec)

/-- 'laws.FnExactLoadTable', WHERE WHAT IT READS IS OF BULK AT MOST 1048576: true; the input reads as it did. -/
def fnExactLoadTableUptoRow : OpenClaim := { program := "ytbgepefdfioljaa", sum := "acd2e387f1c9f58bbf1c45267c82e3151f2944ef0c595f082d4fb303049d3faf", func := "loop.example/flashfiles/laws.FnExactLoadTable", spec := "fnExactLoadTable", apart := false, narrowed := true }
def FnExactLoadTableUptoSaid : Prop := fnExactLoadTableUptoRow.holds Try.pinned (OpenSpec.upto fnExactLoadTableSpec)

/-- 'laws.FnSaveTable', WHERE WHAT IT READS IS OF BULK AT MOST 1048576: true; the input reads as it did. -/
def fnSaveTableUptoRow : OpenClaim := { program := "ytbgepefdfioljaa", sum := "acd2e387f1c9f58bbf1c45267c82e3151f2944ef0c595f082d4fb303049d3faf", func := "loop.example/flashfiles/laws.FnSaveTable", spec := "fnSaveTable", apart := false, narrowed := true }
def FnSaveTableUptoSaid : Prop := fnSaveTableUptoRow.holds Try.pinned (OpenSpec.upto fnSaveTableSpec)

/-- 'laws.FnExactNewerSave', WHERE WHAT IT READS IS OF BULK AT MOST 1048576: true; the input reads as it did. -/
def fnExactNewerSaveUptoRow : OpenClaim := { program := "ytbgepefdfioljaa", sum := "acd2e387f1c9f58bbf1c45267c82e3151f2944ef0c595f082d4fb303049d3faf", func := "loop.example/flashfiles/laws.FnExactNewerSave", spec := "fnExactNewerSave", apart := false, narrowed := true }
def FnExactNewerSaveUptoSaid : Prop := fnExactNewerSaveUptoRow.holds Try.pinned (OpenSpec.upto fnExactNewerSaveSpec)

/-- 'laws.FnSweepFiles', WHERE WHAT IT READS IS OF BULK AT MOST 1048576: true; the input reads as it did. -/
def fnSweepFilesUptoRow : OpenClaim := { program := "ytbgepefdfioljaa", sum := "acd2e387f1c9f58bbf1c45267c82e3151f2944ef0c595f082d4fb303049d3faf", func := "loop.example/flashfiles/laws.FnSweepFiles", spec := "fnSweepFiles", apart := false, narrowed := true }
def FnSweepFilesUptoSaid : Prop := fnSweepFilesUptoRow.holds Try.pinned (OpenSpec.upto fnSweepFilesSpec)

/-- 'laws.FnLoadTable', WHERE WHAT IT READS IS OF BULK AT MOST 1048576: true; the input reads as it did. -/
def fnLoadTableUptoRow : OpenClaim := { program := "ytbgepefdfioljaa", sum := "acd2e387f1c9f58bbf1c45267c82e3151f2944ef0c595f082d4fb303049d3faf", func := "loop.example/flashfiles/laws.FnLoadTable", spec := "fnLoadTable", apart := false, narrowed := true }
def FnLoadTableUptoSaid : Prop := fnLoadTableUptoRow.holds Try.pinned (OpenSpec.upto fnLoadTableSpec)

/-- 'laws.FnNewerSave', WHERE WHAT IT READS IS OF BULK AT MOST 1048576: true; the input reads as it did. -/
def fnNewerSaveUptoRow : OpenClaim := { program := "ytbgepefdfioljaa", sum := "acd2e387f1c9f58bbf1c45267c82e3151f2944ef0c595f082d4fb303049d3faf", func := "loop.example/flashfiles/laws.FnNewerSave", spec := "fnNewerSave", apart := false, narrowed := true }
def FnNewerSaveUptoSaid : Prop := fnNewerSaveUptoRow.holds Try.pinned (OpenSpec.upto fnNewerSaveSpec)

/-- 'laws.FnExactSweepFiles', WHERE WHAT IT READS IS OF BULK AT MOST 1048576: true; the input reads as it did. -/
def fnExactSweepFilesUptoRow : OpenClaim := { program := "ytbgepefdfioljaa", sum := "acd2e387f1c9f58bbf1c45267c82e3151f2944ef0c595f082d4fb303049d3faf", func := "loop.example/flashfiles/laws.FnExactSweepFiles", spec := "fnExactSweepFiles", apart := false, narrowed := true }
def FnExactSweepFilesUptoSaid : Prop := fnExactSweepFilesUptoRow.holds Try.pinned (OpenSpec.upto fnExactSweepFilesSpec)

end Rows
end Go.Proofs.Ytbgepefdfioljaa
