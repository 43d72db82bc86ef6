/-
  No cell of these rows narrows 'for every input' (looked for: loops, veiled, ifaces, maps, wideKeys, modest, calm, conditions, laid).
  DERIVED. THE GIVEN ROWS OF THIS SEAT. 12 by the template 'for every input the law returns true; each argument reads behind the call as it read before'; 0 by the template 'total and deterministic' (their statements: YtdblfcmmeggpdaaTotals.lean).
  GIVEN WITH THE SEED: the statements are not yours to turn. If you find one false, say at which input.
  Laid BY PROGRAM, IN A SANDBOX (cutbox-rows.mjs): the forced cells as the released guide's own fill.sh prints them over the translation 5e7163c504de57ee… (all of the seat's roots in one cut). By AI agents, Wed Nov 11 2026. No macro, syntax, notation, axiom, sorry.
-/
import Derived.Test.YtdblfcmmeggpdaaChecked
import GoSem.Claim
import GoSem.ClaimJoined
import GoSem.ClaimMapViews
import Derived.JoinedTies
import Derived.KernelRfl
namespace Go.Proofs.Ytdblfcmmeggpdaa
/- THE CELL 'sum', in the pinned program and in every row, IS THE sha256 OF THE DUMP (.gsa) THAT YtdblfcmmeggpdaaProg.lean LOADS. Nothing in Lean hashes anything: it is a label: what it is worth is what the hold of that sum in a sandbox is worth. -/
noncomputable def Try.pinned : Pinned := { name := "ytdblfcmmeggpdaa", sum := "5e7163c504de57ee44e567b8a1372540f07234e48f33c68e215ce7e6ef5da75b", checked := Try.checked }
namespace Rows
def none {H : Type} : Left H := { results := [], args := [] }

/-- 'laws.FnExactHeatStep': WHATEVER THE INPUT: true; the input reads as it did. -/
def fnExactHeatStepSpec : ChangeSpec := { name := "fnExactHeatStep", fn := fun _ => fun
  | [d1, d2] => { results := [.lit (.bool true)], args := [d1, d2] }
  | _ => none }
def fnExactHeatStepRow : OpenClaim := { program := "ytdblfcmmeggpdaa", sum := "5e7163c504de57ee44e567b8a1372540f07234e48f33c68e215ce7e6ef5da75b", func := "loop.example/flashfiles/laws.FnExactHeatStep", spec := "fnExactHeatStep", apart := false }
def FnExactHeatStepSaid : Prop := fnExactHeatStepRow.holds Try.pinned (OpenSpec.ofChange fnExactHeatStepSpec)

/-- ITS FALSE NEIGHBOUR: 'it returns false'. Refute it at one input. -/
def fnExactHeatStepWrong : ChangeSpec := { name := "fnExactHeatStep", fn := fun _ => fun
  | [d1, d2] => { results := [.lit (.bool false)], args := [d1, d2] }
  | _ => none }
def FnExactHeatStepWrongFalsely : Prop := fnExactHeatStepRow.holds Try.pinned (OpenSpec.ofChange fnExactHeatStepWrong)

/-- 'laws.FnExactHeatKind': WHATEVER THE INPUT: true; the input reads as it did. -/
def fnExactHeatKindSpec : ChangeSpec := { name := "fnExactHeatKind", fn := fun _ => fun
  | [d] => { results := [.lit (.bool true)], args := [d] }
  | _ => none }
def fnExactHeatKindRow : OpenClaim := { program := "ytdblfcmmeggpdaa", sum := "5e7163c504de57ee44e567b8a1372540f07234e48f33c68e215ce7e6ef5da75b", func := "loop.example/flashfiles/laws.FnExactHeatKind", spec := "fnExactHeatKind", apart := false }
def FnExactHeatKindSaid : Prop := fnExactHeatKindRow.holds Try.pinned (OpenSpec.ofChange fnExactHeatKindSpec)

/-- ITS FALSE NEIGHBOUR: 'it returns false'. Refute it at one input. -/
def fnExactHeatKindWrong : ChangeSpec := { name := "fnExactHeatKind", fn := fun _ => fun
  | [d] => { results := [.lit (.bool false)], args := [d] }
  | _ => none }
def FnExactHeatKindWrongFalsely : Prop := fnExactHeatKindRow.holds Try.pinned (OpenSpec.ofChange fnExactHeatKindWrong)

/-- 'laws.FnHeatStep': WHATEVER THE INPUT: true; the input reads as it did. -/
def fnHeatStepSpec : ChangeSpec := { name := "fnHeatStep", fn := fun _ => fun
  | [d] => { results := [.lit (.bool true)], args := [d] }
  | _ => none }
def fnHeatStepRow : OpenClaim := { program := "ytdblfcmmeggpdaa", sum := "5e7163c504de57ee44e567b8a1372540f07234e48f33c68e215ce7e6ef5da75b", func := "loop.example/flashfiles/laws.FnHeatStep", spec := "fnHeatStep", apart := false }
def FnHeatStepSaid : Prop := fnHeatStepRow.holds Try.pinned (OpenSpec.ofChange fnHeatStepSpec)

/-- ITS FALSE NEIGHBOUR: 'it returns false'. Refute it at one input. -/
def fnHeatStepWrong : ChangeSpec := { name := "fnHeatStep", fn := fun _ => fun
  | [d] => { results := [.lit (.bool false)], args := [d] }
  | _ => none }
def FnHeatStepWrongFalsely : Prop := fnHeatStepRow.holds Try.pinned (OpenSpec.ofChange fnHeatStepWrong)

/-- 'laws.FnExactHeatRun': WHATEVER THE INPUT: true; the input reads as it did. -/
def fnExactHeatRunSpec : ChangeSpec := { name := "fnExactHeatRun", fn := fun _ => fun
  | [d] => { results := [.lit (.bool true)], args := [d] }
  | _ => none }
def fnExactHeatRunRow : OpenClaim := { program := "ytdblfcmmeggpdaa", sum := "5e7163c504de57ee44e567b8a1372540f07234e48f33c68e215ce7e6ef5da75b", func := "loop.example/flashfiles/laws.FnExactHeatRun", spec := "fnExactHeatRun", apart := false }
def FnExactHeatRunSaid : Prop := fnExactHeatRunRow.holds Try.pinned (OpenSpec.ofChange fnExactHeatRunSpec)

/-- ITS FALSE NEIGHBOUR: 'it returns false'. Refute it at one input. -/
def fnExactHeatRunWrong : ChangeSpec := { name := "fnExactHeatRun", fn := fun _ => fun
  | [d] => { results := [.lit (.bool false)], args := [d] }
  | _ => none }
def FnExactHeatRunWrongFalsely : Prop := fnExactHeatRunRow.holds Try.pinned (OpenSpec.ofChange fnExactHeatRunWrong)

/-- 'laws.FnExactCoolsIn': WHATEVER THE INPUT: true; the input reads as it did. -/
def fnExactCoolsInSpec : ChangeSpec := { name := "fnExactCoolsIn", fn := fun _ => fun
  | [d] => { results := [.lit (.bool true)], args := [d] }
  | _ => none }
def fnExactCoolsInRow : OpenClaim := { program := "ytdblfcmmeggpdaa", sum := "5e7163c504de57ee44e567b8a1372540f07234e48f33c68e215ce7e6ef5da75b", func := "loop.example/flashfiles/laws.FnExactCoolsIn", spec := "fnExactCoolsIn", apart := false }
def FnExactCoolsInSaid : Prop := fnExactCoolsInRow.holds Try.pinned (OpenSpec.ofChange fnExactCoolsInSpec)

/-- ITS FALSE NEIGHBOUR: 'it returns false'. Refute it at one input. -/
def fnExactCoolsInWrong : ChangeSpec := { name := "fnExactCoolsIn", fn := fun _ => fun
  | [d] => { results := [.lit (.bool false)], args := [d] }
  | _ => none }
def FnExactCoolsInWrongFalsely : Prop := fnExactCoolsInRow.holds Try.pinned (OpenSpec.ofChange fnExactCoolsInWrong)

/-- 'laws.FnHeatKind': WHATEVER THE INPUT: true; the input reads as it did. -/
def fnHeatKindSpec : ChangeSpec := { name := "fnHeatKind", fn := fun _ => fun
  | [d] => { results := [.lit (.bool true)], args := [d] }
  | _ => none }
def fnHeatKindRow : OpenClaim := { program := "ytdblfcmmeggpdaa", sum := "5e7163c504de57ee44e567b8a1372540f07234e48f33c68e215ce7e6ef5da75b", func := "loop.example/flashfiles/laws.FnHeatKind", spec := "fnHeatKind", apart := false }
def FnHeatKindSaid : Prop := fnHeatKindRow.holds Try.pinned (OpenSpec.ofChange fnHeatKindSpec)

/-- ITS FALSE NEIGHBOUR: 'it returns false'. Refute it at one input. -/
def fnHeatKindWrong : ChangeSpec := { name := "fnHeatKind", fn := fun _ => fun
  | [d] => { results := [.lit (.bool false)], args := [d] }
  | _ => none }
def FnHeatKindWrongFalsely : Prop := fnHeatKindRow.holds Try.pinned (OpenSpec.ofChange fnHeatKindWrong)

/-- 'laws.FnHeatRun': WHATEVER THE INPUT: true; the input reads as it did. -/
def fnHeatRunSpec : ChangeSpec := { name := "fnHeatRun", fn := fun _ => fun
  | [d] => { results := [.lit (.bool true)], args := [d] }
  | _ => none }
def fnHeatRunRow : OpenClaim := { program := "ytdblfcmmeggpdaa", sum := "5e7163c504de57ee44e567b8a1372540f07234e48f33c68e215ce7e6ef5da75b", func := "loop.example/flashfiles/laws.FnHeatRun", spec := "fnHeatRun", apart := false }
def FnHeatRunSaid : Prop := fnHeatRunRow.holds Try.pinned (OpenSpec.ofChange fnHeatRunSpec)

/-- ITS FALSE NEIGHBOUR: 'it returns false'. Refute it at one input. -/
def fnHeatRunWrong : ChangeSpec := { name := "fnHeatRun", fn := fun _ => fun
  | [d] => { results := [.lit (.bool false)], args := [d] }
  | _ => none }
def FnHeatRunWrongFalsely : Prop := fnHeatRunRow.holds Try.pinned (OpenSpec.ofChange fnHeatRunWrong)

/-- 'laws.FnCoolsIn': WHATEVER THE INPUT: true; the input reads as it did. -/
def fnCoolsInSpec : ChangeSpec := { name := "fnCoolsIn", fn := fun _ => fun
  | [d] => { results := [.lit (.bool true)], args := [d] }
  | _ => none }
def fnCoolsInRow : OpenClaim := { program := "ytdblfcmmeggpdaa", sum := "5e7163c504de57ee44e567b8a1372540f07234e48f33c68e215ce7e6ef5da75b", func := "loop.example/flashfiles/laws.FnCoolsIn", spec := "fnCoolsIn", apart := false }
def FnCoolsInSaid : Prop := fnCoolsInRow.holds Try.pinned (OpenSpec.ofChange fnCoolsInSpec)

/-- ITS FALSE NEIGHBOUR: 'it returns false'. Refute it at one input. -/
def fnCoolsInWrong : ChangeSpec := { name := "fnCoolsIn", fn := fun _ => fun
  | [d] => { results := [.lit (.bool false)], args := [d] }
  | _ => none }
def FnCoolsInWrongFalsely : Prop := fnCoolsInRow.holds Try.pinned (OpenSpec.ofChange fnCoolsInWrong)

/-- 'laws.FnExactSparesValid': WHATEVER THE INPUT: true; the input reads as it did. -/
def fnExactSparesValidSpec : ChangeSpec := { name := "fnExactSparesValid", fn := fun _ => fun
  | [d] => { results := [.lit (.bool true)], args := [d] }
  | _ => none }
def fnExactSparesValidRow : OpenClaim := { program := "ytdblfcmmeggpdaa", sum := "5e7163c504de57ee44e567b8a1372540f07234e48f33c68e215ce7e6ef5da75b", func := "loop.example/flashfiles/laws.FnExactSparesValid", spec := "fnExactSparesValid", apart := false }
def FnExactSparesValidSaid : Prop := fnExactSparesValidRow.holds Try.pinned (OpenSpec.ofChange fnExactSparesValidSpec)

/-- ITS FALSE NEIGHBOUR: 'it returns false'. Refute it at one input. -/
def fnExactSparesValidWrong : ChangeSpec := { name := "fnExactSparesValid", fn := fun _ => fun
  | [d] => { results := [.lit (.bool false)], args := [d] }
  | _ => none }
def FnExactSparesValidWrongFalsely : Prop := fnExactSparesValidRow.holds Try.pinned (OpenSpec.ofChange fnExactSparesValidWrong)

/-- 'laws.FnSparesValid': WHATEVER THE INPUT: true; the input reads as it did. -/
def fnSparesValidSpec : ChangeSpec := { name := "fnSparesValid", fn := fun _ => fun
  | [d] => { results := [.lit (.bool true)], args := [d] }
  | _ => none }
def fnSparesValidRow : OpenClaim := { program := "ytdblfcmmeggpdaa", sum := "5e7163c504de57ee44e567b8a1372540f07234e48f33c68e215ce7e6ef5da75b", func := "loop.example/flashfiles/laws.FnSparesValid", spec := "fnSparesValid", apart := false }
def FnSparesValidSaid : Prop := fnSparesValidRow.holds Try.pinned (OpenSpec.ofChange fnSparesValidSpec)

/-- ITS FALSE NEIGHBOUR: 'it returns false'. Refute it at one input. -/
def fnSparesValidWrong : ChangeSpec := { name := "fnSparesValid", fn := fun _ => fun
  | [d] => { results := [.lit (.bool false)], args := [d] }
  | _ => none }
def FnSparesValidWrongFalsely : Prop := fnSparesValidRow.holds Try.pinned (OpenSpec.ofChange fnSparesValidWrong)

/-- 'laws.FnExactSpareOf': WHATEVER THE INPUT: true; the input reads as it did. -/
def fnExactSpareOfSpec : ChangeSpec := { name := "fnExactSpareOf", fn := fun _ => fun
  | [d1, d2] => { results := [.lit (.bool true)], args := [d1, d2] }
  | _ => none }
def fnExactSpareOfRow : OpenClaim := { program := "ytdblfcmmeggpdaa", sum := "5e7163c504de57ee44e567b8a1372540f07234e48f33c68e215ce7e6ef5da75b", func := "loop.example/flashfiles/laws.FnExactSpareOf", spec := "fnExactSpareOf", apart := false }
def FnExactSpareOfSaid : Prop := fnExactSpareOfRow.holds Try.pinned (OpenSpec.ofChange fnExactSpareOfSpec)

/-- ITS FALSE NEIGHBOUR: 'it returns false'. Refute it at one input. -/
def fnExactSpareOfWrong : ChangeSpec := { name := "fnExactSpareOf", fn := fun _ => fun
  | [d1, d2] => { results := [.lit (.bool false)], args := [d1, d2] }
  | _ => none }
def FnExactSpareOfWrongFalsely : Prop := fnExactSpareOfRow.holds Try.pinned (OpenSpec.ofChange fnExactSpareOfWrong)

/-- 'laws.FnSpareOf': WHATEVER THE INPUT: true; the input reads as it did. -/
def fnSpareOfSpec : ChangeSpec := { name := "fnSpareOf", fn := fun _ => fun
  | [d] => { results := [.lit (.bool true)], args := [d] }
  | _ => none }
def fnSpareOfRow : OpenClaim := { program := "ytdblfcmmeggpdaa", sum := "5e7163c504de57ee44e567b8a1372540f07234e48f33c68e215ce7e6ef5da75b", func := "loop.example/flashfiles/laws.FnSpareOf", spec := "fnSpareOf", apart := false }
def FnSpareOfSaid : Prop := fnSpareOfRow.holds Try.pinned (OpenSpec.ofChange fnSpareOfSpec)

/-- ITS FALSE NEIGHBOUR: 'it returns false'. Refute it at one input. -/
def fnSpareOfWrong : ChangeSpec := { name := "fnSpareOf", fn := fun _ => fun
  | [d] => { results := [.lit (.bool false)], args := [d] }
  | _ => none }
def FnSpareOfWrongFalsely : Prop := fnSpareOfRow.holds Try.pinned (OpenSpec.ofChange fnSpareOfWrong)

/- THE SECOND FORM. 'bulk': how many values and letters a reading holds, each counted each time it is reached (what is shared counts as often as it is met; a slice's spare places count too). A statement '..UptoSaid' is the law's where the arguments, and the package variables that the reading takes, are together of bulk at most 1048576: NARROWER than '..Said'. Prove '..Said' where nothing that the law and all that it calls make is longer than what came in: it says more and counts as full. Else prove '..UptoSaid'. A law counts once. -/
mutual
def uptoBulk {H : Type} : DataW H → Nat
  | .lit (.string bytes) => bytes.length + 1
  | .lit _ => 1
  | .nil => 1
  | .ptr d => uptoBulk d + 1
  | .slice elems spare => uptoBulkAll elems + uptoBulkAll spare + 1
  | .agg parts => uptoBulkAll parts + 1
  | .iface _ d => uptoBulk d + 1
  | .map entries => uptoBulkEntries entries + 1
  | .held _ => 1
def uptoBulkAll {H : Type} : List (DataW H) → Nat
  | [] => 0
  | d :: r => uptoBulk d + uptoBulkAll r
def uptoBulkEntries {H : Type} : List (Lit × DataW H) → Nat
  | [] => 0
  | x :: r => uptoBulkEntry x + uptoBulkEntries r
def uptoBulkEntry {H : Type} : Lit × DataW H → Nat
  | (.string bytes, d) => bytes.length + uptoBulk d + 1
  | (_, d) => uptoBulk d + 1
 end
def uptoSmall : (H : Type) → List (DataW H) → Bool := fun _ ds => decide (uptoBulkAll ds ≤ 1048576)
def OpenSpec.upto (s : _root_.Go.ChangeSpec) : _root_.Go.OpenSpec := { _root_.Go.OpenSpec.ofChange s with cond := some uptoSmall }

/-- 'laws.FnExactHeatStep', WHERE WHAT IT READS IS OF BULK AT MOST 1048576: true; the input reads as it did. -/
def fnExactHeatStepUptoRow : OpenClaim := { program := "ytdblfcmmeggpdaa", sum := "5e7163c504de57ee44e567b8a1372540f07234e48f33c68e215ce7e6ef5da75b", func := "loop.example/flashfiles/laws.FnExactHeatStep", spec := "fnExactHeatStep", apart := false, narrowed := true }
def FnExactHeatStepUptoSaid : Prop := fnExactHeatStepUptoRow.holds Try.pinned (OpenSpec.upto fnExactHeatStepSpec)

/-- 'laws.FnExactHeatKind', WHERE WHAT IT READS IS OF BULK AT MOST 1048576: true; the input reads as it did. -/
def fnExactHeatKindUptoRow : OpenClaim := { program := "ytdblfcmmeggpdaa", sum := "5e7163c504de57ee44e567b8a1372540f07234e48f33c68e215ce7e6ef5da75b", func := "loop.example/flashfiles/laws.FnExactHeatKind", spec := "fnExactHeatKind", apart := false, narrowed := true }
def FnExactHeatKindUptoSaid : Prop := fnExactHeatKindUptoRow.holds Try.pinned (OpenSpec.upto fnExactHeatKindSpec)

/-- 'laws.FnHeatStep', WHERE WHAT IT READS IS OF BULK AT MOST 1048576: true; the input reads as it did. -/
def fnHeatStepUptoRow : OpenClaim := { program := "ytdblfcmmeggpdaa", sum := "5e7163c504de57ee44e567b8a1372540f07234e48f33c68e215ce7e6ef5da75b", func := "loop.example/flashfiles/laws.FnHeatStep", spec := "fnHeatStep", apart := false, narrowed := true }
def FnHeatStepUptoSaid : Prop := fnHeatStepUptoRow.holds Try.pinned (OpenSpec.upto fnHeatStepSpec)

/-- 'laws.FnExactHeatRun', WHERE WHAT IT READS IS OF BULK AT MOST 1048576: true; the input reads as it did. -/
def fnExactHeatRunUptoRow : OpenClaim := { program := "ytdblfcmmeggpdaa", sum := "5e7163c504de57ee44e567b8a1372540f07234e48f33c68e215ce7e6ef5da75b", func := "loop.example/flashfiles/laws.FnExactHeatRun", spec := "fnExactHeatRun", apart := false, narrowed := true }
def FnExactHeatRunUptoSaid : Prop := fnExactHeatRunUptoRow.holds Try.pinned (OpenSpec.upto fnExactHeatRunSpec)

/-- 'laws.FnExactCoolsIn', WHERE WHAT IT READS IS OF BULK AT MOST 1048576: true; the input reads as it did. -/
def fnExactCoolsInUptoRow : OpenClaim := { program := "ytdblfcmmeggpdaa", sum := "5e7163c504de57ee44e567b8a1372540f07234e48f33c68e215ce7e6ef5da75b", func := "loop.example/flashfiles/laws.FnExactCoolsIn", spec := "fnExactCoolsIn", apart := false, narrowed := true }
def FnExactCoolsInUptoSaid : Prop := fnExactCoolsInUptoRow.holds Try.pinned (OpenSpec.upto fnExactCoolsInSpec)

/-- 'laws.FnHeatKind', WHERE WHAT IT READS IS OF BULK AT MOST 1048576: true; the input reads as it did. -/
def fnHeatKindUptoRow : OpenClaim := { program := "ytdblfcmmeggpdaa", sum := "5e7163c504de57ee44e567b8a1372540f07234e48f33c68e215ce7e6ef5da75b", func := "loop.example/flashfiles/laws.FnHeatKind", spec := "fnHeatKind", apart := false, narrowed := true }
def FnHeatKindUptoSaid : Prop := fnHeatKindUptoRow.holds Try.pinned (OpenSpec.upto fnHeatKindSpec)

/-- 'laws.FnHeatRun', WHERE WHAT IT READS IS OF BULK AT MOST 1048576: true; the input reads as it did. -/
def fnHeatRunUptoRow : OpenClaim := { program := "ytdblfcmmeggpdaa", sum := "5e7163c504de57ee44e567b8a1372540f07234e48f33c68e215ce7e6ef5da75b", func := "loop.example/flashfiles/laws.FnHeatRun", spec := "fnHeatRun", apart := false, narrowed := true }
def FnHeatRunUptoSaid : Prop := fnHeatRunUptoRow.holds Try.pinned (OpenSpec.upto fnHeatRunSpec)

/-- 'laws.FnCoolsIn', WHERE WHAT IT READS IS OF BULK AT MOST 1048576: true; the input reads as it did. -/
def fnCoolsInUptoRow : OpenClaim := { program := "ytdblfcmmeggpdaa", sum := "5e7163c504de57ee44e567b8a1372540f07234e48f33c68e215ce7e6ef5da75b", func := "loop.example/flashfiles/laws.FnCoolsIn", spec := "fnCoolsIn", apart := false, narrowed := true }
def FnCoolsInUptoSaid : Prop := fnCoolsInUptoRow.holds Try.pinned (OpenSpec.upto fnCoolsInSpec)

/-- 'laws.FnExactSparesValid', WHERE WHAT IT READS IS OF BULK AT MOST 1048576: true; the input reads as it did. -/
def fnExactSparesValidUptoRow : OpenClaim := { program := "ytdblfcmmeggpdaa", sum := "5e7163c504de57ee44e567b8a1372540f07234e48f33c68e215ce7e6ef5da75b", func := "loop.example/flashfiles/laws.FnExactSparesValid", spec := "fnExactSparesValid", apart := false, narrowed := true }
def FnExactSparesValidUptoSaid : Prop := fnExactSparesValidUptoRow.holds Try.pinned (OpenSpec.upto fnExactSparesValidSpec)

/-- 'laws.FnSparesValid', WHERE WHAT IT READS IS OF BULK AT MOST 1048576: true; the input reads as it did. -/
def fnSparesValidUptoRow : OpenClaim := { program := "ytdblfcmmeggpdaa", sum := "5e7163c504de57ee44e567b8a1372540f07234e48f33c68e215ce7e6ef5da75b", func := "loop.example/flashfiles/laws.FnSparesValid", spec := "fnSparesValid", apart := false, narrowed := true }
def FnSparesValidUptoSaid : Prop := fnSparesValidUptoRow.holds Try.pinned (OpenSpec.upto fnSparesValidSpec)

/-- 'laws.FnExactSpareOf', WHERE WHAT IT READS IS OF BULK AT MOST 1048576: true; the input reads as it did. -/
def fnExactSpareOfUptoRow : OpenClaim := { program := "ytdblfcmmeggpdaa", sum := "5e7163c504de57ee44e567b8a1372540f07234e48f33c68e215ce7e6ef5da75b", func := "loop.example/flashfiles/laws.FnExactSpareOf", spec := "fnExactSpareOf", apart := false, narrowed := true }
def FnExactSpareOfUptoSaid : Prop := fnExactSpareOfUptoRow.holds Try.pinned (OpenSpec.upto fnExactSpareOfSpec)

/-- 'laws.FnSpareOf', WHERE WHAT IT READS IS OF BULK AT MOST 1048576: true; the input reads as it did. -/
def fnSpareOfUptoRow : OpenClaim := { program := "ytdblfcmmeggpdaa", sum := "5e7163c504de57ee44e567b8a1372540f07234e48f33c68e215ce7e6ef5da75b", func := "loop.example/flashfiles/laws.FnSpareOf", spec := "fnSpareOf", apart := false, narrowed := true }
def FnSpareOfUptoSaid : Prop := fnSpareOfUptoRow.holds Try.pinned (OpenSpec.upto fnSpareOfSpec)

end Rows
end Go.Proofs.Ytdblfcmmeggpdaa
