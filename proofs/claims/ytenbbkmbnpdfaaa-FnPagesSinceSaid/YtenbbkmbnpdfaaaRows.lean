/-
  No cell of these rows narrows 'for every input' (looked for: loops, veiled, ifaces, maps, wideKeys, modest, calm, conditions, laid).
  DERIVED. THE GIVEN ROWS OF THIS SEAT. 12 by the template 'for every input the law returns true; each argument reads behind the call as it read before'; 0 by the template 'total and deterministic' (their statements: YtenbbkmbnpdfaaaTotals.lean).
  GIVEN WITH THE SEED: the statements are not yours to turn. If you find one false, say at which input.
  Laid BY PROGRAM, IN A SANDBOX (cutbox-rows.mjs): the forced cells as the released guide's own fill.sh prints them over the translation f715e214dd5d8a47… (all of the seat's roots in one cut). By AI agents, Wed Nov 11 2026. No macro, syntax, notation, axiom, sorry.
-/
import Derived.Test.YtenbbkmbnpdfaaaChecked
import GoSem.Claim
import GoSem.ClaimJoined
import GoSem.ClaimMapViews
import Derived.JoinedTies
import Derived.KernelRfl
namespace Go.Proofs.Ytenbbkmbnpdfaaa
/- THE CELL 'sum', in the pinned program and in every row, IS THE sha256 OF THE DUMP (.gsa) THAT YtenbbkmbnpdfaaaProg.lean LOADS. Nothing in Lean hashes anything: it is a label: what it is worth is what the hold of that sum in a sandbox is worth. -/
noncomputable def Try.pinned : Pinned := { name := "ytenbbkmbnpdfaaa", sum := "f715e214dd5d8a47ed567c35fc5685df4cfcb8d9a439967106bfdf9ff3bf9d70", checked := Try.checked }
namespace Rows
def none {H : Type} : Left H := { results := [], args := [] }

/-- 'laws.FnNewDevice': WHATEVER THE INPUT: true; the input reads as it did. -/
def fnNewDeviceSpec : ChangeSpec := { name := "fnNewDevice", fn := fun _ => fun
  | [d] => { results := [.lit (.bool true)], args := [d] }
  | _ => none }
def fnNewDeviceRow : OpenClaim := { program := "ytenbbkmbnpdfaaa", sum := "f715e214dd5d8a47ed567c35fc5685df4cfcb8d9a439967106bfdf9ff3bf9d70", func := "loop.example/flashfiles/laws.FnNewDevice", spec := "fnNewDevice", apart := false }
def FnNewDeviceSaid : Prop := fnNewDeviceRow.holds Try.pinned (OpenSpec.ofChange fnNewDeviceSpec)

/-- ITS FALSE NEIGHBOUR: 'it returns false'. Refute it at one input. -/
def fnNewDeviceWrong : ChangeSpec := { name := "fnNewDevice", fn := fun _ => fun
  | [d] => { results := [.lit (.bool false)], args := [d] }
  | _ => none }
def FnNewDeviceWrongFalsely : Prop := fnNewDeviceRow.holds Try.pinned (OpenSpec.ofChange fnNewDeviceWrong)

/-- 'laws.FnExactWearTotal': WHATEVER THE INPUT: true; the input reads as it did. -/
def fnExactWearTotalSpec : ChangeSpec := { name := "fnExactWearTotal", fn := fun _ => fun
  | [d] => { results := [.lit (.bool true)], args := [d] }
  | _ => none }
def fnExactWearTotalRow : OpenClaim := { program := "ytenbbkmbnpdfaaa", sum := "f715e214dd5d8a47ed567c35fc5685df4cfcb8d9a439967106bfdf9ff3bf9d70", func := "loop.example/flashfiles/laws.FnExactWearTotal", spec := "fnExactWearTotal", apart := false }
def FnExactWearTotalSaid : Prop := fnExactWearTotalRow.holds Try.pinned (OpenSpec.ofChange fnExactWearTotalSpec)

/-- ITS FALSE NEIGHBOUR: 'it returns false'. Refute it at one input. -/
def fnExactWearTotalWrong : ChangeSpec := { name := "fnExactWearTotal", fn := fun _ => fun
  | [d] => { results := [.lit (.bool false)], args := [d] }
  | _ => none }
def FnExactWearTotalWrongFalsely : Prop := fnExactWearTotalRow.holds Try.pinned (OpenSpec.ofChange fnExactWearTotalWrong)

/-- 'laws.FnExactWearSpread': WHATEVER THE INPUT: true; the input reads as it did. -/
def fnExactWearSpreadSpec : ChangeSpec := { name := "fnExactWearSpread", fn := fun _ => fun
  | [d] => { results := [.lit (.bool true)], args := [d] }
  | _ => none }
def fnExactWearSpreadRow : OpenClaim := { program := "ytenbbkmbnpdfaaa", sum := "f715e214dd5d8a47ed567c35fc5685df4cfcb8d9a439967106bfdf9ff3bf9d70", func := "loop.example/flashfiles/laws.FnExactWearSpread", spec := "fnExactWearSpread", apart := false }
def FnExactWearSpreadSaid : Prop := fnExactWearSpreadRow.holds Try.pinned (OpenSpec.ofChange fnExactWearSpreadSpec)

/-- ITS FALSE NEIGHBOUR: 'it returns false'. Refute it at one input. -/
def fnExactWearSpreadWrong : ChangeSpec := { name := "fnExactWearSpread", fn := fun _ => fun
  | [d] => { results := [.lit (.bool false)], args := [d] }
  | _ => none }
def FnExactWearSpreadWrongFalsely : Prop := fnExactWearSpreadRow.holds Try.pinned (OpenSpec.ofChange fnExactWearSpreadWrong)

/-- 'laws.FnExactLastStamp': WHATEVER THE INPUT: true; the input reads as it did. -/
def fnExactLastStampSpec : ChangeSpec := { name := "fnExactLastStamp", fn := fun _ => fun
  | [d] => { results := [.lit (.bool true)], args := [d] }
  | _ => none }
def fnExactLastStampRow : OpenClaim := { program := "ytenbbkmbnpdfaaa", sum := "f715e214dd5d8a47ed567c35fc5685df4cfcb8d9a439967106bfdf9ff3bf9d70", func := "loop.example/flashfiles/laws.FnExactLastStamp", spec := "fnExactLastStamp", apart := false }
def FnExactLastStampSaid : Prop := fnExactLastStampRow.holds Try.pinned (OpenSpec.ofChange fnExactLastStampSpec)

/-- ITS FALSE NEIGHBOUR: 'it returns false'. Refute it at one input. -/
def fnExactLastStampWrong : ChangeSpec := { name := "fnExactLastStamp", fn := fun _ => fun
  | [d] => { results := [.lit (.bool false)], args := [d] }
  | _ => none }
def FnExactLastStampWrongFalsely : Prop := fnExactLastStampRow.holds Try.pinned (OpenSpec.ofChange fnExactLastStampWrong)

/-- 'laws.FnExactWearVictim': WHATEVER THE INPUT: true; the input reads as it did. -/
def fnExactWearVictimSpec : ChangeSpec := { name := "fnExactWearVictim", fn := fun _ => fun
  | [d1, d2] => { results := [.lit (.bool true)], args := [d1, d2] }
  | _ => none }
def fnExactWearVictimRow : OpenClaim := { program := "ytenbbkmbnpdfaaa", sum := "f715e214dd5d8a47ed567c35fc5685df4cfcb8d9a439967106bfdf9ff3bf9d70", func := "loop.example/flashfiles/laws.FnExactWearVictim", spec := "fnExactWearVictim", apart := false }
def FnExactWearVictimSaid : Prop := fnExactWearVictimRow.holds Try.pinned (OpenSpec.ofChange fnExactWearVictimSpec)

/-- ITS FALSE NEIGHBOUR: 'it returns false'. Refute it at one input. -/
def fnExactWearVictimWrong : ChangeSpec := { name := "fnExactWearVictim", fn := fun _ => fun
  | [d1, d2] => { results := [.lit (.bool false)], args := [d1, d2] }
  | _ => none }
def FnExactWearVictimWrongFalsely : Prop := fnExactWearVictimRow.holds Try.pinned (OpenSpec.ofChange fnExactWearVictimWrong)

/-- 'laws.FnWearTotal': WHATEVER THE INPUT: true; the input reads as it did. -/
def fnWearTotalSpec : ChangeSpec := { name := "fnWearTotal", fn := fun _ => fun
  | [d] => { results := [.lit (.bool true)], args := [d] }
  | _ => none }
def fnWearTotalRow : OpenClaim := { program := "ytenbbkmbnpdfaaa", sum := "f715e214dd5d8a47ed567c35fc5685df4cfcb8d9a439967106bfdf9ff3bf9d70", func := "loop.example/flashfiles/laws.FnWearTotal", spec := "fnWearTotal", apart := false }
def FnWearTotalSaid : Prop := fnWearTotalRow.holds Try.pinned (OpenSpec.ofChange fnWearTotalSpec)

/-- ITS FALSE NEIGHBOUR: 'it returns false'. Refute it at one input. -/
def fnWearTotalWrong : ChangeSpec := { name := "fnWearTotal", fn := fun _ => fun
  | [d] => { results := [.lit (.bool false)], args := [d] }
  | _ => none }
def FnWearTotalWrongFalsely : Prop := fnWearTotalRow.holds Try.pinned (OpenSpec.ofChange fnWearTotalWrong)

/-- 'laws.FnWearSpread': WHATEVER THE INPUT: true; the input reads as it did. -/
def fnWearSpreadSpec : ChangeSpec := { name := "fnWearSpread", fn := fun _ => fun
  | [d] => { results := [.lit (.bool true)], args := [d] }
  | _ => none }
def fnWearSpreadRow : OpenClaim := { program := "ytenbbkmbnpdfaaa", sum := "f715e214dd5d8a47ed567c35fc5685df4cfcb8d9a439967106bfdf9ff3bf9d70", func := "loop.example/flashfiles/laws.FnWearSpread", spec := "fnWearSpread", apart := false }
def FnWearSpreadSaid : Prop := fnWearSpreadRow.holds Try.pinned (OpenSpec.ofChange fnWearSpreadSpec)

/-- ITS FALSE NEIGHBOUR: 'it returns false'. Refute it at one input. -/
def fnWearSpreadWrong : ChangeSpec := { name := "fnWearSpread", fn := fun _ => fun
  | [d] => { results := [.lit (.bool false)], args := [d] }
  | _ => none }
def FnWearSpreadWrongFalsely : Prop := fnWearSpreadRow.holds Try.pinned (OpenSpec.ofChange fnWearSpreadWrong)

/-- 'laws.FnWearVictim': WHATEVER THE INPUT: true; the input reads as it did. -/
def fnWearVictimSpec : ChangeSpec := { name := "fnWearVictim", fn := fun _ => fun
  | [d] => { results := [.lit (.bool true)], args := [d] }
  | _ => none }
def fnWearVictimRow : OpenClaim := { program := "ytenbbkmbnpdfaaa", sum := "f715e214dd5d8a47ed567c35fc5685df4cfcb8d9a439967106bfdf9ff3bf9d70", func := "loop.example/flashfiles/laws.FnWearVictim", spec := "fnWearVictim", apart := false }
def FnWearVictimSaid : Prop := fnWearVictimRow.holds Try.pinned (OpenSpec.ofChange fnWearVictimSpec)

/-- ITS FALSE NEIGHBOUR: 'it returns false'. Refute it at one input. -/
def fnWearVictimWrong : ChangeSpec := { name := "fnWearVictim", fn := fun _ => fun
  | [d] => { results := [.lit (.bool false)], args := [d] }
  | _ => none }
def FnWearVictimWrongFalsely : Prop := fnWearVictimRow.holds Try.pinned (OpenSpec.ofChange fnWearVictimWrong)

/-- 'laws.FnEraseAt': WHATEVER THE INPUT: true; the input reads as it did. -/
def fnEraseAtSpec : ChangeSpec := { name := "fnEraseAt", fn := fun _ => fun
  | [d] => { results := [.lit (.bool true)], args := [d] }
  | _ => none }
def fnEraseAtRow : OpenClaim := { program := "ytenbbkmbnpdfaaa", sum := "f715e214dd5d8a47ed567c35fc5685df4cfcb8d9a439967106bfdf9ff3bf9d70", func := "loop.example/flashfiles/laws.FnEraseAt", spec := "fnEraseAt", apart := false }
def FnEraseAtSaid : Prop := fnEraseAtRow.holds Try.pinned (OpenSpec.ofChange fnEraseAtSpec)

/-- ITS FALSE NEIGHBOUR: 'it returns false'. Refute it at one input. -/
def fnEraseAtWrong : ChangeSpec := { name := "fnEraseAt", fn := fun _ => fun
  | [d] => { results := [.lit (.bool false)], args := [d] }
  | _ => none }
def FnEraseAtWrongFalsely : Prop := fnEraseAtRow.holds Try.pinned (OpenSpec.ofChange fnEraseAtWrong)

/-- 'laws.FnExactPagesSince': WHATEVER THE INPUT: true; the input reads as it did. -/
def fnExactPagesSinceSpec : ChangeSpec := { name := "fnExactPagesSince", fn := fun _ => fun
  | [d1, d2] => { results := [.lit (.bool true)], args := [d1, d2] }
  | _ => none }
def fnExactPagesSinceRow : OpenClaim := { program := "ytenbbkmbnpdfaaa", sum := "f715e214dd5d8a47ed567c35fc5685df4cfcb8d9a439967106bfdf9ff3bf9d70", func := "loop.example/flashfiles/laws.FnExactPagesSince", spec := "fnExactPagesSince", unfollowed := true, recurses := true, apart := false }
def FnExactPagesSinceSaid : Prop := fnExactPagesSinceRow.holds Try.pinned (OpenSpec.ofChange fnExactPagesSinceSpec)

/-- ITS FALSE NEIGHBOUR: 'it returns false'. Refute it at one input. -/
def fnExactPagesSinceWrong : ChangeSpec := { name := "fnExactPagesSince", fn := fun _ => fun
  | [d1, d2] => { results := [.lit (.bool false)], args := [d1, d2] }
  | _ => none }
def FnExactPagesSinceWrongFalsely : Prop := fnExactPagesSinceRow.holds Try.pinned (OpenSpec.ofChange fnExactPagesSinceWrong)

/-- 'laws.FnLastStamp': WHATEVER THE INPUT: true; the input reads as it did. -/
def fnLastStampSpec : ChangeSpec := { name := "fnLastStamp", fn := fun _ => fun
  | [d] => { results := [.lit (.bool true)], args := [d] }
  | _ => none }
def fnLastStampRow : OpenClaim := { program := "ytenbbkmbnpdfaaa", sum := "f715e214dd5d8a47ed567c35fc5685df4cfcb8d9a439967106bfdf9ff3bf9d70", func := "loop.example/flashfiles/laws.FnLastStamp", spec := "fnLastStamp", unfollowed := true, recurses := true, apart := false }
def FnLastStampSaid : Prop := fnLastStampRow.holds Try.pinned (OpenSpec.ofChange fnLastStampSpec)

/-- ITS FALSE NEIGHBOUR: 'it returns false'. Refute it at one input. -/
def fnLastStampWrong : ChangeSpec := { name := "fnLastStamp", fn := fun _ => fun
  | [d] => { results := [.lit (.bool false)], args := [d] }
  | _ => none }
def FnLastStampWrongFalsely : Prop := fnLastStampRow.holds Try.pinned (OpenSpec.ofChange fnLastStampWrong)

/-- 'laws.FnPagesSince': WHATEVER THE INPUT: true; the input reads as it did. -/
def fnPagesSinceSpec : ChangeSpec := { name := "fnPagesSince", fn := fun _ => fun
  | [d] => { results := [.lit (.bool true)], args := [d] }
  | _ => none }
def fnPagesSinceRow : OpenClaim := { program := "ytenbbkmbnpdfaaa", sum := "f715e214dd5d8a47ed567c35fc5685df4cfcb8d9a439967106bfdf9ff3bf9d70", func := "loop.example/flashfiles/laws.FnPagesSince", spec := "fnPagesSince", unfollowed := true, recurses := true, apart := false }
def FnPagesSinceSaid : Prop := fnPagesSinceRow.holds Try.pinned (OpenSpec.ofChange fnPagesSinceSpec)

/-- ITS FALSE NEIGHBOUR: 'it returns false'. Refute it at one input. -/
def fnPagesSinceWrong : ChangeSpec := { name := "fnPagesSince", fn := fun _ => fun
  | [d] => { results := [.lit (.bool false)], args := [d] }
  | _ => none }
def FnPagesSinceWrongFalsely : Prop := fnPagesSinceRow.holds Try.pinned (OpenSpec.ofChange fnPagesSinceWrong)

/- THE SECOND FORM. 'bulk': how many values and letters a reading holds, each counted each time it is reached (what is shared counts as often as it is met; a slice's spare places count too). A statement '..UptoSaid' is the law's where the arguments, and the package variables that the reading takes, are together of bulk at most 1048576: NARROWER than '..Said'. Prove '..Said' where nothing that the law and all that it calls make is longer than what came in: it says more and counts as full. Else prove '..UptoSaid'. A law counts once. -/
mutual
def uptoBulk {H : Type} : DataW H → Nat
  | .lit (.string bytes) => bytes.length + 1
  | .lit _ => 1
  | .nil => 1
  | .ptr d => uptoBulk d + 1
  | .slice elems spare => uptoBulkAll elems + uptoBulkAll spare + 1
  | .agg parts => uptoBulkAll parts + 1
  | .iface _ d => uptoBulk d + 1
  | .map entries => uptoBulkEntries entries + 1
  | .held _ => 1
def uptoBulkAll {H : Type} : List (DataW H) → Nat
  | [] => 0
  | d :: r => uptoBulk d + uptoBulkAll r
def uptoBulkEntries {H : Type} : List (Lit × DataW H) → Nat
  | [] => 0
  | x :: r => uptoBulkEntry x + uptoBulkEntries r
def uptoBulkEntry {H : Type} : Lit × DataW H → Nat
  | (.string bytes, d) => bytes.length + uptoBulk d + 1
  | (_, d) => uptoBulk d + 1
 end
def uptoSmall : (H : Type) → List (DataW H) → Bool := fun _ ds => decide (uptoBulkAll ds ≤ 1048576)
def OpenSpec.upto (s : _root_.Go.ChangeSpec) : _root_.Go.OpenSpec := { _root_.Go.OpenSpec.ofChange s with cond := some uptoSmall }

/-- 'laws.FnNewDevice', WHERE WHAT IT READS IS OF BULK AT MOST 1048576: true; the input reads as it did. -/
def fnNewDeviceUptoRow : OpenClaim := { program := "ytenbbkmbnpdfaaa", sum := "f715e214dd5d8a47ed567c35fc5685df4cfcb8d9a439967106bfdf9ff3bf9d70", func := "loop.example/flashfiles/laws.FnNewDevice", spec := "fnNewDevice", apart := false, narrowed := true }
def FnNewDeviceUptoSaid : Prop := fnNewDeviceUptoRow.holds Try.pinned (OpenSpec.upto fnNewDeviceSpec)

/-- 'laws.FnExactWearTotal', WHERE WHAT IT READS IS OF BULK AT MOST 1048576: true; the input reads as it did. -/
def fnExactWearTotalUptoRow : OpenClaim := { program := "ytenbbkmbnpdfaaa", sum := "f715e214dd5d8a47ed567c35fc5685df4cfcb8d9a439967106bfdf9ff3bf9d70", func := "loop.example/flashfiles/laws.FnExactWearTotal", spec := "fnExactWearTotal", apart := false, narrowed := true }
def FnExactWearTotalUptoSaid : Prop := fnExactWearTotalUptoRow.holds Try.pinned (OpenSpec.upto fnExactWearTotalSpec)

/-- 'laws.FnExactWearSpread', WHERE WHAT IT READS IS OF BULK AT MOST 1048576: true; the input reads as it did. -/
def fnExactWearSpreadUptoRow : OpenClaim := { program := "ytenbbkmbnpdfaaa", sum := "f715e214dd5d8a47ed567c35fc5685df4cfcb8d9a439967106bfdf9ff3bf9d70", func := "loop.example/flashfiles/laws.FnExactWearSpread", spec := "fnExactWearSpread", apart := false, narrowed := true }
def FnExactWearSpreadUptoSaid : Prop := fnExactWearSpreadUptoRow.holds Try.pinned (OpenSpec.upto fnExactWearSpreadSpec)

/-- 'laws.FnExactLastStamp', WHERE WHAT IT READS IS OF BULK AT MOST 1048576: true; the input reads as it did. -/
def fnExactLastStampUptoRow : OpenClaim := { program := "ytenbbkmbnpdfaaa", sum := "f715e214dd5d8a47ed567c35fc5685df4cfcb8d9a439967106bfdf9ff3bf9d70", func := "loop.example/flashfiles/laws.FnExactLastStamp", spec := "fnExactLastStamp", apart := false, narrowed := true }
def FnExactLastStampUptoSaid : Prop := fnExactLastStampUptoRow.holds Try.pinned (OpenSpec.upto fnExactLastStampSpec)

/-- 'laws.FnExactWearVictim', WHERE WHAT IT READS IS OF BULK AT MOST 1048576: true; the input reads as it did. -/
def fnExactWearVictimUptoRow : OpenClaim := { program := "ytenbbkmbnpdfaaa", sum := "f715e214dd5d8a47ed567c35fc5685df4cfcb8d9a439967106bfdf9ff3bf9d70", func := "loop.example/flashfiles/laws.FnExactWearVictim", spec := "fnExactWearVictim", apart := false, narrowed := true }
def FnExactWearVictimUptoSaid : Prop := fnExactWearVictimUptoRow.holds Try.pinned (OpenSpec.upto fnExactWearVictimSpec)

/-- 'laws.FnWearTotal', WHERE WHAT IT READS IS OF BULK AT MOST 1048576: true; the input reads as it did. -/
def fnWearTotalUptoRow : OpenClaim := { program := "ytenbbkmbnpdfaaa", sum := "f715e214dd5d8a47ed567c35fc5685df4cfcb8d9a439967106bfdf9ff3bf9d70", func := "loop.example/flashfiles/laws.FnWearTotal", spec := "fnWearTotal", apart := false, narrowed := true }
def FnWearTotalUptoSaid : Prop := fnWearTotalUptoRow.holds Try.pinned (OpenSpec.upto fnWearTotalSpec)

/-- 'laws.FnWearSpread', WHERE WHAT IT READS IS OF BULK AT MOST 1048576: true; the input reads as it did. -/
def fnWearSpreadUptoRow : OpenClaim := { program := "ytenbbkmbnpdfaaa", sum := "f715e214dd5d8a47ed567c35fc5685df4cfcb8d9a439967106bfdf9ff3bf9d70", func := "loop.example/flashfiles/laws.FnWearSpread", spec := "fnWearSpread", apart := false, narrowed := true }
def FnWearSpreadUptoSaid : Prop := fnWearSpreadUptoRow.holds Try.pinned (OpenSpec.upto fnWearSpreadSpec)

/-- 'laws.FnWearVictim', WHERE WHAT IT READS IS OF BULK AT MOST 1048576: true; the input reads as it did. -/
def fnWearVictimUptoRow : OpenClaim := { program := "ytenbbkmbnpdfaaa", sum := "f715e214dd5d8a47ed567c35fc5685df4cfcb8d9a439967106bfdf9ff3bf9d70", func := "loop.example/flashfiles/laws.FnWearVictim", spec := "fnWearVictim", apart := false, narrowed := true }
def FnWearVictimUptoSaid : Prop := fnWearVictimUptoRow.holds Try.pinned (OpenSpec.upto fnWearVictimSpec)

/-- 'laws.FnEraseAt', WHERE WHAT IT READS IS OF BULK AT MOST 1048576: true; the input reads as it did. -/
def fnEraseAtUptoRow : OpenClaim := { program := "ytenbbkmbnpdfaaa", sum := "f715e214dd5d8a47ed567c35fc5685df4cfcb8d9a439967106bfdf9ff3bf9d70", func := "loop.example/flashfiles/laws.FnEraseAt", spec := "fnEraseAt", apart := false, narrowed := true }
def FnEraseAtUptoSaid : Prop := fnEraseAtUptoRow.holds Try.pinned (OpenSpec.upto fnEraseAtSpec)

/-- 'laws.FnExactPagesSince', WHERE WHAT IT READS IS OF BULK AT MOST 1048576: true; the input reads as it did. -/
def fnExactPagesSinceUptoRow : OpenClaim := { program := "ytenbbkmbnpdfaaa", sum := "f715e214dd5d8a47ed567c35fc5685df4cfcb8d9a439967106bfdf9ff3bf9d70", func := "loop.example/flashfiles/laws.FnExactPagesSince", spec := "fnExactPagesSince", unfollowed := true, recurses := true, apart := false, narrowed := true }
def FnExactPagesSinceUptoSaid : Prop := fnExactPagesSinceUptoRow.holds Try.pinned (OpenSpec.upto fnExactPagesSinceSpec)

/-- 'laws.FnLastStamp', WHERE WHAT IT READS IS OF BULK AT MOST 1048576: true; the input reads as it did. -/
def fnLastStampUptoRow : OpenClaim := { program := "ytenbbkmbnpdfaaa", sum := "f715e214dd5d8a47ed567c35fc5685df4cfcb8d9a439967106bfdf9ff3bf9d70", func := "loop.example/flashfiles/laws.FnLastStamp", spec := "fnLastStamp", unfollowed := true, recurses := true, apart := false, narrowed := true }
def FnLastStampUptoSaid : Prop := fnLastStampUptoRow.holds Try.pinned (OpenSpec.upto fnLastStampSpec)

/-- 'laws.FnPagesSince', WHERE WHAT IT READS IS OF BULK AT MOST 1048576: true; the input reads as it did. -/
def fnPagesSinceUptoRow : OpenClaim := { program := "ytenbbkmbnpdfaaa", sum := "f715e214dd5d8a47ed567c35fc5685df4cfcb8d9a439967106bfdf9ff3bf9d70", func := "loop.example/flashfiles/laws.FnPagesSince", spec := "fnPagesSince", unfollowed := true, recurses := true, apart := false, narrowed := true }
def FnPagesSinceUptoSaid : Prop := fnPagesSinceUptoRow.holds Try.pinned (OpenSpec.upto fnPagesSinceSpec)

end Rows
end Go.Proofs.Ytenbbkmbnpdfaaa
