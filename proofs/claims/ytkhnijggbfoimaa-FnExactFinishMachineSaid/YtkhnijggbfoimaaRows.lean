/-
  No cell of these rows narrows 'for every input' (looked for: loops, veiled, ifaces, maps, wideKeys, modest, calm, conditions, laid).
  DERIVED. THE GIVEN ROWS OF THIS SEAT. 5 by the template 'for every input the law returns true; each argument reads behind the call as it read before'; 0 by the template 'total and deterministic' (their statements: YtkhnijggbfoimaaTotals.lean).
  GIVEN WITH THE SEED: the statements are not yours to turn. If you find one false, say at which input.
  Laid BY PROGRAM, IN A SANDBOX (cutbox-rows.mjs): the forced cells as the released guide's own fill.sh prints them over the translation 78703423317c5ec8… (all of the seat's roots in one cut). By AI agents, Wed Nov 11 2026. No macro, syntax, notation, axiom, sorry.
-/
import Derived.Test.YtkhnijggbfoimaaChecked
import GoSem.Claim
import GoSem.ClaimJoined
import GoSem.ClaimMapViews
import Derived.JoinedTies
import Derived.KernelRfl
namespace Go.Proofs.Ytkhnijggbfoimaa
/- THE CELL 'sum', in the pinned program and in every row, IS THE sha256 OF THE DUMP (.gsa) THAT YtkhnijggbfoimaaProg.lean LOADS. Nothing in Lean hashes anything: it is a label: what it is worth is what the hold of that sum in a sandbox is worth. -/
noncomputable def Try.pinned : Pinned := { name := "ytkhnijggbfoimaa", sum := "78703423317c5ec8c452bb1a5888051a7abc823486081d64c7adc35a7300710d", checked := Try.checked }
namespace Rows
def none {H : Type} : Left H := { results := [], args := [] }

/-- 'laws.FnExactAdvanceMachine': WHATEVER THE INPUT: true; the input reads as it did. -/
def fnExactAdvanceMachineSpec : ChangeSpec := { name := "fnExactAdvanceMachine", fn := fun _ => fun
  | [d1, d2] => { results := [.lit (.bool true)], args := [d1, d2] }
  | _ => none }
def fnExactAdvanceMachineRow : OpenClaim := { program := "ytkhnijggbfoimaa", sum := "78703423317c5ec8c452bb1a5888051a7abc823486081d64c7adc35a7300710d", func := "loop.example/g00518/laws.FnExactAdvanceMachine", spec := "fnExactAdvanceMachine", unfollowed := true, recurses := true, apart := false }
def FnExactAdvanceMachineSaid : Prop := fnExactAdvanceMachineRow.holds Try.pinned (OpenSpec.ofChange fnExactAdvanceMachineSpec)

/-- ITS FALSE NEIGHBOUR: 'it returns false'. Refute it at one input. -/
def fnExactAdvanceMachineWrong : ChangeSpec := { name := "fnExactAdvanceMachine", fn := fun _ => fun
  | [d1, d2] => { results := [.lit (.bool false)], args := [d1, d2] }
  | _ => none }
def FnExactAdvanceMachineWrongFalsely : Prop := fnExactAdvanceMachineRow.holds Try.pinned (OpenSpec.ofChange fnExactAdvanceMachineWrong)

/-- 'laws.FnExactFinishMachine': WHATEVER THE INPUT: true; the input reads as it did. -/
def fnExactFinishMachineSpec : ChangeSpec := { name := "fnExactFinishMachine", fn := fun _ => fun
  | [d1, d2] => { results := [.lit (.bool true)], args := [d1, d2] }
  | _ => none }
def fnExactFinishMachineRow : OpenClaim := { program := "ytkhnijggbfoimaa", sum := "78703423317c5ec8c452bb1a5888051a7abc823486081d64c7adc35a7300710d", func := "loop.example/g00518/laws.FnExactFinishMachine", spec := "fnExactFinishMachine", unfollowed := true, recurses := true, apart := false }
def FnExactFinishMachineSaid : Prop := fnExactFinishMachineRow.holds Try.pinned (OpenSpec.ofChange fnExactFinishMachineSpec)

/-- ITS FALSE NEIGHBOUR: 'it returns false'. Refute it at one input. -/
def fnExactFinishMachineWrong : ChangeSpec := { name := "fnExactFinishMachine", fn := fun _ => fun
  | [d1, d2] => { results := [.lit (.bool false)], args := [d1, d2] }
  | _ => none }
def FnExactFinishMachineWrongFalsely : Prop := fnExactFinishMachineRow.holds Try.pinned (OpenSpec.ofChange fnExactFinishMachineWrong)

/-- 'laws.FnExactRunProgram': WHATEVER THE INPUT: true; the input reads as it did. -/
def fnExactRunProgramSpec : ChangeSpec := { name := "fnExactRunProgram", fn := fun _ => fun
  | [d1, d2] => { results := [.lit (.bool true)], args := [d1, d2] }
  | _ => none }
def fnExactRunProgramRow : OpenClaim := { program := "ytkhnijggbfoimaa", sum := "78703423317c5ec8c452bb1a5888051a7abc823486081d64c7adc35a7300710d", func := "loop.example/g00518/laws.FnExactRunProgram", spec := "fnExactRunProgram", unfollowed := true, recurses := true, apart := false }
def FnExactRunProgramSaid : Prop := fnExactRunProgramRow.holds Try.pinned (OpenSpec.ofChange fnExactRunProgramSpec)

/-- ITS FALSE NEIGHBOUR: 'it returns false'. Refute it at one input. -/
def fnExactRunProgramWrong : ChangeSpec := { name := "fnExactRunProgram", fn := fun _ => fun
  | [d1, d2] => { results := [.lit (.bool false)], args := [d1, d2] }
  | _ => none }
def FnExactRunProgramWrongFalsely : Prop := fnExactRunProgramRow.holds Try.pinned (OpenSpec.ofChange fnExactRunProgramWrong)

/-- 'laws.FnExactFeedByte': WHATEVER THE INPUT: true; the input reads as it did. -/
def fnExactFeedByteSpec : ChangeSpec := { name := "fnExactFeedByte", fn := fun _ => fun
  | [d1, d2, d3] => { results := [.lit (.bool true)], args := [d1, d2, d3] }
  | _ => none }
def fnExactFeedByteRow : OpenClaim := { program := "ytkhnijggbfoimaa", sum := "78703423317c5ec8c452bb1a5888051a7abc823486081d64c7adc35a7300710d", func := "loop.example/g00518/laws.FnExactFeedByte", spec := "fnExactFeedByte", unfollowed := true, recurses := true, apart := false }
def FnExactFeedByteSaid : Prop := fnExactFeedByteRow.holds Try.pinned (OpenSpec.ofChange fnExactFeedByteSpec)

/-- ITS FALSE NEIGHBOUR: 'it returns false'. Refute it at one input. -/
def fnExactFeedByteWrong : ChangeSpec := { name := "fnExactFeedByte", fn := fun _ => fun
  | [d1, d2, d3] => { results := [.lit (.bool false)], args := [d1, d2, d3] }
  | _ => none }
def FnExactFeedByteWrongFalsely : Prop := fnExactFeedByteRow.holds Try.pinned (OpenSpec.ofChange fnExactFeedByteWrong)

/-- 'laws.FnExactFeedBytes': WHATEVER THE INPUT: true; the input reads as it did. -/
def fnExactFeedBytesSpec : ChangeSpec := { name := "fnExactFeedBytes", fn := fun _ => fun
  | [d1, d2, d3] => { results := [.lit (.bool true)], args := [d1, d2, d3] }
  | _ => none }
def fnExactFeedBytesRow : OpenClaim := { program := "ytkhnijggbfoimaa", sum := "78703423317c5ec8c452bb1a5888051a7abc823486081d64c7adc35a7300710d", func := "loop.example/g00518/laws.FnExactFeedBytes", spec := "fnExactFeedBytes", unfollowed := true, recurses := true, apart := false }
def FnExactFeedBytesSaid : Prop := fnExactFeedBytesRow.holds Try.pinned (OpenSpec.ofChange fnExactFeedBytesSpec)

/-- ITS FALSE NEIGHBOUR: 'it returns false'. Refute it at one input. -/
def fnExactFeedBytesWrong : ChangeSpec := { name := "fnExactFeedBytes", fn := fun _ => fun
  | [d1, d2, d3] => { results := [.lit (.bool false)], args := [d1, d2, d3] }
  | _ => none }
def FnExactFeedBytesWrongFalsely : Prop := fnExactFeedBytesRow.holds Try.pinned (OpenSpec.ofChange fnExactFeedBytesWrong)

/- THE SECOND FORM. 'bulk': how many values and letters a reading holds, each counted each time it is reached (what is shared counts as often as it is met; a slice's spare places count too). A statement '..UptoSaid' is the law's where the arguments, and the package variables that the reading takes, are together of bulk at most 1048576: NARROWER than '..Said'. Prove '..Said' where nothing that the law and all that it calls make is longer than what came in: it says more and counts as full. Else prove '..UptoSaid'. A law counts once. -/
mutual
def uptoBulk {H : Type} : DataW H → Nat
  | .lit (.string bytes) => bytes.length + 1
  | .lit _ => 1
  | .nil => 1
  | .ptr d => uptoBulk d + 1
  | .slice elems spare => uptoBulkAll elems + uptoBulkAll spare + 1
  | .agg parts => uptoBulkAll parts + 1
  | .iface _ d => uptoBulk d + 1
  | .map entries => uptoBulkEntries entries + 1
  | .held _ => 1
def uptoBulkAll {H : Type} : List (DataW H) → Nat
  | [] => 0
  | d :: r => uptoBulk d + uptoBulkAll r
def uptoBulkEntries {H : Type} : List (Lit × DataW H) → Nat
  | [] => 0
  | x :: r => uptoBulkEntry x + uptoBulkEntries r
def uptoBulkEntry {H : Type} : Lit × DataW H → Nat
  | (.string bytes, d) => bytes.length + uptoBulk d + 1
  | (_, d) => uptoBulk d + 1
 end
def uptoSmall : (H : Type) → List (DataW H) → Bool := fun _ ds => decide (uptoBulkAll ds ≤ 1048576)
def OpenSpec.upto (s : _root_.Go.ChangeSpec) : _root_.Go.OpenSpec := { _root_.Go.OpenSpec.ofChange s with cond := some uptoSmall }

/-- 'laws.FnExactAdvanceMachine', WHERE WHAT IT READS IS OF BULK AT MOST 1048576: true; the input reads as it did. -/
def fnExactAdvanceMachineUptoRow : OpenClaim := { program := "ytkhnijggbfoimaa", sum := "78703423317c5ec8c452bb1a5888051a7abc823486081d64c7adc35a7300710d", func := "loop.example/g00518/laws.FnExactAdvanceMachine", spec := "fnExactAdvanceMachine", unfollowed := true, recurses := true, apart := false, narrowed := true }
def FnExactAdvanceMachineUptoSaid : Prop := fnExactAdvanceMachineUptoRow.holds Try.pinned (OpenSpec.upto fnExactAdvanceMachineSpec)

/-- 'laws.FnExactFinishMachine', WHERE WHAT IT READS IS OF BULK AT MOST 1048576: true; the input reads as it did. -/
def fnExactFinishMachineUptoRow : OpenClaim := { program := "ytkhnijggbfoimaa", sum := "78703423317c5ec8c452bb1a5888051a7abc823486081d64c7adc35a7300710d", func := "loop.example/g00518/laws.FnExactFinishMachine", spec := "fnExactFinishMachine", unfollowed := true, recurses := true, apart := false, narrowed := true }
def FnExactFinishMachineUptoSaid : Prop := fnExactFinishMachineUptoRow.holds Try.pinned (OpenSpec.upto fnExactFinishMachineSpec)

/-- 'laws.FnExactRunProgram', WHERE WHAT IT READS IS OF BULK AT MOST 1048576: true; the input reads as it did. -/
def fnExactRunProgramUptoRow : OpenClaim := { program := "ytkhnijggbfoimaa", sum := "78703423317c5ec8c452bb1a5888051a7abc823486081d64c7adc35a7300710d", func := "loop.example/g00518/laws.FnExactRunProgram", spec := "fnExactRunProgram", unfollowed := true, recurses := true, apart := false, narrowed := true }
def FnExactRunProgramUptoSaid : Prop := fnExactRunProgramUptoRow.holds Try.pinned (OpenSpec.upto fnExactRunProgramSpec)

/-- 'laws.FnExactFeedByte', WHERE WHAT IT READS IS OF BULK AT MOST 1048576: true; the input reads as it did. -/
def fnExactFeedByteUptoRow : OpenClaim := { program := "ytkhnijggbfoimaa", sum := "78703423317c5ec8c452bb1a5888051a7abc823486081d64c7adc35a7300710d", func := "loop.example/g00518/laws.FnExactFeedByte", spec := "fnExactFeedByte", unfollowed := true, recurses := true, apart := false, narrowed := true }
def FnExactFeedByteUptoSaid : Prop := fnExactFeedByteUptoRow.holds Try.pinned (OpenSpec.upto fnExactFeedByteSpec)

/-- 'laws.FnExactFeedBytes', WHERE WHAT IT READS IS OF BULK AT MOST 1048576: true; the input reads as it did. -/
def fnExactFeedBytesUptoRow : OpenClaim := { program := "ytkhnijggbfoimaa", sum := "78703423317c5ec8c452bb1a5888051a7abc823486081d64c7adc35a7300710d", func := "loop.example/g00518/laws.FnExactFeedBytes", spec := "fnExactFeedBytes", unfollowed := true, recurses := true, apart := false, narrowed := true }
def FnExactFeedBytesUptoSaid : Prop := fnExactFeedBytesUptoRow.holds Try.pinned (OpenSpec.upto fnExactFeedBytesSpec)

end Rows
end Go.Proofs.Ytkhnijggbfoimaa
