/-
  NARROWER THAN 'FOR EVERY INPUT', by the rows' own cells (each row's printed sentence says how): FnExactCountParts: loops · FnExactTotalBytes: loops · FnExactEqualValues: loops · FnExactCopyValue: loops.
  DERIVED. THE GIVEN ROWS OF THIS SEAT. 12 by the template 'for every input the law returns true; each argument reads behind the call as it read before'; 0 by the template 'total and deterministic' (their statements: YtkkmmfgncdfcfaaTotals.lean).
  GIVEN WITH THE SEED: the statements are not yours to turn. If you find one false, say at which input.
  Laid BY PROGRAM, IN A SANDBOX (cutbox-rows.mjs): the forced cells as the released guide's own fill.sh prints them over the translation bf5d02e81ecc53f4… (all of the seat's roots in one cut). By AI agents, Wed Nov 11 2026. No macro, syntax, notation, axiom, sorry.
-/
import Derived.Test.YtkkmmfgncdfcfaaChecked
import GoSem.Claim
import GoSem.ClaimJoined
import GoSem.ClaimMapViews
import Derived.JoinedTies
import Derived.KernelRfl
namespace Go.Proofs.Ytkkmmfgncdfcfaa
/- THE CELL 'sum', in the pinned program and in every row, IS THE sha256 OF THE DUMP (.gsa) THAT YtkkmmfgncdfcfaaProg.lean LOADS. Nothing in Lean hashes anything: it is a label: what it is worth is what the hold of that sum in a sandbox is worth. -/
noncomputable def Try.pinned : Pinned := { name := "ytkkmmfgncdfcfaa", sum := "bf5d02e81ecc53f4617929a2ec6eaa2844ac5ffb3749b240de4e29b1ad8cf431", checked := Try.checked }
namespace Rows
def none {H : Type} : Left H := { results := [], args := [] }

/-- 'laws.FnExactCountParts': WHATEVER THE INPUT: true; the input reads as it did. -/
def fnExactCountPartsSpec : ChangeSpec := { name := "fnExactCountParts", fn := fun _ => fun
  | [d] => { results := [.lit (.bool true)], args := [d] }
  | _ => none }
def fnExactCountPartsRow : OpenClaim := { program := "ytkkmmfgncdfcfaa", sum := "bf5d02e81ecc53f4617929a2ec6eaa2844ac5ffb3749b240de4e29b1ad8cf431", func := "loop.example/g00518/laws.FnExactCountParts", spec := "fnExactCountParts", recurses := true, loops := true, apart := false }
def FnExactCountPartsSaid : Prop := fnExactCountPartsRow.holds Try.pinned (OpenSpec.ofChange fnExactCountPartsSpec)

/-- ITS FALSE NEIGHBOUR: 'it returns false'. Refute it at one input. -/
def fnExactCountPartsWrong : ChangeSpec := { name := "fnExactCountParts", fn := fun _ => fun
  | [d] => { results := [.lit (.bool false)], args := [d] }
  | _ => none }
def FnExactCountPartsWrongFalsely : Prop := fnExactCountPartsRow.holds Try.pinned (OpenSpec.ofChange fnExactCountPartsWrong)

/-- 'laws.FnExactTotalBytes': WHATEVER THE INPUT: true; the input reads as it did. -/
def fnExactTotalBytesSpec : ChangeSpec := { name := "fnExactTotalBytes", fn := fun _ => fun
  | [d] => { results := [.lit (.bool true)], args := [d] }
  | _ => none }
def fnExactTotalBytesRow : OpenClaim := { program := "ytkkmmfgncdfcfaa", sum := "bf5d02e81ecc53f4617929a2ec6eaa2844ac5ffb3749b240de4e29b1ad8cf431", func := "loop.example/g00518/laws.FnExactTotalBytes", spec := "fnExactTotalBytes", recurses := true, loops := true, apart := false }
def FnExactTotalBytesSaid : Prop := fnExactTotalBytesRow.holds Try.pinned (OpenSpec.ofChange fnExactTotalBytesSpec)

/-- ITS FALSE NEIGHBOUR: 'it returns false'. Refute it at one input. -/
def fnExactTotalBytesWrong : ChangeSpec := { name := "fnExactTotalBytes", fn := fun _ => fun
  | [d] => { results := [.lit (.bool false)], args := [d] }
  | _ => none }
def FnExactTotalBytesWrongFalsely : Prop := fnExactTotalBytesRow.holds Try.pinned (OpenSpec.ofChange fnExactTotalBytesWrong)

/-- 'laws.FnExactEqualMachines': WHATEVER THE INPUT: true; the input reads as it did. -/
def fnExactEqualMachinesSpec : ChangeSpec := { name := "fnExactEqualMachines", fn := fun _ => fun
  | [d1, d2] => { results := [.lit (.bool true)], args := [d1, d2] }
  | _ => none }
def fnExactEqualMachinesRow : OpenClaim := { program := "ytkkmmfgncdfcfaa", sum := "bf5d02e81ecc53f4617929a2ec6eaa2844ac5ffb3749b240de4e29b1ad8cf431", func := "loop.example/g00518/laws.FnExactEqualMachines", spec := "fnExactEqualMachines", apart := false }
def FnExactEqualMachinesSaid : Prop := fnExactEqualMachinesRow.holds Try.pinned (OpenSpec.ofChange fnExactEqualMachinesSpec)

/-- ITS FALSE NEIGHBOUR: 'it returns false'. Refute it at one input. -/
def fnExactEqualMachinesWrong : ChangeSpec := { name := "fnExactEqualMachines", fn := fun _ => fun
  | [d1, d2] => { results := [.lit (.bool false)], args := [d1, d2] }
  | _ => none }
def FnExactEqualMachinesWrongFalsely : Prop := fnExactEqualMachinesRow.holds Try.pinned (OpenSpec.ofChange fnExactEqualMachinesWrong)

/-- 'laws.FnExactBlockOf': WHATEVER THE INPUT: true; the input reads as it did. -/
def fnExactBlockOfSpec : ChangeSpec := { name := "fnExactBlockOf", fn := fun _ => fun
  | [d1, d2] => { results := [.lit (.bool true)], args := [d1, d2] }
  | _ => none }
def fnExactBlockOfRow : OpenClaim := { program := "ytkkmmfgncdfcfaa", sum := "bf5d02e81ecc53f4617929a2ec6eaa2844ac5ffb3749b240de4e29b1ad8cf431", func := "loop.example/g00518/laws.FnExactBlockOf", spec := "fnExactBlockOf", apart := false }
def FnExactBlockOfSaid : Prop := fnExactBlockOfRow.holds Try.pinned (OpenSpec.ofChange fnExactBlockOfSpec)

/-- ITS FALSE NEIGHBOUR: 'it returns false'. Refute it at one input. -/
def fnExactBlockOfWrong : ChangeSpec := { name := "fnExactBlockOf", fn := fun _ => fun
  | [d1, d2] => { results := [.lit (.bool false)], args := [d1, d2] }
  | _ => none }
def FnExactBlockOfWrongFalsely : Prop := fnExactBlockOfRow.holds Try.pinned (OpenSpec.ofChange fnExactBlockOfWrong)

/-- 'laws.FnExactCountOps': WHATEVER THE INPUT: true; the input reads as it did. -/
def fnExactCountOpsSpec : ChangeSpec := { name := "fnExactCountOps", fn := fun _ => fun
  | [d1, d2] => { results := [.lit (.bool true)], args := [d1, d2] }
  | _ => none }
def fnExactCountOpsRow : OpenClaim := { program := "ytkkmmfgncdfcfaa", sum := "bf5d02e81ecc53f4617929a2ec6eaa2844ac5ffb3749b240de4e29b1ad8cf431", func := "loop.example/g00518/laws.FnExactCountOps", spec := "fnExactCountOps", apart := false }
def FnExactCountOpsSaid : Prop := fnExactCountOpsRow.holds Try.pinned (OpenSpec.ofChange fnExactCountOpsSpec)

/-- ITS FALSE NEIGHBOUR: 'it returns false'. Refute it at one input. -/
def fnExactCountOpsWrong : ChangeSpec := { name := "fnExactCountOps", fn := fun _ => fun
  | [d1, d2] => { results := [.lit (.bool false)], args := [d1, d2] }
  | _ => none }
def FnExactCountOpsWrongFalsely : Prop := fnExactCountOpsRow.holds Try.pinned (OpenSpec.ofChange fnExactCountOpsWrong)

/-- 'laws.FnExactEqualValues': WHATEVER THE INPUT: true; the input reads as it did. -/
def fnExactEqualValuesSpec : ChangeSpec := { name := "fnExactEqualValues", fn := fun _ => fun
  | [d1, d2] => { results := [.lit (.bool true)], args := [d1, d2] }
  | _ => none }
def fnExactEqualValuesRow : OpenClaim := { program := "ytkkmmfgncdfcfaa", sum := "bf5d02e81ecc53f4617929a2ec6eaa2844ac5ffb3749b240de4e29b1ad8cf431", func := "loop.example/g00518/laws.FnExactEqualValues", spec := "fnExactEqualValues", recurses := true, loops := true, apart := false }
def FnExactEqualValuesSaid : Prop := fnExactEqualValuesRow.holds Try.pinned (OpenSpec.ofChange fnExactEqualValuesSpec)

/-- ITS FALSE NEIGHBOUR: 'it returns false'. Refute it at one input. -/
def fnExactEqualValuesWrong : ChangeSpec := { name := "fnExactEqualValues", fn := fun _ => fun
  | [d1, d2] => { results := [.lit (.bool false)], args := [d1, d2] }
  | _ => none }
def FnExactEqualValuesWrongFalsely : Prop := fnExactEqualValuesRow.holds Try.pinned (OpenSpec.ofChange fnExactEqualValuesWrong)

/-- 'laws.FnExactEqualPrograms': WHATEVER THE INPUT: true; the input reads as it did. -/
def fnExactEqualProgramsSpec : ChangeSpec := { name := "fnExactEqualPrograms", fn := fun _ => fun
  | [d1, d2] => { results := [.lit (.bool true)], args := [d1, d2] }
  | _ => none }
def fnExactEqualProgramsRow : OpenClaim := { program := "ytkkmmfgncdfcfaa", sum := "bf5d02e81ecc53f4617929a2ec6eaa2844ac5ffb3749b240de4e29b1ad8cf431", func := "loop.example/g00518/laws.FnExactEqualPrograms", spec := "fnExactEqualPrograms", apart := false }
def FnExactEqualProgramsSaid : Prop := fnExactEqualProgramsRow.holds Try.pinned (OpenSpec.ofChange fnExactEqualProgramsSpec)

/-- ITS FALSE NEIGHBOUR: 'it returns false'. Refute it at one input. -/
def fnExactEqualProgramsWrong : ChangeSpec := { name := "fnExactEqualPrograms", fn := fun _ => fun
  | [d1, d2] => { results := [.lit (.bool false)], args := [d1, d2] }
  | _ => none }
def FnExactEqualProgramsWrongFalsely : Prop := fnExactEqualProgramsRow.holds Try.pinned (OpenSpec.ofChange fnExactEqualProgramsWrong)

/-- 'laws.FnExactCopyValue': WHATEVER THE INPUT: true; the input reads as it did. -/
def fnExactCopyValueSpec : ChangeSpec := { name := "fnExactCopyValue", fn := fun _ => fun
  | [d] => { results := [.lit (.bool true)], args := [d] }
  | _ => none }
def fnExactCopyValueRow : OpenClaim := { program := "ytkkmmfgncdfcfaa", sum := "bf5d02e81ecc53f4617929a2ec6eaa2844ac5ffb3749b240de4e29b1ad8cf431", func := "loop.example/g00518/laws.FnExactCopyValue", spec := "fnExactCopyValue", recurses := true, loops := true, apart := false }
def FnExactCopyValueSaid : Prop := fnExactCopyValueRow.holds Try.pinned (OpenSpec.ofChange fnExactCopyValueSpec)

/-- ITS FALSE NEIGHBOUR: 'it returns false'. Refute it at one input. -/
def fnExactCopyValueWrong : ChangeSpec := { name := "fnExactCopyValue", fn := fun _ => fun
  | [d] => { results := [.lit (.bool false)], args := [d] }
  | _ => none }
def FnExactCopyValueWrongFalsely : Prop := fnExactCopyValueRow.holds Try.pinned (OpenSpec.ofChange fnExactCopyValueWrong)

/-- 'laws.FnExactIsSafeInstruction': WHATEVER THE INPUT: true; the input reads as it did. -/
def fnExactIsSafeInstructionSpec : ChangeSpec := { name := "fnExactIsSafeInstruction", fn := fun _ => fun
  | [d1, d2] => { results := [.lit (.bool true)], args := [d1, d2] }
  | _ => none }
def fnExactIsSafeInstructionRow : OpenClaim := { program := "ytkkmmfgncdfcfaa", sum := "bf5d02e81ecc53f4617929a2ec6eaa2844ac5ffb3749b240de4e29b1ad8cf431", func := "loop.example/g00518/laws.FnExactIsSafeInstruction", spec := "fnExactIsSafeInstruction", apart := false }
def FnExactIsSafeInstructionSaid : Prop := fnExactIsSafeInstructionRow.holds Try.pinned (OpenSpec.ofChange fnExactIsSafeInstructionSpec)

/-- ITS FALSE NEIGHBOUR: 'it returns false'. Refute it at one input. -/
def fnExactIsSafeInstructionWrong : ChangeSpec := { name := "fnExactIsSafeInstruction", fn := fun _ => fun
  | [d1, d2] => { results := [.lit (.bool false)], args := [d1, d2] }
  | _ => none }
def FnExactIsSafeInstructionWrongFalsely : Prop := fnExactIsSafeInstructionRow.holds Try.pinned (OpenSpec.ofChange fnExactIsSafeInstructionWrong)

/-- 'laws.FnExactIsSafeProgram': WHATEVER THE INPUT: true; the input reads as it did. -/
def fnExactIsSafeProgramSpec : ChangeSpec := { name := "fnExactIsSafeProgram", fn := fun _ => fun
  | [d] => { results := [.lit (.bool true)], args := [d] }
  | _ => none }
def fnExactIsSafeProgramRow : OpenClaim := { program := "ytkkmmfgncdfcfaa", sum := "bf5d02e81ecc53f4617929a2ec6eaa2844ac5ffb3749b240de4e29b1ad8cf431", func := "loop.example/g00518/laws.FnExactIsSafeProgram", spec := "fnExactIsSafeProgram", unfollowed := true, recurses := true, apart := false }
def FnExactIsSafeProgramSaid : Prop := fnExactIsSafeProgramRow.holds Try.pinned (OpenSpec.ofChange fnExactIsSafeProgramSpec)

/-- ITS FALSE NEIGHBOUR: 'it returns false'. Refute it at one input. -/
def fnExactIsSafeProgramWrong : ChangeSpec := { name := "fnExactIsSafeProgram", fn := fun _ => fun
  | [d] => { results := [.lit (.bool false)], args := [d] }
  | _ => none }
def FnExactIsSafeProgramWrongFalsely : Prop := fnExactIsSafeProgramRow.holds Try.pinned (OpenSpec.ofChange fnExactIsSafeProgramWrong)

/-- 'laws.FnExactFitsMachine': WHATEVER THE INPUT: true; the input reads as it did. -/
def fnExactFitsMachineSpec : ChangeSpec := { name := "fnExactFitsMachine", fn := fun _ => fun
  | [d] => { results := [.lit (.bool true)], args := [d] }
  | _ => none }
def fnExactFitsMachineRow : OpenClaim := { program := "ytkkmmfgncdfcfaa", sum := "bf5d02e81ecc53f4617929a2ec6eaa2844ac5ffb3749b240de4e29b1ad8cf431", func := "loop.example/g00518/laws.FnExactFitsMachine", spec := "fnExactFitsMachine", unfollowed := true, recurses := true, apart := false }
def FnExactFitsMachineSaid : Prop := fnExactFitsMachineRow.holds Try.pinned (OpenSpec.ofChange fnExactFitsMachineSpec)

/-- ITS FALSE NEIGHBOUR: 'it returns false'. Refute it at one input. -/
def fnExactFitsMachineWrong : ChangeSpec := { name := "fnExactFitsMachine", fn := fun _ => fun
  | [d] => { results := [.lit (.bool false)], args := [d] }
  | _ => none }
def FnExactFitsMachineWrongFalsely : Prop := fnExactFitsMachineRow.holds Try.pinned (OpenSpec.ofChange fnExactFitsMachineWrong)

/-- 'laws.FnExactStackNeeded': WHATEVER THE INPUT: true; the input reads as it did. -/
def fnExactStackNeededSpec : ChangeSpec := { name := "fnExactStackNeeded", fn := fun _ => fun
  | [d] => { results := [.lit (.bool true)], args := [d] }
  | _ => none }
def fnExactStackNeededRow : OpenClaim := { program := "ytkkmmfgncdfcfaa", sum := "bf5d02e81ecc53f4617929a2ec6eaa2844ac5ffb3749b240de4e29b1ad8cf431", func := "loop.example/g00518/laws.FnExactStackNeeded", spec := "fnExactStackNeeded", unfollowed := true, recurses := true, apart := false }
def FnExactStackNeededSaid : Prop := fnExactStackNeededRow.holds Try.pinned (OpenSpec.ofChange fnExactStackNeededSpec)

/-- ITS FALSE NEIGHBOUR: 'it returns false'. Refute it at one input. -/
def fnExactStackNeededWrong : ChangeSpec := { name := "fnExactStackNeeded", fn := fun _ => fun
  | [d] => { results := [.lit (.bool false)], args := [d] }
  | _ => none }
def FnExactStackNeededWrongFalsely : Prop := fnExactStackNeededRow.holds Try.pinned (OpenSpec.ofChange fnExactStackNeededWrong)

/- THE SECOND FORM. 'bulk': how many values and letters a reading holds, each counted each time it is reached (what is shared counts as often as it is met; a slice's spare places count too). A statement '..UptoSaid' is the law's where the arguments, and the package variables that the reading takes, are together of bulk at most 1048576: NARROWER than '..Said'. Prove '..Said' where nothing that the law and all that it calls make is longer than what came in: it says more and counts as full. Else prove '..UptoSaid'. A law counts once. -/
mutual
def uptoBulk {H : Type} : DataW H → Nat
  | .lit (.string bytes) => bytes.length + 1
  | .lit _ => 1
  | .nil => 1
  | .ptr d => uptoBulk d + 1
  | .slice elems spare => uptoBulkAll elems + uptoBulkAll spare + 1
  | .agg parts => uptoBulkAll parts + 1
  | .iface _ d => uptoBulk d + 1
  | .map entries => uptoBulkEntries entries + 1
  | .held _ => 1
def uptoBulkAll {H : Type} : List (DataW H) → Nat
  | [] => 0
  | d :: r => uptoBulk d + uptoBulkAll r
def uptoBulkEntries {H : Type} : List (Lit × DataW H) → Nat
  | [] => 0
  | x :: r => uptoBulkEntry x + uptoBulkEntries r
def uptoBulkEntry {H : Type} : Lit × DataW H → Nat
  | (.string bytes, d) => bytes.length + uptoBulk d + 1
  | (_, d) => uptoBulk d + 1
 end
def uptoSmall : (H : Type) → List (DataW H) → Bool := fun _ ds => decide (uptoBulkAll ds ≤ 1048576)
def OpenSpec.upto (s : _root_.Go.ChangeSpec) : _root_.Go.OpenSpec := { _root_.Go.OpenSpec.ofChange s with cond := some uptoSmall }

/-- 'laws.FnExactCountParts', WHERE WHAT IT READS IS OF BULK AT MOST 1048576: true; the input reads as it did. -/
def fnExactCountPartsUptoRow : OpenClaim := { program := "ytkkmmfgncdfcfaa", sum := "bf5d02e81ecc53f4617929a2ec6eaa2844ac5ffb3749b240de4e29b1ad8cf431", func := "loop.example/g00518/laws.FnExactCountParts", spec := "fnExactCountParts", recurses := true, loops := true, apart := false, narrowed := true }
def FnExactCountPartsUptoSaid : Prop := fnExactCountPartsUptoRow.holds Try.pinned (OpenSpec.upto fnExactCountPartsSpec)

/-- 'laws.FnExactTotalBytes', WHERE WHAT IT READS IS OF BULK AT MOST 1048576: true; the input reads as it did. -/
def fnExactTotalBytesUptoRow : OpenClaim := { program := "ytkkmmfgncdfcfaa", sum := "bf5d02e81ecc53f4617929a2ec6eaa2844ac5ffb3749b240de4e29b1ad8cf431", func := "loop.example/g00518/laws.FnExactTotalBytes", spec := "fnExactTotalBytes", recurses := true, loops := true, apart := false, narrowed := true }
def FnExactTotalBytesUptoSaid : Prop := fnExactTotalBytesUptoRow.holds Try.pinned (OpenSpec.upto fnExactTotalBytesSpec)

/-- 'laws.FnExactEqualMachines', WHERE WHAT IT READS IS OF BULK AT MOST 1048576: true; the input reads as it did. -/
def fnExactEqualMachinesUptoRow : OpenClaim := { program := "ytkkmmfgncdfcfaa", sum := "bf5d02e81ecc53f4617929a2ec6eaa2844ac5ffb3749b240de4e29b1ad8cf431", func := "loop.example/g00518/laws.FnExactEqualMachines", spec := "fnExactEqualMachines", apart := false, narrowed := true }
def FnExactEqualMachinesUptoSaid : Prop := fnExactEqualMachinesUptoRow.holds Try.pinned (OpenSpec.upto fnExactEqualMachinesSpec)

/-- 'laws.FnExactBlockOf', WHERE WHAT IT READS IS OF BULK AT MOST 1048576: true; the input reads as it did. -/
def fnExactBlockOfUptoRow : OpenClaim := { program := "ytkkmmfgncdfcfaa", sum := "bf5d02e81ecc53f4617929a2ec6eaa2844ac5ffb3749b240de4e29b1ad8cf431", func := "loop.example/g00518/laws.FnExactBlockOf", spec := "fnExactBlockOf", apart := false, narrowed := true }
def FnExactBlockOfUptoSaid : Prop := fnExactBlockOfUptoRow.holds Try.pinned (OpenSpec.upto fnExactBlockOfSpec)

/-- 'laws.FnExactCountOps', WHERE WHAT IT READS IS OF BULK AT MOST 1048576: true; the input reads as it did. -/
def fnExactCountOpsUptoRow : OpenClaim := { program := "ytkkmmfgncdfcfaa", sum := "bf5d02e81ecc53f4617929a2ec6eaa2844ac5ffb3749b240de4e29b1ad8cf431", func := "loop.example/g00518/laws.FnExactCountOps", spec := "fnExactCountOps", apart := false, narrowed := true }
def FnExactCountOpsUptoSaid : Prop := fnExactCountOpsUptoRow.holds Try.pinned (OpenSpec.upto fnExactCountOpsSpec)

/-- 'laws.FnExactEqualValues', WHERE WHAT IT READS IS OF BULK AT MOST 1048576: true; the input reads as it did. -/
def fnExactEqualValuesUptoRow : OpenClaim := { program := "ytkkmmfgncdfcfaa", sum := "bf5d02e81ecc53f4617929a2ec6eaa2844ac5ffb3749b240de4e29b1ad8cf431", func := "loop.example/g00518/laws.FnExactEqualValues", spec := "fnExactEqualValues", recurses := true, loops := true, apart := false, narrowed := true }
def FnExactEqualValuesUptoSaid : Prop := fnExactEqualValuesUptoRow.holds Try.pinned (OpenSpec.upto fnExactEqualValuesSpec)

/-- 'laws.FnExactEqualPrograms', WHERE WHAT IT READS IS OF BULK AT MOST 1048576: true; the input reads as it did. -/
def fnExactEqualProgramsUptoRow : OpenClaim := { program := "ytkkmmfgncdfcfaa", sum := "bf5d02e81ecc53f4617929a2ec6eaa2844ac5ffb3749b240de4e29b1ad8cf431", func := "loop.example/g00518/laws.FnExactEqualPrograms", spec := "fnExactEqualPrograms", apart := false, narrowed := true }
def FnExactEqualProgramsUptoSaid : Prop := fnExactEqualProgramsUptoRow.holds Try.pinned (OpenSpec.upto fnExactEqualProgramsSpec)

/-- 'laws.FnExactCopyValue', WHERE WHAT IT READS IS OF BULK AT MOST 1048576: true; the input reads as it did. -/
def fnExactCopyValueUptoRow : OpenClaim := { program := "ytkkmmfgncdfcfaa", sum := "bf5d02e81ecc53f4617929a2ec6eaa2844ac5ffb3749b240de4e29b1ad8cf431", func := "loop.example/g00518/laws.FnExactCopyValue", spec := "fnExactCopyValue", recurses := true, loops := true, apart := false, narrowed := true }
def FnExactCopyValueUptoSaid : Prop := fnExactCopyValueUptoRow.holds Try.pinned (OpenSpec.upto fnExactCopyValueSpec)

/-- 'laws.FnExactIsSafeInstruction', WHERE WHAT IT READS IS OF BULK AT MOST 1048576: true; the input reads as it did. -/
def fnExactIsSafeInstructionUptoRow : OpenClaim := { program := "ytkkmmfgncdfcfaa", sum := "bf5d02e81ecc53f4617929a2ec6eaa2844ac5ffb3749b240de4e29b1ad8cf431", func := "loop.example/g00518/laws.FnExactIsSafeInstruction", spec := "fnExactIsSafeInstruction", apart := false, narrowed := true }
def FnExactIsSafeInstructionUptoSaid : Prop := fnExactIsSafeInstructionUptoRow.holds Try.pinned (OpenSpec.upto fnExactIsSafeInstructionSpec)

/-- 'laws.FnExactIsSafeProgram', WHERE WHAT IT READS IS OF BULK AT MOST 1048576: true; the input reads as it did. -/
def fnExactIsSafeProgramUptoRow : OpenClaim := { program := "ytkkmmfgncdfcfaa", sum := "bf5d02e81ecc53f4617929a2ec6eaa2844ac5ffb3749b240de4e29b1ad8cf431", func := "loop.example/g00518/laws.FnExactIsSafeProgram", spec := "fnExactIsSafeProgram", unfollowed := true, recurses := true, apart := false, narrowed := true }
def FnExactIsSafeProgramUptoSaid : Prop := fnExactIsSafeProgramUptoRow.holds Try.pinned (OpenSpec.upto fnExactIsSafeProgramSpec)

/-- 'laws.FnExactFitsMachine', WHERE WHAT IT READS IS OF BULK AT MOST 1048576: true; the input reads as it did. -/
def fnExactFitsMachineUptoRow : OpenClaim := { program := "ytkkmmfgncdfcfaa", sum := "bf5d02e81ecc53f4617929a2ec6eaa2844ac5ffb3749b240de4e29b1ad8cf431", func := "loop.example/g00518/laws.FnExactFitsMachine", spec := "fnExactFitsMachine", unfollowed := true, recurses := true, apart := false, narrowed := true }
def FnExactFitsMachineUptoSaid : Prop := fnExactFitsMachineUptoRow.holds Try.pinned (OpenSpec.upto fnExactFitsMachineSpec)

/-- 'laws.FnExactStackNeeded', WHERE WHAT IT READS IS OF BULK AT MOST 1048576: true; the input reads as it did. -/
def fnExactStackNeededUptoRow : OpenClaim := { program := "ytkkmmfgncdfcfaa", sum := "bf5d02e81ecc53f4617929a2ec6eaa2844ac5ffb3749b240de4e29b1ad8cf431", func := "loop.example/g00518/laws.FnExactStackNeeded", spec := "fnExactStackNeeded", unfollowed := true, recurses := true, apart := false, narrowed := true }
def FnExactStackNeededUptoSaid : Prop := fnExactStackNeededUptoRow.holds Try.pinned (OpenSpec.upto fnExactStackNeededSpec)

end Rows
end Go.Proofs.Ytkkmmfgncdfcfaa
