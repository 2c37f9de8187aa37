/-
  NARROWER THAN 'FOR EVERY INPUT', by the rows' own cells (each row's printed sentence says how): FnExactCopyValue: loops.
  DERIVED. THE GIVEN ROWS OF THIS SEAT. 7 by the template 'for every input the law returns true; each argument reads behind the call as it read before'; 0 by the template 'total and deterministic' (their statements: YtnecoghfhcimeaaTotals.lean).
  GIVEN WITH THE SEED: the statements are not yours to turn. If you find one false, say at which input.
  Laid BY PROGRAM, IN A SANDBOX (cutbox-rows.mjs): the forced cells as the released guide's own fill.sh prints them over the translation 0113820296fc92ae… (all of the seat's roots in one cut). By AI agents, Wed Nov 11 2026. No macro, syntax, notation, axiom, sorry.
-/
import Derived.Test.YtnecoghfhcimeaaChecked
import GoSem.Claim
import GoSem.ClaimJoined
import GoSem.ClaimMapViews
import Derived.JoinedTies
import Derived.KernelRfl
namespace Go.Proofs.Ytnecoghfhcimeaa
/- THE CELL 'sum', in the pinned program and in every row, IS THE sha256 OF THE DUMP (.gsa) THAT YtnecoghfhcimeaaProg.lean LOADS. Nothing in Lean hashes anything: it is a label: what it is worth is what the hold of that sum in a sandbox is worth. -/
noncomputable def Try.pinned : Pinned := { name := "ytnecoghfhcimeaa", sum := "0113820296fc92aebcebe3b056c7b98fa8086517057d3418b15b6a3252117367", checked := Try.checked }
namespace Rows
def none {H : Type} : Left H := { results := [], args := [] }

/-- 'laws.FnExactCopyValue': WHATEVER THE INPUT: true; the input reads as it did. -/
def fnExactCopyValueSpec : ChangeSpec := { name := "fnExactCopyValue", fn := fun _ => fun
  | [d] => { results := [.lit (.bool true)], args := [d] }
  | _ => none }
def fnExactCopyValueRow : OpenClaim := { program := "ytnecoghfhcimeaa", sum := "0113820296fc92aebcebe3b056c7b98fa8086517057d3418b15b6a3252117367", func := "loop.example/g00518/laws.FnExactCopyValue", spec := "fnExactCopyValue", recurses := true, loops := true, apart := false }
def FnExactCopyValueSaid : Prop := fnExactCopyValueRow.holds Try.pinned (OpenSpec.ofChange fnExactCopyValueSpec)

/-- ITS FALSE NEIGHBOUR: 'it returns false'. Refute it at one input. -/
def fnExactCopyValueWrong : ChangeSpec := { name := "fnExactCopyValue", fn := fun _ => fun
  | [d] => { results := [.lit (.bool false)], args := [d] }
  | _ => none }
def FnExactCopyValueWrongFalsely : Prop := fnExactCopyValueRow.holds Try.pinned (OpenSpec.ofChange fnExactCopyValueWrong)

/-- 'laws.FnValues': WHATEVER THE INPUT: true; the input reads as it did. -/
def fnValuesSpec : ChangeSpec := { name := "fnValues", fn := fun _ => fun
  | [d] => { results := [.lit (.bool true)], args := [d] }
  | _ => none }
def fnValuesRow : OpenClaim := { program := "ytnecoghfhcimeaa", sum := "0113820296fc92aebcebe3b056c7b98fa8086517057d3418b15b6a3252117367", func := "loop.example/g00518/laws.FnValues", spec := "fnValues", unfollowed := true, recurses := true, apart := false }
def FnValuesSaid : Prop := fnValuesRow.holds Try.pinned (OpenSpec.ofChange fnValuesSpec)

/-- ITS FALSE NEIGHBOUR: 'it returns false'. Refute it at one input. -/
def fnValuesWrong : ChangeSpec := { name := "fnValues", fn := fun _ => fun
  | [d] => { results := [.lit (.bool false)], args := [d] }
  | _ => none }
def FnValuesWrongFalsely : Prop := fnValuesRow.holds Try.pinned (OpenSpec.ofChange fnValuesWrong)

/-- 'laws.FnTags': WHATEVER THE INPUT: true; the input reads as it did. -/
def fnTagsSpec : ChangeSpec := { name := "fnTags", fn := fun _ => fun
  | [d] => { results := [.lit (.bool true)], args := [d] }
  | _ => none }
def fnTagsRow : OpenClaim := { program := "ytnecoghfhcimeaa", sum := "0113820296fc92aebcebe3b056c7b98fa8086517057d3418b15b6a3252117367", func := "loop.example/g00518/laws.FnTags", spec := "fnTags", recurses := true, apart := false }
def FnTagsSaid : Prop := fnTagsRow.holds Try.pinned (OpenSpec.ofChange fnTagsSpec)

/-- ITS FALSE NEIGHBOUR: 'it returns false'. Refute it at one input. -/
def fnTagsWrong : ChangeSpec := { name := "fnTags", fn := fun _ => fun
  | [d] => { results := [.lit (.bool false)], args := [d] }
  | _ => none }
def FnTagsWrongFalsely : Prop := fnTagsRow.holds Try.pinned (OpenSpec.ofChange fnTagsWrong)

/-- 'laws.FnCompiledRules': WHATEVER THE INPUT: true; the input reads as it did. -/
def fnCompiledRulesSpec : ChangeSpec := { name := "fnCompiledRules", fn := fun _ => fun
  | [d] => { results := [.lit (.bool true)], args := [d] }
  | _ => none }
def fnCompiledRulesRow : OpenClaim := { program := "ytnecoghfhcimeaa", sum := "0113820296fc92aebcebe3b056c7b98fa8086517057d3418b15b6a3252117367", func := "loop.example/g00518/laws.FnCompiledRules", spec := "fnCompiledRules", unfollowed := true, recurses := true, apart := false }
def FnCompiledRulesSaid : Prop := fnCompiledRulesRow.holds Try.pinned (OpenSpec.ofChange fnCompiledRulesSpec)

/-- ITS FALSE NEIGHBOUR: 'it returns false'. Refute it at one input. -/
def fnCompiledRulesWrong : ChangeSpec := { name := "fnCompiledRules", fn := fun _ => fun
  | [d] => { results := [.lit (.bool false)], args := [d] }
  | _ => none }
def FnCompiledRulesWrongFalsely : Prop := fnCompiledRulesRow.holds Try.pinned (OpenSpec.ofChange fnCompiledRulesWrong)

/-- 'laws.FnFirstBytes': WHATEVER THE INPUT: true; the input reads as it did. -/
def fnFirstBytesSpec : ChangeSpec := { name := "fnFirstBytes", fn := fun _ => fun
  | [d] => { results := [.lit (.bool true)], args := [d] }
  | _ => none }
def fnFirstBytesRow : OpenClaim := { program := "ytnecoghfhcimeaa", sum := "0113820296fc92aebcebe3b056c7b98fa8086517057d3418b15b6a3252117367", func := "loop.example/g00518/laws.FnFirstBytes", spec := "fnFirstBytes", recurses := true, apart := false }
def FnFirstBytesSaid : Prop := fnFirstBytesRow.holds Try.pinned (OpenSpec.ofChange fnFirstBytesSpec)

/-- ITS FALSE NEIGHBOUR: 'it returns false'. Refute it at one input. -/
def fnFirstBytesWrong : ChangeSpec := { name := "fnFirstBytes", fn := fun _ => fun
  | [d] => { results := [.lit (.bool false)], args := [d] }
  | _ => none }
def FnFirstBytesWrongFalsely : Prop := fnFirstBytesRow.holds Try.pinned (OpenSpec.ofChange fnFirstBytesWrong)

/-- 'laws.FnMachineBounds': WHATEVER THE INPUT: true; the input reads as it did. -/
def fnMachineBoundsSpec : ChangeSpec := { name := "fnMachineBounds", fn := fun _ => fun
  | [d] => { results := [.lit (.bool true)], args := [d] }
  | _ => none }
def fnMachineBoundsRow : OpenClaim := { program := "ytnecoghfhcimeaa", sum := "0113820296fc92aebcebe3b056c7b98fa8086517057d3418b15b6a3252117367", func := "loop.example/g00518/laws.FnMachineBounds", spec := "fnMachineBounds", unfollowed := true, recurses := true, apart := false }
def FnMachineBoundsSaid : Prop := fnMachineBoundsRow.holds Try.pinned (OpenSpec.ofChange fnMachineBoundsSpec)

/-- ITS FALSE NEIGHBOUR: 'it returns false'. Refute it at one input. -/
def fnMachineBoundsWrong : ChangeSpec := { name := "fnMachineBounds", fn := fun _ => fun
  | [d] => { results := [.lit (.bool false)], args := [d] }
  | _ => none }
def FnMachineBoundsWrongFalsely : Prop := fnMachineBoundsRow.holds Try.pinned (OpenSpec.ofChange fnMachineBoundsWrong)

/-- 'laws.FnUnsafeCode': WHATEVER THE INPUT: true; the input reads as it did. -/
def fnUnsafeCodeSpec : ChangeSpec := { name := "fnUnsafeCode", fn := fun _ => fun
  | [d] => { results := [.lit (.bool true)], args := [d] }
  | _ => none }
def fnUnsafeCodeRow : OpenClaim := { program := "ytnecoghfhcimeaa", sum := "0113820296fc92aebcebe3b056c7b98fa8086517057d3418b15b6a3252117367", func := "loop.example/g00518/laws.FnUnsafeCode", spec := "fnUnsafeCode", unfollowed := true, recurses := true, apart := false }
def FnUnsafeCodeSaid : Prop := fnUnsafeCodeRow.holds Try.pinned (OpenSpec.ofChange fnUnsafeCodeSpec)

/-- ITS FALSE NEIGHBOUR: 'it returns false'. Refute it at one input. -/
def fnUnsafeCodeWrong : ChangeSpec := { name := "fnUnsafeCode", fn := fun _ => fun
  | [d] => { results := [.lit (.bool false)], args := [d] }
  | _ => none }
def FnUnsafeCodeWrongFalsely : Prop := fnUnsafeCodeRow.holds Try.pinned (OpenSpec.ofChange fnUnsafeCodeWrong)

/- THE SECOND FORM. 'bulk': how many values and letters a reading holds, each counted each time it is reached (what is shared counts as often as it is met; a slice's spare places count too). A statement '..UptoSaid' is the law's where the arguments, and the package variables that the reading takes, are together of bulk at most 1048576: NARROWER than '..Said'. Prove '..Said' where nothing that the law and all that it calls make is longer than what came in: it says more and counts as full. Else prove '..UptoSaid'. A law counts once. -/
mutual
def uptoBulk {H : Type} : DataW H → Nat
  | .lit (.string bytes) => bytes.length + 1
  | .lit _ => 1
  | .nil => 1
  | .ptr d => uptoBulk d + 1
  | .slice elems spare => uptoBulkAll elems + uptoBulkAll spare + 1
  | .agg parts => uptoBulkAll parts + 1
  | .iface _ d => uptoBulk d + 1
  | .map entries => uptoBulkEntries entries + 1
  | .held _ => 1
def uptoBulkAll {H : Type} : List (DataW H) → Nat
  | [] => 0
  | d :: r => uptoBulk d + uptoBulkAll r
def uptoBulkEntries {H : Type} : List (Lit × DataW H) → Nat
  | [] => 0
  | x :: r => uptoBulkEntry x + uptoBulkEntries r
def uptoBulkEntry {H : Type} : Lit × DataW H → Nat
  | (.string bytes, d) => bytes.length + uptoBulk d + 1
  | (_, d) => uptoBulk d + 1
 end
def uptoSmall : (H : Type) → List (DataW H) → Bool := fun _ ds => decide (uptoBulkAll ds ≤ 1048576)
def OpenSpec.upto (s : _root_.Go.ChangeSpec) : _root_.Go.OpenSpec := { _root_.Go.OpenSpec.ofChange s with cond := some uptoSmall }

/-- 'laws.FnExactCopyValue', WHERE WHAT IT READS IS OF BULK AT MOST 1048576: true; the input reads as it did. -/
def fnExactCopyValueUptoRow : OpenClaim := { program := "ytnecoghfhcimeaa", sum := "0113820296fc92aebcebe3b056c7b98fa8086517057d3418b15b6a3252117367", func := "loop.example/g00518/laws.FnExactCopyValue", spec := "fnExactCopyValue", recurses := true, loops := true, apart := false, narrowed := true }
def FnExactCopyValueUptoSaid : Prop := fnExactCopyValueUptoRow.holds Try.pinned (OpenSpec.upto fnExactCopyValueSpec)

/-- 'laws.FnValues', WHERE WHAT IT READS IS OF BULK AT MOST 1048576: true; the input reads as it did. -/
def fnValuesUptoRow : OpenClaim := { program := "ytnecoghfhcimeaa", sum := "0113820296fc92aebcebe3b056c7b98fa8086517057d3418b15b6a3252117367", func := "loop.example/g00518/laws.FnValues", spec := "fnValues", unfollowed := true, recurses := true, apart := false, narrowed := true }
def FnValuesUptoSaid : Prop := fnValuesUptoRow.holds Try.pinned (OpenSpec.upto fnValuesSpec)

/-- 'laws.FnTags', WHERE WHAT IT READS IS OF BULK AT MOST 1048576: true; the input reads as it did. -/
def fnTagsUptoRow : OpenClaim := { program := "ytnecoghfhcimeaa", sum := "0113820296fc92aebcebe3b056c7b98fa8086517057d3418b15b6a3252117367", func := "loop.example/g00518/laws.FnTags", spec := "fnTags", recurses := true, apart := false, narrowed := true }
def FnTagsUptoSaid : Prop := fnTagsUptoRow.holds Try.pinned (OpenSpec.upto fnTagsSpec)

/-- 'laws.FnCompiledRules', WHERE WHAT IT READS IS OF BULK AT MOST 1048576: true; the input reads as it did. -/
def fnCompiledRulesUptoRow : OpenClaim := { program := "ytnecoghfhcimeaa", sum := "0113820296fc92aebcebe3b056c7b98fa8086517057d3418b15b6a3252117367", func := "loop.example/g00518/laws.FnCompiledRules", spec := "fnCompiledRules", unfollowed := true, recurses := true, apart := false, narrowed := true }
def FnCompiledRulesUptoSaid : Prop := fnCompiledRulesUptoRow.holds Try.pinned (OpenSpec.upto fnCompiledRulesSpec)

/-- 'laws.FnFirstBytes', WHERE WHAT IT READS IS OF BULK AT MOST 1048576: true; the input reads as it did. -/
def fnFirstBytesUptoRow : OpenClaim := { program := "ytnecoghfhcimeaa", sum := "0113820296fc92aebcebe3b056c7b98fa8086517057d3418b15b6a3252117367", func := "loop.example/g00518/laws.FnFirstBytes", spec := "fnFirstBytes", recurses := true, apart := false, narrowed := true }
def FnFirstBytesUptoSaid : Prop := fnFirstBytesUptoRow.holds Try.pinned (OpenSpec.upto fnFirstBytesSpec)

/-- 'laws.FnMachineBounds', WHERE WHAT IT READS IS OF BULK AT MOST 1048576: true; the input reads as it did. -/
def fnMachineBoundsUptoRow : OpenClaim := { program := "ytnecoghfhcimeaa", sum := "0113820296fc92aebcebe3b056c7b98fa8086517057d3418b15b6a3252117367", func := "loop.example/g00518/laws.FnMachineBounds", spec := "fnMachineBounds", unfollowed := true, recurses := true, apart := false, narrowed := true }
def FnMachineBoundsUptoSaid : Prop := fnMachineBoundsUptoRow.holds Try.pinned (OpenSpec.upto fnMachineBoundsSpec)

/-- 'laws.FnUnsafeCode', WHERE WHAT IT READS IS OF BULK AT MOST 1048576: true; the input reads as it did. -/
def fnUnsafeCodeUptoRow : OpenClaim := { program := "ytnecoghfhcimeaa", sum := "0113820296fc92aebcebe3b056c7b98fa8086517057d3418b15b6a3252117367", func := "loop.example/g00518/laws.FnUnsafeCode", spec := "fnUnsafeCode", unfollowed := true, recurses := true, apart := false, narrowed := true }
def FnUnsafeCodeUptoSaid : Prop := fnUnsafeCodeUptoRow.holds Try.pinned (OpenSpec.upto fnUnsafeCodeSpec)

end Rows
end Go.Proofs.Ytnecoghfhcimeaa
