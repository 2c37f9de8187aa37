/-
  NARROWER THAN 'FOR EVERY INPUT', by the rows' own cells (each row's printed sentence says how): FnExactItemRule: loops · FnExactIsValidValue: loops.
  DERIVED. THE GIVEN ROWS OF THIS SEAT. 6 by the template 'for every input the law returns true; each argument reads behind the call as it read before'; 0 by the template 'total and deterministic' (their statements: YtignpklaefibaaaTotals.lean).
  GIVEN WITH THE SEED: the statements are not yours to turn. If you find one false, say at which input.
  Laid BY PROGRAM, IN A SANDBOX (cutbox-rows.mjs): the forced cells as the released guide's own fill.sh prints them over the translation 1f636c18ddbb897e… (all of the seat's roots in one cut). By AI agents, Wed Nov 11 2026. No macro, syntax, notation, axiom, sorry.
-/
import Derived.Test.YtignpklaefibaaaChecked
import GoSem.Claim
import GoSem.ClaimJoined
import GoSem.ClaimMapViews
import Derived.JoinedTies
import Derived.KernelRfl
namespace Go.Proofs.Ytignpklaefibaaa
/- THE CELL 'sum', in the pinned program and in every row, IS THE sha256 OF THE DUMP (.gsa) THAT YtignpklaefibaaaProg.lean LOADS. Nothing in Lean hashes anything: it is a label: what it is worth is what the hold of that sum in a sandbox is worth. -/
noncomputable def Try.pinned : Pinned := { name := "ytignpklaefibaaa", sum := "1f636c18ddbb897ede7f7684a2cc785b0d2b355bd6273733d565f20808f621e1", checked := Try.checked }
namespace Rows
def none {H : Type} : Left H := { results := [], args := [] }

/-- 'laws.FnExactItemRule': WHATEVER THE INPUT: true; the input reads as it did. -/
def fnExactItemRuleSpec : ChangeSpec := { name := "fnExactItemRule", fn := fun _ => fun
  | [d1, d2, d3, d4] => { results := [.lit (.bool true)], args := [d1, d2, d3, d4] }
  | _ => none }
def fnExactItemRuleRow : OpenClaim := { program := "ytignpklaefibaaa", sum := "1f636c18ddbb897ede7f7684a2cc785b0d2b355bd6273733d565f20808f621e1", func := "loop.example/g00518/laws.FnExactItemRule", spec := "fnExactItemRule", recurses := true, loops := true, apart := false }
def FnExactItemRuleSaid : Prop := fnExactItemRuleRow.holds Try.pinned (OpenSpec.ofChange fnExactItemRuleSpec)

/-- ITS FALSE NEIGHBOUR: 'it returns false'. Refute it at one input. -/
def fnExactItemRuleWrong : ChangeSpec := { name := "fnExactItemRule", fn := fun _ => fun
  | [d1, d2, d3, d4] => { results := [.lit (.bool false)], args := [d1, d2, d3, d4] }
  | _ => none }
def FnExactItemRuleWrongFalsely : Prop := fnExactItemRuleRow.holds Try.pinned (OpenSpec.ofChange fnExactItemRuleWrong)

/-- 'laws.FnExactCodeSize': WHATEVER THE INPUT: true; the input reads as it did. -/
def fnExactCodeSizeSpec : ChangeSpec := { name := "fnExactCodeSize", fn := fun _ => fun
  | [d] => { results := [.lit (.bool true)], args := [d] }
  | _ => none }
def fnExactCodeSizeRow : OpenClaim := { program := "ytignpklaefibaaa", sum := "1f636c18ddbb897ede7f7684a2cc785b0d2b355bd6273733d565f20808f621e1", func := "loop.example/g00518/laws.FnExactCodeSize", spec := "fnExactCodeSize", unfollowed := true, recurses := true, apart := false }
def FnExactCodeSizeSaid : Prop := fnExactCodeSizeRow.holds Try.pinned (OpenSpec.ofChange fnExactCodeSizeSpec)

/-- ITS FALSE NEIGHBOUR: 'it returns false'. Refute it at one input. -/
def fnExactCodeSizeWrong : ChangeSpec := { name := "fnExactCodeSize", fn := fun _ => fun
  | [d] => { results := [.lit (.bool false)], args := [d] }
  | _ => none }
def FnExactCodeSizeWrongFalsely : Prop := fnExactCodeSizeRow.holds Try.pinned (OpenSpec.ofChange fnExactCodeSizeWrong)

/-- 'laws.FnExactDefaultValue': WHATEVER THE INPUT: true; the input reads as it did. -/
def fnExactDefaultValueSpec : ChangeSpec := { name := "fnExactDefaultValue", fn := fun _ => fun
  | [d1, d2] => { results := [.lit (.bool true)], args := [d1, d2] }
  | _ => none }
def fnExactDefaultValueRow : OpenClaim := { program := "ytignpklaefibaaa", sum := "1f636c18ddbb897ede7f7684a2cc785b0d2b355bd6273733d565f20808f621e1", func := "loop.example/g00518/laws.FnExactDefaultValue", spec := "fnExactDefaultValue", recurses := true, apart := false }
def FnExactDefaultValueSaid : Prop := fnExactDefaultValueRow.holds Try.pinned (OpenSpec.ofChange fnExactDefaultValueSpec)

/-- ITS FALSE NEIGHBOUR: 'it returns false'. Refute it at one input. -/
def fnExactDefaultValueWrong : ChangeSpec := { name := "fnExactDefaultValue", fn := fun _ => fun
  | [d1, d2] => { results := [.lit (.bool false)], args := [d1, d2] }
  | _ => none }
def FnExactDefaultValueWrongFalsely : Prop := fnExactDefaultValueRow.holds Try.pinned (OpenSpec.ofChange fnExactDefaultValueWrong)

/-- 'laws.FnExactIsValidValue': WHATEVER THE INPUT: true; the input reads as it did. -/
def fnExactIsValidValueSpec : ChangeSpec := { name := "fnExactIsValidValue", fn := fun _ => fun
  | [d1, d2, d3] => { results := [.lit (.bool true)], args := [d1, d2, d3] }
  | _ => none }
def fnExactIsValidValueRow : OpenClaim := { program := "ytignpklaefibaaa", sum := "1f636c18ddbb897ede7f7684a2cc785b0d2b355bd6273733d565f20808f621e1", func := "loop.example/g00518/laws.FnExactIsValidValue", spec := "fnExactIsValidValue", unfollowed := true, recurses := true, loops := true, apart := false }
def FnExactIsValidValueSaid : Prop := fnExactIsValidValueRow.holds Try.pinned (OpenSpec.ofChange fnExactIsValidValueSpec)

/-- ITS FALSE NEIGHBOUR: 'it returns false'. Refute it at one input. -/
def fnExactIsValidValueWrong : ChangeSpec := { name := "fnExactIsValidValue", fn := fun _ => fun
  | [d1, d2, d3] => { results := [.lit (.bool false)], args := [d1, d2, d3] }
  | _ => none }
def FnExactIsValidValueWrongFalsely : Prop := fnExactIsValidValueRow.holds Try.pinned (OpenSpec.ofChange fnExactIsValidValueWrong)

/-- 'laws.FnExactCompileRule': WHATEVER THE INPUT: true; the input reads as it did. -/
def fnExactCompileRuleSpec : ChangeSpec := { name := "fnExactCompileRule", fn := fun _ => fun
  | [d1, d2, d3, d4] => { results := [.lit (.bool true)], args := [d1, d2, d3, d4] }
  | _ => none }
def fnExactCompileRuleRow : OpenClaim := { program := "ytignpklaefibaaa", sum := "1f636c18ddbb897ede7f7684a2cc785b0d2b355bd6273733d565f20808f621e1", func := "loop.example/g00518/laws.FnExactCompileRule", spec := "fnExactCompileRule", unfollowed := true, recurses := true, apart := false }
def FnExactCompileRuleSaid : Prop := fnExactCompileRuleRow.holds Try.pinned (OpenSpec.ofChange fnExactCompileRuleSpec)

/-- ITS FALSE NEIGHBOUR: 'it returns false'. Refute it at one input. -/
def fnExactCompileRuleWrong : ChangeSpec := { name := "fnExactCompileRule", fn := fun _ => fun
  | [d1, d2, d3, d4] => { results := [.lit (.bool false)], args := [d1, d2, d3, d4] }
  | _ => none }
def FnExactCompileRuleWrongFalsely : Prop := fnExactCompileRuleRow.holds Try.pinned (OpenSpec.ofChange fnExactCompileRuleWrong)

/-- 'laws.FnExactCompileDescription': WHATEVER THE INPUT: true; the input reads as it did. -/
def fnExactCompileDescriptionSpec : ChangeSpec := { name := "fnExactCompileDescription", fn := fun _ => fun
  | [d] => { results := [.lit (.bool true)], args := [d] }
  | _ => none }
def fnExactCompileDescriptionRow : OpenClaim := { program := "ytignpklaefibaaa", sum := "1f636c18ddbb897ede7f7684a2cc785b0d2b355bd6273733d565f20808f621e1", func := "loop.example/g00518/laws.FnExactCompileDescription", spec := "fnExactCompileDescription", unfollowed := true, recurses := true, apart := false }
def FnExactCompileDescriptionSaid : Prop := fnExactCompileDescriptionRow.holds Try.pinned (OpenSpec.ofChange fnExactCompileDescriptionSpec)

/-- ITS FALSE NEIGHBOUR: 'it returns false'. Refute it at one input. -/
def fnExactCompileDescriptionWrong : ChangeSpec := { name := "fnExactCompileDescription", fn := fun _ => fun
  | [d] => { results := [.lit (.bool false)], args := [d] }
  | _ => none }
def FnExactCompileDescriptionWrongFalsely : Prop := fnExactCompileDescriptionRow.holds Try.pinned (OpenSpec.ofChange fnExactCompileDescriptionWrong)

/- THE SECOND FORM. 'bulk': how many values and letters a reading holds, each counted each time it is reached (what is shared counts as often as it is met; a slice's spare places count too). A statement '..UptoSaid' is the law's where the arguments, and the package variables that the reading takes, are together of bulk at most 1048576: NARROWER than '..Said'. Prove '..Said' where nothing that the law and all that it calls make is longer than what came in: it says more and counts as full. Else prove '..UptoSaid'. A law counts once. -/
mutual
def uptoBulk {H : Type} : DataW H → Nat
  | .lit (.string bytes) => bytes.length + 1
  | .lit _ => 1
  | .nil => 1
  | .ptr d => uptoBulk d + 1
  | .slice elems spare => uptoBulkAll elems + uptoBulkAll spare + 1
  | .agg parts => uptoBulkAll parts + 1
  | .iface _ d => uptoBulk d + 1
  | .map entries => uptoBulkEntries entries + 1
  | .held _ => 1
def uptoBulkAll {H : Type} : List (DataW H) → Nat
  | [] => 0
  | d :: r => uptoBulk d + uptoBulkAll r
def uptoBulkEntries {H : Type} : List (Lit × DataW H) → Nat
  | [] => 0
  | x :: r => uptoBulkEntry x + uptoBulkEntries r
def uptoBulkEntry {H : Type} : Lit × DataW H → Nat
  | (.string bytes, d) => bytes.length + uptoBulk d + 1
  | (_, d) => uptoBulk d + 1
 end
def uptoSmall : (H : Type) → List (DataW H) → Bool := fun _ ds => decide (uptoBulkAll ds ≤ 1048576)
def OpenSpec.upto (s : _root_.Go.ChangeSpec) : _root_.Go.OpenSpec := { _root_.Go.OpenSpec.ofChange s with cond := some uptoSmall }

/-- 'laws.FnExactItemRule', WHERE WHAT IT READS IS OF BULK AT MOST 1048576: true; the input reads as it did. -/
def fnExactItemRuleUptoRow : OpenClaim := { program := "ytignpklaefibaaa", sum := "1f636c18ddbb897ede7f7684a2cc785b0d2b355bd6273733d565f20808f621e1", func := "loop.example/g00518/laws.FnExactItemRule", spec := "fnExactItemRule", recurses := true, loops := true, apart := false, narrowed := true }
def FnExactItemRuleUptoSaid : Prop := fnExactItemRuleUptoRow.holds Try.pinned (OpenSpec.upto fnExactItemRuleSpec)

/-- 'laws.FnExactCodeSize', WHERE WHAT IT READS IS OF BULK AT MOST 1048576: true; the input reads as it did. -/
def fnExactCodeSizeUptoRow : OpenClaim := { program := "ytignpklaefibaaa", sum := "1f636c18ddbb897ede7f7684a2cc785b0d2b355bd6273733d565f20808f621e1", func := "loop.example/g00518/laws.FnExactCodeSize", spec := "fnExactCodeSize", unfollowed := true, recurses := true, apart := false, narrowed := true }
def FnExactCodeSizeUptoSaid : Prop := fnExactCodeSizeUptoRow.holds Try.pinned (OpenSpec.upto fnExactCodeSizeSpec)

/-- 'laws.FnExactDefaultValue', WHERE WHAT IT READS IS OF BULK AT MOST 1048576: true; the input reads as it did. -/
def fnExactDefaultValueUptoRow : OpenClaim := { program := "ytignpklaefibaaa", sum := "1f636c18ddbb897ede7f7684a2cc785b0d2b355bd6273733d565f20808f621e1", func := "loop.example/g00518/laws.FnExactDefaultValue", spec := "fnExactDefaultValue", recurses := true, apart := false, narrowed := true }
def FnExactDefaultValueUptoSaid : Prop := fnExactDefaultValueUptoRow.holds Try.pinned (OpenSpec.upto fnExactDefaultValueSpec)

/-- 'laws.FnExactIsValidValue', WHERE WHAT IT READS IS OF BULK AT MOST 1048576: true; the input reads as it did. -/
def fnExactIsValidValueUptoRow : OpenClaim := { program := "ytignpklaefibaaa", sum := "1f636c18ddbb897ede7f7684a2cc785b0d2b355bd6273733d565f20808f621e1", func := "loop.example/g00518/laws.FnExactIsValidValue", spec := "fnExactIsValidValue", unfollowed := true, recurses := true, loops := true, apart := false, narrowed := true }
def FnExactIsValidValueUptoSaid : Prop := fnExactIsValidValueUptoRow.holds Try.pinned (OpenSpec.upto fnExactIsValidValueSpec)

/-- 'laws.FnExactCompileRule', WHERE WHAT IT READS IS OF BULK AT MOST 1048576: true; the input reads as it did. -/
def fnExactCompileRuleUptoRow : OpenClaim := { program := "ytignpklaefibaaa", sum := "1f636c18ddbb897ede7f7684a2cc785b0d2b355bd6273733d565f20808f621e1", func := "loop.example/g00518/laws.FnExactCompileRule", spec := "fnExactCompileRule", unfollowed := true, recurses := true, apart := false, narrowed := true }
def FnExactCompileRuleUptoSaid : Prop := fnExactCompileRuleUptoRow.holds Try.pinned (OpenSpec.upto fnExactCompileRuleSpec)

/-- 'laws.FnExactCompileDescription', WHERE WHAT IT READS IS OF BULK AT MOST 1048576: true; the input reads as it did. -/
def fnExactCompileDescriptionUptoRow : OpenClaim := { program := "ytignpklaefibaaa", sum := "1f636c18ddbb897ede7f7684a2cc785b0d2b355bd6273733d565f20808f621e1", func := "loop.example/g00518/laws.FnExactCompileDescription", spec := "fnExactCompileDescription", unfollowed := true, recurses := true, apart := false, narrowed := true }
def FnExactCompileDescriptionUptoSaid : Prop := fnExactCompileDescriptionUptoRow.holds Try.pinned (OpenSpec.upto fnExactCompileDescriptionSpec)

end Rows
end Go.Proofs.Ytignpklaefibaaa
