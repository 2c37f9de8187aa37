/-
  No cell of these rows narrows 'for every input' (looked for: loops, veiled, ifaces, maps, wideKeys, modest, calm, conditions, laid).
  DERIVED. THE GIVEN ROWS OF THIS SEAT. 12 by the template 'for every input the law returns true; each argument reads behind the call as it read before'; 0 by the template 'total and deterministic' (their statements: YtcifgbmmnkilfaaTotals.lean).
  GIVEN WITH THE SEED: the statements are not yours to turn. If you find one false, say at which input.
  Laid BY PROGRAM, IN A SANDBOX (cutbox-rows.mjs): the forced cells as the released guide's own fill.sh prints them over the translation 6551b00d8c2a4fd7… (all of the seat's roots in one cut). By AI agents, Wed Nov 11 2026. No macro, syntax, notation, axiom, sorry.
-/
import Derived.Test.YtcifgbmmnkilfaaChecked
import GoSem.Claim
import GoSem.ClaimJoined
import GoSem.ClaimMapViews
import Derived.JoinedTies
import Derived.KernelRfl
namespace Go.Proofs.Ytcifgbmmnkilfaa
/- THE CELL 'sum', in the pinned program and in every row, IS THE sha256 OF THE DUMP (.gsa) THAT YtcifgbmmnkilfaaProg.lean LOADS. Nothing in Lean hashes anything: it is a label: what it is worth is what the hold of that sum in a sandbox is worth. -/
noncomputable def Try.pinned : Pinned := { name := "ytcifgbmmnkilfaa", sum := "6551b00d8c2a4fd73846cde5e716f52487c074484d114dfae255c1df9a35de32", checked := Try.checked }
namespace Rows
def none {H : Type} : Left H := { results := [], args := [] }

/-- 'laws.FnExactApplicationBound': WHATEVER THE INPUT: true; the input reads as it did. -/
def fnExactApplicationBoundSpec : ChangeSpec := { name := "fnExactApplicationBound", fn := fun _ => fun
  | [d1, d2] => { results := [.lit (.bool true)], args := [d1, d2] }
  | _ => none }
def fnExactApplicationBoundRow : OpenClaim := { program := "ytcifgbmmnkilfaa", sum := "6551b00d8c2a4fd73846cde5e716f52487c074484d114dfae255c1df9a35de32", func := "loop.example/g00518/laws.FnExactApplicationBound", spec := "fnExactApplicationBound", apart := false }
def FnExactApplicationBoundSaid : Prop := fnExactApplicationBoundRow.holds Try.pinned (OpenSpec.ofChange fnExactApplicationBoundSpec)

/-- ITS FALSE NEIGHBOUR: 'it returns false'. Refute it at one input. -/
def fnExactApplicationBoundWrong : ChangeSpec := { name := "fnExactApplicationBound", fn := fun _ => fun
  | [d1, d2] => { results := [.lit (.bool false)], args := [d1, d2] }
  | _ => none }
def FnExactApplicationBoundWrongFalsely : Prop := fnExactApplicationBoundRow.holds Try.pinned (OpenSpec.ofChange fnExactApplicationBoundWrong)

/-- 'laws.FnExactIsBinaryOnly': WHATEVER THE INPUT: true; the input reads as it did. -/
def fnExactIsBinaryOnlySpec : ChangeSpec := { name := "fnExactIsBinaryOnly", fn := fun _ => fun
  | [d] => { results := [.lit (.bool true)], args := [d] }
  | _ => none }
def fnExactIsBinaryOnlyRow : OpenClaim := { program := "ytcifgbmmnkilfaa", sum := "6551b00d8c2a4fd73846cde5e716f52487c074484d114dfae255c1df9a35de32", func := "loop.example/g00518/laws.FnExactIsBinaryOnly", spec := "fnExactIsBinaryOnly", apart := false }
def FnExactIsBinaryOnlySaid : Prop := fnExactIsBinaryOnlyRow.holds Try.pinned (OpenSpec.ofChange fnExactIsBinaryOnlySpec)

/-- ITS FALSE NEIGHBOUR: 'it returns false'. Refute it at one input. -/
def fnExactIsBinaryOnlyWrong : ChangeSpec := { name := "fnExactIsBinaryOnly", fn := fun _ => fun
  | [d] => { results := [.lit (.bool false)], args := [d] }
  | _ => none }
def FnExactIsBinaryOnlyWrongFalsely : Prop := fnExactIsBinaryOnlyRow.holds Try.pinned (OpenSpec.ofChange fnExactIsBinaryOnlyWrong)

/-- 'laws.FnExactAllCanonical': WHATEVER THE INPUT: true; the input reads as it did. -/
def fnExactAllCanonicalSpec : ChangeSpec := { name := "fnExactAllCanonical", fn := fun _ => fun
  | [d] => { results := [.lit (.bool true)], args := [d] }
  | _ => none }
def fnExactAllCanonicalRow : OpenClaim := { program := "ytcifgbmmnkilfaa", sum := "6551b00d8c2a4fd73846cde5e716f52487c074484d114dfae255c1df9a35de32", func := "loop.example/g00518/laws.FnExactAllCanonical", spec := "fnExactAllCanonical", apart := false }
def FnExactAllCanonicalSaid : Prop := fnExactAllCanonicalRow.holds Try.pinned (OpenSpec.ofChange fnExactAllCanonicalSpec)

/-- ITS FALSE NEIGHBOUR: 'it returns false'. Refute it at one input. -/
def fnExactAllCanonicalWrong : ChangeSpec := { name := "fnExactAllCanonical", fn := fun _ => fun
  | [d] => { results := [.lit (.bool false)], args := [d] }
  | _ => none }
def FnExactAllCanonicalWrongFalsely : Prop := fnExactAllCanonicalRow.holds Try.pinned (OpenSpec.ofChange fnExactAllCanonicalWrong)

/-- 'laws.FnExactCanStart': WHATEVER THE INPUT: true; the input reads as it did. -/
def fnExactCanStartSpec : ChangeSpec := { name := "fnExactCanStart", fn := fun _ => fun
  | [d1, d2, d3] => { results := [.lit (.bool true)], args := [d1, d2, d3] }
  | _ => none }
def fnExactCanStartRow : OpenClaim := { program := "ytcifgbmmnkilfaa", sum := "6551b00d8c2a4fd73846cde5e716f52487c074484d114dfae255c1df9a35de32", func := "loop.example/g00518/laws.FnExactCanStart", spec := "fnExactCanStart", recurses := true, apart := false }
def FnExactCanStartSaid : Prop := fnExactCanStartRow.holds Try.pinned (OpenSpec.ofChange fnExactCanStartSpec)

/-- ITS FALSE NEIGHBOUR: 'it returns false'. Refute it at one input. -/
def fnExactCanStartWrong : ChangeSpec := { name := "fnExactCanStart", fn := fun _ => fun
  | [d1, d2, d3] => { results := [.lit (.bool false)], args := [d1, d2, d3] }
  | _ => none }
def FnExactCanStartWrongFalsely : Prop := fnExactCanStartRow.holds Try.pinned (OpenSpec.ofChange fnExactCanStartWrong)

/-- 'laws.FnExactUsedRules': WHATEVER THE INPUT: true; the input reads as it did. -/
def fnExactUsedRulesSpec : ChangeSpec := { name := "fnExactUsedRules", fn := fun _ => fun
  | [d1, d2] => { results := [.lit (.bool true)], args := [d1, d2] }
  | _ => none }
def fnExactUsedRulesRow : OpenClaim := { program := "ytcifgbmmnkilfaa", sum := "6551b00d8c2a4fd73846cde5e716f52487c074484d114dfae255c1df9a35de32", func := "loop.example/g00518/laws.FnExactUsedRules", spec := "fnExactUsedRules", apart := false }
def FnExactUsedRulesSaid : Prop := fnExactUsedRulesRow.holds Try.pinned (OpenSpec.ofChange fnExactUsedRulesSpec)

/-- ITS FALSE NEIGHBOUR: 'it returns false'. Refute it at one input. -/
def fnExactUsedRulesWrong : ChangeSpec := { name := "fnExactUsedRules", fn := fun _ => fun
  | [d1, d2] => { results := [.lit (.bool false)], args := [d1, d2] }
  | _ => none }
def FnExactUsedRulesWrongFalsely : Prop := fnExactUsedRulesRow.holds Try.pinned (OpenSpec.ofChange fnExactUsedRulesWrong)

/-- 'laws.FnExactCommonStart': WHATEVER THE INPUT: true; the input reads as it did. -/
def fnExactCommonStartSpec : ChangeSpec := { name := "fnExactCommonStart", fn := fun _ => fun
  | [d1, d2, d3] => { results := [.lit (.bool true)], args := [d1, d2, d3] }
  | _ => none }
def fnExactCommonStartRow : OpenClaim := { program := "ytcifgbmmnkilfaa", sum := "6551b00d8c2a4fd73846cde5e716f52487c074484d114dfae255c1df9a35de32", func := "loop.example/g00518/laws.FnExactCommonStart", spec := "fnExactCommonStart", recurses := true, apart := false }
def FnExactCommonStartSaid : Prop := fnExactCommonStartRow.holds Try.pinned (OpenSpec.ofChange fnExactCommonStartSpec)

/-- ITS FALSE NEIGHBOUR: 'it returns false'. Refute it at one input. -/
def fnExactCommonStartWrong : ChangeSpec := { name := "fnExactCommonStart", fn := fun _ => fun
  | [d1, d2, d3] => { results := [.lit (.bool false)], args := [d1, d2, d3] }
  | _ => none }
def FnExactCommonStartWrongFalsely : Prop := fnExactCommonStartRow.holds Try.pinned (OpenSpec.ofChange fnExactCommonStartWrong)

/-- 'laws.FnExactCountFirstBytes': WHATEVER THE INPUT: true; the input reads as it did. -/
def fnExactCountFirstBytesSpec : ChangeSpec := { name := "fnExactCountFirstBytes", fn := fun _ => fun
  | [d1, d2] => { results := [.lit (.bool true)], args := [d1, d2] }
  | _ => none }
def fnExactCountFirstBytesRow : OpenClaim := { program := "ytcifgbmmnkilfaa", sum := "6551b00d8c2a4fd73846cde5e716f52487c074484d114dfae255c1df9a35de32", func := "loop.example/g00518/laws.FnExactCountFirstBytes", spec := "fnExactCountFirstBytes", recurses := true, apart := false }
def FnExactCountFirstBytesSaid : Prop := fnExactCountFirstBytesRow.holds Try.pinned (OpenSpec.ofChange fnExactCountFirstBytesSpec)

/-- ITS FALSE NEIGHBOUR: 'it returns false'. Refute it at one input. -/
def fnExactCountFirstBytesWrong : ChangeSpec := { name := "fnExactCountFirstBytes", fn := fun _ => fun
  | [d1, d2] => { results := [.lit (.bool false)], args := [d1, d2] }
  | _ => none }
def FnExactCountFirstBytesWrongFalsely : Prop := fnExactCountFirstBytesRow.holds Try.pinned (OpenSpec.ofChange fnExactCountFirstBytesWrong)

/-- 'laws.FnExactAreDisjoint': WHATEVER THE INPUT: true; the input reads as it did. -/
def fnExactAreDisjointSpec : ChangeSpec := { name := "fnExactAreDisjoint", fn := fun _ => fun
  | [d1, d2, d3] => { results := [.lit (.bool true)], args := [d1, d2, d3] }
  | _ => none }
def fnExactAreDisjointRow : OpenClaim := { program := "ytcifgbmmnkilfaa", sum := "6551b00d8c2a4fd73846cde5e716f52487c074484d114dfae255c1df9a35de32", func := "loop.example/g00518/laws.FnExactAreDisjoint", spec := "fnExactAreDisjoint", recurses := true, apart := false }
def FnExactAreDisjointSaid : Prop := fnExactAreDisjointRow.holds Try.pinned (OpenSpec.ofChange fnExactAreDisjointSpec)

/-- ITS FALSE NEIGHBOUR: 'it returns false'. Refute it at one input. -/
def fnExactAreDisjointWrong : ChangeSpec := { name := "fnExactAreDisjoint", fn := fun _ => fun
  | [d1, d2, d3] => { results := [.lit (.bool false)], args := [d1, d2, d3] }
  | _ => none }
def FnExactAreDisjointWrongFalsely : Prop := fnExactAreDisjointRow.holds Try.pinned (OpenSpec.ofChange fnExactAreDisjointWrong)

/-- 'laws.FnExactUnusedRules': WHATEVER THE INPUT: true; the input reads as it did. -/
def fnExactUnusedRulesSpec : ChangeSpec := { name := "fnExactUnusedRules", fn := fun _ => fun
  | [d] => { results := [.lit (.bool true)], args := [d] }
  | _ => none }
def fnExactUnusedRulesRow : OpenClaim := { program := "ytcifgbmmnkilfaa", sum := "6551b00d8c2a4fd73846cde5e716f52487c074484d114dfae255c1df9a35de32", func := "loop.example/g00518/laws.FnExactUnusedRules", spec := "fnExactUnusedRules", apart := false }
def FnExactUnusedRulesSaid : Prop := fnExactUnusedRulesRow.holds Try.pinned (OpenSpec.ofChange fnExactUnusedRulesSpec)

/-- ITS FALSE NEIGHBOUR: 'it returns false'. Refute it at one input. -/
def fnExactUnusedRulesWrong : ChangeSpec := { name := "fnExactUnusedRules", fn := fun _ => fun
  | [d] => { results := [.lit (.bool false)], args := [d] }
  | _ => none }
def FnExactUnusedRulesWrongFalsely : Prop := fnExactUnusedRulesRow.holds Try.pinned (OpenSpec.ofChange fnExactUnusedRulesWrong)

/-- 'laws.FnExactPrintInteger': WHATEVER THE INPUT: true; the input reads as it did. -/
def fnExactPrintIntegerSpec : ChangeSpec := { name := "fnExactPrintInteger", fn := fun _ => fun
  | [d1, d2, d3] => { results := [.lit (.bool true)], args := [d1, d2, d3] }
  | _ => none }
def fnExactPrintIntegerRow : OpenClaim := { program := "ytcifgbmmnkilfaa", sum := "6551b00d8c2a4fd73846cde5e716f52487c074484d114dfae255c1df9a35de32", func := "loop.example/g00518/laws.FnExactPrintInteger", spec := "fnExactPrintInteger", apart := false }
def FnExactPrintIntegerSaid : Prop := fnExactPrintIntegerRow.holds Try.pinned (OpenSpec.ofChange fnExactPrintIntegerSpec)

/-- ITS FALSE NEIGHBOUR: 'it returns false'. Refute it at one input. -/
def fnExactPrintIntegerWrong : ChangeSpec := { name := "fnExactPrintInteger", fn := fun _ => fun
  | [d1, d2, d3] => { results := [.lit (.bool false)], args := [d1, d2, d3] }
  | _ => none }
def FnExactPrintIntegerWrongFalsely : Prop := fnExactPrintIntegerRow.holds Try.pinned (OpenSpec.ofChange fnExactPrintIntegerWrong)

/-- 'laws.FnExactTagBytes': WHATEVER THE INPUT: true; the input reads as it did. -/
def fnExactTagBytesSpec : ChangeSpec := { name := "fnExactTagBytes", fn := fun _ => fun
  | [d1, d2, d3] => { results := [.lit (.bool true)], args := [d1, d2, d3] }
  | _ => none }
def fnExactTagBytesRow : OpenClaim := { program := "ytcifgbmmnkilfaa", sum := "6551b00d8c2a4fd73846cde5e716f52487c074484d114dfae255c1df9a35de32", func := "loop.example/g00518/laws.FnExactTagBytes", spec := "fnExactTagBytes", apart := false }
def FnExactTagBytesSaid : Prop := fnExactTagBytesRow.holds Try.pinned (OpenSpec.ofChange fnExactTagBytesSpec)

/-- ITS FALSE NEIGHBOUR: 'it returns false'. Refute it at one input. -/
def fnExactTagBytesWrong : ChangeSpec := { name := "fnExactTagBytes", fn := fun _ => fun
  | [d1, d2, d3] => { results := [.lit (.bool false)], args := [d1, d2, d3] }
  | _ => none }
def FnExactTagBytesWrongFalsely : Prop := fnExactTagBytesRow.holds Try.pinned (OpenSpec.ofChange fnExactTagBytesWrong)

/-- 'laws.FnExactOnlyStart': WHATEVER THE INPUT: true; the input reads as it did. -/
def fnExactOnlyStartSpec : ChangeSpec := { name := "fnExactOnlyStart", fn := fun _ => fun
  | [d1, d2] => { results := [.lit (.bool true)], args := [d1, d2] }
  | _ => none }
def fnExactOnlyStartRow : OpenClaim := { program := "ytcifgbmmnkilfaa", sum := "6551b00d8c2a4fd73846cde5e716f52487c074484d114dfae255c1df9a35de32", func := "loop.example/g00518/laws.FnExactOnlyStart", spec := "fnExactOnlyStart", recurses := true, apart := false }
def FnExactOnlyStartSaid : Prop := fnExactOnlyStartRow.holds Try.pinned (OpenSpec.ofChange fnExactOnlyStartSpec)

/-- ITS FALSE NEIGHBOUR: 'it returns false'. Refute it at one input. -/
def fnExactOnlyStartWrong : ChangeSpec := { name := "fnExactOnlyStart", fn := fun _ => fun
  | [d1, d2] => { results := [.lit (.bool false)], args := [d1, d2] }
  | _ => none }
def FnExactOnlyStartWrongFalsely : Prop := fnExactOnlyStartRow.holds Try.pinned (OpenSpec.ofChange fnExactOnlyStartWrong)

/- THE SECOND FORM. 'bulk': how many values and letters a reading holds, each counted each time it is reached (what is shared counts as often as it is met; a slice's spare places count too). A statement '..UptoSaid' is the law's where the arguments, and the package variables that the reading takes, are together of bulk at most 1048576: NARROWER than '..Said'. Prove '..Said' where nothing that the law and all that it calls make is longer than what came in: it says more and counts as full. Else prove '..UptoSaid'. A law counts once. -/
mutual
def uptoBulk {H : Type} : DataW H → Nat
  | .lit (.string bytes) => bytes.length + 1
  | .lit _ => 1
  | .nil => 1
  | .ptr d => uptoBulk d + 1
  | .slice elems spare => uptoBulkAll elems + uptoBulkAll spare + 1
  | .agg parts => uptoBulkAll parts + 1
  | .iface _ d => uptoBulk d + 1
  | .map entries => uptoBulkEntries entries + 1
  | .held _ => 1
def uptoBulkAll {H : Type} : List (DataW H) → Nat
  | [] => 0
  | d :: r => uptoBulk d + uptoBulkAll r
def uptoBulkEntries {H : Type} : List (Lit × DataW H) → Nat
  | [] => 0
  | x :: r => uptoBulkEntry x + uptoBulkEntries r
def uptoBulkEntry {H : Type} : Lit × DataW H → Nat
  | (.string bytes, d) => bytes.length + uptoBulk d + 1
  | (_, d) => uptoBulk d + 1
 end
def uptoSmall : (H : Type) → List (DataW H) → Bool := fun _ ds => decide (uptoBulkAll ds ≤ 1048576)
def OpenSpec.upto (s : _root_.Go.ChangeSpec) : _root_.Go.OpenSpec := { _root_.Go.OpenSpec.ofChange s with cond := some uptoSmall }

/-- 'laws.FnExactApplicationBound', WHERE WHAT IT READS IS OF BULK AT MOST 1048576: true; the input reads as it did. -/
def fnExactApplicationBoundUptoRow : OpenClaim := { program := "ytcifgbmmnkilfaa", sum := "6551b00d8c2a4fd73846cde5e716f52487c074484d114dfae255c1df9a35de32", func := "loop.example/g00518/laws.FnExactApplicationBound", spec := "fnExactApplicationBound", apart := false, narrowed := true }
def FnExactApplicationBoundUptoSaid : Prop := fnExactApplicationBoundUptoRow.holds Try.pinned (OpenSpec.upto fnExactApplicationBoundSpec)

/-- 'laws.FnExactIsBinaryOnly', WHERE WHAT IT READS IS OF BULK AT MOST 1048576: true; the input reads as it did. -/
def fnExactIsBinaryOnlyUptoRow : OpenClaim := { program := "ytcifgbmmnkilfaa", sum := "6551b00d8c2a4fd73846cde5e716f52487c074484d114dfae255c1df9a35de32", func := "loop.example/g00518/laws.FnExactIsBinaryOnly", spec := "fnExactIsBinaryOnly", apart := false, narrowed := true }
def FnExactIsBinaryOnlyUptoSaid : Prop := fnExactIsBinaryOnlyUptoRow.holds Try.pinned (OpenSpec.upto fnExactIsBinaryOnlySpec)

/-- 'laws.FnExactAllCanonical', WHERE WHAT IT READS IS OF BULK AT MOST 1048576: true; the input reads as it did. -/
def fnExactAllCanonicalUptoRow : OpenClaim := { program := "ytcifgbmmnkilfaa", sum := "6551b00d8c2a4fd73846cde5e716f52487c074484d114dfae255c1df9a35de32", func := "loop.example/g00518/laws.FnExactAllCanonical", spec := "fnExactAllCanonical", apart := false, narrowed := true }
def FnExactAllCanonicalUptoSaid : Prop := fnExactAllCanonicalUptoRow.holds Try.pinned (OpenSpec.upto fnExactAllCanonicalSpec)

/-- 'laws.FnExactCanStart', WHERE WHAT IT READS IS OF BULK AT MOST 1048576: true; the input reads as it did. -/
def fnExactCanStartUptoRow : OpenClaim := { program := "ytcifgbmmnkilfaa", sum := "6551b00d8c2a4fd73846cde5e716f52487c074484d114dfae255c1df9a35de32", func := "loop.example/g00518/laws.FnExactCanStart", spec := "fnExactCanStart", recurses := true, apart := false, narrowed := true }
def FnExactCanStartUptoSaid : Prop := fnExactCanStartUptoRow.holds Try.pinned (OpenSpec.upto fnExactCanStartSpec)

/-- 'laws.FnExactUsedRules', WHERE WHAT IT READS IS OF BULK AT MOST 1048576: true; the input reads as it did. -/
def fnExactUsedRulesUptoRow : OpenClaim := { program := "ytcifgbmmnkilfaa", sum := "6551b00d8c2a4fd73846cde5e716f52487c074484d114dfae255c1df9a35de32", func := "loop.example/g00518/laws.FnExactUsedRules", spec := "fnExactUsedRules", apart := false, narrowed := true }
def FnExactUsedRulesUptoSaid : Prop := fnExactUsedRulesUptoRow.holds Try.pinned (OpenSpec.upto fnExactUsedRulesSpec)

/-- 'laws.FnExactCommonStart', WHERE WHAT IT READS IS OF BULK AT MOST 1048576: true; the input reads as it did. -/
def fnExactCommonStartUptoRow : OpenClaim := { program := "ytcifgbmmnkilfaa", sum := "6551b00d8c2a4fd73846cde5e716f52487c074484d114dfae255c1df9a35de32", func := "loop.example/g00518/laws.FnExactCommonStart", spec := "fnExactCommonStart", recurses := true, apart := false, narrowed := true }
def FnExactCommonStartUptoSaid : Prop := fnExactCommonStartUptoRow.holds Try.pinned (OpenSpec.upto fnExactCommonStartSpec)

/-- 'laws.FnExactCountFirstBytes', WHERE WHAT IT READS IS OF BULK AT MOST 1048576: true; the input reads as it did. -/
def fnExactCountFirstBytesUptoRow : OpenClaim := { program := "ytcifgbmmnkilfaa", sum := "6551b00d8c2a4fd73846cde5e716f52487c074484d114dfae255c1df9a35de32", func := "loop.example/g00518/laws.FnExactCountFirstBytes", spec := "fnExactCountFirstBytes", recurses := true, apart := false, narrowed := true }
def FnExactCountFirstBytesUptoSaid : Prop := fnExactCountFirstBytesUptoRow.holds Try.pinned (OpenSpec.upto fnExactCountFirstBytesSpec)

/-- 'laws.FnExactAreDisjoint', WHERE WHAT IT READS IS OF BULK AT MOST 1048576: true; the input reads as it did. -/
def fnExactAreDisjointUptoRow : OpenClaim := { program := "ytcifgbmmnkilfaa", sum := "6551b00d8c2a4fd73846cde5e716f52487c074484d114dfae255c1df9a35de32", func := "loop.example/g00518/laws.FnExactAreDisjoint", spec := "fnExactAreDisjoint", recurses := true, apart := false, narrowed := true }
def FnExactAreDisjointUptoSaid : Prop := fnExactAreDisjointUptoRow.holds Try.pinned (OpenSpec.upto fnExactAreDisjointSpec)

/-- 'laws.FnExactUnusedRules', WHERE WHAT IT READS IS OF BULK AT MOST 1048576: true; the input reads as it did. -/
def fnExactUnusedRulesUptoRow : OpenClaim := { program := "ytcifgbmmnkilfaa", sum := "6551b00d8c2a4fd73846cde5e716f52487c074484d114dfae255c1df9a35de32", func := "loop.example/g00518/laws.FnExactUnusedRules", spec := "fnExactUnusedRules", apart := false, narrowed := true }
def FnExactUnusedRulesUptoSaid : Prop := fnExactUnusedRulesUptoRow.holds Try.pinned (OpenSpec.upto fnExactUnusedRulesSpec)

/-- 'laws.FnExactPrintInteger', WHERE WHAT IT READS IS OF BULK AT MOST 1048576: true; the input reads as it did. -/
def fnExactPrintIntegerUptoRow : OpenClaim := { program := "ytcifgbmmnkilfaa", sum := "6551b00d8c2a4fd73846cde5e716f52487c074484d114dfae255c1df9a35de32", func := "loop.example/g00518/laws.FnExactPrintInteger", spec := "fnExactPrintInteger", apart := false, narrowed := true }
def FnExactPrintIntegerUptoSaid : Prop := fnExactPrintIntegerUptoRow.holds Try.pinned (OpenSpec.upto fnExactPrintIntegerSpec)

/-- 'laws.FnExactTagBytes', WHERE WHAT IT READS IS OF BULK AT MOST 1048576: true; the input reads as it did. -/
def fnExactTagBytesUptoRow : OpenClaim := { program := "ytcifgbmmnkilfaa", sum := "6551b00d8c2a4fd73846cde5e716f52487c074484d114dfae255c1df9a35de32", func := "loop.example/g00518/laws.FnExactTagBytes", spec := "fnExactTagBytes", apart := false, narrowed := true }
def FnExactTagBytesUptoSaid : Prop := fnExactTagBytesUptoRow.holds Try.pinned (OpenSpec.upto fnExactTagBytesSpec)

/-- 'laws.FnExactOnlyStart', WHERE WHAT IT READS IS OF BULK AT MOST 1048576: true; the input reads as it did. -/
def fnExactOnlyStartUptoRow : OpenClaim := { program := "ytcifgbmmnkilfaa", sum := "6551b00d8c2a4fd73846cde5e716f52487c074484d114dfae255c1df9a35de32", func := "loop.example/g00518/laws.FnExactOnlyStart", spec := "fnExactOnlyStart", recurses := true, apart := false, narrowed := true }
def FnExactOnlyStartUptoSaid : Prop := fnExactOnlyStartUptoRow.holds Try.pinned (OpenSpec.upto fnExactOnlyStartSpec)

end Rows
end Go.Proofs.Ytcifgbmmnkilfaa
