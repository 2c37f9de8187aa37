/-
  No cell of these rows narrows 'for every input' (looked for: loops, veiled, ifaces, maps, wideKeys, modest, calm, conditions, laid).
  DERIVED. THE GIVEN ROWS OF THIS SEAT. 7 by the template 'for every input the law returns true; each argument reads behind the call as it read before'; 0 by the template 'total and deterministic' (their statements: YtafmancgcnlbhaaTotals.lean).
  GIVEN WITH THE SEED: the statements are not yours to turn. If you find one false, say at which input.
  Laid BY PROGRAM, IN A SANDBOX (cutbox-rows.mjs): the forced cells as the released guide's own fill.sh prints them over the translation ada5b01e53965427… (all of the seat's roots in one cut). By AI agents, Wed Nov 11 2026. No macro, syntax, notation, axiom, sorry.
-/
import Derived.Test.YtafmancgcnlbhaaChecked
import GoSem.Claim
import GoSem.ClaimJoined
import GoSem.ClaimMapViews
import Derived.JoinedTies
import Derived.KernelRfl
namespace Go.Proofs.Ytafmancgcnlbhaa
/- THE CELL 'sum', in the pinned program and in every row, IS THE sha256 OF THE DUMP (.gsa) THAT YtafmancgcnlbhaaProg.lean LOADS. Nothing in Lean hashes anything: it is a label: what it is worth is what the hold of that sum in a sandbox is worth. -/
noncomputable def Try.pinned : Pinned := { name := "ytafmancgcnlbhaa", sum := "ada5b01e53965427a54ad750bdf3632cb16799c87b1efd4b42bea078d47c6bd2", checked := Try.checked }
namespace Rows
def none {H : Type} : Left H := { results := [], args := [] }

/-- 'laws.FnExactErrorName': WHATEVER THE INPUT: true; the input reads as it did. -/
def fnExactErrorNameSpec : ChangeSpec := { name := "fnExactErrorName", fn := fun _ => fun
  | [d] => { results := [.lit (.bool true)], args := [d] }
  | _ => none }
def fnExactErrorNameRow : OpenClaim := { program := "ytafmancgcnlbhaa", sum := "ada5b01e53965427a54ad750bdf3632cb16799c87b1efd4b42bea078d47c6bd2", func := "loop.example/g00518/laws.FnExactErrorName", spec := "fnExactErrorName", apart := false }
def FnExactErrorNameSaid : Prop := fnExactErrorNameRow.holds Try.pinned (OpenSpec.ofChange fnExactErrorNameSpec)

/-- ITS FALSE NEIGHBOUR: 'it returns false'. Refute it at one input. -/
def fnExactErrorNameWrong : ChangeSpec := { name := "fnExactErrorName", fn := fun _ => fun
  | [d] => { results := [.lit (.bool false)], args := [d] }
  | _ => none }
def FnExactErrorNameWrongFalsely : Prop := fnExactErrorNameRow.holds Try.pinned (OpenSpec.ofChange fnExactErrorNameWrong)

/-- 'laws.FnExactReadDigits': WHATEVER THE INPUT: true; the input reads as it did. -/
def fnExactReadDigitsSpec : ChangeSpec := { name := "fnExactReadDigits", fn := fun _ => fun
  | [d1, d2] => { results := [.lit (.bool true)], args := [d1, d2] }
  | _ => none }
def fnExactReadDigitsRow : OpenClaim := { program := "ytafmancgcnlbhaa", sum := "ada5b01e53965427a54ad750bdf3632cb16799c87b1efd4b42bea078d47c6bd2", func := "loop.example/g00518/laws.FnExactReadDigits", spec := "fnExactReadDigits", apart := false }
def FnExactReadDigitsSaid : Prop := fnExactReadDigitsRow.holds Try.pinned (OpenSpec.ofChange fnExactReadDigitsSpec)

/-- ITS FALSE NEIGHBOUR: 'it returns false'. Refute it at one input. -/
def fnExactReadDigitsWrong : ChangeSpec := { name := "fnExactReadDigits", fn := fun _ => fun
  | [d1, d2] => { results := [.lit (.bool false)], args := [d1, d2] }
  | _ => none }
def FnExactReadDigitsWrongFalsely : Prop := fnExactReadDigitsRow.holds Try.pinned (OpenSpec.ofChange fnExactReadDigitsWrong)

/-- 'laws.FnExactEscapeAll': WHATEVER THE INPUT: true; the input reads as it did. -/
def fnExactEscapeAllSpec : ChangeSpec := { name := "fnExactEscapeAll", fn := fun _ => fun
  | [d1, d2] => { results := [.lit (.bool true)], args := [d1, d2] }
  | _ => none }
def fnExactEscapeAllRow : OpenClaim := { program := "ytafmancgcnlbhaa", sum := "ada5b01e53965427a54ad750bdf3632cb16799c87b1efd4b42bea078d47c6bd2", func := "loop.example/g00518/laws.FnExactEscapeAll", spec := "fnExactEscapeAll", apart := false }
def FnExactEscapeAllSaid : Prop := fnExactEscapeAllRow.holds Try.pinned (OpenSpec.ofChange fnExactEscapeAllSpec)

/-- ITS FALSE NEIGHBOUR: 'it returns false'. Refute it at one input. -/
def fnExactEscapeAllWrong : ChangeSpec := { name := "fnExactEscapeAll", fn := fun _ => fun
  | [d1, d2] => { results := [.lit (.bool false)], args := [d1, d2] }
  | _ => none }
def FnExactEscapeAllWrongFalsely : Prop := fnExactEscapeAllRow.holds Try.pinned (OpenSpec.ofChange fnExactEscapeAllWrong)

/-- 'laws.FnExactEscapeBytes': WHATEVER THE INPUT: true; the input reads as it did. -/
def fnExactEscapeBytesSpec : ChangeSpec := { name := "fnExactEscapeBytes", fn := fun _ => fun
  | [d1, d2] => { results := [.lit (.bool true)], args := [d1, d2] }
  | _ => none }
def fnExactEscapeBytesRow : OpenClaim := { program := "ytafmancgcnlbhaa", sum := "ada5b01e53965427a54ad750bdf3632cb16799c87b1efd4b42bea078d47c6bd2", func := "loop.example/g00518/laws.FnExactEscapeBytes", spec := "fnExactEscapeBytes", apart := false }
def FnExactEscapeBytesSaid : Prop := fnExactEscapeBytesRow.holds Try.pinned (OpenSpec.ofChange fnExactEscapeBytesSpec)

/-- ITS FALSE NEIGHBOUR: 'it returns false'. Refute it at one input. -/
def fnExactEscapeBytesWrong : ChangeSpec := { name := "fnExactEscapeBytes", fn := fun _ => fun
  | [d1, d2] => { results := [.lit (.bool false)], args := [d1, d2] }
  | _ => none }
def FnExactEscapeBytesWrongFalsely : Prop := fnExactEscapeBytesRow.holds Try.pinned (OpenSpec.ofChange fnExactEscapeBytesWrong)

/-- 'laws.FnExactReadTerminated': WHATEVER THE INPUT: true; the input reads as it did. -/
def fnExactReadTerminatedSpec : ChangeSpec := { name := "fnExactReadTerminated", fn := fun _ => fun
  | [d1, d2, d3] => { results := [.lit (.bool true)], args := [d1, d2, d3] }
  | _ => none }
def fnExactReadTerminatedRow : OpenClaim := { program := "ytafmancgcnlbhaa", sum := "ada5b01e53965427a54ad750bdf3632cb16799c87b1efd4b42bea078d47c6bd2", func := "loop.example/g00518/laws.FnExactReadTerminated", spec := "fnExactReadTerminated", apart := false }
def FnExactReadTerminatedSaid : Prop := fnExactReadTerminatedRow.holds Try.pinned (OpenSpec.ofChange fnExactReadTerminatedSpec)

/-- ITS FALSE NEIGHBOUR: 'it returns false'. Refute it at one input. -/
def fnExactReadTerminatedWrong : ChangeSpec := { name := "fnExactReadTerminated", fn := fun _ => fun
  | [d1, d2, d3] => { results := [.lit (.bool false)], args := [d1, d2, d3] }
  | _ => none }
def FnExactReadTerminatedWrongFalsely : Prop := fnExactReadTerminatedRow.holds Try.pinned (OpenSpec.ofChange fnExactReadTerminatedWrong)

/-- 'laws.FnExactReadHexDigits': WHATEVER THE INPUT: true; the input reads as it did. -/
def fnExactReadHexDigitsSpec : ChangeSpec := { name := "fnExactReadHexDigits", fn := fun _ => fun
  | [d1, d2] => { results := [.lit (.bool true)], args := [d1, d2] }
  | _ => none }
def fnExactReadHexDigitsRow : OpenClaim := { program := "ytafmancgcnlbhaa", sum := "ada5b01e53965427a54ad750bdf3632cb16799c87b1efd4b42bea078d47c6bd2", func := "loop.example/g00518/laws.FnExactReadHexDigits", spec := "fnExactReadHexDigits", apart := false }
def FnExactReadHexDigitsSaid : Prop := fnExactReadHexDigitsRow.holds Try.pinned (OpenSpec.ofChange fnExactReadHexDigitsSpec)

/-- ITS FALSE NEIGHBOUR: 'it returns false'. Refute it at one input. -/
def fnExactReadHexDigitsWrong : ChangeSpec := { name := "fnExactReadHexDigits", fn := fun _ => fun
  | [d1, d2] => { results := [.lit (.bool false)], args := [d1, d2] }
  | _ => none }
def FnExactReadHexDigitsWrongFalsely : Prop := fnExactReadHexDigitsRow.holds Try.pinned (OpenSpec.ofChange fnExactReadHexDigitsWrong)

/-- 'laws.FnTerminated': WHATEVER THE INPUT: true; the input reads as it did. -/
def fnTerminatedSpec : ChangeSpec := { name := "fnTerminated", fn := fun _ => fun
  | [d] => { results := [.lit (.bool true)], args := [d] }
  | _ => none }
def fnTerminatedRow : OpenClaim := { program := "ytafmancgcnlbhaa", sum := "ada5b01e53965427a54ad750bdf3632cb16799c87b1efd4b42bea078d47c6bd2", func := "loop.example/g00518/laws.FnTerminated", spec := "fnTerminated", apart := false }
def FnTerminatedSaid : Prop := fnTerminatedRow.holds Try.pinned (OpenSpec.ofChange fnTerminatedSpec)

/-- ITS FALSE NEIGHBOUR: 'it returns false'. Refute it at one input. -/
def fnTerminatedWrong : ChangeSpec := { name := "fnTerminated", fn := fun _ => fun
  | [d] => { results := [.lit (.bool false)], args := [d] }
  | _ => none }
def FnTerminatedWrongFalsely : Prop := fnTerminatedRow.holds Try.pinned (OpenSpec.ofChange fnTerminatedWrong)

/- THE SECOND FORM. 'bulk': how many values and letters a reading holds, each counted each time it is reached (what is shared counts as often as it is met; a slice's spare places count too). A statement '..UptoSaid' is the law's where the arguments, and the package variables that the reading takes, are together of bulk at most 1048576: NARROWER than '..Said'. Prove '..Said' where nothing that the law and all that it calls make is longer than what came in: it says more and counts as full. Else prove '..UptoSaid'. A law counts once. -/
mutual
def uptoBulk {H : Type} : DataW H → Nat
  | .lit (.string bytes) => bytes.length + 1
  | .lit _ => 1
  | .nil => 1
  | .ptr d => uptoBulk d + 1
  | .slice elems spare => uptoBulkAll elems + uptoBulkAll spare + 1
  | .agg parts => uptoBulkAll parts + 1
  | .iface _ d => uptoBulk d + 1
  | .map entries => uptoBulkEntries entries + 1
  | .held _ => 1
def uptoBulkAll {H : Type} : List (DataW H) → Nat
  | [] => 0
  | d :: r => uptoBulk d + uptoBulkAll r
def uptoBulkEntries {H : Type} : List (Lit × DataW H) → Nat
  | [] => 0
  | x :: r => uptoBulkEntry x + uptoBulkEntries r
def uptoBulkEntry {H : Type} : Lit × DataW H → Nat
  | (.string bytes, d) => bytes.length + uptoBulk d + 1
  | (_, d) => uptoBulk d + 1
 end
def uptoSmall : (H : Type) → List (DataW H) → Bool := fun _ ds => decide (uptoBulkAll ds ≤ 1048576)
def OpenSpec.upto (s : _root_.Go.ChangeSpec) : _root_.Go.OpenSpec := { _root_.Go.OpenSpec.ofChange s with cond := some uptoSmall }

/-- 'laws.FnExactErrorName', WHERE WHAT IT READS IS OF BULK AT MOST 1048576: true; the input reads as it did. -/
def fnExactErrorNameUptoRow : OpenClaim := { program := "ytafmancgcnlbhaa", sum := "ada5b01e53965427a54ad750bdf3632cb16799c87b1efd4b42bea078d47c6bd2", func := "loop.example/g00518/laws.FnExactErrorName", spec := "fnExactErrorName", apart := false, narrowed := true }
def FnExactErrorNameUptoSaid : Prop := fnExactErrorNameUptoRow.holds Try.pinned (OpenSpec.upto fnExactErrorNameSpec)

/-- 'laws.FnExactReadDigits', WHERE WHAT IT READS IS OF BULK AT MOST 1048576: true; the input reads as it did. -/
def fnExactReadDigitsUptoRow : OpenClaim := { program := "ytafmancgcnlbhaa", sum := "ada5b01e53965427a54ad750bdf3632cb16799c87b1efd4b42bea078d47c6bd2", func := "loop.example/g00518/laws.FnExactReadDigits", spec := "fnExactReadDigits", apart := false, narrowed := true }
def FnExactReadDigitsUptoSaid : Prop := fnExactReadDigitsUptoRow.holds Try.pinned (OpenSpec.upto fnExactReadDigitsSpec)

/-- 'laws.FnExactEscapeAll', WHERE WHAT IT READS IS OF BULK AT MOST 1048576: true; the input reads as it did. -/
def fnExactEscapeAllUptoRow : OpenClaim := { program := "ytafmancgcnlbhaa", sum := "ada5b01e53965427a54ad750bdf3632cb16799c87b1efd4b42bea078d47c6bd2", func := "loop.example/g00518/laws.FnExactEscapeAll", spec := "fnExactEscapeAll", apart := false, narrowed := true }
def FnExactEscapeAllUptoSaid : Prop := fnExactEscapeAllUptoRow.holds Try.pinned (OpenSpec.upto fnExactEscapeAllSpec)

/-- 'laws.FnExactEscapeBytes', WHERE WHAT IT READS IS OF BULK AT MOST 1048576: true; the input reads as it did. -/
def fnExactEscapeBytesUptoRow : OpenClaim := { program := "ytafmancgcnlbhaa", sum := "ada5b01e53965427a54ad750bdf3632cb16799c87b1efd4b42bea078d47c6bd2", func := "loop.example/g00518/laws.FnExactEscapeBytes", spec := "fnExactEscapeBytes", apart := false, narrowed := true }
def FnExactEscapeBytesUptoSaid : Prop := fnExactEscapeBytesUptoRow.holds Try.pinned (OpenSpec.upto fnExactEscapeBytesSpec)

/-- 'laws.FnExactReadTerminated', WHERE WHAT IT READS IS OF BULK AT MOST 1048576: true; the input reads as it did. -/
def fnExactReadTerminatedUptoRow : OpenClaim := { program := "ytafmancgcnlbhaa", sum := "ada5b01e53965427a54ad750bdf3632cb16799c87b1efd4b42bea078d47c6bd2", func := "loop.example/g00518/laws.FnExactReadTerminated", spec := "fnExactReadTerminated", apart := false, narrowed := true }
def FnExactReadTerminatedUptoSaid : Prop := fnExactReadTerminatedUptoRow.holds Try.pinned (OpenSpec.upto fnExactReadTerminatedSpec)

/-- 'laws.FnExactReadHexDigits', WHERE WHAT IT READS IS OF BULK AT MOST 1048576: true; the input reads as it did. -/
def fnExactReadHexDigitsUptoRow : OpenClaim := { program := "ytafmancgcnlbhaa", sum := "ada5b01e53965427a54ad750bdf3632cb16799c87b1efd4b42bea078d47c6bd2", func := "loop.example/g00518/laws.FnExactReadHexDigits", spec := "fnExactReadHexDigits", apart := false, narrowed := true }
def FnExactReadHexDigitsUptoSaid : Prop := fnExactReadHexDigitsUptoRow.holds Try.pinned (OpenSpec.upto fnExactReadHexDigitsSpec)

/-- 'laws.FnTerminated', WHERE WHAT IT READS IS OF BULK AT MOST 1048576: true; the input reads as it did. -/
def fnTerminatedUptoRow : OpenClaim := { program := "ytafmancgcnlbhaa", sum := "ada5b01e53965427a54ad750bdf3632cb16799c87b1efd4b42bea078d47c6bd2", func := "loop.example/g00518/laws.FnTerminated", spec := "fnTerminated", apart := false, narrowed := true }
def FnTerminatedUptoSaid : Prop := fnTerminatedUptoRow.holds Try.pinned (OpenSpec.upto fnTerminatedSpec)

end Rows
end Go.Proofs.Ytafmancgcnlbhaa
