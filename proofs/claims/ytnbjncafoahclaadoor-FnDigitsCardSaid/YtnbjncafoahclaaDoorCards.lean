/-
  DERIVED. GIVEN WITH THE SEED: THE CARDS: each row of YtnbjncafoahclaaDoorRows.lean that lists a variable, with what it lists TIED to the program's text (the seventh form; the later family's looks); each row that meets fmt, with fmt's text TOLD by the authors' own Lean function (tested against real Go, not proved from fmt's source: count such statements apart). THE CARD IS WHAT COUNTS. Prove the row's statement (the work); the ties are given (YtnbjncafoahclaaDoorTie.lean); close each card by the builder's one call (the guide's Derived/Test/ToyasCard.lean, 'card_holds'). Laid BY PROGRAM, IN A SANDBOX (cutbox-door.mjs). By AI agents, Wed Nov 11 2026. No macro, syntax, notation, axiom, sorry.
-/
import Derived.Test.YtnbjncafoahclaaDoorRows
import GoSem.ClaimSeven
namespace Go.Proofs.YtnbjncafoahclaaDoor
namespace Rows

/-- THE TIED CARD OF 'laws.FnExactFormatNumberText'. -/
def fnExactFormatNumberTextCard : Claim7 := { stood := { row := fnExactFormatNumberTextRow, standIns := [], harness := (true, "347060442254f96e39ab6b88d553f2cb5b7131a52122aeae66ff2055111d9bed"), looks := false }, kinds := [], alts := [], laidByText := true, laidKinds := [.data, .data, .data], laidTests := true, laidLooks := .later }
def FnExactFormatNumberTextCardSaid : Prop := Claim7.holds Tryd.pinned (.plain (OpenSpec.ofChange fnExactFormatNumberTextSpec)) fnExactFormatNumberTextCard

/-- THE TIED CARD OF 'laws.FnExactDescribeError'. -/
def fnExactDescribeErrorCard : Claim7 := { stood := { row := fnExactDescribeErrorRow, standIns := [], harness := (true, "347060442254f96e39ab6b88d553f2cb5b7131a52122aeae66ff2055111d9bed"), looks := false }, kinds := [], alts := [], laidByText := true, laidKinds := [.data, .data, .data], laidTests := true, laidLooks := .later }
def FnExactDescribeErrorCardSaid : Prop := Claim7.holds Tryd.pinned (.plain (OpenSpec.ofChange fnExactDescribeErrorSpec)) fnExactDescribeErrorCard

/-- THE TIED CARD OF 'laws.FnExactFormatInstruction'. -/
def fnExactFormatInstructionCard : Claim7 := { stood := { row := fnExactFormatInstructionRow, standIns := [], harness := (true, "347060442254f96e39ab6b88d553f2cb5b7131a52122aeae66ff2055111d9bed"), looks := false }, kinds := [], alts := [], laidByText := true, laidKinds := [.data, .data, .data], laidTests := true, laidLooks := .later }
def FnExactFormatInstructionCardSaid : Prop := Claim7.holds Tryd.pinned (.plain (OpenSpec.ofChange fnExactFormatInstructionSpec)) fnExactFormatInstructionCard

/-- THE TIED CARD OF 'laws.FnDigits'. -/
def fnDigitsCard : Claim7 := { stood := { row := fnDigitsRow, standIns := [], harness := (true, "347060442254f96e39ab6b88d553f2cb5b7131a52122aeae66ff2055111d9bed"), looks := false }, kinds := [], alts := [], laidByText := true, laidKinds := [.data, .data, .data], laidTests := true, laidLooks := .later }
def FnDigitsCardSaid : Prop := Claim7.holds Tryd.pinned (.plain (OpenSpec.ofChange fnDigitsSpec)) fnDigitsCard

/-- THE SECOND FORM's CARD OF 'laws.FnExactFormatNumberText'. -/
def fnExactFormatNumberTextUptoCard : Claim7 := { stood := { row := fnExactFormatNumberTextUptoRow, standIns := [], harness := (true, "347060442254f96e39ab6b88d553f2cb5b7131a52122aeae66ff2055111d9bed"), looks := false }, kinds := [], alts := [], laidByText := true, laidKinds := [.data, .data, .data], laidTests := true, laidLooks := .later }
def FnExactFormatNumberTextUptoCardSaid : Prop := Claim7.holds Tryd.pinned (.plain (OpenSpec.upto fnExactFormatNumberTextSpec)) fnExactFormatNumberTextUptoCard

/-- THE SECOND FORM's CARD OF 'laws.FnExactDescribeError'. -/
def fnExactDescribeErrorUptoCard : Claim7 := { stood := { row := fnExactDescribeErrorUptoRow, standIns := [], harness := (true, "347060442254f96e39ab6b88d553f2cb5b7131a52122aeae66ff2055111d9bed"), looks := false }, kinds := [], alts := [], laidByText := true, laidKinds := [.data, .data, .data], laidTests := true, laidLooks := .later }
def FnExactDescribeErrorUptoCardSaid : Prop := Claim7.holds Tryd.pinned (.plain (OpenSpec.upto fnExactDescribeErrorSpec)) fnExactDescribeErrorUptoCard

/-- THE SECOND FORM's CARD OF 'laws.FnExactFormatInstruction'. -/
def fnExactFormatInstructionUptoCard : Claim7 := { stood := { row := fnExactFormatInstructionUptoRow, standIns := [], harness := (true, "347060442254f96e39ab6b88d553f2cb5b7131a52122aeae66ff2055111d9bed"), looks := false }, kinds := [], alts := [], laidByText := true, laidKinds := [.data, .data, .data], laidTests := true, laidLooks := .later }
def FnExactFormatInstructionUptoCardSaid : Prop := Claim7.holds Tryd.pinned (.plain (OpenSpec.upto fnExactFormatInstructionSpec)) fnExactFormatInstructionUptoCard

/-- THE SECOND FORM's CARD OF 'laws.FnDigits'. -/
def fnDigitsUptoCard : Claim7 := { stood := { row := fnDigitsUptoRow, standIns := [], harness := (true, "347060442254f96e39ab6b88d553f2cb5b7131a52122aeae66ff2055111d9bed"), looks := false }, kinds := [], alts := [], laidByText := true, laidKinds := [.data, .data, .data], laidTests := true, laidLooks := .later }
def FnDigitsUptoCardSaid : Prop := Claim7.holds Tryd.pinned (.plain (OpenSpec.upto fnDigitsSpec)) fnDigitsUptoCard
end Rows
end Go.Proofs.YtnbjncafoahclaaDoor
