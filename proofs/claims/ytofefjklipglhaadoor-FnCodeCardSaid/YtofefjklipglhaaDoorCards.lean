/-
  DERIVED. GIVEN WITH THE SEED: THE CARDS: each row of YtofefjklipglhaaDoorRows.lean that lists a variable, with what it lists TIED to the program's text (the seventh form; the later family's looks); each row that meets fmt, with fmt's text TOLD by the authors' own Lean function (tested against real Go, not proved from fmt's source: count such statements apart). THE CARD IS WHAT COUNTS. Prove the row's statement (the work); the ties are given (YtofefjklipglhaaDoorTie.lean); close each card by the builder's one call (the guide's Derived/Test/ToyasCard.lean, 'card_holds'). Laid BY PROGRAM, IN A SANDBOX (cutbox-door.mjs). By AI agents, Wed Nov 11 2026. No macro, syntax, notation, axiom, sorry.
-/
import Derived.Test.YtofefjklipglhaaDoorRows
import GoSem.ClaimSeven
namespace Go.Proofs.YtofefjklipglhaaDoor
namespace Rows

/-- THE TIED CARD OF 'laws.FnCode'. -/
def fnCodeCard : Claim7 := { stood := { row := fnCodeRow, standIns := [], harness := (true, "84802f1d79b9cd4d7401f7b9ae15211acff5b1b38806f6386ab6412b6abe13e6"), looks := false }, kinds := [], alts := [], laidByText := true, laidKinds := [.data, .data, .data], laidTests := true, laidLooks := .later }
def FnCodeCardSaid : Prop := Claim7.holds Tryd.pinned (.plain (OpenSpec.ofChange fnCodeSpec)) fnCodeCard

/-- THE SECOND FORM's CARD OF 'laws.FnCode'. -/
def fnCodeUptoCard : Claim7 := { stood := { row := fnCodeUptoRow, standIns := [], harness := (true, "84802f1d79b9cd4d7401f7b9ae15211acff5b1b38806f6386ab6412b6abe13e6"), looks := false }, kinds := [], alts := [], laidByText := true, laidKinds := [.data, .data, .data], laidTests := true, laidLooks := .later }
def FnCodeUptoCardSaid : Prop := Claim7.holds Tryd.pinned (.plain (OpenSpec.upto fnCodeSpec)) fnCodeUptoCard
end Rows
end Go.Proofs.YtofefjklipglhaaDoor
