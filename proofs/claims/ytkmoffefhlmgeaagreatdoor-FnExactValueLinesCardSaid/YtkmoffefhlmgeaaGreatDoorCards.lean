/-
  DERIVED. GIVEN WITH THE SEED: THE CARDS: each row of YtkmoffefhlmgeaaGreatDoorRows.lean that lists a variable, with what it lists TIED to the program's text (the seventh form; the later family's looks); each row that meets fmt, with fmt's text TOLD by the authors' own Lean function (tested against real Go, not proved from fmt's source: count such statements apart). THE CARD IS WHAT COUNTS. Prove the row's statement (the work); the ties are given (YtkmoffefhlmgeaaGreatDoorTie.lean); close each card by the builder's one call (the guide's Derived/Test/ToyasCard.lean, 'card_holds'). Laid BY PROGRAM, IN A SANDBOX (cutbox-door.mjs). By AI agents, Wed Nov 11 2026. No macro, syntax, notation, axiom, sorry.
-/
import Derived.Test.YtkmoffefhlmgeaaGreatDoorRows
import GoSem.ClaimSeven
namespace Go.Proofs.YtkmoffefhlmgeaaGreatDoor
namespace Rows

/-- THE TIED CARD OF 'laws.FnExactValueLines'. -/
def fnExactValueLinesCard : Claim7 := { stood := { row := fnExactValueLinesRow, standIns := [], harness := (true, "1fd02225753beb384aecfb0d841291f19c57b814c9d688bc2ee95264de5a4b27"), looks := true }, kinds := [], alts := [], laidByText := true, laidKinds := [.data, .data, .data], laidTests := true, laidLooks := .later }
def FnExactValueLinesCardSaid : Prop := Claim7.holds Tryz.pinned (.plain (OpenSpec.ofChange fnExactValueLinesSpec)) fnExactValueLinesCard

/-- THE SECOND FORM's CARD OF 'laws.FnExactValueLines'. -/
def fnExactValueLinesUptoCard : Claim7 := { stood := { row := fnExactValueLinesUptoRow, standIns := [], harness := (true, "1fd02225753beb384aecfb0d841291f19c57b814c9d688bc2ee95264de5a4b27"), looks := true }, kinds := [], alts := [], laidByText := true, laidKinds := [.data, .data, .data], laidTests := true, laidLooks := .later }
def FnExactValueLinesUptoCardSaid : Prop := Claim7.holds Tryz.pinned (.plain (OpenSpec.upto fnExactValueLinesSpec)) fnExactValueLinesUptoCard
end Rows
end Go.Proofs.YtkmoffefhlmgeaaGreatDoor
