/- Kinds, rules and descriptions that are valid: the program's side; a rule of a valid description. -/
import Derived.Test.YtnbjncafoahclaaDoorNmI
namespace Go.Proofs.YtnbjncafoahclaaDoor
set_option linter.unusedSimpArgs false
set_option linter.unusedVariables false
open Go.RowKit
/-- A rule of a valid description. -/
abbrev Kn (d : Des) (i : Int) : Prop := Good' d ∧ HasR d i
end Go.Proofs.YtnbjncafoahclaaDoor
