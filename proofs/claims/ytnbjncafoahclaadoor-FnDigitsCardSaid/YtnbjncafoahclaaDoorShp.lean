/- Shapes of rules: both sides, for each use of the flags. -/
import Derived.Test.YtnbjncafoahclaaDoorVld
namespace Go.Proofs.YtnbjncafoahclaaDoor
set_option linter.unusedSimpArgs false
set_option linter.unusedVariables false
open Go.RowKit
/-- Only the fields are used that are named. -/
def Plain (r : Rul) (a b c d : Bool) (k : Int) : Prop := (a = true ∨ r.size = 0) ∧ (b = true ∨ r.bytes.length = 0) ∧ (c = true ∨ r.names.length = 0) ∧ (d = true ∨ r.tags.length = 0) ∧ (k < 0 ∨ (r.kids.length : Int) = k)
def Shape (r : Rul) (a b c d : Bool) (k : Int) : Prop := Plain r a b c d k ∧ (r.little = false ∨ r.kind = 1)
noncomputable instance (r : Rul) (a b c d : Bool) (k : Int) : Decidable (Plain r a b c d k) := Classical.propDecidable _
noncomputable instance (r : Rul) (a b c d : Bool) (k : Int) : Decidable (Shape r a b c d k) := Classical.propDecidable _
end Go.Proofs.YtnbjncafoahclaaDoor
