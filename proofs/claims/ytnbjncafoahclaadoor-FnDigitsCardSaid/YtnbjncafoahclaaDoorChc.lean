/- Choices: the program's side. -/
import Derived.Test.YtnbjncafoahclaaDoorVrl
namespace Go.Proofs.YtnbjncafoahclaaDoor
set_option linter.unusedSimpArgs false
set_option linter.unusedVariables false
open Go.RowKit
theorem lim_ge (d : Des) (i : Int) : lim d i = -1 ∨ 255 ≤ lim d i := by
  unfold lim
  split
  · rename_i r _
    split
    · have := pow8_le (s := r.size); omega
    · exact .inl rfl
  · exact .inl rfl
def ChoiceOk (d : Des) (r : Rul) : Prop := Plain r false false false true ((r.tags.length : Int) + 1) ∧ TagsOk d r
noncomputable instance (d : Des) (r : Rul) : Decidable (ChoiceOk d r) := Classical.propDecidable _
end Go.Proofs.YtnbjncafoahclaaDoor
