/- Names of parts, tags of choices: the reference's side. -/
import Derived.Test.YtnbjncafoahclaaDoorShp
namespace Go.Proofs.YtnbjncafoahclaaDoor
set_option linter.unusedSimpArgs false
set_option linter.unusedVariables false
open Go.RowKit
/-- Names that are names, and differ. -/
def NamesOk (l : List ByteArray) : Prop := 1 ≤ l.length ∧ l.length ≤ 8 ∧ ∀ (i : Nat) x, l[i]? = some x → IsNm x ∧ x ∉ l.take i
noncomputable instance (l : List ByteArray) : Decidable (NamesOk l) := Classical.propDecidable _
/-- Tags of a choice: they rise, and its integer can represent them. -/
def TagsOk (d : Des) (r : Rul) : Prop := r.kids.length = r.tags.length + 1 ∧ 1 ≤ r.tags.length ∧ r.tags.length ≤ 8 ∧ ∀ (i : Nat) z, r.tags[i]? = some z → 0 ≤ z ∧ z ≤ lim d (r.kids.headD 0) ∧ ∀ y, 0 < i → r.tags[i - 1]? = some y → y < z
noncomputable instance (d : Des) (r : Rul) : Decidable (TagsOk d r) := Classical.propDecidable _
end Go.Proofs.YtnbjncafoahclaaDoor
