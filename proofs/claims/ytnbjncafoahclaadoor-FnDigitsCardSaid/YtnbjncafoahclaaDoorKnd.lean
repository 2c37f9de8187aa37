/- The conditions of a rule's kind: the reference's side. -/
import Derived.Test.YtnbjncafoahclaaDoorNms
namespace Go.Proofs.YtnbjncafoahclaaDoor
set_option linter.unusedSimpArgs false
set_option linter.unusedVariables false
open Go.RowKit
def KindOk (d : Des) (r : Rul) : Prop :=
  (r.kind = 1 ∧ Shape r true false false false 0 ∧ InR r.size 1 4 ∧ (r.little = false ∨ 1 < r.size)) ∨
  (r.kind = 2 ∧ Shape r false true false false 0 ∧ InR r.bytes.length 1 16) ∨
  (r.kind = 3 ∧ Shape r true false false false 0 ∧ InR r.size 1 64) ∨
  (r.kind = 4 ∧ Shape r false false false false 1 ∧ 0 < lim d (r.kids.headD 0)) ∨
  (r.kind = 5 ∧ Shape r false false false false 2 ∧ 0 < lim d (r.kids.headD 0)) ∨
  (r.kind = 6 ∧ Shape r false false true false r.names.length ∧ NamesOk r.names) ∨
  (r.kind = 7 ∧ Shape r false false false true (-1) ∧ TagsOk d r) ∨
  ((r.kind = 8 ∨ r.kind = 9) ∧ Shape r false false false false 1) ∨
  (r.kind = 10 ∧ Shape r false true false false 0 ∧ r.bytes.length = 1 ∧ r.bytes.headD 0 ≠ 92)
noncomputable instance (d : Des) (r : Rul) : Decidable (KindOk d r) := Classical.propDecidable _
theorem head_at {l : List Int} (h : 0 < l.length) : l[(0 : Int).toNat]? = some (l.headD 0) := by cases l <;> simp_all
theorem headB_at {l : List UInt8} (h : 0 < l.length) : l[(0 : Int).toNat]? = some (l.headD 0) := by cases l <;> simp_all
theorem Shape.kids {r : Rul} {a b c d : Bool} {k : Int} (h : Shape r a b c d k) (hk : 0 ≤ k) : (r.kids.length : Int) = k := by
  have := h.1.2.2.2.2; omega
end Go.Proofs.YtnbjncafoahclaaDoor
