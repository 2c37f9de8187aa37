/- Names, sequences, kinds, rules and descriptions that are valid: the program's side. -/
import Derived.Test.YtnbjncafoahclaaDoorChc
import Derived.Test.YtnbjncafoahclaaDoorReb
namespace Go.Proofs.YtnbjncafoahclaaDoor
set_option linter.unusedSimpArgs false
set_option linter.unusedVariables false
open Go.RowKit
def SeqOk (r : Rul) : Prop := Plain r false false true false (-1) ∧ r.kids.length = r.names.length ∧ NamesOk r.names
noncomputable instance (r : Rul) : Decidable (SeqOk r) := Classical.propDecidable _
/-- The conditions of a kind as the program tests them. -/
def KindI (d : Des) (r : Rul) : Prop :=
  (r.kind = 1 ∧ Plain r true false false false 0 ∧ InR r.size 1 4 ∧ (r.little = false ∨ 1 < r.size)) ∨
  (r.kind = 2 ∧ Plain r false true false false 0 ∧ InR r.bytes.length 1 16) ∨
  (r.kind = 3 ∧ Plain r true false false false 0 ∧ InR r.size 1 64) ∨
  (r.kind = 4 ∧ Plain r false false false false 1 ∧ 0 < lim d (r.kids.headD 0)) ∨
  (r.kind = 5 ∧ Plain r false false false false 2 ∧ 0 < lim d (r.kids.headD 0)) ∨
  (r.kind = 6 ∧ SeqOk r) ∨
  (r.kind = 7 ∧ ChoiceOk d r) ∨
  ((r.kind = 8 ∨ r.kind = 9) ∧ Plain r false false false false 1) ∨
  (r.kind = 10 ∧ Plain r false true false false 0 ∧ r.bytes.length = 1 ∧ r.bytes.headD 0 ≠ 92)
noncomputable instance (d : Des) (r : Rul) : Decidable (KindI d r) := Classical.propDecidable _
theorem Plain.kids {r : Rul} {a b c d : Bool} {k : Int} (h : Plain r a b c d k) (hk : 0 ≤ k) : (r.kids.length : Int) = k := by
  have := h.2.2.2.2; omega
theorem seqOk_iff {r : Rul} : SeqOk r ∧ (r.little = false ∨ r.kind = 1) ↔ Shape r false false true false r.names.length ∧ NamesOk r.names := by
  unfold SeqOk Shape Plain
  constructor
  · rintro ⟨⟨⟨a, b, c, d, e⟩, f, g⟩, h⟩
    exact ⟨⟨⟨a, b, c, d, by omega⟩, h⟩, g⟩
  · rintro ⟨⟨⟨a, b, c, d, e⟩, h⟩, g⟩
    exact ⟨⟨⟨a, b, c, d, by omega⟩, by omega, g⟩, h⟩
theorem choiceOk_iff {d : Des} {r : Rul} : ChoiceOk d r ∧ (r.little = false ∨ r.kind = 1) ↔ Shape r false false false true (-1) ∧ TagsOk d r := by
  unfold ChoiceOk Shape Plain
  constructor
  · rintro ⟨⟨⟨a, b, c, d, e⟩, g⟩, h⟩
    exact ⟨⟨⟨a, b, c, d, by omega⟩, h⟩, g⟩
  · rintro ⟨⟨⟨a, b, c, d, e⟩, h⟩, g⟩
    exact ⟨⟨⟨a, b, c, d, .inr (by have := g.1; omega)⟩, g⟩, h⟩
theorem kindI_iff (d : Des) (r : Rul) : KindI d r ∧ (r.little = false ∨ r.kind = 1) ↔ KindOk d r := by
  unfold KindI KindOk
  have h1 := @seqOk_iff r
  have h2 := @choiceOk_iff d r
  unfold Shape at h1 h2 ⊢
  constructor
  · rintro ⟨(h | h | h | h | h | h | h | h | h), hl⟩
    · exact .inl ⟨h.1, ⟨h.2.1, hl⟩, h.2.2⟩
    · exact .inr (.inl ⟨h.1, ⟨h.2.1, hl⟩, h.2.2⟩)
    · exact .inr (.inr (.inl ⟨h.1, ⟨h.2.1, hl⟩, h.2.2⟩))
    · exact .inr (.inr (.inr (.inl ⟨h.1, ⟨h.2.1, hl⟩, h.2.2⟩)))
    · exact .inr (.inr (.inr (.inr (.inl ⟨h.1, ⟨h.2.1, hl⟩, h.2.2⟩))))
    · exact .inr (.inr (.inr (.inr (.inr (.inl ⟨h.1, h1.1 ⟨h.2, hl⟩⟩)))))
    · exact .inr (.inr (.inr (.inr (.inr (.inr (.inl ⟨h.1, h2.1 ⟨h.2, hl⟩⟩))))))
    · exact .inr (.inr (.inr (.inr (.inr (.inr (.inr (.inl ⟨h.1, h.2, hl⟩)))))))
    · exact .inr (.inr (.inr (.inr (.inr (.inr (.inr (.inr ⟨h.1, ⟨h.2.1, hl⟩, h.2.2⟩)))))))
  · rintro (h | h | h | h | h | h | h | h | h)
    · exact ⟨.inl ⟨h.1, h.2.1.1, h.2.2⟩, h.2.1.2⟩
    · exact ⟨.inr (.inl ⟨h.1, h.2.1.1, h.2.2⟩), h.2.1.2⟩
    · exact ⟨.inr (.inr (.inl ⟨h.1, h.2.1.1, h.2.2⟩)), h.2.1.2⟩
    · exact ⟨.inr (.inr (.inr (.inl ⟨h.1, h.2.1.1, h.2.2⟩))), h.2.1.2⟩
    · exact ⟨.inr (.inr (.inr (.inr (.inl ⟨h.1, h.2.1.1, h.2.2⟩)))), h.2.1.2⟩
    · exact ⟨.inr (.inr (.inr (.inr (.inr (.inl ⟨h.1, (h1.2 h.2).1⟩))))), (h1.2 h.2).2⟩
    · exact ⟨.inr (.inr (.inr (.inr (.inr (.inr (.inl ⟨h.1, (h2.2 h.2).1⟩)))))), (h2.2 h.2).2⟩
    · exact ⟨.inr (.inr (.inr (.inr (.inr (.inr (.inr (.inl ⟨h.1, h.2.1⟩))))))), h.2.2⟩
    · exact ⟨.inr (.inr (.inr (.inr (.inr (.inr (.inr (.inr ⟨h.1, h.2.1.1, h.2.2⟩))))))), h.2.1.2⟩
end Go.Proofs.YtnbjncafoahclaaDoor
