/- A program, opened. -/
import Derived.Test.YtnbjncafoahclaaDoorPrgH
import Derived.Test.YtnbjncafoahclaaDoorArg
namespace Go.Proofs.YtnbjncafoahclaaDoor
set_option linter.unusedSimpArgs false
set_option linter.unusedVariables false
open Go.RowKit
def InsOk (i : Ins) : Prop := I64 i.op ∧ I64 i.a ∧ I64 i.b
structure PrgOk (p : Prg) : Prop where
  code : ∀ i ∈ p.code, InsOk i
  entries : ∀ e ∈ p.entries, I64 e
  clen : p.code.length ≤ maxLen
  elen : p.entries.length ≤ maxLen
theorem ins_of {rcs : List RV} (h : TyC Tryd.prog 27 rcs) : ∃ i : Ins, rcs = insR i ∧ InsOk i := by
  obtain ⟨cells, rfl, hp⟩ := h.parts Tryd.underlying27
  obtain ⟨c0, _, rfl, h0, c1, _, rfl, h1, c2, _, rfl, h2, rfl⟩ := hp
  obtain ⟨n0, rfl, b0⟩ := h0.i64 Tryd.underlying3
  obtain ⟨n1, rfl, b1⟩ := h1.i64 Tryd.underlying3
  obtain ⟨n2, rfl, b2⟩ := h2.i64 Tryd.underlying3
  exact ⟨⟨n0, n1, n2⟩, rfl, b0, b1, b2⟩
end Go.Proofs.YtnbjncafoahclaaDoor
