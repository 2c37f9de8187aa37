/- A program, opened. -/
import Derived.Test.YtkkmmfgncdfcfaaPrgH
import Derived.Test.YtkkmmfgncdfcfaaArg
namespace Go.Proofs.Ytkkmmfgncdfcfaa
set_option linter.unusedSimpArgs false
set_option linter.unusedVariables false
open Go.RowKit
def InsOk (i : Ins) : Prop := I64 i.op ∧ I64 i.a ∧ I64 i.b
structure PrgOk (p : Prg) : Prop where
  code : ∀ i ∈ p.code, InsOk i
  entries : ∀ e ∈ p.entries, I64 e
  clen : p.code.length ≤ maxLen
  elen : p.entries.length ≤ maxLen
theorem ins_of {rcs : List RV} (h : TyC Try.prog 83 rcs) : ∃ i : Ins, rcs = insR i ∧ InsOk i := by
  obtain ⟨cells, rfl, hp⟩ := h.parts Try.underlying83
  obtain ⟨c0, _, rfl, h0, c1, _, rfl, h1, c2, _, rfl, h2, rfl⟩ := hp
  obtain ⟨n0, rfl, b0⟩ := h0.i64 Try.underlying3
  obtain ⟨n1, rfl, b1⟩ := h1.i64 Try.underlying3
  obtain ⟨n2, rfl, b2⟩ := h2.i64 Try.underlying3
  exact ⟨⟨n0, n1, n2⟩, rfl, b0, b1, b2⟩
theorem prg_of {rcs : List RV} (h : TyC Try.prog 44 rcs) : ∃ p : Prg, .agg rcs = prgR p ∧ PrgOk p := by
  obtain ⟨cells, rfl, hp⟩ := h.parts Try.underlying44
  obtain ⟨c0, _, rfl, h0, c1, _, rfl, h1, rfl⟩ := hp
  obtain ⟨els, rfl, hl, hels⟩ := h0.inv_slice Try.underlying42
  obtain ⟨l, rfl, hq⟩ := els_of (f := insR) (Q := InsOk) fun el hel => ins_of (hels el hel)
  obtain ⟨es, rfl, hl2, hq2⟩ := h1.ints Try.underlying34 Try.underlying3 (by kernel_rfl)
  have hc : Try.prog.cellsOf 83 = 3 := by kernel_rfl
  exact ⟨⟨l, es⟩, by rw [hc]; rfl, hq, hq2, by simpa using hl, hl2⟩
end Go.Proofs.Ytkkmmfgncdfcfaa
