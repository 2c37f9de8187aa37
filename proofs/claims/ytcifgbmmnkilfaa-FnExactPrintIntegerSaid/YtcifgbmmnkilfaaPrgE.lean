/- Equality of slices and of programs: both sides return the same. -/
import Derived.Test.YtcifgbmmnkilfaaPrgO
import Derived.Laws.StructEq
namespace Go.Proofs.Ytcifgbmmnkilfaa
set_option linter.unusedSimpArgs false
set_option linter.unusedVariables false
open Go.RowKit
deriving instance DecidableEq for Ins
deriving instance DecidableEq for Prg
section
variable {α : Type} {a b : List α} {j : Nat} {x y : α}
theorem take_eq_next (h : a.take j = b.take j) (hx : a[j]? = some x) (hy : b[j]? = some x) : a.take (j + 1) = b.take (j + 1) := by
  rw [List.take_add_one, List.take_add_one, h, hx, hy]
theorem take_eq_not (hx : a[j]? = some x) (hy : b[j]? = some y) (hn : x ≠ y) : a ≠ b := by
  rintro rfl
  rw [hx] at hy; injection hy with hy; exact hn hy
theorem take_eq_all (h : a.take a.length = b.take a.length) (hl : a.length = b.length) : a = b := by
  rw [List.take_length] at h; rw [hl, List.take_length] at h; exact h
end
end Go.Proofs.Ytcifgbmmnkilfaa
