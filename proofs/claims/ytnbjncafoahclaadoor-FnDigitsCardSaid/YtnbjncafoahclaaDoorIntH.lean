/- The laws' own helpers on slices of integers, over values: sizes, copies, comparisons. -/
import Derived.Test.YtnbjncafoahclaaDoorTab
import Derived.Test.YtnbjncafoahclaaDoorOwn
namespace Go.Proofs.YtnbjncafoahclaaDoor
set_option linter.unusedSimpArgs false
set_option linter.unusedVariables false
open Go.RowKit
/-- What is left of a size. -/
def sz1 (left n : Int) : Int := if left < n then -1 else left - n
theorem sz1_neg {left n : Int} (h : left < n) : sz1 left n = -1 := if_pos h
theorem sz1_pos {left n : Int} (h : n ≤ left) : sz1 left n = left - n := if_neg (by omega)
theorem sz1_lt {left n : Int} (h : sz1 left n < 0) : sz1 left n = -1 := by
  by_cases hl : left < n
  · exact sz1_neg hl
  · rw [sz1_pos (by omega)] at h; omega
theorem sz1_ge {left n : Int} (h : ¬ sz1 left n < 0) : n ≤ left := by
  by_cases hl : left < n
  · rw [sz1_neg hl] at h; omega
  · omega
theorem seals_ints (e : TypeId) (l : List Int) : Seals (.row e 1 (l.map RV.int)) (intsR l) := by
  have h := seals_row1 e (l.map RV.int)
  rwa [List.map_map] at h
theorem take_set {α : Type} (l : List α) (z : α) (n k : Nat) (hn : l.length = n) (x : α) (hx : l[k]? = some x) : (l.take k ++ List.replicate (n - k) z).set k x = l.take (k + 1) ++ List.replicate (n - (k + 1)) z := by
  obtain ⟨hk, rfl⟩ := List.getElem?_eq_some_iff.1 hx
  exact set_step l z n k hn (by omega) hk
end Go.Proofs.YtnbjncafoahclaaDoor
