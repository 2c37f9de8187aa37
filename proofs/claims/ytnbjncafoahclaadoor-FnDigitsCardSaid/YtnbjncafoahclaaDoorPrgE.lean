/- Equality of slices and of programs: both sides return the same. -/
import Derived.Test.YtnbjncafoahclaaDoorPrgO
import Derived.Laws.StructEq
namespace Go.Proofs.YtnbjncafoahclaaDoor
set_option linter.unusedSimpArgs false
set_option linter.unusedVariables false
open Go.RowKit
deriving instance DecidableEq for Ins
deriving instance DecidableEq for Prg
section
variable {α : Type} {a b : List α} {j : Nat} {x y : α}
theorem take_eq_next (h : a.take j = b.take j) (hx : a[j]? = some x) (hy : b[j]? = some x) : a.take (j + 1) = b.take (j + 1) := by
  rw [List.take_add_one, List.take_add_one, h, hx, hy]
theorem take_eq_not (hx : a[j]? = some x) (hy : b[j]? = some y) (hn : x ≠ y) : a ≠ b := by
  rintro rfl
  rw [hx] at hy; injection hy with hy; exact hn hy
theorem take_eq_all (h : a.take a.length = b.take a.length) (hl : a.length = b.length) : a = b := by
  rw [List.take_length] at h; rw [hl, List.take_length] at h; exact h
end
def insV (i : Ins) : List Value := [.int .i64 i.op, .int .i64 i.a, .int .i64 i.b]
theorem ins_eqIn (i j : Ins) (d : Nat) (w : World) : (Op.equalIn (d + 2) 29 (.agg (insV i).toArray) (.agg (insV j).toArray)).run Tryd.prog w = .ok (decide (i = j)) w := by
  have hu : Tryd.prog.underlying 3 = some (.int .i64) := Tryd.underlying3
  rw [run_equalIn_agg w (d + 1) 29 _ _ (by kernel_rfl) (by kernel_rfl)]
  unfold Program.fieldsOf
  rw [Tryd.underlying29]
  simp [insV, go_sem, Op.eqFields, run_equalIn_int w d 3 .i64 .i64 _ _ hu]
  obtain ⟨a, b, c⟩ := i
  obtain ⟨x, y, z⟩ := j
  simp only [Ins.mk.injEq]
  split
  · split
    · split <;> simp_all
    · simp_all
  · simp_all
theorem ins_neq (x y : Operand) (i j : Ins) (w : World) : ((do eqGuard .neq 29 x y (.agg (insV i).toArray) (.agg (insV j).toArray); binOp .neq 29 (.agg (insV i).toArray) (.agg (insV j).toArray) : Sem Value)).run Tryd.prog w = .ok (.bool (!decide (i = j))) w := by
  rw [Sem.run_bind, run_eqGuard_agg w .neq _ x y _ _ (by kernel_rfl), Result.andThen_ok, run_neq_struct, ins_eqIn i j 9998 w]
  rfl
end Go.Proofs.YtnbjncafoahclaaDoor
