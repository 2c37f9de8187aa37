/- The verifier of one instruction: both sides return the same. -/
import Derived.Test.YtnbjncafoahclaaDoorPrgO
namespace Go.Proofs.YtnbjncafoahclaaDoor
set_option linter.unusedSimpArgs false
set_option linter.unusedVariables false
open Go.RowKit
abbrev InR (x lo hi : Int) : Prop := lo ≤ x ∧ x ≤ hi
theorem inRange_ac (x lo hi : Int) : ACv Tryd.prog 27 [.int x, .int lo, .int hi] (.bool (decide (InR x lo hi))) := by
  refine ac_enter Tryd.func27 rfl _ Tryd.ntmps27 (by simp) fun C hn hm => ?_
  repeat' (first
    | refine RunsL.step tabOk hn rfl ?_
    | refine RunsL.nil ?_
    | refine Runs.toRegion 30 rfl ?_
    | (refine Runs.ctls 30 rfl ?_; first | refine Runs.cond_t rfl ?_ | refine Runs.cond_f rfl ?_ | ((first | refine Runs.cond_yes rfl ?_ ?_ | refine Runs.cond_nno rfl ?_ ?_); · first | omega | rfl | assumption | (simp only [List.length_map]; omega)) | ((first | refine Runs.cond_no rfl ?_ ?_ | refine Runs.cond_nyes rfl ?_ ?_); · first | omega | rfl | assumption | (simp only [List.length_map]; omega)) | refine Runs.cond_dec rfl (fun h => ?_) (fun h => ?_) | refine Runs.cond_ndec rfl (fun h => ?_) (fun h => ?_) | refine Runs.cond_nb rfl (fun h => ?_) (fun h => ?_) | refine Runs.cond_b rfl (fun h => ?_) (fun h => ?_) | refine Runs.ret (ends_ro hm rfl rfl ?_) | exact Runs.ret (ends_cellR hm rfl rfl rfl (Nat.le_of_ble_eq_true rfl) rfl rfl))
    | refine op_box rfl (tl hn rfl) ?_
    | refine op_storeF rfl rfl rfl rfl (Nat.le_of_ble_eq_true rfl) ?_
    | refine op_alloc (tl hn rfl) ?_
    | refine op_storeN rfl rfl rfl rfl (Nat.le_of_ble_eq_true rfl) ?_
    | (refine RunsL.pe hn rfl rfl rfl ?_; first
      | refine ⟨_, pu_add rfl rfl (by omega), ?_⟩
      | refine ⟨_, pu_indexAddr_map rfl rfl (by omega) (by assumption), ?_⟩
      | refine ⟨_, pu_sub rfl rfl (by omega), ?_⟩
      | refine ⟨_, pu_pick_b rfl rfl rfl, ?_⟩
      | refine ⟨_, pu_mul rfl rfl (by omega), ?_⟩
      | refine ⟨_, pu_build rfl rfl rfl rfl rfl rfl, ?_⟩)
    | ((first | refine RunsL.guard_dec rfl rfl rfl ?_ ?_ | refine RunsL.guard_ndec rfl rfl rfl ?_ ?_ | refine RunsL.guard_nb rfl rfl rfl ?_ ?_ | refine RunsL.guard_b rfl rfl rfl ?_ ?_) <;> intro h <;> try (exfalso; first | omega | contradiction | (simp only [List.length_map] at h; omega))))
  all_goals exact rr_bool (by rw [Bool.eq_iff_iff]; simp only [decide_eq_true_eq, Bool.not_eq_true', decide_eq_false_iff_not, Bool.false_eq_true, true_iff, false_iff, Bool.and_eq_true, Bool.or_eq_true, Bool.not_eq_eq_eq_not, Bool.not_true, Bool.not_false, reduceCtorEq, eq_self, iff_true, iff_false, ne_eq]; simp only [InR] at *; omega)
theorem l1In_ac (x lo hi : Int) : ACv Tryd.prog 26 [.int x, .int lo, .int hi] (.bool (decide (InR x lo hi))) := by
  refine ac_enter Tryd.func26 rfl _ Tryd.ntmps26 (by simp) fun C hn hm => ?_
  repeat' (first
    | refine RunsL.step tabOk hn rfl ?_
    | refine RunsL.nil ?_
    | refine Runs.toRegion 30 rfl ?_
    | (refine Runs.ctls 30 rfl ?_; first | refine Runs.cond_t rfl ?_ | refine Runs.cond_f rfl ?_ | ((first | refine Runs.cond_yes rfl ?_ ?_ | refine Runs.cond_nno rfl ?_ ?_); · first | omega | rfl | assumption | (simp only [List.length_map]; omega)) | ((first | refine Runs.cond_no rfl ?_ ?_ | refine Runs.cond_nyes rfl ?_ ?_); · first | omega | rfl | assumption | (simp only [List.length_map]; omega)) | refine Runs.cond_dec rfl (fun h => ?_) (fun h => ?_) | refine Runs.cond_ndec rfl (fun h => ?_) (fun h => ?_) | refine Runs.cond_nb rfl (fun h => ?_) (fun h => ?_) | refine Runs.cond_b rfl (fun h => ?_) (fun h => ?_) | refine Runs.ret (ends_ro hm rfl rfl ?_) | exact Runs.ret (ends_cellR hm rfl rfl rfl (Nat.le_of_ble_eq_true rfl) rfl rfl))
    | refine op_box rfl (tl hn rfl) ?_
    | refine op_storeF rfl rfl rfl rfl (Nat.le_of_ble_eq_true rfl) ?_
    | refine op_alloc (tl hn rfl) ?_
    | refine op_storeN rfl rfl rfl rfl (Nat.le_of_ble_eq_true rfl) ?_
    | (refine RunsL.pe hn rfl rfl rfl ?_; first
      | refine ⟨_, pu_add rfl rfl (by omega), ?_⟩
      | refine ⟨_, pu_indexAddr_map rfl rfl (by omega) (by assumption), ?_⟩
      | refine ⟨_, pu_sub rfl rfl (by omega), ?_⟩
      | refine ⟨_, pu_pick_b rfl rfl rfl, ?_⟩
      | refine ⟨_, pu_mul rfl rfl (by omega), ?_⟩
      | refine ⟨_, pu_build rfl rfl rfl rfl rfl rfl, ?_⟩)
    | ((first | refine RunsL.guard_dec rfl rfl rfl ?_ ?_ | refine RunsL.guard_ndec rfl rfl rfl ?_ ?_ | refine RunsL.guard_nb rfl rfl rfl ?_ ?_ | refine RunsL.guard_b rfl rfl rfl ?_ ?_) <;> intro h <;> try (exfalso; first | omega | contradiction | (simp only [List.length_map] at h; omega))))
  all_goals exact rr_bool (by rw [Bool.eq_iff_iff]; simp only [decide_eq_true_eq, Bool.not_eq_true', decide_eq_false_iff_not, Bool.false_eq_true, true_iff, false_iff, Bool.and_eq_true, Bool.or_eq_true, Bool.not_eq_eq_eq_not, Bool.not_true, Bool.not_false, reduceCtorEq, eq_self, iff_true, iff_false, ne_eq]; simp only [InR] at *; omega)
abbrev Idx (p : Prg) (i : Int) : Prop := 0 ≤ i ∧ i < p.code.length
abbrev Goes (op : Int) : Prop := op ≠ 8 ∧ op ≠ 10 ∧ op ≠ 12 ∧ op ≠ 17
/-- What is no index is in range. -/
def OpOk (x : Ins) : Prop := (x.op = 1 → InR x.a 1 4 ∧ InR x.b 0 1) ∧ (x.op = 2 ∨ x.op = 16 → InR x.a 0 255) ∧ (x.op = 3 ∨ x.op = 5 → InR x.a 0 400) ∧ (x.op = 11 → 0 ≤ x.a) ∧ (x.op = 12 → InR x.a 1 8) ∧ InR x.op 1 17
instance (x : Ins) : Decidable (OpOk x) := by unfold OpOk; infer_instance
def SafeX (n i : Int) (x : Ins) : Prop := OpOk x ∧ (x.op = 7 ∨ x.op = 8 ∨ x.op = 9 ∨ x.op = 13 → 0 ≤ x.a ∧ x.a < n) ∧ (x.op = 11 → 0 ≤ x.b ∧ x.b < n) ∧ (Goes x.op → i + 1 < n)
instance (n i : Int) (x : Ins) : Decidable (SafeX n i x) := by unfold SafeX; infer_instance
/-- The instruction at an index is safe. -/
def SafeI (p : Prg) (i : Int) : Prop := match p.code[i.toNat]? with
  | some x => 0 ≤ i ∧ SafeX p.code.length i x
  | none => False
instance (p : Prg) (i : Int) : Decidable (SafeI p i) := by unfold SafeI; split <;> infer_instance
theorem safeI_some {p : Prg} {i : Int} {x : Ins} (h : p.code[i.toNat]? = some x) : SafeI p i ↔ 0 ≤ i ∧ SafeX p.code.length i x := by unfold SafeI; rw [h]
theorem safeI_out {p : Prg} {i : Int} (h : ¬ Idx p i) : SafeI p i ↔ False := by
  unfold SafeI
  split
  · rename_i x hx
    have := (List.getElem?_eq_some_iff.1 hx).1
    unfold Idx at h
    exact ⟨fun h' => h (by omega), False.elim⟩
  · exact Iff.rfl
end Go.Proofs.YtnbjncafoahclaaDoor
