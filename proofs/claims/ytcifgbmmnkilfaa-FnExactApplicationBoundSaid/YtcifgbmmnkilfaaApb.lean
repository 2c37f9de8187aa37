/- ApplicationBound: both sides. -/
import Derived.Test.YtcifgbmmnkilfaaVkI
namespace Go.Proofs.Ytcifgbmmnkilfaa
set_option linter.unusedSimpArgs false
set_option linter.unusedVariables false
open Go.RowKit
noncomputable def appBound (d : Des) (n : Int) : Int := open Classical in if Good' d ∧ 0 ≤ n ∧ n ≤ 400 then (n + 1) * d.length else 0
theorem mul_bd {n : Int} {k : Nat} (h0 : 0 ≤ n) (h1 : n ≤ 400) (hk : k ≤ 1048576) : -9223372036854775808 ≤ (n + 1) * (k : Int) ∧ (n + 1) * (k : Int) ≤ 9223372036854775807 := by
  have a := Int.mul_nonneg (show 0 ≤ n + 1 by omega) (show (0 : Int) ≤ k by omega)
  have b := Int.mul_le_mul (show n + 1 ≤ 401 by omega) (show (k : Int) ≤ 1048576 by omega) (by omega) (by omega)
  omega
theorem impl_ApplicationBound (d : Des) (ho : DesOk d) (hd : dtotal d ≤ 1048576) (n : Int) : ACv Try.prog 18 [desR d, .int n] (.int (appBound d n)) := by
  have hlm : (d.map rulR).length = d.length := List.length_map ..
  have et : dtotal d = d.length + (d.map Rul.total).sum := rfl
  have hv := impl_IsValidDescription d ho hd
  unfold appBound
  refine ac_enter Try.func18 rfl _ Try.ntmps18 (by simp) fun C hn hm => ?_
  by_cases hG : Good' d ∧ 0 ≤ n ∧ n ≤ 400
  · have h1 := hG.1
    rw [if_pos hG]
    repeat' (first
      | refine RunsL.step tabOk hn rfl ?_
      | refine RunsL.nil ?_
      | refine Runs.toRegion 30 rfl ?_
      | refine RunsL.pur (pu_callR hv rfl) rfl rfl (Nat.lt_of_lt_of_eq (Nat.le_of_ble_eq_true rfl) hn.symm) ?_
      | refine RunsD.pur (pu_callR hv rfl) rfl rfl ?_
      | refine RunsL.pur (pu_callR (inRange_ac _ _ _) rfl) rfl rfl (Nat.lt_of_lt_of_eq (Nat.le_of_ble_eq_true rfl) hn.symm) ?_
      | refine RunsD.pur (pu_callR (inRange_ac _ _ _) rfl) rfl rfl ?_
      | refine RunsL.pur (pu_mul rfl rfl (by rw [hlm]; exact mul_bd hG.2.1 hG.2.2 (by omega))) rfl rfl (Nat.lt_of_lt_of_eq (Nat.le_of_ble_eq_true rfl) hn.symm) ?_
      | refine RunsD.pur (pu_mul rfl rfl (by rw [hlm]; exact mul_bd hG.2.1 hG.2.2 (by omega))) rfl rfl ?_
      | (refine Runs.ctls 30 rfl ?_; first | refine Runs.cond_t rfl ?_ | refine Runs.cond_f rfl ?_ | refine Runs.cond_yes rfl (by first | omega | rfl | assumption | (simp only [List.length_map]; omega)) ?_ | refine Runs.cond_no rfl (by first | omega | rfl | assumption | (simp only [List.length_map]; omega)) ?_ | refine Runs.cond_nyes rfl (by first | omega | rfl | assumption | (simp only [List.length_map]; omega)) ?_ | refine Runs.cond_nno rfl (by first | omega | rfl | assumption | (simp only [List.length_map]; omega)) ?_ | refine Runs.cond_dec rfl (fun h => ?_) (fun h => ?_) | refine Runs.cond_ndec rfl (fun h => ?_) (fun h => ?_) | refine Runs.cond_nb rfl (fun h => ?_) (fun h => ?_) | refine Runs.cond_b rfl (fun h => ?_) (fun h => ?_) | refine Runs.ret (ends_ro hm rfl rfl ?_) | exact Runs.ret (ends_cellR hm rfl rfl rfl (Nat.le_of_ble_eq_true rfl) rfl rfl))
      | refine op_box rfl (Nat.lt_of_lt_of_eq (Nat.le_of_ble_eq_true rfl) hn.symm) ?_
      | refine RunsL.pur (pu_add rfl rfl (by omega)) rfl rfl (Nat.lt_of_lt_of_eq (Nat.le_of_ble_eq_true rfl) hn.symm) ?_
      | refine RunsD.pur (pu_add rfl rfl (by omega)) rfl rfl ?_
      | refine RunsL.pur (pu_indexAddr_map rfl rfl (by omega) (by assumption)) rfl rfl (Nat.lt_of_lt_of_eq (Nat.le_of_ble_eq_true rfl) hn.symm) ?_
      | refine RunsD.pur (pu_indexAddr_map rfl rfl (by omega) (by assumption)) rfl rfl ?_
      | refine RunsL.pur (pu_sub rfl rfl (by omega)) rfl rfl (Nat.lt_of_lt_of_eq (Nat.le_of_ble_eq_true rfl) hn.symm) ?_
      | refine RunsD.pur (pu_sub rfl rfl (by omega)) rfl rfl ?_
      | refine RunsL.pur (pu_pick_b rfl rfl rfl) rfl rfl (Nat.lt_of_lt_of_eq (Nat.le_of_ble_eq_true rfl) hn.symm) ?_
      | refine RunsD.pur (pu_pick_b rfl rfl rfl) rfl rfl ?_
      | refine op_storeF rfl rfl rfl rfl (Nat.le_of_ble_eq_true rfl) ?_
      | refine op_alloc (Nat.lt_of_lt_of_eq (Nat.le_of_ble_eq_true rfl) hn.symm) ?_
      | refine op_storeN rfl rfl rfl rfl (Nat.le_of_ble_eq_true rfl) ?_
      | refine RunsD.step tabOk hn rfl rfl ?_
      | refine RunsD.nil ?_
      | refine Runs.toDraw 30 mixed hn rfl (by kernel_rfl) rfl ?_
      | refine RunsL.pur (pu_mul rfl rfl (by omega)) rfl rfl (Nat.lt_of_lt_of_eq (Nat.le_of_ble_eq_true rfl) hn.symm) ?_
      | refine RunsD.pur (pu_mul rfl rfl (by omega)) rfl rfl ?_
      | refine RunsL.pur (pu_build rfl rfl rfl rfl rfl rfl) rfl rfl (Nat.lt_of_lt_of_eq (Nat.le_of_ble_eq_true rfl) hn.symm) ?_
      | refine RunsD.pur (pu_build rfl rfl rfl rfl rfl rfl) rfl rfl ?_
      | refine RunsL.guard_dec rfl rfl rfl (fun h => ?_) (fun h => by exfalso; first | omega | contradiction | (simp only [List.length_map] at h; omega))
      | refine RunsL.guard_dec rfl rfl rfl (fun h => by exfalso; first | omega | contradiction | (simp only [List.length_map] at h; omega)) (fun h => ?_)
      | refine RunsL.guard_ndec rfl rfl rfl (fun h => ?_) (fun h => by exfalso; first | omega | contradiction | (simp only [List.length_map] at h; omega))
      | refine RunsL.guard_ndec rfl rfl rfl (fun h => by exfalso; first | omega | contradiction | (simp only [List.length_map] at h; omega)) (fun h => ?_)
      | refine RunsD.guard_dec rfl rfl rfl (fun h => ?_) (fun h => by exfalso; first | omega | contradiction | (simp only [List.length_map] at h; omega))
      | refine RunsD.guard_dec rfl rfl rfl (fun h => by exfalso; first | omega | contradiction | (simp only [List.length_map] at h; omega)) (fun h => ?_)
      | refine RunsD.guard_ndec rfl rfl rfl (fun h => ?_) (fun h => by exfalso; first | omega | contradiction | (simp only [List.length_map] at h; omega))
      | refine RunsD.guard_ndec rfl rfl rfl (fun h => by exfalso; first | omega | contradiction | (simp only [List.length_map] at h; omega)) (fun h => ?_)
      | refine RunsL.guard_dec rfl rfl rfl (fun h => ?_) (fun h => ?_)
      | refine RunsL.guard_ndec rfl rfl rfl (fun h => ?_) (fun h => ?_)
      | refine RunsL.guard_nb rfl rfl rfl (fun h => ?_) (fun h => ?_)
      | refine RunsL.guard_b rfl rfl rfl (fun h => ?_) (fun h => ?_)
      | refine RunsD.guard_dec rfl rfl rfl (fun h => ?_) (fun h => ?_)
      | refine RunsD.guard_ndec rfl rfl rfl (fun h => ?_) (fun h => ?_)
      | refine RunsD.guard_nb rfl rfl rfl (fun h => ?_) (fun h => ?_)
      | refine RunsD.guard_b rfl rfl rfl (fun h => ?_) (fun h => ?_))
    exact rr_int (by rw [hlm])
  · rw [if_neg hG]
    by_cases h1 : Good' d
    · repeat' (first
      | refine RunsL.step tabOk hn rfl ?_
      | refine RunsL.nil ?_
      | refine Runs.toRegion 30 rfl ?_
      | refine RunsL.pur (pu_callR hv rfl) rfl rfl (Nat.lt_of_lt_of_eq (Nat.le_of_ble_eq_true rfl) hn.symm) ?_
      | refine RunsD.pur (pu_callR hv rfl) rfl rfl ?_
      | refine RunsL.pur (pu_callR (inRange_ac _ _ _) rfl) rfl rfl (Nat.lt_of_lt_of_eq (Nat.le_of_ble_eq_true rfl) hn.symm) ?_
      | refine RunsD.pur (pu_callR (inRange_ac _ _ _) rfl) rfl rfl ?_
      | (refine Runs.ctls 30 rfl ?_; first | refine Runs.cond_t rfl ?_ | refine Runs.cond_f rfl ?_ | refine Runs.cond_yes rfl (by first | omega | rfl | assumption | (simp only [List.length_map]; omega)) ?_ | refine Runs.cond_no rfl (by first | omega | rfl | assumption | (simp only [List.length_map]; omega)) ?_ | refine Runs.cond_nyes rfl (by first | omega | rfl | assumption | (simp only [List.length_map]; omega)) ?_ | refine Runs.cond_nno rfl (by first | omega | rfl | assumption | (simp only [List.length_map]; omega)) ?_ | refine Runs.cond_dec rfl (fun h => ?_) (fun h => ?_) | refine Runs.cond_ndec rfl (fun h => ?_) (fun h => ?_) | refine Runs.cond_nb rfl (fun h => ?_) (fun h => ?_) | refine Runs.cond_b rfl (fun h => ?_) (fun h => ?_) | refine Runs.ret (ends_ro hm rfl rfl ?_) | exact Runs.ret (ends_cellR hm rfl rfl rfl (Nat.le_of_ble_eq_true rfl) rfl rfl))
      | refine op_box rfl (Nat.lt_of_lt_of_eq (Nat.le_of_ble_eq_true rfl) hn.symm) ?_
      | refine RunsL.pur (pu_add rfl rfl (by omega)) rfl rfl (Nat.lt_of_lt_of_eq (Nat.le_of_ble_eq_true rfl) hn.symm) ?_
      | refine RunsD.pur (pu_add rfl rfl (by omega)) rfl rfl ?_
      | refine RunsL.pur (pu_indexAddr_map rfl rfl (by omega) (by assumption)) rfl rfl (Nat.lt_of_lt_of_eq (Nat.le_of_ble_eq_true rfl) hn.symm) ?_
      | refine RunsD.pur (pu_indexAddr_map rfl rfl (by omega) (by assumption)) rfl rfl ?_
      | refine RunsL.pur (pu_sub rfl rfl (by omega)) rfl rfl (Nat.lt_of_lt_of_eq (Nat.le_of_ble_eq_true rfl) hn.symm) ?_
      | refine RunsD.pur (pu_sub rfl rfl (by omega)) rfl rfl ?_
      | refine RunsL.pur (pu_pick_b rfl rfl rfl) rfl rfl (Nat.lt_of_lt_of_eq (Nat.le_of_ble_eq_true rfl) hn.symm) ?_
      | refine RunsD.pur (pu_pick_b rfl rfl rfl) rfl rfl ?_
      | refine op_storeF rfl rfl rfl rfl (Nat.le_of_ble_eq_true rfl) ?_
      | refine op_alloc (Nat.lt_of_lt_of_eq (Nat.le_of_ble_eq_true rfl) hn.symm) ?_
      | refine op_storeN rfl rfl rfl rfl (Nat.le_of_ble_eq_true rfl) ?_
      | refine RunsD.step tabOk hn rfl rfl ?_
      | refine RunsD.nil ?_
      | refine Runs.toDraw 30 mixed hn rfl (by kernel_rfl) rfl ?_
      | refine RunsL.pur (pu_mul rfl rfl (by omega)) rfl rfl (Nat.lt_of_lt_of_eq (Nat.le_of_ble_eq_true rfl) hn.symm) ?_
      | refine RunsD.pur (pu_mul rfl rfl (by omega)) rfl rfl ?_
      | refine RunsL.pur (pu_build rfl rfl rfl rfl rfl rfl) rfl rfl (Nat.lt_of_lt_of_eq (Nat.le_of_ble_eq_true rfl) hn.symm) ?_
      | refine RunsD.pur (pu_build rfl rfl rfl rfl rfl rfl) rfl rfl ?_
      | refine RunsL.guard_dec rfl rfl rfl (fun h => ?_) (fun h => by exfalso; first | omega | contradiction | (simp only [List.length_map] at h; omega))
      | refine RunsL.guard_dec rfl rfl rfl (fun h => by exfalso; first | omega | contradiction | (simp only [List.length_map] at h; omega)) (fun h => ?_)
      | refine RunsL.guard_ndec rfl rfl rfl (fun h => ?_) (fun h => by exfalso; first | omega | contradiction | (simp only [List.length_map] at h; omega))
      | refine RunsL.guard_ndec rfl rfl rfl (fun h => by exfalso; first | omega | contradiction | (simp only [List.length_map] at h; omega)) (fun h => ?_)
      | refine RunsD.guard_dec rfl rfl rfl (fun h => ?_) (fun h => by exfalso; first | omega | contradiction | (simp only [List.length_map] at h; omega))
      | refine RunsD.guard_dec rfl rfl rfl (fun h => by exfalso; first | omega | contradiction | (simp only [List.length_map] at h; omega)) (fun h => ?_)
      | refine RunsD.guard_ndec rfl rfl rfl (fun h => ?_) (fun h => by exfalso; first | omega | contradiction | (simp only [List.length_map] at h; omega))
      | refine RunsD.guard_ndec rfl rfl rfl (fun h => by exfalso; first | omega | contradiction | (simp only [List.length_map] at h; omega)) (fun h => ?_)
      | refine RunsL.guard_dec rfl rfl rfl (fun h => ?_) (fun h => ?_)
      | refine RunsL.guard_ndec rfl rfl rfl (fun h => ?_) (fun h => ?_)
      | refine RunsL.guard_nb rfl rfl rfl (fun h => ?_) (fun h => ?_)
      | refine RunsL.guard_b rfl rfl rfl (fun h => ?_) (fun h => ?_)
      | refine RunsD.guard_dec rfl rfl rfl (fun h => ?_) (fun h => ?_)
      | refine RunsD.guard_ndec rfl rfl rfl (fun h => ?_) (fun h => ?_)
      | refine RunsD.guard_nb rfl rfl rfl (fun h => ?_) (fun h => ?_)
      | refine RunsD.guard_b rfl rfl rfl (fun h => ?_) (fun h => ?_))
      all_goals first
        | exact rr_int rfl
        | (exfalso; exact hG ⟨h1, by omega, by omega⟩)
    · repeat' (first
      | refine RunsL.step tabOk hn rfl ?_
      | refine RunsL.nil ?_
      | refine Runs.toRegion 30 rfl ?_
      | refine RunsL.pur (pu_callR hv rfl) rfl rfl (Nat.lt_of_lt_of_eq (Nat.le_of_ble_eq_true rfl) hn.symm) ?_
      | refine RunsD.pur (pu_callR hv rfl) rfl rfl ?_
      | refine RunsL.pur (pu_callR (inRange_ac _ _ _) rfl) rfl rfl (Nat.lt_of_lt_of_eq (Nat.le_of_ble_eq_true rfl) hn.symm) ?_
      | refine RunsD.pur (pu_callR (inRange_ac _ _ _) rfl) rfl rfl ?_
      | (refine Runs.ctls 30 rfl ?_; first | refine Runs.cond_t rfl ?_ | refine Runs.cond_f rfl ?_ | refine Runs.cond_yes rfl (by first | omega | rfl | assumption | (simp only [List.length_map]; omega)) ?_ | refine Runs.cond_no rfl (by first | omega | rfl | assumption | (simp only [List.length_map]; omega)) ?_ | refine Runs.cond_nyes rfl (by first | omega | rfl | assumption | (simp only [List.length_map]; omega)) ?_ | refine Runs.cond_nno rfl (by first | omega | rfl | assumption | (simp only [List.length_map]; omega)) ?_ | refine Runs.cond_dec rfl (fun h => ?_) (fun h => ?_) | refine Runs.cond_ndec rfl (fun h => ?_) (fun h => ?_) | refine Runs.cond_nb rfl (fun h => ?_) (fun h => ?_) | refine Runs.cond_b rfl (fun h => ?_) (fun h => ?_) | refine Runs.ret (ends_ro hm rfl rfl ?_) | exact Runs.ret (ends_cellR hm rfl rfl rfl (Nat.le_of_ble_eq_true rfl) rfl rfl))
      | refine op_box rfl (Nat.lt_of_lt_of_eq (Nat.le_of_ble_eq_true rfl) hn.symm) ?_
      | refine RunsL.pur (pu_add rfl rfl (by omega)) rfl rfl (Nat.lt_of_lt_of_eq (Nat.le_of_ble_eq_true rfl) hn.symm) ?_
      | refine RunsD.pur (pu_add rfl rfl (by omega)) rfl rfl ?_
      | refine RunsL.pur (pu_indexAddr_map rfl rfl (by omega) (by assumption)) rfl rfl (Nat.lt_of_lt_of_eq (Nat.le_of_ble_eq_true rfl) hn.symm) ?_
      | refine RunsD.pur (pu_indexAddr_map rfl rfl (by omega) (by assumption)) rfl rfl ?_
      | refine RunsL.pur (pu_sub rfl rfl (by omega)) rfl rfl (Nat.lt_of_lt_of_eq (Nat.le_of_ble_eq_true rfl) hn.symm) ?_
      | refine RunsD.pur (pu_sub rfl rfl (by omega)) rfl rfl ?_
      | refine RunsL.pur (pu_pick_b rfl rfl rfl) rfl rfl (Nat.lt_of_lt_of_eq (Nat.le_of_ble_eq_true rfl) hn.symm) ?_
      | refine RunsD.pur (pu_pick_b rfl rfl rfl) rfl rfl ?_
      | refine op_storeF rfl rfl rfl rfl (Nat.le_of_ble_eq_true rfl) ?_
      | refine op_alloc (Nat.lt_of_lt_of_eq (Nat.le_of_ble_eq_true rfl) hn.symm) ?_
      | refine op_storeN rfl rfl rfl rfl (Nat.le_of_ble_eq_true rfl) ?_
      | refine RunsD.step tabOk hn rfl rfl ?_
      | refine RunsD.nil ?_
      | refine Runs.toDraw 30 mixed hn rfl (by kernel_rfl) rfl ?_
      | refine RunsL.pur (pu_mul rfl rfl (by omega)) rfl rfl (Nat.lt_of_lt_of_eq (Nat.le_of_ble_eq_true rfl) hn.symm) ?_
      | refine RunsD.pur (pu_mul rfl rfl (by omega)) rfl rfl ?_
      | refine RunsL.pur (pu_build rfl rfl rfl rfl rfl rfl) rfl rfl (Nat.lt_of_lt_of_eq (Nat.le_of_ble_eq_true rfl) hn.symm) ?_
      | refine RunsD.pur (pu_build rfl rfl rfl rfl rfl rfl) rfl rfl ?_
      | refine RunsL.guard_dec rfl rfl rfl (fun h => ?_) (fun h => by exfalso; first | omega | contradiction | (simp only [List.length_map] at h; omega))
      | refine RunsL.guard_dec rfl rfl rfl (fun h => by exfalso; first | omega | contradiction | (simp only [List.length_map] at h; omega)) (fun h => ?_)
      | refine RunsL.guard_ndec rfl rfl rfl (fun h => ?_) (fun h => by exfalso; first | omega | contradiction | (simp only [List.length_map] at h; omega))
      | refine RunsL.guard_ndec rfl rfl rfl (fun h => by exfalso; first | omega | contradiction | (simp only [List.length_map] at h; omega)) (fun h => ?_)
      | refine RunsD.guard_dec rfl rfl rfl (fun h => ?_) (fun h => by exfalso; first | omega | contradiction | (simp only [List.length_map] at h; omega))
      | refine RunsD.guard_dec rfl rfl rfl (fun h => by exfalso; first | omega | contradiction | (simp only [List.length_map] at h; omega)) (fun h => ?_)
      | refine RunsD.guard_ndec rfl rfl rfl (fun h => ?_) (fun h => by exfalso; first | omega | contradiction | (simp only [List.length_map] at h; omega))
      | refine RunsD.guard_ndec rfl rfl rfl (fun h => by exfalso; first | omega | contradiction | (simp only [List.length_map] at h; omega)) (fun h => ?_)
      | refine RunsL.guard_dec rfl rfl rfl (fun h => ?_) (fun h => ?_)
      | refine RunsL.guard_ndec rfl rfl rfl (fun h => ?_) (fun h => ?_)
      | refine RunsL.guard_nb rfl rfl rfl (fun h => ?_) (fun h => ?_)
      | refine RunsL.guard_b rfl rfl rfl (fun h => ?_) (fun h => ?_)
      | refine RunsD.guard_dec rfl rfl rfl (fun h => ?_) (fun h => ?_)
      | refine RunsD.guard_ndec rfl rfl rfl (fun h => ?_) (fun h => ?_)
      | refine RunsD.guard_nb rfl rfl rfl (fun h => ?_) (fun h => ?_)
      | refine RunsD.guard_b rfl rfl rfl (fun h => ?_) (fun h => ?_))
      all_goals exact rr_int rfl
theorem spec_ApplicationBound (d : Des) (ho : DesOk d) (hd : dtotal d ≤ 1048576) (n : Int) : ACv Try.prog 16 [desR d, .int n] (.int (appBound d n)) := by
  have hlm : (d.map rulR).length = d.length := List.length_map ..
  have et : dtotal d = d.length + (d.map Rul.total).sum := rfl
  have hv := spec_IsValidDescription d ho hd
  unfold appBound
  refine ac_enter Try.func16 rfl _ Try.ntmps16 (by simp) fun C hn hm => ?_
  by_cases hG : Good' d ∧ 0 ≤ n ∧ n ≤ 400
  · have h1 := hG.1
    rw [if_pos hG]
    repeat' (first
      | refine RunsL.step tabOk hn rfl ?_
      | refine RunsL.nil ?_
      | refine Runs.toRegion 30 rfl ?_
      | refine RunsL.pur (pu_callR hv rfl) rfl rfl (Nat.lt_of_lt_of_eq (Nat.le_of_ble_eq_true rfl) hn.symm) ?_
      | refine RunsD.pur (pu_callR hv rfl) rfl rfl ?_
      | refine RunsL.pur (pu_callR (l1In_ac _ _ _) rfl) rfl rfl (Nat.lt_of_lt_of_eq (Nat.le_of_ble_eq_true rfl) hn.symm) ?_
      | refine RunsD.pur (pu_callR (l1In_ac _ _ _) rfl) rfl rfl ?_
      | refine RunsL.pur (pu_mul rfl rfl (by rw [hlm]; exact mul_bd hG.2.1 hG.2.2 (by omega))) rfl rfl (Nat.lt_of_lt_of_eq (Nat.le_of_ble_eq_true rfl) hn.symm) ?_
      | refine RunsD.pur (pu_mul rfl rfl (by rw [hlm]; exact mul_bd hG.2.1 hG.2.2 (by omega))) rfl rfl ?_
      | (refine Runs.ctls 30 rfl ?_; first | refine Runs.cond_t rfl ?_ | refine Runs.cond_f rfl ?_ | refine Runs.cond_yes rfl (by first | omega | rfl | assumption | (simp only [List.length_map]; omega)) ?_ | refine Runs.cond_no rfl (by first | omega | rfl | assumption | (simp only [List.length_map]; omega)) ?_ | refine Runs.cond_nyes rfl (by first | omega | rfl | assumption | (simp only [List.length_map]; omega)) ?_ | refine Runs.cond_nno rfl (by first | omega | rfl | assumption | (simp only [List.length_map]; omega)) ?_ | refine Runs.cond_dec rfl (fun h => ?_) (fun h => ?_) | refine Runs.cond_ndec rfl (fun h => ?_) (fun h => ?_) | refine Runs.cond_nb rfl (fun h => ?_) (fun h => ?_) | refine Runs.cond_b rfl (fun h => ?_) (fun h => ?_) | refine Runs.ret (ends_ro hm rfl rfl ?_) | exact Runs.ret (ends_cellR hm rfl rfl rfl (Nat.le_of_ble_eq_true rfl) rfl rfl))
      | refine op_box rfl (Nat.lt_of_lt_of_eq (Nat.le_of_ble_eq_true rfl) hn.symm) ?_
      | refine RunsL.pur (pu_add rfl rfl (by omega)) rfl rfl (Nat.lt_of_lt_of_eq (Nat.le_of_ble_eq_true rfl) hn.symm) ?_
      | refine RunsD.pur (pu_add rfl rfl (by omega)) rfl rfl ?_
      | refine RunsL.pur (pu_indexAddr_map rfl rfl (by omega) (by assumption)) rfl rfl (Nat.lt_of_lt_of_eq (Nat.le_of_ble_eq_true rfl) hn.symm) ?_
      | refine RunsD.pur (pu_indexAddr_map rfl rfl (by omega) (by assumption)) rfl rfl ?_
      | refine RunsL.pur (pu_sub rfl rfl (by omega)) rfl rfl (Nat.lt_of_lt_of_eq (Nat.le_of_ble_eq_true rfl) hn.symm) ?_
      | refine RunsD.pur (pu_sub rfl rfl (by omega)) rfl rfl ?_
      | refine RunsL.pur (pu_pick_b rfl rfl rfl) rfl rfl (Nat.lt_of_lt_of_eq (Nat.le_of_ble_eq_true rfl) hn.symm) ?_
      | refine RunsD.pur (pu_pick_b rfl rfl rfl) rfl rfl ?_
      | refine op_storeF rfl rfl rfl rfl (Nat.le_of_ble_eq_true rfl) ?_
      | refine op_alloc (Nat.lt_of_lt_of_eq (Nat.le_of_ble_eq_true rfl) hn.symm) ?_
      | refine op_storeN rfl rfl rfl rfl (Nat.le_of_ble_eq_true rfl) ?_
      | refine RunsD.step tabOk hn rfl rfl ?_
      | refine RunsD.nil ?_
      | refine Runs.toDraw 30 mixed hn rfl (by kernel_rfl) rfl ?_
      | refine RunsL.pur (pu_mul rfl rfl (by omega)) rfl rfl (Nat.lt_of_lt_of_eq (Nat.le_of_ble_eq_true rfl) hn.symm) ?_
      | refine RunsD.pur (pu_mul rfl rfl (by omega)) rfl rfl ?_
      | refine RunsL.pur (pu_build rfl rfl rfl rfl rfl rfl) rfl rfl (Nat.lt_of_lt_of_eq (Nat.le_of_ble_eq_true rfl) hn.symm) ?_
      | refine RunsD.pur (pu_build rfl rfl rfl rfl rfl rfl) rfl rfl ?_
      | refine RunsL.guard_dec rfl rfl rfl (fun h => ?_) (fun h => by exfalso; first | omega | contradiction | (simp only [List.length_map] at h; omega))
      | refine RunsL.guard_dec rfl rfl rfl (fun h => by exfalso; first | omega | contradiction | (simp only [List.length_map] at h; omega)) (fun h => ?_)
      | refine RunsL.guard_ndec rfl rfl rfl (fun h => ?_) (fun h => by exfalso; first | omega | contradiction | (simp only [List.length_map] at h; omega))
      | refine RunsL.guard_ndec rfl rfl rfl (fun h => by exfalso; first | omega | contradiction | (simp only [List.length_map] at h; omega)) (fun h => ?_)
      | refine RunsD.guard_dec rfl rfl rfl (fun h => ?_) (fun h => by exfalso; first | omega | contradiction | (simp only [List.length_map] at h; omega))
      | refine RunsD.guard_dec rfl rfl rfl (fun h => by exfalso; first | omega | contradiction | (simp only [List.length_map] at h; omega)) (fun h => ?_)
      | refine RunsD.guard_ndec rfl rfl rfl (fun h => ?_) (fun h => by exfalso; first | omega | contradiction | (simp only [List.length_map] at h; omega))
      | refine RunsD.guard_ndec rfl rfl rfl (fun h => by exfalso; first | omega | contradiction | (simp only [List.length_map] at h; omega)) (fun h => ?_)
      | refine RunsL.guard_dec rfl rfl rfl (fun h => ?_) (fun h => ?_)
      | refine RunsL.guard_ndec rfl rfl rfl (fun h => ?_) (fun h => ?_)
      | refine RunsL.guard_nb rfl rfl rfl (fun h => ?_) (fun h => ?_)
      | refine RunsL.guard_b rfl rfl rfl (fun h => ?_) (fun h => ?_)
      | refine RunsD.guard_dec rfl rfl rfl (fun h => ?_) (fun h => ?_)
      | refine RunsD.guard_ndec rfl rfl rfl (fun h => ?_) (fun h => ?_)
      | refine RunsD.guard_nb rfl rfl rfl (fun h => ?_) (fun h => ?_)
      | refine RunsD.guard_b rfl rfl rfl (fun h => ?_) (fun h => ?_))
    exact rr_int (by rw [hlm])
  · rw [if_neg hG]
    by_cases h1 : Good' d
    · repeat' (first
      | refine RunsL.step tabOk hn rfl ?_
      | refine RunsL.nil ?_
      | refine Runs.toRegion 30 rfl ?_
      | refine RunsL.pur (pu_callR hv rfl) rfl rfl (Nat.lt_of_lt_of_eq (Nat.le_of_ble_eq_true rfl) hn.symm) ?_
      | refine RunsD.pur (pu_callR hv rfl) rfl rfl ?_
      | refine RunsL.pur (pu_callR (l1In_ac _ _ _) rfl) rfl rfl (Nat.lt_of_lt_of_eq (Nat.le_of_ble_eq_true rfl) hn.symm) ?_
      | refine RunsD.pur (pu_callR (l1In_ac _ _ _) rfl) rfl rfl ?_
      | (refine Runs.ctls 30 rfl ?_; first | refine Runs.cond_t rfl ?_ | refine Runs.cond_f rfl ?_ | refine Runs.cond_yes rfl (by first | omega | rfl | assumption | (simp only [List.length_map]; omega)) ?_ | refine Runs.cond_no rfl (by first | omega | rfl | assumption | (simp only [List.length_map]; omega)) ?_ | refine Runs.cond_nyes rfl (by first | omega | rfl | assumption | (simp only [List.length_map]; omega)) ?_ | refine Runs.cond_nno rfl (by first | omega | rfl | assumption | (simp only [List.length_map]; omega)) ?_ | refine Runs.cond_dec rfl (fun h => ?_) (fun h => ?_) | refine Runs.cond_ndec rfl (fun h => ?_) (fun h => ?_) | refine Runs.cond_nb rfl (fun h => ?_) (fun h => ?_) | refine Runs.cond_b rfl (fun h => ?_) (fun h => ?_) | refine Runs.ret (ends_ro hm rfl rfl ?_) | exact Runs.ret (ends_cellR hm rfl rfl rfl (Nat.le_of_ble_eq_true rfl) rfl rfl))
      | refine op_box rfl (Nat.lt_of_lt_of_eq (Nat.le_of_ble_eq_true rfl) hn.symm) ?_
      | refine RunsL.pur (pu_add rfl rfl (by omega)) rfl rfl (Nat.lt_of_lt_of_eq (Nat.le_of_ble_eq_true rfl) hn.symm) ?_
      | refine RunsD.pur (pu_add rfl rfl (by omega)) rfl rfl ?_
      | refine RunsL.pur (pu_indexAddr_map rfl rfl (by omega) (by assumption)) rfl rfl (Nat.lt_of_lt_of_eq (Nat.le_of_ble_eq_true rfl) hn.symm) ?_
      | refine RunsD.pur (pu_indexAddr_map rfl rfl (by omega) (by assumption)) rfl rfl ?_
      | refine RunsL.pur (pu_sub rfl rfl (by omega)) rfl rfl (Nat.lt_of_lt_of_eq (Nat.le_of_ble_eq_true rfl) hn.symm) ?_
      | refine RunsD.pur (pu_sub rfl rfl (by omega)) rfl rfl ?_
      | refine RunsL.pur (pu_pick_b rfl rfl rfl) rfl rfl (Nat.lt_of_lt_of_eq (Nat.le_of_ble_eq_true rfl) hn.symm) ?_
      | refine RunsD.pur (pu_pick_b rfl rfl rfl) rfl rfl ?_
      | refine op_storeF rfl rfl rfl rfl (Nat.le_of_ble_eq_true rfl) ?_
      | refine op_alloc (Nat.lt_of_lt_of_eq (Nat.le_of_ble_eq_true rfl) hn.symm) ?_
      | refine op_storeN rfl rfl rfl rfl (Nat.le_of_ble_eq_true rfl) ?_
      | refine RunsD.step tabOk hn rfl rfl ?_
      | refine RunsD.nil ?_
      | refine Runs.toDraw 30 mixed hn rfl (by kernel_rfl) rfl ?_
      | refine RunsL.pur (pu_mul rfl rfl (by omega)) rfl rfl (Nat.lt_of_lt_of_eq (Nat.le_of_ble_eq_true rfl) hn.symm) ?_
      | refine RunsD.pur (pu_mul rfl rfl (by omega)) rfl rfl ?_
      | refine RunsL.pur (pu_build rfl rfl rfl rfl rfl rfl) rfl rfl (Nat.lt_of_lt_of_eq (Nat.le_of_ble_eq_true rfl) hn.symm) ?_
      | refine RunsD.pur (pu_build rfl rfl rfl rfl rfl rfl) rfl rfl ?_
      | refine RunsL.guard_dec rfl rfl rfl (fun h => ?_) (fun h => by exfalso; first | omega | contradiction | (simp only [List.length_map] at h; omega))
      | refine RunsL.guard_dec rfl rfl rfl (fun h => by exfalso; first | omega | contradiction | (simp only [List.length_map] at h; omega)) (fun h => ?_)
      | refine RunsL.guard_ndec rfl rfl rfl (fun h => ?_) (fun h => by exfalso; first | omega | contradiction | (simp only [List.length_map] at h; omega))
      | refine RunsL.guard_ndec rfl rfl rfl (fun h => by exfalso; first | omega | contradiction | (simp only [List.length_map] at h; omega)) (fun h => ?_)
      | refine RunsD.guard_dec rfl rfl rfl (fun h => ?_) (fun h => by exfalso; first | omega | contradiction | (simp only [List.length_map] at h; omega))
      | refine RunsD.guard_dec rfl rfl rfl (fun h => by exfalso; first | omega | contradiction | (simp only [List.length_map] at h; omega)) (fun h => ?_)
      | refine RunsD.guard_ndec rfl rfl rfl (fun h => ?_) (fun h => by exfalso; first | omega | contradiction | (simp only [List.length_map] at h; omega))
      | refine RunsD.guard_ndec rfl rfl rfl (fun h => by exfalso; first | omega | contradiction | (simp only [List.length_map] at h; omega)) (fun h => ?_)
      | refine RunsL.guard_dec rfl rfl rfl (fun h => ?_) (fun h => ?_)
      | refine RunsL.guard_ndec rfl rfl rfl (fun h => ?_) (fun h => ?_)
      | refine RunsL.guard_nb rfl rfl rfl (fun h => ?_) (fun h => ?_)
      | refine RunsL.guard_b rfl rfl rfl (fun h => ?_) (fun h => ?_)
      | refine RunsD.guard_dec rfl rfl rfl (fun h => ?_) (fun h => ?_)
      | refine RunsD.guard_ndec rfl rfl rfl (fun h => ?_) (fun h => ?_)
      | refine RunsD.guard_nb rfl rfl rfl (fun h => ?_) (fun h => ?_)
      | refine RunsD.guard_b rfl rfl rfl (fun h => ?_) (fun h => ?_))
      all_goals first
        | exact rr_int rfl
        | (exfalso; exact hG ⟨h1, by omega, by omega⟩)
    · repeat' (first
      | refine RunsL.step tabOk hn rfl ?_
      | refine RunsL.nil ?_
      | refine Runs.toRegion 30 rfl ?_
      | refine RunsL.pur (pu_callR hv rfl) rfl rfl (Nat.lt_of_lt_of_eq (Nat.le_of_ble_eq_true rfl) hn.symm) ?_
      | refine RunsD.pur (pu_callR hv rfl) rfl rfl ?_
      | refine RunsL.pur (pu_callR (l1In_ac _ _ _) rfl) rfl rfl (Nat.lt_of_lt_of_eq (Nat.le_of_ble_eq_true rfl) hn.symm) ?_
      | refine RunsD.pur (pu_callR (l1In_ac _ _ _) rfl) rfl rfl ?_
      | (refine Runs.ctls 30 rfl ?_; first | refine Runs.cond_t rfl ?_ | refine Runs.cond_f rfl ?_ | refine Runs.cond_yes rfl (by first | omega | rfl | assumption | (simp only [List.length_map]; omega)) ?_ | refine Runs.cond_no rfl (by first | omega | rfl | assumption | (simp only [List.length_map]; omega)) ?_ | refine Runs.cond_nyes rfl (by first | omega | rfl | assumption | (simp only [List.length_map]; omega)) ?_ | refine Runs.cond_nno rfl (by first | omega | rfl | assumption | (simp only [List.length_map]; omega)) ?_ | refine Runs.cond_dec rfl (fun h => ?_) (fun h => ?_) | refine Runs.cond_ndec rfl (fun h => ?_) (fun h => ?_) | refine Runs.cond_nb rfl (fun h => ?_) (fun h => ?_) | refine Runs.cond_b rfl (fun h => ?_) (fun h => ?_) | refine Runs.ret (ends_ro hm rfl rfl ?_) | exact Runs.ret (ends_cellR hm rfl rfl rfl (Nat.le_of_ble_eq_true rfl) rfl rfl))
      | refine op_box rfl (Nat.lt_of_lt_of_eq (Nat.le_of_ble_eq_true rfl) hn.symm) ?_
      | refine RunsL.pur (pu_add rfl rfl (by omega)) rfl rfl (Nat.lt_of_lt_of_eq (Nat.le_of_ble_eq_true rfl) hn.symm) ?_
      | refine RunsD.pur (pu_add rfl rfl (by omega)) rfl rfl ?_
      | refine RunsL.pur (pu_indexAddr_map rfl rfl (by omega) (by assumption)) rfl rfl (Nat.lt_of_lt_of_eq (Nat.le_of_ble_eq_true rfl) hn.symm) ?_
      | refine RunsD.pur (pu_indexAddr_map rfl rfl (by omega) (by assumption)) rfl rfl ?_
      | refine RunsL.pur (pu_sub rfl rfl (by omega)) rfl rfl (Nat.lt_of_lt_of_eq (Nat.le_of_ble_eq_true rfl) hn.symm) ?_
      | refine RunsD.pur (pu_sub rfl rfl (by omega)) rfl rfl ?_
      | refine RunsL.pur (pu_pick_b rfl rfl rfl) rfl rfl (Nat.lt_of_lt_of_eq (Nat.le_of_ble_eq_true rfl) hn.symm) ?_
      | refine RunsD.pur (pu_pick_b rfl rfl rfl) rfl rfl ?_
      | refine op_storeF rfl rfl rfl rfl (Nat.le_of_ble_eq_true rfl) ?_
      | refine op_alloc (Nat.lt_of_lt_of_eq (Nat.le_of_ble_eq_true rfl) hn.symm) ?_
      | refine op_storeN rfl rfl rfl rfl (Nat.le_of_ble_eq_true rfl) ?_
      | refine RunsD.step tabOk hn rfl rfl ?_
      | refine RunsD.nil ?_
      | refine Runs.toDraw 30 mixed hn rfl (by kernel_rfl) rfl ?_
      | refine RunsL.pur (pu_mul rfl rfl (by omega)) rfl rfl (Nat.lt_of_lt_of_eq (Nat.le_of_ble_eq_true rfl) hn.symm) ?_
      | refine RunsD.pur (pu_mul rfl rfl (by omega)) rfl rfl ?_
      | refine RunsL.pur (pu_build rfl rfl rfl rfl rfl rfl) rfl rfl (Nat.lt_of_lt_of_eq (Nat.le_of_ble_eq_true rfl) hn.symm) ?_
      | refine RunsD.pur (pu_build rfl rfl rfl rfl rfl rfl) rfl rfl ?_
      | refine RunsL.guard_dec rfl rfl rfl (fun h => ?_) (fun h => by exfalso; first | omega | contradiction | (simp only [List.length_map] at h; omega))
      | refine RunsL.guard_dec rfl rfl rfl (fun h => by exfalso; first | omega | contradiction | (simp only [List.length_map] at h; omega)) (fun h => ?_)
      | refine RunsL.guard_ndec rfl rfl rfl (fun h => ?_) (fun h => by exfalso; first | omega | contradiction | (simp only [List.length_map] at h; omega))
      | refine RunsL.guard_ndec rfl rfl rfl (fun h => by exfalso; first | omega | contradiction | (simp only [List.length_map] at h; omega)) (fun h => ?_)
      | refine RunsD.guard_dec rfl rfl rfl (fun h => ?_) (fun h => by exfalso; first | omega | contradiction | (simp only [List.length_map] at h; omega))
      | refine RunsD.guard_dec rfl rfl rfl (fun h => by exfalso; first | omega | contradiction | (simp only [List.length_map] at h; omega)) (fun h => ?_)
      | refine RunsD.guard_ndec rfl rfl rfl (fun h => ?_) (fun h => by exfalso; first | omega | contradiction | (simp only [List.length_map] at h; omega))
      | refine RunsD.guard_ndec rfl rfl rfl (fun h => by exfalso; first | omega | contradiction | (simp only [List.length_map] at h; omega)) (fun h => ?_)
      | refine RunsL.guard_dec rfl rfl rfl (fun h => ?_) (fun h => ?_)
      | refine RunsL.guard_ndec rfl rfl rfl (fun h => ?_) (fun h => ?_)
      | refine RunsL.guard_nb rfl rfl rfl (fun h => ?_) (fun h => ?_)
      | refine RunsL.guard_b rfl rfl rfl (fun h => ?_) (fun h => ?_)
      | refine RunsD.guard_dec rfl rfl rfl (fun h => ?_) (fun h => ?_)
      | refine RunsD.guard_ndec rfl rfl rfl (fun h => ?_) (fun h => ?_)
      | refine RunsD.guard_nb rfl rfl rfl (fun h => ?_) (fun h => ?_)
      | refine RunsD.guard_b rfl rfl rfl (fun h => ?_) (fun h => ?_))
      all_goals exact rr_int rfl
end Go.Proofs.Ytcifgbmmnkilfaa
