/- Gathered texts. -/
import Derived.Test.YtkmoffefhlmgeaaGreatDoorGat0
import Derived.Test.YtkmoffefhlmgeaaGreatDoorGat1
import Derived.Laws.RangeString
/- Names of parts, tags of choices: the reference's side. -/
namespace Go.Proofs.YtkmoffefhlmgeaaGreatDoor
set_option linter.unusedSimpArgs false
set_option linter.unusedVariables false
set_option linter.unusedSectionVars false
set_option maxRecDepth 100000
open Go.RowKit
def NamesOk (l : List ByteArray) : Prop := 1 ≤ l.length ∧ l.length ≤ 8 ∧ ∀ (i : Nat) x, l[i]? = some x → IsNm x ∧ x ∉ l.take i
noncomputable instance (l : List ByteArray) : Decidable (NamesOk l) := Classical.propDecidable _
theorem l4Names_ac (l : List ByteArray) (hl : l.length ≤ maxLen) (ho : ∀ s ∈ l, s.size ≤ maxLen) : ACv Tryz.prog 89 [strsR l] (.bool (decide (NamesOk l))) := by
  have hlm : (l.map fun z => [RV.str z]).length = l.length := List.length_map ..
  unfold maxLen at hl
  refine ac_enter Tryz.func89 rfl _ Tryz.ntmps89 (by simp) fun C hn hm => ?_
  repeat' (first
 | refine RunsL.step tabOk hn rfl ?_
 | refine RunsL.nil ?_
 | refine Runs.toRegion 30 rfl ?_
 | (refine Runs.ctls 30 rfl ?_; first | refine Runs.cond_t rfl ?_ | ((first | refine Runs.cond_yes rfl ?_ ?_ | refine Runs.cond_nno rfl ?_ ?_); · first | omega | rfl | assumption | (simp only [List.length_map]; omega)) | ((first | refine Runs.cond_no rfl ?_ ?_ | refine Runs.cond_nyes rfl ?_ ?_); · first | omega | rfl | assumption | (simp only [List.length_map]; omega)) | refine Runs.ret (ends_ro hm rfl rfl ?_) | exact Runs.ret (ends_cellR hm rfl rfl rfl (Nat.le_of_ble_eq_true rfl) rfl rfl))
 | refine RunsD.step tabOk hn rfl rfl ?_
 | refine RunsD.nil ?_
 | refine Runs.toDraw 30 mixed hn rfl (by kernel_rfl) rfl ?_
 | ((first | refine RunsL.pe hn rfl rfl rfl ?_ | refine RunsD.pe rfl rfl ?_); first
 | refine ⟨_, pu_add rfl rfl (by omega), ?_⟩
 | refine ⟨_, pu_indexAddr_map rfl rfl (by omega) (by assumption), ?_⟩
 | refine ⟨_, pu_sub rfl rfl (by omega), ?_⟩
 | refine ⟨_, pu_pick_b rfl rfl rfl, ?_⟩
 | refine ⟨_, pu_mul rfl rfl (by omega), ?_⟩
 | refine ⟨_, pu_build rfl rfl rfl rfl rfl rfl, ?_⟩)
 | ((first | refine RunsL.guard_dec rfl rfl rfl ?_ ?_ | refine RunsL.guard_ndec rfl rfl rfl ?_ ?_ | refine RunsL.guard_nb rfl rfl rfl ?_ ?_ | refine RunsL.guard_b rfl rfl rfl ?_ ?_ | refine RunsD.guard_dec rfl rfl rfl ?_ ?_ | refine RunsD.guard_ndec rfl rfl rfl ?_ ?_ | refine RunsD.guard_nb rfl rfl rfl ?_ ?_ | refine RunsD.guard_b rfl rfl rfl ?_ ?_) <;> intro h <;> try (exfalso; first | omega | contradiction | (simp only [List.length_map] at h; omega))))
  refine Runs.loopN 30 rfl (fun j => [(0, .ro (strsR l)), (3, .int (j : Int))]) (fun _ => []) (fun j => ∀ (i : Nat) x, i < j → l[i]? = some x → IsNm x ∧ x ∉ l.take i) l.length 0 (Nat.zero_le _) (fun i x h => absurd h (by omega)) ⟨rfl, rfl, trivial⟩ rfl fun j hj hQ next => ?_
  by_cases hlt : j < l.length
  · obtain ⟨x, hx⟩ : ∃ x, l[(j : Int).toNat]? = some x := ⟨_, List.getElem?_eq_getElem hlt⟩
    have hx' : l[j]? = some x := hx
    have hnm := spec_IsName x (ho x (List.mem_of_getElem? hx'))
    have hc := spec_ContainsText (l.take j) x (by rw [List.length_take]; unfold maxLen; omega)
    by_cases h1 : IsNm x
    · by_cases h2 : x ∈ l.take j
      · repeat' (first
 | refine RunsL.step tabOk hn rfl ?_
 | refine RunsL.nil ?_
 | refine Runs.toRegion 30 rfl ?_
 | ((first | refine RunsL.pe hn rfl rfl rfl ?_ | refine RunsD.pe rfl rfl ?_); first
 | refine ⟨_, pu_callR hnm rfl, ?_⟩
 | refine ⟨_, pu_callR hc rfl, ?_⟩
 | refine ⟨_, pu_slice_hM rfl rfl (by omega) (by omega), ?_⟩)
 | (refine Runs.ctls 30 rfl ?_; first | refine Runs.cond_t rfl ?_ | ((first | refine Runs.cond_yes rfl ?_ ?_ | refine Runs.cond_nno rfl ?_ ?_); · first | omega | rfl | assumption | (simp only [List.length_map]; omega)) | ((first | refine Runs.cond_no rfl ?_ ?_ | refine Runs.cond_nyes rfl ?_ ?_); · first | omega | rfl | assumption | (simp only [List.length_map]; omega)) | refine Runs.ret (ends_ro hm rfl rfl ?_) | exact Runs.ret (ends_cellR hm rfl rfl rfl (Nat.le_of_ble_eq_true rfl) rfl rfl))
 | refine RunsD.step tabOk hn rfl rfl ?_
 | refine RunsD.nil ?_
 | refine Runs.toDraw 30 mixed hn rfl (by kernel_rfl) rfl ?_
 | ((first | refine RunsL.pe hn rfl rfl rfl ?_ | refine RunsD.pe rfl rfl ?_); first
 | refine ⟨_, pu_add rfl rfl (by omega), ?_⟩
 | refine ⟨_, pu_indexAddr_map rfl rfl (by omega) (by assumption), ?_⟩
 | refine ⟨_, pu_sub rfl rfl (by omega), ?_⟩
 | refine ⟨_, pu_pick_b rfl rfl rfl, ?_⟩
 | refine ⟨_, pu_mul rfl rfl (by omega), ?_⟩
 | refine ⟨_, pu_build rfl rfl rfl rfl rfl rfl, ?_⟩)
 | ((first | refine RunsL.guard_dec rfl rfl rfl ?_ ?_ | refine RunsL.guard_ndec rfl rfl rfl ?_ ?_ | refine RunsL.guard_nb rfl rfl rfl ?_ ?_ | refine RunsL.guard_b rfl rfl rfl ?_ ?_ | refine RunsD.guard_dec rfl rfl rfl ?_ ?_ | refine RunsD.guard_ndec rfl rfl rfl ?_ ?_ | refine RunsD.guard_nb rfl rfl rfl ?_ ?_ | refine RunsD.guard_b rfl rfl rfl ?_ ?_) <;> intro h <;> try (exfalso; first | omega | contradiction | (simp only [List.length_map] at h; omega))))
        exact rr_bool (decide_eq_false fun hN => (hN.2.2 j x hx').2 h2).symm
      · repeat' (first
 | refine RunsL.step tabOk hn rfl ?_
 | refine RunsL.nil ?_
 | refine Runs.toRegion 30 rfl ?_
 | ((first | refine RunsL.pe hn rfl rfl rfl ?_ | refine RunsD.pe rfl rfl ?_); first
 | refine ⟨_, pu_callR hnm rfl, ?_⟩
 | refine ⟨_, pu_callR hc rfl, ?_⟩
 | refine ⟨_, pu_slice_hM rfl rfl (by omega) (by omega), ?_⟩)
 | (refine Runs.ctls 30 rfl ?_; first | refine Runs.cond_t rfl ?_ | ((first | refine Runs.cond_yes rfl ?_ ?_ | refine Runs.cond_nno rfl ?_ ?_); · first | omega | rfl | assumption | (simp only [List.length_map]; omega)) | ((first | refine Runs.cond_no rfl ?_ ?_ | refine Runs.cond_nyes rfl ?_ ?_); · first | omega | rfl | assumption | (simp only [List.length_map]; omega)) | refine Runs.ret (ends_ro hm rfl rfl ?_) | exact Runs.ret (ends_cellR hm rfl rfl rfl (Nat.le_of_ble_eq_true rfl) rfl rfl))
 | refine RunsD.step tabOk hn rfl rfl ?_
 | refine RunsD.nil ?_
 | refine Runs.toDraw 30 mixed hn rfl (by kernel_rfl) rfl ?_
 | ((first | refine RunsL.pe hn rfl rfl rfl ?_ | refine RunsD.pe rfl rfl ?_); first
 | refine ⟨_, pu_add rfl rfl (by omega), ?_⟩
 | refine ⟨_, pu_indexAddr_map rfl rfl (by omega) (by assumption), ?_⟩
 | refine ⟨_, pu_sub rfl rfl (by omega), ?_⟩
 | refine ⟨_, pu_pick_b rfl rfl rfl, ?_⟩
 | refine ⟨_, pu_mul rfl rfl (by omega), ?_⟩
 | refine ⟨_, pu_build rfl rfl rfl rfl rfl rfl, ?_⟩)
 | ((first | refine RunsL.guard_dec rfl rfl rfl ?_ ?_ | refine RunsL.guard_ndec rfl rfl rfl ?_ ?_ | refine RunsL.guard_nb rfl rfl rfl ?_ ?_ | refine RunsL.guard_b rfl rfl rfl ?_ ?_ | refine RunsD.guard_dec rfl rfl rfl ?_ ?_ | refine RunsD.guard_ndec rfl rfl rfl ?_ ?_ | refine RunsD.guard_nb rfl rfl rfl ?_ ?_ | refine RunsD.guard_b rfl rfl rfl ?_ ?_) <;> intro h <;> try (exfalso; first | omega | contradiction | (simp only [List.length_map] at h; omega))))
        refine next _ _ ⟨rfl, rfl, trivial⟩ hlt (fun i y hi hy => ?_) rfl
        by_cases e : i = j
        · subst e; rw [hx'] at hy; injection hy with hy; subst hy; exact ⟨h1, h2⟩
        · exact hQ i y (by omega) hy
    · repeat' (first
 | refine RunsL.step tabOk hn rfl ?_
 | refine RunsL.nil ?_
 | refine Runs.toRegion 30 rfl ?_
 | ((first | refine RunsL.pe hn rfl rfl rfl ?_ | refine RunsD.pe rfl rfl ?_); first
 | refine ⟨_, pu_callR hnm rfl, ?_⟩
 | refine ⟨_, pu_callR hc rfl, ?_⟩
 | refine ⟨_, pu_slice_hM rfl rfl (by omega) (by omega), ?_⟩)
 | (refine Runs.ctls 30 rfl ?_; first | refine Runs.cond_t rfl ?_ | ((first | refine Runs.cond_yes rfl ?_ ?_ | refine Runs.cond_nno rfl ?_ ?_); · first | omega | rfl | assumption | (simp only [List.length_map]; omega)) | ((first | refine Runs.cond_no rfl ?_ ?_ | refine Runs.cond_nyes rfl ?_ ?_); · first | omega | rfl | assumption | (simp only [List.length_map]; omega)) | refine Runs.ret (ends_ro hm rfl rfl ?_) | exact Runs.ret (ends_cellR hm rfl rfl rfl (Nat.le_of_ble_eq_true rfl) rfl rfl))
 | refine RunsD.step tabOk hn rfl rfl ?_
 | refine RunsD.nil ?_
 | refine Runs.toDraw 30 mixed hn rfl (by kernel_rfl) rfl ?_
 | ((first | refine RunsL.pe hn rfl rfl rfl ?_ | refine RunsD.pe rfl rfl ?_); first
 | refine ⟨_, pu_add rfl rfl (by omega), ?_⟩
 | refine ⟨_, pu_indexAddr_map rfl rfl (by omega) (by assumption), ?_⟩
 | refine ⟨_, pu_sub rfl rfl (by omega), ?_⟩
 | refine ⟨_, pu_pick_b rfl rfl rfl, ?_⟩
 | refine ⟨_, pu_mul rfl rfl (by omega), ?_⟩
 | refine ⟨_, pu_build rfl rfl rfl rfl rfl rfl, ?_⟩)
 | ((first | refine RunsL.guard_dec rfl rfl rfl ?_ ?_ | refine RunsL.guard_ndec rfl rfl rfl ?_ ?_ | refine RunsL.guard_nb rfl rfl rfl ?_ ?_ | refine RunsL.guard_b rfl rfl rfl ?_ ?_ | refine RunsD.guard_dec rfl rfl rfl ?_ ?_ | refine RunsD.guard_ndec rfl rfl rfl ?_ ?_ | refine RunsD.guard_nb rfl rfl rfl ?_ ?_ | refine RunsD.guard_b rfl rfl rfl ?_ ?_) <;> intro h <;> try (exfalso; first | omega | contradiction | (simp only [List.length_map] at h; omega))))
      exact rr_bool (decide_eq_false fun hN => h1 (hN.2.2 j x hx').1).symm
  · repeat' (first
 | refine RunsL.step tabOk hn rfl ?_
 | refine RunsL.nil ?_
 | refine Runs.toRegion 30 rfl ?_
 | ((first | refine RunsL.pe hn rfl rfl rfl ?_ | refine RunsD.pe rfl rfl ?_); first
 | refine ⟨_, pu_callR (l1In_ac _ _ _) rfl, ?_⟩)
 | (refine Runs.ctls 30 rfl ?_; first | refine Runs.cond_t rfl ?_ | ((first | refine Runs.cond_yes rfl ?_ ?_ | refine Runs.cond_nno rfl ?_ ?_); · first | omega | rfl | assumption | (simp only [List.length_map]; omega)) | ((first | refine Runs.cond_no rfl ?_ ?_ | refine Runs.cond_nyes rfl ?_ ?_); · first | omega | rfl | assumption | (simp only [List.length_map]; omega)) | refine Runs.ret (ends_ro hm rfl rfl ?_) | exact Runs.ret (ends_cellR hm rfl rfl rfl (Nat.le_of_ble_eq_true rfl) rfl rfl))
 | refine RunsD.step tabOk hn rfl rfl ?_
 | refine RunsD.nil ?_
 | refine Runs.toDraw 30 mixed hn rfl (by kernel_rfl) rfl ?_
 | ((first | refine RunsL.pe hn rfl rfl rfl ?_ | refine RunsD.pe rfl rfl ?_); first
 | refine ⟨_, pu_add rfl rfl (by omega), ?_⟩
 | refine ⟨_, pu_indexAddr_map rfl rfl (by omega) (by assumption), ?_⟩
 | refine ⟨_, pu_sub rfl rfl (by omega), ?_⟩
 | refine ⟨_, pu_pick_b rfl rfl rfl, ?_⟩
 | refine ⟨_, pu_mul rfl rfl (by omega), ?_⟩
 | refine ⟨_, pu_build rfl rfl rfl rfl rfl rfl, ?_⟩)
 | ((first | refine RunsL.guard_dec rfl rfl rfl ?_ ?_ | refine RunsL.guard_ndec rfl rfl rfl ?_ ?_ | refine RunsL.guard_nb rfl rfl rfl ?_ ?_ | refine RunsL.guard_b rfl rfl rfl ?_ ?_ | refine RunsD.guard_dec rfl rfl rfl ?_ ?_ | refine RunsD.guard_ndec rfl rfl rfl ?_ ?_ | refine RunsD.guard_nb rfl rfl rfl ?_ ?_ | refine RunsD.guard_b rfl rfl rfl ?_ ?_) <;> intro h <;> try (exfalso; first | omega | contradiction | (simp only [List.length_map] at h; omega))))
    exact rr_bool (decide_eq_decide.2 ⟨fun h => ⟨by omega, by omega, fun i x hx => hQ i x (by have := (List.getElem?_eq_some_iff.1 hx).1; omega) hx⟩, fun h => ⟨by have := h.1; omega, by have := h.2.1; omega⟩⟩)
def TagsOk (d : Des) (r : Rul) : Prop := r.kids.length = r.tags.length + 1 ∧ 1 ≤ r.tags.length ∧ r.tags.length ≤ 8 ∧ ∀ (i : Nat) z, r.tags[i]? = some z → 0 ≤ z ∧ z ≤ lim d (r.kids.headD 0) ∧ ∀ y, 0 < i → r.tags[i - 1]? = some y → y < z
noncomputable instance (d : Des) (r : Rul) : Decidable (TagsOk d r) := Classical.propDecidable _
set_option maxHeartbeats 4000000 in
theorem l4Tags_ac (d : Des) (r : Rul) (hl : d.length ≤ maxLen) (ht : r.tags.length ≤ 1048576) : ACv Tryz.prog 90 [desR d, .agg (rulR r)] (.bool (decide (TagsOk d r))) := by
  refine ac_enter Tryz.func90 rfl _ Tryz.ntmps90 (by simp) fun C hn hm => ?_
  by_cases h0 : r.kids.length = r.tags.length + 1 ∧ 1 ≤ r.tags.length ∧ r.tags.length ≤ 8
  · obtain ⟨k0, hk0⟩ : ∃ k, r.kids[(0 : Int).toNat]? = some k := ⟨_, List.getElem?_eq_getElem (by simp; omega)⟩
    have hkd : r.kids.headD 0 = k0 := by
      cases hkk : r.kids with
      | nil => rw [hkk] at hk0; simp at hk0
      | cons a b => rw [hkk] at hk0; simpa using hk0
    have hlim := spec_IntegerLimit d k0 hl
    repeat' (first
 | refine RunsL.step tabOk hn rfl ?_
 | refine RunsL.nil ?_
 | refine Runs.toRegion 30 rfl ?_
 | ((first | refine RunsL.pe hn rfl rfl rfl ?_ | refine RunsD.pe rfl rfl ?_); first
 | refine ⟨_, pu_callR (l1In_ac _ _ _) rfl, ?_⟩
 | refine ⟨_, pu_add rfl rfl (by simp only [List.length_map]; omega), ?_⟩)
 | (refine Runs.ctls 30 rfl ?_; first | refine Runs.cond_t rfl ?_ | refine Runs.cond_f rfl ?_ | ((first | refine Runs.cond_yes rfl ?_ ?_ | refine Runs.cond_nno rfl ?_ ?_); · first | omega | rfl | assumption | (simp only [List.length_map]; omega)) | ((first | refine Runs.cond_no rfl ?_ ?_ | refine Runs.cond_nyes rfl ?_ ?_); · first | omega | rfl | assumption | (simp only [List.length_map]; omega)) | refine Runs.cond_dec rfl (fun h => ?_) (fun h => ?_) | refine Runs.cond_ndec rfl (fun h => ?_) (fun h => ?_) | refine Runs.ret (ends_ro hm rfl rfl ?_) | exact Runs.ret (ends_cellR hm rfl rfl rfl (Nat.le_of_ble_eq_true rfl) rfl rfl))
 | refine op_box rfl (tl hn rfl) ?_
 | refine RunsD.step tabOk hn rfl rfl ?_
 | refine RunsD.nil ?_
 | refine Runs.toDraw 30 mixed hn rfl (by kernel_rfl) rfl ?_
 | ((first | refine RunsL.pe hn rfl rfl rfl ?_ | refine RunsD.pe rfl rfl ?_); first
 | refine ⟨_, pu_add rfl rfl (by omega), ?_⟩
 | refine ⟨_, pu_indexAddr_map rfl rfl (by omega) (by assumption), ?_⟩
 | refine ⟨_, pu_sub rfl rfl (by omega), ?_⟩
 | refine ⟨_, pu_pick_b rfl rfl rfl, ?_⟩
 | refine ⟨_, pu_mul rfl rfl (by omega), ?_⟩
 | refine ⟨_, pu_build rfl rfl rfl rfl rfl rfl, ?_⟩)
 | ((first | refine RunsL.guard_dec rfl rfl rfl ?_ ?_ | refine RunsL.guard_ndec rfl rfl rfl ?_ ?_ | refine RunsL.guard_nb rfl rfl rfl ?_ ?_ | refine RunsL.guard_b rfl rfl rfl ?_ ?_ | refine RunsD.guard_dec rfl rfl rfl ?_ ?_ | refine RunsD.guard_ndec rfl rfl rfl ?_ ?_ | refine RunsD.guard_nb rfl rfl rfl ?_ ?_ | refine RunsD.guard_b rfl rfl rfl ?_ ?_) <;> intro h <;> try (exfalso; first | omega | contradiction | (simp only [List.length_map] at h; omega))))
    refine Runs.loopN 30 rfl (fun j => [(2, .obj 0 0), (3, .obj 1 0), (5, .int (j : Int))]) (fun _ => [⟨35, 0, [.ro (rulsR d)]⟩, ⟨54, 0, [.str r.name, .int r.kind, .int r.size, .bool r.little, .ro (bytesR r.bytes), .ro (strsR r.names), .ro (intsR r.tags), .ro (intsR r.kids)]⟩]) (fun j => ∀ (i : Nat) z, i < j → r.tags[i]? = some z → 0 ≤ z ∧ z ≤ lim d (r.kids.headD 0) ∧ ∀ y, 0 < i → r.tags[i - 1]? = some y → y < z) r.tags.length 0 (Nat.zero_le _) (fun i x h => absurd h (by omega)) ⟨rfl, rfl, rfl, trivial⟩ rfl fun j hj hQ next => ?_
    by_cases hlt : j < r.tags.length
    · obtain ⟨x, hx⟩ : ∃ x, r.tags[(j : Int).toNat]? = some x := ⟨_, List.getElem?_eq_getElem hlt⟩
      have hx' : r.tags[j]? = some x := hx
      obtain ⟨y, hy⟩ : ∃ y, r.tags[((j : Int) - 1).toNat]? = some y := ⟨_, List.getElem?_eq_getElem (by omega)⟩
      have hy' : 0 < j → r.tags[j - 1]? = some y := fun h => by rw [← hy]; congr 1; omega
      repeat' (first
 | refine RunsL.step tabOk hn rfl ?_
 | refine RunsL.nil ?_
 | refine Runs.toRegion 30 rfl ?_
 | ((first | refine RunsL.pe hn rfl rfl rfl ?_ | refine RunsD.pe rfl rfl ?_); first
 | refine ⟨_, pu_callR hlim rfl, ?_⟩
 | refine ⟨_, pu_callR (l1In_ac _ _ _) rfl, ?_⟩)
 | (refine Runs.ctls 30 rfl ?_; first | refine Runs.cond_t rfl ?_ | refine Runs.cond_f rfl ?_ | ((first | refine Runs.cond_yes rfl ?_ ?_ | refine Runs.cond_nno rfl ?_ ?_); · first | omega | rfl | assumption | (simp only [List.length_map]; omega)) | ((first | refine Runs.cond_no rfl ?_ ?_ | refine Runs.cond_nyes rfl ?_ ?_); · first | omega | rfl | assumption | (simp only [List.length_map]; omega)) | refine Runs.cond_dec rfl (fun h => ?_) (fun h => ?_) | refine Runs.cond_ndec rfl (fun h => ?_) (fun h => ?_) | refine Runs.ret (ends_ro hm rfl rfl ?_) | exact Runs.ret (ends_cellR hm rfl rfl rfl (Nat.le_of_ble_eq_true rfl) rfl rfl))
 | refine op_box rfl (tl hn rfl) ?_
 | refine RunsD.step tabOk hn rfl rfl ?_
 | refine RunsD.nil ?_
 | refine Runs.toDraw 30 mixed hn rfl (by kernel_rfl) rfl ?_
 | ((first | refine RunsL.pe hn rfl rfl rfl ?_ | refine RunsD.pe rfl rfl ?_); first
 | refine ⟨_, pu_add rfl rfl (by omega), ?_⟩
 | refine ⟨_, pu_indexAddr_map rfl rfl (by omega) (by assumption), ?_⟩
 | refine ⟨_, pu_sub rfl rfl (by omega), ?_⟩
 | refine ⟨_, pu_pick_b rfl rfl rfl, ?_⟩
 | refine ⟨_, pu_mul rfl rfl (by omega), ?_⟩
 | refine ⟨_, pu_build rfl rfl rfl rfl rfl rfl, ?_⟩)
 | ((first | refine RunsL.guard_dec rfl rfl rfl ?_ ?_ | refine RunsL.guard_ndec rfl rfl rfl ?_ ?_ | refine RunsL.guard_nb rfl rfl rfl ?_ ?_ | refine RunsL.guard_b rfl rfl rfl ?_ ?_ | refine RunsD.guard_dec rfl rfl rfl ?_ ?_ | refine RunsD.guard_ndec rfl rfl rfl ?_ ?_ | refine RunsD.guard_nb rfl rfl rfl ?_ ?_ | refine RunsD.guard_b rfl rfl rfl ?_ ?_) <;> intro h <;> try (exfalso; first | omega | contradiction | (simp only [List.length_map] at h; omega))))
      all_goals first
        | exact rr_bool (decide_eq_false fun hN => by
            obtain ⟨n1, n2, n3⟩ := hN.2.2.2 j x hx'
            rw [hkd] at n2
            first | omega | (have := n3 y (by omega) (hy' (by omega)); omega)).symm
        | (refine next _ _ ⟨rfl, rfl, rfl, trivial⟩ hlt (fun i z hi hz => ?_) rfl
           by_cases e : i = j
           · subst e; rw [hx'] at hz; injection hz with hz; subst hz
             rw [hkd]
             refine ⟨by omega, by omega, fun u hu hu' => ?_⟩
             rw [hy' hu] at hu'; injection hu' with hu'; subst hu'; omega
           · exact hQ i z (by omega) hz)
    · repeat' (first
 | refine RunsL.step tabOk hn rfl ?_
 | refine RunsL.nil ?_
 | refine Runs.toRegion 30 rfl ?_
 | (refine Runs.ctls 30 rfl ?_; first | refine Runs.cond_t rfl ?_ | refine Runs.cond_f rfl ?_ | ((first | refine Runs.cond_yes rfl ?_ ?_ | refine Runs.cond_nno rfl ?_ ?_); · first | omega | rfl | assumption | (simp only [List.length_map]; omega)) | ((first | refine Runs.cond_no rfl ?_ ?_ | refine Runs.cond_nyes rfl ?_ ?_); · first | omega | rfl | assumption | (simp only [List.length_map]; omega)) | refine Runs.cond_dec rfl (fun h => ?_) (fun h => ?_) | refine Runs.cond_ndec rfl (fun h => ?_) (fun h => ?_) | refine Runs.ret (ends_ro hm rfl rfl ?_) | exact Runs.ret (ends_cellR hm rfl rfl rfl (Nat.le_of_ble_eq_true rfl) rfl rfl))
 | refine op_box rfl (tl hn rfl) ?_
 | refine RunsD.step tabOk hn rfl rfl ?_
 | refine RunsD.nil ?_
 | refine Runs.toDraw 30 mixed hn rfl (by kernel_rfl) rfl ?_
 | ((first | refine RunsL.pe hn rfl rfl rfl ?_ | refine RunsD.pe rfl rfl ?_); first
 | refine ⟨_, pu_add rfl rfl (by omega), ?_⟩
 | refine ⟨_, pu_indexAddr_map rfl rfl (by omega) (by assumption), ?_⟩
 | refine ⟨_, pu_sub rfl rfl (by omega), ?_⟩
 | refine ⟨_, pu_pick_b rfl rfl rfl, ?_⟩
 | refine ⟨_, pu_mul rfl rfl (by omega), ?_⟩
 | refine ⟨_, pu_build rfl rfl rfl rfl rfl rfl, ?_⟩)
 | ((first | refine RunsL.guard_dec rfl rfl rfl ?_ ?_ | refine RunsL.guard_ndec rfl rfl rfl ?_ ?_ | refine RunsL.guard_nb rfl rfl rfl ?_ ?_ | refine RunsL.guard_b rfl rfl rfl ?_ ?_ | refine RunsD.guard_dec rfl rfl rfl ?_ ?_ | refine RunsD.guard_ndec rfl rfl rfl ?_ ?_ | refine RunsD.guard_nb rfl rfl rfl ?_ ?_ | refine RunsD.guard_b rfl rfl rfl ?_ ?_) <;> intro h <;> try (exfalso; first | omega | contradiction | (simp only [List.length_map] at h; omega))))
      exact rr_bool (decide_eq_true ⟨h0.1, h0.2.1, h0.2.2, fun i z hz => hQ i z (by have := (List.getElem?_eq_some_iff.1 hz).1; omega) hz⟩).symm
  · repeat' (first
 | refine RunsL.step tabOk hn rfl ?_
 | refine RunsL.nil ?_
 | refine Runs.toRegion 30 rfl ?_
 | ((first | refine RunsL.pe hn rfl rfl rfl ?_ | refine RunsD.pe rfl rfl ?_); first
 | refine ⟨_, pu_callR (l1In_ac _ _ _) rfl, ?_⟩
 | refine ⟨_, pu_add rfl rfl (by simp only [List.length_map]; omega), ?_⟩)
 | (refine Runs.ctls 30 rfl ?_; first | refine Runs.cond_t rfl ?_ | refine Runs.cond_f rfl ?_ | ((first | refine Runs.cond_yes rfl ?_ ?_ | refine Runs.cond_nno rfl ?_ ?_); · first | omega | rfl | assumption | (simp only [List.length_map]; omega)) | ((first | refine Runs.cond_no rfl ?_ ?_ | refine Runs.cond_nyes rfl ?_ ?_); · first | omega | rfl | assumption | (simp only [List.length_map]; omega)) | refine Runs.cond_dec rfl (fun h => ?_) (fun h => ?_) | refine Runs.cond_ndec rfl (fun h => ?_) (fun h => ?_) | refine Runs.ret (ends_ro hm rfl rfl ?_) | exact Runs.ret (ends_cellR hm rfl rfl rfl (Nat.le_of_ble_eq_true rfl) rfl rfl))
 | refine op_box rfl (tl hn rfl) ?_
 | refine RunsD.step tabOk hn rfl rfl ?_
 | refine RunsD.nil ?_
 | refine Runs.toDraw 30 mixed hn rfl (by kernel_rfl) rfl ?_
 | ((first | refine RunsL.pe hn rfl rfl rfl ?_ | refine RunsD.pe rfl rfl ?_); first
 | refine ⟨_, pu_add rfl rfl (by omega), ?_⟩
 | refine ⟨_, pu_indexAddr_map rfl rfl (by omega) (by assumption), ?_⟩
 | refine ⟨_, pu_sub rfl rfl (by omega), ?_⟩
 | refine ⟨_, pu_pick_b rfl rfl rfl, ?_⟩
 | refine ⟨_, pu_mul rfl rfl (by omega), ?_⟩
 | refine ⟨_, pu_build rfl rfl rfl rfl rfl rfl, ?_⟩)
 | ((first | refine RunsL.guard_dec rfl rfl rfl ?_ ?_ | refine RunsL.guard_ndec rfl rfl rfl ?_ ?_ | refine RunsL.guard_nb rfl rfl rfl ?_ ?_ | refine RunsL.guard_b rfl rfl rfl ?_ ?_ | refine RunsD.guard_dec rfl rfl rfl ?_ ?_ | refine RunsD.guard_ndec rfl rfl rfl ?_ ?_ | refine RunsD.guard_nb rfl rfl rfl ?_ ?_ | refine RunsD.guard_b rfl rfl rfl ?_ ?_) <;> intro h <;> try (exfalso; first | omega | contradiction | (simp only [List.length_map] at h; omega))))
    all_goals first
      | exact rr_bool (decide_eq_false (p := TagsOk d r) fun hN => h0 ⟨hN.1, hN.2.1, hN.2.2.1⟩).symm
      | (exfalso; simp only [List.length_map] at *; omega)
end Go.Proofs.YtkmoffefhlmgeaaGreatDoor
/- The conditions of a rule's kind: the reference's side. -/
namespace Go.Proofs.YtkmoffefhlmgeaaGreatDoor
set_option linter.unusedSimpArgs false
set_option linter.unusedVariables false
set_option linter.unusedSectionVars false
set_option maxRecDepth 100000
open Go.RowKit
def KindOk (d : Des) (r : Rul) : Prop :=
  (r.kind = 1 ∧ Shape r true false false false 0 ∧ InR r.size 1 4 ∧ (r.little = false ∨ 1 < r.size)) ∨
  (r.kind = 2 ∧ Shape r false true false false 0 ∧ InR r.bytes.length 1 16) ∨
  (r.kind = 3 ∧ Shape r true false false false 0 ∧ InR r.size 1 64) ∨
  (r.kind = 4 ∧ Shape r false false false false 1 ∧ 0 < lim d (r.kids.headD 0)) ∨
  (r.kind = 5 ∧ Shape r false false false false 2 ∧ 0 < lim d (r.kids.headD 0)) ∨
  (r.kind = 6 ∧ Shape r false false true false r.names.length ∧ NamesOk r.names) ∨
  (r.kind = 7 ∧ Shape r false false false true (-1) ∧ TagsOk d r) ∨
  ((r.kind = 8 ∨ r.kind = 9) ∧ Shape r false false false false 1) ∨
  (r.kind = 10 ∧ Shape r false true false false 0 ∧ r.bytes.length = 1 ∧ r.bytes.headD 0 ≠ 92)
noncomputable instance (d : Des) (r : Rul) : Decidable (KindOk d r) := Classical.propDecidable _
theorem head_at {l : List Int} (h : 0 < l.length) : l[(0 : Int).toNat]? = some (l.headD 0) := by cases l <;> simp_all
theorem headB_at {l : List UInt8} (h : 0 < l.length) : l[(0 : Int).toNat]? = some (l.headD 0) := by cases l <;> simp_all
theorem Shape.kids {r : Rul} {a b c d : Bool} {k : Int} (h : Shape r a b c d k) (hk : 0 ≤ k) : (r.kids.length : Int) = k := by
  have := h.1.2.2.2.2; omega
set_option maxHeartbeats 8000000 in
theorem l4Kind_ac (d : Des) (r : Rul) (hl : d.length ≤ maxLen) (ht : r.tags.length ≤ 1048576) (hnl : r.names.length ≤ maxLen) (hns : ∀ s ∈ r.names, s.size ≤ maxLen) : ACv Tryz.prog 80 [desR d, .agg (rulR r)] (.bool (decide (KindOk d r))) := by
  have hnames := l4Names_ac r.names hnl hns
  have htags := l4Tags_ac d r hl ht
  have hlim := spec_IntegerLimit d (r.kids.headD 0) hl
  refine ac_enter Tryz.func80 rfl _ Tryz.ntmps80 (by simp) fun C hn hm => ?_
  by_cases k1 : r.kind = 1
  · repeat' (first
 | refine RunsL.step tabOk hn rfl ?_
 | refine RunsL.nil ?_
 | refine Runs.toRegion 30 rfl ?_
 | ((first | refine RunsL.pe hn rfl rfl rfl ?_ | refine RunsD.pe rfl rfl ?_); first
 | refine ⟨_, pu_callR (l4Shape0_ac r _) rfl, ?_⟩
 | refine ⟨_, pu_callR (l1In_ac _ _ _) rfl, ?_⟩)
 | (refine Runs.ctls 30 rfl ?_; first | refine Runs.cond_t rfl ?_ | ((first | refine Runs.cond_yes rfl ?_ ?_ | refine Runs.cond_nno rfl ?_ ?_); · first | omega | rfl | assumption | (simp only [List.length_map]; omega)) | ((first | refine Runs.cond_no rfl ?_ ?_ | refine Runs.cond_nyes rfl ?_ ?_); · first | omega | rfl | assumption | (simp only [List.length_map]; omega)) | refine Runs.ret (ends_ro hm rfl rfl ?_) | exact Runs.ret (ends_cellR hm rfl rfl rfl (Nat.le_of_ble_eq_true rfl) rfl rfl))
 | refine op_box rfl (tl hn rfl) ?_
 | refine RunsD.step tabOk hn rfl rfl ?_
 | refine RunsD.nil ?_
 | refine Runs.toDraw 30 mixed hn rfl (by kernel_rfl) rfl ?_
 | ((first | refine RunsL.pe hn rfl rfl rfl ?_ | refine RunsD.pe rfl rfl ?_); first
 | refine ⟨_, pu_add rfl rfl (by omega), ?_⟩
 | refine ⟨_, pu_indexAddr_map rfl rfl (by omega) (by assumption), ?_⟩
 | refine ⟨_, pu_sub rfl rfl (by omega), ?_⟩
 | refine ⟨_, pu_pick_b rfl rfl rfl, ?_⟩
 | refine ⟨_, pu_mul rfl rfl (by omega), ?_⟩
 | refine ⟨_, pu_build rfl rfl rfl rfl rfl rfl, ?_⟩)
 | ((first | refine RunsL.guard_dec rfl rfl rfl ?_ ?_ | refine RunsL.guard_ndec rfl rfl rfl ?_ ?_ | refine RunsL.guard_nb rfl rfl rfl ?_ ?_ | refine RunsL.guard_b rfl rfl rfl ?_ ?_ | refine RunsD.guard_dec rfl rfl rfl ?_ ?_ | refine RunsD.guard_ndec rfl rfl rfl ?_ ?_ | refine RunsD.guard_nb rfl rfl rfl ?_ ?_ | refine RunsD.guard_b rfl rfl rfl ?_ ?_) <;> intro h <;> try (exfalso; first | omega | contradiction | (simp only [List.length_map] at h; omega))))
    all_goals exact rr_bool (by rw [Bool.eq_iff_iff]; simp [KindOk, *])
  by_cases k2 : r.kind = 2
  · repeat' (first
 | refine RunsL.step tabOk hn rfl ?_
 | refine RunsL.nil ?_
 | refine Runs.toRegion 30 rfl ?_
 | ((first | refine RunsL.pe hn rfl rfl rfl ?_ | refine RunsD.pe rfl rfl ?_); first
 | refine ⟨_, pu_callR (l4Shape1_ac r _) rfl, ?_⟩
 | refine ⟨_, pu_callR (l1In_ac _ _ _) rfl, ?_⟩)
 | (refine Runs.ctls 30 rfl ?_; first | refine Runs.cond_t rfl ?_ | ((first | refine Runs.cond_yes rfl ?_ ?_ | refine Runs.cond_nno rfl ?_ ?_); · first | omega | rfl | assumption | (simp only [List.length_map]; omega)) | ((first | refine Runs.cond_no rfl ?_ ?_ | refine Runs.cond_nyes rfl ?_ ?_); · first | omega | rfl | assumption | (simp only [List.length_map]; omega)) | refine Runs.ret (ends_ro hm rfl rfl ?_) | exact Runs.ret (ends_cellR hm rfl rfl rfl (Nat.le_of_ble_eq_true rfl) rfl rfl))
 | refine op_box rfl (tl hn rfl) ?_
 | refine RunsD.step tabOk hn rfl rfl ?_
 | refine RunsD.nil ?_
 | refine Runs.toDraw 30 mixed hn rfl (by kernel_rfl) rfl ?_
 | ((first | refine RunsL.pe hn rfl rfl rfl ?_ | refine RunsD.pe rfl rfl ?_); first
 | refine ⟨_, pu_add rfl rfl (by omega), ?_⟩
 | refine ⟨_, pu_indexAddr_map rfl rfl (by omega) (by assumption), ?_⟩
 | refine ⟨_, pu_sub rfl rfl (by omega), ?_⟩
 | refine ⟨_, pu_pick_b rfl rfl rfl, ?_⟩
 | refine ⟨_, pu_mul rfl rfl (by omega), ?_⟩
 | refine ⟨_, pu_build rfl rfl rfl rfl rfl rfl, ?_⟩)
 | ((first | refine RunsL.guard_dec rfl rfl rfl ?_ ?_ | refine RunsL.guard_ndec rfl rfl rfl ?_ ?_ | refine RunsL.guard_nb rfl rfl rfl ?_ ?_ | refine RunsL.guard_b rfl rfl rfl ?_ ?_ | refine RunsD.guard_dec rfl rfl rfl ?_ ?_ | refine RunsD.guard_ndec rfl rfl rfl ?_ ?_ | refine RunsD.guard_nb rfl rfl rfl ?_ ?_ | refine RunsD.guard_b rfl rfl rfl ?_ ?_) <;> intro h <;> try (exfalso; first | omega | contradiction | (simp only [List.length_map] at h; omega))))
    all_goals exact rr_bool (by rw [Bool.eq_iff_iff]; simp [KindOk, *])
  by_cases k3 : r.kind = 3
  · repeat' (first
 | refine RunsL.step tabOk hn rfl ?_
 | refine RunsL.nil ?_
 | refine Runs.toRegion 30 rfl ?_
 | ((first | refine RunsL.pe hn rfl rfl rfl ?_ | refine RunsD.pe rfl rfl ?_); first
 | refine ⟨_, pu_callR (l4Shape0_ac r _) rfl, ?_⟩
 | refine ⟨_, pu_callR (l1In_ac _ _ _) rfl, ?_⟩)
 | (refine Runs.ctls 30 rfl ?_; first | refine Runs.cond_t rfl ?_ | ((first | refine Runs.cond_yes rfl ?_ ?_ | refine Runs.cond_nno rfl ?_ ?_); · first | omega | rfl | assumption | (simp only [List.length_map]; omega)) | ((first | refine Runs.cond_no rfl ?_ ?_ | refine Runs.cond_nyes rfl ?_ ?_); · first | omega | rfl | assumption | (simp only [List.length_map]; omega)) | refine Runs.ret (ends_ro hm rfl rfl ?_) | exact Runs.ret (ends_cellR hm rfl rfl rfl (Nat.le_of_ble_eq_true rfl) rfl rfl))
 | refine op_box rfl (tl hn rfl) ?_
 | refine RunsD.step tabOk hn rfl rfl ?_
 | refine RunsD.nil ?_
 | refine Runs.toDraw 30 mixed hn rfl (by kernel_rfl) rfl ?_
 | ((first | refine RunsL.pe hn rfl rfl rfl ?_ | refine RunsD.pe rfl rfl ?_); first
 | refine ⟨_, pu_add rfl rfl (by omega), ?_⟩
 | refine ⟨_, pu_indexAddr_map rfl rfl (by omega) (by assumption), ?_⟩
 | refine ⟨_, pu_sub rfl rfl (by omega), ?_⟩
 | refine ⟨_, pu_pick_b rfl rfl rfl, ?_⟩
 | refine ⟨_, pu_mul rfl rfl (by omega), ?_⟩
 | refine ⟨_, pu_build rfl rfl rfl rfl rfl rfl, ?_⟩)
 | ((first | refine RunsL.guard_dec rfl rfl rfl ?_ ?_ | refine RunsL.guard_ndec rfl rfl rfl ?_ ?_ | refine RunsL.guard_nb rfl rfl rfl ?_ ?_ | refine RunsL.guard_b rfl rfl rfl ?_ ?_ | refine RunsD.guard_dec rfl rfl rfl ?_ ?_ | refine RunsD.guard_ndec rfl rfl rfl ?_ ?_ | refine RunsD.guard_nb rfl rfl rfl ?_ ?_ | refine RunsD.guard_b rfl rfl rfl ?_ ?_) <;> intro h <;> try (exfalso; first | omega | contradiction | (simp only [List.length_map] at h; omega))))
    all_goals exact rr_bool (by rw [Bool.eq_iff_iff]; simp [KindOk, *])
  by_cases k4 : r.kind = 4
  · by_cases hS : Shape r false false false false 1
    · have hk0 := head_at (l := r.kids) (by have := hS.kids (by omega); omega)
      repeat' (first
 | refine RunsL.step tabOk hn rfl ?_
 | refine RunsL.nil ?_
 | refine Runs.toRegion 30 rfl ?_
 | ((first | refine RunsL.pe hn rfl rfl rfl ?_ | refine RunsD.pe rfl rfl ?_); first
 | refine ⟨_, pu_callR (l4Shape4_ac r _) rfl, ?_⟩
 | refine ⟨_, pu_callR hlim rfl, ?_⟩)
 | (refine Runs.ctls 30 rfl ?_; first | refine Runs.cond_t rfl ?_ | ((first | refine Runs.cond_yes rfl ?_ ?_ | refine Runs.cond_nno rfl ?_ ?_); · first | omega | rfl | assumption | (simp only [List.length_map]; omega)) | ((first | refine Runs.cond_no rfl ?_ ?_ | refine Runs.cond_nyes rfl ?_ ?_); · first | omega | rfl | assumption | (simp only [List.length_map]; omega)) | refine Runs.ret (ends_ro hm rfl rfl ?_) | exact Runs.ret (ends_cellR hm rfl rfl rfl (Nat.le_of_ble_eq_true rfl) rfl rfl))
 | refine op_box rfl (tl hn rfl) ?_
 | refine RunsD.step tabOk hn rfl rfl ?_
 | refine RunsD.nil ?_
 | refine Runs.toDraw 30 mixed hn rfl (by kernel_rfl) rfl ?_
 | ((first | refine RunsL.pe hn rfl rfl rfl ?_ | refine RunsD.pe rfl rfl ?_); first
 | refine ⟨_, pu_add rfl rfl (by omega), ?_⟩
 | refine ⟨_, pu_indexAddr_map rfl rfl (by omega) (by assumption), ?_⟩
 | refine ⟨_, pu_sub rfl rfl (by omega), ?_⟩
 | refine ⟨_, pu_pick_b rfl rfl rfl, ?_⟩
 | refine ⟨_, pu_mul rfl rfl (by omega), ?_⟩
 | refine ⟨_, pu_build rfl rfl rfl rfl rfl rfl, ?_⟩)
 | ((first | refine RunsL.guard_dec rfl rfl rfl ?_ ?_ | refine RunsL.guard_ndec rfl rfl rfl ?_ ?_ | refine RunsL.guard_nb rfl rfl rfl ?_ ?_ | refine RunsL.guard_b rfl rfl rfl ?_ ?_ | refine RunsD.guard_dec rfl rfl rfl ?_ ?_ | refine RunsD.guard_ndec rfl rfl rfl ?_ ?_ | refine RunsD.guard_nb rfl rfl rfl ?_ ?_ | refine RunsD.guard_b rfl rfl rfl ?_ ?_) <;> intro h <;> try (exfalso; first | omega | contradiction | (simp only [List.length_map] at h; omega))))
      all_goals exact rr_bool (by rw [Bool.eq_iff_iff]; simp [KindOk, *])
    · repeat' (first
 | refine RunsL.step tabOk hn rfl ?_
 | refine RunsL.nil ?_
 | refine Runs.toRegion 30 rfl ?_
 | ((first | refine RunsL.pe hn rfl rfl rfl ?_ | refine RunsD.pe rfl rfl ?_); first
 | refine ⟨_, pu_callR (l4Shape4_ac r _) rfl, ?_⟩)
 | (refine Runs.ctls 30 rfl ?_; first | refine Runs.cond_t rfl ?_ | ((first | refine Runs.cond_yes rfl ?_ ?_ | refine Runs.cond_nno rfl ?_ ?_); · first | omega | rfl | assumption | (simp only [List.length_map]; omega)) | ((first | refine Runs.cond_no rfl ?_ ?_ | refine Runs.cond_nyes rfl ?_ ?_); · first | omega | rfl | assumption | (simp only [List.length_map]; omega)) | refine Runs.ret (ends_ro hm rfl rfl ?_) | exact Runs.ret (ends_cellR hm rfl rfl rfl (Nat.le_of_ble_eq_true rfl) rfl rfl))
 | refine op_box rfl (tl hn rfl) ?_
 | refine RunsD.step tabOk hn rfl rfl ?_
 | refine RunsD.nil ?_
 | refine Runs.toDraw 30 mixed hn rfl (by kernel_rfl) rfl ?_
 | ((first | refine RunsL.pe hn rfl rfl rfl ?_ | refine RunsD.pe rfl rfl ?_); first
 | refine ⟨_, pu_add rfl rfl (by omega), ?_⟩
 | refine ⟨_, pu_indexAddr_map rfl rfl (by omega) (by assumption), ?_⟩
 | refine ⟨_, pu_sub rfl rfl (by omega), ?_⟩
 | refine ⟨_, pu_pick_b rfl rfl rfl, ?_⟩
 | refine ⟨_, pu_mul rfl rfl (by omega), ?_⟩
 | refine ⟨_, pu_build rfl rfl rfl rfl rfl rfl, ?_⟩)
 | ((first | refine RunsL.guard_dec rfl rfl rfl ?_ ?_ | refine RunsL.guard_ndec rfl rfl rfl ?_ ?_ | refine RunsL.guard_nb rfl rfl rfl ?_ ?_ | refine RunsL.guard_b rfl rfl rfl ?_ ?_ | refine RunsD.guard_dec rfl rfl rfl ?_ ?_ | refine RunsD.guard_ndec rfl rfl rfl ?_ ?_ | refine RunsD.guard_nb rfl rfl rfl ?_ ?_ | refine RunsD.guard_b rfl rfl rfl ?_ ?_) <;> intro h <;> try (exfalso; first | omega | contradiction | (simp only [List.length_map] at h; omega))))
      all_goals exact rr_bool (by rw [Bool.eq_iff_iff]; simp [KindOk, *])
  by_cases k5 : r.kind = 5
  · by_cases hS : Shape r false false false false 2
    · have hk0 := head_at (l := r.kids) (by have := hS.kids (by omega); omega)
      repeat' (first
 | refine RunsL.step tabOk hn rfl ?_
 | refine RunsL.nil ?_
 | refine Runs.toRegion 30 rfl ?_
 | ((first | refine RunsL.pe hn rfl rfl rfl ?_ | refine RunsD.pe rfl rfl ?_); first
 | refine ⟨_, pu_callR (l4Shape4_ac r _) rfl, ?_⟩
 | refine ⟨_, pu_callR hlim rfl, ?_⟩)
 | (refine Runs.ctls 30 rfl ?_; first | refine Runs.cond_t rfl ?_ | ((first | refine Runs.cond_yes rfl ?_ ?_ | refine Runs.cond_nno rfl ?_ ?_); · first | omega | rfl | assumption | (simp only [List.length_map]; omega)) | ((first | refine Runs.cond_no rfl ?_ ?_ | refine Runs.cond_nyes rfl ?_ ?_); · first | omega | rfl | assumption | (simp only [List.length_map]; omega)) | refine Runs.ret (ends_ro hm rfl rfl ?_) | exact Runs.ret (ends_cellR hm rfl rfl rfl (Nat.le_of_ble_eq_true rfl) rfl rfl))
 | refine op_box rfl (tl hn rfl) ?_
 | refine RunsD.step tabOk hn rfl rfl ?_
 | refine RunsD.nil ?_
 | refine Runs.toDraw 30 mixed hn rfl (by kernel_rfl) rfl ?_
 | ((first | refine RunsL.pe hn rfl rfl rfl ?_ | refine RunsD.pe rfl rfl ?_); first
 | refine ⟨_, pu_add rfl rfl (by omega), ?_⟩
 | refine ⟨_, pu_indexAddr_map rfl rfl (by omega) (by assumption), ?_⟩
 | refine ⟨_, pu_sub rfl rfl (by omega), ?_⟩
 | refine ⟨_, pu_pick_b rfl rfl rfl, ?_⟩
 | refine ⟨_, pu_mul rfl rfl (by omega), ?_⟩
 | refine ⟨_, pu_build rfl rfl rfl rfl rfl rfl, ?_⟩)
 | ((first | refine RunsL.guard_dec rfl rfl rfl ?_ ?_ | refine RunsL.guard_ndec rfl rfl rfl ?_ ?_ | refine RunsL.guard_nb rfl rfl rfl ?_ ?_ | refine RunsL.guard_b rfl rfl rfl ?_ ?_ | refine RunsD.guard_dec rfl rfl rfl ?_ ?_ | refine RunsD.guard_ndec rfl rfl rfl ?_ ?_ | refine RunsD.guard_nb rfl rfl rfl ?_ ?_ | refine RunsD.guard_b rfl rfl rfl ?_ ?_) <;> intro h <;> try (exfalso; first | omega | contradiction | (simp only [List.length_map] at h; omega))))
      all_goals exact rr_bool (by rw [Bool.eq_iff_iff]; simp [KindOk, *])
    · repeat' (first
 | refine RunsL.step tabOk hn rfl ?_
 | refine RunsL.nil ?_
 | refine Runs.toRegion 30 rfl ?_
 | ((first | refine RunsL.pe hn rfl rfl rfl ?_ | refine RunsD.pe rfl rfl ?_); first
 | refine ⟨_, pu_callR (l4Shape4_ac r _) rfl, ?_⟩)
 | (refine Runs.ctls 30 rfl ?_; first | refine Runs.cond_t rfl ?_ | ((first | refine Runs.cond_yes rfl ?_ ?_ | refine Runs.cond_nno rfl ?_ ?_); · first | omega | rfl | assumption | (simp only [List.length_map]; omega)) | ((first | refine Runs.cond_no rfl ?_ ?_ | refine Runs.cond_nyes rfl ?_ ?_); · first | omega | rfl | assumption | (simp only [List.length_map]; omega)) | refine Runs.ret (ends_ro hm rfl rfl ?_) | exact Runs.ret (ends_cellR hm rfl rfl rfl (Nat.le_of_ble_eq_true rfl) rfl rfl))
 | refine op_box rfl (tl hn rfl) ?_
 | refine RunsD.step tabOk hn rfl rfl ?_
 | refine RunsD.nil ?_
 | refine Runs.toDraw 30 mixed hn rfl (by kernel_rfl) rfl ?_
 | ((first | refine RunsL.pe hn rfl rfl rfl ?_ | refine RunsD.pe rfl rfl ?_); first
 | refine ⟨_, pu_add rfl rfl (by omega), ?_⟩
 | refine ⟨_, pu_indexAddr_map rfl rfl (by omega) (by assumption), ?_⟩
 | refine ⟨_, pu_sub rfl rfl (by omega), ?_⟩
 | refine ⟨_, pu_pick_b rfl rfl rfl, ?_⟩
 | refine ⟨_, pu_mul rfl rfl (by omega), ?_⟩
 | refine ⟨_, pu_build rfl rfl rfl rfl rfl rfl, ?_⟩)
 | ((first | refine RunsL.guard_dec rfl rfl rfl ?_ ?_ | refine RunsL.guard_ndec rfl rfl rfl ?_ ?_ | refine RunsL.guard_nb rfl rfl rfl ?_ ?_ | refine RunsL.guard_b rfl rfl rfl ?_ ?_ | refine RunsD.guard_dec rfl rfl rfl ?_ ?_ | refine RunsD.guard_ndec rfl rfl rfl ?_ ?_ | refine RunsD.guard_nb rfl rfl rfl ?_ ?_ | refine RunsD.guard_b rfl rfl rfl ?_ ?_) <;> intro h <;> try (exfalso; first | omega | contradiction | (simp only [List.length_map] at h; omega))))
      all_goals exact rr_bool (by rw [Bool.eq_iff_iff]; simp [KindOk, *])
  by_cases k6 : r.kind = 6
  · have hsh := l4Shape2_ac r r.names.length
    have hlm : (r.names.map fun z => [RV.str z]).length = r.names.length := List.length_map ..
    repeat' (first
 | refine RunsL.step tabOk hn rfl ?_
 | refine RunsL.nil ?_
 | refine Runs.toRegion 30 rfl ?_
 | ((first | refine RunsL.pe hn rfl rfl rfl ?_ | refine RunsD.pe rfl rfl ?_); first
 | refine ⟨_, pu_callR hsh (by simp [ev, look, rulR]), ?_⟩
 | refine ⟨_, pu_callR hnames rfl, ?_⟩)
 | (refine Runs.ctls 30 rfl ?_; first | refine Runs.cond_t rfl ?_ | ((first | refine Runs.cond_yes rfl ?_ ?_ | refine Runs.cond_nno rfl ?_ ?_); · first | omega | rfl | assumption | (simp only [List.length_map]; omega)) | ((first | refine Runs.cond_no rfl ?_ ?_ | refine Runs.cond_nyes rfl ?_ ?_); · first | omega | rfl | assumption | (simp only [List.length_map]; omega)) | refine Runs.ret (ends_ro hm rfl rfl ?_) | exact Runs.ret (ends_cellR hm rfl rfl rfl (Nat.le_of_ble_eq_true rfl) rfl rfl))
 | refine op_box rfl (tl hn rfl) ?_
 | refine RunsD.step tabOk hn rfl rfl ?_
 | refine RunsD.nil ?_
 | refine Runs.toDraw 30 mixed hn rfl (by kernel_rfl) rfl ?_
 | ((first | refine RunsL.pe hn rfl rfl rfl ?_ | refine RunsD.pe rfl rfl ?_); first
 | refine ⟨_, pu_add rfl rfl (by omega), ?_⟩
 | refine ⟨_, pu_indexAddr_map rfl rfl (by omega) (by assumption), ?_⟩
 | refine ⟨_, pu_sub rfl rfl (by omega), ?_⟩
 | refine ⟨_, pu_pick_b rfl rfl rfl, ?_⟩
 | refine ⟨_, pu_mul rfl rfl (by omega), ?_⟩
 | refine ⟨_, pu_build rfl rfl rfl rfl rfl rfl, ?_⟩)
 | ((first | refine RunsL.guard_dec rfl rfl rfl ?_ ?_ | refine RunsL.guard_ndec rfl rfl rfl ?_ ?_ | refine RunsL.guard_nb rfl rfl rfl ?_ ?_ | refine RunsL.guard_b rfl rfl rfl ?_ ?_ | refine RunsD.guard_dec rfl rfl rfl ?_ ?_ | refine RunsD.guard_ndec rfl rfl rfl ?_ ?_ | refine RunsD.guard_nb rfl rfl rfl ?_ ?_ | refine RunsD.guard_b rfl rfl rfl ?_ ?_) <;> intro h <;> try (exfalso; first | omega | contradiction | (simp only [List.length_map] at h; omega))))
    all_goals exact rr_bool (by rw [Bool.eq_iff_iff]; simp [KindOk, *])
  by_cases k7 : r.kind = 7
  · repeat' (first
 | refine RunsL.step tabOk hn rfl ?_
 | refine RunsL.nil ?_
 | refine Runs.toRegion 30 rfl ?_
 | ((first | refine RunsL.pe hn rfl rfl rfl ?_ | refine RunsD.pe rfl rfl ?_); first
 | refine ⟨_, pu_callR (l4Shape3_ac r _) rfl, ?_⟩
 | refine ⟨_, pu_callR htags rfl, ?_⟩)
 | (refine Runs.ctls 30 rfl ?_; first | refine Runs.cond_t rfl ?_ | ((first | refine Runs.cond_yes rfl ?_ ?_ | refine Runs.cond_nno rfl ?_ ?_); · first | omega | rfl | assumption | (simp only [List.length_map]; omega)) | ((first | refine Runs.cond_no rfl ?_ ?_ | refine Runs.cond_nyes rfl ?_ ?_); · first | omega | rfl | assumption | (simp only [List.length_map]; omega)) | refine Runs.ret (ends_ro hm rfl rfl ?_) | exact Runs.ret (ends_cellR hm rfl rfl rfl (Nat.le_of_ble_eq_true rfl) rfl rfl))
 | refine op_box rfl (tl hn rfl) ?_
 | refine RunsD.step tabOk hn rfl rfl ?_
 | refine RunsD.nil ?_
 | refine Runs.toDraw 30 mixed hn rfl (by kernel_rfl) rfl ?_
 | ((first | refine RunsL.pe hn rfl rfl rfl ?_ | refine RunsD.pe rfl rfl ?_); first
 | refine ⟨_, pu_add rfl rfl (by omega), ?_⟩
 | refine ⟨_, pu_indexAddr_map rfl rfl (by omega) (by assumption), ?_⟩
 | refine ⟨_, pu_sub rfl rfl (by omega), ?_⟩
 | refine ⟨_, pu_pick_b rfl rfl rfl, ?_⟩
 | refine ⟨_, pu_mul rfl rfl (by omega), ?_⟩
 | refine ⟨_, pu_build rfl rfl rfl rfl rfl rfl, ?_⟩)
 | ((first | refine RunsL.guard_dec rfl rfl rfl ?_ ?_ | refine RunsL.guard_ndec rfl rfl rfl ?_ ?_ | refine RunsL.guard_nb rfl rfl rfl ?_ ?_ | refine RunsL.guard_b rfl rfl rfl ?_ ?_ | refine RunsD.guard_dec rfl rfl rfl ?_ ?_ | refine RunsD.guard_ndec rfl rfl rfl ?_ ?_ | refine RunsD.guard_nb rfl rfl rfl ?_ ?_ | refine RunsD.guard_b rfl rfl rfl ?_ ?_) <;> intro h <;> try (exfalso; first | omega | contradiction | (simp only [List.length_map] at h; omega))))
    all_goals exact rr_bool (by rw [Bool.eq_iff_iff]; simp [KindOk, *])
  by_cases k8 : r.kind = 8
  · repeat' (first
 | refine RunsL.step tabOk hn rfl ?_
 | refine RunsL.nil ?_
 | refine Runs.toRegion 30 rfl ?_
 | ((first | refine RunsL.pe hn rfl rfl rfl ?_ | refine RunsD.pe rfl rfl ?_); first
 | refine ⟨_, pu_callR (l4Shape4_ac r _) rfl, ?_⟩)
 | (refine Runs.ctls 30 rfl ?_; first | refine Runs.cond_t rfl ?_ | ((first | refine Runs.cond_yes rfl ?_ ?_ | refine Runs.cond_nno rfl ?_ ?_); · first | omega | rfl | assumption | (simp only [List.length_map]; omega)) | ((first | refine Runs.cond_no rfl ?_ ?_ | refine Runs.cond_nyes rfl ?_ ?_); · first | omega | rfl | assumption | (simp only [List.length_map]; omega)) | refine Runs.ret (ends_ro hm rfl rfl ?_) | exact Runs.ret (ends_cellR hm rfl rfl rfl (Nat.le_of_ble_eq_true rfl) rfl rfl))
 | refine op_box rfl (tl hn rfl) ?_
 | refine RunsD.step tabOk hn rfl rfl ?_
 | refine RunsD.nil ?_
 | refine Runs.toDraw 30 mixed hn rfl (by kernel_rfl) rfl ?_
 | ((first | refine RunsL.pe hn rfl rfl rfl ?_ | refine RunsD.pe rfl rfl ?_); first
 | refine ⟨_, pu_add rfl rfl (by omega), ?_⟩
 | refine ⟨_, pu_indexAddr_map rfl rfl (by omega) (by assumption), ?_⟩
 | refine ⟨_, pu_sub rfl rfl (by omega), ?_⟩
 | refine ⟨_, pu_pick_b rfl rfl rfl, ?_⟩
 | refine ⟨_, pu_mul rfl rfl (by omega), ?_⟩
 | refine ⟨_, pu_build rfl rfl rfl rfl rfl rfl, ?_⟩)
 | ((first | refine RunsL.guard_dec rfl rfl rfl ?_ ?_ | refine RunsL.guard_ndec rfl rfl rfl ?_ ?_ | refine RunsL.guard_nb rfl rfl rfl ?_ ?_ | refine RunsL.guard_b rfl rfl rfl ?_ ?_ | refine RunsD.guard_dec rfl rfl rfl ?_ ?_ | refine RunsD.guard_ndec rfl rfl rfl ?_ ?_ | refine RunsD.guard_nb rfl rfl rfl ?_ ?_ | refine RunsD.guard_b rfl rfl rfl ?_ ?_) <;> intro h <;> try (exfalso; first | omega | contradiction | (simp only [List.length_map] at h; omega))))
    all_goals exact rr_bool (by rw [Bool.eq_iff_iff]; simp [KindOk, *])
  by_cases k9 : r.kind = 9
  · repeat' (first
 | refine RunsL.step tabOk hn rfl ?_
 | refine RunsL.nil ?_
 | refine Runs.toRegion 30 rfl ?_
 | ((first | refine RunsL.pe hn rfl rfl rfl ?_ | refine RunsD.pe rfl rfl ?_); first
 | refine ⟨_, pu_callR (l4Shape4_ac r _) rfl, ?_⟩)
 | (refine Runs.ctls 30 rfl ?_; first | refine Runs.cond_t rfl ?_ | ((first | refine Runs.cond_yes rfl ?_ ?_ | refine Runs.cond_nno rfl ?_ ?_); · first | omega | rfl | assumption | (simp only [List.length_map]; omega)) | ((first | refine Runs.cond_no rfl ?_ ?_ | refine Runs.cond_nyes rfl ?_ ?_); · first | omega | rfl | assumption | (simp only [List.length_map]; omega)) | refine Runs.ret (ends_ro hm rfl rfl ?_) | exact Runs.ret (ends_cellR hm rfl rfl rfl (Nat.le_of_ble_eq_true rfl) rfl rfl))
 | refine op_box rfl (tl hn rfl) ?_
 | refine RunsD.step tabOk hn rfl rfl ?_
 | refine RunsD.nil ?_
 | refine Runs.toDraw 30 mixed hn rfl (by kernel_rfl) rfl ?_
 | ((first | refine RunsL.pe hn rfl rfl rfl ?_ | refine RunsD.pe rfl rfl ?_); first
 | refine ⟨_, pu_add rfl rfl (by omega), ?_⟩
 | refine ⟨_, pu_indexAddr_map rfl rfl (by omega) (by assumption), ?_⟩
 | refine ⟨_, pu_sub rfl rfl (by omega), ?_⟩
 | refine ⟨_, pu_pick_b rfl rfl rfl, ?_⟩
 | refine ⟨_, pu_mul rfl rfl (by omega), ?_⟩
 | refine ⟨_, pu_build rfl rfl rfl rfl rfl rfl, ?_⟩)
 | ((first | refine RunsL.guard_dec rfl rfl rfl ?_ ?_ | refine RunsL.guard_ndec rfl rfl rfl ?_ ?_ | refine RunsL.guard_nb rfl rfl rfl ?_ ?_ | refine RunsL.guard_b rfl rfl rfl ?_ ?_ | refine RunsD.guard_dec rfl rfl rfl ?_ ?_ | refine RunsD.guard_ndec rfl rfl rfl ?_ ?_ | refine RunsD.guard_nb rfl rfl rfl ?_ ?_ | refine RunsD.guard_b rfl rfl rfl ?_ ?_) <;> intro h <;> try (exfalso; first | omega | contradiction | (simp only [List.length_map] at h; omega))))
    all_goals exact rr_bool (by rw [Bool.eq_iff_iff]; simp [KindOk, *])
  by_cases k10 : r.kind = 10
  · by_cases hb : r.bytes.length = 1
    · have hb0 := headB_at (l := r.bytes) (by omega)
      have hu : ((r.bytes.headD 0).toNat : Int) = 92 ↔ r.bytes.headD 0 = 92 := ⟨fun h => u8_ext h, fun h => by rw [h]; rfl⟩
      repeat' (first
 | refine RunsL.step tabOk hn rfl ?_
 | refine RunsL.nil ?_
 | refine Runs.toRegion 30 rfl ?_
 | ((first | refine RunsL.pe hn rfl rfl rfl ?_ | refine RunsD.pe rfl rfl ?_); first
 | refine ⟨_, pu_callR (l4Shape1_ac r _) rfl, ?_⟩)
 | (refine Runs.ctls 30 rfl ?_; first | refine Runs.cond_t rfl ?_ | ((first | refine Runs.cond_yes rfl ?_ ?_ | refine Runs.cond_nno rfl ?_ ?_); · first | omega | rfl | assumption | (simp only [List.length_map]; omega)) | ((first | refine Runs.cond_no rfl ?_ ?_ | refine Runs.cond_nyes rfl ?_ ?_); · first | omega | rfl | assumption | (simp only [List.length_map]; omega)) | refine Runs.ret (ends_ro hm rfl rfl ?_) | exact Runs.ret (ends_cellR hm rfl rfl rfl (Nat.le_of_ble_eq_true rfl) rfl rfl))
 | refine op_box rfl (tl hn rfl) ?_
 | refine RunsD.step tabOk hn rfl rfl ?_
 | refine RunsD.nil ?_
 | refine Runs.toDraw 30 mixed hn rfl (by kernel_rfl) rfl ?_
 | ((first | refine RunsL.pe hn rfl rfl rfl ?_ | refine RunsD.pe rfl rfl ?_); first
 | refine ⟨_, pu_add rfl rfl (by omega), ?_⟩
 | refine ⟨_, pu_indexAddr_map rfl rfl (by omega) (by assumption), ?_⟩
 | refine ⟨_, pu_sub rfl rfl (by omega), ?_⟩
 | refine ⟨_, pu_pick_b rfl rfl rfl, ?_⟩
 | refine ⟨_, pu_mul rfl rfl (by omega), ?_⟩
 | refine ⟨_, pu_build rfl rfl rfl rfl rfl rfl, ?_⟩)
 | ((first | refine RunsL.guard_dec rfl rfl rfl ?_ ?_ | refine RunsL.guard_ndec rfl rfl rfl ?_ ?_ | refine RunsL.guard_nb rfl rfl rfl ?_ ?_ | refine RunsL.guard_b rfl rfl rfl ?_ ?_ | refine RunsD.guard_dec rfl rfl rfl ?_ ?_ | refine RunsD.guard_ndec rfl rfl rfl ?_ ?_ | refine RunsD.guard_nb rfl rfl rfl ?_ ?_ | refine RunsD.guard_b rfl rfl rfl ?_ ?_) <;> intro h <;> try (exfalso; first | omega | contradiction | (simp only [List.length_map] at h; omega))))
      all_goals exact rr_bool (by rw [Bool.eq_iff_iff]; first | (simp [KindOk, *]; done) | (simp [KindOk, *]; exact not_congr (by simpa using hu)))
    · repeat' (first
 | refine RunsL.step tabOk hn rfl ?_
 | refine RunsL.nil ?_
 | refine Runs.toRegion 30 rfl ?_
 | ((first | refine RunsL.pe hn rfl rfl rfl ?_ | refine RunsD.pe rfl rfl ?_); first
 | refine ⟨_, pu_callR (l4Shape1_ac r _) rfl, ?_⟩)
 | (refine Runs.ctls 30 rfl ?_; first | refine Runs.cond_t rfl ?_ | ((first | refine Runs.cond_yes rfl ?_ ?_ | refine Runs.cond_nno rfl ?_ ?_); · first | omega | rfl | assumption | (simp only [List.length_map]; omega)) | ((first | refine Runs.cond_no rfl ?_ ?_ | refine Runs.cond_nyes rfl ?_ ?_); · first | omega | rfl | assumption | (simp only [List.length_map]; omega)) | refine Runs.ret (ends_ro hm rfl rfl ?_) | exact Runs.ret (ends_cellR hm rfl rfl rfl (Nat.le_of_ble_eq_true rfl) rfl rfl))
 | refine op_box rfl (tl hn rfl) ?_
 | refine RunsD.step tabOk hn rfl rfl ?_
 | refine RunsD.nil ?_
 | refine Runs.toDraw 30 mixed hn rfl (by kernel_rfl) rfl ?_
 | ((first | refine RunsL.pe hn rfl rfl rfl ?_ | refine RunsD.pe rfl rfl ?_); first
 | refine ⟨_, pu_add rfl rfl (by omega), ?_⟩
 | refine ⟨_, pu_indexAddr_map rfl rfl (by omega) (by assumption), ?_⟩
 | refine ⟨_, pu_sub rfl rfl (by omega), ?_⟩
 | refine ⟨_, pu_pick_b rfl rfl rfl, ?_⟩
 | refine ⟨_, pu_mul rfl rfl (by omega), ?_⟩
 | refine ⟨_, pu_build rfl rfl rfl rfl rfl rfl, ?_⟩)
 | ((first | refine RunsL.guard_dec rfl rfl rfl ?_ ?_ | refine RunsL.guard_ndec rfl rfl rfl ?_ ?_ | refine RunsL.guard_nb rfl rfl rfl ?_ ?_ | refine RunsL.guard_b rfl rfl rfl ?_ ?_ | refine RunsD.guard_dec rfl rfl rfl ?_ ?_ | refine RunsD.guard_ndec rfl rfl rfl ?_ ?_ | refine RunsD.guard_nb rfl rfl rfl ?_ ?_ | refine RunsD.guard_b rfl rfl rfl ?_ ?_) <;> intro h <;> try (exfalso; first | omega | contradiction | (simp only [List.length_map] at h; omega))))
      all_goals exact rr_bool (by rw [Bool.eq_iff_iff]; simp [KindOk, *])
  · repeat' (first
 | refine RunsL.step tabOk hn rfl ?_
 | refine RunsL.nil ?_
 | refine Runs.toRegion 30 rfl ?_
 | (refine Runs.ctls 30 rfl ?_; first | refine Runs.cond_t rfl ?_ | ((first | refine Runs.cond_yes rfl ?_ ?_ | refine Runs.cond_nno rfl ?_ ?_); · first | omega | rfl | assumption | (simp only [List.length_map]; omega)) | ((first | refine Runs.cond_no rfl ?_ ?_ | refine Runs.cond_nyes rfl ?_ ?_); · first | omega | rfl | assumption | (simp only [List.length_map]; omega)) | refine Runs.ret (ends_ro hm rfl rfl ?_) | exact Runs.ret (ends_cellR hm rfl rfl rfl (Nat.le_of_ble_eq_true rfl) rfl rfl))
 | refine op_box rfl (tl hn rfl) ?_
 | refine RunsD.step tabOk hn rfl rfl ?_
 | refine RunsD.nil ?_
 | refine Runs.toDraw 30 mixed hn rfl (by kernel_rfl) rfl ?_
 | ((first | refine RunsL.pe hn rfl rfl rfl ?_ | refine RunsD.pe rfl rfl ?_); first
 | refine ⟨_, pu_add rfl rfl (by omega), ?_⟩
 | refine ⟨_, pu_indexAddr_map rfl rfl (by omega) (by assumption), ?_⟩
 | refine ⟨_, pu_sub rfl rfl (by omega), ?_⟩
 | refine ⟨_, pu_pick_b rfl rfl rfl, ?_⟩
 | refine ⟨_, pu_mul rfl rfl (by omega), ?_⟩
 | refine ⟨_, pu_build rfl rfl rfl rfl rfl rfl, ?_⟩)
 | ((first | refine RunsL.guard_dec rfl rfl rfl ?_ ?_ | refine RunsL.guard_ndec rfl rfl rfl ?_ ?_ | refine RunsL.guard_nb rfl rfl rfl ?_ ?_ | refine RunsL.guard_b rfl rfl rfl ?_ ?_ | refine RunsD.guard_dec rfl rfl rfl ?_ ?_ | refine RunsD.guard_ndec rfl rfl rfl ?_ ?_ | refine RunsD.guard_nb rfl rfl rfl ?_ ?_ | refine RunsD.guard_b rfl rfl rfl ?_ ?_) <;> intro h <;> try (exfalso; first | omega | contradiction | (simp only [List.length_map] at h; omega))))
    all_goals exact rr_bool (by rw [Bool.eq_iff_iff]; simp [KindOk, *])
end Go.Proofs.YtkmoffefhlmgeaaGreatDoor
/- Valid rules, valid descriptions: the reference's side. -/
namespace Go.Proofs.YtkmoffefhlmgeaaGreatDoor
set_option linter.unusedSimpArgs false
set_option linter.unusedVariables false
set_option linter.unusedSectionVars false
set_option maxRecDepth 100000
open Go.RowKit
def RuleOk (d : Des) (n : Nat) (r : Rul) : Prop := (∀ (k : Nat) x, k < n → d[k]? = some x → ¬ x.name = r.name) ∧ (∀ (k : Nat) z, r.kids[k]? = some z → 0 ≤ z ∧ z < n) ∧ IsNm r.name ∧ KindOk d r
def RuleAt (d : Des) (i : Int) : Prop := 0 ≤ i ∧ ∃ r, d[i.toNat]? = some r ∧ RuleOk d i.toNat r
noncomputable instance (d : Des) (i : Int) : Decidable (RuleAt d i) := Classical.propDecidable _
theorem ruleAt_iff {d : Des} {i : Int} {r : Rul} (h0 : 0 ≤ i) (h : d[i.toNat]? = some r) : RuleAt d i ↔ RuleOk d i.toNat r :=
  ⟨fun ⟨_, r', h1, h2⟩ => by rw [h] at h1; injection h1 with h1; subst h1; exact h2, fun h2 => ⟨h0, r, h, h2⟩⟩
set_option maxHeartbeats 4000000 in
theorem spec_IsValidRule (d : Des) (ho : DesOk d) (hd : dtotal d ≤ 1048576) (i : Int) (hi : I64 i) : ACv Tryz.prog 67 [desR d, .int i] (.bool (decide (RuleAt d i))) := by
  have hlm : (d.map rulR).length = d.length := List.length_map ..
  have hl := ho.len
  have et : dtotal d = d.length + (d.map Rul.total).sum := rfl
  unfold I64 at hi
  by_cases hx : HasR d i
  · obtain ⟨r, hr⟩ : ∃ r, d[i.toNat]? = some r := ⟨_, List.getElem?_eq_getElem (by omega)⟩
    have hmem := List.mem_of_getElem? hr
    have hro := ho.rules r hmem
    obtain ⟨o1, o2, o3, o4, o5, o6, o7⟩ := hro.lens
    have hrt := sum_mem_le Rul.total hmem
    have er : r.total = r.name.size + r.bytes.length + (r.names.length + (r.names.map ByteArray.size).sum) + r.tags.length + r.kids.length := rfl
    have hnm := spec_IsName r.name o1
    have hk := l4Kind_ac d r hl (by omega) o3 o4
    have hiff := ruleAt_iff hx.1 hr
    obtain ⟨n, rfl⟩ : ∃ n : Nat, i = n := ⟨i.toNat, by omega⟩
    simp only [Int.toNat_natCast] at hiff
    refine ac_enter Tryz.func67 rfl _ Tryz.ntmps67 (by simp) fun C hn hm => ?_
    repeat' (first
 | refine RunsL.step tabOk hn rfl ?_
 | refine RunsL.nil ?_
 | refine Runs.toRegion 30 rfl ?_
 | ((first | refine RunsL.pe hn rfl rfl rfl ?_ | refine RunsD.pe rfl rfl ?_); first
 | refine ⟨_, pu_callR (l1In_ac _ _ _) rfl, ?_⟩)
 | (refine Runs.ctls 30 rfl ?_; first | refine Runs.cond_t rfl ?_ | refine Runs.cond_f rfl ?_ | ((first | refine Runs.cond_yes rfl ?_ ?_ | refine Runs.cond_nno rfl ?_ ?_); · first | omega | rfl | assumption | (simp only [List.length_map]; omega)) | ((first | refine Runs.cond_no rfl ?_ ?_ | refine Runs.cond_nyes rfl ?_ ?_); · first | omega | rfl | assumption | (simp only [List.length_map]; omega)) | refine Runs.ret (ends_ro hm rfl rfl ?_) | exact Runs.ret (ends_cellR hm rfl rfl rfl (Nat.le_of_ble_eq_true rfl) rfl rfl))
 | refine op_box rfl (tl hn rfl) ?_
 | refine op_alloc (tl hn rfl) ?_
 | refine op_storeN rfl rfl rfl rfl (Nat.le_of_ble_eq_true rfl) ?_
 | refine RunsD.step tabOk hn rfl rfl ?_
 | refine RunsD.nil ?_
 | refine Runs.toDraw 30 mixed hn rfl (by kernel_rfl) rfl ?_
 | ((first | refine RunsL.pe hn rfl rfl rfl ?_ | refine RunsD.pe rfl rfl ?_); first
 | refine ⟨_, pu_add rfl rfl (by omega), ?_⟩
 | refine ⟨_, pu_indexAddr_map rfl rfl (by omega) (by assumption), ?_⟩
 | refine ⟨_, pu_sub rfl rfl (by omega), ?_⟩
 | refine ⟨_, pu_pick_b rfl rfl rfl, ?_⟩
 | refine ⟨_, pu_mul rfl rfl (by omega), ?_⟩
 | refine ⟨_, pu_build rfl rfl rfl rfl rfl rfl, ?_⟩)
 | ((first | refine RunsL.guard_dec rfl rfl rfl ?_ ?_ | refine RunsL.guard_ndec rfl rfl rfl ?_ ?_ | refine RunsL.guard_nb rfl rfl rfl ?_ ?_ | refine RunsL.guard_b rfl rfl rfl ?_ ?_ | refine RunsD.guard_dec rfl rfl rfl ?_ ?_ | refine RunsD.guard_ndec rfl rfl rfl ?_ ?_ | refine RunsD.guard_nb rfl rfl rfl ?_ ?_ | refine RunsD.guard_b rfl rfl rfl ?_ ?_) <;> intro h <;> try (exfalso; first | omega | contradiction | (simp only [List.length_map] at h; omega))))
    refine Runs.loopN 30 rfl (fun j => [(2, .obj 0 0), (5, .obj 1 0), (1, .int (n : Int)), (6, .int (j : Int))]) (fun _ => [⟨35, 0, [.ro (rulsR d)]⟩, ⟨54, 0, [.str r.name, .int r.kind, .int r.size, .bool r.little, .ro (bytesR r.bytes), .ro (strsR r.names), .ro (intsR r.tags), .ro (intsR r.kids)]⟩]) (fun j => ∀ (k : Nat) x, k < j → d[k]? = some x → ¬ x.name = r.name) n 0 (Nat.zero_le _) (fun k x h => absurd h (by omega)) ⟨rfl, rfl, rfl, rfl, trivial⟩ rfl fun j hj hQ next => ?_
    by_cases hlt : j < n
    · obtain ⟨x, hxj⟩ : ∃ x, d[(j : Int).toNat]? = some x := ⟨_, List.getElem?_eq_getElem (by simp; omega)⟩
      have hx' : d[j]? = some x := hxj
      by_cases hq : x.name = r.name
      · repeat' (first
 | ((first | refine RunsL.pe hn rfl rfl rfl ?_ | refine RunsD.pe rfl rfl ?_); first
 | refine ⟨_, pu_eqlSame rfl (by rw [hq]; rfl), ?_⟩)
 | refine RunsL.step tabOk hn rfl ?_
 | refine RunsL.nil ?_
 | refine Runs.toRegion 30 rfl ?_
 | (refine Runs.ctls 30 rfl ?_; first | refine Runs.cond_t rfl ?_ | refine Runs.cond_f rfl ?_ | ((first | refine Runs.cond_yes rfl ?_ ?_ | refine Runs.cond_nno rfl ?_ ?_); · first | omega | rfl | assumption | (simp only [List.length_map]; omega)) | ((first | refine Runs.cond_no rfl ?_ ?_ | refine Runs.cond_nyes rfl ?_ ?_); · first | omega | rfl | assumption | (simp only [List.length_map]; omega)) | refine Runs.ret (ends_ro hm rfl rfl ?_) | exact Runs.ret (ends_cellR hm rfl rfl rfl (Nat.le_of_ble_eq_true rfl) rfl rfl))
 | refine op_box rfl (tl hn rfl) ?_
 | refine op_alloc (tl hn rfl) ?_
 | refine op_storeN rfl rfl rfl rfl (Nat.le_of_ble_eq_true rfl) ?_
 | refine RunsD.step tabOk hn rfl rfl ?_
 | refine RunsD.nil ?_
 | refine Runs.toDraw 30 mixed hn rfl (by kernel_rfl) rfl ?_
 | ((first | refine RunsL.pe hn rfl rfl rfl ?_ | refine RunsD.pe rfl rfl ?_); first
 | refine ⟨_, pu_add rfl rfl (by omega), ?_⟩
 | refine ⟨_, pu_indexAddr_map rfl rfl (by omega) (by assumption), ?_⟩
 | refine ⟨_, pu_sub rfl rfl (by omega), ?_⟩
 | refine ⟨_, pu_pick_b rfl rfl rfl, ?_⟩
 | refine ⟨_, pu_mul rfl rfl (by omega), ?_⟩
 | refine ⟨_, pu_build rfl rfl rfl rfl rfl rfl, ?_⟩)
 | ((first | refine RunsL.guard_dec rfl rfl rfl ?_ ?_ | refine RunsL.guard_ndec rfl rfl rfl ?_ ?_ | refine RunsL.guard_nb rfl rfl rfl ?_ ?_ | refine RunsL.guard_b rfl rfl rfl ?_ ?_ | refine RunsD.guard_dec rfl rfl rfl ?_ ?_ | refine RunsD.guard_ndec rfl rfl rfl ?_ ?_ | refine RunsD.guard_nb rfl rfl rfl ?_ ?_ | refine RunsD.guard_b rfl rfl rfl ?_ ?_) <;> intro h <;> try (exfalso; first | omega | contradiction | (simp only [List.length_map] at h; omega))))
        all_goals exact rr_bool (decide_eq_false (p := RuleAt d n) fun hN => (hiff.1 hN).1 j x hlt hx' hq).symm
      · repeat' (first
 | ((first | refine RunsL.pe hn rfl rfl rfl ?_ | refine RunsD.pe rfl rfl ?_); first
 | refine ⟨_, pu_eqlDiff rfl rfl (by assumption), ?_⟩)
 | refine RunsL.step tabOk hn rfl ?_
 | refine RunsL.nil ?_
 | refine Runs.toRegion 30 rfl ?_
 | (refine Runs.ctls 30 rfl ?_; first | refine Runs.cond_t rfl ?_ | refine Runs.cond_f rfl ?_ | ((first | refine Runs.cond_yes rfl ?_ ?_ | refine Runs.cond_nno rfl ?_ ?_); · first | omega | rfl | assumption | (simp only [List.length_map]; omega)) | ((first | refine Runs.cond_no rfl ?_ ?_ | refine Runs.cond_nyes rfl ?_ ?_); · first | omega | rfl | assumption | (simp only [List.length_map]; omega)) | refine Runs.ret (ends_ro hm rfl rfl ?_) | exact Runs.ret (ends_cellR hm rfl rfl rfl (Nat.le_of_ble_eq_true rfl) rfl rfl))
 | refine op_box rfl (tl hn rfl) ?_
 | refine op_alloc (tl hn rfl) ?_
 | refine op_storeN rfl rfl rfl rfl (Nat.le_of_ble_eq_true rfl) ?_
 | refine RunsD.step tabOk hn rfl rfl ?_
 | refine RunsD.nil ?_
 | refine Runs.toDraw 30 mixed hn rfl (by kernel_rfl) rfl ?_
 | ((first | refine RunsL.pe hn rfl rfl rfl ?_ | refine RunsD.pe rfl rfl ?_); first
 | refine ⟨_, pu_add rfl rfl (by omega), ?_⟩
 | refine ⟨_, pu_indexAddr_map rfl rfl (by omega) (by assumption), ?_⟩
 | refine ⟨_, pu_sub rfl rfl (by omega), ?_⟩
 | refine ⟨_, pu_pick_b rfl rfl rfl, ?_⟩
 | refine ⟨_, pu_mul rfl rfl (by omega), ?_⟩
 | refine ⟨_, pu_build rfl rfl rfl rfl rfl rfl, ?_⟩)
 | ((first | refine RunsL.guard_dec rfl rfl rfl ?_ ?_ | refine RunsL.guard_ndec rfl rfl rfl ?_ ?_ | refine RunsL.guard_nb rfl rfl rfl ?_ ?_ | refine RunsL.guard_b rfl rfl rfl ?_ ?_ | refine RunsD.guard_dec rfl rfl rfl ?_ ?_ | refine RunsD.guard_ndec rfl rfl rfl ?_ ?_ | refine RunsD.guard_nb rfl rfl rfl ?_ ?_ | refine RunsD.guard_b rfl rfl rfl ?_ ?_) <;> intro h <;> try (exfalso; first | omega | contradiction | (simp only [List.length_map] at h; omega))))
        refine next _ _ ⟨rfl, rfl, rfl, rfl, trivial⟩ hlt (fun k y hkj hy => ?_) rfl
        by_cases e : k = j
        · subst e; rw [hx'] at hy; injection hy with hy; subst hy; exact hq
        · exact hQ k y (by omega) hy
    · obtain rfl : j = n := by omega
      repeat' (first
 | refine RunsL.step tabOk hn rfl ?_
 | refine RunsL.nil ?_
 | refine Runs.toRegion 30 rfl ?_
 | (refine Runs.ctls 30 rfl ?_; first | refine Runs.cond_t rfl ?_ | refine Runs.cond_f rfl ?_ | ((first | refine Runs.cond_yes rfl ?_ ?_ | refine Runs.cond_nno rfl ?_ ?_); · first | omega | rfl | assumption | (simp only [List.length_map]; omega)) | ((first | refine Runs.cond_no rfl ?_ ?_ | refine Runs.cond_nyes rfl ?_ ?_); · first | omega | rfl | assumption | (simp only [List.length_map]; omega)) | refine Runs.ret (ends_ro hm rfl rfl ?_) | exact Runs.ret (ends_cellR hm rfl rfl rfl (Nat.le_of_ble_eq_true rfl) rfl rfl))
 | refine op_box rfl (tl hn rfl) ?_
 | refine op_alloc (tl hn rfl) ?_
 | refine op_storeN rfl rfl rfl rfl (Nat.le_of_ble_eq_true rfl) ?_
 | refine RunsD.step tabOk hn rfl rfl ?_
 | refine RunsD.nil ?_
 | refine Runs.toDraw 30 mixed hn rfl (by kernel_rfl) rfl ?_
 | ((first | refine RunsL.pe hn rfl rfl rfl ?_ | refine RunsD.pe rfl rfl ?_); first
 | refine ⟨_, pu_add rfl rfl (by omega), ?_⟩
 | refine ⟨_, pu_indexAddr_map rfl rfl (by omega) (by assumption), ?_⟩
 | refine ⟨_, pu_sub rfl rfl (by omega), ?_⟩
 | refine ⟨_, pu_pick_b rfl rfl rfl, ?_⟩
 | refine ⟨_, pu_mul rfl rfl (by omega), ?_⟩
 | refine ⟨_, pu_build rfl rfl rfl rfl rfl rfl, ?_⟩)
 | ((first | refine RunsL.guard_dec rfl rfl rfl ?_ ?_ | refine RunsL.guard_ndec rfl rfl rfl ?_ ?_ | refine RunsL.guard_nb rfl rfl rfl ?_ ?_ | refine RunsL.guard_b rfl rfl rfl ?_ ?_ | refine RunsD.guard_dec rfl rfl rfl ?_ ?_ | refine RunsD.guard_ndec rfl rfl rfl ?_ ?_ | refine RunsD.guard_nb rfl rfl rfl ?_ ?_ | refine RunsD.guard_b rfl rfl rfl ?_ ?_) <;> intro h <;> try (exfalso; first | omega | contradiction | (simp only [List.length_map] at h; omega))))
      refine Runs.loopN 30 rfl (fun m => [(2, .obj 0 0), (5, .obj 1 0), (1, .int (j : Int)), (7, .int (m : Int))]) (fun _ => [⟨35, 0, [.ro (rulsR d)]⟩, ⟨54, 0, [.str r.name, .int r.kind, .int r.size, .bool r.little, .ro (bytesR r.bytes), .ro (strsR r.names), .ro (intsR r.tags), .ro (intsR r.kids)]⟩]) (fun m => ∀ (k : Nat) z, k < m → r.kids[k]? = some z → 0 ≤ z ∧ z < j) r.kids.length 0 (Nat.zero_le _) (fun k x h => absurd h (by omega)) ⟨rfl, rfl, rfl, rfl, trivial⟩ rfl fun m hm' hP next2 => ?_
      by_cases hlt2 : m < r.kids.length
      · obtain ⟨z, hz⟩ : ∃ z, r.kids[(m : Int).toNat]? = some z := ⟨_, List.getElem?_eq_getElem hlt2⟩
        have hz' : r.kids[m]? = some z := hz
        by_cases hzr : 0 ≤ z ∧ z < (j : Int)
        · repeat' (first
 | refine RunsL.step tabOk hn rfl ?_
 | refine RunsL.nil ?_
 | refine Runs.toRegion 30 rfl ?_
 | ((first | refine RunsL.pe hn rfl rfl rfl ?_ | refine RunsD.pe rfl rfl ?_); first
 | refine ⟨_, pu_callR (l1In_ac _ _ _) rfl, ?_⟩)
 | (refine Runs.ctls 30 rfl ?_; first | refine Runs.cond_t rfl ?_ | refine Runs.cond_f rfl ?_ | ((first | refine Runs.cond_yes rfl ?_ ?_ | refine Runs.cond_nno rfl ?_ ?_); · first | omega | rfl | assumption | (simp only [List.length_map]; omega)) | ((first | refine Runs.cond_no rfl ?_ ?_ | refine Runs.cond_nyes rfl ?_ ?_); · first | omega | rfl | assumption | (simp only [List.length_map]; omega)) | refine Runs.ret (ends_ro hm rfl rfl ?_) | exact Runs.ret (ends_cellR hm rfl rfl rfl (Nat.le_of_ble_eq_true rfl) rfl rfl))
 | refine op_box rfl (tl hn rfl) ?_
 | refine op_alloc (tl hn rfl) ?_
 | refine op_storeN rfl rfl rfl rfl (Nat.le_of_ble_eq_true rfl) ?_
 | refine RunsD.step tabOk hn rfl rfl ?_
 | refine RunsD.nil ?_
 | refine Runs.toDraw 30 mixed hn rfl (by kernel_rfl) rfl ?_
 | ((first | refine RunsL.pe hn rfl rfl rfl ?_ | refine RunsD.pe rfl rfl ?_); first
 | refine ⟨_, pu_add rfl rfl (by omega), ?_⟩
 | refine ⟨_, pu_indexAddr_map rfl rfl (by omega) (by assumption), ?_⟩
 | refine ⟨_, pu_sub rfl rfl (by omega), ?_⟩
 | refine ⟨_, pu_pick_b rfl rfl rfl, ?_⟩
 | refine ⟨_, pu_mul rfl rfl (by omega), ?_⟩
 | refine ⟨_, pu_build rfl rfl rfl rfl rfl rfl, ?_⟩)
 | ((first | refine RunsL.guard_dec rfl rfl rfl ?_ ?_ | refine RunsL.guard_ndec rfl rfl rfl ?_ ?_ | refine RunsL.guard_nb rfl rfl rfl ?_ ?_ | refine RunsL.guard_b rfl rfl rfl ?_ ?_ | refine RunsD.guard_dec rfl rfl rfl ?_ ?_ | refine RunsD.guard_ndec rfl rfl rfl ?_ ?_ | refine RunsD.guard_nb rfl rfl rfl ?_ ?_ | refine RunsD.guard_b rfl rfl rfl ?_ ?_) <;> intro h <;> try (exfalso; first | omega | contradiction | (simp only [List.length_map] at h; omega))))
          refine next2 _ _ ⟨rfl, rfl, rfl, rfl, trivial⟩ hlt2 (fun k y hkm hy => ?_) rfl
          by_cases e : k = m
          · subst e; rw [hz'] at hy; injection hy with hy; subst hy; exact hzr
          · exact hP k y (by omega) hy
        · repeat' (first
 | refine RunsL.step tabOk hn rfl ?_
 | refine RunsL.nil ?_
 | refine Runs.toRegion 30 rfl ?_
 | ((first | refine RunsL.pe hn rfl rfl rfl ?_ | refine RunsD.pe rfl rfl ?_); first
 | refine ⟨_, pu_callR (l1In_ac _ _ _) rfl, ?_⟩)
 | (refine Runs.ctls 30 rfl ?_; first | refine Runs.cond_t rfl ?_ | refine Runs.cond_f rfl ?_ | ((first | refine Runs.cond_yes rfl ?_ ?_ | refine Runs.cond_nno rfl ?_ ?_); · first | omega | rfl | assumption | (simp only [List.length_map]; omega)) | ((first | refine Runs.cond_no rfl ?_ ?_ | refine Runs.cond_nyes rfl ?_ ?_); · first | omega | rfl | assumption | (simp only [List.length_map]; omega)) | refine Runs.ret (ends_ro hm rfl rfl ?_) | exact Runs.ret (ends_cellR hm rfl rfl rfl (Nat.le_of_ble_eq_true rfl) rfl rfl))
 | refine op_box rfl (tl hn rfl) ?_
 | refine op_alloc (tl hn rfl) ?_
 | refine op_storeN rfl rfl rfl rfl (Nat.le_of_ble_eq_true rfl) ?_
 | refine RunsD.step tabOk hn rfl rfl ?_
 | refine RunsD.nil ?_
 | refine Runs.toDraw 30 mixed hn rfl (by kernel_rfl) rfl ?_
 | ((first | refine RunsL.pe hn rfl rfl rfl ?_ | refine RunsD.pe rfl rfl ?_); first
 | refine ⟨_, pu_add rfl rfl (by omega), ?_⟩
 | refine ⟨_, pu_indexAddr_map rfl rfl (by omega) (by assumption), ?_⟩
 | refine ⟨_, pu_sub rfl rfl (by omega), ?_⟩
 | refine ⟨_, pu_pick_b rfl rfl rfl, ?_⟩
 | refine ⟨_, pu_mul rfl rfl (by omega), ?_⟩
 | refine ⟨_, pu_build rfl rfl rfl rfl rfl rfl, ?_⟩)
 | ((first | refine RunsL.guard_dec rfl rfl rfl ?_ ?_ | refine RunsL.guard_ndec rfl rfl rfl ?_ ?_ | refine RunsL.guard_nb rfl rfl rfl ?_ ?_ | refine RunsL.guard_b rfl rfl rfl ?_ ?_ | refine RunsD.guard_dec rfl rfl rfl ?_ ?_ | refine RunsD.guard_ndec rfl rfl rfl ?_ ?_ | refine RunsD.guard_nb rfl rfl rfl ?_ ?_ | refine RunsD.guard_b rfl rfl rfl ?_ ?_) <;> intro h <;> try (exfalso; first | omega | contradiction | (simp only [List.length_map] at h; omega))))
          all_goals exact rr_bool (decide_eq_false (p := RuleAt d j) fun hN => hzr ((hiff.1 hN).2.1 m z hz')).symm
      · by_cases hn1 : IsNm r.name
        · repeat' (first
 | refine RunsL.step tabOk hn rfl ?_
 | refine RunsL.nil ?_
 | refine Runs.toRegion 30 rfl ?_
 | ((first | refine RunsL.pe hn rfl rfl rfl ?_ | refine RunsD.pe rfl rfl ?_); first
 | refine ⟨_, pu_callR hnm rfl, ?_⟩
 | refine ⟨_, pu_callR hk rfl, ?_⟩)
 | (refine Runs.ctls 30 rfl ?_; first | refine Runs.cond_t rfl ?_ | refine Runs.cond_f rfl ?_ | ((first | refine Runs.cond_yes rfl ?_ ?_ | refine Runs.cond_nno rfl ?_ ?_); · first | omega | rfl | assumption | (simp only [List.length_map]; omega)) | ((first | refine Runs.cond_no rfl ?_ ?_ | refine Runs.cond_nyes rfl ?_ ?_); · first | omega | rfl | assumption | (simp only [List.length_map]; omega)) | refine Runs.ret (ends_ro hm rfl rfl ?_) | exact Runs.ret (ends_cellR hm rfl rfl rfl (Nat.le_of_ble_eq_true rfl) rfl rfl))
 | refine op_box rfl (tl hn rfl) ?_
 | refine op_alloc (tl hn rfl) ?_
 | refine op_storeN rfl rfl rfl rfl (Nat.le_of_ble_eq_true rfl) ?_
 | refine RunsD.step tabOk hn rfl rfl ?_
 | refine RunsD.nil ?_
 | refine Runs.toDraw 30 mixed hn rfl (by kernel_rfl) rfl ?_
 | ((first | refine RunsL.pe hn rfl rfl rfl ?_ | refine RunsD.pe rfl rfl ?_); first
 | refine ⟨_, pu_add rfl rfl (by omega), ?_⟩
 | refine ⟨_, pu_indexAddr_map rfl rfl (by omega) (by assumption), ?_⟩
 | refine ⟨_, pu_sub rfl rfl (by omega), ?_⟩
 | refine ⟨_, pu_pick_b rfl rfl rfl, ?_⟩
 | refine ⟨_, pu_mul rfl rfl (by omega), ?_⟩
 | refine ⟨_, pu_build rfl rfl rfl rfl rfl rfl, ?_⟩)
 | ((first | refine RunsL.guard_dec rfl rfl rfl ?_ ?_ | refine RunsL.guard_ndec rfl rfl rfl ?_ ?_ | refine RunsL.guard_nb rfl rfl rfl ?_ ?_ | refine RunsL.guard_b rfl rfl rfl ?_ ?_ | refine RunsD.guard_dec rfl rfl rfl ?_ ?_ | refine RunsD.guard_ndec rfl rfl rfl ?_ ?_ | refine RunsD.guard_nb rfl rfl rfl ?_ ?_ | refine RunsD.guard_b rfl rfl rfl ?_ ?_) <;> intro h <;> try (exfalso; first | omega | contradiction | (simp only [List.length_map] at h; omega))))
          exact rr_bool (decide_eq_decide.2 ⟨fun h => hiff.2 ⟨fun k x hk => hQ k x hk, fun k z hkz => hP k z (by have := (List.getElem?_eq_some_iff.1 hkz).1; omega) hkz, hn1, h⟩, fun h => (hiff.1 h).2.2.2⟩)
        · repeat' (first
 | refine RunsL.step tabOk hn rfl ?_
 | refine RunsL.nil ?_
 | refine Runs.toRegion 30 rfl ?_
 | ((first | refine RunsL.pe hn rfl rfl rfl ?_ | refine RunsD.pe rfl rfl ?_); first
 | refine ⟨_, pu_callR hnm rfl, ?_⟩
 | refine ⟨_, pu_callR hk rfl, ?_⟩)
 | (refine Runs.ctls 30 rfl ?_; first | refine Runs.cond_t rfl ?_ | refine Runs.cond_f rfl ?_ | ((first | refine Runs.cond_yes rfl ?_ ?_ | refine Runs.cond_nno rfl ?_ ?_); · first | omega | rfl | assumption | (simp only [List.length_map]; omega)) | ((first | refine Runs.cond_no rfl ?_ ?_ | refine Runs.cond_nyes rfl ?_ ?_); · first | omega | rfl | assumption | (simp only [List.length_map]; omega)) | refine Runs.ret (ends_ro hm rfl rfl ?_) | exact Runs.ret (ends_cellR hm rfl rfl rfl (Nat.le_of_ble_eq_true rfl) rfl rfl))
 | refine op_box rfl (tl hn rfl) ?_
 | refine op_alloc (tl hn rfl) ?_
 | refine op_storeN rfl rfl rfl rfl (Nat.le_of_ble_eq_true rfl) ?_
 | refine RunsD.step tabOk hn rfl rfl ?_
 | refine RunsD.nil ?_
 | refine Runs.toDraw 30 mixed hn rfl (by kernel_rfl) rfl ?_
 | ((first | refine RunsL.pe hn rfl rfl rfl ?_ | refine RunsD.pe rfl rfl ?_); first
 | refine ⟨_, pu_add rfl rfl (by omega), ?_⟩
 | refine ⟨_, pu_indexAddr_map rfl rfl (by omega) (by assumption), ?_⟩
 | refine ⟨_, pu_sub rfl rfl (by omega), ?_⟩
 | refine ⟨_, pu_pick_b rfl rfl rfl, ?_⟩
 | refine ⟨_, pu_mul rfl rfl (by omega), ?_⟩
 | refine ⟨_, pu_build rfl rfl rfl rfl rfl rfl, ?_⟩)
 | ((first | refine RunsL.guard_dec rfl rfl rfl ?_ ?_ | refine RunsL.guard_ndec rfl rfl rfl ?_ ?_ | refine RunsL.guard_nb rfl rfl rfl ?_ ?_ | refine RunsL.guard_b rfl rfl rfl ?_ ?_ | refine RunsD.guard_dec rfl rfl rfl ?_ ?_ | refine RunsD.guard_ndec rfl rfl rfl ?_ ?_ | refine RunsD.guard_nb rfl rfl rfl ?_ ?_ | refine RunsD.guard_b rfl rfl rfl ?_ ?_) <;> intro h <;> try (exfalso; first | omega | contradiction | (simp only [List.length_map] at h; omega))))
          all_goals exact rr_bool (decide_eq_false (p := RuleAt d j) fun hN => hn1 (hiff.1 hN).2.2.1).symm
  · have hno : ¬ RuleAt d i := fun ⟨h0, r, hr, _⟩ => hx ⟨h0, by have := (List.getElem?_eq_some_iff.1 hr).1; omega⟩
    refine ac_enter Tryz.func67 rfl _ Tryz.ntmps67 (by simp) fun C hn hm => ?_
    repeat' (first
 | refine RunsL.step tabOk hn rfl ?_
 | refine RunsL.nil ?_
 | refine Runs.toRegion 30 rfl ?_
 | ((first | refine RunsL.pe hn rfl rfl rfl ?_ | refine RunsD.pe rfl rfl ?_); first
 | refine ⟨_, pu_callR (l1In_ac _ _ _) rfl, ?_⟩)
 | (refine Runs.ctls 30 rfl ?_; first | refine Runs.cond_t rfl ?_ | refine Runs.cond_f rfl ?_ | ((first | refine Runs.cond_yes rfl ?_ ?_ | refine Runs.cond_nno rfl ?_ ?_); · first | omega | rfl | assumption | (simp only [List.length_map]; omega)) | ((first | refine Runs.cond_no rfl ?_ ?_ | refine Runs.cond_nyes rfl ?_ ?_); · first | omega | rfl | assumption | (simp only [List.length_map]; omega)) | refine Runs.ret (ends_ro hm rfl rfl ?_) | exact Runs.ret (ends_cellR hm rfl rfl rfl (Nat.le_of_ble_eq_true rfl) rfl rfl))
 | refine op_box rfl (tl hn rfl) ?_
 | refine op_alloc (tl hn rfl) ?_
 | refine op_storeN rfl rfl rfl rfl (Nat.le_of_ble_eq_true rfl) ?_
 | refine RunsD.step tabOk hn rfl rfl ?_
 | refine RunsD.nil ?_
 | refine Runs.toDraw 30 mixed hn rfl (by kernel_rfl) rfl ?_
 | ((first | refine RunsL.pe hn rfl rfl rfl ?_ | refine RunsD.pe rfl rfl ?_); first
 | refine ⟨_, pu_add rfl rfl (by omega), ?_⟩
 | refine ⟨_, pu_indexAddr_map rfl rfl (by omega) (by assumption), ?_⟩
 | refine ⟨_, pu_sub rfl rfl (by omega), ?_⟩
 | refine ⟨_, pu_pick_b rfl rfl rfl, ?_⟩
 | refine ⟨_, pu_mul rfl rfl (by omega), ?_⟩
 | refine ⟨_, pu_build rfl rfl rfl rfl rfl rfl, ?_⟩)
 | ((first | refine RunsL.guard_dec rfl rfl rfl ?_ ?_ | refine RunsL.guard_ndec rfl rfl rfl ?_ ?_ | refine RunsL.guard_nb rfl rfl rfl ?_ ?_ | refine RunsL.guard_b rfl rfl rfl ?_ ?_ | refine RunsD.guard_dec rfl rfl rfl ?_ ?_ | refine RunsD.guard_ndec rfl rfl rfl ?_ ?_ | refine RunsD.guard_nb rfl rfl rfl ?_ ?_ | refine RunsD.guard_b rfl rfl rfl ?_ ?_) <;> intro h <;> try (exfalso; first | omega | contradiction | (simp only [List.length_map] at h; omega))))
    all_goals exact rr_bool (decide_eq_false hno).symm
def Good' (d : Des) : Prop := 1 ≤ d.length ∧ d.length ≤ 24 ∧ ∀ j : Nat, j < d.length → RuleAt d j
noncomputable instance (d : Des) : Decidable (Good' d) := Classical.propDecidable _
theorem spec_IsValidDescription (d : Des) (ho : DesOk d) (hd : dtotal d ≤ 1048576) : ACv Tryz.prog 56 [desR d] (.bool (decide (Good' d))) := by
  have hlm : (d.map rulR).length = d.length := List.length_map ..
  have et : dtotal d = d.length + (d.map Rul.total).sum := rfl
  refine ac_enter Tryz.func56 rfl _ Tryz.ntmps56 (by simp) fun C hn hm => ?_
  repeat' (first
 | refine RunsL.step tabOk hn rfl ?_
 | refine RunsL.nil ?_
 | refine Runs.toRegion 30 rfl ?_
 | (refine Runs.ctls 30 rfl ?_; first | ((first | refine Runs.cond_yes rfl ?_ ?_ | refine Runs.cond_nno rfl ?_ ?_); · first | omega | rfl | assumption | (simp only [List.length_map]; omega)) | ((first | refine Runs.cond_no rfl ?_ ?_ | refine Runs.cond_nyes rfl ?_ ?_); · first | omega | rfl | assumption | (simp only [List.length_map]; omega)) | refine Runs.ret (ends_ro hm rfl rfl ?_) | exact Runs.ret (ends_cellR hm rfl rfl rfl (Nat.le_of_ble_eq_true rfl) rfl rfl))
 | refine op_box rfl (tl hn rfl) ?_
 | (refine RunsL.pe hn rfl rfl rfl ?_; first
 | refine ⟨_, pu_add rfl rfl (by omega), ?_⟩
      ))
  refine Runs.loopN 30 rfl (fun j => [(1, .obj 0 0), (3, .int (j : Int))]) (fun _ => [⟨35, 0, [.ro (rulsR d)]⟩]) (fun j => ∀ k : Nat, k < j → RuleAt d k) d.length 0 (Nat.zero_le _) (fun k h => absurd h (by omega)) ⟨rfl, rfl, trivial⟩ rfl fun j hj hQ next => ?_
  by_cases hlt : j < d.length
  · have hr := spec_IsValidRule d ho hd j (by unfold I64; omega)
    by_cases hq : RuleAt d j
    · repeat' (first
 | refine RunsL.step tabOk hn rfl ?_
 | refine RunsL.nil ?_
 | refine Runs.toRegion 30 rfl ?_
 | (refine RunsL.pe hn rfl rfl rfl ?_; first
 | refine ⟨_, pu_callR hr rfl, ?_⟩)
 | (refine Runs.ctls 30 rfl ?_; first | ((first | refine Runs.cond_yes rfl ?_ ?_ | refine Runs.cond_nno rfl ?_ ?_); · first | omega | rfl | assumption | (simp only [List.length_map]; omega)) | ((first | refine Runs.cond_no rfl ?_ ?_ | refine Runs.cond_nyes rfl ?_ ?_); · first | omega | rfl | assumption | (simp only [List.length_map]; omega)) | refine Runs.ret (ends_ro hm rfl rfl ?_) | exact Runs.ret (ends_cellR hm rfl rfl rfl (Nat.le_of_ble_eq_true rfl) rfl rfl))
 | refine op_box rfl (tl hn rfl) ?_
 | (refine RunsL.pe hn rfl rfl rfl ?_; first
 | refine ⟨_, pu_add rfl rfl (by omega), ?_⟩
        ))
      refine next _ _ ⟨rfl, rfl, trivial⟩ hlt (fun k hk => ?_) rfl
      by_cases e : k = j
      · subst e; exact hq
      · exact hQ k (by omega)
    · repeat' (first
 | refine RunsL.step tabOk hn rfl ?_
 | refine RunsL.nil ?_
 | refine Runs.toRegion 30 rfl ?_
 | (refine RunsL.pe hn rfl rfl rfl ?_; first
 | refine ⟨_, pu_callR hr rfl, ?_⟩)
 | (refine Runs.ctls 30 rfl ?_; first | ((first | refine Runs.cond_yes rfl ?_ ?_ | refine Runs.cond_nno rfl ?_ ?_); · first | omega | rfl | assumption | (simp only [List.length_map]; omega)) | ((first | refine Runs.cond_no rfl ?_ ?_ | refine Runs.cond_nyes rfl ?_ ?_); · first | omega | rfl | assumption | (simp only [List.length_map]; omega)) | refine Runs.ret (ends_ro hm rfl rfl ?_) | exact Runs.ret (ends_cellR hm rfl rfl rfl (Nat.le_of_ble_eq_true rfl) rfl rfl))
 | refine op_box rfl (tl hn rfl) ?_
 | (refine RunsL.pe hn rfl rfl rfl ?_; first
 | refine ⟨_, pu_add rfl rfl (by omega), ?_⟩
        ))
      all_goals exact rr_bool (decide_eq_false (p := Good' d) fun hN => hq (hN.2.2 j hlt)).symm
  · repeat' (first
 | refine RunsL.step tabOk hn rfl ?_
 | refine RunsL.nil ?_
 | refine Runs.toRegion 30 rfl ?_
 | (refine RunsL.pe hn rfl rfl rfl ?_; first
 | refine ⟨_, pu_callR (l1In_ac _ _ _) rfl, ?_⟩)
 | (refine Runs.ctls 30 rfl ?_; first | ((first | refine Runs.cond_yes rfl ?_ ?_ | refine Runs.cond_nno rfl ?_ ?_); · first | omega | rfl | assumption | (simp only [List.length_map]; omega)) | ((first | refine Runs.cond_no rfl ?_ ?_ | refine Runs.cond_nyes rfl ?_ ?_); · first | omega | rfl | assumption | (simp only [List.length_map]; omega)) | refine Runs.ret (ends_ro hm rfl rfl ?_) | exact Runs.ret (ends_cellR hm rfl rfl rfl (Nat.le_of_ble_eq_true rfl) rfl rfl))
 | refine op_box rfl (tl hn rfl) ?_
 | (refine RunsL.pe hn rfl rfl rfl ?_; first
 | refine ⟨_, pu_add rfl rfl (by omega), ?_⟩
      ))
    exact rr_bool (decide_eq_decide.2 ⟨fun h => ⟨by omega, by omega, fun k hk => hQ k (by omega)⟩, fun h => ⟨by have := h.1; omega, by have := h.2.1; omega⟩⟩)
end Go.Proofs.YtkmoffefhlmgeaaGreatDoor
/- Choices: the program's side. -/
namespace Go.Proofs.YtkmoffefhlmgeaaGreatDoor
set_option linter.unusedSimpArgs false
set_option linter.unusedVariables false
set_option linter.unusedSectionVars false
set_option maxRecDepth 100000
open Go.RowKit
theorem lim_ge (d : Des) (i : Int) : lim d i = -1 ∨ 255 ≤ lim d i := by
  unfold lim
  split
  · rename_i r _
    split
    · have := pow8_le (s := r.size); omega
    · exact .inl rfl
  · exact .inl rfl
def ChoiceOk (d : Des) (r : Rul) : Prop := Plain r false false false true ((r.tags.length : Int) + 1) ∧ TagsOk d r
noncomputable instance (d : Des) (r : Rul) : Decidable (ChoiceOk d r) := Classical.propDecidable _
set_option maxHeartbeats 4000000 in
theorem validChoice_ac (d : Des) (r : Rul) (hl : d.length ≤ maxLen) (ht : r.tags.length ≤ 1048576) : ACv Tryz.prog 93 [desR d, .agg (rulR r)] (.bool (decide (ChoiceOk d r))) := by
  have hlm : (r.tags.map fun z => [RV.int z]).length = r.tags.length := List.length_map ..
  have hpl := plainRule3_ac r ((r.tags.length : Int) + 1)
  refine ac_enter Tryz.func93 rfl _ Tryz.ntmps93 (by simp) fun C hn hm => ?_
  by_cases hP : Plain r false false false true ((r.tags.length : Int) + 1)
  · by_cases h8 : InR r.tags.length 1 8
    · have hkl : r.kids.length = r.tags.length + 1 := by have := hP.2.2.2.2; omega
      have hk0 := head_at (l := r.kids) (by omega)
      have hlim := impl_IntegerLimit d (r.kids.headD 0) hl
      have hge := lim_ge d (r.kids.headD 0)
      repeat' (first
 | refine RunsL.step tabOk hn rfl ?_
 | refine RunsL.nil ?_
 | refine Runs.toRegion 30 rfl ?_
 | ((first | refine RunsL.pe hn rfl rfl rfl ?_ | refine RunsD.pe rfl rfl ?_); first
 | refine ⟨_, pu_add rfl rfl (by simp only [List.length_map]; omega), ?_⟩
 | refine ⟨_, pu_callR hpl (by simp [ev, look, rulR]), ?_⟩
 | refine ⟨_, pu_callR (inRange_ac _ _ _) rfl, ?_⟩
 | refine ⟨_, pu_callR hlim rfl, ?_⟩)
 | (refine Runs.ctls 30 rfl ?_; first | refine Runs.cond_t rfl ?_ | refine Runs.cond_f rfl ?_ | ((first | refine Runs.cond_yes rfl ?_ ?_ | refine Runs.cond_nno rfl ?_ ?_); · first | omega | rfl | assumption | (simp only [List.length_map]; omega)) | ((first | refine Runs.cond_no rfl ?_ ?_ | refine Runs.cond_nyes rfl ?_ ?_); · first | omega | rfl | assumption | (simp only [List.length_map]; omega)) | refine Runs.cond_dec rfl (fun h => ?_) (fun h => ?_) | refine Runs.ret (ends_ro hm rfl rfl ?_) | exact Runs.ret (ends_cellR hm rfl rfl rfl (Nat.le_of_ble_eq_true rfl) rfl rfl))
 | refine op_box rfl (tl hn rfl) ?_
 | refine RunsD.step tabOk hn rfl rfl ?_
 | refine RunsD.nil ?_
 | refine Runs.toDraw 30 mixed hn rfl (by kernel_rfl) rfl ?_
 | ((first | refine RunsL.pe hn rfl rfl rfl ?_ | refine RunsD.pe rfl rfl ?_); first
 | refine ⟨_, pu_add rfl rfl (by omega), ?_⟩
 | refine ⟨_, pu_indexAddr_map rfl rfl (by omega) (by assumption), ?_⟩
 | refine ⟨_, pu_sub rfl rfl (by omega), ?_⟩
 | refine ⟨_, pu_pick_b rfl rfl rfl, ?_⟩
 | refine ⟨_, pu_mul rfl rfl (by omega), ?_⟩
 | refine ⟨_, pu_build rfl rfl rfl rfl rfl rfl, ?_⟩)
 | ((first | refine RunsL.guard_dec rfl rfl rfl ?_ ?_ | refine RunsL.guard_ndec rfl rfl rfl ?_ ?_ | refine RunsL.guard_nb rfl rfl rfl ?_ ?_ | refine RunsL.guard_b rfl rfl rfl ?_ ?_ | refine RunsD.guard_dec rfl rfl rfl ?_ ?_ | refine RunsD.guard_ndec rfl rfl rfl ?_ ?_ | refine RunsD.guard_nb rfl rfl rfl ?_ ?_ | refine RunsD.guard_b rfl rfl rfl ?_ ?_) <;> intro h <;> try (exfalso; first | omega | contradiction | (simp only [List.length_map] at h; omega))))
      refine Runs.loopD 30 rfl (fun j => [(29, .ro (intsR r.tags)), (30, .int (r.tags.length : Int)), (3, .obj 1 0), (5, .int (lim d (r.kids.headD 0))), (31, .int (j : Int))]) (fun _ => [⟨35, 0, [.ro (rulsR d)]⟩, ⟨54, 0, [.str r.name, .int r.kind, .int r.size, .bool r.little, .ro (bytesR r.bytes), .ro (strsR r.names), .ro (intsR r.tags), .ro (intsR r.kids)]⟩]) (fun j => ⟨by simp [Free, AV.only], by simp [FreeO, AV.onlys, AV.only]⟩) (fun j => ∀ (i : Nat) z, i < j → r.tags[i]? = some z → 0 ≤ z ∧ z ≤ lim d (r.kids.headD 0) ∧ ∀ y, 0 < i → r.tags[i - 1]? = some y → y < z) r.tags.length 0 (Nat.zero_le _) (fun i x h => absurd h (by omega)) ⟨rfl, by simp [look], rfl, rfl, rfl, trivial⟩ rfl fun j hj hQ next => ?_
      by_cases hlt : j < r.tags.length
      · obtain ⟨x, hx⟩ : ∃ x, r.tags[(j : Int).toNat]? = some x := ⟨_, List.getElem?_eq_getElem hlt⟩
        have hx' : r.tags[j]? = some x := hx
        obtain ⟨y, hy⟩ : ∃ y, r.tags[((j : Int) - 1).toNat]? = some y := ⟨_, List.getElem?_eq_getElem (by omega)⟩
        have hy' : 0 < j → r.tags[j - 1]? = some y := fun h => by rw [← hy]; congr 1; omega
        repeat' (first
 | refine RunsL.step tabOk hn rfl ?_
 | refine RunsL.nil ?_
 | refine Runs.toRegion 30 rfl ?_
 | ((first | refine RunsL.pe hn rfl rfl rfl ?_ | refine RunsD.pe rfl rfl ?_); first
 | refine ⟨_, pu_callR (inRange_ac _ _ _) rfl, ?_⟩)
 | (refine Runs.ctls 30 rfl ?_; first | refine Runs.cond_t rfl ?_ | refine Runs.cond_f rfl ?_ | ((first | refine Runs.cond_yes rfl ?_ ?_ | refine Runs.cond_nno rfl ?_ ?_); · first | omega | rfl | assumption | (simp only [List.length_map]; omega)) | ((first | refine Runs.cond_no rfl ?_ ?_ | refine Runs.cond_nyes rfl ?_ ?_); · first | omega | rfl | assumption | (simp only [List.length_map]; omega)) | refine Runs.cond_dec rfl (fun h => ?_) (fun h => ?_) | refine Runs.ret (ends_ro hm rfl rfl ?_) | exact Runs.ret (ends_cellR hm rfl rfl rfl (Nat.le_of_ble_eq_true rfl) rfl rfl))
 | refine op_box rfl (tl hn rfl) ?_
 | refine RunsD.step tabOk hn rfl rfl ?_
 | refine RunsD.nil ?_
 | refine Runs.toDraw 30 mixed hn rfl (by kernel_rfl) rfl ?_
 | ((first | refine RunsL.pe hn rfl rfl rfl ?_ | refine RunsD.pe rfl rfl ?_); first
 | refine ⟨_, pu_add rfl rfl (by omega), ?_⟩
 | refine ⟨_, pu_indexAddr_map rfl rfl (by omega) (by assumption), ?_⟩
 | refine ⟨_, pu_sub rfl rfl (by omega), ?_⟩
 | refine ⟨_, pu_pick_b rfl rfl rfl, ?_⟩
 | refine ⟨_, pu_mul rfl rfl (by omega), ?_⟩
 | refine ⟨_, pu_build rfl rfl rfl rfl rfl rfl, ?_⟩)
 | ((first | refine RunsL.guard_dec rfl rfl rfl ?_ ?_ | refine RunsL.guard_ndec rfl rfl rfl ?_ ?_ | refine RunsL.guard_nb rfl rfl rfl ?_ ?_ | refine RunsL.guard_b rfl rfl rfl ?_ ?_ | refine RunsD.guard_dec rfl rfl rfl ?_ ?_ | refine RunsD.guard_ndec rfl rfl rfl ?_ ?_ | refine RunsD.guard_nb rfl rfl rfl ?_ ?_ | refine RunsD.guard_b rfl rfl rfl ?_ ?_) <;> intro h <;> try (exfalso; first | omega | contradiction | (simp only [List.length_map] at h; omega))))
        all_goals first
          | exact rr_bool (decide_eq_false (p := ChoiceOk d r) fun hN => by
              obtain ⟨n1, n2, n3⟩ := hN.2.2.2.2 j x hx'
              first | omega | (have := n3 y (by omega) (hy' (by omega)); omega)).symm
          | (refine next _ _ [] ⟨rfl, rfl, rfl, rfl, rfl, trivial⟩ hlt (fun i z hi hz => ?_) rfl
             by_cases e : i = j
             · subst e; rw [hx'] at hz; injection hz with hz; subst hz
               refine ⟨by omega, by omega, fun u hu hu' => ?_⟩
               rw [hy' hu] at hu'; injection hu' with hu'; subst hu'; omega
             · exact hQ i z (by omega) hz)
      · repeat' (first
 | refine RunsL.step tabOk hn rfl ?_
 | refine RunsL.nil ?_
 | refine Runs.toRegion 30 rfl ?_
 | (refine Runs.ctls 30 rfl ?_; first | refine Runs.cond_t rfl ?_ | refine Runs.cond_f rfl ?_ | ((first | refine Runs.cond_yes rfl ?_ ?_ | refine Runs.cond_nno rfl ?_ ?_); · first | omega | rfl | assumption | (simp only [List.length_map]; omega)) | ((first | refine Runs.cond_no rfl ?_ ?_ | refine Runs.cond_nyes rfl ?_ ?_); · first | omega | rfl | assumption | (simp only [List.length_map]; omega)) | refine Runs.cond_dec rfl (fun h => ?_) (fun h => ?_) | refine Runs.ret (ends_ro hm rfl rfl ?_) | exact Runs.ret (ends_cellR hm rfl rfl rfl (Nat.le_of_ble_eq_true rfl) rfl rfl))
 | refine op_box rfl (tl hn rfl) ?_
 | refine RunsD.step tabOk hn rfl rfl ?_
 | refine RunsD.nil ?_
 | refine Runs.toDraw 30 mixed hn rfl (by kernel_rfl) rfl ?_
 | ((first | refine RunsL.pe hn rfl rfl rfl ?_ | refine RunsD.pe rfl rfl ?_); first
 | refine ⟨_, pu_add rfl rfl (by omega), ?_⟩
 | refine ⟨_, pu_indexAddr_map rfl rfl (by omega) (by assumption), ?_⟩
 | refine ⟨_, pu_sub rfl rfl (by omega), ?_⟩
 | refine ⟨_, pu_pick_b rfl rfl rfl, ?_⟩
 | refine ⟨_, pu_mul rfl rfl (by omega), ?_⟩
 | refine ⟨_, pu_build rfl rfl rfl rfl rfl rfl, ?_⟩)
 | ((first | refine RunsL.guard_dec rfl rfl rfl ?_ ?_ | refine RunsL.guard_ndec rfl rfl rfl ?_ ?_ | refine RunsL.guard_nb rfl rfl rfl ?_ ?_ | refine RunsL.guard_b rfl rfl rfl ?_ ?_ | refine RunsD.guard_dec rfl rfl rfl ?_ ?_ | refine RunsD.guard_ndec rfl rfl rfl ?_ ?_ | refine RunsD.guard_nb rfl rfl rfl ?_ ?_ | refine RunsD.guard_b rfl rfl rfl ?_ ?_) <;> intro h <;> try (exfalso; first | omega | contradiction | (simp only [List.length_map] at h; omega))))
        obtain ⟨z0, hz0⟩ : ∃ z, r.tags[0]? = some z := ⟨_, List.getElem?_eq_getElem (by omega)⟩
        have hz := hQ 0 z0 (by omega) hz0
        exact rr_bool (by rw [decide_eq_true (p := ChoiceOk d r) ⟨hP, hkl, by omega, by omega, fun i z hz => hQ i z (by have := (List.getElem?_eq_some_iff.1 hz).1; omega) hz⟩]; exact decide_eq_true (by omega))
    · repeat' (first
 | refine RunsL.step tabOk hn rfl ?_
 | refine RunsL.nil ?_
 | refine Runs.toRegion 30 rfl ?_
 | ((first | refine RunsL.pe hn rfl rfl rfl ?_ | refine RunsD.pe rfl rfl ?_); first
 | refine ⟨_, pu_add rfl rfl (by simp only [List.length_map]; omega), ?_⟩
 | refine ⟨_, pu_callR hpl (by simp [ev, look, rulR]), ?_⟩
 | refine ⟨_, pu_callR (inRange_ac _ _ _) rfl, ?_⟩)
 | (refine Runs.ctls 30 rfl ?_; first | refine Runs.cond_t rfl ?_ | refine Runs.cond_f rfl ?_ | ((first | refine Runs.cond_yes rfl ?_ ?_ | refine Runs.cond_nno rfl ?_ ?_); · first | omega | rfl | assumption | (simp only [List.length_map]; omega)) | ((first | refine Runs.cond_no rfl ?_ ?_ | refine Runs.cond_nyes rfl ?_ ?_); · first | omega | rfl | assumption | (simp only [List.length_map]; omega)) | refine Runs.cond_dec rfl (fun h => ?_) (fun h => ?_) | refine Runs.ret (ends_ro hm rfl rfl ?_) | exact Runs.ret (ends_cellR hm rfl rfl rfl (Nat.le_of_ble_eq_true rfl) rfl rfl))
 | refine op_box rfl (tl hn rfl) ?_
 | refine RunsD.step tabOk hn rfl rfl ?_
 | refine RunsD.nil ?_
 | refine Runs.toDraw 30 mixed hn rfl (by kernel_rfl) rfl ?_
 | ((first | refine RunsL.pe hn rfl rfl rfl ?_ | refine RunsD.pe rfl rfl ?_); first
 | refine ⟨_, pu_add rfl rfl (by omega), ?_⟩
 | refine ⟨_, pu_indexAddr_map rfl rfl (by omega) (by assumption), ?_⟩
 | refine ⟨_, pu_sub rfl rfl (by omega), ?_⟩
 | refine ⟨_, pu_pick_b rfl rfl rfl, ?_⟩
 | refine ⟨_, pu_mul rfl rfl (by omega), ?_⟩
 | refine ⟨_, pu_build rfl rfl rfl rfl rfl rfl, ?_⟩)
 | ((first | refine RunsL.guard_dec rfl rfl rfl ?_ ?_ | refine RunsL.guard_ndec rfl rfl rfl ?_ ?_ | refine RunsL.guard_nb rfl rfl rfl ?_ ?_ | refine RunsL.guard_b rfl rfl rfl ?_ ?_ | refine RunsD.guard_dec rfl rfl rfl ?_ ?_ | refine RunsD.guard_ndec rfl rfl rfl ?_ ?_ | refine RunsD.guard_nb rfl rfl rfl ?_ ?_ | refine RunsD.guard_b rfl rfl rfl ?_ ?_) <;> intro h <;> try (exfalso; first | omega | contradiction | (simp only [List.length_map] at h; omega))))
      all_goals exact rr_bool (decide_eq_false (p := ChoiceOk d r) fun hN => h8 ⟨by have := hN.2.2.1; omega, by have := hN.2.2.2.1; omega⟩).symm
  · repeat' (first
 | refine RunsL.step tabOk hn rfl ?_
 | refine RunsL.nil ?_
 | refine Runs.toRegion 30 rfl ?_
 | ((first | refine RunsL.pe hn rfl rfl rfl ?_ | refine RunsD.pe rfl rfl ?_); first
 | refine ⟨_, pu_add rfl rfl (by simp only [List.length_map]; omega), ?_⟩
 | refine ⟨_, pu_callR hpl (by simp [ev, look, rulR]), ?_⟩
 | refine ⟨_, pu_callR (inRange_ac _ _ _) rfl, ?_⟩)
 | (refine Runs.ctls 30 rfl ?_; first | refine Runs.cond_t rfl ?_ | refine Runs.cond_f rfl ?_ | ((first | refine Runs.cond_yes rfl ?_ ?_ | refine Runs.cond_nno rfl ?_ ?_); · first | omega | rfl | assumption | (simp only [List.length_map]; omega)) | ((first | refine Runs.cond_no rfl ?_ ?_ | refine Runs.cond_nyes rfl ?_ ?_); · first | omega | rfl | assumption | (simp only [List.length_map]; omega)) | refine Runs.cond_dec rfl (fun h => ?_) (fun h => ?_) | refine Runs.ret (ends_ro hm rfl rfl ?_) | exact Runs.ret (ends_cellR hm rfl rfl rfl (Nat.le_of_ble_eq_true rfl) rfl rfl))
 | refine op_box rfl (tl hn rfl) ?_
 | refine RunsD.step tabOk hn rfl rfl ?_
 | refine RunsD.nil ?_
 | refine Runs.toDraw 30 mixed hn rfl (by kernel_rfl) rfl ?_
 | ((first | refine RunsL.pe hn rfl rfl rfl ?_ | refine RunsD.pe rfl rfl ?_); first
 | refine ⟨_, pu_add rfl rfl (by omega), ?_⟩
 | refine ⟨_, pu_indexAddr_map rfl rfl (by omega) (by assumption), ?_⟩
 | refine ⟨_, pu_sub rfl rfl (by omega), ?_⟩
 | refine ⟨_, pu_pick_b rfl rfl rfl, ?_⟩
 | refine ⟨_, pu_mul rfl rfl (by omega), ?_⟩
 | refine ⟨_, pu_build rfl rfl rfl rfl rfl rfl, ?_⟩)
 | ((first | refine RunsL.guard_dec rfl rfl rfl ?_ ?_ | refine RunsL.guard_ndec rfl rfl rfl ?_ ?_ | refine RunsL.guard_nb rfl rfl rfl ?_ ?_ | refine RunsL.guard_b rfl rfl rfl ?_ ?_ | refine RunsD.guard_dec rfl rfl rfl ?_ ?_ | refine RunsD.guard_ndec rfl rfl rfl ?_ ?_ | refine RunsD.guard_nb rfl rfl rfl ?_ ?_ | refine RunsD.guard_b rfl rfl rfl ?_ ?_) <;> intro h <;> try (exfalso; first | omega | contradiction | (simp only [List.length_map] at h; omega))))
    all_goals exact rr_bool (decide_eq_false (p := ChoiceOk d r) fun hN => hP hN.1).symm
end Go.Proofs.YtkmoffefhlmgeaaGreatDoor
/- The context of a walk may change under way: rebasing; loops over changing contexts; iteration over a string. Over any program. -/
namespace Go.Proofs.YtkmoffefhlmgeaaGreatDoor
set_option linter.unusedSimpArgs false
set_option linter.unusedVariables false
set_option linter.unusedSectionVars false
set_option maxRecDepth 100000
open Go.RowKit
open AV (Mem Keeps)
section
variable {P : Program} {k : List Item} {R : Act → World → Prop}
def mine (φ : Nat → Option Nat) (n : Nat) (b : Nat) : Prop := ∃ i, i < n ∧ φ i = some b
theorem Runs.loopV {c : Code} (I : Nat → Ctx → St → Prop)
    (h : ∀ n C S, I n C S → (∀ m, m < n → ∀ C' S', I m C' S' → Runs P C' (.inLoop c :: k) R S') → Runs P C (.code c :: .inLoop c :: k) R S) (n : Nat) (C : Ctx) (S : St) (h0 : I n C S) : Runs P C (.code (.loop c) :: k) R S := by
  have key : ∀ n C S, I n C S → Runs P C (.code c :: .inLoop c :: k) R S := by
    intro n
    induction n using Nat.strongRecOn with
    | _ n ih => exact fun C S hS => h n C S hS fun m hm C' S' hS' => ⟨fun a w hs => ((ih m hm C' S' hS').run a w hs).step fun _ _ => step_inLoop⟩
  exact ⟨fun a w hs => ((key n C S h0).run a w hs).step fun _ _ => step_loop⟩
def cst : AV → Bool
  | .ro (.c _) | .junk => true
  | .ro (.tup vs) => vs.all fun r => match r with | .c _ => true | _ => false
  | _ => false
def CEnv : Env → Prop
  | [] => True
  | (_, v) :: e => cst v = true ∧ CEnv e
theorem rels_cst {w w' : World} {ok ok' : Nat → Prop} : ∀ (vs : List RV) (us : List Value), (vs.all fun r => match r with | .c _ => true | _ => false) = true → RV.rels w ok vs us → RV.rels w' ok' vs us
  | [], us, _, h => by simpa [RV.rels] using h
  | r :: vs, us, hc, h => by
    rw [List.all_cons, Bool.and_eq_true] at hc
    simp only [RV.rels] at h ⊢
    obtain ⟨u, us', e, h1, h2⟩ := h
    refine ⟨u, us', e, ?_, rels_cst vs us' hc.2 h2⟩
    cases r <;> simp at hc
    simpa only [RV.rel] using h1
theorem cst_rel {m m' : Mem} {v : AV} {u : Value} (hc : cst v = true) (h : AV.rel m v u) : AV.rel m' v u := by
  cases v with
  | ro r =>
    cases r <;> simp only [cst, Bool.false_eq_true] at hc <;> simp only [AV.rel, RV.rel] at h ⊢
    · exact h
    · obtain ⟨us, e, h1⟩ := h
      exact ⟨us, e, rels_cst _ _ hc h1⟩
  | junk => simp [AV.rel]
  | _ => simp [cst] at hc
theorem CEnv.look {env : Env} (h : CEnv env) (t : Nat) : cst (look env t) = true := by
  induction env with
  | nil => rfl
  | cons p e ih =>
    obtain ⟨s, v⟩ := p
    simp only [CEnv] at h
    rw [look_put]
    split
    · exact h.1
    · exact ih h.2
theorem CEnv.holds {m m' : Mem} {env : Env} {a : Act} (h : CEnv env) (hH : Holds m env a) : Holds m' env a := fun t => cst_rel (h.look t) (hH t)
theorem decode_high (s : ByteArray) (i : Nat) (h : i < s.size) (hc : 128 ≤ (s[i]'h).toNat) : 128 ≤ (Utf8.decode s i).1 := by
  have e : s.get! (i + 0) = s[i]'h := by
    show s.get! i = _
    simp [ByteArray.get!, getElem!_pos, h]
    rfl
  unfold Utf8.decode
  simp only [e]
  rw [if_neg (by omega)]
  split
  · split
    · assumption
    · decide
  · split
    · split
      · rename_i h1; simp only [Bool.and_eq_true, decide_eq_true_eq] at h1; simp only; omega
      · decide
    · split
      · split
        · rename_i h1; simp only [Bool.and_eq_true, decide_eq_true_eq] at h1; simp only; omega
        · decide
      · decide
section
variable {C : Ctx} {ops : Array Oper} {rest : List Oper} {env : Env} {t : Nat} {ty : TypeId} {pos : String} {after : Array Edge} {x : Operand} {s : ByteArray}
theorem op_rangeS {tt : TypeId} [hs : TS P tt] (hx : ev env x = .str s) (ht : t < C.n) (hce : CEnv env) (hm : ∀ b, ¬ C.mu b)
    (hk : ∀ (C' : Ctx) (g : Nat), C'.n = C.n → (∀ b, ¬ C'.mu b) → C'.w0.heap[g]? = some (.stringIter s 0) → C.w0.heap.size ≤ g → Below C.w0.heap.size C.w0 C'.w0 → RunsL P C' ops rest k R ⟨(t, .ro (.c (.pointer (some ⟨g, 0, none⟩)))) :: env, []⟩) :
    RunsL P C ops (⟨some t, .range tt x, ty, pos, after, none⟩ :: rest) k R ⟨env, []⟩ := by
  refine ⟨fun a w hsim => ?_⟩
  obtain ⟨h1, h2, φ, hG, hH⟩ := hsim
  have hxx := ev_c (ev_rel hH x) hx
  refine wpList_plain rfl fun K hK' => ?_
  unfold Oper.wp
  have hrun : (execOp a.eval ⟨some t, .range tt x, ty, pos, after, none⟩).run P w = .ok (.value (.pointer (some ⟨w.heap.size, 0, none⟩))) (w.iter s 0) := by
    simp [execOp, hxx, run_range_string w tt s hs.h]
  rw [hrun]
  simp only [Oper.upon]
  have hb : Below w.heap.size w (w.iter s 0) := below_one w _
  have hb0 : Below C.w0.heap.size C.w0 (w.iter s 0) := (hG.frm.below0 hm).trans (hb.mono hG.frm.size)
  refine hK' _ _ ((hk ⟨w.iter s 0, C.ok, fun _ => False, C.n⟩ w.heap.size rfl (fun _ h => h) (World.iter_heap w s 0) hG.frm.size hb0).run _ _ ?_)
  refine ⟨h1, by simp [Act.put, h2], φ, ⟨rfl, fun i j g hi => by simp at hi, fun i o hi => by simp at hi, fun i g hi => by simp at hi, ⟨rfl, rfl, rfl, Nat.le_refl _, fun _ _ _ => rfl, fun b hbb => hG.frm.new b (Nat.le_trans hG.frm.size (Nat.le_trans hb.size hbb))⟩⟩, ?_⟩
  exact (hce.holds hH).put (by rw [h2]; exact ht) (by simp [AV.rel, RV.rel])
theorem iter_world {w w' : World} {g : Nat} {o : Obj} (hg : w.heap[g]? = some o) (o' : Obj) (hw : w' = { w with heap := w.heap.setIfInBounds g o' }) : Below g w w' ∧ w'.heap[g]? = some o' ∧ w'.heap.size = w.heap.size := by
  subst hw
  have hlt : g < w.heap.size := (Array.getElem?_eq_some_iff.1 hg).1
  refine ⟨⟨rfl, rfl, rfl, by simp, fun b hb => ?_⟩, ?_, by simp⟩
  · show (w.heap.setIfInBounds g o')[b]? = _
    rw [Array.getElem?_setIfInBounds_ne (by omega)]
  · show (w.heap.setIfInBounds g o')[g]? = _
    rw [Array.getElem?_setIfInBounds_self_of_lt hlt]
theorem op_nextS {g p : Nat} (hx : ev env x = .ro (.c (.pointer (some ⟨g, 0, none⟩)))) (hg : C.w0.heap[g]? = some (.stringIter s p)) (hp : p < s.size) (ht : t < C.n) (hce : CEnv env) (hm : ∀ b, ¬ C.mu b)
    (hk : ∀ (C' : Ctx), C'.n = C.n → (∀ b, ¬ C'.mu b) → C'.w0.heap[g]? = some (.stringIter s (p + (Utf8.decode s p).2)) → Below g C.w0 C'.w0 → RunsL P C' ops rest k R ⟨(t, .ro (.tup [.bool true, .int (p : Int), .c (.int .i32 ((Utf8.decode s p).1 : Int))])) :: env, []⟩) :
    RunsL P C ops (⟨some t, .next x true, ty, pos, after, none⟩ :: rest) k R ⟨env, []⟩ := by
  refine ⟨fun a w hsim => ?_⟩
  obtain ⟨h1, h2, φ, hG, hH⟩ := hsim
  have hxx := ev_c (ev_rel hH x) hx
  have hlt : g < C.w0.heap.size := (Array.getElem?_eq_some_iff.1 hg).1
  have hb0 := hG.frm.below0 hm
  have hgw : w.heap[g]? = some (.stringIter s p) := (hb0.block g hlt).trans hg
  refine wpList_plain rfl fun K hK' => ?_
  unfold Oper.wp
  obtain ⟨k1, k2, k3⟩ := iter_world hgw (.stringIter s (p + (Utf8.decode s p).2)) rfl
  have hrun : (execOp a.eval ⟨some t, .next x true, ty, pos, after, none⟩).run P w = .ok (.value (.tuple #[.bool true, .int .i64 p, .int .i32 ((Utf8.decode s p).1 : Int)])) { w with heap := w.heap.setIfInBounds g (.stringIter s (p + (Utf8.decode s p).2)) } := by
    simp [execOp, hxx, Instr.next, getObj, setObj, Sem.run, Result.andThen, hgw, hp, goInt]
  rw [hrun]
  simp only [Oper.upon]
  have hb1 : Below g C.w0 { w with heap := w.heap.setIfInBounds g (.stringIter s (p + (Utf8.decode s p).2)) } := (hb0.mono (Nat.le_of_lt hlt)).trans k1
  refine hK' _ _ ((hk ⟨_, C.ok, fun _ => False, C.n⟩ rfl (fun _ h => h) k2 hb1).run _ _ ?_)
  refine ⟨h1, by simp [Act.put, h2], φ, ⟨rfl, fun i j g hi => by simp at hi, fun i o hi => by simp at hi, fun i g hi => by simp at hi, ⟨rfl, rfl, rfl, Nat.le_refl _, fun _ _ _ => rfl, fun b hbb => hG.frm.new b (Nat.le_trans hb1.size hbb)⟩⟩, ?_⟩
  exact (hce.holds hH).put (by rw [h2]; exact ht) (by simp [AV.rel, RV.rel, RV.rels])
theorem op_nextEnd {g p : Nat} (hx : ev env x = .ro (.c (.pointer (some ⟨g, 0, none⟩)))) (hg : C.w0.heap[g]? = some (.stringIter s p)) (hp : ¬ p < s.size) (ht : t < C.n) (hm : ∀ b, ¬ C.mu b)
    (hk : RunsL P C ops rest k R ⟨(t, .ro (.tup [.bool false])) :: env, []⟩) :
    RunsL P C ops (⟨some t, .next x true, ty, pos, after, none⟩ :: rest) k R ⟨env, []⟩ := by
  refine ⟨fun a w hsim => ?_⟩
  obtain ⟨h1, h2, φ, hG, hH⟩ := hsim
  have hxx := ev_c (ev_rel hH x) hx
  have hlt : g < C.w0.heap.size := (Array.getElem?_eq_some_iff.1 hg).1
  have hgw : w.heap[g]? = some (.stringIter s p) := ((hG.frm.below0 hm).block g hlt).trans hg
  refine wpList_plain rfl fun K hK' => ?_
  unfold Oper.wp
  have hrun : (execOp a.eval ⟨some t, .next x true, ty, pos, after, none⟩).run P w = .ok (.value (.tuple #[.bool false])) w := by
    simp [execOp, hxx, Instr.next, getObj, Sem.run, Result.andThen, hgw, hp]
  rw [hrun]
  simp only [Oper.upon]
  exact hK' _ _ (hk.run _ _ ⟨h1, by simp [Act.put, h2], φ, hG, hH.put (by rw [h2]; exact ht) (by simp [AV.rel, RV.rel, RV.rels])⟩)
end
theorem endsB {C C' : Ctx} {fn : Func} {R0 : RR → Prop} {S : St} {t : Nat} {v : Value} (hB : Below C.w0.heap.size C.w0 C'.w0) (hm : ∀ b, ¬ C'.mu b) (hr : fn.results = #[.tmp t]) (hx : look S.env t = .ro (.c v)) (hR : R0 (.ro (.c v))) : ∀ a w, Sim C' S a w → Ends P C fn R0 a w := by
  intro a w hs
  obtain ⟨h1, v', h2, rr, bs, rfl, h4, h5, h6, h7⟩ := ends_ro (R := fun r => r = .ro (.c v)) hm hr hx rfl a w hs
  simp only [RR.rel, RV.rel] at h4
  obtain ⟨rfl, rfl⟩ := h4
  exact ⟨h1, v', h2, .ro (.c v'), [], hR, by simp [RR.rel, RV.rel], by simp, by simp, hB.trans (h7.mono hB.size)⟩
end
end Go.Proofs.YtkmoffefhlmgeaaGreatDoor
/- Names, sequences, kinds, rules and descriptions that are valid: the program's side. -/
namespace Go.Proofs.YtkmoffefhlmgeaaGreatDoor
set_option linter.unusedSimpArgs false
set_option linter.unusedVariables false
set_option linter.unusedSectionVars false
set_option maxRecDepth 100000
open Go.RowKit
theorem below_down {n : Nat} {a b c : World} {g : Nat} (h : Below n a b) (hg : n ≤ g) (k : Below g b c) : Below n a c := h.trans (k.mono hg)
set_option maxHeartbeats 4000000 in
theorem impl_IsName (s : ByteArray) (hs : s.size ≤ maxLen) : ACv Tryz.prog 81 [.str s] (.bool (decide (IsNm s))) := by
  unfold maxLen at hs
  refine ac_enter Tryz.func81 rfl _ Tryz.ntmps81 (by simp) fun C hn hm => ?_
  by_cases hsz : 1 ≤ s.size ∧ s.size ≤ 12
  · repeat' (first
 | refine RunsL.step tabOk hn rfl ?_
 | refine RunsL.nil ?_
 | refine Runs.toRegion 30 rfl ?_
 | (refine Runs.ctls 30 rfl ?_; first | refine Runs.cond_t rfl ?_ | refine Runs.cond_f rfl ?_ | ((first | refine Runs.cond_yes rfl ?_ ?_ | refine Runs.cond_nno rfl ?_ ?_); · first | omega | rfl | assumption | (simp only [List.length_map]; omega)) | ((first | refine Runs.cond_no rfl ?_ ?_ | refine Runs.cond_nyes rfl ?_ ?_); · first | omega | rfl | assumption | (simp only [List.length_map]; omega)) | refine Runs.cond_dec rfl (fun h => ?_) (fun h => ?_) | refine Runs.ret (ends_ro hm rfl rfl ?_) | exact Runs.ret (ends_cellR hm rfl rfl rfl (Nat.le_of_ble_eq_true rfl) rfl rfl))
 | ((first | refine RunsL.guard_dec rfl rfl rfl ?_ ?_ | refine RunsL.guard_ndec rfl rfl rfl ?_ ?_ | refine RunsL.guard_nb rfl rfl rfl ?_ ?_ | refine RunsL.guard_b rfl rfl rfl ?_ ?_) <;> intro h <;> try (exfalso; first | omega | contradiction | (simp only [List.length_map] at h; omega))))
    refine op_rangeS rfl (Nat.lt_of_lt_of_eq (Nat.le_of_ble_eq_true rfl) hn.symm) (by simp [CEnv, cst, startEnv]) hm fun C1 g hn1 hm1 hg hgt hB => RunsL.nil ?_
    refine Runs.ctls 30 rfl (Runs.keep [(16, .ro (.c (.pointer (some ⟨g, 0, none⟩))))] ⟨rfl, trivial⟩ ?_)
    refine Runs.loopV (fun n C' S => ∃ j, j + n = s.size ∧ C'.n = 43 ∧ (∀ b, ¬ C'.mu b) ∧ C'.w0.heap[g]? = some (.stringIter s j) ∧ Below C.w0.heap.size C.w0 C'.w0 ∧ S = ⟨[(16, .ro (.c (.pointer (some ⟨g, 0, none⟩))))], []⟩ ∧ ∀ (i : Nat) c, i < j → s[i]? = some c → NameC c i) ?_ s.size C1 _ ⟨0, by omega, hn1.trans hn, hm1, hg, hB, rfl, fun i c h => absurd h (by omega)⟩
    rintro n C2 S ⟨j, hj, hn, hm, hg, hB, rfl, hQ⟩ ih
    by_cases hlt : j < s.size
    · obtain ⟨x, hx⟩ : ∃ x, s[j]? = some x := ⟨_, getElem?_pos s j hlt⟩
      have hxe : s[j]'hlt = x := by rw [getElem?_pos s j hlt] at hx; injection hx
      obtain ⟨c, wd, hdec⟩ : ∃ c wd, Utf8.decode s j = (c, wd) := ⟨_, _, rfl⟩
      have h1 : x.toNat < 128 → c = x.toNat ∧ wd = 1 := fun h => by
        have := decode_ascii s j hlt (by rw [hxe]; exact h)
        rw [hdec, hxe] at this; injection this with e1 e2; exact ⟨e1, e2⟩
      have h2 : 128 ≤ x.toNat → 128 ≤ c := fun h => by
        have := decode_high s j hlt (by rw [hxe]; exact h)
        rwa [hdec] at this
      refine Runs.toRegion 30 rfl (op_nextS rfl hg hlt (Nat.lt_of_lt_of_eq (Nat.le_of_ble_eq_true rfl) hn.symm) (by simp [CEnv, cst]) hm fun C3 hn3 hm3 hg3 hB3 => ?_)
      simp only [hdec] at hg3 ⊢
      have hn := hn3.trans hn
      have hB' := below_down hB hgt hB3
      repeat' (first
 | refine RunsL.step tabOk hn rfl ?_
 | refine RunsL.nil ?_
 | refine Runs.toRegion 30 rfl ?_
 | refine Runs.ctls 30 rfl (Runs.ret (endsB hB' hm3 rfl rfl ?_))
 | (refine Runs.ctls 30 rfl ?_; first | refine Runs.cond_t rfl ?_ | refine Runs.cond_f rfl ?_ | ((first | refine Runs.cond_yes rfl ?_ ?_ | refine Runs.cond_nno rfl ?_ ?_); · first | omega | rfl | assumption | (simp only [List.length_map]; omega)) | ((first | refine Runs.cond_no rfl ?_ ?_ | refine Runs.cond_nyes rfl ?_ ?_); · first | omega | rfl | assumption | (simp only [List.length_map]; omega)) | refine Runs.cond_dec rfl (fun h => ?_) (fun h => ?_) | refine Runs.ret (ends_ro hm rfl rfl ?_) | exact Runs.ret (ends_cellR hm rfl rfl rfl (Nat.le_of_ble_eq_true rfl) rfl rfl))
 | ((first | refine RunsL.guard_dec rfl rfl rfl ?_ ?_ | refine RunsL.guard_ndec rfl rfl rfl ?_ ?_ | refine RunsL.guard_nb rfl rfl rfl ?_ ?_ | refine RunsL.guard_b rfl rfl rfl ?_ ?_) <;> intro h <;> try (exfalso; first | omega | contradiction | (simp only [List.length_map] at h; omega))))
      all_goals first
        | exact rr_bool (decide_eq_false (p := IsNm s) fun hN => by have := hN.2.2 j x hx; unfold NameC at this; omega).symm
        | (obtain ⟨e1, e2⟩ := h1 (by omega)
           refine Runs.ctls 30 rfl (Runs.keep [(16, .ro (.c (.pointer (some ⟨g, 0, none⟩))))] ⟨rfl, trivial⟩ (ih (n - 1) (by omega) C3 _ ⟨j + 1, by omega, hn, hm3, by rw [hg3, e2], hB', rfl, fun i c' hi hc => ?_⟩))
           by_cases e : i = j
           · subst e; rw [hx] at hc; injection hc with hc; subst hc; unfold NameC; omega
           · exact hQ i c' (by omega) hc)
    · refine Runs.toRegion 30 rfl (op_nextEnd rfl hg hlt (Nat.lt_of_lt_of_eq (Nat.le_of_ble_eq_true rfl) hn.symm) hm ?_)
      repeat' (first
 | refine RunsL.step tabOk hn rfl ?_
 | refine RunsL.nil ?_
 | refine Runs.toRegion 30 rfl ?_
 | refine Runs.ctls 30 rfl (Runs.ret (endsB hB hm rfl rfl ?_))
 | (refine Runs.ctls 30 rfl ?_; first | refine Runs.cond_t rfl ?_ | refine Runs.cond_f rfl ?_ | ((first | refine Runs.cond_yes rfl ?_ ?_ | refine Runs.cond_nno rfl ?_ ?_); · first | omega | rfl | assumption | (simp only [List.length_map]; omega)) | ((first | refine Runs.cond_no rfl ?_ ?_ | refine Runs.cond_nyes rfl ?_ ?_); · first | omega | rfl | assumption | (simp only [List.length_map]; omega)) | refine Runs.cond_dec rfl (fun h => ?_) (fun h => ?_) | refine Runs.ret (ends_ro hm rfl rfl ?_) | exact Runs.ret (ends_cellR hm rfl rfl rfl (Nat.le_of_ble_eq_true rfl) rfl rfl))
 | ((first | refine RunsL.guard_dec rfl rfl rfl ?_ ?_ | refine RunsL.guard_ndec rfl rfl rfl ?_ ?_ | refine RunsL.guard_nb rfl rfl rfl ?_ ?_ | refine RunsL.guard_b rfl rfl rfl ?_ ?_) <;> intro h <;> try (exfalso; first | omega | contradiction | (simp only [List.length_map] at h; omega))))
      exact rr_bool (decide_eq_true (p := IsNm s) ⟨hsz.1, hsz.2, fun i c hc => hQ i c (by have := str_lt hc; omega) hc⟩).symm
  · repeat' (first
 | refine RunsL.step tabOk hn rfl ?_
 | refine RunsL.nil ?_
 | refine Runs.toRegion 30 rfl ?_
 | (refine Runs.ctls 30 rfl ?_; first | refine Runs.cond_t rfl ?_ | refine Runs.cond_f rfl ?_ | ((first | refine Runs.cond_yes rfl ?_ ?_ | refine Runs.cond_nno rfl ?_ ?_); · first | omega | rfl | assumption | (simp only [List.length_map]; omega)) | ((first | refine Runs.cond_no rfl ?_ ?_ | refine Runs.cond_nyes rfl ?_ ?_); · first | omega | rfl | assumption | (simp only [List.length_map]; omega)) | refine Runs.cond_dec rfl (fun h => ?_) (fun h => ?_) | refine Runs.ret (ends_ro hm rfl rfl ?_) | exact Runs.ret (ends_cellR hm rfl rfl rfl (Nat.le_of_ble_eq_true rfl) rfl rfl))
 | ((first | refine RunsL.guard_dec rfl rfl rfl ?_ ?_ | refine RunsL.guard_ndec rfl rfl rfl ?_ ?_ | refine RunsL.guard_nb rfl rfl rfl ?_ ?_ | refine RunsL.guard_b rfl rfl rfl ?_ ?_) <;> intro h <;> try (exfalso; first | omega | contradiction | (simp only [List.length_map] at h; omega))))
    all_goals exact rr_bool (decide_eq_false (p := IsNm s) fun hN => hsz ⟨hN.1, hN.2.1⟩).symm
def SeqOk (r : Rul) : Prop := Plain r false false true false (-1) ∧ r.kids.length = r.names.length ∧ NamesOk r.names
noncomputable instance (r : Rul) : Decidable (SeqOk r) := Classical.propDecidable _
set_option maxHeartbeats 4000000 in
theorem validSequence_ac (r : Rul) (hl : r.names.length ≤ maxLen) (ho : ∀ s ∈ r.names, s.size ≤ maxLen) : ACv Tryz.prog 92 [.agg (rulR r)] (.bool (decide (SeqOk r))) := by
  have hlm : (r.names.map fun z => [RV.str z]).length = r.names.length := List.length_map ..
  have hpl := plainRule2_ac r (-1)
  unfold maxLen at hl
  refine ac_enter Tryz.func92 rfl _ Tryz.ntmps92 (by simp) fun C hn hm => ?_
  by_cases hP : Plain r false false true false (-1)
  · by_cases h0 : r.kids.length = r.names.length ∧ 1 ≤ r.names.length ∧ r.names.length ≤ 8
    · repeat' (first
 | refine RunsL.step tabOk hn rfl ?_
 | refine RunsL.nil ?_
 | refine Runs.toRegion 30 rfl ?_
 | (refine RunsL.pe hn rfl rfl rfl ?_; first
 | refine ⟨_, pu_callR hpl (by simp [ev, look, rulR]), ?_⟩
 | refine ⟨_, pu_callR (inRange_ac _ _ _) rfl, ?_⟩)
 | (refine Runs.ctls 30 rfl ?_; first | refine Runs.cond_t rfl ?_ | ((first | refine Runs.cond_yes rfl ?_ ?_ | refine Runs.cond_nno rfl ?_ ?_); · first | omega | rfl | assumption | (simp only [List.length_map]; omega)) | ((first | refine Runs.cond_no rfl ?_ ?_ | refine Runs.cond_nyes rfl ?_ ?_); · first | omega | rfl | assumption | (simp only [List.length_map]; omega)) | refine Runs.cond_ndec rfl (fun h => ?_) (fun h => ?_) | refine Runs.ret (ends_ro hm rfl rfl ?_) | exact Runs.ret (ends_cellR hm rfl rfl rfl (Nat.le_of_ble_eq_true rfl) rfl rfl))
 | refine op_box rfl (tl hn rfl) ?_
 | (refine RunsL.pe hn rfl rfl rfl ?_; first
 | refine ⟨_, pu_add rfl rfl (by omega), ?_⟩
 | refine ⟨_, pu_indexAddr_map rfl rfl (by omega) (by assumption), ?_⟩
        )
 | ((first | refine RunsL.guard_dec rfl rfl rfl ?_ ?_ | refine RunsL.guard_ndec rfl rfl rfl ?_ ?_ | refine RunsL.guard_nb rfl rfl rfl ?_ ?_ | refine RunsL.guard_b rfl rfl rfl ?_ ?_) <;> intro h <;> try (exfalso; first | omega | contradiction | (simp only [List.length_map] at h; omega))))
      refine Runs.loopN 30 rfl (fun j => [(25, .ro (strsR r.names)), (26, .int (r.names.length : Int)), (1, .obj 0 0), (27, .int (j : Int))]) (fun _ => [⟨54, 0, [.str r.name, .int r.kind, .int r.size, .bool r.little, .ro (bytesR r.bytes), .ro (strsR r.names), .ro (intsR r.tags), .ro (intsR r.kids)]⟩]) (fun j => ∀ (i : Nat) x, i < j → r.names[i]? = some x → IsNm x ∧ x ∉ r.names.take i) r.names.length 0 (Nat.zero_le _) (fun i x h => absurd h (by omega)) ⟨rfl, by simp [look], rfl, rfl, trivial⟩ rfl fun j hj hQ next => ?_
      by_cases hlt : j < r.names.length
      · obtain ⟨x, hx⟩ : ∃ x, r.names[(j : Int).toNat]? = some x := ⟨_, List.getElem?_eq_getElem hlt⟩
        have hx' : r.names[j]? = some x := hx
        have hnm := impl_IsName x (ho x (List.mem_of_getElem? hx'))
        have hc := impl_ContainsText (r.names.take j) x (by rw [List.length_take]; unfold maxLen; omega)
        by_cases h1 : IsNm x
        · by_cases h2 : x ∈ r.names.take j
          · repeat' (first
 | refine RunsL.step tabOk hn rfl ?_
 | refine RunsL.nil ?_
 | refine Runs.toRegion 30 rfl ?_
 | (refine RunsL.pe hn rfl rfl rfl ?_; first
 | refine ⟨_, pu_callR hnm rfl, ?_⟩
 | refine ⟨_, pu_callR hc rfl, ?_⟩
 | refine ⟨_, pu_slice_hM rfl rfl (by omega) (by omega), ?_⟩)
 | (refine Runs.ctls 30 rfl ?_; first | refine Runs.cond_t rfl ?_ | ((first | refine Runs.cond_yes rfl ?_ ?_ | refine Runs.cond_nno rfl ?_ ?_); · first | omega | rfl | assumption | (simp only [List.length_map]; omega)) | ((first | refine Runs.cond_no rfl ?_ ?_ | refine Runs.cond_nyes rfl ?_ ?_); · first | omega | rfl | assumption | (simp only [List.length_map]; omega)) | refine Runs.cond_ndec rfl (fun h => ?_) (fun h => ?_) | refine Runs.ret (ends_ro hm rfl rfl ?_) | exact Runs.ret (ends_cellR hm rfl rfl rfl (Nat.le_of_ble_eq_true rfl) rfl rfl))
 | refine op_box rfl (tl hn rfl) ?_
 | (refine RunsL.pe hn rfl rfl rfl ?_; first
 | refine ⟨_, pu_add rfl rfl (by omega), ?_⟩
 | refine ⟨_, pu_indexAddr_map rfl rfl (by omega) (by assumption), ?_⟩
              )
 | ((first | refine RunsL.guard_dec rfl rfl rfl ?_ ?_ | refine RunsL.guard_ndec rfl rfl rfl ?_ ?_ | refine RunsL.guard_nb rfl rfl rfl ?_ ?_ | refine RunsL.guard_b rfl rfl rfl ?_ ?_) <;> intro h <;> try (exfalso; first | omega | contradiction | (simp only [List.length_map] at h; omega))))
            exact rr_bool (decide_eq_false (p := SeqOk r) fun hN => (hN.2.2.2.2 j x hx').2 h2).symm
          · repeat' (first
 | refine RunsL.step tabOk hn rfl ?_
 | refine RunsL.nil ?_
 | refine Runs.toRegion 30 rfl ?_
 | (refine RunsL.pe hn rfl rfl rfl ?_; first
 | refine ⟨_, pu_callR hnm rfl, ?_⟩
 | refine ⟨_, pu_callR hc rfl, ?_⟩
 | refine ⟨_, pu_slice_hM rfl rfl (by omega) (by omega), ?_⟩)
 | (refine Runs.ctls 30 rfl ?_; first | refine Runs.cond_t rfl ?_ | ((first | refine Runs.cond_yes rfl ?_ ?_ | refine Runs.cond_nno rfl ?_ ?_); · first | omega | rfl | assumption | (simp only [List.length_map]; omega)) | ((first | refine Runs.cond_no rfl ?_ ?_ | refine Runs.cond_nyes rfl ?_ ?_); · first | omega | rfl | assumption | (simp only [List.length_map]; omega)) | refine Runs.cond_ndec rfl (fun h => ?_) (fun h => ?_) | refine Runs.ret (ends_ro hm rfl rfl ?_) | exact Runs.ret (ends_cellR hm rfl rfl rfl (Nat.le_of_ble_eq_true rfl) rfl rfl))
 | refine op_box rfl (tl hn rfl) ?_
 | (refine RunsL.pe hn rfl rfl rfl ?_; first
 | refine ⟨_, pu_add rfl rfl (by omega), ?_⟩
 | refine ⟨_, pu_indexAddr_map rfl rfl (by omega) (by assumption), ?_⟩
              )
 | ((first | refine RunsL.guard_dec rfl rfl rfl ?_ ?_ | refine RunsL.guard_ndec rfl rfl rfl ?_ ?_ | refine RunsL.guard_nb rfl rfl rfl ?_ ?_ | refine RunsL.guard_b rfl rfl rfl ?_ ?_) <;> intro h <;> try (exfalso; first | omega | contradiction | (simp only [List.length_map] at h; omega))))
            refine next _ _ ⟨rfl, rfl, rfl, rfl, trivial⟩ hlt (fun i y hi hy => ?_) rfl
            by_cases e : i = j
            · subst e; rw [hx'] at hy; injection hy with hy; subst hy; exact ⟨h1, h2⟩
            · exact hQ i y (by omega) hy
        · repeat' (first
 | refine RunsL.step tabOk hn rfl ?_
 | refine RunsL.nil ?_
 | refine Runs.toRegion 30 rfl ?_
 | (refine RunsL.pe hn rfl rfl rfl ?_; first
 | refine ⟨_, pu_callR hnm rfl, ?_⟩
 | refine ⟨_, pu_callR hc rfl, ?_⟩
 | refine ⟨_, pu_slice_hM rfl rfl (by omega) (by omega), ?_⟩)
 | (refine Runs.ctls 30 rfl ?_; first | refine Runs.cond_t rfl ?_ | ((first | refine Runs.cond_yes rfl ?_ ?_ | refine Runs.cond_nno rfl ?_ ?_); · first | omega | rfl | assumption | (simp only [List.length_map]; omega)) | ((first | refine Runs.cond_no rfl ?_ ?_ | refine Runs.cond_nyes rfl ?_ ?_); · first | omega | rfl | assumption | (simp only [List.length_map]; omega)) | refine Runs.cond_ndec rfl (fun h => ?_) (fun h => ?_) | refine Runs.ret (ends_ro hm rfl rfl ?_) | exact Runs.ret (ends_cellR hm rfl rfl rfl (Nat.le_of_ble_eq_true rfl) rfl rfl))
 | refine op_box rfl (tl hn rfl) ?_
 | (refine RunsL.pe hn rfl rfl rfl ?_; first
 | refine ⟨_, pu_add rfl rfl (by omega), ?_⟩
 | refine ⟨_, pu_indexAddr_map rfl rfl (by omega) (by assumption), ?_⟩
            )
 | ((first | refine RunsL.guard_dec rfl rfl rfl ?_ ?_ | refine RunsL.guard_ndec rfl rfl rfl ?_ ?_ | refine RunsL.guard_nb rfl rfl rfl ?_ ?_ | refine RunsL.guard_b rfl rfl rfl ?_ ?_) <;> intro h <;> try (exfalso; first | omega | contradiction | (simp only [List.length_map] at h; omega))))
          exact rr_bool (decide_eq_false (p := SeqOk r) fun hN => h1 (hN.2.2.2.2 j x hx').1).symm
      · repeat' (first
 | refine RunsL.step tabOk hn rfl ?_
 | refine RunsL.nil ?_
 | refine Runs.toRegion 30 rfl ?_
 | (refine Runs.ctls 30 rfl ?_; first | refine Runs.cond_t rfl ?_ | ((first | refine Runs.cond_yes rfl ?_ ?_ | refine Runs.cond_nno rfl ?_ ?_); · first | omega | rfl | assumption | (simp only [List.length_map]; omega)) | ((first | refine Runs.cond_no rfl ?_ ?_ | refine Runs.cond_nyes rfl ?_ ?_); · first | omega | rfl | assumption | (simp only [List.length_map]; omega)) | refine Runs.cond_ndec rfl (fun h => ?_) (fun h => ?_) | refine Runs.ret (ends_ro hm rfl rfl ?_) | exact Runs.ret (ends_cellR hm rfl rfl rfl (Nat.le_of_ble_eq_true rfl) rfl rfl))
 | refine op_box rfl (tl hn rfl) ?_
 | (refine RunsL.pe hn rfl rfl rfl ?_; first
 | refine ⟨_, pu_add rfl rfl (by omega), ?_⟩
 | refine ⟨_, pu_indexAddr_map rfl rfl (by omega) (by assumption), ?_⟩
          )
 | ((first | refine RunsL.guard_dec rfl rfl rfl ?_ ?_ | refine RunsL.guard_ndec rfl rfl rfl ?_ ?_ | refine RunsL.guard_nb rfl rfl rfl ?_ ?_ | refine RunsL.guard_b rfl rfl rfl ?_ ?_) <;> intro h <;> try (exfalso; first | omega | contradiction | (simp only [List.length_map] at h; omega))))
        exact rr_bool (decide_eq_true (p := SeqOk r) ⟨hP, h0.1, h0.2.1, h0.2.2, fun i x hx => hQ i x (by have := (List.getElem?_eq_some_iff.1 hx).1; omega) hx⟩).symm
    · repeat' (first
 | refine RunsL.step tabOk hn rfl ?_
 | refine RunsL.nil ?_
 | refine Runs.toRegion 30 rfl ?_
 | (refine RunsL.pe hn rfl rfl rfl ?_; first
 | refine ⟨_, pu_callR hpl (by simp [ev, look, rulR]), ?_⟩
 | refine ⟨_, pu_callR (inRange_ac _ _ _) rfl, ?_⟩)
 | (refine Runs.ctls 30 rfl ?_; first | refine Runs.cond_t rfl ?_ | ((first | refine Runs.cond_yes rfl ?_ ?_ | refine Runs.cond_nno rfl ?_ ?_); · first | omega | rfl | assumption | (simp only [List.length_map]; omega)) | ((first | refine Runs.cond_no rfl ?_ ?_ | refine Runs.cond_nyes rfl ?_ ?_); · first | omega | rfl | assumption | (simp only [List.length_map]; omega)) | refine Runs.cond_ndec rfl (fun h => ?_) (fun h => ?_) | refine Runs.ret (ends_ro hm rfl rfl ?_) | exact Runs.ret (ends_cellR hm rfl rfl rfl (Nat.le_of_ble_eq_true rfl) rfl rfl))
 | refine op_box rfl (tl hn rfl) ?_
 | (refine RunsL.pe hn rfl rfl rfl ?_; first
 | refine ⟨_, pu_add rfl rfl (by omega), ?_⟩
 | refine ⟨_, pu_indexAddr_map rfl rfl (by omega) (by assumption), ?_⟩
        )
 | ((first | refine RunsL.guard_dec rfl rfl rfl ?_ ?_ | refine RunsL.guard_ndec rfl rfl rfl ?_ ?_ | refine RunsL.guard_nb rfl rfl rfl ?_ ?_ | refine RunsL.guard_b rfl rfl rfl ?_ ?_) <;> intro h <;> try (exfalso; first | omega | contradiction | (simp only [List.length_map] at h; omega))))
      all_goals first
        | exact rr_bool (decide_eq_false (p := SeqOk r) fun hN => h0 ⟨hN.2.1, hN.2.2.1, hN.2.2.2.1⟩).symm
        | (exfalso; simp only [List.length_map] at *; omega)
  · repeat' (first
 | refine RunsL.step tabOk hn rfl ?_
 | refine RunsL.nil ?_
 | refine Runs.toRegion 30 rfl ?_
 | (refine RunsL.pe hn rfl rfl rfl ?_; first
 | refine ⟨_, pu_callR hpl (by simp [ev, look, rulR]), ?_⟩
 | refine ⟨_, pu_callR (inRange_ac _ _ _) rfl, ?_⟩)
 | (refine Runs.ctls 30 rfl ?_; first | refine Runs.cond_t rfl ?_ | ((first | refine Runs.cond_yes rfl ?_ ?_ | refine Runs.cond_nno rfl ?_ ?_); · first | omega | rfl | assumption | (simp only [List.length_map]; omega)) | ((first | refine Runs.cond_no rfl ?_ ?_ | refine Runs.cond_nyes rfl ?_ ?_); · first | omega | rfl | assumption | (simp only [List.length_map]; omega)) | refine Runs.cond_ndec rfl (fun h => ?_) (fun h => ?_) | refine Runs.ret (ends_ro hm rfl rfl ?_) | exact Runs.ret (ends_cellR hm rfl rfl rfl (Nat.le_of_ble_eq_true rfl) rfl rfl))
 | refine op_box rfl (tl hn rfl) ?_
 | (refine RunsL.pe hn rfl rfl rfl ?_; first
 | refine ⟨_, pu_add rfl rfl (by omega), ?_⟩
 | refine ⟨_, pu_indexAddr_map rfl rfl (by omega) (by assumption), ?_⟩
      )
 | ((first | refine RunsL.guard_dec rfl rfl rfl ?_ ?_ | refine RunsL.guard_ndec rfl rfl rfl ?_ ?_ | refine RunsL.guard_nb rfl rfl rfl ?_ ?_ | refine RunsL.guard_b rfl rfl rfl ?_ ?_) <;> intro h <;> try (exfalso; first | omega | contradiction | (simp only [List.length_map] at h; omega))))
    all_goals exact rr_bool (decide_eq_false (p := SeqOk r) fun hN => hP hN.1).symm
def KindI (d : Des) (r : Rul) : Prop :=
  (r.kind = 1 ∧ Plain r true false false false 0 ∧ InR r.size 1 4 ∧ (r.little = false ∨ 1 < r.size)) ∨
  (r.kind = 2 ∧ Plain r false true false false 0 ∧ InR r.bytes.length 1 16) ∨
  (r.kind = 3 ∧ Plain r true false false false 0 ∧ InR r.size 1 64) ∨
  (r.kind = 4 ∧ Plain r false false false false 1 ∧ 0 < lim d (r.kids.headD 0)) ∨
  (r.kind = 5 ∧ Plain r false false false false 2 ∧ 0 < lim d (r.kids.headD 0)) ∨
  (r.kind = 6 ∧ SeqOk r) ∨
  (r.kind = 7 ∧ ChoiceOk d r) ∨
  ((r.kind = 8 ∨ r.kind = 9) ∧ Plain r false false false false 1) ∨
  (r.kind = 10 ∧ Plain r false true false false 0 ∧ r.bytes.length = 1 ∧ r.bytes.headD 0 ≠ 92)
noncomputable instance (d : Des) (r : Rul) : Decidable (KindI d r) := Classical.propDecidable _
theorem Plain.kids {r : Rul} {a b c d : Bool} {k : Int} (h : Plain r a b c d k) (hk : 0 ≤ k) : (r.kids.length : Int) = k := by
  have := h.2.2.2.2; omega
theorem seqOk_iff {r : Rul} : SeqOk r ∧ (r.little = false ∨ r.kind = 1) ↔ Shape r false false true false r.names.length ∧ NamesOk r.names := by
  unfold SeqOk Shape Plain
  constructor
  · rintro ⟨⟨⟨a, b, c, d, e⟩, f, g⟩, h⟩
    exact ⟨⟨⟨a, b, c, d, by omega⟩, h⟩, g⟩
  · rintro ⟨⟨⟨a, b, c, d, e⟩, h⟩, g⟩
    exact ⟨⟨⟨a, b, c, d, by omega⟩, by omega, g⟩, h⟩
theorem choiceOk_iff {d : Des} {r : Rul} : ChoiceOk d r ∧ (r.little = false ∨ r.kind = 1) ↔ Shape r false false false true (-1) ∧ TagsOk d r := by
  unfold ChoiceOk Shape Plain
  constructor
  · rintro ⟨⟨⟨a, b, c, d, e⟩, g⟩, h⟩
    exact ⟨⟨⟨a, b, c, d, by omega⟩, h⟩, g⟩
  · rintro ⟨⟨⟨a, b, c, d, e⟩, h⟩, g⟩
    exact ⟨⟨⟨a, b, c, d, .inr (by have := g.1; omega)⟩, g⟩, h⟩
theorem kindI_iff (d : Des) (r : Rul) : KindI d r ∧ (r.little = false ∨ r.kind = 1) ↔ KindOk d r := by
  unfold KindI KindOk
  have h1 := @seqOk_iff r
  have h2 := @choiceOk_iff d r
  unfold Shape at h1 h2 ⊢
  constructor
  · rintro ⟨(h | h | h | h | h | h | h | h | h), hl⟩
    · exact .inl ⟨h.1, ⟨h.2.1, hl⟩, h.2.2⟩
    · exact .inr (.inl ⟨h.1, ⟨h.2.1, hl⟩, h.2.2⟩)
    · exact .inr (.inr (.inl ⟨h.1, ⟨h.2.1, hl⟩, h.2.2⟩))
    · exact .inr (.inr (.inr (.inl ⟨h.1, ⟨h.2.1, hl⟩, h.2.2⟩)))
    · exact .inr (.inr (.inr (.inr (.inl ⟨h.1, ⟨h.2.1, hl⟩, h.2.2⟩))))
    · exact .inr (.inr (.inr (.inr (.inr (.inl ⟨h.1, h1.1 ⟨h.2, hl⟩⟩)))))
    · exact .inr (.inr (.inr (.inr (.inr (.inr (.inl ⟨h.1, h2.1 ⟨h.2, hl⟩⟩))))))
    · exact .inr (.inr (.inr (.inr (.inr (.inr (.inr (.inl ⟨h.1, h.2, hl⟩)))))))
    · exact .inr (.inr (.inr (.inr (.inr (.inr (.inr (.inr ⟨h.1, ⟨h.2.1, hl⟩, h.2.2⟩)))))))
  · rintro (h | h | h | h | h | h | h | h | h)
    · exact ⟨.inl ⟨h.1, h.2.1.1, h.2.2⟩, h.2.1.2⟩
    · exact ⟨.inr (.inl ⟨h.1, h.2.1.1, h.2.2⟩), h.2.1.2⟩
    · exact ⟨.inr (.inr (.inl ⟨h.1, h.2.1.1, h.2.2⟩)), h.2.1.2⟩
    · exact ⟨.inr (.inr (.inr (.inl ⟨h.1, h.2.1.1, h.2.2⟩))), h.2.1.2⟩
    · exact ⟨.inr (.inr (.inr (.inr (.inl ⟨h.1, h.2.1.1, h.2.2⟩)))), h.2.1.2⟩
    · exact ⟨.inr (.inr (.inr (.inr (.inr (.inl ⟨h.1, (h1.2 h.2).1⟩))))), (h1.2 h.2).2⟩
    · exact ⟨.inr (.inr (.inr (.inr (.inr (.inr (.inl ⟨h.1, (h2.2 h.2).1⟩)))))), (h2.2 h.2).2⟩
    · exact ⟨.inr (.inr (.inr (.inr (.inr (.inr (.inr (.inl ⟨h.1, h.2.1⟩))))))), h.2.2⟩
    · exact ⟨.inr (.inr (.inr (.inr (.inr (.inr (.inr (.inr ⟨h.1, h.2.1.1, h.2.2⟩))))))), h.2.1.2⟩
end Go.Proofs.YtkmoffefhlmgeaaGreatDoor
/- Kinds, rules and descriptions that are valid: the program's side; a rule of a valid description. -/
namespace Go.Proofs.YtkmoffefhlmgeaaGreatDoor
set_option linter.unusedSimpArgs false
set_option linter.unusedVariables false
set_option linter.unusedSectionVars false
set_option maxRecDepth 100000
open Go.RowKit
set_option maxHeartbeats 8000000 in
theorem validKind_ac (d : Des) (r : Rul) (hl : d.length ≤ maxLen) (ht : r.tags.length ≤ 1048576) (hnl : r.names.length ≤ maxLen) (hns : ∀ s ∈ r.names, s.size ≤ maxLen) : ACv Tryz.prog 82 [desR d, .agg (rulR r)] (.bool (decide (KindI d r))) := by
  have hseq := validSequence_ac r hnl hns
  have hcho := validChoice_ac d r hl ht
  have hlim := impl_IntegerLimit d (r.kids.headD 0) hl
  refine ac_enter Tryz.func82 rfl _ Tryz.ntmps82 (by simp) fun C hn hm => ?_
  by_cases k1 : r.kind = 1
  · repeat' (first
 | refine RunsL.step tabOk hn rfl ?_
 | refine RunsL.nil ?_
 | refine Runs.toRegion 30 rfl ?_
 | ((first | refine RunsL.pe hn rfl rfl rfl ?_ | refine RunsD.pe rfl rfl ?_); first
 | refine ⟨_, pu_callR (plainRule0_ac r _) rfl, ?_⟩
 | refine ⟨_, pu_callR (inRange_ac _ _ _) rfl, ?_⟩)
 | (refine Runs.ctls 30 rfl ?_; first | refine Runs.cond_t rfl ?_ | ((first | refine Runs.cond_yes rfl ?_ ?_ | refine Runs.cond_nno rfl ?_ ?_); · first | omega | rfl | assumption | (simp only [List.length_map]; omega)) | ((first | refine Runs.cond_no rfl ?_ ?_ | refine Runs.cond_nyes rfl ?_ ?_); · first | omega | rfl | assumption | (simp only [List.length_map]; omega)) | refine Runs.ret (ends_ro hm rfl rfl ?_) | exact Runs.ret (ends_cellR hm rfl rfl rfl (Nat.le_of_ble_eq_true rfl) rfl rfl))
 | refine op_box rfl (tl hn rfl) ?_
 | refine RunsD.step tabOk hn rfl rfl ?_
 | refine RunsD.nil ?_
 | refine Runs.toDraw 30 mixed hn rfl (by kernel_rfl) rfl ?_
 | ((first | refine RunsL.pe hn rfl rfl rfl ?_ | refine RunsD.pe rfl rfl ?_); first
 | refine ⟨_, pu_add rfl rfl (by omega), ?_⟩
 | refine ⟨_, pu_indexAddr_map rfl rfl (by omega) (by assumption), ?_⟩
 | refine ⟨_, pu_sub rfl rfl (by omega), ?_⟩
 | refine ⟨_, pu_pick_b rfl rfl rfl, ?_⟩
 | refine ⟨_, pu_mul rfl rfl (by omega), ?_⟩
 | refine ⟨_, pu_build rfl rfl rfl rfl rfl rfl, ?_⟩)
 | ((first | refine RunsL.guard_dec rfl rfl rfl ?_ ?_ | refine RunsL.guard_ndec rfl rfl rfl ?_ ?_ | refine RunsL.guard_nb rfl rfl rfl ?_ ?_ | refine RunsL.guard_b rfl rfl rfl ?_ ?_ | refine RunsD.guard_dec rfl rfl rfl ?_ ?_ | refine RunsD.guard_ndec rfl rfl rfl ?_ ?_ | refine RunsD.guard_nb rfl rfl rfl ?_ ?_ | refine RunsD.guard_b rfl rfl rfl ?_ ?_) <;> intro h <;> try (exfalso; first | omega | contradiction | (simp only [List.length_map] at h; omega))))
    all_goals exact rr_bool (by rw [Bool.eq_iff_iff]; simp [KindI, *])
  by_cases k2 : r.kind = 2
  · repeat' (first
 | refine RunsL.step tabOk hn rfl ?_
 | refine RunsL.nil ?_
 | refine Runs.toRegion 30 rfl ?_
 | ((first | refine RunsL.pe hn rfl rfl rfl ?_ | refine RunsD.pe rfl rfl ?_); first
 | refine ⟨_, pu_callR (plainRule1_ac r _) rfl, ?_⟩
 | refine ⟨_, pu_callR (inRange_ac _ _ _) rfl, ?_⟩)
 | (refine Runs.ctls 30 rfl ?_; first | refine Runs.cond_t rfl ?_ | ((first | refine Runs.cond_yes rfl ?_ ?_ | refine Runs.cond_nno rfl ?_ ?_); · first | omega | rfl | assumption | (simp only [List.length_map]; omega)) | ((first | refine Runs.cond_no rfl ?_ ?_ | refine Runs.cond_nyes rfl ?_ ?_); · first | omega | rfl | assumption | (simp only [List.length_map]; omega)) | refine Runs.ret (ends_ro hm rfl rfl ?_) | exact Runs.ret (ends_cellR hm rfl rfl rfl (Nat.le_of_ble_eq_true rfl) rfl rfl))
 | refine op_box rfl (tl hn rfl) ?_
 | refine RunsD.step tabOk hn rfl rfl ?_
 | refine RunsD.nil ?_
 | refine Runs.toDraw 30 mixed hn rfl (by kernel_rfl) rfl ?_
 | ((first | refine RunsL.pe hn rfl rfl rfl ?_ | refine RunsD.pe rfl rfl ?_); first
 | refine ⟨_, pu_add rfl rfl (by omega), ?_⟩
 | refine ⟨_, pu_indexAddr_map rfl rfl (by omega) (by assumption), ?_⟩
 | refine ⟨_, pu_sub rfl rfl (by omega), ?_⟩
 | refine ⟨_, pu_pick_b rfl rfl rfl, ?_⟩
 | refine ⟨_, pu_mul rfl rfl (by omega), ?_⟩
 | refine ⟨_, pu_build rfl rfl rfl rfl rfl rfl, ?_⟩)
 | ((first | refine RunsL.guard_dec rfl rfl rfl ?_ ?_ | refine RunsL.guard_ndec rfl rfl rfl ?_ ?_ | refine RunsL.guard_nb rfl rfl rfl ?_ ?_ | refine RunsL.guard_b rfl rfl rfl ?_ ?_ | refine RunsD.guard_dec rfl rfl rfl ?_ ?_ | refine RunsD.guard_ndec rfl rfl rfl ?_ ?_ | refine RunsD.guard_nb rfl rfl rfl ?_ ?_ | refine RunsD.guard_b rfl rfl rfl ?_ ?_) <;> intro h <;> try (exfalso; first | omega | contradiction | (simp only [List.length_map] at h; omega))))
    all_goals exact rr_bool (by rw [Bool.eq_iff_iff]; simp [KindI, *])
  by_cases k3 : r.kind = 3
  · repeat' (first
 | refine RunsL.step tabOk hn rfl ?_
 | refine RunsL.nil ?_
 | refine Runs.toRegion 30 rfl ?_
 | ((first | refine RunsL.pe hn rfl rfl rfl ?_ | refine RunsD.pe rfl rfl ?_); first
 | refine ⟨_, pu_callR (plainRule0_ac r _) rfl, ?_⟩
 | refine ⟨_, pu_callR (inRange_ac _ _ _) rfl, ?_⟩)
 | (refine Runs.ctls 30 rfl ?_; first | refine Runs.cond_t rfl ?_ | ((first | refine Runs.cond_yes rfl ?_ ?_ | refine Runs.cond_nno rfl ?_ ?_); · first | omega | rfl | assumption | (simp only [List.length_map]; omega)) | ((first | refine Runs.cond_no rfl ?_ ?_ | refine Runs.cond_nyes rfl ?_ ?_); · first | omega | rfl | assumption | (simp only [List.length_map]; omega)) | refine Runs.ret (ends_ro hm rfl rfl ?_) | exact Runs.ret (ends_cellR hm rfl rfl rfl (Nat.le_of_ble_eq_true rfl) rfl rfl))
 | refine op_box rfl (tl hn rfl) ?_
 | refine RunsD.step tabOk hn rfl rfl ?_
 | refine RunsD.nil ?_
 | refine Runs.toDraw 30 mixed hn rfl (by kernel_rfl) rfl ?_
 | ((first | refine RunsL.pe hn rfl rfl rfl ?_ | refine RunsD.pe rfl rfl ?_); first
 | refine ⟨_, pu_add rfl rfl (by omega), ?_⟩
 | refine ⟨_, pu_indexAddr_map rfl rfl (by omega) (by assumption), ?_⟩
 | refine ⟨_, pu_sub rfl rfl (by omega), ?_⟩
 | refine ⟨_, pu_pick_b rfl rfl rfl, ?_⟩
 | refine ⟨_, pu_mul rfl rfl (by omega), ?_⟩
 | refine ⟨_, pu_build rfl rfl rfl rfl rfl rfl, ?_⟩)
 | ((first | refine RunsL.guard_dec rfl rfl rfl ?_ ?_ | refine RunsL.guard_ndec rfl rfl rfl ?_ ?_ | refine RunsL.guard_nb rfl rfl rfl ?_ ?_ | refine RunsL.guard_b rfl rfl rfl ?_ ?_ | refine RunsD.guard_dec rfl rfl rfl ?_ ?_ | refine RunsD.guard_ndec rfl rfl rfl ?_ ?_ | refine RunsD.guard_nb rfl rfl rfl ?_ ?_ | refine RunsD.guard_b rfl rfl rfl ?_ ?_) <;> intro h <;> try (exfalso; first | omega | contradiction | (simp only [List.length_map] at h; omega))))
    all_goals exact rr_bool (by rw [Bool.eq_iff_iff]; simp [KindI, *])
  by_cases k4 : r.kind = 4
  · by_cases hS : Plain r false false false false 1
    · have hk0 := head_at (l := r.kids) (by have := hS.kids (by omega); omega)
      repeat' (first
 | refine RunsL.step tabOk hn rfl ?_
 | refine RunsL.nil ?_
 | refine Runs.toRegion 30 rfl ?_
 | ((first | refine RunsL.pe hn rfl rfl rfl ?_ | refine RunsD.pe rfl rfl ?_); first
 | refine ⟨_, pu_callR (plainRule4_ac r _) rfl, ?_⟩
 | refine ⟨_, pu_callR hlim rfl, ?_⟩)
 | (refine Runs.ctls 30 rfl ?_; first | refine Runs.cond_t rfl ?_ | ((first | refine Runs.cond_yes rfl ?_ ?_ | refine Runs.cond_nno rfl ?_ ?_); · first | omega | rfl | assumption | (simp only [List.length_map]; omega)) | ((first | refine Runs.cond_no rfl ?_ ?_ | refine Runs.cond_nyes rfl ?_ ?_); · first | omega | rfl | assumption | (simp only [List.length_map]; omega)) | refine Runs.ret (ends_ro hm rfl rfl ?_) | exact Runs.ret (ends_cellR hm rfl rfl rfl (Nat.le_of_ble_eq_true rfl) rfl rfl))
 | refine op_box rfl (tl hn rfl) ?_
 | refine RunsD.step tabOk hn rfl rfl ?_
 | refine RunsD.nil ?_
 | refine Runs.toDraw 30 mixed hn rfl (by kernel_rfl) rfl ?_
 | ((first | refine RunsL.pe hn rfl rfl rfl ?_ | refine RunsD.pe rfl rfl ?_); first
 | refine ⟨_, pu_add rfl rfl (by omega), ?_⟩
 | refine ⟨_, pu_indexAddr_map rfl rfl (by omega) (by assumption), ?_⟩
 | refine ⟨_, pu_sub rfl rfl (by omega), ?_⟩
 | refine ⟨_, pu_pick_b rfl rfl rfl, ?_⟩
 | refine ⟨_, pu_mul rfl rfl (by omega), ?_⟩
 | refine ⟨_, pu_build rfl rfl rfl rfl rfl rfl, ?_⟩)
 | ((first | refine RunsL.guard_dec rfl rfl rfl ?_ ?_ | refine RunsL.guard_ndec rfl rfl rfl ?_ ?_ | refine RunsL.guard_nb rfl rfl rfl ?_ ?_ | refine RunsL.guard_b rfl rfl rfl ?_ ?_ | refine RunsD.guard_dec rfl rfl rfl ?_ ?_ | refine RunsD.guard_ndec rfl rfl rfl ?_ ?_ | refine RunsD.guard_nb rfl rfl rfl ?_ ?_ | refine RunsD.guard_b rfl rfl rfl ?_ ?_) <;> intro h <;> try (exfalso; first | omega | contradiction | (simp only [List.length_map] at h; omega))))
      all_goals exact rr_bool (by rw [Bool.eq_iff_iff]; simp [KindI, *])
    · repeat' (first
 | refine RunsL.step tabOk hn rfl ?_
 | refine RunsL.nil ?_
 | refine Runs.toRegion 30 rfl ?_
 | ((first | refine RunsL.pe hn rfl rfl rfl ?_ | refine RunsD.pe rfl rfl ?_); first
 | refine ⟨_, pu_callR (plainRule4_ac r _) rfl, ?_⟩)
 | (refine Runs.ctls 30 rfl ?_; first | refine Runs.cond_t rfl ?_ | ((first | refine Runs.cond_yes rfl ?_ ?_ | refine Runs.cond_nno rfl ?_ ?_); · first | omega | rfl | assumption | (simp only [List.length_map]; omega)) | ((first | refine Runs.cond_no rfl ?_ ?_ | refine Runs.cond_nyes rfl ?_ ?_); · first | omega | rfl | assumption | (simp only [List.length_map]; omega)) | refine Runs.ret (ends_ro hm rfl rfl ?_) | exact Runs.ret (ends_cellR hm rfl rfl rfl (Nat.le_of_ble_eq_true rfl) rfl rfl))
 | refine op_box rfl (tl hn rfl) ?_
 | refine RunsD.step tabOk hn rfl rfl ?_
 | refine RunsD.nil ?_
 | refine Runs.toDraw 30 mixed hn rfl (by kernel_rfl) rfl ?_
 | ((first | refine RunsL.pe hn rfl rfl rfl ?_ | refine RunsD.pe rfl rfl ?_); first
 | refine ⟨_, pu_add rfl rfl (by omega), ?_⟩
 | refine ⟨_, pu_indexAddr_map rfl rfl (by omega) (by assumption), ?_⟩
 | refine ⟨_, pu_sub rfl rfl (by omega), ?_⟩
 | refine ⟨_, pu_pick_b rfl rfl rfl, ?_⟩
 | refine ⟨_, pu_mul rfl rfl (by omega), ?_⟩
 | refine ⟨_, pu_build rfl rfl rfl rfl rfl rfl, ?_⟩)
 | ((first | refine RunsL.guard_dec rfl rfl rfl ?_ ?_ | refine RunsL.guard_ndec rfl rfl rfl ?_ ?_ | refine RunsL.guard_nb rfl rfl rfl ?_ ?_ | refine RunsL.guard_b rfl rfl rfl ?_ ?_ | refine RunsD.guard_dec rfl rfl rfl ?_ ?_ | refine RunsD.guard_ndec rfl rfl rfl ?_ ?_ | refine RunsD.guard_nb rfl rfl rfl ?_ ?_ | refine RunsD.guard_b rfl rfl rfl ?_ ?_) <;> intro h <;> try (exfalso; first | omega | contradiction | (simp only [List.length_map] at h; omega))))
      all_goals exact rr_bool (by rw [Bool.eq_iff_iff]; simp [KindI, *])
  by_cases k5 : r.kind = 5
  · by_cases hS : Plain r false false false false 2
    · have hk0 := head_at (l := r.kids) (by have := hS.kids (by omega); omega)
      repeat' (first
 | refine RunsL.step tabOk hn rfl ?_
 | refine RunsL.nil ?_
 | refine Runs.toRegion 30 rfl ?_
 | ((first | refine RunsL.pe hn rfl rfl rfl ?_ | refine RunsD.pe rfl rfl ?_); first
 | refine ⟨_, pu_callR (plainRule4_ac r _) rfl, ?_⟩
 | refine ⟨_, pu_callR hlim rfl, ?_⟩)
 | (refine Runs.ctls 30 rfl ?_; first | refine Runs.cond_t rfl ?_ | ((first | refine Runs.cond_yes rfl ?_ ?_ | refine Runs.cond_nno rfl ?_ ?_); · first | omega | rfl | assumption | (simp only [List.length_map]; omega)) | ((first | refine Runs.cond_no rfl ?_ ?_ | refine Runs.cond_nyes rfl ?_ ?_); · first | omega | rfl | assumption | (simp only [List.length_map]; omega)) | refine Runs.ret (ends_ro hm rfl rfl ?_) | exact Runs.ret (ends_cellR hm rfl rfl rfl (Nat.le_of_ble_eq_true rfl) rfl rfl))
 | refine op_box rfl (tl hn rfl) ?_
 | refine RunsD.step tabOk hn rfl rfl ?_
 | refine RunsD.nil ?_
 | refine Runs.toDraw 30 mixed hn rfl (by kernel_rfl) rfl ?_
 | ((first | refine RunsL.pe hn rfl rfl rfl ?_ | refine RunsD.pe rfl rfl ?_); first
 | refine ⟨_, pu_add rfl rfl (by omega), ?_⟩
 | refine ⟨_, pu_indexAddr_map rfl rfl (by omega) (by assumption), ?_⟩
 | refine ⟨_, pu_sub rfl rfl (by omega), ?_⟩
 | refine ⟨_, pu_pick_b rfl rfl rfl, ?_⟩
 | refine ⟨_, pu_mul rfl rfl (by omega), ?_⟩
 | refine ⟨_, pu_build rfl rfl rfl rfl rfl rfl, ?_⟩)
 | ((first | refine RunsL.guard_dec rfl rfl rfl ?_ ?_ | refine RunsL.guard_ndec rfl rfl rfl ?_ ?_ | refine RunsL.guard_nb rfl rfl rfl ?_ ?_ | refine RunsL.guard_b rfl rfl rfl ?_ ?_ | refine RunsD.guard_dec rfl rfl rfl ?_ ?_ | refine RunsD.guard_ndec rfl rfl rfl ?_ ?_ | refine RunsD.guard_nb rfl rfl rfl ?_ ?_ | refine RunsD.guard_b rfl rfl rfl ?_ ?_) <;> intro h <;> try (exfalso; first | omega | contradiction | (simp only [List.length_map] at h; omega))))
      all_goals exact rr_bool (by rw [Bool.eq_iff_iff]; simp [KindI, *])
    · repeat' (first
 | refine RunsL.step tabOk hn rfl ?_
 | refine RunsL.nil ?_
 | refine Runs.toRegion 30 rfl ?_
 | ((first | refine RunsL.pe hn rfl rfl rfl ?_ | refine RunsD.pe rfl rfl ?_); first
 | refine ⟨_, pu_callR (plainRule4_ac r _) rfl, ?_⟩)
 | (refine Runs.ctls 30 rfl ?_; first | refine Runs.cond_t rfl ?_ | ((first | refine Runs.cond_yes rfl ?_ ?_ | refine Runs.cond_nno rfl ?_ ?_); · first | omega | rfl | assumption | (simp only [List.length_map]; omega)) | ((first | refine Runs.cond_no rfl ?_ ?_ | refine Runs.cond_nyes rfl ?_ ?_); · first | omega | rfl | assumption | (simp only [List.length_map]; omega)) | refine Runs.ret (ends_ro hm rfl rfl ?_) | exact Runs.ret (ends_cellR hm rfl rfl rfl (Nat.le_of_ble_eq_true rfl) rfl rfl))
 | refine op_box rfl (tl hn rfl) ?_
 | refine RunsD.step tabOk hn rfl rfl ?_
 | refine RunsD.nil ?_
 | refine Runs.toDraw 30 mixed hn rfl (by kernel_rfl) rfl ?_
 | ((first | refine RunsL.pe hn rfl rfl rfl ?_ | refine RunsD.pe rfl rfl ?_); first
 | refine ⟨_, pu_add rfl rfl (by omega), ?_⟩
 | refine ⟨_, pu_indexAddr_map rfl rfl (by omega) (by assumption), ?_⟩
 | refine ⟨_, pu_sub rfl rfl (by omega), ?_⟩
 | refine ⟨_, pu_pick_b rfl rfl rfl, ?_⟩
 | refine ⟨_, pu_mul rfl rfl (by omega), ?_⟩
 | refine ⟨_, pu_build rfl rfl rfl rfl rfl rfl, ?_⟩)
 | ((first | refine RunsL.guard_dec rfl rfl rfl ?_ ?_ | refine RunsL.guard_ndec rfl rfl rfl ?_ ?_ | refine RunsL.guard_nb rfl rfl rfl ?_ ?_ | refine RunsL.guard_b rfl rfl rfl ?_ ?_ | refine RunsD.guard_dec rfl rfl rfl ?_ ?_ | refine RunsD.guard_ndec rfl rfl rfl ?_ ?_ | refine RunsD.guard_nb rfl rfl rfl ?_ ?_ | refine RunsD.guard_b rfl rfl rfl ?_ ?_) <;> intro h <;> try (exfalso; first | omega | contradiction | (simp only [List.length_map] at h; omega))))
      all_goals exact rr_bool (by rw [Bool.eq_iff_iff]; simp [KindI, *])
  by_cases k6 : r.kind = 6
  · repeat' (first
 | refine RunsL.step tabOk hn rfl ?_
 | refine RunsL.nil ?_
 | refine Runs.toRegion 30 rfl ?_
 | ((first | refine RunsL.pe hn rfl rfl rfl ?_ | refine RunsD.pe rfl rfl ?_); first
 | refine ⟨_, pu_callR hseq rfl, ?_⟩)
 | (refine Runs.ctls 30 rfl ?_; first | refine Runs.cond_t rfl ?_ | ((first | refine Runs.cond_yes rfl ?_ ?_ | refine Runs.cond_nno rfl ?_ ?_); · first | omega | rfl | assumption | (simp only [List.length_map]; omega)) | ((first | refine Runs.cond_no rfl ?_ ?_ | refine Runs.cond_nyes rfl ?_ ?_); · first | omega | rfl | assumption | (simp only [List.length_map]; omega)) | refine Runs.ret (ends_ro hm rfl rfl ?_) | exact Runs.ret (ends_cellR hm rfl rfl rfl (Nat.le_of_ble_eq_true rfl) rfl rfl))
 | refine op_box rfl (tl hn rfl) ?_
 | refine RunsD.step tabOk hn rfl rfl ?_
 | refine RunsD.nil ?_
 | refine Runs.toDraw 30 mixed hn rfl (by kernel_rfl) rfl ?_
 | ((first | refine RunsL.pe hn rfl rfl rfl ?_ | refine RunsD.pe rfl rfl ?_); first
 | refine ⟨_, pu_add rfl rfl (by omega), ?_⟩
 | refine ⟨_, pu_indexAddr_map rfl rfl (by omega) (by assumption), ?_⟩
 | refine ⟨_, pu_sub rfl rfl (by omega), ?_⟩
 | refine ⟨_, pu_pick_b rfl rfl rfl, ?_⟩
 | refine ⟨_, pu_mul rfl rfl (by omega), ?_⟩
 | refine ⟨_, pu_build rfl rfl rfl rfl rfl rfl, ?_⟩)
 | ((first | refine RunsL.guard_dec rfl rfl rfl ?_ ?_ | refine RunsL.guard_ndec rfl rfl rfl ?_ ?_ | refine RunsL.guard_nb rfl rfl rfl ?_ ?_ | refine RunsL.guard_b rfl rfl rfl ?_ ?_ | refine RunsD.guard_dec rfl rfl rfl ?_ ?_ | refine RunsD.guard_ndec rfl rfl rfl ?_ ?_ | refine RunsD.guard_nb rfl rfl rfl ?_ ?_ | refine RunsD.guard_b rfl rfl rfl ?_ ?_) <;> intro h <;> try (exfalso; first | omega | contradiction | (simp only [List.length_map] at h; omega))))
    all_goals exact rr_bool (by rw [Bool.eq_iff_iff]; simp [KindI, *])
  by_cases k7 : r.kind = 7
  · repeat' (first
 | refine RunsL.step tabOk hn rfl ?_
 | refine RunsL.nil ?_
 | refine Runs.toRegion 30 rfl ?_
 | ((first | refine RunsL.pe hn rfl rfl rfl ?_ | refine RunsD.pe rfl rfl ?_); first
 | refine ⟨_, pu_callR hcho rfl, ?_⟩)
 | (refine Runs.ctls 30 rfl ?_; first | refine Runs.cond_t rfl ?_ | ((first | refine Runs.cond_yes rfl ?_ ?_ | refine Runs.cond_nno rfl ?_ ?_); · first | omega | rfl | assumption | (simp only [List.length_map]; omega)) | ((first | refine Runs.cond_no rfl ?_ ?_ | refine Runs.cond_nyes rfl ?_ ?_); · first | omega | rfl | assumption | (simp only [List.length_map]; omega)) | refine Runs.ret (ends_ro hm rfl rfl ?_) | exact Runs.ret (ends_cellR hm rfl rfl rfl (Nat.le_of_ble_eq_true rfl) rfl rfl))
 | refine op_box rfl (tl hn rfl) ?_
 | refine RunsD.step tabOk hn rfl rfl ?_
 | refine RunsD.nil ?_
 | refine Runs.toDraw 30 mixed hn rfl (by kernel_rfl) rfl ?_
 | ((first | refine RunsL.pe hn rfl rfl rfl ?_ | refine RunsD.pe rfl rfl ?_); first
 | refine ⟨_, pu_add rfl rfl (by omega), ?_⟩
 | refine ⟨_, pu_indexAddr_map rfl rfl (by omega) (by assumption), ?_⟩
 | refine ⟨_, pu_sub rfl rfl (by omega), ?_⟩
 | refine ⟨_, pu_pick_b rfl rfl rfl, ?_⟩
 | refine ⟨_, pu_mul rfl rfl (by omega), ?_⟩
 | refine ⟨_, pu_build rfl rfl rfl rfl rfl rfl, ?_⟩)
 | ((first | refine RunsL.guard_dec rfl rfl rfl ?_ ?_ | refine RunsL.guard_ndec rfl rfl rfl ?_ ?_ | refine RunsL.guard_nb rfl rfl rfl ?_ ?_ | refine RunsL.guard_b rfl rfl rfl ?_ ?_ | refine RunsD.guard_dec rfl rfl rfl ?_ ?_ | refine RunsD.guard_ndec rfl rfl rfl ?_ ?_ | refine RunsD.guard_nb rfl rfl rfl ?_ ?_ | refine RunsD.guard_b rfl rfl rfl ?_ ?_) <;> intro h <;> try (exfalso; first | omega | contradiction | (simp only [List.length_map] at h; omega))))
    all_goals exact rr_bool (by rw [Bool.eq_iff_iff]; simp [KindI, *])
  by_cases k8 : r.kind = 8
  · repeat' (first
 | refine RunsL.step tabOk hn rfl ?_
 | refine RunsL.nil ?_
 | refine Runs.toRegion 30 rfl ?_
 | ((first | refine RunsL.pe hn rfl rfl rfl ?_ | refine RunsD.pe rfl rfl ?_); first
 | refine ⟨_, pu_callR (plainRule4_ac r _) rfl, ?_⟩)
 | (refine Runs.ctls 30 rfl ?_; first | refine Runs.cond_t rfl ?_ | ((first | refine Runs.cond_yes rfl ?_ ?_ | refine Runs.cond_nno rfl ?_ ?_); · first | omega | rfl | assumption | (simp only [List.length_map]; omega)) | ((first | refine Runs.cond_no rfl ?_ ?_ | refine Runs.cond_nyes rfl ?_ ?_); · first | omega | rfl | assumption | (simp only [List.length_map]; omega)) | refine Runs.ret (ends_ro hm rfl rfl ?_) | exact Runs.ret (ends_cellR hm rfl rfl rfl (Nat.le_of_ble_eq_true rfl) rfl rfl))
 | refine op_box rfl (tl hn rfl) ?_
 | refine RunsD.step tabOk hn rfl rfl ?_
 | refine RunsD.nil ?_
 | refine Runs.toDraw 30 mixed hn rfl (by kernel_rfl) rfl ?_
 | ((first | refine RunsL.pe hn rfl rfl rfl ?_ | refine RunsD.pe rfl rfl ?_); first
 | refine ⟨_, pu_add rfl rfl (by omega), ?_⟩
 | refine ⟨_, pu_indexAddr_map rfl rfl (by omega) (by assumption), ?_⟩
 | refine ⟨_, pu_sub rfl rfl (by omega), ?_⟩
 | refine ⟨_, pu_pick_b rfl rfl rfl, ?_⟩
 | refine ⟨_, pu_mul rfl rfl (by omega), ?_⟩
 | refine ⟨_, pu_build rfl rfl rfl rfl rfl rfl, ?_⟩)
 | ((first | refine RunsL.guard_dec rfl rfl rfl ?_ ?_ | refine RunsL.guard_ndec rfl rfl rfl ?_ ?_ | refine RunsL.guard_nb rfl rfl rfl ?_ ?_ | refine RunsL.guard_b rfl rfl rfl ?_ ?_ | refine RunsD.guard_dec rfl rfl rfl ?_ ?_ | refine RunsD.guard_ndec rfl rfl rfl ?_ ?_ | refine RunsD.guard_nb rfl rfl rfl ?_ ?_ | refine RunsD.guard_b rfl rfl rfl ?_ ?_) <;> intro h <;> try (exfalso; first | omega | contradiction | (simp only [List.length_map] at h; omega))))
    all_goals exact rr_bool (by rw [Bool.eq_iff_iff]; simp [KindI, *])
  by_cases k9 : r.kind = 9
  · repeat' (first
 | refine RunsL.step tabOk hn rfl ?_
 | refine RunsL.nil ?_
 | refine Runs.toRegion 30 rfl ?_
 | ((first | refine RunsL.pe hn rfl rfl rfl ?_ | refine RunsD.pe rfl rfl ?_); first
 | refine ⟨_, pu_callR (plainRule4_ac r _) rfl, ?_⟩)
 | (refine Runs.ctls 30 rfl ?_; first | refine Runs.cond_t rfl ?_ | ((first | refine Runs.cond_yes rfl ?_ ?_ | refine Runs.cond_nno rfl ?_ ?_); · first | omega | rfl | assumption | (simp only [List.length_map]; omega)) | ((first | refine Runs.cond_no rfl ?_ ?_ | refine Runs.cond_nyes rfl ?_ ?_); · first | omega | rfl | assumption | (simp only [List.length_map]; omega)) | refine Runs.ret (ends_ro hm rfl rfl ?_) | exact Runs.ret (ends_cellR hm rfl rfl rfl (Nat.le_of_ble_eq_true rfl) rfl rfl))
 | refine op_box rfl (tl hn rfl) ?_
 | refine RunsD.step tabOk hn rfl rfl ?_
 | refine RunsD.nil ?_
 | refine Runs.toDraw 30 mixed hn rfl (by kernel_rfl) rfl ?_
 | ((first | refine RunsL.pe hn rfl rfl rfl ?_ | refine RunsD.pe rfl rfl ?_); first
 | refine ⟨_, pu_add rfl rfl (by omega), ?_⟩
 | refine ⟨_, pu_indexAddr_map rfl rfl (by omega) (by assumption), ?_⟩
 | refine ⟨_, pu_sub rfl rfl (by omega), ?_⟩
 | refine ⟨_, pu_pick_b rfl rfl rfl, ?_⟩
 | refine ⟨_, pu_mul rfl rfl (by omega), ?_⟩
 | refine ⟨_, pu_build rfl rfl rfl rfl rfl rfl, ?_⟩)
 | ((first | refine RunsL.guard_dec rfl rfl rfl ?_ ?_ | refine RunsL.guard_ndec rfl rfl rfl ?_ ?_ | refine RunsL.guard_nb rfl rfl rfl ?_ ?_ | refine RunsL.guard_b rfl rfl rfl ?_ ?_ | refine RunsD.guard_dec rfl rfl rfl ?_ ?_ | refine RunsD.guard_ndec rfl rfl rfl ?_ ?_ | refine RunsD.guard_nb rfl rfl rfl ?_ ?_ | refine RunsD.guard_b rfl rfl rfl ?_ ?_) <;> intro h <;> try (exfalso; first | omega | contradiction | (simp only [List.length_map] at h; omega))))
    all_goals exact rr_bool (by rw [Bool.eq_iff_iff]; simp [KindI, *])
  by_cases k10 : r.kind = 10
  · by_cases hb : r.bytes.length = 1
    · have hb0 := headB_at (l := r.bytes) (by omega)
      have hu : ((r.bytes.headD 0).toNat : Int) = 92 ↔ r.bytes.headD 0 = 92 := ⟨fun h => u8_ext h, fun h => by rw [h]; rfl⟩
      repeat' (first
 | refine RunsL.step tabOk hn rfl ?_
 | refine RunsL.nil ?_
 | refine Runs.toRegion 30 rfl ?_
 | ((first | refine RunsL.pe hn rfl rfl rfl ?_ | refine RunsD.pe rfl rfl ?_); first
 | refine ⟨_, pu_callR (plainRule1_ac r _) rfl, ?_⟩)
 | (refine Runs.ctls 30 rfl ?_; first | refine Runs.cond_t rfl ?_ | ((first | refine Runs.cond_yes rfl ?_ ?_ | refine Runs.cond_nno rfl ?_ ?_); · first | omega | rfl | assumption | (simp only [List.length_map]; omega)) | ((first | refine Runs.cond_no rfl ?_ ?_ | refine Runs.cond_nyes rfl ?_ ?_); · first | omega | rfl | assumption | (simp only [List.length_map]; omega)) | refine Runs.ret (ends_ro hm rfl rfl ?_) | exact Runs.ret (ends_cellR hm rfl rfl rfl (Nat.le_of_ble_eq_true rfl) rfl rfl))
 | refine op_box rfl (tl hn rfl) ?_
 | refine RunsD.step tabOk hn rfl rfl ?_
 | refine RunsD.nil ?_
 | refine Runs.toDraw 30 mixed hn rfl (by kernel_rfl) rfl ?_
 | ((first | refine RunsL.pe hn rfl rfl rfl ?_ | refine RunsD.pe rfl rfl ?_); first
 | refine ⟨_, pu_add rfl rfl (by omega), ?_⟩
 | refine ⟨_, pu_indexAddr_map rfl rfl (by omega) (by assumption), ?_⟩
 | refine ⟨_, pu_sub rfl rfl (by omega), ?_⟩
 | refine ⟨_, pu_pick_b rfl rfl rfl, ?_⟩
 | refine ⟨_, pu_mul rfl rfl (by omega), ?_⟩
 | refine ⟨_, pu_build rfl rfl rfl rfl rfl rfl, ?_⟩)
 | ((first | refine RunsL.guard_dec rfl rfl rfl ?_ ?_ | refine RunsL.guard_ndec rfl rfl rfl ?_ ?_ | refine RunsL.guard_nb rfl rfl rfl ?_ ?_ | refine RunsL.guard_b rfl rfl rfl ?_ ?_ | refine RunsD.guard_dec rfl rfl rfl ?_ ?_ | refine RunsD.guard_ndec rfl rfl rfl ?_ ?_ | refine RunsD.guard_nb rfl rfl rfl ?_ ?_ | refine RunsD.guard_b rfl rfl rfl ?_ ?_) <;> intro h <;> try (exfalso; first | omega | contradiction | (simp only [List.length_map] at h; omega))))
      all_goals exact rr_bool (by rw [Bool.eq_iff_iff]; first | (simp [KindI, *]; done) | (simp [KindI, *]; exact not_congr (by simpa using hu)))
    · repeat' (first
 | refine RunsL.step tabOk hn rfl ?_
 | refine RunsL.nil ?_
 | refine Runs.toRegion 30 rfl ?_
 | ((first | refine RunsL.pe hn rfl rfl rfl ?_ | refine RunsD.pe rfl rfl ?_); first
 | refine ⟨_, pu_callR (plainRule1_ac r _) rfl, ?_⟩)
 | (refine Runs.ctls 30 rfl ?_; first | refine Runs.cond_t rfl ?_ | ((first | refine Runs.cond_yes rfl ?_ ?_ | refine Runs.cond_nno rfl ?_ ?_); · first | omega | rfl | assumption | (simp only [List.length_map]; omega)) | ((first | refine Runs.cond_no rfl ?_ ?_ | refine Runs.cond_nyes rfl ?_ ?_); · first | omega | rfl | assumption | (simp only [List.length_map]; omega)) | refine Runs.ret (ends_ro hm rfl rfl ?_) | exact Runs.ret (ends_cellR hm rfl rfl rfl (Nat.le_of_ble_eq_true rfl) rfl rfl))
 | refine op_box rfl (tl hn rfl) ?_
 | refine RunsD.step tabOk hn rfl rfl ?_
 | refine RunsD.nil ?_
 | refine Runs.toDraw 30 mixed hn rfl (by kernel_rfl) rfl ?_
 | ((first | refine RunsL.pe hn rfl rfl rfl ?_ | refine RunsD.pe rfl rfl ?_); first
 | refine ⟨_, pu_add rfl rfl (by omega), ?_⟩
 | refine ⟨_, pu_indexAddr_map rfl rfl (by omega) (by assumption), ?_⟩
 | refine ⟨_, pu_sub rfl rfl (by omega), ?_⟩
 | refine ⟨_, pu_pick_b rfl rfl rfl, ?_⟩
 | refine ⟨_, pu_mul rfl rfl (by omega), ?_⟩
 | refine ⟨_, pu_build rfl rfl rfl rfl rfl rfl, ?_⟩)
 | ((first | refine RunsL.guard_dec rfl rfl rfl ?_ ?_ | refine RunsL.guard_ndec rfl rfl rfl ?_ ?_ | refine RunsL.guard_nb rfl rfl rfl ?_ ?_ | refine RunsL.guard_b rfl rfl rfl ?_ ?_ | refine RunsD.guard_dec rfl rfl rfl ?_ ?_ | refine RunsD.guard_ndec rfl rfl rfl ?_ ?_ | refine RunsD.guard_nb rfl rfl rfl ?_ ?_ | refine RunsD.guard_b rfl rfl rfl ?_ ?_) <;> intro h <;> try (exfalso; first | omega | contradiction | (simp only [List.length_map] at h; omega))))
      all_goals exact rr_bool (by rw [Bool.eq_iff_iff]; simp [KindI, *])
  · repeat' (first
 | refine RunsL.step tabOk hn rfl ?_
 | refine RunsL.nil ?_
 | refine Runs.toRegion 30 rfl ?_
 | (refine Runs.ctls 30 rfl ?_; first | refine Runs.cond_t rfl ?_ | ((first | refine Runs.cond_yes rfl ?_ ?_ | refine Runs.cond_nno rfl ?_ ?_); · first | omega | rfl | assumption | (simp only [List.length_map]; omega)) | ((first | refine Runs.cond_no rfl ?_ ?_ | refine Runs.cond_nyes rfl ?_ ?_); · first | omega | rfl | assumption | (simp only [List.length_map]; omega)) | refine Runs.ret (ends_ro hm rfl rfl ?_) | exact Runs.ret (ends_cellR hm rfl rfl rfl (Nat.le_of_ble_eq_true rfl) rfl rfl))
 | refine op_box rfl (tl hn rfl) ?_
 | refine RunsD.step tabOk hn rfl rfl ?_
 | refine RunsD.nil ?_
 | refine Runs.toDraw 30 mixed hn rfl (by kernel_rfl) rfl ?_
 | ((first | refine RunsL.pe hn rfl rfl rfl ?_ | refine RunsD.pe rfl rfl ?_); first
 | refine ⟨_, pu_add rfl rfl (by omega), ?_⟩
 | refine ⟨_, pu_indexAddr_map rfl rfl (by omega) (by assumption), ?_⟩
 | refine ⟨_, pu_sub rfl rfl (by omega), ?_⟩
 | refine ⟨_, pu_pick_b rfl rfl rfl, ?_⟩
 | refine ⟨_, pu_mul rfl rfl (by omega), ?_⟩
 | refine ⟨_, pu_build rfl rfl rfl rfl rfl rfl, ?_⟩)
 | ((first | refine RunsL.guard_dec rfl rfl rfl ?_ ?_ | refine RunsL.guard_ndec rfl rfl rfl ?_ ?_ | refine RunsL.guard_nb rfl rfl rfl ?_ ?_ | refine RunsL.guard_b rfl rfl rfl ?_ ?_ | refine RunsD.guard_dec rfl rfl rfl ?_ ?_ | refine RunsD.guard_ndec rfl rfl rfl ?_ ?_ | refine RunsD.guard_nb rfl rfl rfl ?_ ?_ | refine RunsD.guard_b rfl rfl rfl ?_ ?_) <;> intro h <;> try (exfalso; first | omega | contradiction | (simp only [List.length_map] at h; omega))))
    all_goals exact rr_bool (by rw [Bool.eq_iff_iff]; simp [KindI, *])
set_option maxHeartbeats 8000000 in
theorem impl_IsValidRule (d : Des) (ho : DesOk d) (hd : dtotal d ≤ 1048576) (i : Int) (hi : I64 i) : ACv Tryz.prog 72 [desR d, .int i] (.bool (decide (RuleAt d i))) := by
  have hlm : (d.map rulR).length = d.length := List.length_map ..
  have hl := ho.len
  have et : dtotal d = d.length + (d.map Rul.total).sum := rfl
  unfold I64 at hi
  by_cases hx : HasR d i
  · obtain ⟨r, hr⟩ : ∃ r, d[i.toNat]? = some r := ⟨_, List.getElem?_eq_getElem (by omega)⟩
    have hmem := List.mem_of_getElem? hr
    have hro := ho.rules r hmem
    obtain ⟨o1, o2, o3, o4, o5, o6, o7⟩ := hro.lens
    have hrt := sum_mem_le Rul.total hmem
    have er : r.total = r.name.size + r.bytes.length + (r.names.length + (r.names.map ByteArray.size).sum) + r.tags.length + r.kids.length := rfl
    have hnm := impl_IsName r.name o1
    have hk := validKind_ac d r hl (by omega) o3 o4
    have hiff := ruleAt_iff hx.1 hr
    have hkk := kindI_iff d r
    have hhr := hasRule_ac d i
    obtain ⟨n, rfl⟩ : ∃ n : Nat, i = n := ⟨i.toNat, by omega⟩
    simp only [Int.toNat_natCast] at hiff
    have hlt0 : n < d.length := by have := hx.2; omega
    have htl : (d.take n).length = n := by rw [List.length_take]; omega
    have htlm : ((d.take n).map rulR).length = n := by rw [List.length_map]; exact htl
    refine ac_enter Tryz.func72 rfl _ Tryz.ntmps72 (by simp) fun C hn hm => ?_
    by_cases hn1 : IsNm r.name
    · by_cases hli : r.little = false ∨ r.kind = 1
      · have hli' : ¬ (r.little = true ∧ ¬ r.kind = 1) := fun h => by rcases hli with e | e; rw [e] at h; cases h.1; exact h.2 e
        repeat' (first
 | refine RunsL.step tabOk hn rfl ?_
 | refine RunsL.nil ?_
 | refine Runs.toRegion 30 rfl ?_
 | (refine RunsL.pe hn rfl rfl rfl ?_; first
 | refine ⟨_, pu_callR hhr rfl, ?_⟩
 | refine ⟨_, pu_callR hnm rfl, ?_⟩
 | refine ⟨_, pu_slice_hM rfl rfl (by omega) (by omega), ?_⟩)
 | (refine Runs.ctls 30 rfl ?_; first | refine Runs.cond_t rfl ?_ | refine Runs.cond_f rfl ?_ | ((first | refine Runs.cond_yes rfl ?_ ?_ | refine Runs.cond_nno rfl ?_ ?_); · first | omega | rfl | assumption | (simp only [List.length_map]; omega)) | ((first | refine Runs.cond_no rfl ?_ ?_ | refine Runs.cond_nyes rfl ?_ ?_); · first | omega | rfl | assumption | (simp only [List.length_map]; omega)) | refine Runs.cond_ndec rfl (fun h => ?_) (fun h => ?_) | refine Runs.ret (ends_ro hm rfl rfl ?_) | exact Runs.ret (ends_cellR hm rfl rfl rfl (Nat.le_of_ble_eq_true rfl) rfl rfl))
 | refine op_box rfl (tl hn rfl) ?_
 | refine op_alloc (tl hn rfl) ?_
 | refine op_storeN rfl rfl rfl rfl (Nat.le_of_ble_eq_true rfl) ?_
 | (refine RunsL.pe hn rfl rfl rfl ?_; first
 | refine ⟨_, pu_add rfl rfl (by omega), ?_⟩
 | refine ⟨_, pu_indexAddr_map rfl rfl (by omega) (by assumption), ?_⟩
            )
 | ((first | refine RunsL.guard_dec rfl rfl rfl ?_ ?_ | refine RunsL.guard_ndec rfl rfl rfl ?_ ?_ | refine RunsL.guard_nb rfl rfl rfl ?_ ?_ | refine RunsL.guard_b rfl rfl rfl ?_ ?_) <;> intro h <;> try (exfalso; first | omega | contradiction | (simp only [List.length_map] at h; omega))))
        all_goals try (exfalso; exact hli' ⟨by assumption, by assumption⟩)
        all_goals
          refine Runs.loopD 30 rfl (fun j => [(35, .ro (.seq 8 ((d.take n).map rulR))), (36, .int (n : Int)), (2, .obj 0 0), (5, .obj 1 0), (1, .int (n : Int)), (37, .int (j : Int))]) (fun _ => [⟨35, 0, [.ro (rulsR d)]⟩, ⟨54, 0, [.str r.name, .int r.kind, .int r.size, .bool r.little, .ro (bytesR r.bytes), .ro (strsR r.names), .ro (intsR r.tags), .ro (intsR r.kids)]⟩]) (fun j => ⟨by simp [Free, AV.only], by simp [FreeO, AV.onlys, AV.only]⟩) (fun j => ∀ (k : Nat) x, k < j → d[k]? = some x → ¬ x.name = r.name) n 0 (Nat.zero_le _) (fun k x h => absurd h (by omega)) ⟨rfl, by simp only [look]; exact congrArg (fun z : Nat => AV.int (z : Int)) htlm, rfl, rfl, rfl, rfl, trivial⟩ rfl fun j hj hQ next => ?_
          by_cases hlt : j < n
          · obtain ⟨x, hxj⟩ : ∃ x, (d.take n)[(j : Int).toNat]? = some x := ⟨_, List.getElem?_eq_getElem (by simp; omega)⟩
            have hx' : d[j]? = some x := by
              have h : (d.take n)[j]? = some x := hxj
              rwa [List.getElem?_take, if_pos hlt] at h
            by_cases hq : x.name = r.name
            · repeat' (first
 | (refine RunsL.pe hn rfl rfl rfl ?_; first
 | refine ⟨_, pu_eqlSame rfl (by rw [hq]; rfl), ?_⟩)
 | refine RunsL.step tabOk hn rfl ?_
 | refine RunsL.nil ?_
 | refine Runs.toRegion 30 rfl ?_
 | (refine Runs.ctls 30 rfl ?_; first | refine Runs.cond_t rfl ?_ | refine Runs.cond_f rfl ?_ | ((first | refine Runs.cond_yes rfl ?_ ?_ | refine Runs.cond_nno rfl ?_ ?_); · first | omega | rfl | assumption | (simp only [List.length_map]; omega)) | ((first | refine Runs.cond_no rfl ?_ ?_ | refine Runs.cond_nyes rfl ?_ ?_); · first | omega | rfl | assumption | (simp only [List.length_map]; omega)) | refine Runs.cond_ndec rfl (fun h => ?_) (fun h => ?_) | refine Runs.ret (ends_ro hm rfl rfl ?_) | exact Runs.ret (ends_cellR hm rfl rfl rfl (Nat.le_of_ble_eq_true rfl) rfl rfl))
 | refine op_box rfl (tl hn rfl) ?_
 | refine op_alloc (tl hn rfl) ?_
 | refine op_storeN rfl rfl rfl rfl (Nat.le_of_ble_eq_true rfl) ?_
 | (refine RunsL.pe hn rfl rfl rfl ?_; first
 | refine ⟨_, pu_add rfl rfl (by omega), ?_⟩
 | refine ⟨_, pu_indexAddr_map rfl rfl (by omega) (by assumption), ?_⟩
                )
 | ((first | refine RunsL.guard_dec rfl rfl rfl ?_ ?_ | refine RunsL.guard_ndec rfl rfl rfl ?_ ?_ | refine RunsL.guard_nb rfl rfl rfl ?_ ?_ | refine RunsL.guard_b rfl rfl rfl ?_ ?_) <;> intro h <;> try (exfalso; first | omega | contradiction | (simp only [List.length_map] at h; omega))))
              all_goals exact rr_bool (decide_eq_false (p := RuleAt d n) fun hN => (hiff.1 hN).1 j x hlt hx' hq).symm
            · repeat' (first
 | (refine RunsL.pe hn rfl rfl rfl ?_; first
 | refine ⟨_, pu_eqlDiff rfl rfl (by assumption), ?_⟩)
 | refine RunsL.step tabOk hn rfl ?_
 | refine RunsL.nil ?_
 | refine Runs.toRegion 30 rfl ?_
 | (refine Runs.ctls 30 rfl ?_; first | refine Runs.cond_t rfl ?_ | refine Runs.cond_f rfl ?_ | ((first | refine Runs.cond_yes rfl ?_ ?_ | refine Runs.cond_nno rfl ?_ ?_); · first | omega | rfl | assumption | (simp only [List.length_map]; omega)) | ((first | refine Runs.cond_no rfl ?_ ?_ | refine Runs.cond_nyes rfl ?_ ?_); · first | omega | rfl | assumption | (simp only [List.length_map]; omega)) | refine Runs.cond_ndec rfl (fun h => ?_) (fun h => ?_) | refine Runs.ret (ends_ro hm rfl rfl ?_) | exact Runs.ret (ends_cellR hm rfl rfl rfl (Nat.le_of_ble_eq_true rfl) rfl rfl))
 | refine op_box rfl (tl hn rfl) ?_
 | refine op_alloc (tl hn rfl) ?_
 | refine op_storeN rfl rfl rfl rfl (Nat.le_of_ble_eq_true rfl) ?_
 | (refine RunsL.pe hn rfl rfl rfl ?_; first
 | refine ⟨_, pu_add rfl rfl (by omega), ?_⟩
 | refine ⟨_, pu_indexAddr_map rfl rfl (by omega) (by assumption), ?_⟩
                )
 | ((first | refine RunsL.guard_dec rfl rfl rfl ?_ ?_ | refine RunsL.guard_ndec rfl rfl rfl ?_ ?_ | refine RunsL.guard_nb rfl rfl rfl ?_ ?_ | refine RunsL.guard_b rfl rfl rfl ?_ ?_) <;> intro h <;> try (exfalso; first | omega | contradiction | (simp only [List.length_map] at h; omega))))
              refine next _ _ [_] ⟨rfl, rfl, rfl, rfl, rfl, rfl, trivial⟩ hlt (fun k y hkj hy => ?_) rfl
              by_cases e : k = j
              · subst e; rw [hx'] at hy; injection hy with hy; subst hy; exact hq
              · exact hQ k y (by omega) hy
          · obtain rfl : j = n := by omega
            repeat' (first
 | refine RunsL.step tabOk hn rfl ?_
 | refine RunsL.nil ?_
 | refine Runs.toRegion 30 rfl ?_
 | (refine Runs.ctls 30 rfl ?_; first | refine Runs.cond_t rfl ?_ | refine Runs.cond_f rfl ?_ | ((first | refine Runs.cond_yes rfl ?_ ?_ | refine Runs.cond_nno rfl ?_ ?_); · first | omega | rfl | assumption | (simp only [List.length_map]; omega)) | ((first | refine Runs.cond_no rfl ?_ ?_ | refine Runs.cond_nyes rfl ?_ ?_); · first | omega | rfl | assumption | (simp only [List.length_map]; omega)) | refine Runs.cond_ndec rfl (fun h => ?_) (fun h => ?_) | refine Runs.ret (ends_ro hm rfl rfl ?_) | exact Runs.ret (ends_cellR hm rfl rfl rfl (Nat.le_of_ble_eq_true rfl) rfl rfl))
 | refine op_box rfl (tl hn rfl) ?_
 | refine op_alloc (tl hn rfl) ?_
 | refine op_storeN rfl rfl rfl rfl (Nat.le_of_ble_eq_true rfl) ?_
 | (refine RunsL.pe hn rfl rfl rfl ?_; first
 | refine ⟨_, pu_add rfl rfl (by omega), ?_⟩
 | refine ⟨_, pu_indexAddr_map rfl rfl (by omega) (by assumption), ?_⟩
                )
 | ((first | refine RunsL.guard_dec rfl rfl rfl ?_ ?_ | refine RunsL.guard_ndec rfl rfl rfl ?_ ?_ | refine RunsL.guard_nb rfl rfl rfl ?_ ?_ | refine RunsL.guard_b rfl rfl rfl ?_ ?_) <;> intro h <;> try (exfalso; first | omega | contradiction | (simp only [List.length_map] at h; omega))))
            refine Runs.loopN 30 rfl (fun m => [(48, .ro (intsR r.kids)), (49, .int (r.kids.length : Int)), (2, .obj 0 0), (5, .obj 1 0), (1, .int (j : Int)), (50, .int (m : Int))]) (fun _ => [⟨35, 0, [.ro (rulsR d)]⟩, ⟨54, 0, [.str r.name, .int r.kind, .int r.size, .bool r.little, .ro (bytesR r.bytes), .ro (strsR r.names), .ro (intsR r.tags), .ro (intsR r.kids)]⟩]) (fun m => ∀ (k : Nat) z, k < m → r.kids[k]? = some z → 0 ≤ z ∧ z < j) r.kids.length 0 (Nat.zero_le _) (fun k x h => absurd h (by omega)) ⟨rfl, by simp [look], rfl, rfl, rfl, rfl, trivial⟩ rfl fun m hm' hP next2 => ?_
            by_cases hlt2 : m < r.kids.length
            · obtain ⟨z, hz⟩ : ∃ z, r.kids[(m : Int).toNat]? = some z := ⟨_, List.getElem?_eq_getElem hlt2⟩
              have hz' : r.kids[m]? = some z := hz
              by_cases hzr : 0 ≤ z ∧ z < (j : Int)
              · repeat' (first
 | refine RunsL.step tabOk hn rfl ?_
 | refine RunsL.nil ?_
 | refine Runs.toRegion 30 rfl ?_
 | (refine Runs.ctls 30 rfl ?_; first | refine Runs.cond_t rfl ?_ | refine Runs.cond_f rfl ?_ | ((first | refine Runs.cond_yes rfl ?_ ?_ | refine Runs.cond_nno rfl ?_ ?_); · first | omega | rfl | assumption | (simp only [List.length_map]; omega)) | ((first | refine Runs.cond_no rfl ?_ ?_ | refine Runs.cond_nyes rfl ?_ ?_); · first | omega | rfl | assumption | (simp only [List.length_map]; omega)) | refine Runs.cond_ndec rfl (fun h => ?_) (fun h => ?_) | refine Runs.ret (ends_ro hm rfl rfl ?_) | exact Runs.ret (ends_cellR hm rfl rfl rfl (Nat.le_of_ble_eq_true rfl) rfl rfl))
 | refine op_box rfl (tl hn rfl) ?_
 | refine op_alloc (tl hn rfl) ?_
 | refine op_storeN rfl rfl rfl rfl (Nat.le_of_ble_eq_true rfl) ?_
 | (refine RunsL.pe hn rfl rfl rfl ?_; first
 | refine ⟨_, pu_add rfl rfl (by omega), ?_⟩
 | refine ⟨_, pu_indexAddr_map rfl rfl (by omega) (by assumption), ?_⟩
                  )
 | ((first | refine RunsL.guard_dec rfl rfl rfl ?_ ?_ | refine RunsL.guard_ndec rfl rfl rfl ?_ ?_ | refine RunsL.guard_nb rfl rfl rfl ?_ ?_ | refine RunsL.guard_b rfl rfl rfl ?_ ?_) <;> intro h <;> try (exfalso; first | omega | contradiction | (simp only [List.length_map] at h; omega))))
                refine next2 _ _ ⟨rfl, rfl, rfl, rfl, rfl, rfl, trivial⟩ hlt2 (fun k y hkm hy => ?_) rfl
                by_cases e : k = m
                · subst e; rw [hz'] at hy; injection hy with hy; subst hy; exact hzr
                · exact hP k y (by omega) hy
              · repeat' (first
 | refine RunsL.step tabOk hn rfl ?_
 | refine RunsL.nil ?_
 | refine Runs.toRegion 30 rfl ?_
 | (refine Runs.ctls 30 rfl ?_; first | refine Runs.cond_t rfl ?_ | refine Runs.cond_f rfl ?_ | ((first | refine Runs.cond_yes rfl ?_ ?_ | refine Runs.cond_nno rfl ?_ ?_); · first | omega | rfl | assumption | (simp only [List.length_map]; omega)) | ((first | refine Runs.cond_no rfl ?_ ?_ | refine Runs.cond_nyes rfl ?_ ?_); · first | omega | rfl | assumption | (simp only [List.length_map]; omega)) | refine Runs.cond_ndec rfl (fun h => ?_) (fun h => ?_) | refine Runs.ret (ends_ro hm rfl rfl ?_) | exact Runs.ret (ends_cellR hm rfl rfl rfl (Nat.le_of_ble_eq_true rfl) rfl rfl))
 | refine op_box rfl (tl hn rfl) ?_
 | refine op_alloc (tl hn rfl) ?_
 | refine op_storeN rfl rfl rfl rfl (Nat.le_of_ble_eq_true rfl) ?_
 | (refine RunsL.pe hn rfl rfl rfl ?_; first
 | refine ⟨_, pu_add rfl rfl (by omega), ?_⟩
 | refine ⟨_, pu_indexAddr_map rfl rfl (by omega) (by assumption), ?_⟩
                  )
 | ((first | refine RunsL.guard_dec rfl rfl rfl ?_ ?_ | refine RunsL.guard_ndec rfl rfl rfl ?_ ?_ | refine RunsL.guard_nb rfl rfl rfl ?_ ?_ | refine RunsL.guard_b rfl rfl rfl ?_ ?_) <;> intro h <;> try (exfalso; first | omega | contradiction | (simp only [List.length_map] at h; omega))))
                all_goals exact rr_bool (decide_eq_false (p := RuleAt d j) fun hN => hzr ((hiff.1 hN).2.1 m z hz')).symm
            · repeat' (first
 | refine RunsL.step tabOk hn rfl ?_
 | refine RunsL.nil ?_
 | refine Runs.toRegion 30 rfl ?_
 | (refine RunsL.pe hn rfl rfl rfl ?_; first
 | refine ⟨_, pu_callR hk rfl, ?_⟩)
 | (refine Runs.ctls 30 rfl ?_; first | refine Runs.cond_t rfl ?_ | refine Runs.cond_f rfl ?_ | ((first | refine Runs.cond_yes rfl ?_ ?_ | refine Runs.cond_nno rfl ?_ ?_); · first | omega | rfl | assumption | (simp only [List.length_map]; omega)) | ((first | refine Runs.cond_no rfl ?_ ?_ | refine Runs.cond_nyes rfl ?_ ?_); · first | omega | rfl | assumption | (simp only [List.length_map]; omega)) | refine Runs.cond_ndec rfl (fun h => ?_) (fun h => ?_) | refine Runs.ret (ends_ro hm rfl rfl ?_) | exact Runs.ret (ends_cellR hm rfl rfl rfl (Nat.le_of_ble_eq_true rfl) rfl rfl))
 | refine op_box rfl (tl hn rfl) ?_
 | refine op_alloc (tl hn rfl) ?_
 | refine op_storeN rfl rfl rfl rfl (Nat.le_of_ble_eq_true rfl) ?_
 | (refine RunsL.pe hn rfl rfl rfl ?_; first
 | refine ⟨_, pu_add rfl rfl (by omega), ?_⟩
 | refine ⟨_, pu_indexAddr_map rfl rfl (by omega) (by assumption), ?_⟩
                )
 | ((first | refine RunsL.guard_dec rfl rfl rfl ?_ ?_ | refine RunsL.guard_ndec rfl rfl rfl ?_ ?_ | refine RunsL.guard_nb rfl rfl rfl ?_ ?_ | refine RunsL.guard_b rfl rfl rfl ?_ ?_) <;> intro h <;> try (exfalso; first | omega | contradiction | (simp only [List.length_map] at h; omega))))
              exact rr_bool (decide_eq_decide.2 ⟨fun h => hiff.2 ⟨fun k x hk => hQ k x hk, fun k z hkz => hP k z (by have := (List.getElem?_eq_some_iff.1 hkz).1; omega) hkz, hn1, hkk.1 ⟨h, hli⟩⟩, fun h => (hkk.2 (hiff.1 h).2.2.2).1⟩)
      · have h1 : r.little = true := by cases h : r.little; exact absurd (.inl h) hli; rfl
        have h2 : ¬ r.kind = 1 := fun h => hli (.inr h)
        obtain ⟨nm, kd, sz, li, bs, ns, tg, ki⟩ := r
        simp only at h1; subst h1
        repeat' (first
 | refine RunsL.step tabOk hn rfl ?_
 | refine RunsL.nil ?_
 | refine Runs.toRegion 30 rfl ?_
 | (refine RunsL.pe hn rfl rfl rfl ?_; first
 | refine ⟨_, pu_callR hhr rfl, ?_⟩
 | refine ⟨_, pu_callR hnm rfl, ?_⟩)
 | (refine Runs.ctls 30 rfl ?_; first | refine Runs.cond_t rfl ?_ | refine Runs.cond_f rfl ?_ | ((first | refine Runs.cond_yes rfl ?_ ?_ | refine Runs.cond_nno rfl ?_ ?_); · first | omega | rfl | assumption | (simp only [List.length_map]; omega)) | ((first | refine Runs.cond_no rfl ?_ ?_ | refine Runs.cond_nyes rfl ?_ ?_); · first | omega | rfl | assumption | (simp only [List.length_map]; omega)) | refine Runs.cond_ndec rfl (fun h => ?_) (fun h => ?_) | refine Runs.ret (ends_ro hm rfl rfl ?_) | exact Runs.ret (ends_cellR hm rfl rfl rfl (Nat.le_of_ble_eq_true rfl) rfl rfl))
 | refine op_box rfl (tl hn rfl) ?_
 | refine op_alloc (tl hn rfl) ?_
 | refine op_storeN rfl rfl rfl rfl (Nat.le_of_ble_eq_true rfl) ?_
 | (refine RunsL.pe hn rfl rfl rfl ?_; first
 | refine ⟨_, pu_add rfl rfl (by omega), ?_⟩
 | refine ⟨_, pu_indexAddr_map rfl rfl (by omega) (by assumption), ?_⟩
            )
 | ((first | refine RunsL.guard_dec rfl rfl rfl ?_ ?_ | refine RunsL.guard_ndec rfl rfl rfl ?_ ?_ | refine RunsL.guard_nb rfl rfl rfl ?_ ?_ | refine RunsL.guard_b rfl rfl rfl ?_ ?_) <;> intro h <;> try (exfalso; first | omega | contradiction | (simp only [List.length_map] at h; omega))))
        all_goals exact rr_bool (decide_eq_false (p := RuleAt d n) fun hN => hli (hkk.2 (hiff.1 hN).2.2.2).2).symm
    · repeat' (first
 | refine RunsL.step tabOk hn rfl ?_
 | refine RunsL.nil ?_
 | refine Runs.toRegion 30 rfl ?_
 | (refine RunsL.pe hn rfl rfl rfl ?_; first
 | refine ⟨_, pu_callR hhr rfl, ?_⟩
 | refine ⟨_, pu_callR hnm rfl, ?_⟩)
 | (refine Runs.ctls 30 rfl ?_; first | refine Runs.cond_t rfl ?_ | refine Runs.cond_f rfl ?_ | ((first | refine Runs.cond_yes rfl ?_ ?_ | refine Runs.cond_nno rfl ?_ ?_); · first | omega | rfl | assumption | (simp only [List.length_map]; omega)) | ((first | refine Runs.cond_no rfl ?_ ?_ | refine Runs.cond_nyes rfl ?_ ?_); · first | omega | rfl | assumption | (simp only [List.length_map]; omega)) | refine Runs.cond_ndec rfl (fun h => ?_) (fun h => ?_) | refine Runs.ret (ends_ro hm rfl rfl ?_) | exact Runs.ret (ends_cellR hm rfl rfl rfl (Nat.le_of_ble_eq_true rfl) rfl rfl))
 | refine op_box rfl (tl hn rfl) ?_
 | refine op_alloc (tl hn rfl) ?_
 | refine op_storeN rfl rfl rfl rfl (Nat.le_of_ble_eq_true rfl) ?_
 | (refine RunsL.pe hn rfl rfl rfl ?_; first
 | refine ⟨_, pu_add rfl rfl (by omega), ?_⟩
 | refine ⟨_, pu_indexAddr_map rfl rfl (by omega) (by assumption), ?_⟩
        )
 | ((first | refine RunsL.guard_dec rfl rfl rfl ?_ ?_ | refine RunsL.guard_ndec rfl rfl rfl ?_ ?_ | refine RunsL.guard_nb rfl rfl rfl ?_ ?_ | refine RunsL.guard_b rfl rfl rfl ?_ ?_) <;> intro h <;> try (exfalso; first | omega | contradiction | (simp only [List.length_map] at h; omega))))
      all_goals exact rr_bool (decide_eq_false (p := RuleAt d n) fun hN => hn1 (hiff.1 hN).2.2.1).symm
  · have hno : ¬ RuleAt d i := fun ⟨h0, r, hr, _⟩ => hx ⟨h0, by have := (List.getElem?_eq_some_iff.1 hr).1; omega⟩
    refine ac_enter Tryz.func72 rfl _ Tryz.ntmps72 (by simp) fun C hn hm => ?_
    repeat' (first
 | refine RunsL.step tabOk hn rfl ?_
 | refine RunsL.nil ?_
 | refine Runs.toRegion 30 rfl ?_
 | (refine RunsL.pe hn rfl rfl rfl ?_; first
 | refine ⟨_, pu_callR (hasRule_ac d i) rfl, ?_⟩)
 | (refine Runs.ctls 30 rfl ?_; first | refine Runs.cond_t rfl ?_ | refine Runs.cond_f rfl ?_ | ((first | refine Runs.cond_yes rfl ?_ ?_ | refine Runs.cond_nno rfl ?_ ?_); · first | omega | rfl | assumption | (simp only [List.length_map]; omega)) | ((first | refine Runs.cond_no rfl ?_ ?_ | refine Runs.cond_nyes rfl ?_ ?_); · first | omega | rfl | assumption | (simp only [List.length_map]; omega)) | refine Runs.cond_ndec rfl (fun h => ?_) (fun h => ?_) | refine Runs.ret (ends_ro hm rfl rfl ?_) | exact Runs.ret (ends_cellR hm rfl rfl rfl (Nat.le_of_ble_eq_true rfl) rfl rfl))
 | refine op_box rfl (tl hn rfl) ?_
 | refine op_alloc (tl hn rfl) ?_
 | refine op_storeN rfl rfl rfl rfl (Nat.le_of_ble_eq_true rfl) ?_
 | (refine RunsL.pe hn rfl rfl rfl ?_; first
 | refine ⟨_, pu_add rfl rfl (by omega), ?_⟩
 | refine ⟨_, pu_indexAddr_map rfl rfl (by omega) (by assumption), ?_⟩
        )
 | ((first | refine RunsL.guard_dec rfl rfl rfl ?_ ?_ | refine RunsL.guard_ndec rfl rfl rfl ?_ ?_ | refine RunsL.guard_nb rfl rfl rfl ?_ ?_ | refine RunsL.guard_b rfl rfl rfl ?_ ?_) <;> intro h <;> try (exfalso; first | omega | contradiction | (simp only [List.length_map] at h; omega))))
    all_goals exact rr_bool (decide_eq_false hno).symm
theorem impl_IsValidDescription (d : Des) (ho : DesOk d) (hd : dtotal d ≤ 1048576) : ACv Tryz.prog 61 [desR d] (.bool (decide (Good' d))) := by
  have hlm : (d.map rulR).length = d.length := List.length_map ..
  have et : dtotal d = d.length + (d.map Rul.total).sum := rfl
  refine ac_enter Tryz.func61 rfl _ Tryz.ntmps61 (by simp) fun C hn hm => ?_
  by_cases h24 : InR d.length 1 24
  · repeat' (first
 | refine RunsL.step tabOk hn rfl ?_
 | refine RunsL.nil ?_
 | refine Runs.toRegion 30 rfl ?_
 | (refine RunsL.pe hn rfl rfl rfl ?_; first
 | refine ⟨_, pu_callR (inRange_ac _ _ _) rfl, ?_⟩)
 | (refine Runs.ctls 30 rfl ?_; first | ((first | refine Runs.cond_yes rfl ?_ ?_ | refine Runs.cond_nno rfl ?_ ?_); · first | omega | rfl | assumption | (simp only [List.length_map]; omega)) | ((first | refine Runs.cond_no rfl ?_ ?_ | refine Runs.cond_nyes rfl ?_ ?_); · first | omega | rfl | assumption | (simp only [List.length_map]; omega)) | refine Runs.ret (ends_ro hm rfl rfl ?_) | exact Runs.ret (ends_cellR hm rfl rfl rfl (Nat.le_of_ble_eq_true rfl) rfl rfl))
 | refine op_box rfl (tl hn rfl) ?_
 | (refine RunsL.pe hn rfl rfl rfl ?_; first
 | refine ⟨_, pu_add rfl rfl (by omega), ?_⟩
      ))
    refine Runs.loopN 30 rfl (fun j => [(1, .obj 0 0), (11, .int (d.length : Int)), (12, .int (j : Int))]) (fun _ => [⟨35, 0, [.ro (rulsR d)]⟩]) (fun j => ∀ k : Nat, k < j → RuleAt d k) d.length 0 (Nat.zero_le _) (fun k h => absurd h (by omega)) ⟨rfl, by simp [look], rfl, trivial⟩ rfl fun j hj hQ next => ?_
    by_cases hlt : j < d.length
    · have hr := impl_IsValidRule d ho hd j (by unfold I64; omega)
      by_cases hq : RuleAt d j
      · repeat' (first
 | refine RunsL.step tabOk hn rfl ?_
 | refine RunsL.nil ?_
 | refine Runs.toRegion 30 rfl ?_
 | (refine RunsL.pe hn rfl rfl rfl ?_; first
 | refine ⟨_, pu_callR hr rfl, ?_⟩)
 | (refine Runs.ctls 30 rfl ?_; first | ((first | refine Runs.cond_yes rfl ?_ ?_ | refine Runs.cond_nno rfl ?_ ?_); · first | omega | rfl | assumption | (simp only [List.length_map]; omega)) | ((first | refine Runs.cond_no rfl ?_ ?_ | refine Runs.cond_nyes rfl ?_ ?_); · first | omega | rfl | assumption | (simp only [List.length_map]; omega)) | refine Runs.ret (ends_ro hm rfl rfl ?_) | exact Runs.ret (ends_cellR hm rfl rfl rfl (Nat.le_of_ble_eq_true rfl) rfl rfl))
 | refine op_box rfl (tl hn rfl) ?_
 | (refine RunsL.pe hn rfl rfl rfl ?_; first
 | refine ⟨_, pu_add rfl rfl (by omega), ?_⟩
          ))
        refine next _ _ ⟨rfl, rfl, rfl, trivial⟩ hlt (fun k hk => ?_) rfl
        by_cases e : k = j
        · subst e; exact hq
        · exact hQ k (by omega)
      · repeat' (first
 | refine RunsL.step tabOk hn rfl ?_
 | refine RunsL.nil ?_
 | refine Runs.toRegion 30 rfl ?_
 | (refine RunsL.pe hn rfl rfl rfl ?_; first
 | refine ⟨_, pu_callR hr rfl, ?_⟩)
 | (refine Runs.ctls 30 rfl ?_; first | ((first | refine Runs.cond_yes rfl ?_ ?_ | refine Runs.cond_nno rfl ?_ ?_); · first | omega | rfl | assumption | (simp only [List.length_map]; omega)) | ((first | refine Runs.cond_no rfl ?_ ?_ | refine Runs.cond_nyes rfl ?_ ?_); · first | omega | rfl | assumption | (simp only [List.length_map]; omega)) | refine Runs.ret (ends_ro hm rfl rfl ?_) | exact Runs.ret (ends_cellR hm rfl rfl rfl (Nat.le_of_ble_eq_true rfl) rfl rfl))
 | refine op_box rfl (tl hn rfl) ?_
 | (refine RunsL.pe hn rfl rfl rfl ?_; first
 | refine ⟨_, pu_add rfl rfl (by omega), ?_⟩
          ))
        all_goals exact rr_bool (decide_eq_false (p := Good' d) fun hN => hq (hN.2.2 j hlt)).symm
    · repeat' (first
 | refine RunsL.step tabOk hn rfl ?_
 | refine RunsL.nil ?_
 | refine Runs.toRegion 30 rfl ?_
 | (refine Runs.ctls 30 rfl ?_; first | ((first | refine Runs.cond_yes rfl ?_ ?_ | refine Runs.cond_nno rfl ?_ ?_); · first | omega | rfl | assumption | (simp only [List.length_map]; omega)) | ((first | refine Runs.cond_no rfl ?_ ?_ | refine Runs.cond_nyes rfl ?_ ?_); · first | omega | rfl | assumption | (simp only [List.length_map]; omega)) | refine Runs.ret (ends_ro hm rfl rfl ?_) | exact Runs.ret (ends_cellR hm rfl rfl rfl (Nat.le_of_ble_eq_true rfl) rfl rfl))
 | refine op_box rfl (tl hn rfl) ?_
 | (refine RunsL.pe hn rfl rfl rfl ?_; first
 | refine ⟨_, pu_add rfl rfl (by omega), ?_⟩
        ))
      exact rr_bool (decide_eq_true (p := Good' d) ⟨by have := h24.1; omega, by have := h24.2; omega, fun k hk => hQ k (by omega)⟩).symm
  · repeat' (first
 | refine RunsL.step tabOk hn rfl ?_
 | refine RunsL.nil ?_
 | refine Runs.toRegion 30 rfl ?_
 | (refine RunsL.pe hn rfl rfl rfl ?_; first
 | refine ⟨_, pu_callR (inRange_ac _ _ _) rfl, ?_⟩)
 | (refine Runs.ctls 30 rfl ?_; first | ((first | refine Runs.cond_yes rfl ?_ ?_ | refine Runs.cond_nno rfl ?_ ?_); · first | omega | rfl | assumption | (simp only [List.length_map]; omega)) | ((first | refine Runs.cond_no rfl ?_ ?_ | refine Runs.cond_nyes rfl ?_ ?_); · first | omega | rfl | assumption | (simp only [List.length_map]; omega)) | refine Runs.ret (ends_ro hm rfl rfl ?_) | exact Runs.ret (ends_cellR hm rfl rfl rfl (Nat.le_of_ble_eq_true rfl) rfl rfl))
 | refine op_box rfl (tl hn rfl) ?_
 | (refine RunsL.pe hn rfl rfl rfl ?_; first
 | refine ⟨_, pu_add rfl rfl (by omega), ?_⟩
      ))
    all_goals exact rr_bool (decide_eq_false (p := Good' d) fun hN => h24 ⟨by have := hN.1; omega, by have := hN.2.1; omega⟩).symm
abbrev Kn (d : Des) (i : Int) : Prop := Good' d ∧ HasR d i
theorem known_ac (d : Des) (ho : DesOk d) (hd : dtotal d ≤ 1048576) (i : Int) : ACv Tryz.prog 42 [desR d, .int i] (.bool (decide (Kn d i))) := by
  have hv := impl_IsValidDescription d ho hd
  have hh := hasRule_ac d i
  refine ac_enter Tryz.func42 rfl _ Tryz.ntmps42 (by simp) fun C hn hm => ?_
  repeat' (first
 | refine RunsL.step tabOk hn rfl ?_
 | refine RunsL.nil ?_
 | refine Runs.toRegion 30 rfl ?_
 | (refine RunsL.pe hn rfl rfl rfl ?_; first
 | refine ⟨_, pu_callR hv rfl, ?_⟩
 | refine ⟨_, pu_callR hh rfl, ?_⟩)
 | (refine Runs.ctls 30 rfl ?_; first | ((first | refine Runs.cond_yes rfl ?_ ?_ | refine Runs.cond_nno rfl ?_ ?_); · first | omega | rfl | assumption | (simp only [List.length_map]; omega)) | ((first | refine Runs.cond_no rfl ?_ ?_ | refine Runs.cond_nyes rfl ?_ ?_); · first | omega | rfl | assumption | (simp only [List.length_map]; omega)) | refine Runs.ret (ends_ro hm rfl rfl ?_) | exact Runs.ret (ends_cellR hm rfl rfl rfl (Nat.le_of_ble_eq_true rfl) rfl rfl))
 | refine op_box rfl (tl hn rfl) ?_
 | ((first | refine RunsL.guard_dec rfl rfl rfl ?_ ?_ | refine RunsL.guard_ndec rfl rfl rfl ?_ ?_ | refine RunsL.guard_nb rfl rfl rfl ?_ ?_ | refine RunsL.guard_b rfl rfl rfl ?_ ?_) <;> intro h <;> try (exfalso; first | omega | contradiction | (simp only [List.length_map] at h; omega))))
  all_goals exact rr_bool (by rw [Bool.eq_iff_iff]; simp [*])
theorem l7Rule_ac (d : Des) (ho : DesOk d) (hd : dtotal d ≤ 1048576) (i : Int) : ACv Tryz.prog 35 [desR d, .int i] (.bool (decide (Kn d i))) := by
  have hlm : (d.map rulR).length = d.length := List.length_map ..
  have hl := ho.len
  have hv := spec_IsValidDescription d ho hd
  unfold maxLen at hl
  refine ac_enter Tryz.func35 rfl _ Tryz.ntmps35 (by simp) fun C hn hm => ?_
  by_cases hh : HasR d i
  · repeat' (first
 | refine RunsL.step tabOk hn rfl ?_
 | refine RunsL.nil ?_
 | refine Runs.toRegion 30 rfl ?_
 | (refine RunsL.pe hn rfl rfl rfl ?_; first
 | refine ⟨_, pu_callR hv rfl, ?_⟩
 | refine ⟨_, pu_callR (l1In_ac _ _ _) rfl, ?_⟩)
 | (refine Runs.ctls 30 rfl ?_; first | ((first | refine Runs.cond_yes rfl ?_ ?_ | refine Runs.cond_nno rfl ?_ ?_); · first | omega | rfl | assumption | (simp only [List.length_map]; omega)) | ((first | refine Runs.cond_no rfl ?_ ?_ | refine Runs.cond_nyes rfl ?_ ?_); · first | omega | rfl | assumption | (simp only [List.length_map]; omega)) | refine Runs.ret (ends_ro hm rfl rfl ?_) | exact Runs.ret (ends_cellR hm rfl rfl rfl (Nat.le_of_ble_eq_true rfl) rfl rfl))
 | refine op_box rfl (tl hn rfl) ?_
 | (refine RunsL.pe hn rfl rfl rfl ?_; first
 | refine ⟨_, pu_sub rfl rfl (by omega), ?_⟩
      )
 | ((first | refine RunsL.guard_dec rfl rfl rfl ?_ ?_ | refine RunsL.guard_ndec rfl rfl rfl ?_ ?_ | refine RunsL.guard_nb rfl rfl rfl ?_ ?_ | refine RunsL.guard_b rfl rfl rfl ?_ ?_) <;> intro h <;> try (exfalso; first | omega | contradiction | (simp only [List.length_map] at h; omega))))
    all_goals exact rr_bool (by rw [Bool.eq_iff_iff]; simp [hh.1, hh.2, *])
  · repeat' (first
 | refine RunsL.step tabOk hn rfl ?_
 | refine RunsL.nil ?_
 | refine Runs.toRegion 30 rfl ?_
 | (refine RunsL.pe hn rfl rfl rfl ?_; first
 | refine ⟨_, pu_callR hv rfl, ?_⟩
 | refine ⟨_, pu_callR (l1In_ac _ _ _) rfl, ?_⟩)
 | (refine Runs.ctls 30 rfl ?_; first | ((first | refine Runs.cond_yes rfl ?_ ?_ | refine Runs.cond_nno rfl ?_ ?_); · first | omega | rfl | assumption | (simp only [List.length_map]; omega)) | ((first | refine Runs.cond_no rfl ?_ ?_ | refine Runs.cond_nyes rfl ?_ ?_); · first | omega | rfl | assumption | (simp only [List.length_map]; omega)) | refine Runs.ret (ends_ro hm rfl rfl ?_) | exact Runs.ret (ends_cellR hm rfl rfl rfl (Nat.le_of_ble_eq_true rfl) rfl rfl))
 | refine op_box rfl (tl hn rfl) ?_
 | (refine RunsL.pe hn rfl rfl rfl ?_; first
 | refine ⟨_, pu_sub rfl rfl (by omega), ?_⟩
      )
 | ((first | refine RunsL.guard_dec rfl rfl rfl ?_ ?_ | refine RunsL.guard_ndec rfl rfl rfl ?_ ?_ | refine RunsL.guard_nb rfl rfl rfl ?_ ?_ | refine RunsL.guard_b rfl rfl rfl ?_ ?_) <;> intro h <;> try (exfalso; first | omega | contradiction | (simp only [List.length_map] at h; omega))))
    all_goals exact rr_bool (decide_eq_false (p := Kn d i) fun h => hh h.2).symm
end Go.Proofs.YtkmoffefhlmgeaaGreatDoor
/- Values of the format, which are trees, over values: the laws' helpers on them, opened arguments, counting, comparing. -/
namespace Go.Proofs.YtkmoffefhlmgeaaGreatDoor
set_option linter.unusedSimpArgs false
set_option linter.unusedVariables false
set_option linter.unusedSectionVars false
set_option maxRecDepth 100000
open Go.RowKit
inductive Tre where
  | mk (number : Int) (bytes : List UInt8) (items : List Tre)
namespace Tre
def number : Tre → Int | .mk n _ _ => n
def bytes : Tre → List UInt8 | .mk _ b _ => b
def items : Tre → List Tre | .mk _ _ l => l
mutual
def cells : Tre → List RV
  | .mk n b l => [.int n, bytesR b, .seq 3 (cellsL l)]
def cellsL : List Tre → List (List RV)
  | [] => []
  | v :: vs => cells v :: cellsL vs
def total : Tre → Nat
  | .mk _ b l => b.length + l.length + totalL l
def totalL : List Tre → Nat
  | [] => 0
  | v :: vs => total v + totalL vs
def count : Tre → Nat
  | .mk _ _ l => 1 + countL l
def countL : List Tre → Nat
  | [] => 0
  | v :: vs => count v + countL vs
def weight : Tre → Nat
  | .mk _ b l => b.length + weightL l
def weightL : List Tre → Nat
  | [] => 0
  | v :: vs => weight v + weightL vs
def Ok : Tre → Prop
  | .mk n b l => I64 n ∧ b.length ≤ maxLen ∧ l.length ≤ maxLen ∧ OkL l
def OkL : List Tre → Prop
  | [] => True
  | v :: vs => Ok v ∧ OkL vs
end
theorem cellsL_eq : ∀ l, cellsL l = l.map cells
  | [] => rfl
  | v :: vs => by rw [cellsL, cellsL_eq vs]; rfl
theorem totalL_eq : ∀ l, totalL l = (l.map total).sum
  | [] => rfl
  | v :: vs => by rw [totalL, totalL_eq vs]; rfl
theorem OkL_iff : ∀ {l}, OkL l ↔ ∀ x ∈ l, Ok x
  | [] => by simp [OkL]
  | v :: vs => by simp [OkL, OkL_iff (l := vs)]
theorem cells_eq (v : Tre) : v.cells = [.int v.number, bytesR v.bytes, .seq 3 (v.items.map cells)] := by
  cases v; rw [cells, cellsL_eq]; rfl
theorem total_eq (v : Tre) : v.total = v.bytes.length + v.items.length + (v.items.map total).sum := by
  cases v; rw [total, totalL_eq]; rfl
theorem Ok.out {v : Tre} (h : v.Ok) : I64 v.number ∧ v.bytes.length ≤ maxLen ∧ v.items.length ≤ maxLen ∧ ∀ x ∈ v.items, x.Ok := by
  cases v; rw [Ok, OkL_iff] at h; exact h
theorem cells_len (v : Tre) : v.cells.length = 3 := by rw [cells_eq]; rfl
mutual
theorem ind {P : Tre → Prop} (h : ∀ v, (∀ x ∈ v.items, P x) → P v) : ∀ v, P v
  | .mk n b l => h _ (indL h l)
theorem indL {P : Tre → Prop} (h : ∀ v, (∀ x ∈ v.items, P x) → P v) : ∀ l : List Tre, ∀ x ∈ l, P x
  | [], x, hx => by cases hx
  | v :: vs, x, hx => by
    rcases List.mem_cons.1 hx with e | e
    · rw [e]; exact ind h v
    · exact indL h vs x e
end
mutual
theorem count_le : ∀ v : Tre, v.count ≤ 1 + v.total
  | .mk n b l => by have := countL_le l; simp only [count, total]; omega
theorem countL_le : ∀ l : List Tre, countL l ≤ l.length + totalL l
  | [] => by simp [countL]
  | v :: vs => by have := count_le v; have := countL_le vs; simp only [countL, totalL, List.length_cons]; omega
end
mutual
theorem weight_le : ∀ v : Tre, v.weight ≤ v.total
  | .mk n b l => by have := weightL_le l; simp only [weight, total]; omega
theorem weightL_le : ∀ l : List Tre, weightL l ≤ totalL l
  | [] => by simp [weightL]
  | v :: vs => by have := weight_le v; have := weightL_le vs; simp only [weightL, totalL]; omega
end
end Tre
def tresR (l : List Tre) : RV := .seq 3 (l.map Tre.cells)
def treR (v : Tre) : RV := .agg [.int v.number, bytesR v.bytes, tresR v.items]
theorem treC (v : Tre) : RV.agg v.cells = treR v := by rw [Tre.cells_eq]; rfl
theorem tre_of {rcs : List RV} (h : TyC Tryz.prog 28 rcs) : ∃ v : Tre, .agg rcs = treR v ∧ v.Ok := by
  have hc : Tryz.prog.cellsOf 28 = 3 := by kernel_rfl
  have key : ∀ (t : TypeId) (rcs : List RV), TyC Tryz.prog t rcs → (t = 28 → ∃ v : Tre, rcs = v.cells ∧ v.Ok) ∧ (t = 26 → ∃ l : List Tre, rcs = [tresR l] ∧ l.length ≤ maxLen ∧ ∀ x ∈ l, x.Ok) := by
    intro t rcs h
    induction h with
    | int h wf => exact ⟨fun e => (by subst e; rw [Tryz.underlying28] at h; cases h), fun e => (by subst e; rw [Tryz.underlying26] at h; cases h)⟩
    | bool h => exact ⟨fun e => (by subst e; rw [Tryz.underlying28] at h; cases h), fun e => (by subst e; rw [Tryz.underlying26] at h; cases h)⟩
    | str h _ => exact ⟨fun e => (by subst e; rw [Tryz.underlying28] at h; cases h), fun e => (by subst e; rw [Tryz.underlying26] at h; cases h)⟩
    | slice h hl hels ih =>
      refine ⟨fun e => (by subst e; rw [Tryz.underlying28] at h; cases h), fun e => ?_⟩
      subst e
      rw [Tryz.underlying26] at h
      injection h with h; injection h with h; subst h
      obtain ⟨l, rfl, hq⟩ := els_of (f := Tre.cells) (Q := Tre.Ok) fun el hel => (ih el hel).1 rfl
      exact ⟨l, by rw [hc]; rfl, by simpa using hl, hq⟩
    | struct h hl hcs ih =>
      refine ⟨fun e => ?_, fun e => (by subst e; rw [Tryz.underlying26] at h; cases h)⟩
      subst e
      rename_i fs cells
      rw [Tryz.underlying28] at h
      injection h with h; injection h with h; subst h
      obtain ⟨c0, c1, c2, rfl⟩ : ∃ a b c, cells = [a, b, c] := by
        rcases cells with _ | ⟨a, _ | ⟨b, _ | ⟨c, _ | ⟨d, r⟩⟩⟩⟩ <;> simp at hl
        exact ⟨a, b, c, rfl⟩
      obtain ⟨n, rfl, b0⟩ := (hcs 0 _ c0 rfl rfl).i64 Tryz.underlying3
      obtain ⟨bs, rfl, hb⟩ := (hcs 1 _ c1 rfl rfl).bytes Tryz.underlying25 Tryz.underlying5 (by kernel_rfl)
      obtain ⟨l, rfl, hl2, hq⟩ := (ih 2 _ c2 rfl rfl).2 rfl
      refine ⟨.mk n bs l, by rw [Tre.cells_eq]; rfl, ?_⟩
      rw [Tre.Ok, Tre.OkL_iff]
      exact ⟨b0, hb, hl2, hq⟩
  obtain ⟨v, rfl, hv⟩ := (key _ _ h).1 rfl
  exact ⟨v, treC v, hv⟩
theorem szTres_ac (l : List Tre) (ih : ∀ x ∈ l, ∀ left : Int, 0 ≤ left → left ≤ 1048576 → x.Ok → ACv Tryz.prog 5 [treR x, .int left] (.int (sz1 left x.total))) (left : Int) (h0 : 0 ≤ left) (h1 : left ≤ 1048576) (hl : l.length ≤ maxLen) (ho : ∀ x ∈ l, x.Ok) :
    ACv Tryz.prog 19 [tresR l, .int left] (.int (sz1 left (l.length + (l.map Tre.total).sum : Nat))) := by
  unfold maxLen at hl
  refine ac_enter Tryz.func19 rfl _ Tryz.ntmps19 (by simp) fun C hn hm => ?_
  by_cases h : left < (l.length : Int)
  · repeat' (first
 | refine RunsL.step tabOk hn rfl ?_
 | refine RunsL.nil ?_
 | refine Runs.toRegion 30 rfl ?_
 | (refine RunsL.pe hn rfl rfl rfl ?_; first
 | refine ⟨_, pu_sub rfl rfl (by first | omega | (simp only [List.length_map]; omega)), ?_⟩)
 | (refine Runs.ctls 30 rfl ?_; first | refine Runs.cond_t rfl ?_ | ((first | refine Runs.cond_yes rfl ?_ ?_ | refine Runs.cond_nno rfl ?_ ?_); · first | omega | rfl | assumption | (simp only [List.length_map]; omega)) | ((first | refine Runs.cond_no rfl ?_ ?_ | refine Runs.cond_nyes rfl ?_ ?_); · first | omega | rfl | assumption | (simp only [List.length_map]; omega)) | refine Runs.ret (ends_ro hm rfl rfl ?_) | exact Runs.ret (ends_cellR hm rfl rfl rfl (Nat.le_of_ble_eq_true rfl) rfl rfl))
 | (refine RunsL.pe hn rfl rfl rfl ?_; first
 | refine ⟨_, pu_add rfl rfl (by omega), ?_⟩
 | refine ⟨_, pu_indexAddr_map rfl rfl (by omega) (by assumption), ?_⟩
 | refine ⟨_, pu_sub rfl rfl (by omega), ?_⟩
      ))
    exact rr_int (sz1_neg (by omega)).symm
  · repeat' (first
 | refine RunsL.step tabOk hn rfl ?_
 | refine RunsL.nil ?_
 | refine Runs.toRegion 30 rfl ?_
 | (refine RunsL.pe hn rfl rfl rfl ?_; first
 | refine ⟨_, pu_sub rfl rfl (by first | omega | (simp only [List.length_map]; omega)), ?_⟩)
 | (refine Runs.ctls 30 rfl ?_; first | refine Runs.cond_t rfl ?_ | ((first | refine Runs.cond_yes rfl ?_ ?_ | refine Runs.cond_nno rfl ?_ ?_); · first | omega | rfl | assumption | (simp only [List.length_map]; omega)) | ((first | refine Runs.cond_no rfl ?_ ?_ | refine Runs.cond_nyes rfl ?_ ?_); · first | omega | rfl | assumption | (simp only [List.length_map]; omega)) | refine Runs.ret (ends_ro hm rfl rfl ?_) | exact Runs.ret (ends_cellR hm rfl rfl rfl (Nat.le_of_ble_eq_true rfl) rfl rfl))
 | (refine RunsL.pe hn rfl rfl rfl ?_; first
 | refine ⟨_, pu_add rfl rfl (by omega), ?_⟩
 | refine ⟨_, pu_indexAddr_map rfl rfl (by omega) (by assumption), ?_⟩
 | refine ⟨_, pu_sub rfl rfl (by omega), ?_⟩
      ))
    refine Runs.loopN 30 rfl (fun j => [(0, .ro (tresR l)), (1, .int (left - l.length - ((l.take j).map Tre.total).sum)), (5, .int (j : Int))]) (fun _ => []) (fun j => ((l.take j).map Tre.total).sum ≤ left - l.length) l.length 0 (Nat.zero_le _) (by simp; omega) ⟨rfl, by simp [look], rfl, trivial⟩ rfl fun j hj hQ next => ?_
    by_cases hlt : j < l.length
    · obtain ⟨x, hx⟩ : ∃ x, l[(j : Int).toNat]? = some x := ⟨_, List.getElem?_eq_getElem hlt⟩
      have hx' : l[j]? = some x := hx
      have hm' := List.mem_of_getElem? hx'
      have hs := sum_take_next Tre.total hx'
      have hle := sum_take_le Tre.total l (j + 1)
      have hcall := ih x hm' (left - l.length - ((l.take j).map Tre.total).sum) (by omega) (by omega) (ho x hm')
      by_cases hz : (left - l.length - ((l.take j).map Tre.total).sum) < (x.total : Int)
      · have e := sz1_neg hz
        rw [e] at hcall
        repeat' (first
 | refine RunsL.step tabOk hn rfl ?_
 | refine RunsL.nil ?_
 | refine Runs.toRegion 30 rfl ?_
 | (refine RunsL.pe hn rfl rfl rfl ?_; first
 | refine ⟨_, pu_callR hcall rfl, ?_⟩
 | refine ⟨_, pu_loadN_eq rfl (Tre.cells_eq _) rfl, ?_⟩)
 | (refine Runs.ctls 30 rfl ?_; first | refine Runs.cond_t rfl ?_ | ((first | refine Runs.cond_yes rfl ?_ ?_ | refine Runs.cond_nno rfl ?_ ?_); · first | omega | rfl | assumption | (simp only [List.length_map]; omega)) | ((first | refine Runs.cond_no rfl ?_ ?_ | refine Runs.cond_nyes rfl ?_ ?_); · first | omega | rfl | assumption | (simp only [List.length_map]; omega)) | refine Runs.ret (ends_ro hm rfl rfl ?_) | exact Runs.ret (ends_cellR hm rfl rfl rfl (Nat.le_of_ble_eq_true rfl) rfl rfl))
 | (refine RunsL.pe hn rfl rfl rfl ?_; first
 | refine ⟨_, pu_add rfl rfl (by omega), ?_⟩
 | refine ⟨_, pu_indexAddr_map rfl rfl (by omega) (by assumption), ?_⟩
 | refine ⟨_, pu_sub rfl rfl (by omega), ?_⟩
            ))
        exact rr_int (sz1_neg (by omega)).symm
      · have e := sz1_pos (left := left - l.length - ((l.take j).map Tre.total).sum) (n := x.total) (by omega)
        rw [e] at hcall
        repeat' (first
 | refine RunsL.step tabOk hn rfl ?_
 | refine RunsL.nil ?_
 | refine Runs.toRegion 30 rfl ?_
 | (refine RunsL.pe hn rfl rfl rfl ?_; first
 | refine ⟨_, pu_callR hcall rfl, ?_⟩
 | refine ⟨_, pu_loadN_eq rfl (Tre.cells_eq _) rfl, ?_⟩)
 | (refine Runs.ctls 30 rfl ?_; first | refine Runs.cond_t rfl ?_ | ((first | refine Runs.cond_yes rfl ?_ ?_ | refine Runs.cond_nno rfl ?_ ?_); · first | omega | rfl | assumption | (simp only [List.length_map]; omega)) | ((first | refine Runs.cond_no rfl ?_ ?_ | refine Runs.cond_nyes rfl ?_ ?_); · first | omega | rfl | assumption | (simp only [List.length_map]; omega)) | refine Runs.ret (ends_ro hm rfl rfl ?_) | exact Runs.ret (ends_cellR hm rfl rfl rfl (Nat.le_of_ble_eq_true rfl) rfl rfl))
 | (refine RunsL.pe hn rfl rfl rfl ?_; first
 | refine ⟨_, pu_add rfl rfl (by omega), ?_⟩
 | refine ⟨_, pu_indexAddr_map rfl rfl (by omega) (by assumption), ?_⟩
 | refine ⟨_, pu_sub rfl rfl (by omega), ?_⟩
            ))
        refine next _ _ ⟨rfl, ?_, rfl, trivial⟩ hlt (by omega) rfl
        exact av_int (by rw [hs]; omega)
    · repeat' (first
 | refine RunsL.step tabOk hn rfl ?_
 | refine RunsL.nil ?_
 | refine Runs.toRegion 30 rfl ?_
 | (refine Runs.ctls 30 rfl ?_; first | refine Runs.cond_t rfl ?_ | ((first | refine Runs.cond_yes rfl ?_ ?_ | refine Runs.cond_nno rfl ?_ ?_); · first | omega | rfl | assumption | (simp only [List.length_map]; omega)) | ((first | refine Runs.cond_no rfl ?_ ?_ | refine Runs.cond_nyes rfl ?_ ?_); · first | omega | rfl | assumption | (simp only [List.length_map]; omega)) | refine Runs.ret (ends_ro hm rfl rfl ?_) | exact Runs.ret (ends_cellR hm rfl rfl rfl (Nat.le_of_ble_eq_true rfl) rfl rfl))
 | (refine RunsL.pe hn rfl rfl rfl ?_; first
 | refine ⟨_, pu_add rfl rfl (by omega), ?_⟩
 | refine ⟨_, pu_indexAddr_map rfl rfl (by omega) (by assumption), ?_⟩
 | refine ⟨_, pu_sub rfl rfl (by omega), ?_⟩
        ))
      obtain rfl : j = l.length := by omega
      rw [List.take_length] at hQ ⊢
      exact rr_int (by rw [sz1_pos (by omega)]; omega)
theorem szTre_ac : ∀ (v : Tre) (left : Int), 0 ≤ left → left ≤ 1048576 → v.Ok → ACv Tryz.prog 5 [treR v, .int left] (.int (sz1 left v.total)) := by
  refine Tre.ind fun v ih left h0 h1 ho => ?_
  obtain ⟨o1, o2, o3, o4⟩ := ho.out
  have hb := szBytes_ac v.bytes left h0 h1 o2
  have ht := v.total_eq
  refine ac_enter Tryz.func5 rfl _ Tryz.ntmps5 (by simp) fun C hn hm => ?_
  by_cases h : left < (v.bytes.length : Int)
  · rw [sz1_neg h] at hb
    repeat' (first
 | refine RunsL.step tabOk hn rfl ?_
 | refine RunsL.nil ?_
 | refine Runs.toRegion 30 rfl ?_
 | (refine RunsL.pe hn rfl rfl rfl ?_; first
 | refine ⟨_, pu_callR hb rfl, ?_⟩)
 | (refine Runs.ctls 30 rfl ?_; first | refine Runs.cond_t rfl ?_ | ((first | refine Runs.cond_yes rfl ?_ ?_ | refine Runs.cond_nno rfl ?_ ?_); · first | omega | rfl | assumption | (simp only [List.length_map]; omega)) | ((first | refine Runs.cond_no rfl ?_ ?_ | refine Runs.cond_nyes rfl ?_ ?_); · first | omega | rfl | assumption | (simp only [List.length_map]; omega)) | refine Runs.ret (ends_ro hm rfl rfl ?_) | exact Runs.ret (ends_cellR hm rfl rfl rfl (Nat.le_of_ble_eq_true rfl) rfl rfl))
 | refine op_box rfl (tl hn rfl) ?_
      )
    exact rr_int (sz1_neg (by omega)).symm
  · rw [sz1_pos (by omega)] at hb
    have hv := szTres_ac v.items ih (left - v.bytes.length) (by omega) (by omega) o3 o4
    by_cases h2 : left - v.bytes.length < ((v.items.length + (v.items.map Tre.total).sum : Nat) : Int)
    · rw [sz1_neg h2] at hv
      repeat' (first
 | refine RunsL.step tabOk hn rfl ?_
 | refine RunsL.nil ?_
 | refine Runs.toRegion 30 rfl ?_
 | (refine RunsL.pe hn rfl rfl rfl ?_; first
 | refine ⟨_, pu_callR hb rfl, ?_⟩
 | refine ⟨_, pu_callR hv rfl, ?_⟩)
 | (refine Runs.ctls 30 rfl ?_; first | refine Runs.cond_t rfl ?_ | ((first | refine Runs.cond_yes rfl ?_ ?_ | refine Runs.cond_nno rfl ?_ ?_); · first | omega | rfl | assumption | (simp only [List.length_map]; omega)) | ((first | refine Runs.cond_no rfl ?_ ?_ | refine Runs.cond_nyes rfl ?_ ?_); · first | omega | rfl | assumption | (simp only [List.length_map]; omega)) | refine Runs.ret (ends_ro hm rfl rfl ?_) | exact Runs.ret (ends_cellR hm rfl rfl rfl (Nat.le_of_ble_eq_true rfl) rfl rfl))
 | refine op_box rfl (tl hn rfl) ?_
        )
      exact rr_int (sz1_neg (by omega)).symm
    · rw [sz1_pos (by omega)] at hv
      repeat' (first
 | refine RunsL.step tabOk hn rfl ?_
 | refine RunsL.nil ?_
 | refine Runs.toRegion 30 rfl ?_
 | (refine RunsL.pe hn rfl rfl rfl ?_; first
 | refine ⟨_, pu_callR hb rfl, ?_⟩
 | refine ⟨_, pu_callR hv rfl, ?_⟩)
 | (refine Runs.ctls 30 rfl ?_; first | refine Runs.cond_t rfl ?_ | ((first | refine Runs.cond_yes rfl ?_ ?_ | refine Runs.cond_nno rfl ?_ ?_); · first | omega | rfl | assumption | (simp only [List.length_map]; omega)) | ((first | refine Runs.cond_no rfl ?_ ?_ | refine Runs.cond_nyes rfl ?_ ?_); · first | omega | rfl | assumption | (simp only [List.length_map]; omega)) | refine Runs.ret (ends_ro hm rfl rfl ?_) | exact Runs.ret (ends_cellR hm rfl rfl rfl (Nat.le_of_ble_eq_true rfl) rfl rfl))
 | refine op_box rfl (tl hn rfl) ?_
        )
      exact rr_int (by rw [sz1_pos (by omega)]; omega)
theorem toTres_ac (l : List Tre) (ih : ∀ x ∈ l, x.total ≤ 1048576 → ACv Tryz.prog 8 [treR x] (treR x)) (hl : l.length ≤ 1048576) (ht : (l.map Tre.total).sum ≤ 1048576) : ACv Tryz.prog 24 [tresR l] (tresR l) := by
  have hl' : (l.map Tre.cells).length = l.length := List.length_map ..
  refine ac_enter Tryz.func24 rfl _ Tryz.ntmps24 (by simp) fun C hn hm => ?_
  repeat' (first
 | refine RunsL.step tabOk hn rfl ?_
 | refine RunsL.nil ?_
 | refine Runs.toRegion 30 rfl ?_
 | refine op_makeN (zs := [.int .i64 0, .slice none 0 0, .slice none 0 0]) rfl rfl rfl rfl (by decide) rfl (by omega) (by unfold maxLen; omega) (tl hn rfl) ?_
 | (refine Runs.ctls 30 rfl ?_; first | ((first | refine Runs.cond_yes rfl ?_ ?_ | refine Runs.cond_nno rfl ?_ ?_); · first | omega | rfl | assumption | (simp only [List.length_map]; omega)) | ((first | refine Runs.cond_no rfl ?_ ?_ | refine Runs.cond_nyes rfl ?_ ?_); · first | omega | rfl | assumption | (simp only [List.length_map]; omega)) | refine Runs.ret (ends_ro hm rfl rfl ?_) | exact Runs.ret (ends_cellR hm rfl rfl rfl (Nat.le_of_ble_eq_true rfl) rfl rfl))
 | refine op_storeN rfl rfl rfl rfl (Nat.le_of_ble_eq_true rfl) ?_
 | (refine RunsL.pe hn rfl rfl rfl ?_; first
 | refine ⟨_, pu_add rfl rfl (by omega), ?_⟩
 | refine ⟨_, pu_indexAddr_map rfl rfl (by omega) (by assumption), ?_⟩
      ))
  refine Runs.loopN 30 rfl (fun j => [(0, .ro (tresR l)), (3, .own 0), (4, .int (j : Int))]) (fun j => [⟨39, 3, (filled Tre.cells [.int 0, .nil, .nil] l j).map .ro⟩]) (fun _ => True) l.length 0 (Nat.zero_le _) trivial ⟨rfl, rfl, rfl, trivial⟩ (by rw [filled_zero, hl']; rfl) fun j hj _ next => ?_
  have hlen := filled_len Tre.cells_len (zc := [.int 0, .nil, .nil]) rfl l j hj
  by_cases hlt : j < l.length
  · obtain ⟨x, hx⟩ : ∃ x, l[(j : Int).toNat]? = some x := ⟨_, List.getElem?_eq_getElem hlt⟩
    have hm' := List.mem_of_getElem? hx
    have hcall := ih x hm' (Nat.le_trans (sum_mem_le Tre.total hm') ht)
    repeat' (first
 | refine RunsL.step tabOk hn rfl ?_
 | refine RunsL.nil ?_
 | refine Runs.toRegion 30 rfl ?_
 | refine op_storeN rfl rfl rfl rfl (by simp only [List.length_map, List.length_cons, List.length_nil]; omega) ?_
 | (refine RunsL.pe hn rfl rfl rfl ?_; first
 | refine ⟨_, pu_callR hcall rfl, ?_⟩
 | refine ⟨_, pu_loadN_eq rfl (Tre.cells_eq _) rfl, ?_⟩
 | refine ⟨_, pu_indexAddr_own (n := l.length) rfl rfl rfl rfl (by simp only [List.length_map]; omega) (by omega) (by omega), ?_⟩)
 | (refine Runs.ctls 30 rfl ?_; first | ((first | refine Runs.cond_yes rfl ?_ ?_ | refine Runs.cond_nno rfl ?_ ?_); · first | omega | rfl | assumption | (simp only [List.length_map]; omega)) | ((first | refine Runs.cond_no rfl ?_ ?_ | refine Runs.cond_nyes rfl ?_ ?_); · first | omega | rfl | assumption | (simp only [List.length_map]; omega)) | refine Runs.ret (ends_ro hm rfl rfl ?_) | exact Runs.ret (ends_cellR hm rfl rfl rfl (Nat.le_of_ble_eq_true rfl) rfl rfl))
 | refine op_storeN rfl rfl rfl rfl (Nat.le_of_ble_eq_true rfl) ?_
 | (refine RunsL.pe hn rfl rfl rfl ?_; first
 | refine ⟨_, pu_add rfl rfl (by omega), ?_⟩
 | refine ⟨_, pu_indexAddr_map rfl rfl (by omega) (by assumption), ?_⟩
        ))
    refine next _ _ ⟨rfl, rfl, rfl, trivial⟩ hlt trivial ?_
    rw [← filled_set Tre.cells_len rfl l j x hx, Tre.cells_eq]
    rfl
  · obtain rfl : j = l.length := by omega
    repeat' (first
 | refine RunsL.step tabOk hn rfl ?_
 | refine RunsL.nil ?_
 | refine Runs.toRegion 30 rfl ?_
 | (refine Runs.ctls 30 rfl ?_; first | ((first | refine Runs.cond_yes rfl ?_ ?_ | refine Runs.cond_nno rfl ?_ ?_); · first | omega | rfl | assumption | (simp only [List.length_map]; omega)) | ((first | refine Runs.cond_no rfl ?_ ?_ | refine Runs.cond_nyes rfl ?_ ?_); · first | omega | rfl | assumption | (simp only [List.length_map]; omega)) | refine Runs.ret (ends_ro hm rfl rfl ?_) | exact Runs.ret (ends_cellR hm rfl rfl rfl (Nat.le_of_ble_eq_true rfl) rfl rfl))
 | refine op_storeN rfl rfl rfl rfl (Nat.le_of_ble_eq_true rfl) ?_
 | (refine RunsL.pe hn rfl rfl rfl ?_; first
 | refine ⟨_, pu_add rfl rfl (by omega), ?_⟩
 | refine ⟨_, pu_indexAddr_map rfl rfl (by omega) (by assumption), ?_⟩
        ))
    exact Runs.ctls 30 rfl (Runs.ret (ends_ownR (els := l.map Tre.cells) hm rfl rfl rfl rfl (by rw [filled_full]) (by simp [Tre.cells_len])))
theorem toTre_ac : ∀ v : Tre, v.total ≤ 1048576 → ACv Tryz.prog 8 [treR v] (treR v) := by
  refine Tre.ind fun v ih ht => ?_
  have he := v.total_eq
  have hb := toBytes_ac v.bytes (by omega)
  have hi := toTres_ac v.items ih (by omega) (by omega)
  refine ac_enter Tryz.func8 rfl _ Tryz.ntmps8 (by simp) fun C hn hm => ?_
  repeat' (first
 | refine RunsL.step tabOk hn rfl ?_
 | refine RunsL.nil ?_
 | refine Runs.toRegion 30 rfl ?_
 | (refine RunsL.pe hn rfl rfl rfl ?_; first
 | refine ⟨_, pu_callR hb rfl, ?_⟩
 | refine ⟨_, pu_callR hi rfl, ?_⟩)
 | (refine Runs.ctls 30 rfl ?_; first | ((first | refine Runs.cond_yes rfl ?_ ?_ | refine Runs.cond_nno rfl ?_ ?_); · first | omega | rfl | assumption | (simp only [List.length_map]; omega)) | ((first | refine Runs.cond_no rfl ?_ ?_ | refine Runs.cond_nyes rfl ?_ ?_); · first | omega | rfl | assumption | (simp only [List.length_map]; omega)) | refine Runs.ret (ends_ro hm rfl rfl ?_) | exact Runs.ret (ends_cellR hm rfl rfl rfl (Nat.le_of_ble_eq_true rfl) rfl rfl))
 | refine op_box rfl (tl hn rfl) ?_
 | refine op_storeF rfl rfl rfl rfl (Nat.le_of_ble_eq_true rfl) ?_
 | refine op_alloc (tl hn rfl) ?_
 | refine op_storeN rfl rfl rfl rfl (Nat.le_of_ble_eq_true rfl) ?_
    )
theorem eqTres_ac (l : List Tre) (ih : ∀ x ∈ l, x.Ok → ACv Tryz.prog 12 [treR x, treR x] (.bool true)) (hl : l.length ≤ maxLen) (ho : ∀ x ∈ l, x.Ok) : ACv Tryz.prog 29 [tresR l, tresR l] (.bool true) := by
  unfold maxLen at hl
  refine ac_enter Tryz.func29 rfl _ Tryz.ntmps29 (by simp) fun C hn hm => ?_
  repeat' (first
 | refine RunsL.step tabOk hn rfl ?_
 | refine RunsL.nil ?_
 | refine Runs.toRegion 30 rfl ?_
 | (refine Runs.ctls 30 rfl ?_; first | refine Runs.cond_f rfl ?_ | ((first | refine Runs.cond_yes rfl ?_ ?_ | refine Runs.cond_nno rfl ?_ ?_); · first | omega | rfl | assumption | (simp only [List.length_map]; omega)) | ((first | refine Runs.cond_no rfl ?_ ?_ | refine Runs.cond_nyes rfl ?_ ?_); · first | omega | rfl | assumption | (simp only [List.length_map]; omega)) | refine Runs.ret (ends_ro hm rfl rfl ?_) | exact Runs.ret (ends_cellR hm rfl rfl rfl (Nat.le_of_ble_eq_true rfl) rfl rfl))
 | refine RunsD.step tabOk hn rfl rfl ?_
 | refine RunsD.nil ?_
 | refine Runs.toDraw 30 mixed hn rfl (by kernel_rfl) rfl ?_
 | ((first | refine RunsL.pe hn rfl rfl rfl ?_ | refine RunsD.pe rfl rfl ?_); first
 | refine ⟨_, pu_add rfl rfl (by omega), ?_⟩
 | refine ⟨_, pu_indexAddr_map rfl rfl (by omega) (by assumption), ?_⟩
 | refine ⟨_, pu_sub rfl rfl (by omega), ?_⟩
 | refine ⟨_, pu_pick_b rfl rfl rfl, ?_⟩
 | refine ⟨_, pu_mul rfl rfl (by omega), ?_⟩
 | refine ⟨_, pu_build rfl rfl rfl rfl rfl rfl, ?_⟩))
  refine Runs.loopN 30 rfl (fun j => [(0, .ro (tresR l)), (1, .ro (tresR l)), (5, .int (j : Int))]) (fun _ => []) (fun _ => True) l.length 0 (Nat.zero_le _) trivial ⟨rfl, rfl, rfl, trivial⟩ rfl fun j hj _ next => ?_
  by_cases hlt : j < l.length
  · obtain ⟨x, hx⟩ : ∃ x, l[(j : Int).toNat]? = some x := ⟨_, List.getElem?_eq_getElem hlt⟩
    have hm' := List.mem_of_getElem? hx
    have hcall := ih x hm' (ho x hm')
    repeat' (first
 | refine RunsL.step tabOk hn rfl ?_
 | refine RunsL.nil ?_
 | refine Runs.toRegion 30 rfl ?_
 | ((first | refine RunsL.pe hn rfl rfl rfl ?_ | refine RunsD.pe rfl rfl ?_); first
 | refine ⟨_, pu_callR hcall rfl, ?_⟩
 | refine ⟨_, pu_loadN_eq rfl (Tre.cells_eq _) rfl, ?_⟩)
 | (refine Runs.ctls 30 rfl ?_; first | refine Runs.cond_f rfl ?_ | ((first | refine Runs.cond_yes rfl ?_ ?_ | refine Runs.cond_nno rfl ?_ ?_); · first | omega | rfl | assumption | (simp only [List.length_map]; omega)) | ((first | refine Runs.cond_no rfl ?_ ?_ | refine Runs.cond_nyes rfl ?_ ?_); · first | omega | rfl | assumption | (simp only [List.length_map]; omega)) | refine Runs.ret (ends_ro hm rfl rfl ?_) | exact Runs.ret (ends_cellR hm rfl rfl rfl (Nat.le_of_ble_eq_true rfl) rfl rfl))
 | refine RunsD.step tabOk hn rfl rfl ?_
 | refine RunsD.nil ?_
 | refine Runs.toDraw 30 mixed hn rfl (by kernel_rfl) rfl ?_
 | ((first | refine RunsL.pe hn rfl rfl rfl ?_ | refine RunsD.pe rfl rfl ?_); first
 | refine ⟨_, pu_add rfl rfl (by omega), ?_⟩
 | refine ⟨_, pu_indexAddr_map rfl rfl (by omega) (by assumption), ?_⟩
 | refine ⟨_, pu_sub rfl rfl (by omega), ?_⟩
 | refine ⟨_, pu_pick_b rfl rfl rfl, ?_⟩
 | refine ⟨_, pu_mul rfl rfl (by omega), ?_⟩
 | refine ⟨_, pu_build rfl rfl rfl rfl rfl rfl, ?_⟩))
    exact next _ _ ⟨rfl, rfl, rfl, trivial⟩ hlt trivial rfl
  · repeat' (first
 | refine RunsL.step tabOk hn rfl ?_
 | refine RunsL.nil ?_
 | refine Runs.toRegion 30 rfl ?_
 | (refine Runs.ctls 30 rfl ?_; first | refine Runs.cond_f rfl ?_ | ((first | refine Runs.cond_yes rfl ?_ ?_ | refine Runs.cond_nno rfl ?_ ?_); · first | omega | rfl | assumption | (simp only [List.length_map]; omega)) | ((first | refine Runs.cond_no rfl ?_ ?_ | refine Runs.cond_nyes rfl ?_ ?_); · first | omega | rfl | assumption | (simp only [List.length_map]; omega)) | refine Runs.ret (ends_ro hm rfl rfl ?_) | exact Runs.ret (ends_cellR hm rfl rfl rfl (Nat.le_of_ble_eq_true rfl) rfl rfl))
 | refine RunsD.step tabOk hn rfl rfl ?_
 | refine RunsD.nil ?_
 | refine Runs.toDraw 30 mixed hn rfl (by kernel_rfl) rfl ?_
 | ((first | refine RunsL.pe hn rfl rfl rfl ?_ | refine RunsD.pe rfl rfl ?_); first
 | refine ⟨_, pu_add rfl rfl (by omega), ?_⟩
 | refine ⟨_, pu_indexAddr_map rfl rfl (by omega) (by assumption), ?_⟩
 | refine ⟨_, pu_sub rfl rfl (by omega), ?_⟩
 | refine ⟨_, pu_pick_b rfl rfl rfl, ?_⟩
 | refine ⟨_, pu_mul rfl rfl (by omega), ?_⟩
 | refine ⟨_, pu_build rfl rfl rfl rfl rfl rfl, ?_⟩))
    exact rr_bool rfl
theorem eqTre_ac : ∀ v : Tre, v.Ok → ACv Tryz.prog 12 [treR v, treR v] (.bool true) := by
  refine Tre.ind fun v ih ho => ?_
  obtain ⟨o1, o2, o3, o4⟩ := ho.out
  have hb := eqBytes_ac v.bytes o2
  have hi := eqTres_ac v.items ih o3 o4
  refine ac_enter Tryz.func12 rfl _ Tryz.ntmps12 (by simp) fun C hn hm => ?_
  repeat' (first
 | refine RunsL.step tabOk hn rfl ?_
 | refine RunsL.nil ?_
 | refine Runs.toRegion 30 rfl ?_
 | (refine RunsL.pe hn rfl rfl rfl ?_; first
 | refine ⟨_, pu_callR hb rfl, ?_⟩
 | refine ⟨_, pu_callR hi rfl, ?_⟩)
 | (refine Runs.ctls 30 rfl ?_; first | refine Runs.cond_f rfl ?_ | ((first | refine Runs.cond_yes rfl ?_ ?_ | refine Runs.cond_nno rfl ?_ ?_); · first | omega | rfl | assumption | (simp only [List.length_map]; omega)) | ((first | refine Runs.cond_no rfl ?_ ?_ | refine Runs.cond_nyes rfl ?_ ?_); · first | omega | rfl | assumption | (simp only [List.length_map]; omega)) | refine Runs.ret (ends_ro hm rfl rfl ?_) | exact Runs.ret (ends_cellR hm rfl rfl rfl (Nat.le_of_ble_eq_true rfl) rfl rfl))
 | refine op_box rfl (tl hn rfl) ?_
    )
  exact rr_bool rfl
noncomputable instance : DecidableEq Tre := fun a b => Classical.propDecidable _
end Go.Proofs.YtkmoffefhlmgeaaGreatDoor
