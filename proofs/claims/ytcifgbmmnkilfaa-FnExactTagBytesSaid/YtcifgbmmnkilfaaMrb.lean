/- Marks on rows of bytes. -/
import Derived.Test.YtcifgbmmnkilfaaMri
namespace Go.Proofs.Ytcifgbmmnkilfaa
set_option linter.unusedSimpArgs false
set_option linter.unusedVariables false
open Go.RowKit
open AV (Mem Keeps)
def mkB (k : Int) : Value := .int .u8 (IntKind.u8.wrap k)
set_option maxHeartbeats 8000000 in
theorem markByteS_mk (l : List UInt8) (k : Int) (h0 : 0 ≤ k) (hk : k ≤ 4611686018427387904) (hll : l.length ≤ 4194304) : MK Try.prog 43 (bytesO l) k (k + l.length) (.row 5 1 (((seqI k l.length).map mkB).map .c)) := by
  intro w u bs h hnd hlt
  have hl : (l.map fun z => Value.int .u8 (z.toNat : Int)).length = l.length := List.length_map ..
  rcases row_block h with ⟨rfl, h1, rfl⟩ | ⟨g, cap, cur, rfl, rfl, hh, c1, c2, c3, ht⟩
  · obtain rfl : l = [] := by simpa using h1
    refine mark_enter (X := fun w' => OV.rel w' (.row 5 1 (((seqI k 0).map mkB).map .c)) (.slice none 0 0) []) Try.func43 rfl _ Try.ntmps43 (by simp) hlt ?_
    generalize hC0 : (⟨w, fun b => b ∉ ([] : List Nat), fun _ => False, _⟩ : Ctx) = C0
    have hn : C0.n = 20 := by rw [← hC0]
    have hm0 : ∀ b, ¬ C0.mu b := by rw [← hC0]; exact fun _ h => h
    repeat' (first
      | refine RunsL.step tabOk hn rfl ?_
      | refine RunsL.nil ?_
      | refine Runs.toRegion 30 rfl ?_
      | (refine Runs.ctls 30 rfl ?_; first | refine Runs.cond_t rfl ?_ | refine Runs.cond_f rfl ?_ | ((first | refine Runs.cond_yes rfl ?_ ?_ | refine Runs.cond_nno rfl ?_ ?_); · first | omega | rfl | assumption | (simp only [List.length_map]; omega)) | ((first | refine Runs.cond_no rfl ?_ ?_ | refine Runs.cond_nyes rfl ?_ ?_); · first | omega | rfl | assumption | (simp only [List.length_map]; omega)) | refine Runs.cond_dec rfl (fun h => ?_) (fun h => ?_) | refine Runs.cond_ndec rfl (fun h => ?_) (fun h => ?_) | refine Runs.cond_nb rfl (fun h => ?_) (fun h => ?_) | refine Runs.cond_b rfl (fun h => ?_) (fun h => ?_) | refine Runs.ret (ends_ro hm rfl rfl ?_) | exact Runs.ret (ends_cellR hm rfl rfl rfl (Nat.le_of_ble_eq_true rfl) rfl rfl))
      | refine op_box rfl (tl hn rfl) ?_
      | refine op_storeF rfl rfl rfl rfl (Nat.le_of_ble_eq_true rfl) ?_
      | refine op_alloc (tl hn rfl) ?_
      | refine op_storeN rfl rfl rfl rfl (Nat.le_of_ble_eq_true rfl) ?_
      | refine RunsD.step tabOk hn rfl rfl ?_
      | refine RunsD.nil ?_
      | refine Runs.toDraw 30 mixed hn rfl (by kernel_rfl) rfl ?_
      | ((first | refine RunsL.pe hn rfl rfl rfl ?_ | refine RunsD.pe rfl rfl ?_); first
        | refine ⟨_, pu_add rfl rfl (by omega), ?_⟩
        | refine ⟨_, pu_indexAddr_map rfl rfl (by omega) (by assumption), ?_⟩
        | refine ⟨_, pu_sub rfl rfl (by omega), ?_⟩
        | refine ⟨_, pu_pick_b rfl rfl rfl, ?_⟩
        | refine ⟨_, pu_mul rfl rfl (by omega), ?_⟩
        | refine ⟨_, pu_build rfl rfl rfl rfl rfl rfl, ?_⟩)
      | ((first | refine RunsL.guard_dec rfl rfl rfl ?_ ?_ | refine RunsL.guard_ndec rfl rfl rfl ?_ ?_ | refine RunsL.guard_nb rfl rfl rfl ?_ ?_ | refine RunsL.guard_b rfl rfl rfl ?_ ?_ | refine RunsD.guard_dec rfl rfl rfl ?_ ?_ | refine RunsD.guard_ndec rfl rfl rfl ?_ ?_ | refine RunsD.guard_nb rfl rfl rfl ?_ ?_ | refine RunsD.guard_b rfl rfl rfl ?_ ?_) <;> intro h <;> try (exfalso; first | omega | contradiction | (simp only [List.length_map] at h; omega))))
    refine Runs.ctls 30 rfl (Runs.keep [(0, .ro (.c (.slice none 0 0))), (1, .int k), (5, .int 0)] ⟨rfl, rfl, rfl, trivial⟩ ?_)
    refine Runs.loopV (fun n C S => C = C0 ∧ S = ⟨[(0, .ro (.c (.slice none 0 0))), (1, .int k), (5, .int 0)], []⟩) ?_ 0 C0 _ ⟨rfl, rfl⟩
    rintro n C S ⟨rfl, rfl⟩ ih
    repeat' (first
      | refine RunsL.step tabOk hn rfl ?_
      | refine RunsL.nil ?_
      | refine Runs.toRegion 30 rfl ?_
      | ((first | refine RunsL.pe hn rfl rfl rfl ?_ | refine RunsD.pe rfl rfl ?_); first
        | refine ⟨_, pu_lenC rfl, ?_⟩)
      | (refine Runs.ctls 30 rfl ?_; first | refine Runs.cond_t rfl ?_ | refine Runs.cond_f rfl ?_ | ((first | refine Runs.cond_yes rfl ?_ ?_ | refine Runs.cond_nno rfl ?_ ?_); · first | omega | rfl | assumption | (simp only [List.length_map]; omega)) | ((first | refine Runs.cond_no rfl ?_ ?_ | refine Runs.cond_nyes rfl ?_ ?_); · first | omega | rfl | assumption | (simp only [List.length_map]; omega)) | refine Runs.cond_dec rfl (fun h => ?_) (fun h => ?_) | refine Runs.cond_ndec rfl (fun h => ?_) (fun h => ?_) | refine Runs.cond_nb rfl (fun h => ?_) (fun h => ?_) | refine Runs.cond_b rfl (fun h => ?_) (fun h => ?_) | refine Runs.ret (ends_ro hm rfl rfl ?_) | exact Runs.ret (ends_cellR hm rfl rfl rfl (Nat.le_of_ble_eq_true rfl) rfl rfl))
      | refine op_box rfl (tl hn rfl) ?_
      | refine op_storeF rfl rfl rfl rfl (Nat.le_of_ble_eq_true rfl) ?_
      | refine op_alloc (tl hn rfl) ?_
      | refine op_storeN rfl rfl rfl rfl (Nat.le_of_ble_eq_true rfl) ?_
      | refine RunsD.step tabOk hn rfl rfl ?_
      | refine RunsD.nil ?_
      | refine Runs.toDraw 30 mixed hn rfl (by kernel_rfl) rfl ?_
      | ((first | refine RunsL.pe hn rfl rfl rfl ?_ | refine RunsD.pe rfl rfl ?_); first
        | refine ⟨_, pu_add rfl rfl (by omega), ?_⟩
        | refine ⟨_, pu_indexAddr_map rfl rfl (by omega) (by assumption), ?_⟩
        | refine ⟨_, pu_sub rfl rfl (by omega), ?_⟩
        | refine ⟨_, pu_pick_b rfl rfl rfl, ?_⟩
        | refine ⟨_, pu_mul rfl rfl (by omega), ?_⟩
        | refine ⟨_, pu_build rfl rfl rfl rfl rfl rfl, ?_⟩)
      | ((first | refine RunsL.guard_dec rfl rfl rfl ?_ ?_ | refine RunsL.guard_ndec rfl rfl rfl ?_ ?_ | refine RunsL.guard_nb rfl rfl rfl ?_ ?_ | refine RunsL.guard_b rfl rfl rfl ?_ ?_ | refine RunsD.guard_dec rfl rfl rfl ?_ ?_ | refine RunsD.guard_ndec rfl rfl rfl ?_ ?_ | refine RunsD.guard_nb rfl rfl rfl ?_ ?_ | refine RunsD.guard_b rfl rfl rfl ?_ ?_) <;> intro h <;> try (exfalso; first | omega | contradiction | (simp only [List.length_map] at h; omega))))
    refine Runs.ctls 30 rfl (Runs.ret (endsM (Nx.refl _ _) hm0 rfl (by show look _ _ = _; simp [look]) fun φ w hG => ?_))
    simp only [seqI, OV.rel, List.range_zero, List.map_nil, OV.rels]
    exact ⟨0, [], [], rfl, by omega, ⟨rfl, rfl⟩, by simp, ⟨rfl, .inl ⟨rfl, rfl⟩⟩, rfl⟩
  · rw [hl] at c1 ht ⊢
    refine mark_enter (X := fun w' => OV.rel w' (.row 5 1 (((seqI k l.length).map mkB).map .c)) (.slice (some ⟨g, 0, none⟩) l.length cap) [g]) Try.func43 rfl _ Try.ntmps43 (by simp) hlt ?_
    generalize hC0 : (⟨w, fun b => b ∉ [g], fun _ => False, _⟩ : Ctx) = C0
    have hn : C0.n = 20 := by rw [← hC0]
    have hm0 : ∀ b, ¬ C0.mu b := by rw [← hC0]; exact fun _ h => h
    have hb0 : Bk C0 g cur 5 := by rw [← hC0]; exact ⟨hh, fun h => h, fun h => h (by simp)⟩
    repeat' (first
      | refine RunsL.step tabOk hn rfl ?_
      | refine RunsL.nil ?_
      | refine Runs.toRegion 30 rfl ?_
      | (refine Runs.ctls 30 rfl ?_; first | refine Runs.cond_t rfl ?_ | refine Runs.cond_f rfl ?_ | ((first | refine Runs.cond_yes rfl ?_ ?_ | refine Runs.cond_nno rfl ?_ ?_); · first | omega | rfl | assumption | (simp only [List.length_map]; omega)) | ((first | refine Runs.cond_no rfl ?_ ?_ | refine Runs.cond_nyes rfl ?_ ?_); · first | omega | rfl | assumption | (simp only [List.length_map]; omega)) | refine Runs.cond_dec rfl (fun h => ?_) (fun h => ?_) | refine Runs.cond_ndec rfl (fun h => ?_) (fun h => ?_) | refine Runs.cond_nb rfl (fun h => ?_) (fun h => ?_) | refine Runs.cond_b rfl (fun h => ?_) (fun h => ?_) | refine Runs.ret (ends_ro hm rfl rfl ?_) | exact Runs.ret (ends_cellR hm rfl rfl rfl (Nat.le_of_ble_eq_true rfl) rfl rfl))
      | refine op_box rfl (tl hn rfl) ?_
      | refine op_storeF rfl rfl rfl rfl (Nat.le_of_ble_eq_true rfl) ?_
      | refine op_alloc (tl hn rfl) ?_
      | refine op_storeN rfl rfl rfl rfl (Nat.le_of_ble_eq_true rfl) ?_
      | refine RunsD.step tabOk hn rfl rfl ?_
      | refine RunsD.nil ?_
      | refine Runs.toDraw 30 mixed hn rfl (by kernel_rfl) rfl ?_
      | ((first | refine RunsL.pe hn rfl rfl rfl ?_ | refine RunsD.pe rfl rfl ?_); first
        | refine ⟨_, pu_add rfl rfl (by omega), ?_⟩
        | refine ⟨_, pu_indexAddr_map rfl rfl (by omega) (by assumption), ?_⟩
        | refine ⟨_, pu_sub rfl rfl (by omega), ?_⟩
        | refine ⟨_, pu_pick_b rfl rfl rfl, ?_⟩
        | refine ⟨_, pu_mul rfl rfl (by omega), ?_⟩
        | refine ⟨_, pu_build rfl rfl rfl rfl rfl rfl, ?_⟩)
      | ((first | refine RunsL.guard_dec rfl rfl rfl ?_ ?_ | refine RunsL.guard_ndec rfl rfl rfl ?_ ?_ | refine RunsL.guard_nb rfl rfl rfl ?_ ?_ | refine RunsL.guard_b rfl rfl rfl ?_ ?_ | refine RunsD.guard_dec rfl rfl rfl ?_ ?_ | refine RunsD.guard_ndec rfl rfl rfl ?_ ?_ | refine RunsD.guard_nb rfl rfl rfl ?_ ?_ | refine RunsD.guard_b rfl rfl rfl ?_ ?_) <;> intro h <;> try (exfalso; first | omega | contradiction | (simp only [List.length_map] at h; omega))))
    refine Runs.ctls 30 rfl (Runs.keep [(0, .ro (.c (.slice (some ⟨g, 0, none⟩) l.length cap))), (1, .int k), (5, .int 0)] ⟨rfl, rfl, rfl, trivial⟩ ?_)
    refine Runs.loopV (fun n C S => ∃ (j : Nat) (cu : Array Value), j + n = l.length ∧ C.n = 20 ∧ Nx C0 C [g] ∧ Bk C g cu 5 ∧ cu.size = cap ∧ cu.toList.take l.length = (seqI k j).map (mkB) ++ (l.map fun z => Value.int .u8 (z.toNat : Int)).drop j ∧ S = ⟨[(0, .ro (.c (.slice (some ⟨g, 0, none⟩) l.length cap))), (1, .int (k + j)), (5, .int (j : Int))], []⟩) ?_ l.length C0 _ ⟨0, cur, by omega, hn, Nx.refl _ _, hb0, c3, by rw [ht]; rfl, by rw [show k + ((0 : Nat) : Int) = k by omega]; rfl⟩
    rintro n C S ⟨j, cu, hj, hn, hnx, hb, hcu, htk, rfl⟩ ih
    by_cases hlt' : j < l.length
    · repeat' (first
      | (refine op_storeC rfl rfl rfl hb (by simp; omega) fun C' nx hb' => ?_; have hn := nx.n.trans hn)
      | refine RunsL.step tabOk hn rfl ?_
      | refine RunsL.nil ?_
      | refine Runs.toRegion 30 rfl ?_
      | ((first | refine RunsL.pe hn rfl rfl rfl ?_ | refine RunsD.pe rfl rfl ?_); first
        | refine ⟨_, pu_convert inferInstance inferInstance rfl, ?_⟩
        | refine ⟨_, pu_lenC rfl, ?_⟩
        | refine ⟨_, pu_indexC rfl rfl (by omega) (by omega), ?_⟩)
      | (refine Runs.ctls 30 rfl ?_; first | refine Runs.cond_t rfl ?_ | refine Runs.cond_f rfl ?_ | ((first | refine Runs.cond_yes rfl ?_ ?_ | refine Runs.cond_nno rfl ?_ ?_); · first | omega | rfl | assumption | (simp only [List.length_map]; omega)) | ((first | refine Runs.cond_no rfl ?_ ?_ | refine Runs.cond_nyes rfl ?_ ?_); · first | omega | rfl | assumption | (simp only [List.length_map]; omega)) | refine Runs.cond_dec rfl (fun h => ?_) (fun h => ?_) | refine Runs.cond_ndec rfl (fun h => ?_) (fun h => ?_) | refine Runs.cond_nb rfl (fun h => ?_) (fun h => ?_) | refine Runs.cond_b rfl (fun h => ?_) (fun h => ?_) | refine Runs.ret (ends_ro hm rfl rfl ?_) | exact Runs.ret (ends_cellR hm rfl rfl rfl (Nat.le_of_ble_eq_true rfl) rfl rfl))
      | refine op_box rfl (tl hn rfl) ?_
      | refine op_storeF rfl rfl rfl rfl (Nat.le_of_ble_eq_true rfl) ?_
      | refine op_alloc (tl hn rfl) ?_
      | refine op_storeN rfl rfl rfl rfl (Nat.le_of_ble_eq_true rfl) ?_
      | refine RunsD.step tabOk hn rfl rfl ?_
      | refine RunsD.nil ?_
      | refine Runs.toDraw 30 mixed hn rfl (by kernel_rfl) rfl ?_
      | ((first | refine RunsL.pe hn rfl rfl rfl ?_ | refine RunsD.pe rfl rfl ?_); first
        | refine ⟨_, pu_add rfl rfl (by omega), ?_⟩
        | refine ⟨_, pu_indexAddr_map rfl rfl (by omega) (by assumption), ?_⟩
        | refine ⟨_, pu_sub rfl rfl (by omega), ?_⟩
        | refine ⟨_, pu_pick_b rfl rfl rfl, ?_⟩
        | refine ⟨_, pu_mul rfl rfl (by omega), ?_⟩
        | refine ⟨_, pu_build rfl rfl rfl rfl rfl rfl, ?_⟩)
      | ((first | refine RunsL.guard_dec rfl rfl rfl ?_ ?_ | refine RunsL.guard_ndec rfl rfl rfl ?_ ?_ | refine RunsL.guard_nb rfl rfl rfl ?_ ?_ | refine RunsL.guard_b rfl rfl rfl ?_ ?_ | refine RunsD.guard_dec rfl rfl rfl ?_ ?_ | refine RunsD.guard_ndec rfl rfl rfl ?_ ?_ | refine RunsD.guard_nb rfl rfl rfl ?_ ?_ | refine RunsD.guard_b rfl rfl rfl ?_ ?_) <;> intro h <;> try (exfalso; first | omega | contradiction | (simp only [List.length_map] at h; omega))))
      have e : ((j : Int).toNat * 1) = j := by omega
      rw [e] at hb'
      have hmn := mark_next (f := mkB) (k := k) (vs := l.map fun z => Value.int .u8 (z.toNat : Int)) (cur := cu) (by omega) hl hlt' htk
      refine Runs.ctls 30 rfl (Runs.keep [(0, .ro (.c (.slice (some ⟨g, 0, none⟩) l.length cap))), (1, .int (k + ((j + 1 : Nat) : Int))), (5, .int ((j + 1 : Nat) : Int))] ⟨rfl, by simp only [look]; exact av_int (by omega), by simp only [look]; exact av_int (by omega), trivial⟩ (ih (n - 1) (by omega) _ _ ⟨j + 1, _, by omega, hn, (hnx.trans nx).sub (by simp), hb', by simpa using hcu, hmn, rfl⟩))
    · obtain rfl : j = l.length := by omega
      repeat' (first
        | refine RunsL.step tabOk hn rfl ?_
        | refine RunsL.nil ?_
        | refine Runs.toRegion 30 rfl ?_
        | ((first | refine RunsL.pe hn rfl rfl rfl ?_ | refine RunsD.pe rfl rfl ?_); first
          | refine ⟨_, pu_lenC rfl, ?_⟩)
        | (refine Runs.ctls 30 rfl ?_; first | refine Runs.cond_t rfl ?_ | refine Runs.cond_f rfl ?_ | ((first | refine Runs.cond_yes rfl ?_ ?_ | refine Runs.cond_nno rfl ?_ ?_); · first | omega | rfl | assumption | (simp only [List.length_map]; omega)) | ((first | refine Runs.cond_no rfl ?_ ?_ | refine Runs.cond_nyes rfl ?_ ?_); · first | omega | rfl | assumption | (simp only [List.length_map]; omega)) | refine Runs.cond_dec rfl (fun h => ?_) (fun h => ?_) | refine Runs.cond_ndec rfl (fun h => ?_) (fun h => ?_) | refine Runs.cond_nb rfl (fun h => ?_) (fun h => ?_) | refine Runs.cond_b rfl (fun h => ?_) (fun h => ?_) | refine Runs.ret (ends_ro hm rfl rfl ?_) | exact Runs.ret (ends_cellR hm rfl rfl rfl (Nat.le_of_ble_eq_true rfl) rfl rfl))
        | refine op_box rfl (tl hn rfl) ?_
        | refine op_storeF rfl rfl rfl rfl (Nat.le_of_ble_eq_true rfl) ?_
        | refine op_alloc (tl hn rfl) ?_
        | refine op_storeN rfl rfl rfl rfl (Nat.le_of_ble_eq_true rfl) ?_
        | refine RunsD.step tabOk hn rfl rfl ?_
        | refine RunsD.nil ?_
        | refine Runs.toDraw 30 mixed hn rfl (by kernel_rfl) rfl ?_
        | ((first | refine RunsL.pe hn rfl rfl rfl ?_ | refine RunsD.pe rfl rfl ?_); first
          | refine ⟨_, pu_add rfl rfl (by omega), ?_⟩
          | refine ⟨_, pu_indexAddr_map rfl rfl (by omega) (by assumption), ?_⟩
          | refine ⟨_, pu_sub rfl rfl (by omega), ?_⟩
          | refine ⟨_, pu_pick_b rfl rfl rfl, ?_⟩
          | refine ⟨_, pu_mul rfl rfl (by omega), ?_⟩
          | refine ⟨_, pu_build rfl rfl rfl rfl rfl rfl, ?_⟩)
        | ((first | refine RunsL.guard_dec rfl rfl rfl ?_ ?_ | refine RunsL.guard_ndec rfl rfl rfl ?_ ?_ | refine RunsL.guard_nb rfl rfl rfl ?_ ?_ | refine RunsL.guard_b rfl rfl rfl ?_ ?_ | refine RunsD.guard_dec rfl rfl rfl ?_ ?_ | refine RunsD.guard_ndec rfl rfl rfl ?_ ?_ | refine RunsD.guard_nb rfl rfl rfl ?_ ?_ | refine RunsD.guard_b rfl rfl rfl ?_ ?_) <;> intro h <;> try (exfalso; first | omega | contradiction | (simp only [List.length_map] at h; omega))))
      refine Runs.ctls 30 rfl (Runs.ret (endsM hnx hm0 rfl rfl fun φ w hG => ?_))
      have hvl : ((seqI k l.length).map (mkB)).length = l.length := by rw [List.length_map, seqI_len]
      have hbr := block_row (vs := (seqI k l.length).map (mkB)) (hb.now hG) (by rw [hvl]; exact c1) c2 hcu (by rw [hvl, htk, List.drop_of_length_le (by rw [hl]; exact Nat.le_refl _), List.append_nil]) (fun x hx => by obtain ⟨z, _, rfl⟩ := List.mem_map.1 hx; rfl)
      rw [hvl] at hbr
      exact hbr
theorem heldIntS_ac (n : Nat) (k : Int) (h0 : 0 ≤ k) (hk : k ≤ 4611686018427387904) (hn' : n ≤ 4194304) : ACv Try.prog 31 [intsR (seqI k n), .int k] (.int (k + n)) := by
  have hl := seqI_len k n
  have hlm : ((seqI k n).map fun z => [RV.int z]).length = (seqI k n).length := List.length_map ..
  refine ac_enter Try.func31 rfl _ Try.ntmps31 (by simp) fun C hn hm => ?_
  repeat' (first
    | refine RunsL.step tabOk hn rfl ?_
    | refine RunsL.nil ?_
    | refine Runs.toRegion 30 rfl ?_
    | (refine Runs.ctls 30 rfl ?_; first | refine Runs.cond_t rfl ?_ | refine Runs.cond_f rfl ?_ | ((first | refine Runs.cond_yes rfl ?_ ?_ | refine Runs.cond_nno rfl ?_ ?_); · first | omega | rfl | assumption | (simp only [List.length_map]; omega)) | ((first | refine Runs.cond_no rfl ?_ ?_ | refine Runs.cond_nyes rfl ?_ ?_); · first | omega | rfl | assumption | (simp only [List.length_map]; omega)) | refine Runs.cond_dec rfl (fun h => ?_) (fun h => ?_) | refine Runs.cond_ndec rfl (fun h => ?_) (fun h => ?_) | refine Runs.cond_nb rfl (fun h => ?_) (fun h => ?_) | refine Runs.cond_b rfl (fun h => ?_) (fun h => ?_) | refine Runs.ret (ends_ro hm rfl rfl ?_) | exact Runs.ret (ends_cellR hm rfl rfl rfl (Nat.le_of_ble_eq_true rfl) rfl rfl))
    | refine op_box rfl (tl hn rfl) ?_
    | refine op_storeF rfl rfl rfl rfl (Nat.le_of_ble_eq_true rfl) ?_
    | refine op_alloc (tl hn rfl) ?_
    | refine op_storeN rfl rfl rfl rfl (Nat.le_of_ble_eq_true rfl) ?_
    | refine RunsD.step tabOk hn rfl rfl ?_
    | refine RunsD.nil ?_
    | refine Runs.toDraw 30 mixed hn rfl (by kernel_rfl) rfl ?_
    | ((first | refine RunsL.pe hn rfl rfl rfl ?_ | refine RunsD.pe rfl rfl ?_); first
      | refine ⟨_, pu_add rfl rfl (by omega), ?_⟩
      | refine ⟨_, pu_indexAddr_map rfl rfl (by omega) (by assumption), ?_⟩
      | refine ⟨_, pu_sub rfl rfl (by omega), ?_⟩
      | refine ⟨_, pu_pick_b rfl rfl rfl, ?_⟩
      | refine ⟨_, pu_mul rfl rfl (by omega), ?_⟩
      | refine ⟨_, pu_build rfl rfl rfl rfl rfl rfl, ?_⟩)
    | ((first | refine RunsL.guard_dec rfl rfl rfl ?_ ?_ | refine RunsL.guard_ndec rfl rfl rfl ?_ ?_ | refine RunsL.guard_nb rfl rfl rfl ?_ ?_ | refine RunsL.guard_b rfl rfl rfl ?_ ?_ | refine RunsD.guard_dec rfl rfl rfl ?_ ?_ | refine RunsD.guard_ndec rfl rfl rfl ?_ ?_ | refine RunsD.guard_nb rfl rfl rfl ?_ ?_ | refine RunsD.guard_b rfl rfl rfl ?_ ?_) <;> intro h <;> try (exfalso; first | omega | contradiction | (simp only [List.length_map] at h; omega))))
  refine Runs.loopN 30 rfl (fun j => [(0, .ro (intsR (seqI k n))), (1, .int (k + (j : Int))), (5, .int (j : Int))]) (fun _ => []) (fun _ => True) n 0 (Nat.zero_le _) trivial ⟨rfl, by simp only [look]; exact av_int (by omega), rfl, trivial⟩ rfl fun j hj _ next => ?_
  by_cases hlt : j < n
  · have hx : (seqI k n)[(j : Int).toNat]? = some (k + (j : Int)) := seqI_at hlt
    repeat' (first
      | refine RunsL.step tabOk hn rfl ?_
      | refine RunsL.nil ?_
      | refine Runs.toRegion 30 rfl ?_
      | (refine Runs.ctls 30 rfl ?_; first | refine Runs.cond_t rfl ?_ | refine Runs.cond_f rfl ?_ | ((first | refine Runs.cond_yes rfl ?_ ?_ | refine Runs.cond_nno rfl ?_ ?_); · first | omega | rfl | assumption | (simp only [List.length_map]; omega)) | ((first | refine Runs.cond_no rfl ?_ ?_ | refine Runs.cond_nyes rfl ?_ ?_); · first | omega | rfl | assumption | (simp only [List.length_map]; omega)) | refine Runs.cond_dec rfl (fun h => ?_) (fun h => ?_) | refine Runs.cond_ndec rfl (fun h => ?_) (fun h => ?_) | refine Runs.cond_nb rfl (fun h => ?_) (fun h => ?_) | refine Runs.cond_b rfl (fun h => ?_) (fun h => ?_) | refine Runs.ret (ends_ro hm rfl rfl ?_) | exact Runs.ret (ends_cellR hm rfl rfl rfl (Nat.le_of_ble_eq_true rfl) rfl rfl))
      | refine op_box rfl (tl hn rfl) ?_
      | refine op_storeF rfl rfl rfl rfl (Nat.le_of_ble_eq_true rfl) ?_
      | refine op_alloc (tl hn rfl) ?_
      | refine op_storeN rfl rfl rfl rfl (Nat.le_of_ble_eq_true rfl) ?_
      | refine RunsD.step tabOk hn rfl rfl ?_
      | refine RunsD.nil ?_
      | refine Runs.toDraw 30 mixed hn rfl (by kernel_rfl) rfl ?_
      | ((first | refine RunsL.pe hn rfl rfl rfl ?_ | refine RunsD.pe rfl rfl ?_); first
        | refine ⟨_, pu_add rfl rfl (by omega), ?_⟩
        | refine ⟨_, pu_indexAddr_map rfl rfl (by omega) (by assumption), ?_⟩
        | refine ⟨_, pu_sub rfl rfl (by omega), ?_⟩
        | refine ⟨_, pu_pick_b rfl rfl rfl, ?_⟩
        | refine ⟨_, pu_mul rfl rfl (by omega), ?_⟩
        | refine ⟨_, pu_build rfl rfl rfl rfl rfl rfl, ?_⟩)
      | ((first | refine RunsL.guard_dec rfl rfl rfl ?_ ?_ | refine RunsL.guard_ndec rfl rfl rfl ?_ ?_ | refine RunsL.guard_nb rfl rfl rfl ?_ ?_ | refine RunsL.guard_b rfl rfl rfl ?_ ?_ | refine RunsD.guard_dec rfl rfl rfl ?_ ?_ | refine RunsD.guard_ndec rfl rfl rfl ?_ ?_ | refine RunsD.guard_nb rfl rfl rfl ?_ ?_ | refine RunsD.guard_b rfl rfl rfl ?_ ?_) <;> intro h <;> try (exfalso; first | omega | contradiction | (simp only [List.length_map] at h; omega))))
    all_goals first
      | exact next _ _ ⟨rfl, by simp only [look]; exact av_int (by omega), rfl, trivial⟩ hlt trivial rfl
      | (exfalso; omega)
  · obtain rfl : j = n := by omega
    repeat' (first
      | refine RunsL.step tabOk hn rfl ?_
      | refine RunsL.nil ?_
      | refine Runs.toRegion 30 rfl ?_
      | (refine Runs.ctls 30 rfl ?_; first | refine Runs.cond_t rfl ?_ | refine Runs.cond_f rfl ?_ | ((first | refine Runs.cond_yes rfl ?_ ?_ | refine Runs.cond_nno rfl ?_ ?_); · first | omega | rfl | assumption | (simp only [List.length_map]; omega)) | ((first | refine Runs.cond_no rfl ?_ ?_ | refine Runs.cond_nyes rfl ?_ ?_); · first | omega | rfl | assumption | (simp only [List.length_map]; omega)) | refine Runs.cond_dec rfl (fun h => ?_) (fun h => ?_) | refine Runs.cond_ndec rfl (fun h => ?_) (fun h => ?_) | refine Runs.cond_nb rfl (fun h => ?_) (fun h => ?_) | refine Runs.cond_b rfl (fun h => ?_) (fun h => ?_) | refine Runs.ret (ends_ro hm rfl rfl ?_) | exact Runs.ret (ends_cellR hm rfl rfl rfl (Nat.le_of_ble_eq_true rfl) rfl rfl))
      | refine op_box rfl (tl hn rfl) ?_
      | refine op_storeF rfl rfl rfl rfl (Nat.le_of_ble_eq_true rfl) ?_
      | refine op_alloc (tl hn rfl) ?_
      | refine op_storeN rfl rfl rfl rfl (Nat.le_of_ble_eq_true rfl) ?_
      | refine RunsD.step tabOk hn rfl rfl ?_
      | refine RunsD.nil ?_
      | refine Runs.toDraw 30 mixed hn rfl (by kernel_rfl) rfl ?_
      | ((first | refine RunsL.pe hn rfl rfl rfl ?_ | refine RunsD.pe rfl rfl ?_); first
        | refine ⟨_, pu_add rfl rfl (by omega), ?_⟩
        | refine ⟨_, pu_indexAddr_map rfl rfl (by omega) (by assumption), ?_⟩
        | refine ⟨_, pu_sub rfl rfl (by omega), ?_⟩
        | refine ⟨_, pu_pick_b rfl rfl rfl, ?_⟩
        | refine ⟨_, pu_mul rfl rfl (by omega), ?_⟩
        | refine ⟨_, pu_build rfl rfl rfl rfl rfl rfl, ?_⟩)
      | ((first | refine RunsL.guard_dec rfl rfl rfl ?_ ?_ | refine RunsL.guard_ndec rfl rfl rfl ?_ ?_ | refine RunsL.guard_nb rfl rfl rfl ?_ ?_ | refine RunsL.guard_b rfl rfl rfl ?_ ?_ | refine RunsD.guard_dec rfl rfl rfl ?_ ?_ | refine RunsD.guard_ndec rfl rfl rfl ?_ ?_ | refine RunsD.guard_nb rfl rfl rfl ?_ ?_ | refine RunsD.guard_b rfl rfl rfl ?_ ?_) <;> intro h <;> try (exfalso; first | omega | contradiction | (simp only [List.length_map] at h; omega))))
    all_goals first
      | exact rr_int rfl
      | (exfalso; omega)
/-- The bytes of n marks. -/
def seqB (k : Int) (n : Nat) : List UInt8 := (seqI k n).map fun z => UInt8.ofNat (IntKind.u8.wrap z).toNat
theorem wrapB (z : Int) : IntKind.u8.wrap z = ((UInt8.ofNat (IntKind.u8.wrap z).toNat).toNat : Int) := by
  have h : 0 ≤ IntKind.u8.wrap z ∧ IntKind.u8.wrap z < 256 := by
    simp [IntKind.wrap, IntKind.bits, IntKind.signed]
    omega
  simp
  omega
theorem mkB_eq (z : Int) : mkB z = Value.int .u8 ((UInt8.ofNat (IntKind.u8.wrap z).toNat).toNat : Int) := by unfold mkB; rw [← wrapB]
theorem seqB_O (k : Int) (n : Nat) : OV.row 5 1 (((seqI k n).map mkB).map .c) = bytesO (seqB k n) := by
  unfold bytesO seqB
  congr 1
  simp only [List.map_map]
  refine List.map_congr_left fun z _ => ?_
  simp only [Function.comp]
  rw [mkB_eq]
theorem seqB_len (k : Int) (n : Nat) : (seqB k n).length = n := by unfold seqB; rw [List.length_map, seqI_len]
theorem seqB_at {k : Int} {n i : Nat} (h : i < n) : (seqB k n)[i]? = some (UInt8.ofNat (IntKind.u8.wrap (k + i)).toNat) := by unfold seqB; rw [List.getElem?_map, seqI_at h]; rfl
theorem heldByteS_ac (n : Nat) (k : Int) (h0 : 0 ≤ k) (hk : k ≤ 4611686018427387904) (hn' : n ≤ 4194304) : ACv Try.prog 44 [bytesR (seqB k n), .int k] (.int (k + n)) := by
  have hl := seqB_len k n
  have hlm : ((seqB k n).map fun z => [RV.u8 z]).length = (seqB k n).length := List.length_map ..
  refine ac_enter Try.func44 rfl _ Try.ntmps44 (by simp) fun C hn hm => ?_
  repeat' (first
    | refine RunsL.step tabOk hn rfl ?_
    | refine RunsL.nil ?_
    | refine Runs.toRegion 30 rfl ?_
    | (refine Runs.ctls 30 rfl ?_; first | refine Runs.cond_t rfl ?_ | refine Runs.cond_f rfl ?_ | ((first | refine Runs.cond_yes rfl ?_ ?_ | refine Runs.cond_nno rfl ?_ ?_); · first | omega | rfl | assumption | (simp only [List.length_map]; omega)) | ((first | refine Runs.cond_no rfl ?_ ?_ | refine Runs.cond_nyes rfl ?_ ?_); · first | omega | rfl | assumption | (simp only [List.length_map]; omega)) | refine Runs.cond_dec rfl (fun h => ?_) (fun h => ?_) | refine Runs.cond_ndec rfl (fun h => ?_) (fun h => ?_) | refine Runs.cond_nb rfl (fun h => ?_) (fun h => ?_) | refine Runs.cond_b rfl (fun h => ?_) (fun h => ?_) | refine Runs.ret (ends_ro hm rfl rfl ?_) | exact Runs.ret (ends_cellR hm rfl rfl rfl (Nat.le_of_ble_eq_true rfl) rfl rfl))
    | refine op_box rfl (tl hn rfl) ?_
    | refine op_storeF rfl rfl rfl rfl (Nat.le_of_ble_eq_true rfl) ?_
    | refine op_alloc (tl hn rfl) ?_
    | refine op_storeN rfl rfl rfl rfl (Nat.le_of_ble_eq_true rfl) ?_
    | refine RunsD.step tabOk hn rfl rfl ?_
    | refine RunsD.nil ?_
    | refine Runs.toDraw 30 mixed hn rfl (by kernel_rfl) rfl ?_
    | ((first | refine RunsL.pe hn rfl rfl rfl ?_ | refine RunsD.pe rfl rfl ?_); first
      | refine ⟨_, pu_add rfl rfl (by omega), ?_⟩
      | refine ⟨_, pu_indexAddr_map rfl rfl (by omega) (by assumption), ?_⟩
      | refine ⟨_, pu_sub rfl rfl (by omega), ?_⟩
      | refine ⟨_, pu_pick_b rfl rfl rfl, ?_⟩
      | refine ⟨_, pu_mul rfl rfl (by omega), ?_⟩
      | refine ⟨_, pu_build rfl rfl rfl rfl rfl rfl, ?_⟩)
    | ((first | refine RunsL.guard_dec rfl rfl rfl ?_ ?_ | refine RunsL.guard_ndec rfl rfl rfl ?_ ?_ | refine RunsL.guard_nb rfl rfl rfl ?_ ?_ | refine RunsL.guard_b rfl rfl rfl ?_ ?_ | refine RunsD.guard_dec rfl rfl rfl ?_ ?_ | refine RunsD.guard_ndec rfl rfl rfl ?_ ?_ | refine RunsD.guard_nb rfl rfl rfl ?_ ?_ | refine RunsD.guard_b rfl rfl rfl ?_ ?_) <;> intro h <;> try (exfalso; first | omega | contradiction | (simp only [List.length_map] at h; omega))))
  refine Runs.loopN 30 rfl (fun j => [(0, .ro (bytesR (seqB k n))), (1, .int (k + (j : Int))), (5, .int (j : Int))]) (fun _ => []) (fun _ => True) n 0 (Nat.zero_le _) trivial ⟨rfl, by simp only [look]; exact av_int (by omega), rfl, trivial⟩ rfl fun j hj _ next => ?_
  by_cases hlt : j < n
  · have hx : (seqB k n)[(j : Int).toNat]? = some (UInt8.ofNat (IntKind.u8.wrap (k + (j : Int))).toNat) := seqB_at hlt
    have hw := wrapB (k + (j : Int))
    generalize UInt8.ofNat (IntKind.u8.wrap (k + (j : Int))).toNat = b at hx hw
    repeat' (first
      | refine RunsL.step tabOk hn rfl ?_
      | refine RunsL.nil ?_
      | refine Runs.toRegion 30 rfl ?_
      | ((first | refine RunsL.pe hn rfl rfl rfl ?_ | refine RunsD.pe rfl rfl ?_); first
        | refine ⟨_, pu_convert inferInstance inferInstance rfl, ?_⟩)
      | (refine Runs.ctls 30 rfl ?_; first | refine Runs.cond_t rfl ?_ | refine Runs.cond_f rfl ?_ | ((first | refine Runs.cond_yes rfl ?_ ?_ | refine Runs.cond_nno rfl ?_ ?_); · first | omega | rfl | assumption | (simp only [List.length_map]; omega)) | ((first | refine Runs.cond_no rfl ?_ ?_ | refine Runs.cond_nyes rfl ?_ ?_); · first | omega | rfl | assumption | (simp only [List.length_map]; omega)) | refine Runs.cond_dec rfl (fun h => ?_) (fun h => ?_) | refine Runs.cond_ndec rfl (fun h => ?_) (fun h => ?_) | refine Runs.cond_nb rfl (fun h => ?_) (fun h => ?_) | refine Runs.cond_b rfl (fun h => ?_) (fun h => ?_) | refine Runs.ret (ends_ro hm rfl rfl ?_) | exact Runs.ret (ends_cellR hm rfl rfl rfl (Nat.le_of_ble_eq_true rfl) rfl rfl))
      | refine op_box rfl (tl hn rfl) ?_
      | refine op_storeF rfl rfl rfl rfl (Nat.le_of_ble_eq_true rfl) ?_
      | refine op_alloc (tl hn rfl) ?_
      | refine op_storeN rfl rfl rfl rfl (Nat.le_of_ble_eq_true rfl) ?_
      | refine RunsD.step tabOk hn rfl rfl ?_
      | refine RunsD.nil ?_
      | refine Runs.toDraw 30 mixed hn rfl (by kernel_rfl) rfl ?_
      | ((first | refine RunsL.pe hn rfl rfl rfl ?_ | refine RunsD.pe rfl rfl ?_); first
        | refine ⟨_, pu_add rfl rfl (by omega), ?_⟩
        | refine ⟨_, pu_indexAddr_map rfl rfl (by omega) (by assumption), ?_⟩
        | refine ⟨_, pu_sub rfl rfl (by omega), ?_⟩
        | refine ⟨_, pu_pick_b rfl rfl rfl, ?_⟩
        | refine ⟨_, pu_mul rfl rfl (by omega), ?_⟩
        | refine ⟨_, pu_build rfl rfl rfl rfl rfl rfl, ?_⟩)
      | ((first | refine RunsL.guard_dec rfl rfl rfl ?_ ?_ | refine RunsL.guard_ndec rfl rfl rfl ?_ ?_ | refine RunsL.guard_nb rfl rfl rfl ?_ ?_ | refine RunsL.guard_b rfl rfl rfl ?_ ?_ | refine RunsD.guard_dec rfl rfl rfl ?_ ?_ | refine RunsD.guard_ndec rfl rfl rfl ?_ ?_ | refine RunsD.guard_nb rfl rfl rfl ?_ ?_ | refine RunsD.guard_b rfl rfl rfl ?_ ?_) <;> intro h <;> try (exfalso; first | omega | contradiction | (simp only [List.length_map] at h; omega))))
    all_goals first
      | exact next _ _ ⟨rfl, by simp only [look]; exact av_int (by omega), rfl, trivial⟩ hlt trivial rfl
      | (exfalso; omega)
  · obtain rfl : j = n := by omega
    repeat' (first
      | refine RunsL.step tabOk hn rfl ?_
      | refine RunsL.nil ?_
      | refine Runs.toRegion 30 rfl ?_
      | (refine Runs.ctls 30 rfl ?_; first | refine Runs.cond_t rfl ?_ | refine Runs.cond_f rfl ?_ | ((first | refine Runs.cond_yes rfl ?_ ?_ | refine Runs.cond_nno rfl ?_ ?_); · first | omega | rfl | assumption | (simp only [List.length_map]; omega)) | ((first | refine Runs.cond_no rfl ?_ ?_ | refine Runs.cond_nyes rfl ?_ ?_); · first | omega | rfl | assumption | (simp only [List.length_map]; omega)) | refine Runs.cond_dec rfl (fun h => ?_) (fun h => ?_) | refine Runs.cond_ndec rfl (fun h => ?_) (fun h => ?_) | refine Runs.cond_nb rfl (fun h => ?_) (fun h => ?_) | refine Runs.cond_b rfl (fun h => ?_) (fun h => ?_) | refine Runs.ret (ends_ro hm rfl rfl ?_) | exact Runs.ret (ends_cellR hm rfl rfl rfl (Nat.le_of_ble_eq_true rfl) rfl rfl))
      | refine op_box rfl (tl hn rfl) ?_
      | refine op_storeF rfl rfl rfl rfl (Nat.le_of_ble_eq_true rfl) ?_
      | refine op_alloc (tl hn rfl) ?_
      | refine op_storeN rfl rfl rfl rfl (Nat.le_of_ble_eq_true rfl) ?_
      | refine RunsD.step tabOk hn rfl rfl ?_
      | refine RunsD.nil ?_
      | refine Runs.toDraw 30 mixed hn rfl (by kernel_rfl) rfl ?_
      | ((first | refine RunsL.pe hn rfl rfl rfl ?_ | refine RunsD.pe rfl rfl ?_); first
        | refine ⟨_, pu_add rfl rfl (by omega), ?_⟩
        | refine ⟨_, pu_indexAddr_map rfl rfl (by omega) (by assumption), ?_⟩
        | refine ⟨_, pu_sub rfl rfl (by omega), ?_⟩
        | refine ⟨_, pu_pick_b rfl rfl rfl, ?_⟩
        | refine ⟨_, pu_mul rfl rfl (by omega), ?_⟩
        | refine ⟨_, pu_build rfl rfl rfl rfl rfl rfl, ?_⟩)
      | ((first | refine RunsL.guard_dec rfl rfl rfl ?_ ?_ | refine RunsL.guard_ndec rfl rfl rfl ?_ ?_ | refine RunsL.guard_nb rfl rfl rfl ?_ ?_ | refine RunsL.guard_b rfl rfl rfl ?_ ?_ | refine RunsD.guard_dec rfl rfl rfl ?_ ?_ | refine RunsD.guard_ndec rfl rfl rfl ?_ ?_ | refine RunsD.guard_nb rfl rfl rfl ?_ ?_ | refine RunsD.guard_b rfl rfl rfl ?_ ?_) <;> intro h <;> try (exfalso; first | omega | contradiction | (simp only [List.length_map] at h; omega))))
    all_goals first
      | exact rr_int rfl
      | (exfalso; omega)
end Go.Proofs.Ytcifgbmmnkilfaa
