/- TagBytes, PrintInteger: both sides. -/
import Derived.Test.YtcifgbmmnkilfaaEnd
import Derived.Test.YtcifgbmmnkilfaaBin
import Derived.Test.YtcifgbmmnkilfaaItm
namespace Go.Proofs.Ytcifgbmmnkilfaa
set_option linter.unusedSimpArgs false
set_option linter.unusedVariables false
open Go.RowKit
theorem encI_len (r : Rul) (n : Int) : (encI r n).length ≤ 4 := by
  have h : (encBE n r.size).length ≤ 4 := by
    by_cases hf : Fit n r.size
    · rw [encBE_yes hf]
      unfold be
      repeat' split
      all_goals simp
    · rw [encBE_no hf]; simp
  unfold encI
  split
  · rw [List.length_reverse]; exact h
  · exact h
/-- There is such an alternative. -/
def HasTag (d : Des) (r a : Int) : Prop := Kn d r ∧ ∃ x, d[r.toNat]? = some x ∧ x.kind = 7 ∧ 0 ≤ a ∧ a < x.tags.length
open Classical in
noncomputable def tagB (d : Des) (r a : Int) : List UInt8 := if HasTag d r a then (match d[r.toNat]? with
  | some x => (match d[(x.kids.headD 0).toNat]?, x.tags[a.toNat]? with
    | some y, some n => encI y n
    | _, _ => [])
  | none => []) else []
theorem tagB_yes {d : Des} {r a : Int} {x y : Rul} {n : Int} (h : HasTag d r a) (hx : d[r.toNat]? = some x) (hy : d[(x.kids.headD 0).toNat]? = some y) (hn : x.tags[a.toNat]? = some n) : tagB d r a = encI y n := by
  unfold tagB
  rw [if_pos h]
  simp only [hx, hy, hn]
theorem tagB_no {d : Des} {r a : Int} (h : ¬ HasTag d r a) : tagB d r a = [] := if_neg h
theorem tagB_len (d : Des) (r a : Int) : (tagB d r a).length ≤ 4 := by
  unfold tagB
  split
  · split
    · split
      · exact encI_len _ _
      · simp
    · simp
  · simp
theorem head_get {l : List Int} (h : 0 < l.length) : l[(0 : Int).toNat]? = some (l.headD 0) := by
  cases l with
  | nil => simp at h
  | cons a l => rfl
set_option maxHeartbeats 4000000 in
theorem impl_TagBytes (d : Des) (ho : DesOk d) (hd : dtotal d ≤ 1048576) (r a : Int) : AC Try.prog 46 [desR d, .int r, .int a] (fun rr => rr = .row 5 1 ((tagB d r a).map RV.u8)) := by
  have hkn := known_ac d ho hd r
  have hlm : (d.map rulR).length = d.length := List.length_map ..
  have et : dtotal d = d.length + (d.map Rul.total).sum := rfl
  by_cases hK : Kn d r
  · rw [decide_eq_true hK] at hkn
    obtain ⟨n, x, rfl, hn', hx⟩ := kn_nat hK
    have hx' : d[(n : Int).toNat]? = some x := hx
    have hk := kind_at hK.1 hx
    obtain ⟨f5, f7, f8, _⟩ := item_fields hk
    have hlt' : (x.tags.map fun z => [RV.int z]).length = x.tags.length := List.length_map ..
    have hlk : (x.kids.map fun z => [RV.int z]).length = x.kids.length := List.length_map ..
    by_cases hT : HasTag d n a
    · have ht := hT
      obtain ⟨_, x', h1, k7, a0, a1⟩ := ht
      rw [hx'] at h1; injection h1 with h1; subst h1
      obtain ⟨hkl, _, _, _⟩ := f7 k7
      have hc := head_get (l := x.kids) (by omega)
      have hkk := kids_at hK.1 hx (k := 0) hc
      obtain ⟨y, hy⟩ : ∃ y, d[(x.kids.headD 0).toNat]? = some y := ⟨_, List.getElem?_eq_getElem (by omega)⟩
      obtain ⟨z, hz⟩ : ∃ z, x.tags[a.toNat]? = some z := ⟨_, List.getElem?_eq_getElem (by omega)⟩
      rw [tagB_yes hT hx' hy hz]
      have hE := impl_encodeInteger y z
      refine ac_enter Try.func46 rfl _ Try.ntmps46 (by simp) fun C hn hm => ?_
      repeat' (first
        | refine Runs.toDrawT (id := 4) 30 [] [0, 1, 2, 3, 4, 5, 6, 7, 8, 9, 10, 11, 12] 13 [] mixed hn rfl (by kernel_rfl) rfl .nil (by decide) (by decide) (by decide) ?_
        | refine op_callOR hE rfl (tl hn rfl) ?_
        | refine RunsT.nil ?_
        | refine RunsT.step tabOk rfl rfl (fun _ => rfl) (by decide) ?_
        | refine RunsT.pur (fun _ => pu_callR hkn rfl) (by decide) rfl rfl ?_
        | refine RunsT.pur (fun _ => pu_add rfl rfl (by omega)) (by decide) rfl rfl ?_
        | refine RunsT.pur (fun _ => pu_indexAddr_map rfl rfl (by omega) (by assumption)) (by decide) rfl rfl ?_
        | refine RunsT.alloc (p := 0) rfl inferInstance ?_
        | refine RunsT.alloc (p := 1) rfl inferInstance ?_
        | refine RunsL.step tabOk hn rfl ?_
        | refine RunsL.nil ?_
        | refine Runs.toRegion 30 rfl ?_
        | ((first | refine RunsL.pe hn rfl rfl rfl ?_ | refine RunsD.pe rfl rfl ?_); first
          | refine ⟨_, pu_callR hkn rfl, ?_⟩)
        | (refine Runs.ctls 30 rfl ?_; first | refine Runs.cond_t rfl ?_ | refine Runs.cond_f rfl ?_ | ((first | refine Runs.cond_yes rfl ?_ ?_ | refine Runs.cond_nno rfl ?_ ?_); · first | omega | rfl | assumption | (simp only [List.length_map]; omega)) | ((first | refine Runs.cond_no rfl ?_ ?_ | refine Runs.cond_nyes rfl ?_ ?_); · first | omega | rfl | assumption | (simp only [List.length_map]; omega)) | refine Runs.cond_dec rfl (fun h => ?_) (fun h => ?_) | refine Runs.cond_ndec rfl (fun h => ?_) (fun h => ?_) | refine Runs.cond_nb rfl (fun h => ?_) (fun h => ?_) | refine Runs.cond_b rfl (fun h => ?_) (fun h => ?_) | refine Runs.ret (ends_ro hm rfl rfl ?_) | exact Runs.ret (ends_cellR hm rfl rfl rfl (Nat.le_of_ble_eq_true rfl) rfl rfl))
        | refine op_box rfl (tl hn rfl) ?_
        | refine op_storeF rfl rfl rfl rfl (Nat.le_of_ble_eq_true rfl) ?_
        | refine op_alloc (tl hn rfl) ?_
        | refine op_storeN rfl rfl rfl rfl (Nat.le_of_ble_eq_true rfl) ?_
        | refine RunsD.step tabOk hn rfl rfl ?_
        | refine RunsD.nil ?_
        | refine Runs.toDraw 30 mixed hn rfl (by kernel_rfl) rfl ?_
        | ((first | refine RunsL.pe hn rfl rfl rfl ?_ | refine RunsD.pe rfl rfl ?_); first
          | refine ⟨_, pu_add rfl rfl (by omega), ?_⟩
          | refine ⟨_, pu_indexAddr_map rfl rfl (by omega) (by assumption), ?_⟩
          | refine ⟨_, pu_sub rfl rfl (by omega), ?_⟩
          | refine ⟨_, pu_pick_b rfl rfl rfl, ?_⟩
          | refine ⟨_, pu_mul rfl rfl (by omega), ?_⟩
          | refine ⟨_, pu_build rfl rfl rfl rfl rfl rfl, ?_⟩)
        | ((first | refine RunsL.guard_dec rfl rfl rfl ?_ ?_ | refine RunsL.guard_ndec rfl rfl rfl ?_ ?_ | refine RunsL.guard_nb rfl rfl rfl ?_ ?_ | refine RunsL.guard_b rfl rfl rfl ?_ ?_ | refine RunsD.guard_dec rfl rfl rfl ?_ ?_ | refine RunsD.guard_ndec rfl rfl rfl ?_ ?_ | refine RunsD.guard_nb rfl rfl rfl ?_ ?_ | refine RunsD.guard_b rfl rfl rfl ?_ ?_) <;> intro h <;> try (exfalso; first | omega | contradiction | (simp only [List.length_map] at h; omega))))
      all_goals first
        | exact Runs.ctls 30 rfl (Runs.ret (ends_own (rs := (encI y z).map RV.u8) hm rfl rfl rfl rfl rfl))
        | (exfalso; omega)
    · rw [tagB_no hT]
      have hT' : ¬ (x.kind = 7 ∧ 0 ≤ a ∧ a < x.tags.length) := fun h => hT ⟨hK, x, hx', h⟩
      refine ac_enter Try.func46 rfl _ Try.ntmps46 (by simp) fun C hn hm => ?_
      repeat' (first
        | refine op_build0 (tl hn rfl) ?_
        | refine RunsL.step tabOk hn rfl ?_
        | refine RunsL.nil ?_
        | refine Runs.toRegion 30 rfl ?_
        | ((first | refine RunsL.pe hn rfl rfl rfl ?_ | refine RunsD.pe rfl rfl ?_); first
          | refine ⟨_, pu_callR hkn rfl, ?_⟩)
        | (refine Runs.ctls 30 rfl ?_; first | refine Runs.cond_t rfl ?_ | refine Runs.cond_f rfl ?_ | ((first | refine Runs.cond_yes rfl ?_ ?_ | refine Runs.cond_nno rfl ?_ ?_); · first | omega | rfl | assumption | (simp only [List.length_map]; omega)) | ((first | refine Runs.cond_no rfl ?_ ?_ | refine Runs.cond_nyes rfl ?_ ?_); · first | omega | rfl | assumption | (simp only [List.length_map]; omega)) | refine Runs.cond_dec rfl (fun h => ?_) (fun h => ?_) | refine Runs.cond_ndec rfl (fun h => ?_) (fun h => ?_) | refine Runs.cond_nb rfl (fun h => ?_) (fun h => ?_) | refine Runs.cond_b rfl (fun h => ?_) (fun h => ?_) | refine Runs.ret (ends_ro hm rfl rfl ?_) | exact Runs.ret (ends_cellR hm rfl rfl rfl (Nat.le_of_ble_eq_true rfl) rfl rfl))
        | refine op_box rfl (tl hn rfl) ?_
        | refine op_storeF rfl rfl rfl rfl (Nat.le_of_ble_eq_true rfl) ?_
        | refine op_alloc (tl hn rfl) ?_
        | refine op_storeN rfl rfl rfl rfl (Nat.le_of_ble_eq_true rfl) ?_
        | refine RunsD.step tabOk hn rfl rfl ?_
        | refine RunsD.nil ?_
        | refine Runs.toDraw 30 mixed hn rfl (by kernel_rfl) rfl ?_
        | ((first | refine RunsL.pe hn rfl rfl rfl ?_ | refine RunsD.pe rfl rfl ?_); first
          | refine ⟨_, pu_add rfl rfl (by omega), ?_⟩
          | refine ⟨_, pu_indexAddr_map rfl rfl (by omega) (by assumption), ?_⟩
          | refine ⟨_, pu_sub rfl rfl (by omega), ?_⟩
          | refine ⟨_, pu_pick_b rfl rfl rfl, ?_⟩
          | refine ⟨_, pu_mul rfl rfl (by omega), ?_⟩
          | refine ⟨_, pu_build rfl rfl rfl rfl rfl rfl, ?_⟩)
        | ((first | refine RunsL.guard_dec rfl rfl rfl ?_ ?_ | refine RunsL.guard_ndec rfl rfl rfl ?_ ?_ | refine RunsL.guard_nb rfl rfl rfl ?_ ?_ | refine RunsL.guard_b rfl rfl rfl ?_ ?_ | refine RunsD.guard_dec rfl rfl rfl ?_ ?_ | refine RunsD.guard_ndec rfl rfl rfl ?_ ?_ | refine RunsD.guard_nb rfl rfl rfl ?_ ?_ | refine RunsD.guard_b rfl rfl rfl ?_ ?_) <;> intro h <;> try (exfalso; first | omega | contradiction | (simp only [List.length_map] at h; omega))))
      all_goals first
        | exact Runs.ctls 30 rfl (Runs.ret (ends_own (rs := []) hm rfl rfl rfl rfl rfl))
        | (exfalso; omega)
  · rw [decide_eq_false hK] at hkn
    rw [tagB_no fun h => hK h.1]
    refine ac_enter Try.func46 rfl _ Try.ntmps46 (by simp) fun C hn hm => ?_
    repeat' (first
      | refine op_build0 (tl hn rfl) ?_
      | refine RunsL.step tabOk hn rfl ?_
      | refine RunsL.nil ?_
      | refine Runs.toRegion 30 rfl ?_
      | ((first | refine RunsL.pe hn rfl rfl rfl ?_ | refine RunsD.pe rfl rfl ?_); first
        | refine ⟨_, pu_callR hkn rfl, ?_⟩)
      | (refine Runs.ctls 30 rfl ?_; first | refine Runs.cond_t rfl ?_ | refine Runs.cond_f rfl ?_ | ((first | refine Runs.cond_yes rfl ?_ ?_ | refine Runs.cond_nno rfl ?_ ?_); · first | omega | rfl | assumption | (simp only [List.length_map]; omega)) | ((first | refine Runs.cond_no rfl ?_ ?_ | refine Runs.cond_nyes rfl ?_ ?_); · first | omega | rfl | assumption | (simp only [List.length_map]; omega)) | refine Runs.cond_dec rfl (fun h => ?_) (fun h => ?_) | refine Runs.cond_ndec rfl (fun h => ?_) (fun h => ?_) | refine Runs.cond_nb rfl (fun h => ?_) (fun h => ?_) | refine Runs.cond_b rfl (fun h => ?_) (fun h => ?_) | refine Runs.ret (ends_ro hm rfl rfl ?_) | exact Runs.ret (ends_cellR hm rfl rfl rfl (Nat.le_of_ble_eq_true rfl) rfl rfl))
      | refine op_box rfl (tl hn rfl) ?_
      | refine op_storeF rfl rfl rfl rfl (Nat.le_of_ble_eq_true rfl) ?_
      | refine op_alloc (tl hn rfl) ?_
      | refine op_storeN rfl rfl rfl rfl (Nat.le_of_ble_eq_true rfl) ?_
      | refine RunsD.step tabOk hn rfl rfl ?_
      | refine RunsD.nil ?_
      | refine Runs.toDraw 30 mixed hn rfl (by kernel_rfl) rfl ?_
      | ((first | refine RunsL.pe hn rfl rfl rfl ?_ | refine RunsD.pe rfl rfl ?_); first
        | refine ⟨_, pu_add rfl rfl (by omega), ?_⟩
        | refine ⟨_, pu_indexAddr_map rfl rfl (by omega) (by assumption), ?_⟩
        | refine ⟨_, pu_sub rfl rfl (by omega), ?_⟩
        | refine ⟨_, pu_pick_b rfl rfl rfl, ?_⟩
        | refine ⟨_, pu_mul rfl rfl (by omega), ?_⟩
        | refine ⟨_, pu_build rfl rfl rfl rfl rfl rfl, ?_⟩)
      | ((first | refine RunsL.guard_dec rfl rfl rfl ?_ ?_ | refine RunsL.guard_ndec rfl rfl rfl ?_ ?_ | refine RunsL.guard_nb rfl rfl rfl ?_ ?_ | refine RunsL.guard_b rfl rfl rfl ?_ ?_ | refine RunsD.guard_dec rfl rfl rfl ?_ ?_ | refine RunsD.guard_ndec rfl rfl rfl ?_ ?_ | refine RunsD.guard_nb rfl rfl rfl ?_ ?_ | refine RunsD.guard_b rfl rfl rfl ?_ ?_) <;> intro h <;> try (exfalso; first | omega | contradiction | (simp only [List.length_map] at h; omega))))
    exact Runs.ctls 30 rfl (Runs.ret (ends_own (rs := []) hm rfl rfl rfl rfl rfl))
set_option maxHeartbeats 4000000 in
theorem spec_TagBytes (d : Des) (ho : DesOk d) (hd : dtotal d ≤ 1048576) (r a : Int) : AC Try.prog 45 [desR d, .int r, .int a] (fun rr => rr = .row 5 1 ((tagB d r a).map RV.u8)) := by
  have hkn := l7Rule_ac d ho hd r
  have hlm : (d.map rulR).length = d.length := List.length_map ..
  have et : dtotal d = d.length + (d.map Rul.total).sum := rfl
  by_cases hK : Kn d r
  · rw [decide_eq_true hK] at hkn
    obtain ⟨n, x, rfl, hn', hx⟩ := kn_nat hK
    have hx' : d[(n : Int).toNat]? = some x := hx
    have hk := kind_at hK.1 hx
    obtain ⟨f5, f7, f8, _⟩ := item_fields hk
    have hlt' : (x.tags.map fun z => [RV.int z]).length = x.tags.length := List.length_map ..
    have hlk : (x.kids.map fun z => [RV.int z]).length = x.kids.length := List.length_map ..
    have hxm := sum_mem_le Rul.total (List.mem_of_getElem? hx)
    have etx : x.total = x.name.size + x.bytes.length + (x.names.length + (x.names.map ByteArray.size).sum) + x.tags.length + x.kids.length := rfl
    by_cases hT : HasTag d n a
    · have ht := hT
      obtain ⟨_, x', h1, k7, a0, a1⟩ := ht
      rw [hx'] at h1; injection h1 with h1; subst h1
      obtain ⟨hkl, _, _, _⟩ := f7 k7
      have hc := head_get (l := x.kids) (by omega)
      have hkk := kids_at hK.1 hx (k := 0) hc
      obtain ⟨y, hy⟩ : ∃ y, d[(x.kids.headD 0).toNat]? = some y := ⟨_, List.getElem?_eq_getElem (by omega)⟩
      obtain ⟨z, hz⟩ : ∃ z, x.tags[a.toNat]? = some z := ⟨_, List.getElem?_eq_getElem (by omega)⟩
      rw [tagB_yes hT hx' hy hz]
      have hE := spec_l8Integer y z
      refine ac_enter Try.func45 rfl _ Try.ntmps45 (by simp) fun C hn hm => ?_
      repeat' (first
        | refine Runs.toDrawT (id := 4) 30 [] [0, 1, 2, 3, 4, 5, 6, 7, 8, 9, 10, 11, 12] 13 [] mixed hn rfl (by kernel_rfl) rfl .nil (by decide) (by decide) (by decide) ?_
        | refine op_callOR hE rfl (tl hn rfl) ?_
        | refine RunsT.nil ?_
        | refine RunsT.step tabOk rfl rfl (fun _ => rfl) (by decide) ?_
        | refine RunsT.pur (fun _ => pu_callR hkn rfl) (by decide) rfl rfl ?_
        | refine RunsT.pur (fun _ => pu_callR (l1In_ac _ _ _) rfl) (by decide) rfl rfl ?_
        | refine RunsT.pur (fun _ => pu_add rfl rfl (by omega)) (by decide) rfl rfl ?_
        | refine RunsT.pur (fun _ => pu_indexAddr_map rfl rfl (by omega) (by assumption)) (by decide) rfl rfl ?_
        | refine RunsT.alloc (p := 0) rfl inferInstance ?_
        | refine RunsT.alloc (p := 1) rfl inferInstance ?_
        | refine RunsL.step tabOk hn rfl ?_
        | refine RunsL.nil ?_
        | refine Runs.toRegion 30 rfl ?_
        | ((first | refine RunsL.pe hn rfl rfl rfl ?_ | refine RunsD.pe rfl rfl ?_); first
          | refine ⟨_, pu_callR hkn rfl, ?_⟩
          | refine ⟨_, pu_callR (l1In_ac _ _ _) rfl, ?_⟩)
        | (refine Runs.ctls 30 rfl ?_; first | refine Runs.cond_t rfl ?_ | refine Runs.cond_f rfl ?_ | ((first | refine Runs.cond_yes rfl ?_ ?_ | refine Runs.cond_nno rfl ?_ ?_); · first | omega | rfl | assumption | (simp only [List.length_map]; omega)) | ((first | refine Runs.cond_no rfl ?_ ?_ | refine Runs.cond_nyes rfl ?_ ?_); · first | omega | rfl | assumption | (simp only [List.length_map]; omega)) | refine Runs.cond_dec rfl (fun h => ?_) (fun h => ?_) | refine Runs.cond_ndec rfl (fun h => ?_) (fun h => ?_) | refine Runs.cond_nb rfl (fun h => ?_) (fun h => ?_) | refine Runs.cond_b rfl (fun h => ?_) (fun h => ?_) | refine Runs.ret (ends_ro hm rfl rfl ?_) | exact Runs.ret (ends_cellR hm rfl rfl rfl (Nat.le_of_ble_eq_true rfl) rfl rfl))
        | refine op_box rfl (tl hn rfl) ?_
        | refine op_storeF rfl rfl rfl rfl (Nat.le_of_ble_eq_true rfl) ?_
        | refine op_alloc (tl hn rfl) ?_
        | refine op_storeN rfl rfl rfl rfl (Nat.le_of_ble_eq_true rfl) ?_
        | refine RunsD.step tabOk hn rfl rfl ?_
        | refine RunsD.nil ?_
        | refine Runs.toDraw 30 mixed hn rfl (by kernel_rfl) rfl ?_
        | ((first | refine RunsL.pe hn rfl rfl rfl ?_ | refine RunsD.pe rfl rfl ?_); first
          | refine ⟨_, pu_add rfl rfl (by omega), ?_⟩
          | refine ⟨_, pu_indexAddr_map rfl rfl (by omega) (by assumption), ?_⟩
          | refine ⟨_, pu_sub rfl rfl (by omega), ?_⟩
          | refine ⟨_, pu_pick_b rfl rfl rfl, ?_⟩
          | refine ⟨_, pu_mul rfl rfl (by omega), ?_⟩
          | refine ⟨_, pu_build rfl rfl rfl rfl rfl rfl, ?_⟩)
        | ((first | refine RunsL.guard_dec rfl rfl rfl ?_ ?_ | refine RunsL.guard_ndec rfl rfl rfl ?_ ?_ | refine RunsL.guard_nb rfl rfl rfl ?_ ?_ | refine RunsL.guard_b rfl rfl rfl ?_ ?_ | refine RunsD.guard_dec rfl rfl rfl ?_ ?_ | refine RunsD.guard_ndec rfl rfl rfl ?_ ?_ | refine RunsD.guard_nb rfl rfl rfl ?_ ?_ | refine RunsD.guard_b rfl rfl rfl ?_ ?_) <;> intro h <;> try (exfalso; first | omega | contradiction | (simp only [List.length_map] at h; omega))))
      all_goals first
        | exact Runs.ctls 30 rfl (Runs.ret (ends_own (rs := (encI y z).map RV.u8) hm rfl rfl rfl rfl rfl))
        | (exfalso; unfold InR at *; omega)
        | (exfalso; omega)
    · rw [tagB_no hT]
      have hT' : ¬ (x.kind = 7 ∧ 0 ≤ a ∧ a < x.tags.length) := fun h => hT ⟨hK, x, hx', h⟩
      refine ac_enter Try.func45 rfl _ Try.ntmps45 (by simp) fun C hn hm => ?_
      repeat' (first
        | refine op_build0 (tl hn rfl) ?_
        | refine RunsL.step tabOk hn rfl ?_
        | refine RunsL.nil ?_
        | refine Runs.toRegion 30 rfl ?_
        | ((first | refine RunsL.pe hn rfl rfl rfl ?_ | refine RunsD.pe rfl rfl ?_); first
          | refine ⟨_, pu_callR hkn rfl, ?_⟩
          | refine ⟨_, pu_callR (l1In_ac _ _ _) rfl, ?_⟩)
        | (refine Runs.ctls 30 rfl ?_; first | refine Runs.cond_t rfl ?_ | refine Runs.cond_f rfl ?_ | ((first | refine Runs.cond_yes rfl ?_ ?_ | refine Runs.cond_nno rfl ?_ ?_); · first | omega | rfl | assumption | (simp only [List.length_map]; omega)) | ((first | refine Runs.cond_no rfl ?_ ?_ | refine Runs.cond_nyes rfl ?_ ?_); · first | omega | rfl | assumption | (simp only [List.length_map]; omega)) | refine Runs.cond_dec rfl (fun h => ?_) (fun h => ?_) | refine Runs.cond_ndec rfl (fun h => ?_) (fun h => ?_) | refine Runs.cond_nb rfl (fun h => ?_) (fun h => ?_) | refine Runs.cond_b rfl (fun h => ?_) (fun h => ?_) | refine Runs.ret (ends_ro hm rfl rfl ?_) | exact Runs.ret (ends_cellR hm rfl rfl rfl (Nat.le_of_ble_eq_true rfl) rfl rfl))
        | refine op_box rfl (tl hn rfl) ?_
        | refine op_storeF rfl rfl rfl rfl (Nat.le_of_ble_eq_true rfl) ?_
        | refine op_alloc (tl hn rfl) ?_
        | refine op_storeN rfl rfl rfl rfl (Nat.le_of_ble_eq_true rfl) ?_
        | refine RunsD.step tabOk hn rfl rfl ?_
        | refine RunsD.nil ?_
        | refine Runs.toDraw 30 mixed hn rfl (by kernel_rfl) rfl ?_
        | ((first | refine RunsL.pe hn rfl rfl rfl ?_ | refine RunsD.pe rfl rfl ?_); first
          | refine ⟨_, pu_add rfl rfl (by omega), ?_⟩
          | refine ⟨_, pu_indexAddr_map rfl rfl (by omega) (by assumption), ?_⟩
          | refine ⟨_, pu_sub rfl rfl (by omega), ?_⟩
          | refine ⟨_, pu_pick_b rfl rfl rfl, ?_⟩
          | refine ⟨_, pu_mul rfl rfl (by omega), ?_⟩
          | refine ⟨_, pu_build rfl rfl rfl rfl rfl rfl, ?_⟩)
        | ((first | refine RunsL.guard_dec rfl rfl rfl ?_ ?_ | refine RunsL.guard_ndec rfl rfl rfl ?_ ?_ | refine RunsL.guard_nb rfl rfl rfl ?_ ?_ | refine RunsL.guard_b rfl rfl rfl ?_ ?_ | refine RunsD.guard_dec rfl rfl rfl ?_ ?_ | refine RunsD.guard_ndec rfl rfl rfl ?_ ?_ | refine RunsD.guard_nb rfl rfl rfl ?_ ?_ | refine RunsD.guard_b rfl rfl rfl ?_ ?_) <;> intro h <;> try (exfalso; first | omega | contradiction | (simp only [List.length_map] at h; omega))))
      all_goals first
        | exact Runs.ctls 30 rfl (Runs.ret (ends_own (rs := []) hm rfl rfl rfl rfl rfl))
        | (exfalso; unfold InR at *; omega)
        | (exfalso; omega)
  · rw [decide_eq_false hK] at hkn
    rw [tagB_no fun h => hK h.1]
    refine ac_enter Try.func45 rfl _ Try.ntmps45 (by simp) fun C hn hm => ?_
    repeat' (first
      | refine op_build0 (tl hn rfl) ?_
      | refine RunsL.step tabOk hn rfl ?_
      | refine RunsL.nil ?_
      | refine Runs.toRegion 30 rfl ?_
      | ((first | refine RunsL.pe hn rfl rfl rfl ?_ | refine RunsD.pe rfl rfl ?_); first
        | refine ⟨_, pu_callR hkn rfl, ?_⟩)
      | (refine Runs.ctls 30 rfl ?_; first | refine Runs.cond_t rfl ?_ | refine Runs.cond_f rfl ?_ | ((first | refine Runs.cond_yes rfl ?_ ?_ | refine Runs.cond_nno rfl ?_ ?_); · first | omega | rfl | assumption | (simp only [List.length_map]; omega)) | ((first | refine Runs.cond_no rfl ?_ ?_ | refine Runs.cond_nyes rfl ?_ ?_); · first | omega | rfl | assumption | (simp only [List.length_map]; omega)) | refine Runs.cond_dec rfl (fun h => ?_) (fun h => ?_) | refine Runs.cond_ndec rfl (fun h => ?_) (fun h => ?_) | refine Runs.cond_nb rfl (fun h => ?_) (fun h => ?_) | refine Runs.cond_b rfl (fun h => ?_) (fun h => ?_) | refine Runs.ret (ends_ro hm rfl rfl ?_) | exact Runs.ret (ends_cellR hm rfl rfl rfl (Nat.le_of_ble_eq_true rfl) rfl rfl))
      | refine op_box rfl (tl hn rfl) ?_
      | refine op_storeF rfl rfl rfl rfl (Nat.le_of_ble_eq_true rfl) ?_
      | refine op_alloc (tl hn rfl) ?_
      | refine op_storeN rfl rfl rfl rfl (Nat.le_of_ble_eq_true rfl) ?_
      | refine RunsD.step tabOk hn rfl rfl ?_
      | refine RunsD.nil ?_
      | refine Runs.toDraw 30 mixed hn rfl (by kernel_rfl) rfl ?_
      | ((first | refine RunsL.pe hn rfl rfl rfl ?_ | refine RunsD.pe rfl rfl ?_); first
        | refine ⟨_, pu_add rfl rfl (by omega), ?_⟩
        | refine ⟨_, pu_indexAddr_map rfl rfl (by omega) (by assumption), ?_⟩
        | refine ⟨_, pu_sub rfl rfl (by omega), ?_⟩
        | refine ⟨_, pu_pick_b rfl rfl rfl, ?_⟩
        | refine ⟨_, pu_mul rfl rfl (by omega), ?_⟩
        | refine ⟨_, pu_build rfl rfl rfl rfl rfl rfl, ?_⟩)
      | ((first | refine RunsL.guard_dec rfl rfl rfl ?_ ?_ | refine RunsL.guard_ndec rfl rfl rfl ?_ ?_ | refine RunsL.guard_nb rfl rfl rfl ?_ ?_ | refine RunsL.guard_b rfl rfl rfl ?_ ?_ | refine RunsD.guard_dec rfl rfl rfl ?_ ?_ | refine RunsD.guard_ndec rfl rfl rfl ?_ ?_ | refine RunsD.guard_nb rfl rfl rfl ?_ ?_ | refine RunsD.guard_b rfl rfl rfl ?_ ?_) <;> intro h <;> try (exfalso; first | omega | contradiction | (simp only [List.length_map] at h; omega))))
    exact Runs.ctls 30 rfl (Runs.ret (ends_own (rs := []) hm rfl rfl rfl rfl rfl))
/-- A number that an integer rule can hold. -/
def HasInt (d : Des) (r n : Int) : Prop := Kn d r ∧ 0 ≤ n ∧ n ≤ lim d r
open Classical in
noncomputable def prtB (d : Des) (r n : Int) : List UInt8 := if HasInt d r n then (match d[r.toNat]? with
  | some x => encI x n
  | none => []) else []
noncomputable instance (d : Des) (r n : Int) : Decidable (HasInt d r n) := Classical.propDecidable _
theorem prtB_yes {d : Des} {r n : Int} {x : Rul} (h : HasInt d r n) (hx : d[r.toNat]? = some x) : prtB d r n = encI x n := by
  unfold prtB
  rw [if_pos h]
  simp only [hx]
theorem prtB_no {d : Des} {r a : Int} (h : ¬ HasInt d r a) : prtB d r a = [] := if_neg h
theorem prtB_len (d : Des) (r a : Int) : (prtB d r a).length ≤ 4 := by
  unfold prtB
  split
  · split
    · exact encI_len _ _
    · simp
  · simp
theorem lim_kind {d : Des} {n : Nat} {x : Rul} (hx : d[n]? = some x) (h : 0 ≤ lim d (n : Int)) : x.kind = 1 := by
  unfold lim at h
  rw [show ((n : Nat) : Int).toNat = n from rfl, hx] at h
  simp only at h
  split at h
  · rename_i h1; exact h1.2.1
  · omega
set_option maxHeartbeats 4000000 in
theorem impl_PrintInteger (d : Des) (ho : DesOk d) (hd : dtotal d ≤ 1048576) (r a : Int) : AC Try.prog 41 [desR d, .int r, .int a] (fun rr => rr = .tup [.row 5 1 ((prtB d r a).map RV.u8), .ro (.bool (decide (HasInt d r a)))]) := by
  have hkn := known_ac d ho hd r
  have hlm : (d.map rulR).length = d.length := List.length_map ..
  have et : dtotal d = d.length + (d.map Rul.total).sum := rfl
  have hL := impl_IntegerLimit d r (by unfold maxLen; omega)
  by_cases hK : Kn d r
  · rw [decide_eq_true hK] at hkn
    obtain ⟨n, x, rfl, hn', hx⟩ := kn_nat hK
    have hx' : d[(n : Int).toNat]? = some x := hx
    have hlk := lim_kind hx
    by_cases hT : HasInt d n a
    · have ht := hT
      obtain ⟨_, a0, a1⟩ := ht
      rw [prtB_yes hT hx', decide_eq_true hT]
      have hE := impl_encodeInteger x a
      refine ac_enter Try.func41 rfl _ Try.ntmps41 (by simp) fun C hn hm => ?_
      repeat' (first
        | refine op_callOR hE rfl (tl hn rfl) ?_
        | refine RunsL.step tabOk hn rfl ?_
        | refine RunsL.nil ?_
        | refine Runs.toRegion 30 rfl ?_
        | ((first | refine RunsL.pe hn rfl rfl rfl ?_ | refine RunsD.pe rfl rfl ?_); first
          | refine ⟨_, pu_callR hkn rfl, ?_⟩
          | refine ⟨_, pu_callR hL rfl, ?_⟩
          | refine ⟨_, pu_callR (inRange_ac _ _ _) rfl, ?_⟩)
        | (refine Runs.ctls 30 rfl ?_; first | refine Runs.cond_t rfl ?_ | refine Runs.cond_f rfl ?_ | ((first | refine Runs.cond_yes rfl ?_ ?_ | refine Runs.cond_nno rfl ?_ ?_); · first | omega | rfl | assumption | (simp only [List.length_map]; omega)) | ((first | refine Runs.cond_no rfl ?_ ?_ | refine Runs.cond_nyes rfl ?_ ?_); · first | omega | rfl | assumption | (simp only [List.length_map]; omega)) | refine Runs.cond_dec rfl (fun h => ?_) (fun h => ?_) | refine Runs.cond_ndec rfl (fun h => ?_) (fun h => ?_) | refine Runs.cond_nb rfl (fun h => ?_) (fun h => ?_) | refine Runs.cond_b rfl (fun h => ?_) (fun h => ?_) | refine Runs.ret (ends_ro hm rfl rfl ?_) | exact Runs.ret (ends_cellR hm rfl rfl rfl (Nat.le_of_ble_eq_true rfl) rfl rfl))
        | refine op_box rfl (tl hn rfl) ?_
        | refine op_storeF rfl rfl rfl rfl (Nat.le_of_ble_eq_true rfl) ?_
        | refine op_alloc (tl hn rfl) ?_
        | refine op_storeN rfl rfl rfl rfl (Nat.le_of_ble_eq_true rfl) ?_
        | refine RunsD.step tabOk hn rfl rfl ?_
        | refine RunsD.nil ?_
        | refine Runs.toDraw 30 mixed hn rfl (by kernel_rfl) rfl ?_
        | ((first | refine RunsL.pe hn rfl rfl rfl ?_ | refine RunsD.pe rfl rfl ?_); first
          | refine ⟨_, pu_add rfl rfl (by omega), ?_⟩
          | refine ⟨_, pu_indexAddr_map rfl rfl (by omega) (by assumption), ?_⟩
          | refine ⟨_, pu_sub rfl rfl (by omega), ?_⟩
          | refine ⟨_, pu_pick_b rfl rfl rfl, ?_⟩
          | refine ⟨_, pu_mul rfl rfl (by omega), ?_⟩
          | refine ⟨_, pu_build rfl rfl rfl rfl rfl rfl, ?_⟩)
        | ((first | refine RunsL.guard_dec rfl rfl rfl ?_ ?_ | refine RunsL.guard_ndec rfl rfl rfl ?_ ?_ | refine RunsL.guard_nb rfl rfl rfl ?_ ?_ | refine RunsL.guard_b rfl rfl rfl ?_ ?_ | refine RunsD.guard_dec rfl rfl rfl ?_ ?_ | refine RunsD.guard_ndec rfl rfl rfl ?_ ?_ | refine RunsD.guard_nb rfl rfl rfl ?_ ?_ | refine RunsD.guard_b rfl rfl rfl ?_ ?_) <;> intro h <;> try (exfalso; first | omega | contradiction | (simp only [List.length_map] at h; omega))))
      all_goals first
        | exact Runs.ctls 30 rfl (Runs.ret (endsN hm (xs := [.tmp 6, .tmp 7]) rfl (by simp) [.own 1, .bool true] ⟨_, _, rfl, rfl, _, _, rfl, rfl, rfl⟩ [.row 5 1 ((encI x a).map RV.u8), .ro (.bool true)] [1] ⟨_, _, [1], [], rfl, rfl, ⟨1, rfl, rfl, rfl⟩, _, _, [], [], rfl, rfl, ⟨rfl, rfl⟩, rfl, rfl⟩ (by simp) rfl))
        | (exfalso; unfold InR at *; omega)
        | (exfalso; omega)
    · have hT' : ¬ (0 ≤ a ∧ a ≤ lim d n) := fun h => hT ⟨hK, h⟩
      rw [prtB_no hT, decide_eq_false hT]
      refine ac_enter Try.func41 rfl _ Try.ntmps41 (by simp) fun C hn hm => ?_
      repeat' (first
        | refine op_build0 (tl hn rfl) ?_
        | refine RunsL.step tabOk hn rfl ?_
        | refine RunsL.nil ?_
        | refine Runs.toRegion 30 rfl ?_
        | ((first | refine RunsL.pe hn rfl rfl rfl ?_ | refine RunsD.pe rfl rfl ?_); first
          | refine ⟨_, pu_callR hkn rfl, ?_⟩
          | refine ⟨_, pu_callR hL rfl, ?_⟩
          | refine ⟨_, pu_callR (inRange_ac _ _ _) rfl, ?_⟩)
        | (refine Runs.ctls 30 rfl ?_; first | refine Runs.cond_t rfl ?_ | refine Runs.cond_f rfl ?_ | ((first | refine Runs.cond_yes rfl ?_ ?_ | refine Runs.cond_nno rfl ?_ ?_); · first | omega | rfl | assumption | (simp only [List.length_map]; omega)) | ((first | refine Runs.cond_no rfl ?_ ?_ | refine Runs.cond_nyes rfl ?_ ?_); · first | omega | rfl | assumption | (simp only [List.length_map]; omega)) | refine Runs.cond_dec rfl (fun h => ?_) (fun h => ?_) | refine Runs.cond_ndec rfl (fun h => ?_) (fun h => ?_) | refine Runs.cond_nb rfl (fun h => ?_) (fun h => ?_) | refine Runs.cond_b rfl (fun h => ?_) (fun h => ?_) | refine Runs.ret (ends_ro hm rfl rfl ?_) | exact Runs.ret (ends_cellR hm rfl rfl rfl (Nat.le_of_ble_eq_true rfl) rfl rfl))
        | refine op_box rfl (tl hn rfl) ?_
        | refine op_storeF rfl rfl rfl rfl (Nat.le_of_ble_eq_true rfl) ?_
        | refine op_alloc (tl hn rfl) ?_
        | refine op_storeN rfl rfl rfl rfl (Nat.le_of_ble_eq_true rfl) ?_
        | refine RunsD.step tabOk hn rfl rfl ?_
        | refine RunsD.nil ?_
        | refine Runs.toDraw 30 mixed hn rfl (by kernel_rfl) rfl ?_
        | ((first | refine RunsL.pe hn rfl rfl rfl ?_ | refine RunsD.pe rfl rfl ?_); first
          | refine ⟨_, pu_add rfl rfl (by omega), ?_⟩
          | refine ⟨_, pu_indexAddr_map rfl rfl (by omega) (by assumption), ?_⟩
          | refine ⟨_, pu_sub rfl rfl (by omega), ?_⟩
          | refine ⟨_, pu_pick_b rfl rfl rfl, ?_⟩
          | refine ⟨_, pu_mul rfl rfl (by omega), ?_⟩
          | refine ⟨_, pu_build rfl rfl rfl rfl rfl rfl, ?_⟩)
        | ((first | refine RunsL.guard_dec rfl rfl rfl ?_ ?_ | refine RunsL.guard_ndec rfl rfl rfl ?_ ?_ | refine RunsL.guard_nb rfl rfl rfl ?_ ?_ | refine RunsL.guard_b rfl rfl rfl ?_ ?_ | refine RunsD.guard_dec rfl rfl rfl ?_ ?_ | refine RunsD.guard_ndec rfl rfl rfl ?_ ?_ | refine RunsD.guard_nb rfl rfl rfl ?_ ?_ | refine RunsD.guard_b rfl rfl rfl ?_ ?_) <;> intro h <;> try (exfalso; first | omega | contradiction | (simp only [List.length_map] at h; omega))))
      all_goals first
        | exact Runs.ctls 30 rfl (Runs.ret (endsN hm (xs := [.tmp 6, .tmp 7]) rfl (by simp) [.own 1, .bool false] ⟨_, _, rfl, rfl, _, _, rfl, rfl, rfl⟩ [.row 5 1 [], .ro (.bool false)] [1] ⟨_, _, [1], [], rfl, rfl, ⟨1, rfl, rfl, rfl⟩, _, _, [], [], rfl, rfl, ⟨rfl, rfl⟩, rfl, rfl⟩ (by simp) rfl))
        | (exfalso; unfold InR at *; omega)
        | (exfalso; omega)
  · rw [decide_eq_false hK] at hkn
    have hT : ¬ HasInt d r a := fun h => hK h.1
    rw [prtB_no hT, decide_eq_false hT]
    refine ac_enter Try.func41 rfl _ Try.ntmps41 (by simp) fun C hn hm => ?_
    repeat' (first
      | refine op_build0 (tl hn rfl) ?_
      | refine RunsL.step tabOk hn rfl ?_
      | refine RunsL.nil ?_
      | refine Runs.toRegion 30 rfl ?_
      | ((first | refine RunsL.pe hn rfl rfl rfl ?_ | refine RunsD.pe rfl rfl ?_); first
        | refine ⟨_, pu_callR hkn rfl, ?_⟩)
      | (refine Runs.ctls 30 rfl ?_; first | refine Runs.cond_t rfl ?_ | refine Runs.cond_f rfl ?_ | ((first | refine Runs.cond_yes rfl ?_ ?_ | refine Runs.cond_nno rfl ?_ ?_); · first | omega | rfl | assumption | (simp only [List.length_map]; omega)) | ((first | refine Runs.cond_no rfl ?_ ?_ | refine Runs.cond_nyes rfl ?_ ?_); · first | omega | rfl | assumption | (simp only [List.length_map]; omega)) | refine Runs.cond_dec rfl (fun h => ?_) (fun h => ?_) | refine Runs.cond_ndec rfl (fun h => ?_) (fun h => ?_) | refine Runs.cond_nb rfl (fun h => ?_) (fun h => ?_) | refine Runs.cond_b rfl (fun h => ?_) (fun h => ?_) | refine Runs.ret (ends_ro hm rfl rfl ?_) | exact Runs.ret (ends_cellR hm rfl rfl rfl (Nat.le_of_ble_eq_true rfl) rfl rfl))
      | refine op_box rfl (tl hn rfl) ?_
      | refine op_storeF rfl rfl rfl rfl (Nat.le_of_ble_eq_true rfl) ?_
      | refine op_alloc (tl hn rfl) ?_
      | refine op_storeN rfl rfl rfl rfl (Nat.le_of_ble_eq_true rfl) ?_
      | refine RunsD.step tabOk hn rfl rfl ?_
      | refine RunsD.nil ?_
      | refine Runs.toDraw 30 mixed hn rfl (by kernel_rfl) rfl ?_
      | ((first | refine RunsL.pe hn rfl rfl rfl ?_ | refine RunsD.pe rfl rfl ?_); first
        | refine ⟨_, pu_add rfl rfl (by omega), ?_⟩
        | refine ⟨_, pu_indexAddr_map rfl rfl (by omega) (by assumption), ?_⟩
        | refine ⟨_, pu_sub rfl rfl (by omega), ?_⟩
        | refine ⟨_, pu_pick_b rfl rfl rfl, ?_⟩
        | refine ⟨_, pu_mul rfl rfl (by omega), ?_⟩
        | refine ⟨_, pu_build rfl rfl rfl rfl rfl rfl, ?_⟩)
      | ((first | refine RunsL.guard_dec rfl rfl rfl ?_ ?_ | refine RunsL.guard_ndec rfl rfl rfl ?_ ?_ | refine RunsL.guard_nb rfl rfl rfl ?_ ?_ | refine RunsL.guard_b rfl rfl rfl ?_ ?_ | refine RunsD.guard_dec rfl rfl rfl ?_ ?_ | refine RunsD.guard_ndec rfl rfl rfl ?_ ?_ | refine RunsD.guard_nb rfl rfl rfl ?_ ?_ | refine RunsD.guard_b rfl rfl rfl ?_ ?_) <;> intro h <;> try (exfalso; first | omega | contradiction | (simp only [List.length_map] at h; omega))))
    exact Runs.ctls 30 rfl (Runs.ret (endsN hm (xs := [.tmp 6, .tmp 7]) rfl (by simp) [.own 1, .bool false] ⟨_, _, rfl, rfl, _, _, rfl, rfl, rfl⟩ [.row 5 1 [], .ro (.bool false)] [1] ⟨_, _, [1], [], rfl, rfl, ⟨1, rfl, rfl, rfl⟩, _, _, [], [], rfl, rfl, ⟨rfl, rfl⟩, rfl, rfl⟩ (by simp) rfl))
set_option maxHeartbeats 4000000 in
theorem spec_PrintInteger (d : Des) (ho : DesOk d) (hd : dtotal d ≤ 1048576) (r a : Int) : AC Try.prog 40 [desR d, .int r, .int a] (fun rr => rr = .tup [.row 5 1 ((prtB d r a).map RV.u8), .ro (.bool (decide (HasInt d r a)))]) := by
  have hkn := l7Rule_ac d ho hd r
  have hlm : (d.map rulR).length = d.length := List.length_map ..
  have et : dtotal d = d.length + (d.map Rul.total).sum := rfl
  have hL := spec_IntegerLimit d r (by unfold maxLen; omega)
  by_cases hK : Kn d r
  · rw [decide_eq_true hK] at hkn
    obtain ⟨n, x, rfl, hn', hx⟩ := kn_nat hK
    have hx' : d[(n : Int).toNat]? = some x := hx
    by_cases hT : HasInt d n a
    · have ht := hT
      obtain ⟨_, a0, a1⟩ := ht
      rw [prtB_yes hT hx', decide_eq_true hT]
      have hE := spec_l8Integer x a
      refine ac_enter Try.func40 rfl _ Try.ntmps40 (by simp) fun C hn hm => ?_
      repeat' (first
        | refine op_callOR hE rfl (tl hn rfl) ?_
        | refine RunsL.step tabOk hn rfl ?_
        | refine RunsL.nil ?_
        | refine Runs.toRegion 30 rfl ?_
        | ((first | refine RunsL.pe hn rfl rfl rfl ?_ | refine RunsD.pe rfl rfl ?_); first
          | refine ⟨_, pu_callR hkn rfl, ?_⟩
          | refine ⟨_, pu_callR hL rfl, ?_⟩
          | refine ⟨_, pu_callR (l1In_ac _ _ _) rfl, ?_⟩)
        | (refine Runs.ctls 30 rfl ?_; first | refine Runs.cond_t rfl ?_ | refine Runs.cond_f rfl ?_ | ((first | refine Runs.cond_yes rfl ?_ ?_ | refine Runs.cond_nno rfl ?_ ?_); · first | omega | rfl | assumption | (simp only [List.length_map]; omega)) | ((first | refine Runs.cond_no rfl ?_ ?_ | refine Runs.cond_nyes rfl ?_ ?_); · first | omega | rfl | assumption | (simp only [List.length_map]; omega)) | refine Runs.cond_dec rfl (fun h => ?_) (fun h => ?_) | refine Runs.cond_ndec rfl (fun h => ?_) (fun h => ?_) | refine Runs.cond_nb rfl (fun h => ?_) (fun h => ?_) | refine Runs.cond_b rfl (fun h => ?_) (fun h => ?_) | refine Runs.ret (ends_ro hm rfl rfl ?_) | exact Runs.ret (ends_cellR hm rfl rfl rfl (Nat.le_of_ble_eq_true rfl) rfl rfl))
        | refine op_box rfl (tl hn rfl) ?_
        | refine op_storeF rfl rfl rfl rfl (Nat.le_of_ble_eq_true rfl) ?_
        | refine op_alloc (tl hn rfl) ?_
        | refine op_storeN rfl rfl rfl rfl (Nat.le_of_ble_eq_true rfl) ?_
        | refine RunsD.step tabOk hn rfl rfl ?_
        | refine RunsD.nil ?_
        | refine Runs.toDraw 30 mixed hn rfl (by kernel_rfl) rfl ?_
        | ((first | refine RunsL.pe hn rfl rfl rfl ?_ | refine RunsD.pe rfl rfl ?_); first
          | refine ⟨_, pu_add rfl rfl (by omega), ?_⟩
          | refine ⟨_, pu_indexAddr_map rfl rfl (by omega) (by assumption), ?_⟩
          | refine ⟨_, pu_sub rfl rfl (by omega), ?_⟩
          | refine ⟨_, pu_pick_b rfl rfl rfl, ?_⟩
          | refine ⟨_, pu_mul rfl rfl (by omega), ?_⟩
          | refine ⟨_, pu_build rfl rfl rfl rfl rfl rfl, ?_⟩)
        | ((first | refine RunsL.guard_dec rfl rfl rfl ?_ ?_ | refine RunsL.guard_ndec rfl rfl rfl ?_ ?_ | refine RunsL.guard_nb rfl rfl rfl ?_ ?_ | refine RunsL.guard_b rfl rfl rfl ?_ ?_ | refine RunsD.guard_dec rfl rfl rfl ?_ ?_ | refine RunsD.guard_ndec rfl rfl rfl ?_ ?_ | refine RunsD.guard_nb rfl rfl rfl ?_ ?_ | refine RunsD.guard_b rfl rfl rfl ?_ ?_) <;> intro h <;> try (exfalso; first | omega | contradiction | (simp only [List.length_map] at h; omega))))
      all_goals first
        | exact Runs.ctls 30 rfl (Runs.ret (endsN hm (xs := [.tmp 6, .tmp 7]) rfl (by simp) [.own 1, .bool true] ⟨_, _, rfl, rfl, _, _, rfl, rfl, rfl⟩ [.row 5 1 ((encI x a).map RV.u8), .ro (.bool true)] [1] ⟨_, _, [1], [], rfl, rfl, ⟨1, rfl, rfl, rfl⟩, _, _, [], [], rfl, rfl, ⟨rfl, rfl⟩, rfl, rfl⟩ (by simp) rfl))
        | (exfalso; unfold InR at *; omega)
        | (exfalso; omega)
    · have hT' : ¬ (0 ≤ a ∧ a ≤ lim d n) := fun h => hT ⟨hK, h⟩
      rw [prtB_no hT, decide_eq_false hT]
      refine ac_enter Try.func40 rfl _ Try.ntmps40 (by simp) fun C hn hm => ?_
      repeat' (first
        | refine op_build0 (tl hn rfl) ?_
        | refine RunsL.step tabOk hn rfl ?_
        | refine RunsL.nil ?_
        | refine Runs.toRegion 30 rfl ?_
        | ((first | refine RunsL.pe hn rfl rfl rfl ?_ | refine RunsD.pe rfl rfl ?_); first
          | refine ⟨_, pu_callR hkn rfl, ?_⟩
          | refine ⟨_, pu_callR hL rfl, ?_⟩
          | refine ⟨_, pu_callR (l1In_ac _ _ _) rfl, ?_⟩)
        | (refine Runs.ctls 30 rfl ?_; first | refine Runs.cond_t rfl ?_ | refine Runs.cond_f rfl ?_ | ((first | refine Runs.cond_yes rfl ?_ ?_ | refine Runs.cond_nno rfl ?_ ?_); · first | omega | rfl | assumption | (simp only [List.length_map]; omega)) | ((first | refine Runs.cond_no rfl ?_ ?_ | refine Runs.cond_nyes rfl ?_ ?_); · first | omega | rfl | assumption | (simp only [List.length_map]; omega)) | refine Runs.cond_dec rfl (fun h => ?_) (fun h => ?_) | refine Runs.cond_ndec rfl (fun h => ?_) (fun h => ?_) | refine Runs.cond_nb rfl (fun h => ?_) (fun h => ?_) | refine Runs.cond_b rfl (fun h => ?_) (fun h => ?_) | refine Runs.ret (ends_ro hm rfl rfl ?_) | exact Runs.ret (ends_cellR hm rfl rfl rfl (Nat.le_of_ble_eq_true rfl) rfl rfl))
        | refine op_box rfl (tl hn rfl) ?_
        | refine op_storeF rfl rfl rfl rfl (Nat.le_of_ble_eq_true rfl) ?_
        | refine op_alloc (tl hn rfl) ?_
        | refine op_storeN rfl rfl rfl rfl (Nat.le_of_ble_eq_true rfl) ?_
        | refine RunsD.step tabOk hn rfl rfl ?_
        | refine RunsD.nil ?_
        | refine Runs.toDraw 30 mixed hn rfl (by kernel_rfl) rfl ?_
        | ((first | refine RunsL.pe hn rfl rfl rfl ?_ | refine RunsD.pe rfl rfl ?_); first
          | refine ⟨_, pu_add rfl rfl (by omega), ?_⟩
          | refine ⟨_, pu_indexAddr_map rfl rfl (by omega) (by assumption), ?_⟩
          | refine ⟨_, pu_sub rfl rfl (by omega), ?_⟩
          | refine ⟨_, pu_pick_b rfl rfl rfl, ?_⟩
          | refine ⟨_, pu_mul rfl rfl (by omega), ?_⟩
          | refine ⟨_, pu_build rfl rfl rfl rfl rfl rfl, ?_⟩)
        | ((first | refine RunsL.guard_dec rfl rfl rfl ?_ ?_ | refine RunsL.guard_ndec rfl rfl rfl ?_ ?_ | refine RunsL.guard_nb rfl rfl rfl ?_ ?_ | refine RunsL.guard_b rfl rfl rfl ?_ ?_ | refine RunsD.guard_dec rfl rfl rfl ?_ ?_ | refine RunsD.guard_ndec rfl rfl rfl ?_ ?_ | refine RunsD.guard_nb rfl rfl rfl ?_ ?_ | refine RunsD.guard_b rfl rfl rfl ?_ ?_) <;> intro h <;> try (exfalso; first | omega | contradiction | (simp only [List.length_map] at h; omega))))
      all_goals first
        | exact Runs.ctls 30 rfl (Runs.ret (endsN hm (xs := [.tmp 6, .tmp 7]) rfl (by simp) [.own 1, .bool false] ⟨_, _, rfl, rfl, _, _, rfl, rfl, rfl⟩ [.row 5 1 [], .ro (.bool false)] [1] ⟨_, _, [1], [], rfl, rfl, ⟨1, rfl, rfl, rfl⟩, _, _, [], [], rfl, rfl, ⟨rfl, rfl⟩, rfl, rfl⟩ (by simp) rfl))
        | (exfalso; unfold InR at *; omega)
        | (exfalso; omega)
  · rw [decide_eq_false hK] at hkn
    have hT : ¬ HasInt d r a := fun h => hK h.1
    rw [prtB_no hT, decide_eq_false hT]
    refine ac_enter Try.func40 rfl _ Try.ntmps40 (by simp) fun C hn hm => ?_
    repeat' (first
      | refine op_build0 (tl hn rfl) ?_
      | refine RunsL.step tabOk hn rfl ?_
      | refine RunsL.nil ?_
      | refine Runs.toRegion 30 rfl ?_
      | ((first | refine RunsL.pe hn rfl rfl rfl ?_ | refine RunsD.pe rfl rfl ?_); first
        | refine ⟨_, pu_callR hkn rfl, ?_⟩)
      | (refine Runs.ctls 30 rfl ?_; first | refine Runs.cond_t rfl ?_ | refine Runs.cond_f rfl ?_ | ((first | refine Runs.cond_yes rfl ?_ ?_ | refine Runs.cond_nno rfl ?_ ?_); · first | omega | rfl | assumption | (simp only [List.length_map]; omega)) | ((first | refine Runs.cond_no rfl ?_ ?_ | refine Runs.cond_nyes rfl ?_ ?_); · first | omega | rfl | assumption | (simp only [List.length_map]; omega)) | refine Runs.cond_dec rfl (fun h => ?_) (fun h => ?_) | refine Runs.cond_ndec rfl (fun h => ?_) (fun h => ?_) | refine Runs.cond_nb rfl (fun h => ?_) (fun h => ?_) | refine Runs.cond_b rfl (fun h => ?_) (fun h => ?_) | refine Runs.ret (ends_ro hm rfl rfl ?_) | exact Runs.ret (ends_cellR hm rfl rfl rfl (Nat.le_of_ble_eq_true rfl) rfl rfl))
      | refine op_box rfl (tl hn rfl) ?_
      | refine op_storeF rfl rfl rfl rfl (Nat.le_of_ble_eq_true rfl) ?_
      | refine op_alloc (tl hn rfl) ?_
      | refine op_storeN rfl rfl rfl rfl (Nat.le_of_ble_eq_true rfl) ?_
      | refine RunsD.step tabOk hn rfl rfl ?_
      | refine RunsD.nil ?_
      | refine Runs.toDraw 30 mixed hn rfl (by kernel_rfl) rfl ?_
      | ((first | refine RunsL.pe hn rfl rfl rfl ?_ | refine RunsD.pe rfl rfl ?_); first
        | refine ⟨_, pu_add rfl rfl (by omega), ?_⟩
        | refine ⟨_, pu_indexAddr_map rfl rfl (by omega) (by assumption), ?_⟩
        | refine ⟨_, pu_sub rfl rfl (by omega), ?_⟩
        | refine ⟨_, pu_pick_b rfl rfl rfl, ?_⟩
        | refine ⟨_, pu_mul rfl rfl (by omega), ?_⟩
        | refine ⟨_, pu_build rfl rfl rfl rfl rfl rfl, ?_⟩)
      | ((first | refine RunsL.guard_dec rfl rfl rfl ?_ ?_ | refine RunsL.guard_ndec rfl rfl rfl ?_ ?_ | refine RunsL.guard_nb rfl rfl rfl ?_ ?_ | refine RunsL.guard_b rfl rfl rfl ?_ ?_ | refine RunsD.guard_dec rfl rfl rfl ?_ ?_ | refine RunsD.guard_ndec rfl rfl rfl ?_ ?_ | refine RunsD.guard_nb rfl rfl rfl ?_ ?_ | refine RunsD.guard_b rfl rfl rfl ?_ ?_) <;> intro h <;> try (exfalso; first | omega | contradiction | (simp only [List.length_map] at h; omega))))
    exact Runs.ctls 30 rfl (Runs.ret (endsN hm (xs := [.tmp 6, .tmp 7]) rfl (by simp) [.own 1, .bool false] ⟨_, _, rfl, rfl, _, _, rfl, rfl, rfl⟩ [.row 5 1 [], .ro (.bool false)] [1] ⟨_, _, [1], [], rfl, rfl, ⟨1, rfl, rfl, rfl⟩, _, _, [], [], rfl, rfl, ⟨rfl, rfl⟩, rfl, rfl⟩ (by simp) rfl))
end Go.Proofs.Ytcifgbmmnkilfaa
