/- The rules that a rule uses: both sides. -/
import Derived.Test.YtcifgbmmnkilfaaVkI
import Derived.Test.YtcifgbmmnkilfaaEmp
namespace Go.Proofs.Ytcifgbmmnkilfaa
set_option linter.unusedSimpArgs false
set_option linter.unusedVariables false
open Go.RowKit
def markB (ks : List Int) (u : Nat → Bool) : Nat → Bool := fun j => u j || ks.contains (j : Int)
/-- From rule i - 1 down to the first. -/
def usedB (d : Des) : Nat → (Nat → Bool) → (Nat → Bool)
  | 0, u => u
  | i + 1, u => usedB d i (match d[i]? with
    | some r => if u i = true then markB r.kids u else u
    | none => u)
def usedF (d : Des) (rule : Nat) : Nat → Bool := usedB d (rule + 1) (put1 (fun _ => false) rule true)
def usedOf (d : Des) (rule : Int) : List Int := ((List.range d.length).filter (usedF d rule.toNat)).map fun j : Nat => (j : Int)
noncomputable def usedL (d : Des) (rule : Int) : List Int := open Classical in if Kn d rule then usedOf d rule else []
theorem usedB_succ {d : Des} {i : Nat} {r : Rul} (h : d[i]? = some r) (u : Nat → Bool) : usedB d (i + 1) u = usedB d i (if u i = true then markB r.kids u else u) := by
  show usedB d i _ = _
  rw [h]
theorem markB_next {ks : List Int} {j : Nat} {k : Int} (h : ks[j]? = some k) (h0 : 0 ≤ k) (u : Nat → Bool) : put1 (markB (ks.take j) u) k.toNat true = markB (ks.take (j + 1)) u := by
  funext m
  obtain ⟨hj, he⟩ := List.getElem?_eq_some_iff.1 h
  unfold put1 markB
  rw [List.take_succ_eq_append_getElem hj, he]
  by_cases e : m = k.toNat
  · subst e
    have : ((k.toNat : Nat) : Int) = k := Int.toNat_of_nonneg h0
    simp [this]
  · have : ¬ (m : Int) = k := fun h => e (by rw [← h]; rfl)
    simp [e, this]
theorem markB_zero (ks : List Int) (u : Nat → Bool) : markB (ks.take 0) u = u := by funext m; simp [markB]
theorem good_kid {d : Des} (h : Good' d) {i : Nat} {r : Rul} (hr : d[i]? = some r) {j : Nat} {k : Int} (hk : r.kids[j]? = some k) : 0 ≤ k ∧ k < i := by
  have hi := (List.getElem?_eq_some_iff.1 hr).1
  obtain ⟨_, r', h1, h2⟩ := h.2.2 i hi
  rw [show ((i : Nat) : Int).toNat = i by rfl, hr] at h1; injection h1 with h1; subst h1
  exact h2.2.1 j k hk
theorem Rul.Ok.kidsLe {r : Rul} (h : r.Ok) : r.kids.length ≤ 9223372036854775807 := by
  obtain ⟨o1, o2, o3, o4, o5, o6, o7⟩ := h.lens
  unfold maxLen at o6; omega
theorem usedL_yes {d : Des} {i : Int} (h : Kn d i) : usedL d i = usedOf d i := by unfold usedL; rw [if_pos h]
theorem usedL_no {d : Des} {i : Int} (h : ¬ Kn d i) : usedL d i = [] := by unfold usedL; rw [if_neg h]
/-- The first j rules of those used. -/
def usedTo (d : Des) (rule : Nat) (j : Nat) : List Int := ((List.range j).filter (usedF d rule)).map fun j : Nat => (j : Int)
theorem usedTo_yes {d : Des} {rule j : Nat} (h : usedF d rule j = true) : usedTo d rule (j + 1) = usedTo d rule j ++ [(j : Int)] := by
  unfold usedTo
  rw [List.range_succ, List.filter_append, List.map_append]
  simp [h]
theorem usedTo_no {d : Des} {rule j : Nat} (h : usedF d rule j = false) : usedTo d rule (j + 1) = usedTo d rule j := by
  unfold usedTo
  rw [List.range_succ, List.filter_append, List.map_append]
  simp [h]
theorem usedTo_len (d : Des) (rule j : Nat) : (usedTo d rule j).length ≤ j := by
  unfold usedTo
  rw [List.length_map]
  exact Nat.le_trans (List.length_filter_le _ _) (by simp)
theorem seals_ints' (e : TypeId) (l : List Int) : Seals (.row e 1 (l.map RV.int)) (intsR l) := by
  have h := seals_row1 e (l.map RV.int)
  rwa [List.map_map] at h
set_option maxHeartbeats 4000000 in
theorem usedRules_ac (d : Des) (ho : DesOk d) (hG : Good' d) (rule : Nat) (hr : rule < d.length) : ACv Try.prog 62 [desR d, .int (rule : Int)] (.agg (boolsR 24 (usedF d rule))) := by
  have hlm : (d.map rulR).length = d.length := List.length_map ..
  have hl := hG.2.1
  have hz := bools_zero 24
  refine ac_enter Try.func62 rfl _ Try.ntmps62 (by simp) fun C hn hm => ?_
  repeat' (first
    | refine op_store1 (n := 24) (u := fun _ => false) rfl rfl rfl hz (by omega) ?_
    | refine RunsL.step tabOk hn rfl ?_
    | refine RunsL.nil ?_
    | refine Runs.toRegion 30 rfl ?_
    | ((first | refine RunsL.pe hn rfl rfl rfl ?_ | refine RunsD.pe rfl rfl ?_); first
      | refine ⟨_, pu_indexAddr_arr rfl rfl (by omega) (by omega), ?_⟩)
    | (refine Runs.ctls 30 rfl ?_; first | refine Runs.cond_t rfl ?_ | refine Runs.cond_f rfl ?_ | ((first | refine Runs.cond_yes rfl ?_ ?_ | refine Runs.cond_nno rfl ?_ ?_); · first | omega | rfl | assumption | (simp only [List.length_map]; omega)) | ((first | refine Runs.cond_no rfl ?_ ?_ | refine Runs.cond_nyes rfl ?_ ?_); · first | omega | rfl | assumption | (simp only [List.length_map]; omega)) | refine Runs.cond_dec rfl (fun h => ?_) (fun h => ?_) | refine Runs.cond_ndec rfl (fun h => ?_) (fun h => ?_) | refine Runs.cond_nb rfl (fun h => ?_) (fun h => ?_) | refine Runs.cond_b rfl (fun h => ?_) (fun h => ?_) | refine Runs.ret (ends_ro hm rfl rfl ?_) | exact Runs.ret (ends_cellR hm rfl rfl rfl (Nat.le_of_ble_eq_true rfl) rfl rfl))
    | refine op_box rfl (tl hn rfl) ?_
    | refine op_storeF rfl rfl rfl rfl (Nat.le_of_ble_eq_true rfl) ?_
    | refine op_alloc (tl hn rfl) ?_
    | refine op_storeN rfl rfl rfl rfl (Nat.le_of_ble_eq_true rfl) ?_
    | refine RunsD.step tabOk hn rfl rfl ?_
    | refine RunsD.nil ?_
    | refine Runs.toDraw 30 mixed hn rfl (by kernel_rfl) rfl ?_
    | ((first | refine RunsL.pe hn rfl rfl rfl ?_ | refine RunsD.pe rfl rfl ?_); first
      | refine ⟨_, pu_add rfl rfl (by omega), ?_⟩
      | refine ⟨_, pu_indexAddr_map rfl rfl (by omega) (by assumption), ?_⟩
      | refine ⟨_, pu_sub rfl rfl (by omega), ?_⟩
      | refine ⟨_, pu_pick_b rfl rfl rfl, ?_⟩
      | refine ⟨_, pu_mul rfl rfl (by omega), ?_⟩
      | refine ⟨_, pu_build rfl rfl rfl rfl rfl rfl, ?_⟩)
    | ((first | refine RunsL.guard_dec rfl rfl rfl ?_ ?_ | refine RunsL.guard_ndec rfl rfl rfl ?_ ?_ | refine RunsL.guard_nb rfl rfl rfl ?_ ?_ | refine RunsL.guard_b rfl rfl rfl ?_ ?_ | refine RunsD.guard_dec rfl rfl rfl ?_ ?_ | refine RunsD.guard_ndec rfl rfl rfl ?_ ?_ | refine RunsD.guard_nb rfl rfl rfl ?_ ?_ | refine RunsD.guard_b rfl rfl rfl ?_ ?_) <;> intro h <;> try (exfalso; first | omega | contradiction | (simp only [List.length_map] at h; omega))))
  have e1 : 0 + (rule : Int).toNat * 1 = rule := by simp
  simp only [e1]
  refine Runs.loopI 30 rfl (fun n E s => ∃ (i : Nat) (u : Nat → Bool), i = n ∧ i ≤ d.length ∧ usedB d i u = usedF d rule ∧ E = [(2, .obj 0 0), (4, .obj 1 0), (5, .obj 2 0), (6, .int ((i : Int) - 1))] ∧ s = [⟨29, 0, [.ro (rulsR d)]⟩, ⟨63, 0, (List.replicate 24 (Value.bool false)).map fun v => .ro (.c v)⟩, ⟨63, 0, bools 24 u⟩]) (rule + 1) [(2, .obj 0 0), (4, .obj 1 0), (5, .obj 2 0), (6, .int (((rule + 1 : Nat) : Int) - 1))] ⟨rfl, rfl, rfl, by simp only [look]; exact av_int (by omega), trivial⟩ ⟨rule + 1, _, rfl, by omega, rfl, rfl, rfl⟩ ?_
  rintro n E s ⟨i, u, rfl, hi, hu, rfl, rfl⟩ ih
  by_cases h0 : i = 0
  · subst h0
    repeat' (first
      | refine op_storeA (n := 24) rfl rfl rfl rfl ?_
      | ((first | refine RunsL.pe hn rfl rfl rfl ?_ | refine RunsD.pe rfl rfl ?_); first
        | refine ⟨_, pu_loadA (n := 24) rfl rfl rfl, ?_⟩)
      | refine RunsL.step tabOk hn rfl ?_
      | refine RunsL.nil ?_
      | refine Runs.toRegion 30 rfl ?_
      | (refine Runs.ctls 30 rfl ?_; first | refine Runs.cond_t rfl ?_ | refine Runs.cond_f rfl ?_ | ((first | refine Runs.cond_yes rfl ?_ ?_ | refine Runs.cond_nno rfl ?_ ?_); · first | omega | rfl | assumption | (simp only [List.length_map]; omega)) | ((first | refine Runs.cond_no rfl ?_ ?_ | refine Runs.cond_nyes rfl ?_ ?_); · first | omega | rfl | assumption | (simp only [List.length_map]; omega)) | refine Runs.cond_dec rfl (fun h => ?_) (fun h => ?_) | refine Runs.cond_ndec rfl (fun h => ?_) (fun h => ?_) | refine Runs.cond_nb rfl (fun h => ?_) (fun h => ?_) | refine Runs.cond_b rfl (fun h => ?_) (fun h => ?_) | refine Runs.ret (ends_ro hm rfl rfl ?_) | exact Runs.ret (ends_cellR hm rfl rfl rfl (Nat.le_of_ble_eq_true rfl) rfl rfl))
      | refine op_box rfl (tl hn rfl) ?_
      | refine op_storeF rfl rfl rfl rfl (Nat.le_of_ble_eq_true rfl) ?_
      | refine op_alloc (tl hn rfl) ?_
      | refine op_storeN rfl rfl rfl rfl (Nat.le_of_ble_eq_true rfl) ?_
      | refine RunsD.step tabOk hn rfl rfl ?_
      | refine RunsD.nil ?_
      | refine Runs.toDraw 30 mixed hn rfl (by kernel_rfl) rfl ?_
      | ((first | refine RunsL.pe hn rfl rfl rfl ?_ | refine RunsD.pe rfl rfl ?_); first
        | refine ⟨_, pu_add rfl rfl (by omega), ?_⟩
        | refine ⟨_, pu_indexAddr_map rfl rfl (by omega) (by assumption), ?_⟩
        | refine ⟨_, pu_sub rfl rfl (by omega), ?_⟩
        | refine ⟨_, pu_pick_b rfl rfl rfl, ?_⟩
        | refine ⟨_, pu_mul rfl rfl (by omega), ?_⟩
        | refine ⟨_, pu_build rfl rfl rfl rfl rfl rfl, ?_⟩)
      | ((first | refine RunsL.guard_dec rfl rfl rfl ?_ ?_ | refine RunsL.guard_ndec rfl rfl rfl ?_ ?_ | refine RunsL.guard_nb rfl rfl rfl ?_ ?_ | refine RunsL.guard_b rfl rfl rfl ?_ ?_ | refine RunsD.guard_dec rfl rfl rfl ?_ ?_ | refine RunsD.guard_ndec rfl rfl rfl ?_ ?_ | refine RunsD.guard_nb rfl rfl rfl ?_ ?_ | refine RunsD.guard_b rfl rfl rfl ?_ ?_) <;> intro h <;> try (exfalso; first | omega | contradiction | (simp only [List.length_map] at h; omega))))
    refine Runs.ctls 30 rfl (Runs.ret (ends_cellR (rs := boolsR 24 (usedF d rule)) hm rfl rfl rfl (Nat.le_of_eq (by rw [bools_len])) rfl ?_))
    rw [← hu]
    simp only [List.drop_zero, usedB, ← bools_map]
    exact List.take_of_length_le (by rw [bools_len]; exact Nat.le_refl _)
  · obtain ⟨m, rfl⟩ : ∃ m, i = m + 1 := ⟨i - 1, by omega⟩
    have em : ((m + 1 : Nat) : Int) - 1 = (m : Int) := by omega
    rw [em]
    obtain ⟨r, hrm⟩ : ∃ r, d[(m : Int).toNat]? = some r := ⟨_, List.getElem?_eq_getElem (by simp; omega)⟩
    have hrm' : d[m]? = some r := hrm
    rw [usedB_succ hrm'] at hu
    have hkl := (ho.rules r (List.mem_of_getElem? hrm')).kidsLe
    have e2 : 0 + (m : Int).toNat * 1 = m := by simp
    have hmid : ∀ j, 0 + (m : Int).toNat * 1 = j → u j = u m := fun j hj => by rw [← hj, e2]
    repeat' (first
      | ((first | refine RunsL.pe hn rfl rfl rfl ?_ | refine RunsD.pe rfl rfl ?_); first
        | refine ⟨_, pu_load_at (n := 24) rfl rfl rfl (by omega), ?_⟩)
      | refine RunsL.step tabOk hn rfl ?_
      | refine RunsL.nil ?_
      | refine Runs.toRegion 30 rfl ?_
      | ((first | refine RunsL.pe hn rfl rfl rfl ?_ | refine RunsD.pe rfl rfl ?_); first
        | refine ⟨_, pu_indexAddr_arr rfl rfl (by omega) (by omega), ?_⟩)
      | (refine Runs.ctls 30 rfl ?_; first | refine Runs.cond_t rfl ?_ | refine Runs.cond_f rfl ?_ | ((first | refine Runs.cond_yes rfl ?_ ?_ | refine Runs.cond_nno rfl ?_ ?_); · first | omega | rfl | assumption | (simp only [List.length_map]; omega)) | ((first | refine Runs.cond_no rfl ?_ ?_ | refine Runs.cond_nyes rfl ?_ ?_); · first | omega | rfl | assumption | (simp only [List.length_map]; omega)) | refine Runs.cond_dec rfl (fun h => ?_) (fun h => ?_) | refine Runs.cond_ndec rfl (fun h => ?_) (fun h => ?_) | refine Runs.cond_nb rfl (fun h => ?_) (fun h => ?_) | refine Runs.cond_b rfl (fun h => ?_) (fun h => ?_) | refine Runs.ret (ends_ro hm rfl rfl ?_) | exact Runs.ret (ends_cellR hm rfl rfl rfl (Nat.le_of_ble_eq_true rfl) rfl rfl))
      | refine op_box rfl (tl hn rfl) ?_
      | refine op_storeF rfl rfl rfl rfl (Nat.le_of_ble_eq_true rfl) ?_
      | refine op_alloc (tl hn rfl) ?_
      | refine op_storeN rfl rfl rfl rfl (Nat.le_of_ble_eq_true rfl) ?_
      | refine RunsD.step tabOk hn rfl rfl ?_
      | refine RunsD.nil ?_
      | refine Runs.toDraw 30 mixed hn rfl (by kernel_rfl) rfl ?_
      | ((first | refine RunsL.pe hn rfl rfl rfl ?_ | refine RunsD.pe rfl rfl ?_); first
        | refine ⟨_, pu_add rfl rfl (by omega), ?_⟩
        | refine ⟨_, pu_indexAddr_map rfl rfl (by omega) (by assumption), ?_⟩
        | refine ⟨_, pu_sub rfl rfl (by omega), ?_⟩
        | refine ⟨_, pu_pick_b rfl rfl rfl, ?_⟩
        | refine ⟨_, pu_mul rfl rfl (by omega), ?_⟩
        | refine ⟨_, pu_build rfl rfl rfl rfl rfl rfl, ?_⟩)
      | ((first | refine RunsL.guard_dec rfl rfl rfl ?_ ?_ | refine RunsL.guard_ndec rfl rfl rfl ?_ ?_ | refine RunsL.guard_nb rfl rfl rfl ?_ ?_ | refine RunsL.guard_b rfl rfl rfl ?_ ?_ | refine RunsD.guard_dec rfl rfl rfl ?_ ?_ | refine RunsD.guard_ndec rfl rfl rfl ?_ ?_ | refine RunsD.guard_nb rfl rfl rfl ?_ ?_ | refine RunsD.guard_b rfl rfl rfl ?_ ?_) <;> intro h <;> try (exfalso; first | omega | contradiction | (simp only [List.length_map] at h; omega))))
    · skip
      rw [hmid _ rfl] at h
      rw [if_neg (by rw [h]; decide)] at hu
      exact ih m [(2, .obj 0 0), (4, .obj 1 0), (5, .obj 2 0), (6, .int ((m : Int) - 1))] _ _ (by omega) ⟨m, u, rfl, by omega, hu, rfl, rfl⟩ ⟨rfl, rfl, rfl, rfl, trivial⟩
    · skip
      rw [hmid _ rfl] at h
      rw [if_pos h] at hu
      refine Runs.loopN 30 rfl (fun j => [(2, .obj 0 0), (4, .obj 1 0), (5, .obj 2 0), (6, .int (m : Int)), (25, .ro (intsR r.kids)), (26, .int (r.kids.length : Int)), (27, .int (j : Int))]) (fun j => [⟨29, 0, [.ro (rulsR d)]⟩, ⟨63, 0, (List.replicate 24 (Value.bool false)).map fun v => .ro (.c v)⟩, ⟨63, 0, bools 24 (markB (r.kids.take j) u)⟩]) (fun _ => True) r.kids.length 0 (Nat.zero_le _) trivial ⟨rfl, rfl, rfl, rfl, rfl, by simp [look], rfl, trivial⟩ (by rw [markB_zero]) fun j hj _ next => ?_
      by_cases hlt : j < r.kids.length
      · obtain ⟨z, hz⟩ : ∃ z, r.kids[(j : Int).toNat]? = some z := ⟨_, List.getElem?_eq_getElem hlt⟩
        have hz' : r.kids[j]? = some z := hz
        obtain ⟨hz0, hz1⟩ := good_kid hG hrm' hz'
        repeat' (first
          | refine op_store1 (n := 24) rfl rfl rfl rfl (by omega) ?_
          | refine RunsL.step tabOk hn rfl ?_
          | refine RunsL.nil ?_
          | refine Runs.toRegion 30 rfl ?_
          | ((first | refine RunsL.pe hn rfl rfl rfl ?_ | refine RunsD.pe rfl rfl ?_); first
            | refine ⟨_, pu_indexAddr_arr rfl rfl (by omega) (by omega), ?_⟩)
          | (refine Runs.ctls 30 rfl ?_; first | refine Runs.cond_t rfl ?_ | refine Runs.cond_f rfl ?_ | ((first | refine Runs.cond_yes rfl ?_ ?_ | refine Runs.cond_nno rfl ?_ ?_); · first | omega | rfl | assumption | (simp only [List.length_map]; omega)) | ((first | refine Runs.cond_no rfl ?_ ?_ | refine Runs.cond_nyes rfl ?_ ?_); · first | omega | rfl | assumption | (simp only [List.length_map]; omega)) | refine Runs.cond_dec rfl (fun h => ?_) (fun h => ?_) | refine Runs.cond_ndec rfl (fun h => ?_) (fun h => ?_) | refine Runs.cond_nb rfl (fun h => ?_) (fun h => ?_) | refine Runs.cond_b rfl (fun h => ?_) (fun h => ?_) | refine Runs.ret (ends_ro hm rfl rfl ?_) | exact Runs.ret (ends_cellR hm rfl rfl rfl (Nat.le_of_ble_eq_true rfl) rfl rfl))
          | refine op_box rfl (tl hn rfl) ?_
          | refine op_storeF rfl rfl rfl rfl (Nat.le_of_ble_eq_true rfl) ?_
          | refine op_alloc (tl hn rfl) ?_
          | refine op_storeN rfl rfl rfl rfl (Nat.le_of_ble_eq_true rfl) ?_
          | refine RunsD.step tabOk hn rfl rfl ?_
          | refine RunsD.nil ?_
          | refine Runs.toDraw 30 mixed hn rfl (by kernel_rfl) rfl ?_
          | ((first | refine RunsL.pe hn rfl rfl rfl ?_ | refine RunsD.pe rfl rfl ?_); first
            | refine ⟨_, pu_add rfl rfl (by omega), ?_⟩
            | refine ⟨_, pu_indexAddr_map rfl rfl (by omega) (by assumption), ?_⟩
            | refine ⟨_, pu_sub rfl rfl (by omega), ?_⟩
            | refine ⟨_, pu_pick_b rfl rfl rfl, ?_⟩
            | refine ⟨_, pu_mul rfl rfl (by omega), ?_⟩
            | refine ⟨_, pu_build rfl rfl rfl rfl rfl rfl, ?_⟩)
          | ((first | refine RunsL.guard_dec rfl rfl rfl ?_ ?_ | refine RunsL.guard_ndec rfl rfl rfl ?_ ?_ | refine RunsL.guard_nb rfl rfl rfl ?_ ?_ | refine RunsL.guard_b rfl rfl rfl ?_ ?_ | refine RunsD.guard_dec rfl rfl rfl ?_ ?_ | refine RunsD.guard_ndec rfl rfl rfl ?_ ?_ | refine RunsD.guard_nb rfl rfl rfl ?_ ?_ | refine RunsD.guard_b rfl rfl rfl ?_ ?_) <;> intro h <;> try (exfalso; first | omega | contradiction | (simp only [List.length_map] at h; omega))))
        refine next _ _ ⟨rfl, rfl, rfl, rfl, rfl, rfl, rfl, trivial⟩ hlt trivial ?_
        rw [← markB_next hz' hz0, show 0 + z.toNat * 1 = z.toNat by omega]
        rfl
      · obtain rfl : j = r.kids.length := by omega
        rw [List.take_length]
        repeat' (first
          | refine RunsL.step tabOk hn rfl ?_
          | refine RunsL.nil ?_
          | refine Runs.toRegion 30 rfl ?_
          | (refine Runs.ctls 30 rfl ?_; first | refine Runs.cond_t rfl ?_ | refine Runs.cond_f rfl ?_ | ((first | refine Runs.cond_yes rfl ?_ ?_ | refine Runs.cond_nno rfl ?_ ?_); · first | omega | rfl | assumption | (simp only [List.length_map]; omega)) | ((first | refine Runs.cond_no rfl ?_ ?_ | refine Runs.cond_nyes rfl ?_ ?_); · first | omega | rfl | assumption | (simp only [List.length_map]; omega)) | refine Runs.cond_dec rfl (fun h => ?_) (fun h => ?_) | refine Runs.cond_ndec rfl (fun h => ?_) (fun h => ?_) | refine Runs.cond_nb rfl (fun h => ?_) (fun h => ?_) | refine Runs.cond_b rfl (fun h => ?_) (fun h => ?_) | refine Runs.ret (ends_ro hm rfl rfl ?_) | exact Runs.ret (ends_cellR hm rfl rfl rfl (Nat.le_of_ble_eq_true rfl) rfl rfl))
          | refine op_box rfl (tl hn rfl) ?_
          | refine op_storeF rfl rfl rfl rfl (Nat.le_of_ble_eq_true rfl) ?_
          | refine op_alloc (tl hn rfl) ?_
          | refine op_storeN rfl rfl rfl rfl (Nat.le_of_ble_eq_true rfl) ?_
          | refine RunsD.step tabOk hn rfl rfl ?_
          | refine RunsD.nil ?_
          | refine Runs.toDraw 30 mixed hn rfl (by kernel_rfl) rfl ?_
          | ((first | refine RunsL.pe hn rfl rfl rfl ?_ | refine RunsD.pe rfl rfl ?_); first
            | refine ⟨_, pu_add rfl rfl (by omega), ?_⟩
            | refine ⟨_, pu_indexAddr_map rfl rfl (by omega) (by assumption), ?_⟩
            | refine ⟨_, pu_sub rfl rfl (by omega), ?_⟩
            | refine ⟨_, pu_pick_b rfl rfl rfl, ?_⟩
            | refine ⟨_, pu_mul rfl rfl (by omega), ?_⟩
            | refine ⟨_, pu_build rfl rfl rfl rfl rfl rfl, ?_⟩)
          | ((first | refine RunsL.guard_dec rfl rfl rfl ?_ ?_ | refine RunsL.guard_ndec rfl rfl rfl ?_ ?_ | refine RunsL.guard_nb rfl rfl rfl ?_ ?_ | refine RunsL.guard_b rfl rfl rfl ?_ ?_ | refine RunsD.guard_dec rfl rfl rfl ?_ ?_ | refine RunsD.guard_ndec rfl rfl rfl ?_ ?_ | refine RunsD.guard_nb rfl rfl rfl ?_ ?_ | refine RunsD.guard_b rfl rfl rfl ?_ ?_) <;> intro h <;> try (exfalso; first | omega | contradiction | (simp only [List.length_map] at h; omega))))
        exact ih m [(2, .obj 0 0), (4, .obj 1 0), (5, .obj 2 0), (6, .int ((m : Int) - 1))] _ _ (by omega) ⟨m, _, rfl, by omega, hu, rfl, rfl⟩ ⟨rfl, rfl, rfl, rfl, trivial⟩
set_option maxHeartbeats 4000000 in
theorem impl_UsedRules (d : Des) (ho : DesOk d) (hd : dtotal d ≤ 1048576) (rule : Int) : AC Try.prog 27 [desR d, .int rule] (fun rr => rr = .row 3 1 ((usedL d rule).map RV.int)) := by
  have hlm : (d.map rulR).length = d.length := List.length_map ..
  have hk := known_ac d ho hd rule
  refine ac_enter Try.func27 rfl _ Try.ntmps27 (by simp) fun C hn hm => ?_
  by_cases hK : Kn d rule
  · obtain ⟨r, rfl⟩ : ∃ r : Nat, rule = r := ⟨rule.toNat, by have := hK.2; omega⟩
    have hl := hK.1.2.1
    have hlt := hK.2.2
    have hu := usedRules_ac d ho hK.1 r (by omega)
    rw [usedL_yes hK]
    repeat' (first
      | refine op_build0 (Nat.lt_of_lt_of_eq (Nat.le_of_ble_eq_true rfl) hn.symm) ?_
      | refine op_storeA (n := 24) rfl rfl rfl (by simp) ?_
      | refine RunsL.step tabOk hn rfl ?_
      | refine RunsL.nil ?_
      | refine Runs.toRegion 30 rfl ?_
      | ((first | refine RunsL.pe hn rfl rfl rfl ?_ | refine RunsD.pe rfl rfl ?_); first
        | refine ⟨_, pu_callR hk rfl, ?_⟩
        | refine ⟨_, pu_callR hu rfl, ?_⟩)
      | (refine Runs.ctls 30 rfl ?_; first | refine Runs.cond_t rfl ?_ | refine Runs.cond_f rfl ?_ | ((first | refine Runs.cond_yes rfl ?_ ?_ | refine Runs.cond_nno rfl ?_ ?_); · first | omega | rfl | assumption | (simp only [List.length_map]; omega)) | ((first | refine Runs.cond_no rfl ?_ ?_ | refine Runs.cond_nyes rfl ?_ ?_); · first | omega | rfl | assumption | (simp only [List.length_map]; omega)) | refine Runs.cond_dec rfl (fun h => ?_) (fun h => ?_) | refine Runs.cond_ndec rfl (fun h => ?_) (fun h => ?_) | refine Runs.cond_nb rfl (fun h => ?_) (fun h => ?_) | refine Runs.cond_b rfl (fun h => ?_) (fun h => ?_) | refine Runs.ret (ends_ro hm rfl rfl ?_) | exact Runs.ret (ends_cellR hm rfl rfl rfl (Nat.le_of_ble_eq_true rfl) rfl rfl))
      | refine op_box rfl (tl hn rfl) ?_
      | refine op_storeF rfl rfl rfl rfl (Nat.le_of_ble_eq_true rfl) ?_
      | refine op_alloc (tl hn rfl) ?_
      | refine op_storeN rfl rfl rfl rfl (Nat.le_of_ble_eq_true rfl) ?_
      | refine RunsD.step tabOk hn rfl rfl ?_
      | refine RunsD.nil ?_
      | refine Runs.toDraw 30 mixed hn rfl (by kernel_rfl) rfl ?_
      | ((first | refine RunsL.pe hn rfl rfl rfl ?_ | refine RunsD.pe rfl rfl ?_); first
        | refine ⟨_, pu_add rfl rfl (by omega), ?_⟩
        | refine ⟨_, pu_indexAddr_map rfl rfl (by omega) (by assumption), ?_⟩
        | refine ⟨_, pu_sub rfl rfl (by omega), ?_⟩
        | refine ⟨_, pu_pick_b rfl rfl rfl, ?_⟩
        | refine ⟨_, pu_mul rfl rfl (by omega), ?_⟩
        | refine ⟨_, pu_build rfl rfl rfl rfl rfl rfl, ?_⟩)
      | ((first | refine RunsL.guard_dec rfl rfl rfl ?_ ?_ | refine RunsL.guard_ndec rfl rfl rfl ?_ ?_ | refine RunsL.guard_nb rfl rfl rfl ?_ ?_ | refine RunsL.guard_b rfl rfl rfl ?_ ?_ | refine RunsD.guard_dec rfl rfl rfl ?_ ?_ | refine RunsD.guard_ndec rfl rfl rfl ?_ ?_ | refine RunsD.guard_nb rfl rfl rfl ?_ ?_ | refine RunsD.guard_b rfl rfl rfl ?_ ?_) <;> intro h <;> try (exfalso; first | omega | contradiction | (simp only [List.length_map] at h; omega))))
    refine Runs.loopN 30 rfl (fun j => [(2, .obj 0 0), (5, .own 1), (6, .obj 2 0), (19, .int (d.length : Int)), (20, .int (j : Int))]) (fun j => [⟨29, 0, [.ro (rulsR d)]⟩, ⟨3, 1, ((usedTo d r j).map RV.int).map .ro⟩, ⟨63, 0, bools 24 (usedF d r)⟩]) (fun _ => True) d.length 0 (Nat.zero_le _) trivial ⟨rfl, rfl, rfl, by simp [look], rfl, trivial⟩ rfl fun j hj _ next => ?_
    have hul := usedTo_len d r j
    by_cases hlt : j < d.length
    · by_cases hb : usedF d r j = true
      · have hb' : ∀ i, 0 + (j : Int).toNat * 1 = i → usedF d r i = true := fun i hi => by rw [← hi, show 0 + (j : Int).toNat * 1 = j by simp]; exact hb
        repeat' (first
          | ((first | refine RunsL.pe hn rfl rfl rfl ?_ | refine RunsD.pe rfl rfl ?_); first
            | refine ⟨_, pu_load_at (n := 24) rfl rfl rfl (by omega), ?_⟩)
          | refine RunsL.step tabOk hn rfl ?_
          | refine RunsL.nil ?_
          | refine Runs.toRegion 30 rfl ?_
          | refine op_append (n := (usedTo d r j).length) rfl rfl rfl rfl rfl rfl (by simp) (FreeI.at_ ⟨by simp [AV.onlys, AV.only], onlys_ro _ _, onlys_bools _ _ _, trivial⟩) (by simp; omega) (by simp; omega) (tl hn rfl) ?_
          | ((first | refine RunsL.pe hn rfl rfl rfl ?_ | refine RunsD.pe rfl rfl ?_); first
            | refine ⟨_, pu_indexAddr_arr rfl rfl (by omega) (by omega), ?_⟩)
          | (refine Runs.ctls 30 rfl ?_; first | refine Runs.cond_t rfl ?_ | refine Runs.cond_f rfl ?_ | ((first | refine Runs.cond_yes rfl ?_ ?_ | refine Runs.cond_nno rfl ?_ ?_); · first | omega | rfl | assumption | (simp only [List.length_map]; omega)) | ((first | refine Runs.cond_no rfl ?_ ?_ | refine Runs.cond_nyes rfl ?_ ?_); · first | omega | rfl | assumption | (simp only [List.length_map]; omega)) | refine Runs.cond_dec rfl (fun h => ?_) (fun h => ?_) | refine Runs.cond_ndec rfl (fun h => ?_) (fun h => ?_) | refine Runs.cond_nb rfl (fun h => ?_) (fun h => ?_) | refine Runs.cond_b rfl (fun h => ?_) (fun h => ?_) | refine Runs.ret (ends_ro hm rfl rfl ?_) | exact Runs.ret (ends_cellR hm rfl rfl rfl (Nat.le_of_ble_eq_true rfl) rfl rfl))
          | refine op_box rfl (tl hn rfl) ?_
          | refine op_storeF rfl rfl rfl rfl (Nat.le_of_ble_eq_true rfl) ?_
          | refine op_alloc (tl hn rfl) ?_
          | refine op_storeN rfl rfl rfl rfl (Nat.le_of_ble_eq_true rfl) ?_
          | refine RunsD.step tabOk hn rfl rfl ?_
          | refine RunsD.nil ?_
          | refine Runs.toDraw 30 mixed hn rfl (by kernel_rfl) rfl ?_
          | ((first | refine RunsL.pe hn rfl rfl rfl ?_ | refine RunsD.pe rfl rfl ?_); first
            | refine ⟨_, pu_add rfl rfl (by omega), ?_⟩
            | refine ⟨_, pu_indexAddr_map rfl rfl (by omega) (by assumption), ?_⟩
            | refine ⟨_, pu_sub rfl rfl (by omega), ?_⟩
            | refine ⟨_, pu_pick_b rfl rfl rfl, ?_⟩
            | refine ⟨_, pu_mul rfl rfl (by omega), ?_⟩
            | refine ⟨_, pu_build rfl rfl rfl rfl rfl rfl, ?_⟩)
          | ((first | refine RunsL.guard_dec rfl rfl rfl ?_ ?_ | refine RunsL.guard_ndec rfl rfl rfl ?_ ?_ | refine RunsL.guard_nb rfl rfl rfl ?_ ?_ | refine RunsL.guard_b rfl rfl rfl ?_ ?_ | refine RunsD.guard_dec rfl rfl rfl ?_ ?_ | refine RunsD.guard_ndec rfl rfl rfl ?_ ?_ | refine RunsD.guard_nb rfl rfl rfl ?_ ?_ | refine RunsD.guard_b rfl rfl rfl ?_ ?_) <;> intro h <;> try (exfalso; first | omega | contradiction | (simp only [List.length_map] at h; omega))))
        · refine next _ _ ⟨rfl, rfl, rfl, rfl, rfl, trivial⟩ hlt trivial ?_
          rw [usedTo_yes hb, List.map_append]
          rfl
        · rename_i h; rw [hb' _ rfl] at h; cases h
      · have hb0 : usedF d r j = false := by simpa using hb
        have hb' : ∀ i, 0 + (j : Int).toNat * 1 = i → usedF d r i = false := fun i hi => by rw [← hi, show 0 + (j : Int).toNat * 1 = j by simp]; exact hb0
        repeat' (first
          | ((first | refine RunsL.pe hn rfl rfl rfl ?_ | refine RunsD.pe rfl rfl ?_); first
            | refine ⟨_, pu_load_at (n := 24) rfl rfl rfl (by omega), ?_⟩)
          | refine RunsL.step tabOk hn rfl ?_
          | refine RunsL.nil ?_
          | refine Runs.toRegion 30 rfl ?_
          | ((first | refine RunsL.pe hn rfl rfl rfl ?_ | refine RunsD.pe rfl rfl ?_); first
            | refine ⟨_, pu_indexAddr_arr rfl rfl (by omega) (by omega), ?_⟩)
          | (refine Runs.ctls 30 rfl ?_; first | refine Runs.cond_t rfl ?_ | refine Runs.cond_f rfl ?_ | ((first | refine Runs.cond_yes rfl ?_ ?_ | refine Runs.cond_nno rfl ?_ ?_); · first | omega | rfl | assumption | (simp only [List.length_map]; omega)) | ((first | refine Runs.cond_no rfl ?_ ?_ | refine Runs.cond_nyes rfl ?_ ?_); · first | omega | rfl | assumption | (simp only [List.length_map]; omega)) | refine Runs.cond_dec rfl (fun h => ?_) (fun h => ?_) | refine Runs.cond_ndec rfl (fun h => ?_) (fun h => ?_) | refine Runs.cond_nb rfl (fun h => ?_) (fun h => ?_) | refine Runs.cond_b rfl (fun h => ?_) (fun h => ?_) | refine Runs.ret (ends_ro hm rfl rfl ?_) | exact Runs.ret (ends_cellR hm rfl rfl rfl (Nat.le_of_ble_eq_true rfl) rfl rfl))
          | refine op_box rfl (tl hn rfl) ?_
          | refine op_storeF rfl rfl rfl rfl (Nat.le_of_ble_eq_true rfl) ?_
          | refine op_alloc (tl hn rfl) ?_
          | refine op_storeN rfl rfl rfl rfl (Nat.le_of_ble_eq_true rfl) ?_
          | refine RunsD.step tabOk hn rfl rfl ?_
          | refine RunsD.nil ?_
          | refine Runs.toDraw 30 mixed hn rfl (by kernel_rfl) rfl ?_
          | ((first | refine RunsL.pe hn rfl rfl rfl ?_ | refine RunsD.pe rfl rfl ?_); first
            | refine ⟨_, pu_add rfl rfl (by omega), ?_⟩
            | refine ⟨_, pu_indexAddr_map rfl rfl (by omega) (by assumption), ?_⟩
            | refine ⟨_, pu_sub rfl rfl (by omega), ?_⟩
            | refine ⟨_, pu_pick_b rfl rfl rfl, ?_⟩
            | refine ⟨_, pu_mul rfl rfl (by omega), ?_⟩
            | refine ⟨_, pu_build rfl rfl rfl rfl rfl rfl, ?_⟩)
          | ((first | refine RunsL.guard_dec rfl rfl rfl ?_ ?_ | refine RunsL.guard_ndec rfl rfl rfl ?_ ?_ | refine RunsL.guard_nb rfl rfl rfl ?_ ?_ | refine RunsL.guard_b rfl rfl rfl ?_ ?_ | refine RunsD.guard_dec rfl rfl rfl ?_ ?_ | refine RunsD.guard_ndec rfl rfl rfl ?_ ?_ | refine RunsD.guard_nb rfl rfl rfl ?_ ?_ | refine RunsD.guard_b rfl rfl rfl ?_ ?_) <;> intro h <;> try (exfalso; first | omega | contradiction | (simp only [List.length_map] at h; omega))))
        · rename_i h; rw [hb' _ rfl] at h; cases h
        · refine next _ _ ⟨rfl, rfl, rfl, rfl, rfl, trivial⟩ hlt trivial ?_
          rw [usedTo_no hb0]
    · obtain rfl : j = d.length := by omega
      repeat' (first
        | refine RunsL.step tabOk hn rfl ?_
        | refine RunsL.nil ?_
        | refine Runs.toRegion 30 rfl ?_
        | (refine Runs.ctls 30 rfl ?_; first | refine Runs.cond_t rfl ?_ | refine Runs.cond_f rfl ?_ | ((first | refine Runs.cond_yes rfl ?_ ?_ | refine Runs.cond_nno rfl ?_ ?_); · first | omega | rfl | assumption | (simp only [List.length_map]; omega)) | ((first | refine Runs.cond_no rfl ?_ ?_ | refine Runs.cond_nyes rfl ?_ ?_); · first | omega | rfl | assumption | (simp only [List.length_map]; omega)) | refine Runs.cond_dec rfl (fun h => ?_) (fun h => ?_) | refine Runs.cond_ndec rfl (fun h => ?_) (fun h => ?_) | refine Runs.cond_nb rfl (fun h => ?_) (fun h => ?_) | refine Runs.cond_b rfl (fun h => ?_) (fun h => ?_) | refine Runs.ret (ends_ro hm rfl rfl ?_) | exact Runs.ret (ends_cellR hm rfl rfl rfl (Nat.le_of_ble_eq_true rfl) rfl rfl))
        | refine op_box rfl (tl hn rfl) ?_
        | refine op_storeF rfl rfl rfl rfl (Nat.le_of_ble_eq_true rfl) ?_
        | refine op_alloc (tl hn rfl) ?_
        | refine op_storeN rfl rfl rfl rfl (Nat.le_of_ble_eq_true rfl) ?_
        | refine RunsD.step tabOk hn rfl rfl ?_
        | refine RunsD.nil ?_
        | refine Runs.toDraw 30 mixed hn rfl (by kernel_rfl) rfl ?_
        | ((first | refine RunsL.pe hn rfl rfl rfl ?_ | refine RunsD.pe rfl rfl ?_); first
          | refine ⟨_, pu_add rfl rfl (by omega), ?_⟩
          | refine ⟨_, pu_indexAddr_map rfl rfl (by omega) (by assumption), ?_⟩
          | refine ⟨_, pu_sub rfl rfl (by omega), ?_⟩
          | refine ⟨_, pu_pick_b rfl rfl rfl, ?_⟩
          | refine ⟨_, pu_mul rfl rfl (by omega), ?_⟩
          | refine ⟨_, pu_build rfl rfl rfl rfl rfl rfl, ?_⟩)
        | ((first | refine RunsL.guard_dec rfl rfl rfl ?_ ?_ | refine RunsL.guard_ndec rfl rfl rfl ?_ ?_ | refine RunsL.guard_nb rfl rfl rfl ?_ ?_ | refine RunsL.guard_b rfl rfl rfl ?_ ?_ | refine RunsD.guard_dec rfl rfl rfl ?_ ?_ | refine RunsD.guard_ndec rfl rfl rfl ?_ ?_ | refine RunsD.guard_nb rfl rfl rfl ?_ ?_ | refine RunsD.guard_b rfl rfl rfl ?_ ?_) <;> intro h <;> try (exfalso; first | omega | contradiction | (simp only [List.length_map] at h; omega))))
      exact Runs.ctls 30 rfl (Runs.ret (ends_own (rs := (usedOf d r).map RV.int) hm rfl rfl rfl rfl rfl))
  · rw [usedL_no hK]
    repeat' (first
      | refine op_build0 (Nat.lt_of_lt_of_eq (Nat.le_of_ble_eq_true rfl) hn.symm) ?_
      | refine RunsL.step tabOk hn rfl ?_
      | refine RunsL.nil ?_
      | refine Runs.toRegion 30 rfl ?_
      | ((first | refine RunsL.pe hn rfl rfl rfl ?_ | refine RunsD.pe rfl rfl ?_); first
        | refine ⟨_, pu_callR hk rfl, ?_⟩)
      | (refine Runs.ctls 30 rfl ?_; first | refine Runs.cond_t rfl ?_ | refine Runs.cond_f rfl ?_ | ((first | refine Runs.cond_yes rfl ?_ ?_ | refine Runs.cond_nno rfl ?_ ?_); · first | omega | rfl | assumption | (simp only [List.length_map]; omega)) | ((first | refine Runs.cond_no rfl ?_ ?_ | refine Runs.cond_nyes rfl ?_ ?_); · first | omega | rfl | assumption | (simp only [List.length_map]; omega)) | refine Runs.cond_dec rfl (fun h => ?_) (fun h => ?_) | refine Runs.cond_ndec rfl (fun h => ?_) (fun h => ?_) | refine Runs.cond_nb rfl (fun h => ?_) (fun h => ?_) | refine Runs.cond_b rfl (fun h => ?_) (fun h => ?_) | refine Runs.ret (ends_ro hm rfl rfl ?_) | exact Runs.ret (ends_cellR hm rfl rfl rfl (Nat.le_of_ble_eq_true rfl) rfl rfl))
      | refine op_box rfl (tl hn rfl) ?_
      | refine op_storeF rfl rfl rfl rfl (Nat.le_of_ble_eq_true rfl) ?_
      | refine op_alloc (tl hn rfl) ?_
      | refine op_storeN rfl rfl rfl rfl (Nat.le_of_ble_eq_true rfl) ?_
      | refine RunsD.step tabOk hn rfl rfl ?_
      | refine RunsD.nil ?_
      | refine Runs.toDraw 30 mixed hn rfl (by kernel_rfl) rfl ?_
      | ((first | refine RunsL.pe hn rfl rfl rfl ?_ | refine RunsD.pe rfl rfl ?_); first
        | refine ⟨_, pu_add rfl rfl (by omega), ?_⟩
        | refine ⟨_, pu_indexAddr_map rfl rfl (by omega) (by assumption), ?_⟩
        | refine ⟨_, pu_sub rfl rfl (by omega), ?_⟩
        | refine ⟨_, pu_pick_b rfl rfl rfl, ?_⟩
        | refine ⟨_, pu_mul rfl rfl (by omega), ?_⟩
        | refine ⟨_, pu_build rfl rfl rfl rfl rfl rfl, ?_⟩)
      | ((first | refine RunsL.guard_dec rfl rfl rfl ?_ ?_ | refine RunsL.guard_ndec rfl rfl rfl ?_ ?_ | refine RunsL.guard_nb rfl rfl rfl ?_ ?_ | refine RunsL.guard_b rfl rfl rfl ?_ ?_ | refine RunsD.guard_dec rfl rfl rfl ?_ ?_ | refine RunsD.guard_ndec rfl rfl rfl ?_ ?_ | refine RunsD.guard_nb rfl rfl rfl ?_ ?_ | refine RunsD.guard_b rfl rfl rfl ?_ ?_) <;> intro h <;> try (exfalso; first | omega | contradiction | (simp only [List.length_map] at h; omega))))
    exact Runs.ctls 30 rfl (Runs.ret (ends_own (rs := []) hm rfl rfl rfl rfl rfl))
end Go.Proofs.Ytcifgbmmnkilfaa
