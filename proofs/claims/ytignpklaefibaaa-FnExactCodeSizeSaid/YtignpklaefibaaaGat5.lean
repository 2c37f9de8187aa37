/- Gathered texts. -/
import Derived.Test.YtignpklaefibaaaGat0
import Derived.Test.YtignpklaefibaaaGat1
import Derived.Test.YtignpklaefibaaaGat2
import Derived.Test.YtignpklaefibaaaGat3
import Derived.Test.YtignpklaefibaaaGat4
/- The code of a rule: the reference's side. -/
namespace Go.Proofs.Ytignpklaefibaaa
set_option linter.unusedSimpArgs false
set_option linter.unusedVariables false
open Go.RowKit
open AV (Mem Keeps)
set_option maxRecDepth 100000
theorem l15Op_ac (op a b : Int) : ACv Try.prog 62 [.int op, .int a, .int b] (.agg (insR ⟨op, a, b⟩)) := by
  refine ac_enter Try.func62 rfl _ Try.ntmps62 (by simp) fun C hn hm => ?_
  repeat' (first
    | refine RunsL.step tabOk hn rfl ?_
    | refine RunsL.nil ?_
    | refine Runs.toRegion 30 rfl ?_
    | (refine RunsL.pe hn rfl rfl rfl ?_; first
      | refine ⟨_, pu_buildS rfl, ?_⟩)
    | (refine Runs.ctls 30 rfl ?_; first | refine Runs.cond_t rfl ?_ | refine Runs.cond_f rfl ?_ | ((first | refine Runs.cond_yes rfl ?_ ?_ | refine Runs.cond_nno rfl ?_ ?_); · first | omega | rfl | assumption | (simp only [List.length_map]; omega)) | ((first | refine Runs.cond_no rfl ?_ ?_ | refine Runs.cond_nyes rfl ?_ ?_); · first | omega | rfl | assumption | (simp only [List.length_map]; omega)) | refine Runs.cond_dec rfl (fun h => ?_) (fun h => ?_) | refine Runs.cond_ndec rfl (fun h => ?_) (fun h => ?_) | refine Runs.cond_nb rfl (fun h => ?_) (fun h => ?_) | refine Runs.cond_b rfl (fun h => ?_) (fun h => ?_) | refine Runs.ret (ends_ro hm rfl rfl ?_) | exact Runs.ret (ends_cellR hm rfl rfl rfl (Nat.le_of_ble_eq_true rfl) rfl rfl))
    | refine op_box rfl (tl hn rfl) ?_
    | refine op_storeF rfl rfl rfl rfl (Nat.le_of_ble_eq_true rfl) ?_
    | refine op_alloc (tl hn rfl) ?_
    | refine op_storeN rfl rfl rfl rfl (Nat.le_of_ble_eq_true rfl) ?_
    | (refine RunsL.pe hn rfl rfl rfl ?_; first
      | refine ⟨_, pu_add rfl rfl (by omega), ?_⟩
      | refine ⟨_, pu_indexAddr_map rfl rfl (by omega) (by assumption), ?_⟩
      | refine ⟨_, pu_sub rfl rfl (by omega), ?_⟩
      | refine ⟨_, pu_pick_b rfl rfl rfl, ?_⟩
      | refine ⟨_, pu_mul rfl rfl (by omega), ?_⟩
      | refine ⟨_, pu_build rfl rfl rfl rfl rfl rfl, ?_⟩))
theorem l15Call_ac (en : List Int) (r : Int) (h0 : 0 ≤ r) (h1 : r < en.length) : ACv Try.prog 64 [intsR en, .int r] (.agg (insR (callI en r))) := by
  obtain ⟨z, hz⟩ : ∃ z, en[r.toNat]? = some z := ⟨_, List.getElem?_eq_getElem (by omega)⟩
  have hle : (en.map fun z => [RV.int z]).length = en.length := List.length_map ..
  have e : callI en r = ⟨9, z, 0⟩ := by unfold callI; rw [hz]; rfl
  rw [e]
  refine ac_enter Try.func64 rfl _ Try.ntmps64 (by simp) fun C hn hm => ?_
  repeat' (first
    | refine RunsL.step tabOk hn rfl ?_
    | refine RunsL.nil ?_
    | refine Runs.toRegion 30 rfl ?_
    | (refine RunsL.pe hn rfl rfl rfl ?_; first
      | refine ⟨_, pu_callR (l15Op_ac _ _ _) rfl, ?_⟩)
    | (refine Runs.ctls 30 rfl ?_; first | refine Runs.cond_t rfl ?_ | refine Runs.cond_f rfl ?_ | ((first | refine Runs.cond_yes rfl ?_ ?_ | refine Runs.cond_nno rfl ?_ ?_); · first | omega | rfl | assumption | (simp only [List.length_map]; omega)) | ((first | refine Runs.cond_no rfl ?_ ?_ | refine Runs.cond_nyes rfl ?_ ?_); · first | omega | rfl | assumption | (simp only [List.length_map]; omega)) | refine Runs.cond_dec rfl (fun h => ?_) (fun h => ?_) | refine Runs.cond_ndec rfl (fun h => ?_) (fun h => ?_) | refine Runs.cond_nb rfl (fun h => ?_) (fun h => ?_) | refine Runs.cond_b rfl (fun h => ?_) (fun h => ?_) | refine Runs.ret (ends_ro hm rfl rfl ?_) | exact Runs.ret (ends_cellR hm rfl rfl rfl (Nat.le_of_ble_eq_true rfl) rfl rfl))
    | refine op_box rfl (tl hn rfl) ?_
    | refine op_storeF rfl rfl rfl rfl (Nat.le_of_ble_eq_true rfl) ?_
    | refine op_alloc (tl hn rfl) ?_
    | refine op_storeN rfl rfl rfl rfl (Nat.le_of_ble_eq_true rfl) ?_
    | (refine RunsL.pe hn rfl rfl rfl ?_; first
      | refine ⟨_, pu_add rfl rfl (by omega), ?_⟩
      | refine ⟨_, pu_indexAddr_map rfl rfl (by omega) (by assumption), ?_⟩
      | refine ⟨_, pu_sub rfl rfl (by omega), ?_⟩
      | refine ⟨_, pu_pick_b rfl rfl rfl, ?_⟩
      | refine ⟨_, pu_mul rfl rfl (by omega), ?_⟩
      | refine ⟨_, pu_build rfl rfl rfl rfl rfl rfl, ?_⟩))
theorem l15Little_ac (x : Rul) : ACv Try.prog 63 [.agg (rulR x)] (.int (if x.little = true then 1 else 0)) := by
  obtain ⟨nm, kd, sz, li, bs, ns, tg, ki⟩ := x
  cases li
  all_goals
    refine ac_enter Try.func63 rfl _ Try.ntmps63 (by simp) fun C hn hm => ?_
    repeat' (first
      | refine RunsL.step tabOk hn rfl ?_
      | refine RunsL.nil ?_
      | refine Runs.toRegion 30 rfl ?_
      | (refine Runs.ctls 30 rfl ?_; first | refine Runs.cond_t rfl ?_ | refine Runs.cond_f rfl ?_ | ((first | refine Runs.cond_yes rfl ?_ ?_ | refine Runs.cond_nno rfl ?_ ?_); · first | omega | rfl | assumption | (simp only [List.length_map]; omega)) | ((first | refine Runs.cond_no rfl ?_ ?_ | refine Runs.cond_nyes rfl ?_ ?_); · first | omega | rfl | assumption | (simp only [List.length_map]; omega)) | refine Runs.cond_dec rfl (fun h => ?_) (fun h => ?_) | refine Runs.cond_ndec rfl (fun h => ?_) (fun h => ?_) | refine Runs.cond_nb rfl (fun h => ?_) (fun h => ?_) | refine Runs.cond_b rfl (fun h => ?_) (fun h => ?_) | refine Runs.ret (ends_ro hm rfl rfl ?_) | exact Runs.ret (ends_cellR hm rfl rfl rfl (Nat.le_of_ble_eq_true rfl) rfl rfl))
      | refine op_box rfl (tl hn rfl) ?_
      | refine op_storeF rfl rfl rfl rfl (Nat.le_of_ble_eq_true rfl) ?_
      | refine op_alloc (tl hn rfl) ?_
      | refine op_storeN rfl rfl rfl rfl (Nat.le_of_ble_eq_true rfl) ?_
      | (refine RunsL.pe hn rfl rfl rfl ?_; first
        | refine ⟨_, pu_add rfl rfl (by omega), ?_⟩
        | refine ⟨_, pu_indexAddr_map rfl rfl (by omega) (by assumption), ?_⟩
        | refine ⟨_, pu_sub rfl rfl (by omega), ?_⟩
        | refine ⟨_, pu_pick_b rfl rfl rfl, ?_⟩
        | refine ⟨_, pu_mul rfl rfl (by omega), ?_⟩
        | refine ⟨_, pu_build rfl rfl rfl rfl rfl rfl, ?_⟩))
    exact rr_int rfl
/-- The code of a choice, as the reference writes it. -/
def choD (x : Rul) (s : Int) (en : List Int) (j : Nat) : List Ins := choB x s en j ++ (if j = 0 ∨ j = x.tags.length then [] else [⟨10, 0, 0⟩])
theorem choB_next {x : Rul} {s : Int} {en : List Int} {j : Nat} {b : Int} (hb' : x.kids[j + 1]? = some b) (hj : j < x.tags.length) : choB x s en (j + 1) = choD x s en j ++ [callI en b] := by
  unfold choD choB
  rw [chCalls_next hb']
  by_cases h0 : j = 0
  · subst h0; simp [chCalls]
  · rw [if_neg h0, if_neg (by omega)]; simp
theorem choD_len (x : Rul) (s : Int) (en : List Int) (j : Nat) : (choD x s en j).length ≤ x.tags.length + 3 + 2 * j := by
  have := choB_len x s en j
  unfold choD
  rw [List.length_append]
  split
  · simp only [List.length_nil]; omega
  · simp only [List.length_singleton]; omega
set_option maxHeartbeats 8000000 in
theorem l15Choice_ac (d : Des) (s : Int) (en : List Int) (x : Rul) (hk : x.kind = 7) (hr : RuleOkC d x en) (hl : x.kids.length ≤ 1048576) : AC Try.prog 65 [.agg (rulR x), .int s, intsR en] (fun rr => rr = .row 86 3 ((bodyI x s en).flatMap insR)) := by
  obtain ⟨f5, f7, f8, f4⟩ := item_fields hr.1
  have hlk : (x.kids.map fun z => [RV.int z]).length = x.kids.length := List.length_map ..
  have hlt' : (x.tags.map fun z => [RV.int z]).length = x.tags.length := List.length_map ..
  obtain ⟨hkl, ht1, _, _⟩ := f7 hk
  obtain ⟨h0, h1, h2⟩ := kid0 hr (by omega)
  have hC0 := l15Call_ac en (x.kids.headD 0) h1 h2
  refine ac_enter Try.func65 rfl _ Try.ntmps65 (by simp) fun C hn hm => ?_
  repeat' (first
    | refine op_build (t := 20) rfl rfl rfl rfl rfl (tl hn rfl) ?_
    | refine RunsL.step tabOk hn rfl ?_
    | refine RunsL.nil ?_
    | refine Runs.toRegion 30 rfl ?_
    | (refine RunsL.pe hn rfl rfl rfl ?_; first
      | refine ⟨_, pu_callR hC0 rfl, ?_⟩)
    | (refine Runs.ctls 30 rfl ?_; first | refine Runs.cond_t rfl ?_ | refine Runs.cond_f rfl ?_ | ((first | refine Runs.cond_yes rfl ?_ ?_ | refine Runs.cond_nno rfl ?_ ?_); · first | omega | rfl | assumption | (simp only [List.length_map]; omega)) | ((first | refine Runs.cond_no rfl ?_ ?_ | refine Runs.cond_nyes rfl ?_ ?_); · first | omega | rfl | assumption | (simp only [List.length_map]; omega)) | refine Runs.cond_dec rfl (fun h => ?_) (fun h => ?_) | refine Runs.cond_ndec rfl (fun h => ?_) (fun h => ?_) | refine Runs.cond_nb rfl (fun h => ?_) (fun h => ?_) | refine Runs.cond_b rfl (fun h => ?_) (fun h => ?_) | refine Runs.ret (ends_ro hm rfl rfl ?_) | exact Runs.ret (ends_cellR hm rfl rfl rfl (Nat.le_of_ble_eq_true rfl) rfl rfl))
    | refine op_box rfl (tl hn rfl) ?_
    | refine op_storeF rfl rfl rfl rfl (Nat.le_of_ble_eq_true rfl) ?_
    | refine op_alloc (tl hn rfl) ?_
    | refine op_storeN rfl rfl rfl rfl (Nat.le_of_ble_eq_true rfl) ?_
    | (refine RunsL.pe hn rfl rfl rfl ?_; first
      | refine ⟨_, pu_add rfl rfl (by omega), ?_⟩
      | refine ⟨_, pu_indexAddr_map rfl rfl (by omega) (by assumption), ?_⟩
      | refine ⟨_, pu_sub rfl rfl (by omega), ?_⟩
      | refine ⟨_, pu_pick_b rfl rfl rfl, ?_⟩
      | refine ⟨_, pu_mul rfl rfl (by omega), ?_⟩
      | refine ⟨_, pu_build rfl rfl rfl rfl rfl rfl, ?_⟩))
  refine Runs.loopN 30 rfl (fun j => [(1, .int s), (2, .ro (intsR en)), (3, .obj 0 0), (7, .int (x.tags.length : Int)), (8, .own 1), (9, .int (j : Int))]) (fun j => [⟨73, 0, (rulR x).map .ro⟩, ⟨86, 3, ((choA x s en j).flatMap insR).map .ro⟩]) (fun _ => True) x.tags.length 0 (Nat.zero_le _) trivial ⟨rfl, rfl, rfl, by simp [look], rfl, rfl, trivial⟩ rfl fun j hj _ next => ?_
  have hcl := choA_len x s en j
  have hfl := insR_flat (choA x s en j)
  by_cases hlt : j < x.tags.length
  · obtain ⟨b, hb⟩ : ∃ b, x.tags[(j : Int).toNat]? = some b := ⟨_, List.getElem?_eq_getElem hlt⟩
    have hb' : x.tags[j]? = some b := hb
    repeat' (first
      | refine op_append (n := (choA x s en j).length) rfl rfl rfl rfl rfl rfl (by rw [hfl]) (FreeI.at_ (i := 1) (by repeat' (first | exact trivial | exact onlys_ro _ _ | refine ⟨?_, ?_⟩))) (by simp; omega) (by simp; omega) (tl hn rfl) ?_
      | (refine RunsL.pe hn rfl rfl rfl ?_; first
        | refine ⟨_, pu_mul rfl rfl (by omega), ?_⟩)
      | refine RunsL.step tabOk hn rfl ?_
      | refine RunsL.nil ?_
      | refine Runs.toRegion 30 rfl ?_
      | (refine RunsL.pe hn rfl rfl rfl ?_; first
        | refine ⟨_, pu_addW (t := 34) rfl rfl, ?_⟩
        | refine ⟨_, pu_addW (t := 35) rfl rfl, ?_⟩
        | refine ⟨_, pu_addW (t := 38) rfl rfl, ?_⟩
        | refine ⟨_, pu_callR (l15Op_ac _ _ _) rfl, ?_⟩)
      | (refine Runs.ctls 30 rfl ?_; first | refine Runs.cond_t rfl ?_ | refine Runs.cond_f rfl ?_ | ((first | refine Runs.cond_yes rfl ?_ ?_ | refine Runs.cond_nno rfl ?_ ?_); · first | omega | rfl | assumption | (simp only [List.length_map]; omega)) | ((first | refine Runs.cond_no rfl ?_ ?_ | refine Runs.cond_nyes rfl ?_ ?_); · first | omega | rfl | assumption | (simp only [List.length_map]; omega)) | refine Runs.cond_dec rfl (fun h => ?_) (fun h => ?_) | refine Runs.cond_ndec rfl (fun h => ?_) (fun h => ?_) | refine Runs.cond_nb rfl (fun h => ?_) (fun h => ?_) | refine Runs.cond_b rfl (fun h => ?_) (fun h => ?_) | refine Runs.ret (ends_ro hm rfl rfl ?_) | exact Runs.ret (ends_cellR hm rfl rfl rfl (Nat.le_of_ble_eq_true rfl) rfl rfl))
      | refine op_box rfl (tl hn rfl) ?_
      | refine op_storeF rfl rfl rfl rfl (Nat.le_of_ble_eq_true rfl) ?_
      | refine op_alloc (tl hn rfl) ?_
      | refine op_storeN rfl rfl rfl rfl (Nat.le_of_ble_eq_true rfl) ?_
      | (refine RunsL.pe hn rfl rfl rfl ?_; first
        | refine ⟨_, pu_add rfl rfl (by omega), ?_⟩
        | refine ⟨_, pu_indexAddr_map rfl rfl (by omega) (by assumption), ?_⟩
        | refine ⟨_, pu_sub rfl rfl (by omega), ?_⟩
        | refine ⟨_, pu_pick_b rfl rfl rfl, ?_⟩
        | refine ⟨_, pu_mul rfl rfl (by omega), ?_⟩
        | refine ⟨_, pu_build rfl rfl rfl rfl rfl rfl, ?_⟩))
    refine next _ _ ⟨rfl, rfl, rfl, rfl, rfl, rfl, trivial⟩ hlt trivial ?_
    unfold choA
    rw [chTags_next hb']
    have e1 := w64_add (w64 (s + (x.tags.length : Int)) + 2) (2 * (j : Int))
    have e2 := w64_add (s + (x.tags.length : Int)) (2 + 2 * (j : Int))
    rw [← Int.add_assoc, ← Int.add_assoc] at e2
    have e3 : w64 (w64 (w64 (s + (x.tags.length : Int)) + 2) + 2 * (j : Int)) = w64 (s + (x.tags.length : Int) + 2 + 2 * (j : Int)) := e1.trans e2
    rw [← e3]
    simp only [List.set_cons_zero, List.set_cons_succ, List.flatMap_cons, List.flatMap_append, List.map_append]
    simp
    rfl
  · obtain rfl : j = x.tags.length := by omega
    repeat' (first
      | refine op_append (n := (choA x s en x.tags.length).length) rfl rfl rfl rfl rfl rfl (by rw [hfl]) (FreeI.at_ (i := 1) (by repeat' (first | exact trivial | exact onlys_ro _ _ | refine ⟨?_, ?_⟩))) (by simp; omega) (by simp; omega) (tl hn rfl) ?_
      | refine RunsL.step tabOk hn rfl ?_
      | refine RunsL.nil ?_
      | refine Runs.toRegion 30 rfl ?_
      | (refine RunsL.pe hn rfl rfl rfl ?_; first
        | refine ⟨_, pu_callR (l15Op_ac _ _ _) rfl, ?_⟩)
      | (refine Runs.ctls 30 rfl ?_; first | refine Runs.cond_t rfl ?_ | refine Runs.cond_f rfl ?_ | ((first | refine Runs.cond_yes rfl ?_ ?_ | refine Runs.cond_nno rfl ?_ ?_); · first | omega | rfl | assumption | (simp only [List.length_map]; omega)) | ((first | refine Runs.cond_no rfl ?_ ?_ | refine Runs.cond_nyes rfl ?_ ?_); · first | omega | rfl | assumption | (simp only [List.length_map]; omega)) | refine Runs.cond_dec rfl (fun h => ?_) (fun h => ?_) | refine Runs.cond_ndec rfl (fun h => ?_) (fun h => ?_) | refine Runs.cond_nb rfl (fun h => ?_) (fun h => ?_) | refine Runs.cond_b rfl (fun h => ?_) (fun h => ?_) | refine Runs.ret (ends_ro hm rfl rfl ?_) | exact Runs.ret (ends_cellR hm rfl rfl rfl (Nat.le_of_ble_eq_true rfl) rfl rfl))
      | refine op_box rfl (tl hn rfl) ?_
      | refine op_storeF rfl rfl rfl rfl (Nat.le_of_ble_eq_true rfl) ?_
      | refine op_alloc (tl hn rfl) ?_
      | refine op_storeN rfl rfl rfl rfl (Nat.le_of_ble_eq_true rfl) ?_
      | (refine RunsL.pe hn rfl rfl rfl ?_; first
        | refine ⟨_, pu_add rfl rfl (by omega), ?_⟩
        | refine ⟨_, pu_indexAddr_map rfl rfl (by omega) (by assumption), ?_⟩
        | refine ⟨_, pu_sub rfl rfl (by omega), ?_⟩
        | refine ⟨_, pu_pick_b rfl rfl rfl, ?_⟩
        | refine ⟨_, pu_mul rfl rfl (by omega), ?_⟩
        | refine ⟨_, pu_build rfl rfl rfl rfl rfl rfl, ?_⟩))
    refine Runs.loopN 30 rfl (fun j => [(1, .int s), (2, .ro (intsR en)), (3, .obj 0 0), (7, .int (x.tags.length : Int)), (8, .own 1), (10, .int (j : Int))]) (fun j => [⟨73, 0, (rulR x).map .ro⟩, ⟨86, 3, ((choD x s en j).flatMap insR).map .ro⟩]) (fun _ => True) x.tags.length 0 (Nat.zero_le _) trivial ⟨rfl, rfl, rfl, rfl, rfl, rfl, trivial⟩ ?_ fun j hj _ next2 => ?_
    · simp [choD, choB, chCalls, insR]
    have hcd := choD_len x s en j
    have hfd := insR_flat (choD x s en j)
    by_cases hlt : j < x.tags.length
    · obtain ⟨b, hb⟩ : ∃ b, x.kids[((j : Int) + 1).toNat]? = some b := ⟨_, List.getElem?_eq_getElem (by omega)⟩
      have hb' : x.kids[j + 1]? = some b := by rw [← hb]; congr 1
      obtain ⟨h3, h4⟩ := hr.2 (j + 1) b hb'
      have hCj := l15Call_ac en b h3 h4
      have hbn := choB_next (s := s) (en := en) hb' hlt
      have hcb := choB_len x s en (j + 1)
      have hfb := insR_flat (choB x s en (j + 1))
      by_cases hj0 : j + 1 = x.tags.length
      · repeat' (first
        | refine op_append (n := (choD x s en j).length) rfl rfl rfl rfl rfl rfl (by rw [hfd]) (FreeI.at_ (i := 1) (by repeat' (first | exact trivial | exact onlys_ro _ _ | refine ⟨?_, ?_⟩))) (by simp; omega) (by simp; omega) (tl hn rfl) ?_
        | refine RunsL.step tabOk hn rfl ?_
        | refine RunsL.nil ?_
        | refine Runs.toRegion 30 rfl ?_
        | (refine RunsL.pe hn rfl rfl rfl ?_; first
          | refine ⟨_, pu_callR (l15Op_ac _ _ _) rfl, ?_⟩
          | refine ⟨_, pu_callR hCj rfl, ?_⟩)
        | (refine Runs.ctls 30 rfl ?_; first | refine Runs.cond_t rfl ?_ | refine Runs.cond_f rfl ?_ | ((first | refine Runs.cond_yes rfl ?_ ?_ | refine Runs.cond_nno rfl ?_ ?_); · first | omega | rfl | assumption | (simp only [List.length_map]; omega)) | ((first | refine Runs.cond_no rfl ?_ ?_ | refine Runs.cond_nyes rfl ?_ ?_); · first | omega | rfl | assumption | (simp only [List.length_map]; omega)) | refine Runs.cond_dec rfl (fun h => ?_) (fun h => ?_) | refine Runs.cond_ndec rfl (fun h => ?_) (fun h => ?_) | refine Runs.cond_nb rfl (fun h => ?_) (fun h => ?_) | refine Runs.cond_b rfl (fun h => ?_) (fun h => ?_) | refine Runs.ret (ends_ro hm rfl rfl ?_) | exact Runs.ret (ends_cellR hm rfl rfl rfl (Nat.le_of_ble_eq_true rfl) rfl rfl))
        | refine op_box rfl (tl hn rfl) ?_
        | refine op_storeF rfl rfl rfl rfl (Nat.le_of_ble_eq_true rfl) ?_
        | refine op_alloc (tl hn rfl) ?_
        | refine op_storeN rfl rfl rfl rfl (Nat.le_of_ble_eq_true rfl) ?_
        | (refine RunsL.pe hn rfl rfl rfl ?_; first
          | refine ⟨_, pu_add rfl rfl (by omega), ?_⟩
          | refine ⟨_, pu_indexAddr_map rfl rfl (by omega) (by assumption), ?_⟩
          | refine ⟨_, pu_sub rfl rfl (by omega), ?_⟩
          | refine ⟨_, pu_pick_b rfl rfl rfl, ?_⟩
          | refine ⟨_, pu_mul rfl rfl (by omega), ?_⟩
          | refine ⟨_, pu_build rfl rfl rfl rfl rfl rfl, ?_⟩))
        all_goals first
          | (exfalso; omega)
          | (refine next2 _ _ ⟨rfl, rfl, rfl, rfl, rfl, rfl, trivial⟩ hlt trivial ?_
             have : choD x s en (j + 1) = choB x s en (j + 1) := by unfold choD; rw [if_pos (by omega)]; simp
             rw [this, hbn]
             simp
             rfl)
      · repeat' (first
        | refine op_append (t := 61) (n := (choD x s en j).length) rfl rfl rfl rfl rfl rfl (by rw [hfd]) (FreeI.at_ (i := 1) (by repeat' (first | exact trivial | exact onlys_ro _ _ | refine ⟨?_, ?_⟩))) (by simp; omega) (by simp; omega) (tl hn rfl) ?_
        | refine op_append (t := 69) (n := (choD x s en j).length + 1) (rs := (choD x s en j).flatMap insR ++ insR (callI en b)) rfl rfl rfl rfl rfl rfl (by rw [List.length_append, hfd, insR_len]; omega) (FreeI.at_ (i := 1) (by repeat' (first | exact trivial | exact onlys_ro _ _ | refine ⟨?_, ?_⟩))) (by simp; omega) (by simp; omega) (tl hn rfl) ?_
        | refine RunsL.step tabOk hn rfl ?_
        | refine RunsL.nil ?_
        | refine Runs.toRegion 30 rfl ?_
        | (refine RunsL.pe hn rfl rfl rfl ?_; first
          | refine ⟨_, pu_callR (l15Op_ac _ _ _) rfl, ?_⟩
          | refine ⟨_, pu_callR hCj rfl, ?_⟩)
        | (refine Runs.ctls 30 rfl ?_; first | refine Runs.cond_t rfl ?_ | refine Runs.cond_f rfl ?_ | ((first | refine Runs.cond_yes rfl ?_ ?_ | refine Runs.cond_nno rfl ?_ ?_); · first | omega | rfl | assumption | (simp only [List.length_map]; omega)) | ((first | refine Runs.cond_no rfl ?_ ?_ | refine Runs.cond_nyes rfl ?_ ?_); · first | omega | rfl | assumption | (simp only [List.length_map]; omega)) | refine Runs.cond_dec rfl (fun h => ?_) (fun h => ?_) | refine Runs.cond_ndec rfl (fun h => ?_) (fun h => ?_) | refine Runs.cond_nb rfl (fun h => ?_) (fun h => ?_) | refine Runs.cond_b rfl (fun h => ?_) (fun h => ?_) | refine Runs.ret (ends_ro hm rfl rfl ?_) | exact Runs.ret (ends_cellR hm rfl rfl rfl (Nat.le_of_ble_eq_true rfl) rfl rfl))
        | refine op_box rfl (tl hn rfl) ?_
        | refine op_storeF rfl rfl rfl rfl (Nat.le_of_ble_eq_true rfl) ?_
        | refine op_alloc (tl hn rfl) ?_
        | refine op_storeN rfl rfl rfl rfl (Nat.le_of_ble_eq_true rfl) ?_
        | (refine RunsL.pe hn rfl rfl rfl ?_; first
          | refine ⟨_, pu_add rfl rfl (by omega), ?_⟩
          | refine ⟨_, pu_indexAddr_map rfl rfl (by omega) (by assumption), ?_⟩
          | refine ⟨_, pu_sub rfl rfl (by omega), ?_⟩
          | refine ⟨_, pu_pick_b rfl rfl rfl, ?_⟩
          | refine ⟨_, pu_mul rfl rfl (by omega), ?_⟩
          | refine ⟨_, pu_build rfl rfl rfl rfl rfl rfl, ?_⟩))
        all_goals first
          | (exfalso; omega)
          | (refine next2 _ _ ⟨rfl, rfl, rfl, rfl, rfl, rfl, trivial⟩ hlt trivial ?_
             have : choD x s en (j + 1) = choB x s en (j + 1) ++ [⟨10, 0, 0⟩] := by unfold choD; rw [if_neg (by omega)]
             rw [this, hbn]
             simp
             rfl)
    · obtain rfl : j = x.tags.length := by omega
      repeat' (first
        | refine RunsL.step tabOk hn rfl ?_
        | refine RunsL.nil ?_
        | refine Runs.toRegion 30 rfl ?_
        | (refine Runs.ctls 30 rfl ?_; first | refine Runs.cond_t rfl ?_ | refine Runs.cond_f rfl ?_ | ((first | refine Runs.cond_yes rfl ?_ ?_ | refine Runs.cond_nno rfl ?_ ?_); · first | omega | rfl | assumption | (simp only [List.length_map]; omega)) | ((first | refine Runs.cond_no rfl ?_ ?_ | refine Runs.cond_nyes rfl ?_ ?_); · first | omega | rfl | assumption | (simp only [List.length_map]; omega)) | refine Runs.cond_dec rfl (fun h => ?_) (fun h => ?_) | refine Runs.cond_ndec rfl (fun h => ?_) (fun h => ?_) | refine Runs.cond_nb rfl (fun h => ?_) (fun h => ?_) | refine Runs.cond_b rfl (fun h => ?_) (fun h => ?_) | refine Runs.ret (ends_ro hm rfl rfl ?_) | exact Runs.ret (ends_cellR hm rfl rfl rfl (Nat.le_of_ble_eq_true rfl) rfl rfl))
        | refine op_box rfl (tl hn rfl) ?_
        | refine op_storeF rfl rfl rfl rfl (Nat.le_of_ble_eq_true rfl) ?_
        | refine op_alloc (tl hn rfl) ?_
        | refine op_storeN rfl rfl rfl rfl (Nat.le_of_ble_eq_true rfl) ?_
        | (refine RunsL.pe hn rfl rfl rfl ?_; first
          | refine ⟨_, pu_add rfl rfl (by omega), ?_⟩
          | refine ⟨_, pu_indexAddr_map rfl rfl (by omega) (by assumption), ?_⟩
          | refine ⟨_, pu_sub rfl rfl (by omega), ?_⟩
          | refine ⟨_, pu_pick_b rfl rfl rfl, ?_⟩
          | refine ⟨_, pu_mul rfl rfl (by omega), ?_⟩
          | refine ⟨_, pu_build rfl rfl rfl rfl rfl rfl, ?_⟩))
      refine Runs.ctls 30 rfl (Runs.ret (ends_own (rs := (choD x s en x.tags.length).flatMap insR) hm rfl rfl rfl rfl ?_))
      unfold choD
      rw [if_pos (.inr rfl), List.append_nil]
      simp [bodyI, hk, choB, choA]
end Go.Proofs.Ytignpklaefibaaa
/- The code of a rule: the reference's side, whole. -/
namespace Go.Proofs.Ytignpklaefibaaa
set_option linter.unusedSimpArgs false
set_option linter.unusedVariables false
open Go.RowKit
open AV (Mem Keeps)
set_option maxRecDepth 100000
set_option maxHeartbeats 16000000 in
theorem spec_compile_yes (d : Des) (hd : dtotal d ≤ 1048576) (hG : Good' d) (n : Nat) (x : Rul) (hx : d[n]? = some x) (s : Int) (en : List Int) (hkn : ACv Try.prog 42 [desR d, .int (n : Int)] (.bool true)) (hen : n ≤ en.length) :
    AC Try.prog 26 [desR d, .int (n : Int), .int s, intsR en] (fun rr => rr = .row 86 3 ((ruleI x s en).flatMap insR)) := by
  have hk := kind_at hG hx
  have hr : RuleOkC d x en := ⟨hk, fun k z hz => by have := kids_at hG hx hz; omega⟩
  obtain ⟨b1, b2⟩ := cmp_bounds hk
  have hlm : (d.map rulR).length = d.length := List.length_map ..
  have hle : (en.map fun z => [RV.int z]).length = en.length := List.length_map ..
  have hlk : (x.kids.map fun z => [RV.int z]).length = x.kids.length := List.length_map ..
  have hlt' : (x.tags.map fun z => [RV.int z]).length = x.tags.length := List.length_map ..
  have hlb : (x.bytes.map fun z => [RV.u8 z]).length = x.bytes.length := List.length_map ..
  have hx' : d[(n : Int).toNat]? = some x := hx
  have hxt := sum_mem_le Rul.total (List.mem_of_getElem? hx)
  have et : dtotal d = d.length + (d.map Rul.total).sum := rfl
  have etx : x.total = x.name.size + x.bytes.length + (x.names.length + (x.names.map ByteArray.size).sum) + x.tags.length + x.kids.length := rfl
  obtain ⟨f5, f7, f8, f4⟩ := item_fields hk
  have hbl := body_len s (en := en) hk (by omega)
  have hkk : x.kind = 1 ∨ x.kind = 2 ∨ x.kind = 3 ∨ x.kind = 4 ∨ x.kind = 5 ∨ x.kind = 6 ∨ x.kind = 7 ∨ x.kind = 8 ∨ x.kind = 9 ∨ x.kind = 10 := by omega
  refine ac_enter Try.func26 rfl _ Try.ntmps26 (by simp) fun C hn hm => ?_
  rcases hkk with e | e | e | e | e | e | e | e | e | e
  · repeat' (first
    | refine Runs.toDrawT (id := 8) 30 [] [0, 1, 2, 3, 4, 5, 6] 7 [] mixed hn rfl (by kernel_rfl) rfl .nil (by decide) (by decide) (by decide) ?_
    | refine op_build0 (tl hn rfl) ?_
    | refine op_appendB rfl rfl rfl rfl rfl rfl (by simp) (by repeat' (first | exact trivial | exact onlys_ro _ _ | refine ⟨?_, ?_⟩)) (by simp) rfl (tl hn rfl) ?_
    | refine RunsT.nil ?_
    | refine RunsT.step tabOk rfl rfl (fun _ => rfl) (by decide) ?_
    | refine RunsT.pur (fun _ => pu_callR hkn rfl) (by decide) rfl rfl ?_
    | refine RunsT.pur (fun _ => pu_callR (l15Little_ac _) rfl) (by decide) rfl rfl ?_
    | refine RunsT.pur (fun _ => pu_callR (l15Op_ac _ _ _) rfl) (by decide) rfl rfl ?_
    | refine RunsT.pur (fun _ => pu_build rfl rfl rfl rfl rfl rfl) (by decide) rfl rfl ?_
    | refine RunsT.pur (fun _ => pu_add rfl rfl (by omega)) (by decide) rfl rfl ?_
    | refine RunsT.pur (fun _ => pu_indexAddr_map rfl rfl (by omega) (by assumption)) (by decide) rfl rfl ?_
    | refine RunsT.alloc (p := 0) rfl inferInstance ?_
    | refine RunsT.alloc (p := 1) rfl inferInstance ?_
    | refine RunsL.step tabOk hn rfl ?_
    | refine RunsL.nil ?_
    | refine Runs.toRegion 30 rfl ?_
    | ((first | refine RunsL.pe hn rfl rfl rfl ?_ | refine RunsD.pe rfl rfl ?_); first
      | refine ⟨_, pu_callR hkn rfl, ?_⟩
      | refine ⟨_, pu_callR (l15Little_ac _) rfl, ?_⟩
      | refine ⟨_, pu_callR (l15Op_ac _ _ _) rfl, ?_⟩
      | refine ⟨_, pu_build rfl rfl rfl rfl rfl rfl, ?_⟩)
    | (refine Runs.ctls 30 rfl ?_; first | refine Runs.cond_t rfl ?_ | refine Runs.cond_f rfl ?_ | ((first | refine Runs.cond_yes rfl ?_ ?_ | refine Runs.cond_nno rfl ?_ ?_); · first | omega | rfl | assumption | (simp only [List.length_map]; omega)) | ((first | refine Runs.cond_no rfl ?_ ?_ | refine Runs.cond_nyes rfl ?_ ?_); · first | omega | rfl | assumption | (simp only [List.length_map]; omega)) | refine Runs.cond_dec rfl (fun h => ?_) (fun h => ?_) | refine Runs.cond_ndec rfl (fun h => ?_) (fun h => ?_) | refine Runs.cond_nb rfl (fun h => ?_) (fun h => ?_) | refine Runs.cond_b rfl (fun h => ?_) (fun h => ?_) | refine Runs.ret (ends_ro hm rfl rfl ?_) | exact Runs.ret (ends_cellR hm rfl rfl rfl (Nat.le_of_ble_eq_true rfl) rfl rfl))
    | refine op_box rfl (tl hn rfl) ?_
    | refine op_storeF rfl rfl rfl rfl (Nat.le_of_ble_eq_true rfl) ?_
    | refine op_alloc (tl hn rfl) ?_
    | refine op_storeN rfl rfl rfl rfl (Nat.le_of_ble_eq_true rfl) ?_
    | refine RunsD.step tabOk hn rfl rfl ?_
    | refine RunsD.nil ?_
    | refine Runs.toDraw 30 mixed hn rfl (by kernel_rfl) rfl ?_
    | ((first | refine RunsL.pe hn rfl rfl rfl ?_ | refine RunsD.pe rfl rfl ?_); first
      | refine ⟨_, pu_add rfl rfl (by omega), ?_⟩
      | refine ⟨_, pu_indexAddr_map rfl rfl (by omega) (by assumption), ?_⟩
      | refine ⟨_, pu_sub rfl rfl (by omega), ?_⟩
      | refine ⟨_, pu_pick_b rfl rfl rfl, ?_⟩
      | refine ⟨_, pu_mul rfl rfl (by omega), ?_⟩
      | refine ⟨_, pu_build rfl rfl rfl rfl rfl rfl, ?_⟩)
    | ((first | refine RunsL.guard_dec rfl rfl rfl ?_ ?_ | refine RunsL.guard_ndec rfl rfl rfl ?_ ?_ | refine RunsL.guard_nb rfl rfl rfl ?_ ?_ | refine RunsL.guard_b rfl rfl rfl ?_ ?_ | refine RunsD.guard_dec rfl rfl rfl ?_ ?_ | refine RunsD.guard_ndec rfl rfl rfl ?_ ?_ | refine RunsD.guard_nb rfl rfl rfl ?_ ?_ | refine RunsD.guard_b rfl rfl rfl ?_ ?_) <;> intro h <;> try (exfalso; first | omega | contradiction | (simp only [List.length_map] at h; omega))))
    refine Runs.ctls 30 rfl (Runs.ret (ends_own (rs := (ruleI x s en).flatMap insR) hm rfl rfl rfl ?_ rfl))
    have hE : ruleI x s en = [⟨1, x.size, if x.little = true then 1 else 0⟩, ⟨10, 0, 0⟩] := by simp [ruleI, bodyI, e]
    rw [hE]
    rfl
  · repeat' (first
    | refine op_build0 (tl hn rfl) ?_
    | refine RunsL.step tabOk hn rfl ?_
    | refine RunsL.nil ?_
    | refine Runs.toRegion 30 rfl ?_
    | ((first | refine RunsL.pe hn rfl rfl rfl ?_ | refine RunsD.pe rfl rfl ?_); first
      | refine ⟨_, pu_callR hkn rfl, ?_⟩)
    | (refine Runs.ctls 30 rfl ?_; first | refine Runs.cond_t rfl ?_ | refine Runs.cond_f rfl ?_ | ((first | refine Runs.cond_yes rfl ?_ ?_ | refine Runs.cond_nno rfl ?_ ?_); · first | omega | rfl | assumption | (simp only [List.length_map]; omega)) | ((first | refine Runs.cond_no rfl ?_ ?_ | refine Runs.cond_nyes rfl ?_ ?_); · first | omega | rfl | assumption | (simp only [List.length_map]; omega)) | refine Runs.cond_dec rfl (fun h => ?_) (fun h => ?_) | refine Runs.cond_ndec rfl (fun h => ?_) (fun h => ?_) | refine Runs.cond_nb rfl (fun h => ?_) (fun h => ?_) | refine Runs.cond_b rfl (fun h => ?_) (fun h => ?_) | refine Runs.ret (ends_ro hm rfl rfl ?_) | exact Runs.ret (ends_cellR hm rfl rfl rfl (Nat.le_of_ble_eq_true rfl) rfl rfl))
    | refine op_box rfl (tl hn rfl) ?_
    | refine op_storeF rfl rfl rfl rfl (Nat.le_of_ble_eq_true rfl) ?_
    | refine op_alloc (tl hn rfl) ?_
    | refine op_storeN rfl rfl rfl rfl (Nat.le_of_ble_eq_true rfl) ?_
    | refine RunsD.step tabOk hn rfl rfl ?_
    | refine RunsD.nil ?_
    | refine Runs.toDraw 30 mixed hn rfl (by kernel_rfl) rfl ?_
    | ((first | refine RunsL.pe hn rfl rfl rfl ?_ | refine RunsD.pe rfl rfl ?_); first
      | refine ⟨_, pu_add rfl rfl (by omega), ?_⟩
      | refine ⟨_, pu_indexAddr_map rfl rfl (by omega) (by assumption), ?_⟩
      | refine ⟨_, pu_sub rfl rfl (by omega), ?_⟩
      | refine ⟨_, pu_pick_b rfl rfl rfl, ?_⟩
      | refine ⟨_, pu_mul rfl rfl (by omega), ?_⟩
      | refine ⟨_, pu_build rfl rfl rfl rfl rfl rfl, ?_⟩)
    | ((first | refine RunsL.guard_dec rfl rfl rfl ?_ ?_ | refine RunsL.guard_ndec rfl rfl rfl ?_ ?_ | refine RunsL.guard_nb rfl rfl rfl ?_ ?_ | refine RunsL.guard_b rfl rfl rfl ?_ ?_ | refine RunsD.guard_dec rfl rfl rfl ?_ ?_ | refine RunsD.guard_ndec rfl rfl rfl ?_ ?_ | refine RunsD.guard_nb rfl rfl rfl ?_ ?_ | refine RunsD.guard_b rfl rfl rfl ?_ ?_) <;> intro h <;> try (exfalso; first | omega | contradiction | (simp only [List.length_map] at h; omega))))
    refine Runs.loopN 30 rfl (fun j => [(9, .own 1), (10, .obj 2 0), (11, .int (j : Int))]) (fun j => [⟨34, 0, [.ro (rulsR d)]⟩, ⟨86, 3, ((conI (x.bytes.take j)).flatMap insR).map .ro⟩, ⟨73, 0, (rulR x).map .ro⟩]) (fun _ => True) x.bytes.length 0 (Nat.zero_le _) trivial ⟨rfl, rfl, rfl, trivial⟩ rfl fun j hj _ next => ?_
    have hcl := conI_len x.bytes j
    have hfl := insR_flat (conI (x.bytes.take j))
    by_cases hlt : j < x.bytes.length
    · obtain ⟨b, hb⟩ : ∃ b, x.bytes[(j : Int).toNat]? = some b := ⟨_, List.getElem?_eq_getElem hlt⟩
      have hb' : x.bytes[j]? = some b := hb
      repeat' (first
        | refine op_append (n := (conI (x.bytes.take j)).length) rfl rfl rfl rfl rfl rfl (by rw [hfl]) (FreeI.at_ (i := 1) (by repeat' (first | exact trivial | exact onlys_ro _ _ | refine ⟨?_, ?_⟩))) (by simp; omega) (by simp; omega) (tl hn rfl) ?_
        | refine RunsL.step tabOk hn rfl ?_
        | refine RunsL.nil ?_
        | refine Runs.toRegion 30 rfl ?_
        | ((first | refine RunsL.pe hn rfl rfl rfl ?_ | refine RunsD.pe rfl rfl ?_); first
          | refine ⟨_, pu_callR (l15Op_ac _ _ _) rfl, ?_⟩
          | refine ⟨_, pu_ofU8 rfl, ?_⟩)
        | (refine Runs.ctls 30 rfl ?_; first | refine Runs.cond_t rfl ?_ | refine Runs.cond_f rfl ?_ | ((first | refine Runs.cond_yes rfl ?_ ?_ | refine Runs.cond_nno rfl ?_ ?_); · first | omega | rfl | assumption | (simp only [List.length_map]; omega)) | ((first | refine Runs.cond_no rfl ?_ ?_ | refine Runs.cond_nyes rfl ?_ ?_); · first | omega | rfl | assumption | (simp only [List.length_map]; omega)) | refine Runs.cond_dec rfl (fun h => ?_) (fun h => ?_) | refine Runs.cond_ndec rfl (fun h => ?_) (fun h => ?_) | refine Runs.cond_nb rfl (fun h => ?_) (fun h => ?_) | refine Runs.cond_b rfl (fun h => ?_) (fun h => ?_) | refine Runs.ret (ends_ro hm rfl rfl ?_) | exact Runs.ret (ends_cellR hm rfl rfl rfl (Nat.le_of_ble_eq_true rfl) rfl rfl))
        | refine op_box rfl (tl hn rfl) ?_
        | refine op_storeF rfl rfl rfl rfl (Nat.le_of_ble_eq_true rfl) ?_
        | refine op_alloc (tl hn rfl) ?_
        | refine op_storeN rfl rfl rfl rfl (Nat.le_of_ble_eq_true rfl) ?_
        | refine RunsD.step tabOk hn rfl rfl ?_
        | refine RunsD.nil ?_
        | refine Runs.toDraw 30 mixed hn rfl (by kernel_rfl) rfl ?_
        | ((first | refine RunsL.pe hn rfl rfl rfl ?_ | refine RunsD.pe rfl rfl ?_); first
          | refine ⟨_, pu_add rfl rfl (by omega), ?_⟩
          | refine ⟨_, pu_indexAddr_map rfl rfl (by omega) (by assumption), ?_⟩
          | refine ⟨_, pu_sub rfl rfl (by omega), ?_⟩
          | refine ⟨_, pu_pick_b rfl rfl rfl, ?_⟩
          | refine ⟨_, pu_mul rfl rfl (by omega), ?_⟩
          | refine ⟨_, pu_build rfl rfl rfl rfl rfl rfl, ?_⟩)
        | ((first | refine RunsL.guard_dec rfl rfl rfl ?_ ?_ | refine RunsL.guard_ndec rfl rfl rfl ?_ ?_ | refine RunsL.guard_nb rfl rfl rfl ?_ ?_ | refine RunsL.guard_b rfl rfl rfl ?_ ?_ | refine RunsD.guard_dec rfl rfl rfl ?_ ?_ | refine RunsD.guard_ndec rfl rfl rfl ?_ ?_ | refine RunsD.guard_nb rfl rfl rfl ?_ ?_ | refine RunsD.guard_b rfl rfl rfl ?_ ?_) <;> intro h <;> try (exfalso; first | omega | contradiction | (simp only [List.length_map] at h; omega))))
      refine next _ _ ⟨rfl, rfl, rfl, trivial⟩ hlt trivial ?_
      rw [conI_next hb']
      simp
      rfl
    · obtain rfl : j = x.bytes.length := by omega
      rw [List.take_length] at hfl ⊢
      have hcl' : (conI x.bytes).length = x.bytes.length := List.length_map ..
      repeat' (first
        | refine op_append (n := (conI x.bytes).length) rfl rfl rfl rfl rfl rfl (by rw [hfl]) (FreeI.at_ (i := 1) (by repeat' (first | exact trivial | exact onlys_ro _ _ | refine ⟨?_, ?_⟩))) (by simp; omega) (by simp; omega) (tl hn rfl) ?_
        | refine RunsL.step tabOk hn rfl ?_
        | refine RunsL.nil ?_
        | refine Runs.toRegion 30 rfl ?_
        | ((first | refine RunsL.pe hn rfl rfl rfl ?_ | refine RunsD.pe rfl rfl ?_); first
          | refine ⟨_, pu_callR (l15Op_ac _ _ _) rfl, ?_⟩)
        | (refine Runs.ctls 30 rfl ?_; first | refine Runs.cond_t rfl ?_ | refine Runs.cond_f rfl ?_ | ((first | refine Runs.cond_yes rfl ?_ ?_ | refine Runs.cond_nno rfl ?_ ?_); · first | omega | rfl | assumption | (simp only [List.length_map]; omega)) | ((first | refine Runs.cond_no rfl ?_ ?_ | refine Runs.cond_nyes rfl ?_ ?_); · first | omega | rfl | assumption | (simp only [List.length_map]; omega)) | refine Runs.cond_dec rfl (fun h => ?_) (fun h => ?_) | refine Runs.cond_ndec rfl (fun h => ?_) (fun h => ?_) | refine Runs.cond_nb rfl (fun h => ?_) (fun h => ?_) | refine Runs.cond_b rfl (fun h => ?_) (fun h => ?_) | refine Runs.ret (ends_ro hm rfl rfl ?_) | exact Runs.ret (ends_cellR hm rfl rfl rfl (Nat.le_of_ble_eq_true rfl) rfl rfl))
        | refine op_box rfl (tl hn rfl) ?_
        | refine op_storeF rfl rfl rfl rfl (Nat.le_of_ble_eq_true rfl) ?_
        | refine op_alloc (tl hn rfl) ?_
        | refine op_storeN rfl rfl rfl rfl (Nat.le_of_ble_eq_true rfl) ?_
        | refine RunsD.step tabOk hn rfl rfl ?_
        | refine RunsD.nil ?_
        | refine Runs.toDraw 30 mixed hn rfl (by kernel_rfl) rfl ?_
        | ((first | refine RunsL.pe hn rfl rfl rfl ?_ | refine RunsD.pe rfl rfl ?_); first
          | refine ⟨_, pu_add rfl rfl (by omega), ?_⟩
          | refine ⟨_, pu_indexAddr_map rfl rfl (by omega) (by assumption), ?_⟩
          | refine ⟨_, pu_sub rfl rfl (by omega), ?_⟩
          | refine ⟨_, pu_pick_b rfl rfl rfl, ?_⟩
          | refine ⟨_, pu_mul rfl rfl (by omega), ?_⟩
          | refine ⟨_, pu_build rfl rfl rfl rfl rfl rfl, ?_⟩)
        | ((first | refine RunsL.guard_dec rfl rfl rfl ?_ ?_ | refine RunsL.guard_ndec rfl rfl rfl ?_ ?_ | refine RunsL.guard_nb rfl rfl rfl ?_ ?_ | refine RunsL.guard_b rfl rfl rfl ?_ ?_ | refine RunsD.guard_dec rfl rfl rfl ?_ ?_ | refine RunsD.guard_ndec rfl rfl rfl ?_ ?_ | refine RunsD.guard_nb rfl rfl rfl ?_ ?_ | refine RunsD.guard_b rfl rfl rfl ?_ ?_) <;> intro h <;> try (exfalso; first | omega | contradiction | (simp only [List.length_map] at h; omega))))
      refine Runs.ctls 30 rfl (Runs.ret (ends_own (rs := (ruleI x s en).flatMap insR) hm rfl rfl rfl ?_ rfl))
      have hE : ruleI x s en = conI x.bytes ++ [⟨10, 0, 0⟩] := by simp [ruleI, bodyI, e, conI]
      rw [hE]
      rw [List.flatMap_append]
      rfl
  · repeat' (first
    | refine op_build0 (tl hn rfl) ?_
    | refine op_appendB rfl rfl rfl rfl rfl rfl (by simp) (by repeat' (first | exact trivial | exact onlys_ro _ _ | refine ⟨?_, ?_⟩)) (by simp) rfl (tl hn rfl) ?_
    | refine RunsL.step tabOk hn rfl ?_
    | refine RunsL.nil ?_
    | refine Runs.toRegion 30 rfl ?_
    | ((first | refine RunsL.pe hn rfl rfl rfl ?_ | refine RunsD.pe rfl rfl ?_); first
      | refine ⟨_, pu_callR hkn rfl, ?_⟩
      | refine ⟨_, pu_callR (l15Op_ac _ _ _) rfl, ?_⟩)
    | (refine Runs.ctls 30 rfl ?_; first | refine Runs.cond_t rfl ?_ | refine Runs.cond_f rfl ?_ | ((first | refine Runs.cond_yes rfl ?_ ?_ | refine Runs.cond_nno rfl ?_ ?_); · first | omega | rfl | assumption | (simp only [List.length_map]; omega)) | ((first | refine Runs.cond_no rfl ?_ ?_ | refine Runs.cond_nyes rfl ?_ ?_); · first | omega | rfl | assumption | (simp only [List.length_map]; omega)) | refine Runs.cond_dec rfl (fun h => ?_) (fun h => ?_) | refine Runs.cond_ndec rfl (fun h => ?_) (fun h => ?_) | refine Runs.cond_nb rfl (fun h => ?_) (fun h => ?_) | refine Runs.cond_b rfl (fun h => ?_) (fun h => ?_) | refine Runs.ret (ends_ro hm rfl rfl ?_) | exact Runs.ret (ends_cellR hm rfl rfl rfl (Nat.le_of_ble_eq_true rfl) rfl rfl))
    | refine op_box rfl (tl hn rfl) ?_
    | refine op_storeF rfl rfl rfl rfl (Nat.le_of_ble_eq_true rfl) ?_
    | refine op_alloc (tl hn rfl) ?_
    | refine op_storeN rfl rfl rfl rfl (Nat.le_of_ble_eq_true rfl) ?_
    | refine RunsD.step tabOk hn rfl rfl ?_
    | refine RunsD.nil ?_
    | refine Runs.toDraw 30 mixed hn rfl (by kernel_rfl) rfl ?_
    | ((first | refine RunsL.pe hn rfl rfl rfl ?_ | refine RunsD.pe rfl rfl ?_); first
      | refine ⟨_, pu_add rfl rfl (by omega), ?_⟩
      | refine ⟨_, pu_indexAddr_map rfl rfl (by omega) (by assumption), ?_⟩
      | refine ⟨_, pu_sub rfl rfl (by omega), ?_⟩
      | refine ⟨_, pu_pick_b rfl rfl rfl, ?_⟩
      | refine ⟨_, pu_mul rfl rfl (by omega), ?_⟩
      | refine ⟨_, pu_build rfl rfl rfl rfl rfl rfl, ?_⟩)
    | ((first | refine RunsL.guard_dec rfl rfl rfl ?_ ?_ | refine RunsL.guard_ndec rfl rfl rfl ?_ ?_ | refine RunsL.guard_nb rfl rfl rfl ?_ ?_ | refine RunsL.guard_b rfl rfl rfl ?_ ?_ | refine RunsD.guard_dec rfl rfl rfl ?_ ?_ | refine RunsD.guard_ndec rfl rfl rfl ?_ ?_ | refine RunsD.guard_nb rfl rfl rfl ?_ ?_ | refine RunsD.guard_b rfl rfl rfl ?_ ?_) <;> intro h <;> try (exfalso; first | omega | contradiction | (simp only [List.length_map] at h; omega))))
    refine Runs.ctls 30 rfl (Runs.ret (ends_own (rs := (ruleI x s en).flatMap insR) hm rfl rfl rfl ?_ rfl))
    have hE : ruleI x s en = [⟨3, x.size, 0⟩, ⟨10, 0, 0⟩] := by simp [ruleI, bodyI, e]
    rw [hE]
    rfl
  · obtain ⟨h0, h1, h2⟩ := kid0 hr (by have := f4 e; omega)
    have hC0 := l15Call_ac en (x.kids.headD 0) h1 h2
    repeat' (first
      | refine op_build0 (tl hn rfl) ?_
      | refine op_appendB rfl rfl rfl rfl rfl rfl (by simp) (by repeat' (first | exact trivial | exact onlys_ro _ _ | refine ⟨?_, ?_⟩)) (by simp) rfl (tl hn rfl) ?_
      | refine RunsL.step tabOk hn rfl ?_
      | refine RunsL.nil ?_
      | refine Runs.toRegion 30 rfl ?_
      | ((first | refine RunsL.pe hn rfl rfl rfl ?_ | refine RunsD.pe rfl rfl ?_); first
        | refine ⟨_, pu_callR hkn rfl, ?_⟩
        | refine ⟨_, pu_callR (l15Op_ac _ _ _) rfl, ?_⟩
        | refine ⟨_, pu_callR hC0 rfl, ?_⟩)
      | (refine Runs.ctls 30 rfl ?_; first | refine Runs.cond_t rfl ?_ | refine Runs.cond_f rfl ?_ | ((first | refine Runs.cond_yes rfl ?_ ?_ | refine Runs.cond_nno rfl ?_ ?_); · first | omega | rfl | assumption | (simp only [List.length_map]; omega)) | ((first | refine Runs.cond_no rfl ?_ ?_ | refine Runs.cond_nyes rfl ?_ ?_); · first | omega | rfl | assumption | (simp only [List.length_map]; omega)) | refine Runs.cond_dec rfl (fun h => ?_) (fun h => ?_) | refine Runs.cond_ndec rfl (fun h => ?_) (fun h => ?_) | refine Runs.cond_nb rfl (fun h => ?_) (fun h => ?_) | refine Runs.cond_b rfl (fun h => ?_) (fun h => ?_) | refine Runs.ret (ends_ro hm rfl rfl ?_) | exact Runs.ret (ends_cellR hm rfl rfl rfl (Nat.le_of_ble_eq_true rfl) rfl rfl))
      | refine op_box rfl (tl hn rfl) ?_
      | refine op_storeF rfl rfl rfl rfl (Nat.le_of_ble_eq_true rfl) ?_
      | refine op_alloc (tl hn rfl) ?_
      | refine op_storeN rfl rfl rfl rfl (Nat.le_of_ble_eq_true rfl) ?_
      | refine RunsD.step tabOk hn rfl rfl ?_
      | refine RunsD.nil ?_
      | refine Runs.toDraw 30 mixed hn rfl (by kernel_rfl) rfl ?_
      | ((first | refine RunsL.pe hn rfl rfl rfl ?_ | refine RunsD.pe rfl rfl ?_); first
        | refine ⟨_, pu_add rfl rfl (by omega), ?_⟩
        | refine ⟨_, pu_indexAddr_map rfl rfl (by omega) (by assumption), ?_⟩
        | refine ⟨_, pu_sub rfl rfl (by omega), ?_⟩
        | refine ⟨_, pu_pick_b rfl rfl rfl, ?_⟩
        | refine ⟨_, pu_mul rfl rfl (by omega), ?_⟩
        | refine ⟨_, pu_build rfl rfl rfl rfl rfl rfl, ?_⟩)
      | ((first | refine RunsL.guard_dec rfl rfl rfl ?_ ?_ | refine RunsL.guard_ndec rfl rfl rfl ?_ ?_ | refine RunsL.guard_nb rfl rfl rfl ?_ ?_ | refine RunsL.guard_b rfl rfl rfl ?_ ?_ | refine RunsD.guard_dec rfl rfl rfl ?_ ?_ | refine RunsD.guard_ndec rfl rfl rfl ?_ ?_ | refine RunsD.guard_nb rfl rfl rfl ?_ ?_ | refine RunsD.guard_b rfl rfl rfl ?_ ?_) <;> intro h <;> try (exfalso; first | omega | contradiction | (simp only [List.length_map] at h; omega))))
    refine Runs.ctls 30 rfl (Runs.ret (ends_own (rs := (ruleI x s en).flatMap insR) hm rfl rfl rfl ?_ rfl))
    have hE : ruleI x s en = [callI en (x.kids.headD 0), ⟨4, 0, 0⟩, ⟨10, 0, 0⟩] := by simp [ruleI, bodyI, e]
    rw [hE]
    rfl
  · have hk2 := f5 e
    obtain ⟨h0, h1, h2⟩ := kid0 hr (by omega)
    have hC0 := l15Call_ac en (x.kids.headD 0) h1 h2
    obtain ⟨z, hz⟩ : ∃ z, x.kids[(1 : Int).toNat]? = some z := ⟨_, List.getElem?_eq_getElem (by simp; omega)⟩
    have hz' : x.kids[1]? = some z := hz
    obtain ⟨h3, h4⟩ := hr.2 1 z hz'
    have hC1 := l15Call_ac en z h3 h4
    repeat' (first
      | refine Runs.toDrawT (id := 19) 30 [] [0, 1, 2, 3, 4, 5, 6, 7, 8, 9, 10, 11, 12, 13, 14, 15, 16, 17, 18, 19, 20, 21] 22 [] mixed hn rfl (by kernel_rfl) rfl .nil (by decide) (by decide) (by decide) ?_
      | refine op_build0 (tl hn rfl) ?_
      | refine op_appendB rfl rfl rfl rfl rfl rfl (by simp) (by repeat' (first | exact trivial | exact onlys_ro _ _ | refine ⟨?_, ?_⟩)) (by simp) rfl (tl hn rfl) ?_
      | refine RunsT.nil ?_
      | refine RunsT.step tabOk rfl rfl (fun _ => rfl) (by decide) ?_
      | refine RunsT.pur (fun _ => pu_callR hkn rfl) (by decide) rfl rfl ?_
      | refine RunsT.pur (fun _ => pu_callR hC0 rfl) (by decide) rfl rfl ?_
      | refine RunsT.pur (fun _ => pu_callR hC1 rfl) (by decide) rfl rfl ?_
      | refine RunsT.pur (fun _ => pu_callR (l15Op_ac _ _ _) rfl) (by decide) rfl rfl ?_
      | refine RunsT.pur (fun _ => pu_addW rfl rfl) (by decide) rfl rfl ?_
      | refine RunsT.pur (fun _ => pu_build rfl rfl rfl rfl rfl rfl) (by decide) rfl rfl ?_
      | refine RunsT.pur (fun _ => pu_add rfl rfl (by omega)) (by decide) rfl rfl ?_
      | refine RunsT.pur (fun _ => pu_indexAddr_map rfl rfl (by omega) (by assumption)) (by decide) rfl rfl ?_
      | refine RunsT.alloc (p := 0) rfl inferInstance ?_
      | refine RunsT.alloc (p := 1) rfl inferInstance ?_
      | refine RunsL.step tabOk hn rfl ?_
      | refine RunsL.nil ?_
      | refine Runs.toRegion 30 rfl ?_
      | ((first | refine RunsL.pe hn rfl rfl rfl ?_ | refine RunsD.pe rfl rfl ?_); first
        | refine ⟨_, pu_callR hkn rfl, ?_⟩
        | refine ⟨_, pu_callR hC0 rfl, ?_⟩
        | refine ⟨_, pu_callR hC1 rfl, ?_⟩
        | refine ⟨_, pu_callR (l15Op_ac _ _ _) rfl, ?_⟩
        | refine ⟨_, pu_addW rfl rfl, ?_⟩
        | refine ⟨_, pu_build rfl rfl rfl rfl rfl rfl, ?_⟩)
      | (refine Runs.ctls 30 rfl ?_; first | refine Runs.cond_t rfl ?_ | refine Runs.cond_f rfl ?_ | ((first | refine Runs.cond_yes rfl ?_ ?_ | refine Runs.cond_nno rfl ?_ ?_); · first | omega | rfl | assumption | (simp only [List.length_map]; omega)) | ((first | refine Runs.cond_no rfl ?_ ?_ | refine Runs.cond_nyes rfl ?_ ?_); · first | omega | rfl | assumption | (simp only [List.length_map]; omega)) | refine Runs.cond_dec rfl (fun h => ?_) (fun h => ?_) | refine Runs.cond_ndec rfl (fun h => ?_) (fun h => ?_) | refine Runs.cond_nb rfl (fun h => ?_) (fun h => ?_) | refine Runs.cond_b rfl (fun h => ?_) (fun h => ?_) | refine Runs.ret (ends_ro hm rfl rfl ?_) | exact Runs.ret (ends_cellR hm rfl rfl rfl (Nat.le_of_ble_eq_true rfl) rfl rfl))
      | refine op_box rfl (tl hn rfl) ?_
      | refine op_storeF rfl rfl rfl rfl (Nat.le_of_ble_eq_true rfl) ?_
      | refine op_alloc (tl hn rfl) ?_
      | refine op_storeN rfl rfl rfl rfl (Nat.le_of_ble_eq_true rfl) ?_
      | refine RunsD.step tabOk hn rfl rfl ?_
      | refine RunsD.nil ?_
      | refine Runs.toDraw 30 mixed hn rfl (by kernel_rfl) rfl ?_
      | ((first | refine RunsL.pe hn rfl rfl rfl ?_ | refine RunsD.pe rfl rfl ?_); first
        | refine ⟨_, pu_add rfl rfl (by omega), ?_⟩
        | refine ⟨_, pu_indexAddr_map rfl rfl (by omega) (by assumption), ?_⟩
        | refine ⟨_, pu_sub rfl rfl (by omega), ?_⟩
        | refine ⟨_, pu_pick_b rfl rfl rfl, ?_⟩
        | refine ⟨_, pu_mul rfl rfl (by omega), ?_⟩
        | refine ⟨_, pu_build rfl rfl rfl rfl rfl rfl, ?_⟩)
      | ((first | refine RunsL.guard_dec rfl rfl rfl ?_ ?_ | refine RunsL.guard_ndec rfl rfl rfl ?_ ?_ | refine RunsL.guard_nb rfl rfl rfl ?_ ?_ | refine RunsL.guard_b rfl rfl rfl ?_ ?_ | refine RunsD.guard_dec rfl rfl rfl ?_ ?_ | refine RunsD.guard_ndec rfl rfl rfl ?_ ?_ | refine RunsD.guard_nb rfl rfl rfl ?_ ?_ | refine RunsD.guard_b rfl rfl rfl ?_ ?_) <;> intro h <;> try (exfalso; first | omega | contradiction | (simp only [List.length_map] at h; omega))))
    refine Runs.ctls 30 rfl (Runs.ret (ends_own (rs := (ruleI x s en).flatMap insR) hm rfl rfl rfl ?_ rfl))
    have hE : ruleI x s en = [callI en (x.kids.headD 0), ⟨5, 40, 0⟩, ⟨6, 0, 0⟩, ⟨7, w64 (s + 6), 0⟩, callI en z, ⟨8, w64 (s + 3), 0⟩, ⟨10, 0, 0⟩] := by simp [ruleI, bodyI, e, hz']
    rw [hE]
    rfl
  · repeat' (first
    | refine op_build0 (tl hn rfl) ?_
    | refine RunsL.step tabOk hn rfl ?_
    | refine RunsL.nil ?_
    | refine Runs.toRegion 30 rfl ?_
    | ((first | refine RunsL.pe hn rfl rfl rfl ?_ | refine RunsD.pe rfl rfl ?_); first
      | refine ⟨_, pu_callR hkn rfl, ?_⟩)
    | (refine Runs.ctls 30 rfl ?_; first | refine Runs.cond_t rfl ?_ | refine Runs.cond_f rfl ?_ | ((first | refine Runs.cond_yes rfl ?_ ?_ | refine Runs.cond_nno rfl ?_ ?_); · first | omega | rfl | assumption | (simp only [List.length_map]; omega)) | ((first | refine Runs.cond_no rfl ?_ ?_ | refine Runs.cond_nyes rfl ?_ ?_); · first | omega | rfl | assumption | (simp only [List.length_map]; omega)) | refine Runs.cond_dec rfl (fun h => ?_) (fun h => ?_) | refine Runs.cond_ndec rfl (fun h => ?_) (fun h => ?_) | refine Runs.cond_nb rfl (fun h => ?_) (fun h => ?_) | refine Runs.cond_b rfl (fun h => ?_) (fun h => ?_) | refine Runs.ret (ends_ro hm rfl rfl ?_) | exact Runs.ret (ends_cellR hm rfl rfl rfl (Nat.le_of_ble_eq_true rfl) rfl rfl))
    | refine op_box rfl (tl hn rfl) ?_
    | refine op_storeF rfl rfl rfl rfl (Nat.le_of_ble_eq_true rfl) ?_
    | refine op_alloc (tl hn rfl) ?_
    | refine op_storeN rfl rfl rfl rfl (Nat.le_of_ble_eq_true rfl) ?_
    | refine RunsD.step tabOk hn rfl rfl ?_
    | refine RunsD.nil ?_
    | refine Runs.toDraw 30 mixed hn rfl (by kernel_rfl) rfl ?_
    | ((first | refine RunsL.pe hn rfl rfl rfl ?_ | refine RunsD.pe rfl rfl ?_); first
      | refine ⟨_, pu_add rfl rfl (by omega), ?_⟩
      | refine ⟨_, pu_indexAddr_map rfl rfl (by omega) (by assumption), ?_⟩
      | refine ⟨_, pu_sub rfl rfl (by omega), ?_⟩
      | refine ⟨_, pu_pick_b rfl rfl rfl, ?_⟩
      | refine ⟨_, pu_mul rfl rfl (by omega), ?_⟩
      | refine ⟨_, pu_build rfl rfl rfl rfl rfl rfl, ?_⟩)
    | ((first | refine RunsL.guard_dec rfl rfl rfl ?_ ?_ | refine RunsL.guard_ndec rfl rfl rfl ?_ ?_ | refine RunsL.guard_nb rfl rfl rfl ?_ ?_ | refine RunsL.guard_b rfl rfl rfl ?_ ?_ | refine RunsD.guard_dec rfl rfl rfl ?_ ?_ | refine RunsD.guard_ndec rfl rfl rfl ?_ ?_ | refine RunsD.guard_nb rfl rfl rfl ?_ ?_ | refine RunsD.guard_b rfl rfl rfl ?_ ?_) <;> intro h <;> try (exfalso; first | omega | contradiction | (simp only [List.length_map] at h; omega))))
    refine Runs.loopN 30 rfl (fun j => [(3, .ro (intsR en)), (9, .own 1), (10, .obj 2 0), (12, .int (j : Int))]) (fun j => [⟨34, 0, [.ro (rulsR d)]⟩, ⟨86, 3, ((seqC en (x.kids.take j)).flatMap insR).map .ro⟩, ⟨73, 0, (rulR x).map .ro⟩]) (fun _ => True) x.kids.length 0 (Nat.zero_le _) trivial ⟨rfl, rfl, rfl, rfl, trivial⟩ rfl fun j hj _ next => ?_
    have hcl := seqC_len en x.kids j
    have hfl := insR_flat (seqC en (x.kids.take j))
    by_cases hlt : j < x.kids.length
    · obtain ⟨b, hb⟩ : ∃ b, x.kids[(j : Int).toNat]? = some b := ⟨_, List.getElem?_eq_getElem hlt⟩
      have hb' : x.kids[j]? = some b := hb
      obtain ⟨h3, h4⟩ := hr.2 j b hb'
      have hCj := l15Call_ac en b h3 h4
      repeat' (first
        | refine op_append (n := (seqC en (x.kids.take j)).length) rfl rfl rfl rfl rfl rfl (by rw [hfl]) (FreeI.at_ (i := 1) (by repeat' (first | exact trivial | exact onlys_ro _ _ | refine ⟨?_, ?_⟩))) (by simp; omega) (by simp; omega) (tl hn rfl) ?_
        | refine RunsL.step tabOk hn rfl ?_
        | refine RunsL.nil ?_
        | refine Runs.toRegion 30 rfl ?_
        | ((first | refine RunsL.pe hn rfl rfl rfl ?_ | refine RunsD.pe rfl rfl ?_); first
          | refine ⟨_, pu_callR hCj rfl, ?_⟩)
        | (refine Runs.ctls 30 rfl ?_; first | refine Runs.cond_t rfl ?_ | refine Runs.cond_f rfl ?_ | ((first | refine Runs.cond_yes rfl ?_ ?_ | refine Runs.cond_nno rfl ?_ ?_); · first | omega | rfl | assumption | (simp only [List.length_map]; omega)) | ((first | refine Runs.cond_no rfl ?_ ?_ | refine Runs.cond_nyes rfl ?_ ?_); · first | omega | rfl | assumption | (simp only [List.length_map]; omega)) | refine Runs.cond_dec rfl (fun h => ?_) (fun h => ?_) | refine Runs.cond_ndec rfl (fun h => ?_) (fun h => ?_) | refine Runs.cond_nb rfl (fun h => ?_) (fun h => ?_) | refine Runs.cond_b rfl (fun h => ?_) (fun h => ?_) | refine Runs.ret (ends_ro hm rfl rfl ?_) | exact Runs.ret (ends_cellR hm rfl rfl rfl (Nat.le_of_ble_eq_true rfl) rfl rfl))
        | refine op_box rfl (tl hn rfl) ?_
        | refine op_storeF rfl rfl rfl rfl (Nat.le_of_ble_eq_true rfl) ?_
        | refine op_alloc (tl hn rfl) ?_
        | refine op_storeN rfl rfl rfl rfl (Nat.le_of_ble_eq_true rfl) ?_
        | refine RunsD.step tabOk hn rfl rfl ?_
        | refine RunsD.nil ?_
        | refine Runs.toDraw 30 mixed hn rfl (by kernel_rfl) rfl ?_
        | ((first | refine RunsL.pe hn rfl rfl rfl ?_ | refine RunsD.pe rfl rfl ?_); first
          | refine ⟨_, pu_add rfl rfl (by omega), ?_⟩
          | refine ⟨_, pu_indexAddr_map rfl rfl (by omega) (by assumption), ?_⟩
          | refine ⟨_, pu_sub rfl rfl (by omega), ?_⟩
          | refine ⟨_, pu_pick_b rfl rfl rfl, ?_⟩
          | refine ⟨_, pu_mul rfl rfl (by omega), ?_⟩
          | refine ⟨_, pu_build rfl rfl rfl rfl rfl rfl, ?_⟩)
        | ((first | refine RunsL.guard_dec rfl rfl rfl ?_ ?_ | refine RunsL.guard_ndec rfl rfl rfl ?_ ?_ | refine RunsL.guard_nb rfl rfl rfl ?_ ?_ | refine RunsL.guard_b rfl rfl rfl ?_ ?_ | refine RunsD.guard_dec rfl rfl rfl ?_ ?_ | refine RunsD.guard_ndec rfl rfl rfl ?_ ?_ | refine RunsD.guard_nb rfl rfl rfl ?_ ?_ | refine RunsD.guard_b rfl rfl rfl ?_ ?_) <;> intro h <;> try (exfalso; first | omega | contradiction | (simp only [List.length_map] at h; omega))))
      refine next _ _ ⟨rfl, rfl, rfl, rfl, trivial⟩ hlt trivial ?_
      rw [seqC_next hb']
      simp
      rfl
    · obtain rfl : j = x.kids.length := by omega
      rw [List.take_length] at hfl ⊢
      have hcl' : (seqC en x.kids).length = x.kids.length := List.length_map ..
      repeat' (first
        | refine op_append (n := (seqC en x.kids).length) rfl rfl rfl rfl rfl rfl (by rw [hfl]) (FreeI.at_ (i := 1) (by repeat' (first | exact trivial | exact onlys_ro _ _ | refine ⟨?_, ?_⟩))) (by simp; omega) (by simp; omega) (tl hn rfl) ?_
        | refine RunsL.step tabOk hn rfl ?_
        | refine RunsL.nil ?_
        | refine Runs.toRegion 30 rfl ?_
        | ((first | refine RunsL.pe hn rfl rfl rfl ?_ | refine RunsD.pe rfl rfl ?_); first
          | refine ⟨_, pu_callR (l15Op_ac _ _ _) rfl, ?_⟩)
        | (refine Runs.ctls 30 rfl ?_; first | refine Runs.cond_t rfl ?_ | refine Runs.cond_f rfl ?_ | ((first | refine Runs.cond_yes rfl ?_ ?_ | refine Runs.cond_nno rfl ?_ ?_); · first | omega | rfl | assumption | (simp only [List.length_map]; omega)) | ((first | refine Runs.cond_no rfl ?_ ?_ | refine Runs.cond_nyes rfl ?_ ?_); · first | omega | rfl | assumption | (simp only [List.length_map]; omega)) | refine Runs.cond_dec rfl (fun h => ?_) (fun h => ?_) | refine Runs.cond_ndec rfl (fun h => ?_) (fun h => ?_) | refine Runs.cond_nb rfl (fun h => ?_) (fun h => ?_) | refine Runs.cond_b rfl (fun h => ?_) (fun h => ?_) | refine Runs.ret (ends_ro hm rfl rfl ?_) | exact Runs.ret (ends_cellR hm rfl rfl rfl (Nat.le_of_ble_eq_true rfl) rfl rfl))
        | refine op_box rfl (tl hn rfl) ?_
        | refine op_storeF rfl rfl rfl rfl (Nat.le_of_ble_eq_true rfl) ?_
        | refine op_alloc (tl hn rfl) ?_
        | refine op_storeN rfl rfl rfl rfl (Nat.le_of_ble_eq_true rfl) ?_
        | refine RunsD.step tabOk hn rfl rfl ?_
        | refine RunsD.nil ?_
        | refine Runs.toDraw 30 mixed hn rfl (by kernel_rfl) rfl ?_
        | ((first | refine RunsL.pe hn rfl rfl rfl ?_ | refine RunsD.pe rfl rfl ?_); first
          | refine ⟨_, pu_add rfl rfl (by omega), ?_⟩
          | refine ⟨_, pu_indexAddr_map rfl rfl (by omega) (by assumption), ?_⟩
          | refine ⟨_, pu_sub rfl rfl (by omega), ?_⟩
          | refine ⟨_, pu_pick_b rfl rfl rfl, ?_⟩
          | refine ⟨_, pu_mul rfl rfl (by omega), ?_⟩
          | refine ⟨_, pu_build rfl rfl rfl rfl rfl rfl, ?_⟩)
        | ((first | refine RunsL.guard_dec rfl rfl rfl ?_ ?_ | refine RunsL.guard_ndec rfl rfl rfl ?_ ?_ | refine RunsL.guard_nb rfl rfl rfl ?_ ?_ | refine RunsL.guard_b rfl rfl rfl ?_ ?_ | refine RunsD.guard_dec rfl rfl rfl ?_ ?_ | refine RunsD.guard_ndec rfl rfl rfl ?_ ?_ | refine RunsD.guard_nb rfl rfl rfl ?_ ?_ | refine RunsD.guard_b rfl rfl rfl ?_ ?_) <;> intro h <;> try (exfalso; first | omega | contradiction | (simp only [List.length_map] at h; omega))))
      refine Runs.ctls 30 rfl (Runs.ret (ends_own (rs := (ruleI x s en).flatMap insR) hm rfl rfl rfl ?_ rfl))
      have hE : ruleI x s en = seqC en x.kids ++ [⟨10, 0, 0⟩] := by simp [ruleI, bodyI, e, seqC]
      rw [hE]
      rw [List.flatMap_append]
      rfl
  · have hCh := l15Choice_ac d s en x e hr (by omega)
    have hfl := insR_flat (bodyI x s en)
    repeat' (first
      | refine op_callOR hCh rfl (tl hn rfl) ?_
      | refine op_build0 (tl hn rfl) ?_
      | refine op_append (n := (bodyI x s en).length) rfl rfl rfl rfl rfl rfl (by rw [hfl]) (FreeI.at_ (i := 3) (by repeat' (first | exact trivial | exact onlys_ro _ _ | refine ⟨?_, ?_⟩))) (by simp; omega) (by simp; omega) (tl hn rfl) ?_
      | refine RunsL.step tabOk hn rfl ?_
      | refine RunsL.nil ?_
      | refine Runs.toRegion 30 rfl ?_
      | ((first | refine RunsL.pe hn rfl rfl rfl ?_ | refine RunsD.pe rfl rfl ?_); first
        | refine ⟨_, pu_callR hkn rfl, ?_⟩
        | refine ⟨_, pu_callR (l15Op_ac _ _ _) rfl, ?_⟩)
      | (refine Runs.ctls 30 rfl ?_; first | refine Runs.cond_t rfl ?_ | refine Runs.cond_f rfl ?_ | ((first | refine Runs.cond_yes rfl ?_ ?_ | refine Runs.cond_nno rfl ?_ ?_); · first | omega | rfl | assumption | (simp only [List.length_map]; omega)) | ((first | refine Runs.cond_no rfl ?_ ?_ | refine Runs.cond_nyes rfl ?_ ?_); · first | omega | rfl | assumption | (simp only [List.length_map]; omega)) | refine Runs.cond_dec rfl (fun h => ?_) (fun h => ?_) | refine Runs.cond_ndec rfl (fun h => ?_) (fun h => ?_) | refine Runs.cond_nb rfl (fun h => ?_) (fun h => ?_) | refine Runs.cond_b rfl (fun h => ?_) (fun h => ?_) | refine Runs.ret (ends_ro hm rfl rfl ?_) | exact Runs.ret (ends_cellR hm rfl rfl rfl (Nat.le_of_ble_eq_true rfl) rfl rfl))
      | refine op_box rfl (tl hn rfl) ?_
      | refine op_storeF rfl rfl rfl rfl (Nat.le_of_ble_eq_true rfl) ?_
      | refine op_alloc (tl hn rfl) ?_
      | refine op_storeN rfl rfl rfl rfl (Nat.le_of_ble_eq_true rfl) ?_
      | refine RunsD.step tabOk hn rfl rfl ?_
      | refine RunsD.nil ?_
      | refine Runs.toDraw 30 mixed hn rfl (by kernel_rfl) rfl ?_
      | ((first | refine RunsL.pe hn rfl rfl rfl ?_ | refine RunsD.pe rfl rfl ?_); first
        | refine ⟨_, pu_add rfl rfl (by omega), ?_⟩
        | refine ⟨_, pu_indexAddr_map rfl rfl (by omega) (by assumption), ?_⟩
        | refine ⟨_, pu_sub rfl rfl (by omega), ?_⟩
        | refine ⟨_, pu_pick_b rfl rfl rfl, ?_⟩
        | refine ⟨_, pu_mul rfl rfl (by omega), ?_⟩
        | refine ⟨_, pu_build rfl rfl rfl rfl rfl rfl, ?_⟩)
      | ((first | refine RunsL.guard_dec rfl rfl rfl ?_ ?_ | refine RunsL.guard_ndec rfl rfl rfl ?_ ?_ | refine RunsL.guard_nb rfl rfl rfl ?_ ?_ | refine RunsL.guard_b rfl rfl rfl ?_ ?_ | refine RunsD.guard_dec rfl rfl rfl ?_ ?_ | refine RunsD.guard_ndec rfl rfl rfl ?_ ?_ | refine RunsD.guard_nb rfl rfl rfl ?_ ?_ | refine RunsD.guard_b rfl rfl rfl ?_ ?_) <;> intro h <;> try (exfalso; first | omega | contradiction | (simp only [List.length_map] at h; omega))))
    refine Runs.ctls 30 rfl (Runs.ret (ends_own (rs := (ruleI x s en).flatMap insR) hm rfl rfl rfl ?_ rfl))
    have hE : ruleI x s en = bodyI x s en ++ [⟨10, 0, 0⟩] := by simp [ruleI]
    rw [hE]
    rw [List.flatMap_append]
    rfl
  · obtain ⟨h0, h1, h2⟩ := kid0 hr (by have := f8 (.inl e); omega)
    have hC0 := l15Call_ac en (x.kids.headD 0) h1 h2
    repeat' (first
      | refine Runs.toDrawT (id := 28) 30 [] [0, 1, 2, 3, 4, 5, 6, 7, 8, 9, 10] 11 [] mixed hn rfl (by kernel_rfl) rfl .nil (by decide) (by decide) (by decide) ?_
      | refine op_build0 (tl hn rfl) ?_
      | refine op_appendB rfl rfl rfl rfl rfl rfl (by simp) (by repeat' (first | exact trivial | exact onlys_ro _ _ | refine ⟨?_, ?_⟩)) (by simp) rfl (tl hn rfl) ?_
      | refine RunsT.nil ?_
      | refine RunsT.step tabOk rfl rfl (fun _ => rfl) (by decide) ?_
      | refine RunsT.pur (fun _ => pu_callR hkn rfl) (by decide) rfl rfl ?_
      | refine RunsT.pur (fun _ => pu_callR hC0 rfl) (by decide) rfl rfl ?_
      | refine RunsT.pur (fun _ => pu_callR (l15Op_ac _ _ _) rfl) (by decide) rfl rfl ?_
      | refine RunsT.pur (fun _ => pu_addW rfl rfl) (by decide) rfl rfl ?_
      | refine RunsT.pur (fun _ => pu_build rfl rfl rfl rfl rfl rfl) (by decide) rfl rfl ?_
      | refine RunsT.pur (fun _ => pu_add rfl rfl (by omega)) (by decide) rfl rfl ?_
      | refine RunsT.pur (fun _ => pu_indexAddr_map rfl rfl (by omega) (by assumption)) (by decide) rfl rfl ?_
      | refine RunsT.alloc (p := 0) rfl inferInstance ?_
      | refine RunsT.alloc (p := 1) rfl inferInstance ?_
      | refine RunsL.step tabOk hn rfl ?_
      | refine RunsL.nil ?_
      | refine Runs.toRegion 30 rfl ?_
      | ((first | refine RunsL.pe hn rfl rfl rfl ?_ | refine RunsD.pe rfl rfl ?_); first
        | refine ⟨_, pu_callR hkn rfl, ?_⟩
        | refine ⟨_, pu_callR hC0 rfl, ?_⟩
        | refine ⟨_, pu_callR (l15Op_ac _ _ _) rfl, ?_⟩
        | refine ⟨_, pu_addW rfl rfl, ?_⟩
        | refine ⟨_, pu_build rfl rfl rfl rfl rfl rfl, ?_⟩)
      | (refine Runs.ctls 30 rfl ?_; first | refine Runs.cond_t rfl ?_ | refine Runs.cond_f rfl ?_ | ((first | refine Runs.cond_yes rfl ?_ ?_ | refine Runs.cond_nno rfl ?_ ?_); · first | omega | rfl | assumption | (simp only [List.length_map]; omega)) | ((first | refine Runs.cond_no rfl ?_ ?_ | refine Runs.cond_nyes rfl ?_ ?_); · first | omega | rfl | assumption | (simp only [List.length_map]; omega)) | refine Runs.cond_dec rfl (fun h => ?_) (fun h => ?_) | refine Runs.cond_ndec rfl (fun h => ?_) (fun h => ?_) | refine Runs.cond_nb rfl (fun h => ?_) (fun h => ?_) | refine Runs.cond_b rfl (fun h => ?_) (fun h => ?_) | refine Runs.ret (ends_ro hm rfl rfl ?_) | exact Runs.ret (ends_cellR hm rfl rfl rfl (Nat.le_of_ble_eq_true rfl) rfl rfl))
      | refine op_box rfl (tl hn rfl) ?_
      | refine op_storeF rfl rfl rfl rfl (Nat.le_of_ble_eq_true rfl) ?_
      | refine op_alloc (tl hn rfl) ?_
      | refine op_storeN rfl rfl rfl rfl (Nat.le_of_ble_eq_true rfl) ?_
      | refine RunsD.step tabOk hn rfl rfl ?_
      | refine RunsD.nil ?_
      | refine Runs.toDraw 30 mixed hn rfl (by kernel_rfl) rfl ?_
      | ((first | refine RunsL.pe hn rfl rfl rfl ?_ | refine RunsD.pe rfl rfl ?_); first
        | refine ⟨_, pu_add rfl rfl (by omega), ?_⟩
        | refine ⟨_, pu_indexAddr_map rfl rfl (by omega) (by assumption), ?_⟩
        | refine ⟨_, pu_sub rfl rfl (by omega), ?_⟩
        | refine ⟨_, pu_pick_b rfl rfl rfl, ?_⟩
        | refine ⟨_, pu_mul rfl rfl (by omega), ?_⟩
        | refine ⟨_, pu_build rfl rfl rfl rfl rfl rfl, ?_⟩)
      | ((first | refine RunsL.guard_dec rfl rfl rfl ?_ ?_ | refine RunsL.guard_ndec rfl rfl rfl ?_ ?_ | refine RunsL.guard_nb rfl rfl rfl ?_ ?_ | refine RunsL.guard_b rfl rfl rfl ?_ ?_ | refine RunsD.guard_dec rfl rfl rfl ?_ ?_ | refine RunsD.guard_ndec rfl rfl rfl ?_ ?_ | refine RunsD.guard_nb rfl rfl rfl ?_ ?_ | refine RunsD.guard_b rfl rfl rfl ?_ ?_) <;> intro h <;> try (exfalso; first | omega | contradiction | (simp only [List.length_map] at h; omega))))
    refine Runs.ctls 30 rfl (Runs.ret (ends_own (rs := (ruleI x s en).flatMap insR) hm rfl rfl rfl ?_ rfl))
    have hE : ruleI x s en = [⟨13, w64 (s + 2), 0⟩, callI en (x.kids.headD 0), ⟨10, 0, 0⟩] := by simp [ruleI, bodyI, e]
    rw [hE]
    rfl
  · obtain ⟨h0, h1, h2⟩ := kid0 hr (by have := f8 (.inr e); omega)
    have hC0 := l15Call_ac en (x.kids.headD 0) h1 h2
    repeat' (first
      | refine Runs.toDrawT (id := 30) 30 [] [0, 1, 2, 3, 4, 5, 6, 7, 8, 9] 10 [] mixed hn rfl (by kernel_rfl) rfl .nil (by decide) (by decide) (by decide) ?_
      | refine op_build0 (tl hn rfl) ?_
      | refine op_appendB rfl rfl rfl rfl rfl rfl (by simp) (by repeat' (first | exact trivial | exact onlys_ro _ _ | refine ⟨?_, ?_⟩)) (by simp) rfl (tl hn rfl) ?_
      | refine RunsT.nil ?_
      | refine RunsT.step tabOk rfl rfl (fun _ => rfl) (by decide) ?_
      | refine RunsT.pur (fun _ => pu_callR hkn rfl) (by decide) rfl rfl ?_
      | refine RunsT.pur (fun _ => pu_callR hC0 rfl) (by decide) rfl rfl ?_
      | refine RunsT.pur (fun _ => pu_callR (l15Op_ac _ _ _) rfl) (by decide) rfl rfl ?_
      | refine RunsT.pur (fun _ => pu_build rfl rfl rfl rfl rfl rfl) (by decide) rfl rfl ?_
      | refine RunsT.pur (fun _ => pu_add rfl rfl (by omega)) (by decide) rfl rfl ?_
      | refine RunsT.pur (fun _ => pu_indexAddr_map rfl rfl (by omega) (by assumption)) (by decide) rfl rfl ?_
      | refine RunsT.alloc (p := 0) rfl inferInstance ?_
      | refine RunsT.alloc (p := 1) rfl inferInstance ?_
      | refine RunsL.step tabOk hn rfl ?_
      | refine RunsL.nil ?_
      | refine Runs.toRegion 30 rfl ?_
      | ((first | refine RunsL.pe hn rfl rfl rfl ?_ | refine RunsD.pe rfl rfl ?_); first
        | refine ⟨_, pu_callR hkn rfl, ?_⟩
        | refine ⟨_, pu_callR hC0 rfl, ?_⟩
        | refine ⟨_, pu_callR (l15Op_ac _ _ _) rfl, ?_⟩
        | refine ⟨_, pu_build rfl rfl rfl rfl rfl rfl, ?_⟩)
      | (refine Runs.ctls 30 rfl ?_; first | refine Runs.cond_t rfl ?_ | refine Runs.cond_f rfl ?_ | ((first | refine Runs.cond_yes rfl ?_ ?_ | refine Runs.cond_nno rfl ?_ ?_); · first | omega | rfl | assumption | (simp only [List.length_map]; omega)) | ((first | refine Runs.cond_no rfl ?_ ?_ | refine Runs.cond_nyes rfl ?_ ?_); · first | omega | rfl | assumption | (simp only [List.length_map]; omega)) | refine Runs.cond_dec rfl (fun h => ?_) (fun h => ?_) | refine Runs.cond_ndec rfl (fun h => ?_) (fun h => ?_) | refine Runs.cond_nb rfl (fun h => ?_) (fun h => ?_) | refine Runs.cond_b rfl (fun h => ?_) (fun h => ?_) | refine Runs.ret (ends_ro hm rfl rfl ?_) | exact Runs.ret (ends_cellR hm rfl rfl rfl (Nat.le_of_ble_eq_true rfl) rfl rfl))
      | refine op_box rfl (tl hn rfl) ?_
      | refine op_storeF rfl rfl rfl rfl (Nat.le_of_ble_eq_true rfl) ?_
      | refine op_alloc (tl hn rfl) ?_
      | refine op_storeN rfl rfl rfl rfl (Nat.le_of_ble_eq_true rfl) ?_
      | refine RunsD.step tabOk hn rfl rfl ?_
      | refine RunsD.nil ?_
      | refine Runs.toDraw 30 mixed hn rfl (by kernel_rfl) rfl ?_
      | ((first | refine RunsL.pe hn rfl rfl rfl ?_ | refine RunsD.pe rfl rfl ?_); first
        | refine ⟨_, pu_add rfl rfl (by omega), ?_⟩
        | refine ⟨_, pu_indexAddr_map rfl rfl (by omega) (by assumption), ?_⟩
        | refine ⟨_, pu_sub rfl rfl (by omega), ?_⟩
        | refine ⟨_, pu_pick_b rfl rfl rfl, ?_⟩
        | refine ⟨_, pu_mul rfl rfl (by omega), ?_⟩
        | refine ⟨_, pu_build rfl rfl rfl rfl rfl rfl, ?_⟩)
      | ((first | refine RunsL.guard_dec rfl rfl rfl ?_ ?_ | refine RunsL.guard_ndec rfl rfl rfl ?_ ?_ | refine RunsL.guard_nb rfl rfl rfl ?_ ?_ | refine RunsL.guard_b rfl rfl rfl ?_ ?_ | refine RunsD.guard_dec rfl rfl rfl ?_ ?_ | refine RunsD.guard_ndec rfl rfl rfl ?_ ?_ | refine RunsD.guard_nb rfl rfl rfl ?_ ?_ | refine RunsD.guard_b rfl rfl rfl ?_ ?_) <;> intro h <;> try (exfalso; first | omega | contradiction | (simp only [List.length_map] at h; omega))))
    refine Runs.ctls 30 rfl (Runs.ret (ends_own (rs := (ruleI x s en).flatMap insR) hm rfl rfl rfl ?_ rfl))
    have hE : ruleI x s en = [⟨14, 0, 0⟩, callI en (x.kids.headD 0), ⟨15, 0, 0⟩, ⟨10, 0, 0⟩] := by simp [ruleI, bodyI, e]
    rw [hE]
    rfl
  · have hb1 : x.bytes.length = 1 := by
      have h := hk
      unfold KindOk at h
      omega
    obtain ⟨b, hb⟩ : ∃ b, x.bytes[(0 : Int).toNat]? = some b := ⟨_, List.getElem?_eq_getElem (by simp; omega)⟩
    have hb' : x.bytes[0]? = some b := hb
    repeat' (first
      | refine op_build0 (tl hn rfl) ?_
      | refine op_appendB rfl rfl rfl rfl rfl rfl (by simp) (by repeat' (first | exact trivial | exact onlys_ro _ _ | refine ⟨?_, ?_⟩)) (by simp) rfl (tl hn rfl) ?_
      | refine RunsL.step tabOk hn rfl ?_
      | refine RunsL.nil ?_
      | refine Runs.toRegion 30 rfl ?_
      | ((first | refine RunsL.pe hn rfl rfl rfl ?_ | refine RunsD.pe rfl rfl ?_); first
        | refine ⟨_, pu_callR hkn rfl, ?_⟩
        | refine ⟨_, pu_callR (l15Op_ac _ _ _) rfl, ?_⟩
        | refine ⟨_, pu_ofU8 rfl, ?_⟩)
      | (refine Runs.ctls 30 rfl ?_; first | refine Runs.cond_t rfl ?_ | refine Runs.cond_f rfl ?_ | ((first | refine Runs.cond_yes rfl ?_ ?_ | refine Runs.cond_nno rfl ?_ ?_); · first | omega | rfl | assumption | (simp only [List.length_map]; omega)) | ((first | refine Runs.cond_no rfl ?_ ?_ | refine Runs.cond_nyes rfl ?_ ?_); · first | omega | rfl | assumption | (simp only [List.length_map]; omega)) | refine Runs.cond_dec rfl (fun h => ?_) (fun h => ?_) | refine Runs.cond_ndec rfl (fun h => ?_) (fun h => ?_) | refine Runs.cond_nb rfl (fun h => ?_) (fun h => ?_) | refine Runs.cond_b rfl (fun h => ?_) (fun h => ?_) | refine Runs.ret (ends_ro hm rfl rfl ?_) | exact Runs.ret (ends_cellR hm rfl rfl rfl (Nat.le_of_ble_eq_true rfl) rfl rfl))
      | refine op_box rfl (tl hn rfl) ?_
      | refine op_storeF rfl rfl rfl rfl (Nat.le_of_ble_eq_true rfl) ?_
      | refine op_alloc (tl hn rfl) ?_
      | refine op_storeN rfl rfl rfl rfl (Nat.le_of_ble_eq_true rfl) ?_
      | refine RunsD.step tabOk hn rfl rfl ?_
      | refine RunsD.nil ?_
      | refine Runs.toDraw 30 mixed hn rfl (by kernel_rfl) rfl ?_
      | ((first | refine RunsL.pe hn rfl rfl rfl ?_ | refine RunsD.pe rfl rfl ?_); first
        | refine ⟨_, pu_add rfl rfl (by omega), ?_⟩
        | refine ⟨_, pu_indexAddr_map rfl rfl (by omega) (by assumption), ?_⟩
        | refine ⟨_, pu_sub rfl rfl (by omega), ?_⟩
        | refine ⟨_, pu_pick_b rfl rfl rfl, ?_⟩
        | refine ⟨_, pu_mul rfl rfl (by omega), ?_⟩
        | refine ⟨_, pu_build rfl rfl rfl rfl rfl rfl, ?_⟩)
      | ((first | refine RunsL.guard_dec rfl rfl rfl ?_ ?_ | refine RunsL.guard_ndec rfl rfl rfl ?_ ?_ | refine RunsL.guard_nb rfl rfl rfl ?_ ?_ | refine RunsL.guard_b rfl rfl rfl ?_ ?_ | refine RunsD.guard_dec rfl rfl rfl ?_ ?_ | refine RunsD.guard_ndec rfl rfl rfl ?_ ?_ | refine RunsD.guard_nb rfl rfl rfl ?_ ?_ | refine RunsD.guard_b rfl rfl rfl ?_ ?_) <;> intro h <;> try (exfalso; first | omega | contradiction | (simp only [List.length_map] at h; omega))))
    refine Runs.ctls 30 rfl (Runs.ret (ends_own (rs := (ruleI x s en).flatMap insR) hm rfl rfl rfl ?_ rfl))
    have hE : ruleI x s en = [⟨16, (b.toNat : Int), 0⟩, ⟨10, 0, 0⟩] := by simp [ruleI, bodyI, e, hb']
    rw [hE]
    rfl
set_option maxHeartbeats 4000000 in
theorem spec_CompileRule (d : Des) (ho : DesOk d) (hd : dtotal d ≤ 1048576) (r s : Int) (en : List Int) : AC Try.prog 26 [desR d, .int r, .int s, intsR en] (fun rr => rr = .row 86 3 ((cmpL d r s en).flatMap insR)) := by
  have hkn := l7Rule_ac d ho hd r
  have hle : (en.map fun z => [RV.int z]).length = en.length := List.length_map ..
  by_cases hK : Kn d r
  · rw [decide_eq_true hK] at hkn
    obtain ⟨n, x, rfl, hn', hx⟩ := kn_nat hK
    by_cases hen : (n : Int) ≤ en.length
    · rw [cmpL_yes ⟨hK, hen⟩ hx]
      exact spec_compile_yes d hd hK.1 n x hx s en hkn (by omega)
    · rw [cmpL_no fun h => hen h.2]
      refine ac_enter Try.func26 rfl _ Try.ntmps26 (by simp) fun C hn hm => ?_
      repeat' (first
        | refine op_build0 (tl hn rfl) ?_
        | refine RunsL.step tabOk hn rfl ?_
        | refine RunsL.nil ?_
        | refine Runs.toRegion 30 rfl ?_
        | ((first | refine RunsL.pe hn rfl rfl rfl ?_ | refine RunsD.pe rfl rfl ?_); first
          | refine ⟨_, pu_callR hkn rfl, ?_⟩)
        | (refine Runs.ctls 30 rfl ?_; first | refine Runs.cond_t rfl ?_ | refine Runs.cond_f rfl ?_ | ((first | refine Runs.cond_yes rfl ?_ ?_ | refine Runs.cond_nno rfl ?_ ?_); · first | omega | rfl | assumption | (simp only [List.length_map]; omega)) | ((first | refine Runs.cond_no rfl ?_ ?_ | refine Runs.cond_nyes rfl ?_ ?_); · first | omega | rfl | assumption | (simp only [List.length_map]; omega)) | refine Runs.cond_dec rfl (fun h => ?_) (fun h => ?_) | refine Runs.cond_ndec rfl (fun h => ?_) (fun h => ?_) | refine Runs.cond_nb rfl (fun h => ?_) (fun h => ?_) | refine Runs.cond_b rfl (fun h => ?_) (fun h => ?_) | refine Runs.ret (ends_ro hm rfl rfl ?_) | exact Runs.ret (ends_cellR hm rfl rfl rfl (Nat.le_of_ble_eq_true rfl) rfl rfl))
        | refine op_box rfl (tl hn rfl) ?_
        | refine op_storeF rfl rfl rfl rfl (Nat.le_of_ble_eq_true rfl) ?_
        | refine op_alloc (tl hn rfl) ?_
        | refine op_storeN rfl rfl rfl rfl (Nat.le_of_ble_eq_true rfl) ?_
        | refine RunsD.step tabOk hn rfl rfl ?_
        | refine RunsD.nil ?_
        | refine Runs.toDraw 30 mixed hn rfl (by kernel_rfl) rfl ?_
        | ((first | refine RunsL.pe hn rfl rfl rfl ?_ | refine RunsD.pe rfl rfl ?_); first
          | refine ⟨_, pu_add rfl rfl (by omega), ?_⟩
          | refine ⟨_, pu_indexAddr_map rfl rfl (by omega) (by assumption), ?_⟩
          | refine ⟨_, pu_sub rfl rfl (by omega), ?_⟩
          | refine ⟨_, pu_pick_b rfl rfl rfl, ?_⟩
          | refine ⟨_, pu_mul rfl rfl (by omega), ?_⟩
          | refine ⟨_, pu_build rfl rfl rfl rfl rfl rfl, ?_⟩)
        | ((first | refine RunsL.guard_dec rfl rfl rfl ?_ ?_ | refine RunsL.guard_ndec rfl rfl rfl ?_ ?_ | refine RunsL.guard_nb rfl rfl rfl ?_ ?_ | refine RunsL.guard_b rfl rfl rfl ?_ ?_ | refine RunsD.guard_dec rfl rfl rfl ?_ ?_ | refine RunsD.guard_ndec rfl rfl rfl ?_ ?_ | refine RunsD.guard_nb rfl rfl rfl ?_ ?_ | refine RunsD.guard_b rfl rfl rfl ?_ ?_) <;> intro h <;> try (exfalso; first | omega | contradiction | (simp only [List.length_map] at h; omega))))
      all_goals first
        | exact Runs.ctls 30 rfl (Runs.ret (ends_own (rs := []) hm rfl rfl rfl rfl rfl))
        | (exfalso; omega)
  · rw [decide_eq_false hK] at hkn
    rw [cmpL_no fun h => hK h.1]
    refine ac_enter Try.func26 rfl _ Try.ntmps26 (by simp) fun C hn hm => ?_
    repeat' (first
      | refine op_build0 (tl hn rfl) ?_
      | refine RunsL.step tabOk hn rfl ?_
      | refine RunsL.nil ?_
      | refine Runs.toRegion 30 rfl ?_
      | ((first | refine RunsL.pe hn rfl rfl rfl ?_ | refine RunsD.pe rfl rfl ?_); first
        | refine ⟨_, pu_callR hkn rfl, ?_⟩)
      | (refine Runs.ctls 30 rfl ?_; first | refine Runs.cond_t rfl ?_ | refine Runs.cond_f rfl ?_ | ((first | refine Runs.cond_yes rfl ?_ ?_ | refine Runs.cond_nno rfl ?_ ?_); · first | omega | rfl | assumption | (simp only [List.length_map]; omega)) | ((first | refine Runs.cond_no rfl ?_ ?_ | refine Runs.cond_nyes rfl ?_ ?_); · first | omega | rfl | assumption | (simp only [List.length_map]; omega)) | refine Runs.cond_dec rfl (fun h => ?_) (fun h => ?_) | refine Runs.cond_ndec rfl (fun h => ?_) (fun h => ?_) | refine Runs.cond_nb rfl (fun h => ?_) (fun h => ?_) | refine Runs.cond_b rfl (fun h => ?_) (fun h => ?_) | refine Runs.ret (ends_ro hm rfl rfl ?_) | exact Runs.ret (ends_cellR hm rfl rfl rfl (Nat.le_of_ble_eq_true rfl) rfl rfl))
      | refine op_box rfl (tl hn rfl) ?_
      | refine op_storeF rfl rfl rfl rfl (Nat.le_of_ble_eq_true rfl) ?_
      | refine op_alloc (tl hn rfl) ?_
      | refine op_storeN rfl rfl rfl rfl (Nat.le_of_ble_eq_true rfl) ?_
      | refine RunsD.step tabOk hn rfl rfl ?_
      | refine RunsD.nil ?_
      | refine Runs.toDraw 30 mixed hn rfl (by kernel_rfl) rfl ?_
      | ((first | refine RunsL.pe hn rfl rfl rfl ?_ | refine RunsD.pe rfl rfl ?_); first
        | refine ⟨_, pu_add rfl rfl (by omega), ?_⟩
        | refine ⟨_, pu_indexAddr_map rfl rfl (by omega) (by assumption), ?_⟩
        | refine ⟨_, pu_sub rfl rfl (by omega), ?_⟩
        | refine ⟨_, pu_pick_b rfl rfl rfl, ?_⟩
        | refine ⟨_, pu_mul rfl rfl (by omega), ?_⟩
        | refine ⟨_, pu_build rfl rfl rfl rfl rfl rfl, ?_⟩)
      | ((first | refine RunsL.guard_dec rfl rfl rfl ?_ ?_ | refine RunsL.guard_ndec rfl rfl rfl ?_ ?_ | refine RunsL.guard_nb rfl rfl rfl ?_ ?_ | refine RunsL.guard_b rfl rfl rfl ?_ ?_ | refine RunsD.guard_dec rfl rfl rfl ?_ ?_ | refine RunsD.guard_ndec rfl rfl rfl ?_ ?_ | refine RunsD.guard_nb rfl rfl rfl ?_ ?_ | refine RunsD.guard_b rfl rfl rfl ?_ ?_) <;> intro h <;> try (exfalso; first | omega | contradiction | (simp only [List.length_map] at h; omega))))
    exact Runs.ctls 30 rfl (Runs.ret (ends_own (rs := []) hm rfl rfl rfl rfl rfl))
end Go.Proofs.Ytignpklaefibaaa
/- The code of a rule: how long it is. -/
namespace Go.Proofs.Ytignpklaefibaaa
set_option linter.unusedSimpArgs false
set_option linter.unusedVariables false
open Go.RowKit
theorem body_len' {d : Des} {x : Rul} {en : List Int} (s : Int) (hk : KindOk d x) (ht : x.total ≤ 1048576) : (bodyI x s en).length ≤ 6 + 3 * x.total := by
  have etx : x.total = x.name.size + x.bytes.length + (x.names.length + (x.names.map ByteArray.size).sum) + x.tags.length + x.kids.length := rfl
  have hc := chCalls_len x.kids en x.tags.length
  unfold bodyI
  split
  · simp only [List.length_cons, List.length_nil]; omega
  split
  · rw [List.length_map]; omega
  split
  · simp only [List.length_cons, List.length_nil]; omega
  split
  · simp only [List.length_cons, List.length_nil]; omega
  split
  · simp only [List.length_cons, List.length_nil]; omega
  split
  · rw [List.length_map]; omega
  split
  · simp only [List.length_cons, List.length_append, chTags_len]; omega
  split
  · simp only [List.length_cons, List.length_nil]; omega
  split
  · simp only [List.length_cons, List.length_nil]; omega
  · simp only [List.length_cons, List.length_nil]; omega
theorem cmpL_len (d : Des) (hd : dtotal d ≤ 1048576) (r s : Int) (en : List Int) : (cmpL d r s en).length ≤ 3145744 := by
  by_cases h : Kn d r ∧ r ≤ en.length
  · obtain ⟨n, x, rfl, hn', hx⟩ := kn_nat h.1
    rw [cmpL_yes h hx]
    have hxt := sum_mem_le Rul.total (List.mem_of_getElem? hx)
    have et : dtotal d = d.length + (d.map Rul.total).sum := rfl
    have := body_len' s (en := en) (kind_at h.1.1 hx) (by omega)
    unfold ruleI
    rw [List.length_append, List.length_singleton]
    omega
  · rw [cmpL_no h]; simp
end Go.Proofs.Ytignpklaefibaaa
/- The program of a description: both sides. -/
namespace Go.Proofs.Ytignpklaefibaaa
set_option linter.unusedSimpArgs false
set_option linter.unusedVariables false
open Go.RowKit
open AV (Mem Keeps)
set_option maxRecDepth 100000
mutual
/-- The code behind the first two instructions, after j rules; where the rules begin. -/
noncomputable def cdT (d : Des) : Nat → List Ins
  | 0 => []
  | j + 1 => cdT d j ++ cmpL d j ((cdT d j).length + 2 : Nat) (cdE d j)
noncomputable def cdE (d : Des) : Nat → List Int
  | 0 => []
  | j + 1 => cdE d j ++ [(((cdT d j).length + 2 : Nat) : Int)]
end
def cdC (a : Int) (l : List Ins) : List Ins := ⟨9, a, 0⟩ :: ⟨17, 0, 0⟩ :: l
theorem cdC_len (a : Int) (l : List Ins) : (cdC a l).length = l.length + 2 := rfl
theorem cdC_app (a : Int) (l m : List Ins) : cdC a (l ++ m) = cdC a l ++ m := rfl
theorem cdE_len (d : Des) : ∀ j : Nat, (cdE d j).length = j
  | 0 => by simp [cdE]
  | j + 1 => by rw [cdE, List.length_append, cdE_len d j]; rfl
theorem rule_len (d : Des) (hd : dtotal d ≤ 1048576) (j : Nat) (x : Rul) (hx : d[j]? = some x) (s : Int) (en : List Int) : (cmpL d j s en).length ≤ 7 + 3 * x.total := by
  have hxt := sum_mem_le Rul.total (List.mem_of_getElem? hx)
  have et : dtotal d = d.length + (d.map Rul.total).sum := rfl
  by_cases h : Kn d (j : Int) ∧ (j : Int) ≤ en.length
  · rw [cmpL_yes h hx]
    have := body_len' s (en := en) (kind_at h.1.1 hx) (by omega)
    unfold ruleI
    rw [List.length_append, List.length_singleton]
    omega
  · rw [cmpL_no h]; simp
theorem cdT_len (d : Des) (hd : dtotal d ≤ 1048576) : ∀ j : Nat, j ≤ d.length → (cdT d j).length ≤ 7 * j + 3 * ((d.take j).map Rul.total).sum
  | 0, _ => by simp [cdT]
  | j + 1, h => by
    obtain ⟨x, hx⟩ : ∃ x, d[j]? = some x := ⟨_, List.getElem?_eq_getElem (by omega)⟩
    have ih := cdT_len d hd j (by omega)
    have hs := sum_take_next Rul.total hx
    have hr := rule_len d hd j x hx ((cdT d j).length + 2 : Nat) (cdE d j)
    rw [cdT, List.length_append, hs]
    omega
theorem cdT_le (d : Des) (hd : dtotal d ≤ 1048576) (hG : Good' d) (j : Nat) (h : j ≤ d.length) : (cdT d j).length ≤ 3145896 := by
  have h1 := cdT_len d hd j h
  have h2 := sum_take_le Rul.total d j
  have h3 := hG.2.1
  have et : dtotal d = d.length + (d.map Rul.total).sum := rfl
  omega
noncomputable def cdF (d : Des) : Prg := open Classical in if Good' d then ⟨cdC (((cdE d d.length)[d.length - 1]?).getD 0) (cdT d d.length), cdE d d.length⟩ else ⟨[], []⟩
theorem cdF_yes {d : Des} (h : Good' d) : cdF d = ⟨cdC (((cdE d d.length)[d.length - 1]?).getD 0) (cdT d d.length), cdE d d.length⟩ := by unfold cdF; rw [if_pos h]
theorem cdF_no {d : Des} (h : ¬ Good' d) : cdF d = ⟨[], []⟩ := by unfold cdF; rw [if_neg h]
theorem cdF_len (d : Des) (hd : dtotal d ≤ 1048576) : (cdF d).code.length ≤ 3145898 ∧ (cdF d).entries.length ≤ 24 := by
  by_cases h : Good' d
  · rw [cdF_yes h]
    have := cdT_le d hd h d.length (Nat.le_refl _)
    refine ⟨?_, ?_⟩
    · show (cdC _ _).length ≤ _
      rw [cdC_len]; omega
    · show (cdE d d.length).length ≤ 24
      rw [cdE_len]; exact h.2.1
  · rw [cdF_no h]; simp
instance : TB Try.prog 61 [(0, 1), (1, 1)] [.slice none 0 0, .slice none 0 0] := ⟨_, _, _, rfl, rfl, rfl, rfl, by kernel_rfl, by decide⟩
/-- The frame's objects, under way. -/
def cdS (d : Des) (c : List Ins) (e : List Int) : List Ob := [⟨34, 0, [.ro (rulsR d)]⟩, ⟨61, 0, [.nil, .nil]⟩, ⟨86, 3, (c.flatMap insR).map .ro⟩, ⟨61, 0, [.own 2, .own 4]⟩, ⟨3, 1, (e.map RV.int).map .ro⟩]
theorem insRV0 : ∀ l : List Ins, l.flatMap insR = (l.flatMap insV).map .c
  | [] => rfl
  | x :: l => by rw [List.flatMap_cons, List.flatMap_cons, List.map_append, insRV0 l]; rfl
theorem lend_e {C : Ctx} {d : Des} {c : List Ins} {e : List Int} {more : List Ob} : Lends C (cdS d c e ++ more) (.own 4) (intsR e) :=
  Lends.own (o := ⟨3, 1, (e.map RV.int).map .ro⟩) (els := e.map fun z => [RV.int z]) rfl (by
    have : (e.map fun z => [RV.int z]).flatten = e.map RV.int := by induction e with
      | nil => rfl
      | cons a e ih => simp [ih]
    rw [this]) (by simp)
theorem ints_len1 (e : List Int) : ((e.map RV.int).map AV.ro).length = e.length * 1 := by simp
theorem inss_len3 (c : List Ins) : ((c.flatMap insR).map AV.ro).length = c.length * 3 := by rw [List.length_map, insR_flat]
theorem impl_RootOfE (d : Des) (hl : d.length ≤ maxLen) : ACv Try.prog 80 [desR d] (.int ((d.length : Int) - 1)) := by
  have hlm : (d.map rulR).length = d.length := List.length_map ..
  unfold maxLen at hl
  refine ac_enter Try.func80 rfl _ Try.ntmps80 (by simp) fun C hn hm => ?_
  repeat' (first
    | refine RunsL.step tabOk hn rfl ?_
    | refine RunsL.nil ?_
    | refine Runs.toRegion 30 rfl ?_
    | (refine Runs.ctls 30 rfl ?_; first | refine Runs.cond_t rfl ?_ | refine Runs.cond_f rfl ?_ | ((first | refine Runs.cond_yes rfl ?_ ?_ | refine Runs.cond_nno rfl ?_ ?_); · first | omega | rfl | assumption | (simp only [List.length_map]; omega)) | ((first | refine Runs.cond_no rfl ?_ ?_ | refine Runs.cond_nyes rfl ?_ ?_); · first | omega | rfl | assumption | (simp only [List.length_map]; omega)) | refine Runs.cond_dec rfl (fun h => ?_) (fun h => ?_) | refine Runs.cond_ndec rfl (fun h => ?_) (fun h => ?_) | refine Runs.cond_nb rfl (fun h => ?_) (fun h => ?_) | refine Runs.cond_b rfl (fun h => ?_) (fun h => ?_) | refine Runs.ret (ends_ro hm rfl rfl ?_) | exact Runs.ret (ends_cellR hm rfl rfl rfl (Nat.le_of_ble_eq_true rfl) rfl rfl))
    | refine op_box rfl (tl hn rfl) ?_
    | refine op_storeF rfl rfl rfl rfl (Nat.le_of_ble_eq_true rfl) ?_
    | refine op_alloc (tl hn rfl) ?_
    | refine op_storeN rfl rfl rfl rfl (Nat.le_of_ble_eq_true rfl) ?_
    | (refine RunsL.pe hn rfl rfl rfl ?_; first
      | refine ⟨_, pu_add rfl rfl (by omega), ?_⟩
      | refine ⟨_, pu_indexAddr_map rfl rfl (by omega) (by assumption), ?_⟩
      | refine ⟨_, pu_sub rfl rfl (by omega), ?_⟩
      | refine ⟨_, pu_pick_b rfl rfl rfl, ?_⟩
      | refine ⟨_, pu_mul rfl rfl (by omega), ?_⟩
      | refine ⟨_, pu_build rfl rfl rfl rfl rfl rfl, ?_⟩))
  exact rr_int (by rw [hlm])
set_option maxHeartbeats 16000000 in
theorem impl_CompileDescription (d : Des) (ho : DesOk d) (hd : dtotal d ≤ 1048576) : AC Try.prog 35 [desR d] (fun rr => rr = .agg [.row 86 3 ((cdF d).code.flatMap insR), .row 3 1 ((cdF d).entries.map RV.int)]) := by
  have hlm : (d.map rulR).length = d.length := List.length_map ..
  have hv := impl_IsValidDescription d ho hd
  have et : dtotal d = d.length + (d.map Rul.total).sum := rfl
  by_cases hG : Good' d
  · have hl := hG.2.1
    have hl1 := hG.1
    have hr := impl_RootOfE d (by unfold maxLen; omega)
    rw [decide_eq_true hG] at hv
    rw [cdF_yes hG]
    refine ac_enter Try.func35 rfl _ Try.ntmps35 (by simp) fun C hn hm => ?_
    repeat' (first
      | refine op_build (t := 12) rfl rfl rfl rfl rfl (tl hn rfl) ?_
      | refine RunsL.step tabOk hn rfl ?_
      | refine RunsL.nil ?_
      | refine Runs.toRegion 30 rfl ?_
      | ((first | refine RunsL.pe hn rfl rfl rfl ?_ | refine RunsD.pe rfl rfl ?_); first
        | refine ⟨_, pu_callR hv rfl, ?_⟩
        | refine ⟨_, pu_buildS rfl, ?_⟩)
      | (refine Runs.ctls 30 rfl ?_; first | refine Runs.cond_t rfl ?_ | refine Runs.cond_f rfl ?_ | ((first | refine Runs.cond_yes rfl ?_ ?_ | refine Runs.cond_nno rfl ?_ ?_); · first | omega | rfl | assumption | (simp only [List.length_map]; omega)) | ((first | refine Runs.cond_no rfl ?_ ?_ | refine Runs.cond_nyes rfl ?_ ?_); · first | omega | rfl | assumption | (simp only [List.length_map]; omega)) | refine Runs.cond_dec rfl (fun h => ?_) (fun h => ?_) | refine Runs.cond_ndec rfl (fun h => ?_) (fun h => ?_) | refine Runs.cond_nb rfl (fun h => ?_) (fun h => ?_) | refine Runs.cond_b rfl (fun h => ?_) (fun h => ?_) | refine Runs.ret (ends_ro hm rfl rfl ?_) | exact Runs.ret (ends_cellR hm rfl rfl rfl (Nat.le_of_ble_eq_true rfl) rfl rfl))
      | refine op_box rfl (tl hn rfl) ?_
      | refine op_storeF rfl rfl rfl rfl (Nat.le_of_ble_eq_true rfl) ?_
      | refine op_alloc (tl hn rfl) ?_
      | refine op_storeN rfl rfl rfl rfl (Nat.le_of_ble_eq_true rfl) ?_
      | refine RunsD.step tabOk hn rfl rfl ?_
      | refine RunsD.nil ?_
      | refine Runs.toDraw 30 mixed hn rfl (by kernel_rfl) rfl ?_
      | ((first | refine RunsL.pe hn rfl rfl rfl ?_ | refine RunsD.pe rfl rfl ?_); first
        | refine ⟨_, pu_add rfl rfl (by omega), ?_⟩
        | refine ⟨_, pu_indexAddr_map rfl rfl (by omega) (by assumption), ?_⟩
        | refine ⟨_, pu_sub rfl rfl (by omega), ?_⟩
        | refine ⟨_, pu_pick_b rfl rfl rfl, ?_⟩
        | refine ⟨_, pu_mul rfl rfl (by omega), ?_⟩
        | refine ⟨_, pu_build rfl rfl rfl rfl rfl rfl, ?_⟩))
    refine Runs.nilCell 3 1 (e := 3) (sz := 1) (by decide) rfl rfl ?_
    refine Runs.loopN 30 rfl (fun j => [(1, .obj 0 0), (2, .obj 1 0), (3, .obj 3 0), (16, .int (d.length : Int)), (17, .int (j : Int))]) (fun j => cdS d (cdC 0 (cdT d j)) (cdE d j)) (fun _ => True) d.length 0 (Nat.zero_le _) trivial ⟨rfl, rfl, rfl, by simp [look], rfl, trivial⟩ (by rw [show cdT d 0 = [] by simp [cdT], show cdE d 0 = [] by simp [cdE]]; rfl) fun j hj _ next => ?_
    have hcl := cdT_le d hd hG j hj
    have hce := cdE_len d j
    by_cases hlt : j < d.length
    · have hR := impl_CompileRule d ho hd (j : Int) ((cdC 0 (cdT d j)).length : Nat) (cdE d j)
      have hcl1 := cdT_le d hd hG (j + 1) hlt
      rw [cdT, List.length_append] at hcl1
      have hrl : (cmpL d j ((cdC 0 (cdT d j)).length : Nat) (cdE d j)).length ≤ 3145896 := by
        rw [cdC_len]; omega
      have hcc : (cdC 0 (cdT d j)).length = (cdT d j).length + 2 := rfl
      generalize hq : cmpL d j ((cdC 0 (cdT d j)).length : Nat) (cdE d j) = q at hR hrl
      rw [insRV0] at hR
      repeat' (first
        | refine Runs.toDrawT (id := 8) 30 [] [0, 1, 2, 3, 4, 5, 6, 7] 8 [] mixed hn rfl (by kernel_rfl) rfl .nil (by decide) (by decide) (by decide) ?_
        | refine RunsL.junk 3 0 rfl (op_append (t := 31) (i := 2) (n := (cdC 0 (cdT d j)).length) rfl rfl rfl rfl rfl rfl (by rw [insR_flat]) (FreeI.at_ (i := 2) (by repeat' (first | exact trivial | exact onlys_ro _ _ | exact (by decide : (4 : Nat) ≠ 2) | refine ⟨?_, ?_⟩))) (by simp only [List.length_map]; omega) (by simp only [List.length_map]; omega) (tl hn rfl) ?_)
        | refine RunsL.junk 3 1 rfl (op_append (t := 37) (i := 4) (n := (cdE d j).length) rfl rfl rfl rfl rfl rfl (by simp) (FreeI.at_ (i := 4) (by repeat' (first | exact trivial | exact onlys_ro _ _ | exact (by decide : (2 : Nat) ≠ 4) | refine ⟨?_, ?_⟩))) (by simp; omega) (by simp; omega) (tl hn rfl) ?_)
        | refine RunsT.nil ?_
        | refine RunsT.step tabOk rfl rfl (fun _ => rfl) (by decide) ?_
        | refine RunsT.pur (fun _ => pu_len_own (n := (cdC 0 (cdT d j)).length) rfl rfl (inss_len3 _)) (by decide) rfl rfl ?_
        | refine RunsT.pur (fun _ => pu_callSL hR (els := q.map insR) (insRV0 q) (fun x hx => by obtain ⟨y, _, rfl⟩ := List.mem_map.1 hx; rfl) (.cons .ro (.cons .ro (.cons .ro (.cons lend_e .nil))))) (by decide) rfl rfl ?_
        | refine RunsT.pur (fun _ => pu_add rfl rfl (by omega)) (by decide) rfl rfl ?_
        | refine RunsT.pur (fun _ => pu_indexAddr_map rfl rfl (by omega) (by assumption)) (by decide) rfl rfl ?_
        | refine RunsT.alloc (p := 0) rfl inferInstance ?_
        | refine RunsT.alloc (p := 1) rfl inferInstance ?_
        | refine RunsL.step tabOk hn rfl ?_
        | refine RunsL.nil ?_
        | refine Runs.toRegion 30 rfl ?_
        | ((first | refine RunsL.pe hn rfl rfl rfl ?_ | refine RunsD.pe rfl rfl ?_); first
          | refine ⟨_, pu_len_own (n := (cdC 0 (cdT d j)).length) rfl rfl (inss_len3 _), ?_⟩
          | refine ⟨_, pu_callSL hR (els := q.map insR) (insRV0 q) (fun x hx => by obtain ⟨y, _, rfl⟩ := List.mem_map.1 hx; rfl) (.cons .ro (.cons .ro (.cons .ro (.cons lend_e .nil)))), ?_⟩)
        | (refine Runs.ctls 30 rfl ?_; first | refine Runs.cond_t rfl ?_ | refine Runs.cond_f rfl ?_ | ((first | refine Runs.cond_yes rfl ?_ ?_ | refine Runs.cond_nno rfl ?_ ?_); · first | omega | rfl | assumption | (simp only [List.length_map]; omega)) | ((first | refine Runs.cond_no rfl ?_ ?_ | refine Runs.cond_nyes rfl ?_ ?_); · first | omega | rfl | assumption | (simp only [List.length_map]; omega)) | refine Runs.cond_dec rfl (fun h => ?_) (fun h => ?_) | refine Runs.cond_ndec rfl (fun h => ?_) (fun h => ?_) | refine Runs.cond_nb rfl (fun h => ?_) (fun h => ?_) | refine Runs.cond_b rfl (fun h => ?_) (fun h => ?_) | refine Runs.ret (ends_ro hm rfl rfl ?_) | exact Runs.ret (ends_cellR hm rfl rfl rfl (Nat.le_of_ble_eq_true rfl) rfl rfl))
        | refine op_box rfl (tl hn rfl) ?_
        | refine op_storeF rfl rfl rfl rfl (Nat.le_of_ble_eq_true rfl) ?_
        | refine op_alloc (tl hn rfl) ?_
        | refine op_storeN rfl rfl rfl rfl (Nat.le_of_ble_eq_true rfl) ?_
        | refine RunsD.step tabOk hn rfl rfl ?_
        | refine RunsD.nil ?_
        | refine Runs.toDraw 30 mixed hn rfl (by kernel_rfl) rfl ?_
        | ((first | refine RunsL.pe hn rfl rfl rfl ?_ | refine RunsD.pe rfl rfl ?_); first
          | refine ⟨_, pu_add rfl rfl (by omega), ?_⟩
          | refine ⟨_, pu_indexAddr_map rfl rfl (by omega) (by assumption), ?_⟩
          | refine ⟨_, pu_sub rfl rfl (by omega), ?_⟩
          | refine ⟨_, pu_pick_b rfl rfl rfl, ?_⟩
          | refine ⟨_, pu_mul rfl rfl (by omega), ?_⟩
          | refine ⟨_, pu_build rfl rfl rfl rfl rfl rfl, ?_⟩))
      refine next _ _ ⟨rfl, rfl, rfl, rfl, rfl, trivial⟩ hlt trivial ?_
      have e1 : cdT d (j + 1) = cdT d j ++ q := by rw [cdT, ← hq]; rfl
      have e2 : cdE d (j + 1) = cdE d j ++ [((cdC 0 (cdT d j)).length : Int)] := by rw [cdE]; rfl
      rw [e1, e2, cdC_app]
      unfold cdS
      rw [List.flatMap_append, List.map_append (f := RV.int)]
      rfl
    · obtain rfl : j = d.length := by omega
      obtain ⟨z, hz⟩ : ∃ z, (cdE d d.length)[d.length - 1]? = some z := ⟨_, List.getElem?_eq_getElem (by omega)⟩
      have hzz : (((cdE d d.length).map RV.int).map AV.ro)[((d.length : Int) - 1).toNat * 1]? = some (.ro (.int z)) := by
        rw [show ((d.length : Int) - 1).toNat * 1 = d.length - 1 by omega]
        simp [hz]
      rw [hz]
      repeat' (first
        | refine Runs.toDrawT (id := 11) 30 [] [0, 1, 2, 3, 4, 5, 6, 7, 8, 9] 10 [] mixed hn rfl (by kernel_rfl) rfl .nil (by decide) (by decide) (by decide) ?_
        | refine RunsT.nil ?_
        | refine RunsT.step tabOk rfl rfl (fun _ => rfl) (by decide) ?_
        | refine RunsT.pur (fun _ => pu_callR hr rfl) (by decide) rfl rfl ?_
        | refine RunsT.pur (fun _ => pu_indexAddr_own (n := d.length) (sz := 1) rfl rfl rfl rfl (by rw [ints_len1, hce]) (by omega) (by omega)) (by decide) rfl rfl ?_
        | refine RunsT.pur (fun _ => pu_load_obj rfl rfl hzz) (by decide) rfl rfl ?_
        | refine RunsT.pur (fun _ => pu_indexAddr_own (n := (cdC 0 (cdT d d.length)).length) (sz := 3) rfl rfl rfl rfl (inss_len3 _) (by omega) (by rw [cdC_len]; omega)) (by decide) rfl rfl ?_
        | refine RunsT.pur (fun _ => pu_sub rfl rfl (by omega)) (by decide) rfl rfl ?_
        | refine RunsT.pur (fun _ => pu_add rfl rfl (by omega)) (by decide) rfl rfl ?_
        | refine RunsT.pur (fun _ => pu_indexAddr_map rfl rfl (by omega) (by assumption)) (by decide) rfl rfl ?_
        | refine RunsT.alloc (p := 0) rfl inferInstance ?_
        | refine RunsT.alloc (p := 1) rfl inferInstance ?_
        | refine RunsL.step tabOk hn rfl ?_
        | refine RunsL.nil ?_
        | refine Runs.toRegion 30 rfl ?_
        | ((first | refine RunsL.pe hn rfl rfl rfl ?_ | refine RunsD.pe rfl rfl ?_); first
          | refine ⟨_, pu_callR hr rfl, ?_⟩
          | refine ⟨_, pu_indexAddr_own (n := d.length) (sz := 1) rfl rfl rfl rfl (by rw [ints_len1, hce]) (by omega) (by omega), ?_⟩
          | refine ⟨_, pu_load_obj rfl rfl hzz, ?_⟩
          | refine ⟨_, pu_indexAddr_own (n := (cdC 0 (cdT d d.length)).length) (sz := 3) rfl rfl rfl rfl (inss_len3 _) (by omega) (by rw [cdC_len]; omega), ?_⟩
          | refine ⟨_, pu_sub rfl rfl (by omega), ?_⟩)
        | (refine Runs.ctls 30 rfl ?_; first | refine Runs.cond_t rfl ?_ | refine Runs.cond_f rfl ?_ | ((first | refine Runs.cond_yes rfl ?_ ?_ | refine Runs.cond_nno rfl ?_ ?_); · first | omega | rfl | assumption | (simp only [List.length_map]; omega)) | ((first | refine Runs.cond_no rfl ?_ ?_ | refine Runs.cond_nyes rfl ?_ ?_); · first | omega | rfl | assumption | (simp only [List.length_map]; omega)) | refine Runs.cond_dec rfl (fun h => ?_) (fun h => ?_) | refine Runs.cond_ndec rfl (fun h => ?_) (fun h => ?_) | refine Runs.cond_nb rfl (fun h => ?_) (fun h => ?_) | refine Runs.cond_b rfl (fun h => ?_) (fun h => ?_) | refine Runs.ret (ends_ro hm rfl rfl ?_) | exact Runs.ret (ends_cellR hm rfl rfl rfl (Nat.le_of_ble_eq_true rfl) rfl rfl))
        | refine op_box rfl (tl hn rfl) ?_
        | refine op_storeF rfl rfl rfl rfl (Nat.le_of_ble_eq_true rfl) ?_
        | refine op_alloc (tl hn rfl) ?_
        | refine op_storeN rfl rfl rfl rfl (Nat.le_of_ble_eq_true rfl) ?_
        | refine RunsD.step tabOk hn rfl rfl ?_
        | refine RunsD.nil ?_
        | refine Runs.toDraw 30 mixed hn rfl (by kernel_rfl) rfl ?_
        | ((first | refine RunsL.pe hn rfl rfl rfl ?_ | refine RunsD.pe rfl rfl ?_); first
          | refine ⟨_, pu_add rfl rfl (by omega), ?_⟩
          | refine ⟨_, pu_indexAddr_map rfl rfl (by omega) (by assumption), ?_⟩
          | refine ⟨_, pu_sub rfl rfl (by omega), ?_⟩
          | refine ⟨_, pu_pick_b rfl rfl rfl, ?_⟩
          | refine ⟨_, pu_mul rfl rfl (by omega), ?_⟩
          | refine ⟨_, pu_build rfl rfl rfl rfl rfl rfl, ?_⟩))
      exact Runs.ctls 30 rfl (Runs.ret (ends1 hm rfl (.agg [.own 2, .own 4]) ⟨1, 0, _, rfl, rfl, .inr ⟨2, inferInstance, Nat.le_of_ble_eq_true rfl, rfl⟩⟩ (.agg [.row 86 3 ((cdC z (cdT d d.length)).flatMap insR), .row 3 1 ((cdE d d.length).map RV.int)]) [2, 4] ⟨_, rfl, _, _, [2], [4], rfl, rfl, ⟨2, rfl, rfl, rfl⟩, _, _, [4], [], rfl, rfl, ⟨4, rfl, rfl, rfl⟩, rfl, rfl⟩ (by simp) rfl))
  · rw [decide_eq_false hG] at hv
    rw [cdF_no hG]
    refine ac_enter Try.func35 rfl _ Try.ntmps35 (by simp) fun C hn hm => ?_
    repeat' (first
      | refine RunsL.step tabOk hn rfl ?_
      | refine RunsL.nil ?_
      | refine Runs.toRegion 30 rfl ?_
      | ((first | refine RunsL.pe hn rfl rfl rfl ?_ | refine RunsD.pe rfl rfl ?_); first
        | refine ⟨_, pu_callR hv rfl, ?_⟩
        | refine ⟨_, pu_buildS rfl, ?_⟩)
      | (refine Runs.ctls 30 rfl ?_; first | refine Runs.cond_t rfl ?_ | refine Runs.cond_f rfl ?_ | ((first | refine Runs.cond_yes rfl ?_ ?_ | refine Runs.cond_nno rfl ?_ ?_); · first | omega | rfl | assumption | (simp only [List.length_map]; omega)) | ((first | refine Runs.cond_no rfl ?_ ?_ | refine Runs.cond_nyes rfl ?_ ?_); · first | omega | rfl | assumption | (simp only [List.length_map]; omega)) | refine Runs.cond_dec rfl (fun h => ?_) (fun h => ?_) | refine Runs.cond_ndec rfl (fun h => ?_) (fun h => ?_) | refine Runs.cond_nb rfl (fun h => ?_) (fun h => ?_) | refine Runs.cond_b rfl (fun h => ?_) (fun h => ?_) | refine Runs.ret (ends_ro hm rfl rfl ?_) | exact Runs.ret (ends_cellR hm rfl rfl rfl (Nat.le_of_ble_eq_true rfl) rfl rfl))
      | refine op_box rfl (tl hn rfl) ?_
      | refine op_storeF rfl rfl rfl rfl (Nat.le_of_ble_eq_true rfl) ?_
      | refine op_alloc (tl hn rfl) ?_
      | refine op_storeN rfl rfl rfl rfl (Nat.le_of_ble_eq_true rfl) ?_
      | refine RunsD.step tabOk hn rfl rfl ?_
      | refine RunsD.nil ?_
      | refine Runs.toDraw 30 mixed hn rfl (by kernel_rfl) rfl ?_
      | ((first | refine RunsL.pe hn rfl rfl rfl ?_ | refine RunsD.pe rfl rfl ?_); first
        | refine ⟨_, pu_add rfl rfl (by omega), ?_⟩
        | refine ⟨_, pu_indexAddr_map rfl rfl (by omega) (by assumption), ?_⟩
        | refine ⟨_, pu_sub rfl rfl (by omega), ?_⟩
        | refine ⟨_, pu_pick_b rfl rfl rfl, ?_⟩
        | refine ⟨_, pu_mul rfl rfl (by omega), ?_⟩
        | refine ⟨_, pu_build rfl rfl rfl rfl rfl rfl, ?_⟩))
    refine Runs.ctls 30 rfl ?_
    refine Runs.nilCell 1 0 (e := 86) (sz := 3) (by decide) rfl rfl ?_
    refine Runs.nilCell 1 1 (e := 3) (sz := 1) (by decide) rfl rfl ?_
    exact Runs.ret (ends1 hm rfl (.agg [.own 2, .own 3]) ⟨1, 0, _, rfl, rfl, .inr ⟨2, inferInstance, Nat.le_of_ble_eq_true rfl, rfl⟩⟩ (.agg [.row 86 3 [], .row 3 1 []]) [2, 3] ⟨_, rfl, _, _, [2], [3], rfl, rfl, ⟨2, rfl, rfl, rfl⟩, _, _, [3], [], rfl, rfl, ⟨3, rfl, rfl, rfl⟩, rfl, rfl⟩ (by simp) rfl)
set_option maxHeartbeats 16000000 in
theorem spec_CompileDescription (d : Des) (ho : DesOk d) (hd : dtotal d ≤ 1048576) : AC Try.prog 34 [desR d] (fun rr => rr = .agg [.row 86 3 ((cdF d).code.flatMap insR), .row 3 1 ((cdF d).entries.map RV.int)]) := by
  have hlm : (d.map rulR).length = d.length := List.length_map ..
  have hv := spec_IsValidDescription d ho hd
  have et : dtotal d = d.length + (d.map Rul.total).sum := rfl
  by_cases hG : Good' d
  · have hl := hG.2.1
    have hl1 := hG.1
    rw [decide_eq_true hG] at hv
    rw [cdF_yes hG]
    refine ac_enter Try.func34 rfl _ Try.ntmps34 (by simp) fun C hn hm => ?_
    repeat' (first
      | refine op_build (t := 12) rfl rfl rfl rfl rfl (tl hn rfl) ?_
      | refine RunsL.step tabOk hn rfl ?_
      | refine RunsL.nil ?_
      | refine Runs.toRegion 30 rfl ?_
      | ((first | refine RunsL.pe hn rfl rfl rfl ?_ | refine RunsD.pe rfl rfl ?_); first
        | refine ⟨_, pu_callR hv rfl, ?_⟩
        | refine ⟨_, pu_callR (l15Op_ac _ _ _) rfl, ?_⟩
        | refine ⟨_, pu_buildS rfl, ?_⟩)
      | (refine Runs.ctls 30 rfl ?_; first | refine Runs.cond_t rfl ?_ | refine Runs.cond_f rfl ?_ | ((first | refine Runs.cond_yes rfl ?_ ?_ | refine Runs.cond_nno rfl ?_ ?_); · first | omega | rfl | assumption | (simp only [List.length_map]; omega)) | ((first | refine Runs.cond_no rfl ?_ ?_ | refine Runs.cond_nyes rfl ?_ ?_); · first | omega | rfl | assumption | (simp only [List.length_map]; omega)) | refine Runs.cond_dec rfl (fun h => ?_) (fun h => ?_) | refine Runs.cond_ndec rfl (fun h => ?_) (fun h => ?_) | refine Runs.cond_nb rfl (fun h => ?_) (fun h => ?_) | refine Runs.cond_b rfl (fun h => ?_) (fun h => ?_) | refine Runs.ret (ends_ro hm rfl rfl ?_) | exact Runs.ret (ends_cellR hm rfl rfl rfl (Nat.le_of_ble_eq_true rfl) rfl rfl))
      | refine op_box rfl (tl hn rfl) ?_
      | refine op_storeF rfl rfl rfl rfl (Nat.le_of_ble_eq_true rfl) ?_
      | refine op_alloc (tl hn rfl) ?_
      | refine op_storeN rfl rfl rfl rfl (Nat.le_of_ble_eq_true rfl) ?_
      | refine RunsD.step tabOk hn rfl rfl ?_
      | refine RunsD.nil ?_
      | refine Runs.toDraw 30 mixed hn rfl (by kernel_rfl) rfl ?_
      | ((first | refine RunsL.pe hn rfl rfl rfl ?_ | refine RunsD.pe rfl rfl ?_); first
        | refine ⟨_, pu_add rfl rfl (by omega), ?_⟩
        | refine ⟨_, pu_indexAddr_map rfl rfl (by omega) (by assumption), ?_⟩
        | refine ⟨_, pu_sub rfl rfl (by omega), ?_⟩
        | refine ⟨_, pu_pick_b rfl rfl rfl, ?_⟩
        | refine ⟨_, pu_mul rfl rfl (by omega), ?_⟩
        | refine ⟨_, pu_build rfl rfl rfl rfl rfl rfl, ?_⟩))
    refine Runs.nilCell 3 1 (e := 3) (sz := 1) (by decide) rfl rfl ?_
    refine Runs.loopN 30 rfl (fun j => [(1, .obj 0 0), (2, .obj 1 0), (3, .obj 3 0), (4, .int (j : Int))]) (fun j => cdS d (cdC 0 (cdT d j)) (cdE d j)) (fun _ => True) d.length 0 (Nat.zero_le _) trivial ⟨rfl, rfl, rfl, rfl, trivial⟩ (by rw [show cdT d 0 = [] by simp [cdT], show cdE d 0 = [] by simp [cdE]]; rfl) fun j hj _ next => ?_
    have hcl := cdT_le d hd hG j hj
    have hce := cdE_len d j
    by_cases hlt : j < d.length
    · have hR := spec_CompileRule d ho hd (j : Int) ((cdC 0 (cdT d j)).length : Nat) (cdE d j)
      have hcl1 := cdT_le d hd hG (j + 1) hlt
      rw [cdT, List.length_append] at hcl1
      have hrl : (cmpL d j ((cdC 0 (cdT d j)).length : Nat) (cdE d j)).length ≤ 3145896 := by
        rw [cdC_len]; omega
      have hcc : (cdC 0 (cdT d j)).length = (cdT d j).length + 2 := rfl
      generalize hq : cmpL d j ((cdC 0 (cdT d j)).length : Nat) (cdE d j) = q at hR hrl
      rw [insRV0] at hR
      repeat' (first
        | refine Runs.toDrawT (id := 8) 30 [] [0, 1, 2, 3, 4, 5, 6, 7] 8 [] mixed hn rfl (by kernel_rfl) rfl .nil (by decide) (by decide) (by decide) ?_
        | refine RunsL.junk 3 0 rfl (op_append (t := 32) (i := 2) (n := (cdC 0 (cdT d j)).length) rfl rfl rfl rfl rfl rfl (by rw [insR_flat]) (FreeI.at_ (i := 2) (by repeat' (first | exact trivial | exact onlys_ro _ _ | exact (by decide : (4 : Nat) ≠ 2) | refine ⟨?_, ?_⟩))) (by simp only [List.length_map]; omega) (by simp only [List.length_map]; omega) (tl hn rfl) ?_)
        | refine RunsL.junk 3 1 rfl (op_append (t := 38) (i := 4) (n := (cdE d j).length) rfl rfl rfl rfl rfl rfl (by simp) (FreeI.at_ (i := 4) (by repeat' (first | exact trivial | exact onlys_ro _ _ | exact (by decide : (2 : Nat) ≠ 4) | refine ⟨?_, ?_⟩))) (by simp; omega) (by simp; omega) (tl hn rfl) ?_)
        | refine RunsT.nil ?_
        | refine RunsT.step tabOk rfl rfl (fun _ => rfl) (by decide) ?_
        | refine RunsT.pur (fun _ => pu_len_own (n := (cdC 0 (cdT d j)).length) rfl rfl (inss_len3 _)) (by decide) rfl rfl ?_
        | refine RunsT.pur (fun _ => pu_callSL hR (els := q.map insR) (insRV0 q) (fun x hx => by obtain ⟨y, _, rfl⟩ := List.mem_map.1 hx; rfl) (.cons .ro (.cons .ro (.cons .ro (.cons lend_e .nil))))) (by decide) rfl rfl ?_
        | refine RunsT.pur (fun _ => pu_add rfl rfl (by omega)) (by decide) rfl rfl ?_
        | refine RunsT.pur (fun _ => pu_indexAddr_map rfl rfl (by omega) (by assumption)) (by decide) rfl rfl ?_
        | refine RunsT.alloc (p := 0) rfl inferInstance ?_
        | refine RunsT.alloc (p := 1) rfl inferInstance ?_
        | refine RunsL.step tabOk hn rfl ?_
        | refine RunsL.nil ?_
        | refine Runs.toRegion 30 rfl ?_
        | ((first | refine RunsL.pe hn rfl rfl rfl ?_ | refine RunsD.pe rfl rfl ?_); first
          | refine ⟨_, pu_len_own (n := (cdC 0 (cdT d j)).length) rfl rfl (inss_len3 _), ?_⟩
          | refine ⟨_, pu_callSL hR (els := q.map insR) (insRV0 q) (fun x hx => by obtain ⟨y, _, rfl⟩ := List.mem_map.1 hx; rfl) (.cons .ro (.cons .ro (.cons .ro (.cons lend_e .nil)))), ?_⟩)
        | (refine Runs.ctls 30 rfl ?_; first | refine Runs.cond_t rfl ?_ | refine Runs.cond_f rfl ?_ | ((first | refine Runs.cond_yes rfl ?_ ?_ | refine Runs.cond_nno rfl ?_ ?_); · first | omega | rfl | assumption | (simp only [List.length_map]; omega)) | ((first | refine Runs.cond_no rfl ?_ ?_ | refine Runs.cond_nyes rfl ?_ ?_); · first | omega | rfl | assumption | (simp only [List.length_map]; omega)) | refine Runs.cond_dec rfl (fun h => ?_) (fun h => ?_) | refine Runs.cond_ndec rfl (fun h => ?_) (fun h => ?_) | refine Runs.cond_nb rfl (fun h => ?_) (fun h => ?_) | refine Runs.cond_b rfl (fun h => ?_) (fun h => ?_) | refine Runs.ret (ends_ro hm rfl rfl ?_) | exact Runs.ret (ends_cellR hm rfl rfl rfl (Nat.le_of_ble_eq_true rfl) rfl rfl))
        | refine op_box rfl (tl hn rfl) ?_
        | refine op_storeF rfl rfl rfl rfl (Nat.le_of_ble_eq_true rfl) ?_
        | refine op_alloc (tl hn rfl) ?_
        | refine op_storeN rfl rfl rfl rfl (Nat.le_of_ble_eq_true rfl) ?_
        | refine RunsD.step tabOk hn rfl rfl ?_
        | refine RunsD.nil ?_
        | refine Runs.toDraw 30 mixed hn rfl (by kernel_rfl) rfl ?_
        | ((first | refine RunsL.pe hn rfl rfl rfl ?_ | refine RunsD.pe rfl rfl ?_); first
          | refine ⟨_, pu_add rfl rfl (by omega), ?_⟩
          | refine ⟨_, pu_indexAddr_map rfl rfl (by omega) (by assumption), ?_⟩
          | refine ⟨_, pu_sub rfl rfl (by omega), ?_⟩
          | refine ⟨_, pu_pick_b rfl rfl rfl, ?_⟩
          | refine ⟨_, pu_mul rfl rfl (by omega), ?_⟩
          | refine ⟨_, pu_build rfl rfl rfl rfl rfl rfl, ?_⟩))
      refine next _ _ ⟨rfl, rfl, rfl, rfl, trivial⟩ hlt trivial ?_
      have e1 : cdT d (j + 1) = cdT d j ++ q := by rw [cdT, ← hq]; rfl
      have e2 : cdE d (j + 1) = cdE d j ++ [((cdC 0 (cdT d j)).length : Int)] := by rw [cdE]; rfl
      rw [e1, e2, cdC_app]
      unfold cdS
      rw [List.flatMap_append, List.map_append (f := RV.int)]
      rfl
    · obtain rfl : j = d.length := by omega
      obtain ⟨z, hz⟩ : ∃ z, (cdE d d.length)[d.length - 1]? = some z := ⟨_, List.getElem?_eq_getElem (by omega)⟩
      have hzz : (((cdE d d.length).map RV.int).map AV.ro)[((d.length : Int) - 1).toNat * 1]? = some (.ro (.int z)) := by
        rw [show ((d.length : Int) - 1).toNat * 1 = d.length - 1 by omega]
        simp [hz]
      rw [hz]
      repeat' (first
        | refine Runs.toDrawT (id := 10) 30 [] [0, 1, 2, 3, 4, 5, 6, 7, 8, 9, 10, 11] 12 [] mixed hn rfl (by kernel_rfl) rfl .nil (by decide) (by decide) (by decide) ?_
        | refine RunsT.nil ?_
        | refine RunsT.step tabOk rfl rfl (fun _ => rfl) (by decide) ?_
        | refine RunsT.pur (fun _ => pu_len_own (n := d.length) rfl rfl (by rw [ints_len1, hce])) (by decide) rfl rfl ?_
        | refine RunsT.pur (fun _ => pu_indexAddr_own (n := d.length) (sz := 1) rfl rfl rfl rfl (by rw [ints_len1, hce]) (by omega) (by omega)) (by decide) rfl rfl ?_
        | refine RunsT.pur (fun _ => pu_load_obj rfl rfl hzz) (by decide) rfl rfl ?_
        | refine RunsT.pur (fun _ => pu_indexAddr_own (n := (cdC 0 (cdT d d.length)).length) (sz := 3) rfl rfl rfl rfl (inss_len3 _) (by omega) (by rw [cdC_len]; omega)) (by decide) rfl rfl ?_
        | refine RunsT.pur (fun _ => pu_sub rfl rfl (by omega)) (by decide) rfl rfl ?_
        | refine RunsT.pur (fun _ => pu_add rfl rfl (by omega)) (by decide) rfl rfl ?_
        | refine RunsT.pur (fun _ => pu_indexAddr_map rfl rfl (by omega) (by assumption)) (by decide) rfl rfl ?_
        | refine RunsT.alloc (p := 0) rfl inferInstance ?_
        | refine RunsT.alloc (p := 1) rfl inferInstance ?_
        | refine RunsL.step tabOk hn rfl ?_
        | refine RunsL.nil ?_
        | refine Runs.toRegion 30 rfl ?_
        | ((first | refine RunsL.pe hn rfl rfl rfl ?_ | refine RunsD.pe rfl rfl ?_); first
          | refine ⟨_, pu_len_own (n := d.length) rfl rfl (by rw [ints_len1, hce]), ?_⟩
          | refine ⟨_, pu_indexAddr_own (n := d.length) (sz := 1) rfl rfl rfl rfl (by rw [ints_len1, hce]) (by omega) (by omega), ?_⟩
          | refine ⟨_, pu_load_obj rfl rfl hzz, ?_⟩
          | refine ⟨_, pu_indexAddr_own (n := (cdC 0 (cdT d d.length)).length) (sz := 3) rfl rfl rfl rfl (inss_len3 _) (by omega) (by rw [cdC_len]; omega), ?_⟩
          | refine ⟨_, pu_sub rfl rfl (by omega), ?_⟩)
        | (refine Runs.ctls 30 rfl ?_; first | refine Runs.cond_t rfl ?_ | refine Runs.cond_f rfl ?_ | ((first | refine Runs.cond_yes rfl ?_ ?_ | refine Runs.cond_nno rfl ?_ ?_); · first | omega | rfl | assumption | (simp only [List.length_map]; omega)) | ((first | refine Runs.cond_no rfl ?_ ?_ | refine Runs.cond_nyes rfl ?_ ?_); · first | omega | rfl | assumption | (simp only [List.length_map]; omega)) | refine Runs.cond_dec rfl (fun h => ?_) (fun h => ?_) | refine Runs.cond_ndec rfl (fun h => ?_) (fun h => ?_) | refine Runs.cond_nb rfl (fun h => ?_) (fun h => ?_) | refine Runs.cond_b rfl (fun h => ?_) (fun h => ?_) | refine Runs.ret (ends_ro hm rfl rfl ?_) | exact Runs.ret (ends_cellR hm rfl rfl rfl (Nat.le_of_ble_eq_true rfl) rfl rfl))
        | refine op_box rfl (tl hn rfl) ?_
        | refine op_storeF rfl rfl rfl rfl (Nat.le_of_ble_eq_true rfl) ?_
        | refine op_alloc (tl hn rfl) ?_
        | refine op_storeN rfl rfl rfl rfl (Nat.le_of_ble_eq_true rfl) ?_
        | refine RunsD.step tabOk hn rfl rfl ?_
        | refine RunsD.nil ?_
        | refine Runs.toDraw 30 mixed hn rfl (by kernel_rfl) rfl ?_
        | ((first | refine RunsL.pe hn rfl rfl rfl ?_ | refine RunsD.pe rfl rfl ?_); first
          | refine ⟨_, pu_add rfl rfl (by omega), ?_⟩
          | refine ⟨_, pu_indexAddr_map rfl rfl (by omega) (by assumption), ?_⟩
          | refine ⟨_, pu_sub rfl rfl (by omega), ?_⟩
          | refine ⟨_, pu_pick_b rfl rfl rfl, ?_⟩
          | refine ⟨_, pu_mul rfl rfl (by omega), ?_⟩
          | refine ⟨_, pu_build rfl rfl rfl rfl rfl rfl, ?_⟩))
      exact Runs.ctls 30 rfl (Runs.ret (ends1 hm rfl (.agg [.own 2, .own 4]) ⟨1, 0, _, rfl, rfl, .inr ⟨2, inferInstance, Nat.le_of_ble_eq_true rfl, rfl⟩⟩ (.agg [.row 86 3 ((cdC z (cdT d d.length)).flatMap insR), .row 3 1 ((cdE d d.length).map RV.int)]) [2, 4] ⟨_, rfl, _, _, [2], [4], rfl, rfl, ⟨2, rfl, rfl, rfl⟩, _, _, [4], [], rfl, rfl, ⟨4, rfl, rfl, rfl⟩, rfl, rfl⟩ (by simp) rfl))
  · rw [decide_eq_false hG] at hv
    rw [cdF_no hG]
    refine ac_enter Try.func34 rfl _ Try.ntmps34 (by simp) fun C hn hm => ?_
    repeat' (first
      | refine RunsL.step tabOk hn rfl ?_
      | refine RunsL.nil ?_
      | refine Runs.toRegion 30 rfl ?_
      | ((first | refine RunsL.pe hn rfl rfl rfl ?_ | refine RunsD.pe rfl rfl ?_); first
        | refine ⟨_, pu_callR hv rfl, ?_⟩
        | refine ⟨_, pu_buildS rfl, ?_⟩)
      | (refine Runs.ctls 30 rfl ?_; first | refine Runs.cond_t rfl ?_ | refine Runs.cond_f rfl ?_ | ((first | refine Runs.cond_yes rfl ?_ ?_ | refine Runs.cond_nno rfl ?_ ?_); · first | omega | rfl | assumption | (simp only [List.length_map]; omega)) | ((first | refine Runs.cond_no rfl ?_ ?_ | refine Runs.cond_nyes rfl ?_ ?_); · first | omega | rfl | assumption | (simp only [List.length_map]; omega)) | refine Runs.cond_dec rfl (fun h => ?_) (fun h => ?_) | refine Runs.cond_ndec rfl (fun h => ?_) (fun h => ?_) | refine Runs.cond_nb rfl (fun h => ?_) (fun h => ?_) | refine Runs.cond_b rfl (fun h => ?_) (fun h => ?_) | refine Runs.ret (ends_ro hm rfl rfl ?_) | exact Runs.ret (ends_cellR hm rfl rfl rfl (Nat.le_of_ble_eq_true rfl) rfl rfl))
      | refine op_box rfl (tl hn rfl) ?_
      | refine op_storeF rfl rfl rfl rfl (Nat.le_of_ble_eq_true rfl) ?_
      | refine op_alloc (tl hn rfl) ?_
      | refine op_storeN rfl rfl rfl rfl (Nat.le_of_ble_eq_true rfl) ?_
      | refine RunsD.step tabOk hn rfl rfl ?_
      | refine RunsD.nil ?_
      | refine Runs.toDraw 30 mixed hn rfl (by kernel_rfl) rfl ?_
      | ((first | refine RunsL.pe hn rfl rfl rfl ?_ | refine RunsD.pe rfl rfl ?_); first
        | refine ⟨_, pu_add rfl rfl (by omega), ?_⟩
        | refine ⟨_, pu_indexAddr_map rfl rfl (by omega) (by assumption), ?_⟩
        | refine ⟨_, pu_sub rfl rfl (by omega), ?_⟩
        | refine ⟨_, pu_pick_b rfl rfl rfl, ?_⟩
        | refine ⟨_, pu_mul rfl rfl (by omega), ?_⟩
        | refine ⟨_, pu_build rfl rfl rfl rfl rfl rfl, ?_⟩))
    refine Runs.ctls 30 rfl ?_
    refine Runs.nilCell 1 0 (e := 86) (sz := 3) (by decide) rfl rfl ?_
    refine Runs.nilCell 1 1 (e := 3) (sz := 1) (by decide) rfl rfl ?_
    exact Runs.ret (ends1 hm rfl (.agg [.own 2, .own 3]) ⟨1, 0, _, rfl, rfl, .inr ⟨2, inferInstance, Nat.le_of_ble_eq_true rfl, rfl⟩⟩ (.agg [.row 86 3 [], .row 3 1 []]) [2, 3] ⟨_, rfl, _, _, [2], [3], rfl, rfl, ⟨2, rfl, rfl, rfl⟩, _, _, [3], [], rfl, rfl, ⟨3, rfl, rfl, rfl⟩, rfl, rfl⟩ (by simp) rfl)
end Go.Proofs.Ytignpklaefibaaa
/- Values with memory of their own, however deep: what a call makes, kept as plain values of a frame. Over any program. -/
namespace Go.Proofs.Ytignpklaefibaaa
set_option linter.unusedSimpArgs false
set_option linter.unusedVariables false
open Go.RowKit
open AV (Mem Keeps)
inductive OV where
  | c (v : Value)
  | row (e : TypeId) (sz : Nat) (cs : List OV)
  | agg (cs : List OV)
  | tup (vs : List OV)
namespace OV
mutual
/-- The value u is such a value; its rows lie in the blocks bs. -/
def rel (w : World) : OV → Value → List Nat → Prop
  | .c v, u, bs => u = v ∧ bs = []
  | .row e sz cs, u, bs => ∃ n xs bs', cs.length = n * sz ∧ 0 < sz ∧ rels w cs xs bs' ∧ (∀ x ∈ xs, x.oneCell' = true) ∧ w.ownsRow 0 e sz u n xs ∧ bs = u.ownBlock.toList ++ bs'
  | .agg cs, u, bs => ∃ us : Array Value, u = .agg us ∧ rels w cs us.toList bs
  | .tup cs, u, bs => ∃ us : Array Value, u = .tuple us ∧ rels w cs us.toList bs
def rels (w : World) : List OV → List Value → List Nat → Prop
  | [], us, bs => us = [] ∧ bs = []
  | x :: xs, us, bs => ∃ u us' b bs', us = u :: us' ∧ bs = b ++ bs' ∧ rel w x u b ∧ rels w xs us' bs'
end
theorem ownsRow_keep {w w' : World} {e : TypeId} {sz n : Nat} {u : Value} {xs : List Value} (h : w.ownsRow 0 e sz u n xs) (hb : ∀ b ∈ u.ownBlock.toList, w'.heap[b]? = w.heap[b]?) : w'.ownsRow 0 e sz u n xs := by
  obtain ⟨h1, h2⟩ := h
  refine ⟨h1, ?_⟩
  rcases h2 with h2 | ⟨g, cap, cur, rfl, h3, h4, h5⟩
  · exact .inl h2
  · exact .inr ⟨g, cap, cur, rfl, h3, (hb g (by simp [Value.ownBlock])).trans h4, h5⟩
mutual
theorem rel_keep {w w' : World} : ∀ (o : OV) (u : Value) (bs : List Nat), rel w o u bs → (∀ b ∈ bs, w'.heap[b]? = w.heap[b]?) → rel w' o u bs
  | .c v, u, bs, h, _ => by simpa [rel] using h
  | .row e sz cs, u, bs, h, hb => by
    simp only [rel] at h ⊢
    obtain ⟨n, xs, bs', h1, h2, h3, h4, h5, rfl⟩ := h
    exact ⟨n, xs, bs', h1, h2, rels_keep cs xs bs' h3 fun b hm => hb b (List.mem_append.2 (.inr hm)), h4, ownsRow_keep h5 fun b hm => hb b (List.mem_append.2 (.inl hm)), rfl⟩
  | .agg cs, u, bs, h, hb => by
    simp only [rel] at h ⊢
    obtain ⟨us, e, h1⟩ := h
    exact ⟨us, e, rels_keep cs _ bs h1 hb⟩
  | .tup cs, u, bs, h, hb => by
    simp only [rel] at h ⊢
    obtain ⟨us, e, h1⟩ := h
    exact ⟨us, e, rels_keep cs _ bs h1 hb⟩
theorem rels_keep {w w' : World} : ∀ (os : List OV) (us : List Value) (bs : List Nat), rels w os us bs → (∀ b ∈ bs, w'.heap[b]? = w.heap[b]?) → rels w' os us bs
  | [], us, bs, h, _ => by simpa [rels] using h
  | x :: xs, us, bs, h, hb => by
    simp only [rels] at h ⊢
    obtain ⟨u, us', b, bs', e1, rfl, h1, h2⟩ := h
    exact ⟨u, us', b, bs', e1, rfl, rel_keep x u b h1 fun c hm => hb c (List.mem_append.2 (.inl hm)), rels_keep xs us' bs' h2 fun c hm => hb c (List.mem_append.2 (.inr hm))⟩
end
theorem rels_len {w : World} : ∀ (os : List OV) (us : List Value) (bs : List Nat), rels w os us bs → us.length = os.length
  | [], us, bs, h => by simp only [rels] at h; simp [h.1]
  | x :: xs, us, bs, h => by
    simp only [rels] at h
    obtain ⟨u, us', b, bs', rfl, _, _, h2⟩ := h
    simp [rels_len xs us' bs' h2]
theorem rels_c {w : World} : ∀ (vs : List Value), rels w (vs.map .c) vs []
  | [] => by simp [rels]
  | v :: vs => by simp only [List.map_cons, rels]; exact ⟨v, vs, [], [], rfl, rfl, by simp [rel], rels_c vs⟩
theorem rels_append {w : World} : ∀ (os os' : List OV) (us us' : List Value) (bs bs' : List Nat), rels w os us bs → rels w os' us' bs' → rels w (os ++ os') (us ++ us') (bs ++ bs')
  | [], os', us, us', bs, bs', h, h' => by simp only [rels] at h; obtain ⟨rfl, rfl⟩ := h; simpa using h'
  | x :: xs, os', us, us', bs, bs', h, h' => by
    simp only [rels] at h
    obtain ⟨u, ut, b, bt, rfl, rfl, h1, h2⟩ := h
    simp only [List.cons_append, rels]
    exact ⟨u, ut ++ us', b, bt ++ bs', rfl, by rw [List.append_assoc], h1, rels_append xs os' ut us' bt bs' h2 h'⟩
/-! ### .. read as data. -/
mutual
def Seal : OV → RV → Prop
  | .c v, r => r = .c v
  | .row _ sz cs, r => ∃ els, r = .seq sz els ∧ (∀ x ∈ els, x.length = sz) ∧ Seals cs els.flatten
  | .agg cs, r => ∃ rs, r = .agg rs ∧ Seals cs rs
  | .tup cs, r => ∃ rs, r = .tup rs ∧ Seals cs rs
def Seals : List OV → List RV → Prop
  | [], rs => rs = []
  | x :: xs, rs => ∃ r rs', rs = r :: rs' ∧ Seal x r ∧ Seals xs rs'
end
theorem seals_len : ∀ (os : List OV) (rs : List RV), Seals os rs → rs.length = os.length
  | [], rs, h => by simp only [Seals] at h; simp [h]
  | x :: xs, rs, h => by
    simp only [Seals] at h
    obtain ⟨r, rs', rfl, _, h2⟩ := h
    simp [seals_len xs rs' h2]
mutual
theorem seal_rel {w : World} {ok : Nat → Prop} : ∀ (o : OV) (r : RV) (u : Value) (bs : List Nat), Seal o r → rel w o u bs → (∀ b ∈ bs, ok b) → RV.rel w ok r u
  | .c v, r, u, bs, hs, h, _ => by
    simp only [Seal] at hs; subst hs
    simp only [rel] at h
    simpa only [RV.rel] using h.1
  | .row e sz cs, r, u, bs, hs, h, hb => by
    simp only [Seal] at hs
    obtain ⟨els, rfl, hl, hf⟩ := hs
    simp only [rel] at h
    obtain ⟨n, xs, bs', k1, k2, k3, k4, k5, rfl⟩ := h
    have hrs : RV.rels w ok els.flatten xs := seals_rel cs els.flatten xs bs' hf k3 fun b hm => hb b (List.mem_append.2 (.inr hm))
    have hn : n = els.length := by
      have h1 := flatten_len hl
      rw [seals_len cs _ hf, k1] at h1
      exact Nat.eq_of_mul_eq_mul_right k2 h1
    simp only [RV.rel]
    rcases k5.2 with ⟨rfl, h0⟩ | ⟨g, cap, cur, rfl, _, hh, c1, c2, c3, ht⟩
    · exact ⟨none, 0, 0, rfl, by omega, Nat.le_refl _, Nat.zero_le _, fun h => absurd h (by omega)⟩
    · refine ⟨some ⟨g, 0, none⟩, n, cap, rfl, hn, c1, c2, fun hn0 => ⟨g, 0, rfl, (Array.getElem?_eq_some_iff.1 hh).1, hb g (by simp [Value.ownBlock]), ?_⟩⟩
      refine RV.relE_of _ _ _ fun k el hk => ⟨hl el (List.mem_of_getElem? hk), RV.relAt_of _ _ fun j r hj => ?_⟩
      have hjl : j < sz := by have := (List.getElem?_eq_some_iff.1 hj).1; rwa [hl el (List.mem_of_getElem? hk)] at this
      have hfl := flatten_at hl k j el hk hjl
      rw [hj] at hfl
      obtain ⟨x, e1, e2⟩ := RV.rels_at _ xs hrs _ r hfl
      refine ⟨x, ?_, k4 x (List.mem_of_getElem? e1), e2⟩
      rw [cell_of_row w g _ cur _ _ hh, Nat.zero_add]
      rw [← ht, List.getElem?_take] at e1
      split at e1
      · simpa using e1
      · cases e1
  | .agg cs, r, u, bs, hs, h, hb => by
    simp only [Seal] at hs
    obtain ⟨rs, rfl, hf⟩ := hs
    simp only [rel] at h
    obtain ⟨us, rfl, h1⟩ := h
    simp only [RV.rel]
    exact ⟨us, rfl, seals_rel cs rs _ bs hf h1 hb⟩
  | .tup cs, r, u, bs, hs, h, hb => by
    simp only [Seal] at hs
    obtain ⟨rs, rfl, hf⟩ := hs
    simp only [rel] at h
    obtain ⟨us, rfl, h1⟩ := h
    simp only [RV.rel]
    exact ⟨us, rfl, seals_rel cs rs _ bs hf h1 hb⟩
theorem seals_rel {w : World} {ok : Nat → Prop} : ∀ (os : List OV) (rs : List RV) (us : List Value) (bs : List Nat), Seals os rs → rels w os us bs → (∀ b ∈ bs, ok b) → RV.rels w ok rs us
  | [], rs, us, bs, hs, h, _ => by
    simp only [Seals] at hs; subst hs
    simp only [rels] at h
    simp [RV.rels, h.1]
  | x :: xs, rs, us, bs, hs, h, hb => by
    simp only [Seals] at hs
    obtain ⟨r, rs', rfl, hs1, hs2⟩ := hs
    simp only [rels] at h
    obtain ⟨u, us', b, bs', rfl, rfl, h1, h2⟩ := h
    simp only [RV.rels]
    exact ⟨u, us', rfl, seal_rel x r u b hs1 h1 fun c hm => hb c (List.mem_append.2 (.inl hm)), seals_rel xs rs' us' bs' hs2 h2 fun c hm => hb c (List.mem_append.2 (.inr hm))⟩
end
end OV
/-- With this data as arguments the function makes this value, all in new memory. -/
def ACo (P : Program) (f : FuncId) (args : List RV) (ov : OV) : Prop :=
  ∀ (w : World) (us : Array Value), RV.rels w (fun _ => True) args us.toList →
    Calls P f us w fun e w' => ∃ u bs, e = .returned u ∧ OV.rel w' ov u bs ∧ bs.Nodup ∧ (∀ b ∈ bs, w.heap.size ≤ b ∧ b < w'.heap.size) ∧ Below w.heap.size w w'
theorem aco_row {P : Program} {f : FuncId} {args : List RV} {e : TypeId} {sz : Nat} {vs : List Value} (h : AC P f args fun rr => rr = .row e sz (vs.map .c)) : ACo P f args (.row e sz (vs.map .c)) := by
  intro w us hu
  refine (h w (fun _ => True) us (fun _ _ => trivial) hu).mono ?_
  rintro ee w' ⟨u, rr, bs, rfl, rfl, h1, h2, h3, h4⟩
  simp only [RR.rel] at h1
  obtain ⟨n, xs, k1, k2, k3, k4, k5, rfl⟩ := h1
  have e2 := agg_flat (m := ⟨w', fun _ => none, [], fun b => True ∧ b ∉ u.ownBlock.toList⟩) vs xs (RV.rels_mono ⟨Nat.le_refl _, fun b _ hb => ⟨⟨hb, fun i hi => by simp at hi⟩, rfl⟩⟩ _ _ k3)
  subst e2
  refine ⟨u, _, rfl, ?_, h2, h3, h4⟩
  simp only [OV.rel]
  exact ⟨n, xs, [], by simpa using k1, k2, OV.rels_c xs, k4, k5, by simp⟩
/-! ### In a frame. -/
/-- A value whose memory nothing else of the frame speaks of. -/
structure Gh (C : Ctx) (ov : OV) (u : Value) (bs : List Nat) : Prop where
  rel : OV.rel C.w0 ov u bs
  fix : ∀ b ∈ bs, b < C.w0.heap.size ∧ ¬ C.mu b ∧ ¬ C.ok b
/-- From context to context: but for the blocks bs what was there stays. -/
structure Nx (C C' : Ctx) (bs : List Nat) : Prop where
  n : C'.n = C.n
  os : C'.w0.os = C.w0.os
  tape : C'.w0.tape = C.w0.tape
  output : C'.w0.output = C.w0.output
  size : C.w0.heap.size ≤ C'.w0.heap.size
  block : ∀ b, b < C.w0.heap.size → ¬ C.mu b → b ∉ bs → C'.w0.heap[b]? = C.w0.heap[b]?
  mu : ∀ b, C'.mu b → C.mu b ∨ C.w0.heap.size ≤ b
  ok : ∀ b, C'.ok b → C.ok b
theorem Gh.next {C C' : Ctx} {ov : OV} {u : Value} {bs ds : List Nat} (h : Gh C ov u bs) (k : Nx C C' ds) (hd : ∀ b ∈ bs, b ∉ ds) : Gh C' ov u bs := by
  refine ⟨OV.rel_keep ov u bs h.rel fun b hb => k.block b (h.fix b hb).1 (h.fix b hb).2.1 (hd b hb), fun b hb => ⟨Nat.lt_of_lt_of_le (h.fix b hb).1 k.size, fun hm => ?_, fun ho => (h.fix b hb).2.2 (k.ok b ho)⟩⟩
  rcases k.mu b hm with h1 | h1
  · exact (h.fix b hb).2.1 h1
  · have := (h.fix b hb).1; omega
theorem Nx.trans {C C' C'' : Ctx} {bs ds : List Nat} (h : Nx C C' bs) (k : Nx C' C'' ds) : Nx C C'' (bs ++ ds) :=
  ⟨k.n.trans h.n, k.os.trans h.os, k.tape.trans h.tape, k.output.trans h.output, Nat.le_trans h.size k.size, fun b h1 h2 h3 => by
    rw [List.mem_append, not_or] at h3
    refine (k.block b (Nat.lt_of_lt_of_le h1 h.size) (fun hm => ?_) h3.2).trans (h.block b h1 h2 h3.1)
    rcases h.mu b hm with h4 | h4
    · exact h2 h4
    · omega, fun b hm => by
    rcases k.mu b hm with h4 | h4
    · exact h.mu b h4
    · exact .inr (Nat.le_trans h.size h4), fun b ho => h.ok b (k.ok b ho)⟩
/-- A value as a plain value of a frame. -/
theorem rel_constRV {w : World} {ok : Nat → Prop} (u : Value) : RV.rel w ok (constRV u) u := const_rel u
section
variable {P : Program} {C : Ctx} {ops : Array Oper} {rest : List Oper} {k : List Item} {R : Act → World → Prop} {env : Env} {σ : List Ob} {t : Nat} {ty : TypeId} {pos : String} {after : Array Edge} {gd : Option (Nat × Bool)}
/-- A value of the frame serves as this data, whatever it reads. -/
def LendsT (C : Ctx) (σ : List Ob) (v : AV) (r : RV) : Prop := ∀ (m : Mem) (u : Value), Good C m → m.σ = σ → AV.rel m v u → RV.rel m.w (fun _ => True) r u
inductive LendsTL (C : Ctx) (σ : List Ob) : List AV → List RV → Prop
  | nil : LendsTL C σ [] []
  | cons {v : AV} {r : RV} {vs : List AV} {rs : List RV} : LendsT C σ v r → LendsTL C σ vs rs → LendsTL C σ (v :: vs) (r :: rs)
theorem LendsT.of {v : AV} {r : RV} (h : Lends C σ v r) : LendsT C σ v r := fun m u hG hσ hu => h m u (fun _ => True) hG hσ (fun _ _ => trivial) (fun _ _ _ _ => trivial) hu
theorem LendsT.ro {r : RV} : LendsT C σ (.ro r) r := LendsT.of Lends.ro
theorem LendsT.gh {ov : OV} {u : Value} {bs : List Nat} {r r' : RV} (h : Gh C ov u bs) (hs : OV.Seal ov r) (hr : r' = constRV u) : LendsT C σ (.ro r') r := fun m x hG hσ hx => by
  subst hr
  simp only [AV.rel] at hx
  have hxu : x = u := by
    cases u <;> simp only [constRV, RV.rel] at hx <;> try exact hx
    obtain ⟨us, rfl, hr⟩ := hx
    have := agg_flat (m := m) _ _ hr
    rw [← Array.toArray_toList (xs := us), this]
  subst hxu
  refine OV.seal_rel ov r x bs hs (OV.rel_keep ov x bs h.rel fun b hb => hG.frm.block b (h.fix b hb).1 (h.fix b hb).2.1) fun _ _ => trivial
theorem LendsTL.rels {m : Mem} (hG : Good C m) (hσ : m.σ = σ) {vs : List AV} {rs : List RV} (h : LendsTL C σ vs rs) : ∀ us, AV.rels m vs us → RV.rels m.w (fun _ => True) rs us := by
  induction h with
  | nil => intro us hu; simpa [AV.rels, RV.rels] using hu
  | cons h1 _ ih =>
    intro us hu
    simp only [AV.rels] at hu
    obtain ⟨u, us', rfl, k3, k4⟩ := hu
    simp only [RV.rels]
    exact ⟨u, us', rfl, h1 m u hG hσ k3, ih us' k4⟩
/-- A call that reads whatever the frame has, and returns a plain value. -/
theorem pu_callT {f : FuncId} {fn : Func} {xs : Array Operand} {ats : Array TypeId} {args : List RV} {v : Value} [hfn : FN P f fn] (hf : ACv P f args (.c v)) (ha : LendsTL C σ (xs.toList.map (ev env)) args) :
    Pur P C ⟨some t, .call { callee := .value (.func f), args := xs, argTypes := ats }, ty, pos, after, gd⟩ env σ (.ro (.c v)) := by
  refine ⟨fun a m hG hσ hH K Q hK => ?_⟩
  have hr := LendsTL.rels hG hσ ha _ (rels_eval (a := a) (m := m) xs.toList fun x hx => hH x (by simp [Op.operands, Call.operands]; exact .inr (by simpa using hx)))
  unfold Oper.wp
  rw [execOp_call_go, run_call hfn]
  simp only [Oper.upon]
  refine (hf m.w (fun _ => True) _ (fun _ _ => trivial) (by simpa using hr)).mono ?_
  rintro e w' ⟨u, rr, bs, rfl, rfl, h1, _, _, h4⟩
  simp only [RR.rel, RV.rel] at h1
  refine hK u w' h4 ?_
  simp only [AV.rel, RV.rel]
  exact h1.1
/-- A call that makes such a value: the context is a new one from there on. -/
theorem op_callN {f : FuncId} {fn : Func} {xs : Array Operand} {ats : Array TypeId} {args : List RV} {ov : OV} [hfn : FN P f fn] (hf : ACo P f args ov) (ha : LendsTL C σ (xs.toList.map (ev env)) args) (ht : t < C.n)
    (hk : ∀ (C' : Ctx) (u : Value) (bs : List Nat), Nx C C' [] → Gh C' ov u bs → bs.Nodup → (∀ b ∈ bs, C.w0.heap.size ≤ b) → RunsL P C' ops rest k R ⟨(t, .ro (constRV u)) :: env, σ⟩) :
    RunsL P C ops (⟨some t, .call { callee := .value (.func f), args := xs, argTypes := ats }, ty, pos, after, none⟩ :: rest) k R ⟨env, σ⟩ := by
  refine ⟨fun a w ⟨s1, s2, φ, hG, hH⟩ => ?_⟩
  refine wpList_plain rfl fun K hK' => ?_
  have hr := LendsTL.rels hG rfl ha _ (rels_eval (a := a) (m := ⟨w, φ, σ, C.ok⟩) xs.toList fun x hx => ev_rel hH x)
  unfold Oper.wp
  rw [execOp_call_go, run_call hfn]
  simp only [Oper.upon]
  refine (hf w _ (by simpa using hr)).mono ?_
  rintro e w' ⟨u, bs, rfl, h1, h2, h3, h4⟩
  let C' : Ctx := ⟨w', fun b => C.ok b ∧ b ∉ bs, mine φ σ.length, C.n⟩
  have hmine : ∀ b, C'.mu b → C.mu b ∨ C.w0.heap.size ≤ b := fun b ⟨i, hi, hb⟩ => hG.mine i b hi hb
  have hNx : Nx C C' [] := ⟨rfl, h4.os.trans hG.frm.os, h4.tape.trans hG.frm.tape, h4.output.trans hG.frm.output, Nat.le_trans hG.frm.size h4.size, fun b hb hm _ => (h4.block b (Nat.lt_of_lt_of_le hb hG.frm.size)).trans (hG.frm.block b hb hm), hmine, fun b hb => hb.1⟩
  have hlt : ∀ (i g : Nat), i < σ.length → φ i = some g → g < w.heap.size := fun i g hi hg => hG.lt hi hg
  have hGh : Gh C' ov u bs := ⟨h1, fun b hb => ⟨(h3 b hb).2, fun ⟨i, hi, hg⟩ => by have := hlt i b hi hg; have := (h3 b hb).1; omega, fun ho => ho.2 hb⟩⟩
  -- what the frame holds is read as before
  have hK : Keeps (fun _ => True) ⟨w, φ, σ, C.ok⟩ ⟨w', φ, σ, C'.ok⟩ := by
    refine ⟨⟨h4.size, fun b hb ho => ⟨⟨⟨ho.1, fun hm => by have := (h3 b hm).1; simp only at hb; omega⟩, ho.2⟩, h4.block b hb⟩⟩, fun i _ hi => ⟨hi, rfl⟩, fun i ob _ hi => ⟨ob.cs, hi, rfl⟩, fun i g us t _ hi hg hh => ⟨us, (h4.block g (Array.getElem?_eq_some_iff.1 hh).1).trans hh, rfl⟩⟩
  have hG' : Good C' ⟨w', φ, σ, C'.ok⟩ := by
    refine ⟨rfl, hG.inj, fun i o hi => (hG.ob i o hi).keeps hK fun g hg => h4.block g (hlt i g (List.getElem?_eq_some_iff.1 hi).1 hg), fun i g hi hg => .inl ⟨i, hi, hg⟩, ⟨rfl, rfl, rfl, Nat.le_refl _, fun _ _ _ => rfl, fun b hb => ⟨hG.frm.new b (Nat.le_trans hG.frm.size (Nat.le_trans h4.size hb)), fun hm => by have := (h3 b hm).2; have hb' : w'.heap.size ≤ b := hb; omega⟩⟩⟩
  refine hK' _ _ ((hk C' u bs hNx hGh h2 fun b hb => Nat.le_trans hG.frm.size (h3 b hb).1).run _ _ ⟨s1, by simp [Act.put, s2]; rfl, φ, hG', (hH.keeps hK).put (by rw [s2]; exact ht) ?_⟩)
  simp only [AV.rel]
  exact rel_constRV u
end
end Go.Proofs.Ytignpklaefibaaa
/- Values with memory of their own: how a function that makes one is entered and left; plain values behind a row; steps on memory that is known by its block. Over any program. -/
namespace Go.Proofs.Ytignpklaefibaaa
set_option linter.unusedSimpArgs false
set_option linter.unusedVariables false
open Go.RowKit
open AV (Mem Keeps)
/-- A later context of one function. -/
structure Sc (C0 C : Ctx) : Prop where
  below : Below C0.w0.heap.size C0.w0 C.w0
  mu : ∀ b, C.mu b → C0.w0.heap.size ≤ b
theorem Sc.start {C : Ctx} (hm : ∀ b, ¬ C.mu b) : Sc C C := ⟨Below.refl _ _, fun b h => absurd h (hm b)⟩
theorem Sc.next {C0 C C' : Ctx} {bs : List Nat} (h : Sc C0 C) (k : Nx C C' bs) (hb : ∀ b ∈ bs, C0.w0.heap.size ≤ b) : Sc C0 C' := by
  refine ⟨⟨k.os.trans h.below.os, k.tape.trans h.below.tape, k.output.trans h.below.output, Nat.le_trans h.below.size k.size, fun b hlt => ?_⟩, fun b hm => ?_⟩
  · refine (k.block b (Nat.lt_of_lt_of_le hlt h.below.size) (fun hm => ?_) fun hm => ?_).trans (h.below.block b hlt)
    · have := h.mu b hm; omega
    · have := hb b hm; omega
  · rcases k.mu b hm with h1 | h1
    · exact h.mu b h1
    · exact Nat.le_trans h.below.size h1
theorem Sc.end_ {C0 C : Ctx} {m : Mem} (h : Sc C0 C) (hG : Good C m) : Below C0.w0.heap.size C0.w0 m.w :=
  ⟨hG.frm.os.trans h.below.os, hG.frm.tape.trans h.below.tape, hG.frm.output.trans h.below.output, Nat.le_trans h.below.size hG.frm.size, fun b hlt => (hG.frm.block b (Nat.lt_of_lt_of_le hlt h.below.size) (fun hm => by have := h.mu b hm; omega)).trans (h.below.block b hlt)⟩
def EndsO (P : Program) (C0 : Ctx) (fn : Func) (ov : OV) (a : Act) (w : World) : Prop :=
  a.defers = [] ∧ ∃ v, (results fn a.tmps).run P w = .ok v w ∧ ∃ bs, OV.rel w ov v bs ∧ bs.Nodup ∧ (∀ b ∈ bs, C0.w0.heap.size ≤ b ∧ b < w.heap.size) ∧ Below C0.w0.heap.size C0.w0 w
theorem aco_enter {P : Program} {f : FuncId} {fn : Func} {c : Code} {args : List RV} {ov : OV} (hf : P.funcs[f]? = some fn) (hb : fn.body = some c) (n : Nat) (hn : fn.ntmps = n) (hl : args.length ≤ n)
    (h : ∀ C : Ctx, C.n = n → (∀ b, ¬ C.mu b) → Runs P C [.code c] (EndsO P C fn ov) ⟨startEnv 0 args, []⟩) : ACo P f args ov := by
  intro w us hu
  have hlen := RV.rels_len args _ hu
  refine calls_of_fin hf hb ?_
  have hs : Sim ⟨w, fun _ => True, fun _ => False, n⟩ ⟨startEnv 0 args, []⟩ { tmps := us ++ Array.replicate (fn.ntmps - us.size) undef, defers := [] } w := by
    refine ⟨rfl, by simp at hlen ⊢; omega, fun _ => none, ⟨rfl, fun i j g hi => by simp at hi, fun i o hi => by simp at hi, fun i g hi => by simp at hi, ⟨rfl, rfl, rfl, Nat.le_refl _, fun _ _ _ => rfl, fun _ _ => trivial⟩⟩, fun t => ?_⟩
    rw [start_look]
    simp only [Nat.zero_le, if_true, Nat.sub_zero]
    cases hr : args[t]? with
    | none => simp [AV.rel]
    | some r =>
      obtain ⟨u, e1, e2⟩ := RV.rels_at args _ hu t r hr
      have ht : t < us.size := by have := (List.getElem?_eq_some_iff.1 e1).1; simpa using this
      simp only [AV.rel]
      have : (us ++ Array.replicate (fn.ntmps - us.size) undef).getD t undef = u := by
        rw [Array.getD_eq_getD_getElem?, Array.getElem?_append_left ht]
        have : us[t]? = some u := by simpa using e1
        simp [this]
      rw [this]
      exact RV.rel_mono ⟨Nat.le_refl _, fun b _ hb => ⟨⟨hb, fun i hi => by simp at hi⟩, rfl⟩⟩ r u e2
  have hr := (h ⟨w, fun _ => True, fun _ => False, n⟩ rfl (fun _ h => h)).run _ w hs
  intro b cs
  obtain ⟨a', w', todo, ⟨hd, v, hv, bs, h1, h2, h3, h4⟩, hst⟩ := hr b cs
  exact ⟨a', w', todo, ⟨hd, v, hv, v, bs, rfl, h1, h2, h3, h4⟩, hst⟩
theorem rels_ac {m : Mem} : ∀ (vs us : List Value), AV.rels m (vs.map fun v => .ro (.c v)) us → us = vs
  | [], us, h => by simpa [AV.rels] using h
  | v :: vs, us, h => by
    simp only [List.map_cons, AV.rels, AV.rel, RV.rel] at h
    obtain ⟨u, us', rfl, rfl, h2⟩ := h
    rw [rels_ac vs us' h2]
section
variable {P : Program} {C C0 : Ctx} {S : St} {fn : Func}
/-- It ends with a struct whose cells are plain values of the frame. -/
theorem endsO_cell {p ty n i : Nat} {o : Ob} {us : List Value} {ovs : List OV} {bs : List Nat} [ht : TN P ty n] (hsc : Sc C0 C) (hr : fn.results = #[.cell p ty]) (h1 : look S.env p = .obj i 0) (h2 : S.σ[i]? = some o) (h3 : o.cs = us.map fun u => .ro (.c u)) (hl : us.length = n)
    (hov : OV.rels C.w0 ovs us bs) (hfix : ∀ b ∈ bs, b < C.w0.heap.size ∧ ¬ C.mu b) (hnd : bs.Nodup) (hnew : ∀ b ∈ bs, C0.w0.heap.size ≤ b) : ∀ a w, Sim C S a w → EndsO P C0 fn (.agg ovs) a w := by
  rintro a w ⟨s1, s2, φ, hG, hH⟩
  have hcs : o.cs.length = n := by rw [h3, List.length_map, hl]
  obtain ⟨u, k1, k2⟩ := resV_run (P := P) (x := .cell p ty) (v := .agg ((o.cs.drop 0).take n)) hG hH (by simp only [ResV]; exact ⟨i, 0, o, h1, h2, .inr ⟨n, ht, by omega, rfl⟩⟩)
  rw [List.drop_zero, List.take_of_length_le (by omega), h3] at k2
  simp only [AV.rel] at k2
  obtain ⟨vs, rfl, hvs⟩ := k2
  have e := rels_ac us _ hvs
  refine ⟨s1, .agg vs, by rw [results_eq, hr]; simp [k1], bs, ?_, hnd, fun b hb => ⟨hnew b hb, Nat.lt_of_lt_of_le (hfix b hb).1 hG.frm.size⟩, hsc.end_ hG⟩
  simp only [OV.rel]
  exact ⟨vs, rfl, by rw [e]; exact OV.rels_keep ovs us bs hov fun b hb => hG.frm.block b (hfix b hb).1 (hfix b hb).2⟩
/-- It ends with a row of the frame's own, whose cells are plain values of the frame. -/
theorem endsO_row {t i sz : Nat} {e : TypeId} {us : List Value} {ovs : List OV} {bs : List Nat} (hsc : Sc C0 C) (hr : fn.results = #[.tmp t]) (h1 : look S.env t = .own i) (h2 : S.σ[i]? = some ⟨e, sz, us.map fun u => .ro (.c u)⟩)
    (hov : OV.rels C.w0 ovs us bs) (hfix : ∀ b ∈ bs, b < C.w0.heap.size ∧ ¬ C.mu b) (hnd : bs.Nodup) (hnew : ∀ b ∈ bs, C0.w0.heap.size ≤ b) : ∀ a w, Sim C S a w → EndsO P C0 fn (.row e sz ovs) a w := by
  rintro a w ⟨s1, s2, φ, hG, hH⟩
  have hu := hH t
  rw [h1] at hu
  have h2' : (⟨w, φ, S.σ, C.ok⟩ : Mem).σ[i]? = some ⟨e, sz, (us.map RV.c).map .ro⟩ := by rw [List.map_map]; exact h2
  obtain ⟨n, xs, k1, k2, k3, k4, k5, k6⟩ := row_own (cs := us.map .c) hG h2' hu
  have e1 := agg_flat (m := ⟨w, φ, S.σ, C.ok⟩) us xs k3
  subst e1
  have hkeep := OV.rels_keep (w' := w) ovs xs bs hov fun b hb => hG.frm.block b (hfix b hb).1 (hfix b hb).2
  have hil : i < S.σ.length := (List.getElem?_eq_some_iff.1 h2).1
  refine ⟨s1, a.tmps.getD t undef, by rw [results_eq, hr]; simp [resRun], (a.tmps.getD t undef).ownBlock.toList ++ bs, ?_, ?_, fun b hb => ?_, hsc.end_ hG⟩
  · simp only [OV.rel]
    exact ⟨n, xs, bs, by rw [← OV.rels_len ovs xs bs hov]; simpa using k1, k2, hkeep, k4, k5, rfl⟩
  · rw [k6, List.nodup_append]
    refine ⟨(show ∀ o : Option Nat, o.toList.Nodup from fun o => by cases o <;> simp) _, hnd, fun x hx y hy => ?_⟩
    rintro rfl
    have hx' : φ i = some x := by simpa [Option.mem_toList] using hx
    rcases hG.mine i x hil hx' with h | h
    · exact (hfix x hy).2 h
    · have := (hfix x hy).1; omega
  · rcases List.mem_append.1 hb with hb | hb
    · rw [k6] at hb
      have hb' : φ i = some b := by simpa [Option.mem_toList] using hb
      refine ⟨?_, hG.lt hil hb'⟩
      rcases hG.mine i b hil hb' with h | h
      · exact hsc.mu b h
      · exact Nat.le_trans hsc.below.size h
    · exact ⟨hnew b hb, Nat.lt_of_lt_of_le (hfix b hb).1 hG.frm.size⟩
end
/-! ### Results of plain cells. -/
mutual
def RO : RR → OV → Prop
  | .ro r, o => ∃ v, r = .c v ∧ o = .c v
  | .row e sz cs, o => ∃ vs : List Value, cs = vs.map .c ∧ o = .row e sz (vs.map .c)
  | .agg rs, o => ∃ os, o = .agg os ∧ ROs rs os
  | .tup rs, o => ∃ os, o = .tup os ∧ ROs rs os
def ROs : List RR → List OV → Prop
  | [], os => os = []
  | x :: xs, os => ∃ o os', os = o :: os' ∧ RO x o ∧ ROs xs os'
end
mutual
theorem ro_rel {w : World} {ok : Nat → Prop} : ∀ (rr : RR) (o : OV) (u : Value) (bs : List Nat), RO rr o → rr.rel w ok u bs → OV.rel w o u bs
  | .ro r, o, u, bs, h, hr => by
    simp only [RO] at h
    obtain ⟨v, rfl, rfl⟩ := h
    simp only [RR.rel, RV.rel] at hr
    simp only [OV.rel]
    exact hr
  | .row e sz cs, o, u, bs, h, hr => by
    simp only [RO] at h
    obtain ⟨vs, rfl, rfl⟩ := h
    simp only [RR.rel] at hr
    obtain ⟨n, xs, k1, k2, k3, k4, k5, rfl⟩ := hr
    have e2 := agg_flat (m := ⟨w, fun _ => none, [], ok⟩) vs xs (RV.rels_mono ⟨Nat.le_refl _, fun b _ hb => ⟨⟨hb, fun i hi => by simp at hi⟩, rfl⟩⟩ _ _ k3)
    subst e2
    simp only [OV.rel]
    exact ⟨n, xs, [], by simpa using k1, k2, OV.rels_c xs, k4, k5, by simp⟩
  | .agg rs, o, u, bs, h, hr => by
    simp only [RO] at h
    obtain ⟨os, rfl, h⟩ := h
    simp only [RR.rel] at hr
    obtain ⟨us, rfl, hr⟩ := hr
    simp only [OV.rel]
    exact ⟨us, rfl, ros_rel rs os _ bs h hr⟩
  | .tup rs, o, u, bs, h, hr => by
    simp only [RO] at h
    obtain ⟨os, rfl, h⟩ := h
    simp only [RR.rel] at hr
    obtain ⟨us, rfl, hr⟩ := hr
    simp only [OV.rel]
    exact ⟨us, rfl, ros_rel rs os _ bs h hr⟩
theorem ros_rel {w : World} {ok : Nat → Prop} : ∀ (rs : List RR) (os : List OV) (us : List Value) (bs : List Nat), ROs rs os → RR.rels w ok rs us bs → OV.rels w os us bs
  | [], os, us, bs, h, hr => by
    simp only [ROs] at h; subst h
    simpa [RR.rels, OV.rels] using hr
  | x :: xs, os, us, bs, h, hr => by
    simp only [ROs] at h
    obtain ⟨o, os', rfl, h1, h2⟩ := h
    simp only [RR.rels] at hr
    obtain ⟨u, us', b, bs', rfl, rfl, k1, k2⟩ := hr
    simp only [OV.rels]
    exact ⟨u, us', b, bs', rfl, rfl, ro_rel x o u b h1 k1, ros_rel xs os' us' bs' h2 k2⟩
end
theorem aco_of {P : Program} {f : FuncId} {args : List RV} {rr : RR} {ov : OV} (h : AC P f args fun r => r = rr) (hr : RO rr ov) : ACo P f args ov := by
  intro w us hu
  refine (h w (fun _ => True) us (fun _ _ => trivial) hu).mono ?_
  rintro e w' ⟨u, _, bs, rfl, rfl, h1, h2, h3, h4⟩
  exact ⟨u, bs, rfl, ro_rel _ _ _ _ hr h1, h2, h3, h4⟩
section
variable {P : Program} {C : Ctx} {env : Env} {σ : List Ob} {t : Nat} {ty : TypeId} {pos : String} {after : Array Edge} {gd : Option (Nat × Bool)}
/-- A part of several results, as a plain value of the frame. -/
theorem pu_extractC {x : Operand} {j : Nat} {vs : Array Value} {v : Value} (hx : ev env x = .ro (.c (.tuple vs))) (hj : vs[j]? = some v) : Pur P C ⟨some t, .extract x j, ty, pos, after, gd⟩ env σ (.ro (constRV v)) :=
  Pur.of (fun a m hG hσ hH => ⟨v, by simp [execOp, ev_c (hH x (by simp [Op.operands, Call.operands])) hx, Instr.extract, hj], by simp only [AV.rel]; exact rel_constRV v⟩)
end
theorem row_slice {w : World} {e : TypeId} {sz : Nat} {cs : List OV} {u : Value} {bs : List Nat} (h : OV.rel w (.row e sz cs) u bs) : ∃ A n c, u = .slice A n c := by
  simp only [OV.rel] at h
  obtain ⟨n, xs, bs', _, _, _, _, h5, _⟩ := h
  rcases h5.2 with ⟨rfl, _⟩ | ⟨g, cap, cur, rfl, _⟩
  · exact ⟨_, _, _, rfl⟩
  · exact ⟨_, _, _, rfl⟩
end Go.Proofs.Ytignpklaefibaaa
/- Marks: functions that write into a value that they are handed. Steps on memory that is known by its block. Over any program. -/
namespace Go.Proofs.Ytignpklaefibaaa
set_option linter.unusedSimpArgs false
set_option linter.unusedVariables false
open Go.RowKit
open AV (Mem Keeps)
/-- A block whose cells are known; nothing else of the frame speaks of it. -/
structure Bk (C : Ctx) (g : Nat) (us : Array Value) (e : TypeId) : Prop where
  cells : C.w0.heap[g]? = some (.cells us e (0, 0))
  mu : ¬ C.mu g
  ok : ¬ C.ok g
theorem Bk.lt {C : Ctx} {g : Nat} {us : Array Value} {e : TypeId} (h : Bk C g us e) : g < C.w0.heap.size := (Array.getElem?_eq_some_iff.1 h.cells).1
theorem Bk.now {C : Ctx} {m : Mem} {g : Nat} {us : Array Value} {e : TypeId} (h : Bk C g us e) (hG : Good C m) : m.w.heap[g]? = some (.cells us e (0, 0)) := (hG.frm.block g h.lt h.mu).trans h.cells
theorem Bk.next {C C' : Ctx} {g : Nat} {us : Array Value} {e : TypeId} {ds : List Nat} (h : Bk C g us e) (k : Nx C C' ds) (hd : g ∉ ds) : Bk C' g us e :=
  ⟨(k.block g h.lt h.mu hd).trans h.cells, fun hm => (k.mu g hm).elim h.mu fun h1 => by have := h.lt; omega, fun ho => h.ok (k.ok g ho)⟩
section
variable {P : Program} {C : Ctx} {ops : Array Oper} {rest : List Oper} {k : List Item} {R : Act → World → Prop} {env : Env} {σ : List Ob} {t : Nat} {ty : TypeId} {pos : String} {after : Array Edge} {gd : Option (Nat × Bool)}
theorem pu_lenC {tt : TypeId} {e : TypeId} {z : Value} {sz bytes : Nat} {x : Operand} {A : Option Addr} {n cap : Nat} [hs : SL P tt e z sz bytes] (hx : ev env x = .ro (.c (.slice A n cap))) :
    Pur P C ⟨some t, .call { callee := .builtin .len, args := #[x], argTypes := #[tt] }, ty, pos, after, gd⟩ env σ (.int (n : Int)) :=
  Pur.of (fun a m hG hσ hH => ⟨.int .i64 n, by simp [execOp, resolve, invoke, builtin, ev_c (hH _ (by simp [Op.operands, Call.operands])) hx, Builtin.len_, run_underlying hs.el.ht, goInt], by simp [AV.rel, RV.rel]⟩)
theorem pu_indexC {tt : TypeId} {e : TypeId} {z : Value} {sz bytes : Nat} {x ix : Operand} {kd : IntKind} {p : Int} {g n cap : Nat} [hs : SL P tt e z sz bytes]
    (hx : ev env x = .ro (.c (.slice (some ⟨g, 0, none⟩) n cap))) (hi : ev env ix = .ro (.c (.int kd p))) (h0 : 0 ≤ p) (hlt : p < n) : Pur P C ⟨some t, .indexAddr tt x ix, ty, pos, after, gd⟩ env σ (.ro (.c (.pointer (some ⟨g, p.toNat * sz, none⟩)))) :=
  Pur.of (fun a m hG hσ hH => by
    obtain ⟨ii, i1, i2, i3, i4⟩ := hs.el.hi
    refine ⟨.pointer (some ⟨g, 0 + p.toNat * sz, none⟩), ?_, by simp [AV.rel, RV.rel]⟩
    have : (0 ≤ p ∧ p < (n : Int)) := by omega
    simp [execOp, ev_c (hH _ (by simp [Op.operands, Call.operands])) hx, ev_c (hH _ (by simp [Op.operands, Call.operands])) hi, Instr.indexAt, asIntOf, run_underlying hs.el.ht, this, sizeOf, typeInfo, i1, i3, Addr.add_lit])
theorem pu_fieldC {s : TypeId} {x : Operand} {f off g o : Nat} [FA P s f off] (hx : ev env x = .ro (.c (.pointer (some ⟨g, o, none⟩)))) : Pur P C ⟨some t, .fieldAddr s x f, ty, pos, after, gd⟩ env σ (.ro (.c (.pointer (some ⟨g, o + off, none⟩)))) :=
  Pur.of (fun a m hG hσ hH => ⟨.pointer (some ⟨g, o + off, none⟩), by simp [execOp, ev_c (hH _ (by simp [Op.operands, Call.operands])) hx, run_fieldAt], by simp [AV.rel, RV.rel]⟩)
theorem pu_loadC {tt e : TypeId} {x : Operand} {g o : Nat} {us : Array Value} {v : Value} [T1 P tt] (hx : ev env x = .ro (.c (.pointer (some ⟨g, o, none⟩)))) (hb : Bk C g us e) (hv : us[o]? = some v) : Pur P C ⟨some t, .load tt x, ty, pos, after, gd⟩ env σ (.ro (.c v)) :=
  Pur.of (fun a m hG hσ hH => by
    have hc : m.w.cell? ⟨g, o, none⟩ = some v := by rw [cell_of_row _ g o us _ _ (hb.now hG)]; exact hv
    exact ⟨v, by simp [execOp, ev_c (hH _ (by simp [Op.operands, Call.operands])) hx, Instr.loadAt, Instr.sureAddr, loadVar, run_isAgg1, run_load, hc], by simp [AV.rel, RV.rel]⟩)
/-- The context from a world on, of which the blocks bs are known and nothing else speaks. -/
theorem new_ctx {w w' : World} {φ : Nat → Option Nat} {bs : List Nat} (hG : Good C ⟨w, φ, σ, C.ok⟩) (hb : ∀ b ∈ bs, b < w.heap.size ∧ ¬ C.ok b ∧ ∀ i, i < σ.length → φ i ≠ some b)
    (h1 : w'.os = w.os) (h2 : w'.tape = w.tape) (h3 : w'.output = w.output) (h4 : w.heap.size ≤ w'.heap.size) (h5 : ∀ b, b < w.heap.size → b ∉ bs → w'.heap[b]? = w.heap[b]?) :
    Nx C ⟨w', C.ok, mine φ σ.length, C.n⟩ bs ∧ Good ⟨w', C.ok, mine φ σ.length, C.n⟩ ⟨w', φ, σ, C.ok⟩ ∧ Keeps (fun _ => True) ⟨w, φ, σ, C.ok⟩ ⟨w', φ, σ, C.ok⟩ := by
  have hlt : ∀ (i g : Nat), i < σ.length → φ i = some g → g < w.heap.size := fun i g hi hg => hG.lt hi hg
  have hsame : ∀ i g, i < σ.length → φ i = some g → w'.heap[g]? = w.heap[g]? := fun i g hi hg => h5 g (hlt i g hi hg) fun hm => (hb g hm).2.2 i hi hg
  have hK : Keeps (fun _ => True) ⟨w, φ, σ, C.ok⟩ ⟨w', φ, σ, C.ok⟩ :=
    ⟨⟨h4, fun b hlt ho => ⟨ho, h5 b hlt fun hm => (hb b hm).2.1 ho.1⟩⟩, fun i _ hi => ⟨hi, rfl⟩, fun i ob _ hi => ⟨ob.cs, hi, rfl⟩, fun i g us t _ hi hg hh => ⟨us, (hsame i g hi hg).trans hh, rfl⟩⟩
  refine ⟨⟨rfl, h1.trans hG.frm.os, h2.trans hG.frm.tape, h3.trans hG.frm.output, Nat.le_trans hG.frm.size h4, fun b hb1 hm hn => (h5 b (Nat.lt_of_lt_of_le hb1 hG.frm.size) hn).trans (hG.frm.block b hb1 hm), fun b ⟨i, hi, hg⟩ => hG.mine i b hi hg, fun b hb => hb⟩, ?_, hK⟩
  exact ⟨rfl, hG.inj, fun i o hi => (hG.ob i o hi).keeps hK fun g hg => hsame i g (List.getElem?_eq_some_iff.1 hi).1 hg, fun i g hi hg => .inl ⟨i, hi, hg⟩, ⟨rfl, rfl, rfl, Nat.le_refl _, fun _ _ _ => rfl, fun b hb => hG.frm.new b (Nat.le_trans hG.frm.size (Nat.le_trans h4 hb))⟩⟩
/-- A store into such a block: the context is a new one from there on. -/
theorem op_storeC {tt e : TypeId} {x y : Operand} {g o : Nat} {us : Array Value} {v : Value} [T1 P tt] (hx : ev env x = .ro (.c (.pointer (some ⟨g, o, none⟩)))) (hy : ev env y = .ro (.c v)) (h1 : v.oneCell' = true) (hb : Bk C g us e) (hlt : o < us.size)
    (hk : ∀ C', Nx C C' [g] → Bk C' g (us.setIfInBounds o v) e → RunsL P C' ops rest k R ⟨env, σ⟩) : RunsL P C ops (⟨none, .store tt x y, ty, pos, after, none⟩ :: rest) k R ⟨env, σ⟩ := by
  refine ⟨fun a w ⟨s1, s2, φ, hG, hH⟩ => ?_⟩
  refine wpList_plain rfl fun K hK' => ?_
  have ex : a.eval x = .pointer (some ⟨g, o, none⟩) := ev_c (m := ⟨w, φ, σ, C.ok⟩) (ev_rel hH x) hx
  have ey : a.eval y = v := ev_c (m := ⟨w, φ, σ, C.ok⟩) (ev_rel hH y) hy
  have hh := hb.now hG
  have hc : w.cell? ⟨g, o, none⟩ = some us[o] := by rw [cell_of_row _ g o us _ _ hh]; exact Array.getElem?_eq_getElem hlt
  have hf : w.frozen? ⟨g, o, none⟩ = false := frozen_of_row w g o us e hh
  have hcell : v.cells = #[v] := by cases v <;> simp_all [Value.cells, Value.oneCell']
  have hr : (execOp a.eval (⟨none, .store tt x y, ty, pos, after, none⟩ : Oper)).run P w = .ok .skip (w.setCell ⟨g, o, none⟩ v) := by
    simp [execOp, ex, ey, Instr.storeAt, Instr.sureAddr, storeVar, hcell, run_size1 (P := P) (t := tt), storeCells, Addr.add_lit, run_store P w ⟨g, o, none⟩ v .plain h1, hc, hf]
  unfold Oper.wp
  rw [hr]
  simp only [Oper.upon]
  have hmine : ∀ i, i < σ.length → φ i ≠ some g := fun i hi hg => by
    rcases hG.mine i g hi hg with h | h
    · exact hb.mu h
    · have := hb.lt; omega
  obtain ⟨nx, hG', hKp⟩ := new_ctx (w' := w.setCell ⟨g, o, none⟩ v) (bs := [g]) hG (fun b hm => by
    rw [List.mem_singleton] at hm; subst hm
    exact ⟨Nat.lt_of_lt_of_le hb.lt hG.frm.size, hb.ok, hmine⟩) rfl rfl rfl (by simp) (fun b _ hn => Below.heap_setCell w ⟨g, o, none⟩ v b (by simpa using hn))
  refine hK' _ _ ((hk _ nx ⟨heap_setCell_same w g o us e v hh, fun ⟨i, hi, hg⟩ => hmine i hi hg, hb.ok⟩).run _ _ ⟨s1, s2, φ, hG', hH.keeps hKp⟩)
end
/-! ### Contracts. -/
/-- But for the blocks bs what was there stays. -/
structure Up (w w' : World) (bs : List Nat) : Prop where
  os : w'.os = w.os
  tape : w'.tape = w.tape
  output : w'.output = w.output
  size : w.heap.size ≤ w'.heap.size
  block : ∀ b, b < w.heap.size → b ∉ bs → w'.heap[b]? = w.heap[b]?
/-- The function writes into such a value and returns k'; the value is then that one. -/
def MK (P : Program) (f : FuncId) (ov : OV) (k k' : Int) (ov' : OV) : Prop :=
  ∀ (w : World) (u : Value) (bs : List Nat), OV.rel w ov u bs → bs.Nodup → (∀ b ∈ bs, b < w.heap.size) →
    Calls P f #[u, .int .i64 k] w fun e w' => e = .returned (.int .i64 k') ∧ OV.rel w' ov' u bs ∧ Up w w' bs
/-- The function writes into such a value and returns k'. -/
def MX (P : Program) (f : FuncId) (ov : OV) (k k' : Int) : Prop :=
  ∀ (w : World) (u : Value) (bs : List Nat), OV.rel w ov u bs → bs.Nodup → (∀ b ∈ bs, b < w.heap.size) →
    Calls P f #[u, .int .i64 k] w fun e w' => e = .returned (.int .i64 k') ∧ Up w w' bs
theorem MK.mx {P : Program} {f : FuncId} {ov ov' : OV} {k k' : Int} (h : MK P f ov k k' ov') : MX P f ov k k' := fun w u bs h1 h2 h3 => (h w u bs h1 h2 h3).mono fun _ _ h => ⟨h.1, h.2.2⟩
theorem Nx.sub {C C' : Ctx} {bs ds : List Nat} (h : Nx C C' bs) (hs : ∀ b ∈ bs, b ∈ ds) : Nx C C' ds :=
  ⟨h.n, h.os, h.tape, h.output, h.size, fun b h1 h2 h3 => h.block b h1 h2 fun hm => h3 (hs b hm), h.mu, h.ok⟩
theorem Nx.refl (C : Ctx) (bs : List Nat) : Nx C C bs := ⟨rfl, rfl, rfl, rfl, Nat.le_refl _, fun _ _ _ _ => rfl, fun _ h => .inl h, fun _ h => h⟩
theorem Nx.up {C C' : Ctx} {bs : List Nat} (h : Nx C C' bs) (hm : ∀ b, ¬ C.mu b) {m : Mem} (hG : Good C' m) : Up C.w0 m.w bs :=
  ⟨hG.frm.os.trans h.os, hG.frm.tape.trans h.tape, hG.frm.output.trans h.output, Nat.le_trans h.size hG.frm.size, fun b hb hn => (hG.frm.block b (Nat.lt_of_lt_of_le hb h.size) fun hmu => (h.mu b hmu).elim (hm b) fun h1 => by omega).trans (h.block b hb (hm b) hn)⟩
theorem const_eq {w : World} {ok : Nat → Prop} {u x : Value} (h : RV.rel w ok (constRV u) x) : x = u := by
  cases u <;> simp only [constRV, RV.rel] at h <;> try exact h
  obtain ⟨us, rfl, hr⟩ := h
  have := agg_flat (m := ⟨w, fun _ => none, [], ok⟩) _ _ (by
    refine RV.rels_mono ⟨Nat.le_refl _, fun b _ hb => ⟨⟨hb, fun i hi => by simp at hi⟩, rfl⟩⟩ _ _ hr)
  rw [← Array.toArray_toList (xs := us), this]
def EndsM (P : Program) (C0 : Ctx) (fn : Func) (k' : Int) (u : Value) (bs : List Nat) (X : World → Prop) (a : Act) (w : World) : Prop :=
  a.defers = [] ∧ (results fn a.tmps).run P w = .ok (.int .i64 k') w ∧ X w ∧ Up C0.w0 w bs
theorem mark_enter {P : Program} {f : FuncId} {fn : Func} {c : Code} {k k' : Int} {u : Value} {bs : List Nat} {w : World} {X : World → Prop} (hf : P.funcs[f]? = some fn) (hb : fn.body = some c) (n : Nat) (hn : fn.ntmps = n) (hl : 2 ≤ n) (hlt : ∀ b ∈ bs, b < w.heap.size)
    (h : Runs P ⟨w, fun b => b ∉ bs, fun _ => False, n⟩ [.code c] (EndsM P ⟨w, fun b => b ∉ bs, fun _ => False, n⟩ fn k' u bs X) ⟨startEnv 0 [constRV u, .int k], []⟩) :
    Calls P f #[u, .int .i64 k] w fun e w' => e = .returned (.int .i64 k') ∧ X w' ∧ Up w w' bs := by
  refine calls_of_fin hf hb ?_
  have hs : Sim ⟨w, fun b => b ∉ bs, fun _ => False, n⟩ ⟨startEnv 0 [constRV u, .int k], []⟩ { tmps := #[u, .int .i64 k] ++ Array.replicate (fn.ntmps - #[u, .int .i64 k].size) undef, defers := [] } w := by
    refine ⟨rfl, by simp; omega, fun _ => none, ⟨rfl, fun i j g hi => by simp at hi, fun i o hi => by simp at hi, fun i g hi => by simp at hi, ⟨rfl, rfl, rfl, Nat.le_refl _, fun _ _ _ => rfl, fun b hb hm => by have := hlt b hm; simp only at hb; omega⟩⟩, fun t => ?_⟩
    rw [start_look]
    simp only [Nat.zero_le, if_true, Nat.sub_zero]
    have hg : ∀ (v : Value) (j : Nat), ([u, .int .i64 k] : List Value)[j]? = some v → (#[u, .int .i64 k] ++ Array.replicate (fn.ntmps - #[u, Value.int .i64 k].size) undef).getD j undef = v := by
      intro v j hj
      have hlt : j < 2 := (List.getElem?_eq_some_iff.1 hj).1
      rw [Array.getD_eq_getD_getElem?, Array.getElem?_append_left (by simpa using hlt)]
      have : (#[u, Value.int .i64 k] : Array Value)[j]? = some v := by simpa using hj
      rw [this]; rfl
    match t with
    | 0 =>
      simp only [List.getElem?_cons_zero, AV.rel]
      rw [hg u 0 rfl]
      exact const_rel u
    | 1 =>
      simp only [List.getElem?_cons_succ, List.getElem?_cons_zero, AV.rel, RV.rel]
      exact hg _ 1 rfl
    | t + 2 => simp [AV.rel]
  have hr := h.run _ w hs
  intro b cs
  obtain ⟨a', w', todo, ⟨hd, hv, hx, hu⟩, hst⟩ := hr b cs
  exact ⟨a', w', todo, ⟨hd, _, hv, rfl, hx, hu⟩, hst⟩
section
variable {P : Program} {C C0 : Ctx} {S : St} {fn : Func}
theorem endsM {t : Nat} {k' : Int} {u : Value} {bs : List Nat} {X : World → Prop} (hnx : Nx C0 C bs) (hm : ∀ b, ¬ C0.mu b) (hr : fn.results = #[.tmp t]) (h1 : look S.env t = .int k') (hX : ∀ φ w, Good C ⟨w, φ, S.σ, C.ok⟩ → X w) : ∀ a w, Sim C S a w → EndsM P C0 fn k' u bs X a w := by
  rintro a w ⟨s1, s2, φ, hG, hH⟩
  have h := hH t
  rw [h1] at h
  simp only [AV.rel, RV.rel] at h
  exact ⟨s1, by rw [results_eq, hr]; simp [resRun, h], hX φ w hG, hnx.up hm hG⟩
end
section
variable {P : Program} {C : Ctx} {ops : Array Oper} {rest : List Oper} {k : List Item} {R : Act → World → Prop} {env : Env} {σ : List Ob} {t : Nat} {ty : TypeId} {pos : String} {after : Array Edge} {gd : Option (Nat × Bool)}
theorem op_callX {f : FuncId} {fn : Func} {xs : Array Operand} {ats : Array TypeId} {i i' : Int} {u : Value} {bs : List Nat} {X : World → Prop} [hfn : FN P f fn]
    (hf : ∀ w, (∀ b ∈ bs, w.heap[b]? = C.w0.heap[b]?) → (∀ b ∈ bs, b < w.heap.size) → Calls P f #[u, .int .i64 i] w fun e w' => e = .returned (.int .i64 i') ∧ X w' ∧ Up w w' bs)
    (hx : xs.toList.map (ev env) = [.ro (constRV u), .int i]) (hfix : ∀ b ∈ bs, b < C.w0.heap.size ∧ ¬ C.mu b ∧ ¬ C.ok b) (ht : t < C.n)
    (hk : ∀ C', Nx C C' bs → X C'.w0 → (∀ b ∈ bs, ¬ C'.mu b ∧ ¬ C'.ok b) → RunsL P C' ops rest k R ⟨(t, .int i') :: env, σ⟩) :
    RunsL P C ops (⟨some t, .call { callee := .value (.func f), args := xs, argTypes := ats }, ty, pos, after, none⟩ :: rest) k R ⟨env, σ⟩ := by
  refine ⟨fun a w ⟨s1, s2, φ, hG, hH⟩ => ?_⟩
  refine wpList_plain rfl fun K hK' => ?_
  have hr := rels_eval (a := a) (m := ⟨w, φ, σ, C.ok⟩) xs.toList fun x _ => ev_rel hH x
  rw [hx] at hr
  simp only [AV.rels, AV.rel] at hr
  obtain ⟨x1, us1, e1, r1, x2, us2, e2, r2, e3⟩ := hr
  have q1 := const_eq r1
  simp only [RV.rel] at r2
  have hargs : xs.map a.eval = #[u, .int .i64 i] := by
    apply Array.ext'
    rw [Array.toList_map, e1, e2, e3, q1, r2]
  unfold Oper.wp
  rw [execOp_call_go, run_call hfn]
  simp only [Oper.upon]
  have hmine : ∀ b ∈ bs, ∀ j, j < σ.length → φ j ≠ some b := fun b hb j hj hg => by
    rcases hG.mine j b hj hg with h | h
    · exact (hfix b hb).2.1 h
    · have := (hfix b hb).1; omega
  rw [hargs]
  refine (hf w (fun b hb => hG.frm.block b (hfix b hb).1 (hfix b hb).2.1) fun b hb => Nat.lt_of_lt_of_le (hfix b hb).1 hG.frm.size).mono ?_
  rintro e w' ⟨rfl, hX, hu⟩
  obtain ⟨nx, hG', hKp⟩ := new_ctx (w' := w') (bs := bs) hG (fun b hb => ⟨Nat.lt_of_lt_of_le (hfix b hb).1 hG.frm.size, (hfix b hb).2.2, hmine b hb⟩) hu.os hu.tape hu.output hu.size hu.block
  refine hK' _ _ ((hk _ nx hX fun b hb => ⟨fun ⟨j, hj, hg⟩ => hmine b hb j hj hg, (hfix b hb).2.2⟩).run _ _ ⟨s1, by simp [Act.put, s2], φ, hG', (hH.keeps hKp).put (by rw [s2]; exact ht) ?_⟩)
  simp [AV.rel, RV.rel]
end
end Go.Proofs.Ytignpklaefibaaa
/- Descriptions that the laws' helpers make: all in memory of their own. -/
namespace Go.Proofs.Ytignpklaefibaaa
set_option linter.unusedSimpArgs false
set_option linter.unusedVariables false
open Go.RowKit
def bytesO (l : List UInt8) : OV := .row 5 1 ((l.map fun z => Value.int .u8 (z.toNat : Int)).map .c)
def intsO (l : List Int) : OV := .row 3 1 ((l.map fun z => Value.int .i64 z).map .c)
def strsO (l : List ByteArray) : OV := .row 9 1 ((l.map fun z => Value.string z).map .c)
def rulO (r : Rul) : List OV := [.c (.string r.name), .c (.int .i64 r.kind), .c (.int .i64 r.size), .c (.bool r.little), bytesO r.bytes, strsO r.names, intsO r.tags, intsO r.kids]
def rulsO (d : Des) : OV := .row 73 8 (d.flatMap rulO)
def desO (d : Des) : OV := .agg [rulsO d]
set_option maxHeartbeats 4000000 in
theorem toBytesO_ac (a : List UInt8) (hl : a.length ≤ 4194304) : ACo Try.prog 46 [bytesR a] (bytesO a) := by
  refine aco_row (vs := a.map fun z => Value.int .u8 (z.toNat : Int)) ?_
  rw [List.map_map]
  refine ac_enter Try.func46 rfl _ Try.ntmps46 (by simp) fun C hn hm => ?_
  repeat' (first
    | refine RunsL.step tabOk hn rfl ?_
    | refine RunsL.nil ?_
    | refine Runs.toRegion 30 rfl ?_
    | refine op_make1 rfl rfl rfl rfl (by first | omega | (simp only [List.length_map]; omega)) (by unfold maxLen; simp only [List.length_map]; omega) (tl hn rfl) ?_
    | (refine Runs.ctls 30 rfl ?_; first | refine Runs.cond_t rfl ?_ | refine Runs.cond_f rfl ?_ | ((first | refine Runs.cond_yes rfl ?_ ?_ | refine Runs.cond_nno rfl ?_ ?_); · first | omega | rfl | assumption | (simp only [List.length_map]; omega)) | ((first | refine Runs.cond_no rfl ?_ ?_ | refine Runs.cond_nyes rfl ?_ ?_); · first | omega | rfl | assumption | (simp only [List.length_map]; omega)) | refine Runs.cond_dec rfl (fun h => ?_) (fun h => ?_) | refine Runs.cond_ndec rfl (fun h => ?_) (fun h => ?_) | refine Runs.cond_nb rfl (fun h => ?_) (fun h => ?_) | refine Runs.cond_b rfl (fun h => ?_) (fun h => ?_) | refine Runs.ret (ends_ro hm rfl rfl ?_) | exact Runs.ret (ends_cellR hm rfl rfl rfl (Nat.le_of_ble_eq_true rfl) rfl rfl))
    | refine op_box rfl (tl hn rfl) ?_
    | refine op_storeF rfl rfl rfl rfl (Nat.le_of_ble_eq_true rfl) ?_
    | refine op_alloc (tl hn rfl) ?_
    | refine op_storeN rfl rfl rfl rfl (Nat.le_of_ble_eq_true rfl) ?_
    | (refine RunsL.pe hn rfl rfl rfl ?_; first
      | refine ⟨_, pu_add rfl rfl (by omega), ?_⟩
      | refine ⟨_, pu_indexAddr_map rfl rfl (by omega) (by assumption), ?_⟩
      | refine ⟨_, pu_sub rfl rfl (by omega), ?_⟩
      | refine ⟨_, pu_pick_b rfl rfl rfl, ?_⟩
      | refine ⟨_, pu_mul rfl rfl (by omega), ?_⟩
      | refine ⟨_, pu_build rfl rfl rfl rfl rfl rfl, ?_⟩))
  refine Runs.loopN 30 rfl (fun j => [(0, .ro (bytesR a)), (3, .own 0), (4, .int (j : Int))]) (fun j => [⟨5, 1, (a.take j ++ List.replicate (a.length - j) 0).map fun z => .ro (.u8 z)⟩]) (fun _ => True) a.length 0 (Nat.zero_le _) trivial ⟨rfl, rfl, rfl, trivial⟩ (by simp) fun j hj _ next => ?_
  by_cases hlt : j < a.length
  · obtain ⟨x, hx⟩ : ∃ x, a[(j : Int).toNat]? = some x := ⟨_, List.getElem?_eq_getElem hlt⟩
    repeat' (first
      | refine RunsL.step tabOk hn rfl ?_
      | refine RunsL.nil ?_
      | refine Runs.toRegion 30 rfl ?_
      | refine op_storeF rfl rfl rfl rfl (by simp; omega) ?_
      | (refine RunsL.pe hn rfl rfl rfl ?_; first
        | refine ⟨_, pu_indexAddr_own (n := a.length) rfl rfl rfl rfl (by simp; omega) (by omega) (by omega), ?_⟩)
      | (refine Runs.ctls 30 rfl ?_; first | refine Runs.cond_t rfl ?_ | refine Runs.cond_f rfl ?_ | ((first | refine Runs.cond_yes rfl ?_ ?_ | refine Runs.cond_nno rfl ?_ ?_); · first | omega | rfl | assumption | (simp only [List.length_map]; omega)) | ((first | refine Runs.cond_no rfl ?_ ?_ | refine Runs.cond_nyes rfl ?_ ?_); · first | omega | rfl | assumption | (simp only [List.length_map]; omega)) | refine Runs.cond_dec rfl (fun h => ?_) (fun h => ?_) | refine Runs.cond_ndec rfl (fun h => ?_) (fun h => ?_) | refine Runs.cond_nb rfl (fun h => ?_) (fun h => ?_) | refine Runs.cond_b rfl (fun h => ?_) (fun h => ?_) | refine Runs.ret (ends_ro hm rfl rfl ?_) | exact Runs.ret (ends_cellR hm rfl rfl rfl (Nat.le_of_ble_eq_true rfl) rfl rfl))
      | refine op_box rfl (tl hn rfl) ?_
      | refine op_storeF rfl rfl rfl rfl (Nat.le_of_ble_eq_true rfl) ?_
      | refine op_alloc (tl hn rfl) ?_
      | refine op_storeN rfl rfl rfl rfl (Nat.le_of_ble_eq_true rfl) ?_
      | (refine RunsL.pe hn rfl rfl rfl ?_; first
        | refine ⟨_, pu_add rfl rfl (by omega), ?_⟩
        | refine ⟨_, pu_indexAddr_map rfl rfl (by omega) (by assumption), ?_⟩
        | refine ⟨_, pu_sub rfl rfl (by omega), ?_⟩
        | refine ⟨_, pu_pick_b rfl rfl rfl, ?_⟩
        | refine ⟨_, pu_mul rfl rfl (by omega), ?_⟩
        | refine ⟨_, pu_build rfl rfl rfl rfl rfl rfl, ?_⟩))
    refine next _ _ ⟨rfl, rfl, rfl, trivial⟩ hlt trivial ?_
    have h := take_set a 0 a.length j rfl x hx
    simp only [List.set_cons_zero, Nat.mul_one, Int.toNat_natCast]
    rw [← h, List.map_set]
  · obtain rfl : j = a.length := by omega
    repeat' (first
      | refine RunsL.step tabOk hn rfl ?_
      | refine RunsL.nil ?_
      | refine Runs.toRegion 30 rfl ?_
      | (refine Runs.ctls 30 rfl ?_; first | refine Runs.cond_t rfl ?_ | refine Runs.cond_f rfl ?_ | ((first | refine Runs.cond_yes rfl ?_ ?_ | refine Runs.cond_nno rfl ?_ ?_); · first | omega | rfl | assumption | (simp only [List.length_map]; omega)) | ((first | refine Runs.cond_no rfl ?_ ?_ | refine Runs.cond_nyes rfl ?_ ?_); · first | omega | rfl | assumption | (simp only [List.length_map]; omega)) | refine Runs.cond_dec rfl (fun h => ?_) (fun h => ?_) | refine Runs.cond_ndec rfl (fun h => ?_) (fun h => ?_) | refine Runs.cond_nb rfl (fun h => ?_) (fun h => ?_) | refine Runs.cond_b rfl (fun h => ?_) (fun h => ?_) | refine Runs.ret (ends_ro hm rfl rfl ?_) | exact Runs.ret (ends_cellR hm rfl rfl rfl (Nat.le_of_ble_eq_true rfl) rfl rfl))
      | refine op_box rfl (tl hn rfl) ?_
      | refine op_storeF rfl rfl rfl rfl (Nat.le_of_ble_eq_true rfl) ?_
      | refine op_alloc (tl hn rfl) ?_
      | refine op_storeN rfl rfl rfl rfl (Nat.le_of_ble_eq_true rfl) ?_
      | (refine RunsL.pe hn rfl rfl rfl ?_; first
        | refine ⟨_, pu_add rfl rfl (by omega), ?_⟩
        | refine ⟨_, pu_indexAddr_map rfl rfl (by omega) (by assumption), ?_⟩
        | refine ⟨_, pu_sub rfl rfl (by omega), ?_⟩
        | refine ⟨_, pu_pick_b rfl rfl rfl, ?_⟩
        | refine ⟨_, pu_mul rfl rfl (by omega), ?_⟩
        | refine ⟨_, pu_build rfl rfl rfl rfl rfl rfl, ?_⟩))
    exact Runs.ctls 30 rfl (Runs.ret (ends_own (rs := a.map RV.u8) hm rfl rfl rfl (by simp) rfl))
theorem toStrsO_ac (a : List ByteArray) (hl : a.length ≤ 4194304) : ACo Try.prog 97 [strsR a] (strsO a) := by
  refine aco_row (vs := a.map fun z => Value.string z) ?_
  rw [List.map_map]
  refine ac_enter Try.func97 rfl _ Try.ntmps97 (by simp) fun C hn hm => ?_
  repeat' (first
    | refine RunsL.step tabOk hn rfl ?_
    | refine RunsL.nil ?_
    | refine Runs.toRegion 30 rfl ?_
    | refine op_make1 rfl rfl rfl rfl (by first | omega | (simp only [List.length_map]; omega)) (by unfold maxLen; simp only [List.length_map]; omega) (tl hn rfl) ?_
    | (refine Runs.ctls 30 rfl ?_; first | refine Runs.cond_t rfl ?_ | refine Runs.cond_f rfl ?_ | ((first | refine Runs.cond_yes rfl ?_ ?_ | refine Runs.cond_nno rfl ?_ ?_); · first | omega | rfl | assumption | (simp only [List.length_map]; omega)) | ((first | refine Runs.cond_no rfl ?_ ?_ | refine Runs.cond_nyes rfl ?_ ?_); · first | omega | rfl | assumption | (simp only [List.length_map]; omega)) | refine Runs.cond_dec rfl (fun h => ?_) (fun h => ?_) | refine Runs.cond_ndec rfl (fun h => ?_) (fun h => ?_) | refine Runs.cond_nb rfl (fun h => ?_) (fun h => ?_) | refine Runs.cond_b rfl (fun h => ?_) (fun h => ?_) | refine Runs.ret (ends_ro hm rfl rfl ?_) | exact Runs.ret (ends_cellR hm rfl rfl rfl (Nat.le_of_ble_eq_true rfl) rfl rfl))
    | refine op_box rfl (tl hn rfl) ?_
    | refine op_storeF rfl rfl rfl rfl (Nat.le_of_ble_eq_true rfl) ?_
    | refine op_alloc (tl hn rfl) ?_
    | refine op_storeN rfl rfl rfl rfl (Nat.le_of_ble_eq_true rfl) ?_
    | (refine RunsL.pe hn rfl rfl rfl ?_; first
      | refine ⟨_, pu_add rfl rfl (by omega), ?_⟩
      | refine ⟨_, pu_indexAddr_map rfl rfl (by omega) (by assumption), ?_⟩
      | refine ⟨_, pu_sub rfl rfl (by omega), ?_⟩
      | refine ⟨_, pu_pick_b rfl rfl rfl, ?_⟩
      | refine ⟨_, pu_mul rfl rfl (by omega), ?_⟩
      | refine ⟨_, pu_build rfl rfl rfl rfl rfl rfl, ?_⟩))
  refine Runs.loopN 30 rfl (fun j => [(0, .ro (strsR a)), (3, .own 0), (4, .int (j : Int))]) (fun j => [⟨9, 1, (a.take j ++ List.replicate (a.length - j) (⟨#[]⟩ : ByteArray)).map fun z => .ro (.str z)⟩]) (fun _ => True) a.length 0 (Nat.zero_le _) trivial ⟨rfl, rfl, rfl, trivial⟩ (by simp) fun j hj _ next => ?_
  by_cases hlt : j < a.length
  · obtain ⟨x, hx⟩ : ∃ x, a[(j : Int).toNat]? = some x := ⟨_, List.getElem?_eq_getElem hlt⟩
    repeat' (first
      | refine RunsL.step tabOk hn rfl ?_
      | refine RunsL.nil ?_
      | refine Runs.toRegion 30 rfl ?_
      | refine op_storeF rfl rfl rfl rfl (by simp; omega) ?_
      | (refine RunsL.pe hn rfl rfl rfl ?_; first
        | refine ⟨_, pu_indexAddr_own (n := a.length) rfl rfl rfl rfl (by simp; omega) (by omega) (by omega), ?_⟩)
      | (refine Runs.ctls 30 rfl ?_; first | refine Runs.cond_t rfl ?_ | refine Runs.cond_f rfl ?_ | ((first | refine Runs.cond_yes rfl ?_ ?_ | refine Runs.cond_nno rfl ?_ ?_); · first | omega | rfl | assumption | (simp only [List.length_map]; omega)) | ((first | refine Runs.cond_no rfl ?_ ?_ | refine Runs.cond_nyes rfl ?_ ?_); · first | omega | rfl | assumption | (simp only [List.length_map]; omega)) | refine Runs.cond_dec rfl (fun h => ?_) (fun h => ?_) | refine Runs.cond_ndec rfl (fun h => ?_) (fun h => ?_) | refine Runs.cond_nb rfl (fun h => ?_) (fun h => ?_) | refine Runs.cond_b rfl (fun h => ?_) (fun h => ?_) | refine Runs.ret (ends_ro hm rfl rfl ?_) | exact Runs.ret (ends_cellR hm rfl rfl rfl (Nat.le_of_ble_eq_true rfl) rfl rfl))
      | refine op_box rfl (tl hn rfl) ?_
      | refine op_storeF rfl rfl rfl rfl (Nat.le_of_ble_eq_true rfl) ?_
      | refine op_alloc (tl hn rfl) ?_
      | refine op_storeN rfl rfl rfl rfl (Nat.le_of_ble_eq_true rfl) ?_
      | (refine RunsL.pe hn rfl rfl rfl ?_; first
        | refine ⟨_, pu_add rfl rfl (by omega), ?_⟩
        | refine ⟨_, pu_indexAddr_map rfl rfl (by omega) (by assumption), ?_⟩
        | refine ⟨_, pu_sub rfl rfl (by omega), ?_⟩
        | refine ⟨_, pu_pick_b rfl rfl rfl, ?_⟩
        | refine ⟨_, pu_mul rfl rfl (by omega), ?_⟩
        | refine ⟨_, pu_build rfl rfl rfl rfl rfl rfl, ?_⟩))
    refine next _ _ ⟨rfl, rfl, rfl, trivial⟩ hlt trivial ?_
    have h := take_set a (⟨#[]⟩ : ByteArray) a.length j rfl x hx
    simp only [List.set_cons_zero, Nat.mul_one, Int.toNat_natCast]
    rw [← h, List.map_set]
  · obtain rfl : j = a.length := by omega
    repeat' (first
      | refine RunsL.step tabOk hn rfl ?_
      | refine RunsL.nil ?_
      | refine Runs.toRegion 30 rfl ?_
      | (refine Runs.ctls 30 rfl ?_; first | refine Runs.cond_t rfl ?_ | refine Runs.cond_f rfl ?_ | ((first | refine Runs.cond_yes rfl ?_ ?_ | refine Runs.cond_nno rfl ?_ ?_); · first | omega | rfl | assumption | (simp only [List.length_map]; omega)) | ((first | refine Runs.cond_no rfl ?_ ?_ | refine Runs.cond_nyes rfl ?_ ?_); · first | omega | rfl | assumption | (simp only [List.length_map]; omega)) | refine Runs.cond_dec rfl (fun h => ?_) (fun h => ?_) | refine Runs.cond_ndec rfl (fun h => ?_) (fun h => ?_) | refine Runs.cond_nb rfl (fun h => ?_) (fun h => ?_) | refine Runs.cond_b rfl (fun h => ?_) (fun h => ?_) | refine Runs.ret (ends_ro hm rfl rfl ?_) | exact Runs.ret (ends_cellR hm rfl rfl rfl (Nat.le_of_ble_eq_true rfl) rfl rfl))
      | refine op_box rfl (tl hn rfl) ?_
      | refine op_storeF rfl rfl rfl rfl (Nat.le_of_ble_eq_true rfl) ?_
      | refine op_alloc (tl hn rfl) ?_
      | refine op_storeN rfl rfl rfl rfl (Nat.le_of_ble_eq_true rfl) ?_
      | (refine RunsL.pe hn rfl rfl rfl ?_; first
        | refine ⟨_, pu_add rfl rfl (by omega), ?_⟩
        | refine ⟨_, pu_indexAddr_map rfl rfl (by omega) (by assumption), ?_⟩
        | refine ⟨_, pu_sub rfl rfl (by omega), ?_⟩
        | refine ⟨_, pu_pick_b rfl rfl rfl, ?_⟩
        | refine ⟨_, pu_mul rfl rfl (by omega), ?_⟩
        | refine ⟨_, pu_build rfl rfl rfl rfl rfl rfl, ?_⟩))
    exact Runs.ctls 30 rfl (Runs.ret (ends_own (rs := a.map RV.str) hm rfl rfl rfl (by simp) rfl))
theorem toIntsO_ac (a : List Int) (hl : a.length ≤ 4194304) : ACo Try.prog 27 [intsR a] (intsO a) := by
  refine aco_row (vs := a.map fun z => Value.int .i64 z) ?_
  rw [List.map_map]
  refine ac_enter Try.func27 rfl _ Try.ntmps27 (by simp) fun C hn hm => ?_
  repeat' (first
    | refine RunsL.step tabOk hn rfl ?_
    | refine RunsL.nil ?_
    | refine Runs.toRegion 30 rfl ?_
    | refine op_make1 rfl rfl rfl rfl (by first | omega | (simp only [List.length_map]; omega)) (by unfold maxLen; simp only [List.length_map]; omega) (tl hn rfl) ?_
    | (refine Runs.ctls 30 rfl ?_; first | refine Runs.cond_t rfl ?_ | refine Runs.cond_f rfl ?_ | ((first | refine Runs.cond_yes rfl ?_ ?_ | refine Runs.cond_nno rfl ?_ ?_); · first | omega | rfl | assumption | (simp only [List.length_map]; omega)) | ((first | refine Runs.cond_no rfl ?_ ?_ | refine Runs.cond_nyes rfl ?_ ?_); · first | omega | rfl | assumption | (simp only [List.length_map]; omega)) | refine Runs.cond_dec rfl (fun h => ?_) (fun h => ?_) | refine Runs.cond_ndec rfl (fun h => ?_) (fun h => ?_) | refine Runs.cond_nb rfl (fun h => ?_) (fun h => ?_) | refine Runs.cond_b rfl (fun h => ?_) (fun h => ?_) | refine Runs.ret (ends_ro hm rfl rfl ?_) | exact Runs.ret (ends_cellR hm rfl rfl rfl (Nat.le_of_ble_eq_true rfl) rfl rfl))
    | refine op_box rfl (tl hn rfl) ?_
    | refine op_storeF rfl rfl rfl rfl (Nat.le_of_ble_eq_true rfl) ?_
    | refine op_alloc (tl hn rfl) ?_
    | refine op_storeN rfl rfl rfl rfl (Nat.le_of_ble_eq_true rfl) ?_
    | (refine RunsL.pe hn rfl rfl rfl ?_; first
      | refine ⟨_, pu_add rfl rfl (by omega), ?_⟩
      | refine ⟨_, pu_indexAddr_map rfl rfl (by omega) (by assumption), ?_⟩
      | refine ⟨_, pu_sub rfl rfl (by omega), ?_⟩
      | refine ⟨_, pu_pick_b rfl rfl rfl, ?_⟩
      | refine ⟨_, pu_mul rfl rfl (by omega), ?_⟩
      | refine ⟨_, pu_build rfl rfl rfl rfl rfl rfl, ?_⟩))
  refine Runs.loopN 30 rfl (fun j => [(0, .ro (intsR a)), (3, .own 0), (4, .int (j : Int))]) (fun j => [⟨3, 1, (a.take j ++ List.replicate (a.length - j) 0).map fun z => .ro (.int z)⟩]) (fun _ => True) a.length 0 (Nat.zero_le _) trivial ⟨rfl, rfl, rfl, trivial⟩ (by simp) fun j hj _ next => ?_
  by_cases hlt : j < a.length
  · obtain ⟨x, hx⟩ : ∃ x, a[(j : Int).toNat]? = some x := ⟨_, List.getElem?_eq_getElem hlt⟩
    repeat' (first
      | refine RunsL.step tabOk hn rfl ?_
      | refine RunsL.nil ?_
      | refine Runs.toRegion 30 rfl ?_
      | refine op_storeF rfl rfl rfl rfl (by simp; omega) ?_
      | (refine RunsL.pe hn rfl rfl rfl ?_; first
        | refine ⟨_, pu_indexAddr_own (n := a.length) rfl rfl rfl rfl (by simp; omega) (by omega) (by omega), ?_⟩)
      | (refine Runs.ctls 30 rfl ?_; first | refine Runs.cond_t rfl ?_ | refine Runs.cond_f rfl ?_ | ((first | refine Runs.cond_yes rfl ?_ ?_ | refine Runs.cond_nno rfl ?_ ?_); · first | omega | rfl | assumption | (simp only [List.length_map]; omega)) | ((first | refine Runs.cond_no rfl ?_ ?_ | refine Runs.cond_nyes rfl ?_ ?_); · first | omega | rfl | assumption | (simp only [List.length_map]; omega)) | refine Runs.cond_dec rfl (fun h => ?_) (fun h => ?_) | refine Runs.cond_ndec rfl (fun h => ?_) (fun h => ?_) | refine Runs.cond_nb rfl (fun h => ?_) (fun h => ?_) | refine Runs.cond_b rfl (fun h => ?_) (fun h => ?_) | refine Runs.ret (ends_ro hm rfl rfl ?_) | exact Runs.ret (ends_cellR hm rfl rfl rfl (Nat.le_of_ble_eq_true rfl) rfl rfl))
      | refine op_box rfl (tl hn rfl) ?_
      | refine op_storeF rfl rfl rfl rfl (Nat.le_of_ble_eq_true rfl) ?_
      | refine op_alloc (tl hn rfl) ?_
      | refine op_storeN rfl rfl rfl rfl (Nat.le_of_ble_eq_true rfl) ?_
      | (refine RunsL.pe hn rfl rfl rfl ?_; first
        | refine ⟨_, pu_add rfl rfl (by omega), ?_⟩
        | refine ⟨_, pu_indexAddr_map rfl rfl (by omega) (by assumption), ?_⟩
        | refine ⟨_, pu_sub rfl rfl (by omega), ?_⟩
        | refine ⟨_, pu_pick_b rfl rfl rfl, ?_⟩
        | refine ⟨_, pu_mul rfl rfl (by omega), ?_⟩
        | refine ⟨_, pu_build rfl rfl rfl rfl rfl rfl, ?_⟩))
    refine next _ _ ⟨rfl, rfl, rfl, trivial⟩ hlt trivial ?_
    have h := take_set a 0 a.length j rfl x hx
    simp only [List.set_cons_zero, Nat.mul_one, Int.toNat_natCast]
    rw [← h, List.map_set]
  · obtain rfl : j = a.length := by omega
    repeat' (first
      | refine RunsL.step tabOk hn rfl ?_
      | refine RunsL.nil ?_
      | refine Runs.toRegion 30 rfl ?_
      | (refine Runs.ctls 30 rfl ?_; first | refine Runs.cond_t rfl ?_ | refine Runs.cond_f rfl ?_ | ((first | refine Runs.cond_yes rfl ?_ ?_ | refine Runs.cond_nno rfl ?_ ?_); · first | omega | rfl | assumption | (simp only [List.length_map]; omega)) | ((first | refine Runs.cond_no rfl ?_ ?_ | refine Runs.cond_nyes rfl ?_ ?_); · first | omega | rfl | assumption | (simp only [List.length_map]; omega)) | refine Runs.cond_dec rfl (fun h => ?_) (fun h => ?_) | refine Runs.cond_ndec rfl (fun h => ?_) (fun h => ?_) | refine Runs.cond_nb rfl (fun h => ?_) (fun h => ?_) | refine Runs.cond_b rfl (fun h => ?_) (fun h => ?_) | refine Runs.ret (ends_ro hm rfl rfl ?_) | exact Runs.ret (ends_cellR hm rfl rfl rfl (Nat.le_of_ble_eq_true rfl) rfl rfl))
      | refine op_box rfl (tl hn rfl) ?_
      | refine op_storeF rfl rfl rfl rfl (Nat.le_of_ble_eq_true rfl) ?_
      | refine op_alloc (tl hn rfl) ?_
      | refine op_storeN rfl rfl rfl rfl (Nat.le_of_ble_eq_true rfl) ?_
      | (refine RunsL.pe hn rfl rfl rfl ?_; first
        | refine ⟨_, pu_add rfl rfl (by omega), ?_⟩
        | refine ⟨_, pu_indexAddr_map rfl rfl (by omega) (by assumption), ?_⟩
        | refine ⟨_, pu_sub rfl rfl (by omega), ?_⟩
        | refine ⟨_, pu_pick_b rfl rfl rfl, ?_⟩
        | refine ⟨_, pu_mul rfl rfl (by omega), ?_⟩
        | refine ⟨_, pu_build rfl rfl rfl rfl rfl rfl, ?_⟩))
    exact Runs.ctls 30 rfl (Runs.ret (ends_own (rs := a.map RV.int) hm rfl rfl rfl (by simp) rfl))
theorem nodup_two {a b : List Nat} (k : Nat) (h1 : a.Nodup) (h2 : b.Nodup) (h3 : ∀ x ∈ a, x < k) (h4 : ∀ x ∈ b, k ≤ x) : (a ++ b).Nodup := by
  rw [List.nodup_append]
  exact ⟨h1, h2, fun x hx y hy e => by have := h3 x hx; have := h4 y hy; omega⟩
set_option maxHeartbeats 8000000 in
theorem toRulO_ac (r : Rul) (h : r.total ≤ 1048576) : ACo Try.prog 83 [.agg (rulR r)] (.agg (rulO r)) := by
  have et : r.total = r.name.size + r.bytes.length + (r.names.length + (r.names.map ByteArray.size).sum) + r.tags.length + r.kids.length := rfl
  have k1 := toBytesO_ac r.bytes (by omega)
  have k2 := toStrsO_ac r.names (by omega)
  have k3 := toIntsO_ac r.tags (by omega)
  have k4 := toIntsO_ac r.kids (by omega)
  refine aco_enter Try.func83 rfl _ Try.ntmps83 (by simp) fun C hn hm => ?_
  repeat' (first
    | refine RunsL.step tabOk hn rfl ?_
    | refine RunsL.nil ?_
    | refine Runs.toRegion 30 rfl ?_
    | (refine Runs.ctls 30 rfl ?_; first | refine Runs.cond_t rfl ?_ | refine Runs.cond_f rfl ?_ | ((first | refine Runs.cond_yes rfl ?_ ?_ | refine Runs.cond_nno rfl ?_ ?_); · first | omega | rfl | assumption | (simp only [List.length_map]; omega)) | ((first | refine Runs.cond_no rfl ?_ ?_ | refine Runs.cond_nyes rfl ?_ ?_); · first | omega | rfl | assumption | (simp only [List.length_map]; omega)) | refine Runs.cond_dec rfl (fun h => ?_) (fun h => ?_) | refine Runs.cond_ndec rfl (fun h => ?_) (fun h => ?_) | refine Runs.cond_nb rfl (fun h => ?_) (fun h => ?_) | refine Runs.cond_b rfl (fun h => ?_) (fun h => ?_) | refine Runs.ret (ends_ro hm rfl rfl ?_) | exact Runs.ret (ends_cellR hm rfl rfl rfl (Nat.le_of_ble_eq_true rfl) rfl rfl))
    | refine op_box rfl (tl hn rfl) ?_
    | refine op_storeF rfl rfl rfl rfl (Nat.le_of_ble_eq_true rfl) ?_
    | refine op_alloc (tl hn rfl) ?_
    | refine op_storeN rfl rfl rfl rfl (Nat.le_of_ble_eq_true rfl) ?_
    | (refine RunsL.pe hn rfl rfl rfl ?_; first
      | refine ⟨_, pu_add rfl rfl (by omega), ?_⟩
      | refine ⟨_, pu_indexAddr_map rfl rfl (by omega) (by assumption), ?_⟩
      | refine ⟨_, pu_sub rfl rfl (by omega), ?_⟩
      | refine ⟨_, pu_pick_b rfl rfl rfl, ?_⟩
      | refine ⟨_, pu_mul rfl rfl (by omega), ?_⟩
      | refine ⟨_, pu_build rfl rfl rfl rfl rfl rfl, ?_⟩))
  refine op_callN k1 (.cons .ro .nil) (tl hn rfl) fun C1 u1 b1 nx1 gh1 nd1 new1 => ?_
  obtain ⟨A1, n1, c1, rfl⟩ := row_slice gh1.rel
  have hn := nx1.n.trans hn
  repeat' (first
    | refine RunsL.step tabOk hn rfl ?_
    | refine RunsL.nil ?_
    | refine Runs.toRegion 30 rfl ?_
    | (refine Runs.ctls 30 rfl ?_; first | refine Runs.cond_t rfl ?_ | refine Runs.cond_f rfl ?_ | ((first | refine Runs.cond_yes rfl ?_ ?_ | refine Runs.cond_nno rfl ?_ ?_); · first | omega | rfl | assumption | (simp only [List.length_map]; omega)) | ((first | refine Runs.cond_no rfl ?_ ?_ | refine Runs.cond_nyes rfl ?_ ?_); · first | omega | rfl | assumption | (simp only [List.length_map]; omega)) | refine Runs.cond_dec rfl (fun h => ?_) (fun h => ?_) | refine Runs.cond_ndec rfl (fun h => ?_) (fun h => ?_) | refine Runs.cond_nb rfl (fun h => ?_) (fun h => ?_) | refine Runs.cond_b rfl (fun h => ?_) (fun h => ?_) | refine Runs.ret (ends_ro hm rfl rfl ?_) | exact Runs.ret (ends_cellR hm rfl rfl rfl (Nat.le_of_ble_eq_true rfl) rfl rfl))
    | refine op_box rfl (tl hn rfl) ?_
    | refine op_storeF rfl rfl rfl rfl (Nat.le_of_ble_eq_true rfl) ?_
    | refine op_alloc (tl hn rfl) ?_
    | refine op_storeN rfl rfl rfl rfl (Nat.le_of_ble_eq_true rfl) ?_
    | (refine RunsL.pe hn rfl rfl rfl ?_; first
      | refine ⟨_, pu_add rfl rfl (by omega), ?_⟩
      | refine ⟨_, pu_indexAddr_map rfl rfl (by omega) (by assumption), ?_⟩
      | refine ⟨_, pu_sub rfl rfl (by omega), ?_⟩
      | refine ⟨_, pu_pick_b rfl rfl rfl, ?_⟩
      | refine ⟨_, pu_mul rfl rfl (by omega), ?_⟩
      | refine ⟨_, pu_build rfl rfl rfl rfl rfl rfl, ?_⟩))
  refine op_callN k2 (.cons .ro .nil) (tl hn rfl) fun C2 u2 b2 nx2 gh2 nd2 new2 => ?_
  obtain ⟨A2, n2, c2, rfl⟩ := row_slice gh2.rel
  have hn := nx2.n.trans hn
  repeat' (first
    | refine RunsL.step tabOk hn rfl ?_
    | refine RunsL.nil ?_
    | refine Runs.toRegion 30 rfl ?_
    | (refine Runs.ctls 30 rfl ?_; first | refine Runs.cond_t rfl ?_ | refine Runs.cond_f rfl ?_ | ((first | refine Runs.cond_yes rfl ?_ ?_ | refine Runs.cond_nno rfl ?_ ?_); · first | omega | rfl | assumption | (simp only [List.length_map]; omega)) | ((first | refine Runs.cond_no rfl ?_ ?_ | refine Runs.cond_nyes rfl ?_ ?_); · first | omega | rfl | assumption | (simp only [List.length_map]; omega)) | refine Runs.cond_dec rfl (fun h => ?_) (fun h => ?_) | refine Runs.cond_ndec rfl (fun h => ?_) (fun h => ?_) | refine Runs.cond_nb rfl (fun h => ?_) (fun h => ?_) | refine Runs.cond_b rfl (fun h => ?_) (fun h => ?_) | refine Runs.ret (ends_ro hm rfl rfl ?_) | exact Runs.ret (ends_cellR hm rfl rfl rfl (Nat.le_of_ble_eq_true rfl) rfl rfl))
    | refine op_box rfl (tl hn rfl) ?_
    | refine op_storeF rfl rfl rfl rfl (Nat.le_of_ble_eq_true rfl) ?_
    | refine op_alloc (tl hn rfl) ?_
    | refine op_storeN rfl rfl rfl rfl (Nat.le_of_ble_eq_true rfl) ?_
    | (refine RunsL.pe hn rfl rfl rfl ?_; first
      | refine ⟨_, pu_add rfl rfl (by omega), ?_⟩
      | refine ⟨_, pu_indexAddr_map rfl rfl (by omega) (by assumption), ?_⟩
      | refine ⟨_, pu_sub rfl rfl (by omega), ?_⟩
      | refine ⟨_, pu_pick_b rfl rfl rfl, ?_⟩
      | refine ⟨_, pu_mul rfl rfl (by omega), ?_⟩
      | refine ⟨_, pu_build rfl rfl rfl rfl rfl rfl, ?_⟩))
  refine op_callN k3 (.cons .ro .nil) (tl hn rfl) fun C3 u3 b3 nx3 gh3 nd3 new3 => ?_
  obtain ⟨A3, n3, c3, rfl⟩ := row_slice gh3.rel
  have hn := nx3.n.trans hn
  repeat' (first
    | refine RunsL.step tabOk hn rfl ?_
    | refine RunsL.nil ?_
    | refine Runs.toRegion 30 rfl ?_
    | (refine Runs.ctls 30 rfl ?_; first | refine Runs.cond_t rfl ?_ | refine Runs.cond_f rfl ?_ | ((first | refine Runs.cond_yes rfl ?_ ?_ | refine Runs.cond_nno rfl ?_ ?_); · first | omega | rfl | assumption | (simp only [List.length_map]; omega)) | ((first | refine Runs.cond_no rfl ?_ ?_ | refine Runs.cond_nyes rfl ?_ ?_); · first | omega | rfl | assumption | (simp only [List.length_map]; omega)) | refine Runs.cond_dec rfl (fun h => ?_) (fun h => ?_) | refine Runs.cond_ndec rfl (fun h => ?_) (fun h => ?_) | refine Runs.cond_nb rfl (fun h => ?_) (fun h => ?_) | refine Runs.cond_b rfl (fun h => ?_) (fun h => ?_) | refine Runs.ret (ends_ro hm rfl rfl ?_) | exact Runs.ret (ends_cellR hm rfl rfl rfl (Nat.le_of_ble_eq_true rfl) rfl rfl))
    | refine op_box rfl (tl hn rfl) ?_
    | refine op_storeF rfl rfl rfl rfl (Nat.le_of_ble_eq_true rfl) ?_
    | refine op_alloc (tl hn rfl) ?_
    | refine op_storeN rfl rfl rfl rfl (Nat.le_of_ble_eq_true rfl) ?_
    | (refine RunsL.pe hn rfl rfl rfl ?_; first
      | refine ⟨_, pu_add rfl rfl (by omega), ?_⟩
      | refine ⟨_, pu_indexAddr_map rfl rfl (by omega) (by assumption), ?_⟩
      | refine ⟨_, pu_sub rfl rfl (by omega), ?_⟩
      | refine ⟨_, pu_pick_b rfl rfl rfl, ?_⟩
      | refine ⟨_, pu_mul rfl rfl (by omega), ?_⟩
      | refine ⟨_, pu_build rfl rfl rfl rfl rfl rfl, ?_⟩))
  refine op_callN k4 (.cons .ro .nil) (tl hn rfl) fun C4 u4 b4 nx4 gh4 nd4 new4 => ?_
  obtain ⟨A4, n4, c4, rfl⟩ := row_slice gh4.rel
  have hn := nx4.n.trans hn
  repeat' (first
    | refine RunsL.step tabOk hn rfl ?_
    | refine RunsL.nil ?_
    | refine Runs.toRegion 30 rfl ?_
    | (refine Runs.ctls 30 rfl ?_; first | refine Runs.cond_t rfl ?_ | refine Runs.cond_f rfl ?_ | ((first | refine Runs.cond_yes rfl ?_ ?_ | refine Runs.cond_nno rfl ?_ ?_); · first | omega | rfl | assumption | (simp only [List.length_map]; omega)) | ((first | refine Runs.cond_no rfl ?_ ?_ | refine Runs.cond_nyes rfl ?_ ?_); · first | omega | rfl | assumption | (simp only [List.length_map]; omega)) | refine Runs.cond_dec rfl (fun h => ?_) (fun h => ?_) | refine Runs.cond_ndec rfl (fun h => ?_) (fun h => ?_) | refine Runs.cond_nb rfl (fun h => ?_) (fun h => ?_) | refine Runs.cond_b rfl (fun h => ?_) (fun h => ?_) | refine Runs.ret (ends_ro hm rfl rfl ?_) | exact Runs.ret (ends_cellR hm rfl rfl rfl (Nat.le_of_ble_eq_true rfl) rfl rfl))
    | refine op_box rfl (tl hn rfl) ?_
    | refine op_storeF rfl rfl rfl rfl (Nat.le_of_ble_eq_true rfl) ?_
    | refine op_alloc (tl hn rfl) ?_
    | refine op_storeN rfl rfl rfl rfl (Nat.le_of_ble_eq_true rfl) ?_
    | (refine RunsL.pe hn rfl rfl rfl ?_; first
      | refine ⟨_, pu_add rfl rfl (by omega), ?_⟩
      | refine ⟨_, pu_indexAddr_map rfl rfl (by omega) (by assumption), ?_⟩
      | refine ⟨_, pu_sub rfl rfl (by omega), ?_⟩
      | refine ⟨_, pu_pick_b rfl rfl rfl, ?_⟩
      | refine ⟨_, pu_mul rfl rfl (by omega), ?_⟩
      | refine ⟨_, pu_build rfl rfl rfl rfl rfl rfl, ?_⟩))
  have g1 := ((gh1.next nx2 (by simp)).next nx3 (by simp)).next nx4 (by simp)
  have g2 := (gh2.next nx3 (by simp)).next nx4 (by simp)
  have g3 := gh3.next nx4 (by simp)
  have s1 := (Sc.start hm).next nx1 (by simp)
  have s2 := s1.next nx2 (by simp)
  have s3 := s2.next nx3 (by simp)
  have s4 := s3.next nx4 (by simp)
  have z1 := nx1.size
  have z2 := nx2.size
  have z3 := nx3.size
  have z4 := nx4.size
  refine Runs.ctls 30 rfl (Runs.ret (endsO_cell (us := [.string r.name, .int .i64 r.kind, .int .i64 r.size, .bool r.little, .slice A1 n1 c1, .slice A2 n2 c2, .slice A3 n3 c3, .slice A4 n4 c4]) (bs := b1 ++ (b2 ++ (b3 ++ b4))) s4 rfl rfl rfl rfl rfl ?_ (fun b hb => ?_) ?_ fun b hb => ?_))
  · simp only [rulO, OV.rels]
    exact ⟨_, _, [], _, rfl, rfl, by simp [OV.rel], _, _, [], _, rfl, rfl, by simp [OV.rel], _, _, [], _, rfl, rfl, by simp [OV.rel], _, _, [], _, rfl, rfl, by simp [OV.rel], _, _, b1, _, rfl, rfl, g1.rel, _, _, b2, _, rfl, rfl, g2.rel, _, _, b3, _, rfl, rfl, g3.rel, _, _, b4, [], rfl, by simp, gh4.rel, rfl, rfl⟩
  · rw [List.mem_append, List.mem_append, List.mem_append] at hb
    rcases hb with hb | hb | hb | hb
    · exact ⟨(g1.fix b hb).1, (g1.fix b hb).2.1⟩
    · exact ⟨(g2.fix b hb).1, (g2.fix b hb).2.1⟩
    · exact ⟨(g3.fix b hb).1, (g3.fix b hb).2.1⟩
    · exact ⟨(gh4.fix b hb).1, (gh4.fix b hb).2.1⟩
  · refine nodup_two C1.w0.heap.size nd1 (nodup_two C2.w0.heap.size nd2 (nodup_two C3.w0.heap.size nd3 nd4 (fun x hx => (gh3.fix x hx).1) new4) (fun x hx => (gh2.fix x hx).1) fun x hx => ?_) (fun x hx => (gh1.fix x hx).1) fun x hx => ?_
    · rcases List.mem_append.1 hx with hx | hx
      · exact new3 x hx
      · have := new4 x hx; omega
    · rcases List.mem_append.1 hx with hx | hx
      · exact new2 x hx
      · rcases List.mem_append.1 hx with hx | hx
        · have := new3 x hx; omega
        · have := new4 x hx; omega
  · rw [List.mem_append, List.mem_append, List.mem_append] at hb
    rcases hb with hb | hb | hb | hb
    · exact new1 b hb
    · have := new2 b hb; omega
    · have := new3 b hb; omega
    · have := new4 b hb; omega
theorem rul_vals {w : World} {r : Rul} {us : List Value} {bs : List Nat} (h : OV.rels w (rulO r) us bs) : ∃ A1 n1 c1 A2 n2 c2 A3 n3 c3 A4 n4 c4, us = [.string r.name, .int .i64 r.kind, .int .i64 r.size, .bool r.little, .slice A1 n1 c1, .slice A2 n2 c2, .slice A3 n3 c3, .slice A4 n4 c4] := by
  simp only [rulO, OV.rels, bytesO, strsO, intsO] at h
  obtain ⟨v0, _, _, _, rfl, _, h0, v1, _, _, _, rfl, _, h1, v2, _, _, _, rfl, _, h2, v3, _, _, _, rfl, _, h3, v4, _, _, _, rfl, _, h4, v5, _, _, _, rfl, _, h5, v6, _, _, _, rfl, _, h6, v7, _, _, _, rfl, _, h7, rfl, _⟩ := h
  obtain ⟨A1, n1, c1, rfl⟩ := row_slice h4
  obtain ⟨A2, n2, c2, rfl⟩ := row_slice h5
  obtain ⟨A3, n3, c3, rfl⟩ := row_slice h6
  obtain ⟨A4, n4, c4, rfl⟩ := row_slice h7
  simp only [OV.rel] at h0 h1 h2 h3
  rw [h0.1, h1.1, h2.1, h3.1]
  exact ⟨_, _, _, _, _, _, _, _, _, _, _, _, rfl⟩
theorem constRV_agg (vs : Array Value) : constRV (.agg vs) = .agg (vs.toList.map .c) := rfl
def rulZ : List Value := [.string ⟨#[]⟩, .int .i64 0, .int .i64 0, .bool false, .slice none 0 0, .slice none 0 0, .slice none 0 0, .slice none 0 0]
theorem rulO_len (l : Des) : (l.flatMap rulO).length = l.length * 8 := by
  induction l with
  | nil => rfl
  | cons x l ih => rw [List.flatMap_cons, List.length_append, ih, List.length_cons, show (rulO x).length = 8 from rfl]; omega
set_option maxHeartbeats 8000000 in
theorem toRulsO_ac (l : Des) (ht : dtotal l ≤ 1048576) : ACo Try.prog 45 [rulsR l] (rulsO l) := by
  have hl' : (l.map rulR).length = l.length := List.length_map ..
  have et : dtotal l = l.length + (l.map Rul.total).sum := rfl
  refine aco_enter Try.func45 rfl _ Try.ntmps45 (by simp) fun C0 hn hm => ?_
  repeat' (first
    | refine RunsL.step tabOk hn rfl ?_
    | refine RunsL.nil ?_
    | refine Runs.toRegion 30 rfl ?_
    | refine op_makeN (zs := rulZ) rfl rfl rfl rfl (by decide) rfl (by omega) (by unfold maxLen; omega) (tl hn rfl) ?_
    | (refine Runs.ctls 30 rfl ?_; first | refine Runs.cond_t rfl ?_ | refine Runs.cond_f rfl ?_ | ((first | refine Runs.cond_yes rfl ?_ ?_ | refine Runs.cond_nno rfl ?_ ?_); · first | omega | rfl | assumption | (simp only [List.length_map]; omega)) | ((first | refine Runs.cond_no rfl ?_ ?_ | refine Runs.cond_nyes rfl ?_ ?_); · first | omega | rfl | assumption | (simp only [List.length_map]; omega)) | refine Runs.cond_dec rfl (fun h => ?_) (fun h => ?_) | refine Runs.cond_ndec rfl (fun h => ?_) (fun h => ?_) | refine Runs.cond_nb rfl (fun h => ?_) (fun h => ?_) | refine Runs.cond_b rfl (fun h => ?_) (fun h => ?_) | refine Runs.ret (ends_ro hm rfl rfl ?_) | exact Runs.ret (ends_cellR hm rfl rfl rfl (Nat.le_of_ble_eq_true rfl) rfl rfl))
    | refine op_box rfl (tl hn rfl) ?_
    | refine op_storeF rfl rfl rfl rfl (Nat.le_of_ble_eq_true rfl) ?_
    | refine op_alloc (tl hn rfl) ?_
    | refine op_storeN rfl rfl rfl rfl (Nat.le_of_ble_eq_true rfl) ?_
    | (refine RunsL.pe hn rfl rfl rfl ?_; first
      | refine ⟨_, pu_add rfl rfl (by omega), ?_⟩
      | refine ⟨_, pu_indexAddr_map rfl rfl (by omega) (by assumption), ?_⟩
      | refine ⟨_, pu_sub rfl rfl (by omega), ?_⟩
      | refine ⟨_, pu_pick_b rfl rfl rfl, ?_⟩
      | refine ⟨_, pu_mul rfl rfl (by omega), ?_⟩
      | refine ⟨_, pu_build rfl rfl rfl rfl rfl rfl, ?_⟩))
  refine Runs.ctls 30 rfl (Runs.keep [(0, .ro (rulsR l)), (3, .own 0), (4, .int 0)] ⟨rfl, rfl, rfl, trivial⟩ ?_)
  refine Runs.loopV (fun n C S => ∃ (j : Nat) (us : List Value) (bs : List Nat), j + n = l.length ∧ C.n = 23 ∧ Sc C0 C ∧ OV.rels C.w0 ((l.take j).flatMap rulO) us bs ∧ (∀ b ∈ bs, b < C.w0.heap.size ∧ ¬ C.mu b ∧ ¬ C.ok b) ∧ bs.Nodup ∧ (∀ b ∈ bs, C0.w0.heap.size ≤ b) ∧ S = ⟨[(0, .ro (rulsR l)), (3, .own 0), (4, .int (j : Int))], [⟨73, 8, (us ++ (List.replicate (l.length - j) rulZ).flatten).map fun u => .ro (.c u)⟩]⟩) ?_ l.length C0 _ ⟨0, [], [], by omega, hn, Sc.start hm, by simp [OV.rels], by simp, by simp, by simp, ?_⟩
  · rintro n C S ⟨j, us, bs, hj, hn, hsc, hov, hfix, hnd, hnew, rfl⟩ ih
    have hul := OV.rels_len _ _ _ hov
    rw [rulO_len, List.length_take, Nat.min_eq_left (by omega)] at hul
    have hcl : (us ++ (List.replicate (l.length - j) rulZ).flatten).length = l.length * 8 := by
      rw [List.length_append, rep_flatten_len, hul, show rulZ.length = 8 from rfl]; omega
    by_cases hlt : j < l.length
    · obtain ⟨x, hx⟩ : ∃ x, l[(j : Int).toNat]? = some x := ⟨_, List.getElem?_eq_getElem hlt⟩
      have hx' : l[j]? = some x := hx
      have hm' := List.mem_of_getElem? hx'
      have hcall := toRulO_ac x (by have := sum_mem_le Rul.total hm'; omega)
      repeat' (first
        | refine RunsL.step tabOk hn rfl ?_
        | refine RunsL.nil ?_
        | refine Runs.toRegion 30 rfl ?_
        | (refine Runs.ctls 30 rfl ?_; first | refine Runs.cond_t rfl ?_ | refine Runs.cond_f rfl ?_ | ((first | refine Runs.cond_yes rfl ?_ ?_ | refine Runs.cond_nno rfl ?_ ?_); · first | omega | rfl | assumption | (simp only [List.length_map]; omega)) | ((first | refine Runs.cond_no rfl ?_ ?_ | refine Runs.cond_nyes rfl ?_ ?_); · first | omega | rfl | assumption | (simp only [List.length_map]; omega)) | refine Runs.cond_dec rfl (fun h => ?_) (fun h => ?_) | refine Runs.cond_ndec rfl (fun h => ?_) (fun h => ?_) | refine Runs.cond_nb rfl (fun h => ?_) (fun h => ?_) | refine Runs.cond_b rfl (fun h => ?_) (fun h => ?_) | refine Runs.ret (ends_ro hm rfl rfl ?_) | exact Runs.ret (ends_cellR hm rfl rfl rfl (Nat.le_of_ble_eq_true rfl) rfl rfl))
        | refine op_box rfl (tl hn rfl) ?_
        | refine op_storeF rfl rfl rfl rfl (Nat.le_of_ble_eq_true rfl) ?_
        | refine op_alloc (tl hn rfl) ?_
        | refine op_storeN rfl rfl rfl rfl (Nat.le_of_ble_eq_true rfl) ?_
        | (refine RunsL.pe hn rfl rfl rfl ?_; first
          | refine ⟨_, pu_add rfl rfl (by omega), ?_⟩
          | refine ⟨_, pu_indexAddr_map rfl rfl (by omega) (by assumption), ?_⟩
          | refine ⟨_, pu_sub rfl rfl (by omega), ?_⟩
          | refine ⟨_, pu_pick_b rfl rfl rfl, ?_⟩
          | refine ⟨_, pu_mul rfl rfl (by omega), ?_⟩
          | refine ⟨_, pu_build rfl rfl rfl rfl rfl rfl, ?_⟩))
      refine op_callN hcall (.cons .ro .nil) (tl hn rfl) fun C1 u1 b1 nx1 gh1 nd1 new1 => ?_
      have hrel := gh1.rel
      simp only [OV.rel] at hrel
      obtain ⟨vs, rfl, hvs⟩ := hrel
      obtain ⟨A1, n1, c1, A2, n2, c2, A3, n3, c3, A4, n4, c4, hE⟩ := rul_vals hvs
      obtain ⟨vs⟩ := vs
      simp only at hE hvs
      subst hE
      have hn := nx1.n.trans hn
      repeat' (first
        | refine RunsL.step tabOk hn rfl ?_
        | refine RunsL.nil ?_
        | refine Runs.toRegion 30 rfl ?_
        | refine op_storeN rfl rfl rfl rfl (by simp only [List.length_map, List.length_cons, List.length_nil, Int.toNat_natCast]; omega) ?_
        | (refine RunsL.pe hn rfl rfl rfl ?_; first
          | refine ⟨_, pu_indexAddr_own (n := l.length) rfl rfl rfl rfl (by simp only [List.length_map]; omega) (by omega) (by omega), ?_⟩)
        | (refine Runs.ctls 30 rfl ?_; first | refine Runs.cond_t rfl ?_ | refine Runs.cond_f rfl ?_ | ((first | refine Runs.cond_yes rfl ?_ ?_ | refine Runs.cond_nno rfl ?_ ?_); · first | omega | rfl | assumption | (simp only [List.length_map]; omega)) | ((first | refine Runs.cond_no rfl ?_ ?_ | refine Runs.cond_nyes rfl ?_ ?_); · first | omega | rfl | assumption | (simp only [List.length_map]; omega)) | refine Runs.cond_dec rfl (fun h => ?_) (fun h => ?_) | refine Runs.cond_ndec rfl (fun h => ?_) (fun h => ?_) | refine Runs.cond_nb rfl (fun h => ?_) (fun h => ?_) | refine Runs.cond_b rfl (fun h => ?_) (fun h => ?_) | refine Runs.ret (ends_ro hm rfl rfl ?_) | exact Runs.ret (ends_cellR hm rfl rfl rfl (Nat.le_of_ble_eq_true rfl) rfl rfl))
        | refine op_box rfl (tl hn rfl) ?_
        | refine op_storeF rfl rfl rfl rfl (Nat.le_of_ble_eq_true rfl) ?_
        | refine op_alloc (tl hn rfl) ?_
        | refine op_storeN rfl rfl rfl rfl (Nat.le_of_ble_eq_true rfl) ?_
        | (refine RunsL.pe hn rfl rfl rfl ?_; first
          | refine ⟨_, pu_add rfl rfl (by omega), ?_⟩
          | refine ⟨_, pu_indexAddr_map rfl rfl (by omega) (by assumption), ?_⟩
          | refine ⟨_, pu_sub rfl rfl (by omega), ?_⟩
          | refine ⟨_, pu_pick_b rfl rfl rfl, ?_⟩
          | refine ⟨_, pu_mul rfl rfl (by omega), ?_⟩
          | refine ⟨_, pu_build rfl rfl rfl rfl rfl rfl, ?_⟩))
      have hz1 := nx1.size
      refine Runs.ctls 30 rfl ?_
      refine Runs.keep [(0, .ro (rulsR l)), (3, .own 0), (4, .int ((j + 1 : Nat) : Int))] ⟨rfl, rfl, rfl, trivial⟩ ?_
      refine ih (n - 1) (by omega) C1 _ ⟨j + 1, us ++ [.string x.name, .int .i64 x.kind, .int .i64 x.size, .bool x.little, .slice A1 n1 c1, .slice A2 n2 c2, .slice A3 n3 c3, .slice A4 n4 c4], bs ++ b1, by omega, hn, hsc.next nx1 (by simp), ?_, fun b hb => ?_, ?_, fun b hb => ?_, ?_⟩
      · have e : l.take (j + 1) = l.take j ++ [x] := by rw [List.take_add_one, hx']; rfl
        rw [e, List.flatMap_append]
        refine OV.rels_append _ _ _ _ _ _ (OV.rels_keep _ _ _ hov fun b hb => nx1.block b (hfix b hb).1 (hfix b hb).2.1 (by simp)) ?_
        simpa using hvs
      · rcases List.mem_append.1 hb with hb | hb
        · refine ⟨Nat.lt_of_lt_of_le (hfix b hb).1 hz1, fun hm => ?_, fun ho => (hfix b hb).2.2 (nx1.ok b ho)⟩
          rcases nx1.mu b hm with h1 | h1
          · exact (hfix b hb).2.1 h1
          · have := (hfix b hb).1; omega
        · exact gh1.fix b hb
      · exact nodup_two C.w0.heap.size hnd nd1 (fun y hy => (hfix y hy).1) new1
      · rcases List.mem_append.1 hb with hb | hb
        · exact hnew b hb
        · have := new1 b hb; have := hsc.below.size; omega
      · congr 1
        simp only [List.set_cons_zero, Int.toNat_natCast, List.cons.injEq, Ob.mk.injEq, true_and, and_true]
        rw [List.map_append, sets_app _ _ _ _ (by rw [List.length_map, hul]) (by simp only [List.length_map, rep_flatten_len, show rulZ.length = 8 from rfl, List.length_cons, List.length_nil]; omega)]
        rw [show l.length - j = (l.length - (j + 1)) + 1 by omega, List.replicate_succ, List.flatten_cons]
        simp only [List.map_append, List.append_assoc]
        rfl
    · obtain rfl : j = l.length := by omega
      repeat' (first
        | refine RunsL.step tabOk hn rfl ?_
        | refine RunsL.nil ?_
        | refine Runs.toRegion 30 rfl ?_
        | (refine Runs.ctls 30 rfl ?_; first | refine Runs.cond_t rfl ?_ | refine Runs.cond_f rfl ?_ | ((first | refine Runs.cond_yes rfl ?_ ?_ | refine Runs.cond_nno rfl ?_ ?_); · first | omega | rfl | assumption | (simp only [List.length_map]; omega)) | ((first | refine Runs.cond_no rfl ?_ ?_ | refine Runs.cond_nyes rfl ?_ ?_); · first | omega | rfl | assumption | (simp only [List.length_map]; omega)) | refine Runs.cond_dec rfl (fun h => ?_) (fun h => ?_) | refine Runs.cond_ndec rfl (fun h => ?_) (fun h => ?_) | refine Runs.cond_nb rfl (fun h => ?_) (fun h => ?_) | refine Runs.cond_b rfl (fun h => ?_) (fun h => ?_) | refine Runs.ret (ends_ro hm rfl rfl ?_) | exact Runs.ret (ends_cellR hm rfl rfl rfl (Nat.le_of_ble_eq_true rfl) rfl rfl))
        | refine op_box rfl (tl hn rfl) ?_
        | refine op_storeF rfl rfl rfl rfl (Nat.le_of_ble_eq_true rfl) ?_
        | refine op_alloc (tl hn rfl) ?_
        | refine op_storeN rfl rfl rfl rfl (Nat.le_of_ble_eq_true rfl) ?_
        | (refine RunsL.pe hn rfl rfl rfl ?_; first
          | refine ⟨_, pu_add rfl rfl (by omega), ?_⟩
          | refine ⟨_, pu_indexAddr_map rfl rfl (by omega) (by assumption), ?_⟩
          | refine ⟨_, pu_sub rfl rfl (by omega), ?_⟩
          | refine ⟨_, pu_pick_b rfl rfl rfl, ?_⟩
          | refine ⟨_, pu_mul rfl rfl (by omega), ?_⟩
          | refine ⟨_, pu_build rfl rfl rfl rfl rfl rfl, ?_⟩))
      rw [List.take_length] at hov
      exact Runs.ctls 30 rfl (Runs.ret (endsO_row hsc rfl rfl (by simp) hov (fun b hb => ⟨(hfix b hb).1, (hfix b hb).2.1⟩) hnd hnew))
  · simp
    exact ⟨rfl, rfl⟩
theorem toDesO_ac (d : Des) (ht : dtotal d ≤ 1048576) : ACo Try.prog 12 [desR d] (desO d) := by
  refine aco_enter Try.func12 rfl _ Try.ntmps12 (by simp) fun C hn hm => ?_
  repeat' (first
    | refine RunsL.step tabOk hn rfl ?_
    | refine RunsL.nil ?_
    | refine Runs.toRegion 30 rfl ?_
    | (refine Runs.ctls 30 rfl ?_; first | refine Runs.cond_t rfl ?_ | refine Runs.cond_f rfl ?_ | ((first | refine Runs.cond_yes rfl ?_ ?_ | refine Runs.cond_nno rfl ?_ ?_); · first | omega | rfl | assumption | (simp only [List.length_map]; omega)) | ((first | refine Runs.cond_no rfl ?_ ?_ | refine Runs.cond_nyes rfl ?_ ?_); · first | omega | rfl | assumption | (simp only [List.length_map]; omega)) | refine Runs.cond_dec rfl (fun h => ?_) (fun h => ?_) | refine Runs.cond_ndec rfl (fun h => ?_) (fun h => ?_) | refine Runs.cond_nb rfl (fun h => ?_) (fun h => ?_) | refine Runs.cond_b rfl (fun h => ?_) (fun h => ?_) | refine Runs.ret (ends_ro hm rfl rfl ?_) | exact Runs.ret (ends_cellR hm rfl rfl rfl (Nat.le_of_ble_eq_true rfl) rfl rfl))
    | refine op_box rfl (tl hn rfl) ?_
    | refine op_storeF rfl rfl rfl rfl (Nat.le_of_ble_eq_true rfl) ?_
    | refine op_alloc (tl hn rfl) ?_
    | refine op_storeN rfl rfl rfl rfl (Nat.le_of_ble_eq_true rfl) ?_
    | (refine RunsL.pe hn rfl rfl rfl ?_; first
      | refine ⟨_, pu_add rfl rfl (by omega), ?_⟩
      | refine ⟨_, pu_indexAddr_map rfl rfl (by omega) (by assumption), ?_⟩
      | refine ⟨_, pu_sub rfl rfl (by omega), ?_⟩
      | refine ⟨_, pu_pick_b rfl rfl rfl, ?_⟩
      | refine ⟨_, pu_mul rfl rfl (by omega), ?_⟩
      | refine ⟨_, pu_build rfl rfl rfl rfl rfl rfl, ?_⟩))
  refine op_callN (toRulsO_ac d ht) (.cons .ro .nil) (tl hn rfl) fun C1 u1 b1 nx1 gh1 nd1 new1 => ?_
  obtain ⟨A1, n1, c1, rfl⟩ := row_slice gh1.rel
  have hn := nx1.n.trans hn
  repeat' (first
    | refine RunsL.step tabOk hn rfl ?_
    | refine RunsL.nil ?_
    | refine Runs.toRegion 30 rfl ?_
    | (refine Runs.ctls 30 rfl ?_; first | refine Runs.cond_t rfl ?_ | refine Runs.cond_f rfl ?_ | ((first | refine Runs.cond_yes rfl ?_ ?_ | refine Runs.cond_nno rfl ?_ ?_); · first | omega | rfl | assumption | (simp only [List.length_map]; omega)) | ((first | refine Runs.cond_no rfl ?_ ?_ | refine Runs.cond_nyes rfl ?_ ?_); · first | omega | rfl | assumption | (simp only [List.length_map]; omega)) | refine Runs.cond_dec rfl (fun h => ?_) (fun h => ?_) | refine Runs.cond_ndec rfl (fun h => ?_) (fun h => ?_) | refine Runs.cond_nb rfl (fun h => ?_) (fun h => ?_) | refine Runs.cond_b rfl (fun h => ?_) (fun h => ?_) | refine Runs.ret (ends_ro hm rfl rfl ?_) | exact Runs.ret (ends_cellR hm rfl rfl rfl (Nat.le_of_ble_eq_true rfl) rfl rfl))
    | refine op_box rfl (tl hn rfl) ?_
    | refine op_storeF rfl rfl rfl rfl (Nat.le_of_ble_eq_true rfl) ?_
    | refine op_alloc (tl hn rfl) ?_
    | refine op_storeN rfl rfl rfl rfl (Nat.le_of_ble_eq_true rfl) ?_
    | (refine RunsL.pe hn rfl rfl rfl ?_; first
      | refine ⟨_, pu_add rfl rfl (by omega), ?_⟩
      | refine ⟨_, pu_indexAddr_map rfl rfl (by omega) (by assumption), ?_⟩
      | refine ⟨_, pu_sub rfl rfl (by omega), ?_⟩
      | refine ⟨_, pu_pick_b rfl rfl rfl, ?_⟩
      | refine ⟨_, pu_mul rfl rfl (by omega), ?_⟩
      | refine ⟨_, pu_build rfl rfl rfl rfl rfl rfl, ?_⟩))
  refine Runs.ctls 30 rfl (Runs.ret (endsO_cell (us := [.slice A1 n1 c1]) (bs := b1) ((Sc.start hm).next nx1 (by simp)) rfl rfl rfl rfl rfl ?_ (fun b hb => ⟨(gh1.fix b hb).1, (gh1.fix b hb).2.1⟩) nd1 new1))
  simp only [OV.rels]
  exact ⟨_, _, b1, [], rfl, by simp, gh1.rel, rfl, rfl⟩
end Go.Proofs.Ytignpklaefibaaa
/- Marks on flat rows: written, and found again. -/
namespace Go.Proofs.Ytignpklaefibaaa
set_option linter.unusedSimpArgs false
set_option linter.unusedVariables false
open Go.RowKit
open AV (Mem Keeps)
theorem rels_cs {w : World} : ∀ (vs us : List Value) (bs : List Nat), OV.rels w (vs.map .c) us bs → us = vs ∧ bs = []
  | [], us, bs, h => by simpa [OV.rels] using h
  | v :: vs, us, bs, h => by
    simp only [List.map_cons, OV.rels, OV.rel] at h
    obtain ⟨u, us', b, bs', rfl, rfl, ⟨rfl, rfl⟩, h2⟩ := h
    obtain ⟨rfl, rfl⟩ := rels_cs vs us' bs' h2
    exact ⟨rfl, rfl⟩
theorem row_block {w : World} {e : TypeId} {vs : List Value} {u : Value} {bs : List Nat} (h : OV.rel w (.row e 1 (vs.map .c)) u bs) :
    (u = .slice none 0 0 ∧ vs = [] ∧ bs = []) ∨ ∃ g cap cur, u = .slice (some ⟨g, 0, none⟩) vs.length cap ∧ bs = [g] ∧ w.heap[g]? = some (.cells cur e (0, 0)) ∧ vs.length ≤ cap ∧ cap ≤ maxLen ∧ cur.size = cap ∧ cur.toList.take vs.length = vs := by
  simp only [OV.rel] at h
  obtain ⟨n, xs, bs', h1, h2, h3, h4, h5, rfl⟩ := h
  obtain ⟨rfl, rfl⟩ := rels_cs vs xs bs' h3
  rw [List.length_map, Nat.mul_one] at h1
  subst h1
  rcases h5.2 with ⟨rfl, h0⟩ | ⟨g, cap, cur, rfl, _, hh, c1, c2, c3, ht⟩
  · exact .inl ⟨rfl, List.eq_nil_of_length_eq_zero h0, rfl⟩
  · rw [Nat.mul_one] at c3 ht
    exact .inr ⟨g, cap, cur, rfl, rfl, hh, c1, c2, c3, ht⟩
theorem block_row {w : World} {e : TypeId} {vs : List Value} {g cap : Nat} {cur : Array Value} (hh : w.heap[g]? = some (.cells cur e (0, 0))) (c1 : vs.length ≤ cap) (c2 : cap ≤ maxLen) (c3 : cur.size = cap) (ht : cur.toList.take vs.length = vs) (h1 : ∀ x ∈ vs, x.oneCell' = true) :
    OV.rel w (.row e 1 (vs.map .c)) (.slice (some ⟨g, 0, none⟩) vs.length cap) [g] := by
  simp only [OV.rel]
  exact ⟨vs.length, vs, [], by simp, by omega, OV.rels_c vs, h1, ⟨by simp, .inr ⟨g, cap, cur, rfl, Nat.zero_le _, hh, c1, c2, by omega, by rw [Nat.mul_one]; exact ht⟩⟩, rfl⟩
/-- The marks of n cells. -/
def seqI (k : Int) (n : Nat) : List Int := (List.range n).map fun (i : Nat) => k + (i : Int)
theorem seqI_len (k : Int) (n : Nat) : (seqI k n).length = n := by unfold seqI; simp
theorem seqI_at {k : Int} {n i : Nat} (h : i < n) : (seqI k n)[i]? = some (k + i) := by unfold seqI; simp [h]
theorem seqI_succ (k : Int) (n : Nat) : seqI k (n + 1) = seqI k n ++ [k + n] := by unfold seqI; rw [List.range_succ, List.map_append]; rfl
/-- One more cell is marked. -/
theorem mark_next {cur : Array Value} {n j : Nat} {f : Int → Value} {k : Int} {vs : List Value} (hn : n ≤ cur.size) (hl : vs.length = n) (hj : j < n) (h : cur.toList.take n = (seqI k j).map f ++ vs.drop j) :
    (cur.setIfInBounds j (f (k + j))).toList.take n = (seqI k (j + 1)).map f ++ vs.drop (j + 1) := by
  rw [Array.toList_setIfInBounds, List.take_set, h, seqI_succ, List.map_append, List.append_assoc]
  have hs : ((seqI k j).map f).length = j := by rw [List.length_map, seqI_len]
  rw [List.set_append_right _ _ (by omega), hs, Nat.sub_self]
  have hd : vs.drop j = vs[j] :: vs.drop (j + 1) := (List.drop_eq_getElem_cons (by omega))
  rw [hd]
  rfl
set_option maxHeartbeats 8000000 in
theorem markIntS_mk (l : List Int) (k : Int) (h0 : 0 ≤ k) (hk : k ≤ 4611686018427387904) (hll : l.length ≤ 4194304) : MK Try.prog 31 (intsO l) k (k + l.length) (intsO (seqI k l.length)) := by
  intro w u bs h hnd hlt
  have hl : (l.map fun z => Value.int .i64 z).length = l.length := List.length_map ..
  rcases row_block h with ⟨rfl, h1, rfl⟩ | ⟨g, cap, cur, rfl, rfl, hh, c1, c2, c3, ht⟩
  · obtain rfl : l = [] := by simpa using h1
    refine mark_enter (X := fun w' => OV.rel w' (intsO (seqI k 0)) (.slice none 0 0) []) Try.func31 rfl _ Try.ntmps31 (by simp) hlt ?_
    generalize hC0 : (⟨w, fun b => b ∉ ([] : List Nat), fun _ => False, _⟩ : Ctx) = C0
    have hn : C0.n = 19 := by rw [← hC0]
    have hm0 : ∀ b, ¬ C0.mu b := by rw [← hC0]; exact fun _ h => h
    repeat' (first
      | refine RunsL.step tabOk hn rfl ?_
      | refine RunsL.nil ?_
      | refine Runs.toRegion 30 rfl ?_
      | (refine Runs.ctls 30 rfl ?_; first | refine Runs.cond_t rfl ?_ | refine Runs.cond_f rfl ?_ | ((first | refine Runs.cond_yes rfl ?_ ?_ | refine Runs.cond_nno rfl ?_ ?_); · first | omega | rfl | assumption | (simp only [List.length_map]; omega)) | ((first | refine Runs.cond_no rfl ?_ ?_ | refine Runs.cond_nyes rfl ?_ ?_); · first | omega | rfl | assumption | (simp only [List.length_map]; omega)) | refine Runs.cond_dec rfl (fun h => ?_) (fun h => ?_) | refine Runs.cond_ndec rfl (fun h => ?_) (fun h => ?_) | refine Runs.cond_nb rfl (fun h => ?_) (fun h => ?_) | refine Runs.cond_b rfl (fun h => ?_) (fun h => ?_) | refine Runs.ret (ends_ro hm rfl rfl ?_) | exact Runs.ret (ends_cellR hm rfl rfl rfl (Nat.le_of_ble_eq_true rfl) rfl rfl))
      | refine op_box rfl (tl hn rfl) ?_
      | refine op_storeF rfl rfl rfl rfl (Nat.le_of_ble_eq_true rfl) ?_
      | refine op_alloc (tl hn rfl) ?_
      | refine op_storeN rfl rfl rfl rfl (Nat.le_of_ble_eq_true rfl) ?_
      | (refine RunsL.pe hn rfl rfl rfl ?_; first
        | refine ⟨_, pu_add rfl rfl (by omega), ?_⟩
        | refine ⟨_, pu_indexAddr_map rfl rfl (by omega) (by assumption), ?_⟩
        | refine ⟨_, pu_sub rfl rfl (by omega), ?_⟩
        | refine ⟨_, pu_pick_b rfl rfl rfl, ?_⟩
        | refine ⟨_, pu_mul rfl rfl (by omega), ?_⟩
        | refine ⟨_, pu_build rfl rfl rfl rfl rfl rfl, ?_⟩))
    refine Runs.ctls 30 rfl (Runs.keep [(0, .ro (.c (.slice none 0 0))), (1, .int k), (5, .int 0)] ⟨rfl, rfl, rfl, trivial⟩ ?_)
    refine Runs.loopV (fun n C S => C = C0 ∧ S = ⟨[(0, .ro (.c (.slice none 0 0))), (1, .int k), (5, .int 0)], []⟩) ?_ 0 C0 _ ⟨rfl, rfl⟩
    rintro n C S ⟨rfl, rfl⟩ ih
    repeat' (first
      | refine RunsL.step tabOk hn rfl ?_
      | refine RunsL.nil ?_
      | refine Runs.toRegion 30 rfl ?_
      | (refine RunsL.pe hn rfl rfl rfl ?_; first
        | refine ⟨_, pu_lenC rfl, ?_⟩)
      | (refine Runs.ctls 30 rfl ?_; first | refine Runs.cond_t rfl ?_ | refine Runs.cond_f rfl ?_ | ((first | refine Runs.cond_yes rfl ?_ ?_ | refine Runs.cond_nno rfl ?_ ?_); · first | omega | rfl | assumption | (simp only [List.length_map]; omega)) | ((first | refine Runs.cond_no rfl ?_ ?_ | refine Runs.cond_nyes rfl ?_ ?_); · first | omega | rfl | assumption | (simp only [List.length_map]; omega)) | refine Runs.cond_dec rfl (fun h => ?_) (fun h => ?_) | refine Runs.cond_ndec rfl (fun h => ?_) (fun h => ?_) | refine Runs.cond_nb rfl (fun h => ?_) (fun h => ?_) | refine Runs.cond_b rfl (fun h => ?_) (fun h => ?_) | refine Runs.ret (ends_ro hm rfl rfl ?_) | exact Runs.ret (ends_cellR hm rfl rfl rfl (Nat.le_of_ble_eq_true rfl) rfl rfl))
      | refine op_box rfl (tl hn rfl) ?_
      | refine op_storeF rfl rfl rfl rfl (Nat.le_of_ble_eq_true rfl) ?_
      | refine op_alloc (tl hn rfl) ?_
      | refine op_storeN rfl rfl rfl rfl (Nat.le_of_ble_eq_true rfl) ?_
      | (refine RunsL.pe hn rfl rfl rfl ?_; first
        | refine ⟨_, pu_add rfl rfl (by omega), ?_⟩
        | refine ⟨_, pu_indexAddr_map rfl rfl (by omega) (by assumption), ?_⟩
        | refine ⟨_, pu_sub rfl rfl (by omega), ?_⟩
        | refine ⟨_, pu_pick_b rfl rfl rfl, ?_⟩
        | refine ⟨_, pu_mul rfl rfl (by omega), ?_⟩
        | refine ⟨_, pu_build rfl rfl rfl rfl rfl rfl, ?_⟩))
    refine Runs.ctls 30 rfl (Runs.ret (endsM (Nx.refl _ _) hm0 rfl (by show look _ _ = _; simp [look]) fun φ w hG => ?_))
    simp only [intsO, seqI, OV.rel, List.range_zero, List.map_nil, OV.rels]
    exact ⟨0, [], [], rfl, by omega, ⟨rfl, rfl⟩, by simp, ⟨rfl, .inl ⟨rfl, rfl⟩⟩, rfl⟩
  · rw [hl] at c1 ht ⊢
    refine mark_enter (X := fun w' => OV.rel w' (intsO (seqI k l.length)) (.slice (some ⟨g, 0, none⟩) l.length cap) [g]) Try.func31 rfl _ Try.ntmps31 (by simp) hlt ?_
    generalize hC0 : (⟨w, fun b => b ∉ [g], fun _ => False, _⟩ : Ctx) = C0
    have hn : C0.n = 19 := by rw [← hC0]
    have hm0 : ∀ b, ¬ C0.mu b := by rw [← hC0]; exact fun _ h => h
    have hb0 : Bk C0 g cur 3 := by rw [← hC0]; exact ⟨hh, fun h => h, fun h => h (by simp)⟩
    repeat' (first
      | refine RunsL.step tabOk hn rfl ?_
      | refine RunsL.nil ?_
      | refine Runs.toRegion 30 rfl ?_
      | (refine Runs.ctls 30 rfl ?_; first | refine Runs.cond_t rfl ?_ | refine Runs.cond_f rfl ?_ | ((first | refine Runs.cond_yes rfl ?_ ?_ | refine Runs.cond_nno rfl ?_ ?_); · first | omega | rfl | assumption | (simp only [List.length_map]; omega)) | ((first | refine Runs.cond_no rfl ?_ ?_ | refine Runs.cond_nyes rfl ?_ ?_); · first | omega | rfl | assumption | (simp only [List.length_map]; omega)) | refine Runs.cond_dec rfl (fun h => ?_) (fun h => ?_) | refine Runs.cond_ndec rfl (fun h => ?_) (fun h => ?_) | refine Runs.cond_nb rfl (fun h => ?_) (fun h => ?_) | refine Runs.cond_b rfl (fun h => ?_) (fun h => ?_) | refine Runs.ret (ends_ro hm rfl rfl ?_) | exact Runs.ret (ends_cellR hm rfl rfl rfl (Nat.le_of_ble_eq_true rfl) rfl rfl))
      | refine op_box rfl (tl hn rfl) ?_
      | refine op_storeF rfl rfl rfl rfl (Nat.le_of_ble_eq_true rfl) ?_
      | refine op_alloc (tl hn rfl) ?_
      | refine op_storeN rfl rfl rfl rfl (Nat.le_of_ble_eq_true rfl) ?_
      | (refine RunsL.pe hn rfl rfl rfl ?_; first
        | refine ⟨_, pu_add rfl rfl (by omega), ?_⟩
        | refine ⟨_, pu_indexAddr_map rfl rfl (by omega) (by assumption), ?_⟩
        | refine ⟨_, pu_sub rfl rfl (by omega), ?_⟩
        | refine ⟨_, pu_pick_b rfl rfl rfl, ?_⟩
        | refine ⟨_, pu_mul rfl rfl (by omega), ?_⟩
        | refine ⟨_, pu_build rfl rfl rfl rfl rfl rfl, ?_⟩))
    refine Runs.ctls 30 rfl (Runs.keep [(0, .ro (.c (.slice (some ⟨g, 0, none⟩) l.length cap))), (1, .int k), (5, .int 0)] ⟨rfl, rfl, rfl, trivial⟩ ?_)
    refine Runs.loopV (fun n C S => ∃ (j : Nat) (cu : Array Value), j + n = l.length ∧ C.n = 19 ∧ Nx C0 C [g] ∧ Bk C g cu 3 ∧ cu.size = cap ∧ cu.toList.take l.length = (seqI k j).map (Value.int .i64) ++ (l.map fun z => Value.int .i64 z).drop j ∧ S = ⟨[(0, .ro (.c (.slice (some ⟨g, 0, none⟩) l.length cap))), (1, .int (k + j)), (5, .int (j : Int))], []⟩) ?_ l.length C0 _ ⟨0, cur, by omega, hn, Nx.refl _ _, hb0, c3, by rw [ht]; rfl, by rw [show k + ((0 : Nat) : Int) = k by omega]; rfl⟩
    rintro n C S ⟨j, cu, hj, hn, hnx, hb, hcu, htk, rfl⟩ ih
    by_cases hlt' : j < l.length
    · repeat' (first
      | (refine op_storeC rfl rfl rfl hb (by simp; omega) fun C' nx hb' => ?_; have hn := nx.n.trans hn)
      | refine RunsL.step tabOk hn rfl ?_
      | refine RunsL.nil ?_
      | refine Runs.toRegion 30 rfl ?_
      | (refine RunsL.pe hn rfl rfl rfl ?_; first
        | refine ⟨_, pu_lenC rfl, ?_⟩
        | refine ⟨_, pu_indexC rfl rfl (by omega) (by omega), ?_⟩)
      | (refine Runs.ctls 30 rfl ?_; first | refine Runs.cond_t rfl ?_ | refine Runs.cond_f rfl ?_ | ((first | refine Runs.cond_yes rfl ?_ ?_ | refine Runs.cond_nno rfl ?_ ?_); · first | omega | rfl | assumption | (simp only [List.length_map]; omega)) | ((first | refine Runs.cond_no rfl ?_ ?_ | refine Runs.cond_nyes rfl ?_ ?_); · first | omega | rfl | assumption | (simp only [List.length_map]; omega)) | refine Runs.cond_dec rfl (fun h => ?_) (fun h => ?_) | refine Runs.cond_ndec rfl (fun h => ?_) (fun h => ?_) | refine Runs.cond_nb rfl (fun h => ?_) (fun h => ?_) | refine Runs.cond_b rfl (fun h => ?_) (fun h => ?_) | refine Runs.ret (ends_ro hm rfl rfl ?_) | exact Runs.ret (ends_cellR hm rfl rfl rfl (Nat.le_of_ble_eq_true rfl) rfl rfl))
      | refine op_box rfl (tl hn rfl) ?_
      | refine op_storeF rfl rfl rfl rfl (Nat.le_of_ble_eq_true rfl) ?_
      | refine op_alloc (tl hn rfl) ?_
      | refine op_storeN rfl rfl rfl rfl (Nat.le_of_ble_eq_true rfl) ?_
      | (refine RunsL.pe hn rfl rfl rfl ?_; first
        | refine ⟨_, pu_add rfl rfl (by omega), ?_⟩
        | refine ⟨_, pu_indexAddr_map rfl rfl (by omega) (by assumption), ?_⟩
        | refine ⟨_, pu_sub rfl rfl (by omega), ?_⟩
        | refine ⟨_, pu_pick_b rfl rfl rfl, ?_⟩
        | refine ⟨_, pu_mul rfl rfl (by omega), ?_⟩
        | refine ⟨_, pu_build rfl rfl rfl rfl rfl rfl, ?_⟩))
      have e : ((j : Int).toNat * 1) = j := by omega
      rw [e] at hb'
      have hmn := mark_next (f := Value.int .i64) (k := k) (vs := l.map fun z => Value.int .i64 z) (cur := cu) (by omega) hl hlt' htk
      refine Runs.ctls 30 rfl (Runs.keep [(0, .ro (.c (.slice (some ⟨g, 0, none⟩) l.length cap))), (1, .int (k + ((j + 1 : Nat) : Int))), (5, .int ((j + 1 : Nat) : Int))] ⟨rfl, by simp only [look]; exact av_int (by omega), by simp only [look]; exact av_int (by omega), trivial⟩ (ih (n - 1) (by omega) _ _ ⟨j + 1, _, by omega, hn, (hnx.trans nx).sub (by simp), hb', by simpa using hcu, hmn, rfl⟩))
    · obtain rfl : j = l.length := by omega
      repeat' (first
        | refine RunsL.step tabOk hn rfl ?_
        | refine RunsL.nil ?_
        | refine Runs.toRegion 30 rfl ?_
        | (refine RunsL.pe hn rfl rfl rfl ?_; first
          | refine ⟨_, pu_lenC rfl, ?_⟩)
        | (refine Runs.ctls 30 rfl ?_; first | refine Runs.cond_t rfl ?_ | refine Runs.cond_f rfl ?_ | ((first | refine Runs.cond_yes rfl ?_ ?_ | refine Runs.cond_nno rfl ?_ ?_); · first | omega | rfl | assumption | (simp only [List.length_map]; omega)) | ((first | refine Runs.cond_no rfl ?_ ?_ | refine Runs.cond_nyes rfl ?_ ?_); · first | omega | rfl | assumption | (simp only [List.length_map]; omega)) | refine Runs.cond_dec rfl (fun h => ?_) (fun h => ?_) | refine Runs.cond_ndec rfl (fun h => ?_) (fun h => ?_) | refine Runs.cond_nb rfl (fun h => ?_) (fun h => ?_) | refine Runs.cond_b rfl (fun h => ?_) (fun h => ?_) | refine Runs.ret (ends_ro hm rfl rfl ?_) | exact Runs.ret (ends_cellR hm rfl rfl rfl (Nat.le_of_ble_eq_true rfl) rfl rfl))
        | refine op_box rfl (tl hn rfl) ?_
        | refine op_storeF rfl rfl rfl rfl (Nat.le_of_ble_eq_true rfl) ?_
        | refine op_alloc (tl hn rfl) ?_
        | refine op_storeN rfl rfl rfl rfl (Nat.le_of_ble_eq_true rfl) ?_
        | (refine RunsL.pe hn rfl rfl rfl ?_; first
          | refine ⟨_, pu_add rfl rfl (by omega), ?_⟩
          | refine ⟨_, pu_indexAddr_map rfl rfl (by omega) (by assumption), ?_⟩
          | refine ⟨_, pu_sub rfl rfl (by omega), ?_⟩
          | refine ⟨_, pu_pick_b rfl rfl rfl, ?_⟩
          | refine ⟨_, pu_mul rfl rfl (by omega), ?_⟩
          | refine ⟨_, pu_build rfl rfl rfl rfl rfl rfl, ?_⟩))
      refine Runs.ctls 30 rfl (Runs.ret (endsM hnx hm0 rfl rfl fun φ w hG => ?_))
      have hvl : ((seqI k l.length).map (Value.int .i64)).length = l.length := by rw [List.length_map, seqI_len]
      have hbr := block_row (vs := (seqI k l.length).map (Value.int .i64)) (hb.now hG) (by rw [hvl]; exact c1) c2 hcu (by rw [hvl, htk, List.drop_of_length_le (by rw [hl]; exact Nat.le_refl _), List.append_nil]) (fun x hx => by obtain ⟨z, _, rfl⟩ := List.mem_map.1 hx; rfl)
      rw [hvl] at hbr
      exact hbr
end Go.Proofs.Ytignpklaefibaaa
