/- Gathered texts. -/
import Derived.Test.YtnecoghfhcimeaaGat0
import Derived.Test.YtnecoghfhcimeaaGat1
import Derived.Test.YtnecoghfhcimeaaGat2
import Derived.Test.YtnecoghfhcimeaaGat3
/- The code of a rule: the reference's side, whole. -/
namespace Go.Proofs.Ytnecoghfhcimeaa
set_option linter.unusedSimpArgs false
set_option linter.unusedVariables false
open Go.RowKit
open AV (Mem Keeps)
set_option maxRecDepth 100000
set_option maxHeartbeats 16000000 in
theorem spec_compile_yes (d : Des) (hd : dtotal d ≤ 1048576) (hG : Good' d) (n : Nat) (x : Rul) (hx : d[n]? = some x) (s : Int) (en : List Int) (hkn : ACv Try.prog 77 [desR d, .int (n : Int)] (.bool true)) (hen : n ≤ en.length) :
    AC Try.prog 95 [desR d, .int (n : Int), .int s, intsR en] (fun rr => rr = .row 59 3 ((ruleI x s en).flatMap insR)) := by
  have hk := kind_at hG hx
  have hr : RuleOkC d x en := ⟨hk, fun k z hz => by have := kids_at hG hx hz; omega⟩
  obtain ⟨b1, b2⟩ := cmp_bounds hk
  have hlm : (d.map rulR).length = d.length := List.length_map ..
  have hle : (en.map fun z => [RV.int z]).length = en.length := List.length_map ..
  have hlk : (x.kids.map fun z => [RV.int z]).length = x.kids.length := List.length_map ..
  have hlt' : (x.tags.map fun z => [RV.int z]).length = x.tags.length := List.length_map ..
  have hlb : (x.bytes.map fun z => [RV.u8 z]).length = x.bytes.length := List.length_map ..
  have hx' : d[(n : Int).toNat]? = some x := hx
  have hxt := sum_mem_le Rul.total (List.mem_of_getElem? hx)
  have et : dtotal d = d.length + (d.map Rul.total).sum := rfl
  have etx : x.total = x.name.size + x.bytes.length + (x.names.length + (x.names.map ByteArray.size).sum) + x.tags.length + x.kids.length := rfl
  obtain ⟨f5, f7, f8, f4⟩ := item_fields hk
  have hbl := body_len s (en := en) hk (by omega)
  have hkk : x.kind = 1 ∨ x.kind = 2 ∨ x.kind = 3 ∨ x.kind = 4 ∨ x.kind = 5 ∨ x.kind = 6 ∨ x.kind = 7 ∨ x.kind = 8 ∨ x.kind = 9 ∨ x.kind = 10 := by omega
  refine ac_enter Try.func95 rfl _ Try.ntmps95 (by simp) fun C hn hm => ?_
  rcases hkk with e | e | e | e | e | e | e | e | e | e
  · repeat' (first
 | refine Runs.toDrawT (id := 8) 30 [] [0, 1, 2, 3, 4, 5, 6] 7 [] mixed hn rfl (by kernel_rfl) rfl .nil (by decide) (by decide) (by decide) ?_
 | refine op_build0 (tl hn rfl) ?_
 | refine op_appendB rfl rfl rfl rfl rfl rfl (by simp) (by repeat' (first | exact trivial | exact onlys_ro _ _ | refine ⟨?_, ?_⟩)) (by simp) rfl (tl hn rfl) ?_
 | refine RunsT.nil ?_
 | refine RunsT.step tabOk rfl rfl (fun _ => rfl) (by decide) ?_
 | refine RunsT.pur (fun _ => pu_callR hkn rfl) (by decide) rfl rfl ?_
 | refine RunsT.pur (fun _ => pu_callR (l15Little_ac _) rfl) (by decide) rfl rfl ?_
 | refine RunsT.pur (fun _ => pu_callR (l15Op_ac _ _ _) rfl) (by decide) rfl rfl ?_
 | refine RunsT.pur (fun _ => pu_build rfl rfl rfl rfl rfl rfl) (by decide) rfl rfl ?_
 | refine RunsT.pur (fun _ => pu_add rfl rfl (by omega)) (by decide) rfl rfl ?_
 | refine RunsT.pur (fun _ => pu_indexAddr_map rfl rfl (by omega) (by assumption)) (by decide) rfl rfl ?_
 | refine RunsL.step tabOk hn rfl ?_
 | refine RunsL.nil ?_
 | refine Runs.toRegion 30 rfl ?_
 | ((first | refine RunsL.pe hn rfl rfl rfl ?_ | refine RunsD.pe rfl rfl ?_); first
 | refine ⟨_, pu_callR hkn rfl, ?_⟩
 | refine ⟨_, pu_callR (l15Little_ac _) rfl, ?_⟩
 | refine ⟨_, pu_callR (l15Op_ac _ _ _) rfl, ?_⟩
 | refine ⟨_, pu_build rfl rfl rfl rfl rfl rfl, ?_⟩)
 | (refine Runs.ctls 30 rfl ?_; first | ((first | refine Runs.cond_yes rfl ?_ ?_ | refine Runs.cond_nno rfl ?_ ?_); · first | omega | rfl | assumption | (simp only [List.length_map]; omega)) | ((first | refine Runs.cond_no rfl ?_ ?_ | refine Runs.cond_nyes rfl ?_ ?_); · first | omega | rfl | assumption | (simp only [List.length_map]; omega)) | refine Runs.ret (ends_ro hm rfl rfl ?_) | exact Runs.ret (ends_cellR hm rfl rfl rfl (Nat.le_of_ble_eq_true rfl) rfl rfl))
 | refine op_box rfl (tl hn rfl) ?_
 | refine op_alloc (tl hn rfl) ?_
 | refine op_storeN rfl rfl rfl rfl (Nat.le_of_ble_eq_true rfl) ?_
 | ((first | refine RunsL.pe hn rfl rfl rfl ?_ | refine RunsD.pe rfl rfl ?_); first
 | refine ⟨_, pu_add rfl rfl (by omega), ?_⟩
 | refine ⟨_, pu_indexAddr_map rfl rfl (by omega) (by assumption), ?_⟩
 | refine ⟨_, pu_sub rfl rfl (by omega), ?_⟩
 | refine ⟨_, pu_pick_b rfl rfl rfl, ?_⟩
 | refine ⟨_, pu_mul rfl rfl (by omega), ?_⟩
 | refine ⟨_, pu_build rfl rfl rfl rfl rfl rfl, ?_⟩)
 | ((first | refine RunsL.guard_dec rfl rfl rfl ?_ ?_ | refine RunsL.guard_ndec rfl rfl rfl ?_ ?_ | refine RunsL.guard_nb rfl rfl rfl ?_ ?_ | refine RunsL.guard_b rfl rfl rfl ?_ ?_ | refine RunsD.guard_dec rfl rfl rfl ?_ ?_ | refine RunsD.guard_ndec rfl rfl rfl ?_ ?_ | refine RunsD.guard_nb rfl rfl rfl ?_ ?_ | refine RunsD.guard_b rfl rfl rfl ?_ ?_) <;> intro h <;> try (exfalso; first | omega | contradiction | (simp only [List.length_map] at h; omega))))
    refine Runs.ctls 30 rfl (Runs.ret (ends_own (rs := (ruleI x s en).flatMap insR) hm rfl rfl rfl ?_ rfl))
    have hE : ruleI x s en = [⟨1, x.size, if x.little = true then 1 else 0⟩, ⟨10, 0, 0⟩] := by simp [ruleI, bodyI, e]
    rw [hE]
    rfl
  · repeat' (first
 | refine op_build0 (tl hn rfl) ?_
 | refine RunsL.step tabOk hn rfl ?_
 | refine RunsL.nil ?_
 | refine Runs.toRegion 30 rfl ?_
 | ((first | refine RunsL.pe hn rfl rfl rfl ?_ | refine RunsD.pe rfl rfl ?_); first
 | refine ⟨_, pu_callR hkn rfl, ?_⟩)
 | (refine Runs.ctls 30 rfl ?_; first | ((first | refine Runs.cond_yes rfl ?_ ?_ | refine Runs.cond_nno rfl ?_ ?_); · first | omega | rfl | assumption | (simp only [List.length_map]; omega)) | ((first | refine Runs.cond_no rfl ?_ ?_ | refine Runs.cond_nyes rfl ?_ ?_); · first | omega | rfl | assumption | (simp only [List.length_map]; omega)) | refine Runs.ret (ends_ro hm rfl rfl ?_) | exact Runs.ret (ends_cellR hm rfl rfl rfl (Nat.le_of_ble_eq_true rfl) rfl rfl))
 | refine op_box rfl (tl hn rfl) ?_
 | refine op_alloc (tl hn rfl) ?_
 | refine op_storeN rfl rfl rfl rfl (Nat.le_of_ble_eq_true rfl) ?_
 | ((first | refine RunsL.pe hn rfl rfl rfl ?_ | refine RunsD.pe rfl rfl ?_); first
 | refine ⟨_, pu_add rfl rfl (by omega), ?_⟩
 | refine ⟨_, pu_indexAddr_map rfl rfl (by omega) (by assumption), ?_⟩
 | refine ⟨_, pu_sub rfl rfl (by omega), ?_⟩
 | refine ⟨_, pu_pick_b rfl rfl rfl, ?_⟩
 | refine ⟨_, pu_mul rfl rfl (by omega), ?_⟩
 | refine ⟨_, pu_build rfl rfl rfl rfl rfl rfl, ?_⟩)
 | ((first | refine RunsL.guard_dec rfl rfl rfl ?_ ?_ | refine RunsL.guard_ndec rfl rfl rfl ?_ ?_ | refine RunsL.guard_nb rfl rfl rfl ?_ ?_ | refine RunsL.guard_b rfl rfl rfl ?_ ?_ | refine RunsD.guard_dec rfl rfl rfl ?_ ?_ | refine RunsD.guard_ndec rfl rfl rfl ?_ ?_ | refine RunsD.guard_nb rfl rfl rfl ?_ ?_ | refine RunsD.guard_b rfl rfl rfl ?_ ?_) <;> intro h <;> try (exfalso; first | omega | contradiction | (simp only [List.length_map] at h; omega))))
    refine Runs.loopN 30 rfl (fun j => [(9, .own 1), (10, .obj 2 0), (11, .int (j : Int))]) (fun j => [⟨38, 0, [.ro (rulsR d)]⟩, ⟨59, 3, ((conI (x.bytes.take j)).flatMap insR).map .ro⟩, ⟨52, 0, (rulR x).map .ro⟩]) (fun _ => True) x.bytes.length 0 (Nat.zero_le _) trivial ⟨rfl, rfl, rfl, trivial⟩ rfl fun j hj _ next => ?_
    have hcl := conI_len x.bytes j
    have hfl := insR_flat (conI (x.bytes.take j))
    by_cases hlt : j < x.bytes.length
    · obtain ⟨b, hb⟩ : ∃ b, x.bytes[(j : Int).toNat]? = some b := ⟨_, List.getElem?_eq_getElem hlt⟩
      have hb' : x.bytes[j]? = some b := hb
      repeat' (first
 | refine op_append (n := (conI (x.bytes.take j)).length) rfl rfl rfl rfl rfl rfl (by rw [hfl]) (FreeI.at_ (i := 1) (by repeat' (first | exact trivial | exact onlys_ro _ _ | refine ⟨?_, ?_⟩))) (by simp; omega) (by simp; omega) (tl hn rfl) ?_
 | refine RunsL.step tabOk hn rfl ?_
 | refine RunsL.nil ?_
 | refine Runs.toRegion 30 rfl ?_
 | ((first | refine RunsL.pe hn rfl rfl rfl ?_ | refine RunsD.pe rfl rfl ?_); first
 | refine ⟨_, pu_callR (l15Op_ac _ _ _) rfl, ?_⟩
 | refine ⟨_, pu_ofU8 rfl, ?_⟩)
 | (refine Runs.ctls 30 rfl ?_; first | ((first | refine Runs.cond_yes rfl ?_ ?_ | refine Runs.cond_nno rfl ?_ ?_); · first | omega | rfl | assumption | (simp only [List.length_map]; omega)) | ((first | refine Runs.cond_no rfl ?_ ?_ | refine Runs.cond_nyes rfl ?_ ?_); · first | omega | rfl | assumption | (simp only [List.length_map]; omega)) | refine Runs.ret (ends_ro hm rfl rfl ?_) | exact Runs.ret (ends_cellR hm rfl rfl rfl (Nat.le_of_ble_eq_true rfl) rfl rfl))
 | refine op_box rfl (tl hn rfl) ?_
 | refine op_alloc (tl hn rfl) ?_
 | refine op_storeN rfl rfl rfl rfl (Nat.le_of_ble_eq_true rfl) ?_
 | ((first | refine RunsL.pe hn rfl rfl rfl ?_ | refine RunsD.pe rfl rfl ?_); first
 | refine ⟨_, pu_add rfl rfl (by omega), ?_⟩
 | refine ⟨_, pu_indexAddr_map rfl rfl (by omega) (by assumption), ?_⟩
 | refine ⟨_, pu_sub rfl rfl (by omega), ?_⟩
 | refine ⟨_, pu_pick_b rfl rfl rfl, ?_⟩
 | refine ⟨_, pu_mul rfl rfl (by omega), ?_⟩
 | refine ⟨_, pu_build rfl rfl rfl rfl rfl rfl, ?_⟩)
 | ((first | refine RunsL.guard_dec rfl rfl rfl ?_ ?_ | refine RunsL.guard_ndec rfl rfl rfl ?_ ?_ | refine RunsL.guard_nb rfl rfl rfl ?_ ?_ | refine RunsL.guard_b rfl rfl rfl ?_ ?_ | refine RunsD.guard_dec rfl rfl rfl ?_ ?_ | refine RunsD.guard_ndec rfl rfl rfl ?_ ?_ | refine RunsD.guard_nb rfl rfl rfl ?_ ?_ | refine RunsD.guard_b rfl rfl rfl ?_ ?_) <;> intro h <;> try (exfalso; first | omega | contradiction | (simp only [List.length_map] at h; omega))))
      refine next _ _ ⟨rfl, rfl, rfl, trivial⟩ hlt trivial ?_
      rw [conI_next hb']
      simp
      rfl
    · obtain rfl : j = x.bytes.length := by omega
      rw [List.take_length] at hfl ⊢
      have hcl' : (conI x.bytes).length = x.bytes.length := List.length_map ..
      repeat' (first
 | refine op_append (n := (conI x.bytes).length) rfl rfl rfl rfl rfl rfl (by rw [hfl]) (FreeI.at_ (i := 1) (by repeat' (first | exact trivial | exact onlys_ro _ _ | refine ⟨?_, ?_⟩))) (by simp; omega) (by simp; omega) (tl hn rfl) ?_
 | refine RunsL.step tabOk hn rfl ?_
 | refine RunsL.nil ?_
 | refine Runs.toRegion 30 rfl ?_
 | ((first | refine RunsL.pe hn rfl rfl rfl ?_ | refine RunsD.pe rfl rfl ?_); first
 | refine ⟨_, pu_callR (l15Op_ac _ _ _) rfl, ?_⟩)
 | (refine Runs.ctls 30 rfl ?_; first | ((first | refine Runs.cond_yes rfl ?_ ?_ | refine Runs.cond_nno rfl ?_ ?_); · first | omega | rfl | assumption | (simp only [List.length_map]; omega)) | ((first | refine Runs.cond_no rfl ?_ ?_ | refine Runs.cond_nyes rfl ?_ ?_); · first | omega | rfl | assumption | (simp only [List.length_map]; omega)) | refine Runs.ret (ends_ro hm rfl rfl ?_) | exact Runs.ret (ends_cellR hm rfl rfl rfl (Nat.le_of_ble_eq_true rfl) rfl rfl))
 | refine op_box rfl (tl hn rfl) ?_
 | refine op_alloc (tl hn rfl) ?_
 | refine op_storeN rfl rfl rfl rfl (Nat.le_of_ble_eq_true rfl) ?_
 | ((first | refine RunsL.pe hn rfl rfl rfl ?_ | refine RunsD.pe rfl rfl ?_); first
 | refine ⟨_, pu_add rfl rfl (by omega), ?_⟩
 | refine ⟨_, pu_indexAddr_map rfl rfl (by omega) (by assumption), ?_⟩
 | refine ⟨_, pu_sub rfl rfl (by omega), ?_⟩
 | refine ⟨_, pu_pick_b rfl rfl rfl, ?_⟩
 | refine ⟨_, pu_mul rfl rfl (by omega), ?_⟩
 | refine ⟨_, pu_build rfl rfl rfl rfl rfl rfl, ?_⟩)
 | ((first | refine RunsL.guard_dec rfl rfl rfl ?_ ?_ | refine RunsL.guard_ndec rfl rfl rfl ?_ ?_ | refine RunsL.guard_nb rfl rfl rfl ?_ ?_ | refine RunsL.guard_b rfl rfl rfl ?_ ?_ | refine RunsD.guard_dec rfl rfl rfl ?_ ?_ | refine RunsD.guard_ndec rfl rfl rfl ?_ ?_ | refine RunsD.guard_nb rfl rfl rfl ?_ ?_ | refine RunsD.guard_b rfl rfl rfl ?_ ?_) <;> intro h <;> try (exfalso; first | omega | contradiction | (simp only [List.length_map] at h; omega))))
      refine Runs.ctls 30 rfl (Runs.ret (ends_own (rs := (ruleI x s en).flatMap insR) hm rfl rfl rfl ?_ rfl))
      have hE : ruleI x s en = conI x.bytes ++ [⟨10, 0, 0⟩] := by simp [ruleI, bodyI, e, conI]
      rw [hE]
      rw [List.flatMap_append]
      rfl
  · repeat' (first
 | refine op_build0 (tl hn rfl) ?_
 | refine op_appendB rfl rfl rfl rfl rfl rfl (by simp) (by repeat' (first | exact trivial | exact onlys_ro _ _ | refine ⟨?_, ?_⟩)) (by simp) rfl (tl hn rfl) ?_
 | refine RunsL.step tabOk hn rfl ?_
 | refine RunsL.nil ?_
 | refine Runs.toRegion 30 rfl ?_
 | ((first | refine RunsL.pe hn rfl rfl rfl ?_ | refine RunsD.pe rfl rfl ?_); first
 | refine ⟨_, pu_callR hkn rfl, ?_⟩
 | refine ⟨_, pu_callR (l15Op_ac _ _ _) rfl, ?_⟩)
 | (refine Runs.ctls 30 rfl ?_; first | ((first | refine Runs.cond_yes rfl ?_ ?_ | refine Runs.cond_nno rfl ?_ ?_); · first | omega | rfl | assumption | (simp only [List.length_map]; omega)) | ((first | refine Runs.cond_no rfl ?_ ?_ | refine Runs.cond_nyes rfl ?_ ?_); · first | omega | rfl | assumption | (simp only [List.length_map]; omega)) | refine Runs.ret (ends_ro hm rfl rfl ?_) | exact Runs.ret (ends_cellR hm rfl rfl rfl (Nat.le_of_ble_eq_true rfl) rfl rfl))
 | refine op_box rfl (tl hn rfl) ?_
 | refine op_alloc (tl hn rfl) ?_
 | refine op_storeN rfl rfl rfl rfl (Nat.le_of_ble_eq_true rfl) ?_
 | ((first | refine RunsL.pe hn rfl rfl rfl ?_ | refine RunsD.pe rfl rfl ?_); first
 | refine ⟨_, pu_add rfl rfl (by omega), ?_⟩
 | refine ⟨_, pu_indexAddr_map rfl rfl (by omega) (by assumption), ?_⟩
 | refine ⟨_, pu_sub rfl rfl (by omega), ?_⟩
 | refine ⟨_, pu_pick_b rfl rfl rfl, ?_⟩
 | refine ⟨_, pu_mul rfl rfl (by omega), ?_⟩
 | refine ⟨_, pu_build rfl rfl rfl rfl rfl rfl, ?_⟩)
 | ((first | refine RunsL.guard_dec rfl rfl rfl ?_ ?_ | refine RunsL.guard_ndec rfl rfl rfl ?_ ?_ | refine RunsL.guard_nb rfl rfl rfl ?_ ?_ | refine RunsL.guard_b rfl rfl rfl ?_ ?_ | refine RunsD.guard_dec rfl rfl rfl ?_ ?_ | refine RunsD.guard_ndec rfl rfl rfl ?_ ?_ | refine RunsD.guard_nb rfl rfl rfl ?_ ?_ | refine RunsD.guard_b rfl rfl rfl ?_ ?_) <;> intro h <;> try (exfalso; first | omega | contradiction | (simp only [List.length_map] at h; omega))))
    refine Runs.ctls 30 rfl (Runs.ret (ends_own (rs := (ruleI x s en).flatMap insR) hm rfl rfl rfl ?_ rfl))
    have hE : ruleI x s en = [⟨3, x.size, 0⟩, ⟨10, 0, 0⟩] := by simp [ruleI, bodyI, e]
    rw [hE]
    rfl
  · obtain ⟨h0, h1, h2⟩ := kid0 hr (by have := f4 e; omega)
    have hC0 := l15Call_ac en (x.kids.headD 0) h1 h2
    repeat' (first
 | refine op_build0 (tl hn rfl) ?_
 | refine op_appendB rfl rfl rfl rfl rfl rfl (by simp) (by repeat' (first | exact trivial | exact onlys_ro _ _ | refine ⟨?_, ?_⟩)) (by simp) rfl (tl hn rfl) ?_
 | refine RunsL.step tabOk hn rfl ?_
 | refine RunsL.nil ?_
 | refine Runs.toRegion 30 rfl ?_
 | ((first | refine RunsL.pe hn rfl rfl rfl ?_ | refine RunsD.pe rfl rfl ?_); first
 | refine ⟨_, pu_callR hkn rfl, ?_⟩
 | refine ⟨_, pu_callR (l15Op_ac _ _ _) rfl, ?_⟩
 | refine ⟨_, pu_callR hC0 rfl, ?_⟩)
 | (refine Runs.ctls 30 rfl ?_; first | ((first | refine Runs.cond_yes rfl ?_ ?_ | refine Runs.cond_nno rfl ?_ ?_); · first | omega | rfl | assumption | (simp only [List.length_map]; omega)) | ((first | refine Runs.cond_no rfl ?_ ?_ | refine Runs.cond_nyes rfl ?_ ?_); · first | omega | rfl | assumption | (simp only [List.length_map]; omega)) | refine Runs.ret (ends_ro hm rfl rfl ?_) | exact Runs.ret (ends_cellR hm rfl rfl rfl (Nat.le_of_ble_eq_true rfl) rfl rfl))
 | refine op_box rfl (tl hn rfl) ?_
 | refine op_alloc (tl hn rfl) ?_
 | refine op_storeN rfl rfl rfl rfl (Nat.le_of_ble_eq_true rfl) ?_
 | ((first | refine RunsL.pe hn rfl rfl rfl ?_ | refine RunsD.pe rfl rfl ?_); first
 | refine ⟨_, pu_add rfl rfl (by omega), ?_⟩
 | refine ⟨_, pu_indexAddr_map rfl rfl (by omega) (by assumption), ?_⟩
 | refine ⟨_, pu_sub rfl rfl (by omega), ?_⟩
 | refine ⟨_, pu_pick_b rfl rfl rfl, ?_⟩
 | refine ⟨_, pu_mul rfl rfl (by omega), ?_⟩
 | refine ⟨_, pu_build rfl rfl rfl rfl rfl rfl, ?_⟩)
 | ((first | refine RunsL.guard_dec rfl rfl rfl ?_ ?_ | refine RunsL.guard_ndec rfl rfl rfl ?_ ?_ | refine RunsL.guard_nb rfl rfl rfl ?_ ?_ | refine RunsL.guard_b rfl rfl rfl ?_ ?_ | refine RunsD.guard_dec rfl rfl rfl ?_ ?_ | refine RunsD.guard_ndec rfl rfl rfl ?_ ?_ | refine RunsD.guard_nb rfl rfl rfl ?_ ?_ | refine RunsD.guard_b rfl rfl rfl ?_ ?_) <;> intro h <;> try (exfalso; first | omega | contradiction | (simp only [List.length_map] at h; omega))))
    refine Runs.ctls 30 rfl (Runs.ret (ends_own (rs := (ruleI x s en).flatMap insR) hm rfl rfl rfl ?_ rfl))
    have hE : ruleI x s en = [callI en (x.kids.headD 0), ⟨4, 0, 0⟩, ⟨10, 0, 0⟩] := by simp [ruleI, bodyI, e]
    rw [hE]
    rfl
  · have hk2 := f5 e
    obtain ⟨h0, h1, h2⟩ := kid0 hr (by omega)
    have hC0 := l15Call_ac en (x.kids.headD 0) h1 h2
    obtain ⟨z, hz⟩ : ∃ z, x.kids[(1 : Int).toNat]? = some z := ⟨_, List.getElem?_eq_getElem (by simp; omega)⟩
    have hz' : x.kids[1]? = some z := hz
    obtain ⟨h3, h4⟩ := hr.2 1 z hz'
    have hC1 := l15Call_ac en z h3 h4
    repeat' (first
 | refine Runs.toDrawT (id := 19) 30 [] [0, 1, 2, 3, 4, 5, 6, 7, 8, 9, 10, 11, 12, 13, 14, 15, 16, 17, 18, 19, 20, 21] 22 [] mixed hn rfl (by kernel_rfl) rfl .nil (by decide) (by decide) (by decide) ?_
 | refine op_build0 (tl hn rfl) ?_
 | refine op_appendB rfl rfl rfl rfl rfl rfl (by simp) (by repeat' (first | exact trivial | exact onlys_ro _ _ | refine ⟨?_, ?_⟩)) (by simp) rfl (tl hn rfl) ?_
 | refine RunsT.nil ?_
 | refine RunsT.step tabOk rfl rfl (fun _ => rfl) (by decide) ?_
 | refine RunsT.pur (fun _ => pu_callR hkn rfl) (by decide) rfl rfl ?_
 | refine RunsT.pur (fun _ => pu_callR hC0 rfl) (by decide) rfl rfl ?_
 | refine RunsT.pur (fun _ => pu_callR hC1 rfl) (by decide) rfl rfl ?_
 | refine RunsT.pur (fun _ => pu_callR (l15Op_ac _ _ _) rfl) (by decide) rfl rfl ?_
 | refine RunsT.pur (fun _ => pu_addW rfl rfl) (by decide) rfl rfl ?_
 | refine RunsT.pur (fun _ => pu_build rfl rfl rfl rfl rfl rfl) (by decide) rfl rfl ?_
 | refine RunsT.pur (fun _ => pu_add rfl rfl (by omega)) (by decide) rfl rfl ?_
 | refine RunsT.pur (fun _ => pu_indexAddr_map rfl rfl (by omega) (by assumption)) (by decide) rfl rfl ?_
 | refine RunsL.step tabOk hn rfl ?_
 | refine RunsL.nil ?_
 | refine Runs.toRegion 30 rfl ?_
 | ((first | refine RunsL.pe hn rfl rfl rfl ?_ | refine RunsD.pe rfl rfl ?_); first
 | refine ⟨_, pu_callR hkn rfl, ?_⟩
 | refine ⟨_, pu_callR hC0 rfl, ?_⟩
 | refine ⟨_, pu_callR hC1 rfl, ?_⟩
 | refine ⟨_, pu_callR (l15Op_ac _ _ _) rfl, ?_⟩
 | refine ⟨_, pu_addW rfl rfl, ?_⟩
 | refine ⟨_, pu_build rfl rfl rfl rfl rfl rfl, ?_⟩)
 | (refine Runs.ctls 30 rfl ?_; first | ((first | refine Runs.cond_yes rfl ?_ ?_ | refine Runs.cond_nno rfl ?_ ?_); · first | omega | rfl | assumption | (simp only [List.length_map]; omega)) | ((first | refine Runs.cond_no rfl ?_ ?_ | refine Runs.cond_nyes rfl ?_ ?_); · first | omega | rfl | assumption | (simp only [List.length_map]; omega)) | refine Runs.ret (ends_ro hm rfl rfl ?_) | exact Runs.ret (ends_cellR hm rfl rfl rfl (Nat.le_of_ble_eq_true rfl) rfl rfl))
 | refine op_box rfl (tl hn rfl) ?_
 | refine op_alloc (tl hn rfl) ?_
 | refine op_storeN rfl rfl rfl rfl (Nat.le_of_ble_eq_true rfl) ?_
 | ((first | refine RunsL.pe hn rfl rfl rfl ?_ | refine RunsD.pe rfl rfl ?_); first
 | refine ⟨_, pu_add rfl rfl (by omega), ?_⟩
 | refine ⟨_, pu_indexAddr_map rfl rfl (by omega) (by assumption), ?_⟩
 | refine ⟨_, pu_sub rfl rfl (by omega), ?_⟩
 | refine ⟨_, pu_pick_b rfl rfl rfl, ?_⟩
 | refine ⟨_, pu_mul rfl rfl (by omega), ?_⟩
 | refine ⟨_, pu_build rfl rfl rfl rfl rfl rfl, ?_⟩)
 | ((first | refine RunsL.guard_dec rfl rfl rfl ?_ ?_ | refine RunsL.guard_ndec rfl rfl rfl ?_ ?_ | refine RunsL.guard_nb rfl rfl rfl ?_ ?_ | refine RunsL.guard_b rfl rfl rfl ?_ ?_ | refine RunsD.guard_dec rfl rfl rfl ?_ ?_ | refine RunsD.guard_ndec rfl rfl rfl ?_ ?_ | refine RunsD.guard_nb rfl rfl rfl ?_ ?_ | refine RunsD.guard_b rfl rfl rfl ?_ ?_) <;> intro h <;> try (exfalso; first | omega | contradiction | (simp only [List.length_map] at h; omega))))
    refine Runs.ctls 30 rfl (Runs.ret (ends_own (rs := (ruleI x s en).flatMap insR) hm rfl rfl rfl ?_ rfl))
    have hE : ruleI x s en = [callI en (x.kids.headD 0), ⟨5, 40, 0⟩, ⟨6, 0, 0⟩, ⟨7, w64 (s + 6), 0⟩, callI en z, ⟨8, w64 (s + 3), 0⟩, ⟨10, 0, 0⟩] := by simp [ruleI, bodyI, e, hz']
    rw [hE]
    rfl
  · repeat' (first
 | refine op_build0 (tl hn rfl) ?_
 | refine RunsL.step tabOk hn rfl ?_
 | refine RunsL.nil ?_
 | refine Runs.toRegion 30 rfl ?_
 | ((first | refine RunsL.pe hn rfl rfl rfl ?_ | refine RunsD.pe rfl rfl ?_); first
 | refine ⟨_, pu_callR hkn rfl, ?_⟩)
 | (refine Runs.ctls 30 rfl ?_; first | ((first | refine Runs.cond_yes rfl ?_ ?_ | refine Runs.cond_nno rfl ?_ ?_); · first | omega | rfl | assumption | (simp only [List.length_map]; omega)) | ((first | refine Runs.cond_no rfl ?_ ?_ | refine Runs.cond_nyes rfl ?_ ?_); · first | omega | rfl | assumption | (simp only [List.length_map]; omega)) | refine Runs.ret (ends_ro hm rfl rfl ?_) | exact Runs.ret (ends_cellR hm rfl rfl rfl (Nat.le_of_ble_eq_true rfl) rfl rfl))
 | refine op_box rfl (tl hn rfl) ?_
 | refine op_alloc (tl hn rfl) ?_
 | refine op_storeN rfl rfl rfl rfl (Nat.le_of_ble_eq_true rfl) ?_
 | ((first | refine RunsL.pe hn rfl rfl rfl ?_ | refine RunsD.pe rfl rfl ?_); first
 | refine ⟨_, pu_add rfl rfl (by omega), ?_⟩
 | refine ⟨_, pu_indexAddr_map rfl rfl (by omega) (by assumption), ?_⟩
 | refine ⟨_, pu_sub rfl rfl (by omega), ?_⟩
 | refine ⟨_, pu_pick_b rfl rfl rfl, ?_⟩
 | refine ⟨_, pu_mul rfl rfl (by omega), ?_⟩
 | refine ⟨_, pu_build rfl rfl rfl rfl rfl rfl, ?_⟩)
 | ((first | refine RunsL.guard_dec rfl rfl rfl ?_ ?_ | refine RunsL.guard_ndec rfl rfl rfl ?_ ?_ | refine RunsL.guard_nb rfl rfl rfl ?_ ?_ | refine RunsL.guard_b rfl rfl rfl ?_ ?_ | refine RunsD.guard_dec rfl rfl rfl ?_ ?_ | refine RunsD.guard_ndec rfl rfl rfl ?_ ?_ | refine RunsD.guard_nb rfl rfl rfl ?_ ?_ | refine RunsD.guard_b rfl rfl rfl ?_ ?_) <;> intro h <;> try (exfalso; first | omega | contradiction | (simp only [List.length_map] at h; omega))))
    refine Runs.loopN 30 rfl (fun j => [(3, .ro (intsR en)), (9, .own 1), (10, .obj 2 0), (12, .int (j : Int))]) (fun j => [⟨38, 0, [.ro (rulsR d)]⟩, ⟨59, 3, ((seqC en (x.kids.take j)).flatMap insR).map .ro⟩, ⟨52, 0, (rulR x).map .ro⟩]) (fun _ => True) x.kids.length 0 (Nat.zero_le _) trivial ⟨rfl, rfl, rfl, rfl, trivial⟩ rfl fun j hj _ next => ?_
    have hcl := seqC_len en x.kids j
    have hfl := insR_flat (seqC en (x.kids.take j))
    by_cases hlt : j < x.kids.length
    · obtain ⟨b, hb⟩ : ∃ b, x.kids[(j : Int).toNat]? = some b := ⟨_, List.getElem?_eq_getElem hlt⟩
      have hb' : x.kids[j]? = some b := hb
      obtain ⟨h3, h4⟩ := hr.2 j b hb'
      have hCj := l15Call_ac en b h3 h4
      repeat' (first
 | refine op_append (n := (seqC en (x.kids.take j)).length) rfl rfl rfl rfl rfl rfl (by rw [hfl]) (FreeI.at_ (i := 1) (by repeat' (first | exact trivial | exact onlys_ro _ _ | refine ⟨?_, ?_⟩))) (by simp; omega) (by simp; omega) (tl hn rfl) ?_
 | refine RunsL.step tabOk hn rfl ?_
 | refine RunsL.nil ?_
 | refine Runs.toRegion 30 rfl ?_
 | ((first | refine RunsL.pe hn rfl rfl rfl ?_ | refine RunsD.pe rfl rfl ?_); first
 | refine ⟨_, pu_callR hCj rfl, ?_⟩)
 | (refine Runs.ctls 30 rfl ?_; first | ((first | refine Runs.cond_yes rfl ?_ ?_ | refine Runs.cond_nno rfl ?_ ?_); · first | omega | rfl | assumption | (simp only [List.length_map]; omega)) | ((first | refine Runs.cond_no rfl ?_ ?_ | refine Runs.cond_nyes rfl ?_ ?_); · first | omega | rfl | assumption | (simp only [List.length_map]; omega)) | refine Runs.ret (ends_ro hm rfl rfl ?_) | exact Runs.ret (ends_cellR hm rfl rfl rfl (Nat.le_of_ble_eq_true rfl) rfl rfl))
 | refine op_box rfl (tl hn rfl) ?_
 | refine op_alloc (tl hn rfl) ?_
 | refine op_storeN rfl rfl rfl rfl (Nat.le_of_ble_eq_true rfl) ?_
 | ((first | refine RunsL.pe hn rfl rfl rfl ?_ | refine RunsD.pe rfl rfl ?_); first
 | refine ⟨_, pu_add rfl rfl (by omega), ?_⟩
 | refine ⟨_, pu_indexAddr_map rfl rfl (by omega) (by assumption), ?_⟩
 | refine ⟨_, pu_sub rfl rfl (by omega), ?_⟩
 | refine ⟨_, pu_pick_b rfl rfl rfl, ?_⟩
 | refine ⟨_, pu_mul rfl rfl (by omega), ?_⟩
 | refine ⟨_, pu_build rfl rfl rfl rfl rfl rfl, ?_⟩)
 | ((first | refine RunsL.guard_dec rfl rfl rfl ?_ ?_ | refine RunsL.guard_ndec rfl rfl rfl ?_ ?_ | refine RunsL.guard_nb rfl rfl rfl ?_ ?_ | refine RunsL.guard_b rfl rfl rfl ?_ ?_ | refine RunsD.guard_dec rfl rfl rfl ?_ ?_ | refine RunsD.guard_ndec rfl rfl rfl ?_ ?_ | refine RunsD.guard_nb rfl rfl rfl ?_ ?_ | refine RunsD.guard_b rfl rfl rfl ?_ ?_) <;> intro h <;> try (exfalso; first | omega | contradiction | (simp only [List.length_map] at h; omega))))
      refine next _ _ ⟨rfl, rfl, rfl, rfl, trivial⟩ hlt trivial ?_
      rw [seqC_next hb']
      simp
      rfl
    · obtain rfl : j = x.kids.length := by omega
      rw [List.take_length] at hfl ⊢
      have hcl' : (seqC en x.kids).length = x.kids.length := List.length_map ..
      repeat' (first
 | refine op_append (n := (seqC en x.kids).length) rfl rfl rfl rfl rfl rfl (by rw [hfl]) (FreeI.at_ (i := 1) (by repeat' (first | exact trivial | exact onlys_ro _ _ | refine ⟨?_, ?_⟩))) (by simp; omega) (by simp; omega) (tl hn rfl) ?_
 | refine RunsL.step tabOk hn rfl ?_
 | refine RunsL.nil ?_
 | refine Runs.toRegion 30 rfl ?_
 | ((first | refine RunsL.pe hn rfl rfl rfl ?_ | refine RunsD.pe rfl rfl ?_); first
 | refine ⟨_, pu_callR (l15Op_ac _ _ _) rfl, ?_⟩)
 | (refine Runs.ctls 30 rfl ?_; first | ((first | refine Runs.cond_yes rfl ?_ ?_ | refine Runs.cond_nno rfl ?_ ?_); · first | omega | rfl | assumption | (simp only [List.length_map]; omega)) | ((first | refine Runs.cond_no rfl ?_ ?_ | refine Runs.cond_nyes rfl ?_ ?_); · first | omega | rfl | assumption | (simp only [List.length_map]; omega)) | refine Runs.ret (ends_ro hm rfl rfl ?_) | exact Runs.ret (ends_cellR hm rfl rfl rfl (Nat.le_of_ble_eq_true rfl) rfl rfl))
 | refine op_box rfl (tl hn rfl) ?_
 | refine op_alloc (tl hn rfl) ?_
 | refine op_storeN rfl rfl rfl rfl (Nat.le_of_ble_eq_true rfl) ?_
 | ((first | refine RunsL.pe hn rfl rfl rfl ?_ | refine RunsD.pe rfl rfl ?_); first
 | refine ⟨_, pu_add rfl rfl (by omega), ?_⟩
 | refine ⟨_, pu_indexAddr_map rfl rfl (by omega) (by assumption), ?_⟩
 | refine ⟨_, pu_sub rfl rfl (by omega), ?_⟩
 | refine ⟨_, pu_pick_b rfl rfl rfl, ?_⟩
 | refine ⟨_, pu_mul rfl rfl (by omega), ?_⟩
 | refine ⟨_, pu_build rfl rfl rfl rfl rfl rfl, ?_⟩)
 | ((first | refine RunsL.guard_dec rfl rfl rfl ?_ ?_ | refine RunsL.guard_ndec rfl rfl rfl ?_ ?_ | refine RunsL.guard_nb rfl rfl rfl ?_ ?_ | refine RunsL.guard_b rfl rfl rfl ?_ ?_ | refine RunsD.guard_dec rfl rfl rfl ?_ ?_ | refine RunsD.guard_ndec rfl rfl rfl ?_ ?_ | refine RunsD.guard_nb rfl rfl rfl ?_ ?_ | refine RunsD.guard_b rfl rfl rfl ?_ ?_) <;> intro h <;> try (exfalso; first | omega | contradiction | (simp only [List.length_map] at h; omega))))
      refine Runs.ctls 30 rfl (Runs.ret (ends_own (rs := (ruleI x s en).flatMap insR) hm rfl rfl rfl ?_ rfl))
      have hE : ruleI x s en = seqC en x.kids ++ [⟨10, 0, 0⟩] := by simp [ruleI, bodyI, e, seqC]
      rw [hE]
      rw [List.flatMap_append]
      rfl
  · have hCh := l15Choice_ac d s en x e hr (by omega)
    have hfl := insR_flat (bodyI x s en)
    repeat' (first
 | refine op_callOR hCh rfl (tl hn rfl) ?_
 | refine op_build0 (tl hn rfl) ?_
 | refine op_append (n := (bodyI x s en).length) rfl rfl rfl rfl rfl rfl (by rw [hfl]) (FreeI.at_ (i := 3) (by repeat' (first | exact trivial | exact onlys_ro _ _ | refine ⟨?_, ?_⟩))) (by simp; omega) (by simp; omega) (tl hn rfl) ?_
 | refine RunsL.step tabOk hn rfl ?_
 | refine RunsL.nil ?_
 | refine Runs.toRegion 30 rfl ?_
 | ((first | refine RunsL.pe hn rfl rfl rfl ?_ | refine RunsD.pe rfl rfl ?_); first
 | refine ⟨_, pu_callR hkn rfl, ?_⟩
 | refine ⟨_, pu_callR (l15Op_ac _ _ _) rfl, ?_⟩)
 | (refine Runs.ctls 30 rfl ?_; first | ((first | refine Runs.cond_yes rfl ?_ ?_ | refine Runs.cond_nno rfl ?_ ?_); · first | omega | rfl | assumption | (simp only [List.length_map]; omega)) | ((first | refine Runs.cond_no rfl ?_ ?_ | refine Runs.cond_nyes rfl ?_ ?_); · first | omega | rfl | assumption | (simp only [List.length_map]; omega)) | refine Runs.ret (ends_ro hm rfl rfl ?_) | exact Runs.ret (ends_cellR hm rfl rfl rfl (Nat.le_of_ble_eq_true rfl) rfl rfl))
 | refine op_box rfl (tl hn rfl) ?_
 | refine op_alloc (tl hn rfl) ?_
 | refine op_storeN rfl rfl rfl rfl (Nat.le_of_ble_eq_true rfl) ?_
 | ((first | refine RunsL.pe hn rfl rfl rfl ?_ | refine RunsD.pe rfl rfl ?_); first
 | refine ⟨_, pu_add rfl rfl (by omega), ?_⟩
 | refine ⟨_, pu_indexAddr_map rfl rfl (by omega) (by assumption), ?_⟩
 | refine ⟨_, pu_sub rfl rfl (by omega), ?_⟩
 | refine ⟨_, pu_pick_b rfl rfl rfl, ?_⟩
 | refine ⟨_, pu_mul rfl rfl (by omega), ?_⟩
 | refine ⟨_, pu_build rfl rfl rfl rfl rfl rfl, ?_⟩)
 | ((first | refine RunsL.guard_dec rfl rfl rfl ?_ ?_ | refine RunsL.guard_ndec rfl rfl rfl ?_ ?_ | refine RunsL.guard_nb rfl rfl rfl ?_ ?_ | refine RunsL.guard_b rfl rfl rfl ?_ ?_ | refine RunsD.guard_dec rfl rfl rfl ?_ ?_ | refine RunsD.guard_ndec rfl rfl rfl ?_ ?_ | refine RunsD.guard_nb rfl rfl rfl ?_ ?_ | refine RunsD.guard_b rfl rfl rfl ?_ ?_) <;> intro h <;> try (exfalso; first | omega | contradiction | (simp only [List.length_map] at h; omega))))
    refine Runs.ctls 30 rfl (Runs.ret (ends_own (rs := (ruleI x s en).flatMap insR) hm rfl rfl rfl ?_ rfl))
    have hE : ruleI x s en = bodyI x s en ++ [⟨10, 0, 0⟩] := by simp [ruleI]
    rw [hE]
    rw [List.flatMap_append]
    rfl
  · obtain ⟨h0, h1, h2⟩ := kid0 hr (by have := f8 (.inl e); omega)
    have hC0 := l15Call_ac en (x.kids.headD 0) h1 h2
    repeat' (first
 | refine Runs.toDrawT (id := 28) 30 [] [0, 1, 2, 3, 4, 5, 6, 7, 8, 9, 10] 11 [] mixed hn rfl (by kernel_rfl) rfl .nil (by decide) (by decide) (by decide) ?_
 | refine op_build0 (tl hn rfl) ?_
 | refine op_appendB rfl rfl rfl rfl rfl rfl (by simp) (by repeat' (first | exact trivial | exact onlys_ro _ _ | refine ⟨?_, ?_⟩)) (by simp) rfl (tl hn rfl) ?_
 | refine RunsT.nil ?_
 | refine RunsT.step tabOk rfl rfl (fun _ => rfl) (by decide) ?_
 | refine RunsT.pur (fun _ => pu_callR hkn rfl) (by decide) rfl rfl ?_
 | refine RunsT.pur (fun _ => pu_callR hC0 rfl) (by decide) rfl rfl ?_
 | refine RunsT.pur (fun _ => pu_callR (l15Op_ac _ _ _) rfl) (by decide) rfl rfl ?_
 | refine RunsT.pur (fun _ => pu_addW rfl rfl) (by decide) rfl rfl ?_
 | refine RunsT.pur (fun _ => pu_build rfl rfl rfl rfl rfl rfl) (by decide) rfl rfl ?_
 | refine RunsT.pur (fun _ => pu_add rfl rfl (by omega)) (by decide) rfl rfl ?_
 | refine RunsT.pur (fun _ => pu_indexAddr_map rfl rfl (by omega) (by assumption)) (by decide) rfl rfl ?_
 | refine RunsL.step tabOk hn rfl ?_
 | refine RunsL.nil ?_
 | refine Runs.toRegion 30 rfl ?_
 | ((first | refine RunsL.pe hn rfl rfl rfl ?_ | refine RunsD.pe rfl rfl ?_); first
 | refine ⟨_, pu_callR hkn rfl, ?_⟩
 | refine ⟨_, pu_callR hC0 rfl, ?_⟩
 | refine ⟨_, pu_callR (l15Op_ac _ _ _) rfl, ?_⟩
 | refine ⟨_, pu_addW rfl rfl, ?_⟩
 | refine ⟨_, pu_build rfl rfl rfl rfl rfl rfl, ?_⟩)
 | (refine Runs.ctls 30 rfl ?_; first | ((first | refine Runs.cond_yes rfl ?_ ?_ | refine Runs.cond_nno rfl ?_ ?_); · first | omega | rfl | assumption | (simp only [List.length_map]; omega)) | ((first | refine Runs.cond_no rfl ?_ ?_ | refine Runs.cond_nyes rfl ?_ ?_); · first | omega | rfl | assumption | (simp only [List.length_map]; omega)) | refine Runs.ret (ends_ro hm rfl rfl ?_) | exact Runs.ret (ends_cellR hm rfl rfl rfl (Nat.le_of_ble_eq_true rfl) rfl rfl))
 | refine op_box rfl (tl hn rfl) ?_
 | refine op_alloc (tl hn rfl) ?_
 | refine op_storeN rfl rfl rfl rfl (Nat.le_of_ble_eq_true rfl) ?_
 | ((first | refine RunsL.pe hn rfl rfl rfl ?_ | refine RunsD.pe rfl rfl ?_); first
 | refine ⟨_, pu_add rfl rfl (by omega), ?_⟩
 | refine ⟨_, pu_indexAddr_map rfl rfl (by omega) (by assumption), ?_⟩
 | refine ⟨_, pu_sub rfl rfl (by omega), ?_⟩
 | refine ⟨_, pu_pick_b rfl rfl rfl, ?_⟩
 | refine ⟨_, pu_mul rfl rfl (by omega), ?_⟩
 | refine ⟨_, pu_build rfl rfl rfl rfl rfl rfl, ?_⟩)
 | ((first | refine RunsL.guard_dec rfl rfl rfl ?_ ?_ | refine RunsL.guard_ndec rfl rfl rfl ?_ ?_ | refine RunsL.guard_nb rfl rfl rfl ?_ ?_ | refine RunsL.guard_b rfl rfl rfl ?_ ?_ | refine RunsD.guard_dec rfl rfl rfl ?_ ?_ | refine RunsD.guard_ndec rfl rfl rfl ?_ ?_ | refine RunsD.guard_nb rfl rfl rfl ?_ ?_ | refine RunsD.guard_b rfl rfl rfl ?_ ?_) <;> intro h <;> try (exfalso; first | omega | contradiction | (simp only [List.length_map] at h; omega))))
    refine Runs.ctls 30 rfl (Runs.ret (ends_own (rs := (ruleI x s en).flatMap insR) hm rfl rfl rfl ?_ rfl))
    have hE : ruleI x s en = [⟨13, w64 (s + 2), 0⟩, callI en (x.kids.headD 0), ⟨10, 0, 0⟩] := by simp [ruleI, bodyI, e]
    rw [hE]
    rfl
  · obtain ⟨h0, h1, h2⟩ := kid0 hr (by have := f8 (.inr e); omega)
    have hC0 := l15Call_ac en (x.kids.headD 0) h1 h2
    repeat' (first
 | refine Runs.toDrawT (id := 30) 30 [] [0, 1, 2, 3, 4, 5, 6, 7, 8, 9] 10 [] mixed hn rfl (by kernel_rfl) rfl .nil (by decide) (by decide) (by decide) ?_
 | refine op_build0 (tl hn rfl) ?_
 | refine op_appendB rfl rfl rfl rfl rfl rfl (by simp) (by repeat' (first | exact trivial | exact onlys_ro _ _ | refine ⟨?_, ?_⟩)) (by simp) rfl (tl hn rfl) ?_
 | refine RunsT.nil ?_
 | refine RunsT.step tabOk rfl rfl (fun _ => rfl) (by decide) ?_
 | refine RunsT.pur (fun _ => pu_callR hkn rfl) (by decide) rfl rfl ?_
 | refine RunsT.pur (fun _ => pu_callR hC0 rfl) (by decide) rfl rfl ?_
 | refine RunsT.pur (fun _ => pu_callR (l15Op_ac _ _ _) rfl) (by decide) rfl rfl ?_
 | refine RunsT.pur (fun _ => pu_build rfl rfl rfl rfl rfl rfl) (by decide) rfl rfl ?_
 | refine RunsT.pur (fun _ => pu_add rfl rfl (by omega)) (by decide) rfl rfl ?_
 | refine RunsT.pur (fun _ => pu_indexAddr_map rfl rfl (by omega) (by assumption)) (by decide) rfl rfl ?_
 | refine RunsL.step tabOk hn rfl ?_
 | refine RunsL.nil ?_
 | refine Runs.toRegion 30 rfl ?_
 | ((first | refine RunsL.pe hn rfl rfl rfl ?_ | refine RunsD.pe rfl rfl ?_); first
 | refine ⟨_, pu_callR hkn rfl, ?_⟩
 | refine ⟨_, pu_callR hC0 rfl, ?_⟩
 | refine ⟨_, pu_callR (l15Op_ac _ _ _) rfl, ?_⟩
 | refine ⟨_, pu_build rfl rfl rfl rfl rfl rfl, ?_⟩)
 | (refine Runs.ctls 30 rfl ?_; first | ((first | refine Runs.cond_yes rfl ?_ ?_ | refine Runs.cond_nno rfl ?_ ?_); · first | omega | rfl | assumption | (simp only [List.length_map]; omega)) | ((first | refine Runs.cond_no rfl ?_ ?_ | refine Runs.cond_nyes rfl ?_ ?_); · first | omega | rfl | assumption | (simp only [List.length_map]; omega)) | refine Runs.ret (ends_ro hm rfl rfl ?_) | exact Runs.ret (ends_cellR hm rfl rfl rfl (Nat.le_of_ble_eq_true rfl) rfl rfl))
 | refine op_box rfl (tl hn rfl) ?_
 | refine op_alloc (tl hn rfl) ?_
 | refine op_storeN rfl rfl rfl rfl (Nat.le_of_ble_eq_true rfl) ?_
 | ((first | refine RunsL.pe hn rfl rfl rfl ?_ | refine RunsD.pe rfl rfl ?_); first
 | refine ⟨_, pu_add rfl rfl (by omega), ?_⟩
 | refine ⟨_, pu_indexAddr_map rfl rfl (by omega) (by assumption), ?_⟩
 | refine ⟨_, pu_sub rfl rfl (by omega), ?_⟩
 | refine ⟨_, pu_pick_b rfl rfl rfl, ?_⟩
 | refine ⟨_, pu_mul rfl rfl (by omega), ?_⟩
 | refine ⟨_, pu_build rfl rfl rfl rfl rfl rfl, ?_⟩)
 | ((first | refine RunsL.guard_dec rfl rfl rfl ?_ ?_ | refine RunsL.guard_ndec rfl rfl rfl ?_ ?_ | refine RunsL.guard_nb rfl rfl rfl ?_ ?_ | refine RunsL.guard_b rfl rfl rfl ?_ ?_ | refine RunsD.guard_dec rfl rfl rfl ?_ ?_ | refine RunsD.guard_ndec rfl rfl rfl ?_ ?_ | refine RunsD.guard_nb rfl rfl rfl ?_ ?_ | refine RunsD.guard_b rfl rfl rfl ?_ ?_) <;> intro h <;> try (exfalso; first | omega | contradiction | (simp only [List.length_map] at h; omega))))
    refine Runs.ctls 30 rfl (Runs.ret (ends_own (rs := (ruleI x s en).flatMap insR) hm rfl rfl rfl ?_ rfl))
    have hE : ruleI x s en = [⟨14, 0, 0⟩, callI en (x.kids.headD 0), ⟨15, 0, 0⟩, ⟨10, 0, 0⟩] := by simp [ruleI, bodyI, e]
    rw [hE]
    rfl
  · have hb1 : x.bytes.length = 1 := by
      have h := hk
      unfold KindOk at h
      omega
    obtain ⟨b, hb⟩ : ∃ b, x.bytes[(0 : Int).toNat]? = some b := ⟨_, List.getElem?_eq_getElem (by simp; omega)⟩
    have hb' : x.bytes[0]? = some b := hb
    repeat' (first
 | refine op_build0 (tl hn rfl) ?_
 | refine op_appendB rfl rfl rfl rfl rfl rfl (by simp) (by repeat' (first | exact trivial | exact onlys_ro _ _ | refine ⟨?_, ?_⟩)) (by simp) rfl (tl hn rfl) ?_
 | refine RunsL.step tabOk hn rfl ?_
 | refine RunsL.nil ?_
 | refine Runs.toRegion 30 rfl ?_
 | ((first | refine RunsL.pe hn rfl rfl rfl ?_ | refine RunsD.pe rfl rfl ?_); first
 | refine ⟨_, pu_callR hkn rfl, ?_⟩
 | refine ⟨_, pu_callR (l15Op_ac _ _ _) rfl, ?_⟩
 | refine ⟨_, pu_ofU8 rfl, ?_⟩)
 | (refine Runs.ctls 30 rfl ?_; first | ((first | refine Runs.cond_yes rfl ?_ ?_ | refine Runs.cond_nno rfl ?_ ?_); · first | omega | rfl | assumption | (simp only [List.length_map]; omega)) | ((first | refine Runs.cond_no rfl ?_ ?_ | refine Runs.cond_nyes rfl ?_ ?_); · first | omega | rfl | assumption | (simp only [List.length_map]; omega)) | refine Runs.ret (ends_ro hm rfl rfl ?_) | exact Runs.ret (ends_cellR hm rfl rfl rfl (Nat.le_of_ble_eq_true rfl) rfl rfl))
 | refine op_box rfl (tl hn rfl) ?_
 | refine op_alloc (tl hn rfl) ?_
 | refine op_storeN rfl rfl rfl rfl (Nat.le_of_ble_eq_true rfl) ?_
 | ((first | refine RunsL.pe hn rfl rfl rfl ?_ | refine RunsD.pe rfl rfl ?_); first
 | refine ⟨_, pu_add rfl rfl (by omega), ?_⟩
 | refine ⟨_, pu_indexAddr_map rfl rfl (by omega) (by assumption), ?_⟩
 | refine ⟨_, pu_sub rfl rfl (by omega), ?_⟩
 | refine ⟨_, pu_pick_b rfl rfl rfl, ?_⟩
 | refine ⟨_, pu_mul rfl rfl (by omega), ?_⟩
 | refine ⟨_, pu_build rfl rfl rfl rfl rfl rfl, ?_⟩)
 | ((first | refine RunsL.guard_dec rfl rfl rfl ?_ ?_ | refine RunsL.guard_ndec rfl rfl rfl ?_ ?_ | refine RunsL.guard_nb rfl rfl rfl ?_ ?_ | refine RunsL.guard_b rfl rfl rfl ?_ ?_ | refine RunsD.guard_dec rfl rfl rfl ?_ ?_ | refine RunsD.guard_ndec rfl rfl rfl ?_ ?_ | refine RunsD.guard_nb rfl rfl rfl ?_ ?_ | refine RunsD.guard_b rfl rfl rfl ?_ ?_) <;> intro h <;> try (exfalso; first | omega | contradiction | (simp only [List.length_map] at h; omega))))
    refine Runs.ctls 30 rfl (Runs.ret (ends_own (rs := (ruleI x s en).flatMap insR) hm rfl rfl rfl ?_ rfl))
    have hE : ruleI x s en = [⟨16, (b.toNat : Int), 0⟩, ⟨10, 0, 0⟩] := by simp [ruleI, bodyI, e, hb']
    rw [hE]
    rfl
set_option maxHeartbeats 4000000 in
theorem spec_CompileRule (d : Des) (ho : DesOk d) (hd : dtotal d ≤ 1048576) (r s : Int) (en : List Int) : AC Try.prog 95 [desR d, .int r, .int s, intsR en] (fun rr => rr = .row 59 3 ((cmpL d r s en).flatMap insR)) := by
  have hkn := l7Rule_ac d ho hd r
  have hle : (en.map fun z => [RV.int z]).length = en.length := List.length_map ..
  by_cases hK : Kn d r
  · rw [decide_eq_true hK] at hkn
    obtain ⟨n, x, rfl, hn', hx⟩ := kn_nat hK
    by_cases hen : (n : Int) ≤ en.length
    · rw [cmpL_yes ⟨hK, hen⟩ hx]
      exact spec_compile_yes d hd hK.1 n x hx s en hkn (by omega)
    · rw [cmpL_no fun h => hen h.2]
      refine ac_enter Try.func95 rfl _ Try.ntmps95 (by simp) fun C hn hm => ?_
      repeat' (first
 | refine op_build0 (tl hn rfl) ?_
 | refine RunsL.step tabOk hn rfl ?_
 | refine RunsL.nil ?_
 | refine Runs.toRegion 30 rfl ?_
 | ((first | refine RunsL.pe hn rfl rfl rfl ?_ | refine RunsD.pe rfl rfl ?_); first
 | refine ⟨_, pu_callR hkn rfl, ?_⟩)
 | (refine Runs.ctls 30 rfl ?_; first | refine Runs.cond_t rfl ?_ | ((first | refine Runs.cond_yes rfl ?_ ?_ | refine Runs.cond_nno rfl ?_ ?_); · first | omega | rfl | assumption | (simp only [List.length_map]; omega)) | ((first | refine Runs.cond_no rfl ?_ ?_ | refine Runs.cond_nyes rfl ?_ ?_); · first | omega | rfl | assumption | (simp only [List.length_map]; omega)) | refine Runs.ret (ends_ro hm rfl rfl ?_) | exact Runs.ret (ends_cellR hm rfl rfl rfl (Nat.le_of_ble_eq_true rfl) rfl rfl))
 | refine op_box rfl (tl hn rfl) ?_
 | ((first | refine RunsL.pe hn rfl rfl rfl ?_ | refine RunsD.pe rfl rfl ?_); first
 | refine ⟨_, pu_add rfl rfl (by omega), ?_⟩
 | refine ⟨_, pu_indexAddr_map rfl rfl (by omega) (by assumption), ?_⟩
 | refine ⟨_, pu_sub rfl rfl (by omega), ?_⟩
 | refine ⟨_, pu_pick_b rfl rfl rfl, ?_⟩
 | refine ⟨_, pu_mul rfl rfl (by omega), ?_⟩
 | refine ⟨_, pu_build rfl rfl rfl rfl rfl rfl, ?_⟩)
 | ((first | refine RunsL.guard_dec rfl rfl rfl ?_ ?_ | refine RunsL.guard_ndec rfl rfl rfl ?_ ?_ | refine RunsL.guard_nb rfl rfl rfl ?_ ?_ | refine RunsL.guard_b rfl rfl rfl ?_ ?_ | refine RunsD.guard_dec rfl rfl rfl ?_ ?_ | refine RunsD.guard_ndec rfl rfl rfl ?_ ?_ | refine RunsD.guard_nb rfl rfl rfl ?_ ?_ | refine RunsD.guard_b rfl rfl rfl ?_ ?_) <;> intro h <;> try (exfalso; first | omega | contradiction | (simp only [List.length_map] at h; omega))))
      all_goals first
        | exact Runs.ctls 30 rfl (Runs.ret (ends_own (rs := []) hm rfl rfl rfl rfl rfl))
        | (exfalso; omega)
  · rw [decide_eq_false hK] at hkn
    rw [cmpL_no fun h => hK h.1]
    refine ac_enter Try.func95 rfl _ Try.ntmps95 (by simp) fun C hn hm => ?_
    repeat' (first
 | refine op_build0 (tl hn rfl) ?_
 | refine RunsL.step tabOk hn rfl ?_
 | refine RunsL.nil ?_
 | refine Runs.toRegion 30 rfl ?_
 | ((first | refine RunsL.pe hn rfl rfl rfl ?_ | refine RunsD.pe rfl rfl ?_); first
 | refine ⟨_, pu_callR hkn rfl, ?_⟩)
 | (refine Runs.ctls 30 rfl ?_; first | refine Runs.cond_t rfl ?_ | ((first | refine Runs.cond_yes rfl ?_ ?_ | refine Runs.cond_nno rfl ?_ ?_); · first | omega | rfl | assumption | (simp only [List.length_map]; omega)) | ((first | refine Runs.cond_no rfl ?_ ?_ | refine Runs.cond_nyes rfl ?_ ?_); · first | omega | rfl | assumption | (simp only [List.length_map]; omega)) | refine Runs.ret (ends_ro hm rfl rfl ?_) | exact Runs.ret (ends_cellR hm rfl rfl rfl (Nat.le_of_ble_eq_true rfl) rfl rfl))
 | refine op_box rfl (tl hn rfl) ?_
 | ((first | refine RunsL.pe hn rfl rfl rfl ?_ | refine RunsD.pe rfl rfl ?_); first
 | refine ⟨_, pu_add rfl rfl (by omega), ?_⟩
 | refine ⟨_, pu_indexAddr_map rfl rfl (by omega) (by assumption), ?_⟩
 | refine ⟨_, pu_sub rfl rfl (by omega), ?_⟩
 | refine ⟨_, pu_pick_b rfl rfl rfl, ?_⟩
 | refine ⟨_, pu_mul rfl rfl (by omega), ?_⟩
 | refine ⟨_, pu_build rfl rfl rfl rfl rfl rfl, ?_⟩)
 | ((first | refine RunsL.guard_dec rfl rfl rfl ?_ ?_ | refine RunsL.guard_ndec rfl rfl rfl ?_ ?_ | refine RunsL.guard_nb rfl rfl rfl ?_ ?_ | refine RunsL.guard_b rfl rfl rfl ?_ ?_ | refine RunsD.guard_dec rfl rfl rfl ?_ ?_ | refine RunsD.guard_ndec rfl rfl rfl ?_ ?_ | refine RunsD.guard_nb rfl rfl rfl ?_ ?_ | refine RunsD.guard_b rfl rfl rfl ?_ ?_) <;> intro h <;> try (exfalso; first | omega | contradiction | (simp only [List.length_map] at h; omega))))
    exact Runs.ctls 30 rfl (Runs.ret (ends_own (rs := []) hm rfl rfl rfl rfl rfl))
end Go.Proofs.Ytnecoghfhcimeaa
/- The code of a rule: how long it is. -/
namespace Go.Proofs.Ytnecoghfhcimeaa
set_option linter.unusedSimpArgs false
set_option linter.unusedVariables false
open Go.RowKit
theorem body_len' {d : Des} {x : Rul} {en : List Int} (s : Int) (hk : KindOk d x) (ht : x.total ≤ 1048576) : (bodyI x s en).length ≤ 6 + 3 * x.total := by
  have etx : x.total = x.name.size + x.bytes.length + (x.names.length + (x.names.map ByteArray.size).sum) + x.tags.length + x.kids.length := rfl
  have hc := chCalls_len x.kids en x.tags.length
  unfold bodyI
  split
  · simp only [List.length_cons, List.length_nil]; omega
  split
  · rw [List.length_map]; omega
  split
  · simp only [List.length_cons, List.length_nil]; omega
  split
  · simp only [List.length_cons, List.length_nil]; omega
  split
  · simp only [List.length_cons, List.length_nil]; omega
  split
  · rw [List.length_map]; omega
  split
  · simp only [List.length_cons, List.length_append, chTags_len]; omega
  split
  · simp only [List.length_cons, List.length_nil]; omega
  split
  · simp only [List.length_cons, List.length_nil]; omega
  · simp only [List.length_cons, List.length_nil]; omega
end Go.Proofs.Ytnecoghfhcimeaa
/- The program of a description: both sides. -/
namespace Go.Proofs.Ytnecoghfhcimeaa
set_option linter.unusedSimpArgs false
set_option linter.unusedVariables false
open Go.RowKit
open AV (Mem Keeps)
set_option maxRecDepth 100000
mutual
noncomputable def cdT (d : Des) : Nat → List Ins
  | 0 => []
  | j + 1 => cdT d j ++ cmpL d j ((cdT d j).length + 2 : Nat) (cdE d j)
noncomputable def cdE (d : Des) : Nat → List Int
  | 0 => []
  | j + 1 => cdE d j ++ [(((cdT d j).length + 2 : Nat) : Int)]
end
def cdC (a : Int) (l : List Ins) : List Ins := ⟨9, a, 0⟩ :: ⟨17, 0, 0⟩ :: l
theorem cdC_len (a : Int) (l : List Ins) : (cdC a l).length = l.length + 2 := rfl
theorem cdC_app (a : Int) (l m : List Ins) : cdC a (l ++ m) = cdC a l ++ m := rfl
theorem cdE_len (d : Des) : ∀ j : Nat, (cdE d j).length = j
  | 0 => by simp [cdE]
  | j + 1 => by rw [cdE, List.length_append, cdE_len d j]; rfl
theorem rule_len (d : Des) (hd : dtotal d ≤ 1048576) (j : Nat) (x : Rul) (hx : d[j]? = some x) (s : Int) (en : List Int) : (cmpL d j s en).length ≤ 7 + 3 * x.total := by
  have hxt := sum_mem_le Rul.total (List.mem_of_getElem? hx)
  have et : dtotal d = d.length + (d.map Rul.total).sum := rfl
  by_cases h : Kn d (j : Int) ∧ (j : Int) ≤ en.length
  · rw [cmpL_yes h hx]
    have := body_len' s (en := en) (kind_at h.1.1 hx) (by omega)
    unfold ruleI
    rw [List.length_append, List.length_singleton]
    omega
  · rw [cmpL_no h]; simp
theorem cdT_len (d : Des) (hd : dtotal d ≤ 1048576) : ∀ j : Nat, j ≤ d.length → (cdT d j).length ≤ 7 * j + 3 * ((d.take j).map Rul.total).sum
  | 0, _ => by simp [cdT]
  | j + 1, h => by
    obtain ⟨x, hx⟩ : ∃ x, d[j]? = some x := ⟨_, List.getElem?_eq_getElem (by omega)⟩
    have ih := cdT_len d hd j (by omega)
    have hs := sum_take_next Rul.total hx
    have hr := rule_len d hd j x hx ((cdT d j).length + 2 : Nat) (cdE d j)
    rw [cdT, List.length_append, hs]
    omega
theorem cdT_le (d : Des) (hd : dtotal d ≤ 1048576) (hG : Good' d) (j : Nat) (h : j ≤ d.length) : (cdT d j).length ≤ 3145896 := by
  have h1 := cdT_len d hd j h
  have h2 := sum_take_le Rul.total d j
  have h3 := hG.2.1
  have et : dtotal d = d.length + (d.map Rul.total).sum := rfl
  omega
noncomputable def cdF (d : Des) : Prg := open Classical in if Good' d then ⟨cdC (((cdE d d.length)[d.length - 1]?).getD 0) (cdT d d.length), cdE d d.length⟩ else ⟨[], []⟩
theorem cdF_yes {d : Des} (h : Good' d) : cdF d = ⟨cdC (((cdE d d.length)[d.length - 1]?).getD 0) (cdT d d.length), cdE d d.length⟩ := by unfold cdF; rw [if_pos h]
theorem cdF_no {d : Des} (h : ¬ Good' d) : cdF d = ⟨[], []⟩ := by unfold cdF; rw [if_neg h]
instance tb_prg : TB Try.prog 62 [(0, 1), (1, 1)] [.slice none 0 0, .slice none 0 0] := ⟨_, _, _, rfl, rfl, rfl, rfl, by kernel_rfl, by decide⟩
def cdS (d : Des) (c : List Ins) (e : List Int) : List Ob := [⟨38, 0, [.ro (rulsR d)]⟩, ⟨62, 0, [.nil, .nil]⟩, ⟨59, 3, (c.flatMap insR).map .ro⟩, ⟨62, 0, [.own 2, .own 4]⟩, ⟨3, 1, (e.map RV.int).map .ro⟩]
theorem insRV0 : ∀ l : List Ins, l.flatMap insR = (l.flatMap insV).map .c
  | [] => rfl
  | x :: l => by rw [List.flatMap_cons, List.flatMap_cons, List.map_append, insRV0 l]; rfl
theorem lend_e {C : Ctx} {d : Des} {c : List Ins} {e : List Int} {more : List Ob} : Lends C (cdS d c e ++ more) (.own 4) (intsR e) :=
  Lends.own (o := ⟨3, 1, (e.map RV.int).map .ro⟩) (els := e.map fun z => [RV.int z]) rfl (by
    have : (e.map fun z => [RV.int z]).flatten = e.map RV.int := by induction e with
      | nil => rfl
      | cons a e ih => simp [ih]
    rw [this]) (by simp)
theorem ints_len1 (e : List Int) : ((e.map RV.int).map AV.ro).length = e.length * 1 := by simp
theorem inss_len3 (c : List Ins) : ((c.flatMap insR).map AV.ro).length = c.length * 3 := by rw [List.length_map, insR_flat]
set_option maxHeartbeats 16000000 in
theorem spec_CompileDescription (d : Des) (ho : DesOk d) (hd : dtotal d ≤ 1048576) : AC Try.prog 146 [desR d] (fun rr => rr = .agg [.row 59 3 ((cdF d).code.flatMap insR), .row 3 1 ((cdF d).entries.map RV.int)]) := by
  have hlm : (d.map rulR).length = d.length := List.length_map ..
  have hv := spec_IsValidDescription d ho hd
  have et : dtotal d = d.length + (d.map Rul.total).sum := rfl
  by_cases hG : Good' d
  · have hl := hG.2.1
    have hl1 := hG.1
    rw [decide_eq_true hG] at hv
    rw [cdF_yes hG]
    refine ac_enter Try.func146 rfl _ Try.ntmps146 (by simp) fun C hn hm => ?_
    repeat' (first
 | refine op_build (t := 12) rfl rfl rfl rfl rfl (tl hn rfl) ?_
 | refine RunsL.step tabOk hn rfl ?_
 | refine RunsL.nil ?_
 | refine Runs.toRegion 30 rfl ?_
 | ((first | refine RunsL.pe hn rfl rfl rfl ?_ | refine RunsD.pe rfl rfl ?_); first
 | refine ⟨_, pu_callR hv rfl, ?_⟩
 | refine ⟨_, pu_callR (l15Op_ac _ _ _) rfl, ?_⟩
 | refine ⟨_, pu_buildS rfl, ?_⟩)
 | (refine Runs.ctls 30 rfl ?_; first | refine Runs.cond_t rfl ?_ | refine Runs.cond_f rfl ?_ | ((first | refine Runs.cond_yes rfl ?_ ?_ | refine Runs.cond_nno rfl ?_ ?_); · first | omega | rfl | assumption | (simp only [List.length_map]; omega)) | ((first | refine Runs.cond_no rfl ?_ ?_ | refine Runs.cond_nyes rfl ?_ ?_); · first | omega | rfl | assumption | (simp only [List.length_map]; omega)) | refine Runs.ret (ends_ro hm rfl rfl ?_) | exact Runs.ret (ends_cellR hm rfl rfl rfl (Nat.le_of_ble_eq_true rfl) rfl rfl))
 | refine op_box rfl (tl hn rfl) ?_
 | refine op_storeF rfl rfl rfl rfl (Nat.le_of_ble_eq_true rfl) ?_
 | refine op_alloc (tl hn rfl) ?_
 | refine op_storeN rfl rfl rfl rfl (Nat.le_of_ble_eq_true rfl) ?_
 | ((first | refine RunsL.pe hn rfl rfl rfl ?_ | refine RunsD.pe rfl rfl ?_); first
 | refine ⟨_, pu_add rfl rfl (by omega), ?_⟩
 | refine ⟨_, pu_indexAddr_map rfl rfl (by omega) (by assumption), ?_⟩
 | refine ⟨_, pu_sub rfl rfl (by omega), ?_⟩
 | refine ⟨_, pu_pick_b rfl rfl rfl, ?_⟩
 | refine ⟨_, pu_mul rfl rfl (by omega), ?_⟩
 | refine ⟨_, pu_build rfl rfl rfl rfl rfl rfl, ?_⟩))
    refine Runs.nilCell 3 1 (e := 3) (sz := 1) (by decide) rfl rfl ?_
    refine Runs.loopN 30 rfl (fun j => [(1, .obj 0 0), (2, .obj 1 0), (3, .obj 3 0), (4, .int (j : Int))]) (fun j => cdS d (cdC 0 (cdT d j)) (cdE d j)) (fun _ => True) d.length 0 (Nat.zero_le _) trivial ⟨rfl, rfl, rfl, rfl, trivial⟩ (by rw [show cdT d 0 = [] by simp [cdT], show cdE d 0 = [] by simp [cdE]]; rfl) fun j hj _ next => ?_
    have hcl := cdT_le d hd hG j hj
    have hce := cdE_len d j
    by_cases hlt : j < d.length
    · have hR := spec_CompileRule d ho hd (j : Int) ((cdC 0 (cdT d j)).length : Nat) (cdE d j)
      have hcl1 := cdT_le d hd hG (j + 1) hlt
      rw [cdT, List.length_append] at hcl1
      have hrl : (cmpL d j ((cdC 0 (cdT d j)).length : Nat) (cdE d j)).length ≤ 3145896 := by
        rw [cdC_len]; omega
      have hcc : (cdC 0 (cdT d j)).length = (cdT d j).length + 2 := rfl
      generalize hq : cmpL d j ((cdC 0 (cdT d j)).length : Nat) (cdE d j) = q at hR hrl
      rw [insRV0] at hR
      repeat' (first
 | refine Runs.toDrawT (id := 8) 30 [] [0, 1, 2, 3, 4, 5, 6, 7] 8 [] mixed hn rfl (by kernel_rfl) rfl .nil (by decide) (by decide) (by decide) ?_
 | refine RunsL.junk 3 0 rfl (op_append (t := 32) (i := 2) (n := (cdC 0 (cdT d j)).length) rfl rfl rfl rfl rfl rfl (by rw [insR_flat]) (FreeI.at_ (i := 2) (by repeat' (first | exact trivial | exact onlys_ro _ _ | exact (by decide : (4 : Nat) ≠ 2) | refine ⟨?_, ?_⟩))) (by simp only [List.length_map]; omega) (by simp only [List.length_map]; omega) (tl hn rfl) ?_)
 | refine RunsL.junk 3 1 rfl (op_append (t := 38) (i := 4) (n := (cdE d j).length) rfl rfl rfl rfl rfl rfl (by simp) (FreeI.at_ (i := 4) (by repeat' (first | exact trivial | exact onlys_ro _ _ | exact (by decide : (2 : Nat) ≠ 4) | refine ⟨?_, ?_⟩))) (by simp; omega) (by simp; omega) (tl hn rfl) ?_)
 | refine RunsT.nil ?_
 | refine RunsT.step tabOk rfl rfl (fun _ => rfl) (by decide) ?_
 | refine RunsT.pur (fun _ => pu_len_own (n := (cdC 0 (cdT d j)).length) rfl rfl (inss_len3 _)) (by decide) rfl rfl ?_
 | refine RunsT.pur (fun _ => pu_callSL hR (els := q.map insR) (insRV0 q) (fun x hx => by obtain ⟨y, _, rfl⟩ := List.mem_map.1 hx; rfl) (.cons .ro (.cons .ro (.cons .ro (.cons lend_e .nil))))) (by decide) rfl rfl ?_
 | refine RunsT.pur (fun _ => pu_add rfl rfl (by omega)) (by decide) rfl rfl ?_
 | refine RunsL.step tabOk hn rfl ?_
 | refine RunsL.nil ?_
 | refine Runs.toRegion 30 rfl ?_
 | ((first | refine RunsL.pe hn rfl rfl rfl ?_ | refine RunsD.pe rfl rfl ?_); first
 | refine ⟨_, pu_len_own (n := (cdC 0 (cdT d j)).length) rfl rfl (inss_len3 _), ?_⟩
 | refine ⟨_, pu_callSL hR (els := q.map insR) (insRV0 q) (fun x hx => by obtain ⟨y, _, rfl⟩ := List.mem_map.1 hx; rfl) (.cons .ro (.cons .ro (.cons .ro (.cons lend_e .nil)))), ?_⟩)
 | (refine Runs.ctls 30 rfl ?_; first | refine Runs.cond_t rfl ?_ | refine Runs.cond_f rfl ?_ | ((first | refine Runs.cond_yes rfl ?_ ?_ | refine Runs.cond_nno rfl ?_ ?_); · first | omega | rfl | assumption | (simp only [List.length_map]; omega)) | ((first | refine Runs.cond_no rfl ?_ ?_ | refine Runs.cond_nyes rfl ?_ ?_); · first | omega | rfl | assumption | (simp only [List.length_map]; omega)) | refine Runs.ret (ends_ro hm rfl rfl ?_) | exact Runs.ret (ends_cellR hm rfl rfl rfl (Nat.le_of_ble_eq_true rfl) rfl rfl))
 | refine op_box rfl (tl hn rfl) ?_
 | refine op_storeF rfl rfl rfl rfl (Nat.le_of_ble_eq_true rfl) ?_
 | refine op_alloc (tl hn rfl) ?_
 | refine op_storeN rfl rfl rfl rfl (Nat.le_of_ble_eq_true rfl) ?_
 | ((first | refine RunsL.pe hn rfl rfl rfl ?_ | refine RunsD.pe rfl rfl ?_); first
 | refine ⟨_, pu_add rfl rfl (by omega), ?_⟩
 | refine ⟨_, pu_indexAddr_map rfl rfl (by omega) (by assumption), ?_⟩
 | refine ⟨_, pu_sub rfl rfl (by omega), ?_⟩
 | refine ⟨_, pu_pick_b rfl rfl rfl, ?_⟩
 | refine ⟨_, pu_mul rfl rfl (by omega), ?_⟩
 | refine ⟨_, pu_build rfl rfl rfl rfl rfl rfl, ?_⟩))
      refine next _ _ ⟨rfl, rfl, rfl, rfl, trivial⟩ hlt trivial ?_
      have e1 : cdT d (j + 1) = cdT d j ++ q := by rw [cdT, ← hq]; rfl
      have e2 : cdE d (j + 1) = cdE d j ++ [((cdC 0 (cdT d j)).length : Int)] := by rw [cdE]; rfl
      rw [e1, e2, cdC_app]
      unfold cdS
      rw [List.flatMap_append, List.map_append (f := RV.int)]
      rfl
    · obtain rfl : j = d.length := by omega
      obtain ⟨z, hz⟩ : ∃ z, (cdE d d.length)[d.length - 1]? = some z := ⟨_, List.getElem?_eq_getElem (by omega)⟩
      have hzz : (((cdE d d.length).map RV.int).map AV.ro)[((d.length : Int) - 1).toNat * 1]? = some (.ro (.int z)) := by
        rw [show ((d.length : Int) - 1).toNat * 1 = d.length - 1 by omega]
        simp [hz]
      rw [hz]
      repeat' (first
 | refine Runs.toDrawT (id := 10) 30 [] [0, 1, 2, 3, 4, 5, 6, 7, 8, 9, 10, 11] 12 [] mixed hn rfl (by kernel_rfl) rfl .nil (by decide) (by decide) (by decide) ?_
 | refine RunsT.nil ?_
 | refine RunsT.step tabOk rfl rfl (fun _ => rfl) (by decide) ?_
 | refine RunsT.pur (fun _ => pu_len_own (n := d.length) rfl rfl (by rw [ints_len1, hce])) (by decide) rfl rfl ?_
 | refine RunsT.pur (fun _ => pu_indexAddr_own (n := d.length) (sz := 1) rfl rfl rfl rfl (by rw [ints_len1, hce]) (by omega) (by omega)) (by decide) rfl rfl ?_
 | refine RunsT.pur (fun _ => pu_load_obj rfl rfl hzz) (by decide) rfl rfl ?_
 | refine RunsT.pur (fun _ => pu_indexAddr_own (n := (cdC 0 (cdT d d.length)).length) (sz := 3) rfl rfl rfl rfl (inss_len3 _) (by omega) (by rw [cdC_len]; omega)) (by decide) rfl rfl ?_
 | refine RunsT.pur (fun _ => pu_sub rfl rfl (by omega)) (by decide) rfl rfl ?_
 | refine RunsT.pur (fun _ => pu_add rfl rfl (by omega)) (by decide) rfl rfl ?_
 | refine RunsL.step tabOk hn rfl ?_
 | refine RunsL.nil ?_
 | refine Runs.toRegion 30 rfl ?_
 | ((first | refine RunsL.pe hn rfl rfl rfl ?_ | refine RunsD.pe rfl rfl ?_); first
 | refine ⟨_, pu_len_own (n := d.length) rfl rfl (by rw [ints_len1, hce]), ?_⟩
 | refine ⟨_, pu_indexAddr_own (n := d.length) (sz := 1) rfl rfl rfl rfl (by rw [ints_len1, hce]) (by omega) (by omega), ?_⟩
 | refine ⟨_, pu_load_obj rfl rfl hzz, ?_⟩
 | refine ⟨_, pu_indexAddr_own (n := (cdC 0 (cdT d d.length)).length) (sz := 3) rfl rfl rfl rfl (inss_len3 _) (by omega) (by rw [cdC_len]; omega), ?_⟩
 | refine ⟨_, pu_sub rfl rfl (by omega), ?_⟩)
 | (refine Runs.ctls 30 rfl ?_; first | refine Runs.cond_t rfl ?_ | refine Runs.cond_f rfl ?_ | ((first | refine Runs.cond_yes rfl ?_ ?_ | refine Runs.cond_nno rfl ?_ ?_); · first | omega | rfl | assumption | (simp only [List.length_map]; omega)) | ((first | refine Runs.cond_no rfl ?_ ?_ | refine Runs.cond_nyes rfl ?_ ?_); · first | omega | rfl | assumption | (simp only [List.length_map]; omega)) | refine Runs.ret (ends_ro hm rfl rfl ?_) | exact Runs.ret (ends_cellR hm rfl rfl rfl (Nat.le_of_ble_eq_true rfl) rfl rfl))
 | refine op_box rfl (tl hn rfl) ?_
 | refine op_storeF rfl rfl rfl rfl (Nat.le_of_ble_eq_true rfl) ?_
 | refine op_alloc (tl hn rfl) ?_
 | refine op_storeN rfl rfl rfl rfl (Nat.le_of_ble_eq_true rfl) ?_
 | ((first | refine RunsL.pe hn rfl rfl rfl ?_ | refine RunsD.pe rfl rfl ?_); first
 | refine ⟨_, pu_add rfl rfl (by omega), ?_⟩
 | refine ⟨_, pu_indexAddr_map rfl rfl (by omega) (by assumption), ?_⟩
 | refine ⟨_, pu_sub rfl rfl (by omega), ?_⟩
 | refine ⟨_, pu_pick_b rfl rfl rfl, ?_⟩
 | refine ⟨_, pu_mul rfl rfl (by omega), ?_⟩
 | refine ⟨_, pu_build rfl rfl rfl rfl rfl rfl, ?_⟩))
      exact Runs.ctls 30 rfl (Runs.ret (ends1 hm rfl (.agg [.own 2, .own 4]) ⟨1, 0, _, rfl, rfl, .inr ⟨2, inferInstance, Nat.le_of_ble_eq_true rfl, rfl⟩⟩ (.agg [.row 59 3 ((cdC z (cdT d d.length)).flatMap insR), .row 3 1 ((cdE d d.length).map RV.int)]) [2, 4] ⟨_, rfl, _, _, [2], [4], rfl, rfl, ⟨2, rfl, rfl, rfl⟩, _, _, [4], [], rfl, rfl, ⟨4, rfl, rfl, rfl⟩, rfl, rfl⟩ (by simp) rfl))
  · rw [decide_eq_false hG] at hv
    rw [cdF_no hG]
    refine ac_enter Try.func146 rfl _ Try.ntmps146 (by simp) fun C hn hm => ?_
    repeat' (first
 | refine RunsL.step tabOk hn rfl ?_
 | refine RunsL.nil ?_
 | refine Runs.toRegion 30 rfl ?_
 | ((first | refine RunsL.pe hn rfl rfl rfl ?_ | refine RunsD.pe rfl rfl ?_); first
 | refine ⟨_, pu_callR hv rfl, ?_⟩
 | refine ⟨_, pu_buildS rfl, ?_⟩)
 | (refine Runs.ctls 30 rfl ?_; first | refine Runs.cond_t rfl ?_ | refine Runs.cond_f rfl ?_ | ((first | refine Runs.cond_yes rfl ?_ ?_ | refine Runs.cond_nno rfl ?_ ?_); · first | omega | rfl | assumption | (simp only [List.length_map]; omega)) | ((first | refine Runs.cond_no rfl ?_ ?_ | refine Runs.cond_nyes rfl ?_ ?_); · first | omega | rfl | assumption | (simp only [List.length_map]; omega)) | refine Runs.ret (ends_ro hm rfl rfl ?_) | exact Runs.ret (ends_cellR hm rfl rfl rfl (Nat.le_of_ble_eq_true rfl) rfl rfl))
 | refine op_box rfl (tl hn rfl) ?_
 | refine op_storeF rfl rfl rfl rfl (Nat.le_of_ble_eq_true rfl) ?_
 | refine op_alloc (tl hn rfl) ?_
 | refine op_storeN rfl rfl rfl rfl (Nat.le_of_ble_eq_true rfl) ?_
 | ((first | refine RunsL.pe hn rfl rfl rfl ?_ | refine RunsD.pe rfl rfl ?_); first
 | refine ⟨_, pu_add rfl rfl (by omega), ?_⟩
 | refine ⟨_, pu_indexAddr_map rfl rfl (by omega) (by assumption), ?_⟩
 | refine ⟨_, pu_sub rfl rfl (by omega), ?_⟩
 | refine ⟨_, pu_pick_b rfl rfl rfl, ?_⟩
 | refine ⟨_, pu_mul rfl rfl (by omega), ?_⟩
 | refine ⟨_, pu_build rfl rfl rfl rfl rfl rfl, ?_⟩))
    refine Runs.ctls 30 rfl ?_
    refine Runs.nilCell 1 0 (e := 59) (sz := 3) (by decide) rfl rfl ?_
    refine Runs.nilCell 1 1 (e := 3) (sz := 1) (by decide) rfl rfl ?_
    exact Runs.ret (ends1 hm rfl (.agg [.own 2, .own 3]) ⟨1, 0, _, rfl, rfl, .inr ⟨2, inferInstance, Nat.le_of_ble_eq_true rfl, rfl⟩⟩ (.agg [.row 59 3 [], .row 3 1 []]) [2, 3] ⟨_, rfl, _, _, [2], [3], rfl, rfl, ⟨2, rfl, rfl, rfl⟩, _, _, [3], [], rfl, rfl, ⟨3, rfl, rfl, rfl⟩, rfl, rfl⟩ (by simp) rfl)
end Go.Proofs.Ytnecoghfhcimeaa
/- Rows of instructions, taken as data. -/
namespace Go.Proofs.Ytnecoghfhcimeaa
set_option linter.unusedSimpArgs false
set_option linter.unusedVariables false
open Go.RowKit
end Go.Proofs.Ytnecoghfhcimeaa
/- How much code a description has: both sides. -/
namespace Go.Proofs.Ytnecoghfhcimeaa
set_option linter.unusedSimpArgs false
set_option linter.unusedVariables false
open Go.RowKit
open AV (Mem Keeps)
set_option maxRecDepth 100000
section
variable {C : Ctx} {env : Env} {σ : List Ob} {t : Nat} {ty : TypeId} {pos : String} {after : Array Edge} {gd : Option (Nat × Bool)}
end
end Go.Proofs.Ytnecoghfhcimeaa
/- A row of the frame's own becomes data for good; an empty literal as data. Over any program. -/
namespace Go.Proofs.Ytnecoghfhcimeaa
set_option linter.unusedSimpArgs false
set_option linter.unusedVariables false
open Go.RowKit
open AV (Mem Keeps)
section
variable {P : Program} {C : Ctx} {k : List Item} {R : Act → World → Prop} {env : Env} {σ : List Ob}
theorem sim_freeze {i t : Nat} {o : Ob} {els : List (List RV)} {a : Act} {w : World} (hok : ∀ φ b, Good C ⟨w, φ, σ, C.ok⟩ → Holds ⟨w, φ, σ, C.ok⟩ env a → i < σ.length → φ i = some b → C.ok b) (ht : look env t = .own i) (ho : σ[i]? = some o) (hcs : o.cs = els.flatten.map .ro) (hl : ∀ x ∈ els, x.length = o.sz) (hfree : FreeI i (σ.set i ⟨o.t, o.sz, []⟩))
    (hs : Sim C ⟨env, σ⟩ a w) : Sim C ⟨(t, .ro (.seq o.sz els)) :: killEnv i env, σ.set i ⟨o.t, o.sz, []⟩⟩ a w := by
  obtain ⟨s1, s2, φ, hG, hH⟩ := hs
  have hil := (List.getElem?_eq_some_iff.1 ho).1
  have hlen : (σ.set i ⟨o.t, o.sz, []⟩).length = σ.length := by simp
  have hokk : ∀ b, AV.Mem.ok ⟨w, φ, σ, C.ok⟩ b → AV.Mem.ok ⟨w, upd φ i none, σ.set i ⟨o.t, o.sz, []⟩, C.ok⟩ b := fun b hb => ⟨hb.1, fun j hj e => by
    simp only [hlen] at hj
    by_cases h : j = i
    · subst h; simp only [upd_eq] at e; cases e
    · simp only [upd_ne h] at e; exact hb.2 j hj e⟩
  have hK : Keeps (fun j => j ≠ i) ⟨w, φ, σ, C.ok⟩ ⟨w, upd φ i none, σ.set i ⟨o.t, o.sz, []⟩, C.ok⟩ :=
    ⟨⟨Nat.le_refl _, fun b _ hb => ⟨hokk b hb, rfl⟩⟩, fun j hj hjl => ⟨by simpa using hjl, upd_ne hj⟩, fun j ob hj hob => ⟨ob.cs, by simp only [List.getElem?_set_ne (Ne.symm hj)]; exact hob, rfl⟩, fun j g us t _ _ _ hh => ⟨us, hh, rfl⟩⟩
  refine ⟨s1, s2, upd φ i none, ⟨rfl, fun p q g hp hq e1 e2 => ?_, fun j ob hj => ?_, fun j g hj hg => ?_, hG.frm⟩, fun s => ?_⟩
  · simp only [hlen] at hp hq
    have hp' : p ≠ i := fun e => by subst e; simp only [upd_eq] at e1; cases e1
    have hq' : q ≠ i := fun e => by subst e; simp only [upd_eq] at e2; cases e2
    simp only [upd_ne hp'] at e1
    simp only [upd_ne hq'] at e2
    exact hG.inj p q g hp hq e1 e2
  · by_cases h : j = i
    · subst h
      simp only [List.getElem?_set_self hil, Option.some.injEq] at hj
      subst hj
      show ObRel _ _ (upd φ j none j)
      rw [upd_eq]; rfl
    · have hfj := hfree.at_ j ob hj
      rw [List.getElem?_set_ne (Ne.symm h)] at hj
      have h0 := hG.ob j ob hj
      show ObRel _ _ (upd φ i none j)
      rw [upd_ne h]
      simp only at h0
      cases hφ : φ j with
      | none => rw [hφ] at h0; exact h0
      | some g =>
        rw [hφ] at h0
        obtain ⟨us, q1, q2, q3⟩ := h0
        refine ⟨us, q1, q2, fun m v hv => ?_⟩
        obtain ⟨u, e1, e2, e3⟩ := q3 m v hv
        exact ⟨u, e1, e2, AV.rel_keeps hK _ _ (onlys_mem hfj m v hv) e3⟩
  · simp only [hlen] at hj
    have h : j ≠ i := fun e => by subst e; simp only [upd_eq] at hg; cases hg
    simp only [upd_ne h] at hg
    exact hG.mine j g hj hg
  · show AV.rel _ (look ((t, _) :: killEnv i env) s) _
    rw [look_put]
    split
    · rename_i e; subst e
      have hu := hH t
      rw [ht] at hu
      simp only [AV.rel]
      -- the own row's block alone is needed
      have hrow := row_own (cs := els.flatten) (e := o.t) (sz := o.sz) hG (by rw [ho]; cases o; simp_all) hu
      obtain ⟨n, xs, h1, h2, h3, h4, h5, h6⟩ := hrow
      refine seals_rel (ok := AV.Mem.ok ⟨w, φ, σ, C.ok⟩) hokk (.row o.t o.sz els.flatten) (.seq o.sz els) _ _ (by simp only [Seals]; exact ⟨els, rfl, rfl, hl⟩) (by simp only [RR.rel]; exact ⟨n, xs, h1, h2, h3, h4, h5, rfl⟩) fun b hb => ?_
      rw [h6] at hb
      have hb' : φ i = some b := by simpa [Option.mem_toList] using hb
      refine ⟨hok φ b hG hH hil hb', fun j hj e => ?_⟩
      simp only [hlen] at hj
      by_cases h : j = i
      · subst h; simp only [upd_eq] at e; cases e
      · simp only [upd_ne h] at e; exact h (hG.inj j i b hj hil e hb')
    · rw [look_killEnv]
      exact AV.rel_keeps hK _ _ (AV.kill_only i _) (AV.kill_rel i _ _ (hH s))
theorem RunsL.freezeD {ops : Array Oper} {l : List Oper} {g : Nat} (i t : Nat) {o : Ob} (els : List (List RV)) (hm : ∀ x, C.mu x → x = g) (hp : look env 0 = .pin 0 0 g) (hi : i ≠ 0) (ht : look env t = .own i) (ho : σ[i]? = some o) (hcs : o.cs = els.flatten.map .ro) (hl : ∀ x ∈ els, x.length = o.sz) (hfree : FreeI i (σ.set i ⟨o.t, o.sz, []⟩))
    (hk : RunsL P C ops l k R ⟨(t, .ro (.seq o.sz els)) :: killEnv i env, σ.set i ⟨o.t, o.sz, []⟩⟩) : RunsL P C ops l k R ⟨env, σ⟩ := ⟨fun a w hs => hk.run a w (sim_freeze (fun φ b hG hH hil hb => hG.frm.new b ((hG.mine i b hil hb).resolve_left fun hmb => by
      have hg := hm b hmb
      subst hg
      have h0 := hH 0
      rw [hp] at h0
      simp only [AV.rel] at h0
      exact hi (hG.inj i 0 b hil h0.1 hb h0.2.1))) ht ho hcs hl hfree hs)⟩
variable {t : Nat} {ty : TypeId} {pos : String} {after : Array Edge} {gd : Option (Nat × Bool)}
end
end Go.Proofs.Ytnecoghfhcimeaa
/- The draw of a program. -/
namespace Go.Proofs.Ytnecoghfhcimeaa
set_option linter.unusedSimpArgs false
set_option linter.unusedVariables false
open Go.RowKit
open AV (Mem Keeps)
structure PrgS (p : Prg) : Prop where
  code : p.code.length ≤ 10000
  ents : p.entries.length ≤ 100
  vals : ∀ z ∈ p.entries, -100000 ≤ z ∧ z ≤ 100000
theorem cdE_vals {d : Des} (hd : dtotal d ≤ 1000) (hG : Good' d) : ∀ j, j ≤ d.length → ∀ z ∈ cdE d j, 0 ≤ z ∧ z ≤ 10000
  | 0, _, z, hz => by simp [cdE] at hz
  | j + 1, hj, z, hz => by
    rw [cdE] at hz
    rcases List.mem_append.1 hz with h | h
    · exact cdE_vals hd hG j (by omega) z h
    · simp only [List.mem_singleton] at h
      subst h
      have h1 := cdT_len d (by omega) j (by omega)
      have h2 := sum_take_le Rul.total d j
      have h3 := hG.2.1
      have et : dtotal d = d.length + (d.map Rul.total).sum := rfl
      omega
theorem cdF_small {d : Des} (hD : DrawD d) : PrgS (cdF d) ∧ 2 ≤ (cdF d).code.length ∧ 1 ≤ (cdF d).entries.length ∧ (cdF d).entries.length ≤ 6 := by
  have hd := hD.total
  have hG := hD.good
  rw [cdF_yes hG]
  have h1 := cdT_len d (by omega) d.length (Nat.le_refl _)
  have h2 := sum_take_le Rul.total d d.length
  have h3 := hD.most
  have h4 := hD.pos
  have et : dtotal d = d.length + (d.map Rul.total).sum := rfl
  refine ⟨⟨?_, ?_, fun z hz => ?_⟩, ?_, ?_, ?_⟩
  · show (cdC _ _).length ≤ _; rw [cdC_len]; omega
  · show (cdE d d.length).length ≤ _; rw [cdE_len]; omega
  · have := cdE_vals hd hG d.length (Nat.le_refl _) z hz; omega
  · show 2 ≤ (cdC _ _).length; rw [cdC_len]; omega
  · show 1 ≤ (cdE d d.length).length; rw [cdE_len]; omega
  · show (cdE d d.length).length ≤ 6; rw [cdE_len]; omega
theorem flatMap_split {α : Type} (f : α → List RV) (l : List α) (k : Nat) (i : α) (h : l[k]? = some i) : l.flatMap f = (l.take k).flatMap f ++ (f i ++ (l.drop (k + 1)).flatMap f) := by
  obtain ⟨hk, rfl⟩ := List.getElem?_eq_some_iff.1 h
  conv => lhs; rw [← List.take_append_drop k l, List.drop_eq_getElem_cons hk, List.flatMap_append, List.flatMap_cons]
theorem take_flat {l : List Ins} {k : Nat} (h : k ≤ l.length) : ((l.take k).flatMap insR).length = k * 3 := by rw [insR_flat, List.length_take, Nat.min_eq_left h]
theorem set_ins {l : List Ins} {k : Nat} {i j : Ins} {c : Nat} {v : RV} (h : l[k]? = some i) (hc : c < 3) (hj : (insR i).set c v = insR j) : ((l.flatMap insR).map AV.ro).set (k * 3 + c) (.ro v) = ((l.set k j).flatMap insR).map AV.ro := by
  have hk := (List.getElem?_eq_some_iff.1 h).1
  have h' : (l.set k j)[k]? = some j := by rw [List.getElem?_set_self hk]
  have ht : (l.set k j).take k = l.take k := by rw [List.take_set_of_le (Nat.le_refl _)]
  have hd : (l.set k j).drop (k + 1) = l.drop (k + 1) := by rw [List.drop_set_of_lt (by omega)]
  rw [flatMap_split insR l k i h, flatMap_split insR (l.set k j) k j h', ht, hd, ← hj]
  rw [← List.map_set, List.set_append_right _ _ (by rw [take_flat (by omega)]; omega), take_flat (by omega), show k * 3 + c - k * 3 = c by omega, List.set_append_left _ _ (by rw [insR_len]; exact hc)]
def QPrg (rr : RR) : Prop := ∃ p, rr = .ro (prgR p) ∧ PrgS p
theorem qprg_ok : ∀ rr, QPrg rr → ∃ r, Seals rr r ∧ ∃ p, r = prgR p ∧ PrgS p := by
  rintro _ ⟨p, rfl, hp⟩; exact ⟨_, by simp [Seals], p, rfl, hp⟩
theorem ends_prg {C : Ctx} {fn : Func} {ct : TypeId} {b : List UInt8} {g : Nat} {u : Value} {env : Env} {σ : List Ob} {i h : Int} {more : List Ob} {t j : Nat} {p : Prg} {tt : TypeId} {va vb : AV} (hm : ∀ x, C.mu x → x = g) (hr : fn.results = #[.cell t 62]) (hσ : σ = curOb ct u i h :: more) (ht : look env 0 = .pin 0 0 g) (hi : CurOk b i) (h1 : look env t = .obj j 0) (h2 : σ[j]? = some ⟨tt, 0, [va, vb]⟩)
    (la : LendsP C σ va (inssR p.code)) (lb : LendsP C σ vb (intsR p.entries)) (hQ : PrgS p) : ∀ a w, Sim C ⟨env, σ⟩ a w → EndsD Try.prog C fn ct b g u QPrg a w :=
  endsD_lend (v := .agg [va, vb]) (r := prgR p) hm hr hσ ht hi (by
    simp only [ResV]
    exact ⟨j, 0, _, h1, h2, .inr ⟨2, by infer_instance, Nat.le_refl _, rfl⟩⟩) (LendsP.agg (.cons la (.cons lb .nil))) ⟨p, rfl, hQ⟩
theorem lendCode {C : Ctx} {σ : List Ob} {i : Nat} {l : List Ins} {cs : List AV} (hi : 0 < i) (ho : σ[i]? = some ⟨59, 3, cs⟩) (hc : cs = (l.flatMap insR).map .ro) : LendsP C σ (.own i) (inssR l) :=
  LendsP.own (o := ⟨59, 3, cs⟩) (els := l.map insR) hi ho (by rw [hc, List.flatMap_def]) fun x hx => by obtain ⟨y, _, rfl⟩ := List.mem_map.1 hx; rfl
theorem lendInts {C : Ctx} {σ : List Ob} {i : Nat} {l : List Int} {cs : List AV} (hi : 0 < i) (ho : σ[i]? = some ⟨3, 1, cs⟩) (hc : cs = (l.map RV.int).map .ro) : LendsP C σ (.own i) (intsR l) :=
  LendsP.own (o := ⟨3, 1, cs⟩) (els := l.map fun z => [RV.int z]) hi ho (by rw [hc, flat1]) (len1 _ _)
theorem PrgS.set {p : Prg} (h : PrgS p) {k : Nat} {i : Ins} : PrgS ⟨p.code.set k i, p.entries⟩ := ⟨by simpa using h.code, h.ents, h.vals⟩
set_option maxHeartbeats 16000000 in
theorem l16Program_d (b : List UInt8) (hb : b.length ≤ 1048576) : Drw Try.prog 123 103 b [] QPrg := by
  refine drw_enter Try.func103 rfl _ Try.ntmps103 (by simp) fun C g u i h hn hm hu hi => ?_
  repeat' (first
 | (refine op_drawN (l4Description_d b hb) qdes_ok rfl hu hi rfl rfl rfl (by first | rfl | repeat' (first | rfl | exact clns_ro _ | refine clnO_cons ?_ ?_)) (tl hn rfl) ?_; rintro i h _ hi ⟨d, rfl, hD⟩)
 | refine RunsL.step tabOk hn rfl ?_
 | refine RunsL.nil ?_
 | refine Runs.toRegion 30 rfl ?_
 | (refine Runs.ctls 30 rfl ?_; first | ((first | refine Runs.cond_yes rfl ?_ ?_ | refine Runs.cond_nno rfl ?_ ?_); · first | omega | rfl | assumption | (simp only [List.length_map]; omega)) | ((first | refine Runs.cond_no rfl ?_ ?_ | refine Runs.cond_nyes rfl ?_ ?_); · first | omega | rfl | assumption | (simp only [List.length_map]; omega)) | refine Runs.cond_dec rfl (fun h => ?_) (fun h => ?_) | refine Runs.ret (ends_ro hm rfl rfl ?_) | exact Runs.ret (ends_cellR hm rfl rfl rfl (Nat.le_of_ble_eq_true rfl) rfl rfl))
 | refine op_storeF rfl rfl rfl rfl (Nat.le_of_ble_eq_true rfl) ?_
 | refine op_alloc (tl hn rfl) ?_
 | refine op_storeN rfl rfl rfl rfl (Nat.le_of_ble_eq_true rfl) ?_
 | ((first | refine RunsL.pe hn rfl rfl rfl ?_ | refine RunsD.pe rfl rfl ?_); first
 | refine ⟨_, pu_add rfl rfl (by omega), ?_⟩
 | refine ⟨_, pu_indexAddr_map rfl rfl (by omega) (by assumption), ?_⟩
 | refine ⟨_, pu_sub rfl rfl (by omega), ?_⟩
 | refine ⟨_, pu_pick_b rfl rfl rfl, ?_⟩
 | refine ⟨_, pu_mul rfl rfl (by omega), ?_⟩
 | refine ⟨_, pu_build rfl rfl rfl rfl rfl rfl, ?_⟩))
  have hd : dtotal d ≤ 1048576 := by have := hD.total; omega
  obtain ⟨hP, hP2, hP1, hP6⟩ := cdF_small hD
  refine op_callOR (spec_CompileDescription d hD.desOk hd) rfl (tl hn rfl) ?_
  refine op_alloc (tl hn rfl) ?_
  refine op_storeN rfl rfl rfl rfl (Nat.le_of_ble_eq_true rfl) ?_
  refine RunsL.nil ?_
  generalize cdF d = p at hP hP2 hP1 hP6
  refine Runs.keep [(0, .pin 0 0 g), (2, .obj 1 0), (3, .obj 4 0)] ⟨rfl, rfl, rfl, trivial⟩ ?_
  show Runs _ _ _ _ ⟨_, [curOb 123 u i h, ⟨62, 0, [.nil, .nil]⟩, ⟨59, 3, (p.code.flatMap insR).map .ro⟩, ⟨3, 1, (p.entries.map RV.int).map .ro⟩, ⟨62, 0, [.own 2, .own 3]⟩]⟩
  have hpc := hP.code
  have hpe := hP.ents
  have hem : (p.entries.map RV.int).length = p.entries.length := List.length_map ..
  have hemm : ((p.entries.map RV.int).map AV.ro).length = p.entries.length * 1 := by simp
  repeat' (first
 | (refine op_drawI (t := 16) (l1Below_d b hb (p.code.length : Int) (by omega)) rfl hu hi rfl (LendsPL.ros [.int (p.code.length : Int)]) rfl (by first | rfl | repeat' (first | rfl | exact clns_ro _ | refine clnO_cons ?_ ?_)) (tl hn rfl) ?_; intro i h k hi hk; obtain ⟨hka, hkb⟩ := hk.2 (by omega))
 | (refine op_drawI (l1Below_d b hb _ (by omega)) rfl hu hi rfl (LendsPL.ros [.int _]) rfl (by first | rfl | repeat' (first | rfl | exact clns_ro _ | refine clnO_cons ?_ ?_)) (tl hn rfl) ?_; intro i h x hi hx; obtain ⟨hxa, hxb⟩ := hx.2 (by omega))
 | refine Runs.toLate (id := 8) 30 [0, 1, 2, 3] [4, 5, 6, 7, 8] mixed rfl rfl (by kernel_rfl) (by kernel_rfl) (by kernel_rfl) ?_
 | (refine RunsP.drawI (t := 37) (l1Below_d b hb 20 (by omega)) rfl hu hi (fun _ => LendsPL.ros [.int 20]) rfl (by first | rfl | repeat' (first | rfl | exact clns_ro _ | refine clnO_cons ?_ ?_)) (tl hn rfl) ?_; intro i h q hi hq; obtain ⟨hqa, hqb⟩ := hq.2 (by omega))
 | refine Runs.toLate (id := 10) 30 [0, 1, 2, 3, 4, 5, 6, 7] [8, 9, 10, 11, 12] mixed rfl rfl (by kernel_rfl) (by kernel_rfl) (by kernel_rfl) ?_
 | (refine RunsP.drawI (t := 51) (l1Below_d b hb ((p.code.length : Int) + 4) (by omega)) rfl hu hi (fun _ => LendsPL.ros [.int ((p.code.length : Int) + 4)]) rfl (by first | rfl | repeat' (first | rfl | exact clns_ro _ | refine clnO_cons ?_ ?_)) (tl hn rfl) ?_; intro i h q hi hq; obtain ⟨hqa, hqb⟩ := hq.2 (by omega))
 | refine Runs.toLate (id := 6) 30 [0, 1, 2, 3, 4, 5, 6, 7] [8, 9, 10, 11, 12] mixed rfl rfl (by kernel_rfl) (by kernel_rfl) (by kernel_rfl) ?_
 | (refine RunsP.drawI (t := 27) (l1Below_d b hb ((p.code.length : Int) + 4) (by omega)) rfl hu hi (fun _ => LendsPL.ros [.int ((p.code.length : Int) + 4)]) rfl (by first | rfl | repeat' (first | rfl | exact clns_ro _ | refine clnO_cons ?_ ?_)) (tl hn rfl) ?_; intro i h q hi hq; obtain ⟨hqa, hqb⟩ := hq.2 (by omega))
 | refine Runs.toLate (id := 18) 30 [0, 1, 2, 3, 4, 5, 6] [7, 8, 9, 10, 11] mixed rfl rfl (by kernel_rfl) (by kernel_rfl) (by kernel_rfl) ?_
 | (refine RunsP.drawI (t := 84) (l1Below_d b hb ((p.code.length : Int) + 2) (by omega)) rfl hu hi (fun _ => LendsPL.ros [.int ((p.code.length : Int) + 2)]) rfl (by first | rfl | repeat' (first | rfl | exact clns_ro _ | refine clnO_cons ?_ ?_)) (tl hn rfl) ?_; intro i h q hi hq; obtain ⟨hqa, hqb⟩ := hq.2 (by omega))
 | refine RunsH.pur (fun _ _ => pu_auto tabOk rfl) rfl (tl hn rfl) rfl ?_
 | refine RunsH.pur (fun _ _ => pu_len_own (n := p.code.length) rfl rfl (inss_len3 _)) rfl (tl hn rfl) rfl ?_
 | refine RunsH.pur (fun _ _ => pu_indexAddr_own (n := p.code.length) rfl rfl rfl rfl (inss_len3 _) (by omega) (by omega)) rfl (tl hn rfl) rfl ?_
 | refine RunsH.pur (fun _ _ => pu_sub rfl rfl (by omega)) rfl (tl hn rfl) rfl ?_
 | refine RunsH.pur (fun _ _ => pu_add rfl rfl (by omega)) rfl (tl hn rfl) rfl ?_
 | refine RunsH.pur (fun _ _ => pu_buildS rfl) rfl (tl hn rfl) rfl ?_
 | refine RunsH.pur (fun _ _ => pu_build rfl rfl rfl rfl rfl rfl) rfl (tl hn rfl) rfl ?_
 | refine RunsH.pur (fun _ _ => pu_add rfl rfl (by omega)) rfl (tl hn rfl) rfl ?_
 | refine RunsH.pur (fun _ _ => pu_sub rfl rfl (by omega)) rfl (tl hn rfl) rfl ?_
 | refine RunsH.pur (fun _ _ => pu_build rfl rfl rfl rfl rfl rfl) rfl (tl hn rfl) rfl ?_
 | refine RunsH.nil ?_
 | refine RunsP.pur (pu_auto tabOk rfl) rfl rfl (tl hn rfl) (by first | rfl | repeat' (first | rfl | exact clns_ro _ | refine clnO_cons ?_ ?_)) ?_
 | refine RunsP.pur (pu_len_own (n := p.code.length) rfl rfl (inss_len3 _)) rfl rfl (tl hn rfl) (by first | rfl | repeat' (first | rfl | exact clns_ro _ | refine clnO_cons ?_ ?_)) ?_
 | refine RunsP.pur (pu_indexAddr_own (n := p.code.length) rfl rfl rfl rfl (inss_len3 _) (by omega) (by omega)) rfl rfl (tl hn rfl) (by first | rfl | repeat' (first | rfl | exact clns_ro _ | refine clnO_cons ?_ ?_)) ?_
 | refine RunsP.pur (pu_sub rfl rfl (by omega)) rfl rfl (tl hn rfl) (by first | rfl | repeat' (first | rfl | exact clns_ro _ | refine clnO_cons ?_ ?_)) ?_
 | refine RunsP.pur (pu_add rfl rfl (by omega)) rfl rfl (tl hn rfl) (by first | rfl | repeat' (first | rfl | exact clns_ro _ | refine clnO_cons ?_ ?_)) ?_
 | refine RunsP.pur (pu_buildS rfl) rfl rfl (tl hn rfl) (by first | rfl | repeat' (first | rfl | exact clns_ro _ | refine clnO_cons ?_ ?_)) ?_
 | refine RunsP.pur (pu_build rfl rfl rfl rfl rfl rfl) rfl rfl (tl hn rfl) (by first | rfl | repeat' (first | rfl | exact clns_ro _ | refine clnO_cons ?_ ?_)) ?_
 | refine RunsP.pur (pu_add rfl rfl (by omega)) rfl rfl (tl hn rfl) (by first | rfl | repeat' (first | rfl | exact clns_ro _ | refine clnO_cons ?_ ?_)) ?_
 | refine RunsP.pur (pu_sub rfl rfl (by omega)) rfl rfl (tl hn rfl) (by first | rfl | repeat' (first | rfl | exact clns_ro _ | refine clnO_cons ?_ ?_)) ?_
 | refine RunsP.pur (pu_build rfl rfl rfl rfl rfl rfl) rfl rfl (tl hn rfl) (by first | rfl | repeat' (first | rfl | exact clns_ro _ | refine clnO_cons ?_ ?_)) ?_
 | refine RunsL.step tabOk hn rfl ?_
 | refine RunsL.nil ?_
 | refine Runs.toRegion 30 rfl ?_
 | refine op_storeF rfl rfl rfl rfl (by show k.toNat * 3 + _ < ((p.code.flatMap insR).map AV.ro).length; rw [inss_len3]; omega) ?_
 | refine RunsP.done 8 rfl (Nat.le_of_ble_eq_true rfl) (by kernel_rfl) (by kernel_rfl) ?_
 | refine RunsP.done 12 rfl (Nat.le_of_ble_eq_true rfl) (by kernel_rfl) (by kernel_rfl) ?_
 | refine RunsP.done 9 rfl (Nat.le_of_ble_eq_true rfl) (by kernel_rfl) (by kernel_rfl) ?_
 | (refine RunsL.junk 4 1 rfl ?_; refine op_append (t := 86) (n := p.entries.length) rfl rfl rfl rfl rfl rfl (by rw [hem, Nat.mul_one]) (FreeI.at_ ⟨by simp [curOb, AV.onlys, AV.only], by simp [AV.onlys, AV.only], onlys_ro _ _, onlys_ro _ _, by simp [AV.onlys, AV.only], trivial⟩) (by simp; omega) (by simp; omega) (tl hn rfl) ?_)
 | (refine RunsL.junk 4 1 rfl ?_; refine RunsL.freezeD 3 62 (p.entries.map fun z => [RV.int z]) hm rfl (by decide) rfl rfl (by rw [flat1]) (len1 _ _) ⟨by simp [curOb, AV.onlys, AV.only], by simp [AV.onlys, AV.only], onlys_ro _ _, trivial, by simp [AV.onlys, AV.only], trivial⟩ ?_; refine RunsL.pe hn rfl rfl rfl ?_; refine ⟨_, pu_slice_lM rfl rfl (by decide) (by omega), ?_⟩)
 | (refine RunsL.junk 4 0 rfl ?_; refine RunsL.freezeD 2 68 (p.code.map insR) hm rfl (by decide) rfl rfl (by rw [List.flatMap_def]) (fun x hx => by obtain ⟨y, _, rfl⟩ := List.mem_map.1 hx; rfl) ⟨by simp [curOb, AV.onlys, AV.only], by simp [AV.onlys, AV.only], trivial, onlys_ro _ _, by simp [AV.onlys, AV.only], trivial⟩ ?_; refine RunsL.pe hn rfl rfl rfl ?_; refine ⟨_, pu_slice_hM rfl rfl (by omega) (by omega), ?_⟩)
 | ((first | refine RunsL.pe hn rfl rfl rfl ?_ | refine RunsD.pe rfl rfl ?_); first
 | refine ⟨_, pu_len_own (n := p.code.length) rfl rfl (inss_len3 _), ?_⟩
 | refine ⟨_, pu_indexAddr_own (n := p.code.length) rfl rfl rfl rfl (inss_len3 _) (by omega) (by omega), ?_⟩
 | refine ⟨_, pu_sub rfl rfl (by omega), ?_⟩
 | refine ⟨_, pu_add rfl rfl (by omega), ?_⟩
 | refine ⟨_, pu_buildS rfl, ?_⟩
 | refine ⟨_, pu_build rfl rfl rfl rfl rfl rfl, ?_⟩)
 | (refine Runs.ctls 30 rfl ?_; first | ((first | refine Runs.cond_yes rfl ?_ ?_ | refine Runs.cond_nno rfl ?_ ?_); · first | omega | rfl | assumption | (simp only [List.length_map]; omega)) | ((first | refine Runs.cond_no rfl ?_ ?_ | refine Runs.cond_nyes rfl ?_ ?_); · first | omega | rfl | assumption | (simp only [List.length_map]; omega)) | refine Runs.cond_dec rfl (fun h => ?_) (fun h => ?_) | refine Runs.ret (ends_ro hm rfl rfl ?_) | exact Runs.ret (ends_cellR hm rfl rfl rfl (Nat.le_of_ble_eq_true rfl) rfl rfl))
 | refine op_storeF rfl rfl rfl rfl (Nat.le_of_ble_eq_true rfl) ?_
 | refine op_alloc (tl hn rfl) ?_
 | refine op_storeN rfl rfl rfl rfl (Nat.le_of_ble_eq_true rfl) ?_
 | ((first | refine RunsL.pe hn rfl rfl rfl ?_ | refine RunsD.pe rfl rfl ?_); first
 | refine ⟨_, pu_add rfl rfl (by omega), ?_⟩
 | refine ⟨_, pu_indexAddr_map rfl rfl (by omega) (by assumption), ?_⟩
 | refine ⟨_, pu_sub rfl rfl (by omega), ?_⟩
 | refine ⟨_, pu_pick_b rfl rfl rfl, ?_⟩
 | refine ⟨_, pu_mul rfl rfl (by omega), ?_⟩
 | refine ⟨_, pu_build rfl rfl rfl rfl rfl rfl, ?_⟩))
  all_goals first
    | exact Runs.ctls 30 rfl (Runs.ret (ends_prg (p := p) hm rfl rfl rfl hi rfl rfl (lendCode (by decide) rfl rfl) (lendInts (by decide) rfl rfl) hP))
    | exact Runs.ctls 30 rfl (Runs.ret (ends_prg (p := ⟨[], []⟩) hm rfl rfl rfl hi rfl rfl (LendsP.nil 3) (LendsP.nil 1) ⟨by simp, by simp, by simp⟩))
    | exact Runs.ctls 30 rfl (Runs.ret (ends_prg (p := ⟨p.code, p.entries ++ [q]⟩) hm rfl rfl rfl hi rfl rfl (lendCode (by decide) rfl rfl) (lendInts (by decide) rfl (by simp)) ⟨hpc, by simp; omega, fun z hz => by
        rcases List.mem_append.1 hz with h1 | h1
        · exact hP.vals z h1
        · simp at h1; omega⟩))
    | exact Runs.ctls 30 rfl (Runs.ret (ends_prg (p := ⟨p.code, p.entries.drop 1⟩) hm rfl rfl rfl hi rfl rfl (lendCode (by decide) rfl rfl) LendsP.ro ⟨hpc, by simp; omega, fun z hz => hP.vals z (List.mem_of_mem_drop hz)⟩))
    | exact Runs.ctls 30 rfl (Runs.ret (ends_prg (p := ⟨p.code.take ((p.code.length : Int) - 1).toNat, p.entries⟩) hm rfl rfl rfl hi rfl rfl LendsP.ro (lendInts (by decide) rfl rfl) ⟨by simp; omega, hpe, hP.vals⟩))
    | (obtain ⟨y, hy⟩ : ∃ y, p.code[k.toNat]? = some y := ⟨_, List.getElem?_eq_getElem (by omega)⟩
       exact Runs.ctls 30 rfl (Runs.ret (ends_prg (p := ⟨p.code.set k.toNat ⟨q - 1, y.a, y.b⟩, p.entries⟩) hm rfl rfl rfl hi rfl rfl (lendCode (by decide) rfl (set_ins (c := 0) (v := .int (q - 1)) hy (by decide) rfl)) (lendInts (by decide) rfl rfl) hP.set)))
    | (obtain ⟨y, hy⟩ : ∃ y, p.code[k.toNat]? = some y := ⟨_, List.getElem?_eq_getElem (by omega)⟩
       exact Runs.ctls 30 rfl (Runs.ret (ends_prg (p := ⟨p.code.set k.toNat ⟨y.op, q - 2, y.b⟩, p.entries⟩) hm rfl rfl rfl hi rfl rfl (lendCode (by decide) rfl (set_ins (c := 1) (v := .int (q - 2)) hy (by decide) rfl)) (lendInts (by decide) rfl rfl) hP.set)))
    | (obtain ⟨y, hy⟩ : ∃ y, p.code[k.toNat]? = some y := ⟨_, List.getElem?_eq_getElem (by omega)⟩
       exact Runs.ctls 30 rfl (Runs.ret (ends_prg (p := ⟨p.code.set k.toNat ⟨y.op, y.a, q - 2⟩, p.entries⟩) hm rfl rfl rfl hi rfl rfl (lendCode (by decide) rfl (set_ins (c := 2) (v := .int (q - 2)) hy (by decide) rfl)) (lendInts (by decide) rfl rfl) hP.set)))
end Go.Proofs.Ytnecoghfhcimeaa
/- Regions that draw their order, with some operations that look at operands alone and may come late. Over any program. -/
namespace Go.Proofs.Ytnecoghfhcimeaa
set_option linter.unusedSimpArgs false
set_option linter.unusedVariables false
open Go.RowKit
open AV (Mem Keeps)
section
variable {P : Program} {md : Region.Mode} {ops : Array Oper}
def YA (P : Program) (ops : Array Oper) (o : Oper) (v : Value) (a : Act) : Prop := Region.wanted o (yielded ops a.tmps) = true ∧ ∀ w, (execOp a.eval o).run P w = .ok (.value v) w
theorem YA.put {oi oj : Oper} {v u : Value} {a : Act} (hsi : ∀ cs b, oi.op ≠ .select cs b) (h3 : ∀ d, oj.dst = some d → d ∉ oi.looksAt ops) (h : YA P ops oi v a) : YA P ops oi v (a.put oj.dst u) :=
  ⟨by rw [wanted_put oi a oj.dst u h3]; exact h.1, fun w => by rw [execOp_put oi hsi a oj.dst u h3]; exact h.2 w⟩
theorem wpOp_ya {F : Act → World → Prop} {j : Nat} {oi oj : Oper} {v : Value} (hj : ops[j]? = some oj) (hap : oi.apart ops oj = true) (hsi : ∀ cs b, oi.op ≠ .select cs b) (hsj : ∀ cs b, oj.op ≠ .select cs b) {K K' : Act → World → Prop} {a : Act} {w : World} (hy : YA P ops oi v a)
    (h : wpOp P ops (nrm F) j K' (a.put oi.dst v) w) (hK : ∀ a' w', YA P ops oi v a' → K' (a'.put oi.dst v) w' → K a' w') : wpOp P ops (nrm F) j K a w := by
  obtain ⟨h1, h2, h3⟩ := Oper.apart_spec hap
  unfold wpOp at *
  simp only [hj] at *
  rw [wanted_put oj a oi.dst _ h1] at h
  have key : ∀ u w', K' ((a.put oi.dst v).put oj.dst u) w' → K (a.put oj.dst u) w' := fun u w' hk => hK _ _ (hy.put hsi h3) (by rwa [← Act.put_comm a v u h2])
  split
  · rename_i hw
    simp only [hw, if_true] at h
    refine h.imp (fun h => ?_) (fun h => ⟨?_, h.2⟩)
    · unfold Oper.wp at *
      rw [execOp_put oj hsj a oi.dst _ h1] at h
      generalize (execOp a.eval oj).run P w = r at *
      cases r with
      | ok n w' =>
        cases n with
        | value u => exact key u w' h
        | skip => exact key undef w' h
        | enter f args => exact Calls.mono h (fun e w'' he => by cases e <;> first | exact key _ w'' he | exact he | exact he.elim)
        | row r args => exact Rows.mono h fun v w'' he => key v w'' he
        | defer d =>
          simp only [Oper.upon] at h ⊢
          have e : ({ a.put oi.dst v with defers := d :: (a.put oi.dst v).defers } : Act).put oj.dst undef = (({ a with defers := d :: a.defers } : Act).put oj.dst undef).put oi.dst v := by
            have := Act.put_comm ({ a with defers := d :: a.defers } : Act) v undef h2
            rw [← this]
            cases oi.dst <;> rfl
          rw [e] at h
          refine hK _ _ ?_ h
          have hy' : YA P ops oi v ({ a with defers := d :: a.defers } : Act) := hy
          exact hy'.put hsi h3
        | _ => exact h
      | halt x w' => cases x <;> exact h
    · have := h.1
      unfold Oper.asks at this ⊢
      rwa [execOp_put oj hsj a oi.dst _ h1] at this
  · rename_i hw
    simp only [hw] at h
    exact key undef w h
theorem wpAny_ya {F : Act → World → Prop} {i : Nat} {oi : Oper} {v : Value} (hi : ops[i]? = some oi) (hsel : ∀ (j : Nat) (o : Oper) cs b, ops[j]? = some o → o.op ≠ .select cs b) :
    ∀ (fuel : Nat) (listed : Array Bool) (a : Act) (w : World), YA P ops oi v a →
      (∀ j oj, ops[j]? = some oj → j ≠ i → listed.getD j true = false → (∀ e ∈ oj.after, Region.binds md e = true → e.on ≠ i) → oi.apart ops oj = true) →
      i ∈ Region.ready md ops listed →
      wpAny P md ops (nrm F) fuel (listed.setIfInBounds i true) (a.put oi.dst v) w → wpAny P md ops (nrm F) (fuel + 1) listed a w := by
  have own : ∀ {K : Act → World → Prop} {a : Act} {w : World}, YA P ops oi v a → K (a.put oi.dst v) w → wpOp P ops (nrm F) i K a w := by
    intro K a w hy h
    unfold wpOp
    simp only [hi]
    rw [if_pos hy.1]
    refine .inl ?_
    unfold Oper.wp
    rw [hy.2 w]
    exact h
  intro fuel
  induction fuel with
  | zero =>
    intro listed a w hy _ hr H
    refine ⟨fun h => (by rw [h] at hr; cases hr), fun j hj => ?_⟩
    by_cases hji : j = i
    · subst hji; exact own hy H
    · have := ready_mono hj hji
      rw [H.1] at this
      cases this
  | succ fuel ih =>
    intro listed a w hy hfree hr H
    refine ⟨fun h => (by rw [h] at hr; cases hr), fun j hj => ?_⟩
    by_cases hji : j = i
    · subst hji; exact own hy H
    · have h1 := H.2 j (ready_mono hj hji)
      obtain ⟨hjun, oj, hoj, hall⟩ := mem_ready.1 hj
      have hnot : ∀ e ∈ oj.after, Region.binds md e = true → e.on ≠ i := fun e he hb heq => by
        have h1 := hall e he hb
        have h0 := (mem_ready.1 hr).1
        rw [heq, getD_both h0] at h1
        cases h1
      have hfree' : ∀ k ok, ops[k]? = some ok → k ≠ i → (listed.setIfInBounds j true).getD k true = false →
          (∀ e ∈ ok.after, Region.binds md e = true → e.on ≠ i) → oi.apart ops ok = true := fun k ok hk hki hun hno => by
        refine hfree k ok hk hki ?_ hno
        by_cases hjk : j = k
        · subst hjk; exact hjun
        · rw [getD_set_ne true hjk] at hun; exact hun
      refine wpOp_ya hoj (hfree j oj hoj hji hjun hnot) (fun cs b => hsel i oi cs b hi) (fun cs b => hsel j oj cs b hoj) hy h1 fun a' w' hy' h3 => ih (listed.setIfInBounds j true) a' w' hy' hfree' (ready_mono hr (Ne.symm hji)) ?_
      rw [Array.setIfInBounds_comm _ _ hji]
      exact h3
def isMv (o : Oper) : Bool := match o with
  | ⟨some _, .move _, _, _, _, none⟩ => true
  | ⟨some _, .extract _ _, _, _, _, none⟩ => true
  | _ => false
theorem isMv_ya {o : Oper} (h : isMv o = true) (a : Act) : (∃ u, YA P ops o u a) ∨ ∀ w x w', (execOp a.eval o).run P w ≠ .ok x w' ∧ ∀ v, (execOp a.eval o).run P w ≠ .halt (.panic v) w' := by
  obtain ⟨dst, op, ty, pos, after, g⟩ := o
  unfold isMv at h
  split at h
  · rename_i he; injection he with e1 e2 e3 e4 e5 e6; subst e1; subst e2; subst e6
    exact .inl ⟨_, by simp [Region.wanted], fun w => by simp [execOp]; rfl⟩
  · rename_i t x j _ _ _ he; injection he with e1 e2 e3 e4 e5 e6; subst e1; subst e2; subst e6
    cases hx : a.eval x with
    | tuple vs =>
      cases hv : vs[j]? with
      | some u => exact .inl ⟨u, by simp [Region.wanted], fun w => by simp [execOp, Instr.extract, hx, hv]⟩
      | none => exact .inr fun w x w' => by simp [execOp, Instr.extract, hx, hv, stuck]
    | _ => exact .inr fun w x w' => by simp [execOp, Instr.extract, hx, stuck]
  · cases h
end
def backB (md : Region.Mode) (ops : Array Oper) (e : Nat) : Bool := match ops[e]? with
  | some o => o.after.all fun ed => !Region.binds md ed || decide (ed.on < e)
  | none => false
def sinkQ (md : Region.Mode) (ops : Array Oper) (pri : List Nat) (n : Nat) : Bool :=
  (List.range n).all fun i => (pri.contains i && backB md ops i) || (!pri.contains i && (List.range (n + 1)).any fun j => decide (i < j) && (decide (j = n) || !pri.contains j) && Region.waitsFor md ops j i)
def freeAll (md : Region.Mode) (ops : Array Oper) (e : Nat) : Bool := match ops[e]? with
  | some o => isMv o && (List.range ops.size).all fun j => decide (j = e) || Region.waitsFor md ops j e || Region.waitsFor md ops e j || match ops[j]? with
    | some oj => o.apart ops oj
    | none => true
  | none => false
theorem freeAll_spec {md : Region.Mode} {ops : Array Oper} {e : Nat} {oe : Oper} (he : ops[e]? = some oe) (h : freeAll md ops e = true) : isMv oe = true ∧ ∀ j oj, ops[j]? = some oj → j ≠ e → (∀ ed ∈ oj.after, Region.binds md ed = true → ed.on ≠ e) → (∀ ed ∈ oe.after, Region.binds md ed = true → ed.on ≠ j) → oe.apart ops oj = true := by
  unfold freeAll at h
  rw [he] at h
  simp only [Bool.and_eq_true] at h
  refine ⟨h.1, fun j oj hj hje hno hno' => ?_⟩
  have hjl : j < ops.size := (Array.getElem?_eq_some_iff.1 hj).1
  have := List.all_eq_true.1 h.2 j (List.mem_range.2 hjl)
  rw [hj] at this
  simp only [Bool.or_eq_true, decide_eq_true_eq] at this
  rcases this with ((h1 | h1) | h1) | h1
  · exact absurd h1 hje
  · obtain ⟨o', ho', ed, hed, hb, hon⟩ := Region.waitsFor_spec h1
    have : o' = oj := Option.some.inj (ho'.symm.trans hj)
    subst this
    exact absurd hon (hno ed hed hb)
  · obtain ⟨o', ho', ed, hed, hb, hon⟩ := Region.waitsFor_spec h1
    have : o' = oe := Option.some.inj (ho'.symm.trans he)
    subst this
    exact absurd hon (hno' ed hed hb)
  · exact h1
section
variable {P : Program} {C : Ctx} {ops : Array Oper} {σ : List Ob} {md : Region.Mode} {rs : Res} {pri : List Nat}
def wpAnyQ (P : Program) (C : Ctx) (md : Region.Mode) (ops : Array Oper) (σ : List Ob) (rs : Res) (pri : List Nat) (n : Nat) (L : Array Bool → EE → Prop) : Nat → Array Bool → EE → Prop
  | 0, listed, E => L listed E
  | f + 1, listed, E => (∃ e ∈ pri, e ∈ Region.ready md ops listed ∧ e < n ∧ aOpR P C ops σ rs e (wpAnyQ P C md ops σ rs pri n L f (listed.setIfInBounds e true)) E) ∨
      ((∀ e ∈ pri, e ∉ Region.ready md ops listed) ∧ Region.ready md ops listed ≠ [] ∧ ∀ i ∈ Region.ready md ops listed, i < n ∧ aOpR P C ops σ rs i (wpAnyQ P C md ops σ rs pri n L f (listed.setIfInBounds i true)) E)
theorem notready {listed : Array Bool} {e : Nat} {o : Oper} (he : ops[e]? = some o) (hun : listed.getD e true = false) (h : e ∉ Region.ready md ops listed) : ∃ ed ∈ o.after, Region.binds md ed = true ∧ listed.getD ed.on false = false := by
  apply Classical.byContradiction
  intro hno
  refine h (mem_ready.2 ⟨hun, o, he, fun ed hed hb => ?_⟩)
  cases hl : listed.getD ed.on false with
  | true => rfl
  | false => exact absurd ⟨ed, hed, hb, hl⟩ hno
theorem unlisted_plain {n : Nat} {listed : Array Bool} (hs : sinkQ md ops pri n = true) (hn : n < ops.size) (hsz : listed.size = ops.size) (hno : ∀ e ∈ pri, e ∉ Region.ready md ops listed) :
    ∀ i, i < n → listed.getD i true = false → ∃ i', i' < n ∧ listed.getD i' true = false ∧ pri.contains i' = false := by
  intro i
  induction i using Nat.strongRecOn with
  | _ i ih =>
    intro hi hun
    have h1 := List.all_eq_true.1 hs i (List.mem_range.2 hi)
    rw [Bool.or_eq_true, Bool.and_eq_true, Bool.and_eq_true, Bool.not_eq_true'] at h1
    rcases h1 with ⟨hp, hb⟩ | ⟨hp, _⟩
    · have hmem : i ∈ pri := by simpa using hp
      obtain ⟨o, ho⟩ : ∃ o, ops[i]? = some o := ⟨_, Array.getElem?_eq_getElem (by omega)⟩
      obtain ⟨ed, hed, hbi, hl⟩ := notready ho hun (hno i hmem)
      unfold backB at hb
      rw [ho] at hb
      have := Array.all_eq_true'.1 hb ed hed
      rw [hbi] at this
      simp only [Bool.not_true, Bool.false_or, decide_eq_true_eq] at this
      exact ih ed.on this (by omega) (getD_in (by rw [hsz]; omega) hl)
    · exact ⟨i, hi, hun, hp⟩
theorem tail_waitsQ {n : Nat} {listed : Array Bool} (hs : sinkQ md ops pri n = true) (hc : Region.chainB md ops n = true) (hn : n < ops.size) (inv : HeadInv md ops n listed) (hno : ∀ e ∈ pri, e ∉ Region.ready md ops listed) {i : Nat} (hi : i < n) (hun : listed.getD i true = false) :
    ∀ t, n ≤ t → t ∉ Region.ready md ops listed := by
  obtain ⟨i0, hi0, hun0, hp0⟩ := unlisted_plain hs hn inv.size hno i hi hun
  have key : ∀ (d i : Nat), n - i = d → i < n → listed.getD i true = false → pri.contains i = false → n ∉ Region.ready md ops listed := by
    intro d
    induction d using Nat.strongRecOn with
    | _ d ih =>
      intro i hd hi hun hp hr
      obtain ⟨_, ot, hot, hall⟩ := mem_ready.1 hr
      have h1 := List.all_eq_true.1 hs i (List.mem_range.2 hi)
      rw [hp] at h1
      simp only [Bool.false_and, Bool.false_or, Bool.not_false, Bool.true_and] at h1
      obtain ⟨j, hj, hj2⟩ := List.any_eq_true.1 h1
      simp only [Bool.and_eq_true, Bool.or_eq_true, decide_eq_true_eq, Bool.not_eq_true'] at hj2
      obtain ⟨⟨hij, hjp⟩, hw⟩ := hj2
      obtain ⟨oj, hoj, e, he, hb, hon⟩ := Region.waitsFor_spec hw
      have hjle : j ≤ n := by have := List.mem_range.1 hj; omega
      by_cases hjt : j = n
      · subst hjt
        have : oj = ot := Option.some.inj (hoj.symm.trans hot)
        subst this
        have h2 := hall e he hb
        rw [hon, getD_both hun] at h2
        cases h2
      · have hjp' : pri.contains j = false := hjp.resolve_left hjt
        cases hl : listed.getD j false with
        | true =>
          have h2 := inv.closed j oj hoj hl e he hb
          rw [hon, getD_both hun] at h2
          cases h2
        | false =>
          have hjs : j < listed.size := by rw [inv.size]; omega
          exact ih (n - j) (by omega) j rfl (by omega) (getD_in hjs hl) hjp' hr
  intro t ht hr
  obtain ⟨_, ot, hot, hall⟩ := mem_ready.1 hr
  have htlt : t < ops.size := (Array.getElem?_eq_some_iff.1 hot).1
  by_cases htn : t = n
  · subst htn; exact key _ i0 rfl hi0 hun0 hp0 hr
  · have h1 := List.all_eq_true.1 hc t (List.mem_range.2 htlt)
    simp only [Bool.or_eq_true, decide_eq_true_eq] at h1
    rcases h1 with h1 | h1
    · omega
    · obtain ⟨o', ho', e, he, hb, hon⟩ := Region.waitsFor_spec h1
      have : o' = ot := Option.some.inj (ho'.symm.trans hot)
      subst this
      have h2 := hall e he hb
      rw [hon, getD_both (inv.tail (t - 1) (by omega) (by omega))] at h2
      cases h2
theorem not_waits {listed : Array Bool} {i j : Nat} {oj : Oper} (hi : i ∈ Region.ready md ops listed) (hj : j ∈ Region.ready md ops listed) (hoj : ops[j]? = some oj) : ∀ e ∈ oj.after, Region.binds md e = true → e.on ≠ i := fun e he hb heq => by
  obtain ⟨_, o', ho', hall⟩ := mem_ready.1 hj
  have : o' = oj := Option.some.inj (ho'.symm.trans hoj)
  subst this
  have h1 := hall e he hb
  rw [heq, getD_both (mem_ready.1 hi).1] at h1
  cases h1
theorem Q_any {n : Nat} {L : Array Bool → EE → Prop} (hpri : ∀ e ∈ pri, freeAll md ops e = true) (hdone : ∀ listed E, L listed E → ∀ j ∈ Region.ready md ops listed, n ≤ j) :
    ∀ (f : Nat) (listed : Array Bool) (E : EE), wpAnyQ P C md ops σ rs pri n L f listed E → ∀ j ∈ Region.ready md ops listed, j < n → ∃ f', f = f' + 1 ∧ aOpR P C ops σ rs j (wpAnyQ P C md ops σ rs pri n L f' (listed.setIfInBounds j true)) E
  | 0, listed, E, h, j, hj, hjn => by have := hdone _ _ h j hj; omega
  | f + 1, listed, E, h, j, hj, hjn => by
    rcases h with ⟨e, he, her, hen, o, v, ho, hy, hK⟩ | ⟨_, _, h⟩
    · by_cases hej : e = j
      · subst hej; exact ⟨f, rfl, o, v, ho, hy, hK⟩
      · obtain ⟨f', rfl, h2⟩ := Q_any hpri hdone f _ _ hK j (ready_mono hj (Ne.symm hej)) hjn
        refine ⟨f' + 1, rfl, ?_⟩
        obtain ⟨_, oj, hoj, _⟩ := mem_ready.1 hj
        have hap := (freeAll_spec ho (hpri e he)).2 j oj hoj (Ne.symm hej) (not_waits her hj hoj) (not_waits hj her ho)
        refine aOpR_mono (fun E' h3 => .inl ⟨e, he, ready_mono her hej, hen, o, v, ho, h3.1, ?_⟩) (aOpR_put hoj hap hy h2)
        rw [Array.setIfInBounds_comm _ _ (Ne.symm hej)]
        exact h3.2
    · exact ⟨f, rfl, (h j hj).2⟩
theorem Q_first {n i : Nat} {oi : Oper} {v : AV} {L : Array Bool → EE → Prop} (hi : ops[i]? = some oi) (hpri : ∀ e ∈ pri, freeAll md ops e = true)
    (hs : sinkQ md ops pri n = true) (hc : Region.chainB md ops n = true) (hn : n < ops.size) (hin : i < n) (hpn : ∀ e ∈ pri, e < n)
    (hdone : ∀ listed E, L listed E → ∀ j ∈ Region.ready md ops listed, n ≤ j) :
    ∀ (f : Nat) (listed : Array Bool) (E : EE), HeadInv md ops n listed →
      (∀ j oj, ops[j]? = some oj → j ≠ i → listed.getD j true = false → (∀ e ∈ oj.after, Region.binds md e = true → e.on ≠ i) → oi.apart ops oj = true) →
      i ∈ Region.ready md ops listed → YF P C ops σ rs i oi v E →
      wpAnyQ P C md ops σ rs pri n L f (listed.setIfInBounds i true) (putE E oi.dst v) → wpAnyQ P C md ops σ rs pri n L (f + 1) listed E := by
  intro f
  induction f with
  | zero =>
    intro listed E inv hfree hr hy H
    by_cases hp : i ∈ pri
    · exact .inl ⟨i, hp, hr, hin, oi, v, hi, hy, H⟩
    · have no : ∀ j ∈ Region.ready md ops listed, j < n → j = i := fun j hj hjn => by
        apply Classical.byContradiction
        intro hji
        have := hdone _ _ H j (ready_mono hj hji)
        omega
      have hnp : ∀ e ∈ pri, e ∉ Region.ready md ops listed := fun e he her => hp (no e her (hpn e he) ▸ he)
      refine .inr ⟨hnp, fun h => (by rw [h] at hr; cases hr), fun j hj => ?_⟩
      have hjn : j < n := by
        rcases Nat.lt_or_ge j n with h | h
        · exact h
        · exact absurd hj (tail_waitsQ hs hc hn inv hnp hin (mem_ready.1 hr).1 j h)
      obtain rfl := no j hj hjn
      exact ⟨hjn, oi, v, hi, hy, H⟩
  | succ f ih =>
    intro listed E inv hfree hr hy H
    by_cases hp : i ∈ pri
    · exact .inl ⟨i, hp, hr, hin, oi, v, hi, hy, H⟩
    · have step : ∀ j ∈ Region.ready md ops listed, j < n → j ≠ i → aOpR P C ops σ rs j (wpAnyQ P C md ops σ rs pri n L (f + 1) (listed.setIfInBounds j true)) E := fun j hj hjn hji => by
        obtain ⟨f', hf, h1⟩ := Q_any hpri hdone _ _ _ H j (ready_mono hj hji) hjn
        injection hf with hf
        have hf : f' = f := hf.symm
        subst hf
        obtain ⟨hjun, oj, hoj, hall⟩ := mem_ready.1 hj
        have hfree' : ∀ k ok, ops[k]? = some ok → k ≠ i → (listed.setIfInBounds j true).getD k true = false →
            (∀ e ∈ ok.after, Region.binds md e = true → e.on ≠ i) → oi.apart ops ok = true := fun k ok hk hki hun hno => by
          refine hfree k ok hk hki ?_ hno
          by_cases hjk : j = k
          · subst hjk; exact hjun
          · rw [getD_set_ne true hjk] at hun; exact hun
        refine aOpR_mono (fun E' h3 => ih (listed.setIfInBounds j true) E' (inv.set hj hjn) hfree' (ready_mono hr (Ne.symm hji)) h3.1 ?_) (aOpR_put hoj (hfree j oj hoj hji hjun (not_waits hr hj hoj)) hy h1)
        rw [Array.setIfInBounds_comm _ _ hji]
        exact h3.2
      by_cases he : ∃ e ∈ pri, e ∈ Region.ready md ops listed
      · obtain ⟨e, he, her⟩ := he
        exact .inl ⟨e, he, her, hpn e he, step e her (hpn e he) (by rintro rfl; exact hp he)⟩
      · have hnp : ∀ e ∈ pri, e ∉ Region.ready md ops listed := fun e h1 h2 => he ⟨e, h1, h2⟩
        refine .inr ⟨hnp, fun h => (by rw [h] at hr; cases hr), fun j hj => ?_⟩
        have hjn : j < n := by
          rcases Nat.lt_or_ge j n with h | h
          · exact h
          · exact absurd hj (tail_waitsQ hs hc hn inv hnp hin (mem_ready.1 hr).1 j h)
        refine ⟨hjn, ?_⟩
        by_cases hji : j = i
        · subst hji; exact ⟨oi, v, hi, hy, H⟩
        · exact step j hj hjn hji
theorem wpAnyQ_lex {n g : Nat} {Lq : EE → Prop} (hpri : ∀ e ∈ pri, freeAll md ops e = true) (hpn : ∀ e ∈ pri, e < n) (hs : sinkQ md ops pri n = true) (hc : Region.chainB md ops n = true) (hn : n < ops.size) :
    ∀ (l : List (Nat × Oper)) (listed : Array Bool) (E : EE), (∀ p ∈ l, ops[p.1]? = some p.2) → HeadInv md ops n listed →
    lexIdx md ops g n (l.map (·.1)) listed = true → wpLexR P C ops σ rs Lq l E →
    wpAnyQ P C md ops σ rs pri n (fun listed' E' => Region.seqB md ops g n listed' = true ∧ (∀ j, j < n → listed'.getD j false = true) ∧ Lq E') l.length listed E
  | [], listed, E, _, _, hB, h => by
    simp only [List.map_nil, lexIdx, Bool.and_eq_true] at hB
    exact ⟨hB.1, fun j hj => List.all_eq_true.1 hB.2 j (List.mem_range.2 hj), h⟩
  | (k, o) :: l, listed, E, hl, inv, hB, h => by
    have h0 : ops[k]? = some o := hl (k, o) (by simp)
    simp only [List.map_cons, lexIdx, Bool.and_eq_true, decide_eq_true_eq] at hB
    obtain ⟨⟨⟨hr, hf⟩, hkn⟩, hB'⟩ := hB
    have hr' : k ∈ Region.ready md ops listed := by simpa using hr
    obtain ⟨v, hy, hK⟩ := h
    exact Q_first h0 hpri hs hc hn hkn hpn (fun listed' E' hL => seqB_ready hL.1) l.length listed E inv (Region.free_spec h0 hf) hr' hy
      (wpAnyQ_lex hpri hpn hs hc hn l _ _ (fun p hp => hl p (by simp [hp])) (inv.set hr' hkn) hB' hK)
variable {listed : Array Bool} {E : EE} {a : Act} {w : World}
theorem SimR.mv {i : Nat} {o : Oper} {v : AV} (hs : SimR C σ rs listed E a w) (ho : ops[i]? = some o) (hd : ∀ t, o.dst = some t → t < C.n) (hm : isMv o = true)
    (hy : YF P C ops σ rs i o v E) : ∃ u, YA P ops o u a ∧ SimR C σ rs (listed.setIfInBounds i true) (putE E o.dst v) (a.put o.dst u) w := by
  obtain ⟨s1, s2, φ, hG, hφ, hE⟩ := hs
  obtain ⟨dst, op, ty, pos, after, g⟩ := o
  obtain ⟨t, rfl, rfl⟩ : ∃ t, dst = some t ∧ g = none := by
    unfold isMv at hm
    split at hm
    · rename_i he; injection he with e1 e2 e3 e4 e5 e6; exact ⟨_, e1, e6⟩
    · rename_i he; injection he with e1 e2 e3 e4 e5 e6; exact ⟨_, e1, e6⟩
    · cases hm
  have htn := hd t rfl
  rcases hy with ⟨h0, ⟨hg, hv⟩ | ⟨hg, _⟩⟩ | ⟨p, e, zs, hp, hop, _⟩
  · have hwp := hv (res rs listed) a ⟨w, φ, σ ++ res rs listed, C.ok⟩ hG rfl (fun x _ => ev_evE' hE x) (fun a' w' => ∃ u, a' = a.put (some t) u ∧ AV.rel ⟨w', φ, σ ++ res rs listed, C.ok⟩ v u) (fun _ _ _ => False) fun u w' hb hu => ⟨u, rfl, hu⟩
    rcases isMv_ya (P := P) (ops := ops) hm a with ⟨u, hya⟩ | hno
    · refine ⟨u, hya, ?_⟩
      unfold Oper.wp at hwp
      rw [hya.2 w] at hwp
      simp only [Oper.upon] at hwp
      obtain ⟨u', he, hu⟩ := hwp
      have hu' : u = u' := by
        have h1 := getD_put a t t u (by rw [s2]; exact htn)
        have h2 := getD_put a t t u' (by rw [s2]; exact htn)
        rw [if_pos rfl] at h1 h2
        rw [← h1, ← h2, he]
      subst hu'
      refine ⟨s1, by simp [Act.put, s2], φ, ?_, fun p r hp hl => hφ p r hp ?_, fun s => ?_⟩
      · rw [res_same h0]; exact hG
      · rwa [getD_set_ne false (Ne.symm (h0 r (List.mem_of_getElem? hp)))] at hl
      · rw [res_same h0, getD_put a t s u (by rw [s2]; exact htn)]
        simp only [putE]
        split
        · exact hu
        · exact hE s
    · exfalso
      unfold Oper.wp at hwp
      cases hr : (execOp a.eval (⟨some t, op, ty, pos, after, none⟩ : Oper)).run P w with
      | ok x w' => exact (hno w x w').1 hr
      | halt q w' =>
        rw [hr] at hwp
        cases q <;> first | exact hwp | exact (hno w .skip w').2 _ hr
  · simp [gsayE] at hg
  · exfalso
    simp only at hop
    subst hop
    simp [isMv] at hm
theorem wpAny_of_Q {n g : Nat} {L : Array Bool → EE → Prop} {F : Act → World → Prop} (hpri : ∀ e ∈ pri, freeAll md ops e = true) (hsel : ∀ (j : Nat) (o : Oper) cs b, ops[j]? = some o → o.op ≠ .select cs b) (hnd : (rs.map (·.1)).Nodup) (hd : ∀ (i : Nat) o t, ops[i]? = some o → o.dst = some t → t < C.n)
    (hL : ∀ listed E a w, L listed E → SimR C σ rs listed E a w → wpAny P md ops (nrm F) g listed a w) :
    ∀ (f : Nat) (listed : Array Bool) (E : EE) (a : Act) (w : World), SimR C σ rs listed E a w → wpAnyQ P C md ops σ rs pri n L f listed E → wpAny P md ops (nrm F) (f + g) listed a w
  | 0, listed, E, a, w, hs, h => by rw [Nat.zero_add]; exact hL _ _ _ _ h hs
  | f + 1, listed, E, a, w, hs, h => by
    rw [show f + 1 + g = (f + g) + 1 by omega]
    rcases h with ⟨e, he, her, hen, o, v, ho, hy, hK⟩ | ⟨_, h0, h⟩
    · obtain ⟨hmv, hap⟩ := freeAll_spec ho (hpri e he)
      obtain ⟨u, hya, hs'⟩ := SimR.mv hs ho (fun t ht => hd e o t ho ht) hmv hy
      exact wpAny_ya ho hsel _ listed a w hya (fun j oj hj hje hun hno => hap j oj hj hje hno fun ed hed hb hon => by
        obtain ⟨_, o', ho', hall⟩ := mem_ready.1 her
        have : o' = o := Option.some.inj (ho'.symm.trans ho)
        subst this
        have h1 := hall ed hed hb
        rw [hon, getD_both hun] at h1
        cases h1) her (wpAny_of_Q hpri hsel hnd hd hL f _ _ _ w hs' hK)
    · refine ⟨fun h1 => absurd h1 h0, fun i hi => ?_⟩
      obtain ⟨o, v, ho, hy, hK⟩ := (h i hi).2
      exact SimR.op hnd hs (mem_ready.1 hi).1 ho (fun t ht => hd i o t ho ht) hy fun a' w' hs' => wpAny_of_Q hpri hsel hnd hd hL f _ _ a' w' hs' hK
end
def drawQB (l : List Oper) (pri head : List Nat) (n : Nat) : Bool :=
  Region.noSelect l.toArray && decide (n < l.length) && sinkQ .any l.toArray pri n && Region.chainB .any l.toArray n && decide ((pick l head).length = n) && (pri.all fun e => decide (e < n) && freeAll .any l.toArray e) &&
  lexIdx .any l.toArray (l.length - n) n ((pick l head).map (·.1)) (Array.replicate l.length false)
section
variable {P : Program} {C : Ctx} {k : List Item} {R : Act → World → Prop} {env : Env} {σ : List Ob}
theorem Runs.drawQ {id : Nat} {l : List Oper} {cn : Nat} (pri head : List Nat) (n : Nat) (rs : Res) (hf : P.follows .mixedOrders = true) (hn : C.n = cn) (hB : drawQB l pri head n = true) (hd : dstOk cn l = true)
    (hnd : (rs.map (·.1)).Nodup) (hrs : ∀ r ∈ rs, r.1 < n)
    (h : RunsT P C l.toArray rs (l.drop n) (pick l head) k R ⟨env, σ⟩) : Runs P C (.code (.region id l.toArray true) :: k) R ⟨env, σ⟩ := by
  refine ⟨fun a w hs => Fin.of_wp (wp_region_any hf ?_)⟩
  unfold drawQB at hB
  simp only [Bool.and_eq_true, decide_eq_true_eq] at hB
  obtain ⟨⟨⟨⟨⟨⟨hsel, hnl⟩, hsk⟩, hch⟩, hlen⟩, hpr⟩, hlex⟩ := hB
  have hpri : ∀ e ∈ pri, freeAll .any l.toArray e = true := fun e he => by have := List.all_eq_true.1 hpr e he; simp only [Bool.and_eq_true] at this; exact this.2
  have hpn : ∀ e ∈ pri, e < n := fun e he => by have := List.all_eq_true.1 hpr e he; simp only [Bool.and_eq_true, decide_eq_true_eq] at this; exact this.1
  obtain ⟨s1, s2, φ, hG, hE⟩ := hs
  have hb : Below w.heap.size w { w with drawn := w.drawn + 1 } := ⟨rfl, rfl, rfl, Nat.le_refl _, fun _ _ => rfl⟩
  obtain ⟨g1, g2⟩ := good_below hG hb
  let φ0 : Nat → Option Nat := fun i => if i < σ.length then φ i else none
  have hφ0 : ∀ j, φ0 (σ.length + j) = none := fun j => if_neg (by omega)
  obtain ⟨G1, G2⟩ := good_grow (φ' := φ0) (new := res rs (Array.replicate l.length false)) g1 (Below.refl _ _) (fun i hi => if_pos hi) (fun j hj g hg => by rw [hφ0] at hg; cases hg) (fun i j g hi hj e1 e2 => by rw [hφ0] at e1; cases e1) (fun j o hj => by rw [hφ0]; exact res_none j o hj)
  have hE1 : ∀ t, AV.rel ⟨{ w with drawn := w.drawn + 1 }, φ0, σ ++ res rs (Array.replicate l.length false), C.ok⟩ (look env t) (a.tmps.getD t undef) := fun t => AV.rel_keeps G2 _ _ (AV.only_true _) (AV.rel_keeps g2 _ _ (AV.only_true _) (hE t))
  have hdd : ∀ (i : Nat) o t, l.toArray[i]? = some o → o.dst = some t → t < C.n := fun i o t hi ht => by rw [hn]; exact dstOk_at hd i o t (by simpa using hi) ht
  have inv0 : HeadInv .any l.toArray n (Array.replicate l.length false) :=
    ⟨by simp, fun j oj _ hl => (by rw [getD_replicate_false] at hl; cases hl), fun t _ ht => getD_in (by simpa using ht) (getD_replicate_false _ _)⟩
  have hmemH : ∀ p ∈ pick l head, l.toArray[p.1]? = some p.2 := fun p hp => by simpa using pick_mem hp
  have hsz : l.toArray.size = (pick l head).length + (l.length - n) := by simp; omega
  refine (show ∀ m, m = l.toArray.size → wpAny P .any l.toArray (nrm (Fin P k R)) m (Array.replicate l.toArray.size false) a { w with drawn := w.drawn + 1 } from ?_) _ rfl
  intro m hm
  obtain rfl := hm.trans hsz
  have H := wpAnyQ_lex (P := P) (C := C) (σ := σ) (md := .any) (ops := l.toArray) (g := l.length - n) hpri hpn hsk hch (by simpa using hnl) (pick l head) (Array.replicate l.toArray.size false) (look env) hmemH (by simpa using inv0) (by simpa using hlex) h.run
  refine wpAny_of_Q hpri (Region.noSelect_spec hsel) hnd hdd (fun listed' E' a'' w'' hL hS => ?_) _ _ (look env) a _ ⟨s1, s2, φ0, by simpa using G1, fun p r _ _ => hφ0 p, by simpa using hE1⟩ H
  obtain ⟨hsq, hall, env'', rfl, hR⟩ := hL
  have hfl := res_full (rs := rs) (listed := listed') fun r hr => hall r.1 (hrs r hr)
  obtain ⟨u1, u2, φ', G', _, hE''⟩ := hS
  rw [hfl] at G' hE''
  have := wpAny_of_seq (md := .any) (Q' := nrm (Fin P k R)) (l.drop n) n listed' a'' w'' (fun j => by simp [List.getElem?_drop]) (by rw [List.length_drop]; exact hsq) (hR.run a'' w'' ⟨u1, u2, φ', G', hE''⟩)
  rwa [List.length_drop] at this
theorem Runs.toDrawQ {id : Nat} {l : List Oper} {k' : List Item} {cn : Nat} (m : Nat) (pri head : List Nat) (n : Nat) (rs : Res) (hf : P.follows .mixedOrders = true) (hn : C.n = cn) (hc : Proofs.Ytnecoghfhcimeaa.ctls m k = .code (.region id l.toArray true) :: k') (hB : drawQB l pri head n = true) (hd : dstOk cn l = true)
    (hnd : (rs.map (·.1)).Nodup) (hrs : ∀ r ∈ rs, r.1 < n)
    (h : RunsT P C l.toArray rs (l.drop n) (pick l head) k' R ⟨env, σ⟩) : Runs P C k R ⟨env, σ⟩ := Runs.ctls m hc (Runs.drawQ pri head n rs hf hn hB hd hnd hrs h)
end
end Go.Proofs.Ytnecoghfhcimeaa
/- Regions that draw their order, in which objects and rows are made: each has its place from the first. Over any program. Printed by gen/dru.py. -/
namespace Go.Proofs.Ytnecoghfhcimeaa
set_option linter.unusedSimpArgs false
set_option linter.unusedVariables false
open Go.RowKit
open AV (Mem Keeps)
section
variable {C : Ctx} {w w' : World} {φ : Nat → Option Nat} {σ : List Ob} {q g sz : Nat} {e : TypeId} {cs : List AV}
theorem keeps_fillU (hb : Below w.heap.size w w') (hg : w.heap.size ≤ g) (hq : σ[q]? = some ⟨e, 0, []⟩) (hφ : φ q = none) :
    Keeps (fun k => k ≠ q) ⟨w, φ, σ, C.ok⟩ ⟨w', upd φ q (some g), σ.set q ⟨e, sz, cs⟩, C.ok⟩ := by
  have hql : q < σ.length := (List.getElem?_eq_some_iff.1 hq).1
  refine ⟨⟨hb.size, fun b hlt hok => ⟨⟨hok.1, fun i hi he => ?_⟩, hb.block b hlt⟩⟩, fun i hi hil => ⟨by simpa using hil, upd_ne hi⟩, fun i ob hi ho => ⟨ob.cs, by simp only [List.getElem?_set_ne (Ne.symm hi)]; exact ho, rfl⟩, fun i b us t hi hil he hh => ⟨us, (hb.block b (Array.getElem?_eq_some_iff.1 hh).1).trans hh, rfl⟩⟩
  by_cases hiq : i = q
  · subst hiq; simp only [upd_eq, Option.some.injEq] at he; subst he; simp only at hlt; omega
  · simp only [upd_ne hiq] at he; exact hok.2 i (by simpa using hi) he
mutual
theorem only_place (hq : σ[q]? = some ⟨e, 0, []⟩) (hφ : φ q = none) : ∀ (v : AV) (u : Value), AV.rel ⟨w, φ, σ, C.ok⟩ v u → v.only (fun k => k ≠ q)
  | .ro r, u, h => by simp [AV.only]
  | .junk, u, _ => by simp [AV.only]
  | .obj i off, u, h => by
    simp only [AV.rel] at h
    obtain ⟨_, g, h2, _⟩ := h
    simp only [AV.only]
    rintro rfl; rw [hφ] at h2; cases h2
  | .pin i off g, u, h => by
    simp only [AV.rel] at h
    obtain ⟨_, h2, _⟩ := h
    simp only [AV.only]
    rintro rfl; rw [hφ] at h2; cases h2
  | .own i, u, h => by
    simp only [AV.rel] at h
    obtain ⟨ob, n, h1, h2, h3, _⟩ := h
    simp only [AV.only]
    rintro rfl; rw [hq] at h1; injection h1 with h1; subst h1; exact absurd h3 (Nat.lt_irrefl 0)
  | .agg vs, u, h => by
    simp only [AV.rel] at h
    obtain ⟨us', _, h1⟩ := h
    simp only [AV.only]; exact onlys_place hq hφ vs _ h1
  | .tup vs, u, h => by
    simp only [AV.rel] at h
    obtain ⟨us', _, h1⟩ := h
    simp only [AV.only]; exact onlys_place hq hφ vs _ h1
  | .fn f a b, u, h => by
    simp only [AV.rel] at h
    obtain ⟨us', vs', _, h1, h2⟩ := h
    simp only [AV.only]; exact ⟨onlys_place hq hφ a _ h1, onlys_place hq hφ b _ h2⟩
theorem onlys_place (hq : σ[q]? = some ⟨e, 0, []⟩) (hφ : φ q = none) : ∀ (vs : List AV) (us' : List Value), AV.rels ⟨w, φ, σ, C.ok⟩ vs us' → AV.onlys (fun k => k ≠ q) vs
  | [], us', h => by simp [AV.onlys]
  | x :: xs, us', h => by
    simp only [AV.rels] at h
    obtain ⟨u, us'', _, h1, h2⟩ := h
    simp only [AV.onlys]; exact ⟨only_place hq hφ x u h1, onlys_place hq hφ xs us'' h2⟩
end
theorem rel_fillU (hb : Below w.heap.size w w') (hg : w.heap.size ≤ g) (hq : σ[q]? = some ⟨e, 0, []⟩) (hφ : φ q = none) (v : AV) (u : Value) (h : AV.rel ⟨w, φ, σ, C.ok⟩ v u) : AV.rel ⟨w', upd φ q (some g), σ.set q ⟨e, sz, cs⟩, C.ok⟩ v u :=
  AV.rel_keeps (keeps_fillU hb hg hq hφ) v u (only_place hq hφ v u h) h
theorem good_fillU (hG : Good C ⟨w, φ, σ, C.ok⟩) (hb : Below w.heap.size w w') (hg : w.heap.size ≤ g) (hq : σ[q]? = some ⟨e, 0, []⟩) (hφ : φ q = none) (hob : ObRel ⟨w', upd φ q (some g), σ.set q ⟨e, sz, cs⟩, C.ok⟩ ⟨e, sz, cs⟩ (some g)) :
    Good C ⟨w', upd φ q (some g), σ.set q ⟨e, sz, cs⟩, C.ok⟩ := by
  have hql : q < σ.length := (List.getElem?_eq_some_iff.1 hq).1
  refine ⟨rfl, fun i j b hi hj e1 e2 => ?_, fun i o hi => ?_, fun i b hi hbi => ?_, hG.frm.below hb⟩
  · simp only [List.length_set] at hi hj
    by_cases hiq : i = q <;> by_cases hjq : j = q
    · omega
    · subst hiq; simp only [upd_eq, Option.some.injEq] at e1; simp only [upd_ne hjq] at e2
      have := hG.lt hj e2; simp only at this; omega
    · subst hjq; simp only [upd_eq, Option.some.injEq] at e2; simp only [upd_ne hiq] at e1
      have := hG.lt hi e1; simp only at this; omega
    · simp only [upd_ne hiq] at e1; simp only [upd_ne hjq] at e2
      exact hG.inj i j b hi hj e1 e2
  · by_cases hiq : i = q
    · subst hiq
      simp only [List.getElem?_set_self hql, Option.some.injEq] at hi
      subst hi
      simp only [upd_eq]
      exact hob
    · simp only [List.getElem?_set_ne (Ne.symm hiq)] at hi
      have h := hG.ob i o hi
      simp only [upd_ne hiq]
      simp only at h
      cases hgi : φ i with
      | none => rw [hgi] at h; exact h
      | some b =>
        rw [hgi] at h
        obtain ⟨vs, q1, q2, q3⟩ := h
        refine ⟨vs, (hb.block b (Array.getElem?_eq_some_iff.1 q1).1).trans q1, q2, fun j v hj => ?_⟩
        obtain ⟨x, k1, k2, k3⟩ := q3 j v hj
        exact ⟨x, k1, k2, rel_fillU hb hg hq hφ v x k3⟩
  · simp only [List.length_set] at hi
    by_cases hiq : i = q
    · subst hiq; simp only [upd_eq, Option.some.injEq] at hbi; subst hbi; exact .inr (Nat.le_trans hG.frm.size hg)
    · simp only [upd_ne hiq] at hbi; exact hG.mine i b hi hbi
end
structure RE where
  idx : Nat
  pre : Option (Nat × Nat)
  t : TypeId
  sz : Nat
  cs : List RV
abbrev ResU := List RE
def RE.ob (r : RE) : Ob := ⟨r.t, r.sz, r.cs.map .ro⟩
def RE.all (r : RE) : List Nat := r.idx :: match r.pre with
  | some p => [p.1]
  | none => []
def reOb (listed : Array Bool) (r : RE) : Ob :=
  if listed.getD r.idx false = true then r.ob else match r.pre with
    | some p => if listed.getD p.1 false = true then ⟨r.t, r.sz, []⟩ else ⟨r.t, 0, []⟩
    | none => ⟨r.t, 0, []⟩
def resU (rs : ResU) (listed : Array Bool) : List Ob := rs.map (reOb listed)
def fullU (rs : ResU) : List Ob := rs.map RE.ob
def MkN (P : Program) (C : Ctx) (o : Oper) (E : EE) (ob : Ob) (q : Nat) (v : AV) : Prop :=
  (v = .own q ∨ v = .obj q 0) ∧ ∀ (a : Act) (w : World) (φ : Nat → Option Nat) (σ : List Ob), Good C ⟨w, φ, σ, C.ok⟩ → σ[q]? = some ⟨ob.t, 0, []⟩ → φ q = none → (∀ x ∈ o.op.operands, AV.rel ⟨w, φ, σ, C.ok⟩ (evE E x) (a.eval x)) → ∀ (K : Act → World → Prop) (Q : Exit → Act → World → Prop),
    (∀ u w' g, Below w.heap.size w w' → w.heap.size ≤ g → ObRel ⟨w', upd φ q (some g), σ.set q ob, C.ok⟩ ob (some g) → AV.rel ⟨w', upd φ q (some g), σ.set q ob, C.ok⟩ v u → K (a.put o.dst u) w') → o.wp P a w K Q
def MkQ (P : Program) (C : Ctx) (o : Oper) (E : EE) (r : RE) (s q : Nat) : Prop :=
  ∀ (a : Act) (w : World) (φ : Nat → Option Nat) (σ : List Ob), Good C ⟨w, φ, σ, C.ok⟩ → σ[q]? = some ⟨r.t, r.sz, []⟩ → AV.rel ⟨w, φ, σ, C.ok⟩ (.own q) (a.tmps.getD s undef) → (∀ (j : Nat) ob, σ[j]? = some ob → AV.onlys (fun k => k ≠ q) ob.cs) →
    (∀ x ∈ o.op.operands, AV.rel ⟨w, φ, σ, C.ok⟩ (evE E x) (a.eval x)) → ∀ (K : Act → World → Prop) (Q : Exit → Act → World → Prop),
    (∀ u w' b, Good C ⟨w', upd φ q b, σ.set q r.ob, C.ok⟩ → Keeps (fun k => k ≠ q) ⟨w, φ, σ, C.ok⟩ ⟨w', upd φ q b, σ.set q r.ob, C.ok⟩ → AV.rel ⟨w', upd φ q b, σ.set q r.ob, C.ok⟩ (.own q) u → K (a.put o.dst u) w') → o.wp P a w K Q
theorem MkN.congr {P : Program} {C : Ctx} {o : Oper} {E E' : EE} {ob : Ob} {q : Nat} {v : AV} (h : MkN P C o E ob q v) (he : ∀ x ∈ o.op.operands, evE E' x = evE E x) : MkN P C o E' ob q v :=
  ⟨h.1, fun a w φ σ hG h1 h2 hx => h.2 a w φ σ hG h1 h2 fun x hm => by rw [← he x hm]; exact hx x hm⟩
theorem MkQ.congr {P : Program} {C : Ctx} {o : Oper} {E E' : EE} {r : RE} {s q : Nat} (h : MkQ P C o E r s q) (he : ∀ x ∈ o.op.operands, evE E' x = evE E x) : MkQ P C o E' r s q :=
  fun a w φ σ hG h1 h2 h3 hx => h a w φ σ hG h1 h2 h3 fun x hm => by rw [← he x hm]; exact hx x hm
def staged (rs : ResU) (n : Nat) (o : Oper) (v : AV) : Prop := ∀ p r, rs[p]? = some r → r.pre.isSome = true → v.only (fun k => k ≠ n + p) ∨ (isMv o = false ∧ ∃ e ∈ o.after, (∀ md, Region.binds md e = true) ∧ e.on = r.idx)
def YU (P : Program) (C : Ctx) (ops : Array Oper) (σ : List Ob) (rs : ResU) (i : Nat) (o : Oper) (v : AV) (E : EE) : Prop :=
  ((∀ r ∈ rs, i ∉ r.all) ∧ staged rs σ.length o v ∧ ((gsayE ops E o.guard = some true ∧ ∀ more, PurF P C o E (σ ++ more) v) ∨ (gsayE ops E o.guard = some false ∧ v = .ro (.c undef)))) ∨
  (∃ p r, rs[p]? = some r ∧ r.idx = i ∧ r.pre = none ∧ o.guard = none ∧ o.dst.isSome = true ∧ MkN P C o E r.ob (σ.length + p) v) ∨
  (∃ p r s, rs[p]? = some r ∧ r.pre = some (i, s) ∧ o.guard = none ∧ o.dst = some s ∧ MkN P C o E ⟨r.t, r.sz, []⟩ (σ.length + p) (.own (σ.length + p)) ∧ v = .junk) ∨
  (∃ p r j s, rs[p]? = some r ∧ r.idx = i ∧ r.pre = some (j, s) ∧ o.guard = none ∧ o.dst.isSome = true ∧ MkQ P C o E r s (σ.length + p) ∧ v = .own (σ.length + p))
section
variable {P : Program} {C : Ctx} {ops : Array Oper} {σ : List Ob} {md : Region.Mode} {rs : ResU} {pri : List Nat}
theorem YU.put {i : Nat} {oi oj : Oper} {v u : AV} {E : EE} (hy : YU P C ops σ rs i oi v E) (h3 : ∀ d, oj.dst = some d → d ∉ oi.looksAt ops) : YU P C ops σ rs i oi v (putE E oj.dst u) := by
  have hc : ∀ x ∈ oi.op.operands, evE (putE E oj.dst u) x = evE E x := fun x hx => evE_put fun t ht => mem_looks_op (h3 t ht) x hx
  unfold YU at *
  rw [gsay_put h3]
  rcases hy with ⟨h0, hs, ⟨hw, hv⟩ | hy⟩ | ⟨p, r, k1, k2, k3, k4, k5, k6⟩ | ⟨p, r, s, k1, k2, k3, k4, k5, k6⟩ | ⟨p, r, j, s, k1, k2, k3, k4, k5, k6, k7⟩
  · exact .inl ⟨h0, hs, .inl ⟨hw, fun more => (hv more).congr hc⟩⟩
  · exact .inl ⟨h0, hs, .inr hy⟩
  · exact .inr (.inl ⟨p, r, k1, k2, k3, k4, k5, k6.congr hc⟩)
  · exact .inr (.inr (.inl ⟨p, r, s, k1, k2, k3, k4, k5.congr hc, k6⟩))
  · exact .inr (.inr (.inr ⟨p, r, j, s, k1, k2, k3, k4, k5, k6.congr hc, k7⟩))
theorem YU.unput {i : Nat} {oi : Oper} {d : Option Nat} {v u : AV} {E : EE} (hy : YU P C ops σ rs i oi v (putE E d u)) (h3 : ∀ t, d = some t → t ∉ oi.looksAt ops) : YU P C ops σ rs i oi v E := by
  have hc : ∀ x ∈ oi.op.operands, evE E x = evE (putE E d u) x := fun x hx => (evE_put fun t ht => mem_looks_op (h3 t ht) x hx).symm
  unfold YU at *
  rw [gsay_put h3] at hy
  rcases hy with ⟨h0, hs, ⟨hw, hv⟩ | hy⟩ | ⟨p, r, k1, k2, k3, k4, k5, k6⟩ | ⟨p, r, s, k1, k2, k3, k4, k5, k6⟩ | ⟨p, r, j, s, k1, k2, k3, k4, k5, k6, k7⟩
  · exact .inl ⟨h0, hs, .inl ⟨hw, fun more => (hv more).congr hc⟩⟩
  · exact .inl ⟨h0, hs, .inr hy⟩
  · exact .inr (.inl ⟨p, r, k1, k2, k3, k4, k5, k6.congr hc⟩)
  · exact .inr (.inr (.inl ⟨p, r, s, k1, k2, k3, k4, k5.congr hc, k6⟩))
  · exact .inr (.inr (.inr ⟨p, r, j, s, k1, k2, k3, k4, k5, k6.congr hc, k7⟩))
def aOpV (P : Program) (C : Ctx) (ops : Array Oper) (σ : List Ob) (rs : ResU) (i : Nat) (K : EE → Prop) (E : EE) : Prop := ∃ o v, ops[i]? = some o ∧ YU P C ops σ rs i o v E ∧ K (putE E o.dst v)
theorem aOpV_mono {i : Nat} {E : EE} {K K' : EE → Prop} (h : ∀ E, K E → K' E) (hh : aOpV P C ops σ rs i K E) : aOpV P C ops σ rs i K' E := by
  obtain ⟨o, v, h1, h2, h3⟩ := hh
  exact ⟨o, v, h1, h2, h _ h3⟩
theorem aOpV_put {i j : Nat} {oi oj : Oper} {v : AV} (hj : ops[j]? = some oj) (hap : oi.apart ops oj = true) {K : EE → Prop} {E : EE} (hy : YU P C ops σ rs i oi v E) (h : aOpV P C ops σ rs j K (putE E oi.dst v)) :
    aOpV P C ops σ rs j (fun E' => YU P C ops σ rs i oi v E' ∧ K (putE E' oi.dst v)) E := by
  obtain ⟨h1, h2, h3⟩ := Oper.apart_spec hap
  obtain ⟨o, u, k1, k2, k3⟩ := h
  rw [hj] at k1; injection k1 with k1; subst k1
  refine ⟨oj, u, hj, k2.unput h1, hy.put h3, ?_⟩
  rw [← putE_comm h2]; exact k3
def wpAnyV (P : Program) (C : Ctx) (md : Region.Mode) (ops : Array Oper) (σ : List Ob) (rs : ResU) (pri : List Nat) (n : Nat) (L : Array Bool → EE → Prop) : Nat → Array Bool → EE → Prop
  | 0, listed, E => L listed E
  | f + 1, listed, E => (∃ e ∈ pri, e ∈ Region.ready md ops listed ∧ e < n ∧ aOpV P C ops σ rs e (wpAnyV P C md ops σ rs pri n L f (listed.setIfInBounds e true)) E) ∨
      ((∀ e ∈ pri, e ∉ Region.ready md ops listed) ∧ Region.ready md ops listed ≠ [] ∧ ∀ i ∈ Region.ready md ops listed, i < n ∧ aOpV P C ops σ rs i (wpAnyV P C md ops σ rs pri n L f (listed.setIfInBounds i true)) E)
def wpLexV (P : Program) (C : Ctx) (ops : Array Oper) (σ : List Ob) (rs : ResU) (Q : EE → Prop) : List (Nat × Oper) → EE → Prop
  | [], E => Q E
  | (i, o) :: rest, E => ∃ v, YU P C ops σ rs i o v E ∧ wpLexV P C ops σ rs Q rest (putE E o.dst v)
theorem V_any {n : Nat} {L : Array Bool → EE → Prop} (hpri : ∀ e ∈ pri, freeAll md ops e = true) (hdone : ∀ listed E, L listed E → ∀ j ∈ Region.ready md ops listed, n ≤ j) :
    ∀ (f : Nat) (listed : Array Bool) (E : EE), wpAnyV P C md ops σ rs pri n L f listed E → ∀ j ∈ Region.ready md ops listed, j < n → ∃ f', f = f' + 1 ∧ aOpV P C ops σ rs j (wpAnyV P C md ops σ rs pri n L f' (listed.setIfInBounds j true)) E
  | 0, listed, E, h, j, hj, hjn => by have := hdone _ _ h j hj; omega
  | f + 1, listed, E, h, j, hj, hjn => by
    rcases h with ⟨e, he, her, hen, o, v, ho, hy, hK⟩ | ⟨_, _, h⟩
    · by_cases hej : e = j
      · subst hej; exact ⟨f, rfl, o, v, ho, hy, hK⟩
      · obtain ⟨f', rfl, h2⟩ := V_any hpri hdone f _ _ hK j (ready_mono hj (Ne.symm hej)) hjn
        refine ⟨f' + 1, rfl, ?_⟩
        obtain ⟨_, oj, hoj, _⟩ := mem_ready.1 hj
        have hap := (freeAll_spec ho (hpri e he)).2 j oj hoj (Ne.symm hej) (not_waits her hj hoj) (not_waits hj her ho)
        refine aOpV_mono (fun E' h3 => .inl ⟨e, he, ready_mono her hej, hen, o, v, ho, h3.1, ?_⟩) (aOpV_put hoj hap hy h2)
        rw [Array.setIfInBounds_comm _ _ (Ne.symm hej)]
        exact h3.2
    · exact ⟨f, rfl, (h j hj).2⟩
theorem V_first {n i : Nat} {oi : Oper} {v : AV} {L : Array Bool → EE → Prop} (hi : ops[i]? = some oi) (hpri : ∀ e ∈ pri, freeAll md ops e = true)
    (hs : sinkQ md ops pri n = true) (hc : Region.chainB md ops n = true) (hn : n < ops.size) (hin : i < n) (hpn : ∀ e ∈ pri, e < n)
    (hdone : ∀ listed E, L listed E → ∀ j ∈ Region.ready md ops listed, n ≤ j) :
    ∀ (f : Nat) (listed : Array Bool) (E : EE), HeadInv md ops n listed →
      (∀ j oj, ops[j]? = some oj → j ≠ i → listed.getD j true = false → (∀ e ∈ oj.after, Region.binds md e = true → e.on ≠ i) → oi.apart ops oj = true) →
      i ∈ Region.ready md ops listed → YU P C ops σ rs i oi v E →
      wpAnyV P C md ops σ rs pri n L f (listed.setIfInBounds i true) (putE E oi.dst v) → wpAnyV P C md ops σ rs pri n L (f + 1) listed E := by
  intro f
  induction f with
  | zero =>
    intro listed E inv hfree hr hy H
    by_cases hp : i ∈ pri
    · exact .inl ⟨i, hp, hr, hin, oi, v, hi, hy, H⟩
    · have no : ∀ j ∈ Region.ready md ops listed, j < n → j = i := fun j hj hjn => by
        apply Classical.byContradiction
        intro hji
        have := hdone _ _ H j (ready_mono hj hji)
        omega
      have hnp : ∀ e ∈ pri, e ∉ Region.ready md ops listed := fun e he her => hp (no e her (hpn e he) ▸ he)
      refine .inr ⟨hnp, fun h => (by rw [h] at hr; cases hr), fun j hj => ?_⟩
      have hjn : j < n := by
        rcases Nat.lt_or_ge j n with h | h
        · exact h
        · exact absurd hj (tail_waitsQ hs hc hn inv hnp hin (mem_ready.1 hr).1 j h)
      obtain rfl := no j hj hjn
      exact ⟨hjn, oi, v, hi, hy, H⟩
  | succ f ih =>
    intro listed E inv hfree hr hy H
    by_cases hp : i ∈ pri
    · exact .inl ⟨i, hp, hr, hin, oi, v, hi, hy, H⟩
    · have step : ∀ j ∈ Region.ready md ops listed, j < n → j ≠ i → aOpV P C ops σ rs j (wpAnyV P C md ops σ rs pri n L (f + 1) (listed.setIfInBounds j true)) E := fun j hj hjn hji => by
        obtain ⟨f', hf, h1⟩ := V_any hpri hdone _ _ _ H j (ready_mono hj hji) hjn
        injection hf with hf
        have hf : f' = f := hf.symm
        subst hf
        obtain ⟨hjun, oj, hoj, hall⟩ := mem_ready.1 hj
        have hfree' : ∀ k ok, ops[k]? = some ok → k ≠ i → (listed.setIfInBounds j true).getD k true = false →
            (∀ e ∈ ok.after, Region.binds md e = true → e.on ≠ i) → oi.apart ops ok = true := fun k ok hk hki hun hno => by
          refine hfree k ok hk hki ?_ hno
          by_cases hjk : j = k
          · subst hjk; exact hjun
          · rw [getD_set_ne true hjk] at hun; exact hun
        refine aOpV_mono (fun E' h3 => ih (listed.setIfInBounds j true) E' (inv.set hj hjn) hfree' (ready_mono hr (Ne.symm hji)) h3.1 ?_) (aOpV_put hoj (hfree j oj hoj hji hjun (not_waits hr hj hoj)) hy h1)
        rw [Array.setIfInBounds_comm _ _ hji]
        exact h3.2
      by_cases he : ∃ e ∈ pri, e ∈ Region.ready md ops listed
      · obtain ⟨e, he, her⟩ := he
        exact .inl ⟨e, he, her, hpn e he, step e her (hpn e he) (by rintro rfl; exact hp he)⟩
      · have hnp : ∀ e ∈ pri, e ∉ Region.ready md ops listed := fun e h1 h2 => he ⟨e, h1, h2⟩
        refine .inr ⟨hnp, fun h => (by rw [h] at hr; cases hr), fun j hj => ?_⟩
        have hjn : j < n := by
          rcases Nat.lt_or_ge j n with h | h
          · exact h
          · exact absurd hj (tail_waitsQ hs hc hn inv hnp hin (mem_ready.1 hr).1 j h)
        refine ⟨hjn, ?_⟩
        by_cases hji : j = i
        · subst hji; exact ⟨oi, v, hi, hy, H⟩
        · exact step j hj hjn hji
theorem wpAnyV_lex {n g : Nat} {Lq : EE → Prop} (hpri : ∀ e ∈ pri, freeAll md ops e = true) (hpn : ∀ e ∈ pri, e < n) (hs : sinkQ md ops pri n = true) (hc : Region.chainB md ops n = true) (hn : n < ops.size) :
    ∀ (l : List (Nat × Oper)) (listed : Array Bool) (E : EE), (∀ p ∈ l, ops[p.1]? = some p.2) → HeadInv md ops n listed →
    lexIdx md ops g n (l.map (·.1)) listed = true → wpLexV P C ops σ rs Lq l E →
    wpAnyV P C md ops σ rs pri n (fun listed' E' => Region.seqB md ops g n listed' = true ∧ (∀ j, j < n → listed'.getD j false = true) ∧ Lq E') l.length listed E
  | [], listed, E, _, _, hB, h => by
    simp only [List.map_nil, lexIdx, Bool.and_eq_true] at hB
    exact ⟨hB.1, fun j hj => List.all_eq_true.1 hB.2 j (List.mem_range.2 hj), h⟩
  | (k, o) :: l, listed, E, hl, inv, hB, h => by
    have h0 : ops[k]? = some o := hl (k, o) (by simp)
    simp only [List.map_cons, lexIdx, Bool.and_eq_true, decide_eq_true_eq] at hB
    obtain ⟨⟨⟨hr, hf⟩, hkn⟩, hB'⟩ := hB
    have hr' : k ∈ Region.ready md ops listed := by simpa using hr
    obtain ⟨v, hy, hK⟩ := h
    exact V_first h0 hpri hs hc hn hkn hpn (fun listed' E' hL => seqB_ready hL.1) l.length listed E inv (Region.free_spec h0 hf) hr' hy
      (wpAnyV_lex hpri hpn hs hc hn l _ _ (fun p hp => hl p (by simp [hp])) (inv.set hr' hkn) hB' hK)
end
structure WfU (md : Region.Mode) (ops : Array Oper) (rs : ResU) : Prop where
  one : ∀ (p : Nat) r (p' : Nat) r' i, rs[p]? = some r → rs[p']? = some r' → i ∈ r.all → i ∈ r'.all → p = p'
  two : ∀ (p : Nat) r j s, rs[p]? = some r → r.pre = some (j, s) → r.idx ≠ j
  edge : ∀ (p : Nat) r j s, rs[p]? = some r → r.pre = some (j, s) → ∃ o, ops[r.idx]? = some o ∧ ∃ e ∈ o.after, Region.binds md e = true ∧ e.on = j
  slot : ∀ (p : Nat) r j s, rs[p]? = some r → r.pre = some (j, s) → ∀ i o, ops[i]? = some o → o.dst = some s → i = j
theorem RE.mem_idx (r : RE) : r.idx ∈ r.all := by simp [RE.all]
theorem RE.mem_pre {r : RE} {j s : Nat} (h : r.pre = some (j, s)) : j ∈ r.all := by simp [RE.all, h]
structure StU (C : Ctx) (σ : List Ob) (rs : ResU) (listed : Array Bool) (a : Act) (w : World) (φ : Nat → Option Nat) : Prop where
  made : ∀ (p : Nat) r, rs[p]? = some r → listed.getD r.idx false = false → (∀ j s, r.pre = some (j, s) → listed.getD j false = true → AV.rel ⟨w, φ, σ ++ resU rs listed, C.ok⟩ (.own (σ.length + p)) (a.tmps.getD s undef)) ∧
    ((∀ j s, r.pre = some (j, s) → listed.getD j false = false) → φ (σ.length + p) = none)
structure SimU (C : Ctx) (σ : List Ob) (rs : ResU) (listed : Array Bool) (E : EE) (a : Act) (w : World) : Prop where
  defers : a.defers = []
  size : a.tmps.size = C.n
  lsz : ∀ (p : Nat) r, rs[p]? = some r → ∀ i ∈ r.all, i < listed.size
  cl : ∀ (p : Nat) r j s, rs[p]? = some r → r.pre = some (j, s) → listed.getD r.idx false = true → listed.getD j false = true
  free : ∀ (p : Nat) r, rs[p]? = some r → r.pre.isSome = true → ∀ o ∈ σ, AV.onlys (fun k => k ≠ σ.length + p) o.cs
  only : ∀ (p : Nat) r, rs[p]? = some r → r.pre.isSome = true → listed.getD r.idx false = false → ∀ t, (E t).only (fun k => k ≠ σ.length + p)
  mem : ∃ φ, Good C ⟨w, φ, σ ++ resU rs listed, C.ok⟩ ∧ StU C σ rs listed a w φ ∧ ∀ t, AV.rel ⟨w, φ, σ ++ resU rs listed, C.ok⟩ (E t) (a.tmps.getD t undef)
theorem reOb_off {listed : Array Bool} {r : RE} {i : Nat} (h : i ∉ r.all) : reOb (listed.setIfInBounds i true) r = reOb listed r := by
  have h1 : i ≠ r.idx := fun e => h (e ▸ r.mem_idx)
  unfold reOb
  rw [getD_set_ne false h1]
  cases hp : r.pre with
  | none => rfl
  | some p =>
    obtain ⟨j, s⟩ := p
    have h2 : i ≠ j := fun e => h (e ▸ RE.mem_pre hp)
    simp only [getD_set_ne false h2]
theorem resU_same {rs : ResU} {listed : Array Bool} {i : Nat} (h : ∀ r ∈ rs, i ∉ r.all) : resU rs (listed.setIfInBounds i true) = resU rs listed := by
  unfold resU
  exact List.map_congr_left fun r hr => reOb_off (h r hr)
theorem getD_set_self {listed : Array Bool} {i : Nat} (hi : i < listed.size) : (listed.setIfInBounds i true).getD i false = true := by simp [hi]
theorem resU_set {md : Region.Mode} {ops : Array Oper} {rs : ResU} {listed : Array Bool} {i p : Nat} {r : RE} {ob : Ob} (hw : WfU md ops rs) (hp : rs[p]? = some r) (hm : i ∈ r.all) (ho : reOb (listed.setIfInBounds i true) r = ob) :
    resU rs (listed.setIfInBounds i true) = (resU rs listed).set p ob := by
  apply List.ext_getElem?
  intro j
  rw [List.getElem?_set]
  unfold resU
  rw [List.getElem?_map]
  by_cases e : p = j
  · subst e
    have hlt : p < rs.length := (List.getElem?_eq_some_iff.1 hp).1
    rw [hp]
    simp [hlt, ho]
  · rw [if_neg e, List.getElem?_map]
    cases hj : rs[j]? with
    | none => rfl
    | some r' =>
      simp only [Option.map_some, Option.some.injEq]
      exact reOb_off fun hm' => e (hw.one p r j r' i hp hj hm hm')
theorem onlys_of_ros {p : Nat → Prop} {o : Ob} {listed : Array Bool} {rs : ResU} (h : o ∈ resU rs listed) : AV.onlys p o.cs := by
  unfold resU at h
  obtain ⟨r, _, rfl⟩ := List.mem_map.1 h
  unfold reOb RE.ob
  split
  · exact onlys_ro _ _
  · split
    · split <;> exact onlys_ro _ []
    · exact onlys_ro _ []
section
variable {P : Program} {C : Ctx} {ops : Array Oper} {σ : List Ob} {md : Region.Mode} {rs : ResU} {pri : List Nat} {listed : Array Bool} {E : EE} {a : Act} {w : World}
theorem SimU.op {Q : Exit → Act → World → Prop} {i : Nat} {o : Oper} {v : AV} {K : Act → World → Prop} (hw : WfU md ops rs) (hs : SimU C σ rs listed E a w) (hi : i ∈ Region.ready md ops listed) (ho : ops[i]? = some o) (hd : ∀ t, o.dst = some t → t < C.n)
    (hy : YU P C ops σ rs i o v E) (hK : ∀ a' w', SimU C σ rs (listed.setIfInBounds i true) (putE E o.dst v) a' w' → K a' w') : wpOp P ops Q i K a w := by
  obtain ⟨s1, s2, s3, scl, s4, s5, φ, hG, hst, hE⟩ := hs
  have hi0 := (mem_ready.1 hi).1
  obtain ⟨dst, op, ty, pos, after, g⟩ := o
  simp only at hd
  have putA : ∀ (u : Value) (t : Nat), dst ≠ some t → (a.put dst u).tmps.getD t undef = a.tmps.getD t undef := by
    intro u t hne
    cases dst with
    | none => rfl
    | some s => rw [getD_put a s t u (by rw [s2]; exact hd s rfl), if_neg fun e => hne (by rw [e])]
  have putR : ∀ {φ' : Nat → Option Nat} {σ' : List Ob} {w' : World} {u : Value}, (∀ t, AV.rel ⟨w', φ', σ', C.ok⟩ (E t) (a.tmps.getD t undef)) → AV.rel ⟨w', φ', σ', C.ok⟩ v u → ∀ t, AV.rel ⟨w', φ', σ', C.ok⟩ (putE E dst v t) ((a.put dst u).tmps.getD t undef) := by
    intro φ' σ' w' u h1 h2 t
    cases dst with
    | none => exact h1 t
    | some s =>
      rw [getD_put a s t u (by rw [s2]; exact hd s rfl)]
      simp only [putE]
      split
      · exact h2
      · exact h1 t
  have putJ : ∀ {φ' : Nat → Option Nat} {σ' : List Ob} {w' : World} {u : Value}, (∀ t, AV.rel ⟨w', φ', σ', C.ok⟩ (E t) (a.tmps.getD t undef)) → ∀ t, AV.rel ⟨w', φ', σ', C.ok⟩ (putE E dst .junk t) ((a.put dst u).tmps.getD t undef) := by
    intro φ' σ' w' u h1 t
    cases dst with
    | none => exact h1 t
    | some s =>
      rw [getD_put a s t u (by rw [s2]; exact hd s rfl)]
      simp only [putE]
      split
      · simp [AV.rel]
      · exact h1 t
  have szR : ∀ u, (a.put dst u).tmps.size = C.n := fun u => by cases dst <;> simp [Act.put, s2]
  have dfR : ∀ u, (a.put dst u).defers = [] := fun u => by cases dst <;> exact s1
  have s3' : ∀ (p : Nat) r, rs[p]? = some r → ∀ k ∈ r.all, k < (listed.setIfInBounds i true).size := fun p r hp k hk => by simpa using s3 p r hp k hk
  have scl' : ∀ (p : Nat) r j s, rs[p]? = some r → r.pre = some (j, s) → (listed.setIfInBounds i true).getD r.idx false = true → (listed.setIfInBounds i true).getD j false = true := by
    intro p r j s hp hpr hl
    have hjs := s3 p r hp j (RE.mem_pre hpr)
    by_cases hij : i = j
    · rw [hij]; exact getD_set_self hjs
    rw [getD_set_ne false hij]
    by_cases hir : i = r.idx
    · obtain ⟨o', ho', e, he, hb, hon⟩ := hw.edge p r j s hp hpr
      obtain ⟨_, o'', ho'', hall⟩ := mem_ready.1 hi
      have : o'' = o' := Option.some.inj (ho''.symm.trans (hir ▸ ho'))
      subst this
      have := hall e he hb
      rw [hon] at this
      exact this
    · rw [getD_set_ne false hir] at hl
      exact scl p r j s hp hpr hl
  have onlyR : ∀ {v' : AV}, (∀ (p : Nat) r, rs[p]? = some r → r.pre.isSome = true → (listed.setIfInBounds i true).getD r.idx false = false → v'.only (fun k => k ≠ σ.length + p)) → ∀ (p : Nat) r, rs[p]? = some r → r.pre.isSome = true → (listed.setIfInBounds i true).getD r.idx false = false → ∀ t, (putE E dst v' t).only (fun k => k ≠ σ.length + p) := by
    intro v' h p r hp hpr hl t
    have hl0 : listed.getD r.idx false = false := by
      by_cases e : i = r.idx
      · rw [e, getD_set_self (s3 p r hp _ r.mem_idx)] at hl; cases hl
      · rwa [getD_set_ne false e] at hl
    cases dst with
    | none => exact s5 p r hp hpr hl0 t
    | some s =>
      simp only [putE]
      split
      · exact h p r hp hpr hl
      · exact s5 p r hp hpr hl0 t
  -- other places' rows lie where they lay
  have slotR : ∀ (p : Nat) r j s, rs[p]? = some r → r.pre = some (j, s) → i ≠ j → ∀ u, (a.put dst u).tmps.getD s undef = a.tmps.getD s undef := fun p r j s hp hpr hij u => putA u s fun e => hij (hw.slot p r j s hp hpr i _ ho e)
  unfold wpOp
  simp only [ho]
  rcases hy with ⟨h0, hsg, ⟨hg, hv⟩ | ⟨hg, rfl⟩⟩ | ⟨p, r, hp, hri, hrp, hgd, hds, hmk⟩ | ⟨p, r, s, hp, hrp, hgd, hds, hmk, rfl⟩ | ⟨p, r, j, s, hp, hri, hrp, hgd, hds, hmk, rfl⟩
  · have hres := resU_same (listed := listed) (fun r hr => h0 r hr)
    have hne : ∀ (p : Nat) r, rs[p]? = some r → i ≠ r.idx := fun p r hp e => h0 r (List.mem_of_getElem? hp) (e ▸ r.mem_idx)
    have hnj : ∀ (p : Nat) r j s, rs[p]? = some r → r.pre = some (j, s) → i ≠ j := fun p r j s hp hpr e => h0 r (List.mem_of_getElem? hp) (e ▸ RE.mem_pre hpr)
    rw [if_pos (gsay_yes hg a _ hE)]
    refine .inl (hv (resU rs listed) a ⟨w, φ, σ ++ resU rs listed, C.ok⟩ hG rfl (fun x _ => ev_evE' hE x) _ _ fun u w' hb hu => hK _ _ ?_)
    obtain ⟨g1, g2⟩ := good_below hG hb
    refine ⟨dfR u, szR u, s3', scl', s4, onlyR (fun p r hp hpr hl => (hsg p r hp hpr).resolve_right fun ⟨_, e, he, hb, hon⟩ => by
      rw [getD_set_ne false (hne p r hp)] at hl
      obtain ⟨_, o', ho', hall'⟩ := mem_ready.1 hi
      rw [ho] at ho'; injection ho' with ho'; subst ho'
      have := hall' e he (hb md)
      rw [hon, hl] at this; cases this), φ, by rw [hres]; exact g1, ⟨fun p r hp hl => ?_⟩, by rw [hres]; exact putR (fun t => AV.rel_keeps g2 _ _ (AV.only_true _) (hE t)) hu⟩
    rw [getD_set_ne false (hne p r hp)] at hl
    obtain ⟨k1, k2⟩ := hst.made p r hp hl
    refine ⟨fun j s hpr hj => ?_, fun h => k2 fun j s hpr => ?_⟩
    · rw [getD_set_ne false (hnj p r j s hp hpr)] at hj
      rw [hres, slotR p r j s hp hpr (hnj p r j s hp hpr)]
      exact AV.rel_keeps g2 _ _ (AV.only_true _) (k1 j s hpr hj)
    · have := h j s hpr
      rwa [getD_set_ne false (hnj p r j s hp hpr)] at this
  · have hres := resU_same (listed := listed) (fun r hr => h0 r hr)
    have hne : ∀ (p : Nat) r, rs[p]? = some r → i ≠ r.idx := fun p r hp e => h0 r (List.mem_of_getElem? hp) (e ▸ r.mem_idx)
    have hnj : ∀ (p : Nat) r j s, rs[p]? = some r → r.pre = some (j, s) → i ≠ j := fun p r j s hp hpr e => h0 r (List.mem_of_getElem? hp) (e ▸ RE.mem_pre hpr)
    rw [gsay_no hg a _ hE, if_neg (by simp)]
    refine hK _ _ ⟨dfR _, szR _, s3', scl', s4, onlyR (fun p r hp hpr hl => (hsg p r hp hpr).resolve_right fun ⟨_, e, he, hb, hon⟩ => by
      rw [getD_set_ne false (hne p r hp)] at hl
      obtain ⟨_, o', ho', hall'⟩ := mem_ready.1 hi
      rw [ho] at ho'; injection ho' with ho'; subst ho'
      have := hall' e he (hb md)
      rw [hon, hl] at this; cases this), φ, by rw [hres]; exact hG, ⟨fun p r hp hl => ?_⟩, by rw [hres]; exact putR hE (by simp [AV.rel, RV.rel])⟩
    rw [getD_set_ne false (hne p r hp)] at hl
    obtain ⟨k1, k2⟩ := hst.made p r hp hl
    refine ⟨fun j s hpr hj => ?_, fun h => k2 fun j s hpr => ?_⟩
    · rw [getD_set_ne false (hnj p r j s hp hpr)] at hj
      rw [hres, slotR p r j s hp hpr (hnj p r j s hp hpr)]
      exact k1 j s hpr hj
    · have := h j s hpr
      rwa [getD_set_ne false (hnj p r j s hp hpr)] at this
  · -- an object or a row is made in its place
    simp only at hgd hds
    subst hgd; subst hri
    have his := s3 p r hp _ r.mem_idx
    have hlf : listed.getD r.idx false = false := getD_both hi0
    have hpl : p < rs.length := (List.getElem?_eq_some_iff.1 hp).1
    have hob0 : reOb listed r = ⟨r.t, 0, []⟩ := by unfold reOb; rw [hlf]; simp [hrp]
    have hq : (σ ++ resU rs listed)[σ.length + p]? = some ⟨r.ob.t, 0, []⟩ := by
      rw [List.getElem?_append_right (by omega), show σ.length + p - σ.length = p by omega]
      unfold resU
      rw [List.getElem?_map, hp]
      simp only [Option.map_some, hob0, RE.ob]
    have hφq : φ (σ.length + p) = none := (hst.made p r hp hlf).2 fun j s h => by rw [hrp] at h; cases h
    have hset := resU_set (ob := r.ob) (listed := listed) hw hp r.mem_idx (by unfold reOb; rw [getD_set_self his]; rfl)
    have hσ : (σ ++ resU rs listed).set (σ.length + p) r.ob = σ ++ resU rs (listed.setIfInBounds r.idx true) := by
      rw [List.set_append_right _ _ (by omega), show σ.length + p - σ.length = p by omega, hset]
    rw [if_pos (by simp [Region.wanted])]
    refine .inl (hmk.2 a w φ _ hG hq hφq (fun x _ => ev_evE' hE x) _ _ fun u w' g hb hg hor hu => hK _ _ ?_)
    have g1 := good_fillU hG hb hg hq hφq hor
    have hall : ∀ t, AV.rel ⟨w', upd φ (σ.length + p) (some g), (σ ++ resU rs listed).set (σ.length + p) r.ob, C.ok⟩ (E t) (a.tmps.getD t undef) := fun t => rel_fillU hb hg hq hφq _ _ (hE t)
    have hoth : ∀ p' r' , rs[p']? = some r' → p' ≠ p → r.idx ∉ r'.all := fun p' r' hp' hne hm => hne (hw.one p' r' p r r.idx hp' hp hm r.mem_idx)
    refine ⟨dfR u, szR u, s3', scl', s4, onlyR fun p' r' hp' hpr' hl => ?_, upd φ (σ.length + p) (some g), by rw [← hσ]; exact g1, ⟨fun p' r' hp' hl => ?_⟩, by rw [← hσ]; exact putR hall hu⟩
    · have hne : p' ≠ p := by
        rintro rfl
        rw [hp] at hp'; injection hp' with hp'; subst hp'
        rw [hrp] at hpr'; cases hpr'
      rcases hmk.1 with rfl | rfl <;> (simp only [AV.only]; omega)
    · by_cases hpp : p' = p
      · subst hpp
        rw [hp] at hp'; injection hp' with hp'; subst hp'
        rw [getD_set_self his] at hl; cases hl
      · have hno := hoth p' r' hp' hpp
        have hri : r.idx ≠ r'.idx := fun e => hno (e ▸ r'.mem_idx)
        rw [getD_set_ne false hri] at hl
        obtain ⟨k1, k2⟩ := hst.made p' r' hp' hl
        refine ⟨fun j s hpr hj => ?_, fun h => ?_⟩
        · have hij : r.idx ≠ j := fun e => hno (e ▸ RE.mem_pre hpr)
          rw [getD_set_ne false hij] at hj
          rw [← hσ, slotR p' r' j s hp' hpr hij]
          exact rel_fillU hb hg hq hφq _ _ (k1 j s hpr hj)
        · rw [upd_ne (by omega)]
          refine k2 fun j s hpr => ?_
          have hij : r.idx ≠ j := fun e => hno (e ▸ RE.mem_pre hpr)
          have := h j s hpr
          rwa [getD_set_ne false hij] at this
  · -- a row is laid empty
    simp only at hgd hds
    subst hgd; subst hds
    have his := s3 p r hp _ (RE.mem_pre hrp)
    have hlf : listed.getD i false = false := getD_both hi0
    have hij := hw.two p r i s hp hrp
    have hlx : listed.getD r.idx false = false := by
      cases hh : listed.getD r.idx false with
      | false => rfl
      | true => rw [scl p r i s hp hrp hh] at hlf; cases hlf
    have hlx' : (listed.setIfInBounds i true).getD r.idx false = false := by rw [getD_set_ne false (Ne.symm hij)]; exact hlx
    have hob0 : reOb listed r = ⟨r.t, 0, []⟩ := by unfold reOb; rw [hlx]; simp [hrp, hlf]
    have hob1 : reOb (listed.setIfInBounds i true) r = ⟨r.t, r.sz, []⟩ := by unfold reOb; rw [hlx']; simp only [hrp, getD_set_self his]; rfl
    have hq : (σ ++ resU rs listed)[σ.length + p]? = some ⟨r.t, 0, []⟩ := by
      rw [List.getElem?_append_right (by omega), show σ.length + p - σ.length = p by omega]
      unfold resU
      rw [List.getElem?_map, hp]
      simp only [Option.map_some, hob0]
    have hφq : φ (σ.length + p) = none := (hst.made p r hp hlx).2 fun j s' h => by rw [hrp] at h; injection h with h; injection h with h; subst h; exact hlf
    have hset := resU_set (listed := listed) hw hp (RE.mem_pre hrp) hob1
    have hσ : (σ ++ resU rs listed).set (σ.length + p) ⟨r.t, r.sz, []⟩ = σ ++ resU rs (listed.setIfInBounds i true) := by
      rw [List.set_append_right _ _ (by omega), show σ.length + p - σ.length = p by omega, hset]
    rw [if_pos (by simp [Region.wanted])]
    refine .inl (hmk.2 a w φ _ hG hq hφq (fun x _ => ev_evE' hE x) _ _ fun u w' g hb hg hor hu => hK _ _ ?_)
    have g1 := good_fillU hG hb hg hq hφq hor
    have hall : ∀ t, AV.rel ⟨w', upd φ (σ.length + p) (some g), (σ ++ resU rs listed).set (σ.length + p) ⟨r.t, r.sz, []⟩, C.ok⟩ (E t) (a.tmps.getD t undef) := fun t => rel_fillU hb hg hq hφq _ _ (hE t)
    refine ⟨dfR u, szR u, s3', scl', s4, onlyR fun p' r' hp' hpr' hl => by simp [AV.only], upd φ (σ.length + p) (some g), by rw [← hσ]; exact g1, ⟨fun p' r' hp' hl => ?_⟩, by rw [← hσ]; exact putJ hall⟩
    by_cases hpp : p' = p
    · subst hpp
      rw [hp] at hp'; injection hp' with hp'; subst hp'
      refine ⟨fun j s' hpr hj => ?_, fun h => ?_⟩
      · rw [hrp] at hpr; injection hpr with hpr; injection hpr with e1 e2; subst e2
        rw [← hσ, getD_put a s s u (by rw [s2]; exact hd s rfl), if_pos rfl]
        exact hu
      · have := h i s hrp
        rw [getD_set_self his] at this; cases this
    · have hno : i ∉ r'.all := fun hm => hpp (hw.one p' r' p r i hp' hp hm (RE.mem_pre hrp))
      have hri : i ≠ r'.idx := fun e => hno (e ▸ r'.mem_idx)
      rw [getD_set_ne false hri] at hl
      obtain ⟨k1, k2⟩ := hst.made p' r' hp' hl
      refine ⟨fun j s' hpr hj => ?_, fun h => ?_⟩
      · have hij' : i ≠ j := fun e => hno (e ▸ RE.mem_pre hpr)
        rw [getD_set_ne false hij'] at hj
        rw [← hσ, slotR p' r' j s' hp' hpr hij']
        exact rel_fillU hb hg hq hφq _ _ (k1 j s' hpr hj)
      · rw [upd_ne (by omega)]
        refine k2 fun j s' hpr => ?_
        have hij' : i ≠ j := fun e => hno (e ▸ RE.mem_pre hpr)
        have := h j s' hpr
        rwa [getD_set_ne false hij'] at this
  · -- what was laid empty grows
    simp only at hgd hds
    subst hgd; subst hri
    have his := s3 p r hp _ r.mem_idx
    have hlf : listed.getD r.idx false = false := getD_both hi0
    have hij := hw.two p r j s hp hrp
    have hpl : p < rs.length := (List.getElem?_eq_some_iff.1 hp).1
    have hlj : listed.getD j false = true := by
      have := scl' p r j s hp hrp (getD_set_self his)
      rwa [getD_set_ne false hij] at this
    have hob0 : reOb listed r = ⟨r.t, r.sz, []⟩ := by unfold reOb; rw [hlf]; simp [hrp, hlj]
    have hq : (σ ++ resU rs listed)[σ.length + p]? = some ⟨r.t, r.sz, []⟩ := by
      rw [List.getElem?_append_right (by omega), show σ.length + p - σ.length = p by omega]
      unfold resU
      rw [List.getElem?_map, hp]
      simp only [Option.map_some, hob0]
    have hset := resU_set (ob := r.ob) (listed := listed) hw hp r.mem_idx (by unfold reOb; rw [getD_set_self his]; rfl)
    have hσ : (σ ++ resU rs listed).set (σ.length + p) r.ob = σ ++ resU rs (listed.setIfInBounds r.idx true) := by
      rw [List.set_append_right _ _ (by omega), show σ.length + p - σ.length = p by omega, hset]
    have hfr : ∀ (k : Nat) ob, (σ ++ resU rs listed)[k]? = some ob → AV.onlys (fun z => z ≠ σ.length + p) ob.cs := fun k ob hk => by
      rcases List.mem_append.1 (List.mem_of_getElem? hk) with h | h
      · exact s4 p r hp (by rw [hrp]; rfl) ob h
      · exact onlys_of_ros h
    have hE5 := s5 p r hp (by rw [hrp]; rfl) hlf
    rw [if_pos (by simp [Region.wanted])]
    refine .inl (hmk a w φ _ hG hq ((hst.made p r hp hlf).1 j s hrp hlj) hfr (fun x _ => ev_evE' hE x) _ _ fun u w' b g1 g2 hu => hK _ _ ?_)
    have hall : ∀ t, AV.rel ⟨w', upd φ (σ.length + p) b, (σ ++ resU rs listed).set (σ.length + p) r.ob, C.ok⟩ (E t) (a.tmps.getD t undef) := fun t => AV.rel_keeps g2 _ _ (hE5 t) (hE t)
    have hoth : ∀ p' r' , rs[p']? = some r' → p' ≠ p → r.idx ∉ r'.all := fun p' r' hp' hne hm => hne (hw.one p' r' p r r.idx hp' hp hm r.mem_idx)
    refine ⟨dfR u, szR u, s3', scl', s4, onlyR fun p' r' hp' hpr' hl => ?_, upd φ (σ.length + p) b, by rw [← hσ]; exact g1, ⟨fun p' r' hp' hl => ?_⟩, by rw [← hσ]; exact putR hall hu⟩
    · have hne : p' ≠ p := by
        rintro rfl
        rw [hp] at hp'; injection hp' with hp'; subst hp'
        rw [getD_set_self his] at hl; cases hl
      simp only [AV.only]; omega
    · by_cases hpp : p' = p
      · subst hpp
        rw [hp] at hp'; injection hp' with hp'; subst hp'
        rw [getD_set_self his] at hl; cases hl
      · have hno := hoth p' r' hp' hpp
        have hri : r.idx ≠ r'.idx := fun e => hno (e ▸ r'.mem_idx)
        rw [getD_set_ne false hri] at hl
        obtain ⟨k1, k2⟩ := hst.made p' r' hp' hl
        refine ⟨fun j' s' hpr hj => ?_, fun h => ?_⟩
        · have hij' : r.idx ≠ j' := fun e => hno (e ▸ RE.mem_pre hpr)
          rw [getD_set_ne false hij'] at hj
          rw [← hσ, slotR p' r' j' s' hp' hpr hij']
          exact AV.rel_keeps g2 _ _ (by simp only [AV.only]; omega) (k1 j' s' hpr hj)
        · rw [upd_ne (by omega)]
          refine k2 fun j' s' hpr => ?_
          have hij' : r.idx ≠ j' := fun e => hno (e ▸ RE.mem_pre hpr)
          have := h j' s' hpr
          rwa [getD_set_ne false hij'] at this
theorem SimU.mv {i : Nat} {o : Oper} {v : AV} (hw : WfU md ops rs) (hs : SimU C σ rs listed E a w) (ho : ops[i]? = some o) (hd : ∀ t, o.dst = some t → t < C.n) (hm : isMv o = true) (hmr : ∀ r ∈ rs, i ∉ r.all)
    (hy : YU P C ops σ rs i o v E) : ∃ u, YA P ops o u a ∧ SimU C σ rs (listed.setIfInBounds i true) (putE E o.dst v) (a.put o.dst u) w := by
  obtain ⟨s1, s2, s3, scl, s4, s5, φ, hG, hst, hE⟩ := hs
  obtain ⟨dst, op, ty, pos, after, g⟩ := o
  obtain ⟨t, rfl, rfl⟩ : ∃ t, dst = some t ∧ g = none := by
    unfold isMv at hm
    split at hm
    · rename_i he; injection he with e1 e2 e3 e4 e5 e6; exact ⟨_, e1, e6⟩
    · rename_i he; injection he with e1 e2 e3 e4 e5 e6; exact ⟨_, e1, e6⟩
    · cases hm
  have htn := hd t rfl
  have hres := resU_same (listed := listed) hmr
  have hne : ∀ (p : Nat) r, rs[p]? = some r → i ≠ r.idx := fun p r hp e => hmr r (List.mem_of_getElem? hp) (e ▸ r.mem_idx)
  have hnj : ∀ (p : Nat) r j s, rs[p]? = some r → r.pre = some (j, s) → i ≠ j := fun p r j s hp hpr e => hmr r (List.mem_of_getElem? hp) (e ▸ RE.mem_pre hpr)
  have bad : ∀ (p : Nat) r, rs[p]? = some r → i ∈ r.all → False := fun p r hp hm => hmr r (List.mem_of_getElem? hp) hm
  rcases hy with ⟨h0, hsg, ⟨hg, hv⟩ | ⟨hg, _⟩⟩ | ⟨p, r, hp, hri, _⟩ | ⟨p, r, s, hp, hrp, _⟩ | ⟨p, r, j, s, hp, hri, _⟩
  · have hwp := hv (resU rs listed) a ⟨w, φ, σ ++ resU rs listed, C.ok⟩ hG rfl (fun x _ => ev_evE' hE x) (fun a' w' => ∃ u, a' = a.put (some t) u ∧ AV.rel ⟨w', φ, σ ++ resU rs listed, C.ok⟩ v u) (fun _ _ _ => False) fun u w' hb hu => ⟨u, rfl, hu⟩
    rcases isMv_ya (P := P) (ops := ops) hm a with ⟨u, hya⟩ | hno
    · refine ⟨u, hya, ?_⟩
      unfold Oper.wp at hwp
      rw [hya.2 w] at hwp
      simp only [Oper.upon] at hwp
      obtain ⟨u', he, hu⟩ := hwp
      have hu' : u = u' := by
        have h1 := getD_put a t t u (by rw [s2]; exact htn)
        have h2 := getD_put a t t u' (by rw [s2]; exact htn)
        rw [if_pos rfl] at h1 h2
        rw [← h1, ← h2, he]
      subst hu'
      refine ⟨s1, by simp [Act.put, s2], fun p r hp k hk => by simpa using s3 p r hp k hk, fun p r j s hp hpr hl => ?_, s4, fun p r hp hpr hl s => ?_, φ, by rw [hres]; exact hG, ⟨fun p r hp hl => ?_⟩, fun s => ?_⟩
      · rw [getD_set_ne false (hne p r hp)] at hl
        rw [getD_set_ne false (hnj p r j s hp hpr)]
        exact scl p r j s hp hpr hl
      · rw [getD_set_ne false (hne p r hp)] at hl
        simp only [putE]
        split
        · exact (hsg p r hp hpr).resolve_right fun h => by rw [hm] at h; exact absurd h.1 (by decide)
        · exact s5 p r hp hpr hl s
      · rw [getD_set_ne false (hne p r hp)] at hl
        obtain ⟨k1, k2⟩ := hst.made p r hp hl
        refine ⟨fun j s hpr hj => ?_, fun h => k2 fun j s hpr => ?_⟩
        · rw [getD_set_ne false (hnj p r j s hp hpr)] at hj
          rw [hres, getD_put a t s u (by rw [s2]; exact htn), if_neg fun e => hnj p r j s hp hpr (hw.slot p r j s hp hpr i _ ho (by rw [e]))]
          exact k1 j s hpr hj
        · have := h j s hpr
          rwa [getD_set_ne false (hnj p r j s hp hpr)] at this
      · rw [hres, getD_put a t s u (by rw [s2]; exact htn)]
        simp only [putE]
        split
        · exact hu
        · exact hE s
    · exfalso
      unfold Oper.wp at hwp
      cases hr : (execOp a.eval (⟨some t, op, ty, pos, after, none⟩ : Oper)).run P w with
      | ok x w' => exact (hno w x w').1 hr
      | halt q w' =>
        rw [hr] at hwp
        cases q <;> first | exact hwp | exact (hno w .skip w').2 _ hr
  · simp [gsayE] at hg
  · exact (bad p r hp (hri ▸ r.mem_idx)).elim
  · exact (bad p r hp (RE.mem_pre hrp)).elim
  · exact (bad p r hp (hri ▸ r.mem_idx)).elim
theorem wpAny_of_V {n g : Nat} {L : Array Bool → EE → Prop} {F : Act → World → Prop} (hpri : ∀ e ∈ pri, freeAll md ops e = true) (hsel : ∀ (j : Nat) (o : Oper) cs b, ops[j]? = some o → o.op ≠ .select cs b) (hw : WfU md ops rs) (hpm : ∀ e ∈ pri, ∀ r ∈ rs, e ∉ r.all) (hd : ∀ (i : Nat) o t, ops[i]? = some o → o.dst = some t → t < C.n)
    (hL : ∀ listed E a w, L listed E → SimU C σ rs listed E a w → wpAny P md ops (nrm F) g listed a w) :
    ∀ (f : Nat) (listed : Array Bool) (E : EE) (a : Act) (w : World), SimU C σ rs listed E a w → wpAnyV P C md ops σ rs pri n L f listed E → wpAny P md ops (nrm F) (f + g) listed a w
  | 0, listed, E, a, w, hs, h => by rw [Nat.zero_add]; exact hL _ _ _ _ h hs
  | f + 1, listed, E, a, w, hs, h => by
    rw [show f + 1 + g = (f + g) + 1 by omega]
    rcases h with ⟨e, he, her, hen, o, v, ho, hy, hK⟩ | ⟨_, h0, h⟩
    · obtain ⟨hmv, hap⟩ := freeAll_spec ho (hpri e he)
      obtain ⟨u, hya, hs'⟩ := SimU.mv hw hs ho (fun t ht => hd e o t ho ht) hmv (hpm e he) hy
      exact wpAny_ya ho hsel _ listed a w hya (fun j oj hj hje hun hno => hap j oj hj hje hno fun ed hed hb hon => by
        obtain ⟨_, o', ho', hall⟩ := mem_ready.1 her
        have : o' = o := Option.some.inj (ho'.symm.trans ho)
        subst this
        have h1 := hall ed hed hb
        rw [hon, getD_both hun] at h1
        cases h1) her (wpAny_of_V hpri hsel hw hpm hd hL f _ _ _ w hs' hK)
    · refine ⟨fun h1 => absurd h1 h0, fun i hi => ?_⟩
      obtain ⟨o, v, ho, hy, hK⟩ := (h i hi).2
      exact SimU.op hw hs hi ho (fun t ht => hd i o t ho ht) hy fun a' w' hs' => wpAny_of_V hpri hsel hw hpm hd hL f _ _ a' w' hs' hK
end
def keyAll (k : Nat × Option (Nat × Nat)) : List Nat := k.1 :: match k.2 with
  | some p => [p.1]
  | none => []
def wfB (l : List Oper) (pri : List Nat) (n : Nat) (keys : List (Nat × Option (Nat × Nat))) : Bool :=
  decide (keys.flatMap keyAll).Nodup && (keys.flatMap keyAll).all (fun i => decide (i < n) && !pri.contains i) && keys.all fun k => match k.2 with
    | none => true
    | some p => (match l[k.1]? with
      | some o => o.after.any fun e => Region.binds .any e && decide (e.on = p.1)
      | none => false) && (List.range l.length).all fun i => match l[i]? with
        | some o => decide (o.dst ≠ some p.2) || decide (i = p.1)
        | none => true
theorem nd_flat {κ : Type} {f : κ → List Nat} : ∀ {l : List κ}, (l.flatMap f).Nodup → ∀ (p : Nat) a (p' : Nat) a' i, l[p]? = some a → l[p']? = some a' → i ∈ f a → i ∈ f a' → p = p'
  | [], _, p, a, _, _, _, h, _, _, _ => by simp at h
  | x :: l, hn, p, a, p', a', i, h, h', hi, hi' => by
    rw [List.flatMap_cons, List.nodup_append] at hn
    obtain ⟨_, h2, h3⟩ := hn
    cases p with
    | zero =>
      cases p' with
      | zero => rfl
      | succ p' =>
        simp only [List.getElem?_cons_zero, Option.some.injEq, List.getElem?_cons_succ] at h h'
        subst h
        exact absurd rfl (h3 i hi i (List.mem_flatMap.2 ⟨a', List.mem_of_getElem? h', hi'⟩))
    | succ p =>
      cases p' with
      | zero =>
        simp only [List.getElem?_cons_zero, Option.some.injEq, List.getElem?_cons_succ] at h h'
        subst h'
        exact absurd rfl (h3 i hi' i (List.mem_flatMap.2 ⟨a, List.mem_of_getElem? h, hi⟩))
      | succ p' =>
        simp only [List.getElem?_cons_succ] at h h'
        rw [nd_flat h2 p a p' a' i h h' hi hi']
theorem nd_in {κ : Type} {f : κ → List Nat} : ∀ {l : List κ}, (l.flatMap f).Nodup → ∀ a ∈ l, (f a).Nodup
  | [], _, a, h => by cases h
  | x :: l, hn, a, h => by
    rw [List.flatMap_cons, List.nodup_append] at hn
    rcases List.mem_cons.1 h with rfl | h
    · exact hn.1
    · exact nd_in hn.2.1 a h
def RE.key (r : RE) : Nat × Option (Nat × Nat) := (r.idx, r.pre)
theorem RE.all_key (r : RE) : r.all = keyAll r.key := by
  unfold RE.all keyAll RE.key
  cases r.pre <;> rfl
theorem wf_of {l : List Oper} {rs : ResU} {pri : List Nat} {n : Nat} {keys : List (Nat × Option (Nat × Nat))} (hk : rs.map RE.key = keys) (h : wfB l pri n keys = true) :
    WfU .any l.toArray rs ∧ (∀ r ∈ rs, ∀ i ∈ r.all, i < n) ∧ ∀ e ∈ pri, ∀ r ∈ rs, e ∉ r.all := by
  subst hk
  unfold wfB at h
  simp only [Bool.and_eq_true, decide_eq_true_eq] at h
  obtain ⟨⟨h1, h2⟩, h3⟩ := h
  have hin : ∀ r ∈ rs, ∀ i ∈ r.all, i < n ∧ i ∉ pri := fun r hr i hi => by
    have := List.all_eq_true.1 h2 i (List.mem_flatMap.2 ⟨r.key, List.mem_map_of_mem hr, r.all_key ▸ hi⟩)
    simpa using this
  have at_ : ∀ (p : Nat) r, rs[p]? = some r → (rs.map RE.key)[p]? = some r.key := fun p r hp => by rw [List.getElem?_map, hp]; rfl
  have h4 : ∀ (p : Nat) r j s, rs[p]? = some r → r.pre = some (j, s) → (∃ o, l[r.idx]? = some o ∧ ∃ e ∈ o.after, Region.binds .any e = true ∧ e.on = j) ∧ ∀ i o, l[i]? = some o → o.dst = some s → i = j := by
    intro p r j s hp hpr
    have := List.all_eq_true.1 h3 r.key (List.mem_map_of_mem (List.mem_of_getElem? hp))
    simp only [RE.key, hpr, Bool.and_eq_true] at this
    obtain ⟨k1, k2⟩ := this
    refine ⟨?_, fun i o hi hd => ?_⟩
    · split at k1
      · rename_i o ho
        rw [Array.any_eq_true'] at k1
        obtain ⟨e, he, hb⟩ := k1
        simp only [Bool.and_eq_true, decide_eq_true_eq] at hb
        exact ⟨o, ho, e, he, hb.1, hb.2⟩
      · cases k1
    · have := List.all_eq_true.1 k2 i (List.mem_range.2 (List.getElem?_eq_some_iff.1 hi).1)
      rw [hi] at this
      simp only [Bool.or_eq_true, decide_eq_true_eq] at this
      rcases this with h | h
      · exact absurd hd h
      · exact h
  refine ⟨⟨fun p r p' r' i hp hp' hm hm' => nd_flat h1 p r.key p' r'.key i (at_ p r hp) (at_ p' r' hp') (r.all_key ▸ hm) (r'.all_key ▸ hm'), fun p r j s hp hpr he => ?_, fun p r j s hp hpr => ?_, fun p r j s hp hpr i o hi hd => (h4 p r j s hp hpr).2 i o (by simpa using hi) hd⟩, fun r hr i hi => (hin r hr i hi).1, fun e he r hr hm => (hin r hr e hm).2 he⟩
  · have := nd_in h1 r.key (List.mem_of_getElem? (at_ p r hp))
    rw [← r.all_key] at this
    unfold RE.all at this
    simp [hpr] at this
    exact this he
  · obtain ⟨o, ho, he⟩ := (h4 p r j s hp hpr).1
    exact ⟨o, by simpa using ho, he⟩
theorem reOb_blank {m : Nat} (r : RE) : reOb (Array.replicate m false) r = ⟨r.t, 0, []⟩ := by
  unfold reOb
  rw [getD_replicate_false]
  simp only [Bool.false_eq_true, if_false]
  split
  · rw [getD_replicate_false]; rfl
  · rfl
theorem resU_full {rs : ResU} {listed : Array Bool} (h : ∀ r ∈ rs, listed.getD r.idx false = true) : resU rs listed = fullU rs := by
  unfold resU fullU
  refine List.map_congr_left fun r hr => ?_
  unfold reOb
  rw [if_pos (h r hr)]
section
variable {P : Program} {C : Ctx} {k : List Item} {R : Act → World → Prop} {env : Env} {σ : List Ob}
structure RunsU (P : Program) (C : Ctx) (ops : Array Oper) (rs : ResU) (tail : List Oper) (l : List (Nat × Oper)) (k : List Item) (R : Act → World → Prop) (S : St) : Prop where
  run : wpLexV P C ops S.σ rs (fun E => ∃ env', E = look env' ∧ RunsL P C ops tail k R ⟨env', S.σ ++ fullU rs⟩) l (look S.env)
theorem Runs.drawV {id : Nat} {l : List Oper} {cn : Nat} {keys : List (Nat × Option (Nat × Nat))} (pri head : List Nat) (n : Nat) (rs : ResU) (hf : P.follows .mixedOrders = true) (hn : C.n = cn) (hB : drawQB l pri head n = true) (hd : dstOk cn l = true)
    (hk : rs.map RE.key = keys) (hwf : wfB l pri n keys = true)
    (h : RunsU P C l.toArray rs (l.drop n) (pick l head) k R ⟨env, σ⟩) : Runs P C (.code (.region id l.toArray true) :: k) R ⟨env, σ⟩ := by
  refine ⟨fun a w hs => Fin.of_wp (wp_region_any hf ?_)⟩
  unfold drawQB at hB
  simp only [Bool.and_eq_true, decide_eq_true_eq] at hB
  obtain ⟨⟨⟨⟨⟨⟨hsel, hnl⟩, hsk⟩, hch⟩, hlen⟩, hpr⟩, hlex⟩ := hB
  obtain ⟨hw, hin, hpm⟩ := wf_of (l := l) (pri := pri) (n := n) hk hwf
  have hpri : ∀ e ∈ pri, freeAll .any l.toArray e = true := fun e he => by have := List.all_eq_true.1 hpr e he; simp only [Bool.and_eq_true] at this; exact this.2
  have hpn : ∀ e ∈ pri, e < n := fun e he => by have := List.all_eq_true.1 hpr e he; simp only [Bool.and_eq_true, decide_eq_true_eq] at this; exact this.1
  obtain ⟨s1, s2, φ, hG, hE⟩ := hs
  have hb : Below w.heap.size w { w with drawn := w.drawn + 1 } := ⟨rfl, rfl, rfl, Nat.le_refl _, fun _ _ => rfl⟩
  obtain ⟨g1, g2⟩ := good_below hG hb
  let φ0 : Nat → Option Nat := fun i => if i < σ.length then φ i else none
  have hφ0 : ∀ j, φ0 (σ.length + j) = none := fun j => if_neg (by omega)
  have hblank : ∀ (j : Nat) r, rs[j]? = some r → (resU rs (Array.replicate l.length false))[j]? = some ⟨r.t, 0, []⟩ := fun j r hj => by unfold resU; rw [List.getElem?_map, hj]; simp only [Option.map_some, reOb_blank]
  obtain ⟨G1, G2⟩ := good_grow (φ' := φ0) (new := resU rs (Array.replicate l.length false)) g1 (Below.refl _ _) (fun i hi => if_pos hi) (fun j hj g hg => by rw [hφ0] at hg; cases hg) (fun i j g hi hj e1 e2 => by rw [hφ0] at e1; cases e1) (fun j o hj => by
    rw [hφ0]
    unfold resU at hj
    rw [List.getElem?_map, Option.map_eq_some_iff] at hj
    obtain ⟨r, _, rfl⟩ := hj
    rw [reOb_blank]; rfl)
  have hE1 : ∀ t, AV.rel ⟨{ w with drawn := w.drawn + 1 }, φ0, σ ++ resU rs (Array.replicate l.length false), C.ok⟩ (look env t) (a.tmps.getD t undef) := fun t => AV.rel_keeps G2 _ _ (AV.only_true _) (AV.rel_keeps g2 _ _ (AV.only_true _) (hE t))
  have hplace : ∀ (p : Nat) r, rs[p]? = some r → (σ ++ resU rs (Array.replicate l.length false))[σ.length + p]? = some ⟨r.t, 0, []⟩ := fun p r hp => by
    rw [List.getElem?_append_right (by omega), show σ.length + p - σ.length = p by omega]
    exact hblank p r hp
  have hdd : ∀ (i : Nat) o t, l.toArray[i]? = some o → o.dst = some t → t < C.n := fun i o t hi ht => by rw [hn]; exact dstOk_at hd i o t (by simpa using hi) ht
  have inv0 : HeadInv .any l.toArray n (Array.replicate l.length false) :=
    ⟨by simp, fun j oj _ hl => (by rw [getD_replicate_false] at hl; cases hl), fun t _ ht => getD_in (by simpa using ht) (getD_replicate_false _ _)⟩
  have hmemH : ∀ p ∈ pick l head, l.toArray[p.1]? = some p.2 := fun p hp => by simpa using pick_mem hp
  have hsz : l.toArray.size = (pick l head).length + (l.length - n) := by simp; omega
  refine (show ∀ m, m = l.toArray.size → wpAny P .any l.toArray (nrm (Fin P k R)) m (Array.replicate l.toArray.size false) a { w with drawn := w.drawn + 1 } from ?_) _ rfl
  intro m hm
  obtain rfl := hm.trans hsz
  have H := wpAnyV_lex (P := P) (C := C) (σ := σ) (md := .any) (ops := l.toArray) (g := l.length - n) hpri hpn hsk hch (by simpa using hnl) (pick l head) (Array.replicate l.toArray.size false) (look env) hmemH (by simpa using inv0) (by simpa using hlex) h.run
  have hS0 : SimU C σ rs (Array.replicate l.length false) (look env) a { w with drawn := w.drawn + 1 } := by
    refine ⟨s1, s2, fun p r hp i hi => ?_, fun p r j s hp hpr hl => ?_, fun p r hp hpr o ho => ?_, fun p r hp hpr hl t => ?_, φ0, G1, ⟨fun p r hp hl => ⟨fun j s hpr hj => ?_, fun _ => hφ0 p⟩⟩, hE1⟩
    · have := hin r (List.mem_of_getElem? hp) i hi
      simp only [Array.size_replicate]; omega
    · rw [getD_replicate_false] at hl; cases hl
    · obtain ⟨i, hi⟩ := List.getElem?_of_mem ho
      have hil := (List.getElem?_eq_some_iff.1 hi).1
      have hob := G1.ob i o (by rw [show (⟨{ w with drawn := w.drawn + 1 }, φ0, σ ++ resU rs (Array.replicate l.length false), C.ok⟩ : Mem).σ = σ ++ resU rs (Array.replicate l.length false) from rfl, List.getElem?_append_left hil]; exact hi)
      refine onlys_at fun j v hj => ?_
      cases hg : φ0 i with
      | none => simp only [hg, ObRel] at hob; rw [hob] at hj; simp at hj
      | some g =>
        simp only [hg, ObRel] at hob
        obtain ⟨us, _, _, q3⟩ := hob
        obtain ⟨x, _, _, k3⟩ := q3 j v hj
        exact only_place (hplace p r hp) (hφ0 p) v x k3
    · exact only_place (hplace p r hp) (hφ0 p) _ _ (hE1 t)
    · rw [getD_replicate_false] at hj; cases hj
  refine wpAny_of_V hpri (Region.noSelect_spec hsel) hw hpm hdd (fun listed' E' a'' w'' hL hS => ?_) _ _ (look env) a _ (by simpa using hS0) H
  obtain ⟨hsq, hall, env'', rfl, hR⟩ := hL
  have hfl := resU_full (rs := rs) (listed := listed') fun r hr => hall r.idx (hin r hr _ r.mem_idx)
  obtain ⟨u1, u2, _, _, _, _, φ', G', _, hE''⟩ := hS
  rw [hfl] at G' hE''
  have := wpAny_of_seq (md := .any) (Q' := nrm (Fin P k R)) (l.drop n) n listed' a'' w'' (fun j => by simp [List.getElem?_drop]) (by rw [List.length_drop]; exact hsq) (hR.run a'' w'' ⟨u1, u2, φ', G', hE''⟩)
  rwa [List.length_drop] at this
theorem Runs.toDrawV {id : Nat} {l : List Oper} {k' : List Item} {cn : Nat} {keys : List (Nat × Option (Nat × Nat))} (m : Nat) (pri head : List Nat) (n : Nat) (rs : ResU) (hf : P.follows .mixedOrders = true) (hn : C.n = cn) (hc : Proofs.Ytnecoghfhcimeaa.ctls m k = .code (.region id l.toArray true) :: k') (hB : drawQB l pri head n = true) (hd : dstOk cn l = true)
    (hk : rs.map RE.key = keys) (hwf : wfB l pri n keys = true)
    (h : RunsU P C l.toArray rs (l.drop n) (pick l head) k' R ⟨env, σ⟩) : Runs P C k R ⟨env, σ⟩ := Runs.ctls m hc (Runs.drawV pri head n rs hf hn hB hd hk hwf h)
variable {ops : Array Oper} {rs : ResU} {tail : List Oper} {rest : List (Nat × Oper)} {i t : Nat} {o : Oper}
theorem RunsU.nil (h : RunsL P C ops tail k R ⟨env, σ ++ fullU rs⟩) : RunsU P C ops rs tail [] k R ⟨env, σ⟩ := ⟨⟨env, rfl, h⟩⟩
theorem RunsU.pur {v : AV} (h : ∀ more, Pur P C o env (σ ++ more) v) (hi : ((rs.map RE.key).flatMap keyAll).contains i = false) (hs : staged rs σ.length o v) (hg : gsay ops env o.guard = some true) (hd : o.dst = some t) (hk : RunsU P C ops rs tail rest k R ⟨(t, v) :: env, σ⟩) : RunsU P C ops rs tail ((i, o) :: rest) k R ⟨env, σ⟩ := by
  refine ⟨v, .inl ⟨fun r hr hm => ?_, hs, .inl ⟨hg, fun more => (h more).toF⟩⟩, ?_⟩
  · have : i ∈ (rs.map RE.key).flatMap keyAll := List.mem_flatMap.2 ⟨r.key, List.mem_map_of_mem hr, r.all_key ▸ hm⟩
    rw [← List.contains_iff_mem] at this
    rw [this] at hi; cases hi
  · rw [hd, show (⟨env, σ⟩ : St).env = env from rfl, ← look_putE]
    exact hk.run
theorem RunsU.step {T : Tab} (hT : TabOk P T) {v : AV} (hd : o.dst = some t) (hg : gsay ops env o.guard = some true) (h : ∀ more, aop T env (σ ++ more) o.op = some v) (hi : ((rs.map RE.key).flatMap keyAll).contains i = false) (hs : staged rs σ.length o v) (hk : RunsU P C ops rs tail rest k R ⟨(t, v) :: env, σ⟩) : RunsU P C ops rs tail ((i, o) :: rest) k R ⟨env, σ⟩ := by
  obtain ⟨dst, op, ty, pos, after, g⟩ := o
  simp only at hd; subst hd
  exact RunsU.pur (fun more => pu_auto hT (h more)) hi hs hg rfl hk
theorem RunsU.made {p : Nat} {r : RE} {v : AV} (hr : rs[p]? = some r) (hi : r.idx = i) (hp : r.pre = none) (hg : o.guard = none) (hd : o.dst = some t) (hm : MkN P C o (look env) r.ob (σ.length + p) v) (hk : RunsU P C ops rs tail rest k R ⟨(t, v) :: env, σ⟩) : RunsU P C ops rs tail ((i, o) :: rest) k R ⟨env, σ⟩ := by
  refine ⟨v, .inr (.inl ⟨p, r, hr, hi, hp, hg, by rw [hd]; rfl, hm⟩), ?_⟩
  rw [hd, show (⟨env, σ⟩ : St).env = env from rfl, ← look_putE]
  exact hk.run
theorem RunsU.lay {p : Nat} {r : RE} (hr : rs[p]? = some r) (hp : r.pre = some (i, t)) (hg : o.guard = none) (hd : o.dst = some t) (hm : MkN P C o (look env) ⟨r.t, r.sz, []⟩ (σ.length + p) (.own (σ.length + p))) (hk : RunsU P C ops rs tail rest k R ⟨(t, .junk) :: env, σ⟩) : RunsU P C ops rs tail ((i, o) :: rest) k R ⟨env, σ⟩ := by
  refine ⟨.junk, .inr (.inr (.inl ⟨p, r, t, hr, hp, hg, hd, hm, rfl⟩)), ?_⟩
  rw [hd, show (⟨env, σ⟩ : St).env = env from rfl, ← look_putE]
  exact hk.run
theorem RunsU.gro {p j s : Nat} {r : RE} (hr : rs[p]? = some r) (hi : r.idx = i) (hp : r.pre = some (j, s)) (hg : o.guard = none) (hd : o.dst = some t) (hm : MkQ P C o (look env) r s (σ.length + p)) (hk : RunsU P C ops rs tail rest k R ⟨(t, .own (σ.length + p)) :: env, σ⟩) : RunsU P C ops rs tail ((i, o) :: rest) k R ⟨env, σ⟩ := by
  refine ⟨.own (σ.length + p), .inr (.inr (.inr ⟨p, r, j, s, hr, hi, hp, hg, by rw [hd]; rfl, hm, rfl⟩)), ?_⟩
  rw [hd, show (⟨env, σ⟩ : St).env = env from rfl, ← look_putE]
  exact hk.run
variable {E : EE} {q : Nat} {ty : TypeId} {pos : String} {after : Array Edge}
theorem mk_alloc {e : TypeId} {zs : List Value} (hz : TZ P e zs) : MkN P C ⟨some t, .alloc e, ty, pos, after, none⟩ E ⟨e, 0, (zs.map RV.c).map .ro⟩ q (.obj q 0) := by
  refine ⟨.inr rfl, fun a w φ σ hG hq hφ _ K Q hK => ?_⟩
  have hql : q < σ.length := (List.getElem?_eq_some_iff.1 hq).1
  obtain ⟨inf, z, h1, h2, h3, h4⟩ := hz.h
  unfold Oper.wp
  have hrun : (execOp a.eval ⟨some t, .alloc e, ty, pos, after, none⟩).run P w = .ok (.value (.pointer (some ⟨w.heap.size, 0, none⟩))) (w.alloc (.cells zs.toArray e)) := by
    simp [execOp, Instr.alloc, zeroValue, typeInfo, h1, h2, newVar, newRow, newObj, h3]; rfl
  rw [hrun]
  simp only [Oper.upon]
  refine hK _ _ w.heap.size (below_one w _) (Nat.le_refl _) ?_ ?_
  · simp only [ObRel]
    refine ⟨zs.toArray, heap_alloc_new w _, by simp, fun j v hj => ?_⟩
    rw [List.getElem?_map, List.getElem?_map, Option.map_eq_some_iff] at hj
    obtain ⟨y, hy, rfl⟩ := hj
    rw [Option.map_eq_some_iff] at hy
    obtain ⟨x, hx, rfl⟩ := hy
    exact ⟨x, by simpa using hx, h4 x (List.mem_of_getElem? hx), by simp [AV.rel, RV.rel]⟩
  · simp only [AV.rel]
    exact ⟨by simpa using hql, w.heap.size, upd_eq, rfl⟩
theorem mk_build0 {tt e : TypeId} {z : Value} {sz bytes : Nat} [hs : SL P tt e z sz bytes] : MkN P C ⟨some t, .buildSlice tt 0 #[], ty, pos, after, none⟩ E ⟨e, sz, []⟩ q (.own q) := by
  refine ⟨.inl rfl, fun a w φ σ hG hq hφ _ K Q hK => ?_⟩
  have hql : q < σ.length := (List.getElem?_eq_some_iff.1 hq).1
  unfold Oper.wp
  have hrun : (execOp a.eval ⟨some t, .buildSlice tt 0 #[], ty, pos, after, none⟩).run P w = .ok (.value (.slice (some ⟨w.heap.size, 0, none⟩) 0 0)) (w.alloc (.cells #[] e)) := by
    simp only [execOp, Sem.run_bind]; rw [show (#[] : Array (Nat × Operand)).map (fun p => (p.1, a.eval p.2)) = #[] from by simp, run_build0 (P := P) (tt := tt) w]; rfl
  rw [hrun]
  simp only [Oper.upon]
  refine hK _ _ w.heap.size (below_one w _) (Nat.le_refl _) ?_ ?_
  · simp only [ObRel]
    exact ⟨#[], heap_alloc_new w _, by simp, fun j v hj => by simp at hj⟩
  · simp only [AV.rel]
    exact ⟨⟨e, sz, []⟩, 0, List.getElem?_set_self hql, by simp, hs.el.hs, .inr ⟨w.heap.size, 0, _, upd_eq, rfl, heap_alloc_new w _, Nat.le_refl _, Nat.zero_le _, by simp⟩⟩
theorem mk_append {tt e : TypeId} {z : Value} {sz bytes s j : Nat} {els : List (List RV)} {y : Operand} {i : Nat} [hs : SL P tt e z sz bytes] (hy : evE E y = .ro (.seq sz els)) (b1 : els.length ≤ 140737488355328) (b2 : els.length * bytes ≤ 140737488355328) :
    MkQ P C ⟨some t, .call { callee := .builtin .append, args := #[.tmp s, y], argTypes := #[tt, tt] }, ty, pos, after, none⟩ E ⟨i, some (j, s), e, sz, els.flatten⟩ s q := by
  intro a w φ σ hG hq hown hfree hH K Q hK
  obtain ⟨A, n0, c, xs, hu, hl, hsz, hrow, hblk, hcell⟩ := own_row hG hq hown
  simp only [List.length_nil] at hl
  have hn0 : n0 = 0 := by
    rcases Nat.mul_eq_zero.1 hl.symm with h | h
    · exact h
    · have h' : sz = 0 := h
      have hsz' : 0 < sz := hsz
      omega
  subst hn0
  have hyr := hH y (by simp [Op.operands, Call.operands])
  rw [hy] at hyr
  simp only [AV.rel] at hyr
  obtain ⟨B, m, d, hv⟩ : ∃ B m d, a.eval y = .slice B m d := by simp only [RV.rel] at hyr; obtain ⟨B, m, d, e, _⟩ := hyr; exact ⟨B, m, d, e⟩
  rw [hv] at hyr
  obtain ⟨hm, ys, hRd, hy1, hyl, hyr'⟩ := seq_rd hyr
  subst hm
  rw [hu] at hrow
  simp only at hrow hsz
  obtain ⟨A', c', w', hrun, happ⟩ := run_app (P := P) hs.el ty 0 A 0 c xs hrow B els.length d ys hRd hy1 (by unfold maxLen; omega) (by rw [Nat.zero_add]; exact b2) (Nat.zero_le _)
  have hflat : els.flatten.length = els.length * sz := by rw [← hyl]; exact hRd.1
  have hxl : xs.length = 0 := by rw [hrow.1]; omega
  rw [hu] at hblk
  have happg := happ.grown
  have hapl := happ.lies
  rw [hblk] at happg hapl
  obtain ⟨g1, g2, g3⟩ := good_append (rs := []) (news := els.flatten) (n' := 0 + els.length) hG hq rfl hfree hsz (by rw [List.nil_append, Nat.zero_add]; exact hflat) happ.own happg hapl (fun j r hj => by
    obtain ⟨x', e1, e3⟩ := hyr' j r (by simpa using hj)
    exact ⟨x', by rw [List.getElem?_append_right (by omega), hxl]; exact e1, hy1 x' (List.mem_of_getElem? e1), e3⟩)
  have hs' : a.eval (.tmp s) = .slice A 0 c := hu
  unfold Oper.wp execOp
  simp only [resolve, invoke, builtin, Sem.run_bind, Sem.run_pure, Result.andThen_ok, List.map_toArray, List.map_cons, List.map_nil, hs', hv, hrun, Oper.upon]
  exact hK _ _ _ g1 g2 g3
end
end Go.Proofs.Ytnecoghfhcimeaa
/- Small helpers of the laws. -/
namespace Go.Proofs.Ytnecoghfhcimeaa
set_option linter.unusedSimpArgs false
set_option linter.unusedVariables false
open Go.RowKit
open AV (Mem Keeps)
theorem big_ac (b : List UInt8) : ACv Try.prog 17 [bytesR b] (.bool (decide ((1048576 : Int) < b.length))) := by
  have hlb : (b.map fun z => [RV.u8 z]).length = b.length := List.length_map ..
  refine ac_enter Try.func17 rfl _ Try.ntmps17 (by simp) fun C hn hm => ?_
  repeat' (first
 | (refine RunsL.pe hn rfl rfl rfl ?_; first
 | refine ⟨_, pu_len_seqN b.length rfl hlb, ?_⟩)
 | refine RunsL.step tabOk hn rfl ?_
 | refine RunsL.nil ?_
 | refine Runs.toRegion 30 rfl ?_
 | (refine Runs.ctls 30 rfl ?_; first | ((first | refine Runs.cond_yes rfl ?_ ?_ | refine Runs.cond_nno rfl ?_ ?_); · first | omega | rfl | assumption | (simp only [List.length_map]; omega)) | ((first | refine Runs.cond_no rfl ?_ ?_ | refine Runs.cond_nyes rfl ?_ ?_); · first | omega | rfl | assumption | (simp only [List.length_map]; omega)) | refine Runs.ret (ends_ro hm rfl rfl ?_) | exact Runs.ret (ends_cellR hm rfl rfl rfl (Nat.le_of_ble_eq_true rfl) rfl rfl))
    )
  all_goals exact rr_bool rfl
def atB (b : List UInt8) (i : Nat) : Nat := if i < b.length then (b.getD i 0).toNat else (i * 31 + b.length * 7) % 256
theorem at_ac (b : List UInt8) (hb : b.length ≤ 1048576) (i : Nat) (hi : i ≤ 1000) : ACv Try.prog 52 [bytesR b, .int (i : Int)] (.int ((atB b i : Nat) : Int)) := by
  have hlb : (b.map fun z => [RV.u8 z]).length = b.length := List.length_map ..
  unfold atB
  refine ac_enter Try.func52 rfl _ Try.ntmps52 (by simp) fun C hn hm => ?_
  by_cases h : i < b.length
  · obtain ⟨c, hc⟩ : ∃ c, b[(i : Int).toNat]? = some c := ⟨_, List.getElem?_eq_getElem (by simpa using h)⟩
    have hc' : b[i]? = some c := hc
    rw [if_pos h, List.getD_eq_getElem?_getD, hc']
    repeat' (first
 | (refine RunsL.pe hn rfl rfl rfl ?_; first
 | refine ⟨_, pu_len_seqN b.length rfl hlb, ?_⟩)
 | refine RunsL.step tabOk hn rfl ?_
 | refine RunsL.nil ?_
 | refine Runs.toRegion 30 rfl ?_
 | (refine RunsL.pe hn rfl rfl rfl ?_; first
 | refine ⟨_, pu_ofU8 rfl, ?_⟩)
 | (refine Runs.ctls 30 rfl ?_; first | ((first | refine Runs.cond_yes rfl ?_ ?_ | refine Runs.cond_nno rfl ?_ ?_); · first | omega | rfl | assumption | (simp only [List.length_map]; omega)) | ((first | refine Runs.cond_no rfl ?_ ?_ | refine Runs.cond_nyes rfl ?_ ?_); · first | omega | rfl | assumption | (simp only [List.length_map]; omega)) | refine Runs.ret (ends_ro hm rfl rfl ?_) | exact Runs.ret (ends_cellR hm rfl rfl rfl (Nat.le_of_ble_eq_true rfl) rfl rfl))
 | (refine RunsL.pe hn rfl rfl rfl ?_; first
 | refine ⟨_, pu_add rfl rfl (by omega), ?_⟩
 | refine ⟨_, pu_indexAddr_map rfl rfl (by omega) (by assumption), ?_⟩
 | refine ⟨_, pu_mul rfl rfl (by omega), ?_⟩
        ))
    all_goals exact rr_int rfl
  · rw [if_neg h]
    repeat' (first
 | (refine RunsL.pe hn rfl rfl rfl ?_; first
 | refine ⟨_, pu_len_seqN b.length rfl hlb, ?_⟩)
 | refine RunsL.step tabOk hn rfl ?_
 | refine RunsL.nil ?_
 | refine Runs.toRegion 30 rfl ?_
 | (refine RunsL.pe hn rfl rfl rfl ?_; first
 | refine ⟨_, pu_rem rfl rfl (by omega), ?_⟩)
 | (refine Runs.ctls 30 rfl ?_; first | ((first | refine Runs.cond_yes rfl ?_ ?_ | refine Runs.cond_nno rfl ?_ ?_); · first | omega | rfl | assumption | (simp only [List.length_map]; omega)) | ((first | refine Runs.cond_no rfl ?_ ?_ | refine Runs.cond_nyes rfl ?_ ?_); · first | omega | rfl | assumption | (simp only [List.length_map]; omega)) | refine Runs.ret (ends_ro hm rfl rfl ?_) | exact Runs.ret (ends_cellR hm rfl rfl rfl (Nat.le_of_ble_eq_true rfl) rfl rfl))
 | (refine RunsL.pe hn rfl rfl rfl ?_; first
 | refine ⟨_, pu_add rfl rfl (by omega), ?_⟩
 | refine ⟨_, pu_indexAddr_map rfl rfl (by omega) (by assumption), ?_⟩
 | refine ⟨_, pu_mul rfl rfl (by omega), ?_⟩
        ))
    all_goals exact rr_int (by omega)
end Go.Proofs.Ytnecoghfhcimeaa
/- The verifier of one instruction. -/
namespace Go.Proofs.Ytnecoghfhcimeaa
set_option linter.unusedSimpArgs false
set_option linter.unusedVariables false
open Go.RowKit
set_option maxHeartbeats 4000000 in
theorem impl_IsSafeInstruction (p : Prg) (i : Int) (hi : I64 i) (hl : p.code.length ≤ maxLen) : ACv Try.prog 53 [prgR p, .int i] (.bool (decide (SafeI p i))) := by
  unfold maxLen at hl
  unfold I64 at hi
  refine ac_enter Try.func53 rfl _ Try.ntmps53 (by simp) fun C hn hm => ?_
  by_cases hx : Idx p i
  · have hx2 := hx
    unfold Idx at hx2
    obtain ⟨x, hx'⟩ : ∃ x, p.code[i.toNat]? = some x := ⟨_, List.getElem?_eq_getElem (by omega)⟩
    have hS := safeI_some hx'
    repeat' (first
 | refine RunsL.step tabOk hn rfl ?_
 | refine RunsL.nil ?_
 | refine Runs.toRegion 30 rfl ?_
 | (refine RunsL.pe hn rfl rfl rfl ?_; first
 | refine ⟨_, pu_callR (inRange_ac _ _ _) rfl, ?_⟩
 | refine ⟨_, pu_callR (isIndex_ac _ _) rfl, ?_⟩
 | refine ⟨_, pu_callR (goesOn_ac _) rfl, ?_⟩)
 | (refine Runs.ctls 30 rfl ?_; first | refine Runs.cond_t rfl ?_ | refine Runs.cond_f rfl ?_ | ((first | refine Runs.cond_yes rfl ?_ ?_ | refine Runs.cond_nno rfl ?_ ?_); · first | omega | rfl | assumption | (simp only [List.length_map]; omega)) | ((first | refine Runs.cond_no rfl ?_ ?_ | refine Runs.cond_nyes rfl ?_ ?_); · first | omega | rfl | assumption | (simp only [List.length_map]; omega)) | refine Runs.cond_dec rfl (fun h => ?_) (fun h => ?_) | refine Runs.cond_ndec rfl (fun h => ?_) (fun h => ?_) | refine Runs.ret (ends_ro hm rfl rfl ?_) | exact Runs.ret (ends_cellR hm rfl rfl rfl (Nat.le_of_ble_eq_true rfl) rfl rfl))
 | refine op_box rfl (tl hn rfl) ?_
 | refine op_alloc (tl hn rfl) ?_
 | refine op_storeN rfl rfl rfl rfl (Nat.le_of_ble_eq_true rfl) ?_
 | (refine RunsL.pe hn rfl rfl rfl ?_; first
 | refine ⟨_, pu_add rfl rfl (by omega), ?_⟩
 | refine ⟨_, pu_indexAddr_map rfl rfl (by omega) (by assumption), ?_⟩
        )
 | ((first | refine RunsL.guard_dec rfl rfl rfl ?_ ?_ | refine RunsL.guard_ndec rfl rfl rfl ?_ ?_ | refine RunsL.guard_nb rfl rfl rfl ?_ ?_ | refine RunsL.guard_b rfl rfl rfl ?_ ?_) <;> intro h <;> try (exfalso; first | omega | contradiction | (simp only [List.length_map] at h; omega))))
    all_goals exact rr_bool (by rw [Bool.eq_iff_iff]; simp only [decide_eq_true_eq, Bool.not_eq_true', decide_eq_false_iff_not, Bool.false_eq_true, true_iff, false_iff, Bool.and_eq_true, Bool.or_eq_true, Bool.not_eq_eq_eq_not, Bool.not_true, Bool.not_false, reduceCtorEq, eq_self, iff_true, iff_false, ne_eq]; simp only [hS, SafeX, OpOk, Idx, Goes, InR] at *; first | (simp [*]; done) | (simp [*]; omega) | omega)
  · have hS := safeI_out hx
    repeat' (first
 | refine RunsL.step tabOk hn rfl ?_
 | refine RunsL.nil ?_
 | refine Runs.toRegion 30 rfl ?_
 | (refine RunsL.pe hn rfl rfl rfl ?_; first
 | refine ⟨_, pu_callR (inRange_ac _ _ _) rfl, ?_⟩
 | refine ⟨_, pu_callR (isIndex_ac _ _) rfl, ?_⟩
 | refine ⟨_, pu_callR (goesOn_ac _) rfl, ?_⟩)
 | (refine Runs.ctls 30 rfl ?_; first | refine Runs.cond_t rfl ?_ | refine Runs.cond_f rfl ?_ | ((first | refine Runs.cond_yes rfl ?_ ?_ | refine Runs.cond_nno rfl ?_ ?_); · first | omega | rfl | assumption | (simp only [List.length_map]; omega)) | ((first | refine Runs.cond_no rfl ?_ ?_ | refine Runs.cond_nyes rfl ?_ ?_); · first | omega | rfl | assumption | (simp only [List.length_map]; omega)) | refine Runs.cond_dec rfl (fun h => ?_) (fun h => ?_) | refine Runs.cond_ndec rfl (fun h => ?_) (fun h => ?_) | refine Runs.ret (ends_ro hm rfl rfl ?_) | exact Runs.ret (ends_cellR hm rfl rfl rfl (Nat.le_of_ble_eq_true rfl) rfl rfl))
 | refine op_box rfl (tl hn rfl) ?_
 | refine op_alloc (tl hn rfl) ?_
 | refine op_storeN rfl rfl rfl rfl (Nat.le_of_ble_eq_true rfl) ?_
 | (refine RunsL.pe hn rfl rfl rfl ?_; first
 | refine ⟨_, pu_add rfl rfl (by omega), ?_⟩
 | refine ⟨_, pu_indexAddr_map rfl rfl (by omega) (by assumption), ?_⟩
        )
 | ((first | refine RunsL.guard_dec rfl rfl rfl ?_ ?_ | refine RunsL.guard_ndec rfl rfl rfl ?_ ?_ | refine RunsL.guard_nb rfl rfl rfl ?_ ?_ | refine RunsL.guard_b rfl rfl rfl ?_ ?_) <;> intro h <;> try (exfalso; first | omega | contradiction | (simp only [List.length_map] at h; omega))))
    all_goals rw [decide_eq_false (hS.1 ·)]
set_option maxHeartbeats 4000000 in
theorem spec_IsSafeInstruction (p : Prg) (i : Int) (hi : I64 i) (hl : p.code.length ≤ maxLen) : ACv Try.prog 109 [prgR p, .int i] (.bool (decide (SafeI p i))) := by
  have hlm : (p.code.map insR).length = p.code.length := List.length_map ..
  unfold maxLen at hl
  unfold I64 at hi
  refine ac_enter Try.func109 rfl _ Try.ntmps109 (by simp) fun C hn hm => ?_
  by_cases hx : Idx p i
  · have hx2 := hx
    unfold Idx at hx2
    obtain ⟨x, hx'⟩ : ∃ x, p.code[i.toNat]? = some x := ⟨_, List.getElem?_eq_getElem (by omega)⟩
    have hS := safeI_some hx'
    repeat' (first
 | refine RunsL.step tabOk hn rfl ?_
 | refine RunsL.nil ?_
 | refine Runs.toRegion 30 rfl ?_
 | (refine RunsL.pe hn rfl rfl rfl ?_; first
 | refine ⟨_, pu_callR (l1In_ac _ _ _) rfl, ?_⟩
 | refine ⟨_, pu_callR (l16Op_ac _ [7, 8, 9, 13] (by decide)) rfl, ?_⟩
 | refine ⟨_, pu_callR (l16Op_ac _ [8, 10, 12, 17] (by decide)) rfl, ?_⟩
 | refine ⟨_, pu_callR (l16Operands_ac x) rfl, ?_⟩)
 | (refine Runs.ctls 30 rfl ?_; first | refine Runs.cond_f rfl ?_ | ((first | refine Runs.cond_yes rfl ?_ ?_ | refine Runs.cond_nno rfl ?_ ?_); · first | omega | rfl | assumption | (simp only [List.length_map]; omega)) | ((first | refine Runs.cond_no rfl ?_ ?_ | refine Runs.cond_nyes rfl ?_ ?_); · first | omega | rfl | assumption | (simp only [List.length_map]; omega)) | refine Runs.cond_dec rfl (fun h => ?_) (fun h => ?_) | refine Runs.cond_ndec rfl (fun h => ?_) (fun h => ?_) | refine Runs.ret (ends_ro hm rfl rfl ?_) | exact Runs.ret (ends_cellR hm rfl rfl rfl (Nat.le_of_ble_eq_true rfl) rfl rfl))
 | refine op_box rfl (tl hn rfl) ?_
 | refine op_alloc (tl hn rfl) ?_
 | refine op_storeN rfl rfl rfl rfl (Nat.le_of_ble_eq_true rfl) ?_
 | (refine RunsL.pe hn rfl rfl rfl ?_; first
 | refine ⟨_, pu_indexAddr_map rfl rfl (by omega) (by assumption), ?_⟩
 | refine ⟨_, pu_sub rfl rfl (by omega), ?_⟩
 | refine ⟨_, pu_build rfl rfl rfl rfl rfl rfl, ?_⟩)
 | ((first | refine RunsL.guard_dec rfl rfl rfl ?_ ?_ | refine RunsL.guard_ndec rfl rfl rfl ?_ ?_ | refine RunsL.guard_nb rfl rfl rfl ?_ ?_ | refine RunsL.guard_b rfl rfl rfl ?_ ?_) <;> intro h <;> try (exfalso; first | omega | contradiction | (simp only [List.length_map] at h; omega))))
    all_goals exact rr_bool (by rw [Bool.eq_iff_iff]; simp only [decide_eq_true_eq, Bool.not_eq_true', decide_eq_false_iff_not, Bool.false_eq_true, true_iff, false_iff, Bool.and_eq_true, Bool.or_eq_true, Bool.not_eq_eq_eq_not, Bool.not_true, Bool.not_false, reduceCtorEq, eq_self, iff_true, iff_false, ne_eq]; simp only [hS, SafeX, OpOk, Idx, Goes, InR, List.mem_cons, List.not_mem_nil, or_false] at *; first | (simp [*]; done) | (simp [*]; omega) | omega)
  · have hS := safeI_out hx
    repeat' (first
 | refine RunsL.step tabOk hn rfl ?_
 | refine RunsL.nil ?_
 | refine Runs.toRegion 30 rfl ?_
 | (refine RunsL.pe hn rfl rfl rfl ?_; first
 | refine ⟨_, pu_callR (l1In_ac _ _ _) rfl, ?_⟩
 | refine ⟨_, pu_callR (l16Op_ac _ [7, 8, 9, 13] (by decide)) rfl, ?_⟩
 | refine ⟨_, pu_callR (l16Op_ac _ [8, 10, 12, 17] (by decide)) rfl, ?_⟩)
 | (refine Runs.ctls 30 rfl ?_; first | refine Runs.cond_f rfl ?_ | ((first | refine Runs.cond_yes rfl ?_ ?_ | refine Runs.cond_nno rfl ?_ ?_); · first | omega | rfl | assumption | (simp only [List.length_map]; omega)) | ((first | refine Runs.cond_no rfl ?_ ?_ | refine Runs.cond_nyes rfl ?_ ?_); · first | omega | rfl | assumption | (simp only [List.length_map]; omega)) | refine Runs.cond_dec rfl (fun h => ?_) (fun h => ?_) | refine Runs.cond_ndec rfl (fun h => ?_) (fun h => ?_) | refine Runs.ret (ends_ro hm rfl rfl ?_) | exact Runs.ret (ends_cellR hm rfl rfl rfl (Nat.le_of_ble_eq_true rfl) rfl rfl))
 | refine op_box rfl (tl hn rfl) ?_
 | refine op_alloc (tl hn rfl) ?_
 | refine op_storeN rfl rfl rfl rfl (Nat.le_of_ble_eq_true rfl) ?_
 | (refine RunsL.pe hn rfl rfl rfl ?_; first
 | refine ⟨_, pu_indexAddr_map rfl rfl (by omega) (by assumption), ?_⟩
 | refine ⟨_, pu_sub rfl rfl (by omega), ?_⟩
 | refine ⟨_, pu_build rfl rfl rfl rfl rfl rfl, ?_⟩)
 | ((first | refine RunsL.guard_dec rfl rfl rfl ?_ ?_ | refine RunsL.guard_ndec rfl rfl rfl ?_ ?_ | refine RunsL.guard_nb rfl rfl rfl ?_ ?_ | refine RunsL.guard_b rfl rfl rfl ?_ ?_) <;> intro h <;> try (exfalso; first | omega | contradiction | (simp only [List.length_map] at h; omega))))
    all_goals rw [decide_eq_false (hS.1 ·)]
end Go.Proofs.Ytnecoghfhcimeaa
/- The verifier of programs: places, loops, marks: both sides. -/
namespace Go.Proofs.Ytnecoghfhcimeaa
set_option linter.unusedSimpArgs false
set_option linter.unusedVariables false
open Go.RowKit
open AV (Mem Keeps)
def ACA (P : Program) (f : FuncId) (args : List AV) (R : RR → Prop) : Prop :=
  ∀ (w : World) (ok : Nat → Prop) (us : Array Value), (∀ b, w.heap.size ≤ b → ok b) → AV.rels ⟨w, fun _ => none, [], ok⟩ args us.toList →
    Calls P f us w fun e w' => ∃ u rr bs, e = .returned u ∧ R rr ∧ RR.rel w' (fun b => ok b ∧ b ∉ bs) rr u bs ∧ bs.Nodup ∧ (∀ b ∈ bs, w.heap.size ≤ b ∧ b < w'.heap.size) ∧ Below w.heap.size w w'
def startEnvQ : Nat → List AV → Env
  | _, [] => []
  | t, r :: rs => (t, r) :: startEnvQ (t + 1) rs
theorem startQ_look : ∀ (rs : List AV) (t k : Nat), look (startEnvQ t rs) k = if t ≤ k then (match rs[k - t]? with | some r => r | none => .junk) else .junk
  | [], t, k => by simp [startEnvQ, look]
  | r :: rs, t, k => by
    rw [startEnvQ, look_put, startQ_look rs (t + 1) k]
    by_cases h : t = k
    · subst h; simp
    · rw [if_neg h]
      by_cases h2 : t + 1 ≤ k
      · have e : k - t = (k - (t + 1)) + 1 := by omega
        rw [if_pos h2, if_pos (by omega : t ≤ k), e, List.getElem?_cons_succ]
      · rw [if_neg h2]
        split
        · omega
        · rfl
theorem aca_enter {P : Program} {f : FuncId} {fn : Func} {c : Code} {args : List AV} {R : RR → Prop} (hf : P.funcs[f]? = some fn) (hb : fn.body = some c) (n : Nat) (hn : fn.ntmps = n) (hl : args.length ≤ n)
    (h : ∀ C : Ctx, C.n = n → (∀ b, ¬ C.mu b) → Runs P C [.code c] (Ends P C fn R) ⟨startEnvQ 0 args, []⟩) : ACA P f args R := by
  intro w ok us h0 hu
  have hlen := AV.rels_len args _ hu
  refine calls_of_fin hf hb ?_
  have hs : Sim ⟨w, ok, fun _ => False, n⟩ ⟨startEnvQ 0 args, []⟩ { tmps := us ++ Array.replicate (fn.ntmps - us.size) undef, defers := [] } w := by
    refine ⟨rfl, by simp at hlen ⊢; omega, fun _ => none, ⟨rfl, fun i j g hi => by simp at hi, fun i o hi => by simp at hi, fun i g hi => by simp at hi, ⟨rfl, rfl, rfl, Nat.le_refl _, fun _ _ _ => rfl, h0⟩⟩, fun t => ?_⟩
    rw [startQ_look]
    simp only [Nat.zero_le, if_true, Nat.sub_zero]
    cases hr : args[t]? with
    | none => simp [AV.rel]
    | some r =>
      obtain ⟨u, e1, e2⟩ := AV.rels_at args _ hu t r hr
      have ht : t < us.size := by have := (List.getElem?_eq_some_iff.1 e1).1; simpa using this
      have : (us ++ Array.replicate (fn.ntmps - us.size) undef).getD t undef = u := by
        rw [Array.getD_eq_getD_getElem?, Array.getElem?_append_left ht]
        have : us[t]? = some u := by simpa using e1
        simp [this]
      simp only
      rw [this]
      exact e2
  have hr := (h ⟨w, ok, fun _ => False, n⟩ rfl (fun _ h => h)).run _ w hs
  intro b cs
  obtain ⟨a', w', todo, ⟨hd, v, hv, rr, bs, h1, h2, h3, h4, h5⟩, hst⟩ := hr b cs
  exact ⟨a', w', todo, ⟨hd, v, hv, v, rr, bs, rfl, h1, h2, h3, h4, h5⟩, hst⟩
def LendsA (C : Ctx) (σ : List Ob) (v v' : AV) : Prop := ∀ (m : Mem) (u : Value) (ok' : Nat → Prop), Good C m → m.σ = σ → (∀ b, m.ok b → ok' b) → (∀ (i g : Nat), i < σ.length → m.φ i = some g → ok' g) → AV.rel m v u → AV.rel ⟨m.w, fun _ => none, [], ok'⟩ v' u
inductive LendsAL (C : Ctx) (σ : List Ob) : List AV → List AV → Prop
  | nil : LendsAL C σ [] []
  | cons {v v' : AV} {vs vs' : List AV} : LendsA C σ v v' → LendsAL C σ vs vs' → LendsAL C σ (v :: vs) (v' :: vs')
section
variable {P : Program} {C : Ctx} {σ : List Ob}
theorem LendsA.of {v : AV} {r : RV} (h : Lends C σ v r) : LendsA C σ v (.ro r) := fun m u ok' hG hσ k1 k2 hu => by
  simp only [AV.rel]
  exact RV.rel_mono ⟨Nat.le_refl _, fun b _ hb => ⟨⟨hb, fun i hi => by simp at hi⟩, rfl⟩⟩ r u (h m u ok' hG hσ k1 k2 hu)
theorem LendsAL.rels {m : Mem} {ok' : Nat → Prop} (hG : Good C m) (hσ : m.σ = σ) (k1 : ∀ b, m.ok b → ok' b) (k2 : ∀ (i g : Nat), i < σ.length → m.φ i = some g → ok' g) {vs rs : List AV} (h : LendsAL C σ vs rs) : ∀ us, AV.rels m vs us → AV.rels ⟨m.w, fun _ => none, [], ok'⟩ rs us := by
  induction h with
  | nil => intro us hu; simpa [AV.rels] using hu
  | cons h1 _ ih =>
    intro us hu
    simp only [AV.rels] at hu ⊢
    obtain ⟨u, us', rfl, k3, k4⟩ := hu
    exact ⟨u, us', rfl, h1 m u ok' hG hσ k1 k2 k3, ih us' k4⟩
theorem LendsA.fn {f : Fn} {a b a' b' : List AV} (ha : LendsAL C σ a a') (hb : LendsAL C σ b b') : LendsA C σ (.fn f a b) (.fn f a' b') := fun m u ok' hG hσ k1 k2 hu => by
  simp only [AV.rel] at hu ⊢
  obtain ⟨us, vs, e, h1, h2⟩ := hu
  exact ⟨us, vs, e, ha.rels hG hσ k1 k2 _ h1, hb.rels hG hσ k1 k2 _ h2⟩
variable {env : Env} {t : Nat} {ty : TypeId} {pos : String} {after : Array Edge} {gd : Option (Nat × Bool)}
theorem pu_callA {f : FuncId} {fn : Func} {xs : Array Operand} {ats : Array TypeId} {args : List AV} {v : Value} [hfn : FN P f fn] (hf : ACA P f args fun rr => rr = .ro (.c v)) (ha : LendsAL C σ (xs.toList.map (ev env)) args) :
    Pur P C ⟨some t, .call { callee := .value (.func f), args := xs, argTypes := ats }, ty, pos, after, gd⟩ env σ (.ro (.c v)) := by
  refine ⟨fun a m hG hσ hH K Q hK => ?_⟩
  have hr := LendsAL.rels (ok' := fun _ => True) hG hσ (fun _ _ => trivial) (fun _ _ _ _ => trivial) ha _ (rels_eval (a := a) (m := m) xs.toList fun x hx => hH x (by simp [Op.operands, Call.operands]; exact .inr (by simpa using hx)))
  unfold Oper.wp
  rw [execOp_call_go, run_call hfn]
  simp only [Oper.upon]
  refine (hf m.w (fun _ => True) _ (fun _ _ => trivial) (by simpa using hr)).mono ?_
  rintro e w' ⟨u, rr, bs, rfl, rfl, h1, _, _, h4⟩
  simp only [RR.rel, RV.rel] at h1
  refine hK u w' h4 ?_
  simp only [AV.rel, RV.rel]
  exact h1.1
end
def opA (p : Prg) (i : Int) : Int := if 0 ≤ i then (match p.code[i.toNat]? with | some x => x.op | none => 0) else 0
def aA (p : Prg) (i : Int) : Int := if 0 ≤ i then (match p.code[i.toNat]? with | some x => x.a | none => 0) else 0
theorem opA_at {p : Prg} {i : Int} {x : Ins} (h0 : 0 ≤ i) (h : p.code[i.toNat]? = some x) : opA p i = x.op := by unfold opA; rw [if_pos h0, h]
theorem aA_at {p : Prg} {i : Int} {x : Ins} (h0 : 0 ≤ i) (h : p.code[i.toNat]? = some x) : aA p i = x.a := by unfold aA; rw [if_pos h0, h]
theorem opA_out {p : Prg} {i : Int} (h : ¬ Idx p i) : opA p i = 0 := by
  unfold opA
  split
  · split
    · rename_i x hx; have := (List.getElem?_eq_some_iff.1 hx).1; omega
    · rfl
  · rfl
theorem opA_in {p : Prg} {i : Int} (h : opA p i ≠ 0) : Idx p i := Classical.byContradiction fun hn => h (opA_out hn)
theorem idx_get {p : Prg} {i : Int} (h : Idx p i) : ∃ x, p.code[i.toNat]? = some x := ⟨_, List.getElem?_eq_getElem (by omega)⟩
def endA (p : Prg) (b : Int) : Int := match p.entries[(b + 1).toNat]? with | some e => e | none => p.code.length
def LoopAt (p : Prg) (k : Int) : Prop := opA p k = 7 ∧ opA p (k - 1) = 6 ∧ opA p (k + 1) = 9 ∧ opA p (k + 2) = 8 ∧ aA p (k + 2) = k ∧ aA p k = k + 3
def MarkAt (p : Prg) (k : Int) : Prop := opA p k = 14 ∧ opA p (k + 1) = 9 ∧ opA p (k + 2) = 15
noncomputable instance (p : Prg) (k : Int) : Decidable (LoopAt p k) := Classical.propDecidable _
noncomputable instance (p : Prg) (k : Int) : Decidable (MarkAt p k) := Classical.propDecidable _
abbrev Sm (k : Int) : Prop := -1000 ≤ k ∧ k ≤ 1000000
theorem opAt_ac (p : Prg) (i : Int) : ACv Try.prog 106 [prgR p, .int i] (.int (opA p i)) := by
  have hi := isIndex_ac p i
  refine ac_enter Try.func106 rfl _ Try.ntmps106 (by simp) fun C hn hm => ?_
  by_cases h : Idx p i
  · obtain ⟨x, hx⟩ := idx_get h
    rw [opA_at h.1 hx]
    repeat' (first
 | refine RunsL.step tabOk hn rfl ?_
 | refine RunsL.nil ?_
 | refine Runs.toRegion 30 rfl ?_
 | (refine RunsL.pe hn rfl rfl rfl ?_; first
 | refine ⟨_, pu_callR hi rfl, ?_⟩)
 | (refine Runs.ctls 30 rfl ?_; first | ((first | refine Runs.cond_yes rfl ?_ ?_ | refine Runs.cond_nno rfl ?_ ?_); · first | omega | rfl | assumption | (simp only [List.length_map]; omega)) | ((first | refine Runs.cond_no rfl ?_ ?_ | refine Runs.cond_nyes rfl ?_ ?_); · first | omega | rfl | assumption | (simp only [List.length_map]; omega)) | refine Runs.ret (ends_ro hm rfl rfl ?_) | exact Runs.ret (ends_cellR hm rfl rfl rfl (Nat.le_of_ble_eq_true rfl) rfl rfl))
 | refine op_box rfl (tl hn rfl) ?_
 | (refine RunsL.pe hn rfl rfl rfl ?_; first
 | refine ⟨_, pu_indexAddr_map rfl rfl (by omega) (by assumption), ?_⟩
        ))
    exact rr_int rfl
  · rw [opA_out h]
    repeat' (first
 | refine RunsL.step tabOk hn rfl ?_
 | refine RunsL.nil ?_
 | refine Runs.toRegion 30 rfl ?_
 | (refine RunsL.pe hn rfl rfl rfl ?_; first
 | refine ⟨_, pu_callR hi rfl, ?_⟩)
 | (refine Runs.ctls 30 rfl ?_; first | ((first | refine Runs.cond_yes rfl ?_ ?_ | refine Runs.cond_nno rfl ?_ ?_); · first | omega | rfl | assumption | (simp only [List.length_map]; omega)) | ((first | refine Runs.cond_no rfl ?_ ?_ | refine Runs.cond_nyes rfl ?_ ?_); · first | omega | rfl | assumption | (simp only [List.length_map]; omega)) | refine Runs.ret (ends_ro hm rfl rfl ?_) | exact Runs.ret (ends_cellR hm rfl rfl rfl (Nat.le_of_ble_eq_true rfl) rfl rfl))
 | refine op_box rfl (tl hn rfl) ?_
 | (refine RunsL.pe hn rfl rfl rfl ?_; first
 | refine ⟨_, pu_indexAddr_map rfl rfl (by omega) (by assumption), ?_⟩
        ))
    all_goals exact rr_int rfl
theorem blockEnd_ac (p : Prg) (b : Int) (h0 : 0 ≤ b) (h1 : b ≤ 9223372036854775806) (hl : p.entries.length ≤ maxLen) : ACv Try.prog 105 [prgR p, .int b] (.int (endA p b)) := by
  have hlm : (p.entries.map fun z => [RV.int z]).length = p.entries.length := List.length_map ..
  have hlc : (p.code.map insR).length = p.code.length := List.length_map ..
  unfold maxLen at hl
  refine ac_enter Try.func105 rfl _ Try.ntmps105 (by simp) fun C hn hm => ?_
  by_cases h : b + 1 < p.entries.length
  · obtain ⟨e, he⟩ : ∃ e, p.entries[(b + 1).toNat]? = some e := ⟨_, List.getElem?_eq_getElem (by omega)⟩
    have hr : endA p b = e := by unfold endA; rw [he]
    rw [hr]
    repeat' (first
 | refine RunsL.step tabOk hn rfl ?_
 | refine RunsL.nil ?_
 | refine Runs.toRegion 30 rfl ?_
 | (refine Runs.ctls 30 rfl ?_; first | ((first | refine Runs.cond_yes rfl ?_ ?_ | refine Runs.cond_nno rfl ?_ ?_); · first | omega | rfl | assumption | (simp only [List.length_map]; omega)) | ((first | refine Runs.cond_no rfl ?_ ?_ | refine Runs.cond_nyes rfl ?_ ?_); · first | omega | rfl | assumption | (simp only [List.length_map]; omega)) | refine Runs.ret (ends_ro hm rfl rfl ?_) | exact Runs.ret (ends_cellR hm rfl rfl rfl (Nat.le_of_ble_eq_true rfl) rfl rfl))
 | refine op_box rfl (tl hn rfl) ?_
 | (refine RunsL.pe hn rfl rfl rfl ?_; first
 | refine ⟨_, pu_add rfl rfl (by omega), ?_⟩
 | refine ⟨_, pu_indexAddr_map rfl rfl (by omega) (by assumption), ?_⟩
        ))
    exact rr_int rfl
  · have hr : endA p b = p.code.length := by
      unfold endA
      split
      · rename_i e he; have := (List.getElem?_eq_some_iff.1 he).1; omega
      · rfl
    rw [hr]
    repeat' (first
 | refine RunsL.step tabOk hn rfl ?_
 | refine RunsL.nil ?_
 | refine Runs.toRegion 30 rfl ?_
 | (refine Runs.ctls 30 rfl ?_; first | ((first | refine Runs.cond_yes rfl ?_ ?_ | refine Runs.cond_nno rfl ?_ ?_); · first | omega | rfl | assumption | (simp only [List.length_map]; omega)) | ((first | refine Runs.cond_no rfl ?_ ?_ | refine Runs.cond_nyes rfl ?_ ?_); · first | omega | rfl | assumption | (simp only [List.length_map]; omega)) | refine Runs.ret (ends_ro hm rfl rfl ?_) | exact Runs.ret (ends_cellR hm rfl rfl rfl (Nat.le_of_ble_eq_true rfl) rfl rfl))
 | refine op_box rfl (tl hn rfl) ?_
 | (refine RunsL.pe hn rfl rfl rfl ?_; first
 | refine ⟨_, pu_add rfl rfl (by omega), ?_⟩
 | refine ⟨_, pu_indexAddr_map rfl rfl (by omega) (by assumption), ?_⟩
        ))
    exact rr_int (by rw [hlc])
set_option maxHeartbeats 4000000 in
theorem safeMark_ac (p : Prg) (k : Int) (hk : Sm k) : ACv Try.prog 151 [prgR p, .int k] (.bool (decide (MarkAt p k))) := by
  refine ac_enter Try.func151 rfl _ Try.ntmps151 (by simp) fun C hn hm => ?_
  repeat' (first
 | refine RunsL.step tabOk hn rfl ?_
 | refine RunsL.nil ?_
 | refine Runs.toRegion 30 rfl ?_
 | (refine RunsL.pe hn rfl rfl rfl ?_; first
 | refine ⟨_, pu_callR (opAt_ac p _) rfl, ?_⟩)
 | (refine Runs.ctls 30 rfl ?_; first | ((first | refine Runs.cond_yes rfl ?_ ?_ | refine Runs.cond_nno rfl ?_ ?_); · first | omega | rfl | assumption | (simp only [List.length_map]; omega)) | ((first | refine Runs.cond_no rfl ?_ ?_ | refine Runs.cond_nyes rfl ?_ ?_); · first | omega | rfl | assumption | (simp only [List.length_map]; omega)) | refine Runs.ret (ends_ro hm rfl rfl ?_) | exact Runs.ret (ends_cellR hm rfl rfl rfl (Nat.le_of_ble_eq_true rfl) rfl rfl))
 | refine op_box rfl (tl hn rfl) ?_
 | (refine RunsL.pe hn rfl rfl rfl ?_; first
 | refine ⟨_, pu_add rfl rfl (by omega), ?_⟩
      )
 | ((first | refine RunsL.guard_dec rfl rfl rfl ?_ ?_ | refine RunsL.guard_ndec rfl rfl rfl ?_ ?_ | refine RunsL.guard_nb rfl rfl rfl ?_ ?_ | refine RunsL.guard_b rfl rfl rfl ?_ ?_) <;> intro h <;> try (exfalso; first | omega | contradiction | (simp only [List.length_map] at h; omega))))
  all_goals exact rr_bool (by rw [Bool.eq_iff_iff]; simp [MarkAt, *])
set_option maxHeartbeats 8000000 in
theorem safeLoop_ac (p : Prg) (k : Int) (hk : Sm k) : ACv Try.prog 150 [prgR p, .int k] (.bool (decide (LoopAt p k))) := by
  refine ac_enter Try.func150 rfl _ Try.ntmps150 (by simp) fun C hn hm => ?_
  by_cases h : opA p k = 7 ∧ opA p (k + 2) = 8
  · obtain ⟨x, hx⟩ := idx_get (opA_in (by rw [h.1]; decide : opA p k ≠ 0))
    obtain ⟨y, hy⟩ := idx_get (opA_in (by rw [h.2]; decide : opA p (k + 2) ≠ 0))
    have i1 := (opA_in (by rw [h.1]; decide : opA p k ≠ 0)).1
    have ex := aA_at i1 hx
    have ey := aA_at (by omega) hy
    repeat' (first
 | refine RunsL.step tabOk hn rfl ?_
 | refine RunsL.nil ?_
 | refine Runs.toRegion 30 rfl ?_
 | (refine RunsL.pe hn rfl rfl rfl ?_; first
 | refine ⟨_, pu_callR (opAt_ac p _) rfl, ?_⟩)
 | (refine Runs.ctls 30 rfl ?_; first | ((first | refine Runs.cond_yes rfl ?_ ?_ | refine Runs.cond_nno rfl ?_ ?_); · first | omega | rfl | assumption | (simp only [List.length_map]; omega)) | ((first | refine Runs.cond_no rfl ?_ ?_ | refine Runs.cond_nyes rfl ?_ ?_); · first | omega | rfl | assumption | (simp only [List.length_map]; omega)) | refine Runs.ret (ends_ro hm rfl rfl ?_) | exact Runs.ret (ends_cellR hm rfl rfl rfl (Nat.le_of_ble_eq_true rfl) rfl rfl))
 | refine op_box rfl (tl hn rfl) ?_
 | (refine RunsL.pe hn rfl rfl rfl ?_; first
 | refine ⟨_, pu_add rfl rfl (by omega), ?_⟩
 | refine ⟨_, pu_indexAddr_map rfl rfl (by omega) (by assumption), ?_⟩
 | refine ⟨_, pu_sub rfl rfl (by omega), ?_⟩
        )
 | ((first | refine RunsL.guard_dec rfl rfl rfl ?_ ?_ | refine RunsL.guard_ndec rfl rfl rfl ?_ ?_ | refine RunsL.guard_nb rfl rfl rfl ?_ ?_ | refine RunsL.guard_b rfl rfl rfl ?_ ?_) <;> intro h <;> try (exfalso; first | omega | contradiction | (simp only [List.length_map] at h; omega))))
    all_goals exact rr_bool (by rw [Bool.eq_iff_iff]; simp [LoopAt, *])
  · repeat' (first
 | refine RunsL.step tabOk hn rfl ?_
 | refine RunsL.nil ?_
 | refine Runs.toRegion 30 rfl ?_
 | (refine RunsL.pe hn rfl rfl rfl ?_; first
 | refine ⟨_, pu_callR (opAt_ac p _) rfl, ?_⟩)
 | (refine Runs.ctls 30 rfl ?_; first | ((first | refine Runs.cond_yes rfl ?_ ?_ | refine Runs.cond_nno rfl ?_ ?_); · first | omega | rfl | assumption | (simp only [List.length_map]; omega)) | ((first | refine Runs.cond_no rfl ?_ ?_ | refine Runs.cond_nyes rfl ?_ ?_); · first | omega | rfl | assumption | (simp only [List.length_map]; omega)) | refine Runs.ret (ends_ro hm rfl rfl ?_) | exact Runs.ret (ends_cellR hm rfl rfl rfl (Nat.le_of_ble_eq_true rfl) rfl rfl))
 | refine op_box rfl (tl hn rfl) ?_
 | (refine RunsL.pe hn rfl rfl rfl ?_; first
 | refine ⟨_, pu_add rfl rfl (by omega), ?_⟩
 | refine ⟨_, pu_indexAddr_map rfl rfl (by omega) (by assumption), ?_⟩
 | refine ⟨_, pu_sub rfl rfl (by omega), ?_⟩
      )
 | ((first | refine RunsL.guard_dec rfl rfl rfl ?_ ?_ | refine RunsL.guard_ndec rfl rfl rfl ?_ ?_ | refine RunsL.guard_nb rfl rfl rfl ?_ ?_ | refine RunsL.guard_b rfl rfl rfl ?_ ?_) <;> intro h <;> try (exfalso; first | omega | contradiction | (simp only [List.length_map] at h; omega))))
    all_goals first
      | exact rr_bool (decide_eq_false (p := LoopAt p k) fun hN => by unfold LoopAt at hN; first | omega | exact h ⟨hN.1, hN.2.2.2.1⟩).symm
      | (exfalso; exact h ⟨by assumption, by assumption⟩)
theorem l16Is_ac (p : Prg) (i o : Int) (ho : o ≠ 0) (hl : p.code.length ≤ maxLen) : ACv Try.prog 108 [prgR p, .int i, .int o] (.bool (decide (opA p i = o))) := by
  have hlc : (p.code.map insR).length = p.code.length := List.length_map ..
  unfold maxLen at hl
  refine ac_enter Try.func108 rfl _ Try.ntmps108 (by simp) fun C hn hm => ?_
  by_cases h : Idx p i
  · obtain ⟨x, hx⟩ := idx_get h
    rw [opA_at h.1 hx]
    unfold Idx at h
    repeat' (first
 | refine RunsL.step tabOk hn rfl ?_
 | refine RunsL.nil ?_
 | refine Runs.toRegion 30 rfl ?_
 | (refine RunsL.pe hn rfl rfl rfl ?_; first
 | refine ⟨_, pu_callR (l1In_ac _ _ _) rfl, ?_⟩)
 | (refine Runs.ctls 30 rfl ?_; first | ((first | refine Runs.cond_yes rfl ?_ ?_ | refine Runs.cond_nno rfl ?_ ?_); · first | omega | rfl | assumption | (simp only [List.length_map]; omega)) | ((first | refine Runs.cond_no rfl ?_ ?_ | refine Runs.cond_nyes rfl ?_ ?_); · first | omega | rfl | assumption | (simp only [List.length_map]; omega)) | refine Runs.ret (ends_ro hm rfl rfl ?_) | exact Runs.ret (ends_cellR hm rfl rfl rfl (Nat.le_of_ble_eq_true rfl) rfl rfl))
 | refine op_box rfl (tl hn rfl) ?_
 | (refine RunsL.pe hn rfl rfl rfl ?_; first
 | refine ⟨_, pu_indexAddr_map rfl rfl (by omega) (by assumption), ?_⟩
 | refine ⟨_, pu_sub rfl rfl (by omega), ?_⟩
        )
 | ((first | refine RunsL.guard_dec rfl rfl rfl ?_ ?_ | refine RunsL.guard_ndec rfl rfl rfl ?_ ?_ | refine RunsL.guard_nb rfl rfl rfl ?_ ?_ | refine RunsL.guard_b rfl rfl rfl ?_ ?_) <;> intro h <;> try (exfalso; first | omega | contradiction | (simp only [List.length_map] at h; omega))))
    all_goals exact rr_bool rfl
  · rw [opA_out h]
    unfold Idx at h
    repeat' (first
 | refine RunsL.step tabOk hn rfl ?_
 | refine RunsL.nil ?_
 | refine Runs.toRegion 30 rfl ?_
 | (refine RunsL.pe hn rfl rfl rfl ?_; first
 | refine ⟨_, pu_callR (l1In_ac _ _ _) rfl, ?_⟩)
 | (refine Runs.ctls 30 rfl ?_; first | ((first | refine Runs.cond_yes rfl ?_ ?_ | refine Runs.cond_nno rfl ?_ ?_); · first | omega | rfl | assumption | (simp only [List.length_map]; omega)) | ((first | refine Runs.cond_no rfl ?_ ?_ | refine Runs.cond_nyes rfl ?_ ?_); · first | omega | rfl | assumption | (simp only [List.length_map]; omega)) | refine Runs.ret (ends_ro hm rfl rfl ?_) | exact Runs.ret (ends_cellR hm rfl rfl rfl (Nat.le_of_ble_eq_true rfl) rfl rfl))
 | refine op_box rfl (tl hn rfl) ?_
 | (refine RunsL.pe hn rfl rfl rfl ?_; first
 | refine ⟨_, pu_indexAddr_map rfl rfl (by omega) (by assumption), ?_⟩
 | refine ⟨_, pu_sub rfl rfl (by omega), ?_⟩
        )
 | ((first | refine RunsL.guard_dec rfl rfl rfl ?_ ?_ | refine RunsL.guard_ndec rfl rfl rfl ?_ ?_ | refine RunsL.guard_nb rfl rfl rfl ?_ ?_ | refine RunsL.guard_b rfl rfl rfl ?_ ?_) <;> intro h <;> try (exfalso; first | omega | contradiction | (simp only [List.length_map] at h; omega))))
    all_goals exact rr_bool (decide_eq_false (p := (0 : Int) = o) (fun e => ho e.symm)).symm
set_option maxHeartbeats 8000000 in
theorem l16Loop_ac (p : Prg) (k : Int) (hk : Sm k) (hl : p.code.length ≤ maxLen) : ACv Try.prog 178 [prgR p, .int k] (.bool (decide (LoopAt p k))) := by
  refine ac_enter Try.func178 rfl _ Try.ntmps178 (by simp) fun C hn hm => ?_
  by_cases h : opA p k = 7 ∧ opA p (k + 2) = 8
  · obtain ⟨x, hx⟩ := idx_get (opA_in (by rw [h.1]; decide : opA p k ≠ 0))
    obtain ⟨y, hy⟩ := idx_get (opA_in (by rw [h.2]; decide : opA p (k + 2) ≠ 0))
    have i1 := (opA_in (by rw [h.1]; decide : opA p k ≠ 0)).1
    have ex := aA_at i1 hx
    have ey := aA_at (by omega) hy
    repeat' (first
 | refine RunsL.step tabOk hn rfl ?_
 | refine RunsL.nil ?_
 | refine Runs.toRegion 30 rfl ?_
 | (refine RunsL.pe hn rfl rfl rfl ?_; first
 | refine ⟨_, pu_callR (l16Is_ac p _ _ (by decide) hl) rfl, ?_⟩)
 | (refine Runs.ctls 30 rfl ?_; first | ((first | refine Runs.cond_yes rfl ?_ ?_ | refine Runs.cond_nno rfl ?_ ?_); · first | omega | rfl | assumption | (simp only [List.length_map]; omega)) | ((first | refine Runs.cond_no rfl ?_ ?_ | refine Runs.cond_nyes rfl ?_ ?_); · first | omega | rfl | assumption | (simp only [List.length_map]; omega)) | refine Runs.ret (ends_ro hm rfl rfl ?_) | exact Runs.ret (ends_cellR hm rfl rfl rfl (Nat.le_of_ble_eq_true rfl) rfl rfl))
 | refine op_box rfl (tl hn rfl) ?_
 | (refine RunsL.pe hn rfl rfl rfl ?_; first
 | refine ⟨_, pu_add rfl rfl (by omega), ?_⟩
 | refine ⟨_, pu_indexAddr_map rfl rfl (by omega) (by assumption), ?_⟩
 | refine ⟨_, pu_sub rfl rfl (by omega), ?_⟩
        )
 | ((first | refine RunsL.guard_dec rfl rfl rfl ?_ ?_ | refine RunsL.guard_ndec rfl rfl rfl ?_ ?_ | refine RunsL.guard_nb rfl rfl rfl ?_ ?_ | refine RunsL.guard_b rfl rfl rfl ?_ ?_) <;> intro h <;> try (exfalso; first | omega | contradiction | (simp only [List.length_map] at h; omega))))
    all_goals exact rr_bool (by rw [Bool.eq_iff_iff]; simp [LoopAt, *])
  · repeat' (first
 | refine RunsL.step tabOk hn rfl ?_
 | refine RunsL.nil ?_
 | refine Runs.toRegion 30 rfl ?_
 | (refine RunsL.pe hn rfl rfl rfl ?_; first
 | refine ⟨_, pu_callR (l16Is_ac p _ _ (by decide) hl) rfl, ?_⟩)
 | (refine Runs.ctls 30 rfl ?_; first | ((first | refine Runs.cond_yes rfl ?_ ?_ | refine Runs.cond_nno rfl ?_ ?_); · first | omega | rfl | assumption | (simp only [List.length_map]; omega)) | ((first | refine Runs.cond_no rfl ?_ ?_ | refine Runs.cond_nyes rfl ?_ ?_); · first | omega | rfl | assumption | (simp only [List.length_map]; omega)) | refine Runs.ret (ends_ro hm rfl rfl ?_) | exact Runs.ret (ends_cellR hm rfl rfl rfl (Nat.le_of_ble_eq_true rfl) rfl rfl))
 | refine op_box rfl (tl hn rfl) ?_
 | (refine RunsL.pe hn rfl rfl rfl ?_; first
 | refine ⟨_, pu_add rfl rfl (by omega), ?_⟩
 | refine ⟨_, pu_indexAddr_map rfl rfl (by omega) (by assumption), ?_⟩
 | refine ⟨_, pu_sub rfl rfl (by omega), ?_⟩
      )
 | ((first | refine RunsL.guard_dec rfl rfl rfl ?_ ?_ | refine RunsL.guard_ndec rfl rfl rfl ?_ ?_ | refine RunsL.guard_nb rfl rfl rfl ?_ ?_ | refine RunsL.guard_b rfl rfl rfl ?_ ?_) <;> intro h <;> try (exfalso; first | omega | contradiction | (simp only [List.length_map] at h; omega))))
    all_goals first
      | exact rr_bool (decide_eq_false (p := LoopAt p k) fun hN => by unfold LoopAt at hN; first | omega | exact h ⟨hN.1, hN.2.2.2.1⟩).symm
      | (exfalso; exact h ⟨by assumption, by assumption⟩)
end Go.Proofs.Ytnecoghfhcimeaa
