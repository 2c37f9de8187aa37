/- Gathered texts. -/
import Derived.Test.YtkhnijggbfoimaaGat0
import Derived.Test.YtkhnijggbfoimaaGat1
import Derived.Test.YtkhnijggbfoimaaGat2
import Derived.StillTail
/- The machine goes on until it needs a byte. -/
namespace Go.Proofs.Ytkhnijggbfoimaa
set_option linter.unusedSimpArgs false
set_option linter.unusedVariables false
open Go.RowKit
open AV (Mem Keeps)
set_option maxRecDepth 100000
theorem finish_am (m : Mch) (nx : Int) : AM Try.prog 107 (mO m) [0] [.obj 0 0, .int nx] (mO { m with started := false, pc := nx }) (.tup []) := by
  refine am_enter Try.func107 rfl _ Try.ntmps107 (by simp) (by simp) fun C gs hn => ?_
  repeat' (first
 | refine RunsL.step tabOk hn rfl ?_
 | refine RunsL.nil ?_
 | refine Runs.toRegion 30 rfl ?_
 | (refine RunsL.pe hn rfl rfl rfl ?_; first
 | refine ⟨_, pu_nilCheckP rfl, ?_⟩)
 | (refine Runs.ctls 30 rfl ?_; first | refine Runs.cond_t rfl ?_ | refine Runs.cond_f rfl ?_ | ((first | refine Runs.cond_yes rfl ?_ ?_ | refine Runs.cond_nno rfl ?_ ?_); · first | omega | rfl | assumption | (simp only [List.length_map]; omega)) | ((first | refine Runs.cond_no rfl ?_ ?_ | refine Runs.cond_nyes rfl ?_ ?_); · first | omega | rfl | assumption | (simp only [List.length_map]; omega)) | refine Runs.cond_dec rfl (fun h => ?_) (fun h => ?_) | refine Runs.cond_ndec rfl (fun h => ?_) (fun h => ?_) | refine Runs.cond_nb rfl (fun h => ?_) (fun h => ?_) | refine Runs.cond_b rfl (fun h => ?_) (fun h => ?_) | refine Runs.ret (ends_ro hm rfl rfl ?_) | exact Runs.ret (ends_cellR hm rfl rfl rfl (Nat.le_of_ble_eq_true rfl) rfl rfl))
 | refine op_box rfl (tl hn rfl) ?_
 | refine op_storeF rfl rfl rfl rfl (Nat.le_of_ble_eq_true rfl) ?_
 | refine op_alloc (tl hn rfl) ?_
 | refine op_storeN rfl rfl rfl rfl (Nat.le_of_ble_eq_true rfl) ?_
 | (refine RunsL.pe hn rfl rfl rfl ?_; first
 | refine ⟨_, pu_add rfl rfl (by omega), ?_⟩
 | refine ⟨_, pu_indexAddr_map rfl rfl (by omega) (by assumption), ?_⟩
 | refine ⟨_, pu_sub rfl rfl (by omega), ?_⟩
 | refine ⟨_, pu_pick_b rfl rfl rfl, ?_⟩
 | refine ⟨_, pu_mul rfl rfl (by omega), ?_⟩
 | refine ⟨_, pu_build rfl rfl rfl rfl rfl rfl, ?_⟩))
  refine Runs.ctls 30 rfl ?_
  refine mO_end (t := 0) (more := []) rfl ?_ rfl
  rfl
set_option maxHeartbeats 8000000 in
theorem advance_am (p : Prg) (f : Bool) (m : Mch) (hm : MLen m) (hc : p.code.length ≤ 4194304) : AM Try.prog 40 (mO m) [0] [.obj 0 0, .ro (prgR p), .bool f] (mO (mAdv p f m)) (.tup []) := by
  refine am_enter Try.func40 rfl _ Try.ntmps40 (by simp) (by simp) fun C gs hn => ?_
  have hlc : (p.code.map insR).length = p.code.length := List.length_map ..
  by_cases hs : m.state = 0
  · by_cases hf : f = false ∨ (m.started = true ∧ ¬ Idx p m.pc)
    · repeat' (first
 | refine op_callP 3 (failWith_am m 8) rfl (by simp [AV.onlys, AV.only]) (by simp [AV.only, AV.onlys]) rfl rfl rfl (mO_free _) (mO_free _) rfl (by first | exact trivial | exact ⟨rfl, trivial⟩ | exact ⟨rfl, rfl, trivial⟩ | exact ⟨rfl, rfl, rfl, trivial⟩ | exact ⟨rfl, rfl, rfl, rfl, trivial⟩) (fun t h => by injection h with h; subst h; exact tl hn rfl) ?_
 | refine RunsL.step tabOk hn rfl ?_
 | refine RunsL.nil ?_
 | refine Runs.toRegion 30 rfl ?_
 | ((first | refine RunsL.pe hn rfl rfl rfl ?_ | refine RunsD.pe rfl rfl ?_); first
 | refine ⟨_, pu_nilCheckP rfl, ?_⟩
 | refine ⟨_, pu_callR (isIndex_ac p _) rfl, ?_⟩)
 | (refine Runs.ctls 30 rfl ?_; first | refine Runs.cond_t rfl ?_ | refine Runs.cond_f rfl ?_ | ((first | refine Runs.cond_yes rfl ?_ ?_ | refine Runs.cond_nno rfl ?_ ?_); · first | omega | rfl | assumption | (simp only [List.length_map]; omega)) | ((first | refine Runs.cond_no rfl ?_ ?_ | refine Runs.cond_nyes rfl ?_ ?_); · first | omega | rfl | assumption | (simp only [List.length_map]; omega)) | refine Runs.cond_dec rfl (fun h => ?_) (fun h => ?_) | refine Runs.cond_ndec rfl (fun h => ?_) (fun h => ?_) | refine Runs.cond_nb rfl (fun h => ?_) (fun h => ?_) | refine Runs.cond_b rfl (fun h => ?_) (fun h => ?_) | refine Runs.ret (ends_ro hm rfl rfl ?_) | exact Runs.ret (ends_cellR hm rfl rfl rfl (Nat.le_of_ble_eq_true rfl) rfl rfl))
 | refine op_box rfl (tl hn rfl) ?_
 | refine op_storeF rfl rfl rfl rfl (Nat.le_of_ble_eq_true rfl) ?_
 | refine op_alloc (tl hn rfl) ?_
 | refine op_storeN rfl rfl rfl rfl (Nat.le_of_ble_eq_true rfl) ?_
 | refine RunsD.step tabOk hn rfl rfl ?_
 | refine RunsD.nil ?_
 | refine Runs.toDraw 30 mixed hn rfl (by kernel_rfl) rfl ?_
 | ((first | refine RunsL.pe hn rfl rfl rfl ?_ | refine RunsD.pe rfl rfl ?_); first
 | refine ⟨_, pu_add rfl rfl (by omega), ?_⟩
 | refine ⟨_, pu_indexAddr_map rfl rfl (by omega) (by assumption), ?_⟩
 | refine ⟨_, pu_sub rfl rfl (by omega), ?_⟩
 | refine ⟨_, pu_pick_b rfl rfl rfl, ?_⟩
 | refine ⟨_, pu_mul rfl rfl (by omega), ?_⟩
 | refine ⟨_, pu_build rfl rfl rfl rfl rfl rfl, ?_⟩)
 | ((first | refine RunsL.guard_dec rfl rfl rfl ?_ ?_ | refine RunsL.guard_ndec rfl rfl rfl ?_ ?_ | refine RunsL.guard_nb rfl rfl rfl ?_ ?_ | refine RunsL.guard_b rfl rfl rfl ?_ ?_ | refine RunsD.guard_dec rfl rfl rfl ?_ ?_ | refine RunsD.guard_ndec rfl rfl rfl ?_ ?_ | refine RunsD.guard_nb rfl rfl rfl ?_ ?_ | refine RunsD.guard_b rfl rfl rfl ?_ ?_) <;> intro h <;> try (exfalso; first | omega | contradiction | (simp only [List.length_map] at h; omega))))
      all_goals first
        | (exfalso; simp_all; done)
        | (refine Runs.ctls 30 rfl ?_
           refine mO_ret (t := 0) (more := [⟨34, 0, [.ro (inssR p.code), .ro (intsR p.entries)]⟩]) rfl ?_ rfl
           exact mO_app (by unfold mAdv; rw [if_neg (by simp [hs]), if_pos hf]))
    · obtain ⟨N, hN, hA⟩ : ∃ N : Nat, N = 100001 ∧ mAdv p f m = mRes p N m := ⟨_, rfl, by unfold mAdv; rw [if_neg (by simp [hs]), if_neg hf]⟩
      rw [hA]
      clear hA
      repeat' (first
 | refine op_callP 3 (failWith_am m 8) rfl (by simp [AV.onlys, AV.only]) (by simp [AV.only, AV.onlys]) rfl rfl rfl (mO_free _) (mO_free _) rfl (by first | exact trivial | exact ⟨rfl, trivial⟩ | exact ⟨rfl, rfl, trivial⟩ | exact ⟨rfl, rfl, rfl, trivial⟩ | exact ⟨rfl, rfl, rfl, rfl, trivial⟩) (fun t h => by injection h with h; subst h; exact tl hn rfl) ?_
 | refine RunsL.step tabOk hn rfl ?_
 | refine RunsL.nil ?_
 | refine Runs.toRegion 30 rfl ?_
 | ((first | refine RunsL.pe hn rfl rfl rfl ?_ | refine RunsD.pe rfl rfl ?_); first
 | refine ⟨_, pu_nilCheckP rfl, ?_⟩
 | refine ⟨_, pu_callR (isIndex_ac p _) rfl, ?_⟩)
 | (refine Runs.ctls 30 rfl ?_; first | refine Runs.cond_t rfl ?_ | refine Runs.cond_f rfl ?_ | ((first | refine Runs.cond_yes rfl ?_ ?_ | refine Runs.cond_nno rfl ?_ ?_); · first | omega | rfl | assumption | (simp only [List.length_map]; omega)) | ((first | refine Runs.cond_no rfl ?_ ?_ | refine Runs.cond_nyes rfl ?_ ?_); · first | omega | rfl | assumption | (simp only [List.length_map]; omega)) | refine Runs.cond_dec rfl (fun h => ?_) (fun h => ?_) | refine Runs.cond_ndec rfl (fun h => ?_) (fun h => ?_) | refine Runs.cond_nb rfl (fun h => ?_) (fun h => ?_) | refine Runs.cond_b rfl (fun h => ?_) (fun h => ?_) | refine Runs.ret (ends_ro hm rfl rfl ?_) | exact Runs.ret (ends_cellR hm rfl rfl rfl (Nat.le_of_ble_eq_true rfl) rfl rfl))
 | refine op_box rfl (tl hn rfl) ?_
 | refine op_storeF rfl rfl rfl rfl (Nat.le_of_ble_eq_true rfl) ?_
 | refine op_alloc (tl hn rfl) ?_
 | refine op_storeN rfl rfl rfl rfl (Nat.le_of_ble_eq_true rfl) ?_
 | refine RunsD.step tabOk hn rfl rfl ?_
 | refine RunsD.nil ?_
 | refine Runs.toDraw 30 mixed hn rfl (by kernel_rfl) rfl ?_
 | ((first | refine RunsL.pe hn rfl rfl rfl ?_ | refine RunsD.pe rfl rfl ?_); first
 | refine ⟨_, pu_add rfl rfl (by omega), ?_⟩
 | refine ⟨_, pu_indexAddr_map rfl rfl (by omega) (by assumption), ?_⟩
 | refine ⟨_, pu_sub rfl rfl (by omega), ?_⟩
 | refine ⟨_, pu_pick_b rfl rfl rfl, ?_⟩
 | refine ⟨_, pu_mul rfl rfl (by omega), ?_⟩
 | refine ⟨_, pu_build rfl rfl rfl rfl rfl rfl, ?_⟩)
 | ((first | refine RunsL.guard_dec rfl rfl rfl ?_ ?_ | refine RunsL.guard_ndec rfl rfl rfl ?_ ?_ | refine RunsL.guard_nb rfl rfl rfl ?_ ?_ | refine RunsL.guard_b rfl rfl rfl ?_ ?_ | refine RunsD.guard_dec rfl rfl rfl ?_ ?_ | refine RunsD.guard_ndec rfl rfl rfl ?_ ?_ | refine RunsD.guard_nb rfl rfl rfl ?_ ?_ | refine RunsD.guard_b rfl rfl rfl ?_ ?_) <;> intro h <;> try (exfalso; first | omega | contradiction | (simp only [List.length_map] at h; omega))))
      all_goals first
        | (exfalso; simp_all; done)
        | skip
      all_goals
        refine Runs.loopN 30 rfl (fun j => [(0, .pin 0 0 (gs 0)), (4, .obj 3 0), (6, .int (j : Int))]) (fun j => mO (mIt p m j) ++ [⟨34, 0, [.ro (inssR p.code), .ro (intsR p.entries)]⟩]) (fun j => mRes p N m = mRes p (N - j) (mIt p m j)) N 0 (Nat.zero_le _) (by rw [Nat.sub_zero]; rfl) ⟨rfl, rfl, rfl, trivial⟩ rfl fun j hj hQ next => ?_
        have hL := mIt_len (p := p) hm j
        have hstep := @mRes_it p m N j
        have hstop := mRes_stop hQ
        have hout := mRes_out hQ
        have hnx : mIt p m (j + 1) = mPerf (mIt p m j) (mAt p (mIt p m j)) := rfl
        generalize hq : mIt p m j = q at hQ hL hstep hstop hout hnx ⊢
        clear hq
        by_cases hr : MRun q
        · obtain ⟨hr1, hr2⟩ := id hr
          by_cases hi : Idx p q.pc
          · obtain ⟨x, hx⟩ : ∃ x, p.code[q.pc.toNat]? = some x := ⟨_, List.getElem?_eq_getElem (by unfold Idx at hi; omega)⟩
            have hxa : mAt p q = x := by unfold mAt; rw [hx]; rfl
            have hi' := hi
            unfold Idx at hi'
            by_cases hlt : j < N
            · repeat' (first
 | refine Runs.toDrawT (id := 9) 30 [] [0, 1, 2, 3, 4, 5, 6, 7, 8] 9 [] mixed hn rfl (by kernel_rfl) rfl .nil (by decide) (by decide) (by decide) ?_
 | refine op_callP 3 (failWith_am q 8) rfl (by simp [AV.onlys, AV.only]) (by simp [AV.only, AV.onlys]) rfl rfl rfl (mO_free _) (mO_free _) rfl (by first | exact trivial | exact ⟨rfl, trivial⟩ | exact ⟨rfl, rfl, trivial⟩ | exact ⟨rfl, rfl, rfl, trivial⟩ | exact ⟨rfl, rfl, rfl, rfl, trivial⟩) (fun t h => by injection h with h; subst h; exact tl hn rfl) ?_
 | refine op_callP 3 (perform_am q x hL) rfl (by simp [AV.onlys, AV.only]) (by simp [AV.only, AV.onlys]) rfl rfl rfl (mO_free _) (mO_free _) rfl (by first | exact trivial | exact ⟨rfl, trivial⟩ | exact ⟨rfl, rfl, trivial⟩ | exact ⟨rfl, rfl, rfl, trivial⟩ | exact ⟨rfl, rfl, rfl, rfl, trivial⟩) (fun t h => by injection h with h; subst h; exact tl hn rfl) ?_
 | refine RunsT.nil ?_
 | refine RunsT.step tabOk rfl rfl (fun _ => rfl) (by decide) ?_
 | refine RunsT.pur (fun _ => pu_nilCheckP rfl) (by decide) rfl rfl ?_
 | refine RunsT.pur (fun _ => pu_callR (isIndex_ac p _) rfl) (by decide) rfl rfl ?_
 | refine RunsT.pur (fun _ => pu_add rfl rfl (by omega)) (by decide) rfl rfl ?_
 | refine RunsT.pur (fun _ => pu_indexAddr_map rfl rfl (by omega) (by assumption)) (by decide) rfl rfl ?_
 | refine RunsT.alloc (p := 0) rfl inferInstance ?_
 | refine RunsT.alloc (p := 1) rfl inferInstance ?_
 | refine RunsL.step tabOk hn rfl ?_
 | refine RunsL.nil ?_
 | refine Runs.toRegion 30 rfl ?_
 | ((first | refine RunsL.pe hn rfl rfl rfl ?_ | refine RunsD.pe rfl rfl ?_); first
 | refine ⟨_, pu_nilCheckP rfl, ?_⟩
 | refine ⟨_, pu_callR (isIndex_ac p _) rfl, ?_⟩)
 | (refine Runs.ctls 30 rfl ?_; first | refine Runs.cond_t rfl ?_ | refine Runs.cond_f rfl ?_ | ((first | refine Runs.cond_yes rfl ?_ ?_ | refine Runs.cond_nno rfl ?_ ?_); · first | omega | rfl | assumption | (simp only [List.length_map]; omega)) | ((first | refine Runs.cond_no rfl ?_ ?_ | refine Runs.cond_nyes rfl ?_ ?_); · first | omega | rfl | assumption | (simp only [List.length_map]; omega)) | refine Runs.cond_dec rfl (fun h => ?_) (fun h => ?_) | refine Runs.cond_ndec rfl (fun h => ?_) (fun h => ?_) | refine Runs.cond_nb rfl (fun h => ?_) (fun h => ?_) | refine Runs.cond_b rfl (fun h => ?_) (fun h => ?_) | refine Runs.ret (ends_ro hm rfl rfl ?_) | exact Runs.ret (ends_cellR hm rfl rfl rfl (Nat.le_of_ble_eq_true rfl) rfl rfl))
 | refine op_box rfl (tl hn rfl) ?_
 | refine op_storeF rfl rfl rfl rfl (Nat.le_of_ble_eq_true rfl) ?_
 | refine op_alloc (tl hn rfl) ?_
 | refine op_storeN rfl rfl rfl rfl (Nat.le_of_ble_eq_true rfl) ?_
 | refine RunsD.step tabOk hn rfl rfl ?_
 | refine RunsD.nil ?_
 | refine Runs.toDraw 30 mixed hn rfl (by kernel_rfl) rfl ?_
 | ((first | refine RunsL.pe hn rfl rfl rfl ?_ | refine RunsD.pe rfl rfl ?_); first
 | refine ⟨_, pu_add rfl rfl (by omega), ?_⟩
 | refine ⟨_, pu_indexAddr_map rfl rfl (by omega) (by assumption), ?_⟩
 | refine ⟨_, pu_sub rfl rfl (by omega), ?_⟩
 | refine ⟨_, pu_pick_b rfl rfl rfl, ?_⟩
 | refine ⟨_, pu_mul rfl rfl (by omega), ?_⟩
 | refine ⟨_, pu_build rfl rfl rfl rfl rfl rfl, ?_⟩)
 | ((first | refine RunsL.guard_dec rfl rfl rfl ?_ ?_ | refine RunsL.guard_ndec rfl rfl rfl ?_ ?_ | refine RunsL.guard_nb rfl rfl rfl ?_ ?_ | refine RunsL.guard_b rfl rfl rfl ?_ ?_ | refine RunsD.guard_dec rfl rfl rfl ?_ ?_ | refine RunsD.guard_ndec rfl rfl rfl ?_ ?_ | refine RunsD.guard_nb rfl rfl rfl ?_ ?_ | refine RunsD.guard_b rfl rfl rfl ?_ ?_) <;> intro h <;> try (exfalso; first | omega | contradiction | (simp only [List.length_map] at h; omega))))
              all_goals first
                | (exfalso; first | omega | simp_all; done)
                | (refine next _ _ ⟨rfl, rfl, rfl, trivial⟩ hlt (hstep hlt hQ hr hi) ?_
                   rw [hnx, hxa]
                   rfl)
            · repeat' (first
 | refine op_callP 3 (failWith_am q 8) rfl (by simp [AV.onlys, AV.only]) (by simp [AV.only, AV.onlys]) rfl rfl rfl (mO_free _) (mO_free _) rfl (by first | exact trivial | exact ⟨rfl, trivial⟩ | exact ⟨rfl, rfl, trivial⟩ | exact ⟨rfl, rfl, rfl, trivial⟩ | exact ⟨rfl, rfl, rfl, rfl, trivial⟩) (fun t h => by injection h with h; subst h; exact tl hn rfl) ?_
 | refine RunsL.step tabOk hn rfl ?_
 | refine RunsL.nil ?_
 | refine Runs.toRegion 30 rfl ?_
 | ((first | refine RunsL.pe hn rfl rfl rfl ?_ | refine RunsD.pe rfl rfl ?_); first
 | refine ⟨_, pu_nilCheckP rfl, ?_⟩
 | refine ⟨_, pu_callR (isIndex_ac p _) rfl, ?_⟩)
 | (refine Runs.ctls 30 rfl ?_; first | refine Runs.cond_t rfl ?_ | refine Runs.cond_f rfl ?_ | ((first | refine Runs.cond_yes rfl ?_ ?_ | refine Runs.cond_nno rfl ?_ ?_); · first | omega | rfl | assumption | (simp only [List.length_map]; omega)) | ((first | refine Runs.cond_no rfl ?_ ?_ | refine Runs.cond_nyes rfl ?_ ?_); · first | omega | rfl | assumption | (simp only [List.length_map]; omega)) | refine Runs.cond_dec rfl (fun h => ?_) (fun h => ?_) | refine Runs.cond_ndec rfl (fun h => ?_) (fun h => ?_) | refine Runs.cond_nb rfl (fun h => ?_) (fun h => ?_) | refine Runs.cond_b rfl (fun h => ?_) (fun h => ?_) | refine Runs.ret (ends_ro hm rfl rfl ?_) | exact Runs.ret (ends_cellR hm rfl rfl rfl (Nat.le_of_ble_eq_true rfl) rfl rfl))
 | refine op_box rfl (tl hn rfl) ?_
 | refine op_storeF rfl rfl rfl rfl (Nat.le_of_ble_eq_true rfl) ?_
 | refine op_alloc (tl hn rfl) ?_
 | refine op_storeN rfl rfl rfl rfl (Nat.le_of_ble_eq_true rfl) ?_
 | refine RunsD.step tabOk hn rfl rfl ?_
 | refine RunsD.nil ?_
 | refine Runs.toDraw 30 mixed hn rfl (by kernel_rfl) rfl ?_
 | ((first | refine RunsL.pe hn rfl rfl rfl ?_ | refine RunsD.pe rfl rfl ?_); first
 | refine ⟨_, pu_add rfl rfl (by omega), ?_⟩
 | refine ⟨_, pu_indexAddr_map rfl rfl (by omega) (by assumption), ?_⟩
 | refine ⟨_, pu_sub rfl rfl (by omega), ?_⟩
 | refine ⟨_, pu_pick_b rfl rfl rfl, ?_⟩
 | refine ⟨_, pu_mul rfl rfl (by omega), ?_⟩
 | refine ⟨_, pu_build rfl rfl rfl rfl rfl rfl, ?_⟩)
 | ((first | refine RunsL.guard_dec rfl rfl rfl ?_ ?_ | refine RunsL.guard_ndec rfl rfl rfl ?_ ?_ | refine RunsL.guard_nb rfl rfl rfl ?_ ?_ | refine RunsL.guard_b rfl rfl rfl ?_ ?_ | refine RunsD.guard_dec rfl rfl rfl ?_ ?_ | refine RunsD.guard_ndec rfl rfl rfl ?_ ?_ | refine RunsD.guard_nb rfl rfl rfl ?_ ?_ | refine RunsD.guard_b rfl rfl rfl ?_ ?_) <;> intro h <;> try (exfalso; first | omega | contradiction | (simp only [List.length_map] at h; omega))))
              all_goals first
                | (exfalso; first | omega | simp_all; done)
                | (refine Runs.ctls 30 rfl ?_
                   refine mO_ret (t := 0) (more := [⟨34, 0, [.ro (inssR p.code), .ro (intsR p.entries)]⟩]) rfl ?_ rfl
                   exact mO_app (hout hr (.inr (by omega))).symm)
          · repeat' (first
 | refine op_callP 3 (failWith_am q 8) rfl (by simp [AV.onlys, AV.only]) (by simp [AV.only, AV.onlys]) rfl rfl rfl (mO_free _) (mO_free _) rfl (by first | exact trivial | exact ⟨rfl, trivial⟩ | exact ⟨rfl, rfl, trivial⟩ | exact ⟨rfl, rfl, rfl, trivial⟩ | exact ⟨rfl, rfl, rfl, rfl, trivial⟩) (fun t h => by injection h with h; subst h; exact tl hn rfl) ?_
 | refine RunsL.step tabOk hn rfl ?_
 | refine RunsL.nil ?_
 | refine Runs.toRegion 30 rfl ?_
 | ((first | refine RunsL.pe hn rfl rfl rfl ?_ | refine RunsD.pe rfl rfl ?_); first
 | refine ⟨_, pu_nilCheckP rfl, ?_⟩
 | refine ⟨_, pu_callR (isIndex_ac p _) rfl, ?_⟩)
 | (refine Runs.ctls 30 rfl ?_; first | refine Runs.cond_t rfl ?_ | refine Runs.cond_f rfl ?_ | ((first | refine Runs.cond_yes rfl ?_ ?_ | refine Runs.cond_nno rfl ?_ ?_); · first | omega | rfl | assumption | (simp only [List.length_map]; omega)) | ((first | refine Runs.cond_no rfl ?_ ?_ | refine Runs.cond_nyes rfl ?_ ?_); · first | omega | rfl | assumption | (simp only [List.length_map]; omega)) | refine Runs.cond_dec rfl (fun h => ?_) (fun h => ?_) | refine Runs.cond_ndec rfl (fun h => ?_) (fun h => ?_) | refine Runs.cond_nb rfl (fun h => ?_) (fun h => ?_) | refine Runs.cond_b rfl (fun h => ?_) (fun h => ?_) | refine Runs.ret (ends_ro hm rfl rfl ?_) | exact Runs.ret (ends_cellR hm rfl rfl rfl (Nat.le_of_ble_eq_true rfl) rfl rfl))
 | refine op_box rfl (tl hn rfl) ?_
 | refine op_storeF rfl rfl rfl rfl (Nat.le_of_ble_eq_true rfl) ?_
 | refine op_alloc (tl hn rfl) ?_
 | refine op_storeN rfl rfl rfl rfl (Nat.le_of_ble_eq_true rfl) ?_
 | refine RunsD.step tabOk hn rfl rfl ?_
 | refine RunsD.nil ?_
 | refine Runs.toDraw 30 mixed hn rfl (by kernel_rfl) rfl ?_
 | ((first | refine RunsL.pe hn rfl rfl rfl ?_ | refine RunsD.pe rfl rfl ?_); first
 | refine ⟨_, pu_add rfl rfl (by omega), ?_⟩
 | refine ⟨_, pu_indexAddr_map rfl rfl (by omega) (by assumption), ?_⟩
 | refine ⟨_, pu_sub rfl rfl (by omega), ?_⟩
 | refine ⟨_, pu_pick_b rfl rfl rfl, ?_⟩
 | refine ⟨_, pu_mul rfl rfl (by omega), ?_⟩
 | refine ⟨_, pu_build rfl rfl rfl rfl rfl rfl, ?_⟩)
 | ((first | refine RunsL.guard_dec rfl rfl rfl ?_ ?_ | refine RunsL.guard_ndec rfl rfl rfl ?_ ?_ | refine RunsL.guard_nb rfl rfl rfl ?_ ?_ | refine RunsL.guard_b rfl rfl rfl ?_ ?_ | refine RunsD.guard_dec rfl rfl rfl ?_ ?_ | refine RunsD.guard_ndec rfl rfl rfl ?_ ?_ | refine RunsD.guard_nb rfl rfl rfl ?_ ?_ | refine RunsD.guard_b rfl rfl rfl ?_ ?_) <;> intro h <;> try (exfalso; first | omega | contradiction | (simp only [List.length_map] at h; omega))))
            all_goals first
              | (exfalso; first | omega | simp_all; done)
              | (refine Runs.ctls 30 rfl ?_
                 refine mO_ret (t := 0) (more := [⟨34, 0, [.ro (inssR p.code), .ro (intsR p.entries)]⟩]) rfl ?_ rfl
                 exact mO_app (hout hr (.inl hi)).symm)
        · have hst := hstop hr
          clear hstep hstop hout hQ hnx
          repeat' (first
 | refine op_callP 3 (failWith_am q 8) rfl (by simp [AV.onlys, AV.only]) (by simp [AV.only, AV.onlys]) rfl rfl rfl (mO_free _) (mO_free _) rfl (by first | exact trivial | exact ⟨rfl, trivial⟩ | exact ⟨rfl, rfl, trivial⟩ | exact ⟨rfl, rfl, rfl, trivial⟩ | exact ⟨rfl, rfl, rfl, rfl, trivial⟩) (fun t h => by injection h with h; subst h; exact tl hn rfl) ?_
 | refine RunsL.step tabOk hn rfl ?_
 | refine RunsL.nil ?_
 | refine Runs.toRegion 30 rfl ?_
 | ((first | refine RunsL.pe hn rfl rfl rfl ?_ | refine RunsD.pe rfl rfl ?_); first
 | refine ⟨_, pu_nilCheckP rfl, ?_⟩
 | refine ⟨_, pu_callR (isIndex_ac p _) rfl, ?_⟩)
 | (refine Runs.ctls 30 rfl ?_; first | refine Runs.cond_t rfl ?_ | refine Runs.cond_f rfl ?_ | ((first | refine Runs.cond_yes rfl ?_ ?_ | refine Runs.cond_nno rfl ?_ ?_); · first | omega | rfl | assumption | (simp only [List.length_map]; omega)) | ((first | refine Runs.cond_no rfl ?_ ?_ | refine Runs.cond_nyes rfl ?_ ?_); · first | omega | rfl | assumption | (simp only [List.length_map]; omega)) | refine Runs.cond_dec rfl (fun h => ?_) (fun h => ?_) | refine Runs.cond_ndec rfl (fun h => ?_) (fun h => ?_) | refine Runs.cond_nb rfl (fun h => ?_) (fun h => ?_) | refine Runs.cond_b rfl (fun h => ?_) (fun h => ?_) | refine Runs.ret (ends_ro hm rfl rfl ?_) | exact Runs.ret (ends_cellR hm rfl rfl rfl (Nat.le_of_ble_eq_true rfl) rfl rfl))
 | refine op_box rfl (tl hn rfl) ?_
 | refine op_storeF rfl rfl rfl rfl (Nat.le_of_ble_eq_true rfl) ?_
 | refine op_alloc (tl hn rfl) ?_
 | refine op_storeN rfl rfl rfl rfl (Nat.le_of_ble_eq_true rfl) ?_
 | refine RunsD.step tabOk hn rfl rfl ?_
 | refine RunsD.nil ?_
 | refine Runs.toDraw 30 mixed hn rfl (by kernel_rfl) rfl ?_
 | ((first | refine RunsL.pe hn rfl rfl rfl ?_ | refine RunsD.pe rfl rfl ?_); first
 | refine ⟨_, pu_add rfl rfl (by omega), ?_⟩
 | refine ⟨_, pu_indexAddr_map rfl rfl (by omega) (by assumption), ?_⟩
 | refine ⟨_, pu_sub rfl rfl (by omega), ?_⟩
 | refine ⟨_, pu_pick_b rfl rfl rfl, ?_⟩
 | refine ⟨_, pu_mul rfl rfl (by omega), ?_⟩
 | refine ⟨_, pu_build rfl rfl rfl rfl rfl rfl, ?_⟩)
 | ((first | refine RunsL.guard_dec rfl rfl rfl ?_ ?_ | refine RunsL.guard_ndec rfl rfl rfl ?_ ?_ | refine RunsL.guard_nb rfl rfl rfl ?_ ?_ | refine RunsL.guard_b rfl rfl rfl ?_ ?_ | refine RunsD.guard_dec rfl rfl rfl ?_ ?_ | refine RunsD.guard_ndec rfl rfl rfl ?_ ?_ | refine RunsD.guard_nb rfl rfl rfl ?_ ?_ | refine RunsD.guard_b rfl rfl rfl ?_ ?_) <;> intro h <;> try (exfalso; first | omega | contradiction | (simp only [List.length_map] at h; omega))))
          all_goals first
            | exact absurd ⟨by assumption, by assumption⟩ hr
            | (refine Runs.ctls 30 rfl ?_
               refine mO_end (t := 0) (more := [⟨34, 0, [.ro (inssR p.code), .ro (intsR p.entries)]⟩]) rfl ?_ rfl
               exact mO_app hst.symm)
  · repeat' (first
 | refine RunsL.step tabOk hn rfl ?_
 | refine RunsL.nil ?_
 | refine Runs.toRegion 30 rfl ?_
 | ((first | refine RunsL.pe hn rfl rfl rfl ?_ | refine RunsD.pe rfl rfl ?_); first
 | refine ⟨_, pu_nilCheckP rfl, ?_⟩)
 | (refine Runs.ctls 30 rfl ?_; first | refine Runs.cond_t rfl ?_ | refine Runs.cond_f rfl ?_ | ((first | refine Runs.cond_yes rfl ?_ ?_ | refine Runs.cond_nno rfl ?_ ?_); · first | omega | rfl | assumption | (simp only [List.length_map]; omega)) | ((first | refine Runs.cond_no rfl ?_ ?_ | refine Runs.cond_nyes rfl ?_ ?_); · first | omega | rfl | assumption | (simp only [List.length_map]; omega)) | refine Runs.cond_dec rfl (fun h => ?_) (fun h => ?_) | refine Runs.cond_ndec rfl (fun h => ?_) (fun h => ?_) | refine Runs.cond_nb rfl (fun h => ?_) (fun h => ?_) | refine Runs.cond_b rfl (fun h => ?_) (fun h => ?_) | refine Runs.ret (ends_ro hm rfl rfl ?_) | exact Runs.ret (ends_cellR hm rfl rfl rfl (Nat.le_of_ble_eq_true rfl) rfl rfl))
 | refine op_box rfl (tl hn rfl) ?_
 | refine op_storeF rfl rfl rfl rfl (Nat.le_of_ble_eq_true rfl) ?_
 | refine op_alloc (tl hn rfl) ?_
 | refine op_storeN rfl rfl rfl rfl (Nat.le_of_ble_eq_true rfl) ?_
 | refine RunsD.step tabOk hn rfl rfl ?_
 | refine RunsD.nil ?_
 | refine Runs.toDraw 30 mixed hn rfl (by kernel_rfl) rfl ?_
 | ((first | refine RunsL.pe hn rfl rfl rfl ?_ | refine RunsD.pe rfl rfl ?_); first
 | refine ⟨_, pu_add rfl rfl (by omega), ?_⟩
 | refine ⟨_, pu_indexAddr_map rfl rfl (by omega) (by assumption), ?_⟩
 | refine ⟨_, pu_sub rfl rfl (by omega), ?_⟩
 | refine ⟨_, pu_pick_b rfl rfl rfl, ?_⟩
 | refine ⟨_, pu_mul rfl rfl (by omega), ?_⟩
 | refine ⟨_, pu_build rfl rfl rfl rfl rfl rfl, ?_⟩)
 | ((first | refine RunsL.guard_dec rfl rfl rfl ?_ ?_ | refine RunsL.guard_ndec rfl rfl rfl ?_ ?_ | refine RunsL.guard_nb rfl rfl rfl ?_ ?_ | refine RunsL.guard_b rfl rfl rfl ?_ ?_ | refine RunsD.guard_dec rfl rfl rfl ?_ ?_ | refine RunsD.guard_ndec rfl rfl rfl ?_ ?_ | refine RunsD.guard_nb rfl rfl rfl ?_ ?_ | refine RunsD.guard_b rfl rfl rfl ?_ ?_) <;> intro h <;> try (exfalso; first | omega | contradiction | (simp only [List.length_map] at h; omega))))
    refine Runs.ctls 30 rfl ?_
    refine mO_ret (t := 0) (more := [⟨34, 0, [.ro (inssR p.code), .ro (intsR p.entries)]⟩]) rfl ?_ rfl
    exact mO_app (by unfold mAdv; rw [if_pos hs])
end Go.Proofs.Ytkhnijggbfoimaa
/- Quotient and rest by a positive number; texts joined. Over any program. -/
namespace Go.Proofs.Ytkhnijggbfoimaa
set_option linter.unusedSimpArgs false
set_option linter.unusedVariables false
open Go.RowKit
open AV (Mem Keeps)
section
variable {P : Program} {C : Ctx} {env : Env} {σ : List Ob} {t : Nat} {ty : TypeId} {pos : String} {after : Array Edge} {gd : Option (Nat × Bool)}
theorem pu_quo {xt yt : TypeId} {x y : Operand} {p q : Int} (hx : ev env x = .int p) (hy : ev env y = .int q) (h : 0 ≤ p ∧ p ≤ 9223372036854775807 ∧ 1 ≤ q) : Pur P C ⟨some t, .binOp .quo xt x y yt, ty, pos, after, gd⟩ env σ (.int (p / q)) :=
  pu_bin hx hy (fun w => by
    have h0 : ¬ q = 0 := by omega
    have hw : IntKind.i64.wrap (p.tdiv q) = p / q := by
      rw [Int.tdiv_eq_ediv_of_nonneg h.1]
      have h1 : 0 ≤ p / q := Int.ediv_nonneg h.1 (by omega)
      have h2 : p / q ≤ p := Int.ediv_le_self _ h.1
      simp [IntKind.wrap, IntKind.bits, IntKind.signed]; omega
    simp [go_sem, Op.intDiv, h0, hw])
theorem pu_rem {xt yt : TypeId} {x y : Operand} {p q : Int} (hx : ev env x = .int p) (hy : ev env y = .int q) (h : 0 ≤ p ∧ p ≤ 9223372036854775807 ∧ 1 ≤ q) : Pur P C ⟨some t, .binOp .rem xt x y yt, ty, pos, after, gd⟩ env σ (.int (p % q)) :=
  pu_bin hx hy (fun w => by
    have h0 : ¬ q = 0 := by omega
    have h1 : p.tmod q = p % q := Int.tmod_eq_emod_of_nonneg h.1
    have h2 : 0 ≤ p % q := Int.emod_nonneg _ (by omega)
    have h3 : p % q ≤ p := by
      have := Int.emod_lt_of_pos p (show 0 < q by omega)
      have := Int.mul_ediv_add_emod p q
      have : 0 ≤ q * (p / q) := Int.mul_nonneg (by omega) (Int.ediv_nonneg h.1 (by omega))
      omega
    have h4 : IntKind.i64.wrap (p % q) = p % q := by simp [IntKind.wrap, IntKind.bits, IntKind.signed]; omega
    simp [go_sem, Op.intDiv, h0, h1, h4])
theorem pu_cat {xt yt : TypeId} {x y : Operand} {a b : ByteArray} (hx : ev env x = .str a) (hy : ev env y = .str b) (h : a.size + b.size ≤ 9223372036854775807) : Pur P C ⟨some t, .binOp .add xt x y yt, ty, pos, after, gd⟩ env σ (.str (a ++ b)) :=
  pu_bin hx hy (fun w => by
    have h' : ¬ (((a.size + b.size : Nat) : Int) > IntKind.i64.max) := by simp [IntKind.max, IntKind.bits, IntKind.signed]; omega
    rw [binOp_string_add]
    simp only [Op.stringOp]
    rw [if_neg h']
    simp [go_sem])
end
end Go.Proofs.Ytkhnijggbfoimaa
/- The machine reads a byte: the parts. -/
namespace Go.Proofs.Ytkhnijggbfoimaa
set_option linter.unusedSimpArgs false
set_option linter.unusedVariables false
open Go.RowKit
open AV (Mem Keeps)
set_option maxRecDepth 100000
section
variable {P : Program} {C : Ctx} {env : Env} {σ : List Ob} {t : Nat} {ty : TypeId} {pos : String} {after : Array Edge} {gd : Option (Nat × Bool)}
theorem pu_rem256 {xt yt : TypeId} {x y : Operand} {p : Int} (hx : ev env x = .int p) (hy : ev env y = .int 256) : Pur P C ⟨some t, .binOp .rem xt x y yt, ty, pos, after, gd⟩ env σ (.int (p.tmod 256)) :=
  pu_bin hx hy (fun w => by
    have h1 := Int.tmod_lt_of_pos p (show (0 : Int) < 256 by omega)
    have h2 := Int.lt_tmod_of_pos p (show (0 : Int) < 256 by omega)
    have h4 : IntKind.i64.wrap (p.tmod 256) = p.tmod 256 := by simp [IntKind.wrap, IntKind.bits, IntKind.signed]; omega
    simp [go_sem, Op.intDiv, h4])
theorem pu_shl8 {xt yt : TypeId} {x y : Operand} {b s : Int} (hx : ev env x = .int b) (hy : ev env y = .ro (.c (.int .i64 (8 * s)))) (h : 0 ≤ s ∧ s ≤ 3) (hb : 0 ≤ b ∧ b ≤ 255) : Pur P C ⟨some t, .binOp .shl xt x y yt, ty, pos, after, gd⟩ env σ (.int (b * 2 ^ (8 * s).toNat)) := by
  have hs : s = 0 ∨ s = 1 ∨ s = 2 ∨ s = 3 := by omega
  rcases hs with rfl | rfl | rfl | rfl
  all_goals exact pu_bin hx hy (fun w => by simp [go_sem, IntKind.wrap, IntKind.bits, IntKind.signed, Int.shiftLeft_eq]; omega)
end
set_option maxHeartbeats 4000000 in
theorem readSkip_am (m : Mch)  : AM Try.prog 90 (mO m) [0] [.obj 0 0] (mO (mSkip m)) (.tup []) := by
  refine am_enter Try.func90 rfl _ Try.ntmps90 (by simp) (by simp) fun C gs hn => ?_
  repeat' (first
 | refine op_callP 3 (finish_am m _) rfl (by simp [AV.onlys, AV.only]) (by simp [AV.only, AV.onlys]) rfl rfl rfl (mO_free _) (mO_free _) rfl (by first | exact trivial | exact ⟨rfl, trivial⟩ | exact ⟨rfl, rfl, trivial⟩ | exact ⟨rfl, rfl, rfl, trivial⟩ | exact ⟨rfl, rfl, rfl, rfl, trivial⟩) (fun t h => by injection h with h; subst h; exact tl hn rfl) ?_
 | refine RunsL.step tabOk hn rfl ?_
 | refine RunsL.nil ?_
 | refine Runs.toRegion 30 rfl ?_
 | (refine RunsL.pe hn rfl rfl rfl ?_; first
 | refine ⟨_, pu_nilCheckP rfl, ?_⟩
 | refine ⟨_, pu_addW rfl rfl, ?_⟩)
 | (refine Runs.ctls 30 rfl ?_; first | refine Runs.cond_t rfl ?_ | refine Runs.cond_f rfl ?_ | ((first | refine Runs.cond_yes rfl ?_ ?_ | refine Runs.cond_nno rfl ?_ ?_); · first | omega | rfl | assumption | (simp only [List.length_map]; omega)) | ((first | refine Runs.cond_no rfl ?_ ?_ | refine Runs.cond_nyes rfl ?_ ?_); · first | omega | rfl | assumption | (simp only [List.length_map]; omega)) | refine Runs.cond_dec rfl (fun h => ?_) (fun h => ?_) | refine Runs.cond_ndec rfl (fun h => ?_) (fun h => ?_) | refine Runs.cond_nb rfl (fun h => ?_) (fun h => ?_) | refine Runs.cond_b rfl (fun h => ?_) (fun h => ?_) | refine Runs.ret (ends_ro hm rfl rfl ?_) | exact Runs.ret (ends_cellR hm rfl rfl rfl (Nat.le_of_ble_eq_true rfl) rfl rfl))
 | refine op_box rfl (tl hn rfl) ?_
 | refine op_storeF rfl rfl rfl rfl (Nat.le_of_ble_eq_true rfl) ?_
 | refine op_alloc (tl hn rfl) ?_
 | refine op_storeN rfl rfl rfl rfl (Nat.le_of_ble_eq_true rfl) ?_
 | (refine RunsL.pe hn rfl rfl rfl ?_; first
 | refine ⟨_, pu_add rfl rfl (by omega), ?_⟩
 | refine ⟨_, pu_indexAddr_map rfl rfl (by omega) (by assumption), ?_⟩
 | refine ⟨_, pu_sub rfl rfl (by omega), ?_⟩
 | refine ⟨_, pu_pick_b rfl rfl rfl, ?_⟩
 | refine ⟨_, pu_mul rfl rfl (by omega), ?_⟩
 | refine ⟨_, pu_build rfl rfl rfl rfl rfl rfl, ?_⟩))
  · refine Runs.ctls 30 rfl ?_
    refine mO_end (t := 0) (more := []) rfl ?_ rfl
    exact mO_app (by unfold mSkip; rw [if_pos (by assumption)])
  · refine Runs.ctls 30 rfl ?_
    refine mO_end (t := 0) (more := []) rfl ?_ rfl
    rw [show mSkip m = m from by unfold mSkip; rw [if_neg (by assumption)]]
    rfl
set_option maxHeartbeats 4000000 in
theorem readFlag_am (m : Mch) (i : Ins) (b : Int) : AM Try.prog 86 (mO m) [0] [.obj 0 0, .ro (.agg (insR i)), .int b] (mO (if 1 < b then mFail m 4 else if m.left ≠ 0 then m else { m with started := false, pc := if b = 0 then i.a else w64 (m.pc + 1) })) (.tup []) := by
  refine am_enter Try.func86 rfl _ Try.ntmps86 (by simp) (by simp) fun C gs hn => ?_
  repeat' (first
 | refine op_callP 3 (failWith_am m 4) rfl (by simp [AV.onlys, AV.only]) (by simp [AV.only, AV.onlys]) rfl rfl rfl (mO_free _) (mO_free _) rfl (by first | exact trivial | exact ⟨rfl, trivial⟩ | exact ⟨rfl, rfl, trivial⟩ | exact ⟨rfl, rfl, rfl, trivial⟩ | exact ⟨rfl, rfl, rfl, rfl, trivial⟩) (fun t h => by injection h with h; subst h; exact tl hn rfl) ?_
 | refine op_callP 3 (finish_am m _) rfl (by simp [AV.onlys, AV.only]) (by simp [AV.only, AV.onlys]) rfl rfl rfl (mO_free _) (mO_free _) rfl (by first | exact trivial | exact ⟨rfl, trivial⟩ | exact ⟨rfl, rfl, trivial⟩ | exact ⟨rfl, rfl, rfl, trivial⟩ | exact ⟨rfl, rfl, rfl, rfl, trivial⟩) (fun t h => by injection h with h; subst h; exact tl hn rfl) ?_
 | refine RunsL.step tabOk hn rfl ?_
 | refine RunsL.nil ?_
 | refine Runs.toRegion 30 rfl ?_
 | (refine RunsL.pe hn rfl rfl rfl ?_; first
 | refine ⟨_, pu_nilCheckP rfl, ?_⟩
 | refine ⟨_, pu_addW rfl rfl, ?_⟩)
 | (refine Runs.ctls 30 rfl ?_; first | refine Runs.cond_t rfl ?_ | refine Runs.cond_f rfl ?_ | ((first | refine Runs.cond_yes rfl ?_ ?_ | refine Runs.cond_nno rfl ?_ ?_); · first | omega | rfl | assumption | (simp only [List.length_map]; omega)) | ((first | refine Runs.cond_no rfl ?_ ?_ | refine Runs.cond_nyes rfl ?_ ?_); · first | omega | rfl | assumption | (simp only [List.length_map]; omega)) | refine Runs.cond_dec rfl (fun h => ?_) (fun h => ?_) | refine Runs.cond_ndec rfl (fun h => ?_) (fun h => ?_) | refine Runs.cond_nb rfl (fun h => ?_) (fun h => ?_) | refine Runs.cond_b rfl (fun h => ?_) (fun h => ?_) | refine Runs.ret (ends_ro hm rfl rfl ?_) | exact Runs.ret (ends_cellR hm rfl rfl rfl (Nat.le_of_ble_eq_true rfl) rfl rfl))
 | refine op_box rfl (tl hn rfl) ?_
 | refine op_storeF rfl rfl rfl rfl (Nat.le_of_ble_eq_true rfl) ?_
 | refine op_alloc (tl hn rfl) ?_
 | refine op_storeN rfl rfl rfl rfl (Nat.le_of_ble_eq_true rfl) ?_
 | (refine RunsL.pe hn rfl rfl rfl ?_; first
 | refine ⟨_, pu_add rfl rfl (by omega), ?_⟩
 | refine ⟨_, pu_indexAddr_map rfl rfl (by omega) (by assumption), ?_⟩
 | refine ⟨_, pu_sub rfl rfl (by omega), ?_⟩
 | refine ⟨_, pu_pick_b rfl rfl rfl, ?_⟩
 | refine ⟨_, pu_mul rfl rfl (by omega), ?_⟩
 | refine ⟨_, pu_build rfl rfl rfl rfl rfl rfl, ?_⟩))
  all_goals refine Runs.ctls 30 rfl ?_
  all_goals first
    | refine mO_end (t := 0) (more := [⟨74, 0, (insR i).map .ro⟩]) rfl ?_ rfl
    | refine mO_ret (t := 0) (more := [⟨74, 0, (insR i).map .ro⟩]) rfl ?_ rfl
  all_goals first
    | (refine mO_app ?_; simp [*]; done)
    | (refine (show _ = mO m ++ _ from rfl).trans (mO_app ?_); simp [*]; done)
set_option maxHeartbeats 4000000 in
theorem readUntil_am (m : Mch) (i : Ins) (b : Int) : AM Try.prog 88 (mO m) [0] [.obj 0 0, .ro (.agg (insR i)), .int b] (mO (if m.escaped = false ∧ b = i.a then mSkip m else { m with escaped := !m.escaped && decide (b = 92), left := 1 })) (.tup []) := by
  refine am_enter Try.func88 rfl _ Try.ntmps88 (by simp) (by simp) fun C gs hn => ?_
  repeat' (first
 | refine op_callP 3 (readSkip_am m) rfl (by simp [AV.onlys, AV.only]) (by simp [AV.only, AV.onlys]) rfl rfl rfl (mO_free _) (mO_free _) rfl (by first | exact trivial | exact ⟨rfl, trivial⟩ | exact ⟨rfl, rfl, trivial⟩ | exact ⟨rfl, rfl, rfl, trivial⟩ | exact ⟨rfl, rfl, rfl, rfl, trivial⟩) (fun t h => by injection h with h; subst h; exact tl hn rfl) ?_
 | refine RunsL.step tabOk hn rfl ?_
 | refine RunsL.nil ?_
 | refine Runs.toRegion 30 rfl ?_
 | (refine RunsL.pe hn rfl rfl rfl ?_; first
 | refine ⟨_, pu_nilCheckP rfl, ?_⟩)
 | (refine Runs.ctls 30 rfl ?_; first | refine Runs.cond_t rfl ?_ | refine Runs.cond_f rfl ?_ | ((first | refine Runs.cond_yes rfl ?_ ?_ | refine Runs.cond_nno rfl ?_ ?_); · first | omega | rfl | assumption | (simp only [List.length_map]; omega)) | ((first | refine Runs.cond_no rfl ?_ ?_ | refine Runs.cond_nyes rfl ?_ ?_); · first | omega | rfl | assumption | (simp only [List.length_map]; omega)) | refine Runs.cond_dec rfl (fun h => ?_) (fun h => ?_) | refine Runs.cond_ndec rfl (fun h => ?_) (fun h => ?_) | refine Runs.cond_nb rfl (fun h => ?_) (fun h => ?_) | refine Runs.cond_b rfl (fun h => ?_) (fun h => ?_) | refine Runs.ret (ends_ro hm rfl rfl ?_) | exact Runs.ret (ends_cellR hm rfl rfl rfl (Nat.le_of_ble_eq_true rfl) rfl rfl))
 | refine op_box rfl (tl hn rfl) ?_
 | refine op_storeF rfl rfl rfl rfl (Nat.le_of_ble_eq_true rfl) ?_
 | refine op_alloc (tl hn rfl) ?_
 | refine op_storeN rfl rfl rfl rfl (Nat.le_of_ble_eq_true rfl) ?_
 | (refine RunsL.pe hn rfl rfl rfl ?_; first
 | refine ⟨_, pu_add rfl rfl (by omega), ?_⟩
 | refine ⟨_, pu_indexAddr_map rfl rfl (by omega) (by assumption), ?_⟩
 | refine ⟨_, pu_sub rfl rfl (by omega), ?_⟩
 | refine ⟨_, pu_pick_b rfl rfl rfl, ?_⟩
 | refine ⟨_, pu_mul rfl rfl (by omega), ?_⟩
 | refine ⟨_, pu_build rfl rfl rfl rfl rfl rfl, ?_⟩)
 | ((first | refine RunsL.guard_dec rfl rfl rfl ?_ ?_ | refine RunsL.guard_ndec rfl rfl rfl ?_ ?_ | refine RunsL.guard_nb rfl rfl rfl ?_ ?_ | refine RunsL.guard_b rfl rfl rfl ?_ ?_) <;> intro h <;> try (exfalso; first | omega | contradiction | (simp only [List.length_map] at h; omega))))
  all_goals refine Runs.ctls 30 rfl ?_
  all_goals first
    | refine mO_end (t := 0) (more := [⟨74, 0, (insR i).map .ro⟩]) rfl ?_ rfl
    | refine mO_ret (t := 0) (more := [⟨74, 0, (insR i).map .ro⟩]) rfl ?_ rfl
  all_goals first
    | (refine mO_app ?_; simp [*]; done)
    | (exfalso; simp_all; done)
    | (refine (show _ = mO { m with escaped := decide (b = 92), left := 1 } ++ _ from rfl).trans (mO_app ?_); simp [*]; done)
    | (refine (show _ = mO { m with escaped := false, left := 1 } ++ _ from rfl).trans (mO_app ?_); simp [*]; done)
set_option maxHeartbeats 4000000 in
theorem readInteger_am (m : Mch) (i : Ins) (b : Int) (hs : i.b = 1 → 0 ≤ i.a - m.left - 1 ∧ i.a - m.left - 1 ≤ 3 ∧ 0 ≤ i.a ∧ i.a ≤ 4) (hb : 0 ≤ b ∧ b ≤ 255) : AM Try.prog 84 (mO m) [0] [.obj 0 0, .ro (.agg (insR i)), .int b] (mO (mSkip { m with register := if i.b = 1 then w64 (m.register + b * 2 ^ (8 * (i.a - m.left - 1)).toNat) else w64 (w64 (256 * m.register) + b) })) (.tup []) := by
  refine am_enter Try.func84 rfl _ Try.ntmps84 (by simp) (by simp) fun C gs hn => ?_
  by_cases h1 : i.b = 1
  · obtain ⟨s1, s2, s3, s4⟩ := hs h1
    repeat' (first
 | refine Runs.toDrawT (id := 2) 30 [] [0, 1, 2, 3, 4, 5, 6, 7, 8, 9, 10, 11, 12, 13, 14, 15, 16, 17] 18 [] mixed hn rfl (by kernel_rfl) rfl .nil (by decide) (by decide) (by decide) ?_
 | refine op_callP 3 (readSkip_am { m with register := w64 (m.register + b * 2 ^ (8 * (i.a - m.left - 1)).toNat) }) rfl (by simp [AV.onlys, AV.only]) (by simp [AV.only, AV.onlys]) rfl rfl rfl (mO_free _) (mO_free _) rfl (by first | exact trivial | exact ⟨rfl, trivial⟩ | exact ⟨rfl, rfl, trivial⟩ | exact ⟨rfl, rfl, rfl, trivial⟩ | exact ⟨rfl, rfl, rfl, rfl, trivial⟩) (fun t h => by injection h with h; subst h; exact tl hn rfl) ?_
 | refine RunsT.nil ?_
 | refine RunsT.step tabOk rfl rfl (fun _ => rfl) (by decide) ?_
 | refine RunsT.pur (fun _ => pu_nilCheckP rfl) (by decide) rfl rfl ?_
 | refine RunsT.pur (fun _ => pu_shl8 rfl rfl ⟨by omega, by omega⟩ hb) (by decide) rfl rfl ?_
 | refine RunsT.pur (fun _ => pu_sub rfl rfl (by omega)) (by decide) rfl rfl ?_
 | refine RunsT.pur (fun _ => pu_mul rfl rfl (by omega)) (by decide) rfl rfl ?_
 | refine RunsT.pur (fun _ => pu_addW (t := 24) rfl rfl) (by decide) rfl rfl ?_
 | refine RunsT.pur (fun _ => pu_add rfl rfl (by omega)) (by decide) rfl rfl ?_
 | refine RunsT.pur (fun _ => pu_indexAddr_map rfl rfl (by omega) (by assumption)) (by decide) rfl rfl ?_
 | refine RunsT.alloc (p := 0) rfl inferInstance ?_
 | refine RunsT.alloc (p := 1) rfl inferInstance ?_
 | refine RunsL.step tabOk hn rfl ?_
 | refine RunsL.nil ?_
 | refine Runs.toRegion 30 rfl ?_
 | ((first | refine RunsL.pe hn rfl rfl rfl ?_ | refine RunsD.pe rfl rfl ?_); first
 | refine ⟨_, pu_nilCheckP rfl, ?_⟩
 | refine ⟨_, pu_shl8 rfl rfl ⟨by omega, by omega⟩ hb, ?_⟩
 | refine ⟨_, pu_sub rfl rfl (by omega), ?_⟩
 | refine ⟨_, pu_mul rfl rfl (by omega), ?_⟩
 | refine ⟨_, pu_addW (t := 24) rfl rfl, ?_⟩)
 | (refine Runs.ctls 30 rfl ?_; first | refine Runs.cond_t rfl ?_ | refine Runs.cond_f rfl ?_ | ((first | refine Runs.cond_yes rfl ?_ ?_ | refine Runs.cond_nno rfl ?_ ?_); · first | omega | rfl | assumption | (simp only [List.length_map]; omega)) | ((first | refine Runs.cond_no rfl ?_ ?_ | refine Runs.cond_nyes rfl ?_ ?_); · first | omega | rfl | assumption | (simp only [List.length_map]; omega)) | refine Runs.cond_dec rfl (fun h => ?_) (fun h => ?_) | refine Runs.cond_ndec rfl (fun h => ?_) (fun h => ?_) | refine Runs.cond_nb rfl (fun h => ?_) (fun h => ?_) | refine Runs.cond_b rfl (fun h => ?_) (fun h => ?_) | refine Runs.ret (ends_ro hm rfl rfl ?_) | exact Runs.ret (ends_cellR hm rfl rfl rfl (Nat.le_of_ble_eq_true rfl) rfl rfl))
 | refine op_box rfl (tl hn rfl) ?_
 | refine op_storeF rfl rfl rfl rfl (Nat.le_of_ble_eq_true rfl) ?_
 | refine op_alloc (tl hn rfl) ?_
 | refine op_storeN rfl rfl rfl rfl (Nat.le_of_ble_eq_true rfl) ?_
 | refine RunsD.step tabOk hn rfl rfl ?_
 | refine RunsD.nil ?_
 | refine Runs.toDraw 30 mixed hn rfl (by kernel_rfl) rfl ?_
 | ((first | refine RunsL.pe hn rfl rfl rfl ?_ | refine RunsD.pe rfl rfl ?_); first
 | refine ⟨_, pu_add rfl rfl (by omega), ?_⟩
 | refine ⟨_, pu_indexAddr_map rfl rfl (by omega) (by assumption), ?_⟩
 | refine ⟨_, pu_sub rfl rfl (by omega), ?_⟩
 | refine ⟨_, pu_pick_b rfl rfl rfl, ?_⟩
 | refine ⟨_, pu_mul rfl rfl (by omega), ?_⟩
 | refine ⟨_, pu_build rfl rfl rfl rfl rfl rfl, ?_⟩))
    refine Runs.ctls 30 rfl ?_
    refine mO_end (t := 0) (more := [⟨74, 0, (insR i).map .ro⟩]) rfl ?_ rfl
    exact mO_app (by rw [if_pos h1])
  · repeat' (first
 | refine op_callP 3 (readSkip_am { m with register := w64 (w64 (256 * m.register) + b) }) rfl (by simp [AV.onlys, AV.only]) (by simp [AV.only, AV.onlys]) rfl rfl rfl (mO_free _) (mO_free _) rfl (by first | exact trivial | exact ⟨rfl, trivial⟩ | exact ⟨rfl, rfl, trivial⟩ | exact ⟨rfl, rfl, rfl, trivial⟩ | exact ⟨rfl, rfl, rfl, rfl, trivial⟩) (fun t h => by injection h with h; subst h; exact tl hn rfl) ?_
 | refine RunsL.step tabOk hn rfl ?_
 | refine RunsL.nil ?_
 | refine Runs.toRegion 30 rfl ?_
 | ((first | refine RunsL.pe hn rfl rfl rfl ?_ | refine RunsD.pe rfl rfl ?_); first
 | refine ⟨_, pu_nilCheckP rfl, ?_⟩
 | refine ⟨_, pu_mulW rfl rfl, ?_⟩
 | refine ⟨_, pu_addW (t := 34) rfl rfl, ?_⟩)
 | (refine Runs.ctls 30 rfl ?_; first | refine Runs.cond_t rfl ?_ | refine Runs.cond_f rfl ?_ | ((first | refine Runs.cond_yes rfl ?_ ?_ | refine Runs.cond_nno rfl ?_ ?_); · first | omega | rfl | assumption | (simp only [List.length_map]; omega)) | ((first | refine Runs.cond_no rfl ?_ ?_ | refine Runs.cond_nyes rfl ?_ ?_); · first | omega | rfl | assumption | (simp only [List.length_map]; omega)) | refine Runs.cond_dec rfl (fun h => ?_) (fun h => ?_) | refine Runs.cond_ndec rfl (fun h => ?_) (fun h => ?_) | refine Runs.cond_nb rfl (fun h => ?_) (fun h => ?_) | refine Runs.cond_b rfl (fun h => ?_) (fun h => ?_) | refine Runs.ret (ends_ro hm rfl rfl ?_) | exact Runs.ret (ends_cellR hm rfl rfl rfl (Nat.le_of_ble_eq_true rfl) rfl rfl))
 | refine op_box rfl (tl hn rfl) ?_
 | refine op_storeF rfl rfl rfl rfl (Nat.le_of_ble_eq_true rfl) ?_
 | refine op_alloc (tl hn rfl) ?_
 | refine op_storeN rfl rfl rfl rfl (Nat.le_of_ble_eq_true rfl) ?_
 | refine RunsD.step tabOk hn rfl rfl ?_
 | refine RunsD.nil ?_
 | refine Runs.toDraw 30 mixed hn rfl (by kernel_rfl) rfl ?_
 | ((first | refine RunsL.pe hn rfl rfl rfl ?_ | refine RunsD.pe rfl rfl ?_); first
 | refine ⟨_, pu_add rfl rfl (by omega), ?_⟩
 | refine ⟨_, pu_indexAddr_map rfl rfl (by omega) (by assumption), ?_⟩
 | refine ⟨_, pu_sub rfl rfl (by omega), ?_⟩
 | refine ⟨_, pu_pick_b rfl rfl rfl, ?_⟩
 | refine ⟨_, pu_mul rfl rfl (by omega), ?_⟩
 | refine ⟨_, pu_build rfl rfl rfl rfl rfl rfl, ?_⟩))
    refine Runs.ctls 30 rfl ?_
    refine mO_end (t := 0) (more := [⟨74, 0, (insR i).map .ro⟩]) rfl ?_ rfl
    exact mO_app (by rw [if_neg h1])
end Go.Proofs.Ytkhnijggbfoimaa
/- The machine counts a byte. -/
namespace Go.Proofs.Ytkhnijggbfoimaa
set_option linter.unusedSimpArgs false
set_option linter.unusedVariables false
open Go.RowKit
open AV (Mem Keeps)
set_option maxRecDepth 100000
def cntF (b z : Int) : Int := (w64 (z + b)).tmod 256
def cntS (b : Int) (s : List Int) (j : Nat) : List Int := (s.take j).map (cntF b) ++ s.drop j
theorem cntS_len (b : Int) (s : List Int) (j : Nat) : (cntS b s j).length = s.length := by
  unfold cntS
  rw [List.length_append, List.length_map, List.length_take, List.length_drop]
  omega
theorem cntS_at {b : Int} {s : List Int} {j : Nat} {z : Int} (h : s[j]? = some z) : (cntS b s j)[j]? = some z := by
  have hj := (List.getElem?_eq_some_iff.1 h).1
  unfold cntS
  rw [List.getElem?_append_right (by rw [List.length_map, List.length_take]; omega), List.length_map, List.length_take, List.getElem?_drop]
  rw [show j + (j - min j s.length) = j by omega, h]
theorem cntS_next {b : Int} {s : List Int} {j : Nat} {z : Int} (h : s[j]? = some z) : (cntS b s j).set j (cntF b z) = cntS b s (j + 1) := by
  have hj := (List.getElem?_eq_some_iff.1 h).1
  have hlen : ((s.take j).map (cntF b)).length = j := by rw [List.length_map, List.length_take]; omega
  have hd : s.drop j = z :: s.drop (j + 1) := by
    rw [List.drop_eq_getElem_cons hj]
    have := (List.getElem?_eq_some_iff.1 h).2
    rw [this]
  unfold cntS
  rw [List.set_append_right _ _ (by omega), hlen, Nat.sub_self, hd, List.set_cons_zero, List.take_add_one, h, List.map_append, List.append_assoc]
  rfl
set_option maxHeartbeats 4000000 in
theorem count_am (m : Mch) (b : Int) (hm : MLen m) : AM Try.prog 82 (mO m) [0] [.obj 0 0, .int b] (mO (mCount m b)) (.tup []) := by
  refine am_enter Try.func82 rfl _ Try.ntmps82 (by simp) (by simp) fun C gs hn => ?_
  have hb := hm.2
  have hl : ((m.sums.map RV.int).map AV.ro).length = m.sums.length * 1 := by simp
  repeat' (first
 | refine RunsL.step tabOk hn rfl ?_
 | refine RunsL.nil ?_
 | refine Runs.toRegion 30 rfl ?_
 | ((first | refine RunsL.pe hn rfl rfl rfl ?_ | refine RunsD.pe rfl rfl ?_); first
 | refine ⟨_, pu_nilCheckP rfl, ?_⟩
 | refine ⟨_, pu_len_own (n := m.sums.length) rfl rfl hl, ?_⟩)
 | (refine Runs.ctls 30 rfl ?_; first | refine Runs.cond_t rfl ?_ | refine Runs.cond_f rfl ?_ | ((first | refine Runs.cond_yes rfl ?_ ?_ | refine Runs.cond_nno rfl ?_ ?_); · first | omega | rfl | assumption | (simp only [List.length_map]; omega)) | ((first | refine Runs.cond_no rfl ?_ ?_ | refine Runs.cond_nyes rfl ?_ ?_); · first | omega | rfl | assumption | (simp only [List.length_map]; omega)) | refine Runs.cond_dec rfl (fun h => ?_) (fun h => ?_) | refine Runs.cond_ndec rfl (fun h => ?_) (fun h => ?_) | refine Runs.cond_nb rfl (fun h => ?_) (fun h => ?_) | refine Runs.cond_b rfl (fun h => ?_) (fun h => ?_) | refine Runs.ret (ends_ro hm rfl rfl ?_) | exact Runs.ret (ends_cellR hm rfl rfl rfl (Nat.le_of_ble_eq_true rfl) rfl rfl))
 | refine op_box rfl (tl hn rfl) ?_
 | refine op_storeF rfl rfl rfl rfl (Nat.le_of_ble_eq_true rfl) ?_
 | refine op_alloc (tl hn rfl) ?_
 | refine op_storeN rfl rfl rfl rfl (Nat.le_of_ble_eq_true rfl) ?_
 | refine RunsD.step tabOk hn rfl rfl ?_
 | refine RunsD.nil ?_
 | refine Runs.toDraw 30 mixed hn rfl (by kernel_rfl) rfl ?_
 | ((first | refine RunsL.pe hn rfl rfl rfl ?_ | refine RunsD.pe rfl rfl ?_); first
 | refine ⟨_, pu_add rfl rfl (by omega), ?_⟩
 | refine ⟨_, pu_indexAddr_map rfl rfl (by omega) (by assumption), ?_⟩
 | refine ⟨_, pu_sub rfl rfl (by omega), ?_⟩
 | refine ⟨_, pu_pick_b rfl rfl rfl, ?_⟩
 | refine ⟨_, pu_mul rfl rfl (by omega), ?_⟩
 | refine ⟨_, pu_build rfl rfl rfl rfl rfl rfl, ?_⟩))
  refine Runs.loopN 30 rfl (fun j => [(0, .pin 0 0 (gs 0)), (1, .int b), (9, .int (m.sums.length : Int)), (10, .int (j : Int))]) (fun j => mO { m with sums := cntS b m.sums j }) (fun _ => True) m.sums.length 0 (Nat.zero_le _) trivial ⟨rfl, rfl, rfl, rfl, trivial⟩ (by rw [show cntS b m.sums 0 = m.sums by simp [cntS]]) fun j hj _ next => ?_
  have hcl : (((cntS b m.sums j).map RV.int).map AV.ro).length = m.sums.length * 1 := by simp [cntS_len]
  by_cases hlt : j < m.sums.length
  · obtain ⟨z, hz⟩ : ∃ z, m.sums[j]? = some z := ⟨_, List.getElem?_eq_getElem hlt⟩
    have hc := cntS_at (b := b) hz
    have hc' : (((cntS b m.sums j).map RV.int).map AV.ro)[(j : Int).toNat * 1]? = some (.ro (.int z)) := by simp [hc]
    repeat' (first
 | refine Runs.toDrawT (id := 3) 30 [] [0, 1, 2, 3, 4, 5, 6, 7, 8, 9, 10, 11, 12, 13, 14, 15] 16 [] mixed hn rfl (by kernel_rfl) rfl .nil (by decide) (by decide) (by decide) ?_
 | refine op_storeF rfl rfl rfl rfl (by simp [cntS_len]; omega) ?_
 | refine RunsT.nil ?_
 | refine RunsT.step tabOk rfl rfl (fun _ => rfl) (by decide) ?_
 | refine RunsT.pur (fun _ => pu_nilCheckP rfl) (by decide) rfl rfl ?_
 | refine RunsT.pur (fun _ => pu_indexAddr_own (n := m.sums.length) (sz := 1) rfl rfl rfl rfl hcl (by omega) (by omega)) (by decide) rfl rfl ?_
 | refine RunsT.pur (fun _ => pu_load_obj rfl rfl hc') (by decide) rfl rfl ?_
 | refine RunsT.pur (fun _ => pu_rem256 rfl rfl) (by decide) rfl rfl ?_
 | refine RunsT.pur (fun _ => pu_addW (t := 26) rfl rfl) (by decide) rfl rfl ?_
 | refine RunsT.pur (fun _ => pu_add rfl rfl (by omega)) (by decide) rfl rfl ?_
 | refine RunsT.pur (fun _ => pu_indexAddr_map rfl rfl (by omega) (by assumption)) (by decide) rfl rfl ?_
 | refine RunsT.alloc (p := 0) rfl inferInstance ?_
 | refine RunsT.alloc (p := 1) rfl inferInstance ?_
 | refine RunsL.step tabOk hn rfl ?_
 | refine RunsL.nil ?_
 | refine Runs.toRegion 30 rfl ?_
 | ((first | refine RunsL.pe hn rfl rfl rfl ?_ | refine RunsD.pe rfl rfl ?_); first
 | refine ⟨_, pu_nilCheckP rfl, ?_⟩
 | refine ⟨_, pu_indexAddr_own (n := m.sums.length) (sz := 1) rfl rfl rfl rfl hcl (by omega) (by omega), ?_⟩
 | refine ⟨_, pu_load_obj rfl rfl hc', ?_⟩
 | refine ⟨_, pu_rem256 rfl rfl, ?_⟩
 | refine ⟨_, pu_addW (t := 26) rfl rfl, ?_⟩)
 | (refine Runs.ctls 30 rfl ?_; first | refine Runs.cond_t rfl ?_ | refine Runs.cond_f rfl ?_ | ((first | refine Runs.cond_yes rfl ?_ ?_ | refine Runs.cond_nno rfl ?_ ?_); · first | omega | rfl | assumption | (simp only [List.length_map]; omega)) | ((first | refine Runs.cond_no rfl ?_ ?_ | refine Runs.cond_nyes rfl ?_ ?_); · first | omega | rfl | assumption | (simp only [List.length_map]; omega)) | refine Runs.cond_dec rfl (fun h => ?_) (fun h => ?_) | refine Runs.cond_ndec rfl (fun h => ?_) (fun h => ?_) | refine Runs.cond_nb rfl (fun h => ?_) (fun h => ?_) | refine Runs.cond_b rfl (fun h => ?_) (fun h => ?_) | refine Runs.ret (ends_ro hm rfl rfl ?_) | exact Runs.ret (ends_cellR hm rfl rfl rfl (Nat.le_of_ble_eq_true rfl) rfl rfl))
 | refine op_box rfl (tl hn rfl) ?_
 | refine op_storeF rfl rfl rfl rfl (Nat.le_of_ble_eq_true rfl) ?_
 | refine op_alloc (tl hn rfl) ?_
 | refine op_storeN rfl rfl rfl rfl (Nat.le_of_ble_eq_true rfl) ?_
 | refine RunsD.step tabOk hn rfl rfl ?_
 | refine RunsD.nil ?_
 | refine Runs.toDraw 30 mixed hn rfl (by kernel_rfl) rfl ?_
 | ((first | refine RunsL.pe hn rfl rfl rfl ?_ | refine RunsD.pe rfl rfl ?_); first
 | refine ⟨_, pu_add rfl rfl (by omega), ?_⟩
 | refine ⟨_, pu_indexAddr_map rfl rfl (by omega) (by assumption), ?_⟩
 | refine ⟨_, pu_sub rfl rfl (by omega), ?_⟩
 | refine ⟨_, pu_pick_b rfl rfl rfl, ?_⟩
 | refine ⟨_, pu_mul rfl rfl (by omega), ?_⟩
 | refine ⟨_, pu_build rfl rfl rfl rfl rfl rfl, ?_⟩))
    refine next _ _ ⟨rfl, rfl, rfl, rfl, trivial⟩ hlt trivial ?_
    rw [← cntS_next hz]
    unfold mO
    simp only []
    rw [List.map_set, List.map_set, show (((cntS b m.sums j).map RV.int).map AV.ro).set j (AV.ro (RV.int (cntF b z))) = (((cntS b m.sums j).map RV.int).map AV.ro).set ((j : Int).toNat * 1) (AV.ro (RV.int (cntF b z))) from by rw [show (j : Int).toNat * 1 = j by simp]]
    rfl
  · obtain rfl : j = m.sums.length := by omega
    repeat' (first
 | refine RunsL.step tabOk hn rfl ?_
 | refine RunsL.nil ?_
 | refine Runs.toRegion 30 rfl ?_
 | ((first | refine RunsL.pe hn rfl rfl rfl ?_ | refine RunsD.pe rfl rfl ?_); first
 | refine ⟨_, pu_nilCheckP rfl, ?_⟩
 | refine ⟨_, pu_addW rfl rfl, ?_⟩
 | refine ⟨_, pu_subW rfl rfl, ?_⟩)
 | (refine Runs.ctls 30 rfl ?_; first | refine Runs.cond_t rfl ?_ | refine Runs.cond_f rfl ?_ | ((first | refine Runs.cond_yes rfl ?_ ?_ | refine Runs.cond_nno rfl ?_ ?_); · first | omega | rfl | assumption | (simp only [List.length_map]; omega)) | ((first | refine Runs.cond_no rfl ?_ ?_ | refine Runs.cond_nyes rfl ?_ ?_); · first | omega | rfl | assumption | (simp only [List.length_map]; omega)) | refine Runs.cond_dec rfl (fun h => ?_) (fun h => ?_) | refine Runs.cond_ndec rfl (fun h => ?_) (fun h => ?_) | refine Runs.cond_nb rfl (fun h => ?_) (fun h => ?_) | refine Runs.cond_b rfl (fun h => ?_) (fun h => ?_) | refine Runs.ret (ends_ro hm rfl rfl ?_) | exact Runs.ret (ends_cellR hm rfl rfl rfl (Nat.le_of_ble_eq_true rfl) rfl rfl))
 | refine op_box rfl (tl hn rfl) ?_
 | refine op_storeF rfl rfl rfl rfl (Nat.le_of_ble_eq_true rfl) ?_
 | refine op_alloc (tl hn rfl) ?_
 | refine op_storeN rfl rfl rfl rfl (Nat.le_of_ble_eq_true rfl) ?_
 | refine RunsD.step tabOk hn rfl rfl ?_
 | refine RunsD.nil ?_
 | refine Runs.toDraw 30 mixed hn rfl (by kernel_rfl) rfl ?_
 | ((first | refine RunsL.pe hn rfl rfl rfl ?_ | refine RunsD.pe rfl rfl ?_); first
 | refine ⟨_, pu_add rfl rfl (by omega), ?_⟩
 | refine ⟨_, pu_indexAddr_map rfl rfl (by omega) (by assumption), ?_⟩
 | refine ⟨_, pu_sub rfl rfl (by omega), ?_⟩
 | refine ⟨_, pu_pick_b rfl rfl rfl, ?_⟩
 | refine ⟨_, pu_mul rfl rfl (by omega), ?_⟩
 | refine ⟨_, pu_build rfl rfl rfl rfl rfl rfl, ?_⟩))
    refine Runs.ctls 30 rfl ?_
    refine mO_end (t := 0) (more := []) rfl ?_ rfl
    rw [show mCount m b = { m with sums := cntS b m.sums m.sums.length, read := w64 (m.read + 1), left := w64 (m.left - 1) } from by simp [mCount, cntS, cntF]]
    rfl
end Go.Proofs.Ytkhnijggbfoimaa
/- Closures that hold objects of the frame's. Over any program. -/
namespace Go.Proofs.Ytkhnijggbfoimaa
set_option linter.unusedSimpArgs false
set_option linter.unusedVariables false
open Go.RowKit
open AV (Mem Keeps)
theorem avs_app {m : Mem} : ∀ (xs : List AV) (us : List Value) {ys : List AV} {vs : List Value}, AV.rels m xs us → AV.rels m ys vs → AV.rels m (xs ++ ys) (us ++ vs)
  | [], us, ys, vs, h, h' => by
    simp only [AV.rels] at h
    subst h
    exact h'
  | x :: xs, us, ys, vs, h, h' => by
    simp only [AV.rels] at h
    obtain ⟨u, us', rfl, h1, h2⟩ := h
    simp only [List.cons_append, AV.rels]
    exact ⟨u, us' ++ vs, rfl, h1, avs_app xs us' h2 h'⟩
section
variable {P : Program} {C : Ctx} {ops : Array Oper} {rest : List Oper} {k : List Item} {R : Act → World → Prop} {env : Env} {σ : List Ob} {t : Nat} {ty : TypeId} {pos : String} {after : Array Edge}
/-- A closure is called; it holds what stands behind the arguments. -/
theorem op_callMC {f : FuncId} {fn : Func} {x : Operand} {xs : Array Operand} {ats : Array TypeId} {σ0 σ1 : List Ob} {st : List Nat} {args cap : List AV} {v : AV} {d : Option Nat} [hfn : FN P f fn] (ι : List Nat) (hx : ev env x = .fn (.func f) [] cap) (hf : AM P f σ0 st args σ1 v)
    (ha : (xs.toList.map (ev env) ++ cap).map unpin = AV.rens (rof ι) args) (hcl : AV.onlys (fun i => i < σ0.length) args) (hL : Lent ι st σ σ0 σ1) (ht : ∀ t, d = some t → t < C.n)
    (hk : RunsL P C ops rest k R ⟨putEnv d (v.ren (rof ι)) (ridEnv (lentB ι) (stB' ι st) env), putObs ι σ σ1 0⟩) :
    RunsL P C ops (⟨d, .call { callee := .value x, args := xs, argTypes := ats }, ty, pos, after, none⟩ :: rest) k R ⟨env, σ⟩ := by
  refine ⟨fun a w ⟨s1, s2, φ, hG, hH⟩ => ?_⟩
  refine wpList_plain rfl fun K hK' => ?_
  have h0 := ev_rel hH x
  rw [hx] at h0
  simp only [AV.rel, AV.rels] at h0
  obtain ⟨us, vs, e, hu, hv0⟩ := h0
  have hu' : us = #[] := by cases us; simp_all
  subst hu'
  have hr := rels_unpin _ _ (avs_app _ _ (rels_eval (a := a) (m := ⟨w, φ, σ, C.ok⟩) xs.toList fun x hx => ev_rel hH x) hv0)
  rw [ha] at hr
  obtain ⟨hG0, hun⟩ := lent_good hL hG rfl
  have key : ∀ (vs : List AV) (us : List Value), AV.onlys (fun i => i < σ0.length) vs → AV.rels ⟨w, φ, σ, C.ok⟩ (AV.rens (rof ι) vs) us → AV.rels ⟨w, fun j => φ (rof ι j), σ0, fun b => C.ok b ∧ ∀ i, i < σ.length → lentB ι i = false → φ i ≠ some b⟩ vs us := by
    intro vs
    induction vs with
    | nil => intro us _ h; simpa [AV.rens, AV.rels] using h
    | cons x xs ih =>
      intro us ho h
      simp only [AV.rens, AV.rels, AV.onlys] at h ho ⊢
      obtain ⟨u, us', e, h1, h2⟩ := h
      exact ⟨u, us', e, hun x u ho.1 h1, ih us' ho.2 h2⟩
  unfold Oper.wp execOp
  simp only [resolve, e, Deferred.ofValue, Sem.run_bind, Sem.run_pure, Result.andThen_ok, invoke]
  rw [run_call hfn]
  simp only [Oper.upon]
  refine (hf w _ _ _ hG0 (by simpa using key args _ hcl hr)).mono ?_
  rintro e w' ⟨u, φ1, rfl, hG1, hv, hst⟩
  obtain ⟨φ', g1, g2, g3⟩ := lent_step hL hG rfl hG1 hst
  cases d with
  | none => exact hK' _ _ (hk.run _ _ ⟨s1, s2, φ', g1, fun s => by rw [show look (⟨putEnv none _ _, _⟩ : St).env s = _ from look_ridEnv _ _ _ _]; exact g2 _ _ (hH s)⟩)
  | some t => exact hK' _ _ (hk.run _ _ ⟨s1, by simp [Act.put, s2], φ', g1, Holds.put (fun s => by rw [look_ridEnv]; exact g2 _ _ (hH s)) (by rw [s2]; exact ht t rfl) (g3 _ _ hv)⟩)
/-- The first n objects are lent to a closure. -/
theorem op_callPC {f : FuncId} {fn : Func} {x : Operand} {xs : Array Operand} {ats : Array TypeId} {σ0 σ1 more : List Ob} {st : List Nat} {args cap : List AV} {v : AV} {d : Option Nat} [hfn : FN P f fn] (n : Nat) (hx : ev env x = .fn (.func f) [] cap) (hf : AM P f σ0 st args σ1 v)
    (ha : (xs.toList.map (ev env) ++ cap).map unpin = args) (hcl : AV.onlys (fun i => i < n) args) (hv : v.only fun i => i < n) (hσ : σ = σ0 ++ more) (hn0 : Nat.beq σ0.length n = true) (hn1 : Nat.beq σ1.length n = true) (h0 : FreeO n σ0) (h1 : FreeO n σ1) (hst : (st.all fun j => Nat.ble (j + 1) n) = true) (hfree : FreeP n st more) (ht : ∀ t, d = some t → t < C.n)
    (hk : RunsL P C ops rest k R ⟨putEnv d v (ridEnv (ltB n) (memB st) env), σ1 ++ more⟩) :
    RunsL P C ops (⟨d, .call { callee := .value x, args := xs, argTypes := ats }, ty, pos, after, none⟩ :: rest) k R ⟨env, σ⟩ := by
  subst hσ
  obtain ⟨hL, hp⟩ := lent_range hn0 hn1 h0 h1 hst hfree
  have hr : ∀ i, i < n → rof (List.range n) i = i := fun i hi => rof_range hi
  have e0 : σ0.length = n := Nat.eq_of_beq_eq_true hn0
  refine op_callMC (List.range n) hx hf (by rw [ha, rens_id hr args hcl]) (by rw [e0]; exact hcl) hL ht ?_
  rw [hp, lentB_range, stB_range hst, ren_id hr v hv]
  exact hk
/-- A pointer at an object that stays is a pointer at it. -/
theorem Pur.unpin {o : Oper} {v : AV} {s i off g : Nat} (hs : look env s = .pin i off g) (h : Pur P C o ((s, .obj i off) :: env) σ v) : Pur P C o env σ v :=
  ⟨fun a m hG hσ hH K Q hK => h.run a m hG hσ (fun x hx => by
    have h0 := hH x hx
    cases x with
    | tmp s' =>
      show AV.rel m (look ((s, .obj i off) :: env) s') _
      rw [look_put]
      split
      · rename_i e
        subst e
        have h1 : AV.rel m (look env s) (a.eval (.tmp s)) := h0
        rw [hs] at h1
        exact unpin_rel (v := .pin i off g) h1
      · exact h0
    | const c => exact h0
    | global c => exact h0
    | func c => exact h0) K Q hK⟩
theorem equalIn_fn {w : World} {xt : TypeId} {f : Fn} {us vs : Array Value} {ps rs : _} {vr : _} (d : Nat) (hu : P.underlying xt = some (.func ps rs vr)) : (Op.equalIn (d + 1) xt (.func f us vs) .nilFunc).run P w = .ok false w := by
  simp [Op.equalIn, run_underlying hu]
/-- A function is not nil. -/
theorem pu_neqNil {gd : Option (Nat × Bool)} {xt yt : TypeId} {x y : Operand} {f : Fn} {a b : List AV} {ps rs : _} {vr : _} (hu : P.underlying xt = some (.func ps rs vr)) (hx : ev env x = .fn f a b) (hy : ev env y = .ro (.c .nilFunc)) : Pur P C ⟨some t, .binOp .neq xt x y yt, ty, pos, after, gd⟩ env σ (.bool true) :=
  Pur.of (fun ac m hG hσ hH => by
    have h := hH x (by simp [Op.operands, Call.operands])
    rw [hx] at h
    simp only [AV.rel] at h
    obtain ⟨us, vs, e, _, _⟩ := h
    have h' := hH y (by simp [Op.operands, Call.operands])
    rw [hy] at h'
    simp only [AV.rel, RV.rel] at h'
    refine ⟨.bool true, ?_, by simp [AV.rel, RV.rel]⟩
    simp only [execOp, e, h']
    simp [go_sem, binOp, Op.equal]
    rw [show Op.maxDepth = 9999 + 1 from rfl, equalIn_fn _ hu]
    rfl)
theorem equalIn_nil {w : World} {xt : TypeId} {ps rs : _} {vr : _} (d : Nat) (hu : P.underlying xt = some (.func ps rs vr)) : (Op.equalIn (d + 1) xt .nilFunc .nilFunc).run P w = .ok true w := by
  simp [Op.equalIn, run_underlying hu]
/-- No function is nil. -/
theorem pu_neqNN {gd : Option (Nat × Bool)} {xt yt : TypeId} {x y : Operand} {ps rs : _} {vr : _} (hu : P.underlying xt = some (.func ps rs vr)) (hx : ev env x = .ro (.c .nilFunc)) (hy : ev env y = .ro (.c .nilFunc)) : Pur P C ⟨some t, .binOp .neq xt x y yt, ty, pos, after, gd⟩ env σ (.bool false) :=
  Pur.of (fun ac m hG hσ hH => by
    have h := hH x (by simp [Op.operands, Call.operands])
    rw [hx] at h
    have h' := hH y (by simp [Op.operands, Call.operands])
    rw [hy] at h'
    simp only [AV.rel, RV.rel] at h h'
    refine ⟨.bool false, ?_, by simp [AV.rel, RV.rel]⟩
    simp only [execOp, h, h']
    simp [go_sem, binOp, Op.equal]
    rw [show Op.maxDepth = 9999 + 1 from rfl, equalIn_nil _ hu]
    rfl)
end
/-- A closure is entered: it knows an object that stays by way of a cell. -/
theorem am_enterG {P : Program} {f : FuncId} {fn : Func} {c : Code} {σ σ' : List Ob} {st : List Nat} {args : List AV} {v : AV} (hf : P.funcs[f]? = some fn) (hb : fn.body = some c) (n : Nat) (hn : fn.ntmps = n) (hl : args.length ≤ n)
    (g j k off : Nat) {o : Ob} (ho : σ[j]? = some o) (hk : o.cs[k]? = some (.pin 0 off g)) (hst : ∀ i ∈ st, i = 0 ∨ ∃ off, AV.obj i off ∈ args)
    (h : ∀ (C : Ctx) (gs : Nat → Nat), C.n = n → gs 0 = g → Runs P C [.code c] (EndsA P C fn gs st σ' v) ⟨startEnvA 0 (args.map (pinA gs)), σ⟩) : AM P f σ st args σ' v := by
  intro w φ ok us hG hu
  have hlen := AV.rels_len args _ hu
  have h0 : φ 0 = some g := by
    have hob := hG.ob j o ho
    simp only at hob
    cases hφ : φ j with
    | none =>
      rw [hφ] at hob
      simp only [ObRel] at hob
      rw [hob] at hk
      simp at hk
    | some b =>
      rw [hφ] at hob
      obtain ⟨us', q1, q2, q3⟩ := hob
      obtain ⟨u, e1, e2, e3⟩ := q3 k _ hk
      simp only [AV.rel] at e3
      exact e3.2.1
  refine calls_of_fin hf hb ?_
  let gs : Nat → Nat := fun i => (φ i).getD 0
  have hs : Sim ⟨w, ok, mine φ σ.length, n⟩ ⟨startEnvA 0 (args.map (pinA gs)), σ⟩ { tmps := us ++ Array.replicate (fn.ntmps - us.size) undef, defers := [] } w := by
    refine ⟨rfl, by simp at hlen ⊢; omega, φ, good_n hG, fun t => ?_⟩
    rw [startA_look]
    simp only [Nat.zero_le, if_true, Nat.sub_zero, List.getElem?_map]
    cases hr : args[t]? with
    | none => simp [AV.rel]
    | some r =>
      obtain ⟨u, e1, e2⟩ := AV.rels_at args _ hu t r hr
      have ht : t < us.size := by have := (List.getElem?_eq_some_iff.1 e1).1; simpa using this
      have : (us ++ Array.replicate (fn.ntmps - us.size) undef).getD t undef = u := by
        rw [Array.getD_eq_getD_getElem?, Array.getElem?_append_left ht]
        have : us[t]? = some u := by simpa using e1
        simp [this]
      simp only [Option.map_some, Option.getD_some]
      rw [this]
      cases r <;> simp only [pinA] <;> try exact e2
      case obj i off =>
        simp only [AV.rel] at e2 ⊢
        obtain ⟨k1, g, k2, k3⟩ := e2
        have : gs i = g := by simp only [gs, k2, Option.getD_some]
        rw [this]
        exact ⟨k1, k2, k3⟩
  have hr := (h ⟨w, ok, mine φ σ.length, n⟩ gs rfl (by simp only [gs, h0, Option.getD_some])).run _ w hs
  intro b cs
  obtain ⟨a', w', todo, ⟨hd, u, hv, φ', h1, h2, h3⟩, hstep⟩ := hr b cs
  refine ⟨a', w', todo, ⟨hd, u, hv, u, φ', rfl, good_n h1, h2, fun i hi => ?_⟩, hstep⟩
  rcases hst i hi with rfl | ⟨off, ho⟩
  · rw [h3 0 hi]
    simp only [gs, h0, Option.getD_some]
  · obtain ⟨j, hj⟩ := List.mem_iff_getElem?.1 ho
    obtain ⟨u', _, e2⟩ := AV.rels_at args _ hu j _ hj
    simp only [AV.rel] at e2
    obtain ⟨_, g, k2, _⟩ := e2
    rw [h3 i hi]
    simp only [gs, k2, Option.getD_some]
end Go.Proofs.Ytkhnijggbfoimaa
/- Array literals. Over any program. -/
namespace Go.Proofs.Ytkhnijggbfoimaa
set_option linter.unusedSimpArgs false
set_option linter.unusedVariables false
open Go.RowKit
open AV (Mem Keeps)
/-- An array type whose elements have one cell each. -/
class TBR (P : Program) (t : TypeId) (zs : outParam (List Value)) : Prop where
  h : ∃ it n e z ie, P.info? t = some it ∧ P.underlying t = some (.array n e) ∧ it.zero = some z ∧ z.cells = zs.toArray ∧ P.info? e = some ie ∧ ie.size = 1 ∧ ∀ x ∈ zs, x.oneCell' = true
def fillF (pl : Nat → Option (Nat × Nat)) (env : Env) : List AV → List (Nat × Operand) → Option (List AV)
  | cells, [] => some cells
  | cells, (i, x) :: l => match pl i with
    | some (off, size) => match cells? (ev env x) with
      | some cs => match Nat.beq cs.length size, Nat.ble (off + size) cells.length with
        | true, true => fillF pl env (setsAt cells off cs) l
        | _, _ => none
      | none => none
    | none => none
theorem fillF_ok {m : Mem} {env : Env} {a : Act} {pl : Nat → Option (Nat × Nat)} : ∀ (l : List (Nat × Operand)) (vs vs' : List AV) (cells : Array Value), (∀ p ∈ l, AV.rel m (ev env p.2) (a.eval p.2)) → cells.size = vs.length → (∀ (j : Nat) x, vs[j]? = some x → ∃ y, cells[j]? = some y ∧ y.oneCell' = true ∧ AV.rel m x y) →
    fillF pl env vs l = some vs' → ∃ cells', Instr.fill pl cells (l.map fun p => (p.1, a.eval p.2)) = some cells' ∧ cells'.size = vs'.length ∧ ∀ (j : Nat) x, vs'[j]? = some x → ∃ y, cells'[j]? = some y ∧ y.oneCell' = true ∧ AV.rel m x y
  | [], vs, vs', cells, _, hs, hv, h => by
    simp only [fillF, Option.some.injEq] at h
    subst h
    exact ⟨cells, rfl, hs, hv⟩
  | (i, x) :: l, vs, vs', cells, hH, hs, hv, h => by
    unfold fillF at h
    split at h
    · rename_i off size hp
      split at h
      · rename_i cs hc
        split at h
        · rename_i hb1 hb2
          have e1 := Nat.eq_of_beq_eq_true hb1
          have e2 := Nat.le_of_ble_eq_true hb2
          obtain ⟨c1, c2⟩ := cells_rel (hH (i, x) (by simp)) hc
          obtain ⟨k1, k2⟩ := sets_array (m := m) (a.eval x).cells.toList 0 cells off cs vs (by simpa using c1) (fun j y hj => by simpa using c2 j y hj) (by omega) hs hv
          rw [Nat.add_zero] at k2
          obtain ⟨cells', q1, q2⟩ := fillF_ok l _ vs' _ (fun p hp => hH p (by simp [hp])) (by rw [setsAt_len]; exact k1) k2 h
          refine ⟨cells', ?_, q2⟩
          simp only [List.map_cons, Instr.fill]
          rw [hp]
          simp only
          have c1' : (a.eval x).cells.size = cs.length := c1
          rw [if_neg (by rw [c1']; simp; omega), ← q1]
          congr 1
          rw [← Array.foldl_toList, Array.toList_zipIdx]
        · cases h
      · cases h
    · cases h
def oneP (i : Nat) : Option (Nat × Nat) := some (i * 1, 1)
section
variable {P : Program} {C : Ctx} {env : Env} {σ : List Ob} {t : Nat} {ty : TypeId} {pos : String} {after : Array Edge} {gd : Option (Nat × Bool)}
theorem pu_buildR {tt : TypeId} {parts : Array (Nat × Operand)} {zs : List Value} {vs : List AV} [hb : TBR P tt zs] (h : fillF oneP env (zs.map fun v => .ro (.c v)) parts.toList = some vs) :
    Pur P C ⟨some t, .build tt parts, ty, pos, after, gd⟩ env σ (aggOf vs) :=
  Pur.of (fun a m hG hσ hH => by
    obtain ⟨it, n, e, z, ie, h1, h2, h3, h4, h5, h7, h6⟩ := hb.h
    obtain ⟨cells', q1, q2, q3⟩ := fillF_ok (m := m) (a := a) parts.toList _ vs zs.toArray (fun p hp => hH p.2 (by simp [Op.operands]; exact ⟨p.1, by simpa using hp⟩)) (by simp) (fun j x hj => by
      rw [List.getElem?_map, Option.map_eq_some_iff] at hj
      obtain ⟨y, hy, rfl⟩ := hj
      exact ⟨y, by simpa using hy, h6 y (List.mem_of_getElem? hy), by simp [AV.rel, RV.rel]⟩) h
    have hbt : P.built tt (parts.map fun p => (p.1, a.eval p.2)).toList = some cells' := by
      unfold Program.built
      simp only [h1, h2, h3, h5, h4, h7]
      rw [Array.toList_map]
      exact q1
    refine ⟨.agg cells', by simp only [execOp]; exact by simp [run_build m.w tt _ _ hbt], ?_⟩
    have hrel : AV.rels m vs cells'.toList := AV.rels_of _ _ (by simpa using q2) fun j r u hj hu => by
      obtain ⟨y, e1, _, e3⟩ := q3 j r hj
      have : y = u := by simpa [e1] using hu
      rwa [this] at e3
    unfold aggOf
    split
    · rename_i rs hrs
      rw [allRo_eq hrs] at hrel
      simp only [AV.rel, RV.rel]
      exact ⟨_, rfl, rels_ro_inv _ _ hrel⟩
    · simp only [AV.rel]
      exact ⟨_, rfl, hrel⟩)
end
end Go.Proofs.Ytkhnijggbfoimaa
/- The machine takes a byte: the closures. -/
namespace Go.Proofs.Ytkhnijggbfoimaa
set_option linter.unusedSimpArgs false
set_option linter.unusedVariables false
open Go.RowKit
open AV (Mem Keeps)
set_option maxRecDepth 100000
def tO (g : Nat) (i : Ins) (b : Int) : List Ob := [⟨60, 0, [.pin 0 0 g]⟩, ⟨74, 0, (insR i).map .ro⟩, ⟨3, 0, [.int b]⟩]
theorem tO_free (m : Mch) (g : Nat) (i : Ins) (b : Int) : FreeO 6 (mO m ++ tO g i b) := by
  simp only [mO, tO, List.cons_append, List.nil_append, FreeO]
  exact ⟨by simp [AV.onlys, AV.only], onlysr _ _, onlysr _ _, by simp [AV.onlys, AV.only], onlysr _ _, by simp [AV.onlys, AV.only], trivial⟩
theorem tO_app {m m' : Mch} {g : Nat} {i : Ins} {b : Int} (h : m = m') : mO m ++ tO g i b = mO m' ++ tO g i b := by rw [h]
theorem st4 {env : Env} {gs : Nat → Nat} {k a b c : Nat} (h0 : look env k = .pin 0 0 (gs 0)) (h3 : look env a = .pin 3 0 (gs 3)) (h4 : look env b = .pin 4 0 (gs 4)) (h5 : look env c = .pin 5 0 (gs 5)) : ∀ i ∈ [0, 3, 4, 5], ∃ t off, look env t = .pin i off (gs i) := fun i hi => by
  simp only [List.mem_cons, List.not_mem_nil, or_false] at hi
  rcases hi with rfl | rfl | rfl | rfl
  · exact ⟨k, 0, h0⟩
  · exact ⟨a, 0, h3⟩
  · exact ⟨b, 0, h4⟩
  · exact ⟨c, 0, h5⟩
theorem take1_am (g : Nat) (m : Mch) (i : Ins) (b : Int) (hs : i.b = 1 → 0 ≤ i.a - m.left - 1 ∧ i.a - m.left - 1 ≤ 3 ∧ 0 ≤ i.a ∧ i.a ≤ 4) (hb : 0 ≤ b ∧ b ≤ 255) : AM Try.prog 83 (mO m ++ tO g i b) [0, 3, 4, 5] [.obj 3 0, .obj 4 0, .obj 5 0] (mO (mSkip { m with register := if i.b = 1 then w64 (m.register + b * 2 ^ (8 * (i.a - m.left - 1)).toNat) else w64 (w64 (256 * m.register) + b) }) ++ tO g i b) (.tup []) := by
  refine am_enterG Try.func83 rfl _ Try.ntmps83 (by simp) g 3 0 0 rfl rfl (by simp) fun C gs hn hg => ?_
  subst hg
  repeat' (first
 | refine op_callP 3 (readInteger_am m i b hs hb) rfl (by simp [AV.onlys, AV.only]) (by simp [AV.only, AV.onlys]) rfl rfl rfl (mO_free _) (mO_free _) rfl (by first | exact trivial | exact ⟨rfl, trivial⟩ | exact ⟨rfl, rfl, trivial⟩ | exact ⟨rfl, rfl, rfl, trivial⟩ | exact ⟨rfl, rfl, rfl, rfl, trivial⟩) (fun t h => by injection h with h; subst h; exact tl hn rfl) ?_
 | refine RunsL.step tabOk hn rfl ?_
 | refine RunsL.nil ?_
 | refine Runs.toRegion 30 rfl ?_
 | (refine RunsL.pe hn rfl rfl rfl ?_; first
 | refine ⟨_, pu_nilCheckP rfl, ?_⟩
 | refine ⟨_, Pur.unpin (s := 0) rfl (pu_load_obj rfl rfl rfl), ?_⟩
 | refine ⟨_, Pur.unpin (s := 0) rfl (pu_loadN_objR rfl rfl rfl rfl), ?_⟩
 | refine ⟨_, Pur.unpin (s := 1) rfl (pu_load_obj rfl rfl rfl), ?_⟩
 | refine ⟨_, Pur.unpin (s := 1) rfl (pu_loadN_objR rfl rfl rfl rfl), ?_⟩
 | refine ⟨_, Pur.unpin (s := 2) rfl (pu_load_obj rfl rfl rfl), ?_⟩
 | refine ⟨_, Pur.unpin (s := 2) rfl (pu_loadN_objR rfl rfl rfl rfl), ?_⟩)
 | (refine Runs.ctls 30 rfl ?_; first | refine Runs.cond_t rfl ?_ | refine Runs.cond_f rfl ?_ | ((first | refine Runs.cond_yes rfl ?_ ?_ | refine Runs.cond_nno rfl ?_ ?_); · first | omega | rfl | assumption | (simp only [List.length_map]; omega)) | ((first | refine Runs.cond_no rfl ?_ ?_ | refine Runs.cond_nyes rfl ?_ ?_); · first | omega | rfl | assumption | (simp only [List.length_map]; omega)) | refine Runs.cond_dec rfl (fun h => ?_) (fun h => ?_) | refine Runs.cond_ndec rfl (fun h => ?_) (fun h => ?_) | refine Runs.cond_nb rfl (fun h => ?_) (fun h => ?_) | refine Runs.cond_b rfl (fun h => ?_) (fun h => ?_) | refine Runs.ret (ends_ro hm rfl rfl ?_) | exact Runs.ret (ends_cellR hm rfl rfl rfl (Nat.le_of_ble_eq_true rfl) rfl rfl))
 | refine op_box rfl (tl hn rfl) ?_
 | refine op_storeF rfl rfl rfl rfl (Nat.le_of_ble_eq_true rfl) ?_
 | refine op_alloc (tl hn rfl) ?_
 | refine op_storeN rfl rfl rfl rfl (Nat.le_of_ble_eq_true rfl) ?_
 | (refine RunsL.pe hn rfl rfl rfl ?_; first
 | refine ⟨_, pu_add rfl rfl (by omega), ?_⟩
 | refine ⟨_, pu_indexAddr_map rfl rfl (by omega) (by assumption), ?_⟩
 | refine ⟨_, pu_sub rfl rfl (by omega), ?_⟩
 | refine ⟨_, pu_pick_b rfl rfl rfl, ?_⟩
 | refine ⟨_, pu_mul rfl rfl (by omega), ?_⟩
 | refine ⟨_, pu_build rfl rfl rfl rfl rfl rfl, ?_⟩))
  refine Runs.ctls 30 rfl ?_
  exact Runs.end_ (endsA0 (st4 (k := 3) (a := 0) (b := 1) (c := 2) rfl rfl rfl rfl) rfl rfl)
theorem take2_am (g : Nat) (m : Mch) (i : Ins) (b : Int)  : AM Try.prog 85 (mO m ++ tO g i b) [0, 3, 4, 5] [.obj 3 0, .obj 4 0, .obj 5 0] (mO (if 1 < b then mFail m 4 else if m.left ≠ 0 then m else { m with started := false, pc := if b = 0 then i.a else w64 (m.pc + 1) }) ++ tO g i b) (.tup []) := by
  refine am_enterG Try.func85 rfl _ Try.ntmps85 (by simp) g 3 0 0 rfl rfl (by simp) fun C gs hn hg => ?_
  subst hg
  repeat' (first
 | refine op_callP 3 (readFlag_am m i b) rfl (by simp [AV.onlys, AV.only]) (by simp [AV.only, AV.onlys]) rfl rfl rfl (mO_free _) (mO_free _) rfl (by first | exact trivial | exact ⟨rfl, trivial⟩ | exact ⟨rfl, rfl, trivial⟩ | exact ⟨rfl, rfl, rfl, trivial⟩ | exact ⟨rfl, rfl, rfl, rfl, trivial⟩) (fun t h => by injection h with h; subst h; exact tl hn rfl) ?_
 | refine RunsL.step tabOk hn rfl ?_
 | refine RunsL.nil ?_
 | refine Runs.toRegion 30 rfl ?_
 | (refine RunsL.pe hn rfl rfl rfl ?_; first
 | refine ⟨_, pu_nilCheckP rfl, ?_⟩
 | refine ⟨_, Pur.unpin (s := 0) rfl (pu_load_obj rfl rfl rfl), ?_⟩
 | refine ⟨_, Pur.unpin (s := 0) rfl (pu_loadN_objR rfl rfl rfl rfl), ?_⟩
 | refine ⟨_, Pur.unpin (s := 1) rfl (pu_load_obj rfl rfl rfl), ?_⟩
 | refine ⟨_, Pur.unpin (s := 1) rfl (pu_loadN_objR rfl rfl rfl rfl), ?_⟩
 | refine ⟨_, Pur.unpin (s := 2) rfl (pu_load_obj rfl rfl rfl), ?_⟩
 | refine ⟨_, Pur.unpin (s := 2) rfl (pu_loadN_objR rfl rfl rfl rfl), ?_⟩)
 | (refine Runs.ctls 30 rfl ?_; first | refine Runs.cond_t rfl ?_ | refine Runs.cond_f rfl ?_ | ((first | refine Runs.cond_yes rfl ?_ ?_ | refine Runs.cond_nno rfl ?_ ?_); · first | omega | rfl | assumption | (simp only [List.length_map]; omega)) | ((first | refine Runs.cond_no rfl ?_ ?_ | refine Runs.cond_nyes rfl ?_ ?_); · first | omega | rfl | assumption | (simp only [List.length_map]; omega)) | refine Runs.cond_dec rfl (fun h => ?_) (fun h => ?_) | refine Runs.cond_ndec rfl (fun h => ?_) (fun h => ?_) | refine Runs.cond_nb rfl (fun h => ?_) (fun h => ?_) | refine Runs.cond_b rfl (fun h => ?_) (fun h => ?_) | refine Runs.ret (ends_ro hm rfl rfl ?_) | exact Runs.ret (ends_cellR hm rfl rfl rfl (Nat.le_of_ble_eq_true rfl) rfl rfl))
 | refine op_box rfl (tl hn rfl) ?_
 | refine op_storeF rfl rfl rfl rfl (Nat.le_of_ble_eq_true rfl) ?_
 | refine op_alloc (tl hn rfl) ?_
 | refine op_storeN rfl rfl rfl rfl (Nat.le_of_ble_eq_true rfl) ?_
 | (refine RunsL.pe hn rfl rfl rfl ?_; first
 | refine ⟨_, pu_add rfl rfl (by omega), ?_⟩
 | refine ⟨_, pu_indexAddr_map rfl rfl (by omega) (by assumption), ?_⟩
 | refine ⟨_, pu_sub rfl rfl (by omega), ?_⟩
 | refine ⟨_, pu_pick_b rfl rfl rfl, ?_⟩
 | refine ⟨_, pu_mul rfl rfl (by omega), ?_⟩
 | refine ⟨_, pu_build rfl rfl rfl rfl rfl rfl, ?_⟩))
  refine Runs.ctls 30 rfl ?_
  exact Runs.end_ (endsA0 (st4 (k := 3) (a := 0) (b := 1) (c := 2) rfl rfl rfl rfl) rfl rfl)
theorem take3_am (g : Nat) (m : Mch) (i : Ins) (b : Int)  : AM Try.prog 87 (mO m ++ tO g i b) [0, 3, 4, 5] [.obj 3 0, .obj 4 0, .obj 5 0] (mO (if m.escaped = false ∧ b = i.a then mSkip m else { m with escaped := !m.escaped && decide (b = 92), left := 1 }) ++ tO g i b) (.tup []) := by
  refine am_enterG Try.func87 rfl _ Try.ntmps87 (by simp) g 3 0 0 rfl rfl (by simp) fun C gs hn hg => ?_
  subst hg
  repeat' (first
 | refine op_callP 3 (readUntil_am m i b) rfl (by simp [AV.onlys, AV.only]) (by simp [AV.only, AV.onlys]) rfl rfl rfl (mO_free _) (mO_free _) rfl (by first | exact trivial | exact ⟨rfl, trivial⟩ | exact ⟨rfl, rfl, trivial⟩ | exact ⟨rfl, rfl, rfl, trivial⟩ | exact ⟨rfl, rfl, rfl, rfl, trivial⟩) (fun t h => by injection h with h; subst h; exact tl hn rfl) ?_
 | refine RunsL.step tabOk hn rfl ?_
 | refine RunsL.nil ?_
 | refine Runs.toRegion 30 rfl ?_
 | (refine RunsL.pe hn rfl rfl rfl ?_; first
 | refine ⟨_, pu_nilCheckP rfl, ?_⟩
 | refine ⟨_, Pur.unpin (s := 0) rfl (pu_load_obj rfl rfl rfl), ?_⟩
 | refine ⟨_, Pur.unpin (s := 0) rfl (pu_loadN_objR rfl rfl rfl rfl), ?_⟩
 | refine ⟨_, Pur.unpin (s := 1) rfl (pu_load_obj rfl rfl rfl), ?_⟩
 | refine ⟨_, Pur.unpin (s := 1) rfl (pu_loadN_objR rfl rfl rfl rfl), ?_⟩
 | refine ⟨_, Pur.unpin (s := 2) rfl (pu_load_obj rfl rfl rfl), ?_⟩
 | refine ⟨_, Pur.unpin (s := 2) rfl (pu_loadN_objR rfl rfl rfl rfl), ?_⟩)
 | (refine Runs.ctls 30 rfl ?_; first | refine Runs.cond_t rfl ?_ | refine Runs.cond_f rfl ?_ | ((first | refine Runs.cond_yes rfl ?_ ?_ | refine Runs.cond_nno rfl ?_ ?_); · first | omega | rfl | assumption | (simp only [List.length_map]; omega)) | ((first | refine Runs.cond_no rfl ?_ ?_ | refine Runs.cond_nyes rfl ?_ ?_); · first | omega | rfl | assumption | (simp only [List.length_map]; omega)) | refine Runs.cond_dec rfl (fun h => ?_) (fun h => ?_) | refine Runs.cond_ndec rfl (fun h => ?_) (fun h => ?_) | refine Runs.cond_nb rfl (fun h => ?_) (fun h => ?_) | refine Runs.cond_b rfl (fun h => ?_) (fun h => ?_) | refine Runs.ret (ends_ro hm rfl rfl ?_) | exact Runs.ret (ends_cellR hm rfl rfl rfl (Nat.le_of_ble_eq_true rfl) rfl rfl))
 | refine op_box rfl (tl hn rfl) ?_
 | refine op_storeF rfl rfl rfl rfl (Nat.le_of_ble_eq_true rfl) ?_
 | refine op_alloc (tl hn rfl) ?_
 | refine op_storeN rfl rfl rfl rfl (Nat.le_of_ble_eq_true rfl) ?_
 | (refine RunsL.pe hn rfl rfl rfl ?_; first
 | refine ⟨_, pu_add rfl rfl (by omega), ?_⟩
 | refine ⟨_, pu_indexAddr_map rfl rfl (by omega) (by assumption), ?_⟩
 | refine ⟨_, pu_sub rfl rfl (by omega), ?_⟩
 | refine ⟨_, pu_pick_b rfl rfl rfl, ?_⟩
 | refine ⟨_, pu_mul rfl rfl (by omega), ?_⟩
 | refine ⟨_, pu_build rfl rfl rfl rfl rfl rfl, ?_⟩))
  refine Runs.ctls 30 rfl ?_
  exact Runs.end_ (endsA0 (st4 (k := 3) (a := 0) (b := 1) (c := 2) rfl rfl rfl rfl) rfl rfl)
theorem take4_am (g : Nat) (m : Mch) (i : Ins) (b : Int)  : AM Try.prog 89 (mO m ++ tO g i b) [0, 3, 4, 5] [.obj 5 0, .obj 4 0, .obj 3 0] (mO (if b ≠ i.a then mFail m 2 else mSkip m) ++ tO g i b) (.tup []) := by
  refine am_enterG Try.func89 rfl _ Try.ntmps89 (by simp) g 3 0 0 rfl rfl (by simp) fun C gs hn hg => ?_
  subst hg
  repeat' (first
 | refine op_callP 3 (failWith_am m 2) rfl (by simp [AV.onlys, AV.only]) (by simp [AV.only, AV.onlys]) rfl rfl rfl (mO_free _) (mO_free _) rfl (by first | exact trivial | exact ⟨rfl, trivial⟩ | exact ⟨rfl, rfl, trivial⟩ | exact ⟨rfl, rfl, rfl, trivial⟩ | exact ⟨rfl, rfl, rfl, rfl, trivial⟩) (fun t h => by injection h with h; subst h; exact tl hn rfl) ?_
 | refine op_callP 3 (readSkip_am m) rfl (by simp [AV.onlys, AV.only]) (by simp [AV.only, AV.onlys]) rfl rfl rfl (mO_free _) (mO_free _) rfl (by first | exact trivial | exact ⟨rfl, trivial⟩ | exact ⟨rfl, rfl, trivial⟩ | exact ⟨rfl, rfl, rfl, trivial⟩ | exact ⟨rfl, rfl, rfl, rfl, trivial⟩) (fun t h => by injection h with h; subst h; exact tl hn rfl) ?_
 | refine RunsL.step tabOk hn rfl ?_
 | refine RunsL.nil ?_
 | refine Runs.toRegion 30 rfl ?_
 | (refine RunsL.pe hn rfl rfl rfl ?_; first
 | refine ⟨_, pu_nilCheckP rfl, ?_⟩
 | refine ⟨_, Pur.unpin (s := 0) rfl (pu_load_obj rfl rfl rfl), ?_⟩
 | refine ⟨_, Pur.unpin (s := 0) rfl (pu_loadN_objR rfl rfl rfl rfl), ?_⟩
 | refine ⟨_, Pur.unpin (s := 1) rfl (pu_load_obj rfl rfl rfl), ?_⟩
 | refine ⟨_, Pur.unpin (s := 1) rfl (pu_loadN_objR rfl rfl rfl rfl), ?_⟩
 | refine ⟨_, Pur.unpin (s := 2) rfl (pu_load_obj rfl rfl rfl), ?_⟩
 | refine ⟨_, Pur.unpin (s := 2) rfl (pu_loadN_objR rfl rfl rfl rfl), ?_⟩)
 | (refine Runs.ctls 30 rfl ?_; first | refine Runs.cond_t rfl ?_ | refine Runs.cond_f rfl ?_ | ((first | refine Runs.cond_yes rfl ?_ ?_ | refine Runs.cond_nno rfl ?_ ?_); · first | omega | rfl | assumption | (simp only [List.length_map]; omega)) | ((first | refine Runs.cond_no rfl ?_ ?_ | refine Runs.cond_nyes rfl ?_ ?_); · first | omega | rfl | assumption | (simp only [List.length_map]; omega)) | refine Runs.cond_dec rfl (fun h => ?_) (fun h => ?_) | refine Runs.cond_ndec rfl (fun h => ?_) (fun h => ?_) | refine Runs.cond_nb rfl (fun h => ?_) (fun h => ?_) | refine Runs.cond_b rfl (fun h => ?_) (fun h => ?_) | refine Runs.ret (ends_ro hm rfl rfl ?_) | exact Runs.ret (ends_cellR hm rfl rfl rfl (Nat.le_of_ble_eq_true rfl) rfl rfl))
 | refine op_box rfl (tl hn rfl) ?_
 | refine op_storeF rfl rfl rfl rfl (Nat.le_of_ble_eq_true rfl) ?_
 | refine op_alloc (tl hn rfl) ?_
 | refine op_storeN rfl rfl rfl rfl (Nat.le_of_ble_eq_true rfl) ?_
 | (refine RunsL.pe hn rfl rfl rfl ?_; first
 | refine ⟨_, pu_add rfl rfl (by omega), ?_⟩
 | refine ⟨_, pu_indexAddr_map rfl rfl (by omega) (by assumption), ?_⟩
 | refine ⟨_, pu_sub rfl rfl (by omega), ?_⟩
 | refine ⟨_, pu_pick_b rfl rfl rfl, ?_⟩
 | refine ⟨_, pu_mul rfl rfl (by omega), ?_⟩
 | refine ⟨_, pu_build rfl rfl rfl rfl rfl rfl, ?_⟩))
  · refine Runs.ctls 30 rfl ?_
    exact Runs.ret (endsA0 (st4 (k := 7) (a := 2) (b := 1) (c := 0) rfl rfl rfl rfl) rfl (tO_app (by rw [if_pos (by assumption)])))
  · refine Runs.ctls 30 rfl ?_
    exact Runs.end_ (endsA0 (st4 (k := 9) (a := 2) (b := 1) (c := 0) rfl rfl rfl rfl) rfl (tO_app (by rw [if_neg (by simp [*])])))
end Go.Proofs.Ytkhnijggbfoimaa
/- Regions that draw their order, whose operations ahead of some place leave the world alone, and whose rest stands in the text's order: walked as the text says. Over any program. -/
namespace Go.Proofs.Ytkhnijggbfoimaa
set_option linter.unusedSimpArgs false
set_option linter.unusedVariables false
open Go.RowKit
open AV (Mem Keeps)
/-- Whoever comes through finds the world as it was. -/
def Kp {α : Type} (s : Sem α) : Prop := ∀ (P : Program) (w : World) (x : α) (w' : World), s.run P w = .ok x w' → w' = w
theorem Kp.pure {α : Type} (a : α) : Kp (Pure.pure a : Sem α) := fun P w x w' h => by
  rw [Sem.run_pure] at h; injection h with _ h; exact h.symm
theorem Kp.bind {α β : Type} {s : Sem α} {f : α → Sem β} (h : Kp s) (hf : ∀ a, Kp (f a)) : Kp (s >>= f) := fun P w x w' e => by
  rw [Sem.run_bind] at e
  cases hs : s.run P w with
  | ok a w1 =>
    rw [hs] at e
    simp only [Result.andThen_ok] at e
    have h1 := h P w a w1 hs
    subst h1
    exact hf a P w1 x w' e
  | halt q w1 => rw [hs] at e; cases e
theorem Kp.stuck {α : Type} (s : String) : Kp (stuck s : Sem α) := fun P w x w' h => by cases h
theorem Kp.unsup {α : Type} (s : Unsupported) : Kp (unsupported s : Sem α) := fun P w x w' h => by cases h
theorem Kp.program : Kp program := fun P w x w' h => by rw [run_program] at h; injection h with _ h; exact h.symm
theorem Kp.load (a : Addr) (m : Mode) : Kp (load a m) := fun P w x w' h => by
  unfold Go.load Sem.run at h
  split at h
  · injection h with _ h; exact h.symm
  · split at h
    · injection h with _ h; exact h.symm
    · cases h
theorem Kp.typeInfo (t : TypeId) : Kp (typeInfo t) := Kp.bind Kp.program fun p => by
  split
  · exact Kp.pure _
  · exact Kp.stuck _
theorem Kp.underlying (t : TypeId) : Kp (underlying t) := Kp.bind Kp.program fun p => by
  split
  · exact Kp.pure _
  · exact Kp.stuck _
theorem Kp.sizeOf (t : TypeId) : Kp (sizeOf t) := Kp.bind (Kp.typeInfo t) fun _ => Kp.pure _
theorem Kp.isAgg (t : TypeId) : Kp (isAgg t) := Kp.bind (Kp.underlying t) fun _ => by
  split <;> exact Kp.pure _
theorem Kp.sureAddr (x : Value) : Kp (Instr.sureAddr x) := by
  unfold Instr.sureAddr
  split
  · exact Kp.pure _
  · exact Kp.stuck _
theorem Kp.loadCells (a : Addr) : ∀ (n i : Nat) (acc : Array Value), Kp (loadCellsFrom a i n acc)
  | 0, i, acc => Kp.pure _
  | n + 1, i, acc => Kp.bind (Kp.load _ _) fun v => Kp.loadCells a n (i + 1) _
theorem Kp.loadAt (t : TypeId) (x : Value) : Kp (Instr.loadAt t x) := Kp.bind (Kp.sureAddr x) fun a => Kp.bind (Kp.isAgg t) fun b => by
  split
  · exact Kp.bind (Kp.sizeOf t) fun n => Kp.bind (Kp.loadCells a n 0 _) fun _ => Kp.pure _
  · exact Kp.load _ _
/-- No one comes through. -/
def No {α : Type} (s : Sem α) : Prop := ∀ (P : Program) (w : World) (x : α) (w' : World), s.run P w ≠ .ok x w'
theorem No.kp {α : Type} {s : Sem α} (h : No s) : Kp s := fun P w x w' e => absurd e (h P w x w')
theorem No.bind {α β : Type} {s : Sem α} {f : α → Sem β} (hf : ∀ a, No (f a)) : No (s >>= f) := fun P w x w' e => by
  rw [Sem.run_bind] at e
  cases hs : s.run P w with
  | ok a w1 =>
    rw [hs] at e
    simp only [Result.andThen_ok] at e
    exact hf a P w1 x w' e
  | halt q w1 => rw [hs] at e; cases e
theorem No.nil {α : Type} : No (runtimePanic .nilDeref : Sem α) := No.bind fun p P w x w' h => by cases h
theorem No.bounds {α : Type} (k : IntKind) (x y : Int) (c : BoundsCode) : No (boundsPanic k x y c : Sem α) := by
  have key : ∀ b, No (runtimePanic (.bounds (IntKind.i64.wrap x) y b c) : Sem α) := fun b => by
    unfold runtimePanic
    refine No.bind fun p => ?_
    intro P w x w' h
    simp only [goPanic, Sem.run_halt] at h
    cases h
  unfold boundsPanic
  dsimp only
  split
  · exact No.bind fun b => key _
  · exact No.bind fun b => key _
theorem Kp.asIntOf (v : Value) : Kp (asIntOf v) := by
  unfold Go.asIntOf
  split
  · exact Kp.pure _
  · exact Kp.unsup _
  · exact Kp.stuck _
theorem Kp.bound (x : Value) (y : Nat) (c : BoundsCode) : Kp (Instr.sliceBound x y c) := Kp.bind (Kp.asIntOf x) fun ⟨k, i⟩ => by
  simp only
  split
  · exact Kp.pure _
  · exact (No.bounds _ _ _ _).kp
theorem Kp.bounds (b : Bool) (l c : Nat) (lo hi mx : Option Value) : Kp (Instr.sliceBounds b l c lo hi mx) := by
  unfold Instr.sliceBounds
  dsimp only
  have k3 : ∀ (m h : Nat), Kp (match lo with | some v => (do let l ← Instr.sliceBound v h (if mx.isSome = true then BoundsCode.slice3C else BoundsCode.sliceB); Pure.pure (l, h, m) : Sem (Nat × Nat × Nat)) | none => (do let l ← Pure.pure 0; Pure.pure (l, h, m))) := fun m h => by
    split
    · exact Kp.bind (Kp.bound _ _ _) fun _ => Kp.pure _
    · exact Kp.bind (Kp.pure _) fun _ => Kp.pure _
  split
  · refine Kp.bind (Kp.bound _ _ _) fun m => ?_
    split
    · exact Kp.bind (Kp.bound _ _ _) fun h => k3 _ _
    · exact Kp.bind (Kp.bound _ _ _) fun h => k3 _ _
    · exact Kp.bind (Kp.pure _) fun h => k3 _ _
    · exact Kp.bind (Kp.stuck _) fun h => k3 _ _
  · refine Kp.bind (Kp.pure _) fun m => ?_
    split
    · exact Kp.bind (Kp.bound _ _ _) fun h => k3 _ _
    · exact Kp.bind (Kp.bound _ _ _) fun h => k3 _ _
    · exact Kp.bind (Kp.pure _) fun h => k3 _ _
    · exact Kp.bind (Kp.stuck _) fun h => k3 _ _
theorem Kp.asAddr (x : Value) : Kp (asAddr x) := by
  unfold Go.asAddr
  split
  · exact Kp.pure _
  · exact No.nil.kp
  · exact Kp.stuck _
theorem Kp.slice (t : TypeId) (x : Value) (lo hi mx : Option Value) : Kp (Instr.slice t x lo hi mx) := by
  unfold Instr.slice
  refine Kp.bind (Kp.underlying t) fun u => ?_
  split
  · split
    · exact Kp.bind (Kp.stuck _) fun _ => Kp.bind (Kp.bounds _ _ _ _ _ _) fun ⟨_, _, _⟩ => Kp.pure _
    · exact Kp.bind (Kp.bounds _ _ _ _ _ _) fun ⟨_, _, _⟩ => Kp.pure _
  · exact Kp.bind (Kp.bounds _ _ _ _ _ _) fun ⟨_, _, _⟩ => Kp.bind (Kp.sizeOf _) fun _ => Kp.pure _
  · refine Kp.bind (Kp.asAddr _) fun a => Kp.bind (Kp.underlying _) fun d => ?_
    split
    · exact Kp.bind (Kp.bounds _ _ _ _ _ _) fun ⟨_, _, _⟩ => Kp.bind (Kp.sizeOf _) fun _ => Kp.pure _
    · exact Kp.stuck _
  · exact Kp.stuck _
theorem Kp.sliceAt (t : TypeId) (x : Value) (lo hi mx : Option Value) : Kp (Instr.sliceAt t x lo hi mx) := by
  unfold Instr.sliceAt
  refine Kp.bind (Kp.underlying t) fun u => ?_
  split
  · exact Kp.bind (Kp.sureAddr _) fun a => Kp.bind (Kp.bounds _ _ _ _ _ _) fun ⟨_, _, _⟩ => Kp.bind (Kp.sizeOf _) fun _ => Kp.pure _
  · exact Kp.slice _ _ _ _ _
theorem Kp.getShape (r : Nat) : Kp (shape r) := fun P w x w' h => by
  simp only [shape, Sem.run] at h
  injection h with _ h; exact h.symm
theorem Kp.getObj (r : Nat) : Kp (getObj r) := fun P w x w' h => by
  unfold Go.getObj Sem.run at h
  split at h
  · cases h
  · simp only [Sem.run] at h; injection h with _ h; exact h.symm
  · cases h
theorem Kp.noView (a : Addr) : Kp (noView a) := by
  unfold Go.noView viewAt
  refine Kp.bind (Kp.bind (Kp.getShape _) fun sh => ?_) fun o => ?_
  · split
    · exact Kp.pure _
    · refine Kp.bind (Kp.getObj _) fun o => ?_
      split <;> exact Kp.pure _
  · split
    · exact Kp.unsup _
    · exact Kp.pure _
theorem Kp.byteOf (a : Addr) : Kp (byteOf a) := by
  unfold Go.byteOf
  dsimp only
  split
  · exact Kp.pure _
  · refine Kp.bind Kp.program fun p => Kp.bind (Kp.noView a) fun _ => Kp.bind (Kp.getShape _) fun sh => ?_
    split
    · split
      · exact Kp.pure _
      · split
        · exact Kp.pure _
        · exact Kp.stuck _
    · exact Kp.stuck _
theorem Kp.place (a : Addr) (f : Field) : Kp (fieldPlace a f) := by
  unfold fieldPlace
  refine Kp.bind (Kp.sizeOf _) fun n => ?_
  split
  · exact Kp.bind (Kp.byteOf _) fun _ => Kp.bind (Kp.byteOf _) fun _ => Kp.pure _
  · exact Kp.pure _
theorem Kp.fieldAt (s : TypeId) (x : Value) (f : Nat) : Kp (Instr.fieldAt s x f) := by
  unfold Instr.fieldAt
  refine Kp.bind (Kp.underlying s) fun u => ?_
  split
  · split
    · exact Kp.bind (Kp.sureAddr x) fun a => Kp.bind (Kp.place a _) fun _ => Kp.pure _
    · exact Kp.stuck _
  · exact Kp.stuck _
theorem Kp.part (t : TypeId) (cs : Array Value) (off : Nat) : Kp (part t cs off) := by
  unfold Go.part
  refine Kp.bind (Kp.isAgg t) fun b => ?_
  split
  · exact Kp.bind (Kp.sizeOf _) fun _ => Kp.pure _
  · split
    · exact Kp.pure _
    · exact Kp.stuck _
theorem Kp.followBlind : ∀ (l : List FieldStep) (t : TypeId) (x : Option Value), Kp (Go.followBlind l t x)
  | [], t, x => Kp.pure _
  | s :: rest, t, x => by
    unfold Go.followBlind
    refine Kp.bind (Kp.underlying _) fun u => ?_
    split
    · split
      · split
        · exact Kp.pure _
        · exact Kp.followBlind rest _ _
        · exact Kp.stuck _
        · exact Kp.pure _
        · exact Kp.bind (Kp.part _ _ _) fun _ => Kp.followBlind rest _ _
        · exact Kp.stuck _
        · exact Kp.followBlind rest _ _
      · exact Kp.stuck _
    · exact Kp.stuck _
theorem Kp.nilAhead : ∀ (n : Nat) (t : TypeId) (v : Value) (name : String), Kp (Go.nilAhead n t v name)
  | 0, _, _, _ => Kp.pure _
  | n + 1, t, v, name => by
    unfold Go.nilAhead
    refine Kp.bind (Kp.typeInfo _) fun ti => ?_
    split
    · refine Kp.bind (Kp.followBlind _ _ _) fun e => ?_
      split
      · exact Kp.pure _
      · split
        · exact Kp.nilAhead n _ _ _
        · exact Kp.pure _
        · exact Kp.stuck _
        · exact Kp.pure _
        · exact Kp.pure _
        · refine Kp.bind (Kp.underlying _) fun u => ?_
          split <;> exact Kp.pure _
    · exact Kp.stuck _
/-- Operations that leave the world alone (no call among them), and yield a value. -/
def stillOp (o : Oper) : Bool := match o.op with
  | .move _ | .assign _ | .load _ _ | .fieldAddr _ _ _ | .slice _ _ _ _ _ | .nilCheck _ => true
  | _ => false
structure KpV (s : Sem Next) : Prop where
  keep : Kp s
  val : ∀ (P : Program) (w : World) (x : Next) (w' : World), s.run P w = .ok x w' → ∃ v, x = .value v
theorem KpV.bind {α : Type} {s : Sem α} {f : α → Sem Next} (h : Kp s) (hf : ∀ a, KpV (f a)) : KpV (s >>= f) := ⟨Kp.bind h fun a => (hf a).keep, fun P w x w' e => by
  rw [Sem.run_bind] at e
  cases hs : s.run P w with
  | ok a w1 => rw [hs] at e; simp only [Result.andThen_ok] at e; exact (hf a).val P w1 x w' e
  | halt q w1 => rw [hs] at e; cases e⟩
theorem KpV.pure (v : Value) : KpV (Pure.pure (.value v) : Sem Next) := ⟨Kp.pure _, fun P w x w' e => by rw [Sem.run_pure] at e; injection e with e; exact ⟨v, e.symm⟩⟩
theorem KpV.of {s : Sem Value} (h : Kp s) : KpV (do Pure.pure (.value (← s)) : Sem Next) := KpV.bind h fun v => KpV.pure v
theorem KpV.no {s : Sem Next} (h : No s) : KpV s := ⟨h.kp, fun P w x w' e => absurd e (h P w x w')⟩
theorem KpV.unsup (u : Unsupported) : KpV (unsupported u : Sem Next) := KpV.no fun P w x w' h => by cases h
theorem stillOp_kp {o : Oper} (h : stillOp o = true) (ev : Operand → Value) : KpV (execOp ev o) := by
  obtain ⟨dst, op, ty, pos, after, g⟩ := o
  unfold stillOp at h
  cases op <;> simp only [Bool.false_eq_true] at h
  case move x => exact KpV.pure _
  case assign x => exact KpV.pure _
  case load t x => exact KpV.of (Kp.loadAt _ _)
  case fieldAddr s x f => exact KpV.of (Kp.fieldAt _ _ _)
  case slice t x lo hi mx => exact KpV.of (Kp.sliceAt _ _ _ _ _)
  case nilCheck x =>
    unfold execOp
    dsimp only
    split
    · exact KpV.no No.nil
    · exact KpV.no No.nil
    · exact KpV.no No.nil
    · split
      · exact KpV.no No.nil
      · refine KpV.bind Kp.program fun p => KpV.bind (Kp.nilAhead _ _ _ _) fun b => ?_
        split
        · exact KpV.bind (Kp.unsup _) fun _ => KpV.pure _
        · exact KpV.pure _
      · exact KpV.pure _
    · exact KpV.pure _
section
variable {P : Program} {C : Ctx} {k : List Item} {R : Act → World → Prop} {env : Env} {σ : List Ob}
/-- A walk in the text's order serves the still head of a region that draws. -/
theorem still_of_list {ops : Array Oper} {F : Act → World → Prop} {w : World} {tail : List Oper} : ∀ (head : List Oper) (a : Act), (head.all fun o => stillOp o && o.guard.isNone) = true →
    wpList P ops (nrm F) (head ++ tail) a w → wpStill P ops w (fun a' => wpList P ops (nrm F) tail a' w) head a
  | [], a, _, h => h
  | o :: head, a, hs, h => by
    simp only [List.all_cons, Bool.and_eq_true] at hs
    obtain ⟨⟨hs1, hg⟩, hs2⟩ := hs
    have hw : Region.wanted o (yielded ops a.tmps) = true := by
      have : o.guard = none := by simpa using hg
      simp [Region.wanted, this]
    have hk := stillOp_kp hs1 a.eval
    have hno : ¬ LetsOut (nrm F) := fun ⟨_, _, h⟩ => h
    rw [List.cons_append] at h
    unfold wpList at h
    unfold wpStill
    rw [if_pos hw] at h ⊢
    have h := h.resolve_right fun h => hno h.2
    unfold Oper.wp at h
    unfold Oper.still
    cases hr : (execOp a.eval o).run P w with
    | ok x w' =>
      obtain ⟨v, rfl⟩ := hk.val P w x w' hr
      have := hk.keep P w _ w' hr
      subst this
      rw [hr] at h
      simp only [Oper.upon] at h
      simp only [Oper.stillUpon]
      exact ⟨trivial, still_of_list head _ hs2 h⟩
    | halt q w' =>
      rw [hr] at h
      cases q <;> first | exact h.elim | exact h
/-- .. the whole region. -/
theorem Runs.toStill {id : Nat} {l : List Oper} {k' : List Item} (m n : Nat) (hf : P.follows .mixedOrders = true) (hc : Proofs.Ytkhnijggbfoimaa.ctls m k = .code (.region id l.toArray true) :: k') (hB : Region.lexTailB .any l.toArray n = true)
    (hs : ((l.take n).all fun o => stillOp o && o.guard.isNone) = true) (h : RunsL P C l.toArray l k' R ⟨env, σ⟩) : Runs P C k R ⟨env, σ⟩ :=
  Runs.ctls m hc ⟨fun a w hs' => Fin.of_wp (wp_region_still_tail n hf hB (still_of_list _ _ hs (by
    rw [List.take_append_drop]
    obtain ⟨s1, s2, φ, hG, hE⟩ := hs'
    have hb : Below w.heap.size w { w with drawn := w.drawn + 1 } := ⟨rfl, rfl, rfl, Nat.le_refl _, fun _ _ => rfl⟩
    obtain ⟨g1, g2⟩ := good_below hG hb
    exact h.run a _ ⟨s1, s2, φ, g1, hE.keeps g2⟩)))⟩
end
end Go.Proofs.Ytkhnijggbfoimaa
/- The machine takes a byte. -/
namespace Go.Proofs.Ytkhnijggbfoimaa
set_option linter.unusedSimpArgs false
set_option linter.unusedVariables false
open Go.RowKit
open AV (Mem Keeps)
set_option maxRecDepth 100000
instance : TBR Try.prog 87 (List.replicate 18 .nilFunc) := ⟨_, _, _, _, _, rfl, rfl, rfl, by kernel_rfl, rfl, rfl, by decide⟩
instance : T1 Try.prog 1 := ⟨by kernel_rfl⟩
instance : TZ Try.prog 87 (List.replicate 18 .nilFunc) := ⟨_, _, rfl, rfl, rfl, fun x hx => by rw [List.eq_of_mem_replicate hx]; rfl⟩
def nilF : AV := .ro (.c .nilFunc)
/-- The closures, by operation. -/
def takeT : List AV := [nilF, .fn (.func 83) [] [.obj 3 0, .obj 4 0, .obj 5 0], .fn (.func 89) [] [.obj 5 0, .obj 4 0, .obj 3 0], nilF, nilF, nilF, nilF, nilF, nilF, nilF, nilF, nilF, nilF, .fn (.func 85) [] [.obj 3 0, .obj 4 0, .obj 5 0], nilF, nilF, .fn (.func 87) [] [.obj 3 0, .obj 4 0, .obj 5 0], nilF]
theorem pu_buildT {P : Program} {C : Ctx} {env : Env} {σ : List Ob} {t : Nat} {ty : TypeId} {pos : String} {after : Array Edge} {gd : Option (Nat × Bool)} {tt : TypeId} {parts : Array (Nat × Operand)} {zs : List Value} [hb : TBR P tt zs] (h : fillF oneP env (zs.map fun v => .ro (.c v)) parts.toList = some takeT) : Pur P C ⟨some t, .build tt parts, ty, pos, after, gd⟩ env σ (.agg takeT) := pu_buildR h
set_option maxHeartbeats 16000000 in
theorem take_amN (m : Mch) (i : Ins) (b : Int) (hm : MLen m) (ho : 0 ≤ i.op ∧ i.op ≤ 17) (h15 : i.op ≠ 15) (hb : 0 ≤ b ∧ b ≤ 255) (h1 : i.op = 1 → 1 ≤ m.left ∧ m.left ≤ i.a ∧ i.a ≤ 4) : AM Try.prog 63 (mO m) [0] [.obj 0 0, .ro (.agg (insR i)), .int b] (mO (mTake m i b)) (.tup []) := by
  refine am_enter Try.func63 rfl _ Try.ntmps63 (by simp) (by simp) fun C gs hn => ?_
  have hL := mCount_len (b := b) hm
  obtain ⟨op, ia, ib⟩ := i
  simp only at ho h15 h1
  have hs : op = 1 → ib = 1 → 0 ≤ ia - (mCount m b).left - 1 ∧ ia - (mCount m b).left - 1 ≤ 3 ∧ 0 ≤ ia ∧ ia ≤ 4 := fun e _ => by
    have := h1 e
    have hw : (mCount m b).left = m.left - 1 := w64_id (by omega)
    rw [hw]
    omega
  have ht : mTake m ⟨op, ia, ib⟩ b = mRead (mCount m b) ⟨op, ia, ib⟩ b := by unfold mTake; rw [if_neg h15]
  rw [ht]
  clear ht h1
  have hop : op = 0 ∨ op = 1 ∨ op = 2 ∨ op = 3 ∨ op = 4 ∨ op = 5 ∨ op = 6 ∨ op = 7 ∨ op = 8 ∨ op = 9 ∨ op = 10 ∨ op = 11 ∨ op = 12 ∨ op = 13 ∨ op = 14 ∨ op = 16 ∨ op = 17 := by omega
  rcases hop with rfl | rfl | rfl | rfl | rfl | rfl | rfl | rfl | rfl | rfl | rfl | rfl | rfl | rfl | rfl | rfl | rfl
  all_goals
    repeat' (first
 | refine op_callP 3 (count_am m b hm) rfl (by simp [AV.onlys, AV.only]) (by simp [AV.only, AV.onlys]) rfl rfl rfl (mO_free _) (mO_free _) rfl (by first | exact trivial | exact ⟨rfl, trivial⟩ | exact ⟨rfl, rfl, trivial⟩ | exact ⟨rfl, rfl, rfl, trivial⟩ | exact ⟨rfl, rfl, rfl, rfl, trivial⟩) (fun t h => by injection h with h; subst h; exact tl hn rfl) ?_
 | refine op_callP 3 (readSkip_am (mCount m b)) rfl (by simp [AV.onlys, AV.only]) (by simp [AV.only, AV.onlys]) rfl rfl rfl (mO_free _) (mO_free _) rfl (by first | exact trivial | exact ⟨rfl, trivial⟩ | exact ⟨rfl, rfl, trivial⟩ | exact ⟨rfl, rfl, rfl, trivial⟩ | exact ⟨rfl, rfl, rfl, rfl, trivial⟩) (fun t h => by injection h with h; subst h; exact tl hn rfl) ?_
 | refine op_callPC 6 rfl (take1_am (gs 0) (mCount m b) ⟨1, ia, ib⟩ b (hs rfl) hb) rfl (by simp [AV.onlys, AV.only]) (by simp [AV.only, AV.onlys]) rfl rfl rfl (tO_free _ _ _ _) (tO_free _ _ _ _) rfl ⟨rfl, trivial⟩ (fun t h => by injection h with h; subst h; exact tl hn rfl) ?_
 | refine op_callPC 6 rfl (take2_am (gs 0) (mCount m b) ⟨_, ia, ib⟩ b) rfl (by simp [AV.onlys, AV.only]) (by simp [AV.only, AV.onlys]) rfl rfl rfl (tO_free _ _ _ _) (tO_free _ _ _ _) rfl ⟨rfl, trivial⟩ (fun t h => by injection h with h; subst h; exact tl hn rfl) ?_
 | refine op_callPC 6 rfl (take3_am (gs 0) (mCount m b) ⟨_, ia, ib⟩ b) rfl (by simp [AV.onlys, AV.only]) (by simp [AV.only, AV.onlys]) rfl rfl rfl (tO_free _ _ _ _) (tO_free _ _ _ _) rfl ⟨rfl, trivial⟩ (fun t h => by injection h with h; subst h; exact tl hn rfl) ?_
 | refine op_callPC 6 rfl (take4_am (gs 0) (mCount m b) ⟨_, ia, ib⟩ b) rfl (by simp [AV.onlys, AV.only]) (by simp [AV.only, AV.onlys]) rfl rfl rfl (tO_free _ _ _ _) (tO_free _ _ _ _) rfl ⟨rfl, trivial⟩ (fun t h => by injection h with h; subst h; exact tl hn rfl) ?_
 | refine RunsL.step tabOk hn rfl ?_
 | refine RunsL.nil ?_
 | refine Runs.toRegion 30 rfl ?_
 | ((first | refine RunsL.pe hn rfl rfl rfl ?_ | refine RunsD.pe rfl rfl ?_); first
 | refine ⟨_, pu_nilCheckP rfl, ?_⟩
 | refine ⟨_, pu_buildT rfl, ?_⟩
 | refine ⟨_, pu_makeFunc, ?_⟩
 | refine ⟨_, pu_indexAddr_arr (t := 48) rfl rfl (by simp) (by simp), ?_⟩
 | refine ⟨_, pu_load_obj (t := 49) rfl rfl rfl, ?_⟩
 | refine ⟨_, pu_neqNil (t := 51) Try.underlying1 rfl rfl, ?_⟩
 | refine ⟨_, pu_neqNN (t := 51) Try.underlying1 rfl rfl, ?_⟩)
 | (refine Runs.ctls 30 rfl ?_; first | refine Runs.cond_t rfl ?_ | refine Runs.cond_f rfl ?_ | ((first | refine Runs.cond_yes rfl ?_ ?_ | refine Runs.cond_nno rfl ?_ ?_); · first | omega | rfl | assumption | (simp only [List.length_map]; omega)) | ((first | refine Runs.cond_no rfl ?_ ?_ | refine Runs.cond_nyes rfl ?_ ?_); · first | omega | rfl | assumption | (simp only [List.length_map]; omega)) | refine Runs.cond_dec rfl (fun h => ?_) (fun h => ?_) | refine Runs.cond_ndec rfl (fun h => ?_) (fun h => ?_) | refine Runs.cond_nb rfl (fun h => ?_) (fun h => ?_) | refine Runs.cond_b rfl (fun h => ?_) (fun h => ?_) | refine Runs.ret (ends_ro hm rfl rfl ?_) | exact Runs.ret (ends_cellR hm rfl rfl rfl (Nat.le_of_ble_eq_true rfl) rfl rfl))
 | refine op_box rfl (tl hn rfl) ?_
 | refine op_storeF rfl rfl rfl rfl (Nat.le_of_ble_eq_true rfl) ?_
 | refine op_alloc (tl hn rfl) ?_
 | refine op_storeN rfl rfl rfl rfl (Nat.le_of_ble_eq_true rfl) ?_
 | refine RunsD.step tabOk hn rfl rfl ?_
 | refine RunsD.nil ?_
 | refine Runs.toDraw 30 mixed hn rfl (by kernel_rfl) rfl ?_
 | ((first | refine RunsL.pe hn rfl rfl rfl ?_ | refine RunsD.pe rfl rfl ?_); first
 | refine ⟨_, pu_add rfl rfl (by omega), ?_⟩
 | refine ⟨_, pu_indexAddr_map rfl rfl (by omega) (by assumption), ?_⟩
 | refine ⟨_, pu_sub rfl rfl (by omega), ?_⟩
 | refine ⟨_, pu_pick_b rfl rfl rfl, ?_⟩
 | refine ⟨_, pu_mul rfl rfl (by omega), ?_⟩
 | refine ⟨_, pu_build rfl rfl rfl rfl rfl rfl, ?_⟩))
    all_goals refine Runs.ctls 30 rfl ?_
    all_goals first
      | (refine mO_ret (t := 0) rfl ((List.append_assoc _ _ _).trans (mO_app ?_)) rfl
         simp [mRead]; done)
      | (refine mO_end (t := 0) rfl (mO_app ?_) rfl
         simp [mRead]; done)
end Go.Proofs.Ytkhnijggbfoimaa
/- The machine takes a byte: a sum. -/
namespace Go.Proofs.Ytkhnijggbfoimaa
set_option linter.unusedSimpArgs false
set_option linter.unusedVariables false
open Go.RowKit
open AV (Mem Keeps)
set_option maxRecDepth 100000
set_option maxHeartbeats 16000000 in
theorem take_am15 (m : Mch) (i : Ins) (b : Int) (hm : MLen m) (h15 : i.op = 15) (hs : m.sums.length ≠ 0) : AM Try.prog 63 (mO m) [0] [.obj 0 0, .ro (.agg (insR i)), .int b] (mO (mTake m i b)) (.tup []) := by
  refine am_enter Try.func63 rfl _ Try.ntmps63 (by simp) (by simp) fun C gs hn => ?_
  obtain ⟨op, ia, ib⟩ := i
  simp only at h15
  subst h15
  have hb := hm.2
  have hl : ((m.sums.map RV.int).map AV.ro).length = m.sums.length * 1 := by simp
  obtain ⟨z, hz⟩ : ∃ z, m.sums[m.sums.length - 1]? = some z := ⟨_, List.getElem?_eq_getElem (by omega)⟩
  have hz' : ((m.sums.map RV.int).map AV.ro)[((m.sums.length : Int) - 1).toNat * 1]? = some (.ro (.int z)) := by
    rw [show ((m.sums.length : Int) - 1).toNat * 1 = m.sums.length - 1 by omega]; simp [hz]
  have e1 : ((m.sums.map RV.int).map AV.ro).take (((m.sums.length : Int) - 1).toNat * 1) = ((m.sums.take (m.sums.length - 1)).map RV.int).map AV.ro := by
    rw [show ((m.sums.length : Int) - 1).toNat * 1 = m.sums.length - 1 by omega, List.map_take, List.map_take]
  have hm' : MLen { m with sums := m.sums.take (m.sums.length - 1) } := ⟨hm.1, by simp only [List.length_take]; omega⟩
  have hC := count_am { m with sums := m.sums.take (m.sums.length - 1) } b hm'
  have hS := readSkip_am (mCount { m with sums := m.sums.take (m.sums.length - 1) } b)
  have ht : mTake m ⟨15, ia, ib⟩ b = (if z ≠ b then mFail m 5 else mSkip (mCount { m with sums := m.sums.take (m.sums.length - 1) } b)) := by
    unfold mTake; rw [if_pos rfl, hz]; simp [mRead]
  rw [ht]
  clear ht
  repeat' (first
 | refine Runs.toStill (id := 5) 30 9 mixed rfl (by kernel_rfl) (by kernel_rfl) ?_
 | refine RunsL.junk 0 3 rfl (op_cut (i := 2) (n := m.sums.length) (q := (m.sums.length : Int) - 1) rfl rfl rfl rfl hl (by omega) (by omega) (by omega) (by repeat' (first | exact trivial | exact onlysr _ _ | exact (by decide : (1 : Nat) ≠ 2) | exact (by decide : (0 : Nat) ≠ 2) | refine And.intro ?_ ?_)) (fun j v hj => onlys_mem (onlysr _ _) j v hj) (tl hn rfl) ?_)
 | refine op_callP 3 (failWith_am m 5) rfl (by simp [AV.onlys, AV.only]) (by simp [AV.only, AV.onlys]) rfl rfl rfl (mO_free _) (mO_free _) rfl (by first | exact trivial | exact ⟨rfl, trivial⟩ | exact ⟨rfl, rfl, trivial⟩ | exact ⟨rfl, rfl, rfl, trivial⟩ | exact ⟨rfl, rfl, rfl, rfl, trivial⟩) (fun t h => by injection h with h; subst h; exact tl hn rfl) ?_
 | refine RunsT.nil ?_
 | refine RunsT.step tabOk rfl rfl (fun _ => rfl) (by decide) ?_
 | refine RunsT.pur (fun _ => pu_nilCheckP rfl) (by decide) rfl rfl ?_
 | refine RunsT.pur (fun _ => pu_len_own (n := m.sums.length) rfl rfl hl) (by decide) rfl rfl ?_
 | refine RunsT.pur (fun _ => pu_sub rfl rfl (by omega)) (by decide) rfl rfl ?_
 | refine RunsT.pur (fun _ => pu_indexAddr_own (n := m.sums.length) (sz := 1) rfl rfl rfl rfl hl (by omega) (by omega)) (by decide) rfl rfl ?_
 | refine RunsT.pur (fun _ => pu_load_obj rfl rfl hz') (by decide) rfl rfl ?_
 | refine RunsT.pur (fun _ => pu_add rfl rfl (by omega)) (by decide) rfl rfl ?_
 | refine RunsT.pur (fun _ => pu_indexAddr_map rfl rfl (by omega) (by assumption)) (by decide) rfl rfl ?_
 | refine RunsT.alloc (p := 0) rfl inferInstance ?_
 | refine RunsT.alloc (p := 1) rfl inferInstance ?_
 | refine RunsL.step tabOk hn rfl ?_
 | refine RunsL.nil ?_
 | refine Runs.toRegion 30 rfl ?_
 | ((first | refine RunsL.pe hn rfl rfl rfl ?_ | refine RunsD.pe rfl rfl ?_); first
 | refine ⟨_, pu_nilCheckP rfl, ?_⟩
 | refine ⟨_, pu_len_own (n := m.sums.length) rfl rfl hl, ?_⟩
 | refine ⟨_, pu_sub rfl rfl (by omega), ?_⟩
 | refine ⟨_, pu_indexAddr_own (n := m.sums.length) (sz := 1) rfl rfl rfl rfl hl (by omega) (by omega), ?_⟩
 | refine ⟨_, pu_load_obj rfl rfl hz', ?_⟩)
 | (refine Runs.ctls 30 rfl ?_; first | refine Runs.cond_t rfl ?_ | refine Runs.cond_f rfl ?_ | ((first | refine Runs.cond_yes rfl ?_ ?_ | refine Runs.cond_nno rfl ?_ ?_); · first | omega | rfl | assumption | (simp only [List.length_map]; omega)) | ((first | refine Runs.cond_no rfl ?_ ?_ | refine Runs.cond_nyes rfl ?_ ?_); · first | omega | rfl | assumption | (simp only [List.length_map]; omega)) | refine Runs.cond_dec rfl (fun h => ?_) (fun h => ?_) | refine Runs.cond_ndec rfl (fun h => ?_) (fun h => ?_) | refine Runs.cond_nb rfl (fun h => ?_) (fun h => ?_) | refine Runs.cond_b rfl (fun h => ?_) (fun h => ?_) | refine Runs.ret (ends_ro hm rfl rfl ?_) | exact Runs.ret (ends_cellR hm rfl rfl rfl (Nat.le_of_ble_eq_true rfl) rfl rfl))
 | refine op_box rfl (tl hn rfl) ?_
 | refine op_storeF rfl rfl rfl rfl (Nat.le_of_ble_eq_true rfl) ?_
 | refine op_alloc (tl hn rfl) ?_
 | refine op_storeN rfl rfl rfl rfl (Nat.le_of_ble_eq_true rfl) ?_
 | refine RunsD.step tabOk hn rfl rfl ?_
 | refine RunsD.nil ?_
 | refine Runs.toDraw 30 mixed hn rfl (by kernel_rfl) rfl ?_
 | ((first | refine RunsL.pe hn rfl rfl rfl ?_ | refine RunsD.pe rfl rfl ?_); first
 | refine ⟨_, pu_add rfl rfl (by omega), ?_⟩
 | refine ⟨_, pu_indexAddr_map rfl rfl (by omega) (by assumption), ?_⟩
 | refine ⟨_, pu_sub rfl rfl (by omega), ?_⟩
 | refine ⟨_, pu_pick_b rfl rfl rfl, ?_⟩
 | refine ⟨_, pu_mul rfl rfl (by omega), ?_⟩
 | refine ⟨_, pu_build rfl rfl rfl rfl rfl rfl, ?_⟩))
  · refine Runs.ctls 30 rfl ?_
    refine mO_ret (t := 0) rfl (mO_app ?_) rfl
    rw [if_pos (by assumption)]
  · rw [e1]
    repeat' (first
 | refine op_callP 3 (hC) rfl (by simp [AV.onlys, AV.only]) (by simp [AV.only, AV.onlys]) rfl rfl rfl (mO_free _) (mO_free _) rfl (by first | exact trivial | exact ⟨rfl, trivial⟩ | exact ⟨rfl, rfl, trivial⟩ | exact ⟨rfl, rfl, rfl, trivial⟩ | exact ⟨rfl, rfl, rfl, rfl, trivial⟩) (fun t h => by injection h with h; subst h; exact tl hn rfl) ?_
 | refine op_callP 3 (hS) rfl (by simp [AV.onlys, AV.only]) (by simp [AV.only, AV.onlys]) rfl rfl rfl (mO_free _) (mO_free _) rfl (by first | exact trivial | exact ⟨rfl, trivial⟩ | exact ⟨rfl, rfl, trivial⟩ | exact ⟨rfl, rfl, rfl, trivial⟩ | exact ⟨rfl, rfl, rfl, rfl, trivial⟩) (fun t h => by injection h with h; subst h; exact tl hn rfl) ?_
 | refine RunsL.step tabOk hn rfl ?_
 | refine RunsL.nil ?_
 | refine Runs.toRegion 30 rfl ?_
 | ((first | refine RunsL.pe hn rfl rfl rfl ?_ | refine RunsD.pe rfl rfl ?_); first
 | refine ⟨_, pu_nilCheckP rfl, ?_⟩
 | refine ⟨_, pu_buildT rfl, ?_⟩
 | refine ⟨_, pu_makeFunc, ?_⟩
 | refine ⟨_, pu_indexAddr_arr (t := 48) rfl rfl (by simp) (by simp), ?_⟩
 | refine ⟨_, pu_load_obj (t := 49) rfl rfl rfl, ?_⟩
 | refine ⟨_, pu_neqNN (t := 51) Try.underlying1 rfl rfl, ?_⟩)
 | (refine Runs.ctls 30 rfl ?_; first | refine Runs.cond_t rfl ?_ | refine Runs.cond_f rfl ?_ | ((first | refine Runs.cond_yes rfl ?_ ?_ | refine Runs.cond_nno rfl ?_ ?_); · first | omega | rfl | assumption | (simp only [List.length_map]; omega)) | ((first | refine Runs.cond_no rfl ?_ ?_ | refine Runs.cond_nyes rfl ?_ ?_); · first | omega | rfl | assumption | (simp only [List.length_map]; omega)) | refine Runs.cond_dec rfl (fun h => ?_) (fun h => ?_) | refine Runs.cond_ndec rfl (fun h => ?_) (fun h => ?_) | refine Runs.cond_nb rfl (fun h => ?_) (fun h => ?_) | refine Runs.cond_b rfl (fun h => ?_) (fun h => ?_) | refine Runs.ret (ends_ro hm rfl rfl ?_) | exact Runs.ret (ends_cellR hm rfl rfl rfl (Nat.le_of_ble_eq_true rfl) rfl rfl))
 | refine op_box rfl (tl hn rfl) ?_
 | refine op_storeF rfl rfl rfl rfl (Nat.le_of_ble_eq_true rfl) ?_
 | refine op_alloc (tl hn rfl) ?_
 | refine op_storeN rfl rfl rfl rfl (Nat.le_of_ble_eq_true rfl) ?_
 | refine RunsD.step tabOk hn rfl rfl ?_
 | refine RunsD.nil ?_
 | refine Runs.toDraw 30 mixed hn rfl (by kernel_rfl) rfl ?_
 | ((first | refine RunsL.pe hn rfl rfl rfl ?_ | refine RunsD.pe rfl rfl ?_); first
 | refine ⟨_, pu_add rfl rfl (by omega), ?_⟩
 | refine ⟨_, pu_indexAddr_map rfl rfl (by omega) (by assumption), ?_⟩
 | refine ⟨_, pu_sub rfl rfl (by omega), ?_⟩
 | refine ⟨_, pu_pick_b rfl rfl rfl, ?_⟩
 | refine ⟨_, pu_mul rfl rfl (by omega), ?_⟩
 | refine ⟨_, pu_build rfl rfl rfl rfl rfl rfl, ?_⟩))
    refine Runs.ctls 30 rfl ?_
    refine mO_end (t := 0) rfl (mO_app ?_) rfl
    rw [if_neg (by simp [*])]
theorem take_am (m : Mch) (i : Ins) (b : Int) (hm : MLen m) (ho : 0 ≤ i.op ∧ i.op ≤ 17) (hb : 0 ≤ b ∧ b ≤ 255) (h1 : i.op = 1 → 1 ≤ m.left ∧ m.left ≤ i.a ∧ i.a ≤ 4) (hs : i.op = 15 → m.sums.length ≠ 0) : AM Try.prog 63 (mO m) [0] [.obj 0 0, .ro (.agg (insR i)), .int b] (mO (mTake m i b)) (.tup []) := by
  by_cases h : i.op = 15
  · exact take_am15 m i b hm h (hs h)
  · exact take_amN m i b hm ho h hb h1
end Go.Proofs.Ytkhnijggbfoimaa
/- The verifier of one instruction. -/
namespace Go.Proofs.Ytkhnijggbfoimaa
set_option linter.unusedSimpArgs false
set_option linter.unusedVariables false
open Go.RowKit
set_option maxHeartbeats 4000000 in
theorem impl_IsSafeInstruction (p : Prg) (i : Int) (hi : I64 i) (hl : p.code.length ≤ maxLen) : ACv Try.prog 76 [prgR p, .int i] (.bool (decide (SafeI p i))) := by
  unfold maxLen at hl
  unfold I64 at hi
  refine ac_enter Try.func76 rfl _ Try.ntmps76 (by simp) fun C hn hm => ?_
  by_cases hx : Idx p i
  · have hx2 := hx
    unfold Idx at hx2
    obtain ⟨x, hx'⟩ : ∃ x, p.code[i.toNat]? = some x := ⟨_, List.getElem?_eq_getElem (by omega)⟩
    have hS := safeI_some hx'
    repeat' (first
 | refine RunsL.step tabOk hn rfl ?_
 | refine RunsL.nil ?_
 | refine Runs.toRegion 30 rfl ?_
 | (refine RunsL.pe hn rfl rfl rfl ?_; first
 | refine ⟨_, pu_callR (inRange_ac _ _ _) rfl, ?_⟩
 | refine ⟨_, pu_callR (isIndex_ac _ _) rfl, ?_⟩
 | refine ⟨_, pu_callR (goesOn_ac _) rfl, ?_⟩)
 | (refine Runs.ctls 30 rfl ?_; first | refine Runs.cond_t rfl ?_ | refine Runs.cond_f rfl ?_ | ((first | refine Runs.cond_yes rfl ?_ ?_ | refine Runs.cond_nno rfl ?_ ?_); · first | omega | rfl | assumption | (simp only [List.length_map]; omega)) | ((first | refine Runs.cond_no rfl ?_ ?_ | refine Runs.cond_nyes rfl ?_ ?_); · first | omega | rfl | assumption | (simp only [List.length_map]; omega)) | refine Runs.cond_dec rfl (fun h => ?_) (fun h => ?_) | refine Runs.cond_ndec rfl (fun h => ?_) (fun h => ?_) | refine Runs.cond_nb rfl (fun h => ?_) (fun h => ?_) | refine Runs.cond_b rfl (fun h => ?_) (fun h => ?_) | refine Runs.ret (ends_ro hm rfl rfl ?_) | exact Runs.ret (ends_cellR hm rfl rfl rfl (Nat.le_of_ble_eq_true rfl) rfl rfl))
 | refine op_box rfl (tl hn rfl) ?_
 | refine op_storeF rfl rfl rfl rfl (Nat.le_of_ble_eq_true rfl) ?_
 | refine op_alloc (tl hn rfl) ?_
 | refine op_storeN rfl rfl rfl rfl (Nat.le_of_ble_eq_true rfl) ?_
 | (refine RunsL.pe hn rfl rfl rfl ?_; first
 | refine ⟨_, pu_add rfl rfl (by omega), ?_⟩
 | refine ⟨_, pu_indexAddr_map rfl rfl (by omega) (by assumption), ?_⟩
 | refine ⟨_, pu_sub rfl rfl (by omega), ?_⟩
 | refine ⟨_, pu_pick_b rfl rfl rfl, ?_⟩
 | refine ⟨_, pu_mul rfl rfl (by omega), ?_⟩
 | refine ⟨_, pu_build rfl rfl rfl rfl rfl rfl, ?_⟩)
 | ((first | refine RunsL.guard_dec rfl rfl rfl ?_ ?_ | refine RunsL.guard_ndec rfl rfl rfl ?_ ?_ | refine RunsL.guard_nb rfl rfl rfl ?_ ?_ | refine RunsL.guard_b rfl rfl rfl ?_ ?_) <;> intro h <;> try (exfalso; first | omega | contradiction | (simp only [List.length_map] at h; omega))))
    all_goals exact rr_bool (by rw [Bool.eq_iff_iff]; simp only [decide_eq_true_eq, Bool.not_eq_true', decide_eq_false_iff_not, Bool.false_eq_true, true_iff, false_iff, Bool.and_eq_true, Bool.or_eq_true, Bool.not_eq_eq_eq_not, Bool.not_true, Bool.not_false, reduceCtorEq, eq_self, iff_true, iff_false, ne_eq]; simp only [hS, SafeX, OpOk, Idx, Goes, InR] at *; first | (simp [*]; done) | (simp [*]; omega) | omega)
  · have hS := safeI_out hx
    repeat' (first
 | refine RunsL.step tabOk hn rfl ?_
 | refine RunsL.nil ?_
 | refine Runs.toRegion 30 rfl ?_
 | (refine RunsL.pe hn rfl rfl rfl ?_; first
 | refine ⟨_, pu_callR (inRange_ac _ _ _) rfl, ?_⟩
 | refine ⟨_, pu_callR (isIndex_ac _ _) rfl, ?_⟩
 | refine ⟨_, pu_callR (goesOn_ac _) rfl, ?_⟩)
 | (refine Runs.ctls 30 rfl ?_; first | refine Runs.cond_t rfl ?_ | refine Runs.cond_f rfl ?_ | ((first | refine Runs.cond_yes rfl ?_ ?_ | refine Runs.cond_nno rfl ?_ ?_); · first | omega | rfl | assumption | (simp only [List.length_map]; omega)) | ((first | refine Runs.cond_no rfl ?_ ?_ | refine Runs.cond_nyes rfl ?_ ?_); · first | omega | rfl | assumption | (simp only [List.length_map]; omega)) | refine Runs.cond_dec rfl (fun h => ?_) (fun h => ?_) | refine Runs.cond_ndec rfl (fun h => ?_) (fun h => ?_) | refine Runs.cond_nb rfl (fun h => ?_) (fun h => ?_) | refine Runs.cond_b rfl (fun h => ?_) (fun h => ?_) | refine Runs.ret (ends_ro hm rfl rfl ?_) | exact Runs.ret (ends_cellR hm rfl rfl rfl (Nat.le_of_ble_eq_true rfl) rfl rfl))
 | refine op_box rfl (tl hn rfl) ?_
 | refine op_storeF rfl rfl rfl rfl (Nat.le_of_ble_eq_true rfl) ?_
 | refine op_alloc (tl hn rfl) ?_
 | refine op_storeN rfl rfl rfl rfl (Nat.le_of_ble_eq_true rfl) ?_
 | (refine RunsL.pe hn rfl rfl rfl ?_; first
 | refine ⟨_, pu_add rfl rfl (by omega), ?_⟩
 | refine ⟨_, pu_indexAddr_map rfl rfl (by omega) (by assumption), ?_⟩
 | refine ⟨_, pu_sub rfl rfl (by omega), ?_⟩
 | refine ⟨_, pu_pick_b rfl rfl rfl, ?_⟩
 | refine ⟨_, pu_mul rfl rfl (by omega), ?_⟩
 | refine ⟨_, pu_build rfl rfl rfl rfl rfl rfl, ?_⟩)
 | ((first | refine RunsL.guard_dec rfl rfl rfl ?_ ?_ | refine RunsL.guard_ndec rfl rfl rfl ?_ ?_ | refine RunsL.guard_nb rfl rfl rfl ?_ ?_ | refine RunsL.guard_b rfl rfl rfl ?_ ?_) <;> intro h <;> try (exfalso; first | omega | contradiction | (simp only [List.length_map] at h; omega))))
    all_goals rw [decide_eq_false (hS.1 ·)]
set_option maxHeartbeats 4000000 in
theorem spec_IsSafeInstruction (p : Prg) (i : Int) (hi : I64 i) (hl : p.code.length ≤ maxLen) : ACv Try.prog 65 [prgR p, .int i] (.bool (decide (SafeI p i))) := by
  have hlm : (p.code.map insR).length = p.code.length := List.length_map ..
  unfold maxLen at hl
  unfold I64 at hi
  refine ac_enter Try.func65 rfl _ Try.ntmps65 (by simp) fun C hn hm => ?_
  by_cases hx : Idx p i
  · have hx2 := hx
    unfold Idx at hx2
    obtain ⟨x, hx'⟩ : ∃ x, p.code[i.toNat]? = some x := ⟨_, List.getElem?_eq_getElem (by omega)⟩
    have hS := safeI_some hx'
    repeat' (first
 | refine RunsL.step tabOk hn rfl ?_
 | refine RunsL.nil ?_
 | refine Runs.toRegion 30 rfl ?_
 | (refine RunsL.pe hn rfl rfl rfl ?_; first
 | refine ⟨_, pu_callR (l1In_ac _ _ _) rfl, ?_⟩
 | refine ⟨_, pu_callR (l16Op_ac _ [7, 8, 9, 13] (by decide)) rfl, ?_⟩
 | refine ⟨_, pu_callR (l16Op_ac _ [8, 10, 12, 17] (by decide)) rfl, ?_⟩
 | refine ⟨_, pu_callR (l16Operands_ac x) rfl, ?_⟩)
 | (refine Runs.ctls 30 rfl ?_; first | refine Runs.cond_t rfl ?_ | refine Runs.cond_f rfl ?_ | ((first | refine Runs.cond_yes rfl ?_ ?_ | refine Runs.cond_nno rfl ?_ ?_); · first | omega | rfl | assumption | (simp only [List.length_map]; omega)) | ((first | refine Runs.cond_no rfl ?_ ?_ | refine Runs.cond_nyes rfl ?_ ?_); · first | omega | rfl | assumption | (simp only [List.length_map]; omega)) | refine Runs.cond_dec rfl (fun h => ?_) (fun h => ?_) | refine Runs.cond_ndec rfl (fun h => ?_) (fun h => ?_) | refine Runs.cond_nb rfl (fun h => ?_) (fun h => ?_) | refine Runs.cond_b rfl (fun h => ?_) (fun h => ?_) | refine Runs.ret (ends_ro hm rfl rfl ?_) | exact Runs.ret (ends_cellR hm rfl rfl rfl (Nat.le_of_ble_eq_true rfl) rfl rfl))
 | refine op_box rfl (tl hn rfl) ?_
 | refine op_storeF rfl rfl rfl rfl (Nat.le_of_ble_eq_true rfl) ?_
 | refine op_alloc (tl hn rfl) ?_
 | refine op_storeN rfl rfl rfl rfl (Nat.le_of_ble_eq_true rfl) ?_
 | (refine RunsL.pe hn rfl rfl rfl ?_; first
 | refine ⟨_, pu_add rfl rfl (by omega), ?_⟩
 | refine ⟨_, pu_indexAddr_map rfl rfl (by omega) (by assumption), ?_⟩
 | refine ⟨_, pu_sub rfl rfl (by omega), ?_⟩
 | refine ⟨_, pu_pick_b rfl rfl rfl, ?_⟩
 | refine ⟨_, pu_mul rfl rfl (by omega), ?_⟩
 | refine ⟨_, pu_build rfl rfl rfl rfl rfl rfl, ?_⟩)
 | ((first | refine RunsL.guard_dec rfl rfl rfl ?_ ?_ | refine RunsL.guard_ndec rfl rfl rfl ?_ ?_ | refine RunsL.guard_nb rfl rfl rfl ?_ ?_ | refine RunsL.guard_b rfl rfl rfl ?_ ?_) <;> intro h <;> try (exfalso; first | omega | contradiction | (simp only [List.length_map] at h; omega))))
    all_goals exact rr_bool (by rw [Bool.eq_iff_iff]; simp only [decide_eq_true_eq, Bool.not_eq_true', decide_eq_false_iff_not, Bool.false_eq_true, true_iff, false_iff, Bool.and_eq_true, Bool.or_eq_true, Bool.not_eq_eq_eq_not, Bool.not_true, Bool.not_false, reduceCtorEq, eq_self, iff_true, iff_false, ne_eq]; simp only [hS, SafeX, OpOk, Idx, Goes, InR, List.mem_cons, List.not_mem_nil, or_false] at *; first | (simp [*]; done) | (simp [*]; omega) | omega)
  · have hS := safeI_out hx
    repeat' (first
 | refine RunsL.step tabOk hn rfl ?_
 | refine RunsL.nil ?_
 | refine Runs.toRegion 30 rfl ?_
 | (refine RunsL.pe hn rfl rfl rfl ?_; first
 | refine ⟨_, pu_callR (l1In_ac _ _ _) rfl, ?_⟩
 | refine ⟨_, pu_callR (l16Op_ac _ [7, 8, 9, 13] (by decide)) rfl, ?_⟩
 | refine ⟨_, pu_callR (l16Op_ac _ [8, 10, 12, 17] (by decide)) rfl, ?_⟩)
 | (refine Runs.ctls 30 rfl ?_; first | refine Runs.cond_t rfl ?_ | refine Runs.cond_f rfl ?_ | ((first | refine Runs.cond_yes rfl ?_ ?_ | refine Runs.cond_nno rfl ?_ ?_); · first | omega | rfl | assumption | (simp only [List.length_map]; omega)) | ((first | refine Runs.cond_no rfl ?_ ?_ | refine Runs.cond_nyes rfl ?_ ?_); · first | omega | rfl | assumption | (simp only [List.length_map]; omega)) | refine Runs.cond_dec rfl (fun h => ?_) (fun h => ?_) | refine Runs.cond_ndec rfl (fun h => ?_) (fun h => ?_) | refine Runs.cond_nb rfl (fun h => ?_) (fun h => ?_) | refine Runs.cond_b rfl (fun h => ?_) (fun h => ?_) | refine Runs.ret (ends_ro hm rfl rfl ?_) | exact Runs.ret (ends_cellR hm rfl rfl rfl (Nat.le_of_ble_eq_true rfl) rfl rfl))
 | refine op_box rfl (tl hn rfl) ?_
 | refine op_storeF rfl rfl rfl rfl (Nat.le_of_ble_eq_true rfl) ?_
 | refine op_alloc (tl hn rfl) ?_
 | refine op_storeN rfl rfl rfl rfl (Nat.le_of_ble_eq_true rfl) ?_
 | (refine RunsL.pe hn rfl rfl rfl ?_; first
 | refine ⟨_, pu_add rfl rfl (by omega), ?_⟩
 | refine ⟨_, pu_indexAddr_map rfl rfl (by omega) (by assumption), ?_⟩
 | refine ⟨_, pu_sub rfl rfl (by omega), ?_⟩
 | refine ⟨_, pu_pick_b rfl rfl rfl, ?_⟩
 | refine ⟨_, pu_mul rfl rfl (by omega), ?_⟩
 | refine ⟨_, pu_build rfl rfl rfl rfl rfl rfl, ?_⟩)
 | ((first | refine RunsL.guard_dec rfl rfl rfl ?_ ?_ | refine RunsL.guard_ndec rfl rfl rfl ?_ ?_ | refine RunsL.guard_nb rfl rfl rfl ?_ ?_ | refine RunsL.guard_b rfl rfl rfl ?_ ?_) <;> intro h <;> try (exfalso; first | omega | contradiction | (simp only [List.length_map] at h; omega))))
    all_goals rw [decide_eq_false (hS.1 ·)]
end Go.Proofs.Ytkhnijggbfoimaa
/- The verifier of programs: places, loops, marks: both sides. -/
namespace Go.Proofs.Ytkhnijggbfoimaa
set_option linter.unusedSimpArgs false
set_option linter.unusedVariables false
open Go.RowKit
open AV (Mem Keeps)
/-! ### Calls that are handed a function value. -/
/-- A contract over what a frame may hold, but objects. -/
def ACA (P : Program) (f : FuncId) (args : List AV) (R : RR → Prop) : Prop :=
  ∀ (w : World) (ok : Nat → Prop) (us : Array Value), (∀ b, w.heap.size ≤ b → ok b) → AV.rels ⟨w, fun _ => none, [], ok⟩ args us.toList →
    Calls P f us w fun e w' => ∃ u rr bs, e = .returned u ∧ R rr ∧ RR.rel w' (fun b => ok b ∧ b ∉ bs) rr u bs ∧ bs.Nodup ∧ (∀ b ∈ bs, w.heap.size ≤ b ∧ b < w'.heap.size) ∧ Below w.heap.size w w'
def startEnvQ : Nat → List AV → Env
  | _, [] => []
  | t, r :: rs => (t, r) :: startEnvQ (t + 1) rs
theorem startQ_look : ∀ (rs : List AV) (t k : Nat), look (startEnvQ t rs) k = if t ≤ k then (match rs[k - t]? with | some r => r | none => .junk) else .junk
  | [], t, k => by simp [startEnvQ, look]
  | r :: rs, t, k => by
    rw [startEnvQ, look_put, startQ_look rs (t + 1) k]
    by_cases h : t = k
    · subst h; simp
    · rw [if_neg h]
      by_cases h2 : t + 1 ≤ k
      · have e : k - t = (k - (t + 1)) + 1 := by omega
        rw [if_pos h2, if_pos (by omega : t ≤ k), e, List.getElem?_cons_succ]
      · rw [if_neg h2]
        split
        · omega
        · rfl
theorem aca_enter {P : Program} {f : FuncId} {fn : Func} {c : Code} {args : List AV} {R : RR → Prop} (hf : P.funcs[f]? = some fn) (hb : fn.body = some c) (n : Nat) (hn : fn.ntmps = n) (hl : args.length ≤ n)
    (h : ∀ C : Ctx, C.n = n → (∀ b, ¬ C.mu b) → Runs P C [.code c] (Ends P C fn R) ⟨startEnvQ 0 args, []⟩) : ACA P f args R := by
  intro w ok us h0 hu
  have hlen := AV.rels_len args _ hu
  refine calls_of_fin hf hb ?_
  have hs : Sim ⟨w, ok, fun _ => False, n⟩ ⟨startEnvQ 0 args, []⟩ { tmps := us ++ Array.replicate (fn.ntmps - us.size) undef, defers := [] } w := by
    refine ⟨rfl, by simp at hlen ⊢; omega, fun _ => none, ⟨rfl, fun i j g hi => by simp at hi, fun i o hi => by simp at hi, fun i g hi => by simp at hi, ⟨rfl, rfl, rfl, Nat.le_refl _, fun _ _ _ => rfl, h0⟩⟩, fun t => ?_⟩
    rw [startQ_look]
    simp only [Nat.zero_le, if_true, Nat.sub_zero]
    cases hr : args[t]? with
    | none => simp [AV.rel]
    | some r =>
      obtain ⟨u, e1, e2⟩ := AV.rels_at args _ hu t r hr
      have ht : t < us.size := by have := (List.getElem?_eq_some_iff.1 e1).1; simpa using this
      have : (us ++ Array.replicate (fn.ntmps - us.size) undef).getD t undef = u := by
        rw [Array.getD_eq_getD_getElem?, Array.getElem?_append_left ht]
        have : us[t]? = some u := by simpa using e1
        simp [this]
      simp only
      rw [this]
      exact e2
  have hr := (h ⟨w, ok, fun _ => False, n⟩ rfl (fun _ h => h)).run _ w hs
  intro b cs
  obtain ⟨a', w', todo, ⟨hd, v, hv, rr, bs, h1, h2, h3, h4, h5⟩, hst⟩ := hr b cs
  exact ⟨a', w', todo, ⟨hd, v, hv, v, rr, bs, rfl, h1, h2, h3, h4, h5⟩, hst⟩
/-- A value of the frame serves as such a value while a call reads. -/
def LendsA (C : Ctx) (σ : List Ob) (v v' : AV) : Prop := ∀ (m : Mem) (u : Value) (ok' : Nat → Prop), Good C m → m.σ = σ → (∀ b, m.ok b → ok' b) → (∀ (i g : Nat), i < σ.length → m.φ i = some g → ok' g) → AV.rel m v u → AV.rel ⟨m.w, fun _ => none, [], ok'⟩ v' u
inductive LendsAL (C : Ctx) (σ : List Ob) : List AV → List AV → Prop
  | nil : LendsAL C σ [] []
  | cons {v v' : AV} {vs vs' : List AV} : LendsA C σ v v' → LendsAL C σ vs vs' → LendsAL C σ (v :: vs) (v' :: vs')
section
variable {P : Program} {C : Ctx} {σ : List Ob}
theorem LendsA.of {v : AV} {r : RV} (h : Lends C σ v r) : LendsA C σ v (.ro r) := fun m u ok' hG hσ k1 k2 hu => by
  simp only [AV.rel]
  exact RV.rel_mono ⟨Nat.le_refl _, fun b _ hb => ⟨⟨hb, fun i hi => by simp at hi⟩, rfl⟩⟩ r u (h m u ok' hG hσ k1 k2 hu)
theorem LendsAL.rels {m : Mem} {ok' : Nat → Prop} (hG : Good C m) (hσ : m.σ = σ) (k1 : ∀ b, m.ok b → ok' b) (k2 : ∀ (i g : Nat), i < σ.length → m.φ i = some g → ok' g) {vs rs : List AV} (h : LendsAL C σ vs rs) : ∀ us, AV.rels m vs us → AV.rels ⟨m.w, fun _ => none, [], ok'⟩ rs us := by
  induction h with
  | nil => intro us hu; simpa [AV.rels] using hu
  | cons h1 _ ih =>
    intro us hu
    simp only [AV.rels] at hu ⊢
    obtain ⟨u, us', rfl, k3, k4⟩ := hu
    exact ⟨u, us', rfl, h1 m u ok' hG hσ k1 k2 k3, ih us' k4⟩
theorem LendsA.fn {f : Fn} {a b a' b' : List AV} (ha : LendsAL C σ a a') (hb : LendsAL C σ b b') : LendsA C σ (.fn f a b) (.fn f a' b') := fun m u ok' hG hσ k1 k2 hu => by
  simp only [AV.rel] at hu ⊢
  obtain ⟨us, vs, e, h1, h2⟩ := hu
  exact ⟨us, vs, e, ha.rels hG hσ k1 k2 _ h1, hb.rels hG hσ k1 k2 _ h2⟩
variable {env : Env} {t : Nat} {ty : TypeId} {pos : String} {after : Array Edge} {gd : Option (Nat × Bool)}
theorem pu_callA {f : FuncId} {fn : Func} {xs : Array Operand} {ats : Array TypeId} {args : List AV} {v : Value} [hfn : FN P f fn] (hf : ACA P f args fun rr => rr = .ro (.c v)) (ha : LendsAL C σ (xs.toList.map (ev env)) args) :
    Pur P C ⟨some t, .call { callee := .value (.func f), args := xs, argTypes := ats }, ty, pos, after, gd⟩ env σ (.ro (.c v)) := by
  refine ⟨fun a m hG hσ hH K Q hK => ?_⟩
  have hr := LendsAL.rels (ok' := fun _ => True) hG hσ (fun _ _ => trivial) (fun _ _ _ _ => trivial) ha _ (rels_eval (a := a) (m := m) xs.toList fun x hx => hH x (by simp [Op.operands, Call.operands]; exact .inr (by simpa using hx)))
  unfold Oper.wp
  rw [execOp_call_go, run_call hfn]
  simp only [Oper.upon]
  refine (hf m.w (fun _ => True) _ (fun _ _ => trivial) (by simpa using hr)).mono ?_
  rintro e w' ⟨u, rr, bs, rfl, rfl, h1, _, _, h4⟩
  simp only [RR.rel, RV.rel] at h1
  refine hK u w' h4 ?_
  simp only [AV.rel, RV.rel]
  exact h1.1
end
/-! ### Places. -/
/-- The operation at an index, or 0. -/
def opA (p : Prg) (i : Int) : Int := if 0 ≤ i then (match p.code[i.toNat]? with | some x => x.op | none => 0) else 0
def aA (p : Prg) (i : Int) : Int := if 0 ≤ i then (match p.code[i.toNat]? with | some x => x.a | none => 0) else 0
theorem opA_at {p : Prg} {i : Int} {x : Ins} (h0 : 0 ≤ i) (h : p.code[i.toNat]? = some x) : opA p i = x.op := by unfold opA; rw [if_pos h0, h]
theorem aA_at {p : Prg} {i : Int} {x : Ins} (h0 : 0 ≤ i) (h : p.code[i.toNat]? = some x) : aA p i = x.a := by unfold aA; rw [if_pos h0, h]
theorem opA_out {p : Prg} {i : Int} (h : ¬ Idx p i) : opA p i = 0 := by
  unfold opA
  split
  · split
    · rename_i x hx; have := (List.getElem?_eq_some_iff.1 hx).1; omega
    · rfl
  · rfl
theorem opA_in {p : Prg} {i : Int} (h : opA p i ≠ 0) : Idx p i := Classical.byContradiction fun hn => h (opA_out hn)
theorem idx_get {p : Prg} {i : Int} (h : Idx p i) : ∃ x, p.code[i.toNat]? = some x := ⟨_, List.getElem?_eq_getElem (by omega)⟩
/-- Where a block ends. -/
def endA (p : Prg) (b : Int) : Int := match p.entries[(b + 1).toNat]? with | some e => e | none => p.code.length
def LoopAt (p : Prg) (k : Int) : Prop := opA p k = 7 ∧ opA p (k - 1) = 6 ∧ opA p (k + 1) = 9 ∧ opA p (k + 2) = 8 ∧ aA p (k + 2) = k ∧ aA p k = k + 3
def MarkAt (p : Prg) (k : Int) : Prop := opA p k = 14 ∧ opA p (k + 1) = 9 ∧ opA p (k + 2) = 15
noncomputable instance (p : Prg) (k : Int) : Decidable (LoopAt p k) := Classical.propDecidable _
noncomputable instance (p : Prg) (k : Int) : Decidable (MarkAt p k) := Classical.propDecidable _
abbrev Sm (k : Int) : Prop := -1000 ≤ k ∧ k ≤ 1000000
theorem opAt_ac (p : Prg) (i : Int) : ACv Try.prog 78 [prgR p, .int i] (.int (opA p i)) := by
  have hi := isIndex_ac p i
  refine ac_enter Try.func78 rfl _ Try.ntmps78 (by simp) fun C hn hm => ?_
  by_cases h : Idx p i
  · obtain ⟨x, hx⟩ := idx_get h
    rw [opA_at h.1 hx]
    repeat' (first
 | refine RunsL.step tabOk hn rfl ?_
 | refine RunsL.nil ?_
 | refine Runs.toRegion 30 rfl ?_
 | (refine RunsL.pe hn rfl rfl rfl ?_; first
 | refine ⟨_, pu_callR hi rfl, ?_⟩)
 | (refine Runs.ctls 30 rfl ?_; first | refine Runs.cond_t rfl ?_ | refine Runs.cond_f rfl ?_ | ((first | refine Runs.cond_yes rfl ?_ ?_ | refine Runs.cond_nno rfl ?_ ?_); · first | omega | rfl | assumption | (simp only [List.length_map]; omega)) | ((first | refine Runs.cond_no rfl ?_ ?_ | refine Runs.cond_nyes rfl ?_ ?_); · first | omega | rfl | assumption | (simp only [List.length_map]; omega)) | refine Runs.cond_dec rfl (fun h => ?_) (fun h => ?_) | refine Runs.cond_ndec rfl (fun h => ?_) (fun h => ?_) | refine Runs.cond_nb rfl (fun h => ?_) (fun h => ?_) | refine Runs.cond_b rfl (fun h => ?_) (fun h => ?_) | refine Runs.ret (ends_ro hm rfl rfl ?_) | exact Runs.ret (ends_cellR hm rfl rfl rfl (Nat.le_of_ble_eq_true rfl) rfl rfl))
 | refine op_box rfl (tl hn rfl) ?_
 | refine op_storeF rfl rfl rfl rfl (Nat.le_of_ble_eq_true rfl) ?_
 | refine op_alloc (tl hn rfl) ?_
 | refine op_storeN rfl rfl rfl rfl (Nat.le_of_ble_eq_true rfl) ?_
 | (refine RunsL.pe hn rfl rfl rfl ?_; first
 | refine ⟨_, pu_add rfl rfl (by omega), ?_⟩
 | refine ⟨_, pu_indexAddr_map rfl rfl (by omega) (by assumption), ?_⟩
 | refine ⟨_, pu_sub rfl rfl (by omega), ?_⟩
 | refine ⟨_, pu_pick_b rfl rfl rfl, ?_⟩
 | refine ⟨_, pu_mul rfl rfl (by omega), ?_⟩
 | refine ⟨_, pu_build rfl rfl rfl rfl rfl rfl, ?_⟩))
    exact rr_int rfl
  · rw [opA_out h]
    repeat' (first
 | refine RunsL.step tabOk hn rfl ?_
 | refine RunsL.nil ?_
 | refine Runs.toRegion 30 rfl ?_
 | (refine RunsL.pe hn rfl rfl rfl ?_; first
 | refine ⟨_, pu_callR hi rfl, ?_⟩)
 | (refine Runs.ctls 30 rfl ?_; first | refine Runs.cond_t rfl ?_ | refine Runs.cond_f rfl ?_ | ((first | refine Runs.cond_yes rfl ?_ ?_ | refine Runs.cond_nno rfl ?_ ?_); · first | omega | rfl | assumption | (simp only [List.length_map]; omega)) | ((first | refine Runs.cond_no rfl ?_ ?_ | refine Runs.cond_nyes rfl ?_ ?_); · first | omega | rfl | assumption | (simp only [List.length_map]; omega)) | refine Runs.cond_dec rfl (fun h => ?_) (fun h => ?_) | refine Runs.cond_ndec rfl (fun h => ?_) (fun h => ?_) | refine Runs.cond_nb rfl (fun h => ?_) (fun h => ?_) | refine Runs.cond_b rfl (fun h => ?_) (fun h => ?_) | refine Runs.ret (ends_ro hm rfl rfl ?_) | exact Runs.ret (ends_cellR hm rfl rfl rfl (Nat.le_of_ble_eq_true rfl) rfl rfl))
 | refine op_box rfl (tl hn rfl) ?_
 | refine op_storeF rfl rfl rfl rfl (Nat.le_of_ble_eq_true rfl) ?_
 | refine op_alloc (tl hn rfl) ?_
 | refine op_storeN rfl rfl rfl rfl (Nat.le_of_ble_eq_true rfl) ?_
 | (refine RunsL.pe hn rfl rfl rfl ?_; first
 | refine ⟨_, pu_add rfl rfl (by omega), ?_⟩
 | refine ⟨_, pu_indexAddr_map rfl rfl (by omega) (by assumption), ?_⟩
 | refine ⟨_, pu_sub rfl rfl (by omega), ?_⟩
 | refine ⟨_, pu_pick_b rfl rfl rfl, ?_⟩
 | refine ⟨_, pu_mul rfl rfl (by omega), ?_⟩
 | refine ⟨_, pu_build rfl rfl rfl rfl rfl rfl, ?_⟩))
    all_goals exact rr_int rfl
theorem blockEnd_ac (p : Prg) (b : Int) (h0 : 0 ≤ b) (h1 : b ≤ 9223372036854775806) (hl : p.entries.length ≤ maxLen) : ACv Try.prog 77 [prgR p, .int b] (.int (endA p b)) := by
  have hlm : (p.entries.map fun z => [RV.int z]).length = p.entries.length := List.length_map ..
  have hlc : (p.code.map insR).length = p.code.length := List.length_map ..
  unfold maxLen at hl
  refine ac_enter Try.func77 rfl _ Try.ntmps77 (by simp) fun C hn hm => ?_
  by_cases h : b + 1 < p.entries.length
  · obtain ⟨e, he⟩ : ∃ e, p.entries[(b + 1).toNat]? = some e := ⟨_, List.getElem?_eq_getElem (by omega)⟩
    have hr : endA p b = e := by unfold endA; rw [he]
    rw [hr]
    repeat' (first
 | refine RunsL.step tabOk hn rfl ?_
 | refine RunsL.nil ?_
 | refine Runs.toRegion 30 rfl ?_
 | (refine Runs.ctls 30 rfl ?_; first | refine Runs.cond_t rfl ?_ | refine Runs.cond_f rfl ?_ | ((first | refine Runs.cond_yes rfl ?_ ?_ | refine Runs.cond_nno rfl ?_ ?_); · first | omega | rfl | assumption | (simp only [List.length_map]; omega)) | ((first | refine Runs.cond_no rfl ?_ ?_ | refine Runs.cond_nyes rfl ?_ ?_); · first | omega | rfl | assumption | (simp only [List.length_map]; omega)) | refine Runs.cond_dec rfl (fun h => ?_) (fun h => ?_) | refine Runs.cond_ndec rfl (fun h => ?_) (fun h => ?_) | refine Runs.cond_nb rfl (fun h => ?_) (fun h => ?_) | refine Runs.cond_b rfl (fun h => ?_) (fun h => ?_) | refine Runs.ret (ends_ro hm rfl rfl ?_) | exact Runs.ret (ends_cellR hm rfl rfl rfl (Nat.le_of_ble_eq_true rfl) rfl rfl))
 | refine op_box rfl (tl hn rfl) ?_
 | refine op_storeF rfl rfl rfl rfl (Nat.le_of_ble_eq_true rfl) ?_
 | refine op_alloc (tl hn rfl) ?_
 | refine op_storeN rfl rfl rfl rfl (Nat.le_of_ble_eq_true rfl) ?_
 | (refine RunsL.pe hn rfl rfl rfl ?_; first
 | refine ⟨_, pu_add rfl rfl (by omega), ?_⟩
 | refine ⟨_, pu_indexAddr_map rfl rfl (by omega) (by assumption), ?_⟩
 | refine ⟨_, pu_sub rfl rfl (by omega), ?_⟩
 | refine ⟨_, pu_pick_b rfl rfl rfl, ?_⟩
 | refine ⟨_, pu_mul rfl rfl (by omega), ?_⟩
 | refine ⟨_, pu_build rfl rfl rfl rfl rfl rfl, ?_⟩))
    exact rr_int rfl
  · have hr : endA p b = p.code.length := by
      unfold endA
      split
      · rename_i e he; have := (List.getElem?_eq_some_iff.1 he).1; omega
      · rfl
    rw [hr]
    repeat' (first
 | refine RunsL.step tabOk hn rfl ?_
 | refine RunsL.nil ?_
 | refine Runs.toRegion 30 rfl ?_
 | (refine Runs.ctls 30 rfl ?_; first | refine Runs.cond_t rfl ?_ | refine Runs.cond_f rfl ?_ | ((first | refine Runs.cond_yes rfl ?_ ?_ | refine Runs.cond_nno rfl ?_ ?_); · first | omega | rfl | assumption | (simp only [List.length_map]; omega)) | ((first | refine Runs.cond_no rfl ?_ ?_ | refine Runs.cond_nyes rfl ?_ ?_); · first | omega | rfl | assumption | (simp only [List.length_map]; omega)) | refine Runs.cond_dec rfl (fun h => ?_) (fun h => ?_) | refine Runs.cond_ndec rfl (fun h => ?_) (fun h => ?_) | refine Runs.cond_nb rfl (fun h => ?_) (fun h => ?_) | refine Runs.cond_b rfl (fun h => ?_) (fun h => ?_) | refine Runs.ret (ends_ro hm rfl rfl ?_) | exact Runs.ret (ends_cellR hm rfl rfl rfl (Nat.le_of_ble_eq_true rfl) rfl rfl))
 | refine op_box rfl (tl hn rfl) ?_
 | refine op_storeF rfl rfl rfl rfl (Nat.le_of_ble_eq_true rfl) ?_
 | refine op_alloc (tl hn rfl) ?_
 | refine op_storeN rfl rfl rfl rfl (Nat.le_of_ble_eq_true rfl) ?_
 | (refine RunsL.pe hn rfl rfl rfl ?_; first
 | refine ⟨_, pu_add rfl rfl (by omega), ?_⟩
 | refine ⟨_, pu_indexAddr_map rfl rfl (by omega) (by assumption), ?_⟩
 | refine ⟨_, pu_sub rfl rfl (by omega), ?_⟩
 | refine ⟨_, pu_pick_b rfl rfl rfl, ?_⟩
 | refine ⟨_, pu_mul rfl rfl (by omega), ?_⟩
 | refine ⟨_, pu_build rfl rfl rfl rfl rfl rfl, ?_⟩))
    exact rr_int (by rw [hlc])
set_option maxHeartbeats 4000000 in
theorem safeMark_ac (p : Prg) (k : Int) (hk : Sm k) : ACv Try.prog 104 [prgR p, .int k] (.bool (decide (MarkAt p k))) := by
  refine ac_enter Try.func104 rfl _ Try.ntmps104 (by simp) fun C hn hm => ?_
  repeat' (first
 | refine RunsL.step tabOk hn rfl ?_
 | refine RunsL.nil ?_
 | refine Runs.toRegion 30 rfl ?_
 | (refine RunsL.pe hn rfl rfl rfl ?_; first
 | refine ⟨_, pu_callR (opAt_ac p _) rfl, ?_⟩)
 | (refine Runs.ctls 30 rfl ?_; first | refine Runs.cond_t rfl ?_ | refine Runs.cond_f rfl ?_ | ((first | refine Runs.cond_yes rfl ?_ ?_ | refine Runs.cond_nno rfl ?_ ?_); · first | omega | rfl | assumption | (simp only [List.length_map]; omega)) | ((first | refine Runs.cond_no rfl ?_ ?_ | refine Runs.cond_nyes rfl ?_ ?_); · first | omega | rfl | assumption | (simp only [List.length_map]; omega)) | refine Runs.cond_dec rfl (fun h => ?_) (fun h => ?_) | refine Runs.cond_ndec rfl (fun h => ?_) (fun h => ?_) | refine Runs.cond_nb rfl (fun h => ?_) (fun h => ?_) | refine Runs.cond_b rfl (fun h => ?_) (fun h => ?_) | refine Runs.ret (ends_ro hm rfl rfl ?_) | exact Runs.ret (ends_cellR hm rfl rfl rfl (Nat.le_of_ble_eq_true rfl) rfl rfl))
 | refine op_box rfl (tl hn rfl) ?_
 | refine op_storeF rfl rfl rfl rfl (Nat.le_of_ble_eq_true rfl) ?_
 | refine op_alloc (tl hn rfl) ?_
 | refine op_storeN rfl rfl rfl rfl (Nat.le_of_ble_eq_true rfl) ?_
 | (refine RunsL.pe hn rfl rfl rfl ?_; first
 | refine ⟨_, pu_add rfl rfl (by omega), ?_⟩
 | refine ⟨_, pu_indexAddr_map rfl rfl (by omega) (by assumption), ?_⟩
 | refine ⟨_, pu_sub rfl rfl (by omega), ?_⟩
 | refine ⟨_, pu_pick_b rfl rfl rfl, ?_⟩
 | refine ⟨_, pu_mul rfl rfl (by omega), ?_⟩
 | refine ⟨_, pu_build rfl rfl rfl rfl rfl rfl, ?_⟩)
 | ((first | refine RunsL.guard_dec rfl rfl rfl ?_ ?_ | refine RunsL.guard_ndec rfl rfl rfl ?_ ?_ | refine RunsL.guard_nb rfl rfl rfl ?_ ?_ | refine RunsL.guard_b rfl rfl rfl ?_ ?_) <;> intro h <;> try (exfalso; first | omega | contradiction | (simp only [List.length_map] at h; omega))))
  all_goals exact rr_bool (by rw [Bool.eq_iff_iff]; simp [MarkAt, *])
set_option maxHeartbeats 8000000 in
theorem safeLoop_ac (p : Prg) (k : Int) (hk : Sm k) : ACv Try.prog 103 [prgR p, .int k] (.bool (decide (LoopAt p k))) := by
  refine ac_enter Try.func103 rfl _ Try.ntmps103 (by simp) fun C hn hm => ?_
  by_cases h : opA p k = 7 ∧ opA p (k + 2) = 8
  · obtain ⟨x, hx⟩ := idx_get (opA_in (by rw [h.1]; decide : opA p k ≠ 0))
    obtain ⟨y, hy⟩ := idx_get (opA_in (by rw [h.2]; decide : opA p (k + 2) ≠ 0))
    have i1 := (opA_in (by rw [h.1]; decide : opA p k ≠ 0)).1
    have ex := aA_at i1 hx
    have ey := aA_at (by omega) hy
    repeat' (first
 | refine RunsL.step tabOk hn rfl ?_
 | refine RunsL.nil ?_
 | refine Runs.toRegion 30 rfl ?_
 | (refine RunsL.pe hn rfl rfl rfl ?_; first
 | refine ⟨_, pu_callR (opAt_ac p _) rfl, ?_⟩)
 | (refine Runs.ctls 30 rfl ?_; first | refine Runs.cond_t rfl ?_ | refine Runs.cond_f rfl ?_ | ((first | refine Runs.cond_yes rfl ?_ ?_ | refine Runs.cond_nno rfl ?_ ?_); · first | omega | rfl | assumption | (simp only [List.length_map]; omega)) | ((first | refine Runs.cond_no rfl ?_ ?_ | refine Runs.cond_nyes rfl ?_ ?_); · first | omega | rfl | assumption | (simp only [List.length_map]; omega)) | refine Runs.cond_dec rfl (fun h => ?_) (fun h => ?_) | refine Runs.cond_ndec rfl (fun h => ?_) (fun h => ?_) | refine Runs.cond_nb rfl (fun h => ?_) (fun h => ?_) | refine Runs.cond_b rfl (fun h => ?_) (fun h => ?_) | refine Runs.ret (ends_ro hm rfl rfl ?_) | exact Runs.ret (ends_cellR hm rfl rfl rfl (Nat.le_of_ble_eq_true rfl) rfl rfl))
 | refine op_box rfl (tl hn rfl) ?_
 | refine op_storeF rfl rfl rfl rfl (Nat.le_of_ble_eq_true rfl) ?_
 | refine op_alloc (tl hn rfl) ?_
 | refine op_storeN rfl rfl rfl rfl (Nat.le_of_ble_eq_true rfl) ?_
 | (refine RunsL.pe hn rfl rfl rfl ?_; first
 | refine ⟨_, pu_add rfl rfl (by omega), ?_⟩
 | refine ⟨_, pu_indexAddr_map rfl rfl (by omega) (by assumption), ?_⟩
 | refine ⟨_, pu_sub rfl rfl (by omega), ?_⟩
 | refine ⟨_, pu_pick_b rfl rfl rfl, ?_⟩
 | refine ⟨_, pu_mul rfl rfl (by omega), ?_⟩
 | refine ⟨_, pu_build rfl rfl rfl rfl rfl rfl, ?_⟩)
 | ((first | refine RunsL.guard_dec rfl rfl rfl ?_ ?_ | refine RunsL.guard_ndec rfl rfl rfl ?_ ?_ | refine RunsL.guard_nb rfl rfl rfl ?_ ?_ | refine RunsL.guard_b rfl rfl rfl ?_ ?_) <;> intro h <;> try (exfalso; first | omega | contradiction | (simp only [List.length_map] at h; omega))))
    all_goals exact rr_bool (by rw [Bool.eq_iff_iff]; simp [LoopAt, *])
  · repeat' (first
 | refine RunsL.step tabOk hn rfl ?_
 | refine RunsL.nil ?_
 | refine Runs.toRegion 30 rfl ?_
 | (refine RunsL.pe hn rfl rfl rfl ?_; first
 | refine ⟨_, pu_callR (opAt_ac p _) rfl, ?_⟩)
 | (refine Runs.ctls 30 rfl ?_; first | refine Runs.cond_t rfl ?_ | refine Runs.cond_f rfl ?_ | ((first | refine Runs.cond_yes rfl ?_ ?_ | refine Runs.cond_nno rfl ?_ ?_); · first | omega | rfl | assumption | (simp only [List.length_map]; omega)) | ((first | refine Runs.cond_no rfl ?_ ?_ | refine Runs.cond_nyes rfl ?_ ?_); · first | omega | rfl | assumption | (simp only [List.length_map]; omega)) | refine Runs.cond_dec rfl (fun h => ?_) (fun h => ?_) | refine Runs.cond_ndec rfl (fun h => ?_) (fun h => ?_) | refine Runs.cond_nb rfl (fun h => ?_) (fun h => ?_) | refine Runs.cond_b rfl (fun h => ?_) (fun h => ?_) | refine Runs.ret (ends_ro hm rfl rfl ?_) | exact Runs.ret (ends_cellR hm rfl rfl rfl (Nat.le_of_ble_eq_true rfl) rfl rfl))
 | refine op_box rfl (tl hn rfl) ?_
 | refine op_storeF rfl rfl rfl rfl (Nat.le_of_ble_eq_true rfl) ?_
 | refine op_alloc (tl hn rfl) ?_
 | refine op_storeN rfl rfl rfl rfl (Nat.le_of_ble_eq_true rfl) ?_
 | (refine RunsL.pe hn rfl rfl rfl ?_; first
 | refine ⟨_, pu_add rfl rfl (by omega), ?_⟩
 | refine ⟨_, pu_indexAddr_map rfl rfl (by omega) (by assumption), ?_⟩
 | refine ⟨_, pu_sub rfl rfl (by omega), ?_⟩
 | refine ⟨_, pu_pick_b rfl rfl rfl, ?_⟩
 | refine ⟨_, pu_mul rfl rfl (by omega), ?_⟩
 | refine ⟨_, pu_build rfl rfl rfl rfl rfl rfl, ?_⟩)
 | ((first | refine RunsL.guard_dec rfl rfl rfl ?_ ?_ | refine RunsL.guard_ndec rfl rfl rfl ?_ ?_ | refine RunsL.guard_nb rfl rfl rfl ?_ ?_ | refine RunsL.guard_b rfl rfl rfl ?_ ?_) <;> intro h <;> try (exfalso; first | omega | contradiction | (simp only [List.length_map] at h; omega))))
    all_goals first
      | exact rr_bool (decide_eq_false (p := LoopAt p k) fun hN => by unfold LoopAt at hN; first | omega | exact h ⟨hN.1, hN.2.2.2.1⟩).symm
      | (exfalso; exact h ⟨by assumption, by assumption⟩)
theorem l16Is_ac (p : Prg) (i o : Int) (ho : o ≠ 0) (hl : p.code.length ≤ maxLen) : ACv Try.prog 64 [prgR p, .int i, .int o] (.bool (decide (opA p i = o))) := by
  have hlc : (p.code.map insR).length = p.code.length := List.length_map ..
  unfold maxLen at hl
  refine ac_enter Try.func64 rfl _ Try.ntmps64 (by simp) fun C hn hm => ?_
  by_cases h : Idx p i
  · obtain ⟨x, hx⟩ := idx_get h
    rw [opA_at h.1 hx]
    unfold Idx at h
    repeat' (first
 | refine RunsL.step tabOk hn rfl ?_
 | refine RunsL.nil ?_
 | refine Runs.toRegion 30 rfl ?_
 | (refine RunsL.pe hn rfl rfl rfl ?_; first
 | refine ⟨_, pu_callR (l1In_ac _ _ _) rfl, ?_⟩)
 | (refine Runs.ctls 30 rfl ?_; first | refine Runs.cond_t rfl ?_ | refine Runs.cond_f rfl ?_ | ((first | refine Runs.cond_yes rfl ?_ ?_ | refine Runs.cond_nno rfl ?_ ?_); · first | omega | rfl | assumption | (simp only [List.length_map]; omega)) | ((first | refine Runs.cond_no rfl ?_ ?_ | refine Runs.cond_nyes rfl ?_ ?_); · first | omega | rfl | assumption | (simp only [List.length_map]; omega)) | refine Runs.cond_dec rfl (fun h => ?_) (fun h => ?_) | refine Runs.cond_ndec rfl (fun h => ?_) (fun h => ?_) | refine Runs.cond_nb rfl (fun h => ?_) (fun h => ?_) | refine Runs.cond_b rfl (fun h => ?_) (fun h => ?_) | refine Runs.ret (ends_ro hm rfl rfl ?_) | exact Runs.ret (ends_cellR hm rfl rfl rfl (Nat.le_of_ble_eq_true rfl) rfl rfl))
 | refine op_box rfl (tl hn rfl) ?_
 | refine op_storeF rfl rfl rfl rfl (Nat.le_of_ble_eq_true rfl) ?_
 | refine op_alloc (tl hn rfl) ?_
 | refine op_storeN rfl rfl rfl rfl (Nat.le_of_ble_eq_true rfl) ?_
 | (refine RunsL.pe hn rfl rfl rfl ?_; first
 | refine ⟨_, pu_add rfl rfl (by omega), ?_⟩
 | refine ⟨_, pu_indexAddr_map rfl rfl (by omega) (by assumption), ?_⟩
 | refine ⟨_, pu_sub rfl rfl (by omega), ?_⟩
 | refine ⟨_, pu_pick_b rfl rfl rfl, ?_⟩
 | refine ⟨_, pu_mul rfl rfl (by omega), ?_⟩
 | refine ⟨_, pu_build rfl rfl rfl rfl rfl rfl, ?_⟩)
 | ((first | refine RunsL.guard_dec rfl rfl rfl ?_ ?_ | refine RunsL.guard_ndec rfl rfl rfl ?_ ?_ | refine RunsL.guard_nb rfl rfl rfl ?_ ?_ | refine RunsL.guard_b rfl rfl rfl ?_ ?_) <;> intro h <;> try (exfalso; first | omega | contradiction | (simp only [List.length_map] at h; omega))))
    all_goals exact rr_bool rfl
  · rw [opA_out h]
    unfold Idx at h
    repeat' (first
 | refine RunsL.step tabOk hn rfl ?_
 | refine RunsL.nil ?_
 | refine Runs.toRegion 30 rfl ?_
 | (refine RunsL.pe hn rfl rfl rfl ?_; first
 | refine ⟨_, pu_callR (l1In_ac _ _ _) rfl, ?_⟩)
 | (refine Runs.ctls 30 rfl ?_; first | refine Runs.cond_t rfl ?_ | refine Runs.cond_f rfl ?_ | ((first | refine Runs.cond_yes rfl ?_ ?_ | refine Runs.cond_nno rfl ?_ ?_); · first | omega | rfl | assumption | (simp only [List.length_map]; omega)) | ((first | refine Runs.cond_no rfl ?_ ?_ | refine Runs.cond_nyes rfl ?_ ?_); · first | omega | rfl | assumption | (simp only [List.length_map]; omega)) | refine Runs.cond_dec rfl (fun h => ?_) (fun h => ?_) | refine Runs.cond_ndec rfl (fun h => ?_) (fun h => ?_) | refine Runs.cond_nb rfl (fun h => ?_) (fun h => ?_) | refine Runs.cond_b rfl (fun h => ?_) (fun h => ?_) | refine Runs.ret (ends_ro hm rfl rfl ?_) | exact Runs.ret (ends_cellR hm rfl rfl rfl (Nat.le_of_ble_eq_true rfl) rfl rfl))
 | refine op_box rfl (tl hn rfl) ?_
 | refine op_storeF rfl rfl rfl rfl (Nat.le_of_ble_eq_true rfl) ?_
 | refine op_alloc (tl hn rfl) ?_
 | refine op_storeN rfl rfl rfl rfl (Nat.le_of_ble_eq_true rfl) ?_
 | (refine RunsL.pe hn rfl rfl rfl ?_; first
 | refine ⟨_, pu_add rfl rfl (by omega), ?_⟩
 | refine ⟨_, pu_indexAddr_map rfl rfl (by omega) (by assumption), ?_⟩
 | refine ⟨_, pu_sub rfl rfl (by omega), ?_⟩
 | refine ⟨_, pu_pick_b rfl rfl rfl, ?_⟩
 | refine ⟨_, pu_mul rfl rfl (by omega), ?_⟩
 | refine ⟨_, pu_build rfl rfl rfl rfl rfl rfl, ?_⟩)
 | ((first | refine RunsL.guard_dec rfl rfl rfl ?_ ?_ | refine RunsL.guard_ndec rfl rfl rfl ?_ ?_ | refine RunsL.guard_nb rfl rfl rfl ?_ ?_ | refine RunsL.guard_b rfl rfl rfl ?_ ?_) <;> intro h <;> try (exfalso; first | omega | contradiction | (simp only [List.length_map] at h; omega))))
    all_goals exact rr_bool (decide_eq_false (p := (0 : Int) = o) (fun e => ho e.symm)).symm
set_option maxHeartbeats 8000000 in
theorem l16Loop_ac (p : Prg) (k : Int) (hk : Sm k) (hl : p.code.length ≤ maxLen) : ACv Try.prog 108 [prgR p, .int k] (.bool (decide (LoopAt p k))) := by
  refine ac_enter Try.func108 rfl _ Try.ntmps108 (by simp) fun C hn hm => ?_
  by_cases h : opA p k = 7 ∧ opA p (k + 2) = 8
  · obtain ⟨x, hx⟩ := idx_get (opA_in (by rw [h.1]; decide : opA p k ≠ 0))
    obtain ⟨y, hy⟩ := idx_get (opA_in (by rw [h.2]; decide : opA p (k + 2) ≠ 0))
    have i1 := (opA_in (by rw [h.1]; decide : opA p k ≠ 0)).1
    have ex := aA_at i1 hx
    have ey := aA_at (by omega) hy
    repeat' (first
 | refine RunsL.step tabOk hn rfl ?_
 | refine RunsL.nil ?_
 | refine Runs.toRegion 30 rfl ?_
 | (refine RunsL.pe hn rfl rfl rfl ?_; first
 | refine ⟨_, pu_callR (l16Is_ac p _ _ (by decide) hl) rfl, ?_⟩)
 | (refine Runs.ctls 30 rfl ?_; first | refine Runs.cond_t rfl ?_ | refine Runs.cond_f rfl ?_ | ((first | refine Runs.cond_yes rfl ?_ ?_ | refine Runs.cond_nno rfl ?_ ?_); · first | omega | rfl | assumption | (simp only [List.length_map]; omega)) | ((first | refine Runs.cond_no rfl ?_ ?_ | refine Runs.cond_nyes rfl ?_ ?_); · first | omega | rfl | assumption | (simp only [List.length_map]; omega)) | refine Runs.cond_dec rfl (fun h => ?_) (fun h => ?_) | refine Runs.cond_ndec rfl (fun h => ?_) (fun h => ?_) | refine Runs.cond_nb rfl (fun h => ?_) (fun h => ?_) | refine Runs.cond_b rfl (fun h => ?_) (fun h => ?_) | refine Runs.ret (ends_ro hm rfl rfl ?_) | exact Runs.ret (ends_cellR hm rfl rfl rfl (Nat.le_of_ble_eq_true rfl) rfl rfl))
 | refine op_box rfl (tl hn rfl) ?_
 | refine op_storeF rfl rfl rfl rfl (Nat.le_of_ble_eq_true rfl) ?_
 | refine op_alloc (tl hn rfl) ?_
 | refine op_storeN rfl rfl rfl rfl (Nat.le_of_ble_eq_true rfl) ?_
 | (refine RunsL.pe hn rfl rfl rfl ?_; first
 | refine ⟨_, pu_add rfl rfl (by omega), ?_⟩
 | refine ⟨_, pu_indexAddr_map rfl rfl (by omega) (by assumption), ?_⟩
 | refine ⟨_, pu_sub rfl rfl (by omega), ?_⟩
 | refine ⟨_, pu_pick_b rfl rfl rfl, ?_⟩
 | refine ⟨_, pu_mul rfl rfl (by omega), ?_⟩
 | refine ⟨_, pu_build rfl rfl rfl rfl rfl rfl, ?_⟩)
 | ((first | refine RunsL.guard_dec rfl rfl rfl ?_ ?_ | refine RunsL.guard_ndec rfl rfl rfl ?_ ?_ | refine RunsL.guard_nb rfl rfl rfl ?_ ?_ | refine RunsL.guard_b rfl rfl rfl ?_ ?_) <;> intro h <;> try (exfalso; first | omega | contradiction | (simp only [List.length_map] at h; omega))))
    all_goals exact rr_bool (by rw [Bool.eq_iff_iff]; simp [LoopAt, *])
  · repeat' (first
 | refine RunsL.step tabOk hn rfl ?_
 | refine RunsL.nil ?_
 | refine Runs.toRegion 30 rfl ?_
 | (refine RunsL.pe hn rfl rfl rfl ?_; first
 | refine ⟨_, pu_callR (l16Is_ac p _ _ (by decide) hl) rfl, ?_⟩)
 | (refine Runs.ctls 30 rfl ?_; first | refine Runs.cond_t rfl ?_ | refine Runs.cond_f rfl ?_ | ((first | refine Runs.cond_yes rfl ?_ ?_ | refine Runs.cond_nno rfl ?_ ?_); · first | omega | rfl | assumption | (simp only [List.length_map]; omega)) | ((first | refine Runs.cond_no rfl ?_ ?_ | refine Runs.cond_nyes rfl ?_ ?_); · first | omega | rfl | assumption | (simp only [List.length_map]; omega)) | refine Runs.cond_dec rfl (fun h => ?_) (fun h => ?_) | refine Runs.cond_ndec rfl (fun h => ?_) (fun h => ?_) | refine Runs.cond_nb rfl (fun h => ?_) (fun h => ?_) | refine Runs.cond_b rfl (fun h => ?_) (fun h => ?_) | refine Runs.ret (ends_ro hm rfl rfl ?_) | exact Runs.ret (ends_cellR hm rfl rfl rfl (Nat.le_of_ble_eq_true rfl) rfl rfl))
 | refine op_box rfl (tl hn rfl) ?_
 | refine op_storeF rfl rfl rfl rfl (Nat.le_of_ble_eq_true rfl) ?_
 | refine op_alloc (tl hn rfl) ?_
 | refine op_storeN rfl rfl rfl rfl (Nat.le_of_ble_eq_true rfl) ?_
 | (refine RunsL.pe hn rfl rfl rfl ?_; first
 | refine ⟨_, pu_add rfl rfl (by omega), ?_⟩
 | refine ⟨_, pu_indexAddr_map rfl rfl (by omega) (by assumption), ?_⟩
 | refine ⟨_, pu_sub rfl rfl (by omega), ?_⟩
 | refine ⟨_, pu_pick_b rfl rfl rfl, ?_⟩
 | refine ⟨_, pu_mul rfl rfl (by omega), ?_⟩
 | refine ⟨_, pu_build rfl rfl rfl rfl rfl rfl, ?_⟩)
 | ((first | refine RunsL.guard_dec rfl rfl rfl ?_ ?_ | refine RunsL.guard_ndec rfl rfl rfl ?_ ?_ | refine RunsL.guard_nb rfl rfl rfl ?_ ?_ | refine RunsL.guard_b rfl rfl rfl ?_ ?_) <;> intro h <;> try (exfalso; first | omega | contradiction | (simp only [List.length_map] at h; omega))))
    all_goals first
      | exact rr_bool (decide_eq_false (p := LoopAt p k) fun hN => by unfold LoopAt at hN; first | omega | exact h ⟨hN.1, hN.2.2.2.1⟩).symm
      | (exfalso; exact h ⟨by assumption, by assumption⟩)
end Go.Proofs.Ytkhnijggbfoimaa
/- The verifier of programs: one instruction in its block: both sides. -/
namespace Go.Proofs.Ytkhnijggbfoimaa
set_option linter.unusedSimpArgs false
set_option linter.unusedVariables false
open Go.RowKit
/-- Where a number stands in a list, or -1. -/
def fnd (l : List Int) (a : Int) : Int := if a ∈ l then (l.idxOf a : Int) else -1
theorem idxOf_at : ∀ {l : List Int} {j : Nat} {a : Int}, l[j]? = some a → a ∉ l.take j → l.idxOf a = j
  | [], j, a, h, _ => by simp at h
  | x :: l, 0, a, h, _ => by simp at h; subst h; simp
  | x :: l, j + 1, a, h, hn => by
    simp only [List.getElem?_cons_succ] at h
    simp only [List.take_succ_cons, List.mem_cons, not_or] at hn
    rw [List.idxOf_cons]
    have : (x == a) = false := by simpa using fun e => hn.1 e.symm
    rw [this, cond_false, idxOf_at h hn.2]
theorem fnd_yes {l : List Int} {j : Nat} {a : Int} (h : l[j]? = some a) (hn : a ∉ l.take j) : fnd l a = j := by
  unfold fnd
  rw [if_pos (List.mem_of_getElem? h), idxOf_at h hn]
theorem fnd_no {l : List Int} {a : Int} (h : a ∉ l) : fnd l a = -1 := if_neg h
theorem fnd_ge (l : List Int) (a : Int) : (0 ≤ fnd l a) ↔ a ∈ l := by
  unfold fnd
  split
  · rename_i h; exact ⟨fun _ => h, fun _ => by omega⟩
  · rename_i h; exact ⟨fun h' => absurd h' (by omega), fun h' => absurd h' h⟩
theorem place1_ac (p : Prg) (tgt idx blk : Int) (h0 : 0 ≤ blk) (h1 : blk ≤ 9223372036854775806) (hl : p.entries.length ≤ maxLen) :
    ACv Try.prog 100 [.int tgt, .rp [.int idx], .rp [inssR p.code, intsR p.entries], .rp [.int blk]] (.bool (decide (idx < tgt ∧ tgt < endA p blk))) := by
  have he := blockEnd_ac p blk h0 h1 hl
  refine ac_enter Try.func100 rfl _ Try.ntmps100 (by simp) fun C hn hm => ?_
  repeat' (first
 | refine RunsL.step tabOk hn rfl ?_
 | refine RunsL.nil ?_
 | refine Runs.toRegion 30 rfl ?_
 | (refine RunsL.pe hn rfl rfl rfl ?_; first
 | refine ⟨_, pu_callR he rfl, ?_⟩)
 | (refine Runs.ctls 30 rfl ?_; first | refine Runs.cond_t rfl ?_ | refine Runs.cond_f rfl ?_ | ((first | refine Runs.cond_yes rfl ?_ ?_ | refine Runs.cond_nno rfl ?_ ?_); · first | omega | rfl | assumption | (simp only [List.length_map]; omega)) | ((first | refine Runs.cond_no rfl ?_ ?_ | refine Runs.cond_nyes rfl ?_ ?_); · first | omega | rfl | assumption | (simp only [List.length_map]; omega)) | refine Runs.cond_dec rfl (fun h => ?_) (fun h => ?_) | refine Runs.cond_ndec rfl (fun h => ?_) (fun h => ?_) | refine Runs.cond_nb rfl (fun h => ?_) (fun h => ?_) | refine Runs.cond_b rfl (fun h => ?_) (fun h => ?_) | refine Runs.ret (ends_ro hm rfl rfl ?_) | exact Runs.ret (ends_cellR hm rfl rfl rfl (Nat.le_of_ble_eq_true rfl) rfl rfl))
 | refine op_box rfl (tl hn rfl) ?_
 | refine op_storeF rfl rfl rfl rfl (Nat.le_of_ble_eq_true rfl) ?_
 | refine op_alloc (tl hn rfl) ?_
 | refine op_storeN rfl rfl rfl rfl (Nat.le_of_ble_eq_true rfl) ?_
 | (refine RunsL.pe hn rfl rfl rfl ?_; first
 | refine ⟨_, pu_add rfl rfl (by omega), ?_⟩
 | refine ⟨_, pu_indexAddr_map rfl rfl (by omega) (by assumption), ?_⟩
 | refine ⟨_, pu_sub rfl rfl (by omega), ?_⟩
 | refine ⟨_, pu_pick_b rfl rfl rfl, ?_⟩
 | refine ⟨_, pu_mul rfl rfl (by omega), ?_⟩
 | refine ⟨_, pu_build rfl rfl rfl rfl rfl rfl, ?_⟩)
 | ((first | refine RunsL.guard_dec rfl rfl rfl ?_ ?_ | refine RunsL.guard_ndec rfl rfl rfl ?_ ?_ | refine RunsL.guard_nb rfl rfl rfl ?_ ?_ | refine RunsL.guard_b rfl rfl rfl ?_ ?_) <;> intro h <;> try (exfalso; first | omega | contradiction | (simp only [List.length_map] at h; omega))))
  all_goals exact rr_bool (by rw [Bool.eq_iff_iff]; simp [*])
theorem place2_ac (e : Int) (x : Ins) : ACv Try.prog 102 [.int e, .rp (insR x)] (.bool (decide (e = x.a))) := by
  refine ac_enter Try.func102 rfl _ Try.ntmps102 (by simp) fun C hn hm => ?_
  repeat' (first
 | refine RunsL.step tabOk hn rfl ?_
 | refine RunsL.nil ?_
 | refine Runs.toRegion 30 rfl ?_
 | (refine Runs.ctls 30 rfl ?_; first | refine Runs.cond_t rfl ?_ | refine Runs.cond_f rfl ?_ | ((first | refine Runs.cond_yes rfl ?_ ?_ | refine Runs.cond_nno rfl ?_ ?_); · first | omega | rfl | assumption | (simp only [List.length_map]; omega)) | ((first | refine Runs.cond_no rfl ?_ ?_ | refine Runs.cond_nyes rfl ?_ ?_); · first | omega | rfl | assumption | (simp only [List.length_map]; omega)) | refine Runs.cond_dec rfl (fun h => ?_) (fun h => ?_) | refine Runs.cond_ndec rfl (fun h => ?_) (fun h => ?_) | refine Runs.cond_nb rfl (fun h => ?_) (fun h => ?_) | refine Runs.cond_b rfl (fun h => ?_) (fun h => ?_) | refine Runs.ret (ends_ro hm rfl rfl ?_) | exact Runs.ret (ends_cellR hm rfl rfl rfl (Nat.le_of_ble_eq_true rfl) rfl rfl))
 | refine op_box rfl (tl hn rfl) ?_
 | refine op_storeF rfl rfl rfl rfl (Nat.le_of_ble_eq_true rfl) ?_
 | refine op_alloc (tl hn rfl) ?_
 | refine op_storeN rfl rfl rfl rfl (Nat.le_of_ble_eq_true rfl) ?_
 | (refine RunsL.pe hn rfl rfl rfl ?_; first
 | refine ⟨_, pu_add rfl rfl (by omega), ?_⟩
 | refine ⟨_, pu_indexAddr_map rfl rfl (by omega) (by assumption), ?_⟩
 | refine ⟨_, pu_sub rfl rfl (by omega), ?_⟩
 | refine ⟨_, pu_pick_b rfl rfl rfl, ?_⟩
 | refine ⟨_, pu_mul rfl rfl (by omega), ?_⟩
 | refine ⟨_, pu_build rfl rfl rfl rfl rfl rfl, ?_⟩))
  exact rr_bool rfl
set_option maxHeartbeats 4000000 in
theorem indexFunc_ac (l : List Int) (x : Ins) (hl : l.length ≤ maxLen) : ACA Try.prog 101 [.ro (intsR l), .fn (.func 102) [] [.ro (.rp (insR x))]] (fun rr => rr = .ro (.int (fnd l x.a))) := by
  have hlm : (l.map fun z => [RV.int z]).length = l.length := List.length_map ..
  unfold maxLen at hl
  refine aca_enter Try.func101 rfl _ Try.ntmps101 (by simp) fun C hn hm => ?_
  repeat' (first
 | refine RunsL.step tabOk hn rfl ?_
 | refine RunsL.nil ?_
 | refine Runs.toRegion 30 rfl ?_
 | (refine Runs.ctls 30 rfl ?_; first | refine Runs.cond_t rfl ?_ | refine Runs.cond_f rfl ?_ | ((first | refine Runs.cond_yes rfl ?_ ?_ | refine Runs.cond_nno rfl ?_ ?_); · first | omega | rfl | assumption | (simp only [List.length_map]; omega)) | ((first | refine Runs.cond_no rfl ?_ ?_ | refine Runs.cond_nyes rfl ?_ ?_); · first | omega | rfl | assumption | (simp only [List.length_map]; omega)) | refine Runs.cond_dec rfl (fun h => ?_) (fun h => ?_) | refine Runs.cond_ndec rfl (fun h => ?_) (fun h => ?_) | refine Runs.cond_nb rfl (fun h => ?_) (fun h => ?_) | refine Runs.cond_b rfl (fun h => ?_) (fun h => ?_) | refine Runs.ret (ends_ro hm rfl rfl ?_) | exact Runs.ret (ends_cellR hm rfl rfl rfl (Nat.le_of_ble_eq_true rfl) rfl rfl))
 | refine op_box rfl (tl hn rfl) ?_
 | refine op_storeF rfl rfl rfl rfl (Nat.le_of_ble_eq_true rfl) ?_
 | refine op_alloc (tl hn rfl) ?_
 | refine op_storeN rfl rfl rfl rfl (Nat.le_of_ble_eq_true rfl) ?_
 | (refine RunsL.pe hn rfl rfl rfl ?_; first
 | refine ⟨_, pu_add rfl rfl (by omega), ?_⟩
 | refine ⟨_, pu_indexAddr_map rfl rfl (by omega) (by assumption), ?_⟩
 | refine ⟨_, pu_sub rfl rfl (by omega), ?_⟩
 | refine ⟨_, pu_pick_b rfl rfl rfl, ?_⟩
 | refine ⟨_, pu_mul rfl rfl (by omega), ?_⟩
 | refine ⟨_, pu_build rfl rfl rfl rfl rfl rfl, ?_⟩))
  refine Runs.loopN 30 rfl (fun j => [(7, .ro (intsR l)), (8, .int (l.length : Int)), (1, .fn (.func 102) [] [.ro (.rp (insR x))]), (9, .int (j : Int))]) (fun _ => []) (fun j => x.a ∉ l.take j) l.length 0 (Nat.zero_le _) (by simp) ⟨rfl, by simp [look], rfl, rfl, trivial⟩ rfl fun j hj hQ next => ?_
  by_cases hlt : j < l.length
  · obtain ⟨z, hz⟩ : ∃ z, l[(j : Int).toNat]? = some z := ⟨_, List.getElem?_eq_getElem hlt⟩
    have hz' : l[j]? = some z := hz
    have h2 := place2_ac z x
    repeat' (first
 | refine RunsL.step tabOk hn rfl ?_
 | refine RunsL.nil ?_
 | refine Runs.toRegion 30 rfl ?_
 | (refine RunsL.pe hn rfl rfl rfl ?_; first
 | refine ⟨_, pu_callF rfl h2 (.cons .ro (.cons .ro .nil)), ?_⟩)
 | (refine Runs.ctls 30 rfl ?_; first | refine Runs.cond_t rfl ?_ | refine Runs.cond_f rfl ?_ | ((first | refine Runs.cond_yes rfl ?_ ?_ | refine Runs.cond_nno rfl ?_ ?_); · first | omega | rfl | assumption | (simp only [List.length_map]; omega)) | ((first | refine Runs.cond_no rfl ?_ ?_ | refine Runs.cond_nyes rfl ?_ ?_); · first | omega | rfl | assumption | (simp only [List.length_map]; omega)) | refine Runs.cond_dec rfl (fun h => ?_) (fun h => ?_) | refine Runs.cond_ndec rfl (fun h => ?_) (fun h => ?_) | refine Runs.cond_nb rfl (fun h => ?_) (fun h => ?_) | refine Runs.cond_b rfl (fun h => ?_) (fun h => ?_) | refine Runs.ret (ends_ro hm rfl rfl ?_) | exact Runs.ret (ends_cellR hm rfl rfl rfl (Nat.le_of_ble_eq_true rfl) rfl rfl))
 | refine op_box rfl (tl hn rfl) ?_
 | refine op_storeF rfl rfl rfl rfl (Nat.le_of_ble_eq_true rfl) ?_
 | refine op_alloc (tl hn rfl) ?_
 | refine op_storeN rfl rfl rfl rfl (Nat.le_of_ble_eq_true rfl) ?_
 | (refine RunsL.pe hn rfl rfl rfl ?_; first
 | refine ⟨_, pu_add rfl rfl (by omega), ?_⟩
 | refine ⟨_, pu_indexAddr_map rfl rfl (by omega) (by assumption), ?_⟩
 | refine ⟨_, pu_sub rfl rfl (by omega), ?_⟩
 | refine ⟨_, pu_pick_b rfl rfl rfl, ?_⟩
 | refine ⟨_, pu_mul rfl rfl (by omega), ?_⟩
 | refine ⟨_, pu_build rfl rfl rfl rfl rfl rfl, ?_⟩))
    · exact rr_int (fnd_yes (by rw [hz', h]) hQ).symm
    · refine next _ _ ⟨rfl, rfl, rfl, rfl, trivial⟩ hlt ?_ rfl
      rw [List.take_succ_eq_append_getElem hlt, List.mem_append]
      rintro (hm' | hm')
      · exact hQ hm'
      · rw [List.getElem?_eq_getElem hlt] at hz'; injection hz' with hz'
        simp only [List.mem_singleton] at hm'
        exact h (by rw [hm', hz'])
  · repeat' (first
 | refine RunsL.step tabOk hn rfl ?_
 | refine RunsL.nil ?_
 | refine Runs.toRegion 30 rfl ?_
 | (refine Runs.ctls 30 rfl ?_; first | refine Runs.cond_t rfl ?_ | refine Runs.cond_f rfl ?_ | ((first | refine Runs.cond_yes rfl ?_ ?_ | refine Runs.cond_nno rfl ?_ ?_); · first | omega | rfl | assumption | (simp only [List.length_map]; omega)) | ((first | refine Runs.cond_no rfl ?_ ?_ | refine Runs.cond_nyes rfl ?_ ?_); · first | omega | rfl | assumption | (simp only [List.length_map]; omega)) | refine Runs.cond_dec rfl (fun h => ?_) (fun h => ?_) | refine Runs.cond_ndec rfl (fun h => ?_) (fun h => ?_) | refine Runs.cond_nb rfl (fun h => ?_) (fun h => ?_) | refine Runs.cond_b rfl (fun h => ?_) (fun h => ?_) | refine Runs.ret (ends_ro hm rfl rfl ?_) | exact Runs.ret (ends_cellR hm rfl rfl rfl (Nat.le_of_ble_eq_true rfl) rfl rfl))
 | refine op_box rfl (tl hn rfl) ?_
 | refine op_storeF rfl rfl rfl rfl (Nat.le_of_ble_eq_true rfl) ?_
 | refine op_alloc (tl hn rfl) ?_
 | refine op_storeN rfl rfl rfl rfl (Nat.le_of_ble_eq_true rfl) ?_
 | (refine RunsL.pe hn rfl rfl rfl ?_; first
 | refine ⟨_, pu_add rfl rfl (by omega), ?_⟩
 | refine ⟨_, pu_indexAddr_map rfl rfl (by omega) (by assumption), ?_⟩
 | refine ⟨_, pu_sub rfl rfl (by omega), ?_⟩
 | refine ⟨_, pu_pick_b rfl rfl rfl, ?_⟩
 | refine ⟨_, pu_mul rfl rfl (by omega), ?_⟩
 | refine ⟨_, pu_build rfl rfl rfl rfl rfl rfl, ?_⟩))
    rw [show j = l.length by omega, List.take_length] at hQ
    exact rr_int (fnd_no hQ).symm
/-- An instruction x at k stands in block b as the program wants it. -/
def PlaceI (p : Prg) (b : Nat) (k : Int) (x : Ins) : Prop :=
  x.op ≠ 17 ∧ (x.op = 9 → x.a ∈ p.entries.take b) ∧ (x.op = 7 → LoopAt p k ∧ k < x.a ∧ x.a < endA p b) ∧ (x.op = 8 → LoopAt p (k - 2)) ∧ (x.op = 6 → LoopAt p (k + 1)) ∧
  (x.op = 13 → k < x.a ∧ x.a < endA p b) ∧ (x.op = 11 → k < x.b ∧ x.b < endA p b) ∧ (x.op = 14 → MarkAt p k) ∧ (x.op = 15 → MarkAt p (k - 2))
noncomputable instance (p : Prg) (b : Nat) (k : Int) (x : Ins) : Decidable (PlaceI p b k x) := Classical.propDecidable _
set_option maxHeartbeats 16000000 in
theorem safePlace_ac (p : Prg) (b : Nat) (k : Int) (x : Ins) (hb : b < p.entries.length) (hk : 0 ≤ k ∧ k ≤ 1000) (hx : p.code[k.toNat]? = some x) (hl : p.entries.length ≤ maxLen) :
    ACv Try.prog 79 [prgR p, .int (b : Int), .int k] (.bool (decide (PlaceI p b k x))) := by
  have hlm : (p.entries.map fun z => [RV.int z]).length = p.entries.length := List.length_map ..
  have hl' := hl
  unfold maxLen at hl'
  have p1 := fun tgt => place1_ac p tgt k b (by omega) (by omega) hl
  have hf := indexFunc_ac (p.entries.take b) x (by rw [List.length_take]; unfold maxLen; omega)
  have hge := fnd_ge (p.entries.take b) x.a
  have l1 := safeLoop_ac p k ⟨by omega, by omega⟩
  have l2 := safeLoop_ac p (k - 2) ⟨by omega, by omega⟩
  have l3 := safeLoop_ac p (k + 1) ⟨by omega, by omega⟩
  have m1 := safeMark_ac p k ⟨by omega, by omega⟩
  have m2 := safeMark_ac p (k - 2) ⟨by omega, by omega⟩
  refine ac_enter Try.func79 rfl _ Try.ntmps79 (by simp) fun C hn hm => ?_
  by_cases k17 : x.op = 17
  · repeat' (first
 | refine RunsL.step tabOk hn rfl ?_
 | refine RunsL.nil ?_
 | refine Runs.toRegion 30 rfl ?_
 | (refine RunsL.pe hn rfl rfl rfl ?_; first
 | refine ⟨_, pu_makeFunc, ?_⟩)
 | (refine Runs.ctls 30 rfl ?_; first | refine Runs.cond_t rfl ?_ | refine Runs.cond_f rfl ?_ | ((first | refine Runs.cond_yes rfl ?_ ?_ | refine Runs.cond_nno rfl ?_ ?_); · first | omega | rfl | assumption | (simp only [List.length_map]; omega)) | ((first | refine Runs.cond_no rfl ?_ ?_ | refine Runs.cond_nyes rfl ?_ ?_); · first | omega | rfl | assumption | (simp only [List.length_map]; omega)) | refine Runs.cond_dec rfl (fun h => ?_) (fun h => ?_) | refine Runs.cond_ndec rfl (fun h => ?_) (fun h => ?_) | refine Runs.cond_nb rfl (fun h => ?_) (fun h => ?_) | refine Runs.cond_b rfl (fun h => ?_) (fun h => ?_) | refine Runs.ret (ends_ro hm rfl rfl ?_) | exact Runs.ret (ends_cellR hm rfl rfl rfl (Nat.le_of_ble_eq_true rfl) rfl rfl))
 | refine op_box rfl (tl hn rfl) ?_
 | refine op_storeF rfl rfl rfl rfl (Nat.le_of_ble_eq_true rfl) ?_
 | refine op_alloc (tl hn rfl) ?_
 | refine op_storeN rfl rfl rfl rfl (Nat.le_of_ble_eq_true rfl) ?_
 | (refine RunsL.pe hn rfl rfl rfl ?_; first
 | refine ⟨_, pu_add rfl rfl (by omega), ?_⟩
 | refine ⟨_, pu_indexAddr_map rfl rfl (by omega) (by assumption), ?_⟩
 | refine ⟨_, pu_sub rfl rfl (by omega), ?_⟩
 | refine ⟨_, pu_pick_b rfl rfl rfl, ?_⟩
 | refine ⟨_, pu_mul rfl rfl (by omega), ?_⟩
 | refine ⟨_, pu_build rfl rfl rfl rfl rfl rfl, ?_⟩)
 | ((first | refine RunsL.guard_dec rfl rfl rfl ?_ ?_ | refine RunsL.guard_ndec rfl rfl rfl ?_ ?_ | refine RunsL.guard_nb rfl rfl rfl ?_ ?_ | refine RunsL.guard_b rfl rfl rfl ?_ ?_) <;> intro h <;> try (exfalso; first | omega | contradiction | (simp only [List.length_map] at h; omega))))
    all_goals exact rr_bool (by rw [Bool.eq_iff_iff]; simp [PlaceI, *])
  by_cases k9 : x.op = 9
  · repeat' (first
 | refine RunsL.step tabOk hn rfl ?_
 | refine RunsL.nil ?_
 | refine Runs.toRegion 30 rfl ?_
 | (refine RunsL.pe hn rfl rfl rfl ?_; first
 | refine ⟨_, pu_makeFunc, ?_⟩
 | refine ⟨_, pu_slice_hM rfl rfl (by omega) (by omega), ?_⟩
 | refine ⟨_, pu_callA hf (.cons (LendsA.of Lends.ro) (.cons (LendsA.fn .nil (.cons (LendsA.of (Lends.obj rfl (.cons .ro (.cons .ro (.cons .ro .nil))))) .nil)) .nil)), ?_⟩)
 | (refine Runs.ctls 30 rfl ?_; first | refine Runs.cond_t rfl ?_ | refine Runs.cond_f rfl ?_ | ((first | refine Runs.cond_yes rfl ?_ ?_ | refine Runs.cond_nno rfl ?_ ?_); · first | omega | rfl | assumption | (simp only [List.length_map]; omega)) | ((first | refine Runs.cond_no rfl ?_ ?_ | refine Runs.cond_nyes rfl ?_ ?_); · first | omega | rfl | assumption | (simp only [List.length_map]; omega)) | refine Runs.cond_dec rfl (fun h => ?_) (fun h => ?_) | refine Runs.cond_ndec rfl (fun h => ?_) (fun h => ?_) | refine Runs.cond_nb rfl (fun h => ?_) (fun h => ?_) | refine Runs.cond_b rfl (fun h => ?_) (fun h => ?_) | refine Runs.ret (ends_ro hm rfl rfl ?_) | exact Runs.ret (ends_cellR hm rfl rfl rfl (Nat.le_of_ble_eq_true rfl) rfl rfl))
 | refine op_box rfl (tl hn rfl) ?_
 | refine op_storeF rfl rfl rfl rfl (Nat.le_of_ble_eq_true rfl) ?_
 | refine op_alloc (tl hn rfl) ?_
 | refine op_storeN rfl rfl rfl rfl (Nat.le_of_ble_eq_true rfl) ?_
 | (refine RunsL.pe hn rfl rfl rfl ?_; first
 | refine ⟨_, pu_add rfl rfl (by omega), ?_⟩
 | refine ⟨_, pu_indexAddr_map rfl rfl (by omega) (by assumption), ?_⟩
 | refine ⟨_, pu_sub rfl rfl (by omega), ?_⟩
 | refine ⟨_, pu_pick_b rfl rfl rfl, ?_⟩
 | refine ⟨_, pu_mul rfl rfl (by omega), ?_⟩
 | refine ⟨_, pu_build rfl rfl rfl rfl rfl rfl, ?_⟩)
 | ((first | refine RunsL.guard_dec rfl rfl rfl ?_ ?_ | refine RunsL.guard_ndec rfl rfl rfl ?_ ?_ | refine RunsL.guard_nb rfl rfl rfl ?_ ?_ | refine RunsL.guard_b rfl rfl rfl ?_ ?_) <;> intro h <;> try (exfalso; first | omega | contradiction | (simp only [List.length_map] at h; omega))))
    all_goals exact rr_bool (by rw [Bool.eq_iff_iff]; simp [PlaceI, *])
  by_cases k7 : x.op = 7
  · repeat' (first
 | refine RunsL.step tabOk hn rfl ?_
 | refine RunsL.nil ?_
 | refine Runs.toRegion 30 rfl ?_
 | (refine RunsL.pe hn rfl rfl rfl ?_; first
 | refine ⟨_, pu_makeFunc, ?_⟩
 | refine ⟨_, pu_callR l1 rfl, ?_⟩
 | refine ⟨_, pu_callF rfl (p1 _) (.cons .ro (.cons (Lends.obj rfl (.cons .ro .nil)) (.cons (Lends.obj rfl (.cons .ro (.cons .ro .nil))) (.cons (Lends.obj rfl (.cons .ro .nil)) .nil)))), ?_⟩)
 | (refine Runs.ctls 30 rfl ?_; first | refine Runs.cond_t rfl ?_ | refine Runs.cond_f rfl ?_ | ((first | refine Runs.cond_yes rfl ?_ ?_ | refine Runs.cond_nno rfl ?_ ?_); · first | omega | rfl | assumption | (simp only [List.length_map]; omega)) | ((first | refine Runs.cond_no rfl ?_ ?_ | refine Runs.cond_nyes rfl ?_ ?_); · first | omega | rfl | assumption | (simp only [List.length_map]; omega)) | refine Runs.cond_dec rfl (fun h => ?_) (fun h => ?_) | refine Runs.cond_ndec rfl (fun h => ?_) (fun h => ?_) | refine Runs.cond_nb rfl (fun h => ?_) (fun h => ?_) | refine Runs.cond_b rfl (fun h => ?_) (fun h => ?_) | refine Runs.ret (ends_ro hm rfl rfl ?_) | exact Runs.ret (ends_cellR hm rfl rfl rfl (Nat.le_of_ble_eq_true rfl) rfl rfl))
 | refine op_box rfl (tl hn rfl) ?_
 | refine op_storeF rfl rfl rfl rfl (Nat.le_of_ble_eq_true rfl) ?_
 | refine op_alloc (tl hn rfl) ?_
 | refine op_storeN rfl rfl rfl rfl (Nat.le_of_ble_eq_true rfl) ?_
 | (refine RunsL.pe hn rfl rfl rfl ?_; first
 | refine ⟨_, pu_add rfl rfl (by omega), ?_⟩
 | refine ⟨_, pu_indexAddr_map rfl rfl (by omega) (by assumption), ?_⟩
 | refine ⟨_, pu_sub rfl rfl (by omega), ?_⟩
 | refine ⟨_, pu_pick_b rfl rfl rfl, ?_⟩
 | refine ⟨_, pu_mul rfl rfl (by omega), ?_⟩
 | refine ⟨_, pu_build rfl rfl rfl rfl rfl rfl, ?_⟩)
 | ((first | refine RunsL.guard_dec rfl rfl rfl ?_ ?_ | refine RunsL.guard_ndec rfl rfl rfl ?_ ?_ | refine RunsL.guard_nb rfl rfl rfl ?_ ?_ | refine RunsL.guard_b rfl rfl rfl ?_ ?_) <;> intro h <;> try (exfalso; first | omega | contradiction | (simp only [List.length_map] at h; omega))))
    all_goals exact rr_bool (by rw [Bool.eq_iff_iff]; simp [PlaceI, *])
  by_cases k8 : x.op = 8
  · repeat' (first
 | refine RunsL.step tabOk hn rfl ?_
 | refine RunsL.nil ?_
 | refine Runs.toRegion 30 rfl ?_
 | (refine RunsL.pe hn rfl rfl rfl ?_; first
 | refine ⟨_, pu_makeFunc, ?_⟩
 | refine ⟨_, pu_callR l2 rfl, ?_⟩)
 | (refine Runs.ctls 30 rfl ?_; first | refine Runs.cond_t rfl ?_ | refine Runs.cond_f rfl ?_ | ((first | refine Runs.cond_yes rfl ?_ ?_ | refine Runs.cond_nno rfl ?_ ?_); · first | omega | rfl | assumption | (simp only [List.length_map]; omega)) | ((first | refine Runs.cond_no rfl ?_ ?_ | refine Runs.cond_nyes rfl ?_ ?_); · first | omega | rfl | assumption | (simp only [List.length_map]; omega)) | refine Runs.cond_dec rfl (fun h => ?_) (fun h => ?_) | refine Runs.cond_ndec rfl (fun h => ?_) (fun h => ?_) | refine Runs.cond_nb rfl (fun h => ?_) (fun h => ?_) | refine Runs.cond_b rfl (fun h => ?_) (fun h => ?_) | refine Runs.ret (ends_ro hm rfl rfl ?_) | exact Runs.ret (ends_cellR hm rfl rfl rfl (Nat.le_of_ble_eq_true rfl) rfl rfl))
 | refine op_box rfl (tl hn rfl) ?_
 | refine op_storeF rfl rfl rfl rfl (Nat.le_of_ble_eq_true rfl) ?_
 | refine op_alloc (tl hn rfl) ?_
 | refine op_storeN rfl rfl rfl rfl (Nat.le_of_ble_eq_true rfl) ?_
 | (refine RunsL.pe hn rfl rfl rfl ?_; first
 | refine ⟨_, pu_add rfl rfl (by omega), ?_⟩
 | refine ⟨_, pu_indexAddr_map rfl rfl (by omega) (by assumption), ?_⟩
 | refine ⟨_, pu_sub rfl rfl (by omega), ?_⟩
 | refine ⟨_, pu_pick_b rfl rfl rfl, ?_⟩
 | refine ⟨_, pu_mul rfl rfl (by omega), ?_⟩
 | refine ⟨_, pu_build rfl rfl rfl rfl rfl rfl, ?_⟩)
 | ((first | refine RunsL.guard_dec rfl rfl rfl ?_ ?_ | refine RunsL.guard_ndec rfl rfl rfl ?_ ?_ | refine RunsL.guard_nb rfl rfl rfl ?_ ?_ | refine RunsL.guard_b rfl rfl rfl ?_ ?_) <;> intro h <;> try (exfalso; first | omega | contradiction | (simp only [List.length_map] at h; omega))))
    all_goals exact rr_bool (by rw [Bool.eq_iff_iff]; simp [PlaceI, *])
  by_cases k6 : x.op = 6
  · repeat' (first
 | refine RunsL.step tabOk hn rfl ?_
 | refine RunsL.nil ?_
 | refine Runs.toRegion 30 rfl ?_
 | (refine RunsL.pe hn rfl rfl rfl ?_; first
 | refine ⟨_, pu_makeFunc, ?_⟩
 | refine ⟨_, pu_callR l3 rfl, ?_⟩)
 | (refine Runs.ctls 30 rfl ?_; first | refine Runs.cond_t rfl ?_ | refine Runs.cond_f rfl ?_ | ((first | refine Runs.cond_yes rfl ?_ ?_ | refine Runs.cond_nno rfl ?_ ?_); · first | omega | rfl | assumption | (simp only [List.length_map]; omega)) | ((first | refine Runs.cond_no rfl ?_ ?_ | refine Runs.cond_nyes rfl ?_ ?_); · first | omega | rfl | assumption | (simp only [List.length_map]; omega)) | refine Runs.cond_dec rfl (fun h => ?_) (fun h => ?_) | refine Runs.cond_ndec rfl (fun h => ?_) (fun h => ?_) | refine Runs.cond_nb rfl (fun h => ?_) (fun h => ?_) | refine Runs.cond_b rfl (fun h => ?_) (fun h => ?_) | refine Runs.ret (ends_ro hm rfl rfl ?_) | exact Runs.ret (ends_cellR hm rfl rfl rfl (Nat.le_of_ble_eq_true rfl) rfl rfl))
 | refine op_box rfl (tl hn rfl) ?_
 | refine op_storeF rfl rfl rfl rfl (Nat.le_of_ble_eq_true rfl) ?_
 | refine op_alloc (tl hn rfl) ?_
 | refine op_storeN rfl rfl rfl rfl (Nat.le_of_ble_eq_true rfl) ?_
 | (refine RunsL.pe hn rfl rfl rfl ?_; first
 | refine ⟨_, pu_add rfl rfl (by omega), ?_⟩
 | refine ⟨_, pu_indexAddr_map rfl rfl (by omega) (by assumption), ?_⟩
 | refine ⟨_, pu_sub rfl rfl (by omega), ?_⟩
 | refine ⟨_, pu_pick_b rfl rfl rfl, ?_⟩
 | refine ⟨_, pu_mul rfl rfl (by omega), ?_⟩
 | refine ⟨_, pu_build rfl rfl rfl rfl rfl rfl, ?_⟩)
 | ((first | refine RunsL.guard_dec rfl rfl rfl ?_ ?_ | refine RunsL.guard_ndec rfl rfl rfl ?_ ?_ | refine RunsL.guard_nb rfl rfl rfl ?_ ?_ | refine RunsL.guard_b rfl rfl rfl ?_ ?_) <;> intro h <;> try (exfalso; first | omega | contradiction | (simp only [List.length_map] at h; omega))))
    all_goals exact rr_bool (by rw [Bool.eq_iff_iff]; simp [PlaceI, *])
  by_cases k13 : x.op = 13
  · repeat' (first
 | refine RunsL.step tabOk hn rfl ?_
 | refine RunsL.nil ?_
 | refine Runs.toRegion 30 rfl ?_
 | (refine RunsL.pe hn rfl rfl rfl ?_; first
 | refine ⟨_, pu_makeFunc, ?_⟩
 | refine ⟨_, pu_callF rfl (p1 _) (.cons .ro (.cons (Lends.obj rfl (.cons .ro .nil)) (.cons (Lends.obj rfl (.cons .ro (.cons .ro .nil))) (.cons (Lends.obj rfl (.cons .ro .nil)) .nil)))), ?_⟩)
 | (refine Runs.ctls 30 rfl ?_; first | refine Runs.cond_t rfl ?_ | refine Runs.cond_f rfl ?_ | ((first | refine Runs.cond_yes rfl ?_ ?_ | refine Runs.cond_nno rfl ?_ ?_); · first | omega | rfl | assumption | (simp only [List.length_map]; omega)) | ((first | refine Runs.cond_no rfl ?_ ?_ | refine Runs.cond_nyes rfl ?_ ?_); · first | omega | rfl | assumption | (simp only [List.length_map]; omega)) | refine Runs.cond_dec rfl (fun h => ?_) (fun h => ?_) | refine Runs.cond_ndec rfl (fun h => ?_) (fun h => ?_) | refine Runs.cond_nb rfl (fun h => ?_) (fun h => ?_) | refine Runs.cond_b rfl (fun h => ?_) (fun h => ?_) | refine Runs.ret (ends_ro hm rfl rfl ?_) | exact Runs.ret (ends_cellR hm rfl rfl rfl (Nat.le_of_ble_eq_true rfl) rfl rfl))
 | refine op_box rfl (tl hn rfl) ?_
 | refine op_storeF rfl rfl rfl rfl (Nat.le_of_ble_eq_true rfl) ?_
 | refine op_alloc (tl hn rfl) ?_
 | refine op_storeN rfl rfl rfl rfl (Nat.le_of_ble_eq_true rfl) ?_
 | (refine RunsL.pe hn rfl rfl rfl ?_; first
 | refine ⟨_, pu_add rfl rfl (by omega), ?_⟩
 | refine ⟨_, pu_indexAddr_map rfl rfl (by omega) (by assumption), ?_⟩
 | refine ⟨_, pu_sub rfl rfl (by omega), ?_⟩
 | refine ⟨_, pu_pick_b rfl rfl rfl, ?_⟩
 | refine ⟨_, pu_mul rfl rfl (by omega), ?_⟩
 | refine ⟨_, pu_build rfl rfl rfl rfl rfl rfl, ?_⟩)
 | ((first | refine RunsL.guard_dec rfl rfl rfl ?_ ?_ | refine RunsL.guard_ndec rfl rfl rfl ?_ ?_ | refine RunsL.guard_nb rfl rfl rfl ?_ ?_ | refine RunsL.guard_b rfl rfl rfl ?_ ?_) <;> intro h <;> try (exfalso; first | omega | contradiction | (simp only [List.length_map] at h; omega))))
    all_goals exact rr_bool (by rw [Bool.eq_iff_iff]; simp [PlaceI, *])
  by_cases k11 : x.op = 11
  · repeat' (first
 | refine RunsL.step tabOk hn rfl ?_
 | refine RunsL.nil ?_
 | refine Runs.toRegion 30 rfl ?_
 | (refine RunsL.pe hn rfl rfl rfl ?_; first
 | refine ⟨_, pu_makeFunc, ?_⟩
 | refine ⟨_, pu_callF rfl (p1 _) (.cons .ro (.cons (Lends.obj rfl (.cons .ro .nil)) (.cons (Lends.obj rfl (.cons .ro (.cons .ro .nil))) (.cons (Lends.obj rfl (.cons .ro .nil)) .nil)))), ?_⟩)
 | (refine Runs.ctls 30 rfl ?_; first | refine Runs.cond_t rfl ?_ | refine Runs.cond_f rfl ?_ | ((first | refine Runs.cond_yes rfl ?_ ?_ | refine Runs.cond_nno rfl ?_ ?_); · first | omega | rfl | assumption | (simp only [List.length_map]; omega)) | ((first | refine Runs.cond_no rfl ?_ ?_ | refine Runs.cond_nyes rfl ?_ ?_); · first | omega | rfl | assumption | (simp only [List.length_map]; omega)) | refine Runs.cond_dec rfl (fun h => ?_) (fun h => ?_) | refine Runs.cond_ndec rfl (fun h => ?_) (fun h => ?_) | refine Runs.cond_nb rfl (fun h => ?_) (fun h => ?_) | refine Runs.cond_b rfl (fun h => ?_) (fun h => ?_) | refine Runs.ret (ends_ro hm rfl rfl ?_) | exact Runs.ret (ends_cellR hm rfl rfl rfl (Nat.le_of_ble_eq_true rfl) rfl rfl))
 | refine op_box rfl (tl hn rfl) ?_
 | refine op_storeF rfl rfl rfl rfl (Nat.le_of_ble_eq_true rfl) ?_
 | refine op_alloc (tl hn rfl) ?_
 | refine op_storeN rfl rfl rfl rfl (Nat.le_of_ble_eq_true rfl) ?_
 | (refine RunsL.pe hn rfl rfl rfl ?_; first
 | refine ⟨_, pu_add rfl rfl (by omega), ?_⟩
 | refine ⟨_, pu_indexAddr_map rfl rfl (by omega) (by assumption), ?_⟩
 | refine ⟨_, pu_sub rfl rfl (by omega), ?_⟩
 | refine ⟨_, pu_pick_b rfl rfl rfl, ?_⟩
 | refine ⟨_, pu_mul rfl rfl (by omega), ?_⟩
 | refine ⟨_, pu_build rfl rfl rfl rfl rfl rfl, ?_⟩)
 | ((first | refine RunsL.guard_dec rfl rfl rfl ?_ ?_ | refine RunsL.guard_ndec rfl rfl rfl ?_ ?_ | refine RunsL.guard_nb rfl rfl rfl ?_ ?_ | refine RunsL.guard_b rfl rfl rfl ?_ ?_) <;> intro h <;> try (exfalso; first | omega | contradiction | (simp only [List.length_map] at h; omega))))
    all_goals exact rr_bool (by rw [Bool.eq_iff_iff]; simp [PlaceI, *])
  by_cases k14 : x.op = 14
  · repeat' (first
 | refine RunsL.step tabOk hn rfl ?_
 | refine RunsL.nil ?_
 | refine Runs.toRegion 30 rfl ?_
 | (refine RunsL.pe hn rfl rfl rfl ?_; first
 | refine ⟨_, pu_makeFunc, ?_⟩
 | refine ⟨_, pu_callR m1 rfl, ?_⟩)
 | (refine Runs.ctls 30 rfl ?_; first | refine Runs.cond_t rfl ?_ | refine Runs.cond_f rfl ?_ | ((first | refine Runs.cond_yes rfl ?_ ?_ | refine Runs.cond_nno rfl ?_ ?_); · first | omega | rfl | assumption | (simp only [List.length_map]; omega)) | ((first | refine Runs.cond_no rfl ?_ ?_ | refine Runs.cond_nyes rfl ?_ ?_); · first | omega | rfl | assumption | (simp only [List.length_map]; omega)) | refine Runs.cond_dec rfl (fun h => ?_) (fun h => ?_) | refine Runs.cond_ndec rfl (fun h => ?_) (fun h => ?_) | refine Runs.cond_nb rfl (fun h => ?_) (fun h => ?_) | refine Runs.cond_b rfl (fun h => ?_) (fun h => ?_) | refine Runs.ret (ends_ro hm rfl rfl ?_) | exact Runs.ret (ends_cellR hm rfl rfl rfl (Nat.le_of_ble_eq_true rfl) rfl rfl))
 | refine op_box rfl (tl hn rfl) ?_
 | refine op_storeF rfl rfl rfl rfl (Nat.le_of_ble_eq_true rfl) ?_
 | refine op_alloc (tl hn rfl) ?_
 | refine op_storeN rfl rfl rfl rfl (Nat.le_of_ble_eq_true rfl) ?_
 | (refine RunsL.pe hn rfl rfl rfl ?_; first
 | refine ⟨_, pu_add rfl rfl (by omega), ?_⟩
 | refine ⟨_, pu_indexAddr_map rfl rfl (by omega) (by assumption), ?_⟩
 | refine ⟨_, pu_sub rfl rfl (by omega), ?_⟩
 | refine ⟨_, pu_pick_b rfl rfl rfl, ?_⟩
 | refine ⟨_, pu_mul rfl rfl (by omega), ?_⟩
 | refine ⟨_, pu_build rfl rfl rfl rfl rfl rfl, ?_⟩)
 | ((first | refine RunsL.guard_dec rfl rfl rfl ?_ ?_ | refine RunsL.guard_ndec rfl rfl rfl ?_ ?_ | refine RunsL.guard_nb rfl rfl rfl ?_ ?_ | refine RunsL.guard_b rfl rfl rfl ?_ ?_) <;> intro h <;> try (exfalso; first | omega | contradiction | (simp only [List.length_map] at h; omega))))
    all_goals exact rr_bool (by rw [Bool.eq_iff_iff]; simp [PlaceI, *])
  by_cases k15 : x.op = 15
  · repeat' (first
 | refine RunsL.step tabOk hn rfl ?_
 | refine RunsL.nil ?_
 | refine Runs.toRegion 30 rfl ?_
 | (refine RunsL.pe hn rfl rfl rfl ?_; first
 | refine ⟨_, pu_makeFunc, ?_⟩
 | refine ⟨_, pu_callR m2 rfl, ?_⟩)
 | (refine Runs.ctls 30 rfl ?_; first | refine Runs.cond_t rfl ?_ | refine Runs.cond_f rfl ?_ | ((first | refine Runs.cond_yes rfl ?_ ?_ | refine Runs.cond_nno rfl ?_ ?_); · first | omega | rfl | assumption | (simp only [List.length_map]; omega)) | ((first | refine Runs.cond_no rfl ?_ ?_ | refine Runs.cond_nyes rfl ?_ ?_); · first | omega | rfl | assumption | (simp only [List.length_map]; omega)) | refine Runs.cond_dec rfl (fun h => ?_) (fun h => ?_) | refine Runs.cond_ndec rfl (fun h => ?_) (fun h => ?_) | refine Runs.cond_nb rfl (fun h => ?_) (fun h => ?_) | refine Runs.cond_b rfl (fun h => ?_) (fun h => ?_) | refine Runs.ret (ends_ro hm rfl rfl ?_) | exact Runs.ret (ends_cellR hm rfl rfl rfl (Nat.le_of_ble_eq_true rfl) rfl rfl))
 | refine op_box rfl (tl hn rfl) ?_
 | refine op_storeF rfl rfl rfl rfl (Nat.le_of_ble_eq_true rfl) ?_
 | refine op_alloc (tl hn rfl) ?_
 | refine op_storeN rfl rfl rfl rfl (Nat.le_of_ble_eq_true rfl) ?_
 | (refine RunsL.pe hn rfl rfl rfl ?_; first
 | refine ⟨_, pu_add rfl rfl (by omega), ?_⟩
 | refine ⟨_, pu_indexAddr_map rfl rfl (by omega) (by assumption), ?_⟩
 | refine ⟨_, pu_sub rfl rfl (by omega), ?_⟩
 | refine ⟨_, pu_pick_b rfl rfl rfl, ?_⟩
 | refine ⟨_, pu_mul rfl rfl (by omega), ?_⟩
 | refine ⟨_, pu_build rfl rfl rfl rfl rfl rfl, ?_⟩)
 | ((first | refine RunsL.guard_dec rfl rfl rfl ?_ ?_ | refine RunsL.guard_ndec rfl rfl rfl ?_ ?_ | refine RunsL.guard_nb rfl rfl rfl ?_ ?_ | refine RunsL.guard_b rfl rfl rfl ?_ ?_) <;> intro h <;> try (exfalso; first | omega | contradiction | (simp only [List.length_map] at h; omega))))
    all_goals exact rr_bool (by rw [Bool.eq_iff_iff]; simp [PlaceI, *])
  · repeat' (first
 | refine RunsL.step tabOk hn rfl ?_
 | refine RunsL.nil ?_
 | refine Runs.toRegion 30 rfl ?_
 | (refine RunsL.pe hn rfl rfl rfl ?_; first
 | refine ⟨_, pu_makeFunc, ?_⟩)
 | (refine Runs.ctls 30 rfl ?_; first | refine Runs.cond_t rfl ?_ | refine Runs.cond_f rfl ?_ | ((first | refine Runs.cond_yes rfl ?_ ?_ | refine Runs.cond_nno rfl ?_ ?_); · first | omega | rfl | assumption | (simp only [List.length_map]; omega)) | ((first | refine Runs.cond_no rfl ?_ ?_ | refine Runs.cond_nyes rfl ?_ ?_); · first | omega | rfl | assumption | (simp only [List.length_map]; omega)) | refine Runs.cond_dec rfl (fun h => ?_) (fun h => ?_) | refine Runs.cond_ndec rfl (fun h => ?_) (fun h => ?_) | refine Runs.cond_nb rfl (fun h => ?_) (fun h => ?_) | refine Runs.cond_b rfl (fun h => ?_) (fun h => ?_) | refine Runs.ret (ends_ro hm rfl rfl ?_) | exact Runs.ret (ends_cellR hm rfl rfl rfl (Nat.le_of_ble_eq_true rfl) rfl rfl))
 | refine op_box rfl (tl hn rfl) ?_
 | refine op_storeF rfl rfl rfl rfl (Nat.le_of_ble_eq_true rfl) ?_
 | refine op_alloc (tl hn rfl) ?_
 | refine op_storeN rfl rfl rfl rfl (Nat.le_of_ble_eq_true rfl) ?_
 | (refine RunsL.pe hn rfl rfl rfl ?_; first
 | refine ⟨_, pu_add rfl rfl (by omega), ?_⟩
 | refine ⟨_, pu_indexAddr_map rfl rfl (by omega) (by assumption), ?_⟩
 | refine ⟨_, pu_sub rfl rfl (by omega), ?_⟩
 | refine ⟨_, pu_pick_b rfl rfl rfl, ?_⟩
 | refine ⟨_, pu_mul rfl rfl (by omega), ?_⟩
 | refine ⟨_, pu_build rfl rfl rfl rfl rfl rfl, ?_⟩)
 | ((first | refine RunsL.guard_dec rfl rfl rfl ?_ ?_ | refine RunsL.guard_ndec rfl rfl rfl ?_ ?_ | refine RunsL.guard_nb rfl rfl rfl ?_ ?_ | refine RunsL.guard_b rfl rfl rfl ?_ ?_) <;> intro h <;> try (exfalso; first | omega | contradiction | (simp only [List.length_map] at h; omega))))
    all_goals exact rr_bool (by rw [Bool.eq_iff_iff]; simp [PlaceI, *])
end Go.Proofs.Ytkhnijggbfoimaa
