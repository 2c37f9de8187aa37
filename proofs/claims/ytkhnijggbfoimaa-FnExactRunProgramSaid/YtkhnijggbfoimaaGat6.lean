/- Gathered texts. -/
import Derived.Test.YtkhnijggbfoimaaGat0
import Derived.Test.YtkhnijggbfoimaaGat1
import Derived.Test.YtkhnijggbfoimaaGat2
import Derived.Test.YtkhnijggbfoimaaGat3
import Derived.Test.YtkhnijggbfoimaaGat4
import Derived.Test.YtkhnijggbfoimaaGat5
/- The machine, on the reference's side: it is given a byte. -/
namespace Go.Proofs.Ytkhnijggbfoimaa
set_option linter.unusedSimpArgs false
set_option linter.unusedVariables false
open Go.RowKit
open AV (Mem Keeps)
set_option maxRecDepth 100000
set_option maxHeartbeats 32000000 in
theorem l17Byte_am (p : Prg) (m : Mch) (b : Int) (x : Ins) (hm : MLen m) (hc : p.code.length ≤ 4194304) (hi : Idx p m.pc) (hx : p.code[m.pc.toNat]? = some x) (h0 : m.state = 0) (hok : x.op = 1 → x.a ≤ 4) (hb : 0 ≤ b ∧ b ≤ 255) : AM Try.prog 49 (mO m) [0] [.ro (prgR p), .obj 0 0, .int b] (mO (mByte p m b)) (.tup []) := by
  refine am_enter Try.func49 rfl _ Try.ntmps49 (by simp) (by simp) fun C gs hn => ?_
  have hlc : (p.code.map insR).length = p.code.length := List.length_map ..
  have hin : InR m.pc 0 ((p.code.length : Int) - 1) := by unfold InR; unfold Idx at hi; omega
  have hxa : mAt p m = x := by unfold mAt; rw [hx]; rfl
  have hi' := hi
  unfold Idx at hi'
  have hb2 := hm.2
  have hl : ((m.sums.map RV.int).map AV.ro).length = m.sums.length * 1 := by simp
  unfold mByte
  rw [hxa]
  by_cases hA : x.op = 1 ∧ ¬ InR m.left 1 x.a
  · rw [if_pos (.inl hA)]
    obtain ⟨hA1, hA2⟩ := hA
    repeat' (first
 | refine Runs.toDrawT (id := 3) 30 [] [0, 1, 2, 3, 4, 5, 6, 7, 8] 9 [(8, 74, [.int .i64 0, .int .i64 0, .int .i64 0])] mixed hn rfl (by kernel_rfl) rfl .nil (by decide) (by decide) (by decide) ?_
 | refine op_callP 3 (l17Fail_am m 8) rfl (by simp [AV.onlys, AV.only]) (by simp [AV.only, AV.onlys]) rfl rfl rfl (mO_free _) (mO_free _) rfl (by first | exact trivial | exact ⟨rfl, trivial⟩ | exact ⟨rfl, rfl, trivial⟩ | exact ⟨rfl, rfl, rfl, trivial⟩ | exact ⟨rfl, rfl, rfl, rfl, trivial⟩) (fun t h => by injection h with h; subst h; exact tl hn rfl) ?_
 | refine RunsT.nil ?_
 | refine RunsT.step tabOk rfl rfl (fun _ => rfl) (by decide) ?_
 | refine RunsT.pur (fun _ => pu_nilCheckP rfl) (by decide) rfl rfl ?_
 | refine RunsT.pur (fun _ => pu_callR (l1In_ac _ _ _) rfl) (by decide) rfl rfl ?_
 | refine RunsT.pur (fun _ => pu_len_seqN p.code.length rfl hlc) (by decide) rfl rfl ?_
 | refine RunsT.pur (fun _ => pu_add rfl rfl (by omega)) (by decide) rfl rfl ?_
 | refine RunsT.pur (fun _ => pu_indexAddr_map rfl rfl (by omega) (by assumption)) (by decide) rfl rfl ?_
 | refine RunsT.alloc (p := 0) rfl inferInstance ?_
 | refine RunsT.alloc (p := 1) rfl inferInstance ?_
 | refine RunsL.step tabOk hn rfl ?_
 | refine RunsL.nil ?_
 | refine Runs.toRegion 30 rfl ?_
 | ((first | refine RunsL.pe hn rfl rfl rfl ?_ | refine RunsD.pe rfl rfl ?_); first
 | refine ⟨_, pu_nilCheckP rfl, ?_⟩
 | refine ⟨_, pu_callR (l1In_ac _ _ _) rfl, ?_⟩
 | refine ⟨_, pu_len_seqN p.code.length rfl hlc, ?_⟩)
 | (refine Runs.ctls 30 rfl ?_; first | refine Runs.cond_t rfl ?_ | refine Runs.cond_f rfl ?_ | ((first | refine Runs.cond_yes rfl ?_ ?_ | refine Runs.cond_nno rfl ?_ ?_); · first | omega | rfl | assumption | (simp only [List.length_map]; omega)) | ((first | refine Runs.cond_no rfl ?_ ?_ | refine Runs.cond_nyes rfl ?_ ?_); · first | omega | rfl | assumption | (simp only [List.length_map]; omega)) | refine Runs.cond_dec rfl (fun h => ?_) (fun h => ?_) | refine Runs.cond_ndec rfl (fun h => ?_) (fun h => ?_) | refine Runs.cond_nb rfl (fun h => ?_) (fun h => ?_) | refine Runs.cond_b rfl (fun h => ?_) (fun h => ?_) | refine Runs.ret (ends_ro hm rfl rfl ?_) | exact Runs.ret (ends_cellR hm rfl rfl rfl (Nat.le_of_ble_eq_true rfl) rfl rfl))
 | refine op_box rfl (tl hn rfl) ?_
 | refine op_storeF rfl rfl rfl rfl (Nat.le_of_ble_eq_true rfl) ?_
 | refine op_alloc (tl hn rfl) ?_
 | refine op_storeN rfl rfl rfl rfl (Nat.le_of_ble_eq_true rfl) ?_
 | refine RunsD.step tabOk hn rfl rfl ?_
 | refine RunsD.nil ?_
 | refine Runs.toDraw 30 mixed hn rfl (by kernel_rfl) rfl ?_
 | ((first | refine RunsL.pe hn rfl rfl rfl ?_ | refine RunsD.pe rfl rfl ?_); first
 | refine ⟨_, pu_add rfl rfl (by omega), ?_⟩
 | refine ⟨_, pu_indexAddr_map rfl rfl (by omega) (by assumption), ?_⟩
 | refine ⟨_, pu_sub rfl rfl (by omega), ?_⟩
 | refine ⟨_, pu_pick_b rfl rfl rfl, ?_⟩
 | refine ⟨_, pu_mul rfl rfl (by omega), ?_⟩
 | refine ⟨_, pu_build rfl rfl rfl rfl rfl rfl, ?_⟩)
 | ((first | refine RunsL.guard_dec rfl rfl rfl ?_ ?_ | refine RunsL.guard_ndec rfl rfl rfl ?_ ?_ | refine RunsL.guard_nb rfl rfl rfl ?_ ?_ | refine RunsL.guard_b rfl rfl rfl ?_ ?_ | refine RunsD.guard_dec rfl rfl rfl ?_ ?_ | refine RunsD.guard_ndec rfl rfl rfl ?_ ?_ | refine RunsD.guard_nb rfl rfl rfl ?_ ?_ | refine RunsD.guard_b rfl rfl rfl ?_ ?_) <;> intro h <;> try (exfalso; first | omega | contradiction | (simp only [List.length_map] at h; omega))))
    all_goals first
      | (exfalso; first | omega | contradiction)
      | (refine Runs.ctls 30 rfl ?_
         refine mO_ret (t := 1) (more := [⟨34, 0, [.ro (inssR p.code), .ro (intsR p.entries)]⟩, ⟨74, 0, (insR x).map .ro⟩]) rfl (mO_app rfl) rfl)
  · have hrs : ∀ {q : Mch}, q.left = m.left → x.op = 1 → x.b = 1 → 0 ≤ x.a - (mCount q b).left - 1 ∧ x.a - (mCount q b).left - 1 ≤ 3 ∧ 0 ≤ x.a ∧ x.a ≤ 4 := fun {q} hq h1 _ => by
      have h2 : InR m.left 1 x.a := Classical.byContradiction fun h => hA ⟨h1, h⟩
      have h3 := hok h1
      unfold InR at h2
      have hw : (mCount q b).left = q.left - 1 := w64_id (by omega)
      rw [hw, hq]
      omega
    by_cases h15 : x.op = 15
    · by_cases hs : m.sums.length = 0
      · rw [if_pos (.inr ⟨h15, hs⟩)]
        repeat' (first
 | refine Runs.toDrawT (id := 3) 30 [] [0, 1, 2, 3, 4, 5, 6, 7, 8] 9 [(8, 74, [.int .i64 0, .int .i64 0, .int .i64 0])] mixed hn rfl (by kernel_rfl) rfl .nil (by decide) (by decide) (by decide) ?_
 | refine op_callP 3 (l17Fail_am m 8) rfl (by simp [AV.onlys, AV.only]) (by simp [AV.only, AV.onlys]) rfl rfl rfl (mO_free _) (mO_free _) rfl (by first | exact trivial | exact ⟨rfl, trivial⟩ | exact ⟨rfl, rfl, trivial⟩ | exact ⟨rfl, rfl, rfl, trivial⟩ | exact ⟨rfl, rfl, rfl, rfl, trivial⟩) (fun t h => by injection h with h; subst h; exact tl hn rfl) ?_
 | refine RunsT.nil ?_
 | refine RunsT.step tabOk rfl rfl (fun _ => rfl) (by decide) ?_
 | refine RunsT.pur (fun _ => pu_nilCheckP rfl) (by decide) rfl rfl ?_
 | refine RunsT.pur (fun _ => pu_callR (l1In_ac _ _ _) rfl) (by decide) rfl rfl ?_
 | refine RunsT.pur (fun _ => pu_len_seqN p.code.length rfl hlc) (by decide) rfl rfl ?_
 | refine RunsT.pur (fun _ => pu_len_own (n := m.sums.length) rfl rfl hl) (by decide) rfl rfl ?_
 | refine RunsT.pur (fun _ => pu_add rfl rfl (by omega)) (by decide) rfl rfl ?_
 | refine RunsT.pur (fun _ => pu_indexAddr_map rfl rfl (by omega) (by assumption)) (by decide) rfl rfl ?_
 | refine RunsT.alloc (p := 0) rfl inferInstance ?_
 | refine RunsT.alloc (p := 1) rfl inferInstance ?_
 | refine RunsL.step tabOk hn rfl ?_
 | refine RunsL.nil ?_
 | refine Runs.toRegion 30 rfl ?_
 | ((first | refine RunsL.pe hn rfl rfl rfl ?_ | refine RunsD.pe rfl rfl ?_); first
 | refine ⟨_, pu_nilCheckP rfl, ?_⟩
 | refine ⟨_, pu_callR (l1In_ac _ _ _) rfl, ?_⟩
 | refine ⟨_, pu_len_seqN p.code.length rfl hlc, ?_⟩
 | refine ⟨_, pu_len_own (n := m.sums.length) rfl rfl hl, ?_⟩)
 | (refine Runs.ctls 30 rfl ?_; first | refine Runs.cond_t rfl ?_ | refine Runs.cond_f rfl ?_ | ((first | refine Runs.cond_yes rfl ?_ ?_ | refine Runs.cond_nno rfl ?_ ?_); · first | omega | rfl | assumption | (simp only [List.length_map]; omega)) | ((first | refine Runs.cond_no rfl ?_ ?_ | refine Runs.cond_nyes rfl ?_ ?_); · first | omega | rfl | assumption | (simp only [List.length_map]; omega)) | refine Runs.cond_dec rfl (fun h => ?_) (fun h => ?_) | refine Runs.cond_ndec rfl (fun h => ?_) (fun h => ?_) | refine Runs.cond_nb rfl (fun h => ?_) (fun h => ?_) | refine Runs.cond_b rfl (fun h => ?_) (fun h => ?_) | refine Runs.ret (ends_ro hm rfl rfl ?_) | exact Runs.ret (ends_cellR hm rfl rfl rfl (Nat.le_of_ble_eq_true rfl) rfl rfl))
 | refine op_box rfl (tl hn rfl) ?_
 | refine op_storeF rfl rfl rfl rfl (Nat.le_of_ble_eq_true rfl) ?_
 | refine op_alloc (tl hn rfl) ?_
 | refine op_storeN rfl rfl rfl rfl (Nat.le_of_ble_eq_true rfl) ?_
 | refine RunsD.step tabOk hn rfl rfl ?_
 | refine RunsD.nil ?_
 | refine Runs.toDraw 30 mixed hn rfl (by kernel_rfl) rfl ?_
 | ((first | refine RunsL.pe hn rfl rfl rfl ?_ | refine RunsD.pe rfl rfl ?_); first
 | refine ⟨_, pu_add rfl rfl (by omega), ?_⟩
 | refine ⟨_, pu_indexAddr_map rfl rfl (by omega) (by assumption), ?_⟩
 | refine ⟨_, pu_sub rfl rfl (by omega), ?_⟩
 | refine ⟨_, pu_pick_b rfl rfl rfl, ?_⟩
 | refine ⟨_, pu_mul rfl rfl (by omega), ?_⟩
 | refine ⟨_, pu_build rfl rfl rfl rfl rfl rfl, ?_⟩)
 | ((first | refine RunsL.guard_dec rfl rfl rfl ?_ ?_ | refine RunsL.guard_ndec rfl rfl rfl ?_ ?_ | refine RunsL.guard_nb rfl rfl rfl ?_ ?_ | refine RunsL.guard_b rfl rfl rfl ?_ ?_ | refine RunsD.guard_dec rfl rfl rfl ?_ ?_ | refine RunsD.guard_ndec rfl rfl rfl ?_ ?_ | refine RunsD.guard_nb rfl rfl rfl ?_ ?_ | refine RunsD.guard_b rfl rfl rfl ?_ ?_) <;> intro h <;> try (exfalso; first | omega | contradiction | (simp only [List.length_map] at h; omega))))
        all_goals first
          | (exfalso; first | omega | contradiction)
          | (refine Runs.ctls 30 rfl ?_
             refine mO_ret (t := 1) (more := [⟨34, 0, [.ro (inssR p.code), .ro (intsR p.entries)]⟩, ⟨74, 0, (insR x).map .ro⟩]) rfl (mO_app rfl) rfl)
      · obtain ⟨z, hz⟩ : ∃ z, m.sums[m.sums.length - 1]? = some z := ⟨_, List.getElem?_eq_getElem (by omega)⟩
        have hz' : ((m.sums.map RV.int).map AV.ro)[((m.sums.length : Int) - 1).toNat * 1]? = some (.ro (.int z)) := by
          rw [show ((m.sums.length : Int) - 1).toNat * 1 = m.sums.length - 1 by omega]; simp [hz]
        rw [if_neg (by rintro (h | h); exact hA h; exact hs h.2), show mTake m x b = (if z ≠ b then mFail m 5 else mRead (mCount { m with sums := m.sums.take (m.sums.length - 1) } b) x b) from by unfold mTake; rw [if_pos h15, hz]; rfl]
        by_cases hzb : z = b
        · rw [if_neg (by simp [hzb])]
          have e1 : ((m.sums.map RV.int).map AV.ro).take (((m.sums.length : Int) - 1).toNat * 1) = ((m.sums.take (m.sums.length - 1)).map RV.int).map AV.ro := by
            rw [show ((m.sums.length : Int) - 1).toNat * 1 = m.sums.length - 1 by omega, List.map_take, List.map_take]
          repeat' (first
 | refine Runs.toDrawT (id := 3) 30 [] [0, 1, 2, 3, 4, 5, 6, 7, 8] 9 [(8, 74, [.int .i64 0, .int .i64 0, .int .i64 0])] mixed hn rfl (by kernel_rfl) rfl .nil (by decide) (by decide) (by decide) ?_
 | refine Runs.toDrawT (id := 11) 30 [0] [1, 2, 3, 4, 5, 6, 7, 8, 9, 10] 11 [] mixed hn rfl (by kernel_rfl) rfl (.cons rfl .nil) (by decide) (by decide) (by decide) ?_
 | refine RunsL.junk 0 3 rfl (op_cut (i := 2) (n := m.sums.length) (q := (m.sums.length : Int) - 1) rfl rfl rfl rfl hl (by omega) (by omega) (by omega) (by repeat' (first | exact trivial | exact onlysr _ _ | exact (by decide : (1 : Nat) ≠ 2) | exact (by decide : (0 : Nat) ≠ 2) | refine And.intro ?_ ?_)) (fun j v hj => onlys_mem (onlysr _ _) j v hj) (tl hn rfl) ?_)
 | refine RunsT.nil ?_
 | refine RunsT.step tabOk rfl rfl (fun _ => rfl) (by decide) ?_
 | refine RunsT.pur (fun _ => pu_nilCheckP rfl) (by decide) rfl rfl ?_
 | refine RunsT.pur (fun _ => pu_callR (l1In_ac _ _ _) rfl) (by decide) rfl rfl ?_
 | refine RunsT.pur (fun _ => pu_len_seqN p.code.length rfl hlc) (by decide) rfl rfl ?_
 | refine RunsT.pur (fun _ => pu_len_own (n := m.sums.length) rfl rfl hl) (by decide) rfl rfl ?_
 | refine RunsT.pur (fun _ => pu_indexAddr_own (n := m.sums.length) (sz := 1) rfl rfl rfl rfl hl (by omega) (by omega)) (by decide) rfl rfl ?_
 | refine RunsT.pur (fun _ => pu_sub rfl rfl (by omega)) (by decide) rfl rfl ?_
 | refine RunsT.pur (fun _ => pu_load_obj rfl rfl hz') (by decide) rfl rfl ?_
 | refine RunsT.pur (fun _ => pu_add rfl rfl (by omega)) (by decide) rfl rfl ?_
 | refine RunsT.pur (fun _ => pu_indexAddr_map rfl rfl (by omega) (by assumption)) (by decide) rfl rfl ?_
 | refine RunsT.alloc (p := 0) rfl inferInstance ?_
 | refine RunsT.alloc (p := 1) rfl inferInstance ?_
 | refine RunsL.step tabOk hn rfl ?_
 | refine RunsL.nil ?_
 | refine Runs.toRegion 30 rfl ?_
 | ((first | refine RunsL.pe hn rfl rfl rfl ?_ | refine RunsD.pe rfl rfl ?_); first
 | refine ⟨_, pu_nilCheckP rfl, ?_⟩
 | refine ⟨_, pu_callR (l1In_ac _ _ _) rfl, ?_⟩
 | refine ⟨_, pu_len_seqN p.code.length rfl hlc, ?_⟩
 | refine ⟨_, pu_len_own (n := m.sums.length) rfl rfl hl, ?_⟩
 | refine ⟨_, pu_indexAddr_own (n := m.sums.length) (sz := 1) rfl rfl rfl rfl hl (by omega) (by omega), ?_⟩
 | refine ⟨_, pu_sub rfl rfl (by omega), ?_⟩
 | refine ⟨_, pu_load_obj rfl rfl hz', ?_⟩)
 | (refine Runs.ctls 30 rfl ?_; first | refine Runs.cond_t rfl ?_ | refine Runs.cond_f rfl ?_ | ((first | refine Runs.cond_yes rfl ?_ ?_ | refine Runs.cond_nno rfl ?_ ?_); · first | omega | rfl | assumption | (simp only [List.length_map]; omega)) | ((first | refine Runs.cond_no rfl ?_ ?_ | refine Runs.cond_nyes rfl ?_ ?_); · first | omega | rfl | assumption | (simp only [List.length_map]; omega)) | refine Runs.cond_dec rfl (fun h => ?_) (fun h => ?_) | refine Runs.cond_ndec rfl (fun h => ?_) (fun h => ?_) | refine Runs.cond_nb rfl (fun h => ?_) (fun h => ?_) | refine Runs.cond_b rfl (fun h => ?_) (fun h => ?_) | refine Runs.ret (ends_ro hm rfl rfl ?_) | exact Runs.ret (ends_cellR hm rfl rfl rfl (Nat.le_of_ble_eq_true rfl) rfl rfl))
 | refine op_box rfl (tl hn rfl) ?_
 | refine op_storeF rfl rfl rfl rfl (Nat.le_of_ble_eq_true rfl) ?_
 | refine op_alloc (tl hn rfl) ?_
 | refine op_storeN rfl rfl rfl rfl (Nat.le_of_ble_eq_true rfl) ?_
 | refine RunsD.step tabOk hn rfl rfl ?_
 | refine RunsD.nil ?_
 | refine Runs.toDraw 30 mixed hn rfl (by kernel_rfl) rfl ?_
 | ((first | refine RunsL.pe hn rfl rfl rfl ?_ | refine RunsD.pe rfl rfl ?_); first
 | refine ⟨_, pu_add rfl rfl (by omega), ?_⟩
 | refine ⟨_, pu_indexAddr_map rfl rfl (by omega) (by assumption), ?_⟩
 | refine ⟨_, pu_sub rfl rfl (by omega), ?_⟩
 | refine ⟨_, pu_pick_b rfl rfl rfl, ?_⟩
 | refine ⟨_, pu_mul rfl rfl (by omega), ?_⟩
 | refine ⟨_, pu_build rfl rfl rfl rfl rfl rfl, ?_⟩)
 | ((first | refine RunsL.guard_dec rfl rfl rfl ?_ ?_ | refine RunsL.guard_ndec rfl rfl rfl ?_ ?_ | refine RunsL.guard_nb rfl rfl rfl ?_ ?_ | refine RunsL.guard_b rfl rfl rfl ?_ ?_ | refine RunsD.guard_dec rfl rfl rfl ?_ ?_ | refine RunsD.guard_ndec rfl rfl rfl ?_ ?_ | refine RunsD.guard_nb rfl rfl rfl ?_ ?_ | refine RunsD.guard_b rfl rfl rfl ?_ ?_) <;> intro h <;> try (exfalso; first | omega | contradiction | (simp only [List.length_map] at h; omega))))
          all_goals first
            | (exfalso; first | omega | contradiction)
            | skip
          rw [e1]
          generalize hq0 : m.sums.take (m.sums.length - 1) = ss
          have hss : ss.length ≤ 1048576 := by rw [← hq0, List.length_take]; omega
          have hrs := hrs (q := { m with sums := ss }) rfl
          have hlq : ((({ m with sums := ss } : Mch).sums.map RV.int).map AV.ro).length = ss.length * 1 := by simp
          have hqs : (({ m with sums := ss } : Mch)).sums.length ≤ 1048576 := hss
          refine Runs.loopN 30 rfl (fun j => [(1, .pin 0 0 (gs 0)), (2, .int b), (6, .obj 4 0), (7, .int (j : Int))]) (fun j => mO { ({ m with sums := ss } : Mch) with sums := cntS b (({ m with sums := ss } : Mch)).sums j } ++ [⟨34, 0, [.ro (inssR p.code), .ro (intsR p.entries)]⟩, ⟨74, 0, (insR x).map .ro⟩]) (fun _ => True) (({ m with sums := ss } : Mch)).sums.length 0 (Nat.zero_le _) trivial ⟨rfl, rfl, rfl, rfl, trivial⟩ (by rw [show cntS b (({ m with sums := ss } : Mch)).sums 0 = (({ m with sums := ss } : Mch)).sums by simp [cntS]]; rfl) fun j hj _ next => ?_
          have hcl : (((cntS b (({ m with sums := ss } : Mch)).sums j).map RV.int).map AV.ro).length = (({ m with sums := ss } : Mch)).sums.length * 1 := by rw [List.length_map, List.length_map, cntS_len, Nat.mul_one]
          by_cases hlt : j < (({ m with sums := ss } : Mch)).sums.length
          · obtain ⟨z, hz⟩ : ∃ z, (({ m with sums := ss } : Mch)).sums[j]? = some z := ⟨_, List.getElem?_eq_getElem hlt⟩
            have hc := cntS_at (b := b) hz
            have hc' : (((cntS b (({ m with sums := ss } : Mch)).sums j).map RV.int).map AV.ro)[(j : Int).toNat * 1]? = some (.ro (.int z)) := by
              rw [show (j : Int).toNat * 1 = j by simp, List.getElem?_map, List.getElem?_map, hc]; rfl
            repeat' (first
 | refine Runs.toDrawT (id := 15) 30 [] [0, 1, 2, 3, 4, 5, 6, 7, 8, 9, 10, 11, 12, 13, 14, 15] 16 [] mixed hn rfl (by kernel_rfl) rfl .nil (by decide) (by decide) (by decide) ?_
 | refine op_storeF rfl rfl rfl rfl (by rw [List.length_map, List.length_map, cntS_len]; omega) ?_
 | refine RunsT.nil ?_
 | refine RunsT.step tabOk rfl rfl (fun _ => rfl) (by decide) ?_
 | refine RunsT.pur (fun _ => pu_nilCheckP rfl) (by decide) rfl rfl ?_
 | refine RunsT.pur (fun _ => pu_len_own (n := (({ m with sums := ss } : Mch)).sums.length) rfl rfl hcl) (by decide) rfl rfl ?_
 | refine RunsT.pur (fun _ => pu_indexAddr_own (n := (({ m with sums := ss } : Mch)).sums.length) (sz := 1) rfl rfl rfl rfl hcl (by omega) (by omega)) (by decide) rfl rfl ?_
 | refine RunsT.pur (fun _ => pu_load_obj rfl rfl hc') (by decide) rfl rfl ?_
 | refine RunsT.pur (fun _ => pu_rem256 rfl rfl) (by decide) rfl rfl ?_
 | refine RunsT.pur (fun _ => pu_addW (t := 106) rfl rfl) (by decide) rfl rfl ?_
 | refine RunsT.pur (fun _ => pu_add rfl rfl (by omega)) (by decide) rfl rfl ?_
 | refine RunsT.pur (fun _ => pu_indexAddr_map rfl rfl (by omega) (by assumption)) (by decide) rfl rfl ?_
 | refine RunsT.alloc (p := 0) rfl inferInstance ?_
 | refine RunsT.alloc (p := 1) rfl inferInstance ?_
 | refine RunsL.step tabOk hn rfl ?_
 | refine RunsL.nil ?_
 | refine Runs.toRegion 30 rfl ?_
 | ((first | refine RunsL.pe hn rfl rfl rfl ?_ | refine RunsD.pe rfl rfl ?_); first
 | refine ⟨_, pu_nilCheckP rfl, ?_⟩
 | refine ⟨_, pu_len_own (n := (({ m with sums := ss } : Mch)).sums.length) rfl rfl hcl, ?_⟩
 | refine ⟨_, pu_indexAddr_own (n := (({ m with sums := ss } : Mch)).sums.length) (sz := 1) rfl rfl rfl rfl hcl (by omega) (by omega), ?_⟩
 | refine ⟨_, pu_load_obj rfl rfl hc', ?_⟩
 | refine ⟨_, pu_rem256 rfl rfl, ?_⟩
 | refine ⟨_, pu_addW (t := 106) rfl rfl, ?_⟩)
 | (refine Runs.ctls 30 rfl ?_; first | refine Runs.cond_t rfl ?_ | refine Runs.cond_f rfl ?_ | ((first | refine Runs.cond_yes rfl ?_ ?_ | refine Runs.cond_nno rfl ?_ ?_); · first | omega | rfl | assumption | (simp only [List.length_map]; omega)) | ((first | refine Runs.cond_no rfl ?_ ?_ | refine Runs.cond_nyes rfl ?_ ?_); · first | omega | rfl | assumption | (simp only [List.length_map]; omega)) | refine Runs.cond_dec rfl (fun h => ?_) (fun h => ?_) | refine Runs.cond_ndec rfl (fun h => ?_) (fun h => ?_) | refine Runs.cond_nb rfl (fun h => ?_) (fun h => ?_) | refine Runs.cond_b rfl (fun h => ?_) (fun h => ?_) | refine Runs.ret (ends_ro hm rfl rfl ?_) | exact Runs.ret (ends_cellR hm rfl rfl rfl (Nat.le_of_ble_eq_true rfl) rfl rfl))
 | refine op_box rfl (tl hn rfl) ?_
 | refine op_storeF rfl rfl rfl rfl (Nat.le_of_ble_eq_true rfl) ?_
 | refine op_alloc (tl hn rfl) ?_
 | refine op_storeN rfl rfl rfl rfl (Nat.le_of_ble_eq_true rfl) ?_
 | refine RunsD.step tabOk hn rfl rfl ?_
 | refine RunsD.nil ?_
 | refine Runs.toDraw 30 mixed hn rfl (by kernel_rfl) rfl ?_
 | ((first | refine RunsL.pe hn rfl rfl rfl ?_ | refine RunsD.pe rfl rfl ?_); first
 | refine ⟨_, pu_add rfl rfl (by omega), ?_⟩
 | refine ⟨_, pu_indexAddr_map rfl rfl (by omega) (by assumption), ?_⟩
 | refine ⟨_, pu_sub rfl rfl (by omega), ?_⟩
 | refine ⟨_, pu_pick_b rfl rfl rfl, ?_⟩
 | refine ⟨_, pu_mul rfl rfl (by omega), ?_⟩
 | refine ⟨_, pu_build rfl rfl rfl rfl rfl rfl, ?_⟩)
 | ((first | refine RunsL.guard_dec rfl rfl rfl ?_ ?_ | refine RunsL.guard_ndec rfl rfl rfl ?_ ?_ | refine RunsL.guard_nb rfl rfl rfl ?_ ?_ | refine RunsL.guard_b rfl rfl rfl ?_ ?_ | refine RunsD.guard_dec rfl rfl rfl ?_ ?_ | refine RunsD.guard_ndec rfl rfl rfl ?_ ?_ | refine RunsD.guard_nb rfl rfl rfl ?_ ?_ | refine RunsD.guard_b rfl rfl rfl ?_ ?_) <;> intro h <;> try (exfalso; first | omega | contradiction | (simp only [List.length_map] at h; omega))))
            refine next _ _ ⟨rfl, rfl, rfl, rfl, trivial⟩ hlt trivial ?_
            rw [← cntS_next hz]
            unfold mO
            simp only []
            rw [List.map_set, List.map_set, show (((cntS b (({ m with sums := ss } : Mch)).sums j).map RV.int).map AV.ro).set j (AV.ro (RV.int (cntF b z))) = (((cntS b (({ m with sums := ss } : Mch)).sums j).map RV.int).map AV.ro).set ((j : Int).toNat * 1) (AV.ro (RV.int (cntF b z))) from by rw [show (j : Int).toNat * 1 = j by simp]]
            rfl
          · obtain rfl : j = (({ m with sums := ss } : Mch)).sums.length := by omega
            have hq : mCount (({ m with sums := ss } : Mch)) b = { ({ m with sums := ss } : Mch) with sums := cntS b (({ m with sums := ss } : Mch)).sums (({ m with sums := ss } : Mch)).sums.length, read := w64 ((({ m with sums := ss } : Mch)).read + 1), left := w64 ((({ m with sums := ss } : Mch)).left - 1) } := by simp [mCount, cntS, cntF]
            have hR := l17Read_am (mCount (({ m with sums := ss } : Mch)) b) x b h0 hrs hb
            rw [hq] at hR
            repeat' (first
 | refine op_callP 3 (hR) rfl (by simp [AV.onlys, AV.only]) (by simp [AV.only, AV.onlys]) rfl rfl rfl (mO_free _) (mO_free _) rfl (by first | exact trivial | exact ⟨rfl, trivial⟩ | exact ⟨rfl, rfl, trivial⟩ | exact ⟨rfl, rfl, rfl, trivial⟩ | exact ⟨rfl, rfl, rfl, rfl, trivial⟩) (fun t h => by injection h with h; subst h; exact tl hn rfl) ?_
 | refine RunsL.step tabOk hn rfl ?_
 | refine RunsL.nil ?_
 | refine Runs.toRegion 30 rfl ?_
 | ((first | refine RunsL.pe hn rfl rfl rfl ?_ | refine RunsD.pe rfl rfl ?_); first
 | refine ⟨_, pu_nilCheckP rfl, ?_⟩
 | refine ⟨_, pu_len_own (n := (({ m with sums := ss } : Mch)).sums.length) rfl rfl hcl, ?_⟩
 | refine ⟨_, pu_addW (t := 114) rfl rfl, ?_⟩
 | refine ⟨_, pu_subW (t := 122) rfl rfl, ?_⟩)
 | (refine Runs.ctls 30 rfl ?_; first | refine Runs.cond_t rfl ?_ | refine Runs.cond_f rfl ?_ | ((first | refine Runs.cond_yes rfl ?_ ?_ | refine Runs.cond_nno rfl ?_ ?_); · first | omega | rfl | assumption | (simp only [List.length_map]; omega)) | ((first | refine Runs.cond_no rfl ?_ ?_ | refine Runs.cond_nyes rfl ?_ ?_); · first | omega | rfl | assumption | (simp only [List.length_map]; omega)) | refine Runs.cond_dec rfl (fun h => ?_) (fun h => ?_) | refine Runs.cond_ndec rfl (fun h => ?_) (fun h => ?_) | refine Runs.cond_nb rfl (fun h => ?_) (fun h => ?_) | refine Runs.cond_b rfl (fun h => ?_) (fun h => ?_) | refine Runs.ret (ends_ro hm rfl rfl ?_) | exact Runs.ret (ends_cellR hm rfl rfl rfl (Nat.le_of_ble_eq_true rfl) rfl rfl))
 | refine op_box rfl (tl hn rfl) ?_
 | refine op_storeF rfl rfl rfl rfl (Nat.le_of_ble_eq_true rfl) ?_
 | refine op_alloc (tl hn rfl) ?_
 | refine op_storeN rfl rfl rfl rfl (Nat.le_of_ble_eq_true rfl) ?_
 | refine RunsD.step tabOk hn rfl rfl ?_
 | refine RunsD.nil ?_
 | refine Runs.toDraw 30 mixed hn rfl (by kernel_rfl) rfl ?_
 | ((first | refine RunsL.pe hn rfl rfl rfl ?_ | refine RunsD.pe rfl rfl ?_); first
 | refine ⟨_, pu_add rfl rfl (by omega), ?_⟩
 | refine ⟨_, pu_indexAddr_map rfl rfl (by omega) (by assumption), ?_⟩
 | refine ⟨_, pu_sub rfl rfl (by omega), ?_⟩
 | refine ⟨_, pu_pick_b rfl rfl rfl, ?_⟩
 | refine ⟨_, pu_mul rfl rfl (by omega), ?_⟩
 | refine ⟨_, pu_build rfl rfl rfl rfl rfl rfl, ?_⟩)
 | ((first | refine RunsL.guard_dec rfl rfl rfl ?_ ?_ | refine RunsL.guard_ndec rfl rfl rfl ?_ ?_ | refine RunsL.guard_nb rfl rfl rfl ?_ ?_ | refine RunsL.guard_b rfl rfl rfl ?_ ?_ | refine RunsD.guard_dec rfl rfl rfl ?_ ?_ | refine RunsD.guard_ndec rfl rfl rfl ?_ ?_ | refine RunsD.guard_nb rfl rfl rfl ?_ ?_ | refine RunsD.guard_b rfl rfl rfl ?_ ?_) <;> intro h <;> try (exfalso; first | omega | contradiction | (simp only [List.length_map] at h; omega))))
            refine Runs.ctls 30 rfl ?_
            refine mO_end (t := 1) (more := [⟨34, 0, [.ro (inssR p.code), .ro (intsR p.entries)]⟩, ⟨74, 0, (insR x).map .ro⟩]) rfl ?_ rfl
            rw [hq]
            first
              | done
              | rfl
        · rw [if_pos hzb]
          repeat' (first
 | refine Runs.toDrawT (id := 3) 30 [] [0, 1, 2, 3, 4, 5, 6, 7, 8] 9 [(8, 74, [.int .i64 0, .int .i64 0, .int .i64 0])] mixed hn rfl (by kernel_rfl) rfl .nil (by decide) (by decide) (by decide) ?_
 | refine op_callP 3 (l17Fail_am m 5) rfl (by simp [AV.onlys, AV.only]) (by simp [AV.only, AV.onlys]) rfl rfl rfl (mO_free _) (mO_free _) rfl (by first | exact trivial | exact ⟨rfl, trivial⟩ | exact ⟨rfl, rfl, trivial⟩ | exact ⟨rfl, rfl, rfl, trivial⟩ | exact ⟨rfl, rfl, rfl, rfl, trivial⟩) (fun t h => by injection h with h; subst h; exact tl hn rfl) ?_
 | refine RunsT.nil ?_
 | refine RunsT.step tabOk rfl rfl (fun _ => rfl) (by decide) ?_
 | refine RunsT.pur (fun _ => pu_nilCheckP rfl) (by decide) rfl rfl ?_
 | refine RunsT.pur (fun _ => pu_callR (l1In_ac _ _ _) rfl) (by decide) rfl rfl ?_
 | refine RunsT.pur (fun _ => pu_len_seqN p.code.length rfl hlc) (by decide) rfl rfl ?_
 | refine RunsT.pur (fun _ => pu_len_own (n := m.sums.length) rfl rfl hl) (by decide) rfl rfl ?_
 | refine RunsT.pur (fun _ => pu_indexAddr_own (n := m.sums.length) (sz := 1) rfl rfl rfl rfl hl (by omega) (by omega)) (by decide) rfl rfl ?_
 | refine RunsT.pur (fun _ => pu_sub rfl rfl (by omega)) (by decide) rfl rfl ?_
 | refine RunsT.pur (fun _ => pu_load_obj rfl rfl hz') (by decide) rfl rfl ?_
 | refine RunsT.pur (fun _ => pu_add rfl rfl (by omega)) (by decide) rfl rfl ?_
 | refine RunsT.pur (fun _ => pu_indexAddr_map rfl rfl (by omega) (by assumption)) (by decide) rfl rfl ?_
 | refine RunsT.alloc (p := 0) rfl inferInstance ?_
 | refine RunsT.alloc (p := 1) rfl inferInstance ?_
 | refine RunsL.step tabOk hn rfl ?_
 | refine RunsL.nil ?_
 | refine Runs.toRegion 30 rfl ?_
 | ((first | refine RunsL.pe hn rfl rfl rfl ?_ | refine RunsD.pe rfl rfl ?_); first
 | refine ⟨_, pu_nilCheckP rfl, ?_⟩
 | refine ⟨_, pu_callR (l1In_ac _ _ _) rfl, ?_⟩
 | refine ⟨_, pu_len_seqN p.code.length rfl hlc, ?_⟩
 | refine ⟨_, pu_len_own (n := m.sums.length) rfl rfl hl, ?_⟩
 | refine ⟨_, pu_indexAddr_own (n := m.sums.length) (sz := 1) rfl rfl rfl rfl hl (by omega) (by omega), ?_⟩
 | refine ⟨_, pu_sub rfl rfl (by omega), ?_⟩
 | refine ⟨_, pu_load_obj rfl rfl hz', ?_⟩)
 | (refine Runs.ctls 30 rfl ?_; first | refine Runs.cond_t rfl ?_ | refine Runs.cond_f rfl ?_ | ((first | refine Runs.cond_yes rfl ?_ ?_ | refine Runs.cond_nno rfl ?_ ?_); · first | omega | rfl | assumption | (simp only [List.length_map]; omega)) | ((first | refine Runs.cond_no rfl ?_ ?_ | refine Runs.cond_nyes rfl ?_ ?_); · first | omega | rfl | assumption | (simp only [List.length_map]; omega)) | refine Runs.cond_dec rfl (fun h => ?_) (fun h => ?_) | refine Runs.cond_ndec rfl (fun h => ?_) (fun h => ?_) | refine Runs.cond_nb rfl (fun h => ?_) (fun h => ?_) | refine Runs.cond_b rfl (fun h => ?_) (fun h => ?_) | refine Runs.ret (ends_ro hm rfl rfl ?_) | exact Runs.ret (ends_cellR hm rfl rfl rfl (Nat.le_of_ble_eq_true rfl) rfl rfl))
 | refine op_box rfl (tl hn rfl) ?_
 | refine op_storeF rfl rfl rfl rfl (Nat.le_of_ble_eq_true rfl) ?_
 | refine op_alloc (tl hn rfl) ?_
 | refine op_storeN rfl rfl rfl rfl (Nat.le_of_ble_eq_true rfl) ?_
 | refine RunsD.step tabOk hn rfl rfl ?_
 | refine RunsD.nil ?_
 | refine Runs.toDraw 30 mixed hn rfl (by kernel_rfl) rfl ?_
 | ((first | refine RunsL.pe hn rfl rfl rfl ?_ | refine RunsD.pe rfl rfl ?_); first
 | refine ⟨_, pu_add rfl rfl (by omega), ?_⟩
 | refine ⟨_, pu_indexAddr_map rfl rfl (by omega) (by assumption), ?_⟩
 | refine ⟨_, pu_sub rfl rfl (by omega), ?_⟩
 | refine ⟨_, pu_pick_b rfl rfl rfl, ?_⟩
 | refine ⟨_, pu_mul rfl rfl (by omega), ?_⟩
 | refine ⟨_, pu_build rfl rfl rfl rfl rfl rfl, ?_⟩)
 | ((first | refine RunsL.guard_dec rfl rfl rfl ?_ ?_ | refine RunsL.guard_ndec rfl rfl rfl ?_ ?_ | refine RunsL.guard_nb rfl rfl rfl ?_ ?_ | refine RunsL.guard_b rfl rfl rfl ?_ ?_ | refine RunsD.guard_dec rfl rfl rfl ?_ ?_ | refine RunsD.guard_ndec rfl rfl rfl ?_ ?_ | refine RunsD.guard_nb rfl rfl rfl ?_ ?_ | refine RunsD.guard_b rfl rfl rfl ?_ ?_) <;> intro h <;> try (exfalso; first | omega | contradiction | (simp only [List.length_map] at h; omega))))
          all_goals first
            | (exfalso; first | omega | contradiction)
            | (refine Runs.ctls 30 rfl ?_
               refine mO_ret (t := 1) (more := [⟨34, 0, [.ro (inssR p.code), .ro (intsR p.entries)]⟩, ⟨74, 0, (insR x).map .ro⟩]) rfl (mO_app rfl) rfl)
    · rw [if_neg (by rintro (h | h); exact hA h; exact h15 h.1), show mTake m x b = mRead (mCount m b) x b from by unfold mTake; rw [if_neg h15]]
      have hrs := hrs (q := m) rfl
      repeat' (first
 | refine Runs.toDrawT (id := 3) 30 [] [0, 1, 2, 3, 4, 5, 6, 7, 8] 9 [(8, 74, [.int .i64 0, .int .i64 0, .int .i64 0])] mixed hn rfl (by kernel_rfl) rfl .nil (by decide) (by decide) (by decide) ?_
 | refine RunsT.nil ?_
 | refine RunsT.step tabOk rfl rfl (fun _ => rfl) (by decide) ?_
 | refine RunsT.pur (fun _ => pu_nilCheckP rfl) (by decide) rfl rfl ?_
 | refine RunsT.pur (fun _ => pu_callR (l1In_ac _ _ _) rfl) (by decide) rfl rfl ?_
 | refine RunsT.pur (fun _ => pu_len_seqN p.code.length rfl hlc) (by decide) rfl rfl ?_
 | refine RunsT.pur (fun _ => pu_add rfl rfl (by omega)) (by decide) rfl rfl ?_
 | refine RunsT.pur (fun _ => pu_indexAddr_map rfl rfl (by omega) (by assumption)) (by decide) rfl rfl ?_
 | refine RunsT.alloc (p := 0) rfl inferInstance ?_
 | refine RunsT.alloc (p := 1) rfl inferInstance ?_
 | refine RunsL.step tabOk hn rfl ?_
 | refine RunsL.nil ?_
 | refine Runs.toRegion 30 rfl ?_
 | ((first | refine RunsL.pe hn rfl rfl rfl ?_ | refine RunsD.pe rfl rfl ?_); first
 | refine ⟨_, pu_nilCheckP rfl, ?_⟩
 | refine ⟨_, pu_callR (l1In_ac _ _ _) rfl, ?_⟩
 | refine ⟨_, pu_len_seqN p.code.length rfl hlc, ?_⟩)
 | (refine Runs.ctls 30 rfl ?_; first | refine Runs.cond_t rfl ?_ | refine Runs.cond_f rfl ?_ | ((first | refine Runs.cond_yes rfl ?_ ?_ | refine Runs.cond_nno rfl ?_ ?_); · first | omega | rfl | assumption | (simp only [List.length_map]; omega)) | ((first | refine Runs.cond_no rfl ?_ ?_ | refine Runs.cond_nyes rfl ?_ ?_); · first | omega | rfl | assumption | (simp only [List.length_map]; omega)) | refine Runs.cond_dec rfl (fun h => ?_) (fun h => ?_) | refine Runs.cond_ndec rfl (fun h => ?_) (fun h => ?_) | refine Runs.cond_nb rfl (fun h => ?_) (fun h => ?_) | refine Runs.cond_b rfl (fun h => ?_) (fun h => ?_) | refine Runs.ret (ends_ro hm rfl rfl ?_) | exact Runs.ret (ends_cellR hm rfl rfl rfl (Nat.le_of_ble_eq_true rfl) rfl rfl))
 | refine op_box rfl (tl hn rfl) ?_
 | refine op_storeF rfl rfl rfl rfl (Nat.le_of_ble_eq_true rfl) ?_
 | refine op_alloc (tl hn rfl) ?_
 | refine op_storeN rfl rfl rfl rfl (Nat.le_of_ble_eq_true rfl) ?_
 | refine RunsD.step tabOk hn rfl rfl ?_
 | refine RunsD.nil ?_
 | refine Runs.toDraw 30 mixed hn rfl (by kernel_rfl) rfl ?_
 | ((first | refine RunsL.pe hn rfl rfl rfl ?_ | refine RunsD.pe rfl rfl ?_); first
 | refine ⟨_, pu_add rfl rfl (by omega), ?_⟩
 | refine ⟨_, pu_indexAddr_map rfl rfl (by omega) (by assumption), ?_⟩
 | refine ⟨_, pu_sub rfl rfl (by omega), ?_⟩
 | refine ⟨_, pu_pick_b rfl rfl rfl, ?_⟩
 | refine ⟨_, pu_mul rfl rfl (by omega), ?_⟩
 | refine ⟨_, pu_build rfl rfl rfl rfl rfl rfl, ?_⟩)
 | ((first | refine RunsL.guard_dec rfl rfl rfl ?_ ?_ | refine RunsL.guard_ndec rfl rfl rfl ?_ ?_ | refine RunsL.guard_nb rfl rfl rfl ?_ ?_ | refine RunsL.guard_b rfl rfl rfl ?_ ?_ | refine RunsD.guard_dec rfl rfl rfl ?_ ?_ | refine RunsD.guard_ndec rfl rfl rfl ?_ ?_ | refine RunsD.guard_nb rfl rfl rfl ?_ ?_ | refine RunsD.guard_b rfl rfl rfl ?_ ?_) <;> intro h <;> try (exfalso; first | omega | contradiction | (simp only [List.length_map] at h; omega))))
      all_goals first
        | (exfalso; first | omega | contradiction)
        | skip
      all_goals
        have hqs : (m).sums.length ≤ 1048576 := hb2
        refine Runs.loopN 30 rfl (fun j => [(1, .pin 0 0 (gs 0)), (2, .int b), (6, .obj 4 0), (7, .int (j : Int))]) (fun j => mO { m with sums := cntS b (m).sums j } ++ [⟨34, 0, [.ro (inssR p.code), .ro (intsR p.entries)]⟩, ⟨74, 0, (insR x).map .ro⟩]) (fun _ => True) (m).sums.length 0 (Nat.zero_le _) trivial ⟨rfl, rfl, rfl, rfl, trivial⟩ (by rw [show cntS b (m).sums 0 = (m).sums by simp [cntS]]; rfl) fun j hj _ next => ?_
        have hcl : (((cntS b (m).sums j).map RV.int).map AV.ro).length = (m).sums.length * 1 := by rw [List.length_map, List.length_map, cntS_len, Nat.mul_one]
        by_cases hlt : j < (m).sums.length
        · obtain ⟨z, hz⟩ : ∃ z, (m).sums[j]? = some z := ⟨_, List.getElem?_eq_getElem hlt⟩
          have hc := cntS_at (b := b) hz
          have hc' : (((cntS b (m).sums j).map RV.int).map AV.ro)[(j : Int).toNat * 1]? = some (.ro (.int z)) := by
            rw [show (j : Int).toNat * 1 = j by simp, List.getElem?_map, List.getElem?_map, hc]; rfl
          repeat' (first
 | refine Runs.toDrawT (id := 15) 30 [] [0, 1, 2, 3, 4, 5, 6, 7, 8, 9, 10, 11, 12, 13, 14, 15] 16 [] mixed hn rfl (by kernel_rfl) rfl .nil (by decide) (by decide) (by decide) ?_
 | refine op_storeF rfl rfl rfl rfl (by rw [List.length_map, List.length_map, cntS_len]; omega) ?_
 | refine RunsT.nil ?_
 | refine RunsT.step tabOk rfl rfl (fun _ => rfl) (by decide) ?_
 | refine RunsT.pur (fun _ => pu_nilCheckP rfl) (by decide) rfl rfl ?_
 | refine RunsT.pur (fun _ => pu_len_own (n := (m).sums.length) rfl rfl hcl) (by decide) rfl rfl ?_
 | refine RunsT.pur (fun _ => pu_indexAddr_own (n := (m).sums.length) (sz := 1) rfl rfl rfl rfl hcl (by omega) (by omega)) (by decide) rfl rfl ?_
 | refine RunsT.pur (fun _ => pu_load_obj rfl rfl hc') (by decide) rfl rfl ?_
 | refine RunsT.pur (fun _ => pu_rem256 rfl rfl) (by decide) rfl rfl ?_
 | refine RunsT.pur (fun _ => pu_addW (t := 106) rfl rfl) (by decide) rfl rfl ?_
 | refine RunsT.pur (fun _ => pu_add rfl rfl (by omega)) (by decide) rfl rfl ?_
 | refine RunsT.pur (fun _ => pu_indexAddr_map rfl rfl (by omega) (by assumption)) (by decide) rfl rfl ?_
 | refine RunsT.alloc (p := 0) rfl inferInstance ?_
 | refine RunsT.alloc (p := 1) rfl inferInstance ?_
 | refine RunsL.step tabOk hn rfl ?_
 | refine RunsL.nil ?_
 | refine Runs.toRegion 30 rfl ?_
 | ((first | refine RunsL.pe hn rfl rfl rfl ?_ | refine RunsD.pe rfl rfl ?_); first
 | refine ⟨_, pu_nilCheckP rfl, ?_⟩
 | refine ⟨_, pu_len_own (n := (m).sums.length) rfl rfl hcl, ?_⟩
 | refine ⟨_, pu_indexAddr_own (n := (m).sums.length) (sz := 1) rfl rfl rfl rfl hcl (by omega) (by omega), ?_⟩
 | refine ⟨_, pu_load_obj rfl rfl hc', ?_⟩
 | refine ⟨_, pu_rem256 rfl rfl, ?_⟩
 | refine ⟨_, pu_addW (t := 106) rfl rfl, ?_⟩)
 | (refine Runs.ctls 30 rfl ?_; first | refine Runs.cond_t rfl ?_ | refine Runs.cond_f rfl ?_ | ((first | refine Runs.cond_yes rfl ?_ ?_ | refine Runs.cond_nno rfl ?_ ?_); · first | omega | rfl | assumption | (simp only [List.length_map]; omega)) | ((first | refine Runs.cond_no rfl ?_ ?_ | refine Runs.cond_nyes rfl ?_ ?_); · first | omega | rfl | assumption | (simp only [List.length_map]; omega)) | refine Runs.cond_dec rfl (fun h => ?_) (fun h => ?_) | refine Runs.cond_ndec rfl (fun h => ?_) (fun h => ?_) | refine Runs.cond_nb rfl (fun h => ?_) (fun h => ?_) | refine Runs.cond_b rfl (fun h => ?_) (fun h => ?_) | refine Runs.ret (ends_ro hm rfl rfl ?_) | exact Runs.ret (ends_cellR hm rfl rfl rfl (Nat.le_of_ble_eq_true rfl) rfl rfl))
 | refine op_box rfl (tl hn rfl) ?_
 | refine op_storeF rfl rfl rfl rfl (Nat.le_of_ble_eq_true rfl) ?_
 | refine op_alloc (tl hn rfl) ?_
 | refine op_storeN rfl rfl rfl rfl (Nat.le_of_ble_eq_true rfl) ?_
 | refine RunsD.step tabOk hn rfl rfl ?_
 | refine RunsD.nil ?_
 | refine Runs.toDraw 30 mixed hn rfl (by kernel_rfl) rfl ?_
 | ((first | refine RunsL.pe hn rfl rfl rfl ?_ | refine RunsD.pe rfl rfl ?_); first
 | refine ⟨_, pu_add rfl rfl (by omega), ?_⟩
 | refine ⟨_, pu_indexAddr_map rfl rfl (by omega) (by assumption), ?_⟩
 | refine ⟨_, pu_sub rfl rfl (by omega), ?_⟩
 | refine ⟨_, pu_pick_b rfl rfl rfl, ?_⟩
 | refine ⟨_, pu_mul rfl rfl (by omega), ?_⟩
 | refine ⟨_, pu_build rfl rfl rfl rfl rfl rfl, ?_⟩)
 | ((first | refine RunsL.guard_dec rfl rfl rfl ?_ ?_ | refine RunsL.guard_ndec rfl rfl rfl ?_ ?_ | refine RunsL.guard_nb rfl rfl rfl ?_ ?_ | refine RunsL.guard_b rfl rfl rfl ?_ ?_ | refine RunsD.guard_dec rfl rfl rfl ?_ ?_ | refine RunsD.guard_ndec rfl rfl rfl ?_ ?_ | refine RunsD.guard_nb rfl rfl rfl ?_ ?_ | refine RunsD.guard_b rfl rfl rfl ?_ ?_) <;> intro h <;> try (exfalso; first | omega | contradiction | (simp only [List.length_map] at h; omega))))
          refine next _ _ ⟨rfl, rfl, rfl, rfl, trivial⟩ hlt trivial ?_
          rw [← cntS_next hz]
          unfold mO
          simp only []
          rw [List.map_set, List.map_set, show (((cntS b (m).sums j).map RV.int).map AV.ro).set j (AV.ro (RV.int (cntF b z))) = (((cntS b (m).sums j).map RV.int).map AV.ro).set ((j : Int).toNat * 1) (AV.ro (RV.int (cntF b z))) from by rw [show (j : Int).toNat * 1 = j by simp]]
          rfl
        · obtain rfl : j = (m).sums.length := by omega
          have hq : mCount (m) b = { m with sums := cntS b (m).sums (m).sums.length, read := w64 ((m).read + 1), left := w64 ((m).left - 1) } := by simp [mCount, cntS, cntF]
          have hR := l17Read_am (mCount (m) b) x b h0 hrs hb
          rw [hq] at hR
          repeat' (first
 | refine op_callP 3 (hR) rfl (by simp [AV.onlys, AV.only]) (by simp [AV.only, AV.onlys]) rfl rfl rfl (mO_free _) (mO_free _) rfl (by first | exact trivial | exact ⟨rfl, trivial⟩ | exact ⟨rfl, rfl, trivial⟩ | exact ⟨rfl, rfl, rfl, trivial⟩ | exact ⟨rfl, rfl, rfl, rfl, trivial⟩) (fun t h => by injection h with h; subst h; exact tl hn rfl) ?_
 | refine RunsL.step tabOk hn rfl ?_
 | refine RunsL.nil ?_
 | refine Runs.toRegion 30 rfl ?_
 | ((first | refine RunsL.pe hn rfl rfl rfl ?_ | refine RunsD.pe rfl rfl ?_); first
 | refine ⟨_, pu_nilCheckP rfl, ?_⟩
 | refine ⟨_, pu_len_own (n := (m).sums.length) rfl rfl hcl, ?_⟩
 | refine ⟨_, pu_addW (t := 114) rfl rfl, ?_⟩
 | refine ⟨_, pu_subW (t := 122) rfl rfl, ?_⟩)
 | (refine Runs.ctls 30 rfl ?_; first | refine Runs.cond_t rfl ?_ | refine Runs.cond_f rfl ?_ | ((first | refine Runs.cond_yes rfl ?_ ?_ | refine Runs.cond_nno rfl ?_ ?_); · first | omega | rfl | assumption | (simp only [List.length_map]; omega)) | ((first | refine Runs.cond_no rfl ?_ ?_ | refine Runs.cond_nyes rfl ?_ ?_); · first | omega | rfl | assumption | (simp only [List.length_map]; omega)) | refine Runs.cond_dec rfl (fun h => ?_) (fun h => ?_) | refine Runs.cond_ndec rfl (fun h => ?_) (fun h => ?_) | refine Runs.cond_nb rfl (fun h => ?_) (fun h => ?_) | refine Runs.cond_b rfl (fun h => ?_) (fun h => ?_) | refine Runs.ret (ends_ro hm rfl rfl ?_) | exact Runs.ret (ends_cellR hm rfl rfl rfl (Nat.le_of_ble_eq_true rfl) rfl rfl))
 | refine op_box rfl (tl hn rfl) ?_
 | refine op_storeF rfl rfl rfl rfl (Nat.le_of_ble_eq_true rfl) ?_
 | refine op_alloc (tl hn rfl) ?_
 | refine op_storeN rfl rfl rfl rfl (Nat.le_of_ble_eq_true rfl) ?_
 | refine RunsD.step tabOk hn rfl rfl ?_
 | refine RunsD.nil ?_
 | refine Runs.toDraw 30 mixed hn rfl (by kernel_rfl) rfl ?_
 | ((first | refine RunsL.pe hn rfl rfl rfl ?_ | refine RunsD.pe rfl rfl ?_); first
 | refine ⟨_, pu_add rfl rfl (by omega), ?_⟩
 | refine ⟨_, pu_indexAddr_map rfl rfl (by omega) (by assumption), ?_⟩
 | refine ⟨_, pu_sub rfl rfl (by omega), ?_⟩
 | refine ⟨_, pu_pick_b rfl rfl rfl, ?_⟩
 | refine ⟨_, pu_mul rfl rfl (by omega), ?_⟩
 | refine ⟨_, pu_build rfl rfl rfl rfl rfl rfl, ?_⟩)
 | ((first | refine RunsL.guard_dec rfl rfl rfl ?_ ?_ | refine RunsL.guard_ndec rfl rfl rfl ?_ ?_ | refine RunsL.guard_nb rfl rfl rfl ?_ ?_ | refine RunsL.guard_b rfl rfl rfl ?_ ?_ | refine RunsD.guard_dec rfl rfl rfl ?_ ?_ | refine RunsD.guard_ndec rfl rfl rfl ?_ ?_ | refine RunsD.guard_nb rfl rfl rfl ?_ ?_ | refine RunsD.guard_b rfl rfl rfl ?_ ?_) <;> intro h <;> try (exfalso; first | omega | contradiction | (simp only [List.length_map] at h; omega))))
          refine Runs.ctls 30 rfl ?_
          refine mO_end (t := 1) (more := [⟨34, 0, [.ro (inssR p.code), .ro (intsR p.entries)]⟩, ⟨74, 0, (insR x).map .ro⟩]) rfl ?_ rfl
          rw [hq]
          first
            | done
            | rfl
end Go.Proofs.Ytkhnijggbfoimaa
/- The machine is fed: the reference's side. -/
namespace Go.Proofs.Ytkhnijggbfoimaa
set_option linter.unusedSimpArgs false
set_option linter.unusedVariables false
open Go.RowKit
open AV (Mem Keeps)
set_option maxRecDepth 100000
set_option maxHeartbeats 16000000 in
theorem spec_FeedByte (p : Prg) (m : Mch) (b : Int) (hB : PrgB p) (hm0 : MLen m) : AC Try.prog 25 [prgR p, mchR m, .int b] fun rr => rr = mchRR (mFeedB p (fitB p) m b) := by
  have hc := hB.code
  have hA := spec_AdvanceMachine p m hB hm0
  have hL := mAdv_len (p := p) (f := fitB p) hm0
  have hI := fun h => mAdv_idx (p := p) (f := fitB p) (m := m) h
  have hOk := fitsOk (p := p) (f := fitB p) rfl
  have hE : mFeedB p (fitB p) m b = if InR b 0 255 then (if (mAdv p (fitB p) m).state = 1 then mFail (mAdv p (fitB p) m) 7 else if (mAdv p (fitB p) m).state ≠ 0 then mAdv p (fitB p) m else mByte p (mAdv p (fitB p) m) b) else m := rfl
  rw [hE]
  clear hE
  generalize mAdv p (fitB p) m = q at hA hL hI ⊢
  refine ac_enter Try.func25 rfl _ Try.ntmps25 (by simp) fun C hn hm => ?_
  by_cases hb : InR b 0 255
  · rw [if_pos hb]
    by_cases h1 : q.state = 1
    · rw [if_pos h1]
      repeat' (first
 | refine op_callOR hA rfl (tl hn rfl) ?_
 | refine op_callMchG 5 3 4 (l17Fail_am q 7) rfl (by simp [AV.onlys, AV.only]) rfl rfl rfl (by decide) (by repeat' (first | exact trivial | exact .inl rfl | exact .inr rfl | refine And.intro ?_ ?_)) (fun t h => by injection h with h; subst h; exact tl hn rfl) ?_
 | refine RunsL.step tabOk hn rfl ?_
 | refine RunsL.nil ?_
 | refine Runs.toRegion 30 rfl ?_
 | (refine RunsL.pe hn rfl rfl rfl ?_; first
 | refine ⟨_, pu_callR (l1In_ac _ _ _) rfl, ?_⟩)
 | (refine Runs.ctls 30 rfl ?_; first | refine Runs.cond_t rfl ?_ | refine Runs.cond_f rfl ?_ | ((first | refine Runs.cond_yes rfl ?_ ?_ | refine Runs.cond_nno rfl ?_ ?_); · first | omega | rfl | assumption | (simp only [List.length_map]; omega)) | ((first | refine Runs.cond_no rfl ?_ ?_ | refine Runs.cond_nyes rfl ?_ ?_); · first | omega | rfl | assumption | (simp only [List.length_map]; omega)) | refine Runs.cond_dec rfl (fun h => ?_) (fun h => ?_) | refine Runs.cond_ndec rfl (fun h => ?_) (fun h => ?_) | refine Runs.cond_nb rfl (fun h => ?_) (fun h => ?_) | refine Runs.cond_b rfl (fun h => ?_) (fun h => ?_) | refine Runs.ret (ends_ro hm rfl rfl ?_) | exact Runs.ret (ends_cellR hm rfl rfl rfl (Nat.le_of_ble_eq_true rfl) rfl rfl))
 | refine op_box rfl (tl hn rfl) ?_
 | refine op_storeF rfl rfl rfl rfl (Nat.le_of_ble_eq_true rfl) ?_
 | refine op_alloc (tl hn rfl) ?_
 | refine op_storeN rfl rfl rfl rfl (Nat.le_of_ble_eq_true rfl) ?_
 | (refine RunsL.pe hn rfl rfl rfl ?_; first
 | refine ⟨_, pu_add rfl rfl (by omega), ?_⟩
 | refine ⟨_, pu_indexAddr_map rfl rfl (by omega) (by assumption), ?_⟩
 | refine ⟨_, pu_sub rfl rfl (by omega), ?_⟩
 | refine ⟨_, pu_pick_b rfl rfl rfl, ?_⟩
 | refine ⟨_, pu_mul rfl rfl (by omega), ?_⟩
 | refine ⟨_, pu_build rfl rfl rfl rfl rfl rfl, ?_⟩))
      all_goals first
        | (exfalso; omega)
        | (refine Runs.ctls 30 rfl ?_
           exact Runs.ret (ends_mch (i := 2) (a := 3) (b := 4) hm rfl rfl rfl rfl rfl (by decide) rfl))
    · rw [if_neg h1]
      by_cases h0 : q.state = 0
      · obtain ⟨hft, hst, hi⟩ := hI h0
        obtain ⟨x, hx⟩ : ∃ x, p.code[q.pc.toNat]? = some x := ⟨_, List.getElem?_eq_getElem (by unfold Idx at hi; omega)⟩
        have hok := hOk hft _ _ hx
        have hBy := l17Byte_am p q b x hL (by omega) hi hx h0 (fun h => by have := (hok.1 h).1; unfold InR at this; omega) hb
        rw [if_neg (by simp [h0])]
        repeat' (first
 | refine op_callOR hA rfl (tl hn rfl) ?_
 | refine op_callMchG 5 3 4 hBy rfl (by simp [AV.onlys, AV.only]) rfl rfl rfl (by decide) (by repeat' (first | exact trivial | exact .inl rfl | exact .inr rfl | refine And.intro ?_ ?_)) (fun t h => by injection h with h; subst h; exact tl hn rfl) ?_
 | refine RunsL.step tabOk hn rfl ?_
 | refine RunsL.nil ?_
 | refine Runs.toRegion 30 rfl ?_
 | (refine RunsL.pe hn rfl rfl rfl ?_; first
 | refine ⟨_, pu_callR (l1In_ac _ _ _) rfl, ?_⟩)
 | (refine Runs.ctls 30 rfl ?_; first | refine Runs.cond_t rfl ?_ | refine Runs.cond_f rfl ?_ | ((first | refine Runs.cond_yes rfl ?_ ?_ | refine Runs.cond_nno rfl ?_ ?_); · first | omega | rfl | assumption | (simp only [List.length_map]; omega)) | ((first | refine Runs.cond_no rfl ?_ ?_ | refine Runs.cond_nyes rfl ?_ ?_); · first | omega | rfl | assumption | (simp only [List.length_map]; omega)) | refine Runs.cond_dec rfl (fun h => ?_) (fun h => ?_) | refine Runs.cond_ndec rfl (fun h => ?_) (fun h => ?_) | refine Runs.cond_nb rfl (fun h => ?_) (fun h => ?_) | refine Runs.cond_b rfl (fun h => ?_) (fun h => ?_) | refine Runs.ret (ends_ro hm rfl rfl ?_) | exact Runs.ret (ends_cellR hm rfl rfl rfl (Nat.le_of_ble_eq_true rfl) rfl rfl))
 | refine op_box rfl (tl hn rfl) ?_
 | refine op_storeF rfl rfl rfl rfl (Nat.le_of_ble_eq_true rfl) ?_
 | refine op_alloc (tl hn rfl) ?_
 | refine op_storeN rfl rfl rfl rfl (Nat.le_of_ble_eq_true rfl) ?_
 | (refine RunsL.pe hn rfl rfl rfl ?_; first
 | refine ⟨_, pu_add rfl rfl (by omega), ?_⟩
 | refine ⟨_, pu_indexAddr_map rfl rfl (by omega) (by assumption), ?_⟩
 | refine ⟨_, pu_sub rfl rfl (by omega), ?_⟩
 | refine ⟨_, pu_pick_b rfl rfl rfl, ?_⟩
 | refine ⟨_, pu_mul rfl rfl (by omega), ?_⟩
 | refine ⟨_, pu_build rfl rfl rfl rfl rfl rfl, ?_⟩))
        all_goals first
          | (exfalso; omega)
          | (refine Runs.ctls 30 rfl ?_
             exact Runs.ret (ends_mch (i := 2) (a := 3) (b := 4) hm rfl rfl rfl rfl rfl (by decide) rfl))
      · rw [if_pos h0]
        repeat' (first
 | refine op_callOR hA rfl (tl hn rfl) ?_
 | refine RunsL.step tabOk hn rfl ?_
 | refine RunsL.nil ?_
 | refine Runs.toRegion 30 rfl ?_
 | (refine RunsL.pe hn rfl rfl rfl ?_; first
 | refine ⟨_, pu_callR (l1In_ac _ _ _) rfl, ?_⟩)
 | (refine Runs.ctls 30 rfl ?_; first | refine Runs.cond_t rfl ?_ | refine Runs.cond_f rfl ?_ | ((first | refine Runs.cond_yes rfl ?_ ?_ | refine Runs.cond_nno rfl ?_ ?_); · first | omega | rfl | assumption | (simp only [List.length_map]; omega)) | ((first | refine Runs.cond_no rfl ?_ ?_ | refine Runs.cond_nyes rfl ?_ ?_); · first | omega | rfl | assumption | (simp only [List.length_map]; omega)) | refine Runs.cond_dec rfl (fun h => ?_) (fun h => ?_) | refine Runs.cond_ndec rfl (fun h => ?_) (fun h => ?_) | refine Runs.cond_nb rfl (fun h => ?_) (fun h => ?_) | refine Runs.cond_b rfl (fun h => ?_) (fun h => ?_) | refine Runs.ret (ends_ro hm rfl rfl ?_) | exact Runs.ret (ends_cellR hm rfl rfl rfl (Nat.le_of_ble_eq_true rfl) rfl rfl))
 | refine op_box rfl (tl hn rfl) ?_
 | refine op_storeF rfl rfl rfl rfl (Nat.le_of_ble_eq_true rfl) ?_
 | refine op_alloc (tl hn rfl) ?_
 | refine op_storeN rfl rfl rfl rfl (Nat.le_of_ble_eq_true rfl) ?_
 | (refine RunsL.pe hn rfl rfl rfl ?_; first
 | refine ⟨_, pu_add rfl rfl (by omega), ?_⟩
 | refine ⟨_, pu_indexAddr_map rfl rfl (by omega) (by assumption), ?_⟩
 | refine ⟨_, pu_sub rfl rfl (by omega), ?_⟩
 | refine ⟨_, pu_pick_b rfl rfl rfl, ?_⟩
 | refine ⟨_, pu_mul rfl rfl (by omega), ?_⟩
 | refine ⟨_, pu_build rfl rfl rfl rfl rfl rfl, ?_⟩))
        all_goals first
          | (exfalso; omega)
          | (refine Runs.ctls 30 rfl ?_
             exact Runs.ret (ends_mch (i := 2) (a := 3) (b := 4) hm rfl rfl rfl rfl rfl (by decide) rfl))
  · rw [if_neg hb]
    repeat' (first
 | refine op_callOR (l17Copy_ac m hm0) rfl (tl hn rfl) ?_
 | refine RunsL.step tabOk hn rfl ?_
 | refine RunsL.nil ?_
 | refine Runs.toRegion 30 rfl ?_
 | (refine RunsL.pe hn rfl rfl rfl ?_; first
 | refine ⟨_, pu_callR (l1In_ac _ _ _) rfl, ?_⟩)
 | (refine Runs.ctls 30 rfl ?_; first | refine Runs.cond_t rfl ?_ | refine Runs.cond_f rfl ?_ | ((first | refine Runs.cond_yes rfl ?_ ?_ | refine Runs.cond_nno rfl ?_ ?_); · first | omega | rfl | assumption | (simp only [List.length_map]; omega)) | ((first | refine Runs.cond_no rfl ?_ ?_ | refine Runs.cond_nyes rfl ?_ ?_); · first | omega | rfl | assumption | (simp only [List.length_map]; omega)) | refine Runs.cond_dec rfl (fun h => ?_) (fun h => ?_) | refine Runs.cond_ndec rfl (fun h => ?_) (fun h => ?_) | refine Runs.cond_nb rfl (fun h => ?_) (fun h => ?_) | refine Runs.cond_b rfl (fun h => ?_) (fun h => ?_) | refine Runs.ret (ends_ro hm rfl rfl ?_) | exact Runs.ret (ends_cellR hm rfl rfl rfl (Nat.le_of_ble_eq_true rfl) rfl rfl))
 | refine op_box rfl (tl hn rfl) ?_
 | refine op_storeF rfl rfl rfl rfl (Nat.le_of_ble_eq_true rfl) ?_
 | refine op_alloc (tl hn rfl) ?_
 | refine op_storeN rfl rfl rfl rfl (Nat.le_of_ble_eq_true rfl) ?_
 | (refine RunsL.pe hn rfl rfl rfl ?_; first
 | refine ⟨_, pu_add rfl rfl (by omega), ?_⟩
 | refine ⟨_, pu_indexAddr_map rfl rfl (by omega) (by assumption), ?_⟩
 | refine ⟨_, pu_sub rfl rfl (by omega), ?_⟩
 | refine ⟨_, pu_pick_b rfl rfl rfl, ?_⟩
 | refine ⟨_, pu_mul rfl rfl (by omega), ?_⟩
 | refine ⟨_, pu_build rfl rfl rfl rfl rfl rfl, ?_⟩))
    all_goals refine Runs.ctls 30 rfl ?_
    all_goals exact Runs.ret (ends_mch (i := 2) (a := 3) (b := 4) hm rfl rfl rfl rfl rfl (by decide) rfl)
def mRo (m : Mch) : List AV := [.ro (.int m.pc), .ro (.int m.register), .ro (intsR m.stack), .ro (intsR m.sums), .ro (.int m.left), .ro (.bool m.started), .ro (.bool m.escaped), .ro (.int m.state), .ro (.int m.code), .ro (.int m.read)]
def mO4 (p : Prg) (m q : Mch) : List Ob := [⟨34, 0, [.ro (inssR p.code), .ro (intsR p.entries)]⟩, ⟨30, 0, mRo m⟩,
  ⟨30, 0, [.int 0, .int 0, .nil, .nil, .int 0, .bool false, .bool false, .int 0, .int 0, .int 0]⟩, ⟨30, 0, mRo q⟩]
set_option maxHeartbeats 16000000 in
theorem spec_FeedBytes (p : Prg) (m : Mch) (l : List UInt8) (hB : PrgB p) (hm0 : MLen m) (hl : l.length ≤ 1048576) : ACv Try.prog 27 [prgR p, mchR m, bytesR l] (mchR (feedL p (fitB p) m l)) := by
  have hc := hB.code
  have hll : (l.map fun z => [RV.u8 z]).length = l.length := List.length_map ..
  have hC := (l17Copy_ac m hm0).shut (r := mchR m) (by rintro _ rfl; exact seals_mch _)
  refine ac_enter Try.func27 rfl _ Try.ntmps27 (by simp) fun C hn hm => ?_
  repeat' (first
 | refine RunsL.step tabOk hn rfl ?_
 | refine RunsL.nil ?_
 | refine Runs.toRegion 30 rfl ?_
 | ((first | refine RunsL.pe hn rfl rfl rfl ?_ | refine RunsD.pe rfl rfl ?_); first
 | refine ⟨_, pu_callR hC rfl, ?_⟩)
 | (refine Runs.ctls 30 rfl ?_; first | refine Runs.cond_t rfl ?_ | refine Runs.cond_f rfl ?_ | ((first | refine Runs.cond_yes rfl ?_ ?_ | refine Runs.cond_nno rfl ?_ ?_); · first | omega | rfl | assumption | (simp only [List.length_map]; omega)) | ((first | refine Runs.cond_no rfl ?_ ?_ | refine Runs.cond_nyes rfl ?_ ?_); · first | omega | rfl | assumption | (simp only [List.length_map]; omega)) | refine Runs.cond_dec rfl (fun h => ?_) (fun h => ?_) | refine Runs.cond_ndec rfl (fun h => ?_) (fun h => ?_) | refine Runs.cond_nb rfl (fun h => ?_) (fun h => ?_) | refine Runs.cond_b rfl (fun h => ?_) (fun h => ?_) | refine Runs.ret (ends_ro hm rfl rfl ?_) | exact Runs.ret (ends_cellR hm rfl rfl rfl (Nat.le_of_ble_eq_true rfl) rfl rfl))
 | refine op_box rfl (tl hn rfl) ?_
 | refine op_storeF rfl rfl rfl rfl (Nat.le_of_ble_eq_true rfl) ?_
 | refine op_alloc (tl hn rfl) ?_
 | refine op_storeN rfl rfl rfl rfl (Nat.le_of_ble_eq_true rfl) ?_
 | refine RunsD.step tabOk hn rfl rfl ?_
 | refine RunsD.nil ?_
 | refine Runs.toDraw 30 mixed hn rfl (by kernel_rfl) rfl ?_
 | ((first | refine RunsL.pe hn rfl rfl rfl ?_ | refine RunsD.pe rfl rfl ?_); first
 | refine ⟨_, pu_add rfl rfl (by omega), ?_⟩
 | refine ⟨_, pu_indexAddr_map rfl rfl (by omega) (by assumption), ?_⟩
 | refine ⟨_, pu_sub rfl rfl (by omega), ?_⟩
 | refine ⟨_, pu_pick_b rfl rfl rfl, ?_⟩
 | refine ⟨_, pu_mul rfl rfl (by omega), ?_⟩
 | refine ⟨_, pu_build rfl rfl rfl rfl rfl rfl, ?_⟩))
  refine Runs.loopN 30 rfl (fun j => [(2, .ro (bytesR l)), (3, .obj 0 0), (6, .obj 2 0), (7, .obj 3 0), (8, .int (j : Int))]) (fun j => mO4 p m (feedL p (fitB p) m (l.take j))) (fun _ => True) l.length 0 (Nat.zero_le _) trivial ⟨rfl, rfl, rfl, rfl, rfl, trivial⟩ rfl fun j hj _ next => ?_
  by_cases hlt : j < l.length
  · obtain ⟨x, hx⟩ : ∃ x, l[(j : Int).toNat]? = some x := ⟨_, List.getElem?_eq_getElem hlt⟩
    have hx' : l[j]? = some x := hx
    have hnx := feedL_next (p := p) (f := fitB p) (m := m) hx'
    have hL := feedL_len (p := p) (f := fitB p) (l.take j) hm0
    generalize feedL p (fitB p) m (l.take j) = q at hnx hL ⊢
    have hA := (spec_FeedByte p q (x.toNat : Int) hB hL).shut (r := mchR (mFeedB p (fitB p) q (x.toNat : Int))) (by rintro _ rfl; exact seals_mch _)
    rw [show mFeedB p (fitB p) q (x.toNat : Int) = mFeed p (fitB p) q (x.toNat : Int) from by unfold mFeedB; rw [if_pos (by have := x.toNat_lt; unfold InR; omega)]] at hA
    repeat' (first
 | refine Runs.toDrawT (id := 5) 30 [] [0, 1, 2, 3, 4, 5, 6, 7] 8 [] mixed hn rfl (by kernel_rfl) rfl .nil (by decide) (by decide) (by decide) ?_
 | refine RunsT.pur (fun _ => pu_ofU8 rfl) (by decide) rfl rfl ?_
 | refine RunsT.nil ?_
 | refine RunsT.step tabOk rfl rfl (fun _ => rfl) (by decide) ?_
 | refine RunsT.pur (fun _ => pu_callR hA rfl) (by decide) rfl rfl ?_
 | refine RunsT.pur (fun _ => pu_add rfl rfl (by omega)) (by decide) rfl rfl ?_
 | refine RunsT.pur (fun _ => pu_indexAddr_map rfl rfl (by omega) (by assumption)) (by decide) rfl rfl ?_
 | refine RunsT.alloc (p := 0) rfl inferInstance ?_
 | refine RunsT.alloc (p := 1) rfl inferInstance ?_
 | ((first | refine RunsL.pe hn rfl rfl rfl ?_ | refine RunsD.pe rfl rfl ?_); first
 | refine ⟨_, pu_ofU8 rfl, ?_⟩)
 | refine RunsL.step tabOk hn rfl ?_
 | refine RunsL.nil ?_
 | refine Runs.toRegion 30 rfl ?_
 | ((first | refine RunsL.pe hn rfl rfl rfl ?_ | refine RunsD.pe rfl rfl ?_); first
 | refine ⟨_, pu_callR hA rfl, ?_⟩)
 | (refine Runs.ctls 30 rfl ?_; first | refine Runs.cond_t rfl ?_ | refine Runs.cond_f rfl ?_ | ((first | refine Runs.cond_yes rfl ?_ ?_ | refine Runs.cond_nno rfl ?_ ?_); · first | omega | rfl | assumption | (simp only [List.length_map]; omega)) | ((first | refine Runs.cond_no rfl ?_ ?_ | refine Runs.cond_nyes rfl ?_ ?_); · first | omega | rfl | assumption | (simp only [List.length_map]; omega)) | refine Runs.cond_dec rfl (fun h => ?_) (fun h => ?_) | refine Runs.cond_ndec rfl (fun h => ?_) (fun h => ?_) | refine Runs.cond_nb rfl (fun h => ?_) (fun h => ?_) | refine Runs.cond_b rfl (fun h => ?_) (fun h => ?_) | refine Runs.ret (ends_ro hm rfl rfl ?_) | exact Runs.ret (ends_cellR hm rfl rfl rfl (Nat.le_of_ble_eq_true rfl) rfl rfl))
 | refine op_box rfl (tl hn rfl) ?_
 | refine op_storeF rfl rfl rfl rfl (Nat.le_of_ble_eq_true rfl) ?_
 | refine op_alloc (tl hn rfl) ?_
 | refine op_storeN rfl rfl rfl rfl (Nat.le_of_ble_eq_true rfl) ?_
 | refine RunsD.step tabOk hn rfl rfl ?_
 | refine RunsD.nil ?_
 | refine Runs.toDraw 30 mixed hn rfl (by kernel_rfl) rfl ?_
 | ((first | refine RunsL.pe hn rfl rfl rfl ?_ | refine RunsD.pe rfl rfl ?_); first
 | refine ⟨_, pu_add rfl rfl (by omega), ?_⟩
 | refine ⟨_, pu_indexAddr_map rfl rfl (by omega) (by assumption), ?_⟩
 | refine ⟨_, pu_sub rfl rfl (by omega), ?_⟩
 | refine ⟨_, pu_pick_b rfl rfl rfl, ?_⟩
 | refine ⟨_, pu_mul rfl rfl (by omega), ?_⟩
 | refine ⟨_, pu_build rfl rfl rfl rfl rfl rfl, ?_⟩))
    refine next _ _ ⟨rfl, rfl, rfl, rfl, rfl, trivial⟩ hlt trivial ?_
    rw [hnx]
    rfl
  · obtain rfl : j = l.length := by omega
    rw [List.take_length]
    repeat' (first
 | refine RunsL.step tabOk hn rfl ?_
 | refine RunsL.nil ?_
 | refine Runs.toRegion 30 rfl ?_
 | (refine Runs.ctls 30 rfl ?_; first | refine Runs.cond_t rfl ?_ | refine Runs.cond_f rfl ?_ | ((first | refine Runs.cond_yes rfl ?_ ?_ | refine Runs.cond_nno rfl ?_ ?_); · first | omega | rfl | assumption | (simp only [List.length_map]; omega)) | ((first | refine Runs.cond_no rfl ?_ ?_ | refine Runs.cond_nyes rfl ?_ ?_); · first | omega | rfl | assumption | (simp only [List.length_map]; omega)) | refine Runs.cond_dec rfl (fun h => ?_) (fun h => ?_) | refine Runs.cond_ndec rfl (fun h => ?_) (fun h => ?_) | refine Runs.cond_nb rfl (fun h => ?_) (fun h => ?_) | refine Runs.cond_b rfl (fun h => ?_) (fun h => ?_) | refine Runs.ret (ends_ro hm rfl rfl ?_) | exact Runs.ret (ends_cellR hm rfl rfl rfl (Nat.le_of_ble_eq_true rfl) rfl rfl))
 | refine op_box rfl (tl hn rfl) ?_
 | refine op_storeF rfl rfl rfl rfl (Nat.le_of_ble_eq_true rfl) ?_
 | refine op_alloc (tl hn rfl) ?_
 | refine op_storeN rfl rfl rfl rfl (Nat.le_of_ble_eq_true rfl) ?_
 | refine RunsD.step tabOk hn rfl rfl ?_
 | refine RunsD.nil ?_
 | refine Runs.toDraw 30 mixed hn rfl (by kernel_rfl) rfl ?_
 | ((first | refine RunsL.pe hn rfl rfl rfl ?_ | refine RunsD.pe rfl rfl ?_); first
 | refine ⟨_, pu_add rfl rfl (by omega), ?_⟩
 | refine ⟨_, pu_indexAddr_map rfl rfl (by omega) (by assumption), ?_⟩
 | refine ⟨_, pu_sub rfl rfl (by omega), ?_⟩
 | refine ⟨_, pu_pick_b rfl rfl rfl, ?_⟩
 | refine ⟨_, pu_mul rfl rfl (by omega), ?_⟩
 | refine ⟨_, pu_build rfl rfl rfl rfl rfl rfl, ?_⟩))
set_option maxHeartbeats 8000000 in
theorem spec_FinishMachine (p : Prg) (m : Mch) (hB : PrgB p) (hm0 : MLen m) : AC Try.prog 19 [prgR p, mchR m] fun rr => rr = .tup [mchRR (mAdv p (fitB p) m), .ro (.int (mFin (mAdv p (fitB p) m)))] := by
  have hA := spec_AdvanceMachine p m hB hm0
  refine ac_enter Try.func19 rfl _ Try.ntmps19 (by simp) fun C hn hm => ?_
  repeat' (first
 | refine Runs.toPerm (id := 7) 30 [[0, 1, 2, 3, 4], [0, 1, 3, 2, 4], [0, 3, 1, 2, 4], [1, 0, 2, 3, 4], [1, 0, 3, 2, 4], [1, 2, 0, 3, 4]] mixed rfl (by kernel_rfl) (by kernel_rfl) (by kernel_rfl) ⟨?_, ?_, ?_, ?_, ?_, ?_, trivial⟩
 | refine op_callOR hA rfl (tl hn rfl) ?_
 | refine RunsL.step tabOk hn rfl ?_
 | refine RunsL.nil ?_
 | refine Runs.toRegion 30 rfl ?_
 | (refine Runs.ctls 30 rfl ?_; first | refine Runs.cond_t rfl ?_ | refine Runs.cond_f rfl ?_ | ((first | refine Runs.cond_yes rfl ?_ ?_ | refine Runs.cond_nno rfl ?_ ?_); · first | omega | rfl | assumption | (simp only [List.length_map]; omega)) | ((first | refine Runs.cond_no rfl ?_ ?_ | refine Runs.cond_nyes rfl ?_ ?_); · first | omega | rfl | assumption | (simp only [List.length_map]; omega)) | refine Runs.cond_dec rfl (fun h => ?_) (fun h => ?_) | refine Runs.cond_ndec rfl (fun h => ?_) (fun h => ?_) | refine Runs.cond_nb rfl (fun h => ?_) (fun h => ?_) | refine Runs.cond_b rfl (fun h => ?_) (fun h => ?_) | refine Runs.ret (ends_ro hm rfl rfl ?_) | exact Runs.ret (ends_cellR hm rfl rfl rfl (Nat.le_of_ble_eq_true rfl) rfl rfl))
 | refine op_box rfl (tl hn rfl) ?_
 | refine op_storeF rfl rfl rfl rfl (Nat.le_of_ble_eq_true rfl) ?_
 | refine op_alloc (tl hn rfl) ?_
 | refine op_storeN rfl rfl rfl rfl (Nat.le_of_ble_eq_true rfl) ?_
 | refine RunsD.step tabOk hn rfl rfl ?_
 | refine RunsD.nil ?_
 | refine Runs.toDraw 30 mixed hn rfl (by kernel_rfl) rfl ?_
 | ((first | refine RunsL.pe hn rfl rfl rfl ?_ | refine RunsD.pe rfl rfl ?_); first
 | refine ⟨_, pu_add rfl rfl (by omega), ?_⟩
 | refine ⟨_, pu_indexAddr_map rfl rfl (by omega) (by assumption), ?_⟩
 | refine ⟨_, pu_sub rfl rfl (by omega), ?_⟩
 | refine ⟨_, pu_pick_b rfl rfl rfl, ?_⟩
 | refine ⟨_, pu_mul rfl rfl (by omega), ?_⟩
 | refine ⟨_, pu_build rfl rfl rfl rfl rfl rfl, ?_⟩))
  all_goals refine Runs.ctls 30 rfl ?_
  · exact Runs.ret (ends_mch2 (i := 2) (a := 3) (b := 4) hm rfl rfl rfl rfl rfl (by decide) rfl (by unfold mFin; rw [if_pos (by assumption)]))
  · exact Runs.ret (ends_mch2 (i := 2) (a := 3) (b := 4) hm rfl rfl rfl rfl rfl (by decide) rfl (by unfold mFin; rw [if_neg (by assumption), if_pos (by assumption)]))
  all_goals exact Runs.ret (ends_mch2 (i := 2) (a := 3) (b := 4) hm rfl rfl rfl rfl rfl (by decide) rfl (by unfold mFin; rw [if_neg (by assumption), if_neg (by assumption)]))
end Go.Proofs.Ytkhnijggbfoimaa
/- Regions that draw their order, with some operations that look at operands alone and may come late. Over any program. -/
namespace Go.Proofs.Ytkhnijggbfoimaa
set_option linter.unusedSimpArgs false
set_option linter.unusedVariables false
open Go.RowKit
open AV (Mem Keeps)
/-! ### An operation that looks at operands alone. -/
section
variable {P : Program} {md : Region.Mode} {ops : Array Oper}
def YA (P : Program) (ops : Array Oper) (o : Oper) (v : Value) (a : Act) : Prop := Region.wanted o (yielded ops a.tmps) = true ∧ ∀ w, (execOp a.eval o).run P w = .ok (.value v) w
theorem YA.put {oi oj : Oper} {v u : Value} {a : Act} (hsi : ∀ cs b, oi.op ≠ .select cs b) (h3 : ∀ d, oj.dst = some d → d ∉ oi.looksAt ops) (h : YA P ops oi v a) : YA P ops oi v (a.put oj.dst u) :=
  ⟨by rw [wanted_put oi a oj.dst u h3]; exact h.1, fun w => by rw [execOp_put oi hsi a oj.dst u h3]; exact h.2 w⟩
theorem wpOp_ya {F : Act → World → Prop} {j : Nat} {oi oj : Oper} {v : Value} (hj : ops[j]? = some oj) (hap : oi.apart ops oj = true) (hsi : ∀ cs b, oi.op ≠ .select cs b) (hsj : ∀ cs b, oj.op ≠ .select cs b) {K K' : Act → World → Prop} {a : Act} {w : World} (hy : YA P ops oi v a)
    (h : wpOp P ops (nrm F) j K' (a.put oi.dst v) w) (hK : ∀ a' w', YA P ops oi v a' → K' (a'.put oi.dst v) w' → K a' w') : wpOp P ops (nrm F) j K a w := by
  obtain ⟨h1, h2, h3⟩ := Oper.apart_spec hap
  unfold wpOp at *
  simp only [hj] at *
  rw [wanted_put oj a oi.dst _ h1] at h
  have key : ∀ u w', K' ((a.put oi.dst v).put oj.dst u) w' → K (a.put oj.dst u) w' := fun u w' hk => hK _ _ (hy.put hsi h3) (by rwa [← Act.put_comm a v u h2])
  split
  · rename_i hw
    simp only [hw, if_true] at h
    refine h.imp (fun h => ?_) (fun h => ⟨?_, h.2⟩)
    · unfold Oper.wp at *
      rw [execOp_put oj hsj a oi.dst _ h1] at h
      generalize (execOp a.eval oj).run P w = r at *
      cases r with
      | ok n w' =>
        cases n with
        | value u => exact key u w' h
        | skip => exact key undef w' h
        | enter f args => exact Calls.mono h (fun e w'' he => by cases e <;> first | exact key _ w'' he | exact he | exact he.elim)
        | row r args => exact Rows.mono h fun v w'' he => key v w'' he
        | defer d =>
          simp only [Oper.upon] at h ⊢
          have e : ({ a.put oi.dst v with defers := d :: (a.put oi.dst v).defers } : Act).put oj.dst undef = (({ a with defers := d :: a.defers } : Act).put oj.dst undef).put oi.dst v := by
            have := Act.put_comm ({ a with defers := d :: a.defers } : Act) v undef h2
            rw [← this]
            cases oi.dst <;> rfl
          rw [e] at h
          refine hK _ _ ?_ h
          have hy' : YA P ops oi v ({ a with defers := d :: a.defers } : Act) := hy
          exact hy'.put hsi h3
        | _ => exact h
      | halt x w' => cases x <;> exact h
    · have := h.1
      unfold Oper.asks at this ⊢
      rwa [execOp_put oj hsj a oi.dst _ h1] at this
  · rename_i hw
    simp only [hw] at h
    exact key undef w h
theorem wpAny_ya {F : Act → World → Prop} {i : Nat} {oi : Oper} {v : Value} (hi : ops[i]? = some oi) (hsel : ∀ (j : Nat) (o : Oper) cs b, ops[j]? = some o → o.op ≠ .select cs b) :
    ∀ (fuel : Nat) (listed : Array Bool) (a : Act) (w : World), YA P ops oi v a →
      (∀ j oj, ops[j]? = some oj → j ≠ i → listed.getD j true = false → (∀ e ∈ oj.after, Region.binds md e = true → e.on ≠ i) → oi.apart ops oj = true) →
      i ∈ Region.ready md ops listed →
      wpAny P md ops (nrm F) fuel (listed.setIfInBounds i true) (a.put oi.dst v) w → wpAny P md ops (nrm F) (fuel + 1) listed a w := by
  have own : ∀ {K : Act → World → Prop} {a : Act} {w : World}, YA P ops oi v a → K (a.put oi.dst v) w → wpOp P ops (nrm F) i K a w := by
    intro K a w hy h
    unfold wpOp
    simp only [hi]
    rw [if_pos hy.1]
    refine .inl ?_
    unfold Oper.wp
    rw [hy.2 w]
    exact h
  intro fuel
  induction fuel with
  | zero =>
    intro listed a w hy _ hr H
    refine ⟨fun h => (by rw [h] at hr; cases hr), fun j hj => ?_⟩
    by_cases hji : j = i
    · subst hji; exact own hy H
    · have := ready_mono hj hji
      rw [H.1] at this
      cases this
  | succ fuel ih =>
    intro listed a w hy hfree hr H
    refine ⟨fun h => (by rw [h] at hr; cases hr), fun j hj => ?_⟩
    by_cases hji : j = i
    · subst hji; exact own hy H
    · have h1 := H.2 j (ready_mono hj hji)
      obtain ⟨hjun, oj, hoj, hall⟩ := mem_ready.1 hj
      have hnot : ∀ e ∈ oj.after, Region.binds md e = true → e.on ≠ i := fun e he hb heq => by
        have h1 := hall e he hb
        have h0 := (mem_ready.1 hr).1
        rw [heq, getD_both h0] at h1
        cases h1
      have hfree' : ∀ k ok, ops[k]? = some ok → k ≠ i → (listed.setIfInBounds j true).getD k true = false →
          (∀ e ∈ ok.after, Region.binds md e = true → e.on ≠ i) → oi.apart ops ok = true := fun k ok hk hki hun hno => by
        refine hfree k ok hk hki ?_ hno
        by_cases hjk : j = k
        · subst hjk; exact hjun
        · rw [getD_set_ne true hjk] at hun; exact hun
      refine wpOp_ya hoj (hfree j oj hoj hji hjun hnot) (fun cs b => hsel i oi cs b hi) (fun cs b => hsel j oj cs b hoj) hy h1 fun a' w' hy' h3 => ih (listed.setIfInBounds j true) a' w' hy' hfree' (ready_mono hr (Ne.symm hji)) ?_
      rw [Array.setIfInBounds_comm _ _ hji]
      exact h3
def isMv (o : Oper) : Bool := match o with
  | ⟨some _, .move _, _, _, _, none⟩ => true
  | ⟨some _, .extract _ _, _, _, _, none⟩ => true
  | _ => false
/-- Such an operation yields a value whatever the world, or none at all. -/
theorem isMv_ya {o : Oper} (h : isMv o = true) (a : Act) : (∃ u, YA P ops o u a) ∨ ∀ w x w', (execOp a.eval o).run P w ≠ .ok x w' ∧ ∀ v, (execOp a.eval o).run P w ≠ .halt (.panic v) w' := by
  obtain ⟨dst, op, ty, pos, after, g⟩ := o
  unfold isMv at h
  split at h
  · rename_i he; injection he with e1 e2 e3 e4 e5 e6; subst e1; subst e2; subst e6
    exact .inl ⟨_, by simp [Region.wanted], fun w => by simp [execOp]; rfl⟩
  · rename_i t x j _ _ _ he; injection he with e1 e2 e3 e4 e5 e6; subst e1; subst e2; subst e6
    cases hx : a.eval x with
    | tuple vs =>
      cases hv : vs[j]? with
      | some u => exact .inl ⟨u, by simp [Region.wanted], fun w => by simp [execOp, Instr.extract, hx, hv]⟩
      | none => exact .inr fun w x w' => by simp [execOp, Instr.extract, hx, hv, stuck]
    | _ => exact .inr fun w x w' => by simp [execOp, Instr.extract, hx, stuck]
  · cases h
end
/-! ### Any order, abstractly. -/
def backB (md : Region.Mode) (ops : Array Oper) (e : Nat) : Bool := match ops[e]? with
  | some o => o.after.all fun ed => !Region.binds md ed || decide (ed.on < e)
  | none => false
def sinkQ (md : Region.Mode) (ops : Array Oper) (pri : List Nat) (n : Nat) : Bool :=
  (List.range n).all fun i => (pri.contains i && backB md ops i) || (!pri.contains i && (List.range (n + 1)).any fun j => decide (i < j) && (decide (j = n) || !pri.contains j) && Region.waitsFor md ops j i)
def freeAll (md : Region.Mode) (ops : Array Oper) (e : Nat) : Bool := match ops[e]? with
  | some o => isMv o && (List.range ops.size).all fun j => decide (j = e) || Region.waitsFor md ops j e || Region.waitsFor md ops e j || match ops[j]? with
    | some oj => o.apart ops oj
    | none => true
  | none => false
theorem freeAll_spec {md : Region.Mode} {ops : Array Oper} {e : Nat} {oe : Oper} (he : ops[e]? = some oe) (h : freeAll md ops e = true) : isMv oe = true ∧ ∀ j oj, ops[j]? = some oj → j ≠ e → (∀ ed ∈ oj.after, Region.binds md ed = true → ed.on ≠ e) → (∀ ed ∈ oe.after, Region.binds md ed = true → ed.on ≠ j) → oe.apart ops oj = true := by
  unfold freeAll at h
  rw [he] at h
  simp only [Bool.and_eq_true] at h
  refine ⟨h.1, fun j oj hj hje hno hno' => ?_⟩
  have hjl : j < ops.size := (Array.getElem?_eq_some_iff.1 hj).1
  have := List.all_eq_true.1 h.2 j (List.mem_range.2 hjl)
  rw [hj] at this
  simp only [Bool.or_eq_true, decide_eq_true_eq] at this
  rcases this with ((h1 | h1) | h1) | h1
  · exact absurd h1 hje
  · obtain ⟨o', ho', ed, hed, hb, hon⟩ := Region.waitsFor_spec h1
    have : o' = oj := Option.some.inj (ho'.symm.trans hj)
    subst this
    exact absurd hon (hno ed hed hb)
  · obtain ⟨o', ho', ed, hed, hb, hon⟩ := Region.waitsFor_spec h1
    have : o' = oe := Option.some.inj (ho'.symm.trans he)
    subst this
    exact absurd hon (hno' ed hed hb)
  · exact h1
section
variable {P : Program} {C : Ctx} {ops : Array Oper} {σ : List Ob} {md : Region.Mode} {rs : Res} {pri : List Nat}
def wpAnyQ (P : Program) (C : Ctx) (md : Region.Mode) (ops : Array Oper) (σ : List Ob) (rs : Res) (pri : List Nat) (n : Nat) (L : Array Bool → EE → Prop) : Nat → Array Bool → EE → Prop
  | 0, listed, E => L listed E
  | f + 1, listed, E => (∃ e ∈ pri, e ∈ Region.ready md ops listed ∧ e < n ∧ aOpR P C ops σ rs e (wpAnyQ P C md ops σ rs pri n L f (listed.setIfInBounds e true)) E) ∨
      ((∀ e ∈ pri, e ∉ Region.ready md ops listed) ∧ Region.ready md ops listed ≠ [] ∧ ∀ i ∈ Region.ready md ops listed, i < n ∧ aOpR P C ops σ rs i (wpAnyQ P C md ops σ rs pri n L f (listed.setIfInBounds i true)) E)
theorem notready {listed : Array Bool} {e : Nat} {o : Oper} (he : ops[e]? = some o) (hun : listed.getD e true = false) (h : e ∉ Region.ready md ops listed) : ∃ ed ∈ o.after, Region.binds md ed = true ∧ listed.getD ed.on false = false := by
  apply Classical.byContradiction
  intro hno
  refine h (mem_ready.2 ⟨hun, o, he, fun ed hed hb => ?_⟩)
  cases hl : listed.getD ed.on false with
  | true => rfl
  | false => exact absurd ⟨ed, hed, hb, hl⟩ hno
theorem unlisted_plain {n : Nat} {listed : Array Bool} (hs : sinkQ md ops pri n = true) (hn : n < ops.size) (hsz : listed.size = ops.size) (hno : ∀ e ∈ pri, e ∉ Region.ready md ops listed) :
    ∀ i, i < n → listed.getD i true = false → ∃ i', i' < n ∧ listed.getD i' true = false ∧ pri.contains i' = false := by
  intro i
  induction i using Nat.strongRecOn with
  | _ i ih =>
    intro hi hun
    have h1 := List.all_eq_true.1 hs i (List.mem_range.2 hi)
    rw [Bool.or_eq_true, Bool.and_eq_true, Bool.and_eq_true, Bool.not_eq_true'] at h1
    rcases h1 with ⟨hp, hb⟩ | ⟨hp, _⟩
    · have hmem : i ∈ pri := by simpa using hp
      obtain ⟨o, ho⟩ : ∃ o, ops[i]? = some o := ⟨_, Array.getElem?_eq_getElem (by omega)⟩
      obtain ⟨ed, hed, hbi, hl⟩ := notready ho hun (hno i hmem)
      unfold backB at hb
      rw [ho] at hb
      have := Array.all_eq_true'.1 hb ed hed
      rw [hbi] at this
      simp only [Bool.not_true, Bool.false_or, decide_eq_true_eq] at this
      exact ih ed.on this (by omega) (getD_in (by rw [hsz]; omega) hl)
    · exact ⟨i, hi, hun, hp⟩
theorem tail_waitsQ {n : Nat} {listed : Array Bool} (hs : sinkQ md ops pri n = true) (hc : Region.chainB md ops n = true) (hn : n < ops.size) (inv : HeadInv md ops n listed) (hno : ∀ e ∈ pri, e ∉ Region.ready md ops listed) {i : Nat} (hi : i < n) (hun : listed.getD i true = false) :
    ∀ t, n ≤ t → t ∉ Region.ready md ops listed := by
  obtain ⟨i0, hi0, hun0, hp0⟩ := unlisted_plain hs hn inv.size hno i hi hun
  have key : ∀ (d i : Nat), n - i = d → i < n → listed.getD i true = false → pri.contains i = false → n ∉ Region.ready md ops listed := by
    intro d
    induction d using Nat.strongRecOn with
    | _ d ih =>
      intro i hd hi hun hp hr
      obtain ⟨_, ot, hot, hall⟩ := mem_ready.1 hr
      have h1 := List.all_eq_true.1 hs i (List.mem_range.2 hi)
      rw [hp] at h1
      simp only [Bool.false_and, Bool.false_or, Bool.not_false, Bool.true_and] at h1
      obtain ⟨j, hj, hj2⟩ := List.any_eq_true.1 h1
      simp only [Bool.and_eq_true, Bool.or_eq_true, decide_eq_true_eq, Bool.not_eq_true'] at hj2
      obtain ⟨⟨hij, hjp⟩, hw⟩ := hj2
      obtain ⟨oj, hoj, e, he, hb, hon⟩ := Region.waitsFor_spec hw
      have hjle : j ≤ n := by have := List.mem_range.1 hj; omega
      by_cases hjt : j = n
      · subst hjt
        have : oj = ot := Option.some.inj (hoj.symm.trans hot)
        subst this
        have h2 := hall e he hb
        rw [hon, getD_both hun] at h2
        cases h2
      · have hjp' : pri.contains j = false := hjp.resolve_left hjt
        cases hl : listed.getD j false with
        | true =>
          have h2 := inv.closed j oj hoj hl e he hb
          rw [hon, getD_both hun] at h2
          cases h2
        | false =>
          have hjs : j < listed.size := by rw [inv.size]; omega
          exact ih (n - j) (by omega) j rfl (by omega) (getD_in hjs hl) hjp' hr
  intro t ht hr
  obtain ⟨_, ot, hot, hall⟩ := mem_ready.1 hr
  have htlt : t < ops.size := (Array.getElem?_eq_some_iff.1 hot).1
  by_cases htn : t = n
  · subst htn; exact key _ i0 rfl hi0 hun0 hp0 hr
  · have h1 := List.all_eq_true.1 hc t (List.mem_range.2 htlt)
    simp only [Bool.or_eq_true, decide_eq_true_eq] at h1
    rcases h1 with h1 | h1
    · omega
    · obtain ⟨o', ho', e, he, hb, hon⟩ := Region.waitsFor_spec h1
      have : o' = ot := Option.some.inj (ho'.symm.trans hot)
      subst this
      have h2 := hall e he hb
      rw [hon, getD_both (inv.tail (t - 1) (by omega) (by omega))] at h2
      cases h2
theorem not_waits {listed : Array Bool} {i j : Nat} {oj : Oper} (hi : i ∈ Region.ready md ops listed) (hj : j ∈ Region.ready md ops listed) (hoj : ops[j]? = some oj) : ∀ e ∈ oj.after, Region.binds md e = true → e.on ≠ i := fun e he hb heq => by
  obtain ⟨_, o', ho', hall⟩ := mem_ready.1 hj
  have : o' = oj := Option.some.inj (ho'.symm.trans hoj)
  subst this
  have h1 := hall e he hb
  rw [heq, getD_both (mem_ready.1 hi).1] at h1
  cases h1
theorem Q_any {n : Nat} {L : Array Bool → EE → Prop} (hpri : ∀ e ∈ pri, freeAll md ops e = true) (hdone : ∀ listed E, L listed E → ∀ j ∈ Region.ready md ops listed, n ≤ j) :
    ∀ (f : Nat) (listed : Array Bool) (E : EE), wpAnyQ P C md ops σ rs pri n L f listed E → ∀ j ∈ Region.ready md ops listed, j < n → ∃ f', f = f' + 1 ∧ aOpR P C ops σ rs j (wpAnyQ P C md ops σ rs pri n L f' (listed.setIfInBounds j true)) E
  | 0, listed, E, h, j, hj, hjn => by have := hdone _ _ h j hj; omega
  | f + 1, listed, E, h, j, hj, hjn => by
    rcases h with ⟨e, he, her, hen, o, v, ho, hy, hK⟩ | ⟨_, _, h⟩
    · by_cases hej : e = j
      · subst hej; exact ⟨f, rfl, o, v, ho, hy, hK⟩
      · obtain ⟨f', rfl, h2⟩ := Q_any hpri hdone f _ _ hK j (ready_mono hj (Ne.symm hej)) hjn
        refine ⟨f' + 1, rfl, ?_⟩
        obtain ⟨_, oj, hoj, _⟩ := mem_ready.1 hj
        have hap := (freeAll_spec ho (hpri e he)).2 j oj hoj (Ne.symm hej) (not_waits her hj hoj) (not_waits hj her ho)
        refine aOpR_mono (fun E' h3 => .inl ⟨e, he, ready_mono her hej, hen, o, v, ho, h3.1, ?_⟩) (aOpR_put hoj hap hy h2)
        rw [Array.setIfInBounds_comm _ _ (Ne.symm hej)]
        exact h3.2
    · exact ⟨f, rfl, (h j hj).2⟩
theorem Q_first {n i : Nat} {oi : Oper} {v : AV} {L : Array Bool → EE → Prop} (hi : ops[i]? = some oi) (hpri : ∀ e ∈ pri, freeAll md ops e = true)
    (hs : sinkQ md ops pri n = true) (hc : Region.chainB md ops n = true) (hn : n < ops.size) (hin : i < n) (hpn : ∀ e ∈ pri, e < n)
    (hdone : ∀ listed E, L listed E → ∀ j ∈ Region.ready md ops listed, n ≤ j) :
    ∀ (f : Nat) (listed : Array Bool) (E : EE), HeadInv md ops n listed →
      (∀ j oj, ops[j]? = some oj → j ≠ i → listed.getD j true = false → (∀ e ∈ oj.after, Region.binds md e = true → e.on ≠ i) → oi.apart ops oj = true) →
      i ∈ Region.ready md ops listed → YF P C ops σ rs i oi v E →
      wpAnyQ P C md ops σ rs pri n L f (listed.setIfInBounds i true) (putE E oi.dst v) → wpAnyQ P C md ops σ rs pri n L (f + 1) listed E := by
  intro f
  induction f with
  | zero =>
    intro listed E inv hfree hr hy H
    by_cases hp : i ∈ pri
    · exact .inl ⟨i, hp, hr, hin, oi, v, hi, hy, H⟩
    · have no : ∀ j ∈ Region.ready md ops listed, j < n → j = i := fun j hj hjn => by
        apply Classical.byContradiction
        intro hji
        have := hdone _ _ H j (ready_mono hj hji)
        omega
      have hnp : ∀ e ∈ pri, e ∉ Region.ready md ops listed := fun e he her => hp (no e her (hpn e he) ▸ he)
      refine .inr ⟨hnp, fun h => (by rw [h] at hr; cases hr), fun j hj => ?_⟩
      have hjn : j < n := by
        rcases Nat.lt_or_ge j n with h | h
        · exact h
        · exact absurd hj (tail_waitsQ hs hc hn inv hnp hin (mem_ready.1 hr).1 j h)
      obtain rfl := no j hj hjn
      exact ⟨hjn, oi, v, hi, hy, H⟩
  | succ f ih =>
    intro listed E inv hfree hr hy H
    by_cases hp : i ∈ pri
    · exact .inl ⟨i, hp, hr, hin, oi, v, hi, hy, H⟩
    · have step : ∀ j ∈ Region.ready md ops listed, j < n → j ≠ i → aOpR P C ops σ rs j (wpAnyQ P C md ops σ rs pri n L (f + 1) (listed.setIfInBounds j true)) E := fun j hj hjn hji => by
        obtain ⟨f', hf, h1⟩ := Q_any hpri hdone _ _ _ H j (ready_mono hj hji) hjn
        injection hf with hf
        have hf : f' = f := hf.symm
        subst hf
        obtain ⟨hjun, oj, hoj, hall⟩ := mem_ready.1 hj
        have hfree' : ∀ k ok, ops[k]? = some ok → k ≠ i → (listed.setIfInBounds j true).getD k true = false →
            (∀ e ∈ ok.after, Region.binds md e = true → e.on ≠ i) → oi.apart ops ok = true := fun k ok hk hki hun hno => by
          refine hfree k ok hk hki ?_ hno
          by_cases hjk : j = k
          · subst hjk; exact hjun
          · rw [getD_set_ne true hjk] at hun; exact hun
        refine aOpR_mono (fun E' h3 => ih (listed.setIfInBounds j true) E' (inv.set hj hjn) hfree' (ready_mono hr (Ne.symm hji)) h3.1 ?_) (aOpR_put hoj (hfree j oj hoj hji hjun (not_waits hr hj hoj)) hy h1)
        rw [Array.setIfInBounds_comm _ _ hji]
        exact h3.2
      by_cases he : ∃ e ∈ pri, e ∈ Region.ready md ops listed
      · obtain ⟨e, he, her⟩ := he
        exact .inl ⟨e, he, her, hpn e he, step e her (hpn e he) (by rintro rfl; exact hp he)⟩
      · have hnp : ∀ e ∈ pri, e ∉ Region.ready md ops listed := fun e h1 h2 => he ⟨e, h1, h2⟩
        refine .inr ⟨hnp, fun h => (by rw [h] at hr; cases hr), fun j hj => ?_⟩
        have hjn : j < n := by
          rcases Nat.lt_or_ge j n with h | h
          · exact h
          · exact absurd hj (tail_waitsQ hs hc hn inv hnp hin (mem_ready.1 hr).1 j h)
        refine ⟨hjn, ?_⟩
        by_cases hji : j = i
        · subst hji; exact ⟨oi, v, hi, hy, H⟩
        · exact step j hj hjn hji
theorem wpAnyQ_lex {n g : Nat} {Lq : EE → Prop} (hpri : ∀ e ∈ pri, freeAll md ops e = true) (hpn : ∀ e ∈ pri, e < n) (hs : sinkQ md ops pri n = true) (hc : Region.chainB md ops n = true) (hn : n < ops.size) :
    ∀ (l : List (Nat × Oper)) (listed : Array Bool) (E : EE), (∀ p ∈ l, ops[p.1]? = some p.2) → HeadInv md ops n listed →
    lexIdx md ops g n (l.map (·.1)) listed = true → wpLexR P C ops σ rs Lq l E →
    wpAnyQ P C md ops σ rs pri n (fun listed' E' => Region.seqB md ops g n listed' = true ∧ (∀ j, j < n → listed'.getD j false = true) ∧ Lq E') l.length listed E
  | [], listed, E, _, _, hB, h => by
    simp only [List.map_nil, lexIdx, Bool.and_eq_true] at hB
    exact ⟨hB.1, fun j hj => List.all_eq_true.1 hB.2 j (List.mem_range.2 hj), h⟩
  | (k, o) :: l, listed, E, hl, inv, hB, h => by
    have h0 : ops[k]? = some o := hl (k, o) (by simp)
    simp only [List.map_cons, lexIdx, Bool.and_eq_true, decide_eq_true_eq] at hB
    obtain ⟨⟨⟨hr, hf⟩, hkn⟩, hB'⟩ := hB
    have hr' : k ∈ Region.ready md ops listed := by simpa using hr
    obtain ⟨v, hy, hK⟩ := h
    exact Q_first h0 hpri hs hc hn hkn hpn (fun listed' E' hL => seqB_ready hL.1) l.length listed E inv (Region.free_spec h0 hf) hr' hy
      (wpAnyQ_lex hpri hpn hs hc hn l _ _ (fun p hp => hl p (by simp [hp])) (inv.set hr' hkn) hB' hK)
/-! ### .. and what really runs. -/
variable {listed : Array Bool} {E : EE} {a : Act} {w : World}
theorem SimR.mv {i : Nat} {o : Oper} {v : AV} (hs : SimR C σ rs listed E a w) (ho : ops[i]? = some o) (hd : ∀ t, o.dst = some t → t < C.n) (hm : isMv o = true)
    (hy : YF P C ops σ rs i o v E) : ∃ u, YA P ops o u a ∧ SimR C σ rs (listed.setIfInBounds i true) (putE E o.dst v) (a.put o.dst u) w := by
  obtain ⟨s1, s2, φ, hG, hφ, hE⟩ := hs
  obtain ⟨dst, op, ty, pos, after, g⟩ := o
  obtain ⟨t, rfl, rfl⟩ : ∃ t, dst = some t ∧ g = none := by
    unfold isMv at hm
    split at hm
    · rename_i he; injection he with e1 e2 e3 e4 e5 e6; exact ⟨_, e1, e6⟩
    · rename_i he; injection he with e1 e2 e3 e4 e5 e6; exact ⟨_, e1, e6⟩
    · cases hm
  have htn := hd t rfl
  rcases hy with ⟨h0, ⟨hg, hv⟩ | ⟨hg, _⟩⟩ | ⟨p, e, zs, hp, hop, _⟩
  · have hwp := hv (res rs listed) a ⟨w, φ, σ ++ res rs listed, C.ok⟩ hG rfl (fun x _ => ev_evE' hE x) (fun a' w' => ∃ u, a' = a.put (some t) u ∧ AV.rel ⟨w', φ, σ ++ res rs listed, C.ok⟩ v u) (fun _ _ _ => False) fun u w' hb hu => ⟨u, rfl, hu⟩
    rcases isMv_ya (P := P) (ops := ops) hm a with ⟨u, hya⟩ | hno
    · refine ⟨u, hya, ?_⟩
      unfold Oper.wp at hwp
      rw [hya.2 w] at hwp
      simp only [Oper.upon] at hwp
      obtain ⟨u', he, hu⟩ := hwp
      have hu' : u = u' := by
        have h1 := getD_put a t t u (by rw [s2]; exact htn)
        have h2 := getD_put a t t u' (by rw [s2]; exact htn)
        rw [if_pos rfl] at h1 h2
        rw [← h1, ← h2, he]
      subst hu'
      refine ⟨s1, by simp [Act.put, s2], φ, ?_, fun p r hp hl => hφ p r hp ?_, fun s => ?_⟩
      · rw [res_same h0]; exact hG
      · rwa [getD_set_ne false (Ne.symm (h0 r (List.mem_of_getElem? hp)))] at hl
      · rw [res_same h0, getD_put a t s u (by rw [s2]; exact htn)]
        simp only [putE]
        split
        · exact hu
        · exact hE s
    · exfalso
      unfold Oper.wp at hwp
      cases hr : (execOp a.eval (⟨some t, op, ty, pos, after, none⟩ : Oper)).run P w with
      | ok x w' => exact (hno w x w').1 hr
      | halt q w' =>
        rw [hr] at hwp
        cases q <;> first | exact hwp | exact (hno w .skip w').2 _ hr
  · simp [gsayE] at hg
  · exfalso
    simp only at hop
    subst hop
    simp [isMv] at hm
theorem wpAny_of_Q {n g : Nat} {L : Array Bool → EE → Prop} {F : Act → World → Prop} (hpri : ∀ e ∈ pri, freeAll md ops e = true) (hsel : ∀ (j : Nat) (o : Oper) cs b, ops[j]? = some o → o.op ≠ .select cs b) (hnd : (rs.map (·.1)).Nodup) (hd : ∀ (i : Nat) o t, ops[i]? = some o → o.dst = some t → t < C.n)
    (hL : ∀ listed E a w, L listed E → SimR C σ rs listed E a w → wpAny P md ops (nrm F) g listed a w) :
    ∀ (f : Nat) (listed : Array Bool) (E : EE) (a : Act) (w : World), SimR C σ rs listed E a w → wpAnyQ P C md ops σ rs pri n L f listed E → wpAny P md ops (nrm F) (f + g) listed a w
  | 0, listed, E, a, w, hs, h => by rw [Nat.zero_add]; exact hL _ _ _ _ h hs
  | f + 1, listed, E, a, w, hs, h => by
    rw [show f + 1 + g = (f + g) + 1 by omega]
    rcases h with ⟨e, he, her, hen, o, v, ho, hy, hK⟩ | ⟨_, h0, h⟩
    · obtain ⟨hmv, hap⟩ := freeAll_spec ho (hpri e he)
      obtain ⟨u, hya, hs'⟩ := SimR.mv hs ho (fun t ht => hd e o t ho ht) hmv hy
      exact wpAny_ya ho hsel _ listed a w hya (fun j oj hj hje hun hno => hap j oj hj hje hno fun ed hed hb hon => by
        obtain ⟨_, o', ho', hall⟩ := mem_ready.1 her
        have : o' = o := Option.some.inj (ho'.symm.trans ho)
        subst this
        have h1 := hall ed hed hb
        rw [hon, getD_both hun] at h1
        cases h1) her (wpAny_of_Q hpri hsel hnd hd hL f _ _ _ w hs' hK)
    · refine ⟨fun h1 => absurd h1 h0, fun i hi => ?_⟩
      obtain ⟨o, v, ho, hy, hK⟩ := (h i hi).2
      exact SimR.op hnd hs (mem_ready.1 hi).1 ho (fun t ht => hd i o t ho ht) hy fun a' w' hs' => wpAny_of_Q hpri hsel hnd hd hL f _ _ a' w' hs' hK
end
def drawQB (l : List Oper) (pri head : List Nat) (n : Nat) : Bool :=
  Region.noSelect l.toArray && decide (n < l.length) && sinkQ .any l.toArray pri n && Region.chainB .any l.toArray n && decide ((pick l head).length = n) && (pri.all fun e => decide (e < n) && freeAll .any l.toArray e) &&
  lexIdx .any l.toArray (l.length - n) n ((pick l head).map (·.1)) (Array.replicate l.length false)
section
variable {P : Program} {C : Ctx} {k : List Item} {R : Act → World → Prop} {env : Env} {σ : List Ob}
theorem Runs.drawQ {id : Nat} {l : List Oper} {cn : Nat} (pri head : List Nat) (n : Nat) (rs : Res) (hf : P.follows .mixedOrders = true) (hn : C.n = cn) (hB : drawQB l pri head n = true) (hd : dstOk cn l = true)
    (hnd : (rs.map (·.1)).Nodup) (hrs : ∀ r ∈ rs, r.1 < n)
    (h : RunsT P C l.toArray rs (l.drop n) (pick l head) k R ⟨env, σ⟩) : Runs P C (.code (.region id l.toArray true) :: k) R ⟨env, σ⟩ := by
  refine ⟨fun a w hs => Fin.of_wp (wp_region_any hf ?_)⟩
  unfold drawQB at hB
  simp only [Bool.and_eq_true, decide_eq_true_eq] at hB
  obtain ⟨⟨⟨⟨⟨⟨hsel, hnl⟩, hsk⟩, hch⟩, hlen⟩, hpr⟩, hlex⟩ := hB
  have hpri : ∀ e ∈ pri, freeAll .any l.toArray e = true := fun e he => by have := List.all_eq_true.1 hpr e he; simp only [Bool.and_eq_true] at this; exact this.2
  have hpn : ∀ e ∈ pri, e < n := fun e he => by have := List.all_eq_true.1 hpr e he; simp only [Bool.and_eq_true, decide_eq_true_eq] at this; exact this.1
  obtain ⟨s1, s2, φ, hG, hE⟩ := hs
  have hb : Below w.heap.size w { w with drawn := w.drawn + 1 } := ⟨rfl, rfl, rfl, Nat.le_refl _, fun _ _ => rfl⟩
  obtain ⟨g1, g2⟩ := good_below hG hb
  let φ0 : Nat → Option Nat := fun i => if i < σ.length then φ i else none
  have hφ0 : ∀ j, φ0 (σ.length + j) = none := fun j => if_neg (by omega)
  obtain ⟨G1, G2⟩ := good_grow (φ' := φ0) (new := res rs (Array.replicate l.length false)) g1 (Below.refl _ _) (fun i hi => if_pos hi) (fun j hj g hg => by rw [hφ0] at hg; cases hg) (fun i j g hi hj e1 e2 => by rw [hφ0] at e1; cases e1) (fun j o hj => by rw [hφ0]; exact res_none j o hj)
  have hE1 : ∀ t, AV.rel ⟨{ w with drawn := w.drawn + 1 }, φ0, σ ++ res rs (Array.replicate l.length false), C.ok⟩ (look env t) (a.tmps.getD t undef) := fun t => AV.rel_keeps G2 _ _ (AV.only_true _) (AV.rel_keeps g2 _ _ (AV.only_true _) (hE t))
  have hdd : ∀ (i : Nat) o t, l.toArray[i]? = some o → o.dst = some t → t < C.n := fun i o t hi ht => by rw [hn]; exact dstOk_at hd i o t (by simpa using hi) ht
  have inv0 : HeadInv .any l.toArray n (Array.replicate l.length false) :=
    ⟨by simp, fun j oj _ hl => (by rw [getD_replicate_false] at hl; cases hl), fun t _ ht => getD_in (by simpa using ht) (getD_replicate_false _ _)⟩
  have hmemH : ∀ p ∈ pick l head, l.toArray[p.1]? = some p.2 := fun p hp => by simpa using pick_mem hp
  have hsz : l.toArray.size = (pick l head).length + (l.length - n) := by simp; omega
  refine (show ∀ m, m = l.toArray.size → wpAny P .any l.toArray (nrm (Fin P k R)) m (Array.replicate l.toArray.size false) a { w with drawn := w.drawn + 1 } from ?_) _ rfl
  intro m hm
  obtain rfl := hm.trans hsz
  have H := wpAnyQ_lex (P := P) (C := C) (σ := σ) (md := .any) (ops := l.toArray) (g := l.length - n) hpri hpn hsk hch (by simpa using hnl) (pick l head) (Array.replicate l.toArray.size false) (look env) hmemH (by simpa using inv0) (by simpa using hlex) h.run
  refine wpAny_of_Q hpri (Region.noSelect_spec hsel) hnd hdd (fun listed' E' a'' w'' hL hS => ?_) _ _ (look env) a _ ⟨s1, s2, φ0, by simpa using G1, fun p r _ _ => hφ0 p, by simpa using hE1⟩ H
  obtain ⟨hsq, hall, env'', rfl, hR⟩ := hL
  have hfl := res_full (rs := rs) (listed := listed') fun r hr => hall r.1 (hrs r hr)
  obtain ⟨u1, u2, φ', G', _, hE''⟩ := hS
  rw [hfl] at G' hE''
  have := wpAny_of_seq (md := .any) (Q' := nrm (Fin P k R)) (l.drop n) n listed' a'' w'' (fun j => by simp [List.getElem?_drop]) (by rw [List.length_drop]; exact hsq) (hR.run a'' w'' ⟨u1, u2, φ', G', hE''⟩)
  rwa [List.length_drop] at this
theorem Runs.toDrawQ {id : Nat} {l : List Oper} {k' : List Item} {cn : Nat} (m : Nat) (pri head : List Nat) (n : Nat) (rs : Res) (hf : P.follows .mixedOrders = true) (hn : C.n = cn) (hc : Proofs.Ytkhnijggbfoimaa.ctls m k = .code (.region id l.toArray true) :: k') (hB : drawQB l pri head n = true) (hd : dstOk cn l = true)
    (hnd : (rs.map (·.1)).Nodup) (hrs : ∀ r ∈ rs, r.1 < n)
    (h : RunsT P C l.toArray rs (l.drop n) (pick l head) k' R ⟨env, σ⟩) : Runs P C k R ⟨env, σ⟩ := Runs.ctls m hc (Runs.drawQ pri head n rs hf hn hB hd hnd hrs h)
end
end Go.Proofs.Ytkhnijggbfoimaa
/- A program is run: the program's side. -/
namespace Go.Proofs.Ytkhnijggbfoimaa
set_option linter.unusedSimpArgs false
set_option linter.unusedVariables false
open Go.RowKit
open AV (Mem Keeps)
set_option maxRecDepth 100000
theorem spec_NewMachine : ACv Try.prog 47 [] (mchR m0) := by
  refine ac_enter Try.func47 rfl _ Try.ntmps47 (by simp) fun C hn hm => ?_
  repeat' (first
 | refine RunsL.step tabOk hn rfl ?_
 | refine RunsL.nil ?_
 | refine Runs.toRegion 30 rfl ?_
 | (refine RunsL.pe hn rfl rfl rfl ?_; first
 | refine ⟨_, pu_buildS rfl, ?_⟩)
 | (refine Runs.ctls 30 rfl ?_; first | refine Runs.cond_t rfl ?_ | refine Runs.cond_f rfl ?_ | ((first | refine Runs.cond_yes rfl ?_ ?_ | refine Runs.cond_nno rfl ?_ ?_); · first | omega | rfl | assumption | (simp only [List.length_map]; omega)) | ((first | refine Runs.cond_no rfl ?_ ?_ | refine Runs.cond_nyes rfl ?_ ?_); · first | omega | rfl | assumption | (simp only [List.length_map]; omega)) | refine Runs.cond_dec rfl (fun h => ?_) (fun h => ?_) | refine Runs.cond_ndec rfl (fun h => ?_) (fun h => ?_) | refine Runs.cond_nb rfl (fun h => ?_) (fun h => ?_) | refine Runs.cond_b rfl (fun h => ?_) (fun h => ?_) | refine Runs.ret (ends_ro hm rfl rfl ?_) | exact Runs.ret (ends_cellR hm rfl rfl rfl (Nat.le_of_ble_eq_true rfl) rfl rfl))
 | refine op_box rfl (tl hn rfl) ?_
 | refine op_storeF rfl rfl rfl rfl (Nat.le_of_ble_eq_true rfl) ?_
 | refine op_alloc (tl hn rfl) ?_
 | refine op_storeN rfl rfl rfl rfl (Nat.le_of_ble_eq_true rfl) ?_
 | (refine RunsL.pe hn rfl rfl rfl ?_; first
 | refine ⟨_, pu_add rfl rfl (by omega), ?_⟩
 | refine ⟨_, pu_indexAddr_map rfl rfl (by omega) (by assumption), ?_⟩
 | refine ⟨_, pu_sub rfl rfl (by omega), ?_⟩
 | refine ⟨_, pu_pick_b rfl rfl rfl, ?_⟩
 | refine ⟨_, pu_mul rfl rfl (by omega), ?_⟩
 | refine ⟨_, pu_build rfl rfl rfl rfl rfl rfl, ?_⟩))
  refine Runs.ctls 30 rfl ?_
  refine Runs.ret (ends_lend (r := mchR m0) hm rfl (v := .agg ([.int 0, .int 0, .nil, .nil, .int 0, .bool false, .bool false, .int 0, .int 0, .int 0] : List AV)) ?_ rfl ?_)
  · simp only [ResV]
    exact ⟨0, 0, _, rfl, rfl, .inr ⟨10, inferInstance, Nat.le_refl _, rfl⟩⟩
  · exact Lends.agg (.cons .ro (.cons .ro (.cons (Lends.nil 1) (.cons (Lends.nil 1) (.cons .ro (.cons .ro (.cons .ro (.cons .ro (.cons .ro (.cons .ro .nil))))))))))
def runP (p : Prg) (f : Bool) (l : List UInt8) : Int := mFin (mAdv p f (feedL p f m0 l))
set_option maxHeartbeats 8000000 in
theorem impl_RunProgram (p : Prg) (l : List UInt8) (hB : PrgB p) (hl : l.length ≤ 1048576) : ACv Try.prog 23 [prgR p, bytesR l] (.int (runP p (fitB p) l)) := by
  have h0 : MLen m0 := ⟨by decide, by decide⟩
  have hF := (impl_FeedBytes p m0 l hB h0 hl).shut (r := mchR (feedL p (fitB p) m0 l)) (by rintro _ rfl; exact seals_mch _)
  have hN := (impl_FinishMachine p (feedL p (fitB p) m0 l) hB (feedL_len l h0)).shut (r := .tup [mchR (mAdv p (fitB p) (feedL p (fitB p) m0 l)), .int (runP p (fitB p) l)]) (by
    rintro _ rfl
    simp only [Seals, SealsL]
    exact ⟨_, rfl, _, _, rfl, seals_mch _, _, _, rfl, rfl, rfl⟩)
  refine ac_enter Try.func23 rfl _ Try.ntmps23 (by simp) fun C hn hm => ?_
  repeat' (first
 | refine Runs.toDrawQ (id := 1) 30 [8] [0, 1, 2, 3, 4, 5, 6, 7, 8, 9] 10 [(9, 30, [.int .i64 0, .int .i64 0, .slice none 0 0, .slice none 0 0, .int .i64 0, .bool false, .bool false, .int .i64 0, .int .i64 0, .int .i64 0])] mixed hn rfl (by kernel_rfl) rfl (by decide) (by decide) ?_
 | refine RunsT.nil ?_
 | refine RunsT.step tabOk rfl rfl (fun _ => rfl) (by decide) ?_
 | refine RunsT.pur (fun _ => pu_callR impl_NewMachine rfl) (by decide) rfl rfl ?_
 | refine RunsT.pur (fun _ => pu_callR hF rfl) (by decide) rfl rfl ?_
 | refine RunsT.pur (fun _ => pu_callR hN rfl) (by decide) rfl rfl ?_
 | refine RunsT.pur (fun _ => pu_add rfl rfl (by omega)) (by decide) rfl rfl ?_
 | refine RunsT.pur (fun _ => pu_indexAddr_map rfl rfl (by omega) (by assumption)) (by decide) rfl rfl ?_
 | refine RunsT.alloc (p := 0) rfl inferInstance ?_
 | refine RunsT.alloc (p := 1) rfl inferInstance ?_
 | refine RunsL.step tabOk hn rfl ?_
 | refine RunsL.nil ?_
 | refine Runs.toRegion 30 rfl ?_
 | ((first | refine RunsL.pe hn rfl rfl rfl ?_ | refine RunsD.pe rfl rfl ?_); first
 | refine ⟨_, pu_callR impl_NewMachine rfl, ?_⟩
 | refine ⟨_, pu_callR hF rfl, ?_⟩
 | refine ⟨_, pu_callR hN rfl, ?_⟩)
 | (refine Runs.ctls 30 rfl ?_; first | refine Runs.cond_t rfl ?_ | refine Runs.cond_f rfl ?_ | ((first | refine Runs.cond_yes rfl ?_ ?_ | refine Runs.cond_nno rfl ?_ ?_); · first | omega | rfl | assumption | (simp only [List.length_map]; omega)) | ((first | refine Runs.cond_no rfl ?_ ?_ | refine Runs.cond_nyes rfl ?_ ?_); · first | omega | rfl | assumption | (simp only [List.length_map]; omega)) | refine Runs.cond_dec rfl (fun h => ?_) (fun h => ?_) | refine Runs.cond_ndec rfl (fun h => ?_) (fun h => ?_) | refine Runs.cond_nb rfl (fun h => ?_) (fun h => ?_) | refine Runs.cond_b rfl (fun h => ?_) (fun h => ?_) | refine Runs.ret (ends_ro hm rfl rfl ?_) | exact Runs.ret (ends_cellR hm rfl rfl rfl (Nat.le_of_ble_eq_true rfl) rfl rfl))
 | refine op_box rfl (tl hn rfl) ?_
 | refine op_storeF rfl rfl rfl rfl (Nat.le_of_ble_eq_true rfl) ?_
 | refine op_alloc (tl hn rfl) ?_
 | refine op_storeN rfl rfl rfl rfl (Nat.le_of_ble_eq_true rfl) ?_
 | refine RunsD.step tabOk hn rfl rfl ?_
 | refine RunsD.nil ?_
 | refine Runs.toDraw 30 mixed hn rfl (by kernel_rfl) rfl ?_
 | ((first | refine RunsL.pe hn rfl rfl rfl ?_ | refine RunsD.pe rfl rfl ?_); first
 | refine ⟨_, pu_add rfl rfl (by omega), ?_⟩
 | refine ⟨_, pu_indexAddr_map rfl rfl (by omega) (by assumption), ?_⟩
 | refine ⟨_, pu_sub rfl rfl (by omega), ?_⟩
 | refine ⟨_, pu_pick_b rfl rfl rfl, ?_⟩
 | refine ⟨_, pu_mul rfl rfl (by omega), ?_⟩
 | refine ⟨_, pu_build rfl rfl rfl rfl rfl rfl, ?_⟩))
  exact rr_int rfl
set_option maxHeartbeats 8000000 in
theorem spec_RunProgram (p : Prg) (l : List UInt8) (hB : PrgB p) (hl : l.length ≤ 1048576) : ACv Try.prog 21 [prgR p, bytesR l] (.int (runP p (fitB p) l)) := by
  have h0 : MLen m0 := ⟨by decide, by decide⟩
  have hF := spec_FeedBytes p m0 l hB h0 hl
  have hN := (spec_FinishMachine p (feedL p (fitB p) m0 l) hB (feedL_len l h0)).shut (r := .tup [mchR (mAdv p (fitB p) (feedL p (fitB p) m0 l)), .int (runP p (fitB p) l)]) (by
    rintro _ rfl
    simp only [Seals, SealsL]
    exact ⟨_, rfl, _, _, rfl, seals_mch _, _, _, rfl, rfl, rfl⟩)
  refine ac_enter Try.func21 rfl _ Try.ntmps21 (by simp) fun C hn hm => ?_
  repeat' (first
 | refine Runs.toDrawQ (id := 1) 30 [8] [0, 1, 2, 3, 4, 5, 6, 7, 8, 9] 10 [(9, 30, [.int .i64 0, .int .i64 0, .slice none 0 0, .slice none 0 0, .int .i64 0, .bool false, .bool false, .int .i64 0, .int .i64 0, .int .i64 0])] mixed hn rfl (by kernel_rfl) rfl (by decide) (by decide) ?_
 | refine RunsT.nil ?_
 | refine RunsT.step tabOk rfl rfl (fun _ => rfl) (by decide) ?_
 | refine RunsT.pur (fun _ => pu_callR spec_NewMachine rfl) (by decide) rfl rfl ?_
 | refine RunsT.pur (fun _ => pu_callR hF rfl) (by decide) rfl rfl ?_
 | refine RunsT.pur (fun _ => pu_callR hN rfl) (by decide) rfl rfl ?_
 | refine RunsT.pur (fun _ => pu_add rfl rfl (by omega)) (by decide) rfl rfl ?_
 | refine RunsT.pur (fun _ => pu_indexAddr_map rfl rfl (by omega) (by assumption)) (by decide) rfl rfl ?_
 | refine RunsT.alloc (p := 0) rfl inferInstance ?_
 | refine RunsT.alloc (p := 1) rfl inferInstance ?_
 | refine RunsL.step tabOk hn rfl ?_
 | refine RunsL.nil ?_
 | refine Runs.toRegion 30 rfl ?_
 | ((first | refine RunsL.pe hn rfl rfl rfl ?_ | refine RunsD.pe rfl rfl ?_); first
 | refine ⟨_, pu_callR spec_NewMachine rfl, ?_⟩
 | refine ⟨_, pu_callR hF rfl, ?_⟩
 | refine ⟨_, pu_callR hN rfl, ?_⟩)
 | (refine Runs.ctls 30 rfl ?_; first | refine Runs.cond_t rfl ?_ | refine Runs.cond_f rfl ?_ | ((first | refine Runs.cond_yes rfl ?_ ?_ | refine Runs.cond_nno rfl ?_ ?_); · first | omega | rfl | assumption | (simp only [List.length_map]; omega)) | ((first | refine Runs.cond_no rfl ?_ ?_ | refine Runs.cond_nyes rfl ?_ ?_); · first | omega | rfl | assumption | (simp only [List.length_map]; omega)) | refine Runs.cond_dec rfl (fun h => ?_) (fun h => ?_) | refine Runs.cond_ndec rfl (fun h => ?_) (fun h => ?_) | refine Runs.cond_nb rfl (fun h => ?_) (fun h => ?_) | refine Runs.cond_b rfl (fun h => ?_) (fun h => ?_) | refine Runs.ret (ends_ro hm rfl rfl ?_) | exact Runs.ret (ends_cellR hm rfl rfl rfl (Nat.le_of_ble_eq_true rfl) rfl rfl))
 | refine op_box rfl (tl hn rfl) ?_
 | refine op_storeF rfl rfl rfl rfl (Nat.le_of_ble_eq_true rfl) ?_
 | refine op_alloc (tl hn rfl) ?_
 | refine op_storeN rfl rfl rfl rfl (Nat.le_of_ble_eq_true rfl) ?_
 | refine RunsD.step tabOk hn rfl rfl ?_
 | refine RunsD.nil ?_
 | refine Runs.toDraw 30 mixed hn rfl (by kernel_rfl) rfl ?_
 | ((first | refine RunsL.pe hn rfl rfl rfl ?_ | refine RunsD.pe rfl rfl ?_); first
 | refine ⟨_, pu_add rfl rfl (by omega), ?_⟩
 | refine ⟨_, pu_indexAddr_map rfl rfl (by omega) (by assumption), ?_⟩
 | refine ⟨_, pu_sub rfl rfl (by omega), ?_⟩
 | refine ⟨_, pu_pick_b rfl rfl rfl, ?_⟩
 | refine ⟨_, pu_mul rfl rfl (by omega), ?_⟩
 | refine ⟨_, pu_build rfl rfl rfl rfl rfl rfl, ?_⟩))
  exact rr_int rfl
end Go.Proofs.Ytkhnijggbfoimaa
/- Values with memory of their own, however deep: what a call makes, kept as plain values of a frame. Over any program. -/
namespace Go.Proofs.Ytkhnijggbfoimaa
set_option linter.unusedSimpArgs false
set_option linter.unusedVariables false
open Go.RowKit
open AV (Mem Keeps)
inductive OV where
  | c (v : Value)
  | row (e : TypeId) (sz : Nat) (cs : List OV)
  | agg (cs : List OV)
  | tup (vs : List OV)
namespace OV
mutual
/-- The value u is such a value; its rows lie in the blocks bs. -/
def rel (w : World) : OV → Value → List Nat → Prop
  | .c v, u, bs => u = v ∧ bs = []
  | .row e sz cs, u, bs => ∃ n xs bs', cs.length = n * sz ∧ 0 < sz ∧ rels w cs xs bs' ∧ (∀ x ∈ xs, x.oneCell' = true) ∧ w.ownsRow 0 e sz u n xs ∧ bs = u.ownBlock.toList ++ bs'
  | .agg cs, u, bs => ∃ us : Array Value, u = .agg us ∧ rels w cs us.toList bs
  | .tup cs, u, bs => ∃ us : Array Value, u = .tuple us ∧ rels w cs us.toList bs
def rels (w : World) : List OV → List Value → List Nat → Prop
  | [], us, bs => us = [] ∧ bs = []
  | x :: xs, us, bs => ∃ u us' b bs', us = u :: us' ∧ bs = b ++ bs' ∧ rel w x u b ∧ rels w xs us' bs'
end
theorem ownsRow_keep {w w' : World} {e : TypeId} {sz n : Nat} {u : Value} {xs : List Value} (h : w.ownsRow 0 e sz u n xs) (hb : ∀ b ∈ u.ownBlock.toList, w'.heap[b]? = w.heap[b]?) : w'.ownsRow 0 e sz u n xs := by
  obtain ⟨h1, h2⟩ := h
  refine ⟨h1, ?_⟩
  rcases h2 with h2 | ⟨g, cap, cur, rfl, h3, h4, h5⟩
  · exact .inl h2
  · exact .inr ⟨g, cap, cur, rfl, h3, (hb g (by simp [Value.ownBlock])).trans h4, h5⟩
mutual
theorem rel_keep {w w' : World} : ∀ (o : OV) (u : Value) (bs : List Nat), rel w o u bs → (∀ b ∈ bs, w'.heap[b]? = w.heap[b]?) → rel w' o u bs
  | .c v, u, bs, h, _ => by simpa [rel] using h
  | .row e sz cs, u, bs, h, hb => by
    simp only [rel] at h ⊢
    obtain ⟨n, xs, bs', h1, h2, h3, h4, h5, rfl⟩ := h
    exact ⟨n, xs, bs', h1, h2, rels_keep cs xs bs' h3 fun b hm => hb b (List.mem_append.2 (.inr hm)), h4, ownsRow_keep h5 fun b hm => hb b (List.mem_append.2 (.inl hm)), rfl⟩
  | .agg cs, u, bs, h, hb => by
    simp only [rel] at h ⊢
    obtain ⟨us, e, h1⟩ := h
    exact ⟨us, e, rels_keep cs _ bs h1 hb⟩
  | .tup cs, u, bs, h, hb => by
    simp only [rel] at h ⊢
    obtain ⟨us, e, h1⟩ := h
    exact ⟨us, e, rels_keep cs _ bs h1 hb⟩
theorem rels_keep {w w' : World} : ∀ (os : List OV) (us : List Value) (bs : List Nat), rels w os us bs → (∀ b ∈ bs, w'.heap[b]? = w.heap[b]?) → rels w' os us bs
  | [], us, bs, h, _ => by simpa [rels] using h
  | x :: xs, us, bs, h, hb => by
    simp only [rels] at h ⊢
    obtain ⟨u, us', b, bs', e1, rfl, h1, h2⟩ := h
    exact ⟨u, us', b, bs', e1, rfl, rel_keep x u b h1 fun c hm => hb c (List.mem_append.2 (.inl hm)), rels_keep xs us' bs' h2 fun c hm => hb c (List.mem_append.2 (.inr hm))⟩
end
theorem rels_len {w : World} : ∀ (os : List OV) (us : List Value) (bs : List Nat), rels w os us bs → us.length = os.length
  | [], us, bs, h => by simp only [rels] at h; simp [h.1]
  | x :: xs, us, bs, h => by
    simp only [rels] at h
    obtain ⟨u, us', b, bs', rfl, _, _, h2⟩ := h
    simp [rels_len xs us' bs' h2]
theorem rels_c {w : World} : ∀ (vs : List Value), rels w (vs.map .c) vs []
  | [] => by simp [rels]
  | v :: vs => by simp only [List.map_cons, rels]; exact ⟨v, vs, [], [], rfl, rfl, by simp [rel], rels_c vs⟩
theorem rels_append {w : World} : ∀ (os os' : List OV) (us us' : List Value) (bs bs' : List Nat), rels w os us bs → rels w os' us' bs' → rels w (os ++ os') (us ++ us') (bs ++ bs')
  | [], os', us, us', bs, bs', h, h' => by simp only [rels] at h; obtain ⟨rfl, rfl⟩ := h; simpa using h'
  | x :: xs, os', us, us', bs, bs', h, h' => by
    simp only [rels] at h
    obtain ⟨u, ut, b, bt, rfl, rfl, h1, h2⟩ := h
    simp only [List.cons_append, rels]
    exact ⟨u, ut ++ us', b, bt ++ bs', rfl, by rw [List.append_assoc], h1, rels_append xs os' ut us' bt bs' h2 h'⟩
/-! ### .. read as data. -/
mutual
def Seal : OV → RV → Prop
  | .c v, r => r = .c v
  | .row _ sz cs, r => ∃ els, r = .seq sz els ∧ (∀ x ∈ els, x.length = sz) ∧ Seals cs els.flatten
  | .agg cs, r => ∃ rs, r = .agg rs ∧ Seals cs rs
  | .tup cs, r => ∃ rs, r = .tup rs ∧ Seals cs rs
def Seals : List OV → List RV → Prop
  | [], rs => rs = []
  | x :: xs, rs => ∃ r rs', rs = r :: rs' ∧ Seal x r ∧ Seals xs rs'
end
theorem seals_len : ∀ (os : List OV) (rs : List RV), Seals os rs → rs.length = os.length
  | [], rs, h => by simp only [Seals] at h; simp [h]
  | x :: xs, rs, h => by
    simp only [Seals] at h
    obtain ⟨r, rs', rfl, _, h2⟩ := h
    simp [seals_len xs rs' h2]
mutual
theorem seal_rel {w : World} {ok : Nat → Prop} : ∀ (o : OV) (r : RV) (u : Value) (bs : List Nat), Seal o r → rel w o u bs → (∀ b ∈ bs, ok b) → RV.rel w ok r u
  | .c v, r, u, bs, hs, h, _ => by
    simp only [Seal] at hs; subst hs
    simp only [rel] at h
    simpa only [RV.rel] using h.1
  | .row e sz cs, r, u, bs, hs, h, hb => by
    simp only [Seal] at hs
    obtain ⟨els, rfl, hl, hf⟩ := hs
    simp only [rel] at h
    obtain ⟨n, xs, bs', k1, k2, k3, k4, k5, rfl⟩ := h
    have hrs : RV.rels w ok els.flatten xs := seals_rel cs els.flatten xs bs' hf k3 fun b hm => hb b (List.mem_append.2 (.inr hm))
    have hn : n = els.length := by
      have h1 := flatten_len hl
      rw [seals_len cs _ hf, k1] at h1
      exact Nat.eq_of_mul_eq_mul_right k2 h1
    simp only [RV.rel]
    rcases k5.2 with ⟨rfl, h0⟩ | ⟨g, cap, cur, rfl, _, hh, c1, c2, c3, ht⟩
    · exact ⟨none, 0, 0, rfl, by omega, Nat.le_refl _, Nat.zero_le _, fun h => absurd h (by omega)⟩
    · refine ⟨some ⟨g, 0, none⟩, n, cap, rfl, hn, c1, c2, fun hn0 => ⟨g, 0, rfl, (Array.getElem?_eq_some_iff.1 hh).1, hb g (by simp [Value.ownBlock]), ?_⟩⟩
      refine RV.relE_of _ _ _ fun k el hk => ⟨hl el (List.mem_of_getElem? hk), RV.relAt_of _ _ fun j r hj => ?_⟩
      have hjl : j < sz := by have := (List.getElem?_eq_some_iff.1 hj).1; rwa [hl el (List.mem_of_getElem? hk)] at this
      have hfl := flatten_at hl k j el hk hjl
      rw [hj] at hfl
      obtain ⟨x, e1, e2⟩ := RV.rels_at _ xs hrs _ r hfl
      refine ⟨x, ?_, k4 x (List.mem_of_getElem? e1), e2⟩
      rw [cell_of_row w g _ cur _ _ hh, Nat.zero_add]
      rw [← ht, List.getElem?_take] at e1
      split at e1
      · simpa using e1
      · cases e1
  | .agg cs, r, u, bs, hs, h, hb => by
    simp only [Seal] at hs
    obtain ⟨rs, rfl, hf⟩ := hs
    simp only [rel] at h
    obtain ⟨us, rfl, h1⟩ := h
    simp only [RV.rel]
    exact ⟨us, rfl, seals_rel cs rs _ bs hf h1 hb⟩
  | .tup cs, r, u, bs, hs, h, hb => by
    simp only [Seal] at hs
    obtain ⟨rs, rfl, hf⟩ := hs
    simp only [rel] at h
    obtain ⟨us, rfl, h1⟩ := h
    simp only [RV.rel]
    exact ⟨us, rfl, seals_rel cs rs _ bs hf h1 hb⟩
theorem seals_rel {w : World} {ok : Nat → Prop} : ∀ (os : List OV) (rs : List RV) (us : List Value) (bs : List Nat), Seals os rs → rels w os us bs → (∀ b ∈ bs, ok b) → RV.rels w ok rs us
  | [], rs, us, bs, hs, h, _ => by
    simp only [Seals] at hs; subst hs
    simp only [rels] at h
    simp [RV.rels, h.1]
  | x :: xs, rs, us, bs, hs, h, hb => by
    simp only [Seals] at hs
    obtain ⟨r, rs', rfl, hs1, hs2⟩ := hs
    simp only [rels] at h
    obtain ⟨u, us', b, bs', rfl, rfl, h1, h2⟩ := h
    simp only [RV.rels]
    exact ⟨u, us', rfl, seal_rel x r u b hs1 h1 fun c hm => hb c (List.mem_append.2 (.inl hm)), seals_rel xs rs' us' bs' hs2 h2 fun c hm => hb c (List.mem_append.2 (.inr hm))⟩
end
end OV
/-- With this data as arguments the function makes this value, all in new memory. -/
def ACo (P : Program) (f : FuncId) (args : List RV) (ov : OV) : Prop :=
  ∀ (w : World) (us : Array Value), RV.rels w (fun _ => True) args us.toList →
    Calls P f us w fun e w' => ∃ u bs, e = .returned u ∧ OV.rel w' ov u bs ∧ bs.Nodup ∧ (∀ b ∈ bs, w.heap.size ≤ b ∧ b < w'.heap.size) ∧ Below w.heap.size w w'
theorem aco_row {P : Program} {f : FuncId} {args : List RV} {e : TypeId} {sz : Nat} {vs : List Value} (h : AC P f args fun rr => rr = .row e sz (vs.map .c)) : ACo P f args (.row e sz (vs.map .c)) := by
  intro w us hu
  refine (h w (fun _ => True) us (fun _ _ => trivial) hu).mono ?_
  rintro ee w' ⟨u, rr, bs, rfl, rfl, h1, h2, h3, h4⟩
  simp only [RR.rel] at h1
  obtain ⟨n, xs, k1, k2, k3, k4, k5, rfl⟩ := h1
  have e2 := agg_flat (m := ⟨w', fun _ => none, [], fun b => True ∧ b ∉ u.ownBlock.toList⟩) vs xs (RV.rels_mono ⟨Nat.le_refl _, fun b _ hb => ⟨⟨hb, fun i hi => by simp at hi⟩, rfl⟩⟩ _ _ k3)
  subst e2
  refine ⟨u, _, rfl, ?_, h2, h3, h4⟩
  simp only [OV.rel]
  exact ⟨n, xs, [], by simpa using k1, k2, OV.rels_c xs, k4, k5, by simp⟩
/-! ### In a frame. -/
/-- A value whose memory nothing else of the frame speaks of. -/
structure Gh (C : Ctx) (ov : OV) (u : Value) (bs : List Nat) : Prop where
  rel : OV.rel C.w0 ov u bs
  fix : ∀ b ∈ bs, b < C.w0.heap.size ∧ ¬ C.mu b ∧ ¬ C.ok b
/-- From context to context: but for the blocks bs what was there stays. -/
structure Nx (C C' : Ctx) (bs : List Nat) : Prop where
  n : C'.n = C.n
  os : C'.w0.os = C.w0.os
  tape : C'.w0.tape = C.w0.tape
  output : C'.w0.output = C.w0.output
  size : C.w0.heap.size ≤ C'.w0.heap.size
  block : ∀ b, b < C.w0.heap.size → ¬ C.mu b → b ∉ bs → C'.w0.heap[b]? = C.w0.heap[b]?
  mu : ∀ b, C'.mu b → C.mu b ∨ C.w0.heap.size ≤ b
  ok : ∀ b, C'.ok b → C.ok b
theorem Gh.next {C C' : Ctx} {ov : OV} {u : Value} {bs ds : List Nat} (h : Gh C ov u bs) (k : Nx C C' ds) (hd : ∀ b ∈ bs, b ∉ ds) : Gh C' ov u bs := by
  refine ⟨OV.rel_keep ov u bs h.rel fun b hb => k.block b (h.fix b hb).1 (h.fix b hb).2.1 (hd b hb), fun b hb => ⟨Nat.lt_of_lt_of_le (h.fix b hb).1 k.size, fun hm => ?_, fun ho => (h.fix b hb).2.2 (k.ok b ho)⟩⟩
  rcases k.mu b hm with h1 | h1
  · exact (h.fix b hb).2.1 h1
  · have := (h.fix b hb).1; omega
theorem Nx.trans {C C' C'' : Ctx} {bs ds : List Nat} (h : Nx C C' bs) (k : Nx C' C'' ds) : Nx C C'' (bs ++ ds) :=
  ⟨k.n.trans h.n, k.os.trans h.os, k.tape.trans h.tape, k.output.trans h.output, Nat.le_trans h.size k.size, fun b h1 h2 h3 => by
    rw [List.mem_append, not_or] at h3
    refine (k.block b (Nat.lt_of_lt_of_le h1 h.size) (fun hm => ?_) h3.2).trans (h.block b h1 h2 h3.1)
    rcases h.mu b hm with h4 | h4
    · exact h2 h4
    · omega, fun b hm => by
    rcases k.mu b hm with h4 | h4
    · exact h.mu b h4
    · exact .inr (Nat.le_trans h.size h4), fun b ho => h.ok b (k.ok b ho)⟩
/-- A value as a plain value of a frame. -/
theorem rel_constRV {w : World} {ok : Nat → Prop} (u : Value) : RV.rel w ok (constRV u) u := const_rel u
section
variable {P : Program} {C : Ctx} {ops : Array Oper} {rest : List Oper} {k : List Item} {R : Act → World → Prop} {env : Env} {σ : List Ob} {t : Nat} {ty : TypeId} {pos : String} {after : Array Edge} {gd : Option (Nat × Bool)}
/-- A value of the frame serves as this data, whatever it reads. -/
def LendsT (C : Ctx) (σ : List Ob) (v : AV) (r : RV) : Prop := ∀ (m : Mem) (u : Value), Good C m → m.σ = σ → AV.rel m v u → RV.rel m.w (fun _ => True) r u
inductive LendsTL (C : Ctx) (σ : List Ob) : List AV → List RV → Prop
  | nil : LendsTL C σ [] []
  | cons {v : AV} {r : RV} {vs : List AV} {rs : List RV} : LendsT C σ v r → LendsTL C σ vs rs → LendsTL C σ (v :: vs) (r :: rs)
theorem LendsT.of {v : AV} {r : RV} (h : Lends C σ v r) : LendsT C σ v r := fun m u hG hσ hu => h m u (fun _ => True) hG hσ (fun _ _ => trivial) (fun _ _ _ _ => trivial) hu
theorem LendsT.ro {r : RV} : LendsT C σ (.ro r) r := LendsT.of Lends.ro
theorem LendsT.gh {ov : OV} {u : Value} {bs : List Nat} {r r' : RV} (h : Gh C ov u bs) (hs : OV.Seal ov r) (hr : r' = constRV u) : LendsT C σ (.ro r') r := fun m x hG hσ hx => by
  subst hr
  simp only [AV.rel] at hx
  have hxu : x = u := by
    cases u <;> simp only [constRV, RV.rel] at hx <;> try exact hx
    obtain ⟨us, rfl, hr⟩ := hx
    have := agg_flat (m := m) _ _ hr
    rw [← Array.toArray_toList (xs := us), this]
  subst hxu
  refine OV.seal_rel ov r x bs hs (OV.rel_keep ov x bs h.rel fun b hb => hG.frm.block b (h.fix b hb).1 (h.fix b hb).2.1) fun _ _ => trivial
theorem LendsTL.rels {m : Mem} (hG : Good C m) (hσ : m.σ = σ) {vs : List AV} {rs : List RV} (h : LendsTL C σ vs rs) : ∀ us, AV.rels m vs us → RV.rels m.w (fun _ => True) rs us := by
  induction h with
  | nil => intro us hu; simpa [AV.rels, RV.rels] using hu
  | cons h1 _ ih =>
    intro us hu
    simp only [AV.rels] at hu
    obtain ⟨u, us', rfl, k3, k4⟩ := hu
    simp only [RV.rels]
    exact ⟨u, us', rfl, h1 m u hG hσ k3, ih us' k4⟩
/-- A call that reads whatever the frame has, and returns a plain value. -/
theorem pu_callT {f : FuncId} {fn : Func} {xs : Array Operand} {ats : Array TypeId} {args : List RV} {v : Value} [hfn : FN P f fn] (hf : ACv P f args (.c v)) (ha : LendsTL C σ (xs.toList.map (ev env)) args) :
    Pur P C ⟨some t, .call { callee := .value (.func f), args := xs, argTypes := ats }, ty, pos, after, gd⟩ env σ (.ro (.c v)) := by
  refine ⟨fun a m hG hσ hH K Q hK => ?_⟩
  have hr := LendsTL.rels hG hσ ha _ (rels_eval (a := a) (m := m) xs.toList fun x hx => hH x (by simp [Op.operands, Call.operands]; exact .inr (by simpa using hx)))
  unfold Oper.wp
  rw [execOp_call_go, run_call hfn]
  simp only [Oper.upon]
  refine (hf m.w (fun _ => True) _ (fun _ _ => trivial) (by simpa using hr)).mono ?_
  rintro e w' ⟨u, rr, bs, rfl, rfl, h1, _, _, h4⟩
  simp only [RR.rel, RV.rel] at h1
  refine hK u w' h4 ?_
  simp only [AV.rel, RV.rel]
  exact h1.1
/-- A call that makes such a value: the context is a new one from there on. -/
theorem op_callN {f : FuncId} {fn : Func} {xs : Array Operand} {ats : Array TypeId} {args : List RV} {ov : OV} [hfn : FN P f fn] (hf : ACo P f args ov) (ha : LendsTL C σ (xs.toList.map (ev env)) args) (ht : t < C.n)
    (hk : ∀ (C' : Ctx) (u : Value) (bs : List Nat), Nx C C' [] → Gh C' ov u bs → bs.Nodup → (∀ b ∈ bs, C.w0.heap.size ≤ b) → RunsL P C' ops rest k R ⟨(t, .ro (constRV u)) :: env, σ⟩) :
    RunsL P C ops (⟨some t, .call { callee := .value (.func f), args := xs, argTypes := ats }, ty, pos, after, none⟩ :: rest) k R ⟨env, σ⟩ := by
  refine ⟨fun a w ⟨s1, s2, φ, hG, hH⟩ => ?_⟩
  refine wpList_plain rfl fun K hK' => ?_
  have hr := LendsTL.rels hG rfl ha _ (rels_eval (a := a) (m := ⟨w, φ, σ, C.ok⟩) xs.toList fun x hx => ev_rel hH x)
  unfold Oper.wp
  rw [execOp_call_go, run_call hfn]
  simp only [Oper.upon]
  refine (hf w _ (by simpa using hr)).mono ?_
  rintro e w' ⟨u, bs, rfl, h1, h2, h3, h4⟩
  let C' : Ctx := ⟨w', fun b => C.ok b ∧ b ∉ bs, mine φ σ.length, C.n⟩
  have hmine : ∀ b, C'.mu b → C.mu b ∨ C.w0.heap.size ≤ b := fun b ⟨i, hi, hb⟩ => hG.mine i b hi hb
  have hNx : Nx C C' [] := ⟨rfl, h4.os.trans hG.frm.os, h4.tape.trans hG.frm.tape, h4.output.trans hG.frm.output, Nat.le_trans hG.frm.size h4.size, fun b hb hm _ => (h4.block b (Nat.lt_of_lt_of_le hb hG.frm.size)).trans (hG.frm.block b hb hm), hmine, fun b hb => hb.1⟩
  have hlt : ∀ (i g : Nat), i < σ.length → φ i = some g → g < w.heap.size := fun i g hi hg => hG.lt hi hg
  have hGh : Gh C' ov u bs := ⟨h1, fun b hb => ⟨(h3 b hb).2, fun ⟨i, hi, hg⟩ => by have := hlt i b hi hg; have := (h3 b hb).1; omega, fun ho => ho.2 hb⟩⟩
  -- what the frame holds is read as before
  have hK : Keeps (fun _ => True) ⟨w, φ, σ, C.ok⟩ ⟨w', φ, σ, C'.ok⟩ := by
    refine ⟨⟨h4.size, fun b hb ho => ⟨⟨⟨ho.1, fun hm => by have := (h3 b hm).1; simp only at hb; omega⟩, ho.2⟩, h4.block b hb⟩⟩, fun i _ hi => ⟨hi, rfl⟩, fun i ob _ hi => ⟨ob.cs, hi, rfl⟩, fun i g us t _ hi hg hh => ⟨us, (h4.block g (Array.getElem?_eq_some_iff.1 hh).1).trans hh, rfl⟩⟩
  have hG' : Good C' ⟨w', φ, σ, C'.ok⟩ := by
    refine ⟨rfl, hG.inj, fun i o hi => (hG.ob i o hi).keeps hK fun g hg => h4.block g (hlt i g (List.getElem?_eq_some_iff.1 hi).1 hg), fun i g hi hg => .inl ⟨i, hi, hg⟩, ⟨rfl, rfl, rfl, Nat.le_refl _, fun _ _ _ => rfl, fun b hb => ⟨hG.frm.new b (Nat.le_trans hG.frm.size (Nat.le_trans h4.size hb)), fun hm => by have := (h3 b hm).2; have hb' : w'.heap.size ≤ b := hb; omega⟩⟩⟩
  refine hK' _ _ ((hk C' u bs hNx hGh h2 fun b hb => Nat.le_trans hG.frm.size (h3 b hb).1).run _ _ ⟨s1, by simp [Act.put, s2]; rfl, φ, hG', (hH.keeps hK).put (by rw [s2]; exact ht) ?_⟩)
  simp only [AV.rel]
  exact rel_constRV u
end
end Go.Proofs.Ytkhnijggbfoimaa
/- Values with memory of their own: how a function that makes one is entered and left; plain values behind a row; steps on memory that is known by its block. Over any program. -/
namespace Go.Proofs.Ytkhnijggbfoimaa
set_option linter.unusedSimpArgs false
set_option linter.unusedVariables false
open Go.RowKit
open AV (Mem Keeps)
/-- A later context of one function. -/
structure Sc (C0 C : Ctx) : Prop where
  below : Below C0.w0.heap.size C0.w0 C.w0
  mu : ∀ b, C.mu b → C0.w0.heap.size ≤ b
theorem Sc.start {C : Ctx} (hm : ∀ b, ¬ C.mu b) : Sc C C := ⟨Below.refl _ _, fun b h => absurd h (hm b)⟩
theorem Sc.next {C0 C C' : Ctx} {bs : List Nat} (h : Sc C0 C) (k : Nx C C' bs) (hb : ∀ b ∈ bs, C0.w0.heap.size ≤ b) : Sc C0 C' := by
  refine ⟨⟨k.os.trans h.below.os, k.tape.trans h.below.tape, k.output.trans h.below.output, Nat.le_trans h.below.size k.size, fun b hlt => ?_⟩, fun b hm => ?_⟩
  · refine (k.block b (Nat.lt_of_lt_of_le hlt h.below.size) (fun hm => ?_) fun hm => ?_).trans (h.below.block b hlt)
    · have := h.mu b hm; omega
    · have := hb b hm; omega
  · rcases k.mu b hm with h1 | h1
    · exact h.mu b h1
    · exact Nat.le_trans h.below.size h1
theorem Sc.end_ {C0 C : Ctx} {m : Mem} (h : Sc C0 C) (hG : Good C m) : Below C0.w0.heap.size C0.w0 m.w :=
  ⟨hG.frm.os.trans h.below.os, hG.frm.tape.trans h.below.tape, hG.frm.output.trans h.below.output, Nat.le_trans h.below.size hG.frm.size, fun b hlt => (hG.frm.block b (Nat.lt_of_lt_of_le hlt h.below.size) (fun hm => by have := h.mu b hm; omega)).trans (h.below.block b hlt)⟩
def EndsO (P : Program) (C0 : Ctx) (fn : Func) (ov : OV) (a : Act) (w : World) : Prop :=
  a.defers = [] ∧ ∃ v, (results fn a.tmps).run P w = .ok v w ∧ ∃ bs, OV.rel w ov v bs ∧ bs.Nodup ∧ (∀ b ∈ bs, C0.w0.heap.size ≤ b ∧ b < w.heap.size) ∧ Below C0.w0.heap.size C0.w0 w
theorem aco_enter {P : Program} {f : FuncId} {fn : Func} {c : Code} {args : List RV} {ov : OV} (hf : P.funcs[f]? = some fn) (hb : fn.body = some c) (n : Nat) (hn : fn.ntmps = n) (hl : args.length ≤ n)
    (h : ∀ C : Ctx, C.n = n → (∀ b, ¬ C.mu b) → Runs P C [.code c] (EndsO P C fn ov) ⟨startEnv 0 args, []⟩) : ACo P f args ov := by
  intro w us hu
  have hlen := RV.rels_len args _ hu
  refine calls_of_fin hf hb ?_
  have hs : Sim ⟨w, fun _ => True, fun _ => False, n⟩ ⟨startEnv 0 args, []⟩ { tmps := us ++ Array.replicate (fn.ntmps - us.size) undef, defers := [] } w := by
    refine ⟨rfl, by simp at hlen ⊢; omega, fun _ => none, ⟨rfl, fun i j g hi => by simp at hi, fun i o hi => by simp at hi, fun i g hi => by simp at hi, ⟨rfl, rfl, rfl, Nat.le_refl _, fun _ _ _ => rfl, fun _ _ => trivial⟩⟩, fun t => ?_⟩
    rw [start_look]
    simp only [Nat.zero_le, if_true, Nat.sub_zero]
    cases hr : args[t]? with
    | none => simp [AV.rel]
    | some r =>
      obtain ⟨u, e1, e2⟩ := RV.rels_at args _ hu t r hr
      have ht : t < us.size := by have := (List.getElem?_eq_some_iff.1 e1).1; simpa using this
      simp only [AV.rel]
      have : (us ++ Array.replicate (fn.ntmps - us.size) undef).getD t undef = u := by
        rw [Array.getD_eq_getD_getElem?, Array.getElem?_append_left ht]
        have : us[t]? = some u := by simpa using e1
        simp [this]
      rw [this]
      exact RV.rel_mono ⟨Nat.le_refl _, fun b _ hb => ⟨⟨hb, fun i hi => by simp at hi⟩, rfl⟩⟩ r u e2
  have hr := (h ⟨w, fun _ => True, fun _ => False, n⟩ rfl (fun _ h => h)).run _ w hs
  intro b cs
  obtain ⟨a', w', todo, ⟨hd, v, hv, bs, h1, h2, h3, h4⟩, hst⟩ := hr b cs
  exact ⟨a', w', todo, ⟨hd, v, hv, v, bs, rfl, h1, h2, h3, h4⟩, hst⟩
theorem rels_ac {m : Mem} : ∀ (vs us : List Value), AV.rels m (vs.map fun v => .ro (.c v)) us → us = vs
  | [], us, h => by simpa [AV.rels] using h
  | v :: vs, us, h => by
    simp only [List.map_cons, AV.rels, AV.rel, RV.rel] at h
    obtain ⟨u, us', rfl, rfl, h2⟩ := h
    rw [rels_ac vs us' h2]
section
variable {P : Program} {C C0 : Ctx} {S : St} {fn : Func}
/-- It ends with a struct whose cells are plain values of the frame. -/
theorem endsO_cell {p ty n i : Nat} {o : Ob} {us : List Value} {ovs : List OV} {bs : List Nat} [ht : TN P ty n] (hsc : Sc C0 C) (hr : fn.results = #[.cell p ty]) (h1 : look S.env p = .obj i 0) (h2 : S.σ[i]? = some o) (h3 : o.cs = us.map fun u => .ro (.c u)) (hl : us.length = n)
    (hov : OV.rels C.w0 ovs us bs) (hfix : ∀ b ∈ bs, b < C.w0.heap.size ∧ ¬ C.mu b) (hnd : bs.Nodup) (hnew : ∀ b ∈ bs, C0.w0.heap.size ≤ b) : ∀ a w, Sim C S a w → EndsO P C0 fn (.agg ovs) a w := by
  rintro a w ⟨s1, s2, φ, hG, hH⟩
  have hcs : o.cs.length = n := by rw [h3, List.length_map, hl]
  obtain ⟨u, k1, k2⟩ := resV_run (P := P) (x := .cell p ty) (v := .agg ((o.cs.drop 0).take n)) hG hH (by simp only [ResV]; exact ⟨i, 0, o, h1, h2, .inr ⟨n, ht, by omega, rfl⟩⟩)
  rw [List.drop_zero, List.take_of_length_le (by omega), h3] at k2
  simp only [AV.rel] at k2
  obtain ⟨vs, rfl, hvs⟩ := k2
  have e := rels_ac us _ hvs
  refine ⟨s1, .agg vs, by rw [results_eq, hr]; simp [k1], bs, ?_, hnd, fun b hb => ⟨hnew b hb, Nat.lt_of_lt_of_le (hfix b hb).1 hG.frm.size⟩, hsc.end_ hG⟩
  simp only [OV.rel]
  exact ⟨vs, rfl, by rw [e]; exact OV.rels_keep ovs us bs hov fun b hb => hG.frm.block b (hfix b hb).1 (hfix b hb).2⟩
/-- It ends with a row of the frame's own, whose cells are plain values of the frame. -/
theorem endsO_row {t i sz : Nat} {e : TypeId} {us : List Value} {ovs : List OV} {bs : List Nat} (hsc : Sc C0 C) (hr : fn.results = #[.tmp t]) (h1 : look S.env t = .own i) (h2 : S.σ[i]? = some ⟨e, sz, us.map fun u => .ro (.c u)⟩)
    (hov : OV.rels C.w0 ovs us bs) (hfix : ∀ b ∈ bs, b < C.w0.heap.size ∧ ¬ C.mu b) (hnd : bs.Nodup) (hnew : ∀ b ∈ bs, C0.w0.heap.size ≤ b) : ∀ a w, Sim C S a w → EndsO P C0 fn (.row e sz ovs) a w := by
  rintro a w ⟨s1, s2, φ, hG, hH⟩
  have hu := hH t
  rw [h1] at hu
  have h2' : (⟨w, φ, S.σ, C.ok⟩ : Mem).σ[i]? = some ⟨e, sz, (us.map RV.c).map .ro⟩ := by rw [List.map_map]; exact h2
  obtain ⟨n, xs, k1, k2, k3, k4, k5, k6⟩ := row_own (cs := us.map .c) hG h2' hu
  have e1 := agg_flat (m := ⟨w, φ, S.σ, C.ok⟩) us xs k3
  subst e1
  have hkeep := OV.rels_keep (w' := w) ovs xs bs hov fun b hb => hG.frm.block b (hfix b hb).1 (hfix b hb).2
  have hil : i < S.σ.length := (List.getElem?_eq_some_iff.1 h2).1
  refine ⟨s1, a.tmps.getD t undef, by rw [results_eq, hr]; simp [resRun], (a.tmps.getD t undef).ownBlock.toList ++ bs, ?_, ?_, fun b hb => ?_, hsc.end_ hG⟩
  · simp only [OV.rel]
    exact ⟨n, xs, bs, by rw [← OV.rels_len ovs xs bs hov]; simpa using k1, k2, hkeep, k4, k5, rfl⟩
  · rw [k6, List.nodup_append]
    refine ⟨(show ∀ o : Option Nat, o.toList.Nodup from fun o => by cases o <;> simp) _, hnd, fun x hx y hy => ?_⟩
    rintro rfl
    have hx' : φ i = some x := by simpa [Option.mem_toList] using hx
    rcases hG.mine i x hil hx' with h | h
    · exact (hfix x hy).2 h
    · have := (hfix x hy).1; omega
  · rcases List.mem_append.1 hb with hb | hb
    · rw [k6] at hb
      have hb' : φ i = some b := by simpa [Option.mem_toList] using hb
      refine ⟨?_, hG.lt hil hb'⟩
      rcases hG.mine i b hil hb' with h | h
      · exact hsc.mu b h
      · exact Nat.le_trans hsc.below.size h
    · exact ⟨hnew b hb, Nat.lt_of_lt_of_le (hfix b hb).1 hG.frm.size⟩
end
/-! ### Results of plain cells. -/
mutual
def RO : RR → OV → Prop
  | .ro r, o => ∃ v, r = .c v ∧ o = .c v
  | .row e sz cs, o => ∃ vs : List Value, cs = vs.map .c ∧ o = .row e sz (vs.map .c)
  | .agg rs, o => ∃ os, o = .agg os ∧ ROs rs os
  | .tup rs, o => ∃ os, o = .tup os ∧ ROs rs os
def ROs : List RR → List OV → Prop
  | [], os => os = []
  | x :: xs, os => ∃ o os', os = o :: os' ∧ RO x o ∧ ROs xs os'
end
mutual
theorem ro_rel {w : World} {ok : Nat → Prop} : ∀ (rr : RR) (o : OV) (u : Value) (bs : List Nat), RO rr o → rr.rel w ok u bs → OV.rel w o u bs
  | .ro r, o, u, bs, h, hr => by
    simp only [RO] at h
    obtain ⟨v, rfl, rfl⟩ := h
    simp only [RR.rel, RV.rel] at hr
    simp only [OV.rel]
    exact hr
  | .row e sz cs, o, u, bs, h, hr => by
    simp only [RO] at h
    obtain ⟨vs, rfl, rfl⟩ := h
    simp only [RR.rel] at hr
    obtain ⟨n, xs, k1, k2, k3, k4, k5, rfl⟩ := hr
    have e2 := agg_flat (m := ⟨w, fun _ => none, [], ok⟩) vs xs (RV.rels_mono ⟨Nat.le_refl _, fun b _ hb => ⟨⟨hb, fun i hi => by simp at hi⟩, rfl⟩⟩ _ _ k3)
    subst e2
    simp only [OV.rel]
    exact ⟨n, xs, [], by simpa using k1, k2, OV.rels_c xs, k4, k5, by simp⟩
  | .agg rs, o, u, bs, h, hr => by
    simp only [RO] at h
    obtain ⟨os, rfl, h⟩ := h
    simp only [RR.rel] at hr
    obtain ⟨us, rfl, hr⟩ := hr
    simp only [OV.rel]
    exact ⟨us, rfl, ros_rel rs os _ bs h hr⟩
  | .tup rs, o, u, bs, h, hr => by
    simp only [RO] at h
    obtain ⟨os, rfl, h⟩ := h
    simp only [RR.rel] at hr
    obtain ⟨us, rfl, hr⟩ := hr
    simp only [OV.rel]
    exact ⟨us, rfl, ros_rel rs os _ bs h hr⟩
theorem ros_rel {w : World} {ok : Nat → Prop} : ∀ (rs : List RR) (os : List OV) (us : List Value) (bs : List Nat), ROs rs os → RR.rels w ok rs us bs → OV.rels w os us bs
  | [], os, us, bs, h, hr => by
    simp only [ROs] at h; subst h
    simpa [RR.rels, OV.rels] using hr
  | x :: xs, os, us, bs, h, hr => by
    simp only [ROs] at h
    obtain ⟨o, os', rfl, h1, h2⟩ := h
    simp only [RR.rels] at hr
    obtain ⟨u, us', b, bs', rfl, rfl, k1, k2⟩ := hr
    simp only [OV.rels]
    exact ⟨u, us', b, bs', rfl, rfl, ro_rel x o u b h1 k1, ros_rel xs os' us' bs' h2 k2⟩
end
theorem aco_of {P : Program} {f : FuncId} {args : List RV} {rr : RR} {ov : OV} (h : AC P f args fun r => r = rr) (hr : RO rr ov) : ACo P f args ov := by
  intro w us hu
  refine (h w (fun _ => True) us (fun _ _ => trivial) hu).mono ?_
  rintro e w' ⟨u, _, bs, rfl, rfl, h1, h2, h3, h4⟩
  exact ⟨u, bs, rfl, ro_rel _ _ _ _ hr h1, h2, h3, h4⟩
section
variable {P : Program} {C : Ctx} {env : Env} {σ : List Ob} {t : Nat} {ty : TypeId} {pos : String} {after : Array Edge} {gd : Option (Nat × Bool)}
/-- A part of several results, as a plain value of the frame. -/
theorem pu_extractC {x : Operand} {j : Nat} {vs : Array Value} {v : Value} (hx : ev env x = .ro (.c (.tuple vs))) (hj : vs[j]? = some v) : Pur P C ⟨some t, .extract x j, ty, pos, after, gd⟩ env σ (.ro (constRV v)) :=
  Pur.of (fun a m hG hσ hH => ⟨v, by simp [execOp, ev_c (hH x (by simp [Op.operands, Call.operands])) hx, Instr.extract, hj], by simp only [AV.rel]; exact rel_constRV v⟩)
end
theorem row_slice {w : World} {e : TypeId} {sz : Nat} {cs : List OV} {u : Value} {bs : List Nat} (h : OV.rel w (.row e sz cs) u bs) : ∃ A n c, u = .slice A n c := by
  simp only [OV.rel] at h
  obtain ⟨n, xs, bs', _, _, _, _, h5, _⟩ := h
  rcases h5.2 with ⟨rfl, _⟩ | ⟨g, cap, cur, rfl, _⟩
  · exact ⟨_, _, _, rfl⟩
  · exact ⟨_, _, _, rfl⟩
end Go.Proofs.Ytkhnijggbfoimaa
/- Marks: functions that write into a value that they are handed. Steps on memory that is known by its block. Over any program. -/
namespace Go.Proofs.Ytkhnijggbfoimaa
set_option linter.unusedSimpArgs false
set_option linter.unusedVariables false
open Go.RowKit
open AV (Mem Keeps)
/-- A block whose cells are known; nothing else of the frame speaks of it. -/
structure Bk (C : Ctx) (g : Nat) (us : Array Value) (e : TypeId) : Prop where
  cells : C.w0.heap[g]? = some (.cells us e (0, 0))
  mu : ¬ C.mu g
  ok : ¬ C.ok g
theorem Bk.lt {C : Ctx} {g : Nat} {us : Array Value} {e : TypeId} (h : Bk C g us e) : g < C.w0.heap.size := (Array.getElem?_eq_some_iff.1 h.cells).1
theorem Bk.now {C : Ctx} {m : Mem} {g : Nat} {us : Array Value} {e : TypeId} (h : Bk C g us e) (hG : Good C m) : m.w.heap[g]? = some (.cells us e (0, 0)) := (hG.frm.block g h.lt h.mu).trans h.cells
theorem Bk.next {C C' : Ctx} {g : Nat} {us : Array Value} {e : TypeId} {ds : List Nat} (h : Bk C g us e) (k : Nx C C' ds) (hd : g ∉ ds) : Bk C' g us e :=
  ⟨(k.block g h.lt h.mu hd).trans h.cells, fun hm => (k.mu g hm).elim h.mu fun h1 => by have := h.lt; omega, fun ho => h.ok (k.ok g ho)⟩
section
variable {P : Program} {C : Ctx} {ops : Array Oper} {rest : List Oper} {k : List Item} {R : Act → World → Prop} {env : Env} {σ : List Ob} {t : Nat} {ty : TypeId} {pos : String} {after : Array Edge} {gd : Option (Nat × Bool)}
theorem pu_lenC {tt : TypeId} {e : TypeId} {z : Value} {sz bytes : Nat} {x : Operand} {A : Option Addr} {n cap : Nat} [hs : SL P tt e z sz bytes] (hx : ev env x = .ro (.c (.slice A n cap))) :
    Pur P C ⟨some t, .call { callee := .builtin .len, args := #[x], argTypes := #[tt] }, ty, pos, after, gd⟩ env σ (.int (n : Int)) :=
  Pur.of (fun a m hG hσ hH => ⟨.int .i64 n, by simp [execOp, resolve, invoke, builtin, ev_c (hH _ (by simp [Op.operands, Call.operands])) hx, Builtin.len_, run_underlying hs.el.ht, goInt], by simp [AV.rel, RV.rel]⟩)
theorem pu_indexC {tt : TypeId} {e : TypeId} {z : Value} {sz bytes : Nat} {x ix : Operand} {kd : IntKind} {p : Int} {g n cap : Nat} [hs : SL P tt e z sz bytes]
    (hx : ev env x = .ro (.c (.slice (some ⟨g, 0, none⟩) n cap))) (hi : ev env ix = .ro (.c (.int kd p))) (h0 : 0 ≤ p) (hlt : p < n) : Pur P C ⟨some t, .indexAddr tt x ix, ty, pos, after, gd⟩ env σ (.ro (.c (.pointer (some ⟨g, p.toNat * sz, none⟩)))) :=
  Pur.of (fun a m hG hσ hH => by
    obtain ⟨ii, i1, i2, i3, i4⟩ := hs.el.hi
    refine ⟨.pointer (some ⟨g, 0 + p.toNat * sz, none⟩), ?_, by simp [AV.rel, RV.rel]⟩
    have : (0 ≤ p ∧ p < (n : Int)) := by omega
    simp [execOp, ev_c (hH _ (by simp [Op.operands, Call.operands])) hx, ev_c (hH _ (by simp [Op.operands, Call.operands])) hi, Instr.indexAt, asIntOf, run_underlying hs.el.ht, this, sizeOf, typeInfo, i1, i3, Addr.add_lit])
theorem pu_fieldC {s : TypeId} {x : Operand} {f off g o : Nat} [FA P s f off] (hx : ev env x = .ro (.c (.pointer (some ⟨g, o, none⟩)))) : Pur P C ⟨some t, .fieldAddr s x f, ty, pos, after, gd⟩ env σ (.ro (.c (.pointer (some ⟨g, o + off, none⟩)))) :=
  Pur.of (fun a m hG hσ hH => ⟨.pointer (some ⟨g, o + off, none⟩), by simp [execOp, ev_c (hH _ (by simp [Op.operands, Call.operands])) hx, run_fieldAt], by simp [AV.rel, RV.rel]⟩)
theorem pu_loadC {tt e : TypeId} {x : Operand} {g o : Nat} {us : Array Value} {v : Value} [T1 P tt] (hx : ev env x = .ro (.c (.pointer (some ⟨g, o, none⟩)))) (hb : Bk C g us e) (hv : us[o]? = some v) : Pur P C ⟨some t, .load tt x, ty, pos, after, gd⟩ env σ (.ro (.c v)) :=
  Pur.of (fun a m hG hσ hH => by
    have hc : m.w.cell? ⟨g, o, none⟩ = some v := by rw [cell_of_row _ g o us _ _ (hb.now hG)]; exact hv
    exact ⟨v, by simp [execOp, ev_c (hH _ (by simp [Op.operands, Call.operands])) hx, Instr.loadAt, Instr.sureAddr, loadVar, run_isAgg1, run_load, hc], by simp [AV.rel, RV.rel]⟩)
/-- The context from a world on, of which the blocks bs are known and nothing else speaks. -/
theorem new_ctx {w w' : World} {φ : Nat → Option Nat} {bs : List Nat} (hG : Good C ⟨w, φ, σ, C.ok⟩) (hb : ∀ b ∈ bs, b < w.heap.size ∧ ¬ C.ok b ∧ ∀ i, i < σ.length → φ i ≠ some b)
    (h1 : w'.os = w.os) (h2 : w'.tape = w.tape) (h3 : w'.output = w.output) (h4 : w.heap.size ≤ w'.heap.size) (h5 : ∀ b, b < w.heap.size → b ∉ bs → w'.heap[b]? = w.heap[b]?) :
    Nx C ⟨w', C.ok, mine φ σ.length, C.n⟩ bs ∧ Good ⟨w', C.ok, mine φ σ.length, C.n⟩ ⟨w', φ, σ, C.ok⟩ ∧ Keeps (fun _ => True) ⟨w, φ, σ, C.ok⟩ ⟨w', φ, σ, C.ok⟩ := by
  have hlt : ∀ (i g : Nat), i < σ.length → φ i = some g → g < w.heap.size := fun i g hi hg => hG.lt hi hg
  have hsame : ∀ i g, i < σ.length → φ i = some g → w'.heap[g]? = w.heap[g]? := fun i g hi hg => h5 g (hlt i g hi hg) fun hm => (hb g hm).2.2 i hi hg
  have hK : Keeps (fun _ => True) ⟨w, φ, σ, C.ok⟩ ⟨w', φ, σ, C.ok⟩ :=
    ⟨⟨h4, fun b hlt ho => ⟨ho, h5 b hlt fun hm => (hb b hm).2.1 ho.1⟩⟩, fun i _ hi => ⟨hi, rfl⟩, fun i ob _ hi => ⟨ob.cs, hi, rfl⟩, fun i g us t _ hi hg hh => ⟨us, (hsame i g hi hg).trans hh, rfl⟩⟩
  refine ⟨⟨rfl, h1.trans hG.frm.os, h2.trans hG.frm.tape, h3.trans hG.frm.output, Nat.le_trans hG.frm.size h4, fun b hb1 hm hn => (h5 b (Nat.lt_of_lt_of_le hb1 hG.frm.size) hn).trans (hG.frm.block b hb1 hm), fun b ⟨i, hi, hg⟩ => hG.mine i b hi hg, fun b hb => hb⟩, ?_, hK⟩
  exact ⟨rfl, hG.inj, fun i o hi => (hG.ob i o hi).keeps hK fun g hg => hsame i g (List.getElem?_eq_some_iff.1 hi).1 hg, fun i g hi hg => .inl ⟨i, hi, hg⟩, ⟨rfl, rfl, rfl, Nat.le_refl _, fun _ _ _ => rfl, fun b hb => hG.frm.new b (Nat.le_trans hG.frm.size (Nat.le_trans h4 hb))⟩⟩
/-- A store into such a block: the context is a new one from there on. -/
theorem op_storeC {tt e : TypeId} {x y : Operand} {g o : Nat} {us : Array Value} {v : Value} [T1 P tt] (hx : ev env x = .ro (.c (.pointer (some ⟨g, o, none⟩)))) (hy : ev env y = .ro (.c v)) (h1 : v.oneCell' = true) (hb : Bk C g us e) (hlt : o < us.size)
    (hk : ∀ C', Nx C C' [g] → Bk C' g (us.setIfInBounds o v) e → RunsL P C' ops rest k R ⟨env, σ⟩) : RunsL P C ops (⟨none, .store tt x y, ty, pos, after, none⟩ :: rest) k R ⟨env, σ⟩ := by
  refine ⟨fun a w ⟨s1, s2, φ, hG, hH⟩ => ?_⟩
  refine wpList_plain rfl fun K hK' => ?_
  have ex : a.eval x = .pointer (some ⟨g, o, none⟩) := ev_c (m := ⟨w, φ, σ, C.ok⟩) (ev_rel hH x) hx
  have ey : a.eval y = v := ev_c (m := ⟨w, φ, σ, C.ok⟩) (ev_rel hH y) hy
  have hh := hb.now hG
  have hc : w.cell? ⟨g, o, none⟩ = some us[o] := by rw [cell_of_row _ g o us _ _ hh]; exact Array.getElem?_eq_getElem hlt
  have hf : w.frozen? ⟨g, o, none⟩ = false := frozen_of_row w g o us e hh
  have hcell : v.cells = #[v] := by cases v <;> simp_all [Value.cells, Value.oneCell']
  have hr : (execOp a.eval (⟨none, .store tt x y, ty, pos, after, none⟩ : Oper)).run P w = .ok .skip (w.setCell ⟨g, o, none⟩ v) := by
    simp [execOp, ex, ey, Instr.storeAt, Instr.sureAddr, storeVar, hcell, run_size1 (P := P) (t := tt), storeCells, Addr.add_lit, run_store P w ⟨g, o, none⟩ v .plain h1, hc, hf]
  unfold Oper.wp
  rw [hr]
  simp only [Oper.upon]
  have hmine : ∀ i, i < σ.length → φ i ≠ some g := fun i hi hg => by
    rcases hG.mine i g hi hg with h | h
    · exact hb.mu h
    · have := hb.lt; omega
  obtain ⟨nx, hG', hKp⟩ := new_ctx (w' := w.setCell ⟨g, o, none⟩ v) (bs := [g]) hG (fun b hm => by
    rw [List.mem_singleton] at hm; subst hm
    exact ⟨Nat.lt_of_lt_of_le hb.lt hG.frm.size, hb.ok, hmine⟩) rfl rfl rfl (by simp) (fun b _ hn => Below.heap_setCell w ⟨g, o, none⟩ v b (by simpa using hn))
  refine hK' _ _ ((hk _ nx ⟨heap_setCell_same w g o us e v hh, fun ⟨i, hi, hg⟩ => hmine i hi hg, hb.ok⟩).run _ _ ⟨s1, s2, φ, hG', hH.keeps hKp⟩)
end
/-! ### Contracts. -/
/-- But for the blocks bs what was there stays. -/
structure Up (w w' : World) (bs : List Nat) : Prop where
  os : w'.os = w.os
  tape : w'.tape = w.tape
  output : w'.output = w.output
  size : w.heap.size ≤ w'.heap.size
  block : ∀ b, b < w.heap.size → b ∉ bs → w'.heap[b]? = w.heap[b]?
/-- The function writes into such a value and returns k'; the value is then that one. -/
def MK (P : Program) (f : FuncId) (ov : OV) (k k' : Int) (ov' : OV) : Prop :=
  ∀ (w : World) (u : Value) (bs : List Nat), OV.rel w ov u bs → bs.Nodup → (∀ b ∈ bs, b < w.heap.size) →
    Calls P f #[u, .int .i64 k] w fun e w' => e = .returned (.int .i64 k') ∧ OV.rel w' ov' u bs ∧ Up w w' bs
/-- The function writes into such a value and returns k'. -/
def MX (P : Program) (f : FuncId) (ov : OV) (k k' : Int) : Prop :=
  ∀ (w : World) (u : Value) (bs : List Nat), OV.rel w ov u bs → bs.Nodup → (∀ b ∈ bs, b < w.heap.size) →
    Calls P f #[u, .int .i64 k] w fun e w' => e = .returned (.int .i64 k') ∧ Up w w' bs
theorem MK.mx {P : Program} {f : FuncId} {ov ov' : OV} {k k' : Int} (h : MK P f ov k k' ov') : MX P f ov k k' := fun w u bs h1 h2 h3 => (h w u bs h1 h2 h3).mono fun _ _ h => ⟨h.1, h.2.2⟩
theorem Nx.sub {C C' : Ctx} {bs ds : List Nat} (h : Nx C C' bs) (hs : ∀ b ∈ bs, b ∈ ds) : Nx C C' ds :=
  ⟨h.n, h.os, h.tape, h.output, h.size, fun b h1 h2 h3 => h.block b h1 h2 fun hm => h3 (hs b hm), h.mu, h.ok⟩
theorem Nx.refl (C : Ctx) (bs : List Nat) : Nx C C bs := ⟨rfl, rfl, rfl, rfl, Nat.le_refl _, fun _ _ _ _ => rfl, fun _ h => .inl h, fun _ h => h⟩
theorem Nx.up {C C' : Ctx} {bs : List Nat} (h : Nx C C' bs) (hm : ∀ b, ¬ C.mu b) {m : Mem} (hG : Good C' m) : Up C.w0 m.w bs :=
  ⟨hG.frm.os.trans h.os, hG.frm.tape.trans h.tape, hG.frm.output.trans h.output, Nat.le_trans h.size hG.frm.size, fun b hb hn => (hG.frm.block b (Nat.lt_of_lt_of_le hb h.size) fun hmu => (h.mu b hmu).elim (hm b) fun h1 => by omega).trans (h.block b hb (hm b) hn)⟩
theorem const_eq {w : World} {ok : Nat → Prop} {u x : Value} (h : RV.rel w ok (constRV u) x) : x = u := by
  cases u <;> simp only [constRV, RV.rel] at h <;> try exact h
  obtain ⟨us, rfl, hr⟩ := h
  have := agg_flat (m := ⟨w, fun _ => none, [], ok⟩) _ _ (by
    refine RV.rels_mono ⟨Nat.le_refl _, fun b _ hb => ⟨⟨hb, fun i hi => by simp at hi⟩, rfl⟩⟩ _ _ hr)
  rw [← Array.toArray_toList (xs := us), this]
def EndsM (P : Program) (C0 : Ctx) (fn : Func) (k' : Int) (u : Value) (bs : List Nat) (X : World → Prop) (a : Act) (w : World) : Prop :=
  a.defers = [] ∧ (results fn a.tmps).run P w = .ok (.int .i64 k') w ∧ X w ∧ Up C0.w0 w bs
theorem mark_enter {P : Program} {f : FuncId} {fn : Func} {c : Code} {k k' : Int} {u : Value} {bs : List Nat} {w : World} {X : World → Prop} (hf : P.funcs[f]? = some fn) (hb : fn.body = some c) (n : Nat) (hn : fn.ntmps = n) (hl : 2 ≤ n) (hlt : ∀ b ∈ bs, b < w.heap.size)
    (h : Runs P ⟨w, fun b => b ∉ bs, fun _ => False, n⟩ [.code c] (EndsM P ⟨w, fun b => b ∉ bs, fun _ => False, n⟩ fn k' u bs X) ⟨startEnv 0 [constRV u, .int k], []⟩) :
    Calls P f #[u, .int .i64 k] w fun e w' => e = .returned (.int .i64 k') ∧ X w' ∧ Up w w' bs := by
  refine calls_of_fin hf hb ?_
  have hs : Sim ⟨w, fun b => b ∉ bs, fun _ => False, n⟩ ⟨startEnv 0 [constRV u, .int k], []⟩ { tmps := #[u, .int .i64 k] ++ Array.replicate (fn.ntmps - #[u, .int .i64 k].size) undef, defers := [] } w := by
    refine ⟨rfl, by simp; omega, fun _ => none, ⟨rfl, fun i j g hi => by simp at hi, fun i o hi => by simp at hi, fun i g hi => by simp at hi, ⟨rfl, rfl, rfl, Nat.le_refl _, fun _ _ _ => rfl, fun b hb hm => by have := hlt b hm; simp only at hb; omega⟩⟩, fun t => ?_⟩
    rw [start_look]
    simp only [Nat.zero_le, if_true, Nat.sub_zero]
    have hg : ∀ (v : Value) (j : Nat), ([u, .int .i64 k] : List Value)[j]? = some v → (#[u, .int .i64 k] ++ Array.replicate (fn.ntmps - #[u, Value.int .i64 k].size) undef).getD j undef = v := by
      intro v j hj
      have hlt : j < 2 := (List.getElem?_eq_some_iff.1 hj).1
      rw [Array.getD_eq_getD_getElem?, Array.getElem?_append_left (by simpa using hlt)]
      have : (#[u, Value.int .i64 k] : Array Value)[j]? = some v := by simpa using hj
      rw [this]; rfl
    match t with
    | 0 =>
      simp only [List.getElem?_cons_zero, AV.rel]
      rw [hg u 0 rfl]
      exact const_rel u
    | 1 =>
      simp only [List.getElem?_cons_succ, List.getElem?_cons_zero, AV.rel, RV.rel]
      exact hg _ 1 rfl
    | t + 2 => simp [AV.rel]
  have hr := h.run _ w hs
  intro b cs
  obtain ⟨a', w', todo, ⟨hd, hv, hx, hu⟩, hst⟩ := hr b cs
  exact ⟨a', w', todo, ⟨hd, _, hv, rfl, hx, hu⟩, hst⟩
section
variable {P : Program} {C C0 : Ctx} {S : St} {fn : Func}
theorem endsM {t : Nat} {k' : Int} {u : Value} {bs : List Nat} {X : World → Prop} (hnx : Nx C0 C bs) (hm : ∀ b, ¬ C0.mu b) (hr : fn.results = #[.tmp t]) (h1 : look S.env t = .int k') (hX : ∀ φ w, Good C ⟨w, φ, S.σ, C.ok⟩ → X w) : ∀ a w, Sim C S a w → EndsM P C0 fn k' u bs X a w := by
  rintro a w ⟨s1, s2, φ, hG, hH⟩
  have h := hH t
  rw [h1] at h
  simp only [AV.rel, RV.rel] at h
  exact ⟨s1, by rw [results_eq, hr]; simp [resRun, h], hX φ w hG, hnx.up hm hG⟩
end
section
variable {P : Program} {C : Ctx} {ops : Array Oper} {rest : List Oper} {k : List Item} {R : Act → World → Prop} {env : Env} {σ : List Ob} {t : Nat} {ty : TypeId} {pos : String} {after : Array Edge} {gd : Option (Nat × Bool)}
theorem op_callX {f : FuncId} {fn : Func} {xs : Array Operand} {ats : Array TypeId} {i i' : Int} {u : Value} {bs : List Nat} {X : World → Prop} [hfn : FN P f fn]
    (hf : ∀ w, (∀ b ∈ bs, w.heap[b]? = C.w0.heap[b]?) → (∀ b ∈ bs, b < w.heap.size) → Calls P f #[u, .int .i64 i] w fun e w' => e = .returned (.int .i64 i') ∧ X w' ∧ Up w w' bs)
    (hx : xs.toList.map (ev env) = [.ro (constRV u), .int i]) (hfix : ∀ b ∈ bs, b < C.w0.heap.size ∧ ¬ C.mu b ∧ ¬ C.ok b) (ht : t < C.n)
    (hk : ∀ C', Nx C C' bs → X C'.w0 → (∀ b ∈ bs, ¬ C'.mu b ∧ ¬ C'.ok b) → RunsL P C' ops rest k R ⟨(t, .int i') :: env, σ⟩) :
    RunsL P C ops (⟨some t, .call { callee := .value (.func f), args := xs, argTypes := ats }, ty, pos, after, none⟩ :: rest) k R ⟨env, σ⟩ := by
  refine ⟨fun a w ⟨s1, s2, φ, hG, hH⟩ => ?_⟩
  refine wpList_plain rfl fun K hK' => ?_
  have hr := rels_eval (a := a) (m := ⟨w, φ, σ, C.ok⟩) xs.toList fun x _ => ev_rel hH x
  rw [hx] at hr
  simp only [AV.rels, AV.rel] at hr
  obtain ⟨x1, us1, e1, r1, x2, us2, e2, r2, e3⟩ := hr
  have q1 := const_eq r1
  simp only [RV.rel] at r2
  have hargs : xs.map a.eval = #[u, .int .i64 i] := by
    apply Array.ext'
    rw [Array.toList_map, e1, e2, e3, q1, r2]
  unfold Oper.wp
  rw [execOp_call_go, run_call hfn]
  simp only [Oper.upon]
  have hmine : ∀ b ∈ bs, ∀ j, j < σ.length → φ j ≠ some b := fun b hb j hj hg => by
    rcases hG.mine j b hj hg with h | h
    · exact (hfix b hb).2.1 h
    · have := (hfix b hb).1; omega
  rw [hargs]
  refine (hf w (fun b hb => hG.frm.block b (hfix b hb).1 (hfix b hb).2.1) fun b hb => Nat.lt_of_lt_of_le (hfix b hb).1 hG.frm.size).mono ?_
  rintro e w' ⟨rfl, hX, hu⟩
  obtain ⟨nx, hG', hKp⟩ := new_ctx (w' := w') (bs := bs) hG (fun b hb => ⟨Nat.lt_of_lt_of_le (hfix b hb).1 hG.frm.size, (hfix b hb).2.2, hmine b hb⟩) hu.os hu.tape hu.output hu.size hu.block
  refine hK' _ _ ((hk _ nx hX fun b hb => ⟨fun ⟨j, hj, hg⟩ => hmine b hb j hj hg, (hfix b hb).2.2⟩).run _ _ ⟨s1, by simp [Act.put, s2], φ, hG', (hH.keeps hKp).put (by rw [s2]; exact ht) ?_⟩)
  simp [AV.rel, RV.rel]
end
end Go.Proofs.Ytkhnijggbfoimaa
/- Descriptions that the laws' helpers make: all in memory of their own. -/
namespace Go.Proofs.Ytkhnijggbfoimaa
set_option linter.unusedSimpArgs false
set_option linter.unusedVariables false
open Go.RowKit
def bytesO (l : List UInt8) : OV := .row 5 1 ((l.map fun z => Value.int .u8 (z.toNat : Int)).map .c)
def intsO (l : List Int) : OV := .row 3 1 ((l.map fun z => Value.int .i64 z).map .c)
set_option maxHeartbeats 4000000 in
theorem toBytesO_ac (a : List UInt8) (hl : a.length ≤ 4194304) : ACo Try.prog 22 [bytesR a] (bytesO a) := by
  refine aco_row (vs := a.map fun z => Value.int .u8 (z.toNat : Int)) ?_
  rw [List.map_map]
  refine ac_enter Try.func22 rfl _ Try.ntmps22 (by simp) fun C hn hm => ?_
  repeat' (first
 | refine RunsL.step tabOk hn rfl ?_
 | refine RunsL.nil ?_
 | refine Runs.toRegion 30 rfl ?_
 | refine op_make1 rfl rfl rfl rfl (by first | omega | (simp only [List.length_map]; omega)) (by unfold maxLen; simp only [List.length_map]; omega) (tl hn rfl) ?_
 | (refine Runs.ctls 30 rfl ?_; first | refine Runs.cond_t rfl ?_ | refine Runs.cond_f rfl ?_ | ((first | refine Runs.cond_yes rfl ?_ ?_ | refine Runs.cond_nno rfl ?_ ?_); · first | omega | rfl | assumption | (simp only [List.length_map]; omega)) | ((first | refine Runs.cond_no rfl ?_ ?_ | refine Runs.cond_nyes rfl ?_ ?_); · first | omega | rfl | assumption | (simp only [List.length_map]; omega)) | refine Runs.cond_dec rfl (fun h => ?_) (fun h => ?_) | refine Runs.cond_ndec rfl (fun h => ?_) (fun h => ?_) | refine Runs.cond_nb rfl (fun h => ?_) (fun h => ?_) | refine Runs.cond_b rfl (fun h => ?_) (fun h => ?_) | refine Runs.ret (ends_ro hm rfl rfl ?_) | exact Runs.ret (ends_cellR hm rfl rfl rfl (Nat.le_of_ble_eq_true rfl) rfl rfl))
 | refine op_box rfl (tl hn rfl) ?_
 | refine op_storeF rfl rfl rfl rfl (Nat.le_of_ble_eq_true rfl) ?_
 | refine op_alloc (tl hn rfl) ?_
 | refine op_storeN rfl rfl rfl rfl (Nat.le_of_ble_eq_true rfl) ?_
 | (refine RunsL.pe hn rfl rfl rfl ?_; first
 | refine ⟨_, pu_add rfl rfl (by omega), ?_⟩
 | refine ⟨_, pu_indexAddr_map rfl rfl (by omega) (by assumption), ?_⟩
 | refine ⟨_, pu_sub rfl rfl (by omega), ?_⟩
 | refine ⟨_, pu_pick_b rfl rfl rfl, ?_⟩
 | refine ⟨_, pu_mul rfl rfl (by omega), ?_⟩
 | refine ⟨_, pu_build rfl rfl rfl rfl rfl rfl, ?_⟩))
  refine Runs.loopN 30 rfl (fun j => [(0, .ro (bytesR a)), (3, .own 0), (4, .int (j : Int))]) (fun j => [⟨5, 1, (a.take j ++ List.replicate (a.length - j) 0).map fun z => .ro (.u8 z)⟩]) (fun _ => True) a.length 0 (Nat.zero_le _) trivial ⟨rfl, rfl, rfl, trivial⟩ (by simp) fun j hj _ next => ?_
  by_cases hlt : j < a.length
  · obtain ⟨x, hx⟩ : ∃ x, a[(j : Int).toNat]? = some x := ⟨_, List.getElem?_eq_getElem hlt⟩
    repeat' (first
 | refine RunsL.step tabOk hn rfl ?_
 | refine RunsL.nil ?_
 | refine Runs.toRegion 30 rfl ?_
 | refine op_storeF rfl rfl rfl rfl (by simp; omega) ?_
 | (refine RunsL.pe hn rfl rfl rfl ?_; first
 | refine ⟨_, pu_indexAddr_own (n := a.length) rfl rfl rfl rfl (by simp; omega) (by omega) (by omega), ?_⟩)
 | (refine Runs.ctls 30 rfl ?_; first | refine Runs.cond_t rfl ?_ | refine Runs.cond_f rfl ?_ | ((first | refine Runs.cond_yes rfl ?_ ?_ | refine Runs.cond_nno rfl ?_ ?_); · first | omega | rfl | assumption | (simp only [List.length_map]; omega)) | ((first | refine Runs.cond_no rfl ?_ ?_ | refine Runs.cond_nyes rfl ?_ ?_); · first | omega | rfl | assumption | (simp only [List.length_map]; omega)) | refine Runs.cond_dec rfl (fun h => ?_) (fun h => ?_) | refine Runs.cond_ndec rfl (fun h => ?_) (fun h => ?_) | refine Runs.cond_nb rfl (fun h => ?_) (fun h => ?_) | refine Runs.cond_b rfl (fun h => ?_) (fun h => ?_) | refine Runs.ret (ends_ro hm rfl rfl ?_) | exact Runs.ret (ends_cellR hm rfl rfl rfl (Nat.le_of_ble_eq_true rfl) rfl rfl))
 | refine op_box rfl (tl hn rfl) ?_
 | refine op_storeF rfl rfl rfl rfl (Nat.le_of_ble_eq_true rfl) ?_
 | refine op_alloc (tl hn rfl) ?_
 | refine op_storeN rfl rfl rfl rfl (Nat.le_of_ble_eq_true rfl) ?_
 | (refine RunsL.pe hn rfl rfl rfl ?_; first
 | refine ⟨_, pu_add rfl rfl (by omega), ?_⟩
 | refine ⟨_, pu_indexAddr_map rfl rfl (by omega) (by assumption), ?_⟩
 | refine ⟨_, pu_sub rfl rfl (by omega), ?_⟩
 | refine ⟨_, pu_pick_b rfl rfl rfl, ?_⟩
 | refine ⟨_, pu_mul rfl rfl (by omega), ?_⟩
 | refine ⟨_, pu_build rfl rfl rfl rfl rfl rfl, ?_⟩))
    refine next _ _ ⟨rfl, rfl, rfl, trivial⟩ hlt trivial ?_
    have h := take_set a 0 a.length j rfl x hx
    simp only [List.set_cons_zero, Nat.mul_one, Int.toNat_natCast]
    rw [← h, List.map_set]
  · obtain rfl : j = a.length := by omega
    repeat' (first
 | refine RunsL.step tabOk hn rfl ?_
 | refine RunsL.nil ?_
 | refine Runs.toRegion 30 rfl ?_
 | (refine Runs.ctls 30 rfl ?_; first | refine Runs.cond_t rfl ?_ | refine Runs.cond_f rfl ?_ | ((first | refine Runs.cond_yes rfl ?_ ?_ | refine Runs.cond_nno rfl ?_ ?_); · first | omega | rfl | assumption | (simp only [List.length_map]; omega)) | ((first | refine Runs.cond_no rfl ?_ ?_ | refine Runs.cond_nyes rfl ?_ ?_); · first | omega | rfl | assumption | (simp only [List.length_map]; omega)) | refine Runs.cond_dec rfl (fun h => ?_) (fun h => ?_) | refine Runs.cond_ndec rfl (fun h => ?_) (fun h => ?_) | refine Runs.cond_nb rfl (fun h => ?_) (fun h => ?_) | refine Runs.cond_b rfl (fun h => ?_) (fun h => ?_) | refine Runs.ret (ends_ro hm rfl rfl ?_) | exact Runs.ret (ends_cellR hm rfl rfl rfl (Nat.le_of_ble_eq_true rfl) rfl rfl))
 | refine op_box rfl (tl hn rfl) ?_
 | refine op_storeF rfl rfl rfl rfl (Nat.le_of_ble_eq_true rfl) ?_
 | refine op_alloc (tl hn rfl) ?_
 | refine op_storeN rfl rfl rfl rfl (Nat.le_of_ble_eq_true rfl) ?_
 | (refine RunsL.pe hn rfl rfl rfl ?_; first
 | refine ⟨_, pu_add rfl rfl (by omega), ?_⟩
 | refine ⟨_, pu_indexAddr_map rfl rfl (by omega) (by assumption), ?_⟩
 | refine ⟨_, pu_sub rfl rfl (by omega), ?_⟩
 | refine ⟨_, pu_pick_b rfl rfl rfl, ?_⟩
 | refine ⟨_, pu_mul rfl rfl (by omega), ?_⟩
 | refine ⟨_, pu_build rfl rfl rfl rfl rfl rfl, ?_⟩))
    exact Runs.ctls 30 rfl (Runs.ret (ends_own (rs := a.map RV.u8) hm rfl rfl rfl (by simp) rfl))
theorem toIntsO_ac (a : List Int) (hl : a.length ≤ 4194304) : ACo Try.prog 38 [intsR a] (intsO a) := by
  refine aco_row (vs := a.map fun z => Value.int .i64 z) ?_
  rw [List.map_map]
  refine ac_enter Try.func38 rfl _ Try.ntmps38 (by simp) fun C hn hm => ?_
  repeat' (first
 | refine RunsL.step tabOk hn rfl ?_
 | refine RunsL.nil ?_
 | refine Runs.toRegion 30 rfl ?_
 | refine op_make1 rfl rfl rfl rfl (by first | omega | (simp only [List.length_map]; omega)) (by unfold maxLen; simp only [List.length_map]; omega) (tl hn rfl) ?_
 | (refine Runs.ctls 30 rfl ?_; first | refine Runs.cond_t rfl ?_ | refine Runs.cond_f rfl ?_ | ((first | refine Runs.cond_yes rfl ?_ ?_ | refine Runs.cond_nno rfl ?_ ?_); · first | omega | rfl | assumption | (simp only [List.length_map]; omega)) | ((first | refine Runs.cond_no rfl ?_ ?_ | refine Runs.cond_nyes rfl ?_ ?_); · first | omega | rfl | assumption | (simp only [List.length_map]; omega)) | refine Runs.cond_dec rfl (fun h => ?_) (fun h => ?_) | refine Runs.cond_ndec rfl (fun h => ?_) (fun h => ?_) | refine Runs.cond_nb rfl (fun h => ?_) (fun h => ?_) | refine Runs.cond_b rfl (fun h => ?_) (fun h => ?_) | refine Runs.ret (ends_ro hm rfl rfl ?_) | exact Runs.ret (ends_cellR hm rfl rfl rfl (Nat.le_of_ble_eq_true rfl) rfl rfl))
 | refine op_box rfl (tl hn rfl) ?_
 | refine op_storeF rfl rfl rfl rfl (Nat.le_of_ble_eq_true rfl) ?_
 | refine op_alloc (tl hn rfl) ?_
 | refine op_storeN rfl rfl rfl rfl (Nat.le_of_ble_eq_true rfl) ?_
 | (refine RunsL.pe hn rfl rfl rfl ?_; first
 | refine ⟨_, pu_add rfl rfl (by omega), ?_⟩
 | refine ⟨_, pu_indexAddr_map rfl rfl (by omega) (by assumption), ?_⟩
 | refine ⟨_, pu_sub rfl rfl (by omega), ?_⟩
 | refine ⟨_, pu_pick_b rfl rfl rfl, ?_⟩
 | refine ⟨_, pu_mul rfl rfl (by omega), ?_⟩
 | refine ⟨_, pu_build rfl rfl rfl rfl rfl rfl, ?_⟩))
  refine Runs.loopN 30 rfl (fun j => [(0, .ro (intsR a)), (3, .own 0), (4, .int (j : Int))]) (fun j => [⟨3, 1, (a.take j ++ List.replicate (a.length - j) 0).map fun z => .ro (.int z)⟩]) (fun _ => True) a.length 0 (Nat.zero_le _) trivial ⟨rfl, rfl, rfl, trivial⟩ (by simp) fun j hj _ next => ?_
  by_cases hlt : j < a.length
  · obtain ⟨x, hx⟩ : ∃ x, a[(j : Int).toNat]? = some x := ⟨_, List.getElem?_eq_getElem hlt⟩
    repeat' (first
 | refine RunsL.step tabOk hn rfl ?_
 | refine RunsL.nil ?_
 | refine Runs.toRegion 30 rfl ?_
 | refine op_storeF rfl rfl rfl rfl (by simp; omega) ?_
 | (refine RunsL.pe hn rfl rfl rfl ?_; first
 | refine ⟨_, pu_indexAddr_own (n := a.length) rfl rfl rfl rfl (by simp; omega) (by omega) (by omega), ?_⟩)
 | (refine Runs.ctls 30 rfl ?_; first | refine Runs.cond_t rfl ?_ | refine Runs.cond_f rfl ?_ | ((first | refine Runs.cond_yes rfl ?_ ?_ | refine Runs.cond_nno rfl ?_ ?_); · first | omega | rfl | assumption | (simp only [List.length_map]; omega)) | ((first | refine Runs.cond_no rfl ?_ ?_ | refine Runs.cond_nyes rfl ?_ ?_); · first | omega | rfl | assumption | (simp only [List.length_map]; omega)) | refine Runs.cond_dec rfl (fun h => ?_) (fun h => ?_) | refine Runs.cond_ndec rfl (fun h => ?_) (fun h => ?_) | refine Runs.cond_nb rfl (fun h => ?_) (fun h => ?_) | refine Runs.cond_b rfl (fun h => ?_) (fun h => ?_) | refine Runs.ret (ends_ro hm rfl rfl ?_) | exact Runs.ret (ends_cellR hm rfl rfl rfl (Nat.le_of_ble_eq_true rfl) rfl rfl))
 | refine op_box rfl (tl hn rfl) ?_
 | refine op_storeF rfl rfl rfl rfl (Nat.le_of_ble_eq_true rfl) ?_
 | refine op_alloc (tl hn rfl) ?_
 | refine op_storeN rfl rfl rfl rfl (Nat.le_of_ble_eq_true rfl) ?_
 | (refine RunsL.pe hn rfl rfl rfl ?_; first
 | refine ⟨_, pu_add rfl rfl (by omega), ?_⟩
 | refine ⟨_, pu_indexAddr_map rfl rfl (by omega) (by assumption), ?_⟩
 | refine ⟨_, pu_sub rfl rfl (by omega), ?_⟩
 | refine ⟨_, pu_pick_b rfl rfl rfl, ?_⟩
 | refine ⟨_, pu_mul rfl rfl (by omega), ?_⟩
 | refine ⟨_, pu_build rfl rfl rfl rfl rfl rfl, ?_⟩))
    refine next _ _ ⟨rfl, rfl, rfl, trivial⟩ hlt trivial ?_
    have h := take_set a 0 a.length j rfl x hx
    simp only [List.set_cons_zero, Nat.mul_one, Int.toNat_natCast]
    rw [← h, List.map_set]
  · obtain rfl : j = a.length := by omega
    repeat' (first
 | refine RunsL.step tabOk hn rfl ?_
 | refine RunsL.nil ?_
 | refine Runs.toRegion 30 rfl ?_
 | (refine Runs.ctls 30 rfl ?_; first | refine Runs.cond_t rfl ?_ | refine Runs.cond_f rfl ?_ | ((first | refine Runs.cond_yes rfl ?_ ?_ | refine Runs.cond_nno rfl ?_ ?_); · first | omega | rfl | assumption | (simp only [List.length_map]; omega)) | ((first | refine Runs.cond_no rfl ?_ ?_ | refine Runs.cond_nyes rfl ?_ ?_); · first | omega | rfl | assumption | (simp only [List.length_map]; omega)) | refine Runs.cond_dec rfl (fun h => ?_) (fun h => ?_) | refine Runs.cond_ndec rfl (fun h => ?_) (fun h => ?_) | refine Runs.cond_nb rfl (fun h => ?_) (fun h => ?_) | refine Runs.cond_b rfl (fun h => ?_) (fun h => ?_) | refine Runs.ret (ends_ro hm rfl rfl ?_) | exact Runs.ret (ends_cellR hm rfl rfl rfl (Nat.le_of_ble_eq_true rfl) rfl rfl))
 | refine op_box rfl (tl hn rfl) ?_
 | refine op_storeF rfl rfl rfl rfl (Nat.le_of_ble_eq_true rfl) ?_
 | refine op_alloc (tl hn rfl) ?_
 | refine op_storeN rfl rfl rfl rfl (Nat.le_of_ble_eq_true rfl) ?_
 | (refine RunsL.pe hn rfl rfl rfl ?_; first
 | refine ⟨_, pu_add rfl rfl (by omega), ?_⟩
 | refine ⟨_, pu_indexAddr_map rfl rfl (by omega) (by assumption), ?_⟩
 | refine ⟨_, pu_sub rfl rfl (by omega), ?_⟩
 | refine ⟨_, pu_pick_b rfl rfl rfl, ?_⟩
 | refine ⟨_, pu_mul rfl rfl (by omega), ?_⟩
 | refine ⟨_, pu_build rfl rfl rfl rfl rfl rfl, ?_⟩))
    exact Runs.ctls 30 rfl (Runs.ret (ends_own (rs := a.map RV.int) hm rfl rfl rfl (by simp) rfl))
theorem nodup_two {a b : List Nat} (k : Nat) (h1 : a.Nodup) (h2 : b.Nodup) (h3 : ∀ x ∈ a, x < k) (h4 : ∀ x ∈ b, k ≤ x) : (a ++ b).Nodup := by
  rw [List.nodup_append]
  exact ⟨h1, h2, fun x hx y hy e => by have := h3 x hx; have := h4 y hy; omega⟩
end Go.Proofs.Ytkhnijggbfoimaa
/- Marks on flat rows: written, and found again. -/
namespace Go.Proofs.Ytkhnijggbfoimaa
set_option linter.unusedSimpArgs false
set_option linter.unusedVariables false
open Go.RowKit
open AV (Mem Keeps)
theorem rels_cs {w : World} : ∀ (vs us : List Value) (bs : List Nat), OV.rels w (vs.map .c) us bs → us = vs ∧ bs = []
  | [], us, bs, h => by simpa [OV.rels] using h
  | v :: vs, us, bs, h => by
    simp only [List.map_cons, OV.rels, OV.rel] at h
    obtain ⟨u, us', b, bs', rfl, rfl, ⟨rfl, rfl⟩, h2⟩ := h
    obtain ⟨rfl, rfl⟩ := rels_cs vs us' bs' h2
    exact ⟨rfl, rfl⟩
theorem row_block {w : World} {e : TypeId} {vs : List Value} {u : Value} {bs : List Nat} (h : OV.rel w (.row e 1 (vs.map .c)) u bs) :
    (u = .slice none 0 0 ∧ vs = [] ∧ bs = []) ∨ ∃ g cap cur, u = .slice (some ⟨g, 0, none⟩) vs.length cap ∧ bs = [g] ∧ w.heap[g]? = some (.cells cur e (0, 0)) ∧ vs.length ≤ cap ∧ cap ≤ maxLen ∧ cur.size = cap ∧ cur.toList.take vs.length = vs := by
  simp only [OV.rel] at h
  obtain ⟨n, xs, bs', h1, h2, h3, h4, h5, rfl⟩ := h
  obtain ⟨rfl, rfl⟩ := rels_cs vs xs bs' h3
  rw [List.length_map, Nat.mul_one] at h1
  subst h1
  rcases h5.2 with ⟨rfl, h0⟩ | ⟨g, cap, cur, rfl, _, hh, c1, c2, c3, ht⟩
  · exact .inl ⟨rfl, List.eq_nil_of_length_eq_zero h0, rfl⟩
  · rw [Nat.mul_one] at c3 ht
    exact .inr ⟨g, cap, cur, rfl, rfl, hh, c1, c2, c3, ht⟩
theorem block_row {w : World} {e : TypeId} {vs : List Value} {g cap : Nat} {cur : Array Value} (hh : w.heap[g]? = some (.cells cur e (0, 0))) (c1 : vs.length ≤ cap) (c2 : cap ≤ maxLen) (c3 : cur.size = cap) (ht : cur.toList.take vs.length = vs) (h1 : ∀ x ∈ vs, x.oneCell' = true) :
    OV.rel w (.row e 1 (vs.map .c)) (.slice (some ⟨g, 0, none⟩) vs.length cap) [g] := by
  simp only [OV.rel]
  exact ⟨vs.length, vs, [], by simp, by omega, OV.rels_c vs, h1, ⟨by simp, .inr ⟨g, cap, cur, rfl, Nat.zero_le _, hh, c1, c2, by omega, by rw [Nat.mul_one]; exact ht⟩⟩, rfl⟩
/-- The marks of n cells. -/
def seqI (k : Int) (n : Nat) : List Int := (List.range n).map fun (i : Nat) => k + (i : Int)
theorem seqI_len (k : Int) (n : Nat) : (seqI k n).length = n := by unfold seqI; simp
theorem seqI_at {k : Int} {n i : Nat} (h : i < n) : (seqI k n)[i]? = some (k + i) := by unfold seqI; simp [h]
theorem seqI_succ (k : Int) (n : Nat) : seqI k (n + 1) = seqI k n ++ [k + n] := by unfold seqI; rw [List.range_succ, List.map_append]; rfl
/-- One more cell is marked. -/
theorem mark_next {cur : Array Value} {n j : Nat} {f : Int → Value} {k : Int} {vs : List Value} (hn : n ≤ cur.size) (hl : vs.length = n) (hj : j < n) (h : cur.toList.take n = (seqI k j).map f ++ vs.drop j) :
    (cur.setIfInBounds j (f (k + j))).toList.take n = (seqI k (j + 1)).map f ++ vs.drop (j + 1) := by
  rw [Array.toList_setIfInBounds, List.take_set, h, seqI_succ, List.map_append, List.append_assoc]
  have hs : ((seqI k j).map f).length = j := by rw [List.length_map, seqI_len]
  rw [List.set_append_right _ _ (by omega), hs, Nat.sub_self]
  have hd : vs.drop j = vs[j] :: vs.drop (j + 1) := (List.drop_eq_getElem_cons (by omega))
  rw [hd]
  rfl
set_option maxHeartbeats 8000000 in
theorem markIntS_mk (l : List Int) (k : Int) (h0 : 0 ≤ k) (hk : k ≤ 4611686018427387904) (hll : l.length ≤ 4194304) : MK Try.prog 45 (intsO l) k (k + l.length) (intsO (seqI k l.length)) := by
  intro w u bs h hnd hlt
  have hl : (l.map fun z => Value.int .i64 z).length = l.length := List.length_map ..
  rcases row_block h with ⟨rfl, h1, rfl⟩ | ⟨g, cap, cur, rfl, rfl, hh, c1, c2, c3, ht⟩
  · obtain rfl : l = [] := by simpa using h1
    refine mark_enter (X := fun w' => OV.rel w' (intsO (seqI k 0)) (.slice none 0 0) []) Try.func45 rfl _ Try.ntmps45 (by simp) hlt ?_
    generalize hC0 : (⟨w, fun b => b ∉ ([] : List Nat), fun _ => False, _⟩ : Ctx) = C0
    have hn : C0.n = 19 := by rw [← hC0]
    have hm0 : ∀ b, ¬ C0.mu b := by rw [← hC0]; exact fun _ h => h
    repeat' (first
 | refine RunsL.step tabOk hn rfl ?_
 | refine RunsL.nil ?_
 | refine Runs.toRegion 30 rfl ?_
 | (refine Runs.ctls 30 rfl ?_; first | refine Runs.cond_t rfl ?_ | refine Runs.cond_f rfl ?_ | ((first | refine Runs.cond_yes rfl ?_ ?_ | refine Runs.cond_nno rfl ?_ ?_); · first | omega | rfl | assumption | (simp only [List.length_map]; omega)) | ((first | refine Runs.cond_no rfl ?_ ?_ | refine Runs.cond_nyes rfl ?_ ?_); · first | omega | rfl | assumption | (simp only [List.length_map]; omega)) | refine Runs.cond_dec rfl (fun h => ?_) (fun h => ?_) | refine Runs.cond_ndec rfl (fun h => ?_) (fun h => ?_) | refine Runs.cond_nb rfl (fun h => ?_) (fun h => ?_) | refine Runs.cond_b rfl (fun h => ?_) (fun h => ?_) | refine Runs.ret (ends_ro hm rfl rfl ?_) | exact Runs.ret (ends_cellR hm rfl rfl rfl (Nat.le_of_ble_eq_true rfl) rfl rfl))
 | refine op_box rfl (tl hn rfl) ?_
 | refine op_storeF rfl rfl rfl rfl (Nat.le_of_ble_eq_true rfl) ?_
 | refine op_alloc (tl hn rfl) ?_
 | refine op_storeN rfl rfl rfl rfl (Nat.le_of_ble_eq_true rfl) ?_
 | (refine RunsL.pe hn rfl rfl rfl ?_; first
 | refine ⟨_, pu_add rfl rfl (by omega), ?_⟩
 | refine ⟨_, pu_indexAddr_map rfl rfl (by omega) (by assumption), ?_⟩
 | refine ⟨_, pu_sub rfl rfl (by omega), ?_⟩
 | refine ⟨_, pu_pick_b rfl rfl rfl, ?_⟩
 | refine ⟨_, pu_mul rfl rfl (by omega), ?_⟩
 | refine ⟨_, pu_build rfl rfl rfl rfl rfl rfl, ?_⟩))
    refine Runs.ctls 30 rfl (Runs.keep [(0, .ro (.c (.slice none 0 0))), (1, .int k), (5, .int 0)] ⟨rfl, rfl, rfl, trivial⟩ ?_)
    refine Runs.loopV (fun n C S => C = C0 ∧ S = ⟨[(0, .ro (.c (.slice none 0 0))), (1, .int k), (5, .int 0)], []⟩) ?_ 0 C0 _ ⟨rfl, rfl⟩
    rintro n C S ⟨rfl, rfl⟩ ih
    repeat' (first
 | refine RunsL.step tabOk hn rfl ?_
 | refine RunsL.nil ?_
 | refine Runs.toRegion 30 rfl ?_
 | (refine RunsL.pe hn rfl rfl rfl ?_; first
 | refine ⟨_, pu_lenC rfl, ?_⟩)
 | (refine Runs.ctls 30 rfl ?_; first | refine Runs.cond_t rfl ?_ | refine Runs.cond_f rfl ?_ | ((first | refine Runs.cond_yes rfl ?_ ?_ | refine Runs.cond_nno rfl ?_ ?_); · first | omega | rfl | assumption | (simp only [List.length_map]; omega)) | ((first | refine Runs.cond_no rfl ?_ ?_ | refine Runs.cond_nyes rfl ?_ ?_); · first | omega | rfl | assumption | (simp only [List.length_map]; omega)) | refine Runs.cond_dec rfl (fun h => ?_) (fun h => ?_) | refine Runs.cond_ndec rfl (fun h => ?_) (fun h => ?_) | refine Runs.cond_nb rfl (fun h => ?_) (fun h => ?_) | refine Runs.cond_b rfl (fun h => ?_) (fun h => ?_) | refine Runs.ret (ends_ro hm rfl rfl ?_) | exact Runs.ret (ends_cellR hm rfl rfl rfl (Nat.le_of_ble_eq_true rfl) rfl rfl))
 | refine op_box rfl (tl hn rfl) ?_
 | refine op_storeF rfl rfl rfl rfl (Nat.le_of_ble_eq_true rfl) ?_
 | refine op_alloc (tl hn rfl) ?_
 | refine op_storeN rfl rfl rfl rfl (Nat.le_of_ble_eq_true rfl) ?_
 | (refine RunsL.pe hn rfl rfl rfl ?_; first
 | refine ⟨_, pu_add rfl rfl (by omega), ?_⟩
 | refine ⟨_, pu_indexAddr_map rfl rfl (by omega) (by assumption), ?_⟩
 | refine ⟨_, pu_sub rfl rfl (by omega), ?_⟩
 | refine ⟨_, pu_pick_b rfl rfl rfl, ?_⟩
 | refine ⟨_, pu_mul rfl rfl (by omega), ?_⟩
 | refine ⟨_, pu_build rfl rfl rfl rfl rfl rfl, ?_⟩))
    refine Runs.ctls 30 rfl (Runs.ret (endsM (Nx.refl _ _) hm0 rfl (by show look _ _ = _; simp [look]) fun φ w hG => ?_))
    simp only [intsO, seqI, OV.rel, List.range_zero, List.map_nil, OV.rels]
    exact ⟨0, [], [], rfl, by omega, ⟨rfl, rfl⟩, by simp, ⟨rfl, .inl ⟨rfl, rfl⟩⟩, rfl⟩
  · rw [hl] at c1 ht ⊢
    refine mark_enter (X := fun w' => OV.rel w' (intsO (seqI k l.length)) (.slice (some ⟨g, 0, none⟩) l.length cap) [g]) Try.func45 rfl _ Try.ntmps45 (by simp) hlt ?_
    generalize hC0 : (⟨w, fun b => b ∉ [g], fun _ => False, _⟩ : Ctx) = C0
    have hn : C0.n = 19 := by rw [← hC0]
    have hm0 : ∀ b, ¬ C0.mu b := by rw [← hC0]; exact fun _ h => h
    have hb0 : Bk C0 g cur 3 := by rw [← hC0]; exact ⟨hh, fun h => h, fun h => h (by simp)⟩
    repeat' (first
 | refine RunsL.step tabOk hn rfl ?_
 | refine RunsL.nil ?_
 | refine Runs.toRegion 30 rfl ?_
 | (refine Runs.ctls 30 rfl ?_; first | refine Runs.cond_t rfl ?_ | refine Runs.cond_f rfl ?_ | ((first | refine Runs.cond_yes rfl ?_ ?_ | refine Runs.cond_nno rfl ?_ ?_); · first | omega | rfl | assumption | (simp only [List.length_map]; omega)) | ((first | refine Runs.cond_no rfl ?_ ?_ | refine Runs.cond_nyes rfl ?_ ?_); · first | omega | rfl | assumption | (simp only [List.length_map]; omega)) | refine Runs.cond_dec rfl (fun h => ?_) (fun h => ?_) | refine Runs.cond_ndec rfl (fun h => ?_) (fun h => ?_) | refine Runs.cond_nb rfl (fun h => ?_) (fun h => ?_) | refine Runs.cond_b rfl (fun h => ?_) (fun h => ?_) | refine Runs.ret (ends_ro hm rfl rfl ?_) | exact Runs.ret (ends_cellR hm rfl rfl rfl (Nat.le_of_ble_eq_true rfl) rfl rfl))
 | refine op_box rfl (tl hn rfl) ?_
 | refine op_storeF rfl rfl rfl rfl (Nat.le_of_ble_eq_true rfl) ?_
 | refine op_alloc (tl hn rfl) ?_
 | refine op_storeN rfl rfl rfl rfl (Nat.le_of_ble_eq_true rfl) ?_
 | (refine RunsL.pe hn rfl rfl rfl ?_; first
 | refine ⟨_, pu_add rfl rfl (by omega), ?_⟩
 | refine ⟨_, pu_indexAddr_map rfl rfl (by omega) (by assumption), ?_⟩
 | refine ⟨_, pu_sub rfl rfl (by omega), ?_⟩
 | refine ⟨_, pu_pick_b rfl rfl rfl, ?_⟩
 | refine ⟨_, pu_mul rfl rfl (by omega), ?_⟩
 | refine ⟨_, pu_build rfl rfl rfl rfl rfl rfl, ?_⟩))
    refine Runs.ctls 30 rfl (Runs.keep [(0, .ro (.c (.slice (some ⟨g, 0, none⟩) l.length cap))), (1, .int k), (5, .int 0)] ⟨rfl, rfl, rfl, trivial⟩ ?_)
    refine Runs.loopV (fun n C S => ∃ (j : Nat) (cu : Array Value), j + n = l.length ∧ C.n = 19 ∧ Nx C0 C [g] ∧ Bk C g cu 3 ∧ cu.size = cap ∧ cu.toList.take l.length = (seqI k j).map (Value.int .i64) ++ (l.map fun z => Value.int .i64 z).drop j ∧ S = ⟨[(0, .ro (.c (.slice (some ⟨g, 0, none⟩) l.length cap))), (1, .int (k + j)), (5, .int (j : Int))], []⟩) ?_ l.length C0 _ ⟨0, cur, by omega, hn, Nx.refl _ _, hb0, c3, by rw [ht]; rfl, by rw [show k + ((0 : Nat) : Int) = k by omega]; rfl⟩
    rintro n C S ⟨j, cu, hj, hn, hnx, hb, hcu, htk, rfl⟩ ih
    by_cases hlt' : j < l.length
    · repeat' (first
 | (refine op_storeC rfl rfl rfl hb (by simp; omega) fun C' nx hb' => ?_; have hn := nx.n.trans hn)
 | refine RunsL.step tabOk hn rfl ?_
 | refine RunsL.nil ?_
 | refine Runs.toRegion 30 rfl ?_
 | (refine RunsL.pe hn rfl rfl rfl ?_; first
 | refine ⟨_, pu_lenC rfl, ?_⟩
 | refine ⟨_, pu_indexC rfl rfl (by omega) (by omega), ?_⟩)
 | (refine Runs.ctls 30 rfl ?_; first | refine Runs.cond_t rfl ?_ | refine Runs.cond_f rfl ?_ | ((first | refine Runs.cond_yes rfl ?_ ?_ | refine Runs.cond_nno rfl ?_ ?_); · first | omega | rfl | assumption | (simp only [List.length_map]; omega)) | ((first | refine Runs.cond_no rfl ?_ ?_ | refine Runs.cond_nyes rfl ?_ ?_); · first | omega | rfl | assumption | (simp only [List.length_map]; omega)) | refine Runs.cond_dec rfl (fun h => ?_) (fun h => ?_) | refine Runs.cond_ndec rfl (fun h => ?_) (fun h => ?_) | refine Runs.cond_nb rfl (fun h => ?_) (fun h => ?_) | refine Runs.cond_b rfl (fun h => ?_) (fun h => ?_) | refine Runs.ret (ends_ro hm rfl rfl ?_) | exact Runs.ret (ends_cellR hm rfl rfl rfl (Nat.le_of_ble_eq_true rfl) rfl rfl))
 | refine op_box rfl (tl hn rfl) ?_
 | refine op_storeF rfl rfl rfl rfl (Nat.le_of_ble_eq_true rfl) ?_
 | refine op_alloc (tl hn rfl) ?_
 | refine op_storeN rfl rfl rfl rfl (Nat.le_of_ble_eq_true rfl) ?_
 | (refine RunsL.pe hn rfl rfl rfl ?_; first
 | refine ⟨_, pu_add rfl rfl (by omega), ?_⟩
 | refine ⟨_, pu_indexAddr_map rfl rfl (by omega) (by assumption), ?_⟩
 | refine ⟨_, pu_sub rfl rfl (by omega), ?_⟩
 | refine ⟨_, pu_pick_b rfl rfl rfl, ?_⟩
 | refine ⟨_, pu_mul rfl rfl (by omega), ?_⟩
 | refine ⟨_, pu_build rfl rfl rfl rfl rfl rfl, ?_⟩))
      have e : ((j : Int).toNat * 1) = j := by omega
      rw [e] at hb'
      have hmn := mark_next (f := Value.int .i64) (k := k) (vs := l.map fun z => Value.int .i64 z) (cur := cu) (by omega) hl hlt' htk
      refine Runs.ctls 30 rfl (Runs.keep [(0, .ro (.c (.slice (some ⟨g, 0, none⟩) l.length cap))), (1, .int (k + ((j + 1 : Nat) : Int))), (5, .int ((j + 1 : Nat) : Int))] ⟨rfl, by simp only [look]; exact av_int (by omega), by simp only [look]; exact av_int (by omega), trivial⟩ (ih (n - 1) (by omega) _ _ ⟨j + 1, _, by omega, hn, (hnx.trans nx).sub (by simp), hb', by simpa using hcu, hmn, rfl⟩))
    · obtain rfl : j = l.length := by omega
      repeat' (first
 | refine RunsL.step tabOk hn rfl ?_
 | refine RunsL.nil ?_
 | refine Runs.toRegion 30 rfl ?_
 | (refine RunsL.pe hn rfl rfl rfl ?_; first
 | refine ⟨_, pu_lenC rfl, ?_⟩)
 | (refine Runs.ctls 30 rfl ?_; first | refine Runs.cond_t rfl ?_ | refine Runs.cond_f rfl ?_ | ((first | refine Runs.cond_yes rfl ?_ ?_ | refine Runs.cond_nno rfl ?_ ?_); · first | omega | rfl | assumption | (simp only [List.length_map]; omega)) | ((first | refine Runs.cond_no rfl ?_ ?_ | refine Runs.cond_nyes rfl ?_ ?_); · first | omega | rfl | assumption | (simp only [List.length_map]; omega)) | refine Runs.cond_dec rfl (fun h => ?_) (fun h => ?_) | refine Runs.cond_ndec rfl (fun h => ?_) (fun h => ?_) | refine Runs.cond_nb rfl (fun h => ?_) (fun h => ?_) | refine Runs.cond_b rfl (fun h => ?_) (fun h => ?_) | refine Runs.ret (ends_ro hm rfl rfl ?_) | exact Runs.ret (ends_cellR hm rfl rfl rfl (Nat.le_of_ble_eq_true rfl) rfl rfl))
 | refine op_box rfl (tl hn rfl) ?_
 | refine op_storeF rfl rfl rfl rfl (Nat.le_of_ble_eq_true rfl) ?_
 | refine op_alloc (tl hn rfl) ?_
 | refine op_storeN rfl rfl rfl rfl (Nat.le_of_ble_eq_true rfl) ?_
 | (refine RunsL.pe hn rfl rfl rfl ?_; first
 | refine ⟨_, pu_add rfl rfl (by omega), ?_⟩
 | refine ⟨_, pu_indexAddr_map rfl rfl (by omega) (by assumption), ?_⟩
 | refine ⟨_, pu_sub rfl rfl (by omega), ?_⟩
 | refine ⟨_, pu_pick_b rfl rfl rfl, ?_⟩
 | refine ⟨_, pu_mul rfl rfl (by omega), ?_⟩
 | refine ⟨_, pu_build rfl rfl rfl rfl rfl rfl, ?_⟩))
      refine Runs.ctls 30 rfl (Runs.ret (endsM hnx hm0 rfl rfl fun φ w hG => ?_))
      have hvl : ((seqI k l.length).map (Value.int .i64)).length = l.length := by rw [List.length_map, seqI_len]
      have hbr := block_row (vs := (seqI k l.length).map (Value.int .i64)) (hb.now hG) (by rw [hvl]; exact c1) c2 hcu (by rw [hvl, htk, List.drop_of_length_le (by rw [hl]; exact Nat.le_refl _), List.append_nil]) (fun x hx => by obtain ⟨z, _, rfl⟩ := List.mem_map.1 hx; rfl)
      rw [hvl] at hbr
      exact hbr
end Go.Proofs.Ytkhnijggbfoimaa
/- Marks on rows of bytes. -/
namespace Go.Proofs.Ytkhnijggbfoimaa
set_option linter.unusedSimpArgs false
set_option linter.unusedVariables false
open Go.RowKit
open AV (Mem Keeps)
def mkB (k : Int) : Value := .int .u8 (IntKind.u8.wrap k)
set_option maxHeartbeats 8000000 in
theorem markByteS_mk (l : List UInt8) (k : Int) (h0 : 0 ≤ k) (hk : k ≤ 4611686018427387904) (hll : l.length ≤ 4194304) : MK Try.prog 29 (bytesO l) k (k + l.length) (.row 5 1 (((seqI k l.length).map mkB).map .c)) := by
  intro w u bs h hnd hlt
  have hl : (l.map fun z => Value.int .u8 (z.toNat : Int)).length = l.length := List.length_map ..
  rcases row_block h with ⟨rfl, h1, rfl⟩ | ⟨g, cap, cur, rfl, rfl, hh, c1, c2, c3, ht⟩
  · obtain rfl : l = [] := by simpa using h1
    refine mark_enter (X := fun w' => OV.rel w' (.row 5 1 (((seqI k 0).map mkB).map .c)) (.slice none 0 0) []) Try.func29 rfl _ Try.ntmps29 (by simp) hlt ?_
    generalize hC0 : (⟨w, fun b => b ∉ ([] : List Nat), fun _ => False, _⟩ : Ctx) = C0
    have hn : C0.n = 20 := by rw [← hC0]
    have hm0 : ∀ b, ¬ C0.mu b := by rw [← hC0]; exact fun _ h => h
    repeat' (first
 | refine RunsL.step tabOk hn rfl ?_
 | refine RunsL.nil ?_
 | refine Runs.toRegion 30 rfl ?_
 | (refine Runs.ctls 30 rfl ?_; first | refine Runs.cond_t rfl ?_ | refine Runs.cond_f rfl ?_ | ((first | refine Runs.cond_yes rfl ?_ ?_ | refine Runs.cond_nno rfl ?_ ?_); · first | omega | rfl | assumption | (simp only [List.length_map]; omega)) | ((first | refine Runs.cond_no rfl ?_ ?_ | refine Runs.cond_nyes rfl ?_ ?_); · first | omega | rfl | assumption | (simp only [List.length_map]; omega)) | refine Runs.cond_dec rfl (fun h => ?_) (fun h => ?_) | refine Runs.cond_ndec rfl (fun h => ?_) (fun h => ?_) | refine Runs.cond_nb rfl (fun h => ?_) (fun h => ?_) | refine Runs.cond_b rfl (fun h => ?_) (fun h => ?_) | refine Runs.ret (ends_ro hm rfl rfl ?_) | exact Runs.ret (ends_cellR hm rfl rfl rfl (Nat.le_of_ble_eq_true rfl) rfl rfl))
 | refine op_box rfl (tl hn rfl) ?_
 | refine op_storeF rfl rfl rfl rfl (Nat.le_of_ble_eq_true rfl) ?_
 | refine op_alloc (tl hn rfl) ?_
 | refine op_storeN rfl rfl rfl rfl (Nat.le_of_ble_eq_true rfl) ?_
 | (refine RunsL.pe hn rfl rfl rfl ?_; first
 | refine ⟨_, pu_add rfl rfl (by omega), ?_⟩
 | refine ⟨_, pu_indexAddr_map rfl rfl (by omega) (by assumption), ?_⟩
 | refine ⟨_, pu_sub rfl rfl (by omega), ?_⟩
 | refine ⟨_, pu_pick_b rfl rfl rfl, ?_⟩
 | refine ⟨_, pu_mul rfl rfl (by omega), ?_⟩
 | refine ⟨_, pu_build rfl rfl rfl rfl rfl rfl, ?_⟩))
    refine Runs.ctls 30 rfl (Runs.keep [(0, .ro (.c (.slice none 0 0))), (1, .int k), (5, .int 0)] ⟨rfl, rfl, rfl, trivial⟩ ?_)
    refine Runs.loopV (fun n C S => C = C0 ∧ S = ⟨[(0, .ro (.c (.slice none 0 0))), (1, .int k), (5, .int 0)], []⟩) ?_ 0 C0 _ ⟨rfl, rfl⟩
    rintro n C S ⟨rfl, rfl⟩ ih
    repeat' (first
 | refine RunsL.step tabOk hn rfl ?_
 | refine RunsL.nil ?_
 | refine Runs.toRegion 30 rfl ?_
 | (refine RunsL.pe hn rfl rfl rfl ?_; first
 | refine ⟨_, pu_lenC rfl, ?_⟩)
 | (refine Runs.ctls 30 rfl ?_; first | refine Runs.cond_t rfl ?_ | refine Runs.cond_f rfl ?_ | ((first | refine Runs.cond_yes rfl ?_ ?_ | refine Runs.cond_nno rfl ?_ ?_); · first | omega | rfl | assumption | (simp only [List.length_map]; omega)) | ((first | refine Runs.cond_no rfl ?_ ?_ | refine Runs.cond_nyes rfl ?_ ?_); · first | omega | rfl | assumption | (simp only [List.length_map]; omega)) | refine Runs.cond_dec rfl (fun h => ?_) (fun h => ?_) | refine Runs.cond_ndec rfl (fun h => ?_) (fun h => ?_) | refine Runs.cond_nb rfl (fun h => ?_) (fun h => ?_) | refine Runs.cond_b rfl (fun h => ?_) (fun h => ?_) | refine Runs.ret (ends_ro hm rfl rfl ?_) | exact Runs.ret (ends_cellR hm rfl rfl rfl (Nat.le_of_ble_eq_true rfl) rfl rfl))
 | refine op_box rfl (tl hn rfl) ?_
 | refine op_storeF rfl rfl rfl rfl (Nat.le_of_ble_eq_true rfl) ?_
 | refine op_alloc (tl hn rfl) ?_
 | refine op_storeN rfl rfl rfl rfl (Nat.le_of_ble_eq_true rfl) ?_
 | (refine RunsL.pe hn rfl rfl rfl ?_; first
 | refine ⟨_, pu_add rfl rfl (by omega), ?_⟩
 | refine ⟨_, pu_indexAddr_map rfl rfl (by omega) (by assumption), ?_⟩
 | refine ⟨_, pu_sub rfl rfl (by omega), ?_⟩
 | refine ⟨_, pu_pick_b rfl rfl rfl, ?_⟩
 | refine ⟨_, pu_mul rfl rfl (by omega), ?_⟩
 | refine ⟨_, pu_build rfl rfl rfl rfl rfl rfl, ?_⟩))
    refine Runs.ctls 30 rfl (Runs.ret (endsM (Nx.refl _ _) hm0 rfl (by show look _ _ = _; simp [look]) fun φ w hG => ?_))
    simp only [seqI, OV.rel, List.range_zero, List.map_nil, OV.rels]
    exact ⟨0, [], [], rfl, by omega, ⟨rfl, rfl⟩, by simp, ⟨rfl, .inl ⟨rfl, rfl⟩⟩, rfl⟩
  · rw [hl] at c1 ht ⊢
    refine mark_enter (X := fun w' => OV.rel w' (.row 5 1 (((seqI k l.length).map mkB).map .c)) (.slice (some ⟨g, 0, none⟩) l.length cap) [g]) Try.func29 rfl _ Try.ntmps29 (by simp) hlt ?_
    generalize hC0 : (⟨w, fun b => b ∉ [g], fun _ => False, _⟩ : Ctx) = C0
    have hn : C0.n = 20 := by rw [← hC0]
    have hm0 : ∀ b, ¬ C0.mu b := by rw [← hC0]; exact fun _ h => h
    have hb0 : Bk C0 g cur 5 := by rw [← hC0]; exact ⟨hh, fun h => h, fun h => h (by simp)⟩
    repeat' (first
 | refine RunsL.step tabOk hn rfl ?_
 | refine RunsL.nil ?_
 | refine Runs.toRegion 30 rfl ?_
 | (refine Runs.ctls 30 rfl ?_; first | refine Runs.cond_t rfl ?_ | refine Runs.cond_f rfl ?_ | ((first | refine Runs.cond_yes rfl ?_ ?_ | refine Runs.cond_nno rfl ?_ ?_); · first | omega | rfl | assumption | (simp only [List.length_map]; omega)) | ((first | refine Runs.cond_no rfl ?_ ?_ | refine Runs.cond_nyes rfl ?_ ?_); · first | omega | rfl | assumption | (simp only [List.length_map]; omega)) | refine Runs.cond_dec rfl (fun h => ?_) (fun h => ?_) | refine Runs.cond_ndec rfl (fun h => ?_) (fun h => ?_) | refine Runs.cond_nb rfl (fun h => ?_) (fun h => ?_) | refine Runs.cond_b rfl (fun h => ?_) (fun h => ?_) | refine Runs.ret (ends_ro hm rfl rfl ?_) | exact Runs.ret (ends_cellR hm rfl rfl rfl (Nat.le_of_ble_eq_true rfl) rfl rfl))
 | refine op_box rfl (tl hn rfl) ?_
 | refine op_storeF rfl rfl rfl rfl (Nat.le_of_ble_eq_true rfl) ?_
 | refine op_alloc (tl hn rfl) ?_
 | refine op_storeN rfl rfl rfl rfl (Nat.le_of_ble_eq_true rfl) ?_
 | (refine RunsL.pe hn rfl rfl rfl ?_; first
 | refine ⟨_, pu_add rfl rfl (by omega), ?_⟩
 | refine ⟨_, pu_indexAddr_map rfl rfl (by omega) (by assumption), ?_⟩
 | refine ⟨_, pu_sub rfl rfl (by omega), ?_⟩
 | refine ⟨_, pu_pick_b rfl rfl rfl, ?_⟩
 | refine ⟨_, pu_mul rfl rfl (by omega), ?_⟩
 | refine ⟨_, pu_build rfl rfl rfl rfl rfl rfl, ?_⟩))
    refine Runs.ctls 30 rfl (Runs.keep [(0, .ro (.c (.slice (some ⟨g, 0, none⟩) l.length cap))), (1, .int k), (5, .int 0)] ⟨rfl, rfl, rfl, trivial⟩ ?_)
    refine Runs.loopV (fun n C S => ∃ (j : Nat) (cu : Array Value), j + n = l.length ∧ C.n = 20 ∧ Nx C0 C [g] ∧ Bk C g cu 5 ∧ cu.size = cap ∧ cu.toList.take l.length = (seqI k j).map (mkB) ++ (l.map fun z => Value.int .u8 (z.toNat : Int)).drop j ∧ S = ⟨[(0, .ro (.c (.slice (some ⟨g, 0, none⟩) l.length cap))), (1, .int (k + j)), (5, .int (j : Int))], []⟩) ?_ l.length C0 _ ⟨0, cur, by omega, hn, Nx.refl _ _, hb0, c3, by rw [ht]; rfl, by rw [show k + ((0 : Nat) : Int) = k by omega]; rfl⟩
    rintro n C S ⟨j, cu, hj, hn, hnx, hb, hcu, htk, rfl⟩ ih
    by_cases hlt' : j < l.length
    · repeat' (first
 | (refine op_storeC rfl rfl rfl hb (by simp; omega) fun C' nx hb' => ?_; have hn := nx.n.trans hn)
 | refine RunsL.step tabOk hn rfl ?_
 | refine RunsL.nil ?_
 | refine Runs.toRegion 30 rfl ?_
 | (refine RunsL.pe hn rfl rfl rfl ?_; first
 | refine ⟨_, pu_convert inferInstance inferInstance rfl, ?_⟩
 | refine ⟨_, pu_lenC rfl, ?_⟩
 | refine ⟨_, pu_indexC rfl rfl (by omega) (by omega), ?_⟩)
 | (refine Runs.ctls 30 rfl ?_; first | refine Runs.cond_t rfl ?_ | refine Runs.cond_f rfl ?_ | ((first | refine Runs.cond_yes rfl ?_ ?_ | refine Runs.cond_nno rfl ?_ ?_); · first | omega | rfl | assumption | (simp only [List.length_map]; omega)) | ((first | refine Runs.cond_no rfl ?_ ?_ | refine Runs.cond_nyes rfl ?_ ?_); · first | omega | rfl | assumption | (simp only [List.length_map]; omega)) | refine Runs.cond_dec rfl (fun h => ?_) (fun h => ?_) | refine Runs.cond_ndec rfl (fun h => ?_) (fun h => ?_) | refine Runs.cond_nb rfl (fun h => ?_) (fun h => ?_) | refine Runs.cond_b rfl (fun h => ?_) (fun h => ?_) | refine Runs.ret (ends_ro hm rfl rfl ?_) | exact Runs.ret (ends_cellR hm rfl rfl rfl (Nat.le_of_ble_eq_true rfl) rfl rfl))
 | refine op_box rfl (tl hn rfl) ?_
 | refine op_storeF rfl rfl rfl rfl (Nat.le_of_ble_eq_true rfl) ?_
 | refine op_alloc (tl hn rfl) ?_
 | refine op_storeN rfl rfl rfl rfl (Nat.le_of_ble_eq_true rfl) ?_
 | (refine RunsL.pe hn rfl rfl rfl ?_; first
 | refine ⟨_, pu_add rfl rfl (by omega), ?_⟩
 | refine ⟨_, pu_indexAddr_map rfl rfl (by omega) (by assumption), ?_⟩
 | refine ⟨_, pu_sub rfl rfl (by omega), ?_⟩
 | refine ⟨_, pu_pick_b rfl rfl rfl, ?_⟩
 | refine ⟨_, pu_mul rfl rfl (by omega), ?_⟩
 | refine ⟨_, pu_build rfl rfl rfl rfl rfl rfl, ?_⟩))
      have e : ((j : Int).toNat * 1) = j := by omega
      rw [e] at hb'
      have hmn := mark_next (f := mkB) (k := k) (vs := l.map fun z => Value.int .u8 (z.toNat : Int)) (cur := cu) (by omega) hl hlt' htk
      refine Runs.ctls 30 rfl (Runs.keep [(0, .ro (.c (.slice (some ⟨g, 0, none⟩) l.length cap))), (1, .int (k + ((j + 1 : Nat) : Int))), (5, .int ((j + 1 : Nat) : Int))] ⟨rfl, by simp only [look]; exact av_int (by omega), by simp only [look]; exact av_int (by omega), trivial⟩ (ih (n - 1) (by omega) _ _ ⟨j + 1, _, by omega, hn, (hnx.trans nx).sub (by simp), hb', by simpa using hcu, hmn, rfl⟩))
    · obtain rfl : j = l.length := by omega
      repeat' (first
 | refine RunsL.step tabOk hn rfl ?_
 | refine RunsL.nil ?_
 | refine Runs.toRegion 30 rfl ?_
 | (refine RunsL.pe hn rfl rfl rfl ?_; first
 | refine ⟨_, pu_lenC rfl, ?_⟩)
 | (refine Runs.ctls 30 rfl ?_; first | refine Runs.cond_t rfl ?_ | refine Runs.cond_f rfl ?_ | ((first | refine Runs.cond_yes rfl ?_ ?_ | refine Runs.cond_nno rfl ?_ ?_); · first | omega | rfl | assumption | (simp only [List.length_map]; omega)) | ((first | refine Runs.cond_no rfl ?_ ?_ | refine Runs.cond_nyes rfl ?_ ?_); · first | omega | rfl | assumption | (simp only [List.length_map]; omega)) | refine Runs.cond_dec rfl (fun h => ?_) (fun h => ?_) | refine Runs.cond_ndec rfl (fun h => ?_) (fun h => ?_) | refine Runs.cond_nb rfl (fun h => ?_) (fun h => ?_) | refine Runs.cond_b rfl (fun h => ?_) (fun h => ?_) | refine Runs.ret (ends_ro hm rfl rfl ?_) | exact Runs.ret (ends_cellR hm rfl rfl rfl (Nat.le_of_ble_eq_true rfl) rfl rfl))
 | refine op_box rfl (tl hn rfl) ?_
 | refine op_storeF rfl rfl rfl rfl (Nat.le_of_ble_eq_true rfl) ?_
 | refine op_alloc (tl hn rfl) ?_
 | refine op_storeN rfl rfl rfl rfl (Nat.le_of_ble_eq_true rfl) ?_
 | (refine RunsL.pe hn rfl rfl rfl ?_; first
 | refine ⟨_, pu_add rfl rfl (by omega), ?_⟩
 | refine ⟨_, pu_indexAddr_map rfl rfl (by omega) (by assumption), ?_⟩
 | refine ⟨_, pu_sub rfl rfl (by omega), ?_⟩
 | refine ⟨_, pu_pick_b rfl rfl rfl, ?_⟩
 | refine ⟨_, pu_mul rfl rfl (by omega), ?_⟩
 | refine ⟨_, pu_build rfl rfl rfl rfl rfl rfl, ?_⟩))
      refine Runs.ctls 30 rfl (Runs.ret (endsM hnx hm0 rfl rfl fun φ w hG => ?_))
      have hvl : ((seqI k l.length).map (mkB)).length = l.length := by rw [List.length_map, seqI_len]
      have hbr := block_row (vs := (seqI k l.length).map (mkB)) (hb.now hG) (by rw [hvl]; exact c1) c2 hcu (by rw [hvl, htk, List.drop_of_length_le (by rw [hl]; exact Nat.le_refl _), List.append_nil]) (fun x hx => by obtain ⟨z, _, rfl⟩ := List.mem_map.1 hx; rfl)
      rw [hvl] at hbr
      exact hbr
theorem heldIntS_ac (n : Nat) (k : Int) (h0 : 0 ≤ k) (hk : k ≤ 4611686018427387904) (hn' : n ≤ 4194304) : ACv Try.prog 46 [intsR (seqI k n), .int k] (.int (k + n)) := by
  have hl := seqI_len k n
  have hlm : ((seqI k n).map fun z => [RV.int z]).length = (seqI k n).length := List.length_map ..
  refine ac_enter Try.func46 rfl _ Try.ntmps46 (by simp) fun C hn hm => ?_
  repeat' (first
 | refine RunsL.step tabOk hn rfl ?_
 | refine RunsL.nil ?_
 | refine Runs.toRegion 30 rfl ?_
 | (refine Runs.ctls 30 rfl ?_; first | refine Runs.cond_t rfl ?_ | refine Runs.cond_f rfl ?_ | ((first | refine Runs.cond_yes rfl ?_ ?_ | refine Runs.cond_nno rfl ?_ ?_); · first | omega | rfl | assumption | (simp only [List.length_map]; omega)) | ((first | refine Runs.cond_no rfl ?_ ?_ | refine Runs.cond_nyes rfl ?_ ?_); · first | omega | rfl | assumption | (simp only [List.length_map]; omega)) | refine Runs.cond_dec rfl (fun h => ?_) (fun h => ?_) | refine Runs.cond_ndec rfl (fun h => ?_) (fun h => ?_) | refine Runs.cond_nb rfl (fun h => ?_) (fun h => ?_) | refine Runs.cond_b rfl (fun h => ?_) (fun h => ?_) | refine Runs.ret (ends_ro hm rfl rfl ?_) | exact Runs.ret (ends_cellR hm rfl rfl rfl (Nat.le_of_ble_eq_true rfl) rfl rfl))
 | refine op_box rfl (tl hn rfl) ?_
 | refine op_storeF rfl rfl rfl rfl (Nat.le_of_ble_eq_true rfl) ?_
 | refine op_alloc (tl hn rfl) ?_
 | refine op_storeN rfl rfl rfl rfl (Nat.le_of_ble_eq_true rfl) ?_
 | (refine RunsL.pe hn rfl rfl rfl ?_; first
 | refine ⟨_, pu_add rfl rfl (by omega), ?_⟩
 | refine ⟨_, pu_indexAddr_map rfl rfl (by omega) (by assumption), ?_⟩
 | refine ⟨_, pu_sub rfl rfl (by omega), ?_⟩
 | refine ⟨_, pu_pick_b rfl rfl rfl, ?_⟩
 | refine ⟨_, pu_mul rfl rfl (by omega), ?_⟩
 | refine ⟨_, pu_build rfl rfl rfl rfl rfl rfl, ?_⟩))
  refine Runs.loopN 30 rfl (fun j => [(0, .ro (intsR (seqI k n))), (1, .int (k + (j : Int))), (5, .int (j : Int))]) (fun _ => []) (fun _ => True) n 0 (Nat.zero_le _) trivial ⟨rfl, by simp only [look]; exact av_int (by omega), rfl, trivial⟩ rfl fun j hj _ next => ?_
  by_cases hlt : j < n
  · have hx : (seqI k n)[(j : Int).toNat]? = some (k + (j : Int)) := seqI_at hlt
    repeat' (first
 | refine RunsL.step tabOk hn rfl ?_
 | refine RunsL.nil ?_
 | refine Runs.toRegion 30 rfl ?_
 | (refine Runs.ctls 30 rfl ?_; first | refine Runs.cond_t rfl ?_ | refine Runs.cond_f rfl ?_ | ((first | refine Runs.cond_yes rfl ?_ ?_ | refine Runs.cond_nno rfl ?_ ?_); · first | omega | rfl | assumption | (simp only [List.length_map]; omega)) | ((first | refine Runs.cond_no rfl ?_ ?_ | refine Runs.cond_nyes rfl ?_ ?_); · first | omega | rfl | assumption | (simp only [List.length_map]; omega)) | refine Runs.cond_dec rfl (fun h => ?_) (fun h => ?_) | refine Runs.cond_ndec rfl (fun h => ?_) (fun h => ?_) | refine Runs.cond_nb rfl (fun h => ?_) (fun h => ?_) | refine Runs.cond_b rfl (fun h => ?_) (fun h => ?_) | refine Runs.ret (ends_ro hm rfl rfl ?_) | exact Runs.ret (ends_cellR hm rfl rfl rfl (Nat.le_of_ble_eq_true rfl) rfl rfl))
 | refine op_box rfl (tl hn rfl) ?_
 | refine op_storeF rfl rfl rfl rfl (Nat.le_of_ble_eq_true rfl) ?_
 | refine op_alloc (tl hn rfl) ?_
 | refine op_storeN rfl rfl rfl rfl (Nat.le_of_ble_eq_true rfl) ?_
 | (refine RunsL.pe hn rfl rfl rfl ?_; first
 | refine ⟨_, pu_add rfl rfl (by omega), ?_⟩
 | refine ⟨_, pu_indexAddr_map rfl rfl (by omega) (by assumption), ?_⟩
 | refine ⟨_, pu_sub rfl rfl (by omega), ?_⟩
 | refine ⟨_, pu_pick_b rfl rfl rfl, ?_⟩
 | refine ⟨_, pu_mul rfl rfl (by omega), ?_⟩
 | refine ⟨_, pu_build rfl rfl rfl rfl rfl rfl, ?_⟩))
    all_goals first
      | exact next _ _ ⟨rfl, by simp only [look]; exact av_int (by omega), rfl, trivial⟩ hlt trivial rfl
      | (exfalso; omega)
  · obtain rfl : j = n := by omega
    repeat' (first
 | refine RunsL.step tabOk hn rfl ?_
 | refine RunsL.nil ?_
 | refine Runs.toRegion 30 rfl ?_
 | (refine Runs.ctls 30 rfl ?_; first | refine Runs.cond_t rfl ?_ | refine Runs.cond_f rfl ?_ | ((first | refine Runs.cond_yes rfl ?_ ?_ | refine Runs.cond_nno rfl ?_ ?_); · first | omega | rfl | assumption | (simp only [List.length_map]; omega)) | ((first | refine Runs.cond_no rfl ?_ ?_ | refine Runs.cond_nyes rfl ?_ ?_); · first | omega | rfl | assumption | (simp only [List.length_map]; omega)) | refine Runs.cond_dec rfl (fun h => ?_) (fun h => ?_) | refine Runs.cond_ndec rfl (fun h => ?_) (fun h => ?_) | refine Runs.cond_nb rfl (fun h => ?_) (fun h => ?_) | refine Runs.cond_b rfl (fun h => ?_) (fun h => ?_) | refine Runs.ret (ends_ro hm rfl rfl ?_) | exact Runs.ret (ends_cellR hm rfl rfl rfl (Nat.le_of_ble_eq_true rfl) rfl rfl))
 | refine op_box rfl (tl hn rfl) ?_
 | refine op_storeF rfl rfl rfl rfl (Nat.le_of_ble_eq_true rfl) ?_
 | refine op_alloc (tl hn rfl) ?_
 | refine op_storeN rfl rfl rfl rfl (Nat.le_of_ble_eq_true rfl) ?_
 | (refine RunsL.pe hn rfl rfl rfl ?_; first
 | refine ⟨_, pu_add rfl rfl (by omega), ?_⟩
 | refine ⟨_, pu_indexAddr_map rfl rfl (by omega) (by assumption), ?_⟩
 | refine ⟨_, pu_sub rfl rfl (by omega), ?_⟩
 | refine ⟨_, pu_pick_b rfl rfl rfl, ?_⟩
 | refine ⟨_, pu_mul rfl rfl (by omega), ?_⟩
 | refine ⟨_, pu_build rfl rfl rfl rfl rfl rfl, ?_⟩))
    all_goals first
      | exact rr_int rfl
      | (exfalso; omega)
/-- The bytes of n marks. -/
def seqB (k : Int) (n : Nat) : List UInt8 := (seqI k n).map fun z => UInt8.ofNat (IntKind.u8.wrap z).toNat
theorem wrapB (z : Int) : IntKind.u8.wrap z = ((UInt8.ofNat (IntKind.u8.wrap z).toNat).toNat : Int) := by
  have h : 0 ≤ IntKind.u8.wrap z ∧ IntKind.u8.wrap z < 256 := by
    simp [IntKind.wrap, IntKind.bits, IntKind.signed]
    omega
  simp
  omega
theorem mkB_eq (z : Int) : mkB z = Value.int .u8 ((UInt8.ofNat (IntKind.u8.wrap z).toNat).toNat : Int) := by unfold mkB; rw [← wrapB]
theorem seqB_O (k : Int) (n : Nat) : OV.row 5 1 (((seqI k n).map mkB).map .c) = bytesO (seqB k n) := by
  unfold bytesO seqB
  congr 1
  simp only [List.map_map]
  refine List.map_congr_left fun z _ => ?_
  simp only [Function.comp]
  rw [mkB_eq]
theorem seqB_len (k : Int) (n : Nat) : (seqB k n).length = n := by unfold seqB; rw [List.length_map, seqI_len]
theorem seqB_at {k : Int} {n i : Nat} (h : i < n) : (seqB k n)[i]? = some (UInt8.ofNat (IntKind.u8.wrap (k + i)).toNat) := by unfold seqB; rw [List.getElem?_map, seqI_at h]; rfl
end Go.Proofs.Ytkhnijggbfoimaa
/- Marks on rows of texts. -/
namespace Go.Proofs.Ytkhnijggbfoimaa
set_option linter.unusedSimpArgs false
set_option linter.unusedVariables false
open Go.RowKit
open AV (Mem Keeps)
end Go.Proofs.Ytkhnijggbfoimaa
/- Marks: calls that write into values of the frame's. Over any program. -/
namespace Go.Proofs.Ytkhnijggbfoimaa
set_option linter.unusedSimpArgs false
set_option linter.unusedVariables false
open Go.RowKit
open AV (Mem Keeps)
section
variable {P : Program} {C : Ctx} {ops : Array Oper} {rest : List Oper} {k : List Item} {R : Act → World → Prop} {env : Env} {σ : List Ob} {t : Nat} {ty : TypeId} {pos : String} {after : Array Edge}
theorem op_callG {f : FuncId} {fn : Func} {xs : Array Operand} {ats : Array TypeId} {i i' : Int} {u : Value} {bs : List Nat} {ov : OV} [hfn : FN P f fn] (hf : MX P f ov i i') (gh : Gh C ov u bs) (nd : bs.Nodup)
    (hx : xs.toList.map (ev env) = [.ro (constRV u), .int i]) (ht : t < C.n) (hk : ∀ C', Nx C C' bs → RunsL P C' ops rest k R ⟨(t, .int i') :: env, σ⟩) :
    RunsL P C ops (⟨some t, .call { callee := .value (.func f), args := xs, argTypes := ats }, ty, pos, after, none⟩ :: rest) k R ⟨env, σ⟩ :=
  op_callX (X := fun _ => True) (fun w h1 h2 => (hf w u bs (OV.rel_keep ov u bs gh.rel h1) nd h2).mono fun _ _ h => ⟨h.1, trivial, h.2⟩) hx gh.fix ht fun C' nx _ _ => hk C' nx
theorem op_callK {f : FuncId} {fn : Func} {xs : Array Operand} {ats : Array TypeId} {i i' : Int} {u : Value} {bs : List Nat} {ov ov' : OV} [hfn : FN P f fn] (hf : MK P f ov i i' ov') (gh : Gh C ov u bs) (nd : bs.Nodup)
    (hx : xs.toList.map (ev env) = [.ro (constRV u), .int i]) (ht : t < C.n) (hk : ∀ C', Nx C C' bs → Gh C' ov' u bs → RunsL P C' ops rest k R ⟨(t, .int i') :: env, σ⟩) :
    RunsL P C ops (⟨some t, .call { callee := .value (.func f), args := xs, argTypes := ats }, ty, pos, after, none⟩ :: rest) k R ⟨env, σ⟩ :=
  op_callX (X := fun w => OV.rel w ov' u bs) (fun w h1 h2 => (hf w u bs (OV.rel_keep ov u bs gh.rel h1) nd h2)) hx gh.fix ht fun C' nx hX hfix => hk C' nx ⟨hX, fun b hb => ⟨Nat.lt_of_lt_of_le (gh.fix b hb).1 nx.size, hfix b hb⟩⟩
end
theorem rels_split {w : World} : ∀ (os os' : List OV) (us : List Value) (bs : List Nat), OV.rels w (os ++ os') us bs → ∃ u1 u2 b1 b2, us = u1 ++ u2 ∧ bs = b1 ++ b2 ∧ OV.rels w os u1 b1 ∧ OV.rels w os' u2 b2
  | [], os', us, bs, h => ⟨[], us, [], bs, rfl, rfl, by simp [OV.rels], h⟩
  | x :: xs, os', us, bs, h => by
    simp only [List.cons_append, OV.rels] at h
    obtain ⟨u, us', b, bs', rfl, rfl, h1, h2⟩ := h
    obtain ⟨u1, u2, b1, b2, rfl, rfl, k1, k2⟩ := rels_split xs os' us' bs' h2
    exact ⟨u :: u1, u2, b ++ b1, b2, rfl, by rw [List.append_assoc], by simp only [OV.rels]; exact ⟨u, u1, b, b1, rfl, rfl, h1, k1⟩, k2⟩
/-- A row and its block, whatever its cells. -/
theorem rowN_block {w : World} {e : TypeId} {sz : Nat} {cs : List OV} {u : Value} {bs : List Nat} (h : OV.rel w (.row e sz cs) u bs) :
    (u = .slice none 0 0 ∧ cs = [] ∧ bs = []) ∨ ∃ g n cap cur xs bs', u = .slice (some ⟨g, 0, none⟩) n cap ∧ cs.length = n * sz ∧ bs = g :: bs' ∧ OV.rels w cs xs bs' ∧ (∀ x ∈ xs, x.oneCell' = true) ∧ w.heap[g]? = some (.cells cur e (0, 0)) ∧ n ≤ cap ∧ cap ≤ maxLen ∧ cur.size = cap * sz ∧ cur.toList.take (n * sz) = xs := by
  simp only [OV.rel] at h
  obtain ⟨n, xs, bs', h1, h2, h3, h4, h5, rfl⟩ := h
  rcases h5.2 with ⟨rfl, h0⟩ | ⟨g, cap, cur, rfl, _, hh, c1, c2, c3, ht⟩
  · subst h0
    have : cs = [] := List.eq_nil_of_length_eq_zero (by omega)
    subst this
    simp only [OV.rels] at h3
    exact .inl ⟨rfl, rfl, by simp [Value.ownBlock, h3.2]⟩
  · exact .inr ⟨g, n, cap, cur, xs, bs', rfl, h1, rfl, h3, h4, hh, c1, c2, c3, ht⟩
theorem block_rowN {w : World} {e : TypeId} {sz n g cap : Nat} {cs : List OV} {xs : List Value} {bs' : List Nat} {cur : Array Value} (hs : 0 < sz) (hl : cs.length = n * sz) (hr : OV.rels w cs xs bs') (h1 : ∀ x ∈ xs, x.oneCell' = true) (hh : w.heap[g]? = some (.cells cur e (0, 0))) (c1 : n ≤ cap) (c2 : cap ≤ maxLen) (c3 : cur.size = cap * sz) (ht : cur.toList.take (n * sz) = xs) :
    OV.rel w (.row e sz cs) (.slice (some ⟨g, 0, none⟩) n cap) (g :: bs') := by
  simp only [OV.rel]
  exact ⟨n, xs, bs', hl, hs, hr, h1, ⟨by rw [OV.rels_len _ _ _ hr, hl], .inr ⟨g, cap, cur, rfl, Nat.zero_le _, hh, c1, c2, c3, ht⟩⟩, rfl⟩
theorem take_at {cur : Array Value} {m : Nat} {xs : List Value} (h : cur.toList.take m = xs) {i : Nat} {v : Value} (hv : xs[i]? = some v) : cur[i]? = some v := by
  rw [← h, List.getElem?_take] at hv
  split at hv
  · simpa using hv
  · cases hv
/-- Several values at once. -/
theorem Gh.aggs {C : Ctx} {os : List OV} {us : List Value} {bs : List Nat} (h : OV.rels C.w0 os us bs) (hf : ∀ b ∈ bs, b < C.w0.heap.size ∧ ¬ C.mu b ∧ ¬ C.ok b) : Gh C (.agg os) (.agg us.toArray) bs :=
  ⟨by simp only [OV.rel]; exact ⟨_, rfl, by simpa using h⟩, hf⟩
theorem Gh.rels {C : Ctx} {os : List OV} {us : List Value} {bs : List Nat} (h : Gh C (.agg os) (.agg us.toArray) bs) : OV.rels C.w0 os us bs := by
  have := h.rel
  simp only [OV.rel] at this
  obtain ⟨vs, e, h1⟩ := this
  injection e with e
  subst e
  simpa using h1
end Go.Proofs.Ytkhnijggbfoimaa
/- Marks on descriptions. -/
namespace Go.Proofs.Ytkhnijggbfoimaa
set_option linter.unusedSimpArgs false
set_option linter.unusedVariables false
open Go.RowKit
open AV (Mem Keeps)
end Go.Proofs.Ytkhnijggbfoimaa
/- Marks: what the laws want. -/
namespace Go.Proofs.Ytkhnijggbfoimaa
set_option linter.unusedSimpArgs false
set_option linter.unusedVariables false
open Go.RowKit
open AV (Mem Keeps)
theorem ends_sc {P : Program} {C0 C : Ctx} {fn : Func} {R : RR → Prop} {S : St} {t : Nat} {v : Value} (hsc : Sc C0 C) (hr : fn.results = #[.tmp t]) (hx : look S.env t = .ro (.c v)) (hR : R (.ro (.c v))) : ∀ a w, Sim C S a w → Ends P C0 fn R a w := by
  rintro a w ⟨s1, s2, φ, hG, hH⟩
  have h := hH t
  rw [hx] at h
  simp only [AV.rel, RV.rel] at h
  exact ⟨s1, v, by rw [results_eq, hr]; simp [resRun, h], .ro (.c v), [], hR, by simp [RR.rel, RV.rel], by simp, by simp, hsc.end_ hG⟩
theorem seals_cs : ∀ vs : List Value, OV.Seals (vs.map .c) (vs.map .c)
  | [] => by simp [OV.Seals]
  | v :: vs => by simp only [List.map_cons, OV.Seals]; exact ⟨_, _, rfl, by simp [OV.Seal], seals_cs vs⟩
theorem seal_row1 (e : TypeId) (vs : List Value) : OV.Seal (.row e 1 (vs.map .c)) (.seq 1 (vs.map fun v => [.c v])) := by
  simp only [OV.Seal]
  refine ⟨_, rfl, by simp, ?_⟩
  have : (vs.map fun v => [RV.c v]).flatten = vs.map .c := by
    induction vs with
    | nil => rfl
    | cons v vs ih => simp [ih]
  rw [this]
  exact seals_cs vs
theorem seals_app : ∀ {os os' : List OV} {rs rs' : List RV}, OV.Seals os rs → OV.Seals os' rs' → OV.Seals (os ++ os') (rs ++ rs')
  | [], os', rs, rs', h, h' => by simp only [OV.Seals] at h; subst h; simpa using h'
  | x :: os, os', rs, rs', h, h' => by
    simp only [OV.Seals] at h
    obtain ⟨r, rt, rfl, h1, h2⟩ := h
    simp only [List.cons_append, OV.Seals]
    exact ⟨r, rt ++ rs', rfl, h1, seals_app h2 h'⟩
theorem mx_apart {C1 C2 : Ctx} {ov : OV} {u : Value} {b1 b2 : List Nat} (h1 : Gh C1 ov u b1) (h2 : ∀ b ∈ b2, C1.w0.heap.size ≤ b) : ∀ b ∈ b2, b ∉ b1 := fun b hb hm => by
  have := (h1.fix b hm).1
  have := h2 b hb
  omega
theorem seals_bytes' (e : TypeId) (l : List UInt8) : Seals (.row e 1 (l.map RV.u8)) (bytesR l) := by
  have h := seals_row1 e (l.map RV.u8)
  rwa [List.map_map] at h
/-- The first of two results. -/
theorem tup2_gh {C : Ctx} {ov : OV} {v u : Value} {bs : List Nat} (h : Gh C (.tup [ov, .c v]) u bs) : ∃ u', u = .tuple #[u', v] ∧ Gh C ov u' bs := by
  have hr := h.rel
  simp only [OV.rel, OV.rels] at hr
  obtain ⟨us, rfl, u1, _, b1, _, e1, rfl, h1, v', _, b2, _, rfl, rfl, ⟨rfl, rfl⟩, rfl, rfl⟩ := hr
  obtain ⟨us⟩ := us
  simp only at e1
  subst e1
  simp only [List.append_nil] at h ⊢
  exact ⟨u1, rfl, h1, h.fix⟩
theorem seal_ints (l : List Int) : OV.Seal (intsO l) (intsR l) := by
  have h := seal_row1 3 (l.map fun z => Value.int .i64 z)
  rw [show ((l.map fun z => Value.int .i64 z).map fun v => [RV.c v]) = l.map fun z => [RV.int z] by rw [List.map_map]; rfl] at h
  exact h
theorem seal_bytes (l : List UInt8) : OV.Seal (bytesO l) (bytesR l) := by
  have h := seal_row1 5 (l.map fun z => Value.int .u8 (z.toNat : Int))
  rw [show ((l.map fun z => Value.int .u8 (z.toNat : Int)).map fun v => [RV.c v]) = l.map fun z => [RV.u8 z] by rw [List.map_map]; rfl] at h
  exact h
end Go.Proofs.Ytkhnijggbfoimaa
