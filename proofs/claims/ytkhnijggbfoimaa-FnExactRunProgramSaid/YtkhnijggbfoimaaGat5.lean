/- Gathered texts. -/
import Derived.Test.YtkhnijggbfoimaaGat0
import Derived.Test.YtkhnijggbfoimaaGat1
import Derived.Test.YtkhnijggbfoimaaGat2
import Derived.Test.YtkhnijggbfoimaaGat3
import Derived.Test.YtkhnijggbfoimaaGat4
/- StackNeeded, FitsMachine: both sides. -/
namespace Go.Proofs.Ytkhnijggbfoimaa
set_option linter.unusedSimpArgs false
set_option linter.unusedVariables false
open Go.RowKit
/-- The need of the last block, and 1 for its call. -/
def need (p : Prg) : Int := 1 + needF p p.code.length (p.entries.length - 1)
noncomputable def stackN (p : Prg) : Int := open Classical in if SafeP p then need p else -1
set_option maxHeartbeats 16000000 in
theorem stackNeeded_ac (p : Prg) (hB : PrgB p) (hS : SafeP p) : ACv Try.prog 60 [prgR p] (.int (need p)) := by
  have hlm : (p.entries.map fun z => [RV.int z]).length = p.entries.length := List.length_map ..
  have hlc : (p.code.map insR).length = p.code.length := List.length_map ..
  have hF := hS.1
  have h700 := hF.len
  have hb2 := hB.ents
  have hel : p.entries.length ≤ maxLen := by unfold maxLen; omega
  have hne : 0 < p.entries.length := (List.getElem?_eq_some_iff.1 hF.first).1
  refine ac_enter Try.func60 rfl _ Try.ntmps60 (by simp) fun C hn hm => ?_
  repeat' (first
 | refine RunsL.step tabOk hn rfl ?_
 | refine RunsL.nil ?_
 | refine Runs.toRegion 30 rfl ?_
 | refine op_make1 rfl rfl rfl rfl (by simp only [List.length_map]; omega) (by unfold maxLen; simp only [List.length_map]; omega) (tl hn rfl) ?_
 | (refine Runs.ctls 30 rfl ?_; first | refine Runs.cond_t rfl ?_ | refine Runs.cond_f rfl ?_ | ((first | refine Runs.cond_yes rfl ?_ ?_ | refine Runs.cond_nno rfl ?_ ?_); · first | omega | rfl | assumption | (simp only [List.length_map]; omega)) | ((first | refine Runs.cond_no rfl ?_ ?_ | refine Runs.cond_nyes rfl ?_ ?_); · first | omega | rfl | assumption | (simp only [List.length_map]; omega)) | refine Runs.cond_dec rfl (fun h => ?_) (fun h => ?_) | refine Runs.cond_ndec rfl (fun h => ?_) (fun h => ?_) | refine Runs.cond_nb rfl (fun h => ?_) (fun h => ?_) | refine Runs.cond_b rfl (fun h => ?_) (fun h => ?_) | refine Runs.ret (ends_ro hm rfl rfl ?_) | exact Runs.ret (ends_cellR hm rfl rfl rfl (Nat.le_of_ble_eq_true rfl) rfl rfl))
 | refine op_box rfl (tl hn rfl) ?_
 | refine op_storeF rfl rfl rfl rfl (Nat.le_of_ble_eq_true rfl) ?_
 | refine op_alloc (tl hn rfl) ?_
 | refine op_storeN rfl rfl rfl rfl (Nat.le_of_ble_eq_true rfl) ?_
 | refine RunsD.step tabOk hn rfl rfl ?_
 | refine RunsD.nil ?_
 | refine Runs.toDraw 30 mixed hn rfl (by kernel_rfl) rfl ?_
 | ((first | refine RunsL.pe hn rfl rfl rfl ?_ | refine RunsD.pe rfl rfl ?_); first
 | refine ⟨_, pu_add rfl rfl (by omega), ?_⟩
 | refine ⟨_, pu_indexAddr_map rfl rfl (by omega) (by assumption), ?_⟩
 | refine ⟨_, pu_sub rfl rfl (by omega), ?_⟩
 | refine ⟨_, pu_pick_b rfl rfl rfl, ?_⟩
 | refine ⟨_, pu_mul rfl rfl (by omega), ?_⟩
 | refine ⟨_, pu_build rfl rfl rfl rfl rfl rfl, ?_⟩))
  refine Runs.loopN 30 rfl (fun b => [(1, .obj 0 0), (3, .own 1), (13, .int (p.entries.length : Int)), (14, .int (b : Int))]) (fun b => [⟨34, 0, [.ro (inssR p.code), .ro (intsR p.entries)]⟩, ⟨3, 1, intsA p.entries.length (needF p (endA p ((b : Int) - 1)).toNat)⟩]) (fun _ => True) p.entries.length 0 (Nat.zero_le _) trivial ⟨rfl, rfl, by simp only [look]; exact congrArg (fun z : Nat => AV.int (z : Int)) hlm, rfl, trivial⟩ (by
    have e0 : endA p (((0 : Nat) : Int) - 1) = 2 := by
      unfold endA
      rw [show (((0 : Nat) : Int) - 1 + 1).toNat = 0 by rfl, hF.first]
    rw [e0, show (2 : Int).toNat = 2 by rfl, needF_two, ← intsA_zero]
    simp only [List.length_map]
    rfl) fun b hb _ next2 => ?_
  by_cases hlt2 : b < p.entries.length
  · obtain ⟨e, he⟩ : ∃ e, p.entries[(b : Int).toNat]? = some e := ⟨_, List.getElem?_eq_getElem hlt2⟩
    have he' : p.entries[b]? = some e := he
    have hend := blockEnd_ac p b (by omega) (by omega) hel
    have hlt := hF.lt_end he'
    have hle := hF.end_le b
    have h2 := hF.two he'
    have est : endA p ((b : Int) - 1) = e := by
      unfold endA
      rw [show ((b : Int) - 1 + 1).toNat = b by omega, he']
    rw [est]
    repeat' (first
 | refine RunsL.step tabOk hn rfl ?_
 | refine RunsL.nil ?_
 | refine Runs.toRegion 30 rfl ?_
 | (refine Runs.ctls 30 rfl ?_; first | refine Runs.cond_t rfl ?_ | refine Runs.cond_f rfl ?_ | ((first | refine Runs.cond_yes rfl ?_ ?_ | refine Runs.cond_nno rfl ?_ ?_); · first | omega | rfl | assumption | (simp only [List.length_map]; omega)) | ((first | refine Runs.cond_no rfl ?_ ?_ | refine Runs.cond_nyes rfl ?_ ?_); · first | omega | rfl | assumption | (simp only [List.length_map]; omega)) | refine Runs.cond_dec rfl (fun h => ?_) (fun h => ?_) | refine Runs.cond_ndec rfl (fun h => ?_) (fun h => ?_) | refine Runs.cond_nb rfl (fun h => ?_) (fun h => ?_) | refine Runs.cond_b rfl (fun h => ?_) (fun h => ?_) | refine Runs.ret (ends_ro hm rfl rfl ?_) | exact Runs.ret (ends_cellR hm rfl rfl rfl (Nat.le_of_ble_eq_true rfl) rfl rfl))
 | refine op_box rfl (tl hn rfl) ?_
 | refine op_storeF rfl rfl rfl rfl (Nat.le_of_ble_eq_true rfl) ?_
 | refine op_alloc (tl hn rfl) ?_
 | refine op_storeN rfl rfl rfl rfl (Nat.le_of_ble_eq_true rfl) ?_
 | refine RunsD.step tabOk hn rfl rfl ?_
 | refine RunsD.nil ?_
 | refine Runs.toDraw 30 mixed hn rfl (by kernel_rfl) rfl ?_
 | ((first | refine RunsL.pe hn rfl rfl rfl ?_ | refine RunsD.pe rfl rfl ?_); first
 | refine ⟨_, pu_add rfl rfl (by omega), ?_⟩
 | refine ⟨_, pu_indexAddr_map rfl rfl (by omega) (by assumption), ?_⟩
 | refine ⟨_, pu_sub rfl rfl (by omega), ?_⟩
 | refine ⟨_, pu_pick_b rfl rfl rfl, ?_⟩
 | refine ⟨_, pu_mul rfl rfl (by omega), ?_⟩
 | refine ⟨_, pu_build rfl rfl rfl rfl rfl rfl, ?_⟩))
    refine Runs.loopN 30 rfl (fun m => [(1, .obj 0 0), (3, .own 1), (13, .int (p.entries.length : Int)), (14, .int (b : Int)), (4, .int (b : Int)), (5, .int (e + m))]) (fun m => [⟨34, 0, [.ro (inssR p.code), .ro (intsR p.entries)]⟩, ⟨3, 1, intsA p.entries.length (needF p (e + m).toNat)⟩]) (fun _ => True) (endA p b - e).toNat 0 (Nat.zero_le _) trivial ⟨rfl, rfl, rfl, rfl, rfl, by simp only [look]; exact av_int (by omega), trivial⟩ (by rw [show e + ((0 : Nat) : Int) = e by omega]) fun m hm' _ next3 => ?_
    by_cases hlt3 : m < (endA p b - e).toNat
    · obtain ⟨x, hx⟩ : ∃ x, p.code[(e + m).toNat]? = some x := ⟨_, List.getElem?_eq_getElem (by omega)⟩
      obtain ⟨y, hy⟩ : ∃ y, p.code[(e + m - 1).toNat]? = some y := ⟨_, List.getElem?_eq_getElem (by omega)⟩
      have ho : opA p (e + m) = x.op := opA_at (by omega) hx
      have hoy : opA p (e + m - 1) = y.op := opA_at (by omega) hy
      have ha : aA p (e + m) = x.a := aA_at (by omega) hx
      have hnx : e + ((m + 1 : Nat) : Int) = e + m + 1 := by omega
      have hnt : (e + ((m + 1 : Nat) : Int)).toNat = (e + m).toNat + 1 := by omega
      have hkk : (((e + m).toNat : Nat) : Int) = e + m := by omega
      by_cases h9 : x.op = 9
      · have hbo := bo_block hF he' (show e ≤ e + m by omega) (by omega)
        have hcb := call_bo hS he' (show e ≤ e + m by omega) (by omega) hx h9
        have hbl := impl_BlockOfA p x.a hel
        have hbd := needF_bd p (e + m).toNat (bo p x.a).toNat
        have hmx := fun v => impl_Max (needF p (e + m).toNat b) v
        have hcall := needF_call (p := p) (k := (e + m).toNat) (b := b) (by omega) (by rw [hkk, ho, h9]) (by rw [hkk]; exact hbo)
        rw [hkk, hoy, ha] at hcall
        have ib : (b : Int).toNat * 1 = b := by omega
        by_cases h7 : y.op = 7
        · rw [if_pos h7] at hcall
          have e1 : 1 + needF p (e + m).toNat (bo p x.a).toNat + 1 = 2 + needF p (e + m).toNat (bo p x.a).toNat := by omega
          repeat' (first
 | ((first | refine RunsL.pe hn rfl rfl rfl ?_ | refine RunsD.pe rfl rfl ?_); first
 | refine ⟨_, pu_load_atI (tt := 3) (n := p.entries.length) rfl rfl rfl (by omega), ?_⟩)
 | refine RunsL.step tabOk hn rfl ?_
 | refine RunsL.nil ?_
 | refine Runs.toRegion 30 rfl ?_
 | refine op_store1I (n := p.entries.length) rfl rfl rfl rfl (by omega) ?_
 | ((first | refine RunsL.pe hn rfl rfl rfl ?_ | refine RunsD.pe rfl rfl ?_); first
 | refine ⟨_, pu_callR hend rfl, ?_⟩
 | refine ⟨_, pu_callR hbl rfl, ?_⟩
 | refine ⟨_, pu_callR (impl_Max _ _) rfl, ?_⟩
 | refine ⟨_, pu_indexAddr_own (sz := 1) (n := p.entries.length) rfl rfl rfl rfl (intsA_len1 _ _) (by omega) (by omega), ?_⟩
 | refine ⟨_, pu_add rfl rfl (by have := needF_bd p (e + m).toNat ((bo p x.a).toNat * 1); omega), ?_⟩)
 | (refine Runs.ctls 30 rfl ?_; first | refine Runs.cond_t rfl ?_ | refine Runs.cond_f rfl ?_ | ((first | refine Runs.cond_yes rfl ?_ ?_ | refine Runs.cond_nno rfl ?_ ?_); · first | omega | rfl | assumption | (simp only [List.length_map]; omega)) | ((first | refine Runs.cond_no rfl ?_ ?_ | refine Runs.cond_nyes rfl ?_ ?_); · first | omega | rfl | assumption | (simp only [List.length_map]; omega)) | refine Runs.cond_dec rfl (fun h => ?_) (fun h => ?_) | refine Runs.cond_ndec rfl (fun h => ?_) (fun h => ?_) | refine Runs.cond_nb rfl (fun h => ?_) (fun h => ?_) | refine Runs.cond_b rfl (fun h => ?_) (fun h => ?_) | refine Runs.ret (ends_ro hm rfl rfl ?_) | exact Runs.ret (ends_cellR hm rfl rfl rfl (Nat.le_of_ble_eq_true rfl) rfl rfl))
 | refine op_box rfl (tl hn rfl) ?_
 | refine op_storeF rfl rfl rfl rfl (Nat.le_of_ble_eq_true rfl) ?_
 | refine op_alloc (tl hn rfl) ?_
 | refine op_storeN rfl rfl rfl rfl (Nat.le_of_ble_eq_true rfl) ?_
 | refine RunsD.step tabOk hn rfl rfl ?_
 | refine RunsD.nil ?_
 | refine Runs.toDraw 30 mixed hn rfl (by kernel_rfl) rfl ?_
 | ((first | refine RunsL.pe hn rfl rfl rfl ?_ | refine RunsD.pe rfl rfl ?_); first
 | refine ⟨_, pu_add rfl rfl (by omega), ?_⟩
 | refine ⟨_, pu_indexAddr_map rfl rfl (by omega) (by assumption), ?_⟩
 | refine ⟨_, pu_sub rfl rfl (by omega), ?_⟩
 | refine ⟨_, pu_pick_b rfl rfl rfl, ?_⟩
 | refine ⟨_, pu_mul rfl rfl (by omega), ?_⟩
 | refine ⟨_, pu_build rfl rfl rfl rfl rfl rfl, ?_⟩))
          refine next3 _ _ ⟨rfl, rfl, rfl, rfl, rfl, by simp only [look]; exact av_int (by omega), trivial⟩ hlt3 trivial ?_
          rw [hnt, hcall]
          simp only [ib, Nat.mul_one, e1]
          rfl
        · rw [if_neg h7] at hcall
          repeat' (first
 | ((first | refine RunsL.pe hn rfl rfl rfl ?_ | refine RunsD.pe rfl rfl ?_); first
 | refine ⟨_, pu_load_atI (tt := 3) (n := p.entries.length) rfl rfl rfl (by omega), ?_⟩)
 | refine RunsL.step tabOk hn rfl ?_
 | refine RunsL.nil ?_
 | refine Runs.toRegion 30 rfl ?_
 | refine op_store1I (n := p.entries.length) rfl rfl rfl rfl (by omega) ?_
 | ((first | refine RunsL.pe hn rfl rfl rfl ?_ | refine RunsD.pe rfl rfl ?_); first
 | refine ⟨_, pu_callR hend rfl, ?_⟩
 | refine ⟨_, pu_callR hbl rfl, ?_⟩
 | refine ⟨_, pu_callR (impl_Max _ _) rfl, ?_⟩
 | refine ⟨_, pu_indexAddr_own (sz := 1) (n := p.entries.length) rfl rfl rfl rfl (intsA_len1 _ _) (by omega) (by omega), ?_⟩
 | refine ⟨_, pu_add rfl rfl (by have := needF_bd p (e + m).toNat ((bo p x.a).toNat * 1); omega), ?_⟩)
 | (refine Runs.ctls 30 rfl ?_; first | refine Runs.cond_t rfl ?_ | refine Runs.cond_f rfl ?_ | ((first | refine Runs.cond_yes rfl ?_ ?_ | refine Runs.cond_nno rfl ?_ ?_); · first | omega | rfl | assumption | (simp only [List.length_map]; omega)) | ((first | refine Runs.cond_no rfl ?_ ?_ | refine Runs.cond_nyes rfl ?_ ?_); · first | omega | rfl | assumption | (simp only [List.length_map]; omega)) | refine Runs.cond_dec rfl (fun h => ?_) (fun h => ?_) | refine Runs.cond_ndec rfl (fun h => ?_) (fun h => ?_) | refine Runs.cond_nb rfl (fun h => ?_) (fun h => ?_) | refine Runs.cond_b rfl (fun h => ?_) (fun h => ?_) | refine Runs.ret (ends_ro hm rfl rfl ?_) | exact Runs.ret (ends_cellR hm rfl rfl rfl (Nat.le_of_ble_eq_true rfl) rfl rfl))
 | refine op_box rfl (tl hn rfl) ?_
 | refine op_storeF rfl rfl rfl rfl (Nat.le_of_ble_eq_true rfl) ?_
 | refine op_alloc (tl hn rfl) ?_
 | refine op_storeN rfl rfl rfl rfl (Nat.le_of_ble_eq_true rfl) ?_
 | refine RunsD.step tabOk hn rfl rfl ?_
 | refine RunsD.nil ?_
 | refine Runs.toDraw 30 mixed hn rfl (by kernel_rfl) rfl ?_
 | ((first | refine RunsL.pe hn rfl rfl rfl ?_ | refine RunsD.pe rfl rfl ?_); first
 | refine ⟨_, pu_add rfl rfl (by omega), ?_⟩
 | refine ⟨_, pu_indexAddr_map rfl rfl (by omega) (by assumption), ?_⟩
 | refine ⟨_, pu_sub rfl rfl (by omega), ?_⟩
 | refine ⟨_, pu_pick_b rfl rfl rfl, ?_⟩
 | refine ⟨_, pu_mul rfl rfl (by omega), ?_⟩
 | refine ⟨_, pu_build rfl rfl rfl rfl rfl rfl, ?_⟩))
          refine next3 _ _ ⟨rfl, rfl, rfl, rfl, rfl, by simp only [look]; exact av_int (by omega), trivial⟩ hlt3 trivial ?_
          rw [hnt, hcall]
          simp only [ib, Nat.mul_one]
          rfl
      · have hsk := needF_skip (p := p) (k := (e + m).toNat) (by rw [hkk, ho]; exact h9)
        repeat' (first
 | refine RunsL.step tabOk hn rfl ?_
 | refine RunsL.nil ?_
 | refine Runs.toRegion 30 rfl ?_
 | ((first | refine RunsL.pe hn rfl rfl rfl ?_ | refine RunsD.pe rfl rfl ?_); first
 | refine ⟨_, pu_callR hend rfl, ?_⟩)
 | (refine Runs.ctls 30 rfl ?_; first | refine Runs.cond_t rfl ?_ | refine Runs.cond_f rfl ?_ | ((first | refine Runs.cond_yes rfl ?_ ?_ | refine Runs.cond_nno rfl ?_ ?_); · first | omega | rfl | assumption | (simp only [List.length_map]; omega)) | ((first | refine Runs.cond_no rfl ?_ ?_ | refine Runs.cond_nyes rfl ?_ ?_); · first | omega | rfl | assumption | (simp only [List.length_map]; omega)) | refine Runs.cond_dec rfl (fun h => ?_) (fun h => ?_) | refine Runs.cond_ndec rfl (fun h => ?_) (fun h => ?_) | refine Runs.cond_nb rfl (fun h => ?_) (fun h => ?_) | refine Runs.cond_b rfl (fun h => ?_) (fun h => ?_) | refine Runs.ret (ends_ro hm rfl rfl ?_) | exact Runs.ret (ends_cellR hm rfl rfl rfl (Nat.le_of_ble_eq_true rfl) rfl rfl))
 | refine op_box rfl (tl hn rfl) ?_
 | refine op_storeF rfl rfl rfl rfl (Nat.le_of_ble_eq_true rfl) ?_
 | refine op_alloc (tl hn rfl) ?_
 | refine op_storeN rfl rfl rfl rfl (Nat.le_of_ble_eq_true rfl) ?_
 | refine RunsD.step tabOk hn rfl rfl ?_
 | refine RunsD.nil ?_
 | refine Runs.toDraw 30 mixed hn rfl (by kernel_rfl) rfl ?_
 | ((first | refine RunsL.pe hn rfl rfl rfl ?_ | refine RunsD.pe rfl rfl ?_); first
 | refine ⟨_, pu_add rfl rfl (by omega), ?_⟩
 | refine ⟨_, pu_indexAddr_map rfl rfl (by omega) (by assumption), ?_⟩
 | refine ⟨_, pu_sub rfl rfl (by omega), ?_⟩
 | refine ⟨_, pu_pick_b rfl rfl rfl, ?_⟩
 | refine ⟨_, pu_mul rfl rfl (by omega), ?_⟩
 | refine ⟨_, pu_build rfl rfl rfl rfl rfl rfl, ?_⟩))
        refine next3 _ _ ⟨rfl, rfl, rfl, rfl, rfl, by simp only [look]; exact av_int (by omega), trivial⟩ hlt3 trivial ?_
        rw [hnt, hsk]
    · repeat' (first
 | refine RunsL.step tabOk hn rfl ?_
 | refine RunsL.nil ?_
 | refine Runs.toRegion 30 rfl ?_
 | ((first | refine RunsL.pe hn rfl rfl rfl ?_ | refine RunsD.pe rfl rfl ?_); first
 | refine ⟨_, pu_callR hend rfl, ?_⟩)
 | (refine Runs.ctls 30 rfl ?_; first | refine Runs.cond_t rfl ?_ | refine Runs.cond_f rfl ?_ | ((first | refine Runs.cond_yes rfl ?_ ?_ | refine Runs.cond_nno rfl ?_ ?_); · first | omega | rfl | assumption | (simp only [List.length_map]; omega)) | ((first | refine Runs.cond_no rfl ?_ ?_ | refine Runs.cond_nyes rfl ?_ ?_); · first | omega | rfl | assumption | (simp only [List.length_map]; omega)) | refine Runs.cond_dec rfl (fun h => ?_) (fun h => ?_) | refine Runs.cond_ndec rfl (fun h => ?_) (fun h => ?_) | refine Runs.cond_nb rfl (fun h => ?_) (fun h => ?_) | refine Runs.cond_b rfl (fun h => ?_) (fun h => ?_) | refine Runs.ret (ends_ro hm rfl rfl ?_) | exact Runs.ret (ends_cellR hm rfl rfl rfl (Nat.le_of_ble_eq_true rfl) rfl rfl))
 | refine op_box rfl (tl hn rfl) ?_
 | refine op_storeF rfl rfl rfl rfl (Nat.le_of_ble_eq_true rfl) ?_
 | refine op_alloc (tl hn rfl) ?_
 | refine op_storeN rfl rfl rfl rfl (Nat.le_of_ble_eq_true rfl) ?_
 | refine RunsD.step tabOk hn rfl rfl ?_
 | refine RunsD.nil ?_
 | refine Runs.toDraw 30 mixed hn rfl (by kernel_rfl) rfl ?_
 | ((first | refine RunsL.pe hn rfl rfl rfl ?_ | refine RunsD.pe rfl rfl ?_); first
 | refine ⟨_, pu_add rfl rfl (by omega), ?_⟩
 | refine ⟨_, pu_indexAddr_map rfl rfl (by omega) (by assumption), ?_⟩
 | refine ⟨_, pu_sub rfl rfl (by omega), ?_⟩
 | refine ⟨_, pu_pick_b rfl rfl rfl, ?_⟩
 | refine ⟨_, pu_mul rfl rfl (by omega), ?_⟩
 | refine ⟨_, pu_build rfl rfl rfl rfl rfl rfl, ?_⟩))
      refine next2 _ _ ⟨rfl, rfl, rfl, rfl, trivial⟩ hlt2 trivial ?_
      rw [show (((b + 1 : Nat) : Int) - 1) = b by omega, show endA p b = e + m by omega]
  · obtain rfl : b = p.entries.length := by omega
    have est : endA p ((p.entries.length : Int) - 1) = p.code.length := by
      unfold endA
      rw [show ((p.entries.length : Int) - 1 + 1).toNat = p.entries.length by omega, List.getElem?_eq_none (Nat.le_refl _)]
    rw [est, Int.toNat_natCast]
    have hbd := needF_bd p p.code.length (p.entries.length - 1)
    have il : ((p.entries.length : Int) - 1).toNat * 1 = p.entries.length - 1 := by omega
    have hix : ∀ i, ((p.entries.length : Int) - 1).toNat * 1 = i → needF p p.code.length i = needF p p.code.length (p.entries.length - 1) := fun i hi => by rw [← hi, il]
    have hbd2 := hix _ rfl
    repeat' (first
 | ((first | refine RunsL.pe hn rfl rfl rfl ?_ | refine RunsD.pe rfl rfl ?_); first
 | refine ⟨_, pu_load_atI (tt := 3) (n := p.entries.length) rfl rfl rfl (by omega), ?_⟩)
 | refine RunsL.step tabOk hn rfl ?_
 | refine RunsL.nil ?_
 | refine Runs.toRegion 30 rfl ?_
 | ((first | refine RunsL.pe hn rfl rfl rfl ?_ | refine RunsD.pe rfl rfl ?_); first
 | refine ⟨_, pu_len_own (n := p.entries.length) rfl rfl (intsA_len1 _ _), ?_⟩
 | refine ⟨_, pu_indexAddr_own (sz := 1) (n := p.entries.length) rfl rfl rfl rfl (intsA_len1 _ _) (by omega) (by omega), ?_⟩)
 | (refine Runs.ctls 30 rfl ?_; first | refine Runs.cond_t rfl ?_ | refine Runs.cond_f rfl ?_ | ((first | refine Runs.cond_yes rfl ?_ ?_ | refine Runs.cond_nno rfl ?_ ?_); · first | omega | rfl | assumption | (simp only [List.length_map]; omega)) | ((first | refine Runs.cond_no rfl ?_ ?_ | refine Runs.cond_nyes rfl ?_ ?_); · first | omega | rfl | assumption | (simp only [List.length_map]; omega)) | refine Runs.cond_dec rfl (fun h => ?_) (fun h => ?_) | refine Runs.cond_ndec rfl (fun h => ?_) (fun h => ?_) | refine Runs.cond_nb rfl (fun h => ?_) (fun h => ?_) | refine Runs.cond_b rfl (fun h => ?_) (fun h => ?_) | refine Runs.ret (ends_ro hm rfl rfl ?_) | exact Runs.ret (ends_cellR hm rfl rfl rfl (Nat.le_of_ble_eq_true rfl) rfl rfl))
 | refine op_box rfl (tl hn rfl) ?_
 | refine op_storeF rfl rfl rfl rfl (Nat.le_of_ble_eq_true rfl) ?_
 | refine op_alloc (tl hn rfl) ?_
 | refine op_storeN rfl rfl rfl rfl (Nat.le_of_ble_eq_true rfl) ?_
 | refine RunsD.step tabOk hn rfl rfl ?_
 | refine RunsD.nil ?_
 | refine Runs.toDraw 30 mixed hn rfl (by kernel_rfl) rfl ?_
 | ((first | refine RunsL.pe hn rfl rfl rfl ?_ | refine RunsD.pe rfl rfl ?_); first
 | refine ⟨_, pu_add rfl rfl (by omega), ?_⟩
 | refine ⟨_, pu_indexAddr_map rfl rfl (by omega) (by assumption), ?_⟩
 | refine ⟨_, pu_sub rfl rfl (by omega), ?_⟩
 | refine ⟨_, pu_pick_b rfl rfl rfl, ?_⟩
 | refine ⟨_, pu_mul rfl rfl (by omega), ?_⟩
 | refine ⟨_, pu_build rfl rfl rfl rfl rfl rfl, ?_⟩))
    exact rr_int (by rw [hbd2]; rfl)
theorem impl_FitsMachine (p : Prg) (hB : PrgB p) : ACv Try.prog 41 [prgR p] (.bool (decide (SafeP p ∧ need p ≤ 60))) := by
  have h1 := impl_IsSafeProgram p hB
  refine ac_enter Try.func41 rfl _ Try.ntmps41 (by simp) fun C hn hm => ?_
  by_cases hS : SafeP p
  · have h2 := stackNeeded_ac p hB hS
    repeat' (first
 | refine RunsL.step tabOk hn rfl ?_
 | refine RunsL.nil ?_
 | refine Runs.toRegion 30 rfl ?_
 | (refine RunsL.pe hn rfl rfl rfl ?_; first
 | refine ⟨_, pu_callR h1 rfl, ?_⟩
 | refine ⟨_, pu_callR h2 rfl, ?_⟩)
 | (refine Runs.ctls 30 rfl ?_; first | refine Runs.cond_t rfl ?_ | refine Runs.cond_f rfl ?_ | ((first | refine Runs.cond_yes rfl ?_ ?_ | refine Runs.cond_nno rfl ?_ ?_); · first | omega | rfl | assumption | (simp only [List.length_map]; omega)) | ((first | refine Runs.cond_no rfl ?_ ?_ | refine Runs.cond_nyes rfl ?_ ?_); · first | omega | rfl | assumption | (simp only [List.length_map]; omega)) | refine Runs.cond_dec rfl (fun h => ?_) (fun h => ?_) | refine Runs.cond_ndec rfl (fun h => ?_) (fun h => ?_) | refine Runs.cond_nb rfl (fun h => ?_) (fun h => ?_) | refine Runs.cond_b rfl (fun h => ?_) (fun h => ?_) | refine Runs.ret (ends_ro hm rfl rfl ?_) | exact Runs.ret (ends_cellR hm rfl rfl rfl (Nat.le_of_ble_eq_true rfl) rfl rfl))
 | refine op_box rfl (tl hn rfl) ?_
 | refine op_storeF rfl rfl rfl rfl (Nat.le_of_ble_eq_true rfl) ?_
 | refine op_alloc (tl hn rfl) ?_
 | refine op_storeN rfl rfl rfl rfl (Nat.le_of_ble_eq_true rfl) ?_
 | (refine RunsL.pe hn rfl rfl rfl ?_; first
 | refine ⟨_, pu_add rfl rfl (by omega), ?_⟩
 | refine ⟨_, pu_indexAddr_map rfl rfl (by omega) (by assumption), ?_⟩
 | refine ⟨_, pu_sub rfl rfl (by omega), ?_⟩
 | refine ⟨_, pu_pick_b rfl rfl rfl, ?_⟩
 | refine ⟨_, pu_mul rfl rfl (by omega), ?_⟩
 | refine ⟨_, pu_build rfl rfl rfl rfl rfl rfl, ?_⟩)
 | ((first | refine RunsL.guard_dec rfl rfl rfl ?_ ?_ | refine RunsL.guard_ndec rfl rfl rfl ?_ ?_ | refine RunsL.guard_nb rfl rfl rfl ?_ ?_ | refine RunsL.guard_b rfl rfl rfl ?_ ?_) <;> intro h <;> try (exfalso; first | omega | contradiction | (simp only [List.length_map] at h; omega))))
    all_goals exact rr_bool (by rw [Bool.eq_iff_iff]; simp [*])
  · repeat' (first
 | refine RunsL.step tabOk hn rfl ?_
 | refine RunsL.nil ?_
 | refine Runs.toRegion 30 rfl ?_
 | (refine RunsL.pe hn rfl rfl rfl ?_; first
 | refine ⟨_, pu_callR h1 rfl, ?_⟩)
 | (refine Runs.ctls 30 rfl ?_; first | refine Runs.cond_t rfl ?_ | refine Runs.cond_f rfl ?_ | ((first | refine Runs.cond_yes rfl ?_ ?_ | refine Runs.cond_nno rfl ?_ ?_); · first | omega | rfl | assumption | (simp only [List.length_map]; omega)) | ((first | refine Runs.cond_no rfl ?_ ?_ | refine Runs.cond_nyes rfl ?_ ?_); · first | omega | rfl | assumption | (simp only [List.length_map]; omega)) | refine Runs.cond_dec rfl (fun h => ?_) (fun h => ?_) | refine Runs.cond_ndec rfl (fun h => ?_) (fun h => ?_) | refine Runs.cond_nb rfl (fun h => ?_) (fun h => ?_) | refine Runs.cond_b rfl (fun h => ?_) (fun h => ?_) | refine Runs.ret (ends_ro hm rfl rfl ?_) | exact Runs.ret (ends_cellR hm rfl rfl rfl (Nat.le_of_ble_eq_true rfl) rfl rfl))
 | refine op_box rfl (tl hn rfl) ?_
 | refine op_storeF rfl rfl rfl rfl (Nat.le_of_ble_eq_true rfl) ?_
 | refine op_alloc (tl hn rfl) ?_
 | refine op_storeN rfl rfl rfl rfl (Nat.le_of_ble_eq_true rfl) ?_
 | (refine RunsL.pe hn rfl rfl rfl ?_; first
 | refine ⟨_, pu_add rfl rfl (by omega), ?_⟩
 | refine ⟨_, pu_indexAddr_map rfl rfl (by omega) (by assumption), ?_⟩
 | refine ⟨_, pu_sub rfl rfl (by omega), ?_⟩
 | refine ⟨_, pu_pick_b rfl rfl rfl, ?_⟩
 | refine ⟨_, pu_mul rfl rfl (by omega), ?_⟩
 | refine ⟨_, pu_build rfl rfl rfl rfl rfl rfl, ?_⟩)
 | ((first | refine RunsL.guard_dec rfl rfl rfl ?_ ?_ | refine RunsL.guard_ndec rfl rfl rfl ?_ ?_ | refine RunsL.guard_nb rfl rfl rfl ?_ ?_ | refine RunsL.guard_b rfl rfl rfl ?_ ?_) <;> intro h <;> try (exfalso; first | omega | contradiction | (simp only [List.length_map] at h; omega))))
    all_goals exact rr_bool (decide_eq_false (p := SafeP p ∧ need p ≤ 60) fun h => hS h.1).symm
set_option maxHeartbeats 16000000 in
theorem spec_StackNeeded (p : Prg) (hB : PrgB p) : ACv Try.prog 53 [prgR p] (.int (stackN p)) := by
  have hlm : (p.entries.map fun z => [RV.int z]).length = p.entries.length := List.length_map ..
  have hlc : (p.code.map insR).length = p.code.length := List.length_map ..
  have hb2 := hB.ents
  have hel : p.entries.length ≤ maxLen := by unfold maxLen; omega
  have h1 := spec_IsSafeProgram p hB
  unfold stackN
  by_cases hS : SafeP p
  · have hF := hS.1
    have h700 := hF.len
    have hcl : p.code.length ≤ maxLen := by unfold maxLen; omega
    have hne : 0 < p.entries.length := (List.getElem?_eq_some_iff.1 hF.first).1
    have hc2 : 2 ≤ p.code.length := by have := hF.lt hF.first; omega
    rw [if_pos hS]
    refine ac_enter Try.func53 rfl _ Try.ntmps53 (by simp) fun C hn hm => ?_
    repeat' (first
 | refine RunsL.step tabOk hn rfl ?_
 | refine RunsL.nil ?_
 | refine Runs.toRegion 30 rfl ?_
 | refine op_make1 rfl rfl rfl rfl (by simp only [List.length_map]; omega) (by unfold maxLen; simp only [List.length_map]; omega) (tl hn rfl) ?_
 | ((first | refine RunsL.pe hn rfl rfl rfl ?_ | refine RunsD.pe rfl rfl ?_); first
 | refine ⟨_, pu_callR h1 rfl, ?_⟩)
 | (refine Runs.ctls 30 rfl ?_; first | refine Runs.cond_t rfl ?_ | refine Runs.cond_f rfl ?_ | ((first | refine Runs.cond_yes rfl ?_ ?_ | refine Runs.cond_nno rfl ?_ ?_); · first | omega | rfl | assumption | (simp only [List.length_map]; omega)) | ((first | refine Runs.cond_no rfl ?_ ?_ | refine Runs.cond_nyes rfl ?_ ?_); · first | omega | rfl | assumption | (simp only [List.length_map]; omega)) | refine Runs.cond_dec rfl (fun h => ?_) (fun h => ?_) | refine Runs.cond_ndec rfl (fun h => ?_) (fun h => ?_) | refine Runs.cond_nb rfl (fun h => ?_) (fun h => ?_) | refine Runs.cond_b rfl (fun h => ?_) (fun h => ?_) | refine Runs.ret (ends_ro hm rfl rfl ?_) | exact Runs.ret (ends_cellR hm rfl rfl rfl (Nat.le_of_ble_eq_true rfl) rfl rfl))
 | refine op_box rfl (tl hn rfl) ?_
 | refine op_storeF rfl rfl rfl rfl (Nat.le_of_ble_eq_true rfl) ?_
 | refine op_alloc (tl hn rfl) ?_
 | refine op_storeN rfl rfl rfl rfl (Nat.le_of_ble_eq_true rfl) ?_
 | refine RunsD.step tabOk hn rfl rfl ?_
 | refine RunsD.nil ?_
 | refine Runs.toDraw 30 mixed hn rfl (by kernel_rfl) rfl ?_
 | ((first | refine RunsL.pe hn rfl rfl rfl ?_ | refine RunsD.pe rfl rfl ?_); first
 | refine ⟨_, pu_add rfl rfl (by omega), ?_⟩
 | refine ⟨_, pu_indexAddr_map rfl rfl (by omega) (by assumption), ?_⟩
 | refine ⟨_, pu_sub rfl rfl (by omega), ?_⟩
 | refine ⟨_, pu_pick_b rfl rfl rfl, ?_⟩
 | refine ⟨_, pu_mul rfl rfl (by omega), ?_⟩
 | refine ⟨_, pu_build rfl rfl rfl rfl rfl rfl, ?_⟩))
    refine Runs.loopN 30 rfl (fun j => [(1, .obj 0 0), (3, .own 1), (4, .int (j : Int))]) (fun j => [⟨34, 0, [.ro (inssR p.code), .ro (intsR p.entries)]⟩, ⟨3, 1, intsA p.entries.length (needF p j)⟩]) (fun j => 2 ≤ j) p.code.length 2 hc2 (Nat.le_refl _) ⟨rfl, rfl, rfl, trivial⟩ (by
      rw [needF_two, ← intsA_zero]
      simp only [List.length_map]
      rfl) fun j hj hj2 next => ?_
    by_cases hlt : j < p.code.length
    · obtain ⟨x, hx⟩ : ∃ x, p.code[(j : Int).toNat]? = some x := ⟨_, List.getElem?_eq_getElem hlt⟩
      have ho : opA p j = x.op := opA_at (by omega) hx
      have ha : aA p j = x.a := aA_at (by omega) hx
      by_cases h9 : x.op = 9
      · obtain ⟨b, e, he, g1, g2, hbo⟩ := block_in hF (k := (j : Int)) (by omega) (by omega)
        have hbl2 := (List.getElem?_eq_some_iff.1 he).1
        have hcb := call_bo hS he g1 g2 hx h9
        have hbk := spec_BlockOfA p j hel
        rw [hbo] at hbk
        have hba := spec_BlockOfA p x.a hel
        have his := l16Is_ac p ((j : Int) - 1) 7 (by decide) hcl
        have hcall := needF_call (p := p) (k := j) (b := b) hj2 (by rw [ho, h9]) hbo
        rw [ha] at hcall
        have ib : (b : Int).toNat * 1 = b := by omega
        have hbd := needF_bd p j ((bo p x.a).toNat * 1)
        by_cases h7 : opA p ((j : Int) - 1) = 7
        · rw [if_pos h7] at hcall
          repeat' (first
 | refine Runs.toDrawT (id := 12) 30 [] [0, 1, 2, 3, 4, 5, 6, 7, 8, 9, 10, 11, 12, 13, 14, 15, 16, 17, 18, 19] 20 [] mixed hn rfl (by kernel_rfl) rfl .nil (by decide) (by decide) (by decide) ?_
 | refine RunsT.pur (fun _ => pu_load_atI (tt := 3) (n := p.entries.length) rfl rfl rfl (by omega)) (by decide) rfl rfl ?_
 | refine RunsT.nil ?_
 | refine RunsT.step tabOk rfl rfl (fun _ => rfl) (by decide) ?_
 | refine RunsT.pur (fun _ => pu_callR his rfl) (by decide) rfl rfl ?_
 | refine RunsT.pur (fun _ => pu_callR hbk rfl) (by decide) rfl rfl ?_
 | refine RunsT.pur (fun _ => pu_callR hba rfl) (by decide) rfl rfl ?_
 | refine RunsT.pur (fun _ => pu_callR (spec_Max _ _) rfl) (by decide) rfl rfl ?_
 | refine RunsT.pur (fun _ => pu_indexAddr_own (sz := 1) (n := p.entries.length) rfl rfl rfl rfl (intsA_len1 _ _) (by omega) (by omega)) (by decide) rfl rfl ?_
 | refine RunsT.pur (fun _ => pu_add rfl rfl (by omega)) (by decide) rfl rfl ?_
 | refine RunsT.pur (fun _ => pu_indexAddr_map rfl rfl (by omega) (by assumption)) (by decide) rfl rfl ?_
 | refine RunsT.alloc (p := 0) rfl inferInstance ?_
 | refine RunsT.alloc (p := 1) rfl inferInstance ?_
 | ((first | refine RunsL.pe hn rfl rfl rfl ?_ | refine RunsD.pe rfl rfl ?_); first
 | refine ⟨_, pu_load_atI (tt := 3) (n := p.entries.length) rfl rfl rfl (by omega), ?_⟩)
 | refine RunsL.step tabOk hn rfl ?_
 | refine RunsL.nil ?_
 | refine Runs.toRegion 30 rfl ?_
 | refine op_store1I (n := p.entries.length) rfl rfl rfl rfl (by omega) ?_
 | ((first | refine RunsL.pe hn rfl rfl rfl ?_ | refine RunsD.pe rfl rfl ?_); first
 | refine ⟨_, pu_callR his rfl, ?_⟩
 | refine ⟨_, pu_callR hbk rfl, ?_⟩
 | refine ⟨_, pu_callR hba rfl, ?_⟩
 | refine ⟨_, pu_callR (spec_Max _ _) rfl, ?_⟩
 | refine ⟨_, pu_indexAddr_own (sz := 1) (n := p.entries.length) rfl rfl rfl rfl (intsA_len1 _ _) (by omega) (by omega), ?_⟩)
 | (refine Runs.ctls 30 rfl ?_; first | refine Runs.cond_t rfl ?_ | refine Runs.cond_f rfl ?_ | ((first | refine Runs.cond_yes rfl ?_ ?_ | refine Runs.cond_nno rfl ?_ ?_); · first | omega | rfl | assumption | (simp only [List.length_map]; omega)) | ((first | refine Runs.cond_no rfl ?_ ?_ | refine Runs.cond_nyes rfl ?_ ?_); · first | omega | rfl | assumption | (simp only [List.length_map]; omega)) | refine Runs.cond_dec rfl (fun h => ?_) (fun h => ?_) | refine Runs.cond_ndec rfl (fun h => ?_) (fun h => ?_) | refine Runs.cond_nb rfl (fun h => ?_) (fun h => ?_) | refine Runs.cond_b rfl (fun h => ?_) (fun h => ?_) | refine Runs.ret (ends_ro hm rfl rfl ?_) | exact Runs.ret (ends_cellR hm rfl rfl rfl (Nat.le_of_ble_eq_true rfl) rfl rfl))
 | refine op_box rfl (tl hn rfl) ?_
 | refine op_storeF rfl rfl rfl rfl (Nat.le_of_ble_eq_true rfl) ?_
 | refine op_alloc (tl hn rfl) ?_
 | refine op_storeN rfl rfl rfl rfl (Nat.le_of_ble_eq_true rfl) ?_
 | refine RunsD.step tabOk hn rfl rfl ?_
 | refine RunsD.nil ?_
 | refine Runs.toDraw 30 mixed hn rfl (by kernel_rfl) rfl ?_
 | ((first | refine RunsL.pe hn rfl rfl rfl ?_ | refine RunsD.pe rfl rfl ?_); first
 | refine ⟨_, pu_add rfl rfl (by omega), ?_⟩
 | refine ⟨_, pu_indexAddr_map rfl rfl (by omega) (by assumption), ?_⟩
 | refine ⟨_, pu_sub rfl rfl (by omega), ?_⟩
 | refine ⟨_, pu_pick_b rfl rfl rfl, ?_⟩
 | refine ⟨_, pu_mul rfl rfl (by omega), ?_⟩
 | refine ⟨_, pu_build rfl rfl rfl rfl rfl rfl, ?_⟩))
          refine next _ _ ⟨rfl, rfl, rfl, trivial⟩ hlt (by omega) ?_
          rw [hcall]
          simp only [ib, Nat.mul_one]
          rfl
        · rw [if_neg h7] at hcall
          repeat' (first
 | refine Runs.toDrawT (id := 12) 30 [] [0, 1, 2, 3, 4, 5, 6, 7, 8, 9, 10, 11, 12, 13, 14, 15, 16, 17, 18, 19] 20 [] mixed hn rfl (by kernel_rfl) rfl .nil (by decide) (by decide) (by decide) ?_
 | refine RunsT.pur (fun _ => pu_load_atI (tt := 3) (n := p.entries.length) rfl rfl rfl (by omega)) (by decide) rfl rfl ?_
 | refine RunsT.nil ?_
 | refine RunsT.step tabOk rfl rfl (fun _ => rfl) (by decide) ?_
 | refine RunsT.pur (fun _ => pu_callR his rfl) (by decide) rfl rfl ?_
 | refine RunsT.pur (fun _ => pu_callR hbk rfl) (by decide) rfl rfl ?_
 | refine RunsT.pur (fun _ => pu_callR hba rfl) (by decide) rfl rfl ?_
 | refine RunsT.pur (fun _ => pu_callR (spec_Max _ _) rfl) (by decide) rfl rfl ?_
 | refine RunsT.pur (fun _ => pu_indexAddr_own (sz := 1) (n := p.entries.length) rfl rfl rfl rfl (intsA_len1 _ _) (by omega) (by omega)) (by decide) rfl rfl ?_
 | refine RunsT.pur (fun _ => pu_add rfl rfl (by omega)) (by decide) rfl rfl ?_
 | refine RunsT.pur (fun _ => pu_indexAddr_map rfl rfl (by omega) (by assumption)) (by decide) rfl rfl ?_
 | refine RunsT.alloc (p := 0) rfl inferInstance ?_
 | refine RunsT.alloc (p := 1) rfl inferInstance ?_
 | ((first | refine RunsL.pe hn rfl rfl rfl ?_ | refine RunsD.pe rfl rfl ?_); first
 | refine ⟨_, pu_load_atI (tt := 3) (n := p.entries.length) rfl rfl rfl (by omega), ?_⟩)
 | refine RunsL.step tabOk hn rfl ?_
 | refine RunsL.nil ?_
 | refine Runs.toRegion 30 rfl ?_
 | refine op_store1I (n := p.entries.length) rfl rfl rfl rfl (by omega) ?_
 | ((first | refine RunsL.pe hn rfl rfl rfl ?_ | refine RunsD.pe rfl rfl ?_); first
 | refine ⟨_, pu_callR his rfl, ?_⟩
 | refine ⟨_, pu_callR hbk rfl, ?_⟩
 | refine ⟨_, pu_callR hba rfl, ?_⟩
 | refine ⟨_, pu_callR (spec_Max _ _) rfl, ?_⟩
 | refine ⟨_, pu_indexAddr_own (sz := 1) (n := p.entries.length) rfl rfl rfl rfl (intsA_len1 _ _) (by omega) (by omega), ?_⟩)
 | (refine Runs.ctls 30 rfl ?_; first | refine Runs.cond_t rfl ?_ | refine Runs.cond_f rfl ?_ | ((first | refine Runs.cond_yes rfl ?_ ?_ | refine Runs.cond_nno rfl ?_ ?_); · first | omega | rfl | assumption | (simp only [List.length_map]; omega)) | ((first | refine Runs.cond_no rfl ?_ ?_ | refine Runs.cond_nyes rfl ?_ ?_); · first | omega | rfl | assumption | (simp only [List.length_map]; omega)) | refine Runs.cond_dec rfl (fun h => ?_) (fun h => ?_) | refine Runs.cond_ndec rfl (fun h => ?_) (fun h => ?_) | refine Runs.cond_nb rfl (fun h => ?_) (fun h => ?_) | refine Runs.cond_b rfl (fun h => ?_) (fun h => ?_) | refine Runs.ret (ends_ro hm rfl rfl ?_) | exact Runs.ret (ends_cellR hm rfl rfl rfl (Nat.le_of_ble_eq_true rfl) rfl rfl))
 | refine op_box rfl (tl hn rfl) ?_
 | refine op_storeF rfl rfl rfl rfl (Nat.le_of_ble_eq_true rfl) ?_
 | refine op_alloc (tl hn rfl) ?_
 | refine op_storeN rfl rfl rfl rfl (Nat.le_of_ble_eq_true rfl) ?_
 | refine RunsD.step tabOk hn rfl rfl ?_
 | refine RunsD.nil ?_
 | refine Runs.toDraw 30 mixed hn rfl (by kernel_rfl) rfl ?_
 | ((first | refine RunsL.pe hn rfl rfl rfl ?_ | refine RunsD.pe rfl rfl ?_); first
 | refine ⟨_, pu_add rfl rfl (by omega), ?_⟩
 | refine ⟨_, pu_indexAddr_map rfl rfl (by omega) (by assumption), ?_⟩
 | refine ⟨_, pu_sub rfl rfl (by omega), ?_⟩
 | refine ⟨_, pu_pick_b rfl rfl rfl, ?_⟩
 | refine ⟨_, pu_mul rfl rfl (by omega), ?_⟩
 | refine ⟨_, pu_build rfl rfl rfl rfl rfl rfl, ?_⟩))
          refine next _ _ ⟨rfl, rfl, rfl, trivial⟩ hlt (by omega) ?_
          rw [hcall]
          simp only [ib, Nat.mul_one]
          rfl
      · have hsk := needF_skip (p := p) (k := j) (by rw [ho]; exact h9)
        repeat' (first
 | refine RunsL.step tabOk hn rfl ?_
 | refine RunsL.nil ?_
 | refine Runs.toRegion 30 rfl ?_
 | (refine Runs.ctls 30 rfl ?_; first | refine Runs.cond_t rfl ?_ | refine Runs.cond_f rfl ?_ | ((first | refine Runs.cond_yes rfl ?_ ?_ | refine Runs.cond_nno rfl ?_ ?_); · first | omega | rfl | assumption | (simp only [List.length_map]; omega)) | ((first | refine Runs.cond_no rfl ?_ ?_ | refine Runs.cond_nyes rfl ?_ ?_); · first | omega | rfl | assumption | (simp only [List.length_map]; omega)) | refine Runs.cond_dec rfl (fun h => ?_) (fun h => ?_) | refine Runs.cond_ndec rfl (fun h => ?_) (fun h => ?_) | refine Runs.cond_nb rfl (fun h => ?_) (fun h => ?_) | refine Runs.cond_b rfl (fun h => ?_) (fun h => ?_) | refine Runs.ret (ends_ro hm rfl rfl ?_) | exact Runs.ret (ends_cellR hm rfl rfl rfl (Nat.le_of_ble_eq_true rfl) rfl rfl))
 | refine op_box rfl (tl hn rfl) ?_
 | refine op_storeF rfl rfl rfl rfl (Nat.le_of_ble_eq_true rfl) ?_
 | refine op_alloc (tl hn rfl) ?_
 | refine op_storeN rfl rfl rfl rfl (Nat.le_of_ble_eq_true rfl) ?_
 | refine RunsD.step tabOk hn rfl rfl ?_
 | refine RunsD.nil ?_
 | refine Runs.toDraw 30 mixed hn rfl (by kernel_rfl) rfl ?_
 | ((first | refine RunsL.pe hn rfl rfl rfl ?_ | refine RunsD.pe rfl rfl ?_); first
 | refine ⟨_, pu_add rfl rfl (by omega), ?_⟩
 | refine ⟨_, pu_indexAddr_map rfl rfl (by omega) (by assumption), ?_⟩
 | refine ⟨_, pu_sub rfl rfl (by omega), ?_⟩
 | refine ⟨_, pu_pick_b rfl rfl rfl, ?_⟩
 | refine ⟨_, pu_mul rfl rfl (by omega), ?_⟩
 | refine ⟨_, pu_build rfl rfl rfl rfl rfl rfl, ?_⟩))
        refine next _ _ ⟨rfl, rfl, rfl, trivial⟩ hlt (by omega) ?_
        rw [hsk]
    · obtain rfl : j = p.code.length := by omega
      have hbd := needF_bd p p.code.length (p.entries.length - 1)
      have il : ((p.entries.length : Int) - 1).toNat * 1 = p.entries.length - 1 := by omega
      have hbd2 : needF p p.code.length (((p.entries.length : Int) - 1).toNat * 1) = needF p p.code.length (p.entries.length - 1) := by rw [il]
      repeat' (first
 | ((first | refine RunsL.pe hn rfl rfl rfl ?_ | refine RunsD.pe rfl rfl ?_); first
 | refine ⟨_, pu_load_atI (tt := 3) (n := p.entries.length) rfl rfl rfl (by omega), ?_⟩)
 | refine RunsL.step tabOk hn rfl ?_
 | refine RunsL.nil ?_
 | refine Runs.toRegion 30 rfl ?_
 | ((first | refine RunsL.pe hn rfl rfl rfl ?_ | refine RunsD.pe rfl rfl ?_); first
 | refine ⟨_, pu_len_own (n := p.entries.length) rfl rfl (intsA_len1 _ _), ?_⟩
 | refine ⟨_, pu_indexAddr_own (sz := 1) (n := p.entries.length) rfl rfl rfl rfl (intsA_len1 _ _) (by omega) (by omega), ?_⟩)
 | (refine Runs.ctls 30 rfl ?_; first | refine Runs.cond_t rfl ?_ | refine Runs.cond_f rfl ?_ | ((first | refine Runs.cond_yes rfl ?_ ?_ | refine Runs.cond_nno rfl ?_ ?_); · first | omega | rfl | assumption | (simp only [List.length_map]; omega)) | ((first | refine Runs.cond_no rfl ?_ ?_ | refine Runs.cond_nyes rfl ?_ ?_); · first | omega | rfl | assumption | (simp only [List.length_map]; omega)) | refine Runs.cond_dec rfl (fun h => ?_) (fun h => ?_) | refine Runs.cond_ndec rfl (fun h => ?_) (fun h => ?_) | refine Runs.cond_nb rfl (fun h => ?_) (fun h => ?_) | refine Runs.cond_b rfl (fun h => ?_) (fun h => ?_) | refine Runs.ret (ends_ro hm rfl rfl ?_) | exact Runs.ret (ends_cellR hm rfl rfl rfl (Nat.le_of_ble_eq_true rfl) rfl rfl))
 | refine op_box rfl (tl hn rfl) ?_
 | refine op_storeF rfl rfl rfl rfl (Nat.le_of_ble_eq_true rfl) ?_
 | refine op_alloc (tl hn rfl) ?_
 | refine op_storeN rfl rfl rfl rfl (Nat.le_of_ble_eq_true rfl) ?_
 | refine RunsD.step tabOk hn rfl rfl ?_
 | refine RunsD.nil ?_
 | refine Runs.toDraw 30 mixed hn rfl (by kernel_rfl) rfl ?_
 | ((first | refine RunsL.pe hn rfl rfl rfl ?_ | refine RunsD.pe rfl rfl ?_); first
 | refine ⟨_, pu_add rfl rfl (by omega), ?_⟩
 | refine ⟨_, pu_indexAddr_map rfl rfl (by omega) (by assumption), ?_⟩
 | refine ⟨_, pu_sub rfl rfl (by omega), ?_⟩
 | refine ⟨_, pu_pick_b rfl rfl rfl, ?_⟩
 | refine ⟨_, pu_mul rfl rfl (by omega), ?_⟩
 | refine ⟨_, pu_build rfl rfl rfl rfl rfl rfl, ?_⟩))
      exact rr_int (by rw [hbd2]; rfl)
  · rw [if_neg hS]
    refine ac_enter Try.func53 rfl _ Try.ntmps53 (by simp) fun C hn hm => ?_
    repeat' (first
 | refine RunsL.step tabOk hn rfl ?_
 | refine RunsL.nil ?_
 | refine Runs.toRegion 30 rfl ?_
 | ((first | refine RunsL.pe hn rfl rfl rfl ?_ | refine RunsD.pe rfl rfl ?_); first
 | refine ⟨_, pu_callR h1 rfl, ?_⟩)
 | (refine Runs.ctls 30 rfl ?_; first | refine Runs.cond_t rfl ?_ | refine Runs.cond_f rfl ?_ | ((first | refine Runs.cond_yes rfl ?_ ?_ | refine Runs.cond_nno rfl ?_ ?_); · first | omega | rfl | assumption | (simp only [List.length_map]; omega)) | ((first | refine Runs.cond_no rfl ?_ ?_ | refine Runs.cond_nyes rfl ?_ ?_); · first | omega | rfl | assumption | (simp only [List.length_map]; omega)) | refine Runs.cond_dec rfl (fun h => ?_) (fun h => ?_) | refine Runs.cond_ndec rfl (fun h => ?_) (fun h => ?_) | refine Runs.cond_nb rfl (fun h => ?_) (fun h => ?_) | refine Runs.cond_b rfl (fun h => ?_) (fun h => ?_) | refine Runs.ret (ends_ro hm rfl rfl ?_) | exact Runs.ret (ends_cellR hm rfl rfl rfl (Nat.le_of_ble_eq_true rfl) rfl rfl))
 | refine op_box rfl (tl hn rfl) ?_
 | refine op_storeF rfl rfl rfl rfl (Nat.le_of_ble_eq_true rfl) ?_
 | refine op_alloc (tl hn rfl) ?_
 | refine op_storeN rfl rfl rfl rfl (Nat.le_of_ble_eq_true rfl) ?_
 | refine RunsD.step tabOk hn rfl rfl ?_
 | refine RunsD.nil ?_
 | refine Runs.toDraw 30 mixed hn rfl (by kernel_rfl) rfl ?_
 | ((first | refine RunsL.pe hn rfl rfl rfl ?_ | refine RunsD.pe rfl rfl ?_); first
 | refine ⟨_, pu_add rfl rfl (by omega), ?_⟩
 | refine ⟨_, pu_indexAddr_map rfl rfl (by omega) (by assumption), ?_⟩
 | refine ⟨_, pu_sub rfl rfl (by omega), ?_⟩
 | refine ⟨_, pu_pick_b rfl rfl rfl, ?_⟩
 | refine ⟨_, pu_mul rfl rfl (by omega), ?_⟩
 | refine ⟨_, pu_build rfl rfl rfl rfl rfl rfl, ?_⟩))
    all_goals exact rr_int rfl
theorem spec_FitsMachine (p : Prg) (hB : PrgB p) : ACv Try.prog 33 [prgR p] (.bool (decide (SafeP p ∧ need p ≤ 60))) := by
  have h1 := spec_IsSafeProgram p hB
  have h2 := spec_StackNeeded p hB
  refine ac_enter Try.func33 rfl _ Try.ntmps33 (by simp) fun C hn hm => ?_
  by_cases hS : SafeP p
  · unfold stackN at h2
    rw [if_pos hS] at h2
    repeat' (first
 | refine RunsL.step tabOk hn rfl ?_
 | refine RunsL.nil ?_
 | refine Runs.toRegion 30 rfl ?_
 | (refine RunsL.pe hn rfl rfl rfl ?_; first
 | refine ⟨_, pu_callR h1 rfl, ?_⟩
 | refine ⟨_, pu_callR h2 rfl, ?_⟩)
 | (refine Runs.ctls 30 rfl ?_; first | refine Runs.cond_t rfl ?_ | refine Runs.cond_f rfl ?_ | ((first | refine Runs.cond_yes rfl ?_ ?_ | refine Runs.cond_nno rfl ?_ ?_); · first | omega | rfl | assumption | (simp only [List.length_map]; omega)) | ((first | refine Runs.cond_no rfl ?_ ?_ | refine Runs.cond_nyes rfl ?_ ?_); · first | omega | rfl | assumption | (simp only [List.length_map]; omega)) | refine Runs.cond_dec rfl (fun h => ?_) (fun h => ?_) | refine Runs.cond_ndec rfl (fun h => ?_) (fun h => ?_) | refine Runs.cond_nb rfl (fun h => ?_) (fun h => ?_) | refine Runs.cond_b rfl (fun h => ?_) (fun h => ?_) | refine Runs.ret (ends_ro hm rfl rfl ?_) | exact Runs.ret (ends_cellR hm rfl rfl rfl (Nat.le_of_ble_eq_true rfl) rfl rfl))
 | refine op_box rfl (tl hn rfl) ?_
 | refine op_storeF rfl rfl rfl rfl (Nat.le_of_ble_eq_true rfl) ?_
 | refine op_alloc (tl hn rfl) ?_
 | refine op_storeN rfl rfl rfl rfl (Nat.le_of_ble_eq_true rfl) ?_
 | (refine RunsL.pe hn rfl rfl rfl ?_; first
 | refine ⟨_, pu_add rfl rfl (by omega), ?_⟩
 | refine ⟨_, pu_indexAddr_map rfl rfl (by omega) (by assumption), ?_⟩
 | refine ⟨_, pu_sub rfl rfl (by omega), ?_⟩
 | refine ⟨_, pu_pick_b rfl rfl rfl, ?_⟩
 | refine ⟨_, pu_mul rfl rfl (by omega), ?_⟩
 | refine ⟨_, pu_build rfl rfl rfl rfl rfl rfl, ?_⟩)
 | ((first | refine RunsL.guard_dec rfl rfl rfl ?_ ?_ | refine RunsL.guard_ndec rfl rfl rfl ?_ ?_ | refine RunsL.guard_nb rfl rfl rfl ?_ ?_ | refine RunsL.guard_b rfl rfl rfl ?_ ?_) <;> intro h <;> try (exfalso; first | omega | contradiction | (simp only [List.length_map] at h; omega))))
    all_goals exact rr_bool (by rw [Bool.eq_iff_iff]; simp [*])
  · repeat' (first
 | refine RunsL.step tabOk hn rfl ?_
 | refine RunsL.nil ?_
 | refine Runs.toRegion 30 rfl ?_
 | (refine RunsL.pe hn rfl rfl rfl ?_; first
 | refine ⟨_, pu_callR h1 rfl, ?_⟩
 | refine ⟨_, pu_callR h2 rfl, ?_⟩)
 | (refine Runs.ctls 30 rfl ?_; first | refine Runs.cond_t rfl ?_ | refine Runs.cond_f rfl ?_ | ((first | refine Runs.cond_yes rfl ?_ ?_ | refine Runs.cond_nno rfl ?_ ?_); · first | omega | rfl | assumption | (simp only [List.length_map]; omega)) | ((first | refine Runs.cond_no rfl ?_ ?_ | refine Runs.cond_nyes rfl ?_ ?_); · first | omega | rfl | assumption | (simp only [List.length_map]; omega)) | refine Runs.cond_dec rfl (fun h => ?_) (fun h => ?_) | refine Runs.cond_ndec rfl (fun h => ?_) (fun h => ?_) | refine Runs.cond_nb rfl (fun h => ?_) (fun h => ?_) | refine Runs.cond_b rfl (fun h => ?_) (fun h => ?_) | refine Runs.ret (ends_ro hm rfl rfl ?_) | exact Runs.ret (ends_cellR hm rfl rfl rfl (Nat.le_of_ble_eq_true rfl) rfl rfl))
 | refine op_box rfl (tl hn rfl) ?_
 | refine op_storeF rfl rfl rfl rfl (Nat.le_of_ble_eq_true rfl) ?_
 | refine op_alloc (tl hn rfl) ?_
 | refine op_storeN rfl rfl rfl rfl (Nat.le_of_ble_eq_true rfl) ?_
 | (refine RunsL.pe hn rfl rfl rfl ?_; first
 | refine ⟨_, pu_add rfl rfl (by omega), ?_⟩
 | refine ⟨_, pu_indexAddr_map rfl rfl (by omega) (by assumption), ?_⟩
 | refine ⟨_, pu_sub rfl rfl (by omega), ?_⟩
 | refine ⟨_, pu_pick_b rfl rfl rfl, ?_⟩
 | refine ⟨_, pu_mul rfl rfl (by omega), ?_⟩
 | refine ⟨_, pu_build rfl rfl rfl rfl rfl rfl, ?_⟩)
 | ((first | refine RunsL.guard_dec rfl rfl rfl ?_ ?_ | refine RunsL.guard_ndec rfl rfl rfl ?_ ?_ | refine RunsL.guard_nb rfl rfl rfl ?_ ?_ | refine RunsL.guard_b rfl rfl rfl ?_ ?_) <;> intro h <;> try (exfalso; first | omega | contradiction | (simp only [List.length_map] at h; omega))))
    all_goals exact rr_bool (decide_eq_false (p := SafeP p ∧ need p ≤ 60) fun h => hS h.1).symm
end Go.Proofs.Ytkhnijggbfoimaa
/- The machine is fed a byte. -/
namespace Go.Proofs.Ytkhnijggbfoimaa
set_option linter.unusedSimpArgs false
set_option linter.unusedVariables false
open Go.RowKit
open AV (Mem Keeps)
set_option maxRecDepth 100000
set_option maxHeartbeats 16000000 in
theorem feed_am (p : Prg) (f : Bool) (m : Mch) (b : Int) (hm : MLen m) (hc : p.code.length ≤ 4194304) (hf : f = true → ∀ (k : Nat) x, p.code[k]? = some x → OpOk x) (hb : 0 ≤ b ∧ b ≤ 255) : AM Try.prog 51 (mO m) [0] [.obj 0 0, .ro (prgR p), .bool f, .int b] (mO (mFeed p f m b)) (.tup []) := by
  refine am_enter Try.func51 rfl _ Try.ntmps51 (by simp) (by simp) fun C gs hn => ?_
  have hlc : (p.code.map insR).length = p.code.length := List.length_map ..
  have hA := advance_am p f m hm hc
  have hL := mAdv_len (p := p) (f := f) hm
  have hI := fun h => mAdv_idx (p := p) (f := f) (m := m) h
  have hF : mFeed p f m b = (if (mAdv p f m).state = 1 then mFail (mAdv p f m) 7 else if (mAdv p f m).state ≠ 0 then mAdv p f m else mByte p (mAdv p f m) b) := rfl
  rw [hF]
  clear hF
  generalize mAdv p f m = q at hA hL hI ⊢
  by_cases h1 : q.state = 1
  · repeat' (first
 | refine op_callP 3 (hA) rfl (by simp [AV.onlys, AV.only]) (by simp [AV.only, AV.onlys]) rfl rfl rfl (mO_free _) (mO_free _) rfl (by first | exact trivial | exact ⟨rfl, trivial⟩ | exact ⟨rfl, rfl, trivial⟩ | exact ⟨rfl, rfl, rfl, trivial⟩ | exact ⟨rfl, rfl, rfl, rfl, trivial⟩) (fun t h => by injection h with h; subst h; exact tl hn rfl) ?_
 | refine op_callP 3 (failWith_am q 7) rfl (by simp [AV.onlys, AV.only]) (by simp [AV.only, AV.onlys]) rfl rfl rfl (mO_free _) (mO_free _) rfl (by first | exact trivial | exact ⟨rfl, trivial⟩ | exact ⟨rfl, rfl, trivial⟩ | exact ⟨rfl, rfl, rfl, trivial⟩ | exact ⟨rfl, rfl, rfl, rfl, trivial⟩) (fun t h => by injection h with h; subst h; exact tl hn rfl) ?_
 | refine RunsL.step tabOk hn rfl ?_
 | refine RunsL.nil ?_
 | refine Runs.toRegion 30 rfl ?_
 | ((first | refine RunsL.pe hn rfl rfl rfl ?_ | refine RunsD.pe rfl rfl ?_); first
 | refine ⟨_, pu_nilCheckP rfl, ?_⟩)
 | (refine Runs.ctls 30 rfl ?_; first | refine Runs.cond_t rfl ?_ | refine Runs.cond_f rfl ?_ | ((first | refine Runs.cond_yes rfl ?_ ?_ | refine Runs.cond_nno rfl ?_ ?_); · first | omega | rfl | assumption | (simp only [List.length_map]; omega)) | ((first | refine Runs.cond_no rfl ?_ ?_ | refine Runs.cond_nyes rfl ?_ ?_); · first | omega | rfl | assumption | (simp only [List.length_map]; omega)) | refine Runs.cond_dec rfl (fun h => ?_) (fun h => ?_) | refine Runs.cond_ndec rfl (fun h => ?_) (fun h => ?_) | refine Runs.cond_nb rfl (fun h => ?_) (fun h => ?_) | refine Runs.cond_b rfl (fun h => ?_) (fun h => ?_) | refine Runs.ret (ends_ro hm rfl rfl ?_) | exact Runs.ret (ends_cellR hm rfl rfl rfl (Nat.le_of_ble_eq_true rfl) rfl rfl))
 | refine op_box rfl (tl hn rfl) ?_
 | refine op_storeF rfl rfl rfl rfl (Nat.le_of_ble_eq_true rfl) ?_
 | refine op_alloc (tl hn rfl) ?_
 | refine op_storeN rfl rfl rfl rfl (Nat.le_of_ble_eq_true rfl) ?_
 | refine RunsD.step tabOk hn rfl rfl ?_
 | refine RunsD.nil ?_
 | refine Runs.toDraw 30 mixed hn rfl (by kernel_rfl) rfl ?_
 | ((first | refine RunsL.pe hn rfl rfl rfl ?_ | refine RunsD.pe rfl rfl ?_); first
 | refine ⟨_, pu_add rfl rfl (by omega), ?_⟩
 | refine ⟨_, pu_indexAddr_map rfl rfl (by omega) (by assumption), ?_⟩
 | refine ⟨_, pu_sub rfl rfl (by omega), ?_⟩
 | refine ⟨_, pu_pick_b rfl rfl rfl, ?_⟩
 | refine ⟨_, pu_mul rfl rfl (by omega), ?_⟩
 | refine ⟨_, pu_build rfl rfl rfl rfl rfl rfl, ?_⟩)
 | ((first | refine RunsL.guard_dec rfl rfl rfl ?_ ?_ | refine RunsL.guard_ndec rfl rfl rfl ?_ ?_ | refine RunsL.guard_nb rfl rfl rfl ?_ ?_ | refine RunsL.guard_b rfl rfl rfl ?_ ?_ | refine RunsD.guard_dec rfl rfl rfl ?_ ?_ | refine RunsD.guard_ndec rfl rfl rfl ?_ ?_ | refine RunsD.guard_nb rfl rfl rfl ?_ ?_ | refine RunsD.guard_b rfl rfl rfl ?_ ?_) <;> intro h <;> try (exfalso; first | omega | contradiction | (simp only [List.length_map] at h; omega))))
    all_goals first
      | (exfalso; omega)
      | (refine Runs.ctls 30 rfl ?_
         refine mO_ret (t := 0) (more := [⟨34, 0, [.ro (inssR p.code), .ro (intsR p.entries)]⟩]) rfl (mO_app ?_) rfl
         rw [if_pos h1])
  · by_cases h0 : q.state = 0
    · obtain ⟨hft, hst, hi⟩ := hI h0
      obtain ⟨x, hx⟩ : ∃ x, p.code[q.pc.toNat]? = some x := ⟨_, List.getElem?_eq_getElem (by unfold Idx at hi; omega)⟩
      have hxa : mAt p q = x := by unfold mAt; rw [hx]; rfl
      have hok := hf hft _ _ hx
      unfold Idx at hi
      have ho : 0 ≤ x.op ∧ x.op ≤ 17 := by have := hok.2.2.2.2.2; unfold InR at this; omega
      have ho1 : x.op = 1 → x.a ≤ 4 := fun h => by have := (hok.1 h).1; unfold InR at this; omega
      have hl : ((q.sums.map RV.int).map AV.ro).length = q.sums.length * 1 := by simp
      rw [if_neg h1, if_neg (by simp [h0])]
      unfold mByte
      rw [hxa]
      by_cases hbad : (x.op = 1 ∧ ¬ InR q.left 1 x.a) ∨ (x.op = 15 ∧ q.sums.length = 0)
      · rw [if_pos hbad]
        repeat' (first
 | refine Runs.toDrawT (id := 6) 30 [] [0, 1, 2, 3, 4, 5, 6, 7, 8] 9 [(8, 74, [.int .i64 0, .int .i64 0, .int .i64 0])] mixed hn rfl (by kernel_rfl) rfl .nil (by decide) (by decide) (by decide) ?_
 | refine op_callP 3 (hA) rfl (by simp [AV.onlys, AV.only]) (by simp [AV.only, AV.onlys]) rfl rfl rfl (mO_free _) (mO_free _) rfl (by first | exact trivial | exact ⟨rfl, trivial⟩ | exact ⟨rfl, rfl, trivial⟩ | exact ⟨rfl, rfl, rfl, trivial⟩ | exact ⟨rfl, rfl, rfl, rfl, trivial⟩) (fun t h => by injection h with h; subst h; exact tl hn rfl) ?_
 | refine op_callP 3 (failWith_am q 8) rfl (by simp [AV.onlys, AV.only]) (by simp [AV.only, AV.onlys]) rfl rfl rfl (mO_free _) (mO_free _) rfl (by first | exact trivial | exact ⟨rfl, trivial⟩ | exact ⟨rfl, rfl, trivial⟩ | exact ⟨rfl, rfl, rfl, trivial⟩ | exact ⟨rfl, rfl, rfl, rfl, trivial⟩) (fun t h => by injection h with h; subst h; exact tl hn rfl) ?_
 | refine RunsT.nil ?_
 | refine RunsT.step tabOk rfl rfl (fun _ => rfl) (by decide) ?_
 | refine RunsT.pur (fun _ => pu_nilCheckP rfl) (by decide) rfl rfl ?_
 | refine RunsT.pur (fun _ => pu_callR (inRange_ac _ _ _) rfl) (by decide) rfl rfl ?_
 | refine RunsT.pur (fun _ => pu_len_own (n := q.sums.length) rfl rfl hl) (by decide) rfl rfl ?_
 | refine RunsT.pur (fun _ => pu_add rfl rfl (by omega)) (by decide) rfl rfl ?_
 | refine RunsT.pur (fun _ => pu_indexAddr_map rfl rfl (by omega) (by assumption)) (by decide) rfl rfl ?_
 | refine RunsT.alloc (p := 0) rfl inferInstance ?_
 | refine RunsT.alloc (p := 1) rfl inferInstance ?_
 | refine RunsL.step tabOk hn rfl ?_
 | refine RunsL.nil ?_
 | refine Runs.toRegion 30 rfl ?_
 | ((first | refine RunsL.pe hn rfl rfl rfl ?_ | refine RunsD.pe rfl rfl ?_); first
 | refine ⟨_, pu_nilCheckP rfl, ?_⟩
 | refine ⟨_, pu_callR (inRange_ac _ _ _) rfl, ?_⟩
 | refine ⟨_, pu_len_own (n := q.sums.length) rfl rfl hl, ?_⟩)
 | (refine Runs.ctls 30 rfl ?_; first | refine Runs.cond_t rfl ?_ | refine Runs.cond_f rfl ?_ | ((first | refine Runs.cond_yes rfl ?_ ?_ | refine Runs.cond_nno rfl ?_ ?_); · first | omega | rfl | assumption | (simp only [List.length_map]; omega)) | ((first | refine Runs.cond_no rfl ?_ ?_ | refine Runs.cond_nyes rfl ?_ ?_); · first | omega | rfl | assumption | (simp only [List.length_map]; omega)) | refine Runs.cond_dec rfl (fun h => ?_) (fun h => ?_) | refine Runs.cond_ndec rfl (fun h => ?_) (fun h => ?_) | refine Runs.cond_nb rfl (fun h => ?_) (fun h => ?_) | refine Runs.cond_b rfl (fun h => ?_) (fun h => ?_) | refine Runs.ret (ends_ro hm rfl rfl ?_) | exact Runs.ret (ends_cellR hm rfl rfl rfl (Nat.le_of_ble_eq_true rfl) rfl rfl))
 | refine op_box rfl (tl hn rfl) ?_
 | refine op_storeF rfl rfl rfl rfl (Nat.le_of_ble_eq_true rfl) ?_
 | refine op_alloc (tl hn rfl) ?_
 | refine op_storeN rfl rfl rfl rfl (Nat.le_of_ble_eq_true rfl) ?_
 | refine RunsD.step tabOk hn rfl rfl ?_
 | refine RunsD.nil ?_
 | refine Runs.toDraw 30 mixed hn rfl (by kernel_rfl) rfl ?_
 | ((first | refine RunsL.pe hn rfl rfl rfl ?_ | refine RunsD.pe rfl rfl ?_); first
 | refine ⟨_, pu_add rfl rfl (by omega), ?_⟩
 | refine ⟨_, pu_indexAddr_map rfl rfl (by omega) (by assumption), ?_⟩
 | refine ⟨_, pu_sub rfl rfl (by omega), ?_⟩
 | refine ⟨_, pu_pick_b rfl rfl rfl, ?_⟩
 | refine ⟨_, pu_mul rfl rfl (by omega), ?_⟩
 | refine ⟨_, pu_build rfl rfl rfl rfl rfl rfl, ?_⟩)
 | ((first | refine RunsL.guard_dec rfl rfl rfl ?_ ?_ | refine RunsL.guard_ndec rfl rfl rfl ?_ ?_ | refine RunsL.guard_nb rfl rfl rfl ?_ ?_ | refine RunsL.guard_b rfl rfl rfl ?_ ?_ | refine RunsD.guard_dec rfl rfl rfl ?_ ?_ | refine RunsD.guard_ndec rfl rfl rfl ?_ ?_ | refine RunsD.guard_nb rfl rfl rfl ?_ ?_ | refine RunsD.guard_b rfl rfl rfl ?_ ?_) <;> intro h <;> try (exfalso; first | omega | contradiction | (simp only [List.length_map] at h; omega))))
        all_goals first
          | (exfalso; first | omega | (unfold InR at *; omega))
          | (refine Runs.ctls 30 rfl ?_
             refine mO_ret (t := 0) (more := [⟨34, 0, [.ro (inssR p.code), .ro (intsR p.entries)]⟩, ⟨74, 0, (insR x).map .ro⟩]) rfl (mO_app rfl) rfl)
      · rw [if_neg hbad]
        have hT := take_am q x b hL ho hb (fun h => ⟨by unfold InR at hbad; omega, by unfold InR at hbad; omega, ho1 h⟩) (fun h h' => hbad (.inr ⟨h, h'⟩))
        repeat' (first
 | refine Runs.toDrawT (id := 6) 30 [] [0, 1, 2, 3, 4, 5, 6, 7, 8] 9 [(8, 74, [.int .i64 0, .int .i64 0, .int .i64 0])] mixed hn rfl (by kernel_rfl) rfl .nil (by decide) (by decide) (by decide) ?_
 | refine op_callP 3 (hA) rfl (by simp [AV.onlys, AV.only]) (by simp [AV.only, AV.onlys]) rfl rfl rfl (mO_free _) (mO_free _) rfl (by first | exact trivial | exact ⟨rfl, trivial⟩ | exact ⟨rfl, rfl, trivial⟩ | exact ⟨rfl, rfl, rfl, trivial⟩ | exact ⟨rfl, rfl, rfl, rfl, trivial⟩) (fun t h => by injection h with h; subst h; exact tl hn rfl) ?_
 | refine op_callP 3 (hT) rfl (by simp [AV.onlys, AV.only]) (by simp [AV.only, AV.onlys]) rfl rfl rfl (mO_free _) (mO_free _) rfl (by first | exact trivial | exact ⟨rfl, trivial⟩ | exact ⟨rfl, rfl, trivial⟩ | exact ⟨rfl, rfl, rfl, trivial⟩ | exact ⟨rfl, rfl, rfl, rfl, trivial⟩) (fun t h => by injection h with h; subst h; exact tl hn rfl) ?_
 | refine RunsT.nil ?_
 | refine RunsT.step tabOk rfl rfl (fun _ => rfl) (by decide) ?_
 | refine RunsT.pur (fun _ => pu_nilCheckP rfl) (by decide) rfl rfl ?_
 | refine RunsT.pur (fun _ => pu_callR (inRange_ac _ _ _) rfl) (by decide) rfl rfl ?_
 | refine RunsT.pur (fun _ => pu_len_own (n := q.sums.length) rfl rfl hl) (by decide) rfl rfl ?_
 | refine RunsT.pur (fun _ => pu_add rfl rfl (by omega)) (by decide) rfl rfl ?_
 | refine RunsT.pur (fun _ => pu_indexAddr_map rfl rfl (by omega) (by assumption)) (by decide) rfl rfl ?_
 | refine RunsT.alloc (p := 0) rfl inferInstance ?_
 | refine RunsT.alloc (p := 1) rfl inferInstance ?_
 | refine RunsL.step tabOk hn rfl ?_
 | refine RunsL.nil ?_
 | refine Runs.toRegion 30 rfl ?_
 | ((first | refine RunsL.pe hn rfl rfl rfl ?_ | refine RunsD.pe rfl rfl ?_); first
 | refine ⟨_, pu_nilCheckP rfl, ?_⟩
 | refine ⟨_, pu_callR (inRange_ac _ _ _) rfl, ?_⟩
 | refine ⟨_, pu_len_own (n := q.sums.length) rfl rfl hl, ?_⟩)
 | (refine Runs.ctls 30 rfl ?_; first | refine Runs.cond_t rfl ?_ | refine Runs.cond_f rfl ?_ | ((first | refine Runs.cond_yes rfl ?_ ?_ | refine Runs.cond_nno rfl ?_ ?_); · first | omega | rfl | assumption | (simp only [List.length_map]; omega)) | ((first | refine Runs.cond_no rfl ?_ ?_ | refine Runs.cond_nyes rfl ?_ ?_); · first | omega | rfl | assumption | (simp only [List.length_map]; omega)) | refine Runs.cond_dec rfl (fun h => ?_) (fun h => ?_) | refine Runs.cond_ndec rfl (fun h => ?_) (fun h => ?_) | refine Runs.cond_nb rfl (fun h => ?_) (fun h => ?_) | refine Runs.cond_b rfl (fun h => ?_) (fun h => ?_) | refine Runs.ret (ends_ro hm rfl rfl ?_) | exact Runs.ret (ends_cellR hm rfl rfl rfl (Nat.le_of_ble_eq_true rfl) rfl rfl))
 | refine op_box rfl (tl hn rfl) ?_
 | refine op_storeF rfl rfl rfl rfl (Nat.le_of_ble_eq_true rfl) ?_
 | refine op_alloc (tl hn rfl) ?_
 | refine op_storeN rfl rfl rfl rfl (Nat.le_of_ble_eq_true rfl) ?_
 | refine RunsD.step tabOk hn rfl rfl ?_
 | refine RunsD.nil ?_
 | refine Runs.toDraw 30 mixed hn rfl (by kernel_rfl) rfl ?_
 | ((first | refine RunsL.pe hn rfl rfl rfl ?_ | refine RunsD.pe rfl rfl ?_); first
 | refine ⟨_, pu_add rfl rfl (by omega), ?_⟩
 | refine ⟨_, pu_indexAddr_map rfl rfl (by omega) (by assumption), ?_⟩
 | refine ⟨_, pu_sub rfl rfl (by omega), ?_⟩
 | refine ⟨_, pu_pick_b rfl rfl rfl, ?_⟩
 | refine ⟨_, pu_mul rfl rfl (by omega), ?_⟩
 | refine ⟨_, pu_build rfl rfl rfl rfl rfl rfl, ?_⟩)
 | ((first | refine RunsL.guard_dec rfl rfl rfl ?_ ?_ | refine RunsL.guard_ndec rfl rfl rfl ?_ ?_ | refine RunsL.guard_nb rfl rfl rfl ?_ ?_ | refine RunsL.guard_b rfl rfl rfl ?_ ?_ | refine RunsD.guard_dec rfl rfl rfl ?_ ?_ | refine RunsD.guard_ndec rfl rfl rfl ?_ ?_ | refine RunsD.guard_nb rfl rfl rfl ?_ ?_ | refine RunsD.guard_b rfl rfl rfl ?_ ?_) <;> intro h <;> try (exfalso; first | omega | contradiction | (simp only [List.length_map] at h; omega))))
        all_goals first
          | (exfalso; first | omega | (unfold InR at *; omega))
          | (refine Runs.ctls 30 rfl ?_
             refine mO_end (t := 0) (more := [⟨34, 0, [.ro (inssR p.code), .ro (intsR p.entries)]⟩, ⟨74, 0, (insR x).map .ro⟩]) rfl (mO_app rfl) rfl)
    · repeat' (first
 | refine op_callP 3 (hA) rfl (by simp [AV.onlys, AV.only]) (by simp [AV.only, AV.onlys]) rfl rfl rfl (mO_free _) (mO_free _) rfl (by first | exact trivial | exact ⟨rfl, trivial⟩ | exact ⟨rfl, rfl, trivial⟩ | exact ⟨rfl, rfl, rfl, trivial⟩ | exact ⟨rfl, rfl, rfl, rfl, trivial⟩) (fun t h => by injection h with h; subst h; exact tl hn rfl) ?_
 | refine op_callP 3 (failWith_am q 7) rfl (by simp [AV.onlys, AV.only]) (by simp [AV.only, AV.onlys]) rfl rfl rfl (mO_free _) (mO_free _) rfl (by first | exact trivial | exact ⟨rfl, trivial⟩ | exact ⟨rfl, rfl, trivial⟩ | exact ⟨rfl, rfl, rfl, trivial⟩ | exact ⟨rfl, rfl, rfl, rfl, trivial⟩) (fun t h => by injection h with h; subst h; exact tl hn rfl) ?_
 | refine RunsL.step tabOk hn rfl ?_
 | refine RunsL.nil ?_
 | refine Runs.toRegion 30 rfl ?_
 | ((first | refine RunsL.pe hn rfl rfl rfl ?_ | refine RunsD.pe rfl rfl ?_); first
 | refine ⟨_, pu_nilCheckP rfl, ?_⟩)
 | (refine Runs.ctls 30 rfl ?_; first | refine Runs.cond_t rfl ?_ | refine Runs.cond_f rfl ?_ | ((first | refine Runs.cond_yes rfl ?_ ?_ | refine Runs.cond_nno rfl ?_ ?_); · first | omega | rfl | assumption | (simp only [List.length_map]; omega)) | ((first | refine Runs.cond_no rfl ?_ ?_ | refine Runs.cond_nyes rfl ?_ ?_); · first | omega | rfl | assumption | (simp only [List.length_map]; omega)) | refine Runs.cond_dec rfl (fun h => ?_) (fun h => ?_) | refine Runs.cond_ndec rfl (fun h => ?_) (fun h => ?_) | refine Runs.cond_nb rfl (fun h => ?_) (fun h => ?_) | refine Runs.cond_b rfl (fun h => ?_) (fun h => ?_) | refine Runs.ret (ends_ro hm rfl rfl ?_) | exact Runs.ret (ends_cellR hm rfl rfl rfl (Nat.le_of_ble_eq_true rfl) rfl rfl))
 | refine op_box rfl (tl hn rfl) ?_
 | refine op_storeF rfl rfl rfl rfl (Nat.le_of_ble_eq_true rfl) ?_
 | refine op_alloc (tl hn rfl) ?_
 | refine op_storeN rfl rfl rfl rfl (Nat.le_of_ble_eq_true rfl) ?_
 | refine RunsD.step tabOk hn rfl rfl ?_
 | refine RunsD.nil ?_
 | refine Runs.toDraw 30 mixed hn rfl (by kernel_rfl) rfl ?_
 | ((first | refine RunsL.pe hn rfl rfl rfl ?_ | refine RunsD.pe rfl rfl ?_); first
 | refine ⟨_, pu_add rfl rfl (by omega), ?_⟩
 | refine ⟨_, pu_indexAddr_map rfl rfl (by omega) (by assumption), ?_⟩
 | refine ⟨_, pu_sub rfl rfl (by omega), ?_⟩
 | refine ⟨_, pu_pick_b rfl rfl rfl, ?_⟩
 | refine ⟨_, pu_mul rfl rfl (by omega), ?_⟩
 | refine ⟨_, pu_build rfl rfl rfl rfl rfl rfl, ?_⟩)
 | ((first | refine RunsL.guard_dec rfl rfl rfl ?_ ?_ | refine RunsL.guard_ndec rfl rfl rfl ?_ ?_ | refine RunsL.guard_nb rfl rfl rfl ?_ ?_ | refine RunsL.guard_b rfl rfl rfl ?_ ?_ | refine RunsD.guard_dec rfl rfl rfl ?_ ?_ | refine RunsD.guard_ndec rfl rfl rfl ?_ ?_ | refine RunsD.guard_nb rfl rfl rfl ?_ ?_ | refine RunsD.guard_b rfl rfl rfl ?_ ?_) <;> intro h <;> try (exfalso; first | omega | contradiction | (simp only [List.length_map] at h; omega))))
      all_goals first
        | (exfalso; omega)
        | (refine Runs.ctls 30 rfl ?_
           refine mO_ret (t := 0) (more := [⟨34, 0, [.ro (inssR p.code), .ro (intsR p.entries)]⟩]) rfl (mO_app ?_) rfl
           rw [if_neg h1, if_pos h0])
end Go.Proofs.Ytkhnijggbfoimaa
/- Regions that draw their order, without calls: walked once for each order. Over any program. -/
namespace Go.Proofs.Ytkhnijggbfoimaa
set_option linter.unusedSimpArgs false
set_option linter.unusedVariables false
open Go.RowKit
open AV (Mem Keeps)
/-- Operations that yield a value, or nothing (no call among them). -/
def plainOp (o : Oper) : Bool := stillOp o || match o.op with
  | .store _ _ _ => true
  | .binOp _ _ _ _ _ => true
  | .indexAddr _ _ _ => true
  | .extract _ _ => true
  | .alloc _ => true
  | .box _ _ => true
  | .unOp _ _ _ => true
  | .build _ _ => true
  | .field _ _ _ => true
  | .convert _ _ _ => true
  | _ => false
structure Nv (s : Sem Next) : Prop where
  val : ∀ (P : Program) (w : World) (x : Next) (w' : World), s.run P w = .ok x w' → (∃ v, x = .value v) ∨ x = .skip
theorem Nv.of {s : Sem Value} : Nv (do Pure.pure (.value (← s)) : Sem Next) := ⟨fun P w x w' e => by
  rw [Sem.run_bind] at e
  cases hs : s.run P w with
  | ok a w1 => rw [hs] at e; simp only [Result.andThen_ok, Sem.run_pure] at e; injection e with e; exact .inl ⟨a, e.symm⟩
  | halt q w1 => rw [hs] at e; cases e⟩
theorem Nv.ofU {s : Sem Unit} : Nv (do s; Pure.pure .skip : Sem Next) := ⟨fun P w x w' e => by
  rw [Sem.run_bind] at e
  cases hs : s.run P w with
  | ok a w1 => rw [hs] at e; simp only [Result.andThen_ok, Sem.run_pure] at e; injection e with e; exact .inr e.symm
  | halt q w1 => rw [hs] at e; cases e⟩
theorem plainOp_nv {o : Oper} (h : plainOp o = true) (ev : Operand → Value) : Nv (execOp ev o) := by
  unfold plainOp at h
  rw [Bool.or_eq_true] at h
  rcases h with h | h
  · exact ⟨fun P w x w' e => .inl ((stillOp_kp h ev).val P w x w' e)⟩
  · obtain ⟨dst, op, ty, pos, after, g⟩ := o
    cases op <;> simp only [Bool.false_eq_true] at h
    case store => exact Nv.ofU
    all_goals exact Nv.of
def sel (l : List Oper) : List Nat → List Oper
  | [] => []
  | i :: is => match l[i]? with
    | some o => o :: sel l is
    | none => sel l is
def ordersOf (md : Region.Mode) (ops : Array Oper) : Nat → Array Bool → List (List Nat)
  | 0, _ => [[]]
  | f + 1, listed => (Region.ready md ops listed).flatMap fun i => (ordersOf md ops f (listed.setIfInBounds i true)).map (i :: ·)
def ordB (md : Region.Mode) (ops : Array Oper) : Nat → Array Bool → Bool
  | 0, listed => (Region.ready md ops listed).isEmpty
  | f + 1, listed => !(Region.ready md ops listed).isEmpty && (Region.ready md ops listed).all fun i => ordB md ops f (listed.setIfInBounds i true)
theorem orders_some {md : Region.Mode} {ops : Array Oper} : ∀ (f : Nat) (listed : Array Bool), ordB md ops f listed = true → ∃ π, π ∈ ordersOf md ops f listed
  | 0, _, _ => ⟨[], by simp [ordersOf]⟩
  | f + 1, listed, h => by
    simp only [ordB, Bool.and_eq_true, Bool.not_eq_true', List.isEmpty_eq_false_iff] at h
    obtain ⟨i, hi⟩ := List.exists_mem_of_ne_nil _ h.1
    obtain ⟨π, hπ⟩ := orders_some f _ (List.all_eq_true.1 h.2 i hi)
    exact ⟨i :: π, by simp only [ordersOf, List.mem_flatMap, List.mem_map]; exact ⟨i, hi, π, hπ, rfl⟩⟩
theorem wpAny_of_orders {P : Program} {md : Region.Mode} {l : List Oper} {F : Act → World → Prop} (hp : (l.all plainOp) = true) : ∀ (f : Nat) (listed : Array Bool) (a : Act) (w : World), ordB md l.toArray f listed = true →
    (∀ π ∈ ordersOf md l.toArray f listed, wpList P l.toArray (nrm F) (sel l π) a w) → wpAny P md l.toArray (nrm F) f listed a w
  | 0, listed, a, w, hB, h => by
    simp only [ordB, List.isEmpty_iff] at hB
    exact ⟨hB, h [] (by simp [ordersOf])⟩
  | f + 1, listed, a, w, hB, h => by
    simp only [ordB, Bool.and_eq_true, Bool.not_eq_true', List.isEmpty_eq_false_iff] at hB
    refine ⟨fun h0 => absurd h0 hB.1, fun i hi => ?_⟩
    have hBi := List.all_eq_true.1 hB.2 i hi
    obtain ⟨_, o, ho, _⟩ := mem_ready.1 hi
    have hl : l[i]? = some o := by simpa using ho
    have hpo : plainOp o = true := List.all_eq_true.1 hp o (List.mem_of_getElem? hl)
    have hall : ∀ π ∈ ordersOf md l.toArray f (listed.setIfInBounds i true), wpList P l.toArray (nrm F) (o :: sel l π) a w := fun π hπ => by
      have := h (i :: π) (by simp only [ordersOf, List.mem_flatMap, List.mem_map]; exact ⟨i, hi, π, hπ, rfl⟩)
      simpa only [sel, hl] using this
    have hno : ¬ LetsOut (nrm F) := fun ⟨_, _, h⟩ => h
    unfold wpOp
    simp only [ho]
    by_cases hw : Region.wanted o (yielded l.toArray a.tmps) = true
    · rw [if_pos hw]
      refine .inl ?_
      have hall' : ∀ π ∈ ordersOf md l.toArray f (listed.setIfInBounds i true), o.wp P a w (wpList P l.toArray (nrm F) (sel l π)) (nrm F) := fun π hπ => by
        have := hall π hπ
        unfold wpList at this
        rw [if_pos hw] at this
        exact this.resolve_right fun h => hno h.2
      obtain ⟨π0, hπ0⟩ := orders_some f _ hBi
      have h0 := hall' π0 hπ0
      unfold Oper.wp at h0 hall' ⊢
      cases hr : (execOp a.eval o).run P w with
      | ok x w' =>
        rcases (plainOp_nv hpo a.eval).val P w x w' hr with ⟨v, rfl⟩ | rfl
        · simp only [hr, Oper.upon] at hall' ⊢
          exact wpAny_of_orders hp f _ _ _ hBi hall'
        · simp only [hr, Oper.upon] at hall' ⊢
          exact wpAny_of_orders hp f _ _ _ hBi hall'
      | halt q w' =>
        rw [hr] at h0
        cases q <;> exact h0
    · rw [if_neg hw]
      refine wpAny_of_orders hp f _ _ _ hBi fun π hπ => ?_
      have := hall π hπ
      unfold wpList at this
      rwa [if_neg hw] at this
section
variable {P : Program} {C : Ctx} {k : List Item} {R : Act → World → Prop} {env : Env} {σ : List Ob}
def AllOrd (P : Program) (C : Ctx) (l : List Oper) (k : List Item) (R : Act → World → Prop) (S : St) : List (List Nat) → Prop
  | [] => True
  | π :: L => RunsL P C l.toArray (sel l π) k R S ∧ AllOrd P C l k R S L
theorem AllOrd.at_ {l : List Oper} {S : St} : ∀ {L : List (List Nat)}, AllOrd P C l k R S L → ∀ π ∈ L, RunsL P C l.toArray (sel l π) k R S
  | [], _, π, h => by simp at h
  | ρ :: L, hL, π, h => by
    rcases List.mem_cons.1 h with rfl | h
    · exact hL.1
    · exact AllOrd.at_ hL.2 π h
theorem Runs.toPerm {id : Nat} {l : List Oper} {k' : List Item} (m : Nat) (L : List (List Nat)) (hf : P.follows .mixedOrders = true) (hc : Proofs.Ytkhnijggbfoimaa.ctls m k = .code (.region id l.toArray true) :: k') (hB : ordB .any l.toArray l.length (Array.replicate l.length false) = true)
    (hp : (l.all plainOp) = true) (hL : ordersOf .any l.toArray l.length (Array.replicate l.length false) = L) (h : AllOrd P C l k' R ⟨env, σ⟩ L) : Runs P C k R ⟨env, σ⟩ :=
  Runs.ctls m hc ⟨fun a w hs' => Fin.of_wp (wp_region_any hf (by
    obtain ⟨s1, s2, φ, hG, hE⟩ := hs'
    have hb : Below w.heap.size w { w with drawn := w.drawn + 1 } := ⟨rfl, rfl, rfl, Nat.le_refl _, fun _ _ => rfl⟩
    obtain ⟨g1, g2⟩ := good_below hG hb
    have := wpAny_of_orders (P := P) (md := .any) (F := Fin P k' R) hp l.length (Array.replicate l.length false) a { w with drawn := w.drawn + 1 } hB fun π hπ => (h.at_ π (hL ▸ hπ)).run a _ ⟨s1, s2, φ, g1, hE.keeps g2⟩
    simpa using this))⟩
end
end Go.Proofs.Ytkhnijggbfoimaa
/- Machines in a frame, and the functions that make them: the program's side. -/
namespace Go.Proofs.Ytkhnijggbfoimaa
set_option linter.unusedSimpArgs false
set_option linter.unusedVariables false
open Go.RowKit
open AV (Mem Keeps)
set_option maxRecDepth 100000
def mC (m : Mch) (a b : Nat) : List AV := [.int m.pc, .int m.register, .own a, .own b, .int m.left, .bool m.started, .bool m.escaped, .int m.state, .int m.code, .int m.read]
def rowI (l : List Int) : Ob := ⟨3, 1, (l.map RV.int).map .ro⟩
def mchRR (m : Mch) : RR := .agg [.ro (.int m.pc), .ro (.int m.register), .row 3 1 (m.stack.map RV.int), .row 3 1 (m.sums.map RV.int), .ro (.int m.left), .ro (.bool m.started), .ro (.bool m.escaped), .ro (.int m.state), .ro (.int m.code), .ro (.int m.read)]
theorem seals_mch (m : Mch) : Seals (mchRR m) (mchR m) := by
  have h1 := seals_ints 3 m.stack
  have h2 := seals_ints 3 m.sums
  unfold mchRR mchR
  generalize (RR.row 3 1 (m.stack.map RV.int)) = r1 at h1 ⊢
  generalize (RR.row 3 1 (m.sums.map RV.int)) = r2 at h2 ⊢
  simp only [Seals, SealsL]
  exact ⟨_, rfl, _, _, rfl, rfl, _, _, rfl, rfl, _, _, rfl, h1, _, _, rfl, h2, _, _, rfl, rfl, _, _, rfl, rfl, _, _, rfl, rfl, _, _, rfl, rfl, _, _, rfl, rfl, _, _, rfl, rfl, rfl⟩
theorem rens_ros (r : Nat → Nat) : ∀ rs : List RV, AV.rens r (rs.map .ro) = rs.map .ro
  | [] => rfl
  | x :: xs => by simp only [List.map_cons, AV.rens, AV.ren, rens_ros r xs]
theorem rowI_flat (l : List Int) : (⟨3, 1, (([] : List RV) ++ (l.map fun z => [RV.int z]).flatten).map .ro⟩ : Ob) = rowI l := by
  unfold rowI
  congr 2
  induction l with
  | nil => rfl
  | cons x l ih => simpa using ih
theorem unpin_ros : ∀ rs : List RV, (rs.map AV.ro).map unpin = rs.map .ro
  | [] => rfl
  | x :: xs => by simp only [List.map_cons, unpin, unpin_ros xs]
section
variable {P : Program} {C : Ctx} {fn : Func} {ops : Array Oper} {rest : List Oper} {k : List Item} {env : Env} {σ : List Ob} {t : Nat} {ty : TypeId} {pos : String} {after : Array Edge}
theorem harv_mch {m : Mch} {a b : Nat} (h1 : σ[a]? = some (rowI m.stack)) (h2 : σ[b]? = some (rowI m.sums)) : Harv σ (mchRR m) (.agg (mC m a b)) [a, b] := by
  simp only [mchRR, mC, Harv, Harvs, rowI] at *
  exact ⟨_, rfl, _, _, [], _, rfl, rfl, ⟨rfl, rfl⟩, _, _, [], _, rfl, rfl, ⟨rfl, rfl⟩, _, _, [a], [b], rfl, rfl, ⟨a, rfl, h1, rfl⟩, _, _, [b], [], rfl, rfl, ⟨b, rfl, h2, rfl⟩, _, _, [], _, rfl, rfl, ⟨rfl, rfl⟩, _, _, [], _, rfl, rfl, ⟨rfl, rfl⟩, _, _, [], _, rfl, rfl, ⟨rfl, rfl⟩, _, _, [], _, rfl, rfl, ⟨rfl, rfl⟩, _, _, [], _, rfl, rfl, ⟨rfl, rfl⟩, _, _, [], _, rfl, rfl, ⟨rfl, rfl⟩, rfl, rfl⟩
theorem resV_mch {p i a b : Nat} {m : Mch} {tt tt' : TypeId} [TN P tt 10] (hp : look env p = .obj i 0) (hi : σ[i]? = some ⟨tt', 0, mC m a b⟩) : ResV P ⟨env, σ⟩ (.cell p tt) (.agg (mC m a b)) := by
  simp only [ResV]
  exact ⟨i, 0, _, hp, hi, .inr ⟨10, inferInstance, Nat.le_refl _, rfl⟩⟩
theorem ends_mch {R : RR → Prop} {p i a b : Nat} {m : Mch} {tt tt' : TypeId} [TN P tt 10] (hm : ∀ b, ¬ C.mu b) (hr : fn.results = #[.cell p tt]) (hp : look env p = .obj i 0) (hi : σ[i]? = some ⟨tt', 0, mC m a b⟩) (h1 : σ[a]? = some (rowI m.stack)) (h2 : σ[b]? = some (rowI m.sums)) (hab : a ≠ b) (hR : R (mchRR m)) :
    ∀ ac w, Sim C ⟨env, σ⟩ ac w → Ends P C fn R ac w :=
  ends1 hm hr _ (resV_mch hp hi) (mchRR m) [a, b] (harv_mch h1 h2) (by simp [hab]) hR
theorem ends_mch2 {R : RR → Prop} {p q i a b : Nat} {m : Mch} {r : RV} {tt tt' : TypeId} [TN P tt 10] (hm : ∀ b, ¬ C.mu b) (hr : fn.results = #[.cell p tt, .tmp q]) (hp : look env p = .obj i 0) (hi : σ[i]? = some ⟨tt', 0, mC m a b⟩) (h1 : σ[a]? = some (rowI m.stack)) (h2 : σ[b]? = some (rowI m.sums)) (hab : a ≠ b) (hq : look env q = .ro r) (hR : R (.tup [mchRR m, .ro r])) :
    ∀ ac w, Sim C ⟨env, σ⟩ ac w → Ends P C fn R ac w :=
  endsN (xs := [.cell p tt, .tmp q]) hm hr (by simp) [.agg (mC m a b), .ro r] (by simp only [ResVs]; exact ⟨_, _, rfl, resV_mch hp hi, _, _, rfl, by simp only [ResV]; exact hq.symm, rfl⟩) [mchRR m, .ro r] [a, b] (by
    simp only [Harvs]
    exact ⟨_, _, [a, b], [], rfl, rfl, harv_mch h1 h2, _, _, [], [], rfl, rfl, by simp [Harv], rfl, rfl⟩) (by simp [hab]) hR
variable {R : Act → World → Prop}
/-- A call that is handed a machine of the frame's own. -/
theorem op_callMch {f : FuncId} {fn : Func} {xs : Array Operand} {ats : Array TypeId} {m m' : Mch} {rs : List RV} {d : Option Nat} [hfn : FN P f fn] (i a b : Nat) (hf : AM P f (mO m) [0] (.obj 0 0 :: rs.map .ro) (mO m') (.tup [])) (ha : xs.toList.map (ev env) = .obj i 0 :: rs.map .ro)
    (hi : σ[i]? = some ⟨30, 0, mC m a b⟩) (h1 : σ[a]? = some (rowI m.stack)) (h2 : σ[b]? = some (rowI m.sums)) (hne : i ≠ a ∧ i ≠ b ∧ a ≠ b) (hfree : FreeR [i, a, b] [0] 0 σ) (ht : ∀ t, d = some t → t < C.n)
    (hk : RunsL P C ops rest k R ⟨putEnv d (.tup []) (ridEnv (lentB [i, a, b]) (stB' [i, a, b] [0]) env), ((σ.set i ⟨30, 0, mC m' a b⟩).set a (rowI m'.stack)).set b (rowI m'.sums)⟩) :
    RunsL P C ops (⟨d, .call { callee := .value (.func f), args := xs, argTypes := ats }, ty, pos, after, none⟩ :: rest) k R ⟨env, σ⟩ := by
  have il := (List.getElem?_eq_some_iff.1 hi).1
  have al := (List.getElem?_eq_some_iff.1 h1).1
  have bl := (List.getElem?_eq_some_iff.1 h2).1
  have eM : ∀ m : Mch, (⟨30, 0, mC m 1 2⟩ : Ob).ren (rof [i, a, b]) = ⟨30, 0, mC m a b⟩ := fun m => rfl
  have eR : ∀ l : List Int, (rowI l).ren (rof [i, a, b]) = rowI l := fun l => by unfold rowI Ob.ren; simp only [rens_ros]
  have eO : ∀ m : Mch, mO m = [⟨30, 0, mC m 1 2⟩, rowI m.stack, rowI m.sums] := fun m => rfl
  refine op_callM (σ0 := mO m) (σ1 := mO m') [i, a, b] hf ?_ ?_ ?_ ht ?_
  · rw [ha, List.map_cons, unpin_ros]
    simp only [AV.rens, AV.ren, rens_ros, unpin]
    rfl
  · simp only [AV.onlys, AV.only]
    exact ⟨by simp [mO], onlysr _ _⟩
  · refine ⟨rfl, rfl, ?_, ?_, ?_, mO_free m, rfl, hfree⟩
    · simp only [List.all_cons, List.all_nil, Bool.and_eq_true]
      exact ⟨Nat.ble_eq_true_of_le il, Nat.ble_eq_true_of_le al, Nat.ble_eq_true_of_le bl, trivial⟩
    · simp [hne]
    · rw [eO]
      simp only [LentAt]
      refine ⟨?_, ?_, ?_, trivial⟩
      · rw [eM]; exact hi
      · rw [eR]; exact h1
      · rw [eR]; exact h2
  · rw [eO m']
    simp only [putObs, eM, eR]
    exact hk
end
set_option maxHeartbeats 4000000 in
theorem copyMachine_ac (m : Mch) (hm : MLen m) : AC Try.prog 39 [mchR m] fun rr => rr = mchRR m := by
  have h1 := hm.1
  have h2 := hm.2
  refine ac_enter Try.func39 rfl _ Try.ntmps39 (by simp) fun C hn hm => ?_
  repeat' (first
 | refine RunsL.step tabOk hn rfl ?_
 | refine RunsL.nil ?_
 | refine Runs.toRegion 30 rfl ?_
 | refine op_build0 (tl hn rfl) ?_
 | refine op_appendA rfl rfl rfl rfl rfl rfl (by repeat' (first | exact trivial | exact onlysr _ _ | exact (by decide : (2 : Nat) ≠ 3) | refine And.intro ?_ ?_)) (by simp; omega) rfl (tl hn rfl) ?_
 | (refine Runs.ctls 30 rfl ?_; first | refine Runs.cond_t rfl ?_ | refine Runs.cond_f rfl ?_ | ((first | refine Runs.cond_yes rfl ?_ ?_ | refine Runs.cond_nno rfl ?_ ?_); · first | omega | rfl | assumption | (simp only [List.length_map]; omega)) | ((first | refine Runs.cond_no rfl ?_ ?_ | refine Runs.cond_nyes rfl ?_ ?_); · first | omega | rfl | assumption | (simp only [List.length_map]; omega)) | refine Runs.cond_dec rfl (fun h => ?_) (fun h => ?_) | refine Runs.cond_ndec rfl (fun h => ?_) (fun h => ?_) | refine Runs.cond_nb rfl (fun h => ?_) (fun h => ?_) | refine Runs.cond_b rfl (fun h => ?_) (fun h => ?_) | refine Runs.ret (ends_ro hm rfl rfl ?_) | exact Runs.ret (ends_cellR hm rfl rfl rfl (Nat.le_of_ble_eq_true rfl) rfl rfl))
 | refine op_box rfl (tl hn rfl) ?_
 | refine op_storeF rfl rfl rfl rfl (Nat.le_of_ble_eq_true rfl) ?_
 | refine op_alloc (tl hn rfl) ?_
 | refine op_storeN rfl rfl rfl rfl (Nat.le_of_ble_eq_true rfl) ?_
 | (refine RunsL.pe hn rfl rfl rfl ?_; first
 | refine ⟨_, pu_add rfl rfl (by omega), ?_⟩
 | refine ⟨_, pu_indexAddr_map rfl rfl (by omega) (by assumption), ?_⟩
 | refine ⟨_, pu_sub rfl rfl (by omega), ?_⟩
 | refine ⟨_, pu_pick_b rfl rfl rfl, ?_⟩
 | refine ⟨_, pu_mul rfl rfl (by omega), ?_⟩
 | refine ⟨_, pu_build rfl rfl rfl rfl rfl rfl, ?_⟩))
  refine Runs.ctls 30 rfl ?_
  exact Runs.ret (ends_mch (i := 1) (a := 2) (b := 3) hm rfl rfl rfl (congrArg some (rowI_flat m.stack)) (congrArg some (rowI_flat m.sums)) (by decide) rfl)
theorem fitsOk {p : Prg} {f : Bool} (h : f = decide (SafeP p ∧ need p ≤ 60)) (hf : f = true) : ∀ (k : Nat) x, p.code[k]? = some x → OpOk x := fun k x hx => by
  subst h
  have hS := (of_decide_eq_true hf).1
  have hk := (List.getElem?_eq_some_iff.1 hx).1
  exact ((safeI_some (p := p) (i := (k : Int)) (by simpa using hx)).1 (hS.1.ins k hk)).2.1
noncomputable def fitB (p : Prg) : Bool := decide (SafeP p ∧ need p ≤ 60)
set_option maxHeartbeats 8000000 in
theorem impl_AdvanceMachine (p : Prg) (m : Mch) (hB : PrgB p) (hm0 : MLen m) : AC Try.prog 13 [prgR p, mchR m] fun rr => rr = mchRR (mAdv p (fitB p) m) := by
  have hF := impl_FitsMachine p hB
  have hc := hB.code
  have hA := advance_am p (fitB p) m hm0 (by omega)
  refine ac_enter Try.func13 rfl _ Try.ntmps13 (by simp) fun C hn hm => ?_
  repeat' (first
 | refine Runs.toDrawT (id := 2) 30 [] [0, 1, 2] 3 [] mixed hn rfl (by kernel_rfl) rfl .nil (by decide) (by decide) (by decide) ?_
 | refine op_callOR (copyMachine_ac m hm0) rfl (tl hn rfl) ?_
 | refine op_callMch (rs := [prgR p, .bool (fitB p)]) 5 3 4 hA rfl rfl rfl rfl (by decide) (by repeat' (first | exact trivial | exact .inl rfl | exact .inr rfl | refine And.intro ?_ ?_)) (fun t h => by injection h with h; subst h; exact tl hn rfl) ?_
 | refine RunsT.nil ?_
 | refine RunsT.step tabOk rfl rfl (fun _ => rfl) (by decide) ?_
 | refine RunsT.pur (fun _ => pu_callR hF rfl) (by decide) rfl rfl ?_
 | refine RunsT.pur (fun _ => pu_add rfl rfl (by omega)) (by decide) rfl rfl ?_
 | refine RunsT.pur (fun _ => pu_indexAddr_map rfl rfl (by omega) (by assumption)) (by decide) rfl rfl ?_
 | refine RunsT.alloc (p := 0) rfl inferInstance ?_
 | refine RunsT.alloc (p := 1) rfl inferInstance ?_
 | refine RunsL.step tabOk hn rfl ?_
 | refine RunsL.nil ?_
 | refine Runs.toRegion 30 rfl ?_
 | ((first | refine RunsL.pe hn rfl rfl rfl ?_ | refine RunsD.pe rfl rfl ?_); first
 | refine ⟨_, pu_callR hF rfl, ?_⟩)
 | (refine Runs.ctls 30 rfl ?_; first | refine Runs.cond_t rfl ?_ | refine Runs.cond_f rfl ?_ | ((first | refine Runs.cond_yes rfl ?_ ?_ | refine Runs.cond_nno rfl ?_ ?_); · first | omega | rfl | assumption | (simp only [List.length_map]; omega)) | ((first | refine Runs.cond_no rfl ?_ ?_ | refine Runs.cond_nyes rfl ?_ ?_); · first | omega | rfl | assumption | (simp only [List.length_map]; omega)) | refine Runs.cond_dec rfl (fun h => ?_) (fun h => ?_) | refine Runs.cond_ndec rfl (fun h => ?_) (fun h => ?_) | refine Runs.cond_nb rfl (fun h => ?_) (fun h => ?_) | refine Runs.cond_b rfl (fun h => ?_) (fun h => ?_) | refine Runs.ret (ends_ro hm rfl rfl ?_) | exact Runs.ret (ends_cellR hm rfl rfl rfl (Nat.le_of_ble_eq_true rfl) rfl rfl))
 | refine op_box rfl (tl hn rfl) ?_
 | refine op_storeF rfl rfl rfl rfl (Nat.le_of_ble_eq_true rfl) ?_
 | refine op_alloc (tl hn rfl) ?_
 | refine op_storeN rfl rfl rfl rfl (Nat.le_of_ble_eq_true rfl) ?_
 | refine RunsD.step tabOk hn rfl rfl ?_
 | refine RunsD.nil ?_
 | refine Runs.toDraw 30 mixed hn rfl (by kernel_rfl) rfl ?_
 | ((first | refine RunsL.pe hn rfl rfl rfl ?_ | refine RunsD.pe rfl rfl ?_); first
 | refine ⟨_, pu_add rfl rfl (by omega), ?_⟩
 | refine ⟨_, pu_indexAddr_map rfl rfl (by omega) (by assumption), ?_⟩
 | refine ⟨_, pu_sub rfl rfl (by omega), ?_⟩
 | refine ⟨_, pu_pick_b rfl rfl rfl, ?_⟩
 | refine ⟨_, pu_mul rfl rfl (by omega), ?_⟩
 | refine ⟨_, pu_build rfl rfl rfl rfl rfl rfl, ?_⟩))
  refine Runs.ctls 30 rfl ?_
  exact Runs.ret (ends_mch (i := 2) (a := 3) (b := 4) hm rfl rfl rfl rfl rfl (by decide) rfl)
instance : TB Try.prog 30 [(0, 1), (1, 1), (2, 1), (3, 1), (4, 1), (5, 1), (6, 1), (7, 1), (8, 1), (9, 1)] [.int .i64 0, .int .i64 0, .slice none 0 0, .slice none 0 0, .int .i64 0, .bool false, .bool false, .int .i64 0, .int .i64 0, .int .i64 0] := ⟨_, _, _, rfl, rfl, rfl, rfl, by kernel_rfl, by decide⟩
theorem impl_NewMachine : ACv Try.prog 48 [] (mchR m0) := by
  refine ac_enter Try.func48 rfl _ Try.ntmps48 (by simp) fun C hn hm => ?_
  repeat' (first
 | refine RunsL.step tabOk hn rfl ?_
 | refine RunsL.nil ?_
 | refine Runs.toRegion 30 rfl ?_
 | (refine RunsL.pe hn rfl rfl rfl ?_; first
 | refine ⟨_, pu_buildS rfl, ?_⟩)
 | (refine Runs.ctls 30 rfl ?_; first | refine Runs.cond_t rfl ?_ | refine Runs.cond_f rfl ?_ | ((first | refine Runs.cond_yes rfl ?_ ?_ | refine Runs.cond_nno rfl ?_ ?_); · first | omega | rfl | assumption | (simp only [List.length_map]; omega)) | ((first | refine Runs.cond_no rfl ?_ ?_ | refine Runs.cond_nyes rfl ?_ ?_); · first | omega | rfl | assumption | (simp only [List.length_map]; omega)) | refine Runs.cond_dec rfl (fun h => ?_) (fun h => ?_) | refine Runs.cond_ndec rfl (fun h => ?_) (fun h => ?_) | refine Runs.cond_nb rfl (fun h => ?_) (fun h => ?_) | refine Runs.cond_b rfl (fun h => ?_) (fun h => ?_) | refine Runs.ret (ends_ro hm rfl rfl ?_) | exact Runs.ret (ends_cellR hm rfl rfl rfl (Nat.le_of_ble_eq_true rfl) rfl rfl))
 | refine op_box rfl (tl hn rfl) ?_
 | refine op_storeF rfl rfl rfl rfl (Nat.le_of_ble_eq_true rfl) ?_
 | refine op_alloc (tl hn rfl) ?_
 | refine op_storeN rfl rfl rfl rfl (Nat.le_of_ble_eq_true rfl) ?_
 | (refine RunsL.pe hn rfl rfl rfl ?_; first
 | refine ⟨_, pu_add rfl rfl (by omega), ?_⟩
 | refine ⟨_, pu_indexAddr_map rfl rfl (by omega) (by assumption), ?_⟩
 | refine ⟨_, pu_sub rfl rfl (by omega), ?_⟩
 | refine ⟨_, pu_pick_b rfl rfl rfl, ?_⟩
 | refine ⟨_, pu_mul rfl rfl (by omega), ?_⟩
 | refine ⟨_, pu_build rfl rfl rfl rfl rfl rfl, ?_⟩))
  refine Runs.ctls 30 rfl ?_
  refine Runs.ret (ends_lend (r := mchR m0) hm rfl (v := .agg ([.int 0, .int 0, .nil, .nil, .int 0, .bool false, .bool false, .int 0, .int 0, .int 0] : List AV)) ?_ rfl ?_)
  · simp only [ResV]
    exact ⟨0, 0, _, rfl, rfl, .inr ⟨10, inferInstance, Nat.le_refl _, rfl⟩⟩
  · exact Lends.agg (.cons .ro (.cons .ro (.cons (Lends.nil 1) (.cons (Lends.nil 1) (.cons .ro (.cons .ro (.cons .ro (.cons .ro (.cons .ro (.cons .ro .nil))))))))))
def mFeedB (p : Prg) (f : Bool) (m : Mch) (b : Int) : Mch := if InR b 0 255 then mFeed p f m b else m
set_option maxHeartbeats 8000000 in
theorem impl_FeedByte (p : Prg) (m : Mch) (b : Int) (hB : PrgB p) (hm0 : MLen m) : AC Try.prog 26 [prgR p, mchR m, .int b] fun rr => rr = mchRR (mFeedB p (fitB p) m b) := by
  have hF := impl_FitsMachine p hB
  have hc := hB.code
  unfold mFeedB
  refine ac_enter Try.func26 rfl _ Try.ntmps26 (by simp) fun C hn hm => ?_
  by_cases hb : InR b 0 255
  · have hA := feed_am p (fitB p) m b hm0 (by omega) (fitsOk rfl) hb
    rw [if_pos hb]
    repeat' (first
 | refine Runs.toDrawT (id := 3) 30 [] [0, 1, 2, 3] 4 [] mixed hn rfl (by kernel_rfl) rfl .nil (by decide) (by decide) (by decide) ?_
 | refine op_callOR (copyMachine_ac m hm0) rfl (tl hn rfl) ?_
 | refine op_callMch (rs := [prgR p, .bool (fitB p), .int b]) 5 3 4 hA rfl rfl rfl rfl (by decide) (by repeat' (first | exact trivial | exact .inl rfl | exact .inr rfl | refine And.intro ?_ ?_)) (fun t h => by injection h with h; subst h; exact tl hn rfl) ?_
 | refine RunsT.nil ?_
 | refine RunsT.step tabOk rfl rfl (fun _ => rfl) (by decide) ?_
 | refine RunsT.pur (fun _ => pu_callR hF rfl) (by decide) rfl rfl ?_
 | refine RunsT.pur (fun _ => pu_callR (inRange_ac _ _ _) rfl) (by decide) rfl rfl ?_
 | refine RunsT.pur (fun _ => pu_add rfl rfl (by omega)) (by decide) rfl rfl ?_
 | refine RunsT.pur (fun _ => pu_indexAddr_map rfl rfl (by omega) (by assumption)) (by decide) rfl rfl ?_
 | refine RunsT.alloc (p := 0) rfl inferInstance ?_
 | refine RunsT.alloc (p := 1) rfl inferInstance ?_
 | refine RunsL.step tabOk hn rfl ?_
 | refine RunsL.nil ?_
 | refine Runs.toRegion 30 rfl ?_
 | ((first | refine RunsL.pe hn rfl rfl rfl ?_ | refine RunsD.pe rfl rfl ?_); first
 | refine ⟨_, pu_callR hF rfl, ?_⟩
 | refine ⟨_, pu_callR (inRange_ac _ _ _) rfl, ?_⟩)
 | (refine Runs.ctls 30 rfl ?_; first | refine Runs.cond_t rfl ?_ | refine Runs.cond_f rfl ?_ | ((first | refine Runs.cond_yes rfl ?_ ?_ | refine Runs.cond_nno rfl ?_ ?_); · first | omega | rfl | assumption | (simp only [List.length_map]; omega)) | ((first | refine Runs.cond_no rfl ?_ ?_ | refine Runs.cond_nyes rfl ?_ ?_); · first | omega | rfl | assumption | (simp only [List.length_map]; omega)) | refine Runs.cond_dec rfl (fun h => ?_) (fun h => ?_) | refine Runs.cond_ndec rfl (fun h => ?_) (fun h => ?_) | refine Runs.cond_nb rfl (fun h => ?_) (fun h => ?_) | refine Runs.cond_b rfl (fun h => ?_) (fun h => ?_) | refine Runs.ret (ends_ro hm rfl rfl ?_) | exact Runs.ret (ends_cellR hm rfl rfl rfl (Nat.le_of_ble_eq_true rfl) rfl rfl))
 | refine op_box rfl (tl hn rfl) ?_
 | refine op_storeF rfl rfl rfl rfl (Nat.le_of_ble_eq_true rfl) ?_
 | refine op_alloc (tl hn rfl) ?_
 | refine op_storeN rfl rfl rfl rfl (Nat.le_of_ble_eq_true rfl) ?_
 | refine RunsD.step tabOk hn rfl rfl ?_
 | refine RunsD.nil ?_
 | refine Runs.toDraw 30 mixed hn rfl (by kernel_rfl) rfl ?_
 | ((first | refine RunsL.pe hn rfl rfl rfl ?_ | refine RunsD.pe rfl rfl ?_); first
 | refine ⟨_, pu_add rfl rfl (by omega), ?_⟩
 | refine ⟨_, pu_indexAddr_map rfl rfl (by omega) (by assumption), ?_⟩
 | refine ⟨_, pu_sub rfl rfl (by omega), ?_⟩
 | refine ⟨_, pu_pick_b rfl rfl rfl, ?_⟩
 | refine ⟨_, pu_mul rfl rfl (by omega), ?_⟩
 | refine ⟨_, pu_build rfl rfl rfl rfl rfl rfl, ?_⟩))
    refine Runs.ctls 30 rfl ?_
    exact Runs.ret (ends_mch (i := 2) (a := 3) (b := 4) hm rfl rfl rfl rfl rfl (by decide) rfl)
  · rw [if_neg hb]
    repeat' (first
 | refine op_callOR (copyMachine_ac m hm0) rfl (tl hn rfl) ?_
 | refine RunsL.step tabOk hn rfl ?_
 | refine RunsL.nil ?_
 | refine Runs.toRegion 30 rfl ?_
 | ((first | refine RunsL.pe hn rfl rfl rfl ?_ | refine RunsD.pe rfl rfl ?_); first
 | refine ⟨_, pu_callR (inRange_ac _ _ _) rfl, ?_⟩)
 | (refine Runs.ctls 30 rfl ?_; first | refine Runs.cond_t rfl ?_ | refine Runs.cond_f rfl ?_ | ((first | refine Runs.cond_yes rfl ?_ ?_ | refine Runs.cond_nno rfl ?_ ?_); · first | omega | rfl | assumption | (simp only [List.length_map]; omega)) | ((first | refine Runs.cond_no rfl ?_ ?_ | refine Runs.cond_nyes rfl ?_ ?_); · first | omega | rfl | assumption | (simp only [List.length_map]; omega)) | refine Runs.cond_dec rfl (fun h => ?_) (fun h => ?_) | refine Runs.cond_ndec rfl (fun h => ?_) (fun h => ?_) | refine Runs.cond_nb rfl (fun h => ?_) (fun h => ?_) | refine Runs.cond_b rfl (fun h => ?_) (fun h => ?_) | refine Runs.ret (ends_ro hm rfl rfl ?_) | exact Runs.ret (ends_cellR hm rfl rfl rfl (Nat.le_of_ble_eq_true rfl) rfl rfl))
 | refine op_box rfl (tl hn rfl) ?_
 | refine op_storeF rfl rfl rfl rfl (Nat.le_of_ble_eq_true rfl) ?_
 | refine op_alloc (tl hn rfl) ?_
 | refine op_storeN rfl rfl rfl rfl (Nat.le_of_ble_eq_true rfl) ?_
 | refine RunsD.step tabOk hn rfl rfl ?_
 | refine RunsD.nil ?_
 | refine Runs.toDraw 30 mixed hn rfl (by kernel_rfl) rfl ?_
 | ((first | refine RunsL.pe hn rfl rfl rfl ?_ | refine RunsD.pe rfl rfl ?_); first
 | refine ⟨_, pu_add rfl rfl (by omega), ?_⟩
 | refine ⟨_, pu_indexAddr_map rfl rfl (by omega) (by assumption), ?_⟩
 | refine ⟨_, pu_sub rfl rfl (by omega), ?_⟩
 | refine ⟨_, pu_pick_b rfl rfl rfl, ?_⟩
 | refine ⟨_, pu_mul rfl rfl (by omega), ?_⟩
 | refine ⟨_, pu_build rfl rfl rfl rfl rfl rfl, ?_⟩))
    refine Runs.ctls 30 rfl ?_
    exact Runs.ret (ends_mch (i := 2) (a := 3) (b := 4) hm rfl rfl rfl rfl rfl (by decide) rfl)
def feedL (p : Prg) (f : Bool) (m : Mch) (l : List UInt8) : Mch := l.foldl (fun m c => mFeed p f m (c.toNat : Int)) m
theorem feedL_len {p : Prg} {f : Bool} : ∀ (l : List UInt8) {m : Mch}, MLen m → MLen (feedL p f m l)
  | [], m, h => h
  | c :: l, m, h => feedL_len l (mFeed_len h)
theorem feedL_next {p : Prg} {f : Bool} {m : Mch} {l : List UInt8} {j : Nat} {c : UInt8} (h : l[j]? = some c) : feedL p f m (l.take (j + 1)) = mFeed p f (feedL p f m (l.take j)) (c.toNat : Int) := by
  unfold feedL
  rw [List.take_add_one, h, List.foldl_append]
  rfl
def mO3 (p : Prg) (m q : Mch) : List Ob := [⟨34, 0, [.ro (inssR p.code), .ro (intsR p.entries)]⟩, ⟨30, 0, [.ro (.int m.pc), .ro (.int m.register), .ro (intsR m.stack), .ro (intsR m.sums), .ro (.int m.left), .ro (.bool m.started), .ro (.bool m.escaped), .ro (.int m.state), .ro (.int m.code), .ro (.int m.read)]⟩,
  ⟨30, 0, [.int 0, .int 0, .nil, .nil, .int 0, .bool false, .bool false, .int 0, .int 0, .int 0]⟩, rowI q.stack, rowI q.sums, ⟨30, 0, mC q 3 4⟩]
set_option maxHeartbeats 8000000 in
theorem impl_FeedBytes (p : Prg) (m : Mch) (l : List UInt8) (hB : PrgB p) (hm0 : MLen m) (hl : l.length ≤ 1048576) : AC Try.prog 28 [prgR p, mchR m, bytesR l] fun rr => rr = mchRR (feedL p (fitB p) m l) := by
  have hF := impl_FitsMachine p hB
  have hc := hB.code
  have hll : (l.map fun z => [RV.u8 z]).length = l.length := List.length_map ..
  refine ac_enter Try.func28 rfl _ Try.ntmps28 (by simp) fun C hn hm => ?_
  by_cases h0 : l = []
  · subst h0
    repeat' (first
 | refine op_callOR (copyMachine_ac m hm0) rfl (tl hn rfl) ?_
 | refine RunsL.step tabOk hn rfl ?_
 | refine RunsL.nil ?_
 | refine Runs.toRegion 30 rfl ?_
 | (refine RunsL.pe hn rfl rfl rfl ?_; first
 | refine ⟨_, pu_callR hF rfl, ?_⟩)
 | (refine Runs.ctls 30 rfl ?_; first | refine Runs.cond_t rfl ?_ | refine Runs.cond_f rfl ?_ | ((first | refine Runs.cond_yes rfl ?_ ?_ | refine Runs.cond_nno rfl ?_ ?_); · first | omega | rfl | assumption | (simp only [List.length_map]; omega)) | ((first | refine Runs.cond_no rfl ?_ ?_ | refine Runs.cond_nyes rfl ?_ ?_); · first | omega | rfl | assumption | (simp only [List.length_map]; omega)) | refine Runs.cond_dec rfl (fun h => ?_) (fun h => ?_) | refine Runs.cond_ndec rfl (fun h => ?_) (fun h => ?_) | refine Runs.cond_nb rfl (fun h => ?_) (fun h => ?_) | refine Runs.cond_b rfl (fun h => ?_) (fun h => ?_) | refine Runs.ret (ends_ro hm rfl rfl ?_) | exact Runs.ret (ends_cellR hm rfl rfl rfl (Nat.le_of_ble_eq_true rfl) rfl rfl))
 | refine op_box rfl (tl hn rfl) ?_
 | refine op_storeF rfl rfl rfl rfl (Nat.le_of_ble_eq_true rfl) ?_
 | refine op_alloc (tl hn rfl) ?_
 | refine op_storeN rfl rfl rfl rfl (Nat.le_of_ble_eq_true rfl) ?_
 | (refine RunsL.pe hn rfl rfl rfl ?_; first
 | refine ⟨_, pu_add rfl rfl (by omega), ?_⟩
 | refine ⟨_, pu_indexAddr_map rfl rfl (by omega) (by assumption), ?_⟩
 | refine ⟨_, pu_sub rfl rfl (by omega), ?_⟩
 | refine ⟨_, pu_pick_b rfl rfl rfl, ?_⟩
 | refine ⟨_, pu_mul rfl rfl (by omega), ?_⟩
 | refine ⟨_, pu_build rfl rfl rfl rfl rfl rfl, ?_⟩))
    refine Runs.ctls 30 rfl ?_
    exact Runs.ret (ends_mch (i := 2) (a := 3) (b := 4) hm rfl rfl rfl rfl rfl (by decide) rfl)
  · have hpos : 0 < l.length := List.length_pos_iff.2 h0
    repeat' (first
 | refine op_callOR (copyMachine_ac m hm0) rfl (tl hn rfl) ?_
 | refine RunsL.step tabOk hn rfl ?_
 | refine RunsL.nil ?_
 | refine Runs.toRegion 30 rfl ?_
 | (refine RunsL.pe hn rfl rfl rfl ?_; first
 | refine ⟨_, pu_callR hF rfl, ?_⟩)
 | (refine Runs.ctls 30 rfl ?_; first | refine Runs.cond_t rfl ?_ | refine Runs.cond_f rfl ?_ | ((first | refine Runs.cond_yes rfl ?_ ?_ | refine Runs.cond_nno rfl ?_ ?_); · first | omega | rfl | assumption | (simp only [List.length_map]; omega)) | ((first | refine Runs.cond_no rfl ?_ ?_ | refine Runs.cond_nyes rfl ?_ ?_); · first | omega | rfl | assumption | (simp only [List.length_map]; omega)) | refine Runs.cond_dec rfl (fun h => ?_) (fun h => ?_) | refine Runs.cond_ndec rfl (fun h => ?_) (fun h => ?_) | refine Runs.cond_nb rfl (fun h => ?_) (fun h => ?_) | refine Runs.cond_b rfl (fun h => ?_) (fun h => ?_) | refine Runs.ret (ends_ro hm rfl rfl ?_) | exact Runs.ret (ends_cellR hm rfl rfl rfl (Nat.le_of_ble_eq_true rfl) rfl rfl))
 | refine op_box rfl (tl hn rfl) ?_
 | refine op_storeF rfl rfl rfl rfl (Nat.le_of_ble_eq_true rfl) ?_
 | refine op_alloc (tl hn rfl) ?_
 | refine op_storeN rfl rfl rfl rfl (Nat.le_of_ble_eq_true rfl) ?_
 | (refine RunsL.pe hn rfl rfl rfl ?_; first
 | refine ⟨_, pu_add rfl rfl (by omega), ?_⟩
 | refine ⟨_, pu_indexAddr_map rfl rfl (by omega) (by assumption), ?_⟩
 | refine ⟨_, pu_sub rfl rfl (by omega), ?_⟩
 | refine ⟨_, pu_pick_b rfl rfl rfl, ?_⟩
 | refine ⟨_, pu_mul rfl rfl (by omega), ?_⟩
 | refine ⟨_, pu_build rfl rfl rfl rfl rfl rfl, ?_⟩))
    refine Runs.loopN 30 rfl (fun j => [(3, .obj 0 0), (6, .obj 2 0), (7, .obj 5 0), (8, .bool (fitB p)), (19, .ro (bytesR l)), (20, .int ((l.map fun z => [RV.u8 z]).length : Int)), (21, .int (j : Int))]) (fun j => mO3 p m (feedL p (fitB p) m (l.take j))) (fun _ => True) l.length 0 (Nat.zero_le _) trivial ⟨rfl, rfl, rfl, rfl, rfl, rfl, rfl, trivial⟩ rfl fun j hj _ next => ?_
    by_cases hlt : j < l.length
    · obtain ⟨x, hx⟩ : ∃ x, l[(j : Int).toNat]? = some x := ⟨_, List.getElem?_eq_getElem hlt⟩
      have hx' : l[j]? = some x := hx
      have hnx := feedL_next (p := p) (f := fitB p) (m := m) hx'
      have hL := feedL_len (p := p) (f := fitB p) (l.take j) hm0
      generalize feedL p (fitB p) m (l.take j) = q at hnx hL ⊢
      have hA := feed_am p (fitB p) q (x.toNat : Int) hL (by omega) (fitsOk rfl) ⟨by omega, by have := x.toNat_lt; omega⟩
      repeat' (first
 | refine op_callMch (rs := [prgR p, .bool (fitB p), .int (x.toNat : Int)]) 5 3 4 hA rfl rfl rfl rfl (by decide) (by repeat' (first | exact trivial | exact .inl rfl | exact .inr rfl | refine And.intro ?_ ?_)) (fun t h => by injection h with h; subst h; exact tl hn rfl) ?_
 | (refine RunsL.pe hn rfl rfl rfl ?_; first
 | refine ⟨_, pu_ofU8 rfl, ?_⟩)
 | refine RunsL.step tabOk hn rfl ?_
 | refine RunsL.nil ?_
 | refine Runs.toRegion 30 rfl ?_
 | (refine Runs.ctls 30 rfl ?_; first | refine Runs.cond_t rfl ?_ | refine Runs.cond_f rfl ?_ | ((first | refine Runs.cond_yes rfl ?_ ?_ | refine Runs.cond_nno rfl ?_ ?_); · first | omega | rfl | assumption | (simp only [List.length_map]; omega)) | ((first | refine Runs.cond_no rfl ?_ ?_ | refine Runs.cond_nyes rfl ?_ ?_); · first | omega | rfl | assumption | (simp only [List.length_map]; omega)) | refine Runs.cond_dec rfl (fun h => ?_) (fun h => ?_) | refine Runs.cond_ndec rfl (fun h => ?_) (fun h => ?_) | refine Runs.cond_nb rfl (fun h => ?_) (fun h => ?_) | refine Runs.cond_b rfl (fun h => ?_) (fun h => ?_) | refine Runs.ret (ends_ro hm rfl rfl ?_) | exact Runs.ret (ends_cellR hm rfl rfl rfl (Nat.le_of_ble_eq_true rfl) rfl rfl))
 | refine op_box rfl (tl hn rfl) ?_
 | refine op_storeF rfl rfl rfl rfl (Nat.le_of_ble_eq_true rfl) ?_
 | refine op_alloc (tl hn rfl) ?_
 | refine op_storeN rfl rfl rfl rfl (Nat.le_of_ble_eq_true rfl) ?_
 | (refine RunsL.pe hn rfl rfl rfl ?_; first
 | refine ⟨_, pu_add rfl rfl (by omega), ?_⟩
 | refine ⟨_, pu_indexAddr_map rfl rfl (by omega) (by assumption), ?_⟩
 | refine ⟨_, pu_sub rfl rfl (by omega), ?_⟩
 | refine ⟨_, pu_pick_b rfl rfl rfl, ?_⟩
 | refine ⟨_, pu_mul rfl rfl (by omega), ?_⟩
 | refine ⟨_, pu_build rfl rfl rfl rfl rfl rfl, ?_⟩))
      refine next _ _ ⟨rfl, rfl, rfl, rfl, rfl, rfl, rfl, trivial⟩ hlt trivial ?_
      rw [hnx]
      rfl
    · obtain rfl : j = l.length := by omega
      rw [List.take_length]
      repeat' (first
 | refine RunsL.step tabOk hn rfl ?_
 | refine RunsL.nil ?_
 | refine Runs.toRegion 30 rfl ?_
 | (refine Runs.ctls 30 rfl ?_; first | refine Runs.cond_t rfl ?_ | refine Runs.cond_f rfl ?_ | ((first | refine Runs.cond_yes rfl ?_ ?_ | refine Runs.cond_nno rfl ?_ ?_); · first | omega | rfl | assumption | (simp only [List.length_map]; omega)) | ((first | refine Runs.cond_no rfl ?_ ?_ | refine Runs.cond_nyes rfl ?_ ?_); · first | omega | rfl | assumption | (simp only [List.length_map]; omega)) | refine Runs.cond_dec rfl (fun h => ?_) (fun h => ?_) | refine Runs.cond_ndec rfl (fun h => ?_) (fun h => ?_) | refine Runs.cond_nb rfl (fun h => ?_) (fun h => ?_) | refine Runs.cond_b rfl (fun h => ?_) (fun h => ?_) | refine Runs.ret (ends_ro hm rfl rfl ?_) | exact Runs.ret (ends_cellR hm rfl rfl rfl (Nat.le_of_ble_eq_true rfl) rfl rfl))
 | refine op_box rfl (tl hn rfl) ?_
 | refine op_storeF rfl rfl rfl rfl (Nat.le_of_ble_eq_true rfl) ?_
 | refine op_alloc (tl hn rfl) ?_
 | refine op_storeN rfl rfl rfl rfl (Nat.le_of_ble_eq_true rfl) ?_
 | (refine RunsL.pe hn rfl rfl rfl ?_; first
 | refine ⟨_, pu_add rfl rfl (by omega), ?_⟩
 | refine ⟨_, pu_indexAddr_map rfl rfl (by omega) (by assumption), ?_⟩
 | refine ⟨_, pu_sub rfl rfl (by omega), ?_⟩
 | refine ⟨_, pu_pick_b rfl rfl rfl, ?_⟩
 | refine ⟨_, pu_mul rfl rfl (by omega), ?_⟩
 | refine ⟨_, pu_build rfl rfl rfl rfl rfl rfl, ?_⟩))
      refine Runs.ctls 30 rfl ?_
      exact Runs.ret (ends_mch (i := 2) (a := 3) (b := 4) hm rfl rfl rfl rfl rfl (by decide) rfl)
set_option maxHeartbeats 8000000 in
theorem impl_FinishMachine (p : Prg) (m : Mch) (hB : PrgB p) (hm0 : MLen m) : AC Try.prog 20 [prgR p, mchR m] fun rr => rr = .tup [mchRR (mAdv p (fitB p) m), .ro (.int (mFin (mAdv p (fitB p) m)))] := by
  have hA := impl_AdvanceMachine p m hB hm0
  refine ac_enter Try.func20 rfl _ Try.ntmps20 (by simp) fun C hn hm => ?_
  repeat' (first
 | refine Runs.toPerm (id := 7) 30 [[0, 1, 2, 3, 4], [0, 1, 3, 2, 4], [0, 3, 1, 2, 4], [1, 0, 2, 3, 4], [1, 0, 3, 2, 4], [1, 2, 0, 3, 4]] mixed rfl (by kernel_rfl) (by kernel_rfl) (by kernel_rfl) ⟨?_, ?_, ?_, ?_, ?_, ?_, trivial⟩
 | refine op_callOR hA rfl (tl hn rfl) ?_
 | refine RunsL.step tabOk hn rfl ?_
 | refine RunsL.nil ?_
 | refine Runs.toRegion 30 rfl ?_
 | (refine Runs.ctls 30 rfl ?_; first | refine Runs.cond_t rfl ?_ | refine Runs.cond_f rfl ?_ | ((first | refine Runs.cond_yes rfl ?_ ?_ | refine Runs.cond_nno rfl ?_ ?_); · first | omega | rfl | assumption | (simp only [List.length_map]; omega)) | ((first | refine Runs.cond_no rfl ?_ ?_ | refine Runs.cond_nyes rfl ?_ ?_); · first | omega | rfl | assumption | (simp only [List.length_map]; omega)) | refine Runs.cond_dec rfl (fun h => ?_) (fun h => ?_) | refine Runs.cond_ndec rfl (fun h => ?_) (fun h => ?_) | refine Runs.cond_nb rfl (fun h => ?_) (fun h => ?_) | refine Runs.cond_b rfl (fun h => ?_) (fun h => ?_) | refine Runs.ret (ends_ro hm rfl rfl ?_) | exact Runs.ret (ends_cellR hm rfl rfl rfl (Nat.le_of_ble_eq_true rfl) rfl rfl))
 | refine op_box rfl (tl hn rfl) ?_
 | refine op_storeF rfl rfl rfl rfl (Nat.le_of_ble_eq_true rfl) ?_
 | refine op_alloc (tl hn rfl) ?_
 | refine op_storeN rfl rfl rfl rfl (Nat.le_of_ble_eq_true rfl) ?_
 | refine RunsD.step tabOk hn rfl rfl ?_
 | refine RunsD.nil ?_
 | refine Runs.toDraw 30 mixed hn rfl (by kernel_rfl) rfl ?_
 | ((first | refine RunsL.pe hn rfl rfl rfl ?_ | refine RunsD.pe rfl rfl ?_); first
 | refine ⟨_, pu_add rfl rfl (by omega), ?_⟩
 | refine ⟨_, pu_indexAddr_map rfl rfl (by omega) (by assumption), ?_⟩
 | refine ⟨_, pu_sub rfl rfl (by omega), ?_⟩
 | refine ⟨_, pu_pick_b rfl rfl rfl, ?_⟩
 | refine ⟨_, pu_mul rfl rfl (by omega), ?_⟩
 | refine ⟨_, pu_build rfl rfl rfl rfl rfl rfl, ?_⟩))
  all_goals refine Runs.ctls 30 rfl ?_
  · exact Runs.ret (ends_mch2 (i := 2) (a := 3) (b := 4) hm rfl rfl rfl rfl rfl (by decide) rfl (by unfold mFin; rw [if_pos (by assumption)]))
  · exact Runs.ret (ends_mch2 (i := 2) (a := 3) (b := 4) hm rfl rfl rfl rfl rfl (by decide) rfl (by unfold mFin; rw [if_neg (by assumption), if_pos (by assumption)]))
  all_goals exact Runs.ret (ends_mch2 (i := 2) (a := 3) (b := 4) hm rfl rfl rfl rfl rfl (by decide) rfl (by unfold mFin; rw [if_neg (by assumption), if_neg (by assumption)]))
end Go.Proofs.Ytkhnijggbfoimaa
/- The machine, on the reference's side: its small steps. -/
namespace Go.Proofs.Ytkhnijggbfoimaa
set_option linter.unusedSimpArgs false
set_option linter.unusedVariables false
open Go.RowKit
open AV (Mem Keeps)
set_option maxRecDepth 100000
theorem mO_ret1 {P : Program} {C : Ctx} {fn : Func} {gs : Nat → Nat} {env : Env} {σ more : List Ob} {m : Mch} {k : List Item} {t s : Nat} {r : RV} (hp : look env t = .pin 0 0 (gs 0)) (hσ : σ = mO m ++ more) (hr : fn.results = #[.tmp s]) (hs : look env s = .ro r) (hts : (t == s) = false) : Runs P C (.code .ret :: k) (EndsA P C fn gs [0] (mO m) (.ro r)) ⟨env, σ⟩ :=
  Runs.shed (E' := [(t, .pin 0 0 (gs 0)), (s, .ro r)]) ⟨hp, hs, trivial⟩ hσ ⟨by simp [AV.only, mO], by simp [AV.only], trivial⟩ (mO_free m) (Runs.ret (endsA1 (fun i hi => by simp at hi; subst hi; exact ⟨t, 0, by simp [look]⟩) hr (by
    have : ¬ t = s := by simpa using hts
    simp [ResV, look, this]) rfl))
theorem mO_ret2 {P : Program} {C : Ctx} {fn : Func} {gs : Nat → Nat} {env : Env} {σ more : List Ob} {m : Mch} {k : List Item} {t s q : Nat} {r r' : RV} (hp : look env t = .pin 0 0 (gs 0)) (hσ : σ = mO m ++ more) (hr : fn.results = #[.tmp s, .tmp q]) (hs : look env s = .ro r) (hq : look env q = .ro r') (hts : (t == s) = false) (htq : (t == q) = false) (hsq : (s == q) = false) : Runs P C (.code .ret :: k) (EndsA P C fn gs [0] (mO m) (.tup [.ro r, .ro r'])) ⟨env, σ⟩ :=
  Runs.shed (E' := [(t, .pin 0 0 (gs 0)), (s, .ro r), (q, .ro r')]) ⟨hp, hs, hq, trivial⟩ hσ ⟨by simp [AV.only, mO], by simp [AV.only], by simp [AV.only], trivial⟩ (mO_free m) (Runs.ret (endsA2 (fun i hi => by simp at hi; subst hi; exact ⟨t, 0, by simp [look]⟩) hr (by
    have : ¬ t = s := by simpa using hts
    simp [ResV, look, this]) (by
    have h1 : ¬ t = q := by simpa using htq
    have h2 : ¬ s = q := by simpa using hsq
    simp [ResV, look, h1, h2]) rfl))
def sPush (m : Mch) (n : Int) : Mch := if 60 ≤ m.stack.length then mFail m 8 else { m with stack := m.stack ++ [n] }
def sPop (m : Mch) : Mch := if m.stack.length = 0 then mFail m 8 else mDrop m
theorem l17Fail_am (m : Mch) (c : Int) : AM Try.prog 35 (mO m) [0] [.obj 0 0, .int c] (mO (mFail m c)) (.tup []) := by
  refine am_enter Try.func35 rfl _ Try.ntmps35 (by simp) (by simp) fun C gs hn => ?_
  repeat' (first
 | refine RunsL.step tabOk hn rfl ?_
 | refine RunsL.nil ?_
 | refine Runs.toRegion 30 rfl ?_
 | (refine RunsL.pe hn rfl rfl rfl ?_; first
 | refine ⟨_, pu_nilCheckP rfl, ?_⟩)
 | (refine Runs.ctls 30 rfl ?_; first | refine Runs.cond_t rfl ?_ | refine Runs.cond_f rfl ?_ | ((first | refine Runs.cond_yes rfl ?_ ?_ | refine Runs.cond_nno rfl ?_ ?_); · first | omega | rfl | assumption | (simp only [List.length_map]; omega)) | ((first | refine Runs.cond_no rfl ?_ ?_ | refine Runs.cond_nyes rfl ?_ ?_); · first | omega | rfl | assumption | (simp only [List.length_map]; omega)) | refine Runs.cond_dec rfl (fun h => ?_) (fun h => ?_) | refine Runs.cond_ndec rfl (fun h => ?_) (fun h => ?_) | refine Runs.cond_nb rfl (fun h => ?_) (fun h => ?_) | refine Runs.cond_b rfl (fun h => ?_) (fun h => ?_) | refine Runs.ret (ends_ro hm rfl rfl ?_) | exact Runs.ret (ends_cellR hm rfl rfl rfl (Nat.le_of_ble_eq_true rfl) rfl rfl))
 | refine op_box rfl (tl hn rfl) ?_
 | refine op_storeF rfl rfl rfl rfl (Nat.le_of_ble_eq_true rfl) ?_
 | refine op_alloc (tl hn rfl) ?_
 | refine op_storeN rfl rfl rfl rfl (Nat.le_of_ble_eq_true rfl) ?_
 | (refine RunsL.pe hn rfl rfl rfl ?_; first
 | refine ⟨_, pu_add rfl rfl (by omega), ?_⟩
 | refine ⟨_, pu_indexAddr_map rfl rfl (by omega) (by assumption), ?_⟩
 | refine ⟨_, pu_sub rfl rfl (by omega), ?_⟩
 | refine ⟨_, pu_pick_b rfl rfl rfl, ?_⟩
 | refine ⟨_, pu_mul rfl rfl (by omega), ?_⟩
 | refine ⟨_, pu_build rfl rfl rfl rfl rfl rfl, ?_⟩))
  · refine Runs.ctls 30 rfl ?_
    first | refine mO_end (t := 0) (more := []) rfl ?_ rfl | refine mO_ret (t := 0) (more := []) rfl ?_ rfl
    rfl
theorem l17Start_am (m : Mch) (l : Int) : AM Try.prog 94 (mO m) [0] [.obj 0 0, .int l] (mO (mBegin m l)) (.tup []) := by
  refine am_enter Try.func94 rfl _ Try.ntmps94 (by simp) (by simp) fun C gs hn => ?_
  repeat' (first
 | refine RunsL.step tabOk hn rfl ?_
 | refine RunsL.nil ?_
 | refine Runs.toRegion 30 rfl ?_
 | (refine RunsL.pe hn rfl rfl rfl ?_; first
 | refine ⟨_, pu_nilCheckP rfl, ?_⟩
 | refine ⟨_, pu_addW rfl rfl, ?_⟩)
 | (refine Runs.ctls 30 rfl ?_; first | refine Runs.cond_t rfl ?_ | refine Runs.cond_f rfl ?_ | ((first | refine Runs.cond_yes rfl ?_ ?_ | refine Runs.cond_nno rfl ?_ ?_); · first | omega | rfl | assumption | (simp only [List.length_map]; omega)) | ((first | refine Runs.cond_no rfl ?_ ?_ | refine Runs.cond_nyes rfl ?_ ?_); · first | omega | rfl | assumption | (simp only [List.length_map]; omega)) | refine Runs.cond_dec rfl (fun h => ?_) (fun h => ?_) | refine Runs.cond_ndec rfl (fun h => ?_) (fun h => ?_) | refine Runs.cond_nb rfl (fun h => ?_) (fun h => ?_) | refine Runs.cond_b rfl (fun h => ?_) (fun h => ?_) | refine Runs.ret (ends_ro hm rfl rfl ?_) | exact Runs.ret (ends_cellR hm rfl rfl rfl (Nat.le_of_ble_eq_true rfl) rfl rfl))
 | refine op_box rfl (tl hn rfl) ?_
 | refine op_storeF rfl rfl rfl rfl (Nat.le_of_ble_eq_true rfl) ?_
 | refine op_alloc (tl hn rfl) ?_
 | refine op_storeN rfl rfl rfl rfl (Nat.le_of_ble_eq_true rfl) ?_
 | (refine RunsL.pe hn rfl rfl rfl ?_; first
 | refine ⟨_, pu_add rfl rfl (by omega), ?_⟩
 | refine ⟨_, pu_indexAddr_map rfl rfl (by omega) (by assumption), ?_⟩
 | refine ⟨_, pu_sub rfl rfl (by omega), ?_⟩
 | refine ⟨_, pu_pick_b rfl rfl rfl, ?_⟩
 | refine ⟨_, pu_mul rfl rfl (by omega), ?_⟩
 | refine ⟨_, pu_build rfl rfl rfl rfl rfl rfl, ?_⟩))
  · refine Runs.ctls 30 rfl ?_
    first | refine mO_end (t := 0) (more := []) rfl ?_ rfl | refine mO_ret (t := 0) (more := []) rfl ?_ rfl
    unfold mBegin; rw [if_pos (by assumption)]; rfl
  · refine Runs.ctls 30 rfl ?_
    first | refine mO_end (t := 0) (more := []) rfl ?_ rfl | refine mO_ret (t := 0) (more := []) rfl ?_ rfl
    unfold mBegin; rw [if_neg (by assumption)]; rfl
theorem l17Push_am (m : Mch) (a : Int)(hm : MLen m) : AM Try.prog 95 (mO m) [0] [.obj 0 0, .int a] (mO (sPush m a)) (.bool (decide (m.stack.length < 60))) := by
  refine am_enter Try.func95 rfl _ Try.ntmps95 (by simp) (by simp) fun C gs hn => ?_
  have hl : ((m.stack.map RV.int).map AV.ro).length = m.stack.length * 1 := by simp
  have h1 := hm.1
  repeat' (first
 | refine op_callP 3 (l17Fail_am m 8) rfl (by simp [AV.onlys, AV.only]) (by simp [AV.only, AV.onlys]) rfl rfl rfl (mO_free _) (mO_free _) rfl (by first | exact trivial | exact ⟨rfl, trivial⟩ | exact ⟨rfl, rfl, trivial⟩ | exact ⟨rfl, rfl, rfl, trivial⟩ | exact ⟨rfl, rfl, rfl, rfl, trivial⟩) (fun t h => by injection h with h; subst h; exact tl hn rfl) ?_
 | refine RunsL.junk 0 2 rfl (op_append (n := m.stack.length) (i := 1) rfl rfl rfl rfl rfl rfl (by simp) (FreeI.at_ (i := 1) ⟨by simp [AV.onlys, AV.only], onlysr _ _, onlysr _ _, trivial⟩) (by simp; omega) (by simp; omega) (tl hn rfl) ?_)
 | refine RunsL.step tabOk hn rfl ?_
 | refine RunsL.nil ?_
 | refine Runs.toRegion 30 rfl ?_
 | (refine RunsL.pe hn rfl rfl rfl ?_; first
 | refine ⟨_, pu_nilCheckP rfl, ?_⟩
 | refine ⟨_, pu_len_own (n := m.stack.length) rfl rfl hl, ?_⟩
 | refine ⟨_, pu_buildS rfl, ?_⟩)
 | (refine Runs.ctls 30 rfl ?_; first | refine Runs.cond_t rfl ?_ | refine Runs.cond_f rfl ?_ | ((first | refine Runs.cond_yes rfl ?_ ?_ | refine Runs.cond_nno rfl ?_ ?_); · first | omega | rfl | assumption | (simp only [List.length_map]; omega)) | ((first | refine Runs.cond_no rfl ?_ ?_ | refine Runs.cond_nyes rfl ?_ ?_); · first | omega | rfl | assumption | (simp only [List.length_map]; omega)) | refine Runs.cond_dec rfl (fun h => ?_) (fun h => ?_) | refine Runs.cond_ndec rfl (fun h => ?_) (fun h => ?_) | refine Runs.cond_nb rfl (fun h => ?_) (fun h => ?_) | refine Runs.cond_b rfl (fun h => ?_) (fun h => ?_) | refine Runs.ret (ends_ro hm rfl rfl ?_) | exact Runs.ret (ends_cellR hm rfl rfl rfl (Nat.le_of_ble_eq_true rfl) rfl rfl))
 | refine op_box rfl (tl hn rfl) ?_
 | refine op_storeF rfl rfl rfl rfl (Nat.le_of_ble_eq_true rfl) ?_
 | refine op_alloc (tl hn rfl) ?_
 | refine op_storeN rfl rfl rfl rfl (Nat.le_of_ble_eq_true rfl) ?_
 | (refine RunsL.pe hn rfl rfl rfl ?_; first
 | refine ⟨_, pu_add rfl rfl (by omega), ?_⟩
 | refine ⟨_, pu_indexAddr_map rfl rfl (by omega) (by assumption), ?_⟩
 | refine ⟨_, pu_sub rfl rfl (by omega), ?_⟩
 | refine ⟨_, pu_pick_b rfl rfl rfl, ?_⟩
 | refine ⟨_, pu_mul rfl rfl (by omega), ?_⟩
 | refine ⟨_, pu_build rfl rfl rfl rfl rfl rfl, ?_⟩))
  · refine Runs.ctls 30 rfl ?_
    have hd : decide (m.stack.length < 60) = false := decide_eq_false (by omega)
    rw [hd]
    refine mO_ret1 (t := 0) (s := 4) (more := []) rfl ?_ rfl rfl rfl
    exact mO_app (by unfold sPush; rw [if_pos (by omega)])
  · refine Runs.ctls 30 rfl ?_
    have hd : decide (m.stack.length < 60) = true := decide_eq_true (by omega)
    rw [hd]
    refine mO_ret1 (t := 0) (s := 4) (more := []) rfl ?_ rfl rfl rfl
    rw [show sPush m a = { m with stack := m.stack ++ [a] } from by unfold sPush; rw [if_neg (by omega)]]
    unfold mO
    rw [List.map_append (f := RV.int)]
    rfl
theorem l17Pop_no (m : Mch) (h0 : m.stack.length = 0) : AM Try.prog 97 (mO m) [0] [.obj 0 0] (mO (mFail m 8)) (.tup [.int 0, .bool false]) := by
  refine am_enter Try.func97 rfl _ Try.ntmps97 (by simp) (by simp) fun C gs hn => ?_
  have hl : ((m.stack.map RV.int).map AV.ro).length = m.stack.length * 1 := by simp
  repeat' (first
 | refine op_callP 3 (l17Fail_am m 8) rfl (by simp [AV.onlys, AV.only]) (by simp [AV.only, AV.onlys]) rfl rfl rfl (mO_free _) (mO_free _) rfl (by first | exact trivial | exact ⟨rfl, trivial⟩ | exact ⟨rfl, rfl, trivial⟩ | exact ⟨rfl, rfl, rfl, trivial⟩ | exact ⟨rfl, rfl, rfl, rfl, trivial⟩) (fun t h => by injection h with h; subst h; exact tl hn rfl) ?_
 | refine RunsL.step tabOk hn rfl ?_
 | refine RunsL.nil ?_
 | refine Runs.toRegion 30 rfl ?_
 | ((first | refine RunsL.pe hn rfl rfl rfl ?_ | refine RunsD.pe rfl rfl ?_); first
 | refine ⟨_, pu_nilCheckP rfl, ?_⟩
 | refine ⟨_, pu_len_own (n := m.stack.length) rfl rfl hl, ?_⟩)
 | (refine Runs.ctls 30 rfl ?_; first | refine Runs.cond_t rfl ?_ | refine Runs.cond_f rfl ?_ | ((first | refine Runs.cond_yes rfl ?_ ?_ | refine Runs.cond_nno rfl ?_ ?_); · first | omega | rfl | assumption | (simp only [List.length_map]; omega)) | ((first | refine Runs.cond_no rfl ?_ ?_ | refine Runs.cond_nyes rfl ?_ ?_); · first | omega | rfl | assumption | (simp only [List.length_map]; omega)) | refine Runs.cond_dec rfl (fun h => ?_) (fun h => ?_) | refine Runs.cond_ndec rfl (fun h => ?_) (fun h => ?_) | refine Runs.cond_nb rfl (fun h => ?_) (fun h => ?_) | refine Runs.cond_b rfl (fun h => ?_) (fun h => ?_) | refine Runs.ret (ends_ro hm rfl rfl ?_) | exact Runs.ret (ends_cellR hm rfl rfl rfl (Nat.le_of_ble_eq_true rfl) rfl rfl))
 | refine op_box rfl (tl hn rfl) ?_
 | refine op_storeF rfl rfl rfl rfl (Nat.le_of_ble_eq_true rfl) ?_
 | refine op_alloc (tl hn rfl) ?_
 | refine op_storeN rfl rfl rfl rfl (Nat.le_of_ble_eq_true rfl) ?_
 | refine RunsD.step tabOk hn rfl rfl ?_
 | refine RunsD.nil ?_
 | refine Runs.toDraw 30 mixed hn rfl (by kernel_rfl) rfl ?_
 | ((first | refine RunsL.pe hn rfl rfl rfl ?_ | refine RunsD.pe rfl rfl ?_); first
 | refine ⟨_, pu_add rfl rfl (by omega), ?_⟩
 | refine ⟨_, pu_indexAddr_map rfl rfl (by omega) (by assumption), ?_⟩
 | refine ⟨_, pu_sub rfl rfl (by omega), ?_⟩
 | refine ⟨_, pu_pick_b rfl rfl rfl, ?_⟩
 | refine ⟨_, pu_mul rfl rfl (by omega), ?_⟩
 | refine ⟨_, pu_build rfl rfl rfl rfl rfl rfl, ?_⟩))
  refine Runs.ctls 30 rfl ?_
  exact mO_ret2 (t := 0) (s := 2) (q := 3) (more := []) rfl (List.append_nil _).symm rfl rfl rfl rfl rfl rfl
theorem l17Pop_yes (m : Mch) (h0 : m.stack.length ≠ 0) (hb : m.stack.length ≤ 1048576) : AM Try.prog 97 (mO m) [0] [.obj 0 0] (mO (mDrop m)) (.tup [.int (mTop m), .bool true]) := by
  refine am_enter Try.func97 rfl _ Try.ntmps97 (by simp) (by simp) fun C gs hn => ?_
  have hl : ((m.stack.map RV.int).map AV.ro).length = m.stack.length * 1 := by simp
  have hz := mTop_at h0
  have hz' : ((m.stack.map RV.int).map AV.ro)[((m.stack.length : Int) - 1).toNat * 1]? = some (.ro (.int (mTop m))) := by
    rw [show ((m.stack.length : Int) - 1).toNat * 1 = m.stack.length - 1 by omega]; simp [hz]
  repeat' (first
 | refine Runs.toDrawT (id := 5) 30 [0] [1, 2, 3, 4, 5, 6, 7, 8, 9, 10] 11 [] mixed hn rfl (by kernel_rfl) rfl (.cons rfl .nil) (by decide) (by decide) (by decide) ?_
 | refine RunsL.junk 0 2 rfl (op_cut (i := 1) (n := m.stack.length) (q := (m.stack.length : Int) - 1) rfl rfl rfl rfl hl (by omega) (by omega) (by omega) (by repeat' (first | exact trivial | exact onlysr _ _ | exact (by decide : (2 : Nat) ≠ 1) | refine And.intro ?_ ?_)) (fun j v hj => onlys_mem (onlysr _ _) j v hj) (tl hn rfl) ?_)
 | refine RunsT.nil ?_
 | refine RunsT.step tabOk rfl rfl (fun _ => rfl) (by decide) ?_
 | refine RunsT.pur (fun _ => pu_nilCheckP rfl) (by decide) rfl rfl ?_
 | refine RunsT.pur (fun _ => pu_len_own (n := m.stack.length) rfl rfl hl) (by decide) rfl rfl ?_
 | refine RunsT.pur (fun _ => pu_indexAddr_own (n := m.stack.length) (sz := 1) rfl rfl rfl rfl hl (by omega) (by omega)) (by decide) rfl rfl ?_
 | refine RunsT.pur (fun _ => pu_sub rfl rfl (by omega)) (by decide) rfl rfl ?_
 | refine RunsT.pur (fun _ => pu_load_obj rfl rfl hz') (by decide) rfl rfl ?_
 | refine RunsT.pur (fun _ => pu_add rfl rfl (by omega)) (by decide) rfl rfl ?_
 | refine RunsT.pur (fun _ => pu_indexAddr_map rfl rfl (by omega) (by assumption)) (by decide) rfl rfl ?_
 | refine RunsT.alloc (p := 0) rfl inferInstance ?_
 | refine RunsT.alloc (p := 1) rfl inferInstance ?_
 | refine RunsL.step tabOk hn rfl ?_
 | refine RunsL.nil ?_
 | refine Runs.toRegion 30 rfl ?_
 | ((first | refine RunsL.pe hn rfl rfl rfl ?_ | refine RunsD.pe rfl rfl ?_); first
 | refine ⟨_, pu_nilCheckP rfl, ?_⟩
 | refine ⟨_, pu_len_own (n := m.stack.length) rfl rfl hl, ?_⟩
 | refine ⟨_, pu_indexAddr_own (n := m.stack.length) (sz := 1) rfl rfl rfl rfl hl (by omega) (by omega), ?_⟩
 | refine ⟨_, pu_sub rfl rfl (by omega), ?_⟩
 | refine ⟨_, pu_load_obj rfl rfl hz', ?_⟩)
 | (refine Runs.ctls 30 rfl ?_; first | refine Runs.cond_t rfl ?_ | refine Runs.cond_f rfl ?_ | ((first | refine Runs.cond_yes rfl ?_ ?_ | refine Runs.cond_nno rfl ?_ ?_); · first | omega | rfl | assumption | (simp only [List.length_map]; omega)) | ((first | refine Runs.cond_no rfl ?_ ?_ | refine Runs.cond_nyes rfl ?_ ?_); · first | omega | rfl | assumption | (simp only [List.length_map]; omega)) | refine Runs.cond_dec rfl (fun h => ?_) (fun h => ?_) | refine Runs.cond_ndec rfl (fun h => ?_) (fun h => ?_) | refine Runs.cond_nb rfl (fun h => ?_) (fun h => ?_) | refine Runs.cond_b rfl (fun h => ?_) (fun h => ?_) | refine Runs.ret (ends_ro hm rfl rfl ?_) | exact Runs.ret (ends_cellR hm rfl rfl rfl (Nat.le_of_ble_eq_true rfl) rfl rfl))
 | refine op_box rfl (tl hn rfl) ?_
 | refine op_storeF rfl rfl rfl rfl (Nat.le_of_ble_eq_true rfl) ?_
 | refine op_alloc (tl hn rfl) ?_
 | refine op_storeN rfl rfl rfl rfl (Nat.le_of_ble_eq_true rfl) ?_
 | refine RunsD.step tabOk hn rfl rfl ?_
 | refine RunsD.nil ?_
 | refine Runs.toDraw 30 mixed hn rfl (by kernel_rfl) rfl ?_
 | ((first | refine RunsL.pe hn rfl rfl rfl ?_ | refine RunsD.pe rfl rfl ?_); first
 | refine ⟨_, pu_add rfl rfl (by omega), ?_⟩
 | refine ⟨_, pu_indexAddr_map rfl rfl (by omega) (by assumption), ?_⟩
 | refine ⟨_, pu_sub rfl rfl (by omega), ?_⟩
 | refine ⟨_, pu_pick_b rfl rfl rfl, ?_⟩
 | refine ⟨_, pu_mul rfl rfl (by omega), ?_⟩
 | refine ⟨_, pu_build rfl rfl rfl rfl rfl rfl, ?_⟩))
  refine Runs.ctls 30 rfl ?_
  refine mO_ret2 (t := 0) (s := 2) (q := 3) (more := []) rfl ?_ rfl rfl rfl rfl rfl rfl
  have e1 : ((m.stack.map RV.int).map AV.ro).take (((m.stack.length : Int) - 1).toNat * 1) = ((m.stack.take (m.stack.length - 1)).map RV.int).map AV.ro := by
    rw [show ((m.stack.length : Int) - 1).toNat * 1 = m.stack.length - 1 by omega, List.map_take, List.map_take]
  unfold mO mDrop
  simp only []
  rw [← e1]
  rfl
theorem set_last {l : List Int} {z : Int} (h : l.length ≠ 0) : l.take (l.length - 1) ++ [z] = l.set (l.length - 1) z := by
  apply List.ext_getElem?
  intro j
  rw [List.getElem?_set]
  by_cases e : l.length - 1 = j
  · subst e
    rw [if_pos rfl, if_pos (by omega), List.getElem?_append_right (by rw [List.length_take]; omega), List.length_take]
    rw [show l.length - 1 - min (l.length - 1) l.length = 0 by omega]
    rfl
  · rw [if_neg e]
    by_cases hj : j < l.length - 1
    · rw [List.getElem?_append_left (by rw [List.length_take]; omega), List.getElem?_take, if_pos hj]
    · rw [List.getElem?_append_right (by rw [List.length_take]; omega), List.length_take]
      have h1 : l[j]? = none := List.getElem?_eq_none (by omega)
      rw [h1, List.getElem?_eq_none]
      simp only [List.length_singleton]; omega
theorem l17Loop_am (m : Mch) (a : Int)(hm : MLen m) : AM Try.prog 96 (mO m) [0] [.obj 0 0, .int a] (mO (mLoop m a)) (.tup []) := by
  refine am_enter Try.func96 rfl _ Try.ntmps96 (by simp) (by simp) fun C gs hn => ?_
  have hb := hm.1
  by_cases h0 : m.stack.length = 0
  · have hT := l17Pop_no m h0
    repeat' (first
 | refine op_callP 3 (hT) rfl (by simp [AV.onlys, AV.only]) (by simp [AV.only, AV.onlys]) rfl rfl rfl (mO_free _) (mO_free _) rfl (by first | exact trivial | exact ⟨rfl, trivial⟩ | exact ⟨rfl, rfl, trivial⟩ | exact ⟨rfl, rfl, rfl, trivial⟩ | exact ⟨rfl, rfl, rfl, rfl, trivial⟩) (fun t h => by injection h with h; subst h; exact tl hn rfl) ?_
 | refine RunsL.step tabOk hn rfl ?_
 | refine RunsL.nil ?_
 | refine Runs.toRegion 30 rfl ?_
 | (refine RunsL.pe hn rfl rfl rfl ?_; first
 | refine ⟨_, pu_nilCheckP rfl, ?_⟩)
 | (refine Runs.ctls 30 rfl ?_; first | refine Runs.cond_t rfl ?_ | refine Runs.cond_f rfl ?_ | ((first | refine Runs.cond_yes rfl ?_ ?_ | refine Runs.cond_nno rfl ?_ ?_); · first | omega | rfl | assumption | (simp only [List.length_map]; omega)) | ((first | refine Runs.cond_no rfl ?_ ?_ | refine Runs.cond_nyes rfl ?_ ?_); · first | omega | rfl | assumption | (simp only [List.length_map]; omega)) | refine Runs.cond_dec rfl (fun h => ?_) (fun h => ?_) | refine Runs.cond_ndec rfl (fun h => ?_) (fun h => ?_) | refine Runs.cond_nb rfl (fun h => ?_) (fun h => ?_) | refine Runs.cond_b rfl (fun h => ?_) (fun h => ?_) | refine Runs.ret (ends_ro hm rfl rfl ?_) | exact Runs.ret (ends_cellR hm rfl rfl rfl (Nat.le_of_ble_eq_true rfl) rfl rfl))
 | refine op_box rfl (tl hn rfl) ?_
 | refine op_storeF rfl rfl rfl rfl (Nat.le_of_ble_eq_true rfl) ?_
 | refine op_alloc (tl hn rfl) ?_
 | refine op_storeN rfl rfl rfl rfl (Nat.le_of_ble_eq_true rfl) ?_
 | (refine RunsL.pe hn rfl rfl rfl ?_; first
 | refine ⟨_, pu_add rfl rfl (by omega), ?_⟩
 | refine ⟨_, pu_indexAddr_map rfl rfl (by omega) (by assumption), ?_⟩
 | refine ⟨_, pu_sub rfl rfl (by omega), ?_⟩
 | refine ⟨_, pu_pick_b rfl rfl rfl, ?_⟩
 | refine ⟨_, pu_mul rfl rfl (by omega), ?_⟩
 | refine ⟨_, pu_build rfl rfl rfl rfl rfl rfl, ?_⟩))
    refine Runs.ctls 30 rfl ?_
    refine mO_end (t := 0) (more := []) rfl ?_ rfl
    exact mO_app (by unfold mLoop; rw [if_pos h0])
  · have hT := l17Pop_yes m h0 hb
    have hl : (((mDrop m).stack.map RV.int).map AV.ro).length = (m.stack.length - 1) * 1 := by simp [mDrop]
    have hl2 : ((mDrop m).stack.map RV.int).length = (m.stack.length - 1) * 1 := by simp [mDrop]
    repeat' (first
 | refine op_callP 3 (hT) rfl (by simp [AV.onlys, AV.only]) (by simp [AV.only, AV.onlys]) rfl rfl rfl (mO_free _) (mO_free _) rfl (by first | exact trivial | exact ⟨rfl, trivial⟩ | exact ⟨rfl, rfl, trivial⟩ | exact ⟨rfl, rfl, rfl, trivial⟩ | exact ⟨rfl, rfl, rfl, rfl, trivial⟩) (fun t h => by injection h with h; subst h; exact tl hn rfl) ?_
 | refine RunsL.junk 0 2 rfl (op_append (n := m.stack.length - 1) (i := 1) rfl rfl rfl rfl rfl rfl hl2 (FreeI.at_ (i := 1) ⟨by simp [AV.onlys, AV.only], onlysr _ _, onlysr _ _, trivial⟩) (by simp; omega) (by simp; omega) (tl hn rfl) ?_)
 | refine RunsL.step tabOk hn rfl ?_
 | refine RunsL.nil ?_
 | refine Runs.toRegion 30 rfl ?_
 | (refine RunsL.pe hn rfl rfl rfl ?_; first
 | refine ⟨_, pu_nilCheckP rfl, ?_⟩
 | refine ⟨_, pu_buildS rfl, ?_⟩
 | refine ⟨_, pu_subW rfl rfl, ?_⟩
 | refine ⟨_, pu_addW rfl rfl, ?_⟩)
 | (refine Runs.ctls 30 rfl ?_; first | refine Runs.cond_t rfl ?_ | refine Runs.cond_f rfl ?_ | ((first | refine Runs.cond_yes rfl ?_ ?_ | refine Runs.cond_nno rfl ?_ ?_); · first | omega | rfl | assumption | (simp only [List.length_map]; omega)) | ((first | refine Runs.cond_no rfl ?_ ?_ | refine Runs.cond_nyes rfl ?_ ?_); · first | omega | rfl | assumption | (simp only [List.length_map]; omega)) | refine Runs.cond_dec rfl (fun h => ?_) (fun h => ?_) | refine Runs.cond_ndec rfl (fun h => ?_) (fun h => ?_) | refine Runs.cond_nb rfl (fun h => ?_) (fun h => ?_) | refine Runs.cond_b rfl (fun h => ?_) (fun h => ?_) | refine Runs.ret (ends_ro hm rfl rfl ?_) | exact Runs.ret (ends_cellR hm rfl rfl rfl (Nat.le_of_ble_eq_true rfl) rfl rfl))
 | refine op_box rfl (tl hn rfl) ?_
 | refine op_storeF rfl rfl rfl rfl (Nat.le_of_ble_eq_true rfl) ?_
 | refine op_alloc (tl hn rfl) ?_
 | refine op_storeN rfl rfl rfl rfl (Nat.le_of_ble_eq_true rfl) ?_
 | (refine RunsL.pe hn rfl rfl rfl ?_; first
 | refine ⟨_, pu_add rfl rfl (by omega), ?_⟩
 | refine ⟨_, pu_indexAddr_map rfl rfl (by omega) (by assumption), ?_⟩
 | refine ⟨_, pu_sub rfl rfl (by omega), ?_⟩
 | refine ⟨_, pu_pick_b rfl rfl rfl, ?_⟩
 | refine ⟨_, pu_mul rfl rfl (by omega), ?_⟩
 | refine ⟨_, pu_build rfl rfl rfl rfl rfl rfl, ?_⟩))
    · refine Runs.ctls 30 rfl ?_
      refine mO_end (t := 0) (more := []) rfl ?_ rfl
      rw [show mLoop m a = { mDrop m with pc := a } from by unfold mLoop; rw [if_neg h0, if_pos (by assumption)]]
      rfl
    · refine Runs.ctls 30 rfl ?_
      refine mO_end (t := 0) (more := []) rfl ?_ rfl
      rw [show mLoop m a = { m with stack := m.stack.set (m.stack.length - 1) (w64 (mTop m - 1)), pc := w64 (m.pc + 1) } from by unfold mLoop; rw [if_neg h0, if_neg (by assumption)], ← set_last h0]
      unfold mO
      simp only []
      rw [List.map_append (f := RV.int)]
      rfl
end Go.Proofs.Ytkhnijggbfoimaa
/- The machine, on the reference's side: instructions. -/
namespace Go.Proofs.Ytkhnijggbfoimaa
set_option linter.unusedSimpArgs false
set_option linter.unusedVariables false
open Go.RowKit
open AV (Mem Keeps)
set_option maxRecDepth 100000
abbrev IsRd (i : Ins) : Prop := i.op = 1 ∨ i.op = 3 ∨ i.op = 4 ∨ i.op = 2 ∨ i.op = 13 ∨ i.op = 16 ∨ i.op = 15
set_option maxHeartbeats 8000000 in
theorem l17Reads_am (m : Mch) (i : Ins) : AM Try.prog 69 (mO m) [0] [.obj 0 0, .ro (.agg (insR i))] (mO (if IsRd i then mPerf m i else m)) (.ro (.bool (decide (IsRd i)))) := by
  refine am_enter Try.func69 rfl _ Try.ntmps69 (by simp) (by simp) fun C gs hn => ?_
  have hl : ((m.sums.map RV.int).map AV.ro).length = m.sums.length * 1 := by simp
  have e15 : i.op = 15 → mPerf m i = (if m.sums.length = 0 then mFail m 8 else mBegin m 1) := fun h => by simp [mPerf, h]
  repeat' (first
 | refine op_callP 3 (l17Start_am { m with register := 0 } i.a) rfl (by simp [AV.onlys, AV.only]) (by simp [AV.only, AV.onlys]) rfl rfl rfl (mO_free _) (mO_free _) rfl (by first | exact trivial | exact ⟨rfl, trivial⟩ | exact ⟨rfl, rfl, trivial⟩ | exact ⟨rfl, rfl, rfl, trivial⟩ | exact ⟨rfl, rfl, rfl, rfl, trivial⟩) (fun t h => by injection h with h; subst h; exact tl hn rfl) ?_
 | refine op_callP 3 (l17Start_am m i.a) rfl (by simp [AV.onlys, AV.only]) (by simp [AV.only, AV.onlys]) rfl rfl rfl (mO_free _) (mO_free _) rfl (by first | exact trivial | exact ⟨rfl, trivial⟩ | exact ⟨rfl, rfl, trivial⟩ | exact ⟨rfl, rfl, rfl, trivial⟩ | exact ⟨rfl, rfl, rfl, rfl, trivial⟩) (fun t h => by injection h with h; subst h; exact tl hn rfl) ?_
 | refine op_callP 3 (l17Start_am m m.register) rfl (by simp [AV.onlys, AV.only]) (by simp [AV.only, AV.onlys]) rfl rfl rfl (mO_free _) (mO_free _) rfl (by first | exact trivial | exact ⟨rfl, trivial⟩ | exact ⟨rfl, rfl, trivial⟩ | exact ⟨rfl, rfl, rfl, trivial⟩ | exact ⟨rfl, rfl, rfl, rfl, trivial⟩) (fun t h => by injection h with h; subst h; exact tl hn rfl) ?_
 | refine op_callP 3 (l17Start_am m 1) rfl (by simp [AV.onlys, AV.only]) (by simp [AV.only, AV.onlys]) rfl rfl rfl (mO_free _) (mO_free _) rfl (by first | exact trivial | exact ⟨rfl, trivial⟩ | exact ⟨rfl, rfl, trivial⟩ | exact ⟨rfl, rfl, rfl, trivial⟩ | exact ⟨rfl, rfl, rfl, rfl, trivial⟩) (fun t h => by injection h with h; subst h; exact tl hn rfl) ?_
 | refine op_callP 3 (l17Fail_am m 8) rfl (by simp [AV.onlys, AV.only]) (by simp [AV.only, AV.onlys]) rfl rfl rfl (mO_free _) (mO_free _) rfl (by first | exact trivial | exact ⟨rfl, trivial⟩ | exact ⟨rfl, rfl, trivial⟩ | exact ⟨rfl, rfl, rfl, trivial⟩ | exact ⟨rfl, rfl, rfl, rfl, trivial⟩) (fun t h => by injection h with h; subst h; exact tl hn rfl) ?_
 | refine RunsL.step tabOk hn rfl ?_
 | refine RunsL.nil ?_
 | refine Runs.toRegion 30 rfl ?_
 | (refine RunsL.pe hn rfl rfl rfl ?_; first
 | refine ⟨_, pu_nilCheckP rfl, ?_⟩
 | refine ⟨_, pu_len_own (n := m.sums.length) rfl rfl hl, ?_⟩)
 | (refine Runs.ctls 30 rfl ?_; first | refine Runs.cond_t rfl ?_ | refine Runs.cond_f rfl ?_ | ((first | refine Runs.cond_yes rfl ?_ ?_ | refine Runs.cond_nno rfl ?_ ?_); · first | omega | rfl | assumption | (simp only [List.length_map]; omega)) | ((first | refine Runs.cond_no rfl ?_ ?_ | refine Runs.cond_nyes rfl ?_ ?_); · first | omega | rfl | assumption | (simp only [List.length_map]; omega)) | refine Runs.cond_dec rfl (fun h => ?_) (fun h => ?_) | refine Runs.cond_ndec rfl (fun h => ?_) (fun h => ?_) | refine Runs.cond_nb rfl (fun h => ?_) (fun h => ?_) | refine Runs.cond_b rfl (fun h => ?_) (fun h => ?_) | refine Runs.ret (ends_ro hm rfl rfl ?_) | exact Runs.ret (ends_cellR hm rfl rfl rfl (Nat.le_of_ble_eq_true rfl) rfl rfl))
 | refine op_box rfl (tl hn rfl) ?_
 | refine op_storeF rfl rfl rfl rfl (Nat.le_of_ble_eq_true rfl) ?_
 | refine op_alloc (tl hn rfl) ?_
 | refine op_storeN rfl rfl rfl rfl (Nat.le_of_ble_eq_true rfl) ?_
 | (refine RunsL.pe hn rfl rfl rfl ?_; first
 | refine ⟨_, pu_add rfl rfl (by omega), ?_⟩
 | refine ⟨_, pu_indexAddr_map rfl rfl (by omega) (by assumption), ?_⟩
 | refine ⟨_, pu_sub rfl rfl (by omega), ?_⟩
 | refine ⟨_, pu_pick_b rfl rfl rfl, ?_⟩
 | refine ⟨_, pu_mul rfl rfl (by omega), ?_⟩
 | refine ⟨_, pu_build rfl rfl rfl rfl rfl rfl, ?_⟩))
  all_goals refine Runs.ctls 30 rfl ?_
  all_goals first
    | (rw [show decide (IsRd i) = true from decide_eq_true (by omega), if_pos (by omega)]
       refine mO_ret1 (t := 0) (s := 4) (more := [⟨74, 0, (insR i).map .ro⟩]) rfl ?_ rfl rfl rfl
       first
         | (refine mO_app ?_; rw [e15 (by assumption), if_pos (by omega)])
         | (refine mO_app ?_; rw [e15 (by assumption), if_neg (by omega)])
         | (refine mO_app ?_; simp [mPerf, *]; done))
    | (rw [show decide (IsRd i) = false from decide_eq_false (by omega), if_neg (by omega)]
       exact mO_ret1 (t := 0) (s := 4) (more := [⟨74, 0, (insR i).map .ro⟩]) rfl rfl rfl rfl rfl)
theorem sPush_yes {m : Mch} {a n : Int} (h : m.stack.length < 60) : { sPush m a with pc := n } = mPush m a n := by
  unfold sPush mPush
  rw [if_neg (by omega), if_neg (by omega)]
theorem sPush_no {m : Mch} {a n : Int} (h : ¬ m.stack.length < 60) : sPush m a = mPush m a n := by
  unfold sPush mPush
  rw [if_pos (by omega), if_pos (by omega)]
abbrev IsSt (i : Ins) : Prop := i.op = 6 ∨ i.op = 7 ∨ i.op = 8 ∨ i.op = 9 ∨ i.op = 10 ∨ i.op = 14
theorem sPush_at (m : Mch) (a : Int) : (sPush m a).pc = m.pc := by unfold sPush; split <;> rfl
set_option maxHeartbeats 16000000 in
theorem l17Stack_am (m : Mch) (i : Ins) (hm : MLen m) (hi : IsSt i) : AM Try.prog 70 (mO m) [0] [.obj 0 0, .ro (.agg (insR i))] (mO (mPerf m i)) (.tup []) := by
  refine am_enter Try.func70 rfl _ Try.ntmps70 (by simp) (by simp) fun C gs hn => ?_
  have hl : ((m.sums.map RV.int).map AV.ro).length = m.sums.length * 1 := by simp
  have hb := hm.1
  have hb2 := hm.2
  have e6 : i.op = 6 → mPerf m i = mPush m m.register (w64 (m.pc + 1)) := fun h => by simp [mPerf, h]
  have e7 : i.op = 7 → mPerf m i = mLoop m i.a := fun h => by simp [mPerf, h]
  have e8 : i.op = 8 → mPerf m i = { m with pc := i.a } := fun h => by simp [mPerf, h]
  have e9 : i.op = 9 → mPerf m i = mPush m (w64 (m.pc + 1)) i.a := fun h => by simp [mPerf, h]
  have e10 : i.op = 10 → mPerf m i = mBack m := fun h => by simp [mPerf, h]
  have e14 : i.op = 14 → mPerf m i = (if 30 ≤ m.sums.length then mFail m 8 else { mNext m with sums := m.sums ++ [0] }) := fun h => by simp [mPerf, h]
  rcases hi with h | h | h | h | h | h
  · have hP := l17Push_am m m.register hm
    rw [e6 h]
    repeat' (first
 | refine op_callP 3 (hP) rfl (by simp [AV.onlys, AV.only]) (by simp [AV.only, AV.onlys]) rfl rfl rfl (mO_free _) (mO_free _) rfl (by first | exact trivial | exact ⟨rfl, trivial⟩ | exact ⟨rfl, rfl, trivial⟩ | exact ⟨rfl, rfl, rfl, trivial⟩ | exact ⟨rfl, rfl, rfl, rfl, trivial⟩) (fun t h => by injection h with h; subst h; exact tl hn rfl) ?_
 | refine RunsL.step tabOk hn rfl ?_
 | refine RunsL.nil ?_
 | refine Runs.toRegion 30 rfl ?_
 | (refine RunsL.pe hn rfl rfl rfl ?_; first
 | refine ⟨_, pu_nilCheckP rfl, ?_⟩
 | refine ⟨_, pu_addW rfl rfl, ?_⟩)
 | (refine Runs.ctls 30 rfl ?_; first | refine Runs.cond_t rfl ?_ | refine Runs.cond_f rfl ?_ | ((first | refine Runs.cond_yes rfl ?_ ?_ | refine Runs.cond_nno rfl ?_ ?_); · first | omega | rfl | assumption | (simp only [List.length_map]; omega)) | ((first | refine Runs.cond_no rfl ?_ ?_ | refine Runs.cond_nyes rfl ?_ ?_); · first | omega | rfl | assumption | (simp only [List.length_map]; omega)) | refine Runs.cond_dec rfl (fun h => ?_) (fun h => ?_) | refine Runs.cond_ndec rfl (fun h => ?_) (fun h => ?_) | refine Runs.cond_nb rfl (fun h => ?_) (fun h => ?_) | refine Runs.cond_b rfl (fun h => ?_) (fun h => ?_) | refine Runs.ret (ends_ro hm rfl rfl ?_) | exact Runs.ret (ends_cellR hm rfl rfl rfl (Nat.le_of_ble_eq_true rfl) rfl rfl))
 | refine op_box rfl (tl hn rfl) ?_
 | refine op_storeF rfl rfl rfl rfl (Nat.le_of_ble_eq_true rfl) ?_
 | refine op_alloc (tl hn rfl) ?_
 | refine op_storeN rfl rfl rfl rfl (Nat.le_of_ble_eq_true rfl) ?_
 | (refine RunsL.pe hn rfl rfl rfl ?_; first
 | refine ⟨_, pu_add rfl rfl (by omega), ?_⟩
 | refine ⟨_, pu_indexAddr_map rfl rfl (by omega) (by assumption), ?_⟩
 | refine ⟨_, pu_sub rfl rfl (by omega), ?_⟩
 | refine ⟨_, pu_pick_b rfl rfl rfl, ?_⟩
 | refine ⟨_, pu_mul rfl rfl (by omega), ?_⟩
 | refine ⟨_, pu_build rfl rfl rfl rfl rfl rfl, ?_⟩))
    all_goals first | (exfalso; omega) | skip
    all_goals refine Runs.ctls 30 rfl ?_
    all_goals refine mO_end (t := 0) (more := [⟨74, 0, (insR i).map .ro⟩]) rfl ?_ rfl
    all_goals first
      | (rw [← sPush_yes (by assumption)]; refine (show _ = mO { sPush m m.register with pc := w64 ((sPush m m.register).pc + 1) } ++ _ from rfl).trans (mO_app ?_); rw [sPush_at]; done)
      | rw [← sPush_no (by assumption)]
  · rw [e7 h]
    repeat' (first
 | refine op_callP 3 (l17Loop_am m i.a hm) rfl (by simp [AV.onlys, AV.only]) (by simp [AV.only, AV.onlys]) rfl rfl rfl (mO_free _) (mO_free _) rfl (by first | exact trivial | exact ⟨rfl, trivial⟩ | exact ⟨rfl, rfl, trivial⟩ | exact ⟨rfl, rfl, rfl, trivial⟩ | exact ⟨rfl, rfl, rfl, rfl, trivial⟩) (fun t h => by injection h with h; subst h; exact tl hn rfl) ?_
 | refine RunsL.step tabOk hn rfl ?_
 | refine RunsL.nil ?_
 | refine Runs.toRegion 30 rfl ?_
 | (refine RunsL.pe hn rfl rfl rfl ?_; first
 | refine ⟨_, pu_nilCheckP rfl, ?_⟩)
 | (refine Runs.ctls 30 rfl ?_; first | refine Runs.cond_t rfl ?_ | refine Runs.cond_f rfl ?_ | ((first | refine Runs.cond_yes rfl ?_ ?_ | refine Runs.cond_nno rfl ?_ ?_); · first | omega | rfl | assumption | (simp only [List.length_map]; omega)) | ((first | refine Runs.cond_no rfl ?_ ?_ | refine Runs.cond_nyes rfl ?_ ?_); · first | omega | rfl | assumption | (simp only [List.length_map]; omega)) | refine Runs.cond_dec rfl (fun h => ?_) (fun h => ?_) | refine Runs.cond_ndec rfl (fun h => ?_) (fun h => ?_) | refine Runs.cond_nb rfl (fun h => ?_) (fun h => ?_) | refine Runs.cond_b rfl (fun h => ?_) (fun h => ?_) | refine Runs.ret (ends_ro hm rfl rfl ?_) | exact Runs.ret (ends_cellR hm rfl rfl rfl (Nat.le_of_ble_eq_true rfl) rfl rfl))
 | refine op_box rfl (tl hn rfl) ?_
 | refine op_storeF rfl rfl rfl rfl (Nat.le_of_ble_eq_true rfl) ?_
 | refine op_alloc (tl hn rfl) ?_
 | refine op_storeN rfl rfl rfl rfl (Nat.le_of_ble_eq_true rfl) ?_
 | (refine RunsL.pe hn rfl rfl rfl ?_; first
 | refine ⟨_, pu_add rfl rfl (by omega), ?_⟩
 | refine ⟨_, pu_indexAddr_map rfl rfl (by omega) (by assumption), ?_⟩
 | refine ⟨_, pu_sub rfl rfl (by omega), ?_⟩
 | refine ⟨_, pu_pick_b rfl rfl rfl, ?_⟩
 | refine ⟨_, pu_mul rfl rfl (by omega), ?_⟩
 | refine ⟨_, pu_build rfl rfl rfl rfl rfl rfl, ?_⟩))
    all_goals first | (exfalso; omega) | skip
    all_goals refine Runs.ctls 30 rfl ?_
    all_goals exact mO_end (t := 0) (more := [⟨74, 0, (insR i).map .ro⟩]) rfl rfl rfl
  · rw [e8 h]
    repeat' (first
 | refine RunsL.step tabOk hn rfl ?_
 | refine RunsL.nil ?_
 | refine Runs.toRegion 30 rfl ?_
 | (refine RunsL.pe hn rfl rfl rfl ?_; first
 | refine ⟨_, pu_nilCheckP rfl, ?_⟩)
 | (refine Runs.ctls 30 rfl ?_; first | refine Runs.cond_t rfl ?_ | refine Runs.cond_f rfl ?_ | ((first | refine Runs.cond_yes rfl ?_ ?_ | refine Runs.cond_nno rfl ?_ ?_); · first | omega | rfl | assumption | (simp only [List.length_map]; omega)) | ((first | refine Runs.cond_no rfl ?_ ?_ | refine Runs.cond_nyes rfl ?_ ?_); · first | omega | rfl | assumption | (simp only [List.length_map]; omega)) | refine Runs.cond_dec rfl (fun h => ?_) (fun h => ?_) | refine Runs.cond_ndec rfl (fun h => ?_) (fun h => ?_) | refine Runs.cond_nb rfl (fun h => ?_) (fun h => ?_) | refine Runs.cond_b rfl (fun h => ?_) (fun h => ?_) | refine Runs.ret (ends_ro hm rfl rfl ?_) | exact Runs.ret (ends_cellR hm rfl rfl rfl (Nat.le_of_ble_eq_true rfl) rfl rfl))
 | refine op_box rfl (tl hn rfl) ?_
 | refine op_storeF rfl rfl rfl rfl (Nat.le_of_ble_eq_true rfl) ?_
 | refine op_alloc (tl hn rfl) ?_
 | refine op_storeN rfl rfl rfl rfl (Nat.le_of_ble_eq_true rfl) ?_
 | (refine RunsL.pe hn rfl rfl rfl ?_; first
 | refine ⟨_, pu_add rfl rfl (by omega), ?_⟩
 | refine ⟨_, pu_indexAddr_map rfl rfl (by omega) (by assumption), ?_⟩
 | refine ⟨_, pu_sub rfl rfl (by omega), ?_⟩
 | refine ⟨_, pu_pick_b rfl rfl rfl, ?_⟩
 | refine ⟨_, pu_mul rfl rfl (by omega), ?_⟩
 | refine ⟨_, pu_build rfl rfl rfl rfl rfl rfl, ?_⟩))
    all_goals first | (exfalso; omega) | skip
    all_goals refine Runs.ctls 30 rfl ?_
    all_goals exact mO_end (t := 0) (more := [⟨74, 0, (insR i).map .ro⟩]) rfl rfl rfl
  · have hP := l17Push_am m (w64 (m.pc + 1)) hm
    rw [e9 h]
    repeat' (first
 | refine op_callP 3 (hP) rfl (by simp [AV.onlys, AV.only]) (by simp [AV.only, AV.onlys]) rfl rfl rfl (mO_free _) (mO_free _) rfl (by first | exact trivial | exact ⟨rfl, trivial⟩ | exact ⟨rfl, rfl, trivial⟩ | exact ⟨rfl, rfl, rfl, trivial⟩ | exact ⟨rfl, rfl, rfl, rfl, trivial⟩) (fun t h => by injection h with h; subst h; exact tl hn rfl) ?_
 | refine RunsL.step tabOk hn rfl ?_
 | refine RunsL.nil ?_
 | refine Runs.toRegion 30 rfl ?_
 | (refine RunsL.pe hn rfl rfl rfl ?_; first
 | refine ⟨_, pu_nilCheckP rfl, ?_⟩
 | refine ⟨_, pu_addW rfl rfl, ?_⟩)
 | (refine Runs.ctls 30 rfl ?_; first | refine Runs.cond_t rfl ?_ | refine Runs.cond_f rfl ?_ | ((first | refine Runs.cond_yes rfl ?_ ?_ | refine Runs.cond_nno rfl ?_ ?_); · first | omega | rfl | assumption | (simp only [List.length_map]; omega)) | ((first | refine Runs.cond_no rfl ?_ ?_ | refine Runs.cond_nyes rfl ?_ ?_); · first | omega | rfl | assumption | (simp only [List.length_map]; omega)) | refine Runs.cond_dec rfl (fun h => ?_) (fun h => ?_) | refine Runs.cond_ndec rfl (fun h => ?_) (fun h => ?_) | refine Runs.cond_nb rfl (fun h => ?_) (fun h => ?_) | refine Runs.cond_b rfl (fun h => ?_) (fun h => ?_) | refine Runs.ret (ends_ro hm rfl rfl ?_) | exact Runs.ret (ends_cellR hm rfl rfl rfl (Nat.le_of_ble_eq_true rfl) rfl rfl))
 | refine op_box rfl (tl hn rfl) ?_
 | refine op_storeF rfl rfl rfl rfl (Nat.le_of_ble_eq_true rfl) ?_
 | refine op_alloc (tl hn rfl) ?_
 | refine op_storeN rfl rfl rfl rfl (Nat.le_of_ble_eq_true rfl) ?_
 | (refine RunsL.pe hn rfl rfl rfl ?_; first
 | refine ⟨_, pu_add rfl rfl (by omega), ?_⟩
 | refine ⟨_, pu_indexAddr_map rfl rfl (by omega) (by assumption), ?_⟩
 | refine ⟨_, pu_sub rfl rfl (by omega), ?_⟩
 | refine ⟨_, pu_pick_b rfl rfl rfl, ?_⟩
 | refine ⟨_, pu_mul rfl rfl (by omega), ?_⟩
 | refine ⟨_, pu_build rfl rfl rfl rfl rfl rfl, ?_⟩))
    all_goals first | (exfalso; omega) | skip
    all_goals refine Runs.ctls 30 rfl ?_
    all_goals refine mO_end (t := 0) (more := [⟨74, 0, (insR i).map .ro⟩]) rfl ?_ rfl
    all_goals first
      | (rw [← sPush_yes (by assumption)]; rfl)
      | rw [← sPush_no (by assumption)]
  · rw [e10 h]
    by_cases h0 : m.stack.length = 0
    · have hT := l17Pop_no m h0
      repeat' (first
 | refine op_callP 3 (hT) rfl (by simp [AV.onlys, AV.only]) (by simp [AV.only, AV.onlys]) rfl rfl rfl (mO_free _) (mO_free _) rfl (by first | exact trivial | exact ⟨rfl, trivial⟩ | exact ⟨rfl, rfl, trivial⟩ | exact ⟨rfl, rfl, rfl, trivial⟩ | exact ⟨rfl, rfl, rfl, rfl, trivial⟩) (fun t h => by injection h with h; subst h; exact tl hn rfl) ?_
 | refine RunsL.step tabOk hn rfl ?_
 | refine RunsL.nil ?_
 | refine Runs.toRegion 30 rfl ?_
 | (refine RunsL.pe hn rfl rfl rfl ?_; first
 | refine ⟨_, pu_nilCheckP rfl, ?_⟩)
 | (refine Runs.ctls 30 rfl ?_; first | refine Runs.cond_t rfl ?_ | refine Runs.cond_f rfl ?_ | ((first | refine Runs.cond_yes rfl ?_ ?_ | refine Runs.cond_nno rfl ?_ ?_); · first | omega | rfl | assumption | (simp only [List.length_map]; omega)) | ((first | refine Runs.cond_no rfl ?_ ?_ | refine Runs.cond_nyes rfl ?_ ?_); · first | omega | rfl | assumption | (simp only [List.length_map]; omega)) | refine Runs.cond_dec rfl (fun h => ?_) (fun h => ?_) | refine Runs.cond_ndec rfl (fun h => ?_) (fun h => ?_) | refine Runs.cond_nb rfl (fun h => ?_) (fun h => ?_) | refine Runs.cond_b rfl (fun h => ?_) (fun h => ?_) | refine Runs.ret (ends_ro hm rfl rfl ?_) | exact Runs.ret (ends_cellR hm rfl rfl rfl (Nat.le_of_ble_eq_true rfl) rfl rfl))
 | refine op_box rfl (tl hn rfl) ?_
 | refine op_storeF rfl rfl rfl rfl (Nat.le_of_ble_eq_true rfl) ?_
 | refine op_alloc (tl hn rfl) ?_
 | refine op_storeN rfl rfl rfl rfl (Nat.le_of_ble_eq_true rfl) ?_
 | (refine RunsL.pe hn rfl rfl rfl ?_; first
 | refine ⟨_, pu_add rfl rfl (by omega), ?_⟩
 | refine ⟨_, pu_indexAddr_map rfl rfl (by omega) (by assumption), ?_⟩
 | refine ⟨_, pu_sub rfl rfl (by omega), ?_⟩
 | refine ⟨_, pu_pick_b rfl rfl rfl, ?_⟩
 | refine ⟨_, pu_mul rfl rfl (by omega), ?_⟩
 | refine ⟨_, pu_build rfl rfl rfl rfl rfl rfl, ?_⟩))
      all_goals first | (exfalso; omega) | skip
      all_goals refine Runs.ctls 30 rfl ?_
      all_goals refine mO_end (t := 0) (more := [⟨74, 0, (insR i).map .ro⟩]) rfl ?_ rfl
      all_goals exact mO_app (by unfold mBack; rw [if_pos h0])
    · have hT := l17Pop_yes m h0 hb
      repeat' (first
 | refine op_callP 3 (hT) rfl (by simp [AV.onlys, AV.only]) (by simp [AV.only, AV.onlys]) rfl rfl rfl (mO_free _) (mO_free _) rfl (by first | exact trivial | exact ⟨rfl, trivial⟩ | exact ⟨rfl, rfl, trivial⟩ | exact ⟨rfl, rfl, rfl, trivial⟩ | exact ⟨rfl, rfl, rfl, rfl, trivial⟩) (fun t h => by injection h with h; subst h; exact tl hn rfl) ?_
 | refine RunsL.step tabOk hn rfl ?_
 | refine RunsL.nil ?_
 | refine Runs.toRegion 30 rfl ?_
 | (refine RunsL.pe hn rfl rfl rfl ?_; first
 | refine ⟨_, pu_nilCheckP rfl, ?_⟩)
 | (refine Runs.ctls 30 rfl ?_; first | refine Runs.cond_t rfl ?_ | refine Runs.cond_f rfl ?_ | ((first | refine Runs.cond_yes rfl ?_ ?_ | refine Runs.cond_nno rfl ?_ ?_); · first | omega | rfl | assumption | (simp only [List.length_map]; omega)) | ((first | refine Runs.cond_no rfl ?_ ?_ | refine Runs.cond_nyes rfl ?_ ?_); · first | omega | rfl | assumption | (simp only [List.length_map]; omega)) | refine Runs.cond_dec rfl (fun h => ?_) (fun h => ?_) | refine Runs.cond_ndec rfl (fun h => ?_) (fun h => ?_) | refine Runs.cond_nb rfl (fun h => ?_) (fun h => ?_) | refine Runs.cond_b rfl (fun h => ?_) (fun h => ?_) | refine Runs.ret (ends_ro hm rfl rfl ?_) | exact Runs.ret (ends_cellR hm rfl rfl rfl (Nat.le_of_ble_eq_true rfl) rfl rfl))
 | refine op_box rfl (tl hn rfl) ?_
 | refine op_storeF rfl rfl rfl rfl (Nat.le_of_ble_eq_true rfl) ?_
 | refine op_alloc (tl hn rfl) ?_
 | refine op_storeN rfl rfl rfl rfl (Nat.le_of_ble_eq_true rfl) ?_
 | (refine RunsL.pe hn rfl rfl rfl ?_; first
 | refine ⟨_, pu_add rfl rfl (by omega), ?_⟩
 | refine ⟨_, pu_indexAddr_map rfl rfl (by omega) (by assumption), ?_⟩
 | refine ⟨_, pu_sub rfl rfl (by omega), ?_⟩
 | refine ⟨_, pu_pick_b rfl rfl rfl, ?_⟩
 | refine ⟨_, pu_mul rfl rfl (by omega), ?_⟩
 | refine ⟨_, pu_build rfl rfl rfl rfl rfl rfl, ?_⟩))
      all_goals first | (exfalso; omega) | skip
      all_goals refine Runs.ctls 30 rfl ?_
      all_goals refine mO_end (t := 0) (more := [⟨74, 0, (insR i).map .ro⟩]) rfl ?_ rfl
      all_goals (rw [show mBack m = { mDrop m with pc := mTop m } from by unfold mBack; rw [if_neg h0]]; rfl)
  · rw [e14 h]
    repeat' (first
 | refine op_callP 3 (l17Fail_am m 8) rfl (by simp [AV.onlys, AV.only]) (by simp [AV.only, AV.onlys]) rfl rfl rfl (mO_free _) (mO_free _) rfl (by first | exact trivial | exact ⟨rfl, trivial⟩ | exact ⟨rfl, rfl, trivial⟩ | exact ⟨rfl, rfl, rfl, trivial⟩ | exact ⟨rfl, rfl, rfl, rfl, trivial⟩) (fun t h => by injection h with h; subst h; exact tl hn rfl) ?_
 | refine RunsL.junk 0 3 rfl (op_append (n := m.sums.length) (i := 2) rfl rfl rfl rfl rfl rfl (by simp) (FreeI.at_ (i := 2) (by repeat' (first | exact trivial | exact onlysr _ _ | exact (by decide : (1 : Nat) ≠ 2) | refine And.intro ?_ ?_))) (by simp; omega) (by simp; omega) (tl hn rfl) ?_)
 | refine RunsL.step tabOk hn rfl ?_
 | refine RunsL.nil ?_
 | refine Runs.toRegion 30 rfl ?_
 | (refine RunsL.pe hn rfl rfl rfl ?_; first
 | refine ⟨_, pu_nilCheckP rfl, ?_⟩
 | refine ⟨_, pu_len_own (n := m.sums.length) rfl rfl hl, ?_⟩
 | refine ⟨_, pu_buildS rfl, ?_⟩
 | refine ⟨_, pu_addW rfl rfl, ?_⟩)
 | (refine Runs.ctls 30 rfl ?_; first | refine Runs.cond_t rfl ?_ | refine Runs.cond_f rfl ?_ | ((first | refine Runs.cond_yes rfl ?_ ?_ | refine Runs.cond_nno rfl ?_ ?_); · first | omega | rfl | assumption | (simp only [List.length_map]; omega)) | ((first | refine Runs.cond_no rfl ?_ ?_ | refine Runs.cond_nyes rfl ?_ ?_); · first | omega | rfl | assumption | (simp only [List.length_map]; omega)) | refine Runs.cond_dec rfl (fun h => ?_) (fun h => ?_) | refine Runs.cond_ndec rfl (fun h => ?_) (fun h => ?_) | refine Runs.cond_nb rfl (fun h => ?_) (fun h => ?_) | refine Runs.cond_b rfl (fun h => ?_) (fun h => ?_) | refine Runs.ret (ends_ro hm rfl rfl ?_) | exact Runs.ret (ends_cellR hm rfl rfl rfl (Nat.le_of_ble_eq_true rfl) rfl rfl))
 | refine op_box rfl (tl hn rfl) ?_
 | refine op_storeF rfl rfl rfl rfl (Nat.le_of_ble_eq_true rfl) ?_
 | refine op_alloc (tl hn rfl) ?_
 | refine op_storeN rfl rfl rfl rfl (Nat.le_of_ble_eq_true rfl) ?_
 | (refine RunsL.pe hn rfl rfl rfl ?_; first
 | refine ⟨_, pu_add rfl rfl (by omega), ?_⟩
 | refine ⟨_, pu_indexAddr_map rfl rfl (by omega) (by assumption), ?_⟩
 | refine ⟨_, pu_sub rfl rfl (by omega), ?_⟩
 | refine ⟨_, pu_pick_b rfl rfl rfl, ?_⟩
 | refine ⟨_, pu_mul rfl rfl (by omega), ?_⟩
 | refine ⟨_, pu_build rfl rfl rfl rfl rfl rfl, ?_⟩))
    all_goals first | (exfalso; omega) | skip
    all_goals refine Runs.ctls 30 rfl ?_
    all_goals first
      | refine mO_end (t := 0) (more := [⟨74, 0, (insR i).map .ro⟩]) rfl ?_ rfl
      | refine mO_ret (t := 0) (more := [⟨74, 0, (insR i).map .ro⟩]) rfl ?_ rfl
    all_goals first
      | (refine mO_app ?_; rw [if_pos (by omega)])
      | (rw [if_neg (by omega)]; unfold mO mNext; simp only []; rw [List.map_append (f := RV.int)]; rfl)
set_option maxHeartbeats 8000000 in
theorem l17Stack_no (m : Mch) (i : Ins) (hi : ¬ IsSt i) : AM Try.prog 70 (mO m) [0] [.obj 0 0, .ro (.agg (insR i))] (mO m) (.tup []) := by
  refine am_enter Try.func70 rfl _ Try.ntmps70 (by simp) (by simp) fun C gs hn => ?_
  repeat' (first
 | refine RunsL.step tabOk hn rfl ?_
 | refine RunsL.nil ?_
 | refine Runs.toRegion 30 rfl ?_
 | (refine RunsL.pe hn rfl rfl rfl ?_; first
 | refine ⟨_, pu_nilCheckP rfl, ?_⟩)
 | (refine Runs.ctls 30 rfl ?_; first | refine Runs.cond_t rfl ?_ | refine Runs.cond_f rfl ?_ | ((first | refine Runs.cond_yes rfl ?_ ?_ | refine Runs.cond_nno rfl ?_ ?_); · first | omega | rfl | assumption | (simp only [List.length_map]; omega)) | ((first | refine Runs.cond_no rfl ?_ ?_ | refine Runs.cond_nyes rfl ?_ ?_); · first | omega | rfl | assumption | (simp only [List.length_map]; omega)) | refine Runs.cond_dec rfl (fun h => ?_) (fun h => ?_) | refine Runs.cond_ndec rfl (fun h => ?_) (fun h => ?_) | refine Runs.cond_nb rfl (fun h => ?_) (fun h => ?_) | refine Runs.cond_b rfl (fun h => ?_) (fun h => ?_) | refine Runs.ret (ends_ro hm rfl rfl ?_) | exact Runs.ret (ends_cellR hm rfl rfl rfl (Nat.le_of_ble_eq_true rfl) rfl rfl))
 | refine op_box rfl (tl hn rfl) ?_
 | refine op_storeF rfl rfl rfl rfl (Nat.le_of_ble_eq_true rfl) ?_
 | refine op_alloc (tl hn rfl) ?_
 | refine op_storeN rfl rfl rfl rfl (Nat.le_of_ble_eq_true rfl) ?_
 | (refine RunsL.pe hn rfl rfl rfl ?_; first
 | refine ⟨_, pu_add rfl rfl (by omega), ?_⟩
 | refine ⟨_, pu_indexAddr_map rfl rfl (by omega) (by assumption), ?_⟩
 | refine ⟨_, pu_sub rfl rfl (by omega), ?_⟩
 | refine ⟨_, pu_pick_b rfl rfl rfl, ?_⟩
 | refine ⟨_, pu_mul rfl rfl (by omega), ?_⟩
 | refine ⟨_, pu_build rfl rfl rfl rfl rfl rfl, ?_⟩))
  all_goals first | (exfalso; omega) | skip
  all_goals refine Runs.ctls 30 rfl ?_
  all_goals exact mO_end (t := 0) (more := [⟨74, 0, (insR i).map .ro⟩]) rfl rfl rfl
set_option maxHeartbeats 16000000 in
theorem l17Step_am (m : Mch) (i : Ins) (hm : MLen m) : AM Try.prog 54 (mO m) [0] [.obj 0 0, .ro (.agg (insR i))] (mO (mPerf m i)) (.tup []) := by
  refine am_enter Try.func54 rfl _ Try.ntmps54 (by simp) (by simp) fun C gs hn => ?_
  have hR := l17Reads_am m i
  by_cases hr : IsRd i
  · rw [if_pos hr, show decide (IsRd i) = true from decide_eq_true hr] at hR
    repeat' (first
 | refine op_callP 3 (hR) rfl (by simp [AV.onlys, AV.only]) (by simp [AV.only, AV.onlys]) rfl rfl rfl (mO_free _) (mO_free _) rfl (by first | exact trivial | exact ⟨rfl, trivial⟩ | exact ⟨rfl, rfl, trivial⟩ | exact ⟨rfl, rfl, rfl, trivial⟩ | exact ⟨rfl, rfl, rfl, rfl, trivial⟩) (fun t h => by injection h with h; subst h; exact tl hn rfl) ?_
 | refine RunsL.step tabOk hn rfl ?_
 | refine RunsL.nil ?_
 | refine Runs.toRegion 30 rfl ?_
 | ((first | refine RunsL.pe hn rfl rfl rfl ?_ | refine RunsD.pe rfl rfl ?_); first
 | refine ⟨_, pu_nilCheckP rfl, ?_⟩)
 | (refine Runs.ctls 30 rfl ?_; first | refine Runs.cond_t rfl ?_ | refine Runs.cond_f rfl ?_ | ((first | refine Runs.cond_yes rfl ?_ ?_ | refine Runs.cond_nno rfl ?_ ?_); · first | omega | rfl | assumption | (simp only [List.length_map]; omega)) | ((first | refine Runs.cond_no rfl ?_ ?_ | refine Runs.cond_nyes rfl ?_ ?_); · first | omega | rfl | assumption | (simp only [List.length_map]; omega)) | refine Runs.cond_dec rfl (fun h => ?_) (fun h => ?_) | refine Runs.cond_ndec rfl (fun h => ?_) (fun h => ?_) | refine Runs.cond_nb rfl (fun h => ?_) (fun h => ?_) | refine Runs.cond_b rfl (fun h => ?_) (fun h => ?_) | refine Runs.ret (ends_ro hm rfl rfl ?_) | exact Runs.ret (ends_cellR hm rfl rfl rfl (Nat.le_of_ble_eq_true rfl) rfl rfl))
 | refine op_box rfl (tl hn rfl) ?_
 | refine op_storeF rfl rfl rfl rfl (Nat.le_of_ble_eq_true rfl) ?_
 | refine op_alloc (tl hn rfl) ?_
 | refine op_storeN rfl rfl rfl rfl (Nat.le_of_ble_eq_true rfl) ?_
 | refine RunsD.step tabOk hn rfl rfl ?_
 | refine RunsD.nil ?_
 | refine Runs.toDraw 30 mixed hn rfl (by kernel_rfl) rfl ?_
 | ((first | refine RunsL.pe hn rfl rfl rfl ?_ | refine RunsD.pe rfl rfl ?_); first
 | refine ⟨_, pu_add rfl rfl (by omega), ?_⟩
 | refine ⟨_, pu_indexAddr_map rfl rfl (by omega) (by assumption), ?_⟩
 | refine ⟨_, pu_sub rfl rfl (by omega), ?_⟩
 | refine ⟨_, pu_pick_b rfl rfl rfl, ?_⟩
 | refine ⟨_, pu_mul rfl rfl (by omega), ?_⟩
 | refine ⟨_, pu_build rfl rfl rfl rfl rfl rfl, ?_⟩))
    refine Runs.ctls 30 rfl ?_
    exact mO_ret (t := 0) (more := [⟨74, 0, (insR i).map .ro⟩]) rfl rfl rfl
  · rw [if_neg hr, show decide (IsRd i) = false from decide_eq_false hr] at hR
    by_cases hs : IsSt i
    · have hS := l17Stack_am m i hm hs
      repeat' (first
 | refine op_callP 3 (hR) rfl (by simp [AV.onlys, AV.only]) (by simp [AV.only, AV.onlys]) rfl rfl rfl (mO_free _) (mO_free _) rfl (by first | exact trivial | exact ⟨rfl, trivial⟩ | exact ⟨rfl, rfl, trivial⟩ | exact ⟨rfl, rfl, rfl, trivial⟩ | exact ⟨rfl, rfl, rfl, rfl, trivial⟩) (fun t h => by injection h with h; subst h; exact tl hn rfl) ?_
 | refine op_callP 3 (hS) rfl (by simp [AV.onlys, AV.only]) (by simp [AV.only, AV.onlys]) rfl rfl rfl (mO_free _) (mO_free _) rfl (by first | exact trivial | exact ⟨rfl, trivial⟩ | exact ⟨rfl, rfl, trivial⟩ | exact ⟨rfl, rfl, rfl, trivial⟩ | exact ⟨rfl, rfl, rfl, rfl, trivial⟩) (fun t h => by injection h with h; subst h; exact tl hn rfl) ?_
 | refine RunsL.step tabOk hn rfl ?_
 | refine RunsL.nil ?_
 | refine Runs.toRegion 30 rfl ?_
 | ((first | refine RunsL.pe hn rfl rfl rfl ?_ | refine RunsD.pe rfl rfl ?_); first
 | refine ⟨_, pu_nilCheckP rfl, ?_⟩)
 | (refine Runs.ctls 30 rfl ?_; first | refine Runs.cond_t rfl ?_ | refine Runs.cond_f rfl ?_ | ((first | refine Runs.cond_yes rfl ?_ ?_ | refine Runs.cond_nno rfl ?_ ?_); · first | omega | rfl | assumption | (simp only [List.length_map]; omega)) | ((first | refine Runs.cond_no rfl ?_ ?_ | refine Runs.cond_nyes rfl ?_ ?_); · first | omega | rfl | assumption | (simp only [List.length_map]; omega)) | refine Runs.cond_dec rfl (fun h => ?_) (fun h => ?_) | refine Runs.cond_ndec rfl (fun h => ?_) (fun h => ?_) | refine Runs.cond_nb rfl (fun h => ?_) (fun h => ?_) | refine Runs.cond_b rfl (fun h => ?_) (fun h => ?_) | refine Runs.ret (ends_ro hm rfl rfl ?_) | exact Runs.ret (ends_cellR hm rfl rfl rfl (Nat.le_of_ble_eq_true rfl) rfl rfl))
 | refine op_box rfl (tl hn rfl) ?_
 | refine op_storeF rfl rfl rfl rfl (Nat.le_of_ble_eq_true rfl) ?_
 | refine op_alloc (tl hn rfl) ?_
 | refine op_storeN rfl rfl rfl rfl (Nat.le_of_ble_eq_true rfl) ?_
 | refine RunsD.step tabOk hn rfl rfl ?_
 | refine RunsD.nil ?_
 | refine Runs.toDraw 30 mixed hn rfl (by kernel_rfl) rfl ?_
 | ((first | refine RunsL.pe hn rfl rfl rfl ?_ | refine RunsD.pe rfl rfl ?_); first
 | refine ⟨_, pu_add rfl rfl (by omega), ?_⟩
 | refine ⟨_, pu_indexAddr_map rfl rfl (by omega) (by assumption), ?_⟩
 | refine ⟨_, pu_sub rfl rfl (by omega), ?_⟩
 | refine ⟨_, pu_pick_b rfl rfl rfl, ?_⟩
 | refine ⟨_, pu_mul rfl rfl (by omega), ?_⟩
 | refine ⟨_, pu_build rfl rfl rfl rfl rfl rfl, ?_⟩))
      all_goals first | (exfalso; omega) | skip
      all_goals refine Runs.ctls 30 rfl ?_
      all_goals exact mO_end (t := 0) (more := [⟨74, 0, (insR i).map .ro⟩]) rfl rfl rfl
    · have hS := l17Stack_no m i hs
      have e17 : i.op = 17 → mPerf m i = { m with state := 1 } := fun h => by simp [mPerf, h]
      have e12 : i.op = 12 → mPerf m i = mFail m i.a := fun h => by simp [mPerf, h]
      have e5 : i.op = 5 → mPerf m i = (if i.a < m.register then mFail m 6 else mNext m) := fun h => by simp [mPerf, h]
      have e11 : i.op = 11 → mPerf m i = (if m.register = i.a then { m with pc := i.b } else mNext m) := fun h => by simp [mPerf, h]
      have eno : ¬ i.op = 17 → ¬ i.op = 12 → ¬ i.op = 5 → ¬ i.op = 11 → mPerf m i = m := fun h1 h2 h3 h4 => by
        unfold mPerf
        rw [if_neg (by omega), if_neg (by omega), if_neg (by omega), if_neg (by omega), if_neg (by omega), if_neg (by omega), if_neg (by omega), if_neg (by omega), if_neg (by omega), if_neg (by omega), if_neg (by omega), if_neg (by omega), if_neg (by omega), if_neg (by omega), if_neg (by omega)]
      repeat' (first
 | refine op_callP 3 (hR) rfl (by simp [AV.onlys, AV.only]) (by simp [AV.only, AV.onlys]) rfl rfl rfl (mO_free _) (mO_free _) rfl (by first | exact trivial | exact ⟨rfl, trivial⟩ | exact ⟨rfl, rfl, trivial⟩ | exact ⟨rfl, rfl, rfl, trivial⟩ | exact ⟨rfl, rfl, rfl, rfl, trivial⟩) (fun t h => by injection h with h; subst h; exact tl hn rfl) ?_
 | refine op_callP 3 (l17Fail_am m i.a) rfl (by simp [AV.onlys, AV.only]) (by simp [AV.only, AV.onlys]) rfl rfl rfl (mO_free _) (mO_free _) rfl (by first | exact trivial | exact ⟨rfl, trivial⟩ | exact ⟨rfl, rfl, trivial⟩ | exact ⟨rfl, rfl, rfl, trivial⟩ | exact ⟨rfl, rfl, rfl, rfl, trivial⟩) (fun t h => by injection h with h; subst h; exact tl hn rfl) ?_
 | refine op_callP 3 (l17Fail_am m 6) rfl (by simp [AV.onlys, AV.only]) (by simp [AV.only, AV.onlys]) rfl rfl rfl (mO_free _) (mO_free _) rfl (by first | exact trivial | exact ⟨rfl, trivial⟩ | exact ⟨rfl, rfl, trivial⟩ | exact ⟨rfl, rfl, rfl, trivial⟩ | exact ⟨rfl, rfl, rfl, rfl, trivial⟩) (fun t h => by injection h with h; subst h; exact tl hn rfl) ?_
 | refine op_callP 3 (hS) rfl (by simp [AV.onlys, AV.only]) (by simp [AV.only, AV.onlys]) rfl rfl rfl (mO_free _) (mO_free _) rfl (by first | exact trivial | exact ⟨rfl, trivial⟩ | exact ⟨rfl, rfl, trivial⟩ | exact ⟨rfl, rfl, rfl, trivial⟩ | exact ⟨rfl, rfl, rfl, rfl, trivial⟩) (fun t h => by injection h with h; subst h; exact tl hn rfl) ?_
 | refine RunsL.step tabOk hn rfl ?_
 | refine RunsL.nil ?_
 | refine Runs.toRegion 30 rfl ?_
 | ((first | refine RunsL.pe hn rfl rfl rfl ?_ | refine RunsD.pe rfl rfl ?_); first
 | refine ⟨_, pu_nilCheckP rfl, ?_⟩
 | refine ⟨_, pu_addW rfl rfl, ?_⟩)
 | (refine Runs.ctls 30 rfl ?_; first | refine Runs.cond_t rfl ?_ | refine Runs.cond_f rfl ?_ | ((first | refine Runs.cond_yes rfl ?_ ?_ | refine Runs.cond_nno rfl ?_ ?_); · first | omega | rfl | assumption | (simp only [List.length_map]; omega)) | ((first | refine Runs.cond_no rfl ?_ ?_ | refine Runs.cond_nyes rfl ?_ ?_); · first | omega | rfl | assumption | (simp only [List.length_map]; omega)) | refine Runs.cond_dec rfl (fun h => ?_) (fun h => ?_) | refine Runs.cond_ndec rfl (fun h => ?_) (fun h => ?_) | refine Runs.cond_nb rfl (fun h => ?_) (fun h => ?_) | refine Runs.cond_b rfl (fun h => ?_) (fun h => ?_) | refine Runs.ret (ends_ro hm rfl rfl ?_) | exact Runs.ret (ends_cellR hm rfl rfl rfl (Nat.le_of_ble_eq_true rfl) rfl rfl))
 | refine op_box rfl (tl hn rfl) ?_
 | refine op_storeF rfl rfl rfl rfl (Nat.le_of_ble_eq_true rfl) ?_
 | refine op_alloc (tl hn rfl) ?_
 | refine op_storeN rfl rfl rfl rfl (Nat.le_of_ble_eq_true rfl) ?_
 | refine RunsD.step tabOk hn rfl rfl ?_
 | refine RunsD.nil ?_
 | refine Runs.toDraw 30 mixed hn rfl (by kernel_rfl) rfl ?_
 | ((first | refine RunsL.pe hn rfl rfl rfl ?_ | refine RunsD.pe rfl rfl ?_); first
 | refine ⟨_, pu_add rfl rfl (by omega), ?_⟩
 | refine ⟨_, pu_indexAddr_map rfl rfl (by omega) (by assumption), ?_⟩
 | refine ⟨_, pu_sub rfl rfl (by omega), ?_⟩
 | refine ⟨_, pu_pick_b rfl rfl rfl, ?_⟩
 | refine ⟨_, pu_mul rfl rfl (by omega), ?_⟩
 | refine ⟨_, pu_build rfl rfl rfl rfl rfl rfl, ?_⟩))
      all_goals refine Runs.ctls 30 rfl ?_
      all_goals first
        | refine mO_end (t := 0) (more := [⟨74, 0, (insR i).map .ro⟩]) rfl ?_ rfl
        | refine mO_ret (t := 0) (more := [⟨74, 0, (insR i).map .ro⟩]) rfl ?_ rfl
      all_goals first
        | (rw [e17 (by assumption)]; first | done | rfl)
        | (rw [e12 (by assumption)]; first | done | rfl)
        | (rw [e5 (by assumption), if_pos (by omega)]; first | done | rfl)
        | (rw [e5 (by assumption), if_neg (by omega)]; first | done | rfl)
        | (rw [e11 (by assumption), if_pos (by assumption)]; first | done | rfl)
        | (rw [e11 (by assumption), if_neg (by assumption)]; first | done | rfl)
        | (rw [eno (by assumption) (by assumption) (by assumption) (by assumption)]; first | done | rfl)
end Go.Proofs.Ytkhnijggbfoimaa
/- The machine, on the reference's side: it advances. -/
namespace Go.Proofs.Ytkhnijggbfoimaa
set_option linter.unusedSimpArgs false
set_option linter.unusedVariables false
open Go.RowKit
open AV (Mem Keeps)
set_option maxRecDepth 100000
set_option maxHeartbeats 16000000 in
theorem l17Advance_am (p : Prg) (m : Mch) (hm : MLen m) (hc : p.code.length ≤ 4194304) : AM Try.prog 36 (mO m) [0] [.ro (prgR p), .obj 0 0] (mO (mRes p 100001 m)) (.tup []) := by
  refine am_enter Try.func36 rfl _ Try.ntmps36 (by simp) (by simp) fun C gs hn => ?_
  have hlc : (p.code.map insR).length = p.code.length := List.length_map ..
  obtain ⟨N, hN, hA⟩ : ∃ N : Nat, N = 100001 ∧ mRes p 100001 m = mRes p N m := ⟨_, rfl, rfl⟩
  rw [hA]
  clear hA
  repeat' (first
 | refine RunsL.step tabOk hn rfl ?_
 | refine RunsL.nil ?_
 | refine Runs.toRegion 30 rfl ?_
 | ((first | refine RunsL.pe hn rfl rfl rfl ?_ | refine RunsD.pe rfl rfl ?_); first
 | refine ⟨_, pu_nilCheckP rfl, ?_⟩)
 | (refine Runs.ctls 30 rfl ?_; first | refine Runs.cond_t rfl ?_ | refine Runs.cond_f rfl ?_ | ((first | refine Runs.cond_yes rfl ?_ ?_ | refine Runs.cond_nno rfl ?_ ?_); · first | omega | rfl | assumption | (simp only [List.length_map]; omega)) | ((first | refine Runs.cond_no rfl ?_ ?_ | refine Runs.cond_nyes rfl ?_ ?_); · first | omega | rfl | assumption | (simp only [List.length_map]; omega)) | refine Runs.cond_dec rfl (fun h => ?_) (fun h => ?_) | refine Runs.cond_ndec rfl (fun h => ?_) (fun h => ?_) | refine Runs.cond_nb rfl (fun h => ?_) (fun h => ?_) | refine Runs.cond_b rfl (fun h => ?_) (fun h => ?_) | refine Runs.ret (ends_ro hm rfl rfl ?_) | exact Runs.ret (ends_cellR hm rfl rfl rfl (Nat.le_of_ble_eq_true rfl) rfl rfl))
 | refine op_box rfl (tl hn rfl) ?_
 | refine op_storeF rfl rfl rfl rfl (Nat.le_of_ble_eq_true rfl) ?_
 | refine op_alloc (tl hn rfl) ?_
 | refine op_storeN rfl rfl rfl rfl (Nat.le_of_ble_eq_true rfl) ?_
 | refine RunsD.step tabOk hn rfl rfl ?_
 | refine RunsD.nil ?_
 | refine Runs.toDraw 30 mixed hn rfl (by kernel_rfl) rfl ?_
 | ((first | refine RunsL.pe hn rfl rfl rfl ?_ | refine RunsD.pe rfl rfl ?_); first
 | refine ⟨_, pu_add rfl rfl (by omega), ?_⟩
 | refine ⟨_, pu_indexAddr_map rfl rfl (by omega) (by assumption), ?_⟩
 | refine ⟨_, pu_sub rfl rfl (by omega), ?_⟩
 | refine ⟨_, pu_pick_b rfl rfl rfl, ?_⟩
 | refine ⟨_, pu_mul rfl rfl (by omega), ?_⟩
 | refine ⟨_, pu_build rfl rfl rfl rfl rfl rfl, ?_⟩)
 | ((first | refine RunsL.guard_dec rfl rfl rfl ?_ ?_ | refine RunsL.guard_ndec rfl rfl rfl ?_ ?_ | refine RunsL.guard_nb rfl rfl rfl ?_ ?_ | refine RunsL.guard_b rfl rfl rfl ?_ ?_ | refine RunsD.guard_dec rfl rfl rfl ?_ ?_ | refine RunsD.guard_ndec rfl rfl rfl ?_ ?_ | refine RunsD.guard_nb rfl rfl rfl ?_ ?_ | refine RunsD.guard_b rfl rfl rfl ?_ ?_) <;> intro h <;> try (exfalso; first | omega | contradiction | (simp only [List.length_map] at h; omega))))
  refine Runs.loopN 30 rfl (fun j => [(1, .pin 0 0 (gs 0)), (2, .obj 3 0), (4, .int (j : Int))]) (fun j => mO (mIt p m j) ++ [⟨34, 0, [.ro (inssR p.code), .ro (intsR p.entries)]⟩]) (fun j => mRes p N m = mRes p (N - j) (mIt p m j)) N 0 (Nat.zero_le _) (by rw [Nat.sub_zero]; rfl) ⟨rfl, rfl, rfl, trivial⟩ rfl fun j hj hQ next => ?_
  have hL := mIt_len (p := p) hm j
  have hstep := @mRes_it p m N j
  have hstop := mRes_stop hQ
  have hout := mRes_out hQ
  have hnx : mIt p m (j + 1) = mPerf (mIt p m j) (mAt p (mIt p m j)) := rfl
  generalize hq : mIt p m j = q at hQ hL hstep hstop hout hnx ⊢
  clear hq
  by_cases hr : MRun q
  · obtain ⟨hr1, hr2⟩ := id hr
    have hin : InR q.pc 0 ((p.code.length : Int) - 1) ↔ Idx p q.pc := by unfold InR Idx; omega
    by_cases hi : Idx p q.pc
    · obtain ⟨x, hx⟩ : ∃ x, p.code[q.pc.toNat]? = some x := ⟨_, List.getElem?_eq_getElem (by unfold Idx at hi; omega)⟩
      have hxa : mAt p q = x := by unfold mAt; rw [hx]; rfl
      have hi' := hi
      unfold Idx at hi'
      by_cases hlt : j < N
      · repeat' (first
 | refine Runs.toDrawT (id := 6) 30 [] [0, 1, 2, 3, 4, 5, 6, 7, 8] 9 [] mixed hn rfl (by kernel_rfl) rfl .nil (by decide) (by decide) (by decide) ?_
 | refine op_callP 3 (l17Step_am q x hL) rfl (by simp [AV.onlys, AV.only]) (by simp [AV.only, AV.onlys]) rfl rfl rfl (mO_free _) (mO_free _) rfl (by first | exact trivial | exact ⟨rfl, trivial⟩ | exact ⟨rfl, rfl, trivial⟩ | exact ⟨rfl, rfl, rfl, trivial⟩ | exact ⟨rfl, rfl, rfl, rfl, trivial⟩) (fun t h => by injection h with h; subst h; exact tl hn rfl) ?_
 | refine op_callP 3 (l17Fail_am q 8) rfl (by simp [AV.onlys, AV.only]) (by simp [AV.only, AV.onlys]) rfl rfl rfl (mO_free _) (mO_free _) rfl (by first | exact trivial | exact ⟨rfl, trivial⟩ | exact ⟨rfl, rfl, trivial⟩ | exact ⟨rfl, rfl, rfl, trivial⟩ | exact ⟨rfl, rfl, rfl, rfl, trivial⟩) (fun t h => by injection h with h; subst h; exact tl hn rfl) ?_
 | refine RunsT.nil ?_
 | refine RunsT.step tabOk rfl rfl (fun _ => rfl) (by decide) ?_
 | refine RunsT.pur (fun _ => pu_nilCheckP rfl) (by decide) rfl rfl ?_
 | refine RunsT.pur (fun _ => pu_callR (l1In_ac _ _ _) rfl) (by decide) rfl rfl ?_
 | refine RunsT.pur (fun _ => pu_sub rfl rfl (by omega)) (by decide) rfl rfl ?_
 | refine RunsT.pur (fun _ => pu_len_seqN p.code.length rfl hlc) (by decide) rfl rfl ?_
 | refine RunsT.pur (fun _ => pu_add rfl rfl (by omega)) (by decide) rfl rfl ?_
 | refine RunsT.pur (fun _ => pu_indexAddr_map rfl rfl (by omega) (by assumption)) (by decide) rfl rfl ?_
 | refine RunsT.alloc (p := 0) rfl inferInstance ?_
 | refine RunsT.alloc (p := 1) rfl inferInstance ?_
 | refine RunsL.step tabOk hn rfl ?_
 | refine RunsL.nil ?_
 | refine Runs.toRegion 30 rfl ?_
 | ((first | refine RunsL.pe hn rfl rfl rfl ?_ | refine RunsD.pe rfl rfl ?_); first
 | refine ⟨_, pu_nilCheckP rfl, ?_⟩
 | refine ⟨_, pu_callR (l1In_ac _ _ _) rfl, ?_⟩
 | refine ⟨_, pu_sub rfl rfl (by omega), ?_⟩
 | refine ⟨_, pu_len_seqN p.code.length rfl hlc, ?_⟩)
 | (refine Runs.ctls 30 rfl ?_; first | refine Runs.cond_t rfl ?_ | refine Runs.cond_f rfl ?_ | ((first | refine Runs.cond_yes rfl ?_ ?_ | refine Runs.cond_nno rfl ?_ ?_); · first | omega | rfl | assumption | (simp only [List.length_map]; omega)) | ((first | refine Runs.cond_no rfl ?_ ?_ | refine Runs.cond_nyes rfl ?_ ?_); · first | omega | rfl | assumption | (simp only [List.length_map]; omega)) | refine Runs.cond_dec rfl (fun h => ?_) (fun h => ?_) | refine Runs.cond_ndec rfl (fun h => ?_) (fun h => ?_) | refine Runs.cond_nb rfl (fun h => ?_) (fun h => ?_) | refine Runs.cond_b rfl (fun h => ?_) (fun h => ?_) | refine Runs.ret (ends_ro hm rfl rfl ?_) | exact Runs.ret (ends_cellR hm rfl rfl rfl (Nat.le_of_ble_eq_true rfl) rfl rfl))
 | refine op_box rfl (tl hn rfl) ?_
 | refine op_storeF rfl rfl rfl rfl (Nat.le_of_ble_eq_true rfl) ?_
 | refine op_alloc (tl hn rfl) ?_
 | refine op_storeN rfl rfl rfl rfl (Nat.le_of_ble_eq_true rfl) ?_
 | refine RunsD.step tabOk hn rfl rfl ?_
 | refine RunsD.nil ?_
 | refine Runs.toDraw 30 mixed hn rfl (by kernel_rfl) rfl ?_
 | ((first | refine RunsL.pe hn rfl rfl rfl ?_ | refine RunsD.pe rfl rfl ?_); first
 | refine ⟨_, pu_add rfl rfl (by omega), ?_⟩
 | refine ⟨_, pu_indexAddr_map rfl rfl (by omega) (by assumption), ?_⟩
 | refine ⟨_, pu_sub rfl rfl (by omega), ?_⟩
 | refine ⟨_, pu_pick_b rfl rfl rfl, ?_⟩
 | refine ⟨_, pu_mul rfl rfl (by omega), ?_⟩
 | refine ⟨_, pu_build rfl rfl rfl rfl rfl rfl, ?_⟩)
 | ((first | refine RunsL.guard_dec rfl rfl rfl ?_ ?_ | refine RunsL.guard_ndec rfl rfl rfl ?_ ?_ | refine RunsL.guard_nb rfl rfl rfl ?_ ?_ | refine RunsL.guard_b rfl rfl rfl ?_ ?_ | refine RunsD.guard_dec rfl rfl rfl ?_ ?_ | refine RunsD.guard_ndec rfl rfl rfl ?_ ?_ | refine RunsD.guard_nb rfl rfl rfl ?_ ?_ | refine RunsD.guard_b rfl rfl rfl ?_ ?_) <;> intro h <;> try (exfalso; first | omega | contradiction | (simp only [List.length_map] at h; omega))))
        all_goals first
          | (exfalso; first | omega | (unfold InR at *; omega) | simp_all; done)
          | (refine next _ _ ⟨rfl, rfl, rfl, trivial⟩ hlt (hstep hlt hQ hr hi) ?_
             rw [hnx, hxa]
             rfl)
      · repeat' (first
 | refine op_callP 3 (l17Fail_am q 8) rfl (by simp [AV.onlys, AV.only]) (by simp [AV.only, AV.onlys]) rfl rfl rfl (mO_free _) (mO_free _) rfl (by first | exact trivial | exact ⟨rfl, trivial⟩ | exact ⟨rfl, rfl, trivial⟩ | exact ⟨rfl, rfl, rfl, trivial⟩ | exact ⟨rfl, rfl, rfl, rfl, trivial⟩) (fun t h => by injection h with h; subst h; exact tl hn rfl) ?_
 | refine RunsL.step tabOk hn rfl ?_
 | refine RunsL.nil ?_
 | refine Runs.toRegion 30 rfl ?_
 | ((first | refine RunsL.pe hn rfl rfl rfl ?_ | refine RunsD.pe rfl rfl ?_); first
 | refine ⟨_, pu_nilCheckP rfl, ?_⟩
 | refine ⟨_, pu_callR (l1In_ac _ _ _) rfl, ?_⟩
 | refine ⟨_, pu_sub rfl rfl (by omega), ?_⟩
 | refine ⟨_, pu_len_seqN p.code.length rfl hlc, ?_⟩)
 | (refine Runs.ctls 30 rfl ?_; first | refine Runs.cond_t rfl ?_ | refine Runs.cond_f rfl ?_ | ((first | refine Runs.cond_yes rfl ?_ ?_ | refine Runs.cond_nno rfl ?_ ?_); · first | omega | rfl | assumption | (simp only [List.length_map]; omega)) | ((first | refine Runs.cond_no rfl ?_ ?_ | refine Runs.cond_nyes rfl ?_ ?_); · first | omega | rfl | assumption | (simp only [List.length_map]; omega)) | refine Runs.cond_dec rfl (fun h => ?_) (fun h => ?_) | refine Runs.cond_ndec rfl (fun h => ?_) (fun h => ?_) | refine Runs.cond_nb rfl (fun h => ?_) (fun h => ?_) | refine Runs.cond_b rfl (fun h => ?_) (fun h => ?_) | refine Runs.ret (ends_ro hm rfl rfl ?_) | exact Runs.ret (ends_cellR hm rfl rfl rfl (Nat.le_of_ble_eq_true rfl) rfl rfl))
 | refine op_box rfl (tl hn rfl) ?_
 | refine op_storeF rfl rfl rfl rfl (Nat.le_of_ble_eq_true rfl) ?_
 | refine op_alloc (tl hn rfl) ?_
 | refine op_storeN rfl rfl rfl rfl (Nat.le_of_ble_eq_true rfl) ?_
 | refine RunsD.step tabOk hn rfl rfl ?_
 | refine RunsD.nil ?_
 | refine Runs.toDraw 30 mixed hn rfl (by kernel_rfl) rfl ?_
 | ((first | refine RunsL.pe hn rfl rfl rfl ?_ | refine RunsD.pe rfl rfl ?_); first
 | refine ⟨_, pu_add rfl rfl (by omega), ?_⟩
 | refine ⟨_, pu_indexAddr_map rfl rfl (by omega) (by assumption), ?_⟩
 | refine ⟨_, pu_sub rfl rfl (by omega), ?_⟩
 | refine ⟨_, pu_pick_b rfl rfl rfl, ?_⟩
 | refine ⟨_, pu_mul rfl rfl (by omega), ?_⟩
 | refine ⟨_, pu_build rfl rfl rfl rfl rfl rfl, ?_⟩)
 | ((first | refine RunsL.guard_dec rfl rfl rfl ?_ ?_ | refine RunsL.guard_ndec rfl rfl rfl ?_ ?_ | refine RunsL.guard_nb rfl rfl rfl ?_ ?_ | refine RunsL.guard_b rfl rfl rfl ?_ ?_ | refine RunsD.guard_dec rfl rfl rfl ?_ ?_ | refine RunsD.guard_ndec rfl rfl rfl ?_ ?_ | refine RunsD.guard_nb rfl rfl rfl ?_ ?_ | refine RunsD.guard_b rfl rfl rfl ?_ ?_) <;> intro h <;> try (exfalso; first | omega | contradiction | (simp only [List.length_map] at h; omega))))
        all_goals first
          | (exfalso; first | omega | (unfold InR at *; omega) | simp_all; done)
          | (refine Runs.ctls 30 rfl ?_
             refine mO_ret (t := 1) (more := [⟨34, 0, [.ro (inssR p.code), .ro (intsR p.entries)]⟩]) rfl ?_ rfl
             exact mO_app (hout hr (.inr (by omega))).symm)
    · repeat' (first
 | refine op_callP 3 (l17Fail_am q 8) rfl (by simp [AV.onlys, AV.only]) (by simp [AV.only, AV.onlys]) rfl rfl rfl (mO_free _) (mO_free _) rfl (by first | exact trivial | exact ⟨rfl, trivial⟩ | exact ⟨rfl, rfl, trivial⟩ | exact ⟨rfl, rfl, rfl, trivial⟩ | exact ⟨rfl, rfl, rfl, rfl, trivial⟩) (fun t h => by injection h with h; subst h; exact tl hn rfl) ?_
 | refine RunsL.step tabOk hn rfl ?_
 | refine RunsL.nil ?_
 | refine Runs.toRegion 30 rfl ?_
 | ((first | refine RunsL.pe hn rfl rfl rfl ?_ | refine RunsD.pe rfl rfl ?_); first
 | refine ⟨_, pu_nilCheckP rfl, ?_⟩
 | refine ⟨_, pu_callR (l1In_ac _ _ _) rfl, ?_⟩
 | refine ⟨_, pu_sub rfl rfl (by omega), ?_⟩
 | refine ⟨_, pu_len_seqN p.code.length rfl hlc, ?_⟩)
 | (refine Runs.ctls 30 rfl ?_; first | refine Runs.cond_t rfl ?_ | refine Runs.cond_f rfl ?_ | ((first | refine Runs.cond_yes rfl ?_ ?_ | refine Runs.cond_nno rfl ?_ ?_); · first | omega | rfl | assumption | (simp only [List.length_map]; omega)) | ((first | refine Runs.cond_no rfl ?_ ?_ | refine Runs.cond_nyes rfl ?_ ?_); · first | omega | rfl | assumption | (simp only [List.length_map]; omega)) | refine Runs.cond_dec rfl (fun h => ?_) (fun h => ?_) | refine Runs.cond_ndec rfl (fun h => ?_) (fun h => ?_) | refine Runs.cond_nb rfl (fun h => ?_) (fun h => ?_) | refine Runs.cond_b rfl (fun h => ?_) (fun h => ?_) | refine Runs.ret (ends_ro hm rfl rfl ?_) | exact Runs.ret (ends_cellR hm rfl rfl rfl (Nat.le_of_ble_eq_true rfl) rfl rfl))
 | refine op_box rfl (tl hn rfl) ?_
 | refine op_storeF rfl rfl rfl rfl (Nat.le_of_ble_eq_true rfl) ?_
 | refine op_alloc (tl hn rfl) ?_
 | refine op_storeN rfl rfl rfl rfl (Nat.le_of_ble_eq_true rfl) ?_
 | refine RunsD.step tabOk hn rfl rfl ?_
 | refine RunsD.nil ?_
 | refine Runs.toDraw 30 mixed hn rfl (by kernel_rfl) rfl ?_
 | ((first | refine RunsL.pe hn rfl rfl rfl ?_ | refine RunsD.pe rfl rfl ?_); first
 | refine ⟨_, pu_add rfl rfl (by omega), ?_⟩
 | refine ⟨_, pu_indexAddr_map rfl rfl (by omega) (by assumption), ?_⟩
 | refine ⟨_, pu_sub rfl rfl (by omega), ?_⟩
 | refine ⟨_, pu_pick_b rfl rfl rfl, ?_⟩
 | refine ⟨_, pu_mul rfl rfl (by omega), ?_⟩
 | refine ⟨_, pu_build rfl rfl rfl rfl rfl rfl, ?_⟩)
 | ((first | refine RunsL.guard_dec rfl rfl rfl ?_ ?_ | refine RunsL.guard_ndec rfl rfl rfl ?_ ?_ | refine RunsL.guard_nb rfl rfl rfl ?_ ?_ | refine RunsL.guard_b rfl rfl rfl ?_ ?_ | refine RunsD.guard_dec rfl rfl rfl ?_ ?_ | refine RunsD.guard_ndec rfl rfl rfl ?_ ?_ | refine RunsD.guard_nb rfl rfl rfl ?_ ?_ | refine RunsD.guard_b rfl rfl rfl ?_ ?_) <;> intro h <;> try (exfalso; first | omega | contradiction | (simp only [List.length_map] at h; omega))))
      all_goals first
        | (exfalso; first | omega | (unfold InR Idx at *; omega) | simp_all; done)
        | (refine Runs.ctls 30 rfl ?_
           refine mO_ret (t := 1) (more := [⟨34, 0, [.ro (inssR p.code), .ro (intsR p.entries)]⟩]) rfl ?_ rfl
           exact mO_app (hout hr (.inl hi)).symm)
  · have hst := hstop hr
    clear hstep hstop hout hQ hnx
    repeat' (first
 | refine op_callP 3 (l17Fail_am q 8) rfl (by simp [AV.onlys, AV.only]) (by simp [AV.only, AV.onlys]) rfl rfl rfl (mO_free _) (mO_free _) rfl (by first | exact trivial | exact ⟨rfl, trivial⟩ | exact ⟨rfl, rfl, trivial⟩ | exact ⟨rfl, rfl, rfl, trivial⟩ | exact ⟨rfl, rfl, rfl, rfl, trivial⟩) (fun t h => by injection h with h; subst h; exact tl hn rfl) ?_
 | refine RunsL.step tabOk hn rfl ?_
 | refine RunsL.nil ?_
 | refine Runs.toRegion 30 rfl ?_
 | ((first | refine RunsL.pe hn rfl rfl rfl ?_ | refine RunsD.pe rfl rfl ?_); first
 | refine ⟨_, pu_nilCheckP rfl, ?_⟩
 | refine ⟨_, pu_callR (l1In_ac _ _ _) rfl, ?_⟩)
 | (refine Runs.ctls 30 rfl ?_; first | refine Runs.cond_t rfl ?_ | refine Runs.cond_f rfl ?_ | ((first | refine Runs.cond_yes rfl ?_ ?_ | refine Runs.cond_nno rfl ?_ ?_); · first | omega | rfl | assumption | (simp only [List.length_map]; omega)) | ((first | refine Runs.cond_no rfl ?_ ?_ | refine Runs.cond_nyes rfl ?_ ?_); · first | omega | rfl | assumption | (simp only [List.length_map]; omega)) | refine Runs.cond_dec rfl (fun h => ?_) (fun h => ?_) | refine Runs.cond_ndec rfl (fun h => ?_) (fun h => ?_) | refine Runs.cond_nb rfl (fun h => ?_) (fun h => ?_) | refine Runs.cond_b rfl (fun h => ?_) (fun h => ?_) | refine Runs.ret (ends_ro hm rfl rfl ?_) | exact Runs.ret (ends_cellR hm rfl rfl rfl (Nat.le_of_ble_eq_true rfl) rfl rfl))
 | refine op_box rfl (tl hn rfl) ?_
 | refine op_storeF rfl rfl rfl rfl (Nat.le_of_ble_eq_true rfl) ?_
 | refine op_alloc (tl hn rfl) ?_
 | refine op_storeN rfl rfl rfl rfl (Nat.le_of_ble_eq_true rfl) ?_
 | refine RunsD.step tabOk hn rfl rfl ?_
 | refine RunsD.nil ?_
 | refine Runs.toDraw 30 mixed hn rfl (by kernel_rfl) rfl ?_
 | ((first | refine RunsL.pe hn rfl rfl rfl ?_ | refine RunsD.pe rfl rfl ?_); first
 | refine ⟨_, pu_add rfl rfl (by omega), ?_⟩
 | refine ⟨_, pu_indexAddr_map rfl rfl (by omega) (by assumption), ?_⟩
 | refine ⟨_, pu_sub rfl rfl (by omega), ?_⟩
 | refine ⟨_, pu_pick_b rfl rfl rfl, ?_⟩
 | refine ⟨_, pu_mul rfl rfl (by omega), ?_⟩
 | refine ⟨_, pu_build rfl rfl rfl rfl rfl rfl, ?_⟩)
 | ((first | refine RunsL.guard_dec rfl rfl rfl ?_ ?_ | refine RunsL.guard_ndec rfl rfl rfl ?_ ?_ | refine RunsL.guard_nb rfl rfl rfl ?_ ?_ | refine RunsL.guard_b rfl rfl rfl ?_ ?_ | refine RunsD.guard_dec rfl rfl rfl ?_ ?_ | refine RunsD.guard_ndec rfl rfl rfl ?_ ?_ | refine RunsD.guard_nb rfl rfl rfl ?_ ?_ | refine RunsD.guard_b rfl rfl rfl ?_ ?_) <;> intro h <;> try (exfalso; first | omega | contradiction | (simp only [List.length_map] at h; omega))))
    all_goals first
      | exact absurd ⟨by assumption, by assumption⟩ hr
      | (refine Runs.ctls 30 rfl ?_
         refine mO_end (t := 1) (more := [⟨34, 0, [.ro (inssR p.code), .ro (intsR p.entries)]⟩]) rfl ?_ rfl
         exact mO_app hst.symm)
end Go.Proofs.Ytkhnijggbfoimaa
/- The machine, on the reference's side: copies, a byte. -/
namespace Go.Proofs.Ytkhnijggbfoimaa
set_option linter.unusedSimpArgs false
set_option linter.unusedVariables false
open Go.RowKit
open AV (Mem Keeps)
set_option maxRecDepth 100000
theorem op_callMchG {P : Program} {C : Ctx} {ops : Array Oper} {rest : List Oper} {k : List Item} {R : Act → World → Prop} {env : Env} {σ : List Ob} {ty : TypeId} {pos : String} {after : Array Edge} {f : FuncId} {fn : Func} {xs : Array Operand} {ats : Array TypeId} {m m' : Mch} {args : List AV} {d : Option Nat} [hfn : FN P f fn] (i a b : Nat) (hf : AM P f (mO m) [0] args (mO m') (.tup [])) (ha : (xs.toList.map (ev env)).map unpin = AV.rens (rof [i, a, b]) args) (hcl : AV.onlys (fun i => i < 3) args)
    (hi : σ[i]? = some ⟨30, 0, mC m a b⟩) (h1 : σ[a]? = some (rowI m.stack)) (h2 : σ[b]? = some (rowI m.sums)) (hne : i ≠ a ∧ i ≠ b ∧ a ≠ b) (hfree : FreeR [i, a, b] [0] 0 σ) (ht : ∀ t, d = some t → t < C.n)
    (hk : RunsL P C ops rest k R ⟨putEnv d (.tup []) (ridEnv (lentB [i, a, b]) (stB' [i, a, b] [0]) env), ((σ.set i ⟨30, 0, mC m' a b⟩).set a (rowI m'.stack)).set b (rowI m'.sums)⟩) :
    RunsL P C ops (⟨d, .call { callee := .value (.func f), args := xs, argTypes := ats }, ty, pos, after, none⟩ :: rest) k R ⟨env, σ⟩ := by
  have il := (List.getElem?_eq_some_iff.1 hi).1
  have al := (List.getElem?_eq_some_iff.1 h1).1
  have bl := (List.getElem?_eq_some_iff.1 h2).1
  have eM : ∀ m : Mch, (⟨30, 0, mC m 1 2⟩ : Ob).ren (rof [i, a, b]) = ⟨30, 0, mC m a b⟩ := fun m => rfl
  have eR : ∀ l : List Int, (rowI l).ren (rof [i, a, b]) = rowI l := fun l => by unfold rowI Ob.ren; simp only [rens_ros]
  have eO : ∀ m : Mch, mO m = [⟨30, 0, mC m 1 2⟩, rowI m.stack, rowI m.sums] := fun m => rfl
  refine op_callM (σ0 := mO m) (σ1 := mO m') [i, a, b] hf ha hcl ?_ ht ?_
  · refine ⟨rfl, rfl, ?_, ?_, ?_, mO_free m, rfl, hfree⟩
    · simp only [List.all_cons, List.all_nil, Bool.and_eq_true]
      exact ⟨Nat.ble_eq_true_of_le il, Nat.ble_eq_true_of_le al, Nat.ble_eq_true_of_le bl, trivial⟩
    · simp [hne]
    · rw [eO]
      simp only [LentAt]
      refine ⟨?_, ?_, ?_, trivial⟩
      · rw [eM]; exact hi
      · rw [eR]; exact h1
      · rw [eR]; exact h2
  · rw [eO m']
    simp only [putObs, eM, eR]
    exact hk
set_option maxHeartbeats 4000000 in
theorem l17Copy_ac (m : Mch) (hm : MLen m) : AC Try.prog 32 [mchR m] fun rr => rr = mchRR m := by
  have h1 := hm.1
  have h2 := hm.2
  refine ac_enter Try.func32 rfl _ Try.ntmps32 (by simp) fun C hn hm => ?_
  repeat' (first
 | refine RunsL.step tabOk hn rfl ?_
 | refine RunsL.nil ?_
 | refine Runs.toRegion 30 rfl ?_
 | refine op_build0 (tl hn rfl) ?_
 | refine op_appendA rfl rfl rfl rfl rfl rfl (by repeat' (first | exact trivial | exact onlysr _ _ | exact (by decide : (3 : Nat) ≠ 4) | refine And.intro ?_ ?_)) (by simp; omega) rfl (tl hn rfl) ?_
 | (refine Runs.ctls 30 rfl ?_; first | refine Runs.cond_t rfl ?_ | refine Runs.cond_f rfl ?_ | ((first | refine Runs.cond_yes rfl ?_ ?_ | refine Runs.cond_nno rfl ?_ ?_); · first | omega | rfl | assumption | (simp only [List.length_map]; omega)) | ((first | refine Runs.cond_no rfl ?_ ?_ | refine Runs.cond_nyes rfl ?_ ?_); · first | omega | rfl | assumption | (simp only [List.length_map]; omega)) | refine Runs.cond_dec rfl (fun h => ?_) (fun h => ?_) | refine Runs.cond_ndec rfl (fun h => ?_) (fun h => ?_) | refine Runs.cond_nb rfl (fun h => ?_) (fun h => ?_) | refine Runs.cond_b rfl (fun h => ?_) (fun h => ?_) | refine Runs.ret (ends_ro hm rfl rfl ?_) | exact Runs.ret (ends_cellR hm rfl rfl rfl (Nat.le_of_ble_eq_true rfl) rfl rfl))
 | refine op_box rfl (tl hn rfl) ?_
 | refine op_storeF rfl rfl rfl rfl (Nat.le_of_ble_eq_true rfl) ?_
 | refine op_alloc (tl hn rfl) ?_
 | refine op_storeN rfl rfl rfl rfl (Nat.le_of_ble_eq_true rfl) ?_
 | (refine RunsL.pe hn rfl rfl rfl ?_; first
 | refine ⟨_, pu_add rfl rfl (by omega), ?_⟩
 | refine ⟨_, pu_indexAddr_map rfl rfl (by omega) (by assumption), ?_⟩
 | refine ⟨_, pu_sub rfl rfl (by omega), ?_⟩
 | refine ⟨_, pu_pick_b rfl rfl rfl, ?_⟩
 | refine ⟨_, pu_mul rfl rfl (by omega), ?_⟩
 | refine ⟨_, pu_build rfl rfl rfl rfl rfl rfl, ?_⟩))
  refine Runs.ctls 30 rfl ?_
  exact Runs.ret (ends_mch (i := 1) (a := 3) (b := 4) hm rfl rfl rfl (congrArg some (rowI_flat m.stack)) (congrArg some (rowI_flat m.sums)) (by decide) rfl)
set_option maxHeartbeats 8000000 in
theorem spec_AdvanceMachine (p : Prg) (m : Mch) (hB : PrgB p) (hm0 : MLen m) : AC Try.prog 10 [prgR p, mchR m] fun rr => rr = mchRR (mAdv p (fitB p) m) := by
  have hF : ACv Try.prog 33 [prgR p] (.bool (fitB p)) := spec_FitsMachine p hB
  have hc := hB.code
  have hlc : (p.code.map insR).length = p.code.length := List.length_map ..
  have hin : InR m.pc 0 ((p.code.length : Int) - 1) ↔ Idx p m.pc := by unfold InR Idx; omega
  generalize fitB p = f at hF ⊢
  refine ac_enter Try.func10 rfl _ Try.ntmps10 (by simp) fun C hn hm => ?_
  by_cases hs : m.state = 0
  · by_cases hf : f = false ∨ (m.started = true ∧ ¬ Idx p m.pc)
    · have hA := l17Fail_am m 8
      rw [show mAdv p f m = mFail m 8 from by unfold mAdv; rw [if_neg (by simp [hs]), if_pos hf]]
      repeat' (first
 | refine op_callOR (l17Copy_ac m hm0) rfl (tl hn rfl) ?_
 | refine op_callMchG 5 3 4 (hA) rfl (by simp [AV.onlys, AV.only]) rfl rfl rfl (by decide) (by repeat' (first | exact trivial | exact .inl rfl | exact .inr rfl | exact .inr (rids_ros _ _ _) | refine And.intro ?_ ?_)) (fun t h => by injection h with h; subst h; exact tl hn rfl) ?_
 | refine RunsL.step tabOk hn rfl ?_
 | refine RunsL.nil ?_
 | refine Runs.toRegion 30 rfl ?_
 | (refine RunsL.pe hn rfl rfl rfl ?_; first
 | refine ⟨_, pu_callR hF rfl, ?_⟩
 | refine ⟨_, pu_callR (l1In_ac _ _ _) rfl, ?_⟩
 | refine ⟨_, pu_sub rfl rfl (by omega), ?_⟩
 | refine ⟨_, pu_len_seqN p.code.length rfl hlc, ?_⟩)
 | (refine Runs.ctls 30 rfl ?_; first | refine Runs.cond_t rfl ?_ | refine Runs.cond_f rfl ?_ | ((first | refine Runs.cond_yes rfl ?_ ?_ | refine Runs.cond_nno rfl ?_ ?_); · first | omega | rfl | assumption | (simp only [List.length_map]; omega)) | ((first | refine Runs.cond_no rfl ?_ ?_ | refine Runs.cond_nyes rfl ?_ ?_); · first | omega | rfl | assumption | (simp only [List.length_map]; omega)) | refine Runs.cond_dec rfl (fun h => ?_) (fun h => ?_) | refine Runs.cond_ndec rfl (fun h => ?_) (fun h => ?_) | refine Runs.cond_nb rfl (fun h => ?_) (fun h => ?_) | refine Runs.cond_b rfl (fun h => ?_) (fun h => ?_) | refine Runs.ret (ends_ro hm rfl rfl ?_) | exact Runs.ret (ends_cellR hm rfl rfl rfl (Nat.le_of_ble_eq_true rfl) rfl rfl))
 | refine op_box rfl (tl hn rfl) ?_
 | refine op_storeF rfl rfl rfl rfl (Nat.le_of_ble_eq_true rfl) ?_
 | refine op_alloc (tl hn rfl) ?_
 | refine op_storeN rfl rfl rfl rfl (Nat.le_of_ble_eq_true rfl) ?_
 | (refine RunsL.pe hn rfl rfl rfl ?_; first
 | refine ⟨_, pu_add rfl rfl (by omega), ?_⟩
 | refine ⟨_, pu_indexAddr_map rfl rfl (by omega) (by assumption), ?_⟩
 | refine ⟨_, pu_sub rfl rfl (by omega), ?_⟩
 | refine ⟨_, pu_pick_b rfl rfl rfl, ?_⟩
 | refine ⟨_, pu_mul rfl rfl (by omega), ?_⟩
 | refine ⟨_, pu_build rfl rfl rfl rfl rfl rfl, ?_⟩)
 | ((first | refine RunsL.guard_dec rfl rfl rfl ?_ ?_ | refine RunsL.guard_ndec rfl rfl rfl ?_ ?_ | refine RunsL.guard_nb rfl rfl rfl ?_ ?_ | refine RunsL.guard_b rfl rfl rfl ?_ ?_) <;> intro h <;> try (exfalso; first | omega | contradiction | (simp only [List.length_map] at h; omega))))
      all_goals first
        | (refine Runs.ctls 30 rfl ?_
           exact Runs.ret (ends_mch (i := 2) (a := 3) (b := 4) hm rfl rfl rfl rfl rfl (by decide) rfl))
        | (exfalso; clear hF hA; simp_all; done)
        | (exfalso; clear hF hA; simp_all; omega)
    · have hA := l17Advance_am p m hm0 (by omega)
      rw [show mAdv p f m = mRes p 100001 m from by unfold mAdv; rw [if_neg (by simp [hs]), if_neg hf]]
      repeat' (first
 | refine op_callOR (l17Copy_ac m hm0) rfl (tl hn rfl) ?_
 | refine op_callMchG 5 3 4 (hA) rfl (by simp [AV.onlys, AV.only]) rfl rfl rfl (by decide) (by repeat' (first | exact trivial | exact .inl rfl | exact .inr rfl | exact .inr (rids_ros _ _ _) | refine And.intro ?_ ?_)) (fun t h => by injection h with h; subst h; exact tl hn rfl) ?_
 | refine RunsL.step tabOk hn rfl ?_
 | refine RunsL.nil ?_
 | refine Runs.toRegion 30 rfl ?_
 | (refine RunsL.pe hn rfl rfl rfl ?_; first
 | refine ⟨_, pu_callR hF rfl, ?_⟩
 | refine ⟨_, pu_callR (l1In_ac _ _ _) rfl, ?_⟩
 | refine ⟨_, pu_sub rfl rfl (by omega), ?_⟩
 | refine ⟨_, pu_len_seqN p.code.length rfl hlc, ?_⟩)
 | (refine Runs.ctls 30 rfl ?_; first | refine Runs.cond_t rfl ?_ | refine Runs.cond_f rfl ?_ | ((first | refine Runs.cond_yes rfl ?_ ?_ | refine Runs.cond_nno rfl ?_ ?_); · first | omega | rfl | assumption | (simp only [List.length_map]; omega)) | ((first | refine Runs.cond_no rfl ?_ ?_ | refine Runs.cond_nyes rfl ?_ ?_); · first | omega | rfl | assumption | (simp only [List.length_map]; omega)) | refine Runs.cond_dec rfl (fun h => ?_) (fun h => ?_) | refine Runs.cond_ndec rfl (fun h => ?_) (fun h => ?_) | refine Runs.cond_nb rfl (fun h => ?_) (fun h => ?_) | refine Runs.cond_b rfl (fun h => ?_) (fun h => ?_) | refine Runs.ret (ends_ro hm rfl rfl ?_) | exact Runs.ret (ends_cellR hm rfl rfl rfl (Nat.le_of_ble_eq_true rfl) rfl rfl))
 | refine op_box rfl (tl hn rfl) ?_
 | refine op_storeF rfl rfl rfl rfl (Nat.le_of_ble_eq_true rfl) ?_
 | refine op_alloc (tl hn rfl) ?_
 | refine op_storeN rfl rfl rfl rfl (Nat.le_of_ble_eq_true rfl) ?_
 | (refine RunsL.pe hn rfl rfl rfl ?_; first
 | refine ⟨_, pu_add rfl rfl (by omega), ?_⟩
 | refine ⟨_, pu_indexAddr_map rfl rfl (by omega) (by assumption), ?_⟩
 | refine ⟨_, pu_sub rfl rfl (by omega), ?_⟩
 | refine ⟨_, pu_pick_b rfl rfl rfl, ?_⟩
 | refine ⟨_, pu_mul rfl rfl (by omega), ?_⟩
 | refine ⟨_, pu_build rfl rfl rfl rfl rfl rfl, ?_⟩)
 | ((first | refine RunsL.guard_dec rfl rfl rfl ?_ ?_ | refine RunsL.guard_ndec rfl rfl rfl ?_ ?_ | refine RunsL.guard_nb rfl rfl rfl ?_ ?_ | refine RunsL.guard_b rfl rfl rfl ?_ ?_) <;> intro h <;> try (exfalso; first | omega | contradiction | (simp only [List.length_map] at h; omega))))
      all_goals first
        | (refine Runs.ctls 30 rfl ?_
           exact Runs.ret (ends_mch (i := 2) (a := 3) (b := 4) hm rfl rfl rfl rfl rfl (by decide) rfl))
        | (exfalso; clear hF hA; simp_all; done)
        | (exfalso; clear hF hA; simp_all; omega)
  · rw [show mAdv p f m = m from by unfold mAdv; rw [if_pos hs]]
    repeat' (first
 | refine op_callOR (l17Copy_ac m hm0) rfl (tl hn rfl) ?_
 | refine RunsL.step tabOk hn rfl ?_
 | refine RunsL.nil ?_
 | refine Runs.toRegion 30 rfl ?_
 | (refine RunsL.pe hn rfl rfl rfl ?_; first
 | refine ⟨_, pu_callR hF rfl, ?_⟩)
 | (refine Runs.ctls 30 rfl ?_; first | refine Runs.cond_t rfl ?_ | refine Runs.cond_f rfl ?_ | ((first | refine Runs.cond_yes rfl ?_ ?_ | refine Runs.cond_nno rfl ?_ ?_); · first | omega | rfl | assumption | (simp only [List.length_map]; omega)) | ((first | refine Runs.cond_no rfl ?_ ?_ | refine Runs.cond_nyes rfl ?_ ?_); · first | omega | rfl | assumption | (simp only [List.length_map]; omega)) | refine Runs.cond_dec rfl (fun h => ?_) (fun h => ?_) | refine Runs.cond_ndec rfl (fun h => ?_) (fun h => ?_) | refine Runs.cond_nb rfl (fun h => ?_) (fun h => ?_) | refine Runs.cond_b rfl (fun h => ?_) (fun h => ?_) | refine Runs.ret (ends_ro hm rfl rfl ?_) | exact Runs.ret (ends_cellR hm rfl rfl rfl (Nat.le_of_ble_eq_true rfl) rfl rfl))
 | refine op_box rfl (tl hn rfl) ?_
 | refine op_storeF rfl rfl rfl rfl (Nat.le_of_ble_eq_true rfl) ?_
 | refine op_alloc (tl hn rfl) ?_
 | refine op_storeN rfl rfl rfl rfl (Nat.le_of_ble_eq_true rfl) ?_
 | (refine RunsL.pe hn rfl rfl rfl ?_; first
 | refine ⟨_, pu_add rfl rfl (by omega), ?_⟩
 | refine ⟨_, pu_indexAddr_map rfl rfl (by omega) (by assumption), ?_⟩
 | refine ⟨_, pu_sub rfl rfl (by omega), ?_⟩
 | refine ⟨_, pu_pick_b rfl rfl rfl, ?_⟩
 | refine ⟨_, pu_mul rfl rfl (by omega), ?_⟩
 | refine ⟨_, pu_build rfl rfl rfl rfl rfl rfl, ?_⟩)
 | ((first | refine RunsL.guard_dec rfl rfl rfl ?_ ?_ | refine RunsL.guard_ndec rfl rfl rfl ?_ ?_ | refine RunsL.guard_nb rfl rfl rfl ?_ ?_ | refine RunsL.guard_b rfl rfl rfl ?_ ?_) <;> intro h <;> try (exfalso; first | omega | contradiction | (simp only [List.length_map] at h; omega))))
    refine Runs.ctls 30 rfl ?_
    exact Runs.ret (ends_mch (i := 2) (a := 3) (b := 4) hm rfl rfl rfl rfl rfl (by decide) rfl)
end Go.Proofs.Ytkhnijggbfoimaa
/- The machine, on the reference's side: it reads a byte. -/
namespace Go.Proofs.Ytkhnijggbfoimaa
set_option linter.unusedSimpArgs false
set_option linter.unusedVariables false
open Go.RowKit
open AV (Mem Keeps)
set_option maxRecDepth 100000
theorem mSkip_yes {m : Mch} (h : m.left = 0) : mSkip m = { m with started := false, pc := w64 (m.pc + 1) } := by unfold mSkip; rw [if_pos h]
theorem mSkip_no {m : Mch} (h : ¬ m.left = 0) : mSkip m = m := by unfold mSkip; rw [if_neg h]
set_option maxHeartbeats 16000000 in
theorem l17Read_am (m : Mch) (i : Ins) (b : Int) (h0 : m.state = 0) (hs : i.op = 1 → i.b = 1 → 0 ≤ i.a - m.left - 1 ∧ i.a - m.left - 1 ≤ 3 ∧ 0 ≤ i.a ∧ i.a ≤ 4) (hb : 0 ≤ b ∧ b ≤ 255) : AM Try.prog 62 (mO m) [0] [.obj 0 0, .ro (.agg (insR i)), .int b] (mO (mRead m i b)) (.tup []) := by
  refine am_enter Try.func62 rfl _ Try.ntmps62 (by simp) (by simp) fun C gs hn => ?_
  by_cases h1 : i.op = 1
  · rw [show mRead m i b = mSkip { m with register := if i.b = 1 then w64 (m.register + b * 2 ^ (8 * (i.a - m.left - 1)).toNat) else w64 (w64 (256 * m.register) + b) } from by unfold mRead; rw [if_pos h1]]
    by_cases hb1 : i.b = 1
    · obtain ⟨s1, s2, s3, s4⟩ := hs h1 hb1
      rw [if_pos hb1, show i.a - m.left - 1 = i.a - 1 - m.left by omega]
      repeat' (first
 | refine Runs.toDrawT (id := 5) 30 [] [0, 1, 2, 3, 4, 5, 6, 7, 8, 9, 10, 11, 12, 13, 14, 15, 16] 17 [] mixed hn rfl (by kernel_rfl) rfl .nil (by decide) (by decide) (by decide) ?_
 | refine RunsT.nil ?_
 | refine RunsT.step tabOk rfl rfl (fun _ => rfl) (by decide) ?_
 | refine RunsT.pur (fun _ => pu_nilCheckP rfl) (by decide) rfl rfl ?_
 | refine RunsT.pur (fun _ => pu_shl8 rfl rfl ⟨by omega, by omega⟩ hb) (by decide) rfl rfl ?_
 | refine RunsT.pur (fun _ => pu_sub (t := 27) rfl rfl (by omega)) (by decide) rfl rfl ?_
 | refine RunsT.pur (fun _ => pu_sub (t := 32) rfl rfl (by omega)) (by decide) rfl rfl ?_
 | refine RunsT.pur (fun _ => pu_mul rfl rfl (by omega)) (by decide) rfl rfl ?_
 | refine RunsT.pur (fun _ => pu_addW (t := 35) rfl rfl) (by decide) rfl rfl ?_
 | refine RunsT.pur (fun _ => pu_addW (t := 11) rfl rfl) (by decide) rfl rfl ?_
 | refine RunsT.pur (fun _ => pu_add rfl rfl (by omega)) (by decide) rfl rfl ?_
 | refine RunsT.pur (fun _ => pu_indexAddr_map rfl rfl (by omega) (by assumption)) (by decide) rfl rfl ?_
 | refine RunsT.alloc (p := 0) rfl inferInstance ?_
 | refine RunsT.alloc (p := 1) rfl inferInstance ?_
 | refine RunsL.step tabOk hn rfl ?_
 | refine RunsL.nil ?_
 | refine Runs.toRegion 30 rfl ?_
 | ((first | refine RunsL.pe hn rfl rfl rfl ?_ | refine RunsD.pe rfl rfl ?_); first
 | refine ⟨_, pu_nilCheckP rfl, ?_⟩
 | refine ⟨_, pu_shl8 rfl rfl ⟨by omega, by omega⟩ hb, ?_⟩
 | refine ⟨_, pu_sub (t := 27) rfl rfl (by omega), ?_⟩
 | refine ⟨_, pu_sub (t := 32) rfl rfl (by omega), ?_⟩
 | refine ⟨_, pu_mul rfl rfl (by omega), ?_⟩
 | refine ⟨_, pu_addW (t := 35) rfl rfl, ?_⟩
 | refine ⟨_, pu_addW (t := 11) rfl rfl, ?_⟩)
 | (refine Runs.ctls 30 rfl ?_; first | refine Runs.cond_t rfl ?_ | refine Runs.cond_f rfl ?_ | ((first | refine Runs.cond_yes rfl ?_ ?_ | refine Runs.cond_nno rfl ?_ ?_); · first | omega | rfl | assumption | (simp only [List.length_map]; omega)) | ((first | refine Runs.cond_no rfl ?_ ?_ | refine Runs.cond_nyes rfl ?_ ?_); · first | omega | rfl | assumption | (simp only [List.length_map]; omega)) | refine Runs.cond_dec rfl (fun h => ?_) (fun h => ?_) | refine Runs.cond_ndec rfl (fun h => ?_) (fun h => ?_) | refine Runs.cond_nb rfl (fun h => ?_) (fun h => ?_) | refine Runs.cond_b rfl (fun h => ?_) (fun h => ?_) | refine Runs.ret (ends_ro hm rfl rfl ?_) | exact Runs.ret (ends_cellR hm rfl rfl rfl (Nat.le_of_ble_eq_true rfl) rfl rfl))
 | refine op_box rfl (tl hn rfl) ?_
 | refine op_storeF rfl rfl rfl rfl (Nat.le_of_ble_eq_true rfl) ?_
 | refine op_alloc (tl hn rfl) ?_
 | refine op_storeN rfl rfl rfl rfl (Nat.le_of_ble_eq_true rfl) ?_
 | refine RunsD.step tabOk hn rfl rfl ?_
 | refine RunsD.nil ?_
 | refine Runs.toDraw 30 mixed hn rfl (by kernel_rfl) rfl ?_
 | ((first | refine RunsL.pe hn rfl rfl rfl ?_ | refine RunsD.pe rfl rfl ?_); first
 | refine ⟨_, pu_add rfl rfl (by omega), ?_⟩
 | refine ⟨_, pu_indexAddr_map rfl rfl (by omega) (by assumption), ?_⟩
 | refine ⟨_, pu_sub rfl rfl (by omega), ?_⟩
 | refine ⟨_, pu_pick_b rfl rfl rfl, ?_⟩
 | refine ⟨_, pu_mul rfl rfl (by omega), ?_⟩
 | refine ⟨_, pu_build rfl rfl rfl rfl rfl rfl, ?_⟩)
 | ((first | refine RunsL.guard_dec rfl rfl rfl ?_ ?_ | refine RunsL.guard_ndec rfl rfl rfl ?_ ?_ | refine RunsL.guard_nb rfl rfl rfl ?_ ?_ | refine RunsL.guard_b rfl rfl rfl ?_ ?_ | refine RunsD.guard_dec rfl rfl rfl ?_ ?_ | refine RunsD.guard_ndec rfl rfl rfl ?_ ?_ | refine RunsD.guard_nb rfl rfl rfl ?_ ?_ | refine RunsD.guard_b rfl rfl rfl ?_ ?_) <;> intro h <;> try (exfalso; first | omega | contradiction | (simp only [List.length_map] at h; omega))))
      all_goals refine Runs.ctls 30 rfl ?_
      all_goals refine mO_end (t := 0) (more := [⟨74, 0, (insR i).map .ro⟩]) rfl ?_ rfl
      all_goals first
        | (rw [mSkip_yes (by assumption)]; first | done | rfl)
        | (rw [mSkip_no (by assumption)]; first | done | rfl)
    · rw [if_neg hb1, Int.mul_comm 256]
      repeat' (first
 | refine RunsL.step tabOk hn rfl ?_
 | refine RunsL.nil ?_
 | refine Runs.toRegion 30 rfl ?_
 | ((first | refine RunsL.pe hn rfl rfl rfl ?_ | refine RunsD.pe rfl rfl ?_); first
 | refine ⟨_, pu_nilCheckP rfl, ?_⟩
 | refine ⟨_, pu_mulW rfl rfl, ?_⟩
 | refine ⟨_, pu_addW (t := 45) rfl rfl, ?_⟩
 | refine ⟨_, pu_addW (t := 11) rfl rfl, ?_⟩)
 | (refine Runs.ctls 30 rfl ?_; first | refine Runs.cond_t rfl ?_ | refine Runs.cond_f rfl ?_ | ((first | refine Runs.cond_yes rfl ?_ ?_ | refine Runs.cond_nno rfl ?_ ?_); · first | omega | rfl | assumption | (simp only [List.length_map]; omega)) | ((first | refine Runs.cond_no rfl ?_ ?_ | refine Runs.cond_nyes rfl ?_ ?_); · first | omega | rfl | assumption | (simp only [List.length_map]; omega)) | refine Runs.cond_dec rfl (fun h => ?_) (fun h => ?_) | refine Runs.cond_ndec rfl (fun h => ?_) (fun h => ?_) | refine Runs.cond_nb rfl (fun h => ?_) (fun h => ?_) | refine Runs.cond_b rfl (fun h => ?_) (fun h => ?_) | refine Runs.ret (ends_ro hm rfl rfl ?_) | exact Runs.ret (ends_cellR hm rfl rfl rfl (Nat.le_of_ble_eq_true rfl) rfl rfl))
 | refine op_box rfl (tl hn rfl) ?_
 | refine op_storeF rfl rfl rfl rfl (Nat.le_of_ble_eq_true rfl) ?_
 | refine op_alloc (tl hn rfl) ?_
 | refine op_storeN rfl rfl rfl rfl (Nat.le_of_ble_eq_true rfl) ?_
 | refine RunsD.step tabOk hn rfl rfl ?_
 | refine RunsD.nil ?_
 | refine Runs.toDraw 30 mixed hn rfl (by kernel_rfl) rfl ?_
 | ((first | refine RunsL.pe hn rfl rfl rfl ?_ | refine RunsD.pe rfl rfl ?_); first
 | refine ⟨_, pu_add rfl rfl (by omega), ?_⟩
 | refine ⟨_, pu_indexAddr_map rfl rfl (by omega) (by assumption), ?_⟩
 | refine ⟨_, pu_sub rfl rfl (by omega), ?_⟩
 | refine ⟨_, pu_pick_b rfl rfl rfl, ?_⟩
 | refine ⟨_, pu_mul rfl rfl (by omega), ?_⟩
 | refine ⟨_, pu_build rfl rfl rfl rfl rfl rfl, ?_⟩)
 | ((first | refine RunsL.guard_dec rfl rfl rfl ?_ ?_ | refine RunsL.guard_ndec rfl rfl rfl ?_ ?_ | refine RunsL.guard_nb rfl rfl rfl ?_ ?_ | refine RunsL.guard_b rfl rfl rfl ?_ ?_ | refine RunsD.guard_dec rfl rfl rfl ?_ ?_ | refine RunsD.guard_ndec rfl rfl rfl ?_ ?_ | refine RunsD.guard_nb rfl rfl rfl ?_ ?_ | refine RunsD.guard_b rfl rfl rfl ?_ ?_) <;> intro h <;> try (exfalso; first | omega | contradiction | (simp only [List.length_map] at h; omega))))
      all_goals refine Runs.ctls 30 rfl ?_
      all_goals refine mO_end (t := 0) (more := [⟨74, 0, (insR i).map .ro⟩]) rfl ?_ rfl
      all_goals first
        | (rw [mSkip_yes (by assumption)]; first | done | rfl)
        | (rw [mSkip_no (by assumption)]; first | done | rfl)
  · have e2 : i.op = 2 → mRead m i b = if b ≠ i.a then mFail m 2 else mSkip m := fun h => by simp [mRead, h]
    have e13 : i.op = 13 → mRead m i b = if 1 < b then mFail m 4 else if m.left ≠ 0 then m else { m with started := false, pc := if b = 0 then i.a else w64 (m.pc + 1) } := fun h => by simp [mRead, h]
    have e16 : i.op = 16 → mRead m i b = if m.escaped = false ∧ b = i.a then mSkip m else { m with escaped := !m.escaped && decide (b = 92), left := 1 } := fun h => by simp [mRead, h]
    have eno : ¬ i.op = 2 → ¬ i.op = 13 → ¬ i.op = 16 → mRead m i b = mSkip m := fun h2 h3 h4 => by simp [mRead, h1, h2, h3, h4]
    repeat' (first
 | refine op_callP 3 (l17Fail_am m 2) rfl (by simp [AV.onlys, AV.only]) (by simp [AV.only, AV.onlys]) rfl rfl rfl (mO_free _) (mO_free _) rfl (by first | exact trivial | exact ⟨rfl, trivial⟩ | exact ⟨rfl, rfl, trivial⟩ | exact ⟨rfl, rfl, rfl, trivial⟩ | exact ⟨rfl, rfl, rfl, rfl, trivial⟩) (fun t h => by injection h with h; subst h; exact tl hn rfl) ?_
 | refine op_callP 3 (l17Fail_am m 4) rfl (by simp [AV.onlys, AV.only]) (by simp [AV.only, AV.onlys]) rfl rfl rfl (mO_free _) (mO_free _) rfl (by first | exact trivial | exact ⟨rfl, trivial⟩ | exact ⟨rfl, rfl, trivial⟩ | exact ⟨rfl, rfl, rfl, trivial⟩ | exact ⟨rfl, rfl, rfl, rfl, trivial⟩) (fun t h => by injection h with h; subst h; exact tl hn rfl) ?_
 | refine RunsL.step tabOk hn rfl ?_
 | refine RunsL.nil ?_
 | refine Runs.toRegion 30 rfl ?_
 | ((first | refine RunsL.pe hn rfl rfl rfl ?_ | refine RunsD.pe rfl rfl ?_); first
 | refine ⟨_, pu_nilCheckP rfl, ?_⟩
 | refine ⟨_, pu_addW (t := 11) rfl rfl, ?_⟩)
 | (refine Runs.ctls 30 rfl ?_; first | refine Runs.cond_t rfl ?_ | refine Runs.cond_f rfl ?_ | ((first | refine Runs.cond_yes rfl ?_ ?_ | refine Runs.cond_nno rfl ?_ ?_); · first | omega | rfl | assumption | (simp only [List.length_map]; omega)) | ((first | refine Runs.cond_no rfl ?_ ?_ | refine Runs.cond_nyes rfl ?_ ?_); · first | omega | rfl | assumption | (simp only [List.length_map]; omega)) | refine Runs.cond_dec rfl (fun h => ?_) (fun h => ?_) | refine Runs.cond_ndec rfl (fun h => ?_) (fun h => ?_) | refine Runs.cond_nb rfl (fun h => ?_) (fun h => ?_) | refine Runs.cond_b rfl (fun h => ?_) (fun h => ?_) | refine Runs.ret (ends_ro hm rfl rfl ?_) | exact Runs.ret (ends_cellR hm rfl rfl rfl (Nat.le_of_ble_eq_true rfl) rfl rfl))
 | refine op_box rfl (tl hn rfl) ?_
 | refine op_storeF rfl rfl rfl rfl (Nat.le_of_ble_eq_true rfl) ?_
 | refine op_alloc (tl hn rfl) ?_
 | refine op_storeN rfl rfl rfl rfl (Nat.le_of_ble_eq_true rfl) ?_
 | refine RunsD.step tabOk hn rfl rfl ?_
 | refine RunsD.nil ?_
 | refine Runs.toDraw 30 mixed hn rfl (by kernel_rfl) rfl ?_
 | ((first | refine RunsL.pe hn rfl rfl rfl ?_ | refine RunsD.pe rfl rfl ?_); first
 | refine ⟨_, pu_add rfl rfl (by omega), ?_⟩
 | refine ⟨_, pu_indexAddr_map rfl rfl (by omega) (by assumption), ?_⟩
 | refine ⟨_, pu_sub rfl rfl (by omega), ?_⟩
 | refine ⟨_, pu_pick_b rfl rfl rfl, ?_⟩
 | refine ⟨_, pu_mul rfl rfl (by omega), ?_⟩
 | refine ⟨_, pu_build rfl rfl rfl rfl rfl rfl, ?_⟩)
 | ((first | refine RunsL.guard_dec rfl rfl rfl ?_ ?_ | refine RunsL.guard_ndec rfl rfl rfl ?_ ?_ | refine RunsL.guard_nb rfl rfl rfl ?_ ?_ | refine RunsL.guard_b rfl rfl rfl ?_ ?_ | refine RunsD.guard_dec rfl rfl rfl ?_ ?_ | refine RunsD.guard_ndec rfl rfl rfl ?_ ?_ | refine RunsD.guard_nb rfl rfl rfl ?_ ?_ | refine RunsD.guard_b rfl rfl rfl ?_ ?_) <;> intro h <;> try (exfalso; first | omega | contradiction | (simp only [List.length_map] at h; omega))))
    all_goals first
      | (exfalso; simp_all [mFail]; done)
      | skip
    all_goals refine Runs.ctls 30 rfl ?_
    all_goals refine mO_end (t := 0) (more := [⟨74, 0, (insR i).map .ro⟩]) rfl ?_ rfl
    all_goals first
      | (rw [e2 (by assumption), if_pos (by assumption)]; first | done | rfl)
      | (rw [e2 (by assumption), if_neg (by simp [*]), mSkip_yes (by assumption)]; first | done | rfl)
      | (rw [e2 (by assumption), if_neg (by simp [*]), mSkip_no (by assumption)]; first | done | rfl)
      | (rw [e13 (by assumption), if_pos (by omega)]; first | done | rfl)
      | (rw [e13 (by assumption), if_neg (by omega), if_neg (by simp [*]), if_pos (by assumption)]; first | done | rfl)
      | (rw [e13 (by assumption), if_neg (by omega), if_neg (by simp [*]), if_neg (by assumption)]; first | done | rfl)
      | (rw [e13 (by assumption), if_neg (by omega), if_pos (by assumption)]; first | done | rfl)
      | (rw [e16 (by assumption), if_pos (by simp [*]), mSkip_yes (by assumption)]; first | done | rfl)
      | (rw [e16 (by assumption), if_pos (by simp [*]), mSkip_no (by assumption)]; first | done | rfl)
      | (rw [e16 (by assumption), if_neg (by simp [*]), show (!m.escaped && decide (b = 92)) = false from by simp [*]]; first | done | rfl)
      | (rw [e16 (by assumption), if_neg (by simp [*]), show (!m.escaped && decide (b = 92)) = true from by simp [*]]; first | done | rfl)
      | (rw [e16 (by assumption), if_neg (by simp [*]), show (!m.escaped && decide (b = 92)) = decide (b = 92) from by simp [*]]; first | done | rfl)
      | (rw [eno (by assumption) (by assumption) (by assumption), mSkip_yes (by assumption)]; first | done | rfl)
      | (rw [eno (by assumption) (by assumption) (by assumption), mSkip_no (by assumption)]; first | done | rfl)
end Go.Proofs.Ytkhnijggbfoimaa
