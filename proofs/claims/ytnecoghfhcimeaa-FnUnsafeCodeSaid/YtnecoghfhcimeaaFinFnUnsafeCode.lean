/- The law FnUnsafeCode holds: for every input the Go function returns true, and each argument reads as before. No condition. -/
import Derived.Test.YtnecoghfhcimeaaRows
import Derived.Test.YtnecoghfhcimeaaGat0
import Derived.Test.YtnecoghfhcimeaaGat1
import Derived.Test.YtnecoghfhcimeaaGat2
import Derived.Test.YtnecoghfhcimeaaGat3
import Derived.Test.YtnecoghfhcimeaaGat4
import Derived.Test.YtnecoghfhcimeaaGat5
import Derived.Test.YtnecoghfhcimeaaGat6
import Derived.WalkKit
import Derived.ProofKit
import Derived.OpenShut
import Derived.ShutString
import Derived.ChangeOld
import Derived.Below
import Derived.Outline
namespace Go.Proofs.Ytnecoghfhcimeaa.fnUnsafeCode
set_option linter.unusedSimpArgs false
set_option linter.unusedVariables false
open Go.ChangeShapes Go.WideShapes Go.ChangeAt Go.RowKit
open Go.ChangeMaps (open_string shut_string)
theorem own : ownKnob Try.prog.godebug = none := by kernel_rfl
theorem laidOut : laidOutB Try.prog = true := by kernel_rfl
set_option maxRecDepth 100000 in
set_option maxHeartbeats 16000000 in
theorem law_ac (code : List UInt8) (wl : code.length ≤ maxLen) : ACv Try.prog 9 [bytesR code] (.bool true) := by
  have hB := big_ac code
  refine ac_enter Try.func9 rfl _ Try.ntmps9 (by simp) fun C hn hm => ?_
  by_cases hbig : (1048576 : Int) < code.length
  · repeat' (first
    | refine RunsL.step tabOk hn rfl ?_
    | refine RunsL.nil ?_
    | refine Runs.toRegion 30 rfl ?_
    | ((first | refine RunsL.pe hn rfl rfl rfl ?_ | refine RunsD.pe rfl rfl ?_); first
      | refine ⟨_, pu_callR hB rfl, ?_⟩)
    | (refine Runs.ctls 30 rfl ?_; first | refine Runs.cond_t rfl ?_ | refine Runs.cond_f rfl ?_ | ((first | refine Runs.cond_yes rfl ?_ ?_ | refine Runs.cond_nno rfl ?_ ?_); · first | omega | rfl | assumption | (simp only [List.length_map]; omega)) | ((first | refine Runs.cond_no rfl ?_ ?_ | refine Runs.cond_nyes rfl ?_ ?_); · first | omega | rfl | assumption | (simp only [List.length_map]; omega)) | refine Runs.ret (ends_ro hm rfl rfl ?_) | exact Runs.ret (ends_cellR hm rfl rfl rfl (Nat.le_of_ble_eq_true rfl) rfl rfl))
    | refine op_alloc (tl hn rfl) ?_
    | refine op_storeN rfl rfl rfl rfl (Nat.le_of_ble_eq_true rfl) ?_
    | refine RunsD.step tabOk hn rfl rfl ?_
    | refine RunsD.nil ?_
    | refine Runs.toDraw 30 mixed hn rfl (by kernel_rfl) rfl ?_
    | ((first | refine RunsL.pe hn rfl rfl rfl ?_ | refine RunsD.pe rfl rfl ?_); first
      | refine ⟨_, pu_add rfl rfl (by omega), ?_⟩
      | refine ⟨_, pu_indexAddr_map rfl rfl (by omega) (by assumption), ?_⟩
      | refine ⟨_, pu_sub rfl rfl (by omega), ?_⟩
      | refine ⟨_, pu_pick_b rfl rfl rfl, ?_⟩
      | refine ⟨_, pu_mul rfl rfl (by omega), ?_⟩
      | refine ⟨_, pu_build rfl rfl rfl rfl rfl rfl, ?_⟩)
    | ((first | refine RunsL.guard_dec rfl rfl rfl ?_ ?_ | refine RunsL.guard_ndec rfl rfl rfl ?_ ?_ | refine RunsL.guard_nb rfl rfl rfl ?_ ?_ | refine RunsL.guard_b rfl rfl rfl ?_ ?_ | refine RunsD.guard_dec rfl rfl rfl ?_ ?_ | refine RunsD.guard_ndec rfl rfl rfl ?_ ?_ | refine RunsD.guard_nb rfl rfl rfl ?_ ?_ | refine RunsD.guard_b rfl rfl rfl ?_ ?_) <;> intro h <;> try (exfalso; first | omega | contradiction | (simp only [List.length_map] at h; omega))))
    all_goals exact rr_bool rfl
  have hl : code.length ≤ 1048576 := by omega
  repeat' (first
    | (refine op_callQ (drawProgram_ac code hl) (Q := fun r => ∃ p, r = prgR p ∧ PrgS p) (by rintro _ ⟨p, rfl, hp⟩; exact ⟨_, by simp [Seals], p, rfl, hp⟩) rfl (tl hn rfl) ?_; rintro _ ⟨p, rfl, hP⟩)
    | refine RunsL.step tabOk hn rfl ?_
    | refine RunsL.nil ?_
    | refine Runs.toRegion 30 rfl ?_
    | ((first | refine RunsL.pe hn rfl rfl rfl ?_ | refine RunsD.pe rfl rfl ?_); first
      | refine ⟨_, pu_callR hB rfl, ?_⟩)
    | (refine Runs.ctls 30 rfl ?_; first | refine Runs.cond_t rfl ?_ | refine Runs.cond_f rfl ?_ | ((first | refine Runs.cond_yes rfl ?_ ?_ | refine Runs.cond_nno rfl ?_ ?_); · first | omega | rfl | assumption | (simp only [List.length_map]; omega)) | ((first | refine Runs.cond_no rfl ?_ ?_ | refine Runs.cond_nyes rfl ?_ ?_); · first | omega | rfl | assumption | (simp only [List.length_map]; omega)) | refine Runs.ret (ends_ro hm rfl rfl ?_) | exact Runs.ret (ends_cellR hm rfl rfl rfl (Nat.le_of_ble_eq_true rfl) rfl rfl))
    | refine op_alloc (tl hn rfl) ?_
    | refine op_storeN rfl rfl rfl rfl (Nat.le_of_ble_eq_true rfl) ?_
    | refine RunsD.step tabOk hn rfl rfl ?_
    | refine RunsD.nil ?_
    | refine Runs.toDraw 30 mixed hn rfl (by kernel_rfl) rfl ?_
    | ((first | refine RunsL.pe hn rfl rfl rfl ?_ | refine RunsD.pe rfl rfl ?_); first
      | refine ⟨_, pu_add rfl rfl (by omega), ?_⟩
      | refine ⟨_, pu_indexAddr_map rfl rfl (by omega) (by assumption), ?_⟩
      | refine ⟨_, pu_sub rfl rfl (by omega), ?_⟩
      | refine ⟨_, pu_pick_b rfl rfl rfl, ?_⟩
      | refine ⟨_, pu_mul rfl rfl (by omega), ?_⟩
      | refine ⟨_, pu_build rfl rfl rfl rfl rfl rfl, ?_⟩)
    | ((first | refine RunsL.guard_dec rfl rfl rfl ?_ ?_ | refine RunsL.guard_ndec rfl rfl rfl ?_ ?_ | refine RunsL.guard_nb rfl rfl rfl ?_ ?_ | refine RunsL.guard_b rfl rfl rfl ?_ ?_ | refine RunsD.guard_dec rfl rfl rfl ?_ ?_ | refine RunsD.guard_ndec rfl rfl rfl ?_ ?_ | refine RunsD.guard_nb rfl rfl rfl ?_ ?_ | refine RunsD.guard_b rfl rfl rfl ?_ ?_) <;> intro h <;> try (exfalso; first | omega | contradiction | (simp only [List.length_map] at h; omega))))
  have hpb := hP.big
  have hpc := hP.code
  have hI := impl_IsSafeProgram p hpb
  have hS' := spec_IsSafeProgram p hpb
  have hK := impl_StackNeeded p hpb
  have hK' := spec_StackNeeded p hpb
  have hF := impl_FitsMachine p hpb
  have hR := impl_RunProgram p [1] hpb (by simp)
  have hpm : (p.code.map insR).length = p.code.length := List.length_map ..
  by_cases hS : SafeP p
  · rw [decide_eq_true hS] at hI hS'
    have hpos := hS.pos
    have hat := at_ac code hl 0 (by decide)
    have hII : ∀ i : Int, I64 i → ACv Try.prog 53 [prgR p, .int i] (.bool (decide (SafeI p i))) := fun i hi => impl_IsSafeInstruction p i hi (by unfold maxLen; omega)
    have hat : ACv Try.prog 52 [bytesR code, .int 0] (.int ((atB code 0 : Nat) : Int)) := at_ac code hl 0 (by decide)
    have hatb : atB code 0 ≤ 255 := by
      unfold atB
      split
      · have := (code.getD 0 0).toNat_lt; omega
      · omega
    have hk0 := Int.emod_nonneg ((atB code 0 : Nat) : Int) (b := (p.code.length : Int)) (by omega)
    have hk1 := Int.emod_lt_of_pos ((atB code 0 : Nat) : Int) (b := (p.code.length : Int)) (by omega)
    have hfl : (((p.code.map insR).flatten).map AV.ro).length = p.code.length * 3 := by rw [← List.flatMap_def]; exact inss_len3 _
    repeat' (first
      | refine Runs.toDrawV (id := 8) 30 [] [0, 1, 2, 3, 4, 5, 6, 7] 8 [⟨3, some (0, 40), 59, 3, (p.code.map insR).flatten⟩, ⟨7, none, 62, 0, [.nil, .nil]⟩] mixed hn rfl (by kernel_rfl) rfl rfl (by kernel_rfl) ?_
      | refine RunsU.made (t := 4) (p := 1) rfl rfl rfl rfl rfl (mk_alloc (zs := [.slice none 0 0, .slice none 0 0]) inferInstance) ?_
      | refine RunsU.lay (t := 40) (p := 0) rfl rfl rfl rfl mk_build0 ?_
      | refine RunsU.gro (t := 43) (p := 0) rfl rfl rfl rfl rfl (mk_append (els := p.code.map insR) rfl (by rw [hpm]; omega) (by rw [hpm]; omega)) ?_
      | refine RunsU.step tabOk rfl rfl (fun _ => rfl) rfl (fun p r hp hr => .inl (by simp [AV.only, AV.onlys] <;> omega)) ?_
      | refine RunsU.pur (fun _ => pu_buildS rfl) rfl (staged_late (by kernel_rfl) rfl) rfl rfl ?_
      | refine RunsU.nil ?_
      | refine RunsL.step tabOk hn rfl ?_
      | refine RunsL.nil ?_
      | refine Runs.toRegion 30 rfl ?_
      | ((first | refine RunsL.pe hn rfl rfl rfl ?_ | refine RunsD.pe rfl rfl ?_); first
        | refine ⟨_, pu_callR hI rfl, ?_⟩
        | refine ⟨_, pu_callR hS' rfl, ?_⟩
        | refine ⟨_, pu_callR hK rfl, ?_⟩
        | refine ⟨_, pu_callR hK' rfl, ?_⟩
        | refine ⟨_, pu_callR hat rfl, ?_⟩
        | refine ⟨_, pu_len_own (n := p.code.length) rfl rfl hfl, ?_⟩
        | refine ⟨_, pu_rem rfl rfl (by omega), ?_⟩
        | refine ⟨_, pu_buildS rfl, ?_⟩
        | refine ⟨_, pu_indexAddr_own (n := p.code.length) rfl rfl rfl rfl hfl (by omega) (by omega), ?_⟩)
      | (refine Runs.ctls 30 rfl ?_; first | refine Runs.cond_t rfl ?_ | refine Runs.cond_f rfl ?_ | ((first | refine Runs.cond_yes rfl ?_ ?_ | refine Runs.cond_nno rfl ?_ ?_); · first | omega | rfl | assumption | (simp only [List.length_map]; omega)) | ((first | refine Runs.cond_no rfl ?_ ?_ | refine Runs.cond_nyes rfl ?_ ?_); · first | omega | rfl | assumption | (simp only [List.length_map]; omega)) | refine Runs.ret (ends_ro hm rfl rfl ?_) | exact Runs.ret (ends_cellR hm rfl rfl rfl (Nat.le_of_ble_eq_true rfl) rfl rfl))
      | refine op_alloc (tl hn rfl) ?_
      | refine op_storeN rfl rfl rfl rfl (Nat.le_of_ble_eq_true rfl) ?_
      | refine RunsD.step tabOk hn rfl rfl ?_
      | refine RunsD.nil ?_
      | refine Runs.toDraw 30 mixed hn rfl (by kernel_rfl) rfl ?_
      | ((first | refine RunsL.pe hn rfl rfl rfl ?_ | refine RunsD.pe rfl rfl ?_); first
        | refine ⟨_, pu_add rfl rfl (by omega), ?_⟩
        | refine ⟨_, pu_indexAddr_map rfl rfl (by omega) (by assumption), ?_⟩
        | refine ⟨_, pu_sub rfl rfl (by omega), ?_⟩
        | refine ⟨_, pu_pick_b rfl rfl rfl, ?_⟩
        | refine ⟨_, pu_mul rfl rfl (by omega), ?_⟩
        | refine ⟨_, pu_build rfl rfl rfl rfl rfl rfl, ?_⟩)
      | ((first | refine RunsL.guard_dec rfl rfl rfl ?_ ?_ | refine RunsL.guard_ndec rfl rfl rfl ?_ ?_ | refine RunsL.guard_nb rfl rfl rfl ?_ ?_ | refine RunsL.guard_b rfl rfl rfl ?_ ?_ | refine RunsD.guard_dec rfl rfl rfl ?_ ?_ | refine RunsD.guard_ndec rfl rfl rfl ?_ ?_ | refine RunsD.guard_nb rfl rfl rfl ?_ ?_ | refine RunsD.guard_b rfl rfl rfl ?_ ?_) <;> intro h <;> try (exfalso; first | omega | contradiction | (simp only [List.length_map] at h; omega))))
    obtain ⟨K, hK⟩ : ∃ K : Nat, ((atB code 0 : Nat) : Int) % (p.code.length : Int) = K := ⟨(((atB code 0 : Nat) : Int) % (p.code.length : Int)).toNat, by omega⟩
    rw [hK] at hk0 hk1
    have hKl : K < p.code.length := by omega
    rw [hK]
    refine op_storeN (i := 1) (off := K * 3) (vs := (insR ⟨8, (p.code.length : Int), 0⟩).map .ro) rfl rfl rfl rfl ?_ ?_
    · show K * 3 + 3 ≤ (((p.code.map insR).flatten).map AV.ro).length
      rw [hfl]; omega
    refine RunsL.nil ?_
    refine Runs.keep [(3, .obj 0 0), (4, .obj 2 0), (5, .int (K : Int))] ⟨rfl, rfl, rfl, trivial⟩ ?_
    show Runs _ _ _ _ ⟨_, [⟨62, 0, [.ro (inssR p.code), .ro (intsR p.entries)]⟩, ⟨59, 3, setsAt (((p.code.map insR).flatten).map .ro) (K * 3) ((insR ⟨8, (p.code.length : Int), 0⟩).map .ro)⟩, ⟨62, 0, [.own 1, .ro (intsR p.entries)]⟩]⟩
    rw [← List.flatMap_def, set_ins3 ⟨8, (p.code.length : Int), 0⟩ hKl]
    repeat' (first
      | refine RunsL.step tabOk hn rfl ?_
      | refine RunsL.nil ?_
      | refine Runs.toRegion 30 rfl ?_
      | (refine Runs.ctls 30 rfl ?_; first | refine Runs.cond_t rfl ?_ | refine Runs.cond_f rfl ?_ | ((first | refine Runs.cond_yes rfl ?_ ?_ | refine Runs.cond_nno rfl ?_ ?_); · first | omega | rfl | assumption | (simp only [List.length_map]; omega)) | ((first | refine Runs.cond_no rfl ?_ ?_ | refine Runs.cond_nyes rfl ?_ ?_); · first | omega | rfl | assumption | (simp only [List.length_map]; omega)) | refine Runs.ret (ends_ro hm rfl rfl ?_) | exact Runs.ret (ends_cellR hm rfl rfl rfl (Nat.le_of_ble_eq_true rfl) rfl rfl))
      | refine op_alloc (tl hn rfl) ?_
      | refine op_storeN rfl rfl rfl rfl (Nat.le_of_ble_eq_true rfl) ?_
      | refine RunsD.step tabOk hn rfl rfl ?_
      | refine RunsD.nil ?_
      | refine Runs.toDraw 30 mixed hn rfl (by kernel_rfl) rfl ?_
      | ((first | refine RunsL.pe hn rfl rfl rfl ?_ | refine RunsD.pe rfl rfl ?_); first
        | refine ⟨_, pu_add rfl rfl (by omega), ?_⟩
        | refine ⟨_, pu_indexAddr_map rfl rfl (by omega) (by assumption), ?_⟩
        | refine ⟨_, pu_sub rfl rfl (by omega), ?_⟩
        | refine ⟨_, pu_pick_b rfl rfl rfl, ?_⟩
        | refine ⟨_, pu_mul rfl rfl (by omega), ?_⟩
        | refine ⟨_, pu_build rfl rfl rfl rfl rfl rfl, ?_⟩)
      | ((first | refine RunsL.guard_dec rfl rfl rfl ?_ ?_ | refine RunsL.guard_ndec rfl rfl rfl ?_ ?_ | refine RunsL.guard_nb rfl rfl rfl ?_ ?_ | refine RunsL.guard_b rfl rfl rfl ?_ ?_ | refine RunsD.guard_dec rfl rfl rfl ?_ ?_ | refine RunsD.guard_ndec rfl rfl rfl ?_ ?_ | refine RunsD.guard_nb rfl rfl rfl ?_ ?_ | refine RunsD.guard_b rfl rfl rfl ?_ ?_) <;> intro h <;> try (exfalso; first | omega | contradiction | (simp only [List.length_map] at h; omega))))
    refine Runs.loopN 30 rfl (fun j => [(3, .obj 0 0), (4, .obj 2 0), (5, .int (K : Int)), (6, .int (j : Int))]) (fun j => [⟨62, 0, [.ro (inssR p.code), .ro (intsR p.entries)]⟩, ⟨59, 3, ((badP p K).code.flatMap insR).map .ro⟩, ⟨62, 0, [.own 1, .ro (intsR p.entries)]⟩]) (fun _ => True) p.code.length 0 (Nat.zero_le _) trivial ⟨rfl, rfl, rfl, rfl, trivial⟩ rfl fun j hj _ next => ?_
    by_cases hlt : j < p.code.length
    · have h1 := hII j (by unfold I64; omega)
      rw [decide_eq_true (hS.1.ins j hlt)] at h1
      repeat' (first
        | ((first | refine RunsL.pe hn rfl rfl rfl ?_ | refine RunsD.pe rfl rfl ?_); first
          | refine ⟨_, pu_len_seqN p.code.length rfl hpm, ?_⟩)
        | refine RunsL.step tabOk hn rfl ?_
        | refine RunsL.nil ?_
        | refine Runs.toRegion 30 rfl ?_
        | ((first | refine RunsL.pe hn rfl rfl rfl ?_ | refine RunsD.pe rfl rfl ?_); first
          | refine ⟨_, pu_callR h1 rfl, ?_⟩)
        | (refine Runs.ctls 30 rfl ?_; first | refine Runs.cond_t rfl ?_ | refine Runs.cond_f rfl ?_ | ((first | refine Runs.cond_yes rfl ?_ ?_ | refine Runs.cond_nno rfl ?_ ?_); · first | omega | rfl | assumption | (simp only [List.length_map]; omega)) | ((first | refine Runs.cond_no rfl ?_ ?_ | refine Runs.cond_nyes rfl ?_ ?_); · first | omega | rfl | assumption | (simp only [List.length_map]; omega)) | refine Runs.ret (ends_ro hm rfl rfl ?_) | exact Runs.ret (ends_cellR hm rfl rfl rfl (Nat.le_of_ble_eq_true rfl) rfl rfl))
        | refine op_alloc (tl hn rfl) ?_
        | refine op_storeN rfl rfl rfl rfl (Nat.le_of_ble_eq_true rfl) ?_
        | refine RunsD.step tabOk hn rfl rfl ?_
        | refine RunsD.nil ?_
        | refine Runs.toDraw 30 mixed hn rfl (by kernel_rfl) rfl ?_
        | ((first | refine RunsL.pe hn rfl rfl rfl ?_ | refine RunsD.pe rfl rfl ?_); first
          | refine ⟨_, pu_add rfl rfl (by omega), ?_⟩
          | refine ⟨_, pu_indexAddr_map rfl rfl (by omega) (by assumption), ?_⟩
          | refine ⟨_, pu_sub rfl rfl (by omega), ?_⟩
          | refine ⟨_, pu_pick_b rfl rfl rfl, ?_⟩
          | refine ⟨_, pu_mul rfl rfl (by omega), ?_⟩
          | refine ⟨_, pu_build rfl rfl rfl rfl rfl rfl, ?_⟩)
        | ((first | refine RunsL.guard_dec rfl rfl rfl ?_ ?_ | refine RunsL.guard_ndec rfl rfl rfl ?_ ?_ | refine RunsL.guard_nb rfl rfl rfl ?_ ?_ | refine RunsL.guard_b rfl rfl rfl ?_ ?_ | refine RunsD.guard_dec rfl rfl rfl ?_ ?_ | refine RunsD.guard_ndec rfl rfl rfl ?_ ?_ | refine RunsD.guard_nb rfl rfl rfl ?_ ?_ | refine RunsD.guard_b rfl rfl rfl ?_ ?_) <;> intro h <;> try (exfalso; first | omega | contradiction | (simp only [List.length_map] at h; omega))))
      exact next _ _ ⟨rfl, rfl, rfl, rfl, trivial⟩ hlt trivial rfl
    · have hbB := hP.bad K
      have b1 := impl_IsSafeProgram (badP p K) hbB
      rw [decide_eq_false (badP_safe hKl)] at b1
      have b2 := impl_IsSafeInstruction (badP p K) (K : Int) (by unfold I64; omega) (by have := hbB.code; unfold maxLen; omega)
      rw [decide_eq_false (badP_safeI hKl)] at b2
      have b3 := hII (p.code.length : Int) (by unfold I64; omega)
      rw [decide_eq_false safe_out] at b3
      have hlm : (((p.code.map insR).length : Nat) : Int) = (p.code.length : Int) := by rw [List.length_map]
      have b3' := b3
      rw [← hlm] at b3'
      have hlend : ∀ C : Ctx, Lends C [⟨62, 0, [.ro (inssR p.code), .ro (intsR p.entries)]⟩, ⟨59, 3, ((badP p K).code.flatMap insR).map .ro⟩, ⟨62, 0, [.own 1, .ro (intsR p.entries)]⟩] (.agg [.own 1, .ro (intsR p.entries)]) (prgR (badP p K)) := fun C =>
        Lends.agg (.cons (Lends.own (i := 1) (o := ⟨59, 3, ((badP p K).code.flatMap insR).map .ro⟩) (els := (badP p K).code.map insR) rfl (by rw [List.flatMap_def]) fun x hx => by obtain ⟨y, _, rfl⟩ := List.mem_map.1 hx; rfl) (.cons .ro .nil))
      repeat' (first
        | ((first | refine RunsL.pe hn rfl rfl rfl ?_ | refine RunsD.pe rfl rfl ?_); first
          | refine ⟨_, pu_len_seqN p.code.length rfl hpm, ?_⟩)
        | refine RunsL.step tabOk hn rfl ?_
        | refine RunsL.nil ?_
        | refine Runs.toRegion 30 rfl ?_
        | ((first | refine RunsL.pe hn rfl rfl rfl ?_ | refine RunsD.pe rfl rfl ?_); first
          | refine ⟨_, pu_callL b1 (.cons (hlend C) .nil), ?_⟩
          | refine ⟨_, pu_callL b2 (.cons (hlend C) (.cons .ro .nil)), ?_⟩
          | refine ⟨_, pu_callR b3 rfl, ?_⟩
          | refine ⟨_, pu_callR b3' rfl, ?_⟩)
        | (refine Runs.ctls 30 rfl ?_; first | refine Runs.cond_t rfl ?_ | refine Runs.cond_f rfl ?_ | ((first | refine Runs.cond_yes rfl ?_ ?_ | refine Runs.cond_nno rfl ?_ ?_); · first | omega | rfl | assumption | (simp only [List.length_map]; omega)) | ((first | refine Runs.cond_no rfl ?_ ?_ | refine Runs.cond_nyes rfl ?_ ?_); · first | omega | rfl | assumption | (simp only [List.length_map]; omega)) | refine Runs.ret (ends_ro hm rfl rfl ?_) | exact Runs.ret (ends_cellR hm rfl rfl rfl (Nat.le_of_ble_eq_true rfl) rfl rfl))
        | refine op_alloc (tl hn rfl) ?_
        | refine op_storeN rfl rfl rfl rfl (Nat.le_of_ble_eq_true rfl) ?_
        | refine RunsD.step tabOk hn rfl rfl ?_
        | refine RunsD.nil ?_
        | refine Runs.toDraw 30 mixed hn rfl (by kernel_rfl) rfl ?_
        | ((first | refine RunsL.pe hn rfl rfl rfl ?_ | refine RunsD.pe rfl rfl ?_); first
          | refine ⟨_, pu_add rfl rfl (by omega), ?_⟩
          | refine ⟨_, pu_indexAddr_map rfl rfl (by omega) (by assumption), ?_⟩
          | refine ⟨_, pu_sub rfl rfl (by omega), ?_⟩
          | refine ⟨_, pu_pick_b rfl rfl rfl, ?_⟩
          | refine ⟨_, pu_mul rfl rfl (by omega), ?_⟩
          | refine ⟨_, pu_build rfl rfl rfl rfl rfl rfl, ?_⟩)
        | ((first | refine RunsL.guard_dec rfl rfl rfl ?_ ?_ | refine RunsL.guard_ndec rfl rfl rfl ?_ ?_ | refine RunsL.guard_nb rfl rfl rfl ?_ ?_ | refine RunsL.guard_b rfl rfl rfl ?_ ?_ | refine RunsD.guard_dec rfl rfl rfl ?_ ?_ | refine RunsD.guard_ndec rfl rfl rfl ?_ ?_ | refine RunsD.guard_nb rfl rfl rfl ?_ ?_ | refine RunsD.guard_b rfl rfl rfl ?_ ?_) <;> intro h <;> try (exfalso; first | omega | contradiction | (simp only [List.length_map] at h; omega))))
      all_goals exact rr_bool rfl
  · rw [decide_eq_false hS] at hI hS'
    have hst : stackN p = -1 := by unfold stackN; rw [if_neg hS]
    have hfit : fitB p = false := by unfold fitB; exact decide_eq_false fun h => hS h.1
    rw [decide_eq_false (fun h => hS h.1)] at hF
    rw [hfit, run_unfit] at hR
    rw [hst] at hK hK'
    repeat' (first
      | refine RunsL.step tabOk hn rfl ?_
      | refine RunsL.nil ?_
      | refine Runs.toRegion 30 rfl ?_
      | ((first | refine RunsL.pe hn rfl rfl rfl ?_ | refine RunsD.pe rfl rfl ?_); first
        | refine ⟨_, pu_callR hI rfl, ?_⟩
        | refine ⟨_, pu_callR hS' rfl, ?_⟩
        | refine ⟨_, pu_callR hK rfl, ?_⟩
        | refine ⟨_, pu_callR hK' rfl, ?_⟩
        | refine ⟨_, pu_callR hF rfl, ?_⟩
        | refine ⟨_, pu_callR hR rfl, ?_⟩
        | refine ⟨_, pu_build rfl rfl rfl rfl rfl rfl, ?_⟩)
      | (refine Runs.ctls 30 rfl ?_; first | refine Runs.cond_t rfl ?_ | refine Runs.cond_f rfl ?_ | ((first | refine Runs.cond_yes rfl ?_ ?_ | refine Runs.cond_nno rfl ?_ ?_); · first | omega | rfl | assumption | (simp only [List.length_map]; omega)) | ((first | refine Runs.cond_no rfl ?_ ?_ | refine Runs.cond_nyes rfl ?_ ?_); · first | omega | rfl | assumption | (simp only [List.length_map]; omega)) | refine Runs.ret (ends_ro hm rfl rfl ?_) | exact Runs.ret (ends_cellR hm rfl rfl rfl (Nat.le_of_ble_eq_true rfl) rfl rfl))
      | refine op_alloc (tl hn rfl) ?_
      | refine op_storeN rfl rfl rfl rfl (Nat.le_of_ble_eq_true rfl) ?_
      | refine RunsD.step tabOk hn rfl rfl ?_
      | refine RunsD.nil ?_
      | refine Runs.toDraw 30 mixed hn rfl (by kernel_rfl) rfl ?_
      | ((first | refine RunsL.pe hn rfl rfl rfl ?_ | refine RunsD.pe rfl rfl ?_); first
        | refine ⟨_, pu_add rfl rfl (by omega), ?_⟩
        | refine ⟨_, pu_indexAddr_map rfl rfl (by omega) (by assumption), ?_⟩
        | refine ⟨_, pu_sub rfl rfl (by omega), ?_⟩
        | refine ⟨_, pu_pick_b rfl rfl rfl, ?_⟩
        | refine ⟨_, pu_mul rfl rfl (by omega), ?_⟩
        | refine ⟨_, pu_build rfl rfl rfl rfl rfl rfl, ?_⟩)
      | ((first | refine RunsL.guard_dec rfl rfl rfl ?_ ?_ | refine RunsL.guard_ndec rfl rfl rfl ?_ ?_ | refine RunsL.guard_nb rfl rfl rfl ?_ ?_ | refine RunsL.guard_b rfl rfl rfl ?_ ?_ | refine RunsD.guard_dec rfl rfl rfl ?_ ?_ | refine RunsD.guard_ndec rfl rfl rfl ?_ ?_ | refine RunsD.guard_nb rfl rfl rfl ?_ ?_ | refine RunsD.guard_b rfl rfl rfl ?_ ?_) <;> intro h <;> try (exfalso; first | omega | contradiction | (simp only [List.length_map] at h; omega))))
    all_goals exact rr_bool rfl
set_option maxRecDepth 100000 in
theorem lifted (os : Os) (started : os.Started) (H : Type) (enc : TypeId × Value → H) :
    ReturnsInHanded {} Try.checked os 9 .any (Rows.fnUnsafeCodeSpec.pre6 enc Try.prog Try.f9 Rows.fnUnsafeCodeRow.domain false) (Rows.fnUnsafeCodeSpec.post enc Try.prog Try.f9 false true false false) := by
  refine returnsInHanded_of_change (C := Try.checked) own started (by kernel_rfl) Try.func9
    (ChangeSpec.witness6 (enc := enc) (C := Try.checked) false ⟨#[], #[.slice none 0 0], []⟩ 8 (by kernel_rfl) (by kernel_rfl) (by kernel_rfl) (by kernel_rfl)) ?_
  intro W base args ds gs before hval0 hW hcnd _
  have hval : ∀ (j : Nat) t v, Try.f9.params[j]? = some t → args[j]? = some v → Value.okWide Try.prog W .any base t v := hval0
  have hW' := hW
  obtain ⟨p, q, hA0, hV, rfl, hfz, hnd⟩ := hW
  have hA : DataW.TrodAll enc Try.prog W 0 (fun _ => true) true Try.f9.params.toList args.toList ds p := hA0
  rw [Try.params9] at hA hval
  obtain ⟨v0, vs0, d0, ds0, p0, q0, hargs, rfl, rfl, h0, r0⟩ := trodAll_cons hA
  obtain ⟨rfl, rfl, rfl⟩ := trodAll_nil r0
  obtain rfl : args = #[v0] := by cases args; simp_all
  obtain ⟨rfl, rfl⟩ := trodVars_none hV
  have k0 := h0
  have lt0 : ∀ x ∈ p0, x.block < W.heap.size := by obtain ⟨m, hm⟩ := k0; exact DataW.trod_lt m _ _ _ hm
  obtain ⟨r0', t0, e0⟩ := open_slice1 plainsOk rfl Try.underlying22 (hval 0 22 v0 rfl rfl) h0
  obtain ⟨a0, q0, w0⟩ := t0.bytes Try.underlying22 Try.underlying5 (by kernel_rfl)
  injection q0 with q0; subst q0
  clear hA0 hval0
  refine (AC.law (law_ac a0 w0) W _ (cons_rels e0 nil_rels)).mono fun e W' ⟨he, bel⟩ => ?_
  subst he
  exact ⟨_, rfl, _, _, _, [], _, [], hW', trodAll_mk1 (shut_bool Try.underlying4 _), (trodAll_cons_mk (Below.trod laidOut (by kernel_rfl) (of_decide_eq_true (by kernel_rfl)) k0 bel lt0) trodAll_mk0), rfl, bel.frame _, fun h => by cases h⟩
theorem over : Rows.fnUnsafeCodeRow.holds Try.pinned (OpenSpec.ofChange Rows.fnUnsafeCodeSpec) :=
  OpenClaim.holds_of_wide 9 Try.f9 rfl rfl rfl rfl rfl rfl rfl ⟨rfl, rfl, rfl, rfl, rfl⟩ rfl rfl rfl rfl rfl (by kernel_rfl) Try.func9 (by kernel_rfl)
    (of_decide_eq_true (by kernel_rfl)) (by unfold Func.isWrapper; rw [if_neg (of_decide_eq_false (by kernel_rfl))]; exact ⟨rfl, rfl⟩)
    (fun os started H enc _ => lifted os started H enc)
/-- The statement. -/
theorem proved : Rows.FnUnsafeCodeSaid := over
#print axioms proved
end Go.Proofs.Ytnecoghfhcimeaa.fnUnsafeCode
