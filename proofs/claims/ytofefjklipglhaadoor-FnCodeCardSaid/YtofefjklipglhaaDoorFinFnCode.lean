/- The law FnCode holds: for every input the Go function returns true, and each argument reads as before. On the card: the tables of the library hold what the program's own text lays. No other condition. -/
import Derived.Test.YtofefjklipglhaaDoorRows
import Derived.Test.YtofefjklipglhaaDoorCards
import Derived.Test.YtofefjklipglhaaDoorTie
import Derived.Test.YtofefjklipglhaaDoorGat0
import Derived.Test.YtofefjklipglhaaDoorGat1
import Derived.Test.YtofefjklipglhaaDoorGat2
import Derived.Test.YtofefjklipglhaaDoorGat3
import Derived.Test.YtofefjklipglhaaDoorGat4
import Derived.Test.YtofefjklipglhaaDoorGat5
import Derived.WalkKit
import Derived.ProofKit
import Derived.OpenShut
import Derived.ShutString
import Derived.ChangeOld
import Derived.Below
import Derived.Outline
import Derived.LaidMore
import Derived.MakeChecks
import Derived.Stop.Joined
import Derived.Stop.LaidErr
import Derived.SevenTiedAt
namespace Go.Proofs.YtofefjklipglhaaDoor.fnCode
set_option linter.unusedSimpArgs false
set_option linter.unusedVariables false
set_option maxRecDepth 100000
open Go.ChangeShapes Go.WideShapes Go.ChangeAt Go.RowKit
open Go.ChangeMaps (open_string shut_string)
theorem own : ownKnob Tryd.prog.godebug = none := by kernel_rfl
theorem laidOut : laidOutB Tryd.prog = true := by kernel_rfl
theorem w64_i64 (x : Int) : I64 (w64 x) := by simp only [I64, w64, IntKind.wrap, IntKind.bits, IntKind.signed]; simp; omega
theorem i64_small {x : Int} (h : -1000 ≤ x ∧ x ≤ 1000000) : I64 x := by unfold I64; omega
theorem callI_i64 {en : List Int} (hen : ∀ z ∈ en, I64 z) (r : Int) : I64 (callI en r).a ∧ I64 (callI en r).b := by
  refine ⟨?_, i64_small (x := 0) (by omega)⟩
  unfold callI
  show I64 ((en[r.toNat]?).getD 0)
  cases h : en[r.toNat]? with
  | none => exact i64_small (x := 0) (by omega)
  | some z => exact hen z (List.mem_of_getElem? h)
theorem chCalls_i64 {kids en : List Int} (hen : ∀ z ∈ en, I64 z) (j : Nat) : ∀ y ∈ chCalls kids en j, I64 y.a ∧ I64 y.b := fun y hy => by
  unfold chCalls at hy
  obtain ⟨i, _, hi⟩ := List.mem_flatMap.1 hy
  rcases List.mem_append.1 hi with h | h
  · split at h
    · simp at h
    · simp at h; subst h; exact ⟨i64_small (by simp), i64_small (by simp)⟩
  · simp at h; subst h; exact callI_i64 hen _
theorem rule_i64 {d : Des} (hD : DrawD d) {j : Nat} {x : Rul} (hx : d[j]? = some x) (s : Int) {en : List Int} (hen : ∀ z ∈ en, I64 z) : ∀ y ∈ ruleI x s en, I64 y.a ∧ I64 y.b := by
  have hlen := hD.lens hx
  have z0 : I64 0 := i64_small (by omega)
  have hsz : I64 x.size := i64_small (by omega)
  have hc : ∀ r, I64 (callI en r).a ∧ I64 (callI en r).b := callI_i64 hen
  have hu : ∀ c : UInt8, I64 (c.toNat : Int) := fun c => i64_small (by have := c.toNat_lt; omega)
  intro y hy
  unfold ruleI at hy
  rcases (List.mem_append.1 hy).symm with hy | hy
  · simp at hy; subst hy; exact ⟨z0, z0⟩
  unfold bodyI at hy
  split at hy
  · simp at hy; subst hy; exact ⟨hsz, by show I64 (if x.little = true then 1 else 0); split <;> exact i64_small (by omega)⟩
  split at hy
  · obtain ⟨b, _, rfl⟩ := List.mem_map.1 hy; exact ⟨hu b, z0⟩
  split at hy
  · simp at hy; subst hy; exact ⟨hsz, z0⟩
  split at hy
  · simp only [List.mem_cons, List.not_mem_nil, or_false] at hy
    rcases hy with rfl | rfl
    · exact hc _
    · exact ⟨z0, z0⟩
  split at hy
  · simp only [List.mem_cons, List.not_mem_nil, or_false] at hy
    rcases hy with rfl | rfl | rfl | rfl | rfl | rfl
    · exact hc _
    · exact ⟨i64_small (x := 40) (by omega), z0⟩
    · exact ⟨z0, z0⟩
    · exact ⟨w64_i64 _, z0⟩
    · exact hc _
    · exact ⟨w64_i64 _, z0⟩
  split at hy
  · obtain ⟨b, _, rfl⟩ := List.mem_map.1 hy; exact hc _
  split at hy
  · rcases List.mem_cons.1 hy with rfl | hy
    · exact hc _
    rcases List.mem_append.1 hy with hy | hy
    · obtain ⟨i, hi⟩ := List.getElem?_of_mem hy
      obtain ⟨h1, rfl⟩ := chTags_at hi
      obtain ⟨t, ht⟩ : ∃ t, x.tags[i]? = some t := ⟨_, List.getElem?_eq_getElem h1⟩
      have htb := hlen.2.2.2.2.2.2.1 t (List.mem_of_getElem? ht)
      rw [ht]
      exact ⟨i64_small (x := t) (by omega), w64_i64 _⟩
    · rcases List.mem_cons.1 hy with rfl | hy
      · exact ⟨i64_small (x := 3) (by omega), z0⟩
      · exact chCalls_i64 hen _ y hy
  split at hy
  · simp only [List.mem_cons, List.not_mem_nil, or_false] at hy
    rcases hy with rfl | rfl
    · exact ⟨w64_i64 _, z0⟩
    · exact hc _
  split at hy
  · simp only [List.mem_cons, List.not_mem_nil, or_false] at hy
    rcases hy with rfl | rfl | rfl
    · exact ⟨z0, z0⟩
    · exact hc _
    · exact ⟨z0, z0⟩
  · simp at hy; subst hy; exact ⟨hu _, z0⟩
set_option maxRecDepth 100000 in
set_option maxHeartbeats 32000000 in
theorem law_act (code : List UInt8) (wl : code.length ≤ maxLen) : ACtv TabT Tryd.prog 3 [bytesR code] (.bool true) := by
  have hB := big_ac code
  refine act_enter tabT_lasts Tryd.func3 rfl _ Tryd.ntmps3 (by simp) fun C hn hm hb => ?_
  by_cases hbig : (1048576 : Int) < code.length
  · repeat' (first
    | refine RunsL.step tabOk hn rfl ?_
    | refine RunsL.nil ?_
    | refine Runs.toRegion 30 rfl ?_
    | ((first | refine RunsL.pe hn rfl rfl rfl ?_ | refine RunsD.pe rfl rfl ?_); first
      | refine ⟨_, pu_callR hB rfl, ?_⟩)
    | (refine Runs.ctls 30 rfl ?_; first | refine Runs.cond_f rfl ?_ | ((first | refine Runs.cond_yes rfl ?_ ?_ | refine Runs.cond_nno rfl ?_ ?_); · first | omega | rfl | assumption | (simp only [List.length_map]; omega)) | ((first | refine Runs.cond_no rfl ?_ ?_ | refine Runs.cond_nyes rfl ?_ ?_); · first | omega | rfl | assumption | (simp only [List.length_map]; omega)) | refine Runs.ret (ends_ro hm rfl rfl ?_) | exact Runs.ret (ends_cellR hm rfl rfl rfl (Nat.le_of_ble_eq_true rfl) rfl rfl))
    | refine op_alloc (tl hn rfl) ?_
    | refine op_storeN rfl rfl rfl rfl (Nat.le_of_ble_eq_true rfl) ?_
    | refine RunsD.step tabOk hn rfl rfl ?_
    | refine RunsD.nil ?_
    | refine Runs.toDraw 30 mixed hn rfl (by kernel_rfl) rfl ?_
    | ((first | refine RunsL.pe hn rfl rfl rfl ?_ | refine RunsD.pe rfl rfl ?_); first
      | refine ⟨_, pu_add rfl rfl (by omega), ?_⟩
      | refine ⟨_, pu_indexAddr_map rfl rfl (by omega) (by assumption), ?_⟩
      | refine ⟨_, pu_sub rfl rfl (by omega), ?_⟩
      | refine ⟨_, pu_pick_b rfl rfl rfl, ?_⟩
      | refine ⟨_, pu_mul rfl rfl (by omega), ?_⟩
      | refine ⟨_, pu_build rfl rfl rfl rfl rfl rfl, ?_⟩)
    | ((first | refine RunsL.guard_dec rfl rfl rfl ?_ ?_ | refine RunsL.guard_ndec rfl rfl rfl ?_ ?_ | refine RunsL.guard_nb rfl rfl rfl ?_ ?_ | refine RunsL.guard_b rfl rfl rfl ?_ ?_ | refine RunsD.guard_dec rfl rfl rfl ?_ ?_ | refine RunsD.guard_ndec rfl rfl rfl ?_ ?_ | refine RunsD.guard_nb rfl rfl rfl ?_ ?_ | refine RunsD.guard_b rfl rfl rfl ?_ ?_) <;> intro h <;> try (exfalso; first | omega | contradiction | (simp only [List.length_map] at h; omega))))
    all_goals exact rr_bool rfl
  have hl : code.length ≤ 1048576 := by omega
  repeat' (first
    | (refine op_callQ (drawDescription_ac code hl) (Q := fun r => ∃ d, r = desR d ∧ DrawD d) (by rintro _ ⟨d, rfl, hd⟩; exact ⟨_, by simp [Seals], d, rfl, hd⟩) rfl (tl hn rfl) ?_; rintro _ ⟨d, rfl, hD⟩)
    | refine RunsL.step tabOk hn rfl ?_
    | refine RunsL.nil ?_
    | refine Runs.toRegion 30 rfl ?_
    | ((first | refine RunsL.pe hn rfl rfl rfl ?_ | refine RunsD.pe rfl rfl ?_); first
      | refine ⟨_, pu_callR hB rfl, ?_⟩)
    | (refine Runs.ctls 30 rfl ?_; first | refine Runs.cond_f rfl ?_ | ((first | refine Runs.cond_yes rfl ?_ ?_ | refine Runs.cond_nno rfl ?_ ?_); · first | omega | rfl | assumption | (simp only [List.length_map]; omega)) | ((first | refine Runs.cond_no rfl ?_ ?_ | refine Runs.cond_nyes rfl ?_ ?_); · first | omega | rfl | assumption | (simp only [List.length_map]; omega)) | refine Runs.ret (ends_ro hm rfl rfl ?_) | exact Runs.ret (ends_cellR hm rfl rfl rfl (Nat.le_of_ble_eq_true rfl) rfl rfl))
    | refine op_alloc (tl hn rfl) ?_
    | refine op_storeN rfl rfl rfl rfl (Nat.le_of_ble_eq_true rfl) ?_
    | refine RunsD.step tabOk hn rfl rfl ?_
    | refine RunsD.nil ?_
    | refine Runs.toDraw 30 mixed hn rfl (by kernel_rfl) rfl ?_
    | ((first | refine RunsL.pe hn rfl rfl rfl ?_ | refine RunsD.pe rfl rfl ?_); first
      | refine ⟨_, pu_add rfl rfl (by omega), ?_⟩
      | refine ⟨_, pu_indexAddr_map rfl rfl (by omega) (by assumption), ?_⟩
      | refine ⟨_, pu_sub rfl rfl (by omega), ?_⟩
      | refine ⟨_, pu_pick_b rfl rfl rfl, ?_⟩
      | refine ⟨_, pu_mul rfl rfl (by omega), ?_⟩
      | refine ⟨_, pu_build rfl rfl rfl rfl rfl rfl, ?_⟩)
    | ((first | refine RunsL.guard_dec rfl rfl rfl ?_ ?_ | refine RunsL.guard_ndec rfl rfl rfl ?_ ?_ | refine RunsL.guard_nb rfl rfl rfl ?_ ?_ | refine RunsL.guard_b rfl rfl rfl ?_ ?_ | refine RunsD.guard_dec rfl rfl rfl ?_ ?_ | refine RunsD.guard_ndec rfl rfl rfl ?_ ?_ | refine RunsD.guard_nb rfl rfl rfl ?_ ?_ | refine RunsD.guard_b rfl rfl rfl ?_ ?_) <;> intro h <;> try (exfalso; first | omega | contradiction | (simp only [List.length_map] at h; omega))))
  have hG := hD.good
  have hd1 := hD.pos
  have hd6 := hD.most
  have hdo := hD.desOk
  have hdt : dtotal d ≤ 1048576 := by have := hD.total; omega
  have hlm : (d.map rulR).length = d.length := List.length_map ..
  have hel : ((cdF d).entries.map fun z => [RV.int z]).length = d.length := by rw [List.length_map, cdF_entl hD]
  have hcl : ((cdF d).code.map insR).length = (cdF d).code.length := List.length_map ..
  have hPB := safe_big hD
  have hcs := code_short hD
  have hC := (impl_CompileDescription d hdo hdt).shut (r := prgR (cdF d)) (by rintro _ rfl; exact seals_prg _)
  have hS := impl_IsSafeProgram (cdF d) hPB
  rw [decide_eq_true (safe_cdF hD)] at hS
  have hnd := need_cdF hD
  have hF := impl_FitsMachine (cdF d) hPB
  rw [decide_eq_true ⟨safe_cdF hD, by omega⟩] at hF
  have hZ := impl_CodeSize d hdo hdt
  have hSt := impl_StackNeeded (cdF d) hPB
  have hst : stackN (cdF d) = need (cdF d) := by unfold stackN; rw [if_pos (safe_cdF hD)]
  rw [hst] at hSt
  have hCO := impl_CountOpsA (cdF d) 17 (by omega)
  rw [cdF_one17 hD] at hCO
  have hCO : ACv Tryd.prog 14 [prgR (cdF d), .int 17] (.int 1) := hCO
  have hEP := impl_EqualPrograms (cdF d) (cdF d) (by unfold maxLen; omega) (by rw [cdF_entl hD]; unfold maxLen; omega)
  rw [decide_eq_true rfl] at hEP
  generalize need (cdF d) = nd at hnd hSt
  repeat' (first
    | ((first | refine RunsL.pe hn rfl rfl rfl ?_ | refine RunsD.pe rfl rfl ?_); first
      | refine ⟨_, pu_len_seqN d.length rfl hlm, ?_⟩
      | refine ⟨_, pu_len_seqN d.length rfl hel, ?_⟩
      | refine ⟨_, pu_len_seqN (cdF d).code.length rfl hcl, ?_⟩)
    | refine RunsL.step tabOk hn rfl ?_
    | refine RunsL.nil ?_
    | refine Runs.toRegion 30 rfl ?_
    | ((first | refine RunsL.pe hn rfl rfl rfl ?_ | refine RunsD.pe rfl rfl ?_); first
      | refine ⟨_, pu_callR hC rfl, ?_⟩
      | refine ⟨_, pu_callR hS rfl, ?_⟩
      | refine ⟨_, pu_callR hF rfl, ?_⟩
      | refine ⟨_, pu_callR hZ rfl, ?_⟩)
    | (refine Runs.ctls 30 rfl ?_; first | refine Runs.cond_f rfl ?_ | ((first | refine Runs.cond_yes rfl ?_ ?_ | refine Runs.cond_nno rfl ?_ ?_); · first | omega | rfl | assumption | (simp only [List.length_map]; omega)) | ((first | refine Runs.cond_no rfl ?_ ?_ | refine Runs.cond_nyes rfl ?_ ?_); · first | omega | rfl | assumption | (simp only [List.length_map]; omega)) | refine Runs.ret (ends_ro hm rfl rfl ?_) | exact Runs.ret (ends_cellR hm rfl rfl rfl (Nat.le_of_ble_eq_true rfl) rfl rfl))
    | refine op_alloc (tl hn rfl) ?_
    | refine op_storeN rfl rfl rfl rfl (Nat.le_of_ble_eq_true rfl) ?_
    | refine RunsD.step tabOk hn rfl rfl ?_
    | refine RunsD.nil ?_
    | refine Runs.toDraw 30 mixed hn rfl (by kernel_rfl) rfl ?_
    | ((first | refine RunsL.pe hn rfl rfl rfl ?_ | refine RunsD.pe rfl rfl ?_); first
      | refine ⟨_, pu_add rfl rfl (by omega), ?_⟩
      | refine ⟨_, pu_indexAddr_map rfl rfl (by omega) (by assumption), ?_⟩
      | refine ⟨_, pu_sub rfl rfl (by omega), ?_⟩
      | refine ⟨_, pu_pick_b rfl rfl rfl, ?_⟩
      | refine ⟨_, pu_mul rfl rfl (by omega), ?_⟩
      | refine ⟨_, pu_build rfl rfl rfl rfl rfl rfl, ?_⟩)
    | ((first | refine RunsL.guard_dec rfl rfl rfl ?_ ?_ | refine RunsL.guard_ndec rfl rfl rfl ?_ ?_ | refine RunsL.guard_nb rfl rfl rfl ?_ ?_ | refine RunsL.guard_b rfl rfl rfl ?_ ?_ | refine RunsD.guard_dec rfl rfl rfl ?_ ?_ | refine RunsD.guard_ndec rfl rfl rfl ?_ ?_ | refine RunsD.guard_nb rfl rfl rfl ?_ ?_ | refine RunsD.guard_b rfl rfl rfl ?_ ?_) <;> intro h <;> try (exfalso; first | omega | contradiction | (simp only [List.length_map] at h; omega))))
  let S : List Ob := [⟨26, 0, [.ro (rulsR d)]⟩, ⟨31, 0, [.ro (inssR (cdF d).code), .ro (intsR (cdF d).entries)]⟩]
  refine Runs.loopN 30 rfl (fun i => [(3, .obj 0 0), (4, .obj 1 0), (5, .int (i : Int))]) (fun _ => S) (fun _ => True) d.length 0 (Nat.zero_le _) trivial ⟨rfl, rfl, rfl, trivial⟩ rfl fun i hi _ next => ?_
  by_cases hlt : i < d.length
  · have hx : d[i]? = some _ := List.getElem?_eq_getElem hlt
    have hent : (cdF d).entries[(i : Int).toNat]? = some (stA d i : Int) := cdF_ent hD hlt
    have hnx := stA_next d i
    have hmono := stA_mono d d.length (i + 1) (by omega)
    have hbb := blk_bd hD hlt
    have hcodel := cdF_codel hD
    have hCR : ACv Tryd.prog 10 [desR d, .int (i : Int), .int (stA d i : Int), intsR ((cdF d).entries.take i)] (inssR (blk d i)) :=
      (impl_CompileRule d hdo hdt i (stA d i : Int) ((cdF d).entries.take i)).shut (r := inssR (blk d i)) (by
        rintro _ rfl
        rw [cdF_ents hD, cdE_take d _ _ (by omega)]
        exact seals_inss _ _)
    have hbl : ((blk d i).map insR).length = (blk d i).length := List.length_map ..
    have hBO := impl_BlockOfA (cdF d) (stA d i : Int) (by rw [cdF_entl hD]; unfold maxLen; omega)
    rw [bo_at hD hlt (Int.le_refl _) (by omega)] at hBO
    repeat' (first
      | ((first | refine RunsL.pe hn rfl rfl rfl ?_ | refine RunsD.pe rfl rfl ?_); first
        | refine ⟨_, pu_len_seqN d.length rfl hlm, ?_⟩
        | refine ⟨_, pu_len_seqN d.length rfl hel, ?_⟩
        | refine ⟨_, pu_len_seqN (cdF d).code.length rfl hcl, ?_⟩
        | refine ⟨_, pu_len_seqN (blk d i).length rfl hbl, ?_⟩)
      | refine RunsL.step tabOk hn rfl ?_
      | refine RunsL.nil ?_
      | refine Runs.toRegion 30 rfl ?_
      | ((first | refine RunsL.pe hn rfl rfl rfl ?_ | refine RunsD.pe rfl rfl ?_); first
        | refine ⟨_, pu_slice_hM rfl rfl (by omega) (by rw [cdF_entl hD]; omega), ?_⟩
        | refine ⟨_, pu_callR hCR rfl, ?_⟩
        | refine ⟨_, pu_callR hBO rfl, ?_⟩)
      | (refine Runs.ctls 30 rfl ?_; first | refine Runs.cond_f rfl ?_ | ((first | refine Runs.cond_yes rfl ?_ ?_ | refine Runs.cond_nno rfl ?_ ?_); · first | omega | rfl | assumption | (simp only [List.length_map]; omega)) | ((first | refine Runs.cond_no rfl ?_ ?_ | refine Runs.cond_nyes rfl ?_ ?_); · first | omega | rfl | assumption | (simp only [List.length_map]; omega)) | refine Runs.ret (ends_ro hm rfl rfl ?_) | exact Runs.ret (ends_cellR hm rfl rfl rfl (Nat.le_of_ble_eq_true rfl) rfl rfl))
      | refine op_alloc (tl hn rfl) ?_
      | refine op_storeN rfl rfl rfl rfl (Nat.le_of_ble_eq_true rfl) ?_
      | refine RunsD.step tabOk hn rfl rfl ?_
      | refine RunsD.nil ?_
      | refine Runs.toDraw 30 mixed hn rfl (by kernel_rfl) rfl ?_
      | ((first | refine RunsL.pe hn rfl rfl rfl ?_ | refine RunsD.pe rfl rfl ?_); first
        | refine ⟨_, pu_add rfl rfl (by omega), ?_⟩
        | refine ⟨_, pu_indexAddr_map rfl rfl (by omega) (by assumption), ?_⟩
        | refine ⟨_, pu_sub rfl rfl (by omega), ?_⟩
        | refine ⟨_, pu_pick_b rfl rfl rfl, ?_⟩
        | refine ⟨_, pu_mul rfl rfl (by omega), ?_⟩
        | refine ⟨_, pu_build rfl rfl rfl rfl rfl rfl, ?_⟩)
      | ((first | refine RunsL.guard_dec rfl rfl rfl ?_ ?_ | refine RunsL.guard_ndec rfl rfl rfl ?_ ?_ | refine RunsL.guard_nb rfl rfl rfl ?_ ?_ | refine RunsL.guard_b rfl rfl rfl ?_ ?_ | refine RunsD.guard_dec rfl rfl rfl ?_ ?_ | refine RunsD.guard_ndec rfl rfl rfl ?_ ?_ | refine RunsD.guard_nb rfl rfl rfl ?_ ?_ | refine RunsD.guard_b rfl rfl rfl ?_ ?_) <;> intro h <;> try (exfalso; first | omega | contradiction | (simp only [List.length_map] at h; omega))))
    refine Runs.loopN 30 rfl (fun k => [(3, .obj 0 0), (4, .obj 1 0), (5, .int (i : Int)), (6, .ro (inssR (blk d i))), (7, .int (k : Int))]) (fun _ => S) (fun _ => True) (blk d i).length 0 (Nat.zero_le _) trivial ⟨rfl, rfl, rfl, rfl, rfl, trivial⟩ rfl fun k hk _ next2 => ?_
    by_cases hlt2 : k < (blk d i).length
    · obtain ⟨y, hy⟩ : ∃ y, (blk d i)[(k : Int).toNat]? = some y := ⟨_, List.getElem?_eq_getElem hlt2⟩
      have hy' : (blk d i)[k]? = some y := hy
      have hyc : (cdF d).code[((stA d i : Int) + (k : Int)).toNat]? = some y := (op_blk hD hlt hy' _ rfl).1
      have hyo := blk_ops hD hlt hy'
      have hyi : I64 y.a ∧ I64 y.b := by
        have hmm := List.mem_of_getElem? hy'
        rw [blk_rule hD hx] at hmm
        exact rule_i64 hD hx _ (fun z hz => by obtain ⟨j, hj, rfl⟩ := cdE_mem hz; have := stA_le hD j (by omega); exact i64_small (by omega)) y hmm
      obtain ⟨s, hFI, hs3⟩ := impl_FJ y.op y.a y.b hyi.1 hyi.2 hyo
      have hsn : ¬ s = ⟨#[63]⟩ := fun e => by rw [e] at hs3; exact absurd hs3 (by decide)
      have hBO2 := impl_BlockOfA (cdF d) ((stA d i : Int) + (k : Int)) (by rw [cdF_entl hD]; unfold maxLen; omega)
      rw [bo_at hD hlt (by omega) (by omega)] at hBO2
      repeat' (first
        | ((first | refine RunsL.pe hn rfl rfl rfl ?_ | refine RunsD.pe rfl rfl ?_); first
          | refine ⟨_, pu_len_seqN d.length rfl hlm, ?_⟩
          | refine ⟨_, pu_len_seqN d.length rfl hel, ?_⟩
          | refine ⟨_, pu_len_seqN (cdF d).code.length rfl hcl, ?_⟩
          | refine ⟨_, pu_len_seqN (blk d i).length rfl hbl, ?_⟩
          | refine ⟨_, pu_binA (vx := insV y) (vy := insV y) (vz := .bool false) rfl rfl (by intro w; rw [ins_neq]; simp), ?_⟩
          | refine ⟨_, pu_eqlDiff rfl rfl hsn, ?_⟩)
        | refine RunsL.step tabOk hn rfl ?_
        | refine RunsL.nil ?_
        | refine Runs.toRegion 30 rfl ?_
        | ((first | refine RunsL.pe hn rfl rfl rfl ?_ | refine RunsD.pe rfl rfl ?_); first
          | refine ⟨_, pu_callR hBO2 rfl, ?_⟩
          | refine ⟨_, pu_callW (r := .str s) hb hFI rfl, ?_⟩)
        | (refine Runs.ctls 30 rfl ?_; first | refine Runs.cond_f rfl ?_ | ((first | refine Runs.cond_yes rfl ?_ ?_ | refine Runs.cond_nno rfl ?_ ?_); · first | omega | rfl | assumption | (simp only [List.length_map]; omega)) | ((first | refine Runs.cond_no rfl ?_ ?_ | refine Runs.cond_nyes rfl ?_ ?_); · first | omega | rfl | assumption | (simp only [List.length_map]; omega)) | refine Runs.ret (ends_ro hm rfl rfl ?_) | exact Runs.ret (ends_cellR hm rfl rfl rfl (Nat.le_of_ble_eq_true rfl) rfl rfl))
        | refine op_alloc (tl hn rfl) ?_
        | refine op_storeN rfl rfl rfl rfl (Nat.le_of_ble_eq_true rfl) ?_
        | refine RunsD.step tabOk hn rfl rfl ?_
        | refine RunsD.nil ?_
        | refine Runs.toDraw 30 mixed hn rfl (by kernel_rfl) rfl ?_
        | ((first | refine RunsL.pe hn rfl rfl rfl ?_ | refine RunsD.pe rfl rfl ?_); first
          | refine ⟨_, pu_add rfl rfl (by omega), ?_⟩
          | refine ⟨_, pu_indexAddr_map rfl rfl (by omega) (by assumption), ?_⟩
          | refine ⟨_, pu_sub rfl rfl (by omega), ?_⟩
          | refine ⟨_, pu_pick_b rfl rfl rfl, ?_⟩
          | refine ⟨_, pu_mul rfl rfl (by omega), ?_⟩
          | refine ⟨_, pu_build rfl rfl rfl rfl rfl rfl, ?_⟩)
        | ((first | refine RunsL.guard_dec rfl rfl rfl ?_ ?_ | refine RunsL.guard_ndec rfl rfl rfl ?_ ?_ | refine RunsL.guard_nb rfl rfl rfl ?_ ?_ | refine RunsL.guard_b rfl rfl rfl ?_ ?_ | refine RunsD.guard_dec rfl rfl rfl ?_ ?_ | refine RunsD.guard_ndec rfl rfl rfl ?_ ?_ | refine RunsD.guard_nb rfl rfl rfl ?_ ?_ | refine RunsD.guard_b rfl rfl rfl ?_ ?_) <;> intro h <;> try (exfalso; first | omega | contradiction | (simp only [List.length_map] at h; omega))))
      exact next2 _ _ ⟨rfl, rfl, rfl, rfl, rfl, trivial⟩ hlt2 trivial rfl
    · repeat' (first
      | ((first | refine RunsL.pe hn rfl rfl rfl ?_ | refine RunsD.pe rfl rfl ?_); first
        | refine ⟨_, pu_len_seqN d.length rfl hlm, ?_⟩
        | refine ⟨_, pu_len_seqN d.length rfl hel, ?_⟩
        | refine ⟨_, pu_len_seqN (cdF d).code.length rfl hcl, ?_⟩
        | refine ⟨_, pu_len_seqN (blk d i).length rfl hbl, ?_⟩)
      | refine RunsL.step tabOk hn rfl ?_
      | refine RunsL.nil ?_
      | refine Runs.toRegion 30 rfl ?_
      | (refine Runs.ctls 30 rfl ?_; first | refine Runs.cond_f rfl ?_ | ((first | refine Runs.cond_yes rfl ?_ ?_ | refine Runs.cond_nno rfl ?_ ?_); · first | omega | rfl | assumption | (simp only [List.length_map]; omega)) | ((first | refine Runs.cond_no rfl ?_ ?_ | refine Runs.cond_nyes rfl ?_ ?_); · first | omega | rfl | assumption | (simp only [List.length_map]; omega)) | refine Runs.ret (ends_ro hm rfl rfl ?_) | exact Runs.ret (ends_cellR hm rfl rfl rfl (Nat.le_of_ble_eq_true rfl) rfl rfl))
      | refine op_alloc (tl hn rfl) ?_
      | refine op_storeN rfl rfl rfl rfl (Nat.le_of_ble_eq_true rfl) ?_
      | refine RunsD.step tabOk hn rfl rfl ?_
      | refine RunsD.nil ?_
      | refine Runs.toDraw 30 mixed hn rfl (by kernel_rfl) rfl ?_
      | ((first | refine RunsL.pe hn rfl rfl rfl ?_ | refine RunsD.pe rfl rfl ?_); first
        | refine ⟨_, pu_add rfl rfl (by omega), ?_⟩
        | refine ⟨_, pu_indexAddr_map rfl rfl (by omega) (by assumption), ?_⟩
        | refine ⟨_, pu_sub rfl rfl (by omega), ?_⟩
        | refine ⟨_, pu_pick_b rfl rfl rfl, ?_⟩
        | refine ⟨_, pu_mul rfl rfl (by omega), ?_⟩
        | refine ⟨_, pu_build rfl rfl rfl rfl rfl rfl, ?_⟩)
      | ((first | refine RunsL.guard_dec rfl rfl rfl ?_ ?_ | refine RunsL.guard_ndec rfl rfl rfl ?_ ?_ | refine RunsL.guard_nb rfl rfl rfl ?_ ?_ | refine RunsL.guard_b rfl rfl rfl ?_ ?_ | refine RunsD.guard_dec rfl rfl rfl ?_ ?_ | refine RunsD.guard_ndec rfl rfl rfl ?_ ?_ | refine RunsD.guard_nb rfl rfl rfl ?_ ?_ | refine RunsD.guard_b rfl rfl rfl ?_ ?_) <;> intro h <;> try (exfalso; first | omega | contradiction | (simp only [List.length_map] at h; omega))))
      exact next _ _ ⟨rfl, rfl, rfl, trivial⟩ hlt trivial rfl
  · repeat' (first
    | ((first | refine RunsL.pe hn rfl rfl rfl ?_ | refine RunsD.pe rfl rfl ?_); first
      | refine ⟨_, pu_len_seqN d.length rfl hlm, ?_⟩
      | refine ⟨_, pu_len_seqN d.length rfl hel, ?_⟩
      | refine ⟨_, pu_len_seqN (cdF d).code.length rfl hcl, ?_⟩)
    | refine RunsL.step tabOk hn rfl ?_
    | refine RunsL.nil ?_
    | refine Runs.toRegion 30 rfl ?_
    | ((first | refine RunsL.pe hn rfl rfl rfl ?_ | refine RunsD.pe rfl rfl ?_); first
      | refine ⟨_, pu_callR hSt rfl, ?_⟩
      | refine ⟨_, pu_callR hCO rfl, ?_⟩
      | refine ⟨_, pu_callR hEP rfl, ?_⟩
      | refine ⟨_, pu_mul rfl rfl (by omega), ?_⟩)
    | (refine Runs.ctls 30 rfl ?_; first | refine Runs.cond_f rfl ?_ | ((first | refine Runs.cond_yes rfl ?_ ?_ | refine Runs.cond_nno rfl ?_ ?_); · first | omega | rfl | assumption | (simp only [List.length_map]; omega)) | ((first | refine Runs.cond_no rfl ?_ ?_ | refine Runs.cond_nyes rfl ?_ ?_); · first | omega | rfl | assumption | (simp only [List.length_map]; omega)) | refine Runs.ret (ends_ro hm rfl rfl ?_) | exact Runs.ret (ends_cellR hm rfl rfl rfl (Nat.le_of_ble_eq_true rfl) rfl rfl))
    | refine op_alloc (tl hn rfl) ?_
    | refine op_storeN rfl rfl rfl rfl (Nat.le_of_ble_eq_true rfl) ?_
    | refine RunsD.step tabOk hn rfl rfl ?_
    | refine RunsD.nil ?_
    | refine Runs.toDraw 30 mixed hn rfl (by kernel_rfl) rfl ?_
    | ((first | refine RunsL.pe hn rfl rfl rfl ?_ | refine RunsD.pe rfl rfl ?_); first
      | refine ⟨_, pu_add rfl rfl (by omega), ?_⟩
      | refine ⟨_, pu_indexAddr_map rfl rfl (by omega) (by assumption), ?_⟩
      | refine ⟨_, pu_sub rfl rfl (by omega), ?_⟩
      | refine ⟨_, pu_pick_b rfl rfl rfl, ?_⟩
      | refine ⟨_, pu_mul rfl rfl (by omega), ?_⟩
      | refine ⟨_, pu_build rfl rfl rfl rfl rfl rfl, ?_⟩)
    | ((first | refine RunsL.guard_dec rfl rfl rfl ?_ ?_ | refine RunsL.guard_ndec rfl rfl rfl ?_ ?_ | refine RunsL.guard_nb rfl rfl rfl ?_ ?_ | refine RunsL.guard_b rfl rfl rfl ?_ ?_ | refine RunsD.guard_dec rfl rfl rfl ?_ ?_ | refine RunsD.guard_ndec rfl rfl rfl ?_ ?_ | refine RunsD.guard_nb rfl rfl rfl ?_ ?_ | refine RunsD.guard_b rfl rfl rfl ?_ ?_) <;> intro h <;> try (exfalso; first | omega | contradiction | (simp only [List.length_map] at h; omega))))
    all_goals first
      | exact rr_bool rfl
      | (exfalso; omega)
theorem tab_of {W : World} (h : laidMetH Tryd.prog Rows.fnCodeRow.laid W) : TabT W := by
  rw [MakeChecks.laidMetH_plain _ _ _ (by kernel_rfl)] at h
  exact tabT_of (by kernel_rfl) h.tail.tail
theorem door_met (os : Os) (args : Array Value) : laidMetH Tryd.prog Rows.fnCodeRow.laid ((World.doorLaid Tryd.prog 400 os).forCall (fun _ _ => 0) ⟨#[], args, []⟩).memory :=
  laidMetH_of_parts3 (fuel := 8) (laidMet_of_run' 8 (by kernel_rfl) (by kernel_rfl)) (by kernel_rfl) (by kernel_rfl)
set_option maxRecDepth 100000 in
theorem lifted (os : Os) (started : os.Started) (H : Type) (enc : TypeId × Value → H) :
    ReturnsInHanded {} Tryd.checked os 3 .any (fun w args => (Rows.fnCodeSpec.pre enc Tryd.prog Tryd.f3 [] false w args ∧ laidMetH Tryd.prog Rows.fnCodeRow.laid w) ∧ sizedMet enc Tryd.prog Tryd.f3 (OpenSpec.ofChange Rows.fnCodeSpec) false w args)
      (Rows.fnCodeSpec.post enc Tryd.prog Tryd.f3 false true false false) := by
  refine returnsInHanded_of_change_and (C := Tryd.checked) (X := fun w _ => laidMetH Tryd.prog Rows.fnCodeRow.laid w) (fun _ _ _ hh h => h.of_heap hh) own started (by kernel_rfl) Tryd.func3
    (ChangeSpec.witness_shaped (enc := enc) (C := Tryd.checked) (os := os) (X := fun w _ => laidMetH Tryd.prog Rows.fnCodeRow.laid w) false (World.doorLaid Tryd.prog 400 os) #[.slice none 0 0] 8 rfl (World.shaped_of_RefB (by kernel_rfl) (by kernel_rfl)) (by kernel_rfl) (by kernel_rfl) (by kernel_rfl) (door_met os _)) ?_
  intro W base args ds gs before hval0 hW _ _ hL _
  have hval : ∀ (j : Nat) t v, Tryd.f3.params[j]? = some t → args[j]? = some v → Value.okWide Tryd.prog W .any base t v := hval0
  have hW' := hW
  obtain ⟨p, q, hA0, hV, rfl, hfz, hnd⟩ := hW
  have hA : DataW.TrodAll enc Tryd.prog W 0 (fun _ => true) true Tryd.f3.params.toList args.toList ds p := hA0
  rw [Tryd.params3] at hA hval
  obtain ⟨v0, vs0, d0, ds0, p0, q0, hargs, rfl, rfl, h0, r0⟩ := trodAll_cons hA
  obtain ⟨rfl, rfl, rfl⟩ := trodAll_nil r0
  obtain rfl : args = #[v0] := by cases args; simp_all
  obtain ⟨rfl, rfl⟩ := trodVars_none hV
  have k0 := h0
  have lt0 : ∀ x ∈ p0, x.block < W.heap.size := by obtain ⟨m, hm⟩ := k0; exact DataW.trod_lt m _ _ _ hm
  obtain ⟨r0', t0, e0⟩ := open_slice1 plainsOk rfl Tryd.underlying22 (hval 0 22 v0 rfl rfl) h0
  obtain ⟨a0, q0, w0⟩ := t0.bytes Tryd.underlying22 Tryd.underlying5 (by kernel_rfl)
  injection q0 with q0; subst q0
  clear hA0 hval0
  refine (ACt.law (law_act a0 w0) W (tab_of hL) _ (cons_rels e0 nil_rels)).mono fun e W' ⟨he, bel⟩ => ?_
  subst he
  exact ⟨_, rfl, _, _, _, [], _, [], hW', trodAll_mk1 (shut_bool Tryd.underlying4 _), (trodAll_cons_mk (Below.trod laidOut (by kernel_rfl) (of_decide_eq_true (by kernel_rfl)) k0 bel lt0) trodAll_mk0), rfl, bel.frame _, fun h => by cases h⟩
theorem over : Rows.fnCodeRow.holds Tryd.pinned (OpenSpec.ofChange Rows.fnCodeSpec) :=
  OpenClaim.holds_of_wide 3 Tryd.f3 rfl rfl rfl rfl rfl rfl rfl ⟨rfl, rfl, rfl, rfl, rfl⟩ rfl rfl rfl rfl rfl (by kernel_rfl) Tryd.func3 (by kernel_rfl)
    (of_decide_eq_true (by kernel_rfl)) (by unfold Func.isWrapper; rw [if_neg (of_decide_eq_false (by kernel_rfl))]; exact ⟨rfl, rfl⟩)
    (fun os started H enc _ => lifted os started H enc)
/-- The statement: the card. -/
theorem proved : Rows.FnCodeCardSaid :=
  Claim7.holds_tied_plain_at .later [] [.data, .data, .data] true Rows.fnCodeCard.stood.harness false
    over (fun _ h => by cases h) (by kernel_rfl) (fun _ h => by cases h) fnCode_row_tie rfl ⟨rfl, rfl⟩ (by kernel_rfl) rfl
    (fun f fn hf hfn => by
      obtain rfl : f = 3 := Option.some.inj ((show Tryd.prog.funcNamed Rows.fnCodeRow.func = some 3 by kernel_rfl).symm.trans hf) |>.symm
      obtain rfl : fn = Tryd.f3 := (Option.some.inj (Tryd.func3.symm.trans hfn)).symm
      exact ⟨by kernel_rfl, fun j t ht => by
        rw [Tryd.params3] at ht
        have hm : t ∈ ([22] : List TypeId) := by simpa using Array.mem_of_getElem? ht
        have hall : (([22] : List TypeId).all fun u => !Tryd.prog.wantsStandIn u) = true := by kernel_rfl
        exact (show Tryd.prog.wantsStandIn t = false by simpa using List.all_eq_true.1 hall t hm)⟩)
    (by kernel_rfl)
#print axioms proved
end Go.Proofs.YtofefjklipglhaaDoor.fnCode
