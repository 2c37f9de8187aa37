/- Gathered texts. -/
import Derived.Test.YtdikinkihnepaaaGat0
import Derived.Test.YtdikinkihnepaaaGat1
import Derived.Test.YtdikinkihnepaaaGat2
import Derived.Test.YtdikinkihnepaaaGat3
import Derived.Test.YtdikinkihnepaaaGat4
/- The draw of a rule: l4Make. -/
namespace Go.Proofs.Ytdikinkihnepaaa
set_option linter.unusedSimpArgs false
set_option linter.unusedVariables false
open Go.RowKit
open AV (Mem Keeps)
set_option maxHeartbeats 8000000 in
theorem l4Make1_d (b : List UInt8) (hb : b.length ≤ 1048576) (d : Des) (hd : d.length ≤ 24) : Drw Try.prog 102 97 b [desR d, .int 1] (QRul (RuleD d 1)) := by
  have hlm : (d.map rulR).length = d.length := List.length_map ..
  have hF := spec_FormatInt (d.length : Int) (by constructor <;> omega)
  have hlen := itoa_len (d.length : Int) (by omega) (by omega)
  have hfs : (⟨(Lib.itoa (d.length : Int)).toArray⟩ : ByteArray).size ≤ 20 := by rw [ba_size]; exact hlen
  refine drw_enter Try.func97 rfl _ Try.ntmps97 (by simp) fun C g u i h hn hm hu hi => ?_
  repeat' (first
 | (refine op_drawS (l1Str_d b hb baseA (by decide) (by decide)) rfl hu hi rfl (LendsPL.ros [strsR baseA]) rfl (by first | rfl | repeat' (first | rfl | exact clns_ro _ | refine clnO_cons ?_ ?_)) (tl hn rfl) ?_; intro i h a hi ha; have hsz := baseA_size a ha)
 | (refine op_drawI (l1Below_d b hb _ (by omega)) rfl hu hi rfl (LendsPL.ros [.int _]) rfl (by first | rfl | repeat' (first | rfl | exact clns_ro _ | refine clnO_cons ?_ ?_)) (tl hn rfl) ?_; intro i h x hi hx; obtain ⟨hxa, hxb⟩ := hx.2 (by omega))
 | refine RunsL.guard_t rfl rfl rfl ?_
 | (refine op_drawB (l1Once_d b hb 2 (by decide)) rfl hu hi rfl (LendsPL.ros [.int 2]) rfl (by first | rfl | repeat' (first | rfl | exact clns_ro _ | refine clnO_cons ?_ ?_)) (tl hn rfl) ?_; intro i h lt hi)
 | ((first | refine RunsL.pe hn rfl rfl rfl ?_ | refine RunsD.pe rfl rfl ?_); first
 | refine ⟨_, pu_len_seqN d.length rfl hlm, ?_⟩)
 | refine RunsL.step tabOk hn rfl ?_
 | refine RunsL.nil ?_
 | refine Runs.toRegion 30 rfl ?_
 | ((first | refine RunsL.pe hn rfl rfl rfl ?_ | refine RunsD.pe rfl rfl ?_); first
 | refine ⟨_, pu_callR hF rfl, ?_⟩
 | refine ⟨_, pu_cat rfl rfl (by omega), ?_⟩
 | refine ⟨_, pu_buildS rfl, ?_⟩)
 | (refine Runs.ctls 30 rfl ?_; first | refine Runs.cond_t rfl ?_ | refine Runs.cond_f rfl ?_ | ((first | refine Runs.cond_yes rfl ?_ ?_ | refine Runs.cond_nno rfl ?_ ?_); · first | omega | rfl | assumption | (simp only [List.length_map]; omega)) | ((first | refine Runs.cond_no rfl ?_ ?_ | refine Runs.cond_nyes rfl ?_ ?_); · first | omega | rfl | assumption | (simp only [List.length_map]; omega)) | refine Runs.cond_dec rfl (fun h => ?_) (fun h => ?_) | refine Runs.cond_ndec rfl (fun h => ?_) (fun h => ?_) | refine Runs.cond_nb rfl (fun h => ?_) (fun h => ?_) | refine Runs.cond_b rfl (fun h => ?_) (fun h => ?_) | refine Runs.ret (ends_ro hm rfl rfl ?_) | exact Runs.ret (ends_cellR hm rfl rfl rfl (Nat.le_of_ble_eq_true rfl) rfl rfl))
 | refine op_box rfl (tl hn rfl) ?_
 | refine op_storeF rfl rfl rfl rfl (Nat.le_of_ble_eq_true rfl) ?_
 | refine op_alloc (tl hn rfl) ?_
 | refine op_storeN rfl rfl rfl rfl (Nat.le_of_ble_eq_true rfl) ?_
 | refine RunsD.step tabOk hn rfl rfl ?_
 | refine RunsD.nil ?_
 | refine Runs.toDraw 30 mixed hn rfl (by kernel_rfl) rfl ?_
 | ((first | refine RunsL.pe hn rfl rfl rfl ?_ | refine RunsD.pe rfl rfl ?_); first
 | refine ⟨_, pu_add rfl rfl (by omega), ?_⟩
 | refine ⟨_, pu_indexAddr_map rfl rfl (by omega) (by assumption), ?_⟩
 | refine ⟨_, pu_sub rfl rfl (by omega), ?_⟩
 | refine ⟨_, pu_pick_b rfl rfl rfl, ?_⟩
 | refine ⟨_, pu_mul rfl rfl (by omega), ?_⟩
 | refine ⟨_, pu_build rfl rfl rfl rfl rfl rfl, ?_⟩)
 | ((first | refine RunsL.guard_dec rfl rfl rfl ?_ ?_ | refine RunsL.guard_ndec rfl rfl rfl ?_ ?_ | refine RunsL.guard_nb rfl rfl rfl ?_ ?_ | refine RunsL.guard_b rfl rfl rfl ?_ ?_ | refine RunsD.guard_dec rfl rfl rfl ?_ ?_ | refine RunsD.guard_ndec rfl rfl rfl ?_ ?_ | refine RunsD.guard_nb rfl rfl rfl ?_ ?_ | refine RunsD.guard_b rfl rfl rfl ?_ ?_) <;> intro h <;> try (exfalso; first | omega | contradiction | (simp only [List.length_map] at h; omega))))
  all_goals (
    refine Runs.nilCell (e := 5) (sz := 1) 2 4 (by decide) rfl rfl ?_
    refine Runs.nilCell (e := 9) (sz := 1) 2 5 (by decide) rfl rfl ?_
    refine Runs.nilCell (e := 3) (sz := 1) 2 6 (by decide) rfl rfl ?_
    refine Runs.nilCell (e := 3) (sz := 1) 2 7 (by decide) rfl rfl ?_)
  all_goals first
    | exact Runs.ctls 30 rfl (Runs.ret (ends_rul (r := ⟨a ++ itoaS d.length, 1, 1 + x, lt, [], [], [], []⟩) (x := 4) (y := 5) (z := 6) (w := 7) hm rfl rfl rfl hi rfl rfl rfl rfl rfl rfl (by decide) (by decide) (ruleD1 ha (by omega) (fun _ => by omega))))
    | exact Runs.ctls 30 rfl (Runs.ret (ends_rul (r := ⟨a ++ itoaS d.length, 1, 1 + x, false, [], [], [], []⟩) (x := 4) (y := 5) (z := 6) (w := 7) hm rfl rfl rfl hi rfl rfl rfl rfl rfl rfl (by decide) (by decide) (ruleD1 ha (by omega) (by simp))))
set_option maxHeartbeats 8000000 in
theorem l4Make2_d (b : List UInt8) (hb : b.length ≤ 1048576) (d : Des) (hd : d.length ≤ 24) : Drw Try.prog 102 97 b [desR d, .int 2] (QRul (RuleD d 2)) := by
  have hlm : (d.map rulR).length = d.length := List.length_map ..
  have hF := spec_FormatInt (d.length : Int) (by constructor <;> omega)
  have hlen := itoa_len (d.length : Int) (by omega) (by omega)
  have hfs : (⟨(Lib.itoa (d.length : Int)).toArray⟩ : ByteArray).size ≤ 20 := by rw [ba_size]; exact hlen
  refine drw_enter Try.func97 rfl _ Try.ntmps97 (by simp) fun C g u i h hn hm hu hi => ?_
  repeat' (first
 | (refine op_drawS (l1Str_d b hb baseA (by decide) (by decide)) rfl hu hi rfl (LendsPL.ros [strsR baseA]) rfl (by first | rfl | repeat' (first | rfl | exact clns_ro _ | refine clnO_cons ?_ ?_)) (tl hn rfl) ?_; intro i h a hi ha; have hsz := baseA_size a ha)
 | (refine op_drawI (l1Below_d b hb _ (by omega)) rfl hu hi rfl (LendsPL.ros [.int _]) rfl (by first | rfl | repeat' (first | rfl | exact clns_ro _ | refine clnO_cons ?_ ?_)) (tl hn rfl) ?_; intro i h x hi hx; obtain ⟨hxa, hxb⟩ := hx.2 (by omega); obtain ⟨n3, rfl⟩ : ∃ n3 : Nat, x = n3 := ⟨x.toNat, by omega⟩)
 | (refine op_drawO (l1Bytes_d b hb (1 + n3) (by omega)) rfl hu hi rfl rfl rfl (by first | rfl | repeat' (first | rfl | exact clns_ro _ | refine clnO_cons ?_ ?_)) (tl hn rfl) ?_; rintro i h _ hi ⟨z, rfl, hz⟩)
 | ((first | refine RunsL.pe hn rfl rfl rfl ?_ | refine RunsD.pe rfl rfl ?_); first
 | refine ⟨_, pu_len_seqN d.length rfl hlm, ?_⟩)
 | refine RunsL.step tabOk hn rfl ?_
 | refine RunsL.nil ?_
 | refine Runs.toRegion 30 rfl ?_
 | ((first | refine RunsL.pe hn rfl rfl rfl ?_ | refine RunsD.pe rfl rfl ?_); first
 | refine ⟨_, pu_callR hF rfl, ?_⟩
 | refine ⟨_, pu_cat rfl rfl (by omega), ?_⟩
 | refine ⟨_, pu_buildS rfl, ?_⟩)
 | (refine Runs.ctls 30 rfl ?_; first | refine Runs.cond_t rfl ?_ | refine Runs.cond_f rfl ?_ | ((first | refine Runs.cond_yes rfl ?_ ?_ | refine Runs.cond_nno rfl ?_ ?_); · first | omega | rfl | assumption | (simp only [List.length_map]; omega)) | ((first | refine Runs.cond_no rfl ?_ ?_ | refine Runs.cond_nyes rfl ?_ ?_); · first | omega | rfl | assumption | (simp only [List.length_map]; omega)) | refine Runs.cond_dec rfl (fun h => ?_) (fun h => ?_) | refine Runs.cond_ndec rfl (fun h => ?_) (fun h => ?_) | refine Runs.cond_nb rfl (fun h => ?_) (fun h => ?_) | refine Runs.cond_b rfl (fun h => ?_) (fun h => ?_) | refine Runs.ret (ends_ro hm rfl rfl ?_) | exact Runs.ret (ends_cellR hm rfl rfl rfl (Nat.le_of_ble_eq_true rfl) rfl rfl))
 | refine op_box rfl (tl hn rfl) ?_
 | refine op_storeF rfl rfl rfl rfl (Nat.le_of_ble_eq_true rfl) ?_
 | refine op_alloc (tl hn rfl) ?_
 | refine op_storeN rfl rfl rfl rfl (Nat.le_of_ble_eq_true rfl) ?_
 | refine RunsD.step tabOk hn rfl rfl ?_
 | refine RunsD.nil ?_
 | refine Runs.toDraw 30 mixed hn rfl (by kernel_rfl) rfl ?_
 | ((first | refine RunsL.pe hn rfl rfl rfl ?_ | refine RunsD.pe rfl rfl ?_); first
 | refine ⟨_, pu_add rfl rfl (by omega), ?_⟩
 | refine ⟨_, pu_indexAddr_map rfl rfl (by omega) (by assumption), ?_⟩
 | refine ⟨_, pu_sub rfl rfl (by omega), ?_⟩
 | refine ⟨_, pu_pick_b rfl rfl rfl, ?_⟩
 | refine ⟨_, pu_mul rfl rfl (by omega), ?_⟩
 | refine ⟨_, pu_build rfl rfl rfl rfl rfl rfl, ?_⟩)
 | ((first | refine RunsL.guard_dec rfl rfl rfl ?_ ?_ | refine RunsL.guard_ndec rfl rfl rfl ?_ ?_ | refine RunsL.guard_nb rfl rfl rfl ?_ ?_ | refine RunsL.guard_b rfl rfl rfl ?_ ?_ | refine RunsD.guard_dec rfl rfl rfl ?_ ?_ | refine RunsD.guard_ndec rfl rfl rfl ?_ ?_ | refine RunsD.guard_nb rfl rfl rfl ?_ ?_ | refine RunsD.guard_b rfl rfl rfl ?_ ?_) <;> intro h <;> try (exfalso; first | omega | contradiction | (simp only [List.length_map] at h; omega))))
  all_goals (
    refine Runs.nilCell (e := 9) (sz := 1) 2 5 (by decide) rfl rfl ?_
    refine Runs.nilCell (e := 3) (sz := 1) 2 6 (by decide) rfl rfl ?_
    refine Runs.nilCell (e := 3) (sz := 1) 2 7 (by decide) rfl rfl ?_)
  all_goals first
    | exact Runs.ctls 30 rfl (Runs.ret (ends_rul (r := ⟨a ++ itoaS d.length, 2, 0, false, z, [], [], []⟩) (x := 4) (y := 5) (z := 6) (w := 7) hm rfl rfl rfl hi rfl rfl rfl rfl rfl rfl (by decide) (by decide) (ruleD2 ha (by omega))))
set_option maxHeartbeats 8000000 in
theorem l4Make3_d (b : List UInt8) (hb : b.length ≤ 1048576) (d : Des) (hd : d.length ≤ 24) : Drw Try.prog 102 97 b [desR d, .int 3] (QRul (RuleD d 3)) := by
  have hlm : (d.map rulR).length = d.length := List.length_map ..
  have hF := spec_FormatInt (d.length : Int) (by constructor <;> omega)
  have hlen := itoa_len (d.length : Int) (by omega) (by omega)
  have hfs : (⟨(Lib.itoa (d.length : Int)).toArray⟩ : ByteArray).size ≤ 20 := by rw [ba_size]; exact hlen
  refine drw_enter Try.func97 rfl _ Try.ntmps97 (by simp) fun C g u i h hn hm hu hi => ?_
  repeat' (first
 | (refine op_drawS (l1Str_d b hb baseA (by decide) (by decide)) rfl hu hi rfl (LendsPL.ros [strsR baseA]) rfl (by first | rfl | repeat' (first | rfl | exact clns_ro _ | refine clnO_cons ?_ ?_)) (tl hn rfl) ?_; intro i h a hi ha; have hsz := baseA_size a ha)
 | (refine op_drawI (l1Below_d b hb _ (by omega)) rfl hu hi rfl (LendsPL.ros [.int _]) rfl (by first | rfl | repeat' (first | rfl | exact clns_ro _ | refine clnO_cons ?_ ?_)) (tl hn rfl) ?_; intro i h x hi hx; obtain ⟨hxa, hxb⟩ := hx.2 (by omega))
 | ((first | refine RunsL.pe hn rfl rfl rfl ?_ | refine RunsD.pe rfl rfl ?_); first
 | refine ⟨_, pu_len_seqN d.length rfl hlm, ?_⟩)
 | refine RunsL.step tabOk hn rfl ?_
 | refine RunsL.nil ?_
 | refine Runs.toRegion 30 rfl ?_
 | ((first | refine RunsL.pe hn rfl rfl rfl ?_ | refine RunsD.pe rfl rfl ?_); first
 | refine ⟨_, pu_callR hF rfl, ?_⟩
 | refine ⟨_, pu_cat rfl rfl (by omega), ?_⟩
 | refine ⟨_, pu_buildS rfl, ?_⟩)
 | (refine Runs.ctls 30 rfl ?_; first | refine Runs.cond_t rfl ?_ | refine Runs.cond_f rfl ?_ | ((first | refine Runs.cond_yes rfl ?_ ?_ | refine Runs.cond_nno rfl ?_ ?_); · first | omega | rfl | assumption | (simp only [List.length_map]; omega)) | ((first | refine Runs.cond_no rfl ?_ ?_ | refine Runs.cond_nyes rfl ?_ ?_); · first | omega | rfl | assumption | (simp only [List.length_map]; omega)) | refine Runs.cond_dec rfl (fun h => ?_) (fun h => ?_) | refine Runs.cond_ndec rfl (fun h => ?_) (fun h => ?_) | refine Runs.cond_nb rfl (fun h => ?_) (fun h => ?_) | refine Runs.cond_b rfl (fun h => ?_) (fun h => ?_) | refine Runs.ret (ends_ro hm rfl rfl ?_) | exact Runs.ret (ends_cellR hm rfl rfl rfl (Nat.le_of_ble_eq_true rfl) rfl rfl))
 | refine op_box rfl (tl hn rfl) ?_
 | refine op_storeF rfl rfl rfl rfl (Nat.le_of_ble_eq_true rfl) ?_
 | refine op_alloc (tl hn rfl) ?_
 | refine op_storeN rfl rfl rfl rfl (Nat.le_of_ble_eq_true rfl) ?_
 | refine RunsD.step tabOk hn rfl rfl ?_
 | refine RunsD.nil ?_
 | refine Runs.toDraw 30 mixed hn rfl (by kernel_rfl) rfl ?_
 | ((first | refine RunsL.pe hn rfl rfl rfl ?_ | refine RunsD.pe rfl rfl ?_); first
 | refine ⟨_, pu_add rfl rfl (by omega), ?_⟩
 | refine ⟨_, pu_indexAddr_map rfl rfl (by omega) (by assumption), ?_⟩
 | refine ⟨_, pu_sub rfl rfl (by omega), ?_⟩
 | refine ⟨_, pu_pick_b rfl rfl rfl, ?_⟩
 | refine ⟨_, pu_mul rfl rfl (by omega), ?_⟩
 | refine ⟨_, pu_build rfl rfl rfl rfl rfl rfl, ?_⟩)
 | ((first | refine RunsL.guard_dec rfl rfl rfl ?_ ?_ | refine RunsL.guard_ndec rfl rfl rfl ?_ ?_ | refine RunsL.guard_nb rfl rfl rfl ?_ ?_ | refine RunsL.guard_b rfl rfl rfl ?_ ?_ | refine RunsD.guard_dec rfl rfl rfl ?_ ?_ | refine RunsD.guard_ndec rfl rfl rfl ?_ ?_ | refine RunsD.guard_nb rfl rfl rfl ?_ ?_ | refine RunsD.guard_b rfl rfl rfl ?_ ?_) <;> intro h <;> try (exfalso; first | omega | contradiction | (simp only [List.length_map] at h; omega))))
  all_goals (
    refine Runs.nilCell (e := 5) (sz := 1) 2 4 (by decide) rfl rfl ?_
    refine Runs.nilCell (e := 9) (sz := 1) 2 5 (by decide) rfl rfl ?_
    refine Runs.nilCell (e := 3) (sz := 1) 2 6 (by decide) rfl rfl ?_
    refine Runs.nilCell (e := 3) (sz := 1) 2 7 (by decide) rfl rfl ?_)
  all_goals first
    | exact Runs.ctls 30 rfl (Runs.ret (ends_rul (r := ⟨a ++ itoaS d.length, 3, 1 + x, false, [], [], [], []⟩) (x := 4) (y := 5) (z := 6) (w := 7) hm rfl rfl rfl hi rfl rfl rfl rfl rfl rfl (by decide) (by decide) (ruleD3 ha (by omega))))
set_option maxHeartbeats 8000000 in
theorem l4Make4_d (b : List UInt8) (hb : b.length ≤ 1048576) (d : Des) (hd : d.length ≤ 24) (r0 : Rul) (h0 : d[0]? = some r0) (hk0 : r0.kind = 1) : Drw Try.prog 102 97 b [desR d, .int 4] (QRul (RuleD d 4)) := by
  have hlm : (d.map rulR).length = d.length := List.length_map ..
  have hF := spec_FormatInt (d.length : Int) (by constructor <;> omega)
  have hlen := itoa_len (d.length : Int) (by omega) (by omega)
  have hfs : (⟨(Lib.itoa (d.length : Int)).toArray⟩ : ByteArray).size ≤ 20 := by rw [ba_size]; exact hlen
  refine drw_enter Try.func97 rfl _ Try.ntmps97 (by simp) fun C g u i h hn hm hu hi => ?_
  repeat' (first
 | (refine op_drawS (l1Str_d b hb baseA (by decide) (by decide)) rfl hu hi rfl (LendsPL.ros [strsR baseA]) rfl (by first | rfl | repeat' (first | rfl | exact clns_ro _ | refine clnO_cons ?_ ?_)) (tl hn rfl) ?_; intro i h a hi ha; have hsz := baseA_size a ha)
 | (refine op_drawI (l4Integer_d b hb d hd r0 h0 hk0) rfl hu hi rfl (LendsPL.ros [desR d]) rfl (by first | rfl | repeat' (first | rfl | exact clns_ro _ | refine clnO_cons ?_ ?_)) (tl hn rfl) ?_; intro i h x hi hx)
 | refine op_build (t := 56) rfl rfl rfl rfl rfl (tl hn rfl) ?_
 | ((first | refine RunsL.pe hn rfl rfl rfl ?_ | refine RunsD.pe rfl rfl ?_); first
 | refine ⟨_, pu_len_seqN d.length rfl hlm, ?_⟩)
 | refine RunsL.step tabOk hn rfl ?_
 | refine RunsL.nil ?_
 | refine Runs.toRegion 30 rfl ?_
 | ((first | refine RunsL.pe hn rfl rfl rfl ?_ | refine RunsD.pe rfl rfl ?_); first
 | refine ⟨_, pu_callR hF rfl, ?_⟩
 | refine ⟨_, pu_cat rfl rfl (by omega), ?_⟩
 | refine ⟨_, pu_buildS rfl, ?_⟩)
 | (refine Runs.ctls 30 rfl ?_; first | refine Runs.cond_t rfl ?_ | refine Runs.cond_f rfl ?_ | ((first | refine Runs.cond_yes rfl ?_ ?_ | refine Runs.cond_nno rfl ?_ ?_); · first | omega | rfl | assumption | (simp only [List.length_map]; omega)) | ((first | refine Runs.cond_no rfl ?_ ?_ | refine Runs.cond_nyes rfl ?_ ?_); · first | omega | rfl | assumption | (simp only [List.length_map]; omega)) | refine Runs.cond_dec rfl (fun h => ?_) (fun h => ?_) | refine Runs.cond_ndec rfl (fun h => ?_) (fun h => ?_) | refine Runs.cond_nb rfl (fun h => ?_) (fun h => ?_) | refine Runs.cond_b rfl (fun h => ?_) (fun h => ?_) | refine Runs.ret (ends_ro hm rfl rfl ?_) | exact Runs.ret (ends_cellR hm rfl rfl rfl (Nat.le_of_ble_eq_true rfl) rfl rfl))
 | refine op_box rfl (tl hn rfl) ?_
 | refine op_storeF rfl rfl rfl rfl (Nat.le_of_ble_eq_true rfl) ?_
 | refine op_alloc (tl hn rfl) ?_
 | refine op_storeN rfl rfl rfl rfl (Nat.le_of_ble_eq_true rfl) ?_
 | refine RunsD.step tabOk hn rfl rfl ?_
 | refine RunsD.nil ?_
 | refine Runs.toDraw 30 mixed hn rfl (by kernel_rfl) rfl ?_
 | ((first | refine RunsL.pe hn rfl rfl rfl ?_ | refine RunsD.pe rfl rfl ?_); first
 | refine ⟨_, pu_add rfl rfl (by omega), ?_⟩
 | refine ⟨_, pu_indexAddr_map rfl rfl (by omega) (by assumption), ?_⟩
 | refine ⟨_, pu_sub rfl rfl (by omega), ?_⟩
 | refine ⟨_, pu_pick_b rfl rfl rfl, ?_⟩
 | refine ⟨_, pu_mul rfl rfl (by omega), ?_⟩
 | refine ⟨_, pu_build rfl rfl rfl rfl rfl rfl, ?_⟩)
 | ((first | refine RunsL.guard_dec rfl rfl rfl ?_ ?_ | refine RunsL.guard_ndec rfl rfl rfl ?_ ?_ | refine RunsL.guard_nb rfl rfl rfl ?_ ?_ | refine RunsL.guard_b rfl rfl rfl ?_ ?_ | refine RunsD.guard_dec rfl rfl rfl ?_ ?_ | refine RunsD.guard_ndec rfl rfl rfl ?_ ?_ | refine RunsD.guard_nb rfl rfl rfl ?_ ?_ | refine RunsD.guard_b rfl rfl rfl ?_ ?_) <;> intro h <;> try (exfalso; first | omega | contradiction | (simp only [List.length_map] at h; omega))))
  all_goals (
    refine Runs.nilCell (e := 5) (sz := 1) 2 4 (by decide) rfl rfl ?_
    refine Runs.nilCell (e := 9) (sz := 1) 2 5 (by decide) rfl rfl ?_
    refine Runs.nilCell (e := 3) (sz := 1) 2 6 (by decide) rfl rfl ?_)
  all_goals first
    | exact Runs.ctls 30 rfl (Runs.ret (ends_rul (r := ⟨a ++ itoaS d.length, 4, 0, false, [], [], [], [x]⟩) (x := 5) (y := 6) (z := 7) (w := 4) hm rfl rfl rfl hi rfl rfl rfl rfl rfl rfl (by decide) (by decide) (ruleD4 ha hx)))
set_option maxHeartbeats 8000000 in
theorem l4Make5_d (b : List UInt8) (hb : b.length ≤ 1048576) (d : Des) (hd : d.length ≤ 24) (r0 : Rul) (h0 : d[0]? = some r0) (hk0 : r0.kind = 1) : Drw Try.prog 102 97 b [desR d, .int 5] (QRul (RuleD d 5)) := by
  have hlm : (d.map rulR).length = d.length := List.length_map ..
  have hF := spec_FormatInt (d.length : Int) (by constructor <;> omega)
  have hlen := itoa_len (d.length : Int) (by omega) (by omega)
  have hfs : (⟨(Lib.itoa (d.length : Int)).toArray⟩ : ByteArray).size ≤ 20 := by rw [ba_size]; exact hlen
  refine drw_enter Try.func97 rfl _ Try.ntmps97 (by simp) fun C g u i h hn hm hu hi => ?_
  repeat' (first
 | (refine op_drawS (l1Str_d b hb baseA (by decide) (by decide)) rfl hu hi rfl (LendsPL.ros [strsR baseA]) rfl (by first | rfl | repeat' (first | rfl | exact clns_ro _ | refine clnO_cons ?_ ?_)) (tl hn rfl) ?_; intro i h a hi ha; have hsz := baseA_size a ha)
 | (refine op_drawI (l4Integer_d b hb d hd r0 h0 hk0) rfl hu hi rfl (LendsPL.ros [desR d]) rfl (by first | rfl | repeat' (first | rfl | exact clns_ro _ | refine clnO_cons ?_ ?_)) (tl hn rfl) ?_; intro i h x hi hx)
 | (refine op_drawI (l1Below_d b hb (d.length : Int) (by omega)) rfl hu hi rfl (LendsPL.ros [.int (d.length : Int)]) rfl (by first | rfl | repeat' (first | rfl | exact clns_ro _ | refine clnO_cons ?_ ?_)) (tl hn rfl) ?_; intro i h y hi hy; have hyd : InD d y := ⟨fun e => hy.1 (by omega), fun e => hy.2 (by omega)⟩)
 | refine op_build (t := 66) rfl rfl rfl rfl rfl (tl hn rfl) ?_
 | ((first | refine RunsL.pe hn rfl rfl rfl ?_ | refine RunsD.pe rfl rfl ?_); first
 | refine ⟨_, pu_len_seqN d.length rfl hlm, ?_⟩)
 | refine RunsL.step tabOk hn rfl ?_
 | refine RunsL.nil ?_
 | refine Runs.toRegion 30 rfl ?_
 | ((first | refine RunsL.pe hn rfl rfl rfl ?_ | refine RunsD.pe rfl rfl ?_); first
 | refine ⟨_, pu_callR hF rfl, ?_⟩
 | refine ⟨_, pu_cat rfl rfl (by omega), ?_⟩
 | refine ⟨_, pu_buildS rfl, ?_⟩)
 | (refine Runs.ctls 30 rfl ?_; first | refine Runs.cond_t rfl ?_ | refine Runs.cond_f rfl ?_ | ((first | refine Runs.cond_yes rfl ?_ ?_ | refine Runs.cond_nno rfl ?_ ?_); · first | omega | rfl | assumption | (simp only [List.length_map]; omega)) | ((first | refine Runs.cond_no rfl ?_ ?_ | refine Runs.cond_nyes rfl ?_ ?_); · first | omega | rfl | assumption | (simp only [List.length_map]; omega)) | refine Runs.cond_dec rfl (fun h => ?_) (fun h => ?_) | refine Runs.cond_ndec rfl (fun h => ?_) (fun h => ?_) | refine Runs.cond_nb rfl (fun h => ?_) (fun h => ?_) | refine Runs.cond_b rfl (fun h => ?_) (fun h => ?_) | refine Runs.ret (ends_ro hm rfl rfl ?_) | exact Runs.ret (ends_cellR hm rfl rfl rfl (Nat.le_of_ble_eq_true rfl) rfl rfl))
 | refine op_box rfl (tl hn rfl) ?_
 | refine op_storeF rfl rfl rfl rfl (Nat.le_of_ble_eq_true rfl) ?_
 | refine op_alloc (tl hn rfl) ?_
 | refine op_storeN rfl rfl rfl rfl (Nat.le_of_ble_eq_true rfl) ?_
 | refine RunsD.step tabOk hn rfl rfl ?_
 | refine RunsD.nil ?_
 | refine Runs.toDraw 30 mixed hn rfl (by kernel_rfl) rfl ?_
 | ((first | refine RunsL.pe hn rfl rfl rfl ?_ | refine RunsD.pe rfl rfl ?_); first
 | refine ⟨_, pu_add rfl rfl (by omega), ?_⟩
 | refine ⟨_, pu_indexAddr_map rfl rfl (by omega) (by assumption), ?_⟩
 | refine ⟨_, pu_sub rfl rfl (by omega), ?_⟩
 | refine ⟨_, pu_pick_b rfl rfl rfl, ?_⟩
 | refine ⟨_, pu_mul rfl rfl (by omega), ?_⟩
 | refine ⟨_, pu_build rfl rfl rfl rfl rfl rfl, ?_⟩)
 | ((first | refine RunsL.guard_dec rfl rfl rfl ?_ ?_ | refine RunsL.guard_ndec rfl rfl rfl ?_ ?_ | refine RunsL.guard_nb rfl rfl rfl ?_ ?_ | refine RunsL.guard_b rfl rfl rfl ?_ ?_ | refine RunsD.guard_dec rfl rfl rfl ?_ ?_ | refine RunsD.guard_ndec rfl rfl rfl ?_ ?_ | refine RunsD.guard_nb rfl rfl rfl ?_ ?_ | refine RunsD.guard_b rfl rfl rfl ?_ ?_) <;> intro h <;> try (exfalso; first | omega | contradiction | (simp only [List.length_map] at h; omega))))
  all_goals (
    refine Runs.nilCell (e := 5) (sz := 1) 2 4 (by decide) rfl rfl ?_
    refine Runs.nilCell (e := 9) (sz := 1) 2 5 (by decide) rfl rfl ?_
    refine Runs.nilCell (e := 3) (sz := 1) 2 6 (by decide) rfl rfl ?_)
  all_goals first
    | exact Runs.ctls 30 rfl (Runs.ret (ends_rul (r := ⟨a ++ itoaS d.length, 5, 0, false, [], [], [], [x, y]⟩) (x := 5) (y := 6) (z := 7) (w := 4) hm rfl rfl rfl hi rfl rfl rfl rfl rfl rfl (by decide) (by decide) (ruleD5 ha hx hyd)))
set_option maxHeartbeats 8000000 in
theorem l4Make8_d (b : List UInt8) (hb : b.length ≤ 1048576) (d : Des) (hd : d.length ≤ 24) : Drw Try.prog 102 97 b [desR d, .int 8] (QRul (RuleD d 8)) := by
  have hlm : (d.map rulR).length = d.length := List.length_map ..
  have hF := spec_FormatInt (d.length : Int) (by constructor <;> omega)
  have hlen := itoa_len (d.length : Int) (by omega) (by omega)
  have hfs : (⟨(Lib.itoa (d.length : Int)).toArray⟩ : ByteArray).size ≤ 20 := by rw [ba_size]; exact hlen
  refine drw_enter Try.func97 rfl _ Try.ntmps97 (by simp) fun C g u i h hn hm hu hi => ?_
  repeat' (first
 | (refine op_drawS (l1Str_d b hb baseA (by decide) (by decide)) rfl hu hi rfl (LendsPL.ros [strsR baseA]) rfl (by first | rfl | repeat' (first | rfl | exact clns_ro _ | refine clnO_cons ?_ ?_)) (tl hn rfl) ?_; intro i h a hi ha; have hsz := baseA_size a ha)
 | (refine op_drawI (l1Below_d b hb (d.length : Int) (by omega)) rfl hu hi rfl (LendsPL.ros [.int (d.length : Int)]) rfl (by first | rfl | repeat' (first | rfl | exact clns_ro _ | refine clnO_cons ?_ ?_)) (tl hn rfl) ?_; intro i h y hi hy; have hyd : InD d y := ⟨fun e => hy.1 (by omega), fun e => hy.2 (by omega)⟩)
 | refine op_build (t := 136) rfl rfl rfl rfl rfl (tl hn rfl) ?_
 | ((first | refine RunsL.pe hn rfl rfl rfl ?_ | refine RunsD.pe rfl rfl ?_); first
 | refine ⟨_, pu_len_seqN d.length rfl hlm, ?_⟩)
 | refine RunsL.step tabOk hn rfl ?_
 | refine RunsL.nil ?_
 | refine Runs.toRegion 30 rfl ?_
 | ((first | refine RunsL.pe hn rfl rfl rfl ?_ | refine RunsD.pe rfl rfl ?_); first
 | refine ⟨_, pu_callR hF rfl, ?_⟩
 | refine ⟨_, pu_cat rfl rfl (by omega), ?_⟩
 | refine ⟨_, pu_buildS rfl, ?_⟩)
 | (refine Runs.ctls 30 rfl ?_; first | refine Runs.cond_t rfl ?_ | refine Runs.cond_f rfl ?_ | ((first | refine Runs.cond_yes rfl ?_ ?_ | refine Runs.cond_nno rfl ?_ ?_); · first | omega | rfl | assumption | (simp only [List.length_map]; omega)) | ((first | refine Runs.cond_no rfl ?_ ?_ | refine Runs.cond_nyes rfl ?_ ?_); · first | omega | rfl | assumption | (simp only [List.length_map]; omega)) | refine Runs.cond_dec rfl (fun h => ?_) (fun h => ?_) | refine Runs.cond_ndec rfl (fun h => ?_) (fun h => ?_) | refine Runs.cond_nb rfl (fun h => ?_) (fun h => ?_) | refine Runs.cond_b rfl (fun h => ?_) (fun h => ?_) | refine Runs.ret (ends_ro hm rfl rfl ?_) | exact Runs.ret (ends_cellR hm rfl rfl rfl (Nat.le_of_ble_eq_true rfl) rfl rfl))
 | refine op_box rfl (tl hn rfl) ?_
 | refine op_storeF rfl rfl rfl rfl (Nat.le_of_ble_eq_true rfl) ?_
 | refine op_alloc (tl hn rfl) ?_
 | refine op_storeN rfl rfl rfl rfl (Nat.le_of_ble_eq_true rfl) ?_
 | refine RunsD.step tabOk hn rfl rfl ?_
 | refine RunsD.nil ?_
 | refine Runs.toDraw 30 mixed hn rfl (by kernel_rfl) rfl ?_
 | ((first | refine RunsL.pe hn rfl rfl rfl ?_ | refine RunsD.pe rfl rfl ?_); first
 | refine ⟨_, pu_add rfl rfl (by omega), ?_⟩
 | refine ⟨_, pu_indexAddr_map rfl rfl (by omega) (by assumption), ?_⟩
 | refine ⟨_, pu_sub rfl rfl (by omega), ?_⟩
 | refine ⟨_, pu_pick_b rfl rfl rfl, ?_⟩
 | refine ⟨_, pu_mul rfl rfl (by omega), ?_⟩
 | refine ⟨_, pu_build rfl rfl rfl rfl rfl rfl, ?_⟩)
 | ((first | refine RunsL.guard_dec rfl rfl rfl ?_ ?_ | refine RunsL.guard_ndec rfl rfl rfl ?_ ?_ | refine RunsL.guard_nb rfl rfl rfl ?_ ?_ | refine RunsL.guard_b rfl rfl rfl ?_ ?_ | refine RunsD.guard_dec rfl rfl rfl ?_ ?_ | refine RunsD.guard_ndec rfl rfl rfl ?_ ?_ | refine RunsD.guard_nb rfl rfl rfl ?_ ?_ | refine RunsD.guard_b rfl rfl rfl ?_ ?_) <;> intro h <;> try (exfalso; first | omega | contradiction | (simp only [List.length_map] at h; omega))))
  all_goals (
    refine Runs.nilCell (e := 5) (sz := 1) 2 4 (by decide) rfl rfl ?_
    refine Runs.nilCell (e := 9) (sz := 1) 2 5 (by decide) rfl rfl ?_
    refine Runs.nilCell (e := 3) (sz := 1) 2 6 (by decide) rfl rfl ?_)
  all_goals first
    | exact Runs.ctls 30 rfl (Runs.ret (ends_rul (r := ⟨a ++ itoaS d.length, 8, 0, false, [], [], [], [y]⟩) (x := 5) (y := 6) (z := 7) (w := 4) hm rfl rfl rfl hi rfl rfl rfl rfl rfl rfl (by decide) (by decide) (ruleD8 ha hyd)))
set_option maxHeartbeats 8000000 in
theorem l4Make9_d (b : List UInt8) (hb : b.length ≤ 1048576) (d : Des) (hd : d.length ≤ 24) : Drw Try.prog 102 97 b [desR d, .int 9] (QRul (RuleD d 9)) := by
  have hlm : (d.map rulR).length = d.length := List.length_map ..
  have hF := spec_FormatInt (d.length : Int) (by constructor <;> omega)
  have hlen := itoa_len (d.length : Int) (by omega) (by omega)
  have hfs : (⟨(Lib.itoa (d.length : Int)).toArray⟩ : ByteArray).size ≤ 20 := by rw [ba_size]; exact hlen
  refine drw_enter Try.func97 rfl _ Try.ntmps97 (by simp) fun C g u i h hn hm hu hi => ?_
  repeat' (first
 | (refine op_drawS (l1Str_d b hb baseA (by decide) (by decide)) rfl hu hi rfl (LendsPL.ros [strsR baseA]) rfl (by first | rfl | repeat' (first | rfl | exact clns_ro _ | refine clnO_cons ?_ ?_)) (tl hn rfl) ?_; intro i h a hi ha; have hsz := baseA_size a ha)
 | (refine op_drawI (l1Below_d b hb (d.length : Int) (by omega)) rfl hu hi rfl (LendsPL.ros [.int (d.length : Int)]) rfl (by first | rfl | repeat' (first | rfl | exact clns_ro _ | refine clnO_cons ?_ ?_)) (tl hn rfl) ?_; intro i h y hi hy; have hyd : InD d y := ⟨fun e => hy.1 (by omega), fun e => hy.2 (by omega)⟩)
 | refine op_build (t := 136) rfl rfl rfl rfl rfl (tl hn rfl) ?_
 | ((first | refine RunsL.pe hn rfl rfl rfl ?_ | refine RunsD.pe rfl rfl ?_); first
 | refine ⟨_, pu_len_seqN d.length rfl hlm, ?_⟩)
 | refine RunsL.step tabOk hn rfl ?_
 | refine RunsL.nil ?_
 | refine Runs.toRegion 30 rfl ?_
 | ((first | refine RunsL.pe hn rfl rfl rfl ?_ | refine RunsD.pe rfl rfl ?_); first
 | refine ⟨_, pu_callR hF rfl, ?_⟩
 | refine ⟨_, pu_cat rfl rfl (by omega), ?_⟩
 | refine ⟨_, pu_buildS rfl, ?_⟩)
 | (refine Runs.ctls 30 rfl ?_; first | refine Runs.cond_t rfl ?_ | refine Runs.cond_f rfl ?_ | ((first | refine Runs.cond_yes rfl ?_ ?_ | refine Runs.cond_nno rfl ?_ ?_); · first | omega | rfl | assumption | (simp only [List.length_map]; omega)) | ((first | refine Runs.cond_no rfl ?_ ?_ | refine Runs.cond_nyes rfl ?_ ?_); · first | omega | rfl | assumption | (simp only [List.length_map]; omega)) | refine Runs.cond_dec rfl (fun h => ?_) (fun h => ?_) | refine Runs.cond_ndec rfl (fun h => ?_) (fun h => ?_) | refine Runs.cond_nb rfl (fun h => ?_) (fun h => ?_) | refine Runs.cond_b rfl (fun h => ?_) (fun h => ?_) | refine Runs.ret (ends_ro hm rfl rfl ?_) | exact Runs.ret (ends_cellR hm rfl rfl rfl (Nat.le_of_ble_eq_true rfl) rfl rfl))
 | refine op_box rfl (tl hn rfl) ?_
 | refine op_storeF rfl rfl rfl rfl (Nat.le_of_ble_eq_true rfl) ?_
 | refine op_alloc (tl hn rfl) ?_
 | refine op_storeN rfl rfl rfl rfl (Nat.le_of_ble_eq_true rfl) ?_
 | refine RunsD.step tabOk hn rfl rfl ?_
 | refine RunsD.nil ?_
 | refine Runs.toDraw 30 mixed hn rfl (by kernel_rfl) rfl ?_
 | ((first | refine RunsL.pe hn rfl rfl rfl ?_ | refine RunsD.pe rfl rfl ?_); first
 | refine ⟨_, pu_add rfl rfl (by omega), ?_⟩
 | refine ⟨_, pu_indexAddr_map rfl rfl (by omega) (by assumption), ?_⟩
 | refine ⟨_, pu_sub rfl rfl (by omega), ?_⟩
 | refine ⟨_, pu_pick_b rfl rfl rfl, ?_⟩
 | refine ⟨_, pu_mul rfl rfl (by omega), ?_⟩
 | refine ⟨_, pu_build rfl rfl rfl rfl rfl rfl, ?_⟩)
 | ((first | refine RunsL.guard_dec rfl rfl rfl ?_ ?_ | refine RunsL.guard_ndec rfl rfl rfl ?_ ?_ | refine RunsL.guard_nb rfl rfl rfl ?_ ?_ | refine RunsL.guard_b rfl rfl rfl ?_ ?_ | refine RunsD.guard_dec rfl rfl rfl ?_ ?_ | refine RunsD.guard_ndec rfl rfl rfl ?_ ?_ | refine RunsD.guard_nb rfl rfl rfl ?_ ?_ | refine RunsD.guard_b rfl rfl rfl ?_ ?_) <;> intro h <;> try (exfalso; first | omega | contradiction | (simp only [List.length_map] at h; omega))))
  all_goals (
    refine Runs.nilCell (e := 5) (sz := 1) 2 4 (by decide) rfl rfl ?_
    refine Runs.nilCell (e := 9) (sz := 1) 2 5 (by decide) rfl rfl ?_
    refine Runs.nilCell (e := 3) (sz := 1) 2 6 (by decide) rfl rfl ?_)
  all_goals first
    | exact Runs.ctls 30 rfl (Runs.ret (ends_rul (r := ⟨a ++ itoaS d.length, 9, 0, false, [], [], [], [y]⟩) (x := 5) (y := 6) (z := 7) (w := 4) hm rfl rfl rfl hi rfl rfl rfl rfl rfl rfl (by decide) (by decide) (ruleD9 ha hyd)))
set_option maxHeartbeats 8000000 in
theorem l4Make10_d (b : List UInt8) (hb : b.length ≤ 1048576) (d : Des) (hd : d.length ≤ 24) : Drw Try.prog 102 97 b [desR d, .int 10] (QRul (RuleD d 10)) := by
  have hlm : (d.map rulR).length = d.length := List.length_map ..
  have hF := spec_FormatInt (d.length : Int) (by constructor <;> omega)
  have hlen := itoa_len (d.length : Int) (by omega) (by omega)
  have hfs : (⟨(Lib.itoa (d.length : Int)).toArray⟩ : ByteArray).size ≤ 20 := by rw [ba_size]; exact hlen
  refine drw_enter Try.func97 rfl _ Try.ntmps97 (by simp) fun C g u i h hn hm hu hi => ?_
  repeat' (first
 | (refine op_drawS (l1Str_d b hb baseA (by decide) (by decide)) rfl hu hi rfl (LendsPL.ros [strsR baseA]) rfl (by first | rfl | repeat' (first | rfl | exact clns_ro _ | refine clnO_cons ?_ ?_)) (tl hn rfl) ?_; intro i h a hi ha; have hsz := baseA_size a ha)
 | (refine op_drawI (l1Int_d b hb [0, 10, 59, 255] (by decide) (by decide)) rfl hu hi rfl (LendsPL.ros [intsR [0, 10, 59, 255]]) rfl (by first | rfl | repeat' (first | rfl | exact clns_ro _ | refine clnO_cons ?_ ?_)) (tl hn rfl) ?_; intro i h y hi hy)
 | refine op_build (t := 144) rfl rfl rfl rfl rfl (tl hn rfl) ?_
 | ((first | refine RunsL.pe hn rfl rfl rfl ?_ | refine RunsD.pe rfl rfl ?_); first
 | refine ⟨_, pu_len_seqN d.length rfl hlm, ?_⟩)
 | refine RunsL.step tabOk hn rfl ?_
 | refine RunsL.nil ?_
 | refine Runs.toRegion 30 rfl ?_
 | ((first | refine RunsL.pe hn rfl rfl rfl ?_ | refine RunsD.pe rfl rfl ?_); first
 | refine ⟨_, pu_callR hF rfl, ?_⟩
 | refine ⟨_, pu_cat rfl rfl (by omega), ?_⟩
 | refine ⟨_, pu_buildS rfl, ?_⟩
 | refine ⟨_, pu_toU8 rfl, ?_⟩)
 | (refine Runs.ctls 30 rfl ?_; first | refine Runs.cond_t rfl ?_ | refine Runs.cond_f rfl ?_ | ((first | refine Runs.cond_yes rfl ?_ ?_ | refine Runs.cond_nno rfl ?_ ?_); · first | omega | rfl | assumption | (simp only [List.length_map]; omega)) | ((first | refine Runs.cond_no rfl ?_ ?_ | refine Runs.cond_nyes rfl ?_ ?_); · first | omega | rfl | assumption | (simp only [List.length_map]; omega)) | refine Runs.cond_dec rfl (fun h => ?_) (fun h => ?_) | refine Runs.cond_ndec rfl (fun h => ?_) (fun h => ?_) | refine Runs.cond_nb rfl (fun h => ?_) (fun h => ?_) | refine Runs.cond_b rfl (fun h => ?_) (fun h => ?_) | refine Runs.ret (ends_ro hm rfl rfl ?_) | exact Runs.ret (ends_cellR hm rfl rfl rfl (Nat.le_of_ble_eq_true rfl) rfl rfl))
 | refine op_box rfl (tl hn rfl) ?_
 | refine op_storeF rfl rfl rfl rfl (Nat.le_of_ble_eq_true rfl) ?_
 | refine op_alloc (tl hn rfl) ?_
 | refine op_storeN rfl rfl rfl rfl (Nat.le_of_ble_eq_true rfl) ?_
 | refine RunsD.step tabOk hn rfl rfl ?_
 | refine RunsD.nil ?_
 | refine Runs.toDraw 30 mixed hn rfl (by kernel_rfl) rfl ?_
 | ((first | refine RunsL.pe hn rfl rfl rfl ?_ | refine RunsD.pe rfl rfl ?_); first
 | refine ⟨_, pu_add rfl rfl (by omega), ?_⟩
 | refine ⟨_, pu_indexAddr_map rfl rfl (by omega) (by assumption), ?_⟩
 | refine ⟨_, pu_sub rfl rfl (by omega), ?_⟩
 | refine ⟨_, pu_pick_b rfl rfl rfl, ?_⟩
 | refine ⟨_, pu_mul rfl rfl (by omega), ?_⟩
 | refine ⟨_, pu_build rfl rfl rfl rfl rfl rfl, ?_⟩)
 | ((first | refine RunsL.guard_dec rfl rfl rfl ?_ ?_ | refine RunsL.guard_ndec rfl rfl rfl ?_ ?_ | refine RunsL.guard_nb rfl rfl rfl ?_ ?_ | refine RunsL.guard_b rfl rfl rfl ?_ ?_ | refine RunsD.guard_dec rfl rfl rfl ?_ ?_ | refine RunsD.guard_ndec rfl rfl rfl ?_ ?_ | refine RunsD.guard_nb rfl rfl rfl ?_ ?_ | refine RunsD.guard_b rfl rfl rfl ?_ ?_) <;> intro h <;> try (exfalso; first | omega | contradiction | (simp only [List.length_map] at h; omega))))
  all_goals (
    refine Runs.nilCell (e := 9) (sz := 1) 2 5 (by decide) rfl rfl ?_
    refine Runs.nilCell (e := 3) (sz := 1) 2 6 (by decide) rfl rfl ?_
    refine Runs.nilCell (e := 3) (sz := 1) 2 7 (by decide) rfl rfl ?_)
  all_goals first
    | exact Runs.ctls 30 rfl (Runs.ret (ends_rul (r := ⟨a ++ itoaS d.length, 10, 0, false, [u8i y], [], [], []⟩) (x := 4) (y := 5) (z := 6) (w := 7) hm rfl rfl rfl hi rfl rfl rfl rfl rfl rfl (by decide) (by decide) (ruleD10 ha hy)))
end Go.Proofs.Ytdikinkihnepaaa
/- The draw of a rule: sequences and choices. -/
namespace Go.Proofs.Ytdikinkihnepaaa
set_option linter.unusedSimpArgs false
set_option linter.unusedVariables false
open Go.RowKit
open AV (Mem Keeps)
set_option maxHeartbeats 8000000 in
theorem l4Make6_d (b : List UInt8) (hb : b.length ≤ 1048576) (d : Des) (hd : d.length ≤ 24) : Drw Try.prog 102 97 b [desR d, .int 6] (QRul (RuleD d 6)) := by
  have hlm : (d.map rulR).length = d.length := List.length_map ..
  have hF := spec_FormatInt (d.length : Int) (by constructor <;> omega)
  have hlen := itoa_len (d.length : Int) (by omega) (by omega)
  have hfs : (⟨(Lib.itoa (d.length : Int)).toArray⟩ : ByteArray).size ≤ 20 := by rw [ba_size]; exact hlen
  refine drw_enter Try.func97 rfl _ Try.ntmps97 (by simp) fun C g u i h hn hm hu hi => ?_
  repeat' (first
 | (refine op_drawS (l1Str_d b hb baseA (by decide) (by decide)) rfl hu hi rfl (LendsPL.ros [strsR baseA]) rfl (by first | rfl | repeat' (first | rfl | exact clns_ro _ | refine clnO_cons ?_ ?_)) (tl hn rfl) ?_; intro i h a hi ha; have hsz := baseA_size a ha)
 | (refine op_drawI (l1Below_d b hb _ (by omega)) rfl hu hi rfl (LendsPL.ros [.int _]) rfl (by first | rfl | repeat' (first | rfl | exact clns_ro _ | refine clnO_cons ?_ ?_)) (tl hn rfl) ?_; intro i h x hi hx; obtain ⟨hxa, hxb⟩ := hx.2 (by omega))
 | ((first | refine RunsL.pe hn rfl rfl rfl ?_ | refine RunsD.pe rfl rfl ?_); first
 | refine ⟨_, pu_len_seqN d.length rfl hlm, ?_⟩)
 | refine RunsL.step tabOk hn rfl ?_
 | refine RunsL.nil ?_
 | refine Runs.toRegion 30 rfl ?_
 | ((first | refine RunsL.pe hn rfl rfl rfl ?_ | refine RunsD.pe rfl rfl ?_); first
 | refine ⟨_, pu_callR hF rfl, ?_⟩
 | refine ⟨_, pu_cat rfl rfl (by omega), ?_⟩
 | refine ⟨_, pu_buildS rfl, ?_⟩)
 | (refine Runs.ctls 30 rfl ?_; first | refine Runs.cond_t rfl ?_ | refine Runs.cond_f rfl ?_ | ((first | refine Runs.cond_yes rfl ?_ ?_ | refine Runs.cond_nno rfl ?_ ?_); · first | omega | rfl | assumption | (simp only [List.length_map]; omega)) | ((first | refine Runs.cond_no rfl ?_ ?_ | refine Runs.cond_nyes rfl ?_ ?_); · first | omega | rfl | assumption | (simp only [List.length_map]; omega)) | refine Runs.cond_dec rfl (fun h => ?_) (fun h => ?_) | refine Runs.cond_ndec rfl (fun h => ?_) (fun h => ?_) | refine Runs.cond_nb rfl (fun h => ?_) (fun h => ?_) | refine Runs.cond_b rfl (fun h => ?_) (fun h => ?_) | refine Runs.ret (ends_ro hm rfl rfl ?_) | exact Runs.ret (ends_cellR hm rfl rfl rfl (Nat.le_of_ble_eq_true rfl) rfl rfl))
 | refine op_box rfl (tl hn rfl) ?_
 | refine op_storeF rfl rfl rfl rfl (Nat.le_of_ble_eq_true rfl) ?_
 | refine op_alloc (tl hn rfl) ?_
 | refine op_storeN rfl rfl rfl rfl (Nat.le_of_ble_eq_true rfl) ?_
 | refine RunsD.step tabOk hn rfl rfl ?_
 | refine RunsD.nil ?_
 | refine Runs.toDraw 30 mixed hn rfl (by kernel_rfl) rfl ?_
 | ((first | refine RunsL.pe hn rfl rfl rfl ?_ | refine RunsD.pe rfl rfl ?_); first
 | refine ⟨_, pu_add rfl rfl (by omega), ?_⟩
 | refine ⟨_, pu_indexAddr_map rfl rfl (by omega) (by assumption), ?_⟩
 | refine ⟨_, pu_sub rfl rfl (by omega), ?_⟩
 | refine ⟨_, pu_pick_b rfl rfl rfl, ?_⟩
 | refine ⟨_, pu_mul rfl rfl (by omega), ?_⟩
 | refine ⟨_, pu_build rfl rfl rfl rfl rfl rfl, ?_⟩)
 | ((first | refine RunsL.guard_dec rfl rfl rfl ?_ ?_ | refine RunsL.guard_ndec rfl rfl rfl ?_ ?_ | refine RunsL.guard_nb rfl rfl rfl ?_ ?_ | refine RunsL.guard_b rfl rfl rfl ?_ ?_ | refine RunsD.guard_dec rfl rfl rfl ?_ ?_ | refine RunsD.guard_ndec rfl rfl rfl ?_ ?_ | refine RunsD.guard_nb rfl rfl rfl ?_ ?_ | refine RunsD.guard_b rfl rfl rfl ?_ ?_) <;> intro h <;> try (exfalso; first | omega | contradiction | (simp only [List.length_map] at h; omega))))
  obtain ⟨c, hc⟩ : ∃ c : Nat, 1 + x = c := ⟨(1 + x).toNat, by omega⟩
  rw [hc]
  refine Runs.nilCell (e := 9) (sz := 1) 3 5 (by decide) rfl rfl ?_
  refine Runs.nilCell (e := 3) (sz := 1) 3 7 (by decide) rfl rfl ?_
  refine Runs.loopI 30 rfl (fun m E z => ∃ (l : List ByteArray) (ks : List Int) (i h : Int), l.length + m = c ∧ ks.length = l.length ∧ (∀ (j : Nat) x, l[j]? = some x → ∃ a ∈ baseP, x = a ++ itoaS ((c : Int) - j)) ∧ (∀ z ∈ ks, InD d z) ∧ CurOk b i ∧ E = [(0, .pin 0 0 g), (6, .obj 2 0), (7, .int d.length), (8, .obj 3 0), (9, .int m)] ∧
    z = [curOb 102 u i h, ⟨38, 0, [.ro (rulsR d)]⟩, ⟨46, 0, [.str ⟨#[]⟩, .int 0, .int 0, .bool false, .nil, .nil, .nil, .nil]⟩, ⟨46, 0, [.str (a ++ itoaS d.length), .int 6, .int 0, .bool false, .nil, .own 4, .nil, .own 5]⟩, ⟨9, 1, (l.map RV.str).map .ro⟩, ⟨3, 1, (ks.map RV.int).map .ro⟩]) c [(0, .pin 0 0 g), (6, .obj 2 0), (7, .int d.length), (8, .obj 3 0), (9, .int c)] ⟨rfl, rfl, rfl, rfl, rfl, trivial⟩ ⟨[], [], i, h, by simp, rfl, by simp, by simp, hi, rfl, rfl⟩ fun m E z ⟨l, ks, i, h, hlc, hkl, hl, hks, hi, hE, hz⟩ ih => ?_
  subst hE; subst hz
  have hll : (l.map RV.str).length = l.length := List.length_map ..
  have hkk : (ks.map RV.int).length = ks.length := List.length_map ..
  have hF2 := spec_FormatInt (m : Int) (by constructor <;> omega)
  have hlen2 := itoa_len (m : Int) (by omega) (by omega)
  have hfs2 : (⟨(Lib.itoa (m : Int)).toArray⟩ : ByteArray).size ≤ 20 := by rw [ba_size]; exact hlen2
  by_cases hm0 : 0 < m
  · repeat' (first
 | refine Runs.toLate (id := 19) 30 [0, 1, 2, 3, 5] [4, 6, 7, 8, 9, 10, 11] mixed rfl rfl (by kernel_rfl) (by kernel_rfl) (by kernel_rfl) ?_
 | refine Runs.toLate (id := 20) 30 [0, 1, 2, 3] [4, 5, 6, 7, 8] mixed rfl rfl (by kernel_rfl) (by kernel_rfl) (by kernel_rfl) ?_
 | (refine RunsP.drawS (l1Str_d b hb baseP (by decide) (by decide)) rfl hu hi (fun _ => LendsPL.ros [strsR baseP]) rfl (by first | rfl | repeat' (first | rfl | exact clns_ro _ | refine clnO_cons ?_ ?_)) (tl hn rfl) ?_; intro i h q hi hq; have hsz2 := baseP_size q hq)
 | (refine RunsP.drawI (l1Below_d b hb (d.length : Int) (by omega)) rfl hu hi (fun _ => LendsPL.ros [.int (d.length : Int)]) rfl (by first | rfl | repeat' (first | rfl | exact clns_ro _ | refine clnO_cons ?_ ?_)) (tl hn rfl) ?_; intro i h y hi hy; have hyd : InD d y := ⟨fun e => hy.1 (by omega), fun e => hy.2 (by omega)⟩)
 | (refine RunsL.junk 3 5 rfl ?_; refine op_append (t := 86) (n := l.length) rfl rfl rfl rfl rfl rfl (by rw [hll, Nat.mul_one]) (FreeI.at_ ⟨by simp [curOb, AV.onlys, AV.only], by simp [AV.onlys, AV.only], by simp [AV.onlys, AV.only], by simp [AV.onlys, AV.only], onlys_ro _ _, onlys_ro _ _, trivial⟩) (by simp; omega) (by simp; omega) (tl hn rfl) ?_)
 | (refine RunsL.junk 3 7 rfl ?_; refine op_append (t := 94) (n := ks.length) rfl rfl rfl rfl rfl rfl (by rw [hkk, Nat.mul_one]) (FreeI.at_ ⟨by simp [curOb, AV.onlys, AV.only], by simp [AV.onlys, AV.only], by simp [AV.onlys, AV.only], by simp [AV.onlys, AV.only], onlys_ro _ _, onlys_ro _ _, trivial⟩) (by simp; omega) (by simp; omega) (tl hn rfl) ?_)
 | refine RunsH.pur (fun _ _ => pu_auto tabOk rfl) rfl (tl hn rfl) rfl ?_
 | refine RunsH.pur (fun _ _ => pu_callR hF2 rfl) rfl (tl hn rfl) rfl ?_
 | refine RunsH.pur (fun _ _ => pu_cat rfl rfl (by omega)) rfl (tl hn rfl) rfl ?_
 | refine RunsH.pur (fun _ _ => pu_build rfl rfl rfl rfl rfl rfl) rfl (tl hn rfl) rfl ?_
 | refine RunsH.pur (fun _ _ => pu_add rfl rfl (by omega)) rfl (tl hn rfl) rfl ?_
 | refine RunsH.pur (fun _ _ => pu_indexAddr_map rfl rfl (by omega) (by assumption)) rfl (tl hn rfl) rfl ?_
 | refine RunsH.pur (fun _ _ => pu_sub rfl rfl (by omega)) rfl (tl hn rfl) rfl ?_
 | refine RunsH.pur (fun _ _ => pu_pick_b rfl rfl rfl) rfl (tl hn rfl) rfl ?_
 | refine RunsH.pur (fun _ _ => pu_mul rfl rfl (by omega)) rfl (tl hn rfl) rfl ?_
 | refine RunsH.pur (fun _ _ => pu_build rfl rfl rfl rfl rfl rfl) rfl (tl hn rfl) rfl ?_
 | refine RunsH.nil ?_
 | refine RunsP.pur (pu_auto tabOk rfl) rfl rfl (tl hn rfl) (by first | rfl | repeat' (first | rfl | exact clns_ro _ | refine clnO_cons ?_ ?_)) ?_
 | refine RunsP.pur (pu_callR hF2 rfl) rfl rfl (tl hn rfl) (by first | rfl | repeat' (first | rfl | exact clns_ro _ | refine clnO_cons ?_ ?_)) ?_
 | refine RunsP.pur (pu_cat rfl rfl (by omega)) rfl rfl (tl hn rfl) (by first | rfl | repeat' (first | rfl | exact clns_ro _ | refine clnO_cons ?_ ?_)) ?_
 | refine RunsP.pur (pu_build rfl rfl rfl rfl rfl rfl) rfl rfl (tl hn rfl) (by first | rfl | repeat' (first | rfl | exact clns_ro _ | refine clnO_cons ?_ ?_)) ?_
 | refine RunsP.pur (pu_add rfl rfl (by omega)) rfl rfl (tl hn rfl) (by first | rfl | repeat' (first | rfl | exact clns_ro _ | refine clnO_cons ?_ ?_)) ?_
 | refine RunsP.pur (pu_indexAddr_map rfl rfl (by omega) (by assumption)) rfl rfl (tl hn rfl) (by first | rfl | repeat' (first | rfl | exact clns_ro _ | refine clnO_cons ?_ ?_)) ?_
 | refine RunsP.pur (pu_sub rfl rfl (by omega)) rfl rfl (tl hn rfl) (by first | rfl | repeat' (first | rfl | exact clns_ro _ | refine clnO_cons ?_ ?_)) ?_
 | refine RunsP.pur (pu_pick_b rfl rfl rfl) rfl rfl (tl hn rfl) (by first | rfl | repeat' (first | rfl | exact clns_ro _ | refine clnO_cons ?_ ?_)) ?_
 | refine RunsP.pur (pu_mul rfl rfl (by omega)) rfl rfl (tl hn rfl) (by first | rfl | repeat' (first | rfl | exact clns_ro _ | refine clnO_cons ?_ ?_)) ?_
 | refine RunsP.pur (pu_build rfl rfl rfl rfl rfl rfl) rfl rfl (tl hn rfl) (by first | rfl | repeat' (first | rfl | exact clns_ro _ | refine clnO_cons ?_ ?_)) ?_
 | refine RunsL.step tabOk hn rfl ?_
 | refine RunsL.nil ?_
 | refine Runs.toRegion 30 rfl ?_
 | refine RunsP.done 9 rfl (Nat.le_of_ble_eq_true rfl) (by kernel_rfl) (by kernel_rfl) ?_
 | refine RunsP.done 6 rfl (Nat.le_of_ble_eq_true rfl) (by kernel_rfl) (by kernel_rfl) ?_
 | ((first | refine RunsL.pe hn rfl rfl rfl ?_ | refine RunsD.pe rfl rfl ?_); first
 | refine ⟨_, pu_callR hF2 rfl, ?_⟩
 | refine ⟨_, pu_cat rfl rfl (by omega), ?_⟩
 | refine ⟨_, pu_build rfl rfl rfl rfl rfl rfl, ?_⟩)
 | (refine Runs.ctls 30 rfl ?_; first | refine Runs.cond_t rfl ?_ | refine Runs.cond_f rfl ?_ | ((first | refine Runs.cond_yes rfl ?_ ?_ | refine Runs.cond_nno rfl ?_ ?_); · first | omega | rfl | assumption | (simp only [List.length_map]; omega)) | ((first | refine Runs.cond_no rfl ?_ ?_ | refine Runs.cond_nyes rfl ?_ ?_); · first | omega | rfl | assumption | (simp only [List.length_map]; omega)) | refine Runs.cond_dec rfl (fun h => ?_) (fun h => ?_) | refine Runs.cond_ndec rfl (fun h => ?_) (fun h => ?_) | refine Runs.cond_nb rfl (fun h => ?_) (fun h => ?_) | refine Runs.cond_b rfl (fun h => ?_) (fun h => ?_) | refine Runs.ret (ends_ro hm rfl rfl ?_) | exact Runs.ret (ends_cellR hm rfl rfl rfl (Nat.le_of_ble_eq_true rfl) rfl rfl))
 | refine op_box rfl (tl hn rfl) ?_
 | refine op_storeF rfl rfl rfl rfl (Nat.le_of_ble_eq_true rfl) ?_
 | refine op_alloc (tl hn rfl) ?_
 | refine op_storeN rfl rfl rfl rfl (Nat.le_of_ble_eq_true rfl) ?_
 | refine RunsD.step tabOk hn rfl rfl ?_
 | refine RunsD.nil ?_
 | refine Runs.toDraw 30 mixed hn rfl (by kernel_rfl) rfl ?_
 | ((first | refine RunsL.pe hn rfl rfl rfl ?_ | refine RunsD.pe rfl rfl ?_); first
 | refine ⟨_, pu_add rfl rfl (by omega), ?_⟩
 | refine ⟨_, pu_indexAddr_map rfl rfl (by omega) (by assumption), ?_⟩
 | refine ⟨_, pu_sub rfl rfl (by omega), ?_⟩
 | refine ⟨_, pu_pick_b rfl rfl rfl, ?_⟩
 | refine ⟨_, pu_mul rfl rfl (by omega), ?_⟩
 | refine ⟨_, pu_build rfl rfl rfl rfl rfl rfl, ?_⟩)
 | ((first | refine RunsL.guard_dec rfl rfl rfl ?_ ?_ | refine RunsL.guard_ndec rfl rfl rfl ?_ ?_ | refine RunsL.guard_nb rfl rfl rfl ?_ ?_ | refine RunsL.guard_b rfl rfl rfl ?_ ?_ | refine RunsD.guard_dec rfl rfl rfl ?_ ?_ | refine RunsD.guard_ndec rfl rfl rfl ?_ ?_ | refine RunsD.guard_nb rfl rfl rfl ?_ ?_ | refine RunsD.guard_b rfl rfl rfl ?_ ?_) <;> intro h <;> try (exfalso; first | omega | contradiction | (simp only [List.length_map] at h; omega))))
    refine ih (m - 1) _ _ _ (by omega) ⟨l ++ [q ++ ⟨(Lib.itoa (m : Int)).toArray⟩], ks ++ [y], i, h, by simp; omega, by simp [hkl], fun j z hz => ?_, fun z hz => ?_, hi, rfl, ?_⟩ ⟨rfl, rfl, rfl, rfl, ?_, trivial⟩
    · rw [List.getElem?_append] at hz
      split at hz
      · exact hl j z hz
      · rename_i hj
        have hj' : j - l.length = 0 := by
          have := (List.getElem?_eq_some_iff.1 hz).1
          simp at this; omega
        rw [hj'] at hz
        simp at hz
        subst hz
        exact ⟨q, hq, by unfold itoaS; congr 3; congr 1; omega⟩
    · rcases List.mem_append.1 hz with h1 | h1
      · exact hks z h1
      · simp at h1; subst h1; exact hyd
    · simp
    · show AV.int _ = AV.int _
      congr 1; omega
  · have em : m = 0 := by omega
    repeat' (first
 | refine RunsL.step tabOk hn rfl ?_
 | refine RunsL.nil ?_
 | refine Runs.toRegion 30 rfl ?_
 | (refine Runs.ctls 30 rfl ?_; first | refine Runs.cond_t rfl ?_ | refine Runs.cond_f rfl ?_ | ((first | refine Runs.cond_yes rfl ?_ ?_ | refine Runs.cond_nno rfl ?_ ?_); · first | omega | rfl | assumption | (simp only [List.length_map]; omega)) | ((first | refine Runs.cond_no rfl ?_ ?_ | refine Runs.cond_nyes rfl ?_ ?_); · first | omega | rfl | assumption | (simp only [List.length_map]; omega)) | refine Runs.cond_dec rfl (fun h => ?_) (fun h => ?_) | refine Runs.cond_ndec rfl (fun h => ?_) (fun h => ?_) | refine Runs.cond_nb rfl (fun h => ?_) (fun h => ?_) | refine Runs.cond_b rfl (fun h => ?_) (fun h => ?_) | refine Runs.ret (ends_ro hm rfl rfl ?_) | exact Runs.ret (ends_cellR hm rfl rfl rfl (Nat.le_of_ble_eq_true rfl) rfl rfl))
 | refine op_box rfl (tl hn rfl) ?_
 | refine op_storeF rfl rfl rfl rfl (Nat.le_of_ble_eq_true rfl) ?_
 | refine op_alloc (tl hn rfl) ?_
 | refine op_storeN rfl rfl rfl rfl (Nat.le_of_ble_eq_true rfl) ?_
 | refine RunsD.step tabOk hn rfl rfl ?_
 | refine RunsD.nil ?_
 | refine Runs.toDraw 30 mixed hn rfl (by kernel_rfl) rfl ?_
 | ((first | refine RunsL.pe hn rfl rfl rfl ?_ | refine RunsD.pe rfl rfl ?_); first
 | refine ⟨_, pu_add rfl rfl (by omega), ?_⟩
 | refine ⟨_, pu_indexAddr_map rfl rfl (by omega) (by assumption), ?_⟩
 | refine ⟨_, pu_sub rfl rfl (by omega), ?_⟩
 | refine ⟨_, pu_pick_b rfl rfl rfl, ?_⟩
 | refine ⟨_, pu_mul rfl rfl (by omega), ?_⟩
 | refine ⟨_, pu_build rfl rfl rfl rfl rfl rfl, ?_⟩)
 | ((first | refine RunsL.guard_dec rfl rfl rfl ?_ ?_ | refine RunsL.guard_ndec rfl rfl rfl ?_ ?_ | refine RunsL.guard_nb rfl rfl rfl ?_ ?_ | refine RunsL.guard_b rfl rfl rfl ?_ ?_ | refine RunsD.guard_dec rfl rfl rfl ?_ ?_ | refine RunsD.guard_ndec rfl rfl rfl ?_ ?_ | refine RunsD.guard_nb rfl rfl rfl ?_ ?_ | refine RunsD.guard_b rfl rfl rfl ?_ ?_) <;> intro h <;> try (exfalso; first | omega | contradiction | (simp only [List.length_map] at h; omega))))
    refine Runs.nilCell (e := 5) (sz := 1) 2 4 (by decide) rfl rfl ?_
    refine Runs.nilCell (e := 3) (sz := 1) 2 6 (by decide) rfl rfl ?_
    exact Runs.ctls 30 rfl (Runs.ret (ends_rul (r := ⟨a ++ itoaS d.length, 6, 0, false, [], l, [], ks⟩) (x := 6) (y := 4) (z := 7) (w := 5) hm rfl rfl rfl hi rfl rfl rfl rfl rfl rfl (by decide) (by decide) (ruleD6 ha (by omega) (by rw [show (l.length : Int) = c by omega]; exact hl) hkl hks)))
set_option maxHeartbeats 8000000 in
theorem l4Make7_d (b : List UInt8) (hb : b.length ≤ 1048576) (d : Des) (hd : d.length ≤ 24) (r0 : Rul) (h0 : d[0]? = some r0) (hk0 : r0.kind = 1) : Drw Try.prog 102 97 b [desR d, .int 7] (QRul (RuleD d 7)) := by
  have hlm : (d.map rulR).length = d.length := List.length_map ..
  have hF := spec_FormatInt (d.length : Int) (by constructor <;> omega)
  have hlen := itoa_len (d.length : Int) (by omega) (by omega)
  have hfs : (⟨(Lib.itoa (d.length : Int)).toArray⟩ : ByteArray).size ≤ 20 := by rw [ba_size]; exact hlen
  refine drw_enter Try.func97 rfl _ Try.ntmps97 (by simp) fun C g u i h hn hm hu hi => ?_
  repeat' (first
 | (refine op_drawS (l1Str_d b hb baseA (by decide) (by decide)) rfl hu hi rfl (LendsPL.ros [strsR baseA]) rfl (by first | rfl | repeat' (first | rfl | exact clns_ro _ | refine clnO_cons ?_ ?_)) (tl hn rfl) ?_; intro i h a hi ha; have hsz := baseA_size a ha)
 | (refine op_drawI (l4Integer_d b hb d hd r0 h0 hk0) rfl hu hi rfl (LendsPL.ros [desR d]) rfl (by first | rfl | repeat' (first | rfl | exact clns_ro _ | refine clnO_cons ?_ ?_)) (tl hn rfl) ?_; intro i h x0 hi hx0)
 | refine op_build (t := 101) rfl rfl rfl rfl rfl (tl hn rfl) ?_
 | (refine op_drawI (l1Below_d b hb _ (by omega)) rfl hu hi rfl (LendsPL.ros [.int _]) rfl (by first | rfl | repeat' (first | rfl | exact clns_ro _ | refine clnO_cons ?_ ?_)) (tl hn rfl) ?_; intro i h x hi hx; obtain ⟨hxa, hxb⟩ := hx.2 (by omega))
 | ((first | refine RunsL.pe hn rfl rfl rfl ?_ | refine RunsD.pe rfl rfl ?_); first
 | refine ⟨_, pu_len_seqN d.length rfl hlm, ?_⟩)
 | refine RunsL.step tabOk hn rfl ?_
 | refine RunsL.nil ?_
 | refine Runs.toRegion 30 rfl ?_
 | ((first | refine RunsL.pe hn rfl rfl rfl ?_ | refine RunsD.pe rfl rfl ?_); first
 | refine ⟨_, pu_callR hF rfl, ?_⟩
 | refine ⟨_, pu_cat rfl rfl (by omega), ?_⟩
 | refine ⟨_, pu_buildS rfl, ?_⟩)
 | (refine Runs.ctls 30 rfl ?_; first | refine Runs.cond_t rfl ?_ | refine Runs.cond_f rfl ?_ | ((first | refine Runs.cond_yes rfl ?_ ?_ | refine Runs.cond_nno rfl ?_ ?_); · first | omega | rfl | assumption | (simp only [List.length_map]; omega)) | ((first | refine Runs.cond_no rfl ?_ ?_ | refine Runs.cond_nyes rfl ?_ ?_); · first | omega | rfl | assumption | (simp only [List.length_map]; omega)) | refine Runs.cond_dec rfl (fun h => ?_) (fun h => ?_) | refine Runs.cond_ndec rfl (fun h => ?_) (fun h => ?_) | refine Runs.cond_nb rfl (fun h => ?_) (fun h => ?_) | refine Runs.cond_b rfl (fun h => ?_) (fun h => ?_) | refine Runs.ret (ends_ro hm rfl rfl ?_) | exact Runs.ret (ends_cellR hm rfl rfl rfl (Nat.le_of_ble_eq_true rfl) rfl rfl))
 | refine op_box rfl (tl hn rfl) ?_
 | refine op_storeF rfl rfl rfl rfl (Nat.le_of_ble_eq_true rfl) ?_
 | refine op_alloc (tl hn rfl) ?_
 | refine op_storeN rfl rfl rfl rfl (Nat.le_of_ble_eq_true rfl) ?_
 | refine RunsD.step tabOk hn rfl rfl ?_
 | refine RunsD.nil ?_
 | refine Runs.toDraw 30 mixed hn rfl (by kernel_rfl) rfl ?_
 | ((first | refine RunsL.pe hn rfl rfl rfl ?_ | refine RunsD.pe rfl rfl ?_); first
 | refine ⟨_, pu_add rfl rfl (by omega), ?_⟩
 | refine ⟨_, pu_indexAddr_map rfl rfl (by omega) (by assumption), ?_⟩
 | refine ⟨_, pu_sub rfl rfl (by omega), ?_⟩
 | refine ⟨_, pu_pick_b rfl rfl rfl, ?_⟩
 | refine ⟨_, pu_mul rfl rfl (by omega), ?_⟩
 | refine ⟨_, pu_build rfl rfl rfl rfl rfl rfl, ?_⟩)
 | ((first | refine RunsL.guard_dec rfl rfl rfl ?_ ?_ | refine RunsL.guard_ndec rfl rfl rfl ?_ ?_ | refine RunsL.guard_nb rfl rfl rfl ?_ ?_ | refine RunsL.guard_b rfl rfl rfl ?_ ?_ | refine RunsD.guard_dec rfl rfl rfl ?_ ?_ | refine RunsD.guard_ndec rfl rfl rfl ?_ ?_ | refine RunsD.guard_nb rfl rfl rfl ?_ ?_ | refine RunsD.guard_b rfl rfl rfl ?_ ?_) <;> intro h <;> try (exfalso; first | omega | contradiction | (simp only [List.length_map] at h; omega))))
  obtain ⟨c, hc⟩ : ∃ c : Nat, 1 + x = c := ⟨(1 + x).toNat, by omega⟩
  rw [hc]
  refine Runs.nilCell (e := 3) (sz := 1) 3 6 (by decide) rfl rfl ?_
  refine Runs.loopI 30 rfl (fun m E z => ∃ (ts ks : List Int) (i h : Int), ts.length + m = c ∧ ks.length = ts.length ∧ (∀ (j : Nat) z, ts[j]? = some z → 4 * (j : Int) ≤ z ∧ z ≤ 4 * j + 3) ∧ (∀ z ∈ ks, InD d z) ∧ CurOk b i ∧ E = [(0, .pin 0 0 g), (6, .obj 2 0), (7, .int d.length), (8, .obj 3 0), (10, .int m)] ∧
    z = [curOb 102 u i h, ⟨38, 0, [.ro (rulsR d)]⟩, ⟨46, 0, [.str ⟨#[]⟩, .int 0, .int 0, .bool false, .nil, .nil, .nil, .nil]⟩, ⟨46, 0, [.str (a ++ itoaS d.length), .int 7, .int 0, .bool false, .nil, .nil, .own 5, .own 4]⟩, ⟨3, 1, ((x0 :: ks).map RV.int).map .ro⟩, ⟨3, 1, (ts.map RV.int).map .ro⟩]) c [(0, .pin 0 0 g), (6, .obj 2 0), (7, .int d.length), (8, .obj 3 0), (10, .int c)] ⟨rfl, rfl, rfl, rfl, rfl, trivial⟩ ⟨[], [], i, h, by simp, rfl, by simp, by simp, hi, rfl, rfl⟩ fun m E z ⟨ts, ks, i, h, hlc, hkl, ht, hks, hi, hE, hz⟩ ih => ?_
  subst hE; subst hz
  have htt : (ts.map RV.int).length = ts.length := List.length_map ..
  have hta : ((ts.map RV.int).map AV.ro).length = ts.length := by simp
  have hkk : ((x0 :: ks).map RV.int).length = ks.length + 1 := by simp
  by_cases hm0 : 0 < m
  · repeat' (first
 | refine Runs.toLate (id := 26) 30 [0, 1, 2, 3, 4, 5, 6] [7, 8, 9, 10, 11, 12] mixed rfl rfl (by kernel_rfl) (by kernel_rfl) (by kernel_rfl) ?_
 | refine Runs.toLate (id := 27) 30 [0, 1, 2, 3] [4, 5, 6, 7, 8] mixed rfl rfl (by kernel_rfl) (by kernel_rfl) (by kernel_rfl) ?_
 | (refine RunsP.drawI (t := 117) (l1Below_d b hb 4 (by omega)) rfl hu hi (fun _ => LendsPL.ros [.int 4]) rfl (by first | rfl | repeat' (first | rfl | exact clns_ro _ | refine clnO_cons ?_ ?_)) (tl hn rfl) ?_; intro i h q hi hq; obtain ⟨hqa, hqb⟩ := hq.2 (by omega))
 | (refine RunsP.drawI (t := 126) (l1Below_d b hb (d.length : Int) (by omega)) rfl hu hi (fun _ => LendsPL.ros [.int (d.length : Int)]) rfl (by first | rfl | repeat' (first | rfl | exact clns_ro _ | refine clnO_cons ?_ ?_)) (tl hn rfl) ?_; intro i h y hi hy; have hyd : InD d y := ⟨fun e => hy.1 (by omega), fun e => hy.2 (by omega)⟩)
 | refine RunsH.pur (fun _ _ => pu_auto tabOk rfl) rfl (tl hn rfl) rfl ?_
 | refine RunsH.pur (fun _ _ => pu_len_own (n := ts.length) rfl rfl (by rw [hta, Nat.mul_one])) rfl (tl hn rfl) rfl ?_
 | refine RunsH.pur (fun _ _ => pu_mul rfl rfl (by omega)) rfl (tl hn rfl) rfl ?_
 | refine RunsH.pur (fun _ _ => pu_add rfl rfl (by omega)) rfl (tl hn rfl) rfl ?_
 | refine RunsH.pur (fun _ _ => pu_build rfl rfl rfl rfl rfl rfl) rfl (tl hn rfl) rfl ?_
 | refine RunsH.pur (fun _ _ => pu_add rfl rfl (by omega)) rfl (tl hn rfl) rfl ?_
 | refine RunsH.pur (fun _ _ => pu_indexAddr_map rfl rfl (by omega) (by assumption)) rfl (tl hn rfl) rfl ?_
 | refine RunsH.pur (fun _ _ => pu_sub rfl rfl (by omega)) rfl (tl hn rfl) rfl ?_
 | refine RunsH.pur (fun _ _ => pu_pick_b rfl rfl rfl) rfl (tl hn rfl) rfl ?_
 | refine RunsH.pur (fun _ _ => pu_mul rfl rfl (by omega)) rfl (tl hn rfl) rfl ?_
 | refine RunsH.pur (fun _ _ => pu_build rfl rfl rfl rfl rfl rfl) rfl (tl hn rfl) rfl ?_
 | refine RunsH.nil ?_
 | refine RunsP.pur (pu_auto tabOk rfl) rfl rfl (tl hn rfl) (by first | rfl | repeat' (first | rfl | exact clns_ro _ | refine clnO_cons ?_ ?_)) ?_
 | refine RunsP.pur (pu_len_own (n := ts.length) rfl rfl (by rw [hta, Nat.mul_one])) rfl rfl (tl hn rfl) (by first | rfl | repeat' (first | rfl | exact clns_ro _ | refine clnO_cons ?_ ?_)) ?_
 | refine RunsP.pur (pu_mul rfl rfl (by omega)) rfl rfl (tl hn rfl) (by first | rfl | repeat' (first | rfl | exact clns_ro _ | refine clnO_cons ?_ ?_)) ?_
 | refine RunsP.pur (pu_add rfl rfl (by omega)) rfl rfl (tl hn rfl) (by first | rfl | repeat' (first | rfl | exact clns_ro _ | refine clnO_cons ?_ ?_)) ?_
 | refine RunsP.pur (pu_build rfl rfl rfl rfl rfl rfl) rfl rfl (tl hn rfl) (by first | rfl | repeat' (first | rfl | exact clns_ro _ | refine clnO_cons ?_ ?_)) ?_
 | refine RunsP.pur (pu_add rfl rfl (by omega)) rfl rfl (tl hn rfl) (by first | rfl | repeat' (first | rfl | exact clns_ro _ | refine clnO_cons ?_ ?_)) ?_
 | refine RunsP.pur (pu_indexAddr_map rfl rfl (by omega) (by assumption)) rfl rfl (tl hn rfl) (by first | rfl | repeat' (first | rfl | exact clns_ro _ | refine clnO_cons ?_ ?_)) ?_
 | refine RunsP.pur (pu_sub rfl rfl (by omega)) rfl rfl (tl hn rfl) (by first | rfl | repeat' (first | rfl | exact clns_ro _ | refine clnO_cons ?_ ?_)) ?_
 | refine RunsP.pur (pu_pick_b rfl rfl rfl) rfl rfl (tl hn rfl) (by first | rfl | repeat' (first | rfl | exact clns_ro _ | refine clnO_cons ?_ ?_)) ?_
 | refine RunsP.pur (pu_mul rfl rfl (by omega)) rfl rfl (tl hn rfl) (by first | rfl | repeat' (first | rfl | exact clns_ro _ | refine clnO_cons ?_ ?_)) ?_
 | refine RunsP.pur (pu_build rfl rfl rfl rfl rfl rfl) rfl rfl (tl hn rfl) (by first | rfl | repeat' (first | rfl | exact clns_ro _ | refine clnO_cons ?_ ?_)) ?_
 | refine RunsL.step tabOk hn rfl ?_
 | refine RunsL.nil ?_
 | refine Runs.toRegion 30 rfl ?_
 | refine RunsP.done 10 rfl (Nat.le_of_ble_eq_true rfl) (by kernel_rfl) (by kernel_rfl) ?_
 | refine RunsP.done 6 rfl (Nat.le_of_ble_eq_true rfl) (by kernel_rfl) (by kernel_rfl) ?_
 | (refine RunsL.junk 3 6 rfl ?_; refine op_append (t := 120) (n := ts.length) rfl rfl rfl rfl rfl rfl (by rw [htt, Nat.mul_one]) (FreeI.at_ ⟨by simp [curOb, AV.onlys, AV.only], by simp [AV.onlys, AV.only], by simp [AV.onlys, AV.only], by simp [AV.onlys, AV.only], onlys_ro _ _, onlys_ro _ _, trivial⟩) (by simp; omega) (by simp; omega) (tl hn rfl) ?_)
 | (refine RunsL.junk 3 7 rfl ?_; refine op_append (t := 128) (n := ks.length + 1) rfl rfl rfl rfl rfl rfl (by rw [hkk, Nat.mul_one]) (FreeI.at_ ⟨by simp [curOb, AV.onlys, AV.only], by simp [AV.onlys, AV.only], by simp [AV.onlys, AV.only], by simp [AV.onlys, AV.only], onlys_ro _ _, onlys_ro _ _, trivial⟩) (by simp; omega) (by simp; omega) (tl hn rfl) ?_)
 | ((first | refine RunsL.pe hn rfl rfl rfl ?_ | refine RunsD.pe rfl rfl ?_); first
 | refine ⟨_, pu_len_own (n := ts.length) rfl rfl (by rw [hta, Nat.mul_one]), ?_⟩
 | refine ⟨_, pu_mul rfl rfl (by omega), ?_⟩
 | refine ⟨_, pu_add rfl rfl (by omega), ?_⟩
 | refine ⟨_, pu_build rfl rfl rfl rfl rfl rfl, ?_⟩)
 | (refine Runs.ctls 30 rfl ?_; first | refine Runs.cond_t rfl ?_ | refine Runs.cond_f rfl ?_ | ((first | refine Runs.cond_yes rfl ?_ ?_ | refine Runs.cond_nno rfl ?_ ?_); · first | omega | rfl | assumption | (simp only [List.length_map]; omega)) | ((first | refine Runs.cond_no rfl ?_ ?_ | refine Runs.cond_nyes rfl ?_ ?_); · first | omega | rfl | assumption | (simp only [List.length_map]; omega)) | refine Runs.cond_dec rfl (fun h => ?_) (fun h => ?_) | refine Runs.cond_ndec rfl (fun h => ?_) (fun h => ?_) | refine Runs.cond_nb rfl (fun h => ?_) (fun h => ?_) | refine Runs.cond_b rfl (fun h => ?_) (fun h => ?_) | refine Runs.ret (ends_ro hm rfl rfl ?_) | exact Runs.ret (ends_cellR hm rfl rfl rfl (Nat.le_of_ble_eq_true rfl) rfl rfl))
 | refine op_box rfl (tl hn rfl) ?_
 | refine op_storeF rfl rfl rfl rfl (Nat.le_of_ble_eq_true rfl) ?_
 | refine op_alloc (tl hn rfl) ?_
 | refine op_storeN rfl rfl rfl rfl (Nat.le_of_ble_eq_true rfl) ?_
 | refine RunsD.step tabOk hn rfl rfl ?_
 | refine RunsD.nil ?_
 | refine Runs.toDraw 30 mixed hn rfl (by kernel_rfl) rfl ?_
 | ((first | refine RunsL.pe hn rfl rfl rfl ?_ | refine RunsD.pe rfl rfl ?_); first
 | refine ⟨_, pu_add rfl rfl (by omega), ?_⟩
 | refine ⟨_, pu_indexAddr_map rfl rfl (by omega) (by assumption), ?_⟩
 | refine ⟨_, pu_sub rfl rfl (by omega), ?_⟩
 | refine ⟨_, pu_pick_b rfl rfl rfl, ?_⟩
 | refine ⟨_, pu_mul rfl rfl (by omega), ?_⟩
 | refine ⟨_, pu_build rfl rfl rfl rfl rfl rfl, ?_⟩)
 | ((first | refine RunsL.guard_dec rfl rfl rfl ?_ ?_ | refine RunsL.guard_ndec rfl rfl rfl ?_ ?_ | refine RunsL.guard_nb rfl rfl rfl ?_ ?_ | refine RunsL.guard_b rfl rfl rfl ?_ ?_ | refine RunsD.guard_dec rfl rfl rfl ?_ ?_ | refine RunsD.guard_ndec rfl rfl rfl ?_ ?_ | refine RunsD.guard_nb rfl rfl rfl ?_ ?_ | refine RunsD.guard_b rfl rfl rfl ?_ ?_) <;> intro h <;> try (exfalso; first | omega | contradiction | (simp only [List.length_map] at h; omega))))
    refine ih (m - 1) _ _ _ (by omega) ⟨ts ++ [4 * (ts.length : Int) + q], ks ++ [y], i, h, by simp; omega, by simp [hkl], fun j z hz => ?_, fun z hz => ?_, hi, rfl, ?_⟩ ⟨rfl, rfl, rfl, rfl, ?_, trivial⟩
    · rw [List.getElem?_append] at hz
      split at hz
      · exact ht j z hz
      · rename_i hj
        have hj' : j - ts.length = 0 := by
          have := (List.getElem?_eq_some_iff.1 hz).1
          simp at this; omega
        rw [hj'] at hz
        simp at hz
        subst hz
        omega
    · rcases List.mem_append.1 hz with h1 | h1
      · exact hks z h1
      · simp at h1; subst h1; exact hyd
    · simp
    · show AV.int _ = AV.int _
      congr 1; omega
  · have em : m = 0 := by omega
    repeat' (first
 | refine RunsL.step tabOk hn rfl ?_
 | refine RunsL.nil ?_
 | refine Runs.toRegion 30 rfl ?_
 | (refine Runs.ctls 30 rfl ?_; first | refine Runs.cond_t rfl ?_ | refine Runs.cond_f rfl ?_ | ((first | refine Runs.cond_yes rfl ?_ ?_ | refine Runs.cond_nno rfl ?_ ?_); · first | omega | rfl | assumption | (simp only [List.length_map]; omega)) | ((first | refine Runs.cond_no rfl ?_ ?_ | refine Runs.cond_nyes rfl ?_ ?_); · first | omega | rfl | assumption | (simp only [List.length_map]; omega)) | refine Runs.cond_dec rfl (fun h => ?_) (fun h => ?_) | refine Runs.cond_ndec rfl (fun h => ?_) (fun h => ?_) | refine Runs.cond_nb rfl (fun h => ?_) (fun h => ?_) | refine Runs.cond_b rfl (fun h => ?_) (fun h => ?_) | refine Runs.ret (ends_ro hm rfl rfl ?_) | exact Runs.ret (ends_cellR hm rfl rfl rfl (Nat.le_of_ble_eq_true rfl) rfl rfl))
 | refine op_box rfl (tl hn rfl) ?_
 | refine op_storeF rfl rfl rfl rfl (Nat.le_of_ble_eq_true rfl) ?_
 | refine op_alloc (tl hn rfl) ?_
 | refine op_storeN rfl rfl rfl rfl (Nat.le_of_ble_eq_true rfl) ?_
 | refine RunsD.step tabOk hn rfl rfl ?_
 | refine RunsD.nil ?_
 | refine Runs.toDraw 30 mixed hn rfl (by kernel_rfl) rfl ?_
 | ((first | refine RunsL.pe hn rfl rfl rfl ?_ | refine RunsD.pe rfl rfl ?_); first
 | refine ⟨_, pu_add rfl rfl (by omega), ?_⟩
 | refine ⟨_, pu_indexAddr_map rfl rfl (by omega) (by assumption), ?_⟩
 | refine ⟨_, pu_sub rfl rfl (by omega), ?_⟩
 | refine ⟨_, pu_pick_b rfl rfl rfl, ?_⟩
 | refine ⟨_, pu_mul rfl rfl (by omega), ?_⟩
 | refine ⟨_, pu_build rfl rfl rfl rfl rfl rfl, ?_⟩)
 | ((first | refine RunsL.guard_dec rfl rfl rfl ?_ ?_ | refine RunsL.guard_ndec rfl rfl rfl ?_ ?_ | refine RunsL.guard_nb rfl rfl rfl ?_ ?_ | refine RunsL.guard_b rfl rfl rfl ?_ ?_ | refine RunsD.guard_dec rfl rfl rfl ?_ ?_ | refine RunsD.guard_ndec rfl rfl rfl ?_ ?_ | refine RunsD.guard_nb rfl rfl rfl ?_ ?_ | refine RunsD.guard_b rfl rfl rfl ?_ ?_) <;> intro h <;> try (exfalso; first | omega | contradiction | (simp only [List.length_map] at h; omega))))
    refine Runs.nilCell (e := 5) (sz := 1) 2 4 (by decide) rfl rfl ?_
    refine Runs.nilCell (e := 9) (sz := 1) 2 5 (by decide) rfl rfl ?_
    exact Runs.ctls 30 rfl (Runs.ret (ends_rul (r := ⟨a ++ itoaS d.length, 7, 0, false, [], [], ts, x0 :: ks⟩) (x := 6) (y := 7) (z := 5) (w := 4) hm rfl rfl rfl hi rfl rfl rfl rfl rfl rfl (by decide) (by decide) (ruleD7 ha (by omega) ht hx0 hkl hks)))
end Go.Proofs.Ytdikinkihnepaaa
/- The draw of a description. -/
namespace Go.Proofs.Ytdikinkihnepaaa
set_option linter.unusedSimpArgs false
set_option linter.unusedVariables false
open Go.RowKit
open AV (Mem Keeps)
structure DrawD (d : Des) : Prop where
  pos : 1 ≤ d.length
  most : d.length ≤ 6
  first : ∃ r0, d[0]? = some r0 ∧ r0.kind = 1
  rule : ∀ (j : Nat) r, d[j]? = some r → ∃ k, 1 ≤ k ∧ k ≤ 10 ∧ RuleD (d.take j) k r
theorem l4Make_d (b : List UInt8) (hb : b.length ≤ 1048576) (d : Des) (hd : d.length ≤ 24) (k : Int) (hk : 1 ≤ k ∧ k ≤ 10) (hi : k = 1 ∨ ∃ r0, d[0]? = some r0 ∧ r0.kind = 1) : Drw Try.prog 102 97 b [desR d, .int k] (QRul (RuleD d k)) := by
  by_cases h1 : k = 1
  · subst h1; exact l4Make1_d b hb d hd
  obtain ⟨r0, h0, hk0⟩ := hi.resolve_left h1
  have : k = 2 ∨ k = 3 ∨ k = 4 ∨ k = 5 ∨ k = 6 ∨ k = 7 ∨ k = 8 ∨ k = 9 ∨ k = 10 := by omega
  rcases this with rfl | rfl | rfl | rfl | rfl | rfl | rfl | rfl | rfl
  · exact l4Make2_d b hb d hd
  · exact l4Make3_d b hb d hd
  · exact l4Make4_d b hb d hd r0 h0 hk0
  · exact l4Make5_d b hb d hd r0 h0 hk0
  · exact l4Make6_d b hb d hd
  · exact l4Make7_d b hb d hd r0 h0 hk0
  · exact l4Make8_d b hb d hd
  · exact l4Make9_d b hb d hd
  · exact l4Make10_d b hb d hd
theorem DrawD.app {d : Des} {k : Int} {r : Rul} (h : DrawD d) (hl : d.length < 6) (hk : 1 ≤ k ∧ k ≤ 10) (hr : RuleD d k r) : DrawD (d ++ [r]) := by
  obtain ⟨r0, e0, k0⟩ := h.first
  refine ⟨by simp, by simp; omega, ⟨r0, ?_, k0⟩, fun j x hx => ?_⟩
  · rw [List.getElem?_append_left (by have := h.pos; omega)]; exact e0
  · rcases Nat.lt_or_ge j d.length with hj | hj
    · rw [List.getElem?_append_left hj] at hx
      rw [List.take_append_of_le_length (by omega)]
      exact h.rule j x hx
    · have hjl := (List.getElem?_eq_some_iff.1 hx).1
      simp only [List.length_append, List.length_singleton] at hjl
      have ej : j = d.length := by omega
      subst ej
      simp at hx; subst hx
      rw [List.take_left']
      · exact ⟨k, hk.1, hk.2, hr⟩
      · rfl
theorem DrawD.one {r : Rul} (hr : RuleD [] 1 r) : DrawD [r] := by
  refine ⟨by simp, by simp, ⟨r, rfl, hr.hkind⟩, fun j x hx => ?_⟩
  cases j with
  | zero => simp at hx; subst hx; exact ⟨1, by decide, by decide, hr⟩
  | succ j => simp at hx
set_option maxRecDepth 100000 in
instance tb_des : TB Try.prog 38 [(0, 1)] [.slice none 0 0] := ⟨_, _, _, rfl, rfl, rfl, rfl, by kernel_rfl, by decide⟩
def desRR (d : Des) : RR := .agg [.row 46 8 (d.map rulR).flatten]
def QDes (p : Des → Prop) (rr : RR) : Prop := ∃ d, rr = desRR d ∧ p d
theorem qdes_ok {p : Des → Prop} : ∀ rr, QDes p rr → ∃ r, Seals rr r ∧ ∃ d, r = desR d ∧ p d := by
  rintro _ ⟨d, rfl, hd⟩
  refine ⟨desR d, ?_, d, rfl, hd⟩
  unfold desRR desR rulsR
  simp only [Seals, SealsL]
  exact ⟨_, rfl, _, _, rfl, ⟨_, rfl, rfl, fun x hx => by obtain ⟨r, _, rfl⟩ := List.mem_map.1 hx; rfl⟩, rfl⟩
theorem ruls_len (d : Des) : (d.map rulR).flatten.length = d.length * 8 := by rw [flatten_len (sz := 8) fun x hx => by obtain ⟨r, _, rfl⟩ := List.mem_map.1 hx; rfl, List.length_map]
set_option maxHeartbeats 8000000 in
theorem l4Description_d (b : List UInt8) (hb : b.length ≤ 1048576) : Drw Try.prog 102 57 b [] (QDes DrawD) := by
  refine drw_enter Try.func57 rfl _ Try.ntmps57 (by simp) fun C g u i h hn hm hu hi => ?_
  have rl : ∀ d : Des, ∀ x ∈ d.map rulR, x.length = 8 := fun d x hx => by obtain ⟨r, _, rfl⟩ := List.mem_map.1 hx; rfl
  repeat' (first
 | refine Runs.nilCell (e := 46) (sz := 8) 2 0 (by decide) rfl rfl ?_
 | refine Runs.toLate (id := 2) 30 [0, 1, 2, 3] [4, 5, 6, 7, 8] mixed rfl rfl (by kernel_rfl) (by kernel_rfl) (by kernel_rfl) ?_
 | (refine RunsP.drawF (t := 10) (l4Make_d b hb [] (by simp) 1 (by omega) (.inl rfl)) qrul_ok rfl hu hi (fun _ => .cons (LendsP.agg (.cons (LendsP.own (i := 3) (o := ⟨46, 8, _⟩) (els := List.map rulR []) (by decide) rfl rfl (rl [])) .nil)) (.cons .ro .nil)) rfl (by first | rfl | repeat' (first | rfl | exact clns_ro _ | refine clnO_cons ?_ ?_)) (tl hn rfl) ?_; rintro i h _ hi ⟨r, rfl, hr⟩)
 | (refine op_drawI (l1Below_d b hb _ (by omega)) rfl hu hi rfl (LendsPL.ros [.int _]) rfl (by first | rfl | repeat' (first | rfl | exact clns_ro _ | refine clnO_cons ?_ ?_)) (tl hn rfl) ?_; intro i h x hi hx; obtain ⟨hxa, hxb⟩ := hx.2 (by omega))
 | refine RunsH.pur (fun _ _ => pu_auto tabOk rfl) rfl (tl hn rfl) rfl ?_
 | refine RunsH.pur (fun _ _ => pu_buildS rfl) rfl (tl hn rfl) rfl ?_
 | refine RunsH.pur (fun _ _ => pu_build rfl rfl rfl rfl rfl rfl) rfl (tl hn rfl) rfl ?_
 | refine RunsH.pur (fun _ _ => pu_add rfl rfl (by omega)) rfl (tl hn rfl) rfl ?_
 | refine RunsH.pur (fun _ _ => pu_indexAddr_map rfl rfl (by omega) (by assumption)) rfl (tl hn rfl) rfl ?_
 | refine RunsH.pur (fun _ _ => pu_sub rfl rfl (by omega)) rfl (tl hn rfl) rfl ?_
 | refine RunsH.pur (fun _ _ => pu_pick_b rfl rfl rfl) rfl (tl hn rfl) rfl ?_
 | refine RunsH.pur (fun _ _ => pu_mul rfl rfl (by omega)) rfl (tl hn rfl) rfl ?_
 | refine RunsH.pur (fun _ _ => pu_build rfl rfl rfl rfl rfl rfl) rfl (tl hn rfl) rfl ?_
 | refine RunsH.nil ?_
 | refine RunsP.pur (pu_auto tabOk rfl) rfl rfl (tl hn rfl) (by first | rfl | repeat' (first | rfl | exact clns_ro _ | refine clnO_cons ?_ ?_)) ?_
 | refine RunsP.pur (pu_buildS rfl) rfl rfl (tl hn rfl) (by first | rfl | repeat' (first | rfl | exact clns_ro _ | refine clnO_cons ?_ ?_)) ?_
 | refine RunsP.pur (pu_build rfl rfl rfl rfl rfl rfl) rfl rfl (tl hn rfl) (by first | rfl | repeat' (first | rfl | exact clns_ro _ | refine clnO_cons ?_ ?_)) ?_
 | refine RunsP.pur (pu_add rfl rfl (by omega)) rfl rfl (tl hn rfl) (by first | rfl | repeat' (first | rfl | exact clns_ro _ | refine clnO_cons ?_ ?_)) ?_
 | refine RunsP.pur (pu_indexAddr_map rfl rfl (by omega) (by assumption)) rfl rfl (tl hn rfl) (by first | rfl | repeat' (first | rfl | exact clns_ro _ | refine clnO_cons ?_ ?_)) ?_
 | refine RunsP.pur (pu_sub rfl rfl (by omega)) rfl rfl (tl hn rfl) (by first | rfl | repeat' (first | rfl | exact clns_ro _ | refine clnO_cons ?_ ?_)) ?_
 | refine RunsP.pur (pu_pick_b rfl rfl rfl) rfl rfl (tl hn rfl) (by first | rfl | repeat' (first | rfl | exact clns_ro _ | refine clnO_cons ?_ ?_)) ?_
 | refine RunsP.pur (pu_mul rfl rfl (by omega)) rfl rfl (tl hn rfl) (by first | rfl | repeat' (first | rfl | exact clns_ro _ | refine clnO_cons ?_ ?_)) ?_
 | refine RunsP.pur (pu_build rfl rfl rfl rfl rfl rfl) rfl rfl (tl hn rfl) (by first | rfl | repeat' (first | rfl | exact clns_ro _ | refine clnO_cons ?_ ?_)) ?_
 | refine RunsL.step tabOk hn rfl ?_
 | refine RunsL.nil ?_
 | refine Runs.toRegion 30 rfl ?_
 | refine RunsP.done 6 rfl (Nat.le_of_ble_eq_true rfl) (by kernel_rfl) (by kernel_rfl) ?_
 | (refine RunsL.junk 2 0 rfl ?_; refine op_append (t := 12) (n := 0) (rs := []) rfl rfl rfl rfl rfl rfl rfl (FreeI.at_ ⟨by simp [curOb, AV.onlys, AV.only], by simp [AV.onlys, AV.only], ⟨trivial, trivial⟩, by simp [AV.onlys], trivial⟩) (by simp) (by simp) (tl hn rfl) ?_)
 | ((first | refine RunsL.pe hn rfl rfl rfl ?_ | refine RunsD.pe rfl rfl ?_); first
 | refine ⟨_, pu_buildS rfl, ?_⟩
 | refine ⟨_, pu_build rfl rfl rfl rfl rfl rfl, ?_⟩)
 | (refine Runs.ctls 30 rfl ?_; first | refine Runs.cond_t rfl ?_ | refine Runs.cond_f rfl ?_ | ((first | refine Runs.cond_yes rfl ?_ ?_ | refine Runs.cond_nno rfl ?_ ?_); · first | omega | rfl | assumption | (simp only [List.length_map]; omega)) | ((first | refine Runs.cond_no rfl ?_ ?_ | refine Runs.cond_nyes rfl ?_ ?_); · first | omega | rfl | assumption | (simp only [List.length_map]; omega)) | refine Runs.cond_dec rfl (fun h => ?_) (fun h => ?_) | refine Runs.cond_ndec rfl (fun h => ?_) (fun h => ?_) | refine Runs.cond_nb rfl (fun h => ?_) (fun h => ?_) | refine Runs.cond_b rfl (fun h => ?_) (fun h => ?_) | refine Runs.ret (ends_ro hm rfl rfl ?_) | exact Runs.ret (ends_cellR hm rfl rfl rfl (Nat.le_of_ble_eq_true rfl) rfl rfl))
 | refine op_box rfl (tl hn rfl) ?_
 | refine op_storeF rfl rfl rfl rfl (Nat.le_of_ble_eq_true rfl) ?_
 | refine op_alloc (tl hn rfl) ?_
 | refine op_storeN rfl rfl rfl rfl (Nat.le_of_ble_eq_true rfl) ?_
 | refine RunsD.step tabOk hn rfl rfl ?_
 | refine RunsD.nil ?_
 | refine Runs.toDraw 30 mixed hn rfl (by kernel_rfl) rfl ?_
 | ((first | refine RunsL.pe hn rfl rfl rfl ?_ | refine RunsD.pe rfl rfl ?_); first
 | refine ⟨_, pu_add rfl rfl (by omega), ?_⟩
 | refine ⟨_, pu_indexAddr_map rfl rfl (by omega) (by assumption), ?_⟩
 | refine ⟨_, pu_sub rfl rfl (by omega), ?_⟩
 | refine ⟨_, pu_pick_b rfl rfl rfl, ?_⟩
 | refine ⟨_, pu_mul rfl rfl (by omega), ?_⟩
 | refine ⟨_, pu_build rfl rfl rfl rfl rfl rfl, ?_⟩))
  obtain ⟨c, hc⟩ : ∃ c : Nat, x = c := ⟨x.toNat, by omega⟩
  subst hc
  have hD0 := DrawD.one hr
  refine Runs.loopI 30 rfl (fun m E z => ∃ (d : Des) (i h : Int), d.length + m ≤ 6 ∧ DrawD d ∧ CurOk b i ∧ E = [(0, .pin 0 0 g), (2, .obj 1 0), (3, .obj 2 0), (4, .int m)] ∧
    z = [curOb 102 u i h, ⟨38, 0, [.nil]⟩, ⟨38, 0, [.own 3]⟩, ⟨46, 8, (d.map rulR).flatten.map .ro⟩]) c [(0, .pin 0 0 g), (2, .obj 1 0), (3, .obj 2 0), (4, .int c)] ⟨rfl, rfl, rfl, rfl, trivial⟩ ⟨[r], i, h, by simp; omega, hD0, hi, rfl, rfl⟩ fun m E z ⟨d, i, h, hlc, hD, hi, hE, hz⟩ ih => ?_
  subst hE; subst hz
  have hfl := ruls_len d
  by_cases hm0 : 0 < m
  · repeat' (first
 | refine Runs.toLate (id := 6) 30 [0, 1, 2, 3, 4] [5, 6, 7, 8, 9, 10, 11] mixed rfl rfl (by kernel_rfl) (by kernel_rfl) (by kernel_rfl) ?_
 | (refine RunsP.drawI (t := 25) (l1Below_d b hb 10 (by omega)) rfl hu hi (fun _ => LendsPL.ros [.int 10]) rfl (by first | rfl | repeat' (first | rfl | exact clns_ro _ | refine clnO_cons ?_ ?_)) (tl hn rfl) ?_; intro i h q hi hq; obtain ⟨hqa, hqb⟩ := hq.2 (by omega))
 | (refine RunsP.drawF (t := 27) (l4Make_d b hb d (by omega) (1 + q) (by omega) (.inr hD.first)) qrul_ok rfl hu hi (fun _ => .cons (LendsP.agg (.cons (LendsP.own (i := 3) (o := ⟨46, 8, _⟩) (els := List.map rulR d) (by decide) rfl rfl (rl d)) .nil)) (.cons .ro .nil)) rfl (by first | rfl | repeat' (first | rfl | exact clns_ro _ | refine clnO_cons ?_ ?_)) (tl hn rfl) ?_; rintro i h _ hi ⟨r, rfl, hr⟩)
 | refine RunsH.pur (fun _ _ => pu_auto tabOk rfl) rfl (tl hn rfl) rfl ?_
 | refine RunsH.pur (fun _ _ => pu_add rfl rfl (by omega)) rfl (tl hn rfl) rfl ?_
 | refine RunsH.pur (fun _ _ => pu_build rfl rfl rfl rfl rfl rfl) rfl (tl hn rfl) rfl ?_
 | refine RunsH.pur (fun _ _ => pu_add rfl rfl (by omega)) rfl (tl hn rfl) rfl ?_
 | refine RunsH.pur (fun _ _ => pu_indexAddr_map rfl rfl (by omega) (by assumption)) rfl (tl hn rfl) rfl ?_
 | refine RunsH.pur (fun _ _ => pu_sub rfl rfl (by omega)) rfl (tl hn rfl) rfl ?_
 | refine RunsH.pur (fun _ _ => pu_pick_b rfl rfl rfl) rfl (tl hn rfl) rfl ?_
 | refine RunsH.pur (fun _ _ => pu_mul rfl rfl (by omega)) rfl (tl hn rfl) rfl ?_
 | refine RunsH.pur (fun _ _ => pu_build rfl rfl rfl rfl rfl rfl) rfl (tl hn rfl) rfl ?_
 | refine RunsH.nil ?_
 | refine RunsP.pur (pu_auto tabOk rfl) rfl rfl (tl hn rfl) (by first | rfl | repeat' (first | rfl | exact clns_ro _ | refine clnO_cons ?_ ?_)) ?_
 | refine RunsP.pur (pu_add rfl rfl (by omega)) rfl rfl (tl hn rfl) (by first | rfl | repeat' (first | rfl | exact clns_ro _ | refine clnO_cons ?_ ?_)) ?_
 | refine RunsP.pur (pu_build rfl rfl rfl rfl rfl rfl) rfl rfl (tl hn rfl) (by first | rfl | repeat' (first | rfl | exact clns_ro _ | refine clnO_cons ?_ ?_)) ?_
 | refine RunsP.pur (pu_add rfl rfl (by omega)) rfl rfl (tl hn rfl) (by first | rfl | repeat' (first | rfl | exact clns_ro _ | refine clnO_cons ?_ ?_)) ?_
 | refine RunsP.pur (pu_indexAddr_map rfl rfl (by omega) (by assumption)) rfl rfl (tl hn rfl) (by first | rfl | repeat' (first | rfl | exact clns_ro _ | refine clnO_cons ?_ ?_)) ?_
 | refine RunsP.pur (pu_sub rfl rfl (by omega)) rfl rfl (tl hn rfl) (by first | rfl | repeat' (first | rfl | exact clns_ro _ | refine clnO_cons ?_ ?_)) ?_
 | refine RunsP.pur (pu_pick_b rfl rfl rfl) rfl rfl (tl hn rfl) (by first | rfl | repeat' (first | rfl | exact clns_ro _ | refine clnO_cons ?_ ?_)) ?_
 | refine RunsP.pur (pu_mul rfl rfl (by omega)) rfl rfl (tl hn rfl) (by first | rfl | repeat' (first | rfl | exact clns_ro _ | refine clnO_cons ?_ ?_)) ?_
 | refine RunsP.pur (pu_build rfl rfl rfl rfl rfl rfl) rfl rfl (tl hn rfl) (by first | rfl | repeat' (first | rfl | exact clns_ro _ | refine clnO_cons ?_ ?_)) ?_
 | refine RunsL.step tabOk hn rfl ?_
 | refine RunsL.nil ?_
 | refine Runs.toRegion 30 rfl ?_
 | refine RunsP.done 9 rfl (Nat.le_of_ble_eq_true rfl) (by kernel_rfl) (by kernel_rfl) ?_
 | (refine RunsL.junk 2 0 rfl ?_; refine op_append (t := 29) (n := d.length) rfl rfl rfl rfl rfl rfl (by rw [hfl]) (FreeI.at_ ⟨by simp [curOb, AV.onlys, AV.only], by simp [AV.onlys, AV.only], by simp [AV.onlys, AV.only], onlys_ro _ _, trivial⟩) (by simp; omega) (by simp; omega) (tl hn rfl) ?_)
 | ((first | refine RunsL.pe hn rfl rfl rfl ?_ | refine RunsD.pe rfl rfl ?_); first
 | refine ⟨_, pu_add rfl rfl (by omega), ?_⟩
 | refine ⟨_, pu_build rfl rfl rfl rfl rfl rfl, ?_⟩)
 | (refine Runs.ctls 30 rfl ?_; first | refine Runs.cond_t rfl ?_ | refine Runs.cond_f rfl ?_ | ((first | refine Runs.cond_yes rfl ?_ ?_ | refine Runs.cond_nno rfl ?_ ?_); · first | omega | rfl | assumption | (simp only [List.length_map]; omega)) | ((first | refine Runs.cond_no rfl ?_ ?_ | refine Runs.cond_nyes rfl ?_ ?_); · first | omega | rfl | assumption | (simp only [List.length_map]; omega)) | refine Runs.cond_dec rfl (fun h => ?_) (fun h => ?_) | refine Runs.cond_ndec rfl (fun h => ?_) (fun h => ?_) | refine Runs.cond_nb rfl (fun h => ?_) (fun h => ?_) | refine Runs.cond_b rfl (fun h => ?_) (fun h => ?_) | refine Runs.ret (ends_ro hm rfl rfl ?_) | exact Runs.ret (ends_cellR hm rfl rfl rfl (Nat.le_of_ble_eq_true rfl) rfl rfl))
 | refine op_box rfl (tl hn rfl) ?_
 | refine op_storeF rfl rfl rfl rfl (Nat.le_of_ble_eq_true rfl) ?_
 | refine op_alloc (tl hn rfl) ?_
 | refine op_storeN rfl rfl rfl rfl (Nat.le_of_ble_eq_true rfl) ?_
 | refine RunsD.step tabOk hn rfl rfl ?_
 | refine RunsD.nil ?_
 | refine Runs.toDraw 30 mixed hn rfl (by kernel_rfl) rfl ?_
 | ((first | refine RunsL.pe hn rfl rfl rfl ?_ | refine RunsD.pe rfl rfl ?_); first
 | refine ⟨_, pu_add rfl rfl (by omega), ?_⟩
 | refine ⟨_, pu_indexAddr_map rfl rfl (by omega) (by assumption), ?_⟩
 | refine ⟨_, pu_sub rfl rfl (by omega), ?_⟩
 | refine ⟨_, pu_pick_b rfl rfl rfl, ?_⟩
 | refine ⟨_, pu_mul rfl rfl (by omega), ?_⟩
 | refine ⟨_, pu_build rfl rfl rfl rfl rfl rfl, ?_⟩))
    refine ih (m - 1) _ _ _ (by omega) ⟨d ++ [r], i, h, by simp; omega, hD.app (by omega) (by omega) hr, hi, rfl, ?_⟩ ⟨rfl, rfl, rfl, ?_, trivial⟩
    · simp; rfl
    · show AV.int _ = AV.int _
      congr 1; omega
  · repeat' (first
 | refine RunsL.step tabOk hn rfl ?_
 | refine RunsL.nil ?_
 | refine Runs.toRegion 30 rfl ?_
 | (refine Runs.ctls 30 rfl ?_; first | refine Runs.cond_t rfl ?_ | refine Runs.cond_f rfl ?_ | ((first | refine Runs.cond_yes rfl ?_ ?_ | refine Runs.cond_nno rfl ?_ ?_); · first | omega | rfl | assumption | (simp only [List.length_map]; omega)) | ((first | refine Runs.cond_no rfl ?_ ?_ | refine Runs.cond_nyes rfl ?_ ?_); · first | omega | rfl | assumption | (simp only [List.length_map]; omega)) | refine Runs.cond_dec rfl (fun h => ?_) (fun h => ?_) | refine Runs.cond_ndec rfl (fun h => ?_) (fun h => ?_) | refine Runs.cond_nb rfl (fun h => ?_) (fun h => ?_) | refine Runs.cond_b rfl (fun h => ?_) (fun h => ?_) | refine Runs.ret (ends_ro hm rfl rfl ?_) | exact Runs.ret (ends_cellR hm rfl rfl rfl (Nat.le_of_ble_eq_true rfl) rfl rfl))
 | refine op_box rfl (tl hn rfl) ?_
 | refine op_storeF rfl rfl rfl rfl (Nat.le_of_ble_eq_true rfl) ?_
 | refine op_alloc (tl hn rfl) ?_
 | refine op_storeN rfl rfl rfl rfl (Nat.le_of_ble_eq_true rfl) ?_
 | refine RunsD.step tabOk hn rfl rfl ?_
 | refine RunsD.nil ?_
 | refine Runs.toDraw 30 mixed hn rfl (by kernel_rfl) rfl ?_
 | ((first | refine RunsL.pe hn rfl rfl rfl ?_ | refine RunsD.pe rfl rfl ?_); first
 | refine ⟨_, pu_add rfl rfl (by omega), ?_⟩
 | refine ⟨_, pu_indexAddr_map rfl rfl (by omega) (by assumption), ?_⟩
 | refine ⟨_, pu_sub rfl rfl (by omega), ?_⟩
 | refine ⟨_, pu_pick_b rfl rfl rfl, ?_⟩
 | refine ⟨_, pu_mul rfl rfl (by omega), ?_⟩
 | refine ⟨_, pu_build rfl rfl rfl rfl rfl rfl, ?_⟩))
    exact Runs.ctls 30 rfl (Runs.ret (endsD1 hm rfl rfl rfl hi (.agg [.own 3]) (by
      simp only [ResV]
      exact ⟨1, 0, _, rfl, rfl, .inr ⟨1, by infer_instance, Nat.le_refl _, rfl⟩⟩) (desRR d) [3] (by
      simp only [desRR, Harv, Harvs]
      exact ⟨_, rfl, _, _, [3], [], rfl, rfl, ⟨3, rfl, rfl, rfl⟩, rfl, rfl⟩) (by decide) (by decide) ⟨d, rfl, hD⟩))
end Go.Proofs.Ytdikinkihnepaaa
/- What is drawn is valid: plain laws; the draw of a description as a call. -/
namespace Go.Proofs.Ytdikinkihnepaaa
set_option linter.unusedSimpArgs false
set_option linter.unusedVariables false
open Go.RowKit
theorem itoaS_one {n : Nat} (h : n < 10) : itoaS (n : Int) = ⟨#[UInt8.ofNat (48 + n)]⟩ := by
  unfold itoaS Lib.itoa
  rw [if_neg (by omega), Int.toNat_natCast, Lib.decDigits_one h]
theorem ba_inv {s : ByteArray} {k : Nat} {c : UInt8} (h : s[k]? = some c) : s.data.toList[k]? = some c := by
  rw [Array.getElem?_toList]
  have hk : k < s.size := by
    rcases Nat.lt_or_ge k s.size with h' | h'
    · exact h'
    · rw [getElem?_neg s k (by omega)] at h; cases h
  rw [getElem?_pos s k hk] at h
  injection h with h
  rw [Array.getElem?_eq_getElem (show k < s.data.size from hk)]
  exact congrArg some h
theorem cat_data (a : ByteArray) (x : UInt8) : (a ++ (⟨#[x]⟩ : ByteArray)).data.toList = a.data.toList ++ [x] := by simp
theorem ncat_size (a : ByteArray) (x : UInt8) : (a ++ (⟨#[x]⟩ : ByteArray)).size = a.size + 1 := by rw [ByteArray.size_append]; rfl
theorem ba_len (s : ByteArray) : s.data.toList.length = s.size := by rw [Array.length_toList]; rfl
def Low (a : ByteArray) : Prop := 1 ≤ a.size ∧ a.size ≤ 4 ∧ ∀ x ∈ a.data.toList, 97 ≤ x.toNat ∧ x.toNat ≤ 122
theorem baseA_low : ∀ a ∈ baseA, Low a := by
  intro x hx
  simp only [baseA, List.mem_cons, List.not_mem_nil, or_false] at hx
  rcases hx with rfl | rfl | rfl | rfl | rfl <;> exact ⟨by decide, by decide, by decide⟩
theorem baseP_low : ∀ a ∈ baseP, Low a := by
  intro x hx
  simp only [baseP, List.mem_cons, List.not_mem_nil, or_false] at hx
  rcases hx with rfl | rfl | rfl <;> exact ⟨by decide, by decide, by decide⟩
theorem nm_cat {a : ByteArray} (h : Low a) {n : Nat} (hn : n < 10) : IsNm (a ++ itoaS (n : Int)) := by
  rw [itoaS_one hn]
  refine ⟨by rw [ncat_size]; omega, by rw [ncat_size]; have := h.2.1; omega, fun i c hc => ?_⟩
  have h1 := ba_inv hc
  rw [cat_data] at h1
  have hal := ba_len a
  rcases Nat.lt_or_ge i a.size with hi | hi
  · rw [List.getElem?_append_left (by omega)] at h1
    have := h.2.2 c (List.mem_of_getElem? h1)
    exact .inl this
  · have hil := (List.getElem?_eq_some_iff.1 h1).1
    simp only [List.length_append, List.length_singleton] at hil
    have ei : i = a.data.toList.length := by omega
    subst ei
    rw [List.getElem?_append_right (Nat.le_refl _), Nat.sub_self] at h1
    have h1' : UInt8.ofNat (48 + n) = c := by simpa only [List.getElem?_cons_zero, Option.some.injEq] using h1
    subst h1'
    have := h.1
    refine .inr ⟨?_, ?_, by omega⟩ <;> (rw [UInt8.toNat_ofNat']; omega)
theorem cat_inj {a a' : ByteArray} {n n' : Nat} (hn : n < 10) (hn' : n' < 10) (h : a ++ itoaS (n : Int) = a' ++ itoaS (n' : Int)) : n = n' := by
  rw [itoaS_one hn, itoaS_one hn'] at h
  have h1 := congrArg (fun s : ByteArray => s.data.toList.getLast?) h
  simp only [cat_data, List.getLast?_append, List.getLast?_singleton, Option.some_or, Option.some.injEq] at h1
  have h2 := congrArg UInt8.toNat h1
  rw [UInt8.toNat_ofNat', UInt8.toNat_ofNat'] at h2
  omega
theorem ncat_le {a : ByteArray} (h : Low a) {n : Nat} (hn : n < 10) : (a ++ itoaS (n : Int)).size ≤ 5 := by
  rw [itoaS_one hn, ncat_size]; have := h.2.1; omega
theorem IsInt.up {d : Des} {j : Nat} {x : Int} (h : IsInt (d.take j) x) : IsInt d x ∧ x < j := by
  obtain ⟨h1, h2, r, h3, h4⟩ := h
  rw [List.length_take] at h2
  have hj : x.toNat < j := by omega
  rw [List.getElem?_take_of_lt hj] at h3
  exact ⟨⟨h1, by omega, r, h3, h4⟩, by omega⟩
structure IsInt' (d : Des) (x : Int) : Prop where
  int : IsInt d x
  lim : 255 ≤ lim d x
theorem DrawD.int {d : Des} (h : DrawD d) {x : Int} (hx : IsInt d x) : 255 ≤ lim d x := by
  obtain ⟨h1, h2, r, h3, h4⟩ := hx
  obtain ⟨k, k1, k2, hr⟩ := h.rule _ r h3
  have ek : k = 1 := by rw [← hr.hkind]; exact h4
  have hs := hr.hsize.1 ek
  rw [lim_yes h3 ⟨h1, h4, hs.1, by omega⟩]
  have := @pow8_le r.size
  omega
section
variable {d : Des} (h : DrawD d) {j : Nat} {r : Rul} (hj : d[j]? = some r)
include h hj
theorem DrawD.kinds : ∃ k, 1 ≤ k ∧ k ≤ 10 ∧ RuleD (d.take j) k r ∧ r.kind = k ∧ (d.take j).length = j ∧ j < d.length := by
  obtain ⟨k, k1, k2, hr⟩ := h.rule j r hj
  have hjl := (List.getElem?_eq_some_iff.1 hj).1
  exact ⟨k, k1, k2, hr, hr.hkind, by rw [List.length_take]; omega, hjl⟩
theorem DrawD.kid : ∀ z ∈ r.kids, 0 ≤ z ∧ z < j := by
  obtain ⟨k, k1, k2, hr, hk, hl, hjl⟩ := h.kinds hj
  have hInt : ∀ x, IsInt (d.take j) x → 0 ≤ x ∧ x < j := fun x hx => ⟨hx.1, hx.up.2⟩
  have hpos : 2 ≤ k → 0 < j := fun h2 => by
    rcases Nat.eq_zero_or_pos j with e | e
    · subst e
      obtain ⟨r0, e0, k0⟩ := h.first
      rw [e0] at hj; injection hj with hj; subst hj
      omega
    · exact e
  have hIn : 2 ≤ k → ∀ x, InD (d.take j) x → 0 ≤ x ∧ x < j := fun h2 x hx => by
    have := hx.2 (by rw [hl]; exact hpos h2)
    rw [hl] at this; exact this
  intro z hz
  obtain ⟨g4, g5, g6, g7, g8, g1⟩ := hr.hkids
  have hc : k = 1 ∨ k = 2 ∨ k = 3 ∨ k = 4 ∨ k = 5 ∨ k = 6 ∨ k = 7 ∨ k = 8 ∨ k = 9 ∨ k = 10 := by omega
  rcases hc with e | e | e | e | e | e | e | e | e | e
  · rw [g1 (.inl e)] at hz; simp at hz
  · rw [g1 (.inr (.inl e))] at hz; simp at hz
  · rw [g1 (.inr (.inr (.inl e)))] at hz; simp at hz
  · obtain ⟨x, h1, e1⟩ := g4 e
    rw [e1] at hz; simp at hz; subst hz; exact hInt _ h1
  · obtain ⟨x, y, h1, h2, e1⟩ := g5 e
    rw [e1] at hz; simp at hz
    rcases hz with rfl | rfl
    · exact hInt _ h1
    · exact hIn (by omega) _ h2
  · exact hIn (by omega) _ ((g6 e).2 z hz)
  · obtain ⟨x, l, h1, _, h2, e1⟩ := g7 e
    rw [e1] at hz
    rcases List.mem_cons.1 hz with rfl | hz
    · exact hInt _ h1
    · exact hIn (by omega) _ (h2 z hz)
  · obtain ⟨y, h2, e1⟩ := g8 (.inl e)
    rw [e1] at hz; simp at hz; subst hz; exact hIn (by omega) _ h2
  · obtain ⟨y, h2, e1⟩ := g8 (.inr e)
    rw [e1] at hz; simp at hz; subst hz; exact hIn (by omega) _ h2
  · rw [g1 (.inr (.inr (.inr e)))] at hz; simp at hz
theorem DrawD.name : ∃ a, Low a ∧ r.name = a ++ itoaS (j : Int) := by
  obtain ⟨k, k1, k2, hr, hk, hl, hjl⟩ := h.kinds hj
  obtain ⟨a, ha, e⟩ := hr.hname
  rw [hl] at e
  exact ⟨a, baseA_low a ha, e⟩
theorem DrawD.kindOk : KindOk d r := by
  obtain ⟨k, k1, k2, hr, hk, hl, hjl⟩ := h.kinds hj
  have hlit : r.little = false ∨ r.kind = 1 := by
    cases e : r.little
    · exact .inl rfl
    · exact .inr (hk.trans (hr.hlittle e).1)
  have hbytes : k ≠ 2 → k ≠ 10 → r.bytes.length = 0 := fun a b => by rw [hr.hbytes.2.2 a b]; rfl
  have hnames : k ≠ 6 → r.names.length = 0 := fun a => by rw [hr.hnames.2 a]; rfl
  have htags : k ≠ 7 → r.tags.length = 0 := fun a => by rw [hr.htags.2 a]; rfl
  have hsize : k ≠ 1 → k ≠ 3 → r.size = 0 := hr.hsize.2.2
  obtain ⟨g4, g5, g6, g7, g8, g1⟩ := hr.hkids
  have hc : k = 1 ∨ k = 2 ∨ k = 3 ∨ k = 4 ∨ k = 5 ∨ k = 6 ∨ k = 7 ∨ k = 8 ∨ k = 9 ∨ k = 10 := by omega
  rcases hc with e | e | e | e | e | e | e | e | e | e
  · refine .inl ⟨by omega, ⟨⟨.inl rfl, .inr (hbytes (by omega) (by omega)), .inr (hnames (by omega)), .inr (htags (by omega)), .inr ?_⟩, hlit⟩, ?_, ?_⟩
    · rw [g1 (.inl e)]; rfl
    · have := hr.hsize.1 e; unfold InR; omega
    · cases e' : r.little
      · exact .inl rfl
      · exact .inr (hr.hlittle e').2
  · refine .inr (.inl ⟨by omega, ⟨⟨.inr (hsize (by omega) (by omega)), .inl rfl, .inr (hnames (by omega)), .inr (htags (by omega)), .inr ?_⟩, hlit⟩, ?_⟩)
    · rw [g1 (.inr (.inl e))]; rfl
    · have := hr.hbytes.1 e; unfold InR; omega
  · refine .inr (.inr (.inl ⟨by omega, ⟨⟨.inl rfl, .inr (hbytes (by omega) (by omega)), .inr (hnames (by omega)), .inr (htags (by omega)), .inr ?_⟩, hlit⟩, ?_⟩))
    · rw [g1 (.inr (.inr (.inl e)))]; rfl
    · have := hr.hsize.2.1 e; unfold InR; omega
  · obtain ⟨x, h1, e1⟩ := g4 e
    have := h.int h1.up.1
    refine .inr (.inr (.inr (.inl ⟨by omega, ⟨⟨.inr (hsize (by omega) (by omega)), .inr (hbytes (by omega) (by omega)), .inr (hnames (by omega)), .inr (htags (by omega)), .inr ?_⟩, hlit⟩, ?_⟩)))
    · rw [e1]; rfl
    · rw [e1]; show 0 < lim d x; omega
  · obtain ⟨x, y, h1, h2, e1⟩ := g5 e
    have := h.int h1.up.1
    refine .inr (.inr (.inr (.inr (.inl ⟨by omega, ⟨⟨.inr (hsize (by omega) (by omega)), .inr (hbytes (by omega) (by omega)), .inr (hnames (by omega)), .inr (htags (by omega)), .inr ?_⟩, hlit⟩, ?_⟩))))
    · rw [e1]; rfl
    · rw [e1]; show 0 < lim d x; omega
  · obtain ⟨n1, n2, n3⟩ := hr.hnames.1 e
    refine .inr (.inr (.inr (.inr (.inr (.inl ⟨by omega, ⟨⟨.inr (hsize (by omega) (by omega)), .inr (hbytes (by omega) (by omega)), .inl rfl, .inr (htags (by omega)), .inr ?_⟩, hlit⟩, n1, by omega, fun i x hx => ?_⟩)))))
    · rw [(g6 e).1]
    · have hil := (List.getElem?_eq_some_iff.1 hx).1
      obtain ⟨a, ha, rfl⟩ := n3 i x hx
      have e1 : ((r.names.length : Int) - i) = ((r.names.length - i : Nat) : Int) := by omega
      rw [e1]
      refine ⟨nm_cat (baseP_low a ha) (by omega), fun hm => ?_⟩
      obtain ⟨m, hm', hm⟩ := List.mem_take_iff_getElem.1 hm
      obtain ⟨a', ha', e2⟩ := n3 m _ (List.getElem?_eq_getElem (by omega))
      rw [hm, show ((r.names.length : Int) - m) = ((r.names.length - m : Nat) : Int) by omega] at e2
      have := cat_inj (by omega) (by omega) e2
      omega
  · obtain ⟨t1, t2, t3⟩ := hr.htags.1 e
    obtain ⟨x, l, h1, h2, h3, e1⟩ := g7 e
    have hlim := h.int h1.up.1
    refine .inr (.inr (.inr (.inr (.inr (.inr (.inl ⟨by omega, ⟨⟨.inr (hsize (by omega) (by omega)), .inr (hbytes (by omega) (by omega)), .inr (hnames (by omega)), .inl rfl, .inl (by decide)⟩, hlit⟩, ?_, t1, by omega, fun i z hz => ?_⟩))))))
    · rw [e1, List.length_cons, h2]
    · have hil := (List.getElem?_eq_some_iff.1 hz).1
      have := t3 i z hz
      refine ⟨by omega, ?_, fun y hi hy => ?_⟩
      · rw [e1]; show z ≤ lim d x; omega
      · have := t3 (i - 1) y hy
        omega
  · obtain ⟨y, h2, e1⟩ := g8 (.inl e)
    refine .inr (.inr (.inr (.inr (.inr (.inr (.inr (.inl ⟨.inl (by omega), ⟨⟨.inr (hsize (by omega) (by omega)), .inr (hbytes (by omega) (by omega)), .inr (hnames (by omega)), .inr (htags (by omega)), .inr ?_⟩, hlit⟩⟩)))))))
    rw [e1]; rfl
  · obtain ⟨y, h2, e1⟩ := g8 (.inr e)
    refine .inr (.inr (.inr (.inr (.inr (.inr (.inr (.inl ⟨.inr (by omega), ⟨⟨.inr (hsize (by omega) (by omega)), .inr (hbytes (by omega) (by omega)), .inr (hnames (by omega)), .inr (htags (by omega)), .inr ?_⟩, hlit⟩⟩)))))))
    rw [e1]; rfl
  · obtain ⟨x, hx, eb⟩ := hr.hbytes.2.1 e
    refine .inr (.inr (.inr (.inr (.inr (.inr (.inr (.inr ⟨by omega, ⟨⟨.inr (hsize (by omega) (by omega)), .inl rfl, .inr (hnames (by omega)), .inr (htags (by omega)), .inr ?_⟩, hlit⟩, ?_, ?_⟩)))))))
    · rw [g1 (.inr (.inr (.inr e)))]; rfl
    · rw [eb]; rfl
    · rw [eb]
      simp only [List.mem_cons, List.not_mem_nil, or_false] at hx
      rcases hx with rfl | rfl | rfl | rfl <;> decide
end
theorem DrawD.good {d : Des} (h : DrawD d) : Good' d := by
  refine ⟨h.pos, by have := h.most; omega, fun j hj => ?_⟩
  obtain ⟨r, hr⟩ : ∃ r, d[j]? = some r := ⟨_, List.getElem?_eq_getElem hj⟩
  have hm := h.most
  refine (ruleAt_iff (by omega) (by simpa using hr)).2 ?_
  rw [Int.toNat_natCast]
  obtain ⟨a, ha, en⟩ := h.name hr
  refine ⟨fun k x hk hx e => ?_, fun k z hz => h.kid hr z (List.mem_of_getElem? hz), by rw [en]; exact nm_cat ha (by omega), h.kindOk hr⟩
  obtain ⟨a', ha', en'⟩ := h.name hx
  rw [en, en'] at e
  have := cat_inj (by omega) (by omega) e
  omega
theorem sum_le_mul {α : Type} (f : α → Nat) (c : Nat) : ∀ l : List α, (∀ x ∈ l, f x ≤ c) → (l.map f).sum ≤ l.length * c
  | [], _ => by simp
  | x :: l, h => by
    have h1 := h x (by simp)
    have h2 := sum_le_mul f c l fun y hy => h y (by simp [hy])
    rw [List.map_cons, List.sum_cons, List.length_cons, Nat.succ_mul]; omega
section
variable {d : Des} (h : DrawD d) {j : Nat} {r : Rul} (hj : d[j]? = some r)
include h hj
theorem DrawD.lens : r.name.size ≤ 5 ∧ r.bytes.length ≤ 3 ∧ r.names.length ≤ 3 ∧ (∀ s ∈ r.names, s.size ≤ 5) ∧ r.tags.length ≤ 3 ∧ r.kids.length ≤ 4 ∧ (∀ z ∈ r.tags, 0 ≤ z ∧ z ≤ 12) ∧ 0 ≤ r.size ∧ r.size ≤ 4 := by
  obtain ⟨k, k1, k2, hr, hk, hl, hjl⟩ := h.kinds hj
  have hm := h.most
  obtain ⟨a, ha, en⟩ := h.name hj
  have hnm : r.names.length ≤ 3 ∧ ∀ s ∈ r.names, s.size ≤ 5 := by
    by_cases e : k = 6
    · obtain ⟨n1, n2, n3⟩ := hr.hnames.1 e
      refine ⟨n2, fun s hs => ?_⟩
      obtain ⟨i, hi⟩ := List.mem_iff_getElem?.1 hs
      have hil := (List.getElem?_eq_some_iff.1 hi).1
      obtain ⟨b, hb, rfl⟩ := n3 i s hi
      rw [show ((r.names.length : Int) - i) = ((r.names.length - i : Nat) : Int) by omega]
      exact ncat_le (baseP_low b hb) (by omega)
    · rw [hr.hnames.2 e]; simp
  have htg : r.tags.length ≤ 3 ∧ ∀ z ∈ r.tags, 0 ≤ z ∧ z ≤ 12 := by
    by_cases e : k = 7
    · obtain ⟨n1, n2, n3⟩ := hr.htags.1 e
      refine ⟨n2, fun s hs => ?_⟩
      obtain ⟨i, hi⟩ := List.mem_iff_getElem?.1 hs
      have hil := (List.getElem?_eq_some_iff.1 hi).1
      have := n3 i s hi
      omega
    · rw [hr.htags.2 e]; simp
  have hbs : r.bytes.length ≤ 3 := by
    by_cases e : k = 2
    · exact (hr.hbytes.1 e).2
    · by_cases e' : k = 10
      · obtain ⟨x, _, eb⟩ := hr.hbytes.2.1 e'
        rw [eb]; simp
      · rw [hr.hbytes.2.2 e e']; simp
  have hkd : r.kids.length ≤ 4 := by
    obtain ⟨g4, g5, g6, g7, g8, g1⟩ := hr.hkids
    have hc : k = 1 ∨ k = 2 ∨ k = 3 ∨ k = 4 ∨ k = 5 ∨ k = 6 ∨ k = 7 ∨ k = 8 ∨ k = 9 ∨ k = 10 := by omega
    rcases hc with e | e | e | e | e | e | e | e | e | e
    · rw [g1 (.inl e)]; simp
    · rw [g1 (.inr (.inl e))]; simp
    · rw [g1 (.inr (.inr (.inl e)))]; simp
    · obtain ⟨x, _, e1⟩ := g4 e; rw [e1]; simp
    · obtain ⟨x, y, _, _, e1⟩ := g5 e; rw [e1]; simp
    · rw [(g6 e).1]; omega
    · obtain ⟨x, l, _, h2, _, e1⟩ := g7 e; rw [e1, List.length_cons, h2]; omega
    · obtain ⟨y, _, e1⟩ := g8 (.inl e); rw [e1]; simp
    · obtain ⟨y, _, e1⟩ := g8 (.inr e); rw [e1]; simp
    · rw [g1 (.inr (.inr (.inr e)))]; simp
  have hsz : 0 ≤ r.size ∧ r.size ≤ 4 := by
    by_cases e : k = 1
    · have := hr.hsize.1 e; omega
    · by_cases e' : k = 3
      · have := hr.hsize.2.1 e'; omega
      · have := hr.hsize.2.2 e e'; omega
  exact ⟨by rw [en]; exact ncat_le ha (by omega), hbs, hnm.1, hnm.2, htg.1, hkd, htg.2, hsz.1, hsz.2⟩
theorem DrawD.ruleOk : r.Ok := by
  obtain ⟨l1, l2, l3, l4, l5, l6, l7, l8, l9⟩ := h.lens hj
  obtain ⟨k, k1, k2, hr, hk, hl, hjl⟩ := h.kinds hj
  have hm := h.most
  have hkd := h.kid hj
  have mx : maxLen = 4611686018427387904 ∨ 10 ≤ maxLen := .inr (by decide)
  refine ⟨by unfold I64; omega, by unfold I64; omega, fun z hz => by have := l7 z hz; unfold I64; omega, fun z hz => by have := hkd z hz; unfold I64; omega, ?_⟩
  have hx : 10 ≤ maxLen := by decide
  exact ⟨by omega, by omega, by omega, fun s hs => by have := l4 s hs; omega, by omega, by omega, trivial⟩
theorem DrawD.ruleTotal : r.total ≤ 40 := by
  obtain ⟨l1, l2, l3, l4, l5, l6, l7, l8, l9⟩ := h.lens hj
  have := sum_le_mul ByteArray.size 5 r.names l4
  unfold Rul.total
  omega
end
theorem DrawD.desOk {d : Des} (h : DrawD d) : DesOk d :=
  ⟨fun r hr => by
    obtain ⟨j, hj⟩ := List.mem_iff_getElem?.1 hr
    exact h.ruleOk hj, by have := h.most; have hx : 10 ≤ maxLen := by decide
                          omega⟩
theorem DrawD.total {d : Des} (h : DrawD d) : dtotal d ≤ 1000 := by
  have := sum_le_mul Rul.total 40 d fun r hr => by
    obtain ⟨j, hj⟩ := List.mem_iff_getElem?.1 hr
    exact h.ruleTotal hj
  have := h.most
  unfold dtotal
  omega
theorem drawDescription_ac (b : List UInt8) (hb : b.length ≤ 1048576) : AC Try.prog 21 [bytesR b] fun rr => ∃ d, rr = .ro (desR d) ∧ DrawD d := by
  refine acu_enter Try.func21 rfl _ Try.ntmps21 (by simp) fun C u hn hm hu => ?_
  have hmu : ∀ x, C.mu x → x = 0 := fun x h => (hm x h).elim
  repeat' (first
 | (refine op_newU (l1New_u b hb) rfl hu (tl hn rfl) ?_; intro h hi)
 | (refine op_drawN (l4Description_d b hb) qdes_ok rfl hu hi rfl rfl rfl (by first | rfl | repeat' (first | rfl | exact clns_ro _ | refine clnO_cons ?_ ?_)) (tl hn rfl) ?_; rintro i h _ hi ⟨d, rfl, hd⟩)
 | refine RunsL.step tabOk hn rfl ?_
 | refine RunsL.nil ?_
 | refine Runs.toRegion 30 rfl ?_
 | (refine Runs.ctls 30 rfl ?_; first | refine Runs.cond_t rfl ?_ | refine Runs.cond_f rfl ?_ | ((first | refine Runs.cond_yes rfl ?_ ?_ | refine Runs.cond_nno rfl ?_ ?_); · first | omega | rfl | assumption | (simp only [List.length_map]; omega)) | ((first | refine Runs.cond_no rfl ?_ ?_ | refine Runs.cond_nyes rfl ?_ ?_); · first | omega | rfl | assumption | (simp only [List.length_map]; omega)) | refine Runs.cond_dec rfl (fun h => ?_) (fun h => ?_) | refine Runs.cond_ndec rfl (fun h => ?_) (fun h => ?_) | refine Runs.cond_nb rfl (fun h => ?_) (fun h => ?_) | refine Runs.cond_b rfl (fun h => ?_) (fun h => ?_) | refine Runs.ret (ends_ro hm rfl rfl ?_) | exact Runs.ret (ends_cellR hm rfl rfl rfl (Nat.le_of_ble_eq_true rfl) rfl rfl))
 | refine op_box rfl (tl hn rfl) ?_
 | refine op_storeF rfl rfl rfl rfl (Nat.le_of_ble_eq_true rfl) ?_
 | refine op_alloc (tl hn rfl) ?_
 | refine op_storeN rfl rfl rfl rfl (Nat.le_of_ble_eq_true rfl) ?_
 | (refine RunsL.pe hn rfl rfl rfl ?_; first
 | refine ⟨_, pu_add rfl rfl (by omega), ?_⟩
 | refine ⟨_, pu_indexAddr_map rfl rfl (by omega) (by assumption), ?_⟩
 | refine ⟨_, pu_sub rfl rfl (by omega), ?_⟩
 | refine ⟨_, pu_pick_b rfl rfl rfl, ?_⟩
 | refine ⟨_, pu_mul rfl rfl (by omega), ?_⟩
 | refine ⟨_, pu_build rfl rfl rfl rfl rfl rfl, ?_⟩))
  exact Runs.ctls 30 rfl (Runs.ret (ends_cellR (n := 1) hm rfl rfl rfl (Nat.le_of_ble_eq_true rfl) ⟨d, rfl, hd⟩ rfl))
end Go.Proofs.Ytdikinkihnepaaa
/- Values of the format, which are trees, over values: the laws' helpers on them, opened arguments, counting, comparing. -/
namespace Go.Proofs.Ytdikinkihnepaaa
set_option linter.unusedSimpArgs false
set_option linter.unusedVariables false
open Go.RowKit
inductive Tre where
  | mk (number : Int) (bytes : List UInt8) (items : List Tre)
namespace Tre
def number : Tre → Int | .mk n _ _ => n
def bytes : Tre → List UInt8 | .mk _ b _ => b
def items : Tre → List Tre | .mk _ _ l => l
mutual
def cells : Tre → List RV
  | .mk n b l => [.int n, bytesR b, .seq 3 (cellsL l)]
def cellsL : List Tre → List (List RV)
  | [] => []
  | v :: vs => cells v :: cellsL vs
def total : Tre → Nat
  | .mk _ b l => b.length + l.length + totalL l
def totalL : List Tre → Nat
  | [] => 0
  | v :: vs => total v + totalL vs
def count : Tre → Nat
  | .mk _ _ l => 1 + countL l
def countL : List Tre → Nat
  | [] => 0
  | v :: vs => count v + countL vs
def weight : Tre → Nat
  | .mk _ b l => b.length + weightL l
def weightL : List Tre → Nat
  | [] => 0
  | v :: vs => weight v + weightL vs
def Ok : Tre → Prop
  | .mk n b l => I64 n ∧ b.length ≤ maxLen ∧ l.length ≤ maxLen ∧ OkL l
def OkL : List Tre → Prop
  | [] => True
  | v :: vs => Ok v ∧ OkL vs
end
theorem cellsL_eq : ∀ l, cellsL l = l.map cells
  | [] => rfl
  | v :: vs => by rw [cellsL, cellsL_eq vs]; rfl
theorem totalL_eq : ∀ l, totalL l = (l.map total).sum
  | [] => rfl
  | v :: vs => by rw [totalL, totalL_eq vs]; rfl
theorem countL_eq : ∀ l, countL l = (l.map count).sum
  | [] => rfl
  | v :: vs => by rw [countL, countL_eq vs]; rfl
theorem weightL_eq : ∀ l, weightL l = (l.map weight).sum
  | [] => rfl
  | v :: vs => by rw [weightL, weightL_eq vs]; rfl
theorem OkL_iff : ∀ {l}, OkL l ↔ ∀ x ∈ l, Ok x
  | [] => by simp [OkL]
  | v :: vs => by simp [OkL, OkL_iff (l := vs)]
theorem cells_eq (v : Tre) : v.cells = [.int v.number, bytesR v.bytes, .seq 3 (v.items.map cells)] := by
  cases v; rw [cells, cellsL_eq]; rfl
theorem total_eq (v : Tre) : v.total = v.bytes.length + v.items.length + (v.items.map total).sum := by
  cases v; rw [total, totalL_eq]; rfl
theorem count_eq (v : Tre) : v.count = 1 + (v.items.map count).sum := by
  cases v; rw [count, countL_eq]; rfl
theorem weight_eq (v : Tre) : v.weight = v.bytes.length + (v.items.map weight).sum := by
  cases v; rw [weight, weightL_eq]; rfl
theorem Ok.out {v : Tre} (h : v.Ok) : I64 v.number ∧ v.bytes.length ≤ maxLen ∧ v.items.length ≤ maxLen ∧ ∀ x ∈ v.items, x.Ok := by
  cases v; rw [Ok, OkL_iff] at h; exact h
theorem cells_len (v : Tre) : v.cells.length = 3 := by rw [cells_eq]; rfl
mutual
theorem ind {P : Tre → Prop} (h : ∀ v, (∀ x ∈ v.items, P x) → P v) : ∀ v, P v
  | .mk n b l => h _ (indL h l)
theorem indL {P : Tre → Prop} (h : ∀ v, (∀ x ∈ v.items, P x) → P v) : ∀ l : List Tre, ∀ x ∈ l, P x
  | [], x, hx => by cases hx
  | v :: vs, x, hx => by
    rcases List.mem_cons.1 hx with e | e
    · rw [e]; exact ind h v
    · exact indL h vs x e
end
mutual
theorem count_le : ∀ v : Tre, v.count ≤ 1 + v.total
  | .mk n b l => by have := countL_le l; simp only [count, total]; omega
theorem countL_le : ∀ l : List Tre, countL l ≤ l.length + totalL l
  | [] => by simp [countL]
  | v :: vs => by have := count_le v; have := countL_le vs; simp only [countL, totalL, List.length_cons]; omega
end
mutual
theorem weight_le : ∀ v : Tre, v.weight ≤ v.total
  | .mk n b l => by have := weightL_le l; simp only [weight, total]; omega
theorem weightL_le : ∀ l : List Tre, weightL l ≤ totalL l
  | [] => by simp [weightL]
  | v :: vs => by have := weight_le v; have := weightL_le vs; simp only [weightL, totalL]; omega
end
end Tre
def tresR (l : List Tre) : RV := .seq 3 (l.map Tre.cells)
def treR (v : Tre) : RV := .agg [.int v.number, bytesR v.bytes, tresR v.items]
theorem treC (v : Tre) : RV.agg v.cells = treR v := by rw [Tre.cells_eq]; rfl
theorem tre_of {rcs : List RV} (h : TyC Try.prog 25 rcs) : ∃ v : Tre, .agg rcs = treR v ∧ v.Ok := by
  have hc : Try.prog.cellsOf 25 = 3 := by kernel_rfl
  have key : ∀ (t : TypeId) (rcs : List RV), TyC Try.prog t rcs → (t = 25 → ∃ v : Tre, rcs = v.cells ∧ v.Ok) ∧ (t = 23 → ∃ l : List Tre, rcs = [tresR l] ∧ l.length ≤ maxLen ∧ ∀ x ∈ l, x.Ok) := by
    intro t rcs h
    induction h with
    | int h wf => exact ⟨fun e => (by subst e; rw [Try.underlying25] at h; cases h), fun e => (by subst e; rw [Try.underlying23] at h; cases h)⟩
    | bool h => exact ⟨fun e => (by subst e; rw [Try.underlying25] at h; cases h), fun e => (by subst e; rw [Try.underlying23] at h; cases h)⟩
    | str h _ => exact ⟨fun e => (by subst e; rw [Try.underlying25] at h; cases h), fun e => (by subst e; rw [Try.underlying23] at h; cases h)⟩
    | slice h hl hels ih =>
      refine ⟨fun e => (by subst e; rw [Try.underlying25] at h; cases h), fun e => ?_⟩
      subst e
      rw [Try.underlying23] at h
      injection h with h; injection h with h; subst h
      obtain ⟨l, rfl, hq⟩ := els_of (f := Tre.cells) (Q := Tre.Ok) fun el hel => (ih el hel).1 rfl
      exact ⟨l, by rw [hc]; rfl, by simpa using hl, hq⟩
    | struct h hl hcs ih =>
      refine ⟨fun e => ?_, fun e => (by subst e; rw [Try.underlying23] at h; cases h)⟩
      subst e
      rename_i fs cells
      rw [Try.underlying25] at h
      injection h with h; injection h with h; subst h
      obtain ⟨c0, c1, c2, rfl⟩ : ∃ a b c, cells = [a, b, c] := by
        rcases cells with _ | ⟨a, _ | ⟨b, _ | ⟨c, _ | ⟨d, r⟩⟩⟩⟩ <;> simp at hl
        exact ⟨a, b, c, rfl⟩
      obtain ⟨n, rfl, b0⟩ := (hcs 0 _ c0 rfl rfl).i64 Try.underlying3
      obtain ⟨bs, rfl, hb⟩ := (hcs 1 _ c1 rfl rfl).bytes Try.underlying22 Try.underlying5 (by kernel_rfl)
      obtain ⟨l, rfl, hl2, hq⟩ := (ih 2 _ c2 rfl rfl).2 rfl
      refine ⟨.mk n bs l, by rw [Tre.cells_eq]; rfl, ?_⟩
      rw [Tre.Ok, Tre.OkL_iff]
      exact ⟨b0, hb, hl2, hq⟩
  obtain ⟨v, rfl, hv⟩ := (key _ _ h).1 rfl
  exact ⟨v, treC v, hv⟩
theorem szTres_ac (l : List Tre) (ih : ∀ x ∈ l, ∀ left : Int, 0 ≤ left → left ≤ 1048576 → x.Ok → ACv Try.prog 7 [treR x, .int left] (.int (sz1 left x.total))) (left : Int) (h0 : 0 ≤ left) (h1 : left ≤ 1048576) (hl : l.length ≤ maxLen) (ho : ∀ x ∈ l, x.Ok) :
    ACv Try.prog 37 [tresR l, .int left] (.int (sz1 left (l.length + (l.map Tre.total).sum : Nat))) := by
  unfold maxLen at hl
  refine ac_enter Try.func37 rfl _ Try.ntmps37 (by simp) fun C hn hm => ?_
  by_cases h : left < (l.length : Int)
  · repeat' (first
 | refine RunsL.step tabOk hn rfl ?_
 | refine RunsL.nil ?_
 | refine Runs.toRegion 30 rfl ?_
 | (refine RunsL.pe hn rfl rfl rfl ?_; first
 | refine ⟨_, pu_sub rfl rfl (by first | omega | (simp only [List.length_map]; omega)), ?_⟩)
 | (refine Runs.ctls 30 rfl ?_; first | refine Runs.cond_t rfl ?_ | refine Runs.cond_f rfl ?_ | ((first | refine Runs.cond_yes rfl ?_ ?_ | refine Runs.cond_nno rfl ?_ ?_); · first | omega | rfl | assumption | (simp only [List.length_map]; omega)) | ((first | refine Runs.cond_no rfl ?_ ?_ | refine Runs.cond_nyes rfl ?_ ?_); · first | omega | rfl | assumption | (simp only [List.length_map]; omega)) | refine Runs.cond_dec rfl (fun h => ?_) (fun h => ?_) | refine Runs.cond_ndec rfl (fun h => ?_) (fun h => ?_) | refine Runs.cond_nb rfl (fun h => ?_) (fun h => ?_) | refine Runs.cond_b rfl (fun h => ?_) (fun h => ?_) | refine Runs.ret (ends_ro hm rfl rfl ?_) | exact Runs.ret (ends_cellR hm rfl rfl rfl (Nat.le_of_ble_eq_true rfl) rfl rfl))
 | refine op_box rfl (tl hn rfl) ?_
 | refine op_storeF rfl rfl rfl rfl (Nat.le_of_ble_eq_true rfl) ?_
 | refine op_alloc (tl hn rfl) ?_
 | refine op_storeN rfl rfl rfl rfl (Nat.le_of_ble_eq_true rfl) ?_
 | (refine RunsL.pe hn rfl rfl rfl ?_; first
 | refine ⟨_, pu_add rfl rfl (by omega), ?_⟩
 | refine ⟨_, pu_indexAddr_map rfl rfl (by omega) (by assumption), ?_⟩
 | refine ⟨_, pu_sub rfl rfl (by omega), ?_⟩
 | refine ⟨_, pu_pick_b rfl rfl rfl, ?_⟩
 | refine ⟨_, pu_mul rfl rfl (by omega), ?_⟩
 | refine ⟨_, pu_build rfl rfl rfl rfl rfl rfl, ?_⟩))
    exact rr_int (sz1_neg (by omega)).symm
  · repeat' (first
 | refine RunsL.step tabOk hn rfl ?_
 | refine RunsL.nil ?_
 | refine Runs.toRegion 30 rfl ?_
 | (refine RunsL.pe hn rfl rfl rfl ?_; first
 | refine ⟨_, pu_sub rfl rfl (by first | omega | (simp only [List.length_map]; omega)), ?_⟩)
 | (refine Runs.ctls 30 rfl ?_; first | refine Runs.cond_t rfl ?_ | refine Runs.cond_f rfl ?_ | ((first | refine Runs.cond_yes rfl ?_ ?_ | refine Runs.cond_nno rfl ?_ ?_); · first | omega | rfl | assumption | (simp only [List.length_map]; omega)) | ((first | refine Runs.cond_no rfl ?_ ?_ | refine Runs.cond_nyes rfl ?_ ?_); · first | omega | rfl | assumption | (simp only [List.length_map]; omega)) | refine Runs.cond_dec rfl (fun h => ?_) (fun h => ?_) | refine Runs.cond_ndec rfl (fun h => ?_) (fun h => ?_) | refine Runs.cond_nb rfl (fun h => ?_) (fun h => ?_) | refine Runs.cond_b rfl (fun h => ?_) (fun h => ?_) | refine Runs.ret (ends_ro hm rfl rfl ?_) | exact Runs.ret (ends_cellR hm rfl rfl rfl (Nat.le_of_ble_eq_true rfl) rfl rfl))
 | refine op_box rfl (tl hn rfl) ?_
 | refine op_storeF rfl rfl rfl rfl (Nat.le_of_ble_eq_true rfl) ?_
 | refine op_alloc (tl hn rfl) ?_
 | refine op_storeN rfl rfl rfl rfl (Nat.le_of_ble_eq_true rfl) ?_
 | (refine RunsL.pe hn rfl rfl rfl ?_; first
 | refine ⟨_, pu_add rfl rfl (by omega), ?_⟩
 | refine ⟨_, pu_indexAddr_map rfl rfl (by omega) (by assumption), ?_⟩
 | refine ⟨_, pu_sub rfl rfl (by omega), ?_⟩
 | refine ⟨_, pu_pick_b rfl rfl rfl, ?_⟩
 | refine ⟨_, pu_mul rfl rfl (by omega), ?_⟩
 | refine ⟨_, pu_build rfl rfl rfl rfl rfl rfl, ?_⟩))
    refine Runs.loopN 30 rfl (fun j => [(0, .ro (tresR l)), (1, .int (left - l.length - ((l.take j).map Tre.total).sum)), (5, .int (j : Int))]) (fun _ => []) (fun j => ((l.take j).map Tre.total).sum ≤ left - l.length) l.length 0 (Nat.zero_le _) (by simp; omega) ⟨rfl, by simp [look], rfl, trivial⟩ rfl fun j hj hQ next => ?_
    by_cases hlt : j < l.length
    · obtain ⟨x, hx⟩ : ∃ x, l[(j : Int).toNat]? = some x := ⟨_, List.getElem?_eq_getElem hlt⟩
      have hx' : l[j]? = some x := hx
      have hm' := List.mem_of_getElem? hx'
      have hs := sum_take_next Tre.total hx'
      have hle := sum_take_le Tre.total l (j + 1)
      have hcall := ih x hm' (left - l.length - ((l.take j).map Tre.total).sum) (by omega) (by omega) (ho x hm')
      by_cases hz : (left - l.length - ((l.take j).map Tre.total).sum) < (x.total : Int)
      · have e := sz1_neg hz
        rw [e] at hcall
        repeat' (first
 | refine RunsL.step tabOk hn rfl ?_
 | refine RunsL.nil ?_
 | refine Runs.toRegion 30 rfl ?_
 | (refine RunsL.pe hn rfl rfl rfl ?_; first
 | refine ⟨_, pu_callR hcall rfl, ?_⟩
 | refine ⟨_, pu_loadN_eq rfl (Tre.cells_eq _) rfl, ?_⟩)
 | (refine Runs.ctls 30 rfl ?_; first | refine Runs.cond_t rfl ?_ | refine Runs.cond_f rfl ?_ | ((first | refine Runs.cond_yes rfl ?_ ?_ | refine Runs.cond_nno rfl ?_ ?_); · first | omega | rfl | assumption | (simp only [List.length_map]; omega)) | ((first | refine Runs.cond_no rfl ?_ ?_ | refine Runs.cond_nyes rfl ?_ ?_); · first | omega | rfl | assumption | (simp only [List.length_map]; omega)) | refine Runs.cond_dec rfl (fun h => ?_) (fun h => ?_) | refine Runs.cond_ndec rfl (fun h => ?_) (fun h => ?_) | refine Runs.cond_nb rfl (fun h => ?_) (fun h => ?_) | refine Runs.cond_b rfl (fun h => ?_) (fun h => ?_) | refine Runs.ret (ends_ro hm rfl rfl ?_) | exact Runs.ret (ends_cellR hm rfl rfl rfl (Nat.le_of_ble_eq_true rfl) rfl rfl))
 | refine op_box rfl (tl hn rfl) ?_
 | refine op_storeF rfl rfl rfl rfl (Nat.le_of_ble_eq_true rfl) ?_
 | refine op_alloc (tl hn rfl) ?_
 | refine op_storeN rfl rfl rfl rfl (Nat.le_of_ble_eq_true rfl) ?_
 | (refine RunsL.pe hn rfl rfl rfl ?_; first
 | refine ⟨_, pu_add rfl rfl (by omega), ?_⟩
 | refine ⟨_, pu_indexAddr_map rfl rfl (by omega) (by assumption), ?_⟩
 | refine ⟨_, pu_sub rfl rfl (by omega), ?_⟩
 | refine ⟨_, pu_pick_b rfl rfl rfl, ?_⟩
 | refine ⟨_, pu_mul rfl rfl (by omega), ?_⟩
 | refine ⟨_, pu_build rfl rfl rfl rfl rfl rfl, ?_⟩))
        exact rr_int (sz1_neg (by omega)).symm
      · have e := sz1_pos (left := left - l.length - ((l.take j).map Tre.total).sum) (n := x.total) (by omega)
        rw [e] at hcall
        repeat' (first
 | refine RunsL.step tabOk hn rfl ?_
 | refine RunsL.nil ?_
 | refine Runs.toRegion 30 rfl ?_
 | (refine RunsL.pe hn rfl rfl rfl ?_; first
 | refine ⟨_, pu_callR hcall rfl, ?_⟩
 | refine ⟨_, pu_loadN_eq rfl (Tre.cells_eq _) rfl, ?_⟩)
 | (refine Runs.ctls 30 rfl ?_; first | refine Runs.cond_t rfl ?_ | refine Runs.cond_f rfl ?_ | ((first | refine Runs.cond_yes rfl ?_ ?_ | refine Runs.cond_nno rfl ?_ ?_); · first | omega | rfl | assumption | (simp only [List.length_map]; omega)) | ((first | refine Runs.cond_no rfl ?_ ?_ | refine Runs.cond_nyes rfl ?_ ?_); · first | omega | rfl | assumption | (simp only [List.length_map]; omega)) | refine Runs.cond_dec rfl (fun h => ?_) (fun h => ?_) | refine Runs.cond_ndec rfl (fun h => ?_) (fun h => ?_) | refine Runs.cond_nb rfl (fun h => ?_) (fun h => ?_) | refine Runs.cond_b rfl (fun h => ?_) (fun h => ?_) | refine Runs.ret (ends_ro hm rfl rfl ?_) | exact Runs.ret (ends_cellR hm rfl rfl rfl (Nat.le_of_ble_eq_true rfl) rfl rfl))
 | refine op_box rfl (tl hn rfl) ?_
 | refine op_storeF rfl rfl rfl rfl (Nat.le_of_ble_eq_true rfl) ?_
 | refine op_alloc (tl hn rfl) ?_
 | refine op_storeN rfl rfl rfl rfl (Nat.le_of_ble_eq_true rfl) ?_
 | (refine RunsL.pe hn rfl rfl rfl ?_; first
 | refine ⟨_, pu_add rfl rfl (by omega), ?_⟩
 | refine ⟨_, pu_indexAddr_map rfl rfl (by omega) (by assumption), ?_⟩
 | refine ⟨_, pu_sub rfl rfl (by omega), ?_⟩
 | refine ⟨_, pu_pick_b rfl rfl rfl, ?_⟩
 | refine ⟨_, pu_mul rfl rfl (by omega), ?_⟩
 | refine ⟨_, pu_build rfl rfl rfl rfl rfl rfl, ?_⟩))
        refine next _ _ ⟨rfl, ?_, rfl, trivial⟩ hlt (by omega) rfl
        exact av_int (by rw [hs]; omega)
    · repeat' (first
 | refine RunsL.step tabOk hn rfl ?_
 | refine RunsL.nil ?_
 | refine Runs.toRegion 30 rfl ?_
 | (refine Runs.ctls 30 rfl ?_; first | refine Runs.cond_t rfl ?_ | refine Runs.cond_f rfl ?_ | ((first | refine Runs.cond_yes rfl ?_ ?_ | refine Runs.cond_nno rfl ?_ ?_); · first | omega | rfl | assumption | (simp only [List.length_map]; omega)) | ((first | refine Runs.cond_no rfl ?_ ?_ | refine Runs.cond_nyes rfl ?_ ?_); · first | omega | rfl | assumption | (simp only [List.length_map]; omega)) | refine Runs.cond_dec rfl (fun h => ?_) (fun h => ?_) | refine Runs.cond_ndec rfl (fun h => ?_) (fun h => ?_) | refine Runs.cond_nb rfl (fun h => ?_) (fun h => ?_) | refine Runs.cond_b rfl (fun h => ?_) (fun h => ?_) | refine Runs.ret (ends_ro hm rfl rfl ?_) | exact Runs.ret (ends_cellR hm rfl rfl rfl (Nat.le_of_ble_eq_true rfl) rfl rfl))
 | refine op_box rfl (tl hn rfl) ?_
 | refine op_storeF rfl rfl rfl rfl (Nat.le_of_ble_eq_true rfl) ?_
 | refine op_alloc (tl hn rfl) ?_
 | refine op_storeN rfl rfl rfl rfl (Nat.le_of_ble_eq_true rfl) ?_
 | (refine RunsL.pe hn rfl rfl rfl ?_; first
 | refine ⟨_, pu_add rfl rfl (by omega), ?_⟩
 | refine ⟨_, pu_indexAddr_map rfl rfl (by omega) (by assumption), ?_⟩
 | refine ⟨_, pu_sub rfl rfl (by omega), ?_⟩
 | refine ⟨_, pu_pick_b rfl rfl rfl, ?_⟩
 | refine ⟨_, pu_mul rfl rfl (by omega), ?_⟩
 | refine ⟨_, pu_build rfl rfl rfl rfl rfl rfl, ?_⟩))
      obtain rfl : j = l.length := by omega
      rw [List.take_length] at hQ ⊢
      exact rr_int (by rw [sz1_pos (by omega)]; omega)
theorem szTre_ac : ∀ (v : Tre) (left : Int), 0 ≤ left → left ≤ 1048576 → v.Ok → ACv Try.prog 7 [treR v, .int left] (.int (sz1 left v.total)) := by
  refine Tre.ind fun v ih left h0 h1 ho => ?_
  obtain ⟨o1, o2, o3, o4⟩ := ho.out
  have hb := szBytes_ac v.bytes left h0 h1 o2
  have ht := v.total_eq
  refine ac_enter Try.func7 rfl _ Try.ntmps7 (by simp) fun C hn hm => ?_
  by_cases h : left < (v.bytes.length : Int)
  · rw [sz1_neg h] at hb
    repeat' (first
 | refine RunsL.step tabOk hn rfl ?_
 | refine RunsL.nil ?_
 | refine Runs.toRegion 30 rfl ?_
 | (refine RunsL.pe hn rfl rfl rfl ?_; first
 | refine ⟨_, pu_callR hb rfl, ?_⟩)
 | (refine Runs.ctls 30 rfl ?_; first | refine Runs.cond_t rfl ?_ | refine Runs.cond_f rfl ?_ | ((first | refine Runs.cond_yes rfl ?_ ?_ | refine Runs.cond_nno rfl ?_ ?_); · first | omega | rfl | assumption | (simp only [List.length_map]; omega)) | ((first | refine Runs.cond_no rfl ?_ ?_ | refine Runs.cond_nyes rfl ?_ ?_); · first | omega | rfl | assumption | (simp only [List.length_map]; omega)) | refine Runs.cond_dec rfl (fun h => ?_) (fun h => ?_) | refine Runs.cond_ndec rfl (fun h => ?_) (fun h => ?_) | refine Runs.cond_nb rfl (fun h => ?_) (fun h => ?_) | refine Runs.cond_b rfl (fun h => ?_) (fun h => ?_) | refine Runs.ret (ends_ro hm rfl rfl ?_) | exact Runs.ret (ends_cellR hm rfl rfl rfl (Nat.le_of_ble_eq_true rfl) rfl rfl))
 | refine op_box rfl (tl hn rfl) ?_
 | refine op_storeF rfl rfl rfl rfl (Nat.le_of_ble_eq_true rfl) ?_
 | refine op_alloc (tl hn rfl) ?_
 | refine op_storeN rfl rfl rfl rfl (Nat.le_of_ble_eq_true rfl) ?_
 | (refine RunsL.pe hn rfl rfl rfl ?_; first
 | refine ⟨_, pu_add rfl rfl (by omega), ?_⟩
 | refine ⟨_, pu_indexAddr_map rfl rfl (by omega) (by assumption), ?_⟩
 | refine ⟨_, pu_sub rfl rfl (by omega), ?_⟩
 | refine ⟨_, pu_pick_b rfl rfl rfl, ?_⟩
 | refine ⟨_, pu_mul rfl rfl (by omega), ?_⟩
 | refine ⟨_, pu_build rfl rfl rfl rfl rfl rfl, ?_⟩))
    exact rr_int (sz1_neg (by omega)).symm
  · rw [sz1_pos (by omega)] at hb
    have hv := szTres_ac v.items ih (left - v.bytes.length) (by omega) (by omega) o3 o4
    by_cases h2 : left - v.bytes.length < ((v.items.length + (v.items.map Tre.total).sum : Nat) : Int)
    · rw [sz1_neg h2] at hv
      repeat' (first
 | refine RunsL.step tabOk hn rfl ?_
 | refine RunsL.nil ?_
 | refine Runs.toRegion 30 rfl ?_
 | (refine RunsL.pe hn rfl rfl rfl ?_; first
 | refine ⟨_, pu_callR hb rfl, ?_⟩
 | refine ⟨_, pu_callR hv rfl, ?_⟩)
 | (refine Runs.ctls 30 rfl ?_; first | refine Runs.cond_t rfl ?_ | refine Runs.cond_f rfl ?_ | ((first | refine Runs.cond_yes rfl ?_ ?_ | refine Runs.cond_nno rfl ?_ ?_); · first | omega | rfl | assumption | (simp only [List.length_map]; omega)) | ((first | refine Runs.cond_no rfl ?_ ?_ | refine Runs.cond_nyes rfl ?_ ?_); · first | omega | rfl | assumption | (simp only [List.length_map]; omega)) | refine Runs.cond_dec rfl (fun h => ?_) (fun h => ?_) | refine Runs.cond_ndec rfl (fun h => ?_) (fun h => ?_) | refine Runs.cond_nb rfl (fun h => ?_) (fun h => ?_) | refine Runs.cond_b rfl (fun h => ?_) (fun h => ?_) | refine Runs.ret (ends_ro hm rfl rfl ?_) | exact Runs.ret (ends_cellR hm rfl rfl rfl (Nat.le_of_ble_eq_true rfl) rfl rfl))
 | refine op_box rfl (tl hn rfl) ?_
 | refine op_storeF rfl rfl rfl rfl (Nat.le_of_ble_eq_true rfl) ?_
 | refine op_alloc (tl hn rfl) ?_
 | refine op_storeN rfl rfl rfl rfl (Nat.le_of_ble_eq_true rfl) ?_
 | (refine RunsL.pe hn rfl rfl rfl ?_; first
 | refine ⟨_, pu_add rfl rfl (by omega), ?_⟩
 | refine ⟨_, pu_indexAddr_map rfl rfl (by omega) (by assumption), ?_⟩
 | refine ⟨_, pu_sub rfl rfl (by omega), ?_⟩
 | refine ⟨_, pu_pick_b rfl rfl rfl, ?_⟩
 | refine ⟨_, pu_mul rfl rfl (by omega), ?_⟩
 | refine ⟨_, pu_build rfl rfl rfl rfl rfl rfl, ?_⟩))
      exact rr_int (sz1_neg (by omega)).symm
    · rw [sz1_pos (by omega)] at hv
      repeat' (first
 | refine RunsL.step tabOk hn rfl ?_
 | refine RunsL.nil ?_
 | refine Runs.toRegion 30 rfl ?_
 | (refine RunsL.pe hn rfl rfl rfl ?_; first
 | refine ⟨_, pu_callR hb rfl, ?_⟩
 | refine ⟨_, pu_callR hv rfl, ?_⟩)
 | (refine Runs.ctls 30 rfl ?_; first | refine Runs.cond_t rfl ?_ | refine Runs.cond_f rfl ?_ | ((first | refine Runs.cond_yes rfl ?_ ?_ | refine Runs.cond_nno rfl ?_ ?_); · first | omega | rfl | assumption | (simp only [List.length_map]; omega)) | ((first | refine Runs.cond_no rfl ?_ ?_ | refine Runs.cond_nyes rfl ?_ ?_); · first | omega | rfl | assumption | (simp only [List.length_map]; omega)) | refine Runs.cond_dec rfl (fun h => ?_) (fun h => ?_) | refine Runs.cond_ndec rfl (fun h => ?_) (fun h => ?_) | refine Runs.cond_nb rfl (fun h => ?_) (fun h => ?_) | refine Runs.cond_b rfl (fun h => ?_) (fun h => ?_) | refine Runs.ret (ends_ro hm rfl rfl ?_) | exact Runs.ret (ends_cellR hm rfl rfl rfl (Nat.le_of_ble_eq_true rfl) rfl rfl))
 | refine op_box rfl (tl hn rfl) ?_
 | refine op_storeF rfl rfl rfl rfl (Nat.le_of_ble_eq_true rfl) ?_
 | refine op_alloc (tl hn rfl) ?_
 | refine op_storeN rfl rfl rfl rfl (Nat.le_of_ble_eq_true rfl) ?_
 | (refine RunsL.pe hn rfl rfl rfl ?_; first
 | refine ⟨_, pu_add rfl rfl (by omega), ?_⟩
 | refine ⟨_, pu_indexAddr_map rfl rfl (by omega) (by assumption), ?_⟩
 | refine ⟨_, pu_sub rfl rfl (by omega), ?_⟩
 | refine ⟨_, pu_pick_b rfl rfl rfl, ?_⟩
 | refine ⟨_, pu_mul rfl rfl (by omega), ?_⟩
 | refine ⟨_, pu_build rfl rfl rfl rfl rfl rfl, ?_⟩))
      exact rr_int (by rw [sz1_pos (by omega)]; omega)
theorem toTres_ac (l : List Tre) (ih : ∀ x ∈ l, x.total ≤ 1048576 → ACv Try.prog 9 [treR x] (treR x)) (hl : l.length ≤ 1048576) (ht : (l.map Tre.total).sum ≤ 1048576) : ACv Try.prog 39 [tresR l] (tresR l) := by
  have hl' : (l.map Tre.cells).length = l.length := List.length_map ..
  refine ac_enter Try.func39 rfl _ Try.ntmps39 (by simp) fun C hn hm => ?_
  repeat' (first
 | refine RunsL.step tabOk hn rfl ?_
 | refine RunsL.nil ?_
 | refine Runs.toRegion 30 rfl ?_
 | refine op_makeN (zs := [.int .i64 0, .slice none 0 0, .slice none 0 0]) rfl rfl rfl rfl (by decide) rfl (by omega) (by unfold maxLen; omega) (tl hn rfl) ?_
 | (refine Runs.ctls 30 rfl ?_; first | refine Runs.cond_t rfl ?_ | refine Runs.cond_f rfl ?_ | ((first | refine Runs.cond_yes rfl ?_ ?_ | refine Runs.cond_nno rfl ?_ ?_); · first | omega | rfl | assumption | (simp only [List.length_map]; omega)) | ((first | refine Runs.cond_no rfl ?_ ?_ | refine Runs.cond_nyes rfl ?_ ?_); · first | omega | rfl | assumption | (simp only [List.length_map]; omega)) | refine Runs.cond_dec rfl (fun h => ?_) (fun h => ?_) | refine Runs.cond_ndec rfl (fun h => ?_) (fun h => ?_) | refine Runs.cond_nb rfl (fun h => ?_) (fun h => ?_) | refine Runs.cond_b rfl (fun h => ?_) (fun h => ?_) | refine Runs.ret (ends_ro hm rfl rfl ?_) | exact Runs.ret (ends_cellR hm rfl rfl rfl (Nat.le_of_ble_eq_true rfl) rfl rfl))
 | refine op_box rfl (tl hn rfl) ?_
 | refine op_storeF rfl rfl rfl rfl (Nat.le_of_ble_eq_true rfl) ?_
 | refine op_alloc (tl hn rfl) ?_
 | refine op_storeN rfl rfl rfl rfl (Nat.le_of_ble_eq_true rfl) ?_
 | (refine RunsL.pe hn rfl rfl rfl ?_; first
 | refine ⟨_, pu_add rfl rfl (by omega), ?_⟩
 | refine ⟨_, pu_indexAddr_map rfl rfl (by omega) (by assumption), ?_⟩
 | refine ⟨_, pu_sub rfl rfl (by omega), ?_⟩
 | refine ⟨_, pu_pick_b rfl rfl rfl, ?_⟩
 | refine ⟨_, pu_mul rfl rfl (by omega), ?_⟩
 | refine ⟨_, pu_build rfl rfl rfl rfl rfl rfl, ?_⟩))
  refine Runs.loopN 30 rfl (fun j => [(0, .ro (tresR l)), (3, .own 0), (4, .int (j : Int))]) (fun j => [⟨29, 3, (filled Tre.cells [.int 0, .nil, .nil] l j).map .ro⟩]) (fun _ => True) l.length 0 (Nat.zero_le _) trivial ⟨rfl, rfl, rfl, trivial⟩ (by rw [filled_zero, hl']; rfl) fun j hj _ next => ?_
  have hlen := filled_len Tre.cells_len (zc := [.int 0, .nil, .nil]) rfl l j hj
  by_cases hlt : j < l.length
  · obtain ⟨x, hx⟩ : ∃ x, l[(j : Int).toNat]? = some x := ⟨_, List.getElem?_eq_getElem hlt⟩
    have hm' := List.mem_of_getElem? hx
    have hcall := ih x hm' (Nat.le_trans (sum_mem_le Tre.total hm') ht)
    repeat' (first
 | refine RunsL.step tabOk hn rfl ?_
 | refine RunsL.nil ?_
 | refine Runs.toRegion 30 rfl ?_
 | refine op_storeN rfl rfl rfl rfl (by simp only [List.length_map, List.length_cons, List.length_nil]; omega) ?_
 | (refine RunsL.pe hn rfl rfl rfl ?_; first
 | refine ⟨_, pu_callR hcall rfl, ?_⟩
 | refine ⟨_, pu_loadN_eq rfl (Tre.cells_eq _) rfl, ?_⟩
 | refine ⟨_, pu_indexAddr_own (n := l.length) rfl rfl rfl rfl (by simp only [List.length_map]; omega) (by omega) (by omega), ?_⟩)
 | (refine Runs.ctls 30 rfl ?_; first | refine Runs.cond_t rfl ?_ | refine Runs.cond_f rfl ?_ | ((first | refine Runs.cond_yes rfl ?_ ?_ | refine Runs.cond_nno rfl ?_ ?_); · first | omega | rfl | assumption | (simp only [List.length_map]; omega)) | ((first | refine Runs.cond_no rfl ?_ ?_ | refine Runs.cond_nyes rfl ?_ ?_); · first | omega | rfl | assumption | (simp only [List.length_map]; omega)) | refine Runs.cond_dec rfl (fun h => ?_) (fun h => ?_) | refine Runs.cond_ndec rfl (fun h => ?_) (fun h => ?_) | refine Runs.cond_nb rfl (fun h => ?_) (fun h => ?_) | refine Runs.cond_b rfl (fun h => ?_) (fun h => ?_) | refine Runs.ret (ends_ro hm rfl rfl ?_) | exact Runs.ret (ends_cellR hm rfl rfl rfl (Nat.le_of_ble_eq_true rfl) rfl rfl))
 | refine op_box rfl (tl hn rfl) ?_
 | refine op_storeF rfl rfl rfl rfl (Nat.le_of_ble_eq_true rfl) ?_
 | refine op_alloc (tl hn rfl) ?_
 | refine op_storeN rfl rfl rfl rfl (Nat.le_of_ble_eq_true rfl) ?_
 | (refine RunsL.pe hn rfl rfl rfl ?_; first
 | refine ⟨_, pu_add rfl rfl (by omega), ?_⟩
 | refine ⟨_, pu_indexAddr_map rfl rfl (by omega) (by assumption), ?_⟩
 | refine ⟨_, pu_sub rfl rfl (by omega), ?_⟩
 | refine ⟨_, pu_pick_b rfl rfl rfl, ?_⟩
 | refine ⟨_, pu_mul rfl rfl (by omega), ?_⟩
 | refine ⟨_, pu_build rfl rfl rfl rfl rfl rfl, ?_⟩))
    refine next _ _ ⟨rfl, rfl, rfl, trivial⟩ hlt trivial ?_
    rw [← filled_set Tre.cells_len rfl l j x hx, Tre.cells_eq]
    rfl
  · obtain rfl : j = l.length := by omega
    repeat' (first
 | refine RunsL.step tabOk hn rfl ?_
 | refine RunsL.nil ?_
 | refine Runs.toRegion 30 rfl ?_
 | (refine Runs.ctls 30 rfl ?_; first | refine Runs.cond_t rfl ?_ | refine Runs.cond_f rfl ?_ | ((first | refine Runs.cond_yes rfl ?_ ?_ | refine Runs.cond_nno rfl ?_ ?_); · first | omega | rfl | assumption | (simp only [List.length_map]; omega)) | ((first | refine Runs.cond_no rfl ?_ ?_ | refine Runs.cond_nyes rfl ?_ ?_); · first | omega | rfl | assumption | (simp only [List.length_map]; omega)) | refine Runs.cond_dec rfl (fun h => ?_) (fun h => ?_) | refine Runs.cond_ndec rfl (fun h => ?_) (fun h => ?_) | refine Runs.cond_nb rfl (fun h => ?_) (fun h => ?_) | refine Runs.cond_b rfl (fun h => ?_) (fun h => ?_) | refine Runs.ret (ends_ro hm rfl rfl ?_) | exact Runs.ret (ends_cellR hm rfl rfl rfl (Nat.le_of_ble_eq_true rfl) rfl rfl))
 | refine op_box rfl (tl hn rfl) ?_
 | refine op_storeF rfl rfl rfl rfl (Nat.le_of_ble_eq_true rfl) ?_
 | refine op_alloc (tl hn rfl) ?_
 | refine op_storeN rfl rfl rfl rfl (Nat.le_of_ble_eq_true rfl) ?_
 | (refine RunsL.pe hn rfl rfl rfl ?_; first
 | refine ⟨_, pu_add rfl rfl (by omega), ?_⟩
 | refine ⟨_, pu_indexAddr_map rfl rfl (by omega) (by assumption), ?_⟩
 | refine ⟨_, pu_sub rfl rfl (by omega), ?_⟩
 | refine ⟨_, pu_pick_b rfl rfl rfl, ?_⟩
 | refine ⟨_, pu_mul rfl rfl (by omega), ?_⟩
 | refine ⟨_, pu_build rfl rfl rfl rfl rfl rfl, ?_⟩))
    exact Runs.ctls 30 rfl (Runs.ret (ends_ownR (els := l.map Tre.cells) hm rfl rfl rfl rfl (by rw [filled_full]) (by simp [Tre.cells_len])))
theorem toTre_ac : ∀ v : Tre, v.total ≤ 1048576 → ACv Try.prog 9 [treR v] (treR v) := by
  refine Tre.ind fun v ih ht => ?_
  have he := v.total_eq
  have hb := toBytes_ac v.bytes (by omega)
  have hi := toTres_ac v.items ih (by omega) (by omega)
  refine ac_enter Try.func9 rfl _ Try.ntmps9 (by simp) fun C hn hm => ?_
  repeat' (first
 | refine RunsL.step tabOk hn rfl ?_
 | refine RunsL.nil ?_
 | refine Runs.toRegion 30 rfl ?_
 | (refine RunsL.pe hn rfl rfl rfl ?_; first
 | refine ⟨_, pu_callR hb rfl, ?_⟩
 | refine ⟨_, pu_callR hi rfl, ?_⟩)
 | (refine Runs.ctls 30 rfl ?_; first | refine Runs.cond_t rfl ?_ | refine Runs.cond_f rfl ?_ | ((first | refine Runs.cond_yes rfl ?_ ?_ | refine Runs.cond_nno rfl ?_ ?_); · first | omega | rfl | assumption | (simp only [List.length_map]; omega)) | ((first | refine Runs.cond_no rfl ?_ ?_ | refine Runs.cond_nyes rfl ?_ ?_); · first | omega | rfl | assumption | (simp only [List.length_map]; omega)) | refine Runs.cond_dec rfl (fun h => ?_) (fun h => ?_) | refine Runs.cond_ndec rfl (fun h => ?_) (fun h => ?_) | refine Runs.cond_nb rfl (fun h => ?_) (fun h => ?_) | refine Runs.cond_b rfl (fun h => ?_) (fun h => ?_) | refine Runs.ret (ends_ro hm rfl rfl ?_) | exact Runs.ret (ends_cellR hm rfl rfl rfl (Nat.le_of_ble_eq_true rfl) rfl rfl))
 | refine op_box rfl (tl hn rfl) ?_
 | refine op_storeF rfl rfl rfl rfl (Nat.le_of_ble_eq_true rfl) ?_
 | refine op_alloc (tl hn rfl) ?_
 | refine op_storeN rfl rfl rfl rfl (Nat.le_of_ble_eq_true rfl) ?_
 | (refine RunsL.pe hn rfl rfl rfl ?_; first
 | refine ⟨_, pu_add rfl rfl (by omega), ?_⟩
 | refine ⟨_, pu_indexAddr_map rfl rfl (by omega) (by assumption), ?_⟩
 | refine ⟨_, pu_sub rfl rfl (by omega), ?_⟩
 | refine ⟨_, pu_pick_b rfl rfl rfl, ?_⟩
 | refine ⟨_, pu_mul rfl rfl (by omega), ?_⟩
 | refine ⟨_, pu_build rfl rfl rfl rfl rfl rfl, ?_⟩))
theorem eqTres_ac (l : List Tre) (ih : ∀ x ∈ l, x.Ok → ACv Try.prog 11 [treR x, treR x] (.bool true)) (hl : l.length ≤ maxLen) (ho : ∀ x ∈ l, x.Ok) : ACv Try.prog 41 [tresR l, tresR l] (.bool true) := by
  unfold maxLen at hl
  refine ac_enter Try.func41 rfl _ Try.ntmps41 (by simp) fun C hn hm => ?_
  repeat' (first
 | refine RunsL.step tabOk hn rfl ?_
 | refine RunsL.nil ?_
 | refine Runs.toRegion 30 rfl ?_
 | (refine Runs.ctls 30 rfl ?_; first | refine Runs.cond_t rfl ?_ | refine Runs.cond_f rfl ?_ | ((first | refine Runs.cond_yes rfl ?_ ?_ | refine Runs.cond_nno rfl ?_ ?_); · first | omega | rfl | assumption | (simp only [List.length_map]; omega)) | ((first | refine Runs.cond_no rfl ?_ ?_ | refine Runs.cond_nyes rfl ?_ ?_); · first | omega | rfl | assumption | (simp only [List.length_map]; omega)) | refine Runs.cond_dec rfl (fun h => ?_) (fun h => ?_) | refine Runs.cond_ndec rfl (fun h => ?_) (fun h => ?_) | refine Runs.cond_nb rfl (fun h => ?_) (fun h => ?_) | refine Runs.cond_b rfl (fun h => ?_) (fun h => ?_) | refine Runs.ret (ends_ro hm rfl rfl ?_) | exact Runs.ret (ends_cellR hm rfl rfl rfl (Nat.le_of_ble_eq_true rfl) rfl rfl))
 | refine op_box rfl (tl hn rfl) ?_
 | refine op_storeF rfl rfl rfl rfl (Nat.le_of_ble_eq_true rfl) ?_
 | refine op_alloc (tl hn rfl) ?_
 | refine op_storeN rfl rfl rfl rfl (Nat.le_of_ble_eq_true rfl) ?_
 | refine RunsD.step tabOk hn rfl rfl ?_
 | refine RunsD.nil ?_
 | refine Runs.toDraw 30 mixed hn rfl (by kernel_rfl) rfl ?_
 | ((first | refine RunsL.pe hn rfl rfl rfl ?_ | refine RunsD.pe rfl rfl ?_); first
 | refine ⟨_, pu_add rfl rfl (by omega), ?_⟩
 | refine ⟨_, pu_indexAddr_map rfl rfl (by omega) (by assumption), ?_⟩
 | refine ⟨_, pu_sub rfl rfl (by omega), ?_⟩
 | refine ⟨_, pu_pick_b rfl rfl rfl, ?_⟩
 | refine ⟨_, pu_mul rfl rfl (by omega), ?_⟩
 | refine ⟨_, pu_build rfl rfl rfl rfl rfl rfl, ?_⟩))
  refine Runs.loopN 30 rfl (fun j => [(0, .ro (tresR l)), (1, .ro (tresR l)), (5, .int (j : Int))]) (fun _ => []) (fun _ => True) l.length 0 (Nat.zero_le _) trivial ⟨rfl, rfl, rfl, trivial⟩ rfl fun j hj _ next => ?_
  by_cases hlt : j < l.length
  · obtain ⟨x, hx⟩ : ∃ x, l[(j : Int).toNat]? = some x := ⟨_, List.getElem?_eq_getElem hlt⟩
    have hm' := List.mem_of_getElem? hx
    have hcall := ih x hm' (ho x hm')
    repeat' (first
 | refine RunsL.step tabOk hn rfl ?_
 | refine RunsL.nil ?_
 | refine Runs.toRegion 30 rfl ?_
 | ((first | refine RunsL.pe hn rfl rfl rfl ?_ | refine RunsD.pe rfl rfl ?_); first
 | refine ⟨_, pu_callR hcall rfl, ?_⟩
 | refine ⟨_, pu_loadN_eq rfl (Tre.cells_eq _) rfl, ?_⟩)
 | (refine Runs.ctls 30 rfl ?_; first | refine Runs.cond_t rfl ?_ | refine Runs.cond_f rfl ?_ | ((first | refine Runs.cond_yes rfl ?_ ?_ | refine Runs.cond_nno rfl ?_ ?_); · first | omega | rfl | assumption | (simp only [List.length_map]; omega)) | ((first | refine Runs.cond_no rfl ?_ ?_ | refine Runs.cond_nyes rfl ?_ ?_); · first | omega | rfl | assumption | (simp only [List.length_map]; omega)) | refine Runs.cond_dec rfl (fun h => ?_) (fun h => ?_) | refine Runs.cond_ndec rfl (fun h => ?_) (fun h => ?_) | refine Runs.cond_nb rfl (fun h => ?_) (fun h => ?_) | refine Runs.cond_b rfl (fun h => ?_) (fun h => ?_) | refine Runs.ret (ends_ro hm rfl rfl ?_) | exact Runs.ret (ends_cellR hm rfl rfl rfl (Nat.le_of_ble_eq_true rfl) rfl rfl))
 | refine op_box rfl (tl hn rfl) ?_
 | refine op_storeF rfl rfl rfl rfl (Nat.le_of_ble_eq_true rfl) ?_
 | refine op_alloc (tl hn rfl) ?_
 | refine op_storeN rfl rfl rfl rfl (Nat.le_of_ble_eq_true rfl) ?_
 | refine RunsD.step tabOk hn rfl rfl ?_
 | refine RunsD.nil ?_
 | refine Runs.toDraw 30 mixed hn rfl (by kernel_rfl) rfl ?_
 | ((first | refine RunsL.pe hn rfl rfl rfl ?_ | refine RunsD.pe rfl rfl ?_); first
 | refine ⟨_, pu_add rfl rfl (by omega), ?_⟩
 | refine ⟨_, pu_indexAddr_map rfl rfl (by omega) (by assumption), ?_⟩
 | refine ⟨_, pu_sub rfl rfl (by omega), ?_⟩
 | refine ⟨_, pu_pick_b rfl rfl rfl, ?_⟩
 | refine ⟨_, pu_mul rfl rfl (by omega), ?_⟩
 | refine ⟨_, pu_build rfl rfl rfl rfl rfl rfl, ?_⟩))
    exact next _ _ ⟨rfl, rfl, rfl, trivial⟩ hlt trivial rfl
  · repeat' (first
 | refine RunsL.step tabOk hn rfl ?_
 | refine RunsL.nil ?_
 | refine Runs.toRegion 30 rfl ?_
 | (refine Runs.ctls 30 rfl ?_; first | refine Runs.cond_t rfl ?_ | refine Runs.cond_f rfl ?_ | ((first | refine Runs.cond_yes rfl ?_ ?_ | refine Runs.cond_nno rfl ?_ ?_); · first | omega | rfl | assumption | (simp only [List.length_map]; omega)) | ((first | refine Runs.cond_no rfl ?_ ?_ | refine Runs.cond_nyes rfl ?_ ?_); · first | omega | rfl | assumption | (simp only [List.length_map]; omega)) | refine Runs.cond_dec rfl (fun h => ?_) (fun h => ?_) | refine Runs.cond_ndec rfl (fun h => ?_) (fun h => ?_) | refine Runs.cond_nb rfl (fun h => ?_) (fun h => ?_) | refine Runs.cond_b rfl (fun h => ?_) (fun h => ?_) | refine Runs.ret (ends_ro hm rfl rfl ?_) | exact Runs.ret (ends_cellR hm rfl rfl rfl (Nat.le_of_ble_eq_true rfl) rfl rfl))
 | refine op_box rfl (tl hn rfl) ?_
 | refine op_storeF rfl rfl rfl rfl (Nat.le_of_ble_eq_true rfl) ?_
 | refine op_alloc (tl hn rfl) ?_
 | refine op_storeN rfl rfl rfl rfl (Nat.le_of_ble_eq_true rfl) ?_
 | refine RunsD.step tabOk hn rfl rfl ?_
 | refine RunsD.nil ?_
 | refine Runs.toDraw 30 mixed hn rfl (by kernel_rfl) rfl ?_
 | ((first | refine RunsL.pe hn rfl rfl rfl ?_ | refine RunsD.pe rfl rfl ?_); first
 | refine ⟨_, pu_add rfl rfl (by omega), ?_⟩
 | refine ⟨_, pu_indexAddr_map rfl rfl (by omega) (by assumption), ?_⟩
 | refine ⟨_, pu_sub rfl rfl (by omega), ?_⟩
 | refine ⟨_, pu_pick_b rfl rfl rfl, ?_⟩
 | refine ⟨_, pu_mul rfl rfl (by omega), ?_⟩
 | refine ⟨_, pu_build rfl rfl rfl rfl rfl rfl, ?_⟩))
    exact rr_bool rfl
theorem eqTre_ac : ∀ v : Tre, v.Ok → ACv Try.prog 11 [treR v, treR v] (.bool true) := by
  refine Tre.ind fun v ih ho => ?_
  obtain ⟨o1, o2, o3, o4⟩ := ho.out
  have hb := eqBytes_ac v.bytes o2
  have hi := eqTres_ac v.items ih o3 o4
  refine ac_enter Try.func11 rfl _ Try.ntmps11 (by simp) fun C hn hm => ?_
  repeat' (first
 | refine RunsL.step tabOk hn rfl ?_
 | refine RunsL.nil ?_
 | refine Runs.toRegion 30 rfl ?_
 | (refine RunsL.pe hn rfl rfl rfl ?_; first
 | refine ⟨_, pu_callR hb rfl, ?_⟩
 | refine ⟨_, pu_callR hi rfl, ?_⟩)
 | (refine Runs.ctls 30 rfl ?_; first | refine Runs.cond_t rfl ?_ | refine Runs.cond_f rfl ?_ | ((first | refine Runs.cond_yes rfl ?_ ?_ | refine Runs.cond_nno rfl ?_ ?_); · first | omega | rfl | assumption | (simp only [List.length_map]; omega)) | ((first | refine Runs.cond_no rfl ?_ ?_ | refine Runs.cond_nyes rfl ?_ ?_); · first | omega | rfl | assumption | (simp only [List.length_map]; omega)) | refine Runs.cond_dec rfl (fun h => ?_) (fun h => ?_) | refine Runs.cond_ndec rfl (fun h => ?_) (fun h => ?_) | refine Runs.cond_nb rfl (fun h => ?_) (fun h => ?_) | refine Runs.cond_b rfl (fun h => ?_) (fun h => ?_) | refine Runs.ret (ends_ro hm rfl rfl ?_) | exact Runs.ret (ends_cellR hm rfl rfl rfl (Nat.le_of_ble_eq_true rfl) rfl rfl))
 | refine op_box rfl (tl hn rfl) ?_
 | refine op_storeF rfl rfl rfl rfl (Nat.le_of_ble_eq_true rfl) ?_
 | refine op_alloc (tl hn rfl) ?_
 | refine op_storeN rfl rfl rfl rfl (Nat.le_of_ble_eq_true rfl) ?_
 | (refine RunsL.pe hn rfl rfl rfl ?_; first
 | refine ⟨_, pu_add rfl rfl (by omega), ?_⟩
 | refine ⟨_, pu_indexAddr_map rfl rfl (by omega) (by assumption), ?_⟩
 | refine ⟨_, pu_sub rfl rfl (by omega), ?_⟩
 | refine ⟨_, pu_pick_b rfl rfl rfl, ?_⟩
 | refine ⟨_, pu_mul rfl rfl (by omega), ?_⟩
 | refine ⟨_, pu_build rfl rfl rfl rfl rfl rfl, ?_⟩))
  exact rr_bool rfl
noncomputable instance : DecidableEq Tre := fun a b => Classical.propDecidable _
theorem tre_eq (a b : Tre) : a = b ↔ a.number = b.number ∧ a.bytes = b.bytes ∧ a.items = b.items := by
  cases a; cases b; simp [Tre.number, Tre.bytes, Tre.items]
end Go.Proofs.Ytdikinkihnepaaa
/- The rule of an item of a value: both sides. -/
namespace Go.Proofs.Ytdikinkihnepaaa
set_option linter.unusedSimpArgs false
set_option linter.unusedVariables false
open Go.RowKit
def tagIx : List Int → Int → Nat
  | [], _ => 0
  | t :: ts, n => if t = n then 0 else tagIx ts n + 1
theorem tagIx_hit {n : Int} : ∀ {l : List Int} {j : Nat}, l[j]? = some n → (∀ (k : Nat) t, k < j → l[k]? = some t → t ≠ n) → tagIx l n = j
  | [], j, h, _ => by simp at h
  | t :: ts, 0, h, _ => by
    simp at h
    rw [tagIx, if_pos h]
  | t :: ts, j + 1, h, hn => by
    rw [tagIx, if_neg (hn 0 t (by omega) (by simp)), tagIx_hit (l := ts) (j := j) (by simpa using h) fun k u hk hu => hn (k + 1) u (by omega) (by simpa using hu)]
theorem tagIx_none {n : Int} : ∀ {l : List Int}, (∀ (k : Nat) t, l[k]? = some t → t ≠ n) → tagIx l n = l.length
  | [], _ => rfl
  | t :: ts, hn => by
    rw [tagIx, if_neg (hn 0 t (by simp)), tagIx_none (l := ts) fun k u hu => hn (k + 1) u (by simpa using hu)]
    rfl
theorem tagIx_le {n : Int} : ∀ {l : List Int}, tagIx l n ≤ l.length
  | [] => Nat.le_refl _
  | t :: ts => by
    have := tagIx_le (n := n) (l := ts)
    rw [tagIx]
    split <;> simp only [List.length_cons] <;> omega
theorem tagIx_at {n : Int} : ∀ {l : List Int}, tagIx l n < l.length → l[tagIx l n]? = some n
  | [], h => by simp [tagIx] at h
  | t :: ts, h => by
    rw [tagIx] at h ⊢
    by_cases e : t = n
    · rw [if_pos e, e]; simp
    · rw [if_neg e] at h ⊢
      rw [List.length_cons] at h
      simpa using tagIx_at (n := n) (l := ts) (by omega)
def itemR (r : Rul) (n i : Int) : Int :=
  if r.kind = 5 then (r.kids[1]?).getD (-1)
  else if r.kind = 6 then (r.kids[i.toNat]?).getD (-1)
  else if r.kind = 7 then (r.kids[tagIx r.tags n + 1]?).getD (-1)
  else if r.kind = 8 ∨ r.kind = 9 then (r.kids[0]?).getD (-1)
  else -1
theorem item_fields {d : Des} {x : Rul} (hk : KindOk d x) : (x.kind = 5 → x.kids.length = 2) ∧ (x.kind = 7 → TagsOk d x) ∧ (x.kind = 8 ∨ x.kind = 9 → x.kids.length = 1) ∧ (x.kind = 4 → x.kids.length = 1) := by
  unfold KindOk at hk
  refine ⟨fun e => ?_, fun e => ?_, fun e => ?_, fun e => ?_⟩
  · rcases hk with hk | hk | hk | hk | hk | hk | hk | hk | hk
    all_goals first | omega | (have := hk.2.1.kids (by omega); omega)
  · rcases hk with hk | hk | hk | hk | hk | hk | hk | hk | hk
    all_goals first | omega | exact hk.2.2
  · rcases hk with hk | hk | hk | hk | hk | hk | hk | hk | hk
    all_goals first | omega | (have := hk.2.kids (by omega); omega)
  · rcases hk with hk | hk | hk | hk | hk | hk | hk | hk | hk
    all_goals first | omega | (have := hk.2.1.kids (by omega); omega)
theorem kind_at {d : Des} (hG : Good' d) {r : Nat} {x : Rul} (h : d[r]? = some x) : KindOk d x := by
  have hi := (List.getElem?_eq_some_iff.1 h).1
  obtain ⟨_, x', h1, h2⟩ := hG.2.2 r hi
  rw [show ((r : Nat) : Int).toNat = r by rfl, h] at h1; injection h1 with h1; subst h1
  exact h2.2.2.2
theorem kids_at {d : Des} (hG : Good' d) {r : Nat} {x : Rul} (h : d[r]? = some x) {k : Nat} {z : Int} (hz : x.kids[k]? = some z) : 0 ≤ z ∧ z < r := by
  have hi := (List.getElem?_eq_some_iff.1 h).1
  obtain ⟨_, x', h1, h2⟩ := hG.2.2 r hi
  rw [show ((r : Nat) : Int).toNat = r by rfl, h] at h1; injection h1 with h1; subst h1
  simpa using h2.2.1 k z hz
theorem itemR_lt {d : Des} (hG : Good' d) {r : Nat} {x : Rul} (h : d[r]? = some x) (n i : Int) : itemR x n i = -1 ∨ (0 ≤ itemR x n i ∧ itemR x n i < r) := by
  have key : ∀ k : Nat, (x.kids[k]?).getD (-1) = -1 ∨ (0 ≤ (x.kids[k]?).getD (-1) ∧ (x.kids[k]?).getD (-1) < r) := fun k => by
    cases hz : x.kids[k]? with
    | none => exact .inl rfl
    | some z => exact .inr (kids_at hG h hz)
  unfold itemR
  split
  · exact key _
  split
  · exact key _
  split
  · exact key _
  split
  · exact key _
  · exact .inl rfl
theorem getD_some {l : List Int} {k : Nat} {c : Int} (h : l[k]? = some c) : (l[k]?).getD (-1) = c := by rw [h]; rfl
theorem getD_none {l : List Int} {k : Nat} (h : l.length ≤ k) : (l[k]?).getD (-1) = -1 := by rw [List.getElem?_eq_none h]; rfl
section
variable {P : Program} {C : Ctx} {env : Env} {σ : List Ob} {t : Nat} {ty : TypeId} {pos : String} {after : Array Edge} {gd : Option (Nat × Bool)}
theorem pu_nilCheck {x : Operand} {cs : List RV} (hx : ev env x = .ro (.rp cs)) : Pur P C ⟨some t, .nilCheck x, ty, pos, after, gd⟩ env σ (.ro (.rp cs)) :=
  Pur.of (fun a m hG hσ hH => by
    have h := hH x (by simp [Op.operands, Call.operands])
    rw [hx] at h
    have h' := h
    simp only [AV.rel, RV.rel] at h
    obtain ⟨b, o, e, hb, hok, hc⟩ := h
    exact ⟨a.eval x, by simp [execOp, e], h'⟩)
end
noncomputable def itemF (d : Des) (r : Int) (v : Tre) (i : Int) : Int := open Classical in if Kn d r ∧ 0 ≤ i ∧ i < v.items.length then (match d[r.toNat]? with | some x => itemR x v.number i | none => -1) else -1
theorem itemF_yes {d : Des} {r : Int} {v : Tre} {i : Int} {x : Rul} (h : Kn d r ∧ 0 ≤ i ∧ i < v.items.length) (hx : d[r.toNat]? = some x) : itemF d r v i = itemR x v.number i := by unfold itemF; rw [if_pos h, hx]
theorem itemF_no {d : Des} {r : Int} {v : Tre} {i : Int} (h : ¬ (Kn d r ∧ 0 ≤ i ∧ i < v.items.length)) : itemF d r v i = -1 := by unfold itemF; rw [if_neg h]
theorem kn_nat {d : Des} {r : Int} (h : Kn d r) : ∃ (n : Nat) (x : Rul), r = n ∧ n < d.length ∧ d[n]? = some x := by
  obtain ⟨_, h2⟩ := h
  unfold HasR at h2
  exact ⟨r.toNat, _, by omega, by omega, List.getElem?_eq_getElem (by omega)⟩
end Go.Proofs.Ytdikinkihnepaaa
/- The code of a rule: what it is, and the program's own methods that write it. -/
namespace Go.Proofs.Ytdikinkihnepaaa
set_option linter.unusedSimpArgs false
set_option linter.unusedVariables false
open Go.RowKit
open AV (Mem Keeps)
set_option maxRecDepth 100000
def callI (en : List Int) (r : Int) : Ins := ⟨9, (en[r.toNat]?).getD 0, 0⟩
def chTags (tags : List Int) (first : Int) (j : Nat) : List Ins := (List.range j).map fun i : Nat => ⟨11, (tags[i]?).getD 0, w64 (first + 2 * (i : Int))⟩
def chCalls (kids : List Int) (en : List Int) (j : Nat) : List Ins := (List.range j).flatMap fun i : Nat => (if i = 0 then [] else [⟨10, 0, 0⟩]) ++ [callI en ((kids[i + 1]?).getD 0)]
def bodyI (x : Rul) (s : Int) (en : List Int) : List Ins :=
  if x.kind = 1 then [⟨1, x.size, if x.little = true then 1 else 0⟩]
  else if x.kind = 2 then x.bytes.map fun b => ⟨2, (b.toNat : Int), 0⟩
  else if x.kind = 3 then [⟨3, x.size, 0⟩]
  else if x.kind = 4 then [callI en (x.kids.headD 0), ⟨4, 0, 0⟩]
  else if x.kind = 5 then [callI en (x.kids.headD 0), ⟨5, 40, 0⟩, ⟨6, 0, 0⟩, ⟨7, w64 (s + 6), 0⟩, callI en ((x.kids[1]?).getD 0), ⟨8, w64 (s + 3), 0⟩]
  else if x.kind = 6 then x.kids.map (callI en)
  else if x.kind = 7 then callI en (x.kids.headD 0) :: (chTags x.tags (s + (x.tags.length : Int) + 2) x.tags.length ++ ⟨12, 3, 0⟩ :: chCalls x.kids en x.tags.length)
  else if x.kind = 8 then [⟨13, w64 (s + 2), 0⟩, callI en (x.kids.headD 0)]
  else if x.kind = 9 then [⟨14, 0, 0⟩, callI en (x.kids.headD 0), ⟨15, 0, 0⟩]
  else [⟨16, (((x.bytes[0]?).getD 0).toNat : Int), 0⟩]
def ruleI (x : Rul) (s : Int) (en : List Int) : List Ins := bodyI x s en ++ [⟨10, 0, 0⟩]
theorem chTags_next {tags : List Int} {first : Int} {j : Nat} {t : Int} (h : tags[j]? = some t) : chTags tags first (j + 1) = chTags tags first j ++ [⟨11, t, w64 (first + 2 * (j : Int))⟩] := by
  unfold chTags
  rw [List.range_succ, List.map_append, List.map_singleton, h]
  rfl
theorem chCalls_next {kids en : List Int} {j : Nat} {z : Int} (h : kids[j + 1]? = some z) : chCalls kids en (j + 1) = chCalls kids en j ++ ((if j = 0 then [] else [⟨10, 0, 0⟩]) ++ [callI en z]) := by
  unfold chCalls
  rw [List.range_succ, List.flatMap_append, List.flatMap_singleton, h]
  rfl
theorem chTags_len (tags : List Int) (first : Int) (j : Nat) : (chTags tags first j).length = j := by simp [chTags]
theorem chCalls_len (kids en : List Int) : ∀ j : Nat, (chCalls kids en j).length ≤ 2 * j
  | 0 => by simp [chCalls]
  | j + 1 => by
    have h := chCalls_len kids en j
    unfold chCalls at h ⊢
    rw [List.range_succ, List.flatMap_append, List.flatMap_singleton, List.length_append, List.length_append, List.length_singleton]
    split
    · simp only [List.length_nil]; omega
    · simp only [List.length_singleton]; omega
instance tb_ins : TB Try.prog 53 [(0, 1), (1, 1), (2, 1)] [.int .i64 0, .int .i64 0, .int .i64 0] := ⟨_, _, _, rfl, rfl, rfl, rfl, by kernel_rfl, by decide⟩
instance tb_cmpr : TB Try.prog 87 [(0, 1), (1, 1), (2, 1), (3, 1)] [.slice none 0 0, .int .i64 0, .slice none 0 0, .slice none 0 0] := ⟨_, _, _, rfl, rfl, rfl, rfl, by kernel_rfl, by decide⟩
def cO (d : Des) (s : Int) (en : List Int) (code : List Ins) : List Ob := [⟨87, 0, [.ro (rulsR d), .int s, .ro (intsR en), .own 1]⟩, ⟨53, 3, (code.flatMap insR).map .ro⟩]
theorem onlys_ros (p : Nat → Prop) : ∀ rs : List RV, AV.onlys p (rs.map .ro)
  | [] => by simp [AV.onlys]
  | r :: rs => by simp only [List.map_cons, AV.onlys, AV.only]; exact ⟨trivial, onlys_ros p rs⟩
theorem cO_free (d : Des) (s : Int) (en : List Int) (code : List Ins) : FreeO 2 (cO d s en code) := by
  simp only [cO, FreeO]
  exact ⟨by simp [AV.onlys, AV.only], onlys_ros _ _, trivial⟩
theorem insR_flat (l : List Ins) : (l.flatMap insR).length = l.length * 3 := by
  induction l with
  | nil => rfl
  | cons x l ih => rw [List.flatMap_cons, List.length_append, ih, insR_len, List.length_cons]; omega
theorem Runs.endA {P : Program} {C : Ctx} {fn : Func} {gs : Nat → Nat} {env : Env} {σ σ' more : List Ob} {t : Nat} (hp : look env t = .pin 0 0 (gs 0)) (hσ : σ = σ' ++ more) (hl : 0 < σ'.length) (hc : FreeO σ'.length σ') (hr : fn.results = #[]) :
    Runs P C [] (EndsA P C fn gs [0] σ' (.tup [])) ⟨env, σ⟩ :=
  Runs.shed (E' := [(t, .pin 0 0 (gs 0))]) ⟨hp, trivial⟩ hσ ⟨by simpa only [AV.only] using hl, trivial⟩ hc (Runs.end_ (endsA0 (fun i hi => by simp at hi; subst hi; exact ⟨t, 0, by simp [look]⟩) hr rfl))
set_option maxHeartbeats 2000000 in
theorem add_am (d : Des) (s : Int) (en : List Int) (code : List Ins) (op a b : Int) (hl : code.length ≤ 4194304) : AM Try.prog 68 (cO d s en code) [0] [.obj 0 0, .int op, .int a, .int b] (cO d s en (code ++ [⟨op, a, b⟩])) (.tup []) := by
  refine am_enter Try.func68 rfl _ Try.ntmps68 (by simp) (by simp) fun C gs hn => ?_
  have hfl := insR_flat code
  repeat' (first
 | refine RunsL.junk 0 3 rfl (op_append (n := code.length) (i := 1) rfl rfl rfl rfl rfl rfl (by rw [hfl]) (FreeI.at_ (i := 1) ⟨by simp [AV.onlys, AV.only], onlys_ros _ _, trivial⟩) (by simp; omega) (by simp; omega) (tl hn rfl) ?_)
 | refine RunsL.step tabOk hn rfl ?_
 | refine RunsL.nil ?_
 | refine Runs.toRegion 30 rfl ?_
 | (refine RunsL.pe hn rfl rfl rfl ?_; first
 | refine ⟨_, pu_nilCheckP rfl, ?_⟩
 | refine ⟨_, pu_buildS rfl, ?_⟩)
 | (refine Runs.ctls 30 rfl ?_; first | refine Runs.cond_t rfl ?_ | refine Runs.cond_f rfl ?_ | ((first | refine Runs.cond_yes rfl ?_ ?_ | refine Runs.cond_nno rfl ?_ ?_); · first | omega | rfl | assumption | (simp only [List.length_map]; omega)) | ((first | refine Runs.cond_no rfl ?_ ?_ | refine Runs.cond_nyes rfl ?_ ?_); · first | omega | rfl | assumption | (simp only [List.length_map]; omega)) | refine Runs.cond_dec rfl (fun h => ?_) (fun h => ?_) | refine Runs.cond_ndec rfl (fun h => ?_) (fun h => ?_) | refine Runs.cond_nb rfl (fun h => ?_) (fun h => ?_) | refine Runs.cond_b rfl (fun h => ?_) (fun h => ?_) | refine Runs.ret (ends_ro hm rfl rfl ?_) | exact Runs.ret (ends_cellR hm rfl rfl rfl (Nat.le_of_ble_eq_true rfl) rfl rfl))
 | refine op_box rfl (tl hn rfl) ?_
 | refine op_storeF rfl rfl rfl rfl (Nat.le_of_ble_eq_true rfl) ?_
 | refine op_alloc (tl hn rfl) ?_
 | refine op_storeN rfl rfl rfl rfl (Nat.le_of_ble_eq_true rfl) ?_
 | (refine RunsL.pe hn rfl rfl rfl ?_; first
 | refine ⟨_, pu_add rfl rfl (by omega), ?_⟩
 | refine ⟨_, pu_indexAddr_map rfl rfl (by omega) (by assumption), ?_⟩
 | refine ⟨_, pu_sub rfl rfl (by omega), ?_⟩
 | refine ⟨_, pu_pick_b rfl rfl rfl, ?_⟩
 | refine ⟨_, pu_mul rfl rfl (by omega), ?_⟩
 | refine ⟨_, pu_build rfl rfl rfl rfl rfl rfl, ?_⟩))
  refine Runs.ctls 30 rfl ?_
  refine Runs.endA (more := []) (t := 0) rfl ?_ (by simp [cO]) (cO_free _ _ _ _) rfl
  rw [List.append_nil]
  unfold cO
  rw [List.flatMap_append]
  rfl
theorem cO_app {d : Des} {s : Int} {en : List Int} {code code' : List Ins} {more : List Ob} (h : code = code') : cO d s en code ++ more = cO d s en code' ++ more := by rw [h]
theorem lend_c {C : Ctx} {d : Des} {s : Int} {en : List Int} {code : List Ins} {σ more : List Ob} {g : Nat} (h : σ = cO d s en code ++ more) : Lends C σ (.pin 0 0 g) (.rp [rulsR d, .int s, intsR en, inssR code]) := by
  subst h
  exact Lends.pin rfl (.cons .ro (.cons .ro (.cons .ro (.cons (Lends.own (o := ⟨53, 3, (code.flatMap insR).map .ro⟩) (els := code.map insR) rfl rfl fun x hx => by obtain ⟨y, _, rfl⟩ := List.mem_map.1 hx; rfl) .nil))))
theorem here_ac (d : Des) (s : Int) (en : List Int) (code : List Ins) : ACv Try.prog 99 [.rp [rulsR d, .int s, intsR en, inssR code]] (.int (w64 (s + code.length))) := by
  have hl : (code.map insR).length = code.length := List.length_map ..
  refine ac_enter Try.func99 rfl _ Try.ntmps99 (by simp) fun C hn hm => ?_
  repeat' (first
 | ((first | refine RunsL.pe hn rfl rfl rfl ?_ | refine RunsD.pe rfl rfl ?_); first
 | refine ⟨_, pu_addW rfl rfl, ?_⟩)
 | refine RunsL.step tabOk hn rfl ?_
 | refine RunsL.nil ?_
 | refine Runs.toRegion 30 rfl ?_
 | ((first | refine RunsL.pe hn rfl rfl rfl ?_ | refine RunsD.pe rfl rfl ?_); first
 | refine ⟨_, pu_nilCheck rfl, ?_⟩)
 | (refine Runs.ctls 30 rfl ?_; first | refine Runs.cond_t rfl ?_ | refine Runs.cond_f rfl ?_ | ((first | refine Runs.cond_yes rfl ?_ ?_ | refine Runs.cond_nno rfl ?_ ?_); · first | omega | rfl | assumption | (simp only [List.length_map]; omega)) | ((first | refine Runs.cond_no rfl ?_ ?_ | refine Runs.cond_nyes rfl ?_ ?_); · first | omega | rfl | assumption | (simp only [List.length_map]; omega)) | refine Runs.cond_dec rfl (fun h => ?_) (fun h => ?_) | refine Runs.cond_ndec rfl (fun h => ?_) (fun h => ?_) | refine Runs.cond_nb rfl (fun h => ?_) (fun h => ?_) | refine Runs.cond_b rfl (fun h => ?_) (fun h => ?_) | refine Runs.ret (ends_ro hm rfl rfl ?_) | exact Runs.ret (ends_cellR hm rfl rfl rfl (Nat.le_of_ble_eq_true rfl) rfl rfl))
 | refine op_box rfl (tl hn rfl) ?_
 | refine op_storeF rfl rfl rfl rfl (Nat.le_of_ble_eq_true rfl) ?_
 | refine op_alloc (tl hn rfl) ?_
 | refine op_storeN rfl rfl rfl rfl (Nat.le_of_ble_eq_true rfl) ?_
 | refine RunsD.step tabOk hn rfl rfl ?_
 | refine RunsD.nil ?_
 | refine Runs.toDraw 30 mixed hn rfl (by kernel_rfl) rfl ?_
 | ((first | refine RunsL.pe hn rfl rfl rfl ?_ | refine RunsD.pe rfl rfl ?_); first
 | refine ⟨_, pu_add rfl rfl (by omega), ?_⟩
 | refine ⟨_, pu_indexAddr_map rfl rfl (by omega) (by assumption), ?_⟩
 | refine ⟨_, pu_sub rfl rfl (by omega), ?_⟩
 | refine ⟨_, pu_pick_b rfl rfl rfl, ?_⟩
 | refine ⟨_, pu_mul rfl rfl (by omega), ?_⟩
 | refine ⟨_, pu_build rfl rfl rfl rfl rfl rfl, ?_⟩))
  exact rr_int (by rw [hl])
set_option maxHeartbeats 2000000 in
theorem call_am (d : Des) (s : Int) (en : List Int) (code : List Ins) (r : Int) (hl : code.length ≤ 4194304) (h0 : 0 ≤ r) (h1 : r < en.length) : AM Try.prog 98 (cO d s en code) [0] [.obj 0 0, .int r] (cO d s en (code ++ [callI en r])) (.tup []) := by
  refine am_enter Try.func98 rfl _ Try.ntmps98 (by simp) (by simp) fun C gs hn => ?_
  obtain ⟨z, hz⟩ : ∃ z, en[r.toNat]? = some z := ⟨_, List.getElem?_eq_getElem (by omega)⟩
  have hle : (en.map fun z => [RV.int z]).length = en.length := List.length_map ..
  repeat' (first
 | refine op_callP 2 (add_am d s en _ _ _ _ (by first | omega | (simp only [List.length_append, List.length_cons, List.length_nil]; omega))) rfl (by simp [AV.onlys, AV.only]) (by simp [AV.only, AV.onlys]) (List.append_nil _).symm rfl rfl (cO_free _ _ _ _) (cO_free _ _ _ _) rfl trivial (fun t h => by injection h with h; subst h; exact tl hn rfl) ?_
 | refine RunsL.step tabOk hn rfl ?_
 | refine RunsL.nil ?_
 | refine Runs.toRegion 30 rfl ?_
 | (refine RunsL.pe hn rfl rfl rfl ?_; first
 | refine ⟨_, pu_nilCheckP rfl, ?_⟩)
 | (refine Runs.ctls 30 rfl ?_; first | refine Runs.cond_t rfl ?_ | refine Runs.cond_f rfl ?_ | ((first | refine Runs.cond_yes rfl ?_ ?_ | refine Runs.cond_nno rfl ?_ ?_); · first | omega | rfl | assumption | (simp only [List.length_map]; omega)) | ((first | refine Runs.cond_no rfl ?_ ?_ | refine Runs.cond_nyes rfl ?_ ?_); · first | omega | rfl | assumption | (simp only [List.length_map]; omega)) | refine Runs.cond_dec rfl (fun h => ?_) (fun h => ?_) | refine Runs.cond_ndec rfl (fun h => ?_) (fun h => ?_) | refine Runs.cond_nb rfl (fun h => ?_) (fun h => ?_) | refine Runs.cond_b rfl (fun h => ?_) (fun h => ?_) | refine Runs.ret (ends_ro hm rfl rfl ?_) | exact Runs.ret (ends_cellR hm rfl rfl rfl (Nat.le_of_ble_eq_true rfl) rfl rfl))
 | refine op_box rfl (tl hn rfl) ?_
 | refine op_storeF rfl rfl rfl rfl (Nat.le_of_ble_eq_true rfl) ?_
 | refine op_alloc (tl hn rfl) ?_
 | refine op_storeN rfl rfl rfl rfl (Nat.le_of_ble_eq_true rfl) ?_
 | (refine RunsL.pe hn rfl rfl rfl ?_; first
 | refine ⟨_, pu_add rfl rfl (by omega), ?_⟩
 | refine ⟨_, pu_indexAddr_map rfl rfl (by omega) (by assumption), ?_⟩
 | refine ⟨_, pu_sub rfl rfl (by omega), ?_⟩
 | refine ⟨_, pu_pick_b rfl rfl rfl, ?_⟩
 | refine ⟨_, pu_mul rfl rfl (by omega), ?_⟩
 | refine ⟨_, pu_build rfl rfl rfl rfl rfl rfl, ?_⟩))
  refine Runs.ctls 30 rfl ?_
  refine Runs.endA (more := []) (t := 0) rfl (cO_app ?_) (by simp [cO]) (cO_free _ _ _ _) rfl
  unfold callI
  rw [hz]
  rfl
def RuleOkC (d : Des) (x : Rul) (en : List Int) : Prop := KindOk d x ∧ ∀ (k : Nat) z, x.kids[k]? = some z → 0 ≤ z ∧ z < en.length
theorem kid0 {d : Des} {x : Rul} {en : List Int} (h : RuleOkC d x en) (hl : 0 < x.kids.length) : x.kids[(0 : Int).toNat]? = some (x.kids.headD 0) ∧ 0 ≤ x.kids.headD 0 ∧ x.kids.headD 0 < en.length := by
  have hx : x.kids[(0 : Int).toNat]? = some (x.kids.headD 0) := by
    cases hk : x.kids with
    | nil => rw [hk] at hl; simp at hl
    | cons a l => rfl
  exact ⟨hx, h.2 0 _ hx⟩
set_option maxHeartbeats 4000000 in
theorem integer_am (d : Des) (s : Int) (en : List Int) (x : Rul) (hk : x.kind = 1) : AM Try.prog 58 (cO d s en []) [0] [.obj 0 0, .ro (.agg (rulR x))] (cO d s en (bodyI x s en)) (.tup []) := by
  refine am_enter Try.func58 rfl _ Try.ntmps58 (by simp) (by simp) fun C gs hn => ?_
  obtain ⟨nm, kd, sz, li, bs, ns, tg, ki⟩ := x
  simp only at hk
  subst hk
  cases li
  all_goals
    repeat' (first
 | refine op_callP 2 (add_am d s en _ _ _ _ (by first | omega | (simp only [List.length_append, List.length_cons, List.length_nil]; omega))) rfl (by simp [AV.onlys, AV.only]) (by simp [AV.only, AV.onlys]) rfl rfl rfl (cO_free _ _ _ _) (cO_free _ _ _ _) rfl ⟨rfl, trivial⟩ (fun t h => by injection h with h; subst h; exact tl hn rfl) ?_
 | refine RunsL.step tabOk hn rfl ?_
 | refine RunsL.nil ?_
 | refine Runs.toRegion 30 rfl ?_
 | (refine RunsL.pe hn rfl rfl rfl ?_; first
 | refine ⟨_, pu_nilCheckP rfl, ?_⟩)
 | (refine Runs.ctls 30 rfl ?_; first | refine Runs.cond_t rfl ?_ | refine Runs.cond_f rfl ?_ | ((first | refine Runs.cond_yes rfl ?_ ?_ | refine Runs.cond_nno rfl ?_ ?_); · first | omega | rfl | assumption | (simp only [List.length_map]; omega)) | ((first | refine Runs.cond_no rfl ?_ ?_ | refine Runs.cond_nyes rfl ?_ ?_); · first | omega | rfl | assumption | (simp only [List.length_map]; omega)) | refine Runs.cond_dec rfl (fun h => ?_) (fun h => ?_) | refine Runs.cond_ndec rfl (fun h => ?_) (fun h => ?_) | refine Runs.cond_nb rfl (fun h => ?_) (fun h => ?_) | refine Runs.cond_b rfl (fun h => ?_) (fun h => ?_) | refine Runs.ret (ends_ro hm rfl rfl ?_) | exact Runs.ret (ends_cellR hm rfl rfl rfl (Nat.le_of_ble_eq_true rfl) rfl rfl))
 | refine op_box rfl (tl hn rfl) ?_
 | refine op_storeF rfl rfl rfl rfl (Nat.le_of_ble_eq_true rfl) ?_
 | refine op_alloc (tl hn rfl) ?_
 | refine op_storeN rfl rfl rfl rfl (Nat.le_of_ble_eq_true rfl) ?_
 | (refine RunsL.pe hn rfl rfl rfl ?_; first
 | refine ⟨_, pu_add rfl rfl (by omega), ?_⟩
 | refine ⟨_, pu_indexAddr_map rfl rfl (by omega) (by assumption), ?_⟩
 | refine ⟨_, pu_sub rfl rfl (by omega), ?_⟩
 | refine ⟨_, pu_pick_b rfl rfl rfl, ?_⟩
 | refine ⟨_, pu_mul rfl rfl (by omega), ?_⟩
 | refine ⟨_, pu_build rfl rfl rfl rfl rfl rfl, ?_⟩))
    refine Runs.ctls 30 rfl ?_
    exact Runs.endA (t := 0) rfl (cO_app rfl) (by simp [cO]) (cO_free _ _ _ _) rfl
theorem fixed_am (d : Des) (s : Int) (en : List Int) (x : Rul) (hk : x.kind = 3) : AM Try.prog 60 (cO d s en []) [0] [.obj 0 0, .ro (.agg (rulR x))] (cO d s en (bodyI x s en)) (.tup []) := by
  refine am_enter Try.func60 rfl _ Try.ntmps60 (by simp) (by simp) fun C gs hn => ?_
  repeat' (first
 | refine op_callP 2 (add_am d s en _ _ _ _ (by first | omega | (simp only [List.length_append, List.length_cons, List.length_nil]; omega))) rfl (by simp [AV.onlys, AV.only]) (by simp [AV.only, AV.onlys]) rfl rfl rfl (cO_free _ _ _ _) (cO_free _ _ _ _) rfl ⟨rfl, trivial⟩ (fun t h => by injection h with h; subst h; exact tl hn rfl) ?_
 | refine RunsL.step tabOk hn rfl ?_
 | refine RunsL.nil ?_
 | refine Runs.toRegion 30 rfl ?_
 | (refine RunsL.pe hn rfl rfl rfl ?_; first
 | refine ⟨_, pu_nilCheckP rfl, ?_⟩)
 | (refine Runs.ctls 30 rfl ?_; first | refine Runs.cond_t rfl ?_ | refine Runs.cond_f rfl ?_ | ((first | refine Runs.cond_yes rfl ?_ ?_ | refine Runs.cond_nno rfl ?_ ?_); · first | omega | rfl | assumption | (simp only [List.length_map]; omega)) | ((first | refine Runs.cond_no rfl ?_ ?_ | refine Runs.cond_nyes rfl ?_ ?_); · first | omega | rfl | assumption | (simp only [List.length_map]; omega)) | refine Runs.cond_dec rfl (fun h => ?_) (fun h => ?_) | refine Runs.cond_ndec rfl (fun h => ?_) (fun h => ?_) | refine Runs.cond_nb rfl (fun h => ?_) (fun h => ?_) | refine Runs.cond_b rfl (fun h => ?_) (fun h => ?_) | refine Runs.ret (ends_ro hm rfl rfl ?_) | exact Runs.ret (ends_cellR hm rfl rfl rfl (Nat.le_of_ble_eq_true rfl) rfl rfl))
 | refine op_box rfl (tl hn rfl) ?_
 | refine op_storeF rfl rfl rfl rfl (Nat.le_of_ble_eq_true rfl) ?_
 | refine op_alloc (tl hn rfl) ?_
 | refine op_storeN rfl rfl rfl rfl (Nat.le_of_ble_eq_true rfl) ?_
 | (refine RunsL.pe hn rfl rfl rfl ?_; first
 | refine ⟨_, pu_add rfl rfl (by omega), ?_⟩
 | refine ⟨_, pu_indexAddr_map rfl rfl (by omega) (by assumption), ?_⟩
 | refine ⟨_, pu_sub rfl rfl (by omega), ?_⟩
 | refine ⟨_, pu_pick_b rfl rfl rfl, ?_⟩
 | refine ⟨_, pu_mul rfl rfl (by omega), ?_⟩
 | refine ⟨_, pu_build rfl rfl rfl rfl rfl rfl, ?_⟩))
  refine Runs.ctls 30 rfl ?_
  refine Runs.endA (t := 0) rfl (cO_app ?_) (by simp [cO]) (cO_free _ _ _ _) rfl
  simp [bodyI, hk]
theorem terminated_am (d : Des) (s : Int) (en : List Int) (x : Rul) (hk : x.kind = 10) (hb : x.bytes.length = 1) : AM Try.prog 67 (cO d s en []) [0] [.obj 0 0, .ro (.agg (rulR x))] (cO d s en (bodyI x s en)) (.tup []) := by
  refine am_enter Try.func67 rfl _ Try.ntmps67 (by simp) (by simp) fun C gs hn => ?_
  obtain ⟨b, hx⟩ : ∃ b, x.bytes[(0 : Int).toNat]? = some b := ⟨_, List.getElem?_eq_getElem (by simp; omega)⟩
  have hx' : x.bytes[0]? = some b := hx
  have hle : (x.bytes.map fun z => [RV.u8 z]).length = x.bytes.length := List.length_map ..
  repeat' (first
 | refine op_callP 2 (add_am d s en _ _ _ _ (by first | omega | (simp only [List.length_append, List.length_cons, List.length_nil]; omega))) rfl (by simp [AV.onlys, AV.only]) (by simp [AV.only, AV.onlys]) rfl rfl rfl (cO_free _ _ _ _) (cO_free _ _ _ _) rfl ⟨rfl, trivial⟩ (fun t h => by injection h with h; subst h; exact tl hn rfl) ?_
 | refine RunsL.step tabOk hn rfl ?_
 | refine RunsL.nil ?_
 | refine Runs.toRegion 30 rfl ?_
 | (refine RunsL.pe hn rfl rfl rfl ?_; first
 | refine ⟨_, pu_nilCheckP rfl, ?_⟩
 | refine ⟨_, pu_ofU8 rfl, ?_⟩)
 | (refine Runs.ctls 30 rfl ?_; first | refine Runs.cond_t rfl ?_ | refine Runs.cond_f rfl ?_ | ((first | refine Runs.cond_yes rfl ?_ ?_ | refine Runs.cond_nno rfl ?_ ?_); · first | omega | rfl | assumption | (simp only [List.length_map]; omega)) | ((first | refine Runs.cond_no rfl ?_ ?_ | refine Runs.cond_nyes rfl ?_ ?_); · first | omega | rfl | assumption | (simp only [List.length_map]; omega)) | refine Runs.cond_dec rfl (fun h => ?_) (fun h => ?_) | refine Runs.cond_ndec rfl (fun h => ?_) (fun h => ?_) | refine Runs.cond_nb rfl (fun h => ?_) (fun h => ?_) | refine Runs.cond_b rfl (fun h => ?_) (fun h => ?_) | refine Runs.ret (ends_ro hm rfl rfl ?_) | exact Runs.ret (ends_cellR hm rfl rfl rfl (Nat.le_of_ble_eq_true rfl) rfl rfl))
 | refine op_box rfl (tl hn rfl) ?_
 | refine op_storeF rfl rfl rfl rfl (Nat.le_of_ble_eq_true rfl) ?_
 | refine op_alloc (tl hn rfl) ?_
 | refine op_storeN rfl rfl rfl rfl (Nat.le_of_ble_eq_true rfl) ?_
 | (refine RunsL.pe hn rfl rfl rfl ?_; first
 | refine ⟨_, pu_add rfl rfl (by omega), ?_⟩
 | refine ⟨_, pu_indexAddr_map rfl rfl (by omega) (by assumption), ?_⟩
 | refine ⟨_, pu_sub rfl rfl (by omega), ?_⟩
 | refine ⟨_, pu_pick_b rfl rfl rfl, ?_⟩
 | refine ⟨_, pu_mul rfl rfl (by omega), ?_⟩
 | refine ⟨_, pu_build rfl rfl rfl rfl rfl rfl, ?_⟩))
  refine Runs.ctls 30 rfl ?_
  refine Runs.endA (t := 0) rfl (cO_app ?_) (by simp [cO]) (cO_free _ _ _ _) rfl
  simp [bodyI, hk, hx']
set_option maxHeartbeats 4000000 in
theorem sized_am (d : Des) (s : Int) (en : List Int) (x : Rul) (hk : x.kind = 4) (hr : RuleOkC d x en) : AM Try.prog 61 (cO d s en []) [0] [.obj 0 0, .ro (.agg (rulR x))] (cO d s en (bodyI x s en)) (.tup []) := by
  refine am_enter Try.func61 rfl _ Try.ntmps61 (by simp) (by simp) fun C gs hn => ?_
  obtain ⟨f5, f7, f8, f4⟩ := item_fields hr.1
  have hlk : (x.kids.map fun z => [RV.int z]).length = x.kids.length := List.length_map ..
  obtain ⟨h0, h1, h2⟩ := kid0 hr (by have := f4 hk; omega)
  repeat' (first
 | refine op_callP 2 (add_am d s en _ _ _ _ (by first | omega | (simp only [List.length_append, List.length_cons, List.length_nil]; omega))) rfl (by simp [AV.onlys, AV.only]) (by simp [AV.only, AV.onlys]) rfl rfl rfl (cO_free _ _ _ _) (cO_free _ _ _ _) rfl ⟨rfl, trivial⟩ (fun t h => by injection h with h; subst h; exact tl hn rfl) ?_
 | refine op_callP 2 (call_am d s en _ _ (by first | omega | (simp only [List.length_append, List.length_cons, List.length_nil]; omega)) (by omega) (by omega)) rfl (by simp [AV.onlys, AV.only]) (by simp [AV.only, AV.onlys]) rfl rfl rfl (cO_free _ _ _ _) (cO_free _ _ _ _) rfl ⟨rfl, trivial⟩ (fun t h => by injection h with h; subst h; exact tl hn rfl) ?_
 | refine RunsL.step tabOk hn rfl ?_
 | refine RunsL.nil ?_
 | refine Runs.toRegion 30 rfl ?_
 | (refine RunsL.pe hn rfl rfl rfl ?_; first
 | refine ⟨_, pu_nilCheckP rfl, ?_⟩)
 | (refine Runs.ctls 30 rfl ?_; first | refine Runs.cond_t rfl ?_ | refine Runs.cond_f rfl ?_ | ((first | refine Runs.cond_yes rfl ?_ ?_ | refine Runs.cond_nno rfl ?_ ?_); · first | omega | rfl | assumption | (simp only [List.length_map]; omega)) | ((first | refine Runs.cond_no rfl ?_ ?_ | refine Runs.cond_nyes rfl ?_ ?_); · first | omega | rfl | assumption | (simp only [List.length_map]; omega)) | refine Runs.cond_dec rfl (fun h => ?_) (fun h => ?_) | refine Runs.cond_ndec rfl (fun h => ?_) (fun h => ?_) | refine Runs.cond_nb rfl (fun h => ?_) (fun h => ?_) | refine Runs.cond_b rfl (fun h => ?_) (fun h => ?_) | refine Runs.ret (ends_ro hm rfl rfl ?_) | exact Runs.ret (ends_cellR hm rfl rfl rfl (Nat.le_of_ble_eq_true rfl) rfl rfl))
 | refine op_box rfl (tl hn rfl) ?_
 | refine op_storeF rfl rfl rfl rfl (Nat.le_of_ble_eq_true rfl) ?_
 | refine op_alloc (tl hn rfl) ?_
 | refine op_storeN rfl rfl rfl rfl (Nat.le_of_ble_eq_true rfl) ?_
 | (refine RunsL.pe hn rfl rfl rfl ?_; first
 | refine ⟨_, pu_add rfl rfl (by omega), ?_⟩
 | refine ⟨_, pu_indexAddr_map rfl rfl (by omega) (by assumption), ?_⟩
 | refine ⟨_, pu_sub rfl rfl (by omega), ?_⟩
 | refine ⟨_, pu_pick_b rfl rfl rfl, ?_⟩
 | refine ⟨_, pu_mul rfl rfl (by omega), ?_⟩
 | refine ⟨_, pu_build rfl rfl rfl rfl rfl rfl, ?_⟩))
  refine Runs.ctls 30 rfl ?_
  refine Runs.endA (t := 0) rfl (cO_app ?_) (by simp [cO]) (cO_free _ _ _ _) rfl
  simp [bodyI, hk]
set_option maxHeartbeats 4000000 in
theorem option_am (d : Des) (s : Int) (en : List Int) (x : Rul) (hk : x.kind = 8) (hr : RuleOkC d x en) : AM Try.prog 65 (cO d s en []) [0] [.obj 0 0, .ro (.agg (rulR x))] (cO d s en (bodyI x s en)) (.tup []) := by
  refine am_enter Try.func65 rfl _ Try.ntmps65 (by simp) (by simp) fun C gs hn => ?_
  obtain ⟨f5, f7, f8, f4⟩ := item_fields hr.1
  have hlk : (x.kids.map fun z => [RV.int z]).length = x.kids.length := List.length_map ..
  obtain ⟨h0, h1, h2⟩ := kid0 hr (by have := f8 (.inl hk); omega)
  repeat' (first
 | refine op_callP 2 (add_am d s en _ _ _ _ (by first | omega | (simp only [List.length_append, List.length_cons, List.length_nil]; omega))) rfl (by simp [AV.onlys, AV.only]) (by simp [AV.only, AV.onlys]) rfl rfl rfl (cO_free _ _ _ _) (cO_free _ _ _ _) rfl ⟨rfl, trivial⟩ (fun t h => by injection h with h; subst h; exact tl hn rfl) ?_
 | refine op_callP 2 (call_am d s en _ _ (by first | omega | (simp only [List.length_append, List.length_cons, List.length_nil]; omega)) (by omega) (by omega)) rfl (by simp [AV.onlys, AV.only]) (by simp [AV.only, AV.onlys]) rfl rfl rfl (cO_free _ _ _ _) (cO_free _ _ _ _) rfl ⟨rfl, trivial⟩ (fun t h => by injection h with h; subst h; exact tl hn rfl) ?_
 | (refine RunsL.pe hn rfl rfl rfl ?_; first
 | refine ⟨_, pu_callL (here_ac d s en _) (.cons (lend_c rfl) .nil), ?_⟩
 | refine ⟨_, pu_addW rfl rfl, ?_⟩)
 | refine RunsL.step tabOk hn rfl ?_
 | refine RunsL.nil ?_
 | refine Runs.toRegion 30 rfl ?_
 | (refine RunsL.pe hn rfl rfl rfl ?_; first
 | refine ⟨_, pu_nilCheckP rfl, ?_⟩)
 | (refine Runs.ctls 30 rfl ?_; first | refine Runs.cond_t rfl ?_ | refine Runs.cond_f rfl ?_ | ((first | refine Runs.cond_yes rfl ?_ ?_ | refine Runs.cond_nno rfl ?_ ?_); · first | omega | rfl | assumption | (simp only [List.length_map]; omega)) | ((first | refine Runs.cond_no rfl ?_ ?_ | refine Runs.cond_nyes rfl ?_ ?_); · first | omega | rfl | assumption | (simp only [List.length_map]; omega)) | refine Runs.cond_dec rfl (fun h => ?_) (fun h => ?_) | refine Runs.cond_ndec rfl (fun h => ?_) (fun h => ?_) | refine Runs.cond_nb rfl (fun h => ?_) (fun h => ?_) | refine Runs.cond_b rfl (fun h => ?_) (fun h => ?_) | refine Runs.ret (ends_ro hm rfl rfl ?_) | exact Runs.ret (ends_cellR hm rfl rfl rfl (Nat.le_of_ble_eq_true rfl) rfl rfl))
 | refine op_box rfl (tl hn rfl) ?_
 | refine op_storeF rfl rfl rfl rfl (Nat.le_of_ble_eq_true rfl) ?_
 | refine op_alloc (tl hn rfl) ?_
 | refine op_storeN rfl rfl rfl rfl (Nat.le_of_ble_eq_true rfl) ?_
 | (refine RunsL.pe hn rfl rfl rfl ?_; first
 | refine ⟨_, pu_add rfl rfl (by omega), ?_⟩
 | refine ⟨_, pu_indexAddr_map rfl rfl (by omega) (by assumption), ?_⟩
 | refine ⟨_, pu_sub rfl rfl (by omega), ?_⟩
 | refine ⟨_, pu_pick_b rfl rfl rfl, ?_⟩
 | refine ⟨_, pu_mul rfl rfl (by omega), ?_⟩
 | refine ⟨_, pu_build rfl rfl rfl rfl rfl rfl, ?_⟩))
  refine Runs.ctls 30 rfl ?_
  refine Runs.endA (t := 0) rfl (cO_app ?_) (by simp [cO]) (cO_free _ _ _ _) rfl
  have := w64_add (s + 0) 2
  simp [bodyI, hk]
  simpa using this
set_option maxHeartbeats 4000000 in
theorem checked_am (d : Des) (s : Int) (en : List Int) (x : Rul) (hk : x.kind = 9) (hr : RuleOkC d x en) : AM Try.prog 66 (cO d s en []) [0] [.obj 0 0, .ro (.agg (rulR x))] (cO d s en (bodyI x s en)) (.tup []) := by
  refine am_enter Try.func66 rfl _ Try.ntmps66 (by simp) (by simp) fun C gs hn => ?_
  obtain ⟨f5, f7, f8, f4⟩ := item_fields hr.1
  have hlk : (x.kids.map fun z => [RV.int z]).length = x.kids.length := List.length_map ..
  obtain ⟨h0, h1, h2⟩ := kid0 hr (by have := f8 (.inr hk); omega)
  repeat' (first
 | refine op_callP 2 (add_am d s en _ _ _ _ (by first | omega | (simp only [List.length_append, List.length_cons, List.length_nil]; omega))) rfl (by simp [AV.onlys, AV.only]) (by simp [AV.only, AV.onlys]) rfl rfl rfl (cO_free _ _ _ _) (cO_free _ _ _ _) rfl ⟨rfl, trivial⟩ (fun t h => by injection h with h; subst h; exact tl hn rfl) ?_
 | refine op_callP 2 (call_am d s en _ _ (by first | omega | (simp only [List.length_append, List.length_cons, List.length_nil]; omega)) (by omega) (by omega)) rfl (by simp [AV.onlys, AV.only]) (by simp [AV.only, AV.onlys]) rfl rfl rfl (cO_free _ _ _ _) (cO_free _ _ _ _) rfl ⟨rfl, trivial⟩ (fun t h => by injection h with h; subst h; exact tl hn rfl) ?_
 | refine RunsL.step tabOk hn rfl ?_
 | refine RunsL.nil ?_
 | refine Runs.toRegion 30 rfl ?_
 | (refine RunsL.pe hn rfl rfl rfl ?_; first
 | refine ⟨_, pu_nilCheckP rfl, ?_⟩)
 | (refine Runs.ctls 30 rfl ?_; first | refine Runs.cond_t rfl ?_ | refine Runs.cond_f rfl ?_ | ((first | refine Runs.cond_yes rfl ?_ ?_ | refine Runs.cond_nno rfl ?_ ?_); · first | omega | rfl | assumption | (simp only [List.length_map]; omega)) | ((first | refine Runs.cond_no rfl ?_ ?_ | refine Runs.cond_nyes rfl ?_ ?_); · first | omega | rfl | assumption | (simp only [List.length_map]; omega)) | refine Runs.cond_dec rfl (fun h => ?_) (fun h => ?_) | refine Runs.cond_ndec rfl (fun h => ?_) (fun h => ?_) | refine Runs.cond_nb rfl (fun h => ?_) (fun h => ?_) | refine Runs.cond_b rfl (fun h => ?_) (fun h => ?_) | refine Runs.ret (ends_ro hm rfl rfl ?_) | exact Runs.ret (ends_cellR hm rfl rfl rfl (Nat.le_of_ble_eq_true rfl) rfl rfl))
 | refine op_box rfl (tl hn rfl) ?_
 | refine op_storeF rfl rfl rfl rfl (Nat.le_of_ble_eq_true rfl) ?_
 | refine op_alloc (tl hn rfl) ?_
 | refine op_storeN rfl rfl rfl rfl (Nat.le_of_ble_eq_true rfl) ?_
 | (refine RunsL.pe hn rfl rfl rfl ?_; first
 | refine ⟨_, pu_add rfl rfl (by omega), ?_⟩
 | refine ⟨_, pu_indexAddr_map rfl rfl (by omega) (by assumption), ?_⟩
 | refine ⟨_, pu_sub rfl rfl (by omega), ?_⟩
 | refine ⟨_, pu_pick_b rfl rfl rfl, ?_⟩
 | refine ⟨_, pu_mul rfl rfl (by omega), ?_⟩
 | refine ⟨_, pu_build rfl rfl rfl rfl rfl rfl, ?_⟩))
  refine Runs.ctls 30 rfl ?_
  refine Runs.endA (t := 0) rfl (cO_app ?_) (by simp [cO]) (cO_free _ _ _ _) rfl
  simp [bodyI, hk]
set_option maxHeartbeats 8000000 in
theorem array_am (d : Des) (s : Int) (en : List Int) (x : Rul) (hk : x.kind = 5) (hr : RuleOkC d x en) : AM Try.prog 62 (cO d s en []) [0] [.obj 0 0, .ro (.agg (rulR x))] (cO d s en (bodyI x s en)) (.tup []) := by
  refine am_enter Try.func62 rfl _ Try.ntmps62 (by simp) (by simp) fun C gs hn => ?_
  obtain ⟨f5, f7, f8, f4⟩ := item_fields hr.1
  have hlk : (x.kids.map fun z => [RV.int z]).length = x.kids.length := List.length_map ..
  have hk2 := f5 hk
  obtain ⟨h0, h1, h2⟩ := kid0 hr (by omega)
  obtain ⟨z, hz⟩ : ∃ z, x.kids[(1 : Int).toNat]? = some z := ⟨_, List.getElem?_eq_getElem (by simp; omega)⟩
  have hz' : x.kids[1]? = some z := hz
  obtain ⟨h3, h4⟩ := hr.2 1 z hz'
  repeat' (first
 | refine op_callP 2 (add_am d s en _ _ _ _ (by first | omega | (simp only [List.length_append, List.length_cons, List.length_nil]; omega))) rfl (by simp [AV.onlys, AV.only]) (by simp [AV.only, AV.onlys]) rfl rfl rfl (cO_free _ _ _ _) (cO_free _ _ _ _) rfl ⟨rfl, trivial⟩ (fun t h => by injection h with h; subst h; exact tl hn rfl) ?_
 | refine op_callP 2 (call_am d s en _ _ (by first | omega | (simp only [List.length_append, List.length_cons, List.length_nil]; omega)) (by omega) (by omega)) rfl (by simp [AV.onlys, AV.only]) (by simp [AV.only, AV.onlys]) rfl rfl rfl (cO_free _ _ _ _) (cO_free _ _ _ _) rfl ⟨rfl, trivial⟩ (fun t h => by injection h with h; subst h; exact tl hn rfl) ?_
 | (refine RunsL.pe hn rfl rfl rfl ?_; first
 | refine ⟨_, pu_callL (here_ac d s en _) (.cons (lend_c rfl) .nil), ?_⟩
 | refine ⟨_, pu_addW rfl rfl, ?_⟩)
 | refine RunsL.step tabOk hn rfl ?_
 | refine RunsL.nil ?_
 | refine Runs.toRegion 30 rfl ?_
 | (refine RunsL.pe hn rfl rfl rfl ?_; first
 | refine ⟨_, pu_nilCheckP rfl, ?_⟩)
 | (refine Runs.ctls 30 rfl ?_; first | refine Runs.cond_t rfl ?_ | refine Runs.cond_f rfl ?_ | ((first | refine Runs.cond_yes rfl ?_ ?_ | refine Runs.cond_nno rfl ?_ ?_); · first | omega | rfl | assumption | (simp only [List.length_map]; omega)) | ((first | refine Runs.cond_no rfl ?_ ?_ | refine Runs.cond_nyes rfl ?_ ?_); · first | omega | rfl | assumption | (simp only [List.length_map]; omega)) | refine Runs.cond_dec rfl (fun h => ?_) (fun h => ?_) | refine Runs.cond_ndec rfl (fun h => ?_) (fun h => ?_) | refine Runs.cond_nb rfl (fun h => ?_) (fun h => ?_) | refine Runs.cond_b rfl (fun h => ?_) (fun h => ?_) | refine Runs.ret (ends_ro hm rfl rfl ?_) | exact Runs.ret (ends_cellR hm rfl rfl rfl (Nat.le_of_ble_eq_true rfl) rfl rfl))
 | refine op_box rfl (tl hn rfl) ?_
 | refine op_storeF rfl rfl rfl rfl (Nat.le_of_ble_eq_true rfl) ?_
 | refine op_alloc (tl hn rfl) ?_
 | refine op_storeN rfl rfl rfl rfl (Nat.le_of_ble_eq_true rfl) ?_
 | (refine RunsL.pe hn rfl rfl rfl ?_; first
 | refine ⟨_, pu_add rfl rfl (by omega), ?_⟩
 | refine ⟨_, pu_indexAddr_map rfl rfl (by omega) (by assumption), ?_⟩
 | refine ⟨_, pu_sub rfl rfl (by omega), ?_⟩
 | refine ⟨_, pu_pick_b rfl rfl rfl, ?_⟩
 | refine ⟨_, pu_mul rfl rfl (by omega), ?_⟩
 | refine ⟨_, pu_build rfl rfl rfl rfl rfl rfl, ?_⟩))
  refine Runs.ctls 30 rfl ?_
  refine Runs.endA (t := 0) rfl (cO_app ?_) (by simp [cO]) (cO_free _ _ _ _) rfl
  have := w64_add (s + 3) 3
  simp [bodyI, hk, hz']
  simpa [Int.add_assoc] using this
end Go.Proofs.Ytdikinkihnepaaa
/- The code of a rule: the compiler's methods that loop. -/
namespace Go.Proofs.Ytdikinkihnepaaa
set_option linter.unusedSimpArgs false
set_option linter.unusedVariables false
open Go.RowKit
open AV (Mem Keeps)
set_option maxRecDepth 100000
def conI (l : List UInt8) : List Ins := l.map fun b => ⟨2, (b.toNat : Int), 0⟩
theorem conI_next {l : List UInt8} {j : Nat} {b : UInt8} (h : l[j]? = some b) : conI (l.take (j + 1)) = conI (l.take j) ++ [⟨2, (b.toNat : Int), 0⟩] := by
  unfold conI
  rw [List.take_add_one, h, List.map_append]
  rfl
theorem conI_len (l : List UInt8) (j : Nat) : (conI (l.take j)).length ≤ j := by unfold conI; rw [List.length_map, List.length_take]; omega
def seqC (en : List Int) (l : List Int) : List Ins := l.map (callI en)
theorem seqC_next {en l : List Int} {j : Nat} {b : Int} (h : l[j]? = some b) : seqC en (l.take (j + 1)) = seqC en (l.take j) ++ [callI en b] := by
  unfold seqC
  rw [List.take_add_one, h, List.map_append]
  rfl
theorem seqC_len (en l : List Int) (j : Nat) : (seqC en (l.take j)).length ≤ j := by unfold seqC; rw [List.length_map, List.length_take]; omega
set_option maxHeartbeats 4000000 in
theorem constant_am (d : Des) (s : Int) (en : List Int) (x : Rul) (hk : x.kind = 2) (hl : x.bytes.length ≤ 1048576) : AM Try.prog 59 (cO d s en []) [0] [.obj 0 0, .ro (.agg (rulR x))] (cO d s en (bodyI x s en)) (.tup []) := by
  refine am_enter Try.func59 rfl _ Try.ntmps59 (by simp) (by simp) fun C gs hn => ?_
  have hle : (x.bytes.map fun z => [RV.u8 z]).length = x.bytes.length := List.length_map ..
  repeat' (first
 | refine RunsL.step tabOk hn rfl ?_
 | refine RunsL.nil ?_
 | refine Runs.toRegion 30 rfl ?_
 | (refine Runs.ctls 30 rfl ?_; first | refine Runs.cond_t rfl ?_ | refine Runs.cond_f rfl ?_ | ((first | refine Runs.cond_yes rfl ?_ ?_ | refine Runs.cond_nno rfl ?_ ?_); · first | omega | rfl | assumption | (simp only [List.length_map]; omega)) | ((first | refine Runs.cond_no rfl ?_ ?_ | refine Runs.cond_nyes rfl ?_ ?_); · first | omega | rfl | assumption | (simp only [List.length_map]; omega)) | refine Runs.cond_dec rfl (fun h => ?_) (fun h => ?_) | refine Runs.cond_ndec rfl (fun h => ?_) (fun h => ?_) | refine Runs.cond_nb rfl (fun h => ?_) (fun h => ?_) | refine Runs.cond_b rfl (fun h => ?_) (fun h => ?_) | refine Runs.ret (ends_ro hm rfl rfl ?_) | exact Runs.ret (ends_cellR hm rfl rfl rfl (Nat.le_of_ble_eq_true rfl) rfl rfl))
 | refine op_box rfl (tl hn rfl) ?_
 | refine op_storeF rfl rfl rfl rfl (Nat.le_of_ble_eq_true rfl) ?_
 | refine op_alloc (tl hn rfl) ?_
 | refine op_storeN rfl rfl rfl rfl (Nat.le_of_ble_eq_true rfl) ?_
 | (refine RunsL.pe hn rfl rfl rfl ?_; first
 | refine ⟨_, pu_add rfl rfl (by omega), ?_⟩
 | refine ⟨_, pu_indexAddr_map rfl rfl (by omega) (by assumption), ?_⟩
 | refine ⟨_, pu_sub rfl rfl (by omega), ?_⟩
 | refine ⟨_, pu_pick_b rfl rfl rfl, ?_⟩
 | refine ⟨_, pu_mul rfl rfl (by omega), ?_⟩
 | refine ⟨_, pu_build rfl rfl rfl rfl rfl rfl, ?_⟩))
  refine Runs.loopN 30 rfl (fun j => [(0, .pin 0 0 (gs 0)), (7, .ro (bytesR x.bytes)), (8, .int (x.bytes.length : Int)), (9, .int (j : Int))]) (fun j => cO d s en (conI (x.bytes.take j)) ++ [⟨46, 0, (rulR x).map .ro⟩]) (fun _ => True) x.bytes.length 0 (Nat.zero_le _) trivial ⟨rfl, rfl, by simp [look], rfl, trivial⟩ rfl fun j hj _ next => ?_
  have hcl := conI_len x.bytes j
  by_cases hlt : j < x.bytes.length
  · obtain ⟨b, hb⟩ : ∃ b, x.bytes[(j : Int).toNat]? = some b := ⟨_, List.getElem?_eq_getElem hlt⟩
    have hb' : x.bytes[j]? = some b := hb
    repeat' (first
 | refine op_callP 2 (add_am d s en _ _ _ _ (by first | omega | (simp only [List.length_append, List.length_cons, List.length_nil]; omega))) rfl (by simp [AV.onlys, AV.only]) (by simp [AV.only, AV.onlys]) rfl rfl rfl (cO_free _ _ _ _) (cO_free _ _ _ _) rfl ⟨rfl, trivial⟩ (fun t h => by injection h with h; subst h; exact tl hn rfl) ?_
 | refine RunsL.step tabOk hn rfl ?_
 | refine RunsL.nil ?_
 | refine Runs.toRegion 30 rfl ?_
 | (refine RunsL.pe hn rfl rfl rfl ?_; first
 | refine ⟨_, pu_ofU8 rfl, ?_⟩)
 | (refine Runs.ctls 30 rfl ?_; first | refine Runs.cond_t rfl ?_ | refine Runs.cond_f rfl ?_ | ((first | refine Runs.cond_yes rfl ?_ ?_ | refine Runs.cond_nno rfl ?_ ?_); · first | omega | rfl | assumption | (simp only [List.length_map]; omega)) | ((first | refine Runs.cond_no rfl ?_ ?_ | refine Runs.cond_nyes rfl ?_ ?_); · first | omega | rfl | assumption | (simp only [List.length_map]; omega)) | refine Runs.cond_dec rfl (fun h => ?_) (fun h => ?_) | refine Runs.cond_ndec rfl (fun h => ?_) (fun h => ?_) | refine Runs.cond_nb rfl (fun h => ?_) (fun h => ?_) | refine Runs.cond_b rfl (fun h => ?_) (fun h => ?_) | refine Runs.ret (ends_ro hm rfl rfl ?_) | exact Runs.ret (ends_cellR hm rfl rfl rfl (Nat.le_of_ble_eq_true rfl) rfl rfl))
 | refine op_box rfl (tl hn rfl) ?_
 | refine op_storeF rfl rfl rfl rfl (Nat.le_of_ble_eq_true rfl) ?_
 | refine op_alloc (tl hn rfl) ?_
 | refine op_storeN rfl rfl rfl rfl (Nat.le_of_ble_eq_true rfl) ?_
 | (refine RunsL.pe hn rfl rfl rfl ?_; first
 | refine ⟨_, pu_add rfl rfl (by omega), ?_⟩
 | refine ⟨_, pu_indexAddr_map rfl rfl (by omega) (by assumption), ?_⟩
 | refine ⟨_, pu_sub rfl rfl (by omega), ?_⟩
 | refine ⟨_, pu_pick_b rfl rfl rfl, ?_⟩
 | refine ⟨_, pu_mul rfl rfl (by omega), ?_⟩
 | refine ⟨_, pu_build rfl rfl rfl rfl rfl rfl, ?_⟩))
    exact next _ _ ⟨rfl, rfl, rfl, rfl, trivial⟩ hlt trivial (cO_app (conI_next hb'))
  · obtain rfl : j = x.bytes.length := by omega
    repeat' (first
 | refine RunsL.step tabOk hn rfl ?_
 | refine RunsL.nil ?_
 | refine Runs.toRegion 30 rfl ?_
 | (refine Runs.ctls 30 rfl ?_; first | refine Runs.cond_t rfl ?_ | refine Runs.cond_f rfl ?_ | ((first | refine Runs.cond_yes rfl ?_ ?_ | refine Runs.cond_nno rfl ?_ ?_); · first | omega | rfl | assumption | (simp only [List.length_map]; omega)) | ((first | refine Runs.cond_no rfl ?_ ?_ | refine Runs.cond_nyes rfl ?_ ?_); · first | omega | rfl | assumption | (simp only [List.length_map]; omega)) | refine Runs.cond_dec rfl (fun h => ?_) (fun h => ?_) | refine Runs.cond_ndec rfl (fun h => ?_) (fun h => ?_) | refine Runs.cond_nb rfl (fun h => ?_) (fun h => ?_) | refine Runs.cond_b rfl (fun h => ?_) (fun h => ?_) | refine Runs.ret (ends_ro hm rfl rfl ?_) | exact Runs.ret (ends_cellR hm rfl rfl rfl (Nat.le_of_ble_eq_true rfl) rfl rfl))
 | refine op_box rfl (tl hn rfl) ?_
 | refine op_storeF rfl rfl rfl rfl (Nat.le_of_ble_eq_true rfl) ?_
 | refine op_alloc (tl hn rfl) ?_
 | refine op_storeN rfl rfl rfl rfl (Nat.le_of_ble_eq_true rfl) ?_
 | (refine RunsL.pe hn rfl rfl rfl ?_; first
 | refine ⟨_, pu_add rfl rfl (by omega), ?_⟩
 | refine ⟨_, pu_indexAddr_map rfl rfl (by omega) (by assumption), ?_⟩
 | refine ⟨_, pu_sub rfl rfl (by omega), ?_⟩
 | refine ⟨_, pu_pick_b rfl rfl rfl, ?_⟩
 | refine ⟨_, pu_mul rfl rfl (by omega), ?_⟩
 | refine ⟨_, pu_build rfl rfl rfl rfl rfl rfl, ?_⟩))
    refine Runs.ctls 30 rfl ?_
    refine Runs.endA (t := 0) rfl (cO_app ?_) (by simp [cO]) (cO_free _ _ _ _) rfl
    rw [List.take_length]
    simp [bodyI, hk, conI]
set_option maxHeartbeats 4000000 in
theorem sequence_am (d : Des) (s : Int) (en : List Int) (x : Rul) (hk : x.kind = 6) (hr : RuleOkC d x en) (hl : x.kids.length ≤ 1048576) : AM Try.prog 63 (cO d s en []) [0] [.obj 0 0, .ro (.agg (rulR x))] (cO d s en (bodyI x s en)) (.tup []) := by
  refine am_enter Try.func63 rfl _ Try.ntmps63 (by simp) (by simp) fun C gs hn => ?_
  have hle : (x.kids.map fun z => [RV.int z]).length = x.kids.length := List.length_map ..
  repeat' (first
 | refine RunsL.step tabOk hn rfl ?_
 | refine RunsL.nil ?_
 | refine Runs.toRegion 30 rfl ?_
 | (refine Runs.ctls 30 rfl ?_; first | refine Runs.cond_t rfl ?_ | refine Runs.cond_f rfl ?_ | ((first | refine Runs.cond_yes rfl ?_ ?_ | refine Runs.cond_nno rfl ?_ ?_); · first | omega | rfl | assumption | (simp only [List.length_map]; omega)) | ((first | refine Runs.cond_no rfl ?_ ?_ | refine Runs.cond_nyes rfl ?_ ?_); · first | omega | rfl | assumption | (simp only [List.length_map]; omega)) | refine Runs.cond_dec rfl (fun h => ?_) (fun h => ?_) | refine Runs.cond_ndec rfl (fun h => ?_) (fun h => ?_) | refine Runs.cond_nb rfl (fun h => ?_) (fun h => ?_) | refine Runs.cond_b rfl (fun h => ?_) (fun h => ?_) | refine Runs.ret (ends_ro hm rfl rfl ?_) | exact Runs.ret (ends_cellR hm rfl rfl rfl (Nat.le_of_ble_eq_true rfl) rfl rfl))
 | refine op_box rfl (tl hn rfl) ?_
 | refine op_storeF rfl rfl rfl rfl (Nat.le_of_ble_eq_true rfl) ?_
 | refine op_alloc (tl hn rfl) ?_
 | refine op_storeN rfl rfl rfl rfl (Nat.le_of_ble_eq_true rfl) ?_
 | (refine RunsL.pe hn rfl rfl rfl ?_; first
 | refine ⟨_, pu_add rfl rfl (by omega), ?_⟩
 | refine ⟨_, pu_indexAddr_map rfl rfl (by omega) (by assumption), ?_⟩
 | refine ⟨_, pu_sub rfl rfl (by omega), ?_⟩
 | refine ⟨_, pu_pick_b rfl rfl rfl, ?_⟩
 | refine ⟨_, pu_mul rfl rfl (by omega), ?_⟩
 | refine ⟨_, pu_build rfl rfl rfl rfl rfl rfl, ?_⟩))
  refine Runs.loopN 30 rfl (fun j => [(0, .pin 0 0 (gs 0)), (7, .ro (intsR x.kids)), (8, .int (x.kids.length : Int)), (9, .int (j : Int))]) (fun j => cO d s en (seqC en (x.kids.take j)) ++ [⟨46, 0, (rulR x).map .ro⟩]) (fun _ => True) x.kids.length 0 (Nat.zero_le _) trivial ⟨rfl, rfl, by simp [look], rfl, trivial⟩ rfl fun j hj _ next => ?_
  have hcl := seqC_len en x.kids j
  by_cases hlt : j < x.kids.length
  · obtain ⟨b, hb⟩ : ∃ b, x.kids[(j : Int).toNat]? = some b := ⟨_, List.getElem?_eq_getElem hlt⟩
    have hb' : x.kids[j]? = some b := hb
    obtain ⟨h3, h4⟩ := hr.2 j b hb'
    repeat' (first
 | refine op_callP 2 (call_am d s en _ _ (by first | omega | (simp only [List.length_append, List.length_cons, List.length_nil]; omega)) (by omega) (by omega)) rfl (by simp [AV.onlys, AV.only]) (by simp [AV.only, AV.onlys]) rfl rfl rfl (cO_free _ _ _ _) (cO_free _ _ _ _) rfl ⟨rfl, trivial⟩ (fun t h => by injection h with h; subst h; exact tl hn rfl) ?_
 | refine RunsL.step tabOk hn rfl ?_
 | refine RunsL.nil ?_
 | refine Runs.toRegion 30 rfl ?_
 | (refine Runs.ctls 30 rfl ?_; first | refine Runs.cond_t rfl ?_ | refine Runs.cond_f rfl ?_ | ((first | refine Runs.cond_yes rfl ?_ ?_ | refine Runs.cond_nno rfl ?_ ?_); · first | omega | rfl | assumption | (simp only [List.length_map]; omega)) | ((first | refine Runs.cond_no rfl ?_ ?_ | refine Runs.cond_nyes rfl ?_ ?_); · first | omega | rfl | assumption | (simp only [List.length_map]; omega)) | refine Runs.cond_dec rfl (fun h => ?_) (fun h => ?_) | refine Runs.cond_ndec rfl (fun h => ?_) (fun h => ?_) | refine Runs.cond_nb rfl (fun h => ?_) (fun h => ?_) | refine Runs.cond_b rfl (fun h => ?_) (fun h => ?_) | refine Runs.ret (ends_ro hm rfl rfl ?_) | exact Runs.ret (ends_cellR hm rfl rfl rfl (Nat.le_of_ble_eq_true rfl) rfl rfl))
 | refine op_box rfl (tl hn rfl) ?_
 | refine op_storeF rfl rfl rfl rfl (Nat.le_of_ble_eq_true rfl) ?_
 | refine op_alloc (tl hn rfl) ?_
 | refine op_storeN rfl rfl rfl rfl (Nat.le_of_ble_eq_true rfl) ?_
 | (refine RunsL.pe hn rfl rfl rfl ?_; first
 | refine ⟨_, pu_add rfl rfl (by omega), ?_⟩
 | refine ⟨_, pu_indexAddr_map rfl rfl (by omega) (by assumption), ?_⟩
 | refine ⟨_, pu_sub rfl rfl (by omega), ?_⟩
 | refine ⟨_, pu_pick_b rfl rfl rfl, ?_⟩
 | refine ⟨_, pu_mul rfl rfl (by omega), ?_⟩
 | refine ⟨_, pu_build rfl rfl rfl rfl rfl rfl, ?_⟩))
    exact next _ _ ⟨rfl, rfl, rfl, rfl, trivial⟩ hlt trivial (cO_app (seqC_next hb'))
  · obtain rfl : j = x.kids.length := by omega
    repeat' (first
 | refine RunsL.step tabOk hn rfl ?_
 | refine RunsL.nil ?_
 | refine Runs.toRegion 30 rfl ?_
 | (refine Runs.ctls 30 rfl ?_; first | refine Runs.cond_t rfl ?_ | refine Runs.cond_f rfl ?_ | ((first | refine Runs.cond_yes rfl ?_ ?_ | refine Runs.cond_nno rfl ?_ ?_); · first | omega | rfl | assumption | (simp only [List.length_map]; omega)) | ((first | refine Runs.cond_no rfl ?_ ?_ | refine Runs.cond_nyes rfl ?_ ?_); · first | omega | rfl | assumption | (simp only [List.length_map]; omega)) | refine Runs.cond_dec rfl (fun h => ?_) (fun h => ?_) | refine Runs.cond_ndec rfl (fun h => ?_) (fun h => ?_) | refine Runs.cond_nb rfl (fun h => ?_) (fun h => ?_) | refine Runs.cond_b rfl (fun h => ?_) (fun h => ?_) | refine Runs.ret (ends_ro hm rfl rfl ?_) | exact Runs.ret (ends_cellR hm rfl rfl rfl (Nat.le_of_ble_eq_true rfl) rfl rfl))
 | refine op_box rfl (tl hn rfl) ?_
 | refine op_storeF rfl rfl rfl rfl (Nat.le_of_ble_eq_true rfl) ?_
 | refine op_alloc (tl hn rfl) ?_
 | refine op_storeN rfl rfl rfl rfl (Nat.le_of_ble_eq_true rfl) ?_
 | (refine RunsL.pe hn rfl rfl rfl ?_; first
 | refine ⟨_, pu_add rfl rfl (by omega), ?_⟩
 | refine ⟨_, pu_indexAddr_map rfl rfl (by omega) (by assumption), ?_⟩
 | refine ⟨_, pu_sub rfl rfl (by omega), ?_⟩
 | refine ⟨_, pu_pick_b rfl rfl rfl, ?_⟩
 | refine ⟨_, pu_mul rfl rfl (by omega), ?_⟩
 | refine ⟨_, pu_build rfl rfl rfl rfl rfl rfl, ?_⟩))
    refine Runs.ctls 30 rfl ?_
    refine Runs.endA (t := 0) rfl (cO_app ?_) (by simp [cO]) (cO_free _ _ _ _) rfl
    rw [List.take_length]
    simp [bodyI, hk, seqC]
def choA (x : Rul) (s : Int) (en : List Int) (j : Nat) : List Ins := callI en (x.kids.headD 0) :: chTags x.tags (s + (x.tags.length : Int) + 2) j
def choB (x : Rul) (s : Int) (en : List Int) (j : Nat) : List Ins := choA x s en x.tags.length ++ ⟨12, 3, 0⟩ :: chCalls x.kids en j
theorem choB_len (x : Rul) (s : Int) (en : List Int) (j : Nat) : (choB x s en j).length ≤ x.tags.length + 2 + 2 * j := by
  have := chCalls_len x.kids en j
  unfold choB choA
  simp only [List.length_append, List.length_cons, chTags_len]
  omega
theorem choA_len (x : Rul) (s : Int) (en : List Int) (j : Nat) : (choA x s en j).length = j + 1 := by
  unfold choA
  simp only [List.length_cons, chTags_len]
set_option maxHeartbeats 8000000 in
theorem choice_am (d : Des) (s : Int) (en : List Int) (x : Rul) (hk : x.kind = 7) (hr : RuleOkC d x en) (hl : x.kids.length ≤ 1048576) : AM Try.prog 64 (cO d s en []) [0] [.obj 0 0, .ro (.agg (rulR x))] (cO d s en (bodyI x s en)) (.tup []) := by
  refine am_enter Try.func64 rfl _ Try.ntmps64 (by simp) (by simp) fun C gs hn => ?_
  obtain ⟨f5, f7, f8, f4⟩ := item_fields hr.1
  have hlk : (x.kids.map fun z => [RV.int z]).length = x.kids.length := List.length_map ..
  have hlt' : (x.tags.map fun z => [RV.int z]).length = x.tags.length := List.length_map ..
  obtain ⟨hkl, _, _, _⟩ := f7 hk
  obtain ⟨h0, h1, h2⟩ := kid0 hr (by omega)
  repeat' (first
 | refine op_callP 2 (add_am d s en _ _ _ _ (by first | omega | (simp only [List.length_append, List.length_cons, List.length_nil]; omega))) rfl (by simp [AV.onlys, AV.only]) (by simp [AV.only, AV.onlys]) rfl rfl rfl (cO_free _ _ _ _) (cO_free _ _ _ _) rfl ⟨rfl, trivial⟩ (fun t h => by injection h with h; subst h; exact tl hn rfl) ?_
 | refine op_callP 2 (call_am d s en _ _ (by first | omega | (simp only [List.length_append, List.length_cons, List.length_nil]; omega)) (by omega) (by omega)) rfl (by simp [AV.onlys, AV.only]) (by simp [AV.only, AV.onlys]) rfl rfl rfl (cO_free _ _ _ _) (cO_free _ _ _ _) rfl ⟨rfl, trivial⟩ (fun t h => by injection h with h; subst h; exact tl hn rfl) ?_
 | ((first | refine RunsL.pe hn rfl rfl rfl ?_ | refine RunsD.pe rfl rfl ?_); first
 | refine ⟨_, pu_callL (here_ac d s en _) (.cons (lend_c rfl) .nil), ?_⟩
 | refine ⟨_, pu_addW rfl rfl, ?_⟩)
 | refine RunsL.step tabOk hn rfl ?_
 | refine RunsL.nil ?_
 | refine Runs.toRegion 30 rfl ?_
 | ((first | refine RunsL.pe hn rfl rfl rfl ?_ | refine RunsD.pe rfl rfl ?_); first
 | refine ⟨_, pu_nilCheckP rfl, ?_⟩)
 | (refine Runs.ctls 30 rfl ?_; first | refine Runs.cond_t rfl ?_ | refine Runs.cond_f rfl ?_ | ((first | refine Runs.cond_yes rfl ?_ ?_ | refine Runs.cond_nno rfl ?_ ?_); · first | omega | rfl | assumption | (simp only [List.length_map]; omega)) | ((first | refine Runs.cond_no rfl ?_ ?_ | refine Runs.cond_nyes rfl ?_ ?_); · first | omega | rfl | assumption | (simp only [List.length_map]; omega)) | refine Runs.cond_dec rfl (fun h => ?_) (fun h => ?_) | refine Runs.cond_ndec rfl (fun h => ?_) (fun h => ?_) | refine Runs.cond_nb rfl (fun h => ?_) (fun h => ?_) | refine Runs.cond_b rfl (fun h => ?_) (fun h => ?_) | refine Runs.ret (ends_ro hm rfl rfl ?_) | exact Runs.ret (ends_cellR hm rfl rfl rfl (Nat.le_of_ble_eq_true rfl) rfl rfl))
 | refine op_box rfl (tl hn rfl) ?_
 | refine op_storeF rfl rfl rfl rfl (Nat.le_of_ble_eq_true rfl) ?_
 | refine op_alloc (tl hn rfl) ?_
 | refine op_storeN rfl rfl rfl rfl (Nat.le_of_ble_eq_true rfl) ?_
 | refine RunsD.step tabOk hn rfl rfl ?_
 | refine RunsD.nil ?_
 | refine Runs.toDraw 30 mixed hn rfl (by kernel_rfl) rfl ?_
 | ((first | refine RunsL.pe hn rfl rfl rfl ?_ | refine RunsD.pe rfl rfl ?_); first
 | refine ⟨_, pu_add rfl rfl (by omega), ?_⟩
 | refine ⟨_, pu_indexAddr_map rfl rfl (by omega) (by assumption), ?_⟩
 | refine ⟨_, pu_sub rfl rfl (by omega), ?_⟩
 | refine ⟨_, pu_pick_b rfl rfl rfl, ?_⟩
 | refine ⟨_, pu_mul rfl rfl (by omega), ?_⟩
 | refine ⟨_, pu_build rfl rfl rfl rfl rfl rfl, ?_⟩))
  refine Runs.loopN 30 rfl (fun j => [(0, .pin 0 0 (gs 0)), (3, .obj 2 0), (4, .int (w64 (s + (x.tags.length : Int) + 2))), (22, .ro (intsR x.tags)), (23, .int (x.tags.length : Int)), (24, .int (j : Int))]) (fun j => cO d s en (choA x s en j) ++ [⟨46, 0, (rulR x).map .ro⟩]) (fun _ => True) x.tags.length 0 (Nat.zero_le _) trivial ⟨rfl, rfl, ?_, rfl, by simp [look], rfl, trivial⟩ rfl fun j hj _ next => ?_
  · show AV.int _ = AV.int _
    rw [hlt']
    have e1 := w64_add (w64 (s + 1) + (x.tags.length : Int)) 1
    have e2 := w64_add (s + 1) (x.tags.length + 1 : Int)
    simp only [List.length_append, List.length_cons, List.length_nil]
    show AV.int (w64 (w64 (w64 (s + (1 : Int)) + (x.tags.length : Int)) + 1)) = _
    rw [e1, Int.add_assoc, e2, show s + 1 + ((x.tags.length : Int) + 1) = s + (x.tags.length : Int) + 2 by omega]
  have hcl := choA_len x s en j
  by_cases hlt : j < x.tags.length
  · obtain ⟨b, hb⟩ : ∃ b, x.tags[(j : Int).toNat]? = some b := ⟨_, List.getElem?_eq_getElem hlt⟩
    have hb' : x.tags[j]? = some b := hb
    repeat' (first
 | refine op_callP 2 (add_am d s en _ _ _ _ (by first | omega | (simp only [List.length_append, List.length_cons, List.length_nil]; omega))) rfl (by simp [AV.onlys, AV.only]) (by simp [AV.only, AV.onlys]) rfl rfl rfl (cO_free _ _ _ _) (cO_free _ _ _ _) rfl ⟨rfl, trivial⟩ (fun t h => by injection h with h; subst h; exact tl hn rfl) ?_
 | ((first | refine RunsL.pe hn rfl rfl rfl ?_ | refine RunsD.pe rfl rfl ?_); first
 | refine ⟨_, pu_mul rfl rfl (by omega), ?_⟩)
 | refine RunsL.step tabOk hn rfl ?_
 | refine RunsL.nil ?_
 | refine Runs.toRegion 30 rfl ?_
 | ((first | refine RunsL.pe hn rfl rfl rfl ?_ | refine RunsD.pe rfl rfl ?_); first
 | refine ⟨_, pu_addW (t := 34) rfl rfl, ?_⟩)
 | (refine Runs.ctls 30 rfl ?_; first | refine Runs.cond_t rfl ?_ | refine Runs.cond_f rfl ?_ | ((first | refine Runs.cond_yes rfl ?_ ?_ | refine Runs.cond_nno rfl ?_ ?_); · first | omega | rfl | assumption | (simp only [List.length_map]; omega)) | ((first | refine Runs.cond_no rfl ?_ ?_ | refine Runs.cond_nyes rfl ?_ ?_); · first | omega | rfl | assumption | (simp only [List.length_map]; omega)) | refine Runs.cond_dec rfl (fun h => ?_) (fun h => ?_) | refine Runs.cond_ndec rfl (fun h => ?_) (fun h => ?_) | refine Runs.cond_nb rfl (fun h => ?_) (fun h => ?_) | refine Runs.cond_b rfl (fun h => ?_) (fun h => ?_) | refine Runs.ret (ends_ro hm rfl rfl ?_) | exact Runs.ret (ends_cellR hm rfl rfl rfl (Nat.le_of_ble_eq_true rfl) rfl rfl))
 | refine op_box rfl (tl hn rfl) ?_
 | refine op_storeF rfl rfl rfl rfl (Nat.le_of_ble_eq_true rfl) ?_
 | refine op_alloc (tl hn rfl) ?_
 | refine op_storeN rfl rfl rfl rfl (Nat.le_of_ble_eq_true rfl) ?_
 | refine RunsD.step tabOk hn rfl rfl ?_
 | refine RunsD.nil ?_
 | refine Runs.toDraw 30 mixed hn rfl (by kernel_rfl) rfl ?_
 | ((first | refine RunsL.pe hn rfl rfl rfl ?_ | refine RunsD.pe rfl rfl ?_); first
 | refine ⟨_, pu_add rfl rfl (by omega), ?_⟩
 | refine ⟨_, pu_indexAddr_map rfl rfl (by omega) (by assumption), ?_⟩
 | refine ⟨_, pu_sub rfl rfl (by omega), ?_⟩
 | refine ⟨_, pu_pick_b rfl rfl rfl, ?_⟩
 | refine ⟨_, pu_mul rfl rfl (by omega), ?_⟩
 | refine ⟨_, pu_build rfl rfl rfl rfl rfl rfl, ?_⟩))
    refine next _ _ ⟨rfl, rfl, rfl, rfl, rfl, rfl, trivial⟩ hlt trivial (cO_app ?_)
    unfold choA
    rw [chTags_next hb']
    have := w64_add (s + (x.tags.length : Int) + 2) (2 * (j : Int))
    show _ :: (_ ++ [(⟨11, b, w64 (s + (x.tags.length : Int) + 2 + 2 * (j : Int))⟩ : Ins)]) = _ :: _ ++ [(⟨11, b, w64 (w64 (s + (x.tags.length : Int) + 2) + 2 * (j : Int))⟩ : Ins)]
    rw [this]
    rfl
  · obtain rfl : j = x.tags.length := by omega
    repeat' (first
 | refine op_callP 2 (add_am d s en _ _ _ _ (by first | omega | (simp only [List.length_append, List.length_cons, List.length_nil]; omega))) rfl (by simp [AV.onlys, AV.only]) (by simp [AV.only, AV.onlys]) rfl rfl rfl (cO_free _ _ _ _) (cO_free _ _ _ _) rfl ⟨rfl, trivial⟩ (fun t h => by injection h with h; subst h; exact tl hn rfl) ?_
 | refine RunsL.step tabOk hn rfl ?_
 | refine RunsL.nil ?_
 | refine Runs.toRegion 30 rfl ?_
 | (refine Runs.ctls 30 rfl ?_; first | refine Runs.cond_t rfl ?_ | refine Runs.cond_f rfl ?_ | ((first | refine Runs.cond_yes rfl ?_ ?_ | refine Runs.cond_nno rfl ?_ ?_); · first | omega | rfl | assumption | (simp only [List.length_map]; omega)) | ((first | refine Runs.cond_no rfl ?_ ?_ | refine Runs.cond_nyes rfl ?_ ?_); · first | omega | rfl | assumption | (simp only [List.length_map]; omega)) | refine Runs.cond_dec rfl (fun h => ?_) (fun h => ?_) | refine Runs.cond_ndec rfl (fun h => ?_) (fun h => ?_) | refine Runs.cond_nb rfl (fun h => ?_) (fun h => ?_) | refine Runs.cond_b rfl (fun h => ?_) (fun h => ?_) | refine Runs.ret (ends_ro hm rfl rfl ?_) | exact Runs.ret (ends_cellR hm rfl rfl rfl (Nat.le_of_ble_eq_true rfl) rfl rfl))
 | refine op_box rfl (tl hn rfl) ?_
 | refine op_storeF rfl rfl rfl rfl (Nat.le_of_ble_eq_true rfl) ?_
 | refine op_alloc (tl hn rfl) ?_
 | refine op_storeN rfl rfl rfl rfl (Nat.le_of_ble_eq_true rfl) ?_
 | refine RunsD.step tabOk hn rfl rfl ?_
 | refine RunsD.nil ?_
 | refine Runs.toDraw 30 mixed hn rfl (by kernel_rfl) rfl ?_
 | ((first | refine RunsL.pe hn rfl rfl rfl ?_ | refine RunsD.pe rfl rfl ?_); first
 | refine ⟨_, pu_add rfl rfl (by omega), ?_⟩
 | refine ⟨_, pu_indexAddr_map rfl rfl (by omega) (by assumption), ?_⟩
 | refine ⟨_, pu_sub rfl rfl (by omega), ?_⟩
 | refine ⟨_, pu_pick_b rfl rfl rfl, ?_⟩
 | refine ⟨_, pu_mul rfl rfl (by omega), ?_⟩
 | refine ⟨_, pu_build rfl rfl rfl rfl rfl rfl, ?_⟩))
    refine Runs.loopN 30 rfl (fun j => [(0, .pin 0 0 (gs 0)), (3, .obj 2 0), (41, .int (x.tags.length : Int)), (42, .int (j : Int))]) (fun j => cO d s en (choB x s en j) ++ [⟨46, 0, (rulR x).map .ro⟩]) (fun _ => True) x.tags.length 0 (Nat.zero_le _) trivial ⟨rfl, rfl, by simp [look], rfl, trivial⟩ rfl fun j hj _ next2 => ?_
    have hcb := choB_len x s en j
    by_cases hlt : j < x.tags.length
    · obtain ⟨b, hb⟩ : ∃ b, x.kids[((j : Int) + 1).toNat]? = some b := ⟨_, List.getElem?_eq_getElem (by omega)⟩
      have hb' : x.kids[j + 1]? = some b := by rw [← hb]; congr 1
      obtain ⟨h3, h4⟩ := hr.2 (j + 1) b hb'
      have hbn : choB x s en (j + 1) = choB x s en j ++ ((if j = 0 then [] else [⟨10, 0, 0⟩]) ++ [callI en b]) := by
        unfold choB
        rw [chCalls_next hb']
        simp
      by_cases hj0 : j = 0
      · subst hj0
        repeat' (first
 | refine op_callP 2 (add_am d s en _ _ _ _ (by first | omega | (simp only [List.length_append, List.length_cons, List.length_nil]; omega))) rfl (by simp [AV.onlys, AV.only]) (by simp [AV.only, AV.onlys]) rfl rfl rfl (cO_free _ _ _ _) (cO_free _ _ _ _) rfl ⟨rfl, trivial⟩ (fun t h => by injection h with h; subst h; exact tl hn rfl) ?_
 | refine op_callP 2 (call_am d s en _ _ (by first | omega | (simp only [List.length_append, List.length_cons, List.length_nil]; omega)) (by omega) (by omega)) rfl (by simp [AV.onlys, AV.only]) (by simp [AV.only, AV.onlys]) rfl rfl rfl (cO_free _ _ _ _) (cO_free _ _ _ _) rfl ⟨rfl, trivial⟩ (fun t h => by injection h with h; subst h; exact tl hn rfl) ?_
 | refine RunsL.step tabOk hn rfl ?_
 | refine RunsL.nil ?_
 | refine Runs.toRegion 30 rfl ?_
 | (refine Runs.ctls 30 rfl ?_; first | refine Runs.cond_t rfl ?_ | refine Runs.cond_f rfl ?_ | ((first | refine Runs.cond_yes rfl ?_ ?_ | refine Runs.cond_nno rfl ?_ ?_); · first | omega | rfl | assumption | (simp only [List.length_map]; omega)) | ((first | refine Runs.cond_no rfl ?_ ?_ | refine Runs.cond_nyes rfl ?_ ?_); · first | omega | rfl | assumption | (simp only [List.length_map]; omega)) | refine Runs.cond_dec rfl (fun h => ?_) (fun h => ?_) | refine Runs.cond_ndec rfl (fun h => ?_) (fun h => ?_) | refine Runs.cond_nb rfl (fun h => ?_) (fun h => ?_) | refine Runs.cond_b rfl (fun h => ?_) (fun h => ?_) | refine Runs.ret (ends_ro hm rfl rfl ?_) | exact Runs.ret (ends_cellR hm rfl rfl rfl (Nat.le_of_ble_eq_true rfl) rfl rfl))
 | refine op_box rfl (tl hn rfl) ?_
 | refine op_storeF rfl rfl rfl rfl (Nat.le_of_ble_eq_true rfl) ?_
 | refine op_alloc (tl hn rfl) ?_
 | refine op_storeN rfl rfl rfl rfl (Nat.le_of_ble_eq_true rfl) ?_
 | refine RunsD.step tabOk hn rfl rfl ?_
 | refine RunsD.nil ?_
 | refine Runs.toDraw 30 mixed hn rfl (by kernel_rfl) rfl ?_
 | ((first | refine RunsL.pe hn rfl rfl rfl ?_ | refine RunsD.pe rfl rfl ?_); first
 | refine ⟨_, pu_add rfl rfl (by omega), ?_⟩
 | refine ⟨_, pu_indexAddr_map rfl rfl (by omega) (by assumption), ?_⟩
 | refine ⟨_, pu_sub rfl rfl (by omega), ?_⟩
 | refine ⟨_, pu_pick_b rfl rfl rfl, ?_⟩
 | refine ⟨_, pu_mul rfl rfl (by omega), ?_⟩
 | refine ⟨_, pu_build rfl rfl rfl rfl rfl rfl, ?_⟩))
        all_goals first
          | (exfalso; omega)
          | exact next2 _ _ ⟨rfl, rfl, rfl, rfl, trivial⟩ hlt trivial (cO_app (by rw [hbn]; rfl))
      · repeat' (first
 | refine op_callP 2 (add_am d s en _ _ _ _ (by first | omega | (simp only [List.length_append, List.length_cons, List.length_nil]; omega))) rfl (by simp [AV.onlys, AV.only]) (by simp [AV.only, AV.onlys]) rfl rfl rfl (cO_free _ _ _ _) (cO_free _ _ _ _) rfl ⟨rfl, trivial⟩ (fun t h => by injection h with h; subst h; exact tl hn rfl) ?_
 | refine op_callP 2 (call_am d s en _ _ (by first | omega | (simp only [List.length_append, List.length_cons, List.length_nil]; omega)) (by omega) (by omega)) rfl (by simp [AV.onlys, AV.only]) (by simp [AV.only, AV.onlys]) rfl rfl rfl (cO_free _ _ _ _) (cO_free _ _ _ _) rfl ⟨rfl, trivial⟩ (fun t h => by injection h with h; subst h; exact tl hn rfl) ?_
 | refine RunsL.step tabOk hn rfl ?_
 | refine RunsL.nil ?_
 | refine Runs.toRegion 30 rfl ?_
 | (refine Runs.ctls 30 rfl ?_; first | refine Runs.cond_t rfl ?_ | refine Runs.cond_f rfl ?_ | ((first | refine Runs.cond_yes rfl ?_ ?_ | refine Runs.cond_nno rfl ?_ ?_); · first | omega | rfl | assumption | (simp only [List.length_map]; omega)) | ((first | refine Runs.cond_no rfl ?_ ?_ | refine Runs.cond_nyes rfl ?_ ?_); · first | omega | rfl | assumption | (simp only [List.length_map]; omega)) | refine Runs.cond_dec rfl (fun h => ?_) (fun h => ?_) | refine Runs.cond_ndec rfl (fun h => ?_) (fun h => ?_) | refine Runs.cond_nb rfl (fun h => ?_) (fun h => ?_) | refine Runs.cond_b rfl (fun h => ?_) (fun h => ?_) | refine Runs.ret (ends_ro hm rfl rfl ?_) | exact Runs.ret (ends_cellR hm rfl rfl rfl (Nat.le_of_ble_eq_true rfl) rfl rfl))
 | refine op_box rfl (tl hn rfl) ?_
 | refine op_storeF rfl rfl rfl rfl (Nat.le_of_ble_eq_true rfl) ?_
 | refine op_alloc (tl hn rfl) ?_
 | refine op_storeN rfl rfl rfl rfl (Nat.le_of_ble_eq_true rfl) ?_
 | refine RunsD.step tabOk hn rfl rfl ?_
 | refine RunsD.nil ?_
 | refine Runs.toDraw 30 mixed hn rfl (by kernel_rfl) rfl ?_
 | ((first | refine RunsL.pe hn rfl rfl rfl ?_ | refine RunsD.pe rfl rfl ?_); first
 | refine ⟨_, pu_add rfl rfl (by omega), ?_⟩
 | refine ⟨_, pu_indexAddr_map rfl rfl (by omega) (by assumption), ?_⟩
 | refine ⟨_, pu_sub rfl rfl (by omega), ?_⟩
 | refine ⟨_, pu_pick_b rfl rfl rfl, ?_⟩
 | refine ⟨_, pu_mul rfl rfl (by omega), ?_⟩
 | refine ⟨_, pu_build rfl rfl rfl rfl rfl rfl, ?_⟩))
        all_goals first
          | (exfalso; omega)
          | exact next2 _ _ ⟨rfl, rfl, rfl, rfl, trivial⟩ hlt trivial (cO_app (by rw [hbn, if_neg hj0]; simp))
    · obtain rfl : j = x.tags.length := by omega
      repeat' (first
 | refine RunsL.step tabOk hn rfl ?_
 | refine RunsL.nil ?_
 | refine Runs.toRegion 30 rfl ?_
 | (refine Runs.ctls 30 rfl ?_; first | refine Runs.cond_t rfl ?_ | refine Runs.cond_f rfl ?_ | ((first | refine Runs.cond_yes rfl ?_ ?_ | refine Runs.cond_nno rfl ?_ ?_); · first | omega | rfl | assumption | (simp only [List.length_map]; omega)) | ((first | refine Runs.cond_no rfl ?_ ?_ | refine Runs.cond_nyes rfl ?_ ?_); · first | omega | rfl | assumption | (simp only [List.length_map]; omega)) | refine Runs.cond_dec rfl (fun h => ?_) (fun h => ?_) | refine Runs.cond_ndec rfl (fun h => ?_) (fun h => ?_) | refine Runs.cond_nb rfl (fun h => ?_) (fun h => ?_) | refine Runs.cond_b rfl (fun h => ?_) (fun h => ?_) | refine Runs.ret (ends_ro hm rfl rfl ?_) | exact Runs.ret (ends_cellR hm rfl rfl rfl (Nat.le_of_ble_eq_true rfl) rfl rfl))
 | refine op_box rfl (tl hn rfl) ?_
 | refine op_storeF rfl rfl rfl rfl (Nat.le_of_ble_eq_true rfl) ?_
 | refine op_alloc (tl hn rfl) ?_
 | refine op_storeN rfl rfl rfl rfl (Nat.le_of_ble_eq_true rfl) ?_
 | refine RunsD.step tabOk hn rfl rfl ?_
 | refine RunsD.nil ?_
 | refine Runs.toDraw 30 mixed hn rfl (by kernel_rfl) rfl ?_
 | ((first | refine RunsL.pe hn rfl rfl rfl ?_ | refine RunsD.pe rfl rfl ?_); first
 | refine ⟨_, pu_add rfl rfl (by omega), ?_⟩
 | refine ⟨_, pu_indexAddr_map rfl rfl (by omega) (by assumption), ?_⟩
 | refine ⟨_, pu_sub rfl rfl (by omega), ?_⟩
 | refine ⟨_, pu_pick_b rfl rfl rfl, ?_⟩
 | refine ⟨_, pu_mul rfl rfl (by omega), ?_⟩
 | refine ⟨_, pu_build rfl rfl rfl rfl rfl rfl, ?_⟩))
      refine Runs.ctls 30 rfl ?_
      refine Runs.endA (t := 0) rfl (cO_app ?_) (by simp [cO]) (cO_free _ _ _ _) rfl
      simp [bodyI, hk, choB, choA]
end Go.Proofs.Ytdikinkihnepaaa
