/- Gathered texts. -/
import Derived.Test.YtofefjklipglhaaDoorGat0
import Derived.Test.YtofefjklipglhaaDoorGat1
import Derived.Test.YtofefjklipglhaaDoorGat2
import Derived.Test.YtofefjklipglhaaDoorGat3
import Derived.Test.YtofefjklipglhaaDoorGat4
/- The text of an instruction: the program's side alone. -/
namespace Go.Proofs.YtofefjklipglhaaDoor
set_option linter.unusedSimpArgs false
set_option linter.unusedVariables false
set_option maxRecDepth 100000
open Go.RowKit
def opcI (op : Int) : Int := if op = 1 ∨ op = 11 then 2 else if op = 2 ∨ op = 3 ∨ op = 5 ∨ op = 7 ∨ op = 8 ∨ op = 9 ∨ op = 12 ∨ op = 13 ∨ op = 16 then 1 else 0
theorem opCountI_ac (op : Int) : ACv Tryd.prog 39 [.int op] (.int (opcI op)) := by
  unfold opcI
  refine ac_enter Tryd.func39 rfl _ Tryd.ntmps39 (by simp) fun C hn hm => ?_
  by_cases h1 : op = 1 ∨ op = 11
  · rw [if_pos h1]
    rcases h1 with rfl | rfl
    repeat' (first
 | refine RunsL.step tabOk hn rfl ?_
 | refine RunsL.nil ?_
 | refine Runs.toRegion 30 rfl ?_
 | (refine Runs.ctls 30 rfl ?_; first | refine Runs.cond_t rfl ?_ | refine Runs.cond_f rfl ?_ | ((first | refine Runs.cond_yes rfl ?_ ?_ | refine Runs.cond_nno rfl ?_ ?_); · first | omega | rfl | assumption | (simp only [List.length_map]; omega)) | ((first | refine Runs.cond_no rfl ?_ ?_ | refine Runs.cond_nyes rfl ?_ ?_); · first | omega | rfl | assumption | (simp only [List.length_map]; omega)) | refine Runs.ret (ends_ro hm rfl rfl ?_) | exact Runs.ret (ends_cellR hm rfl rfl rfl (Nat.le_of_ble_eq_true rfl) rfl rfl))
      )
    all_goals exact rr_int rfl
  rw [if_neg h1]
  by_cases h2 : op = 2 ∨ op = 3 ∨ op = 5 ∨ op = 7 ∨ op = 8 ∨ op = 9 ∨ op = 12 ∨ op = 13 ∨ op = 16
  · rw [if_pos h2]
    rcases h2 with rfl | rfl | rfl | rfl | rfl | rfl | rfl | rfl | rfl
    repeat' (first
 | refine RunsL.step tabOk hn rfl ?_
 | refine RunsL.nil ?_
 | refine Runs.toRegion 30 rfl ?_
 | (refine Runs.ctls 30 rfl ?_; first | refine Runs.cond_t rfl ?_ | refine Runs.cond_f rfl ?_ | ((first | refine Runs.cond_yes rfl ?_ ?_ | refine Runs.cond_nno rfl ?_ ?_); · first | omega | rfl | assumption | (simp only [List.length_map]; omega)) | ((first | refine Runs.cond_no rfl ?_ ?_ | refine Runs.cond_nyes rfl ?_ ?_); · first | omega | rfl | assumption | (simp only [List.length_map]; omega)) | refine Runs.ret (ends_ro hm rfl rfl ?_) | exact Runs.ret (ends_cellR hm rfl rfl rfl (Nat.le_of_ble_eq_true rfl) rfl rfl))
      )
    all_goals exact rr_int rfl
  · rw [if_neg h2]
    repeat' (first
 | refine RunsL.step tabOk hn rfl ?_
 | refine RunsL.nil ?_
 | refine Runs.toRegion 30 rfl ?_
 | (refine Runs.ctls 30 rfl ?_; first | refine Runs.cond_t rfl ?_ | refine Runs.cond_f rfl ?_ | ((first | refine Runs.cond_yes rfl ?_ ?_ | refine Runs.cond_nno rfl ?_ ?_); · first | omega | rfl | assumption | (simp only [List.length_map]; omega)) | ((first | refine Runs.cond_no rfl ?_ ?_ | refine Runs.cond_nyes rfl ?_ ?_); · first | omega | rfl | assumption | (simp only [List.length_map]; omega)) | refine Runs.ret (ends_ro hm rfl rfl ?_) | exact Runs.ret (ends_cellR hm rfl rfl rfl (Nat.le_of_ble_eq_true rfl) rfl rfl))
      )
    all_goals exact rr_int rfl
theorem impl_FJ1 (a b : Int) (hA : I64 a) (hB : I64 b) : ACtv TabT Tryd.prog 12 [.agg [.int 1, .int a, .int b]] (.str (((⟨#[105, 110, 116, 101, 103, 101, 114]⟩ : ByteArray) ++ (⟨#[32]⟩ ++ fmtI a)) ++ (⟨#[32]⟩ ++ fmtI b))) := by
  have hR := inRange_ac 1 1 17
  have hO : ACv Tryd.prog 39 [.int 1] (.int 2) := opCountI_ac 1
  have fa := impl_FormatInt a hA
  have fb := impl_FormatInt b hB
  have la := fmtI_len a hA
  have lb := fmtI_len b hB
  have s1 : (⟨#[32]⟩ : ByteArray).size = 1 := rfl
  have s2 : (⟨#[105, 110, 116, 101, 103, 101, 114]⟩ : ByteArray).size = 7 := rfl
  have e1 := cat_size ⟨#[32]⟩ (fmtI a)
  have e2 := cat_size ⟨#[32]⟩ (fmtI b)
  have e3 := cat_size ⟨#[105, 110, 116, 101, 103, 101, 114]⟩ (⟨#[32]⟩ ++ fmtI a)
  refine act_enter tabT_lasts Tryd.func12 rfl _ Tryd.ntmps12 (by simp) fun C hn hm hb => ?_
  repeat' (first
 | refine RunsL.step tabOk hn rfl ?_
 | refine RunsL.nil ?_
 | refine Runs.toRegion 30 rfl ?_
 | (refine RunsL.pe hn rfl rfl rfl ?_; first
 | refine ⟨_, pu_callR hR rfl, ?_⟩
 | refine ⟨_, pu_callR hO rfl, ?_⟩
 | refine ⟨_, pu_callW (r := .str (fmtI a)) hb fa rfl, ?_⟩
 | refine ⟨_, pu_callW (r := .str (fmtI b)) hb fb rfl, ?_⟩
 | refine ⟨_, pu_indexAddr_seq rfl rfl (by decide) rfl, ?_⟩
 | refine ⟨_, pu_cat rfl rfl (by omega), ?_⟩)
 | (refine Runs.ctls 30 rfl ?_; first | refine Runs.cond_t rfl ?_ | refine Runs.cond_f rfl ?_ | ((first | refine Runs.cond_yes rfl ?_ ?_ | refine Runs.cond_nno rfl ?_ ?_); · first | omega | rfl | assumption | (simp only [List.length_map]; omega)) | ((first | refine Runs.cond_no rfl ?_ ?_ | refine Runs.cond_nyes rfl ?_ ?_); · first | omega | rfl | assumption | (simp only [List.length_map]; omega)) | refine Runs.ret (ends_ro hm rfl rfl ?_) | exact Runs.ret (ends_cellR hm rfl rfl rfl (Nat.le_of_ble_eq_true rfl) rfl rfl))
 | refine op_box rfl (tl hn rfl) ?_
 | (refine RunsL.pe hn rfl rfl rfl ?_; first
 | refine ⟨_, pu_sub rfl rfl (by omega), ?_⟩
 | refine ⟨_, pu_build rfl rfl rfl rfl rfl rfl, ?_⟩))
  all_goals exact rr_ro rfl
theorem impl_FJ2 (a b : Int) (hA : I64 a) (hB : I64 b) : ACtv TabT Tryd.prog 12 [.agg [.int 2, .int a, .int b]] (.str ((⟨#[109, 97, 116, 99, 104]⟩ : ByteArray) ++ (⟨#[32]⟩ ++ fmtI a))) := by
  have hR := inRange_ac 2 1 17
  have hO : ACv Tryd.prog 39 [.int 2] (.int 1) := opCountI_ac 2
  have fa := impl_FormatInt a hA
  have fb := impl_FormatInt b hB
  have la := fmtI_len a hA
  have lb := fmtI_len b hB
  have s1 : (⟨#[32]⟩ : ByteArray).size = 1 := rfl
  have s2 : (⟨#[109, 97, 116, 99, 104]⟩ : ByteArray).size = 5 := rfl
  have e1 := cat_size ⟨#[32]⟩ (fmtI a)
  have e2 := cat_size ⟨#[32]⟩ (fmtI b)
  have e3 := cat_size ⟨#[109, 97, 116, 99, 104]⟩ (⟨#[32]⟩ ++ fmtI a)
  refine act_enter tabT_lasts Tryd.func12 rfl _ Tryd.ntmps12 (by simp) fun C hn hm hb => ?_
  repeat' (first
 | refine RunsL.step tabOk hn rfl ?_
 | refine RunsL.nil ?_
 | refine Runs.toRegion 30 rfl ?_
 | (refine RunsL.pe hn rfl rfl rfl ?_; first
 | refine ⟨_, pu_callR hR rfl, ?_⟩
 | refine ⟨_, pu_callR hO rfl, ?_⟩
 | refine ⟨_, pu_callW (r := .str (fmtI a)) hb fa rfl, ?_⟩
 | refine ⟨_, pu_callW (r := .str (fmtI b)) hb fb rfl, ?_⟩
 | refine ⟨_, pu_indexAddr_seq rfl rfl (by decide) rfl, ?_⟩
 | refine ⟨_, pu_cat rfl rfl (by omega), ?_⟩)
 | (refine Runs.ctls 30 rfl ?_; first | refine Runs.cond_t rfl ?_ | refine Runs.cond_f rfl ?_ | ((first | refine Runs.cond_yes rfl ?_ ?_ | refine Runs.cond_nno rfl ?_ ?_); · first | omega | rfl | assumption | (simp only [List.length_map]; omega)) | ((first | refine Runs.cond_no rfl ?_ ?_ | refine Runs.cond_nyes rfl ?_ ?_); · first | omega | rfl | assumption | (simp only [List.length_map]; omega)) | refine Runs.ret (ends_ro hm rfl rfl ?_) | exact Runs.ret (ends_cellR hm rfl rfl rfl (Nat.le_of_ble_eq_true rfl) rfl rfl))
 | refine op_box rfl (tl hn rfl) ?_
 | (refine RunsL.pe hn rfl rfl rfl ?_; first
 | refine ⟨_, pu_sub rfl rfl (by omega), ?_⟩
 | refine ⟨_, pu_build rfl rfl rfl rfl rfl rfl, ?_⟩))
  all_goals exact rr_ro rfl
theorem impl_FJ3 (a b : Int) (hA : I64 a) (hB : I64 b) : ACtv TabT Tryd.prog 12 [.agg [.int 3, .int a, .int b]] (.str ((⟨#[115, 107, 105, 112]⟩ : ByteArray) ++ (⟨#[32]⟩ ++ fmtI a))) := by
  have hR := inRange_ac 3 1 17
  have hO : ACv Tryd.prog 39 [.int 3] (.int 1) := opCountI_ac 3
  have fa := impl_FormatInt a hA
  have fb := impl_FormatInt b hB
  have la := fmtI_len a hA
  have lb := fmtI_len b hB
  have s1 : (⟨#[32]⟩ : ByteArray).size = 1 := rfl
  have s2 : (⟨#[115, 107, 105, 112]⟩ : ByteArray).size = 4 := rfl
  have e1 := cat_size ⟨#[32]⟩ (fmtI a)
  have e2 := cat_size ⟨#[32]⟩ (fmtI b)
  have e3 := cat_size ⟨#[115, 107, 105, 112]⟩ (⟨#[32]⟩ ++ fmtI a)
  refine act_enter tabT_lasts Tryd.func12 rfl _ Tryd.ntmps12 (by simp) fun C hn hm hb => ?_
  repeat' (first
 | refine RunsL.step tabOk hn rfl ?_
 | refine RunsL.nil ?_
 | refine Runs.toRegion 30 rfl ?_
 | (refine RunsL.pe hn rfl rfl rfl ?_; first
 | refine ⟨_, pu_callR hR rfl, ?_⟩
 | refine ⟨_, pu_callR hO rfl, ?_⟩
 | refine ⟨_, pu_callW (r := .str (fmtI a)) hb fa rfl, ?_⟩
 | refine ⟨_, pu_callW (r := .str (fmtI b)) hb fb rfl, ?_⟩
 | refine ⟨_, pu_indexAddr_seq rfl rfl (by decide) rfl, ?_⟩
 | refine ⟨_, pu_cat rfl rfl (by omega), ?_⟩)
 | (refine Runs.ctls 30 rfl ?_; first | refine Runs.cond_t rfl ?_ | refine Runs.cond_f rfl ?_ | ((first | refine Runs.cond_yes rfl ?_ ?_ | refine Runs.cond_nno rfl ?_ ?_); · first | omega | rfl | assumption | (simp only [List.length_map]; omega)) | ((first | refine Runs.cond_no rfl ?_ ?_ | refine Runs.cond_nyes rfl ?_ ?_); · first | omega | rfl | assumption | (simp only [List.length_map]; omega)) | refine Runs.ret (ends_ro hm rfl rfl ?_) | exact Runs.ret (ends_cellR hm rfl rfl rfl (Nat.le_of_ble_eq_true rfl) rfl rfl))
 | refine op_box rfl (tl hn rfl) ?_
 | (refine RunsL.pe hn rfl rfl rfl ?_; first
 | refine ⟨_, pu_sub rfl rfl (by omega), ?_⟩
 | refine ⟨_, pu_build rfl rfl rfl rfl rfl rfl, ?_⟩))
  all_goals exact rr_ro rfl
theorem impl_FJ4 (a b : Int) (hA : I64 a) (hB : I64 b) : ACtv TabT Tryd.prog 12 [.agg [.int 4, .int a, .int b]] (.str ((⟨#[115, 107, 105, 112, 45, 114, 101, 103, 105, 115, 116, 101, 114]⟩ : ByteArray))) := by
  have hR := inRange_ac 4 1 17
  have hO : ACv Tryd.prog 39 [.int 4] (.int 0) := opCountI_ac 4
  have fa := impl_FormatInt a hA
  have fb := impl_FormatInt b hB
  have la := fmtI_len a hA
  have lb := fmtI_len b hB
  have s1 : (⟨#[32]⟩ : ByteArray).size = 1 := rfl
  have s2 : (⟨#[115, 107, 105, 112, 45, 114, 101, 103, 105, 115, 116, 101, 114]⟩ : ByteArray).size = 13 := rfl
  have e1 := cat_size ⟨#[32]⟩ (fmtI a)
  have e2 := cat_size ⟨#[32]⟩ (fmtI b)
  have e3 := cat_size ⟨#[115, 107, 105, 112, 45, 114, 101, 103, 105, 115, 116, 101, 114]⟩ (⟨#[32]⟩ ++ fmtI a)
  refine act_enter tabT_lasts Tryd.func12 rfl _ Tryd.ntmps12 (by simp) fun C hn hm hb => ?_
  repeat' (first
 | refine RunsL.step tabOk hn rfl ?_
 | refine RunsL.nil ?_
 | refine Runs.toRegion 30 rfl ?_
 | (refine RunsL.pe hn rfl rfl rfl ?_; first
 | refine ⟨_, pu_callR hR rfl, ?_⟩
 | refine ⟨_, pu_callR hO rfl, ?_⟩
 | refine ⟨_, pu_indexAddr_seq rfl rfl (by decide) rfl, ?_⟩
      )
 | (refine Runs.ctls 30 rfl ?_; first | refine Runs.cond_f rfl ?_ | ((first | refine Runs.cond_yes rfl ?_ ?_ | refine Runs.cond_nno rfl ?_ ?_); · first | omega | rfl | assumption | (simp only [List.length_map]; omega)) | ((first | refine Runs.cond_no rfl ?_ ?_ | refine Runs.cond_nyes rfl ?_ ?_); · first | omega | rfl | assumption | (simp only [List.length_map]; omega)) | refine Runs.ret (ends_ro hm rfl rfl ?_) | exact Runs.ret (ends_cellR hm rfl rfl rfl (Nat.le_of_ble_eq_true rfl) rfl rfl))
 | refine op_box rfl (tl hn rfl) ?_
 | (refine RunsL.pe hn rfl rfl rfl ?_; first
 | refine ⟨_, pu_sub rfl rfl (by omega), ?_⟩
 | refine ⟨_, pu_build rfl rfl rfl rfl rfl rfl, ?_⟩))
  all_goals exact rr_ro rfl
theorem impl_FJ5 (a b : Int) (hA : I64 a) (hB : I64 b) : ACtv TabT Tryd.prog 12 [.agg [.int 5, .int a, .int b]] (.str ((⟨#[108, 105, 109, 105, 116]⟩ : ByteArray) ++ (⟨#[32]⟩ ++ fmtI a))) := by
  have hR := inRange_ac 5 1 17
  have hO : ACv Tryd.prog 39 [.int 5] (.int 1) := opCountI_ac 5
  have fa := impl_FormatInt a hA
  have fb := impl_FormatInt b hB
  have la := fmtI_len a hA
  have lb := fmtI_len b hB
  have s1 : (⟨#[32]⟩ : ByteArray).size = 1 := rfl
  have s2 : (⟨#[108, 105, 109, 105, 116]⟩ : ByteArray).size = 5 := rfl
  have e1 := cat_size ⟨#[32]⟩ (fmtI a)
  have e2 := cat_size ⟨#[32]⟩ (fmtI b)
  have e3 := cat_size ⟨#[108, 105, 109, 105, 116]⟩ (⟨#[32]⟩ ++ fmtI a)
  refine act_enter tabT_lasts Tryd.func12 rfl _ Tryd.ntmps12 (by simp) fun C hn hm hb => ?_
  repeat' (first
 | refine RunsL.step tabOk hn rfl ?_
 | refine RunsL.nil ?_
 | refine Runs.toRegion 30 rfl ?_
 | (refine RunsL.pe hn rfl rfl rfl ?_; first
 | refine ⟨_, pu_callR hR rfl, ?_⟩
 | refine ⟨_, pu_callR hO rfl, ?_⟩
 | refine ⟨_, pu_callW (r := .str (fmtI a)) hb fa rfl, ?_⟩
 | refine ⟨_, pu_callW (r := .str (fmtI b)) hb fb rfl, ?_⟩
 | refine ⟨_, pu_indexAddr_seq rfl rfl (by decide) rfl, ?_⟩
 | refine ⟨_, pu_cat rfl rfl (by omega), ?_⟩)
 | (refine Runs.ctls 30 rfl ?_; first | refine Runs.cond_t rfl ?_ | refine Runs.cond_f rfl ?_ | ((first | refine Runs.cond_yes rfl ?_ ?_ | refine Runs.cond_nno rfl ?_ ?_); · first | omega | rfl | assumption | (simp only [List.length_map]; omega)) | ((first | refine Runs.cond_no rfl ?_ ?_ | refine Runs.cond_nyes rfl ?_ ?_); · first | omega | rfl | assumption | (simp only [List.length_map]; omega)) | refine Runs.ret (ends_ro hm rfl rfl ?_) | exact Runs.ret (ends_cellR hm rfl rfl rfl (Nat.le_of_ble_eq_true rfl) rfl rfl))
 | refine op_box rfl (tl hn rfl) ?_
 | (refine RunsL.pe hn rfl rfl rfl ?_; first
 | refine ⟨_, pu_sub rfl rfl (by omega), ?_⟩
 | refine ⟨_, pu_build rfl rfl rfl rfl rfl rfl, ?_⟩))
  all_goals exact rr_ro rfl
theorem impl_FJ6 (a b : Int) (hA : I64 a) (hB : I64 b) : ACtv TabT Tryd.prog 12 [.agg [.int 6, .int a, .int b]] (.str ((⟨#[112, 117, 115, 104]⟩ : ByteArray))) := by
  have hR := inRange_ac 6 1 17
  have hO : ACv Tryd.prog 39 [.int 6] (.int 0) := opCountI_ac 6
  have fa := impl_FormatInt a hA
  have fb := impl_FormatInt b hB
  have la := fmtI_len a hA
  have lb := fmtI_len b hB
  have s1 : (⟨#[32]⟩ : ByteArray).size = 1 := rfl
  have s2 : (⟨#[112, 117, 115, 104]⟩ : ByteArray).size = 4 := rfl
  have e1 := cat_size ⟨#[32]⟩ (fmtI a)
  have e2 := cat_size ⟨#[32]⟩ (fmtI b)
  have e3 := cat_size ⟨#[112, 117, 115, 104]⟩ (⟨#[32]⟩ ++ fmtI a)
  refine act_enter tabT_lasts Tryd.func12 rfl _ Tryd.ntmps12 (by simp) fun C hn hm hb => ?_
  repeat' (first
 | refine RunsL.step tabOk hn rfl ?_
 | refine RunsL.nil ?_
 | refine Runs.toRegion 30 rfl ?_
 | (refine RunsL.pe hn rfl rfl rfl ?_; first
 | refine ⟨_, pu_callR hR rfl, ?_⟩
 | refine ⟨_, pu_callR hO rfl, ?_⟩
 | refine ⟨_, pu_indexAddr_seq rfl rfl (by decide) rfl, ?_⟩
      )
 | (refine Runs.ctls 30 rfl ?_; first | refine Runs.cond_f rfl ?_ | ((first | refine Runs.cond_yes rfl ?_ ?_ | refine Runs.cond_nno rfl ?_ ?_); · first | omega | rfl | assumption | (simp only [List.length_map]; omega)) | ((first | refine Runs.cond_no rfl ?_ ?_ | refine Runs.cond_nyes rfl ?_ ?_); · first | omega | rfl | assumption | (simp only [List.length_map]; omega)) | refine Runs.ret (ends_ro hm rfl rfl ?_) | exact Runs.ret (ends_cellR hm rfl rfl rfl (Nat.le_of_ble_eq_true rfl) rfl rfl))
 | refine op_box rfl (tl hn rfl) ?_
 | (refine RunsL.pe hn rfl rfl rfl ?_; first
 | refine ⟨_, pu_sub rfl rfl (by omega), ?_⟩
 | refine ⟨_, pu_build rfl rfl rfl rfl rfl rfl, ?_⟩))
  all_goals exact rr_ro rfl
theorem impl_FJ7 (a b : Int) (hA : I64 a) (hB : I64 b) : ACtv TabT Tryd.prog 12 [.agg [.int 7, .int a, .int b]] (.str ((⟨#[108, 111, 111, 112]⟩ : ByteArray) ++ (⟨#[32]⟩ ++ fmtI a))) := by
  have hR := inRange_ac 7 1 17
  have hO : ACv Tryd.prog 39 [.int 7] (.int 1) := opCountI_ac 7
  have fa := impl_FormatInt a hA
  have fb := impl_FormatInt b hB
  have la := fmtI_len a hA
  have lb := fmtI_len b hB
  have s1 : (⟨#[32]⟩ : ByteArray).size = 1 := rfl
  have s2 : (⟨#[108, 111, 111, 112]⟩ : ByteArray).size = 4 := rfl
  have e1 := cat_size ⟨#[32]⟩ (fmtI a)
  have e2 := cat_size ⟨#[32]⟩ (fmtI b)
  have e3 := cat_size ⟨#[108, 111, 111, 112]⟩ (⟨#[32]⟩ ++ fmtI a)
  refine act_enter tabT_lasts Tryd.func12 rfl _ Tryd.ntmps12 (by simp) fun C hn hm hb => ?_
  repeat' (first
 | refine RunsL.step tabOk hn rfl ?_
 | refine RunsL.nil ?_
 | refine Runs.toRegion 30 rfl ?_
 | (refine RunsL.pe hn rfl rfl rfl ?_; first
 | refine ⟨_, pu_callR hR rfl, ?_⟩
 | refine ⟨_, pu_callR hO rfl, ?_⟩
 | refine ⟨_, pu_callW (r := .str (fmtI a)) hb fa rfl, ?_⟩
 | refine ⟨_, pu_callW (r := .str (fmtI b)) hb fb rfl, ?_⟩
 | refine ⟨_, pu_indexAddr_seq rfl rfl (by decide) rfl, ?_⟩
 | refine ⟨_, pu_cat rfl rfl (by omega), ?_⟩)
 | (refine Runs.ctls 30 rfl ?_; first | refine Runs.cond_t rfl ?_ | refine Runs.cond_f rfl ?_ | ((first | refine Runs.cond_yes rfl ?_ ?_ | refine Runs.cond_nno rfl ?_ ?_); · first | omega | rfl | assumption | (simp only [List.length_map]; omega)) | ((first | refine Runs.cond_no rfl ?_ ?_ | refine Runs.cond_nyes rfl ?_ ?_); · first | omega | rfl | assumption | (simp only [List.length_map]; omega)) | refine Runs.ret (ends_ro hm rfl rfl ?_) | exact Runs.ret (ends_cellR hm rfl rfl rfl (Nat.le_of_ble_eq_true rfl) rfl rfl))
 | refine op_box rfl (tl hn rfl) ?_
 | (refine RunsL.pe hn rfl rfl rfl ?_; first
 | refine ⟨_, pu_sub rfl rfl (by omega), ?_⟩
 | refine ⟨_, pu_build rfl rfl rfl rfl rfl rfl, ?_⟩))
  all_goals exact rr_ro rfl
theorem impl_FJ8 (a b : Int) (hA : I64 a) (hB : I64 b) : ACtv TabT Tryd.prog 12 [.agg [.int 8, .int a, .int b]] (.str ((⟨#[106, 117, 109, 112]⟩ : ByteArray) ++ (⟨#[32]⟩ ++ fmtI a))) := by
  have hR := inRange_ac 8 1 17
  have hO : ACv Tryd.prog 39 [.int 8] (.int 1) := opCountI_ac 8
  have fa := impl_FormatInt a hA
  have fb := impl_FormatInt b hB
  have la := fmtI_len a hA
  have lb := fmtI_len b hB
  have s1 : (⟨#[32]⟩ : ByteArray).size = 1 := rfl
  have s2 : (⟨#[106, 117, 109, 112]⟩ : ByteArray).size = 4 := rfl
  have e1 := cat_size ⟨#[32]⟩ (fmtI a)
  have e2 := cat_size ⟨#[32]⟩ (fmtI b)
  have e3 := cat_size ⟨#[106, 117, 109, 112]⟩ (⟨#[32]⟩ ++ fmtI a)
  refine act_enter tabT_lasts Tryd.func12 rfl _ Tryd.ntmps12 (by simp) fun C hn hm hb => ?_
  repeat' (first
 | refine RunsL.step tabOk hn rfl ?_
 | refine RunsL.nil ?_
 | refine Runs.toRegion 30 rfl ?_
 | (refine RunsL.pe hn rfl rfl rfl ?_; first
 | refine ⟨_, pu_callR hR rfl, ?_⟩
 | refine ⟨_, pu_callR hO rfl, ?_⟩
 | refine ⟨_, pu_callW (r := .str (fmtI a)) hb fa rfl, ?_⟩
 | refine ⟨_, pu_callW (r := .str (fmtI b)) hb fb rfl, ?_⟩
 | refine ⟨_, pu_indexAddr_seq rfl rfl (by decide) rfl, ?_⟩
 | refine ⟨_, pu_cat rfl rfl (by omega), ?_⟩)
 | (refine Runs.ctls 30 rfl ?_; first | refine Runs.cond_t rfl ?_ | refine Runs.cond_f rfl ?_ | ((first | refine Runs.cond_yes rfl ?_ ?_ | refine Runs.cond_nno rfl ?_ ?_); · first | omega | rfl | assumption | (simp only [List.length_map]; omega)) | ((first | refine Runs.cond_no rfl ?_ ?_ | refine Runs.cond_nyes rfl ?_ ?_); · first | omega | rfl | assumption | (simp only [List.length_map]; omega)) | refine Runs.ret (ends_ro hm rfl rfl ?_) | exact Runs.ret (ends_cellR hm rfl rfl rfl (Nat.le_of_ble_eq_true rfl) rfl rfl))
 | refine op_box rfl (tl hn rfl) ?_
 | (refine RunsL.pe hn rfl rfl rfl ?_; first
 | refine ⟨_, pu_sub rfl rfl (by omega), ?_⟩
 | refine ⟨_, pu_build rfl rfl rfl rfl rfl rfl, ?_⟩))
  all_goals exact rr_ro rfl
theorem impl_FJ9 (a b : Int) (hA : I64 a) (hB : I64 b) : ACtv TabT Tryd.prog 12 [.agg [.int 9, .int a, .int b]] (.str ((⟨#[99, 97, 108, 108]⟩ : ByteArray) ++ (⟨#[32]⟩ ++ fmtI a))) := by
  have hR := inRange_ac 9 1 17
  have hO : ACv Tryd.prog 39 [.int 9] (.int 1) := opCountI_ac 9
  have fa := impl_FormatInt a hA
  have fb := impl_FormatInt b hB
  have la := fmtI_len a hA
  have lb := fmtI_len b hB
  have s1 : (⟨#[32]⟩ : ByteArray).size = 1 := rfl
  have s2 : (⟨#[99, 97, 108, 108]⟩ : ByteArray).size = 4 := rfl
  have e1 := cat_size ⟨#[32]⟩ (fmtI a)
  have e2 := cat_size ⟨#[32]⟩ (fmtI b)
  have e3 := cat_size ⟨#[99, 97, 108, 108]⟩ (⟨#[32]⟩ ++ fmtI a)
  refine act_enter tabT_lasts Tryd.func12 rfl _ Tryd.ntmps12 (by simp) fun C hn hm hb => ?_
  repeat' (first
 | refine RunsL.step tabOk hn rfl ?_
 | refine RunsL.nil ?_
 | refine Runs.toRegion 30 rfl ?_
 | (refine RunsL.pe hn rfl rfl rfl ?_; first
 | refine ⟨_, pu_callR hR rfl, ?_⟩
 | refine ⟨_, pu_callR hO rfl, ?_⟩
 | refine ⟨_, pu_callW (r := .str (fmtI a)) hb fa rfl, ?_⟩
 | refine ⟨_, pu_callW (r := .str (fmtI b)) hb fb rfl, ?_⟩
 | refine ⟨_, pu_indexAddr_seq rfl rfl (by decide) rfl, ?_⟩
 | refine ⟨_, pu_cat rfl rfl (by omega), ?_⟩)
 | (refine Runs.ctls 30 rfl ?_; first | refine Runs.cond_t rfl ?_ | refine Runs.cond_f rfl ?_ | ((first | refine Runs.cond_yes rfl ?_ ?_ | refine Runs.cond_nno rfl ?_ ?_); · first | omega | rfl | assumption | (simp only [List.length_map]; omega)) | ((first | refine Runs.cond_no rfl ?_ ?_ | refine Runs.cond_nyes rfl ?_ ?_); · first | omega | rfl | assumption | (simp only [List.length_map]; omega)) | refine Runs.ret (ends_ro hm rfl rfl ?_) | exact Runs.ret (ends_cellR hm rfl rfl rfl (Nat.le_of_ble_eq_true rfl) rfl rfl))
 | refine op_box rfl (tl hn rfl) ?_
 | (refine RunsL.pe hn rfl rfl rfl ?_; first
 | refine ⟨_, pu_sub rfl rfl (by omega), ?_⟩
 | refine ⟨_, pu_build rfl rfl rfl rfl rfl rfl, ?_⟩))
  all_goals exact rr_ro rfl
theorem impl_FJ10 (a b : Int) (hA : I64 a) (hB : I64 b) : ACtv TabT Tryd.prog 12 [.agg [.int 10, .int a, .int b]] (.str ((⟨#[114, 101, 116, 117, 114, 110]⟩ : ByteArray))) := by
  have hR := inRange_ac 10 1 17
  have hO : ACv Tryd.prog 39 [.int 10] (.int 0) := opCountI_ac 10
  have fa := impl_FormatInt a hA
  have fb := impl_FormatInt b hB
  have la := fmtI_len a hA
  have lb := fmtI_len b hB
  have s1 : (⟨#[32]⟩ : ByteArray).size = 1 := rfl
  have s2 : (⟨#[114, 101, 116, 117, 114, 110]⟩ : ByteArray).size = 6 := rfl
  have e1 := cat_size ⟨#[32]⟩ (fmtI a)
  have e2 := cat_size ⟨#[32]⟩ (fmtI b)
  have e3 := cat_size ⟨#[114, 101, 116, 117, 114, 110]⟩ (⟨#[32]⟩ ++ fmtI a)
  refine act_enter tabT_lasts Tryd.func12 rfl _ Tryd.ntmps12 (by simp) fun C hn hm hb => ?_
  repeat' (first
 | refine RunsL.step tabOk hn rfl ?_
 | refine RunsL.nil ?_
 | refine Runs.toRegion 30 rfl ?_
 | (refine RunsL.pe hn rfl rfl rfl ?_; first
 | refine ⟨_, pu_callR hR rfl, ?_⟩
 | refine ⟨_, pu_callR hO rfl, ?_⟩
 | refine ⟨_, pu_indexAddr_seq rfl rfl (by decide) rfl, ?_⟩
      )
 | (refine Runs.ctls 30 rfl ?_; first | refine Runs.cond_f rfl ?_ | ((first | refine Runs.cond_yes rfl ?_ ?_ | refine Runs.cond_nno rfl ?_ ?_); · first | omega | rfl | assumption | (simp only [List.length_map]; omega)) | ((first | refine Runs.cond_no rfl ?_ ?_ | refine Runs.cond_nyes rfl ?_ ?_); · first | omega | rfl | assumption | (simp only [List.length_map]; omega)) | refine Runs.ret (ends_ro hm rfl rfl ?_) | exact Runs.ret (ends_cellR hm rfl rfl rfl (Nat.le_of_ble_eq_true rfl) rfl rfl))
 | refine op_box rfl (tl hn rfl) ?_
 | (refine RunsL.pe hn rfl rfl rfl ?_; first
 | refine ⟨_, pu_sub rfl rfl (by omega), ?_⟩
 | refine ⟨_, pu_build rfl rfl rfl rfl rfl rfl, ?_⟩))
  all_goals exact rr_ro rfl
theorem impl_FJ11 (a b : Int) (hA : I64 a) (hB : I64 b) : ACtv TabT Tryd.prog 12 [.agg [.int 11, .int a, .int b]] (.str (((⟨#[116, 97, 103]⟩ : ByteArray) ++ (⟨#[32]⟩ ++ fmtI a)) ++ (⟨#[32]⟩ ++ fmtI b))) := by
  have hR := inRange_ac 11 1 17
  have hO : ACv Tryd.prog 39 [.int 11] (.int 2) := opCountI_ac 11
  have fa := impl_FormatInt a hA
  have fb := impl_FormatInt b hB
  have la := fmtI_len a hA
  have lb := fmtI_len b hB
  have s1 : (⟨#[32]⟩ : ByteArray).size = 1 := rfl
  have s2 : (⟨#[116, 97, 103]⟩ : ByteArray).size = 3 := rfl
  have e1 := cat_size ⟨#[32]⟩ (fmtI a)
  have e2 := cat_size ⟨#[32]⟩ (fmtI b)
  have e3 := cat_size ⟨#[116, 97, 103]⟩ (⟨#[32]⟩ ++ fmtI a)
  refine act_enter tabT_lasts Tryd.func12 rfl _ Tryd.ntmps12 (by simp) fun C hn hm hb => ?_
  repeat' (first
 | refine RunsL.step tabOk hn rfl ?_
 | refine RunsL.nil ?_
 | refine Runs.toRegion 30 rfl ?_
 | (refine RunsL.pe hn rfl rfl rfl ?_; first
 | refine ⟨_, pu_callR hR rfl, ?_⟩
 | refine ⟨_, pu_callR hO rfl, ?_⟩
 | refine ⟨_, pu_callW (r := .str (fmtI a)) hb fa rfl, ?_⟩
 | refine ⟨_, pu_callW (r := .str (fmtI b)) hb fb rfl, ?_⟩
 | refine ⟨_, pu_indexAddr_seq rfl rfl (by decide) rfl, ?_⟩
 | refine ⟨_, pu_cat rfl rfl (by omega), ?_⟩)
 | (refine Runs.ctls 30 rfl ?_; first | refine Runs.cond_t rfl ?_ | refine Runs.cond_f rfl ?_ | ((first | refine Runs.cond_yes rfl ?_ ?_ | refine Runs.cond_nno rfl ?_ ?_); · first | omega | rfl | assumption | (simp only [List.length_map]; omega)) | ((first | refine Runs.cond_no rfl ?_ ?_ | refine Runs.cond_nyes rfl ?_ ?_); · first | omega | rfl | assumption | (simp only [List.length_map]; omega)) | refine Runs.ret (ends_ro hm rfl rfl ?_) | exact Runs.ret (ends_cellR hm rfl rfl rfl (Nat.le_of_ble_eq_true rfl) rfl rfl))
 | refine op_box rfl (tl hn rfl) ?_
 | (refine RunsL.pe hn rfl rfl rfl ?_; first
 | refine ⟨_, pu_sub rfl rfl (by omega), ?_⟩
 | refine ⟨_, pu_build rfl rfl rfl rfl rfl rfl, ?_⟩))
  all_goals exact rr_ro rfl
theorem impl_FJ12 (a b : Int) (hA : I64 a) (hB : I64 b) : ACtv TabT Tryd.prog 12 [.agg [.int 12, .int a, .int b]] (.str ((⟨#[102, 97, 105, 108]⟩ : ByteArray) ++ (⟨#[32]⟩ ++ fmtI a))) := by
  have hR := inRange_ac 12 1 17
  have hO : ACv Tryd.prog 39 [.int 12] (.int 1) := opCountI_ac 12
  have fa := impl_FormatInt a hA
  have fb := impl_FormatInt b hB
  have la := fmtI_len a hA
  have lb := fmtI_len b hB
  have s1 : (⟨#[32]⟩ : ByteArray).size = 1 := rfl
  have s2 : (⟨#[102, 97, 105, 108]⟩ : ByteArray).size = 4 := rfl
  have e1 := cat_size ⟨#[32]⟩ (fmtI a)
  have e2 := cat_size ⟨#[32]⟩ (fmtI b)
  have e3 := cat_size ⟨#[102, 97, 105, 108]⟩ (⟨#[32]⟩ ++ fmtI a)
  refine act_enter tabT_lasts Tryd.func12 rfl _ Tryd.ntmps12 (by simp) fun C hn hm hb => ?_
  repeat' (first
 | refine RunsL.step tabOk hn rfl ?_
 | refine RunsL.nil ?_
 | refine Runs.toRegion 30 rfl ?_
 | (refine RunsL.pe hn rfl rfl rfl ?_; first
 | refine ⟨_, pu_callR hR rfl, ?_⟩
 | refine ⟨_, pu_callR hO rfl, ?_⟩
 | refine ⟨_, pu_callW (r := .str (fmtI a)) hb fa rfl, ?_⟩
 | refine ⟨_, pu_callW (r := .str (fmtI b)) hb fb rfl, ?_⟩
 | refine ⟨_, pu_indexAddr_seq rfl rfl (by decide) rfl, ?_⟩
 | refine ⟨_, pu_cat rfl rfl (by omega), ?_⟩)
 | (refine Runs.ctls 30 rfl ?_; first | refine Runs.cond_t rfl ?_ | refine Runs.cond_f rfl ?_ | ((first | refine Runs.cond_yes rfl ?_ ?_ | refine Runs.cond_nno rfl ?_ ?_); · first | omega | rfl | assumption | (simp only [List.length_map]; omega)) | ((first | refine Runs.cond_no rfl ?_ ?_ | refine Runs.cond_nyes rfl ?_ ?_); · first | omega | rfl | assumption | (simp only [List.length_map]; omega)) | refine Runs.ret (ends_ro hm rfl rfl ?_) | exact Runs.ret (ends_cellR hm rfl rfl rfl (Nat.le_of_ble_eq_true rfl) rfl rfl))
 | refine op_box rfl (tl hn rfl) ?_
 | (refine RunsL.pe hn rfl rfl rfl ?_; first
 | refine ⟨_, pu_sub rfl rfl (by omega), ?_⟩
 | refine ⟨_, pu_build rfl rfl rfl rfl rfl rfl, ?_⟩))
  all_goals exact rr_ro rfl
theorem impl_FJ13 (a b : Int) (hA : I64 a) (hB : I64 b) : ACtv TabT Tryd.prog 12 [.agg [.int 13, .int a, .int b]] (.str ((⟨#[102, 108, 97, 103]⟩ : ByteArray) ++ (⟨#[32]⟩ ++ fmtI a))) := by
  have hR := inRange_ac 13 1 17
  have hO : ACv Tryd.prog 39 [.int 13] (.int 1) := opCountI_ac 13
  have fa := impl_FormatInt a hA
  have fb := impl_FormatInt b hB
  have la := fmtI_len a hA
  have lb := fmtI_len b hB
  have s1 : (⟨#[32]⟩ : ByteArray).size = 1 := rfl
  have s2 : (⟨#[102, 108, 97, 103]⟩ : ByteArray).size = 4 := rfl
  have e1 := cat_size ⟨#[32]⟩ (fmtI a)
  have e2 := cat_size ⟨#[32]⟩ (fmtI b)
  have e3 := cat_size ⟨#[102, 108, 97, 103]⟩ (⟨#[32]⟩ ++ fmtI a)
  refine act_enter tabT_lasts Tryd.func12 rfl _ Tryd.ntmps12 (by simp) fun C hn hm hb => ?_
  repeat' (first
 | refine RunsL.step tabOk hn rfl ?_
 | refine RunsL.nil ?_
 | refine Runs.toRegion 30 rfl ?_
 | (refine RunsL.pe hn rfl rfl rfl ?_; first
 | refine ⟨_, pu_callR hR rfl, ?_⟩
 | refine ⟨_, pu_callR hO rfl, ?_⟩
 | refine ⟨_, pu_callW (r := .str (fmtI a)) hb fa rfl, ?_⟩
 | refine ⟨_, pu_callW (r := .str (fmtI b)) hb fb rfl, ?_⟩
 | refine ⟨_, pu_indexAddr_seq rfl rfl (by decide) rfl, ?_⟩
 | refine ⟨_, pu_cat rfl rfl (by omega), ?_⟩)
 | (refine Runs.ctls 30 rfl ?_; first | refine Runs.cond_t rfl ?_ | refine Runs.cond_f rfl ?_ | ((first | refine Runs.cond_yes rfl ?_ ?_ | refine Runs.cond_nno rfl ?_ ?_); · first | omega | rfl | assumption | (simp only [List.length_map]; omega)) | ((first | refine Runs.cond_no rfl ?_ ?_ | refine Runs.cond_nyes rfl ?_ ?_); · first | omega | rfl | assumption | (simp only [List.length_map]; omega)) | refine Runs.ret (ends_ro hm rfl rfl ?_) | exact Runs.ret (ends_cellR hm rfl rfl rfl (Nat.le_of_ble_eq_true rfl) rfl rfl))
 | refine op_box rfl (tl hn rfl) ?_
 | (refine RunsL.pe hn rfl rfl rfl ?_; first
 | refine ⟨_, pu_sub rfl rfl (by omega), ?_⟩
 | refine ⟨_, pu_build rfl rfl rfl rfl rfl rfl, ?_⟩))
  all_goals exact rr_ro rfl
theorem impl_FJ14 (a b : Int) (hA : I64 a) (hB : I64 b) : ACtv TabT Tryd.prog 12 [.agg [.int 14, .int a, .int b]] (.str ((⟨#[109, 97, 114, 107]⟩ : ByteArray))) := by
  have hR := inRange_ac 14 1 17
  have hO : ACv Tryd.prog 39 [.int 14] (.int 0) := opCountI_ac 14
  have fa := impl_FormatInt a hA
  have fb := impl_FormatInt b hB
  have la := fmtI_len a hA
  have lb := fmtI_len b hB
  have s1 : (⟨#[32]⟩ : ByteArray).size = 1 := rfl
  have s2 : (⟨#[109, 97, 114, 107]⟩ : ByteArray).size = 4 := rfl
  have e1 := cat_size ⟨#[32]⟩ (fmtI a)
  have e2 := cat_size ⟨#[32]⟩ (fmtI b)
  have e3 := cat_size ⟨#[109, 97, 114, 107]⟩ (⟨#[32]⟩ ++ fmtI a)
  refine act_enter tabT_lasts Tryd.func12 rfl _ Tryd.ntmps12 (by simp) fun C hn hm hb => ?_
  repeat' (first
 | refine RunsL.step tabOk hn rfl ?_
 | refine RunsL.nil ?_
 | refine Runs.toRegion 30 rfl ?_
 | (refine RunsL.pe hn rfl rfl rfl ?_; first
 | refine ⟨_, pu_callR hR rfl, ?_⟩
 | refine ⟨_, pu_callR hO rfl, ?_⟩
 | refine ⟨_, pu_indexAddr_seq rfl rfl (by decide) rfl, ?_⟩
      )
 | (refine Runs.ctls 30 rfl ?_; first | refine Runs.cond_f rfl ?_ | ((first | refine Runs.cond_yes rfl ?_ ?_ | refine Runs.cond_nno rfl ?_ ?_); · first | omega | rfl | assumption | (simp only [List.length_map]; omega)) | ((first | refine Runs.cond_no rfl ?_ ?_ | refine Runs.cond_nyes rfl ?_ ?_); · first | omega | rfl | assumption | (simp only [List.length_map]; omega)) | refine Runs.ret (ends_ro hm rfl rfl ?_) | exact Runs.ret (ends_cellR hm rfl rfl rfl (Nat.le_of_ble_eq_true rfl) rfl rfl))
 | refine op_box rfl (tl hn rfl) ?_
 | (refine RunsL.pe hn rfl rfl rfl ?_; first
 | refine ⟨_, pu_sub rfl rfl (by omega), ?_⟩
 | refine ⟨_, pu_build rfl rfl rfl rfl rfl rfl, ?_⟩))
  all_goals exact rr_ro rfl
theorem impl_FJ15 (a b : Int) (hA : I64 a) (hB : I64 b) : ACtv TabT Tryd.prog 12 [.agg [.int 15, .int a, .int b]] (.str ((⟨#[115, 117, 109]⟩ : ByteArray))) := by
  have hR := inRange_ac 15 1 17
  have hO : ACv Tryd.prog 39 [.int 15] (.int 0) := opCountI_ac 15
  have fa := impl_FormatInt a hA
  have fb := impl_FormatInt b hB
  have la := fmtI_len a hA
  have lb := fmtI_len b hB
  have s1 : (⟨#[32]⟩ : ByteArray).size = 1 := rfl
  have s2 : (⟨#[115, 117, 109]⟩ : ByteArray).size = 3 := rfl
  have e1 := cat_size ⟨#[32]⟩ (fmtI a)
  have e2 := cat_size ⟨#[32]⟩ (fmtI b)
  have e3 := cat_size ⟨#[115, 117, 109]⟩ (⟨#[32]⟩ ++ fmtI a)
  refine act_enter tabT_lasts Tryd.func12 rfl _ Tryd.ntmps12 (by simp) fun C hn hm hb => ?_
  repeat' (first
 | refine RunsL.step tabOk hn rfl ?_
 | refine RunsL.nil ?_
 | refine Runs.toRegion 30 rfl ?_
 | (refine RunsL.pe hn rfl rfl rfl ?_; first
 | refine ⟨_, pu_callR hR rfl, ?_⟩
 | refine ⟨_, pu_callR hO rfl, ?_⟩
 | refine ⟨_, pu_indexAddr_seq rfl rfl (by decide) rfl, ?_⟩
      )
 | (refine Runs.ctls 30 rfl ?_; first | refine Runs.cond_f rfl ?_ | ((first | refine Runs.cond_yes rfl ?_ ?_ | refine Runs.cond_nno rfl ?_ ?_); · first | omega | rfl | assumption | (simp only [List.length_map]; omega)) | ((first | refine Runs.cond_no rfl ?_ ?_ | refine Runs.cond_nyes rfl ?_ ?_); · first | omega | rfl | assumption | (simp only [List.length_map]; omega)) | refine Runs.ret (ends_ro hm rfl rfl ?_) | exact Runs.ret (ends_cellR hm rfl rfl rfl (Nat.le_of_ble_eq_true rfl) rfl rfl))
 | refine op_box rfl (tl hn rfl) ?_
 | (refine RunsL.pe hn rfl rfl rfl ?_; first
 | refine ⟨_, pu_sub rfl rfl (by omega), ?_⟩
 | refine ⟨_, pu_build rfl rfl rfl rfl rfl rfl, ?_⟩))
  all_goals exact rr_ro rfl
theorem impl_FJ16 (a b : Int) (hA : I64 a) (hB : I64 b) : ACtv TabT Tryd.prog 12 [.agg [.int 16, .int a, .int b]] (.str ((⟨#[117, 110, 116, 105, 108]⟩ : ByteArray) ++ (⟨#[32]⟩ ++ fmtI a))) := by
  have hR := inRange_ac 16 1 17
  have hO : ACv Tryd.prog 39 [.int 16] (.int 1) := opCountI_ac 16
  have fa := impl_FormatInt a hA
  have fb := impl_FormatInt b hB
  have la := fmtI_len a hA
  have lb := fmtI_len b hB
  have s1 : (⟨#[32]⟩ : ByteArray).size = 1 := rfl
  have s2 : (⟨#[117, 110, 116, 105, 108]⟩ : ByteArray).size = 5 := rfl
  have e1 := cat_size ⟨#[32]⟩ (fmtI a)
  have e2 := cat_size ⟨#[32]⟩ (fmtI b)
  have e3 := cat_size ⟨#[117, 110, 116, 105, 108]⟩ (⟨#[32]⟩ ++ fmtI a)
  refine act_enter tabT_lasts Tryd.func12 rfl _ Tryd.ntmps12 (by simp) fun C hn hm hb => ?_
  repeat' (first
 | refine RunsL.step tabOk hn rfl ?_
 | refine RunsL.nil ?_
 | refine Runs.toRegion 30 rfl ?_
 | (refine RunsL.pe hn rfl rfl rfl ?_; first
 | refine ⟨_, pu_callR hR rfl, ?_⟩
 | refine ⟨_, pu_callR hO rfl, ?_⟩
 | refine ⟨_, pu_callW (r := .str (fmtI a)) hb fa rfl, ?_⟩
 | refine ⟨_, pu_callW (r := .str (fmtI b)) hb fb rfl, ?_⟩
 | refine ⟨_, pu_indexAddr_seq rfl rfl (by decide) rfl, ?_⟩
 | refine ⟨_, pu_cat rfl rfl (by omega), ?_⟩)
 | (refine Runs.ctls 30 rfl ?_; first | refine Runs.cond_t rfl ?_ | refine Runs.cond_f rfl ?_ | ((first | refine Runs.cond_yes rfl ?_ ?_ | refine Runs.cond_nno rfl ?_ ?_); · first | omega | rfl | assumption | (simp only [List.length_map]; omega)) | ((first | refine Runs.cond_no rfl ?_ ?_ | refine Runs.cond_nyes rfl ?_ ?_); · first | omega | rfl | assumption | (simp only [List.length_map]; omega)) | refine Runs.ret (ends_ro hm rfl rfl ?_) | exact Runs.ret (ends_cellR hm rfl rfl rfl (Nat.le_of_ble_eq_true rfl) rfl rfl))
 | refine op_box rfl (tl hn rfl) ?_
 | (refine RunsL.pe hn rfl rfl rfl ?_; first
 | refine ⟨_, pu_sub rfl rfl (by omega), ?_⟩
 | refine ⟨_, pu_build rfl rfl rfl rfl rfl rfl, ?_⟩))
  all_goals exact rr_ro rfl
theorem impl_FJ17 (a b : Int) (hA : I64 a) (hB : I64 b) : ACtv TabT Tryd.prog 12 [.agg [.int 17, .int a, .int b]] (.str ((⟨#[101, 110, 100]⟩ : ByteArray))) := by
  have hR := inRange_ac 17 1 17
  have hO : ACv Tryd.prog 39 [.int 17] (.int 0) := opCountI_ac 17
  have fa := impl_FormatInt a hA
  have fb := impl_FormatInt b hB
  have la := fmtI_len a hA
  have lb := fmtI_len b hB
  have s1 : (⟨#[32]⟩ : ByteArray).size = 1 := rfl
  have s2 : (⟨#[101, 110, 100]⟩ : ByteArray).size = 3 := rfl
  have e1 := cat_size ⟨#[32]⟩ (fmtI a)
  have e2 := cat_size ⟨#[32]⟩ (fmtI b)
  have e3 := cat_size ⟨#[101, 110, 100]⟩ (⟨#[32]⟩ ++ fmtI a)
  refine act_enter tabT_lasts Tryd.func12 rfl _ Tryd.ntmps12 (by simp) fun C hn hm hb => ?_
  repeat' (first
 | refine RunsL.step tabOk hn rfl ?_
 | refine RunsL.nil ?_
 | refine Runs.toRegion 30 rfl ?_
 | (refine RunsL.pe hn rfl rfl rfl ?_; first
 | refine ⟨_, pu_callR hR rfl, ?_⟩
 | refine ⟨_, pu_callR hO rfl, ?_⟩
 | refine ⟨_, pu_indexAddr_seq rfl rfl (by decide) rfl, ?_⟩
      )
 | (refine Runs.ctls 30 rfl ?_; first | refine Runs.cond_f rfl ?_ | ((first | refine Runs.cond_yes rfl ?_ ?_ | refine Runs.cond_nno rfl ?_ ?_); · first | omega | rfl | assumption | (simp only [List.length_map]; omega)) | ((first | refine Runs.cond_no rfl ?_ ?_ | refine Runs.cond_nyes rfl ?_ ?_); · first | omega | rfl | assumption | (simp only [List.length_map]; omega)) | refine Runs.ret (ends_ro hm rfl rfl ?_) | exact Runs.ret (ends_cellR hm rfl rfl rfl (Nat.le_of_ble_eq_true rfl) rfl rfl))
 | refine op_box rfl (tl hn rfl) ?_
 | (refine RunsL.pe hn rfl rfl rfl ?_; first
 | refine ⟨_, pu_sub rfl rfl (by omega), ?_⟩
 | refine ⟨_, pu_build rfl rfl rfl rfl rfl rfl, ?_⟩))
  all_goals exact rr_ro rfl
theorem app_size3 (a b : ByteArray) (h : 3 ≤ a.size) : 3 ≤ (a ++ b).size := by rw [cat_size]; omega
theorem impl_FJ (op a b : Int) (hA : I64 a) (hB : I64 b) (h : 1 ≤ op ∧ op ≤ 17) : ∃ s : ByteArray, ACtv TabT Tryd.prog 12 [.agg [.int op, .int a, .int b]] (.str s) ∧ 3 ≤ s.size := by
  have hc : op = 1 ∨ op = 2 ∨ op = 3 ∨ op = 4 ∨ op = 5 ∨ op = 6 ∨ op = 7 ∨ op = 8 ∨ op = 9 ∨ op = 10 ∨ op = 11 ∨ op = 12 ∨ op = 13 ∨ op = 14 ∨ op = 15 ∨ op = 16 ∨ op = 17 := by omega
  rcases hc with rfl | rfl | rfl | rfl | rfl | rfl | rfl | rfl | rfl | rfl | rfl | rfl | rfl | rfl | rfl | rfl | rfl
  · exact ⟨_, impl_FJ1 a b hA hB, app_size3 _ _ (app_size3 _ _ (by decide))⟩
  · exact ⟨_, impl_FJ2 a b hA hB, app_size3 _ _ (by decide)⟩
  · exact ⟨_, impl_FJ3 a b hA hB, app_size3 _ _ (by decide)⟩
  · exact ⟨_, impl_FJ4 a b hA hB, by decide⟩
  · exact ⟨_, impl_FJ5 a b hA hB, app_size3 _ _ (by decide)⟩
  · exact ⟨_, impl_FJ6 a b hA hB, by decide⟩
  · exact ⟨_, impl_FJ7 a b hA hB, app_size3 _ _ (by decide)⟩
  · exact ⟨_, impl_FJ8 a b hA hB, app_size3 _ _ (by decide)⟩
  · exact ⟨_, impl_FJ9 a b hA hB, app_size3 _ _ (by decide)⟩
  · exact ⟨_, impl_FJ10 a b hA hB, by decide⟩
  · exact ⟨_, impl_FJ11 a b hA hB, app_size3 _ _ (app_size3 _ _ (by decide))⟩
  · exact ⟨_, impl_FJ12 a b hA hB, app_size3 _ _ (by decide)⟩
  · exact ⟨_, impl_FJ13 a b hA hB, app_size3 _ _ (by decide)⟩
  · exact ⟨_, impl_FJ14 a b hA hB, by decide⟩
  · exact ⟨_, impl_FJ15 a b hA hB, by decide⟩
  · exact ⟨_, impl_FJ16 a b hA hB, app_size3 _ _ (by decide)⟩
  · exact ⟨_, impl_FJ17 a b hA hB, by decide⟩
end Go.Proofs.YtofefjklipglhaaDoor
