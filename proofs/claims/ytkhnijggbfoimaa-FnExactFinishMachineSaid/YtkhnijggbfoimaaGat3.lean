/- Gathered texts. -/
import Derived.Test.YtkhnijggbfoimaaGat0
import Derived.Test.YtkhnijggbfoimaaGat1
import Derived.Test.YtkhnijggbfoimaaGat2
import Derived.Laws.Tables
/- Programs and machines that the laws' helpers make; marks on machines. -/
namespace Go.Proofs.Ytkhnijggbfoimaa
set_option linter.unusedSimpArgs false
set_option linter.unusedVariables false
open Go.RowKit
open AV (Mem Keeps)
theorem toInssO_ac (a : List Ins) (hl : a.length ≤ 4194304) : ACo Try.prog 37 [inssR a] (inssO a) := by
  have hl' : (a.map insR).length = a.length := List.length_map ..
  refine aco_row (vs := a.flatMap insV) ?_
  rw [← insRV]
  refine ac_enter Try.func37 rfl _ Try.ntmps37 (by simp) fun C hn hm => ?_
  repeat' (first
 | refine RunsL.step tabOk hn rfl ?_
 | refine RunsL.nil ?_
 | refine Runs.toRegion 30 rfl ?_
 | refine op_makeN (zs := [.int .i64 0, .int .i64 0, .int .i64 0]) rfl rfl rfl rfl (by decide) rfl (by omega) (by unfold maxLen; omega) (tl hn rfl) ?_
 | (refine Runs.ctls 30 rfl ?_; first | refine Runs.cond_t rfl ?_ | refine Runs.cond_f rfl ?_ | ((first | refine Runs.cond_yes rfl ?_ ?_ | refine Runs.cond_nno rfl ?_ ?_); · first | omega | rfl | assumption | (simp only [List.length_map]; omega)) | ((first | refine Runs.cond_no rfl ?_ ?_ | refine Runs.cond_nyes rfl ?_ ?_); · first | omega | rfl | assumption | (simp only [List.length_map]; omega)) | refine Runs.cond_dec rfl (fun h => ?_) (fun h => ?_) | refine Runs.cond_ndec rfl (fun h => ?_) (fun h => ?_) | refine Runs.cond_nb rfl (fun h => ?_) (fun h => ?_) | refine Runs.cond_b rfl (fun h => ?_) (fun h => ?_) | refine Runs.ret (ends_ro hm rfl rfl ?_) | exact Runs.ret (ends_cellR hm rfl rfl rfl (Nat.le_of_ble_eq_true rfl) rfl rfl))
 | refine op_box rfl (tl hn rfl) ?_
 | refine op_storeF rfl rfl rfl rfl (Nat.le_of_ble_eq_true rfl) ?_
 | refine op_alloc (tl hn rfl) ?_
 | refine op_storeN rfl rfl rfl rfl (Nat.le_of_ble_eq_true rfl) ?_
 | (refine RunsL.pe hn rfl rfl rfl ?_; first
 | refine ⟨_, pu_add rfl rfl (by omega), ?_⟩
 | refine ⟨_, pu_indexAddr_map rfl rfl (by omega) (by assumption), ?_⟩
 | refine ⟨_, pu_sub rfl rfl (by omega), ?_⟩
 | refine ⟨_, pu_pick_b rfl rfl rfl, ?_⟩
 | refine ⟨_, pu_mul rfl rfl (by omega), ?_⟩
 | refine ⟨_, pu_build rfl rfl rfl rfl rfl rfl, ?_⟩))
  refine Runs.loopN 30 rfl (fun j => [(0, .ro (inssR a)), (3, .own 0), (4, .int (j : Int))]) (fun j => [⟨74, 3, (filled insR [.int 0, .int 0, .int 0] a j).map .ro⟩]) (fun _ => True) a.length 0 (Nat.zero_le _) trivial ⟨rfl, rfl, rfl, trivial⟩ (by rw [filled_zero, hl']; rfl) fun j hj _ next => ?_
  have hlen := filled_len insR_len (zc := [.int 0, .int 0, .int 0]) rfl a j hj
  by_cases hlt : j < a.length
  · obtain ⟨x, hx⟩ : ∃ x, a[(j : Int).toNat]? = some x := ⟨_, List.getElem?_eq_getElem hlt⟩
    repeat' (first
 | refine RunsL.step tabOk hn rfl ?_
 | refine RunsL.nil ?_
 | refine Runs.toRegion 30 rfl ?_
 | refine op_storeN rfl rfl rfl rfl (by simp only [List.length_map, insR_len]; omega) ?_
 | (refine RunsL.pe hn rfl rfl rfl ?_; first
 | refine ⟨_, pu_callR (toIns_ac x) rfl, ?_⟩
 | refine ⟨_, pu_indexAddr_own (n := a.length) rfl rfl rfl rfl (by simp only [List.length_map]; omega) (by omega) (by omega), ?_⟩)
 | (refine Runs.ctls 30 rfl ?_; first | refine Runs.cond_t rfl ?_ | refine Runs.cond_f rfl ?_ | ((first | refine Runs.cond_yes rfl ?_ ?_ | refine Runs.cond_nno rfl ?_ ?_); · first | omega | rfl | assumption | (simp only [List.length_map]; omega)) | ((first | refine Runs.cond_no rfl ?_ ?_ | refine Runs.cond_nyes rfl ?_ ?_); · first | omega | rfl | assumption | (simp only [List.length_map]; omega)) | refine Runs.cond_dec rfl (fun h => ?_) (fun h => ?_) | refine Runs.cond_ndec rfl (fun h => ?_) (fun h => ?_) | refine Runs.cond_nb rfl (fun h => ?_) (fun h => ?_) | refine Runs.cond_b rfl (fun h => ?_) (fun h => ?_) | refine Runs.ret (ends_ro hm rfl rfl ?_) | exact Runs.ret (ends_cellR hm rfl rfl rfl (Nat.le_of_ble_eq_true rfl) rfl rfl))
 | refine op_box rfl (tl hn rfl) ?_
 | refine op_storeF rfl rfl rfl rfl (Nat.le_of_ble_eq_true rfl) ?_
 | refine op_alloc (tl hn rfl) ?_
 | refine op_storeN rfl rfl rfl rfl (Nat.le_of_ble_eq_true rfl) ?_
 | (refine RunsL.pe hn rfl rfl rfl ?_; first
 | refine ⟨_, pu_add rfl rfl (by omega), ?_⟩
 | refine ⟨_, pu_indexAddr_map rfl rfl (by omega) (by assumption), ?_⟩
 | refine ⟨_, pu_sub rfl rfl (by omega), ?_⟩
 | refine ⟨_, pu_pick_b rfl rfl rfl, ?_⟩
 | refine ⟨_, pu_mul rfl rfl (by omega), ?_⟩
 | refine ⟨_, pu_build rfl rfl rfl rfl rfl rfl, ?_⟩))
    refine next _ _ ⟨rfl, rfl, rfl, trivial⟩ hlt trivial ?_
    rw [← filled_set insR_len rfl a j x hx]
    rfl
  · obtain rfl : j = a.length := by omega
    repeat' (first
 | refine RunsL.step tabOk hn rfl ?_
 | refine RunsL.nil ?_
 | refine Runs.toRegion 30 rfl ?_
 | (refine Runs.ctls 30 rfl ?_; first | refine Runs.cond_t rfl ?_ | refine Runs.cond_f rfl ?_ | ((first | refine Runs.cond_yes rfl ?_ ?_ | refine Runs.cond_nno rfl ?_ ?_); · first | omega | rfl | assumption | (simp only [List.length_map]; omega)) | ((first | refine Runs.cond_no rfl ?_ ?_ | refine Runs.cond_nyes rfl ?_ ?_); · first | omega | rfl | assumption | (simp only [List.length_map]; omega)) | refine Runs.cond_dec rfl (fun h => ?_) (fun h => ?_) | refine Runs.cond_ndec rfl (fun h => ?_) (fun h => ?_) | refine Runs.cond_nb rfl (fun h => ?_) (fun h => ?_) | refine Runs.cond_b rfl (fun h => ?_) (fun h => ?_) | refine Runs.ret (ends_ro hm rfl rfl ?_) | exact Runs.ret (ends_cellR hm rfl rfl rfl (Nat.le_of_ble_eq_true rfl) rfl rfl))
 | refine op_box rfl (tl hn rfl) ?_
 | refine op_storeF rfl rfl rfl rfl (Nat.le_of_ble_eq_true rfl) ?_
 | refine op_alloc (tl hn rfl) ?_
 | refine op_storeN rfl rfl rfl rfl (Nat.le_of_ble_eq_true rfl) ?_
 | (refine RunsL.pe hn rfl rfl rfl ?_; first
 | refine ⟨_, pu_add rfl rfl (by omega), ?_⟩
 | refine ⟨_, pu_indexAddr_map rfl rfl (by omega) (by assumption), ?_⟩
 | refine ⟨_, pu_sub rfl rfl (by omega), ?_⟩
 | refine ⟨_, pu_pick_b rfl rfl rfl, ?_⟩
 | refine ⟨_, pu_mul rfl rfl (by omega), ?_⟩
 | refine ⟨_, pu_build rfl rfl rfl rfl rfl rfl, ?_⟩))
    exact Runs.ctls 30 rfl (Runs.ret (ends_own (rs := (a.map insR).flatten) hm rfl rfl rfl (by rw [filled_full]) rfl))
set_option maxHeartbeats 4000000 in
theorem toPrgO_ac (p : Prg) (h1 : p.code.length ≤ 1048576) (h2 : p.entries.length ≤ 1048576) : ACo Try.prog 11 [prgR p] (prgO p) := by
  refine aco_enter Try.func11 rfl _ Try.ntmps11 (by simp) fun C hn hm => ?_
  repeat' (first
 | refine RunsL.step tabOk hn rfl ?_
 | refine RunsL.nil ?_
 | refine Runs.toRegion 30 rfl ?_
 | (refine Runs.ctls 30 rfl ?_; first | refine Runs.cond_t rfl ?_ | refine Runs.cond_f rfl ?_ | ((first | refine Runs.cond_yes rfl ?_ ?_ | refine Runs.cond_nno rfl ?_ ?_); · first | omega | rfl | assumption | (simp only [List.length_map]; omega)) | ((first | refine Runs.cond_no rfl ?_ ?_ | refine Runs.cond_nyes rfl ?_ ?_); · first | omega | rfl | assumption | (simp only [List.length_map]; omega)) | refine Runs.cond_dec rfl (fun h => ?_) (fun h => ?_) | refine Runs.cond_ndec rfl (fun h => ?_) (fun h => ?_) | refine Runs.cond_nb rfl (fun h => ?_) (fun h => ?_) | refine Runs.cond_b rfl (fun h => ?_) (fun h => ?_) | refine Runs.ret (ends_ro hm rfl rfl ?_) | exact Runs.ret (ends_cellR hm rfl rfl rfl (Nat.le_of_ble_eq_true rfl) rfl rfl))
 | refine op_box rfl (tl hn rfl) ?_
 | refine op_storeF rfl rfl rfl rfl (Nat.le_of_ble_eq_true rfl) ?_
 | refine op_alloc (tl hn rfl) ?_
 | refine op_storeN rfl rfl rfl rfl (Nat.le_of_ble_eq_true rfl) ?_
 | (refine RunsL.pe hn rfl rfl rfl ?_; first
 | refine ⟨_, pu_add rfl rfl (by omega), ?_⟩
 | refine ⟨_, pu_indexAddr_map rfl rfl (by omega) (by assumption), ?_⟩
 | refine ⟨_, pu_sub rfl rfl (by omega), ?_⟩
 | refine ⟨_, pu_pick_b rfl rfl rfl, ?_⟩
 | refine ⟨_, pu_mul rfl rfl (by omega), ?_⟩
 | refine ⟨_, pu_build rfl rfl rfl rfl rfl rfl, ?_⟩))
  refine op_callN (toInssO_ac p.code (by omega)) (.cons .ro .nil) (tl hn rfl) fun C1 u1 b1 nx1 gh1 nd1 new1 => ?_
  obtain ⟨A1, n1, c1, rfl⟩ := row_slice gh1.rel
  have hn := nx1.n.trans hn
  repeat' (first
 | refine RunsL.step tabOk hn rfl ?_
 | refine RunsL.nil ?_
 | refine Runs.toRegion 30 rfl ?_
 | (refine Runs.ctls 30 rfl ?_; first | refine Runs.cond_t rfl ?_ | refine Runs.cond_f rfl ?_ | ((first | refine Runs.cond_yes rfl ?_ ?_ | refine Runs.cond_nno rfl ?_ ?_); · first | omega | rfl | assumption | (simp only [List.length_map]; omega)) | ((first | refine Runs.cond_no rfl ?_ ?_ | refine Runs.cond_nyes rfl ?_ ?_); · first | omega | rfl | assumption | (simp only [List.length_map]; omega)) | refine Runs.cond_dec rfl (fun h => ?_) (fun h => ?_) | refine Runs.cond_ndec rfl (fun h => ?_) (fun h => ?_) | refine Runs.cond_nb rfl (fun h => ?_) (fun h => ?_) | refine Runs.cond_b rfl (fun h => ?_) (fun h => ?_) | refine Runs.ret (ends_ro hm rfl rfl ?_) | exact Runs.ret (ends_cellR hm rfl rfl rfl (Nat.le_of_ble_eq_true rfl) rfl rfl))
 | refine op_box rfl (tl hn rfl) ?_
 | refine op_storeF rfl rfl rfl rfl (Nat.le_of_ble_eq_true rfl) ?_
 | refine op_alloc (tl hn rfl) ?_
 | refine op_storeN rfl rfl rfl rfl (Nat.le_of_ble_eq_true rfl) ?_
 | (refine RunsL.pe hn rfl rfl rfl ?_; first
 | refine ⟨_, pu_add rfl rfl (by omega), ?_⟩
 | refine ⟨_, pu_indexAddr_map rfl rfl (by omega) (by assumption), ?_⟩
 | refine ⟨_, pu_sub rfl rfl (by omega), ?_⟩
 | refine ⟨_, pu_pick_b rfl rfl rfl, ?_⟩
 | refine ⟨_, pu_mul rfl rfl (by omega), ?_⟩
 | refine ⟨_, pu_build rfl rfl rfl rfl rfl rfl, ?_⟩))
  refine op_callN (toIntsO_ac p.entries (by omega)) (.cons .ro .nil) (tl hn rfl) fun C2 u2 b2 nx2 gh2 nd2 new2 => ?_
  obtain ⟨A2, n2, c2, rfl⟩ := row_slice gh2.rel
  have hn := nx2.n.trans hn
  repeat' (first
 | refine RunsL.step tabOk hn rfl ?_
 | refine RunsL.nil ?_
 | refine Runs.toRegion 30 rfl ?_
 | (refine Runs.ctls 30 rfl ?_; first | refine Runs.cond_t rfl ?_ | refine Runs.cond_f rfl ?_ | ((first | refine Runs.cond_yes rfl ?_ ?_ | refine Runs.cond_nno rfl ?_ ?_); · first | omega | rfl | assumption | (simp only [List.length_map]; omega)) | ((first | refine Runs.cond_no rfl ?_ ?_ | refine Runs.cond_nyes rfl ?_ ?_); · first | omega | rfl | assumption | (simp only [List.length_map]; omega)) | refine Runs.cond_dec rfl (fun h => ?_) (fun h => ?_) | refine Runs.cond_ndec rfl (fun h => ?_) (fun h => ?_) | refine Runs.cond_nb rfl (fun h => ?_) (fun h => ?_) | refine Runs.cond_b rfl (fun h => ?_) (fun h => ?_) | refine Runs.ret (ends_ro hm rfl rfl ?_) | exact Runs.ret (ends_cellR hm rfl rfl rfl (Nat.le_of_ble_eq_true rfl) rfl rfl))
 | refine op_box rfl (tl hn rfl) ?_
 | refine op_storeF rfl rfl rfl rfl (Nat.le_of_ble_eq_true rfl) ?_
 | refine op_alloc (tl hn rfl) ?_
 | refine op_storeN rfl rfl rfl rfl (Nat.le_of_ble_eq_true rfl) ?_
 | (refine RunsL.pe hn rfl rfl rfl ?_; first
 | refine ⟨_, pu_add rfl rfl (by omega), ?_⟩
 | refine ⟨_, pu_indexAddr_map rfl rfl (by omega) (by assumption), ?_⟩
 | refine ⟨_, pu_sub rfl rfl (by omega), ?_⟩
 | refine ⟨_, pu_pick_b rfl rfl rfl, ?_⟩
 | refine ⟨_, pu_mul rfl rfl (by omega), ?_⟩
 | refine ⟨_, pu_build rfl rfl rfl rfl rfl rfl, ?_⟩))
  have g1 := gh1.next nx2 (by simp)
  have s1 := (Sc.start hm).next nx1 (by simp)
  have s2 := s1.next nx2 (by simp)
  have z1 := nx1.size
  refine Runs.ctls 30 rfl (Runs.ret (endsO_cell (us := [.slice A1 n1 c1, .slice A2 n2 c2]) (bs := b1 ++ b2) s2 rfl rfl rfl rfl rfl ?_ (fun b hb => ?_) ?_ fun b hb => ?_))
  · simp only [OV.rels]
    exact ⟨_, _, b1, _, rfl, rfl, g1.rel, _, _, b2, [], rfl, by simp, gh2.rel, rfl, rfl⟩
  · rcases List.mem_append.1 hb with hb | hb
    · exact ⟨(g1.fix b hb).1, (g1.fix b hb).2.1⟩
    · exact ⟨(gh2.fix b hb).1, (gh2.fix b hb).2.1⟩
  · exact nodup_two C1.w0.heap.size nd1 nd2 (fun x hx => (gh1.fix x hx).1) new2
  · rcases List.mem_append.1 hb with hb | hb
    · exact new1 b hb
    · have := new2 b hb; omega
def mchO (m : Mch) : OV := .agg [.c (.int .i64 m.pc), .c (.int .i64 m.register), intsO m.stack, intsO m.sums, .c (.int .i64 m.left), .c (.bool m.started), .c (.bool m.escaped), .c (.int .i64 m.state), .c (.int .i64 m.code), .c (.int .i64 m.read)]
theorem seal_mch (m : Mch) : OV.Seal (mchO m) (mchR m) := by
  simp only [mchO, mchR, OV.Seal]
  exact ⟨_, rfl, by simp only [OV.Seals]; exact ⟨_, _, rfl, by simp [OV.Seal], _, _, rfl, by simp [OV.Seal], _, _, rfl, seal_ints _, _, _, rfl, seal_ints _, _, _, rfl, by simp [OV.Seal], _, _, rfl, by simp [OV.Seal], _, _, rfl, by simp [OV.Seal], _, _, rfl, by simp [OV.Seal], _, _, rfl, by simp [OV.Seal], _, _, rfl, by simp [OV.Seal], rfl⟩⟩
def mchV (m : Mch) (A A' : Option Addr) (n c n' c' : Nat) : Value := .agg #[.int .i64 m.pc, .int .i64 m.register, .slice A n c, .slice A' n' c', .int .i64 m.left, .bool m.started, .bool m.escaped, .int .i64 m.state, .int .i64 m.code, .int .i64 m.read]
theorem mch_open {w : World} {m : Mch} {u : Value} {bs : List Nat} (h : OV.rel w (mchO m) u bs) : ∃ A n c A' n' c', u = mchV m A A' n c n' c' ∧ ∃ b1 b2, bs = b1 ++ b2 ∧ OV.rel w (intsO m.stack) (.slice A n c) b1 ∧ OV.rel w (intsO m.sums) (.slice A' n' c') b2 := by
  simp only [mchO, OV.rel, OV.rels] at h
  obtain ⟨us, rfl, v0, _, _, _, e0, rfl, ⟨rfl, rfl⟩, v1, _, _, _, rfl, rfl, ⟨rfl, rfl⟩, v2, _, b1, _, rfl, rfl, h2, v3, _, b2, _, rfl, rfl, h3, v4, _, _, _, rfl, rfl, ⟨rfl, rfl⟩, v5, _, _, _, rfl, rfl, ⟨rfl, rfl⟩, v6, _, _, _, rfl, rfl, ⟨rfl, rfl⟩, v7, _, _, _, rfl, rfl, ⟨rfl, rfl⟩, v8, _, _, _, rfl, rfl, ⟨rfl, rfl⟩, v9, _, _, _, rfl, rfl, ⟨rfl, rfl⟩, rfl, rfl⟩ := h
  obtain ⟨us⟩ := us
  simp only at e0
  subst e0
  obtain ⟨A, n, c, rfl⟩ := row_slice (show OV.rel w (intsO m.stack) v2 b1 from h2)
  obtain ⟨A', n', c', rfl⟩ := row_slice (show OV.rel w (intsO m.sums) v3 b2 from h3)
  exact ⟨A, n, c, A', n', c', rfl, b1, b2, by simp, h2, h3⟩
theorem mch_shut {w : World} {m : Mch} {A A' : Option Addr} {n c n' c' : Nat} {b1 b2 : List Nat} (h1 : OV.rel w (intsO m.stack) (.slice A n c) b1) (h2 : OV.rel w (intsO m.sums) (.slice A' n' c') b2) : OV.rel w (mchO m) (mchV m A A' n c n' c') (b1 ++ b2) := by
  simp only [mchO, mchV, OV.rel, OV.rels]
  exact ⟨_, rfl, _, _, [], _, rfl, rfl, ⟨rfl, rfl⟩, _, _, [], _, rfl, rfl, ⟨rfl, rfl⟩, _, _, b1, _, rfl, rfl, h1, _, _, b2, [], rfl, by simp, h2, _, _, [], _, rfl, rfl, ⟨rfl, rfl⟩, _, _, [], _, rfl, rfl, ⟨rfl, rfl⟩, _, _, [], _, rfl, rfl, ⟨rfl, rfl⟩, _, _, [], _, rfl, rfl, ⟨rfl, rfl⟩, _, _, [], _, rfl, rfl, ⟨rfl, rfl⟩, _, _, [], _, rfl, rfl, ⟨rfl, rfl⟩, rfl, rfl⟩
theorem mch_val {w : World} {m : Mch} {u : Value} {bs : List Nat} (h : OV.rel w (mchO m) u bs) : ∃ A n c A' n' c', u = mchV m A A' n c n' c' := by
  obtain ⟨A, n, c, A', n', c', e, _⟩ := mch_open h
  exact ⟨A, n, c, A', n', c', e⟩
set_option maxHeartbeats 8000000 in
theorem toMchO_ac (m : Mch) (h1 : m.stack.length ≤ 1048576) (h2 : m.sums.length ≤ 1048576) : ACo Try.prog 12 [mchR m] (mchO m) := by
  refine aco_enter Try.func12 rfl _ Try.ntmps12 (by simp) fun C hn hm => ?_
  repeat' (first
 | refine RunsL.step tabOk hn rfl ?_
 | refine RunsL.nil ?_
 | refine Runs.toRegion 30 rfl ?_
 | (refine Runs.ctls 30 rfl ?_; first | refine Runs.cond_t rfl ?_ | refine Runs.cond_f rfl ?_ | ((first | refine Runs.cond_yes rfl ?_ ?_ | refine Runs.cond_nno rfl ?_ ?_); · first | omega | rfl | assumption | (simp only [List.length_map]; omega)) | ((first | refine Runs.cond_no rfl ?_ ?_ | refine Runs.cond_nyes rfl ?_ ?_); · first | omega | rfl | assumption | (simp only [List.length_map]; omega)) | refine Runs.cond_dec rfl (fun h => ?_) (fun h => ?_) | refine Runs.cond_ndec rfl (fun h => ?_) (fun h => ?_) | refine Runs.cond_nb rfl (fun h => ?_) (fun h => ?_) | refine Runs.cond_b rfl (fun h => ?_) (fun h => ?_) | refine Runs.ret (ends_ro hm rfl rfl ?_) | exact Runs.ret (ends_cellR hm rfl rfl rfl (Nat.le_of_ble_eq_true rfl) rfl rfl))
 | refine op_box rfl (tl hn rfl) ?_
 | refine op_storeF rfl rfl rfl rfl (Nat.le_of_ble_eq_true rfl) ?_
 | refine op_alloc (tl hn rfl) ?_
 | refine op_storeN rfl rfl rfl rfl (Nat.le_of_ble_eq_true rfl) ?_
 | (refine RunsL.pe hn rfl rfl rfl ?_; first
 | refine ⟨_, pu_add rfl rfl (by omega), ?_⟩
 | refine ⟨_, pu_indexAddr_map rfl rfl (by omega) (by assumption), ?_⟩
 | refine ⟨_, pu_sub rfl rfl (by omega), ?_⟩
 | refine ⟨_, pu_pick_b rfl rfl rfl, ?_⟩
 | refine ⟨_, pu_mul rfl rfl (by omega), ?_⟩
 | refine ⟨_, pu_build rfl rfl rfl rfl rfl rfl, ?_⟩))
  refine op_callN (toIntsO_ac m.stack (by omega)) (.cons .ro .nil) (tl hn rfl) fun C1 u1 b1 nx1 gh1 nd1 new1 => ?_
  obtain ⟨A1, n1, c1, rfl⟩ := row_slice gh1.rel
  have hn := nx1.n.trans hn
  repeat' (first
 | refine RunsL.step tabOk hn rfl ?_
 | refine RunsL.nil ?_
 | refine Runs.toRegion 30 rfl ?_
 | (refine Runs.ctls 30 rfl ?_; first | refine Runs.cond_t rfl ?_ | refine Runs.cond_f rfl ?_ | ((first | refine Runs.cond_yes rfl ?_ ?_ | refine Runs.cond_nno rfl ?_ ?_); · first | omega | rfl | assumption | (simp only [List.length_map]; omega)) | ((first | refine Runs.cond_no rfl ?_ ?_ | refine Runs.cond_nyes rfl ?_ ?_); · first | omega | rfl | assumption | (simp only [List.length_map]; omega)) | refine Runs.cond_dec rfl (fun h => ?_) (fun h => ?_) | refine Runs.cond_ndec rfl (fun h => ?_) (fun h => ?_) | refine Runs.cond_nb rfl (fun h => ?_) (fun h => ?_) | refine Runs.cond_b rfl (fun h => ?_) (fun h => ?_) | refine Runs.ret (ends_ro hm rfl rfl ?_) | exact Runs.ret (ends_cellR hm rfl rfl rfl (Nat.le_of_ble_eq_true rfl) rfl rfl))
 | refine op_box rfl (tl hn rfl) ?_
 | refine op_storeF rfl rfl rfl rfl (Nat.le_of_ble_eq_true rfl) ?_
 | refine op_alloc (tl hn rfl) ?_
 | refine op_storeN rfl rfl rfl rfl (Nat.le_of_ble_eq_true rfl) ?_
 | (refine RunsL.pe hn rfl rfl rfl ?_; first
 | refine ⟨_, pu_add rfl rfl (by omega), ?_⟩
 | refine ⟨_, pu_indexAddr_map rfl rfl (by omega) (by assumption), ?_⟩
 | refine ⟨_, pu_sub rfl rfl (by omega), ?_⟩
 | refine ⟨_, pu_pick_b rfl rfl rfl, ?_⟩
 | refine ⟨_, pu_mul rfl rfl (by omega), ?_⟩
 | refine ⟨_, pu_build rfl rfl rfl rfl rfl rfl, ?_⟩))
  refine op_callN (toIntsO_ac m.sums (by omega)) (.cons .ro .nil) (tl hn rfl) fun C2 u2 b2 nx2 gh2 nd2 new2 => ?_
  obtain ⟨A2, n2, c2, rfl⟩ := row_slice gh2.rel
  have hn := nx2.n.trans hn
  repeat' (first
 | refine RunsL.step tabOk hn rfl ?_
 | refine RunsL.nil ?_
 | refine Runs.toRegion 30 rfl ?_
 | (refine Runs.ctls 30 rfl ?_; first | refine Runs.cond_t rfl ?_ | refine Runs.cond_f rfl ?_ | ((first | refine Runs.cond_yes rfl ?_ ?_ | refine Runs.cond_nno rfl ?_ ?_); · first | omega | rfl | assumption | (simp only [List.length_map]; omega)) | ((first | refine Runs.cond_no rfl ?_ ?_ | refine Runs.cond_nyes rfl ?_ ?_); · first | omega | rfl | assumption | (simp only [List.length_map]; omega)) | refine Runs.cond_dec rfl (fun h => ?_) (fun h => ?_) | refine Runs.cond_ndec rfl (fun h => ?_) (fun h => ?_) | refine Runs.cond_nb rfl (fun h => ?_) (fun h => ?_) | refine Runs.cond_b rfl (fun h => ?_) (fun h => ?_) | refine Runs.ret (ends_ro hm rfl rfl ?_) | exact Runs.ret (ends_cellR hm rfl rfl rfl (Nat.le_of_ble_eq_true rfl) rfl rfl))
 | refine op_box rfl (tl hn rfl) ?_
 | refine op_storeF rfl rfl rfl rfl (Nat.le_of_ble_eq_true rfl) ?_
 | refine op_alloc (tl hn rfl) ?_
 | refine op_storeN rfl rfl rfl rfl (Nat.le_of_ble_eq_true rfl) ?_
 | (refine RunsL.pe hn rfl rfl rfl ?_; first
 | refine ⟨_, pu_add rfl rfl (by omega), ?_⟩
 | refine ⟨_, pu_indexAddr_map rfl rfl (by omega) (by assumption), ?_⟩
 | refine ⟨_, pu_sub rfl rfl (by omega), ?_⟩
 | refine ⟨_, pu_pick_b rfl rfl rfl, ?_⟩
 | refine ⟨_, pu_mul rfl rfl (by omega), ?_⟩
 | refine ⟨_, pu_build rfl rfl rfl rfl rfl rfl, ?_⟩))
  have g1 := gh1.next nx2 (by simp)
  have s1 := (Sc.start hm).next nx1 (by simp)
  have s2 := s1.next nx2 (by simp)
  have z1 := nx1.size
  have hov := mch_shut (m := m) g1.rel gh2.rel
  simp only [mchO, mchV, OV.rel] at hov
  obtain ⟨us, eus, hov⟩ := hov
  injection eus with eus
  subst eus
  refine Runs.ctls 30 rfl (Runs.ret (endsO_cell (us := [.int .i64 m.pc, .int .i64 m.register, .slice A1 n1 c1, .slice A2 n2 c2, .int .i64 m.left, .bool m.started, .bool m.escaped, .int .i64 m.state, .int .i64 m.code, .int .i64 m.read]) (bs := b1 ++ b2) s2 rfl rfl rfl rfl rfl hov (fun b hb => ?_) ?_ fun b hb => ?_))
  · rcases List.mem_append.1 hb with hb | hb
    · exact ⟨(g1.fix b hb).1, (g1.fix b hb).2.1⟩
    · exact ⟨(gh2.fix b hb).1, (gh2.fix b hb).2.1⟩
  · exact nodup_two C1.w0.heap.size nd1 nd2 (fun x hx => (gh1.fix x hx).1) new2
  · rcases List.mem_append.1 hb with hb | hb
    · exact new1 b hb
    · have := new2 b hb; omega
def mchM (m : Mch) (k : Int) : Mch := { m with stack := seqI k m.stack.length, sums := seqI (k + (m.stack.length : Int)) m.sums.length }
set_option maxHeartbeats 4000000 in
theorem markMachine_mk (m : Mch) (k : Int) (h0 : 0 ≤ k) (hk : k ≤ 1099511627776) (h1 : m.stack.length ≤ 4194304) (h2 : m.sums.length ≤ 4194304) : MK Try.prog 17 (mchO m) k (k + (m.stack.length : Int) + (m.sums.length : Int)) (mchO (mchM m k)) := by
  intro w u bs h hnd hlt
  obtain ⟨A, n, c, A', n', c', rfl, b1, b2, rfl, g1, g2⟩ := mch_open h
  rw [List.nodup_append] at hnd
  obtain ⟨n1, n2, n3⟩ := hnd
  refine mark_enter (X := fun w' => OV.rel w' (mchO (mchM m k)) (mchV m A A' n c n' c') (b1 ++ b2)) Try.func17 rfl _ Try.ntmps17 (by simp) hlt ?_
  generalize hC0 : (⟨w, fun b => b ∉ b1 ++ b2, fun _ => False, _⟩ : Ctx) = C0
  have hn : C0.n = 14 := by rw [← hC0]
  have hm0 : ∀ b, ¬ C0.mu b := by rw [← hC0]; exact fun _ h => h
  have G1 : Gh C0 (intsO m.stack) (.slice A n c) b1 := by rw [← hC0]; exact ⟨g1, fun b hb => ⟨hlt b (by simp [hb]), fun h => h, fun h => h (by simp [hb])⟩⟩
  have G2 : Gh C0 (intsO m.sums) (.slice A' n' c') b2 := by rw [← hC0]; exact ⟨g2, fun b hb => ⟨hlt b (by simp [hb]), fun h => h, fun h => h (by simp [hb])⟩⟩
  repeat' (first
 | refine RunsL.step tabOk hn rfl ?_
 | refine RunsL.nil ?_
 | refine Runs.toRegion 30 rfl ?_
 | (refine Runs.ctls 30 rfl ?_; first | refine Runs.cond_t rfl ?_ | refine Runs.cond_f rfl ?_ | ((first | refine Runs.cond_yes rfl ?_ ?_ | refine Runs.cond_nno rfl ?_ ?_); · first | omega | rfl | assumption | (simp only [List.length_map]; omega)) | ((first | refine Runs.cond_no rfl ?_ ?_ | refine Runs.cond_nyes rfl ?_ ?_); · first | omega | rfl | assumption | (simp only [List.length_map]; omega)) | refine Runs.cond_dec rfl (fun h => ?_) (fun h => ?_) | refine Runs.cond_ndec rfl (fun h => ?_) (fun h => ?_) | refine Runs.cond_nb rfl (fun h => ?_) (fun h => ?_) | refine Runs.cond_b rfl (fun h => ?_) (fun h => ?_) | refine Runs.ret (ends_ro hm rfl rfl ?_) | exact Runs.ret (ends_cellR hm rfl rfl rfl (Nat.le_of_ble_eq_true rfl) rfl rfl))
 | refine op_box rfl (tl hn rfl) ?_
 | refine op_storeF rfl rfl rfl rfl (Nat.le_of_ble_eq_true rfl) ?_
 | refine op_alloc (tl hn rfl) ?_
 | refine op_storeN rfl rfl rfl rfl (Nat.le_of_ble_eq_true rfl) ?_
 | (refine RunsL.pe hn rfl rfl rfl ?_; first
 | refine ⟨_, pu_add rfl rfl (by omega), ?_⟩
 | refine ⟨_, pu_indexAddr_map rfl rfl (by omega) (by assumption), ?_⟩
 | refine ⟨_, pu_sub rfl rfl (by omega), ?_⟩
 | refine ⟨_, pu_pick_b rfl rfl rfl, ?_⟩
 | refine ⟨_, pu_mul rfl rfl (by omega), ?_⟩
 | refine ⟨_, pu_build rfl rfl rfl rfl rfl rfl, ?_⟩))
  refine op_callK (markIntS_mk m.stack k h0 (by omega) h1) G1 n1 rfl (tl hn rfl) fun C1 x1 G1 => ?_
  have hn := x1.n.trans hn
  have G2 := G2.next x1 fun b hb hm => n3 b hm b hb rfl
  repeat' (first
 | refine RunsL.step tabOk hn rfl ?_
 | refine RunsL.nil ?_
 | refine Runs.toRegion 30 rfl ?_
 | (refine Runs.ctls 30 rfl ?_; first | refine Runs.cond_t rfl ?_ | refine Runs.cond_f rfl ?_ | ((first | refine Runs.cond_yes rfl ?_ ?_ | refine Runs.cond_nno rfl ?_ ?_); · first | omega | rfl | assumption | (simp only [List.length_map]; omega)) | ((first | refine Runs.cond_no rfl ?_ ?_ | refine Runs.cond_nyes rfl ?_ ?_); · first | omega | rfl | assumption | (simp only [List.length_map]; omega)) | refine Runs.cond_dec rfl (fun h => ?_) (fun h => ?_) | refine Runs.cond_ndec rfl (fun h => ?_) (fun h => ?_) | refine Runs.cond_nb rfl (fun h => ?_) (fun h => ?_) | refine Runs.cond_b rfl (fun h => ?_) (fun h => ?_) | refine Runs.ret (ends_ro hm rfl rfl ?_) | exact Runs.ret (ends_cellR hm rfl rfl rfl (Nat.le_of_ble_eq_true rfl) rfl rfl))
 | refine op_box rfl (tl hn rfl) ?_
 | refine op_storeF rfl rfl rfl rfl (Nat.le_of_ble_eq_true rfl) ?_
 | refine op_alloc (tl hn rfl) ?_
 | refine op_storeN rfl rfl rfl rfl (Nat.le_of_ble_eq_true rfl) ?_
 | (refine RunsL.pe hn rfl rfl rfl ?_; first
 | refine ⟨_, pu_add rfl rfl (by omega), ?_⟩
 | refine ⟨_, pu_indexAddr_map rfl rfl (by omega) (by assumption), ?_⟩
 | refine ⟨_, pu_sub rfl rfl (by omega), ?_⟩
 | refine ⟨_, pu_pick_b rfl rfl rfl, ?_⟩
 | refine ⟨_, pu_mul rfl rfl (by omega), ?_⟩
 | refine ⟨_, pu_build rfl rfl rfl rfl rfl rfl, ?_⟩))
  refine op_callK (markIntS_mk m.sums _ (by omega) (by omega) h2) G2 n2 rfl (tl hn rfl) fun C2 x2 G2 => ?_
  have hn := x2.n.trans hn
  have G1 := G1.next x2 fun b hb hm => n3 b hb b hm rfl
  repeat' (first
 | refine RunsL.step tabOk hn rfl ?_
 | refine RunsL.nil ?_
 | refine Runs.toRegion 30 rfl ?_
 | (refine Runs.ctls 30 rfl ?_; first | refine Runs.cond_t rfl ?_ | refine Runs.cond_f rfl ?_ | ((first | refine Runs.cond_yes rfl ?_ ?_ | refine Runs.cond_nno rfl ?_ ?_); · first | omega | rfl | assumption | (simp only [List.length_map]; omega)) | ((first | refine Runs.cond_no rfl ?_ ?_ | refine Runs.cond_nyes rfl ?_ ?_); · first | omega | rfl | assumption | (simp only [List.length_map]; omega)) | refine Runs.cond_dec rfl (fun h => ?_) (fun h => ?_) | refine Runs.cond_ndec rfl (fun h => ?_) (fun h => ?_) | refine Runs.cond_nb rfl (fun h => ?_) (fun h => ?_) | refine Runs.cond_b rfl (fun h => ?_) (fun h => ?_) | refine Runs.ret (ends_ro hm rfl rfl ?_) | exact Runs.ret (ends_cellR hm rfl rfl rfl (Nat.le_of_ble_eq_true rfl) rfl rfl))
 | refine op_box rfl (tl hn rfl) ?_
 | refine op_storeF rfl rfl rfl rfl (Nat.le_of_ble_eq_true rfl) ?_
 | refine op_alloc (tl hn rfl) ?_
 | refine op_storeN rfl rfl rfl rfl (Nat.le_of_ble_eq_true rfl) ?_
 | (refine RunsL.pe hn rfl rfl rfl ?_; first
 | refine ⟨_, pu_add rfl rfl (by omega), ?_⟩
 | refine ⟨_, pu_indexAddr_map rfl rfl (by omega) (by assumption), ?_⟩
 | refine ⟨_, pu_sub rfl rfl (by omega), ?_⟩
 | refine ⟨_, pu_pick_b rfl rfl rfl, ?_⟩
 | refine ⟨_, pu_mul rfl rfl (by omega), ?_⟩
 | refine ⟨_, pu_build rfl rfl rfl rfl rfl rfl, ?_⟩))
  refine Runs.ctls 30 rfl (Runs.ret (endsM (x1.trans x2) hm0 rfl rfl fun φ w hG => ?_))
  exact OV.rel_keep _ _ _ (mch_shut (m := mchM m k) G1.rel G2.rel) fun b hb => hG.frm.block b (by
    rcases List.mem_append.1 hb with hb | hb
    · exact (G1.fix b hb).1
    · exact (G2.fix b hb).1) (by
    rcases List.mem_append.1 hb with hb | hb
    · exact (G1.fix b hb).2.1
    · exact (G2.fix b hb).2.1)
theorem heldMachine_ac (m : Mch) (k : Int) (h0 : 0 ≤ k) (hk : k ≤ 1099511627776) (h1 : m.stack.length ≤ 4194304) (h2 : m.sums.length ≤ 4194304) : ACv Try.prog 18 [mchR (mchM m k), .int k] (.int (k + (m.stack.length : Int) + (m.sums.length : Int))) := by
  have a1 := heldIntS_ac m.stack.length k h0 (by omega) h1
  have a2 := heldIntS_ac m.sums.length (k + (m.stack.length : Int)) (by omega) (by omega) h2
  refine ac_enter Try.func18 rfl _ Try.ntmps18 (by simp) fun C hn hm => ?_
  repeat' (first
 | refine RunsL.step tabOk hn rfl ?_
 | refine RunsL.nil ?_
 | refine Runs.toRegion 30 rfl ?_
 | (refine RunsL.pe hn rfl rfl rfl ?_; first
 | refine ⟨_, pu_callR a1 rfl, ?_⟩
 | refine ⟨_, pu_callR a2 rfl, ?_⟩)
 | (refine Runs.ctls 30 rfl ?_; first | refine Runs.cond_t rfl ?_ | refine Runs.cond_f rfl ?_ | ((first | refine Runs.cond_yes rfl ?_ ?_ | refine Runs.cond_nno rfl ?_ ?_); · first | omega | rfl | assumption | (simp only [List.length_map]; omega)) | ((first | refine Runs.cond_no rfl ?_ ?_ | refine Runs.cond_nyes rfl ?_ ?_); · first | omega | rfl | assumption | (simp only [List.length_map]; omega)) | refine Runs.cond_dec rfl (fun h => ?_) (fun h => ?_) | refine Runs.cond_ndec rfl (fun h => ?_) (fun h => ?_) | refine Runs.cond_nb rfl (fun h => ?_) (fun h => ?_) | refine Runs.cond_b rfl (fun h => ?_) (fun h => ?_) | refine Runs.ret (ends_ro hm rfl rfl ?_) | exact Runs.ret (ends_cellR hm rfl rfl rfl (Nat.le_of_ble_eq_true rfl) rfl rfl))
 | refine op_box rfl (tl hn rfl) ?_
 | refine op_storeF rfl rfl rfl rfl (Nat.le_of_ble_eq_true rfl) ?_
 | refine op_alloc (tl hn rfl) ?_
 | refine op_storeN rfl rfl rfl rfl (Nat.le_of_ble_eq_true rfl) ?_
 | (refine RunsL.pe hn rfl rfl rfl ?_; first
 | refine ⟨_, pu_add rfl rfl (by omega), ?_⟩
 | refine ⟨_, pu_indexAddr_map rfl rfl (by omega) (by assumption), ?_⟩
 | refine ⟨_, pu_sub rfl rfl (by omega), ?_⟩
 | refine ⟨_, pu_pick_b rfl rfl rfl, ?_⟩
 | refine ⟨_, pu_mul rfl rfl (by omega), ?_⟩
 | refine ⟨_, pu_build rfl rfl rfl rfl rfl rfl, ?_⟩))
  all_goals first
    | exact rr_int rfl
    | (exfalso; omega)
end Go.Proofs.Ytkhnijggbfoimaa
/- Functions that are handed objects of their caller's and write into them. Over any program. -/
namespace Go.Proofs.Ytkhnijggbfoimaa
set_option linter.unusedSimpArgs false
set_option linter.unusedVariables false
open Go.RowKit
open AV (Mem Keeps)
theorem good_junk {C : Ctx} {w : World} {φ : Nat → Option Nat} {σ : List Ob} (hG : Good C ⟨w, φ, σ, C.ok⟩) {j p : Nat} {o : Ob} (ho : σ[j]? = some o) :
    Good C ⟨w, φ, σ.set j ⟨o.t, o.sz, o.cs.set p .junk⟩, C.ok⟩ ∧ Keeps (fun _ => True) ⟨w, φ, σ, C.ok⟩ ⟨w, φ, σ.set j ⟨o.t, o.sz, o.cs.set p .junk⟩, C.ok⟩ := by
  have hj := (List.getElem?_eq_some_iff.1 ho).1
  have hK : Keeps (fun _ => True) ⟨w, φ, σ, C.ok⟩ ⟨w, φ, σ.set j ⟨o.t, o.sz, o.cs.set p .junk⟩, C.ok⟩ := by
    refine ⟨⟨Nat.le_refl _, fun b _ hb => ⟨⟨hb.1, fun i hi => hb.2 i (by simpa using hi)⟩, rfl⟩⟩, fun i _ hi => ⟨by simpa using hi, rfl⟩, fun i ob _ hi => ?_, fun i g us t _ _ _ hh => ⟨us, hh, rfl⟩⟩
    by_cases e : i = j
    · subst e
      have : ob = o := Option.some.inj (hi.symm.trans ho)
      subst this
      exact ⟨ob.cs.set p .junk, by simp [hj], by simp⟩
    · exact ⟨ob.cs, by simp only [List.getElem?_set_ne (Ne.symm e)]; exact hi, rfl⟩
  refine ⟨⟨rfl, fun a b g ha hb => hG.inj a b g (by simpa using ha) (by simpa using hb), fun i ob hi => ?_, fun i g hi => hG.mine i g (by simpa using hi), hG.frm⟩, hK⟩
  by_cases e : i = j
  · subst e
    simp only [List.getElem?_set_self hj, Option.some.injEq] at hi
    subst hi
    have h := hG.ob i o ho
    show ObRel _ _ (φ i)
    simp only at h
    cases hφ : φ i with
    | none =>
      rw [hφ] at h
      simp only [ObRel] at h ⊢
      simp [h]
    | some g =>
      rw [hφ] at h
      obtain ⟨us, h1, h2, h3⟩ := h
      refine ⟨us, h1, by simpa using h2, fun k v hk => ?_⟩
      simp only [List.getElem?_set] at hk
      split at hk
      · rename_i hpk
        subst hpk
        split at hk
        · rename_i hlt
          injection hk with hk; subst hk
          obtain ⟨u, e1, e2, _⟩ := h3 p _ (List.getElem?_eq_getElem hlt)
          exact ⟨u, e1, e2, by simp [AV.rel]⟩
        · cases hk
      · obtain ⟨u, e1, e2, e3⟩ := h3 k v hk
        exact ⟨u, e1, e2, AV.rel_keeps hK _ _ (AV.only_true _) e3⟩
  · rw [List.getElem?_set_ne (Ne.symm e)] at hi
    exact (hG.ob i ob hi).keeps hK fun _ _ => rfl
section
variable {P : Program} {C : Ctx} {ops : Array Oper} {rest : List Oper} {k : List Item} {R : Act → World → Prop} {env : Env} {σ : List Ob} {t : Nat} {ty : TypeId} {pos : String} {after : Array Edge}
theorem RunsL.junk {l : List Oper} (j p : Nat) {o : Ob} (ho : σ[j]? = some o) (hk : RunsL P C ops l k R ⟨env, σ.set j ⟨o.t, o.sz, o.cs.set p .junk⟩⟩) : RunsL P C ops l k R ⟨env, σ⟩ :=
  ⟨fun a w ⟨h1, h2, φ, h3, h4⟩ => by
    obtain ⟨g1, g2⟩ := good_junk (p := p) h3 ho
    exact hk.run a w ⟨h1, h2, φ, g1, h4.keeps g2⟩⟩
theorem op_cut {tt e : TypeId} {z : Value} {sz bytes i n : Nat} {o : Ob} {x y : Operand} {kd : IntKind} {q : Int} [hs : SL P tt e z sz bytes] (hx : ev env x = .own i) (hy : ev env y = .ro (.c (.int kd q))) (ho : σ[i]? = some o) (hsz : o.sz = sz) (hl : o.cs.length = n * sz) (h0 : 0 ≤ q) (hq : q ≤ n) (hn : 0 < n)
    (hfree : FreeI i (σ.set i ⟨o.t, o.sz, []⟩)) (hro : ∀ (j : Nat) v, o.cs[j]? = some v → v.only fun k => k ≠ i) (ht : t < C.n)
    (hk : RunsL P C ops rest k R ⟨(t, .own i) :: killEnv i env, σ.set i ⟨o.t, o.sz, o.cs.take (q.toNat * o.sz)⟩⟩) :
    RunsL P C ops (⟨some t, .slice tt x none (some y) none, ty, pos, after, none⟩ :: rest) k R ⟨env, σ⟩ := by
  refine ⟨fun a w ⟨h1, h2, φ, hG, hH⟩ => ?_⟩
  have hil := (List.getElem?_eq_some_iff.1 ho).1
  have h := ev_rel hH x
  rw [hx] at h
  simp only [AV.rel] at h
  obtain ⟨ob, n', r1, r2, r3, r4⟩ := h
  rw [ho] at r1; injection r1 with r1; subst r1
  rw [hsz] at r2 r3
  have hn' : n' = n := Nat.eq_of_mul_eq_mul_right r3 (r2.symm.trans hl)
  subst hn'
  rcases r4 with ⟨_, e0, _⟩ | ⟨g, cap, us, hφ, eu, hh, c1, c2, c3⟩
  · omega
  have hle : q.toNat * sz ≤ n' * sz := Nat.mul_le_mul_right _ (by omega)
  have hK : Keeps (fun k => k ≠ i) ⟨w, φ, σ, C.ok⟩ ⟨w, φ, σ.set i ⟨o.t, o.sz, o.cs.take (q.toNat * o.sz)⟩, C.ok⟩ :=
    ⟨⟨Nat.le_refl _, fun b _ hb => ⟨⟨hb.1, fun j hj => hb.2 j (by simpa using hj)⟩, rfl⟩⟩, fun j _ hj => ⟨by simpa using hj, rfl⟩, fun j ob hji hj => ⟨ob.cs, by simp only [List.getElem?_set_ne (Ne.symm hji)]; exact hj, rfl⟩, fun j g us t _ _ _ hh => ⟨us, hh, rfl⟩⟩
  have hG' : Good C ⟨w, φ, σ.set i ⟨o.t, o.sz, o.cs.take (q.toNat * o.sz)⟩, C.ok⟩ := by
    refine ⟨rfl, fun a b g ha hb => hG.inj a b g (by simpa using ha) (by simpa using hb), fun j ob hj => ?_, fun j g hj => hG.mine j g (by simpa using hj), hG.frm⟩
    by_cases e : j = i
    · subst e
      simp only [List.getElem?_set_self hil, Option.some.injEq] at hj
      subst hj
      have hob := hG.ob j o ho
      show ObRel _ _ (φ j)
      rw [hφ]
      rw [show (⟨w, φ, σ, C.ok⟩ : Mem).φ j = some g from hφ] at hob
      obtain ⟨us', q1, q2, q3⟩ := hob
      refine ⟨us', q1, by rw [List.length_take]; omega, fun m v hm => ?_⟩
      rw [List.getElem?_take] at hm
      split at hm
      · obtain ⟨u, e1, e2, e3⟩ := q3 m v hm
        exact ⟨u, e1, e2, AV.rel_keeps hK _ _ (hro m v hm) e3⟩
      · cases hm
    · rw [List.getElem?_set_ne (Ne.symm e)] at hj
      have h := hG.ob j ob hj
      have hfj := hfree.at_ j ob (by rw [List.getElem?_set_ne (Ne.symm e)]; exact hj)
      show ObRel _ _ (φ j)
      simp only at h
      cases hφj : φ j with
      | none => rw [hφj] at h; exact h
      | some g' =>
        rw [hφj] at h
        obtain ⟨us', q1, q2, q3⟩ := h
        refine ⟨us', q1, q2, fun m v hm => ?_⟩
        obtain ⟨u, e1, e2, e3⟩ := q3 m v hm
        exact ⟨u, e1, e2, AV.rel_keeps hK _ _ (onlys_mem hfj m v hm) e3⟩
  refine wpList_plain rfl fun K hK' => ?_
  have hyv := ev_c (m := ⟨w, φ, σ, C.ok⟩) (ev_rel hH y) hy
  have hrun : (execOp a.eval (⟨some t, .slice tt x none (some y) none, ty, pos, after, none⟩ : Oper)).run P w = .ok (.value (sliced (some ⟨g, 0, none⟩) 0 q.toNat cap sz)) w := by
    simp only [execOp, Option.map_some, Option.map_none, hyv, eu, Sem.run_bind, run_sliceAt_slice w tt _ _ _ _ SL.under, run_slice_h w tt (some ⟨g, 0, none⟩) n' cap SL.under kd q h0 (by omega), SL.size, Result.andThen_ok]
    rfl
  unfold Oper.wp
  rw [hrun]
  simp only [Oper.upon]
  refine hK' _ _ (hk.run _ _ ⟨h1, by simp [Act.put, h2], φ, hG', Holds.put (fun s => ?_) (by rw [h2]; exact ht) ?_⟩)
  · rw [look_killEnv]
    exact AV.rel_keeps hK _ _ (AV.kill_only i _) (AV.kill_rel i _ _ (hH s))
  · have e : sliced (some ⟨g, 0, none⟩) 0 q.toNat cap sz = .slice (some ⟨g, 0, none⟩) q.toNat cap := by
      unfold sliced
      by_cases h : 0 < cap - 0
      · simp [Addr.add_lit, h]
      · omega
    rw [e]
    simp only [AV.rel]
    refine ⟨_, q.toNat, List.getElem?_set_self hil, by simp only [List.length_take, hsz]; omega, by rw [hsz]; exact r3, .inr ⟨g, cap, us, hφ, rfl, hh, by omega, c2, by rw [hsz]; rw [hsz] at c3; exact c3⟩⟩
end
def startEnvA : Nat → List AV → Env
  | _, [] => []
  | t, r :: rs => (t, r) :: startEnvA (t + 1) rs
theorem startA_look : ∀ (rs : List AV) (t k : Nat), look (startEnvA t rs) k = if t ≤ k then (rs[k - t]?).getD .junk else .junk
  | [], t, k => by simp [startEnvA, look]
  | r :: rs, t, k => by
    rw [startEnvA, look_put, startA_look rs (t + 1) k]
    by_cases h : t = k
    · subst h; simp
    · rw [if_neg h]
      by_cases h2 : t + 1 ≤ k
      · have e : k - t = (k - (t + 1)) + 1 := by omega
        rw [if_pos h2, if_pos (by omega : t ≤ k), e, List.getElem?_cons_succ]
      · rw [if_neg h2]
        split
        · omega
        · rfl
def AM (P : Program) (f : FuncId) (σ : List Ob) (st : List Nat) (args : List AV) (σ' : List Ob) (v : AV) : Prop :=
  ∀ (w : World) (φ : Nat → Option Nat) (ok : Nat → Prop) (us : Array Value), Good ⟨w, ok, mine φ σ.length, 0⟩ ⟨w, φ, σ, ok⟩ → AV.rels ⟨w, φ, σ, ok⟩ args us.toList →
    Calls P f us w fun e w' => ∃ u φ', e = .returned u ∧ Good ⟨w, ok, mine φ σ.length, 0⟩ ⟨w', φ', σ', ok⟩ ∧ AV.rel ⟨w', φ', σ', ok⟩ v u ∧ ∀ i ∈ st, φ' i = φ i
def pinA (gs : Nat → Nat) : AV → AV
  | .obj i off => .pin i off (gs i)
  | v => v
def EndsA (P : Program) (C : Ctx) (fn : Func) (gs : Nat → Nat) (st : List Nat) (σ' : List Ob) (v : AV) (a : Act) (w : World) : Prop :=
  a.defers = [] ∧ ∃ u, (results fn a.tmps).run P w = .ok u w ∧ ∃ φ', Good C ⟨w, φ', σ', C.ok⟩ ∧ AV.rel ⟨w, φ', σ', C.ok⟩ v u ∧ ∀ i ∈ st, φ' i = some (gs i)
theorem good_n {w : World} {ok mu : Nat → Prop} {n n' : Nat} {m : Mem} (h : Good ⟨w, ok, mu, n⟩ m) : Good ⟨w, ok, mu, n'⟩ m :=
  ⟨h.ok0, h.inj, h.ob, h.mine, ⟨h.frm.os, h.frm.tape, h.frm.output, h.frm.size, h.frm.block, h.frm.new⟩⟩
theorem am_enter {P : Program} {f : FuncId} {fn : Func} {c : Code} {σ σ' : List Ob} {st : List Nat} {args : List AV} {v : AV} (hf : P.funcs[f]? = some fn) (hb : fn.body = some c) (n : Nat) (hn : fn.ntmps = n) (hl : args.length ≤ n)
    (hst : ∀ i ∈ st, ∃ off, AV.obj i off ∈ args)
    (h : ∀ (C : Ctx) (gs : Nat → Nat), C.n = n → Runs P C [.code c] (EndsA P C fn gs st σ' v) ⟨startEnvA 0 (args.map (pinA gs)), σ⟩) : AM P f σ st args σ' v := by
  intro w φ ok us hG hu
  have hlen := AV.rels_len args _ hu
  refine calls_of_fin hf hb ?_
  let gs : Nat → Nat := fun i => (φ i).getD 0
  have hs : Sim ⟨w, ok, mine φ σ.length, n⟩ ⟨startEnvA 0 (args.map (pinA gs)), σ⟩ { tmps := us ++ Array.replicate (fn.ntmps - us.size) undef, defers := [] } w := by
    refine ⟨rfl, by simp at hlen ⊢; omega, φ, good_n hG, fun t => ?_⟩
    rw [startA_look]
    simp only [Nat.zero_le, if_true, Nat.sub_zero, List.getElem?_map]
    cases hr : args[t]? with
    | none => simp [AV.rel]
    | some r =>
      obtain ⟨u, e1, e2⟩ := AV.rels_at args _ hu t r hr
      have ht : t < us.size := by have := (List.getElem?_eq_some_iff.1 e1).1; simpa using this
      have : (us ++ Array.replicate (fn.ntmps - us.size) undef).getD t undef = u := by
        rw [Array.getD_eq_getD_getElem?, Array.getElem?_append_left ht]
        have : us[t]? = some u := by simpa using e1
        simp [this]
      simp only [Option.map_some, Option.getD_some]
      rw [this]
      cases r <;> simp only [pinA] <;> try exact e2
      case obj i off =>
        simp only [AV.rel] at e2 ⊢
        obtain ⟨k1, g, k2, k3⟩ := e2
        have : gs i = g := by simp only [gs, k2, Option.getD_some]
        rw [this]
        exact ⟨k1, k2, k3⟩
  have hr := (h ⟨w, ok, mine φ σ.length, n⟩ gs rfl).run _ w hs
  intro b cs
  obtain ⟨a', w', todo, ⟨hd, u, hv, φ', h1, h2, h3⟩, hstep⟩ := hr b cs
  refine ⟨a', w', todo, ⟨hd, u, hv, u, φ', rfl, good_n h1, h2, fun i hi => ?_⟩, hstep⟩
  obtain ⟨off, ho⟩ := hst i hi
  obtain ⟨j, hj⟩ := List.mem_iff_getElem?.1 ho
  obtain ⟨u', _, e2⟩ := AV.rels_at args _ hu j _ hj
  simp only [AV.rel] at e2
  obtain ⟨_, g, k2, _⟩ := e2
  rw [h3 i hi]
  simp only [gs, k2, Option.getD_some]
section
variable {P : Program} {C : Ctx} {fn : Func} {S : St} {gs : Nat → Nat} {st : List Nat} {σ' : List Ob} {v : AV}
theorem pins {φ : Nat → Option Nat} {w : World} {a : Act} (hH : Holds ⟨w, φ, S.σ, C.ok⟩ S.env a) (h : ∀ i ∈ st, ∃ t off, look S.env t = .pin i off (gs i)) : ∀ i ∈ st, φ i = some (gs i) := fun i hi => by
  obtain ⟨t, off, ht⟩ := h i hi
  have := hH t
  rw [ht] at this
  simp only [AV.rel] at this
  exact this.2.1
theorem endsA0 (hst : ∀ i ∈ st, ∃ t off, look S.env t = .pin i off (gs i)) (hr : fn.results = #[]) (hσ : S.σ = σ') : ∀ a w, Sim C S a w → EndsA P C fn gs st σ' (.tup []) a w := by
  rintro a w ⟨h1, h2, φ, hG, hH⟩
  subst hσ
  exact ⟨h1, .tuple #[], by rw [results_eq, hr]; simp, φ, hG, by simp [AV.rel, AV.rels], pins hH hst⟩
theorem endsA1 {x : ResultVar} (hst : ∀ i ∈ st, ∃ t off, look S.env t = .pin i off (gs i)) (hr : fn.results = #[x]) (hx : ResV P S x v) (hσ : S.σ = σ') : ∀ a w, Sim C S a w → EndsA P C fn gs st σ' v a w := by
  rintro a w ⟨h1, h2, φ, hG, hH⟩
  subst hσ
  obtain ⟨u, k1, k2⟩ := resV_run (P := P) hG hH x v hx
  exact ⟨h1, u, by rw [results_eq, hr]; simp [k1], φ, hG, k2, pins hH hst⟩
theorem endsA2 {x y : ResultVar} {vx vy : AV} (hst : ∀ i ∈ st, ∃ t off, look S.env t = .pin i off (gs i)) (hr : fn.results = #[x, y]) (hx : ResV P S x vx) (hy : ResV P S y vy) (hσ : S.σ = σ') : ∀ a w, Sim C S a w → EndsA P C fn gs st σ' (.tup [vx, vy]) a w := by
  rintro a w ⟨h1, h2, φ, hG, hH⟩
  subst hσ
  obtain ⟨u, k1, k2⟩ := resV_run (P := P) hG hH x vx hx
  obtain ⟨u', k1', k2'⟩ := resV_run (P := P) hG hH y vy hy
  exact ⟨h1, .tuple #[u, u'], by rw [results_eq, hr]; simp [k1, k1'], φ, hG, by simp only [AV.rel]; exact ⟨_, rfl, by simp only [AV.rels]; exact ⟨u, [u'], rfl, k2, u', [], rfl, k2', rfl⟩⟩, pins hH hst⟩
end
mutual
def AV.ren (r : Nat → Nat) : AV → AV
  | .ro v => .ro v
  | .junk => .junk
  | .obj i off => .obj (r i) off
  | .pin i off g => .pin (r i) off g
  | .own i => .own (r i)
  | .agg cs => .agg (AV.rens r cs)
  | .tup vs => .tup (AV.rens r vs)
  | .fn f a b => .fn f (AV.rens r a) (AV.rens r b)
def AV.rens (r : Nat → Nat) : List AV → List AV
  | [] => []
  | x :: xs => AV.ren r x :: AV.rens r xs
end
def Ob.ren (r : Nat → Nat) (o : Ob) : Ob := ⟨o.t, o.sz, AV.rens r o.cs⟩
theorem rens_len (r : Nat → Nat) : ∀ l : List AV, (AV.rens r l).length = l.length
  | [] => rfl
  | x :: xs => by simp [AV.rens, rens_len r xs]
theorem rens_at (r : Nat → Nat) : ∀ (l : List AV) (j : Nat), (AV.rens r l)[j]? = (l[j]?).map (AV.ren r)
  | [], j => by simp [AV.rens]
  | x :: xs, 0 => by simp [AV.rens]
  | x :: xs, j + 1 => by simp [AV.rens, rens_at r xs j]
mutual
def AV.rid (lent st : Nat → Bool) : AV → AV
  | .ro v => .ro v
  | .junk => .junk
  | .obj i off => match lent i, st i with
    | true, false => .junk
    | _, _ => .obj i off
  | .pin i off g => match lent i, st i with
    | true, false => .junk
    | _, _ => .pin i off g
  | .own i => match lent i with
    | true => .junk
    | false => .own i
  | .agg cs => .agg (AV.rids lent st cs)
  | .tup vs => .tup (AV.rids lent st vs)
  | .fn f a b => .fn f (AV.rids lent st a) (AV.rids lent st b)
def AV.rids (lent st : Nat → Bool) : List AV → List AV
  | [] => []
  | x :: xs => AV.rid lent st x :: AV.rids lent st xs
end
def ridEnv (lent st : Nat → Bool) : Env → Env
  | [] => []
  | (t, v) :: e => (t, v.rid lent st) :: ridEnv lent st e
theorem look_ridEnv (lent st : Nat → Bool) : ∀ (e : Env) (t : Nat), look (ridEnv lent st e) t = (look e t).rid lent st
  | [], t => by simp [ridEnv, look, AV.rid]
  | (s, v) :: e, t => by
    rw [ridEnv, look_put, look_put]
    split
    · rfl
    · exact look_ridEnv lent st e t
section
variable {m m' : Mem} {r : Nat → Nat} {lent st : Nat → Bool}
mutual
theorem rel_unren {n : Nat} (hw : m'.w = m.w) (hok : ∀ b, m.ok b → m'.ok b) (hφ : ∀ i, i < n → m'.φ i = m.φ (r i)) (hn : m'.σ.length = n) (hσ : ∀ (i : Nat) o, i < n → m.σ[r i]? = some o → ∃ cs, m'.σ[i]? = some ⟨o.t, o.sz, cs⟩ ∧ cs.length = o.cs.length) :
    ∀ (v : AV) (u : Value), v.only (fun i => i < n) → AV.rel m (v.ren r) u → AV.rel m' v u
  | .ro v, u, _, h => by
    simp only [AV.ren, AV.rel] at h ⊢
    exact RV.rel_mono ⟨by rw [hw]; exact Nat.le_refl _, fun b _ hb => ⟨hok b hb, by rw [hw]⟩⟩ v u h
  | .junk, u, _, _ => by simp [AV.rel]
  | .obj i off, u, ho, h => by
    simp only [AV.ren, AV.rel, AV.only] at h ho ⊢
    obtain ⟨_, g, h2, h3⟩ := h
    exact ⟨by omega, g, (hφ i ho).trans h2, h3⟩
  | .pin i off g, u, ho, h => by
    simp only [AV.ren, AV.rel, AV.only] at h ho ⊢
    obtain ⟨_, h2, h3⟩ := h
    exact ⟨by omega, (hφ i ho).trans h2, h3⟩
  | .own i, u, ho, h => by
    simp only [AV.ren, AV.rel, AV.only] at h ho ⊢
    obtain ⟨ob, k, h1, h2, h3, h4⟩ := h
    obtain ⟨cs, e1, e2⟩ := hσ i ob ho h1
    refine ⟨_, k, e1, by simp only; rw [e2]; exact h2, h3, ?_⟩
    rcases h4 with ⟨q1, q2, q3⟩ | ⟨g, cap, us, q1, q2, q3, q4⟩
    · exact .inl ⟨q1, q2, (hφ i ho).trans q3⟩
    · exact .inr ⟨g, cap, us, (hφ i ho).trans q1, q2, by rw [hw]; exact q3, q4⟩
  | .agg cs, u, ho, h => by
    simp only [AV.ren, AV.rel, AV.only] at h ho ⊢
    obtain ⟨us, e, h1⟩ := h
    exact ⟨us, e, rels_unren hw hok hφ hn hσ cs _ ho h1⟩
  | .tup cs, u, ho, h => by
    simp only [AV.ren, AV.rel, AV.only] at h ho ⊢
    obtain ⟨us, e, h1⟩ := h
    exact ⟨us, e, rels_unren hw hok hφ hn hσ cs _ ho h1⟩
  | .fn f a b, u, ho, h => by
    simp only [AV.ren, AV.rel, AV.only] at h ho ⊢
    obtain ⟨us, vs, e, h1, h2⟩ := h
    exact ⟨us, vs, e, rels_unren hw hok hφ hn hσ a _ ho.1 h1, rels_unren hw hok hφ hn hσ b _ ho.2 h2⟩
theorem rels_unren {n : Nat} (hw : m'.w = m.w) (hok : ∀ b, m.ok b → m'.ok b) (hφ : ∀ i, i < n → m'.φ i = m.φ (r i)) (hn : m'.σ.length = n) (hσ : ∀ (i : Nat) o, i < n → m.σ[r i]? = some o → ∃ cs, m'.σ[i]? = some ⟨o.t, o.sz, cs⟩ ∧ cs.length = o.cs.length) :
    ∀ (vs : List AV) (us : List Value), AV.onlys (fun i => i < n) vs → AV.rels m (AV.rens r vs) us → AV.rels m' vs us
  | [], us, _, h => by simpa [AV.rens, AV.rels] using h
  | x :: xs, us, ho, h => by
    simp only [AV.rens, AV.rels, AV.onlys] at h ho ⊢
    obtain ⟨u, us', e, h1, h2⟩ := h
    exact ⟨u, us', e, rel_unren hw hok hφ hn hσ x u ho.1 h1, rels_unren hw hok hφ hn hσ xs us' ho.2 h2⟩
end
mutual
theorem rel_ren {n : Nat} (hw : m'.w = m.w) (hok : ∀ b, m.ok b → m'.ok b) (hφ : ∀ i, i < n → m'.φ (r i) = m.φ i) (hr : ∀ i, i < n → r i < m'.σ.length) (hn : m.σ.length = n) (hσ : ∀ (i : Nat) o, m.σ[i]? = some o → ∃ cs, m'.σ[r i]? = some ⟨o.t, o.sz, cs⟩ ∧ cs.length = o.cs.length) :
    ∀ (v : AV) (u : Value), AV.rel m v u → AV.rel m' (v.ren r) u
  | .ro v, u, h => by
    simp only [AV.ren, AV.rel] at h ⊢
    exact RV.rel_mono ⟨by rw [hw]; exact Nat.le_refl _, fun b _ hb => ⟨hok b hb, by rw [hw]⟩⟩ v u h
  | .junk, u, _ => by simp [AV.rel, AV.ren]
  | .obj i off, u, h => by
    simp only [AV.ren, AV.rel] at h ⊢
    obtain ⟨h1, g, h2, h3⟩ := h
    exact ⟨hr i (by omega), g, (hφ i (by omega)).trans h2, h3⟩
  | .pin i off g, u, h => by
    simp only [AV.ren, AV.rel] at h ⊢
    obtain ⟨h1, h2, h3⟩ := h
    exact ⟨hr i (by omega), (hφ i (by omega)).trans h2, h3⟩
  | .own i, u, h => by
    simp only [AV.ren, AV.rel] at h ⊢
    obtain ⟨ob, k, h1, h2, h3, h4⟩ := h
    obtain ⟨cs, e1, e2⟩ := hσ i ob h1
    have hi : i < n := by have := (List.getElem?_eq_some_iff.1 h1).1; omega
    refine ⟨_, k, e1, by simp only; rw [e2]; exact h2, h3, ?_⟩
    rcases h4 with ⟨q1, q2, q3⟩ | ⟨g, cap, us, q1, q2, q3, q4⟩
    · exact .inl ⟨q1, q2, (hφ i hi).trans q3⟩
    · exact .inr ⟨g, cap, us, (hφ i hi).trans q1, q2, by rw [hw]; exact q3, q4⟩
  | .agg cs, u, h => by
    simp only [AV.ren, AV.rel] at h ⊢
    obtain ⟨us, e, h1⟩ := h
    exact ⟨us, e, rels_ren hw hok hφ hr hn hσ cs _ h1⟩
  | .tup cs, u, h => by
    simp only [AV.ren, AV.rel] at h ⊢
    obtain ⟨us, e, h1⟩ := h
    exact ⟨us, e, rels_ren hw hok hφ hr hn hσ cs _ h1⟩
  | .fn f a b, u, h => by
    simp only [AV.ren, AV.rel] at h ⊢
    obtain ⟨us, vs, e, h1, h2⟩ := h
    exact ⟨us, vs, e, rels_ren hw hok hφ hr hn hσ a _ h1, rels_ren hw hok hφ hr hn hσ b _ h2⟩
theorem rels_ren {n : Nat} (hw : m'.w = m.w) (hok : ∀ b, m.ok b → m'.ok b) (hφ : ∀ i, i < n → m'.φ (r i) = m.φ i) (hr : ∀ i, i < n → r i < m'.σ.length) (hn : m.σ.length = n) (hσ : ∀ (i : Nat) o, m.σ[i]? = some o → ∃ cs, m'.σ[r i]? = some ⟨o.t, o.sz, cs⟩ ∧ cs.length = o.cs.length) :
    ∀ (vs : List AV) (us : List Value), AV.rels m vs us → AV.rels m' (AV.rens r vs) us
  | [], us, h => by simpa [AV.rens, AV.rels] using h
  | x :: xs, us, h => by
    simp only [AV.rens, AV.rels] at h ⊢
    obtain ⟨u, us', e, h1, h2⟩ := h
    exact ⟨u, us', e, rel_ren hw hok hφ hr hn hσ x u h1, rels_ren hw hok hφ hr hn hσ xs us' h2⟩
end
mutual
theorem rel_rid (hro : RV.Kept m.w m.ok m'.w m'.ok) (hlen : m'.σ.length = m.σ.length) (hφ : ∀ i, i < m.σ.length → lent i = false ∨ st i = true → m'.φ i = m.φ i) (hσ : ∀ i, lent i = false → m'.σ[i]? = m.σ[i]?) (hb : ∀ i g, i < m.σ.length → lent i = false → m.φ i = some g → m'.w.heap[g]? = m.w.heap[g]?) :
    ∀ (v : AV) (u : Value), AV.rel m v u → AV.rel m' (v.rid lent st) u
  | .ro v, u, h => by
    simp only [AV.rid, AV.rel] at h ⊢
    exact RV.rel_mono hro v u h
  | .junk, u, _ => by simp [AV.rel, AV.rid]
  | .obj i off, u, h => by
    have key : lent i = false ∨ st i = true → AV.rel m' (.obj i off) u := fun hk => by
      simp only [AV.rel] at h ⊢
      obtain ⟨h1, g, h2, h3⟩ := h
      exact ⟨by omega, g, (hφ i h1 hk).trans h2, h3⟩
    unfold AV.rid
    cases h1 : lent i <;> cases h2 : st i <;> first | exact key (.inl h1) | exact key (.inr h2) | simp [AV.rel]
  | .pin i off g, u, h => by
    have key : lent i = false ∨ st i = true → AV.rel m' (.pin i off g) u := fun hk => by
      simp only [AV.rel] at h ⊢
      obtain ⟨h1, h2, h3⟩ := h
      exact ⟨by omega, (hφ i h1 hk).trans h2, h3⟩
    unfold AV.rid
    cases h1 : lent i <;> cases h2 : st i <;> first | exact key (.inl h1) | exact key (.inr h2) | simp [AV.rel]
  | .own i, u, h => by
    have key : lent i = false → AV.rel m' (.own i) u := fun hk => by
      simp only [AV.rel] at h ⊢
      obtain ⟨ob, k, h1, h2, h3, h4⟩ := h
      have hi := (List.getElem?_eq_some_iff.1 h1).1
      refine ⟨ob, k, (hσ i hk).trans h1, h2, h3, ?_⟩
      rcases h4 with ⟨q1, q2, q3⟩ | ⟨g, cap, us, q1, q2, q3, q4⟩
      · exact .inl ⟨q1, q2, (hφ i hi (.inl hk)).trans q3⟩
      · exact .inr ⟨g, cap, us, (hφ i hi (.inl hk)).trans q1, q2, (hb i g hi hk q1).trans q3, q4⟩
    unfold AV.rid
    cases h1 : lent i <;> first | exact key h1 | simp [AV.rel]
  | .agg cs, u, h => by
    simp only [AV.rid, AV.rel] at h ⊢
    obtain ⟨us, e, h1⟩ := h
    exact ⟨us, e, rels_rid hro hlen hφ hσ hb cs _ h1⟩
  | .tup cs, u, h => by
    simp only [AV.rid, AV.rel] at h ⊢
    obtain ⟨us, e, h1⟩ := h
    exact ⟨us, e, rels_rid hro hlen hφ hσ hb cs _ h1⟩
  | .fn f a b, u, h => by
    simp only [AV.rid, AV.rel] at h ⊢
    obtain ⟨us, vs, e, h1, h2⟩ := h
    exact ⟨us, vs, e, rels_rid hro hlen hφ hσ hb a _ h1, rels_rid hro hlen hφ hσ hb b _ h2⟩
theorem rels_rid (hro : RV.Kept m.w m.ok m'.w m'.ok) (hlen : m'.σ.length = m.σ.length) (hφ : ∀ i, i < m.σ.length → lent i = false ∨ st i = true → m'.φ i = m.φ i) (hσ : ∀ i, lent i = false → m'.σ[i]? = m.σ[i]?) (hb : ∀ i g, i < m.σ.length → lent i = false → m.φ i = some g → m'.w.heap[g]? = m.w.heap[g]?) :
    ∀ (vs : List AV) (us : List Value), AV.rels m vs us → AV.rels m' (AV.rids lent st vs) us
  | [], us, h => by simpa [AV.rids, AV.rels] using h
  | x :: xs, us, h => by
    simp only [AV.rids, AV.rels] at h ⊢
    obtain ⟨u, us', e, h1, h2⟩ := h
    exact ⟨u, us', e, rel_rid hro hlen hφ hσ hb x u h1, rels_rid hro hlen hφ hσ hb xs us' h2⟩
end
end
theorem rids_at (lent st : Nat → Bool) : ∀ (l : List AV) (j : Nat), (AV.rids lent st l)[j]? = (l[j]?).map (AV.rid lent st)
  | [], j => by simp [AV.rids]
  | x :: xs, 0 => by simp [AV.rids]
  | x :: xs, j + 1 => by simp [AV.rids, rids_at lent st xs j]
def rof (ι : List Nat) (i : Nat) : Nat := (ι[i]?).getD 0
def lentB (ι : List Nat) (i : Nat) : Bool := ι.any fun j => Nat.beq j i
def stB' (ι st : List Nat) (i : Nat) : Bool := st.any fun j => Nat.beq (rof ι j) i
def putObs (ι : List Nat) (σ : List Ob) : List Ob → Nat → List Ob
  | [], _ => σ
  | o :: os, j => putObs ι (σ.set (rof ι j) (o.ren (rof ι))) os (j + 1)
theorem putObs_len (ι : List Nat) : ∀ (os σ : List Ob) (j : Nat), (putObs ι σ os j).length = σ.length
  | [], σ, j => rfl
  | o :: os, σ, j => by rw [putObs, putObs_len ι os]; simp
theorem putObs_off (ι : List Nat) (i : Nat) : ∀ (os σ : List Ob) (j : Nat), (∀ k, k < os.length → rof ι (j + k) ≠ i) → (putObs ι σ os j)[i]? = σ[i]?
  | [], σ, j, _ => rfl
  | o :: os, σ, j, h => by
    rw [putObs, putObs_off ι i os _ (j + 1) fun k hk => by
      have := h (k + 1) (by simp; omega)
      rwa [show j + (k + 1) = j + 1 + k by omega] at this]
    exact List.getElem?_set_ne (h 0 (by simp))
theorem putObs_at (ι : List Nat) : ∀ (os σ : List Ob) (j : Nat), (∀ a b, a < os.length → b < os.length → rof ι (j + a) = rof ι (j + b) → a = b) → ∀ (k : Nat) o, os[k]? = some o → rof ι (j + k) < σ.length → (putObs ι σ os j)[rof ι (j + k)]? = some (o.ren (rof ι))
  | [], σ, j, _, k, o, h, _ => by simp at h
  | x :: os, σ, j, hinj, k, o, h, hlt => by
    rw [putObs]
    cases k with
    | zero =>
      simp at h; subst h
      rw [putObs_off ι _ os _ (j + 1) fun k hk e => by
        have := hinj (k + 1) 0 (by simp; omega) (by simp) (by rw [show j + (k + 1) = j + 1 + k by omega]; exact e)
        omega]
      rw [Nat.add_zero] at hlt ⊢
      exact List.getElem?_set_self hlt
    | succ k =>
      simp at h
      have := putObs_at ι os (σ.set (rof ι j) (x.ren (rof ι))) (j + 1) (fun a b ha hb e => by
        have := hinj (a + 1) (b + 1) (by simp; omega) (by simp; omega) (by rw [show j + (a + 1) = j + 1 + a by omega, show j + (b + 1) = j + 1 + b by omega]; exact e)
        omega) k o h (by rw [show j + 1 + k = j + (k + 1) by omega]; simpa using hlt)
      rwa [show j + 1 + k = j + (k + 1) by omega] at this
def LentAt (ι : List Nat) (σ : List Ob) : List Ob → Nat → Prop
  | [], _ => True
  | o :: os, j => σ[rof ι j]? = some (o.ren (rof ι)) ∧ LentAt ι σ os (j + 1)
theorem LentAt.at_ {ι : List Nat} {σ : List Ob} : ∀ {os : List Ob} {j : Nat}, LentAt ι σ os j → ∀ (k : Nat) o, os[k]? = some o → σ[rof ι (j + k)]? = some (o.ren (rof ι))
  | [], j, _, k, o, h => by simp at h
  | x :: os, j, hl, k, o, h => by
    simp only [LentAt] at hl
    cases k with
    | zero => simp at h; subst h; exact hl.1
    | succ k =>
      simp at h
      have := LentAt.at_ hl.2 k o h
      rwa [show j + 1 + k = j + (k + 1) by omega] at this
def FreeR (ι st : List Nat) : Nat → List Ob → Prop
  | _, [] => True
  | i, o :: os => (lentB ι i = true ∨ AV.rids (lentB ι) (stB' ι st) o.cs = o.cs) ∧ FreeR ι st (i + 1) os
theorem FreeR.at_ {ι st : List Nat} : ∀ {os : List Ob} {i : Nat}, FreeR ι st i os → ∀ (k : Nat) o, os[k]? = some o → lentB ι (i + k) = true ∨ AV.rids (lentB ι) (stB' ι st) o.cs = o.cs
  | [], i, _, k, o, h => by simp at h
  | x :: os, i, hl, k, o, h => by
    simp only [FreeR] at hl
    cases k with
    | zero => simp at h; subst h; exact hl.1
    | succ k =>
      simp at h
      have := FreeR.at_ hl.2 k o h
      rwa [show i + 1 + k = i + (k + 1) by omega] at this
theorem rids_ros (lent st : Nat → Bool) : ∀ rs : List RV, AV.rids lent st (rs.map .ro) = rs.map .ro
  | [] => rfl
  | r :: rs => by simp only [List.map_cons, AV.rids, AV.rid, rids_ros lent st rs]
structure Lent (ι st : List Nat) (σ σ0 σ1 : List Ob) : Prop where
  len : Nat.beq σ0.length ι.length = true
  len1 : Nat.beq σ1.length ι.length = true
  lt : (ι.all fun i => Nat.ble (i + 1) σ.length) = true
  inj : ι.Nodup
  at_ : LentAt ι σ σ0 0
  closed : FreeO σ0.length σ0
  stl : (st.all fun j => Nat.ble (j + 1) ι.length) = true
  free : FreeR ι st 0 σ
def unpin : AV → AV
  | .pin i off _ => .obj i off
  | v => v
theorem unpin_rel {m : Mem} {v : AV} {u : Value} (h : AV.rel m v u) : AV.rel m (unpin v) u := by
  cases v <;> simp only [unpin] <;> try exact h
  case pin i off g =>
    simp only [AV.rel] at h ⊢
    exact ⟨h.1, g, h.2.1, h.2.2⟩
def putEnv (d : Option Nat) (v : AV) (env : Env) : Env := match d with
  | some t => (t, v) :: env
  | none => env
theorem lentB_iff {ι : List Nat} {i : Nat} : lentB ι i = true ↔ ∃ j, j < ι.length ∧ rof ι j = i := by
  unfold lentB
  rw [List.any_eq_true]
  constructor
  · rintro ⟨x, hx, hb⟩
    obtain ⟨j, hj, rfl⟩ := List.getElem_of_mem hx
    exact ⟨j, hj, by simpa [rof, hj] using Nat.eq_of_beq_eq_true hb⟩
  · rintro ⟨j, hj, rfl⟩
    refine ⟨ι[j], List.getElem_mem hj, ?_⟩
    simp [rof, hj]
theorem rof_inj {ι : List Nat} (h : ι.Nodup) {a b : Nat} (ha : a < ι.length) (hb : b < ι.length) (e : rof ι a = rof ι b) : a = b := by
  simp only [rof, List.getElem?_eq_getElem ha, List.getElem?_eq_getElem hb, Option.getD_some] at e
  exact (List.getElem_inj h).1 e
section
variable {P : Program} {C : Ctx} {ops : Array Oper} {rest : List Oper} {k : List Item} {R : Act → World → Prop} {env : Env} {σ : List Ob} {t : Nat} {ty : TypeId} {pos : String} {after : Array Edge}
theorem lent_step {ι st : List Nat} {σ0 σ1 : List Ob} {w w' : World} {φ φ1 : Nat → Option Nat} (hL : Lent ι st σ σ0 σ1) (hG : Good C ⟨w, φ, σ, C.ok⟩) {ok0 : Nat → Prop} (hok0 : ok0 = fun b => C.ok b ∧ ∀ i, i < σ.length → lentB ι i = false → φ i ≠ some b)
    (hG1 : Good ⟨w, ok0, mine (fun j => φ (rof ι j)) σ0.length, 0⟩ ⟨w', φ1, σ1, ok0⟩) (hst : ∀ i ∈ st, φ1 i = φ (rof ι i)) :
    ∃ φ', Good C ⟨w', φ', putObs ι σ σ1 0, C.ok⟩ ∧ (∀ v u, AV.rel ⟨w, φ, σ, C.ok⟩ v u → AV.rel ⟨w', φ', putObs ι σ σ1 0, C.ok⟩ (v.rid (lentB ι) (stB' ι st)) u) ∧ (∀ v u, AV.rel ⟨w', φ1, σ1, ok0⟩ v u → AV.rel ⟨w', φ', putObs ι σ σ1 0, C.ok⟩ (v.ren (rof ι)) u) := by
  subst hok0
  have hl0 : σ0.length = ι.length := Nat.eq_of_beq_eq_true hL.len
  have hl1 : σ1.length = ι.length := Nat.eq_of_beq_eq_true hL.len1
  have hlt : ∀ j, j < ι.length → rof ι j < σ.length := fun j hj => by
    have := List.all_eq_true.1 hL.lt ι[j] (List.getElem_mem hj)
    have := Nat.le_of_ble_eq_true this
    simp only [rof, List.getElem?_eq_getElem hj, Option.getD_some]
    omega
  have hinj : ∀ a b, a < ι.length → b < ι.length → rof ι a = rof ι b → a = b := fun a b ha hb e => rof_inj hL.inj ha hb e
  let φ' : Nat → Option Nat := open Classical in fun i => if h : ∃ j, j < ι.length ∧ rof ι j = i then φ1 h.choose else φ i
  have e1 : ∀ j, j < ι.length → φ' (rof ι j) = φ1 j := fun j hj => by
    have hex : ∃ j', j' < ι.length ∧ rof ι j' = rof ι j := ⟨j, hj, rfl⟩
    show (if h : ∃ j', j' < ι.length ∧ rof ι j' = rof ι j then φ1 h.choose else φ (rof ι j)) = _
    rw [dif_pos hex, hinj _ _ hex.choose_spec.1 hj hex.choose_spec.2]
  have e2 : ∀ i, lentB ι i = false → φ' i = φ i := fun i hi => by
    have hex : ¬ ∃ j', j' < ι.length ∧ rof ι j' = i := fun h => by rw [lentB_iff.2 h] at hi; cases hi
    show (if h : ∃ j', j' < ι.length ∧ rof ι j' = i then φ1 h.choose else φ i) = _
    rw [dif_neg hex]
  have hlen' : (putObs ι σ σ1 0).length = σ.length := putObs_len ι σ1 σ 0
  have hat : ∀ (j : Nat) o, σ1[j]? = some o → (putObs ι σ σ1 0)[rof ι j]? = some (o.ren (rof ι)) := fun j o hj => by
    have hjl := (List.getElem?_eq_some_iff.1 hj).1
    have := putObs_at ι σ1 σ 0 (fun a b ha hb e => hinj a b (by omega) (by omega) (by simpa using e)) j o hj (by rw [Nat.zero_add]; exact hlt j (by omega))
    rwa [Nat.zero_add] at this
  have hoff : ∀ i, lentB ι i = false → (putObs ι σ σ1 0)[i]? = σ[i]? := fun i hi => putObs_off ι i σ1 σ 0 fun k hk e => by
    rw [lentB_iff.2 ⟨0 + k, by omega, e⟩] at hi; cases hi
  have hblk : ∀ b, b < w.heap.size → (∀ j, j < ι.length → φ (rof ι j) ≠ some b) → w'.heap[b]? = w.heap[b]? := fun b hb h => hG1.frm.block b hb fun ⟨i, hi, e⟩ => h i (by omega) e
  have hm1 : ∀ j g, j < ι.length → φ1 j = some g → (∃ j', j' < ι.length ∧ φ (rof ι j') = some g) ∨ w.heap.size ≤ g := fun j g hj hg => by
    rcases hG1.mine j g (by simp only; omega) hg with ⟨i, hi, e⟩ | h
    · exact .inl ⟨i, by omega, e⟩
    · exact .inr h
  have hwl : w.heap.size ≤ w'.heap.size := hG1.frm.size
  have hGlt : ∀ i g, i < σ.length → φ i = some g → g < w.heap.size := fun i g hi hg => hG.lt hi hg
  -- a block that an object has now was one's before, or is new
  have hold : ∀ i g, i < σ.length → φ' i = some g → (∃ i', i' < σ.length ∧ φ i' = some g ∧ (lentB ι i = false → i' = i) ∧ (lentB ι i = true → lentB ι i' = true)) ∨ (w.heap.size ≤ g ∧ lentB ι i = true) := fun i g hi hg => by
    cases hb : lentB ι i with
    | false =>
      rw [e2 i hb] at hg
      exact .inl ⟨i, hi, hg, fun _ => rfl, fun h => by cases h⟩
    | true =>
      obtain ⟨j, hj, rfl⟩ := lentB_iff.1 hb
      rw [e1 j hj] at hg
      rcases hm1 j g hj hg with ⟨j', hj', h⟩ | h
      · exact .inl ⟨rof ι j', hlt j' hj', h, fun h => by simp at h, fun _ => lentB_iff.2 ⟨j', hj', rfl⟩⟩
      · exact .inr ⟨h, rfl⟩
  have hok2 : ∀ b, b < w.heap.size → AV.Mem.ok ⟨w, φ, σ, C.ok⟩ b → AV.Mem.ok ⟨w', φ', putObs ι σ σ1 0, C.ok⟩ b := fun b hb ho => ⟨ho.1, fun i hi e => by
    simp only at hi e
    rw [hlen'] at hi
    rcases hold i b hi e with ⟨i', h1, h2, _⟩ | ⟨h, _⟩
    · exact ho.2 i' h1 h2
    · omega⟩
  have hkept : RV.Kept w (AV.Mem.ok ⟨w, φ, σ, C.ok⟩) w' (AV.Mem.ok ⟨w', φ', putObs ι σ σ1 0, C.ok⟩) := ⟨hwl, fun b hb ho => ⟨hok2 b hb ho, hblk b hb fun j hj e => ho.2 (rof ι j) (hlt j hj) e⟩⟩
  have hnb : ∀ i g, i < σ.length → lentB ι i = false → φ i = some g → w'.heap[g]? = w.heap[g]? := fun i g hi hb hg => hblk g (hGlt i g hi hg) fun j hj e => by
    have := hG.inj i (rof ι j) g hi (hlt j hj) hg e
    rw [this, lentB_iff.2 ⟨j, hj, rfl⟩] at hb
    cases hb
  have hrid : ∀ v u, AV.rel ⟨w, φ, σ, C.ok⟩ v u → AV.rel ⟨w', φ', putObs ι σ σ1 0, C.ok⟩ (v.rid (lentB ι) (stB' ι st)) u := rel_rid (m := ⟨w, φ, σ, C.ok⟩) (m' := ⟨w', φ', putObs ι σ σ1 0, C.ok⟩) hkept hlen' (fun i hi h => by
    show φ' i = φ i
    rcases h with h | h
    · exact e2 i h
    · unfold stB' at h
      rw [List.any_eq_true] at h
      obtain ⟨j, hj, hb⟩ := h
      have hjl := Nat.le_of_ble_eq_true (List.all_eq_true.1 hL.stl j hj)
      have := Nat.eq_of_beq_eq_true hb
      subst this
      rw [e1 j (by omega), hst j hj]) hoff hnb
  have hren : ∀ v u, AV.rel ⟨w', φ1, σ1, fun b => C.ok b ∧ ∀ i, i < σ.length → lentB ι i = false → φ i ≠ some b⟩ v u → AV.rel ⟨w', φ', putObs ι σ σ1 0, C.ok⟩ (v.ren (rof ι)) u := rel_ren (n := ι.length) rfl (fun b ho => ⟨ho.1.1, fun i hi e => by
    simp only at hi e
    rw [hlen'] at hi
    cases hb : lentB ι i with
    | false => rw [e2 i hb] at e; exact ho.1.2 i hi hb e
    | true =>
      obtain ⟨j, hj, rfl⟩ := lentB_iff.1 hb
      rw [e1 j hj] at e
      exact ho.2 j (by simp only; omega) e⟩) (fun i hi => e1 i hi) (fun i hi => by simp only [hlen']; exact hlt i hi) hl1 (fun i o hi => ⟨AV.rens (rof ι) o.cs, hat i o hi, rens_len _ _⟩)
  refine ⟨φ', ⟨rfl, fun i j g hi hj h1 h2 => ?_, fun i o hi => ?_, fun i g hi hg => ?_, ⟨hG1.frm.os.trans hG.frm.os, hG1.frm.tape.trans hG.frm.tape, hG1.frm.output.trans hG.frm.output, Nat.le_trans hG.frm.size hwl, fun b hb hm => ?_, hG.frm.new⟩⟩, hrid, hren⟩
  · simp only [hlen'] at hi hj h1 h2
    cases hbi : lentB ι i with
    | true =>
      obtain ⟨a, ha, rfl⟩ := lentB_iff.1 hbi
      cases hbj : lentB ι j with
      | true =>
        obtain ⟨b, hb, rfl⟩ := lentB_iff.1 hbj
        rw [e1 a ha] at h1
        rw [e1 b hb] at h2
        rw [hG1.inj a b g (by simp only; omega) (by simp only; omega) h1 h2]
      | false =>
        rw [e2 j hbj] at h2
        rcases hold _ g hi h1 with ⟨i', k1, k2, _, k4⟩ | ⟨h, _⟩
        · have := hG.inj i' j g k1 hj k2 h2
          rw [this] at k4
          rw [k4 hbi] at hbj; cases hbj
        · have := hGlt j g hj h2; omega
    | false =>
      rw [e2 i hbi] at h1
      rcases hold _ g hj h2 with ⟨j', k1, k2, k3, k4⟩ | ⟨h, _⟩
      · have e := hG.inj i j' g hi k1 h1 k2
        cases hbj : lentB ι j with
        | true => rw [← e] at k4; rw [k4 hbj] at hbi; cases hbi
        | false => rw [e, k3 hbj]
      · have := hGlt i g hi h1; omega
  · show ObRel _ _ (φ' i)
    have hil : i < σ.length := by have := (List.getElem?_eq_some_iff.1 hi).1; simp only [hlen'] at this; exact this
    cases hb : lentB ι i with
    | true =>
      obtain ⟨j, hj, rfl⟩ := lentB_iff.1 hb
      have hj1 : j < σ1.length := by omega
      have hx := hat j _ (List.getElem?_eq_getElem hj1)
      simp only at hi
      rw [hx] at hi; injection hi with hi; subst hi
      have h := hG1.ob j _ (List.getElem?_eq_getElem hj1)
      rw [e1 j hj]
      simp only at h
      cases hφ : φ1 j with
      | none =>
        rw [hφ] at h
        simp only [ObRel, Ob.ren] at h ⊢
        rw [h]; rfl
      | some g =>
        rw [hφ] at h
        obtain ⟨us, q1, q2, q3⟩ := h
        refine ⟨us, q1, by simp only [Ob.ren, rens_len]; exact q2, fun m v hm => ?_⟩
        simp only [Ob.ren, rens_at] at hm
        obtain ⟨v0, hv0, rfl⟩ := Option.map_eq_some_iff.1 hm
        obtain ⟨u, k1, k2, k3⟩ := q3 m v0 hv0
        exact ⟨u, k1, k2, hren v0 u k3⟩
    | false =>
      simp only [hoff i hb] at hi
      have h := hG.ob i o hi
      rw [e2 i hb]
      simp only at h
      cases hφ : φ i with
      | none => rw [hφ] at h; exact h
      | some g =>
        rw [hφ] at h
        obtain ⟨us, q1, q2, q3⟩ := h
        refine ⟨us, (hnb i g hil hb hφ).trans q1, q2, fun m v hm => ?_⟩
        obtain ⟨u, k1, k2, k3⟩ := q3 m v hm
        refine ⟨u, k1, k2, ?_⟩
        have hf := hL.free.at_ i o hi
        rw [Nat.zero_add, hb] at hf
        rcases hf with hf | hf
        · cases hf
        · have := rids_at (lentB ι) (stB' ι st) o.cs m
          rw [hf, hm] at this
          injection this with this
          rw [this]
          exact hrid v u k3
  · simp only [hlen'] at hi hg
    rcases hold i g hi hg with ⟨i', k1, k2, _⟩ | ⟨h, _⟩
    · exact hG.mine i' g k1 k2
    · exact .inr (Nat.le_trans hG.frm.size h)
  · refine (hblk b (Nat.lt_of_lt_of_le hb hG.frm.size) fun j hj e => ?_).trans (hG.frm.block b hb hm)
    rcases hG.mine (rof ι j) b (hlt j hj) e with h | h
    · exact hm h
    · omega
theorem lent_good {ι st : List Nat} {σ0 σ1 : List Ob} {w : World} {φ : Nat → Option Nat} (hL : Lent ι st σ σ0 σ1) (hG : Good C ⟨w, φ, σ, C.ok⟩) {ok0 : Nat → Prop} (hok0 : ok0 = fun b => C.ok b ∧ ∀ i, i < σ.length → lentB ι i = false → φ i ≠ some b) :
    Good ⟨w, ok0, mine (fun j => φ (rof ι j)) σ0.length, 0⟩ ⟨w, fun j => φ (rof ι j), σ0, ok0⟩ ∧ ∀ v u, v.only (fun i => i < σ0.length) → AV.rel ⟨w, φ, σ, C.ok⟩ (v.ren (rof ι)) u → AV.rel ⟨w, fun j => φ (rof ι j), σ0, ok0⟩ v u := by
  subst hok0
  have hl0 : σ0.length = ι.length := Nat.eq_of_beq_eq_true hL.len
  have hlt : ∀ j, j < ι.length → rof ι j < σ.length := fun j hj => by
    have := List.all_eq_true.1 hL.lt ι[j] (List.getElem_mem hj)
    have := Nat.le_of_ble_eq_true this
    simp only [rof, List.getElem?_eq_getElem hj, Option.getD_some]
    omega
  have hat : ∀ (j : Nat) o, σ0[j]? = some o → σ[rof ι j]? = some (o.ren (rof ι)) := fun j o hj => by
    have := hL.at_.at_ j o hj
    rwa [Nat.zero_add] at this
  have hun : ∀ v u, v.only (fun i => i < σ0.length) → AV.rel ⟨w, φ, σ, C.ok⟩ (v.ren (rof ι)) u → AV.rel ⟨w, fun j => φ (rof ι j), σ0, fun b => C.ok b ∧ ∀ i, i < σ.length → lentB ι i = false → φ i ≠ some b⟩ v u :=
    rel_unren (m := ⟨w, φ, σ, C.ok⟩) rfl (fun b ho => ⟨⟨ho.1, fun i hi _ => ho.2 i hi⟩, fun j hj => ho.2 (rof ι j) (hlt j (by simp only at hj; omega))⟩) (fun i _ => rfl) rfl (fun i o hi ho => by
      simp only at ho
      have := hat i _ (List.getElem?_eq_getElem hi)
      rw [this] at ho; injection ho with ho; subst ho
      exact ⟨σ0[i].cs, List.getElem?_eq_getElem hi, by simp only [Ob.ren, rens_len]⟩)
  refine ⟨⟨rfl, fun i j g hi hj h1 h2 => ?_, fun j o hj => ?_, fun i g hi hg => .inl ⟨i, hi, hg⟩, ⟨rfl, rfl, rfl, Nat.le_refl _, fun _ _ _ => rfl, fun b hb => ⟨hG.frm.new b (Nat.le_trans hG.frm.size hb), fun i hi _ e => by have := hG.lt (m := ⟨w, φ, σ, C.ok⟩) hi e; simp only at this hb; omega⟩⟩⟩, hun⟩
  · simp only at hi hj
    exact rof_inj hL.inj (by omega) (by omega) (hG.inj _ _ g (hlt i (by omega)) (hlt j (by omega)) h1 h2)
  · simp only at hj
    have h := hG.ob _ _ (hat j o hj)
    show ObRel _ _ (φ (rof ι j))
    simp only at h
    cases hφ : φ (rof ι j) with
    | none =>
      rw [hφ] at h
      simp only [ObRel, Ob.ren] at h ⊢
      have := rens_len (rof ι) o.cs
      rw [h] at this
      exact List.eq_nil_of_length_eq_zero (by simpa using this.symm)
    | some g =>
      rw [hφ] at h
      obtain ⟨us, q1, q2, q3⟩ := h
      simp only [Ob.ren, rens_len] at q2
      refine ⟨us, q1, q2, fun m v hm => ?_⟩
      obtain ⟨u, k1, k2, k3⟩ := q3 m (v.ren (rof ι)) (by simp only [Ob.ren, rens_at, hm]; rfl)
      exact ⟨u, k1, k2, hun v u (onlys_mem (hL.closed.at_ j o hj) m v hm) k3⟩
theorem rels_unpin {m : Mem} : ∀ (vs : List AV) (us : List Value), AV.rels m vs us → AV.rels m (vs.map unpin) us
  | [], us, h => by simpa [AV.rels] using h
  | x :: xs, us, h => by
    simp only [List.map_cons, AV.rels] at h ⊢
    obtain ⟨u, us', e, h1, h2⟩ := h
    exact ⟨u, us', e, unpin_rel h1, rels_unpin xs us' h2⟩
theorem op_callM {f : FuncId} {fn : Func} {xs : Array Operand} {ats : Array TypeId} {σ0 σ1 : List Ob} {st : List Nat} {args : List AV} {v : AV} {d : Option Nat} [hfn : FN P f fn] (ι : List Nat) (hf : AM P f σ0 st args σ1 v)
    (ha : (xs.toList.map (ev env)).map unpin = AV.rens (rof ι) args) (hcl : AV.onlys (fun i => i < σ0.length) args) (hL : Lent ι st σ σ0 σ1) (ht : ∀ t, d = some t → t < C.n)
    (hk : RunsL P C ops rest k R ⟨putEnv d (v.ren (rof ι)) (ridEnv (lentB ι) (stB' ι st) env), putObs ι σ σ1 0⟩) :
    RunsL P C ops (⟨d, .call { callee := .value (.func f), args := xs, argTypes := ats }, ty, pos, after, none⟩ :: rest) k R ⟨env, σ⟩ := by
  refine ⟨fun a w ⟨s1, s2, φ, hG, hH⟩ => ?_⟩
  refine wpList_plain rfl fun K hK' => ?_
  have hr := rels_unpin _ _ (rels_eval (a := a) (m := ⟨w, φ, σ, C.ok⟩) xs.toList fun x hx => ev_rel hH x)
  rw [ha] at hr
  obtain ⟨hG0, hun⟩ := lent_good hL hG rfl
  have key : ∀ (vs : List AV) (us : List Value), AV.onlys (fun i => i < σ0.length) vs → AV.rels ⟨w, φ, σ, C.ok⟩ (AV.rens (rof ι) vs) us → AV.rels ⟨w, fun j => φ (rof ι j), σ0, fun b => C.ok b ∧ ∀ i, i < σ.length → lentB ι i = false → φ i ≠ some b⟩ vs us := by
    intro vs
    induction vs with
    | nil => intro us _ h; simpa [AV.rens, AV.rels] using h
    | cons x xs ih =>
      intro us ho h
      simp only [AV.rens, AV.rels, AV.onlys] at h ho ⊢
      obtain ⟨u, us', e, h1, h2⟩ := h
      exact ⟨u, us', e, hun x u ho.1 h1, ih us' ho.2 h2⟩
  unfold Oper.wp
  rw [execOp_call_go, run_call hfn]
  simp only [Oper.upon]
  refine (hf w _ _ _ hG0 (by simpa using key args _ hcl hr)).mono ?_
  rintro e w' ⟨u, φ1, rfl, hG1, hv, hst⟩
  obtain ⟨φ', g1, g2, g3⟩ := lent_step hL hG rfl hG1 hst
  cases d with
  | none => exact hK' _ _ (hk.run _ _ ⟨s1, s2, φ', g1, fun s => by rw [show look (⟨putEnv none _ _, _⟩ : St).env s = _ from look_ridEnv _ _ _ _]; exact g2 _ _ (hH s)⟩)
  | some t => exact hK' _ _ (hk.run _ _ ⟨s1, by simp [Act.put, s2], φ', g1, Holds.put (fun s => by rw [look_ridEnv]; exact g2 _ _ (hH s)) (by rw [s2]; exact ht t rfl) (g3 _ _ hv)⟩)
end
end Go.Proofs.Ytkhnijggbfoimaa
/- Functions that are handed the first objects of their caller's. Over any program. -/
namespace Go.Proofs.Ytkhnijggbfoimaa
set_option linter.unusedSimpArgs false
set_option linter.unusedVariables false
open Go.RowKit
open AV (Mem Keeps)
def ltB (n i : Nat) : Bool := Nat.ble (i + 1) n
def memB (st : List Nat) (i : Nat) : Bool := st.any fun j => Nat.beq j i
def FreeP (n : Nat) (st : List Nat) : List Ob → Prop
  | [] => True
  | o :: os => AV.rids (ltB n) (memB st) o.cs = o.cs ∧ FreeP n st os
theorem rof_range {n i : Nat} (h : i < n) : rof (List.range n) i = i := by simp [rof, h]
theorem lentB_range (n : Nat) : lentB (List.range n) = ltB n := by
  funext i
  rw [Bool.eq_iff_iff, lentB_iff]
  unfold ltB
  rw [List.length_range]
  constructor
  · rintro ⟨j, hj, e⟩
    rw [rof_range hj] at e
    subst e
    exact Nat.ble_eq_true_of_le hj
  · intro h
    have := Nat.le_of_ble_eq_true h
    exact ⟨i, this, rof_range this⟩
theorem stB_range {n : Nat} {st : List Nat} (h : (st.all fun j => Nat.ble (j + 1) n) = true) : stB' (List.range n) st = memB st := by
  funext i
  unfold stB' memB
  rw [Bool.eq_iff_iff, List.any_eq_true, List.any_eq_true]
  constructor
  · rintro ⟨j, hj, e⟩
    have := Nat.le_of_ble_eq_true (List.all_eq_true.1 h j hj)
    rw [rof_range this] at e
    exact ⟨j, hj, e⟩
  · rintro ⟨j, hj, e⟩
    have := Nat.le_of_ble_eq_true (List.all_eq_true.1 h j hj)
    exact ⟨j, hj, by rw [rof_range this]; exact e⟩
mutual
theorem ren_id {r : Nat → Nat} {n : Nat} (hr : ∀ i, i < n → r i = i) : ∀ v : AV, v.only (fun i => i < n) → v.ren r = v
  | .ro _, _ | .junk, _ => rfl
  | .obj i off, h => by simp only [AV.only] at h; simp only [AV.ren, hr i h]
  | .pin i off g, h => by simp only [AV.only] at h; simp only [AV.ren, hr i h]
  | .own i, h => by simp only [AV.only] at h; simp only [AV.ren, hr i h]
  | .agg cs, h => by simp only [AV.only] at h; simp only [AV.ren, rens_id hr cs h]
  | .tup cs, h => by simp only [AV.only] at h; simp only [AV.ren, rens_id hr cs h]
  | .fn f a b, h => by simp only [AV.only] at h; simp only [AV.ren, rens_id hr a h.1, rens_id hr b h.2]
theorem rens_id {r : Nat → Nat} {n : Nat} (hr : ∀ i, i < n → r i = i) : ∀ vs : List AV, AV.onlys (fun i => i < n) vs → AV.rens r vs = vs
  | [], _ => rfl
  | x :: xs, h => by simp only [AV.onlys] at h; simp only [AV.rens, ren_id hr x h.1, rens_id hr xs h.2]
end
theorem obren_id {r : Nat → Nat} {n : Nat} (hr : ∀ i, i < n → r i = i) {o : Ob} (h : AV.onlys (fun i => i < n) o.cs) : o.ren r = o := by
  simp only [Ob.ren, rens_id hr o.cs h]
theorem lentAt_of {ι : List Nat} {σ : List Ob} : ∀ (os : List Ob) (j : Nat), (∀ (k : Nat) o, os[k]? = some o → σ[rof ι (j + k)]? = some (o.ren (rof ι))) → LentAt ι σ os j
  | [], j, _ => trivial
  | o :: os, j, h => ⟨by simpa using h 0 o rfl, lentAt_of os (j + 1) fun k o' hk => by
      have := h (k + 1) o' (by simpa using hk)
      rwa [show j + (k + 1) = j + 1 + k by omega] at this⟩
theorem freeR_of {ι st : List Nat} : ∀ (os : List Ob) (i : Nat), (∀ (k : Nat) o, os[k]? = some o → lentB ι (i + k) = true ∨ AV.rids (lentB ι) (stB' ι st) o.cs = o.cs) → FreeR ι st i os
  | [], i, _ => trivial
  | o :: os, i, h => ⟨by simpa using h 0 o rfl, freeR_of os (i + 1) fun k o' hk => by
      have := h (k + 1) o' (by simpa using hk)
      rwa [show i + (k + 1) = i + 1 + k by omega] at this⟩
theorem FreeP.at_ {n : Nat} {st : List Nat} : ∀ {os : List Ob}, FreeP n st os → ∀ (k : Nat) o, os[k]? = some o → AV.rids (ltB n) (memB st) o.cs = o.cs
  | [], _, k, o, h => by simp at h
  | x :: os, hl, k, o, h => by
    simp only [FreeP] at hl
    cases k with
    | zero => simp at h; subst h; exact hl.1
    | succ k => simp at h; exact FreeP.at_ hl.2 k o h
section
variable {P : Program} {C : Ctx} {ops : Array Oper} {rest : List Oper} {k : List Item} {R : Act → World → Prop} {env : Env} {σ : List Ob} {t : Nat} {ty : TypeId} {pos : String} {after : Array Edge}
theorem lent_range {n : Nat} {σ0 σ1 more : List Ob} {st : List Nat} (hn0 : Nat.beq σ0.length n = true) (hn1 : Nat.beq σ1.length n = true) (h0 : FreeO n σ0) (h1 : FreeO n σ1) (hst : (st.all fun j => Nat.ble (j + 1) n) = true) (hfree : FreeP n st more) :
    Lent (List.range n) st (σ0 ++ more) σ0 σ1 ∧ putObs (List.range n) (σ0 ++ more) σ1 0 = σ1 ++ more := by
  have e0 : σ0.length = n := Nat.eq_of_beq_eq_true hn0
  have e1 : σ1.length = n := Nat.eq_of_beq_eq_true hn1
  have hr : ∀ i, i < n → rof (List.range n) i = i := fun i hi => rof_range hi
  refine ⟨⟨by rw [List.length_range]; exact hn0, by rw [List.length_range]; exact hn1, ?_, List.nodup_range, lentAt_of _ _ fun j o hj => ?_, by rw [e0]; exact h0, by rw [List.length_range]; exact hst, freeR_of _ _ fun j o hj => ?_⟩, ?_⟩
  · rw [List.all_eq_true]
    intro i hi
    rw [List.mem_range] at hi
    exact Nat.ble_eq_true_of_le (by rw [List.length_append]; omega)
  · have hjl := (List.getElem?_eq_some_iff.1 hj).1
    rw [Nat.zero_add, hr j (by omega), List.getElem?_append_left hjl, hj, obren_id hr (h0.at_ j o hj)]
  · rw [Nat.zero_add, lentB_range, stB_range hst]
    rcases Nat.lt_or_ge j n with h | h
    · exact .inl (Nat.ble_eq_true_of_le h)
    · rw [List.getElem?_append_right (by omega)] at hj
      exact .inr (hfree.at_ _ o hj)
  · refine List.ext_getElem? fun i => ?_
    rcases Nat.lt_or_ge i n with h | h
    · have hx : σ1[i]? = some _ := List.getElem?_eq_getElem (show i < σ1.length by omega)
      have := putObs_at (List.range n) σ1 (σ0 ++ more) 0 (fun a b ha hb e => by
        rw [Nat.zero_add, Nat.zero_add, hr a (by omega), hr b (by omega)] at e; exact e) i _ hx (by rw [Nat.zero_add, hr i h, List.length_append]; omega)
      rw [Nat.zero_add, hr i h, obren_id hr (h1.at_ i _ hx)] at this
      rw [this, List.getElem?_append_left (by omega), hx]
    · rw [putObs_off (List.range n) i σ1 (σ0 ++ more) 0 fun k hk e => by rw [Nat.zero_add, hr k (by omega)] at e; omega]
      rw [List.getElem?_append_right (by omega), List.getElem?_append_right (by omega), e0, e1]
theorem op_callP {f : FuncId} {fn : Func} {xs : Array Operand} {ats : Array TypeId} {σ0 σ1 more : List Ob} {st : List Nat} {args : List AV} {v : AV} {d : Option Nat} [hfn : FN P f fn] (n : Nat) (hf : AM P f σ0 st args σ1 v)
    (ha : (xs.toList.map (ev env)).map unpin = args) (hcl : AV.onlys (fun i => i < n) args) (hv : v.only fun i => i < n) (hσ : σ = σ0 ++ more) (hn0 : Nat.beq σ0.length n = true) (hn1 : Nat.beq σ1.length n = true) (h0 : FreeO n σ0) (h1 : FreeO n σ1) (hst : (st.all fun j => Nat.ble (j + 1) n) = true) (hfree : FreeP n st more) (ht : ∀ t, d = some t → t < C.n)
    (hk : RunsL P C ops rest k R ⟨putEnv d v (ridEnv (ltB n) (memB st) env), σ1 ++ more⟩) :
    RunsL P C ops (⟨d, .call { callee := .value (.func f), args := xs, argTypes := ats }, ty, pos, after, none⟩ :: rest) k R ⟨env, σ⟩ := by
  subst hσ
  obtain ⟨hL, hp⟩ := lent_range hn0 hn1 h0 h1 hst hfree
  have hr : ∀ i, i < n → rof (List.range n) i = i := fun i hi => rof_range hi
  have e0 : σ0.length = n := Nat.eq_of_beq_eq_true hn0
  refine op_callM (List.range n) hf (by rw [ha, rens_id hr args hcl]) (by rw [e0]; exact hcl) hL ht ?_
  rw [hp, lentB_range, stB_range hst, ren_id hr v hv]
  exact hk
theorem op_callMF {f : FuncId} {fn : Func} {x : Operand} {xs : Array Operand} {ats : Array TypeId} {σ0 σ1 : List Ob} {st : List Nat} {args : List AV} {v : AV} {d : Option Nat} [hfn : FN P f fn] (ι : List Nat) (hx : ev env x = .fn (.func f) [] []) (hf : AM P f σ0 st args σ1 v)
    (ha : (xs.toList.map (ev env)).map unpin = AV.rens (rof ι) args) (hcl : AV.onlys (fun i => i < σ0.length) args) (hL : Lent ι st σ σ0 σ1) (ht : ∀ t, d = some t → t < C.n)
    (hk : RunsL P C ops rest k R ⟨putEnv d (v.ren (rof ι)) (ridEnv (lentB ι) (stB' ι st) env), putObs ι σ σ1 0⟩) :
    RunsL P C ops (⟨d, .call { callee := .value x, args := xs, argTypes := ats }, ty, pos, after, none⟩ :: rest) k R ⟨env, σ⟩ := by
  refine ⟨fun a w ⟨s1, s2, φ, hG, hH⟩ => ?_⟩
  refine wpList_plain rfl fun K hK' => ?_
  have h0 := ev_rel hH x
  rw [hx] at h0
  simp only [AV.rel, AV.rels] at h0
  obtain ⟨us, vs, e, hu, hv0⟩ := h0
  have hu' : us = #[] := by cases us; simp_all
  have hv' : vs = #[] := by cases vs; simp_all
  subst hu'; subst hv'
  have hr := rels_unpin _ _ (rels_eval (a := a) (m := ⟨w, φ, σ, C.ok⟩) xs.toList fun x hx => ev_rel hH x)
  rw [ha] at hr
  obtain ⟨hG0, hun⟩ := lent_good hL hG rfl
  have key : ∀ (vs : List AV) (us : List Value), AV.onlys (fun i => i < σ0.length) vs → AV.rels ⟨w, φ, σ, C.ok⟩ (AV.rens (rof ι) vs) us → AV.rels ⟨w, fun j => φ (rof ι j), σ0, fun b => C.ok b ∧ ∀ i, i < σ.length → lentB ι i = false → φ i ≠ some b⟩ vs us := by
    intro vs
    induction vs with
    | nil => intro us _ h; simpa [AV.rens, AV.rels] using h
    | cons x xs ih =>
      intro us ho h
      simp only [AV.rens, AV.rels, AV.onlys] at h ho ⊢
      obtain ⟨u, us', e, h1, h2⟩ := h
      exact ⟨u, us', e, hun x u ho.1 h1, ih us' ho.2 h2⟩
  unfold Oper.wp execOp
  simp only [resolve, e, Deferred.ofValue, Sem.run_bind, Sem.run_pure, Result.andThen_ok, invoke]
  rw [run_call hfn]
  simp only [Oper.upon]
  refine (hf w _ _ _ hG0 (by simpa using key args _ hcl hr)).mono ?_
  rintro e w' ⟨u, φ1, rfl, hG1, hv, hst⟩
  obtain ⟨φ', g1, g2, g3⟩ := lent_step hL hG rfl hG1 hst
  cases d with
  | none => exact hK' _ _ (hk.run _ _ ⟨s1, s2, φ', g1, fun s => by rw [show look (⟨putEnv none _ _, _⟩ : St).env s = _ from look_ridEnv _ _ _ _]; exact g2 _ _ (hH s)⟩)
  | some t => exact hK' _ _ (hk.run _ _ ⟨s1, by simp [Act.put, s2], φ', g1, Holds.put (fun s => by rw [look_ridEnv]; exact g2 _ _ (hH s)) (by rw [s2]; exact ht t rfl) (g3 _ _ hv)⟩)
theorem pu_nilCheckP {gd : Option (Nat × Bool)} {x : Operand} {i off g : Nat} (hx : ev env x = .pin i off g) : Pur P C ⟨some t, .nilCheck x, ty, pos, after, gd⟩ env σ (.pin i off g) :=
  Pur.of (fun a m hG hσ hH => by
    have h := hH x (by simp [Op.operands, Call.operands])
    rw [hx] at h
    have h' := h
    simp only [AV.rel] at h
    obtain ⟨_, _, e⟩ := h
    exact ⟨a.eval x, by simp [execOp, e], h'⟩)
theorem pu_nilCheckO {gd : Option (Nat × Bool)} {x : Operand} {i off : Nat} (hx : ev env x = .obj i off) : Pur P C ⟨some t, .nilCheck x, ty, pos, after, gd⟩ env σ (.obj i off) :=
  Pur.of (fun a m hG hσ hH => by
    have h := hH x (by simp [Op.operands, Call.operands])
    rw [hx] at h
    have h' := h
    simp only [AV.rel] at h
    obtain ⟨_, g, _, e⟩ := h
    exact ⟨a.eval x, by simp [execOp, e], h'⟩)
theorem op_appendB {tt e : TypeId} {z : Value} {sz bytes i : Nat} {o : Ob} {rs : List RV} {els : List (List RV)} {x y : Operand} [hs : SL P tt e z sz bytes] (hx : ev env x = .own i) (ho : σ[i]? = some o) (hc : allRo o.cs = some rs) (hy : ev env y = .ro (.seq sz els)) (het : o.t = e) (hes : o.sz = sz)
    (hn : rs.length = (rs.length / sz) * sz) (hfree : FreeI i (σ.set i ⟨o.t, o.sz, []⟩)) (b1 : rs.length / sz + els.length ≤ 4294967296) (b2 : Nat.ble bytes 256 = true) (ht : t < C.n)
    (hk : RunsL P C ops rest k R ⟨(t, .own i) :: killEnv i env, σ.set i ⟨e, sz, (rs ++ els.flatten).map .ro⟩⟩) :
    RunsL P C ops (⟨some t, .call { callee := .builtin .append, args := #[x, y], argTypes := #[tt, tt] }, ty, pos, after, none⟩ :: rest) k R ⟨env, σ⟩ :=
  op_append (n := rs.length / sz) hx ho (allRo_eq hc) hy het hes hn (fun j ob hj => by
    by_cases hji : j = i
    · subst hji
      rw [ho] at hj; injection hj with hj; subst hj
      rw [allRo_eq hc]; exact onlys_ro _ _
    · exact hfree.at_ j ob (by rw [List.getElem?_set_ne (Ne.symm hji)]; exact hj)) (by omega) (by
    have h := Nat.le_of_ble_eq_true b2
    have := Nat.mul_le_mul b1 h
    omega) ht hk
theorem Lends.pin {i off g : Nat} {o : Ob} {rs : List RV} (ho : σ[i]? = some o) (h : LendsL C σ (o.cs.drop off) rs) : Lends C σ (.pin i off g) (.rp rs) := fun m u ok' hG hσ k1 k2 hu => by
  refine Lends.obj ho h m u ok' hG hσ k1 k2 ?_
  exact unpin_rel (v := .pin i off g) hu
theorem sim_nilCell (i p : Nat) {o : Ob} {e : TypeId} {sz : Nat} (hs : 0 < sz) (ho : σ[i]? = some o) (h : o.cs[p]? = some .nil) {a : Act} {w : World} (hsim : Sim C ⟨env, σ⟩ a w) : Sim C ⟨env, σ.set i ⟨o.t, o.sz, o.cs.set p (.own σ.length)⟩ ++ [⟨e, sz, []⟩]⟩ a w := by
  obtain ⟨h1, h2, φ, hG, hH⟩ := hsim
  have hil := (List.getElem?_eq_some_iff.1 ho).1
  obtain ⟨g1, g2⟩ := good_grow (φ' := upd φ σ.length none) (new := [⟨e, sz, []⟩]) hG (Below.refl _ _) (fun i hi => upd_ne (show i ≠ σ.length from Nat.ne_of_lt hi)) (fun j hj g hg => by
      simp at hj; subst hj; simp [upd_eq] at hg) (fun i j g hi hj _ _ => by simp at hi hj; omega) (fun j o hj => by
      cases j with
      | zero => simp at hj; subst hj; simp [upd_eq, ObRel]
      | succ j => simp at hj)
  -- the cell is that row
  have hlen : (σ.set i ⟨o.t, o.sz, o.cs.set p (.own σ.length)⟩ ++ [(⟨e, sz, []⟩ : Ob)]).length = (σ ++ [(⟨e, sz, []⟩ : Ob)]).length := by simp
  have hat : ∀ j, j ≠ i → (σ.set i ⟨o.t, o.sz, o.cs.set p (.own σ.length)⟩ ++ [(⟨e, sz, []⟩ : Ob)])[j]? = (σ ++ [(⟨e, sz, []⟩ : Ob)])[j]? := fun j hj => by
    rcases Nat.lt_or_ge j σ.length with h | h
    · rw [List.getElem?_append_left (by simpa using h), List.getElem?_append_left h, List.getElem?_set_ne (Ne.symm hj)]
    · rw [List.getElem?_append_right (by simpa using h), List.getElem?_append_right h]; simp
  have hati : (σ.set i ⟨o.t, o.sz, o.cs.set p (.own σ.length)⟩ ++ [(⟨e, sz, []⟩ : Ob)])[i]? = some ⟨o.t, o.sz, o.cs.set p (.own σ.length)⟩ := by
    rw [List.getElem?_append_left (by simpa using hil), List.getElem?_set_self hil]
  have hati0 : (σ ++ [(⟨e, sz, []⟩ : Ob)])[i]? = some o := by rw [List.getElem?_append_left hil]; exact ho
  have hK : Keeps (fun _ => True) ⟨w, upd φ σ.length none, σ ++ [⟨e, sz, []⟩], C.ok⟩ ⟨w, upd φ σ.length none, σ.set i ⟨o.t, o.sz, o.cs.set p (.own σ.length)⟩ ++ [⟨e, sz, []⟩], C.ok⟩ := by
    refine ⟨⟨Nat.le_refl _, fun b _ hb => ⟨⟨hb.1, fun j hj => hb.2 j (by rw [← hlen]; exact hj)⟩, rfl⟩⟩, fun j _ hj => ⟨by rw [← hlen] at hj; exact hj, rfl⟩, fun j ob _ hj => ?_, fun j g us t _ _ _ hh => ⟨us, hh, rfl⟩⟩
    by_cases e : j = i
    · subst e
      simp only at hj
      rw [hati0] at hj; injection hj with hj; subst hj
      exact ⟨_, hati, by simp⟩
    · exact ⟨ob.cs, by simp only; rw [hat j e]; exact hj, rfl⟩
  refine ⟨h1, h2, upd φ σ.length none, ⟨rfl, fun a b g ha hb => g1.inj a b g (by rw [← hlen]; exact ha) (by rw [← hlen]; exact hb), fun j ob hj => ?_, fun j g hj => g1.mine j g (by rw [← hlen]; exact hj), g1.frm⟩, (hH.keeps g2).keeps hK⟩
  by_cases e' : j = i
  · subst e'
    simp only at hj
    rw [hati] at hj; injection hj with hj; subst hj
    have h0 := g1.ob j o hati0
    show ObRel _ _ (upd φ σ.length none j)
    simp only at h0
    cases hφ : upd φ σ.length none j with
    | none =>
      rw [hφ] at h0
      simp only [ObRel] at h0
      rw [h0] at h; simp at h
    | some g =>
      rw [hφ] at h0
      obtain ⟨us, q1, q2, q3⟩ := h0
      refine ⟨us, q1, by simpa using q2, fun m v hm => ?_⟩
      simp only [List.getElem?_set] at hm
      split at hm
      · rename_i hpm
        subst hpm
        split at hm
        · injection hm with hm; subst hm
          obtain ⟨u, k1, k2, k3⟩ := q3 p _ h
          simp only [AV.rel, RV.rel] at k3
          subst k3
          refine ⟨_, k1, rfl, ?_⟩
          simp only [AV.rel]
          exact ⟨⟨e, sz, []⟩, 0, by rw [List.getElem?_append_right (by simp)]; simp, by simp, hs, .inl ⟨by first | rfl | trivial, by first | rfl | trivial, upd_eq⟩⟩
        · cases hm
      · obtain ⟨u, k1, k2, k3⟩ := q3 m v hm
        exact ⟨u, k1, k2, AV.rel_keeps hK _ _ (AV.only_true _) k3⟩
  · simp only at hj
    rw [hat j e'] at hj
    exact (g1.ob j ob hj).keeps hK fun _ _ => rfl
theorem RunsL.nilCell {l : List Oper} (i p : Nat) {o : Ob} {e : TypeId} {sz : Nat} (hs : 0 < sz) (ho : σ[i]? = some o) (h : o.cs[p]? = some .nil) (hk : RunsL P C ops l k R ⟨env, σ.set i ⟨o.t, o.sz, o.cs.set p (.own σ.length)⟩ ++ [⟨e, sz, []⟩]⟩) : RunsL P C ops l k R ⟨env, σ⟩ :=
  ⟨fun a w hsim => hk.run a w (sim_nilCell i p hs ho h hsim)⟩
theorem Runs.nilCell (i p : Nat) {o : Ob} {e : TypeId} {sz : Nat} (hs : 0 < sz) (ho : σ[i]? = some o) (h : o.cs[p]? = some .nil) (hk : Runs P C k R ⟨env, σ.set i ⟨o.t, o.sz, o.cs.set p (.own σ.length)⟩ ++ [⟨e, sz, []⟩]⟩) : Runs P C k R ⟨env, σ⟩ :=
  ⟨fun a w hsim => hk.run a w (sim_nilCell i p hs ho h hsim)⟩
theorem pu_callSL {gd : Option (Nat × Bool)} {f : FuncId} {fn : Func} {xs : Array Operand} {ats : Array TypeId} {args : List RV} {e : TypeId} {sz : Nat} {vs : List Value} {els : List (List RV)} [hfn : FN P f fn] (hf : AC P f args fun rr => rr = .row e sz (vs.map .c)) (hels : els.flatten = vs.map .c) (hl : ∀ x ∈ els, x.length = sz) (ha : LendsL C σ (xs.toList.map (ev env)) args) :
    Pur P C ⟨some t, .call { callee := .value (.func f), args := xs, argTypes := ats }, ty, pos, after, gd⟩ env σ (.ro (.seq sz els)) := by
  refine ⟨fun a m hG hσ hH K Q hK => ?_⟩
  have hr := LendsL.rels (ok' := fun _ => True) hG hσ (fun _ _ => trivial) (fun _ _ _ _ => trivial) ha _ (rels_eval (a := a) (m := m) xs.toList fun x hx => hH x (by simp [Op.operands, Call.operands]; exact .inr (by simpa using hx)))
  unfold Oper.wp
  rw [execOp_call_go, run_call hfn]
  simp only [Oper.upon]
  refine (hf m.w (fun _ => True) _ (fun _ _ => trivial) (by simpa using hr)).mono ?_
  rintro e' w' ⟨u, rr, bs, rfl, rfl, h1, _, h3, h4⟩
  refine hK u w' h4 ?_
  simp only [RR.rel] at h1
  obtain ⟨n, xs', k1, k2, k3, k4, k5, rfl⟩ := h1
  have e2 := agg_flat (m := ⟨w', fun _ => none, [], fun b => True ∧ b ∉ u.ownBlock.toList⟩) vs xs' (RV.rels_mono ⟨Nat.le_refl _, fun b _ hb => ⟨⟨hb, fun i hi => by simp at hi⟩, rfl⟩⟩ _ _ k3)
  subst e2
  simp only [AV.rel]
  refine seals_rel (ok := m.ok) (ok' := m.ok) (fun b hb => hb) (.row e sz (xs'.map .c)) (.seq sz els) u u.ownBlock.toList (by simp only [Seals]; exact ⟨els, rfl, hels, hl⟩) (by simp only [RR.rel]; exact ⟨n, xs', k1, k2, rels_const xs', k4, k5, trivial⟩) fun b hb => ok_args hG b (h3 b hb).1
theorem pu_fieldV {gd : Option (Nat × Bool)} {s : TypeId} {x : Operand} {f off : Nat} {rs : List RV} {r : RV} {fields : Array Field} {fl : Field} (hu : P.underlying s = some (.struct fields)) (hf : fields[f]? = some fl) (ho : fl.offset = off) [h1 : T1 P fl.type] (hx : ev env x = .ro (.agg rs)) (hr : rs[off]? = some r) :
    Pur P C ⟨some t, .field s x f, ty, pos, after, gd⟩ env σ (.ro r) :=
  Pur.of (fun a m hG hσ hH => by
    have h := hH x (by simp [Op.operands, Call.operands])
    rw [hx] at h
    simp only [AV.rel, RV.rel] at h
    obtain ⟨us, e, hr'⟩ := h
    obtain ⟨u, k1, k2⟩ := RV.rels_at rs _ hr' off r hr
    have k1' : us[off]? = some u := by simpa using k1
    refine ⟨u, ?_, by simpa only [AV.rel] using k2⟩
    simp [execOp, e, Instr.field, run_underlying hu, hf, ho, asAgg, part, run_isAgg1 (P := P) (t := fl.type), k1'])
end
end Go.Proofs.Ytkhnijggbfoimaa
/- Wrapping at 64 bits. -/
namespace Go.Proofs.Ytkhnijggbfoimaa
set_option linter.unusedSimpArgs false
set_option linter.unusedVariables false
open Go.RowKit
abbrev w64 (x : Int) : Int := IntKind.i64.wrap x
theorem w64_add (x y : Int) : w64 (w64 x + y) = w64 (x + y) := by simp only [w64, IntKind.wrap, IntKind.bits, IntKind.signed]; simp; omega
theorem w64_add' (x y : Int) : w64 (x + w64 y) = w64 (x + y) := by simp only [w64, IntKind.wrap, IntKind.bits, IntKind.signed]; simp; omega
theorem w64_id {x : Int} (h : -9223372036854775808 ≤ x ∧ x ≤ 9223372036854775807) : w64 x = x := by simp only [w64, IntKind.wrap, IntKind.bits, IntKind.signed]; simp; omega
end Go.Proofs.Ytkhnijggbfoimaa
/- What the machine does: plain. -/
namespace Go.Proofs.Ytkhnijggbfoimaa
set_option linter.unusedSimpArgs false
set_option linter.unusedVariables false
open Go.RowKit
def mFail (m : Mch) (c : Int) : Mch := { m with state := 2, code := c }
def mNext (m : Mch) : Mch := { m with pc := w64 (m.pc + 1) }
def mBegin (m : Mch) (l : Int) : Mch := if l = 0 then mNext m else { m with started := true, left := l }
def mPush (m : Mch) (n nx : Int) : Mch := if 60 ≤ m.stack.length then mFail m 8 else { m with stack := m.stack ++ [n], pc := nx }
def mTop (m : Mch) : Int := (m.stack[m.stack.length - 1]?).getD 0
def mDrop (m : Mch) : Mch := { m with stack := m.stack.take (m.stack.length - 1) }
def mLoop (m : Mch) (a : Int) : Mch :=
  if m.stack.length = 0 then mFail m 8
  else if mTop m = 0 then { mDrop m with pc := a }
  else { m with stack := m.stack.set (m.stack.length - 1) (w64 (mTop m - 1)), pc := w64 (m.pc + 1) }
def mBack (m : Mch) : Mch := if m.stack.length = 0 then mFail m 8 else { mDrop m with pc := mTop m }
def mPerf (m : Mch) (i : Ins) : Mch :=
  if i.op = 1 then mBegin { m with register := 0 } i.a
  else if i.op = 3 then mBegin m i.a
  else if i.op = 4 then mBegin m m.register
  else if i.op = 2 ∨ i.op = 13 ∨ i.op = 16 then mBegin m 1
  else if i.op = 5 then (if i.a < m.register then mFail m 6 else mNext m)
  else if i.op = 6 then mPush m m.register (w64 (m.pc + 1))
  else if i.op = 7 then mLoop m i.a
  else if i.op = 8 then { m with pc := i.a }
  else if i.op = 9 then mPush m (w64 (m.pc + 1)) i.a
  else if i.op = 10 then mBack m
  else if i.op = 11 then (if m.register = i.a then { m with pc := i.b } else mNext m)
  else if i.op = 12 then mFail m i.a
  else if i.op = 14 then (if 30 ≤ m.sums.length then mFail m 8 else { mNext m with sums := m.sums ++ [0] })
  else if i.op = 15 then (if m.sums.length = 0 then mFail m 8 else mBegin m 1)
  else if i.op = 17 then { m with state := 1 }
  else m
abbrev MRun (m : Mch) : Prop := m.state = 0 ∧ m.started = false
def mAt (p : Prg) (m : Mch) : Ins := (p.code[m.pc.toNat]?).getD ⟨0, 0, 0⟩
def mRes (p : Prg) : Nat → Mch → Mch
  | 0, m => if MRun m then mFail m 8 else m
  | n + 1, m => if MRun m then (if Idx p m.pc then mRes p n (mPerf m (mAt p m)) else mFail m 8) else m
def mIt (p : Prg) (m : Mch) : Nat → Mch
  | 0 => m
  | j + 1 => mPerf (mIt p m j) (mAt p (mIt p m j))
def mAdv (p : Prg) (fits : Bool) (m : Mch) : Mch :=
  if m.state ≠ 0 then m else if fits = false ∨ (m.started = true ∧ ¬ Idx p m.pc) then mFail m 8 else mRes p 100001 m
def mSkip (m : Mch) : Mch := if m.left = 0 then { m with started := false, pc := w64 (m.pc + 1) } else m
def mCount (m : Mch) (b : Int) : Mch := { m with sums := m.sums.map fun z => (w64 (z + b)).tmod 256, read := w64 (m.read + 1), left := w64 (m.left - 1) }
def mRead (m : Mch) (i : Ins) (b : Int) : Mch :=
  if i.op = 1 then mSkip { m with register := if i.b = 1 then w64 (m.register + b * 2 ^ (8 * (i.a - m.left - 1)).toNat) else w64 (w64 (256 * m.register) + b) }
  else if i.op = 13 then (if 1 < b then mFail m 4 else if m.left ≠ 0 then m else { m with started := false, pc := if b = 0 then i.a else w64 (m.pc + 1) })
  else if i.op = 16 then (if m.escaped = false ∧ b = i.a then mSkip m else { m with escaped := !m.escaped && decide (b = 92), left := 1 })
  else if i.op = 2 then (if b ≠ i.a then mFail m 2 else mSkip m)
  else mSkip m
def mTake (m : Mch) (i : Ins) (b : Int) : Mch :=
  if i.op = 15 then (if (m.sums[m.sums.length - 1]?).getD 0 ≠ b then mFail m 5 else mRead (mCount { m with sums := m.sums.take (m.sums.length - 1) } b) i b)
  else mRead (mCount m b) i b
def mByte (p : Prg) (m : Mch) (b : Int) : Mch :=
  if ((mAt p m).op = 1 ∧ ¬ InR m.left 1 (mAt p m).a) ∨ ((mAt p m).op = 15 ∧ m.sums.length = 0) then mFail m 8 else mTake m (mAt p m) b
def mFeed (p : Prg) (fits : Bool) (m : Mch) (b : Int) : Mch :=
  if (mAdv p fits m).state = 1 then mFail (mAdv p fits m) 7 else if (mAdv p fits m).state ≠ 0 then mAdv p fits m else mByte p (mAdv p fits m) b
def mFin (m : Mch) : Int := if m.state = 1 then 0 else if m.state = 0 then 1 else m.code
def m0 : Mch := ⟨0, 0, [], [], 0, false, false, 0, 0, 0⟩
theorem mRes_it {p : Prg} {m : Mch} {n j : Nat} (hj : j < n) (h : mRes p n m = mRes p (n - j) (mIt p m j)) (hr : MRun (mIt p m j)) (hi : Idx p (mIt p m j).pc) : mRes p n m = mRes p (n - (j + 1)) (mIt p m (j + 1)) := by
  rw [h, show n - j = n - (j + 1) + 1 by omega, mRes, if_pos hr, if_pos hi]
  rfl
theorem mRes_stop {p : Prg} {m : Mch} {n j : Nat} (h : mRes p n m = mRes p (n - j) (mIt p m j)) (hr : ¬ MRun (mIt p m j)) : mRes p n m = mIt p m j := by
  rw [h]
  cases n - j with
  | zero => rw [mRes, if_neg hr]
  | succ k => rw [mRes, if_neg hr]
theorem mRes_out {p : Prg} {m : Mch} {n j : Nat} (h : mRes p n m = mRes p (n - j) (mIt p m j)) (hr : MRun (mIt p m j)) (hi : ¬ Idx p (mIt p m j).pc ∨ j = n) : mRes p n m = mFail (mIt p m j) 8 := by
  rw [h]
  rcases hi with hi | rfl
  · cases n - j with
    | zero => rw [mRes, if_pos hr]
    | succ k => rw [mRes, if_pos hr, if_neg hi]
  · rw [Nat.sub_self, mRes, if_pos hr]
theorem ite_pred {α : Type} {P : α → Prop} {c : Prop} [Decidable c] {a b : α} (ha : c → P a) (hb : ¬ c → P b) : P (if c then a else b) := by
  by_cases h : c
  · rw [if_pos h]; exact ha h
  · rw [if_neg h]; exact hb h
def MLen (m : Mch) : Prop := m.stack.length ≤ 1048576 ∧ m.sums.length ≤ 1048576
theorem mFail_len {m : Mch} {c : Int} (h : MLen m) : MLen (mFail m c) := h
theorem mNext_len {m : Mch} (h : MLen m) : MLen (mNext m) := h
theorem mBegin_len {m : Mch} {c : Int} (h : MLen m) : MLen (mBegin m c) := by unfold mBegin; split <;> exact h
theorem mPush_len {m : Mch} {c d : Int} (h : MLen m) : MLen (mPush m c d) := by
  unfold mPush; split
  · exact h
  · exact ⟨by simp only [List.length_append, List.length_singleton]; omega, h.2⟩
theorem mDrop_len {m : Mch} {a : Int} (h : MLen m) : MLen { mDrop m with pc := a } := ⟨by have := h.1; simp only [mDrop, List.length_take]; omega, h.2⟩
theorem mLoop_len {m : Mch} {a : Int} (h : MLen m) : MLen (mLoop m a) := by
  unfold mLoop; split
  · exact h
  split
  · exact mDrop_len h
  · exact ⟨by simp only [List.length_set]; exact h.1, h.2⟩
theorem mBack_len {m : Mch} (h : MLen m) : MLen (mBack m) := by
  unfold mBack; split
  · exact h
  · exact mDrop_len h
theorem mPerf_len {m : Mch} {i : Ins} (h : MLen m) : MLen (mPerf m i) := by
  unfold mPerf
  refine ite_pred (fun _ => mBegin_len (m := { m with register := 0 }) h) fun _ => ?_
  refine ite_pred (fun _ => mBegin_len h) fun _ => ?_
  refine ite_pred (fun _ => mBegin_len h) fun _ => ?_
  refine ite_pred (fun _ => mBegin_len h) fun _ => ?_
  refine ite_pred (fun _ => ite_pred (fun _ => h) fun _ => h) fun _ => ?_
  refine ite_pred (fun _ => mPush_len h) fun _ => ?_
  refine ite_pred (fun _ => mLoop_len h) fun _ => ?_
  refine ite_pred (fun _ => h) fun _ => ?_
  refine ite_pred (fun _ => mPush_len h) fun _ => ?_
  refine ite_pred (fun _ => mBack_len h) fun _ => ?_
  refine ite_pred (fun _ => ite_pred (fun _ => h) fun _ => h) fun _ => ?_
  refine ite_pred (fun _ => h) fun _ => ?_
  refine ite_pred (fun _ => ite_pred (fun _ => h) fun _ => ⟨h.1, by simp only [mNext, List.length_append, List.length_singleton]; omega⟩) fun _ => ?_
  refine ite_pred (fun _ => ite_pred (fun _ => h) fun _ => mBegin_len h) fun _ => ?_
  exact ite_pred (fun _ => h) fun _ => h
theorem mRes_len {p : Prg} : ∀ (n : Nat) {m : Mch}, MLen m → MLen (mRes p n m)
  | 0, m, h => by unfold mRes; split <;> exact h
  | n + 1, m, h => by
    unfold mRes
    split
    · split
      · exact mRes_len n (mPerf_len h)
      · exact h
    · exact h
theorem mIt_len {p : Prg} {m : Mch} (h : MLen m) : ∀ j, MLen (mIt p m j)
  | 0 => h
  | j + 1 => mPerf_len (mIt_len h j)
theorem mAdv_len {p : Prg} {f : Bool} {m : Mch} (h : MLen m) : MLen (mAdv p f m) := by
  unfold mAdv
  split
  · exact h
  split
  · exact h
  · exact mRes_len _ h
theorem mSkip_len {m : Mch} (h : MLen m) : MLen (mSkip m) := by unfold mSkip; split <;> exact h
theorem mCount_len {m : Mch} {b : Int} (h : MLen m) : MLen (mCount m b) := ⟨h.1, by simp only [mCount, List.length_map]; exact h.2⟩
theorem mRead_len {m : Mch} {i : Ins} {b : Int} (h : MLen m) : MLen (mRead m i b) := by
  unfold mRead
  split
  · exact mSkip_len (m := { m with register := _ }) h
  split
  · split
    · exact h
    split <;> exact h
  split
  · split
    · exact mSkip_len h
    · exact h
  split
  · split
    · exact h
    · exact mSkip_len h
  · exact mSkip_len h
theorem mTake_len {m : Mch} {i : Ins} {b : Int} (h : MLen m) : MLen (mTake m i b) := by
  unfold mTake
  split
  · split
    · exact h
    · exact mRead_len (mCount_len (m := { m with sums := _ }) ⟨h.1, by have := h.2; simp only [List.length_take]; omega⟩)
  · exact mRead_len (mCount_len h)
theorem mByte_len {p : Prg} {m : Mch} {b : Int} (h : MLen m) : MLen (mByte p m b) := by
  unfold mByte
  split
  · exact h
  · exact mTake_len h
theorem mFeed_len {p : Prg} {f : Bool} {m : Mch} {b : Int} (h : MLen m) : MLen (mFeed p f m b) := by
  unfold mFeed
  split
  · exact mFail_len (mAdv_len h)
  split
  · exact mAdv_len h
  · exact mByte_len (mAdv_len h)
def MIdx (p : Prg) (m : Mch) : Prop := m.started = true → Idx p m.pc
theorem mBegin_idx {p : Prg} {m : Mch} {l : Int} (h : m.started = false) (hi : Idx p m.pc) : MIdx p (mBegin m l) := by
  unfold mBegin
  split
  · intro h'; simp only [mNext] at h'; rw [h] at h'; cases h'
  · exact fun _ => hi
theorem not_idx {p : Prg} {m : Mch} (h : m.started = false) : MIdx p m := fun h' => by rw [h] at h'; cases h'
theorem mPush_started {m : Mch} {n nx : Int} : (mPush m n nx).started = m.started := by unfold mPush; split <;> rfl
theorem mLoop_started {m : Mch} {n : Int} : (mLoop m n).started = m.started := by unfold mLoop; split; rfl; split <;> rfl
theorem mBack_started {m : Mch} : (mBack m).started = m.started := by unfold mBack; split <;> rfl
theorem mPerf_idx {p : Prg} {m : Mch} {i : Ins} (h : m.started = false) (hi : Idx p m.pc) : MIdx p (mPerf m i) := by
  unfold mPerf
  refine ite_pred (fun _ => mBegin_idx (m := { m with register := 0 }) h hi) fun _ => ?_
  refine ite_pred (fun _ => mBegin_idx h hi) fun _ => ?_
  refine ite_pred (fun _ => mBegin_idx h hi) fun _ => ?_
  refine ite_pred (fun _ => mBegin_idx h hi) fun _ => ?_
  refine ite_pred (fun _ => ite_pred (fun _ => not_idx h) fun _ => not_idx h) fun _ => ?_
  refine ite_pred (fun _ => not_idx (mPush_started.trans h)) fun _ => ?_
  refine ite_pred (fun _ => not_idx (mLoop_started.trans h)) fun _ => ?_
  refine ite_pred (fun _ => not_idx h) fun _ => ?_
  refine ite_pred (fun _ => not_idx (mPush_started.trans h)) fun _ => ?_
  refine ite_pred (fun _ => not_idx (mBack_started.trans h)) fun _ => ?_
  refine ite_pred (fun _ => ite_pred (fun _ => not_idx h) fun _ => not_idx h) fun _ => ?_
  refine ite_pred (fun _ => not_idx h) fun _ => ?_
  refine ite_pred (fun _ => ite_pred (fun _ => not_idx h) fun _ => not_idx h) fun _ => ?_
  refine ite_pred (fun _ => ite_pred (fun _ => not_idx h) fun _ => mBegin_idx h hi) fun _ => ?_
  exact ite_pred (fun _ => not_idx h) fun _ => not_idx h
theorem mRes_idx {p : Prg} : ∀ (n : Nat) {m : Mch}, MIdx p m → (mRes p n m).state = 0 → (mRes p n m).started = true ∧ Idx p (mRes p n m).pc
  | 0, m, h, h0 => by
    unfold mRes at h0 ⊢
    split at h0
    · cases h0
    · rename_i hr
      rw [if_neg hr]
      have hs : m.started = true := by
        cases hb : m.started with
        | true => rfl
        | false => exact absurd ⟨h0, hb⟩ hr
      exact ⟨hs, h hs⟩
  | n + 1, m, h, h0 => by
    unfold mRes at h0 ⊢
    by_cases hr : MRun m
    · rw [if_pos hr] at h0 ⊢
      by_cases hi : Idx p m.pc
      · rw [if_pos hi] at h0 ⊢
        exact mRes_idx n (mPerf_idx hr.2 hi) h0
      · rw [if_neg hi] at h0; cases h0
    · rw [if_neg hr] at h0 ⊢
      have hs : m.started = true := by
        cases hb : m.started with
        | true => rfl
        | false => exact absurd ⟨h0, hb⟩ hr
      exact ⟨hs, h hs⟩
theorem mAdv_idx {p : Prg} {f : Bool} {m : Mch} (h0 : (mAdv p f m).state = 0) : f = true ∧ (mAdv p f m).started = true ∧ Idx p (mAdv p f m).pc := by
  unfold mAdv at h0 ⊢
  by_cases hs : m.state ≠ 0
  · rw [if_pos hs] at h0; exact absurd h0 hs
  · rw [if_neg hs] at h0 ⊢
    by_cases hf : f = false ∨ (m.started = true ∧ ¬ Idx p m.pc)
    · rw [if_pos hf] at h0; cases h0
    · rw [if_neg hf] at h0 ⊢
      refine ⟨?_, mRes_idx _ (fun hs => ?_) h0⟩
      · cases f with
        | true => rfl
        | false => exact absurd (.inl rfl) hf
      · exact Classical.byContradiction fun hi => hf (.inr ⟨hs, hi⟩)
end Go.Proofs.Ytkhnijggbfoimaa
/- Struct literals. Over any program. -/
namespace Go.Proofs.Ytkhnijggbfoimaa
set_option linter.unusedSimpArgs false
set_option linter.unusedVariables false
open Go.RowKit
open AV (Mem Keeps)
class TB (P : Program) (t : TypeId) (pl : outParam (List (Nat × Nat))) (zs : outParam (List Value)) : Prop where
  h : ∃ it fields z, P.info? t = some it ∧ P.underlying t = some (.struct fields) ∧ it.zero = some z ∧ z.cells = zs.toArray ∧ fields.toList.mapM (fun f => (P.info? f.type).map fun i => (f.offset, i.size)) = some pl ∧ ∀ x ∈ zs, x.oneCell' = true
def fillA (pl : List (Nat × Nat)) (env : Env) : List AV → List (Nat × Operand) → Option (List AV)
  | cells, [] => some cells
  | cells, (i, x) :: l => match pl[i]? with
    | some (off, size) => match cells? (ev env x) with
      | some cs => match Nat.beq cs.length size, Nat.ble (off + size) cells.length with
        | true, true => fillA pl env (setsAt cells off cs) l
        | _, _ => none
      | none => none
    | none => none
def aggOf (vs : List AV) : AV := match allRo vs with
  | some rs => .ro (.agg rs)
  | none => .agg vs
theorem sets_array {m : Mem} : ∀ (us : List Value) (k : Nat) (cells : Array Value) (off : Nat) (cs vs : List AV), us.length = cs.length → (∀ (j : Nat) x, cs[j]? = some x → ∃ y, us[j]? = some y ∧ y.oneCell' = true ∧ AV.rel m x y) →
    off + k + cs.length ≤ vs.length → cells.size = vs.length → (∀ (j : Nat) x, vs[j]? = some x → ∃ y, cells[j]? = some y ∧ y.oneCell' = true ∧ AV.rel m x y) →
    ((us.zipIdx k).foldl (fun cs (c, j) => cs.setIfInBounds (off + j) c) cells).size = vs.length ∧ ∀ (j : Nat) x, (setsAt vs (off + k) cs)[j]? = some x → ∃ y, ((us.zipIdx k).foldl (fun cs (c, j) => cs.setIfInBounds (off + j) c) cells)[j]? = some y ∧ y.oneCell' = true ∧ AV.rel m x y
  | [], k, cells, off, cs, vs, hl, hc, hle, hs, hv => by
    have : cs = [] := List.eq_nil_of_length_eq_zero (by simpa using hl.symm)
    subst this
    exact ⟨hs, hv⟩
  | u :: us, k, cells, off, [], vs, hl, hc, hle, hs, hv => by simp at hl
  | u :: us, k, cells, off, c :: cs, vs, hl, hc, hle, hs, hv => by
    simp only [List.length_cons] at hl hle
    rw [List.zipIdx_cons, List.foldl_cons, setsAt]
    have := sets_array us (k + 1) (cells.setIfInBounds (off + k) u) off cs (vs.set (off + k) c) (by omega) (fun j x hj => hc (j + 1) x (by simpa using hj)) (by simp; omega) (by simpa using hs) (fun j x hj => by
      rw [List.getElem?_set] at hj
      split at hj
      · rename_i e
        subst e
        split at hj
        · injection hj with hj; subst hj
          obtain ⟨y, e1, e2, e3⟩ := hc 0 c (by simp)
          simp only [List.getElem?_cons_zero, Option.some.injEq] at e1
          subst e1
          exact ⟨u, Array.getElem?_setIfInBounds_self_of_lt (by omega), e2, e3⟩
        · cases hj
      · rename_i e
        obtain ⟨y, e1, e2, e3⟩ := hv j x hj
        exact ⟨y, by rw [Array.getElem?_setIfInBounds_ne e]; exact e1, e2, e3⟩)
    rw [List.length_set] at this
    rwa [show off + (k + 1) = off + k + 1 by omega] at this
theorem fillA_ok {m : Mem} {env : Env} {a : Act} {pl : List (Nat × Nat)} : ∀ (l : List (Nat × Operand)) (vs vs' : List AV) (cells : Array Value), (∀ p ∈ l, AV.rel m (ev env p.2) (a.eval p.2)) → cells.size = vs.length → (∀ (j : Nat) x, vs[j]? = some x → ∃ y, cells[j]? = some y ∧ y.oneCell' = true ∧ AV.rel m x y) →
    fillA pl env vs l = some vs' → ∃ cells', Instr.fill (pl.toArray[·]?) cells (l.map fun p => (p.1, a.eval p.2)) = some cells' ∧ cells'.size = vs'.length ∧ ∀ (j : Nat) x, vs'[j]? = some x → ∃ y, cells'[j]? = some y ∧ y.oneCell' = true ∧ AV.rel m x y
  | [], vs, vs', cells, _, hs, hv, h => by
    simp only [fillA, Option.some.injEq] at h
    subst h
    exact ⟨cells, rfl, hs, hv⟩
  | (i, x) :: l, vs, vs', cells, hH, hs, hv, h => by
    unfold fillA at h
    split at h
    · rename_i off size hp
      split at h
      · rename_i cs hc
        split at h
        · rename_i hb1 hb2
          have e1 := Nat.eq_of_beq_eq_true hb1
          have e2 := Nat.le_of_ble_eq_true hb2
          obtain ⟨c1, c2⟩ := cells_rel (hH (i, x) (by simp)) hc
          obtain ⟨k1, k2⟩ := sets_array (m := m) (a.eval x).cells.toList 0 cells off cs vs (by simpa using c1) (fun j y hj => by simpa using c2 j y hj) (by omega) hs hv
          rw [Nat.add_zero] at k2
          obtain ⟨cells', q1, q2⟩ := fillA_ok l _ vs' _ (fun p hp => hH p (by simp [hp])) (by rw [setsAt_len]; exact k1) k2 h
          refine ⟨cells', ?_, q2⟩
          simp only [List.map_cons, Instr.fill]
          have : pl.toArray[i]? = some (off, size) := by simpa using hp
          rw [this]
          simp only
          have c1' : (a.eval x).cells.size = cs.length := c1
          rw [if_neg (by rw [c1']; simp; omega), ← q1]
          congr 1
          rw [← Array.foldl_toList, Array.toList_zipIdx]
        · cases h
      · cases h
    · cases h
section
variable {P : Program} {C : Ctx} {env : Env} {σ : List Ob} {t : Nat} {ty : TypeId} {pos : String} {after : Array Edge} {gd : Option (Nat × Bool)}
theorem pu_buildS {tt : TypeId} {parts : Array (Nat × Operand)} {pl : List (Nat × Nat)} {zs : List Value} {vs : List AV} [hb : TB P tt pl zs] (h : fillA pl env (zs.map fun v => .ro (.c v)) parts.toList = some vs) :
    Pur P C ⟨some t, .build tt parts, ty, pos, after, gd⟩ env σ (aggOf vs) :=
  Pur.of (fun a m hG hσ hH => by
    obtain ⟨it, fields, z, h1, h2, h3, h4, h5, h6⟩ := hb.h
    obtain ⟨cells', q1, q2, q3⟩ := fillA_ok (m := m) (a := a) parts.toList _ vs zs.toArray (fun p hp => hH p.2 (by simp [Op.operands]; exact ⟨p.1, by simpa using hp⟩)) (by simp) (fun j x hj => by
      rw [List.getElem?_map, Option.map_eq_some_iff] at hj
      obtain ⟨y, hy, rfl⟩ := hj
      exact ⟨y, by simpa using hy, h6 y (List.mem_of_getElem? hy), by simp [AV.rel, RV.rel]⟩) h
    have hbt : P.built tt (parts.map fun p => (p.1, a.eval p.2)).toList = some cells' := by
      unfold Program.built
      simp only [h1, h2, h3, h5, h4]
      rw [Array.toList_map]
      exact q1
    refine ⟨.agg cells', by simp only [execOp]; exact by simp [run_build m.w tt _ _ hbt], ?_⟩
    have hrel : AV.rels m vs cells'.toList := AV.rels_of _ _ (by simpa using q2) fun j r u hj hu => by
      obtain ⟨y, e1, _, e3⟩ := q3 j r hj
      have : y = u := by simpa [e1] using hu
      rwa [this] at e3
    unfold aggOf
    split
    · rename_i rs hrs
      rw [allRo_eq hrs] at hrel
      simp only [AV.rel, RV.rel]
      exact ⟨_, rfl, rels_ro_inv _ _ hrel⟩
    · simp only [AV.rel]
      exact ⟨_, rfl, hrel⟩)
end
end Go.Proofs.Ytkhnijggbfoimaa
/- The machine's own methods, but for those that take a byte. -/
namespace Go.Proofs.Ytkhnijggbfoimaa
set_option linter.unusedSimpArgs false
set_option linter.unusedVariables false
open Go.RowKit
open AV (Mem Keeps)
set_option maxRecDepth 100000
def mO (m : Mch) : List Ob := [⟨30, 0, [.int m.pc, .int m.register, .own 1, .own 2, .int m.left, .bool m.started, .bool m.escaped, .int m.state, .int m.code, .int m.read]⟩, ⟨3, 1, (m.stack.map RV.int).map .ro⟩, ⟨3, 1, (m.sums.map RV.int).map .ro⟩]
theorem onlysr (p : Nat → Prop) : ∀ rs : List RV, AV.onlys p (rs.map .ro)
  | [] => by simp [AV.onlys]
  | r :: rs => by simp only [List.map_cons, AV.onlys, AV.only]; exact ⟨trivial, onlysr p rs⟩
theorem mO_free (m : Mch) : FreeO 3 (mO m) := by
  simp only [mO, FreeO]
  exact ⟨by simp [AV.onlys, AV.only], onlysr _ _, onlysr _ _, trivial⟩
theorem mO_app {m m' : Mch} {more : List Ob} (h : m = m') : mO m ++ more = mO m' ++ more := by rw [h]
theorem Runs.endP {P : Program} {C : Ctx} {fn : Func} {gs : Nat → Nat} {env : Env} {σ σ' more : List Ob} {t : Nat} (hp : look env t = .pin 0 0 (gs 0)) (hσ : σ = σ' ++ more) (hl : 0 < σ'.length) (hc : FreeO σ'.length σ') (hr : fn.results = #[]) :
    Runs P C [] (EndsA P C fn gs [0] σ' (.tup [])) ⟨env, σ⟩ :=
  Runs.shed (E' := [(t, .pin 0 0 (gs 0))]) ⟨hp, trivial⟩ hσ ⟨by simpa only [AV.only] using hl, trivial⟩ hc (Runs.end_ (endsA0 (fun i hi => by simp at hi; subst hi; exact ⟨t, 0, by simp [look]⟩) hr rfl))
theorem mO_end {P : Program} {C : Ctx} {fn : Func} {gs : Nat → Nat} {env : Env} {σ more : List Ob} {m : Mch} {t : Nat} (hp : look env t = .pin 0 0 (gs 0)) (hσ : σ = mO m ++ more) (hr : fn.results = #[]) : Runs P C [] (EndsA P C fn gs [0] (mO m) (.tup [])) ⟨env, σ⟩ :=
  Runs.endP hp hσ (by simp [mO]) (mO_free m) hr
theorem mO_ret {P : Program} {C : Ctx} {fn : Func} {gs : Nat → Nat} {env : Env} {σ more : List Ob} {m : Mch} {k : List Item} {t : Nat} (hp : look env t = .pin 0 0 (gs 0)) (hσ : σ = mO m ++ more) (hr : fn.results = #[]) : Runs P C (.code .ret :: k) (EndsA P C fn gs [0] (mO m) (.tup [])) ⟨env, σ⟩ :=
  Runs.shed (E' := [(t, .pin 0 0 (gs 0))]) ⟨hp, trivial⟩ hσ ⟨by simp [AV.only, mO], trivial⟩ (mO_free m) (Runs.ret (endsA0 (fun i hi => by simp at hi; subst hi; exact ⟨t, 0, by simp [look]⟩) hr rfl))
theorem failWith_am (m : Mch) (c : Int) : AM Try.prog 57 (mO m) [0] [.obj 0 0, .int c] (mO (mFail m c)) (.tup []) := by
  refine am_enter Try.func57 rfl _ Try.ntmps57 (by simp) (by simp) fun C gs hn => ?_
  repeat' (first
 | refine RunsL.step tabOk hn rfl ?_
 | refine RunsL.nil ?_
 | refine Runs.toRegion 30 rfl ?_
 | (refine RunsL.pe hn rfl rfl rfl ?_; first
 | refine ⟨_, pu_nilCheckP rfl, ?_⟩)
 | (refine Runs.ctls 30 rfl ?_; first | refine Runs.cond_t rfl ?_ | refine Runs.cond_f rfl ?_ | ((first | refine Runs.cond_yes rfl ?_ ?_ | refine Runs.cond_nno rfl ?_ ?_); · first | omega | rfl | assumption | (simp only [List.length_map]; omega)) | ((first | refine Runs.cond_no rfl ?_ ?_ | refine Runs.cond_nyes rfl ?_ ?_); · first | omega | rfl | assumption | (simp only [List.length_map]; omega)) | refine Runs.cond_dec rfl (fun h => ?_) (fun h => ?_) | refine Runs.cond_ndec rfl (fun h => ?_) (fun h => ?_) | refine Runs.cond_nb rfl (fun h => ?_) (fun h => ?_) | refine Runs.cond_b rfl (fun h => ?_) (fun h => ?_) | refine Runs.ret (ends_ro hm rfl rfl ?_) | exact Runs.ret (ends_cellR hm rfl rfl rfl (Nat.le_of_ble_eq_true rfl) rfl rfl))
 | refine op_box rfl (tl hn rfl) ?_
 | refine op_storeF rfl rfl rfl rfl (Nat.le_of_ble_eq_true rfl) ?_
 | refine op_alloc (tl hn rfl) ?_
 | refine op_storeN rfl rfl rfl rfl (Nat.le_of_ble_eq_true rfl) ?_
 | (refine RunsL.pe hn rfl rfl rfl ?_; first
 | refine ⟨_, pu_add rfl rfl (by omega), ?_⟩
 | refine ⟨_, pu_indexAddr_map rfl rfl (by omega) (by assumption), ?_⟩
 | refine ⟨_, pu_sub rfl rfl (by omega), ?_⟩
 | refine ⟨_, pu_pick_b rfl rfl rfl, ?_⟩
 | refine ⟨_, pu_mul rfl rfl (by omega), ?_⟩
 | refine ⟨_, pu_build rfl rfl rfl rfl rfl rfl, ?_⟩))
  · refine Runs.ctls 30 rfl ?_
    first | refine mO_end (t := 0) (more := []) rfl ?_ rfl | refine mO_ret (t := 0) (more := []) rfl ?_ rfl
    rfl
theorem begin_am (m : Mch) (l : Int) : AM Try.prog 71 (mO m) [0] [.obj 0 0, .int l] (mO (mBegin m l)) (.tup []) := by
  refine am_enter Try.func71 rfl _ Try.ntmps71 (by simp) (by simp) fun C gs hn => ?_
  repeat' (first
 | refine RunsL.step tabOk hn rfl ?_
 | refine RunsL.nil ?_
 | refine Runs.toRegion 30 rfl ?_
 | (refine RunsL.pe hn rfl rfl rfl ?_; first
 | refine ⟨_, pu_nilCheckP rfl, ?_⟩
 | refine ⟨_, pu_addW rfl rfl, ?_⟩)
 | (refine Runs.ctls 30 rfl ?_; first | refine Runs.cond_t rfl ?_ | refine Runs.cond_f rfl ?_ | ((first | refine Runs.cond_yes rfl ?_ ?_ | refine Runs.cond_nno rfl ?_ ?_); · first | omega | rfl | assumption | (simp only [List.length_map]; omega)) | ((first | refine Runs.cond_no rfl ?_ ?_ | refine Runs.cond_nyes rfl ?_ ?_); · first | omega | rfl | assumption | (simp only [List.length_map]; omega)) | refine Runs.cond_dec rfl (fun h => ?_) (fun h => ?_) | refine Runs.cond_ndec rfl (fun h => ?_) (fun h => ?_) | refine Runs.cond_nb rfl (fun h => ?_) (fun h => ?_) | refine Runs.cond_b rfl (fun h => ?_) (fun h => ?_) | refine Runs.ret (ends_ro hm rfl rfl ?_) | exact Runs.ret (ends_cellR hm rfl rfl rfl (Nat.le_of_ble_eq_true rfl) rfl rfl))
 | refine op_box rfl (tl hn rfl) ?_
 | refine op_storeF rfl rfl rfl rfl (Nat.le_of_ble_eq_true rfl) ?_
 | refine op_alloc (tl hn rfl) ?_
 | refine op_storeN rfl rfl rfl rfl (Nat.le_of_ble_eq_true rfl) ?_
 | (refine RunsL.pe hn rfl rfl rfl ?_; first
 | refine ⟨_, pu_add rfl rfl (by omega), ?_⟩
 | refine ⟨_, pu_indexAddr_map rfl rfl (by omega) (by assumption), ?_⟩
 | refine ⟨_, pu_sub rfl rfl (by omega), ?_⟩
 | refine ⟨_, pu_pick_b rfl rfl rfl, ?_⟩
 | refine ⟨_, pu_mul rfl rfl (by omega), ?_⟩
 | refine ⟨_, pu_build rfl rfl rfl rfl rfl rfl, ?_⟩))
  · refine Runs.ctls 30 rfl ?_
    first | refine mO_end (t := 0) (more := []) rfl ?_ rfl | refine mO_ret (t := 0) (more := []) rfl ?_ rfl
    unfold mBegin; rw [if_pos (by assumption)]; rfl
  · refine Runs.ctls 30 rfl ?_
    first | refine mO_end (t := 0) (more := []) rfl ?_ rfl | refine mO_ret (t := 0) (more := []) rfl ?_ rfl
    unfold mBegin; rw [if_neg (by assumption)]; rfl
theorem push_am (m : Mch) (a b : Int)(hm : MLen m) : AM Try.prog 72 (mO m) [0] [.obj 0 0, .int a, .int b] (mO (mPush m a b)) (.tup []) := by
  refine am_enter Try.func72 rfl _ Try.ntmps72 (by simp) (by simp) fun C gs hn => ?_
  have hl : ((m.stack.map RV.int).map AV.ro).length = m.stack.length * 1 := by simp
  have h1 := hm.1
  repeat' (first
 | refine op_callP 3 (failWith_am m 8) rfl (by simp [AV.onlys, AV.only]) (by simp [AV.only, AV.onlys]) rfl rfl rfl (mO_free _) (mO_free _) rfl (by first | exact trivial | exact ⟨rfl, trivial⟩ | exact ⟨rfl, rfl, trivial⟩ | exact ⟨rfl, rfl, rfl, trivial⟩ | exact ⟨rfl, rfl, rfl, rfl, trivial⟩) (fun t h => by injection h with h; subst h; exact tl hn rfl) ?_
 | refine RunsL.junk 0 2 rfl (op_append (n := m.stack.length) (i := 1) rfl rfl rfl rfl rfl rfl (by simp) (FreeI.at_ (i := 1) ⟨by simp [AV.onlys, AV.only], onlysr _ _, onlysr _ _, trivial⟩) (by simp; omega) (by simp; omega) (tl hn rfl) ?_)
 | refine RunsL.step tabOk hn rfl ?_
 | refine RunsL.nil ?_
 | refine Runs.toRegion 30 rfl ?_
 | (refine RunsL.pe hn rfl rfl rfl ?_; first
 | refine ⟨_, pu_nilCheckP rfl, ?_⟩
 | refine ⟨_, pu_len_own (n := m.stack.length) rfl rfl hl, ?_⟩
 | refine ⟨_, pu_buildS rfl, ?_⟩)
 | (refine Runs.ctls 30 rfl ?_; first | refine Runs.cond_t rfl ?_ | refine Runs.cond_f rfl ?_ | ((first | refine Runs.cond_yes rfl ?_ ?_ | refine Runs.cond_nno rfl ?_ ?_); · first | omega | rfl | assumption | (simp only [List.length_map]; omega)) | ((first | refine Runs.cond_no rfl ?_ ?_ | refine Runs.cond_nyes rfl ?_ ?_); · first | omega | rfl | assumption | (simp only [List.length_map]; omega)) | refine Runs.cond_dec rfl (fun h => ?_) (fun h => ?_) | refine Runs.cond_ndec rfl (fun h => ?_) (fun h => ?_) | refine Runs.cond_nb rfl (fun h => ?_) (fun h => ?_) | refine Runs.cond_b rfl (fun h => ?_) (fun h => ?_) | refine Runs.ret (ends_ro hm rfl rfl ?_) | exact Runs.ret (ends_cellR hm rfl rfl rfl (Nat.le_of_ble_eq_true rfl) rfl rfl))
 | refine op_box rfl (tl hn rfl) ?_
 | refine op_storeF rfl rfl rfl rfl (Nat.le_of_ble_eq_true rfl) ?_
 | refine op_alloc (tl hn rfl) ?_
 | refine op_storeN rfl rfl rfl rfl (Nat.le_of_ble_eq_true rfl) ?_
 | (refine RunsL.pe hn rfl rfl rfl ?_; first
 | refine ⟨_, pu_add rfl rfl (by omega), ?_⟩
 | refine ⟨_, pu_indexAddr_map rfl rfl (by omega) (by assumption), ?_⟩
 | refine ⟨_, pu_sub rfl rfl (by omega), ?_⟩
 | refine ⟨_, pu_pick_b rfl rfl rfl, ?_⟩
 | refine ⟨_, pu_mul rfl rfl (by omega), ?_⟩
 | refine ⟨_, pu_build rfl rfl rfl rfl rfl rfl, ?_⟩))
  · refine Runs.ctls 30 rfl ?_
    first | refine mO_end (t := 0) (more := []) rfl ?_ rfl | refine mO_ret (t := 0) (more := []) rfl ?_ rfl
    exact mO_app (by unfold mPush; rw [if_pos (by omega)])
  · refine Runs.ctls 30 rfl ?_
    first | refine mO_end (t := 0) (more := []) rfl ?_ rfl | refine mO_ret (t := 0) (more := []) rfl ?_ rfl
    skip
    rw [show mPush m a b = { m with stack := m.stack ++ [a], pc := b } from by unfold mPush; rw [if_neg (by omega)]]
    unfold mO
    rw [List.map_append (f := RV.int)]
    rfl
theorem top_no (m : Mch) (h0 : m.stack.length = 0) : AM Try.prog 98 (mO m) [0] [.obj 0 0] (mO (mFail m 8)) (.tup [.ro (.c (.pointer none)), .bool false]) := by
  refine am_enter Try.func98 rfl _ Try.ntmps98 (by simp) (by simp) fun C gs hn => ?_
  have hl : ((m.stack.map RV.int).map AV.ro).length = m.stack.length * 1 := by simp
  repeat' (first
 | refine op_callP 3 (failWith_am m 8) rfl (by simp [AV.onlys, AV.only]) (by simp [AV.only, AV.onlys]) rfl rfl rfl (mO_free _) (mO_free _) rfl (by first | exact trivial | exact ⟨rfl, trivial⟩ | exact ⟨rfl, rfl, trivial⟩ | exact ⟨rfl, rfl, rfl, trivial⟩ | exact ⟨rfl, rfl, rfl, rfl, trivial⟩) (fun t h => by injection h with h; subst h; exact tl hn rfl) ?_
 | refine RunsL.step tabOk hn rfl ?_
 | refine RunsL.nil ?_
 | refine Runs.toRegion 30 rfl ?_
 | ((first | refine RunsL.pe hn rfl rfl rfl ?_ | refine RunsD.pe rfl rfl ?_); first
 | refine ⟨_, pu_nilCheckP rfl, ?_⟩
 | refine ⟨_, pu_len_own (n := m.stack.length) rfl rfl hl, ?_⟩)
 | (refine Runs.ctls 30 rfl ?_; first | refine Runs.cond_t rfl ?_ | refine Runs.cond_f rfl ?_ | ((first | refine Runs.cond_yes rfl ?_ ?_ | refine Runs.cond_nno rfl ?_ ?_); · first | omega | rfl | assumption | (simp only [List.length_map]; omega)) | ((first | refine Runs.cond_no rfl ?_ ?_ | refine Runs.cond_nyes rfl ?_ ?_); · first | omega | rfl | assumption | (simp only [List.length_map]; omega)) | refine Runs.cond_dec rfl (fun h => ?_) (fun h => ?_) | refine Runs.cond_ndec rfl (fun h => ?_) (fun h => ?_) | refine Runs.cond_nb rfl (fun h => ?_) (fun h => ?_) | refine Runs.cond_b rfl (fun h => ?_) (fun h => ?_) | refine Runs.ret (ends_ro hm rfl rfl ?_) | exact Runs.ret (ends_cellR hm rfl rfl rfl (Nat.le_of_ble_eq_true rfl) rfl rfl))
 | refine op_box rfl (tl hn rfl) ?_
 | refine op_storeF rfl rfl rfl rfl (Nat.le_of_ble_eq_true rfl) ?_
 | refine op_alloc (tl hn rfl) ?_
 | refine op_storeN rfl rfl rfl rfl (Nat.le_of_ble_eq_true rfl) ?_
 | refine RunsD.step tabOk hn rfl rfl ?_
 | refine RunsD.nil ?_
 | refine Runs.toDraw 30 mixed hn rfl (by kernel_rfl) rfl ?_
 | ((first | refine RunsL.pe hn rfl rfl rfl ?_ | refine RunsD.pe rfl rfl ?_); first
 | refine ⟨_, pu_add rfl rfl (by omega), ?_⟩
 | refine ⟨_, pu_indexAddr_map rfl rfl (by omega) (by assumption), ?_⟩
 | refine ⟨_, pu_sub rfl rfl (by omega), ?_⟩
 | refine ⟨_, pu_pick_b rfl rfl rfl, ?_⟩
 | refine ⟨_, pu_mul rfl rfl (by omega), ?_⟩
 | refine ⟨_, pu_build rfl rfl rfl rfl rfl rfl, ?_⟩))
  refine Runs.ctls 30 rfl ?_
  exact Runs.ret (endsA2 (fun i hi => by simp at hi; subst hi; exact ⟨0, 0, rfl⟩) rfl rfl rfl (List.append_nil _))
theorem mTop_at {m : Mch} (h : m.stack.length ≠ 0) : m.stack[m.stack.length - 1]? = some (mTop m) := by
  obtain ⟨z, hz⟩ : ∃ z, m.stack[m.stack.length - 1]? = some z := ⟨_, List.getElem?_eq_getElem (by omega)⟩
  unfold mTop
  rw [hz]
  rfl
theorem top_yes (m : Mch) (h0 : m.stack.length ≠ 0) (hb : m.stack.length ≤ 1048576) : AM Try.prog 98 (mO m) [0] [.obj 0 0] (mO m) (.tup [.obj 1 (m.stack.length - 1), .bool true]) := by
  refine am_enter Try.func98 rfl _ Try.ntmps98 (by simp) (by simp) fun C gs hn => ?_
  have hl : ((m.stack.map RV.int).map AV.ro).length = m.stack.length * 1 := by simp
  repeat' (first
 | refine RunsL.step tabOk hn rfl ?_
 | refine RunsL.nil ?_
 | refine Runs.toRegion 30 rfl ?_
 | ((first | refine RunsL.pe hn rfl rfl rfl ?_ | refine RunsD.pe rfl rfl ?_); first
 | refine ⟨_, pu_nilCheckP rfl, ?_⟩
 | refine ⟨_, pu_len_own (n := m.stack.length) rfl rfl hl, ?_⟩
 | refine ⟨_, pu_indexAddr_own (n := m.stack.length) (sz := 1) rfl rfl rfl rfl hl (by omega) (by omega), ?_⟩
 | refine ⟨_, pu_sub rfl rfl (by omega), ?_⟩)
 | (refine Runs.ctls 30 rfl ?_; first | refine Runs.cond_t rfl ?_ | refine Runs.cond_f rfl ?_ | ((first | refine Runs.cond_yes rfl ?_ ?_ | refine Runs.cond_nno rfl ?_ ?_); · first | omega | rfl | assumption | (simp only [List.length_map]; omega)) | ((first | refine Runs.cond_no rfl ?_ ?_ | refine Runs.cond_nyes rfl ?_ ?_); · first | omega | rfl | assumption | (simp only [List.length_map]; omega)) | refine Runs.cond_dec rfl (fun h => ?_) (fun h => ?_) | refine Runs.cond_ndec rfl (fun h => ?_) (fun h => ?_) | refine Runs.cond_nb rfl (fun h => ?_) (fun h => ?_) | refine Runs.cond_b rfl (fun h => ?_) (fun h => ?_) | refine Runs.ret (ends_ro hm rfl rfl ?_) | exact Runs.ret (ends_cellR hm rfl rfl rfl (Nat.le_of_ble_eq_true rfl) rfl rfl))
 | refine op_box rfl (tl hn rfl) ?_
 | refine op_storeF rfl rfl rfl rfl (Nat.le_of_ble_eq_true rfl) ?_
 | refine op_alloc (tl hn rfl) ?_
 | refine op_storeN rfl rfl rfl rfl (Nat.le_of_ble_eq_true rfl) ?_
 | refine RunsD.step tabOk hn rfl rfl ?_
 | refine RunsD.nil ?_
 | refine Runs.toDraw 30 mixed hn rfl (by kernel_rfl) rfl ?_
 | ((first | refine RunsL.pe hn rfl rfl rfl ?_ | refine RunsD.pe rfl rfl ?_); first
 | refine ⟨_, pu_add rfl rfl (by omega), ?_⟩
 | refine ⟨_, pu_indexAddr_map rfl rfl (by omega) (by assumption), ?_⟩
 | refine ⟨_, pu_sub rfl rfl (by omega), ?_⟩
 | refine ⟨_, pu_pick_b rfl rfl rfl, ?_⟩
 | refine ⟨_, pu_mul rfl rfl (by omega), ?_⟩
 | refine ⟨_, pu_build rfl rfl rfl rfl rfl rfl, ?_⟩))
  refine Runs.ctls 30 rfl ?_
  refine Runs.ret (endsA2 (fun i hi => by simp at hi; subst hi; exact ⟨0, 0, rfl⟩) rfl ?_ rfl rfl)
  show AV.obj 1 (m.stack.length - 1) = AV.obj 1 (((m.stack.length : Int) - 1).toNat * 1)
  rw [show ((m.stack.length : Int) - 1).toNat * 1 = m.stack.length - 1 by omega]
theorem loop_am (m : Mch) (i : Ins)(hm : MLen m) : AM Try.prog 73 (mO m) [0] [.obj 0 0, .ro (.agg (insR i))] (mO (mLoop m i.a)) (.tup []) := by
  refine am_enter Try.func73 rfl _ Try.ntmps73 (by simp) (by simp) fun C gs hn => ?_
  have hl : ((m.stack.map RV.int).map AV.ro).length = m.stack.length * 1 := by simp
  have hb := hm.1
  by_cases h0 : m.stack.length = 0
  · have hT := top_no m h0
    repeat' (first
 | refine op_callP (d := some 8) 3 (hT) rfl (by simp [AV.onlys, AV.only]) (by simp [AV.only, AV.onlys]) rfl rfl rfl (mO_free _) (mO_free _) rfl (by first | exact trivial | exact ⟨rfl, trivial⟩ | exact ⟨rfl, rfl, trivial⟩ | exact ⟨rfl, rfl, rfl, trivial⟩ | exact ⟨rfl, rfl, rfl, rfl, trivial⟩) (fun t h => by injection h with h; subst h; exact tl hn rfl) ?_
 | refine RunsL.step tabOk hn rfl ?_
 | refine RunsL.nil ?_
 | refine Runs.toRegion 30 rfl ?_
 | ((first | refine RunsL.pe hn rfl rfl rfl ?_ | refine RunsD.pe rfl rfl ?_); first
 | refine ⟨_, pu_nilCheckP rfl, ?_⟩)
 | (refine Runs.ctls 30 rfl ?_; first | refine Runs.cond_t rfl ?_ | refine Runs.cond_f rfl ?_ | ((first | refine Runs.cond_yes rfl ?_ ?_ | refine Runs.cond_nno rfl ?_ ?_); · first | omega | rfl | assumption | (simp only [List.length_map]; omega)) | ((first | refine Runs.cond_no rfl ?_ ?_ | refine Runs.cond_nyes rfl ?_ ?_); · first | omega | rfl | assumption | (simp only [List.length_map]; omega)) | refine Runs.cond_dec rfl (fun h => ?_) (fun h => ?_) | refine Runs.cond_ndec rfl (fun h => ?_) (fun h => ?_) | refine Runs.cond_nb rfl (fun h => ?_) (fun h => ?_) | refine Runs.cond_b rfl (fun h => ?_) (fun h => ?_) | refine Runs.ret (ends_ro hm rfl rfl ?_) | exact Runs.ret (ends_cellR hm rfl rfl rfl (Nat.le_of_ble_eq_true rfl) rfl rfl))
 | refine op_box rfl (tl hn rfl) ?_
 | refine op_storeF rfl rfl rfl rfl (Nat.le_of_ble_eq_true rfl) ?_
 | refine op_alloc (tl hn rfl) ?_
 | refine op_storeN rfl rfl rfl rfl (Nat.le_of_ble_eq_true rfl) ?_
 | refine RunsD.step tabOk hn rfl rfl ?_
 | refine RunsD.nil ?_
 | refine Runs.toDraw 30 mixed hn rfl (by kernel_rfl) rfl ?_
 | ((first | refine RunsL.pe hn rfl rfl rfl ?_ | refine RunsD.pe rfl rfl ?_); first
 | refine ⟨_, pu_add rfl rfl (by omega), ?_⟩
 | refine ⟨_, pu_indexAddr_map rfl rfl (by omega) (by assumption), ?_⟩
 | refine ⟨_, pu_sub rfl rfl (by omega), ?_⟩
 | refine ⟨_, pu_pick_b rfl rfl rfl, ?_⟩
 | refine ⟨_, pu_mul rfl rfl (by omega), ?_⟩
 | refine ⟨_, pu_build rfl rfl rfl rfl rfl rfl, ?_⟩))
    refine Runs.ctls 30 rfl ?_
    refine mO_end (t := 0) (more := [⟨74, 0, (insR i).map .ro⟩]) rfl ?_ rfl
    exact mO_app (by unfold mLoop; rw [if_pos h0])
  · have hT := top_yes m h0 hb
    have hz := mTop_at h0
    have hz' : ((m.stack.map RV.int).map AV.ro)[m.stack.length - 1]? = some (.ro (.int (mTop m))) := by simp [hz]
    repeat' (first
 | refine op_callP (d := some 8) 3 (hT) rfl (by simp [AV.onlys, AV.only]) (by simp [AV.only, AV.onlys]) rfl rfl rfl (mO_free _) (mO_free _) rfl (by first | exact trivial | exact ⟨rfl, trivial⟩ | exact ⟨rfl, rfl, trivial⟩ | exact ⟨rfl, rfl, rfl, trivial⟩ | exact ⟨rfl, rfl, rfl, rfl, trivial⟩) (fun t h => by injection h with h; subst h; exact tl hn rfl) ?_
 | refine Runs.toDrawT (id := 6) 30 [0] [1, 2, 3, 4, 5, 6, 7, 8, 9, 10] 11 [] mixed hn rfl (by kernel_rfl) rfl (.cons rfl .nil) (by decide) (by decide) (by decide) ?_
 | refine RunsL.junk 0 2 rfl (op_cut (i := 1) (n := m.stack.length) (q := (m.stack.length : Int) - 1) rfl rfl rfl rfl hl (by omega) (by omega) (by omega) (by repeat' (first | exact trivial | exact onlysr _ _ | exact (by decide : (2 : Nat) ≠ 1) | refine And.intro ?_ ?_)) (fun j v hj => onlys_mem (onlysr _ _) j v hj) (tl hn rfl) ?_)
 | refine op_storeF rfl rfl rfl rfl (by simp; omega) ?_
 | refine RunsT.nil ?_
 | refine RunsT.step tabOk rfl rfl (fun _ => rfl) (by decide) ?_
 | refine RunsT.pur (fun _ => pu_nilCheckP rfl) (by decide) rfl rfl ?_
 | refine RunsT.pur (fun _ => pu_nilCheckO rfl) (by decide) rfl rfl ?_
 | refine RunsT.pur (fun _ => pu_load_obj rfl rfl hz') (by decide) rfl rfl ?_
 | refine RunsT.pur (fun _ => pu_len_own (n := m.stack.length) rfl rfl hl) (by decide) rfl rfl ?_
 | refine RunsT.pur (fun _ => pu_sub rfl rfl (by omega)) (by decide) rfl rfl ?_
 | refine RunsT.pur (fun _ => pu_subW rfl rfl) (by decide) rfl rfl ?_
 | refine RunsT.pur (fun _ => pu_addW rfl rfl) (by decide) rfl rfl ?_
 | refine RunsT.pur (fun _ => pu_add rfl rfl (by omega)) (by decide) rfl rfl ?_
 | refine RunsT.pur (fun _ => pu_indexAddr_map rfl rfl (by omega) (by assumption)) (by decide) rfl rfl ?_
 | refine RunsT.alloc (p := 0) rfl inferInstance ?_
 | refine RunsT.alloc (p := 1) rfl inferInstance ?_
 | refine RunsL.step tabOk hn rfl ?_
 | refine RunsL.nil ?_
 | refine Runs.toRegion 30 rfl ?_
 | ((first | refine RunsL.pe hn rfl rfl rfl ?_ | refine RunsD.pe rfl rfl ?_); first
 | refine ⟨_, pu_nilCheckP rfl, ?_⟩
 | refine ⟨_, pu_nilCheckO rfl, ?_⟩
 | refine ⟨_, pu_load_obj rfl rfl hz', ?_⟩
 | refine ⟨_, pu_len_own (n := m.stack.length) rfl rfl hl, ?_⟩
 | refine ⟨_, pu_sub rfl rfl (by omega), ?_⟩
 | refine ⟨_, pu_subW rfl rfl, ?_⟩
 | refine ⟨_, pu_addW rfl rfl, ?_⟩)
 | (refine Runs.ctls 30 rfl ?_; first | refine Runs.cond_t rfl ?_ | refine Runs.cond_f rfl ?_ | ((first | refine Runs.cond_yes rfl ?_ ?_ | refine Runs.cond_nno rfl ?_ ?_); · first | omega | rfl | assumption | (simp only [List.length_map]; omega)) | ((first | refine Runs.cond_no rfl ?_ ?_ | refine Runs.cond_nyes rfl ?_ ?_); · first | omega | rfl | assumption | (simp only [List.length_map]; omega)) | refine Runs.cond_dec rfl (fun h => ?_) (fun h => ?_) | refine Runs.cond_ndec rfl (fun h => ?_) (fun h => ?_) | refine Runs.cond_nb rfl (fun h => ?_) (fun h => ?_) | refine Runs.cond_b rfl (fun h => ?_) (fun h => ?_) | refine Runs.ret (ends_ro hm rfl rfl ?_) | exact Runs.ret (ends_cellR hm rfl rfl rfl (Nat.le_of_ble_eq_true rfl) rfl rfl))
 | refine op_box rfl (tl hn rfl) ?_
 | refine op_storeF rfl rfl rfl rfl (Nat.le_of_ble_eq_true rfl) ?_
 | refine op_alloc (tl hn rfl) ?_
 | refine op_storeN rfl rfl rfl rfl (Nat.le_of_ble_eq_true rfl) ?_
 | refine RunsD.step tabOk hn rfl rfl ?_
 | refine RunsD.nil ?_
 | refine Runs.toDraw 30 mixed hn rfl (by kernel_rfl) rfl ?_
 | ((first | refine RunsL.pe hn rfl rfl rfl ?_ | refine RunsD.pe rfl rfl ?_); first
 | refine ⟨_, pu_add rfl rfl (by omega), ?_⟩
 | refine ⟨_, pu_indexAddr_map rfl rfl (by omega) (by assumption), ?_⟩
 | refine ⟨_, pu_sub rfl rfl (by omega), ?_⟩
 | refine ⟨_, pu_pick_b rfl rfl rfl, ?_⟩
 | refine ⟨_, pu_mul rfl rfl (by omega), ?_⟩
 | refine ⟨_, pu_build rfl rfl rfl rfl rfl rfl, ?_⟩))
    · refine Runs.ctls 30 rfl ?_
      refine mO_end (t := 0) (more := [⟨74, 0, (insR i).map .ro⟩]) rfl ?_ rfl
      have e1 : ((m.stack.map RV.int).map AV.ro).take (((m.stack.length : Int) - 1).toNat * 1) = ((m.stack.take (m.stack.length - 1)).map RV.int).map AV.ro := by
        rw [show ((m.stack.length : Int) - 1).toNat * 1 = m.stack.length - 1 by omega, List.map_take, List.map_take]
      rw [show mLoop m i.a = { mDrop m with pc := i.a } from by unfold mLoop; rw [if_neg h0, if_pos (by assumption)]]
      unfold mO mDrop
      simp only []
      rw [← e1]
      rfl
    · refine Runs.ctls 30 rfl ?_
      refine mO_end (t := 0) (more := [⟨74, 0, (insR i).map .ro⟩]) rfl ?_ rfl
      rw [show mLoop m i.a = { m with stack := m.stack.set (m.stack.length - 1) (w64 (mTop m - 1)), pc := w64 (m.pc + 1) } from by unfold mLoop; rw [if_neg h0, if_neg (by assumption)]]
      unfold mO
      simp only []
      rw [List.map_set, List.map_set]
      rfl
theorem back_am (m : Mch) (hm : MLen m) : AM Try.prog 74 (mO m) [0] [.obj 0 0] (mO (mBack m)) (.tup []) := by
  refine am_enter Try.func74 rfl _ Try.ntmps74 (by simp) (by simp) fun C gs hn => ?_
  have hl : ((m.stack.map RV.int).map AV.ro).length = m.stack.length * 1 := by simp
  have hb := hm.1
  by_cases h0 : m.stack.length = 0
  · have hT := top_no m h0
    repeat' (first
 | refine op_callP (d := some 6) 3 (hT) rfl (by simp [AV.onlys, AV.only]) (by simp [AV.only, AV.onlys]) rfl rfl rfl (mO_free _) (mO_free _) rfl (by first | exact trivial | exact ⟨rfl, trivial⟩ | exact ⟨rfl, rfl, trivial⟩ | exact ⟨rfl, rfl, rfl, trivial⟩ | exact ⟨rfl, rfl, rfl, rfl, trivial⟩) (fun t h => by injection h with h; subst h; exact tl hn rfl) ?_
 | refine RunsL.step tabOk hn rfl ?_
 | refine RunsL.nil ?_
 | refine Runs.toRegion 30 rfl ?_
 | ((first | refine RunsL.pe hn rfl rfl rfl ?_ | refine RunsD.pe rfl rfl ?_); first
 | refine ⟨_, pu_nilCheckP rfl, ?_⟩)
 | (refine Runs.ctls 30 rfl ?_; first | refine Runs.cond_t rfl ?_ | refine Runs.cond_f rfl ?_ | ((first | refine Runs.cond_yes rfl ?_ ?_ | refine Runs.cond_nno rfl ?_ ?_); · first | omega | rfl | assumption | (simp only [List.length_map]; omega)) | ((first | refine Runs.cond_no rfl ?_ ?_ | refine Runs.cond_nyes rfl ?_ ?_); · first | omega | rfl | assumption | (simp only [List.length_map]; omega)) | refine Runs.cond_dec rfl (fun h => ?_) (fun h => ?_) | refine Runs.cond_ndec rfl (fun h => ?_) (fun h => ?_) | refine Runs.cond_nb rfl (fun h => ?_) (fun h => ?_) | refine Runs.cond_b rfl (fun h => ?_) (fun h => ?_) | refine Runs.ret (ends_ro hm rfl rfl ?_) | exact Runs.ret (ends_cellR hm rfl rfl rfl (Nat.le_of_ble_eq_true rfl) rfl rfl))
 | refine op_box rfl (tl hn rfl) ?_
 | refine op_storeF rfl rfl rfl rfl (Nat.le_of_ble_eq_true rfl) ?_
 | refine op_alloc (tl hn rfl) ?_
 | refine op_storeN rfl rfl rfl rfl (Nat.le_of_ble_eq_true rfl) ?_
 | refine RunsD.step tabOk hn rfl rfl ?_
 | refine RunsD.nil ?_
 | refine Runs.toDraw 30 mixed hn rfl (by kernel_rfl) rfl ?_
 | ((first | refine RunsL.pe hn rfl rfl rfl ?_ | refine RunsD.pe rfl rfl ?_); first
 | refine ⟨_, pu_add rfl rfl (by omega), ?_⟩
 | refine ⟨_, pu_indexAddr_map rfl rfl (by omega) (by assumption), ?_⟩
 | refine ⟨_, pu_sub rfl rfl (by omega), ?_⟩
 | refine ⟨_, pu_pick_b rfl rfl rfl, ?_⟩
 | refine ⟨_, pu_mul rfl rfl (by omega), ?_⟩
 | refine ⟨_, pu_build rfl rfl rfl rfl rfl rfl, ?_⟩))
    refine Runs.ctls 30 rfl ?_
    refine mO_end (t := 0) (more := []) rfl ?_ rfl
    exact mO_app (by unfold mBack; rw [if_pos h0])
  · have hT := top_yes m h0 hb
    have hz := mTop_at h0
    have hz' : ((m.stack.map RV.int).map AV.ro)[m.stack.length - 1]? = some (.ro (.int (mTop m))) := by simp [hz]
    repeat' (first
 | refine op_callP (d := some 6) 3 (hT) rfl (by simp [AV.onlys, AV.only]) (by simp [AV.only, AV.onlys]) rfl rfl rfl (mO_free _) (mO_free _) rfl (by first | exact trivial | exact ⟨rfl, trivial⟩ | exact ⟨rfl, rfl, trivial⟩ | exact ⟨rfl, rfl, rfl, trivial⟩ | exact ⟨rfl, rfl, rfl, rfl, trivial⟩) (fun t h => by injection h with h; subst h; exact tl hn rfl) ?_
 | refine Runs.toDrawT (id := 3) 30 [0] [1, 2, 3, 4, 5, 6, 7, 8, 9, 10] 11 [] mixed hn rfl (by kernel_rfl) rfl (.cons rfl .nil) (by decide) (by decide) (by decide) ?_
 | refine RunsL.junk 0 2 rfl (op_cut (i := 1) (n := m.stack.length) (q := (m.stack.length : Int) - 1) rfl rfl rfl rfl hl (by omega) (by omega) (by omega) (by repeat' (first | exact trivial | exact onlysr _ _ | exact (by decide : (2 : Nat) ≠ 1) | refine And.intro ?_ ?_)) (fun j v hj => onlys_mem (onlysr _ _) j v hj) (tl hn rfl) ?_)
 | refine RunsT.nil ?_
 | refine RunsT.step tabOk rfl rfl (fun _ => rfl) (by decide) ?_
 | refine RunsT.pur (fun _ => pu_nilCheckP rfl) (by decide) rfl rfl ?_
 | refine RunsT.pur (fun _ => pu_nilCheckO rfl) (by decide) rfl rfl ?_
 | refine RunsT.pur (fun _ => pu_load_obj rfl rfl hz') (by decide) rfl rfl ?_
 | refine RunsT.pur (fun _ => pu_len_own (n := m.stack.length) rfl rfl hl) (by decide) rfl rfl ?_
 | refine RunsT.pur (fun _ => pu_sub rfl rfl (by omega)) (by decide) rfl rfl ?_
 | refine RunsT.pur (fun _ => pu_add rfl rfl (by omega)) (by decide) rfl rfl ?_
 | refine RunsT.pur (fun _ => pu_indexAddr_map rfl rfl (by omega) (by assumption)) (by decide) rfl rfl ?_
 | refine RunsT.alloc (p := 0) rfl inferInstance ?_
 | refine RunsT.alloc (p := 1) rfl inferInstance ?_
 | refine RunsL.step tabOk hn rfl ?_
 | refine RunsL.nil ?_
 | refine Runs.toRegion 30 rfl ?_
 | ((first | refine RunsL.pe hn rfl rfl rfl ?_ | refine RunsD.pe rfl rfl ?_); first
 | refine ⟨_, pu_nilCheckP rfl, ?_⟩
 | refine ⟨_, pu_nilCheckO rfl, ?_⟩
 | refine ⟨_, pu_load_obj rfl rfl hz', ?_⟩
 | refine ⟨_, pu_len_own (n := m.stack.length) rfl rfl hl, ?_⟩
 | refine ⟨_, pu_sub rfl rfl (by omega), ?_⟩)
 | (refine Runs.ctls 30 rfl ?_; first | refine Runs.cond_t rfl ?_ | refine Runs.cond_f rfl ?_ | ((first | refine Runs.cond_yes rfl ?_ ?_ | refine Runs.cond_nno rfl ?_ ?_); · first | omega | rfl | assumption | (simp only [List.length_map]; omega)) | ((first | refine Runs.cond_no rfl ?_ ?_ | refine Runs.cond_nyes rfl ?_ ?_); · first | omega | rfl | assumption | (simp only [List.length_map]; omega)) | refine Runs.cond_dec rfl (fun h => ?_) (fun h => ?_) | refine Runs.cond_ndec rfl (fun h => ?_) (fun h => ?_) | refine Runs.cond_nb rfl (fun h => ?_) (fun h => ?_) | refine Runs.cond_b rfl (fun h => ?_) (fun h => ?_) | refine Runs.ret (ends_ro hm rfl rfl ?_) | exact Runs.ret (ends_cellR hm rfl rfl rfl (Nat.le_of_ble_eq_true rfl) rfl rfl))
 | refine op_box rfl (tl hn rfl) ?_
 | refine op_storeF rfl rfl rfl rfl (Nat.le_of_ble_eq_true rfl) ?_
 | refine op_alloc (tl hn rfl) ?_
 | refine op_storeN rfl rfl rfl rfl (Nat.le_of_ble_eq_true rfl) ?_
 | refine RunsD.step tabOk hn rfl rfl ?_
 | refine RunsD.nil ?_
 | refine Runs.toDraw 30 mixed hn rfl (by kernel_rfl) rfl ?_
 | ((first | refine RunsL.pe hn rfl rfl rfl ?_ | refine RunsD.pe rfl rfl ?_); first
 | refine ⟨_, pu_add rfl rfl (by omega), ?_⟩
 | refine ⟨_, pu_indexAddr_map rfl rfl (by omega) (by assumption), ?_⟩
 | refine ⟨_, pu_sub rfl rfl (by omega), ?_⟩
 | refine ⟨_, pu_pick_b rfl rfl rfl, ?_⟩
 | refine ⟨_, pu_mul rfl rfl (by omega), ?_⟩
 | refine ⟨_, pu_build rfl rfl rfl rfl rfl rfl, ?_⟩))
    refine Runs.ctls 30 rfl ?_
    refine mO_end (t := 0) (more := []) rfl ?_ rfl
    have e1 : ((m.stack.map RV.int).map AV.ro).take (((m.stack.length : Int) - 1).toNat * 1) = ((m.stack.take (m.stack.length - 1)).map RV.int).map AV.ro := by
      rw [show ((m.stack.length : Int) - 1).toNat * 1 = m.stack.length - 1 by omega, List.map_take, List.map_take]
    rw [show mBack m = { mDrop m with pc := mTop m } from by unfold mBack; rw [if_neg h0]]
    unfold mO mDrop
    simp only []
    rw [← e1]
    rfl
end Go.Proofs.Ytkhnijggbfoimaa
/- The machine performs an instruction. -/
namespace Go.Proofs.Ytkhnijggbfoimaa
set_option linter.unusedSimpArgs false
set_option linter.unusedVariables false
open Go.RowKit
open AV (Mem Keeps)
set_option maxRecDepth 100000
set_option maxHeartbeats 8000000 in
theorem perform_am (m : Mch) (i : Ins)(hm : MLen m) : AM Try.prog 58 (mO m) [0] [.obj 0 0, .ro (.agg (insR i))] (mO (mPerf m i)) (.tup []) := by
  refine am_enter Try.func58 rfl _ Try.ntmps58 (by simp) (by simp) fun C gs hn => ?_
  have hl : ((m.sums.map RV.int).map AV.ro).length = m.sums.length * 1 := by simp
  have hb := hm.2
  have e14 : i.op = 14 → mPerf m i = (if 30 ≤ m.sums.length then mFail m 8 else { mNext m with sums := m.sums ++ [0] }) := fun h => by simp [mPerf, h]
  have e15 : i.op = 15 → mPerf m i = (if m.sums.length = 0 then mFail m 8 else mBegin m 1) := fun h => by simp [mPerf, h]
  repeat' (first
 | refine Runs.toDrawT (id := 18) 30 [] [0, 1, 2, 3, 4, 5, 6, 7, 8, 9] 10 [] mixed hn rfl (by kernel_rfl) rfl .nil (by decide) (by decide) (by decide) ?_
 | refine Runs.toDrawT (id := 24) 30 [] [0, 1, 2, 3, 4, 5, 6, 7] 8 [] mixed hn rfl (by kernel_rfl) rfl .nil (by decide) (by decide) (by decide) ?_
 | refine op_callP (d := some 14) 3 (begin_am { m with register := 0 } i.a) rfl (by simp [AV.onlys, AV.only]) (by simp [AV.only, AV.onlys]) rfl rfl rfl (mO_free _) (mO_free _) rfl (by first | exact trivial | exact ⟨rfl, trivial⟩ | exact ⟨rfl, rfl, trivial⟩ | exact ⟨rfl, rfl, rfl, trivial⟩ | exact ⟨rfl, rfl, rfl, rfl, trivial⟩) (fun t h => by injection h with h; subst h; exact tl hn rfl) ?_
 | refine op_callP (d := some 20) 3 (begin_am m i.a) rfl (by simp [AV.onlys, AV.only]) (by simp [AV.only, AV.onlys]) rfl rfl rfl (mO_free _) (mO_free _) rfl (by first | exact trivial | exact ⟨rfl, trivial⟩ | exact ⟨rfl, rfl, trivial⟩ | exact ⟨rfl, rfl, rfl, trivial⟩ | exact ⟨rfl, rfl, rfl, rfl, trivial⟩) (fun t h => by injection h with h; subst h; exact tl hn rfl) ?_
 | refine op_callP (d := some 28) 3 (begin_am m m.register) rfl (by simp [AV.onlys, AV.only]) (by simp [AV.only, AV.onlys]) rfl rfl rfl (mO_free _) (mO_free _) rfl (by first | exact trivial | exact ⟨rfl, trivial⟩ | exact ⟨rfl, rfl, trivial⟩ | exact ⟨rfl, rfl, rfl, trivial⟩ | exact ⟨rfl, rfl, rfl, rfl, trivial⟩) (fun t h => by injection h with h; subst h; exact tl hn rfl) ?_
 | refine op_callP 3 (begin_am m 1) rfl (by simp [AV.onlys, AV.only]) (by simp [AV.only, AV.onlys]) rfl rfl rfl (mO_free _) (mO_free _) rfl (by first | exact trivial | exact ⟨rfl, trivial⟩ | exact ⟨rfl, rfl, trivial⟩ | exact ⟨rfl, rfl, rfl, trivial⟩ | exact ⟨rfl, rfl, rfl, rfl, trivial⟩) (fun t h => by injection h with h; subst h; exact tl hn rfl) ?_
 | refine op_callP 3 (failWith_am m _) rfl (by simp [AV.onlys, AV.only]) (by simp [AV.only, AV.onlys]) rfl rfl rfl (mO_free _) (mO_free _) rfl (by first | exact trivial | exact ⟨rfl, trivial⟩ | exact ⟨rfl, rfl, trivial⟩ | exact ⟨rfl, rfl, rfl, trivial⟩ | exact ⟨rfl, rfl, rfl, rfl, trivial⟩) (fun t h => by injection h with h; subst h; exact tl hn rfl) ?_
 | refine op_callP 3 (push_am m _ _ hm) rfl (by simp [AV.onlys, AV.only]) (by simp [AV.only, AV.onlys]) rfl rfl rfl (mO_free _) (mO_free _) rfl (by first | exact trivial | exact ⟨rfl, trivial⟩ | exact ⟨rfl, rfl, trivial⟩ | exact ⟨rfl, rfl, rfl, trivial⟩ | exact ⟨rfl, rfl, rfl, rfl, trivial⟩) (fun t h => by injection h with h; subst h; exact tl hn rfl) ?_
 | refine op_callP 3 (loop_am m i hm) rfl (by simp [AV.onlys, AV.only]) (by simp [AV.only, AV.onlys]) rfl rfl rfl (mO_free _) (mO_free _) rfl (by first | exact trivial | exact ⟨rfl, trivial⟩ | exact ⟨rfl, rfl, trivial⟩ | exact ⟨rfl, rfl, rfl, trivial⟩ | exact ⟨rfl, rfl, rfl, rfl, trivial⟩) (fun t h => by injection h with h; subst h; exact tl hn rfl) ?_
 | refine op_callP 3 (back_am m hm) rfl (by simp [AV.onlys, AV.only]) (by simp [AV.only, AV.onlys]) rfl rfl rfl (mO_free _) (mO_free _) rfl (by first | exact trivial | exact ⟨rfl, trivial⟩ | exact ⟨rfl, rfl, trivial⟩ | exact ⟨rfl, rfl, rfl, trivial⟩ | exact ⟨rfl, rfl, rfl, rfl, trivial⟩) (fun t h => by injection h with h; subst h; exact tl hn rfl) ?_
 | refine RunsL.junk 0 3 rfl (op_append (n := m.sums.length) (i := 2) rfl rfl rfl rfl rfl rfl (by simp) (FreeI.at_ (i := 2) (by repeat' (first | exact trivial | exact onlysr _ _ | exact (by decide : (1 : Nat) ≠ 2) | refine And.intro ?_ ?_))) (by simp; omega) (by simp; omega) (tl hn rfl) ?_)
 | refine RunsT.nil ?_
 | refine RunsT.step tabOk rfl rfl (fun _ => rfl) (by decide) ?_
 | refine RunsT.pur (fun _ => pu_nilCheckP rfl) (by decide) rfl rfl ?_
 | refine RunsT.pur (fun _ => pu_len_own (n := m.sums.length) rfl rfl hl) (by decide) rfl rfl ?_
 | refine RunsT.pur (fun _ => pu_addW rfl rfl) (by decide) rfl rfl ?_
 | refine RunsT.pur (fun _ => pu_buildS rfl) (by decide) rfl rfl ?_
 | refine RunsT.pur (fun _ => pu_add rfl rfl (by omega)) (by decide) rfl rfl ?_
 | refine RunsT.pur (fun _ => pu_indexAddr_map rfl rfl (by omega) (by assumption)) (by decide) rfl rfl ?_
 | refine RunsT.alloc (p := 0) rfl inferInstance ?_
 | refine RunsT.alloc (p := 1) rfl inferInstance ?_
 | refine RunsL.step tabOk hn rfl ?_
 | refine RunsL.nil ?_
 | refine Runs.toRegion 30 rfl ?_
 | ((first | refine RunsL.pe hn rfl rfl rfl ?_ | refine RunsD.pe rfl rfl ?_); first
 | refine ⟨_, pu_nilCheckP rfl, ?_⟩
 | refine ⟨_, pu_len_own (n := m.sums.length) rfl rfl hl, ?_⟩
 | refine ⟨_, pu_addW rfl rfl, ?_⟩
 | refine ⟨_, pu_buildS rfl, ?_⟩)
 | (refine Runs.ctls 30 rfl ?_; first | refine Runs.cond_t rfl ?_ | refine Runs.cond_f rfl ?_ | ((first | refine Runs.cond_yes rfl ?_ ?_ | refine Runs.cond_nno rfl ?_ ?_); · first | omega | rfl | assumption | (simp only [List.length_map]; omega)) | ((first | refine Runs.cond_no rfl ?_ ?_ | refine Runs.cond_nyes rfl ?_ ?_); · first | omega | rfl | assumption | (simp only [List.length_map]; omega)) | refine Runs.cond_dec rfl (fun h => ?_) (fun h => ?_) | refine Runs.cond_ndec rfl (fun h => ?_) (fun h => ?_) | refine Runs.cond_nb rfl (fun h => ?_) (fun h => ?_) | refine Runs.cond_b rfl (fun h => ?_) (fun h => ?_) | refine Runs.ret (ends_ro hm rfl rfl ?_) | exact Runs.ret (ends_cellR hm rfl rfl rfl (Nat.le_of_ble_eq_true rfl) rfl rfl))
 | refine op_box rfl (tl hn rfl) ?_
 | refine op_storeF rfl rfl rfl rfl (Nat.le_of_ble_eq_true rfl) ?_
 | refine op_alloc (tl hn rfl) ?_
 | refine op_storeN rfl rfl rfl rfl (Nat.le_of_ble_eq_true rfl) ?_
 | refine RunsD.step tabOk hn rfl rfl ?_
 | refine RunsD.nil ?_
 | refine Runs.toDraw 30 mixed hn rfl (by kernel_rfl) rfl ?_
 | ((first | refine RunsL.pe hn rfl rfl rfl ?_ | refine RunsD.pe rfl rfl ?_); first
 | refine ⟨_, pu_add rfl rfl (by omega), ?_⟩
 | refine ⟨_, pu_indexAddr_map rfl rfl (by omega) (by assumption), ?_⟩
 | refine ⟨_, pu_sub rfl rfl (by omega), ?_⟩
 | refine ⟨_, pu_pick_b rfl rfl rfl, ?_⟩
 | refine ⟨_, pu_mul rfl rfl (by omega), ?_⟩
 | refine ⟨_, pu_build rfl rfl rfl rfl rfl rfl, ?_⟩))
  all_goals refine Runs.ctls 30 rfl ?_
  all_goals first
    | refine mO_end (t := 0) (more := [⟨74, 0, (insR i).map .ro⟩]) rfl ?_ rfl
    | refine mO_ret (t := 0) (more := [⟨74, 0, (insR i).map .ro⟩]) rfl ?_ rfl
  all_goals first
    | (refine mO_app ?_; simp [mPerf, *]; done)
    | (refine (show _ = mO (mNext m) ++ _ from rfl).trans (mO_app ?_); simp [mPerf, *]; done)
    | (refine (show _ = mO { m with pc := i.a } ++ _ from rfl).trans (mO_app ?_); simp [mPerf, *]; done)
    | (refine (show _ = mO { m with pc := i.b } ++ _ from rfl).trans (mO_app ?_); simp [mPerf, *]; done)
    | (refine (show _ = mO { m with state := 1 } ++ _ from rfl).trans (mO_app ?_); simp [mPerf, *]; done)
    | (refine (show _ = mO m ++ _ from rfl).trans (mO_app ?_); simp [mPerf, *]; done)
    | (refine mO_app ?_; rw [e14 (by assumption), if_pos (by omega)])
    | (refine mO_app ?_; rw [e15 (by assumption), if_pos (by omega)])
    | (refine mO_app ?_; rw [e15 (by assumption), if_neg (by omega)])
    | (rw [e14 (by assumption), if_neg (by omega)]; unfold mO mNext; simp only []; rw [List.map_append (f := RV.int)]; rfl)
end Go.Proofs.Ytkhnijggbfoimaa
/- The machine goes on until it needs a byte. -/
namespace Go.Proofs.Ytkhnijggbfoimaa
set_option linter.unusedSimpArgs false
set_option linter.unusedVariables false
open Go.RowKit
open AV (Mem Keeps)
set_option maxRecDepth 100000
theorem finish_am (m : Mch) (nx : Int) : AM Try.prog 107 (mO m) [0] [.obj 0 0, .int nx] (mO { m with started := false, pc := nx }) (.tup []) := by
  refine am_enter Try.func107 rfl _ Try.ntmps107 (by simp) (by simp) fun C gs hn => ?_
  repeat' (first
 | refine RunsL.step tabOk hn rfl ?_
 | refine RunsL.nil ?_
 | refine Runs.toRegion 30 rfl ?_
 | (refine RunsL.pe hn rfl rfl rfl ?_; first
 | refine ⟨_, pu_nilCheckP rfl, ?_⟩)
 | (refine Runs.ctls 30 rfl ?_; first | refine Runs.cond_t rfl ?_ | refine Runs.cond_f rfl ?_ | ((first | refine Runs.cond_yes rfl ?_ ?_ | refine Runs.cond_nno rfl ?_ ?_); · first | omega | rfl | assumption | (simp only [List.length_map]; omega)) | ((first | refine Runs.cond_no rfl ?_ ?_ | refine Runs.cond_nyes rfl ?_ ?_); · first | omega | rfl | assumption | (simp only [List.length_map]; omega)) | refine Runs.cond_dec rfl (fun h => ?_) (fun h => ?_) | refine Runs.cond_ndec rfl (fun h => ?_) (fun h => ?_) | refine Runs.cond_nb rfl (fun h => ?_) (fun h => ?_) | refine Runs.cond_b rfl (fun h => ?_) (fun h => ?_) | refine Runs.ret (ends_ro hm rfl rfl ?_) | exact Runs.ret (ends_cellR hm rfl rfl rfl (Nat.le_of_ble_eq_true rfl) rfl rfl))
 | refine op_box rfl (tl hn rfl) ?_
 | refine op_storeF rfl rfl rfl rfl (Nat.le_of_ble_eq_true rfl) ?_
 | refine op_alloc (tl hn rfl) ?_
 | refine op_storeN rfl rfl rfl rfl (Nat.le_of_ble_eq_true rfl) ?_
 | (refine RunsL.pe hn rfl rfl rfl ?_; first
 | refine ⟨_, pu_add rfl rfl (by omega), ?_⟩
 | refine ⟨_, pu_indexAddr_map rfl rfl (by omega) (by assumption), ?_⟩
 | refine ⟨_, pu_sub rfl rfl (by omega), ?_⟩
 | refine ⟨_, pu_pick_b rfl rfl rfl, ?_⟩
 | refine ⟨_, pu_mul rfl rfl (by omega), ?_⟩
 | refine ⟨_, pu_build rfl rfl rfl rfl rfl rfl, ?_⟩))
  refine Runs.ctls 30 rfl ?_
  refine mO_end (t := 0) (more := []) rfl ?_ rfl
  rfl
set_option maxHeartbeats 8000000 in
theorem advance_am (p : Prg) (f : Bool) (m : Mch) (hm : MLen m) (hc : p.code.length ≤ 4194304) : AM Try.prog 40 (mO m) [0] [.obj 0 0, .ro (prgR p), .bool f] (mO (mAdv p f m)) (.tup []) := by
  refine am_enter Try.func40 rfl _ Try.ntmps40 (by simp) (by simp) fun C gs hn => ?_
  have hlc : (p.code.map insR).length = p.code.length := List.length_map ..
  by_cases hs : m.state = 0
  · by_cases hf : f = false ∨ (m.started = true ∧ ¬ Idx p m.pc)
    · repeat' (first
 | refine op_callP 3 (failWith_am m 8) rfl (by simp [AV.onlys, AV.only]) (by simp [AV.only, AV.onlys]) rfl rfl rfl (mO_free _) (mO_free _) rfl (by first | exact trivial | exact ⟨rfl, trivial⟩ | exact ⟨rfl, rfl, trivial⟩ | exact ⟨rfl, rfl, rfl, trivial⟩ | exact ⟨rfl, rfl, rfl, rfl, trivial⟩) (fun t h => by injection h with h; subst h; exact tl hn rfl) ?_
 | refine RunsL.step tabOk hn rfl ?_
 | refine RunsL.nil ?_
 | refine Runs.toRegion 30 rfl ?_
 | ((first | refine RunsL.pe hn rfl rfl rfl ?_ | refine RunsD.pe rfl rfl ?_); first
 | refine ⟨_, pu_nilCheckP rfl, ?_⟩
 | refine ⟨_, pu_callR (isIndex_ac p _) rfl, ?_⟩)
 | (refine Runs.ctls 30 rfl ?_; first | refine Runs.cond_t rfl ?_ | refine Runs.cond_f rfl ?_ | ((first | refine Runs.cond_yes rfl ?_ ?_ | refine Runs.cond_nno rfl ?_ ?_); · first | omega | rfl | assumption | (simp only [List.length_map]; omega)) | ((first | refine Runs.cond_no rfl ?_ ?_ | refine Runs.cond_nyes rfl ?_ ?_); · first | omega | rfl | assumption | (simp only [List.length_map]; omega)) | refine Runs.cond_dec rfl (fun h => ?_) (fun h => ?_) | refine Runs.cond_ndec rfl (fun h => ?_) (fun h => ?_) | refine Runs.cond_nb rfl (fun h => ?_) (fun h => ?_) | refine Runs.cond_b rfl (fun h => ?_) (fun h => ?_) | refine Runs.ret (ends_ro hm rfl rfl ?_) | exact Runs.ret (ends_cellR hm rfl rfl rfl (Nat.le_of_ble_eq_true rfl) rfl rfl))
 | refine op_box rfl (tl hn rfl) ?_
 | refine op_storeF rfl rfl rfl rfl (Nat.le_of_ble_eq_true rfl) ?_
 | refine op_alloc (tl hn rfl) ?_
 | refine op_storeN rfl rfl rfl rfl (Nat.le_of_ble_eq_true rfl) ?_
 | refine RunsD.step tabOk hn rfl rfl ?_
 | refine RunsD.nil ?_
 | refine Runs.toDraw 30 mixed hn rfl (by kernel_rfl) rfl ?_
 | ((first | refine RunsL.pe hn rfl rfl rfl ?_ | refine RunsD.pe rfl rfl ?_); first
 | refine ⟨_, pu_add rfl rfl (by omega), ?_⟩
 | refine ⟨_, pu_indexAddr_map rfl rfl (by omega) (by assumption), ?_⟩
 | refine ⟨_, pu_sub rfl rfl (by omega), ?_⟩
 | refine ⟨_, pu_pick_b rfl rfl rfl, ?_⟩
 | refine ⟨_, pu_mul rfl rfl (by omega), ?_⟩
 | refine ⟨_, pu_build rfl rfl rfl rfl rfl rfl, ?_⟩)
 | ((first | refine RunsL.guard_dec rfl rfl rfl ?_ ?_ | refine RunsL.guard_ndec rfl rfl rfl ?_ ?_ | refine RunsL.guard_nb rfl rfl rfl ?_ ?_ | refine RunsL.guard_b rfl rfl rfl ?_ ?_ | refine RunsD.guard_dec rfl rfl rfl ?_ ?_ | refine RunsD.guard_ndec rfl rfl rfl ?_ ?_ | refine RunsD.guard_nb rfl rfl rfl ?_ ?_ | refine RunsD.guard_b rfl rfl rfl ?_ ?_) <;> intro h <;> try (exfalso; first | omega | contradiction | (simp only [List.length_map] at h; omega))))
      all_goals first
        | (exfalso; simp_all; done)
        | (refine Runs.ctls 30 rfl ?_
           refine mO_ret (t := 0) (more := [⟨34, 0, [.ro (inssR p.code), .ro (intsR p.entries)]⟩]) rfl ?_ rfl
           exact mO_app (by unfold mAdv; rw [if_neg (by simp [hs]), if_pos hf]))
    · obtain ⟨N, hN, hA⟩ : ∃ N : Nat, N = 100001 ∧ mAdv p f m = mRes p N m := ⟨_, rfl, by unfold mAdv; rw [if_neg (by simp [hs]), if_neg hf]⟩
      rw [hA]
      clear hA
      repeat' (first
 | refine op_callP 3 (failWith_am m 8) rfl (by simp [AV.onlys, AV.only]) (by simp [AV.only, AV.onlys]) rfl rfl rfl (mO_free _) (mO_free _) rfl (by first | exact trivial | exact ⟨rfl, trivial⟩ | exact ⟨rfl, rfl, trivial⟩ | exact ⟨rfl, rfl, rfl, trivial⟩ | exact ⟨rfl, rfl, rfl, rfl, trivial⟩) (fun t h => by injection h with h; subst h; exact tl hn rfl) ?_
 | refine RunsL.step tabOk hn rfl ?_
 | refine RunsL.nil ?_
 | refine Runs.toRegion 30 rfl ?_
 | ((first | refine RunsL.pe hn rfl rfl rfl ?_ | refine RunsD.pe rfl rfl ?_); first
 | refine ⟨_, pu_nilCheckP rfl, ?_⟩
 | refine ⟨_, pu_callR (isIndex_ac p _) rfl, ?_⟩)
 | (refine Runs.ctls 30 rfl ?_; first | refine Runs.cond_t rfl ?_ | refine Runs.cond_f rfl ?_ | ((first | refine Runs.cond_yes rfl ?_ ?_ | refine Runs.cond_nno rfl ?_ ?_); · first | omega | rfl | assumption | (simp only [List.length_map]; omega)) | ((first | refine Runs.cond_no rfl ?_ ?_ | refine Runs.cond_nyes rfl ?_ ?_); · first | omega | rfl | assumption | (simp only [List.length_map]; omega)) | refine Runs.cond_dec rfl (fun h => ?_) (fun h => ?_) | refine Runs.cond_ndec rfl (fun h => ?_) (fun h => ?_) | refine Runs.cond_nb rfl (fun h => ?_) (fun h => ?_) | refine Runs.cond_b rfl (fun h => ?_) (fun h => ?_) | refine Runs.ret (ends_ro hm rfl rfl ?_) | exact Runs.ret (ends_cellR hm rfl rfl rfl (Nat.le_of_ble_eq_true rfl) rfl rfl))
 | refine op_box rfl (tl hn rfl) ?_
 | refine op_storeF rfl rfl rfl rfl (Nat.le_of_ble_eq_true rfl) ?_
 | refine op_alloc (tl hn rfl) ?_
 | refine op_storeN rfl rfl rfl rfl (Nat.le_of_ble_eq_true rfl) ?_
 | refine RunsD.step tabOk hn rfl rfl ?_
 | refine RunsD.nil ?_
 | refine Runs.toDraw 30 mixed hn rfl (by kernel_rfl) rfl ?_
 | ((first | refine RunsL.pe hn rfl rfl rfl ?_ | refine RunsD.pe rfl rfl ?_); first
 | refine ⟨_, pu_add rfl rfl (by omega), ?_⟩
 | refine ⟨_, pu_indexAddr_map rfl rfl (by omega) (by assumption), ?_⟩
 | refine ⟨_, pu_sub rfl rfl (by omega), ?_⟩
 | refine ⟨_, pu_pick_b rfl rfl rfl, ?_⟩
 | refine ⟨_, pu_mul rfl rfl (by omega), ?_⟩
 | refine ⟨_, pu_build rfl rfl rfl rfl rfl rfl, ?_⟩)
 | ((first | refine RunsL.guard_dec rfl rfl rfl ?_ ?_ | refine RunsL.guard_ndec rfl rfl rfl ?_ ?_ | refine RunsL.guard_nb rfl rfl rfl ?_ ?_ | refine RunsL.guard_b rfl rfl rfl ?_ ?_ | refine RunsD.guard_dec rfl rfl rfl ?_ ?_ | refine RunsD.guard_ndec rfl rfl rfl ?_ ?_ | refine RunsD.guard_nb rfl rfl rfl ?_ ?_ | refine RunsD.guard_b rfl rfl rfl ?_ ?_) <;> intro h <;> try (exfalso; first | omega | contradiction | (simp only [List.length_map] at h; omega))))
      all_goals first
        | (exfalso; simp_all; done)
        | skip
      all_goals
        refine Runs.loopN 30 rfl (fun j => [(0, .pin 0 0 (gs 0)), (4, .obj 3 0), (6, .int (j : Int))]) (fun j => mO (mIt p m j) ++ [⟨34, 0, [.ro (inssR p.code), .ro (intsR p.entries)]⟩]) (fun j => mRes p N m = mRes p (N - j) (mIt p m j)) N 0 (Nat.zero_le _) (by rw [Nat.sub_zero]; rfl) ⟨rfl, rfl, rfl, trivial⟩ rfl fun j hj hQ next => ?_
        have hL := mIt_len (p := p) hm j
        have hstep := @mRes_it p m N j
        have hstop := mRes_stop hQ
        have hout := mRes_out hQ
        have hnx : mIt p m (j + 1) = mPerf (mIt p m j) (mAt p (mIt p m j)) := rfl
        generalize hq : mIt p m j = q at hQ hL hstep hstop hout hnx ⊢
        clear hq
        by_cases hr : MRun q
        · obtain ⟨hr1, hr2⟩ := id hr
          by_cases hi : Idx p q.pc
          · obtain ⟨x, hx⟩ : ∃ x, p.code[q.pc.toNat]? = some x := ⟨_, List.getElem?_eq_getElem (by unfold Idx at hi; omega)⟩
            have hxa : mAt p q = x := by unfold mAt; rw [hx]; rfl
            have hi' := hi
            unfold Idx at hi'
            by_cases hlt : j < N
            · repeat' (first
 | refine Runs.toDrawT (id := 9) 30 [] [0, 1, 2, 3, 4, 5, 6, 7, 8] 9 [] mixed hn rfl (by kernel_rfl) rfl .nil (by decide) (by decide) (by decide) ?_
 | refine op_callP 3 (failWith_am q 8) rfl (by simp [AV.onlys, AV.only]) (by simp [AV.only, AV.onlys]) rfl rfl rfl (mO_free _) (mO_free _) rfl (by first | exact trivial | exact ⟨rfl, trivial⟩ | exact ⟨rfl, rfl, trivial⟩ | exact ⟨rfl, rfl, rfl, trivial⟩ | exact ⟨rfl, rfl, rfl, rfl, trivial⟩) (fun t h => by injection h with h; subst h; exact tl hn rfl) ?_
 | refine op_callP 3 (perform_am q x hL) rfl (by simp [AV.onlys, AV.only]) (by simp [AV.only, AV.onlys]) rfl rfl rfl (mO_free _) (mO_free _) rfl (by first | exact trivial | exact ⟨rfl, trivial⟩ | exact ⟨rfl, rfl, trivial⟩ | exact ⟨rfl, rfl, rfl, trivial⟩ | exact ⟨rfl, rfl, rfl, rfl, trivial⟩) (fun t h => by injection h with h; subst h; exact tl hn rfl) ?_
 | refine RunsT.nil ?_
 | refine RunsT.step tabOk rfl rfl (fun _ => rfl) (by decide) ?_
 | refine RunsT.pur (fun _ => pu_nilCheckP rfl) (by decide) rfl rfl ?_
 | refine RunsT.pur (fun _ => pu_callR (isIndex_ac p _) rfl) (by decide) rfl rfl ?_
 | refine RunsT.pur (fun _ => pu_add rfl rfl (by omega)) (by decide) rfl rfl ?_
 | refine RunsT.pur (fun _ => pu_indexAddr_map rfl rfl (by omega) (by assumption)) (by decide) rfl rfl ?_
 | refine RunsT.alloc (p := 0) rfl inferInstance ?_
 | refine RunsT.alloc (p := 1) rfl inferInstance ?_
 | refine RunsL.step tabOk hn rfl ?_
 | refine RunsL.nil ?_
 | refine Runs.toRegion 30 rfl ?_
 | ((first | refine RunsL.pe hn rfl rfl rfl ?_ | refine RunsD.pe rfl rfl ?_); first
 | refine ⟨_, pu_nilCheckP rfl, ?_⟩
 | refine ⟨_, pu_callR (isIndex_ac p _) rfl, ?_⟩)
 | (refine Runs.ctls 30 rfl ?_; first | refine Runs.cond_t rfl ?_ | refine Runs.cond_f rfl ?_ | ((first | refine Runs.cond_yes rfl ?_ ?_ | refine Runs.cond_nno rfl ?_ ?_); · first | omega | rfl | assumption | (simp only [List.length_map]; omega)) | ((first | refine Runs.cond_no rfl ?_ ?_ | refine Runs.cond_nyes rfl ?_ ?_); · first | omega | rfl | assumption | (simp only [List.length_map]; omega)) | refine Runs.cond_dec rfl (fun h => ?_) (fun h => ?_) | refine Runs.cond_ndec rfl (fun h => ?_) (fun h => ?_) | refine Runs.cond_nb rfl (fun h => ?_) (fun h => ?_) | refine Runs.cond_b rfl (fun h => ?_) (fun h => ?_) | refine Runs.ret (ends_ro hm rfl rfl ?_) | exact Runs.ret (ends_cellR hm rfl rfl rfl (Nat.le_of_ble_eq_true rfl) rfl rfl))
 | refine op_box rfl (tl hn rfl) ?_
 | refine op_storeF rfl rfl rfl rfl (Nat.le_of_ble_eq_true rfl) ?_
 | refine op_alloc (tl hn rfl) ?_
 | refine op_storeN rfl rfl rfl rfl (Nat.le_of_ble_eq_true rfl) ?_
 | refine RunsD.step tabOk hn rfl rfl ?_
 | refine RunsD.nil ?_
 | refine Runs.toDraw 30 mixed hn rfl (by kernel_rfl) rfl ?_
 | ((first | refine RunsL.pe hn rfl rfl rfl ?_ | refine RunsD.pe rfl rfl ?_); first
 | refine ⟨_, pu_add rfl rfl (by omega), ?_⟩
 | refine ⟨_, pu_indexAddr_map rfl rfl (by omega) (by assumption), ?_⟩
 | refine ⟨_, pu_sub rfl rfl (by omega), ?_⟩
 | refine ⟨_, pu_pick_b rfl rfl rfl, ?_⟩
 | refine ⟨_, pu_mul rfl rfl (by omega), ?_⟩
 | refine ⟨_, pu_build rfl rfl rfl rfl rfl rfl, ?_⟩)
 | ((first | refine RunsL.guard_dec rfl rfl rfl ?_ ?_ | refine RunsL.guard_ndec rfl rfl rfl ?_ ?_ | refine RunsL.guard_nb rfl rfl rfl ?_ ?_ | refine RunsL.guard_b rfl rfl rfl ?_ ?_ | refine RunsD.guard_dec rfl rfl rfl ?_ ?_ | refine RunsD.guard_ndec rfl rfl rfl ?_ ?_ | refine RunsD.guard_nb rfl rfl rfl ?_ ?_ | refine RunsD.guard_b rfl rfl rfl ?_ ?_) <;> intro h <;> try (exfalso; first | omega | contradiction | (simp only [List.length_map] at h; omega))))
              all_goals first
                | (exfalso; first | omega | simp_all; done)
                | (refine next _ _ ⟨rfl, rfl, rfl, trivial⟩ hlt (hstep hlt hQ hr hi) ?_
                   rw [hnx, hxa]
                   rfl)
            · repeat' (first
 | refine op_callP 3 (failWith_am q 8) rfl (by simp [AV.onlys, AV.only]) (by simp [AV.only, AV.onlys]) rfl rfl rfl (mO_free _) (mO_free _) rfl (by first | exact trivial | exact ⟨rfl, trivial⟩ | exact ⟨rfl, rfl, trivial⟩ | exact ⟨rfl, rfl, rfl, trivial⟩ | exact ⟨rfl, rfl, rfl, rfl, trivial⟩) (fun t h => by injection h with h; subst h; exact tl hn rfl) ?_
 | refine RunsL.step tabOk hn rfl ?_
 | refine RunsL.nil ?_
 | refine Runs.toRegion 30 rfl ?_
 | ((first | refine RunsL.pe hn rfl rfl rfl ?_ | refine RunsD.pe rfl rfl ?_); first
 | refine ⟨_, pu_nilCheckP rfl, ?_⟩
 | refine ⟨_, pu_callR (isIndex_ac p _) rfl, ?_⟩)
 | (refine Runs.ctls 30 rfl ?_; first | refine Runs.cond_t rfl ?_ | refine Runs.cond_f rfl ?_ | ((first | refine Runs.cond_yes rfl ?_ ?_ | refine Runs.cond_nno rfl ?_ ?_); · first | omega | rfl | assumption | (simp only [List.length_map]; omega)) | ((first | refine Runs.cond_no rfl ?_ ?_ | refine Runs.cond_nyes rfl ?_ ?_); · first | omega | rfl | assumption | (simp only [List.length_map]; omega)) | refine Runs.cond_dec rfl (fun h => ?_) (fun h => ?_) | refine Runs.cond_ndec rfl (fun h => ?_) (fun h => ?_) | refine Runs.cond_nb rfl (fun h => ?_) (fun h => ?_) | refine Runs.cond_b rfl (fun h => ?_) (fun h => ?_) | refine Runs.ret (ends_ro hm rfl rfl ?_) | exact Runs.ret (ends_cellR hm rfl rfl rfl (Nat.le_of_ble_eq_true rfl) rfl rfl))
 | refine op_box rfl (tl hn rfl) ?_
 | refine op_storeF rfl rfl rfl rfl (Nat.le_of_ble_eq_true rfl) ?_
 | refine op_alloc (tl hn rfl) ?_
 | refine op_storeN rfl rfl rfl rfl (Nat.le_of_ble_eq_true rfl) ?_
 | refine RunsD.step tabOk hn rfl rfl ?_
 | refine RunsD.nil ?_
 | refine Runs.toDraw 30 mixed hn rfl (by kernel_rfl) rfl ?_
 | ((first | refine RunsL.pe hn rfl rfl rfl ?_ | refine RunsD.pe rfl rfl ?_); first
 | refine ⟨_, pu_add rfl rfl (by omega), ?_⟩
 | refine ⟨_, pu_indexAddr_map rfl rfl (by omega) (by assumption), ?_⟩
 | refine ⟨_, pu_sub rfl rfl (by omega), ?_⟩
 | refine ⟨_, pu_pick_b rfl rfl rfl, ?_⟩
 | refine ⟨_, pu_mul rfl rfl (by omega), ?_⟩
 | refine ⟨_, pu_build rfl rfl rfl rfl rfl rfl, ?_⟩)
 | ((first | refine RunsL.guard_dec rfl rfl rfl ?_ ?_ | refine RunsL.guard_ndec rfl rfl rfl ?_ ?_ | refine RunsL.guard_nb rfl rfl rfl ?_ ?_ | refine RunsL.guard_b rfl rfl rfl ?_ ?_ | refine RunsD.guard_dec rfl rfl rfl ?_ ?_ | refine RunsD.guard_ndec rfl rfl rfl ?_ ?_ | refine RunsD.guard_nb rfl rfl rfl ?_ ?_ | refine RunsD.guard_b rfl rfl rfl ?_ ?_) <;> intro h <;> try (exfalso; first | omega | contradiction | (simp only [List.length_map] at h; omega))))
              all_goals first
                | (exfalso; first | omega | simp_all; done)
                | (refine Runs.ctls 30 rfl ?_
                   refine mO_ret (t := 0) (more := [⟨34, 0, [.ro (inssR p.code), .ro (intsR p.entries)]⟩]) rfl ?_ rfl
                   exact mO_app (hout hr (.inr (by omega))).symm)
          · repeat' (first
 | refine op_callP 3 (failWith_am q 8) rfl (by simp [AV.onlys, AV.only]) (by simp [AV.only, AV.onlys]) rfl rfl rfl (mO_free _) (mO_free _) rfl (by first | exact trivial | exact ⟨rfl, trivial⟩ | exact ⟨rfl, rfl, trivial⟩ | exact ⟨rfl, rfl, rfl, trivial⟩ | exact ⟨rfl, rfl, rfl, rfl, trivial⟩) (fun t h => by injection h with h; subst h; exact tl hn rfl) ?_
 | refine RunsL.step tabOk hn rfl ?_
 | refine RunsL.nil ?_
 | refine Runs.toRegion 30 rfl ?_
 | ((first | refine RunsL.pe hn rfl rfl rfl ?_ | refine RunsD.pe rfl rfl ?_); first
 | refine ⟨_, pu_nilCheckP rfl, ?_⟩
 | refine ⟨_, pu_callR (isIndex_ac p _) rfl, ?_⟩)
 | (refine Runs.ctls 30 rfl ?_; first | refine Runs.cond_t rfl ?_ | refine Runs.cond_f rfl ?_ | ((first | refine Runs.cond_yes rfl ?_ ?_ | refine Runs.cond_nno rfl ?_ ?_); · first | omega | rfl | assumption | (simp only [List.length_map]; omega)) | ((first | refine Runs.cond_no rfl ?_ ?_ | refine Runs.cond_nyes rfl ?_ ?_); · first | omega | rfl | assumption | (simp only [List.length_map]; omega)) | refine Runs.cond_dec rfl (fun h => ?_) (fun h => ?_) | refine Runs.cond_ndec rfl (fun h => ?_) (fun h => ?_) | refine Runs.cond_nb rfl (fun h => ?_) (fun h => ?_) | refine Runs.cond_b rfl (fun h => ?_) (fun h => ?_) | refine Runs.ret (ends_ro hm rfl rfl ?_) | exact Runs.ret (ends_cellR hm rfl rfl rfl (Nat.le_of_ble_eq_true rfl) rfl rfl))
 | refine op_box rfl (tl hn rfl) ?_
 | refine op_storeF rfl rfl rfl rfl (Nat.le_of_ble_eq_true rfl) ?_
 | refine op_alloc (tl hn rfl) ?_
 | refine op_storeN rfl rfl rfl rfl (Nat.le_of_ble_eq_true rfl) ?_
 | refine RunsD.step tabOk hn rfl rfl ?_
 | refine RunsD.nil ?_
 | refine Runs.toDraw 30 mixed hn rfl (by kernel_rfl) rfl ?_
 | ((first | refine RunsL.pe hn rfl rfl rfl ?_ | refine RunsD.pe rfl rfl ?_); first
 | refine ⟨_, pu_add rfl rfl (by omega), ?_⟩
 | refine ⟨_, pu_indexAddr_map rfl rfl (by omega) (by assumption), ?_⟩
 | refine ⟨_, pu_sub rfl rfl (by omega), ?_⟩
 | refine ⟨_, pu_pick_b rfl rfl rfl, ?_⟩
 | refine ⟨_, pu_mul rfl rfl (by omega), ?_⟩
 | refine ⟨_, pu_build rfl rfl rfl rfl rfl rfl, ?_⟩)
 | ((first | refine RunsL.guard_dec rfl rfl rfl ?_ ?_ | refine RunsL.guard_ndec rfl rfl rfl ?_ ?_ | refine RunsL.guard_nb rfl rfl rfl ?_ ?_ | refine RunsL.guard_b rfl rfl rfl ?_ ?_ | refine RunsD.guard_dec rfl rfl rfl ?_ ?_ | refine RunsD.guard_ndec rfl rfl rfl ?_ ?_ | refine RunsD.guard_nb rfl rfl rfl ?_ ?_ | refine RunsD.guard_b rfl rfl rfl ?_ ?_) <;> intro h <;> try (exfalso; first | omega | contradiction | (simp only [List.length_map] at h; omega))))
            all_goals first
              | (exfalso; first | omega | simp_all; done)
              | (refine Runs.ctls 30 rfl ?_
                 refine mO_ret (t := 0) (more := [⟨34, 0, [.ro (inssR p.code), .ro (intsR p.entries)]⟩]) rfl ?_ rfl
                 exact mO_app (hout hr (.inl hi)).symm)
        · have hst := hstop hr
          clear hstep hstop hout hQ hnx
          repeat' (first
 | refine op_callP 3 (failWith_am q 8) rfl (by simp [AV.onlys, AV.only]) (by simp [AV.only, AV.onlys]) rfl rfl rfl (mO_free _) (mO_free _) rfl (by first | exact trivial | exact ⟨rfl, trivial⟩ | exact ⟨rfl, rfl, trivial⟩ | exact ⟨rfl, rfl, rfl, trivial⟩ | exact ⟨rfl, rfl, rfl, rfl, trivial⟩) (fun t h => by injection h with h; subst h; exact tl hn rfl) ?_
 | refine RunsL.step tabOk hn rfl ?_
 | refine RunsL.nil ?_
 | refine Runs.toRegion 30 rfl ?_
 | ((first | refine RunsL.pe hn rfl rfl rfl ?_ | refine RunsD.pe rfl rfl ?_); first
 | refine ⟨_, pu_nilCheckP rfl, ?_⟩
 | refine ⟨_, pu_callR (isIndex_ac p _) rfl, ?_⟩)
 | (refine Runs.ctls 30 rfl ?_; first | refine Runs.cond_t rfl ?_ | refine Runs.cond_f rfl ?_ | ((first | refine Runs.cond_yes rfl ?_ ?_ | refine Runs.cond_nno rfl ?_ ?_); · first | omega | rfl | assumption | (simp only [List.length_map]; omega)) | ((first | refine Runs.cond_no rfl ?_ ?_ | refine Runs.cond_nyes rfl ?_ ?_); · first | omega | rfl | assumption | (simp only [List.length_map]; omega)) | refine Runs.cond_dec rfl (fun h => ?_) (fun h => ?_) | refine Runs.cond_ndec rfl (fun h => ?_) (fun h => ?_) | refine Runs.cond_nb rfl (fun h => ?_) (fun h => ?_) | refine Runs.cond_b rfl (fun h => ?_) (fun h => ?_) | refine Runs.ret (ends_ro hm rfl rfl ?_) | exact Runs.ret (ends_cellR hm rfl rfl rfl (Nat.le_of_ble_eq_true rfl) rfl rfl))
 | refine op_box rfl (tl hn rfl) ?_
 | refine op_storeF rfl rfl rfl rfl (Nat.le_of_ble_eq_true rfl) ?_
 | refine op_alloc (tl hn rfl) ?_
 | refine op_storeN rfl rfl rfl rfl (Nat.le_of_ble_eq_true rfl) ?_
 | refine RunsD.step tabOk hn rfl rfl ?_
 | refine RunsD.nil ?_
 | refine Runs.toDraw 30 mixed hn rfl (by kernel_rfl) rfl ?_
 | ((first | refine RunsL.pe hn rfl rfl rfl ?_ | refine RunsD.pe rfl rfl ?_); first
 | refine ⟨_, pu_add rfl rfl (by omega), ?_⟩
 | refine ⟨_, pu_indexAddr_map rfl rfl (by omega) (by assumption), ?_⟩
 | refine ⟨_, pu_sub rfl rfl (by omega), ?_⟩
 | refine ⟨_, pu_pick_b rfl rfl rfl, ?_⟩
 | refine ⟨_, pu_mul rfl rfl (by omega), ?_⟩
 | refine ⟨_, pu_build rfl rfl rfl rfl rfl rfl, ?_⟩)
 | ((first | refine RunsL.guard_dec rfl rfl rfl ?_ ?_ | refine RunsL.guard_ndec rfl rfl rfl ?_ ?_ | refine RunsL.guard_nb rfl rfl rfl ?_ ?_ | refine RunsL.guard_b rfl rfl rfl ?_ ?_ | refine RunsD.guard_dec rfl rfl rfl ?_ ?_ | refine RunsD.guard_ndec rfl rfl rfl ?_ ?_ | refine RunsD.guard_nb rfl rfl rfl ?_ ?_ | refine RunsD.guard_b rfl rfl rfl ?_ ?_) <;> intro h <;> try (exfalso; first | omega | contradiction | (simp only [List.length_map] at h; omega))))
          all_goals first
            | exact absurd ⟨by assumption, by assumption⟩ hr
            | (refine Runs.ctls 30 rfl ?_
               refine mO_end (t := 0) (more := [⟨34, 0, [.ro (inssR p.code), .ro (intsR p.entries)]⟩]) rfl ?_ rfl
               exact mO_app hst.symm)
  · repeat' (first
 | refine RunsL.step tabOk hn rfl ?_
 | refine RunsL.nil ?_
 | refine Runs.toRegion 30 rfl ?_
 | ((first | refine RunsL.pe hn rfl rfl rfl ?_ | refine RunsD.pe rfl rfl ?_); first
 | refine ⟨_, pu_nilCheckP rfl, ?_⟩)
 | (refine Runs.ctls 30 rfl ?_; first | refine Runs.cond_t rfl ?_ | refine Runs.cond_f rfl ?_ | ((first | refine Runs.cond_yes rfl ?_ ?_ | refine Runs.cond_nno rfl ?_ ?_); · first | omega | rfl | assumption | (simp only [List.length_map]; omega)) | ((first | refine Runs.cond_no rfl ?_ ?_ | refine Runs.cond_nyes rfl ?_ ?_); · first | omega | rfl | assumption | (simp only [List.length_map]; omega)) | refine Runs.cond_dec rfl (fun h => ?_) (fun h => ?_) | refine Runs.cond_ndec rfl (fun h => ?_) (fun h => ?_) | refine Runs.cond_nb rfl (fun h => ?_) (fun h => ?_) | refine Runs.cond_b rfl (fun h => ?_) (fun h => ?_) | refine Runs.ret (ends_ro hm rfl rfl ?_) | exact Runs.ret (ends_cellR hm rfl rfl rfl (Nat.le_of_ble_eq_true rfl) rfl rfl))
 | refine op_box rfl (tl hn rfl) ?_
 | refine op_storeF rfl rfl rfl rfl (Nat.le_of_ble_eq_true rfl) ?_
 | refine op_alloc (tl hn rfl) ?_
 | refine op_storeN rfl rfl rfl rfl (Nat.le_of_ble_eq_true rfl) ?_
 | refine RunsD.step tabOk hn rfl rfl ?_
 | refine RunsD.nil ?_
 | refine Runs.toDraw 30 mixed hn rfl (by kernel_rfl) rfl ?_
 | ((first | refine RunsL.pe hn rfl rfl rfl ?_ | refine RunsD.pe rfl rfl ?_); first
 | refine ⟨_, pu_add rfl rfl (by omega), ?_⟩
 | refine ⟨_, pu_indexAddr_map rfl rfl (by omega) (by assumption), ?_⟩
 | refine ⟨_, pu_sub rfl rfl (by omega), ?_⟩
 | refine ⟨_, pu_pick_b rfl rfl rfl, ?_⟩
 | refine ⟨_, pu_mul rfl rfl (by omega), ?_⟩
 | refine ⟨_, pu_build rfl rfl rfl rfl rfl rfl, ?_⟩)
 | ((first | refine RunsL.guard_dec rfl rfl rfl ?_ ?_ | refine RunsL.guard_ndec rfl rfl rfl ?_ ?_ | refine RunsL.guard_nb rfl rfl rfl ?_ ?_ | refine RunsL.guard_b rfl rfl rfl ?_ ?_ | refine RunsD.guard_dec rfl rfl rfl ?_ ?_ | refine RunsD.guard_ndec rfl rfl rfl ?_ ?_ | refine RunsD.guard_nb rfl rfl rfl ?_ ?_ | refine RunsD.guard_b rfl rfl rfl ?_ ?_) <;> intro h <;> try (exfalso; first | omega | contradiction | (simp only [List.length_map] at h; omega))))
    refine Runs.ctls 30 rfl ?_
    refine mO_ret (t := 0) (more := [⟨34, 0, [.ro (inssR p.code), .ro (intsR p.entries)]⟩]) rfl ?_ rfl
    exact mO_app (by unfold mAdv; rw [if_pos hs])
end Go.Proofs.Ytkhnijggbfoimaa
/- The machine reads a byte: the parts. -/
namespace Go.Proofs.Ytkhnijggbfoimaa
set_option linter.unusedSimpArgs false
set_option linter.unusedVariables false
open Go.RowKit
open AV (Mem Keeps)
set_option maxRecDepth 100000
section
variable {P : Program} {C : Ctx} {env : Env} {σ : List Ob} {t : Nat} {ty : TypeId} {pos : String} {after : Array Edge} {gd : Option (Nat × Bool)}
theorem pu_rem256 {xt yt : TypeId} {x y : Operand} {p : Int} (hx : ev env x = .int p) (hy : ev env y = .int 256) : Pur P C ⟨some t, .binOp .rem xt x y yt, ty, pos, after, gd⟩ env σ (.int (p.tmod 256)) :=
  pu_bin hx hy (fun w => by
    have h1 := Int.tmod_lt_of_pos p (show (0 : Int) < 256 by omega)
    have h2 := Int.lt_tmod_of_pos p (show (0 : Int) < 256 by omega)
    have h4 : IntKind.i64.wrap (p.tmod 256) = p.tmod 256 := by simp [IntKind.wrap, IntKind.bits, IntKind.signed]; omega
    simp [go_sem, Op.intDiv, h4])
theorem pu_shl8 {xt yt : TypeId} {x y : Operand} {b s : Int} (hx : ev env x = .int b) (hy : ev env y = .ro (.c (.int .i64 (8 * s)))) (h : 0 ≤ s ∧ s ≤ 3) (hb : 0 ≤ b ∧ b ≤ 255) : Pur P C ⟨some t, .binOp .shl xt x y yt, ty, pos, after, gd⟩ env σ (.int (b * 2 ^ (8 * s).toNat)) := by
  have hs : s = 0 ∨ s = 1 ∨ s = 2 ∨ s = 3 := by omega
  rcases hs with rfl | rfl | rfl | rfl
  all_goals exact pu_bin hx hy (fun w => by simp [go_sem, IntKind.wrap, IntKind.bits, IntKind.signed, Int.shiftLeft_eq]; omega)
end
set_option maxHeartbeats 4000000 in
theorem readSkip_am (m : Mch)  : AM Try.prog 90 (mO m) [0] [.obj 0 0] (mO (mSkip m)) (.tup []) := by
  refine am_enter Try.func90 rfl _ Try.ntmps90 (by simp) (by simp) fun C gs hn => ?_
  repeat' (first
 | refine op_callP 3 (finish_am m _) rfl (by simp [AV.onlys, AV.only]) (by simp [AV.only, AV.onlys]) rfl rfl rfl (mO_free _) (mO_free _) rfl (by first | exact trivial | exact ⟨rfl, trivial⟩ | exact ⟨rfl, rfl, trivial⟩ | exact ⟨rfl, rfl, rfl, trivial⟩ | exact ⟨rfl, rfl, rfl, rfl, trivial⟩) (fun t h => by injection h with h; subst h; exact tl hn rfl) ?_
 | refine RunsL.step tabOk hn rfl ?_
 | refine RunsL.nil ?_
 | refine Runs.toRegion 30 rfl ?_
 | (refine RunsL.pe hn rfl rfl rfl ?_; first
 | refine ⟨_, pu_nilCheckP rfl, ?_⟩
 | refine ⟨_, pu_addW rfl rfl, ?_⟩)
 | (refine Runs.ctls 30 rfl ?_; first | refine Runs.cond_t rfl ?_ | refine Runs.cond_f rfl ?_ | ((first | refine Runs.cond_yes rfl ?_ ?_ | refine Runs.cond_nno rfl ?_ ?_); · first | omega | rfl | assumption | (simp only [List.length_map]; omega)) | ((first | refine Runs.cond_no rfl ?_ ?_ | refine Runs.cond_nyes rfl ?_ ?_); · first | omega | rfl | assumption | (simp only [List.length_map]; omega)) | refine Runs.cond_dec rfl (fun h => ?_) (fun h => ?_) | refine Runs.cond_ndec rfl (fun h => ?_) (fun h => ?_) | refine Runs.cond_nb rfl (fun h => ?_) (fun h => ?_) | refine Runs.cond_b rfl (fun h => ?_) (fun h => ?_) | refine Runs.ret (ends_ro hm rfl rfl ?_) | exact Runs.ret (ends_cellR hm rfl rfl rfl (Nat.le_of_ble_eq_true rfl) rfl rfl))
 | refine op_box rfl (tl hn rfl) ?_
 | refine op_storeF rfl rfl rfl rfl (Nat.le_of_ble_eq_true rfl) ?_
 | refine op_alloc (tl hn rfl) ?_
 | refine op_storeN rfl rfl rfl rfl (Nat.le_of_ble_eq_true rfl) ?_
 | (refine RunsL.pe hn rfl rfl rfl ?_; first
 | refine ⟨_, pu_add rfl rfl (by omega), ?_⟩
 | refine ⟨_, pu_indexAddr_map rfl rfl (by omega) (by assumption), ?_⟩
 | refine ⟨_, pu_sub rfl rfl (by omega), ?_⟩
 | refine ⟨_, pu_pick_b rfl rfl rfl, ?_⟩
 | refine ⟨_, pu_mul rfl rfl (by omega), ?_⟩
 | refine ⟨_, pu_build rfl rfl rfl rfl rfl rfl, ?_⟩))
  · refine Runs.ctls 30 rfl ?_
    refine mO_end (t := 0) (more := []) rfl ?_ rfl
    exact mO_app (by unfold mSkip; rw [if_pos (by assumption)])
  · refine Runs.ctls 30 rfl ?_
    refine mO_end (t := 0) (more := []) rfl ?_ rfl
    rw [show mSkip m = m from by unfold mSkip; rw [if_neg (by assumption)]]
    rfl
set_option maxHeartbeats 4000000 in
theorem readFlag_am (m : Mch) (i : Ins) (b : Int) : AM Try.prog 86 (mO m) [0] [.obj 0 0, .ro (.agg (insR i)), .int b] (mO (if 1 < b then mFail m 4 else if m.left ≠ 0 then m else { m with started := false, pc := if b = 0 then i.a else w64 (m.pc + 1) })) (.tup []) := by
  refine am_enter Try.func86 rfl _ Try.ntmps86 (by simp) (by simp) fun C gs hn => ?_
  repeat' (first
 | refine op_callP 3 (failWith_am m 4) rfl (by simp [AV.onlys, AV.only]) (by simp [AV.only, AV.onlys]) rfl rfl rfl (mO_free _) (mO_free _) rfl (by first | exact trivial | exact ⟨rfl, trivial⟩ | exact ⟨rfl, rfl, trivial⟩ | exact ⟨rfl, rfl, rfl, trivial⟩ | exact ⟨rfl, rfl, rfl, rfl, trivial⟩) (fun t h => by injection h with h; subst h; exact tl hn rfl) ?_
 | refine op_callP 3 (finish_am m _) rfl (by simp [AV.onlys, AV.only]) (by simp [AV.only, AV.onlys]) rfl rfl rfl (mO_free _) (mO_free _) rfl (by first | exact trivial | exact ⟨rfl, trivial⟩ | exact ⟨rfl, rfl, trivial⟩ | exact ⟨rfl, rfl, rfl, trivial⟩ | exact ⟨rfl, rfl, rfl, rfl, trivial⟩) (fun t h => by injection h with h; subst h; exact tl hn rfl) ?_
 | refine RunsL.step tabOk hn rfl ?_
 | refine RunsL.nil ?_
 | refine Runs.toRegion 30 rfl ?_
 | (refine RunsL.pe hn rfl rfl rfl ?_; first
 | refine ⟨_, pu_nilCheckP rfl, ?_⟩
 | refine ⟨_, pu_addW rfl rfl, ?_⟩)
 | (refine Runs.ctls 30 rfl ?_; first | refine Runs.cond_t rfl ?_ | refine Runs.cond_f rfl ?_ | ((first | refine Runs.cond_yes rfl ?_ ?_ | refine Runs.cond_nno rfl ?_ ?_); · first | omega | rfl | assumption | (simp only [List.length_map]; omega)) | ((first | refine Runs.cond_no rfl ?_ ?_ | refine Runs.cond_nyes rfl ?_ ?_); · first | omega | rfl | assumption | (simp only [List.length_map]; omega)) | refine Runs.cond_dec rfl (fun h => ?_) (fun h => ?_) | refine Runs.cond_ndec rfl (fun h => ?_) (fun h => ?_) | refine Runs.cond_nb rfl (fun h => ?_) (fun h => ?_) | refine Runs.cond_b rfl (fun h => ?_) (fun h => ?_) | refine Runs.ret (ends_ro hm rfl rfl ?_) | exact Runs.ret (ends_cellR hm rfl rfl rfl (Nat.le_of_ble_eq_true rfl) rfl rfl))
 | refine op_box rfl (tl hn rfl) ?_
 | refine op_storeF rfl rfl rfl rfl (Nat.le_of_ble_eq_true rfl) ?_
 | refine op_alloc (tl hn rfl) ?_
 | refine op_storeN rfl rfl rfl rfl (Nat.le_of_ble_eq_true rfl) ?_
 | (refine RunsL.pe hn rfl rfl rfl ?_; first
 | refine ⟨_, pu_add rfl rfl (by omega), ?_⟩
 | refine ⟨_, pu_indexAddr_map rfl rfl (by omega) (by assumption), ?_⟩
 | refine ⟨_, pu_sub rfl rfl (by omega), ?_⟩
 | refine ⟨_, pu_pick_b rfl rfl rfl, ?_⟩
 | refine ⟨_, pu_mul rfl rfl (by omega), ?_⟩
 | refine ⟨_, pu_build rfl rfl rfl rfl rfl rfl, ?_⟩))
  all_goals refine Runs.ctls 30 rfl ?_
  all_goals first
    | refine mO_end (t := 0) (more := [⟨74, 0, (insR i).map .ro⟩]) rfl ?_ rfl
    | refine mO_ret (t := 0) (more := [⟨74, 0, (insR i).map .ro⟩]) rfl ?_ rfl
  all_goals first
    | (refine mO_app ?_; simp [*]; done)
    | (refine (show _ = mO m ++ _ from rfl).trans (mO_app ?_); simp [*]; done)
set_option maxHeartbeats 4000000 in
theorem readUntil_am (m : Mch) (i : Ins) (b : Int) : AM Try.prog 88 (mO m) [0] [.obj 0 0, .ro (.agg (insR i)), .int b] (mO (if m.escaped = false ∧ b = i.a then mSkip m else { m with escaped := !m.escaped && decide (b = 92), left := 1 })) (.tup []) := by
  refine am_enter Try.func88 rfl _ Try.ntmps88 (by simp) (by simp) fun C gs hn => ?_
  repeat' (first
 | refine op_callP 3 (readSkip_am m) rfl (by simp [AV.onlys, AV.only]) (by simp [AV.only, AV.onlys]) rfl rfl rfl (mO_free _) (mO_free _) rfl (by first | exact trivial | exact ⟨rfl, trivial⟩ | exact ⟨rfl, rfl, trivial⟩ | exact ⟨rfl, rfl, rfl, trivial⟩ | exact ⟨rfl, rfl, rfl, rfl, trivial⟩) (fun t h => by injection h with h; subst h; exact tl hn rfl) ?_
 | refine RunsL.step tabOk hn rfl ?_
 | refine RunsL.nil ?_
 | refine Runs.toRegion 30 rfl ?_
 | (refine RunsL.pe hn rfl rfl rfl ?_; first
 | refine ⟨_, pu_nilCheckP rfl, ?_⟩)
 | (refine Runs.ctls 30 rfl ?_; first | refine Runs.cond_t rfl ?_ | refine Runs.cond_f rfl ?_ | ((first | refine Runs.cond_yes rfl ?_ ?_ | refine Runs.cond_nno rfl ?_ ?_); · first | omega | rfl | assumption | (simp only [List.length_map]; omega)) | ((first | refine Runs.cond_no rfl ?_ ?_ | refine Runs.cond_nyes rfl ?_ ?_); · first | omega | rfl | assumption | (simp only [List.length_map]; omega)) | refine Runs.cond_dec rfl (fun h => ?_) (fun h => ?_) | refine Runs.cond_ndec rfl (fun h => ?_) (fun h => ?_) | refine Runs.cond_nb rfl (fun h => ?_) (fun h => ?_) | refine Runs.cond_b rfl (fun h => ?_) (fun h => ?_) | refine Runs.ret (ends_ro hm rfl rfl ?_) | exact Runs.ret (ends_cellR hm rfl rfl rfl (Nat.le_of_ble_eq_true rfl) rfl rfl))
 | refine op_box rfl (tl hn rfl) ?_
 | refine op_storeF rfl rfl rfl rfl (Nat.le_of_ble_eq_true rfl) ?_
 | refine op_alloc (tl hn rfl) ?_
 | refine op_storeN rfl rfl rfl rfl (Nat.le_of_ble_eq_true rfl) ?_
 | (refine RunsL.pe hn rfl rfl rfl ?_; first
 | refine ⟨_, pu_add rfl rfl (by omega), ?_⟩
 | refine ⟨_, pu_indexAddr_map rfl rfl (by omega) (by assumption), ?_⟩
 | refine ⟨_, pu_sub rfl rfl (by omega), ?_⟩
 | refine ⟨_, pu_pick_b rfl rfl rfl, ?_⟩
 | refine ⟨_, pu_mul rfl rfl (by omega), ?_⟩
 | refine ⟨_, pu_build rfl rfl rfl rfl rfl rfl, ?_⟩)
 | ((first | refine RunsL.guard_dec rfl rfl rfl ?_ ?_ | refine RunsL.guard_ndec rfl rfl rfl ?_ ?_ | refine RunsL.guard_nb rfl rfl rfl ?_ ?_ | refine RunsL.guard_b rfl rfl rfl ?_ ?_) <;> intro h <;> try (exfalso; first | omega | contradiction | (simp only [List.length_map] at h; omega))))
  all_goals refine Runs.ctls 30 rfl ?_
  all_goals first
    | refine mO_end (t := 0) (more := [⟨74, 0, (insR i).map .ro⟩]) rfl ?_ rfl
    | refine mO_ret (t := 0) (more := [⟨74, 0, (insR i).map .ro⟩]) rfl ?_ rfl
  all_goals first
    | (refine mO_app ?_; simp [*]; done)
    | (exfalso; simp_all; done)
    | (refine (show _ = mO { m with escaped := decide (b = 92), left := 1 } ++ _ from rfl).trans (mO_app ?_); simp [*]; done)
    | (refine (show _ = mO { m with escaped := false, left := 1 } ++ _ from rfl).trans (mO_app ?_); simp [*]; done)
set_option maxHeartbeats 4000000 in
theorem readInteger_am (m : Mch) (i : Ins) (b : Int) (hs : i.b = 1 → 0 ≤ i.a - m.left - 1 ∧ i.a - m.left - 1 ≤ 3 ∧ 0 ≤ i.a ∧ i.a ≤ 4) (hb : 0 ≤ b ∧ b ≤ 255) : AM Try.prog 84 (mO m) [0] [.obj 0 0, .ro (.agg (insR i)), .int b] (mO (mSkip { m with register := if i.b = 1 then w64 (m.register + b * 2 ^ (8 * (i.a - m.left - 1)).toNat) else w64 (w64 (256 * m.register) + b) })) (.tup []) := by
  refine am_enter Try.func84 rfl _ Try.ntmps84 (by simp) (by simp) fun C gs hn => ?_
  by_cases h1 : i.b = 1
  · obtain ⟨s1, s2, s3, s4⟩ := hs h1
    repeat' (first
 | refine Runs.toDrawT (id := 2) 30 [] [0, 1, 2, 3, 4, 5, 6, 7, 8, 9, 10, 11, 12, 13, 14, 15, 16, 17] 18 [] mixed hn rfl (by kernel_rfl) rfl .nil (by decide) (by decide) (by decide) ?_
 | refine op_callP 3 (readSkip_am { m with register := w64 (m.register + b * 2 ^ (8 * (i.a - m.left - 1)).toNat) }) rfl (by simp [AV.onlys, AV.only]) (by simp [AV.only, AV.onlys]) rfl rfl rfl (mO_free _) (mO_free _) rfl (by first | exact trivial | exact ⟨rfl, trivial⟩ | exact ⟨rfl, rfl, trivial⟩ | exact ⟨rfl, rfl, rfl, trivial⟩ | exact ⟨rfl, rfl, rfl, rfl, trivial⟩) (fun t h => by injection h with h; subst h; exact tl hn rfl) ?_
 | refine RunsT.nil ?_
 | refine RunsT.step tabOk rfl rfl (fun _ => rfl) (by decide) ?_
 | refine RunsT.pur (fun _ => pu_nilCheckP rfl) (by decide) rfl rfl ?_
 | refine RunsT.pur (fun _ => pu_shl8 rfl rfl ⟨by omega, by omega⟩ hb) (by decide) rfl rfl ?_
 | refine RunsT.pur (fun _ => pu_sub rfl rfl (by omega)) (by decide) rfl rfl ?_
 | refine RunsT.pur (fun _ => pu_mul rfl rfl (by omega)) (by decide) rfl rfl ?_
 | refine RunsT.pur (fun _ => pu_addW (t := 24) rfl rfl) (by decide) rfl rfl ?_
 | refine RunsT.pur (fun _ => pu_add rfl rfl (by omega)) (by decide) rfl rfl ?_
 | refine RunsT.pur (fun _ => pu_indexAddr_map rfl rfl (by omega) (by assumption)) (by decide) rfl rfl ?_
 | refine RunsT.alloc (p := 0) rfl inferInstance ?_
 | refine RunsT.alloc (p := 1) rfl inferInstance ?_
 | refine RunsL.step tabOk hn rfl ?_
 | refine RunsL.nil ?_
 | refine Runs.toRegion 30 rfl ?_
 | ((first | refine RunsL.pe hn rfl rfl rfl ?_ | refine RunsD.pe rfl rfl ?_); first
 | refine ⟨_, pu_nilCheckP rfl, ?_⟩
 | refine ⟨_, pu_shl8 rfl rfl ⟨by omega, by omega⟩ hb, ?_⟩
 | refine ⟨_, pu_sub rfl rfl (by omega), ?_⟩
 | refine ⟨_, pu_mul rfl rfl (by omega), ?_⟩
 | refine ⟨_, pu_addW (t := 24) rfl rfl, ?_⟩)
 | (refine Runs.ctls 30 rfl ?_; first | refine Runs.cond_t rfl ?_ | refine Runs.cond_f rfl ?_ | ((first | refine Runs.cond_yes rfl ?_ ?_ | refine Runs.cond_nno rfl ?_ ?_); · first | omega | rfl | assumption | (simp only [List.length_map]; omega)) | ((first | refine Runs.cond_no rfl ?_ ?_ | refine Runs.cond_nyes rfl ?_ ?_); · first | omega | rfl | assumption | (simp only [List.length_map]; omega)) | refine Runs.cond_dec rfl (fun h => ?_) (fun h => ?_) | refine Runs.cond_ndec rfl (fun h => ?_) (fun h => ?_) | refine Runs.cond_nb rfl (fun h => ?_) (fun h => ?_) | refine Runs.cond_b rfl (fun h => ?_) (fun h => ?_) | refine Runs.ret (ends_ro hm rfl rfl ?_) | exact Runs.ret (ends_cellR hm rfl rfl rfl (Nat.le_of_ble_eq_true rfl) rfl rfl))
 | refine op_box rfl (tl hn rfl) ?_
 | refine op_storeF rfl rfl rfl rfl (Nat.le_of_ble_eq_true rfl) ?_
 | refine op_alloc (tl hn rfl) ?_
 | refine op_storeN rfl rfl rfl rfl (Nat.le_of_ble_eq_true rfl) ?_
 | refine RunsD.step tabOk hn rfl rfl ?_
 | refine RunsD.nil ?_
 | refine Runs.toDraw 30 mixed hn rfl (by kernel_rfl) rfl ?_
 | ((first | refine RunsL.pe hn rfl rfl rfl ?_ | refine RunsD.pe rfl rfl ?_); first
 | refine ⟨_, pu_add rfl rfl (by omega), ?_⟩
 | refine ⟨_, pu_indexAddr_map rfl rfl (by omega) (by assumption), ?_⟩
 | refine ⟨_, pu_sub rfl rfl (by omega), ?_⟩
 | refine ⟨_, pu_pick_b rfl rfl rfl, ?_⟩
 | refine ⟨_, pu_mul rfl rfl (by omega), ?_⟩
 | refine ⟨_, pu_build rfl rfl rfl rfl rfl rfl, ?_⟩))
    refine Runs.ctls 30 rfl ?_
    refine mO_end (t := 0) (more := [⟨74, 0, (insR i).map .ro⟩]) rfl ?_ rfl
    exact mO_app (by rw [if_pos h1])
  · repeat' (first
 | refine op_callP 3 (readSkip_am { m with register := w64 (w64 (256 * m.register) + b) }) rfl (by simp [AV.onlys, AV.only]) (by simp [AV.only, AV.onlys]) rfl rfl rfl (mO_free _) (mO_free _) rfl (by first | exact trivial | exact ⟨rfl, trivial⟩ | exact ⟨rfl, rfl, trivial⟩ | exact ⟨rfl, rfl, rfl, trivial⟩ | exact ⟨rfl, rfl, rfl, rfl, trivial⟩) (fun t h => by injection h with h; subst h; exact tl hn rfl) ?_
 | refine RunsL.step tabOk hn rfl ?_
 | refine RunsL.nil ?_
 | refine Runs.toRegion 30 rfl ?_
 | ((first | refine RunsL.pe hn rfl rfl rfl ?_ | refine RunsD.pe rfl rfl ?_); first
 | refine ⟨_, pu_nilCheckP rfl, ?_⟩
 | refine ⟨_, pu_mulW rfl rfl, ?_⟩
 | refine ⟨_, pu_addW (t := 34) rfl rfl, ?_⟩)
 | (refine Runs.ctls 30 rfl ?_; first | refine Runs.cond_t rfl ?_ | refine Runs.cond_f rfl ?_ | ((first | refine Runs.cond_yes rfl ?_ ?_ | refine Runs.cond_nno rfl ?_ ?_); · first | omega | rfl | assumption | (simp only [List.length_map]; omega)) | ((first | refine Runs.cond_no rfl ?_ ?_ | refine Runs.cond_nyes rfl ?_ ?_); · first | omega | rfl | assumption | (simp only [List.length_map]; omega)) | refine Runs.cond_dec rfl (fun h => ?_) (fun h => ?_) | refine Runs.cond_ndec rfl (fun h => ?_) (fun h => ?_) | refine Runs.cond_nb rfl (fun h => ?_) (fun h => ?_) | refine Runs.cond_b rfl (fun h => ?_) (fun h => ?_) | refine Runs.ret (ends_ro hm rfl rfl ?_) | exact Runs.ret (ends_cellR hm rfl rfl rfl (Nat.le_of_ble_eq_true rfl) rfl rfl))
 | refine op_box rfl (tl hn rfl) ?_
 | refine op_storeF rfl rfl rfl rfl (Nat.le_of_ble_eq_true rfl) ?_
 | refine op_alloc (tl hn rfl) ?_
 | refine op_storeN rfl rfl rfl rfl (Nat.le_of_ble_eq_true rfl) ?_
 | refine RunsD.step tabOk hn rfl rfl ?_
 | refine RunsD.nil ?_
 | refine Runs.toDraw 30 mixed hn rfl (by kernel_rfl) rfl ?_
 | ((first | refine RunsL.pe hn rfl rfl rfl ?_ | refine RunsD.pe rfl rfl ?_); first
 | refine ⟨_, pu_add rfl rfl (by omega), ?_⟩
 | refine ⟨_, pu_indexAddr_map rfl rfl (by omega) (by assumption), ?_⟩
 | refine ⟨_, pu_sub rfl rfl (by omega), ?_⟩
 | refine ⟨_, pu_pick_b rfl rfl rfl, ?_⟩
 | refine ⟨_, pu_mul rfl rfl (by omega), ?_⟩
 | refine ⟨_, pu_build rfl rfl rfl rfl rfl rfl, ?_⟩))
    refine Runs.ctls 30 rfl ?_
    refine mO_end (t := 0) (more := [⟨74, 0, (insR i).map .ro⟩]) rfl ?_ rfl
    exact mO_app (by rw [if_neg h1])
end Go.Proofs.Ytkhnijggbfoimaa
/- The machine counts a byte. -/
namespace Go.Proofs.Ytkhnijggbfoimaa
set_option linter.unusedSimpArgs false
set_option linter.unusedVariables false
open Go.RowKit
open AV (Mem Keeps)
set_option maxRecDepth 100000
def cntF (b z : Int) : Int := (w64 (z + b)).tmod 256
def cntS (b : Int) (s : List Int) (j : Nat) : List Int := (s.take j).map (cntF b) ++ s.drop j
theorem cntS_len (b : Int) (s : List Int) (j : Nat) : (cntS b s j).length = s.length := by
  unfold cntS
  rw [List.length_append, List.length_map, List.length_take, List.length_drop]
  omega
theorem cntS_at {b : Int} {s : List Int} {j : Nat} {z : Int} (h : s[j]? = some z) : (cntS b s j)[j]? = some z := by
  have hj := (List.getElem?_eq_some_iff.1 h).1
  unfold cntS
  rw [List.getElem?_append_right (by rw [List.length_map, List.length_take]; omega), List.length_map, List.length_take, List.getElem?_drop]
  rw [show j + (j - min j s.length) = j by omega, h]
theorem cntS_next {b : Int} {s : List Int} {j : Nat} {z : Int} (h : s[j]? = some z) : (cntS b s j).set j (cntF b z) = cntS b s (j + 1) := by
  have hj := (List.getElem?_eq_some_iff.1 h).1
  have hlen : ((s.take j).map (cntF b)).length = j := by rw [List.length_map, List.length_take]; omega
  have hd : s.drop j = z :: s.drop (j + 1) := by
    rw [List.drop_eq_getElem_cons hj]
    have := (List.getElem?_eq_some_iff.1 h).2
    rw [this]
  unfold cntS
  rw [List.set_append_right _ _ (by omega), hlen, Nat.sub_self, hd, List.set_cons_zero, List.take_add_one, h, List.map_append, List.append_assoc]
  rfl
set_option maxHeartbeats 4000000 in
theorem count_am (m : Mch) (b : Int) (hm : MLen m) : AM Try.prog 82 (mO m) [0] [.obj 0 0, .int b] (mO (mCount m b)) (.tup []) := by
  refine am_enter Try.func82 rfl _ Try.ntmps82 (by simp) (by simp) fun C gs hn => ?_
  have hb := hm.2
  have hl : ((m.sums.map RV.int).map AV.ro).length = m.sums.length * 1 := by simp
  repeat' (first
 | refine RunsL.step tabOk hn rfl ?_
 | refine RunsL.nil ?_
 | refine Runs.toRegion 30 rfl ?_
 | ((first | refine RunsL.pe hn rfl rfl rfl ?_ | refine RunsD.pe rfl rfl ?_); first
 | refine ⟨_, pu_nilCheckP rfl, ?_⟩
 | refine ⟨_, pu_len_own (n := m.sums.length) rfl rfl hl, ?_⟩)
 | (refine Runs.ctls 30 rfl ?_; first | refine Runs.cond_t rfl ?_ | refine Runs.cond_f rfl ?_ | ((first | refine Runs.cond_yes rfl ?_ ?_ | refine Runs.cond_nno rfl ?_ ?_); · first | omega | rfl | assumption | (simp only [List.length_map]; omega)) | ((first | refine Runs.cond_no rfl ?_ ?_ | refine Runs.cond_nyes rfl ?_ ?_); · first | omega | rfl | assumption | (simp only [List.length_map]; omega)) | refine Runs.cond_dec rfl (fun h => ?_) (fun h => ?_) | refine Runs.cond_ndec rfl (fun h => ?_) (fun h => ?_) | refine Runs.cond_nb rfl (fun h => ?_) (fun h => ?_) | refine Runs.cond_b rfl (fun h => ?_) (fun h => ?_) | refine Runs.ret (ends_ro hm rfl rfl ?_) | exact Runs.ret (ends_cellR hm rfl rfl rfl (Nat.le_of_ble_eq_true rfl) rfl rfl))
 | refine op_box rfl (tl hn rfl) ?_
 | refine op_storeF rfl rfl rfl rfl (Nat.le_of_ble_eq_true rfl) ?_
 | refine op_alloc (tl hn rfl) ?_
 | refine op_storeN rfl rfl rfl rfl (Nat.le_of_ble_eq_true rfl) ?_
 | refine RunsD.step tabOk hn rfl rfl ?_
 | refine RunsD.nil ?_
 | refine Runs.toDraw 30 mixed hn rfl (by kernel_rfl) rfl ?_
 | ((first | refine RunsL.pe hn rfl rfl rfl ?_ | refine RunsD.pe rfl rfl ?_); first
 | refine ⟨_, pu_add rfl rfl (by omega), ?_⟩
 | refine ⟨_, pu_indexAddr_map rfl rfl (by omega) (by assumption), ?_⟩
 | refine ⟨_, pu_sub rfl rfl (by omega), ?_⟩
 | refine ⟨_, pu_pick_b rfl rfl rfl, ?_⟩
 | refine ⟨_, pu_mul rfl rfl (by omega), ?_⟩
 | refine ⟨_, pu_build rfl rfl rfl rfl rfl rfl, ?_⟩))
  refine Runs.loopN 30 rfl (fun j => [(0, .pin 0 0 (gs 0)), (1, .int b), (9, .int (m.sums.length : Int)), (10, .int (j : Int))]) (fun j => mO { m with sums := cntS b m.sums j }) (fun _ => True) m.sums.length 0 (Nat.zero_le _) trivial ⟨rfl, rfl, rfl, rfl, trivial⟩ (by rw [show cntS b m.sums 0 = m.sums by simp [cntS]]) fun j hj _ next => ?_
  have hcl : (((cntS b m.sums j).map RV.int).map AV.ro).length = m.sums.length * 1 := by simp [cntS_len]
  by_cases hlt : j < m.sums.length
  · obtain ⟨z, hz⟩ : ∃ z, m.sums[j]? = some z := ⟨_, List.getElem?_eq_getElem hlt⟩
    have hc := cntS_at (b := b) hz
    have hc' : (((cntS b m.sums j).map RV.int).map AV.ro)[(j : Int).toNat * 1]? = some (.ro (.int z)) := by simp [hc]
    repeat' (first
 | refine Runs.toDrawT (id := 3) 30 [] [0, 1, 2, 3, 4, 5, 6, 7, 8, 9, 10, 11, 12, 13, 14, 15] 16 [] mixed hn rfl (by kernel_rfl) rfl .nil (by decide) (by decide) (by decide) ?_
 | refine op_storeF rfl rfl rfl rfl (by simp [cntS_len]; omega) ?_
 | refine RunsT.nil ?_
 | refine RunsT.step tabOk rfl rfl (fun _ => rfl) (by decide) ?_
 | refine RunsT.pur (fun _ => pu_nilCheckP rfl) (by decide) rfl rfl ?_
 | refine RunsT.pur (fun _ => pu_indexAddr_own (n := m.sums.length) (sz := 1) rfl rfl rfl rfl hcl (by omega) (by omega)) (by decide) rfl rfl ?_
 | refine RunsT.pur (fun _ => pu_load_obj rfl rfl hc') (by decide) rfl rfl ?_
 | refine RunsT.pur (fun _ => pu_rem256 rfl rfl) (by decide) rfl rfl ?_
 | refine RunsT.pur (fun _ => pu_addW (t := 26) rfl rfl) (by decide) rfl rfl ?_
 | refine RunsT.pur (fun _ => pu_add rfl rfl (by omega)) (by decide) rfl rfl ?_
 | refine RunsT.pur (fun _ => pu_indexAddr_map rfl rfl (by omega) (by assumption)) (by decide) rfl rfl ?_
 | refine RunsT.alloc (p := 0) rfl inferInstance ?_
 | refine RunsT.alloc (p := 1) rfl inferInstance ?_
 | refine RunsL.step tabOk hn rfl ?_
 | refine RunsL.nil ?_
 | refine Runs.toRegion 30 rfl ?_
 | ((first | refine RunsL.pe hn rfl rfl rfl ?_ | refine RunsD.pe rfl rfl ?_); first
 | refine ⟨_, pu_nilCheckP rfl, ?_⟩
 | refine ⟨_, pu_indexAddr_own (n := m.sums.length) (sz := 1) rfl rfl rfl rfl hcl (by omega) (by omega), ?_⟩
 | refine ⟨_, pu_load_obj rfl rfl hc', ?_⟩
 | refine ⟨_, pu_rem256 rfl rfl, ?_⟩
 | refine ⟨_, pu_addW (t := 26) rfl rfl, ?_⟩)
 | (refine Runs.ctls 30 rfl ?_; first | refine Runs.cond_t rfl ?_ | refine Runs.cond_f rfl ?_ | ((first | refine Runs.cond_yes rfl ?_ ?_ | refine Runs.cond_nno rfl ?_ ?_); · first | omega | rfl | assumption | (simp only [List.length_map]; omega)) | ((first | refine Runs.cond_no rfl ?_ ?_ | refine Runs.cond_nyes rfl ?_ ?_); · first | omega | rfl | assumption | (simp only [List.length_map]; omega)) | refine Runs.cond_dec rfl (fun h => ?_) (fun h => ?_) | refine Runs.cond_ndec rfl (fun h => ?_) (fun h => ?_) | refine Runs.cond_nb rfl (fun h => ?_) (fun h => ?_) | refine Runs.cond_b rfl (fun h => ?_) (fun h => ?_) | refine Runs.ret (ends_ro hm rfl rfl ?_) | exact Runs.ret (ends_cellR hm rfl rfl rfl (Nat.le_of_ble_eq_true rfl) rfl rfl))
 | refine op_box rfl (tl hn rfl) ?_
 | refine op_storeF rfl rfl rfl rfl (Nat.le_of_ble_eq_true rfl) ?_
 | refine op_alloc (tl hn rfl) ?_
 | refine op_storeN rfl rfl rfl rfl (Nat.le_of_ble_eq_true rfl) ?_
 | refine RunsD.step tabOk hn rfl rfl ?_
 | refine RunsD.nil ?_
 | refine Runs.toDraw 30 mixed hn rfl (by kernel_rfl) rfl ?_
 | ((first | refine RunsL.pe hn rfl rfl rfl ?_ | refine RunsD.pe rfl rfl ?_); first
 | refine ⟨_, pu_add rfl rfl (by omega), ?_⟩
 | refine ⟨_, pu_indexAddr_map rfl rfl (by omega) (by assumption), ?_⟩
 | refine ⟨_, pu_sub rfl rfl (by omega), ?_⟩
 | refine ⟨_, pu_pick_b rfl rfl rfl, ?_⟩
 | refine ⟨_, pu_mul rfl rfl (by omega), ?_⟩
 | refine ⟨_, pu_build rfl rfl rfl rfl rfl rfl, ?_⟩))
    refine next _ _ ⟨rfl, rfl, rfl, rfl, trivial⟩ hlt trivial ?_
    rw [← cntS_next hz]
    unfold mO
    simp only []
    rw [List.map_set, List.map_set, show (((cntS b m.sums j).map RV.int).map AV.ro).set j (AV.ro (RV.int (cntF b z))) = (((cntS b m.sums j).map RV.int).map AV.ro).set ((j : Int).toNat * 1) (AV.ro (RV.int (cntF b z))) from by rw [show (j : Int).toNat * 1 = j by simp]]
    rfl
  · obtain rfl : j = m.sums.length := by omega
    repeat' (first
 | refine RunsL.step tabOk hn rfl ?_
 | refine RunsL.nil ?_
 | refine Runs.toRegion 30 rfl ?_
 | ((first | refine RunsL.pe hn rfl rfl rfl ?_ | refine RunsD.pe rfl rfl ?_); first
 | refine ⟨_, pu_nilCheckP rfl, ?_⟩
 | refine ⟨_, pu_addW rfl rfl, ?_⟩
 | refine ⟨_, pu_subW rfl rfl, ?_⟩)
 | (refine Runs.ctls 30 rfl ?_; first | refine Runs.cond_t rfl ?_ | refine Runs.cond_f rfl ?_ | ((first | refine Runs.cond_yes rfl ?_ ?_ | refine Runs.cond_nno rfl ?_ ?_); · first | omega | rfl | assumption | (simp only [List.length_map]; omega)) | ((first | refine Runs.cond_no rfl ?_ ?_ | refine Runs.cond_nyes rfl ?_ ?_); · first | omega | rfl | assumption | (simp only [List.length_map]; omega)) | refine Runs.cond_dec rfl (fun h => ?_) (fun h => ?_) | refine Runs.cond_ndec rfl (fun h => ?_) (fun h => ?_) | refine Runs.cond_nb rfl (fun h => ?_) (fun h => ?_) | refine Runs.cond_b rfl (fun h => ?_) (fun h => ?_) | refine Runs.ret (ends_ro hm rfl rfl ?_) | exact Runs.ret (ends_cellR hm rfl rfl rfl (Nat.le_of_ble_eq_true rfl) rfl rfl))
 | refine op_box rfl (tl hn rfl) ?_
 | refine op_storeF rfl rfl rfl rfl (Nat.le_of_ble_eq_true rfl) ?_
 | refine op_alloc (tl hn rfl) ?_
 | refine op_storeN rfl rfl rfl rfl (Nat.le_of_ble_eq_true rfl) ?_
 | refine RunsD.step tabOk hn rfl rfl ?_
 | refine RunsD.nil ?_
 | refine Runs.toDraw 30 mixed hn rfl (by kernel_rfl) rfl ?_
 | ((first | refine RunsL.pe hn rfl rfl rfl ?_ | refine RunsD.pe rfl rfl ?_); first
 | refine ⟨_, pu_add rfl rfl (by omega), ?_⟩
 | refine ⟨_, pu_indexAddr_map rfl rfl (by omega) (by assumption), ?_⟩
 | refine ⟨_, pu_sub rfl rfl (by omega), ?_⟩
 | refine ⟨_, pu_pick_b rfl rfl rfl, ?_⟩
 | refine ⟨_, pu_mul rfl rfl (by omega), ?_⟩
 | refine ⟨_, pu_build rfl rfl rfl rfl rfl rfl, ?_⟩))
    refine Runs.ctls 30 rfl ?_
    refine mO_end (t := 0) (more := []) rfl ?_ rfl
    rw [show mCount m b = { m with sums := cntS b m.sums m.sums.length, read := w64 (m.read + 1), left := w64 (m.left - 1) } from by simp [mCount, cntS, cntF]]
    rfl
end Go.Proofs.Ytkhnijggbfoimaa
/- Closures that hold objects of the frame's. Over any program. -/
namespace Go.Proofs.Ytkhnijggbfoimaa
set_option linter.unusedSimpArgs false
set_option linter.unusedVariables false
open Go.RowKit
open AV (Mem Keeps)
theorem avs_app {m : Mem} : ∀ (xs : List AV) (us : List Value) {ys : List AV} {vs : List Value}, AV.rels m xs us → AV.rels m ys vs → AV.rels m (xs ++ ys) (us ++ vs)
  | [], us, ys, vs, h, h' => by
    simp only [AV.rels] at h
    subst h
    exact h'
  | x :: xs, us, ys, vs, h, h' => by
    simp only [AV.rels] at h
    obtain ⟨u, us', rfl, h1, h2⟩ := h
    simp only [List.cons_append, AV.rels]
    exact ⟨u, us' ++ vs, rfl, h1, avs_app xs us' h2 h'⟩
section
variable {P : Program} {C : Ctx} {ops : Array Oper} {rest : List Oper} {k : List Item} {R : Act → World → Prop} {env : Env} {σ : List Ob} {t : Nat} {ty : TypeId} {pos : String} {after : Array Edge}
theorem op_callMC {f : FuncId} {fn : Func} {x : Operand} {xs : Array Operand} {ats : Array TypeId} {σ0 σ1 : List Ob} {st : List Nat} {args cap : List AV} {v : AV} {d : Option Nat} [hfn : FN P f fn] (ι : List Nat) (hx : ev env x = .fn (.func f) [] cap) (hf : AM P f σ0 st args σ1 v)
    (ha : (xs.toList.map (ev env) ++ cap).map unpin = AV.rens (rof ι) args) (hcl : AV.onlys (fun i => i < σ0.length) args) (hL : Lent ι st σ σ0 σ1) (ht : ∀ t, d = some t → t < C.n)
    (hk : RunsL P C ops rest k R ⟨putEnv d (v.ren (rof ι)) (ridEnv (lentB ι) (stB' ι st) env), putObs ι σ σ1 0⟩) :
    RunsL P C ops (⟨d, .call { callee := .value x, args := xs, argTypes := ats }, ty, pos, after, none⟩ :: rest) k R ⟨env, σ⟩ := by
  refine ⟨fun a w ⟨s1, s2, φ, hG, hH⟩ => ?_⟩
  refine wpList_plain rfl fun K hK' => ?_
  have h0 := ev_rel hH x
  rw [hx] at h0
  simp only [AV.rel, AV.rels] at h0
  obtain ⟨us, vs, e, hu, hv0⟩ := h0
  have hu' : us = #[] := by cases us; simp_all
  subst hu'
  have hr := rels_unpin _ _ (avs_app _ _ (rels_eval (a := a) (m := ⟨w, φ, σ, C.ok⟩) xs.toList fun x hx => ev_rel hH x) hv0)
  rw [ha] at hr
  obtain ⟨hG0, hun⟩ := lent_good hL hG rfl
  have key : ∀ (vs : List AV) (us : List Value), AV.onlys (fun i => i < σ0.length) vs → AV.rels ⟨w, φ, σ, C.ok⟩ (AV.rens (rof ι) vs) us → AV.rels ⟨w, fun j => φ (rof ι j), σ0, fun b => C.ok b ∧ ∀ i, i < σ.length → lentB ι i = false → φ i ≠ some b⟩ vs us := by
    intro vs
    induction vs with
    | nil => intro us _ h; simpa [AV.rens, AV.rels] using h
    | cons x xs ih =>
      intro us ho h
      simp only [AV.rens, AV.rels, AV.onlys] at h ho ⊢
      obtain ⟨u, us', e, h1, h2⟩ := h
      exact ⟨u, us', e, hun x u ho.1 h1, ih us' ho.2 h2⟩
  unfold Oper.wp execOp
  simp only [resolve, e, Deferred.ofValue, Sem.run_bind, Sem.run_pure, Result.andThen_ok, invoke]
  rw [run_call hfn]
  simp only [Oper.upon]
  refine (hf w _ _ _ hG0 (by simpa using key args _ hcl hr)).mono ?_
  rintro e w' ⟨u, φ1, rfl, hG1, hv, hst⟩
  obtain ⟨φ', g1, g2, g3⟩ := lent_step hL hG rfl hG1 hst
  cases d with
  | none => exact hK' _ _ (hk.run _ _ ⟨s1, s2, φ', g1, fun s => by rw [show look (⟨putEnv none _ _, _⟩ : St).env s = _ from look_ridEnv _ _ _ _]; exact g2 _ _ (hH s)⟩)
  | some t => exact hK' _ _ (hk.run _ _ ⟨s1, by simp [Act.put, s2], φ', g1, Holds.put (fun s => by rw [look_ridEnv]; exact g2 _ _ (hH s)) (by rw [s2]; exact ht t rfl) (g3 _ _ hv)⟩)
theorem op_callPC {f : FuncId} {fn : Func} {x : Operand} {xs : Array Operand} {ats : Array TypeId} {σ0 σ1 more : List Ob} {st : List Nat} {args cap : List AV} {v : AV} {d : Option Nat} [hfn : FN P f fn] (n : Nat) (hx : ev env x = .fn (.func f) [] cap) (hf : AM P f σ0 st args σ1 v)
    (ha : (xs.toList.map (ev env) ++ cap).map unpin = args) (hcl : AV.onlys (fun i => i < n) args) (hv : v.only fun i => i < n) (hσ : σ = σ0 ++ more) (hn0 : Nat.beq σ0.length n = true) (hn1 : Nat.beq σ1.length n = true) (h0 : FreeO n σ0) (h1 : FreeO n σ1) (hst : (st.all fun j => Nat.ble (j + 1) n) = true) (hfree : FreeP n st more) (ht : ∀ t, d = some t → t < C.n)
    (hk : RunsL P C ops rest k R ⟨putEnv d v (ridEnv (ltB n) (memB st) env), σ1 ++ more⟩) :
    RunsL P C ops (⟨d, .call { callee := .value x, args := xs, argTypes := ats }, ty, pos, after, none⟩ :: rest) k R ⟨env, σ⟩ := by
  subst hσ
  obtain ⟨hL, hp⟩ := lent_range hn0 hn1 h0 h1 hst hfree
  have hr : ∀ i, i < n → rof (List.range n) i = i := fun i hi => rof_range hi
  have e0 : σ0.length = n := Nat.eq_of_beq_eq_true hn0
  refine op_callMC (List.range n) hx hf (by rw [ha, rens_id hr args hcl]) (by rw [e0]; exact hcl) hL ht ?_
  rw [hp, lentB_range, stB_range hst, ren_id hr v hv]
  exact hk
theorem Pur.unpin {o : Oper} {v : AV} {s i off g : Nat} (hs : look env s = .pin i off g) (h : Pur P C o ((s, .obj i off) :: env) σ v) : Pur P C o env σ v :=
  ⟨fun a m hG hσ hH K Q hK => h.run a m hG hσ (fun x hx => by
    have h0 := hH x hx
    cases x with
    | tmp s' =>
      show AV.rel m (look ((s, .obj i off) :: env) s') _
      rw [look_put]
      split
      · rename_i e
        subst e
        have h1 : AV.rel m (look env s) (a.eval (.tmp s)) := h0
        rw [hs] at h1
        exact unpin_rel (v := .pin i off g) h1
      · exact h0
    | const c => exact h0
    | global c => exact h0
    | func c => exact h0) K Q hK⟩
theorem equalIn_fn {w : World} {xt : TypeId} {f : Fn} {us vs : Array Value} {ps rs : _} {vr : _} (d : Nat) (hu : P.underlying xt = some (.func ps rs vr)) : (Op.equalIn (d + 1) xt (.func f us vs) .nilFunc).run P w = .ok false w := by
  simp [Op.equalIn, run_underlying hu]
theorem pu_neqNil {gd : Option (Nat × Bool)} {xt yt : TypeId} {x y : Operand} {f : Fn} {a b : List AV} {ps rs : _} {vr : _} (hu : P.underlying xt = some (.func ps rs vr)) (hx : ev env x = .fn f a b) (hy : ev env y = .ro (.c .nilFunc)) : Pur P C ⟨some t, .binOp .neq xt x y yt, ty, pos, after, gd⟩ env σ (.bool true) :=
  Pur.of (fun ac m hG hσ hH => by
    have h := hH x (by simp [Op.operands, Call.operands])
    rw [hx] at h
    simp only [AV.rel] at h
    obtain ⟨us, vs, e, _, _⟩ := h
    have h' := hH y (by simp [Op.operands, Call.operands])
    rw [hy] at h'
    simp only [AV.rel, RV.rel] at h'
    refine ⟨.bool true, ?_, by simp [AV.rel, RV.rel]⟩
    simp only [execOp, e, h']
    simp [go_sem, binOp, Op.equal]
    rw [show Op.maxDepth = 9999 + 1 from rfl, equalIn_fn _ hu]
    rfl)
theorem equalIn_nil {w : World} {xt : TypeId} {ps rs : _} {vr : _} (d : Nat) (hu : P.underlying xt = some (.func ps rs vr)) : (Op.equalIn (d + 1) xt .nilFunc .nilFunc).run P w = .ok true w := by
  simp [Op.equalIn, run_underlying hu]
theorem pu_neqNN {gd : Option (Nat × Bool)} {xt yt : TypeId} {x y : Operand} {ps rs : _} {vr : _} (hu : P.underlying xt = some (.func ps rs vr)) (hx : ev env x = .ro (.c .nilFunc)) (hy : ev env y = .ro (.c .nilFunc)) : Pur P C ⟨some t, .binOp .neq xt x y yt, ty, pos, after, gd⟩ env σ (.bool false) :=
  Pur.of (fun ac m hG hσ hH => by
    have h := hH x (by simp [Op.operands, Call.operands])
    rw [hx] at h
    have h' := hH y (by simp [Op.operands, Call.operands])
    rw [hy] at h'
    simp only [AV.rel, RV.rel] at h h'
    refine ⟨.bool false, ?_, by simp [AV.rel, RV.rel]⟩
    simp only [execOp, h, h']
    simp [go_sem, binOp, Op.equal]
    rw [show Op.maxDepth = 9999 + 1 from rfl, equalIn_nil _ hu]
    rfl)
end
theorem am_enterG {P : Program} {f : FuncId} {fn : Func} {c : Code} {σ σ' : List Ob} {st : List Nat} {args : List AV} {v : AV} (hf : P.funcs[f]? = some fn) (hb : fn.body = some c) (n : Nat) (hn : fn.ntmps = n) (hl : args.length ≤ n)
    (g j k off : Nat) {o : Ob} (ho : σ[j]? = some o) (hk : o.cs[k]? = some (.pin 0 off g)) (hst : ∀ i ∈ st, i = 0 ∨ ∃ off, AV.obj i off ∈ args)
    (h : ∀ (C : Ctx) (gs : Nat → Nat), C.n = n → gs 0 = g → Runs P C [.code c] (EndsA P C fn gs st σ' v) ⟨startEnvA 0 (args.map (pinA gs)), σ⟩) : AM P f σ st args σ' v := by
  intro w φ ok us hG hu
  have hlen := AV.rels_len args _ hu
  have h0 : φ 0 = some g := by
    have hob := hG.ob j o ho
    simp only at hob
    cases hφ : φ j with
    | none =>
      rw [hφ] at hob
      simp only [ObRel] at hob
      rw [hob] at hk
      simp at hk
    | some b =>
      rw [hφ] at hob
      obtain ⟨us', q1, q2, q3⟩ := hob
      obtain ⟨u, e1, e2, e3⟩ := q3 k _ hk
      simp only [AV.rel] at e3
      exact e3.2.1
  refine calls_of_fin hf hb ?_
  let gs : Nat → Nat := fun i => (φ i).getD 0
  have hs : Sim ⟨w, ok, mine φ σ.length, n⟩ ⟨startEnvA 0 (args.map (pinA gs)), σ⟩ { tmps := us ++ Array.replicate (fn.ntmps - us.size) undef, defers := [] } w := by
    refine ⟨rfl, by simp at hlen ⊢; omega, φ, good_n hG, fun t => ?_⟩
    rw [startA_look]
    simp only [Nat.zero_le, if_true, Nat.sub_zero, List.getElem?_map]
    cases hr : args[t]? with
    | none => simp [AV.rel]
    | some r =>
      obtain ⟨u, e1, e2⟩ := AV.rels_at args _ hu t r hr
      have ht : t < us.size := by have := (List.getElem?_eq_some_iff.1 e1).1; simpa using this
      have : (us ++ Array.replicate (fn.ntmps - us.size) undef).getD t undef = u := by
        rw [Array.getD_eq_getD_getElem?, Array.getElem?_append_left ht]
        have : us[t]? = some u := by simpa using e1
        simp [this]
      simp only [Option.map_some, Option.getD_some]
      rw [this]
      cases r <;> simp only [pinA] <;> try exact e2
      case obj i off =>
        simp only [AV.rel] at e2 ⊢
        obtain ⟨k1, g, k2, k3⟩ := e2
        have : gs i = g := by simp only [gs, k2, Option.getD_some]
        rw [this]
        exact ⟨k1, k2, k3⟩
  have hr := (h ⟨w, ok, mine φ σ.length, n⟩ gs rfl (by simp only [gs, h0, Option.getD_some])).run _ w hs
  intro b cs
  obtain ⟨a', w', todo, ⟨hd, u, hv, φ', h1, h2, h3⟩, hstep⟩ := hr b cs
  refine ⟨a', w', todo, ⟨hd, u, hv, u, φ', rfl, good_n h1, h2, fun i hi => ?_⟩, hstep⟩
  rcases hst i hi with rfl | ⟨off, ho⟩
  · rw [h3 0 hi]
    simp only [gs, h0, Option.getD_some]
  · obtain ⟨j, hj⟩ := List.mem_iff_getElem?.1 ho
    obtain ⟨u', _, e2⟩ := AV.rels_at args _ hu j _ hj
    simp only [AV.rel] at e2
    obtain ⟨_, g, k2, _⟩ := e2
    rw [h3 i hi]
    simp only [gs, k2, Option.getD_some]
end Go.Proofs.Ytkhnijggbfoimaa
/- Array literals. Over any program. -/
namespace Go.Proofs.Ytkhnijggbfoimaa
set_option linter.unusedSimpArgs false
set_option linter.unusedVariables false
open Go.RowKit
open AV (Mem Keeps)
class TBR (P : Program) (t : TypeId) (zs : outParam (List Value)) : Prop where
  h : ∃ it n e z ie, P.info? t = some it ∧ P.underlying t = some (.array n e) ∧ it.zero = some z ∧ z.cells = zs.toArray ∧ P.info? e = some ie ∧ ie.size = 1 ∧ ∀ x ∈ zs, x.oneCell' = true
def fillF (pl : Nat → Option (Nat × Nat)) (env : Env) : List AV → List (Nat × Operand) → Option (List AV)
  | cells, [] => some cells
  | cells, (i, x) :: l => match pl i with
    | some (off, size) => match cells? (ev env x) with
      | some cs => match Nat.beq cs.length size, Nat.ble (off + size) cells.length with
        | true, true => fillF pl env (setsAt cells off cs) l
        | _, _ => none
      | none => none
    | none => none
theorem fillF_ok {m : Mem} {env : Env} {a : Act} {pl : Nat → Option (Nat × Nat)} : ∀ (l : List (Nat × Operand)) (vs vs' : List AV) (cells : Array Value), (∀ p ∈ l, AV.rel m (ev env p.2) (a.eval p.2)) → cells.size = vs.length → (∀ (j : Nat) x, vs[j]? = some x → ∃ y, cells[j]? = some y ∧ y.oneCell' = true ∧ AV.rel m x y) →
    fillF pl env vs l = some vs' → ∃ cells', Instr.fill pl cells (l.map fun p => (p.1, a.eval p.2)) = some cells' ∧ cells'.size = vs'.length ∧ ∀ (j : Nat) x, vs'[j]? = some x → ∃ y, cells'[j]? = some y ∧ y.oneCell' = true ∧ AV.rel m x y
  | [], vs, vs', cells, _, hs, hv, h => by
    simp only [fillF, Option.some.injEq] at h
    subst h
    exact ⟨cells, rfl, hs, hv⟩
  | (i, x) :: l, vs, vs', cells, hH, hs, hv, h => by
    unfold fillF at h
    split at h
    · rename_i off size hp
      split at h
      · rename_i cs hc
        split at h
        · rename_i hb1 hb2
          have e1 := Nat.eq_of_beq_eq_true hb1
          have e2 := Nat.le_of_ble_eq_true hb2
          obtain ⟨c1, c2⟩ := cells_rel (hH (i, x) (by simp)) hc
          obtain ⟨k1, k2⟩ := sets_array (m := m) (a.eval x).cells.toList 0 cells off cs vs (by simpa using c1) (fun j y hj => by simpa using c2 j y hj) (by omega) hs hv
          rw [Nat.add_zero] at k2
          obtain ⟨cells', q1, q2⟩ := fillF_ok l _ vs' _ (fun p hp => hH p (by simp [hp])) (by rw [setsAt_len]; exact k1) k2 h
          refine ⟨cells', ?_, q2⟩
          simp only [List.map_cons, Instr.fill]
          rw [hp]
          simp only
          have c1' : (a.eval x).cells.size = cs.length := c1
          rw [if_neg (by rw [c1']; simp; omega), ← q1]
          congr 1
          rw [← Array.foldl_toList, Array.toList_zipIdx]
        · cases h
      · cases h
    · cases h
def oneP (i : Nat) : Option (Nat × Nat) := some (i * 1, 1)
section
variable {P : Program} {C : Ctx} {env : Env} {σ : List Ob} {t : Nat} {ty : TypeId} {pos : String} {after : Array Edge} {gd : Option (Nat × Bool)}
theorem pu_buildR {tt : TypeId} {parts : Array (Nat × Operand)} {zs : List Value} {vs : List AV} [hb : TBR P tt zs] (h : fillF oneP env (zs.map fun v => .ro (.c v)) parts.toList = some vs) :
    Pur P C ⟨some t, .build tt parts, ty, pos, after, gd⟩ env σ (aggOf vs) :=
  Pur.of (fun a m hG hσ hH => by
    obtain ⟨it, n, e, z, ie, h1, h2, h3, h4, h5, h7, h6⟩ := hb.h
    obtain ⟨cells', q1, q2, q3⟩ := fillF_ok (m := m) (a := a) parts.toList _ vs zs.toArray (fun p hp => hH p.2 (by simp [Op.operands]; exact ⟨p.1, by simpa using hp⟩)) (by simp) (fun j x hj => by
      rw [List.getElem?_map, Option.map_eq_some_iff] at hj
      obtain ⟨y, hy, rfl⟩ := hj
      exact ⟨y, by simpa using hy, h6 y (List.mem_of_getElem? hy), by simp [AV.rel, RV.rel]⟩) h
    have hbt : P.built tt (parts.map fun p => (p.1, a.eval p.2)).toList = some cells' := by
      unfold Program.built
      simp only [h1, h2, h3, h5, h4, h7]
      rw [Array.toList_map]
      exact q1
    refine ⟨.agg cells', by simp only [execOp]; exact by simp [run_build m.w tt _ _ hbt], ?_⟩
    have hrel : AV.rels m vs cells'.toList := AV.rels_of _ _ (by simpa using q2) fun j r u hj hu => by
      obtain ⟨y, e1, _, e3⟩ := q3 j r hj
      have : y = u := by simpa [e1] using hu
      rwa [this] at e3
    unfold aggOf
    split
    · rename_i rs hrs
      rw [allRo_eq hrs] at hrel
      simp only [AV.rel, RV.rel]
      exact ⟨_, rfl, rels_ro_inv _ _ hrel⟩
    · simp only [AV.rel]
      exact ⟨_, rfl, hrel⟩)
end
end Go.Proofs.Ytkhnijggbfoimaa
