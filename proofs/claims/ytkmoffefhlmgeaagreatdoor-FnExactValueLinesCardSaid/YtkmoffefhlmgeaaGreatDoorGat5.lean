/- Gathered texts. -/
import Derived.Test.YtkmoffefhlmgeaaGreatDoorGat0
import Derived.Test.YtkmoffefhlmgeaaGreatDoorGat1
import Derived.Test.YtkmoffefhlmgeaaGreatDoorGat2
import Derived.Test.YtkmoffefhlmgeaaGreatDoorGat3
import Derived.Test.YtkmoffefhlmgeaaGreatDoorGat4
/- Marks on rows of bytes. -/
namespace Go.Proofs.YtkmoffefhlmgeaaGreatDoor
set_option linter.unusedSimpArgs false
set_option linter.unusedVariables false
set_option linter.unusedSectionVars false
set_option maxRecDepth 100000
open Go.RowKit
open AV (Mem Keeps)
def mkB (k : Int) : Value := .int .u8 (IntKind.u8.wrap k)
set_option maxHeartbeats 8000000 in
theorem markByteS_mk (l : List UInt8) (k : Int) (h0 : 0 ≤ k) (hk : k ≤ 4611686018427387904) (hll : l.length ≤ 4194304) : MK Tryz.prog 31 (bytesO l) k (k + l.length) (.row 5 1 (((seqI k l.length).map mkB).map .c)) := by
  intro w u bs h hnd hlt
  have hl : (l.map fun z => Value.int .u8 (z.toNat : Int)).length = l.length := List.length_map ..
  rcases row_block h with ⟨rfl, h1, rfl⟩ | ⟨g, cap, cur, rfl, rfl, hh, c1, c2, c3, ht⟩
  · obtain rfl : l = [] := by simpa using h1
    refine mark_enter (X := fun w' => OV.rel w' (.row 5 1 (((seqI k 0).map mkB).map .c)) (.slice none 0 0) []) Tryz.func31 rfl _ Tryz.ntmps31 (by simp) hlt ?_
    generalize hC0 : (⟨w, fun b => b ∉ ([] : List Nat), fun _ => False, _⟩ : Ctx) = C0
    have hn : C0.n = 20 := by rw [← hC0]
    have hm0 : ∀ b, ¬ C0.mu b := by rw [← hC0]; exact fun _ h => h
    repeat' (first
 | refine RunsL.step tabOk hn rfl ?_
 | refine RunsL.nil ?_
 | refine Runs.toRegion 30 rfl ?_
 | (refine Runs.ctls 30 rfl ?_; first | refine Runs.cond_f rfl ?_ | ((first | refine Runs.cond_yes rfl ?_ ?_ | refine Runs.cond_nno rfl ?_ ?_); · first | omega | rfl | assumption | (simp only [List.length_map]; omega)) | ((first | refine Runs.cond_no rfl ?_ ?_ | refine Runs.cond_nyes rfl ?_ ?_); · first | omega | rfl | assumption | (simp only [List.length_map]; omega)) | refine Runs.ret (ends_ro hm rfl rfl ?_) | exact Runs.ret (ends_cellR hm rfl rfl rfl (Nat.le_of_ble_eq_true rfl) rfl rfl))
 | (refine RunsL.pe hn rfl rfl rfl ?_; first
 | refine ⟨_, pu_add rfl rfl (by omega), ?_⟩
        ))
    refine Runs.ctls 30 rfl (Runs.keep [(0, .ro (.c (.slice none 0 0))), (1, .int k), (5, .int 0)] ⟨rfl, rfl, rfl, trivial⟩ ?_)
    refine Runs.loopV (fun n C S => C = C0 ∧ S = ⟨[(0, .ro (.c (.slice none 0 0))), (1, .int k), (5, .int 0)], []⟩) ?_ 0 C0 _ ⟨rfl, rfl⟩
    rintro n C S ⟨rfl, rfl⟩ ih
    repeat' (first
 | refine RunsL.step tabOk hn rfl ?_
 | refine RunsL.nil ?_
 | refine Runs.toRegion 30 rfl ?_
 | (refine RunsL.pe hn rfl rfl rfl ?_; first
 | refine ⟨_, pu_lenC rfl, ?_⟩)
 | (refine Runs.ctls 30 rfl ?_; first | refine Runs.cond_f rfl ?_ | ((first | refine Runs.cond_yes rfl ?_ ?_ | refine Runs.cond_nno rfl ?_ ?_); · first | omega | rfl | assumption | (simp only [List.length_map]; omega)) | ((first | refine Runs.cond_no rfl ?_ ?_ | refine Runs.cond_nyes rfl ?_ ?_); · first | omega | rfl | assumption | (simp only [List.length_map]; omega)) | refine Runs.ret (ends_ro hm rfl rfl ?_) | exact Runs.ret (ends_cellR hm rfl rfl rfl (Nat.le_of_ble_eq_true rfl) rfl rfl))
 | (refine RunsL.pe hn rfl rfl rfl ?_; first
 | refine ⟨_, pu_add rfl rfl (by omega), ?_⟩
        ))
    refine Runs.ctls 30 rfl (Runs.ret (endsM (Nx.refl _ _) hm0 rfl (by show look _ _ = _; simp [look]) fun φ w hG => ?_))
    simp only [seqI, OV.rel, List.range_zero, List.map_nil, OV.rels]
    exact ⟨0, [], [], rfl, by omega, ⟨rfl, rfl⟩, by simp, ⟨rfl, .inl ⟨rfl, rfl⟩⟩, rfl⟩
  · rw [hl] at c1 ht ⊢
    refine mark_enter (X := fun w' => OV.rel w' (.row 5 1 (((seqI k l.length).map mkB).map .c)) (.slice (some ⟨g, 0, none⟩) l.length cap) [g]) Tryz.func31 rfl _ Tryz.ntmps31 (by simp) hlt ?_
    generalize hC0 : (⟨w, fun b => b ∉ [g], fun _ => False, _⟩ : Ctx) = C0
    have hn : C0.n = 20 := by rw [← hC0]
    have hm0 : ∀ b, ¬ C0.mu b := by rw [← hC0]; exact fun _ h => h
    have hb0 : Bk C0 g cur 5 := by rw [← hC0]; exact ⟨hh, fun h => h, fun h => h (by simp)⟩
    repeat' (first
 | refine RunsL.step tabOk hn rfl ?_
 | refine RunsL.nil ?_
 | refine Runs.toRegion 30 rfl ?_
 | (refine Runs.ctls 30 rfl ?_; first | refine Runs.cond_f rfl ?_ | ((first | refine Runs.cond_yes rfl ?_ ?_ | refine Runs.cond_nno rfl ?_ ?_); · first | omega | rfl | assumption | (simp only [List.length_map]; omega)) | ((first | refine Runs.cond_no rfl ?_ ?_ | refine Runs.cond_nyes rfl ?_ ?_); · first | omega | rfl | assumption | (simp only [List.length_map]; omega)) | refine Runs.ret (ends_ro hm rfl rfl ?_) | exact Runs.ret (ends_cellR hm rfl rfl rfl (Nat.le_of_ble_eq_true rfl) rfl rfl))
 | (refine RunsL.pe hn rfl rfl rfl ?_; first
 | refine ⟨_, pu_add rfl rfl (by omega), ?_⟩
        ))
    refine Runs.ctls 30 rfl (Runs.keep [(0, .ro (.c (.slice (some ⟨g, 0, none⟩) l.length cap))), (1, .int k), (5, .int 0)] ⟨rfl, rfl, rfl, trivial⟩ ?_)
    refine Runs.loopV (fun n C S => ∃ (j : Nat) (cu : Array Value), j + n = l.length ∧ C.n = 20 ∧ Nx C0 C [g] ∧ Bk C g cu 5 ∧ cu.size = cap ∧ cu.toList.take l.length = (seqI k j).map (mkB) ++ (l.map fun z => Value.int .u8 (z.toNat : Int)).drop j ∧ S = ⟨[(0, .ro (.c (.slice (some ⟨g, 0, none⟩) l.length cap))), (1, .int (k + j)), (5, .int (j : Int))], []⟩) ?_ l.length C0 _ ⟨0, cur, by omega, hn, Nx.refl _ _, hb0, c3, by rw [ht]; rfl, by rw [show k + ((0 : Nat) : Int) = k by omega]; rfl⟩
    rintro n C S ⟨j, cu, hj, hn, hnx, hb, hcu, htk, rfl⟩ ih
    by_cases hlt' : j < l.length
    · repeat' (first
 | (refine op_storeC rfl rfl rfl hb (by simp; omega) fun C' nx hb' => ?_; have hn := nx.n.trans hn)
 | refine RunsL.step tabOk hn rfl ?_
 | refine RunsL.nil ?_
 | refine Runs.toRegion 30 rfl ?_
 | (refine RunsL.pe hn rfl rfl rfl ?_; first
 | refine ⟨_, pu_convert inferInstance inferInstance rfl, ?_⟩
 | refine ⟨_, pu_lenC rfl, ?_⟩
 | refine ⟨_, pu_indexC rfl rfl (by omega) (by omega), ?_⟩)
 | (refine Runs.ctls 30 rfl ?_; first | refine Runs.cond_f rfl ?_ | ((first | refine Runs.cond_yes rfl ?_ ?_ | refine Runs.cond_nno rfl ?_ ?_); · first | omega | rfl | assumption | (simp only [List.length_map]; omega)) | ((first | refine Runs.cond_no rfl ?_ ?_ | refine Runs.cond_nyes rfl ?_ ?_); · first | omega | rfl | assumption | (simp only [List.length_map]; omega)) | refine Runs.ret (ends_ro hm rfl rfl ?_) | exact Runs.ret (ends_cellR hm rfl rfl rfl (Nat.le_of_ble_eq_true rfl) rfl rfl))
 | (refine RunsL.pe hn rfl rfl rfl ?_; first
 | refine ⟨_, pu_add rfl rfl (by omega), ?_⟩
        ))
      have e : ((j : Int).toNat * 1) = j := by omega
      rw [e] at hb'
      have hmn := mark_next (f := mkB) (k := k) (vs := l.map fun z => Value.int .u8 (z.toNat : Int)) (cur := cu) (by omega) hl hlt' htk
      refine Runs.ctls 30 rfl (Runs.keep [(0, .ro (.c (.slice (some ⟨g, 0, none⟩) l.length cap))), (1, .int (k + ((j + 1 : Nat) : Int))), (5, .int ((j + 1 : Nat) : Int))] ⟨rfl, by simp only [look]; exact av_int (by omega), by simp only [look]; exact av_int (by omega), trivial⟩ (ih (n - 1) (by omega) _ _ ⟨j + 1, _, by omega, hn, (hnx.trans nx).sub (by simp), hb', by simpa using hcu, hmn, rfl⟩))
    · obtain rfl : j = l.length := by omega
      repeat' (first
 | refine RunsL.step tabOk hn rfl ?_
 | refine RunsL.nil ?_
 | refine Runs.toRegion 30 rfl ?_
 | (refine RunsL.pe hn rfl rfl rfl ?_; first
 | refine ⟨_, pu_lenC rfl, ?_⟩)
 | (refine Runs.ctls 30 rfl ?_; first | refine Runs.cond_f rfl ?_ | ((first | refine Runs.cond_yes rfl ?_ ?_ | refine Runs.cond_nno rfl ?_ ?_); · first | omega | rfl | assumption | (simp only [List.length_map]; omega)) | ((first | refine Runs.cond_no rfl ?_ ?_ | refine Runs.cond_nyes rfl ?_ ?_); · first | omega | rfl | assumption | (simp only [List.length_map]; omega)) | refine Runs.ret (ends_ro hm rfl rfl ?_) | exact Runs.ret (ends_cellR hm rfl rfl rfl (Nat.le_of_ble_eq_true rfl) rfl rfl))
 | (refine RunsL.pe hn rfl rfl rfl ?_; first
 | refine ⟨_, pu_add rfl rfl (by omega), ?_⟩
          ))
      refine Runs.ctls 30 rfl (Runs.ret (endsM hnx hm0 rfl rfl fun φ w hG => ?_))
      have hvl : ((seqI k l.length).map (mkB)).length = l.length := by rw [List.length_map, seqI_len]
      have hbr := block_row (vs := (seqI k l.length).map (mkB)) (hb.now hG) (by rw [hvl]; exact c1) c2 hcu (by rw [hvl, htk, List.drop_of_length_le (by rw [hl]; exact Nat.le_refl _), List.append_nil]) (fun x hx => by obtain ⟨z, _, rfl⟩ := List.mem_map.1 hx; rfl)
      rw [hvl] at hbr
      exact hbr
def seqB (k : Int) (n : Nat) : List UInt8 := (seqI k n).map fun z => UInt8.ofNat (IntKind.u8.wrap z).toNat
theorem wrapB (z : Int) : IntKind.u8.wrap z = ((UInt8.ofNat (IntKind.u8.wrap z).toNat).toNat : Int) := by
  have h : 0 ≤ IntKind.u8.wrap z ∧ IntKind.u8.wrap z < 256 := by
    simp [IntKind.wrap, IntKind.bits, IntKind.signed]
    omega
  simp
  omega
theorem mkB_eq (z : Int) : mkB z = Value.int .u8 ((UInt8.ofNat (IntKind.u8.wrap z).toNat).toNat : Int) := by unfold mkB; rw [← wrapB]
theorem seqB_O (k : Int) (n : Nat) : OV.row 5 1 (((seqI k n).map mkB).map .c) = bytesO (seqB k n) := by
  unfold bytesO seqB
  congr 1
  simp only [List.map_map]
  refine List.map_congr_left fun z _ => ?_
  simp only [Function.comp]
  rw [mkB_eq]
end Go.Proofs.YtkmoffefhlmgeaaGreatDoor
/- Marks on rows of texts. -/
namespace Go.Proofs.YtkmoffefhlmgeaaGreatDoor
set_option linter.unusedSimpArgs false
set_option linter.unusedVariables false
set_option linter.unusedSectionVars false
set_option maxRecDepth 100000
open Go.RowKit
open AV (Mem Keeps)
inductive Mt : Int → ByteArray → ByteArray → Prop
  | done {k : Int} {o : ByteArray} (h : k ≤ 0) : Mt k o o
  | step {k : Int} {o r : ByteArray} (h : 0 < k) (hr : Mt (k / 10) (⟨#[u8i (48 + k % 10)]⟩ ++ o) r) : Mt k o r
theorem mt_ex : ∀ (n : Nat) (k : Int) (o : ByteArray), k.toNat ≤ n → ∃ r, Mt k o r
  | 0, k, o, h => ⟨o, .done (by omega)⟩
  | n + 1, k, o, h => by
    by_cases h0 : k ≤ 0
    · exact ⟨o, .done h0⟩
    · obtain ⟨r, hr⟩ := mt_ex n (k / 10) (⟨#[u8i (48 + k % 10)]⟩ ++ o) (by omega)
      exact ⟨r, .step (by omega) hr⟩
noncomputable def mtr (k : Int) : ByteArray := (mt_ex k.toNat k ⟨#[]⟩ (Nat.le_refl _)).choose
theorem mtr_mt (k : Int) : Mt k ⟨#[]⟩ (mtr k) := (mt_ex k.toNat k ⟨#[]⟩ (Nat.le_refl _)).choose_spec
noncomputable def mtxt (k : Int) : ByteArray := if k ≤ 0 then ⟨#[109, 48]⟩ else ⟨#[109]⟩ ++ mtr k
set_option maxHeartbeats 2000000 in
theorem markText_ac (k : Int) (h0 : 0 ≤ k) (hk : k ≤ 4611686018435776512) : ACv Tryz.prog 33 [.int k] (.str (mtxt k)) := by
  refine ac_enter Tryz.func33 rfl _ Tryz.ntmps33 (by simp) fun C hn hm => ?_
  by_cases hz : k ≤ 0
  · repeat' (first
 | refine RunsL.step tabOk hn rfl ?_
 | refine RunsL.nil ?_
 | refine Runs.toRegion 30 rfl ?_
 | (refine Runs.ctls 30 rfl ?_; first | ((first | refine Runs.cond_yes rfl ?_ ?_ | refine Runs.cond_nno rfl ?_ ?_); · first | omega | rfl | assumption | (simp only [List.length_map]; omega)) | ((first | refine Runs.cond_no rfl ?_ ?_ | refine Runs.cond_nyes rfl ?_ ?_); · first | omega | rfl | assumption | (simp only [List.length_map]; omega)) | refine Runs.ret (ends_ro hm rfl rfl ?_) | exact Runs.ret (ends_cellR hm rfl rfl rfl (Nat.le_of_ble_eq_true rfl) rfl rfl))
 | (refine RunsL.pe hn rfl rfl rfl ?_; first
 | refine ⟨_, pu_add rfl rfl (by omega), ?_⟩
 | refine ⟨_, pu_build rfl rfl rfl rfl rfl rfl, ?_⟩))
    exact rr_ro (by unfold mtxt; rw [if_pos hz])
  · repeat' (first
 | refine RunsL.step tabOk hn rfl ?_
 | refine RunsL.nil ?_
 | refine Runs.toRegion 30 rfl ?_
 | (refine Runs.ctls 30 rfl ?_; first | ((first | refine Runs.cond_yes rfl ?_ ?_ | refine Runs.cond_nno rfl ?_ ?_); · first | omega | rfl | assumption | (simp only [List.length_map]; omega)) | ((first | refine Runs.cond_no rfl ?_ ?_ | refine Runs.cond_nyes rfl ?_ ?_); · first | omega | rfl | assumption | (simp only [List.length_map]; omega)) | refine Runs.ret (ends_ro hm rfl rfl ?_) | exact Runs.ret (ends_cellR hm rfl rfl rfl (Nat.le_of_ble_eq_true rfl) rfl rfl))
 | (refine RunsL.pe hn rfl rfl rfl ?_; first
 | refine ⟨_, pu_add rfl rfl (by omega), ?_⟩
 | refine ⟨_, pu_build rfl rfl rfl rfl rfl rfl, ?_⟩))
    refine Runs.ctls 30 rfl (Runs.keep [(0, .int k), (3, .str ⟨#[]⟩)] ⟨rfl, rfl, trivial⟩ ?_)
    refine Runs.loop (fun n S => ∃ (q : Int) (o : ByteArray), q.toNat = n ∧ 0 ≤ q ∧ (o.size : Int) + q ≤ 4611686018435776512 ∧ Mt q o (mtr k) ∧ S = ⟨[(0, .int q), (3, .str o)], []⟩) ?_ k.toNat ⟨k, ⟨#[]⟩, rfl, h0, by have : (⟨#[]⟩ : ByteArray).size = 0 := rfl; rw [this]; omega, mtr_mt k, rfl⟩
    rintro n S ⟨q, o, hn', hq, hs, hM, rfl⟩ ih
    by_cases hq0 : 0 < q
    · have hM' : Mt (q / 10) (⟨#[u8i (48 + q % 10)]⟩ ++ o) (mtr k) := by
        cases hM with
        | done h => omega
        | step _ h => exact h
      have hsz : ((⟨#[u8i (48 + q % 10)]⟩ ++ o : ByteArray).size : Int) = 1 + o.size := by
        rw [ByteArray.size_append]
        rfl
      repeat' (first
 | refine RunsL.step tabOk hn rfl ?_
 | refine RunsL.nil ?_
 | refine Runs.toRegion 30 rfl ?_
 | (refine RunsL.pe hn rfl rfl rfl ?_; first
 | refine ⟨_, pu_rem rfl rfl (by omega), ?_⟩
 | refine ⟨_, pu_quo rfl rfl (by omega), ?_⟩
 | refine ⟨_, pu_toU8 rfl, ?_⟩
 | refine ⟨_, pu_string (l := [u8i (48 + q % 10)]) Tryz.underlying25 Tryz.underlying5 Tryz.underlying9 rfl, ?_⟩
 | refine ⟨_, pu_cat rfl rfl (by simp only [ByteArray.size, List.size_toArray, List.length_cons, List.length_nil] at *; omega), ?_⟩)
 | (refine Runs.ctls 30 rfl ?_; first | ((first | refine Runs.cond_yes rfl ?_ ?_ | refine Runs.cond_nno rfl ?_ ?_); · first | omega | rfl | assumption | (simp only [List.length_map]; omega)) | ((first | refine Runs.cond_no rfl ?_ ?_ | refine Runs.cond_nyes rfl ?_ ?_); · first | omega | rfl | assumption | (simp only [List.length_map]; omega)) | refine Runs.ret (ends_ro hm rfl rfl ?_) | exact Runs.ret (ends_cellR hm rfl rfl rfl (Nat.le_of_ble_eq_true rfl) rfl rfl))
 | (refine RunsL.pe hn rfl rfl rfl ?_; first
 | refine ⟨_, pu_add rfl rfl (by omega), ?_⟩
 | refine ⟨_, pu_build rfl rfl rfl rfl rfl rfl, ?_⟩))
      refine Runs.ctls 30 rfl ?_
      refine Runs.keep [(0, .int (q / 10)), (3, .str (⟨#[u8i (48 + q % 10)]⟩ ++ o))] ⟨rfl, rfl, trivial⟩ ?_
      exact ih (q / 10).toNat (by omega) _ ⟨q / 10, _, rfl, by omega, by omega, hM', rfl⟩
    · have hE : mtr k = o := by
        cases hM with
        | done h => rfl
        | step h _ => omega
      repeat' (first
 | refine RunsL.step tabOk hn rfl ?_
 | refine RunsL.nil ?_
 | refine Runs.toRegion 30 rfl ?_
 | (refine RunsL.pe hn rfl rfl rfl ?_; first
 | refine ⟨_, pu_cat rfl rfl (by simp only [ByteArray.size, List.size_toArray, List.length_cons, List.length_nil] at *; omega), ?_⟩)
 | (refine Runs.ctls 30 rfl ?_; first | ((first | refine Runs.cond_yes rfl ?_ ?_ | refine Runs.cond_nno rfl ?_ ?_); · first | omega | rfl | assumption | (simp only [List.length_map]; omega)) | ((first | refine Runs.cond_no rfl ?_ ?_ | refine Runs.cond_nyes rfl ?_ ?_); · first | omega | rfl | assumption | (simp only [List.length_map]; omega)) | refine Runs.ret (ends_ro hm rfl rfl ?_) | exact Runs.ret (ends_cellR hm rfl rfl rfl (Nat.le_of_ble_eq_true rfl) rfl rfl))
 | (refine RunsL.pe hn rfl rfl rfl ?_; first
 | refine ⟨_, pu_add rfl rfl (by omega), ?_⟩
 | refine ⟨_, pu_build rfl rfl rfl rfl rfl rfl, ?_⟩))
      exact rr_ro (by unfold mtxt; rw [if_neg hz, hE])
noncomputable def mkT (k : Int) : Value := .string (mtxt k)
set_option maxHeartbeats 8000000 in
theorem markStringS_mk (l : List ByteArray) (k : Int) (h0 : 0 ≤ k) (hk : k ≤ 4611686018427387904) (hll : l.length ≤ 4194304) : MK Tryz.prog 15 (strsO l) k (k + l.length) (.row 9 1 (((seqI k l.length).map mkT).map .c)) := by
  intro w u bs h hnd hlt
  have hl : (l.map fun z => Value.string z).length = l.length := List.length_map ..
  rcases row_block h with ⟨rfl, h1, rfl⟩ | ⟨g, cap, cur, rfl, rfl, hh, c1, c2, c3, ht⟩
  · obtain rfl : l = [] := by simpa using h1
    refine mark_enter (X := fun w' => OV.rel w' (.row 9 1 (((seqI k 0).map mkT).map .c)) (.slice none 0 0) []) Tryz.func15 rfl _ Tryz.ntmps15 (by simp) hlt ?_
    generalize hC0 : (⟨w, fun b => b ∉ ([] : List Nat), fun _ => False, _⟩ : Ctx) = C0
    have hn : C0.n = 20 := by rw [← hC0]
    have hm0 : ∀ b, ¬ C0.mu b := by rw [← hC0]; exact fun _ h => h
    repeat' (first
 | refine RunsL.step tabOk hn rfl ?_
 | refine RunsL.nil ?_
 | refine Runs.toRegion 30 rfl ?_
 | (refine Runs.ctls 30 rfl ?_; first | refine Runs.cond_f rfl ?_ | ((first | refine Runs.cond_yes rfl ?_ ?_ | refine Runs.cond_nno rfl ?_ ?_); · first | omega | rfl | assumption | (simp only [List.length_map]; omega)) | ((first | refine Runs.cond_no rfl ?_ ?_ | refine Runs.cond_nyes rfl ?_ ?_); · first | omega | rfl | assumption | (simp only [List.length_map]; omega)) | refine Runs.ret (ends_ro hm rfl rfl ?_) | exact Runs.ret (ends_cellR hm rfl rfl rfl (Nat.le_of_ble_eq_true rfl) rfl rfl))
 | (refine RunsL.pe hn rfl rfl rfl ?_; first
 | refine ⟨_, pu_add rfl rfl (by omega), ?_⟩
        ))
    refine Runs.ctls 30 rfl (Runs.keep [(0, .ro (.c (.slice none 0 0))), (1, .int k), (5, .int 0)] ⟨rfl, rfl, rfl, trivial⟩ ?_)
    refine Runs.loopV (fun n C S => C = C0 ∧ S = ⟨[(0, .ro (.c (.slice none 0 0))), (1, .int k), (5, .int 0)], []⟩) ?_ 0 C0 _ ⟨rfl, rfl⟩
    rintro n C S ⟨rfl, rfl⟩ ih
    repeat' (first
 | refine RunsL.step tabOk hn rfl ?_
 | refine RunsL.nil ?_
 | refine Runs.toRegion 30 rfl ?_
 | (refine RunsL.pe hn rfl rfl rfl ?_; first
 | refine ⟨_, pu_lenC rfl, ?_⟩)
 | (refine Runs.ctls 30 rfl ?_; first | refine Runs.cond_f rfl ?_ | ((first | refine Runs.cond_yes rfl ?_ ?_ | refine Runs.cond_nno rfl ?_ ?_); · first | omega | rfl | assumption | (simp only [List.length_map]; omega)) | ((first | refine Runs.cond_no rfl ?_ ?_ | refine Runs.cond_nyes rfl ?_ ?_); · first | omega | rfl | assumption | (simp only [List.length_map]; omega)) | refine Runs.ret (ends_ro hm rfl rfl ?_) | exact Runs.ret (ends_cellR hm rfl rfl rfl (Nat.le_of_ble_eq_true rfl) rfl rfl))
 | (refine RunsL.pe hn rfl rfl rfl ?_; first
 | refine ⟨_, pu_add rfl rfl (by omega), ?_⟩
        ))
    refine Runs.ctls 30 rfl (Runs.ret (endsM (Nx.refl _ _) hm0 rfl (by show look _ _ = _; simp [look]) fun φ w hG => ?_))
    simp only [seqI, OV.rel, List.range_zero, List.map_nil, OV.rels]
    exact ⟨0, [], [], rfl, by omega, ⟨rfl, rfl⟩, by simp, ⟨rfl, .inl ⟨rfl, rfl⟩⟩, rfl⟩
  · rw [hl] at c1 ht ⊢
    refine mark_enter (X := fun w' => OV.rel w' (.row 9 1 (((seqI k l.length).map mkT).map .c)) (.slice (some ⟨g, 0, none⟩) l.length cap) [g]) Tryz.func15 rfl _ Tryz.ntmps15 (by simp) hlt ?_
    generalize hC0 : (⟨w, fun b => b ∉ [g], fun _ => False, _⟩ : Ctx) = C0
    have hn : C0.n = 20 := by rw [← hC0]
    have hm0 : ∀ b, ¬ C0.mu b := by rw [← hC0]; exact fun _ h => h
    have hb0 : Bk C0 g cur 9 := by rw [← hC0]; exact ⟨hh, fun h => h, fun h => h (by simp)⟩
    repeat' (first
 | refine RunsL.step tabOk hn rfl ?_
 | refine RunsL.nil ?_
 | refine Runs.toRegion 30 rfl ?_
 | (refine Runs.ctls 30 rfl ?_; first | refine Runs.cond_f rfl ?_ | ((first | refine Runs.cond_yes rfl ?_ ?_ | refine Runs.cond_nno rfl ?_ ?_); · first | omega | rfl | assumption | (simp only [List.length_map]; omega)) | ((first | refine Runs.cond_no rfl ?_ ?_ | refine Runs.cond_nyes rfl ?_ ?_); · first | omega | rfl | assumption | (simp only [List.length_map]; omega)) | refine Runs.ret (ends_ro hm rfl rfl ?_) | exact Runs.ret (ends_cellR hm rfl rfl rfl (Nat.le_of_ble_eq_true rfl) rfl rfl))
 | (refine RunsL.pe hn rfl rfl rfl ?_; first
 | refine ⟨_, pu_add rfl rfl (by omega), ?_⟩
        ))
    refine Runs.ctls 30 rfl (Runs.keep [(0, .ro (.c (.slice (some ⟨g, 0, none⟩) l.length cap))), (1, .int k), (5, .int 0)] ⟨rfl, rfl, rfl, trivial⟩ ?_)
    refine Runs.loopV (fun n C S => ∃ (j : Nat) (cu : Array Value), j + n = l.length ∧ C.n = 20 ∧ Nx C0 C [g] ∧ Bk C g cu 9 ∧ cu.size = cap ∧ cu.toList.take l.length = (seqI k j).map (mkT) ++ (l.map fun z => Value.string z).drop j ∧ S = ⟨[(0, .ro (.c (.slice (some ⟨g, 0, none⟩) l.length cap))), (1, .int (k + j)), (5, .int (j : Int))], []⟩) ?_ l.length C0 _ ⟨0, cur, by omega, hn, Nx.refl _ _, hb0, c3, by rw [ht]; rfl, by rw [show k + ((0 : Nat) : Int) = k by omega]; rfl⟩
    rintro n C S ⟨j, cu, hj, hn, hnx, hb, hcu, htk, rfl⟩ ih
    by_cases hlt' : j < l.length
    · repeat' (first
 | (refine op_storeC rfl rfl rfl hb (by simp; omega) fun C' nx hb' => ?_; have hn := nx.n.trans hn)
 | refine RunsL.step tabOk hn rfl ?_
 | refine RunsL.nil ?_
 | refine Runs.toRegion 30 rfl ?_
 | (refine RunsL.pe hn rfl rfl rfl ?_; first
 | refine ⟨_, pu_callR (markText_ac (k + (j : Int)) (by omega) (by omega)) rfl, ?_⟩
 | refine ⟨_, pu_lenC rfl, ?_⟩
 | refine ⟨_, pu_indexC rfl rfl (by omega) (by omega), ?_⟩)
 | (refine Runs.ctls 30 rfl ?_; first | refine Runs.cond_f rfl ?_ | ((first | refine Runs.cond_yes rfl ?_ ?_ | refine Runs.cond_nno rfl ?_ ?_); · first | omega | rfl | assumption | (simp only [List.length_map]; omega)) | ((first | refine Runs.cond_no rfl ?_ ?_ | refine Runs.cond_nyes rfl ?_ ?_); · first | omega | rfl | assumption | (simp only [List.length_map]; omega)) | refine Runs.ret (ends_ro hm rfl rfl ?_) | exact Runs.ret (ends_cellR hm rfl rfl rfl (Nat.le_of_ble_eq_true rfl) rfl rfl))
 | (refine RunsL.pe hn rfl rfl rfl ?_; first
 | refine ⟨_, pu_add rfl rfl (by omega), ?_⟩
        ))
      have e : ((j : Int).toNat * 1) = j := by omega
      rw [e] at hb'
      have hmn := mark_next (f := mkT) (k := k) (vs := l.map fun z => Value.string z) (cur := cu) (by omega) hl hlt' htk
      refine Runs.ctls 30 rfl (Runs.keep [(0, .ro (.c (.slice (some ⟨g, 0, none⟩) l.length cap))), (1, .int (k + ((j + 1 : Nat) : Int))), (5, .int ((j + 1 : Nat) : Int))] ⟨rfl, by simp only [look]; exact av_int (by omega), by simp only [look]; exact av_int (by omega), trivial⟩ (ih (n - 1) (by omega) _ _ ⟨j + 1, _, by omega, hn, (hnx.trans nx).sub (by simp), hb', by simpa using hcu, hmn, rfl⟩))
    · obtain rfl : j = l.length := by omega
      repeat' (first
 | refine RunsL.step tabOk hn rfl ?_
 | refine RunsL.nil ?_
 | refine Runs.toRegion 30 rfl ?_
 | (refine RunsL.pe hn rfl rfl rfl ?_; first
 | refine ⟨_, pu_lenC rfl, ?_⟩)
 | (refine Runs.ctls 30 rfl ?_; first | refine Runs.cond_f rfl ?_ | ((first | refine Runs.cond_yes rfl ?_ ?_ | refine Runs.cond_nno rfl ?_ ?_); · first | omega | rfl | assumption | (simp only [List.length_map]; omega)) | ((first | refine Runs.cond_no rfl ?_ ?_ | refine Runs.cond_nyes rfl ?_ ?_); · first | omega | rfl | assumption | (simp only [List.length_map]; omega)) | refine Runs.ret (ends_ro hm rfl rfl ?_) | exact Runs.ret (ends_cellR hm rfl rfl rfl (Nat.le_of_ble_eq_true rfl) rfl rfl))
 | (refine RunsL.pe hn rfl rfl rfl ?_; first
 | refine ⟨_, pu_add rfl rfl (by omega), ?_⟩
          ))
      refine Runs.ctls 30 rfl (Runs.ret (endsM hnx hm0 rfl rfl fun φ w hG => ?_))
      have hvl : ((seqI k l.length).map (mkT)).length = l.length := by rw [List.length_map, seqI_len]
      have hbr := block_row (vs := (seqI k l.length).map (mkT)) (hb.now hG) (by rw [hvl]; exact c1) c2 hcu (by rw [hvl, htk, List.drop_of_length_le (by rw [hl]; exact Nat.le_refl _), List.append_nil]) (fun x hx => by obtain ⟨z, _, rfl⟩ := List.mem_map.1 hx; rfl)
      rw [hvl] at hbr
      exact hbr
end Go.Proofs.YtkmoffefhlmgeaaGreatDoor
/- Marks: calls that write into values of the frame's. Over any program. -/
namespace Go.Proofs.YtkmoffefhlmgeaaGreatDoor
set_option linter.unusedSimpArgs false
set_option linter.unusedVariables false
set_option linter.unusedSectionVars false
set_option maxRecDepth 100000
open Go.RowKit
open AV (Mem Keeps)
section
variable {P : Program} {C : Ctx} {ops : Array Oper} {rest : List Oper} {k : List Item} {R : Act → World → Prop} {env : Env} {σ : List Ob} {t : Nat} {ty : TypeId} {pos : String} {after : Array Edge}
theorem op_callG {f : FuncId} {fn : Func} {xs : Array Operand} {ats : Array TypeId} {i i' : Int} {u : Value} {bs : List Nat} {ov : OV} [hfn : FN P f fn] (hf : MX P f ov i i') (gh : Gh C ov u bs) (nd : bs.Nodup)
    (hx : xs.toList.map (ev env) = [.ro (constRV u), .int i]) (ht : t < C.n) (hk : ∀ C', Nx C C' bs → RunsL P C' ops rest k R ⟨(t, .int i') :: env, σ⟩) :
    RunsL P C ops (⟨some t, .call { callee := .value (.func f), args := xs, argTypes := ats }, ty, pos, after, none⟩ :: rest) k R ⟨env, σ⟩ :=
  op_callX (X := fun _ => True) (fun w h1 h2 => (hf w u bs (OV.rel_keep ov u bs gh.rel h1) nd h2).mono fun _ _ h => ⟨h.1, trivial, h.2⟩) hx gh.fix ht fun C' nx _ _ => hk C' nx
theorem op_callK {f : FuncId} {fn : Func} {xs : Array Operand} {ats : Array TypeId} {i i' : Int} {u : Value} {bs : List Nat} {ov ov' : OV} [hfn : FN P f fn] (hf : MK P f ov i i' ov') (gh : Gh C ov u bs) (nd : bs.Nodup)
    (hx : xs.toList.map (ev env) = [.ro (constRV u), .int i]) (ht : t < C.n) (hk : ∀ C', Nx C C' bs → Gh C' ov' u bs → RunsL P C' ops rest k R ⟨(t, .int i') :: env, σ⟩) :
    RunsL P C ops (⟨some t, .call { callee := .value (.func f), args := xs, argTypes := ats }, ty, pos, after, none⟩ :: rest) k R ⟨env, σ⟩ :=
  op_callX (X := fun w => OV.rel w ov' u bs) (fun w h1 h2 => (hf w u bs (OV.rel_keep ov u bs gh.rel h1) nd h2)) hx gh.fix ht fun C' nx hX hfix => hk C' nx ⟨hX, fun b hb => ⟨Nat.lt_of_lt_of_le (gh.fix b hb).1 nx.size, hfix b hb⟩⟩
end
theorem rels_split {w : World} : ∀ (os os' : List OV) (us : List Value) (bs : List Nat), OV.rels w (os ++ os') us bs → ∃ u1 u2 b1 b2, us = u1 ++ u2 ∧ bs = b1 ++ b2 ∧ OV.rels w os u1 b1 ∧ OV.rels w os' u2 b2
  | [], os', us, bs, h => ⟨[], us, [], bs, rfl, rfl, by simp [OV.rels], h⟩
  | x :: xs, os', us, bs, h => by
    simp only [List.cons_append, OV.rels] at h
    obtain ⟨u, us', b, bs', rfl, rfl, h1, h2⟩ := h
    obtain ⟨u1, u2, b1, b2, rfl, rfl, k1, k2⟩ := rels_split xs os' us' bs' h2
    exact ⟨u :: u1, u2, b ++ b1, b2, rfl, by rw [List.append_assoc], by simp only [OV.rels]; exact ⟨u, u1, b, b1, rfl, rfl, h1, k1⟩, k2⟩
theorem rowN_block {w : World} {e : TypeId} {sz : Nat} {cs : List OV} {u : Value} {bs : List Nat} (h : OV.rel w (.row e sz cs) u bs) :
    (u = .slice none 0 0 ∧ cs = [] ∧ bs = []) ∨ ∃ g n cap cur xs bs', u = .slice (some ⟨g, 0, none⟩) n cap ∧ cs.length = n * sz ∧ bs = g :: bs' ∧ OV.rels w cs xs bs' ∧ (∀ x ∈ xs, x.oneCell' = true) ∧ w.heap[g]? = some (.cells cur e (0, 0)) ∧ n ≤ cap ∧ cap ≤ maxLen ∧ cur.size = cap * sz ∧ cur.toList.take (n * sz) = xs := by
  simp only [OV.rel] at h
  obtain ⟨n, xs, bs', h1, h2, h3, h4, h5, rfl⟩ := h
  rcases h5.2 with ⟨rfl, h0⟩ | ⟨g, cap, cur, rfl, _, hh, c1, c2, c3, ht⟩
  · subst h0
    have : cs = [] := List.eq_nil_of_length_eq_zero (by omega)
    subst this
    simp only [OV.rels] at h3
    exact .inl ⟨rfl, rfl, by simp [Value.ownBlock, h3.2]⟩
  · exact .inr ⟨g, n, cap, cur, xs, bs', rfl, h1, rfl, h3, h4, hh, c1, c2, c3, ht⟩
theorem block_rowN {w : World} {e : TypeId} {sz n g cap : Nat} {cs : List OV} {xs : List Value} {bs' : List Nat} {cur : Array Value} (hs : 0 < sz) (hl : cs.length = n * sz) (hr : OV.rels w cs xs bs') (h1 : ∀ x ∈ xs, x.oneCell' = true) (hh : w.heap[g]? = some (.cells cur e (0, 0))) (c1 : n ≤ cap) (c2 : cap ≤ maxLen) (c3 : cur.size = cap * sz) (ht : cur.toList.take (n * sz) = xs) :
    OV.rel w (.row e sz cs) (.slice (some ⟨g, 0, none⟩) n cap) (g :: bs') := by
  simp only [OV.rel]
  exact ⟨n, xs, bs', hl, hs, hr, h1, ⟨by rw [OV.rels_len _ _ _ hr, hl], .inr ⟨g, cap, cur, rfl, Nat.zero_le _, hh, c1, c2, c3, ht⟩⟩, rfl⟩
theorem take_at {cur : Array Value} {m : Nat} {xs : List Value} (h : cur.toList.take m = xs) {i : Nat} {v : Value} (hv : xs[i]? = some v) : cur[i]? = some v := by
  rw [← h, List.getElem?_take] at hv
  split at hv
  · simpa using hv
  · cases hv
theorem Gh.aggs {C : Ctx} {os : List OV} {us : List Value} {bs : List Nat} (h : OV.rels C.w0 os us bs) (hf : ∀ b ∈ bs, b < C.w0.heap.size ∧ ¬ C.mu b ∧ ¬ C.ok b) : Gh C (.agg os) (.agg us.toArray) bs :=
  ⟨by simp only [OV.rel]; exact ⟨_, rfl, by simpa using h⟩, hf⟩
theorem Gh.rels {C : Ctx} {os : List OV} {us : List Value} {bs : List Nat} (h : Gh C (.agg os) (.agg us.toArray) bs) : OV.rels C.w0 os us bs := by
  have := h.rel
  simp only [OV.rel] at this
  obtain ⟨vs, e, h1⟩ := this
  injection e with e
  subst e
  simpa using h1
end Go.Proofs.YtkmoffefhlmgeaaGreatDoor
/- Marks on descriptions. -/
namespace Go.Proofs.YtkmoffefhlmgeaaGreatDoor
set_option linter.unusedSimpArgs false
set_option linter.unusedVariables false
set_option linter.unusedSectionVars false
set_option maxRecDepth 100000
open Go.RowKit
open AV (Mem Keeps)
def rcost (r : Rul) : Nat := 4 + r.bytes.length + r.names.length + r.tags.length + r.kids.length
theorem rul_open {w : World} {r : Rul} {us : List Value} {bs : List Nat} (h : OV.rels w (rulO r) us bs) : ∃ A4 n4 q4 A5 n5 q5 A6 n6 q6 A7 n7 q7 c4 c5 c6 c7, us = [.string r.name, .int .i64 r.kind, .int .i64 r.size, .bool r.little, .slice A4 n4 q4, .slice A5 n5 q5, .slice A6 n6 q6, .slice A7 n7 q7] ∧ bs = c4 ++ (c5 ++ (c6 ++ c7)) ∧
    OV.rel w (bytesO r.bytes) (.slice A4 n4 q4) c4 ∧ OV.rel w (strsO r.names) (.slice A5 n5 q5) c5 ∧ OV.rel w (intsO r.tags) (.slice A6 n6 q6) c6 ∧ OV.rel w (intsO r.kids) (.slice A7 n7 q7) c7 := by
  have hv := h
  obtain ⟨A4, n4, q4, A5, n5, q5, A6, n6, q6, A7, n7, q7, rfl⟩ := rul_vals hv
  simp only [rulO, OV.rels] at h
  obtain ⟨_, _, _, _, e0, f0, h0, h⟩ := h
  injection e0 with e0 e0'; subst e0; subst e0'
  obtain ⟨_, _, _, _, e1, f1, h1, h⟩ := h
  injection e1 with e1 e1'; subst e1; subst e1'
  obtain ⟨_, _, _, _, e2, f2, h2, h⟩ := h
  injection e2 with e2 e2'; subst e2; subst e2'
  obtain ⟨_, _, _, _, e3, f3, h3, h⟩ := h
  injection e3 with e3 e3'; subst e3; subst e3'
  obtain ⟨_, _, c4, _, e4, f4, h4, h⟩ := h
  injection e4 with e4 e4'; subst e4; subst e4'
  obtain ⟨_, _, c5, _, e5, f5, h5, h⟩ := h
  injection e5 with e5 e5'; subst e5; subst e5'
  obtain ⟨_, _, c6, _, e6, f6, h6, h⟩ := h
  injection e6 with e6 e6'; subst e6; subst e6'
  obtain ⟨_, _, c7, _, e7, f7, h7, h⟩ := h
  injection e7 with e7 e7'; subst e7; subst e7'
  simp only [OV.rel] at h0 h1 h2 h3
  refine ⟨A4, n4, q4, A5, n5, q5, A6, n6, q6, A7, n7, q7, c4, c5, c6, c7, rfl, ?_, h4, h5, h6, h7⟩
  rw [f0, h0.2, f1, h1.2, f2, h2.2, f3, h3.2, f4, f5, f6, f7, h.2]
  simp
theorem nodup5 {a b c d e : List Nat} (h : ((a ++ (b ++ (c ++ d))) ++ e).Nodup) : a.Nodup ∧ b.Nodup ∧ c.Nodup ∧ d.Nodup ∧ e.Nodup ∧ (∀ x ∈ b, x ∉ a) ∧ (∀ x ∈ c, x ∉ a) ∧ (∀ x ∈ d, x ∉ a) ∧ (∀ x ∈ e, x ∉ a) ∧ (∀ x ∈ c, x ∉ b) ∧ (∀ x ∈ d, x ∉ b) ∧ (∀ x ∈ e, x ∉ b) ∧ (∀ x ∈ d, x ∉ c) ∧ (∀ x ∈ e, x ∉ c) ∧ (∀ x ∈ e, x ∉ d) := by
  simp only [List.nodup_append, List.mem_append] at h
  grind
set_option maxHeartbeats 16000000 in
theorem markRuleS_mx (l : Des) (k : Int) (h0 : 0 ≤ k) (hk : k ≤ 1099511627776) (hl : dtotal l ≤ 1048576) : MX Tryz.prog 30 (rulsO l) k (k + ((l.map rcost).sum : Nat)) := by
  intro w u bs h hnd hlt
  have et : dtotal l = l.length + (l.map Rul.total).sum := rfl
  have hcost : ∀ x : Rul, rcost x ≤ 4 + x.total := fun x => by
    have : x.total = x.name.size + x.bytes.length + (x.names.length + (x.names.map ByteArray.size).sum) + x.tags.length + x.kids.length := rfl
    unfold rcost; omega
  have hsum : ∀ m : Des, (m.map rcost).sum ≤ 4 * m.length + (m.map Rul.total).sum := by
    intro m
    induction m with
    | nil => simp
    | cons x m ih => have := hcost x; simp only [List.map_cons, List.sum_cons, List.length_cons]; omega
  have hmax := hsum l
  rcases rowN_block h with ⟨rfl, h1, rfl⟩ | ⟨g, m, cap, cur, xs, bs', rfl, hlen, rfl, hov, hone, hh, c1, c2, c3, ht⟩
  · have hl0 : l = [] := by
      cases l with
      | nil => rfl
      | cons x l => simp [rulO] at h1
    subst hl0
    have key := mark_enter (P := Tryz.prog) (k := k) (k' := k) (u := .slice none 0 0) (bs := []) (w := w) (X := fun _ => True) Tryz.func30 rfl _ Tryz.ntmps30 (by simp) hlt ?_
    · refine key.mono fun e w' h => ⟨by rw [h.1]; simp, h.2.2⟩
    · generalize hC0 : (⟨w, fun b => b ∉ ([] : List Nat), fun _ => False, _⟩ : Ctx) = C0
      have hn : C0.n = 72 := by rw [← hC0]
      have hm0 : ∀ b, ¬ C0.mu b := by rw [← hC0]; exact fun _ h => h
      repeat' (first
 | refine RunsL.step tabOk hn rfl ?_
 | refine RunsL.nil ?_
 | refine Runs.toRegion 30 rfl ?_
 | (refine Runs.ctls 30 rfl ?_; first | refine Runs.cond_f rfl ?_ | ((first | refine Runs.cond_yes rfl ?_ ?_ | refine Runs.cond_nno rfl ?_ ?_); · first | omega | rfl | assumption | (simp only [List.length_map]; omega)) | ((first | refine Runs.cond_no rfl ?_ ?_ | refine Runs.cond_nyes rfl ?_ ?_); · first | omega | rfl | assumption | (simp only [List.length_map]; omega)) | refine Runs.ret (ends_ro hm rfl rfl ?_) | exact Runs.ret (ends_cellR hm rfl rfl rfl (Nat.le_of_ble_eq_true rfl) rfl rfl))
 | (refine RunsL.pe hn rfl rfl rfl ?_; first
 | refine ⟨_, pu_add rfl rfl (by omega), ?_⟩
          ))
      refine Runs.ctls 30 rfl (Runs.keep [(0, .ro (.c (.slice none 0 0))), (1, .int k), (5, .int 0)] ⟨rfl, rfl, rfl, trivial⟩ ?_)
      refine Runs.loopV (fun n C S => C = C0 ∧ S = ⟨[(0, .ro (.c (.slice none 0 0))), (1, .int k), (5, .int 0)], []⟩) ?_ 0 C0 _ ⟨rfl, rfl⟩
      rintro n C S ⟨rfl, rfl⟩ ih
      repeat' (first
 | refine RunsL.step tabOk hn rfl ?_
 | refine RunsL.nil ?_
 | refine Runs.toRegion 30 rfl ?_
 | (refine RunsL.pe hn rfl rfl rfl ?_; first
 | refine ⟨_, pu_lenC rfl, ?_⟩)
 | (refine Runs.ctls 30 rfl ?_; first | refine Runs.cond_f rfl ?_ | ((first | refine Runs.cond_yes rfl ?_ ?_ | refine Runs.cond_nno rfl ?_ ?_); · first | omega | rfl | assumption | (simp only [List.length_map]; omega)) | ((first | refine Runs.cond_no rfl ?_ ?_ | refine Runs.cond_nyes rfl ?_ ?_); · first | omega | rfl | assumption | (simp only [List.length_map]; omega)) | refine Runs.ret (ends_ro hm rfl rfl ?_) | exact Runs.ret (ends_cellR hm rfl rfl rfl (Nat.le_of_ble_eq_true rfl) rfl rfl))
 | (refine RunsL.pe hn rfl rfl rfl ?_; first
 | refine ⟨_, pu_add rfl rfl (by omega), ?_⟩
          ))
      exact Runs.ctls 30 rfl (Runs.ret (endsM (Nx.refl _ _) hm0 rfl (by show look _ _ = _; simp [look]) fun φ w hG => trivial))
  · rw [rulO_len] at hlen
    have hm : m = l.length := by omega
    subst hm
    have key := mark_enter (P := Tryz.prog) (k := k) (k' := k + ((l.map rcost).sum : Nat)) (u := .slice (some ⟨g, 0, none⟩) l.length cap) (bs := g :: bs') (w := w) (X := fun _ => True) Tryz.func30 rfl _ Tryz.ntmps30 (by simp) hlt ?_
    · exact key.mono fun e w' h => ⟨h.1, h.2.2⟩
    generalize hC0 : (⟨w, fun b => b ∉ g :: bs', fun _ => False, _⟩ : Ctx) = C0
    have hn : C0.n = 72 := by rw [← hC0]
    have hw0 : C0.w0 = w := by rw [← hC0]
    have hm0 : ∀ b, ¬ C0.mu b := by rw [← hC0]; exact fun _ h => h
    have hb0 : Bk C0 g cur 54 := by rw [← hC0]; exact ⟨hh, fun h => h, fun h => h (by simp)⟩
    have hf0 : ∀ b ∈ bs', b < C0.w0.heap.size ∧ ¬ C0.mu b ∧ ¬ C0.ok b := fun b hb => by
      rw [← hC0]; exact ⟨hlt b (by simp [hb]), fun h => h, fun h => h (by simp [hb])⟩
    rw [List.nodup_cons] at hnd
    repeat' (first
 | refine RunsL.step tabOk hn rfl ?_
 | refine RunsL.nil ?_
 | refine Runs.toRegion 30 rfl ?_
 | (refine Runs.ctls 30 rfl ?_; first | refine Runs.cond_f rfl ?_ | ((first | refine Runs.cond_yes rfl ?_ ?_ | refine Runs.cond_nno rfl ?_ ?_); · first | omega | rfl | assumption | (simp only [List.length_map]; omega)) | ((first | refine Runs.cond_no rfl ?_ ?_ | refine Runs.cond_nyes rfl ?_ ?_); · first | omega | rfl | assumption | (simp only [List.length_map]; omega)) | refine Runs.ret (ends_ro hm rfl rfl ?_) | exact Runs.ret (ends_cellR hm rfl rfl rfl (Nat.le_of_ble_eq_true rfl) rfl rfl))
 | (refine RunsL.pe hn rfl rfl rfl ?_; first
 | refine ⟨_, pu_add rfl rfl (by omega), ?_⟩
        ))
    refine Runs.ctls 30 rfl (Runs.keep [(0, .ro (.c (.slice (some ⟨g, 0, none⟩) l.length cap))), (1, .int k), (5, .int 0)] ⟨rfl, rfl, rfl, trivial⟩ ?_)
    refine Runs.loopV (fun n C S => ∃ (j : Nat) (cu : Array Value) (ur : List Value) (br : List Nat), j + n = l.length ∧ C.n = 72 ∧ Nx C0 C (g :: bs') ∧ Bk C g cu 54 ∧ cu.size = cap * 8 ∧ Gh C (.agg ((l.drop j).flatMap rulO)) (.agg ur.toArray) br ∧ (∀ (i : Nat) v, ur[i]? = some v → cu[j * 8 + i]? = some v) ∧ br.Nodup ∧ (∀ b ∈ br, b ∈ bs') ∧
      S = ⟨[(0, .ro (.c (.slice (some ⟨g, 0, none⟩) l.length cap))), (1, .int (k + (((l.take j).map rcost).sum : Nat))), (5, .int (j : Int))], []⟩) ?_ l.length C0 _ ⟨0, cur, xs, bs', by omega, hn, Nx.refl _ _, hb0, c3, Gh.aggs (by rw [List.drop_zero, hw0]; exact hov) hf0, fun i v hv => by rw [Nat.zero_mul, Nat.zero_add]; exact take_at ht hv, hnd.2, fun b hb => hb, by simp⟩
    rintro n C S ⟨j, cu, ur, br, hj, hn, hnx, hb, hcu, hgh, hat, hbn, hsub, rfl⟩ ih
    by_cases hlt' : j < l.length
    · obtain ⟨x, hx⟩ : ∃ x, l[j]? = some x := ⟨_, List.getElem?_eq_getElem hlt'⟩
      have hm' := List.mem_of_getElem? hx
      have hxt := sum_mem_le Rul.total hm'
      have hxc := hcost x
      have etx : x.total = x.name.size + x.bytes.length + (x.names.length + (x.names.map ByteArray.size).sum) + x.tags.length + x.kids.length := rfl
      have hst := sum_take_next rcost hx
      have hsl := sum_take_le rcost l (j + 1)
      have hcx : rcost x = 4 + x.bytes.length + x.names.length + x.tags.length + x.kids.length := rfl
      have e : l.drop j = x :: l.drop (j + 1) := by
        rw [List.drop_eq_getElem_cons hlt']
        rw [List.getElem?_eq_getElem hlt'] at hx
        injection hx with hx
        rw [hx]
      rw [e, List.flatMap_cons] at hgh
      obtain ⟨u1, u2, b1, b2, rfl, rfl, hr1, hr2⟩ := rels_split _ _ _ _ hgh.rels
      obtain ⟨A4, n4, q4, A5, n5, q5, A6, n6, q6, A7, n7, q7, d4, d5, d6, d7, rfl, rfl, g4, g5, g6, g7⟩ := rul_open hr1
      obtain ⟨N4, N5, N6, N7, N8, D54, D64, D74, D84, D65, D75, D85, D76, D86, D87⟩ := nodup5 hbn
      have hgb : ∀ b ∈ (d4 ++ (d5 ++ (d6 ++ d7))) ++ b2, b ≠ g := fun b hm e => hnd.1 (e ▸ hsub b hm)
      have G4 : Gh C _ _ d4 := ⟨g4, fun b hb => hgh.fix b (by simp [hb])⟩
      have G5 : Gh C _ _ d5 := ⟨g5, fun b hb => hgh.fix b (by simp [hb])⟩
      have G6 : Gh C _ _ d6 := ⟨g6, fun b hb => hgh.fix b (by simp [hb])⟩
      have G7 : Gh C _ _ d7 := ⟨g7, fun b hb => hgh.fix b (by simp [hb])⟩
      have G8 := Gh.aggs (C := C) hr2 fun b hb => hgh.fix b (by simp [hb])
      have hv4 : cu[j * 8 + 4]? = some (.slice A4 n4 q4) := hat 4 _ (by simp)
      have hv5 : cu[j * 8 + 5]? = some (.slice A5 n5 q5) := hat 5 _ (by simp)
      have hv6 : cu[j * 8 + 6]? = some (.slice A6 n6 q6) := hat 6 _ (by simp)
      have hv7 : cu[j * 8 + 7]? = some (.slice A7 n7 q7) := hat 7 _ (by simp)
      have hat8 : ∀ (i : Nat) v, u2[i]? = some v → cu[(j + 1) * 8 + i]? = some v := fun i v hv => by
        have := hat (8 + i) v (by rw [List.getElem?_append_right (by simp)]; simpa using hv)
        rwa [show j * 8 + (8 + i) = (j + 1) * 8 + i by omega] at this
      repeat' (first
 | refine RunsL.step tabOk hn rfl ?_
 | refine RunsL.nil ?_
 | refine Runs.toRegion 30 rfl ?_
 | (refine RunsL.pe hn rfl rfl rfl ?_; first
 | refine ⟨_, pu_callR (markText_ac _ (by omega) (by omega)) rfl, ?_⟩
 | refine ⟨_, pu_lenC rfl, ?_⟩
 | refine ⟨_, pu_indexC rfl rfl (by omega) (by omega), ?_⟩
 | refine ⟨_, pu_fieldC rfl, ?_⟩)
 | (refine Runs.ctls 30 rfl ?_; first | refine Runs.cond_f rfl ?_ | ((first | refine Runs.cond_yes rfl ?_ ?_ | refine Runs.cond_nno rfl ?_ ?_); · first | omega | rfl | assumption | (simp only [List.length_map]; omega)) | ((first | refine Runs.cond_no rfl ?_ ?_ | refine Runs.cond_nyes rfl ?_ ?_); · first | omega | rfl | assumption | (simp only [List.length_map]; omega)) | refine Runs.ret (ends_ro hm rfl rfl ?_) | exact Runs.ret (ends_cellR hm rfl rfl rfl (Nat.le_of_ble_eq_true rfl) rfl rfl))
 | (refine RunsL.pe hn rfl rfl rfl ?_; first
 | refine ⟨_, pu_add rfl rfl (by omega), ?_⟩
          ))
      refine op_storeC rfl rfl rfl hb (by simp only [Int.toNat_natCast]; omega) fun C1 x1 hb1 => ?_
      have hn := x1.n.trans hn
      repeat' (first
 | refine RunsL.step tabOk hn rfl ?_
 | refine RunsL.nil ?_
 | refine Runs.toRegion 30 rfl ?_
 | (refine RunsL.pe hn rfl rfl rfl ?_; first
 | refine ⟨_, pu_lenC rfl, ?_⟩
 | refine ⟨_, pu_indexC rfl rfl (by omega) (by omega), ?_⟩
 | refine ⟨_, pu_fieldC rfl, ?_⟩)
 | (refine Runs.ctls 30 rfl ?_; first | refine Runs.cond_f rfl ?_ | ((first | refine Runs.cond_yes rfl ?_ ?_ | refine Runs.cond_nno rfl ?_ ?_); · first | omega | rfl | assumption | (simp only [List.length_map]; omega)) | ((first | refine Runs.cond_no rfl ?_ ?_ | refine Runs.cond_nyes rfl ?_ ?_); · first | omega | rfl | assumption | (simp only [List.length_map]; omega)) | refine Runs.ret (ends_ro hm rfl rfl ?_) | exact Runs.ret (ends_cellR hm rfl rfl rfl (Nat.le_of_ble_eq_true rfl) rfl rfl))
 | (refine RunsL.pe hn rfl rfl rfl ?_; first
 | refine ⟨_, pu_add rfl rfl (by omega), ?_⟩
          ))
      refine op_storeC rfl rfl rfl hb1 (by simp only [Int.toNat_natCast, Array.size_setIfInBounds]; omega) fun C2 x2 hb2 => ?_
      have hn := x2.n.trans hn
      repeat' (first
 | refine RunsL.step tabOk hn rfl ?_
 | refine RunsL.nil ?_
 | refine Runs.toRegion 30 rfl ?_
 | (refine RunsL.pe hn rfl rfl rfl ?_; first
 | refine ⟨_, pu_lenC rfl, ?_⟩
 | refine ⟨_, pu_indexC rfl rfl (by omega) (by omega), ?_⟩
 | refine ⟨_, pu_fieldC rfl, ?_⟩)
 | (refine Runs.ctls 30 rfl ?_; first | refine Runs.cond_f rfl ?_ | ((first | refine Runs.cond_yes rfl ?_ ?_ | refine Runs.cond_nno rfl ?_ ?_); · first | omega | rfl | assumption | (simp only [List.length_map]; omega)) | ((first | refine Runs.cond_no rfl ?_ ?_ | refine Runs.cond_nyes rfl ?_ ?_); · first | omega | rfl | assumption | (simp only [List.length_map]; omega)) | refine Runs.ret (ends_ro hm rfl rfl ?_) | exact Runs.ret (ends_cellR hm rfl rfl rfl (Nat.le_of_ble_eq_true rfl) rfl rfl))
 | (refine RunsL.pe hn rfl rfl rfl ?_; first
 | refine ⟨_, pu_add rfl rfl (by omega), ?_⟩
          ))
      refine op_storeC rfl rfl rfl hb2 (by simp only [Int.toNat_natCast, Array.size_setIfInBounds]; omega) fun C3 x3 hb3 => ?_
      have hn := x3.n.trans hn
      repeat' (first
 | refine RunsL.step tabOk hn rfl ?_
 | refine RunsL.nil ?_
 | refine Runs.toRegion 30 rfl ?_
 | (refine RunsL.pe hn rfl rfl rfl ?_; first
 | refine ⟨_, pu_rem rfl rfl (by omega), ?_⟩
 | refine ⟨_, pu_lenC rfl, ?_⟩
 | refine ⟨_, pu_indexC rfl rfl (by omega) (by omega), ?_⟩
 | refine ⟨_, pu_fieldC rfl, ?_⟩)
 | (refine Runs.ctls 30 rfl ?_; first | refine Runs.cond_f rfl ?_ | ((first | refine Runs.cond_yes rfl ?_ ?_ | refine Runs.cond_nno rfl ?_ ?_); · first | omega | rfl | assumption | (simp only [List.length_map]; omega)) | ((first | refine Runs.cond_no rfl ?_ ?_ | refine Runs.cond_nyes rfl ?_ ?_); · first | omega | rfl | assumption | (simp only [List.length_map]; omega)) | refine Runs.ret (ends_ro hm rfl rfl ?_) | exact Runs.ret (ends_cellR hm rfl rfl rfl (Nat.le_of_ble_eq_true rfl) rfl rfl))
 | (refine RunsL.pe hn rfl rfl rfl ?_; first
 | refine ⟨_, pu_add rfl rfl (by omega), ?_⟩
          ))
      refine op_storeC rfl rfl rfl hb3 (by simp only [Int.toNat_natCast, Array.size_setIfInBounds]; omega) fun C4 x4 hb4 => ?_
      have hn := x4.n.trans hn
      simp only [Int.toNat_natCast] at hb4
      generalize hcu' : (((cu.setIfInBounds _ _).setIfInBounds _ _).setIfInBounds _ _).setIfInBounds _ _ = cu' at hb4
      have hsz' : cu'.size = cap * 8 := by rw [← hcu']; simpa using hcu
      have hkeep : ∀ i, j * 8 + 4 ≤ i → cu'[i]? = cu[i]? := fun i hi => by
        rw [← hcu', Array.getElem?_setIfInBounds_ne (by omega), Array.getElem?_setIfInBounds_ne (by omega), Array.getElem?_setIfInBounds_ne (by omega), Array.getElem?_setIfInBounds_ne (by omega)]
      have y : Nx C C4 [g] := (((x1.trans x2).trans x3).trans x4).sub (by simp)
      have G4 := G4.next y fun b hb => by simpa using hgb b (by simp [hb])
      have G5 := G5.next y fun b hb => by simpa using hgb b (by simp [hb])
      have G6 := G6.next y fun b hb => by simpa using hgb b (by simp [hb])
      have G7 := G7.next y fun b hb => by simpa using hgb b (by simp [hb])
      have G8 := G8.next y fun b hb => by simpa using hgb b (by simp [hb])
      repeat' (first
 | refine RunsL.step tabOk hn rfl ?_
 | refine RunsL.nil ?_
 | refine Runs.toRegion 30 rfl ?_
 | (refine RunsL.pe hn rfl rfl rfl ?_; first
 | refine ⟨_, pu_indexC rfl rfl (by omega) (by omega), ?_⟩
 | refine ⟨_, pu_fieldC rfl, ?_⟩
 | refine ⟨_, pu_loadC rfl hb4 (by simp only [Int.toNat_natCast]; rw [hkeep _ (by omega)]; exact hv4), ?_⟩)
 | (refine Runs.ctls 30 rfl ?_; first | refine Runs.cond_f rfl ?_ | ((first | refine Runs.cond_yes rfl ?_ ?_ | refine Runs.cond_nno rfl ?_ ?_); · first | omega | rfl | assumption | (simp only [List.length_map]; omega)) | ((first | refine Runs.cond_no rfl ?_ ?_ | refine Runs.cond_nyes rfl ?_ ?_); · first | omega | rfl | assumption | (simp only [List.length_map]; omega)) | refine Runs.ret (ends_ro hm rfl rfl ?_) | exact Runs.ret (ends_cellR hm rfl rfl rfl (Nat.le_of_ble_eq_true rfl) rfl rfl))
 | (refine RunsL.pe hn rfl rfl rfl ?_; first
 | refine ⟨_, pu_add rfl rfl (by omega), ?_⟩
          ))
      refine op_callG (markByteS_mk x.bytes _ (by omega) (by omega) (by omega)).mx G4 N4 rfl (tl hn rfl) fun C5 x5 => ?_
      have hn := x5.n.trans hn
      have hb5 := hb4.next x5 fun h => hgb g (by simp [h]) rfl
      have G5 := G5.next x5 D54
      have G6 := G6.next x5 D64
      have G7 := G7.next x5 D74
      have G8 := G8.next x5 D84
      repeat' (first
 | refine RunsL.step tabOk hn rfl ?_
 | refine RunsL.nil ?_
 | refine Runs.toRegion 30 rfl ?_
 | (refine RunsL.pe hn rfl rfl rfl ?_; first
 | refine ⟨_, pu_indexC rfl rfl (by omega) (by omega), ?_⟩
 | refine ⟨_, pu_fieldC rfl, ?_⟩
 | refine ⟨_, pu_loadC rfl hb5 (by simp only [Int.toNat_natCast]; rw [hkeep _ (by omega)]; exact hv5), ?_⟩)
 | (refine Runs.ctls 30 rfl ?_; first | refine Runs.cond_f rfl ?_ | ((first | refine Runs.cond_yes rfl ?_ ?_ | refine Runs.cond_nno rfl ?_ ?_); · first | omega | rfl | assumption | (simp only [List.length_map]; omega)) | ((first | refine Runs.cond_no rfl ?_ ?_ | refine Runs.cond_nyes rfl ?_ ?_); · first | omega | rfl | assumption | (simp only [List.length_map]; omega)) | refine Runs.ret (ends_ro hm rfl rfl ?_) | exact Runs.ret (ends_cellR hm rfl rfl rfl (Nat.le_of_ble_eq_true rfl) rfl rfl))
 | (refine RunsL.pe hn rfl rfl rfl ?_; first
 | refine ⟨_, pu_add rfl rfl (by omega), ?_⟩
          ))
      refine op_callG (markStringS_mk x.names _ (by omega) (by omega) (by omega)).mx G5 N5 rfl (tl hn rfl) fun C6 x6 => ?_
      have hn := x6.n.trans hn
      have hb6 := hb5.next x6 fun h => hgb g (by simp [h]) rfl
      have G6 := G6.next x6 D65
      have G7 := G7.next x6 D75
      have G8 := G8.next x6 D85
      repeat' (first
 | refine RunsL.step tabOk hn rfl ?_
 | refine RunsL.nil ?_
 | refine Runs.toRegion 30 rfl ?_
 | (refine RunsL.pe hn rfl rfl rfl ?_; first
 | refine ⟨_, pu_indexC rfl rfl (by omega) (by omega), ?_⟩
 | refine ⟨_, pu_fieldC rfl, ?_⟩
 | refine ⟨_, pu_loadC rfl hb6 (by simp only [Int.toNat_natCast]; rw [hkeep _ (by omega)]; exact hv6), ?_⟩)
 | (refine Runs.ctls 30 rfl ?_; first | refine Runs.cond_f rfl ?_ | ((first | refine Runs.cond_yes rfl ?_ ?_ | refine Runs.cond_nno rfl ?_ ?_); · first | omega | rfl | assumption | (simp only [List.length_map]; omega)) | ((first | refine Runs.cond_no rfl ?_ ?_ | refine Runs.cond_nyes rfl ?_ ?_); · first | omega | rfl | assumption | (simp only [List.length_map]; omega)) | refine Runs.ret (ends_ro hm rfl rfl ?_) | exact Runs.ret (ends_cellR hm rfl rfl rfl (Nat.le_of_ble_eq_true rfl) rfl rfl))
 | (refine RunsL.pe hn rfl rfl rfl ?_; first
 | refine ⟨_, pu_add rfl rfl (by omega), ?_⟩
          ))
      refine op_callG (markIntS_mk x.tags _ (by omega) (by omega) (by omega)).mx G6 N6 rfl (tl hn rfl) fun C7 x7 => ?_
      have hn := x7.n.trans hn
      have hb7 := hb6.next x7 fun h => hgb g (by simp [h]) rfl
      have G7 := G7.next x7 D76
      have G8 := G8.next x7 D86
      repeat' (first
 | refine RunsL.step tabOk hn rfl ?_
 | refine RunsL.nil ?_
 | refine Runs.toRegion 30 rfl ?_
 | (refine RunsL.pe hn rfl rfl rfl ?_; first
 | refine ⟨_, pu_indexC rfl rfl (by omega) (by omega), ?_⟩
 | refine ⟨_, pu_fieldC rfl, ?_⟩
 | refine ⟨_, pu_loadC rfl hb7 (by simp only [Int.toNat_natCast]; rw [hkeep _ (by omega)]; exact hv7), ?_⟩)
 | (refine Runs.ctls 30 rfl ?_; first | refine Runs.cond_f rfl ?_ | ((first | refine Runs.cond_yes rfl ?_ ?_ | refine Runs.cond_nno rfl ?_ ?_); · first | omega | rfl | assumption | (simp only [List.length_map]; omega)) | ((first | refine Runs.cond_no rfl ?_ ?_ | refine Runs.cond_nyes rfl ?_ ?_); · first | omega | rfl | assumption | (simp only [List.length_map]; omega)) | refine Runs.ret (ends_ro hm rfl rfl ?_) | exact Runs.ret (ends_cellR hm rfl rfl rfl (Nat.le_of_ble_eq_true rfl) rfl rfl))
 | (refine RunsL.pe hn rfl rfl rfl ?_; first
 | refine ⟨_, pu_add rfl rfl (by omega), ?_⟩
          ))
      refine op_callG (markIntS_mk x.kids _ (by omega) (by omega) (by omega)).mx G7 N7 rfl (tl hn rfl) fun C8 x8 => ?_
      have hn := x8.n.trans hn
      have hb8 := hb7.next x8 fun h => hgb g (by simp [h]) rfl
      have G8 := G8.next x8 D87
      repeat' (first
 | refine RunsL.step tabOk hn rfl ?_
 | refine RunsL.nil ?_
 | refine Runs.toRegion 30 rfl ?_
 | (refine Runs.ctls 30 rfl ?_; first | refine Runs.cond_f rfl ?_ | ((first | refine Runs.cond_yes rfl ?_ ?_ | refine Runs.cond_nno rfl ?_ ?_); · first | omega | rfl | assumption | (simp only [List.length_map]; omega)) | ((first | refine Runs.cond_no rfl ?_ ?_ | refine Runs.cond_nyes rfl ?_ ?_); · first | omega | rfl | assumption | (simp only [List.length_map]; omega)) | refine Runs.ret (ends_ro hm rfl rfl ?_) | exact Runs.ret (ends_cellR hm rfl rfl rfl (Nat.le_of_ble_eq_true rfl) rfl rfl))
 | (refine RunsL.pe hn rfl rfl rfl ?_; first
 | refine ⟨_, pu_add rfl rfl (by omega), ?_⟩
          ))
      refine Runs.ctls 30 rfl ?_
      refine Runs.keep [(0, .ro (.c (.slice (some ⟨g, 0, none⟩) l.length cap))), (1, .int (k + (((l.take (j + 1)).map rcost).sum : Nat))), (5, .int ((j + 1 : Nat) : Int))] ⟨rfl, ?_, rfl, trivial⟩ ?_
      · exact av_int (by rw [hst]; omega)
      refine ih (n - 1) (by omega) C8 _ ⟨j + 1, cu', u2, b2, by omega, hn, ?_, hb8, hsz', G8, fun i v hv => by rw [hkeep _ (by omega)]; exact hat8 i v hv, N8, fun b hb => hsub b (by simp [hb]), rfl⟩
      refine (hnx.trans ((((y.trans x5).trans x6).trans x7).trans x8)).sub fun b hb => ?_
      have hs := hsub b
      simp only [List.mem_append, List.mem_cons, List.not_mem_nil, or_false] at hb hs ⊢
      grind
    · obtain rfl : j = l.length := by omega
      repeat' (first
 | refine RunsL.step tabOk hn rfl ?_
 | refine RunsL.nil ?_
 | refine Runs.toRegion 30 rfl ?_
 | (refine RunsL.pe hn rfl rfl rfl ?_; first
 | refine ⟨_, pu_lenC rfl, ?_⟩)
 | (refine Runs.ctls 30 rfl ?_; first | refine Runs.cond_f rfl ?_ | ((first | refine Runs.cond_yes rfl ?_ ?_ | refine Runs.cond_nno rfl ?_ ?_); · first | omega | rfl | assumption | (simp only [List.length_map]; omega)) | ((first | refine Runs.cond_no rfl ?_ ?_ | refine Runs.cond_nyes rfl ?_ ?_); · first | omega | rfl | assumption | (simp only [List.length_map]; omega)) | refine Runs.ret (ends_ro hm rfl rfl ?_) | exact Runs.ret (ends_cellR hm rfl rfl rfl (Nat.le_of_ble_eq_true rfl) rfl rfl))
 | (refine RunsL.pe hn rfl rfl rfl ?_; first
 | refine ⟨_, pu_add rfl rfl (by omega), ?_⟩
          ))
      exact Runs.ctls 30 rfl (Runs.ret (endsM hnx hm0 rfl (by show AV.int _ = _; rw [List.take_length]) fun φ w hG => trivial))
theorem markDescription_mx (l : Des) (k : Int) (h0 : 0 ≤ k) (hk : k ≤ 1099511627776) (hl : dtotal l ≤ 1048576) : MX Tryz.prog 13 (desO l) k (k + ((l.map rcost).sum : Nat)) := by
  intro w u bs h hnd hlt
  have hr := markRuleS_mx l k h0 hk hl
  simp only [desO, OV.rel, OV.rels] at h
  obtain ⟨us, rfl, v, _, b1, _, e1, rfl, h1, rfl, rfl⟩ := h
  obtain ⟨us⟩ := us
  simp only at e1
  subst e1
  rw [List.append_nil] at hlt hnd ⊢
  have h1' : OV.rel w (rulsO l) v b1 := h1
  obtain ⟨A, n, c, rfl⟩ := row_slice h1'
  have key := mark_enter (P := Tryz.prog) (k := k) (k' := k + ((l.map rcost).sum : Nat)) (u := .agg #[.slice A n c]) (bs := b1) (w := w) (X := fun _ => True) Tryz.func13 rfl _ Tryz.ntmps13 (by simp) hlt ?_
  · exact key.mono fun e w' h => ⟨h.1, h.2.2⟩
  generalize hC0 : (⟨w, fun b => b ∉ b1, fun _ => False, _⟩ : Ctx) = C0
  have hn : C0.n = 10 := by rw [← hC0]
  have hm0 : ∀ b, ¬ C0.mu b := by rw [← hC0]; exact fun _ h => h
  have G : Gh C0 (rulsO l) (.slice A n c) b1 := by
    rw [← hC0]; exact ⟨h1', fun b hb => ⟨hlt b hb, fun h => h, fun h => h hb⟩⟩
  repeat' (first
 | refine RunsL.step tabOk hn rfl ?_
 | refine RunsL.nil ?_
 | refine Runs.toRegion 30 rfl ?_
 | (refine Runs.ctls 30 rfl ?_; first | ((first | refine Runs.cond_yes rfl ?_ ?_ | refine Runs.cond_nno rfl ?_ ?_); · first | omega | rfl | assumption | (simp only [List.length_map]; omega)) | ((first | refine Runs.cond_no rfl ?_ ?_ | refine Runs.cond_nyes rfl ?_ ?_); · first | omega | rfl | assumption | (simp only [List.length_map]; omega)) | refine Runs.ret (ends_ro hm rfl rfl ?_) | exact Runs.ret (ends_cellR hm rfl rfl rfl (Nat.le_of_ble_eq_true rfl) rfl rfl))
 | refine op_box rfl (tl hn rfl) ?_
    )
  refine op_callG hr G hnd rfl (tl hn rfl) fun C1 x1 => ?_
  have hn := x1.n.trans hn
  repeat' (first
 | refine RunsL.step tabOk hn rfl ?_
 | refine RunsL.nil ?_
 | refine Runs.toRegion 30 rfl ?_
 | (refine Runs.ctls 30 rfl ?_; first | ((first | refine Runs.cond_yes rfl ?_ ?_ | refine Runs.cond_nno rfl ?_ ?_); · first | omega | rfl | assumption | (simp only [List.length_map]; omega)) | ((first | refine Runs.cond_no rfl ?_ ?_ | refine Runs.cond_nyes rfl ?_ ?_); · first | omega | rfl | assumption | (simp only [List.length_map]; omega)) | refine Runs.ret (ends_ro hm rfl rfl ?_) | exact Runs.ret (ends_cellR hm rfl rfl rfl (Nat.le_of_ble_eq_true rfl) rfl rfl))
 | refine op_box rfl (tl hn rfl) ?_
    )
  exact Runs.ctls 30 rfl (Runs.ret (endsM x1 hm0 rfl rfl fun φ w hG => trivial))
end Go.Proofs.YtkmoffefhlmgeaaGreatDoor
/- Marks: what the laws want. -/
namespace Go.Proofs.YtkmoffefhlmgeaaGreatDoor
set_option linter.unusedSimpArgs false
set_option linter.unusedVariables false
set_option linter.unusedSectionVars false
set_option maxRecDepth 100000
open Go.RowKit
open AV (Mem Keeps)
theorem ends_sc {P : Program} {C0 C : Ctx} {fn : Func} {R : RR → Prop} {S : St} {t : Nat} {v : Value} (hsc : Sc C0 C) (hr : fn.results = #[.tmp t]) (hx : look S.env t = .ro (.c v)) (hR : R (.ro (.c v))) : ∀ a w, Sim C S a w → Ends P C0 fn R a w := by
  rintro a w ⟨s1, s2, φ, hG, hH⟩
  have h := hH t
  rw [hx] at h
  simp only [AV.rel, RV.rel] at h
  exact ⟨s1, v, by rw [results_eq, hr]; simp [resRun, h], .ro (.c v), [], hR, by simp [RR.rel, RV.rel], by simp, by simp, hsc.end_ hG⟩
theorem seals_cs : ∀ vs : List Value, OV.Seals (vs.map .c) (vs.map .c)
  | [] => by simp [OV.Seals]
  | v :: vs => by simp only [List.map_cons, OV.Seals]; exact ⟨_, _, rfl, by simp [OV.Seal], seals_cs vs⟩
theorem seal_row1 (e : TypeId) (vs : List Value) : OV.Seal (.row e 1 (vs.map .c)) (.seq 1 (vs.map fun v => [.c v])) := by
  simp only [OV.Seal]
  refine ⟨_, rfl, by simp, ?_⟩
  have : (vs.map fun v => [RV.c v]).flatten = vs.map .c := by
    induction vs with
    | nil => rfl
    | cons v vs ih => simp [ih]
  rw [this]
  exact seals_cs vs
theorem seals_app : ∀ {os os' : List OV} {rs rs' : List RV}, OV.Seals os rs → OV.Seals os' rs' → OV.Seals (os ++ os') (rs ++ rs')
  | [], os', rs, rs', h, h' => by simp only [OV.Seals] at h; subst h; simpa using h'
  | x :: os, os', rs, rs', h, h' => by
    simp only [OV.Seals] at h
    obtain ⟨r, rt, rfl, h1, h2⟩ := h
    simp only [List.cons_append, OV.Seals]
    exact ⟨r, rt ++ rs', rfl, h1, seals_app h2 h'⟩
theorem mx_apart {C1 C2 : Ctx} {ov : OV} {u : Value} {b1 b2 : List Nat} (h1 : Gh C1 ov u b1) (h2 : ∀ b ∈ b2, C1.w0.heap.size ≤ b) : ∀ b ∈ b2, b ∉ b1 := fun b hb hm => by
  have := (h1.fix b hm).1
  have := h2 b hb
  omega
theorem seal_ints (l : List Int) : OV.Seal (intsO l) (intsR l) := by
  have h := seal_row1 3 (l.map fun z => Value.int .i64 z)
  rw [show ((l.map fun z => Value.int .i64 z).map fun v => [RV.c v]) = l.map fun z => [RV.int z] by rw [List.map_map]; rfl] at h
  exact h
theorem seal_bytes (l : List UInt8) : OV.Seal (bytesO l) (bytesR l) := by
  have h := seal_row1 5 (l.map fun z => Value.int .u8 (z.toNat : Int))
  rw [show ((l.map fun z => Value.int .u8 (z.toNat : Int)).map fun v => [RV.c v]) = l.map fun z => [RV.u8 z] by rw [List.map_map]; rfl] at h
  exact h
theorem seal_strs (l : List ByteArray) : OV.Seal (strsO l) (strsR l) := by
  have h := seal_row1 9 (l.map fun z => Value.string z)
  rw [show ((l.map fun z => Value.string z).map fun v => [RV.c v]) = l.map fun z => [RV.str z] by rw [List.map_map]; rfl] at h
  exact h
theorem rcosts_le (d : Des) : (d.map rcost).sum ≤ 4 * d.length + (d.map Rul.total).sum := by
  induction d with
  | nil => simp
  | cons x m ih =>
    have : x.total = x.name.size + x.bytes.length + (x.names.length + (x.names.map ByteArray.size).sum) + x.tags.length + x.kids.length := rfl
    have : rcost x = 4 + x.bytes.length + x.names.length + x.tags.length + x.kids.length := rfl
    simp only [List.map_cons, List.sum_cons, List.length_cons]
    omega
theorem seals_rul (r : Rul) : OV.Seals (rulO r) (rulR r) := by
  simp only [rulO, rulR, OV.Seals]
  exact ⟨_, _, rfl, by simp [OV.Seal], _, _, rfl, by simp [OV.Seal], _, _, rfl, by simp [OV.Seal], _, _, rfl, by simp [OV.Seal], _, _, rfl, seal_bytes _, _, _, rfl, seal_strs _, _, _, rfl, seal_ints _, _, _, rfl, seal_ints _, rfl⟩
theorem seal_ruls (d : Des) : OV.Seal (rulsO d) (rulsR d) := by
  simp only [rulsO, rulsR, OV.Seal]
  refine ⟨_, rfl, by simp [rulR], ?_⟩
  induction d with
  | nil => simp [OV.Seals]
  | cons x d ih =>
    rw [List.flatMap_cons, List.map_cons, List.flatten_cons]
    exact seals_app (seals_rul x) ih
theorem seal_des (d : Des) : OV.Seal (desO d) (desR d) := by
  simp only [desO, OV.Seal]
  exact ⟨_, rfl, by simp only [OV.Seals]; exact ⟨_, _, rfl, seal_ruls d, rfl⟩⟩
theorem des_val {w : World} {d : Des} {u : Value} {bs : List Nat} (h : OV.rel w (desO d) u bs) : ∃ A n c, u = .agg #[.slice A n c] := by
  simp only [desO, OV.rel, OV.rels] at h
  obtain ⟨us, rfl, v, _, b1, _, e1, rfl, h1, rfl, rfl⟩ := h
  obtain ⟨us⟩ := us
  simp only at e1
  subst e1
  have h1' : OV.rel w (rulsO d) v b1 := h1
  obtain ⟨A, n, c, rfl⟩ := row_slice h1'
  exact ⟨A, n, c, rfl⟩
end Go.Proofs.YtkmoffefhlmgeaaGreatDoor
/- Texts of marks held. -/
namespace Go.Proofs.YtkmoffefhlmgeaaGreatDoor
set_option linter.unusedSimpArgs false
set_option linter.unusedVariables false
set_option linter.unusedSectionVars false
set_option maxRecDepth 100000
open Go.RowKit
open AV (Mem Keeps)
noncomputable def seqT (k : Int) (n : Nat) : List ByteArray := (seqI k n).map mtxt
theorem seqT_len (k : Int) (n : Nat) : (seqT k n).length = n := by unfold seqT; rw [List.length_map, seqI_len]
theorem seqT_at {k : Int} {n i : Nat} (h : i < n) : (seqT k n)[i]? = some (mtxt (k + i)) := by unfold seqT; rw [List.getElem?_map, seqI_at h]; rfl
theorem heldStringS_ac (n : Nat) (k : Int) (h0 : 0 ≤ k) (hk : k ≤ 4611686018427387904) (hn' : n ≤ 4194304) : ACv Tryz.prog 16 [strsR (seqT k n), .int k] (.int (k + n)) := by
  have hl := seqT_len k n
  have hlm : ((seqT k n).map fun z => [RV.str z]).length = (seqT k n).length := List.length_map ..
  refine ac_enter Tryz.func16 rfl _ Tryz.ntmps16 (by simp) fun C hn hm => ?_
  repeat' (first
 | refine RunsL.step tabOk hn rfl ?_
 | refine RunsL.nil ?_
 | refine Runs.toRegion 30 rfl ?_
 | (refine Runs.ctls 30 rfl ?_; first | refine Runs.cond_f rfl ?_ | ((first | refine Runs.cond_yes rfl ?_ ?_ | refine Runs.cond_nno rfl ?_ ?_); · first | omega | rfl | assumption | (simp only [List.length_map]; omega)) | ((first | refine Runs.cond_no rfl ?_ ?_ | refine Runs.cond_nyes rfl ?_ ?_); · first | omega | rfl | assumption | (simp only [List.length_map]; omega)) | refine Runs.ret (ends_ro hm rfl rfl ?_) | exact Runs.ret (ends_cellR hm rfl rfl rfl (Nat.le_of_ble_eq_true rfl) rfl rfl))
 | refine RunsD.step tabOk hn rfl rfl ?_
 | refine RunsD.nil ?_
 | refine Runs.toDraw 30 mixed hn rfl (by kernel_rfl) rfl ?_
 | ((first | refine RunsL.pe hn rfl rfl rfl ?_ | refine RunsD.pe rfl rfl ?_); first
 | refine ⟨_, pu_add rfl rfl (by omega), ?_⟩
 | refine ⟨_, pu_indexAddr_map rfl rfl (by omega) (by assumption), ?_⟩
 | refine ⟨_, pu_sub rfl rfl (by omega), ?_⟩
 | refine ⟨_, pu_pick_b rfl rfl rfl, ?_⟩
 | refine ⟨_, pu_mul rfl rfl (by omega), ?_⟩
 | refine ⟨_, pu_build rfl rfl rfl rfl rfl rfl, ?_⟩))
  refine Runs.loopN 30 rfl (fun j => [(0, .ro (strsR (seqT k n))), (1, .int (k + (j : Int))), (5, .int (j : Int))]) (fun _ => []) (fun _ => True) n 0 (Nat.zero_le _) trivial ⟨rfl, by simp only [look]; exact av_int (by omega), rfl, trivial⟩ rfl fun j hj _ next => ?_
  by_cases hlt : j < n
  · have hx : (seqT k n)[(j : Int).toNat]? = some (mtxt (k + (j : Int))) := seqT_at hlt
    have hc := markText_ac (k + (j : Int)) (by omega) (by omega)
    generalize mtxt (k + (j : Int)) = b at hx hc
    repeat' (first
 | ((first | refine RunsL.pe hn rfl rfl rfl ?_ | refine RunsD.pe rfl rfl ?_); first
 | refine ⟨_, pu_neqSame rfl rfl, ?_⟩)
 | refine RunsL.step tabOk hn rfl ?_
 | refine RunsL.nil ?_
 | refine Runs.toRegion 30 rfl ?_
 | ((first | refine RunsL.pe hn rfl rfl rfl ?_ | refine RunsD.pe rfl rfl ?_); first
 | refine ⟨_, pu_callR hc rfl, ?_⟩)
 | (refine Runs.ctls 30 rfl ?_; first | refine Runs.cond_f rfl ?_ | ((first | refine Runs.cond_yes rfl ?_ ?_ | refine Runs.cond_nno rfl ?_ ?_); · first | omega | rfl | assumption | (simp only [List.length_map]; omega)) | ((first | refine Runs.cond_no rfl ?_ ?_ | refine Runs.cond_nyes rfl ?_ ?_); · first | omega | rfl | assumption | (simp only [List.length_map]; omega)) | refine Runs.ret (ends_ro hm rfl rfl ?_) | exact Runs.ret (ends_cellR hm rfl rfl rfl (Nat.le_of_ble_eq_true rfl) rfl rfl))
 | refine RunsD.step tabOk hn rfl rfl ?_
 | refine RunsD.nil ?_
 | refine Runs.toDraw 30 mixed hn rfl (by kernel_rfl) rfl ?_
 | ((first | refine RunsL.pe hn rfl rfl rfl ?_ | refine RunsD.pe rfl rfl ?_); first
 | refine ⟨_, pu_add rfl rfl (by omega), ?_⟩
 | refine ⟨_, pu_indexAddr_map rfl rfl (by omega) (by assumption), ?_⟩
 | refine ⟨_, pu_sub rfl rfl (by omega), ?_⟩
 | refine ⟨_, pu_pick_b rfl rfl rfl, ?_⟩
 | refine ⟨_, pu_mul rfl rfl (by omega), ?_⟩
 | refine ⟨_, pu_build rfl rfl rfl rfl rfl rfl, ?_⟩))
    all_goals first
      | exact next _ _ ⟨rfl, by simp only [look]; exact av_int (by omega), rfl, trivial⟩ hlt trivial rfl
      | (exfalso; omega)
  · obtain rfl : j = n := by omega
    repeat' (first
 | refine RunsL.step tabOk hn rfl ?_
 | refine RunsL.nil ?_
 | refine Runs.toRegion 30 rfl ?_
 | (refine Runs.ctls 30 rfl ?_; first | refine Runs.cond_f rfl ?_ | ((first | refine Runs.cond_yes rfl ?_ ?_ | refine Runs.cond_nno rfl ?_ ?_); · first | omega | rfl | assumption | (simp only [List.length_map]; omega)) | ((first | refine Runs.cond_no rfl ?_ ?_ | refine Runs.cond_nyes rfl ?_ ?_); · first | omega | rfl | assumption | (simp only [List.length_map]; omega)) | refine Runs.ret (ends_ro hm rfl rfl ?_) | exact Runs.ret (ends_cellR hm rfl rfl rfl (Nat.le_of_ble_eq_true rfl) rfl rfl))
 | refine RunsD.step tabOk hn rfl rfl ?_
 | refine RunsD.nil ?_
 | refine Runs.toDraw 30 mixed hn rfl (by kernel_rfl) rfl ?_
 | ((first | refine RunsL.pe hn rfl rfl rfl ?_ | refine RunsD.pe rfl rfl ?_); first
 | refine ⟨_, pu_add rfl rfl (by omega), ?_⟩
 | refine ⟨_, pu_indexAddr_map rfl rfl (by omega) (by assumption), ?_⟩
 | refine ⟨_, pu_sub rfl rfl (by omega), ?_⟩
 | refine ⟨_, pu_pick_b rfl rfl rfl, ?_⟩
 | refine ⟨_, pu_mul rfl rfl (by omega), ?_⟩
 | refine ⟨_, pu_build rfl rfl rfl rfl rfl rfl, ?_⟩))
    all_goals first
      | exact rr_int rfl
      | (exfalso; omega)
theorem seqT_O (k : Int) (n : Nat) : OV.row 9 1 (((seqI k n).map mkT).map .c) = strsO (seqT k n) := by
  unfold strsO seqT
  congr 1
  simp only [List.map_map]
  exact List.map_congr_left fun z _ => rfl
end Go.Proofs.YtkmoffefhlmgeaaGreatDoor
/- Values of the format in memory of their own: as the laws' helpers make them; read as data. -/
namespace Go.Proofs.YtkmoffefhlmgeaaGreatDoor
set_option linter.unusedSimpArgs false
set_option linter.unusedVariables false
set_option linter.unusedSectionVars false
set_option maxRecDepth 100000
open Go.RowKit
open AV (Mem Keeps)
mutual
def treOs : Tre → List OV
  | .mk n b l => [.c (.int .i64 n), bytesO b, .row 39 3 (tresOs l)]
def tresOs : List Tre → List OV
  | [] => []
  | v :: vs => treOs v ++ tresOs vs
end
theorem tresOs_eq : ∀ l, tresOs l = l.flatMap treOs
  | [] => by rw [tresOs]; rfl
  | v :: vs => by rw [tresOs, tresOs_eq vs, List.flatMap_cons]
def treO (v : Tre) : OV := .agg (treOs v)
def tresO (l : List Tre) : OV := .row 39 3 (l.flatMap treOs)
theorem treOs_eq (v : Tre) : treOs v = [.c (.int .i64 v.number), bytesO v.bytes, tresO v.items] := by
  cases v; rw [treOs, tresOs_eq]; rfl
theorem treOs_len (v : Tre) : (treOs v).length = 3 := by rw [treOs_eq]; rfl
theorem tresO_len (l : List Tre) : (l.flatMap treOs).length = l.length * 3 := by
  induction l with
  | nil => rfl
  | cons x l ih => rw [List.flatMap_cons, List.length_append, ih, List.length_cons, treOs_len]; omega
def treZ : List Value := [.int .i64 0, .slice none 0 0, .slice none 0 0]
theorem tre_open {w : World} {v : Tre} {us : List Value} {bs : List Nat} (h : OV.rels w (treOs v) us bs) : ∃ A1 n1 c1 A2 n2 c2 d1 d2, us = [.int .i64 v.number, .slice A1 n1 c1, .slice A2 n2 c2] ∧ bs = d1 ++ d2 ∧
    OV.rel w (bytesO v.bytes) (.slice A1 n1 c1) d1 ∧ OV.rel w (tresO v.items) (.slice A2 n2 c2) d2 := by
  rw [treOs_eq] at h
  simp only [OV.rels] at h
  obtain ⟨v0, _, b0, _, rfl, rfl, h0, v1, _, b1, _, rfl, rfl, h1, v2, _, b2, _, rfl, rfl, h2, rfl, rfl⟩ := h
  have h1' := h1
  have h2' := h2
  unfold bytesO at h1'
  unfold tresO at h2'
  obtain ⟨A1, n1, c1, rfl⟩ := row_slice h1'
  obtain ⟨A2, n2, c2, rfl⟩ := row_slice h2'
  simp only [OV.rel] at h0
  refine ⟨A1, n1, c1, A2, n2, c2, b1, b2, by rw [h0.1], by rw [h0.2]; simp, h1, h2⟩
theorem tre_shut {w : World} {v : Tre} {A1 A2 : Option Addr} {n1 c1 n2 c2 : Nat} {d1 d2 : List Nat} (h1 : OV.rel w (bytesO v.bytes) (.slice A1 n1 c1) d1) (h2 : OV.rel w (tresO v.items) (.slice A2 n2 c2) d2) :
    OV.rels w (treOs v) [.int .i64 v.number, .slice A1 n1 c1, .slice A2 n2 c2] (d1 ++ d2) := by
  rw [treOs_eq]
  simp only [OV.rels]
  exact ⟨_, _, [], _, rfl, rfl, by simp [OV.rel], _, _, d1, _, rfl, rfl, h1, _, _, d2, [], rfl, by simp, h2, rfl, rfl⟩
theorem seals_tre : ∀ v : Tre, OV.Seals (treOs v) v.cells := by
  refine Tre.ind fun v ih => ?_
  rw [treOs_eq, Tre.cells_eq]
  simp only [OV.Seals]
  refine ⟨_, _, rfl, by simp [OV.Seal], _, _, rfl, seal_bytes _, _, _, rfl, ?_, rfl⟩
  simp only [tresO, OV.Seal]
  refine ⟨_, rfl, by simp [Tre.cells_len], ?_⟩
  generalize v.items = l at ih
  induction l with
  | nil => simp [OV.Seals]
  | cons x l ihl =>
    rw [List.flatMap_cons, List.map_cons, List.flatten_cons]
    exact seals_app (ih x (by simp)) (ihl fun y hy => ih y (by simp [hy]))
theorem seal_tre (v : Tre) : OV.Seal (treO v) (treR v) := by
  simp only [treO, OV.Seal]
  exact ⟨v.cells, (treC v).symm, seals_tre v⟩
theorem tre_val {w : World} {v : Tre} {u : Value} {bs : List Nat} (h : OV.rel w (treO v) u bs) : ∃ A1 n1 c1 A2 n2 c2, u = .agg #[.int .i64 v.number, .slice A1 n1 c1, .slice A2 n2 c2] := by
  simp only [treO, OV.rel] at h
  obtain ⟨us, rfl, h⟩ := h
  obtain ⟨us⟩ := us
  obtain ⟨A1, n1, c1, A2, n2, c2, _, _, e, _⟩ := tre_open h
  simp only at e
  subst e
  exact ⟨A1, n1, c1, A2, n2, c2, rfl⟩
set_option maxHeartbeats 8000000 in
theorem toTresO_ac (l : List Tre) (ih : ∀ x ∈ l, x.total ≤ 1048576 → ACo Tryz.prog 8 [treR x] (treO x)) (hl : l.length ≤ 1048576) (ht : (l.map Tre.total).sum ≤ 1048576) : ACo Tryz.prog 24 [tresR l] (tresO l) := by
  have hl' : (l.map Tre.cells).length = l.length := List.length_map ..
  refine aco_enter Tryz.func24 rfl _ Tryz.ntmps24 (by simp) fun C0 hn hm => ?_
  have hn0 := hn
  repeat' (first
 | refine RunsL.step tabOk hn rfl ?_
 | refine RunsL.nil ?_
 | refine Runs.toRegion 30 rfl ?_
 | refine op_makeN (zs := treZ) rfl rfl rfl rfl (by decide) rfl (by omega) (by unfold maxLen; omega) (tl hn rfl) ?_
 | (refine Runs.ctls 30 rfl ?_; first | ((first | refine Runs.cond_yes rfl ?_ ?_ | refine Runs.cond_nno rfl ?_ ?_); · first | omega | rfl | assumption | (simp only [List.length_map]; omega)) | ((first | refine Runs.cond_no rfl ?_ ?_ | refine Runs.cond_nyes rfl ?_ ?_); · first | omega | rfl | assumption | (simp only [List.length_map]; omega)) | refine Runs.ret (ends_ro hm rfl rfl ?_) | exact Runs.ret (ends_cellR hm rfl rfl rfl (Nat.le_of_ble_eq_true rfl) rfl rfl))
 | refine op_storeN rfl rfl rfl rfl (Nat.le_of_ble_eq_true rfl) ?_
 | (refine RunsL.pe hn rfl rfl rfl ?_; first
 | refine ⟨_, pu_add rfl rfl (by omega), ?_⟩
 | refine ⟨_, pu_indexAddr_map rfl rfl (by omega) (by assumption), ?_⟩
      ))
  refine Runs.ctls 30 rfl (Runs.keep [(0, .ro (tresR l)), (3, .own 0), (4, .int 0)] ⟨rfl, rfl, rfl, trivial⟩ ?_)
  refine Runs.loopV (fun n C S => ∃ (j : Nat) (us : List Value) (bs : List Nat), j + n = l.length ∧ C.n = C0.n ∧ Sc C0 C ∧ OV.rels C.w0 ((l.take j).flatMap treOs) us bs ∧ (∀ b ∈ bs, b < C.w0.heap.size ∧ ¬ C.mu b ∧ ¬ C.ok b) ∧ bs.Nodup ∧ (∀ b ∈ bs, C0.w0.heap.size ≤ b) ∧ S = ⟨[(0, .ro (tresR l)), (3, .own 0), (4, .int (j : Int))], [⟨39, 3, (us ++ (List.replicate (l.length - j) treZ).flatten).map fun u => .ro (.c u)⟩]⟩) ?_ l.length C0 _ ⟨0, [], [], by omega, rfl, Sc.start hm, by simp [OV.rels], by simp, by simp, by simp, ?_⟩
  · rintro n C S ⟨j, us, bs, hj, hn, hsc, hov, hfix, hnd, hnew, rfl⟩ ih'
    have hn := hn.trans hn0
    have hul := OV.rels_len _ _ _ hov
    rw [tresO_len, List.length_take, Nat.min_eq_left (by omega)] at hul
    have hcl : (us ++ (List.replicate (l.length - j) treZ).flatten).length = l.length * 3 := by
      rw [List.length_append, rep_flatten_len, hul, show treZ.length = 3 from rfl]; omega
    by_cases hlt : j < l.length
    · obtain ⟨x, hx⟩ : ∃ x, l[(j : Int).toNat]? = some x := ⟨_, List.getElem?_eq_getElem hlt⟩
      have hx' : l[j]? = some x := hx
      have hm' := List.mem_of_getElem? hx'
      have hcall := ih x hm' (Nat.le_trans (sum_mem_le Tre.total hm') ht)
      repeat' (first
 | refine RunsL.step tabOk hn rfl ?_
 | refine RunsL.nil ?_
 | refine Runs.toRegion 30 rfl ?_
 | (refine RunsL.pe hn rfl rfl rfl ?_; first
 | refine ⟨_, pu_loadN_eq rfl (Tre.cells_eq _) rfl, ?_⟩)
 | (refine Runs.ctls 30 rfl ?_; first | ((first | refine Runs.cond_yes rfl ?_ ?_ | refine Runs.cond_nno rfl ?_ ?_); · first | omega | rfl | assumption | (simp only [List.length_map]; omega)) | ((first | refine Runs.cond_no rfl ?_ ?_ | refine Runs.cond_nyes rfl ?_ ?_); · first | omega | rfl | assumption | (simp only [List.length_map]; omega)) | refine Runs.ret (ends_ro hm rfl rfl ?_) | exact Runs.ret (ends_cellR hm rfl rfl rfl (Nat.le_of_ble_eq_true rfl) rfl rfl))
 | refine op_storeN rfl rfl rfl rfl (Nat.le_of_ble_eq_true rfl) ?_
 | (refine RunsL.pe hn rfl rfl rfl ?_; first
 | refine ⟨_, pu_add rfl rfl (by omega), ?_⟩
 | refine ⟨_, pu_indexAddr_map rfl rfl (by omega) (by assumption), ?_⟩
          ))
      refine op_callN hcall (.cons .ro .nil) (tl hn rfl) fun C1 u1 b1 nx1 gh1 nd1 new1 => ?_
      have hrel := gh1.rel
      simp only [treO, OV.rel] at hrel
      obtain ⟨vs, rfl, hvs⟩ := hrel
      obtain ⟨A1, n1, c1, A2, n2, c2, d1, d2, hE, _⟩ := tre_open hvs
      obtain ⟨vs⟩ := vs
      simp only at hE hvs
      subst hE
      have hn := nx1.n.trans hn
      repeat' (first
 | refine RunsL.step tabOk hn rfl ?_
 | refine RunsL.nil ?_
 | refine Runs.toRegion 30 rfl ?_
 | refine op_storeN rfl rfl rfl rfl (by simp only [List.length_map, List.length_cons, List.length_nil, Int.toNat_natCast]; omega) ?_
 | (refine RunsL.pe hn rfl rfl rfl ?_; first
 | refine ⟨_, pu_indexAddr_own (n := l.length) rfl rfl rfl rfl (by simp only [List.length_map]; omega) (by omega) (by omega), ?_⟩)
 | (refine Runs.ctls 30 rfl ?_; first | ((first | refine Runs.cond_yes rfl ?_ ?_ | refine Runs.cond_nno rfl ?_ ?_); · first | omega | rfl | assumption | (simp only [List.length_map]; omega)) | ((first | refine Runs.cond_no rfl ?_ ?_ | refine Runs.cond_nyes rfl ?_ ?_); · first | omega | rfl | assumption | (simp only [List.length_map]; omega)) | refine Runs.ret (ends_ro hm rfl rfl ?_) | exact Runs.ret (ends_cellR hm rfl rfl rfl (Nat.le_of_ble_eq_true rfl) rfl rfl))
 | refine op_storeN rfl rfl rfl rfl (Nat.le_of_ble_eq_true rfl) ?_
 | (refine RunsL.pe hn rfl rfl rfl ?_; first
 | refine ⟨_, pu_add rfl rfl (by omega), ?_⟩
 | refine ⟨_, pu_indexAddr_map rfl rfl (by omega) (by assumption), ?_⟩
          ))
      have hz1 := nx1.size
      refine Runs.ctls 30 rfl ?_
      refine Runs.keep [(0, .ro (tresR l)), (3, .own 0), (4, .int ((j + 1 : Nat) : Int))] ⟨rfl, rfl, rfl, trivial⟩ ?_
      refine ih' (n - 1) (by omega) C1 _ ⟨j + 1, us ++ [.int .i64 x.number, .slice A1 n1 c1, .slice A2 n2 c2], bs ++ b1, by omega, hn.trans hn0.symm, hsc.next nx1 (by simp), ?_, fun b hb => ?_, ?_, fun b hb => ?_, ?_⟩
      · have e : l.take (j + 1) = l.take j ++ [x] := by rw [List.take_add_one, hx']; rfl
        rw [e, List.flatMap_append]
        refine OV.rels_append _ _ _ _ _ _ (OV.rels_keep _ _ _ hov fun b hb => nx1.block b (hfix b hb).1 (hfix b hb).2.1 (by simp)) ?_
        simpa using hvs
      · rcases List.mem_append.1 hb with hb | hb
        · refine ⟨Nat.lt_of_lt_of_le (hfix b hb).1 hz1, fun hm => ?_, fun ho => (hfix b hb).2.2 (nx1.ok b ho)⟩
          rcases nx1.mu b hm with h1 | h1
          · exact (hfix b hb).2.1 h1
          · have := (hfix b hb).1; omega
        · exact gh1.fix b hb
      · exact nodup_two C.w0.heap.size hnd nd1 (fun y hy => (hfix y hy).1) new1
      · rcases List.mem_append.1 hb with hb | hb
        · exact hnew b hb
        · have := new1 b hb; have := hsc.below.size; omega
      · congr 1
        simp only [List.set_cons_zero, Int.toNat_natCast, List.cons.injEq, Ob.mk.injEq, true_and, and_true]
        rw [List.map_append, sets_app _ _ _ _ (by rw [List.length_map, hul]) (by simp only [List.length_map, rep_flatten_len, show treZ.length = 3 from rfl, List.length_cons, List.length_nil]; omega)]
        rw [show l.length - j = (l.length - (j + 1)) + 1 by omega, List.replicate_succ, List.flatten_cons]
        simp only [List.map_append, List.append_assoc]
        rfl
    · obtain rfl : j = l.length := by omega
      repeat' (first
 | refine RunsL.step tabOk hn rfl ?_
 | refine RunsL.nil ?_
 | refine Runs.toRegion 30 rfl ?_
 | (refine Runs.ctls 30 rfl ?_; first | ((first | refine Runs.cond_yes rfl ?_ ?_ | refine Runs.cond_nno rfl ?_ ?_); · first | omega | rfl | assumption | (simp only [List.length_map]; omega)) | ((first | refine Runs.cond_no rfl ?_ ?_ | refine Runs.cond_nyes rfl ?_ ?_); · first | omega | rfl | assumption | (simp only [List.length_map]; omega)) | refine Runs.ret (ends_ro hm rfl rfl ?_) | exact Runs.ret (ends_cellR hm rfl rfl rfl (Nat.le_of_ble_eq_true rfl) rfl rfl))
 | refine op_storeN rfl rfl rfl rfl (Nat.le_of_ble_eq_true rfl) ?_
 | (refine RunsL.pe hn rfl rfl rfl ?_; first
 | refine ⟨_, pu_add rfl rfl (by omega), ?_⟩
 | refine ⟨_, pu_indexAddr_map rfl rfl (by omega) (by assumption), ?_⟩
          ))
      rw [List.take_length] at hov
      exact Runs.ctls 30 rfl (Runs.ret (endsO_row hsc rfl rfl (by simp) hov (fun b hb => ⟨(hfix b hb).1, (hfix b hb).2.1⟩) hnd hnew))
  · simp
    exact ⟨rfl, rfl⟩
theorem toTreO_ac : ∀ v : Tre, v.total ≤ 1048576 → ACo Tryz.prog 8 [treR v] (treO v) := by
  refine Tre.ind fun v ih ht => ?_
  have he := v.total_eq
  have k1 := toBytesO_ac v.bytes (by omega)
  have k2 := toTresO_ac v.items ih (by omega) (by omega)
  refine aco_enter Tryz.func8 rfl _ Tryz.ntmps8 (by simp) fun C hn hm => ?_
  repeat' (first
 | refine RunsL.step tabOk hn rfl ?_
 | refine RunsL.nil ?_
 | refine Runs.toRegion 30 rfl ?_
 | (refine Runs.ctls 30 rfl ?_; first | ((first | refine Runs.cond_yes rfl ?_ ?_ | refine Runs.cond_nno rfl ?_ ?_); · first | omega | rfl | assumption | (simp only [List.length_map]; omega)) | ((first | refine Runs.cond_no rfl ?_ ?_ | refine Runs.cond_nyes rfl ?_ ?_); · first | omega | rfl | assumption | (simp only [List.length_map]; omega)) | refine Runs.ret (ends_ro hm rfl rfl ?_) | exact Runs.ret (ends_cellR hm rfl rfl rfl (Nat.le_of_ble_eq_true rfl) rfl rfl))
 | refine op_box rfl (tl hn rfl) ?_
 | refine op_storeF rfl rfl rfl rfl (Nat.le_of_ble_eq_true rfl) ?_
 | refine op_alloc (tl hn rfl) ?_
 | refine op_storeN rfl rfl rfl rfl (Nat.le_of_ble_eq_true rfl) ?_
    )
  refine op_callN k1 (.cons .ro .nil) (tl hn rfl) fun C1 u1 b1 nx1 gh1 nd1 new1 => ?_
  obtain ⟨A1, n1, c1, rfl⟩ := row_slice gh1.rel
  have hn := nx1.n.trans hn
  repeat' (first
 | refine RunsL.step tabOk hn rfl ?_
 | refine RunsL.nil ?_
 | refine Runs.toRegion 30 rfl ?_
 | (refine Runs.ctls 30 rfl ?_; first | ((first | refine Runs.cond_yes rfl ?_ ?_ | refine Runs.cond_nno rfl ?_ ?_); · first | omega | rfl | assumption | (simp only [List.length_map]; omega)) | ((first | refine Runs.cond_no rfl ?_ ?_ | refine Runs.cond_nyes rfl ?_ ?_); · first | omega | rfl | assumption | (simp only [List.length_map]; omega)) | refine Runs.ret (ends_ro hm rfl rfl ?_) | exact Runs.ret (ends_cellR hm rfl rfl rfl (Nat.le_of_ble_eq_true rfl) rfl rfl))
 | refine op_box rfl (tl hn rfl) ?_
 | refine op_storeF rfl rfl rfl rfl (Nat.le_of_ble_eq_true rfl) ?_
 | refine op_alloc (tl hn rfl) ?_
 | refine op_storeN rfl rfl rfl rfl (Nat.le_of_ble_eq_true rfl) ?_
    )
  refine op_callN k2 (.cons .ro .nil) (tl hn rfl) fun C2 u2 b2 nx2 gh2 nd2 new2 => ?_
  obtain ⟨A2, n2, c2, rfl⟩ := row_slice gh2.rel
  have hn := nx2.n.trans hn
  repeat' (first
 | refine RunsL.step tabOk hn rfl ?_
 | refine RunsL.nil ?_
 | refine Runs.toRegion 30 rfl ?_
 | (refine Runs.ctls 30 rfl ?_; first | ((first | refine Runs.cond_yes rfl ?_ ?_ | refine Runs.cond_nno rfl ?_ ?_); · first | omega | rfl | assumption | (simp only [List.length_map]; omega)) | ((first | refine Runs.cond_no rfl ?_ ?_ | refine Runs.cond_nyes rfl ?_ ?_); · first | omega | rfl | assumption | (simp only [List.length_map]; omega)) | refine Runs.ret (ends_ro hm rfl rfl ?_) | exact Runs.ret (ends_cellR hm rfl rfl rfl (Nat.le_of_ble_eq_true rfl) rfl rfl))
 | refine op_box rfl (tl hn rfl) ?_
 | refine op_storeF rfl rfl rfl rfl (Nat.le_of_ble_eq_true rfl) ?_
 | refine op_alloc (tl hn rfl) ?_
 | refine op_storeN rfl rfl rfl rfl (Nat.le_of_ble_eq_true rfl) ?_
    )
  have g1 := gh1.next nx2 (by simp)
  have s1 := (Sc.start hm).next nx1 (by simp)
  have s2 := s1.next nx2 (by simp)
  have z1 := nx1.size
  have z2 := nx2.size
  refine Runs.ctls 30 rfl (Runs.ret (endsO_cell (us := [.int .i64 v.number, .slice A1 n1 c1, .slice A2 n2 c2]) (ovs := treOs v) (bs := b1 ++ b2) s2 rfl rfl rfl rfl rfl (tre_shut g1.rel gh2.rel) (fun b hb => ?_) ?_ fun b hb => ?_))
  · rcases List.mem_append.1 hb with hb | hb
    · exact ⟨(g1.fix b hb).1, (g1.fix b hb).2.1⟩
    · exact ⟨(gh2.fix b hb).1, (gh2.fix b hb).2.1⟩
  · exact nodup_two C1.w0.heap.size nd1 nd2 (fun x hx => (gh1.fix x hx).1) new2
  · rcases List.mem_append.1 hb with hb | hb
    · exact new1 b hb
    · have := new2 b hb; omega
end Go.Proofs.YtkmoffefhlmgeaaGreatDoor
/- Marks on values of the format. -/
namespace Go.Proofs.YtkmoffefhlmgeaaGreatDoor
set_option linter.unusedSimpArgs false
set_option linter.unusedVariables false
set_option linter.unusedSectionVars false
set_option maxRecDepth 100000
open Go.RowKit
open AV (Mem Keeps)
mutual
def mcost : Tre → Nat
  | .mk _ b l => b.length + mcosts l
def mcosts : List Tre → Nat
  | [] => 0
  | v :: vs => 1 + mcost v + mcosts vs
end
mutual
def mTre : Tre → Int → Tre
  | .mk _ b l, k => .mk k (seqB (k + 1) b.length) (mTres l (k + 1 + b.length))
def mTres : List Tre → Int → List Tre
  | [], _ => []
  | v :: vs, k => mTre v k :: mTres vs (k + 1 + mcost v)
end
def mTop (v : Tre) (k : Int) : Tre := .mk v.number (seqB k v.bytes.length) (mTres v.items (k + v.bytes.length))
theorem mcost_eq (v : Tre) : mcost v = v.bytes.length + mcosts v.items := by cases v; rw [mcost]; rfl
theorem mTre_eq (v : Tre) (k : Int) : mTre v k = .mk k (seqB (k + 1) v.bytes.length) (mTres v.items (k + 1 + v.bytes.length)) := by cases v; rw [mTre]; rfl
theorem mcosts_eq : ∀ l, mcosts l = (l.map fun v => 1 + mcost v).sum
  | [] => by rw [mcosts]; rfl
  | v :: vs => by rw [mcosts, mcosts_eq vs]; rfl
mutual
theorem mcost_le : ∀ v : Tre, mcost v ≤ v.total
  | .mk n b l => by have := mcosts_le l; simp only [mcost, Tre.total]; omega
theorem mcosts_le : ∀ l : List Tre, mcosts l ≤ l.length + Tre.totalL l
  | [] => by simp [mcosts]
  | v :: vs => by have := mcost_le v; have := mcosts_le vs; simp only [mcosts, Tre.totalL, List.length_cons]; omega
end
theorem mTres_len : ∀ (l : List Tre) (k : Int), (mTres l k).length = l.length
  | [], k => by rw [mTres]
  | v :: vs, k => by rw [mTres, List.length_cons, mTres_len vs, List.length_cons]
theorem mTres_at : ∀ {l : List Tre} {k : Int} {j : Nat} {x : Tre}, l[j]? = some x → (mTres l k)[j]? = some (mTre x (k + mcosts (l.take j)))
  | v :: vs, k, 0, x, h => by
    simp only [List.getElem?_cons_zero, Option.some.injEq] at h
    subst h
    simp [mTres, mcosts]
  | v :: vs, k, j + 1, x, h => by
    rw [List.getElem?_cons_succ] at h
    rw [mTres, List.getElem?_cons_succ, mTres_at h, List.take_succ_cons, mcosts]
    congr 2
    omega
theorem mTres_next {l : List Tre} {k : Int} {j : Nat} {x : Tre} (h : l[j]? = some x) : (mTres l k).take (j + 1) = (mTres l k).take j ++ [mTre x (k + mcosts (l.take j))] := by
  rw [List.take_add_one, mTres_at h]; rfl
theorem tres_one {w : World} : ∀ (l : List Tre) (us : List Value) (bs : List Nat), OV.rels w (l.flatMap treOs) us bs → ∀ x ∈ us, x.oneCell' = true
  | [], us, bs, h => by simp only [List.flatMap_nil, OV.rels] at h; simp [h.1]
  | v :: l, us, bs, h => by
    rw [List.flatMap_cons] at h
    obtain ⟨u1, u2, b1, b2, rfl, rfl, h1, h2⟩ := rels_split _ _ _ _ h
    obtain ⟨A1, n1, c1, A2, n2, c2, d1, d2, rfl, rfl, _, _⟩ := tre_open h1
    intro x hx
    rcases List.mem_append.1 hx with hx | hx
    · simp only [List.mem_cons, List.not_mem_nil, or_false] at hx
      rcases hx with rfl | rfl | rfl <;> rfl
    · exact tres_one l u2 b2 h2 x hx
theorem nodup4 {a b c d : List Nat} (h : (a ++ ((b ++ c) ++ d)).Nodup) : b.Nodup ∧ c.Nodup ∧ (∀ x ∈ a, x ∉ b) ∧ (∀ x ∈ a, x ∉ c) ∧ (∀ x ∈ c, x ∉ b) ∧ (∀ x ∈ b, x ∉ c) ∧ (∀ x ∈ d, x ∉ b) ∧ (∀ x ∈ d, x ∉ c) := by
  simp only [List.nodup_append, List.mem_append] at h
  grind
set_option maxHeartbeats 16000000 in
theorem markTreS_mk (l : List Tre) (ih0 : ∀ x ∈ l, ∀ k : Int, 0 ≤ k → k ≤ 1099513724928 → k + (mcosts x.items : Nat) ≤ 1099513724928 → x.total ≤ 1048576 → MK Tryz.prog 32 (tresO x.items) k (k + (mcosts x.items : Nat)) (tresO (mTres x.items k)))
    (k : Int) (h0 : 0 ≤ k) (hk : k ≤ 1099513724928) (hk' : k + (mcosts l : Nat) ≤ 1099513724928) (hl : l.length ≤ 1048576) (ht : (l.map Tre.total).sum ≤ 1048576) : MK Tryz.prog 32 (tresO l) k (k + (mcosts l : Nat)) (tresO (mTres l k)) := by
  intro w u bs h hnd hlt
  have hml := mTres_len l k
  rcases rowN_block h with ⟨rfl, h1, rfl⟩ | ⟨g, m, cap, cur, xs, bs', rfl, hlen, rfl, hov, hone, hh, c1, c2, c3, htk0⟩
  · have hl0 : l = [] := by
      cases l with
      | nil => rfl
      | cons x l => have := tresO_len (x :: l); rw [h1] at this; simp at this
    subst hl0
    refine mark_enter (X := fun w' => OV.rel w' (tresO (mTres [] k)) (.slice none 0 0) []) Tryz.func32 rfl _ Tryz.ntmps32 (by simp) hlt ?_
    generalize hC0 : (⟨w, fun b => b ∉ ([] : List Nat), fun _ => False, _⟩ : Ctx) = C0
    have hn : C0.n = 34 := by rw [← hC0]
    have hm0 : ∀ b, ¬ C0.mu b := by rw [← hC0]; exact fun _ h => h
    repeat' (first
 | refine RunsL.step tabOk hn rfl ?_
 | refine RunsL.nil ?_
 | refine Runs.toRegion 30 rfl ?_
 | (refine Runs.ctls 30 rfl ?_; first | refine Runs.cond_f rfl ?_ | ((first | refine Runs.cond_yes rfl ?_ ?_ | refine Runs.cond_nno rfl ?_ ?_); · first | omega | rfl | assumption | (simp only [List.length_map]; omega)) | ((first | refine Runs.cond_no rfl ?_ ?_ | refine Runs.cond_nyes rfl ?_ ?_); · first | omega | rfl | assumption | (simp only [List.length_map]; omega)) | refine Runs.ret (ends_ro hm rfl rfl ?_) | exact Runs.ret (ends_cellR hm rfl rfl rfl (Nat.le_of_ble_eq_true rfl) rfl rfl))
 | (refine RunsL.pe hn rfl rfl rfl ?_; first
 | refine ⟨_, pu_add rfl rfl (by omega), ?_⟩
        ))
    refine Runs.ctls 30 rfl (Runs.keep [(0, .ro (.c (.slice none 0 0))), (1, .int k), (5, .int 0)] ⟨rfl, rfl, rfl, trivial⟩ ?_)
    refine Runs.loopV (fun n C S => C = C0 ∧ S = ⟨[(0, .ro (.c (.slice none 0 0))), (1, .int k), (5, .int 0)], []⟩) ?_ 0 C0 _ ⟨rfl, rfl⟩
    rintro n C S ⟨rfl, rfl⟩ ih
    repeat' (first
 | refine RunsL.step tabOk hn rfl ?_
 | refine RunsL.nil ?_
 | refine Runs.toRegion 30 rfl ?_
 | (refine RunsL.pe hn rfl rfl rfl ?_; first
 | refine ⟨_, pu_lenC rfl, ?_⟩)
 | (refine Runs.ctls 30 rfl ?_; first | refine Runs.cond_f rfl ?_ | ((first | refine Runs.cond_yes rfl ?_ ?_ | refine Runs.cond_nno rfl ?_ ?_); · first | omega | rfl | assumption | (simp only [List.length_map]; omega)) | ((first | refine Runs.cond_no rfl ?_ ?_ | refine Runs.cond_nyes rfl ?_ ?_); · first | omega | rfl | assumption | (simp only [List.length_map]; omega)) | refine Runs.ret (ends_ro hm rfl rfl ?_) | exact Runs.ret (ends_cellR hm rfl rfl rfl (Nat.le_of_ble_eq_true rfl) rfl rfl))
 | (refine RunsL.pe hn rfl rfl rfl ?_; first
 | refine ⟨_, pu_add rfl rfl (by omega), ?_⟩
        ))
    refine Runs.ctls 30 rfl (Runs.ret (endsM (Nx.refl _ _) hm0 rfl (by show look _ _ = _; simp [look, mcosts]) fun φ w hG => ?_))
    simp only [tresO, mTres, OV.rel, List.flatMap_nil, OV.rels]
    exact ⟨0, [], [], rfl, by omega, ⟨rfl, rfl⟩, by simp, ⟨rfl, .inl ⟨rfl, rfl⟩⟩, rfl⟩
  · rw [tresO_len] at hlen
    have hm : m = l.length := by omega
    subst hm
    refine mark_enter (X := fun w' => OV.rel w' (tresO (mTres l k)) (.slice (some ⟨g, 0, none⟩) l.length cap) (g :: bs')) Tryz.func32 rfl _ Tryz.ntmps32 (by simp) hlt ?_
    generalize hC0 : (⟨w, fun b => b ∉ g :: bs', fun _ => False, _⟩ : Ctx) = C0
    have hn : C0.n = 34 := by rw [← hC0]
    have hw0 : C0.w0 = w := by rw [← hC0]
    have hm0 : ∀ b, ¬ C0.mu b := by rw [← hC0]; exact fun _ h => h
    have hb0 : Bk C0 g cur 39 := by rw [← hC0]; exact ⟨hh, fun h => h, fun h => h (by simp)⟩
    have hf0 : ∀ b ∈ bs', b < C0.w0.heap.size ∧ ¬ C0.mu b ∧ ¬ C0.ok b := fun b hb => by
      rw [← hC0]; exact ⟨hlt b (by simp [hb]), fun h => h, fun h => h (by simp [hb])⟩
    rw [List.nodup_cons] at hnd
    have hcap : l.length * 3 ≤ cap * 3 := Nat.mul_le_mul_right _ c1
    repeat' (first
 | refine RunsL.step tabOk hn rfl ?_
 | refine RunsL.nil ?_
 | refine Runs.toRegion 30 rfl ?_
 | (refine Runs.ctls 30 rfl ?_; first | refine Runs.cond_f rfl ?_ | ((first | refine Runs.cond_yes rfl ?_ ?_ | refine Runs.cond_nno rfl ?_ ?_); · first | omega | rfl | assumption | (simp only [List.length_map]; omega)) | ((first | refine Runs.cond_no rfl ?_ ?_ | refine Runs.cond_nyes rfl ?_ ?_); · first | omega | rfl | assumption | (simp only [List.length_map]; omega)) | refine Runs.ret (ends_ro hm rfl rfl ?_) | exact Runs.ret (ends_cellR hm rfl rfl rfl (Nat.le_of_ble_eq_true rfl) rfl rfl))
 | (refine RunsL.pe hn rfl rfl rfl ?_; first
 | refine ⟨_, pu_add rfl rfl (by omega), ?_⟩
        ))
    refine Runs.ctls 30 rfl (Runs.keep [(0, .ro (.c (.slice (some ⟨g, 0, none⟩) l.length cap))), (1, .int k), (5, .int 0)] ⟨rfl, rfl, rfl, trivial⟩ ?_)
    refine Runs.loopV (fun n C S => ∃ (j : Nat) (cu : Array Value) (ud ur : List Value) (bd br : List Nat), j + n = l.length ∧ C.n = 34 ∧ Nx C0 C (g :: bs') ∧ Bk C g cu 39 ∧ cu.size = cap * 3 ∧ Gh C (.agg (((mTres l k).take j).flatMap treOs)) (.agg ud.toArray) bd ∧ Gh C (.agg ((l.drop j).flatMap treOs)) (.agg ur.toArray) br ∧ bs' = bd ++ br ∧ cu.toList.take (l.length * 3) = ud ++ ur ∧
      S = ⟨[(0, .ro (.c (.slice (some ⟨g, 0, none⟩) l.length cap))), (1, .int (k + (mcosts (l.take j) : Nat))), (5, .int (j : Int))], []⟩) ?_ l.length C0 _ ⟨0, cur, [], xs, [], bs', by omega, hn, Nx.refl _ _, hb0, c3, Gh.aggs (by simp [OV.rels]) (by simp), Gh.aggs (by rw [List.drop_zero, hw0]; exact hov) hf0, rfl, htk0, by simp [mcosts]⟩
    rintro n C S ⟨j, cu, ud, ur, bd, br, hj, hn, hnx, hb, hcu, hgd, hgh, hbs, htk, rfl⟩ ih
    by_cases hlt' : j < l.length
    · obtain ⟨x, hx⟩ : ∃ x, l[j]? = some x := ⟨_, List.getElem?_eq_getElem hlt'⟩
      have hm' := List.mem_of_getElem? hx
      have hxt := sum_mem_le Tre.total hm'
      have hxe := x.total_eq
      have hxc := mcost_eq x
      have hst := sum_take_next (fun v => 1 + mcost v) hx
      have hsl := sum_take_le (fun v => 1 + mcost v) l (j + 1)
      rw [← mcosts_eq, ← mcosts_eq] at hst
      rw [← mcosts_eq, ← mcosts_eq] at hsl
      have e : l.drop j = x :: l.drop (j + 1) := by
        rw [List.drop_eq_getElem_cons hlt']
        rw [List.getElem?_eq_getElem hlt'] at hx
        injection hx with hx
        rw [hx]
      rw [e, List.flatMap_cons] at hgh
      obtain ⟨u1, u2, b1, b2, rfl, rfl, hr1, hr2⟩ := rels_split _ _ _ _ hgh.rels
      obtain ⟨A1, n1, q1, A2, n2, q2, d1, d2, rfl, rfl, g1, g2⟩ := tre_open hr1
      have hnd' := hnd.2
      rw [hbs] at hnd'
      obtain ⟨N1, N2, Da1, Da2, D21, D12, D31, D32⟩ := nodup4 hnd'
      have hgb : ∀ b ∈ bd ++ ((d1 ++ d2) ++ b2), b ≠ g := fun b hm e => hnd.1 (by rw [hbs, ← e]; exact hm)
      have hul := OV.rels_len _ _ _ hgd.rels
      rw [tresO_len, List.length_take, hml, Nat.min_eq_left (by omega)] at hul
      have G1 : Gh C _ _ d1 := ⟨g1, fun b hb => hgh.fix b (by simp [hb])⟩
      have G2 : Gh C _ _ d2 := ⟨g2, fun b hb => hgh.fix b (by simp [hb])⟩
      have G3 := Gh.aggs (C := C) hr2 fun b hb => hgh.fix b (by simp [hb])
      generalize hK : k + ((mcosts (l.take j) : Nat) : Int) = K
      repeat' (first
 | refine RunsL.step tabOk hn rfl ?_
 | refine RunsL.nil ?_
 | refine Runs.toRegion 30 rfl ?_
 | (refine RunsL.pe hn rfl rfl rfl ?_; first
 | refine ⟨_, pu_lenC rfl, ?_⟩
 | refine ⟨_, pu_indexC rfl rfl (by omega) (by omega), ?_⟩
 | refine ⟨_, pu_fieldC rfl, ?_⟩)
 | (refine Runs.ctls 30 rfl ?_; first | refine Runs.cond_f rfl ?_ | ((first | refine Runs.cond_yes rfl ?_ ?_ | refine Runs.cond_nno rfl ?_ ?_); · first | omega | rfl | assumption | (simp only [List.length_map]; omega)) | ((first | refine Runs.cond_no rfl ?_ ?_ | refine Runs.cond_nyes rfl ?_ ?_); · first | omega | rfl | assumption | (simp only [List.length_map]; omega)) | refine Runs.ret (ends_ro hm rfl rfl ?_) | exact Runs.ret (ends_cellR hm rfl rfl rfl (Nat.le_of_ble_eq_true rfl) rfl rfl))
 | (refine RunsL.pe hn rfl rfl rfl ?_; first
 | refine ⟨_, pu_add rfl rfl (by omega), ?_⟩
          ))
      refine op_storeC rfl rfl rfl hb (by simp only [Int.toNat_natCast]; omega) fun C1 x1 hb1 => ?_
      have hn := x1.n.trans hn
      simp only [Int.toNat_natCast, Nat.add_zero] at hb1
      have htk1 : (cu.setIfInBounds (j * 3) (.int .i64 K)).toList.take (l.length * 3) = ud ++ ([.int .i64 K, .slice A1 n1 q1, .slice A2 n2 q2] ++ u2) := by
        rw [Array.toList_setIfInBounds, List.take_set, htk, List.set_append_right _ _ (by omega), hul, Nat.sub_self]
        rfl
      have hsz1 : (cu.setIfInBounds (j * 3) (.int .i64 K)).size = cap * 3 := by simpa using hcu
      generalize cu.setIfInBounds (j * 3) (.int .i64 K) = cu1 at hb1 htk1 hsz1
      have hv1 : cu1[j * 3 + 1]? = some (.slice A1 n1 q1) := take_at htk1 (by rw [List.getElem?_append_right (by omega), hul]; simp)
      have hv2 : cu1[j * 3 + 2]? = some (.slice A2 n2 q2) := take_at htk1 (by rw [List.getElem?_append_right (by omega), hul]; simp)
      have hgd := hgd.next x1 fun b hb => by simpa using hgb b (by simp [hb])
      have G1 := G1.next x1 fun b hb => by simpa using hgb b (by simp [hb])
      have G2 := G2.next x1 fun b hb => by simpa using hgb b (by simp [hb])
      have G3 := G3.next x1 fun b hb => by simpa using hgb b (by simp [hb])
      repeat' (first
 | refine RunsL.step tabOk hn rfl ?_
 | refine RunsL.nil ?_
 | refine Runs.toRegion 30 rfl ?_
 | (refine RunsL.pe hn rfl rfl rfl ?_; first
 | refine ⟨_, pu_indexC rfl rfl (by omega) (by omega), ?_⟩
 | refine ⟨_, pu_fieldC rfl, ?_⟩
 | refine ⟨_, pu_loadC rfl hb1 (by simp only [Int.toNat_natCast]; exact hv1), ?_⟩)
 | (refine Runs.ctls 30 rfl ?_; first | refine Runs.cond_f rfl ?_ | ((first | refine Runs.cond_yes rfl ?_ ?_ | refine Runs.cond_nno rfl ?_ ?_); · first | omega | rfl | assumption | (simp only [List.length_map]; omega)) | ((first | refine Runs.cond_no rfl ?_ ?_ | refine Runs.cond_nyes rfl ?_ ?_); · first | omega | rfl | assumption | (simp only [List.length_map]; omega)) | refine Runs.ret (ends_ro hm rfl rfl ?_) | exact Runs.ret (ends_cellR hm rfl rfl rfl (Nat.le_of_ble_eq_true rfl) rfl rfl))
 | (refine RunsL.pe hn rfl rfl rfl ?_; first
 | refine ⟨_, pu_add rfl rfl (by omega), ?_⟩
          ))
      refine op_callK (markByteS_mk x.bytes (K + 1) (by omega) (by omega) (by omega)) G1 N1 rfl (tl hn rfl) fun C2 x2 G1 => ?_
      have hn := x2.n.trans hn
      have hb2 := hb1.next x2 fun h => hgb g (by simp [h]) rfl
      have hgd := hgd.next x2 Da1
      have G2 := G2.next x2 D21
      have G3 := G3.next x2 D31
      repeat' (first
 | refine RunsL.step tabOk hn rfl ?_
 | refine RunsL.nil ?_
 | refine Runs.toRegion 30 rfl ?_
 | (refine RunsL.pe hn rfl rfl rfl ?_; first
 | refine ⟨_, pu_indexC rfl rfl (by omega) (by omega), ?_⟩
 | refine ⟨_, pu_fieldC rfl, ?_⟩
 | refine ⟨_, pu_loadC rfl hb2 (by simp only [Int.toNat_natCast]; exact hv2), ?_⟩)
 | (refine Runs.ctls 30 rfl ?_; first | refine Runs.cond_f rfl ?_ | ((first | refine Runs.cond_yes rfl ?_ ?_ | refine Runs.cond_nno rfl ?_ ?_); · first | omega | rfl | assumption | (simp only [List.length_map]; omega)) | ((first | refine Runs.cond_no rfl ?_ ?_ | refine Runs.cond_nyes rfl ?_ ?_); · first | omega | rfl | assumption | (simp only [List.length_map]; omega)) | refine Runs.ret (ends_ro hm rfl rfl ?_) | exact Runs.ret (ends_cellR hm rfl rfl rfl (Nat.le_of_ble_eq_true rfl) rfl rfl))
 | (refine RunsL.pe hn rfl rfl rfl ?_; first
 | refine ⟨_, pu_add rfl rfl (by omega), ?_⟩
          ))
      refine op_callK (ih0 x hm' (K + 1 + (x.bytes.length : Nat)) (by omega) (by omega) (by omega) (by omega)) G2 N2 rfl (tl hn rfl) fun C3 x3 G2 => ?_
      have hn := x3.n.trans hn
      have hb3 := hb2.next x3 fun h => hgb g (by simp [h]) rfl
      have hgd := hgd.next x3 Da2
      have G1 := G1.next x3 D12
      have G3 := G3.next x3 D32
      repeat' (first
 | refine RunsL.step tabOk hn rfl ?_
 | refine RunsL.nil ?_
 | refine Runs.toRegion 30 rfl ?_
 | (refine Runs.ctls 30 rfl ?_; first | refine Runs.cond_f rfl ?_ | ((first | refine Runs.cond_yes rfl ?_ ?_ | refine Runs.cond_nno rfl ?_ ?_); · first | omega | rfl | assumption | (simp only [List.length_map]; omega)) | ((first | refine Runs.cond_no rfl ?_ ?_ | refine Runs.cond_nyes rfl ?_ ?_); · first | omega | rfl | assumption | (simp only [List.length_map]; omega)) | refine Runs.ret (ends_ro hm rfl rfl ?_) | exact Runs.ret (ends_cellR hm rfl rfl rfl (Nat.le_of_ble_eq_true rfl) rfl rfl))
 | (refine RunsL.pe hn rfl rfl rfl ?_; first
 | refine ⟨_, pu_add rfl rfl (by omega), ?_⟩
          ))
      refine Runs.ctls 30 rfl ?_
      refine Runs.keep [(0, .ro (.c (.slice (some ⟨g, 0, none⟩) l.length cap))), (1, .int (k + (mcosts (l.take (j + 1)) : Nat))), (5, .int ((j + 1 : Nat) : Int))] ⟨rfl, ?_, rfl, trivial⟩ ?_
      · exact av_int (by rw [hst]; omega)
      have r1 := G1.rel
      rw [seqB_O] at r1
      have hnew := tre_shut (w := C3.w0) (v := mTre x K) (by rw [mTre_eq]; exact r1) (by rw [mTre_eq]; exact G2.rel)
      rw [show (mTre x K).number = K by rw [mTre_eq]; rfl] at hnew
      refine ih (n - 1) (by omega) C3 _ ⟨j + 1, cu1, ud ++ [.int .i64 K, .slice A1 n1 q1, .slice A2 n2 q2], u2, bd ++ (d1 ++ d2), b2, by omega, hn, ?_, hb3, hsz1, ?_, G3, by rw [hbs]; simp, by rw [htk1]; simp, rfl⟩
      · refine (hnx.trans ((x1.trans x2).trans x3)).sub fun b hb => ?_
        simp only [hbs, List.mem_append, List.mem_cons, List.not_mem_nil, or_false] at hb ⊢
        grind
      · rw [mTres_next hx, List.flatMap_append, hK]
        refine Gh.aggs (OV.rels_append _ _ _ _ _ _ hgd.rels (by simpa using hnew)) fun b hb => ?_
        rcases List.mem_append.1 hb with hb | hb
        · exact hgd.fix b hb
        · rcases List.mem_append.1 hb with hb | hb
          · exact G1.fix b hb
          · exact G2.fix b hb
    · obtain rfl : j = l.length := by omega
      repeat' (first
 | refine RunsL.step tabOk hn rfl ?_
 | refine RunsL.nil ?_
 | refine Runs.toRegion 30 rfl ?_
 | (refine RunsL.pe hn rfl rfl rfl ?_; first
 | refine ⟨_, pu_lenC rfl, ?_⟩)
 | (refine Runs.ctls 30 rfl ?_; first | refine Runs.cond_f rfl ?_ | ((first | refine Runs.cond_yes rfl ?_ ?_ | refine Runs.cond_nno rfl ?_ ?_); · first | omega | rfl | assumption | (simp only [List.length_map]; omega)) | ((first | refine Runs.cond_no rfl ?_ ?_ | refine Runs.cond_nyes rfl ?_ ?_); · first | omega | rfl | assumption | (simp only [List.length_map]; omega)) | refine Runs.ret (ends_ro hm rfl rfl ?_) | exact Runs.ret (ends_cellR hm rfl rfl rfl (Nat.le_of_ble_eq_true rfl) rfl rfl))
 | (refine RunsL.pe hn rfl rfl rfl ?_; first
 | refine ⟨_, pu_add rfl rfl (by omega), ?_⟩
          ))
      refine Runs.ctls 30 rfl (Runs.ret (endsM hnx hm0 rfl (by show AV.int _ = _; rw [List.take_length]) fun φ w hG => ?_))
      have hz := hgh.rels
      rw [List.drop_of_length_le (Nat.le_refl _), List.flatMap_nil] at hz
      simp only [OV.rels] at hz
      obtain ⟨rfl, rfl⟩ := hz
      have hd := hgd.rels
      rw [List.take_of_length_le (by rw [hml]; exact Nat.le_refl _)] at hd
      rw [List.append_nil] at hbs htk
      subst hbs
      unfold tresO
      refine block_rowN (by omega) (by rw [tresO_len, hml]) (OV.rels_keep _ _ _ hd fun b hb => hG.frm.block b (hgd.fix b hb).1 (hgd.fix b hb).2.1) (tres_one _ _ _ hd) (hb.now hG) c1 c2 hcu htk
theorem markTre_mk : ∀ v : Tre, ∀ k : Int, 0 ≤ k → k ≤ 1099513724928 → k + (mcosts v.items : Nat) ≤ 1099513724928 → v.total ≤ 1048576 → MK Tryz.prog 32 (tresO v.items) k (k + (mcosts v.items : Nat)) (tresO (mTres v.items k)) := by
  refine Tre.ind fun v ih k h0 hk hk' ht => ?_
  have he := v.total_eq
  exact markTreS_mk v.items ih k h0 hk hk' (by omega) (by omega)
theorem mitems_le (v : Tre) : v.bytes.length + mcosts v.items ≤ v.total := by rw [← mcost_eq]; exact mcost_le v
set_option maxHeartbeats 4000000 in
theorem markValue_mk (v : Tre) (k : Int) (h0 : 0 ≤ k) (hk : k ≤ 1099511627776) (ht : v.total ≤ 1048576) : MK Tryz.prog 14 (treO v) k (k + (v.bytes.length : Nat) + (mcosts v.items : Nat)) (treO (mTop v k)) := by
  intro w u bs h hnd hlt
  have hc := mitems_le v
  simp only [treO, OV.rel] at h
  obtain ⟨us, rfl, h⟩ := h
  obtain ⟨us⟩ := us
  obtain ⟨A, n, c, A', n', c', b1, b2, e, rfl, g1, g2⟩ := tre_open h
  simp only at e
  subst e
  rw [List.nodup_append] at hnd
  obtain ⟨n1, n2, n3⟩ := hnd
  refine mark_enter (X := fun w' => OV.rel w' (treO (mTop v k)) (.agg #[.int .i64 v.number, .slice A n c, .slice A' n' c']) (b1 ++ b2)) Tryz.func14 rfl _ Tryz.ntmps14 (by simp) hlt ?_
  generalize hC0 : (⟨w, fun b => b ∉ b1 ++ b2, fun _ => False, _⟩ : Ctx) = C0
  have hn : C0.n = 14 := by rw [← hC0]
  have hm0 : ∀ b, ¬ C0.mu b := by rw [← hC0]; exact fun _ h => h
  have G1 : Gh C0 (bytesO v.bytes) (.slice A n c) b1 := by rw [← hC0]; exact ⟨g1, fun b hb => ⟨hlt b (by simp [hb]), fun h => h, fun h => h (by simp [hb])⟩⟩
  have G2 : Gh C0 (tresO v.items) (.slice A' n' c') b2 := by rw [← hC0]; exact ⟨g2, fun b hb => ⟨hlt b (by simp [hb]), fun h => h, fun h => h (by simp [hb])⟩⟩
  repeat' (first
 | refine RunsL.step tabOk hn rfl ?_
 | refine RunsL.nil ?_
 | refine Runs.toRegion 30 rfl ?_
 | (refine Runs.ctls 30 rfl ?_; first | ((first | refine Runs.cond_yes rfl ?_ ?_ | refine Runs.cond_nno rfl ?_ ?_); · first | omega | rfl | assumption | (simp only [List.length_map]; omega)) | ((first | refine Runs.cond_no rfl ?_ ?_ | refine Runs.cond_nyes rfl ?_ ?_); · first | omega | rfl | assumption | (simp only [List.length_map]; omega)) | refine Runs.ret (ends_ro hm rfl rfl ?_) | exact Runs.ret (ends_cellR hm rfl rfl rfl (Nat.le_of_ble_eq_true rfl) rfl rfl))
 | refine op_box rfl (tl hn rfl) ?_
    )
  refine op_callK (markByteS_mk v.bytes k h0 (by omega) (by omega)) G1 n1 rfl (tl hn rfl) fun C1 x1 G1 => ?_
  have hn := x1.n.trans hn
  have G2 := G2.next x1 fun b hb hm => n3 b hm b hb rfl
  repeat' (first
 | refine RunsL.step tabOk hn rfl ?_
 | refine RunsL.nil ?_
 | refine Runs.toRegion 30 rfl ?_
 | (refine Runs.ctls 30 rfl ?_; first | ((first | refine Runs.cond_yes rfl ?_ ?_ | refine Runs.cond_nno rfl ?_ ?_); · first | omega | rfl | assumption | (simp only [List.length_map]; omega)) | ((first | refine Runs.cond_no rfl ?_ ?_ | refine Runs.cond_nyes rfl ?_ ?_); · first | omega | rfl | assumption | (simp only [List.length_map]; omega)) | refine Runs.ret (ends_ro hm rfl rfl ?_) | exact Runs.ret (ends_cellR hm rfl rfl rfl (Nat.le_of_ble_eq_true rfl) rfl rfl))
 | refine op_box rfl (tl hn rfl) ?_
    )
  refine op_callK (markTre_mk v _ (by omega) (by omega) (by omega) ht) G2 n2 rfl (tl hn rfl) fun C2 x2 G2 => ?_
  have hn := x2.n.trans hn
  have G1 := G1.next x2 fun b hb hm => n3 b hb b hm rfl
  repeat' (first
 | refine RunsL.step tabOk hn rfl ?_
 | refine RunsL.nil ?_
 | refine Runs.toRegion 30 rfl ?_
 | (refine Runs.ctls 30 rfl ?_; first | ((first | refine Runs.cond_yes rfl ?_ ?_ | refine Runs.cond_nno rfl ?_ ?_); · first | omega | rfl | assumption | (simp only [List.length_map]; omega)) | ((first | refine Runs.cond_no rfl ?_ ?_ | refine Runs.cond_nyes rfl ?_ ?_); · first | omega | rfl | assumption | (simp only [List.length_map]; omega)) | refine Runs.ret (ends_ro hm rfl rfl ?_) | exact Runs.ret (ends_cellR hm rfl rfl rfl (Nat.le_of_ble_eq_true rfl) rfl rfl))
 | refine op_box rfl (tl hn rfl) ?_
    )
  refine Runs.ctls 30 rfl (Runs.ret (endsM (x1.trans x2) hm0 rfl rfl fun φ w hG => ?_))
  have r1 := G1.rel
  rw [seqB_O] at r1
  have hnew : OV.rel C2.w0 (treO (mTop v k)) (.agg #[.int .i64 v.number, .slice A n c, .slice A' n' c']) (b1 ++ b2) := by
    simp only [treO, OV.rel]
    exact ⟨_, rfl, tre_shut (v := mTop v k) r1 G2.rel⟩
  exact OV.rel_keep _ _ _ hnew fun b hb => hG.frm.block b (by
    rcases List.mem_append.1 hb with hb | hb
    · exact (G1.fix b hb).1
    · exact (G2.fix b hb).1) (by
    rcases List.mem_append.1 hb with hb | hb
    · exact (G1.fix b hb).2.1
    · exact (G2.fix b hb).2.1)
theorem markValue_mx (v : Tre) (k : Int) (h0 : 0 ≤ k) (hk : k ≤ 1099511627776) (ht : v.total ≤ 1048576) : MX Tryz.prog 14 (treO v) k (k + (v.bytes.length : Nat) + (mcosts v.items : Nat)) := (markValue_mk v k h0 hk ht).mx
end Go.Proofs.YtkmoffefhlmgeaaGreatDoor
/- Rows of instructions, taken as data. -/
namespace Go.Proofs.YtkmoffefhlmgeaaGreatDoor
set_option linter.unusedSimpArgs false
set_option linter.unusedVariables false
set_option linter.unusedSectionVars false
set_option maxRecDepth 100000
open Go.RowKit
end Go.Proofs.YtkmoffefhlmgeaaGreatDoor
/- Marks on rows of instructions, on programs. -/
namespace Go.Proofs.YtkmoffefhlmgeaaGreatDoor
set_option linter.unusedSimpArgs false
set_option linter.unusedVariables false
set_option linter.unusedSectionVars false
set_option maxRecDepth 100000
open Go.RowKit
open AV (Mem Keeps)
end Go.Proofs.YtkmoffefhlmgeaaGreatDoor
/- Marks on programs. -/
namespace Go.Proofs.YtkmoffefhlmgeaaGreatDoor
set_option linter.unusedSimpArgs false
set_option linter.unusedVariables false
set_option linter.unusedSectionVars false
set_option maxRecDepth 100000
open Go.RowKit
open AV (Mem Keeps)
end Go.Proofs.YtkmoffefhlmgeaaGreatDoor
