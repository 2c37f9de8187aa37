/- The law FnFirstBytes holds: for every input the Go function returns true, and each argument reads as before. No condition. -/
import Derived.Test.YtnecoghfhcimeaaRows
import Derived.Test.YtnecoghfhcimeaaGat0
import Derived.Test.YtnecoghfhcimeaaGat1
import Derived.Test.YtnecoghfhcimeaaGat2
import Derived.Test.YtnecoghfhcimeaaGat3
import Derived.Test.YtnecoghfhcimeaaGat4
import Derived.Test.YtnecoghfhcimeaaGat5
import Derived.Test.YtnecoghfhcimeaaGat6
import Derived.WalkKit
import Derived.ProofKit
import Derived.OpenShut
import Derived.ShutString
import Derived.ChangeOld
import Derived.Below
import Derived.Outline
namespace Go.Proofs.Ytnecoghfhcimeaa.fnFirstBytes
set_option linter.unusedSimpArgs false
set_option linter.unusedVariables false
open Go.ChangeShapes Go.WideShapes Go.ChangeAt Go.RowKit
open Go.ChangeMaps (open_string shut_string)
theorem own : ownKnob Try.prog.godebug = none := by kernel_rfl
theorem laidOut : laidOutB Try.prog = true := by kernel_rfl
theorem fst_prop {p : Nat → Bool} : ∀ {n : Nat}, 0 ≤ fst p n → p (fst p n).toNat = true
  | 0, h => by simp [fst] at h
  | n + 1, h => by
    rw [fst] at h ⊢
    by_cases h0 : 0 ≤ fst p n
    · rw [if_pos h0]; exact fst_prop h0
    · rw [if_neg h0] at h ⊢
      by_cases hp : p n = true
      · rw [if_pos hp, Int.toNat_natCast]; exact hp
      · rw [if_neg hp] at h; omega
theorem fst_some {p : Nat → Bool} {j : Nat} (h : p j = true) : ∀ {n : Nat}, j < n → 0 ≤ fst p n
  | 0, hn => by omega
  | n + 1, hn => by
    rw [fst]
    by_cases h0 : 0 ≤ fst p n
    · rw [if_pos h0]; exact h0
    · rw [if_neg h0]
      by_cases e : j = n
      · subst e; rw [if_pos h]; omega
      · exact absurd (fst_some h (show j < n by omega)) h0
theorem cnt_pos {p : Nat → Bool} {j : Nat} (h : p j = true) : ∀ {n : Nat}, j < n → 1 ≤ cnt p n
  | 0, hn => by omega
  | n + 1, hn => by
    rw [cnt]
    by_cases e : j = n
    · subst e; rw [if_pos h]; omega
    · have := cnt_pos h (show j < n by omega); omega
/-- A common byte starts both. -/
theorem com_can {d : Des} {a b : Int} (h : 0 ≤ com d a b) : canB d a (com d a b) = true ∧ canB d b (com d a b) = true := by
  unfold com at h ⊢
  generalize 256 = M at h ⊢
  have h1 := fst_prop h
  have h2 := Bool.and_eq_true_iff.1 h1
  rw [canN_eq, canN_eq, Int.toNat_of_nonneg h] at h2
  exact h2
theorem com_I64 {d : Des} {a b : Int} : -1 ≤ com d a b ∧ com d a b ≤ 255 := by
  unfold com
  generalize hM : 256 = M
  have := fst_ge (p := fun x => canN d a x && canN d b x) (n := M)
  omega
theorem com_some {d : Des} {a : Int} {j : Nat} (h : canN d a j = true) (hj : j < 256) : 0 ≤ com d a a := by
  unfold com
  generalize 256 = M at hj ⊢
  exact fst_some (j := j) (by simp only [h]; rfl) hj
theorem cnt_can {d : Des} {a : Int} {j : Nat} (h : canN d a j = true) (hj : j < 256) : 1 ≤ cnt (canN d a) 256 := by
  generalize 256 = M at hj ⊢
  exact cnt_pos h hj
set_option maxRecDepth 100000 in
set_option maxHeartbeats 16000000 in
theorem law_ac (code : List UInt8) (wl : code.length ≤ maxLen) : ACv Try.prog 7 [bytesR code] (.bool true) := by
  have hB := big_ac code
  refine ac_enter Try.func7 rfl _ Try.ntmps7 (by simp) fun C hn hm => ?_
  by_cases hbig : (1048576 : Int) < code.length
  · repeat' (first
    | refine RunsL.step tabOk hn rfl ?_
    | refine RunsL.nil ?_
    | refine Runs.toRegion 30 rfl ?_
    | ((first | refine RunsL.pe hn rfl rfl rfl ?_ | refine RunsD.pe rfl rfl ?_); first
      | refine ⟨_, pu_callR hB rfl, ?_⟩)
    | (refine Runs.ctls 30 rfl ?_; first | refine Runs.cond_t rfl ?_ | refine Runs.cond_f rfl ?_ | ((first | refine Runs.cond_yes rfl ?_ ?_ | refine Runs.cond_nno rfl ?_ ?_); · first | omega | rfl | assumption | (simp only [List.length_map]; omega)) | ((first | refine Runs.cond_no rfl ?_ ?_ | refine Runs.cond_nyes rfl ?_ ?_); · first | omega | rfl | assumption | (simp only [List.length_map]; omega)) | refine Runs.ret (ends_ro hm rfl rfl ?_) | exact Runs.ret (ends_cellR hm rfl rfl rfl (Nat.le_of_ble_eq_true rfl) rfl rfl))
    | refine op_alloc (tl hn rfl) ?_
    | refine op_storeN rfl rfl rfl rfl (Nat.le_of_ble_eq_true rfl) ?_
    | refine RunsD.step tabOk hn rfl rfl ?_
    | refine RunsD.nil ?_
    | refine Runs.toDraw 30 mixed hn rfl (by kernel_rfl) rfl ?_
    | ((first | refine RunsL.pe hn rfl rfl rfl ?_ | refine RunsD.pe rfl rfl ?_); first
      | refine ⟨_, pu_add rfl rfl (by omega), ?_⟩
      | refine ⟨_, pu_indexAddr_map rfl rfl (by omega) (by assumption), ?_⟩
      | refine ⟨_, pu_sub rfl rfl (by omega), ?_⟩
      | refine ⟨_, pu_pick_b rfl rfl rfl, ?_⟩
      | refine ⟨_, pu_mul rfl rfl (by omega), ?_⟩
      | refine ⟨_, pu_build rfl rfl rfl rfl rfl rfl, ?_⟩)
    | ((first | refine RunsL.guard_dec rfl rfl rfl ?_ ?_ | refine RunsL.guard_ndec rfl rfl rfl ?_ ?_ | refine RunsL.guard_nb rfl rfl rfl ?_ ?_ | refine RunsL.guard_b rfl rfl rfl ?_ ?_ | refine RunsD.guard_dec rfl rfl rfl ?_ ?_ | refine RunsD.guard_ndec rfl rfl rfl ?_ ?_ | refine RunsD.guard_nb rfl rfl rfl ?_ ?_ | refine RunsD.guard_b rfl rfl rfl ?_ ?_) <;> intro h <;> try (exfalso; first | omega | contradiction | (simp only [List.length_map] at h; omega))))
    all_goals exact rr_bool rfl
  have hl : code.length ≤ 1048576 := by omega
  repeat' (first
    | (refine op_callQ (drawValue_ac code hl) qval_ok rfl (tl hn rfl) ?_; rintro _ ⟨d, v, rfl, hD, hv⟩; have hlm : (d.map rulR).length = d.length := List.length_map ..)
    | ((first | refine RunsL.pe hn rfl rfl rfl ?_ | refine RunsD.pe rfl rfl ?_); first
      | refine ⟨_, pu_len_seqN d.length rfl hlm, ?_⟩)
    | refine RunsL.step tabOk hn rfl ?_
    | refine RunsL.nil ?_
    | refine Runs.toRegion 30 rfl ?_
    | ((first | refine RunsL.pe hn rfl rfl rfl ?_ | refine RunsD.pe rfl rfl ?_); first
      | refine ⟨_, pu_callR hB rfl, ?_⟩)
    | (refine Runs.ctls 30 rfl ?_; first | refine Runs.cond_t rfl ?_ | refine Runs.cond_f rfl ?_ | ((first | refine Runs.cond_yes rfl ?_ ?_ | refine Runs.cond_nno rfl ?_ ?_); · first | omega | rfl | assumption | (simp only [List.length_map]; omega)) | ((first | refine Runs.cond_no rfl ?_ ?_ | refine Runs.cond_nyes rfl ?_ ?_); · first | omega | rfl | assumption | (simp only [List.length_map]; omega)) | refine Runs.ret (ends_ro hm rfl rfl ?_) | exact Runs.ret (ends_cellR hm rfl rfl rfl (Nat.le_of_ble_eq_true rfl) rfl rfl))
    | refine op_alloc (tl hn rfl) ?_
    | refine op_storeN rfl rfl rfl rfl (Nat.le_of_ble_eq_true rfl) ?_
    | refine RunsD.step tabOk hn rfl rfl ?_
    | refine RunsD.nil ?_
    | refine Runs.toDraw 30 mixed hn rfl (by kernel_rfl) rfl ?_
    | ((first | refine RunsL.pe hn rfl rfl rfl ?_ | refine RunsD.pe rfl rfl ?_); first
      | refine ⟨_, pu_add rfl rfl (by omega), ?_⟩
      | refine ⟨_, pu_indexAddr_map rfl rfl (by omega) (by assumption), ?_⟩
      | refine ⟨_, pu_sub rfl rfl (by omega), ?_⟩
      | refine ⟨_, pu_pick_b rfl rfl rfl, ?_⟩
      | refine ⟨_, pu_mul rfl rfl (by omega), ?_⟩
      | refine ⟨_, pu_build rfl rfl rfl rfl rfl rfl, ?_⟩)
    | ((first | refine RunsL.guard_dec rfl rfl rfl ?_ ?_ | refine RunsL.guard_ndec rfl rfl rfl ?_ ?_ | refine RunsL.guard_nb rfl rfl rfl ?_ ?_ | refine RunsL.guard_b rfl rfl rfl ?_ ?_ | refine RunsD.guard_dec rfl rfl rfl ?_ ?_ | refine RunsD.guard_ndec rfl rfl rfl ?_ ?_ | refine RunsD.guard_nb rfl rfl rfl ?_ ?_ | refine RunsD.guard_b rfl rfl rfl ?_ ?_) <;> intro h <;> try (exfalso; first | omega | contradiction | (simp only [List.length_map] at h; omega))))
  have hG := hD.good
  have hd1 := hG.1
  have hd6 := hD.most
  obtain ⟨x, hx⟩ : ∃ x, d[d.length - 1]? = some x := ⟨_, List.getElem?_eq_getElem (by omega)⟩
  have hr : ((d.length - 1 : Nat) : Int) = (d.length : Int) - 1 := by omega
  have ht : v.total ≤ 16384 := by
    have h1 := hv.total
    have h2 : 4 ^ (d.length - 1) ≤ 4 ^ 5 := Nat.pow_le_pow_right (by omega) (by omega)
    unfold tb at h1
    omega
  have hdo := hD.desOk
  have hdt : dtotal d ≤ 1048576 := by have := hD.total; omega
  have hKn : ∀ i : Nat, i < d.length → Kn d (i : Int) := fun i hi => ⟨hG, by unfold HasR; omega⟩
  have hKr : Kn d ((d.length : Int) - 1) := by rw [← hr]; exact hKn _ (by omega)
  obtain ⟨bs, ok, hPF, hp⟩ := printFile_ac hD v hv.ok ht x hx hv.vld
  obtain ⟨bs1, _, hp1⟩ := print_ac hD v hv.ok ht _ x hx hv.vld
  have hcan : ∀ c : UInt8, stB d (d.length - 1 + 1) (d.length - 1) c.toNat = true → canB d ((d.length : Int) - 1) (c.toNat : Int) = true := fun c hc => by
    have := c.toNat_lt
    rw [canB_yes ⟨hKr, by omega, by omega⟩, ← hr, Int.toNat_natCast, Int.toNat_natCast]
    exact hc
  have hc1 := hcan _ hp1.first
  have hcnt1 : 1 ≤ cnt (canN d ((d.length : Int) - 1)) 256 := cnt_can (j := (bs1.headD 0).toNat) (by rw [canN_eq]; exact hc1) (by have := (bs1.headD 0).toNat_lt; omega)
  have hcnt2 := cnt_le (canN d ((d.length : Int) - 1)) 256
  have hCF := impl_CountFirstBytes d hdo hdt ((d.length : Int) - 1)
  have hOS := impl_OnlyStart d hdo hdt ((d.length : Int) - 1)
  generalize hN : cnt (canN d ((d.length : Int) - 1)) 256 = N at hcnt1 hcnt2 hCF
  have hon : (N = 1 → 0 ≤ only1 d ((d.length : Int) - 1)) ∧ (N ≠ 1 → only1 d ((d.length : Int) - 1) = -1) ∧ (0 ≤ only1 d ((d.length : Int) - 1) → canB d ((d.length : Int) - 1) (only1 d ((d.length : Int) - 1)) = true) ∧ -1 ≤ only1 d ((d.length : Int) - 1) ∧ only1 d ((d.length : Int) - 1) ≤ 255 := by
    unfold only1
    rw [hN]
    have hcI := com_I64 (d := d) (a := (d.length : Int) - 1) (b := (d.length : Int) - 1)
    by_cases h1 : N = 1
    · rw [if_pos h1]
      refine ⟨fun _ => ?_, fun e => absurd h1 e, fun e => (com_can e).1, hcI.1, hcI.2⟩
      exact com_some (j := (bs1.headD 0).toNat) (by rw [canN_eq]; exact hc1) (by have := (bs1.headD 0).toNat_lt; omega)
    · rw [if_neg h1]
      exact ⟨fun e => absurd e h1, fun _ => rfl, fun e => by omega, by omega, by omega⟩
  generalize hO : only1 d ((d.length : Int) - 1) = O at hon hOS
  obtain ⟨hon1, hon2, hon3, hon4, hon5⟩ := hon
  have hC3 := impl_CanStart d hdo hdt ((d.length : Int) - 1) O
  have hC4 := impl_CanStart d hdo hdt ((d.length : Int) - 1) 256
  rw [canB_no (by omega)] at hC4
  have hready : ∃ c : UInt8, (ok = true → bs[(0 : Int).toNat]? = some c) ∧ (ok = true → ACv Try.prog 29 [desR d, .int ((d.length : Int) - 1), .int (c.toNat : Int)] (.bool true)) := by
    refine ⟨bs.headD 0, fun e => ?_, fun e => ?_⟩
    · have := (hp e).pos
      cases bs with
      | nil => simp at this
      | cons c bs => rfl
    · have h1 := impl_CanStart d hdo hdt ((d.length : Int) - 1) ((bs.headD 0).toNat : Int)
      rw [hcan _ (hp e).first] at h1
      exact h1
  obtain ⟨c, hc0, hc2⟩ := hready
  have hcl := c.toNat_lt
  cases ok
  case' true =>
    have hc0 := hc0 rfl
    have hc2 := hc2 rfl
    repeat' (first
      | refine RunsL.step tabOk hn rfl ?_
      | refine RunsL.nil ?_
      | refine Runs.toRegion 30 rfl ?_
      | ((first | refine RunsL.pe hn rfl rfl rfl ?_ | refine RunsD.pe rfl rfl ?_); first
        | refine ⟨_, pu_callR hPF rfl, ?_⟩
        | refine ⟨_, pu_callR hc2 rfl, ?_⟩
        | refine ⟨_, pu_callR hCF rfl, ?_⟩
        | refine ⟨_, pu_callR hOS rfl, ?_⟩
        | refine ⟨_, pu_ofU8 rfl, ?_⟩)
      | (refine Runs.ctls 30 rfl ?_; first | refine Runs.cond_t rfl ?_ | refine Runs.cond_f rfl ?_ | ((first | refine Runs.cond_yes rfl ?_ ?_ | refine Runs.cond_nno rfl ?_ ?_); · first | omega | rfl | assumption | (simp only [List.length_map]; omega)) | ((first | refine Runs.cond_no rfl ?_ ?_ | refine Runs.cond_nyes rfl ?_ ?_); · first | omega | rfl | assumption | (simp only [List.length_map]; omega)) | refine Runs.ret (ends_ro hm rfl rfl ?_) | exact Runs.ret (ends_cellR hm rfl rfl rfl (Nat.le_of_ble_eq_true rfl) rfl rfl))
      | refine op_alloc (tl hn rfl) ?_
      | refine op_storeN rfl rfl rfl rfl (Nat.le_of_ble_eq_true rfl) ?_
      | refine RunsD.step tabOk hn rfl rfl ?_
      | refine RunsD.nil ?_
      | refine Runs.toDraw 30 mixed hn rfl (by kernel_rfl) rfl ?_
      | ((first | refine RunsL.pe hn rfl rfl rfl ?_ | refine RunsD.pe rfl rfl ?_); first
        | refine ⟨_, pu_add rfl rfl (by omega), ?_⟩
        | refine ⟨_, pu_indexAddr_map rfl rfl (by omega) (by assumption), ?_⟩
        | refine ⟨_, pu_sub rfl rfl (by omega), ?_⟩
        | refine ⟨_, pu_pick_b rfl rfl rfl, ?_⟩
        | refine ⟨_, pu_mul rfl rfl (by omega), ?_⟩
        | refine ⟨_, pu_build rfl rfl rfl rfl rfl rfl, ?_⟩)
      | ((first | refine RunsL.guard_dec rfl rfl rfl ?_ ?_ | refine RunsL.guard_ndec rfl rfl rfl ?_ ?_ | refine RunsL.guard_nb rfl rfl rfl ?_ ?_ | refine RunsL.guard_b rfl rfl rfl ?_ ?_ | refine RunsD.guard_dec rfl rfl rfl ?_ ?_ | refine RunsD.guard_ndec rfl rfl rfl ?_ ?_ | refine RunsD.guard_nb rfl rfl rfl ?_ ?_ | refine RunsD.guard_b rfl rfl rfl ?_ ?_) <;> intro h <;> try (exfalso; first | omega | contradiction | (simp only [List.length_map] at h; omega))))
  case' false =>
    repeat' (first
      | refine RunsL.step tabOk hn rfl ?_
      | refine RunsL.nil ?_
      | refine Runs.toRegion 30 rfl ?_
      | ((first | refine RunsL.pe hn rfl rfl rfl ?_ | refine RunsD.pe rfl rfl ?_); first
        | refine ⟨_, pu_callR hPF rfl, ?_⟩
        | refine ⟨_, pu_callR hCF rfl, ?_⟩
        | refine ⟨_, pu_callR hOS rfl, ?_⟩)
      | (refine Runs.ctls 30 rfl ?_; first | refine Runs.cond_t rfl ?_ | refine Runs.cond_f rfl ?_ | ((first | refine Runs.cond_yes rfl ?_ ?_ | refine Runs.cond_nno rfl ?_ ?_); · first | omega | rfl | assumption | (simp only [List.length_map]; omega)) | ((first | refine Runs.cond_no rfl ?_ ?_ | refine Runs.cond_nyes rfl ?_ ?_); · first | omega | rfl | assumption | (simp only [List.length_map]; omega)) | refine Runs.ret (ends_ro hm rfl rfl ?_) | exact Runs.ret (ends_cellR hm rfl rfl rfl (Nat.le_of_ble_eq_true rfl) rfl rfl))
      | refine op_alloc (tl hn rfl) ?_
      | refine op_storeN rfl rfl rfl rfl (Nat.le_of_ble_eq_true rfl) ?_
      | refine RunsD.step tabOk hn rfl rfl ?_
      | refine RunsD.nil ?_
      | refine Runs.toDraw 30 mixed hn rfl (by kernel_rfl) rfl ?_
      | ((first | refine RunsL.pe hn rfl rfl rfl ?_ | refine RunsD.pe rfl rfl ?_); first
        | refine ⟨_, pu_add rfl rfl (by omega), ?_⟩
        | refine ⟨_, pu_indexAddr_map rfl rfl (by omega) (by assumption), ?_⟩
        | refine ⟨_, pu_sub rfl rfl (by omega), ?_⟩
        | refine ⟨_, pu_pick_b rfl rfl rfl, ?_⟩
        | refine ⟨_, pu_mul rfl rfl (by omega), ?_⟩
        | refine ⟨_, pu_build rfl rfl rfl rfl rfl rfl, ?_⟩)
      | ((first | refine RunsL.guard_dec rfl rfl rfl ?_ ?_ | refine RunsL.guard_ndec rfl rfl rfl ?_ ?_ | refine RunsL.guard_nb rfl rfl rfl ?_ ?_ | refine RunsL.guard_b rfl rfl rfl ?_ ?_ | refine RunsD.guard_dec rfl rfl rfl ?_ ?_ | refine RunsD.guard_ndec rfl rfl rfl ?_ ?_ | refine RunsD.guard_nb rfl rfl rfl ?_ ?_ | refine RunsD.guard_b rfl rfl rfl ?_ ?_) <;> intro h <;> try (exfalso; first | omega | contradiction | (simp only [List.length_map] at h; omega))))
  all_goals
    refine Runs.loopN 30 rfl (fun j => [(3, .obj 0 0), (4, .obj 1 0), (5, .int ((d.length : Int) - 1)), (8, .int (N : Int)), (9, .int O), (10, .int (j : Int))]) (fun _ => [⟨38, 0, [.ro (rulsR d)]⟩, ⟨29, 0, [.int v.number, .ro (bytesR v.bytes), .ro (tresR v.items)]⟩]) (fun _ => True) d.length 0 (Nat.zero_le _) trivial ⟨rfl, rfl, rfl, rfl, rfl, rfl, trivial⟩ rfl fun j hj _ next => ?_
    by_cases hlt : j < d.length
    · have hK := hKn j hlt
      have hA := impl_AreDisjoint d hdo hdt j ((d.length : Int) - 1)
      have hC := impl_CommonStart d hdo hdt j ((d.length : Int) - 1)
      have hc4 := com_I64 (d := d) (a := j) (b := (d.length : Int) - 1)
      have hc5 := com_can (d := d) (a := j) (b := (d.length : Int) - 1)
      have hS1 := impl_CanStart d hdo hdt j (com d j ((d.length : Int) - 1))
      have hS2 := impl_CanStart d hdo hdt ((d.length : Int) - 1) (com d j ((d.length : Int) - 1))
      by_cases hq0 : com d j ((d.length : Int) - 1) < 0
      · rw [decide_eq_true ⟨hK, hKr, hq0⟩] at hA
        repeat' (first
          | ((first | refine RunsL.pe hn rfl rfl rfl ?_ | refine RunsD.pe rfl rfl ?_); first
            | refine ⟨_, pu_len_seqN d.length rfl hlm, ?_⟩)
          | refine RunsL.step tabOk hn rfl ?_
          | refine RunsL.nil ?_
          | refine Runs.toRegion 30 rfl ?_
          | ((first | refine RunsL.pe hn rfl rfl rfl ?_ | refine RunsD.pe rfl rfl ?_); first
            | refine ⟨_, pu_callR hA rfl, ?_⟩
            | refine ⟨_, pu_callR hC rfl, ?_⟩
            | refine ⟨_, pu_callR hS1 rfl, ?_⟩
            | refine ⟨_, pu_callR hS2 rfl, ?_⟩)
          | (refine Runs.ctls 30 rfl ?_; first | refine Runs.cond_t rfl ?_ | refine Runs.cond_f rfl ?_ | ((first | refine Runs.cond_yes rfl ?_ ?_ | refine Runs.cond_nno rfl ?_ ?_); · first | omega | rfl | assumption | (simp only [List.length_map]; omega)) | ((first | refine Runs.cond_no rfl ?_ ?_ | refine Runs.cond_nyes rfl ?_ ?_); · first | omega | rfl | assumption | (simp only [List.length_map]; omega)) | refine Runs.ret (ends_ro hm rfl rfl ?_) | exact Runs.ret (ends_cellR hm rfl rfl rfl (Nat.le_of_ble_eq_true rfl) rfl rfl))
          | refine op_alloc (tl hn rfl) ?_
          | refine op_storeN rfl rfl rfl rfl (Nat.le_of_ble_eq_true rfl) ?_
          | refine RunsD.step tabOk hn rfl rfl ?_
          | refine RunsD.nil ?_
          | refine Runs.toDraw 30 mixed hn rfl (by kernel_rfl) rfl ?_
          | ((first | refine RunsL.pe hn rfl rfl rfl ?_ | refine RunsD.pe rfl rfl ?_); first
            | refine ⟨_, pu_add rfl rfl (by omega), ?_⟩
            | refine ⟨_, pu_indexAddr_map rfl rfl (by omega) (by assumption), ?_⟩
            | refine ⟨_, pu_sub rfl rfl (by omega), ?_⟩
            | refine ⟨_, pu_pick_b rfl rfl rfl, ?_⟩
            | refine ⟨_, pu_mul rfl rfl (by omega), ?_⟩
            | refine ⟨_, pu_build rfl rfl rfl rfl rfl rfl, ?_⟩)
          | ((first | refine RunsL.guard_dec rfl rfl rfl ?_ ?_ | refine RunsL.guard_ndec rfl rfl rfl ?_ ?_ | refine RunsL.guard_nb rfl rfl rfl ?_ ?_ | refine RunsL.guard_b rfl rfl rfl ?_ ?_ | refine RunsD.guard_dec rfl rfl rfl ?_ ?_ | refine RunsD.guard_ndec rfl rfl rfl ?_ ?_ | refine RunsD.guard_nb rfl rfl rfl ?_ ?_ | refine RunsD.guard_b rfl rfl rfl ?_ ?_) <;> intro h <;> try (exfalso; first | omega | contradiction | (simp only [List.length_map] at h; omega))))
        all_goals first
          | exact next _ _ ⟨rfl, rfl, rfl, rfl, rfl, rfl, trivial⟩ hlt trivial rfl
          | (exfalso; revert h; simp only [hq0, decide_true, decide_false, ne_eq, not_true_eq_false, Bool.true_eq_false, Bool.false_eq_true, not_false_eq_true, false_implies, reduceCtorEq]; done)
          | (exfalso; simp [hq0] at h; done)
          | (exfalso; omega)
      · rw [decide_eq_false fun h => hq0 h.2.2] at hA
        rw [(hc5 (by omega)).1] at hS1
        rw [(hc5 (by omega)).2] at hS2
        repeat' (first
          | ((first | refine RunsL.pe hn rfl rfl rfl ?_ | refine RunsD.pe rfl rfl ?_); first
            | refine ⟨_, pu_len_seqN d.length rfl hlm, ?_⟩)
          | refine RunsL.step tabOk hn rfl ?_
          | refine RunsL.nil ?_
          | refine Runs.toRegion 30 rfl ?_
          | ((first | refine RunsL.pe hn rfl rfl rfl ?_ | refine RunsD.pe rfl rfl ?_); first
            | refine ⟨_, pu_callR hA rfl, ?_⟩
            | refine ⟨_, pu_callR hC rfl, ?_⟩
            | refine ⟨_, pu_callR hS1 rfl, ?_⟩
            | refine ⟨_, pu_callR hS2 rfl, ?_⟩)
          | (refine Runs.ctls 30 rfl ?_; first | refine Runs.cond_t rfl ?_ | refine Runs.cond_f rfl ?_ | ((first | refine Runs.cond_yes rfl ?_ ?_ | refine Runs.cond_nno rfl ?_ ?_); · first | omega | rfl | assumption | (simp only [List.length_map]; omega)) | ((first | refine Runs.cond_no rfl ?_ ?_ | refine Runs.cond_nyes rfl ?_ ?_); · first | omega | rfl | assumption | (simp only [List.length_map]; omega)) | refine Runs.ret (ends_ro hm rfl rfl ?_) | exact Runs.ret (ends_cellR hm rfl rfl rfl (Nat.le_of_ble_eq_true rfl) rfl rfl))
          | refine op_alloc (tl hn rfl) ?_
          | refine op_storeN rfl rfl rfl rfl (Nat.le_of_ble_eq_true rfl) ?_
          | refine RunsD.step tabOk hn rfl rfl ?_
          | refine RunsD.nil ?_
          | refine Runs.toDraw 30 mixed hn rfl (by kernel_rfl) rfl ?_
          | ((first | refine RunsL.pe hn rfl rfl rfl ?_ | refine RunsD.pe rfl rfl ?_); first
            | refine ⟨_, pu_add rfl rfl (by omega), ?_⟩
            | refine ⟨_, pu_indexAddr_map rfl rfl (by omega) (by assumption), ?_⟩
            | refine ⟨_, pu_sub rfl rfl (by omega), ?_⟩
            | refine ⟨_, pu_pick_b rfl rfl rfl, ?_⟩
            | refine ⟨_, pu_mul rfl rfl (by omega), ?_⟩
            | refine ⟨_, pu_build rfl rfl rfl rfl rfl rfl, ?_⟩)
          | ((first | refine RunsL.guard_dec rfl rfl rfl ?_ ?_ | refine RunsL.guard_ndec rfl rfl rfl ?_ ?_ | refine RunsL.guard_nb rfl rfl rfl ?_ ?_ | refine RunsL.guard_b rfl rfl rfl ?_ ?_ | refine RunsD.guard_dec rfl rfl rfl ?_ ?_ | refine RunsD.guard_ndec rfl rfl rfl ?_ ?_ | refine RunsD.guard_nb rfl rfl rfl ?_ ?_ | refine RunsD.guard_b rfl rfl rfl ?_ ?_) <;> intro h <;> try (exfalso; first | omega | contradiction | (simp only [List.length_map] at h; omega))))
        all_goals first
          | exact next _ _ ⟨rfl, rfl, rfl, rfl, rfl, rfl, trivial⟩ hlt trivial rfl
          | (exfalso; revert h; simp only [hq0, decide_true, decide_false, ne_eq, not_true_eq_false, Bool.true_eq_false, Bool.false_eq_true, not_false_eq_true, false_implies, reduceCtorEq]; done)
          | (exfalso; simp [hq0] at h; done)
          | (exfalso; omega)
    · by_cases hN1 : N = 1
      · have hO0 := hon1 hN1
        rw [hon3 hO0] at hC3
        repeat' (first
          | ((first | refine RunsL.pe hn rfl rfl rfl ?_ | refine RunsD.pe rfl rfl ?_); first
            | refine ⟨_, pu_len_seqN d.length rfl hlm, ?_⟩)
          | refine RunsL.step tabOk hn rfl ?_
          | refine RunsL.nil ?_
          | refine Runs.toRegion 30 rfl ?_
          | ((first | refine RunsL.pe hn rfl rfl rfl ?_ | refine RunsD.pe rfl rfl ?_); first
            | refine ⟨_, pu_callR hC3 rfl, ?_⟩
            | refine ⟨_, pu_callR hC4 rfl, ?_⟩)
          | (refine Runs.ctls 30 rfl ?_; first | refine Runs.cond_t rfl ?_ | refine Runs.cond_f rfl ?_ | ((first | refine Runs.cond_yes rfl ?_ ?_ | refine Runs.cond_nno rfl ?_ ?_); · first | omega | rfl | assumption | (simp only [List.length_map]; omega)) | ((first | refine Runs.cond_no rfl ?_ ?_ | refine Runs.cond_nyes rfl ?_ ?_); · first | omega | rfl | assumption | (simp only [List.length_map]; omega)) | refine Runs.ret (ends_ro hm rfl rfl ?_) | exact Runs.ret (ends_cellR hm rfl rfl rfl (Nat.le_of_ble_eq_true rfl) rfl rfl))
          | refine op_alloc (tl hn rfl) ?_
          | refine op_storeN rfl rfl rfl rfl (Nat.le_of_ble_eq_true rfl) ?_
          | refine RunsD.step tabOk hn rfl rfl ?_
          | refine RunsD.nil ?_
          | refine Runs.toDraw 30 mixed hn rfl (by kernel_rfl) rfl ?_
          | ((first | refine RunsL.pe hn rfl rfl rfl ?_ | refine RunsD.pe rfl rfl ?_); first
            | refine ⟨_, pu_add rfl rfl (by omega), ?_⟩
            | refine ⟨_, pu_indexAddr_map rfl rfl (by omega) (by assumption), ?_⟩
            | refine ⟨_, pu_sub rfl rfl (by omega), ?_⟩
            | refine ⟨_, pu_pick_b rfl rfl rfl, ?_⟩
            | refine ⟨_, pu_mul rfl rfl (by omega), ?_⟩
            | refine ⟨_, pu_build rfl rfl rfl rfl rfl rfl, ?_⟩)
          | ((first | refine RunsL.guard_dec rfl rfl rfl ?_ ?_ | refine RunsL.guard_ndec rfl rfl rfl ?_ ?_ | refine RunsL.guard_nb rfl rfl rfl ?_ ?_ | refine RunsL.guard_b rfl rfl rfl ?_ ?_ | refine RunsD.guard_dec rfl rfl rfl ?_ ?_ | refine RunsD.guard_ndec rfl rfl rfl ?_ ?_ | refine RunsD.guard_nb rfl rfl rfl ?_ ?_ | refine RunsD.guard_b rfl rfl rfl ?_ ?_) <;> intro h <;> try (exfalso; first | omega | contradiction | (simp only [List.length_map] at h; omega))))
        all_goals first
          | exact rr_bool rfl
          | (exfalso; omega)
          | (exfalso; refine h ?_; rw [decide_eq_true (by omega), decide_eq_true (by omega)])
      · have hO0 := hon2 hN1
        repeat' (first
          | ((first | refine RunsL.pe hn rfl rfl rfl ?_ | refine RunsD.pe rfl rfl ?_); first
            | refine ⟨_, pu_len_seqN d.length rfl hlm, ?_⟩)
          | refine RunsL.step tabOk hn rfl ?_
          | refine RunsL.nil ?_
          | refine Runs.toRegion 30 rfl ?_
          | ((first | refine RunsL.pe hn rfl rfl rfl ?_ | refine RunsD.pe rfl rfl ?_); first
            | refine ⟨_, pu_callR hC3 rfl, ?_⟩
            | refine ⟨_, pu_callR hC4 rfl, ?_⟩)
          | (refine Runs.ctls 30 rfl ?_; first | refine Runs.cond_t rfl ?_ | refine Runs.cond_f rfl ?_ | ((first | refine Runs.cond_yes rfl ?_ ?_ | refine Runs.cond_nno rfl ?_ ?_); · first | omega | rfl | assumption | (simp only [List.length_map]; omega)) | ((first | refine Runs.cond_no rfl ?_ ?_ | refine Runs.cond_nyes rfl ?_ ?_); · first | omega | rfl | assumption | (simp only [List.length_map]; omega)) | refine Runs.ret (ends_ro hm rfl rfl ?_) | exact Runs.ret (ends_cellR hm rfl rfl rfl (Nat.le_of_ble_eq_true rfl) rfl rfl))
          | refine op_alloc (tl hn rfl) ?_
          | refine op_storeN rfl rfl rfl rfl (Nat.le_of_ble_eq_true rfl) ?_
          | refine RunsD.step tabOk hn rfl rfl ?_
          | refine RunsD.nil ?_
          | refine Runs.toDraw 30 mixed hn rfl (by kernel_rfl) rfl ?_
          | ((first | refine RunsL.pe hn rfl rfl rfl ?_ | refine RunsD.pe rfl rfl ?_); first
            | refine ⟨_, pu_add rfl rfl (by omega), ?_⟩
            | refine ⟨_, pu_indexAddr_map rfl rfl (by omega) (by assumption), ?_⟩
            | refine ⟨_, pu_sub rfl rfl (by omega), ?_⟩
            | refine ⟨_, pu_pick_b rfl rfl rfl, ?_⟩
            | refine ⟨_, pu_mul rfl rfl (by omega), ?_⟩
            | refine ⟨_, pu_build rfl rfl rfl rfl rfl rfl, ?_⟩)
          | ((first | refine RunsL.guard_dec rfl rfl rfl ?_ ?_ | refine RunsL.guard_ndec rfl rfl rfl ?_ ?_ | refine RunsL.guard_nb rfl rfl rfl ?_ ?_ | refine RunsL.guard_b rfl rfl rfl ?_ ?_ | refine RunsD.guard_dec rfl rfl rfl ?_ ?_ | refine RunsD.guard_ndec rfl rfl rfl ?_ ?_ | refine RunsD.guard_nb rfl rfl rfl ?_ ?_ | refine RunsD.guard_b rfl rfl rfl ?_ ?_) <;> intro h <;> try (exfalso; first | omega | contradiction | (simp only [List.length_map] at h; omega))))
        all_goals first
          | exact rr_bool rfl
          | (exfalso; omega)
          | (exfalso; refine h ?_; rw [decide_eq_false (by omega), decide_eq_false (by omega)])
set_option maxRecDepth 100000 in
theorem lifted (os : Os) (started : os.Started) (H : Type) (enc : TypeId × Value → H) :
    ReturnsInHanded {} Try.checked os 7 .any (Rows.fnFirstBytesSpec.pre6 enc Try.prog Try.f7 Rows.fnFirstBytesRow.domain false) (Rows.fnFirstBytesSpec.post enc Try.prog Try.f7 false true false false) := by
  refine returnsInHanded_of_change (C := Try.checked) own started (by kernel_rfl) Try.func7
    (ChangeSpec.witness6 (enc := enc) (C := Try.checked) false ⟨#[], #[.slice none 0 0], []⟩ 8 (by kernel_rfl) (by kernel_rfl) (by kernel_rfl) (by kernel_rfl)) ?_
  intro W base args ds gs before hval0 hW hcnd _
  have hval : ∀ (j : Nat) t v, Try.f7.params[j]? = some t → args[j]? = some v → Value.okWide Try.prog W .any base t v := hval0
  have hW' := hW
  obtain ⟨p, q, hA0, hV, rfl, hfz, hnd⟩ := hW
  have hA : DataW.TrodAll enc Try.prog W 0 (fun _ => true) true Try.f7.params.toList args.toList ds p := hA0
  rw [Try.params7] at hA hval
  obtain ⟨v0, vs0, d0, ds0, p0, q0, hargs, rfl, rfl, h0, r0⟩ := trodAll_cons hA
  obtain ⟨rfl, rfl, rfl⟩ := trodAll_nil r0
  obtain rfl : args = #[v0] := by cases args; simp_all
  obtain ⟨rfl, rfl⟩ := trodVars_none hV
  have k0 := h0
  have lt0 : ∀ x ∈ p0, x.block < W.heap.size := by obtain ⟨m, hm⟩ := k0; exact DataW.trod_lt m _ _ _ hm
  obtain ⟨r0', t0, e0⟩ := open_slice1 plainsOk rfl Try.underlying22 (hval 0 22 v0 rfl rfl) h0
  obtain ⟨a0, q0, w0⟩ := t0.bytes Try.underlying22 Try.underlying5 (by kernel_rfl)
  injection q0 with q0; subst q0
  clear hA0 hval0
  refine (AC.law (law_ac a0 w0) W _ (cons_rels e0 nil_rels)).mono fun e W' ⟨he, bel⟩ => ?_
  subst he
  exact ⟨_, rfl, _, _, _, [], _, [], hW', trodAll_mk1 (shut_bool Try.underlying4 _), (trodAll_cons_mk (Below.trod laidOut (by kernel_rfl) (of_decide_eq_true (by kernel_rfl)) k0 bel lt0) trodAll_mk0), rfl, bel.frame _, fun h => by cases h⟩
theorem over : Rows.fnFirstBytesRow.holds Try.pinned (OpenSpec.ofChange Rows.fnFirstBytesSpec) :=
  OpenClaim.holds_of_wide 7 Try.f7 rfl rfl rfl rfl rfl rfl rfl ⟨rfl, rfl, rfl, rfl, rfl⟩ rfl rfl rfl rfl rfl (by kernel_rfl) Try.func7 (by kernel_rfl)
    (of_decide_eq_true (by kernel_rfl)) (by unfold Func.isWrapper; rw [if_neg (of_decide_eq_false (by kernel_rfl))]; exact ⟨rfl, rfl⟩)
    (fun os started H enc _ => lifted os started H enc)
/-- The statement. -/
theorem proved : Rows.FnFirstBytesSaid := over
#print axioms proved
end Go.Proofs.Ytnecoghfhcimeaa.fnFirstBytes
