/- The law FnValues holds: for every input the Go function returns true, and each argument reads as before. No condition. -/
import Derived.Test.YtnecoghfhcimeaaRows
import Derived.Test.YtnecoghfhcimeaaGat0
import Derived.Test.YtnecoghfhcimeaaGat1
import Derived.Test.YtnecoghfhcimeaaGat2
import Derived.Test.YtnecoghfhcimeaaGat3
import Derived.Test.YtnecoghfhcimeaaGat4
import Derived.Test.YtnecoghfhcimeaaGat5
import Derived.WalkKit
import Derived.ProofKit
import Derived.OpenShut
import Derived.ShutString
import Derived.ChangeOld
import Derived.Below
import Derived.Outline
namespace Go.Proofs.Ytnecoghfhcimeaa.fnValues
set_option linter.unusedSimpArgs false
set_option linter.unusedVariables false
open Go.ChangeShapes Go.WideShapes Go.ChangeAt Go.RowKit
open Go.ChangeMaps (open_string shut_string)
theorem own : ownKnob Try.prog.godebug = none := by kernel_rfl
theorem laidOut : laidOutB Try.prog = true := by kernel_rfl
set_option maxRecDepth 100000 in
set_option maxHeartbeats 16000000 in
theorem law_ac (code : List UInt8) (wl : code.length ≤ maxLen) : ACv Try.prog 4 [bytesR code] (.bool true) := by
  have hB := big_ac code
  refine ac_enter Try.func4 rfl _ Try.ntmps4 (by simp) fun C hn hm => ?_
  by_cases hbig : (1048576 : Int) < code.length
  · repeat' (first
    | refine RunsL.step tabOk hn rfl ?_
    | refine RunsL.nil ?_
    | refine Runs.toRegion 30 rfl ?_
    | ((first | refine RunsL.pe hn rfl rfl rfl ?_ | refine RunsD.pe rfl rfl ?_); first
      | refine ⟨_, pu_callR hB rfl, ?_⟩)
    | (refine Runs.ctls 30 rfl ?_; first | refine Runs.cond_f rfl ?_ | ((first | refine Runs.cond_yes rfl ?_ ?_ | refine Runs.cond_nno rfl ?_ ?_); · first | omega | rfl | assumption | (simp only [List.length_map]; omega)) | ((first | refine Runs.cond_no rfl ?_ ?_ | refine Runs.cond_nyes rfl ?_ ?_); · first | omega | rfl | assumption | (simp only [List.length_map]; omega)) | refine Runs.ret (ends_ro hm rfl rfl ?_) | exact Runs.ret (ends_cellR hm rfl rfl rfl (Nat.le_of_ble_eq_true rfl) rfl rfl))
    | refine op_storeF rfl rfl rfl rfl (Nat.le_of_ble_eq_true rfl) ?_
    | refine op_alloc (tl hn rfl) ?_
    | refine op_storeN rfl rfl rfl rfl (Nat.le_of_ble_eq_true rfl) ?_
    | refine RunsD.step tabOk hn rfl rfl ?_
    | refine RunsD.nil ?_
    | refine Runs.toDraw 30 mixed hn rfl (by kernel_rfl) rfl ?_
    | ((first | refine RunsL.pe hn rfl rfl rfl ?_ | refine RunsD.pe rfl rfl ?_); first
      | refine ⟨_, pu_add rfl rfl (by omega), ?_⟩
      | refine ⟨_, pu_indexAddr_map rfl rfl (by omega) (by assumption), ?_⟩
      | refine ⟨_, pu_sub rfl rfl (by omega), ?_⟩
      | refine ⟨_, pu_pick_b rfl rfl rfl, ?_⟩
      | refine ⟨_, pu_mul rfl rfl (by omega), ?_⟩
      | refine ⟨_, pu_build rfl rfl rfl rfl rfl rfl, ?_⟩)
    | ((first | refine RunsL.guard_dec rfl rfl rfl ?_ ?_ | refine RunsL.guard_ndec rfl rfl rfl ?_ ?_ | refine RunsL.guard_nb rfl rfl rfl ?_ ?_ | refine RunsL.guard_b rfl rfl rfl ?_ ?_ | refine RunsD.guard_dec rfl rfl rfl ?_ ?_ | refine RunsD.guard_ndec rfl rfl rfl ?_ ?_ | refine RunsD.guard_nb rfl rfl rfl ?_ ?_ | refine RunsD.guard_b rfl rfl rfl ?_ ?_) <;> intro h <;> try (exfalso; first | omega | contradiction | (simp only [List.length_map] at h; omega))))
    all_goals exact rr_bool rfl
  have hl : code.length ≤ 1048576 := by omega
  repeat' (first
    | (refine op_callQ (drawValue_ac code hl) qval_ok rfl (tl hn rfl) ?_; rintro _ ⟨d, v, rfl, hD, hv⟩; have hlm : (d.map rulR).length = d.length := List.length_map ..)
    | ((first | refine RunsL.pe hn rfl rfl rfl ?_ | refine RunsD.pe rfl rfl ?_); first
      | refine ⟨_, pu_len_seqN d.length rfl hlm, ?_⟩)
    | refine RunsL.step tabOk hn rfl ?_
    | refine RunsL.nil ?_
    | refine Runs.toRegion 30 rfl ?_
    | ((first | refine RunsL.pe hn rfl rfl rfl ?_ | refine RunsD.pe rfl rfl ?_); first
      | refine ⟨_, pu_callR hB rfl, ?_⟩)
    | (refine Runs.ctls 30 rfl ?_; first | refine Runs.cond_f rfl ?_ | ((first | refine Runs.cond_yes rfl ?_ ?_ | refine Runs.cond_nno rfl ?_ ?_); · first | omega | rfl | assumption | (simp only [List.length_map]; omega)) | ((first | refine Runs.cond_no rfl ?_ ?_ | refine Runs.cond_nyes rfl ?_ ?_); · first | omega | rfl | assumption | (simp only [List.length_map]; omega)) | refine Runs.ret (ends_ro hm rfl rfl ?_) | exact Runs.ret (ends_cellR hm rfl rfl rfl (Nat.le_of_ble_eq_true rfl) rfl rfl))
    | refine op_storeF rfl rfl rfl rfl (Nat.le_of_ble_eq_true rfl) ?_
    | refine op_alloc (tl hn rfl) ?_
    | refine op_storeN rfl rfl rfl rfl (Nat.le_of_ble_eq_true rfl) ?_
    | refine RunsD.step tabOk hn rfl rfl ?_
    | refine RunsD.nil ?_
    | refine Runs.toDraw 30 mixed hn rfl (by kernel_rfl) rfl ?_
    | ((first | refine RunsL.pe hn rfl rfl rfl ?_ | refine RunsD.pe rfl rfl ?_); first
      | refine ⟨_, pu_add rfl rfl (by omega), ?_⟩
      | refine ⟨_, pu_indexAddr_map rfl rfl (by omega) (by assumption), ?_⟩
      | refine ⟨_, pu_sub rfl rfl (by omega), ?_⟩
      | refine ⟨_, pu_pick_b rfl rfl rfl, ?_⟩
      | refine ⟨_, pu_mul rfl rfl (by omega), ?_⟩
      | refine ⟨_, pu_build rfl rfl rfl rfl rfl rfl, ?_⟩)
    | ((first | refine RunsL.guard_dec rfl rfl rfl ?_ ?_ | refine RunsL.guard_ndec rfl rfl rfl ?_ ?_ | refine RunsL.guard_nb rfl rfl rfl ?_ ?_ | refine RunsL.guard_b rfl rfl rfl ?_ ?_ | refine RunsD.guard_dec rfl rfl rfl ?_ ?_ | refine RunsD.guard_ndec rfl rfl rfl ?_ ?_ | refine RunsD.guard_nb rfl rfl rfl ?_ ?_ | refine RunsD.guard_b rfl rfl rfl ?_ ?_) <;> intro h <;> try (exfalso; first | omega | contradiction | (simp only [List.length_map] at h; omega))))
  have hG := hD.good
  have hd1 := hG.1
  have hd6 := hD.most
  obtain ⟨x, hx⟩ : ∃ x, d[d.length - 1]? = some x := ⟨_, List.getElem?_eq_getElem (by omega)⟩
  have hr : ((d.length - 1 : Nat) : Int) = (d.length : Int) - 1 := by omega
  have htb : ∀ {y : Tre}, MkV d (d.length - 1) y → y.total ≤ 16384 := fun {y} h => by
    have h1 := h.total
    have h2 : 4 ^ (d.length - 1) ≤ 4 ^ 5 := Nat.pow_le_pow_right (by omega) (by omega)
    unfold tb at h1
    omega
  have ht := htb hv
  have hC := (impl_CopyValue v (by omega)).data (seal_tre v)
  obtain ⟨y, hy, hDf⟩ := impl_DefaultValue hD _ x hx
  rw [hr] at hDf
  have hS := spec_CopyValue_row v (by omega)
  have hil : v.items.length ≤ 1000000 := by have := v.total_eq; omega
  repeat' (first
    | refine op_callOR hS rfl (tl hn rfl) ?_
    | refine RunsL.step tabOk hn rfl ?_
    | refine RunsL.nil ?_
    | refine Runs.toRegion 30 rfl ?_
    | ((first | refine RunsL.pe hn rfl rfl rfl ?_ | refine RunsD.pe rfl rfl ?_); first
      | refine ⟨_, pu_callR hC rfl, ?_⟩
      | refine ⟨_, pu_callR hDf rfl, ?_⟩)
    | (refine Runs.ctls 30 rfl ?_; first | refine Runs.cond_f rfl ?_ | ((first | refine Runs.cond_yes rfl ?_ ?_ | refine Runs.cond_nno rfl ?_ ?_); · first | omega | rfl | assumption | (simp only [List.length_map]; omega)) | ((first | refine Runs.cond_no rfl ?_ ?_ | refine Runs.cond_nyes rfl ?_ ?_); · first | omega | rfl | assumption | (simp only [List.length_map]; omega)) | refine Runs.ret (ends_ro hm rfl rfl ?_) | exact Runs.ret (ends_cellR hm rfl rfl rfl (Nat.le_of_ble_eq_true rfl) rfl rfl))
    | refine op_storeF rfl rfl rfl rfl (Nat.le_of_ble_eq_true rfl) ?_
    | refine op_alloc (tl hn rfl) ?_
    | refine op_storeN rfl rfl rfl rfl (Nat.le_of_ble_eq_true rfl) ?_
    | refine RunsD.step tabOk hn rfl rfl ?_
    | refine RunsD.nil ?_
    | refine Runs.toDraw 30 mixed hn rfl (by kernel_rfl) rfl ?_
    | ((first | refine RunsL.pe hn rfl rfl rfl ?_ | refine RunsD.pe rfl rfl ?_); first
      | refine ⟨_, pu_add rfl rfl (by omega), ?_⟩
      | refine ⟨_, pu_indexAddr_map rfl rfl (by omega) (by assumption), ?_⟩
      | refine ⟨_, pu_sub rfl rfl (by omega), ?_⟩
      | refine ⟨_, pu_pick_b rfl rfl rfl, ?_⟩
      | refine ⟨_, pu_mul rfl rfl (by omega), ?_⟩
      | refine ⟨_, pu_build rfl rfl rfl rfl rfl rfl, ?_⟩)
    | ((first | refine RunsL.guard_dec rfl rfl rfl ?_ ?_ | refine RunsL.guard_ndec rfl rfl rfl ?_ ?_ | refine RunsL.guard_nb rfl rfl rfl ?_ ?_ | refine RunsL.guard_b rfl rfl rfl ?_ ?_ | refine RunsD.guard_dec rfl rfl rfl ?_ ?_ | refine RunsD.guard_ndec rfl rfl rfl ?_ ?_ | refine RunsD.guard_nb rfl rfl rfl ?_ ?_ | refine RunsD.guard_b rfl rfl rfl ?_ ?_) <;> intro h <;> try (exfalso; first | omega | contradiction | (simp only [List.length_map] at h; omega))))
  refine RunsL.pur (Pur.fits (r := .agg [.int (-1), .seq 1 [], .seq 3 []]) (pu_buildS rfl) (by exact Fits.roAgg (.cons (Fits.ro _) (.cons (Fits.nil 1) (.cons (Fits.nil 3) .nil))))) rfl rfl (tl hn rfl) ?_
  repeat' (first
    | refine RunsL.step tabOk hn rfl ?_
    | refine RunsL.nil ?_
    | refine Runs.toRegion 30 rfl ?_
    | (refine Runs.ctls 30 rfl ?_; first | refine Runs.cond_f rfl ?_ | ((first | refine Runs.cond_yes rfl ?_ ?_ | refine Runs.cond_nno rfl ?_ ?_); · first | omega | rfl | assumption | (simp only [List.length_map]; omega)) | ((first | refine Runs.cond_no rfl ?_ ?_ | refine Runs.cond_nyes rfl ?_ ?_); · first | omega | rfl | assumption | (simp only [List.length_map]; omega)) | refine Runs.ret (ends_ro hm rfl rfl ?_) | exact Runs.ret (ends_cellR hm rfl rfl rfl (Nat.le_of_ble_eq_true rfl) rfl rfl))
    | refine op_storeF rfl rfl rfl rfl (Nat.le_of_ble_eq_true rfl) ?_
    | refine op_alloc (tl hn rfl) ?_
    | refine op_storeN rfl rfl rfl rfl (Nat.le_of_ble_eq_true rfl) ?_
    | refine RunsD.step tabOk hn rfl rfl ?_
    | refine RunsD.nil ?_
    | refine Runs.toDraw 30 mixed hn rfl (by kernel_rfl) rfl ?_
    | ((first | refine RunsL.pe hn rfl rfl rfl ?_ | refine RunsD.pe rfl rfl ?_); first
      | refine ⟨_, pu_add rfl rfl (by omega), ?_⟩
      | refine ⟨_, pu_indexAddr_map rfl rfl (by omega) (by assumption), ?_⟩
      | refine ⟨_, pu_sub rfl rfl (by omega), ?_⟩
      | refine ⟨_, pu_pick_b rfl rfl rfl, ?_⟩
      | refine ⟨_, pu_mul rfl rfl (by omega), ?_⟩
      | refine ⟨_, pu_build rfl rfl rfl rfl rfl rfl, ?_⟩)
    | ((first | refine RunsL.guard_dec rfl rfl rfl ?_ ?_ | refine RunsL.guard_ndec rfl rfl rfl ?_ ?_ | refine RunsL.guard_nb rfl rfl rfl ?_ ?_ | refine RunsL.guard_b rfl rfl rfl ?_ ?_ | refine RunsD.guard_dec rfl rfl rfl ?_ ?_ | refine RunsD.guard_ndec rfl rfl rfl ?_ ?_ | refine RunsD.guard_nb rfl rfl rfl ?_ ?_ | refine RunsD.guard_b rfl rfl rfl ?_ ?_) <;> intro h <;> try (exfalso; first | omega | contradiction | (simp only [List.length_map] at h; omega))))
  refine RunsL.junk 6 2 rfl (op_append (t := 34) (i := 5) (n := v.items.length) (rs := v.items.flatMap Tre.cells) (els := [[.int (-1), .seq 1 [], .seq 3 []]]) rfl rfl rfl rfl rfl rfl (cells_flat _) (FreeI.at_ (i := 5) ⟨by simp [AV.onlys, AV.only, setsAt], by simp [AV.onlys, AV.only, setsAt], by simp [AV.onlys, AV.only, setsAt], by simp [AV.onlys, AV.only, setsAt], onlys_ro _ _, onlys_ro _ _, by show AV.onlys _ [.int v.number, .own 4, .junk]; simp [AV.onlys, AV.only], trivial⟩) (by simp; omega) (by simp; omega) (tl hn rfl) ?_)
  repeat' (first
    | refine RunsL.step tabOk hn rfl ?_
    | refine RunsL.nil ?_
    | refine Runs.toRegion 30 rfl ?_
    | (refine Runs.ctls 30 rfl ?_; first | refine Runs.cond_f rfl ?_ | ((first | refine Runs.cond_yes rfl ?_ ?_ | refine Runs.cond_nno rfl ?_ ?_); · first | omega | rfl | assumption | (simp only [List.length_map]; omega)) | ((first | refine Runs.cond_no rfl ?_ ?_ | refine Runs.cond_nyes rfl ?_ ?_); · first | omega | rfl | assumption | (simp only [List.length_map]; omega)) | refine Runs.ret (ends_ro hm rfl rfl ?_) | exact Runs.ret (ends_cellR hm rfl rfl rfl (Nat.le_of_ble_eq_true rfl) rfl rfl))
    | refine op_storeF rfl rfl rfl rfl (Nat.le_of_ble_eq_true rfl) ?_
    | refine op_alloc (tl hn rfl) ?_
    | refine op_storeN rfl rfl rfl rfl (Nat.le_of_ble_eq_true rfl) ?_
    | refine RunsD.step tabOk hn rfl rfl ?_
    | refine RunsD.nil ?_
    | refine Runs.toDraw 30 mixed hn rfl (by kernel_rfl) rfl ?_
    | ((first | refine RunsL.pe hn rfl rfl rfl ?_ | refine RunsD.pe rfl rfl ?_); first
      | refine ⟨_, pu_add rfl rfl (by omega), ?_⟩
      | refine ⟨_, pu_indexAddr_map rfl rfl (by omega) (by assumption), ?_⟩
      | refine ⟨_, pu_sub rfl rfl (by omega), ?_⟩
      | refine ⟨_, pu_pick_b rfl rfl rfl, ?_⟩
      | refine ⟨_, pu_mul rfl rfl (by omega), ?_⟩
      | refine ⟨_, pu_build rfl rfl rfl rfl rfl rfl, ?_⟩)
    | ((first | refine RunsL.guard_dec rfl rfl rfl ?_ ?_ | refine RunsL.guard_ndec rfl rfl rfl ?_ ?_ | refine RunsL.guard_nb rfl rfl rfl ?_ ?_ | refine RunsL.guard_b rfl rfl rfl ?_ ?_ | refine RunsD.guard_dec rfl rfl rfl ?_ ?_ | refine RunsD.guard_ndec rfl rfl rfl ?_ ?_ | refine RunsD.guard_nb rfl rfl rfl ?_ ?_ | refine RunsD.guard_b rfl rfl rfl ?_ ?_) <;> intro h <;> try (exfalso; first | omega | contradiction | (simp only [List.length_map] at h; omega))))
  let S : List Ob := [⟨38, 0, [.ro (rulsR d)]⟩, ⟨29, 0, [.int v.number, .ro (bytesR v.bytes), .ro (tresR v.items)]⟩, ⟨29, 0, [.int v.number, .ro (bytesR v.bytes), .ro (tresR v.items)]⟩, ⟨29, 0, [.int y.number, .ro (bytesR y.bytes), .ro (tresR y.items)]⟩, ⟨5, 1, (v.bytes.map RV.u8).map .ro⟩, ⟨29, 3, (v.items.flatMap Tre.cells ++ [[RV.int (-1), RV.seq 1 [], RV.seq 3 []]].flatten).map .ro⟩, ⟨29, 0, [.int v.number, .own 4, .own 5]⟩]
  have hvo := hv.ok
  have hvi := hvo.out.2.2.2
  have hVld := (vld_iff hx).1 hv.vld
  have hdt := hD.total
  have hdo := hD.desOk
  have hKn : Kn d ((d.length : Int) - 1) := ⟨hG, by unfold HasR; omega⟩
  have hni : (v.items.map Tre.cells).length = v.items.length := List.length_map ..
  refine Runs.loopN 30 rfl (fun j => [(3, .obj 0 0), (4, .obj 1 0), (5, .int ((d.length : Int) - 1)), (6, .obj 2 0), (7, .obj 3 0), (8, .obj 6 0), (9, .int ((1 + ((v.items.take j).map Tre.count).sum : Nat) : Int)), (10, .int (j : Int))]) (fun _ => S) (fun _ => True) v.items.length 0 (Nat.zero_le _) trivial ⟨rfl, rfl, rfl, rfl, rfl, rfl, rfl, rfl, trivial⟩ rfl fun j hj _ next => ?_
  by_cases hlt : j < v.items.length
  · obtain ⟨it, hit⟩ : ∃ it, v.items[(j : Int).toNat]? = some it := ⟨_, List.getElem?_eq_getElem hlt⟩
    have hit' : v.items[j]? = some it := hit
    have hmem := List.mem_of_getElem? hit'
    have hib := own_item hG hx hVld.1 hlt
    obtain ⟨q, hq⟩ : ∃ q : Nat, itemR x v.number j = q := ⟨(itemR x v.number j).toNat, by omega⟩
    have hI := impl_ItemRule1 d hdo (by omega) ((d.length : Int) - 1) v hvo j
    rw [itemF_yes ⟨hKn, by omega, by omega⟩ (x := x) (by rw [← hr, Int.toNat_natCast]; exact hx), hq] at hI
    have hV := impl_IsValidValue1 d hdo (by omega) q it (hvi it hmem)
    have hV2 := hVld.2 j it hit'
    rw [hq] at hV2 hib
    rw [decide_eq_true ⟨⟨hG, by unfold HasR; omega⟩, hV2⟩] at hV
    have hct : it.total ≤ 1048576 := Nat.le_trans (sum_mem_le Tre.total hmem) (by have := v.total_eq; omega)
    have hP := impl_CountParts1 it hct
    have hcl := it.count_le
    have hsl := sum_take_le (f := Tre.count) v.items j
    have hve := v.count_eq
    have hvc := v.count_le
    have hsn := sum_take_next (f := Tre.count) hit'
    repeat' (first
      | ((first | refine RunsL.pe hn rfl rfl rfl ?_ | refine RunsD.pe rfl rfl ?_); first
        | refine ⟨_, pu_len_seqN v.items.length rfl hni, ?_⟩)
      | refine RunsL.step tabOk hn rfl ?_
      | refine RunsL.nil ?_
      | refine Runs.toRegion 30 rfl ?_
      | ((first | refine RunsL.pe hn rfl rfl rfl ?_ | refine RunsD.pe rfl rfl ?_); first
        | refine ⟨_, pu_callR hI rfl, ?_⟩
        | refine ⟨_, pu_callR hV rfl, ?_⟩
        | refine ⟨_, pu_callR hP rfl, ?_⟩
        | refine ⟨_, pu_loadN_eq rfl (Tre.cells_eq _) rfl, ?_⟩)
      | (refine Runs.ctls 30 rfl ?_; first | refine Runs.cond_f rfl ?_ | ((first | refine Runs.cond_yes rfl ?_ ?_ | refine Runs.cond_nno rfl ?_ ?_); · first | omega | rfl | assumption | (simp only [List.length_map]; omega)) | ((first | refine Runs.cond_no rfl ?_ ?_ | refine Runs.cond_nyes rfl ?_ ?_); · first | omega | rfl | assumption | (simp only [List.length_map]; omega)) | refine Runs.ret (ends_ro hm rfl rfl ?_) | exact Runs.ret (ends_cellR hm rfl rfl rfl (Nat.le_of_ble_eq_true rfl) rfl rfl))
      | refine op_storeF rfl rfl rfl rfl (Nat.le_of_ble_eq_true rfl) ?_
      | refine op_alloc (tl hn rfl) ?_
      | refine op_storeN rfl rfl rfl rfl (Nat.le_of_ble_eq_true rfl) ?_
      | refine RunsD.step tabOk hn rfl rfl ?_
      | refine RunsD.nil ?_
      | refine Runs.toDraw 30 mixed hn rfl (by kernel_rfl) rfl ?_
      | ((first | refine RunsL.pe hn rfl rfl rfl ?_ | refine RunsD.pe rfl rfl ?_); first
        | refine ⟨_, pu_add rfl rfl (by omega), ?_⟩
        | refine ⟨_, pu_indexAddr_map rfl rfl (by omega) (by assumption), ?_⟩
        | refine ⟨_, pu_sub rfl rfl (by omega), ?_⟩
        | refine ⟨_, pu_pick_b rfl rfl rfl, ?_⟩
        | refine ⟨_, pu_mul rfl rfl (by omega), ?_⟩
        | refine ⟨_, pu_build rfl rfl rfl rfl rfl rfl, ?_⟩)
      | ((first | refine RunsL.guard_dec rfl rfl rfl ?_ ?_ | refine RunsL.guard_ndec rfl rfl rfl ?_ ?_ | refine RunsL.guard_nb rfl rfl rfl ?_ ?_ | refine RunsL.guard_b rfl rfl rfl ?_ ?_ | refine RunsD.guard_dec rfl rfl rfl ?_ ?_ | refine RunsD.guard_ndec rfl rfl rfl ?_ ?_ | refine RunsD.guard_nb rfl rfl rfl ?_ ?_ | refine RunsD.guard_b rfl rfl rfl ?_ ?_) <;> intro h <;> try (exfalso; first | omega | contradiction | (simp only [List.length_map] at h; omega))))
    refine next _ _ ⟨rfl, rfl, rfl, rfl, rfl, rfl, av_int (by omega), rfl, trivial⟩ hlt trivial rfl
  · obtain rfl : j = v.items.length := by omega
    have hvt := v.count_eq
    have hct : 1 + ((v.items.take v.items.length).map Tre.count).sum = v.count := by rw [List.take_length]; omega
    have hV := impl_IsValidValue1 d hdo (by omega) ((d.length : Int) - 1) v hvo
    rw [decide_eq_true ⟨hKn, by rw [← hr, Int.toNat_natCast]; exact hv.vld⟩] at hV
    have hVy := impl_IsValidValue1 d hdo (by omega) ((d.length : Int) - 1) y hy.ok
    rw [decide_eq_true ⟨hKn, by rw [← hr, Int.toNat_natCast]; exact hy.vld⟩] at hVy
    have hbo := badV_ok hvo hil
    have hVb := impl_IsValidValue1 d hdo (by omega) ((d.length : Int) - 1) (badV v) hbo
    rw [decide_eq_false (by rw [← hr]; exact badV_no hG v)] at hVb
    have hE := impl_EqualValues1 v hvo v
    rw [decide_eq_true rfl] at hE
    have hEb := impl_EqualValues1 (badV v) hbo v
    rw [decide_eq_false (badV_ne v)] at hEb
    have hP := impl_CountParts1 v (by omega)
    have hT := impl_TotalBytes1 v (by omega)
    have hvc := v.count_le
    have hvw := v.weight_le
    have hlend : Lends C S (.agg [.int v.number, .own 4, .own 5]) (treR (badV v)) := by
      refine Lends.agg (.cons .ro (.cons (Lends.own (i := 4) (o := ⟨5, 1, (v.bytes.map RV.u8).map .ro⟩) (els := v.bytes.map fun z => [RV.u8 z]) rfl ?_ fun x hx => by obtain ⟨y, _, rfl⟩ := List.mem_map.1 hx; rfl) (.cons (Lends.own (i := 5) (o := ⟨29, 3, (v.items.flatMap Tre.cells ++ [[RV.int (-1), RV.seq 1 [], RV.seq 3 []]].flatten).map .ro⟩) (els := (badV v).items.map Tre.cells) rfl ?_ fun x hx => by obtain ⟨y, _, rfl⟩ := List.mem_map.1 hx; exact Tre.cells_len y) .nil)))
      · have : ∀ l : List UInt8, (l.map fun z => [RV.u8 z]).flatten = l.map RV.u8 := fun l => by induction l <;> simp_all
        rw [this]
      · have e : ((badV v).items.map Tre.cells).flatten = v.items.flatMap Tre.cells ++ [[RV.int (-1), RV.seq 1 [], RV.seq 3 []]].flatten := by
          rw [← List.flatMap_def]
          show (v.items ++ [Tre.mk (-1) [] []]).flatMap Tre.cells = _
          rw [List.flatMap_append]
          simp [Tre.cells_eq, Tre.number, Tre.bytes, Tre.items, bytesR]
        rw [e]
    repeat' (first
      | ((first | refine RunsL.pe hn rfl rfl rfl ?_ | refine RunsD.pe rfl rfl ?_); first
        | refine ⟨_, pu_len_seqN v.items.length rfl hni, ?_⟩)
      | refine RunsL.step tabOk hn rfl ?_
      | refine RunsL.nil ?_
      | refine Runs.toRegion 30 rfl ?_
      | ((first | refine RunsL.pe hn rfl rfl rfl ?_ | refine RunsD.pe rfl rfl ?_); first
        | refine ⟨_, pu_callR hV rfl, ?_⟩
        | refine ⟨_, pu_callR hVy rfl, ?_⟩
        | refine ⟨_, pu_callL hVb (.cons .ro (.cons .ro (.cons hlend .nil))), ?_⟩
        | refine ⟨_, pu_callR hE rfl, ?_⟩
        | refine ⟨_, pu_callL hEb (.cons hlend (.cons .ro .nil)), ?_⟩
        | refine ⟨_, pu_callR hP rfl, ?_⟩
        | refine ⟨_, pu_callR hT rfl, ?_⟩)
      | (refine Runs.ctls 30 rfl ?_; first | refine Runs.cond_f rfl ?_ | ((first | refine Runs.cond_yes rfl ?_ ?_ | refine Runs.cond_nno rfl ?_ ?_); · first | omega | rfl | assumption | (simp only [List.length_map]; omega)) | ((first | refine Runs.cond_no rfl ?_ ?_ | refine Runs.cond_nyes rfl ?_ ?_); · first | omega | rfl | assumption | (simp only [List.length_map]; omega)) | refine Runs.ret (ends_ro hm rfl rfl ?_) | exact Runs.ret (ends_cellR hm rfl rfl rfl (Nat.le_of_ble_eq_true rfl) rfl rfl))
      | refine op_storeF rfl rfl rfl rfl (Nat.le_of_ble_eq_true rfl) ?_
      | refine op_alloc (tl hn rfl) ?_
      | refine op_storeN rfl rfl rfl rfl (Nat.le_of_ble_eq_true rfl) ?_
      | refine RunsD.step tabOk hn rfl rfl ?_
      | refine RunsD.nil ?_
      | refine Runs.toDraw 30 mixed hn rfl (by kernel_rfl) rfl ?_
      | ((first | refine RunsL.pe hn rfl rfl rfl ?_ | refine RunsD.pe rfl rfl ?_); first
        | refine ⟨_, pu_add rfl rfl (by omega), ?_⟩
        | refine ⟨_, pu_indexAddr_map rfl rfl (by omega) (by assumption), ?_⟩
        | refine ⟨_, pu_sub rfl rfl (by omega), ?_⟩
        | refine ⟨_, pu_pick_b rfl rfl rfl, ?_⟩
        | refine ⟨_, pu_mul rfl rfl (by omega), ?_⟩
        | refine ⟨_, pu_build rfl rfl rfl rfl rfl rfl, ?_⟩)
      | ((first | refine RunsL.guard_dec rfl rfl rfl ?_ ?_ | refine RunsL.guard_ndec rfl rfl rfl ?_ ?_ | refine RunsL.guard_nb rfl rfl rfl ?_ ?_ | refine RunsL.guard_b rfl rfl rfl ?_ ?_ | refine RunsD.guard_dec rfl rfl rfl ?_ ?_ | refine RunsD.guard_ndec rfl rfl rfl ?_ ?_ | refine RunsD.guard_nb rfl rfl rfl ?_ ?_ | refine RunsD.guard_b rfl rfl rfl ?_ ?_) <;> intro h <;> try (exfalso; first | omega | contradiction | (simp only [List.length_map] at h; omega))))
    all_goals first
      | exact rr_bool rfl
      | (exfalso; omega)
      | exact rr_bool (by simp [hct])
set_option maxRecDepth 100000 in
theorem lifted (os : Os) (started : os.Started) (H : Type) (enc : TypeId × Value → H) :
    ReturnsInHanded {} Try.checked os 4 .any (Rows.fnValuesSpec.pre6 enc Try.prog Try.f4 Rows.fnValuesRow.domain false) (Rows.fnValuesSpec.post enc Try.prog Try.f4 false true false false) := by
  refine returnsInHanded_of_change (C := Try.checked) own started (by kernel_rfl) Try.func4
    (ChangeSpec.witness6 (enc := enc) (C := Try.checked) false ⟨#[], #[.slice none 0 0], []⟩ 8 (by kernel_rfl) (by kernel_rfl) (by kernel_rfl) (by kernel_rfl)) ?_
  intro W base args ds gs before hval0 hW hcnd _
  have hval : ∀ (j : Nat) t v, Try.f4.params[j]? = some t → args[j]? = some v → Value.okWide Try.prog W .any base t v := hval0
  have hW' := hW
  obtain ⟨p, q, hA0, hV, rfl, hfz, hnd⟩ := hW
  have hA : DataW.TrodAll enc Try.prog W 0 (fun _ => true) true Try.f4.params.toList args.toList ds p := hA0
  rw [Try.params4] at hA hval
  obtain ⟨v0, vs0, d0, ds0, p0, q0, hargs, rfl, rfl, h0, r0⟩ := trodAll_cons hA
  obtain ⟨rfl, rfl, rfl⟩ := trodAll_nil r0
  obtain rfl : args = #[v0] := by cases args; simp_all
  obtain ⟨rfl, rfl⟩ := trodVars_none hV
  have k0 := h0
  have lt0 : ∀ x ∈ p0, x.block < W.heap.size := by obtain ⟨m, hm⟩ := k0; exact DataW.trod_lt m _ _ _ hm
  obtain ⟨r0', t0, e0⟩ := open_slice1 plainsOk rfl Try.underlying22 (hval 0 22 v0 rfl rfl) h0
  obtain ⟨a0, q0, w0⟩ := t0.bytes Try.underlying22 Try.underlying5 (by kernel_rfl)
  injection q0 with q0; subst q0
  clear hA0 hval0
  refine (AC.law (law_ac a0 w0) W _ (cons_rels e0 nil_rels)).mono fun e W' ⟨he, bel⟩ => ?_
  subst he
  exact ⟨_, rfl, _, _, _, [], _, [], hW', trodAll_mk1 (shut_bool Try.underlying4 _), (trodAll_cons_mk (Below.trod laidOut (by kernel_rfl) (of_decide_eq_true (by kernel_rfl)) k0 bel lt0) trodAll_mk0), rfl, bel.frame _, fun h => by cases h⟩
theorem over : Rows.fnValuesRow.holds Try.pinned (OpenSpec.ofChange Rows.fnValuesSpec) :=
  OpenClaim.holds_of_wide 4 Try.f4 rfl rfl rfl rfl rfl rfl rfl ⟨rfl, rfl, rfl, rfl, rfl⟩ rfl rfl rfl rfl rfl (by kernel_rfl) Try.func4 (by kernel_rfl)
    (of_decide_eq_true (by kernel_rfl)) (by unfold Func.isWrapper; rw [if_neg (of_decide_eq_false (by kernel_rfl))]; exact ⟨rfl, rfl⟩)
    (fun os started H enc _ => lifted os started H enc)
/-- The statement. -/
theorem proved : Rows.FnValuesSaid := over
#print axioms proved
end Go.Proofs.Ytnecoghfhcimeaa.fnValues
