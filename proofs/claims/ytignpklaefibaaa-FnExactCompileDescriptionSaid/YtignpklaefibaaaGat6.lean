/- Gathered texts. -/
import Derived.Test.YtignpklaefibaaaGat0
import Derived.Test.YtignpklaefibaaaGat1
import Derived.Test.YtignpklaefibaaaGat2
import Derived.Test.YtignpklaefibaaaGat3
import Derived.Test.YtignpklaefibaaaGat4
import Derived.Test.YtignpklaefibaaaGat5
/- The code of a rule: the compiler's methods that loop. -/
namespace Go.Proofs.Ytignpklaefibaaa
set_option linter.unusedSimpArgs false
set_option linter.unusedVariables false
open Go.RowKit
open AV (Mem Keeps)
set_option maxRecDepth 100000
def conI (l : List UInt8) : List Ins := l.map fun b => ⟨2, (b.toNat : Int), 0⟩
theorem conI_next {l : List UInt8} {j : Nat} {b : UInt8} (h : l[j]? = some b) : conI (l.take (j + 1)) = conI (l.take j) ++ [⟨2, (b.toNat : Int), 0⟩] := by
  unfold conI
  rw [List.take_add_one, h, List.map_append]
  rfl
theorem conI_len (l : List UInt8) (j : Nat) : (conI (l.take j)).length ≤ j := by unfold conI; rw [List.length_map, List.length_take]; omega
def seqC (en : List Int) (l : List Int) : List Ins := l.map (callI en)
theorem seqC_next {en l : List Int} {j : Nat} {b : Int} (h : l[j]? = some b) : seqC en (l.take (j + 1)) = seqC en (l.take j) ++ [callI en b] := by
  unfold seqC
  rw [List.take_add_one, h, List.map_append]
  rfl
theorem seqC_len (en l : List Int) (j : Nat) : (seqC en (l.take j)).length ≤ j := by unfold seqC; rw [List.length_map, List.length_take]; omega
set_option maxHeartbeats 4000000 in
theorem constant_am (d : Des) (s : Int) (en : List Int) (x : Rul) (hk : x.kind = 2) (hl : x.bytes.length ≤ 1048576) : AM Try.prog 67 (cO d s en []) [0] [.obj 0 0, .ro (.agg (rulR x))] (cO d s en (bodyI x s en)) (.tup []) := by
  refine am_enter Try.func67 rfl _ Try.ntmps67 (by simp) (by simp) fun C gs hn => ?_
  have hle : (x.bytes.map fun z => [RV.u8 z]).length = x.bytes.length := List.length_map ..
  repeat' (first
    | refine RunsL.step tabOk hn rfl ?_
    | refine RunsL.nil ?_
    | refine Runs.toRegion 30 rfl ?_
    | (refine Runs.ctls 30 rfl ?_; first | refine Runs.cond_t rfl ?_ | refine Runs.cond_f rfl ?_ | ((first | refine Runs.cond_yes rfl ?_ ?_ | refine Runs.cond_nno rfl ?_ ?_); · first | omega | rfl | assumption | (simp only [List.length_map]; omega)) | ((first | refine Runs.cond_no rfl ?_ ?_ | refine Runs.cond_nyes rfl ?_ ?_); · first | omega | rfl | assumption | (simp only [List.length_map]; omega)) | refine Runs.cond_dec rfl (fun h => ?_) (fun h => ?_) | refine Runs.cond_ndec rfl (fun h => ?_) (fun h => ?_) | refine Runs.cond_nb rfl (fun h => ?_) (fun h => ?_) | refine Runs.cond_b rfl (fun h => ?_) (fun h => ?_) | refine Runs.ret (ends_ro hm rfl rfl ?_) | exact Runs.ret (ends_cellR hm rfl rfl rfl (Nat.le_of_ble_eq_true rfl) rfl rfl))
    | refine op_box rfl (tl hn rfl) ?_
    | refine op_storeF rfl rfl rfl rfl (Nat.le_of_ble_eq_true rfl) ?_
    | refine op_alloc (tl hn rfl) ?_
    | refine op_storeN rfl rfl rfl rfl (Nat.le_of_ble_eq_true rfl) ?_
    | (refine RunsL.pe hn rfl rfl rfl ?_; first
      | refine ⟨_, pu_add rfl rfl (by omega), ?_⟩
      | refine ⟨_, pu_indexAddr_map rfl rfl (by omega) (by assumption), ?_⟩
      | refine ⟨_, pu_sub rfl rfl (by omega), ?_⟩
      | refine ⟨_, pu_pick_b rfl rfl rfl, ?_⟩
      | refine ⟨_, pu_mul rfl rfl (by omega), ?_⟩
      | refine ⟨_, pu_build rfl rfl rfl rfl rfl rfl, ?_⟩))
  refine Runs.loopN 30 rfl (fun j => [(0, .pin 0 0 (gs 0)), (7, .ro (bytesR x.bytes)), (8, .int (x.bytes.length : Int)), (9, .int (j : Int))]) (fun j => cO d s en (conI (x.bytes.take j)) ++ [⟨73, 0, (rulR x).map .ro⟩]) (fun _ => True) x.bytes.length 0 (Nat.zero_le _) trivial ⟨rfl, rfl, by simp [look], rfl, trivial⟩ rfl fun j hj _ next => ?_
  have hcl := conI_len x.bytes j
  by_cases hlt : j < x.bytes.length
  · obtain ⟨b, hb⟩ : ∃ b, x.bytes[(j : Int).toNat]? = some b := ⟨_, List.getElem?_eq_getElem hlt⟩
    have hb' : x.bytes[j]? = some b := hb
    repeat' (first
      | refine op_callP 2 (add_am d s en _ _ _ _ (by first | omega | (simp only [List.length_append, List.length_cons, List.length_nil]; omega))) rfl (by simp [AV.onlys, AV.only]) (by simp [AV.only, AV.onlys]) rfl rfl rfl (cO_free _ _ _ _) (cO_free _ _ _ _) rfl ⟨rfl, trivial⟩ (fun t h => by injection h with h; subst h; exact tl hn rfl) ?_
      | refine RunsL.step tabOk hn rfl ?_
      | refine RunsL.nil ?_
      | refine Runs.toRegion 30 rfl ?_
      | (refine RunsL.pe hn rfl rfl rfl ?_; first
        | refine ⟨_, pu_ofU8 rfl, ?_⟩)
      | (refine Runs.ctls 30 rfl ?_; first | refine Runs.cond_t rfl ?_ | refine Runs.cond_f rfl ?_ | ((first | refine Runs.cond_yes rfl ?_ ?_ | refine Runs.cond_nno rfl ?_ ?_); · first | omega | rfl | assumption | (simp only [List.length_map]; omega)) | ((first | refine Runs.cond_no rfl ?_ ?_ | refine Runs.cond_nyes rfl ?_ ?_); · first | omega | rfl | assumption | (simp only [List.length_map]; omega)) | refine Runs.cond_dec rfl (fun h => ?_) (fun h => ?_) | refine Runs.cond_ndec rfl (fun h => ?_) (fun h => ?_) | refine Runs.cond_nb rfl (fun h => ?_) (fun h => ?_) | refine Runs.cond_b rfl (fun h => ?_) (fun h => ?_) | refine Runs.ret (ends_ro hm rfl rfl ?_) | exact Runs.ret (ends_cellR hm rfl rfl rfl (Nat.le_of_ble_eq_true rfl) rfl rfl))
      | refine op_box rfl (tl hn rfl) ?_
      | refine op_storeF rfl rfl rfl rfl (Nat.le_of_ble_eq_true rfl) ?_
      | refine op_alloc (tl hn rfl) ?_
      | refine op_storeN rfl rfl rfl rfl (Nat.le_of_ble_eq_true rfl) ?_
      | (refine RunsL.pe hn rfl rfl rfl ?_; first
        | refine ⟨_, pu_add rfl rfl (by omega), ?_⟩
        | refine ⟨_, pu_indexAddr_map rfl rfl (by omega) (by assumption), ?_⟩
        | refine ⟨_, pu_sub rfl rfl (by omega), ?_⟩
        | refine ⟨_, pu_pick_b rfl rfl rfl, ?_⟩
        | refine ⟨_, pu_mul rfl rfl (by omega), ?_⟩
        | refine ⟨_, pu_build rfl rfl rfl rfl rfl rfl, ?_⟩))
    exact next _ _ ⟨rfl, rfl, rfl, rfl, trivial⟩ hlt trivial (cO_app (conI_next hb'))
  · obtain rfl : j = x.bytes.length := by omega
    repeat' (first
      | refine RunsL.step tabOk hn rfl ?_
      | refine RunsL.nil ?_
      | refine Runs.toRegion 30 rfl ?_
      | (refine Runs.ctls 30 rfl ?_; first | refine Runs.cond_t rfl ?_ | refine Runs.cond_f rfl ?_ | ((first | refine Runs.cond_yes rfl ?_ ?_ | refine Runs.cond_nno rfl ?_ ?_); · first | omega | rfl | assumption | (simp only [List.length_map]; omega)) | ((first | refine Runs.cond_no rfl ?_ ?_ | refine Runs.cond_nyes rfl ?_ ?_); · first | omega | rfl | assumption | (simp only [List.length_map]; omega)) | refine Runs.cond_dec rfl (fun h => ?_) (fun h => ?_) | refine Runs.cond_ndec rfl (fun h => ?_) (fun h => ?_) | refine Runs.cond_nb rfl (fun h => ?_) (fun h => ?_) | refine Runs.cond_b rfl (fun h => ?_) (fun h => ?_) | refine Runs.ret (ends_ro hm rfl rfl ?_) | exact Runs.ret (ends_cellR hm rfl rfl rfl (Nat.le_of_ble_eq_true rfl) rfl rfl))
      | refine op_box rfl (tl hn rfl) ?_
      | refine op_storeF rfl rfl rfl rfl (Nat.le_of_ble_eq_true rfl) ?_
      | refine op_alloc (tl hn rfl) ?_
      | refine op_storeN rfl rfl rfl rfl (Nat.le_of_ble_eq_true rfl) ?_
      | (refine RunsL.pe hn rfl rfl rfl ?_; first
        | refine ⟨_, pu_add rfl rfl (by omega), ?_⟩
        | refine ⟨_, pu_indexAddr_map rfl rfl (by omega) (by assumption), ?_⟩
        | refine ⟨_, pu_sub rfl rfl (by omega), ?_⟩
        | refine ⟨_, pu_pick_b rfl rfl rfl, ?_⟩
        | refine ⟨_, pu_mul rfl rfl (by omega), ?_⟩
        | refine ⟨_, pu_build rfl rfl rfl rfl rfl rfl, ?_⟩))
    refine Runs.ctls 30 rfl ?_
    refine Runs.endA (t := 0) rfl (cO_app ?_) (by simp [cO]) (cO_free _ _ _ _) rfl
    rw [List.take_length]
    simp [bodyI, hk, conI]
set_option maxHeartbeats 4000000 in
theorem sequence_am (d : Des) (s : Int) (en : List Int) (x : Rul) (hk : x.kind = 6) (hr : RuleOkC d x en) (hl : x.kids.length ≤ 1048576) : AM Try.prog 71 (cO d s en []) [0] [.obj 0 0, .ro (.agg (rulR x))] (cO d s en (bodyI x s en)) (.tup []) := by
  refine am_enter Try.func71 rfl _ Try.ntmps71 (by simp) (by simp) fun C gs hn => ?_
  have hle : (x.kids.map fun z => [RV.int z]).length = x.kids.length := List.length_map ..
  repeat' (first
    | refine RunsL.step tabOk hn rfl ?_
    | refine RunsL.nil ?_
    | refine Runs.toRegion 30 rfl ?_
    | (refine Runs.ctls 30 rfl ?_; first | refine Runs.cond_t rfl ?_ | refine Runs.cond_f rfl ?_ | ((first | refine Runs.cond_yes rfl ?_ ?_ | refine Runs.cond_nno rfl ?_ ?_); · first | omega | rfl | assumption | (simp only [List.length_map]; omega)) | ((first | refine Runs.cond_no rfl ?_ ?_ | refine Runs.cond_nyes rfl ?_ ?_); · first | omega | rfl | assumption | (simp only [List.length_map]; omega)) | refine Runs.cond_dec rfl (fun h => ?_) (fun h => ?_) | refine Runs.cond_ndec rfl (fun h => ?_) (fun h => ?_) | refine Runs.cond_nb rfl (fun h => ?_) (fun h => ?_) | refine Runs.cond_b rfl (fun h => ?_) (fun h => ?_) | refine Runs.ret (ends_ro hm rfl rfl ?_) | exact Runs.ret (ends_cellR hm rfl rfl rfl (Nat.le_of_ble_eq_true rfl) rfl rfl))
    | refine op_box rfl (tl hn rfl) ?_
    | refine op_storeF rfl rfl rfl rfl (Nat.le_of_ble_eq_true rfl) ?_
    | refine op_alloc (tl hn rfl) ?_
    | refine op_storeN rfl rfl rfl rfl (Nat.le_of_ble_eq_true rfl) ?_
    | (refine RunsL.pe hn rfl rfl rfl ?_; first
      | refine ⟨_, pu_add rfl rfl (by omega), ?_⟩
      | refine ⟨_, pu_indexAddr_map rfl rfl (by omega) (by assumption), ?_⟩
      | refine ⟨_, pu_sub rfl rfl (by omega), ?_⟩
      | refine ⟨_, pu_pick_b rfl rfl rfl, ?_⟩
      | refine ⟨_, pu_mul rfl rfl (by omega), ?_⟩
      | refine ⟨_, pu_build rfl rfl rfl rfl rfl rfl, ?_⟩))
  refine Runs.loopN 30 rfl (fun j => [(0, .pin 0 0 (gs 0)), (7, .ro (intsR x.kids)), (8, .int (x.kids.length : Int)), (9, .int (j : Int))]) (fun j => cO d s en (seqC en (x.kids.take j)) ++ [⟨73, 0, (rulR x).map .ro⟩]) (fun _ => True) x.kids.length 0 (Nat.zero_le _) trivial ⟨rfl, rfl, by simp [look], rfl, trivial⟩ rfl fun j hj _ next => ?_
  have hcl := seqC_len en x.kids j
  by_cases hlt : j < x.kids.length
  · obtain ⟨b, hb⟩ : ∃ b, x.kids[(j : Int).toNat]? = some b := ⟨_, List.getElem?_eq_getElem hlt⟩
    have hb' : x.kids[j]? = some b := hb
    obtain ⟨h3, h4⟩ := hr.2 j b hb'
    repeat' (first
      | refine op_callP 2 (call_am d s en _ _ (by first | omega | (simp only [List.length_append, List.length_cons, List.length_nil]; omega)) (by omega) (by omega)) rfl (by simp [AV.onlys, AV.only]) (by simp [AV.only, AV.onlys]) rfl rfl rfl (cO_free _ _ _ _) (cO_free _ _ _ _) rfl ⟨rfl, trivial⟩ (fun t h => by injection h with h; subst h; exact tl hn rfl) ?_
      | refine RunsL.step tabOk hn rfl ?_
      | refine RunsL.nil ?_
      | refine Runs.toRegion 30 rfl ?_
      | (refine Runs.ctls 30 rfl ?_; first | refine Runs.cond_t rfl ?_ | refine Runs.cond_f rfl ?_ | ((first | refine Runs.cond_yes rfl ?_ ?_ | refine Runs.cond_nno rfl ?_ ?_); · first | omega | rfl | assumption | (simp only [List.length_map]; omega)) | ((first | refine Runs.cond_no rfl ?_ ?_ | refine Runs.cond_nyes rfl ?_ ?_); · first | omega | rfl | assumption | (simp only [List.length_map]; omega)) | refine Runs.cond_dec rfl (fun h => ?_) (fun h => ?_) | refine Runs.cond_ndec rfl (fun h => ?_) (fun h => ?_) | refine Runs.cond_nb rfl (fun h => ?_) (fun h => ?_) | refine Runs.cond_b rfl (fun h => ?_) (fun h => ?_) | refine Runs.ret (ends_ro hm rfl rfl ?_) | exact Runs.ret (ends_cellR hm rfl rfl rfl (Nat.le_of_ble_eq_true rfl) rfl rfl))
      | refine op_box rfl (tl hn rfl) ?_
      | refine op_storeF rfl rfl rfl rfl (Nat.le_of_ble_eq_true rfl) ?_
      | refine op_alloc (tl hn rfl) ?_
      | refine op_storeN rfl rfl rfl rfl (Nat.le_of_ble_eq_true rfl) ?_
      | (refine RunsL.pe hn rfl rfl rfl ?_; first
        | refine ⟨_, pu_add rfl rfl (by omega), ?_⟩
        | refine ⟨_, pu_indexAddr_map rfl rfl (by omega) (by assumption), ?_⟩
        | refine ⟨_, pu_sub rfl rfl (by omega), ?_⟩
        | refine ⟨_, pu_pick_b rfl rfl rfl, ?_⟩
        | refine ⟨_, pu_mul rfl rfl (by omega), ?_⟩
        | refine ⟨_, pu_build rfl rfl rfl rfl rfl rfl, ?_⟩))
    exact next _ _ ⟨rfl, rfl, rfl, rfl, trivial⟩ hlt trivial (cO_app (seqC_next hb'))
  · obtain rfl : j = x.kids.length := by omega
    repeat' (first
      | refine RunsL.step tabOk hn rfl ?_
      | refine RunsL.nil ?_
      | refine Runs.toRegion 30 rfl ?_
      | (refine Runs.ctls 30 rfl ?_; first | refine Runs.cond_t rfl ?_ | refine Runs.cond_f rfl ?_ | ((first | refine Runs.cond_yes rfl ?_ ?_ | refine Runs.cond_nno rfl ?_ ?_); · first | omega | rfl | assumption | (simp only [List.length_map]; omega)) | ((first | refine Runs.cond_no rfl ?_ ?_ | refine Runs.cond_nyes rfl ?_ ?_); · first | omega | rfl | assumption | (simp only [List.length_map]; omega)) | refine Runs.cond_dec rfl (fun h => ?_) (fun h => ?_) | refine Runs.cond_ndec rfl (fun h => ?_) (fun h => ?_) | refine Runs.cond_nb rfl (fun h => ?_) (fun h => ?_) | refine Runs.cond_b rfl (fun h => ?_) (fun h => ?_) | refine Runs.ret (ends_ro hm rfl rfl ?_) | exact Runs.ret (ends_cellR hm rfl rfl rfl (Nat.le_of_ble_eq_true rfl) rfl rfl))
      | refine op_box rfl (tl hn rfl) ?_
      | refine op_storeF rfl rfl rfl rfl (Nat.le_of_ble_eq_true rfl) ?_
      | refine op_alloc (tl hn rfl) ?_
      | refine op_storeN rfl rfl rfl rfl (Nat.le_of_ble_eq_true rfl) ?_
      | (refine RunsL.pe hn rfl rfl rfl ?_; first
        | refine ⟨_, pu_add rfl rfl (by omega), ?_⟩
        | refine ⟨_, pu_indexAddr_map rfl rfl (by omega) (by assumption), ?_⟩
        | refine ⟨_, pu_sub rfl rfl (by omega), ?_⟩
        | refine ⟨_, pu_pick_b rfl rfl rfl, ?_⟩
        | refine ⟨_, pu_mul rfl rfl (by omega), ?_⟩
        | refine ⟨_, pu_build rfl rfl rfl rfl rfl rfl, ?_⟩))
    refine Runs.ctls 30 rfl ?_
    refine Runs.endA (t := 0) rfl (cO_app ?_) (by simp [cO]) (cO_free _ _ _ _) rfl
    rw [List.take_length]
    simp [bodyI, hk, seqC]
/-- The code of a choice, up to somewhere in its tags or its calls. -/
def choA (x : Rul) (s : Int) (en : List Int) (j : Nat) : List Ins := callI en (x.kids.headD 0) :: chTags x.tags (s + (x.tags.length : Int) + 2) j
def choB (x : Rul) (s : Int) (en : List Int) (j : Nat) : List Ins := choA x s en x.tags.length ++ ⟨12, 3, 0⟩ :: chCalls x.kids en j
theorem choB_len (x : Rul) (s : Int) (en : List Int) (j : Nat) : (choB x s en j).length ≤ x.tags.length + 2 + 2 * j := by
  have := chCalls_len x.kids en j
  unfold choB choA
  simp only [List.length_append, List.length_cons, chTags_len]
  omega
theorem choA_len (x : Rul) (s : Int) (en : List Int) (j : Nat) : (choA x s en j).length = j + 1 := by
  unfold choA
  simp only [List.length_cons, chTags_len]
set_option maxHeartbeats 8000000 in
theorem choice_am (d : Des) (s : Int) (en : List Int) (x : Rul) (hk : x.kind = 7) (hr : RuleOkC d x en) (hl : x.kids.length ≤ 1048576) : AM Try.prog 72 (cO d s en []) [0] [.obj 0 0, .ro (.agg (rulR x))] (cO d s en (bodyI x s en)) (.tup []) := by
  refine am_enter Try.func72 rfl _ Try.ntmps72 (by simp) (by simp) fun C gs hn => ?_
  obtain ⟨f5, f7, f8, f4⟩ := item_fields hr.1
  have hlk : (x.kids.map fun z => [RV.int z]).length = x.kids.length := List.length_map ..
  have hlt' : (x.tags.map fun z => [RV.int z]).length = x.tags.length := List.length_map ..
  obtain ⟨hkl, _, _, _⟩ := f7 hk
  obtain ⟨h0, h1, h2⟩ := kid0 hr (by omega)
  repeat' (first
    | refine op_callP 2 (add_am d s en _ _ _ _ (by first | omega | (simp only [List.length_append, List.length_cons, List.length_nil]; omega))) rfl (by simp [AV.onlys, AV.only]) (by simp [AV.only, AV.onlys]) rfl rfl rfl (cO_free _ _ _ _) (cO_free _ _ _ _) rfl ⟨rfl, trivial⟩ (fun t h => by injection h with h; subst h; exact tl hn rfl) ?_
    | refine op_callP 2 (call_am d s en _ _ (by first | omega | (simp only [List.length_append, List.length_cons, List.length_nil]; omega)) (by omega) (by omega)) rfl (by simp [AV.onlys, AV.only]) (by simp [AV.only, AV.onlys]) rfl rfl rfl (cO_free _ _ _ _) (cO_free _ _ _ _) rfl ⟨rfl, trivial⟩ (fun t h => by injection h with h; subst h; exact tl hn rfl) ?_
    | ((first | refine RunsL.pe hn rfl rfl rfl ?_ | refine RunsD.pe rfl rfl ?_); first
      | refine ⟨_, pu_callL (here_ac d s en _) (.cons (lend_c rfl) .nil), ?_⟩
      | refine ⟨_, pu_addW rfl rfl, ?_⟩)
    | refine RunsL.step tabOk hn rfl ?_
    | refine RunsL.nil ?_
    | refine Runs.toRegion 30 rfl ?_
    | ((first | refine RunsL.pe hn rfl rfl rfl ?_ | refine RunsD.pe rfl rfl ?_); first
      | refine ⟨_, pu_nilCheckP rfl, ?_⟩)
    | (refine Runs.ctls 30 rfl ?_; first | refine Runs.cond_t rfl ?_ | refine Runs.cond_f rfl ?_ | ((first | refine Runs.cond_yes rfl ?_ ?_ | refine Runs.cond_nno rfl ?_ ?_); · first | omega | rfl | assumption | (simp only [List.length_map]; omega)) | ((first | refine Runs.cond_no rfl ?_ ?_ | refine Runs.cond_nyes rfl ?_ ?_); · first | omega | rfl | assumption | (simp only [List.length_map]; omega)) | refine Runs.cond_dec rfl (fun h => ?_) (fun h => ?_) | refine Runs.cond_ndec rfl (fun h => ?_) (fun h => ?_) | refine Runs.cond_nb rfl (fun h => ?_) (fun h => ?_) | refine Runs.cond_b rfl (fun h => ?_) (fun h => ?_) | refine Runs.ret (ends_ro hm rfl rfl ?_) | exact Runs.ret (ends_cellR hm rfl rfl rfl (Nat.le_of_ble_eq_true rfl) rfl rfl))
    | refine op_box rfl (tl hn rfl) ?_
    | refine op_storeF rfl rfl rfl rfl (Nat.le_of_ble_eq_true rfl) ?_
    | refine op_alloc (tl hn rfl) ?_
    | refine op_storeN rfl rfl rfl rfl (Nat.le_of_ble_eq_true rfl) ?_
    | refine RunsD.step tabOk hn rfl rfl ?_
    | refine RunsD.nil ?_
    | refine Runs.toDraw 30 mixed hn rfl (by kernel_rfl) rfl ?_
    | ((first | refine RunsL.pe hn rfl rfl rfl ?_ | refine RunsD.pe rfl rfl ?_); first
      | refine ⟨_, pu_add rfl rfl (by omega), ?_⟩
      | refine ⟨_, pu_indexAddr_map rfl rfl (by omega) (by assumption), ?_⟩
      | refine ⟨_, pu_sub rfl rfl (by omega), ?_⟩
      | refine ⟨_, pu_pick_b rfl rfl rfl, ?_⟩
      | refine ⟨_, pu_mul rfl rfl (by omega), ?_⟩
      | refine ⟨_, pu_build rfl rfl rfl rfl rfl rfl, ?_⟩))
  refine Runs.loopN 30 rfl (fun j => [(0, .pin 0 0 (gs 0)), (3, .obj 2 0), (4, .int (w64 (s + (x.tags.length : Int) + 2))), (22, .ro (intsR x.tags)), (23, .int (x.tags.length : Int)), (24, .int (j : Int))]) (fun j => cO d s en (choA x s en j) ++ [⟨73, 0, (rulR x).map .ro⟩]) (fun _ => True) x.tags.length 0 (Nat.zero_le _) trivial ⟨rfl, rfl, ?_, rfl, by simp [look], rfl, trivial⟩ rfl fun j hj _ next => ?_
  · show AV.int _ = AV.int _
    rw [hlt']
    have e1 := w64_add (w64 (s + 1) + (x.tags.length : Int)) 1
    have e2 := w64_add (s + 1) (x.tags.length + 1 : Int)
    simp only [List.length_append, List.length_cons, List.length_nil]
    show AV.int (w64 (w64 (w64 (s + (1 : Int)) + (x.tags.length : Int)) + 1)) = _
    rw [e1, Int.add_assoc, e2, show s + 1 + ((x.tags.length : Int) + 1) = s + (x.tags.length : Int) + 2 by omega]
  have hcl := choA_len x s en j
  by_cases hlt : j < x.tags.length
  · obtain ⟨b, hb⟩ : ∃ b, x.tags[(j : Int).toNat]? = some b := ⟨_, List.getElem?_eq_getElem hlt⟩
    have hb' : x.tags[j]? = some b := hb
    repeat' (first
      | refine op_callP 2 (add_am d s en _ _ _ _ (by first | omega | (simp only [List.length_append, List.length_cons, List.length_nil]; omega))) rfl (by simp [AV.onlys, AV.only]) (by simp [AV.only, AV.onlys]) rfl rfl rfl (cO_free _ _ _ _) (cO_free _ _ _ _) rfl ⟨rfl, trivial⟩ (fun t h => by injection h with h; subst h; exact tl hn rfl) ?_
      | ((first | refine RunsL.pe hn rfl rfl rfl ?_ | refine RunsD.pe rfl rfl ?_); first
        | refine ⟨_, pu_mul rfl rfl (by omega), ?_⟩)
      | refine RunsL.step tabOk hn rfl ?_
      | refine RunsL.nil ?_
      | refine Runs.toRegion 30 rfl ?_
      | ((first | refine RunsL.pe hn rfl rfl rfl ?_ | refine RunsD.pe rfl rfl ?_); first
        | refine ⟨_, pu_addW (t := 34) rfl rfl, ?_⟩)
      | (refine Runs.ctls 30 rfl ?_; first | refine Runs.cond_t rfl ?_ | refine Runs.cond_f rfl ?_ | ((first | refine Runs.cond_yes rfl ?_ ?_ | refine Runs.cond_nno rfl ?_ ?_); · first | omega | rfl | assumption | (simp only [List.length_map]; omega)) | ((first | refine Runs.cond_no rfl ?_ ?_ | refine Runs.cond_nyes rfl ?_ ?_); · first | omega | rfl | assumption | (simp only [List.length_map]; omega)) | refine Runs.cond_dec rfl (fun h => ?_) (fun h => ?_) | refine Runs.cond_ndec rfl (fun h => ?_) (fun h => ?_) | refine Runs.cond_nb rfl (fun h => ?_) (fun h => ?_) | refine Runs.cond_b rfl (fun h => ?_) (fun h => ?_) | refine Runs.ret (ends_ro hm rfl rfl ?_) | exact Runs.ret (ends_cellR hm rfl rfl rfl (Nat.le_of_ble_eq_true rfl) rfl rfl))
      | refine op_box rfl (tl hn rfl) ?_
      | refine op_storeF rfl rfl rfl rfl (Nat.le_of_ble_eq_true rfl) ?_
      | refine op_alloc (tl hn rfl) ?_
      | refine op_storeN rfl rfl rfl rfl (Nat.le_of_ble_eq_true rfl) ?_
      | refine RunsD.step tabOk hn rfl rfl ?_
      | refine RunsD.nil ?_
      | refine Runs.toDraw 30 mixed hn rfl (by kernel_rfl) rfl ?_
      | ((first | refine RunsL.pe hn rfl rfl rfl ?_ | refine RunsD.pe rfl rfl ?_); first
        | refine ⟨_, pu_add rfl rfl (by omega), ?_⟩
        | refine ⟨_, pu_indexAddr_map rfl rfl (by omega) (by assumption), ?_⟩
        | refine ⟨_, pu_sub rfl rfl (by omega), ?_⟩
        | refine ⟨_, pu_pick_b rfl rfl rfl, ?_⟩
        | refine ⟨_, pu_mul rfl rfl (by omega), ?_⟩
        | refine ⟨_, pu_build rfl rfl rfl rfl rfl rfl, ?_⟩))
    refine next _ _ ⟨rfl, rfl, rfl, rfl, rfl, rfl, trivial⟩ hlt trivial (cO_app ?_)
    unfold choA
    rw [chTags_next hb']
    have := w64_add (s + (x.tags.length : Int) + 2) (2 * (j : Int))
    show _ :: (_ ++ [(⟨11, b, w64 (s + (x.tags.length : Int) + 2 + 2 * (j : Int))⟩ : Ins)]) = _ :: _ ++ [(⟨11, b, w64 (w64 (s + (x.tags.length : Int) + 2) + 2 * (j : Int))⟩ : Ins)]
    rw [this]
    rfl
  · obtain rfl : j = x.tags.length := by omega
    repeat' (first
      | refine op_callP 2 (add_am d s en _ _ _ _ (by first | omega | (simp only [List.length_append, List.length_cons, List.length_nil]; omega))) rfl (by simp [AV.onlys, AV.only]) (by simp [AV.only, AV.onlys]) rfl rfl rfl (cO_free _ _ _ _) (cO_free _ _ _ _) rfl ⟨rfl, trivial⟩ (fun t h => by injection h with h; subst h; exact tl hn rfl) ?_
      | refine RunsL.step tabOk hn rfl ?_
      | refine RunsL.nil ?_
      | refine Runs.toRegion 30 rfl ?_
      | (refine Runs.ctls 30 rfl ?_; first | refine Runs.cond_t rfl ?_ | refine Runs.cond_f rfl ?_ | ((first | refine Runs.cond_yes rfl ?_ ?_ | refine Runs.cond_nno rfl ?_ ?_); · first | omega | rfl | assumption | (simp only [List.length_map]; omega)) | ((first | refine Runs.cond_no rfl ?_ ?_ | refine Runs.cond_nyes rfl ?_ ?_); · first | omega | rfl | assumption | (simp only [List.length_map]; omega)) | refine Runs.cond_dec rfl (fun h => ?_) (fun h => ?_) | refine Runs.cond_ndec rfl (fun h => ?_) (fun h => ?_) | refine Runs.cond_nb rfl (fun h => ?_) (fun h => ?_) | refine Runs.cond_b rfl (fun h => ?_) (fun h => ?_) | refine Runs.ret (ends_ro hm rfl rfl ?_) | exact Runs.ret (ends_cellR hm rfl rfl rfl (Nat.le_of_ble_eq_true rfl) rfl rfl))
      | refine op_box rfl (tl hn rfl) ?_
      | refine op_storeF rfl rfl rfl rfl (Nat.le_of_ble_eq_true rfl) ?_
      | refine op_alloc (tl hn rfl) ?_
      | refine op_storeN rfl rfl rfl rfl (Nat.le_of_ble_eq_true rfl) ?_
      | refine RunsD.step tabOk hn rfl rfl ?_
      | refine RunsD.nil ?_
      | refine Runs.toDraw 30 mixed hn rfl (by kernel_rfl) rfl ?_
      | ((first | refine RunsL.pe hn rfl rfl rfl ?_ | refine RunsD.pe rfl rfl ?_); first
        | refine ⟨_, pu_add rfl rfl (by omega), ?_⟩
        | refine ⟨_, pu_indexAddr_map rfl rfl (by omega) (by assumption), ?_⟩
        | refine ⟨_, pu_sub rfl rfl (by omega), ?_⟩
        | refine ⟨_, pu_pick_b rfl rfl rfl, ?_⟩
        | refine ⟨_, pu_mul rfl rfl (by omega), ?_⟩
        | refine ⟨_, pu_build rfl rfl rfl rfl rfl rfl, ?_⟩))
    refine Runs.loopN 30 rfl (fun j => [(0, .pin 0 0 (gs 0)), (3, .obj 2 0), (41, .int (x.tags.length : Int)), (42, .int (j : Int))]) (fun j => cO d s en (choB x s en j) ++ [⟨73, 0, (rulR x).map .ro⟩]) (fun _ => True) x.tags.length 0 (Nat.zero_le _) trivial ⟨rfl, rfl, by simp [look], rfl, trivial⟩ rfl fun j hj _ next2 => ?_
    have hcb := choB_len x s en j
    by_cases hlt : j < x.tags.length
    · obtain ⟨b, hb⟩ : ∃ b, x.kids[((j : Int) + 1).toNat]? = some b := ⟨_, List.getElem?_eq_getElem (by omega)⟩
      have hb' : x.kids[j + 1]? = some b := by rw [← hb]; congr 1
      obtain ⟨h3, h4⟩ := hr.2 (j + 1) b hb'
      have hbn : choB x s en (j + 1) = choB x s en j ++ ((if j = 0 then [] else [⟨10, 0, 0⟩]) ++ [callI en b]) := by
        unfold choB
        rw [chCalls_next hb']
        simp
      by_cases hj0 : j = 0
      · subst hj0
        repeat' (first
          | refine op_callP 2 (add_am d s en _ _ _ _ (by first | omega | (simp only [List.length_append, List.length_cons, List.length_nil]; omega))) rfl (by simp [AV.onlys, AV.only]) (by simp [AV.only, AV.onlys]) rfl rfl rfl (cO_free _ _ _ _) (cO_free _ _ _ _) rfl ⟨rfl, trivial⟩ (fun t h => by injection h with h; subst h; exact tl hn rfl) ?_
          | refine op_callP 2 (call_am d s en _ _ (by first | omega | (simp only [List.length_append, List.length_cons, List.length_nil]; omega)) (by omega) (by omega)) rfl (by simp [AV.onlys, AV.only]) (by simp [AV.only, AV.onlys]) rfl rfl rfl (cO_free _ _ _ _) (cO_free _ _ _ _) rfl ⟨rfl, trivial⟩ (fun t h => by injection h with h; subst h; exact tl hn rfl) ?_
          | refine RunsL.step tabOk hn rfl ?_
          | refine RunsL.nil ?_
          | refine Runs.toRegion 30 rfl ?_
          | (refine Runs.ctls 30 rfl ?_; first | refine Runs.cond_t rfl ?_ | refine Runs.cond_f rfl ?_ | ((first | refine Runs.cond_yes rfl ?_ ?_ | refine Runs.cond_nno rfl ?_ ?_); · first | omega | rfl | assumption | (simp only [List.length_map]; omega)) | ((first | refine Runs.cond_no rfl ?_ ?_ | refine Runs.cond_nyes rfl ?_ ?_); · first | omega | rfl | assumption | (simp only [List.length_map]; omega)) | refine Runs.cond_dec rfl (fun h => ?_) (fun h => ?_) | refine Runs.cond_ndec rfl (fun h => ?_) (fun h => ?_) | refine Runs.cond_nb rfl (fun h => ?_) (fun h => ?_) | refine Runs.cond_b rfl (fun h => ?_) (fun h => ?_) | refine Runs.ret (ends_ro hm rfl rfl ?_) | exact Runs.ret (ends_cellR hm rfl rfl rfl (Nat.le_of_ble_eq_true rfl) rfl rfl))
          | refine op_box rfl (tl hn rfl) ?_
          | refine op_storeF rfl rfl rfl rfl (Nat.le_of_ble_eq_true rfl) ?_
          | refine op_alloc (tl hn rfl) ?_
          | refine op_storeN rfl rfl rfl rfl (Nat.le_of_ble_eq_true rfl) ?_
          | refine RunsD.step tabOk hn rfl rfl ?_
          | refine RunsD.nil ?_
          | refine Runs.toDraw 30 mixed hn rfl (by kernel_rfl) rfl ?_
          | ((first | refine RunsL.pe hn rfl rfl rfl ?_ | refine RunsD.pe rfl rfl ?_); first
            | refine ⟨_, pu_add rfl rfl (by omega), ?_⟩
            | refine ⟨_, pu_indexAddr_map rfl rfl (by omega) (by assumption), ?_⟩
            | refine ⟨_, pu_sub rfl rfl (by omega), ?_⟩
            | refine ⟨_, pu_pick_b rfl rfl rfl, ?_⟩
            | refine ⟨_, pu_mul rfl rfl (by omega), ?_⟩
            | refine ⟨_, pu_build rfl rfl rfl rfl rfl rfl, ?_⟩))
        all_goals first
          | (exfalso; omega)
          | exact next2 _ _ ⟨rfl, rfl, rfl, rfl, trivial⟩ hlt trivial (cO_app (by rw [hbn]; rfl))
      · repeat' (first
        | refine op_callP 2 (add_am d s en _ _ _ _ (by first | omega | (simp only [List.length_append, List.length_cons, List.length_nil]; omega))) rfl (by simp [AV.onlys, AV.only]) (by simp [AV.only, AV.onlys]) rfl rfl rfl (cO_free _ _ _ _) (cO_free _ _ _ _) rfl ⟨rfl, trivial⟩ (fun t h => by injection h with h; subst h; exact tl hn rfl) ?_
        | refine op_callP 2 (call_am d s en _ _ (by first | omega | (simp only [List.length_append, List.length_cons, List.length_nil]; omega)) (by omega) (by omega)) rfl (by simp [AV.onlys, AV.only]) (by simp [AV.only, AV.onlys]) rfl rfl rfl (cO_free _ _ _ _) (cO_free _ _ _ _) rfl ⟨rfl, trivial⟩ (fun t h => by injection h with h; subst h; exact tl hn rfl) ?_
        | refine RunsL.step tabOk hn rfl ?_
        | refine RunsL.nil ?_
        | refine Runs.toRegion 30 rfl ?_
        | (refine Runs.ctls 30 rfl ?_; first | refine Runs.cond_t rfl ?_ | refine Runs.cond_f rfl ?_ | ((first | refine Runs.cond_yes rfl ?_ ?_ | refine Runs.cond_nno rfl ?_ ?_); · first | omega | rfl | assumption | (simp only [List.length_map]; omega)) | ((first | refine Runs.cond_no rfl ?_ ?_ | refine Runs.cond_nyes rfl ?_ ?_); · first | omega | rfl | assumption | (simp only [List.length_map]; omega)) | refine Runs.cond_dec rfl (fun h => ?_) (fun h => ?_) | refine Runs.cond_ndec rfl (fun h => ?_) (fun h => ?_) | refine Runs.cond_nb rfl (fun h => ?_) (fun h => ?_) | refine Runs.cond_b rfl (fun h => ?_) (fun h => ?_) | refine Runs.ret (ends_ro hm rfl rfl ?_) | exact Runs.ret (ends_cellR hm rfl rfl rfl (Nat.le_of_ble_eq_true rfl) rfl rfl))
        | refine op_box rfl (tl hn rfl) ?_
        | refine op_storeF rfl rfl rfl rfl (Nat.le_of_ble_eq_true rfl) ?_
        | refine op_alloc (tl hn rfl) ?_
        | refine op_storeN rfl rfl rfl rfl (Nat.le_of_ble_eq_true rfl) ?_
        | refine RunsD.step tabOk hn rfl rfl ?_
        | refine RunsD.nil ?_
        | refine Runs.toDraw 30 mixed hn rfl (by kernel_rfl) rfl ?_
        | ((first | refine RunsL.pe hn rfl rfl rfl ?_ | refine RunsD.pe rfl rfl ?_); first
          | refine ⟨_, pu_add rfl rfl (by omega), ?_⟩
          | refine ⟨_, pu_indexAddr_map rfl rfl (by omega) (by assumption), ?_⟩
          | refine ⟨_, pu_sub rfl rfl (by omega), ?_⟩
          | refine ⟨_, pu_pick_b rfl rfl rfl, ?_⟩
          | refine ⟨_, pu_mul rfl rfl (by omega), ?_⟩
          | refine ⟨_, pu_build rfl rfl rfl rfl rfl rfl, ?_⟩))
        all_goals first
          | (exfalso; omega)
          | exact next2 _ _ ⟨rfl, rfl, rfl, rfl, trivial⟩ hlt trivial (cO_app (by rw [hbn, if_neg hj0]; simp))
    · obtain rfl : j = x.tags.length := by omega
      repeat' (first
        | refine RunsL.step tabOk hn rfl ?_
        | refine RunsL.nil ?_
        | refine Runs.toRegion 30 rfl ?_
        | (refine Runs.ctls 30 rfl ?_; first | refine Runs.cond_t rfl ?_ | refine Runs.cond_f rfl ?_ | ((first | refine Runs.cond_yes rfl ?_ ?_ | refine Runs.cond_nno rfl ?_ ?_); · first | omega | rfl | assumption | (simp only [List.length_map]; omega)) | ((first | refine Runs.cond_no rfl ?_ ?_ | refine Runs.cond_nyes rfl ?_ ?_); · first | omega | rfl | assumption | (simp only [List.length_map]; omega)) | refine Runs.cond_dec rfl (fun h => ?_) (fun h => ?_) | refine Runs.cond_ndec rfl (fun h => ?_) (fun h => ?_) | refine Runs.cond_nb rfl (fun h => ?_) (fun h => ?_) | refine Runs.cond_b rfl (fun h => ?_) (fun h => ?_) | refine Runs.ret (ends_ro hm rfl rfl ?_) | exact Runs.ret (ends_cellR hm rfl rfl rfl (Nat.le_of_ble_eq_true rfl) rfl rfl))
        | refine op_box rfl (tl hn rfl) ?_
        | refine op_storeF rfl rfl rfl rfl (Nat.le_of_ble_eq_true rfl) ?_
        | refine op_alloc (tl hn rfl) ?_
        | refine op_storeN rfl rfl rfl rfl (Nat.le_of_ble_eq_true rfl) ?_
        | refine RunsD.step tabOk hn rfl rfl ?_
        | refine RunsD.nil ?_
        | refine Runs.toDraw 30 mixed hn rfl (by kernel_rfl) rfl ?_
        | ((first | refine RunsL.pe hn rfl rfl rfl ?_ | refine RunsD.pe rfl rfl ?_); first
          | refine ⟨_, pu_add rfl rfl (by omega), ?_⟩
          | refine ⟨_, pu_indexAddr_map rfl rfl (by omega) (by assumption), ?_⟩
          | refine ⟨_, pu_sub rfl rfl (by omega), ?_⟩
          | refine ⟨_, pu_pick_b rfl rfl rfl, ?_⟩
          | refine ⟨_, pu_mul rfl rfl (by omega), ?_⟩
          | refine ⟨_, pu_build rfl rfl rfl rfl rfl rfl, ?_⟩))
      refine Runs.ctls 30 rfl ?_
      refine Runs.endA (t := 0) rfl (cO_app ?_) (by simp [cO]) (cO_free _ _ _ _) rfl
      simp [bodyI, hk, choB, choA]
end Go.Proofs.Ytignpklaefibaaa
/- The code of a rule: the program's side. -/
namespace Go.Proofs.Ytignpklaefibaaa
set_option linter.unusedSimpArgs false
set_option linter.unusedVariables false
open Go.RowKit
open AV (Mem Keeps)
set_option maxRecDepth 100000
instance : T1 Try.prog 91 := ⟨by kernel_rfl⟩
instance : SL Try.prog 94 91 (.nilFunc) 1 8 := ⟨Elem.mk' Try.underlying94 (by kernel_rfl) rfl (by decide)⟩
/-- The compiler's methods, by kind. -/
def tblC : List AV := [.fn (.func 66) [] [], .fn (.func 67) [] [], .fn (.func 68) [] [], .fn (.func 69) [] [], .fn (.func 70) [] [], .fn (.func 71) [] [], .fn (.func 72) [] [], .fn (.func 73) [] [], .fn (.func 74) [] [], .fn (.func 75) [] []]
theorem body_len {d : Des} {x : Rul} {en : List Int} (s : Int) (hk : KindOk d x) (ht : x.total ≤ 1048576) : (bodyI x s en).length ≤ 4194304 := by
  have etx : x.total = x.name.size + x.bytes.length + (x.names.length + (x.names.map ByteArray.size).sum) + x.tags.length + x.kids.length := rfl
  have hc := chCalls_len x.kids en x.tags.length
  unfold bodyI
  split
  · simp
  split
  · rw [List.length_map]; omega
  split
  · simp
  split
  · simp
  split
  · simp
  split
  · rw [List.length_map]; omega
  split
  · simp only [List.length_cons, List.length_append, chTags_len]; omega
  split
  · simp
  split
  · simp
  · simp
theorem rens_ros (r : Nat → Nat) : ∀ rs : List RV, AV.rens r (rs.map .ro) = rs.map .ro
  | [] => rfl
  | x :: rs => by simp only [List.map_cons, AV.rens, AV.ren, rens_ros r rs]
set_option maxHeartbeats 8000000 in
theorem compile_with {f : FuncId} {fn : Func} [FN Try.prog f fn] (d : Des) (hd : dtotal d ≤ 1048576) (n : Nat) (x : Rul) (hx : d[n]? = some x) (s : Int) (en : List Int) (hkn : ACv Try.prog 48 [desR d, .int (n : Int)] (.bool true)) (hen : n ≤ en.length) (hk : KindOk d x) (h1 : 1 ≤ x.kind) (h2 : x.kind ≤ 10)
    (hM : AM Try.prog f (cO d s en []) [0] [.obj 0 0, .ro (.agg (rulR x))] (cO d s en (bodyI x s en)) (.tup [])) (hT : tblC[(x.kind - 1).toNat * 1]? = some (.fn (.func f) [] [])) :
    AC Try.prog 28 [desR d, .int (n : Int), .int s, intsR en] (fun rr => rr = .row 86 3 ((ruleI x s en).flatMap insR)) := by
  have hlm : (d.map rulR).length = d.length := List.length_map ..
  have hle : (en.map fun z => [RV.int z]).length = en.length := List.length_map ..
  have hx' : d[(n : Int).toNat]? = some x := hx
  have hb := body_len s (en := en) hk (Nat.le_trans (by have := sum_mem_le Rul.total (List.mem_of_getElem? hx); have et : dtotal d = d.length + (d.map Rul.total).sum := rfl; omega) hd)
  have hA := add_am d s en (bodyI x s en) 10 0 0 (by omega)
  refine ac_enter Try.func28 rfl _ Try.ntmps28 (by simp) fun C hn hm => ?_
  repeat' (first
    | refine Runs.toDrawT (id := 6) 30 [] [0, 1, 2, 3, 4, 5, 6, 7] 8 [] mixed hn rfl (by kernel_rfl) rfl .nil (by decide) (by decide) (by decide) ?_
    | refine op_build rfl rfl rfl rfl rfl (tl hn rfl) ?_
    | refine RunsT.nil ?_
    | refine RunsT.step tabOk rfl rfl (fun _ => rfl) (by decide) ?_
    | refine RunsT.pur (fun _ => pu_callR hkn rfl) (by decide) rfl rfl ?_
    | refine RunsT.pur (fun _ => pu_buildS rfl) (by decide) rfl rfl ?_
    | refine RunsT.pur (fun _ => pu_indexAddr_own (n := 10) rfl rfl rfl rfl rfl (by omega) (by omega)) (by decide) rfl rfl ?_
    | refine RunsT.pur (fun _ => pu_load_obj rfl rfl hT) (by decide) rfl rfl ?_
    | refine RunsT.pur (fun _ => pu_nilCheckO rfl) (by decide) rfl rfl ?_
    | refine RunsT.pur (fun _ => pu_sub rfl rfl (by omega)) (by decide) rfl rfl ?_
    | refine RunsT.pur (fun _ => pu_add rfl rfl (by omega)) (by decide) rfl rfl ?_
    | refine RunsT.pur (fun _ => pu_indexAddr_map rfl rfl (by omega) (by assumption)) (by decide) rfl rfl ?_
    | refine RunsT.alloc (p := 0) rfl inferInstance ?_
    | refine RunsT.alloc (p := 1) rfl inferInstance ?_
    | refine RunsL.step tabOk hn rfl ?_
    | refine RunsL.nil ?_
    | refine Runs.toRegion 30 rfl ?_
    | ((first | refine RunsL.pe hn rfl rfl rfl ?_ | refine RunsD.pe rfl rfl ?_); first
      | refine ⟨_, pu_callR hkn rfl, ?_⟩
      | refine ⟨_, pu_buildS rfl, ?_⟩
      | refine ⟨_, pu_indexAddr_own (n := 10) rfl rfl rfl rfl rfl (by omega) (by omega), ?_⟩
      | refine ⟨_, pu_load_obj rfl rfl hT, ?_⟩
      | refine ⟨_, pu_nilCheckO rfl, ?_⟩
      | refine ⟨_, pu_sub rfl rfl (by omega), ?_⟩)
    | (refine Runs.ctls 30 rfl ?_; first | refine Runs.cond_t rfl ?_ | refine Runs.cond_f rfl ?_ | ((first | refine Runs.cond_yes rfl ?_ ?_ | refine Runs.cond_nno rfl ?_ ?_); · first | omega | rfl | assumption | (simp only [List.length_map]; omega)) | ((first | refine Runs.cond_no rfl ?_ ?_ | refine Runs.cond_nyes rfl ?_ ?_); · first | omega | rfl | assumption | (simp only [List.length_map]; omega)) | refine Runs.cond_dec rfl (fun h => ?_) (fun h => ?_) | refine Runs.cond_ndec rfl (fun h => ?_) (fun h => ?_) | refine Runs.cond_nb rfl (fun h => ?_) (fun h => ?_) | refine Runs.cond_b rfl (fun h => ?_) (fun h => ?_) | refine Runs.ret (ends_ro hm rfl rfl ?_) | exact Runs.ret (ends_cellR hm rfl rfl rfl (Nat.le_of_ble_eq_true rfl) rfl rfl))
    | refine op_box rfl (tl hn rfl) ?_
    | refine op_storeF rfl rfl rfl rfl (Nat.le_of_ble_eq_true rfl) ?_
    | refine op_alloc (tl hn rfl) ?_
    | refine op_storeN rfl rfl rfl rfl (Nat.le_of_ble_eq_true rfl) ?_
    | refine RunsD.step tabOk hn rfl rfl ?_
    | refine RunsD.nil ?_
    | refine Runs.toDraw 30 mixed hn rfl (by kernel_rfl) rfl ?_
    | ((first | refine RunsL.pe hn rfl rfl rfl ?_ | refine RunsD.pe rfl rfl ?_); first
      | refine ⟨_, pu_add rfl rfl (by omega), ?_⟩
      | refine ⟨_, pu_indexAddr_map rfl rfl (by omega) (by assumption), ?_⟩
      | refine ⟨_, pu_sub rfl rfl (by omega), ?_⟩
      | refine ⟨_, pu_pick_b rfl rfl rfl, ?_⟩
      | refine ⟨_, pu_mul rfl rfl (by omega), ?_⟩
      | refine ⟨_, pu_build rfl rfl rfl rfl rfl rfl, ?_⟩)
    | ((first | refine RunsL.guard_dec rfl rfl rfl ?_ ?_ | refine RunsL.guard_ndec rfl rfl rfl ?_ ?_ | refine RunsL.guard_nb rfl rfl rfl ?_ ?_ | refine RunsL.guard_b rfl rfl rfl ?_ ?_ | refine RunsD.guard_dec rfl rfl rfl ?_ ?_ | refine RunsD.guard_ndec rfl rfl rfl ?_ ?_ | refine RunsD.guard_nb rfl rfl rfl ?_ ?_ | refine RunsD.guard_b rfl rfl rfl ?_ ?_) <;> intro h <;> try (exfalso; first | omega | contradiction | (simp only [List.length_map] at h; omega))))
  refine RunsL.nilCell 2 3 (e := 86) (sz := 3) (by decide) rfl rfl ?_
  refine op_callMF [2, 4] rfl hM rfl (by simp [AV.onlys, AV.only, cO]) ⟨rfl, rfl, rfl, by decide, ⟨rfl, rfl, trivial⟩, cO_free _ _ _ _, rfl, ⟨.inr rfl, .inr rfl, .inl rfl, .inr rfl, .inl rfl, trivial⟩⟩ (fun t h => by injection h with h; subst h; exact tl hn rfl) ?_
  repeat' (first
    | refine op_callM [2, 4] hA rfl (by simp [AV.onlys, AV.only, cO]) ⟨rfl, rfl, rfl, by decide, ⟨rfl, rfl, trivial⟩, cO_free _ _ _ _, rfl, ⟨.inr rfl, .inr rfl, .inl rfl, .inr rfl, .inl rfl, trivial⟩⟩ (fun t h => by injection h with h; subst h; exact tl hn rfl) ?_
    | refine RunsL.step tabOk hn rfl ?_
    | refine RunsL.nil ?_
    | refine Runs.toRegion 30 rfl ?_
    | ((first | refine RunsL.pe hn rfl rfl rfl ?_ | refine RunsD.pe rfl rfl ?_); first
      | refine ⟨_, pu_nilCheckO rfl, ?_⟩)
    | (refine Runs.ctls 30 rfl ?_; first | refine Runs.cond_t rfl ?_ | refine Runs.cond_f rfl ?_ | ((first | refine Runs.cond_yes rfl ?_ ?_ | refine Runs.cond_nno rfl ?_ ?_); · first | omega | rfl | assumption | (simp only [List.length_map]; omega)) | ((first | refine Runs.cond_no rfl ?_ ?_ | refine Runs.cond_nyes rfl ?_ ?_); · first | omega | rfl | assumption | (simp only [List.length_map]; omega)) | refine Runs.cond_dec rfl (fun h => ?_) (fun h => ?_) | refine Runs.cond_ndec rfl (fun h => ?_) (fun h => ?_) | refine Runs.cond_nb rfl (fun h => ?_) (fun h => ?_) | refine Runs.cond_b rfl (fun h => ?_) (fun h => ?_) | refine Runs.ret (ends_ro hm rfl rfl ?_) | exact Runs.ret (ends_cellR hm rfl rfl rfl (Nat.le_of_ble_eq_true rfl) rfl rfl))
    | refine op_box rfl (tl hn rfl) ?_
    | refine op_storeF rfl rfl rfl rfl (Nat.le_of_ble_eq_true rfl) ?_
    | refine op_alloc (tl hn rfl) ?_
    | refine op_storeN rfl rfl rfl rfl (Nat.le_of_ble_eq_true rfl) ?_
    | refine RunsD.step tabOk hn rfl rfl ?_
    | refine RunsD.nil ?_
    | refine Runs.toDraw 30 mixed hn rfl (by kernel_rfl) rfl ?_
    | ((first | refine RunsL.pe hn rfl rfl rfl ?_ | refine RunsD.pe rfl rfl ?_); first
      | refine ⟨_, pu_add rfl rfl (by omega), ?_⟩
      | refine ⟨_, pu_indexAddr_map rfl rfl (by omega) (by assumption), ?_⟩
      | refine ⟨_, pu_sub rfl rfl (by omega), ?_⟩
      | refine ⟨_, pu_pick_b rfl rfl rfl, ?_⟩
      | refine ⟨_, pu_mul rfl rfl (by omega), ?_⟩
      | refine ⟨_, pu_build rfl rfl rfl rfl rfl rfl, ?_⟩)
    | ((first | refine RunsL.guard_dec rfl rfl rfl ?_ ?_ | refine RunsL.guard_ndec rfl rfl rfl ?_ ?_ | refine RunsL.guard_nb rfl rfl rfl ?_ ?_ | refine RunsL.guard_b rfl rfl rfl ?_ ?_ | refine RunsD.guard_dec rfl rfl rfl ?_ ?_ | refine RunsD.guard_ndec rfl rfl rfl ?_ ?_ | refine RunsD.guard_nb rfl rfl rfl ?_ ?_ | refine RunsD.guard_b rfl rfl rfl ?_ ?_) <;> intro h <;> try (exfalso; first | omega | contradiction | (simp only [List.length_map] at h; omega))))
  exact Runs.ctls 30 rfl (Runs.ret (ends_own (rs := (ruleI x s en).flatMap insR) hm rfl rfl rfl (rens_ros _ _) rfl))
theorem cmp_bounds {d : Des} {x : Rul} (h : KindOk d x) : 1 ≤ x.kind ∧ x.kind ≤ 10 := by
  unfold KindOk at h
  omega
theorem compile_yes (d : Des) (hd : dtotal d ≤ 1048576) (hG : Good' d) (n : Nat) (x : Rul) (hx : d[n]? = some x) (s : Int) (en : List Int) (hkn : ACv Try.prog 48 [desR d, .int (n : Int)] (.bool true)) (hen : n ≤ en.length) :
    AC Try.prog 28 [desR d, .int (n : Int), .int s, intsR en] (fun rr => rr = .row 86 3 ((ruleI x s en).flatMap insR)) := by
  have hk := kind_at hG hx
  have hr : RuleOkC d x en := ⟨hk, fun k z hz => by have := kids_at hG hx hz; omega⟩
  obtain ⟨b1, b2⟩ := cmp_bounds hk
  have hxt := sum_mem_le Rul.total (List.mem_of_getElem? hx)
  have et : dtotal d = d.length + (d.map Rul.total).sum := rfl
  have etx : x.total = x.name.size + x.bytes.length + (x.names.length + (x.names.map ByteArray.size).sum) + x.tags.length + x.kids.length := rfl
  have hb10 : x.kind = 10 → x.bytes.length = 1 := fun e => by
    have h := hk
    unfold KindOk at h
    omega
  have hkk : x.kind = 1 ∨ x.kind = 2 ∨ x.kind = 3 ∨ x.kind = 4 ∨ x.kind = 5 ∨ x.kind = 6 ∨ x.kind = 7 ∨ x.kind = 8 ∨ x.kind = 9 ∨ x.kind = 10 := by omega
  rcases hkk with e | e | e | e | e | e | e | e | e | e
  · exact compile_with d hd n x hx s en hkn hen hk b1 b2 (integer_am d s en x e) (by rw [e]; rfl)
  · exact compile_with d hd n x hx s en hkn hen hk b1 b2 (constant_am d s en x e (by omega)) (by rw [e]; rfl)
  · exact compile_with d hd n x hx s en hkn hen hk b1 b2 (fixed_am d s en x e) (by rw [e]; rfl)
  · exact compile_with d hd n x hx s en hkn hen hk b1 b2 (sized_am d s en x e hr) (by rw [e]; rfl)
  · exact compile_with d hd n x hx s en hkn hen hk b1 b2 (array_am d s en x e hr) (by rw [e]; rfl)
  · exact compile_with d hd n x hx s en hkn hen hk b1 b2 (sequence_am d s en x e hr (by omega)) (by rw [e]; rfl)
  · exact compile_with d hd n x hx s en hkn hen hk b1 b2 (choice_am d s en x e hr (by omega)) (by rw [e]; rfl)
  · exact compile_with d hd n x hx s en hkn hen hk b1 b2 (option_am d s en x e hr) (by rw [e]; rfl)
  · exact compile_with d hd n x hx s en hkn hen hk b1 b2 (checked_am d s en x e hr) (by rw [e]; rfl)
  · exact compile_with d hd n x hx s en hkn hen hk b1 b2 (terminated_am d s en x e (hb10 e)) (by rw [e]; rfl)
/-- The code of a rule, if there is such a rule and the entries of all before it. -/
noncomputable def cmpL (d : Des) (r s : Int) (en : List Int) : List Ins := open Classical in if Kn d r ∧ r ≤ en.length then (match d[r.toNat]? with
  | some x => ruleI x s en
  | none => []) else []
theorem cmpL_yes {d : Des} {r s : Int} {en : List Int} {x : Rul} (h : Kn d r ∧ r ≤ en.length) (hx : d[r.toNat]? = some x) : cmpL d r s en = ruleI x s en := by unfold cmpL; rw [if_pos h, hx]
theorem cmpL_no {d : Des} {r s : Int} {en : List Int} (h : ¬ (Kn d r ∧ r ≤ en.length)) : cmpL d r s en = [] := by unfold cmpL; rw [if_neg h]
set_option maxHeartbeats 4000000 in
theorem impl_CompileRule (d : Des) (ho : DesOk d) (hd : dtotal d ≤ 1048576) (r s : Int) (en : List Int) : AC Try.prog 28 [desR d, .int r, .int s, intsR en] (fun rr => rr = .row 86 3 ((cmpL d r s en).flatMap insR)) := by
  have hkn := known_ac d ho hd r
  have hle : (en.map fun z => [RV.int z]).length = en.length := List.length_map ..
  by_cases hK : Kn d r
  · rw [decide_eq_true hK] at hkn
    obtain ⟨n, x, rfl, hn', hx⟩ := kn_nat hK
    by_cases hen : (n : Int) ≤ en.length
    · rw [cmpL_yes ⟨hK, hen⟩ hx]
      exact compile_yes d hd hK.1 n x hx s en hkn (by omega)
    · rw [cmpL_no fun h => hen h.2]
      refine ac_enter Try.func28 rfl _ Try.ntmps28 (by simp) fun C hn hm => ?_
      repeat' (first
        | refine op_build0 (tl hn rfl) ?_
        | refine RunsL.step tabOk hn rfl ?_
        | refine RunsL.nil ?_
        | refine Runs.toRegion 30 rfl ?_
        | ((first | refine RunsL.pe hn rfl rfl rfl ?_ | refine RunsD.pe rfl rfl ?_); first
          | refine ⟨_, pu_callR hkn rfl, ?_⟩)
        | (refine Runs.ctls 30 rfl ?_; first | refine Runs.cond_t rfl ?_ | refine Runs.cond_f rfl ?_ | ((first | refine Runs.cond_yes rfl ?_ ?_ | refine Runs.cond_nno rfl ?_ ?_); · first | omega | rfl | assumption | (simp only [List.length_map]; omega)) | ((first | refine Runs.cond_no rfl ?_ ?_ | refine Runs.cond_nyes rfl ?_ ?_); · first | omega | rfl | assumption | (simp only [List.length_map]; omega)) | refine Runs.cond_dec rfl (fun h => ?_) (fun h => ?_) | refine Runs.cond_ndec rfl (fun h => ?_) (fun h => ?_) | refine Runs.cond_nb rfl (fun h => ?_) (fun h => ?_) | refine Runs.cond_b rfl (fun h => ?_) (fun h => ?_) | refine Runs.ret (ends_ro hm rfl rfl ?_) | exact Runs.ret (ends_cellR hm rfl rfl rfl (Nat.le_of_ble_eq_true rfl) rfl rfl))
        | refine op_box rfl (tl hn rfl) ?_
        | refine op_storeF rfl rfl rfl rfl (Nat.le_of_ble_eq_true rfl) ?_
        | refine op_alloc (tl hn rfl) ?_
        | refine op_storeN rfl rfl rfl rfl (Nat.le_of_ble_eq_true rfl) ?_
        | refine RunsD.step tabOk hn rfl rfl ?_
        | refine RunsD.nil ?_
        | refine Runs.toDraw 30 mixed hn rfl (by kernel_rfl) rfl ?_
        | ((first | refine RunsL.pe hn rfl rfl rfl ?_ | refine RunsD.pe rfl rfl ?_); first
          | refine ⟨_, pu_add rfl rfl (by omega), ?_⟩
          | refine ⟨_, pu_indexAddr_map rfl rfl (by omega) (by assumption), ?_⟩
          | refine ⟨_, pu_sub rfl rfl (by omega), ?_⟩
          | refine ⟨_, pu_pick_b rfl rfl rfl, ?_⟩
          | refine ⟨_, pu_mul rfl rfl (by omega), ?_⟩
          | refine ⟨_, pu_build rfl rfl rfl rfl rfl rfl, ?_⟩)
        | ((first | refine RunsL.guard_dec rfl rfl rfl ?_ ?_ | refine RunsL.guard_ndec rfl rfl rfl ?_ ?_ | refine RunsL.guard_nb rfl rfl rfl ?_ ?_ | refine RunsL.guard_b rfl rfl rfl ?_ ?_ | refine RunsD.guard_dec rfl rfl rfl ?_ ?_ | refine RunsD.guard_ndec rfl rfl rfl ?_ ?_ | refine RunsD.guard_nb rfl rfl rfl ?_ ?_ | refine RunsD.guard_b rfl rfl rfl ?_ ?_) <;> intro h <;> try (exfalso; first | omega | contradiction | (simp only [List.length_map] at h; omega))))
      all_goals first
        | exact Runs.ctls 30 rfl (Runs.ret (ends_own (rs := []) hm rfl rfl rfl rfl rfl))
        | (exfalso; omega)
  · rw [decide_eq_false hK] at hkn
    rw [cmpL_no fun h => hK h.1]
    refine ac_enter Try.func28 rfl _ Try.ntmps28 (by simp) fun C hn hm => ?_
    repeat' (first
      | refine op_build0 (tl hn rfl) ?_
      | refine RunsL.step tabOk hn rfl ?_
      | refine RunsL.nil ?_
      | refine Runs.toRegion 30 rfl ?_
      | ((first | refine RunsL.pe hn rfl rfl rfl ?_ | refine RunsD.pe rfl rfl ?_); first
        | refine ⟨_, pu_callR hkn rfl, ?_⟩)
      | (refine Runs.ctls 30 rfl ?_; first | refine Runs.cond_t rfl ?_ | refine Runs.cond_f rfl ?_ | ((first | refine Runs.cond_yes rfl ?_ ?_ | refine Runs.cond_nno rfl ?_ ?_); · first | omega | rfl | assumption | (simp only [List.length_map]; omega)) | ((first | refine Runs.cond_no rfl ?_ ?_ | refine Runs.cond_nyes rfl ?_ ?_); · first | omega | rfl | assumption | (simp only [List.length_map]; omega)) | refine Runs.cond_dec rfl (fun h => ?_) (fun h => ?_) | refine Runs.cond_ndec rfl (fun h => ?_) (fun h => ?_) | refine Runs.cond_nb rfl (fun h => ?_) (fun h => ?_) | refine Runs.cond_b rfl (fun h => ?_) (fun h => ?_) | refine Runs.ret (ends_ro hm rfl rfl ?_) | exact Runs.ret (ends_cellR hm rfl rfl rfl (Nat.le_of_ble_eq_true rfl) rfl rfl))
      | refine op_box rfl (tl hn rfl) ?_
      | refine op_storeF rfl rfl rfl rfl (Nat.le_of_ble_eq_true rfl) ?_
      | refine op_alloc (tl hn rfl) ?_
      | refine op_storeN rfl rfl rfl rfl (Nat.le_of_ble_eq_true rfl) ?_
      | refine RunsD.step tabOk hn rfl rfl ?_
      | refine RunsD.nil ?_
      | refine Runs.toDraw 30 mixed hn rfl (by kernel_rfl) rfl ?_
      | ((first | refine RunsL.pe hn rfl rfl rfl ?_ | refine RunsD.pe rfl rfl ?_); first
        | refine ⟨_, pu_add rfl rfl (by omega), ?_⟩
        | refine ⟨_, pu_indexAddr_map rfl rfl (by omega) (by assumption), ?_⟩
        | refine ⟨_, pu_sub rfl rfl (by omega), ?_⟩
        | refine ⟨_, pu_pick_b rfl rfl rfl, ?_⟩
        | refine ⟨_, pu_mul rfl rfl (by omega), ?_⟩
        | refine ⟨_, pu_build rfl rfl rfl rfl rfl rfl, ?_⟩)
      | ((first | refine RunsL.guard_dec rfl rfl rfl ?_ ?_ | refine RunsL.guard_ndec rfl rfl rfl ?_ ?_ | refine RunsL.guard_nb rfl rfl rfl ?_ ?_ | refine RunsL.guard_b rfl rfl rfl ?_ ?_ | refine RunsD.guard_dec rfl rfl rfl ?_ ?_ | refine RunsD.guard_ndec rfl rfl rfl ?_ ?_ | refine RunsD.guard_nb rfl rfl rfl ?_ ?_ | refine RunsD.guard_b rfl rfl rfl ?_ ?_) <;> intro h <;> try (exfalso; first | omega | contradiction | (simp only [List.length_map] at h; omega))))
    exact Runs.ctls 30 rfl (Runs.ret (ends_own (rs := []) hm rfl rfl rfl rfl rfl))
end Go.Proofs.Ytignpklaefibaaa
/- The code of a rule: the reference's side. -/
namespace Go.Proofs.Ytignpklaefibaaa
set_option linter.unusedSimpArgs false
set_option linter.unusedVariables false
open Go.RowKit
open AV (Mem Keeps)
set_option maxRecDepth 100000
theorem l15Op_ac (op a b : Int) : ACv Try.prog 62 [.int op, .int a, .int b] (.agg (insR ⟨op, a, b⟩)) := by
  refine ac_enter Try.func62 rfl _ Try.ntmps62 (by simp) fun C hn hm => ?_
  repeat' (first
    | refine RunsL.step tabOk hn rfl ?_
    | refine RunsL.nil ?_
    | refine Runs.toRegion 30 rfl ?_
    | (refine RunsL.pe hn rfl rfl rfl ?_; first
      | refine ⟨_, pu_buildS rfl, ?_⟩)
    | (refine Runs.ctls 30 rfl ?_; first | refine Runs.cond_t rfl ?_ | refine Runs.cond_f rfl ?_ | ((first | refine Runs.cond_yes rfl ?_ ?_ | refine Runs.cond_nno rfl ?_ ?_); · first | omega | rfl | assumption | (simp only [List.length_map]; omega)) | ((first | refine Runs.cond_no rfl ?_ ?_ | refine Runs.cond_nyes rfl ?_ ?_); · first | omega | rfl | assumption | (simp only [List.length_map]; omega)) | refine Runs.cond_dec rfl (fun h => ?_) (fun h => ?_) | refine Runs.cond_ndec rfl (fun h => ?_) (fun h => ?_) | refine Runs.cond_nb rfl (fun h => ?_) (fun h => ?_) | refine Runs.cond_b rfl (fun h => ?_) (fun h => ?_) | refine Runs.ret (ends_ro hm rfl rfl ?_) | exact Runs.ret (ends_cellR hm rfl rfl rfl (Nat.le_of_ble_eq_true rfl) rfl rfl))
    | refine op_box rfl (tl hn rfl) ?_
    | refine op_storeF rfl rfl rfl rfl (Nat.le_of_ble_eq_true rfl) ?_
    | refine op_alloc (tl hn rfl) ?_
    | refine op_storeN rfl rfl rfl rfl (Nat.le_of_ble_eq_true rfl) ?_
    | (refine RunsL.pe hn rfl rfl rfl ?_; first
      | refine ⟨_, pu_add rfl rfl (by omega), ?_⟩
      | refine ⟨_, pu_indexAddr_map rfl rfl (by omega) (by assumption), ?_⟩
      | refine ⟨_, pu_sub rfl rfl (by omega), ?_⟩
      | refine ⟨_, pu_pick_b rfl rfl rfl, ?_⟩
      | refine ⟨_, pu_mul rfl rfl (by omega), ?_⟩
      | refine ⟨_, pu_build rfl rfl rfl rfl rfl rfl, ?_⟩))
theorem l15Call_ac (en : List Int) (r : Int) (h0 : 0 ≤ r) (h1 : r < en.length) : ACv Try.prog 64 [intsR en, .int r] (.agg (insR (callI en r))) := by
  obtain ⟨z, hz⟩ : ∃ z, en[r.toNat]? = some z := ⟨_, List.getElem?_eq_getElem (by omega)⟩
  have hle : (en.map fun z => [RV.int z]).length = en.length := List.length_map ..
  have e : callI en r = ⟨9, z, 0⟩ := by unfold callI; rw [hz]; rfl
  rw [e]
  refine ac_enter Try.func64 rfl _ Try.ntmps64 (by simp) fun C hn hm => ?_
  repeat' (first
    | refine RunsL.step tabOk hn rfl ?_
    | refine RunsL.nil ?_
    | refine Runs.toRegion 30 rfl ?_
    | (refine RunsL.pe hn rfl rfl rfl ?_; first
      | refine ⟨_, pu_callR (l15Op_ac _ _ _) rfl, ?_⟩)
    | (refine Runs.ctls 30 rfl ?_; first | refine Runs.cond_t rfl ?_ | refine Runs.cond_f rfl ?_ | ((first | refine Runs.cond_yes rfl ?_ ?_ | refine Runs.cond_nno rfl ?_ ?_); · first | omega | rfl | assumption | (simp only [List.length_map]; omega)) | ((first | refine Runs.cond_no rfl ?_ ?_ | refine Runs.cond_nyes rfl ?_ ?_); · first | omega | rfl | assumption | (simp only [List.length_map]; omega)) | refine Runs.cond_dec rfl (fun h => ?_) (fun h => ?_) | refine Runs.cond_ndec rfl (fun h => ?_) (fun h => ?_) | refine Runs.cond_nb rfl (fun h => ?_) (fun h => ?_) | refine Runs.cond_b rfl (fun h => ?_) (fun h => ?_) | refine Runs.ret (ends_ro hm rfl rfl ?_) | exact Runs.ret (ends_cellR hm rfl rfl rfl (Nat.le_of_ble_eq_true rfl) rfl rfl))
    | refine op_box rfl (tl hn rfl) ?_
    | refine op_storeF rfl rfl rfl rfl (Nat.le_of_ble_eq_true rfl) ?_
    | refine op_alloc (tl hn rfl) ?_
    | refine op_storeN rfl rfl rfl rfl (Nat.le_of_ble_eq_true rfl) ?_
    | (refine RunsL.pe hn rfl rfl rfl ?_; first
      | refine ⟨_, pu_add rfl rfl (by omega), ?_⟩
      | refine ⟨_, pu_indexAddr_map rfl rfl (by omega) (by assumption), ?_⟩
      | refine ⟨_, pu_sub rfl rfl (by omega), ?_⟩
      | refine ⟨_, pu_pick_b rfl rfl rfl, ?_⟩
      | refine ⟨_, pu_mul rfl rfl (by omega), ?_⟩
      | refine ⟨_, pu_build rfl rfl rfl rfl rfl rfl, ?_⟩))
theorem l15Little_ac (x : Rul) : ACv Try.prog 63 [.agg (rulR x)] (.int (if x.little = true then 1 else 0)) := by
  obtain ⟨nm, kd, sz, li, bs, ns, tg, ki⟩ := x
  cases li
  all_goals
    refine ac_enter Try.func63 rfl _ Try.ntmps63 (by simp) fun C hn hm => ?_
    repeat' (first
      | refine RunsL.step tabOk hn rfl ?_
      | refine RunsL.nil ?_
      | refine Runs.toRegion 30 rfl ?_
      | (refine Runs.ctls 30 rfl ?_; first | refine Runs.cond_t rfl ?_ | refine Runs.cond_f rfl ?_ | ((first | refine Runs.cond_yes rfl ?_ ?_ | refine Runs.cond_nno rfl ?_ ?_); · first | omega | rfl | assumption | (simp only [List.length_map]; omega)) | ((first | refine Runs.cond_no rfl ?_ ?_ | refine Runs.cond_nyes rfl ?_ ?_); · first | omega | rfl | assumption | (simp only [List.length_map]; omega)) | refine Runs.cond_dec rfl (fun h => ?_) (fun h => ?_) | refine Runs.cond_ndec rfl (fun h => ?_) (fun h => ?_) | refine Runs.cond_nb rfl (fun h => ?_) (fun h => ?_) | refine Runs.cond_b rfl (fun h => ?_) (fun h => ?_) | refine Runs.ret (ends_ro hm rfl rfl ?_) | exact Runs.ret (ends_cellR hm rfl rfl rfl (Nat.le_of_ble_eq_true rfl) rfl rfl))
      | refine op_box rfl (tl hn rfl) ?_
      | refine op_storeF rfl rfl rfl rfl (Nat.le_of_ble_eq_true rfl) ?_
      | refine op_alloc (tl hn rfl) ?_
      | refine op_storeN rfl rfl rfl rfl (Nat.le_of_ble_eq_true rfl) ?_
      | (refine RunsL.pe hn rfl rfl rfl ?_; first
        | refine ⟨_, pu_add rfl rfl (by omega), ?_⟩
        | refine ⟨_, pu_indexAddr_map rfl rfl (by omega) (by assumption), ?_⟩
        | refine ⟨_, pu_sub rfl rfl (by omega), ?_⟩
        | refine ⟨_, pu_pick_b rfl rfl rfl, ?_⟩
        | refine ⟨_, pu_mul rfl rfl (by omega), ?_⟩
        | refine ⟨_, pu_build rfl rfl rfl rfl rfl rfl, ?_⟩))
    exact rr_int rfl
/-- The code of a choice, as the reference writes it. -/
def choD (x : Rul) (s : Int) (en : List Int) (j : Nat) : List Ins := choB x s en j ++ (if j = 0 ∨ j = x.tags.length then [] else [⟨10, 0, 0⟩])
theorem choB_next {x : Rul} {s : Int} {en : List Int} {j : Nat} {b : Int} (hb' : x.kids[j + 1]? = some b) (hj : j < x.tags.length) : choB x s en (j + 1) = choD x s en j ++ [callI en b] := by
  unfold choD choB
  rw [chCalls_next hb']
  by_cases h0 : j = 0
  · subst h0; simp [chCalls]
  · rw [if_neg h0, if_neg (by omega)]; simp
theorem choD_len (x : Rul) (s : Int) (en : List Int) (j : Nat) : (choD x s en j).length ≤ x.tags.length + 3 + 2 * j := by
  have := choB_len x s en j
  unfold choD
  rw [List.length_append]
  split
  · simp only [List.length_nil]; omega
  · simp only [List.length_singleton]; omega
set_option maxHeartbeats 8000000 in
theorem l15Choice_ac (d : Des) (s : Int) (en : List Int) (x : Rul) (hk : x.kind = 7) (hr : RuleOkC d x en) (hl : x.kids.length ≤ 1048576) : AC Try.prog 65 [.agg (rulR x), .int s, intsR en] (fun rr => rr = .row 86 3 ((bodyI x s en).flatMap insR)) := by
  obtain ⟨f5, f7, f8, f4⟩ := item_fields hr.1
  have hlk : (x.kids.map fun z => [RV.int z]).length = x.kids.length := List.length_map ..
  have hlt' : (x.tags.map fun z => [RV.int z]).length = x.tags.length := List.length_map ..
  obtain ⟨hkl, ht1, _, _⟩ := f7 hk
  obtain ⟨h0, h1, h2⟩ := kid0 hr (by omega)
  have hC0 := l15Call_ac en (x.kids.headD 0) h1 h2
  refine ac_enter Try.func65 rfl _ Try.ntmps65 (by simp) fun C hn hm => ?_
  repeat' (first
    | refine op_build (t := 20) rfl rfl rfl rfl rfl (tl hn rfl) ?_
    | refine RunsL.step tabOk hn rfl ?_
    | refine RunsL.nil ?_
    | refine Runs.toRegion 30 rfl ?_
    | (refine RunsL.pe hn rfl rfl rfl ?_; first
      | refine ⟨_, pu_callR hC0 rfl, ?_⟩)
    | (refine Runs.ctls 30 rfl ?_; first | refine Runs.cond_t rfl ?_ | refine Runs.cond_f rfl ?_ | ((first | refine Runs.cond_yes rfl ?_ ?_ | refine Runs.cond_nno rfl ?_ ?_); · first | omega | rfl | assumption | (simp only [List.length_map]; omega)) | ((first | refine Runs.cond_no rfl ?_ ?_ | refine Runs.cond_nyes rfl ?_ ?_); · first | omega | rfl | assumption | (simp only [List.length_map]; omega)) | refine Runs.cond_dec rfl (fun h => ?_) (fun h => ?_) | refine Runs.cond_ndec rfl (fun h => ?_) (fun h => ?_) | refine Runs.cond_nb rfl (fun h => ?_) (fun h => ?_) | refine Runs.cond_b rfl (fun h => ?_) (fun h => ?_) | refine Runs.ret (ends_ro hm rfl rfl ?_) | exact Runs.ret (ends_cellR hm rfl rfl rfl (Nat.le_of_ble_eq_true rfl) rfl rfl))
    | refine op_box rfl (tl hn rfl) ?_
    | refine op_storeF rfl rfl rfl rfl (Nat.le_of_ble_eq_true rfl) ?_
    | refine op_alloc (tl hn rfl) ?_
    | refine op_storeN rfl rfl rfl rfl (Nat.le_of_ble_eq_true rfl) ?_
    | (refine RunsL.pe hn rfl rfl rfl ?_; first
      | refine ⟨_, pu_add rfl rfl (by omega), ?_⟩
      | refine ⟨_, pu_indexAddr_map rfl rfl (by omega) (by assumption), ?_⟩
      | refine ⟨_, pu_sub rfl rfl (by omega), ?_⟩
      | refine ⟨_, pu_pick_b rfl rfl rfl, ?_⟩
      | refine ⟨_, pu_mul rfl rfl (by omega), ?_⟩
      | refine ⟨_, pu_build rfl rfl rfl rfl rfl rfl, ?_⟩))
  refine Runs.loopN 30 rfl (fun j => [(1, .int s), (2, .ro (intsR en)), (3, .obj 0 0), (7, .int (x.tags.length : Int)), (8, .own 1), (9, .int (j : Int))]) (fun j => [⟨73, 0, (rulR x).map .ro⟩, ⟨86, 3, ((choA x s en j).flatMap insR).map .ro⟩]) (fun _ => True) x.tags.length 0 (Nat.zero_le _) trivial ⟨rfl, rfl, rfl, by simp [look], rfl, rfl, trivial⟩ rfl fun j hj _ next => ?_
  have hcl := choA_len x s en j
  have hfl := insR_flat (choA x s en j)
  by_cases hlt : j < x.tags.length
  · obtain ⟨b, hb⟩ : ∃ b, x.tags[(j : Int).toNat]? = some b := ⟨_, List.getElem?_eq_getElem hlt⟩
    have hb' : x.tags[j]? = some b := hb
    repeat' (first
      | refine op_append (n := (choA x s en j).length) rfl rfl rfl rfl rfl rfl (by rw [hfl]) (FreeI.at_ (i := 1) (by repeat' (first | exact trivial | exact onlys_ro _ _ | refine ⟨?_, ?_⟩))) (by simp; omega) (by simp; omega) (tl hn rfl) ?_
      | (refine RunsL.pe hn rfl rfl rfl ?_; first
        | refine ⟨_, pu_mul rfl rfl (by omega), ?_⟩)
      | refine RunsL.step tabOk hn rfl ?_
      | refine RunsL.nil ?_
      | refine Runs.toRegion 30 rfl ?_
      | (refine RunsL.pe hn rfl rfl rfl ?_; first
        | refine ⟨_, pu_addW (t := 34) rfl rfl, ?_⟩
        | refine ⟨_, pu_addW (t := 35) rfl rfl, ?_⟩
        | refine ⟨_, pu_addW (t := 38) rfl rfl, ?_⟩
        | refine ⟨_, pu_callR (l15Op_ac _ _ _) rfl, ?_⟩)
      | (refine Runs.ctls 30 rfl ?_; first | refine Runs.cond_t rfl ?_ | refine Runs.cond_f rfl ?_ | ((first | refine Runs.cond_yes rfl ?_ ?_ | refine Runs.cond_nno rfl ?_ ?_); · first | omega | rfl | assumption | (simp only [List.length_map]; omega)) | ((first | refine Runs.cond_no rfl ?_ ?_ | refine Runs.cond_nyes rfl ?_ ?_); · first | omega | rfl | assumption | (simp only [List.length_map]; omega)) | refine Runs.cond_dec rfl (fun h => ?_) (fun h => ?_) | refine Runs.cond_ndec rfl (fun h => ?_) (fun h => ?_) | refine Runs.cond_nb rfl (fun h => ?_) (fun h => ?_) | refine Runs.cond_b rfl (fun h => ?_) (fun h => ?_) | refine Runs.ret (ends_ro hm rfl rfl ?_) | exact Runs.ret (ends_cellR hm rfl rfl rfl (Nat.le_of_ble_eq_true rfl) rfl rfl))
      | refine op_box rfl (tl hn rfl) ?_
      | refine op_storeF rfl rfl rfl rfl (Nat.le_of_ble_eq_true rfl) ?_
      | refine op_alloc (tl hn rfl) ?_
      | refine op_storeN rfl rfl rfl rfl (Nat.le_of_ble_eq_true rfl) ?_
      | (refine RunsL.pe hn rfl rfl rfl ?_; first
        | refine ⟨_, pu_add rfl rfl (by omega), ?_⟩
        | refine ⟨_, pu_indexAddr_map rfl rfl (by omega) (by assumption), ?_⟩
        | refine ⟨_, pu_sub rfl rfl (by omega), ?_⟩
        | refine ⟨_, pu_pick_b rfl rfl rfl, ?_⟩
        | refine ⟨_, pu_mul rfl rfl (by omega), ?_⟩
        | refine ⟨_, pu_build rfl rfl rfl rfl rfl rfl, ?_⟩))
    refine next _ _ ⟨rfl, rfl, rfl, rfl, rfl, rfl, trivial⟩ hlt trivial ?_
    unfold choA
    rw [chTags_next hb']
    have e1 := w64_add (w64 (s + (x.tags.length : Int)) + 2) (2 * (j : Int))
    have e2 := w64_add (s + (x.tags.length : Int)) (2 + 2 * (j : Int))
    rw [← Int.add_assoc, ← Int.add_assoc] at e2
    have e3 : w64 (w64 (w64 (s + (x.tags.length : Int)) + 2) + 2 * (j : Int)) = w64 (s + (x.tags.length : Int) + 2 + 2 * (j : Int)) := e1.trans e2
    rw [← e3]
    simp only [List.set_cons_zero, List.set_cons_succ, List.flatMap_cons, List.flatMap_append, List.map_append]
    simp
    rfl
  · obtain rfl : j = x.tags.length := by omega
    repeat' (first
      | refine op_append (n := (choA x s en x.tags.length).length) rfl rfl rfl rfl rfl rfl (by rw [hfl]) (FreeI.at_ (i := 1) (by repeat' (first | exact trivial | exact onlys_ro _ _ | refine ⟨?_, ?_⟩))) (by simp; omega) (by simp; omega) (tl hn rfl) ?_
      | refine RunsL.step tabOk hn rfl ?_
      | refine RunsL.nil ?_
      | refine Runs.toRegion 30 rfl ?_
      | (refine RunsL.pe hn rfl rfl rfl ?_; first
        | refine ⟨_, pu_callR (l15Op_ac _ _ _) rfl, ?_⟩)
      | (refine Runs.ctls 30 rfl ?_; first | refine Runs.cond_t rfl ?_ | refine Runs.cond_f rfl ?_ | ((first | refine Runs.cond_yes rfl ?_ ?_ | refine Runs.cond_nno rfl ?_ ?_); · first | omega | rfl | assumption | (simp only [List.length_map]; omega)) | ((first | refine Runs.cond_no rfl ?_ ?_ | refine Runs.cond_nyes rfl ?_ ?_); · first | omega | rfl | assumption | (simp only [List.length_map]; omega)) | refine Runs.cond_dec rfl (fun h => ?_) (fun h => ?_) | refine Runs.cond_ndec rfl (fun h => ?_) (fun h => ?_) | refine Runs.cond_nb rfl (fun h => ?_) (fun h => ?_) | refine Runs.cond_b rfl (fun h => ?_) (fun h => ?_) | refine Runs.ret (ends_ro hm rfl rfl ?_) | exact Runs.ret (ends_cellR hm rfl rfl rfl (Nat.le_of_ble_eq_true rfl) rfl rfl))
      | refine op_box rfl (tl hn rfl) ?_
      | refine op_storeF rfl rfl rfl rfl (Nat.le_of_ble_eq_true rfl) ?_
      | refine op_alloc (tl hn rfl) ?_
      | refine op_storeN rfl rfl rfl rfl (Nat.le_of_ble_eq_true rfl) ?_
      | (refine RunsL.pe hn rfl rfl rfl ?_; first
        | refine ⟨_, pu_add rfl rfl (by omega), ?_⟩
        | refine ⟨_, pu_indexAddr_map rfl rfl (by omega) (by assumption), ?_⟩
        | refine ⟨_, pu_sub rfl rfl (by omega), ?_⟩
        | refine ⟨_, pu_pick_b rfl rfl rfl, ?_⟩
        | refine ⟨_, pu_mul rfl rfl (by omega), ?_⟩
        | refine ⟨_, pu_build rfl rfl rfl rfl rfl rfl, ?_⟩))
    refine Runs.loopN 30 rfl (fun j => [(1, .int s), (2, .ro (intsR en)), (3, .obj 0 0), (7, .int (x.tags.length : Int)), (8, .own 1), (10, .int (j : Int))]) (fun j => [⟨73, 0, (rulR x).map .ro⟩, ⟨86, 3, ((choD x s en j).flatMap insR).map .ro⟩]) (fun _ => True) x.tags.length 0 (Nat.zero_le _) trivial ⟨rfl, rfl, rfl, rfl, rfl, rfl, trivial⟩ ?_ fun j hj _ next2 => ?_
    · simp [choD, choB, chCalls, insR]
    have hcd := choD_len x s en j
    have hfd := insR_flat (choD x s en j)
    by_cases hlt : j < x.tags.length
    · obtain ⟨b, hb⟩ : ∃ b, x.kids[((j : Int) + 1).toNat]? = some b := ⟨_, List.getElem?_eq_getElem (by omega)⟩
      have hb' : x.kids[j + 1]? = some b := by rw [← hb]; congr 1
      obtain ⟨h3, h4⟩ := hr.2 (j + 1) b hb'
      have hCj := l15Call_ac en b h3 h4
      have hbn := choB_next (s := s) (en := en) hb' hlt
      have hcb := choB_len x s en (j + 1)
      have hfb := insR_flat (choB x s en (j + 1))
      by_cases hj0 : j + 1 = x.tags.length
      · repeat' (first
        | refine op_append (n := (choD x s en j).length) rfl rfl rfl rfl rfl rfl (by rw [hfd]) (FreeI.at_ (i := 1) (by repeat' (first | exact trivial | exact onlys_ro _ _ | refine ⟨?_, ?_⟩))) (by simp; omega) (by simp; omega) (tl hn rfl) ?_
        | refine RunsL.step tabOk hn rfl ?_
        | refine RunsL.nil ?_
        | refine Runs.toRegion 30 rfl ?_
        | (refine RunsL.pe hn rfl rfl rfl ?_; first
          | refine ⟨_, pu_callR (l15Op_ac _ _ _) rfl, ?_⟩
          | refine ⟨_, pu_callR hCj rfl, ?_⟩)
        | (refine Runs.ctls 30 rfl ?_; first | refine Runs.cond_t rfl ?_ | refine Runs.cond_f rfl ?_ | ((first | refine Runs.cond_yes rfl ?_ ?_ | refine Runs.cond_nno rfl ?_ ?_); · first | omega | rfl | assumption | (simp only [List.length_map]; omega)) | ((first | refine Runs.cond_no rfl ?_ ?_ | refine Runs.cond_nyes rfl ?_ ?_); · first | omega | rfl | assumption | (simp only [List.length_map]; omega)) | refine Runs.cond_dec rfl (fun h => ?_) (fun h => ?_) | refine Runs.cond_ndec rfl (fun h => ?_) (fun h => ?_) | refine Runs.cond_nb rfl (fun h => ?_) (fun h => ?_) | refine Runs.cond_b rfl (fun h => ?_) (fun h => ?_) | refine Runs.ret (ends_ro hm rfl rfl ?_) | exact Runs.ret (ends_cellR hm rfl rfl rfl (Nat.le_of_ble_eq_true rfl) rfl rfl))
        | refine op_box rfl (tl hn rfl) ?_
        | refine op_storeF rfl rfl rfl rfl (Nat.le_of_ble_eq_true rfl) ?_
        | refine op_alloc (tl hn rfl) ?_
        | refine op_storeN rfl rfl rfl rfl (Nat.le_of_ble_eq_true rfl) ?_
        | (refine RunsL.pe hn rfl rfl rfl ?_; first
          | refine ⟨_, pu_add rfl rfl (by omega), ?_⟩
          | refine ⟨_, pu_indexAddr_map rfl rfl (by omega) (by assumption), ?_⟩
          | refine ⟨_, pu_sub rfl rfl (by omega), ?_⟩
          | refine ⟨_, pu_pick_b rfl rfl rfl, ?_⟩
          | refine ⟨_, pu_mul rfl rfl (by omega), ?_⟩
          | refine ⟨_, pu_build rfl rfl rfl rfl rfl rfl, ?_⟩))
        all_goals first
          | (exfalso; omega)
          | (refine next2 _ _ ⟨rfl, rfl, rfl, rfl, rfl, rfl, trivial⟩ hlt trivial ?_
             have : choD x s en (j + 1) = choB x s en (j + 1) := by unfold choD; rw [if_pos (by omega)]; simp
             rw [this, hbn]
             simp
             rfl)
      · repeat' (first
        | refine op_append (t := 61) (n := (choD x s en j).length) rfl rfl rfl rfl rfl rfl (by rw [hfd]) (FreeI.at_ (i := 1) (by repeat' (first | exact trivial | exact onlys_ro _ _ | refine ⟨?_, ?_⟩))) (by simp; omega) (by simp; omega) (tl hn rfl) ?_
        | refine op_append (t := 69) (n := (choD x s en j).length + 1) (rs := (choD x s en j).flatMap insR ++ insR (callI en b)) rfl rfl rfl rfl rfl rfl (by rw [List.length_append, hfd, insR_len]; omega) (FreeI.at_ (i := 1) (by repeat' (first | exact trivial | exact onlys_ro _ _ | refine ⟨?_, ?_⟩))) (by simp; omega) (by simp; omega) (tl hn rfl) ?_
        | refine RunsL.step tabOk hn rfl ?_
        | refine RunsL.nil ?_
        | refine Runs.toRegion 30 rfl ?_
        | (refine RunsL.pe hn rfl rfl rfl ?_; first
          | refine ⟨_, pu_callR (l15Op_ac _ _ _) rfl, ?_⟩
          | refine ⟨_, pu_callR hCj rfl, ?_⟩)
        | (refine Runs.ctls 30 rfl ?_; first | refine Runs.cond_t rfl ?_ | refine Runs.cond_f rfl ?_ | ((first | refine Runs.cond_yes rfl ?_ ?_ | refine Runs.cond_nno rfl ?_ ?_); · first | omega | rfl | assumption | (simp only [List.length_map]; omega)) | ((first | refine Runs.cond_no rfl ?_ ?_ | refine Runs.cond_nyes rfl ?_ ?_); · first | omega | rfl | assumption | (simp only [List.length_map]; omega)) | refine Runs.cond_dec rfl (fun h => ?_) (fun h => ?_) | refine Runs.cond_ndec rfl (fun h => ?_) (fun h => ?_) | refine Runs.cond_nb rfl (fun h => ?_) (fun h => ?_) | refine Runs.cond_b rfl (fun h => ?_) (fun h => ?_) | refine Runs.ret (ends_ro hm rfl rfl ?_) | exact Runs.ret (ends_cellR hm rfl rfl rfl (Nat.le_of_ble_eq_true rfl) rfl rfl))
        | refine op_box rfl (tl hn rfl) ?_
        | refine op_storeF rfl rfl rfl rfl (Nat.le_of_ble_eq_true rfl) ?_
        | refine op_alloc (tl hn rfl) ?_
        | refine op_storeN rfl rfl rfl rfl (Nat.le_of_ble_eq_true rfl) ?_
        | (refine RunsL.pe hn rfl rfl rfl ?_; first
          | refine ⟨_, pu_add rfl rfl (by omega), ?_⟩
          | refine ⟨_, pu_indexAddr_map rfl rfl (by omega) (by assumption), ?_⟩
          | refine ⟨_, pu_sub rfl rfl (by omega), ?_⟩
          | refine ⟨_, pu_pick_b rfl rfl rfl, ?_⟩
          | refine ⟨_, pu_mul rfl rfl (by omega), ?_⟩
          | refine ⟨_, pu_build rfl rfl rfl rfl rfl rfl, ?_⟩))
        all_goals first
          | (exfalso; omega)
          | (refine next2 _ _ ⟨rfl, rfl, rfl, rfl, rfl, rfl, trivial⟩ hlt trivial ?_
             have : choD x s en (j + 1) = choB x s en (j + 1) ++ [⟨10, 0, 0⟩] := by unfold choD; rw [if_neg (by omega)]
             rw [this, hbn]
             simp
             rfl)
    · obtain rfl : j = x.tags.length := by omega
      repeat' (first
        | refine RunsL.step tabOk hn rfl ?_
        | refine RunsL.nil ?_
        | refine Runs.toRegion 30 rfl ?_
        | (refine Runs.ctls 30 rfl ?_; first | refine Runs.cond_t rfl ?_ | refine Runs.cond_f rfl ?_ | ((first | refine Runs.cond_yes rfl ?_ ?_ | refine Runs.cond_nno rfl ?_ ?_); · first | omega | rfl | assumption | (simp only [List.length_map]; omega)) | ((first | refine Runs.cond_no rfl ?_ ?_ | refine Runs.cond_nyes rfl ?_ ?_); · first | omega | rfl | assumption | (simp only [List.length_map]; omega)) | refine Runs.cond_dec rfl (fun h => ?_) (fun h => ?_) | refine Runs.cond_ndec rfl (fun h => ?_) (fun h => ?_) | refine Runs.cond_nb rfl (fun h => ?_) (fun h => ?_) | refine Runs.cond_b rfl (fun h => ?_) (fun h => ?_) | refine Runs.ret (ends_ro hm rfl rfl ?_) | exact Runs.ret (ends_cellR hm rfl rfl rfl (Nat.le_of_ble_eq_true rfl) rfl rfl))
        | refine op_box rfl (tl hn rfl) ?_
        | refine op_storeF rfl rfl rfl rfl (Nat.le_of_ble_eq_true rfl) ?_
        | refine op_alloc (tl hn rfl) ?_
        | refine op_storeN rfl rfl rfl rfl (Nat.le_of_ble_eq_true rfl) ?_
        | (refine RunsL.pe hn rfl rfl rfl ?_; first
          | refine ⟨_, pu_add rfl rfl (by omega), ?_⟩
          | refine ⟨_, pu_indexAddr_map rfl rfl (by omega) (by assumption), ?_⟩
          | refine ⟨_, pu_sub rfl rfl (by omega), ?_⟩
          | refine ⟨_, pu_pick_b rfl rfl rfl, ?_⟩
          | refine ⟨_, pu_mul rfl rfl (by omega), ?_⟩
          | refine ⟨_, pu_build rfl rfl rfl rfl rfl rfl, ?_⟩))
      refine Runs.ctls 30 rfl (Runs.ret (ends_own (rs := (choD x s en x.tags.length).flatMap insR) hm rfl rfl rfl rfl ?_))
      unfold choD
      rw [if_pos (.inr rfl), List.append_nil]
      simp [bodyI, hk, choB, choA]
end Go.Proofs.Ytignpklaefibaaa
/- The code of a rule: the reference's side, whole. -/
namespace Go.Proofs.Ytignpklaefibaaa
set_option linter.unusedSimpArgs false
set_option linter.unusedVariables false
open Go.RowKit
open AV (Mem Keeps)
set_option maxRecDepth 100000
set_option maxHeartbeats 16000000 in
theorem spec_compile_yes (d : Des) (hd : dtotal d ≤ 1048576) (hG : Good' d) (n : Nat) (x : Rul) (hx : d[n]? = some x) (s : Int) (en : List Int) (hkn : ACv Try.prog 42 [desR d, .int (n : Int)] (.bool true)) (hen : n ≤ en.length) :
    AC Try.prog 26 [desR d, .int (n : Int), .int s, intsR en] (fun rr => rr = .row 86 3 ((ruleI x s en).flatMap insR)) := by
  have hk := kind_at hG hx
  have hr : RuleOkC d x en := ⟨hk, fun k z hz => by have := kids_at hG hx hz; omega⟩
  obtain ⟨b1, b2⟩ := cmp_bounds hk
  have hlm : (d.map rulR).length = d.length := List.length_map ..
  have hle : (en.map fun z => [RV.int z]).length = en.length := List.length_map ..
  have hlk : (x.kids.map fun z => [RV.int z]).length = x.kids.length := List.length_map ..
  have hlt' : (x.tags.map fun z => [RV.int z]).length = x.tags.length := List.length_map ..
  have hlb : (x.bytes.map fun z => [RV.u8 z]).length = x.bytes.length := List.length_map ..
  have hx' : d[(n : Int).toNat]? = some x := hx
  have hxt := sum_mem_le Rul.total (List.mem_of_getElem? hx)
  have et : dtotal d = d.length + (d.map Rul.total).sum := rfl
  have etx : x.total = x.name.size + x.bytes.length + (x.names.length + (x.names.map ByteArray.size).sum) + x.tags.length + x.kids.length := rfl
  obtain ⟨f5, f7, f8, f4⟩ := item_fields hk
  have hbl := body_len s (en := en) hk (by omega)
  have hkk : x.kind = 1 ∨ x.kind = 2 ∨ x.kind = 3 ∨ x.kind = 4 ∨ x.kind = 5 ∨ x.kind = 6 ∨ x.kind = 7 ∨ x.kind = 8 ∨ x.kind = 9 ∨ x.kind = 10 := by omega
  refine ac_enter Try.func26 rfl _ Try.ntmps26 (by simp) fun C hn hm => ?_
  rcases hkk with e | e | e | e | e | e | e | e | e | e
  · repeat' (first
    | refine Runs.toDrawT (id := 8) 30 [] [0, 1, 2, 3, 4, 5, 6] 7 [] mixed hn rfl (by kernel_rfl) rfl .nil (by decide) (by decide) (by decide) ?_
    | refine op_build0 (tl hn rfl) ?_
    | refine op_appendB rfl rfl rfl rfl rfl rfl (by simp) (by repeat' (first | exact trivial | exact onlys_ro _ _ | refine ⟨?_, ?_⟩)) (by simp) rfl (tl hn rfl) ?_
    | refine RunsT.nil ?_
    | refine RunsT.step tabOk rfl rfl (fun _ => rfl) (by decide) ?_
    | refine RunsT.pur (fun _ => pu_callR hkn rfl) (by decide) rfl rfl ?_
    | refine RunsT.pur (fun _ => pu_callR (l15Little_ac _) rfl) (by decide) rfl rfl ?_
    | refine RunsT.pur (fun _ => pu_callR (l15Op_ac _ _ _) rfl) (by decide) rfl rfl ?_
    | refine RunsT.pur (fun _ => pu_build rfl rfl rfl rfl rfl rfl) (by decide) rfl rfl ?_
    | refine RunsT.pur (fun _ => pu_add rfl rfl (by omega)) (by decide) rfl rfl ?_
    | refine RunsT.pur (fun _ => pu_indexAddr_map rfl rfl (by omega) (by assumption)) (by decide) rfl rfl ?_
    | refine RunsT.alloc (p := 0) rfl inferInstance ?_
    | refine RunsT.alloc (p := 1) rfl inferInstance ?_
    | refine RunsL.step tabOk hn rfl ?_
    | refine RunsL.nil ?_
    | refine Runs.toRegion 30 rfl ?_
    | ((first | refine RunsL.pe hn rfl rfl rfl ?_ | refine RunsD.pe rfl rfl ?_); first
      | refine ⟨_, pu_callR hkn rfl, ?_⟩
      | refine ⟨_, pu_callR (l15Little_ac _) rfl, ?_⟩
      | refine ⟨_, pu_callR (l15Op_ac _ _ _) rfl, ?_⟩
      | refine ⟨_, pu_build rfl rfl rfl rfl rfl rfl, ?_⟩)
    | (refine Runs.ctls 30 rfl ?_; first | refine Runs.cond_t rfl ?_ | refine Runs.cond_f rfl ?_ | ((first | refine Runs.cond_yes rfl ?_ ?_ | refine Runs.cond_nno rfl ?_ ?_); · first | omega | rfl | assumption | (simp only [List.length_map]; omega)) | ((first | refine Runs.cond_no rfl ?_ ?_ | refine Runs.cond_nyes rfl ?_ ?_); · first | omega | rfl | assumption | (simp only [List.length_map]; omega)) | refine Runs.cond_dec rfl (fun h => ?_) (fun h => ?_) | refine Runs.cond_ndec rfl (fun h => ?_) (fun h => ?_) | refine Runs.cond_nb rfl (fun h => ?_) (fun h => ?_) | refine Runs.cond_b rfl (fun h => ?_) (fun h => ?_) | refine Runs.ret (ends_ro hm rfl rfl ?_) | exact Runs.ret (ends_cellR hm rfl rfl rfl (Nat.le_of_ble_eq_true rfl) rfl rfl))
    | refine op_box rfl (tl hn rfl) ?_
    | refine op_storeF rfl rfl rfl rfl (Nat.le_of_ble_eq_true rfl) ?_
    | refine op_alloc (tl hn rfl) ?_
    | refine op_storeN rfl rfl rfl rfl (Nat.le_of_ble_eq_true rfl) ?_
    | refine RunsD.step tabOk hn rfl rfl ?_
    | refine RunsD.nil ?_
    | refine Runs.toDraw 30 mixed hn rfl (by kernel_rfl) rfl ?_
    | ((first | refine RunsL.pe hn rfl rfl rfl ?_ | refine RunsD.pe rfl rfl ?_); first
      | refine ⟨_, pu_add rfl rfl (by omega), ?_⟩
      | refine ⟨_, pu_indexAddr_map rfl rfl (by omega) (by assumption), ?_⟩
      | refine ⟨_, pu_sub rfl rfl (by omega), ?_⟩
      | refine ⟨_, pu_pick_b rfl rfl rfl, ?_⟩
      | refine ⟨_, pu_mul rfl rfl (by omega), ?_⟩
      | refine ⟨_, pu_build rfl rfl rfl rfl rfl rfl, ?_⟩)
    | ((first | refine RunsL.guard_dec rfl rfl rfl ?_ ?_ | refine RunsL.guard_ndec rfl rfl rfl ?_ ?_ | refine RunsL.guard_nb rfl rfl rfl ?_ ?_ | refine RunsL.guard_b rfl rfl rfl ?_ ?_ | refine RunsD.guard_dec rfl rfl rfl ?_ ?_ | refine RunsD.guard_ndec rfl rfl rfl ?_ ?_ | refine RunsD.guard_nb rfl rfl rfl ?_ ?_ | refine RunsD.guard_b rfl rfl rfl ?_ ?_) <;> intro h <;> try (exfalso; first | omega | contradiction | (simp only [List.length_map] at h; omega))))
    refine Runs.ctls 30 rfl (Runs.ret (ends_own (rs := (ruleI x s en).flatMap insR) hm rfl rfl rfl ?_ rfl))
    have hE : ruleI x s en = [⟨1, x.size, if x.little = true then 1 else 0⟩, ⟨10, 0, 0⟩] := by simp [ruleI, bodyI, e]
    rw [hE]
    rfl
  · repeat' (first
    | refine op_build0 (tl hn rfl) ?_
    | refine RunsL.step tabOk hn rfl ?_
    | refine RunsL.nil ?_
    | refine Runs.toRegion 30 rfl ?_
    | ((first | refine RunsL.pe hn rfl rfl rfl ?_ | refine RunsD.pe rfl rfl ?_); first
      | refine ⟨_, pu_callR hkn rfl, ?_⟩)
    | (refine Runs.ctls 30 rfl ?_; first | refine Runs.cond_t rfl ?_ | refine Runs.cond_f rfl ?_ | ((first | refine Runs.cond_yes rfl ?_ ?_ | refine Runs.cond_nno rfl ?_ ?_); · first | omega | rfl | assumption | (simp only [List.length_map]; omega)) | ((first | refine Runs.cond_no rfl ?_ ?_ | refine Runs.cond_nyes rfl ?_ ?_); · first | omega | rfl | assumption | (simp only [List.length_map]; omega)) | refine Runs.cond_dec rfl (fun h => ?_) (fun h => ?_) | refine Runs.cond_ndec rfl (fun h => ?_) (fun h => ?_) | refine Runs.cond_nb rfl (fun h => ?_) (fun h => ?_) | refine Runs.cond_b rfl (fun h => ?_) (fun h => ?_) | refine Runs.ret (ends_ro hm rfl rfl ?_) | exact Runs.ret (ends_cellR hm rfl rfl rfl (Nat.le_of_ble_eq_true rfl) rfl rfl))
    | refine op_box rfl (tl hn rfl) ?_
    | refine op_storeF rfl rfl rfl rfl (Nat.le_of_ble_eq_true rfl) ?_
    | refine op_alloc (tl hn rfl) ?_
    | refine op_storeN rfl rfl rfl rfl (Nat.le_of_ble_eq_true rfl) ?_
    | refine RunsD.step tabOk hn rfl rfl ?_
    | refine RunsD.nil ?_
    | refine Runs.toDraw 30 mixed hn rfl (by kernel_rfl) rfl ?_
    | ((first | refine RunsL.pe hn rfl rfl rfl ?_ | refine RunsD.pe rfl rfl ?_); first
      | refine ⟨_, pu_add rfl rfl (by omega), ?_⟩
      | refine ⟨_, pu_indexAddr_map rfl rfl (by omega) (by assumption), ?_⟩
      | refine ⟨_, pu_sub rfl rfl (by omega), ?_⟩
      | refine ⟨_, pu_pick_b rfl rfl rfl, ?_⟩
      | refine ⟨_, pu_mul rfl rfl (by omega), ?_⟩
      | refine ⟨_, pu_build rfl rfl rfl rfl rfl rfl, ?_⟩)
    | ((first | refine RunsL.guard_dec rfl rfl rfl ?_ ?_ | refine RunsL.guard_ndec rfl rfl rfl ?_ ?_ | refine RunsL.guard_nb rfl rfl rfl ?_ ?_ | refine RunsL.guard_b rfl rfl rfl ?_ ?_ | refine RunsD.guard_dec rfl rfl rfl ?_ ?_ | refine RunsD.guard_ndec rfl rfl rfl ?_ ?_ | refine RunsD.guard_nb rfl rfl rfl ?_ ?_ | refine RunsD.guard_b rfl rfl rfl ?_ ?_) <;> intro h <;> try (exfalso; first | omega | contradiction | (simp only [List.length_map] at h; omega))))
    refine Runs.loopN 30 rfl (fun j => [(9, .own 1), (10, .obj 2 0), (11, .int (j : Int))]) (fun j => [⟨34, 0, [.ro (rulsR d)]⟩, ⟨86, 3, ((conI (x.bytes.take j)).flatMap insR).map .ro⟩, ⟨73, 0, (rulR x).map .ro⟩]) (fun _ => True) x.bytes.length 0 (Nat.zero_le _) trivial ⟨rfl, rfl, rfl, trivial⟩ rfl fun j hj _ next => ?_
    have hcl := conI_len x.bytes j
    have hfl := insR_flat (conI (x.bytes.take j))
    by_cases hlt : j < x.bytes.length
    · obtain ⟨b, hb⟩ : ∃ b, x.bytes[(j : Int).toNat]? = some b := ⟨_, List.getElem?_eq_getElem hlt⟩
      have hb' : x.bytes[j]? = some b := hb
      repeat' (first
        | refine op_append (n := (conI (x.bytes.take j)).length) rfl rfl rfl rfl rfl rfl (by rw [hfl]) (FreeI.at_ (i := 1) (by repeat' (first | exact trivial | exact onlys_ro _ _ | refine ⟨?_, ?_⟩))) (by simp; omega) (by simp; omega) (tl hn rfl) ?_
        | refine RunsL.step tabOk hn rfl ?_
        | refine RunsL.nil ?_
        | refine Runs.toRegion 30 rfl ?_
        | ((first | refine RunsL.pe hn rfl rfl rfl ?_ | refine RunsD.pe rfl rfl ?_); first
          | refine ⟨_, pu_callR (l15Op_ac _ _ _) rfl, ?_⟩
          | refine ⟨_, pu_ofU8 rfl, ?_⟩)
        | (refine Runs.ctls 30 rfl ?_; first | refine Runs.cond_t rfl ?_ | refine Runs.cond_f rfl ?_ | ((first | refine Runs.cond_yes rfl ?_ ?_ | refine Runs.cond_nno rfl ?_ ?_); · first | omega | rfl | assumption | (simp only [List.length_map]; omega)) | ((first | refine Runs.cond_no rfl ?_ ?_ | refine Runs.cond_nyes rfl ?_ ?_); · first | omega | rfl | assumption | (simp only [List.length_map]; omega)) | refine Runs.cond_dec rfl (fun h => ?_) (fun h => ?_) | refine Runs.cond_ndec rfl (fun h => ?_) (fun h => ?_) | refine Runs.cond_nb rfl (fun h => ?_) (fun h => ?_) | refine Runs.cond_b rfl (fun h => ?_) (fun h => ?_) | refine Runs.ret (ends_ro hm rfl rfl ?_) | exact Runs.ret (ends_cellR hm rfl rfl rfl (Nat.le_of_ble_eq_true rfl) rfl rfl))
        | refine op_box rfl (tl hn rfl) ?_
        | refine op_storeF rfl rfl rfl rfl (Nat.le_of_ble_eq_true rfl) ?_
        | refine op_alloc (tl hn rfl) ?_
        | refine op_storeN rfl rfl rfl rfl (Nat.le_of_ble_eq_true rfl) ?_
        | refine RunsD.step tabOk hn rfl rfl ?_
        | refine RunsD.nil ?_
        | refine Runs.toDraw 30 mixed hn rfl (by kernel_rfl) rfl ?_
        | ((first | refine RunsL.pe hn rfl rfl rfl ?_ | refine RunsD.pe rfl rfl ?_); first
          | refine ⟨_, pu_add rfl rfl (by omega), ?_⟩
          | refine ⟨_, pu_indexAddr_map rfl rfl (by omega) (by assumption), ?_⟩
          | refine ⟨_, pu_sub rfl rfl (by omega), ?_⟩
          | refine ⟨_, pu_pick_b rfl rfl rfl, ?_⟩
          | refine ⟨_, pu_mul rfl rfl (by omega), ?_⟩
          | refine ⟨_, pu_build rfl rfl rfl rfl rfl rfl, ?_⟩)
        | ((first | refine RunsL.guard_dec rfl rfl rfl ?_ ?_ | refine RunsL.guard_ndec rfl rfl rfl ?_ ?_ | refine RunsL.guard_nb rfl rfl rfl ?_ ?_ | refine RunsL.guard_b rfl rfl rfl ?_ ?_ | refine RunsD.guard_dec rfl rfl rfl ?_ ?_ | refine RunsD.guard_ndec rfl rfl rfl ?_ ?_ | refine RunsD.guard_nb rfl rfl rfl ?_ ?_ | refine RunsD.guard_b rfl rfl rfl ?_ ?_) <;> intro h <;> try (exfalso; first | omega | contradiction | (simp only [List.length_map] at h; omega))))
      refine next _ _ ⟨rfl, rfl, rfl, trivial⟩ hlt trivial ?_
      rw [conI_next hb']
      simp
      rfl
    · obtain rfl : j = x.bytes.length := by omega
      rw [List.take_length] at hfl ⊢
      have hcl' : (conI x.bytes).length = x.bytes.length := List.length_map ..
      repeat' (first
        | refine op_append (n := (conI x.bytes).length) rfl rfl rfl rfl rfl rfl (by rw [hfl]) (FreeI.at_ (i := 1) (by repeat' (first | exact trivial | exact onlys_ro _ _ | refine ⟨?_, ?_⟩))) (by simp; omega) (by simp; omega) (tl hn rfl) ?_
        | refine RunsL.step tabOk hn rfl ?_
        | refine RunsL.nil ?_
        | refine Runs.toRegion 30 rfl ?_
        | ((first | refine RunsL.pe hn rfl rfl rfl ?_ | refine RunsD.pe rfl rfl ?_); first
          | refine ⟨_, pu_callR (l15Op_ac _ _ _) rfl, ?_⟩)
        | (refine Runs.ctls 30 rfl ?_; first | refine Runs.cond_t rfl ?_ | refine Runs.cond_f rfl ?_ | ((first | refine Runs.cond_yes rfl ?_ ?_ | refine Runs.cond_nno rfl ?_ ?_); · first | omega | rfl | assumption | (simp only [List.length_map]; omega)) | ((first | refine Runs.cond_no rfl ?_ ?_ | refine Runs.cond_nyes rfl ?_ ?_); · first | omega | rfl | assumption | (simp only [List.length_map]; omega)) | refine Runs.cond_dec rfl (fun h => ?_) (fun h => ?_) | refine Runs.cond_ndec rfl (fun h => ?_) (fun h => ?_) | refine Runs.cond_nb rfl (fun h => ?_) (fun h => ?_) | refine Runs.cond_b rfl (fun h => ?_) (fun h => ?_) | refine Runs.ret (ends_ro hm rfl rfl ?_) | exact Runs.ret (ends_cellR hm rfl rfl rfl (Nat.le_of_ble_eq_true rfl) rfl rfl))
        | refine op_box rfl (tl hn rfl) ?_
        | refine op_storeF rfl rfl rfl rfl (Nat.le_of_ble_eq_true rfl) ?_
        | refine op_alloc (tl hn rfl) ?_
        | refine op_storeN rfl rfl rfl rfl (Nat.le_of_ble_eq_true rfl) ?_
        | refine RunsD.step tabOk hn rfl rfl ?_
        | refine RunsD.nil ?_
        | refine Runs.toDraw 30 mixed hn rfl (by kernel_rfl) rfl ?_
        | ((first | refine RunsL.pe hn rfl rfl rfl ?_ | refine RunsD.pe rfl rfl ?_); first
          | refine ⟨_, pu_add rfl rfl (by omega), ?_⟩
          | refine ⟨_, pu_indexAddr_map rfl rfl (by omega) (by assumption), ?_⟩
          | refine ⟨_, pu_sub rfl rfl (by omega), ?_⟩
          | refine ⟨_, pu_pick_b rfl rfl rfl, ?_⟩
          | refine ⟨_, pu_mul rfl rfl (by omega), ?_⟩
          | refine ⟨_, pu_build rfl rfl rfl rfl rfl rfl, ?_⟩)
        | ((first | refine RunsL.guard_dec rfl rfl rfl ?_ ?_ | refine RunsL.guard_ndec rfl rfl rfl ?_ ?_ | refine RunsL.guard_nb rfl rfl rfl ?_ ?_ | refine RunsL.guard_b rfl rfl rfl ?_ ?_ | refine RunsD.guard_dec rfl rfl rfl ?_ ?_ | refine RunsD.guard_ndec rfl rfl rfl ?_ ?_ | refine RunsD.guard_nb rfl rfl rfl ?_ ?_ | refine RunsD.guard_b rfl rfl rfl ?_ ?_) <;> intro h <;> try (exfalso; first | omega | contradiction | (simp only [List.length_map] at h; omega))))
      refine Runs.ctls 30 rfl (Runs.ret (ends_own (rs := (ruleI x s en).flatMap insR) hm rfl rfl rfl ?_ rfl))
      have hE : ruleI x s en = conI x.bytes ++ [⟨10, 0, 0⟩] := by simp [ruleI, bodyI, e, conI]
      rw [hE]
      rw [List.flatMap_append]
      rfl
  · repeat' (first
    | refine op_build0 (tl hn rfl) ?_
    | refine op_appendB rfl rfl rfl rfl rfl rfl (by simp) (by repeat' (first | exact trivial | exact onlys_ro _ _ | refine ⟨?_, ?_⟩)) (by simp) rfl (tl hn rfl) ?_
    | refine RunsL.step tabOk hn rfl ?_
    | refine RunsL.nil ?_
    | refine Runs.toRegion 30 rfl ?_
    | ((first | refine RunsL.pe hn rfl rfl rfl ?_ | refine RunsD.pe rfl rfl ?_); first
      | refine ⟨_, pu_callR hkn rfl, ?_⟩
      | refine ⟨_, pu_callR (l15Op_ac _ _ _) rfl, ?_⟩)
    | (refine Runs.ctls 30 rfl ?_; first | refine Runs.cond_t rfl ?_ | refine Runs.cond_f rfl ?_ | ((first | refine Runs.cond_yes rfl ?_ ?_ | refine Runs.cond_nno rfl ?_ ?_); · first | omega | rfl | assumption | (simp only [List.length_map]; omega)) | ((first | refine Runs.cond_no rfl ?_ ?_ | refine Runs.cond_nyes rfl ?_ ?_); · first | omega | rfl | assumption | (simp only [List.length_map]; omega)) | refine Runs.cond_dec rfl (fun h => ?_) (fun h => ?_) | refine Runs.cond_ndec rfl (fun h => ?_) (fun h => ?_) | refine Runs.cond_nb rfl (fun h => ?_) (fun h => ?_) | refine Runs.cond_b rfl (fun h => ?_) (fun h => ?_) | refine Runs.ret (ends_ro hm rfl rfl ?_) | exact Runs.ret (ends_cellR hm rfl rfl rfl (Nat.le_of_ble_eq_true rfl) rfl rfl))
    | refine op_box rfl (tl hn rfl) ?_
    | refine op_storeF rfl rfl rfl rfl (Nat.le_of_ble_eq_true rfl) ?_
    | refine op_alloc (tl hn rfl) ?_
    | refine op_storeN rfl rfl rfl rfl (Nat.le_of_ble_eq_true rfl) ?_
    | refine RunsD.step tabOk hn rfl rfl ?_
    | refine RunsD.nil ?_
    | refine Runs.toDraw 30 mixed hn rfl (by kernel_rfl) rfl ?_
    | ((first | refine RunsL.pe hn rfl rfl rfl ?_ | refine RunsD.pe rfl rfl ?_); first
      | refine ⟨_, pu_add rfl rfl (by omega), ?_⟩
      | refine ⟨_, pu_indexAddr_map rfl rfl (by omega) (by assumption), ?_⟩
      | refine ⟨_, pu_sub rfl rfl (by omega), ?_⟩
      | refine ⟨_, pu_pick_b rfl rfl rfl, ?_⟩
      | refine ⟨_, pu_mul rfl rfl (by omega), ?_⟩
      | refine ⟨_, pu_build rfl rfl rfl rfl rfl rfl, ?_⟩)
    | ((first | refine RunsL.guard_dec rfl rfl rfl ?_ ?_ | refine RunsL.guard_ndec rfl rfl rfl ?_ ?_ | refine RunsL.guard_nb rfl rfl rfl ?_ ?_ | refine RunsL.guard_b rfl rfl rfl ?_ ?_ | refine RunsD.guard_dec rfl rfl rfl ?_ ?_ | refine RunsD.guard_ndec rfl rfl rfl ?_ ?_ | refine RunsD.guard_nb rfl rfl rfl ?_ ?_ | refine RunsD.guard_b rfl rfl rfl ?_ ?_) <;> intro h <;> try (exfalso; first | omega | contradiction | (simp only [List.length_map] at h; omega))))
    refine Runs.ctls 30 rfl (Runs.ret (ends_own (rs := (ruleI x s en).flatMap insR) hm rfl rfl rfl ?_ rfl))
    have hE : ruleI x s en = [⟨3, x.size, 0⟩, ⟨10, 0, 0⟩] := by simp [ruleI, bodyI, e]
    rw [hE]
    rfl
  · obtain ⟨h0, h1, h2⟩ := kid0 hr (by have := f4 e; omega)
    have hC0 := l15Call_ac en (x.kids.headD 0) h1 h2
    repeat' (first
      | refine op_build0 (tl hn rfl) ?_
      | refine op_appendB rfl rfl rfl rfl rfl rfl (by simp) (by repeat' (first | exact trivial | exact onlys_ro _ _ | refine ⟨?_, ?_⟩)) (by simp) rfl (tl hn rfl) ?_
      | refine RunsL.step tabOk hn rfl ?_
      | refine RunsL.nil ?_
      | refine Runs.toRegion 30 rfl ?_
      | ((first | refine RunsL.pe hn rfl rfl rfl ?_ | refine RunsD.pe rfl rfl ?_); first
        | refine ⟨_, pu_callR hkn rfl, ?_⟩
        | refine ⟨_, pu_callR (l15Op_ac _ _ _) rfl, ?_⟩
        | refine ⟨_, pu_callR hC0 rfl, ?_⟩)
      | (refine Runs.ctls 30 rfl ?_; first | refine Runs.cond_t rfl ?_ | refine Runs.cond_f rfl ?_ | ((first | refine Runs.cond_yes rfl ?_ ?_ | refine Runs.cond_nno rfl ?_ ?_); · first | omega | rfl | assumption | (simp only [List.length_map]; omega)) | ((first | refine Runs.cond_no rfl ?_ ?_ | refine Runs.cond_nyes rfl ?_ ?_); · first | omega | rfl | assumption | (simp only [List.length_map]; omega)) | refine Runs.cond_dec rfl (fun h => ?_) (fun h => ?_) | refine Runs.cond_ndec rfl (fun h => ?_) (fun h => ?_) | refine Runs.cond_nb rfl (fun h => ?_) (fun h => ?_) | refine Runs.cond_b rfl (fun h => ?_) (fun h => ?_) | refine Runs.ret (ends_ro hm rfl rfl ?_) | exact Runs.ret (ends_cellR hm rfl rfl rfl (Nat.le_of_ble_eq_true rfl) rfl rfl))
      | refine op_box rfl (tl hn rfl) ?_
      | refine op_storeF rfl rfl rfl rfl (Nat.le_of_ble_eq_true rfl) ?_
      | refine op_alloc (tl hn rfl) ?_
      | refine op_storeN rfl rfl rfl rfl (Nat.le_of_ble_eq_true rfl) ?_
      | refine RunsD.step tabOk hn rfl rfl ?_
      | refine RunsD.nil ?_
      | refine Runs.toDraw 30 mixed hn rfl (by kernel_rfl) rfl ?_
      | ((first | refine RunsL.pe hn rfl rfl rfl ?_ | refine RunsD.pe rfl rfl ?_); first
        | refine ⟨_, pu_add rfl rfl (by omega), ?_⟩
        | refine ⟨_, pu_indexAddr_map rfl rfl (by omega) (by assumption), ?_⟩
        | refine ⟨_, pu_sub rfl rfl (by omega), ?_⟩
        | refine ⟨_, pu_pick_b rfl rfl rfl, ?_⟩
        | refine ⟨_, pu_mul rfl rfl (by omega), ?_⟩
        | refine ⟨_, pu_build rfl rfl rfl rfl rfl rfl, ?_⟩)
      | ((first | refine RunsL.guard_dec rfl rfl rfl ?_ ?_ | refine RunsL.guard_ndec rfl rfl rfl ?_ ?_ | refine RunsL.guard_nb rfl rfl rfl ?_ ?_ | refine RunsL.guard_b rfl rfl rfl ?_ ?_ | refine RunsD.guard_dec rfl rfl rfl ?_ ?_ | refine RunsD.guard_ndec rfl rfl rfl ?_ ?_ | refine RunsD.guard_nb rfl rfl rfl ?_ ?_ | refine RunsD.guard_b rfl rfl rfl ?_ ?_) <;> intro h <;> try (exfalso; first | omega | contradiction | (simp only [List.length_map] at h; omega))))
    refine Runs.ctls 30 rfl (Runs.ret (ends_own (rs := (ruleI x s en).flatMap insR) hm rfl rfl rfl ?_ rfl))
    have hE : ruleI x s en = [callI en (x.kids.headD 0), ⟨4, 0, 0⟩, ⟨10, 0, 0⟩] := by simp [ruleI, bodyI, e]
    rw [hE]
    rfl
  · have hk2 := f5 e
    obtain ⟨h0, h1, h2⟩ := kid0 hr (by omega)
    have hC0 := l15Call_ac en (x.kids.headD 0) h1 h2
    obtain ⟨z, hz⟩ : ∃ z, x.kids[(1 : Int).toNat]? = some z := ⟨_, List.getElem?_eq_getElem (by simp; omega)⟩
    have hz' : x.kids[1]? = some z := hz
    obtain ⟨h3, h4⟩ := hr.2 1 z hz'
    have hC1 := l15Call_ac en z h3 h4
    repeat' (first
      | refine Runs.toDrawT (id := 19) 30 [] [0, 1, 2, 3, 4, 5, 6, 7, 8, 9, 10, 11, 12, 13, 14, 15, 16, 17, 18, 19, 20, 21] 22 [] mixed hn rfl (by kernel_rfl) rfl .nil (by decide) (by decide) (by decide) ?_
      | refine op_build0 (tl hn rfl) ?_
      | refine op_appendB rfl rfl rfl rfl rfl rfl (by simp) (by repeat' (first | exact trivial | exact onlys_ro _ _ | refine ⟨?_, ?_⟩)) (by simp) rfl (tl hn rfl) ?_
      | refine RunsT.nil ?_
      | refine RunsT.step tabOk rfl rfl (fun _ => rfl) (by decide) ?_
      | refine RunsT.pur (fun _ => pu_callR hkn rfl) (by decide) rfl rfl ?_
      | refine RunsT.pur (fun _ => pu_callR hC0 rfl) (by decide) rfl rfl ?_
      | refine RunsT.pur (fun _ => pu_callR hC1 rfl) (by decide) rfl rfl ?_
      | refine RunsT.pur (fun _ => pu_callR (l15Op_ac _ _ _) rfl) (by decide) rfl rfl ?_
      | refine RunsT.pur (fun _ => pu_addW rfl rfl) (by decide) rfl rfl ?_
      | refine RunsT.pur (fun _ => pu_build rfl rfl rfl rfl rfl rfl) (by decide) rfl rfl ?_
      | refine RunsT.pur (fun _ => pu_add rfl rfl (by omega)) (by decide) rfl rfl ?_
      | refine RunsT.pur (fun _ => pu_indexAddr_map rfl rfl (by omega) (by assumption)) (by decide) rfl rfl ?_
      | refine RunsT.alloc (p := 0) rfl inferInstance ?_
      | refine RunsT.alloc (p := 1) rfl inferInstance ?_
      | refine RunsL.step tabOk hn rfl ?_
      | refine RunsL.nil ?_
      | refine Runs.toRegion 30 rfl ?_
      | ((first | refine RunsL.pe hn rfl rfl rfl ?_ | refine RunsD.pe rfl rfl ?_); first
        | refine ⟨_, pu_callR hkn rfl, ?_⟩
        | refine ⟨_, pu_callR hC0 rfl, ?_⟩
        | refine ⟨_, pu_callR hC1 rfl, ?_⟩
        | refine ⟨_, pu_callR (l15Op_ac _ _ _) rfl, ?_⟩
        | refine ⟨_, pu_addW rfl rfl, ?_⟩
        | refine ⟨_, pu_build rfl rfl rfl rfl rfl rfl, ?_⟩)
      | (refine Runs.ctls 30 rfl ?_; first | refine Runs.cond_t rfl ?_ | refine Runs.cond_f rfl ?_ | ((first | refine Runs.cond_yes rfl ?_ ?_ | refine Runs.cond_nno rfl ?_ ?_); · first | omega | rfl | assumption | (simp only [List.length_map]; omega)) | ((first | refine Runs.cond_no rfl ?_ ?_ | refine Runs.cond_nyes rfl ?_ ?_); · first | omega | rfl | assumption | (simp only [List.length_map]; omega)) | refine Runs.cond_dec rfl (fun h => ?_) (fun h => ?_) | refine Runs.cond_ndec rfl (fun h => ?_) (fun h => ?_) | refine Runs.cond_nb rfl (fun h => ?_) (fun h => ?_) | refine Runs.cond_b rfl (fun h => ?_) (fun h => ?_) | refine Runs.ret (ends_ro hm rfl rfl ?_) | exact Runs.ret (ends_cellR hm rfl rfl rfl (Nat.le_of_ble_eq_true rfl) rfl rfl))
      | refine op_box rfl (tl hn rfl) ?_
      | refine op_storeF rfl rfl rfl rfl (Nat.le_of_ble_eq_true rfl) ?_
      | refine op_alloc (tl hn rfl) ?_
      | refine op_storeN rfl rfl rfl rfl (Nat.le_of_ble_eq_true rfl) ?_
      | refine RunsD.step tabOk hn rfl rfl ?_
      | refine RunsD.nil ?_
      | refine Runs.toDraw 30 mixed hn rfl (by kernel_rfl) rfl ?_
      | ((first | refine RunsL.pe hn rfl rfl rfl ?_ | refine RunsD.pe rfl rfl ?_); first
        | refine ⟨_, pu_add rfl rfl (by omega), ?_⟩
        | refine ⟨_, pu_indexAddr_map rfl rfl (by omega) (by assumption), ?_⟩
        | refine ⟨_, pu_sub rfl rfl (by omega), ?_⟩
        | refine ⟨_, pu_pick_b rfl rfl rfl, ?_⟩
        | refine ⟨_, pu_mul rfl rfl (by omega), ?_⟩
        | refine ⟨_, pu_build rfl rfl rfl rfl rfl rfl, ?_⟩)
      | ((first | refine RunsL.guard_dec rfl rfl rfl ?_ ?_ | refine RunsL.guard_ndec rfl rfl rfl ?_ ?_ | refine RunsL.guard_nb rfl rfl rfl ?_ ?_ | refine RunsL.guard_b rfl rfl rfl ?_ ?_ | refine RunsD.guard_dec rfl rfl rfl ?_ ?_ | refine RunsD.guard_ndec rfl rfl rfl ?_ ?_ | refine RunsD.guard_nb rfl rfl rfl ?_ ?_ | refine RunsD.guard_b rfl rfl rfl ?_ ?_) <;> intro h <;> try (exfalso; first | omega | contradiction | (simp only [List.length_map] at h; omega))))
    refine Runs.ctls 30 rfl (Runs.ret (ends_own (rs := (ruleI x s en).flatMap insR) hm rfl rfl rfl ?_ rfl))
    have hE : ruleI x s en = [callI en (x.kids.headD 0), ⟨5, 40, 0⟩, ⟨6, 0, 0⟩, ⟨7, w64 (s + 6), 0⟩, callI en z, ⟨8, w64 (s + 3), 0⟩, ⟨10, 0, 0⟩] := by simp [ruleI, bodyI, e, hz']
    rw [hE]
    rfl
  · repeat' (first
    | refine op_build0 (tl hn rfl) ?_
    | refine RunsL.step tabOk hn rfl ?_
    | refine RunsL.nil ?_
    | refine Runs.toRegion 30 rfl ?_
    | ((first | refine RunsL.pe hn rfl rfl rfl ?_ | refine RunsD.pe rfl rfl ?_); first
      | refine ⟨_, pu_callR hkn rfl, ?_⟩)
    | (refine Runs.ctls 30 rfl ?_; first | refine Runs.cond_t rfl ?_ | refine Runs.cond_f rfl ?_ | ((first | refine Runs.cond_yes rfl ?_ ?_ | refine Runs.cond_nno rfl ?_ ?_); · first | omega | rfl | assumption | (simp only [List.length_map]; omega)) | ((first | refine Runs.cond_no rfl ?_ ?_ | refine Runs.cond_nyes rfl ?_ ?_); · first | omega | rfl | assumption | (simp only [List.length_map]; omega)) | refine Runs.cond_dec rfl (fun h => ?_) (fun h => ?_) | refine Runs.cond_ndec rfl (fun h => ?_) (fun h => ?_) | refine Runs.cond_nb rfl (fun h => ?_) (fun h => ?_) | refine Runs.cond_b rfl (fun h => ?_) (fun h => ?_) | refine Runs.ret (ends_ro hm rfl rfl ?_) | exact Runs.ret (ends_cellR hm rfl rfl rfl (Nat.le_of_ble_eq_true rfl) rfl rfl))
    | refine op_box rfl (tl hn rfl) ?_
    | refine op_storeF rfl rfl rfl rfl (Nat.le_of_ble_eq_true rfl) ?_
    | refine op_alloc (tl hn rfl) ?_
    | refine op_storeN rfl rfl rfl rfl (Nat.le_of_ble_eq_true rfl) ?_
    | refine RunsD.step tabOk hn rfl rfl ?_
    | refine RunsD.nil ?_
    | refine Runs.toDraw 30 mixed hn rfl (by kernel_rfl) rfl ?_
    | ((first | refine RunsL.pe hn rfl rfl rfl ?_ | refine RunsD.pe rfl rfl ?_); first
      | refine ⟨_, pu_add rfl rfl (by omega), ?_⟩
      | refine ⟨_, pu_indexAddr_map rfl rfl (by omega) (by assumption), ?_⟩
      | refine ⟨_, pu_sub rfl rfl (by omega), ?_⟩
      | refine ⟨_, pu_pick_b rfl rfl rfl, ?_⟩
      | refine ⟨_, pu_mul rfl rfl (by omega), ?_⟩
      | refine ⟨_, pu_build rfl rfl rfl rfl rfl rfl, ?_⟩)
    | ((first | refine RunsL.guard_dec rfl rfl rfl ?_ ?_ | refine RunsL.guard_ndec rfl rfl rfl ?_ ?_ | refine RunsL.guard_nb rfl rfl rfl ?_ ?_ | refine RunsL.guard_b rfl rfl rfl ?_ ?_ | refine RunsD.guard_dec rfl rfl rfl ?_ ?_ | refine RunsD.guard_ndec rfl rfl rfl ?_ ?_ | refine RunsD.guard_nb rfl rfl rfl ?_ ?_ | refine RunsD.guard_b rfl rfl rfl ?_ ?_) <;> intro h <;> try (exfalso; first | omega | contradiction | (simp only [List.length_map] at h; omega))))
    refine Runs.loopN 30 rfl (fun j => [(3, .ro (intsR en)), (9, .own 1), (10, .obj 2 0), (12, .int (j : Int))]) (fun j => [⟨34, 0, [.ro (rulsR d)]⟩, ⟨86, 3, ((seqC en (x.kids.take j)).flatMap insR).map .ro⟩, ⟨73, 0, (rulR x).map .ro⟩]) (fun _ => True) x.kids.length 0 (Nat.zero_le _) trivial ⟨rfl, rfl, rfl, rfl, trivial⟩ rfl fun j hj _ next => ?_
    have hcl := seqC_len en x.kids j
    have hfl := insR_flat (seqC en (x.kids.take j))
    by_cases hlt : j < x.kids.length
    · obtain ⟨b, hb⟩ : ∃ b, x.kids[(j : Int).toNat]? = some b := ⟨_, List.getElem?_eq_getElem hlt⟩
      have hb' : x.kids[j]? = some b := hb
      obtain ⟨h3, h4⟩ := hr.2 j b hb'
      have hCj := l15Call_ac en b h3 h4
      repeat' (first
        | refine op_append (n := (seqC en (x.kids.take j)).length) rfl rfl rfl rfl rfl rfl (by rw [hfl]) (FreeI.at_ (i := 1) (by repeat' (first | exact trivial | exact onlys_ro _ _ | refine ⟨?_, ?_⟩))) (by simp; omega) (by simp; omega) (tl hn rfl) ?_
        | refine RunsL.step tabOk hn rfl ?_
        | refine RunsL.nil ?_
        | refine Runs.toRegion 30 rfl ?_
        | ((first | refine RunsL.pe hn rfl rfl rfl ?_ | refine RunsD.pe rfl rfl ?_); first
          | refine ⟨_, pu_callR hCj rfl, ?_⟩)
        | (refine Runs.ctls 30 rfl ?_; first | refine Runs.cond_t rfl ?_ | refine Runs.cond_f rfl ?_ | ((first | refine Runs.cond_yes rfl ?_ ?_ | refine Runs.cond_nno rfl ?_ ?_); · first | omega | rfl | assumption | (simp only [List.length_map]; omega)) | ((first | refine Runs.cond_no rfl ?_ ?_ | refine Runs.cond_nyes rfl ?_ ?_); · first | omega | rfl | assumption | (simp only [List.length_map]; omega)) | refine Runs.cond_dec rfl (fun h => ?_) (fun h => ?_) | refine Runs.cond_ndec rfl (fun h => ?_) (fun h => ?_) | refine Runs.cond_nb rfl (fun h => ?_) (fun h => ?_) | refine Runs.cond_b rfl (fun h => ?_) (fun h => ?_) | refine Runs.ret (ends_ro hm rfl rfl ?_) | exact Runs.ret (ends_cellR hm rfl rfl rfl (Nat.le_of_ble_eq_true rfl) rfl rfl))
        | refine op_box rfl (tl hn rfl) ?_
        | refine op_storeF rfl rfl rfl rfl (Nat.le_of_ble_eq_true rfl) ?_
        | refine op_alloc (tl hn rfl) ?_
        | refine op_storeN rfl rfl rfl rfl (Nat.le_of_ble_eq_true rfl) ?_
        | refine RunsD.step tabOk hn rfl rfl ?_
        | refine RunsD.nil ?_
        | refine Runs.toDraw 30 mixed hn rfl (by kernel_rfl) rfl ?_
        | ((first | refine RunsL.pe hn rfl rfl rfl ?_ | refine RunsD.pe rfl rfl ?_); first
          | refine ⟨_, pu_add rfl rfl (by omega), ?_⟩
          | refine ⟨_, pu_indexAddr_map rfl rfl (by omega) (by assumption), ?_⟩
          | refine ⟨_, pu_sub rfl rfl (by omega), ?_⟩
          | refine ⟨_, pu_pick_b rfl rfl rfl, ?_⟩
          | refine ⟨_, pu_mul rfl rfl (by omega), ?_⟩
          | refine ⟨_, pu_build rfl rfl rfl rfl rfl rfl, ?_⟩)
        | ((first | refine RunsL.guard_dec rfl rfl rfl ?_ ?_ | refine RunsL.guard_ndec rfl rfl rfl ?_ ?_ | refine RunsL.guard_nb rfl rfl rfl ?_ ?_ | refine RunsL.guard_b rfl rfl rfl ?_ ?_ | refine RunsD.guard_dec rfl rfl rfl ?_ ?_ | refine RunsD.guard_ndec rfl rfl rfl ?_ ?_ | refine RunsD.guard_nb rfl rfl rfl ?_ ?_ | refine RunsD.guard_b rfl rfl rfl ?_ ?_) <;> intro h <;> try (exfalso; first | omega | contradiction | (simp only [List.length_map] at h; omega))))
      refine next _ _ ⟨rfl, rfl, rfl, rfl, trivial⟩ hlt trivial ?_
      rw [seqC_next hb']
      simp
      rfl
    · obtain rfl : j = x.kids.length := by omega
      rw [List.take_length] at hfl ⊢
      have hcl' : (seqC en x.kids).length = x.kids.length := List.length_map ..
      repeat' (first
        | refine op_append (n := (seqC en x.kids).length) rfl rfl rfl rfl rfl rfl (by rw [hfl]) (FreeI.at_ (i := 1) (by repeat' (first | exact trivial | exact onlys_ro _ _ | refine ⟨?_, ?_⟩))) (by simp; omega) (by simp; omega) (tl hn rfl) ?_
        | refine RunsL.step tabOk hn rfl ?_
        | refine RunsL.nil ?_
        | refine Runs.toRegion 30 rfl ?_
        | ((first | refine RunsL.pe hn rfl rfl rfl ?_ | refine RunsD.pe rfl rfl ?_); first
          | refine ⟨_, pu_callR (l15Op_ac _ _ _) rfl, ?_⟩)
        | (refine Runs.ctls 30 rfl ?_; first | refine Runs.cond_t rfl ?_ | refine Runs.cond_f rfl ?_ | ((first | refine Runs.cond_yes rfl ?_ ?_ | refine Runs.cond_nno rfl ?_ ?_); · first | omega | rfl | assumption | (simp only [List.length_map]; omega)) | ((first | refine Runs.cond_no rfl ?_ ?_ | refine Runs.cond_nyes rfl ?_ ?_); · first | omega | rfl | assumption | (simp only [List.length_map]; omega)) | refine Runs.cond_dec rfl (fun h => ?_) (fun h => ?_) | refine Runs.cond_ndec rfl (fun h => ?_) (fun h => ?_) | refine Runs.cond_nb rfl (fun h => ?_) (fun h => ?_) | refine Runs.cond_b rfl (fun h => ?_) (fun h => ?_) | refine Runs.ret (ends_ro hm rfl rfl ?_) | exact Runs.ret (ends_cellR hm rfl rfl rfl (Nat.le_of_ble_eq_true rfl) rfl rfl))
        | refine op_box rfl (tl hn rfl) ?_
        | refine op_storeF rfl rfl rfl rfl (Nat.le_of_ble_eq_true rfl) ?_
        | refine op_alloc (tl hn rfl) ?_
        | refine op_storeN rfl rfl rfl rfl (Nat.le_of_ble_eq_true rfl) ?_
        | refine RunsD.step tabOk hn rfl rfl ?_
        | refine RunsD.nil ?_
        | refine Runs.toDraw 30 mixed hn rfl (by kernel_rfl) rfl ?_
        | ((first | refine RunsL.pe hn rfl rfl rfl ?_ | refine RunsD.pe rfl rfl ?_); first
          | refine ⟨_, pu_add rfl rfl (by omega), ?_⟩
          | refine ⟨_, pu_indexAddr_map rfl rfl (by omega) (by assumption), ?_⟩
          | refine ⟨_, pu_sub rfl rfl (by omega), ?_⟩
          | refine ⟨_, pu_pick_b rfl rfl rfl, ?_⟩
          | refine ⟨_, pu_mul rfl rfl (by omega), ?_⟩
          | refine ⟨_, pu_build rfl rfl rfl rfl rfl rfl, ?_⟩)
        | ((first | refine RunsL.guard_dec rfl rfl rfl ?_ ?_ | refine RunsL.guard_ndec rfl rfl rfl ?_ ?_ | refine RunsL.guard_nb rfl rfl rfl ?_ ?_ | refine RunsL.guard_b rfl rfl rfl ?_ ?_ | refine RunsD.guard_dec rfl rfl rfl ?_ ?_ | refine RunsD.guard_ndec rfl rfl rfl ?_ ?_ | refine RunsD.guard_nb rfl rfl rfl ?_ ?_ | refine RunsD.guard_b rfl rfl rfl ?_ ?_) <;> intro h <;> try (exfalso; first | omega | contradiction | (simp only [List.length_map] at h; omega))))
      refine Runs.ctls 30 rfl (Runs.ret (ends_own (rs := (ruleI x s en).flatMap insR) hm rfl rfl rfl ?_ rfl))
      have hE : ruleI x s en = seqC en x.kids ++ [⟨10, 0, 0⟩] := by simp [ruleI, bodyI, e, seqC]
      rw [hE]
      rw [List.flatMap_append]
      rfl
  · have hCh := l15Choice_ac d s en x e hr (by omega)
    have hfl := insR_flat (bodyI x s en)
    repeat' (first
      | refine op_callOR hCh rfl (tl hn rfl) ?_
      | refine op_build0 (tl hn rfl) ?_
      | refine op_append (n := (bodyI x s en).length) rfl rfl rfl rfl rfl rfl (by rw [hfl]) (FreeI.at_ (i := 3) (by repeat' (first | exact trivial | exact onlys_ro _ _ | refine ⟨?_, ?_⟩))) (by simp; omega) (by simp; omega) (tl hn rfl) ?_
      | refine RunsL.step tabOk hn rfl ?_
      | refine RunsL.nil ?_
      | refine Runs.toRegion 30 rfl ?_
      | ((first | refine RunsL.pe hn rfl rfl rfl ?_ | refine RunsD.pe rfl rfl ?_); first
        | refine ⟨_, pu_callR hkn rfl, ?_⟩
        | refine ⟨_, pu_callR (l15Op_ac _ _ _) rfl, ?_⟩)
      | (refine Runs.ctls 30 rfl ?_; first | refine Runs.cond_t rfl ?_ | refine Runs.cond_f rfl ?_ | ((first | refine Runs.cond_yes rfl ?_ ?_ | refine Runs.cond_nno rfl ?_ ?_); · first | omega | rfl | assumption | (simp only [List.length_map]; omega)) | ((first | refine Runs.cond_no rfl ?_ ?_ | refine Runs.cond_nyes rfl ?_ ?_); · first | omega | rfl | assumption | (simp only [List.length_map]; omega)) | refine Runs.cond_dec rfl (fun h => ?_) (fun h => ?_) | refine Runs.cond_ndec rfl (fun h => ?_) (fun h => ?_) | refine Runs.cond_nb rfl (fun h => ?_) (fun h => ?_) | refine Runs.cond_b rfl (fun h => ?_) (fun h => ?_) | refine Runs.ret (ends_ro hm rfl rfl ?_) | exact Runs.ret (ends_cellR hm rfl rfl rfl (Nat.le_of_ble_eq_true rfl) rfl rfl))
      | refine op_box rfl (tl hn rfl) ?_
      | refine op_storeF rfl rfl rfl rfl (Nat.le_of_ble_eq_true rfl) ?_
      | refine op_alloc (tl hn rfl) ?_
      | refine op_storeN rfl rfl rfl rfl (Nat.le_of_ble_eq_true rfl) ?_
      | refine RunsD.step tabOk hn rfl rfl ?_
      | refine RunsD.nil ?_
      | refine Runs.toDraw 30 mixed hn rfl (by kernel_rfl) rfl ?_
      | ((first | refine RunsL.pe hn rfl rfl rfl ?_ | refine RunsD.pe rfl rfl ?_); first
        | refine ⟨_, pu_add rfl rfl (by omega), ?_⟩
        | refine ⟨_, pu_indexAddr_map rfl rfl (by omega) (by assumption), ?_⟩
        | refine ⟨_, pu_sub rfl rfl (by omega), ?_⟩
        | refine ⟨_, pu_pick_b rfl rfl rfl, ?_⟩
        | refine ⟨_, pu_mul rfl rfl (by omega), ?_⟩
        | refine ⟨_, pu_build rfl rfl rfl rfl rfl rfl, ?_⟩)
      | ((first | refine RunsL.guard_dec rfl rfl rfl ?_ ?_ | refine RunsL.guard_ndec rfl rfl rfl ?_ ?_ | refine RunsL.guard_nb rfl rfl rfl ?_ ?_ | refine RunsL.guard_b rfl rfl rfl ?_ ?_ | refine RunsD.guard_dec rfl rfl rfl ?_ ?_ | refine RunsD.guard_ndec rfl rfl rfl ?_ ?_ | refine RunsD.guard_nb rfl rfl rfl ?_ ?_ | refine RunsD.guard_b rfl rfl rfl ?_ ?_) <;> intro h <;> try (exfalso; first | omega | contradiction | (simp only [List.length_map] at h; omega))))
    refine Runs.ctls 30 rfl (Runs.ret (ends_own (rs := (ruleI x s en).flatMap insR) hm rfl rfl rfl ?_ rfl))
    have hE : ruleI x s en = bodyI x s en ++ [⟨10, 0, 0⟩] := by simp [ruleI]
    rw [hE]
    rw [List.flatMap_append]
    rfl
  · obtain ⟨h0, h1, h2⟩ := kid0 hr (by have := f8 (.inl e); omega)
    have hC0 := l15Call_ac en (x.kids.headD 0) h1 h2
    repeat' (first
      | refine Runs.toDrawT (id := 28) 30 [] [0, 1, 2, 3, 4, 5, 6, 7, 8, 9, 10] 11 [] mixed hn rfl (by kernel_rfl) rfl .nil (by decide) (by decide) (by decide) ?_
      | refine op_build0 (tl hn rfl) ?_
      | refine op_appendB rfl rfl rfl rfl rfl rfl (by simp) (by repeat' (first | exact trivial | exact onlys_ro _ _ | refine ⟨?_, ?_⟩)) (by simp) rfl (tl hn rfl) ?_
      | refine RunsT.nil ?_
      | refine RunsT.step tabOk rfl rfl (fun _ => rfl) (by decide) ?_
      | refine RunsT.pur (fun _ => pu_callR hkn rfl) (by decide) rfl rfl ?_
      | refine RunsT.pur (fun _ => pu_callR hC0 rfl) (by decide) rfl rfl ?_
      | refine RunsT.pur (fun _ => pu_callR (l15Op_ac _ _ _) rfl) (by decide) rfl rfl ?_
      | refine RunsT.pur (fun _ => pu_addW rfl rfl) (by decide) rfl rfl ?_
      | refine RunsT.pur (fun _ => pu_build rfl rfl rfl rfl rfl rfl) (by decide) rfl rfl ?_
      | refine RunsT.pur (fun _ => pu_add rfl rfl (by omega)) (by decide) rfl rfl ?_
      | refine RunsT.pur (fun _ => pu_indexAddr_map rfl rfl (by omega) (by assumption)) (by decide) rfl rfl ?_
      | refine RunsT.alloc (p := 0) rfl inferInstance ?_
      | refine RunsT.alloc (p := 1) rfl inferInstance ?_
      | refine RunsL.step tabOk hn rfl ?_
      | refine RunsL.nil ?_
      | refine Runs.toRegion 30 rfl ?_
      | ((first | refine RunsL.pe hn rfl rfl rfl ?_ | refine RunsD.pe rfl rfl ?_); first
        | refine ⟨_, pu_callR hkn rfl, ?_⟩
        | refine ⟨_, pu_callR hC0 rfl, ?_⟩
        | refine ⟨_, pu_callR (l15Op_ac _ _ _) rfl, ?_⟩
        | refine ⟨_, pu_addW rfl rfl, ?_⟩
        | refine ⟨_, pu_build rfl rfl rfl rfl rfl rfl, ?_⟩)
      | (refine Runs.ctls 30 rfl ?_; first | refine Runs.cond_t rfl ?_ | refine Runs.cond_f rfl ?_ | ((first | refine Runs.cond_yes rfl ?_ ?_ | refine Runs.cond_nno rfl ?_ ?_); · first | omega | rfl | assumption | (simp only [List.length_map]; omega)) | ((first | refine Runs.cond_no rfl ?_ ?_ | refine Runs.cond_nyes rfl ?_ ?_); · first | omega | rfl | assumption | (simp only [List.length_map]; omega)) | refine Runs.cond_dec rfl (fun h => ?_) (fun h => ?_) | refine Runs.cond_ndec rfl (fun h => ?_) (fun h => ?_) | refine Runs.cond_nb rfl (fun h => ?_) (fun h => ?_) | refine Runs.cond_b rfl (fun h => ?_) (fun h => ?_) | refine Runs.ret (ends_ro hm rfl rfl ?_) | exact Runs.ret (ends_cellR hm rfl rfl rfl (Nat.le_of_ble_eq_true rfl) rfl rfl))
      | refine op_box rfl (tl hn rfl) ?_
      | refine op_storeF rfl rfl rfl rfl (Nat.le_of_ble_eq_true rfl) ?_
      | refine op_alloc (tl hn rfl) ?_
      | refine op_storeN rfl rfl rfl rfl (Nat.le_of_ble_eq_true rfl) ?_
      | refine RunsD.step tabOk hn rfl rfl ?_
      | refine RunsD.nil ?_
      | refine Runs.toDraw 30 mixed hn rfl (by kernel_rfl) rfl ?_
      | ((first | refine RunsL.pe hn rfl rfl rfl ?_ | refine RunsD.pe rfl rfl ?_); first
        | refine ⟨_, pu_add rfl rfl (by omega), ?_⟩
        | refine ⟨_, pu_indexAddr_map rfl rfl (by omega) (by assumption), ?_⟩
        | refine ⟨_, pu_sub rfl rfl (by omega), ?_⟩
        | refine ⟨_, pu_pick_b rfl rfl rfl, ?_⟩
        | refine ⟨_, pu_mul rfl rfl (by omega), ?_⟩
        | refine ⟨_, pu_build rfl rfl rfl rfl rfl rfl, ?_⟩)
      | ((first | refine RunsL.guard_dec rfl rfl rfl ?_ ?_ | refine RunsL.guard_ndec rfl rfl rfl ?_ ?_ | refine RunsL.guard_nb rfl rfl rfl ?_ ?_ | refine RunsL.guard_b rfl rfl rfl ?_ ?_ | refine RunsD.guard_dec rfl rfl rfl ?_ ?_ | refine RunsD.guard_ndec rfl rfl rfl ?_ ?_ | refine RunsD.guard_nb rfl rfl rfl ?_ ?_ | refine RunsD.guard_b rfl rfl rfl ?_ ?_) <;> intro h <;> try (exfalso; first | omega | contradiction | (simp only [List.length_map] at h; omega))))
    refine Runs.ctls 30 rfl (Runs.ret (ends_own (rs := (ruleI x s en).flatMap insR) hm rfl rfl rfl ?_ rfl))
    have hE : ruleI x s en = [⟨13, w64 (s + 2), 0⟩, callI en (x.kids.headD 0), ⟨10, 0, 0⟩] := by simp [ruleI, bodyI, e]
    rw [hE]
    rfl
  · obtain ⟨h0, h1, h2⟩ := kid0 hr (by have := f8 (.inr e); omega)
    have hC0 := l15Call_ac en (x.kids.headD 0) h1 h2
    repeat' (first
      | refine Runs.toDrawT (id := 30) 30 [] [0, 1, 2, 3, 4, 5, 6, 7, 8, 9] 10 [] mixed hn rfl (by kernel_rfl) rfl .nil (by decide) (by decide) (by decide) ?_
      | refine op_build0 (tl hn rfl) ?_
      | refine op_appendB rfl rfl rfl rfl rfl rfl (by simp) (by repeat' (first | exact trivial | exact onlys_ro _ _ | refine ⟨?_, ?_⟩)) (by simp) rfl (tl hn rfl) ?_
      | refine RunsT.nil ?_
      | refine RunsT.step tabOk rfl rfl (fun _ => rfl) (by decide) ?_
      | refine RunsT.pur (fun _ => pu_callR hkn rfl) (by decide) rfl rfl ?_
      | refine RunsT.pur (fun _ => pu_callR hC0 rfl) (by decide) rfl rfl ?_
      | refine RunsT.pur (fun _ => pu_callR (l15Op_ac _ _ _) rfl) (by decide) rfl rfl ?_
      | refine RunsT.pur (fun _ => pu_build rfl rfl rfl rfl rfl rfl) (by decide) rfl rfl ?_
      | refine RunsT.pur (fun _ => pu_add rfl rfl (by omega)) (by decide) rfl rfl ?_
      | refine RunsT.pur (fun _ => pu_indexAddr_map rfl rfl (by omega) (by assumption)) (by decide) rfl rfl ?_
      | refine RunsT.alloc (p := 0) rfl inferInstance ?_
      | refine RunsT.alloc (p := 1) rfl inferInstance ?_
      | refine RunsL.step tabOk hn rfl ?_
      | refine RunsL.nil ?_
      | refine Runs.toRegion 30 rfl ?_
      | ((first | refine RunsL.pe hn rfl rfl rfl ?_ | refine RunsD.pe rfl rfl ?_); first
        | refine ⟨_, pu_callR hkn rfl, ?_⟩
        | refine ⟨_, pu_callR hC0 rfl, ?_⟩
        | refine ⟨_, pu_callR (l15Op_ac _ _ _) rfl, ?_⟩
        | refine ⟨_, pu_build rfl rfl rfl rfl rfl rfl, ?_⟩)
      | (refine Runs.ctls 30 rfl ?_; first | refine Runs.cond_t rfl ?_ | refine Runs.cond_f rfl ?_ | ((first | refine Runs.cond_yes rfl ?_ ?_ | refine Runs.cond_nno rfl ?_ ?_); · first | omega | rfl | assumption | (simp only [List.length_map]; omega)) | ((first | refine Runs.cond_no rfl ?_ ?_ | refine Runs.cond_nyes rfl ?_ ?_); · first | omega | rfl | assumption | (simp only [List.length_map]; omega)) | refine Runs.cond_dec rfl (fun h => ?_) (fun h => ?_) | refine Runs.cond_ndec rfl (fun h => ?_) (fun h => ?_) | refine Runs.cond_nb rfl (fun h => ?_) (fun h => ?_) | refine Runs.cond_b rfl (fun h => ?_) (fun h => ?_) | refine Runs.ret (ends_ro hm rfl rfl ?_) | exact Runs.ret (ends_cellR hm rfl rfl rfl (Nat.le_of_ble_eq_true rfl) rfl rfl))
      | refine op_box rfl (tl hn rfl) ?_
      | refine op_storeF rfl rfl rfl rfl (Nat.le_of_ble_eq_true rfl) ?_
      | refine op_alloc (tl hn rfl) ?_
      | refine op_storeN rfl rfl rfl rfl (Nat.le_of_ble_eq_true rfl) ?_
      | refine RunsD.step tabOk hn rfl rfl ?_
      | refine RunsD.nil ?_
      | refine Runs.toDraw 30 mixed hn rfl (by kernel_rfl) rfl ?_
      | ((first | refine RunsL.pe hn rfl rfl rfl ?_ | refine RunsD.pe rfl rfl ?_); first
        | refine ⟨_, pu_add rfl rfl (by omega), ?_⟩
        | refine ⟨_, pu_indexAddr_map rfl rfl (by omega) (by assumption), ?_⟩
        | refine ⟨_, pu_sub rfl rfl (by omega), ?_⟩
        | refine ⟨_, pu_pick_b rfl rfl rfl, ?_⟩
        | refine ⟨_, pu_mul rfl rfl (by omega), ?_⟩
        | refine ⟨_, pu_build rfl rfl rfl rfl rfl rfl, ?_⟩)
      | ((first | refine RunsL.guard_dec rfl rfl rfl ?_ ?_ | refine RunsL.guard_ndec rfl rfl rfl ?_ ?_ | refine RunsL.guard_nb rfl rfl rfl ?_ ?_ | refine RunsL.guard_b rfl rfl rfl ?_ ?_ | refine RunsD.guard_dec rfl rfl rfl ?_ ?_ | refine RunsD.guard_ndec rfl rfl rfl ?_ ?_ | refine RunsD.guard_nb rfl rfl rfl ?_ ?_ | refine RunsD.guard_b rfl rfl rfl ?_ ?_) <;> intro h <;> try (exfalso; first | omega | contradiction | (simp only [List.length_map] at h; omega))))
    refine Runs.ctls 30 rfl (Runs.ret (ends_own (rs := (ruleI x s en).flatMap insR) hm rfl rfl rfl ?_ rfl))
    have hE : ruleI x s en = [⟨14, 0, 0⟩, callI en (x.kids.headD 0), ⟨15, 0, 0⟩, ⟨10, 0, 0⟩] := by simp [ruleI, bodyI, e]
    rw [hE]
    rfl
  · have hb1 : x.bytes.length = 1 := by
      have h := hk
      unfold KindOk at h
      omega
    obtain ⟨b, hb⟩ : ∃ b, x.bytes[(0 : Int).toNat]? = some b := ⟨_, List.getElem?_eq_getElem (by simp; omega)⟩
    have hb' : x.bytes[0]? = some b := hb
    repeat' (first
      | refine op_build0 (tl hn rfl) ?_
      | refine op_appendB rfl rfl rfl rfl rfl rfl (by simp) (by repeat' (first | exact trivial | exact onlys_ro _ _ | refine ⟨?_, ?_⟩)) (by simp) rfl (tl hn rfl) ?_
      | refine RunsL.step tabOk hn rfl ?_
      | refine RunsL.nil ?_
      | refine Runs.toRegion 30 rfl ?_
      | ((first | refine RunsL.pe hn rfl rfl rfl ?_ | refine RunsD.pe rfl rfl ?_); first
        | refine ⟨_, pu_callR hkn rfl, ?_⟩
        | refine ⟨_, pu_callR (l15Op_ac _ _ _) rfl, ?_⟩
        | refine ⟨_, pu_ofU8 rfl, ?_⟩)
      | (refine Runs.ctls 30 rfl ?_; first | refine Runs.cond_t rfl ?_ | refine Runs.cond_f rfl ?_ | ((first | refine Runs.cond_yes rfl ?_ ?_ | refine Runs.cond_nno rfl ?_ ?_); · first | omega | rfl | assumption | (simp only [List.length_map]; omega)) | ((first | refine Runs.cond_no rfl ?_ ?_ | refine Runs.cond_nyes rfl ?_ ?_); · first | omega | rfl | assumption | (simp only [List.length_map]; omega)) | refine Runs.cond_dec rfl (fun h => ?_) (fun h => ?_) | refine Runs.cond_ndec rfl (fun h => ?_) (fun h => ?_) | refine Runs.cond_nb rfl (fun h => ?_) (fun h => ?_) | refine Runs.cond_b rfl (fun h => ?_) (fun h => ?_) | refine Runs.ret (ends_ro hm rfl rfl ?_) | exact Runs.ret (ends_cellR hm rfl rfl rfl (Nat.le_of_ble_eq_true rfl) rfl rfl))
      | refine op_box rfl (tl hn rfl) ?_
      | refine op_storeF rfl rfl rfl rfl (Nat.le_of_ble_eq_true rfl) ?_
      | refine op_alloc (tl hn rfl) ?_
      | refine op_storeN rfl rfl rfl rfl (Nat.le_of_ble_eq_true rfl) ?_
      | refine RunsD.step tabOk hn rfl rfl ?_
      | refine RunsD.nil ?_
      | refine Runs.toDraw 30 mixed hn rfl (by kernel_rfl) rfl ?_
      | ((first | refine RunsL.pe hn rfl rfl rfl ?_ | refine RunsD.pe rfl rfl ?_); first
        | refine ⟨_, pu_add rfl rfl (by omega), ?_⟩
        | refine ⟨_, pu_indexAddr_map rfl rfl (by omega) (by assumption), ?_⟩
        | refine ⟨_, pu_sub rfl rfl (by omega), ?_⟩
        | refine ⟨_, pu_pick_b rfl rfl rfl, ?_⟩
        | refine ⟨_, pu_mul rfl rfl (by omega), ?_⟩
        | refine ⟨_, pu_build rfl rfl rfl rfl rfl rfl, ?_⟩)
      | ((first | refine RunsL.guard_dec rfl rfl rfl ?_ ?_ | refine RunsL.guard_ndec rfl rfl rfl ?_ ?_ | refine RunsL.guard_nb rfl rfl rfl ?_ ?_ | refine RunsL.guard_b rfl rfl rfl ?_ ?_ | refine RunsD.guard_dec rfl rfl rfl ?_ ?_ | refine RunsD.guard_ndec rfl rfl rfl ?_ ?_ | refine RunsD.guard_nb rfl rfl rfl ?_ ?_ | refine RunsD.guard_b rfl rfl rfl ?_ ?_) <;> intro h <;> try (exfalso; first | omega | contradiction | (simp only [List.length_map] at h; omega))))
    refine Runs.ctls 30 rfl (Runs.ret (ends_own (rs := (ruleI x s en).flatMap insR) hm rfl rfl rfl ?_ rfl))
    have hE : ruleI x s en = [⟨16, (b.toNat : Int), 0⟩, ⟨10, 0, 0⟩] := by simp [ruleI, bodyI, e, hb']
    rw [hE]
    rfl
set_option maxHeartbeats 4000000 in
theorem spec_CompileRule (d : Des) (ho : DesOk d) (hd : dtotal d ≤ 1048576) (r s : Int) (en : List Int) : AC Try.prog 26 [desR d, .int r, .int s, intsR en] (fun rr => rr = .row 86 3 ((cmpL d r s en).flatMap insR)) := by
  have hkn := l7Rule_ac d ho hd r
  have hle : (en.map fun z => [RV.int z]).length = en.length := List.length_map ..
  by_cases hK : Kn d r
  · rw [decide_eq_true hK] at hkn
    obtain ⟨n, x, rfl, hn', hx⟩ := kn_nat hK
    by_cases hen : (n : Int) ≤ en.length
    · rw [cmpL_yes ⟨hK, hen⟩ hx]
      exact spec_compile_yes d hd hK.1 n x hx s en hkn (by omega)
    · rw [cmpL_no fun h => hen h.2]
      refine ac_enter Try.func26 rfl _ Try.ntmps26 (by simp) fun C hn hm => ?_
      repeat' (first
        | refine op_build0 (tl hn rfl) ?_
        | refine RunsL.step tabOk hn rfl ?_
        | refine RunsL.nil ?_
        | refine Runs.toRegion 30 rfl ?_
        | ((first | refine RunsL.pe hn rfl rfl rfl ?_ | refine RunsD.pe rfl rfl ?_); first
          | refine ⟨_, pu_callR hkn rfl, ?_⟩)
        | (refine Runs.ctls 30 rfl ?_; first | refine Runs.cond_t rfl ?_ | refine Runs.cond_f rfl ?_ | ((first | refine Runs.cond_yes rfl ?_ ?_ | refine Runs.cond_nno rfl ?_ ?_); · first | omega | rfl | assumption | (simp only [List.length_map]; omega)) | ((first | refine Runs.cond_no rfl ?_ ?_ | refine Runs.cond_nyes rfl ?_ ?_); · first | omega | rfl | assumption | (simp only [List.length_map]; omega)) | refine Runs.cond_dec rfl (fun h => ?_) (fun h => ?_) | refine Runs.cond_ndec rfl (fun h => ?_) (fun h => ?_) | refine Runs.cond_nb rfl (fun h => ?_) (fun h => ?_) | refine Runs.cond_b rfl (fun h => ?_) (fun h => ?_) | refine Runs.ret (ends_ro hm rfl rfl ?_) | exact Runs.ret (ends_cellR hm rfl rfl rfl (Nat.le_of_ble_eq_true rfl) rfl rfl))
        | refine op_box rfl (tl hn rfl) ?_
        | refine op_storeF rfl rfl rfl rfl (Nat.le_of_ble_eq_true rfl) ?_
        | refine op_alloc (tl hn rfl) ?_
        | refine op_storeN rfl rfl rfl rfl (Nat.le_of_ble_eq_true rfl) ?_
        | refine RunsD.step tabOk hn rfl rfl ?_
        | refine RunsD.nil ?_
        | refine Runs.toDraw 30 mixed hn rfl (by kernel_rfl) rfl ?_
        | ((first | refine RunsL.pe hn rfl rfl rfl ?_ | refine RunsD.pe rfl rfl ?_); first
          | refine ⟨_, pu_add rfl rfl (by omega), ?_⟩
          | refine ⟨_, pu_indexAddr_map rfl rfl (by omega) (by assumption), ?_⟩
          | refine ⟨_, pu_sub rfl rfl (by omega), ?_⟩
          | refine ⟨_, pu_pick_b rfl rfl rfl, ?_⟩
          | refine ⟨_, pu_mul rfl rfl (by omega), ?_⟩
          | refine ⟨_, pu_build rfl rfl rfl rfl rfl rfl, ?_⟩)
        | ((first | refine RunsL.guard_dec rfl rfl rfl ?_ ?_ | refine RunsL.guard_ndec rfl rfl rfl ?_ ?_ | refine RunsL.guard_nb rfl rfl rfl ?_ ?_ | refine RunsL.guard_b rfl rfl rfl ?_ ?_ | refine RunsD.guard_dec rfl rfl rfl ?_ ?_ | refine RunsD.guard_ndec rfl rfl rfl ?_ ?_ | refine RunsD.guard_nb rfl rfl rfl ?_ ?_ | refine RunsD.guard_b rfl rfl rfl ?_ ?_) <;> intro h <;> try (exfalso; first | omega | contradiction | (simp only [List.length_map] at h; omega))))
      all_goals first
        | exact Runs.ctls 30 rfl (Runs.ret (ends_own (rs := []) hm rfl rfl rfl rfl rfl))
        | (exfalso; omega)
  · rw [decide_eq_false hK] at hkn
    rw [cmpL_no fun h => hK h.1]
    refine ac_enter Try.func26 rfl _ Try.ntmps26 (by simp) fun C hn hm => ?_
    repeat' (first
      | refine op_build0 (tl hn rfl) ?_
      | refine RunsL.step tabOk hn rfl ?_
      | refine RunsL.nil ?_
      | refine Runs.toRegion 30 rfl ?_
      | ((first | refine RunsL.pe hn rfl rfl rfl ?_ | refine RunsD.pe rfl rfl ?_); first
        | refine ⟨_, pu_callR hkn rfl, ?_⟩)
      | (refine Runs.ctls 30 rfl ?_; first | refine Runs.cond_t rfl ?_ | refine Runs.cond_f rfl ?_ | ((first | refine Runs.cond_yes rfl ?_ ?_ | refine Runs.cond_nno rfl ?_ ?_); · first | omega | rfl | assumption | (simp only [List.length_map]; omega)) | ((first | refine Runs.cond_no rfl ?_ ?_ | refine Runs.cond_nyes rfl ?_ ?_); · first | omega | rfl | assumption | (simp only [List.length_map]; omega)) | refine Runs.cond_dec rfl (fun h => ?_) (fun h => ?_) | refine Runs.cond_ndec rfl (fun h => ?_) (fun h => ?_) | refine Runs.cond_nb rfl (fun h => ?_) (fun h => ?_) | refine Runs.cond_b rfl (fun h => ?_) (fun h => ?_) | refine Runs.ret (ends_ro hm rfl rfl ?_) | exact Runs.ret (ends_cellR hm rfl rfl rfl (Nat.le_of_ble_eq_true rfl) rfl rfl))
      | refine op_box rfl (tl hn rfl) ?_
      | refine op_storeF rfl rfl rfl rfl (Nat.le_of_ble_eq_true rfl) ?_
      | refine op_alloc (tl hn rfl) ?_
      | refine op_storeN rfl rfl rfl rfl (Nat.le_of_ble_eq_true rfl) ?_
      | refine RunsD.step tabOk hn rfl rfl ?_
      | refine RunsD.nil ?_
      | refine Runs.toDraw 30 mixed hn rfl (by kernel_rfl) rfl ?_
      | ((first | refine RunsL.pe hn rfl rfl rfl ?_ | refine RunsD.pe rfl rfl ?_); first
        | refine ⟨_, pu_add rfl rfl (by omega), ?_⟩
        | refine ⟨_, pu_indexAddr_map rfl rfl (by omega) (by assumption), ?_⟩
        | refine ⟨_, pu_sub rfl rfl (by omega), ?_⟩
        | refine ⟨_, pu_pick_b rfl rfl rfl, ?_⟩
        | refine ⟨_, pu_mul rfl rfl (by omega), ?_⟩
        | refine ⟨_, pu_build rfl rfl rfl rfl rfl rfl, ?_⟩)
      | ((first | refine RunsL.guard_dec rfl rfl rfl ?_ ?_ | refine RunsL.guard_ndec rfl rfl rfl ?_ ?_ | refine RunsL.guard_nb rfl rfl rfl ?_ ?_ | refine RunsL.guard_b rfl rfl rfl ?_ ?_ | refine RunsD.guard_dec rfl rfl rfl ?_ ?_ | refine RunsD.guard_ndec rfl rfl rfl ?_ ?_ | refine RunsD.guard_nb rfl rfl rfl ?_ ?_ | refine RunsD.guard_b rfl rfl rfl ?_ ?_) <;> intro h <;> try (exfalso; first | omega | contradiction | (simp only [List.length_map] at h; omega))))
    exact Runs.ctls 30 rfl (Runs.ret (ends_own (rs := []) hm rfl rfl rfl rfl rfl))
end Go.Proofs.Ytignpklaefibaaa
/- The code of a rule: how long it is. -/
namespace Go.Proofs.Ytignpklaefibaaa
set_option linter.unusedSimpArgs false
set_option linter.unusedVariables false
open Go.RowKit
theorem body_len' {d : Des} {x : Rul} {en : List Int} (s : Int) (hk : KindOk d x) (ht : x.total ≤ 1048576) : (bodyI x s en).length ≤ 6 + 3 * x.total := by
  have etx : x.total = x.name.size + x.bytes.length + (x.names.length + (x.names.map ByteArray.size).sum) + x.tags.length + x.kids.length := rfl
  have hc := chCalls_len x.kids en x.tags.length
  unfold bodyI
  split
  · simp only [List.length_cons, List.length_nil]; omega
  split
  · rw [List.length_map]; omega
  split
  · simp only [List.length_cons, List.length_nil]; omega
  split
  · simp only [List.length_cons, List.length_nil]; omega
  split
  · simp only [List.length_cons, List.length_nil]; omega
  split
  · rw [List.length_map]; omega
  split
  · simp only [List.length_cons, List.length_append, chTags_len]; omega
  split
  · simp only [List.length_cons, List.length_nil]; omega
  split
  · simp only [List.length_cons, List.length_nil]; omega
  · simp only [List.length_cons, List.length_nil]; omega
theorem cmpL_len (d : Des) (hd : dtotal d ≤ 1048576) (r s : Int) (en : List Int) : (cmpL d r s en).length ≤ 3145744 := by
  by_cases h : Kn d r ∧ r ≤ en.length
  · obtain ⟨n, x, rfl, hn', hx⟩ := kn_nat h.1
    rw [cmpL_yes h hx]
    have hxt := sum_mem_le Rul.total (List.mem_of_getElem? hx)
    have et : dtotal d = d.length + (d.map Rul.total).sum := rfl
    have := body_len' s (en := en) (kind_at h.1.1 hx) (by omega)
    unfold ruleI
    rw [List.length_append, List.length_singleton]
    omega
  · rw [cmpL_no h]; simp
end Go.Proofs.Ytignpklaefibaaa
/- The program of a description: both sides. -/
namespace Go.Proofs.Ytignpklaefibaaa
set_option linter.unusedSimpArgs false
set_option linter.unusedVariables false
open Go.RowKit
open AV (Mem Keeps)
set_option maxRecDepth 100000
mutual
/-- The code behind the first two instructions, after j rules; where the rules begin. -/
noncomputable def cdT (d : Des) : Nat → List Ins
  | 0 => []
  | j + 1 => cdT d j ++ cmpL d j ((cdT d j).length + 2 : Nat) (cdE d j)
noncomputable def cdE (d : Des) : Nat → List Int
  | 0 => []
  | j + 1 => cdE d j ++ [(((cdT d j).length + 2 : Nat) : Int)]
end
def cdC (a : Int) (l : List Ins) : List Ins := ⟨9, a, 0⟩ :: ⟨17, 0, 0⟩ :: l
theorem cdC_len (a : Int) (l : List Ins) : (cdC a l).length = l.length + 2 := rfl
theorem cdC_app (a : Int) (l m : List Ins) : cdC a (l ++ m) = cdC a l ++ m := rfl
theorem cdE_len (d : Des) : ∀ j : Nat, (cdE d j).length = j
  | 0 => by simp [cdE]
  | j + 1 => by rw [cdE, List.length_append, cdE_len d j]; rfl
theorem rule_len (d : Des) (hd : dtotal d ≤ 1048576) (j : Nat) (x : Rul) (hx : d[j]? = some x) (s : Int) (en : List Int) : (cmpL d j s en).length ≤ 7 + 3 * x.total := by
  have hxt := sum_mem_le Rul.total (List.mem_of_getElem? hx)
  have et : dtotal d = d.length + (d.map Rul.total).sum := rfl
  by_cases h : Kn d (j : Int) ∧ (j : Int) ≤ en.length
  · rw [cmpL_yes h hx]
    have := body_len' s (en := en) (kind_at h.1.1 hx) (by omega)
    unfold ruleI
    rw [List.length_append, List.length_singleton]
    omega
  · rw [cmpL_no h]; simp
theorem cdT_len (d : Des) (hd : dtotal d ≤ 1048576) : ∀ j : Nat, j ≤ d.length → (cdT d j).length ≤ 7 * j + 3 * ((d.take j).map Rul.total).sum
  | 0, _ => by simp [cdT]
  | j + 1, h => by
    obtain ⟨x, hx⟩ : ∃ x, d[j]? = some x := ⟨_, List.getElem?_eq_getElem (by omega)⟩
    have ih := cdT_len d hd j (by omega)
    have hs := sum_take_next Rul.total hx
    have hr := rule_len d hd j x hx ((cdT d j).length + 2 : Nat) (cdE d j)
    rw [cdT, List.length_append, hs]
    omega
theorem cdT_le (d : Des) (hd : dtotal d ≤ 1048576) (hG : Good' d) (j : Nat) (h : j ≤ d.length) : (cdT d j).length ≤ 3145896 := by
  have h1 := cdT_len d hd j h
  have h2 := sum_take_le Rul.total d j
  have h3 := hG.2.1
  have et : dtotal d = d.length + (d.map Rul.total).sum := rfl
  omega
noncomputable def cdF (d : Des) : Prg := open Classical in if Good' d then ⟨cdC (((cdE d d.length)[d.length - 1]?).getD 0) (cdT d d.length), cdE d d.length⟩ else ⟨[], []⟩
theorem cdF_yes {d : Des} (h : Good' d) : cdF d = ⟨cdC (((cdE d d.length)[d.length - 1]?).getD 0) (cdT d d.length), cdE d d.length⟩ := by unfold cdF; rw [if_pos h]
theorem cdF_no {d : Des} (h : ¬ Good' d) : cdF d = ⟨[], []⟩ := by unfold cdF; rw [if_neg h]
theorem cdF_len (d : Des) (hd : dtotal d ≤ 1048576) : (cdF d).code.length ≤ 3145898 ∧ (cdF d).entries.length ≤ 24 := by
  by_cases h : Good' d
  · rw [cdF_yes h]
    have := cdT_le d hd h d.length (Nat.le_refl _)
    refine ⟨?_, ?_⟩
    · show (cdC _ _).length ≤ _
      rw [cdC_len]; omega
    · show (cdE d d.length).length ≤ 24
      rw [cdE_len]; exact h.2.1
  · rw [cdF_no h]; simp
instance : TB Try.prog 61 [(0, 1), (1, 1)] [.slice none 0 0, .slice none 0 0] := ⟨_, _, _, rfl, rfl, rfl, rfl, by kernel_rfl, by decide⟩
/-- The frame's objects, under way. -/
def cdS (d : Des) (c : List Ins) (e : List Int) : List Ob := [⟨34, 0, [.ro (rulsR d)]⟩, ⟨61, 0, [.nil, .nil]⟩, ⟨86, 3, (c.flatMap insR).map .ro⟩, ⟨61, 0, [.own 2, .own 4]⟩, ⟨3, 1, (e.map RV.int).map .ro⟩]
theorem insRV0 : ∀ l : List Ins, l.flatMap insR = (l.flatMap insV).map .c
  | [] => rfl
  | x :: l => by rw [List.flatMap_cons, List.flatMap_cons, List.map_append, insRV0 l]; rfl
theorem lend_e {C : Ctx} {d : Des} {c : List Ins} {e : List Int} {more : List Ob} : Lends C (cdS d c e ++ more) (.own 4) (intsR e) :=
  Lends.own (o := ⟨3, 1, (e.map RV.int).map .ro⟩) (els := e.map fun z => [RV.int z]) rfl (by
    have : (e.map fun z => [RV.int z]).flatten = e.map RV.int := by induction e with
      | nil => rfl
      | cons a e ih => simp [ih]
    rw [this]) (by simp)
theorem ints_len1 (e : List Int) : ((e.map RV.int).map AV.ro).length = e.length * 1 := by simp
theorem inss_len3 (c : List Ins) : ((c.flatMap insR).map AV.ro).length = c.length * 3 := by rw [List.length_map, insR_flat]
theorem impl_RootOfE (d : Des) (hl : d.length ≤ maxLen) : ACv Try.prog 80 [desR d] (.int ((d.length : Int) - 1)) := by
  have hlm : (d.map rulR).length = d.length := List.length_map ..
  unfold maxLen at hl
  refine ac_enter Try.func80 rfl _ Try.ntmps80 (by simp) fun C hn hm => ?_
  repeat' (first
    | refine RunsL.step tabOk hn rfl ?_
    | refine RunsL.nil ?_
    | refine Runs.toRegion 30 rfl ?_
    | (refine Runs.ctls 30 rfl ?_; first | refine Runs.cond_t rfl ?_ | refine Runs.cond_f rfl ?_ | ((first | refine Runs.cond_yes rfl ?_ ?_ | refine Runs.cond_nno rfl ?_ ?_); · first | omega | rfl | assumption | (simp only [List.length_map]; omega)) | ((first | refine Runs.cond_no rfl ?_ ?_ | refine Runs.cond_nyes rfl ?_ ?_); · first | omega | rfl | assumption | (simp only [List.length_map]; omega)) | refine Runs.cond_dec rfl (fun h => ?_) (fun h => ?_) | refine Runs.cond_ndec rfl (fun h => ?_) (fun h => ?_) | refine Runs.cond_nb rfl (fun h => ?_) (fun h => ?_) | refine Runs.cond_b rfl (fun h => ?_) (fun h => ?_) | refine Runs.ret (ends_ro hm rfl rfl ?_) | exact Runs.ret (ends_cellR hm rfl rfl rfl (Nat.le_of_ble_eq_true rfl) rfl rfl))
    | refine op_box rfl (tl hn rfl) ?_
    | refine op_storeF rfl rfl rfl rfl (Nat.le_of_ble_eq_true rfl) ?_
    | refine op_alloc (tl hn rfl) ?_
    | refine op_storeN rfl rfl rfl rfl (Nat.le_of_ble_eq_true rfl) ?_
    | (refine RunsL.pe hn rfl rfl rfl ?_; first
      | refine ⟨_, pu_add rfl rfl (by omega), ?_⟩
      | refine ⟨_, pu_indexAddr_map rfl rfl (by omega) (by assumption), ?_⟩
      | refine ⟨_, pu_sub rfl rfl (by omega), ?_⟩
      | refine ⟨_, pu_pick_b rfl rfl rfl, ?_⟩
      | refine ⟨_, pu_mul rfl rfl (by omega), ?_⟩
      | refine ⟨_, pu_build rfl rfl rfl rfl rfl rfl, ?_⟩))
  exact rr_int (by rw [hlm])
set_option maxHeartbeats 16000000 in
theorem impl_CompileDescription (d : Des) (ho : DesOk d) (hd : dtotal d ≤ 1048576) : AC Try.prog 35 [desR d] (fun rr => rr = .agg [.row 86 3 ((cdF d).code.flatMap insR), .row 3 1 ((cdF d).entries.map RV.int)]) := by
  have hlm : (d.map rulR).length = d.length := List.length_map ..
  have hv := impl_IsValidDescription d ho hd
  have et : dtotal d = d.length + (d.map Rul.total).sum := rfl
  by_cases hG : Good' d
  · have hl := hG.2.1
    have hl1 := hG.1
    have hr := impl_RootOfE d (by unfold maxLen; omega)
    rw [decide_eq_true hG] at hv
    rw [cdF_yes hG]
    refine ac_enter Try.func35 rfl _ Try.ntmps35 (by simp) fun C hn hm => ?_
    repeat' (first
      | refine op_build (t := 12) rfl rfl rfl rfl rfl (tl hn rfl) ?_
      | refine RunsL.step tabOk hn rfl ?_
      | refine RunsL.nil ?_
      | refine Runs.toRegion 30 rfl ?_
      | ((first | refine RunsL.pe hn rfl rfl rfl ?_ | refine RunsD.pe rfl rfl ?_); first
        | refine ⟨_, pu_callR hv rfl, ?_⟩
        | refine ⟨_, pu_buildS rfl, ?_⟩)
      | (refine Runs.ctls 30 rfl ?_; first | refine Runs.cond_t rfl ?_ | refine Runs.cond_f rfl ?_ | ((first | refine Runs.cond_yes rfl ?_ ?_ | refine Runs.cond_nno rfl ?_ ?_); · first | omega | rfl | assumption | (simp only [List.length_map]; omega)) | ((first | refine Runs.cond_no rfl ?_ ?_ | refine Runs.cond_nyes rfl ?_ ?_); · first | omega | rfl | assumption | (simp only [List.length_map]; omega)) | refine Runs.cond_dec rfl (fun h => ?_) (fun h => ?_) | refine Runs.cond_ndec rfl (fun h => ?_) (fun h => ?_) | refine Runs.cond_nb rfl (fun h => ?_) (fun h => ?_) | refine Runs.cond_b rfl (fun h => ?_) (fun h => ?_) | refine Runs.ret (ends_ro hm rfl rfl ?_) | exact Runs.ret (ends_cellR hm rfl rfl rfl (Nat.le_of_ble_eq_true rfl) rfl rfl))
      | refine op_box rfl (tl hn rfl) ?_
      | refine op_storeF rfl rfl rfl rfl (Nat.le_of_ble_eq_true rfl) ?_
      | refine op_alloc (tl hn rfl) ?_
      | refine op_storeN rfl rfl rfl rfl (Nat.le_of_ble_eq_true rfl) ?_
      | refine RunsD.step tabOk hn rfl rfl ?_
      | refine RunsD.nil ?_
      | refine Runs.toDraw 30 mixed hn rfl (by kernel_rfl) rfl ?_
      | ((first | refine RunsL.pe hn rfl rfl rfl ?_ | refine RunsD.pe rfl rfl ?_); first
        | refine ⟨_, pu_add rfl rfl (by omega), ?_⟩
        | refine ⟨_, pu_indexAddr_map rfl rfl (by omega) (by assumption), ?_⟩
        | refine ⟨_, pu_sub rfl rfl (by omega), ?_⟩
        | refine ⟨_, pu_pick_b rfl rfl rfl, ?_⟩
        | refine ⟨_, pu_mul rfl rfl (by omega), ?_⟩
        | refine ⟨_, pu_build rfl rfl rfl rfl rfl rfl, ?_⟩))
    refine Runs.nilCell 3 1 (e := 3) (sz := 1) (by decide) rfl rfl ?_
    refine Runs.loopN 30 rfl (fun j => [(1, .obj 0 0), (2, .obj 1 0), (3, .obj 3 0), (16, .int (d.length : Int)), (17, .int (j : Int))]) (fun j => cdS d (cdC 0 (cdT d j)) (cdE d j)) (fun _ => True) d.length 0 (Nat.zero_le _) trivial ⟨rfl, rfl, rfl, by simp [look], rfl, trivial⟩ (by rw [show cdT d 0 = [] by simp [cdT], show cdE d 0 = [] by simp [cdE]]; rfl) fun j hj _ next => ?_
    have hcl := cdT_le d hd hG j hj
    have hce := cdE_len d j
    by_cases hlt : j < d.length
    · have hR := impl_CompileRule d ho hd (j : Int) ((cdC 0 (cdT d j)).length : Nat) (cdE d j)
      have hcl1 := cdT_le d hd hG (j + 1) hlt
      rw [cdT, List.length_append] at hcl1
      have hrl : (cmpL d j ((cdC 0 (cdT d j)).length : Nat) (cdE d j)).length ≤ 3145896 := by
        rw [cdC_len]; omega
      have hcc : (cdC 0 (cdT d j)).length = (cdT d j).length + 2 := rfl
      generalize hq : cmpL d j ((cdC 0 (cdT d j)).length : Nat) (cdE d j) = q at hR hrl
      rw [insRV0] at hR
      repeat' (first
        | refine Runs.toDrawT (id := 8) 30 [] [0, 1, 2, 3, 4, 5, 6, 7] 8 [] mixed hn rfl (by kernel_rfl) rfl .nil (by decide) (by decide) (by decide) ?_
        | refine RunsL.junk 3 0 rfl (op_append (t := 31) (i := 2) (n := (cdC 0 (cdT d j)).length) rfl rfl rfl rfl rfl rfl (by rw [insR_flat]) (FreeI.at_ (i := 2) (by repeat' (first | exact trivial | exact onlys_ro _ _ | exact (by decide : (4 : Nat) ≠ 2) | refine ⟨?_, ?_⟩))) (by simp only [List.length_map]; omega) (by simp only [List.length_map]; omega) (tl hn rfl) ?_)
        | refine RunsL.junk 3 1 rfl (op_append (t := 37) (i := 4) (n := (cdE d j).length) rfl rfl rfl rfl rfl rfl (by simp) (FreeI.at_ (i := 4) (by repeat' (first | exact trivial | exact onlys_ro _ _ | exact (by decide : (2 : Nat) ≠ 4) | refine ⟨?_, ?_⟩))) (by simp; omega) (by simp; omega) (tl hn rfl) ?_)
        | refine RunsT.nil ?_
        | refine RunsT.step tabOk rfl rfl (fun _ => rfl) (by decide) ?_
        | refine RunsT.pur (fun _ => pu_len_own (n := (cdC 0 (cdT d j)).length) rfl rfl (inss_len3 _)) (by decide) rfl rfl ?_
        | refine RunsT.pur (fun _ => pu_callSL hR (els := q.map insR) (insRV0 q) (fun x hx => by obtain ⟨y, _, rfl⟩ := List.mem_map.1 hx; rfl) (.cons .ro (.cons .ro (.cons .ro (.cons lend_e .nil))))) (by decide) rfl rfl ?_
        | refine RunsT.pur (fun _ => pu_add rfl rfl (by omega)) (by decide) rfl rfl ?_
        | refine RunsT.pur (fun _ => pu_indexAddr_map rfl rfl (by omega) (by assumption)) (by decide) rfl rfl ?_
        | refine RunsT.alloc (p := 0) rfl inferInstance ?_
        | refine RunsT.alloc (p := 1) rfl inferInstance ?_
        | refine RunsL.step tabOk hn rfl ?_
        | refine RunsL.nil ?_
        | refine Runs.toRegion 30 rfl ?_
        | ((first | refine RunsL.pe hn rfl rfl rfl ?_ | refine RunsD.pe rfl rfl ?_); first
          | refine ⟨_, pu_len_own (n := (cdC 0 (cdT d j)).length) rfl rfl (inss_len3 _), ?_⟩
          | refine ⟨_, pu_callSL hR (els := q.map insR) (insRV0 q) (fun x hx => by obtain ⟨y, _, rfl⟩ := List.mem_map.1 hx; rfl) (.cons .ro (.cons .ro (.cons .ro (.cons lend_e .nil)))), ?_⟩)
        | (refine Runs.ctls 30 rfl ?_; first | refine Runs.cond_t rfl ?_ | refine Runs.cond_f rfl ?_ | ((first | refine Runs.cond_yes rfl ?_ ?_ | refine Runs.cond_nno rfl ?_ ?_); · first | omega | rfl | assumption | (simp only [List.length_map]; omega)) | ((first | refine Runs.cond_no rfl ?_ ?_ | refine Runs.cond_nyes rfl ?_ ?_); · first | omega | rfl | assumption | (simp only [List.length_map]; omega)) | refine Runs.cond_dec rfl (fun h => ?_) (fun h => ?_) | refine Runs.cond_ndec rfl (fun h => ?_) (fun h => ?_) | refine Runs.cond_nb rfl (fun h => ?_) (fun h => ?_) | refine Runs.cond_b rfl (fun h => ?_) (fun h => ?_) | refine Runs.ret (ends_ro hm rfl rfl ?_) | exact Runs.ret (ends_cellR hm rfl rfl rfl (Nat.le_of_ble_eq_true rfl) rfl rfl))
        | refine op_box rfl (tl hn rfl) ?_
        | refine op_storeF rfl rfl rfl rfl (Nat.le_of_ble_eq_true rfl) ?_
        | refine op_alloc (tl hn rfl) ?_
        | refine op_storeN rfl rfl rfl rfl (Nat.le_of_ble_eq_true rfl) ?_
        | refine RunsD.step tabOk hn rfl rfl ?_
        | refine RunsD.nil ?_
        | refine Runs.toDraw 30 mixed hn rfl (by kernel_rfl) rfl ?_
        | ((first | refine RunsL.pe hn rfl rfl rfl ?_ | refine RunsD.pe rfl rfl ?_); first
          | refine ⟨_, pu_add rfl rfl (by omega), ?_⟩
          | refine ⟨_, pu_indexAddr_map rfl rfl (by omega) (by assumption), ?_⟩
          | refine ⟨_, pu_sub rfl rfl (by omega), ?_⟩
          | refine ⟨_, pu_pick_b rfl rfl rfl, ?_⟩
          | refine ⟨_, pu_mul rfl rfl (by omega), ?_⟩
          | refine ⟨_, pu_build rfl rfl rfl rfl rfl rfl, ?_⟩))
      refine next _ _ ⟨rfl, rfl, rfl, rfl, rfl, trivial⟩ hlt trivial ?_
      have e1 : cdT d (j + 1) = cdT d j ++ q := by rw [cdT, ← hq]; rfl
      have e2 : cdE d (j + 1) = cdE d j ++ [((cdC 0 (cdT d j)).length : Int)] := by rw [cdE]; rfl
      rw [e1, e2, cdC_app]
      unfold cdS
      rw [List.flatMap_append, List.map_append (f := RV.int)]
      rfl
    · obtain rfl : j = d.length := by omega
      obtain ⟨z, hz⟩ : ∃ z, (cdE d d.length)[d.length - 1]? = some z := ⟨_, List.getElem?_eq_getElem (by omega)⟩
      have hzz : (((cdE d d.length).map RV.int).map AV.ro)[((d.length : Int) - 1).toNat * 1]? = some (.ro (.int z)) := by
        rw [show ((d.length : Int) - 1).toNat * 1 = d.length - 1 by omega]
        simp [hz]
      rw [hz]
      repeat' (first
        | refine Runs.toDrawT (id := 11) 30 [] [0, 1, 2, 3, 4, 5, 6, 7, 8, 9] 10 [] mixed hn rfl (by kernel_rfl) rfl .nil (by decide) (by decide) (by decide) ?_
        | refine RunsT.nil ?_
        | refine RunsT.step tabOk rfl rfl (fun _ => rfl) (by decide) ?_
        | refine RunsT.pur (fun _ => pu_callR hr rfl) (by decide) rfl rfl ?_
        | refine RunsT.pur (fun _ => pu_indexAddr_own (n := d.length) (sz := 1) rfl rfl rfl rfl (by rw [ints_len1, hce]) (by omega) (by omega)) (by decide) rfl rfl ?_
        | refine RunsT.pur (fun _ => pu_load_obj rfl rfl hzz) (by decide) rfl rfl ?_
        | refine RunsT.pur (fun _ => pu_indexAddr_own (n := (cdC 0 (cdT d d.length)).length) (sz := 3) rfl rfl rfl rfl (inss_len3 _) (by omega) (by rw [cdC_len]; omega)) (by decide) rfl rfl ?_
        | refine RunsT.pur (fun _ => pu_sub rfl rfl (by omega)) (by decide) rfl rfl ?_
        | refine RunsT.pur (fun _ => pu_add rfl rfl (by omega)) (by decide) rfl rfl ?_
        | refine RunsT.pur (fun _ => pu_indexAddr_map rfl rfl (by omega) (by assumption)) (by decide) rfl rfl ?_
        | refine RunsT.alloc (p := 0) rfl inferInstance ?_
        | refine RunsT.alloc (p := 1) rfl inferInstance ?_
        | refine RunsL.step tabOk hn rfl ?_
        | refine RunsL.nil ?_
        | refine Runs.toRegion 30 rfl ?_
        | ((first | refine RunsL.pe hn rfl rfl rfl ?_ | refine RunsD.pe rfl rfl ?_); first
          | refine ⟨_, pu_callR hr rfl, ?_⟩
          | refine ⟨_, pu_indexAddr_own (n := d.length) (sz := 1) rfl rfl rfl rfl (by rw [ints_len1, hce]) (by omega) (by omega), ?_⟩
          | refine ⟨_, pu_load_obj rfl rfl hzz, ?_⟩
          | refine ⟨_, pu_indexAddr_own (n := (cdC 0 (cdT d d.length)).length) (sz := 3) rfl rfl rfl rfl (inss_len3 _) (by omega) (by rw [cdC_len]; omega), ?_⟩
          | refine ⟨_, pu_sub rfl rfl (by omega), ?_⟩)
        | (refine Runs.ctls 30 rfl ?_; first | refine Runs.cond_t rfl ?_ | refine Runs.cond_f rfl ?_ | ((first | refine Runs.cond_yes rfl ?_ ?_ | refine Runs.cond_nno rfl ?_ ?_); · first | omega | rfl | assumption | (simp only [List.length_map]; omega)) | ((first | refine Runs.cond_no rfl ?_ ?_ | refine Runs.cond_nyes rfl ?_ ?_); · first | omega | rfl | assumption | (simp only [List.length_map]; omega)) | refine Runs.cond_dec rfl (fun h => ?_) (fun h => ?_) | refine Runs.cond_ndec rfl (fun h => ?_) (fun h => ?_) | refine Runs.cond_nb rfl (fun h => ?_) (fun h => ?_) | refine Runs.cond_b rfl (fun h => ?_) (fun h => ?_) | refine Runs.ret (ends_ro hm rfl rfl ?_) | exact Runs.ret (ends_cellR hm rfl rfl rfl (Nat.le_of_ble_eq_true rfl) rfl rfl))
        | refine op_box rfl (tl hn rfl) ?_
        | refine op_storeF rfl rfl rfl rfl (Nat.le_of_ble_eq_true rfl) ?_
        | refine op_alloc (tl hn rfl) ?_
        | refine op_storeN rfl rfl rfl rfl (Nat.le_of_ble_eq_true rfl) ?_
        | refine RunsD.step tabOk hn rfl rfl ?_
        | refine RunsD.nil ?_
        | refine Runs.toDraw 30 mixed hn rfl (by kernel_rfl) rfl ?_
        | ((first | refine RunsL.pe hn rfl rfl rfl ?_ | refine RunsD.pe rfl rfl ?_); first
          | refine ⟨_, pu_add rfl rfl (by omega), ?_⟩
          | refine ⟨_, pu_indexAddr_map rfl rfl (by omega) (by assumption), ?_⟩
          | refine ⟨_, pu_sub rfl rfl (by omega), ?_⟩
          | refine ⟨_, pu_pick_b rfl rfl rfl, ?_⟩
          | refine ⟨_, pu_mul rfl rfl (by omega), ?_⟩
          | refine ⟨_, pu_build rfl rfl rfl rfl rfl rfl, ?_⟩))
      exact Runs.ctls 30 rfl (Runs.ret (ends1 hm rfl (.agg [.own 2, .own 4]) ⟨1, 0, _, rfl, rfl, .inr ⟨2, inferInstance, Nat.le_of_ble_eq_true rfl, rfl⟩⟩ (.agg [.row 86 3 ((cdC z (cdT d d.length)).flatMap insR), .row 3 1 ((cdE d d.length).map RV.int)]) [2, 4] ⟨_, rfl, _, _, [2], [4], rfl, rfl, ⟨2, rfl, rfl, rfl⟩, _, _, [4], [], rfl, rfl, ⟨4, rfl, rfl, rfl⟩, rfl, rfl⟩ (by simp) rfl))
  · rw [decide_eq_false hG] at hv
    rw [cdF_no hG]
    refine ac_enter Try.func35 rfl _ Try.ntmps35 (by simp) fun C hn hm => ?_
    repeat' (first
      | refine RunsL.step tabOk hn rfl ?_
      | refine RunsL.nil ?_
      | refine Runs.toRegion 30 rfl ?_
      | ((first | refine RunsL.pe hn rfl rfl rfl ?_ | refine RunsD.pe rfl rfl ?_); first
        | refine ⟨_, pu_callR hv rfl, ?_⟩
        | refine ⟨_, pu_buildS rfl, ?_⟩)
      | (refine Runs.ctls 30 rfl ?_; first | refine Runs.cond_t rfl ?_ | refine Runs.cond_f rfl ?_ | ((first | refine Runs.cond_yes rfl ?_ ?_ | refine Runs.cond_nno rfl ?_ ?_); · first | omega | rfl | assumption | (simp only [List.length_map]; omega)) | ((first | refine Runs.cond_no rfl ?_ ?_ | refine Runs.cond_nyes rfl ?_ ?_); · first | omega | rfl | assumption | (simp only [List.length_map]; omega)) | refine Runs.cond_dec rfl (fun h => ?_) (fun h => ?_) | refine Runs.cond_ndec rfl (fun h => ?_) (fun h => ?_) | refine Runs.cond_nb rfl (fun h => ?_) (fun h => ?_) | refine Runs.cond_b rfl (fun h => ?_) (fun h => ?_) | refine Runs.ret (ends_ro hm rfl rfl ?_) | exact Runs.ret (ends_cellR hm rfl rfl rfl (Nat.le_of_ble_eq_true rfl) rfl rfl))
      | refine op_box rfl (tl hn rfl) ?_
      | refine op_storeF rfl rfl rfl rfl (Nat.le_of_ble_eq_true rfl) ?_
      | refine op_alloc (tl hn rfl) ?_
      | refine op_storeN rfl rfl rfl rfl (Nat.le_of_ble_eq_true rfl) ?_
      | refine RunsD.step tabOk hn rfl rfl ?_
      | refine RunsD.nil ?_
      | refine Runs.toDraw 30 mixed hn rfl (by kernel_rfl) rfl ?_
      | ((first | refine RunsL.pe hn rfl rfl rfl ?_ | refine RunsD.pe rfl rfl ?_); first
        | refine ⟨_, pu_add rfl rfl (by omega), ?_⟩
        | refine ⟨_, pu_indexAddr_map rfl rfl (by omega) (by assumption), ?_⟩
        | refine ⟨_, pu_sub rfl rfl (by omega), ?_⟩
        | refine ⟨_, pu_pick_b rfl rfl rfl, ?_⟩
        | refine ⟨_, pu_mul rfl rfl (by omega), ?_⟩
        | refine ⟨_, pu_build rfl rfl rfl rfl rfl rfl, ?_⟩))
    refine Runs.ctls 30 rfl ?_
    refine Runs.nilCell 1 0 (e := 86) (sz := 3) (by decide) rfl rfl ?_
    refine Runs.nilCell 1 1 (e := 3) (sz := 1) (by decide) rfl rfl ?_
    exact Runs.ret (ends1 hm rfl (.agg [.own 2, .own 3]) ⟨1, 0, _, rfl, rfl, .inr ⟨2, inferInstance, Nat.le_of_ble_eq_true rfl, rfl⟩⟩ (.agg [.row 86 3 [], .row 3 1 []]) [2, 3] ⟨_, rfl, _, _, [2], [3], rfl, rfl, ⟨2, rfl, rfl, rfl⟩, _, _, [3], [], rfl, rfl, ⟨3, rfl, rfl, rfl⟩, rfl, rfl⟩ (by simp) rfl)
set_option maxHeartbeats 16000000 in
theorem spec_CompileDescription (d : Des) (ho : DesOk d) (hd : dtotal d ≤ 1048576) : AC Try.prog 34 [desR d] (fun rr => rr = .agg [.row 86 3 ((cdF d).code.flatMap insR), .row 3 1 ((cdF d).entries.map RV.int)]) := by
  have hlm : (d.map rulR).length = d.length := List.length_map ..
  have hv := spec_IsValidDescription d ho hd
  have et : dtotal d = d.length + (d.map Rul.total).sum := rfl
  by_cases hG : Good' d
  · have hl := hG.2.1
    have hl1 := hG.1
    rw [decide_eq_true hG] at hv
    rw [cdF_yes hG]
    refine ac_enter Try.func34 rfl _ Try.ntmps34 (by simp) fun C hn hm => ?_
    repeat' (first
      | refine op_build (t := 12) rfl rfl rfl rfl rfl (tl hn rfl) ?_
      | refine RunsL.step tabOk hn rfl ?_
      | refine RunsL.nil ?_
      | refine Runs.toRegion 30 rfl ?_
      | ((first | refine RunsL.pe hn rfl rfl rfl ?_ | refine RunsD.pe rfl rfl ?_); first
        | refine ⟨_, pu_callR hv rfl, ?_⟩
        | refine ⟨_, pu_callR (l15Op_ac _ _ _) rfl, ?_⟩
        | refine ⟨_, pu_buildS rfl, ?_⟩)
      | (refine Runs.ctls 30 rfl ?_; first | refine Runs.cond_t rfl ?_ | refine Runs.cond_f rfl ?_ | ((first | refine Runs.cond_yes rfl ?_ ?_ | refine Runs.cond_nno rfl ?_ ?_); · first | omega | rfl | assumption | (simp only [List.length_map]; omega)) | ((first | refine Runs.cond_no rfl ?_ ?_ | refine Runs.cond_nyes rfl ?_ ?_); · first | omega | rfl | assumption | (simp only [List.length_map]; omega)) | refine Runs.cond_dec rfl (fun h => ?_) (fun h => ?_) | refine Runs.cond_ndec rfl (fun h => ?_) (fun h => ?_) | refine Runs.cond_nb rfl (fun h => ?_) (fun h => ?_) | refine Runs.cond_b rfl (fun h => ?_) (fun h => ?_) | refine Runs.ret (ends_ro hm rfl rfl ?_) | exact Runs.ret (ends_cellR hm rfl rfl rfl (Nat.le_of_ble_eq_true rfl) rfl rfl))
      | refine op_box rfl (tl hn rfl) ?_
      | refine op_storeF rfl rfl rfl rfl (Nat.le_of_ble_eq_true rfl) ?_
      | refine op_alloc (tl hn rfl) ?_
      | refine op_storeN rfl rfl rfl rfl (Nat.le_of_ble_eq_true rfl) ?_
      | refine RunsD.step tabOk hn rfl rfl ?_
      | refine RunsD.nil ?_
      | refine Runs.toDraw 30 mixed hn rfl (by kernel_rfl) rfl ?_
      | ((first | refine RunsL.pe hn rfl rfl rfl ?_ | refine RunsD.pe rfl rfl ?_); first
        | refine ⟨_, pu_add rfl rfl (by omega), ?_⟩
        | refine ⟨_, pu_indexAddr_map rfl rfl (by omega) (by assumption), ?_⟩
        | refine ⟨_, pu_sub rfl rfl (by omega), ?_⟩
        | refine ⟨_, pu_pick_b rfl rfl rfl, ?_⟩
        | refine ⟨_, pu_mul rfl rfl (by omega), ?_⟩
        | refine ⟨_, pu_build rfl rfl rfl rfl rfl rfl, ?_⟩))
    refine Runs.nilCell 3 1 (e := 3) (sz := 1) (by decide) rfl rfl ?_
    refine Runs.loopN 30 rfl (fun j => [(1, .obj 0 0), (2, .obj 1 0), (3, .obj 3 0), (4, .int (j : Int))]) (fun j => cdS d (cdC 0 (cdT d j)) (cdE d j)) (fun _ => True) d.length 0 (Nat.zero_le _) trivial ⟨rfl, rfl, rfl, rfl, trivial⟩ (by rw [show cdT d 0 = [] by simp [cdT], show cdE d 0 = [] by simp [cdE]]; rfl) fun j hj _ next => ?_
    have hcl := cdT_le d hd hG j hj
    have hce := cdE_len d j
    by_cases hlt : j < d.length
    · have hR := spec_CompileRule d ho hd (j : Int) ((cdC 0 (cdT d j)).length : Nat) (cdE d j)
      have hcl1 := cdT_le d hd hG (j + 1) hlt
      rw [cdT, List.length_append] at hcl1
      have hrl : (cmpL d j ((cdC 0 (cdT d j)).length : Nat) (cdE d j)).length ≤ 3145896 := by
        rw [cdC_len]; omega
      have hcc : (cdC 0 (cdT d j)).length = (cdT d j).length + 2 := rfl
      generalize hq : cmpL d j ((cdC 0 (cdT d j)).length : Nat) (cdE d j) = q at hR hrl
      rw [insRV0] at hR
      repeat' (first
        | refine Runs.toDrawT (id := 8) 30 [] [0, 1, 2, 3, 4, 5, 6, 7] 8 [] mixed hn rfl (by kernel_rfl) rfl .nil (by decide) (by decide) (by decide) ?_
        | refine RunsL.junk 3 0 rfl (op_append (t := 32) (i := 2) (n := (cdC 0 (cdT d j)).length) rfl rfl rfl rfl rfl rfl (by rw [insR_flat]) (FreeI.at_ (i := 2) (by repeat' (first | exact trivial | exact onlys_ro _ _ | exact (by decide : (4 : Nat) ≠ 2) | refine ⟨?_, ?_⟩))) (by simp only [List.length_map]; omega) (by simp only [List.length_map]; omega) (tl hn rfl) ?_)
        | refine RunsL.junk 3 1 rfl (op_append (t := 38) (i := 4) (n := (cdE d j).length) rfl rfl rfl rfl rfl rfl (by simp) (FreeI.at_ (i := 4) (by repeat' (first | exact trivial | exact onlys_ro _ _ | exact (by decide : (2 : Nat) ≠ 4) | refine ⟨?_, ?_⟩))) (by simp; omega) (by simp; omega) (tl hn rfl) ?_)
        | refine RunsT.nil ?_
        | refine RunsT.step tabOk rfl rfl (fun _ => rfl) (by decide) ?_
        | refine RunsT.pur (fun _ => pu_len_own (n := (cdC 0 (cdT d j)).length) rfl rfl (inss_len3 _)) (by decide) rfl rfl ?_
        | refine RunsT.pur (fun _ => pu_callSL hR (els := q.map insR) (insRV0 q) (fun x hx => by obtain ⟨y, _, rfl⟩ := List.mem_map.1 hx; rfl) (.cons .ro (.cons .ro (.cons .ro (.cons lend_e .nil))))) (by decide) rfl rfl ?_
        | refine RunsT.pur (fun _ => pu_add rfl rfl (by omega)) (by decide) rfl rfl ?_
        | refine RunsT.pur (fun _ => pu_indexAddr_map rfl rfl (by omega) (by assumption)) (by decide) rfl rfl ?_
        | refine RunsT.alloc (p := 0) rfl inferInstance ?_
        | refine RunsT.alloc (p := 1) rfl inferInstance ?_
        | refine RunsL.step tabOk hn rfl ?_
        | refine RunsL.nil ?_
        | refine Runs.toRegion 30 rfl ?_
        | ((first | refine RunsL.pe hn rfl rfl rfl ?_ | refine RunsD.pe rfl rfl ?_); first
          | refine ⟨_, pu_len_own (n := (cdC 0 (cdT d j)).length) rfl rfl (inss_len3 _), ?_⟩
          | refine ⟨_, pu_callSL hR (els := q.map insR) (insRV0 q) (fun x hx => by obtain ⟨y, _, rfl⟩ := List.mem_map.1 hx; rfl) (.cons .ro (.cons .ro (.cons .ro (.cons lend_e .nil)))), ?_⟩)
        | (refine Runs.ctls 30 rfl ?_; first | refine Runs.cond_t rfl ?_ | refine Runs.cond_f rfl ?_ | ((first | refine Runs.cond_yes rfl ?_ ?_ | refine Runs.cond_nno rfl ?_ ?_); · first | omega | rfl | assumption | (simp only [List.length_map]; omega)) | ((first | refine Runs.cond_no rfl ?_ ?_ | refine Runs.cond_nyes rfl ?_ ?_); · first | omega | rfl | assumption | (simp only [List.length_map]; omega)) | refine Runs.cond_dec rfl (fun h => ?_) (fun h => ?_) | refine Runs.cond_ndec rfl (fun h => ?_) (fun h => ?_) | refine Runs.cond_nb rfl (fun h => ?_) (fun h => ?_) | refine Runs.cond_b rfl (fun h => ?_) (fun h => ?_) | refine Runs.ret (ends_ro hm rfl rfl ?_) | exact Runs.ret (ends_cellR hm rfl rfl rfl (Nat.le_of_ble_eq_true rfl) rfl rfl))
        | refine op_box rfl (tl hn rfl) ?_
        | refine op_storeF rfl rfl rfl rfl (Nat.le_of_ble_eq_true rfl) ?_
        | refine op_alloc (tl hn rfl) ?_
        | refine op_storeN rfl rfl rfl rfl (Nat.le_of_ble_eq_true rfl) ?_
        | refine RunsD.step tabOk hn rfl rfl ?_
        | refine RunsD.nil ?_
        | refine Runs.toDraw 30 mixed hn rfl (by kernel_rfl) rfl ?_
        | ((first | refine RunsL.pe hn rfl rfl rfl ?_ | refine RunsD.pe rfl rfl ?_); first
          | refine ⟨_, pu_add rfl rfl (by omega), ?_⟩
          | refine ⟨_, pu_indexAddr_map rfl rfl (by omega) (by assumption), ?_⟩
          | refine ⟨_, pu_sub rfl rfl (by omega), ?_⟩
          | refine ⟨_, pu_pick_b rfl rfl rfl, ?_⟩
          | refine ⟨_, pu_mul rfl rfl (by omega), ?_⟩
          | refine ⟨_, pu_build rfl rfl rfl rfl rfl rfl, ?_⟩))
      refine next _ _ ⟨rfl, rfl, rfl, rfl, trivial⟩ hlt trivial ?_
      have e1 : cdT d (j + 1) = cdT d j ++ q := by rw [cdT, ← hq]; rfl
      have e2 : cdE d (j + 1) = cdE d j ++ [((cdC 0 (cdT d j)).length : Int)] := by rw [cdE]; rfl
      rw [e1, e2, cdC_app]
      unfold cdS
      rw [List.flatMap_append, List.map_append (f := RV.int)]
      rfl
    · obtain rfl : j = d.length := by omega
      obtain ⟨z, hz⟩ : ∃ z, (cdE d d.length)[d.length - 1]? = some z := ⟨_, List.getElem?_eq_getElem (by omega)⟩
      have hzz : (((cdE d d.length).map RV.int).map AV.ro)[((d.length : Int) - 1).toNat * 1]? = some (.ro (.int z)) := by
        rw [show ((d.length : Int) - 1).toNat * 1 = d.length - 1 by omega]
        simp [hz]
      rw [hz]
      repeat' (first
        | refine Runs.toDrawT (id := 10) 30 [] [0, 1, 2, 3, 4, 5, 6, 7, 8, 9, 10, 11] 12 [] mixed hn rfl (by kernel_rfl) rfl .nil (by decide) (by decide) (by decide) ?_
        | refine RunsT.nil ?_
        | refine RunsT.step tabOk rfl rfl (fun _ => rfl) (by decide) ?_
        | refine RunsT.pur (fun _ => pu_len_own (n := d.length) rfl rfl (by rw [ints_len1, hce])) (by decide) rfl rfl ?_
        | refine RunsT.pur (fun _ => pu_indexAddr_own (n := d.length) (sz := 1) rfl rfl rfl rfl (by rw [ints_len1, hce]) (by omega) (by omega)) (by decide) rfl rfl ?_
        | refine RunsT.pur (fun _ => pu_load_obj rfl rfl hzz) (by decide) rfl rfl ?_
        | refine RunsT.pur (fun _ => pu_indexAddr_own (n := (cdC 0 (cdT d d.length)).length) (sz := 3) rfl rfl rfl rfl (inss_len3 _) (by omega) (by rw [cdC_len]; omega)) (by decide) rfl rfl ?_
        | refine RunsT.pur (fun _ => pu_sub rfl rfl (by omega)) (by decide) rfl rfl ?_
        | refine RunsT.pur (fun _ => pu_add rfl rfl (by omega)) (by decide) rfl rfl ?_
        | refine RunsT.pur (fun _ => pu_indexAddr_map rfl rfl (by omega) (by assumption)) (by decide) rfl rfl ?_
        | refine RunsT.alloc (p := 0) rfl inferInstance ?_
        | refine RunsT.alloc (p := 1) rfl inferInstance ?_
        | refine RunsL.step tabOk hn rfl ?_
        | refine RunsL.nil ?_
        | refine Runs.toRegion 30 rfl ?_
        | ((first | refine RunsL.pe hn rfl rfl rfl ?_ | refine RunsD.pe rfl rfl ?_); first
          | refine ⟨_, pu_len_own (n := d.length) rfl rfl (by rw [ints_len1, hce]), ?_⟩
          | refine ⟨_, pu_indexAddr_own (n := d.length) (sz := 1) rfl rfl rfl rfl (by rw [ints_len1, hce]) (by omega) (by omega), ?_⟩
          | refine ⟨_, pu_load_obj rfl rfl hzz, ?_⟩
          | refine ⟨_, pu_indexAddr_own (n := (cdC 0 (cdT d d.length)).length) (sz := 3) rfl rfl rfl rfl (inss_len3 _) (by omega) (by rw [cdC_len]; omega), ?_⟩
          | refine ⟨_, pu_sub rfl rfl (by omega), ?_⟩)
        | (refine Runs.ctls 30 rfl ?_; first | refine Runs.cond_t rfl ?_ | refine Runs.cond_f rfl ?_ | ((first | refine Runs.cond_yes rfl ?_ ?_ | refine Runs.cond_nno rfl ?_ ?_); · first | omega | rfl | assumption | (simp only [List.length_map]; omega)) | ((first | refine Runs.cond_no rfl ?_ ?_ | refine Runs.cond_nyes rfl ?_ ?_); · first | omega | rfl | assumption | (simp only [List.length_map]; omega)) | refine Runs.cond_dec rfl (fun h => ?_) (fun h => ?_) | refine Runs.cond_ndec rfl (fun h => ?_) (fun h => ?_) | refine Runs.cond_nb rfl (fun h => ?_) (fun h => ?_) | refine Runs.cond_b rfl (fun h => ?_) (fun h => ?_) | refine Runs.ret (ends_ro hm rfl rfl ?_) | exact Runs.ret (ends_cellR hm rfl rfl rfl (Nat.le_of_ble_eq_true rfl) rfl rfl))
        | refine op_box rfl (tl hn rfl) ?_
        | refine op_storeF rfl rfl rfl rfl (Nat.le_of_ble_eq_true rfl) ?_
        | refine op_alloc (tl hn rfl) ?_
        | refine op_storeN rfl rfl rfl rfl (Nat.le_of_ble_eq_true rfl) ?_
        | refine RunsD.step tabOk hn rfl rfl ?_
        | refine RunsD.nil ?_
        | refine Runs.toDraw 30 mixed hn rfl (by kernel_rfl) rfl ?_
        | ((first | refine RunsL.pe hn rfl rfl rfl ?_ | refine RunsD.pe rfl rfl ?_); first
          | refine ⟨_, pu_add rfl rfl (by omega), ?_⟩
          | refine ⟨_, pu_indexAddr_map rfl rfl (by omega) (by assumption), ?_⟩
          | refine ⟨_, pu_sub rfl rfl (by omega), ?_⟩
          | refine ⟨_, pu_pick_b rfl rfl rfl, ?_⟩
          | refine ⟨_, pu_mul rfl rfl (by omega), ?_⟩
          | refine ⟨_, pu_build rfl rfl rfl rfl rfl rfl, ?_⟩))
      exact Runs.ctls 30 rfl (Runs.ret (ends1 hm rfl (.agg [.own 2, .own 4]) ⟨1, 0, _, rfl, rfl, .inr ⟨2, inferInstance, Nat.le_of_ble_eq_true rfl, rfl⟩⟩ (.agg [.row 86 3 ((cdC z (cdT d d.length)).flatMap insR), .row 3 1 ((cdE d d.length).map RV.int)]) [2, 4] ⟨_, rfl, _, _, [2], [4], rfl, rfl, ⟨2, rfl, rfl, rfl⟩, _, _, [4], [], rfl, rfl, ⟨4, rfl, rfl, rfl⟩, rfl, rfl⟩ (by simp) rfl))
  · rw [decide_eq_false hG] at hv
    rw [cdF_no hG]
    refine ac_enter Try.func34 rfl _ Try.ntmps34 (by simp) fun C hn hm => ?_
    repeat' (first
      | refine RunsL.step tabOk hn rfl ?_
      | refine RunsL.nil ?_
      | refine Runs.toRegion 30 rfl ?_
      | ((first | refine RunsL.pe hn rfl rfl rfl ?_ | refine RunsD.pe rfl rfl ?_); first
        | refine ⟨_, pu_callR hv rfl, ?_⟩
        | refine ⟨_, pu_buildS rfl, ?_⟩)
      | (refine Runs.ctls 30 rfl ?_; first | refine Runs.cond_t rfl ?_ | refine Runs.cond_f rfl ?_ | ((first | refine Runs.cond_yes rfl ?_ ?_ | refine Runs.cond_nno rfl ?_ ?_); · first | omega | rfl | assumption | (simp only [List.length_map]; omega)) | ((first | refine Runs.cond_no rfl ?_ ?_ | refine Runs.cond_nyes rfl ?_ ?_); · first | omega | rfl | assumption | (simp only [List.length_map]; omega)) | refine Runs.cond_dec rfl (fun h => ?_) (fun h => ?_) | refine Runs.cond_ndec rfl (fun h => ?_) (fun h => ?_) | refine Runs.cond_nb rfl (fun h => ?_) (fun h => ?_) | refine Runs.cond_b rfl (fun h => ?_) (fun h => ?_) | refine Runs.ret (ends_ro hm rfl rfl ?_) | exact Runs.ret (ends_cellR hm rfl rfl rfl (Nat.le_of_ble_eq_true rfl) rfl rfl))
      | refine op_box rfl (tl hn rfl) ?_
      | refine op_storeF rfl rfl rfl rfl (Nat.le_of_ble_eq_true rfl) ?_
      | refine op_alloc (tl hn rfl) ?_
      | refine op_storeN rfl rfl rfl rfl (Nat.le_of_ble_eq_true rfl) ?_
      | refine RunsD.step tabOk hn rfl rfl ?_
      | refine RunsD.nil ?_
      | refine Runs.toDraw 30 mixed hn rfl (by kernel_rfl) rfl ?_
      | ((first | refine RunsL.pe hn rfl rfl rfl ?_ | refine RunsD.pe rfl rfl ?_); first
        | refine ⟨_, pu_add rfl rfl (by omega), ?_⟩
        | refine ⟨_, pu_indexAddr_map rfl rfl (by omega) (by assumption), ?_⟩
        | refine ⟨_, pu_sub rfl rfl (by omega), ?_⟩
        | refine ⟨_, pu_pick_b rfl rfl rfl, ?_⟩
        | refine ⟨_, pu_mul rfl rfl (by omega), ?_⟩
        | refine ⟨_, pu_build rfl rfl rfl rfl rfl rfl, ?_⟩))
    refine Runs.ctls 30 rfl ?_
    refine Runs.nilCell 1 0 (e := 86) (sz := 3) (by decide) rfl rfl ?_
    refine Runs.nilCell 1 1 (e := 3) (sz := 1) (by decide) rfl rfl ?_
    exact Runs.ret (ends1 hm rfl (.agg [.own 2, .own 3]) ⟨1, 0, _, rfl, rfl, .inr ⟨2, inferInstance, Nat.le_of_ble_eq_true rfl, rfl⟩⟩ (.agg [.row 86 3 [], .row 3 1 []]) [2, 3] ⟨_, rfl, _, _, [2], [3], rfl, rfl, ⟨2, rfl, rfl, rfl⟩, _, _, [3], [], rfl, rfl, ⟨3, rfl, rfl, rfl⟩, rfl, rfl⟩ (by simp) rfl)
end Go.Proofs.Ytignpklaefibaaa
/- How much code a description has: both sides. -/
namespace Go.Proofs.Ytignpklaefibaaa
set_option linter.unusedSimpArgs false
set_option linter.unusedVariables false
open Go.RowKit
open AV (Mem Keeps)
set_option maxRecDepth 100000
theorem seals_prg (p : Prg) : Seals (.agg [.row 86 3 (p.code.flatMap insR), .row 3 1 (p.entries.map RV.int)]) (prgR p) := by
  simp only [Seals, prgR]
  exact ⟨_, rfl, _, _, rfl, seals_inss _ _, _, _, rfl, (by
    have h := seals_row1 3 (p.entries.map RV.int)
    rw [List.map_map] at h
    exact h), rfl⟩
theorem code_field : ∃ fs fl, Try.prog.underlying 61 = some (.struct fs) ∧ fs[0]? = some fl ∧ fl.offset = 0 ∧ fl.type = 52 := ⟨_, _, Try.underlying61, rfl, rfl, rfl⟩
section
variable {C : Ctx} {env : Env} {σ : List Ob} {t : Nat} {ty : TypeId} {pos : String} {after : Array Edge} {gd : Option (Nat × Bool)}
theorem pu_codeField {x : Operand} {p : Prg} (hx : ev env x = .ro (prgR p)) : Pur Try.prog C ⟨some t, .field 61 x 0, ty, pos, after, gd⟩ env σ (.ro (inssR p.code)) := by
  obtain ⟨fs, fl, h1, h2, h3, h4⟩ := code_field
  have : T1 Try.prog fl.type := by rw [h4]; infer_instance
  exact pu_fieldV h1 h2 h3 hx rfl
end
theorem impl_CodeSize (d : Des) (ho : DesOk d) (hd : dtotal d ≤ 1048576) : ACv Try.prog 18 [desR d] (.int ((cdF d).code.length : Int)) := by
  have hC := (impl_CompileDescription d ho hd).shut (r := prgR (cdF d)) (by rintro _ rfl; exact seals_prg _)
  have hlm : ((cdF d).code.map insR).length = (cdF d).code.length := List.length_map ..
  refine ac_enter Try.func18 rfl _ Try.ntmps18 (by simp) fun C hn hm => ?_
  repeat' (first
    | refine RunsL.step tabOk hn rfl ?_
    | refine RunsL.nil ?_
    | refine Runs.toRegion 30 rfl ?_
    | (refine RunsL.pe hn rfl rfl rfl ?_; first
      | refine ⟨_, pu_callR hC rfl, ?_⟩
      | refine ⟨_, pu_codeField rfl, ?_⟩)
    | (refine Runs.ctls 30 rfl ?_; first | refine Runs.cond_t rfl ?_ | refine Runs.cond_f rfl ?_ | ((first | refine Runs.cond_yes rfl ?_ ?_ | refine Runs.cond_nno rfl ?_ ?_); · first | omega | rfl | assumption | (simp only [List.length_map]; omega)) | ((first | refine Runs.cond_no rfl ?_ ?_ | refine Runs.cond_nyes rfl ?_ ?_); · first | omega | rfl | assumption | (simp only [List.length_map]; omega)) | refine Runs.cond_dec rfl (fun h => ?_) (fun h => ?_) | refine Runs.cond_ndec rfl (fun h => ?_) (fun h => ?_) | refine Runs.cond_nb rfl (fun h => ?_) (fun h => ?_) | refine Runs.cond_b rfl (fun h => ?_) (fun h => ?_) | refine Runs.ret (ends_ro hm rfl rfl ?_) | exact Runs.ret (ends_cellR hm rfl rfl rfl (Nat.le_of_ble_eq_true rfl) rfl rfl))
    | refine op_box rfl (tl hn rfl) ?_
    | refine op_storeF rfl rfl rfl rfl (Nat.le_of_ble_eq_true rfl) ?_
    | refine op_alloc (tl hn rfl) ?_
    | refine op_storeN rfl rfl rfl rfl (Nat.le_of_ble_eq_true rfl) ?_
    | (refine RunsL.pe hn rfl rfl rfl ?_; first
      | refine ⟨_, pu_add rfl rfl (by omega), ?_⟩
      | refine ⟨_, pu_indexAddr_map rfl rfl (by omega) (by assumption), ?_⟩
      | refine ⟨_, pu_sub rfl rfl (by omega), ?_⟩
      | refine ⟨_, pu_pick_b rfl rfl rfl, ?_⟩
      | refine ⟨_, pu_mul rfl rfl (by omega), ?_⟩
      | refine ⟨_, pu_build rfl rfl rfl rfl rfl rfl, ?_⟩))
  exact rr_int (by rw [hlm])
theorem spec_CodeSize (d : Des) (ho : DesOk d) (hd : dtotal d ≤ 1048576) : ACv Try.prog 17 [desR d] (.int ((cdF d).code.length : Int)) := by
  have hC := (spec_CompileDescription d ho hd).shut (r := prgR (cdF d)) (by rintro _ rfl; exact seals_prg _)
  have hlm : ((cdF d).code.map insR).length = (cdF d).code.length := List.length_map ..
  refine ac_enter Try.func17 rfl _ Try.ntmps17 (by simp) fun C hn hm => ?_
  repeat' (first
    | refine RunsL.step tabOk hn rfl ?_
    | refine RunsL.nil ?_
    | refine Runs.toRegion 30 rfl ?_
    | (refine RunsL.pe hn rfl rfl rfl ?_; first
      | refine ⟨_, pu_callR hC rfl, ?_⟩
      | refine ⟨_, pu_codeField rfl, ?_⟩)
    | (refine Runs.ctls 30 rfl ?_; first | refine Runs.cond_t rfl ?_ | refine Runs.cond_f rfl ?_ | ((first | refine Runs.cond_yes rfl ?_ ?_ | refine Runs.cond_nno rfl ?_ ?_); · first | omega | rfl | assumption | (simp only [List.length_map]; omega)) | ((first | refine Runs.cond_no rfl ?_ ?_ | refine Runs.cond_nyes rfl ?_ ?_); · first | omega | rfl | assumption | (simp only [List.length_map]; omega)) | refine Runs.cond_dec rfl (fun h => ?_) (fun h => ?_) | refine Runs.cond_ndec rfl (fun h => ?_) (fun h => ?_) | refine Runs.cond_nb rfl (fun h => ?_) (fun h => ?_) | refine Runs.cond_b rfl (fun h => ?_) (fun h => ?_) | refine Runs.ret (ends_ro hm rfl rfl ?_) | exact Runs.ret (ends_cellR hm rfl rfl rfl (Nat.le_of_ble_eq_true rfl) rfl rfl))
    | refine op_box rfl (tl hn rfl) ?_
    | refine op_storeF rfl rfl rfl rfl (Nat.le_of_ble_eq_true rfl) ?_
    | refine op_alloc (tl hn rfl) ?_
    | refine op_storeN rfl rfl rfl rfl (Nat.le_of_ble_eq_true rfl) ?_
    | (refine RunsL.pe hn rfl rfl rfl ?_; first
      | refine ⟨_, pu_add rfl rfl (by omega), ?_⟩
      | refine ⟨_, pu_indexAddr_map rfl rfl (by omega) (by assumption), ?_⟩
      | refine ⟨_, pu_sub rfl rfl (by omega), ?_⟩
      | refine ⟨_, pu_pick_b rfl rfl rfl, ?_⟩
      | refine ⟨_, pu_mul rfl rfl (by omega), ?_⟩
      | refine ⟨_, pu_build rfl rfl rfl rfl rfl rfl, ?_⟩))
  exact rr_int (by rw [hlm])
end Go.Proofs.Ytignpklaefibaaa
