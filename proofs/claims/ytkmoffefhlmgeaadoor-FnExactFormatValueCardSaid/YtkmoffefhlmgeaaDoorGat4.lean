/- Gathered texts. -/
import Derived.Test.YtkmoffefhlmgeaaDoorGat0
import Derived.Test.YtkmoffefhlmgeaaDoorGat1
import Derived.Test.YtkmoffefhlmgeaaDoorGat2
import Derived.Test.YtkmoffefhlmgeaaDoorGat3
/- Values as texts: the parts, both sides. -/
namespace Go.Proofs.YtkmoffefhlmgeaaDoor
set_option linter.unusedSimpArgs false
set_option linter.unusedVariables false
set_option linter.unusedSectionVars false
set_option maxRecDepth 100000
open Go.RowKit
open AV (Mem Keeps)
theorem list_pick {α : Type} {Q : Nat → α → ByteArray → Prop} : ∀ (l : List α), (∀ (i : Nat) y, l[i]? = some y → ∃ s, Q i y s) → ∃ ss : List ByteArray, ss.length = l.length ∧ ∀ (i : Nat) y s, l[i]? = some y → ss[i]? = some s → Q i y s := by
  intro l
  induction l generalizing Q with
  | nil => exact fun _ => ⟨[], rfl, fun i y s h => by simp at h⟩
  | cons y l ih =>
    intro h
    obtain ⟨s, hs⟩ := h 0 y rfl
    obtain ⟨ss, h1, h2⟩ := ih (Q := fun i => Q (i + 1)) fun i z hz => h (i + 1) z (by simpa using hz)
    refine ⟨s :: ss, by simp [h1], fun i z t hz ht => ?_⟩
    cases i with
    | zero => simp at hz ht; subst hz; subst ht; exact hs
    | succ i => exact h2 i z t (by simpa using hz) (by simpa using ht)
def sComma : ByteArray := ⟨#[44]⟩
def sColon : ByteArray := ⟨#[58]⟩
def partT (x : Rul) (i : Nat) (s : ByteArray) : ByteArray := if x.kind = 6 then (((x.names[i]?).getD ⟨#[]⟩) ++ sColon) ++ s else s
def partsT (x : Rul) (ss : List ByteArray) : List ByteArray := (List.range ss.length).map fun i => partT x i ((ss[i]?).getD ⟨#[]⟩)
theorem partsT_len (x : Rul) (ss : List ByteArray) : (partsT x ss).length = ss.length := by simp [partsT]
theorem partsT_at {x : Rul} {ss : List ByteArray} {i : Nat} {s : ByteArray} (h : ss[i]? = some s) : (partsT x ss)[i]? = some (partT x i s) := by
  have hi := (List.getElem?_eq_some_iff.1 h).1
  unfold partsT
  rw [List.getElem?_map, List.getElem?_range hi, Option.map_some, h]
  rfl
theorem partsT_id {x : Rul} (k : x.kind ≠ 6) (ss : List ByteArray) : partsT x ss = ss := by
  apply List.ext_getElem?
  intro i
  by_cases hi : i < ss.length
  · rw [partsT_at (List.getElem?_eq_getElem hi), List.getElem?_eq_getElem hi]
    unfold partT; rw [if_neg k]
  · rw [List.getElem?_eq_none (by rw [partsT_len]; omega), List.getElem?_eq_none (by omega)]
theorem joinT_next {ss : List ByteArray} {j : Nat} {s sep : ByteArray} (h : ss[j]? = some s) : joinT (ss.take (j + 1)) sep = if j = 0 then s else (joinT (ss.take j) sep ++ sep) ++ s := by
  have hj := (List.getElem?_eq_some_iff.1 h).1
  rw [List.take_add_one, h]
  show joinT (ss.take j ++ [s]) sep = _
  by_cases e : j = 0
  · subst e
    rw [if_pos rfl, List.take_zero, List.nil_append, joinT_one]
  · rw [if_neg e, joinT_app]
    intro h0
    have := congrArg List.length h0
    rw [List.length_take] at this
    simp at this
    rcases this with h | h
    · omega
    · subst h; simp at hj
theorem av_str {a b : ByteArray} (h : a = b) : AV.str a = AV.str b := by rw [h]
theorem sum_take_size (l : List ByteArray) (j n : Nat) (h : ((l.map fun s => s.size + 1).sum) ≤ n) : (((l.take j).map fun s => s.size + 1).sum) ≤ n := by
  have := sum_take_le (fun s : ByteArray => s.size + 1) l j
  omega
def shapeR (x : Rul) : RV :=
  if x.kind = 1 then .ifc 71 (.agg []) else if x.kind = 2 then .ifc 72 (.agg []) else if x.kind = 5 then .ifc 73 (.agg [])
  else if x.kind = 6 then .ifc 76 (.agg [strsR x.names]) else if x.kind = 7 then .ifc 77 (.agg []) else if x.kind = 8 then .ifc 78 (.agg [])
  else if x.kind = 9 then .ifc 79 (.agg []) else .ifc 90 (.agg [])
set_option maxRecDepth 100000 in
instance st_number : ST Tryd.prog 71 (.agg #[]) := ⟨_, _, rfl, rfl, rfl⟩
set_option maxRecDepth 100000 in
instance st_const : ST Tryd.prog 72 (.agg #[]) := ⟨_, _, rfl, rfl, rfl⟩
set_option maxRecDepth 100000 in
instance st_list : ST Tryd.prog 73 (.agg #[]) := ⟨_, _, rfl, rfl, rfl⟩
set_option maxRecDepth 100000 in
instance st_parts : ST Tryd.prog 76 (.agg #[.slice none 0 0]) := ⟨_, _, rfl, rfl, rfl⟩
set_option maxRecDepth 100000 in
instance st_choice : ST Tryd.prog 77 (.agg #[]) := ⟨_, _, rfl, rfl, rfl⟩
set_option maxRecDepth 100000 in
instance st_option : ST Tryd.prog 78 (.agg #[]) := ⟨_, _, rfl, rfl, rfl⟩
set_option maxRecDepth 100000 in
instance st_group : ST Tryd.prog 79 (.agg #[]) := ⟨_, _, rfl, rfl, rfl⟩
set_option maxRecDepth 100000 in
instance st_bytes : ST Tryd.prog 90 (.agg #[]) := ⟨_, _, rfl, rfl, rfl⟩
set_option maxRecDepth 100000 in
instance tb_number : TB Tryd.prog 71 [] [] := ⟨_, _, _, rfl, rfl, rfl, rfl, by kernel_rfl, by simp⟩
set_option maxRecDepth 100000 in
instance tb_const : TB Tryd.prog 72 [] [] := ⟨_, _, _, rfl, rfl, rfl, rfl, by kernel_rfl, by simp⟩
set_option maxRecDepth 100000 in
instance tb_list : TB Tryd.prog 73 [] [] := ⟨_, _, _, rfl, rfl, rfl, rfl, by kernel_rfl, by simp⟩
set_option maxRecDepth 100000 in
instance tb_parts : TB Tryd.prog 76 [(0, 1)] [.slice none 0 0] := ⟨_, _, _, rfl, rfl, rfl, rfl, by kernel_rfl, by decide⟩
set_option maxRecDepth 100000 in
instance tb_choice : TB Tryd.prog 77 [] [] := ⟨_, _, _, rfl, rfl, rfl, rfl, by kernel_rfl, by simp⟩
set_option maxRecDepth 100000 in
instance tb_option : TB Tryd.prog 78 [] [] := ⟨_, _, _, rfl, rfl, rfl, rfl, by kernel_rfl, by simp⟩
set_option maxRecDepth 100000 in
instance tb_group : TB Tryd.prog 79 [] [] := ⟨_, _, _, rfl, rfl, rfl, rfl, by kernel_rfl, by simp⟩
set_option maxRecDepth 100000 in
instance tb_bytes : TB Tryd.prog 90 [] [] := ⟨_, _, _, rfl, rfl, rfl, rfl, by kernel_rfl, by simp⟩
set_option maxRecDepth 100000 in
instance tz_number : TZ Tryd.prog 71 [] := ⟨_, _, rfl, rfl, rfl, by simp⟩
set_option maxRecDepth 100000 in
instance tn_number : TN Tryd.prog 71 0 := ⟨by kernel_rfl⟩
set_option maxRecDepth 100000 in
instance tz_const : TZ Tryd.prog 72 [] := ⟨_, _, rfl, rfl, rfl, by simp⟩
set_option maxRecDepth 100000 in
instance tn_const : TN Tryd.prog 72 0 := ⟨by kernel_rfl⟩
set_option maxRecDepth 100000 in
instance tz_list : TZ Tryd.prog 73 [] := ⟨_, _, rfl, rfl, rfl, by simp⟩
set_option maxRecDepth 100000 in
instance tn_list : TN Tryd.prog 73 0 := ⟨by kernel_rfl⟩
set_option maxRecDepth 100000 in
instance tz_choice : TZ Tryd.prog 77 [] := ⟨_, _, rfl, rfl, rfl, by simp⟩
set_option maxRecDepth 100000 in
instance tn_choice : TN Tryd.prog 77 0 := ⟨by kernel_rfl⟩
set_option maxRecDepth 100000 in
instance tz_option : TZ Tryd.prog 78 [] := ⟨_, _, rfl, rfl, rfl, by simp⟩
set_option maxRecDepth 100000 in
instance tn_option : TN Tryd.prog 78 0 := ⟨by kernel_rfl⟩
set_option maxRecDepth 100000 in
instance tz_group : TZ Tryd.prog 79 [] := ⟨_, _, rfl, rfl, rfl, by simp⟩
set_option maxRecDepth 100000 in
instance tn_group : TN Tryd.prog 79 0 := ⟨by kernel_rfl⟩
set_option maxRecDepth 100000 in
instance tz_bytes : TZ Tryd.prog 90 [] := ⟨_, _, rfl, rfl, rfl, by simp⟩
set_option maxRecDepth 100000 in
instance tn_bytes : TN Tryd.prog 90 0 := ⟨by kernel_rfl⟩
set_option maxRecDepth 100000 in
instance tz_parts : TZ Tryd.prog 76 [.slice none 0 0] := ⟨_, _, rfl, rfl, rfl, by decide⟩
set_option maxRecDepth 100000 in
instance tn_parts : TN Tryd.prog 76 1 := ⟨by kernel_rfl⟩
set_option maxHeartbeats 8000000 in
theorem shapeOf_ac (x : Rul) : ACv Tryd.prog 37 [.agg (rulR x)] (shapeR x) := by
  refine ac_enter Tryd.func37 rfl _ Tryd.ntmps37 (by simp) fun C hn hm => ?_
  repeat' (first
 | refine RunsL.step tabOk hn rfl ?_
 | refine RunsL.nil ?_
 | refine Runs.toRegion 30 rfl ?_
 | (refine RunsL.pe hn rfl rfl rfl ?_; first
 | refine ⟨_, pu_buildS rfl, ?_⟩
 | refine ⟨_, pu_makeIfc rfl, ?_⟩)
 | (refine Runs.ctls 30 rfl ?_; first | ((first | refine Runs.cond_yes rfl ?_ ?_ | refine Runs.cond_nno rfl ?_ ?_); · first | omega | rfl | assumption | (simp only [List.length_map]; omega)) | ((first | refine Runs.cond_no rfl ?_ ?_ | refine Runs.cond_nyes rfl ?_ ?_); · first | omega | rfl | assumption | (simp only [List.length_map]; omega)) | refine Runs.cond_dec rfl (fun h => ?_) (fun h => ?_) | refine Runs.ret (ends_ro hm rfl rfl ?_) | exact Runs.ret (ends_cellR hm rfl rfl rfl (Nat.le_of_ble_eq_true rfl) rfl rfl))
 | refine op_box rfl (tl hn rfl) ?_
    )
  all_goals exact rr_ro (by unfold shapeR; simp [*]; try rfl)
set_option maxHeartbeats 8000000 in
theorem l10List_ac (d : Des) (x : Rul) (hk : KindOk d x) (v : Tre) (hv : v.Ok) (ss : List ByteArray) (hl : ss.length = v.items.length) (hi : x.kind = 6 → v.items.length ≤ x.names.length) (hsz : ((partsT x ss).map fun s => s.size + 1).sum ≤ 4398046511104)
    (IH : ∀ (i : Nat) y s, v.items[i]? = some y → ss[i]? = some s → ACv Tryd.prog 16 [desR d, .int (itemR x v.number (i : Int)), treR y] (.str s)) :
    ACv Tryd.prog 28 [desR d, .agg (rulR x), treR v] (.str (joinT (partsT x ss) sComma)) := by
  obtain ⟨o1, o2, o3, o4⟩ := hv.out
  have o3' := o3
  unfold maxLen at o3'
  have hlv : (v.items.map Tre.cells).length = v.items.length := List.length_map ..
  have hpl := partsT_len x ss
  refine ac_enter Tryd.func28 rfl _ Tryd.ntmps28 (by simp) fun C hn hm => ?_
  repeat' (first
 | ((first | refine RunsL.pe hn rfl rfl rfl ?_ | refine RunsD.pe rfl rfl ?_); first
 | refine ⟨_, pu_len_seqN v.items.length rfl hlv, ?_⟩)
 | refine RunsL.step tabOk hn rfl ?_
 | refine RunsL.nil ?_
 | refine Runs.toRegion 30 rfl ?_
 | (refine Runs.ctls 30 rfl ?_; first | refine Runs.cond_f rfl ?_ | ((first | refine Runs.cond_yes rfl ?_ ?_ | refine Runs.cond_nno rfl ?_ ?_); · first | omega | rfl | assumption | (simp only [List.length_map]; omega)) | ((first | refine Runs.cond_no rfl ?_ ?_ | refine Runs.cond_nyes rfl ?_ ?_); · first | omega | rfl | assumption | (simp only [List.length_map]; omega)) | refine Runs.ret (ends_ro hm rfl rfl ?_) | exact Runs.ret (ends_cellR hm rfl rfl rfl (Nat.le_of_ble_eq_true rfl) rfl rfl))
 | refine op_box rfl (tl hn rfl) ?_
 | refine RunsD.step tabOk hn rfl rfl ?_
 | refine RunsD.nil ?_
 | refine Runs.toDraw 30 mixed hn rfl (by kernel_rfl) rfl ?_
 | ((first | refine RunsL.pe hn rfl rfl rfl ?_ | refine RunsD.pe rfl rfl ?_); first
 | refine ⟨_, pu_add rfl rfl (by omega), ?_⟩
 | refine ⟨_, pu_indexAddr_map rfl rfl (by omega) (by assumption), ?_⟩
 | refine ⟨_, pu_sub rfl rfl (by omega), ?_⟩
 | refine ⟨_, pu_pick_b rfl rfl rfl, ?_⟩
 | refine ⟨_, pu_mul rfl rfl (by omega), ?_⟩
 | refine ⟨_, pu_build rfl rfl rfl rfl rfl rfl, ?_⟩))
  refine Runs.loopN 30 rfl (fun j => [(3, .obj 0 0), (4, .obj 1 0), (5, .obj 2 0), (7, .str (joinT ((partsT x ss).take j) sComma)), (8, .int (j : Int))]) (fun _ => [⟨34, 0, [.ro (rulsR d)]⟩, ⟨61, 0, (rulR x).map .ro⟩, ⟨38, 0, [.int v.number, .ro (bytesR v.bytes), .ro (tresR v.items)]⟩]) (fun _ => True) v.items.length 0 (Nat.zero_le _) trivial ⟨rfl, rfl, rfl, rfl, rfl, trivial⟩ rfl fun j hj _ next => ?_
  by_cases hlt : j < v.items.length
  · obtain ⟨y, hy⟩ : ∃ y, v.items[(j : Int).toNat]? = some y := ⟨_, List.getElem?_eq_getElem hlt⟩
    have hy' : v.items[j]? = some y := hy
    have hs : ss[j]? = some (ss[j]'(by omega)) := List.getElem?_eq_getElem _
    generalize ss[j]'(by omega) = s at hs
    have c44 : (⟨#[44]⟩ : ByteArray).size = 1 := rfl
    have c58 : (⟨#[58]⟩ : ByteArray).size = 1 := rfl
    have k44 : sComma.size = 1 := rfl
    have k58 : sColon.size = 1 := rfl
    have hI := l9Item_ac hk v.number (j : Int) (by omega)
    have hc := IH j y s hy' hs
    have hn1 := joinT_next (sep := sComma) (partsT_at (x := x) hs)
    have hs1 := joinT_size ((partsT x ss).take j) sComma
    have hs2 := joinT_size ((partsT x ss).take (j + 1)) sComma
    have hs3 := sum_take_size _ j _ hsz
    have hs4 := sum_take_size _ (j + 1) _ hsz
    rw [k44] at hs1 hs2
    by_cases k6 : x.kind = 6
    · obtain ⟨nm, hnm⟩ : ∃ nm, x.names[(j : Int).toNat]? = some nm := ⟨_, List.getElem?_eq_getElem (by have := hi k6; simp; omega)⟩
      have hpt : partT x j s = (nm ++ sColon) ++ s := by
        unfold partT
        rw [if_pos k6, show x.names[j]? = some nm from hnm]; rfl
      rw [hpt] at hn1
      have e1 := cat_size nm sColon
      by_cases j0 : j = 0
      · subst j0
        rw [if_pos rfl] at hn1
        simp only [Nat.zero_add] at hs2 hs4 hn1
        have hn2 := congrArg ByteArray.size hn1
        try simp only [cat_size, k44, k58] at hn2
        repeat' (first
 | ((first | refine RunsL.pe hn rfl rfl rfl ?_ | refine RunsD.pe rfl rfl ?_); first
 | refine ⟨_, pu_len_seqN v.items.length rfl hlv, ?_⟩)
 | refine RunsL.step tabOk hn rfl ?_
 | refine RunsL.nil ?_
 | refine Runs.toRegion 30 rfl ?_
 | ((first | refine RunsL.pe hn rfl rfl rfl ?_ | refine RunsD.pe rfl rfl ?_); first
 | refine ⟨_, pu_callR hI rfl, ?_⟩
 | refine ⟨_, pu_callR hc rfl, ?_⟩
 | refine ⟨_, pu_loadN_eq rfl (Tre.cells_eq _) rfl, ?_⟩
 | refine ⟨_, pu_cat rfl rfl (by first | omega | (simp only [cat_size, c44, c58]; omega)), ?_⟩)
 | (refine Runs.ctls 30 rfl ?_; first | refine Runs.cond_f rfl ?_ | ((first | refine Runs.cond_yes rfl ?_ ?_ | refine Runs.cond_nno rfl ?_ ?_); · first | omega | rfl | assumption | (simp only [List.length_map]; omega)) | ((first | refine Runs.cond_no rfl ?_ ?_ | refine Runs.cond_nyes rfl ?_ ?_); · first | omega | rfl | assumption | (simp only [List.length_map]; omega)) | refine Runs.ret (ends_ro hm rfl rfl ?_) | exact Runs.ret (ends_cellR hm rfl rfl rfl (Nat.le_of_ble_eq_true rfl) rfl rfl))
 | refine op_box rfl (tl hn rfl) ?_
 | refine RunsD.step tabOk hn rfl rfl ?_
 | refine RunsD.nil ?_
 | refine Runs.toDraw 30 mixed hn rfl (by kernel_rfl) rfl ?_
 | ((first | refine RunsL.pe hn rfl rfl rfl ?_ | refine RunsD.pe rfl rfl ?_); first
 | refine ⟨_, pu_add rfl rfl (by omega), ?_⟩
 | refine ⟨_, pu_indexAddr_map rfl rfl (by omega) (by assumption), ?_⟩
 | refine ⟨_, pu_sub rfl rfl (by omega), ?_⟩
 | refine ⟨_, pu_pick_b rfl rfl rfl, ?_⟩
 | refine ⟨_, pu_mul rfl rfl (by omega), ?_⟩
 | refine ⟨_, pu_build rfl rfl rfl rfl rfl rfl, ?_⟩))
        refine next _ _ ?_ hlt trivial rfl
        refine ⟨rfl, rfl, rfl, av_str ?_, rfl, trivial⟩
        rw [Nat.zero_add, hn1]
        apply ByteArray.ext
        simp [sComma, sColon, joinT_nil]
      · rw [if_neg j0] at hn1
        have hn2 := congrArg ByteArray.size hn1
        try simp only [cat_size, k44, k58] at hn2
        repeat' (first
 | ((first | refine RunsL.pe hn rfl rfl rfl ?_ | refine RunsD.pe rfl rfl ?_); first
 | refine ⟨_, pu_len_seqN v.items.length rfl hlv, ?_⟩)
 | refine RunsL.step tabOk hn rfl ?_
 | refine RunsL.nil ?_
 | refine Runs.toRegion 30 rfl ?_
 | ((first | refine RunsL.pe hn rfl rfl rfl ?_ | refine RunsD.pe rfl rfl ?_); first
 | refine ⟨_, pu_callR hI rfl, ?_⟩
 | refine ⟨_, pu_callR hc rfl, ?_⟩
 | refine ⟨_, pu_loadN_eq rfl (Tre.cells_eq _) rfl, ?_⟩
 | refine ⟨_, pu_cat rfl rfl (by first | omega | (simp only [cat_size, c44, c58]; omega)), ?_⟩)
 | (refine Runs.ctls 30 rfl ?_; first | refine Runs.cond_f rfl ?_ | ((first | refine Runs.cond_yes rfl ?_ ?_ | refine Runs.cond_nno rfl ?_ ?_); · first | omega | rfl | assumption | (simp only [List.length_map]; omega)) | ((first | refine Runs.cond_no rfl ?_ ?_ | refine Runs.cond_nyes rfl ?_ ?_); · first | omega | rfl | assumption | (simp only [List.length_map]; omega)) | refine Runs.ret (ends_ro hm rfl rfl ?_) | exact Runs.ret (ends_cellR hm rfl rfl rfl (Nat.le_of_ble_eq_true rfl) rfl rfl))
 | refine op_box rfl (tl hn rfl) ?_
 | refine RunsD.step tabOk hn rfl rfl ?_
 | refine RunsD.nil ?_
 | refine Runs.toDraw 30 mixed hn rfl (by kernel_rfl) rfl ?_
 | ((first | refine RunsL.pe hn rfl rfl rfl ?_ | refine RunsD.pe rfl rfl ?_); first
 | refine ⟨_, pu_add rfl rfl (by omega), ?_⟩
 | refine ⟨_, pu_indexAddr_map rfl rfl (by omega) (by assumption), ?_⟩
 | refine ⟨_, pu_sub rfl rfl (by omega), ?_⟩
 | refine ⟨_, pu_pick_b rfl rfl rfl, ?_⟩
 | refine ⟨_, pu_mul rfl rfl (by omega), ?_⟩
 | refine ⟨_, pu_build rfl rfl rfl rfl rfl rfl, ?_⟩))
        refine next _ _ ?_ hlt trivial rfl
        refine ⟨rfl, rfl, rfl, av_str ?_, rfl, trivial⟩
        rw [hn1]
        apply ByteArray.ext
        simp [sComma, sColon, joinT_nil]
    · have hpt : partT x j s = s := by unfold partT; rw [if_neg k6]
      rw [hpt] at hn1
      by_cases j0 : j = 0
      · subst j0
        rw [if_pos rfl] at hn1
        simp only [Nat.zero_add] at hs2 hs4 hn1
        have hn2 := congrArg ByteArray.size hn1
        try simp only [cat_size, k44, k58] at hn2
        repeat' (first
 | ((first | refine RunsL.pe hn rfl rfl rfl ?_ | refine RunsD.pe rfl rfl ?_); first
 | refine ⟨_, pu_len_seqN v.items.length rfl hlv, ?_⟩)
 | refine RunsL.step tabOk hn rfl ?_
 | refine RunsL.nil ?_
 | refine Runs.toRegion 30 rfl ?_
 | ((first | refine RunsL.pe hn rfl rfl rfl ?_ | refine RunsD.pe rfl rfl ?_); first
 | refine ⟨_, pu_callR hI rfl, ?_⟩
 | refine ⟨_, pu_callR hc rfl, ?_⟩
 | refine ⟨_, pu_loadN_eq rfl (Tre.cells_eq _) rfl, ?_⟩
 | refine ⟨_, pu_cat rfl rfl (by first | omega | (simp only [cat_size, c44, c58]; omega)), ?_⟩)
 | (refine Runs.ctls 30 rfl ?_; first | refine Runs.cond_f rfl ?_ | ((first | refine Runs.cond_yes rfl ?_ ?_ | refine Runs.cond_nno rfl ?_ ?_); · first | omega | rfl | assumption | (simp only [List.length_map]; omega)) | ((first | refine Runs.cond_no rfl ?_ ?_ | refine Runs.cond_nyes rfl ?_ ?_); · first | omega | rfl | assumption | (simp only [List.length_map]; omega)) | refine Runs.ret (ends_ro hm rfl rfl ?_) | exact Runs.ret (ends_cellR hm rfl rfl rfl (Nat.le_of_ble_eq_true rfl) rfl rfl))
 | refine op_box rfl (tl hn rfl) ?_
 | refine RunsD.step tabOk hn rfl rfl ?_
 | refine RunsD.nil ?_
 | refine Runs.toDraw 30 mixed hn rfl (by kernel_rfl) rfl ?_
 | ((first | refine RunsL.pe hn rfl rfl rfl ?_ | refine RunsD.pe rfl rfl ?_); first
 | refine ⟨_, pu_add rfl rfl (by omega), ?_⟩
 | refine ⟨_, pu_indexAddr_map rfl rfl (by omega) (by assumption), ?_⟩
 | refine ⟨_, pu_sub rfl rfl (by omega), ?_⟩
 | refine ⟨_, pu_pick_b rfl rfl rfl, ?_⟩
 | refine ⟨_, pu_mul rfl rfl (by omega), ?_⟩
 | refine ⟨_, pu_build rfl rfl rfl rfl rfl rfl, ?_⟩))
        refine next _ _ ?_ hlt trivial rfl
        refine ⟨rfl, rfl, rfl, av_str ?_, rfl, trivial⟩
        rw [Nat.zero_add, hn1]
        apply ByteArray.ext
        simp [sComma, sColon, joinT_nil]
      · rw [if_neg j0] at hn1
        have hn2 := congrArg ByteArray.size hn1
        try simp only [cat_size, k44, k58] at hn2
        repeat' (first
 | ((first | refine RunsL.pe hn rfl rfl rfl ?_ | refine RunsD.pe rfl rfl ?_); first
 | refine ⟨_, pu_len_seqN v.items.length rfl hlv, ?_⟩)
 | refine RunsL.step tabOk hn rfl ?_
 | refine RunsL.nil ?_
 | refine Runs.toRegion 30 rfl ?_
 | ((first | refine RunsL.pe hn rfl rfl rfl ?_ | refine RunsD.pe rfl rfl ?_); first
 | refine ⟨_, pu_callR hI rfl, ?_⟩
 | refine ⟨_, pu_callR hc rfl, ?_⟩
 | refine ⟨_, pu_loadN_eq rfl (Tre.cells_eq _) rfl, ?_⟩
 | refine ⟨_, pu_cat rfl rfl (by first | omega | (simp only [cat_size, c44, c58]; omega)), ?_⟩)
 | (refine Runs.ctls 30 rfl ?_; first | refine Runs.cond_f rfl ?_ | ((first | refine Runs.cond_yes rfl ?_ ?_ | refine Runs.cond_nno rfl ?_ ?_); · first | omega | rfl | assumption | (simp only [List.length_map]; omega)) | ((first | refine Runs.cond_no rfl ?_ ?_ | refine Runs.cond_nyes rfl ?_ ?_); · first | omega | rfl | assumption | (simp only [List.length_map]; omega)) | refine Runs.ret (ends_ro hm rfl rfl ?_) | exact Runs.ret (ends_cellR hm rfl rfl rfl (Nat.le_of_ble_eq_true rfl) rfl rfl))
 | refine op_box rfl (tl hn rfl) ?_
 | refine RunsD.step tabOk hn rfl rfl ?_
 | refine RunsD.nil ?_
 | refine Runs.toDraw 30 mixed hn rfl (by kernel_rfl) rfl ?_
 | ((first | refine RunsL.pe hn rfl rfl rfl ?_ | refine RunsD.pe rfl rfl ?_); first
 | refine ⟨_, pu_add rfl rfl (by omega), ?_⟩
 | refine ⟨_, pu_indexAddr_map rfl rfl (by omega) (by assumption), ?_⟩
 | refine ⟨_, pu_sub rfl rfl (by omega), ?_⟩
 | refine ⟨_, pu_pick_b rfl rfl rfl, ?_⟩
 | refine ⟨_, pu_mul rfl rfl (by omega), ?_⟩
 | refine ⟨_, pu_build rfl rfl rfl rfl rfl rfl, ?_⟩))
        refine next _ _ ?_ hlt trivial rfl
        refine ⟨rfl, rfl, rfl, av_str ?_, rfl, trivial⟩
        rw [hn1]
        apply ByteArray.ext
        simp [sComma, sColon, joinT_nil]
  · obtain rfl : j = v.items.length := by omega
    repeat' (first
 | ((first | refine RunsL.pe hn rfl rfl rfl ?_ | refine RunsD.pe rfl rfl ?_); first
 | refine ⟨_, pu_len_seqN v.items.length rfl hlv, ?_⟩)
 | refine RunsL.step tabOk hn rfl ?_
 | refine RunsL.nil ?_
 | refine Runs.toRegion 30 rfl ?_
 | (refine Runs.ctls 30 rfl ?_; first | refine Runs.cond_f rfl ?_ | ((first | refine Runs.cond_yes rfl ?_ ?_ | refine Runs.cond_nno rfl ?_ ?_); · first | omega | rfl | assumption | (simp only [List.length_map]; omega)) | ((first | refine Runs.cond_no rfl ?_ ?_ | refine Runs.cond_nyes rfl ?_ ?_); · first | omega | rfl | assumption | (simp only [List.length_map]; omega)) | refine Runs.ret (ends_ro hm rfl rfl ?_) | exact Runs.ret (ends_cellR hm rfl rfl rfl (Nat.le_of_ble_eq_true rfl) rfl rfl))
 | refine op_box rfl (tl hn rfl) ?_
 | refine RunsD.step tabOk hn rfl rfl ?_
 | refine RunsD.nil ?_
 | refine Runs.toDraw 30 mixed hn rfl (by kernel_rfl) rfl ?_
 | ((first | refine RunsL.pe hn rfl rfl rfl ?_ | refine RunsD.pe rfl rfl ?_); first
 | refine ⟨_, pu_add rfl rfl (by omega), ?_⟩
 | refine ⟨_, pu_indexAddr_map rfl rfl (by omega) (by assumption), ?_⟩
 | refine ⟨_, pu_sub rfl rfl (by omega), ?_⟩
 | refine ⟨_, pu_pick_b rfl rfl rfl, ?_⟩
 | refine ⟨_, pu_mul rfl rfl (by omega), ?_⟩
 | refine ⟨_, pu_build rfl rfl rfl rfl rfl rfl, ?_⟩))
    exact rr_ro (by rw [List.take_of_length_le (by omega)])
set_option maxHeartbeats 8000000 in
theorem item_act (d : Des) (hdl : d.length ≤ maxLen) (r : Nat) (x : Rul) (hx : d[(r : Int).toNat]? = some x) (hk : KindOk d x) (v : Tre) (hv : v.Ok) (i : Nat) (y : Tre) (hy : v.items[(i : Int).toNat]? = some y) (s : ByteArray)
    (h : ACtv TabT Tryd.prog 21 [desR d, .int (itemR x v.number (i : Int)), .rp y.cells] (.str s)) :
    ACtv TabT Tryd.prog 35 [.int (i : Int), .rp [rulsR d], .rp [.int (r : Int)], .rp [.rp [.int v.number, bytesR v.bytes, tresR v.items]]] (.str s) := by
  obtain ⟨o1, o2, o3, o4⟩ := hv.out
  have hlv : (v.items.map Tre.cells).length = v.items.length := List.length_map ..
  have hI := childRule_ac hdl hx hk v.number (bytesR v.bytes) (tresR v.items) (i : Int) (by omega)
  refine act_enter tabT_lasts Tryd.func35 rfl _ Tryd.ntmps35 (by simp) fun C hn hm hb => ?_
  repeat' (first
 | refine RunsL.step tabOk hn rfl ?_
 | refine RunsL.nil ?_
 | refine Runs.toRegion 30 rfl ?_
 | ((first | refine RunsL.pe hn rfl rfl rfl ?_ | refine RunsD.pe rfl rfl ?_); first
 | refine ⟨_, pu_callR hI rfl, ?_⟩
 | refine ⟨_, pu_callW hb h rfl, ?_⟩
 | refine ⟨_, pu_nilCheck rfl, ?_⟩)
 | (refine Runs.ctls 30 rfl ?_; first | ((first | refine Runs.cond_yes rfl ?_ ?_ | refine Runs.cond_nno rfl ?_ ?_); · first | omega | rfl | assumption | (simp only [List.length_map]; omega)) | ((first | refine Runs.cond_no rfl ?_ ?_ | refine Runs.cond_nyes rfl ?_ ?_); · first | omega | rfl | assumption | (simp only [List.length_map]; omega)) | refine Runs.ret (ends_ro hm rfl rfl ?_) | exact Runs.ret (ends_cellR hm rfl rfl rfl (Nat.le_of_ble_eq_true rfl) rfl rfl))
 | refine RunsD.step tabOk hn rfl rfl ?_
 | refine RunsD.nil ?_
 | refine Runs.toDraw 30 mixed hn rfl (by kernel_rfl) rfl ?_
 | ((first | refine RunsL.pe hn rfl rfl rfl ?_ | refine RunsD.pe rfl rfl ?_); first
 | refine ⟨_, pu_add rfl rfl (by omega), ?_⟩
 | refine ⟨_, pu_indexAddr_map rfl rfl (by omega) (by assumption), ?_⟩
 | refine ⟨_, pu_sub rfl rfl (by omega), ?_⟩
 | refine ⟨_, pu_pick_b rfl rfl rfl, ?_⟩
 | refine ⟨_, pu_mul rfl rfl (by omega), ?_⟩
 | refine ⟨_, pu_build rfl rfl rfl rfl rfl rfl, ?_⟩))
  exact rr_ro rfl
end Go.Proofs.YtkmoffefhlmgeaaDoor
/- Values as texts: a value, both sides. -/
namespace Go.Proofs.YtkmoffefhlmgeaaDoor
set_option linter.unusedSimpArgs false
set_option linter.unusedVariables false
set_option linter.unusedSectionVars false
set_option maxRecDepth 100000
open Go.RowKit
open AV (Mem Keeps)
def textT (x : Rul) (v : Tre) (ss : List ByteArray) : ByteArray :=
  if x.kind = 1 then fmtI v.number else if x.kind = 2 then ⟨#[33]⟩
  else if x.kind = 5 then ((⟨#[91]⟩ : ByteArray) ++ joinT (partsT x ss) sComma) ++ ⟨#[93]⟩
  else if x.kind = 6 then ((⟨#[123]⟩ : ByteArray) ++ joinT (partsT x ss) sComma) ++ ⟨#[125]⟩
  else if x.kind = 7 then ((fmtI v.number ++ ⟨#[60]⟩) ++ joinT (partsT x ss) sComma) ++ ⟨#[62]⟩
  else if x.kind = 8 then (if (v.items.length : Int) = 0 then ⟨#[45]⟩ else (⟨#[63]⟩ : ByteArray) ++ joinT (partsT x ss) sComma)
  else if x.kind = 9 then ((⟨#[40]⟩ : ByteArray) ++ joinT (partsT x ss) sComma) ++ ⟨#[41]⟩
  else (⟨#[120]⟩ : ByteArray) ++ hexT v.bytes
theorem joinT_parts (x : Rul) (ss : List ByteArray) (n : Nat) (h : ((partsT x ss).map fun s => s.size + 1).sum ≤ n) : (joinT (partsT x ss) sComma).size ≤ n := by
  have := joinT_size (partsT x ss) sComma
  rw [show sComma.size = 1 from rfl] at this
  omega
set_option maxHeartbeats 16000000 in
theorem l10Text_ac {d : Des} (hl' : d.length ≤ 1048576) {r : Nat} {x : Rul} (hx : d[(r : Int).toNat]? = some x) (hk : KindOk d x) (v : Tre) (hv : v.Ok) (hb : v.bytes.length ≤ 1048576) (ss : List ByteArray) (hl : ss.length = v.items.length) (hi : x.kind = 6 → v.items.length ≤ x.names.length) (hsz : ((partsT x ss).map fun s => s.size + 1).sum ≤ 4398046511104)
    (IH : ∀ (i : Nat) y s, v.items[i]? = some y → ss[i]? = some s → ACv Tryd.prog 16 [desR d, .int (itemR x v.number (i : Int)), treR y] (.str s)) :
    ACv Tryd.prog 16 [desR d, .int (r : Int), treR v] (.str (textT x v ss)) := by
  obtain ⟨o1, o2, o3, o4⟩ := hv.out
  unfold maxLen at o3
  have hlm : (d.map rulR).length = d.length := List.length_map ..
  have hlv : (v.items.map Tre.cells).length = v.items.length := List.length_map ..
  have hL := l10List_ac d x hk v hv ss hl hi hsz IH
  have hj := joinT_parts x ss _ hsz
  have hF := spec_FormatInt v.number o1
  have hH := spec_FormatHex v.bytes hb
  have hN := spec_FormatNumberText v.number o1 ⟨#[60]⟩ (joinT (partsT x ss) sComma) ⟨#[62]⟩ (by decide) (by omega) (by decide)
  have hhx := hexT_size v.bytes
  have c91 : (⟨#[91]⟩ : ByteArray).size = 1 := rfl
  have c93 : (⟨#[93]⟩ : ByteArray).size = 1 := rfl
  have c123 : (⟨#[123]⟩ : ByteArray).size = 1 := rfl
  have c125 : (⟨#[125]⟩ : ByteArray).size = 1 := rfl
  have c63 : (⟨#[63]⟩ : ByteArray).size = 1 := rfl
  have c40 : (⟨#[40]⟩ : ByteArray).size = 1 := rfl
  have c41 : (⟨#[41]⟩ : ByteArray).size = 1 := rfl
  have c120 : (⟨#[120]⟩ : ByteArray).size = 1 := rfl
  refine ac_enter Tryd.func16 rfl _ Tryd.ntmps16 (by simp) fun C hn hm => ?_
  repeat' (first
 | (refine RunsL.pe hn rfl rfl rfl ?_; first
 | refine ⟨_, pu_len_seqN v.items.length rfl hlv, ?_⟩)
 | refine RunsL.step tabOk hn rfl ?_
 | refine RunsL.nil ?_
 | refine Runs.toRegion 30 rfl ?_
 | (refine RunsL.pe hn rfl rfl rfl ?_; first
 | refine ⟨_, pu_callR hL rfl, ?_⟩
 | refine ⟨_, pu_callR hF rfl, ?_⟩
 | refine ⟨_, pu_callR hH rfl, ?_⟩
 | refine ⟨_, pu_callR hN rfl, ?_⟩
 | refine ⟨_, pu_cat rfl rfl (by first | omega | (simp only [cat_size, c91, c93, c123, c125, c63, c40, c41, c120]; omega)), ?_⟩)
 | (refine Runs.ctls 30 rfl ?_; first | ((first | refine Runs.cond_yes rfl ?_ ?_ | refine Runs.cond_nno rfl ?_ ?_); · first | omega | rfl | assumption | (simp only [List.length_map]; omega)) | ((first | refine Runs.cond_no rfl ?_ ?_ | refine Runs.cond_nyes rfl ?_ ?_); · first | omega | rfl | assumption | (simp only [List.length_map]; omega)) | refine Runs.cond_dec rfl (fun h => ?_) (fun h => ?_) | refine Runs.ret (ends_ro hm rfl rfl ?_) | exact Runs.ret (ends_cellR hm rfl rfl rfl (Nat.le_of_ble_eq_true rfl) rfl rfl))
 | refine op_box rfl (tl hn rfl) ?_
 | refine op_alloc (tl hn rfl) ?_
 | refine op_storeN rfl rfl rfl rfl (Nat.le_of_ble_eq_true rfl) ?_
 | (refine RunsL.pe hn rfl rfl rfl ?_; first
 | refine ⟨_, pu_indexAddr_map rfl rfl (by omega) (by assumption), ?_⟩
      ))
  all_goals exact rr_ro (congrArg RV.str (by unfold textT; first | (simp only [*, if_true, if_false]; done) | (simp only [*, if_true, if_false]; rfl) | (simp [*]; done) | (simp [*]; rfl)))
theorem strs_flats : ∀ l : List ByteArray, (l.map fun z => [RV.str z]).flatten = l.map RV.str := fun l => by induction l <;> simp_all
section
variable {d : Des} (hl' : d.length ≤ 1048576) {r : Nat} {x : Rul} (hx : d[(r : Int).toNat]? = some x) (hk : KindOk d x) (v : Tre) (hv : v.Ok) (hbl : v.bytes.length ≤ 1048576) (hil : v.items.length ≤ 1048576) (ss : List ByteArray) (hl : ss.length = v.items.length) (hsz : ((partsT x ss).map fun s => s.size + 1).sum ≤ 4398046511104)
    (IH : ∀ (i : Nat) y s, v.items[i]? = some y → ss[i]? = some s → ACtv TabT Tryd.prog 21 [desR d, .int (itemR x v.number (i : Int)), .rp y.cells] (.str s))
include hl' hx hk hv hbl hil hl hsz IH
set_option maxHeartbeats 16000000 in
theorem vtext_leaf (k : x.kind = 1 ∨ x.kind = 2 ∨ x.kind = 3 ∨ x.kind = 4 ∨ x.kind = 10) : ACtv TabT Tryd.prog 21 [desR d, .int (r : Int), .rp v.cells] (.str (textT x v ss)) := by
  obtain ⟨o1, o2, o3, o4⟩ := hv.out
  have hlm : (d.map rulR).length = d.length := List.length_map ..
  have hS := shapeOf_ac x
  have hF := impl_FormatInt v.number o1
  have hH := impl_FormatHex v.bytes hbl
  have hhx := hexT_size v.bytes
  have c120 : (⟨#[120]⟩ : ByteArray).size = 1 := rfl
  rw [Tre.cells_eq]
  rcases (show x.kind = 1 ∨ x.kind = 2 ∨ (x.kind = 3 ∨ x.kind = 4 ∨ x.kind = 10) by omega) with k | k | k
  · rw [show shapeR x = .ifc 71 (.agg []) by unfold shapeR; rw [if_pos k]] at hS
    rw [show textT x v ss = fmtI v.number by unfold textT; rw [if_pos k]]
    refine act_enter tabT_lasts Tryd.func21 rfl _ Tryd.ntmps21 (by simp) fun C hn hm hb => ?_
    repeat' (first
 | refine op_alloc (tl hn rfl) ?_
 | refine op_storeN (n := 0) (vs := []) rfl rfl rfl rfl (Nat.le_refl _) ?_
 | refine RunsL.step tabOk hn rfl ?_
 | refine RunsL.nil ?_
 | refine Runs.toRegion 30 rfl ?_
 | ((first | refine RunsL.pe hn rfl rfl rfl ?_ | refine RunsD.pe rfl rfl ?_); first
 | refine ⟨_, pu_makeFunc, ?_⟩
 | refine ⟨_, pu_callR hS rfl, ?_⟩
 | refine ⟨_, pu_tsHit rfl, ?_⟩
 | refine ⟨_, pu_tsMiss rfl rfl, ?_⟩
 | refine ⟨_, pu_nilCheck rfl, ?_⟩
 | refine ⟨_, pu_callW (r := .str (fmtI v.number)) hb hF rfl, ?_⟩)
 | (refine Runs.ctls 30 rfl ?_; first | refine Runs.cond_t rfl ?_ | refine Runs.cond_f rfl ?_ | ((first | refine Runs.cond_yes rfl ?_ ?_ | refine Runs.cond_nno rfl ?_ ?_); · first | omega | rfl | assumption | (simp only [List.length_map]; omega)) | ((first | refine Runs.cond_no rfl ?_ ?_ | refine Runs.cond_nyes rfl ?_ ?_); · first | omega | rfl | assumption | (simp only [List.length_map]; omega)) | refine Runs.ret (ends_ro hm rfl rfl ?_) | exact Runs.ret (ends_cellR hm rfl rfl rfl (Nat.le_of_ble_eq_true rfl) rfl rfl))
 | refine op_box rfl (tl hn rfl) ?_
 | refine op_alloc (tl hn rfl) ?_
 | refine op_storeN rfl rfl rfl rfl (Nat.le_of_ble_eq_true rfl) ?_
 | ((first | refine RunsL.pe hn rfl rfl rfl ?_ | refine RunsD.pe rfl rfl ?_); first
 | refine ⟨_, pu_add rfl rfl (by omega), ?_⟩
 | refine ⟨_, pu_indexAddr_map rfl rfl (by omega) (by assumption), ?_⟩
 | refine ⟨_, pu_sub rfl rfl (by omega), ?_⟩
 | refine ⟨_, pu_pick_b rfl rfl rfl, ?_⟩
 | refine ⟨_, pu_mul rfl rfl (by omega), ?_⟩
 | refine ⟨_, pu_build rfl rfl rfl rfl rfl rfl, ?_⟩))
    exact rr_ro rfl
  · rw [show shapeR x = .ifc 72 (.agg []) by unfold shapeR; rw [if_neg (by omega), if_pos k]] at hS
    rw [show textT x v ss = ⟨#[33]⟩ by unfold textT; rw [if_neg (by omega), if_pos k]]
    refine act_enter tabT_lasts Tryd.func21 rfl _ Tryd.ntmps21 (by simp) fun C hn hm hb => ?_
    repeat' (first
 | refine op_alloc (tl hn rfl) ?_
 | refine op_storeN (n := 0) (vs := []) rfl rfl rfl rfl (Nat.le_refl _) ?_
 | refine RunsL.step tabOk hn rfl ?_
 | refine RunsL.nil ?_
 | refine Runs.toRegion 30 rfl ?_
 | ((first | refine RunsL.pe hn rfl rfl rfl ?_ | refine RunsD.pe rfl rfl ?_); first
 | refine ⟨_, pu_makeFunc, ?_⟩
 | refine ⟨_, pu_callR hS rfl, ?_⟩
 | refine ⟨_, pu_tsHit rfl, ?_⟩
 | refine ⟨_, pu_tsMiss rfl rfl, ?_⟩
 | refine ⟨_, pu_nilCheck rfl, ?_⟩)
 | (refine Runs.ctls 30 rfl ?_; first | refine Runs.cond_t rfl ?_ | refine Runs.cond_f rfl ?_ | ((first | refine Runs.cond_yes rfl ?_ ?_ | refine Runs.cond_nno rfl ?_ ?_); · first | omega | rfl | assumption | (simp only [List.length_map]; omega)) | ((first | refine Runs.cond_no rfl ?_ ?_ | refine Runs.cond_nyes rfl ?_ ?_); · first | omega | rfl | assumption | (simp only [List.length_map]; omega)) | refine Runs.ret (ends_ro hm rfl rfl ?_) | exact Runs.ret (ends_cellR hm rfl rfl rfl (Nat.le_of_ble_eq_true rfl) rfl rfl))
 | refine op_box rfl (tl hn rfl) ?_
 | refine op_alloc (tl hn rfl) ?_
 | refine op_storeN rfl rfl rfl rfl (Nat.le_of_ble_eq_true rfl) ?_
 | ((first | refine RunsL.pe hn rfl rfl rfl ?_ | refine RunsD.pe rfl rfl ?_); first
 | refine ⟨_, pu_add rfl rfl (by omega), ?_⟩
 | refine ⟨_, pu_indexAddr_map rfl rfl (by omega) (by assumption), ?_⟩
 | refine ⟨_, pu_sub rfl rfl (by omega), ?_⟩
 | refine ⟨_, pu_pick_b rfl rfl rfl, ?_⟩
 | refine ⟨_, pu_mul rfl rfl (by omega), ?_⟩
 | refine ⟨_, pu_build rfl rfl rfl rfl rfl rfl, ?_⟩))
    exact rr_ro rfl
  · rw [show shapeR x = .ifc 90 (.agg []) by unfold shapeR; rw [if_neg (by omega), if_neg (by omega), if_neg (by omega), if_neg (by omega), if_neg (by omega), if_neg (by omega), if_neg (by omega)]] at hS
    rw [show textT x v ss = (⟨#[120]⟩ : ByteArray) ++ hexT v.bytes by unfold textT; rw [if_neg (by omega), if_neg (by omega), if_neg (by omega), if_neg (by omega), if_neg (by omega), if_neg (by omega), if_neg (by omega)]]
    refine act_enter tabT_lasts Tryd.func21 rfl _ Tryd.ntmps21 (by simp) fun C hn hm hb => ?_
    repeat' (first
 | refine op_alloc (tl hn rfl) ?_
 | refine op_storeN (n := 0) (vs := []) rfl rfl rfl rfl (Nat.le_refl _) ?_
 | refine RunsL.step tabOk hn rfl ?_
 | refine RunsL.nil ?_
 | refine Runs.toRegion 30 rfl ?_
 | ((first | refine RunsL.pe hn rfl rfl rfl ?_ | refine RunsD.pe rfl rfl ?_); first
 | refine ⟨_, pu_makeFunc, ?_⟩
 | refine ⟨_, pu_callR hS rfl, ?_⟩
 | refine ⟨_, pu_tsHit rfl, ?_⟩
 | refine ⟨_, pu_tsMiss rfl rfl, ?_⟩
 | refine ⟨_, pu_nilCheck rfl, ?_⟩
 | refine ⟨_, pu_callR hH rfl, ?_⟩
 | refine ⟨_, pu_cat rfl rfl (by first | omega | (simp only [c120]; omega)), ?_⟩)
 | (refine Runs.ctls 30 rfl ?_; first | refine Runs.cond_t rfl ?_ | refine Runs.cond_f rfl ?_ | ((first | refine Runs.cond_yes rfl ?_ ?_ | refine Runs.cond_nno rfl ?_ ?_); · first | omega | rfl | assumption | (simp only [List.length_map]; omega)) | ((first | refine Runs.cond_no rfl ?_ ?_ | refine Runs.cond_nyes rfl ?_ ?_); · first | omega | rfl | assumption | (simp only [List.length_map]; omega)) | refine Runs.ret (ends_ro hm rfl rfl ?_) | exact Runs.ret (ends_cellR hm rfl rfl rfl (Nat.le_of_ble_eq_true rfl) rfl rfl))
 | refine op_box rfl (tl hn rfl) ?_
 | refine op_alloc (tl hn rfl) ?_
 | refine op_storeN rfl rfl rfl rfl (Nat.le_of_ble_eq_true rfl) ?_
 | ((first | refine RunsL.pe hn rfl rfl rfl ?_ | refine RunsD.pe rfl rfl ?_); first
 | refine ⟨_, pu_add rfl rfl (by omega), ?_⟩
 | refine ⟨_, pu_indexAddr_map rfl rfl (by omega) (by assumption), ?_⟩
 | refine ⟨_, pu_sub rfl rfl (by omega), ?_⟩
 | refine ⟨_, pu_pick_b rfl rfl rfl, ?_⟩
 | refine ⟨_, pu_mul rfl rfl (by omega), ?_⟩
 | refine ⟨_, pu_build rfl rfl rfl rfl rfl rfl, ?_⟩))
    exact rr_ro rfl
set_option maxHeartbeats 16000000 in
theorem vtext_one (k : x.kind = 7 ∨ x.kind = 8 ∨ x.kind = 9) (hn1 : x.kind = 7 ∨ x.kind = 9 → v.items.length = 1) (hn8 : v.items.length ≤ 1) : ACtv TabT Tryd.prog 21 [desR d, .int (r : Int), .rp v.cells] (.str (textT x v ss)) := by
  obtain ⟨o1, o2, o3, o4⟩ := hv.out
  have hlm : (d.map rulR).length = d.length := List.length_map ..
  have hlv : (v.items.map Tre.cells).length = v.items.length := List.length_map ..
  have hS := shapeOf_ac x
  have hp := partsT_id (x := x) (by omega) ss
  have hj := joinT_parts x ss _ hsz
  have c63 : (⟨#[63]⟩ : ByteArray).size = 1 := rfl
  have c40 : (⟨#[40]⟩ : ByteArray).size = 1 := rfl
  have c41 : (⟨#[41]⟩ : ByteArray).size = 1 := rfl
  have key : v.items.length = 1 → ∃ y s, v.items[((0 : Nat) : Int).toNat]? = some y ∧ joinT (partsT x ss) sComma = s ∧ ACtv TabT Tryd.prog 35 [.int 0, .rp [rulsR d], .rp [.int (r : Int)], .rp [.rp [.int v.number, bytesR v.bytes, tresR v.items]]] (.str s) := fun h1 => by
    obtain ⟨y, hy⟩ : ∃ y, v.items[0]? = some y := ⟨_, List.getElem?_eq_getElem (by omega)⟩
    obtain ⟨s, hs⟩ : ∃ s, ss[0]? = some s := ⟨_, List.getElem?_eq_getElem (by omega)⟩
    have e : ss = [s] := by
      cases ss with
      | nil => simp at hs
      | cons a r =>
        simp at hs; subst hs
        have : r = [] := List.eq_nil_of_length_eq_zero (by simp at hl; omega)
        rw [this]
    refine ⟨y, s, hy, by rw [hp, e, joinT_one], ?_⟩
    exact item_act d (by unfold maxLen; omega) r x hx hk v hv 0 y hy s (IH 0 y s hy hs)
  rw [Tre.cells_eq]
  rcases k with k | k | k
  · obtain ⟨y, s, hy, hs, hc⟩ := key (hn1 (.inl k))
    rw [hs] at hj
    have hN := impl_FormatNumberText v.number o1 ⟨#[60]⟩ s ⟨#[62]⟩ (by decide) (by omega) (by decide)
    rw [show shapeR x = .ifc 77 (.agg []) by unfold shapeR; rw [if_neg (by omega), if_neg (by omega), if_neg (by omega), if_neg (by omega), if_pos k]] at hS
    rw [show textT x v ss = ((fmtI v.number ++ ⟨#[60]⟩) ++ s) ++ ⟨#[62]⟩ by unfold textT; rw [if_neg (by omega), if_neg (by omega), if_neg (by omega), if_neg (by omega), if_pos k, hs]]
    refine act_enter tabT_lasts Tryd.func21 rfl _ Tryd.ntmps21 (by simp) fun C hn hm hb => ?_
    repeat' (first
 | refine op_alloc (tl hn rfl) ?_
 | refine op_storeN (n := 0) (vs := []) rfl rfl rfl rfl (Nat.le_refl _) ?_
 | refine RunsL.step tabOk hn rfl ?_
 | refine RunsL.nil ?_
 | refine Runs.toRegion 30 rfl ?_
 | ((first | refine RunsL.pe hn rfl rfl rfl ?_ | refine RunsD.pe rfl rfl ?_); first
 | refine ⟨_, pu_makeFunc, ?_⟩
 | refine ⟨_, pu_callR hS rfl, ?_⟩
 | refine ⟨_, pu_tsHit rfl, ?_⟩
 | refine ⟨_, pu_tsMiss rfl rfl, ?_⟩
 | refine ⟨_, pu_nilCheck rfl, ?_⟩
 | refine ⟨_, pu_callFW (cap := [.obj 0 0, .obj 1 0, .obj 2 0]) (first := []) hb rfl hc (.cons .ro (.cons (Lends.obj rfl (.cons .ro .nil)) (.cons (Lends.obj rfl (.cons .ro .nil)) (.cons (Lends.obj rfl (.cons .ro .nil)) .nil)))), ?_⟩
 | refine ⟨_, pu_callW hb hN rfl, ?_⟩)
 | (refine Runs.ctls 30 rfl ?_; first | refine Runs.cond_t rfl ?_ | refine Runs.cond_f rfl ?_ | ((first | refine Runs.cond_yes rfl ?_ ?_ | refine Runs.cond_nno rfl ?_ ?_); · first | omega | rfl | assumption | (simp only [List.length_map]; omega)) | ((first | refine Runs.cond_no rfl ?_ ?_ | refine Runs.cond_nyes rfl ?_ ?_); · first | omega | rfl | assumption | (simp only [List.length_map]; omega)) | refine Runs.ret (ends_ro hm rfl rfl ?_) | exact Runs.ret (ends_cellR hm rfl rfl rfl (Nat.le_of_ble_eq_true rfl) rfl rfl))
 | refine op_box rfl (tl hn rfl) ?_
 | refine op_alloc (tl hn rfl) ?_
 | refine op_storeN rfl rfl rfl rfl (Nat.le_of_ble_eq_true rfl) ?_
 | refine RunsD.step tabOk hn rfl rfl ?_
 | refine RunsD.nil ?_
 | refine Runs.toDraw 30 mixed hn rfl (by kernel_rfl) rfl ?_
 | ((first | refine RunsL.pe hn rfl rfl rfl ?_ | refine RunsD.pe rfl rfl ?_); first
 | refine ⟨_, pu_add rfl rfl (by omega), ?_⟩
 | refine ⟨_, pu_indexAddr_map rfl rfl (by omega) (by assumption), ?_⟩
 | refine ⟨_, pu_sub rfl rfl (by omega), ?_⟩
 | refine ⟨_, pu_pick_b rfl rfl rfl, ?_⟩
 | refine ⟨_, pu_mul rfl rfl (by omega), ?_⟩
 | refine ⟨_, pu_build rfl rfl rfl rfl rfl rfl, ?_⟩))
    exact rr_ro rfl
  · by_cases h0 : v.items.length = 0
    · rw [show shapeR x = .ifc 78 (.agg []) by unfold shapeR; rw [if_neg (by omega), if_neg (by omega), if_neg (by omega), if_neg (by omega), if_neg (by omega), if_pos k]] at hS
      rw [show textT x v ss = ⟨#[45]⟩ by unfold textT; rw [if_neg (by omega), if_neg (by omega), if_neg (by omega), if_neg (by omega), if_neg (by omega), if_pos k, if_pos (by omega)]]
      refine act_enter tabT_lasts Tryd.func21 rfl _ Tryd.ntmps21 (by simp) fun C hn hm hb => ?_
      repeat' (first
 | refine op_alloc (tl hn rfl) ?_
 | refine op_storeN (n := 0) (vs := []) rfl rfl rfl rfl (Nat.le_refl _) ?_
 | ((first | refine RunsL.pe hn rfl rfl rfl ?_ | refine RunsD.pe rfl rfl ?_); first
 | refine ⟨_, pu_len_seqN v.items.length rfl hlv, ?_⟩)
 | refine RunsL.step tabOk hn rfl ?_
 | refine RunsL.nil ?_
 | refine Runs.toRegion 30 rfl ?_
 | ((first | refine RunsL.pe hn rfl rfl rfl ?_ | refine RunsD.pe rfl rfl ?_); first
 | refine ⟨_, pu_makeFunc, ?_⟩
 | refine ⟨_, pu_callR hS rfl, ?_⟩
 | refine ⟨_, pu_tsHit rfl, ?_⟩
 | refine ⟨_, pu_tsMiss rfl rfl, ?_⟩
 | refine ⟨_, pu_nilCheck rfl, ?_⟩)
 | (refine Runs.ctls 30 rfl ?_; first | refine Runs.cond_t rfl ?_ | refine Runs.cond_f rfl ?_ | ((first | refine Runs.cond_yes rfl ?_ ?_ | refine Runs.cond_nno rfl ?_ ?_); · first | omega | rfl | assumption | (simp only [List.length_map]; omega)) | ((first | refine Runs.cond_no rfl ?_ ?_ | refine Runs.cond_nyes rfl ?_ ?_); · first | omega | rfl | assumption | (simp only [List.length_map]; omega)) | refine Runs.ret (ends_ro hm rfl rfl ?_) | exact Runs.ret (ends_cellR hm rfl rfl rfl (Nat.le_of_ble_eq_true rfl) rfl rfl))
 | refine op_box rfl (tl hn rfl) ?_
 | refine op_alloc (tl hn rfl) ?_
 | refine op_storeN rfl rfl rfl rfl (Nat.le_of_ble_eq_true rfl) ?_
 | refine RunsD.step tabOk hn rfl rfl ?_
 | refine RunsD.nil ?_
 | refine Runs.toDraw 30 mixed hn rfl (by kernel_rfl) rfl ?_
 | ((first | refine RunsL.pe hn rfl rfl rfl ?_ | refine RunsD.pe rfl rfl ?_); first
 | refine ⟨_, pu_add rfl rfl (by omega), ?_⟩
 | refine ⟨_, pu_indexAddr_map rfl rfl (by omega) (by assumption), ?_⟩
 | refine ⟨_, pu_sub rfl rfl (by omega), ?_⟩
 | refine ⟨_, pu_pick_b rfl rfl rfl, ?_⟩
 | refine ⟨_, pu_mul rfl rfl (by omega), ?_⟩
 | refine ⟨_, pu_build rfl rfl rfl rfl rfl rfl, ?_⟩))
      exact rr_ro rfl
    · obtain ⟨y, s, hy, hs, hc⟩ := key (by omega)
      rw [hs] at hj
      rw [show shapeR x = .ifc 78 (.agg []) by unfold shapeR; rw [if_neg (by omega), if_neg (by omega), if_neg (by omega), if_neg (by omega), if_neg (by omega), if_pos k]] at hS
      rw [show textT x v ss = (⟨#[63]⟩ : ByteArray) ++ s by unfold textT; rw [if_neg (by omega), if_neg (by omega), if_neg (by omega), if_neg (by omega), if_neg (by omega), if_pos k, if_neg (by omega), hs]]
      refine act_enter tabT_lasts Tryd.func21 rfl _ Tryd.ntmps21 (by simp) fun C hn hm hb => ?_
      repeat' (first
 | refine op_alloc (tl hn rfl) ?_
 | refine op_storeN (n := 0) (vs := []) rfl rfl rfl rfl (Nat.le_refl _) ?_
 | ((first | refine RunsL.pe hn rfl rfl rfl ?_ | refine RunsD.pe rfl rfl ?_); first
 | refine ⟨_, pu_len_seqN v.items.length rfl hlv, ?_⟩)
 | refine RunsL.step tabOk hn rfl ?_
 | refine RunsL.nil ?_
 | refine Runs.toRegion 30 rfl ?_
 | ((first | refine RunsL.pe hn rfl rfl rfl ?_ | refine RunsD.pe rfl rfl ?_); first
 | refine ⟨_, pu_makeFunc, ?_⟩
 | refine ⟨_, pu_callR hS rfl, ?_⟩
 | refine ⟨_, pu_tsHit rfl, ?_⟩
 | refine ⟨_, pu_tsMiss rfl rfl, ?_⟩
 | refine ⟨_, pu_nilCheck rfl, ?_⟩
 | refine ⟨_, pu_callFW (cap := [.obj 0 0, .obj 1 0, .obj 2 0]) (first := []) hb rfl hc (.cons .ro (.cons (Lends.obj rfl (.cons .ro .nil)) (.cons (Lends.obj rfl (.cons .ro .nil)) (.cons (Lends.obj rfl (.cons .ro .nil)) .nil)))), ?_⟩
 | refine ⟨_, pu_cat rfl rfl (by first | omega | (simp only [cat_size, c63]; omega)), ?_⟩)
 | (refine Runs.ctls 30 rfl ?_; first | refine Runs.cond_t rfl ?_ | refine Runs.cond_f rfl ?_ | ((first | refine Runs.cond_yes rfl ?_ ?_ | refine Runs.cond_nno rfl ?_ ?_); · first | omega | rfl | assumption | (simp only [List.length_map]; omega)) | ((first | refine Runs.cond_no rfl ?_ ?_ | refine Runs.cond_nyes rfl ?_ ?_); · first | omega | rfl | assumption | (simp only [List.length_map]; omega)) | refine Runs.ret (ends_ro hm rfl rfl ?_) | exact Runs.ret (ends_cellR hm rfl rfl rfl (Nat.le_of_ble_eq_true rfl) rfl rfl))
 | refine op_box rfl (tl hn rfl) ?_
 | refine op_alloc (tl hn rfl) ?_
 | refine op_storeN rfl rfl rfl rfl (Nat.le_of_ble_eq_true rfl) ?_
 | refine RunsD.step tabOk hn rfl rfl ?_
 | refine RunsD.nil ?_
 | refine Runs.toDraw 30 mixed hn rfl (by kernel_rfl) rfl ?_
 | ((first | refine RunsL.pe hn rfl rfl rfl ?_ | refine RunsD.pe rfl rfl ?_); first
 | refine ⟨_, pu_add rfl rfl (by omega), ?_⟩
 | refine ⟨_, pu_indexAddr_map rfl rfl (by omega) (by assumption), ?_⟩
 | refine ⟨_, pu_sub rfl rfl (by omega), ?_⟩
 | refine ⟨_, pu_pick_b rfl rfl rfl, ?_⟩
 | refine ⟨_, pu_mul rfl rfl (by omega), ?_⟩
 | refine ⟨_, pu_build rfl rfl rfl rfl rfl rfl, ?_⟩))
      exact rr_ro rfl
  · obtain ⟨y, s, hy, hs, hc⟩ := key (hn1 (.inr k))
    rw [hs] at hj
    rw [show shapeR x = .ifc 79 (.agg []) by unfold shapeR; rw [if_neg (by omega), if_neg (by omega), if_neg (by omega), if_neg (by omega), if_neg (by omega), if_neg (by omega), if_pos k]] at hS
    rw [show textT x v ss = ((⟨#[40]⟩ : ByteArray) ++ s) ++ ⟨#[41]⟩ by unfold textT; rw [if_neg (by omega), if_neg (by omega), if_neg (by omega), if_neg (by omega), if_neg (by omega), if_neg (by omega), if_pos k, hs]]
    refine act_enter tabT_lasts Tryd.func21 rfl _ Tryd.ntmps21 (by simp) fun C hn hm hb => ?_
    repeat' (first
 | refine op_alloc (tl hn rfl) ?_
 | refine op_storeN (n := 0) (vs := []) rfl rfl rfl rfl (Nat.le_refl _) ?_
 | refine RunsL.step tabOk hn rfl ?_
 | refine RunsL.nil ?_
 | refine Runs.toRegion 30 rfl ?_
 | ((first | refine RunsL.pe hn rfl rfl rfl ?_ | refine RunsD.pe rfl rfl ?_); first
 | refine ⟨_, pu_makeFunc, ?_⟩
 | refine ⟨_, pu_callR hS rfl, ?_⟩
 | refine ⟨_, pu_tsHit rfl, ?_⟩
 | refine ⟨_, pu_tsMiss rfl rfl, ?_⟩
 | refine ⟨_, pu_nilCheck rfl, ?_⟩
 | refine ⟨_, pu_callFW (cap := [.obj 0 0, .obj 1 0, .obj 2 0]) (first := []) hb rfl hc (.cons .ro (.cons (Lends.obj rfl (.cons .ro .nil)) (.cons (Lends.obj rfl (.cons .ro .nil)) (.cons (Lends.obj rfl (.cons .ro .nil)) .nil)))), ?_⟩
 | refine ⟨_, pu_cat rfl rfl (by first | omega | (simp only [cat_size, c40, c41]; omega)), ?_⟩)
 | (refine Runs.ctls 30 rfl ?_; first | refine Runs.cond_t rfl ?_ | refine Runs.cond_f rfl ?_ | ((first | refine Runs.cond_yes rfl ?_ ?_ | refine Runs.cond_nno rfl ?_ ?_); · first | omega | rfl | assumption | (simp only [List.length_map]; omega)) | ((first | refine Runs.cond_no rfl ?_ ?_ | refine Runs.cond_nyes rfl ?_ ?_); · first | omega | rfl | assumption | (simp only [List.length_map]; omega)) | refine Runs.ret (ends_ro hm rfl rfl ?_) | exact Runs.ret (ends_cellR hm rfl rfl rfl (Nat.le_of_ble_eq_true rfl) rfl rfl))
 | refine op_box rfl (tl hn rfl) ?_
 | refine op_alloc (tl hn rfl) ?_
 | refine op_storeN rfl rfl rfl rfl (Nat.le_of_ble_eq_true rfl) ?_
 | refine RunsD.step tabOk hn rfl rfl ?_
 | refine RunsD.nil ?_
 | refine Runs.toDraw 30 mixed hn rfl (by kernel_rfl) rfl ?_
 | ((first | refine RunsL.pe hn rfl rfl rfl ?_ | refine RunsD.pe rfl rfl ?_); first
 | refine ⟨_, pu_add rfl rfl (by omega), ?_⟩
 | refine ⟨_, pu_indexAddr_map rfl rfl (by omega) (by assumption), ?_⟩
 | refine ⟨_, pu_sub rfl rfl (by omega), ?_⟩
 | refine ⟨_, pu_pick_b rfl rfl rfl, ?_⟩
 | refine ⟨_, pu_mul rfl rfl (by omega), ?_⟩
 | refine ⟨_, pu_build rfl rfl rfl rfl rfl rfl, ?_⟩))
    exact rr_ro rfl
set_option maxHeartbeats 16000000 in
theorem vtext_list (k : x.kind = 5) : ACtv TabT Tryd.prog 21 [desR d, .int (r : Int), .rp v.cells] (.str (textT x v ss)) := by
  obtain ⟨o1, o2, o3, o4⟩ := hv.out
  unfold maxLen at o3
  have hlm : (d.map rulR).length = d.length := List.length_map ..
  have hlv : (v.items.map Tre.cells).length = v.items.length := List.length_map ..
  have hS := shapeOf_ac x
  have hp := partsT_id (x := x) (by omega) ss
  have hj := joinT_parts x ss _ hsz
  rw [hp] at hj
  have hJ := impl_JoinText ss sComma (by omega) (by omega)
  have c91 : (⟨#[91]⟩ : ByteArray).size = 1 := rfl
  have c93 : (⟨#[93]⟩ : ByteArray).size = 1 := rfl
  rw [Tre.cells_eq]
  rw [show shapeR x = .ifc 73 (.agg []) by unfold shapeR; rw [if_neg (by omega), if_neg (by omega), if_pos k]] at hS
  rw [show textT x v ss = ((⟨#[91]⟩ : ByteArray) ++ joinT ss sComma) ++ ⟨#[93]⟩ by unfold textT; rw [if_neg (by omega), if_neg (by omega), if_pos k, hp]]
  refine act_enter tabT_lasts Tryd.func21 rfl _ Tryd.ntmps21 (by simp) fun C hn hm hb => ?_
  repeat' (first
 | refine op_build0 (tl hn rfl) ?_
 | refine op_alloc (tl hn rfl) ?_
 | refine op_storeN (n := 0) (vs := []) rfl rfl rfl rfl (Nat.le_refl _) ?_
 | ((first | refine RunsL.pe hn rfl rfl rfl ?_ | refine RunsD.pe rfl rfl ?_); first
 | refine ⟨_, pu_len_seqN v.items.length rfl hlv, ?_⟩)
 | refine RunsL.step tabOk hn rfl ?_
 | refine RunsL.nil ?_
 | refine Runs.toRegion 30 rfl ?_
 | ((first | refine RunsL.pe hn rfl rfl rfl ?_ | refine RunsD.pe rfl rfl ?_); first
 | refine ⟨_, pu_makeFunc, ?_⟩
 | refine ⟨_, pu_callR hS rfl, ?_⟩
 | refine ⟨_, pu_tsHit rfl, ?_⟩
 | refine ⟨_, pu_tsMiss rfl rfl, ?_⟩
 | refine ⟨_, pu_nilCheck rfl, ?_⟩)
 | (refine Runs.ctls 30 rfl ?_; first | refine Runs.cond_t rfl ?_ | refine Runs.cond_f rfl ?_ | ((first | refine Runs.cond_yes rfl ?_ ?_ | refine Runs.cond_nno rfl ?_ ?_); · first | omega | rfl | assumption | (simp only [List.length_map]; omega)) | ((first | refine Runs.cond_no rfl ?_ ?_ | refine Runs.cond_nyes rfl ?_ ?_); · first | omega | rfl | assumption | (simp only [List.length_map]; omega)) | refine Runs.ret (ends_ro hm rfl rfl ?_) | exact Runs.ret (ends_cellR hm rfl rfl rfl (Nat.le_of_ble_eq_true rfl) rfl rfl))
 | refine op_box rfl (tl hn rfl) ?_
 | refine op_alloc (tl hn rfl) ?_
 | refine op_storeN rfl rfl rfl rfl (Nat.le_of_ble_eq_true rfl) ?_
 | ((first | refine RunsL.pe hn rfl rfl rfl ?_ | refine RunsD.pe rfl rfl ?_); first
 | refine ⟨_, pu_add rfl rfl (by omega), ?_⟩
 | refine ⟨_, pu_indexAddr_map rfl rfl (by omega) (by assumption), ?_⟩
 | refine ⟨_, pu_sub rfl rfl (by omega), ?_⟩
 | refine ⟨_, pu_pick_b rfl rfl rfl, ?_⟩
 | refine ⟨_, pu_mul rfl rfl (by omega), ?_⟩
 | refine ⟨_, pu_build rfl rfl rfl rfl rfl rfl, ?_⟩))
  refine Runs.loopN 30 rfl (fun j => [(7, .fn (.func 35) [] [.obj 0 0, .obj 1 0, .obj 2 0]), (11, .own 4), (46, .int (v.items.length : Int)), (47, .int (j : Int))]) (fun j => [⟨34, 0, [.ro (rulsR d)]⟩, ⟨3, 0, [.int (r : Int)]⟩, ⟨51, 0, [.ro (.rp [.int v.number, bytesR v.bytes, tresR v.items])]⟩, ⟨73, 0, []⟩, ⟨9, 1, ((ss.take j).map RV.str).map .ro⟩]) (fun _ => True) v.items.length 0 (Nat.zero_le _) trivial ⟨rfl, rfl, rfl, rfl, trivial⟩ rfl fun j hj' _ next => ?_
  by_cases hlt : j < v.items.length
  · obtain ⟨y, hy⟩ : ∃ y, v.items[(j : Int).toNat]? = some y := ⟨_, List.getElem?_eq_getElem hlt⟩
    have hs : ss[j]? = some (ss[j]'(by omega)) := List.getElem?_eq_getElem _
    generalize ss[j]'(by omega) = s at hs
    have hc := item_act d (by unfold maxLen; omega) r x hx hk v hv j y hy s (IH j y s hy hs)
    repeat' (first
 | refine RunsL.step tabOk hn rfl ?_
 | refine RunsL.nil ?_
 | refine Runs.toRegion 30 rfl ?_
 | ((first | refine RunsL.pe hn rfl rfl rfl ?_ | refine RunsD.pe rfl rfl ?_); first
 | refine ⟨_, pu_callFW (cap := [.obj 0 0, .obj 1 0, .obj 2 0]) (first := []) hb rfl hc (.cons .ro (.cons (Lends.obj rfl (.cons .ro .nil)) (.cons (Lends.obj rfl (.cons .ro .nil)) (.cons (Lends.obj rfl (.cons .ro .nil)) .nil)))), ?_⟩
 | refine ⟨_, pu_build rfl rfl rfl rfl rfl rfl, ?_⟩)
 | (refine Runs.ctls 30 rfl ?_; first | refine Runs.cond_t rfl ?_ | refine Runs.cond_f rfl ?_ | ((first | refine Runs.cond_yes rfl ?_ ?_ | refine Runs.cond_nno rfl ?_ ?_); · first | omega | rfl | assumption | (simp only [List.length_map]; omega)) | ((first | refine Runs.cond_no rfl ?_ ?_ | refine Runs.cond_nyes rfl ?_ ?_); · first | omega | rfl | assumption | (simp only [List.length_map]; omega)) | refine Runs.ret (ends_ro hm rfl rfl ?_) | exact Runs.ret (ends_cellR hm rfl rfl rfl (Nat.le_of_ble_eq_true rfl) rfl rfl))
 | refine op_box rfl (tl hn rfl) ?_
 | refine op_alloc (tl hn rfl) ?_
 | refine op_storeN rfl rfl rfl rfl (Nat.le_of_ble_eq_true rfl) ?_
 | ((first | refine RunsL.pe hn rfl rfl rfl ?_ | refine RunsD.pe rfl rfl ?_); first
 | refine ⟨_, pu_add rfl rfl (by omega), ?_⟩
 | refine ⟨_, pu_indexAddr_map rfl rfl (by omega) (by assumption), ?_⟩
 | refine ⟨_, pu_sub rfl rfl (by omega), ?_⟩
 | refine ⟨_, pu_pick_b rfl rfl rfl, ?_⟩
 | refine ⟨_, pu_mul rfl rfl (by omega), ?_⟩
 | refine ⟨_, pu_build rfl rfl rfl rfl rfl rfl, ?_⟩))
    refine op_append (t := 55) (i := 4) (n := j) (rs := (ss.take j).map RV.str) (els := [[RV.str s]]) rfl rfl rfl rfl rfl rfl (by rw [List.length_map, List.length_take]; omega) (FreeI.at_ (i := 4) (by repeat' (first | exact trivial | exact onlys_ro _ _ | refine ⟨?_, ?_⟩))) (by simp; omega) (by simp; omega) (tl hn rfl) ?_
    repeat' (first
 | refine RunsL.step tabOk hn rfl ?_
 | refine RunsL.nil ?_
 | refine Runs.toRegion 30 rfl ?_
 | (refine Runs.ctls 30 rfl ?_; first | refine Runs.cond_t rfl ?_ | refine Runs.cond_f rfl ?_ | ((first | refine Runs.cond_yes rfl ?_ ?_ | refine Runs.cond_nno rfl ?_ ?_); · first | omega | rfl | assumption | (simp only [List.length_map]; omega)) | ((first | refine Runs.cond_no rfl ?_ ?_ | refine Runs.cond_nyes rfl ?_ ?_); · first | omega | rfl | assumption | (simp only [List.length_map]; omega)) | refine Runs.ret (ends_ro hm rfl rfl ?_) | exact Runs.ret (ends_cellR hm rfl rfl rfl (Nat.le_of_ble_eq_true rfl) rfl rfl))
 | refine op_box rfl (tl hn rfl) ?_
 | refine op_alloc (tl hn rfl) ?_
 | refine op_storeN rfl rfl rfl rfl (Nat.le_of_ble_eq_true rfl) ?_
 | ((first | refine RunsL.pe hn rfl rfl rfl ?_ | refine RunsD.pe rfl rfl ?_); first
 | refine ⟨_, pu_add rfl rfl (by omega), ?_⟩
 | refine ⟨_, pu_indexAddr_map rfl rfl (by omega) (by assumption), ?_⟩
 | refine ⟨_, pu_sub rfl rfl (by omega), ?_⟩
 | refine ⟨_, pu_pick_b rfl rfl rfl, ?_⟩
 | refine ⟨_, pu_mul rfl rfl (by omega), ?_⟩
 | refine ⟨_, pu_build rfl rfl rfl rfl rfl rfl, ?_⟩))
    refine next _ _ ⟨rfl, rfl, rfl, rfl, trivial⟩ hlt trivial ?_
    rw [List.take_add_one, hs, List.map_append]
    rfl
  · obtain rfl : j = v.items.length := by omega
    repeat' (first
 | refine RunsL.step tabOk hn rfl ?_
 | refine RunsL.nil ?_
 | refine Runs.toRegion 30 rfl ?_
 | ((first | refine RunsL.pe hn rfl rfl rfl ?_ | refine RunsD.pe rfl rfl ?_); first
 | refine ⟨_, pu_callL hJ (.cons (Lends.own (i := 4) (o := ⟨9, 1, ((ss.take v.items.length).map RV.str).map .ro⟩) (els := ss.map fun s => [RV.str s]) rfl (by rw [List.take_of_length_le (by omega), strs_flats]) fun x hx => by obtain ⟨y, _, rfl⟩ := List.mem_map.1 hx; rfl) (.cons .ro .nil)), ?_⟩
 | refine ⟨_, pu_cat rfl rfl (by first | omega | (simp only [cat_size, c91, c93]; omega)), ?_⟩)
 | (refine Runs.ctls 30 rfl ?_; first | refine Runs.cond_t rfl ?_ | refine Runs.cond_f rfl ?_ | ((first | refine Runs.cond_yes rfl ?_ ?_ | refine Runs.cond_nno rfl ?_ ?_); · first | omega | rfl | assumption | (simp only [List.length_map]; omega)) | ((first | refine Runs.cond_no rfl ?_ ?_ | refine Runs.cond_nyes rfl ?_ ?_); · first | omega | rfl | assumption | (simp only [List.length_map]; omega)) | refine Runs.ret (ends_ro hm rfl rfl ?_) | exact Runs.ret (ends_cellR hm rfl rfl rfl (Nat.le_of_ble_eq_true rfl) rfl rfl))
 | refine op_box rfl (tl hn rfl) ?_
 | refine op_alloc (tl hn rfl) ?_
 | refine op_storeN rfl rfl rfl rfl (Nat.le_of_ble_eq_true rfl) ?_
 | ((first | refine RunsL.pe hn rfl rfl rfl ?_ | refine RunsD.pe rfl rfl ?_); first
 | refine ⟨_, pu_add rfl rfl (by omega), ?_⟩
 | refine ⟨_, pu_indexAddr_map rfl rfl (by omega) (by assumption), ?_⟩
 | refine ⟨_, pu_sub rfl rfl (by omega), ?_⟩
 | refine ⟨_, pu_pick_b rfl rfl rfl, ?_⟩
 | refine ⟨_, pu_mul rfl rfl (by omega), ?_⟩
 | refine ⟨_, pu_build rfl rfl rfl rfl rfl rfl, ?_⟩))
    exact rr_ro rfl
set_option maxHeartbeats 16000000 in
theorem vtext_parts (k : x.kind = 6) (hnm : x.names.length = v.items.length) : ACtv TabT Tryd.prog 21 [desR d, .int (r : Int), .rp v.cells] (.str (textT x v ss)) := by
  obtain ⟨o1, o2, o3, o4⟩ := hv.out
  unfold maxLen at o3
  have hlm : (d.map rulR).length = d.length := List.length_map ..
  have hlv : (v.items.map Tre.cells).length = v.items.length := List.length_map ..
  have hS := shapeOf_ac x
  have hpl := partsT_len x ss
  have hln : (x.names.map fun z => [RV.str z]).length = x.names.length := List.length_map ..
  have hj := joinT_parts x ss _ hsz
  have hJ := impl_JoinText (partsT x ss) sComma (by omega) (by omega)
  have c91 : (⟨#[123]⟩ : ByteArray).size = 1 := rfl
  have c93 : (⟨#[125]⟩ : ByteArray).size = 1 := rfl
  rw [Tre.cells_eq]
  rw [show shapeR x = .ifc 76 (.agg [strsR x.names]) by unfold shapeR; rw [if_neg (by omega), if_neg (by omega), if_neg (by omega), if_pos k]] at hS
  rw [show textT x v ss = ((⟨#[123]⟩ : ByteArray) ++ joinT (partsT x ss) sComma) ++ ⟨#[125]⟩ by unfold textT; rw [if_neg (by omega), if_neg (by omega), if_neg (by omega), if_pos k]]
  refine act_enter tabT_lasts Tryd.func21 rfl _ Tryd.ntmps21 (by simp) fun C hn hm hb => ?_
  repeat' (first
 | refine op_build0 (tl hn rfl) ?_
 | refine op_alloc (tl hn rfl) ?_
 | refine op_storeN (n := 0) (vs := []) rfl rfl rfl rfl (Nat.le_refl _) ?_
 | ((first | refine RunsL.pe hn rfl rfl rfl ?_ | refine RunsD.pe rfl rfl ?_); first
 | refine ⟨_, pu_len_seqN x.names.length rfl hln, ?_⟩)
 | refine RunsL.step tabOk hn rfl ?_
 | refine RunsL.nil ?_
 | refine Runs.toRegion 30 rfl ?_
 | ((first | refine RunsL.pe hn rfl rfl rfl ?_ | refine RunsD.pe rfl rfl ?_); first
 | refine ⟨_, pu_makeFunc, ?_⟩
 | refine ⟨_, pu_callR hS rfl, ?_⟩
 | refine ⟨_, pu_tsHit rfl, ?_⟩
 | refine ⟨_, pu_tsMiss rfl rfl, ?_⟩
 | refine ⟨_, pu_nilCheck rfl, ?_⟩)
 | (refine Runs.ctls 30 rfl ?_; first | refine Runs.cond_t rfl ?_ | refine Runs.cond_f rfl ?_ | ((first | refine Runs.cond_yes rfl ?_ ?_ | refine Runs.cond_nno rfl ?_ ?_); · first | omega | rfl | assumption | (simp only [List.length_map]; omega)) | ((first | refine Runs.cond_no rfl ?_ ?_ | refine Runs.cond_nyes rfl ?_ ?_); · first | omega | rfl | assumption | (simp only [List.length_map]; omega)) | refine Runs.ret (ends_ro hm rfl rfl ?_) | exact Runs.ret (ends_cellR hm rfl rfl rfl (Nat.le_of_ble_eq_true rfl) rfl rfl))
 | refine op_box rfl (tl hn rfl) ?_
 | refine op_alloc (tl hn rfl) ?_
 | refine op_storeN rfl rfl rfl rfl (Nat.le_of_ble_eq_true rfl) ?_
 | ((first | refine RunsL.pe hn rfl rfl rfl ?_ | refine RunsD.pe rfl rfl ?_); first
 | refine ⟨_, pu_add rfl rfl (by omega), ?_⟩
 | refine ⟨_, pu_indexAddr_map rfl rfl (by omega) (by assumption), ?_⟩
 | refine ⟨_, pu_sub rfl rfl (by omega), ?_⟩
 | refine ⟨_, pu_pick_b rfl rfl rfl, ?_⟩
 | refine ⟨_, pu_mul rfl rfl (by omega), ?_⟩
 | refine ⟨_, pu_build rfl rfl rfl rfl rfl rfl, ?_⟩))
  refine Runs.loopN 30 rfl (fun j => [(7, .fn (.func 35) [] [.obj 0 0, .obj 1 0, .obj 2 0]), (14, .own 4), (66, .ro (strsR x.names)), (67, .int (x.names.length : Int)), (68, .int (j : Int))]) (fun j => [⟨34, 0, [.ro (rulsR d)]⟩, ⟨3, 0, [.int (r : Int)]⟩, ⟨51, 0, [.ro (.rp [.int v.number, bytesR v.bytes, tresR v.items])]⟩, ⟨76, 0, [.ro (strsR x.names)]⟩, ⟨9, 1, (((partsT x ss).take j).map RV.str).map .ro⟩]) (fun _ => True) v.items.length 0 (Nat.zero_le _) trivial ⟨rfl, rfl, rfl, rfl, rfl, trivial⟩ rfl fun j hj' _ next => ?_
  by_cases hlt : j < v.items.length
  · obtain ⟨y, hy⟩ : ∃ y, v.items[(j : Int).toNat]? = some y := ⟨_, List.getElem?_eq_getElem hlt⟩
    have hs : ss[j]? = some (ss[j]'(by omega)) := List.getElem?_eq_getElem _
    generalize ss[j]'(by omega) = s at hs
    obtain ⟨nm, hnmj⟩ : ∃ nm, x.names[(j : Int).toNat]? = some nm := ⟨_, List.getElem?_eq_getElem (by simp; omega)⟩
    have hpt : partT x j s = (nm ++ sColon) ++ s := by unfold partT; rw [if_pos k, show x.names[j]? = some nm from hnmj]; rfl
    have hpa := partsT_at (x := x) hs
    have hps : (partT x j s).size ≤ 4398046511104 := by
      have := sum_mem_le (fun s : ByteArray => s.size + 1) (List.mem_of_getElem? hpa)
      omega
    have hps2 := congrArg ByteArray.size hpt
    have c58 : (⟨#[58]⟩ : ByteArray).size = 1 := rfl
    have k58 : sColon.size = 1 := rfl
    simp only [cat_size, k58] at hps2
    have hc := item_act d (by unfold maxLen; omega) r x hx hk v hv j y hy s (IH j y s hy hs)
    repeat' (first
 | refine RunsL.step tabOk hn rfl ?_
 | refine RunsL.nil ?_
 | refine Runs.toRegion 30 rfl ?_
 | ((first | refine RunsL.pe hn rfl rfl rfl ?_ | refine RunsD.pe rfl rfl ?_); first
 | refine ⟨_, pu_cat rfl rfl (by first | omega | (simp only [cat_size, c58]; omega)), ?_⟩
 | refine ⟨_, pu_callFW (cap := [.obj 0 0, .obj 1 0, .obj 2 0]) (first := []) hb rfl hc (.cons .ro (.cons (Lends.obj rfl (.cons .ro .nil)) (.cons (Lends.obj rfl (.cons .ro .nil)) (.cons (Lends.obj rfl (.cons .ro .nil)) .nil)))), ?_⟩
 | refine ⟨_, pu_build rfl rfl rfl rfl rfl rfl, ?_⟩)
 | (refine Runs.ctls 30 rfl ?_; first | refine Runs.cond_t rfl ?_ | refine Runs.cond_f rfl ?_ | ((first | refine Runs.cond_yes rfl ?_ ?_ | refine Runs.cond_nno rfl ?_ ?_); · first | omega | rfl | assumption | (simp only [List.length_map]; omega)) | ((first | refine Runs.cond_no rfl ?_ ?_ | refine Runs.cond_nyes rfl ?_ ?_); · first | omega | rfl | assumption | (simp only [List.length_map]; omega)) | refine Runs.ret (ends_ro hm rfl rfl ?_) | exact Runs.ret (ends_cellR hm rfl rfl rfl (Nat.le_of_ble_eq_true rfl) rfl rfl))
 | refine op_box rfl (tl hn rfl) ?_
 | refine op_alloc (tl hn rfl) ?_
 | refine op_storeN rfl rfl rfl rfl (Nat.le_of_ble_eq_true rfl) ?_
 | ((first | refine RunsL.pe hn rfl rfl rfl ?_ | refine RunsD.pe rfl rfl ?_); first
 | refine ⟨_, pu_add rfl rfl (by omega), ?_⟩
 | refine ⟨_, pu_indexAddr_map rfl rfl (by omega) (by assumption), ?_⟩
 | refine ⟨_, pu_sub rfl rfl (by omega), ?_⟩
 | refine ⟨_, pu_pick_b rfl rfl rfl, ?_⟩
 | refine ⟨_, pu_mul rfl rfl (by omega), ?_⟩
 | refine ⟨_, pu_build rfl rfl rfl rfl rfl rfl, ?_⟩))
    refine op_append (t := 81) (i := 4) (n := j) (rs := ((partsT x ss).take j).map RV.str) (els := [[RV.str ((nm ++ sColon) ++ s)]]) rfl rfl rfl rfl rfl rfl (by rw [List.length_map, List.length_take]; omega) (FreeI.at_ (i := 4) (by repeat' (first | exact trivial | exact onlys_ro _ _ | refine ⟨?_, ?_⟩))) (by simp; omega) (by simp; omega) (tl hn rfl) ?_
    repeat' (first
 | refine RunsL.step tabOk hn rfl ?_
 | refine RunsL.nil ?_
 | refine Runs.toRegion 30 rfl ?_
 | (refine Runs.ctls 30 rfl ?_; first | refine Runs.cond_t rfl ?_ | refine Runs.cond_f rfl ?_ | ((first | refine Runs.cond_yes rfl ?_ ?_ | refine Runs.cond_nno rfl ?_ ?_); · first | omega | rfl | assumption | (simp only [List.length_map]; omega)) | ((first | refine Runs.cond_no rfl ?_ ?_ | refine Runs.cond_nyes rfl ?_ ?_); · first | omega | rfl | assumption | (simp only [List.length_map]; omega)) | refine Runs.ret (ends_ro hm rfl rfl ?_) | exact Runs.ret (ends_cellR hm rfl rfl rfl (Nat.le_of_ble_eq_true rfl) rfl rfl))
 | refine op_box rfl (tl hn rfl) ?_
 | refine op_alloc (tl hn rfl) ?_
 | refine op_storeN rfl rfl rfl rfl (Nat.le_of_ble_eq_true rfl) ?_
 | ((first | refine RunsL.pe hn rfl rfl rfl ?_ | refine RunsD.pe rfl rfl ?_); first
 | refine ⟨_, pu_add rfl rfl (by omega), ?_⟩
 | refine ⟨_, pu_indexAddr_map rfl rfl (by omega) (by assumption), ?_⟩
 | refine ⟨_, pu_sub rfl rfl (by omega), ?_⟩
 | refine ⟨_, pu_pick_b rfl rfl rfl, ?_⟩
 | refine ⟨_, pu_mul rfl rfl (by omega), ?_⟩
 | refine ⟨_, pu_build rfl rfl rfl rfl rfl rfl, ?_⟩))
    refine next _ _ ⟨rfl, rfl, rfl, rfl, rfl, trivial⟩ hlt trivial ?_
    rw [List.take_add_one, hpa, hpt, List.map_append]
    rfl
  · obtain rfl : j = v.items.length := by omega
    repeat' (first
 | refine RunsL.step tabOk hn rfl ?_
 | refine RunsL.nil ?_
 | refine Runs.toRegion 30 rfl ?_
 | ((first | refine RunsL.pe hn rfl rfl rfl ?_ | refine RunsD.pe rfl rfl ?_); first
 | refine ⟨_, pu_callL hJ (.cons (Lends.own (i := 4) (o := ⟨9, 1, (((partsT x ss).take v.items.length).map RV.str).map .ro⟩) (els := (partsT x ss).map fun s => [RV.str s]) rfl (by rw [List.take_of_length_le (by omega), strs_flats]) fun x hx => by obtain ⟨y, _, rfl⟩ := List.mem_map.1 hx; rfl) (.cons .ro .nil)), ?_⟩
 | refine ⟨_, pu_cat rfl rfl (by first | omega | (simp only [cat_size, c91, c93]; omega)), ?_⟩)
 | (refine Runs.ctls 30 rfl ?_; first | refine Runs.cond_t rfl ?_ | refine Runs.cond_f rfl ?_ | ((first | refine Runs.cond_yes rfl ?_ ?_ | refine Runs.cond_nno rfl ?_ ?_); · first | omega | rfl | assumption | (simp only [List.length_map]; omega)) | ((first | refine Runs.cond_no rfl ?_ ?_ | refine Runs.cond_nyes rfl ?_ ?_); · first | omega | rfl | assumption | (simp only [List.length_map]; omega)) | refine Runs.ret (ends_ro hm rfl rfl ?_) | exact Runs.ret (ends_cellR hm rfl rfl rfl (Nat.le_of_ble_eq_true rfl) rfl rfl))
 | refine op_box rfl (tl hn rfl) ?_
 | refine op_alloc (tl hn rfl) ?_
 | refine op_storeN rfl rfl rfl rfl (Nat.le_of_ble_eq_true rfl) ?_
 | ((first | refine RunsL.pe hn rfl rfl rfl ?_ | refine RunsD.pe rfl rfl ?_); first
 | refine ⟨_, pu_add rfl rfl (by omega), ?_⟩
 | refine ⟨_, pu_indexAddr_map rfl rfl (by omega) (by assumption), ?_⟩
 | refine ⟨_, pu_sub rfl rfl (by omega), ?_⟩
 | refine ⟨_, pu_pick_b rfl rfl rfl, ?_⟩
 | refine ⟨_, pu_mul rfl rfl (by omega), ?_⟩
 | refine ⟨_, pu_build rfl rfl rfl rfl rfl rfl, ?_⟩))
    exact rr_ro rfl
end
end Go.Proofs.YtkmoffefhlmgeaaDoor
/- Values as texts: any value of a rule, both sides; FormatValue. -/
namespace Go.Proofs.YtkmoffefhlmgeaaDoor
set_option linter.unusedSimpArgs false
set_option linter.unusedVariables false
set_option linter.unusedSectionVars false
set_option maxRecDepth 100000
open Go.RowKit
open AV (Mem Keeps)
theorem name_size {d : Des} {x : Rul} (hx : x ∈ d) {s : ByteArray} (hs : s ∈ x.names) : s.size ≤ dtotal d := by
  have e1 : dtotal d = d.length + (d.map Rul.total).sum := rfl
  have e2 : x.total = x.name.size + x.bytes.length + (x.names.length + (x.names.map ByteArray.size).sum) + x.tags.length + x.kids.length := rfl
  have h1 := sum_mem_le Rul.total hx
  have h2 := sum_mem_le ByteArray.size hs
  omega
theorem parts_sum {x : Rul} {v : Tre} {ss : List ByteArray} (hl : ss.length = v.items.length) (hn : ∀ s ∈ x.names, s.size ≤ 1048576) (h : ∀ (i : Nat) y s, v.items[i]? = some y → ss[i]? = some s → s.size + 1048579 ≤ 2097152 * (y.total + 1)) :
    ((partsT x ss).map fun s => s.size + 1).sum ≤ 2097152 * ((v.items.map Tre.total).sum + v.items.length) := by
  have key : ∀ j, j ≤ ss.length → (((partsT x ss).take j).map fun s => s.size + 1).sum ≤ 2097152 * (((v.items.take j).map Tre.total).sum + j) := by
    intro j
    induction j with
    | zero => intro _; simp
    | succ j ih =>
      intro hj
      have h0 := ih (by omega)
      obtain ⟨s, hs⟩ : ∃ s, ss[j]? = some s := ⟨_, List.getElem?_eq_getElem (by omega)⟩
      obtain ⟨y, hy⟩ : ∃ y, v.items[j]? = some y := ⟨_, List.getElem?_eq_getElem (by omega)⟩
      have h1 := h j y s hy hs
      have hp := partsT_at (x := x) hs
      have hsz : (partT x j s).size ≤ s.size + 1048577 := by
        unfold partT
        split
        · rw [cat_size, cat_size, show sColon.size = 1 from rfl]
          have : ((x.names[j]?).getD ⟨#[]⟩).size ≤ 1048576 := by
            cases hnm : x.names[j]? with
            | none => exact Nat.zero_le _
            | some nm => exact hn nm (List.mem_of_getElem? hnm)
          omega
        · omega
      rw [List.take_add_one, List.take_add_one, hp, hy]
      simp only [Option.toList, List.map_append, List.sum_append, List.map_cons, List.map_nil, List.sum_cons, List.sum_nil]
      omega
  have := key ss.length (Nat.le_refl _)
  rwa [List.take_of_length_le (by rw [partsT_len]; exact Nat.le_refl _), List.take_of_length_le (by omega), hl] at this
theorem text_both {d : Des} (hd : dtotal d ≤ 1048576) (hG : Good' d) : ∀ v : Tre, v.Ok → v.total ≤ 1048576 → ∀ (r : Nat) (x : Rul), d[r]? = some x → Vld d r v →
    ∃ s : ByteArray, s.size + 1048579 ≤ 2097152 * (v.total + 1) ∧ ACv Tryd.prog 16 [desR d, .int (r : Int), treR v] (.str s) ∧ ACtv TabT Tryd.prog 21 [desR d, .int (r : Int), .rp v.cells] (.str s) := by
  refine Tre.ind fun v ih hv ht r x hx hV => ?_
  have hx' : d[(r : Int).toNat]? = some x := hx
  have e1 : dtotal d = d.length + (d.map Rul.total).sum := rfl
  have et := v.total_eq
  have hk := kind_at hG hx
  obtain ⟨hO, hI⟩ := (vld_iff hx).1 hV
  obtain ⟨o1, o2, o3, o4⟩ := hv.out
  have hn : ∀ s ∈ x.names, s.size ≤ 1048576 := fun s hs => Nat.le_trans (name_size (List.mem_of_getElem? hx) hs) hd
  obtain ⟨ss, hl, hss⟩ := list_pick (Q := fun i y s => s.size + 1048579 ≤ 2097152 * (y.total + 1) ∧ ACv Tryd.prog 16 [desR d, .int (itemR x v.number (i : Int)), treR y] (.str s) ∧ ACtv TabT Tryd.prog 21 [desR d, .int (itemR x v.number (i : Int)), .rp y.cells] (.str s)) v.items (fun i y hy => by
    have hil := (List.getElem?_eq_some_iff.1 hy).1
    have hit := own_item hG hx hO hil
    have hm := List.mem_of_getElem? hy
    have hr := (List.getElem?_eq_some_iff.1 hx).1
    obtain ⟨x', hx'⟩ : ∃ x', d[(itemR x v.number (i : Int)).toNat]? = some x' := ⟨_, List.getElem?_eq_getElem (by omega)⟩
    have := sum_mem_le Tre.total hm
    obtain ⟨s, h1, h2, h3⟩ := ih y hm (o4 y hm) (by omega) (itemR x v.number (i : Int)).toNat x' hx' (hI i y hy)
    rw [show (((itemR x v.number (i : Int)).toNat : Nat) : Int) = itemR x v.number (i : Int) by omega] at h2 h3
    exact ⟨s, h1, h2, h3⟩)
  have hsum := parts_sum (x := x) hl hn fun i y s hy hs => (hss i y s hy hs).1
  have hsz : ((partsT x ss).map fun s => s.size + 1).sum ≤ 4398046511104 := by omega
  have hj := joinT_parts x ss _ hsum
  have hi6 : x.kind = 6 → v.items.length = x.names.length := fun k6 => by
    have h1 : v.items.length = x.kids.length := by
      have h := hO
      unfold OwnV at h
      rw [if_neg (by omega), if_neg (by omega), if_neg (by omega), if_neg (by omega), if_neg (by omega), if_neg (by omega), if_pos k6] at h
      exact h.2.2
    unfold KindOk at hk
    rcases hk with hk | hk | hk | hk | hk | hk | hk | hk | hk
    all_goals first | omega | (have := hk.2.1.kids (by omega); omega)
  refine ⟨textT x v ss, ?_, l10Text_ac (by omega) hx' hk v hv (by omega) ss hl (fun k => by have := hi6 k; omega) hsz fun i y s hy hs => (hss i y s hy hs).2.1, ?_⟩
  · have hF := fmtI_len v.number o1
    have hH := hexT_size v.bytes
    unfold textT
    have lit : ∀ z : UInt8, (⟨#[z]⟩ : ByteArray).size = 1 := fun _ => rfl
    repeat' split
    all_goals first | omega | (simp only [cat_size, lit]; omega)
  · have IHI : ∀ (i : Nat) y s, v.items[i]? = some y → ss[i]? = some s → ACtv TabT Tryd.prog 21 [desR d, .int (itemR x v.number (i : Int)), .rp y.cells] (.str s) := fun i y s hy hs => (hss i y s hy hs).2.2
    have hkr : 1 ≤ x.kind ∧ x.kind ≤ 10 := by
      unfold KindOk at hk
      rcases hk with hk | hk | hk | hk | hk | hk | hk | hk | hk
      all_goals first | omega | (have := hk.1; omega)
    by_cases k5 : x.kind = 5
    · exact vtext_list (by omega) hx' hk v hv (by omega) (by omega) ss hl hsz IHI k5
    by_cases k6 : x.kind = 6
    · exact vtext_parts (by omega) hx' hk v hv (by omega) (by omega) ss hl hsz IHI k6 (hi6 k6).symm
    by_cases k7 : x.kind = 7 ∨ x.kind = 8 ∨ x.kind = 9
    · have hO' := hO
      unfold OwnV at hO'
      refine vtext_one (by omega) hx' hk v hv (by omega) (by omega) ss hl hsz IHI k7 (fun k => ?_) ?_
      · rcases k with k | k
        · rw [if_neg (by omega), if_neg (by omega), if_neg (by omega), if_neg (by omega), if_neg (by omega), if_neg (by omega), if_neg (by omega), if_pos k] at hO'
          exact hO'.2.1
        · rw [if_neg (by omega), if_neg (by omega), if_neg (by omega), if_neg (by omega), if_neg (by omega), if_neg (by omega), if_neg (by omega), if_neg (by omega), if_neg (by omega)] at hO'
          exact hO'.2.2
      · rw [if_neg (by omega), if_neg (by omega), if_neg (by omega), if_neg (by omega), if_neg (by omega), if_neg (by omega), if_neg (by omega)] at hO'
        split at hO'
        · have := hO'.2.1; omega
        · split at hO'
          · exact hO'.2.2
          · have := hO'.2.2; omega
    · exact vtext_leaf (by omega) hx' hk v hv (by omega) (by omega) ss hl hsz IHI (by omega)
theorem both_FormatValue (d : Des) (ho : DesOk d) (hd : dtotal d ≤ 1048576) (r : Int) (v : Tre) (hv : v.Ok) (ht : v.total ≤ 1048576) : ∃ s : ByteArray, ACv Tryd.prog 6 [desR d, .int r, treR v] (.str s) ∧ ACtv TabT Tryd.prog 9 [desR d, .int r, treR v] (.str s) := by
  have hS := spec_IsValidValue d ho hd r v hv
  have hI := impl_IsValidValue d ho hd r v hv
  by_cases h : VldI d r v
  · rw [decide_eq_true h] at hS hI
    obtain ⟨n, x, rfl, hn', hx⟩ := kn_nat h.1
    obtain ⟨s, _, h2, h3⟩ := text_both hd h.1.1 v hv ht n x hx h.2
    rw [Tre.cells_eq] at h3
    refine ⟨s, ?_, ?_⟩
    · refine ac_enter Tryd.func6 rfl _ Tryd.ntmps6 (by simp) fun C hn hm => ?_
      repeat' (first
 | refine RunsL.step tabOk hn rfl ?_
 | refine RunsL.nil ?_
 | refine Runs.toRegion 30 rfl ?_
 | (refine RunsL.pe hn rfl rfl rfl ?_; first
 | refine ⟨_, pu_callR hS rfl, ?_⟩
 | refine ⟨_, pu_callR h2 rfl, ?_⟩)
 | (refine Runs.ctls 30 rfl ?_; first | refine Runs.cond_t rfl ?_ | refine Runs.cond_f rfl ?_ | ((first | refine Runs.cond_yes rfl ?_ ?_ | refine Runs.cond_nno rfl ?_ ?_); · first | omega | rfl | assumption | (simp only [List.length_map]; omega)) | ((first | refine Runs.cond_no rfl ?_ ?_ | refine Runs.cond_nyes rfl ?_ ?_); · first | omega | rfl | assumption | (simp only [List.length_map]; omega)) | refine Runs.ret (ends_ro hm rfl rfl ?_) | exact Runs.ret (ends_cellR hm rfl rfl rfl (Nat.le_of_ble_eq_true rfl) rfl rfl))
 | refine op_box rfl (tl hn rfl) ?_
        )
      exact rr_ro rfl
    · refine act_enter tabT_lasts Tryd.func9 rfl _ Tryd.ntmps9 (by simp) fun C hn hm hb => ?_
      repeat' (first
 | refine RunsL.step tabOk hn rfl ?_
 | refine RunsL.nil ?_
 | refine Runs.toRegion 30 rfl ?_
 | (refine RunsL.pe hn rfl rfl rfl ?_; first
 | refine ⟨_, pu_callR hI rfl, ?_⟩
 | refine ⟨_, pu_callLW hb h3 (.cons (Lends.agg (.cons .ro .nil)) (.cons .ro (.cons (Lends.obj rfl (.cons .ro (.cons .ro (.cons .ro .nil)))) .nil))), ?_⟩
 | refine ⟨_, pu_callLW hb h3 (.cons .ro (.cons .ro (.cons (Lends.obj rfl (.cons .ro (.cons .ro (.cons .ro .nil)))) .nil))), ?_⟩)
 | (refine Runs.ctls 30 rfl ?_; first | refine Runs.cond_t rfl ?_ | refine Runs.cond_f rfl ?_ | ((first | refine Runs.cond_yes rfl ?_ ?_ | refine Runs.cond_nno rfl ?_ ?_); · first | omega | rfl | assumption | (simp only [List.length_map]; omega)) | ((first | refine Runs.cond_no rfl ?_ ?_ | refine Runs.cond_nyes rfl ?_ ?_); · first | omega | rfl | assumption | (simp only [List.length_map]; omega)) | refine Runs.ret (ends_ro hm rfl rfl ?_) | exact Runs.ret (ends_cellR hm rfl rfl rfl (Nat.le_of_ble_eq_true rfl) rfl rfl))
 | refine op_box rfl (tl hn rfl) ?_
        )
      exact rr_ro rfl
  · rw [decide_eq_false h] at hS hI
    refine ⟨⟨#[]⟩, ?_, ?_⟩
    · refine ac_enter Tryd.func6 rfl _ Tryd.ntmps6 (by simp) fun C hn hm => ?_
      repeat' (first
 | refine RunsL.step tabOk hn rfl ?_
 | refine RunsL.nil ?_
 | refine Runs.toRegion 30 rfl ?_
 | (refine RunsL.pe hn rfl rfl rfl ?_; first
 | refine ⟨_, pu_callR hS rfl, ?_⟩)
 | (refine Runs.ctls 30 rfl ?_; first | refine Runs.cond_t rfl ?_ | refine Runs.cond_f rfl ?_ | ((first | refine Runs.cond_yes rfl ?_ ?_ | refine Runs.cond_nno rfl ?_ ?_); · first | omega | rfl | assumption | (simp only [List.length_map]; omega)) | ((first | refine Runs.cond_no rfl ?_ ?_ | refine Runs.cond_nyes rfl ?_ ?_); · first | omega | rfl | assumption | (simp only [List.length_map]; omega)) | refine Runs.ret (ends_ro hm rfl rfl ?_) | exact Runs.ret (ends_cellR hm rfl rfl rfl (Nat.le_of_ble_eq_true rfl) rfl rfl))
 | refine op_box rfl (tl hn rfl) ?_
        )
      exact rr_ro rfl
    · refine act_enter tabT_lasts Tryd.func9 rfl _ Tryd.ntmps9 (by simp) fun C hn hm hb => ?_
      repeat' (first
 | refine RunsL.step tabOk hn rfl ?_
 | refine RunsL.nil ?_
 | refine Runs.toRegion 30 rfl ?_
 | (refine RunsL.pe hn rfl rfl rfl ?_; first
 | refine ⟨_, pu_callR hI rfl, ?_⟩)
 | (refine Runs.ctls 30 rfl ?_; first | refine Runs.cond_t rfl ?_ | refine Runs.cond_f rfl ?_ | ((first | refine Runs.cond_yes rfl ?_ ?_ | refine Runs.cond_nno rfl ?_ ?_); · first | omega | rfl | assumption | (simp only [List.length_map]; omega)) | ((first | refine Runs.cond_no rfl ?_ ?_ | refine Runs.cond_nyes rfl ?_ ?_); · first | omega | rfl | assumption | (simp only [List.length_map]; omega)) | refine Runs.ret (ends_ro hm rfl rfl ?_) | exact Runs.ret (ends_cellR hm rfl rfl rfl (Nat.le_of_ble_eq_true rfl) rfl rfl))
 | refine op_box rfl (tl hn rfl) ?_
        )
      exact rr_ro rfl
end Go.Proofs.YtkmoffefhlmgeaaDoor
