/- Gathered texts. -/
import Derived.Test.YtofefjklipglhaaDoorGat0
import Derived.Test.YtofefjklipglhaaDoorGat1
import Derived.Test.YtofefjklipglhaaDoorGat2
import Derived.Test.YtofefjklipglhaaDoorGat3
/- The program of a description: both sides. -/
namespace Go.Proofs.YtofefjklipglhaaDoor
set_option linter.unusedSimpArgs false
set_option linter.unusedVariables false
set_option maxRecDepth 100000
open Go.RowKit
open AV (Mem Keeps)
set_option maxRecDepth 100000
mutual
noncomputable def cdT (d : Des) : Nat → List Ins
  | 0 => []
  | j + 1 => cdT d j ++ cmpL d j ((cdT d j).length + 2 : Nat) (cdE d j)
noncomputable def cdE (d : Des) : Nat → List Int
  | 0 => []
  | j + 1 => cdE d j ++ [(((cdT d j).length + 2 : Nat) : Int)]
end
def cdC (a : Int) (l : List Ins) : List Ins := ⟨9, a, 0⟩ :: ⟨17, 0, 0⟩ :: l
theorem cdC_len (a : Int) (l : List Ins) : (cdC a l).length = l.length + 2 := rfl
theorem cdC_app (a : Int) (l m : List Ins) : cdC a (l ++ m) = cdC a l ++ m := rfl
theorem cdE_len (d : Des) : ∀ j : Nat, (cdE d j).length = j
  | 0 => by simp [cdE]
  | j + 1 => by rw [cdE, List.length_append, cdE_len d j]; rfl
theorem rule_len (d : Des) (hd : dtotal d ≤ 1048576) (j : Nat) (x : Rul) (hx : d[j]? = some x) (s : Int) (en : List Int) : (cmpL d j s en).length ≤ 7 + 3 * x.total := by
  have hxt := sum_mem_le Rul.total (List.mem_of_getElem? hx)
  have et : dtotal d = d.length + (d.map Rul.total).sum := rfl
  by_cases h : Kn d (j : Int) ∧ (j : Int) ≤ en.length
  · rw [cmpL_yes h hx]
    have := body_len' s (en := en) (kind_at h.1.1 hx) (by omega)
    unfold ruleI
    rw [List.length_append, List.length_singleton]
    omega
  · rw [cmpL_no h]; simp
theorem cdT_len (d : Des) (hd : dtotal d ≤ 1048576) : ∀ j : Nat, j ≤ d.length → (cdT d j).length ≤ 7 * j + 3 * ((d.take j).map Rul.total).sum
  | 0, _ => by simp [cdT]
  | j + 1, h => by
    obtain ⟨x, hx⟩ : ∃ x, d[j]? = some x := ⟨_, List.getElem?_eq_getElem (by omega)⟩
    have ih := cdT_len d hd j (by omega)
    have hs := sum_take_next Rul.total hx
    have hr := rule_len d hd j x hx ((cdT d j).length + 2 : Nat) (cdE d j)
    rw [cdT, List.length_append, hs]
    omega
theorem cdT_le (d : Des) (hd : dtotal d ≤ 1048576) (hG : Good' d) (j : Nat) (h : j ≤ d.length) : (cdT d j).length ≤ 3145896 := by
  have h1 := cdT_len d hd j h
  have h2 := sum_take_le Rul.total d j
  have h3 := hG.2.1
  have et : dtotal d = d.length + (d.map Rul.total).sum := rfl
  omega
noncomputable def cdF (d : Des) : Prg := open Classical in if Good' d then ⟨cdC (((cdE d d.length)[d.length - 1]?).getD 0) (cdT d d.length), cdE d d.length⟩ else ⟨[], []⟩
theorem cdF_yes {d : Des} (h : Good' d) : cdF d = ⟨cdC (((cdE d d.length)[d.length - 1]?).getD 0) (cdT d d.length), cdE d d.length⟩ := by unfold cdF; rw [if_pos h]
theorem cdF_no {d : Des} (h : ¬ Good' d) : cdF d = ⟨[], []⟩ := by unfold cdF; rw [if_neg h]
instance tb_prg : TB Tryd.prog 31 [(0, 1), (1, 1)] [.slice none 0 0, .slice none 0 0] := ⟨_, _, _, rfl, rfl, rfl, rfl, by kernel_rfl, by decide⟩
def cdS (d : Des) (c : List Ins) (e : List Int) : List Ob := [⟨26, 0, [.ro (rulsR d)]⟩, ⟨31, 0, [.nil, .nil]⟩, ⟨38, 3, (c.flatMap insR).map .ro⟩, ⟨31, 0, [.own 2, .own 4]⟩, ⟨3, 1, (e.map RV.int).map .ro⟩]
theorem insRV0 : ∀ l : List Ins, l.flatMap insR = (l.flatMap insV).map .c
  | [] => rfl
  | x :: l => by rw [List.flatMap_cons, List.flatMap_cons, List.map_append, insRV0 l]; rfl
theorem lend_e {C : Ctx} {d : Des} {c : List Ins} {e : List Int} {more : List Ob} : Lends C (cdS d c e ++ more) (.own 4) (intsR e) :=
  Lends.own (o := ⟨3, 1, (e.map RV.int).map .ro⟩) (els := e.map fun z => [RV.int z]) rfl (by
    have : (e.map fun z => [RV.int z]).flatten = e.map RV.int := by induction e with
      | nil => rfl
      | cons a e ih => simp [ih]
    rw [this]) (by simp)
theorem ints_len1 (e : List Int) : ((e.map RV.int).map AV.ro).length = e.length * 1 := by simp
theorem inss_len3 (c : List Ins) : ((c.flatMap insR).map AV.ro).length = c.length * 3 := by rw [List.length_map, insR_flat]
theorem impl_RootOfE (d : Des) (hl : d.length ≤ maxLen) : ACv Tryd.prog 19 [desR d] (.int ((d.length : Int) - 1)) := by
  have hlm : (d.map rulR).length = d.length := List.length_map ..
  unfold maxLen at hl
  refine ac_enter Tryd.func19 rfl _ Tryd.ntmps19 (by simp) fun C hn hm => ?_
  repeat' (first
 | refine RunsL.step tabOk hn rfl ?_
 | refine RunsL.nil ?_
 | refine Runs.toRegion 30 rfl ?_
 | (refine Runs.ctls 30 rfl ?_; first | ((first | refine Runs.cond_yes rfl ?_ ?_ | refine Runs.cond_nno rfl ?_ ?_); · first | omega | rfl | assumption | (simp only [List.length_map]; omega)) | ((first | refine Runs.cond_no rfl ?_ ?_ | refine Runs.cond_nyes rfl ?_ ?_); · first | omega | rfl | assumption | (simp only [List.length_map]; omega)) | refine Runs.ret (ends_ro hm rfl rfl ?_) | exact Runs.ret (ends_cellR hm rfl rfl rfl (Nat.le_of_ble_eq_true rfl) rfl rfl))
 | refine op_box rfl (tl hn rfl) ?_
 | (refine RunsL.pe hn rfl rfl rfl ?_; first
 | refine ⟨_, pu_sub rfl rfl (by omega), ?_⟩
      ))
  exact rr_int (by rw [hlm])
set_option maxHeartbeats 16000000 in
theorem impl_CompileDescription (d : Des) (ho : DesOk d) (hd : dtotal d ≤ 1048576) : AC Tryd.prog 6 [desR d] (fun rr => rr = .agg [.row 38 3 ((cdF d).code.flatMap insR), .row 3 1 ((cdF d).entries.map RV.int)]) := by
  have hlm : (d.map rulR).length = d.length := List.length_map ..
  have hv := impl_IsValidDescription d ho hd
  have et : dtotal d = d.length + (d.map Rul.total).sum := rfl
  by_cases hG : Good' d
  · have hl := hG.2.1
    have hl1 := hG.1
    have hr := impl_RootOfE d (by unfold maxLen; omega)
    rw [decide_eq_true hG] at hv
    rw [cdF_yes hG]
    refine ac_enter Tryd.func6 rfl _ Tryd.ntmps6 (by simp) fun C hn hm => ?_
    repeat' (first
 | refine op_build (t := 12) rfl rfl rfl rfl rfl (tl hn rfl) ?_
 | refine RunsL.step tabOk hn rfl ?_
 | refine RunsL.nil ?_
 | refine Runs.toRegion 30 rfl ?_
 | ((first | refine RunsL.pe hn rfl rfl rfl ?_ | refine RunsD.pe rfl rfl ?_); first
 | refine ⟨_, pu_callR hv rfl, ?_⟩
 | refine ⟨_, pu_buildS rfl, ?_⟩)
 | (refine Runs.ctls 30 rfl ?_; first | refine Runs.cond_t rfl ?_ | refine Runs.cond_f rfl ?_ | ((first | refine Runs.cond_yes rfl ?_ ?_ | refine Runs.cond_nno rfl ?_ ?_); · first | omega | rfl | assumption | (simp only [List.length_map]; omega)) | ((first | refine Runs.cond_no rfl ?_ ?_ | refine Runs.cond_nyes rfl ?_ ?_); · first | omega | rfl | assumption | (simp only [List.length_map]; omega)) | refine Runs.ret (ends_ro hm rfl rfl ?_) | exact Runs.ret (ends_cellR hm rfl rfl rfl (Nat.le_of_ble_eq_true rfl) rfl rfl))
 | refine op_box rfl (tl hn rfl) ?_
 | refine op_storeF rfl rfl rfl rfl (Nat.le_of_ble_eq_true rfl) ?_
 | refine op_alloc (tl hn rfl) ?_
 | refine op_storeN rfl rfl rfl rfl (Nat.le_of_ble_eq_true rfl) ?_
 | ((first | refine RunsL.pe hn rfl rfl rfl ?_ | refine RunsD.pe rfl rfl ?_); first
 | refine ⟨_, pu_add rfl rfl (by omega), ?_⟩
 | refine ⟨_, pu_indexAddr_map rfl rfl (by omega) (by assumption), ?_⟩
 | refine ⟨_, pu_sub rfl rfl (by omega), ?_⟩
 | refine ⟨_, pu_pick_b rfl rfl rfl, ?_⟩
 | refine ⟨_, pu_mul rfl rfl (by omega), ?_⟩
 | refine ⟨_, pu_build rfl rfl rfl rfl rfl rfl, ?_⟩))
    refine Runs.nilCell 3 1 (e := 3) (sz := 1) (by decide) rfl rfl ?_
    refine Runs.loopN 30 rfl (fun j => [(1, .obj 0 0), (2, .obj 1 0), (3, .obj 3 0), (16, .int (d.length : Int)), (17, .int (j : Int))]) (fun j => cdS d (cdC 0 (cdT d j)) (cdE d j)) (fun _ => True) d.length 0 (Nat.zero_le _) trivial ⟨rfl, rfl, rfl, by simp [look], rfl, trivial⟩ (by rw [show cdT d 0 = [] by simp [cdT], show cdE d 0 = [] by simp [cdE]]; rfl) fun j hj _ next => ?_
    have hcl := cdT_le d hd hG j hj
    have hce := cdE_len d j
    by_cases hlt : j < d.length
    · have hR := impl_CompileRule d ho hd (j : Int) ((cdC 0 (cdT d j)).length : Nat) (cdE d j)
      have hcl1 := cdT_le d hd hG (j + 1) hlt
      rw [cdT, List.length_append] at hcl1
      have hrl : (cmpL d j ((cdC 0 (cdT d j)).length : Nat) (cdE d j)).length ≤ 3145896 := by
        rw [cdC_len]; omega
      have hcc : (cdC 0 (cdT d j)).length = (cdT d j).length + 2 := rfl
      generalize hq : cmpL d j ((cdC 0 (cdT d j)).length : Nat) (cdE d j) = q at hR hrl
      rw [insRV0] at hR
      repeat' (first
 | refine Runs.toDrawT (id := 8) 30 [] [0, 1, 2, 3, 4, 5, 6, 7] 8 [] mixed hn rfl (by kernel_rfl) rfl .nil (by decide) (by decide) (by decide) ?_
 | refine RunsL.junk 3 0 rfl (op_append (t := 31) (i := 2) (n := (cdC 0 (cdT d j)).length) rfl rfl rfl rfl rfl rfl (by rw [insR_flat]) (FreeI.at_ (i := 2) (by repeat' (first | exact trivial | exact onlys_ro _ _ | exact (by decide : (4 : Nat) ≠ 2) | refine ⟨?_, ?_⟩))) (by simp only [List.length_map]; omega) (by simp only [List.length_map]; omega) (tl hn rfl) ?_)
 | refine RunsL.junk 3 1 rfl (op_append (t := 37) (i := 4) (n := (cdE d j).length) rfl rfl rfl rfl rfl rfl (by simp) (FreeI.at_ (i := 4) (by repeat' (first | exact trivial | exact onlys_ro _ _ | exact (by decide : (2 : Nat) ≠ 4) | refine ⟨?_, ?_⟩))) (by simp; omega) (by simp; omega) (tl hn rfl) ?_)
 | refine RunsT.nil ?_
 | refine RunsT.step tabOk rfl rfl (fun _ => rfl) (by decide) ?_
 | refine RunsT.pur (fun _ => pu_len_own (n := (cdC 0 (cdT d j)).length) rfl rfl (inss_len3 _)) (by decide) rfl rfl ?_
 | refine RunsT.pur (fun _ => pu_callSL hR (els := q.map insR) (insRV0 q) (fun x hx => by obtain ⟨y, _, rfl⟩ := List.mem_map.1 hx; rfl) (.cons .ro (.cons .ro (.cons .ro (.cons lend_e .nil))))) (by decide) rfl rfl ?_
 | refine RunsT.pur (fun _ => pu_add rfl rfl (by omega)) (by decide) rfl rfl ?_
 | refine RunsL.step tabOk hn rfl ?_
 | refine RunsL.nil ?_
 | refine Runs.toRegion 30 rfl ?_
 | ((first | refine RunsL.pe hn rfl rfl rfl ?_ | refine RunsD.pe rfl rfl ?_); first
 | refine ⟨_, pu_len_own (n := (cdC 0 (cdT d j)).length) rfl rfl (inss_len3 _), ?_⟩
 | refine ⟨_, pu_callSL hR (els := q.map insR) (insRV0 q) (fun x hx => by obtain ⟨y, _, rfl⟩ := List.mem_map.1 hx; rfl) (.cons .ro (.cons .ro (.cons .ro (.cons lend_e .nil)))), ?_⟩)
 | (refine Runs.ctls 30 rfl ?_; first | refine Runs.cond_t rfl ?_ | refine Runs.cond_f rfl ?_ | ((first | refine Runs.cond_yes rfl ?_ ?_ | refine Runs.cond_nno rfl ?_ ?_); · first | omega | rfl | assumption | (simp only [List.length_map]; omega)) | ((first | refine Runs.cond_no rfl ?_ ?_ | refine Runs.cond_nyes rfl ?_ ?_); · first | omega | rfl | assumption | (simp only [List.length_map]; omega)) | refine Runs.ret (ends_ro hm rfl rfl ?_) | exact Runs.ret (ends_cellR hm rfl rfl rfl (Nat.le_of_ble_eq_true rfl) rfl rfl))
 | refine op_box rfl (tl hn rfl) ?_
 | refine op_storeF rfl rfl rfl rfl (Nat.le_of_ble_eq_true rfl) ?_
 | refine op_alloc (tl hn rfl) ?_
 | refine op_storeN rfl rfl rfl rfl (Nat.le_of_ble_eq_true rfl) ?_
 | ((first | refine RunsL.pe hn rfl rfl rfl ?_ | refine RunsD.pe rfl rfl ?_); first
 | refine ⟨_, pu_add rfl rfl (by omega), ?_⟩
 | refine ⟨_, pu_indexAddr_map rfl rfl (by omega) (by assumption), ?_⟩
 | refine ⟨_, pu_sub rfl rfl (by omega), ?_⟩
 | refine ⟨_, pu_pick_b rfl rfl rfl, ?_⟩
 | refine ⟨_, pu_mul rfl rfl (by omega), ?_⟩
 | refine ⟨_, pu_build rfl rfl rfl rfl rfl rfl, ?_⟩))
      refine next _ _ ⟨rfl, rfl, rfl, rfl, rfl, trivial⟩ hlt trivial ?_
      have e1 : cdT d (j + 1) = cdT d j ++ q := by rw [cdT, ← hq]; rfl
      have e2 : cdE d (j + 1) = cdE d j ++ [((cdC 0 (cdT d j)).length : Int)] := by rw [cdE]; rfl
      rw [e1, e2, cdC_app]
      unfold cdS
      rw [List.flatMap_append, List.map_append (f := RV.int)]
      rfl
    · obtain rfl : j = d.length := by omega
      obtain ⟨z, hz⟩ : ∃ z, (cdE d d.length)[d.length - 1]? = some z := ⟨_, List.getElem?_eq_getElem (by omega)⟩
      have hzz : (((cdE d d.length).map RV.int).map AV.ro)[((d.length : Int) - 1).toNat * 1]? = some (.ro (.int z)) := by
        rw [show ((d.length : Int) - 1).toNat * 1 = d.length - 1 by omega]
        simp [hz]
      rw [hz]
      repeat' (first
 | refine Runs.toDrawT (id := 11) 30 [] [0, 1, 2, 3, 4, 5, 6, 7, 8, 9] 10 [] mixed hn rfl (by kernel_rfl) rfl .nil (by decide) (by decide) (by decide) ?_
 | refine RunsT.nil ?_
 | refine RunsT.step tabOk rfl rfl (fun _ => rfl) (by decide) ?_
 | refine RunsT.pur (fun _ => pu_callR hr rfl) (by decide) rfl rfl ?_
 | refine RunsT.pur (fun _ => pu_indexAddr_own (n := d.length) (sz := 1) rfl rfl rfl rfl (by rw [ints_len1, hce]) (by omega) (by omega)) (by decide) rfl rfl ?_
 | refine RunsT.pur (fun _ => pu_load_obj rfl rfl hzz) (by decide) rfl rfl ?_
 | refine RunsT.pur (fun _ => pu_indexAddr_own (n := (cdC 0 (cdT d d.length)).length) (sz := 3) rfl rfl rfl rfl (inss_len3 _) (by omega) (by rw [cdC_len]; omega)) (by decide) rfl rfl ?_
 | refine RunsT.pur (fun _ => pu_add rfl rfl (by omega)) (by decide) rfl rfl ?_
 | refine RunsL.step tabOk hn rfl ?_
 | refine RunsL.nil ?_
 | refine Runs.toRegion 30 rfl ?_
 | ((first | refine RunsL.pe hn rfl rfl rfl ?_ | refine RunsD.pe rfl rfl ?_); first
 | refine ⟨_, pu_callR hr rfl, ?_⟩
 | refine ⟨_, pu_indexAddr_own (n := d.length) (sz := 1) rfl rfl rfl rfl (by rw [ints_len1, hce]) (by omega) (by omega), ?_⟩
 | refine ⟨_, pu_load_obj rfl rfl hzz, ?_⟩
 | refine ⟨_, pu_indexAddr_own (n := (cdC 0 (cdT d d.length)).length) (sz := 3) rfl rfl rfl rfl (inss_len3 _) (by omega) (by rw [cdC_len]; omega), ?_⟩
 | refine ⟨_, pu_sub rfl rfl (by omega), ?_⟩)
 | (refine Runs.ctls 30 rfl ?_; first | refine Runs.cond_t rfl ?_ | refine Runs.cond_f rfl ?_ | ((first | refine Runs.cond_yes rfl ?_ ?_ | refine Runs.cond_nno rfl ?_ ?_); · first | omega | rfl | assumption | (simp only [List.length_map]; omega)) | ((first | refine Runs.cond_no rfl ?_ ?_ | refine Runs.cond_nyes rfl ?_ ?_); · first | omega | rfl | assumption | (simp only [List.length_map]; omega)) | refine Runs.ret (ends_ro hm rfl rfl ?_) | exact Runs.ret (ends_cellR hm rfl rfl rfl (Nat.le_of_ble_eq_true rfl) rfl rfl))
 | refine op_box rfl (tl hn rfl) ?_
 | refine op_storeF rfl rfl rfl rfl (Nat.le_of_ble_eq_true rfl) ?_
 | refine op_alloc (tl hn rfl) ?_
 | refine op_storeN rfl rfl rfl rfl (Nat.le_of_ble_eq_true rfl) ?_
 | ((first | refine RunsL.pe hn rfl rfl rfl ?_ | refine RunsD.pe rfl rfl ?_); first
 | refine ⟨_, pu_add rfl rfl (by omega), ?_⟩
 | refine ⟨_, pu_indexAddr_map rfl rfl (by omega) (by assumption), ?_⟩
 | refine ⟨_, pu_sub rfl rfl (by omega), ?_⟩
 | refine ⟨_, pu_pick_b rfl rfl rfl, ?_⟩
 | refine ⟨_, pu_mul rfl rfl (by omega), ?_⟩
 | refine ⟨_, pu_build rfl rfl rfl rfl rfl rfl, ?_⟩))
      exact Runs.ctls 30 rfl (Runs.ret (ends1 hm rfl (.agg [.own 2, .own 4]) ⟨1, 0, _, rfl, rfl, .inr ⟨2, inferInstance, Nat.le_of_ble_eq_true rfl, rfl⟩⟩ (.agg [.row 38 3 ((cdC z (cdT d d.length)).flatMap insR), .row 3 1 ((cdE d d.length).map RV.int)]) [2, 4] ⟨_, rfl, _, _, [2], [4], rfl, rfl, ⟨2, rfl, rfl, rfl⟩, _, _, [4], [], rfl, rfl, ⟨4, rfl, rfl, rfl⟩, rfl, rfl⟩ (by simp) rfl))
  · rw [decide_eq_false hG] at hv
    rw [cdF_no hG]
    refine ac_enter Tryd.func6 rfl _ Tryd.ntmps6 (by simp) fun C hn hm => ?_
    repeat' (first
 | refine RunsL.step tabOk hn rfl ?_
 | refine RunsL.nil ?_
 | refine Runs.toRegion 30 rfl ?_
 | ((first | refine RunsL.pe hn rfl rfl rfl ?_ | refine RunsD.pe rfl rfl ?_); first
 | refine ⟨_, pu_callR hv rfl, ?_⟩
 | refine ⟨_, pu_buildS rfl, ?_⟩)
 | (refine Runs.ctls 30 rfl ?_; first | refine Runs.cond_t rfl ?_ | refine Runs.cond_f rfl ?_ | ((first | refine Runs.cond_yes rfl ?_ ?_ | refine Runs.cond_nno rfl ?_ ?_); · first | omega | rfl | assumption | (simp only [List.length_map]; omega)) | ((first | refine Runs.cond_no rfl ?_ ?_ | refine Runs.cond_nyes rfl ?_ ?_); · first | omega | rfl | assumption | (simp only [List.length_map]; omega)) | refine Runs.ret (ends_ro hm rfl rfl ?_) | exact Runs.ret (ends_cellR hm rfl rfl rfl (Nat.le_of_ble_eq_true rfl) rfl rfl))
 | refine op_box rfl (tl hn rfl) ?_
 | refine op_storeF rfl rfl rfl rfl (Nat.le_of_ble_eq_true rfl) ?_
 | refine op_alloc (tl hn rfl) ?_
 | refine op_storeN rfl rfl rfl rfl (Nat.le_of_ble_eq_true rfl) ?_
 | ((first | refine RunsL.pe hn rfl rfl rfl ?_ | refine RunsD.pe rfl rfl ?_); first
 | refine ⟨_, pu_add rfl rfl (by omega), ?_⟩
 | refine ⟨_, pu_indexAddr_map rfl rfl (by omega) (by assumption), ?_⟩
 | refine ⟨_, pu_sub rfl rfl (by omega), ?_⟩
 | refine ⟨_, pu_pick_b rfl rfl rfl, ?_⟩
 | refine ⟨_, pu_mul rfl rfl (by omega), ?_⟩
 | refine ⟨_, pu_build rfl rfl rfl rfl rfl rfl, ?_⟩))
    refine Runs.ctls 30 rfl ?_
    refine Runs.nilCell 1 0 (e := 38) (sz := 3) (by decide) rfl rfl ?_
    refine Runs.nilCell 1 1 (e := 3) (sz := 1) (by decide) rfl rfl ?_
    exact Runs.ret (ends1 hm rfl (.agg [.own 2, .own 3]) ⟨1, 0, _, rfl, rfl, .inr ⟨2, inferInstance, Nat.le_of_ble_eq_true rfl, rfl⟩⟩ (.agg [.row 38 3 [], .row 3 1 []]) [2, 3] ⟨_, rfl, _, _, [2], [3], rfl, rfl, ⟨2, rfl, rfl, rfl⟩, _, _, [3], [], rfl, rfl, ⟨3, rfl, rfl, rfl⟩, rfl, rfl⟩ (by simp) rfl)
end Go.Proofs.YtofefjklipglhaaDoor
/- Rows of instructions, taken as data. -/
namespace Go.Proofs.YtofefjklipglhaaDoor
set_option linter.unusedSimpArgs false
set_option linter.unusedVariables false
open Go.RowKit
theorem seals_inss (e : TypeId) (l : List Ins) : Seals (.row e 3 (l.flatMap insR)) (inssR l) := seals_rowN e 3 l insR fun x _ => rfl
end Go.Proofs.YtofefjklipglhaaDoor
/- How much code a description has: both sides. -/
namespace Go.Proofs.YtofefjklipglhaaDoor
set_option linter.unusedSimpArgs false
set_option linter.unusedVariables false
set_option maxRecDepth 100000
open Go.RowKit
open AV (Mem Keeps)
set_option maxRecDepth 100000
theorem seals_prg (p : Prg) : Seals (.agg [.row 38 3 (p.code.flatMap insR), .row 3 1 (p.entries.map RV.int)]) (prgR p) := by
  simp only [Seals, prgR]
  exact ⟨_, rfl, _, _, rfl, seals_inss _ _, _, _, rfl, (by
    have h := seals_row1 3 (p.entries.map RV.int)
    rw [List.map_map] at h
    exact h), rfl⟩
theorem code_field : ∃ fs fl, Tryd.prog.underlying 31 = some (.struct fs) ∧ fs[0]? = some fl ∧ fl.offset = 0 ∧ fl.type = 28 := ⟨_, _, Tryd.underlying31, rfl, rfl, rfl⟩
section
variable {C : Ctx} {env : Env} {σ : List Ob} {t : Nat} {ty : TypeId} {pos : String} {after : Array Edge} {gd : Option (Nat × Bool)}
theorem pu_codeField {x : Operand} {p : Prg} (hx : ev env x = .ro (prgR p)) : Pur Tryd.prog C ⟨some t, .field 31 x 0, ty, pos, after, gd⟩ env σ (.ro (inssR p.code)) := by
  obtain ⟨fs, fl, h1, h2, h3, h4⟩ := code_field
  have : T1 Tryd.prog fl.type := by rw [h4]; infer_instance
  exact pu_fieldV h1 h2 h3 hx rfl
end
theorem impl_CodeSize (d : Des) (ho : DesOk d) (hd : dtotal d ≤ 1048576) : ACv Tryd.prog 9 [desR d] (.int ((cdF d).code.length : Int)) := by
  have hC := (impl_CompileDescription d ho hd).shut (r := prgR (cdF d)) (by rintro _ rfl; exact seals_prg _)
  have hlm : ((cdF d).code.map insR).length = (cdF d).code.length := List.length_map ..
  refine ac_enter Tryd.func9 rfl _ Tryd.ntmps9 (by simp) fun C hn hm => ?_
  repeat' (first
 | refine RunsL.step tabOk hn rfl ?_
 | refine RunsL.nil ?_
 | refine Runs.toRegion 30 rfl ?_
 | (refine RunsL.pe hn rfl rfl rfl ?_; first
 | refine ⟨_, pu_callR hC rfl, ?_⟩
 | refine ⟨_, pu_codeField rfl, ?_⟩)
 | (refine Runs.ctls 30 rfl ?_; first | ((first | refine Runs.cond_yes rfl ?_ ?_ | refine Runs.cond_nno rfl ?_ ?_); · first | omega | rfl | assumption | (simp only [List.length_map]; omega)) | ((first | refine Runs.cond_no rfl ?_ ?_ | refine Runs.cond_nyes rfl ?_ ?_); · first | omega | rfl | assumption | (simp only [List.length_map]; omega)) | refine Runs.ret (ends_ro hm rfl rfl ?_) | exact Runs.ret (ends_cellR hm rfl rfl rfl (Nat.le_of_ble_eq_true rfl) rfl rfl))
 | refine op_box rfl (tl hn rfl) ?_
    )
  exact rr_int (by rw [hlm])
end Go.Proofs.YtofefjklipglhaaDoor
/- A row of the frame's own becomes data for good; an empty literal as data. Over any program. -/
namespace Go.Proofs.YtofefjklipglhaaDoor
set_option linter.unusedSimpArgs false
set_option linter.unusedVariables false
open Go.RowKit
open AV (Mem Keeps)
section
variable {P : Program} {C : Ctx} {k : List Item} {R : Act → World → Prop} {env : Env} {σ : List Ob}
variable {t : Nat} {ty : TypeId} {pos : String} {after : Array Edge} {gd : Option (Nat × Bool)}
end
end Go.Proofs.YtofefjklipglhaaDoor
/- Small helpers of the laws. -/
namespace Go.Proofs.YtofefjklipglhaaDoor
set_option linter.unusedSimpArgs false
set_option linter.unusedVariables false
set_option maxRecDepth 100000
open Go.RowKit
open AV (Mem Keeps)
theorem big_ac (b : List UInt8) : ACv Tryd.prog 4 [bytesR b] (.bool (decide ((1048576 : Int) < b.length))) := by
  have hlb : (b.map fun z => [RV.u8 z]).length = b.length := List.length_map ..
  refine ac_enter Tryd.func4 rfl _ Tryd.ntmps4 (by simp) fun C hn hm => ?_
  repeat' (first
 | (refine RunsL.pe hn rfl rfl rfl ?_; first
 | refine ⟨_, pu_len_seqN b.length rfl hlb, ?_⟩)
 | refine RunsL.step tabOk hn rfl ?_
 | refine RunsL.nil ?_
 | refine Runs.toRegion 30 rfl ?_
 | (refine Runs.ctls 30 rfl ?_; first | ((first | refine Runs.cond_yes rfl ?_ ?_ | refine Runs.cond_nno rfl ?_ ?_); · first | omega | rfl | assumption | (simp only [List.length_map]; omega)) | ((first | refine Runs.cond_no rfl ?_ ?_ | refine Runs.cond_nyes rfl ?_ ?_); · first | omega | rfl | assumption | (simp only [List.length_map]; omega)) | refine Runs.ret (ends_ro hm rfl rfl ?_) | exact Runs.ret (ends_cellR hm rfl rfl rfl (Nat.le_of_ble_eq_true rfl) rfl rfl))
    )
  all_goals exact rr_bool rfl
end Go.Proofs.YtofefjklipglhaaDoor
/- FnCompiledRules: the calls of a rule's code are its rules. Plain laws, and the law's helper. -/
namespace Go.Proofs.YtofefjklipglhaaDoor
set_option linter.unusedSimpArgs false
set_option linter.unusedVariables false
set_option maxRecDepth 100000
open Go.RowKit
theorem kn_at {d : Des} (hG : Good' d) {j : Nat} (hj : j < d.length) : Kn d (j : Int) := ⟨hG, by
  show HasR d j
  exact ⟨by omega, by omega⟩⟩
end Go.Proofs.YtofefjklipglhaaDoor
/- The verifier of one instruction. -/
namespace Go.Proofs.YtofefjklipglhaaDoor
set_option linter.unusedSimpArgs false
set_option linter.unusedVariables false
open Go.RowKit
set_option maxHeartbeats 4000000 in
theorem impl_IsSafeInstruction (p : Prg) (i : Int) (hi : I64 i) (hl : p.code.length ≤ maxLen) : ACv Tryd.prog 21 [prgR p, .int i] (.bool (decide (SafeI p i))) := by
  unfold maxLen at hl
  unfold I64 at hi
  refine ac_enter Tryd.func21 rfl _ Tryd.ntmps21 (by simp) fun C hn hm => ?_
  by_cases hx : Idx p i
  · have hx2 := hx
    unfold Idx at hx2
    obtain ⟨x, hx'⟩ : ∃ x, p.code[i.toNat]? = some x := ⟨_, List.getElem?_eq_getElem (by omega)⟩
    have hS := safeI_some hx'
    repeat' (first
 | refine RunsL.step tabOk hn rfl ?_
 | refine RunsL.nil ?_
 | refine Runs.toRegion 30 rfl ?_
 | (refine RunsL.pe hn rfl rfl rfl ?_; first
 | refine ⟨_, pu_callR (inRange_ac _ _ _) rfl, ?_⟩
 | refine ⟨_, pu_callR (isIndex_ac _ _) rfl, ?_⟩
 | refine ⟨_, pu_callR (goesOn_ac _) rfl, ?_⟩)
 | (refine Runs.ctls 30 rfl ?_; first | refine Runs.cond_t rfl ?_ | refine Runs.cond_f rfl ?_ | ((first | refine Runs.cond_yes rfl ?_ ?_ | refine Runs.cond_nno rfl ?_ ?_); · first | omega | rfl | assumption | (simp only [List.length_map]; omega)) | ((first | refine Runs.cond_no rfl ?_ ?_ | refine Runs.cond_nyes rfl ?_ ?_); · first | omega | rfl | assumption | (simp only [List.length_map]; omega)) | refine Runs.cond_dec rfl (fun h => ?_) (fun h => ?_) | refine Runs.cond_ndec rfl (fun h => ?_) (fun h => ?_) | refine Runs.ret (ends_ro hm rfl rfl ?_) | exact Runs.ret (ends_cellR hm rfl rfl rfl (Nat.le_of_ble_eq_true rfl) rfl rfl))
 | refine op_box rfl (tl hn rfl) ?_
 | refine op_alloc (tl hn rfl) ?_
 | refine op_storeN rfl rfl rfl rfl (Nat.le_of_ble_eq_true rfl) ?_
 | (refine RunsL.pe hn rfl rfl rfl ?_; first
 | refine ⟨_, pu_add rfl rfl (by omega), ?_⟩
 | refine ⟨_, pu_indexAddr_map rfl rfl (by omega) (by assumption), ?_⟩
        )
 | ((first | refine RunsL.guard_dec rfl rfl rfl ?_ ?_ | refine RunsL.guard_ndec rfl rfl rfl ?_ ?_ | refine RunsL.guard_nb rfl rfl rfl ?_ ?_ | refine RunsL.guard_b rfl rfl rfl ?_ ?_) <;> intro h <;> try (exfalso; first | omega | contradiction | (simp only [List.length_map] at h; omega))))
    all_goals exact rr_bool (by rw [Bool.eq_iff_iff]; simp only [decide_eq_true_eq, Bool.not_eq_true', decide_eq_false_iff_not, Bool.false_eq_true, true_iff, false_iff, Bool.and_eq_true, Bool.or_eq_true, Bool.not_eq_eq_eq_not, Bool.not_true, Bool.not_false, reduceCtorEq, eq_self, iff_true, iff_false, ne_eq]; simp only [hS, SafeX, OpOk, Idx, Goes, InR] at *; first | (simp [*]; done) | (simp [*]; omega) | omega)
  · have hS := safeI_out hx
    repeat' (first
 | refine RunsL.step tabOk hn rfl ?_
 | refine RunsL.nil ?_
 | refine Runs.toRegion 30 rfl ?_
 | (refine RunsL.pe hn rfl rfl rfl ?_; first
 | refine ⟨_, pu_callR (inRange_ac _ _ _) rfl, ?_⟩
 | refine ⟨_, pu_callR (isIndex_ac _ _) rfl, ?_⟩
 | refine ⟨_, pu_callR (goesOn_ac _) rfl, ?_⟩)
 | (refine Runs.ctls 30 rfl ?_; first | refine Runs.cond_t rfl ?_ | refine Runs.cond_f rfl ?_ | ((first | refine Runs.cond_yes rfl ?_ ?_ | refine Runs.cond_nno rfl ?_ ?_); · first | omega | rfl | assumption | (simp only [List.length_map]; omega)) | ((first | refine Runs.cond_no rfl ?_ ?_ | refine Runs.cond_nyes rfl ?_ ?_); · first | omega | rfl | assumption | (simp only [List.length_map]; omega)) | refine Runs.cond_dec rfl (fun h => ?_) (fun h => ?_) | refine Runs.cond_ndec rfl (fun h => ?_) (fun h => ?_) | refine Runs.ret (ends_ro hm rfl rfl ?_) | exact Runs.ret (ends_cellR hm rfl rfl rfl (Nat.le_of_ble_eq_true rfl) rfl rfl))
 | refine op_box rfl (tl hn rfl) ?_
 | refine op_alloc (tl hn rfl) ?_
 | refine op_storeN rfl rfl rfl rfl (Nat.le_of_ble_eq_true rfl) ?_
 | (refine RunsL.pe hn rfl rfl rfl ?_; first
 | refine ⟨_, pu_add rfl rfl (by omega), ?_⟩
 | refine ⟨_, pu_indexAddr_map rfl rfl (by omega) (by assumption), ?_⟩
        )
 | ((first | refine RunsL.guard_dec rfl rfl rfl ?_ ?_ | refine RunsL.guard_ndec rfl rfl rfl ?_ ?_ | refine RunsL.guard_nb rfl rfl rfl ?_ ?_ | refine RunsL.guard_b rfl rfl rfl ?_ ?_) <;> intro h <;> try (exfalso; first | omega | contradiction | (simp only [List.length_map] at h; omega))))
    all_goals rw [decide_eq_false (hS.1 ·)]
end Go.Proofs.YtofefjklipglhaaDoor
/- The verifier of programs: places, loops, marks: both sides. -/
namespace Go.Proofs.YtofefjklipglhaaDoor
set_option linter.unusedSimpArgs false
set_option linter.unusedVariables false
open Go.RowKit
open AV (Mem Keeps)
def ACA (P : Program) (f : FuncId) (args : List AV) (R : RR → Prop) : Prop :=
  ∀ (w : World) (ok : Nat → Prop) (us : Array Value), (∀ b, w.heap.size ≤ b → ok b) → AV.rels ⟨w, fun _ => none, [], ok⟩ args us.toList →
    Calls P f us w fun e w' => ∃ u rr bs, e = .returned u ∧ R rr ∧ RR.rel w' (fun b => ok b ∧ b ∉ bs) rr u bs ∧ bs.Nodup ∧ (∀ b ∈ bs, w.heap.size ≤ b ∧ b < w'.heap.size) ∧ Below w.heap.size w w'
def startEnvQ : Nat → List AV → Env
  | _, [] => []
  | t, r :: rs => (t, r) :: startEnvQ (t + 1) rs
theorem startQ_look : ∀ (rs : List AV) (t k : Nat), look (startEnvQ t rs) k = if t ≤ k then (match rs[k - t]? with | some r => r | none => .junk) else .junk
  | [], t, k => by simp [startEnvQ, look]
  | r :: rs, t, k => by
    rw [startEnvQ, look_put, startQ_look rs (t + 1) k]
    by_cases h : t = k
    · subst h; simp
    · rw [if_neg h]
      by_cases h2 : t + 1 ≤ k
      · have e : k - t = (k - (t + 1)) + 1 := by omega
        rw [if_pos h2, if_pos (by omega : t ≤ k), e, List.getElem?_cons_succ]
      · rw [if_neg h2]
        split
        · omega
        · rfl
theorem aca_enter {P : Program} {f : FuncId} {fn : Func} {c : Code} {args : List AV} {R : RR → Prop} (hf : P.funcs[f]? = some fn) (hb : fn.body = some c) (n : Nat) (hn : fn.ntmps = n) (hl : args.length ≤ n)
    (h : ∀ C : Ctx, C.n = n → (∀ b, ¬ C.mu b) → Runs P C [.code c] (Ends P C fn R) ⟨startEnvQ 0 args, []⟩) : ACA P f args R := by
  intro w ok us h0 hu
  have hlen := AV.rels_len args _ hu
  refine calls_of_fin hf hb ?_
  have hs : Sim ⟨w, ok, fun _ => False, n⟩ ⟨startEnvQ 0 args, []⟩ { tmps := us ++ Array.replicate (fn.ntmps - us.size) undef, defers := [] } w := by
    refine ⟨rfl, by simp at hlen ⊢; omega, fun _ => none, ⟨rfl, fun i j g hi => by simp at hi, fun i o hi => by simp at hi, fun i g hi => by simp at hi, ⟨rfl, rfl, rfl, Nat.le_refl _, fun _ _ _ => rfl, h0⟩⟩, fun t => ?_⟩
    rw [startQ_look]
    simp only [Nat.zero_le, if_true, Nat.sub_zero]
    cases hr : args[t]? with
    | none => simp [AV.rel]
    | some r =>
      obtain ⟨u, e1, e2⟩ := AV.rels_at args _ hu t r hr
      have ht : t < us.size := by have := (List.getElem?_eq_some_iff.1 e1).1; simpa using this
      have : (us ++ Array.replicate (fn.ntmps - us.size) undef).getD t undef = u := by
        rw [Array.getD_eq_getD_getElem?, Array.getElem?_append_left ht]
        have : us[t]? = some u := by simpa using e1
        simp [this]
      simp only
      rw [this]
      exact e2
  have hr := (h ⟨w, ok, fun _ => False, n⟩ rfl (fun _ h => h)).run _ w hs
  intro b cs
  obtain ⟨a', w', todo, ⟨hd, v, hv, rr, bs, h1, h2, h3, h4, h5⟩, hst⟩ := hr b cs
  exact ⟨a', w', todo, ⟨hd, v, hv, v, rr, bs, rfl, h1, h2, h3, h4, h5⟩, hst⟩
def LendsA (C : Ctx) (σ : List Ob) (v v' : AV) : Prop := ∀ (m : Mem) (u : Value) (ok' : Nat → Prop), Good C m → m.σ = σ → (∀ b, m.ok b → ok' b) → (∀ (i g : Nat), i < σ.length → m.φ i = some g → ok' g) → AV.rel m v u → AV.rel ⟨m.w, fun _ => none, [], ok'⟩ v' u
inductive LendsAL (C : Ctx) (σ : List Ob) : List AV → List AV → Prop
  | nil : LendsAL C σ [] []
  | cons {v v' : AV} {vs vs' : List AV} : LendsA C σ v v' → LendsAL C σ vs vs' → LendsAL C σ (v :: vs) (v' :: vs')
section
variable {P : Program} {C : Ctx} {σ : List Ob}
theorem LendsA.of {v : AV} {r : RV} (h : Lends C σ v r) : LendsA C σ v (.ro r) := fun m u ok' hG hσ k1 k2 hu => by
  simp only [AV.rel]
  exact RV.rel_mono ⟨Nat.le_refl _, fun b _ hb => ⟨⟨hb, fun i hi => by simp at hi⟩, rfl⟩⟩ r u (h m u ok' hG hσ k1 k2 hu)
theorem LendsAL.rels {m : Mem} {ok' : Nat → Prop} (hG : Good C m) (hσ : m.σ = σ) (k1 : ∀ b, m.ok b → ok' b) (k2 : ∀ (i g : Nat), i < σ.length → m.φ i = some g → ok' g) {vs rs : List AV} (h : LendsAL C σ vs rs) : ∀ us, AV.rels m vs us → AV.rels ⟨m.w, fun _ => none, [], ok'⟩ rs us := by
  induction h with
  | nil => intro us hu; simpa [AV.rels] using hu
  | cons h1 _ ih =>
    intro us hu
    simp only [AV.rels] at hu ⊢
    obtain ⟨u, us', rfl, k3, k4⟩ := hu
    exact ⟨u, us', rfl, h1 m u ok' hG hσ k1 k2 k3, ih us' k4⟩
theorem LendsA.fn {f : Fn} {a b a' b' : List AV} (ha : LendsAL C σ a a') (hb : LendsAL C σ b b') : LendsA C σ (.fn f a b) (.fn f a' b') := fun m u ok' hG hσ k1 k2 hu => by
  simp only [AV.rel] at hu ⊢
  obtain ⟨us, vs, e, h1, h2⟩ := hu
  exact ⟨us, vs, e, ha.rels hG hσ k1 k2 _ h1, hb.rels hG hσ k1 k2 _ h2⟩
variable {env : Env} {t : Nat} {ty : TypeId} {pos : String} {after : Array Edge} {gd : Option (Nat × Bool)}
theorem pu_callA {f : FuncId} {fn : Func} {xs : Array Operand} {ats : Array TypeId} {args : List AV} {v : Value} [hfn : FN P f fn] (hf : ACA P f args fun rr => rr = .ro (.c v)) (ha : LendsAL C σ (xs.toList.map (ev env)) args) :
    Pur P C ⟨some t, .call { callee := .value (.func f), args := xs, argTypes := ats }, ty, pos, after, gd⟩ env σ (.ro (.c v)) := by
  refine ⟨fun a m hG hσ hH K Q hK => ?_⟩
  have hr := LendsAL.rels (ok' := fun _ => True) hG hσ (fun _ _ => trivial) (fun _ _ _ _ => trivial) ha _ (rels_eval (a := a) (m := m) xs.toList fun x hx => hH x (by simp [Op.operands, Call.operands]; exact .inr (by simpa using hx)))
  unfold Oper.wp
  rw [execOp_call_go, run_call hfn]
  simp only [Oper.upon]
  refine (hf m.w (fun _ => True) _ (fun _ _ => trivial) (by simpa using hr)).mono ?_
  rintro e w' ⟨u, rr, bs, rfl, rfl, h1, _, _, h4⟩
  simp only [RR.rel, RV.rel] at h1
  refine hK u w' h4 ?_
  simp only [AV.rel, RV.rel]
  exact h1.1
end
def opA (p : Prg) (i : Int) : Int := if 0 ≤ i then (match p.code[i.toNat]? with | some x => x.op | none => 0) else 0
def aA (p : Prg) (i : Int) : Int := if 0 ≤ i then (match p.code[i.toNat]? with | some x => x.a | none => 0) else 0
theorem opA_at {p : Prg} {i : Int} {x : Ins} (h0 : 0 ≤ i) (h : p.code[i.toNat]? = some x) : opA p i = x.op := by unfold opA; rw [if_pos h0, h]
theorem aA_at {p : Prg} {i : Int} {x : Ins} (h0 : 0 ≤ i) (h : p.code[i.toNat]? = some x) : aA p i = x.a := by unfold aA; rw [if_pos h0, h]
theorem opA_out {p : Prg} {i : Int} (h : ¬ Idx p i) : opA p i = 0 := by
  unfold opA
  split
  · split
    · rename_i x hx; have := (List.getElem?_eq_some_iff.1 hx).1; omega
    · rfl
  · rfl
theorem opA_in {p : Prg} {i : Int} (h : opA p i ≠ 0) : Idx p i := Classical.byContradiction fun hn => h (opA_out hn)
theorem idx_get {p : Prg} {i : Int} (h : Idx p i) : ∃ x, p.code[i.toNat]? = some x := ⟨_, List.getElem?_eq_getElem (by omega)⟩
def endA (p : Prg) (b : Int) : Int := match p.entries[(b + 1).toNat]? with | some e => e | none => p.code.length
def LoopAt (p : Prg) (k : Int) : Prop := opA p k = 7 ∧ opA p (k - 1) = 6 ∧ opA p (k + 1) = 9 ∧ opA p (k + 2) = 8 ∧ aA p (k + 2) = k ∧ aA p k = k + 3
def MarkAt (p : Prg) (k : Int) : Prop := opA p k = 14 ∧ opA p (k + 1) = 9 ∧ opA p (k + 2) = 15
noncomputable instance (p : Prg) (k : Int) : Decidable (LoopAt p k) := Classical.propDecidable _
noncomputable instance (p : Prg) (k : Int) : Decidable (MarkAt p k) := Classical.propDecidable _
abbrev Sm (k : Int) : Prop := -1000 ≤ k ∧ k ≤ 1000000
theorem opAt_ac (p : Prg) (i : Int) : ACv Tryd.prog 23 [prgR p, .int i] (.int (opA p i)) := by
  have hi := isIndex_ac p i
  refine ac_enter Tryd.func23 rfl _ Tryd.ntmps23 (by simp) fun C hn hm => ?_
  by_cases h : Idx p i
  · obtain ⟨x, hx⟩ := idx_get h
    rw [opA_at h.1 hx]
    repeat' (first
 | refine RunsL.step tabOk hn rfl ?_
 | refine RunsL.nil ?_
 | refine Runs.toRegion 30 rfl ?_
 | (refine RunsL.pe hn rfl rfl rfl ?_; first
 | refine ⟨_, pu_callR hi rfl, ?_⟩)
 | (refine Runs.ctls 30 rfl ?_; first | ((first | refine Runs.cond_yes rfl ?_ ?_ | refine Runs.cond_nno rfl ?_ ?_); · first | omega | rfl | assumption | (simp only [List.length_map]; omega)) | ((first | refine Runs.cond_no rfl ?_ ?_ | refine Runs.cond_nyes rfl ?_ ?_); · first | omega | rfl | assumption | (simp only [List.length_map]; omega)) | refine Runs.ret (ends_ro hm rfl rfl ?_) | exact Runs.ret (ends_cellR hm rfl rfl rfl (Nat.le_of_ble_eq_true rfl) rfl rfl))
 | refine op_box rfl (tl hn rfl) ?_
 | (refine RunsL.pe hn rfl rfl rfl ?_; first
 | refine ⟨_, pu_indexAddr_map rfl rfl (by omega) (by assumption), ?_⟩
        ))
    exact rr_int rfl
  · rw [opA_out h]
    repeat' (first
 | refine RunsL.step tabOk hn rfl ?_
 | refine RunsL.nil ?_
 | refine Runs.toRegion 30 rfl ?_
 | (refine RunsL.pe hn rfl rfl rfl ?_; first
 | refine ⟨_, pu_callR hi rfl, ?_⟩)
 | (refine Runs.ctls 30 rfl ?_; first | ((first | refine Runs.cond_yes rfl ?_ ?_ | refine Runs.cond_nno rfl ?_ ?_); · first | omega | rfl | assumption | (simp only [List.length_map]; omega)) | ((first | refine Runs.cond_no rfl ?_ ?_ | refine Runs.cond_nyes rfl ?_ ?_); · first | omega | rfl | assumption | (simp only [List.length_map]; omega)) | refine Runs.ret (ends_ro hm rfl rfl ?_) | exact Runs.ret (ends_cellR hm rfl rfl rfl (Nat.le_of_ble_eq_true rfl) rfl rfl))
 | refine op_box rfl (tl hn rfl) ?_
 | (refine RunsL.pe hn rfl rfl rfl ?_; first
 | refine ⟨_, pu_indexAddr_map rfl rfl (by omega) (by assumption), ?_⟩
        ))
    all_goals exact rr_int rfl
theorem blockEnd_ac (p : Prg) (b : Int) (h0 : 0 ≤ b) (h1 : b ≤ 9223372036854775806) (hl : p.entries.length ≤ maxLen) : ACv Tryd.prog 22 [prgR p, .int b] (.int (endA p b)) := by
  have hlm : (p.entries.map fun z => [RV.int z]).length = p.entries.length := List.length_map ..
  have hlc : (p.code.map insR).length = p.code.length := List.length_map ..
  unfold maxLen at hl
  refine ac_enter Tryd.func22 rfl _ Tryd.ntmps22 (by simp) fun C hn hm => ?_
  by_cases h : b + 1 < p.entries.length
  · obtain ⟨e, he⟩ : ∃ e, p.entries[(b + 1).toNat]? = some e := ⟨_, List.getElem?_eq_getElem (by omega)⟩
    have hr : endA p b = e := by unfold endA; rw [he]
    rw [hr]
    repeat' (first
 | refine RunsL.step tabOk hn rfl ?_
 | refine RunsL.nil ?_
 | refine Runs.toRegion 30 rfl ?_
 | (refine Runs.ctls 30 rfl ?_; first | ((first | refine Runs.cond_yes rfl ?_ ?_ | refine Runs.cond_nno rfl ?_ ?_); · first | omega | rfl | assumption | (simp only [List.length_map]; omega)) | ((first | refine Runs.cond_no rfl ?_ ?_ | refine Runs.cond_nyes rfl ?_ ?_); · first | omega | rfl | assumption | (simp only [List.length_map]; omega)) | refine Runs.ret (ends_ro hm rfl rfl ?_) | exact Runs.ret (ends_cellR hm rfl rfl rfl (Nat.le_of_ble_eq_true rfl) rfl rfl))
 | refine op_box rfl (tl hn rfl) ?_
 | (refine RunsL.pe hn rfl rfl rfl ?_; first
 | refine ⟨_, pu_add rfl rfl (by omega), ?_⟩
 | refine ⟨_, pu_indexAddr_map rfl rfl (by omega) (by assumption), ?_⟩
        ))
    exact rr_int rfl
  · have hr : endA p b = p.code.length := by
      unfold endA
      split
      · rename_i e he; have := (List.getElem?_eq_some_iff.1 he).1; omega
      · rfl
    rw [hr]
    repeat' (first
 | refine RunsL.step tabOk hn rfl ?_
 | refine RunsL.nil ?_
 | refine Runs.toRegion 30 rfl ?_
 | (refine Runs.ctls 30 rfl ?_; first | ((first | refine Runs.cond_yes rfl ?_ ?_ | refine Runs.cond_nno rfl ?_ ?_); · first | omega | rfl | assumption | (simp only [List.length_map]; omega)) | ((first | refine Runs.cond_no rfl ?_ ?_ | refine Runs.cond_nyes rfl ?_ ?_); · first | omega | rfl | assumption | (simp only [List.length_map]; omega)) | refine Runs.ret (ends_ro hm rfl rfl ?_) | exact Runs.ret (ends_cellR hm rfl rfl rfl (Nat.le_of_ble_eq_true rfl) rfl rfl))
 | refine op_box rfl (tl hn rfl) ?_
 | (refine RunsL.pe hn rfl rfl rfl ?_; first
 | refine ⟨_, pu_add rfl rfl (by omega), ?_⟩
 | refine ⟨_, pu_indexAddr_map rfl rfl (by omega) (by assumption), ?_⟩
        ))
    exact rr_int (by rw [hlc])
set_option maxHeartbeats 4000000 in
theorem safeMark_ac (p : Prg) (k : Int) (hk : Sm k) : ACv Tryd.prog 52 [prgR p, .int k] (.bool (decide (MarkAt p k))) := by
  refine ac_enter Tryd.func52 rfl _ Tryd.ntmps52 (by simp) fun C hn hm => ?_
  repeat' (first
 | refine RunsL.step tabOk hn rfl ?_
 | refine RunsL.nil ?_
 | refine Runs.toRegion 30 rfl ?_
 | (refine RunsL.pe hn rfl rfl rfl ?_; first
 | refine ⟨_, pu_callR (opAt_ac p _) rfl, ?_⟩)
 | (refine Runs.ctls 30 rfl ?_; first | ((first | refine Runs.cond_yes rfl ?_ ?_ | refine Runs.cond_nno rfl ?_ ?_); · first | omega | rfl | assumption | (simp only [List.length_map]; omega)) | ((first | refine Runs.cond_no rfl ?_ ?_ | refine Runs.cond_nyes rfl ?_ ?_); · first | omega | rfl | assumption | (simp only [List.length_map]; omega)) | refine Runs.ret (ends_ro hm rfl rfl ?_) | exact Runs.ret (ends_cellR hm rfl rfl rfl (Nat.le_of_ble_eq_true rfl) rfl rfl))
 | refine op_box rfl (tl hn rfl) ?_
 | (refine RunsL.pe hn rfl rfl rfl ?_; first
 | refine ⟨_, pu_add rfl rfl (by omega), ?_⟩
      )
 | ((first | refine RunsL.guard_dec rfl rfl rfl ?_ ?_ | refine RunsL.guard_ndec rfl rfl rfl ?_ ?_ | refine RunsL.guard_nb rfl rfl rfl ?_ ?_ | refine RunsL.guard_b rfl rfl rfl ?_ ?_) <;> intro h <;> try (exfalso; first | omega | contradiction | (simp only [List.length_map] at h; omega))))
  all_goals exact rr_bool (by rw [Bool.eq_iff_iff]; simp [MarkAt, *])
set_option maxHeartbeats 8000000 in
theorem safeLoop_ac (p : Prg) (k : Int) (hk : Sm k) : ACv Tryd.prog 51 [prgR p, .int k] (.bool (decide (LoopAt p k))) := by
  refine ac_enter Tryd.func51 rfl _ Tryd.ntmps51 (by simp) fun C hn hm => ?_
  by_cases h : opA p k = 7 ∧ opA p (k + 2) = 8
  · obtain ⟨x, hx⟩ := idx_get (opA_in (by rw [h.1]; decide : opA p k ≠ 0))
    obtain ⟨y, hy⟩ := idx_get (opA_in (by rw [h.2]; decide : opA p (k + 2) ≠ 0))
    have i1 := (opA_in (by rw [h.1]; decide : opA p k ≠ 0)).1
    have ex := aA_at i1 hx
    have ey := aA_at (by omega) hy
    repeat' (first
 | refine RunsL.step tabOk hn rfl ?_
 | refine RunsL.nil ?_
 | refine Runs.toRegion 30 rfl ?_
 | (refine RunsL.pe hn rfl rfl rfl ?_; first
 | refine ⟨_, pu_callR (opAt_ac p _) rfl, ?_⟩)
 | (refine Runs.ctls 30 rfl ?_; first | ((first | refine Runs.cond_yes rfl ?_ ?_ | refine Runs.cond_nno rfl ?_ ?_); · first | omega | rfl | assumption | (simp only [List.length_map]; omega)) | ((first | refine Runs.cond_no rfl ?_ ?_ | refine Runs.cond_nyes rfl ?_ ?_); · first | omega | rfl | assumption | (simp only [List.length_map]; omega)) | refine Runs.ret (ends_ro hm rfl rfl ?_) | exact Runs.ret (ends_cellR hm rfl rfl rfl (Nat.le_of_ble_eq_true rfl) rfl rfl))
 | refine op_box rfl (tl hn rfl) ?_
 | (refine RunsL.pe hn rfl rfl rfl ?_; first
 | refine ⟨_, pu_add rfl rfl (by omega), ?_⟩
 | refine ⟨_, pu_indexAddr_map rfl rfl (by omega) (by assumption), ?_⟩
 | refine ⟨_, pu_sub rfl rfl (by omega), ?_⟩
        )
 | ((first | refine RunsL.guard_dec rfl rfl rfl ?_ ?_ | refine RunsL.guard_ndec rfl rfl rfl ?_ ?_ | refine RunsL.guard_nb rfl rfl rfl ?_ ?_ | refine RunsL.guard_b rfl rfl rfl ?_ ?_) <;> intro h <;> try (exfalso; first | omega | contradiction | (simp only [List.length_map] at h; omega))))
    all_goals exact rr_bool (by rw [Bool.eq_iff_iff]; simp [LoopAt, *])
  · repeat' (first
 | refine RunsL.step tabOk hn rfl ?_
 | refine RunsL.nil ?_
 | refine Runs.toRegion 30 rfl ?_
 | (refine RunsL.pe hn rfl rfl rfl ?_; first
 | refine ⟨_, pu_callR (opAt_ac p _) rfl, ?_⟩)
 | (refine Runs.ctls 30 rfl ?_; first | ((first | refine Runs.cond_yes rfl ?_ ?_ | refine Runs.cond_nno rfl ?_ ?_); · first | omega | rfl | assumption | (simp only [List.length_map]; omega)) | ((first | refine Runs.cond_no rfl ?_ ?_ | refine Runs.cond_nyes rfl ?_ ?_); · first | omega | rfl | assumption | (simp only [List.length_map]; omega)) | refine Runs.ret (ends_ro hm rfl rfl ?_) | exact Runs.ret (ends_cellR hm rfl rfl rfl (Nat.le_of_ble_eq_true rfl) rfl rfl))
 | refine op_box rfl (tl hn rfl) ?_
 | (refine RunsL.pe hn rfl rfl rfl ?_; first
 | refine ⟨_, pu_add rfl rfl (by omega), ?_⟩
 | refine ⟨_, pu_indexAddr_map rfl rfl (by omega) (by assumption), ?_⟩
 | refine ⟨_, pu_sub rfl rfl (by omega), ?_⟩
      )
 | ((first | refine RunsL.guard_dec rfl rfl rfl ?_ ?_ | refine RunsL.guard_ndec rfl rfl rfl ?_ ?_ | refine RunsL.guard_nb rfl rfl rfl ?_ ?_ | refine RunsL.guard_b rfl rfl rfl ?_ ?_) <;> intro h <;> try (exfalso; first | omega | contradiction | (simp only [List.length_map] at h; omega))))
    all_goals first
      | exact rr_bool (decide_eq_false (p := LoopAt p k) fun hN => by unfold LoopAt at hN; first | omega | exact h ⟨hN.1, hN.2.2.2.1⟩).symm
      | (exfalso; exact h ⟨by assumption, by assumption⟩)
end Go.Proofs.YtofefjklipglhaaDoor
/- The verifier of programs: one instruction in its block: both sides. -/
namespace Go.Proofs.YtofefjklipglhaaDoor
set_option linter.unusedSimpArgs false
set_option linter.unusedVariables false
open Go.RowKit
def fnd (l : List Int) (a : Int) : Int := if a ∈ l then (l.idxOf a : Int) else -1
theorem idxOf_at : ∀ {l : List Int} {j : Nat} {a : Int}, l[j]? = some a → a ∉ l.take j → l.idxOf a = j
  | [], j, a, h, _ => by simp at h
  | x :: l, 0, a, h, _ => by simp at h; subst h; simp
  | x :: l, j + 1, a, h, hn => by
    simp only [List.getElem?_cons_succ] at h
    simp only [List.take_succ_cons, List.mem_cons, not_or] at hn
    rw [List.idxOf_cons]
    have : (x == a) = false := by simpa using fun e => hn.1 e.symm
    rw [this, cond_false, idxOf_at h hn.2]
theorem fnd_yes {l : List Int} {j : Nat} {a : Int} (h : l[j]? = some a) (hn : a ∉ l.take j) : fnd l a = j := by
  unfold fnd
  rw [if_pos (List.mem_of_getElem? h), idxOf_at h hn]
theorem fnd_no {l : List Int} {a : Int} (h : a ∉ l) : fnd l a = -1 := if_neg h
theorem fnd_ge (l : List Int) (a : Int) : (0 ≤ fnd l a) ↔ a ∈ l := by
  unfold fnd
  split
  · rename_i h; exact ⟨fun _ => h, fun _ => by omega⟩
  · rename_i h; exact ⟨fun h' => absurd h' (by omega), fun h' => absurd h' h⟩
theorem place1_ac (p : Prg) (tgt idx blk : Int) (h0 : 0 ≤ blk) (h1 : blk ≤ 9223372036854775806) (hl : p.entries.length ≤ maxLen) :
    ACv Tryd.prog 48 [.int tgt, .rp [.int idx], .rp [inssR p.code, intsR p.entries], .rp [.int blk]] (.bool (decide (idx < tgt ∧ tgt < endA p blk))) := by
  have he := blockEnd_ac p blk h0 h1 hl
  refine ac_enter Tryd.func48 rfl _ Tryd.ntmps48 (by simp) fun C hn hm => ?_
  repeat' (first
 | refine RunsL.step tabOk hn rfl ?_
 | refine RunsL.nil ?_
 | refine Runs.toRegion 30 rfl ?_
 | (refine RunsL.pe hn rfl rfl rfl ?_; first
 | refine ⟨_, pu_callR he rfl, ?_⟩)
 | (refine Runs.ctls 30 rfl ?_; first | ((first | refine Runs.cond_yes rfl ?_ ?_ | refine Runs.cond_nno rfl ?_ ?_); · first | omega | rfl | assumption | (simp only [List.length_map]; omega)) | ((first | refine Runs.cond_no rfl ?_ ?_ | refine Runs.cond_nyes rfl ?_ ?_); · first | omega | rfl | assumption | (simp only [List.length_map]; omega)) | refine Runs.ret (ends_ro hm rfl rfl ?_) | exact Runs.ret (ends_cellR hm rfl rfl rfl (Nat.le_of_ble_eq_true rfl) rfl rfl))
 | ((first | refine RunsL.guard_dec rfl rfl rfl ?_ ?_ | refine RunsL.guard_ndec rfl rfl rfl ?_ ?_ | refine RunsL.guard_nb rfl rfl rfl ?_ ?_ | refine RunsL.guard_b rfl rfl rfl ?_ ?_) <;> intro h <;> try (exfalso; first | omega | contradiction | (simp only [List.length_map] at h; omega))))
  all_goals exact rr_bool (by rw [Bool.eq_iff_iff]; simp [*])
theorem place2_ac (e : Int) (x : Ins) : ACv Tryd.prog 50 [.int e, .rp (insR x)] (.bool (decide (e = x.a))) := by
  refine ac_enter Tryd.func50 rfl _ Tryd.ntmps50 (by simp) fun C hn hm => ?_
  repeat' (first
 | refine RunsL.step tabOk hn rfl ?_
 | refine RunsL.nil ?_
 | refine Runs.toRegion 30 rfl ?_
 | (refine Runs.ctls 30 rfl ?_; first | ((first | refine Runs.cond_yes rfl ?_ ?_ | refine Runs.cond_nno rfl ?_ ?_); · first | omega | rfl | assumption | (simp only [List.length_map]; omega)) | ((first | refine Runs.cond_no rfl ?_ ?_ | refine Runs.cond_nyes rfl ?_ ?_); · first | omega | rfl | assumption | (simp only [List.length_map]; omega)) | refine Runs.ret (ends_ro hm rfl rfl ?_) | exact Runs.ret (ends_cellR hm rfl rfl rfl (Nat.le_of_ble_eq_true rfl) rfl rfl))
    )
  exact rr_bool rfl
set_option maxHeartbeats 4000000 in
theorem indexFunc_ac (l : List Int) (x : Ins) (hl : l.length ≤ maxLen) : ACA Tryd.prog 49 [.ro (intsR l), .fn (.func 50) [] [.ro (.rp (insR x))]] (fun rr => rr = .ro (.int (fnd l x.a))) := by
  have hlm : (l.map fun z => [RV.int z]).length = l.length := List.length_map ..
  unfold maxLen at hl
  refine aca_enter Tryd.func49 rfl _ Tryd.ntmps49 (by simp) fun C hn hm => ?_
  repeat' (first
 | refine RunsL.step tabOk hn rfl ?_
 | refine RunsL.nil ?_
 | refine Runs.toRegion 30 rfl ?_
 | (refine Runs.ctls 30 rfl ?_; first | ((first | refine Runs.cond_yes rfl ?_ ?_ | refine Runs.cond_nno rfl ?_ ?_); · first | omega | rfl | assumption | (simp only [List.length_map]; omega)) | ((first | refine Runs.cond_no rfl ?_ ?_ | refine Runs.cond_nyes rfl ?_ ?_); · first | omega | rfl | assumption | (simp only [List.length_map]; omega)) | refine Runs.cond_dec rfl (fun h => ?_) (fun h => ?_) | refine Runs.ret (ends_ro hm rfl rfl ?_) | exact Runs.ret (ends_cellR hm rfl rfl rfl (Nat.le_of_ble_eq_true rfl) rfl rfl))
 | (refine RunsL.pe hn rfl rfl rfl ?_; first
 | refine ⟨_, pu_add rfl rfl (by omega), ?_⟩
 | refine ⟨_, pu_indexAddr_map rfl rfl (by omega) (by assumption), ?_⟩
      ))
  refine Runs.loopN 30 rfl (fun j => [(7, .ro (intsR l)), (8, .int (l.length : Int)), (1, .fn (.func 50) [] [.ro (.rp (insR x))]), (9, .int (j : Int))]) (fun _ => []) (fun j => x.a ∉ l.take j) l.length 0 (Nat.zero_le _) (by simp) ⟨rfl, by simp [look], rfl, rfl, trivial⟩ rfl fun j hj hQ next => ?_
  by_cases hlt : j < l.length
  · obtain ⟨z, hz⟩ : ∃ z, l[(j : Int).toNat]? = some z := ⟨_, List.getElem?_eq_getElem hlt⟩
    have hz' : l[j]? = some z := hz
    have h2 := place2_ac z x
    repeat' (first
 | refine RunsL.step tabOk hn rfl ?_
 | refine RunsL.nil ?_
 | refine Runs.toRegion 30 rfl ?_
 | (refine RunsL.pe hn rfl rfl rfl ?_; first
 | refine ⟨_, pu_callF rfl h2 (.cons .ro (.cons .ro .nil)), ?_⟩)
 | (refine Runs.ctls 30 rfl ?_; first | ((first | refine Runs.cond_yes rfl ?_ ?_ | refine Runs.cond_nno rfl ?_ ?_); · first | omega | rfl | assumption | (simp only [List.length_map]; omega)) | ((first | refine Runs.cond_no rfl ?_ ?_ | refine Runs.cond_nyes rfl ?_ ?_); · first | omega | rfl | assumption | (simp only [List.length_map]; omega)) | refine Runs.cond_dec rfl (fun h => ?_) (fun h => ?_) | refine Runs.ret (ends_ro hm rfl rfl ?_) | exact Runs.ret (ends_cellR hm rfl rfl rfl (Nat.le_of_ble_eq_true rfl) rfl rfl))
 | (refine RunsL.pe hn rfl rfl rfl ?_; first
 | refine ⟨_, pu_add rfl rfl (by omega), ?_⟩
 | refine ⟨_, pu_indexAddr_map rfl rfl (by omega) (by assumption), ?_⟩
        ))
    · exact rr_int (fnd_yes (by rw [hz', h]) hQ).symm
    · refine next _ _ ⟨rfl, rfl, rfl, rfl, trivial⟩ hlt ?_ rfl
      rw [List.take_succ_eq_append_getElem hlt, List.mem_append]
      rintro (hm' | hm')
      · exact hQ hm'
      · rw [List.getElem?_eq_getElem hlt] at hz'; injection hz' with hz'
        simp only [List.mem_singleton] at hm'
        exact h (by rw [hm', hz'])
  · repeat' (first
 | refine RunsL.step tabOk hn rfl ?_
 | refine RunsL.nil ?_
 | refine Runs.toRegion 30 rfl ?_
 | (refine Runs.ctls 30 rfl ?_; first | ((first | refine Runs.cond_yes rfl ?_ ?_ | refine Runs.cond_nno rfl ?_ ?_); · first | omega | rfl | assumption | (simp only [List.length_map]; omega)) | ((first | refine Runs.cond_no rfl ?_ ?_ | refine Runs.cond_nyes rfl ?_ ?_); · first | omega | rfl | assumption | (simp only [List.length_map]; omega)) | refine Runs.cond_dec rfl (fun h => ?_) (fun h => ?_) | refine Runs.ret (ends_ro hm rfl rfl ?_) | exact Runs.ret (ends_cellR hm rfl rfl rfl (Nat.le_of_ble_eq_true rfl) rfl rfl))
 | (refine RunsL.pe hn rfl rfl rfl ?_; first
 | refine ⟨_, pu_add rfl rfl (by omega), ?_⟩
 | refine ⟨_, pu_indexAddr_map rfl rfl (by omega) (by assumption), ?_⟩
      ))
    rw [show j = l.length by omega, List.take_length] at hQ
    exact rr_int (fnd_no hQ).symm
def PlaceI (p : Prg) (b : Nat) (k : Int) (x : Ins) : Prop :=
  x.op ≠ 17 ∧ (x.op = 9 → x.a ∈ p.entries.take b) ∧ (x.op = 7 → LoopAt p k ∧ k < x.a ∧ x.a < endA p b) ∧ (x.op = 8 → LoopAt p (k - 2)) ∧ (x.op = 6 → LoopAt p (k + 1)) ∧
  (x.op = 13 → k < x.a ∧ x.a < endA p b) ∧ (x.op = 11 → k < x.b ∧ x.b < endA p b) ∧ (x.op = 14 → MarkAt p k) ∧ (x.op = 15 → MarkAt p (k - 2))
noncomputable instance (p : Prg) (b : Nat) (k : Int) (x : Ins) : Decidable (PlaceI p b k x) := Classical.propDecidable _
set_option maxHeartbeats 16000000 in
theorem safePlace_ac (p : Prg) (b : Nat) (k : Int) (x : Ins) (hb : b < p.entries.length) (hk : 0 ≤ k ∧ k ≤ 1000) (hx : p.code[k.toNat]? = some x) (hl : p.entries.length ≤ maxLen) :
    ACv Tryd.prog 24 [prgR p, .int (b : Int), .int k] (.bool (decide (PlaceI p b k x))) := by
  have hlm : (p.entries.map fun z => [RV.int z]).length = p.entries.length := List.length_map ..
  have hl' := hl
  unfold maxLen at hl'
  have p1 := fun tgt => place1_ac p tgt k b (by omega) (by omega) hl
  have hf := indexFunc_ac (p.entries.take b) x (by rw [List.length_take]; unfold maxLen; omega)
  have hge := fnd_ge (p.entries.take b) x.a
  have l1 := safeLoop_ac p k ⟨by omega, by omega⟩
  have l2 := safeLoop_ac p (k - 2) ⟨by omega, by omega⟩
  have l3 := safeLoop_ac p (k + 1) ⟨by omega, by omega⟩
  have m1 := safeMark_ac p k ⟨by omega, by omega⟩
  have m2 := safeMark_ac p (k - 2) ⟨by omega, by omega⟩
  refine ac_enter Tryd.func24 rfl _ Tryd.ntmps24 (by simp) fun C hn hm => ?_
  by_cases k17 : x.op = 17
  · repeat' (first
 | refine RunsL.step tabOk hn rfl ?_
 | refine RunsL.nil ?_
 | refine Runs.toRegion 30 rfl ?_
 | (refine RunsL.pe hn rfl rfl rfl ?_; first
 | refine ⟨_, pu_makeFunc, ?_⟩)
 | (refine Runs.ctls 30 rfl ?_; first | ((first | refine Runs.cond_yes rfl ?_ ?_ | refine Runs.cond_nno rfl ?_ ?_); · first | omega | rfl | assumption | (simp only [List.length_map]; omega)) | ((first | refine Runs.cond_no rfl ?_ ?_ | refine Runs.cond_nyes rfl ?_ ?_); · first | omega | rfl | assumption | (simp only [List.length_map]; omega)) | refine Runs.ret (ends_ro hm rfl rfl ?_) | exact Runs.ret (ends_cellR hm rfl rfl rfl (Nat.le_of_ble_eq_true rfl) rfl rfl))
 | refine op_box rfl (tl hn rfl) ?_
 | refine op_alloc (tl hn rfl) ?_
 | refine op_storeN rfl rfl rfl rfl (Nat.le_of_ble_eq_true rfl) ?_
 | (refine RunsL.pe hn rfl rfl rfl ?_; first
 | refine ⟨_, pu_add rfl rfl (by omega), ?_⟩
 | refine ⟨_, pu_indexAddr_map rfl rfl (by omega) (by assumption), ?_⟩
 | refine ⟨_, pu_sub rfl rfl (by omega), ?_⟩
      )
 | ((first | refine RunsL.guard_dec rfl rfl rfl ?_ ?_ | refine RunsL.guard_ndec rfl rfl rfl ?_ ?_ | refine RunsL.guard_nb rfl rfl rfl ?_ ?_ | refine RunsL.guard_b rfl rfl rfl ?_ ?_) <;> intro h <;> try (exfalso; first | omega | contradiction | (simp only [List.length_map] at h; omega))))
    all_goals exact rr_bool (by rw [Bool.eq_iff_iff]; simp [PlaceI, *])
  by_cases k9 : x.op = 9
  · repeat' (first
 | refine RunsL.step tabOk hn rfl ?_
 | refine RunsL.nil ?_
 | refine Runs.toRegion 30 rfl ?_
 | (refine RunsL.pe hn rfl rfl rfl ?_; first
 | refine ⟨_, pu_makeFunc, ?_⟩
 | refine ⟨_, pu_slice_hM rfl rfl (by omega) (by omega), ?_⟩
 | refine ⟨_, pu_callA hf (.cons (LendsA.of Lends.ro) (.cons (LendsA.fn .nil (.cons (LendsA.of (Lends.obj rfl (.cons .ro (.cons .ro (.cons .ro .nil))))) .nil)) .nil)), ?_⟩)
 | (refine Runs.ctls 30 rfl ?_; first | ((first | refine Runs.cond_yes rfl ?_ ?_ | refine Runs.cond_nno rfl ?_ ?_); · first | omega | rfl | assumption | (simp only [List.length_map]; omega)) | ((first | refine Runs.cond_no rfl ?_ ?_ | refine Runs.cond_nyes rfl ?_ ?_); · first | omega | rfl | assumption | (simp only [List.length_map]; omega)) | refine Runs.ret (ends_ro hm rfl rfl ?_) | exact Runs.ret (ends_cellR hm rfl rfl rfl (Nat.le_of_ble_eq_true rfl) rfl rfl))
 | refine op_box rfl (tl hn rfl) ?_
 | refine op_alloc (tl hn rfl) ?_
 | refine op_storeN rfl rfl rfl rfl (Nat.le_of_ble_eq_true rfl) ?_
 | (refine RunsL.pe hn rfl rfl rfl ?_; first
 | refine ⟨_, pu_add rfl rfl (by omega), ?_⟩
 | refine ⟨_, pu_indexAddr_map rfl rfl (by omega) (by assumption), ?_⟩
 | refine ⟨_, pu_sub rfl rfl (by omega), ?_⟩
      )
 | ((first | refine RunsL.guard_dec rfl rfl rfl ?_ ?_ | refine RunsL.guard_ndec rfl rfl rfl ?_ ?_ | refine RunsL.guard_nb rfl rfl rfl ?_ ?_ | refine RunsL.guard_b rfl rfl rfl ?_ ?_) <;> intro h <;> try (exfalso; first | omega | contradiction | (simp only [List.length_map] at h; omega))))
    all_goals exact rr_bool (by rw [Bool.eq_iff_iff]; simp [PlaceI, *])
  by_cases k7 : x.op = 7
  · repeat' (first
 | refine RunsL.step tabOk hn rfl ?_
 | refine RunsL.nil ?_
 | refine Runs.toRegion 30 rfl ?_
 | (refine RunsL.pe hn rfl rfl rfl ?_; first
 | refine ⟨_, pu_makeFunc, ?_⟩
 | refine ⟨_, pu_callR l1 rfl, ?_⟩
 | refine ⟨_, pu_callF rfl (p1 _) (.cons .ro (.cons (Lends.obj rfl (.cons .ro .nil)) (.cons (Lends.obj rfl (.cons .ro (.cons .ro .nil))) (.cons (Lends.obj rfl (.cons .ro .nil)) .nil)))), ?_⟩)
 | (refine Runs.ctls 30 rfl ?_; first | ((first | refine Runs.cond_yes rfl ?_ ?_ | refine Runs.cond_nno rfl ?_ ?_); · first | omega | rfl | assumption | (simp only [List.length_map]; omega)) | ((first | refine Runs.cond_no rfl ?_ ?_ | refine Runs.cond_nyes rfl ?_ ?_); · first | omega | rfl | assumption | (simp only [List.length_map]; omega)) | refine Runs.ret (ends_ro hm rfl rfl ?_) | exact Runs.ret (ends_cellR hm rfl rfl rfl (Nat.le_of_ble_eq_true rfl) rfl rfl))
 | refine op_box rfl (tl hn rfl) ?_
 | refine op_alloc (tl hn rfl) ?_
 | refine op_storeN rfl rfl rfl rfl (Nat.le_of_ble_eq_true rfl) ?_
 | (refine RunsL.pe hn rfl rfl rfl ?_; first
 | refine ⟨_, pu_add rfl rfl (by omega), ?_⟩
 | refine ⟨_, pu_indexAddr_map rfl rfl (by omega) (by assumption), ?_⟩
 | refine ⟨_, pu_sub rfl rfl (by omega), ?_⟩
      )
 | ((first | refine RunsL.guard_dec rfl rfl rfl ?_ ?_ | refine RunsL.guard_ndec rfl rfl rfl ?_ ?_ | refine RunsL.guard_nb rfl rfl rfl ?_ ?_ | refine RunsL.guard_b rfl rfl rfl ?_ ?_) <;> intro h <;> try (exfalso; first | omega | contradiction | (simp only [List.length_map] at h; omega))))
    all_goals exact rr_bool (by rw [Bool.eq_iff_iff]; simp [PlaceI, *])
  by_cases k8 : x.op = 8
  · repeat' (first
 | refine RunsL.step tabOk hn rfl ?_
 | refine RunsL.nil ?_
 | refine Runs.toRegion 30 rfl ?_
 | (refine RunsL.pe hn rfl rfl rfl ?_; first
 | refine ⟨_, pu_makeFunc, ?_⟩
 | refine ⟨_, pu_callR l2 rfl, ?_⟩)
 | (refine Runs.ctls 30 rfl ?_; first | ((first | refine Runs.cond_yes rfl ?_ ?_ | refine Runs.cond_nno rfl ?_ ?_); · first | omega | rfl | assumption | (simp only [List.length_map]; omega)) | ((first | refine Runs.cond_no rfl ?_ ?_ | refine Runs.cond_nyes rfl ?_ ?_); · first | omega | rfl | assumption | (simp only [List.length_map]; omega)) | refine Runs.ret (ends_ro hm rfl rfl ?_) | exact Runs.ret (ends_cellR hm rfl rfl rfl (Nat.le_of_ble_eq_true rfl) rfl rfl))
 | refine op_box rfl (tl hn rfl) ?_
 | refine op_alloc (tl hn rfl) ?_
 | refine op_storeN rfl rfl rfl rfl (Nat.le_of_ble_eq_true rfl) ?_
 | (refine RunsL.pe hn rfl rfl rfl ?_; first
 | refine ⟨_, pu_add rfl rfl (by omega), ?_⟩
 | refine ⟨_, pu_indexAddr_map rfl rfl (by omega) (by assumption), ?_⟩
 | refine ⟨_, pu_sub rfl rfl (by omega), ?_⟩
      )
 | ((first | refine RunsL.guard_dec rfl rfl rfl ?_ ?_ | refine RunsL.guard_ndec rfl rfl rfl ?_ ?_ | refine RunsL.guard_nb rfl rfl rfl ?_ ?_ | refine RunsL.guard_b rfl rfl rfl ?_ ?_) <;> intro h <;> try (exfalso; first | omega | contradiction | (simp only [List.length_map] at h; omega))))
    all_goals exact rr_bool (by rw [Bool.eq_iff_iff]; simp [PlaceI, *])
  by_cases k6 : x.op = 6
  · repeat' (first
 | refine RunsL.step tabOk hn rfl ?_
 | refine RunsL.nil ?_
 | refine Runs.toRegion 30 rfl ?_
 | (refine RunsL.pe hn rfl rfl rfl ?_; first
 | refine ⟨_, pu_makeFunc, ?_⟩
 | refine ⟨_, pu_callR l3 rfl, ?_⟩)
 | (refine Runs.ctls 30 rfl ?_; first | ((first | refine Runs.cond_yes rfl ?_ ?_ | refine Runs.cond_nno rfl ?_ ?_); · first | omega | rfl | assumption | (simp only [List.length_map]; omega)) | ((first | refine Runs.cond_no rfl ?_ ?_ | refine Runs.cond_nyes rfl ?_ ?_); · first | omega | rfl | assumption | (simp only [List.length_map]; omega)) | refine Runs.ret (ends_ro hm rfl rfl ?_) | exact Runs.ret (ends_cellR hm rfl rfl rfl (Nat.le_of_ble_eq_true rfl) rfl rfl))
 | refine op_box rfl (tl hn rfl) ?_
 | refine op_alloc (tl hn rfl) ?_
 | refine op_storeN rfl rfl rfl rfl (Nat.le_of_ble_eq_true rfl) ?_
 | (refine RunsL.pe hn rfl rfl rfl ?_; first
 | refine ⟨_, pu_add rfl rfl (by omega), ?_⟩
 | refine ⟨_, pu_indexAddr_map rfl rfl (by omega) (by assumption), ?_⟩
 | refine ⟨_, pu_sub rfl rfl (by omega), ?_⟩
      )
 | ((first | refine RunsL.guard_dec rfl rfl rfl ?_ ?_ | refine RunsL.guard_ndec rfl rfl rfl ?_ ?_ | refine RunsL.guard_nb rfl rfl rfl ?_ ?_ | refine RunsL.guard_b rfl rfl rfl ?_ ?_) <;> intro h <;> try (exfalso; first | omega | contradiction | (simp only [List.length_map] at h; omega))))
    all_goals exact rr_bool (by rw [Bool.eq_iff_iff]; simp [PlaceI, *])
  by_cases k13 : x.op = 13
  · repeat' (first
 | refine RunsL.step tabOk hn rfl ?_
 | refine RunsL.nil ?_
 | refine Runs.toRegion 30 rfl ?_
 | (refine RunsL.pe hn rfl rfl rfl ?_; first
 | refine ⟨_, pu_makeFunc, ?_⟩
 | refine ⟨_, pu_callF rfl (p1 _) (.cons .ro (.cons (Lends.obj rfl (.cons .ro .nil)) (.cons (Lends.obj rfl (.cons .ro (.cons .ro .nil))) (.cons (Lends.obj rfl (.cons .ro .nil)) .nil)))), ?_⟩)
 | (refine Runs.ctls 30 rfl ?_; first | ((first | refine Runs.cond_yes rfl ?_ ?_ | refine Runs.cond_nno rfl ?_ ?_); · first | omega | rfl | assumption | (simp only [List.length_map]; omega)) | ((first | refine Runs.cond_no rfl ?_ ?_ | refine Runs.cond_nyes rfl ?_ ?_); · first | omega | rfl | assumption | (simp only [List.length_map]; omega)) | refine Runs.ret (ends_ro hm rfl rfl ?_) | exact Runs.ret (ends_cellR hm rfl rfl rfl (Nat.le_of_ble_eq_true rfl) rfl rfl))
 | refine op_box rfl (tl hn rfl) ?_
 | refine op_alloc (tl hn rfl) ?_
 | refine op_storeN rfl rfl rfl rfl (Nat.le_of_ble_eq_true rfl) ?_
 | (refine RunsL.pe hn rfl rfl rfl ?_; first
 | refine ⟨_, pu_add rfl rfl (by omega), ?_⟩
 | refine ⟨_, pu_indexAddr_map rfl rfl (by omega) (by assumption), ?_⟩
 | refine ⟨_, pu_sub rfl rfl (by omega), ?_⟩
      )
 | ((first | refine RunsL.guard_dec rfl rfl rfl ?_ ?_ | refine RunsL.guard_ndec rfl rfl rfl ?_ ?_ | refine RunsL.guard_nb rfl rfl rfl ?_ ?_ | refine RunsL.guard_b rfl rfl rfl ?_ ?_) <;> intro h <;> try (exfalso; first | omega | contradiction | (simp only [List.length_map] at h; omega))))
    all_goals exact rr_bool (by rw [Bool.eq_iff_iff]; simp [PlaceI, *])
  by_cases k11 : x.op = 11
  · repeat' (first
 | refine RunsL.step tabOk hn rfl ?_
 | refine RunsL.nil ?_
 | refine Runs.toRegion 30 rfl ?_
 | (refine RunsL.pe hn rfl rfl rfl ?_; first
 | refine ⟨_, pu_makeFunc, ?_⟩
 | refine ⟨_, pu_callF rfl (p1 _) (.cons .ro (.cons (Lends.obj rfl (.cons .ro .nil)) (.cons (Lends.obj rfl (.cons .ro (.cons .ro .nil))) (.cons (Lends.obj rfl (.cons .ro .nil)) .nil)))), ?_⟩)
 | (refine Runs.ctls 30 rfl ?_; first | ((first | refine Runs.cond_yes rfl ?_ ?_ | refine Runs.cond_nno rfl ?_ ?_); · first | omega | rfl | assumption | (simp only [List.length_map]; omega)) | ((first | refine Runs.cond_no rfl ?_ ?_ | refine Runs.cond_nyes rfl ?_ ?_); · first | omega | rfl | assumption | (simp only [List.length_map]; omega)) | refine Runs.ret (ends_ro hm rfl rfl ?_) | exact Runs.ret (ends_cellR hm rfl rfl rfl (Nat.le_of_ble_eq_true rfl) rfl rfl))
 | refine op_box rfl (tl hn rfl) ?_
 | refine op_alloc (tl hn rfl) ?_
 | refine op_storeN rfl rfl rfl rfl (Nat.le_of_ble_eq_true rfl) ?_
 | (refine RunsL.pe hn rfl rfl rfl ?_; first
 | refine ⟨_, pu_add rfl rfl (by omega), ?_⟩
 | refine ⟨_, pu_indexAddr_map rfl rfl (by omega) (by assumption), ?_⟩
 | refine ⟨_, pu_sub rfl rfl (by omega), ?_⟩
      )
 | ((first | refine RunsL.guard_dec rfl rfl rfl ?_ ?_ | refine RunsL.guard_ndec rfl rfl rfl ?_ ?_ | refine RunsL.guard_nb rfl rfl rfl ?_ ?_ | refine RunsL.guard_b rfl rfl rfl ?_ ?_) <;> intro h <;> try (exfalso; first | omega | contradiction | (simp only [List.length_map] at h; omega))))
    all_goals exact rr_bool (by rw [Bool.eq_iff_iff]; simp [PlaceI, *])
  by_cases k14 : x.op = 14
  · repeat' (first
 | refine RunsL.step tabOk hn rfl ?_
 | refine RunsL.nil ?_
 | refine Runs.toRegion 30 rfl ?_
 | (refine RunsL.pe hn rfl rfl rfl ?_; first
 | refine ⟨_, pu_makeFunc, ?_⟩
 | refine ⟨_, pu_callR m1 rfl, ?_⟩)
 | (refine Runs.ctls 30 rfl ?_; first | ((first | refine Runs.cond_yes rfl ?_ ?_ | refine Runs.cond_nno rfl ?_ ?_); · first | omega | rfl | assumption | (simp only [List.length_map]; omega)) | ((first | refine Runs.cond_no rfl ?_ ?_ | refine Runs.cond_nyes rfl ?_ ?_); · first | omega | rfl | assumption | (simp only [List.length_map]; omega)) | refine Runs.ret (ends_ro hm rfl rfl ?_) | exact Runs.ret (ends_cellR hm rfl rfl rfl (Nat.le_of_ble_eq_true rfl) rfl rfl))
 | refine op_box rfl (tl hn rfl) ?_
 | refine op_alloc (tl hn rfl) ?_
 | refine op_storeN rfl rfl rfl rfl (Nat.le_of_ble_eq_true rfl) ?_
 | (refine RunsL.pe hn rfl rfl rfl ?_; first
 | refine ⟨_, pu_add rfl rfl (by omega), ?_⟩
 | refine ⟨_, pu_indexAddr_map rfl rfl (by omega) (by assumption), ?_⟩
 | refine ⟨_, pu_sub rfl rfl (by omega), ?_⟩
      )
 | ((first | refine RunsL.guard_dec rfl rfl rfl ?_ ?_ | refine RunsL.guard_ndec rfl rfl rfl ?_ ?_ | refine RunsL.guard_nb rfl rfl rfl ?_ ?_ | refine RunsL.guard_b rfl rfl rfl ?_ ?_) <;> intro h <;> try (exfalso; first | omega | contradiction | (simp only [List.length_map] at h; omega))))
    all_goals exact rr_bool (by rw [Bool.eq_iff_iff]; simp [PlaceI, *])
  by_cases k15 : x.op = 15
  · repeat' (first
 | refine RunsL.step tabOk hn rfl ?_
 | refine RunsL.nil ?_
 | refine Runs.toRegion 30 rfl ?_
 | (refine RunsL.pe hn rfl rfl rfl ?_; first
 | refine ⟨_, pu_makeFunc, ?_⟩
 | refine ⟨_, pu_callR m2 rfl, ?_⟩)
 | (refine Runs.ctls 30 rfl ?_; first | ((first | refine Runs.cond_yes rfl ?_ ?_ | refine Runs.cond_nno rfl ?_ ?_); · first | omega | rfl | assumption | (simp only [List.length_map]; omega)) | ((first | refine Runs.cond_no rfl ?_ ?_ | refine Runs.cond_nyes rfl ?_ ?_); · first | omega | rfl | assumption | (simp only [List.length_map]; omega)) | refine Runs.ret (ends_ro hm rfl rfl ?_) | exact Runs.ret (ends_cellR hm rfl rfl rfl (Nat.le_of_ble_eq_true rfl) rfl rfl))
 | refine op_box rfl (tl hn rfl) ?_
 | refine op_alloc (tl hn rfl) ?_
 | refine op_storeN rfl rfl rfl rfl (Nat.le_of_ble_eq_true rfl) ?_
 | (refine RunsL.pe hn rfl rfl rfl ?_; first
 | refine ⟨_, pu_add rfl rfl (by omega), ?_⟩
 | refine ⟨_, pu_indexAddr_map rfl rfl (by omega) (by assumption), ?_⟩
 | refine ⟨_, pu_sub rfl rfl (by omega), ?_⟩
      )
 | ((first | refine RunsL.guard_dec rfl rfl rfl ?_ ?_ | refine RunsL.guard_ndec rfl rfl rfl ?_ ?_ | refine RunsL.guard_nb rfl rfl rfl ?_ ?_ | refine RunsL.guard_b rfl rfl rfl ?_ ?_) <;> intro h <;> try (exfalso; first | omega | contradiction | (simp only [List.length_map] at h; omega))))
    all_goals exact rr_bool (by rw [Bool.eq_iff_iff]; simp [PlaceI, *])
  · repeat' (first
 | refine RunsL.step tabOk hn rfl ?_
 | refine RunsL.nil ?_
 | refine Runs.toRegion 30 rfl ?_
 | (refine RunsL.pe hn rfl rfl rfl ?_; first
 | refine ⟨_, pu_makeFunc, ?_⟩)
 | (refine Runs.ctls 30 rfl ?_; first | ((first | refine Runs.cond_yes rfl ?_ ?_ | refine Runs.cond_nno rfl ?_ ?_); · first | omega | rfl | assumption | (simp only [List.length_map]; omega)) | ((first | refine Runs.cond_no rfl ?_ ?_ | refine Runs.cond_nyes rfl ?_ ?_); · first | omega | rfl | assumption | (simp only [List.length_map]; omega)) | refine Runs.ret (ends_ro hm rfl rfl ?_) | exact Runs.ret (ends_cellR hm rfl rfl rfl (Nat.le_of_ble_eq_true rfl) rfl rfl))
 | refine op_box rfl (tl hn rfl) ?_
 | refine op_alloc (tl hn rfl) ?_
 | refine op_storeN rfl rfl rfl rfl (Nat.le_of_ble_eq_true rfl) ?_
 | (refine RunsL.pe hn rfl rfl rfl ?_; first
 | refine ⟨_, pu_add rfl rfl (by omega), ?_⟩
 | refine ⟨_, pu_indexAddr_map rfl rfl (by omega) (by assumption), ?_⟩
 | refine ⟨_, pu_sub rfl rfl (by omega), ?_⟩
      )
 | ((first | refine RunsL.guard_dec rfl rfl rfl ?_ ?_ | refine RunsL.guard_ndec rfl rfl rfl ?_ ?_ | refine RunsL.guard_nb rfl rfl rfl ?_ ?_ | refine RunsL.guard_b rfl rfl rfl ?_ ?_) <;> intro h <;> try (exfalso; first | omega | contradiction | (simp only [List.length_map] at h; omega))))
    all_goals exact rr_bool (by rw [Bool.eq_iff_iff]; simp [PlaceI, *])
end Go.Proofs.YtofefjklipglhaaDoor
/- Programs that are safe: what both sides test, and that it is the same. -/
namespace Go.Proofs.YtofefjklipglhaaDoor
set_option linter.unusedSimpArgs false
set_option linter.unusedVariables false
open Go.RowKit
def PlaceS (p : Prg) (k s e : Int) (x : Ins) : Prop :=
  x.op ≠ 17 ∧ (x.op = 9 → ∃ j : Nat, p.entries[j]? = some x.a ∧ ∀ (i : Nat) y, i ≤ j → p.entries[i]? = some y → y < s) ∧ (x.op = 6 → LoopAt p (k + 1) ∧ k + 4 < e) ∧ (x.op = 7 → LoopAt p k ∧ s ≤ k - 1 ∧ k + 3 < e) ∧ (x.op = 8 → LoopAt p (k - 2) ∧ s ≤ k - 3) ∧
  (x.op = 13 → k + 1 ≤ x.a ∧ x.a ≤ e - 1) ∧ (x.op = 11 → k + 1 ≤ x.b ∧ x.b ≤ e - 1) ∧ (x.op = 14 → opA p (k + 1) = 9 ∧ opA p (k + 2) = 15 ∧ k + 2 < e) ∧ (x.op = 15 → opA p (k - 1) = 9 ∧ opA p (k - 2) = 14 ∧ s ≤ k - 2)
noncomputable instance (p : Prg) (k s e : Int) (x : Ins) : Decidable (PlaceS p k s e x) := Classical.propDecidable _
structure FrameP (p : Prg) : Prop where
  len : p.code.length ≤ 700
  first : p.entries[0]? = some 2
  op0 : opA p 0 = 9
  op1 : opA p 1 = 17
  last : p.entries[p.entries.length - 1]? = some (aA p 0)
  ins : ∀ i : Nat, i < p.code.length → SafeI p i
  rise : ∀ (i : Nat) y z, p.entries[i]? = some y → p.entries[i + 1]? = some z → y < z
def SafeP (p : Prg) : Prop := FrameP p ∧ ∀ (b : Nat) e, p.entries[b]? = some e → opA p (endA p b - 1) = 10 ∧ ∀ (k : Int) x, e ≤ k → k < endA p b → p.code[k.toNat]? = some x → PlaceI p b k x
def SafeS (p : Prg) : Prop := FrameP p ∧ (∀ (i : Nat) z, p.entries[i + 1]? = some z → z < p.code.length) ∧ ∀ (b : Nat) e, p.entries[b]? = some e → e < endA p b ∧ opA p (endA p b - 1) = 10 ∧ ∀ (k : Int) x, e ≤ k → k < endA p b → p.code[k.toNat]? = some x → PlaceS p k e (endA p b) x
noncomputable instance (p : Prg) : Decidable (SafeP p) := Classical.propDecidable _
noncomputable instance (p : Prg) : Decidable (SafeS p) := Classical.propDecidable _
section
variable {p : Prg}
theorem FrameP.mono (h : FrameP p) : ∀ (j i : Nat) y z, i < j → p.entries[i]? = some y → p.entries[j]? = some z → y < z
  | 0, i, y, z, hij, _, _ => by omega
  | j + 1, i, y, z, hij, hy, hz => by
    have hj : j < p.entries.length := by have := (List.getElem?_eq_some_iff.1 hz).1; omega
    have hm := List.getElem?_eq_getElem hj
    have h1 := h.rise j _ z hm hz
    by_cases e : i = j
    · subst e; rw [hy] at hm; injection hm with hm; omega
    · have := h.mono j i y _ (by omega) hy hm; omega
theorem FrameP.two (h : FrameP p) {b : Nat} {e : Int} (he : p.entries[b]? = some e) : 2 ≤ e := by
  by_cases hb : b = 0
  · subst hb; rw [h.first] at he; injection he with he; omega
  · have := h.mono b 0 2 e (by omega) h.first he; omega
theorem FrameP.lt (h : FrameP p) {b : Nat} {e : Int} (he : p.entries[b]? = some e) : e < p.code.length := by
  have hi := opA_in (p := p) (i := 0) (by rw [h.op0]; decide)
  obtain ⟨x, hx⟩ := idx_get hi
  have hs := (safeI_some hx).1 (h.ins 0 (by have := hi.2; omega))
  have ho := opA_at (Int.le_refl 0) hx
  have ha := aA_at (Int.le_refl 0) hx
  rw [h.op0] at ho
  have hl := hs.2.2.1 (by omega)
  have hla := h.last
  have hbl := (List.getElem?_eq_some_iff.1 he).1
  by_cases hb : b = p.entries.length - 1
  · subst hb; rw [hla] at he; injection he with he; omega
  · have := h.mono _ b e _ (by omega) he hla; omega
theorem endA_next {b : Nat} {z : Int} (h : p.entries[b + 1]? = some z) : endA p b = z := by
  unfold endA
  rw [show ((b : Int) + 1).toNat = b + 1 by omega, h]
theorem endA_last {b : Nat} (h : p.entries[b + 1]? = none) : endA p b = p.code.length := by
  unfold endA
  rw [show ((b : Int) + 1).toNat = b + 1 by omega, h]
theorem FrameP.lt_end (h : FrameP p) {b : Nat} {e : Int} (he : p.entries[b]? = some e) : e < endA p b := by
  cases hz : p.entries[b + 1]? with
  | some z => rw [endA_next hz]; exact h.rise b e z he hz
  | none => rw [endA_last hz]; exact h.lt he
theorem FrameP.end_le (h : FrameP p) (b : Nat) : endA p b ≤ p.code.length := by
  cases hz : p.entries[b + 1]? with
  | some z => rw [endA_next hz]; exact Int.le_of_lt (h.lt hz)
  | none => rw [endA_last hz]; exact Int.le_refl _
end
end Go.Proofs.YtofefjklipglhaaDoor
/- The code of a drawn description: blocks, and that each stands as it has to. Plain laws. -/
namespace Go.Proofs.YtofefjklipglhaaDoor
set_option linter.unusedSimpArgs false
set_option linter.unusedVariables false
set_option maxRecDepth 100000
open Go.RowKit
noncomputable def stA (d : Des) (j : Nat) : Nat := (cdT d j).length + 2
noncomputable def blk (d : Des) (j : Nat) : List Ins := cmpL d j (stA d j : Nat) (cdE d j)
theorem stA_next (d : Des) (j : Nat) : stA d (j + 1) = stA d j + (blk d j).length := by
  unfold stA blk
  rw [cdT, List.length_append]
  unfold stA
  omega
theorem cdE_at (d : Des) : ∀ n j : Nat, j < n → (cdE d n)[j]? = some (stA d j : Int)
  | 0, j, h => by omega
  | n + 1, j, h => by
    rw [cdE]
    by_cases e : j = n
    · subst e
      rw [List.getElem?_append_right (by rw [cdE_len]; exact Nat.le_refl _), cdE_len, Nat.sub_self]; rfl
    · rw [List.getElem?_append_left (by rw [cdE_len]; omega)]
      exact cdE_at d n j (by omega)
theorem cdE_out (d : Des) (n j : Nat) (h : n ≤ j) : (cdE d n)[j]? = none := List.getElem?_eq_none (by rw [cdE_len]; exact h)
theorem cdT_at (d : Des) : ∀ n j i : Nat, j < n → i < (blk d j).length → (cdT d n)[(cdT d j).length + i]? = (blk d j)[i]?
  | 0, j, i, h, _ => by omega
  | n + 1, j, i, h, hi => by
    rw [cdT]
    by_cases e : j = n
    · subst e
      rw [List.getElem?_append_right (by omega), Nat.add_sub_cancel_left]
      rfl
    · have hle : (cdT d j).length + (blk d j).length ≤ (cdT d n).length := by
        have h1 : ∀ m, j + 1 ≤ m → (cdT d (j + 1)).length ≤ (cdT d m).length := fun m hm => by
          induction m with
          | zero => omega
          | succ m ih =>
            have hmm : (cdT d m).length ≤ (cdT d (m + 1)).length := by rw [cdT, List.length_append]; omega
            rcases Nat.lt_or_ge j m with h | h
            · have := ih (by omega); omega
            · obtain rfl : m = j := by omega
              exact Nat.le_refl _
        have h2 := h1 n (by omega)
        have h3 := stA_next d j
        unfold stA at h3
        omega
      rw [List.getElem?_append_left (by omega)]
      exact cdT_at d n j i (by omega) hi
section
variable {d : Des} (hD : DrawD d)
include hD
theorem blk_rule {j : Nat} {x : Rul} (hx : d[j]? = some x) : blk d j = ruleI x (stA d j : Nat) (cdE d j) := by
  have hj := (List.getElem?_eq_some_iff.1 hx).1
  unfold blk
  exact cmpL_yes ⟨kn_at hD.good hj, by rw [cdE_len]; omega⟩ (by simpa using hx)
theorem cdF_ents : (cdF d).entries = cdE d d.length := by rw [cdF_yes hD.good]
theorem cdF_ent {j : Nat} (hj : j < d.length) : (cdF d).entries[j]? = some (stA d j : Int) := by rw [cdF_ents hD]; exact cdE_at d _ j hj
theorem cdF_entl : (cdF d).entries.length = d.length := by rw [cdF_ents hD, cdE_len]
theorem cdF_code : (cdF d).code = cdC (stA d (d.length - 1) : Int) (cdT d d.length) := by
  have := hD.pos
  rw [cdF_yes hD.good]
  show cdC _ _ = _
  rw [cdE_at d d.length (d.length - 1) (by omega)]; rfl
theorem cdF_codel : (cdF d).code.length = stA d d.length := by rw [cdF_code hD, cdC_len]; rfl
theorem cdF_at {j i : Nat} (hj : j < d.length) (hi : i < (blk d j).length) : (cdF d).code[stA d j + i]? = (blk d j)[i]? := by
  rw [cdF_code hD, ← cdT_at d d.length j i hj hi]
  unfold stA cdC
  rw [show (cdT d j).length + 2 + i = ((cdT d j).length + i) + 1 + 1 by omega, List.getElem?_cons_succ, List.getElem?_cons_succ]
theorem end_at {j : Nat} (hj : j < d.length) : endA (cdF d) j = (stA d j : Int) + ((blk d j).length : Int) := by
  have h1 := stA_next d j
  by_cases e : j + 1 < d.length
  · rw [endA_next (cdF_ent hD e)]; omega
  · rw [endA_last (by rw [cdF_ents hD]; exact cdE_out d _ _ (by omega)), cdF_codel hD, show d.length = j + 1 by omega]; omega
end
structure Loc (s : Int) (en : List Int) (L : List Ins) (i : Nat) (x : Ins) : Prop where
  ok : OpOk x
  no17 : x.op ≠ 17
  goes : Goes x.op → i + 1 < L.length
  call : x.op = 9 → x.a ∈ en
  loop : x.op = 7 → ∃ m y z w, i = m + 1 ∧ L[m]? = some y ∧ y.op = 6 ∧ L[m + 2]? = some z ∧ z.op = 9 ∧ L[m + 3]? = some w ∧ w.op = 8 ∧ w.a = s + i ∧ x.a = s + i + 3 ∧ i + 3 < L.length
  push : x.op = 6 → ∃ y, L[i + 1]? = some y ∧ y.op = 7
  jump : x.op = 8 → ∃ m y, i = m + 2 ∧ L[m]? = some y ∧ y.op = 7
  flag : x.op = 13 → s + i < x.a ∧ x.a < s + L.length
  tag : x.op = 11 → s + i < x.b ∧ x.b < s + L.length
  mark : x.op = 14 → ∃ y z, L[i + 1]? = some y ∧ y.op = 9 ∧ L[i + 2]? = some z ∧ z.op = 15
  sum : x.op = 15 → ∃ m y, i = m + 2 ∧ L[m]? = some y ∧ y.op = 14
theorem call_mem {en : List Int} {z : Int} (h : 0 ≤ z ∧ z < en.length) : (callI en z).a ∈ en := by
  unfold callI
  obtain ⟨e, he⟩ : ∃ e, en[z.toNat]? = some e := ⟨_, List.getElem?_eq_getElem (by omega)⟩
  rw [he]
  exact List.mem_of_getElem? he
theorem loc_call {s : Int} {en : List Int} {L : List Ins} {i : Nat} {z : Int} (h : 0 ≤ z ∧ z < en.length) (hi : i + 1 < L.length) : Loc s en L i (callI en z) where
  ok := by simp [OpOk, callI, InR]
  no17 := by simp [callI]
  goes := fun _ => hi
  call := fun _ => call_mem h
  loop := fun e => by simp [callI] at e
  push := fun e => by simp [callI] at e
  jump := fun e => by simp [callI] at e
  flag := fun e => by simp [callI] at e
  tag := fun e => by simp [callI] at e
  mark := fun e => by simp [callI] at e
  sum := fun e => by simp [callI] at e
theorem loc_flat {s : Int} {en : List Int} {L : List Ins} {i : Nat} {x : Ins} (ok : OpOk x) (hop : x.op = 1 ∨ x.op = 2 ∨ x.op = 3 ∨ x.op = 4 ∨ x.op = 5 ∨ x.op = 10 ∨ x.op = 12 ∨ x.op = 16) (hi : Goes x.op → i + 1 < L.length) : Loc s en L i x where
  ok := ok
  no17 := by omega
  goes := hi
  call := fun e => by omega
  loop := fun e => by omega
  push := fun e => by omega
  jump := fun e => by omega
  flag := fun e => by omega
  tag := fun e => by omega
  mark := fun e => by omega
  sum := fun e => by omega
theorem loc_ret {s : Int} {en : List Int} {L : List Ins} {i : Nat} : Loc s en L i ⟨10, 0, 0⟩ := loc_flat (by simp [OpOk, InR]) (by simp) (fun h => by simp [Goes] at h)
def AllI (P : Nat → Ins → Prop) : Nat → List Ins → Prop
  | _, [] => True
  | n, a :: l => P n a ∧ AllI P (n + 1) l
theorem AllI.at_ {P : Nat → Ins → Prop} : ∀ {l : List Ins} {n i : Nat} {y : Ins}, AllI P n l → l[i]? = some y → P (n + i) y
  | [], n, i, y, _, h => by simp at h
  | a :: l, n, 0, y, h, e => by simp at e; subst e; exact h.1
  | a :: l, n, i + 1, y, h, e => by
    simp at e
    have := AllI.at_ h.2 e
    rwa [show n + 1 + i = n + (i + 1) by omega] at this
theorem allI_of {P : Nat → Ins → Prop} : ∀ (l : List Ins) (n : Nat), (∀ (i : Nat) y, l[i]? = some y → P (n + i) y) → AllI P n l
  | [], _, _ => trivial
  | a :: l, n, h => ⟨h 0 a rfl, allI_of l (n + 1) fun i y e => by
    have := h (i + 1) y (by simpa using e)
    rwa [show n + (i + 1) = n + 1 + i by omega] at this⟩
theorem allI_app {P : Nat → Ins → Prop} : ∀ {a b : List Ins} {n : Nat}, AllI P n a → AllI P (n + a.length) b → AllI P n (a ++ b)
  | [], b, n, _, h => h
  | x :: a, b, n, h1, h2 => ⟨h1.1, allI_app h1.2 (by rwa [show n + 1 + a.length = n + (x :: a).length by simp; omega])⟩
theorem chTags_at {tags : List Int} {first : Int} {j i : Nat} {y : Ins} (h : (chTags tags first j)[i]? = some y) : i < j ∧ y = ⟨11, (tags[i]?).getD 0, w64 (first + 2 * (i : Int))⟩ := by
  unfold chTags at h
  have hi := (List.getElem?_eq_some_iff.1 h).1
  simp at hi
  rw [List.getElem?_map, List.getElem?_range hi] at h
  simp at h
  exact ⟨hi, h.symm⟩
theorem chCalls_lenE (kids en : List Int) : ∀ j : Nat, (chCalls kids en (j + 1)).length = 2 * j + 1
  | 0 => by simp [chCalls]
  | j + 1 => by
    have h := chCalls_lenE kids en j
    unfold chCalls at h ⊢
    rw [List.range_succ, List.flatMap_append, List.flatMap_singleton, List.length_append, h]
    simp; omega
theorem chCalls_mem {kids en : List Int} {n : Nat} (hk : ∀ z ∈ kids, 0 ≤ z ∧ z < n) : ∀ j : Nat, j < kids.length → ∀ y ∈ chCalls kids en j, y = ⟨10, 0, 0⟩ ∨ ∃ z : Int, 0 ≤ z ∧ z < n ∧ y = callI en z
  | 0, _, y, h => by simp [chCalls] at h
  | j + 1, hj, y, h => by
    obtain ⟨z, hz⟩ : ∃ z, kids[j + 1]? = some z := ⟨_, List.getElem?_eq_getElem hj⟩
    rw [chCalls_next hz] at h
    rcases List.mem_append.1 h with h | h
    · exact chCalls_mem hk j (by omega) y h
    · rcases List.mem_append.1 h with h | h
      · split at h
        · simp at h
        · simp at h; exact .inl h
      · simp at h
        have := hk z (List.mem_of_getElem? hz)
        exact .inr ⟨z, this.1, this.2, h⟩
set_option maxHeartbeats 2000000 in
theorem rule_loc {d : Des} (hD : DrawD d) {j : Nat} {x : Rul} (hx : d[j]? = some x) (s : Int) (hs : 0 ≤ s ∧ s ≤ 1000000) (en : List Int) (hen : en.length = j) : ∀ (i : Nat) y, (ruleI x s en)[i]? = some y → Loc s en (ruleI x s en) i y := by
  have hkid := hD.kid hx
  obtain ⟨k', k1, k2, hr, hk', _, _⟩ := hD.kinds hx
  have hlen := hD.lens hx
  have hG := hD.good
  have hkd : ∀ z ∈ x.kids, 0 ≤ z ∧ z < en.length := fun z hz => by rw [hen]; exact hkid z hz
  suffices h : AllI (fun i y => Loc s en (ruleI x s en) i y) 0 (ruleI x s en) by
    intro i y hy
    have := h.at_ hy
    rwa [Nat.zero_add] at this
  have hrl : ∀ l : List Ins, bodyI x s en = l → (ruleI x s en).length = l.length + 1 := fun l e => by unfold ruleI; rw [e]; simp
  by_cases e1 : x.kind = 1
  · have e : bodyI x s en = [⟨1, x.size, if x.little = true then 1 else 0⟩] := by unfold bodyI; rw [if_pos e1]
    have hl := hrl _ e
    have hz := hr.hsize.1 (by omega)
    have hrw : ruleI x s en = [⟨1, x.size, if x.little = true then 1 else 0⟩, ⟨10, 0, 0⟩] := by unfold ruleI; rw [e]; rfl
    conv => arg 3; rw [hrw]
    exact ⟨loc_flat (by simp only [OpOk, InR]; refine ⟨fun _ => ⟨by omega, by split <;> omega⟩, by omega, by omega, by omega, by omega, by omega⟩) (by simp) (fun _ => by rw [hl]; simp), loc_ret, trivial⟩
  by_cases e2 : x.kind = 2
  · have e : bodyI x s en = x.bytes.map fun b => ⟨2, (b.toNat : Int), 0⟩ := by unfold bodyI; rw [if_neg e1, if_pos e2]
    have hl := hrl _ e
    conv => arg 3; rw [ruleI, e]
    refine allI_app (allI_of _ _ fun i y hy => ?_) ⟨loc_ret, trivial⟩
    have hi := (List.getElem?_eq_some_iff.1 hy).1
    obtain ⟨b, hb⟩ := List.mem_map.1 (List.mem_of_getElem? hy)
    have hbl := b.toNat_lt
    rw [← hb.2]
    exact loc_flat (by simp only [OpOk, InR]; omega) (by simp) (fun _ => by rw [hl]; omega)
  by_cases e3 : x.kind = 3
  · have e : bodyI x s en = [⟨3, x.size, 0⟩] := by unfold bodyI; rw [if_neg e1, if_neg e2, if_pos e3]
    have hl := hrl _ e
    have hz := hr.hsize.2.1 (by omega)
    conv => arg 3; rw [ruleI, e]
    exact ⟨loc_flat (by simp only [OpOk, InR]; omega) (by simp) (fun _ => by rw [hl]; simp), loc_ret, trivial⟩
  by_cases e4 : x.kind = 4
  · obtain ⟨z, hz, hkk⟩ := hr.hkids.1 (by omega)
    have hz2 := hkd z (by rw [hkk]; simp)
    have e : bodyI x s en = [callI en z, ⟨4, 0, 0⟩] := by unfold bodyI; rw [if_neg e1, if_neg e2, if_neg e3, if_pos e4, hkk]; rfl
    have hl := hrl _ e
    conv => arg 3; rw [ruleI, e]
    exact ⟨loc_call hz2 (by rw [hl]; simp), loc_flat (by simp only [OpOk, InR]; omega) (by simp) (fun _ => by rw [hl]; simp), loc_ret, trivial⟩
  by_cases e5 : x.kind = 5
  · obtain ⟨z, z', hz, _, hkk⟩ := hr.hkids.2.1 (by omega)
    have hz2 := hkd z (by rw [hkk]; simp)
    have hz3 := hkd z' (by rw [hkk]; simp)
    have w1 : w64 (s + 6) = s + 6 := w64_id (by omega)
    have w2 : w64 (s + 3) = s + 3 := w64_id (by omega)
    have e : bodyI x s en = [callI en z, ⟨5, 40, 0⟩, ⟨6, 0, 0⟩, ⟨7, s + 6, 0⟩, callI en z', ⟨8, s + 3, 0⟩] := by unfold bodyI; rw [if_neg e1, if_neg e2, if_neg e3, if_neg e4, if_pos e5, hkk, w1, w2]; rfl
    have hl := hrl _ e
    have hL : ruleI x s en = [callI en z, ⟨5, 40, 0⟩, ⟨6, 0, 0⟩, ⟨7, s + 6, 0⟩, callI en z', ⟨8, s + 3, 0⟩, ⟨10, 0, 0⟩] := by unfold ruleI; rw [e]; rfl
    rw [hL]
    refine ⟨loc_call hz2 (by simp), loc_flat (by simp only [OpOk, InR]; omega) (by simp) (fun _ => by simp), ?_, ?_, loc_call hz3 (by simp), ?_, loc_ret, trivial⟩
    · refine ⟨by simp only [OpOk, InR]; omega, by simp, fun _ => by simp, fun e => by simp at e, fun e => by simp at e, fun _ => ⟨_, rfl, rfl⟩, fun e => by simp at e, fun e => by simp at e, fun e => by simp at e, fun e => by simp at e, fun e => by simp at e⟩
    · refine ⟨by simp only [OpOk, InR]; omega, by simp, fun _ => by simp, fun e => by simp at e, fun _ => ⟨2, _, _, _, rfl, rfl, rfl, rfl, rfl, rfl, rfl, ?_, ?_, by simp⟩, fun e => by simp at e, fun e => by simp at e, fun e => by simp at e, fun e => by simp at e, fun e => by simp at e, fun e => by simp at e⟩
      · show s + 3 = s + ((0 + 1 + 1 + 1 : Nat) : Int); omega
      · show s + 6 = s + ((0 + 1 + 1 + 1 : Nat) : Int) + 3; omega
    · exact ⟨by simp only [OpOk, InR]; omega, by simp, fun h => by simp [Goes] at h, fun e => by simp at e, fun e => by simp at e, fun e => by simp at e, fun _ => ⟨3, _, rfl, rfl, rfl⟩, fun e => by simp at e, fun e => by simp at e, fun e => by simp at e, fun e => by simp at e⟩
  by_cases e6 : x.kind = 6
  · have e : bodyI x s en = x.kids.map (callI en) := by unfold bodyI; rw [if_neg e1, if_neg e2, if_neg e3, if_neg e4, if_neg e5, if_pos e6]
    have hl := hrl _ e
    conv => arg 3; rw [ruleI, e]
    refine allI_app (allI_of _ _ fun i y hy => ?_) ⟨loc_ret, trivial⟩
    have hi := (List.getElem?_eq_some_iff.1 hy).1
    obtain ⟨z, hz⟩ := List.mem_map.1 (List.mem_of_getElem? hy)
    rw [← hz.2]
    exact loc_call (hkd z hz.1) (by rw [hl]; omega)
  by_cases e7 : x.kind = 7
  · obtain ⟨z, kl, hz, hkl, _, hkk⟩ := hr.hkids.2.2.2.1 (by omega)
    have htg := hr.htags.1 (by omega)
    have hz2 := hkd z (by rw [hkk]; simp)
    obtain ⟨T, hT⟩ : ∃ T, x.tags.length = T + 1 := ⟨x.tags.length - 1, by omega⟩
    have e : bodyI x s en = callI en z :: (chTags x.tags (s + (x.tags.length : Int) + 2) x.tags.length ++ ⟨12, 3, 0⟩ :: chCalls x.kids en x.tags.length) := by
      unfold bodyI
      rw [if_neg e1, if_neg e2, if_neg e3, if_neg e4, if_neg e5, if_neg e6, if_pos e7, show x.kids.headD 0 = z by rw [hkk]; rfl]
    have hl := hrl _ e
    have hcl : (chCalls x.kids en x.tags.length).length = 2 * T + 1 := by rw [hT, chCalls_lenE]
    simp only [List.length_cons, List.length_append, chTags_len, hcl] at hl
    conv => arg 3; rw [ruleI, e]
    refine allI_app ⟨loc_call hz2 (by rw [hl]; omega), allI_app (allI_of _ _ fun i y hy => ?_) ⟨loc_flat (by simp only [OpOk, InR]; omega) (by simp) (fun h => by simp [Goes] at h), allI_of _ _ fun i y hy => ?_⟩⟩ ⟨loc_ret, trivial⟩
    · obtain ⟨hi, rfl⟩ := chTags_at hy
      obtain ⟨t, ht⟩ : ∃ t, x.tags[i]? = some t := ⟨_, List.getElem?_eq_getElem hi⟩
      have htb := htg.2.2 i t ht
      have hw : w64 (s + (x.tags.length : Int) + 2 + 2 * (i : Int)) = s + (x.tags.length : Int) + 2 + 2 * (i : Int) := w64_id (by omega)
      rw [hw, ht]
      exact ⟨by simp only [OpOk, InR, Option.getD_some]; omega, by simp, fun _ => by rw [hl]; omega, fun e => by simp at e, fun e => by simp at e, fun e => by simp at e, fun e => by simp at e, fun e => by simp at e, fun _ => by rw [hl]; constructor <;> simp only <;> omega, fun e => by simp at e, fun e => by simp at e⟩
    · have hi := (List.getElem?_eq_some_iff.1 hy).1
      rw [hcl] at hi
      rcases chCalls_mem hkd x.tags.length (by rw [hkk, List.length_cons]; omega) y (List.mem_of_getElem? hy) with rfl | ⟨z3, h1, h2, rfl⟩
      · exact loc_ret
      · exact loc_call ⟨h1, h2⟩ (by rw [hl, chTags_len]; omega)
  by_cases e8 : x.kind = 8
  · obtain ⟨z, hz, hkk⟩ := hr.hkids.2.2.2.2.1 (by omega)
    have hz2 := hkd z (by rw [hkk]; simp)
    have w1 : w64 (s + 2) = s + 2 := w64_id (by omega)
    have hL : ruleI x s en = [⟨13, s + 2, 0⟩, callI en z, ⟨10, 0, 0⟩] := by
      unfold ruleI bodyI
      rw [if_neg e1, if_neg e2, if_neg e3, if_neg e4, if_neg e5, if_neg e6, if_neg e7, if_pos e8, hkk, w1]; rfl
    rw [hL]
    refine ⟨⟨by simp only [OpOk, InR]; omega, by simp, fun _ => by simp, fun e => by simp at e, fun e => by simp at e, fun e => by simp at e, fun e => by simp at e, fun _ => ⟨?_, ?_⟩, fun e => by simp at e, fun e => by simp at e, fun e => by simp at e⟩, loc_call hz2 (by simp), loc_ret, trivial⟩
    · show s + ((0 : Nat) : Int) < s + 2; omega
    · show s + 2 < s + ((3 : Nat) : Int); omega
  by_cases e9 : x.kind = 9
  · obtain ⟨z, hz, hkk⟩ := hr.hkids.2.2.2.2.1 (by omega)
    have hz2 := hkd z (by rw [hkk]; simp)
    have hL : ruleI x s en = [⟨14, 0, 0⟩, callI en z, ⟨15, 0, 0⟩, ⟨10, 0, 0⟩] := by
      unfold ruleI bodyI
      rw [if_neg e1, if_neg e2, if_neg e3, if_neg e4, if_neg e5, if_neg e6, if_neg e7, if_neg e8, if_pos e9, hkk]; rfl
    rw [hL]
    refine ⟨⟨by simp only [OpOk, InR]; omega, by simp, fun _ => by simp, fun e => by simp at e, fun e => by simp at e, fun e => by simp at e, fun e => by simp at e, fun e => by simp at e, fun e => by simp at e, fun _ => ⟨_, _, rfl, rfl, rfl, rfl⟩, fun e => by simp at e⟩, loc_call hz2 (by simp), ⟨by simp only [OpOk, InR]; omega, by simp, fun _ => by simp, fun e => by simp at e, fun e => by simp at e, fun e => by simp at e, fun e => by simp at e, fun e => by simp at e, fun e => by simp at e, fun e => by simp at e, fun _ => ⟨0, _, rfl, rfl, rfl⟩⟩, loc_ret, trivial⟩
  · have e : bodyI x s en = [⟨16, (((x.bytes[0]?).getD 0).toNat : Int), 0⟩] := by
      unfold bodyI
      rw [if_neg e1, if_neg e2, if_neg e3, if_neg e4, if_neg e5, if_neg e6, if_neg e7, if_neg e8, if_neg e9]
    have hl := hrl _ e
    have hbl := ((x.bytes[0]?).getD 0).toNat_lt
    conv => arg 3; rw [ruleI, e]
    exact ⟨loc_flat (by simp only [OpOk, InR]; omega) (by simp) (fun _ => by rw [hl]; simp), loc_ret, trivial⟩
end Go.Proofs.YtofefjklipglhaaDoor
/- IsSafeProgram: both sides. -/
namespace Go.Proofs.YtofefjklipglhaaDoor
set_option linter.unusedSimpArgs false
set_option linter.unusedVariables false
open Go.RowKit
structure FrI (p : Prg) : Prop where
  len : p.code.length ≤ 700
  first : p.entries[0]? = some 2
  op0 : opA p 0 = 9
  op1 : opA p 1 = 17
  rise : ∀ (i : Nat) y z, p.entries[i]? = some y → p.entries[i + 1]? = some z → y < z
  last : p.entries[p.entries.length - 1]? = some (aA p 0)
noncomputable instance (p : Prg) : Decidable (FrI p) := Classical.propDecidable _
theorem FrI.two {p : Prg} (h : FrI p) : ∀ (b : Nat) (e : Int), p.entries[b]? = some e → 2 ≤ e
  | 0, e, he => by rw [h.first] at he; injection he with he; omega
  | b + 1, e, he => by
    have hb : b < p.entries.length := by have := (List.getElem?_eq_some_iff.1 he).1; omega
    have hm := List.getElem?_eq_getElem hb
    have := h.two b _ hm
    have := h.rise b _ e hm he
    omega
theorem FrI.frame {p : Prg} (h : FrI p) (hi : ∀ i : Nat, i < p.code.length → SafeI p i) : FrameP p := ⟨h.len, h.first, h.op0, h.op1, h.last, hi, h.rise⟩
theorem FrameP.frI {p : Prg} (h : FrameP p) : FrI p := ⟨h.len, h.first, h.op0, h.op1, h.rise, h.last⟩
theorem FrI.end_ge {p : Prg} (h : FrI p) (b : Nat) : 0 ≤ endA p b := by
  cases hz : p.entries[b + 1]? with
  | some z => rw [endA_next hz]; have := h.two _ z hz; omega
  | none => rw [endA_last hz]; omega
structure PrgB (p : Prg) : Prop where
  code : p.code.length ≤ 1048576
  ents : p.entries.length ≤ 1048576
  vals : ∀ z ∈ p.entries, I64 z
theorem endA_i64 {p : Prg} (hB : PrgB p) (b : Nat) : I64 (endA p b) := by
  have h1 := hB.code
  cases hz : p.entries[b + 1]? with
  | some z => rw [endA_next hz]; exact hB.vals z (List.mem_of_getElem? hz)
  | none => rw [endA_last hz]; unfold I64; omega
set_option maxHeartbeats 8000000 in
theorem safeFrame_ac (p : Prg) (hB : PrgB p) : ACv Tryd.prog 20 [prgR p] (.bool (decide (FrI p))) := by
  have hlm : (p.entries.map fun z => [RV.int z]).length = p.entries.length := List.length_map ..
  have hlc : (p.code.map insR).length = p.code.length := List.length_map ..
  have hb1 := hB.code
  have hb2 := hB.ents
  have o0 := opAt_ac p 0
  have o1 := opAt_ac p 1
  refine ac_enter Tryd.func20 rfl _ Tryd.ntmps20 (by simp) fun C hn hm => ?_
  by_cases h700 : (p.code.length : Int) ≤ 700
  · by_cases hne : p.entries.length = 0
    · have hn0 : ¬ FrI p := fun h => by have := (List.getElem?_eq_some_iff.1 h.first).1; omega
      repeat' (first
 | refine RunsL.step tabOk hn rfl ?_
 | refine RunsL.nil ?_
 | refine Runs.toRegion 30 rfl ?_
 | ((first | refine RunsL.pe hn rfl rfl rfl ?_ | refine RunsD.pe rfl rfl ?_); first
 | refine ⟨_, pu_callR o0 rfl, ?_⟩
 | refine ⟨_, pu_callR o1 rfl, ?_⟩)
 | (refine Runs.ctls 30 rfl ?_; first | refine Runs.cond_t rfl ?_ | ((first | refine Runs.cond_yes rfl ?_ ?_ | refine Runs.cond_nno rfl ?_ ?_); · first | omega | rfl | assumption | (simp only [List.length_map]; omega)) | ((first | refine Runs.cond_no rfl ?_ ?_ | refine Runs.cond_nyes rfl ?_ ?_); · first | omega | rfl | assumption | (simp only [List.length_map]; omega)) | refine Runs.cond_dec rfl (fun h => ?_) (fun h => ?_) | refine Runs.ret (ends_ro hm rfl rfl ?_) | exact Runs.ret (ends_cellR hm rfl rfl rfl (Nat.le_of_ble_eq_true rfl) rfl rfl))
 | refine op_box rfl (tl hn rfl) ?_
 | refine RunsD.step tabOk hn rfl rfl ?_
 | refine RunsD.nil ?_
 | refine Runs.toDraw 30 mixed hn rfl (by kernel_rfl) rfl ?_
 | ((first | refine RunsL.pe hn rfl rfl rfl ?_ | refine RunsD.pe rfl rfl ?_); first
 | refine ⟨_, pu_add rfl rfl (by omega), ?_⟩
 | refine ⟨_, pu_indexAddr_map rfl rfl (by omega) (by assumption), ?_⟩
 | refine ⟨_, pu_sub rfl rfl (by omega), ?_⟩
 | refine ⟨_, pu_pick_b rfl rfl rfl, ?_⟩
 | refine ⟨_, pu_mul rfl rfl (by omega), ?_⟩
 | refine ⟨_, pu_build rfl rfl rfl rfl rfl rfl, ?_⟩)
 | ((first | refine RunsL.guard_dec rfl rfl rfl ?_ ?_ | refine RunsL.guard_ndec rfl rfl rfl ?_ ?_ | refine RunsL.guard_nb rfl rfl rfl ?_ ?_ | refine RunsL.guard_b rfl rfl rfl ?_ ?_ | refine RunsD.guard_dec rfl rfl rfl ?_ ?_ | refine RunsD.guard_ndec rfl rfl rfl ?_ ?_ | refine RunsD.guard_nb rfl rfl rfl ?_ ?_ | refine RunsD.guard_b rfl rfl rfl ?_ ?_) <;> intro h <;> try (exfalso; first | omega | contradiction | (simp only [List.length_map] at h; omega))))
      all_goals exact rr_bool (decide_eq_false hn0).symm
    · obtain ⟨z, hz⟩ : ∃ z, p.entries[(0 : Int).toNat]? = some z := ⟨_, List.getElem?_eq_getElem (by simp; omega)⟩
      have hz' : p.entries[0]? = some z := hz
      by_cases hg : z = 2 ∧ opA p 0 = 9 ∧ opA p 1 = 17
      · obtain ⟨g1, g2, g3⟩ := hg
        subst g1
        repeat' (first
 | refine RunsL.step tabOk hn rfl ?_
 | refine RunsL.nil ?_
 | refine Runs.toRegion 30 rfl ?_
 | ((first | refine RunsL.pe hn rfl rfl rfl ?_ | refine RunsD.pe rfl rfl ?_); first
 | refine ⟨_, pu_callR o0 rfl, ?_⟩
 | refine ⟨_, pu_callR o1 rfl, ?_⟩)
 | (refine Runs.ctls 30 rfl ?_; first | refine Runs.cond_t rfl ?_ | ((first | refine Runs.cond_yes rfl ?_ ?_ | refine Runs.cond_nno rfl ?_ ?_); · first | omega | rfl | assumption | (simp only [List.length_map]; omega)) | ((first | refine Runs.cond_no rfl ?_ ?_ | refine Runs.cond_nyes rfl ?_ ?_); · first | omega | rfl | assumption | (simp only [List.length_map]; omega)) | refine Runs.cond_dec rfl (fun h => ?_) (fun h => ?_) | refine Runs.ret (ends_ro hm rfl rfl ?_) | exact Runs.ret (ends_cellR hm rfl rfl rfl (Nat.le_of_ble_eq_true rfl) rfl rfl))
 | refine op_box rfl (tl hn rfl) ?_
 | refine RunsD.step tabOk hn rfl rfl ?_
 | refine RunsD.nil ?_
 | refine Runs.toDraw 30 mixed hn rfl (by kernel_rfl) rfl ?_
 | ((first | refine RunsL.pe hn rfl rfl rfl ?_ | refine RunsD.pe rfl rfl ?_); first
 | refine ⟨_, pu_add rfl rfl (by omega), ?_⟩
 | refine ⟨_, pu_indexAddr_map rfl rfl (by omega) (by assumption), ?_⟩
 | refine ⟨_, pu_sub rfl rfl (by omega), ?_⟩
 | refine ⟨_, pu_pick_b rfl rfl rfl, ?_⟩
 | refine ⟨_, pu_mul rfl rfl (by omega), ?_⟩
 | refine ⟨_, pu_build rfl rfl rfl rfl rfl rfl, ?_⟩)
 | ((first | refine RunsL.guard_dec rfl rfl rfl ?_ ?_ | refine RunsL.guard_ndec rfl rfl rfl ?_ ?_ | refine RunsL.guard_nb rfl rfl rfl ?_ ?_ | refine RunsL.guard_b rfl rfl rfl ?_ ?_ | refine RunsD.guard_dec rfl rfl rfl ?_ ?_ | refine RunsD.guard_ndec rfl rfl rfl ?_ ?_ | refine RunsD.guard_nb rfl rfl rfl ?_ ?_ | refine RunsD.guard_b rfl rfl rfl ?_ ?_) <;> intro h <;> try (exfalso; first | omega | contradiction | (simp only [List.length_map] at h; omega))))
        refine Runs.loopN 30 rfl (fun j => [(1, .obj 0 0), (3, .int (j : Int))]) (fun _ => [⟨31, 0, [.ro (inssR p.code), .ro (intsR p.entries)]⟩]) (fun j => 1 ≤ j ∧ ∀ (i : Nat) y w, i + 1 < j → p.entries[i]? = some y → p.entries[i + 1]? = some w → y < w) p.entries.length 1 (by omega) ⟨Nat.le_refl _, fun i y w h => absurd h (by omega)⟩ ⟨rfl, rfl, trivial⟩ rfl fun j hj hQ next => ?_
        by_cases hlt : j < p.entries.length
        · obtain ⟨y, hy⟩ : ∃ y, p.entries[((j : Int) - 1).toNat]? = some y := ⟨_, List.getElem?_eq_getElem (by omega)⟩
          obtain ⟨w, hw⟩ : ∃ w, p.entries[(j : Int).toNat]? = some w := ⟨_, List.getElem?_eq_getElem hlt⟩
          have hw' : p.entries[j]? = some w := hw
          have hy' : p.entries[j - 1]? = some y := by rw [← hy]; congr 1; omega
          have hj1 := hQ.1
          repeat' (first
 | refine RunsL.step tabOk hn rfl ?_
 | refine RunsL.nil ?_
 | refine Runs.toRegion 30 rfl ?_
 | (refine Runs.ctls 30 rfl ?_; first | refine Runs.cond_t rfl ?_ | ((first | refine Runs.cond_yes rfl ?_ ?_ | refine Runs.cond_nno rfl ?_ ?_); · first | omega | rfl | assumption | (simp only [List.length_map]; omega)) | ((first | refine Runs.cond_no rfl ?_ ?_ | refine Runs.cond_nyes rfl ?_ ?_); · first | omega | rfl | assumption | (simp only [List.length_map]; omega)) | refine Runs.cond_dec rfl (fun h => ?_) (fun h => ?_) | refine Runs.ret (ends_ro hm rfl rfl ?_) | exact Runs.ret (ends_cellR hm rfl rfl rfl (Nat.le_of_ble_eq_true rfl) rfl rfl))
 | refine op_box rfl (tl hn rfl) ?_
 | refine RunsD.step tabOk hn rfl rfl ?_
 | refine RunsD.nil ?_
 | refine Runs.toDraw 30 mixed hn rfl (by kernel_rfl) rfl ?_
 | ((first | refine RunsL.pe hn rfl rfl rfl ?_ | refine RunsD.pe rfl rfl ?_); first
 | refine ⟨_, pu_add rfl rfl (by omega), ?_⟩
 | refine ⟨_, pu_indexAddr_map rfl rfl (by omega) (by assumption), ?_⟩
 | refine ⟨_, pu_sub rfl rfl (by omega), ?_⟩
 | refine ⟨_, pu_pick_b rfl rfl rfl, ?_⟩
 | refine ⟨_, pu_mul rfl rfl (by omega), ?_⟩
 | refine ⟨_, pu_build rfl rfl rfl rfl rfl rfl, ?_⟩)
 | ((first | refine RunsL.guard_dec rfl rfl rfl ?_ ?_ | refine RunsL.guard_ndec rfl rfl rfl ?_ ?_ | refine RunsL.guard_nb rfl rfl rfl ?_ ?_ | refine RunsL.guard_b rfl rfl rfl ?_ ?_ | refine RunsD.guard_dec rfl rfl rfl ?_ ?_ | refine RunsD.guard_ndec rfl rfl rfl ?_ ?_ | refine RunsD.guard_nb rfl rfl rfl ?_ ?_ | refine RunsD.guard_b rfl rfl rfl ?_ ?_) <;> intro h <;> try (exfalso; first | omega | contradiction | (simp only [List.length_map] at h; omega))))
          · exact rr_bool (decide_eq_false (p := FrI p) fun hN => by have := hN.rise (j - 1) y w hy' (by rwa [show j - 1 + 1 = j by omega]); omega).symm
          · refine next _ _ ⟨rfl, rfl, trivial⟩ hlt ⟨by omega, fun i a b hi ha hb => ?_⟩ rfl
            by_cases e : i = j - 1
            · subst e
              rw [hy'] at ha; injection ha with ha
              rw [show j - 1 + 1 = j by omega, hw'] at hb; injection hb with hb
              omega
            · exact hQ.2 i a b (by omega) ha hb
        · obtain ⟨x, hx⟩ := idx_get (opA_in (p := p) (i := 0) (by rw [g2]; decide))
          obtain ⟨l, hl⟩ : ∃ l, p.entries[((p.entries.length : Int) - 1).toNat]? = some l := ⟨_, List.getElem?_eq_getElem (by omega)⟩
          have hl2 : p.entries[(((p.entries.map fun z => [RV.int z]).length : Int) - 1).toNat]? = some l := by rw [hlm]; exact hl
          have hl' : p.entries[p.entries.length - 1]? = some l := by rw [← hl]; congr 1; omega
          have ha := aA_at (Int.le_refl 0) hx
          repeat' (first
 | refine RunsL.step tabOk hn rfl ?_
 | refine RunsL.nil ?_
 | refine Runs.toRegion 30 rfl ?_
 | (refine Runs.ctls 30 rfl ?_; first | refine Runs.cond_t rfl ?_ | ((first | refine Runs.cond_yes rfl ?_ ?_ | refine Runs.cond_nno rfl ?_ ?_); · first | omega | rfl | assumption | (simp only [List.length_map]; omega)) | ((first | refine Runs.cond_no rfl ?_ ?_ | refine Runs.cond_nyes rfl ?_ ?_); · first | omega | rfl | assumption | (simp only [List.length_map]; omega)) | refine Runs.cond_dec rfl (fun h => ?_) (fun h => ?_) | refine Runs.ret (ends_ro hm rfl rfl ?_) | exact Runs.ret (ends_cellR hm rfl rfl rfl (Nat.le_of_ble_eq_true rfl) rfl rfl))
 | refine op_box rfl (tl hn rfl) ?_
 | refine RunsD.step tabOk hn rfl rfl ?_
 | refine RunsD.nil ?_
 | refine Runs.toDraw 30 mixed hn rfl (by kernel_rfl) rfl ?_
 | ((first | refine RunsL.pe hn rfl rfl rfl ?_ | refine RunsD.pe rfl rfl ?_); first
 | refine ⟨_, pu_add rfl rfl (by omega), ?_⟩
 | refine ⟨_, pu_indexAddr_map rfl rfl (by omega) (by assumption), ?_⟩
 | refine ⟨_, pu_sub rfl rfl (by omega), ?_⟩
 | refine ⟨_, pu_pick_b rfl rfl rfl, ?_⟩
 | refine ⟨_, pu_mul rfl rfl (by omega), ?_⟩
 | refine ⟨_, pu_build rfl rfl rfl rfl rfl rfl, ?_⟩)
 | ((first | refine RunsL.guard_dec rfl rfl rfl ?_ ?_ | refine RunsL.guard_ndec rfl rfl rfl ?_ ?_ | refine RunsL.guard_nb rfl rfl rfl ?_ ?_ | refine RunsL.guard_b rfl rfl rfl ?_ ?_ | refine RunsD.guard_dec rfl rfl rfl ?_ ?_ | refine RunsD.guard_ndec rfl rfl rfl ?_ ?_ | refine RunsD.guard_nb rfl rfl rfl ?_ ?_ | refine RunsD.guard_b rfl rfl rfl ?_ ?_) <;> intro h <;> try (exfalso; first | omega | contradiction | (simp only [List.length_map] at h; omega))))
          all_goals exact rr_bool (decide_eq_decide.2 ⟨fun h => ⟨by omega, hz', g2, g3, fun i y w hy hw => hQ.2 i y w (by have := (List.getElem?_eq_some_iff.1 hw).1; omega) hy hw, by rw [hl', ha, h]⟩, fun h => by have := h.last; rw [hl', ha] at this; injection this with this; omega⟩)
      · have hn0 : ¬ FrI p := fun h => hg ⟨by have := h.first; rw [hz'] at this; injection this, h.op0, h.op1⟩
        by_cases g1 : z = 2
        · by_cases g2 : opA p 0 = 9
          · have g3 : ¬ opA p 1 = 17 := fun h => hg ⟨g1, g2, h⟩
            repeat' (first
 | refine RunsL.step tabOk hn rfl ?_
 | refine RunsL.nil ?_
 | refine Runs.toRegion 30 rfl ?_
 | ((first | refine RunsL.pe hn rfl rfl rfl ?_ | refine RunsD.pe rfl rfl ?_); first
 | refine ⟨_, pu_callR o0 rfl, ?_⟩
 | refine ⟨_, pu_callR o1 rfl, ?_⟩)
 | (refine Runs.ctls 30 rfl ?_; first | refine Runs.cond_t rfl ?_ | ((first | refine Runs.cond_yes rfl ?_ ?_ | refine Runs.cond_nno rfl ?_ ?_); · first | omega | rfl | assumption | (simp only [List.length_map]; omega)) | ((first | refine Runs.cond_no rfl ?_ ?_ | refine Runs.cond_nyes rfl ?_ ?_); · first | omega | rfl | assumption | (simp only [List.length_map]; omega)) | refine Runs.cond_dec rfl (fun h => ?_) (fun h => ?_) | refine Runs.ret (ends_ro hm rfl rfl ?_) | exact Runs.ret (ends_cellR hm rfl rfl rfl (Nat.le_of_ble_eq_true rfl) rfl rfl))
 | refine op_box rfl (tl hn rfl) ?_
 | refine RunsD.step tabOk hn rfl rfl ?_
 | refine RunsD.nil ?_
 | refine Runs.toDraw 30 mixed hn rfl (by kernel_rfl) rfl ?_
 | ((first | refine RunsL.pe hn rfl rfl rfl ?_ | refine RunsD.pe rfl rfl ?_); first
 | refine ⟨_, pu_add rfl rfl (by omega), ?_⟩
 | refine ⟨_, pu_indexAddr_map rfl rfl (by omega) (by assumption), ?_⟩
 | refine ⟨_, pu_sub rfl rfl (by omega), ?_⟩
 | refine ⟨_, pu_pick_b rfl rfl rfl, ?_⟩
 | refine ⟨_, pu_mul rfl rfl (by omega), ?_⟩
 | refine ⟨_, pu_build rfl rfl rfl rfl rfl rfl, ?_⟩)
 | ((first | refine RunsL.guard_dec rfl rfl rfl ?_ ?_ | refine RunsL.guard_ndec rfl rfl rfl ?_ ?_ | refine RunsL.guard_nb rfl rfl rfl ?_ ?_ | refine RunsL.guard_b rfl rfl rfl ?_ ?_ | refine RunsD.guard_dec rfl rfl rfl ?_ ?_ | refine RunsD.guard_ndec rfl rfl rfl ?_ ?_ | refine RunsD.guard_nb rfl rfl rfl ?_ ?_ | refine RunsD.guard_b rfl rfl rfl ?_ ?_) <;> intro h <;> try (exfalso; first | omega | contradiction | (simp only [List.length_map] at h; omega))))
            all_goals exact rr_bool (decide_eq_false hn0).symm
          · repeat' (first
 | refine RunsL.step tabOk hn rfl ?_
 | refine RunsL.nil ?_
 | refine Runs.toRegion 30 rfl ?_
 | ((first | refine RunsL.pe hn rfl rfl rfl ?_ | refine RunsD.pe rfl rfl ?_); first
 | refine ⟨_, pu_callR o0 rfl, ?_⟩
 | refine ⟨_, pu_callR o1 rfl, ?_⟩)
 | (refine Runs.ctls 30 rfl ?_; first | refine Runs.cond_t rfl ?_ | ((first | refine Runs.cond_yes rfl ?_ ?_ | refine Runs.cond_nno rfl ?_ ?_); · first | omega | rfl | assumption | (simp only [List.length_map]; omega)) | ((first | refine Runs.cond_no rfl ?_ ?_ | refine Runs.cond_nyes rfl ?_ ?_); · first | omega | rfl | assumption | (simp only [List.length_map]; omega)) | refine Runs.cond_dec rfl (fun h => ?_) (fun h => ?_) | refine Runs.ret (ends_ro hm rfl rfl ?_) | exact Runs.ret (ends_cellR hm rfl rfl rfl (Nat.le_of_ble_eq_true rfl) rfl rfl))
 | refine op_box rfl (tl hn rfl) ?_
 | refine RunsD.step tabOk hn rfl rfl ?_
 | refine RunsD.nil ?_
 | refine Runs.toDraw 30 mixed hn rfl (by kernel_rfl) rfl ?_
 | ((first | refine RunsL.pe hn rfl rfl rfl ?_ | refine RunsD.pe rfl rfl ?_); first
 | refine ⟨_, pu_add rfl rfl (by omega), ?_⟩
 | refine ⟨_, pu_indexAddr_map rfl rfl (by omega) (by assumption), ?_⟩
 | refine ⟨_, pu_sub rfl rfl (by omega), ?_⟩
 | refine ⟨_, pu_pick_b rfl rfl rfl, ?_⟩
 | refine ⟨_, pu_mul rfl rfl (by omega), ?_⟩
 | refine ⟨_, pu_build rfl rfl rfl rfl rfl rfl, ?_⟩)
 | ((first | refine RunsL.guard_dec rfl rfl rfl ?_ ?_ | refine RunsL.guard_ndec rfl rfl rfl ?_ ?_ | refine RunsL.guard_nb rfl rfl rfl ?_ ?_ | refine RunsL.guard_b rfl rfl rfl ?_ ?_ | refine RunsD.guard_dec rfl rfl rfl ?_ ?_ | refine RunsD.guard_ndec rfl rfl rfl ?_ ?_ | refine RunsD.guard_nb rfl rfl rfl ?_ ?_ | refine RunsD.guard_b rfl rfl rfl ?_ ?_) <;> intro h <;> try (exfalso; first | omega | contradiction | (simp only [List.length_map] at h; omega))))
            all_goals exact rr_bool (decide_eq_false hn0).symm
        · repeat' (first
 | refine RunsL.step tabOk hn rfl ?_
 | refine RunsL.nil ?_
 | refine Runs.toRegion 30 rfl ?_
 | ((first | refine RunsL.pe hn rfl rfl rfl ?_ | refine RunsD.pe rfl rfl ?_); first
 | refine ⟨_, pu_callR o0 rfl, ?_⟩
 | refine ⟨_, pu_callR o1 rfl, ?_⟩)
 | (refine Runs.ctls 30 rfl ?_; first | refine Runs.cond_t rfl ?_ | ((first | refine Runs.cond_yes rfl ?_ ?_ | refine Runs.cond_nno rfl ?_ ?_); · first | omega | rfl | assumption | (simp only [List.length_map]; omega)) | ((first | refine Runs.cond_no rfl ?_ ?_ | refine Runs.cond_nyes rfl ?_ ?_); · first | omega | rfl | assumption | (simp only [List.length_map]; omega)) | refine Runs.cond_dec rfl (fun h => ?_) (fun h => ?_) | refine Runs.ret (ends_ro hm rfl rfl ?_) | exact Runs.ret (ends_cellR hm rfl rfl rfl (Nat.le_of_ble_eq_true rfl) rfl rfl))
 | refine op_box rfl (tl hn rfl) ?_
 | refine RunsD.step tabOk hn rfl rfl ?_
 | refine RunsD.nil ?_
 | refine Runs.toDraw 30 mixed hn rfl (by kernel_rfl) rfl ?_
 | ((first | refine RunsL.pe hn rfl rfl rfl ?_ | refine RunsD.pe rfl rfl ?_); first
 | refine ⟨_, pu_add rfl rfl (by omega), ?_⟩
 | refine ⟨_, pu_indexAddr_map rfl rfl (by omega) (by assumption), ?_⟩
 | refine ⟨_, pu_sub rfl rfl (by omega), ?_⟩
 | refine ⟨_, pu_pick_b rfl rfl rfl, ?_⟩
 | refine ⟨_, pu_mul rfl rfl (by omega), ?_⟩
 | refine ⟨_, pu_build rfl rfl rfl rfl rfl rfl, ?_⟩)
 | ((first | refine RunsL.guard_dec rfl rfl rfl ?_ ?_ | refine RunsL.guard_ndec rfl rfl rfl ?_ ?_ | refine RunsL.guard_nb rfl rfl rfl ?_ ?_ | refine RunsL.guard_b rfl rfl rfl ?_ ?_ | refine RunsD.guard_dec rfl rfl rfl ?_ ?_ | refine RunsD.guard_ndec rfl rfl rfl ?_ ?_ | refine RunsD.guard_nb rfl rfl rfl ?_ ?_ | refine RunsD.guard_b rfl rfl rfl ?_ ?_) <;> intro h <;> try (exfalso; first | omega | contradiction | (simp only [List.length_map] at h; omega))))
          all_goals exact rr_bool (decide_eq_false hn0).symm
  · have hn0 : ¬ FrI p := fun h => by have := h.len; omega
    repeat' (first
 | refine RunsL.step tabOk hn rfl ?_
 | refine RunsL.nil ?_
 | refine Runs.toRegion 30 rfl ?_
 | ((first | refine RunsL.pe hn rfl rfl rfl ?_ | refine RunsD.pe rfl rfl ?_); first
 | refine ⟨_, pu_callR o0 rfl, ?_⟩
 | refine ⟨_, pu_callR o1 rfl, ?_⟩)
 | (refine Runs.ctls 30 rfl ?_; first | refine Runs.cond_t rfl ?_ | ((first | refine Runs.cond_yes rfl ?_ ?_ | refine Runs.cond_nno rfl ?_ ?_); · first | omega | rfl | assumption | (simp only [List.length_map]; omega)) | ((first | refine Runs.cond_no rfl ?_ ?_ | refine Runs.cond_nyes rfl ?_ ?_); · first | omega | rfl | assumption | (simp only [List.length_map]; omega)) | refine Runs.cond_dec rfl (fun h => ?_) (fun h => ?_) | refine Runs.ret (ends_ro hm rfl rfl ?_) | exact Runs.ret (ends_cellR hm rfl rfl rfl (Nat.le_of_ble_eq_true rfl) rfl rfl))
 | refine op_box rfl (tl hn rfl) ?_
 | refine RunsD.step tabOk hn rfl rfl ?_
 | refine RunsD.nil ?_
 | refine Runs.toDraw 30 mixed hn rfl (by kernel_rfl) rfl ?_
 | ((first | refine RunsL.pe hn rfl rfl rfl ?_ | refine RunsD.pe rfl rfl ?_); first
 | refine ⟨_, pu_add rfl rfl (by omega), ?_⟩
 | refine ⟨_, pu_indexAddr_map rfl rfl (by omega) (by assumption), ?_⟩
 | refine ⟨_, pu_sub rfl rfl (by omega), ?_⟩
 | refine ⟨_, pu_pick_b rfl rfl rfl, ?_⟩
 | refine ⟨_, pu_mul rfl rfl (by omega), ?_⟩
 | refine ⟨_, pu_build rfl rfl rfl rfl rfl rfl, ?_⟩)
 | ((first | refine RunsL.guard_dec rfl rfl rfl ?_ ?_ | refine RunsL.guard_ndec rfl rfl rfl ?_ ?_ | refine RunsL.guard_nb rfl rfl rfl ?_ ?_ | refine RunsL.guard_b rfl rfl rfl ?_ ?_ | refine RunsD.guard_dec rfl rfl rfl ?_ ?_ | refine RunsD.guard_ndec rfl rfl rfl ?_ ?_ | refine RunsD.guard_nb rfl rfl rfl ?_ ?_ | refine RunsD.guard_b rfl rfl rfl ?_ ?_) <;> intro h <;> try (exfalso; first | omega | contradiction | (simp only [List.length_map] at h; omega))))
    all_goals exact rr_bool (decide_eq_false hn0).symm
set_option maxHeartbeats 16000000 in
theorem impl_IsSafeProgram (p : Prg) (hB : PrgB p) : ACv Tryd.prog 7 [prgR p] (.bool (decide (SafeP p))) := by
  have hlm : (p.entries.map fun z => [RV.int z]).length = p.entries.length := List.length_map ..
  have hlc : (p.code.map insR).length = p.code.length := List.length_map ..
  have hb1 := hB.code
  have hb2 := hB.ents
  have hel : p.entries.length ≤ maxLen := by unfold maxLen; omega
  have hcl : p.code.length ≤ maxLen := by unfold maxLen; omega
  have hf := safeFrame_ac p hB
  refine ac_enter Tryd.func7 rfl _ Tryd.ntmps7 (by simp) fun C hn hm => ?_
  by_cases hF : FrI p
  · have h700 := hF.len
    repeat' (first
 | refine RunsL.step tabOk hn rfl ?_
 | refine RunsL.nil ?_
 | refine Runs.toRegion 30 rfl ?_
 | (refine RunsL.pe hn rfl rfl rfl ?_; first
 | refine ⟨_, pu_callR hf rfl, ?_⟩)
 | (refine Runs.ctls 30 rfl ?_; first | ((first | refine Runs.cond_yes rfl ?_ ?_ | refine Runs.cond_nno rfl ?_ ?_); · first | omega | rfl | assumption | (simp only [List.length_map]; omega)) | ((first | refine Runs.cond_no rfl ?_ ?_ | refine Runs.cond_nyes rfl ?_ ?_); · first | omega | rfl | assumption | (simp only [List.length_map]; omega)) | refine Runs.ret (ends_ro hm rfl rfl ?_) | exact Runs.ret (ends_cellR hm rfl rfl rfl (Nat.le_of_ble_eq_true rfl) rfl rfl))
 | refine op_box rfl (tl hn rfl) ?_
 | (refine RunsL.pe hn rfl rfl rfl ?_; first
 | refine ⟨_, pu_add rfl rfl (by omega), ?_⟩
 | refine ⟨_, pu_indexAddr_map rfl rfl (by omega) (by assumption), ?_⟩
 | refine ⟨_, pu_sub rfl rfl (by omega), ?_⟩
        ))
    refine Runs.loopN 30 rfl (fun j => [(1, .obj 0 0), (13, .int (p.code.length : Int)), (14, .int (j : Int))]) (fun _ => [⟨31, 0, [.ro (inssR p.code), .ro (intsR p.entries)]⟩]) (fun j => ∀ i : Nat, i < j → SafeI p i) p.code.length 0 (Nat.zero_le _) (fun i h => absurd h (by omega)) ⟨rfl, by simp only [look]; exact congrArg (fun z : Nat => AV.int (z : Int)) hlc, rfl, trivial⟩ rfl fun j hj hQ next => ?_
    by_cases hlt : j < p.code.length
    · have hi := impl_IsSafeInstruction p j (by unfold I64; omega) hcl
      by_cases hs : SafeI p (j : Int)
      · repeat' (first
 | refine RunsL.step tabOk hn rfl ?_
 | refine RunsL.nil ?_
 | refine Runs.toRegion 30 rfl ?_
 | (refine RunsL.pe hn rfl rfl rfl ?_; first
 | refine ⟨_, pu_callR hi rfl, ?_⟩)
 | (refine Runs.ctls 30 rfl ?_; first | ((first | refine Runs.cond_yes rfl ?_ ?_ | refine Runs.cond_nno rfl ?_ ?_); · first | omega | rfl | assumption | (simp only [List.length_map]; omega)) | ((first | refine Runs.cond_no rfl ?_ ?_ | refine Runs.cond_nyes rfl ?_ ?_); · first | omega | rfl | assumption | (simp only [List.length_map]; omega)) | refine Runs.ret (ends_ro hm rfl rfl ?_) | exact Runs.ret (ends_cellR hm rfl rfl rfl (Nat.le_of_ble_eq_true rfl) rfl rfl))
 | refine op_box rfl (tl hn rfl) ?_
 | (refine RunsL.pe hn rfl rfl rfl ?_; first
 | refine ⟨_, pu_add rfl rfl (by omega), ?_⟩
 | refine ⟨_, pu_indexAddr_map rfl rfl (by omega) (by assumption), ?_⟩
 | refine ⟨_, pu_sub rfl rfl (by omega), ?_⟩
          ))
        refine next _ _ ⟨rfl, rfl, rfl, trivial⟩ hlt (fun i hi => ?_) rfl
        by_cases e : i = j
        · subst e; exact hs
        · exact hQ i (by omega)
      · repeat' (first
 | refine RunsL.step tabOk hn rfl ?_
 | refine RunsL.nil ?_
 | refine Runs.toRegion 30 rfl ?_
 | (refine RunsL.pe hn rfl rfl rfl ?_; first
 | refine ⟨_, pu_callR hi rfl, ?_⟩)
 | (refine Runs.ctls 30 rfl ?_; first | ((first | refine Runs.cond_yes rfl ?_ ?_ | refine Runs.cond_nno rfl ?_ ?_); · first | omega | rfl | assumption | (simp only [List.length_map]; omega)) | ((first | refine Runs.cond_no rfl ?_ ?_ | refine Runs.cond_nyes rfl ?_ ?_); · first | omega | rfl | assumption | (simp only [List.length_map]; omega)) | refine Runs.ret (ends_ro hm rfl rfl ?_) | exact Runs.ret (ends_cellR hm rfl rfl rfl (Nat.le_of_ble_eq_true rfl) rfl rfl))
 | refine op_box rfl (tl hn rfl) ?_
 | (refine RunsL.pe hn rfl rfl rfl ?_; first
 | refine ⟨_, pu_add rfl rfl (by omega), ?_⟩
 | refine ⟨_, pu_indexAddr_map rfl rfl (by omega) (by assumption), ?_⟩
 | refine ⟨_, pu_sub rfl rfl (by omega), ?_⟩
          ))
        all_goals exact rr_bool (decide_eq_false (p := SafeP p) fun hN => hs (hN.1.ins j hlt)).symm
    · obtain rfl : j = p.code.length := by omega
      have hFr := hF.frame hQ
      repeat' (first
 | refine RunsL.step tabOk hn rfl ?_
 | refine RunsL.nil ?_
 | refine Runs.toRegion 30 rfl ?_
 | (refine Runs.ctls 30 rfl ?_; first | ((first | refine Runs.cond_yes rfl ?_ ?_ | refine Runs.cond_nno rfl ?_ ?_); · first | omega | rfl | assumption | (simp only [List.length_map]; omega)) | ((first | refine Runs.cond_no rfl ?_ ?_ | refine Runs.cond_nyes rfl ?_ ?_); · first | omega | rfl | assumption | (simp only [List.length_map]; omega)) | refine Runs.ret (ends_ro hm rfl rfl ?_) | exact Runs.ret (ends_cellR hm rfl rfl rfl (Nat.le_of_ble_eq_true rfl) rfl rfl))
 | refine op_box rfl (tl hn rfl) ?_
 | (refine RunsL.pe hn rfl rfl rfl ?_; first
 | refine ⟨_, pu_add rfl rfl (by omega), ?_⟩
 | refine ⟨_, pu_indexAddr_map rfl rfl (by omega) (by assumption), ?_⟩
 | refine ⟨_, pu_sub rfl rfl (by omega), ?_⟩
          ))
      refine Runs.loopN 30 rfl (fun b => [(1, .obj 0 0), (4, .bool true), (24, .int (p.entries.length : Int)), (25, .int (b : Int))]) (fun _ => [⟨31, 0, [.ro (inssR p.code), .ro (intsR p.entries)]⟩]) (fun b => ∀ (c : Nat) e, c < b → p.entries[c]? = some e → opA p (endA p c - 1) = 10 ∧ ∀ (k : Int) x, e ≤ k → k < endA p c → p.code[k.toNat]? = some x → PlaceI p c k x) p.entries.length 0 (Nat.zero_le _) (fun c e h => absurd h (by omega)) ⟨rfl, rfl, by simp only [look]; exact congrArg (fun z : Nat => AV.int (z : Int)) hlm, rfl, trivial⟩ rfl fun b hb hR next2 => ?_
      by_cases hlt2 : b < p.entries.length
      · obtain ⟨e, he⟩ : ∃ e, p.entries[(b : Int).toNat]? = some e := ⟨_, List.getElem?_eq_getElem hlt2⟩
        have he' : p.entries[b]? = some e := he
        have hend := blockEnd_ac p b (by omega) (by omega) hel
        have hge := hF.end_ge b
        have hi64 := endA_i64 hB b
        unfold I64 at hi64
        have h2 := hF.two b e he'
        have hop := opAt_ac p (endA p b - 1)
        by_cases hret : opA p (endA p b - 1) = 10
        · have hidx := opA_in (p := p) (by rw [hret]; decide : opA p (endA p b - 1) ≠ 0)
          unfold Idx at hidx
          repeat' (first
 | refine RunsL.step tabOk hn rfl ?_
 | refine RunsL.nil ?_
 | refine Runs.toRegion 30 rfl ?_
 | (refine RunsL.pe hn rfl rfl rfl ?_; first
 | refine ⟨_, pu_callR hend rfl, ?_⟩
 | refine ⟨_, pu_callR hop rfl, ?_⟩)
 | (refine Runs.ctls 30 rfl ?_; first | ((first | refine Runs.cond_yes rfl ?_ ?_ | refine Runs.cond_nno rfl ?_ ?_); · first | omega | rfl | assumption | (simp only [List.length_map]; omega)) | ((first | refine Runs.cond_no rfl ?_ ?_ | refine Runs.cond_nyes rfl ?_ ?_); · first | omega | rfl | assumption | (simp only [List.length_map]; omega)) | refine Runs.ret (ends_ro hm rfl rfl ?_) | exact Runs.ret (ends_cellR hm rfl rfl rfl (Nat.le_of_ble_eq_true rfl) rfl rfl))
 | refine op_box rfl (tl hn rfl) ?_
 | (refine RunsL.pe hn rfl rfl rfl ?_; first
 | refine ⟨_, pu_add rfl rfl (by omega), ?_⟩
 | refine ⟨_, pu_indexAddr_map rfl rfl (by omega) (by assumption), ?_⟩
 | refine ⟨_, pu_sub rfl rfl (by omega), ?_⟩
              ))
          refine Runs.loopN 30 rfl (fun m => [(1, .obj 0 0), (4, .bool true), (24, .int (p.entries.length : Int)), (25, .int (b : Int)), (5, .int (b : Int)), (6, .int (endA p b)), (7, .int (e + m))]) (fun _ => [⟨31, 0, [.ro (inssR p.code), .ro (intsR p.entries)]⟩]) (fun m => ∀ (k : Int) x, e ≤ k → k < e + m → p.code[k.toNat]? = some x → PlaceI p b k x) (endA p b - e).toNat 0 (Nat.zero_le _) (fun k x h1 h2 => absurd h2 (by omega)) ⟨rfl, rfl, rfl, rfl, rfl, rfl, by simp only [look]; exact av_int (by omega), trivial⟩ rfl fun m hm' hP next3 => ?_
          by_cases hlt3 : m < (endA p b - e).toNat
          · obtain ⟨x, hx⟩ : ∃ x, p.code[(e + m).toNat]? = some x := ⟨_, List.getElem?_eq_getElem (by omega)⟩
            have hpl := safePlace_ac p b (e + m) x hlt2 ⟨by omega, by omega⟩ hx hel
            by_cases hpx : PlaceI p b (e + m) x
            · repeat' (first
 | refine RunsL.step tabOk hn rfl ?_
 | refine RunsL.nil ?_
 | refine Runs.toRegion 30 rfl ?_
 | (refine RunsL.pe hn rfl rfl rfl ?_; first
 | refine ⟨_, pu_callR hpl rfl, ?_⟩)
 | (refine Runs.ctls 30 rfl ?_; first | ((first | refine Runs.cond_yes rfl ?_ ?_ | refine Runs.cond_nno rfl ?_ ?_); · first | omega | rfl | assumption | (simp only [List.length_map]; omega)) | ((first | refine Runs.cond_no rfl ?_ ?_ | refine Runs.cond_nyes rfl ?_ ?_); · first | omega | rfl | assumption | (simp only [List.length_map]; omega)) | refine Runs.ret (ends_ro hm rfl rfl ?_) | exact Runs.ret (ends_cellR hm rfl rfl rfl (Nat.le_of_ble_eq_true rfl) rfl rfl))
 | refine op_box rfl (tl hn rfl) ?_
 | (refine RunsL.pe hn rfl rfl rfl ?_; first
 | refine ⟨_, pu_add rfl rfl (by omega), ?_⟩
 | refine ⟨_, pu_indexAddr_map rfl rfl (by omega) (by assumption), ?_⟩
 | refine ⟨_, pu_sub rfl rfl (by omega), ?_⟩
                ))
              refine next3 _ _ ⟨rfl, rfl, rfl, rfl, rfl, rfl, by simp only [look]; exact av_int (by omega), trivial⟩ hlt3 (fun k w hk1 hk2 hw => ?_) rfl
              by_cases ek : k = e + m
              · subst ek; rw [hx] at hw; injection hw with hw; subst hw; exact hpx
              · exact hP k w hk1 (by omega) hw
            · repeat' (first
 | refine RunsL.step tabOk hn rfl ?_
 | refine RunsL.nil ?_
 | refine Runs.toRegion 30 rfl ?_
 | (refine RunsL.pe hn rfl rfl rfl ?_; first
 | refine ⟨_, pu_callR hpl rfl, ?_⟩)
 | (refine Runs.ctls 30 rfl ?_; first | ((first | refine Runs.cond_yes rfl ?_ ?_ | refine Runs.cond_nno rfl ?_ ?_); · first | omega | rfl | assumption | (simp only [List.length_map]; omega)) | ((first | refine Runs.cond_no rfl ?_ ?_ | refine Runs.cond_nyes rfl ?_ ?_); · first | omega | rfl | assumption | (simp only [List.length_map]; omega)) | refine Runs.ret (ends_ro hm rfl rfl ?_) | exact Runs.ret (ends_cellR hm rfl rfl rfl (Nat.le_of_ble_eq_true rfl) rfl rfl))
 | refine op_box rfl (tl hn rfl) ?_
 | (refine RunsL.pe hn rfl rfl rfl ?_; first
 | refine ⟨_, pu_add rfl rfl (by omega), ?_⟩
 | refine ⟨_, pu_indexAddr_map rfl rfl (by omega) (by assumption), ?_⟩
 | refine ⟨_, pu_sub rfl rfl (by omega), ?_⟩
                ))
              all_goals exact rr_bool (decide_eq_false (p := SafeP p) fun hN => hpx ((hN.2 b e he').2 (e + m) x (by omega) (by omega) hx)).symm
          · repeat' (first
 | refine RunsL.step tabOk hn rfl ?_
 | refine RunsL.nil ?_
 | refine Runs.toRegion 30 rfl ?_
 | (refine Runs.ctls 30 rfl ?_; first | ((first | refine Runs.cond_yes rfl ?_ ?_ | refine Runs.cond_nno rfl ?_ ?_); · first | omega | rfl | assumption | (simp only [List.length_map]; omega)) | ((first | refine Runs.cond_no rfl ?_ ?_ | refine Runs.cond_nyes rfl ?_ ?_); · first | omega | rfl | assumption | (simp only [List.length_map]; omega)) | refine Runs.ret (ends_ro hm rfl rfl ?_) | exact Runs.ret (ends_cellR hm rfl rfl rfl (Nat.le_of_ble_eq_true rfl) rfl rfl))
 | refine op_box rfl (tl hn rfl) ?_
 | (refine RunsL.pe hn rfl rfl rfl ?_; first
 | refine ⟨_, pu_add rfl rfl (by omega), ?_⟩
 | refine ⟨_, pu_indexAddr_map rfl rfl (by omega) (by assumption), ?_⟩
 | refine ⟨_, pu_sub rfl rfl (by omega), ?_⟩
              ))
            refine next2 _ _ ⟨rfl, rfl, rfl, rfl, trivial⟩ hlt2 (fun c d hc hd => ?_) rfl
            by_cases ec : c = b
            · subst ec; rw [he'] at hd; injection hd with hd; subst hd
              exact ⟨hret, fun k x h1 h2 hx => hP k x h1 (by omega) hx⟩
            · exact hR c d (by omega) hd
        · repeat' (first
 | refine RunsL.step tabOk hn rfl ?_
 | refine RunsL.nil ?_
 | refine Runs.toRegion 30 rfl ?_
 | (refine RunsL.pe hn rfl rfl rfl ?_; first
 | refine ⟨_, pu_callR hend rfl, ?_⟩
 | refine ⟨_, pu_callR hop rfl, ?_⟩)
 | (refine Runs.ctls 30 rfl ?_; first | ((first | refine Runs.cond_yes rfl ?_ ?_ | refine Runs.cond_nno rfl ?_ ?_); · first | omega | rfl | assumption | (simp only [List.length_map]; omega)) | ((first | refine Runs.cond_no rfl ?_ ?_ | refine Runs.cond_nyes rfl ?_ ?_); · first | omega | rfl | assumption | (simp only [List.length_map]; omega)) | refine Runs.ret (ends_ro hm rfl rfl ?_) | exact Runs.ret (ends_cellR hm rfl rfl rfl (Nat.le_of_ble_eq_true rfl) rfl rfl))
 | refine op_box rfl (tl hn rfl) ?_
 | (refine RunsL.pe hn rfl rfl rfl ?_; first
 | refine ⟨_, pu_add rfl rfl (by omega), ?_⟩
 | refine ⟨_, pu_indexAddr_map rfl rfl (by omega) (by assumption), ?_⟩
 | refine ⟨_, pu_sub rfl rfl (by omega), ?_⟩
            ))
          all_goals exact rr_bool (decide_eq_false (p := SafeP p) fun hN => hret (hN.2 b e he').1).symm
      · repeat' (first
 | refine RunsL.step tabOk hn rfl ?_
 | refine RunsL.nil ?_
 | refine Runs.toRegion 30 rfl ?_
 | (refine Runs.ctls 30 rfl ?_; first | ((first | refine Runs.cond_yes rfl ?_ ?_ | refine Runs.cond_nno rfl ?_ ?_); · first | omega | rfl | assumption | (simp only [List.length_map]; omega)) | ((first | refine Runs.cond_no rfl ?_ ?_ | refine Runs.cond_nyes rfl ?_ ?_); · first | omega | rfl | assumption | (simp only [List.length_map]; omega)) | refine Runs.ret (ends_ro hm rfl rfl ?_) | exact Runs.ret (ends_cellR hm rfl rfl rfl (Nat.le_of_ble_eq_true rfl) rfl rfl))
 | refine op_box rfl (tl hn rfl) ?_
 | (refine RunsL.pe hn rfl rfl rfl ?_; first
 | refine ⟨_, pu_add rfl rfl (by omega), ?_⟩
 | refine ⟨_, pu_indexAddr_map rfl rfl (by omega) (by assumption), ?_⟩
 | refine ⟨_, pu_sub rfl rfl (by omega), ?_⟩
          ))
        exact rr_bool (decide_eq_true (p := SafeP p) ⟨hFr, fun c e he => hR c e (by have := (List.getElem?_eq_some_iff.1 he).1; omega) he⟩).symm
  · repeat' (first
 | refine RunsL.step tabOk hn rfl ?_
 | refine RunsL.nil ?_
 | refine Runs.toRegion 30 rfl ?_
 | (refine RunsL.pe hn rfl rfl rfl ?_; first
 | refine ⟨_, pu_callR hf rfl, ?_⟩)
 | (refine Runs.ctls 30 rfl ?_; first | ((first | refine Runs.cond_yes rfl ?_ ?_ | refine Runs.cond_nno rfl ?_ ?_); · first | omega | rfl | assumption | (simp only [List.length_map]; omega)) | ((first | refine Runs.cond_no rfl ?_ ?_ | refine Runs.cond_nyes rfl ?_ ?_); · first | omega | rfl | assumption | (simp only [List.length_map]; omega)) | refine Runs.ret (ends_ro hm rfl rfl ?_) | exact Runs.ret (ends_cellR hm rfl rfl rfl (Nat.le_of_ble_eq_true rfl) rfl rfl))
 | refine op_box rfl (tl hn rfl) ?_
 | (refine RunsL.pe hn rfl rfl rfl ?_; first
 | refine ⟨_, pu_add rfl rfl (by omega), ?_⟩
 | refine ⟨_, pu_indexAddr_map rfl rfl (by omega) (by assumption), ?_⟩
 | refine ⟨_, pu_sub rfl rfl (by omega), ?_⟩
      ))
    all_goals exact rr_bool (decide_eq_false (p := SafeP p) fun hN => hF hN.1.frI).symm
end Go.Proofs.YtofefjklipglhaaDoor
/- IsSafeProgram: the reference's side. -/
namespace Go.Proofs.YtofefjklipglhaaDoor
set_option linter.unusedSimpArgs false
set_option linter.unusedVariables false
open Go.RowKit
def BlocksS (p : Prg) : Prop := ∀ (b : Nat) e, p.entries[b]? = some e → e < endA p b ∧ opA p (endA p b - 1) = 10 ∧ ∀ (k : Int) x, e ≤ k → k < endA p b → p.code[k.toNat]? = some x → PlaceS p k e (endA p b) x
noncomputable instance (p : Prg) : Decidable (BlocksS p) := Classical.propDecidable _
end Go.Proofs.YtofefjklipglhaaDoor
/- The need of stack: plain facts, blocks, the greater of two: both sides. -/
namespace Go.Proofs.YtofefjklipglhaaDoor
set_option linter.unusedSimpArgs false
set_option linter.unusedVariables false
open Go.RowKit
open AV (Mem Keeps)
def intsA (n : Nat) (u : Nat → Int) : List AV := (List.range n).map fun j => .int (u j)
def put1I (u : Nat → Int) (k : Nat) (b : Int) : Nat → Int := fun j => if j = k then b else u j
theorem intsA_len (n : Nat) (u : Nat → Int) : (intsA n u).length = n := by simp [intsA]
theorem intsA_len1 (n : Nat) (u : Nat → Int) : (intsA n u).length = n * 1 := by simp [intsA]
theorem intsA_at {n : Nat} {u : Nat → Int} {k : Nat} (h : k < n) : (intsA n u)[k]? = some (.int (u k)) := by simp [intsA, h]
theorem intsA_set {n : Nat} {u : Nat → Int} {k : Nat} (b : Int) : (intsA n u).set k (.int b) = intsA n (put1I u k b) := by
  apply List.ext_getElem?
  intro j
  rw [List.getElem?_set]
  by_cases hj : j < n
  · rw [intsA_at hj, intsA_len]
    by_cases e : k = j
    · subst e; rw [if_pos rfl, if_pos hj, intsA_at hj]; simp [put1I]
    · rw [if_neg e, intsA_at hj]
      have : ¬ j = k := fun h => e h.symm
      simp [put1I, this]
  · have h1 : (intsA n (put1I u k b))[j]? = none := by rw [List.getElem?_eq_none]; rw [intsA_len]; omega
    have h2 : (intsA n u)[j]? = none := by rw [List.getElem?_eq_none]; rw [intsA_len]; omega
    rw [h1, h2]
    split
    · split
      · rename_i h; rw [intsA_len] at h; omega
      · rfl
    · rfl
theorem intsA_zero (n : Nat) : ((List.replicate n (RV.c (Value.int .i64 0))).map AV.ro) = intsA n fun _ => 0 := by
  apply List.ext_getElem?
  intro j
  by_cases hj : j < n
  · rw [intsA_at hj]; simp [hj]
  · have h1 : (intsA n fun _ => 0)[j]? = none := by rw [List.getElem?_eq_none]; rw [intsA_len]; omega
    rw [h1, List.getElem?_eq_none]; simp; omega
attribute [irreducible] intsA
section
variable {P : Program} {C : Ctx} {ops : Array Oper} {rest : List Oper} {k : List Item} {R : Act → World → Prop} {env : Env} {σ : List Ob} {t : Nat} {ty : TypeId} {pos : String} {after : Array Edge} {gd : Option (Nat × Bool)}
theorem pu_load_atI {tt : TypeId} {x : Operand} {i off n : Nat} {o : Ob} {u : Nat → Int} [T1 P tt] (hx : ev env x = .obj i off) (ho : σ[i]? = some o) (hc : o.cs = intsA n u) (hlt : off < n) : Pur P C ⟨some t, .load tt x, ty, pos, after, gd⟩ env σ (.int (u off)) :=
  pu_load_obj hx ho (by rw [hc]; exact intsA_at hlt)
theorem op_store1I {tt : TypeId} {x y : Operand} {i off n : Nat} {o : Ob} {u : Nat → Int} {b : Int} [T1 P tt] (hx : ev env x = .obj i off) (hy : ev env y = .int b) (ho : σ[i]? = some o) (hc : o.cs = intsA n u) (hlt : off < n)
    (hk : RunsL P C ops rest k R ⟨env, σ.set i ⟨o.t, o.sz, intsA n (put1I u off b)⟩⟩) : RunsL P C ops (⟨none, .store tt x y, ty, pos, after, none⟩ :: rest) k R ⟨env, σ⟩ :=
  op_store hx hy rfl ho (by rw [hc, intsA_len]; exact hlt) (by rw [hc, intsA_set]; exact hk)
end
def lastLe (l : List Int) (i : Int) : Nat → Int
  | 0 => -1
  | n + 1 => match l[n]? with
    | some e => if e ≤ i then (n : Int) else lastLe l i n
    | none => lastLe l i n
def bo (p : Prg) (i : Int) : Int := lastLe p.entries i p.entries.length
theorem lastLe_succ {l : List Int} {i : Int} {n : Nat} {e : Int} (h : l[n]? = some e) : lastLe l i (n + 1) = if e ≤ i then (n : Int) else lastLe l i n := by
  rw [lastLe, h]
theorem lastLe_bd (l : List Int) (i : Int) : ∀ n, -1 ≤ lastLe l i n ∧ lastLe l i n < n
  | 0 => ⟨Int.le_refl _, by simp [lastLe]⟩
  | n + 1 => by
    have := lastLe_bd l i n
    rw [lastLe]
    split
    · split <;> omega
    · omega
theorem lastLe_ge {l : List Int} {i : Int} {j : Nat} {e : Int} (hj : l[j]? = some e) (he : e ≤ i) : ∀ n, j < n → n ≤ l.length → (j : Int) ≤ lastLe l i n
  | 0, h, _ => by omega
  | n + 1, h, hn => by
    have hm := List.getElem?_eq_getElem (show n < l.length by omega)
    rw [lastLe_succ hm]
    split
    · omega
    · by_cases e' : j = n
      · subst e'; rw [hj] at hm; injection hm with hm; omega
      · exact lastLe_ge hj he n (by omega) (by omega)
theorem lastLe_at {l : List Int} {i : Int} : ∀ (n : Nat) (m : Nat), n ≤ l.length → lastLe l i n = m → ∃ e, l[m]? = some e ∧ e ≤ i ∧ m < n ∧ ∀ (m' : Nat) e', m < m' → m' < n → l[m']? = some e' → i < e'
  | 0, m, _, h => by simp only [lastLe] at h; omega
  | n + 1, m, hn, h => by
    have hm := List.getElem?_eq_getElem (show n < l.length by omega)
    rw [lastLe_succ hm] at h
    split at h
    · obtain rfl : m = n := by omega
      exact ⟨_, hm, by assumption, by omega, fun m' e' h1 h2 _ => by omega⟩
    · rename_i hgt
      obtain ⟨e, h1, h2, h3, h4⟩ := lastLe_at n m (by omega) h
      refine ⟨e, h1, h2, by omega, fun m' e' k1 k2 k3 => ?_⟩
      by_cases e'' : m' = n
      · subst e''; rw [k3] at hm; injection hm with hm; omega
      · exact h4 m' e' k1 (by omega) k3
theorem impl_BlockOfA (p : Prg) (i : Int) (hl : p.entries.length ≤ maxLen) : ACv Tryd.prog 11 [prgR p, .int i] (.int (bo p i)) := by
  have hlm : (p.entries.map fun z => [RV.int z]).length = p.entries.length := List.length_map ..
  unfold maxLen at hl
  refine ac_enter Tryd.func11 rfl _ Tryd.ntmps11 (by simp) fun C hn hm => ?_
  repeat' (first
 | refine RunsL.step tabOk hn rfl ?_
 | refine RunsL.nil ?_
 | refine Runs.toRegion 30 rfl ?_
 | (refine Runs.ctls 30 rfl ?_; first | refine Runs.cond_f rfl ?_ | ((first | refine Runs.cond_yes rfl ?_ ?_ | refine Runs.cond_nno rfl ?_ ?_); · first | omega | rfl | assumption | (simp only [List.length_map]; omega)) | ((first | refine Runs.cond_no rfl ?_ ?_ | refine Runs.cond_nyes rfl ?_ ?_); · first | omega | rfl | assumption | (simp only [List.length_map]; omega)) | refine Runs.ret (ends_ro hm rfl rfl ?_) | exact Runs.ret (ends_cellR hm rfl rfl rfl (Nat.le_of_ble_eq_true rfl) rfl rfl))
 | refine op_box rfl (tl hn rfl) ?_
 | (refine RunsL.pe hn rfl rfl rfl ?_; first
 | refine ⟨_, pu_indexAddr_map rfl rfl (by omega) (by assumption), ?_⟩
 | refine ⟨_, pu_sub rfl rfl (by omega), ?_⟩
      ))
  refine Runs.loopI 30 rfl (fun n E s => ∃ m : Nat, m = n ∧ m ≤ p.entries.length ∧ lastLe p.entries i m = bo p i ∧ E = [(2, .obj 0 0), (1, .int i), (5, .int ((m : Int) - 1))] ∧ s = [⟨31, 0, [.ro (inssR p.code), .ro (intsR p.entries)]⟩]) p.entries.length [(2, .obj 0 0), (1, .int i), (5, .int ((p.entries.length : Int) - 1))] ⟨rfl, rfl, by simp only [look]; exact av_int (by rw [hlm]), trivial⟩ ⟨_, rfl, Nat.le_refl _, rfl, rfl, rfl⟩ ?_
  rintro n E s ⟨m, rfl, hm', hv, rfl, rfl⟩ ih
  by_cases h0 : m = 0
  · subst h0
    repeat' (first
 | refine RunsL.step tabOk hn rfl ?_
 | refine RunsL.nil ?_
 | refine Runs.toRegion 30 rfl ?_
 | (refine Runs.ctls 30 rfl ?_; first | refine Runs.cond_f rfl ?_ | ((first | refine Runs.cond_yes rfl ?_ ?_ | refine Runs.cond_nno rfl ?_ ?_); · first | omega | rfl | assumption | (simp only [List.length_map]; omega)) | ((first | refine Runs.cond_no rfl ?_ ?_ | refine Runs.cond_nyes rfl ?_ ?_); · first | omega | rfl | assumption | (simp only [List.length_map]; omega)) | refine Runs.ret (ends_ro hm rfl rfl ?_) | exact Runs.ret (ends_cellR hm rfl rfl rfl (Nat.le_of_ble_eq_true rfl) rfl rfl))
 | refine op_box rfl (tl hn rfl) ?_
 | (refine RunsL.pe hn rfl rfl rfl ?_; first
 | refine ⟨_, pu_indexAddr_map rfl rfl (by omega) (by assumption), ?_⟩
 | refine ⟨_, pu_sub rfl rfl (by omega), ?_⟩
        ))
    exact rr_int hv
  · obtain ⟨q, rfl⟩ : ∃ q, m = q + 1 := ⟨m - 1, by omega⟩
    obtain ⟨e, he⟩ : ∃ e, p.entries[(((q + 1 : Nat) : Int) - 1).toNat]? = some e := ⟨_, List.getElem?_eq_getElem (by omega)⟩
    have he' : p.entries[q]? = some e := by rw [← he]; congr 1; omega
    rw [lastLe_succ he'] at hv
    by_cases hle : e ≤ i
    · rw [if_pos hle] at hv
      repeat' (first
 | refine RunsL.step tabOk hn rfl ?_
 | refine RunsL.nil ?_
 | refine Runs.toRegion 30 rfl ?_
 | (refine Runs.ctls 30 rfl ?_; first | refine Runs.cond_f rfl ?_ | ((first | refine Runs.cond_yes rfl ?_ ?_ | refine Runs.cond_nno rfl ?_ ?_); · first | omega | rfl | assumption | (simp only [List.length_map]; omega)) | ((first | refine Runs.cond_no rfl ?_ ?_ | refine Runs.cond_nyes rfl ?_ ?_); · first | omega | rfl | assumption | (simp only [List.length_map]; omega)) | refine Runs.ret (ends_ro hm rfl rfl ?_) | exact Runs.ret (ends_cellR hm rfl rfl rfl (Nat.le_of_ble_eq_true rfl) rfl rfl))
 | refine op_box rfl (tl hn rfl) ?_
 | (refine RunsL.pe hn rfl rfl rfl ?_; first
 | refine ⟨_, pu_indexAddr_map rfl rfl (by omega) (by assumption), ?_⟩
 | refine ⟨_, pu_sub rfl rfl (by omega), ?_⟩
          ))
      exact rr_int (by omega)
    · rw [if_neg hle] at hv
      repeat' (first
 | refine RunsL.step tabOk hn rfl ?_
 | refine RunsL.nil ?_
 | refine Runs.toRegion 30 rfl ?_
 | (refine Runs.ctls 30 rfl ?_; first | refine Runs.cond_f rfl ?_ | ((first | refine Runs.cond_yes rfl ?_ ?_ | refine Runs.cond_nno rfl ?_ ?_); · first | omega | rfl | assumption | (simp only [List.length_map]; omega)) | ((first | refine Runs.cond_no rfl ?_ ?_ | refine Runs.cond_nyes rfl ?_ ?_); · first | omega | rfl | assumption | (simp only [List.length_map]; omega)) | refine Runs.ret (ends_ro hm rfl rfl ?_) | exact Runs.ret (ends_cellR hm rfl rfl rfl (Nat.le_of_ble_eq_true rfl) rfl rfl))
 | refine op_box rfl (tl hn rfl) ?_
 | (refine RunsL.pe hn rfl rfl rfl ?_; first
 | refine ⟨_, pu_indexAddr_map rfl rfl (by omega) (by assumption), ?_⟩
 | refine ⟨_, pu_sub rfl rfl (by omega), ?_⟩
          ))
      exact ih q [(2, .obj 0 0), (1, .int i), (5, .int ((q : Int) - 1))] _ _ (by omega) ⟨q, rfl, by omega, hv, rfl, rfl⟩ ⟨rfl, rfl, by simp only [look]; exact av_int (by omega), trivial⟩
def mx (a b : Int) : Int := if a < b then b else a
theorem max1_ac (a b : Int) : ACv Tryd.prog 68 [.int a, .int b] (.bool (decide (b < a))) := by
  refine ac_enter Tryd.func68 rfl _ Tryd.ntmps68 (by simp) fun C hn hm => ?_
  repeat' (first
 | refine RunsL.step tabOk hn rfl ?_
 | refine RunsL.nil ?_
 | refine Runs.toRegion 30 rfl ?_
 | (refine Runs.ctls 30 rfl ?_; first | ((first | refine Runs.cond_yes rfl ?_ ?_ | refine Runs.cond_nno rfl ?_ ?_); · first | omega | rfl | assumption | (simp only [List.length_map]; omega)) | ((first | refine Runs.cond_no rfl ?_ ?_ | refine Runs.cond_nyes rfl ?_ ?_); · first | omega | rfl | assumption | (simp only [List.length_map]; omega)) | refine Runs.ret (ends_ro hm rfl rfl ?_) | exact Runs.ret (ends_cellR hm rfl rfl rfl (Nat.le_of_ble_eq_true rfl) rfl rfl))
    )
  exact rr_bool rfl
theorem pickMax_ac (a b : Int) : ACA Tryd.prog 67 [.fn (.func 68) [] [], .ro (.int a), .ro (intsR [b])] (fun rr => rr = .ro (.int (mx a b))) := by
  unfold mx
  have h1 := max1_ac b a
  refine aca_enter Tryd.func67 rfl _ Tryd.ntmps67 (by simp) fun C hn hm => ?_
  repeat' (first
 | refine RunsL.step tabOk hn rfl ?_
 | refine RunsL.nil ?_
 | refine Runs.toRegion 30 rfl ?_
 | (refine Runs.ctls 30 rfl ?_; first | refine Runs.cond_t rfl ?_ | refine Runs.cond_f rfl ?_ | ((first | refine Runs.cond_yes rfl ?_ ?_ | refine Runs.cond_nno rfl ?_ ?_); · first | omega | rfl | assumption | (simp only [List.length_map]; omega)) | ((first | refine Runs.cond_no rfl ?_ ?_ | refine Runs.cond_nyes rfl ?_ ?_); · first | omega | rfl | assumption | (simp only [List.length_map]; omega)) | refine Runs.ret (ends_ro hm rfl rfl ?_) | exact Runs.ret (ends_cellR hm rfl rfl rfl (Nat.le_of_ble_eq_true rfl) rfl rfl))
 | (refine RunsL.pe hn rfl rfl rfl ?_; first
 | refine ⟨_, pu_add rfl rfl (by omega), ?_⟩
 | refine ⟨_, pu_indexAddr_map rfl rfl (by omega) (by assumption), ?_⟩
      ))
  refine Runs.loopN 30 rfl (fun j => [(9, .ro (intsR [b])), (10, .int 1), (0, .fn (.func 68) [] []), (1, .int (if j = 0 then a else if a < b then b else a)), (11, .int (j : Int))]) (fun _ => []) (fun _ => True) 1 0 (Nat.zero_le _) trivial ⟨rfl, rfl, rfl, rfl, rfl, trivial⟩ rfl fun j hj _ next => ?_
  by_cases hlt : j < 1
  · obtain rfl : j = 0 := by omega
    have hz : [b][((0 : Nat) : Int).toNat]? = some b := rfl
    by_cases h : a < b
    · repeat' (first
 | refine RunsL.step tabOk hn rfl ?_
 | refine RunsL.nil ?_
 | refine Runs.toRegion 30 rfl ?_
 | (refine RunsL.pe hn rfl rfl rfl ?_; first
 | refine ⟨_, pu_callF rfl h1 (.cons .ro (.cons .ro .nil)), ?_⟩)
 | (refine Runs.ctls 30 rfl ?_; first | refine Runs.cond_t rfl ?_ | refine Runs.cond_f rfl ?_ | ((first | refine Runs.cond_yes rfl ?_ ?_ | refine Runs.cond_nno rfl ?_ ?_); · first | omega | rfl | assumption | (simp only [List.length_map]; omega)) | ((first | refine Runs.cond_no rfl ?_ ?_ | refine Runs.cond_nyes rfl ?_ ?_); · first | omega | rfl | assumption | (simp only [List.length_map]; omega)) | refine Runs.ret (ends_ro hm rfl rfl ?_) | exact Runs.ret (ends_cellR hm rfl rfl rfl (Nat.le_of_ble_eq_true rfl) rfl rfl))
 | (refine RunsL.pe hn rfl rfl rfl ?_; first
 | refine ⟨_, pu_add rfl rfl (by omega), ?_⟩
 | refine ⟨_, pu_indexAddr_map rfl rfl (by omega) (by assumption), ?_⟩
        ))
      exact next _ _ ⟨rfl, rfl, rfl, by simp only [look]; exact av_int (by simp [h]), rfl, trivial⟩ hlt trivial rfl
    · repeat' (first
 | refine RunsL.step tabOk hn rfl ?_
 | refine RunsL.nil ?_
 | refine Runs.toRegion 30 rfl ?_
 | (refine RunsL.pe hn rfl rfl rfl ?_; first
 | refine ⟨_, pu_callF rfl h1 (.cons .ro (.cons .ro .nil)), ?_⟩)
 | (refine Runs.ctls 30 rfl ?_; first | refine Runs.cond_t rfl ?_ | refine Runs.cond_f rfl ?_ | ((first | refine Runs.cond_yes rfl ?_ ?_ | refine Runs.cond_nno rfl ?_ ?_); · first | omega | rfl | assumption | (simp only [List.length_map]; omega)) | ((first | refine Runs.cond_no rfl ?_ ?_ | refine Runs.cond_nyes rfl ?_ ?_); · first | omega | rfl | assumption | (simp only [List.length_map]; omega)) | refine Runs.ret (ends_ro hm rfl rfl ?_) | exact Runs.ret (ends_cellR hm rfl rfl rfl (Nat.le_of_ble_eq_true rfl) rfl rfl))
 | (refine RunsL.pe hn rfl rfl rfl ?_; first
 | refine ⟨_, pu_add rfl rfl (by omega), ?_⟩
 | refine ⟨_, pu_indexAddr_map rfl rfl (by omega) (by assumption), ?_⟩
        ))
      exact next _ _ ⟨rfl, rfl, rfl, by simp only [look]; exact av_int (by simp [h]), rfl, trivial⟩ hlt trivial rfl
  · obtain rfl : j = 1 := by omega
    repeat' (first
 | refine RunsL.step tabOk hn rfl ?_
 | refine RunsL.nil ?_
 | refine Runs.toRegion 30 rfl ?_
 | (refine Runs.ctls 30 rfl ?_; first | refine Runs.cond_t rfl ?_ | refine Runs.cond_f rfl ?_ | ((first | refine Runs.cond_yes rfl ?_ ?_ | refine Runs.cond_nno rfl ?_ ?_); · first | omega | rfl | assumption | (simp only [List.length_map]; omega)) | ((first | refine Runs.cond_no rfl ?_ ?_ | refine Runs.cond_nyes rfl ?_ ?_); · first | omega | rfl | assumption | (simp only [List.length_map]; omega)) | refine Runs.ret (ends_ro hm rfl rfl ?_) | exact Runs.ret (ends_cellR hm rfl rfl rfl (Nat.le_of_ble_eq_true rfl) rfl rfl))
 | (refine RunsL.pe hn rfl rfl rfl ?_; first
 | refine ⟨_, pu_add rfl rfl (by omega), ?_⟩
 | refine ⟨_, pu_indexAddr_map rfl rfl (by omega) (by assumption), ?_⟩
        ))
    exact rr_int rfl
theorem impl_Max (a b : Int) : ACv Tryd.prog 53 [.int a, .int b] (.int (mx a b)) := by
  have hp := pickMax_ac a b
  refine ac_enter Tryd.func53 rfl _ Tryd.ntmps53 (by simp) fun C hn hm => ?_
  repeat' (first
 | refine RunsL.step tabOk hn rfl ?_
 | refine RunsL.nil ?_
 | refine Runs.toRegion 30 rfl ?_
 | (refine RunsL.pe hn rfl rfl rfl ?_; first
 | refine ⟨_, pu_callA hp (.cons (LendsA.fn .nil .nil) (.cons (LendsA.of Lends.ro) (.cons (LendsA.of Lends.ro) .nil))), ?_⟩)
 | (refine Runs.ctls 30 rfl ?_; first | ((first | refine Runs.cond_yes rfl ?_ ?_ | refine Runs.cond_nno rfl ?_ ?_); · first | omega | rfl | assumption | (simp only [List.length_map]; omega)) | ((first | refine Runs.cond_no rfl ?_ ?_ | refine Runs.cond_nyes rfl ?_ ?_); · first | omega | rfl | assumption | (simp only [List.length_map]; omega)) | refine Runs.ret (ends_ro hm rfl rfl ?_) | exact Runs.ret (ends_cellR hm rfl rfl rfl (Nat.le_of_ble_eq_true rfl) rfl rfl))
 | (refine RunsL.pe hn rfl rfl rfl ?_; first
 | refine ⟨_, pu_build rfl rfl rfl rfl rfl rfl, ?_⟩))
  exact rr_int rfl
def needF (p : Prg) : Nat → Nat → Int
  | 0, _ => 0
  | k + 1, j => if 2 ≤ k ∧ opA p k = 9 ∧ bo p k = j then mx (needF p k j) ((if opA p ((k : Int) - 1) = 7 then 2 else 1) + needF p k (bo p (aA p k)).toNat) else needF p k j
theorem needF_bd (p : Prg) : ∀ k j, 0 ≤ needF p k j ∧ needF p k j ≤ 2 * k
  | 0, j => ⟨Int.le_refl _, by simp [needF]⟩
  | k + 1, j => by
    have h1 := needF_bd p k j
    have h2 := needF_bd p k (bo p (aA p k)).toNat
    rw [needF]
    unfold mx
    split
    · split <;> split <;> omega
    · omega
theorem needF_two (p : Prg) : needF p 2 = fun _ => 0 := by
  funext j
  simp [needF]
theorem needF_skip {p : Prg} {k : Nat} (h : opA p k ≠ 9) : needF p (k + 1) = needF p k := by
  funext j
  rw [needF, if_neg fun h' => h h'.2.1]
theorem needF_call {p : Prg} {k b : Nat} (h2 : 2 ≤ k) (h : opA p k = 9) (hb : bo p k = b) : needF p (k + 1) = put1I (needF p k) b (mx (needF p k b) ((if opA p ((k : Int) - 1) = 7 then 2 else 1) + needF p k (bo p (aA p k)).toNat)) := by
  funext j
  rw [needF]
  unfold put1I
  by_cases e : j = b
  · subst e; rw [if_pos ⟨h2, h, hb⟩, if_pos rfl]
  · rw [if_neg fun h' => e (by have := h'.2.2; omega), if_neg e]
section
variable {p : Prg}
theorem bo_block (hF : FrameP p) {b : Nat} {e k : Int} (he : p.entries[b]? = some e) (h1 : e ≤ k) (h2 : k < endA p b) : bo p k = b := by
  have hb := (List.getElem?_eq_some_iff.1 he).1
  have hge := lastLe_ge he h1 p.entries.length hb (Nat.le_refl _)
  have hbd := lastLe_bd p.entries k p.entries.length
  obtain ⟨m, hm⟩ : ∃ m : Nat, lastLe p.entries k p.entries.length = m := ⟨(lastLe p.entries k p.entries.length).toNat, by omega⟩
  obtain ⟨e', g1, g2, g3, _⟩ := lastLe_at _ m (Nat.le_refl _) hm
  show lastLe p.entries k p.entries.length = b
  rw [hm]
  refine Classical.byContradiction fun hne => ?_
  have hbm : b < m := by omega
  have hn : b + 1 < p.entries.length := by omega
  have hz := List.getElem?_eq_getElem hn
  rw [endA_next hz] at h2
  by_cases e2 : b + 1 = m
  · subst e2; rw [hz] at g1; injection g1 with g1; omega
  · have := hF.mono m (b + 1) _ e' (by omega) hz g1; omega
theorem call_bo (hS : SafeP p) {b : Nat} {e k : Int} {x : Ins} (he : p.entries[b]? = some e) (h1 : e ≤ k) (h2 : k < endA p b) (hx : p.code[k.toNat]? = some x) (ho : x.op = 9) : 0 ≤ bo p x.a ∧ bo p x.a < p.entries.length := by
  have hP := ((hS.2 b e he).2 k x h1 h2 hx).2.1 ho
  obtain ⟨j, hj⟩ := List.getElem?_of_mem hP
  rw [List.getElem?_take] at hj
  split at hj
  · have hb := (List.getElem?_eq_some_iff.1 hj).1
    have := lastLe_ge hj (Int.le_refl x.a) p.entries.length hb (Nat.le_refl _)
    exact ⟨by unfold bo; omega, (lastLe_bd _ _ _).2⟩
  · simp at hj
end
end Go.Proofs.YtofefjklipglhaaDoor
/- StackNeeded, FitsMachine: both sides. -/
namespace Go.Proofs.YtofefjklipglhaaDoor
set_option linter.unusedSimpArgs false
set_option linter.unusedVariables false
open Go.RowKit
def need (p : Prg) : Int := 1 + needF p p.code.length (p.entries.length - 1)
noncomputable def stackN (p : Prg) : Int := open Classical in if SafeP p then need p else -1
set_option maxHeartbeats 16000000 in
theorem stackNeeded_ac (p : Prg) (hB : PrgB p) (hS : SafeP p) : ACv Tryd.prog 25 [prgR p] (.int (need p)) := by
  have hlm : (p.entries.map fun z => [RV.int z]).length = p.entries.length := List.length_map ..
  have hlc : (p.code.map insR).length = p.code.length := List.length_map ..
  have hF := hS.1
  have h700 := hF.len
  have hb2 := hB.ents
  have hel : p.entries.length ≤ maxLen := by unfold maxLen; omega
  have hne : 0 < p.entries.length := (List.getElem?_eq_some_iff.1 hF.first).1
  refine ac_enter Tryd.func25 rfl _ Tryd.ntmps25 (by simp) fun C hn hm => ?_
  repeat' (first
 | refine RunsL.step tabOk hn rfl ?_
 | refine RunsL.nil ?_
 | refine Runs.toRegion 30 rfl ?_
 | refine op_make1 rfl rfl rfl rfl (by simp only [List.length_map]; omega) (by unfold maxLen; simp only [List.length_map]; omega) (tl hn rfl) ?_
 | (refine Runs.ctls 30 rfl ?_; first | ((first | refine Runs.cond_yes rfl ?_ ?_ | refine Runs.cond_nno rfl ?_ ?_); · first | omega | rfl | assumption | (simp only [List.length_map]; omega)) | ((first | refine Runs.cond_no rfl ?_ ?_ | refine Runs.cond_nyes rfl ?_ ?_); · first | omega | rfl | assumption | (simp only [List.length_map]; omega)) | refine Runs.ret (ends_ro hm rfl rfl ?_) | exact Runs.ret (ends_cellR hm rfl rfl rfl (Nat.le_of_ble_eq_true rfl) rfl rfl))
 | refine op_box rfl (tl hn rfl) ?_
 | refine RunsD.step tabOk hn rfl rfl ?_
 | refine RunsD.nil ?_
 | refine Runs.toDraw 30 mixed hn rfl (by kernel_rfl) rfl ?_
 | ((first | refine RunsL.pe hn rfl rfl rfl ?_ | refine RunsD.pe rfl rfl ?_); first
 | refine ⟨_, pu_add rfl rfl (by omega), ?_⟩
 | refine ⟨_, pu_indexAddr_map rfl rfl (by omega) (by assumption), ?_⟩
 | refine ⟨_, pu_sub rfl rfl (by omega), ?_⟩
 | refine ⟨_, pu_pick_b rfl rfl rfl, ?_⟩
 | refine ⟨_, pu_mul rfl rfl (by omega), ?_⟩
 | refine ⟨_, pu_build rfl rfl rfl rfl rfl rfl, ?_⟩))
  refine Runs.loopN 30 rfl (fun b => [(1, .obj 0 0), (3, .own 1), (13, .int (p.entries.length : Int)), (14, .int (b : Int))]) (fun b => [⟨31, 0, [.ro (inssR p.code), .ro (intsR p.entries)]⟩, ⟨3, 1, intsA p.entries.length (needF p (endA p ((b : Int) - 1)).toNat)⟩]) (fun _ => True) p.entries.length 0 (Nat.zero_le _) trivial ⟨rfl, rfl, by simp only [look]; exact congrArg (fun z : Nat => AV.int (z : Int)) hlm, rfl, trivial⟩ (by
    have e0 : endA p (((0 : Nat) : Int) - 1) = 2 := by
      unfold endA
      rw [show (((0 : Nat) : Int) - 1 + 1).toNat = 0 by rfl, hF.first]
    rw [e0, show (2 : Int).toNat = 2 by rfl, needF_two, ← intsA_zero]
    simp only [List.length_map]
    rfl) fun b hb _ next2 => ?_
  by_cases hlt2 : b < p.entries.length
  · obtain ⟨e, he⟩ : ∃ e, p.entries[(b : Int).toNat]? = some e := ⟨_, List.getElem?_eq_getElem hlt2⟩
    have he' : p.entries[b]? = some e := he
    have hend := blockEnd_ac p b (by omega) (by omega) hel
    have hlt := hF.lt_end he'
    have hle := hF.end_le b
    have h2 := hF.two he'
    have est : endA p ((b : Int) - 1) = e := by
      unfold endA
      rw [show ((b : Int) - 1 + 1).toNat = b by omega, he']
    rw [est]
    repeat' (first
 | refine RunsL.step tabOk hn rfl ?_
 | refine RunsL.nil ?_
 | refine Runs.toRegion 30 rfl ?_
 | (refine Runs.ctls 30 rfl ?_; first | ((first | refine Runs.cond_yes rfl ?_ ?_ | refine Runs.cond_nno rfl ?_ ?_); · first | omega | rfl | assumption | (simp only [List.length_map]; omega)) | ((first | refine Runs.cond_no rfl ?_ ?_ | refine Runs.cond_nyes rfl ?_ ?_); · first | omega | rfl | assumption | (simp only [List.length_map]; omega)) | refine Runs.ret (ends_ro hm rfl rfl ?_) | exact Runs.ret (ends_cellR hm rfl rfl rfl (Nat.le_of_ble_eq_true rfl) rfl rfl))
 | refine op_box rfl (tl hn rfl) ?_
 | refine RunsD.step tabOk hn rfl rfl ?_
 | refine RunsD.nil ?_
 | refine Runs.toDraw 30 mixed hn rfl (by kernel_rfl) rfl ?_
 | ((first | refine RunsL.pe hn rfl rfl rfl ?_ | refine RunsD.pe rfl rfl ?_); first
 | refine ⟨_, pu_add rfl rfl (by omega), ?_⟩
 | refine ⟨_, pu_indexAddr_map rfl rfl (by omega) (by assumption), ?_⟩
 | refine ⟨_, pu_sub rfl rfl (by omega), ?_⟩
 | refine ⟨_, pu_pick_b rfl rfl rfl, ?_⟩
 | refine ⟨_, pu_mul rfl rfl (by omega), ?_⟩
 | refine ⟨_, pu_build rfl rfl rfl rfl rfl rfl, ?_⟩))
    refine Runs.loopN 30 rfl (fun m => [(1, .obj 0 0), (3, .own 1), (13, .int (p.entries.length : Int)), (14, .int (b : Int)), (4, .int (b : Int)), (5, .int (e + m))]) (fun m => [⟨31, 0, [.ro (inssR p.code), .ro (intsR p.entries)]⟩, ⟨3, 1, intsA p.entries.length (needF p (e + m).toNat)⟩]) (fun _ => True) (endA p b - e).toNat 0 (Nat.zero_le _) trivial ⟨rfl, rfl, rfl, rfl, rfl, by simp only [look]; exact av_int (by omega), trivial⟩ (by rw [show e + ((0 : Nat) : Int) = e by omega]) fun m hm' _ next3 => ?_
    by_cases hlt3 : m < (endA p b - e).toNat
    · obtain ⟨x, hx⟩ : ∃ x, p.code[(e + m).toNat]? = some x := ⟨_, List.getElem?_eq_getElem (by omega)⟩
      obtain ⟨y, hy⟩ : ∃ y, p.code[(e + m - 1).toNat]? = some y := ⟨_, List.getElem?_eq_getElem (by omega)⟩
      have ho : opA p (e + m) = x.op := opA_at (by omega) hx
      have hoy : opA p (e + m - 1) = y.op := opA_at (by omega) hy
      have ha : aA p (e + m) = x.a := aA_at (by omega) hx
      have hnx : e + ((m + 1 : Nat) : Int) = e + m + 1 := by omega
      have hnt : (e + ((m + 1 : Nat) : Int)).toNat = (e + m).toNat + 1 := by omega
      have hkk : (((e + m).toNat : Nat) : Int) = e + m := by omega
      by_cases h9 : x.op = 9
      · have hbo := bo_block hF he' (show e ≤ e + m by omega) (by omega)
        have hcb := call_bo hS he' (show e ≤ e + m by omega) (by omega) hx h9
        have hbl := impl_BlockOfA p x.a hel
        have hbd := needF_bd p (e + m).toNat (bo p x.a).toNat
        have hmx := fun v => impl_Max (needF p (e + m).toNat b) v
        have hcall := needF_call (p := p) (k := (e + m).toNat) (b := b) (by omega) (by rw [hkk, ho, h9]) (by rw [hkk]; exact hbo)
        rw [hkk, hoy, ha] at hcall
        have ib : (b : Int).toNat * 1 = b := by omega
        by_cases h7 : y.op = 7
        · rw [if_pos h7] at hcall
          have e1 : 1 + needF p (e + m).toNat (bo p x.a).toNat + 1 = 2 + needF p (e + m).toNat (bo p x.a).toNat := by omega
          repeat' (first
 | ((first | refine RunsL.pe hn rfl rfl rfl ?_ | refine RunsD.pe rfl rfl ?_); first
 | refine ⟨_, pu_load_atI (tt := 3) (n := p.entries.length) rfl rfl rfl (by omega), ?_⟩)
 | refine RunsL.step tabOk hn rfl ?_
 | refine RunsL.nil ?_
 | refine Runs.toRegion 30 rfl ?_
 | refine op_store1I (n := p.entries.length) rfl rfl rfl rfl (by omega) ?_
 | ((first | refine RunsL.pe hn rfl rfl rfl ?_ | refine RunsD.pe rfl rfl ?_); first
 | refine ⟨_, pu_callR hend rfl, ?_⟩
 | refine ⟨_, pu_callR hbl rfl, ?_⟩
 | refine ⟨_, pu_callR (impl_Max _ _) rfl, ?_⟩
 | refine ⟨_, pu_indexAddr_own (sz := 1) (n := p.entries.length) rfl rfl rfl rfl (intsA_len1 _ _) (by omega) (by omega), ?_⟩
 | refine ⟨_, pu_add rfl rfl (by have := needF_bd p (e + m).toNat ((bo p x.a).toNat * 1); omega), ?_⟩)
 | (refine Runs.ctls 30 rfl ?_; first | ((first | refine Runs.cond_yes rfl ?_ ?_ | refine Runs.cond_nno rfl ?_ ?_); · first | omega | rfl | assumption | (simp only [List.length_map]; omega)) | ((first | refine Runs.cond_no rfl ?_ ?_ | refine Runs.cond_nyes rfl ?_ ?_); · first | omega | rfl | assumption | (simp only [List.length_map]; omega)) | refine Runs.ret (ends_ro hm rfl rfl ?_) | exact Runs.ret (ends_cellR hm rfl rfl rfl (Nat.le_of_ble_eq_true rfl) rfl rfl))
 | refine op_box rfl (tl hn rfl) ?_
 | refine RunsD.step tabOk hn rfl rfl ?_
 | refine RunsD.nil ?_
 | refine Runs.toDraw 30 mixed hn rfl (by kernel_rfl) rfl ?_
 | ((first | refine RunsL.pe hn rfl rfl rfl ?_ | refine RunsD.pe rfl rfl ?_); first
 | refine ⟨_, pu_add rfl rfl (by omega), ?_⟩
 | refine ⟨_, pu_indexAddr_map rfl rfl (by omega) (by assumption), ?_⟩
 | refine ⟨_, pu_sub rfl rfl (by omega), ?_⟩
 | refine ⟨_, pu_pick_b rfl rfl rfl, ?_⟩
 | refine ⟨_, pu_mul rfl rfl (by omega), ?_⟩
 | refine ⟨_, pu_build rfl rfl rfl rfl rfl rfl, ?_⟩))
          refine next3 _ _ ⟨rfl, rfl, rfl, rfl, rfl, by simp only [look]; exact av_int (by omega), trivial⟩ hlt3 trivial ?_
          rw [hnt, hcall]
          simp only [ib, Nat.mul_one, e1]
          rfl
        · rw [if_neg h7] at hcall
          repeat' (first
 | ((first | refine RunsL.pe hn rfl rfl rfl ?_ | refine RunsD.pe rfl rfl ?_); first
 | refine ⟨_, pu_load_atI (tt := 3) (n := p.entries.length) rfl rfl rfl (by omega), ?_⟩)
 | refine RunsL.step tabOk hn rfl ?_
 | refine RunsL.nil ?_
 | refine Runs.toRegion 30 rfl ?_
 | refine op_store1I (n := p.entries.length) rfl rfl rfl rfl (by omega) ?_
 | ((first | refine RunsL.pe hn rfl rfl rfl ?_ | refine RunsD.pe rfl rfl ?_); first
 | refine ⟨_, pu_callR hend rfl, ?_⟩
 | refine ⟨_, pu_callR hbl rfl, ?_⟩
 | refine ⟨_, pu_callR (impl_Max _ _) rfl, ?_⟩
 | refine ⟨_, pu_indexAddr_own (sz := 1) (n := p.entries.length) rfl rfl rfl rfl (intsA_len1 _ _) (by omega) (by omega), ?_⟩
 | refine ⟨_, pu_add rfl rfl (by have := needF_bd p (e + m).toNat ((bo p x.a).toNat * 1); omega), ?_⟩)
 | (refine Runs.ctls 30 rfl ?_; first | ((first | refine Runs.cond_yes rfl ?_ ?_ | refine Runs.cond_nno rfl ?_ ?_); · first | omega | rfl | assumption | (simp only [List.length_map]; omega)) | ((first | refine Runs.cond_no rfl ?_ ?_ | refine Runs.cond_nyes rfl ?_ ?_); · first | omega | rfl | assumption | (simp only [List.length_map]; omega)) | refine Runs.ret (ends_ro hm rfl rfl ?_) | exact Runs.ret (ends_cellR hm rfl rfl rfl (Nat.le_of_ble_eq_true rfl) rfl rfl))
 | refine op_box rfl (tl hn rfl) ?_
 | refine RunsD.step tabOk hn rfl rfl ?_
 | refine RunsD.nil ?_
 | refine Runs.toDraw 30 mixed hn rfl (by kernel_rfl) rfl ?_
 | ((first | refine RunsL.pe hn rfl rfl rfl ?_ | refine RunsD.pe rfl rfl ?_); first
 | refine ⟨_, pu_add rfl rfl (by omega), ?_⟩
 | refine ⟨_, pu_indexAddr_map rfl rfl (by omega) (by assumption), ?_⟩
 | refine ⟨_, pu_sub rfl rfl (by omega), ?_⟩
 | refine ⟨_, pu_pick_b rfl rfl rfl, ?_⟩
 | refine ⟨_, pu_mul rfl rfl (by omega), ?_⟩
 | refine ⟨_, pu_build rfl rfl rfl rfl rfl rfl, ?_⟩))
          refine next3 _ _ ⟨rfl, rfl, rfl, rfl, rfl, by simp only [look]; exact av_int (by omega), trivial⟩ hlt3 trivial ?_
          rw [hnt, hcall]
          simp only [ib, Nat.mul_one]
          rfl
      · have hsk := needF_skip (p := p) (k := (e + m).toNat) (by rw [hkk, ho]; exact h9)
        repeat' (first
 | refine RunsL.step tabOk hn rfl ?_
 | refine RunsL.nil ?_
 | refine Runs.toRegion 30 rfl ?_
 | ((first | refine RunsL.pe hn rfl rfl rfl ?_ | refine RunsD.pe rfl rfl ?_); first
 | refine ⟨_, pu_callR hend rfl, ?_⟩)
 | (refine Runs.ctls 30 rfl ?_; first | ((first | refine Runs.cond_yes rfl ?_ ?_ | refine Runs.cond_nno rfl ?_ ?_); · first | omega | rfl | assumption | (simp only [List.length_map]; omega)) | ((first | refine Runs.cond_no rfl ?_ ?_ | refine Runs.cond_nyes rfl ?_ ?_); · first | omega | rfl | assumption | (simp only [List.length_map]; omega)) | refine Runs.ret (ends_ro hm rfl rfl ?_) | exact Runs.ret (ends_cellR hm rfl rfl rfl (Nat.le_of_ble_eq_true rfl) rfl rfl))
 | refine op_box rfl (tl hn rfl) ?_
 | refine RunsD.step tabOk hn rfl rfl ?_
 | refine RunsD.nil ?_
 | refine Runs.toDraw 30 mixed hn rfl (by kernel_rfl) rfl ?_
 | ((first | refine RunsL.pe hn rfl rfl rfl ?_ | refine RunsD.pe rfl rfl ?_); first
 | refine ⟨_, pu_add rfl rfl (by omega), ?_⟩
 | refine ⟨_, pu_indexAddr_map rfl rfl (by omega) (by assumption), ?_⟩
 | refine ⟨_, pu_sub rfl rfl (by omega), ?_⟩
 | refine ⟨_, pu_pick_b rfl rfl rfl, ?_⟩
 | refine ⟨_, pu_mul rfl rfl (by omega), ?_⟩
 | refine ⟨_, pu_build rfl rfl rfl rfl rfl rfl, ?_⟩))
        refine next3 _ _ ⟨rfl, rfl, rfl, rfl, rfl, by simp only [look]; exact av_int (by omega), trivial⟩ hlt3 trivial ?_
        rw [hnt, hsk]
    · repeat' (first
 | refine RunsL.step tabOk hn rfl ?_
 | refine RunsL.nil ?_
 | refine Runs.toRegion 30 rfl ?_
 | ((first | refine RunsL.pe hn rfl rfl rfl ?_ | refine RunsD.pe rfl rfl ?_); first
 | refine ⟨_, pu_callR hend rfl, ?_⟩)
 | (refine Runs.ctls 30 rfl ?_; first | ((first | refine Runs.cond_yes rfl ?_ ?_ | refine Runs.cond_nno rfl ?_ ?_); · first | omega | rfl | assumption | (simp only [List.length_map]; omega)) | ((first | refine Runs.cond_no rfl ?_ ?_ | refine Runs.cond_nyes rfl ?_ ?_); · first | omega | rfl | assumption | (simp only [List.length_map]; omega)) | refine Runs.ret (ends_ro hm rfl rfl ?_) | exact Runs.ret (ends_cellR hm rfl rfl rfl (Nat.le_of_ble_eq_true rfl) rfl rfl))
 | refine op_box rfl (tl hn rfl) ?_
 | refine RunsD.step tabOk hn rfl rfl ?_
 | refine RunsD.nil ?_
 | refine Runs.toDraw 30 mixed hn rfl (by kernel_rfl) rfl ?_
 | ((first | refine RunsL.pe hn rfl rfl rfl ?_ | refine RunsD.pe rfl rfl ?_); first
 | refine ⟨_, pu_add rfl rfl (by omega), ?_⟩
 | refine ⟨_, pu_indexAddr_map rfl rfl (by omega) (by assumption), ?_⟩
 | refine ⟨_, pu_sub rfl rfl (by omega), ?_⟩
 | refine ⟨_, pu_pick_b rfl rfl rfl, ?_⟩
 | refine ⟨_, pu_mul rfl rfl (by omega), ?_⟩
 | refine ⟨_, pu_build rfl rfl rfl rfl rfl rfl, ?_⟩))
      refine next2 _ _ ⟨rfl, rfl, rfl, rfl, trivial⟩ hlt2 trivial ?_
      rw [show (((b + 1 : Nat) : Int) - 1) = b by omega, show endA p b = e + m by omega]
  · obtain rfl : b = p.entries.length := by omega
    have est : endA p ((p.entries.length : Int) - 1) = p.code.length := by
      unfold endA
      rw [show ((p.entries.length : Int) - 1 + 1).toNat = p.entries.length by omega, List.getElem?_eq_none (Nat.le_refl _)]
    rw [est, Int.toNat_natCast]
    have hbd := needF_bd p p.code.length (p.entries.length - 1)
    have il : ((p.entries.length : Int) - 1).toNat * 1 = p.entries.length - 1 := by omega
    have hix : ∀ i, ((p.entries.length : Int) - 1).toNat * 1 = i → needF p p.code.length i = needF p p.code.length (p.entries.length - 1) := fun i hi => by rw [← hi, il]
    have hbd2 := hix _ rfl
    repeat' (first
 | ((first | refine RunsL.pe hn rfl rfl rfl ?_ | refine RunsD.pe rfl rfl ?_); first
 | refine ⟨_, pu_load_atI (tt := 3) (n := p.entries.length) rfl rfl rfl (by omega), ?_⟩)
 | refine RunsL.step tabOk hn rfl ?_
 | refine RunsL.nil ?_
 | refine Runs.toRegion 30 rfl ?_
 | ((first | refine RunsL.pe hn rfl rfl rfl ?_ | refine RunsD.pe rfl rfl ?_); first
 | refine ⟨_, pu_len_own (n := p.entries.length) rfl rfl (intsA_len1 _ _), ?_⟩
 | refine ⟨_, pu_indexAddr_own (sz := 1) (n := p.entries.length) rfl rfl rfl rfl (intsA_len1 _ _) (by omega) (by omega), ?_⟩)
 | (refine Runs.ctls 30 rfl ?_; first | ((first | refine Runs.cond_yes rfl ?_ ?_ | refine Runs.cond_nno rfl ?_ ?_); · first | omega | rfl | assumption | (simp only [List.length_map]; omega)) | ((first | refine Runs.cond_no rfl ?_ ?_ | refine Runs.cond_nyes rfl ?_ ?_); · first | omega | rfl | assumption | (simp only [List.length_map]; omega)) | refine Runs.ret (ends_ro hm rfl rfl ?_) | exact Runs.ret (ends_cellR hm rfl rfl rfl (Nat.le_of_ble_eq_true rfl) rfl rfl))
 | refine op_box rfl (tl hn rfl) ?_
 | refine RunsD.step tabOk hn rfl rfl ?_
 | refine RunsD.nil ?_
 | refine Runs.toDraw 30 mixed hn rfl (by kernel_rfl) rfl ?_
 | ((first | refine RunsL.pe hn rfl rfl rfl ?_ | refine RunsD.pe rfl rfl ?_); first
 | refine ⟨_, pu_add rfl rfl (by omega), ?_⟩
 | refine ⟨_, pu_indexAddr_map rfl rfl (by omega) (by assumption), ?_⟩
 | refine ⟨_, pu_sub rfl rfl (by omega), ?_⟩
 | refine ⟨_, pu_pick_b rfl rfl rfl, ?_⟩
 | refine ⟨_, pu_mul rfl rfl (by omega), ?_⟩
 | refine ⟨_, pu_build rfl rfl rfl rfl rfl rfl, ?_⟩))
    exact rr_int (by rw [hbd2]; rfl)
theorem impl_StackNeeded (p : Prg) (hB : PrgB p) : ACv Tryd.prog 13 [prgR p] (.int (stackN p)) := by
  have h1 := impl_IsSafeProgram p hB
  unfold stackN
  refine ac_enter Tryd.func13 rfl _ Tryd.ntmps13 (by simp) fun C hn hm => ?_
  by_cases hS : SafeP p
  · have h2 := stackNeeded_ac p hB hS
    rw [if_pos hS]
    repeat' (first
 | refine RunsL.step tabOk hn rfl ?_
 | refine RunsL.nil ?_
 | refine Runs.toRegion 30 rfl ?_
 | (refine RunsL.pe hn rfl rfl rfl ?_; first
 | refine ⟨_, pu_callR h1 rfl, ?_⟩
 | refine ⟨_, pu_callR h2 rfl, ?_⟩)
 | (refine Runs.ctls 30 rfl ?_; first | ((first | refine Runs.cond_yes rfl ?_ ?_ | refine Runs.cond_nno rfl ?_ ?_); · first | omega | rfl | assumption | (simp only [List.length_map]; omega)) | ((first | refine Runs.cond_no rfl ?_ ?_ | refine Runs.cond_nyes rfl ?_ ?_); · first | omega | rfl | assumption | (simp only [List.length_map]; omega)) | refine Runs.ret (ends_ro hm rfl rfl ?_) | exact Runs.ret (ends_cellR hm rfl rfl rfl (Nat.le_of_ble_eq_true rfl) rfl rfl))
 | refine op_box rfl (tl hn rfl) ?_
      )
    exact rr_int rfl
  · rw [if_neg hS]
    repeat' (first
 | refine RunsL.step tabOk hn rfl ?_
 | refine RunsL.nil ?_
 | refine Runs.toRegion 30 rfl ?_
 | (refine RunsL.pe hn rfl rfl rfl ?_; first
 | refine ⟨_, pu_callR h1 rfl, ?_⟩)
 | (refine Runs.ctls 30 rfl ?_; first | ((first | refine Runs.cond_yes rfl ?_ ?_ | refine Runs.cond_nno rfl ?_ ?_); · first | omega | rfl | assumption | (simp only [List.length_map]; omega)) | ((first | refine Runs.cond_no rfl ?_ ?_ | refine Runs.cond_nyes rfl ?_ ?_); · first | omega | rfl | assumption | (simp only [List.length_map]; omega)) | refine Runs.ret (ends_ro hm rfl rfl ?_) | exact Runs.ret (ends_cellR hm rfl rfl rfl (Nat.le_of_ble_eq_true rfl) rfl rfl))
 | refine op_box rfl (tl hn rfl) ?_
      )
    all_goals exact rr_int rfl
theorem impl_FitsMachine (p : Prg) (hB : PrgB p) : ACv Tryd.prog 8 [prgR p] (.bool (decide (SafeP p ∧ need p ≤ 60))) := by
  have h1 := impl_IsSafeProgram p hB
  refine ac_enter Tryd.func8 rfl _ Tryd.ntmps8 (by simp) fun C hn hm => ?_
  by_cases hS : SafeP p
  · have h2 := stackNeeded_ac p hB hS
    repeat' (first
 | refine RunsL.step tabOk hn rfl ?_
 | refine RunsL.nil ?_
 | refine Runs.toRegion 30 rfl ?_
 | (refine RunsL.pe hn rfl rfl rfl ?_; first
 | refine ⟨_, pu_callR h1 rfl, ?_⟩
 | refine ⟨_, pu_callR h2 rfl, ?_⟩)
 | (refine Runs.ctls 30 rfl ?_; first | ((first | refine Runs.cond_yes rfl ?_ ?_ | refine Runs.cond_nno rfl ?_ ?_); · first | omega | rfl | assumption | (simp only [List.length_map]; omega)) | ((first | refine Runs.cond_no rfl ?_ ?_ | refine Runs.cond_nyes rfl ?_ ?_); · first | omega | rfl | assumption | (simp only [List.length_map]; omega)) | refine Runs.ret (ends_ro hm rfl rfl ?_) | exact Runs.ret (ends_cellR hm rfl rfl rfl (Nat.le_of_ble_eq_true rfl) rfl rfl))
 | refine op_box rfl (tl hn rfl) ?_
 | ((first | refine RunsL.guard_dec rfl rfl rfl ?_ ?_ | refine RunsL.guard_ndec rfl rfl rfl ?_ ?_ | refine RunsL.guard_nb rfl rfl rfl ?_ ?_ | refine RunsL.guard_b rfl rfl rfl ?_ ?_) <;> intro h <;> try (exfalso; first | omega | contradiction | (simp only [List.length_map] at h; omega))))
    all_goals exact rr_bool (by rw [Bool.eq_iff_iff]; simp [*])
  · repeat' (first
 | refine RunsL.step tabOk hn rfl ?_
 | refine RunsL.nil ?_
 | refine Runs.toRegion 30 rfl ?_
 | (refine RunsL.pe hn rfl rfl rfl ?_; first
 | refine ⟨_, pu_callR h1 rfl, ?_⟩)
 | (refine Runs.ctls 30 rfl ?_; first | ((first | refine Runs.cond_yes rfl ?_ ?_ | refine Runs.cond_nno rfl ?_ ?_); · first | omega | rfl | assumption | (simp only [List.length_map]; omega)) | ((first | refine Runs.cond_no rfl ?_ ?_ | refine Runs.cond_nyes rfl ?_ ?_); · first | omega | rfl | assumption | (simp only [List.length_map]; omega)) | refine Runs.ret (ends_ro hm rfl rfl ?_) | exact Runs.ret (ends_cellR hm rfl rfl rfl (Nat.le_of_ble_eq_true rfl) rfl rfl))
 | refine op_box rfl (tl hn rfl) ?_
 | ((first | refine RunsL.guard_dec rfl rfl rfl ?_ ?_ | refine RunsL.guard_ndec rfl rfl rfl ?_ ?_ | refine RunsL.guard_nb rfl rfl rfl ?_ ?_ | refine RunsL.guard_b rfl rfl rfl ?_ ?_) <;> intro h <;> try (exfalso; first | omega | contradiction | (simp only [List.length_map] at h; omega))))
    all_goals exact rr_bool (decide_eq_false (p := SafeP p ∧ need p ≤ 60) fun h => hS h.1).symm
end Go.Proofs.YtofefjklipglhaaDoor
/- The code of a drawn description is safe; what it needs of the stack; its blocks. Plain laws. -/
namespace Go.Proofs.YtofefjklipglhaaDoor
set_option linter.unusedSimpArgs false
set_option linter.unusedVariables false
set_option maxRecDepth 100000
open Go.RowKit
theorem rule_short {d : Des} (hD : DrawD d) {j : Nat} {x : Rul} (hx : d[j]? = some x) (s : Int) (en : List Int) : 1 ≤ (ruleI x s en).length ∧ (ruleI x s en).length ≤ 12 := by
  have hlen := hD.lens hx
  have hc := chCalls_len x.kids en x.tags.length
  unfold ruleI bodyI
  rw [List.length_append, List.length_singleton]
  repeat' split
  all_goals simp only [List.length_cons, List.length_nil, List.length_map, List.length_append, chTags_len]
  all_goals omega
theorem cdE_take (d : Des) : ∀ n b : Nat, b ≤ n → (cdE d n).take b = cdE d b
  | 0, b, h => by
    obtain rfl : b = 0 := by omega
    simp [cdE]
  | n + 1, b, h => by
    by_cases e : b = n + 1
    · subst e; rw [List.take_of_length_le (by rw [cdE_len]; exact Nat.le_refl _)]
    · rw [cdE, List.take_append_of_le_length (by rw [cdE_len]; omega)]
      exact cdE_take d n b (by omega)
theorem cdE_mem {d : Des} {n : Nat} {a : Int} (h : a ∈ cdE d n) : ∃ j, j < n ∧ a = (stA d j : Int) := by
  obtain ⟨j, hj⟩ := List.getElem?_of_mem h
  have hl := (List.getElem?_eq_some_iff.1 hj).1
  rw [cdE_len] at hl
  rw [cdE_at d n j hl] at hj
  injection hj with hj
  exact ⟨j, hl, hj.symm⟩
theorem stA_mono (d : Des) : ∀ m j : Nat, j ≤ m → stA d j ≤ stA d m
  | 0, j, h => by
    obtain rfl : j = 0 := by omega
    exact Nat.le_refl _
  | m + 1, j, h => by
    by_cases e : j = m + 1
    · subst e; exact Nat.le_refl _
    · have := stA_mono d m j (by omega)
      rw [stA_next]; omega
theorem in_block (d : Des) : ∀ (n i : Nat), 2 ≤ i → i < stA d n → ∃ j, j < n ∧ stA d j ≤ i ∧ i < stA d (j + 1)
  | 0, i, h, hi => by simp [stA, cdT] at hi; omega
  | n + 1, i, h, hi => by
    by_cases e : i < stA d n
    · obtain ⟨j, h1, h2, h3⟩ := in_block d n i h e
      exact ⟨j, by omega, h2, h3⟩
    · exact ⟨n, by omega, by omega, hi⟩
section
variable {d : Des} (hD : DrawD d)
include hD
theorem blk_bd {j : Nat} (hj : j < d.length) : 1 ≤ (blk d j).length ∧ (blk d j).length ≤ 12 := by
  have hx : d[j]? = some _ := List.getElem?_eq_getElem hj
  rw [blk_rule hD hx]
  exact rule_short hD hx _ _
theorem stA_le : ∀ j : Nat, j ≤ d.length → stA d j ≤ 2 + 12 * j
  | 0, _ => by simp [stA, cdT]
  | j + 1, h => by
    have h1 := stA_le j (by omega)
    have h2 := blk_bd hD (j := j) (by omega)
    rw [stA_next]; omega
theorem code_short : (cdF d).code.length ≤ 74 := by
  have h1 := stA_le hD d.length (Nat.le_refl _)
  have h2 := hD.most
  rw [cdF_codel hD]; omega
theorem blk_loc {j i : Nat} {y : Ins} (hj : j < d.length) (hy : (blk d j)[i]? = some y) : Loc (stA d j : Int) (cdE d j) (blk d j) i y := by
  have hx : d[j]? = some _ := List.getElem?_eq_getElem hj
  have hs := stA_le hD j (by omega)
  have hm := hD.most
  rw [blk_rule hD hx] at hy ⊢
  exact rule_loc hD hx _ (by omega) _ (cdE_len d j) i y hy
theorem op_blk {j i : Nat} {y : Ins} (hj : j < d.length) (hy : (blk d j)[i]? = some y) (k : Int) (hk : k = (stA d j : Int) + (i : Int)) : (cdF d).code[k.toNat]? = some y ∧ opA (cdF d) k = y.op ∧ aA (cdF d) k = y.a := by
  have hi := (List.getElem?_eq_some_iff.1 hy).1
  have h1 : (cdF d).code[k.toNat]? = some y := by
    rw [show k.toNat = stA d j + i by omega, cdF_at hD hj hi]; exact hy
  exact ⟨h1, opA_at (by omega) h1, aA_at (by omega) h1⟩
theorem loop_at {j i : Nat} {y : Ins} (hj : j < d.length) (hy : (blk d j)[i]? = some y) (h7 : y.op = 7) : LoopAt (cdF d) ((stA d j : Int) + (i : Int)) ∧ (∃ w, (blk d j)[i + 2]? = some w ∧ w.op = 8 ∧ w.a = (stA d j : Int) + (i : Int)) := by
  obtain ⟨m, y6, z, w, rfl, h6, h6o, hz, hzo, hw, hwo, hwa, hya, _⟩ := (blk_loc hD hj hy).loop h7
  obtain ⟨_, b1, b2⟩ := op_blk hD hj hy ((stA d j : Int) + ((m + 1 : Nat) : Int)) rfl
  obtain ⟨_, b3, _⟩ := op_blk hD hj h6 ((stA d j : Int) + ((m + 1 : Nat) : Int) - 1) (by omega)
  obtain ⟨_, b4, _⟩ := op_blk hD hj hz ((stA d j : Int) + ((m + 1 : Nat) : Int) + 1) (by omega)
  obtain ⟨_, b5, b6⟩ := op_blk hD hj hw ((stA d j : Int) + ((m + 1 : Nat) : Int) + 2) (by omega)
  exact ⟨⟨by omega, by omega, by omega, by omega, by omega, by omega⟩, w, hw, hwo, hwa⟩
theorem mark_at {j i : Nat} {y : Ins} (hj : j < d.length) (hy : (blk d j)[i]? = some y) (h14 : y.op = 14) : MarkAt (cdF d) ((stA d j : Int) + (i : Int)) := by
  obtain ⟨z, w, hz, hzo, hw, hwo⟩ := (blk_loc hD hj hy).mark h14
  obtain ⟨_, b1, _⟩ := op_blk hD hj hy ((stA d j : Int) + (i : Int)) rfl
  obtain ⟨_, b2, _⟩ := op_blk hD hj hz ((stA d j : Int) + (i : Int) + 1) (by omega)
  obtain ⟨_, b3, _⟩ := op_blk hD hj hw ((stA d j : Int) + (i : Int) + 2) (by omega)
  exact ⟨by omega, by omega, by omega⟩
theorem last_ret {j : Nat} (hj : j < d.length) : opA (cdF d) (endA (cdF d) j - 1) = 10 := by
  have hx : d[j]? = some _ := List.getElem?_eq_getElem hj
  have hb := blk_bd hD hj
  have hlast : (blk d j)[(blk d j).length - 1]? = some ⟨10, 0, 0⟩ := by
    rw [blk_rule hD hx]
    unfold ruleI
    rw [List.length_append, List.length_singleton, Nat.add_sub_cancel, List.getElem?_append_right (Nat.le_refl _), Nat.sub_self]; rfl
  have he := end_at hD hj
  exact (op_blk hD hj hlast (endA (cdF d) j - 1) (by omega)).2.1
theorem safe_frame : FrameP (cdF d) where
  len := by have := code_short hD; omega
  first := by rw [cdF_ent hD hD.pos]; simp [stA, cdT]
  op0 := by refine opA_at (x := ⟨9, (stA d (d.length - 1) : Int), 0⟩) (Int.le_refl _) ?_; rw [cdF_code hD]; rfl
  op1 := by refine opA_at (x := ⟨17, 0, 0⟩) (by omega) ?_; rw [cdF_code hD]; rfl
  last := by
    have hp := hD.pos
    rw [cdF_entl hD, cdF_ent hD (by omega)]
    congr 1
    refine (aA_at (x := ⟨9, (stA d (d.length - 1) : Int), 0⟩) (Int.le_refl _) ?_).symm
    rw [cdF_code hD]; rfl
  ins := fun i hi => by
    have hp := hD.pos
    have hcl := cdF_codel hD
    have hb0 := blk_bd hD (j := d.length - 1) (by omega)
    have hn := stA_next d (d.length - 1)
    rw [show d.length - 1 + 1 = d.length by omega] at hn
    have h2 := stA_mono d (d.length - 1) 0 (by omega)
    have h20 : stA d 0 = 2 := by simp [stA, cdT]
    match i, hi with
    | 0, hi =>
      refine (safeI_some (x := ⟨9, (stA d (d.length - 1) : Int), 0⟩) (by rw [cdF_code hD]; rfl)).2 ⟨Int.le_refl _, ?_⟩
      refine ⟨by simp [OpOk, InR], fun _ => ⟨by simp only; omega, by simp only; omega⟩, fun e => by simp at e, fun _ => ?_⟩
      show (0 : Int) + 1 < _; omega
    | 1, hi =>
      refine (safeI_some (x := ⟨17, 0, 0⟩) (by rw [cdF_code hD]; rfl)).2 ⟨by omega, ?_⟩
      exact ⟨by simp [OpOk, InR], fun e => by simp at e, fun e => by simp at e, fun e => by simp [Goes] at e⟩
    | i + 2, hi =>
      obtain ⟨j, hj, h3, h4⟩ := in_block d d.length (i + 2) (by omega) (by omega)
      obtain ⟨t, ht⟩ : ∃ t, i + 2 = stA d j + t := ⟨i + 2 - stA d j, by omega⟩
      have hnx := stA_next d j
      obtain ⟨y, hy⟩ : ∃ y, (blk d j)[t]? = some y := ⟨_, List.getElem?_eq_getElem (by omega)⟩
      have hL := blk_loc hD hj hy
      have hc := (op_blk hD hj hy ((i + 2 : Nat) : Int) (by omega)).1
      have hjn := stA_mono d d.length (j + 1) (by omega)
      refine (safeI_some hc).2 ⟨by omega, hL.ok, fun h => ?_, fun h => ?_, fun h => ?_⟩
      · rcases h with h | h | h | h
        · obtain ⟨m, y6, z, w, rfl, h6, h6o, hz, hzo, hw, hwo, hwa, hya, hlt⟩ := hL.loop h
          omega
        · obtain ⟨m, y7, rfl, h7, h7o⟩ := hL.jump h
          obtain ⟨_, w, hw, _, hwa⟩ := loop_at hD hj h7 h7o
          rw [hy] at hw; injection hw with hw; subst hw
          omega
        · obtain ⟨j', hj', e⟩ := cdE_mem (hL.call h)
          have := stA_mono d j j' (by omega)
          omega
        · have := hL.flag h; omega
      · have := hL.tag h; omega
      · have := hL.goes h; omega
  rise := fun i y z hy hz => by
    have hi := (List.getElem?_eq_some_iff.1 hz).1
    rw [cdF_entl hD] at hi
    rw [cdF_ent hD (by omega)] at hy
    rw [cdF_ent hD hi] at hz
    injection hy with hy; injection hz with hz
    have h1 := stA_next d i
    have h2 := blk_bd hD (j := i) (by omega)
    omega
theorem safe_cdF : SafeP (cdF d) := by
  refine ⟨safe_frame hD, fun b e he => ?_⟩
  have hb := (List.getElem?_eq_some_iff.1 he).1
  rw [cdF_entl hD] at hb
  rw [cdF_ent hD hb] at he
  injection he with he
  refine ⟨last_ret hD hb, fun k x h1 h2 hx => ?_⟩
  have hend := end_at hD hb
  obtain ⟨t, ht⟩ : ∃ t : Nat, k = (stA d b : Int) + (t : Int) := ⟨(k - stA d b).toNat, by omega⟩
  obtain ⟨y, hy⟩ : ∃ y, (blk d b)[t]? = some y := ⟨_, List.getElem?_eq_getElem (by omega)⟩
  obtain ⟨hc, ho, ha⟩ := op_blk hD hb hy k ht
  rw [hc] at hx; injection hx with hx; subst hx
  have hL := blk_loc hD hb hy
  refine ⟨hL.no17, fun h => ?_, fun h => ?_, fun h => ?_, fun h => ?_, fun h => ?_, fun h => ?_, fun h => ?_, fun h => ?_⟩
  · rw [cdF_ents hD, cdE_take d _ _ (by omega)]; exact hL.call h
  · obtain ⟨m, y6, z, w, rfl, h6, h6o, hz, hzo, hw, hwo, hwa, hya, hlt⟩ := hL.loop h
    rw [ht]
    exact ⟨(loop_at hD hb hy h).1, by omega, by omega⟩
  · obtain ⟨m, y7, rfl, h7, h7o⟩ := hL.jump h
    have := (loop_at hD hb h7 h7o).1
    rwa [show k - 2 = (stA d b : Int) + (m : Int) by omega]
  · obtain ⟨y7, h7, h7o⟩ := hL.push h
    have := (loop_at hD hb h7 h7o).1
    rwa [show k + 1 = (stA d b : Int) + ((t + 1 : Nat) : Int) by omega]
  · have := hL.flag h; omega
  · have := hL.tag h; omega
  · rw [ht]; exact mark_at hD hb hy h
  · obtain ⟨m, y14, rfl, h14, h14o⟩ := hL.sum h
    have := mark_at hD hb h14 h14o
    rwa [show k - 2 = (stA d b : Int) + (m : Int) by omega]
theorem bo_at {j : Nat} (hj : j < d.length) {i : Int} (h1 : (stA d j : Int) ≤ i) (h2 : i < (stA d (j + 1) : Int)) : bo (cdF d) i = j := by
  unfold bo
  rw [cdF_entl hD]
  suffices h : ∀ m, j < m → m ≤ d.length → lastLe (cdF d).entries i m = j from h _ hj (Nat.le_refl _)
  intro m
  induction m with
  | zero => omega
  | succ m ih =>
    intro hm hmd
    rw [lastLe_succ (cdF_ent hD (by omega))]
    by_cases e : j = m
    · subst e; rw [if_pos h1]
    · have := stA_mono d m (j + 1) (by omega)
      rw [if_neg (by omega)]
      exact ih (by omega) (by omega)
theorem need_le : ∀ k j : Nat, needF (cdF d) k j ≤ 2 * (j : Int)
  | 0, j => by simp only [needF]; omega
  | k + 1, j => by
    have ih := need_le k
    rw [needF]
    split
    · rename_i h
      obtain ⟨h2, h9, hb⟩ := h
      have hin := opA_in (p := cdF d) (i := (k : Int)) (by rw [h9]; decide)
      have hcl := cdF_codel hD
      obtain ⟨b, hbn, h3, h4⟩ := in_block d d.length k h2 (by have := hin.2; omega)
      have hbo := bo_at hD hbn (i := (k : Int)) (by omega) (by omega)
      obtain rfl : b = j := by omega
      obtain ⟨t, ht⟩ : ∃ t : Nat, k = stA d b + t := ⟨k - stA d b, by omega⟩
      have hnx := stA_next d b
      obtain ⟨y, hy⟩ : ∃ y, (blk d b)[t]? = some y := ⟨_, List.getElem?_eq_getElem (by omega)⟩
      obtain ⟨_, ho, ha⟩ := op_blk hD hbn hy (k : Int) (by omega)
      obtain ⟨j', hj', e⟩ := cdE_mem ((blk_loc hD hbn hy).call (by omega))
      have hnx' := stA_next d j'
      have hb' := blk_bd hD (j := j') (by omega)
      have hbo' := bo_at hD (j := j') (by omega) (i := aA (cdF d) k) (by omega) (by omega)
      rw [hbo', Int.toNat_natCast]
      have i1 := ih b
      have i2 := ih j'
      unfold mx
      split <;> split <;> omega
    · exact ih j
theorem need_cdF : 1 ≤ need (cdF d) ∧ need (cdF d) ≤ 1 + 2 * (d.length : Int) := by
  have h1 := need_le hD (cdF d).code.length (d.length - 1)
  have h2 := needF_bd (cdF d) (cdF d).code.length (d.length - 1)
  unfold need
  rw [cdF_entl hD]
  omega
end
end Go.Proofs.YtofefjklipglhaaDoor
/- The code of a drawn description: how many instructions have an operation; plain laws. -/
namespace Go.Proofs.YtofefjklipglhaaDoor
set_option linter.unusedSimpArgs false
set_option linter.unusedVariables false
set_option maxRecDepth 100000
open Go.RowKit
def cop (op : Int) (l : List Ins) : Nat := (l.filter fun i => decide (i.op = op)).length
theorem cop_app (op : Int) (a b : List Ins) : cop op (a ++ b) = cop op a + cop op b := by simp [cop]
theorem cop_le (op : Int) (l : List Ins) : cop op l ≤ l.length := List.length_filter_le _ _
theorem cop_next {op : Int} {l : List Ins} {j : Nat} {x : Ins} (h : l[j]? = some x) : cop op (l.take (j + 1)) = cop op (l.take j) + (if x.op = op then 1 else 0) := by
  rw [List.take_add_one, h, cop_app]
  congr 1
  unfold cop
  by_cases e : x.op = op <;> simp [e]
section
variable {d : Des} (hD : DrawD d)
include hD
theorem blk_no17 {j : Nat} (hj : j < d.length) : cop 17 (blk d j) = 0 := by
  unfold cop
  rw [List.length_eq_zero_iff, List.filter_eq_nil_iff]
  intro x hx
  obtain ⟨i, hi⟩ := List.getElem?_of_mem hx
  have := (blk_loc hD hj hi).no17
  simpa using this
theorem cdT_no17 : ∀ j : Nat, j ≤ d.length → cop 17 (cdT d j) = 0
  | 0, _ => by simp [cdT, cop]
  | j + 1, h => by
    have h1 := cdT_no17 j (by omega)
    have h2 := blk_no17 hD (j := j) (by omega)
    rw [cdT, cop_app, h1, Nat.zero_add]
    exact h2
theorem cdF_one17 : cop 17 (cdF d).code = 1 := by
  have h := cdT_no17 hD d.length (Nat.le_refl _)
  rw [cdF_code hD]
  have e : ∀ (a : Int) (l : List Ins), cop 17 (cdC a l) = 1 + cop 17 l := fun a l => by
    show cop 17 ([⟨9, a, 0⟩, ⟨17, 0, 0⟩] ++ l) = _
    rw [cop_app]; rfl
  rw [e, h]
theorem blk_ops {j i : Nat} {y : Ins} (hj : j < d.length) (hy : (blk d j)[i]? = some y) : 1 ≤ y.op ∧ y.op ≤ 17 := (blk_loc hD hj hy).ok.2.2.2.2.2
theorem safe_big : PrgB (cdF d) where
  code := by have := code_short hD; omega
  ents := by have := cdF_entl hD; have := hD.most; omega
  vals := fun z hz => by
    rw [cdF_ents hD] at hz
    obtain ⟨j, hj, rfl⟩ := cdE_mem hz
    have := stA_le hD j (by omega)
    have := hD.most
    unfold I64; omega
end
end Go.Proofs.YtofefjklipglhaaDoor
/- How many instructions have an operation: the program's side. -/
namespace Go.Proofs.YtofefjklipglhaaDoor
set_option linter.unusedSimpArgs false
set_option linter.unusedVariables false
set_option maxRecDepth 100000
open Go.RowKit
open AV (Mem Keeps)
set_option maxHeartbeats 4000000 in
theorem impl_CountOpsA (p : Prg) (op : Int) (hl : p.code.length ≤ 1048576) : ACv Tryd.prog 14 [prgR p, .int op] (.int (cop op p.code : Int)) := by
  have hlm : (p.code.map insR).length = p.code.length := List.length_map ..
  refine ac_enter Tryd.func14 rfl _ Tryd.ntmps14 (by simp) fun C hn hm => ?_
  repeat' (first
 | (refine RunsL.pe hn rfl rfl rfl ?_; first
 | refine ⟨_, pu_len_seqN p.code.length rfl hlm, ?_⟩)
 | refine RunsL.step tabOk hn rfl ?_
 | refine RunsL.nil ?_
 | refine Runs.toRegion 30 rfl ?_
 | (refine Runs.ctls 30 rfl ?_; first | ((first | refine Runs.cond_yes rfl ?_ ?_ | refine Runs.cond_nno rfl ?_ ?_); · first | omega | rfl | assumption | (simp only [List.length_map]; omega)) | ((first | refine Runs.cond_no rfl ?_ ?_ | refine Runs.cond_nyes rfl ?_ ?_); · first | omega | rfl | assumption | (simp only [List.length_map]; omega)) | refine Runs.ret (ends_ro hm rfl rfl ?_) | exact Runs.ret (ends_cellR hm rfl rfl rfl (Nat.le_of_ble_eq_true rfl) rfl rfl))
 | refine op_box rfl (tl hn rfl) ?_
 | refine op_alloc (tl hn rfl) ?_
 | refine op_storeN rfl rfl rfl rfl (Nat.le_of_ble_eq_true rfl) ?_
 | (refine RunsL.pe hn rfl rfl rfl ?_; first
 | refine ⟨_, pu_add rfl rfl (by omega), ?_⟩
 | refine ⟨_, pu_indexAddr_map rfl rfl (by omega) (by assumption), ?_⟩
      ))
  refine Runs.loopD 30 rfl (fun j => [(1, .int op), (9, .ro (inssR p.code)), (10, .int (p.code.length : Int)), (5, .int (cop op (p.code.take j) : Nat)), (11, .int (j : Int))]) (fun _ => []) (fun j => ⟨by simp [Free, AV.only], by simp [FreeO]⟩) (fun _ => True) p.code.length 0 (Nat.zero_le _) trivial ⟨rfl, rfl, by simp [look], rfl, rfl, trivial⟩ rfl fun j hj _ next => ?_
  by_cases hlt : j < p.code.length
  · obtain ⟨x, hx⟩ : ∃ x, p.code[(j : Int).toNat]? = some x := ⟨_, List.getElem?_eq_getElem hlt⟩
    have hx' : p.code[j]? = some x := hx
    have hn1 := cop_next (op := op) hx'
    have hle := cop_le op (p.code.take j)
    rw [List.length_take] at hle
    by_cases ho : x.op = op
    · rw [if_pos ho] at hn1
      repeat' (first
 | refine RunsL.step tabOk hn rfl ?_
 | refine RunsL.nil ?_
 | refine Runs.toRegion 30 rfl ?_
 | (refine Runs.ctls 30 rfl ?_; first | ((first | refine Runs.cond_yes rfl ?_ ?_ | refine Runs.cond_nno rfl ?_ ?_); · first | omega | rfl | assumption | (simp only [List.length_map]; omega)) | ((first | refine Runs.cond_no rfl ?_ ?_ | refine Runs.cond_nyes rfl ?_ ?_); · first | omega | rfl | assumption | (simp only [List.length_map]; omega)) | refine Runs.ret (ends_ro hm rfl rfl ?_) | exact Runs.ret (ends_cellR hm rfl rfl rfl (Nat.le_of_ble_eq_true rfl) rfl rfl))
 | refine op_box rfl (tl hn rfl) ?_
 | refine op_alloc (tl hn rfl) ?_
 | refine op_storeN rfl rfl rfl rfl (Nat.le_of_ble_eq_true rfl) ?_
 | (refine RunsL.pe hn rfl rfl rfl ?_; first
 | refine ⟨_, pu_add rfl rfl (by omega), ?_⟩
 | refine ⟨_, pu_indexAddr_map rfl rfl (by omega) (by assumption), ?_⟩
          ))
      exact next _ _ _ ⟨rfl, rfl, rfl, av_int (by omega), rfl, trivial⟩ hlt trivial rfl
    · rw [if_neg ho] at hn1
      repeat' (first
 | refine RunsL.step tabOk hn rfl ?_
 | refine RunsL.nil ?_
 | refine Runs.toRegion 30 rfl ?_
 | (refine Runs.ctls 30 rfl ?_; first | ((first | refine Runs.cond_yes rfl ?_ ?_ | refine Runs.cond_nno rfl ?_ ?_); · first | omega | rfl | assumption | (simp only [List.length_map]; omega)) | ((first | refine Runs.cond_no rfl ?_ ?_ | refine Runs.cond_nyes rfl ?_ ?_); · first | omega | rfl | assumption | (simp only [List.length_map]; omega)) | refine Runs.ret (ends_ro hm rfl rfl ?_) | exact Runs.ret (ends_cellR hm rfl rfl rfl (Nat.le_of_ble_eq_true rfl) rfl rfl))
 | refine op_box rfl (tl hn rfl) ?_
 | refine op_alloc (tl hn rfl) ?_
 | refine op_storeN rfl rfl rfl rfl (Nat.le_of_ble_eq_true rfl) ?_
 | (refine RunsL.pe hn rfl rfl rfl ?_; first
 | refine ⟨_, pu_add rfl rfl (by omega), ?_⟩
 | refine ⟨_, pu_indexAddr_map rfl rfl (by omega) (by assumption), ?_⟩
          ))
      exact next _ _ _ ⟨rfl, rfl, rfl, av_int (by omega), rfl, trivial⟩ hlt trivial rfl
  · repeat' (first
 | refine RunsL.step tabOk hn rfl ?_
 | refine RunsL.nil ?_
 | refine Runs.toRegion 30 rfl ?_
 | (refine Runs.ctls 30 rfl ?_; first | ((first | refine Runs.cond_yes rfl ?_ ?_ | refine Runs.cond_nno rfl ?_ ?_); · first | omega | rfl | assumption | (simp only [List.length_map]; omega)) | ((first | refine Runs.cond_no rfl ?_ ?_ | refine Runs.cond_nyes rfl ?_ ?_); · first | omega | rfl | assumption | (simp only [List.length_map]; omega)) | refine Runs.ret (ends_ro hm rfl rfl ?_) | exact Runs.ret (ends_cellR hm rfl rfl rfl (Nat.le_of_ble_eq_true rfl) rfl rfl))
 | refine op_box rfl (tl hn rfl) ?_
 | refine op_alloc (tl hn rfl) ?_
 | refine op_storeN rfl rfl rfl rfl (Nat.le_of_ble_eq_true rfl) ?_
 | (refine RunsL.pe hn rfl rfl rfl ?_; first
 | refine ⟨_, pu_add rfl rfl (by omega), ?_⟩
 | refine ⟨_, pu_indexAddr_map rfl rfl (by omega) (by assumption), ?_⟩
      ))
    obtain rfl : j = p.code.length := by omega
    exact rr_int (by rw [List.take_length])
end Go.Proofs.YtofefjklipglhaaDoor
/- FormatInt: the program's (strconv.Itoa). -/
namespace Go.Proofs.YtofefjklipglhaaDoor
set_option linter.unusedSimpArgs false
set_option linter.unusedVariables false
set_option maxRecDepth 100000
open Go.RowKit
theorem impl_FormatInt (n : Int) (hI : I64 n) : ACtv TabT Tryd.prog 40 [.int n] (.str ⟨(Lib.itoa n).toArray⟩) := by
  have hi := itoa_act n hI
  refine act_enter tabT_lasts Tryd.func40 rfl _ Tryd.ntmps40 (by simp) fun C hn hm hb => ?_
  repeat' (first
 | refine RunsL.step tabOk hn rfl ?_
 | refine RunsL.nil ?_
 | refine Runs.toRegion 30 rfl ?_
 | (refine RunsL.pe hn rfl rfl rfl ?_; first
 | refine ⟨_, pu_callW hb hi rfl, ?_⟩)
 | (refine Runs.ctls 30 rfl ?_; first | ((first | refine Runs.cond_yes rfl ?_ ?_ | refine Runs.cond_nno rfl ?_ ?_); · first | omega | rfl | assumption | (simp only [List.length_map]; omega)) | ((first | refine Runs.cond_no rfl ?_ ?_ | refine Runs.cond_nyes rfl ?_ ?_); · first | omega | rfl | assumption | (simp only [List.length_map]; omega)) | refine Runs.ret (ends_ro hm rfl rfl ?_) | exact Runs.ret (ends_cellR hm rfl rfl rfl (Nat.le_of_ble_eq_true rfl) rfl rfl))
    )
  exact rr_ro rfl
end Go.Proofs.YtofefjklipglhaaDoor
/- Names of errors, texts of numbers, of errors and of instructions: both sides. -/
namespace Go.Proofs.YtofefjklipglhaaDoor
set_option linter.unusedSimpArgs false
set_option linter.unusedVariables false
set_option maxRecDepth 100000
open Go.RowKit
def fmtI (n : Int) : ByteArray := ⟨(Lib.itoa n).toArray⟩
theorem fmtI_len (n : Int) (hI : I64 n) : (fmtI n).size ≤ 20 := by unfold fmtI; rw [ba_size]; exact itoa_len n hI.1 hI.2
theorem cat_size (a b : ByteArray) : (a ++ b).size = a.size + b.size := by simp
end Go.Proofs.YtofefjklipglhaaDoor
