/- Names, lists of names, limits, shapes of rules: both sides return the same. -/
import Derived.Test.YtcifgbmmnkilfaaDes
import Derived.Test.YtcifgbmmnkilfaaSaf
import Derived.Test.YtcifgbmmnkilfaaSli
namespace Go.Proofs.Ytcifgbmmnkilfaa
set_option linter.unusedSimpArgs false
set_option linter.unusedVariables false
open Go.RowKit
noncomputable instance (s : ByteArray) (l : List ByteArray) : Decidable (s ∈ l) := Classical.propDecidable _
/-- A contract that was shown by a walk of the kit's own. -/
theorem AC.of_calls {P : Program} {f : FuncId} {vs : List Value} {v : Value} (h : ∀ w, Calls P f vs.toArray w fun e w' => e = .returned v ∧ Below w.heap.size w w') : ACv P f (vs.map .c) (.c v) := by
  intro w ok us h0 hu
  have e : us = vs.toArray := by
    have := agg_flat (m := ⟨w, fun _ => none, [], ok⟩) vs us.toList (by
      refine RV.rels_mono (w := w) (ok := ok) ⟨Nat.le_refl _, fun b _ hb => ⟨⟨hb, fun i hi => by simp at hi⟩, rfl⟩⟩ _ _ hu)
    rw [← this]
  subst e
  refine (h w).mono fun e w' ⟨e1, hb⟩ => ⟨v, .ro (.c v), [], e1, rfl, by simp [RR.rel, RV.rel], by simp, by simp, hb⟩
theorem str_lt {s : ByteArray} {i : Nat} {c : UInt8} (h : s[i]? = some c) : i < s.size := by
  by_cases hi : i < s.size
  · exact hi
  · rw [getElem?_neg s i hi] at h; cases h
section
variable {P : Program} {C : Ctx} {env : Env} {σ : List Ob} {t : Nat} {ty : TypeId} {pos : String} {after : Array Edge} {gd : Option (Nat × Bool)}
theorem pu_eqlSame {xt yt : TypeId} {x y : Operand} {s : ByteArray} (hx : ev env x = .str s) (hy : ev env y = .str s) : Pur P C ⟨some t, .binOp .eql xt x y yt, ty, pos, after, gd⟩ env σ (.bool true) := by
  have h := pu_eqlS (P := P) (C := C) (σ := σ) (t := t) (ty := ty) (pos := pos) (after := after) (gd := gd) (xt := xt) (yt := yt) hx hy
  have e : (s.toList == s.toList) = true := by simp
  rwa [e] at h
theorem pu_eqlDiff {xt yt : TypeId} {x y : Operand} {s u : ByteArray} (hx : ev env x = .str s) (hy : ev env y = .str u) (hn : ¬ s = u) : Pur P C ⟨some t, .binOp .eql xt x y yt, ty, pos, after, gd⟩ env σ (.bool false) := by
  have h := pu_eqlS (P := P) (C := C) (σ := σ) (t := t) (ty := ty) (pos := pos) (after := after) (gd := gd) (xt := xt) (yt := yt) hx hy
  have e : (s.toList == u.toList) = false := by
    rw [Bool.eq_false_iff]
    simpa [ByteArray.toList_eq, ← ByteArray.ext_iff] using hn
  rwa [e] at h
end
def NameC (c : UInt8) (i : Nat) : Prop := (97 ≤ c.toNat ∧ c.toNat ≤ 122) ∨ (48 ≤ c.toNat ∧ c.toNat ≤ 57 ∧ i ≠ 0)
def IsNm (s : ByteArray) : Prop := 1 ≤ s.size ∧ s.size ≤ 12 ∧ ∀ (i : Nat) c, s[i]? = some c → NameC c i
noncomputable instance (s : ByteArray) : Decidable (IsNm s) := Classical.propDecidable _
theorem spec_IsName (s : ByteArray) (hs : s.size ≤ maxLen) : ACv Try.prog 83 [.str s] (.bool (decide (IsNm s))) := by
  unfold maxLen at hs
  refine ac_enter Try.func83 rfl _ Try.ntmps83 (by simp) fun C hn hm => ?_
  repeat' (first
    | refine RunsL.step tabOk hn rfl ?_
    | refine RunsL.nil ?_
    | refine Runs.toRegion 30 rfl ?_
    | (refine Runs.ctls 30 rfl ?_; first | refine Runs.cond_t rfl ?_ | refine Runs.cond_f rfl ?_ | ((first | refine Runs.cond_yes rfl ?_ ?_ | refine Runs.cond_nno rfl ?_ ?_); · first | omega | rfl | assumption | (simp only [List.length_map]; omega)) | ((first | refine Runs.cond_no rfl ?_ ?_ | refine Runs.cond_nyes rfl ?_ ?_); · first | omega | rfl | assumption | (simp only [List.length_map]; omega)) | refine Runs.cond_dec rfl (fun h => ?_) (fun h => ?_) | refine Runs.cond_ndec rfl (fun h => ?_) (fun h => ?_) | refine Runs.cond_nb rfl (fun h => ?_) (fun h => ?_) | refine Runs.cond_b rfl (fun h => ?_) (fun h => ?_) | refine Runs.ret (ends_ro hm rfl rfl ?_) | exact Runs.ret (ends_cellR hm rfl rfl rfl (Nat.le_of_ble_eq_true rfl) rfl rfl))
    | refine op_box rfl (tl hn rfl) ?_
    | refine op_storeF rfl rfl rfl rfl (Nat.le_of_ble_eq_true rfl) ?_
    | refine op_alloc (tl hn rfl) ?_
    | refine op_storeN rfl rfl rfl rfl (Nat.le_of_ble_eq_true rfl) ?_
    | refine RunsD.step tabOk hn rfl rfl ?_
    | refine RunsD.nil ?_
    | refine Runs.toDraw 30 mixed hn rfl (by kernel_rfl) rfl ?_
    | ((first | refine RunsL.pe hn rfl rfl rfl ?_ | refine RunsD.pe rfl rfl ?_); first
      | refine ⟨_, pu_add rfl rfl (by omega), ?_⟩
      | refine ⟨_, pu_indexAddr_map rfl rfl (by omega) (by assumption), ?_⟩
      | refine ⟨_, pu_sub rfl rfl (by omega), ?_⟩
      | refine ⟨_, pu_pick_b rfl rfl rfl, ?_⟩
      | refine ⟨_, pu_mul rfl rfl (by omega), ?_⟩
      | refine ⟨_, pu_build rfl rfl rfl rfl rfl rfl, ?_⟩)
    | ((first | refine RunsL.guard_dec rfl rfl rfl ?_ ?_ | refine RunsL.guard_ndec rfl rfl rfl ?_ ?_ | refine RunsL.guard_nb rfl rfl rfl ?_ ?_ | refine RunsL.guard_b rfl rfl rfl ?_ ?_ | refine RunsD.guard_dec rfl rfl rfl ?_ ?_ | refine RunsD.guard_ndec rfl rfl rfl ?_ ?_ | refine RunsD.guard_nb rfl rfl rfl ?_ ?_ | refine RunsD.guard_b rfl rfl rfl ?_ ?_) <;> intro h <;> try (exfalso; first | omega | contradiction | (simp only [List.length_map] at h; omega))))
  refine Runs.loopN 30 rfl (fun j => [(0, .str s), (3, .int (j : Int))]) (fun _ => []) (fun j => ∀ (i : Nat) c, i < j → s[i]? = some c → NameC c i) s.size 0 (Nat.zero_le _) (fun i c h => absurd h (by omega)) ⟨rfl, rfl, trivial⟩ rfl fun j hj hQ next => ?_
  by_cases hlt : j < s.size
  · obtain ⟨x, hx⟩ : ∃ x, s[(j : Int).toNat]? = some x := ⟨_, getElem?_pos s j hlt⟩
    have hx' : s[j]? = some x := hx
    repeat' (first
      | refine RunsL.step tabOk hn rfl ?_
      | refine RunsL.nil ?_
      | refine Runs.toRegion 30 rfl ?_
      | ((first | refine RunsL.pe hn rfl rfl rfl ?_ | refine RunsD.pe rfl rfl ?_); first
        | refine ⟨_, pu_indexS rfl rfl (by omega) (by assumption), ?_⟩)
      | (refine Runs.ctls 30 rfl ?_; first | refine Runs.cond_t rfl ?_ | refine Runs.cond_f rfl ?_ | ((first | refine Runs.cond_yes rfl ?_ ?_ | refine Runs.cond_nno rfl ?_ ?_); · first | omega | rfl | assumption | (simp only [List.length_map]; omega)) | ((first | refine Runs.cond_no rfl ?_ ?_ | refine Runs.cond_nyes rfl ?_ ?_); · first | omega | rfl | assumption | (simp only [List.length_map]; omega)) | refine Runs.cond_dec rfl (fun h => ?_) (fun h => ?_) | refine Runs.cond_ndec rfl (fun h => ?_) (fun h => ?_) | refine Runs.cond_nb rfl (fun h => ?_) (fun h => ?_) | refine Runs.cond_b rfl (fun h => ?_) (fun h => ?_) | refine Runs.ret (ends_ro hm rfl rfl ?_) | exact Runs.ret (ends_cellR hm rfl rfl rfl (Nat.le_of_ble_eq_true rfl) rfl rfl))
      | refine op_box rfl (tl hn rfl) ?_
      | refine op_storeF rfl rfl rfl rfl (Nat.le_of_ble_eq_true rfl) ?_
      | refine op_alloc (tl hn rfl) ?_
      | refine op_storeN rfl rfl rfl rfl (Nat.le_of_ble_eq_true rfl) ?_
      | refine RunsD.step tabOk hn rfl rfl ?_
      | refine RunsD.nil ?_
      | refine Runs.toDraw 30 mixed hn rfl (by kernel_rfl) rfl ?_
      | ((first | refine RunsL.pe hn rfl rfl rfl ?_ | refine RunsD.pe rfl rfl ?_); first
        | refine ⟨_, pu_add rfl rfl (by omega), ?_⟩
        | refine ⟨_, pu_indexAddr_map rfl rfl (by omega) (by assumption), ?_⟩
        | refine ⟨_, pu_sub rfl rfl (by omega), ?_⟩
        | refine ⟨_, pu_pick_b rfl rfl rfl, ?_⟩
        | refine ⟨_, pu_mul rfl rfl (by omega), ?_⟩
        | refine ⟨_, pu_build rfl rfl rfl rfl rfl rfl, ?_⟩)
      | ((first | refine RunsL.guard_dec rfl rfl rfl ?_ ?_ | refine RunsL.guard_ndec rfl rfl rfl ?_ ?_ | refine RunsL.guard_nb rfl rfl rfl ?_ ?_ | refine RunsL.guard_b rfl rfl rfl ?_ ?_ | refine RunsD.guard_dec rfl rfl rfl ?_ ?_ | refine RunsD.guard_ndec rfl rfl rfl ?_ ?_ | refine RunsD.guard_nb rfl rfl rfl ?_ ?_ | refine RunsD.guard_b rfl rfl rfl ?_ ?_) <;> intro h <;> try (exfalso; first | omega | contradiction | (simp only [List.length_map] at h; omega))))
    all_goals first
      | exact rr_bool (decide_eq_false fun hN => by have := hN.2.2 j x hx'; unfold NameC at this; omega).symm
      | (refine next _ _ ⟨rfl, rfl, trivial⟩ hlt (fun i c hi hc => ?_) rfl
         by_cases e : i = j
         · subst e; rw [hx'] at hc; injection hc with hc; subst hc; unfold NameC; omega
         · exact hQ i c (by omega) hc)
  · repeat' (first
    | refine RunsL.step tabOk hn rfl ?_
    | refine RunsL.nil ?_
    | refine Runs.toRegion 30 rfl ?_
    | ((first | refine RunsL.pe hn rfl rfl rfl ?_ | refine RunsD.pe rfl rfl ?_); first
      | refine ⟨_, pu_callR (l1In_ac _ _ _) rfl, ?_⟩)
    | (refine Runs.ctls 30 rfl ?_; first | refine Runs.cond_t rfl ?_ | refine Runs.cond_f rfl ?_ | ((first | refine Runs.cond_yes rfl ?_ ?_ | refine Runs.cond_nno rfl ?_ ?_); · first | omega | rfl | assumption | (simp only [List.length_map]; omega)) | ((first | refine Runs.cond_no rfl ?_ ?_ | refine Runs.cond_nyes rfl ?_ ?_); · first | omega | rfl | assumption | (simp only [List.length_map]; omega)) | refine Runs.cond_dec rfl (fun h => ?_) (fun h => ?_) | refine Runs.cond_ndec rfl (fun h => ?_) (fun h => ?_) | refine Runs.cond_nb rfl (fun h => ?_) (fun h => ?_) | refine Runs.cond_b rfl (fun h => ?_) (fun h => ?_) | refine Runs.ret (ends_ro hm rfl rfl ?_) | exact Runs.ret (ends_cellR hm rfl rfl rfl (Nat.le_of_ble_eq_true rfl) rfl rfl))
    | refine op_box rfl (tl hn rfl) ?_
    | refine op_storeF rfl rfl rfl rfl (Nat.le_of_ble_eq_true rfl) ?_
    | refine op_alloc (tl hn rfl) ?_
    | refine op_storeN rfl rfl rfl rfl (Nat.le_of_ble_eq_true rfl) ?_
    | refine RunsD.step tabOk hn rfl rfl ?_
    | refine RunsD.nil ?_
    | refine Runs.toDraw 30 mixed hn rfl (by kernel_rfl) rfl ?_
    | ((first | refine RunsL.pe hn rfl rfl rfl ?_ | refine RunsD.pe rfl rfl ?_); first
      | refine ⟨_, pu_add rfl rfl (by omega), ?_⟩
      | refine ⟨_, pu_indexAddr_map rfl rfl (by omega) (by assumption), ?_⟩
      | refine ⟨_, pu_sub rfl rfl (by omega), ?_⟩
      | refine ⟨_, pu_pick_b rfl rfl rfl, ?_⟩
      | refine ⟨_, pu_mul rfl rfl (by omega), ?_⟩
      | refine ⟨_, pu_build rfl rfl rfl rfl rfl rfl, ?_⟩)
    | ((first | refine RunsL.guard_dec rfl rfl rfl ?_ ?_ | refine RunsL.guard_ndec rfl rfl rfl ?_ ?_ | refine RunsL.guard_nb rfl rfl rfl ?_ ?_ | refine RunsL.guard_b rfl rfl rfl ?_ ?_ | refine RunsD.guard_dec rfl rfl rfl ?_ ?_ | refine RunsD.guard_ndec rfl rfl rfl ?_ ?_ | refine RunsD.guard_nb rfl rfl rfl ?_ ?_ | refine RunsD.guard_b rfl rfl rfl ?_ ?_) <;> intro h <;> try (exfalso; first | omega | contradiction | (simp only [List.length_map] at h; omega))))
    exact rr_bool (decide_eq_decide.2 ⟨fun h => ⟨by omega, by omega, fun i c hc => hQ i c (by have := str_lt hc; omega) hc⟩, fun h => ⟨by have := h.1; omega, by have := h.2.1; omega⟩⟩)
theorem spec_ContainsText (l : List ByteArray) (s : ByteArray) (hl : l.length ≤ maxLen) : ACv Try.prog 97 [strsR l, .str s] (.bool (decide (s ∈ l))) := by
  unfold maxLen at hl
  refine ac_enter Try.func97 rfl _ Try.ntmps97 (by simp) fun C hn hm => ?_
  repeat' (first
    | refine RunsL.step tabOk hn rfl ?_
    | refine RunsL.nil ?_
    | refine Runs.toRegion 30 rfl ?_
    | (refine Runs.ctls 30 rfl ?_; first | refine Runs.cond_t rfl ?_ | refine Runs.cond_f rfl ?_ | ((first | refine Runs.cond_yes rfl ?_ ?_ | refine Runs.cond_nno rfl ?_ ?_); · first | omega | rfl | assumption | (simp only [List.length_map]; omega)) | ((first | refine Runs.cond_no rfl ?_ ?_ | refine Runs.cond_nyes rfl ?_ ?_); · first | omega | rfl | assumption | (simp only [List.length_map]; omega)) | refine Runs.cond_dec rfl (fun h => ?_) (fun h => ?_) | refine Runs.cond_ndec rfl (fun h => ?_) (fun h => ?_) | refine Runs.cond_nb rfl (fun h => ?_) (fun h => ?_) | refine Runs.cond_b rfl (fun h => ?_) (fun h => ?_) | refine Runs.ret (ends_ro hm rfl rfl ?_) | exact Runs.ret (ends_cellR hm rfl rfl rfl (Nat.le_of_ble_eq_true rfl) rfl rfl))
    | refine op_box rfl (tl hn rfl) ?_
    | refine op_storeF rfl rfl rfl rfl (Nat.le_of_ble_eq_true rfl) ?_
    | refine op_alloc (tl hn rfl) ?_
    | refine op_storeN rfl rfl rfl rfl (Nat.le_of_ble_eq_true rfl) ?_
    | refine RunsD.step tabOk hn rfl rfl ?_
    | refine RunsD.nil ?_
    | refine Runs.toDraw 30 mixed hn rfl (by kernel_rfl) rfl ?_
    | ((first | refine RunsL.pe hn rfl rfl rfl ?_ | refine RunsD.pe rfl rfl ?_); first
      | refine ⟨_, pu_add rfl rfl (by omega), ?_⟩
      | refine ⟨_, pu_indexAddr_map rfl rfl (by omega) (by assumption), ?_⟩
      | refine ⟨_, pu_sub rfl rfl (by omega), ?_⟩
      | refine ⟨_, pu_pick_b rfl rfl rfl, ?_⟩
      | refine ⟨_, pu_mul rfl rfl (by omega), ?_⟩
      | refine ⟨_, pu_build rfl rfl rfl rfl rfl rfl, ?_⟩)
    | ((first | refine RunsL.guard_dec rfl rfl rfl ?_ ?_ | refine RunsL.guard_ndec rfl rfl rfl ?_ ?_ | refine RunsL.guard_nb rfl rfl rfl ?_ ?_ | refine RunsL.guard_b rfl rfl rfl ?_ ?_ | refine RunsD.guard_dec rfl rfl rfl ?_ ?_ | refine RunsD.guard_ndec rfl rfl rfl ?_ ?_ | refine RunsD.guard_nb rfl rfl rfl ?_ ?_ | refine RunsD.guard_b rfl rfl rfl ?_ ?_) <;> intro h <;> try (exfalso; first | omega | contradiction | (simp only [List.length_map] at h; omega))))
  refine Runs.loopN 30 rfl (fun j => [(0, .ro (strsR l)), (1, .str s), (5, .int (j : Int))]) (fun _ => []) (fun j => s ∉ l.take j) l.length 0 (Nat.zero_le _) (by simp) ⟨rfl, rfl, rfl, trivial⟩ rfl fun j hj hQ next => ?_
  by_cases hlt : j < l.length
  · obtain ⟨x, hx⟩ : ∃ x, l[(j : Int).toNat]? = some x := ⟨_, List.getElem?_eq_getElem hlt⟩
    have hx' : l[j]? = some x := hx
    by_cases hxs : x = s
    · subst hxs
      repeat' (first
        | ((first | refine RunsL.pe hn rfl rfl rfl ?_ | refine RunsD.pe rfl rfl ?_); first
          | refine ⟨_, pu_eqlSame rfl rfl, ?_⟩)
        | refine RunsL.step tabOk hn rfl ?_
        | refine RunsL.nil ?_
        | refine Runs.toRegion 30 rfl ?_
        | (refine Runs.ctls 30 rfl ?_; first | refine Runs.cond_t rfl ?_ | refine Runs.cond_f rfl ?_ | ((first | refine Runs.cond_yes rfl ?_ ?_ | refine Runs.cond_nno rfl ?_ ?_); · first | omega | rfl | assumption | (simp only [List.length_map]; omega)) | ((first | refine Runs.cond_no rfl ?_ ?_ | refine Runs.cond_nyes rfl ?_ ?_); · first | omega | rfl | assumption | (simp only [List.length_map]; omega)) | refine Runs.cond_dec rfl (fun h => ?_) (fun h => ?_) | refine Runs.cond_ndec rfl (fun h => ?_) (fun h => ?_) | refine Runs.cond_nb rfl (fun h => ?_) (fun h => ?_) | refine Runs.cond_b rfl (fun h => ?_) (fun h => ?_) | refine Runs.ret (ends_ro hm rfl rfl ?_) | exact Runs.ret (ends_cellR hm rfl rfl rfl (Nat.le_of_ble_eq_true rfl) rfl rfl))
        | refine op_box rfl (tl hn rfl) ?_
        | refine op_storeF rfl rfl rfl rfl (Nat.le_of_ble_eq_true rfl) ?_
        | refine op_alloc (tl hn rfl) ?_
        | refine op_storeN rfl rfl rfl rfl (Nat.le_of_ble_eq_true rfl) ?_
        | refine RunsD.step tabOk hn rfl rfl ?_
        | refine RunsD.nil ?_
        | refine Runs.toDraw 30 mixed hn rfl (by kernel_rfl) rfl ?_
        | ((first | refine RunsL.pe hn rfl rfl rfl ?_ | refine RunsD.pe rfl rfl ?_); first
          | refine ⟨_, pu_add rfl rfl (by omega), ?_⟩
          | refine ⟨_, pu_indexAddr_map rfl rfl (by omega) (by assumption), ?_⟩
          | refine ⟨_, pu_sub rfl rfl (by omega), ?_⟩
          | refine ⟨_, pu_pick_b rfl rfl rfl, ?_⟩
          | refine ⟨_, pu_mul rfl rfl (by omega), ?_⟩
          | refine ⟨_, pu_build rfl rfl rfl rfl rfl rfl, ?_⟩)
        | ((first | refine RunsL.guard_dec rfl rfl rfl ?_ ?_ | refine RunsL.guard_ndec rfl rfl rfl ?_ ?_ | refine RunsL.guard_nb rfl rfl rfl ?_ ?_ | refine RunsL.guard_b rfl rfl rfl ?_ ?_ | refine RunsD.guard_dec rfl rfl rfl ?_ ?_ | refine RunsD.guard_ndec rfl rfl rfl ?_ ?_ | refine RunsD.guard_nb rfl rfl rfl ?_ ?_ | refine RunsD.guard_b rfl rfl rfl ?_ ?_) <;> intro h <;> try (exfalso; first | omega | contradiction | (simp only [List.length_map] at h; omega))))
      exact rr_bool (decide_eq_true (List.mem_of_getElem? hx')).symm
    · repeat' (first
      | ((first | refine RunsL.pe hn rfl rfl rfl ?_ | refine RunsD.pe rfl rfl ?_); first
        | refine ⟨_, pu_eqlDiff rfl rfl (by assumption), ?_⟩)
      | refine RunsL.step tabOk hn rfl ?_
      | refine RunsL.nil ?_
      | refine Runs.toRegion 30 rfl ?_
      | (refine Runs.ctls 30 rfl ?_; first | refine Runs.cond_t rfl ?_ | refine Runs.cond_f rfl ?_ | ((first | refine Runs.cond_yes rfl ?_ ?_ | refine Runs.cond_nno rfl ?_ ?_); · first | omega | rfl | assumption | (simp only [List.length_map]; omega)) | ((first | refine Runs.cond_no rfl ?_ ?_ | refine Runs.cond_nyes rfl ?_ ?_); · first | omega | rfl | assumption | (simp only [List.length_map]; omega)) | refine Runs.cond_dec rfl (fun h => ?_) (fun h => ?_) | refine Runs.cond_ndec rfl (fun h => ?_) (fun h => ?_) | refine Runs.cond_nb rfl (fun h => ?_) (fun h => ?_) | refine Runs.cond_b rfl (fun h => ?_) (fun h => ?_) | refine Runs.ret (ends_ro hm rfl rfl ?_) | exact Runs.ret (ends_cellR hm rfl rfl rfl (Nat.le_of_ble_eq_true rfl) rfl rfl))
      | refine op_box rfl (tl hn rfl) ?_
      | refine op_storeF rfl rfl rfl rfl (Nat.le_of_ble_eq_true rfl) ?_
      | refine op_alloc (tl hn rfl) ?_
      | refine op_storeN rfl rfl rfl rfl (Nat.le_of_ble_eq_true rfl) ?_
      | refine RunsD.step tabOk hn rfl rfl ?_
      | refine RunsD.nil ?_
      | refine Runs.toDraw 30 mixed hn rfl (by kernel_rfl) rfl ?_
      | ((first | refine RunsL.pe hn rfl rfl rfl ?_ | refine RunsD.pe rfl rfl ?_); first
        | refine ⟨_, pu_add rfl rfl (by omega), ?_⟩
        | refine ⟨_, pu_indexAddr_map rfl rfl (by omega) (by assumption), ?_⟩
        | refine ⟨_, pu_sub rfl rfl (by omega), ?_⟩
        | refine ⟨_, pu_pick_b rfl rfl rfl, ?_⟩
        | refine ⟨_, pu_mul rfl rfl (by omega), ?_⟩
        | refine ⟨_, pu_build rfl rfl rfl rfl rfl rfl, ?_⟩)
      | ((first | refine RunsL.guard_dec rfl rfl rfl ?_ ?_ | refine RunsL.guard_ndec rfl rfl rfl ?_ ?_ | refine RunsL.guard_nb rfl rfl rfl ?_ ?_ | refine RunsL.guard_b rfl rfl rfl ?_ ?_ | refine RunsD.guard_dec rfl rfl rfl ?_ ?_ | refine RunsD.guard_ndec rfl rfl rfl ?_ ?_ | refine RunsD.guard_nb rfl rfl rfl ?_ ?_ | refine RunsD.guard_b rfl rfl rfl ?_ ?_) <;> intro h <;> try (exfalso; first | omega | contradiction | (simp only [List.length_map] at h; omega))))
      refine next _ _ ⟨rfl, rfl, rfl, trivial⟩ hlt ?_ rfl
      rw [List.take_succ_eq_append_getElem hlt, List.mem_append]
      rintro (hm' | hm')
      · exact hQ hm'
      · rw [List.getElem?_eq_getElem hlt] at hx'; injection hx' with hx'
        simp only [List.mem_singleton] at hm'
        exact hxs (by rw [hm', hx'])
  · repeat' (first
    | refine RunsL.step tabOk hn rfl ?_
    | refine RunsL.nil ?_
    | refine Runs.toRegion 30 rfl ?_
    | (refine Runs.ctls 30 rfl ?_; first | refine Runs.cond_t rfl ?_ | refine Runs.cond_f rfl ?_ | ((first | refine Runs.cond_yes rfl ?_ ?_ | refine Runs.cond_nno rfl ?_ ?_); · first | omega | rfl | assumption | (simp only [List.length_map]; omega)) | ((first | refine Runs.cond_no rfl ?_ ?_ | refine Runs.cond_nyes rfl ?_ ?_); · first | omega | rfl | assumption | (simp only [List.length_map]; omega)) | refine Runs.cond_dec rfl (fun h => ?_) (fun h => ?_) | refine Runs.cond_ndec rfl (fun h => ?_) (fun h => ?_) | refine Runs.cond_nb rfl (fun h => ?_) (fun h => ?_) | refine Runs.cond_b rfl (fun h => ?_) (fun h => ?_) | refine Runs.ret (ends_ro hm rfl rfl ?_) | exact Runs.ret (ends_cellR hm rfl rfl rfl (Nat.le_of_ble_eq_true rfl) rfl rfl))
    | refine op_box rfl (tl hn rfl) ?_
    | refine op_storeF rfl rfl rfl rfl (Nat.le_of_ble_eq_true rfl) ?_
    | refine op_alloc (tl hn rfl) ?_
    | refine op_storeN rfl rfl rfl rfl (Nat.le_of_ble_eq_true rfl) ?_
    | refine RunsD.step tabOk hn rfl rfl ?_
    | refine RunsD.nil ?_
    | refine Runs.toDraw 30 mixed hn rfl (by kernel_rfl) rfl ?_
    | ((first | refine RunsL.pe hn rfl rfl rfl ?_ | refine RunsD.pe rfl rfl ?_); first
      | refine ⟨_, pu_add rfl rfl (by omega), ?_⟩
      | refine ⟨_, pu_indexAddr_map rfl rfl (by omega) (by assumption), ?_⟩
      | refine ⟨_, pu_sub rfl rfl (by omega), ?_⟩
      | refine ⟨_, pu_pick_b rfl rfl rfl, ?_⟩
      | refine ⟨_, pu_mul rfl rfl (by omega), ?_⟩
      | refine ⟨_, pu_build rfl rfl rfl rfl rfl rfl, ?_⟩)
    | ((first | refine RunsL.guard_dec rfl rfl rfl ?_ ?_ | refine RunsL.guard_ndec rfl rfl rfl ?_ ?_ | refine RunsL.guard_nb rfl rfl rfl ?_ ?_ | refine RunsL.guard_b rfl rfl rfl ?_ ?_ | refine RunsD.guard_dec rfl rfl rfl ?_ ?_ | refine RunsD.guard_ndec rfl rfl rfl ?_ ?_ | refine RunsD.guard_nb rfl rfl rfl ?_ ?_ | refine RunsD.guard_b rfl rfl rfl ?_ ?_) <;> intro h <;> try (exfalso; first | omega | contradiction | (simp only [List.length_map] at h; omega))))
    rw [show j = l.length by omega, List.take_length] at hQ
    exact rr_bool (decide_eq_false hQ).symm
theorem impl_ContainsText (l : List ByteArray) (s : ByteArray) (hl : l.length ≤ maxLen) : ACv Try.prog 98 [strsR l, .str s] (.bool (decide (s ∈ l))) := by
  have hlm : (l.map fun z => [RV.str z]).length = l.length := List.length_map ..
  unfold maxLen at hl
  refine ac_enter Try.func98 rfl _ Try.ntmps98 (by simp) fun C hn hm => ?_
  repeat' (first
    | refine RunsL.step tabOk hn rfl ?_
    | refine RunsL.nil ?_
    | refine Runs.toRegion 30 rfl ?_
    | (refine Runs.ctls 30 rfl ?_; first | refine Runs.cond_t rfl ?_ | refine Runs.cond_f rfl ?_ | ((first | refine Runs.cond_yes rfl ?_ ?_ | refine Runs.cond_nno rfl ?_ ?_); · first | omega | rfl | assumption | (simp only [List.length_map]; omega)) | ((first | refine Runs.cond_no rfl ?_ ?_ | refine Runs.cond_nyes rfl ?_ ?_); · first | omega | rfl | assumption | (simp only [List.length_map]; omega)) | refine Runs.cond_dec rfl (fun h => ?_) (fun h => ?_) | refine Runs.cond_ndec rfl (fun h => ?_) (fun h => ?_) | refine Runs.cond_nb rfl (fun h => ?_) (fun h => ?_) | refine Runs.cond_b rfl (fun h => ?_) (fun h => ?_) | refine Runs.ret (ends_ro hm rfl rfl ?_) | exact Runs.ret (ends_cellR hm rfl rfl rfl (Nat.le_of_ble_eq_true rfl) rfl rfl))
    | refine op_box rfl (tl hn rfl) ?_
    | refine op_storeF rfl rfl rfl rfl (Nat.le_of_ble_eq_true rfl) ?_
    | refine op_alloc (tl hn rfl) ?_
    | refine op_storeN rfl rfl rfl rfl (Nat.le_of_ble_eq_true rfl) ?_
    | refine RunsD.step tabOk hn rfl rfl ?_
    | refine RunsD.nil ?_
    | refine Runs.toDraw 30 mixed hn rfl (by kernel_rfl) rfl ?_
    | ((first | refine RunsL.pe hn rfl rfl rfl ?_ | refine RunsD.pe rfl rfl ?_); first
      | refine ⟨_, pu_add rfl rfl (by omega), ?_⟩
      | refine ⟨_, pu_indexAddr_map rfl rfl (by omega) (by assumption), ?_⟩
      | refine ⟨_, pu_sub rfl rfl (by omega), ?_⟩
      | refine ⟨_, pu_pick_b rfl rfl rfl, ?_⟩
      | refine ⟨_, pu_mul rfl rfl (by omega), ?_⟩
      | refine ⟨_, pu_build rfl rfl rfl rfl rfl rfl, ?_⟩)
    | ((first | refine RunsL.guard_dec rfl rfl rfl ?_ ?_ | refine RunsL.guard_ndec rfl rfl rfl ?_ ?_ | refine RunsL.guard_nb rfl rfl rfl ?_ ?_ | refine RunsL.guard_b rfl rfl rfl ?_ ?_ | refine RunsD.guard_dec rfl rfl rfl ?_ ?_ | refine RunsD.guard_ndec rfl rfl rfl ?_ ?_ | refine RunsD.guard_nb rfl rfl rfl ?_ ?_ | refine RunsD.guard_b rfl rfl rfl ?_ ?_) <;> intro h <;> try (exfalso; first | omega | contradiction | (simp only [List.length_map] at h; omega))))
  refine Runs.loopN 30 rfl (fun j => [(7, .ro (strsR l)), (8, .int (l.length : Int)), (1, .str s), (9, .int (j : Int))]) (fun _ => []) (fun j => s ∉ l.take j) l.length 0 (Nat.zero_le _) (by simp) ⟨rfl, by simp [look], rfl, rfl, trivial⟩ rfl fun j hj hQ next => ?_
  by_cases hlt : j < l.length
  · obtain ⟨x, hx⟩ : ∃ x, l[(j : Int).toNat]? = some x := ⟨_, List.getElem?_eq_getElem hlt⟩
    have hx' : l[j]? = some x := hx
    by_cases hxs : x = s
    · subst hxs
      repeat' (first
        | ((first | refine RunsL.pe hn rfl rfl rfl ?_ | refine RunsD.pe rfl rfl ?_); first
          | refine ⟨_, pu_eqlSame rfl rfl, ?_⟩)
        | refine RunsL.step tabOk hn rfl ?_
        | refine RunsL.nil ?_
        | refine Runs.toRegion 30 rfl ?_
        | (refine Runs.ctls 30 rfl ?_; first | refine Runs.cond_t rfl ?_ | refine Runs.cond_f rfl ?_ | ((first | refine Runs.cond_yes rfl ?_ ?_ | refine Runs.cond_nno rfl ?_ ?_); · first | omega | rfl | assumption | (simp only [List.length_map]; omega)) | ((first | refine Runs.cond_no rfl ?_ ?_ | refine Runs.cond_nyes rfl ?_ ?_); · first | omega | rfl | assumption | (simp only [List.length_map]; omega)) | refine Runs.cond_dec rfl (fun h => ?_) (fun h => ?_) | refine Runs.cond_ndec rfl (fun h => ?_) (fun h => ?_) | refine Runs.cond_nb rfl (fun h => ?_) (fun h => ?_) | refine Runs.cond_b rfl (fun h => ?_) (fun h => ?_) | refine Runs.ret (ends_ro hm rfl rfl ?_) | exact Runs.ret (ends_cellR hm rfl rfl rfl (Nat.le_of_ble_eq_true rfl) rfl rfl))
        | refine op_box rfl (tl hn rfl) ?_
        | refine op_storeF rfl rfl rfl rfl (Nat.le_of_ble_eq_true rfl) ?_
        | refine op_alloc (tl hn rfl) ?_
        | refine op_storeN rfl rfl rfl rfl (Nat.le_of_ble_eq_true rfl) ?_
        | refine RunsD.step tabOk hn rfl rfl ?_
        | refine RunsD.nil ?_
        | refine Runs.toDraw 30 mixed hn rfl (by kernel_rfl) rfl ?_
        | ((first | refine RunsL.pe hn rfl rfl rfl ?_ | refine RunsD.pe rfl rfl ?_); first
          | refine ⟨_, pu_add rfl rfl (by omega), ?_⟩
          | refine ⟨_, pu_indexAddr_map rfl rfl (by omega) (by assumption), ?_⟩
          | refine ⟨_, pu_sub rfl rfl (by omega), ?_⟩
          | refine ⟨_, pu_pick_b rfl rfl rfl, ?_⟩
          | refine ⟨_, pu_mul rfl rfl (by omega), ?_⟩
          | refine ⟨_, pu_build rfl rfl rfl rfl rfl rfl, ?_⟩)
        | ((first | refine RunsL.guard_dec rfl rfl rfl ?_ ?_ | refine RunsL.guard_ndec rfl rfl rfl ?_ ?_ | refine RunsL.guard_nb rfl rfl rfl ?_ ?_ | refine RunsL.guard_b rfl rfl rfl ?_ ?_ | refine RunsD.guard_dec rfl rfl rfl ?_ ?_ | refine RunsD.guard_ndec rfl rfl rfl ?_ ?_ | refine RunsD.guard_nb rfl rfl rfl ?_ ?_ | refine RunsD.guard_b rfl rfl rfl ?_ ?_) <;> intro h <;> try (exfalso; first | omega | contradiction | (simp only [List.length_map] at h; omega))))
      exact rr_bool (decide_eq_true (List.mem_of_getElem? hx')).symm
    · repeat' (first
      | ((first | refine RunsL.pe hn rfl rfl rfl ?_ | refine RunsD.pe rfl rfl ?_); first
        | refine ⟨_, pu_eqlDiff rfl rfl (by assumption), ?_⟩)
      | refine RunsL.step tabOk hn rfl ?_
      | refine RunsL.nil ?_
      | refine Runs.toRegion 30 rfl ?_
      | (refine Runs.ctls 30 rfl ?_; first | refine Runs.cond_t rfl ?_ | refine Runs.cond_f rfl ?_ | ((first | refine Runs.cond_yes rfl ?_ ?_ | refine Runs.cond_nno rfl ?_ ?_); · first | omega | rfl | assumption | (simp only [List.length_map]; omega)) | ((first | refine Runs.cond_no rfl ?_ ?_ | refine Runs.cond_nyes rfl ?_ ?_); · first | omega | rfl | assumption | (simp only [List.length_map]; omega)) | refine Runs.cond_dec rfl (fun h => ?_) (fun h => ?_) | refine Runs.cond_ndec rfl (fun h => ?_) (fun h => ?_) | refine Runs.cond_nb rfl (fun h => ?_) (fun h => ?_) | refine Runs.cond_b rfl (fun h => ?_) (fun h => ?_) | refine Runs.ret (ends_ro hm rfl rfl ?_) | exact Runs.ret (ends_cellR hm rfl rfl rfl (Nat.le_of_ble_eq_true rfl) rfl rfl))
      | refine op_box rfl (tl hn rfl) ?_
      | refine op_storeF rfl rfl rfl rfl (Nat.le_of_ble_eq_true rfl) ?_
      | refine op_alloc (tl hn rfl) ?_
      | refine op_storeN rfl rfl rfl rfl (Nat.le_of_ble_eq_true rfl) ?_
      | refine RunsD.step tabOk hn rfl rfl ?_
      | refine RunsD.nil ?_
      | refine Runs.toDraw 30 mixed hn rfl (by kernel_rfl) rfl ?_
      | ((first | refine RunsL.pe hn rfl rfl rfl ?_ | refine RunsD.pe rfl rfl ?_); first
        | refine ⟨_, pu_add rfl rfl (by omega), ?_⟩
        | refine ⟨_, pu_indexAddr_map rfl rfl (by omega) (by assumption), ?_⟩
        | refine ⟨_, pu_sub rfl rfl (by omega), ?_⟩
        | refine ⟨_, pu_pick_b rfl rfl rfl, ?_⟩
        | refine ⟨_, pu_mul rfl rfl (by omega), ?_⟩
        | refine ⟨_, pu_build rfl rfl rfl rfl rfl rfl, ?_⟩)
      | ((first | refine RunsL.guard_dec rfl rfl rfl ?_ ?_ | refine RunsL.guard_ndec rfl rfl rfl ?_ ?_ | refine RunsL.guard_nb rfl rfl rfl ?_ ?_ | refine RunsL.guard_b rfl rfl rfl ?_ ?_ | refine RunsD.guard_dec rfl rfl rfl ?_ ?_ | refine RunsD.guard_ndec rfl rfl rfl ?_ ?_ | refine RunsD.guard_nb rfl rfl rfl ?_ ?_ | refine RunsD.guard_b rfl rfl rfl ?_ ?_) <;> intro h <;> try (exfalso; first | omega | contradiction | (simp only [List.length_map] at h; omega))))
      refine next _ _ ⟨rfl, rfl, rfl, rfl, trivial⟩ hlt ?_ rfl
      rw [List.take_succ_eq_append_getElem hlt, List.mem_append]
      rintro (hm' | hm')
      · exact hQ hm'
      · rw [List.getElem?_eq_getElem hlt] at hx'; injection hx' with hx'
        simp only [List.mem_singleton] at hm'
        exact hxs (by rw [hm', hx'])
  · repeat' (first
    | refine RunsL.step tabOk hn rfl ?_
    | refine RunsL.nil ?_
    | refine Runs.toRegion 30 rfl ?_
    | (refine Runs.ctls 30 rfl ?_; first | refine Runs.cond_t rfl ?_ | refine Runs.cond_f rfl ?_ | ((first | refine Runs.cond_yes rfl ?_ ?_ | refine Runs.cond_nno rfl ?_ ?_); · first | omega | rfl | assumption | (simp only [List.length_map]; omega)) | ((first | refine Runs.cond_no rfl ?_ ?_ | refine Runs.cond_nyes rfl ?_ ?_); · first | omega | rfl | assumption | (simp only [List.length_map]; omega)) | refine Runs.cond_dec rfl (fun h => ?_) (fun h => ?_) | refine Runs.cond_ndec rfl (fun h => ?_) (fun h => ?_) | refine Runs.cond_nb rfl (fun h => ?_) (fun h => ?_) | refine Runs.cond_b rfl (fun h => ?_) (fun h => ?_) | refine Runs.ret (ends_ro hm rfl rfl ?_) | exact Runs.ret (ends_cellR hm rfl rfl rfl (Nat.le_of_ble_eq_true rfl) rfl rfl))
    | refine op_box rfl (tl hn rfl) ?_
    | refine op_storeF rfl rfl rfl rfl (Nat.le_of_ble_eq_true rfl) ?_
    | refine op_alloc (tl hn rfl) ?_
    | refine op_storeN rfl rfl rfl rfl (Nat.le_of_ble_eq_true rfl) ?_
    | refine RunsD.step tabOk hn rfl rfl ?_
    | refine RunsD.nil ?_
    | refine Runs.toDraw 30 mixed hn rfl (by kernel_rfl) rfl ?_
    | ((first | refine RunsL.pe hn rfl rfl rfl ?_ | refine RunsD.pe rfl rfl ?_); first
      | refine ⟨_, pu_add rfl rfl (by omega), ?_⟩
      | refine ⟨_, pu_indexAddr_map rfl rfl (by omega) (by assumption), ?_⟩
      | refine ⟨_, pu_sub rfl rfl (by omega), ?_⟩
      | refine ⟨_, pu_pick_b rfl rfl rfl, ?_⟩
      | refine ⟨_, pu_mul rfl rfl (by omega), ?_⟩
      | refine ⟨_, pu_build rfl rfl rfl rfl rfl rfl, ?_⟩)
    | ((first | refine RunsL.guard_dec rfl rfl rfl ?_ ?_ | refine RunsL.guard_ndec rfl rfl rfl ?_ ?_ | refine RunsL.guard_nb rfl rfl rfl ?_ ?_ | refine RunsL.guard_b rfl rfl rfl ?_ ?_ | refine RunsD.guard_dec rfl rfl rfl ?_ ?_ | refine RunsD.guard_ndec rfl rfl rfl ?_ ?_ | refine RunsD.guard_nb rfl rfl rfl ?_ ?_ | refine RunsD.guard_b rfl rfl rfl ?_ ?_) <;> intro h <;> try (exfalso; first | omega | contradiction | (simp only [List.length_map] at h; omega))))
    rw [show j = l.length by omega, List.take_length] at hQ
    exact rr_bool (decide_eq_false hQ).symm
/-- 256 to the power of a size. -/
def pow8 (s : Int) : Int := if s = 1 then 256 else if s = 2 then 65536 else if s = 3 then 16777216 else 4294967296
theorem pow8_le {s : Int} : 256 ≤ pow8 s ∧ pow8 s ≤ 4294967296 := by unfold pow8; split; omega; split; omega; split <;> omega
section
variable {P : Program} {C : Ctx} {env : Env} {σ : List Ob} {t : Nat} {ty : TypeId} {pos : String} {after : Array Edge} {gd : Option (Nat × Bool)}
theorem pu_pow {xt yt : TypeId} {x y : Operand} {s : Int} (hx : ev env x = .ro (.c (.int .i64 1))) (hy : ev env y = .ro (.c (.int .i64 (8 * s)))) (h : 1 ≤ s ∧ s ≤ 4) : Pur P C ⟨some t, .binOp .shl xt x y yt, ty, pos, after, gd⟩ env σ (.int (pow8 s)) := by
  have hs : s = 1 ∨ s = 2 ∨ s = 3 ∨ s = 4 := by omega
  rcases hs with rfl | rfl | rfl | rfl
  · exact pu_bin hx hy (fun w => by simp [go_sem, pow8]; rfl)
  · exact pu_bin hx hy (fun w => by simp [go_sem, pow8]; rfl)
  · exact pu_bin hx hy (fun w => by simp [go_sem, pow8]; rfl)
  · exact pu_bin hx hy (fun w => by simp [go_sem, pow8]; rfl)
end
theorem l2Power_ac (s : Int) (h : 1 ≤ s ∧ s ≤ 4) : ACv Try.prog 77 [.int s] (.int (pow8 s)) := by
  refine ac_enter Try.func77 rfl _ Try.ntmps77 (by simp) fun C hn hm => ?_
  repeat' (first
    | refine RunsL.step tabOk hn rfl ?_
    | refine RunsL.nil ?_
    | refine Runs.toRegion 30 rfl ?_
    | ((first | refine RunsL.pe hn rfl rfl rfl ?_ | refine RunsD.pe rfl rfl ?_); first
      | refine ⟨_, pu_pow rfl rfl h, ?_⟩)
    | (refine Runs.ctls 30 rfl ?_; first | refine Runs.cond_t rfl ?_ | refine Runs.cond_f rfl ?_ | ((first | refine Runs.cond_yes rfl ?_ ?_ | refine Runs.cond_nno rfl ?_ ?_); · first | omega | rfl | assumption | (simp only [List.length_map]; omega)) | ((first | refine Runs.cond_no rfl ?_ ?_ | refine Runs.cond_nyes rfl ?_ ?_); · first | omega | rfl | assumption | (simp only [List.length_map]; omega)) | refine Runs.cond_dec rfl (fun h => ?_) (fun h => ?_) | refine Runs.cond_ndec rfl (fun h => ?_) (fun h => ?_) | refine Runs.cond_nb rfl (fun h => ?_) (fun h => ?_) | refine Runs.cond_b rfl (fun h => ?_) (fun h => ?_) | refine Runs.ret (ends_ro hm rfl rfl ?_) | exact Runs.ret (ends_cellR hm rfl rfl rfl (Nat.le_of_ble_eq_true rfl) rfl rfl))
    | refine op_box rfl (tl hn rfl) ?_
    | refine op_storeF rfl rfl rfl rfl (Nat.le_of_ble_eq_true rfl) ?_
    | refine op_alloc (tl hn rfl) ?_
    | refine op_storeN rfl rfl rfl rfl (Nat.le_of_ble_eq_true rfl) ?_
    | refine RunsD.step tabOk hn rfl rfl ?_
    | refine RunsD.nil ?_
    | refine Runs.toDraw 30 mixed hn rfl (by kernel_rfl) rfl ?_
    | ((first | refine RunsL.pe hn rfl rfl rfl ?_ | refine RunsD.pe rfl rfl ?_); first
      | refine ⟨_, pu_add rfl rfl (by omega), ?_⟩
      | refine ⟨_, pu_indexAddr_map rfl rfl (by omega) (by assumption), ?_⟩
      | refine ⟨_, pu_sub rfl rfl (by omega), ?_⟩
      | refine ⟨_, pu_pick_b rfl rfl rfl, ?_⟩
      | refine ⟨_, pu_mul rfl rfl (by omega), ?_⟩
      | refine ⟨_, pu_build rfl rfl rfl rfl rfl rfl, ?_⟩)
    | ((first | refine RunsL.guard_dec rfl rfl rfl ?_ ?_ | refine RunsL.guard_ndec rfl rfl rfl ?_ ?_ | refine RunsL.guard_nb rfl rfl rfl ?_ ?_ | refine RunsL.guard_b rfl rfl rfl ?_ ?_ | refine RunsD.guard_dec rfl rfl rfl ?_ ?_ | refine RunsD.guard_ndec rfl rfl rfl ?_ ?_ | refine RunsD.guard_nb rfl rfl rfl ?_ ?_ | refine RunsD.guard_b rfl rfl rfl ?_ ?_) <;> intro h <;> try (exfalso; first | omega | contradiction | (simp only [List.length_map] at h; omega))))
  exact rr_int rfl
/-- The greatest number of an integer; -1 where there is none. -/
def lim (d : Des) (i : Int) : Int := match d[i.toNat]? with
  | some r => if 0 ≤ i ∧ r.kind = 1 ∧ 1 ≤ r.size ∧ r.size ≤ 4 then pow8 r.size - 1 else -1
  | none => -1
theorem lim_yes {d : Des} {i : Int} {r : Rul} (h : d[i.toNat]? = some r) (h0 : 0 ≤ i ∧ r.kind = 1 ∧ 1 ≤ r.size ∧ r.size ≤ 4) : lim d i = pow8 r.size - 1 := by unfold lim; rw [h]; exact if_pos h0
theorem lim_no {d : Des} {i : Int} {r : Rul} (h : d[i.toNat]? = some r) (h0 : ¬ (0 ≤ i ∧ r.kind = 1 ∧ 1 ≤ r.size ∧ r.size ≤ 4)) : lim d i = -1 := by unfold lim; rw [h]; exact if_neg h0
theorem lim_out {d : Des} {i : Int} (h : ¬ (0 ≤ i ∧ i < d.length)) : lim d i = -1 := by
  unfold lim
  split
  · rename_i r hr
    have := (List.getElem?_eq_some_iff.1 hr).1
    exact if_neg (by omega)
  · rfl
abbrev HasR (d : Des) (i : Int) : Prop := 0 ≤ i ∧ i < d.length
theorem hasRule_ac (d : Des) (i : Int) : ACv Try.prog 64 [desR d, .int i] (.bool (decide (HasR d i))) := by
  have hl : (d.map rulR).length = d.length := List.length_map ..
  refine ac_enter Try.func64 rfl _ Try.ntmps64 (by simp) fun C hn hm => ?_
  repeat' (first
    | refine RunsL.step tabOk hn rfl ?_
    | refine RunsL.nil ?_
    | refine Runs.toRegion 30 rfl ?_
    | (refine Runs.ctls 30 rfl ?_; first | refine Runs.cond_t rfl ?_ | refine Runs.cond_f rfl ?_ | ((first | refine Runs.cond_yes rfl ?_ ?_ | refine Runs.cond_nno rfl ?_ ?_); · first | omega | rfl | assumption | (simp only [List.length_map]; omega)) | ((first | refine Runs.cond_no rfl ?_ ?_ | refine Runs.cond_nyes rfl ?_ ?_); · first | omega | rfl | assumption | (simp only [List.length_map]; omega)) | refine Runs.cond_dec rfl (fun h => ?_) (fun h => ?_) | refine Runs.cond_ndec rfl (fun h => ?_) (fun h => ?_) | refine Runs.cond_nb rfl (fun h => ?_) (fun h => ?_) | refine Runs.cond_b rfl (fun h => ?_) (fun h => ?_) | refine Runs.ret (ends_ro hm rfl rfl ?_) | exact Runs.ret (ends_cellR hm rfl rfl rfl (Nat.le_of_ble_eq_true rfl) rfl rfl))
    | refine op_box rfl (tl hn rfl) ?_
    | refine op_storeF rfl rfl rfl rfl (Nat.le_of_ble_eq_true rfl) ?_
    | refine op_alloc (tl hn rfl) ?_
    | refine op_storeN rfl rfl rfl rfl (Nat.le_of_ble_eq_true rfl) ?_
    | refine RunsD.step tabOk hn rfl rfl ?_
    | refine RunsD.nil ?_
    | refine Runs.toDraw 30 mixed hn rfl (by kernel_rfl) rfl ?_
    | ((first | refine RunsL.pe hn rfl rfl rfl ?_ | refine RunsD.pe rfl rfl ?_); first
      | refine ⟨_, pu_add rfl rfl (by omega), ?_⟩
      | refine ⟨_, pu_indexAddr_map rfl rfl (by omega) (by assumption), ?_⟩
      | refine ⟨_, pu_sub rfl rfl (by omega), ?_⟩
      | refine ⟨_, pu_pick_b rfl rfl rfl, ?_⟩
      | refine ⟨_, pu_mul rfl rfl (by omega), ?_⟩
      | refine ⟨_, pu_build rfl rfl rfl rfl rfl rfl, ?_⟩)
    | ((first | refine RunsL.guard_dec rfl rfl rfl ?_ ?_ | refine RunsL.guard_ndec rfl rfl rfl ?_ ?_ | refine RunsL.guard_nb rfl rfl rfl ?_ ?_ | refine RunsL.guard_b rfl rfl rfl ?_ ?_ | refine RunsD.guard_dec rfl rfl rfl ?_ ?_ | refine RunsD.guard_ndec rfl rfl rfl ?_ ?_ | refine RunsD.guard_nb rfl rfl rfl ?_ ?_ | refine RunsD.guard_b rfl rfl rfl ?_ ?_) <;> intro h <;> try (exfalso; first | omega | contradiction | (simp only [List.length_map] at h; omega))))
  all_goals exact rr_bool (by rw [Bool.eq_iff_iff]; simp only [decide_eq_true_eq, Bool.not_eq_true', decide_eq_false_iff_not, Bool.false_eq_true, true_iff, false_iff, Bool.and_eq_true, Bool.or_eq_true, Bool.not_eq_eq_eq_not, Bool.not_true, Bool.not_false, reduceCtorEq, eq_self, iff_true, iff_false, ne_eq]; simp only [HasR] at *; omega)
theorem impl_IntegerLimit (d : Des) (i : Int) (hl : d.length ≤ maxLen) : ACv Try.prog 66 [desR d, .int i] (.int (lim d i)) := by
  unfold maxLen at hl
  refine ac_enter Try.func66 rfl _ Try.ntmps66 (by simp) fun C hn hm => ?_
  by_cases hx : HasR d i
  · obtain ⟨r, hr⟩ : ∃ r, d[i.toNat]? = some r := ⟨_, List.getElem?_eq_getElem (by omega)⟩
    have hb := pow8_le (s := r.size)
    by_cases hk : 0 ≤ i ∧ r.kind = 1 ∧ 1 ≤ r.size ∧ r.size ≤ 4
    · rw [lim_yes hr hk]
      repeat' (first
        | refine RunsL.step tabOk hn rfl ?_
        | refine RunsL.nil ?_
        | refine Runs.toRegion 30 rfl ?_
        | ((first | refine RunsL.pe hn rfl rfl rfl ?_ | refine RunsD.pe rfl rfl ?_); first
          | refine ⟨_, pu_callR (hasRule_ac _ _) rfl, ?_⟩
          | refine ⟨_, pu_callR (inRange_ac _ _ _) rfl, ?_⟩
          | refine ⟨_, pu_pow rfl rfl (by omega), ?_⟩)
        | (refine Runs.ctls 30 rfl ?_; first | refine Runs.cond_t rfl ?_ | refine Runs.cond_f rfl ?_ | ((first | refine Runs.cond_yes rfl ?_ ?_ | refine Runs.cond_nno rfl ?_ ?_); · first | omega | rfl | assumption | (simp only [List.length_map]; omega)) | ((first | refine Runs.cond_no rfl ?_ ?_ | refine Runs.cond_nyes rfl ?_ ?_); · first | omega | rfl | assumption | (simp only [List.length_map]; omega)) | refine Runs.cond_dec rfl (fun h => ?_) (fun h => ?_) | refine Runs.cond_ndec rfl (fun h => ?_) (fun h => ?_) | refine Runs.cond_nb rfl (fun h => ?_) (fun h => ?_) | refine Runs.cond_b rfl (fun h => ?_) (fun h => ?_) | refine Runs.ret (ends_ro hm rfl rfl ?_) | exact Runs.ret (ends_cellR hm rfl rfl rfl (Nat.le_of_ble_eq_true rfl) rfl rfl))
        | refine op_box rfl (tl hn rfl) ?_
        | refine op_storeF rfl rfl rfl rfl (Nat.le_of_ble_eq_true rfl) ?_
        | refine op_alloc (tl hn rfl) ?_
        | refine op_storeN rfl rfl rfl rfl (Nat.le_of_ble_eq_true rfl) ?_
        | refine RunsD.step tabOk hn rfl rfl ?_
        | refine RunsD.nil ?_
        | refine Runs.toDraw 30 mixed hn rfl (by kernel_rfl) rfl ?_
        | ((first | refine RunsL.pe hn rfl rfl rfl ?_ | refine RunsD.pe rfl rfl ?_); first
          | refine ⟨_, pu_add rfl rfl (by omega), ?_⟩
          | refine ⟨_, pu_indexAddr_map rfl rfl (by omega) (by assumption), ?_⟩
          | refine ⟨_, pu_sub rfl rfl (by omega), ?_⟩
          | refine ⟨_, pu_pick_b rfl rfl rfl, ?_⟩
          | refine ⟨_, pu_mul rfl rfl (by omega), ?_⟩
          | refine ⟨_, pu_build rfl rfl rfl rfl rfl rfl, ?_⟩)
        | ((first | refine RunsL.guard_dec rfl rfl rfl ?_ ?_ | refine RunsL.guard_ndec rfl rfl rfl ?_ ?_ | refine RunsL.guard_nb rfl rfl rfl ?_ ?_ | refine RunsL.guard_b rfl rfl rfl ?_ ?_ | refine RunsD.guard_dec rfl rfl rfl ?_ ?_ | refine RunsD.guard_ndec rfl rfl rfl ?_ ?_ | refine RunsD.guard_nb rfl rfl rfl ?_ ?_ | refine RunsD.guard_b rfl rfl rfl ?_ ?_) <;> intro h <;> try (exfalso; first | omega | contradiction | (simp only [List.length_map] at h; omega))))
      exact rr_int rfl
    · rw [lim_no hr hk]
      repeat' (first
        | refine RunsL.step tabOk hn rfl ?_
        | refine RunsL.nil ?_
        | refine Runs.toRegion 30 rfl ?_
        | ((first | refine RunsL.pe hn rfl rfl rfl ?_ | refine RunsD.pe rfl rfl ?_); first
          | refine ⟨_, pu_callR (hasRule_ac _ _) rfl, ?_⟩
          | refine ⟨_, pu_callR (inRange_ac _ _ _) rfl, ?_⟩
          | refine ⟨_, pu_pow rfl rfl (by omega), ?_⟩)
        | (refine Runs.ctls 30 rfl ?_; first | refine Runs.cond_t rfl ?_ | refine Runs.cond_f rfl ?_ | ((first | refine Runs.cond_yes rfl ?_ ?_ | refine Runs.cond_nno rfl ?_ ?_); · first | omega | rfl | assumption | (simp only [List.length_map]; omega)) | ((first | refine Runs.cond_no rfl ?_ ?_ | refine Runs.cond_nyes rfl ?_ ?_); · first | omega | rfl | assumption | (simp only [List.length_map]; omega)) | refine Runs.cond_dec rfl (fun h => ?_) (fun h => ?_) | refine Runs.cond_ndec rfl (fun h => ?_) (fun h => ?_) | refine Runs.cond_nb rfl (fun h => ?_) (fun h => ?_) | refine Runs.cond_b rfl (fun h => ?_) (fun h => ?_) | refine Runs.ret (ends_ro hm rfl rfl ?_) | exact Runs.ret (ends_cellR hm rfl rfl rfl (Nat.le_of_ble_eq_true rfl) rfl rfl))
        | refine op_box rfl (tl hn rfl) ?_
        | refine op_storeF rfl rfl rfl rfl (Nat.le_of_ble_eq_true rfl) ?_
        | refine op_alloc (tl hn rfl) ?_
        | refine op_storeN rfl rfl rfl rfl (Nat.le_of_ble_eq_true rfl) ?_
        | refine RunsD.step tabOk hn rfl rfl ?_
        | refine RunsD.nil ?_
        | refine Runs.toDraw 30 mixed hn rfl (by kernel_rfl) rfl ?_
        | ((first | refine RunsL.pe hn rfl rfl rfl ?_ | refine RunsD.pe rfl rfl ?_); first
          | refine ⟨_, pu_add rfl rfl (by omega), ?_⟩
          | refine ⟨_, pu_indexAddr_map rfl rfl (by omega) (by assumption), ?_⟩
          | refine ⟨_, pu_sub rfl rfl (by omega), ?_⟩
          | refine ⟨_, pu_pick_b rfl rfl rfl, ?_⟩
          | refine ⟨_, pu_mul rfl rfl (by omega), ?_⟩
          | refine ⟨_, pu_build rfl rfl rfl rfl rfl rfl, ?_⟩)
        | ((first | refine RunsL.guard_dec rfl rfl rfl ?_ ?_ | refine RunsL.guard_ndec rfl rfl rfl ?_ ?_ | refine RunsL.guard_nb rfl rfl rfl ?_ ?_ | refine RunsL.guard_b rfl rfl rfl ?_ ?_ | refine RunsD.guard_dec rfl rfl rfl ?_ ?_ | refine RunsD.guard_ndec rfl rfl rfl ?_ ?_ | refine RunsD.guard_nb rfl rfl rfl ?_ ?_ | refine RunsD.guard_b rfl rfl rfl ?_ ?_) <;> intro h <;> try (exfalso; first | omega | contradiction | (simp only [List.length_map] at h; omega))))
      all_goals exact rr_int rfl
  · rw [lim_out hx]
    repeat' (first
      | refine RunsL.step tabOk hn rfl ?_
      | refine RunsL.nil ?_
      | refine Runs.toRegion 30 rfl ?_
      | ((first | refine RunsL.pe hn rfl rfl rfl ?_ | refine RunsD.pe rfl rfl ?_); first
        | refine ⟨_, pu_callR (hasRule_ac _ _) rfl, ?_⟩)
      | (refine Runs.ctls 30 rfl ?_; first | refine Runs.cond_t rfl ?_ | refine Runs.cond_f rfl ?_ | ((first | refine Runs.cond_yes rfl ?_ ?_ | refine Runs.cond_nno rfl ?_ ?_); · first | omega | rfl | assumption | (simp only [List.length_map]; omega)) | ((first | refine Runs.cond_no rfl ?_ ?_ | refine Runs.cond_nyes rfl ?_ ?_); · first | omega | rfl | assumption | (simp only [List.length_map]; omega)) | refine Runs.cond_dec rfl (fun h => ?_) (fun h => ?_) | refine Runs.cond_ndec rfl (fun h => ?_) (fun h => ?_) | refine Runs.cond_nb rfl (fun h => ?_) (fun h => ?_) | refine Runs.cond_b rfl (fun h => ?_) (fun h => ?_) | refine Runs.ret (ends_ro hm rfl rfl ?_) | exact Runs.ret (ends_cellR hm rfl rfl rfl (Nat.le_of_ble_eq_true rfl) rfl rfl))
      | refine op_box rfl (tl hn rfl) ?_
      | refine op_storeF rfl rfl rfl rfl (Nat.le_of_ble_eq_true rfl) ?_
      | refine op_alloc (tl hn rfl) ?_
      | refine op_storeN rfl rfl rfl rfl (Nat.le_of_ble_eq_true rfl) ?_
      | refine RunsD.step tabOk hn rfl rfl ?_
      | refine RunsD.nil ?_
      | refine Runs.toDraw 30 mixed hn rfl (by kernel_rfl) rfl ?_
      | ((first | refine RunsL.pe hn rfl rfl rfl ?_ | refine RunsD.pe rfl rfl ?_); first
        | refine ⟨_, pu_add rfl rfl (by omega), ?_⟩
        | refine ⟨_, pu_indexAddr_map rfl rfl (by omega) (by assumption), ?_⟩
        | refine ⟨_, pu_sub rfl rfl (by omega), ?_⟩
        | refine ⟨_, pu_pick_b rfl rfl rfl, ?_⟩
        | refine ⟨_, pu_mul rfl rfl (by omega), ?_⟩
        | refine ⟨_, pu_build rfl rfl rfl rfl rfl rfl, ?_⟩)
      | ((first | refine RunsL.guard_dec rfl rfl rfl ?_ ?_ | refine RunsL.guard_ndec rfl rfl rfl ?_ ?_ | refine RunsL.guard_nb rfl rfl rfl ?_ ?_ | refine RunsL.guard_b rfl rfl rfl ?_ ?_ | refine RunsD.guard_dec rfl rfl rfl ?_ ?_ | refine RunsD.guard_ndec rfl rfl rfl ?_ ?_ | refine RunsD.guard_nb rfl rfl rfl ?_ ?_ | refine RunsD.guard_b rfl rfl rfl ?_ ?_) <;> intro h <;> try (exfalso; first | omega | contradiction | (simp only [List.length_map] at h; omega))))
    all_goals exact rr_int rfl
theorem spec_IntegerLimit (d : Des) (i : Int) (hl : d.length ≤ maxLen) : ACv Try.prog 65 [desR d, .int i] (.int (lim d i)) := by
  have hlm : (d.map rulR).length = d.length := List.length_map ..
  unfold maxLen at hl
  refine ac_enter Try.func65 rfl _ Try.ntmps65 (by simp) fun C hn hm => ?_
  by_cases hx : HasR d i
  · obtain ⟨r, hr⟩ : ∃ r, d[i.toNat]? = some r := ⟨_, List.getElem?_eq_getElem (by omega)⟩
    have hb := pow8_le (s := r.size)
    by_cases hk : 0 ≤ i ∧ r.kind = 1 ∧ 1 ≤ r.size ∧ r.size ≤ 4
    · rw [lim_yes hr hk]
      repeat' (first
        | refine RunsL.step tabOk hn rfl ?_
        | refine RunsL.nil ?_
        | refine Runs.toRegion 30 rfl ?_
        | ((first | refine RunsL.pe hn rfl rfl rfl ?_ | refine RunsD.pe rfl rfl ?_); first
          | refine ⟨_, pu_callR (l1In_ac _ _ _) rfl, ?_⟩
          | refine ⟨_, pu_callR (l2Power_ac r.size (by omega)) rfl, ?_⟩)
        | (refine Runs.ctls 30 rfl ?_; first | refine Runs.cond_t rfl ?_ | refine Runs.cond_f rfl ?_ | ((first | refine Runs.cond_yes rfl ?_ ?_ | refine Runs.cond_nno rfl ?_ ?_); · first | omega | rfl | assumption | (simp only [List.length_map]; omega)) | ((first | refine Runs.cond_no rfl ?_ ?_ | refine Runs.cond_nyes rfl ?_ ?_); · first | omega | rfl | assumption | (simp only [List.length_map]; omega)) | refine Runs.cond_dec rfl (fun h => ?_) (fun h => ?_) | refine Runs.cond_ndec rfl (fun h => ?_) (fun h => ?_) | refine Runs.cond_nb rfl (fun h => ?_) (fun h => ?_) | refine Runs.cond_b rfl (fun h => ?_) (fun h => ?_) | refine Runs.ret (ends_ro hm rfl rfl ?_) | exact Runs.ret (ends_cellR hm rfl rfl rfl (Nat.le_of_ble_eq_true rfl) rfl rfl))
        | refine op_box rfl (tl hn rfl) ?_
        | refine op_storeF rfl rfl rfl rfl (Nat.le_of_ble_eq_true rfl) ?_
        | refine op_alloc (tl hn rfl) ?_
        | refine op_storeN rfl rfl rfl rfl (Nat.le_of_ble_eq_true rfl) ?_
        | refine RunsD.step tabOk hn rfl rfl ?_
        | refine RunsD.nil ?_
        | refine Runs.toDraw 30 mixed hn rfl (by kernel_rfl) rfl ?_
        | ((first | refine RunsL.pe hn rfl rfl rfl ?_ | refine RunsD.pe rfl rfl ?_); first
          | refine ⟨_, pu_add rfl rfl (by omega), ?_⟩
          | refine ⟨_, pu_indexAddr_map rfl rfl (by omega) (by assumption), ?_⟩
          | refine ⟨_, pu_sub rfl rfl (by omega), ?_⟩
          | refine ⟨_, pu_pick_b rfl rfl rfl, ?_⟩
          | refine ⟨_, pu_mul rfl rfl (by omega), ?_⟩
          | refine ⟨_, pu_build rfl rfl rfl rfl rfl rfl, ?_⟩)
        | ((first | refine RunsL.guard_dec rfl rfl rfl ?_ ?_ | refine RunsL.guard_ndec rfl rfl rfl ?_ ?_ | refine RunsL.guard_nb rfl rfl rfl ?_ ?_ | refine RunsL.guard_b rfl rfl rfl ?_ ?_ | refine RunsD.guard_dec rfl rfl rfl ?_ ?_ | refine RunsD.guard_ndec rfl rfl rfl ?_ ?_ | refine RunsD.guard_nb rfl rfl rfl ?_ ?_ | refine RunsD.guard_b rfl rfl rfl ?_ ?_) <;> intro h <;> try (exfalso; first | omega | contradiction | (simp only [List.length_map] at h; omega))))
      exact rr_int rfl
    · rw [lim_no hr hk]
      repeat' (first
        | refine RunsL.step tabOk hn rfl ?_
        | refine RunsL.nil ?_
        | refine Runs.toRegion 30 rfl ?_
        | ((first | refine RunsL.pe hn rfl rfl rfl ?_ | refine RunsD.pe rfl rfl ?_); first
          | refine ⟨_, pu_callR (l1In_ac _ _ _) rfl, ?_⟩)
        | (refine Runs.ctls 30 rfl ?_; first | refine Runs.cond_t rfl ?_ | refine Runs.cond_f rfl ?_ | ((first | refine Runs.cond_yes rfl ?_ ?_ | refine Runs.cond_nno rfl ?_ ?_); · first | omega | rfl | assumption | (simp only [List.length_map]; omega)) | ((first | refine Runs.cond_no rfl ?_ ?_ | refine Runs.cond_nyes rfl ?_ ?_); · first | omega | rfl | assumption | (simp only [List.length_map]; omega)) | refine Runs.cond_dec rfl (fun h => ?_) (fun h => ?_) | refine Runs.cond_ndec rfl (fun h => ?_) (fun h => ?_) | refine Runs.cond_nb rfl (fun h => ?_) (fun h => ?_) | refine Runs.cond_b rfl (fun h => ?_) (fun h => ?_) | refine Runs.ret (ends_ro hm rfl rfl ?_) | exact Runs.ret (ends_cellR hm rfl rfl rfl (Nat.le_of_ble_eq_true rfl) rfl rfl))
        | refine op_box rfl (tl hn rfl) ?_
        | refine op_storeF rfl rfl rfl rfl (Nat.le_of_ble_eq_true rfl) ?_
        | refine op_alloc (tl hn rfl) ?_
        | refine op_storeN rfl rfl rfl rfl (Nat.le_of_ble_eq_true rfl) ?_
        | refine RunsD.step tabOk hn rfl rfl ?_
        | refine RunsD.nil ?_
        | refine Runs.toDraw 30 mixed hn rfl (by kernel_rfl) rfl ?_
        | ((first | refine RunsL.pe hn rfl rfl rfl ?_ | refine RunsD.pe rfl rfl ?_); first
          | refine ⟨_, pu_add rfl rfl (by omega), ?_⟩
          | refine ⟨_, pu_indexAddr_map rfl rfl (by omega) (by assumption), ?_⟩
          | refine ⟨_, pu_sub rfl rfl (by omega), ?_⟩
          | refine ⟨_, pu_pick_b rfl rfl rfl, ?_⟩
          | refine ⟨_, pu_mul rfl rfl (by omega), ?_⟩
          | refine ⟨_, pu_build rfl rfl rfl rfl rfl rfl, ?_⟩)
        | ((first | refine RunsL.guard_dec rfl rfl rfl ?_ ?_ | refine RunsL.guard_ndec rfl rfl rfl ?_ ?_ | refine RunsL.guard_nb rfl rfl rfl ?_ ?_ | refine RunsL.guard_b rfl rfl rfl ?_ ?_ | refine RunsD.guard_dec rfl rfl rfl ?_ ?_ | refine RunsD.guard_ndec rfl rfl rfl ?_ ?_ | refine RunsD.guard_nb rfl rfl rfl ?_ ?_ | refine RunsD.guard_b rfl rfl rfl ?_ ?_) <;> intro h <;> try (exfalso; first | omega | contradiction | (simp only [List.length_map] at h; omega))))
      all_goals exact rr_int rfl
  · rw [lim_out hx]
    repeat' (first
      | refine RunsL.step tabOk hn rfl ?_
      | refine RunsL.nil ?_
      | refine Runs.toRegion 30 rfl ?_
      | ((first | refine RunsL.pe hn rfl rfl rfl ?_ | refine RunsD.pe rfl rfl ?_); first
        | refine ⟨_, pu_callR (l1In_ac _ _ _) rfl, ?_⟩)
      | (refine Runs.ctls 30 rfl ?_; first | refine Runs.cond_t rfl ?_ | refine Runs.cond_f rfl ?_ | ((first | refine Runs.cond_yes rfl ?_ ?_ | refine Runs.cond_nno rfl ?_ ?_); · first | omega | rfl | assumption | (simp only [List.length_map]; omega)) | ((first | refine Runs.cond_no rfl ?_ ?_ | refine Runs.cond_nyes rfl ?_ ?_); · first | omega | rfl | assumption | (simp only [List.length_map]; omega)) | refine Runs.cond_dec rfl (fun h => ?_) (fun h => ?_) | refine Runs.cond_ndec rfl (fun h => ?_) (fun h => ?_) | refine Runs.cond_nb rfl (fun h => ?_) (fun h => ?_) | refine Runs.cond_b rfl (fun h => ?_) (fun h => ?_) | refine Runs.ret (ends_ro hm rfl rfl ?_) | exact Runs.ret (ends_cellR hm rfl rfl rfl (Nat.le_of_ble_eq_true rfl) rfl rfl))
      | refine op_box rfl (tl hn rfl) ?_
      | refine op_storeF rfl rfl rfl rfl (Nat.le_of_ble_eq_true rfl) ?_
      | refine op_alloc (tl hn rfl) ?_
      | refine op_storeN rfl rfl rfl rfl (Nat.le_of_ble_eq_true rfl) ?_
      | refine RunsD.step tabOk hn rfl rfl ?_
      | refine RunsD.nil ?_
      | refine Runs.toDraw 30 mixed hn rfl (by kernel_rfl) rfl ?_
      | ((first | refine RunsL.pe hn rfl rfl rfl ?_ | refine RunsD.pe rfl rfl ?_); first
        | refine ⟨_, pu_add rfl rfl (by omega), ?_⟩
        | refine ⟨_, pu_indexAddr_map rfl rfl (by omega) (by assumption), ?_⟩
        | refine ⟨_, pu_sub rfl rfl (by omega), ?_⟩
        | refine ⟨_, pu_pick_b rfl rfl rfl, ?_⟩
        | refine ⟨_, pu_mul rfl rfl (by omega), ?_⟩
        | refine ⟨_, pu_build rfl rfl rfl rfl rfl rfl, ?_⟩)
      | ((first | refine RunsL.guard_dec rfl rfl rfl ?_ ?_ | refine RunsL.guard_ndec rfl rfl rfl ?_ ?_ | refine RunsL.guard_nb rfl rfl rfl ?_ ?_ | refine RunsL.guard_b rfl rfl rfl ?_ ?_ | refine RunsD.guard_dec rfl rfl rfl ?_ ?_ | refine RunsD.guard_ndec rfl rfl rfl ?_ ?_ | refine RunsD.guard_nb rfl rfl rfl ?_ ?_ | refine RunsD.guard_b rfl rfl rfl ?_ ?_) <;> intro h <;> try (exfalso; first | omega | contradiction | (simp only [List.length_map] at h; omega))))
    all_goals exact rr_int rfl
end Go.Proofs.Ytcifgbmmnkilfaa
